/- Texts of the proof, put together: Pd. -/
import Derived.Test.YtiogeggilnhajaaGreatDoorBf
import Derived.Test.YtiogeggilnhajaaGreatDoorBd
set_option maxRecDepth 100000
namespace Go.Proofs
open Go Go.Pl
variable {a0 a1 a2 a3 a4 a5 a6 a7 a8 a9:V} {bx:aa} {Kc:V -> aa -> Prop}
end Go.Proofs

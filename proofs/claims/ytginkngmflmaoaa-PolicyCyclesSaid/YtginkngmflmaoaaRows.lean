/-
  No cell of these rows narrows 'for every input' (looked for: loops, veiled, ifaces, maps, wideKeys, modest, calm, conditions, laid).
  DERIVED. THE GIVEN ROWS OF THIS SEAT. 5 by the template 'for every input the law returns true; each argument reads behind the call as it read before'; 0 by the template 'total and deterministic' (their statements: YtginkngmflmaoaaTotals.lean).
  GIVEN WITH THE SEED: the statements are not yours to turn. If you find one false, say at which input.
  Laid BY PROGRAM, IN A SANDBOX (cutbox-rows.mjs): the forced cells as the released guide's own fill.sh prints them over the translation 65adbf1ac55a9ce8… (all of the seat's roots in one cut). By AI agents, Wed Nov 11 2026. No macro, syntax, notation, axiom, sorry.
-/
import Derived.Test.YtginkngmflmaoaaChecked
import GoSem.Claim
import GoSem.ClaimJoined
import GoSem.ClaimMapViews
import Derived.JoinedTies
import Derived.KernelRfl
namespace Go.Proofs.Ytginkngmflmaoaa
/- THE CELL 'sum', in the pinned program and in every row, IS THE sha256 OF THE DUMP (.gsa) THAT YtginkngmflmaoaaProg.lean LOADS. Nothing in Lean hashes anything: it is a label: what it is worth is what the hold of that sum in a sandbox is worth. -/
noncomputable def Try.pinned : Pinned := { name := "ytginkngmflmaoaa", sum := "65adbf1ac55a9ce8240f43f4767bc5581887bb63d76b99ed9875a4dc79095e96", checked := Try.checked }
namespace Rows
def none {H : Type} : Left H := { results := [], args := [] }

/-- 'spillwaylaw16.PolicyChecks': WHATEVER THE INPUT: true; the input reads as it did. -/
def policyChecksSpec : ChangeSpec := { name := "policyChecks", fn := fun _ => fun
  | [d1, d2, d3] => { results := [.lit (.bool true)], args := [d1, d2, d3] }
  | _ => none }
def policyChecksRow : OpenClaim := { program := "ytginkngmflmaoaa", sum := "65adbf1ac55a9ce8240f43f4767bc5581887bb63d76b99ed9875a4dc79095e96", func := "spillway/spillwaylaw16.PolicyChecks", spec := "policyChecks", unfollowed := true, recurses := true, apart := false }
def PolicyChecksSaid : Prop := policyChecksRow.holds Try.pinned (OpenSpec.ofChange policyChecksSpec)

/-- ITS FALSE NEIGHBOUR: 'it returns false'. Refute it at one input. -/
def policyChecksWrong : ChangeSpec := { name := "policyChecks", fn := fun _ => fun
  | [d1, d2, d3] => { results := [.lit (.bool false)], args := [d1, d2, d3] }
  | _ => none }
def PolicyChecksWrongFalsely : Prop := policyChecksRow.holds Try.pinned (OpenSpec.ofChange policyChecksWrong)

/-- 'spillwaylaw16.PolicyTurns': WHATEVER THE INPUT: true; the input reads as it did. -/
def policyTurnsSpec : ChangeSpec := { name := "policyTurns", fn := fun _ => fun
  | [d1, d2, d3] => { results := [.lit (.bool true)], args := [d1, d2, d3] }
  | _ => none }
def policyTurnsRow : OpenClaim := { program := "ytginkngmflmaoaa", sum := "65adbf1ac55a9ce8240f43f4767bc5581887bb63d76b99ed9875a4dc79095e96", func := "spillway/spillwaylaw16.PolicyTurns", spec := "policyTurns", unfollowed := true, recurses := true, apart := false }
def PolicyTurnsSaid : Prop := policyTurnsRow.holds Try.pinned (OpenSpec.ofChange policyTurnsSpec)

/-- ITS FALSE NEIGHBOUR: 'it returns false'. Refute it at one input. -/
def policyTurnsWrong : ChangeSpec := { name := "policyTurns", fn := fun _ => fun
  | [d1, d2, d3] => { results := [.lit (.bool false)], args := [d1, d2, d3] }
  | _ => none }
def PolicyTurnsWrongFalsely : Prop := policyTurnsRow.holds Try.pinned (OpenSpec.ofChange policyTurnsWrong)

/-- 'spillwaylaw16.PolicyCycles': WHATEVER THE INPUT: true; the input reads as it did. -/
def policyCyclesSpec : ChangeSpec := { name := "policyCycles", fn := fun _ => fun
  | [d] => { results := [.lit (.bool true)], args := [d] }
  | _ => none }
def policyCyclesRow : OpenClaim := { program := "ytginkngmflmaoaa", sum := "65adbf1ac55a9ce8240f43f4767bc5581887bb63d76b99ed9875a4dc79095e96", func := "spillway/spillwaylaw16.PolicyCycles", spec := "policyCycles", unfollowed := true, recurses := true, apart := false }
def PolicyCyclesSaid : Prop := policyCyclesRow.holds Try.pinned (OpenSpec.ofChange policyCyclesSpec)

/-- ITS FALSE NEIGHBOUR: 'it returns false'. Refute it at one input. -/
def policyCyclesWrong : ChangeSpec := { name := "policyCycles", fn := fun _ => fun
  | [d] => { results := [.lit (.bool false)], args := [d] }
  | _ => none }
def PolicyCyclesWrongFalsely : Prop := policyCyclesRow.holds Try.pinned (OpenSpec.ofChange policyCyclesWrong)

/-- 'spillwaylaw16.PolicySteady': WHATEVER THE INPUT: true; the input reads as it did. -/
def policySteadySpec : ChangeSpec := { name := "policySteady", fn := fun _ => fun
  | [d1, d2, d3] => { results := [.lit (.bool true)], args := [d1, d2, d3] }
  | _ => none }
def policySteadyRow : OpenClaim := { program := "ytginkngmflmaoaa", sum := "65adbf1ac55a9ce8240f43f4767bc5581887bb63d76b99ed9875a4dc79095e96", func := "spillway/spillwaylaw16.PolicySteady", spec := "policySteady", unfollowed := true, recurses := true, apart := false }
def PolicySteadySaid : Prop := policySteadyRow.holds Try.pinned (OpenSpec.ofChange policySteadySpec)

/-- ITS FALSE NEIGHBOUR: 'it returns false'. Refute it at one input. -/
def policySteadyWrong : ChangeSpec := { name := "policySteady", fn := fun _ => fun
  | [d1, d2, d3] => { results := [.lit (.bool false)], args := [d1, d2, d3] }
  | _ => none }
def PolicySteadyWrongFalsely : Prop := policySteadyRow.holds Try.pinned (OpenSpec.ofChange policySteadyWrong)

/-- 'spillwaylaw16.PolicyBest': WHATEVER THE INPUT: true; the input reads as it did. -/
def policyBestSpec : ChangeSpec := { name := "policyBest", fn := fun _ => fun
  | [d1, d2, d3] => { results := [.lit (.bool true)], args := [d1, d2, d3] }
  | _ => none }
def policyBestRow : OpenClaim := { program := "ytginkngmflmaoaa", sum := "65adbf1ac55a9ce8240f43f4767bc5581887bb63d76b99ed9875a4dc79095e96", func := "spillway/spillwaylaw16.PolicyBest", spec := "policyBest", unfollowed := true, recurses := true, apart := false }
def PolicyBestSaid : Prop := policyBestRow.holds Try.pinned (OpenSpec.ofChange policyBestSpec)

/-- ITS FALSE NEIGHBOUR: 'it returns false'. Refute it at one input. -/
def policyBestWrong : ChangeSpec := { name := "policyBest", fn := fun _ => fun
  | [d1, d2, d3] => { results := [.lit (.bool false)], args := [d1, d2, d3] }
  | _ => none }
def PolicyBestWrongFalsely : Prop := policyBestRow.holds Try.pinned (OpenSpec.ofChange policyBestWrong)

/- THE SECOND FORM. 'bulk': how many values and letters a reading holds, each counted each time it is reached (what is shared counts as often as it is met; a slice's spare places count too). A statement '..UptoSaid' is the law's where the arguments, and the package variables that the reading takes, are together of bulk at most 1048576: NARROWER than '..Said'. Prove '..Said' where nothing that the law and all that it calls make is longer than what came in: it says more and counts as full. Else prove '..UptoSaid'. A law counts once. -/
mutual
def uptoBulk {H : Type} : DataW H → Nat
  | .lit (.string bytes) => bytes.length + 1
  | .lit _ => 1
  | .nil => 1
  | .ptr d => uptoBulk d + 1
  | .slice elems spare => uptoBulkAll elems + uptoBulkAll spare + 1
  | .agg parts => uptoBulkAll parts + 1
  | .iface _ d => uptoBulk d + 1
  | .map entries => uptoBulkEntries entries + 1
  | .held _ => 1
def uptoBulkAll {H : Type} : List (DataW H) → Nat
  | [] => 0
  | d :: r => uptoBulk d + uptoBulkAll r
def uptoBulkEntries {H : Type} : List (Lit × DataW H) → Nat
  | [] => 0
  | x :: r => uptoBulkEntry x + uptoBulkEntries r
def uptoBulkEntry {H : Type} : Lit × DataW H → Nat
  | (.string bytes, d) => bytes.length + uptoBulk d + 1
  | (_, d) => uptoBulk d + 1
 end
def uptoSmall : (H : Type) → List (DataW H) → Bool := fun _ ds => decide (uptoBulkAll ds ≤ 1048576)
def OpenSpec.upto (s : _root_.Go.ChangeSpec) : _root_.Go.OpenSpec := { _root_.Go.OpenSpec.ofChange s with cond := some uptoSmall }

/-- 'spillwaylaw16.PolicyChecks', WHERE WHAT IT READS IS OF BULK AT MOST 1048576: true; the input reads as it did. -/
def policyChecksUptoRow : OpenClaim := { program := "ytginkngmflmaoaa", sum := "65adbf1ac55a9ce8240f43f4767bc5581887bb63d76b99ed9875a4dc79095e96", func := "spillway/spillwaylaw16.PolicyChecks", spec := "policyChecks", unfollowed := true, recurses := true, apart := false, narrowed := true }
def PolicyChecksUptoSaid : Prop := policyChecksUptoRow.holds Try.pinned (OpenSpec.upto policyChecksSpec)

/-- 'spillwaylaw16.PolicyTurns', WHERE WHAT IT READS IS OF BULK AT MOST 1048576: true; the input reads as it did. -/
def policyTurnsUptoRow : OpenClaim := { program := "ytginkngmflmaoaa", sum := "65adbf1ac55a9ce8240f43f4767bc5581887bb63d76b99ed9875a4dc79095e96", func := "spillway/spillwaylaw16.PolicyTurns", spec := "policyTurns", unfollowed := true, recurses := true, apart := false, narrowed := true }
def PolicyTurnsUptoSaid : Prop := policyTurnsUptoRow.holds Try.pinned (OpenSpec.upto policyTurnsSpec)

/-- 'spillwaylaw16.PolicyCycles', WHERE WHAT IT READS IS OF BULK AT MOST 1048576: true; the input reads as it did. -/
def policyCyclesUptoRow : OpenClaim := { program := "ytginkngmflmaoaa", sum := "65adbf1ac55a9ce8240f43f4767bc5581887bb63d76b99ed9875a4dc79095e96", func := "spillway/spillwaylaw16.PolicyCycles", spec := "policyCycles", unfollowed := true, recurses := true, apart := false, narrowed := true }
def PolicyCyclesUptoSaid : Prop := policyCyclesUptoRow.holds Try.pinned (OpenSpec.upto policyCyclesSpec)

/-- 'spillwaylaw16.PolicySteady', WHERE WHAT IT READS IS OF BULK AT MOST 1048576: true; the input reads as it did. -/
def policySteadyUptoRow : OpenClaim := { program := "ytginkngmflmaoaa", sum := "65adbf1ac55a9ce8240f43f4767bc5581887bb63d76b99ed9875a4dc79095e96", func := "spillway/spillwaylaw16.PolicySteady", spec := "policySteady", unfollowed := true, recurses := true, apart := false, narrowed := true }
def PolicySteadyUptoSaid : Prop := policySteadyUptoRow.holds Try.pinned (OpenSpec.upto policySteadySpec)

/-- 'spillwaylaw16.PolicyBest', WHERE WHAT IT READS IS OF BULK AT MOST 1048576: true; the input reads as it did. -/
def policyBestUptoRow : OpenClaim := { program := "ytginkngmflmaoaa", sum := "65adbf1ac55a9ce8240f43f4767bc5581887bb63d76b99ed9875a4dc79095e96", func := "spillway/spillwaylaw16.PolicyBest", spec := "policyBest", unfollowed := true, recurses := true, apart := false, narrowed := true }
def PolicyBestUptoSaid : Prop := policyBestUptoRow.holds Try.pinned (OpenSpec.upto policyBestSpec)

end Rows
end Go.Proofs.Ytginkngmflmaoaa

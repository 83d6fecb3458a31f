/-
  No cell of these rows narrows 'for every input' (looked for: loops, veiled, ifaces, maps, wideKeys, modest, calm, conditions, laid).
  DERIVED. THE GIVEN ROWS OF THIS SEAT. 7 by the template 'for every input the law returns true; each argument reads behind the call as it read before'; 0 by the template 'total and deterministic' (their statements: YtejcmkefemhpkaaTotals.lean).
  GIVEN WITH THE SEED: the statements are not yours to turn. If you find one false, say at which input.
  Laid BY PROGRAM, IN A SANDBOX (cutbox-rows.mjs): the forced cells as the released guide's own fill.sh prints them over the translation 7390804f8a515288… (all of the seat's roots in one cut). By AI agents, Wed Nov 11 2026. No macro, syntax, notation, axiom, sorry.
-/
import Derived.Test.YtejcmkefemhpkaaChecked
import GoSem.Claim
import GoSem.ClaimJoined
import GoSem.ClaimMapViews
import Derived.JoinedTies
import Derived.KernelRfl
namespace Go.Proofs.Ytejcmkefemhpkaa
/- THE CELL 'sum', in the pinned program and in every row, IS THE sha256 OF THE DUMP (.gsa) THAT YtejcmkefemhpkaaProg.lean LOADS. Nothing in Lean hashes anything: it is a label: what it is worth is what the hold of that sum in a sandbox is worth. -/
noncomputable def Try.pinned : Pinned := { name := "ytejcmkefemhpkaa", sum := "7390804f8a5152888dc1ef5f106d82cc2225285f0eefbb701d59365b63c83228", checked := Try.checked }
namespace Rows
def none {H : Type} : Left H := { results := [], args := [] }

/-- 'spillwaylaw04.ClockFires': WHATEVER THE INPUT: true; the input reads as it did. -/
def clockFiresSpec : ChangeSpec := { name := "clockFires", fn := fun _ => fun
  | [d1, d2] => { results := [.lit (.bool true)], args := [d1, d2] }
  | _ => none }
def clockFiresRow : OpenClaim := { program := "ytejcmkefemhpkaa", sum := "7390804f8a5152888dc1ef5f106d82cc2225285f0eefbb701d59365b63c83228", func := "spillway/spillwaylaw04.ClockFires", spec := "clockFires", inPlace := ["slices.overlaps[spillway/api.CkTimer]"], unfollowed := true, recurses := true, apart := false }
def ClockFiresSaid : Prop := clockFiresRow.holds Try.pinned (OpenSpec.ofChange clockFiresSpec)

/-- ITS FALSE NEIGHBOUR: 'it returns false'. Refute it at one input. -/
def clockFiresWrong : ChangeSpec := { name := "clockFires", fn := fun _ => fun
  | [d1, d2] => { results := [.lit (.bool false)], args := [d1, d2] }
  | _ => none }
def ClockFiresWrongFalsely : Prop := clockFiresRow.holds Try.pinned (OpenSpec.ofChange clockFiresWrong)

/-- 'spillwaylaw04.ClockDue': WHATEVER THE INPUT: true; the input reads as it did. -/
def clockDueSpec : ChangeSpec := { name := "clockDue", fn := fun _ => fun
  | [d1, d2] => { results := [.lit (.bool true)], args := [d1, d2] }
  | _ => none }
def clockDueRow : OpenClaim := { program := "ytejcmkefemhpkaa", sum := "7390804f8a5152888dc1ef5f106d82cc2225285f0eefbb701d59365b63c83228", func := "spillway/spillwaylaw04.ClockDue", spec := "clockDue", inPlace := ["slices.overlaps[spillway/api.CkTimer]"], unfollowed := true, recurses := true, apart := false }
def ClockDueSaid : Prop := clockDueRow.holds Try.pinned (OpenSpec.ofChange clockDueSpec)

/-- ITS FALSE NEIGHBOUR: 'it returns false'. Refute it at one input. -/
def clockDueWrong : ChangeSpec := { name := "clockDue", fn := fun _ => fun
  | [d1, d2] => { results := [.lit (.bool false)], args := [d1, d2] }
  | _ => none }
def ClockDueWrongFalsely : Prop := clockDueRow.holds Try.pinned (OpenSpec.ofChange clockDueWrong)

/-- 'spillwaylaw04.ClockScopes': WHATEVER THE INPUT: true; the input reads as it did. -/
def clockScopesSpec : ChangeSpec := { name := "clockScopes", fn := fun _ => fun
  | [d1, d2] => { results := [.lit (.bool true)], args := [d1, d2] }
  | _ => none }
def clockScopesRow : OpenClaim := { program := "ytejcmkefemhpkaa", sum := "7390804f8a5152888dc1ef5f106d82cc2225285f0eefbb701d59365b63c83228", func := "spillway/spillwaylaw04.ClockScopes", spec := "clockScopes", inPlace := ["slices.overlaps[spillway/api.CkTimer]"], unfollowed := true, recurses := true, apart := false }
def ClockScopesSaid : Prop := clockScopesRow.holds Try.pinned (OpenSpec.ofChange clockScopesSpec)

/-- ITS FALSE NEIGHBOUR: 'it returns false'. Refute it at one input. -/
def clockScopesWrong : ChangeSpec := { name := "clockScopes", fn := fun _ => fun
  | [d1, d2] => { results := [.lit (.bool false)], args := [d1, d2] }
  | _ => none }
def ClockScopesWrongFalsely : Prop := clockScopesRow.holds Try.pinned (OpenSpec.ofChange clockScopesWrong)

/-- 'spillwaylaw04.ClockKnown': WHATEVER THE INPUT: true; the input reads as it did. -/
def clockKnownSpec : ChangeSpec := { name := "clockKnown", fn := fun _ => fun
  | [] => { results := [.lit (.bool true)], args := [] }
  | _ => none }
def clockKnownRow : OpenClaim := { program := "ytejcmkefemhpkaa", sum := "7390804f8a5152888dc1ef5f106d82cc2225285f0eefbb701d59365b63c83228", func := "spillway/spillwaylaw04.ClockKnown", spec := "clockKnown", inPlace := ["slices.overlaps[spillway/api.CkTimer]"], unfollowed := true, recurses := true, apart := false }
def ClockKnownSaid : Prop := clockKnownRow.holds Try.pinned (OpenSpec.ofChange clockKnownSpec)

/-- ITS FALSE NEIGHBOUR: 'it returns false'. Refute it at one input. -/
def clockKnownWrong : ChangeSpec := { name := "clockKnown", fn := fun _ => fun
  | [] => { results := [.lit (.bool false)], args := [] }
  | _ => none }
def ClockKnownWrongFalsely : Prop := clockKnownRow.holds Try.pinned (OpenSpec.ofChange clockKnownWrong)

/-- 'spillwaylaw04.ClockUndo': WHATEVER THE INPUT: true; the input reads as it did. -/
def clockUndoSpec : ChangeSpec := { name := "clockUndo", fn := fun _ => fun
  | [d1, d2] => { results := [.lit (.bool true)], args := [d1, d2] }
  | _ => none }
def clockUndoRow : OpenClaim := { program := "ytejcmkefemhpkaa", sum := "7390804f8a5152888dc1ef5f106d82cc2225285f0eefbb701d59365b63c83228", func := "spillway/spillwaylaw04.ClockUndo", spec := "clockUndo", inPlace := ["slices.overlaps[spillway/api.CkTimer]"], unfollowed := true, recurses := true, apart := false }
def ClockUndoSaid : Prop := clockUndoRow.holds Try.pinned (OpenSpec.ofChange clockUndoSpec)

/-- ITS FALSE NEIGHBOUR: 'it returns false'. Refute it at one input. -/
def clockUndoWrong : ChangeSpec := { name := "clockUndo", fn := fun _ => fun
  | [d1, d2] => { results := [.lit (.bool false)], args := [d1, d2] }
  | _ => none }
def ClockUndoWrongFalsely : Prop := clockUndoRow.holds Try.pinned (OpenSpec.ofChange clockUndoWrong)

/-- 'spillwaylaw04.ClockPlays': WHATEVER THE INPUT: true; the input reads as it did. -/
def clockPlaysSpec : ChangeSpec := { name := "clockPlays", fn := fun _ => fun
  | [d1, d2] => { results := [.lit (.bool true)], args := [d1, d2] }
  | _ => none }
def clockPlaysRow : OpenClaim := { program := "ytejcmkefemhpkaa", sum := "7390804f8a5152888dc1ef5f106d82cc2225285f0eefbb701d59365b63c83228", func := "spillway/spillwaylaw04.ClockPlays", spec := "clockPlays", inPlace := ["slices.overlaps[spillway/api.CkTimer]"], unfollowed := true, recurses := true, apart := false }
def ClockPlaysSaid : Prop := clockPlaysRow.holds Try.pinned (OpenSpec.ofChange clockPlaysSpec)

/-- ITS FALSE NEIGHBOUR: 'it returns false'. Refute it at one input. -/
def clockPlaysWrong : ChangeSpec := { name := "clockPlays", fn := fun _ => fun
  | [d1, d2] => { results := [.lit (.bool false)], args := [d1, d2] }
  | _ => none }
def ClockPlaysWrongFalsely : Prop := clockPlaysRow.holds Try.pinned (OpenSpec.ofChange clockPlaysWrong)

/-- 'spillwaylaw04.ClockStates': WHATEVER THE INPUT: true; the input reads as it did. -/
def clockStatesSpec : ChangeSpec := { name := "clockStates", fn := fun _ => fun
  | [d1, d2] => { results := [.lit (.bool true)], args := [d1, d2] }
  | _ => none }
def clockStatesRow : OpenClaim := { program := "ytejcmkefemhpkaa", sum := "7390804f8a5152888dc1ef5f106d82cc2225285f0eefbb701d59365b63c83228", func := "spillway/spillwaylaw04.ClockStates", spec := "clockStates", inPlace := ["slices.overlaps[spillway/api.CkTimer]"], unfollowed := true, recurses := true, apart := false }
def ClockStatesSaid : Prop := clockStatesRow.holds Try.pinned (OpenSpec.ofChange clockStatesSpec)

/-- ITS FALSE NEIGHBOUR: 'it returns false'. Refute it at one input. -/
def clockStatesWrong : ChangeSpec := { name := "clockStates", fn := fun _ => fun
  | [d1, d2] => { results := [.lit (.bool false)], args := [d1, d2] }
  | _ => none }
def ClockStatesWrongFalsely : Prop := clockStatesRow.holds Try.pinned (OpenSpec.ofChange clockStatesWrong)

/- THE SECOND FORM. 'bulk': how many values and letters a reading holds, each counted each time it is reached (what is shared counts as often as it is met; a slice's spare places count too). A statement '..UptoSaid' is the law's where the arguments, and the package variables that the reading takes, are together of bulk at most 1048576: NARROWER than '..Said'. Prove '..Said' where nothing that the law and all that it calls make is longer than what came in: it says more and counts as full. Else prove '..UptoSaid'. A law counts once. -/
mutual
def uptoBulk {H : Type} : DataW H → Nat
  | .lit (.string bytes) => bytes.length + 1
  | .lit _ => 1
  | .nil => 1
  | .ptr d => uptoBulk d + 1
  | .slice elems spare => uptoBulkAll elems + uptoBulkAll spare + 1
  | .agg parts => uptoBulkAll parts + 1
  | .iface _ d => uptoBulk d + 1
  | .map entries => uptoBulkEntries entries + 1
  | .held _ => 1
def uptoBulkAll {H : Type} : List (DataW H) → Nat
  | [] => 0
  | d :: r => uptoBulk d + uptoBulkAll r
def uptoBulkEntries {H : Type} : List (Lit × DataW H) → Nat
  | [] => 0
  | x :: r => uptoBulkEntry x + uptoBulkEntries r
def uptoBulkEntry {H : Type} : Lit × DataW H → Nat
  | (.string bytes, d) => bytes.length + uptoBulk d + 1
  | (_, d) => uptoBulk d + 1
 end
def uptoSmall : (H : Type) → List (DataW H) → Bool := fun _ ds => decide (uptoBulkAll ds ≤ 1048576)
def OpenSpec.upto (s : _root_.Go.ChangeSpec) : _root_.Go.OpenSpec := { _root_.Go.OpenSpec.ofChange s with cond := some uptoSmall }

/-- 'spillwaylaw04.ClockFires', WHERE WHAT IT READS IS OF BULK AT MOST 1048576: true; the input reads as it did. -/
def clockFiresUptoRow : OpenClaim := { program := "ytejcmkefemhpkaa", sum := "7390804f8a5152888dc1ef5f106d82cc2225285f0eefbb701d59365b63c83228", func := "spillway/spillwaylaw04.ClockFires", spec := "clockFires", inPlace := ["slices.overlaps[spillway/api.CkTimer]"], unfollowed := true, recurses := true, apart := false, narrowed := true }
def ClockFiresUptoSaid : Prop := clockFiresUptoRow.holds Try.pinned (OpenSpec.upto clockFiresSpec)

/-- 'spillwaylaw04.ClockDue', WHERE WHAT IT READS IS OF BULK AT MOST 1048576: true; the input reads as it did. -/
def clockDueUptoRow : OpenClaim := { program := "ytejcmkefemhpkaa", sum := "7390804f8a5152888dc1ef5f106d82cc2225285f0eefbb701d59365b63c83228", func := "spillway/spillwaylaw04.ClockDue", spec := "clockDue", inPlace := ["slices.overlaps[spillway/api.CkTimer]"], unfollowed := true, recurses := true, apart := false, narrowed := true }
def ClockDueUptoSaid : Prop := clockDueUptoRow.holds Try.pinned (OpenSpec.upto clockDueSpec)

/-- 'spillwaylaw04.ClockScopes', WHERE WHAT IT READS IS OF BULK AT MOST 1048576: true; the input reads as it did. -/
def clockScopesUptoRow : OpenClaim := { program := "ytejcmkefemhpkaa", sum := "7390804f8a5152888dc1ef5f106d82cc2225285f0eefbb701d59365b63c83228", func := "spillway/spillwaylaw04.ClockScopes", spec := "clockScopes", inPlace := ["slices.overlaps[spillway/api.CkTimer]"], unfollowed := true, recurses := true, apart := false, narrowed := true }
def ClockScopesUptoSaid : Prop := clockScopesUptoRow.holds Try.pinned (OpenSpec.upto clockScopesSpec)

/-- 'spillwaylaw04.ClockKnown', WHERE WHAT IT READS IS OF BULK AT MOST 1048576: true; the input reads as it did. -/
def clockKnownUptoRow : OpenClaim := { program := "ytejcmkefemhpkaa", sum := "7390804f8a5152888dc1ef5f106d82cc2225285f0eefbb701d59365b63c83228", func := "spillway/spillwaylaw04.ClockKnown", spec := "clockKnown", inPlace := ["slices.overlaps[spillway/api.CkTimer]"], unfollowed := true, recurses := true, apart := false, narrowed := true }
def ClockKnownUptoSaid : Prop := clockKnownUptoRow.holds Try.pinned (OpenSpec.upto clockKnownSpec)

/-- 'spillwaylaw04.ClockUndo', WHERE WHAT IT READS IS OF BULK AT MOST 1048576: true; the input reads as it did. -/
def clockUndoUptoRow : OpenClaim := { program := "ytejcmkefemhpkaa", sum := "7390804f8a5152888dc1ef5f106d82cc2225285f0eefbb701d59365b63c83228", func := "spillway/spillwaylaw04.ClockUndo", spec := "clockUndo", inPlace := ["slices.overlaps[spillway/api.CkTimer]"], unfollowed := true, recurses := true, apart := false, narrowed := true }
def ClockUndoUptoSaid : Prop := clockUndoUptoRow.holds Try.pinned (OpenSpec.upto clockUndoSpec)

/-- 'spillwaylaw04.ClockPlays', WHERE WHAT IT READS IS OF BULK AT MOST 1048576: true; the input reads as it did. -/
def clockPlaysUptoRow : OpenClaim := { program := "ytejcmkefemhpkaa", sum := "7390804f8a5152888dc1ef5f106d82cc2225285f0eefbb701d59365b63c83228", func := "spillway/spillwaylaw04.ClockPlays", spec := "clockPlays", inPlace := ["slices.overlaps[spillway/api.CkTimer]"], unfollowed := true, recurses := true, apart := false, narrowed := true }
def ClockPlaysUptoSaid : Prop := clockPlaysUptoRow.holds Try.pinned (OpenSpec.upto clockPlaysSpec)

/-- 'spillwaylaw04.ClockStates', WHERE WHAT IT READS IS OF BULK AT MOST 1048576: true; the input reads as it did. -/
def clockStatesUptoRow : OpenClaim := { program := "ytejcmkefemhpkaa", sum := "7390804f8a5152888dc1ef5f106d82cc2225285f0eefbb701d59365b63c83228", func := "spillway/spillwaylaw04.ClockStates", spec := "clockStates", inPlace := ["slices.overlaps[spillway/api.CkTimer]"], unfollowed := true, recurses := true, apart := false, narrowed := true }
def ClockStatesUptoSaid : Prop := clockStatesUptoRow.holds Try.pinned (OpenSpec.upto clockStatesSpec)

end Rows
end Go.Proofs.Ytejcmkefemhpkaa

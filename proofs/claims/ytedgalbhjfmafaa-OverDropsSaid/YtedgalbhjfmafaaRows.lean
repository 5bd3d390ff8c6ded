/-
  No cell of these rows narrows 'for every input' (looked for: loops, veiled, ifaces, maps, wideKeys, modest, calm, conditions, laid).
  DERIVED. THE GIVEN ROWS OF THIS SEAT. 3 by the template 'for every input the law returns true; each argument reads behind the call as it read before'; 0 by the template 'total and deterministic' (their statements: YtedgalbhjfmafaaTotals.lean).
  GIVEN WITH THE SEED: the statements are not yours to turn. If you find one false, say at which input.
  Laid BY PROGRAM, IN A SANDBOX (cutbox-rows.mjs): the forced cells as the released guide's own fill.sh prints them over the translation afea03b552eb66f3… (all of the seat's roots in one cut). By AI agents, Wed Nov 11 2026. No macro, syntax, notation, axiom, sorry.
-/
import Derived.Test.YtedgalbhjfmafaaChecked
import GoSem.Claim
import GoSem.ClaimJoined
import GoSem.ClaimMapViews
import Derived.JoinedTies
import Derived.KernelRfl
namespace Go.Proofs.Ytedgalbhjfmafaa
/- THE CELL 'sum', in the pinned program and in every row, IS THE sha256 OF THE DUMP (.gsa) THAT YtedgalbhjfmafaaProg.lean LOADS. Nothing in Lean hashes anything: it is a label: what it is worth is what the hold of that sum in a sandbox is worth. -/
noncomputable def Try.pinned : Pinned := { name := "ytedgalbhjfmafaa", sum := "afea03b552eb66f3c5b59299e7dfe2366e15cb9574399989598d4e31f0b9acd6", checked := Try.checked }
namespace Rows
def none {H : Type} : Left H := { results := [], args := [] }

/-- 'casematelaw19.OverExact': WHATEVER THE INPUT: true; the input reads as it did. -/
def overExactSpec : ChangeSpec := { name := "overExact", fn := fun _ => fun
  | [d1, d2, d3, d4] => { results := [.lit (.bool true)], args := [d1, d2, d3, d4] }
  | _ => none }
def overExactRow : OpenClaim := { program := "ytedgalbhjfmafaa", sum := "afea03b552eb66f3c5b59299e7dfe2366e15cb9574399989598d4e31f0b9acd6", func := "casemate/casematelaw19.OverExact", spec := "overExact", unfollowed := true, recurses := true, apart := false }
def OverExactSaid : Prop := overExactRow.holds Try.pinned (OpenSpec.ofChange overExactSpec)

/-- ITS FALSE NEIGHBOUR: 'it returns false'. Refute it at one input. -/
def overExactWrong : ChangeSpec := { name := "overExact", fn := fun _ => fun
  | [d1, d2, d3, d4] => { results := [.lit (.bool false)], args := [d1, d2, d3, d4] }
  | _ => none }
def OverExactWrongFalsely : Prop := overExactRow.holds Try.pinned (OpenSpec.ofChange overExactWrong)

/-- 'casematelaw19.OverLast': WHATEVER THE INPUT: true; the input reads as it did. -/
def overLastSpec : ChangeSpec := { name := "overLast", fn := fun _ => fun
  | [d1, d2, d3, d4] => { results := [.lit (.bool true)], args := [d1, d2, d3, d4] }
  | _ => none }
def overLastRow : OpenClaim := { program := "ytedgalbhjfmafaa", sum := "afea03b552eb66f3c5b59299e7dfe2366e15cb9574399989598d4e31f0b9acd6", func := "casemate/casematelaw19.OverLast", spec := "overLast", unfollowed := true, recurses := true, apart := false }
def OverLastSaid : Prop := overLastRow.holds Try.pinned (OpenSpec.ofChange overLastSpec)

/-- ITS FALSE NEIGHBOUR: 'it returns false'. Refute it at one input. -/
def overLastWrong : ChangeSpec := { name := "overLast", fn := fun _ => fun
  | [d1, d2, d3, d4] => { results := [.lit (.bool false)], args := [d1, d2, d3, d4] }
  | _ => none }
def OverLastWrongFalsely : Prop := overLastRow.holds Try.pinned (OpenSpec.ofChange overLastWrong)

/-- 'casematelaw19.OverDrops': WHATEVER THE INPUT: true; the input reads as it did. -/
def overDropsSpec : ChangeSpec := { name := "overDrops", fn := fun _ => fun
  | [d1, d2, d3, d4, d5, d6] => { results := [.lit (.bool true)], args := [d1, d2, d3, d4, d5, d6] }
  | _ => none }
def overDropsRow : OpenClaim := { program := "ytedgalbhjfmafaa", sum := "afea03b552eb66f3c5b59299e7dfe2366e15cb9574399989598d4e31f0b9acd6", func := "casemate/casematelaw19.OverDrops", spec := "overDrops", unfollowed := true, recurses := true, apart := false }
def OverDropsSaid : Prop := overDropsRow.holds Try.pinned (OpenSpec.ofChange overDropsSpec)

/-- ITS FALSE NEIGHBOUR: 'it returns false'. Refute it at one input. -/
def overDropsWrong : ChangeSpec := { name := "overDrops", fn := fun _ => fun
  | [d1, d2, d3, d4, d5, d6] => { results := [.lit (.bool false)], args := [d1, d2, d3, d4, d5, d6] }
  | _ => none }
def OverDropsWrongFalsely : Prop := overDropsRow.holds Try.pinned (OpenSpec.ofChange overDropsWrong)

/- THE SECOND FORM. 'bulk': how many values and letters a reading holds, each counted each time it is reached (what is shared counts as often as it is met; a slice's spare places count too). A statement '..UptoSaid' is the law's where the arguments, and the package variables that the reading takes, are together of bulk at most 1048576: NARROWER than '..Said'. Prove '..Said' where nothing that the law and all that it calls make is longer than what came in: it says more and counts as full. Else prove '..UptoSaid'. A law counts once. -/
mutual
def uptoBulk {H : Type} : DataW H → Nat
  | .lit (.string bytes) => bytes.length + 1
  | .lit _ => 1
  | .nil => 1
  | .ptr d => uptoBulk d + 1
  | .slice elems spare => uptoBulkAll elems + uptoBulkAll spare + 1
  | .agg parts => uptoBulkAll parts + 1
  | .iface _ d => uptoBulk d + 1
  | .map entries => uptoBulkEntries entries + 1
  | .held _ => 1
def uptoBulkAll {H : Type} : List (DataW H) → Nat
  | [] => 0
  | d :: r => uptoBulk d + uptoBulkAll r
def uptoBulkEntries {H : Type} : List (Lit × DataW H) → Nat
  | [] => 0
  | x :: r => uptoBulkEntry x + uptoBulkEntries r
def uptoBulkEntry {H : Type} : Lit × DataW H → Nat
  | (.string bytes, d) => bytes.length + uptoBulk d + 1
  | (_, d) => uptoBulk d + 1
 end
def uptoSmall : (H : Type) → List (DataW H) → Bool := fun _ ds => decide (uptoBulkAll ds ≤ 1048576)
def OpenSpec.upto (s : _root_.Go.ChangeSpec) : _root_.Go.OpenSpec := { _root_.Go.OpenSpec.ofChange s with cond := some uptoSmall }

/-- 'casematelaw19.OverExact', WHERE WHAT IT READS IS OF BULK AT MOST 1048576: true; the input reads as it did. -/
def overExactUptoRow : OpenClaim := { program := "ytedgalbhjfmafaa", sum := "afea03b552eb66f3c5b59299e7dfe2366e15cb9574399989598d4e31f0b9acd6", func := "casemate/casematelaw19.OverExact", spec := "overExact", unfollowed := true, recurses := true, apart := false, narrowed := true }
def OverExactUptoSaid : Prop := overExactUptoRow.holds Try.pinned (OpenSpec.upto overExactSpec)

/-- 'casematelaw19.OverLast', WHERE WHAT IT READS IS OF BULK AT MOST 1048576: true; the input reads as it did. -/
def overLastUptoRow : OpenClaim := { program := "ytedgalbhjfmafaa", sum := "afea03b552eb66f3c5b59299e7dfe2366e15cb9574399989598d4e31f0b9acd6", func := "casemate/casematelaw19.OverLast", spec := "overLast", unfollowed := true, recurses := true, apart := false, narrowed := true }
def OverLastUptoSaid : Prop := overLastUptoRow.holds Try.pinned (OpenSpec.upto overLastSpec)

/-- 'casematelaw19.OverDrops', WHERE WHAT IT READS IS OF BULK AT MOST 1048576: true; the input reads as it did. -/
def overDropsUptoRow : OpenClaim := { program := "ytedgalbhjfmafaa", sum := "afea03b552eb66f3c5b59299e7dfe2366e15cb9574399989598d4e31f0b9acd6", func := "casemate/casematelaw19.OverDrops", spec := "overDrops", unfollowed := true, recurses := true, apart := false, narrowed := true }
def OverDropsUptoSaid : Prop := overDropsUptoRow.holds Try.pinned (OpenSpec.upto overDropsSpec)

end Rows
end Go.Proofs.Ytedgalbhjfmafaa

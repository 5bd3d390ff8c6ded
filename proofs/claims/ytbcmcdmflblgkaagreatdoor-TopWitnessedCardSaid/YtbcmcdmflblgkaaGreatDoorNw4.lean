/-
  Nw2: label.Check at "t".
  Nw3: label.Check's contract as the evaluator's own rule has it.
  Nw4: label.Bytes at "t".
-/
import Derived.Test.YtbcmcdmflblgkaaGreatDoorProg
import Derived.WalkKit
import Derived.ProofKit
import Derived.WalkSpells
import Derived.WalkLawsBesides
import Derived.Below
import Derived.LoopN
import Derived.LoopTactic
import Derived.Laws.RangeString
import Derived.Test.YtbcmcdmflblgkaaGreatDoorNw1
import Derived.Laws.Append
import Derived.Laws.AppendOwn
namespace Go.Proofs.YtbcmcdmflblgkaaGreatDoor
open Go.ChangeShapes Go.WideShapes Go.ChangeAt Go.RowKit
set_option linter.unusedVariables false
def tText : ByteArray := ⟨#[116]⟩
theorem next0 (w : World) (ty : TypeId) : (Instr.next (.pointer (some ⟨w.heap.size, 0, none⟩)) true ty).run Tryz.prog (w.iter tText 0) = .ok (.tuple #[.bool true, .int .i64 0, .int .i32 116]) (w.iter tText 1) := run_next_ascii w tText 0 ty (by decide) (by decide)
theorem next1 (w : World) (ty : TypeId) : (Instr.next (.pointer (some ⟨w.heap.size, 0, none⟩)) true ty).run Tryz.prog (w.iter tText 1) = .ok (.tuple #[.bool false]) (w.iter tText 1) := run_next_end w tText 1 ty (by decide)
theorem runes_t (w : World) : Calls Tryz.prog 177 #[.string tText] w fun e w' => e = .returned (.int .i64 1) ∧ w' = w.iter tText 1 := by
  have h0 := next0 w
  have h1 := next1 w
  go_enter Tryz.func177, Tryz.ntmps177
  go_wp2
  refine wp_loop_rounds 3 ?_
  simp only [Code.rounds]
  go_wp2
  go_ret
  exact ⟨rfl, rfl⟩
set_option maxRecDepth 100000 in
theorem valid_t (w : World) : Calls Tryz.prog 248 #[.string tText] w fun e w' => e = .returned (.bool true) ∧ w' = w := by
  go_enter Tryz.func248, Tryz.ntmps248
  go_wp2
  refine wp_loop_rounds 3 ?_
  simp only [Code.rounds]
  go_wp2
  go_ret
  exact ⟨rfl, rfl⟩
theorem right_t (w : World) : Calls Tryz.prog 176 #[.string tText] w fun e w' => e = .returned (.bool true) ∧ w' = w.iter tText 1 := by
  have h0 := next0 w
  have h1 := next1 w
  go_enter Tryz.func176, Tryz.ntmps176
  go_wp2
  refine wp_loop_rounds 3 ?_
  simp only [Code.rounds]
  go_wp2_with (go_at_call 248; refine (valid_t _).mono ?_; rintro e w' ⟨rfl, rfl⟩)
  go_ret
  exact ⟨rfl, rfl⟩
theorem check_t (w : World) : Calls Tryz.prog 114 #[.string tText] w fun e w' => e = .returned (.int .i64 0) ∧ w' = (w.iter tText 1).iter tText 1 := by
  go_enter Tryz.func114, Tryz.ntmps114
  go_wp2_with (first
    | (go_at_call 176; refine (right_t _).mono ?_; rintro e w' ⟨rfl, rfl⟩)
    | (go_at_call 177; refine (runes_t _).mono ?_; rintro e w' ⟨rfl, rfl⟩))
  go_ret
  exact ⟨rfl, rfl⟩
end Go.Proofs.YtbcmcdmflblgkaaGreatDoor

namespace Go.Proofs.YtbcmcdmflblgkaaGreatDoor
namespace Ev
open Go.RowKit
set_option linter.unusedVariables false
set_option linter.unusedSectionVars false
variable [bs : Base]
/-- an object that the evaluator knows nothing of -/
theorem WR.aside {ρ : Rho} {h : H} {w : World} (hw : WR ρ h w) (o : Obj) : WR ρ h (w.alloc o) := by
  refine ⟨fun b cs hb B s L hr => ?_, hw.inj, hw.new, hw.own, hw.below.alloc _, fun b B q h1 => Nat.lt_of_lt_of_le (hw.lt b B q h1) (by simp)⟩
  obtain ⟨arr, e, ha, h1, h2⟩ := hw.cells b cs hb B s L hr
  have hlt := (Array.getElem?_eq_some_iff.1 ha).1
  exact ⟨arr, e, (Below.heap_alloc w o B hlt).trans ha, h1, h2⟩
theorem str_t {ρ : Rho} {u : Value} (h : VR ρ (.str [116]) u) : u = .string tText := by
  cases h with
  | str h hl =>
    congr 1
    next s =>
    cases s with
    | mk d =>
      unfold tText
      congr 1
      apply Array.ext'
      rw [h]
      rfl
theorem nCheck_ok : NatOK Tryz.prog 114 nCheck := by
  intro vs h v h' he ρ w us hw hs
  unfold nCheck at he
  split at he
  · next l =>
    obtain ⟨hl, he⟩ := io_some he
    injection he with he
    injection he with e1 e2
    subst e1 e2
    obtain rfl := beqs_iff.1 hl
    obtain ⟨x, rfl, h1⟩ := hs.one_inv
    obtain rfl := str_t h1
    refine (check_t w).mono ?_
    rintro e w' ⟨rfl, rfl⟩
    exact ⟨_, ρ, rfl, .int _ _, (hw.aside _).aside _, St.refl _ _⟩
  · cases he
end Ev
end Go.Proofs.YtbcmcdmflblgkaaGreatDoor

namespace Go.Proofs.YtbcmcdmflblgkaaGreatDoor
open Go.ChangeShapes Go.WideShapes Go.ChangeAt Go.RowKit
set_option linter.unusedVariables false
theorem t_size : tText.size = 1 := rfl
theorem runes_of_t : Conv.runesFrom tText 1 0 #[] = #[.int .i32 116] := by
  have h : Utf8.decode tText 0 = (116, 1) := decode_ascii tText 0 (by decide) (by decide)
  simp [Conv.runesFrom, t_size, h]
theorem run_toRunes (w : World) : ∃ e, (convert 9 355 (.string tText)).run Tryz.prog w = .ok (.slice (some ⟨w.heap.size, 0, none⟩) 1 (grownCap w 1 0 e)) (w.drew.alloc (.cells (#[.int .i32 116] ++ Array.replicate (grownCap w 1 0 e - 1) (.int .i32 0)) e)) := by
  have h9 : Tryz.prog.underlying 9 = some .string := by kernel_rfl
  have h355 : Tryz.prog.underlying 355 = some (.slice 21) := by kernel_rfl
  have h21 : Tryz.prog.underlying 21 = some (.int .i32) := by kernel_rfl
  refine ⟨21, ?_⟩
  simp [convert, run_underlying h9, run_underlying h355, run_underlying h21, Conv.stringToRunes, t_size, runes_of_t, newRow, grownCap, Question.forced]
theorem enc_t : Utf8.encode 116 = tText := by decide
theorem run_ofRunes {w : World} {g c : Nat} {arr : Array Value} {e : TypeId} (h : w.heap[g]? = some (.cells (#[.int .i32 116] ++ arr) e (0, 0))) : (convert 355 9 (.slice (some ⟨g, 0, none⟩) 1 c)).run Tryz.prog w = .ok (.string tText) w := by
  have h9 : Tryz.prog.underlying 9 = some .string := by kernel_rfl
  have h355 : Tryz.prog.underlying 355 = some (.slice 21) := by kernel_rfl
  have h21 : Tryz.prog.underlying 21 = some (.int .i32) := by kernel_rfl
  have hc : w.cell? ⟨g, 0, none⟩ = some (.int .i32 116) := by rw [cell_of_row w g 0 _ _ _ h]; rw [Array.getElem?_append_left (by decide)]; rfl
  have hl := run_loadCells_list (P := Tryz.prog) (w := w) ⟨g, 0, none⟩ [.int .i32 116] (fun j v hj => by
    cases j with
    | zero => simp at hj; subst hj; simpa [Addr.add] using hc
    | succ j => simp at hj)
  have e0 : ByteArray.empty ++ tText = tText := by decide
  simp [convert, run_underlying h9, run_underlying h355, run_underlying h21, Conv.runesToString]
  simp at hl
  simp [hl, enc_t, e0]
theorem cut_t : (Array.map (fun b : UInt8 => Value.int IntKind.u8 (b.toNat : Int)) tText.data).extract 0 tText.size = #[.int .u8 116] := by
  rw [t_size]
  simp [tText]
set_option maxRecDepth 100000 in
theorem bytes_t (w w0 : World) (h0 : (w.iter tText 1).iter tText 1 = w0) : Calls Tryz.prog 179 #[.string tText] w fun e w' => ∃ (o1 o2 : Obj) (arr : Array Value) (c n : Nat), e = .returned (.tuple #[.slice (some ⟨w0.heap.size + 1 + 1, 0, none⟩) 2 c, .int .i64 0]) ∧
    w' = { ((w0.alloc o1).alloc o2).alloc (.cells (#[.int .u8 1] ++ (#[.int .u8 116] ++ arr)) 5) with drawn := n } ∧ 2 ≤ c ∧ c ≤ maxLen ∧ arr.size = c - 2 := by
  go_enter Tryz.func179, Tryz.ntmps179
  obtain ⟨e, hr⟩ := run_toRunes w0
  go_wp2_with (go_at_call 114; refine (check_t _).mono ?_; rintro e w' ⟨rfl, hw'⟩; rw [h0] at hw'; rw [hw']; clear hw' w')
  rw [run_ofRunes (arr := Array.replicate (grownCap w0 1 0 e - 1) (.int .i32 0)) (e := e) (by
    show ((w0.alloc _).alloc _).heap[w0.heap.size]? = _
    exact (Below.heap_alloc _ _ _ (by simp)).trans (heap_alloc_new _ _))]
  go_wp2
  go_ret2
  have hge := grownCap_ge ((w0.alloc (.cells (#[Value.int IntKind.i32 116] ++ Array.replicate (grownCap w0 1 0 e - 1) (Value.int IntKind.i32 0)) e)).drew) 2 1 5
  have hle := grownCap_le_maxLen ((w0.alloc (.cells (#[Value.int IntKind.i32 116] ++ Array.replicate (grownCap w0 1 0 e - 1) (Value.int IntKind.i32 0)) e)).drew) 2 1 5 (by unfold maxLen; omega)
  rw [cut_t]
  refine ⟨_, _, Builtin.zeroCells #[Value.int IntKind.u8 0] (grownCap ((w0.alloc (.cells (#[Value.int IntKind.i32 116] ++ Array.replicate (grownCap w0 1 0 e - 1) (Value.int IntKind.i32 0)) e)).drew) 2 1 5 - 2), _, _, rfl, rfl, hge, hle, ?_⟩
  have hz : ∀ n, (Builtin.zeroCells #[Value.int .u8 0] n).size = n := by intro n; simp [Builtin.zeroCells]
  exact hz _
end Go.Proofs.YtbcmcdmflblgkaaGreatDoor

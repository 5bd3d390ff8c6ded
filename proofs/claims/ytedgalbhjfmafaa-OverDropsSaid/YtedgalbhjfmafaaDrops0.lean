/-
  OverDrops, the plain law: what a log's tail still has.
-/
import Derived.Test.YtedgalbhjfmafaaFirst
namespace Go.Proofs.Ytedgalbhjfmafaa
open Go.ChangeShapes Go.WideShapes Go.ChangeAt Go.RowKit
set_option linter.unusedVariables false
theorem lastR_nil (z q : Int) : lastR z q [] = (false, 0, []) := rfl
theorem lastR_false {z q : Int} {xs : List Txn} (h : (lastR z q xs).1 = false) : lastR z q xs = (false, 0, []) := by
  unfold lastR at h ⊢
  cases hl : lastT z q xs with
  | none => rfl
  | some r => rw [hl] at h; cases h
theorem lastR_one {z q : Int} {t : Txn} (h : (lastR z q [t]).1 = true) : (lastR z q [t]).2.1 = t.seq := by
  have hl : lastT z q [t] = (lastI z q t.images).map fun x => (t, x) := rfl
  unfold lastR at h ⊢
  rw [hl] at h ⊢
  cases hi : lastI z q t.images with
  | none => rw [hi] at h; cases h
  | some x => rfl
/-- the number told is that of one of the transactions -/
theorem lastR_seq {z q : Int} : ∀ {xs : List Txn}, (lastR z q xs).1 = true → ∃ t ∈ xs, t.seq = (lastR z q xs).2.1
  | [], h => by rw [lastR_nil] at h; cases h
  | t :: ts, h => by
    have ha := lastR_append z q [t] ts
    rw [List.singleton_append] at ha
    rw [ha] at h ⊢
    by_cases h1 : (lastR z q ts).1 = true
    · rw [if_pos h1] at h ⊢
      obtain ⟨u, hu, hs⟩ := lastR_seq h1
      exact ⟨u, List.mem_cons_of_mem _ hu, hs⟩
    · rw [if_neg h1] at h ⊢
      exact ⟨t, List.mem_cons_self .., (lastR_one h).symm⟩
theorem drops_yes {z q : Int} {xs : List Txn} (hq : ∀ (i : Nat) (t : Txn), xs[i]? = some t → t.seq = 1 + (i : Int)) {i : Nat} (h : (lastR z q (xs.drop (i + 1))).1 = true) : lastR z q xs = lastR z q (xs.drop (i + 1)) ∧ 1 + (i : Int) < (lastR z q (xs.drop (i + 1))).2.1 := by
  have ha := lastR_append z q (xs.take (i + 1)) (xs.drop (i + 1))
  rw [List.take_append_drop, if_pos h] at ha
  refine ⟨ha, ?_⟩
  obtain ⟨t, ht, hs⟩ := lastR_seq h
  obtain ⟨j, hj⟩ := List.getElem?_of_mem ht
  rw [List.getElem?_drop] at hj
  have := hq _ _ hj
  rw [← hs, this]
  omega
theorem drops_no {z q : Int} {xs : List Txn} (hq : ∀ (i : Nat) (t : Txn), xs[i]? = some t → t.seq = 1 + (i : Int)) {i : Nat} (h : (lastR z q (xs.drop (i + 1))).1 = false) (hx : (lastR z q xs).1 = true) : (lastR z q xs).2.1 ≤ 1 + (i : Int) := by
  have ha := lastR_append z q (xs.take (i + 1)) (xs.drop (i + 1))
  rw [List.take_append_drop, if_neg (by rw [h]; decide)] at ha
  rw [ha] at hx ⊢
  obtain ⟨t, ht, hs⟩ := lastR_seq hx
  obtain ⟨j, hj⟩ := List.getElem?_of_mem ht
  have hjl : j < i + 1 := by have := (List.getElem?_eq_some_iff.1 hj).1; rw [List.length_take] at this; omega
  rw [List.getElem?_take_of_lt hjl] at hj
  have := hq _ _ hj
  rw [← hs, this]
  omega
end Go.Proofs.Ytedgalbhjfmafaa

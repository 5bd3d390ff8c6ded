/-
  Zones as sorted lists: plain laws.
-/
import Derived.Test.YtedgalbhjfmafaaZones
namespace Go.Proofs.Ytedgalbhjfmafaa
set_option linter.unusedVariables false
theorem srt_sorted (zs : List Int) : (srt zs).Pairwise (· ≤ ·) := by
  have h := List.pairwise_mergeSort (le := fun x y : Int => decide (x ≤ y)) (by intro a b c h1 h2; simp at *; omega) (by intro a b; simp; omega) zs
  rw [List.pairwise_iff_getElem] at h ⊢
  intro i j hi hj hij
  have := h i j hi hj hij
  exact of_decide_eq_true this
theorem mem_srt {x : Int} {zs : List Int} : x ∈ srt zs ↔ x ∈ zs := by simp [srt]
theorem get_arr (zs : List Int) {j : Nat} (hj : j < zs.length) : zs.toArray[j]! = zs[j] := by
  simp [getElem!_pos, hj]
theorem mem_compact {x : Int} {zs : List Int} (hs : zs.Pairwise (· ≤ ·)) : x ∈ Lib.compact zs ↔ x ∈ zs := by
  unfold Lib.compact Lib.compactUpTo
  rw [List.mem_map]
  constructor
  · rintro ⟨j, hj, rfl⟩
    rw [List.mem_filter, List.mem_range] at hj
    rw [get_arr zs hj.1]
    exact List.getElem_mem _
  · intro hx
    have key : ∀ n j, j ≤ n → (hj : j < zs.length) → zs[j] = x → ∃ i, i < zs.length ∧ Lib.keeps zs.toArray i = true ∧ zs.toArray[i]! = x := by
      intro n
      induction n with
      | zero =>
        intro j hn hj he
        obtain rfl : j = 0 := by omega
        exact ⟨0, hj, by simp [Lib.keeps], by rw [get_arr zs hj, he]⟩
      | succ n ih =>
        intro j hn hj he
        by_cases h0 : j = 0
        · subst h0
          exact ⟨0, hj, by simp [Lib.keeps], by rw [get_arr zs hj, he]⟩
        · by_cases h1 : zs[j]'hj = zs[j - 1]'(by omega)
          · exact ih (j - 1) (by omega) (by omega) (by rw [← h1, he])
          · exact ⟨j, hj, Lib.keeps_pos (by rw [get_arr zs hj, get_arr zs (show j - 1 < zs.length by omega)]; exact h1), by rw [get_arr zs hj, he]⟩
    obtain ⟨j, hj, he⟩ := List.getElem_of_mem hx
    obtain ⟨i, h1, h2, h3⟩ := key j j (Nat.le_refl _) hj he
    exact ⟨i, by rw [List.mem_filter, List.mem_range]; exact ⟨h1, h2⟩, h3⟩
theorem compact_rises {zs : List Int} (hs : zs.Pairwise (· ≤ ·)) : (Lib.compact zs).Pairwise (· < ·) := by
  unfold Lib.compact Lib.compactUpTo
  rw [List.pairwise_map, List.pairwise_iff_getElem]
  intro i j hi hj hij
  have hr : (List.filter (Lib.keeps zs.toArray) (List.range zs.length)).Pairwise (· < ·) := List.Pairwise.filter _ List.pairwise_lt_range
  rw [List.pairwise_iff_getElem] at hr
  have hlt := hr i j hi hj hij
  have mi := List.mem_filter.1 (List.getElem_mem hi)
  have mj := List.mem_filter.1 (List.getElem_mem hj)
  rw [List.mem_range] at mi mj
  generalize (List.filter (Lib.keeps zs.toArray) (List.range zs.length))[i] = a at *
  generalize (List.filter (Lib.keeps zs.toArray) (List.range zs.length))[j] = b at *
  rw [get_arr zs mi.1, get_arr zs mj.1]
  have hb : zs[b]'mj.1 ≠ zs[b - 1]'(by omega) := by
    have := mj.2
    simp only [Lib.keeps, decide_eq_true_eq] at this
    rcases this with h0 | h0
    · omega
    · rwa [get_arr zs mj.1, get_arr zs (show b - 1 < zs.length by omega)] at h0
  rw [List.pairwise_iff_getElem] at hs
  have h1 := hs (b - 1) b (by omega) mj.1 (by omega)
  have h2 : zs[a]'mi.1 ≤ zs[b - 1]'(by omega) := by
    rcases Nat.lt_or_ge a (b - 1) with h3 | h3
    · exact hs a (b - 1) mi.1 (by omega) h3
    · have e : a = b - 1 := by omega
      subst e
      exact Int.le_refl _
  omega
theorem zonesOf_rises (xs : List Txn) : (zonesOf xs).Pairwise (· < ·) := compact_rises (srt_sorted _)
theorem mem_zonesOf {x : Int} {xs : List Txn} : x ∈ zonesOf xs ↔ x ∈ zonesT xs := (mem_compact (srt_sorted _)).trans mem_srt
theorem zonesT_append (k l : List Txn) : zonesT (k ++ l) = zonesT k ++ zonesT l := by simp [zonesT]
/-- two rising lists of the same members are one -/
theorem rising_eq : ∀ {l m : List Int}, l.Pairwise (· < ·) → m.Pairwise (· < ·) → (∀ x, x ∈ l ↔ x ∈ m) → l = m
  | [], [], _, _, _ => rfl
  | [], y :: m, _, _, h => by have := (h y).2 (List.mem_cons_self ..); simp at this
  | x :: l, [], _, _, h => by have := (h x).1 (List.mem_cons_self ..); simp at this
  | x :: l, y :: m, hl, hm, h => by
    rw [List.pairwise_cons] at hl hm
    have hxy : x = y := by
      have h1 := (h x).1 (List.mem_cons_self ..)
      have h2 := (h y).2 (List.mem_cons_self ..)
      rw [List.mem_cons] at h1 h2
      rcases h1 with h1 | h1
      · exact h1
      · rcases h2 with h2 | h2
        · exact h2.symm
        · have := hl.1 y h2; have := hm.1 x h1; omega
    subst hxy
    rw [rising_eq hl.2 hm.2 (fun z => ?_)]
    constructor
    · intro hz
      have h1 := (h z).1 (List.mem_cons_of_mem _ hz)
      rw [List.mem_cons] at h1
      rcases h1 with h1 | h1
      · have := hl.1 z hz; omega
      · exact h1
    · intro hz
      have h1 := (h z).2 (List.mem_cons_of_mem _ hz)
      rw [List.mem_cons] at h1
      rcases h1 with h1 | h1
      · have := hm.1 z hz; omega
      · exact h1
end Go.Proofs.Ytedgalbhjfmafaa

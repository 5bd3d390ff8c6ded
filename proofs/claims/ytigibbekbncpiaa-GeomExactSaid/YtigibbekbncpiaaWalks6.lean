/-
  The page's own answers (the references) on a right geometry.
-/
import Derived.Test.YtigibbekbncpiaaWalks5
namespace Go.Proofs.Ytigibbekbncpiaa
open Go.ChangeShapes Go.WideShapes Go.ChangeAt Go.RowKit
set_option linter.unusedVariables false
theorem rin_any (n lo hi : Int) (w : World) :
    Calls Try.prog 37 #[.int .i64 n, .int .i64 lo, .int .i64 hi] w fun e w' => e = .returned (.bool (inB n lo hi)) ∧ w = w' := by
  by_cases h1 : lo ≤ n
  · by_cases h2 : n ≤ hi
    · rw [inB_yes h1 h2]
      go_enter Try.func37, Try.ntmps37
      go_wp2
      go_ret
      simp
    · rw [inB_no2 h2]
      go_enter Try.func37, Try.ntmps37
      go_wp2
      go_ret
      simp
  · rw [inB_no1 h1]
    go_enter Try.func37, Try.ntmps37
    go_wp2
    go_ret
    simp
theorem rgeo_ok (z d s l a : Int) (w : World) (h : okB z d s l a = true) :
    Calls Try.prog 22 #[.agg #[.int .i64 z, .int .i64 d, .int .i64 s, .int .i64 l, .int .i64 a]] w fun e w' => e = .returned (.bool true) ∧ Below w.heap.size w w' := by
  obtain ⟨hz, hd, hs, hl, ha⟩ := okB_iff.1 h
  clear h
  go_enter Try.func22, Try.ntmps22
  go_wp2_with (go_at_call 37; refine (rin_any _ _ _ _).mono ?_; rintro e w' ⟨rfl, rfl⟩)
  go_ret
  exact ⟨rfl, (Below.refl _ _).alloc (Nat.le_refl _) _⟩
theorem rgeo_bad0 (z d s l a : Int) (w : World) (h0 : inB z 1 4 = false) :
    Calls Try.prog 22 #[.agg #[.int .i64 z, .int .i64 d, .int .i64 s, .int .i64 l, .int .i64 a]] w fun e w' => e = .returned (.bool false) ∧ Below w.heap.size w w' := by
  go_enter Try.func22, Try.ntmps22
  go_wp2_with (go_at_call 37; refine (rin_any _ _ _ _).mono ?_; rintro e w' ⟨rfl, rfl⟩)
  go_ret
  exact ⟨rfl, (Below.refl _ _).alloc (Nat.le_refl _) _⟩
theorem rgeo_bad1 (z d s l a : Int) (w : World) (h0 : inB z 1 4 = true) (h1 : inB d 1 4 = false) :
    Calls Try.prog 22 #[.agg #[.int .i64 z, .int .i64 d, .int .i64 s, .int .i64 l, .int .i64 a]] w fun e w' => e = .returned (.bool false) ∧ Below w.heap.size w w' := by
  go_enter Try.func22, Try.ntmps22
  go_wp2_with (go_at_call 37; refine (rin_any _ _ _ _).mono ?_; rintro e w' ⟨rfl, rfl⟩)
  go_ret
  exact ⟨rfl, (Below.refl _ _).alloc (Nat.le_refl _) _⟩
theorem rgeo_bad2 (z d s l a : Int) (w : World) (h0 : inB z 1 4 = true) (h1 : inB d 1 4 = true) (h2 : inB s 0 2 = false) :
    Calls Try.prog 22 #[.agg #[.int .i64 z, .int .i64 d, .int .i64 s, .int .i64 l, .int .i64 a]] w fun e w' => e = .returned (.bool false) ∧ Below w.heap.size w w' := by
  go_enter Try.func22, Try.ntmps22
  go_wp2_with (go_at_call 37; refine (rin_any _ _ _ _).mono ?_; rintro e w' ⟨rfl, rfl⟩)
  go_ret
  exact ⟨rfl, (Below.refl _ _).alloc (Nat.le_refl _) _⟩
theorem rgeo_bad3 (z d s l a : Int) (w : World) (h0 : inB z 1 4 = true) (h1 : inB d 1 4 = true) (h2 : inB s 0 2 = true) (h3 : inB l 14 30 = false) :
    Calls Try.prog 22 #[.agg #[.int .i64 z, .int .i64 d, .int .i64 s, .int .i64 l, .int .i64 a]] w fun e w' => e = .returned (.bool false) ∧ Below w.heap.size w w' := by
  go_enter Try.func22, Try.ntmps22
  go_wp2_with (go_at_call 37; refine (rin_any _ _ _ _).mono ?_; rintro e w' ⟨rfl, rfl⟩)
  go_ret
  exact ⟨rfl, (Below.refl _ _).alloc (Nat.le_refl _) _⟩
theorem rgeo_bad4 (z d s l a : Int) (w : World) (h0 : inB z 1 4 = true) (h1 : inB d 1 4 = true) (h2 : inB s 0 2 = true) (h3 : inB l 14 30 = true) (h4 : inB a 1 3 = false) :
    Calls Try.prog 22 #[.agg #[.int .i64 z, .int .i64 d, .int .i64 s, .int .i64 l, .int .i64 a]] w fun e w' => e = .returned (.bool false) ∧ Below w.heap.size w w' := by
  go_enter Try.func22, Try.ntmps22
  go_wp2_with (go_at_call 37; refine (rin_any _ _ _ _).mono ?_; rintro e w' ⟨rfl, rfl⟩)
  go_ret
  exact ⟨rfl, (Below.refl _ _).alloc (Nat.le_refl _) _⟩
theorem rgeo_bad (z d s l a : Int) (w : World) (h : okB z d s l a = false) :
    Calls Try.prog 22 #[.agg #[.int .i64 z, .int .i64 d, .int .i64 s, .int .i64 l, .int .i64 a]] w fun e w' => e = .returned (.bool false) ∧ Below w.heap.size w w' := by
  cases h0 : inB z 1 4 with
  | false => exact rgeo_bad0 z d s l a w h0
  | true =>
    cases h1 : inB d 1 4 with
    | false => exact rgeo_bad1 z d s l a w h0 h1
    | true =>
      cases h2 : inB s 0 2 with
      | false => exact rgeo_bad2 z d s l a w h0 h1 h2
      | true =>
        cases h3 : inB l 14 30 with
        | false => exact rgeo_bad3 z d s l a w h0 h1 h2 h3
        | true =>
          cases h4 : inB a 1 3 with
          | false => exact rgeo_bad4 z d s l a w h0 h1 h2 h3 h4
          | true => rw [okB, h0, h1, h2, h3, h4] at h; cases h
theorem rper_ok (z d s l a : Int) (w : World) (h : okB z d s l a = true) :
    Calls Try.prog 27 #[.agg #[.int .i64 z, .int .i64 d, .int .i64 s, .int .i64 l, .int .i64 a]] w fun e w' => e = .returned (.int .i64 (d + 1 + s)) ∧ Below w.heap.size w w' := by
  have hb := okB_bounds h
  clear h
  go_enter Try.func27, Try.ntmps27
  go_wp2
  go_ret
  exact ⟨rfl, (Below.refl _ _).alloc (Nat.le_refl _) _⟩
theorem rlog_ok (z d s l a c k : Int) (w : World) (h : okB z d s l a = true) (hc : inB c 0 1 = true) (hk : inB k 0 (l - 1) = true) :
    Calls Try.prog 25 #[.agg #[.int .i64 z, .int .i64 d, .int .i64 s, .int .i64 l, .int .i64 a], .int .i64 c, .int .i64 k] w fun e w' => e = .returned (.int .i64 (a + c * l + k)) ∧ Below w.heap.size w w' := by
  have hb0 := okB_bounds h
  have hcl := cl_bounds (l := l) hc (by omega)
  have hk0 := inB_lo hk
  clear h
  go_enter Try.func25, Try.ntmps25
  go_wp2
  go_ret
  exact ⟨rfl, (Below.refl _ _).alloc (Nat.le_refl _) _⟩
theorem rtable_ok (z d s l a i k : Int) (w : World) (h : okB z d s l a = true) (hc : inB i 0 (z - 1) = true) (hk : inB k 0 1 = true) :
    Calls Try.prog 26 #[.agg #[.int .i64 z, .int .i64 d, .int .i64 s, .int .i64 l, .int .i64 a], .int .i64 i, .int .i64 k] w fun e w' => e = .returned (.int .i64 (a + 2 * l + 2 * i + k)) ∧ Below w.heap.size w w' := by
  have hb0 := okB_bounds h
  have hc0 := inB_lo hc
  have hk0 := inB_lo hk
  clear h
  go_enter Try.func26, Try.ntmps26
  go_wp2
  go_ret
  exact ⟨rfl, (Below.refl _ _).alloc (Nat.le_refl _) _⟩
theorem rcells_ok (z d s l a : Int) (w : World) (h : okB z d s l a = true) :
    Calls Try.prog 23 #[.agg #[.int .i64 z, .int .i64 d, .int .i64 s, .int .i64 l, .int .i64 a]] w fun e w' => e = .returned (.int .i64 (a + 2 * l + 2 * z + z * (d + 1 + s))) ∧ Below w.heap.size w w' := by
  have hb0 := okB_bounds h
  obtain ⟨zp0, zp1⟩ := zp_bounds h
  have e1 : IntKind.i64.wrap (2 * l) = 2 * l := w64 (by omega) (by omega)
  have e2 : IntKind.i64.wrap (a + 2 * l) = a + 2 * l := w64 (by omega) (by omega)
  have e3 : IntKind.i64.wrap (2 * z) = 2 * z := w64 (by omega) (by omega)
  have e4 : IntKind.i64.wrap (a + 2 * l + 2 * z) = a + 2 * l + 2 * z := w64 (by omega) (by omega)
  have e5 : IntKind.i64.wrap (z * (d + 1 + s)) = z * (d + 1 + s) := w64 (by omega) (by omega)
  have e6 : IntKind.i64.wrap (a + 2 * l + 2 * z + z * (d + 1 + s)) = a + 2 * l + 2 * z + z * (d + 1 + s) := w64 (by omega) (by omega)
  go_enter Try.func23, Try.ntmps23
  go_wp2_with fail
  refine wp_region_held_drew (S := (fun w' => Below w.heap.size w w' ∧ w'.cell? ⟨w.heap.size, 0, none⟩ = some (.int .i64 z) ∧ w'.cell? ⟨w.heap.size, 1, none⟩ = some (.int .i64 d) ∧ w'.cell? ⟨w.heap.size, 2, none⟩ = some (.int .i64 s) ∧ w'.cell? ⟨w.heap.size, 3, none⟩ = some (.int .i64 l) ∧ w'.cell? ⟨w.heap.size, 4, none⟩ = some (.int .i64 a))) (by kernel_rfl) ?_ (fun hHeld => ?_)
  · try dsimp only
    exact startS _ _ _ _ _ _ _
  refine wpAnyH_take (i := 0) (oi := _) (v := ?_) rfl (by kernel_rfl) (by kernel_rfl) (by kernel_rfl) (fun _ _ _ h => h) (Or.inl ⟨by rfl, ?_⟩) hHeld ?_
  rotate_left
  · intro w hSw
    try dsimp only at hSw
    go_simp
    try with_reducible rfl
  try simp only [List.getElem_toArray, List.getElem_cons_zero, Act.put, List.setIfInBounds_toArray, List.set_cons_zero, List.set_cons_succ]
  refine wpAnyH_take (i := 1) (oi := _) (v := ?_) rfl (by kernel_rfl) (by kernel_rfl) (by kernel_rfl) (fun _ _ _ h => h) (Or.inl ⟨by rfl, ?_⟩) hHeld ?_
  rotate_left
  · intro w hSw
    try dsimp only at hSw
    go_simp
    try with_reducible rfl
  try simp only [List.getElem_toArray, List.getElem_cons_succ, List.getElem_cons_zero, Act.put, List.setIfInBounds_toArray, List.set_cons_zero, List.set_cons_succ]
  refine wpAnyH_take (i := 2) (oi := _) (v := ?_) rfl (by kernel_rfl) (by kernel_rfl) (by kernel_rfl) (fun _ _ _ h => h) (Or.inl ⟨by rfl, ?_⟩) hHeld ?_
  rotate_left
  · intro w hSw
    try dsimp only at hSw
    go_simp
    try with_reducible rfl
  try simp only [List.getElem_toArray, List.getElem_cons_succ, List.getElem_cons_zero, Act.put, List.setIfInBounds_toArray, List.set_cons_zero, List.set_cons_succ]
  refine wpAnyH_take (i := 3) (oi := _) (v := ?_) rfl (by kernel_rfl) (by kernel_rfl) (by kernel_rfl) (fun _ _ _ h => h) (Or.inl ⟨by rfl, ?_⟩) hHeld ?_
  rotate_left
  · intro w hSw
    try dsimp only at hSw
    go_simp
    try with_reducible rfl
  try simp only [List.getElem_toArray, List.getElem_cons_succ, List.getElem_cons_zero, Act.put, List.setIfInBounds_toArray, List.set_cons_zero, List.set_cons_succ]
  refine wpAnyH_take (i := 4) (oi := _) (v := ?_) rfl (by kernel_rfl) (by kernel_rfl) (by kernel_rfl) (fun _ _ _ h => h) (Or.inl ⟨by rfl, ?_⟩) hHeld ?_
  rotate_left
  · intro w hSw
    try dsimp only at hSw
    go_simp
    try with_reducible rfl
  try simp only [List.getElem_toArray, List.getElem_cons_succ, List.getElem_cons_zero, Act.put, List.setIfInBounds_toArray, List.set_cons_zero, List.set_cons_succ]
  refine wpAnyH_take (i := 5) (oi := _) (v := ?_) rfl (by kernel_rfl) (by kernel_rfl) (by kernel_rfl) (fun _ _ _ h => h) (Or.inl ⟨by rfl, ?_⟩) hHeld ?_
  rotate_left
  · intro w hSw
    try dsimp only at hSw
    go_simp
    try with_reducible rfl
  try simp only [List.getElem_toArray, List.getElem_cons_succ, List.getElem_cons_zero, Act.put, List.setIfInBounds_toArray, List.set_cons_zero, List.set_cons_succ]
  refine wpAnyH_take (i := 6) (oi := _) (v := ?_) rfl (by kernel_rfl) (by kernel_rfl) (by kernel_rfl) (fun _ _ _ h => h) (Or.inl ⟨by rfl, ?_⟩) hHeld ?_
  rotate_left
  · intro w hSw
    try dsimp only at hSw
    go_simp
    try with_reducible rfl
  try simp only [List.getElem_toArray, List.getElem_cons_succ, List.getElem_cons_zero, Act.put, List.setIfInBounds_toArray, List.set_cons_zero, List.set_cons_succ]
  refine wpAnyH_take (i := 7) (oi := _) (v := ?_) rfl (by kernel_rfl) (by kernel_rfl) (by kernel_rfl) (fun _ _ _ h => h) (Or.inl ⟨by rfl, ?_⟩) hHeld ?_
  rotate_left
  · intro w hSw
    try dsimp only at hSw
    go_simp
    try with_reducible rfl
  try simp only [List.getElem_toArray, List.getElem_cons_succ, List.getElem_cons_zero, Act.put, List.setIfInBounds_toArray, List.set_cons_zero, List.set_cons_succ]
  refine wpAnyH_take (i := 8) (oi := _) (v := ?_) rfl (by kernel_rfl) (by kernel_rfl) (by kernel_rfl) (fun _ _ _ h => h) (Or.inl ⟨by rfl, ?_⟩) hHeld ?_
  rotate_left
  · intro w hSw
    try dsimp only at hSw
    go_simp
    try with_reducible rfl
  try simp only [List.getElem_toArray, List.getElem_cons_succ, List.getElem_cons_zero, Act.put, List.setIfInBounds_toArray, List.set_cons_zero, List.set_cons_succ]
  refine wpAnyH_take (i := 9) (oi := _) (v := ?_) rfl (by kernel_rfl) (by kernel_rfl) (by kernel_rfl) (fun _ _ _ h => h) (Or.inl ⟨by rfl, ?_⟩) hHeld ?_
  rotate_left
  · intro w hSw
    try dsimp only at hSw
    go_simp
    try with_reducible rfl
  try simp only [List.getElem_toArray, List.getElem_cons_succ, List.getElem_cons_zero, Act.put, List.setIfInBounds_toArray, List.set_cons_zero, List.set_cons_succ]
  refine wpAnyH_take (i := 10) (oi := _) (v := ?_) rfl (by kernel_rfl) (by kernel_rfl) (by kernel_rfl) (fun _ _ _ h => h) (Or.inl ⟨by rfl, ?_⟩) hHeld ?_
  rotate_left
  · intro w hSw
    try dsimp only at hSw
    go_simp
    try with_reducible rfl
  try simp only [List.getElem_toArray, List.getElem_cons_succ, List.getElem_cons_zero, Act.put, List.setIfInBounds_toArray, List.set_cons_zero, List.set_cons_succ]
  refine wpAnyH_take (i := 11) (oi := _) (v := ?_) rfl (by kernel_rfl) (by kernel_rfl) (by kernel_rfl) (fun _ _ _ h => h) (Or.inl ⟨by rfl, ?_⟩) hHeld ?_
  rotate_left
  · intro w hSw
    try dsimp only at hSw
    go_simp
    try with_reducible rfl
  try simp only [List.getElem_toArray, List.getElem_cons_succ, List.getElem_cons_zero, Act.put, List.setIfInBounds_toArray, List.set_cons_zero, List.set_cons_succ]
  refine wpAnyH_take (i := 12) (oi := _) (v := ?_) rfl (by kernel_rfl) (by kernel_rfl) (by kernel_rfl) (fun _ _ _ h => h) (Or.inl ⟨by rfl, ?_⟩) hHeld ?_
  rotate_left
  · intro w hSw
    try dsimp only at hSw
    go_simp
    try with_reducible rfl
  try simp only [List.getElem_toArray, List.getElem_cons_succ, List.getElem_cons_zero, Act.put, List.setIfInBounds_toArray, List.set_cons_zero, List.set_cons_succ]
  refine wpAnyH_ready (rs := [13]) (by kernel_rfl) (by simp) ?_
  refine AllReadyH.cons (o := _) rfl (fun K hK => ?_) AllReadyH.nil
  go_simp
  (go_at_call 27; refine (rper_ok _ _ _ _ _ _ h).mono ?_; rintro e w' ⟨rfl, hb⟩)
  go_wp2_with fail
  refine hK.out _ _ ?_ (fun hHeld => ?_)
  · try dsimp only
    (first | exact startS _ _ _ _ _ _ _ | (go_split_ands; exact keepS hb ‹_› ‹_› ‹_› ‹_› ‹_› ‹_›) | go_keep)
  clear hK K
  try simp only [List.getElem_toArray, List.getElem_cons_succ, List.getElem_cons_zero, Act.put, List.setIfInBounds_toArray, List.set_cons_zero, List.set_cons_succ]
  refine wpAnyH_take (i := 14) (oi := _) (v := ?_) rfl (by kernel_rfl) (by kernel_rfl) (by kernel_rfl) (fun _ _ _ h => h) (Or.inl ⟨by rfl, ?_⟩) hHeld ?_
  rotate_left
  · intro w hSw
    try dsimp only at hSw
    go_simp
    try with_reducible rfl
  try simp only [List.getElem_toArray, List.getElem_cons_succ, List.getElem_cons_zero, Act.put, List.setIfInBounds_toArray, List.set_cons_zero, List.set_cons_succ]
  refine wpAnyH_take (i := 15) (oi := _) (v := ?_) rfl (by kernel_rfl) (by kernel_rfl) (by kernel_rfl) (fun _ _ _ h => h) (Or.inl ⟨by rfl, ?_⟩) hHeld ?_
  rotate_left
  · intro w hSw
    try dsimp only at hSw
    go_simp
    try with_reducible rfl
  try simp only [List.getElem_toArray, List.getElem_cons_succ, List.getElem_cons_zero, Act.put, List.setIfInBounds_toArray, List.set_cons_zero, List.set_cons_succ]
  refine wpAnyH_take (i := 16) (oi := _) (v := ?_) rfl (by kernel_rfl) (by kernel_rfl) (by kernel_rfl) (fun _ _ _ h => h) (Or.inl ⟨by rfl, ?_⟩) hHeld ?_
  rotate_left
  · intro w hSw
    try dsimp only at hSw
    go_simp
    try with_reducible rfl
  try simp only [List.getElem_toArray, List.getElem_cons_succ, List.getElem_cons_zero, Act.put, List.setIfInBounds_toArray, List.set_cons_zero, List.set_cons_succ]
  refine wpAnyH_done (by kernel_rfl) ?_ _
  go_wp2_with fail
  go_ret
  exact ⟨rfl, by go_split_ands; assumption⟩
theorem rslot_ok (z d s l a i k : Int) (w : World) (h : okB z d s l a = true) (hi : 0 ≤ i ∧ i ≤ 3) (hk : 0 ≤ k ∧ k ≤ 7) :
    Calls Try.prog 28 #[.agg #[.int .i64 z, .int .i64 d, .int .i64 s, .int .i64 l, .int .i64 a], .int .i64 i, .int .i64 k] w fun e w' => e = .returned (.int .i64 (a + 2 * l + 2 * z + i * (d + 1 + s) + k)) ∧ Below w.heap.size w w' := by
  have hb0 := okB_bounds h
  have hip := ip_bounds (i := i) (p := d + 1 + s) (by omega) (by omega)
  have e1 : IntKind.i64.wrap (2 * l) = 2 * l := w64 (by omega) (by omega)
  have e2 : IntKind.i64.wrap (a + 2 * l) = a + 2 * l := w64 (by omega) (by omega)
  have e3 : IntKind.i64.wrap (2 * z) = 2 * z := w64 (by omega) (by omega)
  have e4 : IntKind.i64.wrap (a + 2 * l + 2 * z) = a + 2 * l + 2 * z := w64 (by omega) (by omega)
  have e5 : IntKind.i64.wrap (i * (d + 1 + s)) = i * (d + 1 + s) := w64 (by omega) (by omega)
  have e6 : IntKind.i64.wrap (a + 2 * l + 2 * z + i * (d + 1 + s)) = a + 2 * l + 2 * z + i * (d + 1 + s) := w64 (by omega) (by omega)
  have e7 : IntKind.i64.wrap (a + 2 * l + 2 * z + i * (d + 1 + s) + k) = a + 2 * l + 2 * z + i * (d + 1 + s) + k := w64 (by omega) (by omega)
  go_enter Try.func28, Try.ntmps28
  go_wp2_with fail
  refine wp_region_held_drew (S := (fun w' => Below w.heap.size w w' ∧ w'.cell? ⟨w.heap.size, 0, none⟩ = some (.int .i64 z) ∧ w'.cell? ⟨w.heap.size, 1, none⟩ = some (.int .i64 d) ∧ w'.cell? ⟨w.heap.size, 2, none⟩ = some (.int .i64 s) ∧ w'.cell? ⟨w.heap.size, 3, none⟩ = some (.int .i64 l) ∧ w'.cell? ⟨w.heap.size, 4, none⟩ = some (.int .i64 a))) (by kernel_rfl) ?_ (fun hHeld => ?_)
  · try dsimp only
    exact startS _ _ _ _ _ _ _
  refine wpAnyH_take (i := 0) (oi := _) (v := ?_) rfl (by kernel_rfl) (by kernel_rfl) (by kernel_rfl) (fun _ _ _ h => h) (Or.inl ⟨by rfl, ?_⟩) hHeld ?_
  rotate_left
  · intro w hSw
    try dsimp only at hSw
    go_simp
    try with_reducible rfl
  try simp only [List.getElem_toArray, List.getElem_cons_zero, Act.put, List.setIfInBounds_toArray, List.set_cons_zero, List.set_cons_succ]
  refine wpAnyH_take (i := 1) (oi := _) (v := ?_) rfl (by kernel_rfl) (by kernel_rfl) (by kernel_rfl) (fun _ _ _ h => h) (Or.inl ⟨by rfl, ?_⟩) hHeld ?_
  rotate_left
  · intro w hSw
    try dsimp only at hSw
    go_simp
    try with_reducible rfl
  try simp only [List.getElem_toArray, List.getElem_cons_succ, List.getElem_cons_zero, Act.put, List.setIfInBounds_toArray, List.set_cons_zero, List.set_cons_succ]
  refine wpAnyH_take (i := 2) (oi := _) (v := ?_) rfl (by kernel_rfl) (by kernel_rfl) (by kernel_rfl) (fun _ _ _ h => h) (Or.inl ⟨by rfl, ?_⟩) hHeld ?_
  rotate_left
  · intro w hSw
    try dsimp only at hSw
    go_simp
    try with_reducible rfl
  try simp only [List.getElem_toArray, List.getElem_cons_succ, List.getElem_cons_zero, Act.put, List.setIfInBounds_toArray, List.set_cons_zero, List.set_cons_succ]
  refine wpAnyH_take (i := 3) (oi := _) (v := ?_) rfl (by kernel_rfl) (by kernel_rfl) (by kernel_rfl) (fun _ _ _ h => h) (Or.inl ⟨by rfl, ?_⟩) hHeld ?_
  rotate_left
  · intro w hSw
    try dsimp only at hSw
    go_simp
    try with_reducible rfl
  try simp only [List.getElem_toArray, List.getElem_cons_succ, List.getElem_cons_zero, Act.put, List.setIfInBounds_toArray, List.set_cons_zero, List.set_cons_succ]
  refine wpAnyH_take (i := 4) (oi := _) (v := ?_) rfl (by kernel_rfl) (by kernel_rfl) (by kernel_rfl) (fun _ _ _ h => h) (Or.inl ⟨by rfl, ?_⟩) hHeld ?_
  rotate_left
  · intro w hSw
    try dsimp only at hSw
    go_simp
    try with_reducible rfl
  try simp only [List.getElem_toArray, List.getElem_cons_succ, List.getElem_cons_zero, Act.put, List.setIfInBounds_toArray, List.set_cons_zero, List.set_cons_succ]
  refine wpAnyH_take (i := 5) (oi := _) (v := ?_) rfl (by kernel_rfl) (by kernel_rfl) (by kernel_rfl) (fun _ _ _ h => h) (Or.inl ⟨by rfl, ?_⟩) hHeld ?_
  rotate_left
  · intro w hSw
    try dsimp only at hSw
    go_simp
    try with_reducible rfl
  try simp only [List.getElem_toArray, List.getElem_cons_succ, List.getElem_cons_zero, Act.put, List.setIfInBounds_toArray, List.set_cons_zero, List.set_cons_succ]
  refine wpAnyH_take (i := 6) (oi := _) (v := ?_) rfl (by kernel_rfl) (by kernel_rfl) (by kernel_rfl) (fun _ _ _ h => h) (Or.inl ⟨by rfl, ?_⟩) hHeld ?_
  rotate_left
  · intro w hSw
    try dsimp only at hSw
    go_simp
    try with_reducible rfl
  try simp only [List.getElem_toArray, List.getElem_cons_succ, List.getElem_cons_zero, Act.put, List.setIfInBounds_toArray, List.set_cons_zero, List.set_cons_succ]
  refine wpAnyH_take (i := 7) (oi := _) (v := ?_) rfl (by kernel_rfl) (by kernel_rfl) (by kernel_rfl) (fun _ _ _ h => h) (Or.inl ⟨by rfl, ?_⟩) hHeld ?_
  rotate_left
  · intro w hSw
    try dsimp only at hSw
    go_simp
    try with_reducible rfl
  try simp only [List.getElem_toArray, List.getElem_cons_succ, List.getElem_cons_zero, Act.put, List.setIfInBounds_toArray, List.set_cons_zero, List.set_cons_succ]
  refine wpAnyH_take (i := 8) (oi := _) (v := ?_) rfl (by kernel_rfl) (by kernel_rfl) (by kernel_rfl) (fun _ _ _ h => h) (Or.inl ⟨by rfl, ?_⟩) hHeld ?_
  rotate_left
  · intro w hSw
    try dsimp only at hSw
    go_simp
    try with_reducible rfl
  try simp only [List.getElem_toArray, List.getElem_cons_succ, List.getElem_cons_zero, Act.put, List.setIfInBounds_toArray, List.set_cons_zero, List.set_cons_succ]
  refine wpAnyH_take (i := 9) (oi := _) (v := ?_) rfl (by kernel_rfl) (by kernel_rfl) (by kernel_rfl) (fun _ _ _ h => h) (Or.inl ⟨by rfl, ?_⟩) hHeld ?_
  rotate_left
  · intro w hSw
    try dsimp only at hSw
    go_simp
    try with_reducible rfl
  try simp only [List.getElem_toArray, List.getElem_cons_succ, List.getElem_cons_zero, Act.put, List.setIfInBounds_toArray, List.set_cons_zero, List.set_cons_succ]
  refine wpAnyH_take (i := 10) (oi := _) (v := ?_) rfl (by kernel_rfl) (by kernel_rfl) (by kernel_rfl) (fun _ _ _ h => h) (Or.inl ⟨by rfl, ?_⟩) hHeld ?_
  rotate_left
  · intro w hSw
    try dsimp only at hSw
    go_simp
    try with_reducible rfl
  try simp only [List.getElem_toArray, List.getElem_cons_succ, List.getElem_cons_zero, Act.put, List.setIfInBounds_toArray, List.set_cons_zero, List.set_cons_succ]
  refine wpAnyH_take (i := 11) (oi := _) (v := ?_) rfl (by kernel_rfl) (by kernel_rfl) (by kernel_rfl) (fun _ _ _ h => h) (Or.inl ⟨by rfl, ?_⟩) hHeld ?_
  rotate_left
  · intro w hSw
    try dsimp only at hSw
    go_simp
    try with_reducible rfl
  try simp only [List.getElem_toArray, List.getElem_cons_succ, List.getElem_cons_zero, Act.put, List.setIfInBounds_toArray, List.set_cons_zero, List.set_cons_succ]
  refine wpAnyH_take (i := 15) (oi := _) (v := ?_) rfl (by kernel_rfl) (by kernel_rfl) (by kernel_rfl) (fun _ _ _ h => h) (Or.inl ⟨by rfl, ?_⟩) hHeld ?_
  rotate_left
  · intro w hSw
    try dsimp only at hSw
    go_simp
    try with_reducible rfl
  try simp only [List.getElem_toArray, List.getElem_cons_succ, List.getElem_cons_zero, Act.put, List.setIfInBounds_toArray, List.set_cons_zero, List.set_cons_succ]
  refine wpAnyH_ready (rs := [12]) (by kernel_rfl) (by simp) ?_
  refine AllReadyH.cons (o := _) rfl (fun K hK => ?_) AllReadyH.nil
  go_simp
  (go_at_call 27; refine (rper_ok _ _ _ _ _ _ h).mono ?_; rintro e w' ⟨rfl, hb⟩)
  go_wp2_with fail
  refine hK.out _ _ ?_ (fun hHeld => ?_)
  · try dsimp only
    (first | exact startS _ _ _ _ _ _ _ | (go_split_ands; exact keepS hb ‹_› ‹_› ‹_› ‹_› ‹_› ‹_›) | go_keep)
  clear hK K
  try simp only [List.getElem_toArray, List.getElem_cons_succ, List.getElem_cons_zero, Act.put, List.setIfInBounds_toArray, List.set_cons_zero, List.set_cons_succ]
  refine wpAnyH_take (i := 13) (oi := _) (v := ?_) rfl (by kernel_rfl) (by kernel_rfl) (by kernel_rfl) (fun _ _ _ h => h) (Or.inl ⟨by rfl, ?_⟩) hHeld ?_
  rotate_left
  · intro w hSw
    try dsimp only at hSw
    go_simp
    try with_reducible rfl
  try simp only [List.getElem_toArray, List.getElem_cons_succ, List.getElem_cons_zero, Act.put, List.setIfInBounds_toArray, List.set_cons_zero, List.set_cons_succ]
  refine wpAnyH_take (i := 14) (oi := _) (v := ?_) rfl (by kernel_rfl) (by kernel_rfl) (by kernel_rfl) (fun _ _ _ h => h) (Or.inl ⟨by rfl, ?_⟩) hHeld ?_
  rotate_left
  · intro w hSw
    try dsimp only at hSw
    go_simp
    try with_reducible rfl
  try simp only [List.getElem_toArray, List.getElem_cons_succ, List.getElem_cons_zero, Act.put, List.setIfInBounds_toArray, List.set_cons_zero, List.set_cons_succ]
  refine wpAnyH_take (i := 16) (oi := _) (v := ?_) rfl (by kernel_rfl) (by kernel_rfl) (by kernel_rfl) (fun _ _ _ h => h) (Or.inl ⟨by rfl, ?_⟩) hHeld ?_
  rotate_left
  · intro w hSw
    try dsimp only at hSw
    go_simp
    try with_reducible rfl
  try simp only [List.getElem_toArray, List.getElem_cons_succ, List.getElem_cons_zero, Act.put, List.setIfInBounds_toArray, List.set_cons_zero, List.set_cons_succ]
  refine wpAnyH_take (i := 17) (oi := _) (v := ?_) rfl (by kernel_rfl) (by kernel_rfl) (by kernel_rfl) (fun _ _ _ h => h) (Or.inl ⟨by rfl, ?_⟩) hHeld ?_
  rotate_left
  · intro w hSw
    try dsimp only at hSw
    go_simp
    try with_reducible rfl
  try simp only [List.getElem_toArray, List.getElem_cons_succ, List.getElem_cons_zero, Act.put, List.setIfInBounds_toArray, List.set_cons_zero, List.set_cons_succ]
  refine wpAnyH_done (by kernel_rfl) ?_ _
  go_wp2_with fail
  go_ret
  exact ⟨rfl, by go_split_ands; assumption⟩
theorem ltold_yes (n : Int) (e : Int) (w : World) :
    Calls Try.prog 24 #[.int .i64 n, .int .i64 0, .bool true, .int .i64 n, .int .i64 e] w fun e w' => e = .returned (.bool true) ∧ w = w' := by
  go_enter Try.func24, Try.ntmps24
  go_wp2
  go_ret
  simp
theorem ltold_no (m e : Int) (w : World) :
    Calls Try.prog 24 #[.int .i64 0, .int .i64 e, .bool false, .int .i64 m, .int .i64 e] w fun e w' => e = .returned (.bool true) ∧ w = w' := by
  go_enter Try.func24, Try.ntmps24
  go_wp2
  go_ret
  simp
theorem rslot_is (z d s l a : Int) (w : World) (h : okB z d s l a = true) :
    Calls Try.prog 28 #[.agg #[.int .i64 z, .int .i64 d, .int .i64 s, .int .i64 l, .int .i64 a], .int .i64 0, .int .i64 0] w fun e w' => e = .returned (.int .i64 (a + 2 * l + 2 * z)) ∧ Below w.heap.size w w' := by
  have := rslot_ok z d s l a 0 0 w h (by decide) (by decide)
  rwa [Int.zero_mul, Int.add_zero, Int.add_zero] at this
theorem rset1 (z d s l a x : Int) (w : World) (h : okB z d s l a = true) (h1 : x < a) :
    Calls Try.prog 29 #[.agg #[.int .i64 z, .int .i64 d, .int .i64 s, .int .i64 l, .int .i64 a], .int .i64 x] w fun e w' => e = .returned (.int .i64 (z + l + z)) ∧ Below w.heap.size w w' := by
  have bd := okB_bounds h
  clear h
  go_enter Try.func29, Try.ntmps29
  go_wp2_with fail
  go_ret
  exact ⟨rfl, (Below.refl _ _).alloc (Nat.le_refl _) _⟩
theorem rset2 (z d s l a x : Int) (w : World) (h : okB z d s l a = true) (h1 : ¬ x < a) (h2 : x < a + 2 * l) :
    Calls Try.prog 29 #[.agg #[.int .i64 z, .int .i64 d, .int .i64 s, .int .i64 l, .int .i64 a], .int .i64 x] w fun e w' => e = .returned (.int .i64 (z + (x - a) % l)) ∧ Below w.heap.size w w' := by
  have bd := okB_bounds h
  have m0 : 0 ≤ (x - a) % l := Int.emod_nonneg _ (by omega)
  have m1 : (x - a) % l < l := Int.emod_lt_of_pos _ (by omega)
  have m2 : 0 ≤ x - a := by omega
  have tm : (x - a).tmod l = (x - a) % l := Int.tmod_eq_emod_of_nonneg m2
  have e1 : IntKind.i64.wrap (x - a) = x - a := w64 (by omega) (by omega)
  have e2 : IntKind.i64.wrap (z + (x - a) % l) = z + (x - a) % l := w64 (by omega) (by omega)
  clear h
  go_enter Try.func29, Try.ntmps29
  go_wp2_with fail
  go_quiet (fail)
  go_wp2_with fail
  go_ret
  exact ⟨rfl, Below.drewN_ ((Below.refl _ _).alloc (Nat.le_refl _) _) _⟩
theorem rset3 (z d s l a x : Int) (w : World) (h : okB z d s l a = true) (h1 : ¬ x < a) (h2 : ¬ x < a + 2 * l) (h3 : x < a + 2 * l + 2 * z) :
    Calls Try.prog 29 #[.agg #[.int .i64 z, .int .i64 d, .int .i64 s, .int .i64 l, .int .i64 a], .int .i64 x] w fun e w' => e = .returned (.int .i64 (z + l + (x - a - 2 * l) / 2)) ∧ Below w.heap.size w w' := by
  have bd := okB_bounds h
  go_enter Try.func29, Try.ntmps29
  go_wp2_with fail
  refine (rslot_is _ _ _ _ _ _ h).mono ?_
  rintro e w1 ⟨rfl, hb1⟩
  have G : BoxS w (.int .i64 z) (.int .i64 d) (.int .i64 s) (.int .i64 l) (.int .i64 a) w1 := (BoxS.start ..).step hb1
  have k0 := G.2.1
  have k1 := G.2.2.1
  have k2 := G.2.2.2.1
  have k3 := G.2.2.2.2.1
  have k4 := G.2.2.2.2.2
  go_wp2_with fail
  go_ret
  exact ⟨rfl, G.1⟩
theorem rset4 (z d s l a x : Int) (w : World) (h : okB z d s l a = true) (h1 : ¬ x < a) (h2 : ¬ x < a + 2 * l) (h3 : ¬ x < a + 2 * l + 2 * z) (h4 : x < a + 2 * l + 2 * z + z * (d + 1 + s)) :
    Calls Try.prog 29 #[.agg #[.int .i64 z, .int .i64 d, .int .i64 s, .int .i64 l, .int .i64 a], .int .i64 x] w fun e w' => e = .returned (.int .i64 ((x - (a + 2 * l + 2 * z)) / (d + 1 + s))) ∧ Below w.heap.size w w' := by
  have bd := okB_bounds h
  obtain ⟨zp0, zp1⟩ := zp_bounds h
  have m2 : 0 ≤ x - (a + 2 * l + 2 * z) := by omega
  have q0 : 0 ≤ (x - (a + 2 * l + 2 * z)) / (d + 1 + s) := Int.ediv_nonneg m2 (by omega)
  have q1 : (x - (a + 2 * l + 2 * z)) / (d + 1 + s) ≤ x - (a + 2 * l + 2 * z) := Int.ediv_le_self _ m2
  have tm : (x - (a + 2 * l + 2 * z)).tdiv (d + 1 + s) = (x - (a + 2 * l + 2 * z)) / (d + 1 + s) := Int.tdiv_eq_ediv_of_nonneg m2
  have n0 : ¬ d + 1 + s = 0 := by omega
  have n1 : 1 ≤ d + 1 + s := by omega
  have e1 : IntKind.i64.wrap (x - (a + 2 * l + 2 * z)) = x - (a + 2 * l + 2 * z) := w64 (by omega) (by omega)
  have e2 : IntKind.i64.wrap ((x - (a + 2 * l + 2 * z)) / (d + 1 + s)) = (x - (a + 2 * l + 2 * z)) / (d + 1 + s) := w64 (by omega) (by omega)
  go_enter Try.func29, Try.ntmps29
  go_wp2_with fail
  refine (rslot_is _ _ _ _ _ _ h).mono ?_
  rintro e w1 ⟨rfl, hb1⟩
  have G : BoxS w (.int .i64 z) (.int .i64 d) (.int .i64 s) (.int .i64 l) (.int .i64 a) w1 := (BoxS.start ..).step hb1
  have k0 := G.2.1
  have k1 := G.2.2.1
  have k2 := G.2.2.2.1
  have k3 := G.2.2.2.2.1
  have k4 := G.2.2.2.2.2
  go_wp2_with fail
  refine wp_region_held_drew (S := (fun w' => Below w.heap.size w w' ∧ w'.cell? ⟨w.heap.size, 0, none⟩ = some (.int .i64 z) ∧ w'.cell? ⟨w.heap.size, 1, none⟩ = some (.int .i64 d) ∧ w'.cell? ⟨w.heap.size, 2, none⟩ = some (.int .i64 s) ∧ w'.cell? ⟨w.heap.size, 3, none⟩ = some (.int .i64 l) ∧ w'.cell? ⟨w.heap.size, 4, none⟩ = some (.int .i64 a))) (by kernel_rfl) ?_ (fun hHeld => ?_)
  · try dsimp only
    exact G.drew
  refine wpAnyH_take (i := 0) (oi := _) (v := ?_) rfl (by kernel_rfl) (by kernel_rfl) (by kernel_rfl) (fun _ _ _ h => h) (Or.inl ⟨by rfl, ?_⟩) hHeld ?_
  rotate_left
  · intro w hSw
    try dsimp only at hSw
    go_simp
    try with_reducible rfl
  try simp only [List.getElem_toArray, List.getElem_cons_zero, Act.put, List.setIfInBounds_toArray, List.set_cons_zero, List.set_cons_succ]
  refine wpAnyH_take (i := 1) (oi := _) (v := ?_) rfl (by kernel_rfl) (by kernel_rfl) (by kernel_rfl) (fun _ _ _ h => h) (Or.inl ⟨by rfl, ?_⟩) hHeld ?_
  rotate_left
  · intro w hSw
    try dsimp only at hSw
    go_simp
    try with_reducible rfl
  try simp only [List.getElem_toArray, List.getElem_cons_succ, List.getElem_cons_zero, Act.put, List.setIfInBounds_toArray, List.set_cons_zero, List.set_cons_succ]
  refine wpAnyH_take (i := 4) (oi := _) (v := ?_) rfl (by kernel_rfl) (by kernel_rfl) (by kernel_rfl) (fun _ _ _ h => h) (Or.inl ⟨by rfl, ?_⟩) hHeld ?_
  rotate_left
  · intro w hSw
    try dsimp only at hSw
    go_simp
    try with_reducible rfl
  try simp only [List.getElem_toArray, List.getElem_cons_succ, List.getElem_cons_zero, Act.put, List.setIfInBounds_toArray, List.set_cons_zero, List.set_cons_succ]
  refine wpAnyH_ready (rs := [2]) (by kernel_rfl) (by simp) ?_
  refine AllReadyH.cons (o := _) rfl (fun K hK => ?_) AllReadyH.nil
  go_simp
  (go_at_call 28; refine (rslot_is _ _ _ _ _ _ h).mono ?_; rintro e w' ⟨rfl, hb⟩)
  go_wp2_with fail
  refine hK.out _ _ ?_ (fun hHeld => ?_)
  · try dsimp only
    (first | exact startS _ _ _ _ _ _ _ | exact G.drew | (go_split_ands; exact keepS hb ‹_› ‹_› ‹_› ‹_› ‹_› ‹_›) | go_keep)
  clear hK K
  try simp only [List.getElem_toArray, List.getElem_cons_succ, List.getElem_cons_zero, Act.put, List.setIfInBounds_toArray, List.set_cons_zero, List.set_cons_succ]
  refine wpAnyH_take (i := 3) (oi := _) (v := ?_) rfl (by kernel_rfl) (by kernel_rfl) (by kernel_rfl) (fun _ _ _ h => h) (Or.inl ⟨by rfl, ?_⟩) hHeld ?_
  rotate_left
  · intro w hSw
    try dsimp only at hSw
    go_simp
    try with_reducible rfl
  try simp only [List.getElem_toArray, List.getElem_cons_succ, List.getElem_cons_zero, Act.put, List.setIfInBounds_toArray, List.set_cons_zero, List.set_cons_succ]
  refine wpAnyH_ready (rs := [5]) (by kernel_rfl) (by simp) ?_
  refine AllReadyH.cons (o := _) rfl (fun K hK => ?_) AllReadyH.nil
  go_simp
  (go_at_call 27; refine (rper_ok _ _ _ _ _ _ h).mono ?_; rintro e w' ⟨rfl, hb⟩)
  go_wp2_with fail
  refine hK.out _ _ ?_ (fun hHeld => ?_)
  · try dsimp only
    (first | exact startS _ _ _ _ _ _ _ | exact G.drew | (go_split_ands; exact keepS hb ‹_› ‹_› ‹_› ‹_› ‹_› ‹_›) | go_keep)
  clear hK K
  try simp only [List.getElem_toArray, List.getElem_cons_succ, List.getElem_cons_zero, Act.put, List.setIfInBounds_toArray, List.set_cons_zero, List.set_cons_succ]
  refine wpAnyH_take (i := 6) (oi := _) (v := ?_) rfl (by kernel_rfl) (by kernel_rfl) (by kernel_rfl) (fun _ _ _ h => h) (Or.inl ⟨by rfl, ?_⟩) hHeld ?_
  rotate_left
  · intro w hSw
    try dsimp only at hSw
    go_simp
    try with_reducible rfl
  try simp only [List.getElem_toArray, List.getElem_cons_succ, List.getElem_cons_zero, Act.put, List.setIfInBounds_toArray, List.set_cons_zero, List.set_cons_succ]
  refine wpAnyH_take (i := 7) (oi := _) (v := ?_) rfl (by kernel_rfl) (by kernel_rfl) (by kernel_rfl) (fun _ _ _ h => h) (Or.inl ⟨by rfl, ?_⟩) hHeld ?_
  rotate_left
  · intro w hSw
    try dsimp only at hSw
    go_simp
    try with_reducible rfl
  try simp only [List.getElem_toArray, List.getElem_cons_succ, List.getElem_cons_zero, Act.put, List.setIfInBounds_toArray, List.set_cons_zero, List.set_cons_succ]
  refine wpAnyH_done (by kernel_rfl) ?_ _
  go_wp2_with fail
  go_ret
  exact ⟨rfl, by go_split_ands; assumption⟩
end Go.Proofs.Ytigibbekbncpiaa

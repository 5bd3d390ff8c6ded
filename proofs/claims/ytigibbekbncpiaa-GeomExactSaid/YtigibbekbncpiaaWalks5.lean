/-
  Set, kin; and that they part the cells alike.
-/
import Derived.Test.YtigibbekbncpiaaWalks4
namespace Go.Proofs.Ytigibbekbncpiaa
open Go.ChangeShapes Go.WideShapes Go.ChangeAt Go.RowKit
set_option linter.unusedVariables false

theorem Set_yes (z d s l a x : Int) (w : World) (hx : x ≤ 9223372036854775807) (h : okB z d s l a = true) (hi : inB x 0 (a + 2 * l + 2 * z + z * (d + 1 + s) - 1) = true) :
    Calls Try.prog 20 #[.agg #[.int .i64 z, .int .i64 d, .int .i64 s, .int .i64 l, .int .i64 a], .int .i64 x] w fun e w' => e = .returned (.tuple #[.int .i64 (setF z d s l a x), .int .i64 0]) ∧ Below w.heap.size w w' := by
  have bd := okB_bounds h
  obtain ⟨zp0, zp1⟩ := zp_bounds h
  have e1 : IntKind.i64.wrap (a + 2 * l + 2 * z + z * (d + 1 + s) - 1) = a + 2 * l + 2 * z + z * (d + 1 + s) - 1 := w64 (by omega) (by omega)
  go_enter Try.func20, Try.ntmps20
  go_wp2_with fail
  refine (check_ok _ _ _ _ _ _ h).mono ?_
  rintro e w1 ⟨rfl, hb1⟩
  have G : BoxS w (.int .i64 z) (.int .i64 d) (.int .i64 s) (.int .i64 l) (.int .i64 a) w1 := (BoxS.start ..).step hb1
  have k0 := G.2.1
  have k1 := G.2.2.1
  have k2 := G.2.2.2.1
  have k3 := G.2.2.2.2.1
  have k4 := G.2.2.2.2.2
  go_wp2_with fail
  refine wp_region_held_drew (S := (fun w' => Below w.heap.size w w' ∧ w'.cell? ⟨w.heap.size, 0, none⟩ = some (.int .i64 z) ∧ w'.cell? ⟨w.heap.size, 1, none⟩ = some (.int .i64 d) ∧ w'.cell? ⟨w.heap.size, 2, none⟩ = some (.int .i64 s) ∧ w'.cell? ⟨w.heap.size, 3, none⟩ = some (.int .i64 l) ∧ w'.cell? ⟨w.heap.size, 4, none⟩ = some (.int .i64 a))) (by kernel_rfl) ?_ (fun hHeld => ?_)
  · try dsimp only
    exact G.drew
  refine wpAnyH_take (i := 0) (oi := _) (v := ?_) rfl (by kernel_rfl) (by kernel_rfl) (by kernel_rfl) (fun _ _ _ h => h) (Or.inl ⟨by rfl, ?_⟩) hHeld ?_
  rotate_left
  · intro w hSw
    try dsimp only at hSw
    go_simp
    try with_reducible rfl
  try simp only [List.getElem_toArray, List.getElem_cons_zero, Act.put, List.setIfInBounds_toArray, List.set_cons_zero, List.set_cons_succ]
  refine wpAnyH_take (i := 1) (oi := _) (v := ?_) rfl (by kernel_rfl) (by kernel_rfl) (by kernel_rfl) (fun _ _ _ h => h) (Or.inl ⟨by rfl, ?_⟩) hHeld ?_
  rotate_left
  · intro w hSw
    try dsimp only at hSw
    go_simp
    try with_reducible rfl
  try simp only [List.getElem_toArray, List.getElem_cons_succ, List.getElem_cons_zero, Act.put, List.setIfInBounds_toArray, List.set_cons_zero, List.set_cons_succ]
  refine wpAnyH_take (i := 2) (oi := _) (v := ?_) rfl (by kernel_rfl) (by kernel_rfl) (by kernel_rfl) (fun _ _ _ h => h) (Or.inl ⟨by rfl, ?_⟩) hHeld ?_
  rotate_left
  · intro w hSw
    try dsimp only at hSw
    go_simp
    try with_reducible rfl
  try simp only [List.getElem_toArray, List.getElem_cons_succ, List.getElem_cons_zero, Act.put, List.setIfInBounds_toArray, List.set_cons_zero, List.set_cons_succ]
  refine wpAnyH_take (i := 4) (oi := _) (v := ?_) rfl (by kernel_rfl) (by kernel_rfl) (by kernel_rfl) (fun _ _ _ h => h) (Or.inl ⟨by rfl, ?_⟩) hHeld ?_
  rotate_left
  · intro w hSw
    try dsimp only at hSw
    go_simp
    try with_reducible rfl
  try simp only [List.getElem_toArray, List.getElem_cons_succ, List.getElem_cons_zero, Act.put, List.setIfInBounds_toArray, List.set_cons_zero, List.set_cons_succ]
  refine wpAnyH_take (i := 5) (oi := _) (v := ?_) rfl (by kernel_rfl) (by kernel_rfl) (by kernel_rfl) (fun _ _ _ h => h) (Or.inl ⟨by rfl, ?_⟩) hHeld ?_
  rotate_left
  · intro w hSw
    try dsimp only at hSw
    go_simp
    try with_reducible rfl
  try simp only [List.getElem_toArray, List.getElem_cons_succ, List.getElem_cons_zero, Act.put, List.setIfInBounds_toArray, List.set_cons_zero, List.set_cons_succ]
  refine wpAnyH_ready (rs := [3]) (by kernel_rfl) (by simp) ?_
  refine AllReadyH.cons (o := _) rfl (fun K hK => ?_) AllReadyH.nil
  go_simp
  (go_at_call 36; refine (set_ok _ _ _ _ _ _ _ hx h).mono ?_; rintro e w' ⟨rfl, hb⟩)
  go_wp2_with fail
  refine hK.out _ _ ?_ (fun hHeld => ?_)
  · try dsimp only
    (first | exact G.drew | (go_split_ands; exact keepS hb ‹_› ‹_› ‹_› ‹_› ‹_› ‹_›) | go_keep)
  clear hK K
  try simp only [List.getElem_toArray, List.getElem_cons_succ, List.getElem_cons_zero, Act.put, List.setIfInBounds_toArray, List.set_cons_zero, List.set_cons_succ]
  refine wpAnyH_ready (rs := [6]) (by kernel_rfl) (by simp) ?_
  refine AllReadyH.cons (o := _) rfl (fun K hK => ?_) AllReadyH.nil
  go_simp
  (go_at_call 31; refine (cells_ok _ _ _ _ _ _ h).mono ?_; rintro e w' ⟨rfl, hb⟩)
  go_wp2_with fail
  refine hK.out _ _ ?_ (fun hHeld => ?_)
  · try dsimp only
    (first | exact G.drew | (go_split_ands; exact keepS hb ‹_› ‹_› ‹_› ‹_› ‹_› ‹_›) | go_keep)
  clear hK K
  try simp only [List.getElem_toArray, List.getElem_cons_succ, List.getElem_cons_zero, Act.put, List.setIfInBounds_toArray, List.set_cons_zero, List.set_cons_succ]
  refine wpAnyH_take (i := 7) (oi := _) (v := ?_) rfl (by kernel_rfl) (by kernel_rfl) (by kernel_rfl) (fun _ _ _ h => h) (Or.inl ⟨by rfl, ?_⟩) hHeld ?_
  rotate_left
  · intro w hSw
    try dsimp only at hSw
    go_simp
    try with_reducible rfl
  try simp only [List.getElem_toArray, List.getElem_cons_succ, List.getElem_cons_zero, Act.put, List.setIfInBounds_toArray, List.set_cons_zero, List.set_cons_succ]
  refine wpAnyH_ready (rs := [8]) (by kernel_rfl) (by simp) ?_
  refine AllReadyH.cons (o := _) rfl (fun K hK => ?_) AllReadyH.nil
  go_simp
  (go_at_call 32; ((with_reducible refine (in_yes _ _ _ _ hi).mono ?_); rintro e w' ⟨rfl, rfl⟩))
  go_wp2_with fail
  refine hK.out _ _ ?_ (fun hHeld => ?_)
  · try dsimp only
    (first | exact G.drew | (go_split_ands; exact keepS hb ‹_› ‹_› ‹_› ‹_› ‹_› ‹_›) | go_keep)
  clear hK K
  try simp only [List.getElem_toArray, List.getElem_cons_succ, List.getElem_cons_zero, Act.put, List.setIfInBounds_toArray, List.set_cons_zero, List.set_cons_succ]
  refine wpAnyH_ready (rs := [9]) (by kernel_rfl) (by simp) ?_
  refine AllReadyH.cons (o := _) rfl (fun K hK => ?_) AllReadyH.nil
  go_simp
  (go_at_call 30; refine (told_yes _ _ _ _ _ _ _ h).mono ?_; rintro e w' ⟨rfl, hb⟩)
  go_wp2_with fail
  refine hK.out _ _ ?_ (fun hHeld => ?_)
  · try dsimp only
    (first | exact G.drew | (go_split_ands; exact keepS hb ‹_› ‹_› ‹_› ‹_› ‹_› ‹_›) | go_keep)
  clear hK K
  try simp only [List.getElem_toArray, List.getElem_cons_succ, List.getElem_cons_zero, Act.put, List.setIfInBounds_toArray, List.set_cons_zero, List.set_cons_succ]
  refine wpAnyH_take (i := 10) (oi := _) (v := ?_) rfl (by kernel_rfl) (by kernel_rfl) (by kernel_rfl) (fun _ _ _ h => h) (Or.inl ⟨by rfl, ?_⟩) hHeld ?_
  rotate_left
  · intro w hSw
    try dsimp only at hSw
    go_simp
    try with_reducible rfl
  try simp only [List.getElem_toArray, List.getElem_cons_succ, List.getElem_cons_zero, Act.put, List.setIfInBounds_toArray, List.set_cons_zero, List.set_cons_succ]
  refine wpAnyH_take (i := 11) (oi := _) (v := ?_) rfl (by kernel_rfl) (by kernel_rfl) (by kernel_rfl) (fun _ _ _ h => h) (Or.inl ⟨by rfl, ?_⟩) hHeld ?_
  rotate_left
  · intro w hSw
    try dsimp only at hSw
    go_simp
    try with_reducible rfl
  try simp only [List.getElem_toArray, List.getElem_cons_succ, List.getElem_cons_zero, Act.put, List.setIfInBounds_toArray, List.set_cons_zero, List.set_cons_succ]
  refine wpAnyH_take (i := 12) (oi := _) (v := ?_) rfl (by kernel_rfl) (by kernel_rfl) (by kernel_rfl) (fun _ _ _ h => h) (Or.inl ⟨by rfl, ?_⟩) hHeld ?_
  rotate_left
  · intro w hSw
    try dsimp only at hSw
    go_simp
    try with_reducible rfl
  try simp only [List.getElem_toArray, List.getElem_cons_succ, List.getElem_cons_zero, Act.put, List.setIfInBounds_toArray, List.set_cons_zero, List.set_cons_succ]
  refine wpAnyH_take (i := 13) (oi := _) (v := ?_) rfl (by kernel_rfl) (by kernel_rfl) (by kernel_rfl) (fun _ _ _ h => h) (Or.inl ⟨by rfl, ?_⟩) hHeld ?_
  rotate_left
  · intro w hSw
    try dsimp only at hSw
    go_simp
    try with_reducible rfl
  try simp only [List.getElem_toArray, List.getElem_cons_succ, List.getElem_cons_zero, Act.put, List.setIfInBounds_toArray, List.set_cons_zero, List.set_cons_succ]
  refine wpAnyH_done (by kernel_rfl) ?_ _
  go_wp2_with fail
  go_ret2
  exact ⟨rfl, by go_split_ands; assumption⟩
theorem Set_no (z d s l a x : Int) (w : World) (hx : x ≤ 9223372036854775807) (h : okB z d s l a = true) (hi : inB x 0 (a + 2 * l + 2 * z + z * (d + 1 + s) - 1) = false) :
    Calls Try.prog 20 #[.agg #[.int .i64 z, .int .i64 d, .int .i64 s, .int .i64 l, .int .i64 a], .int .i64 x] w fun e w' => e = .returned (.tuple #[.int .i64 (0), .int .i64 1]) ∧ Below w.heap.size w w' := by
  have bd := okB_bounds h
  obtain ⟨zp0, zp1⟩ := zp_bounds h
  have e1 : IntKind.i64.wrap (a + 2 * l + 2 * z + z * (d + 1 + s) - 1) = a + 2 * l + 2 * z + z * (d + 1 + s) - 1 := w64 (by omega) (by omega)
  go_enter Try.func20, Try.ntmps20
  go_wp2_with fail
  refine (check_ok _ _ _ _ _ _ h).mono ?_
  rintro e w1 ⟨rfl, hb1⟩
  have G : BoxS w (.int .i64 z) (.int .i64 d) (.int .i64 s) (.int .i64 l) (.int .i64 a) w1 := (BoxS.start ..).step hb1
  have k0 := G.2.1
  have k1 := G.2.2.1
  have k2 := G.2.2.2.1
  have k3 := G.2.2.2.2.1
  have k4 := G.2.2.2.2.2
  go_wp2_with fail
  refine wp_region_held_drew (S := (fun w' => Below w.heap.size w w' ∧ w'.cell? ⟨w.heap.size, 0, none⟩ = some (.int .i64 z) ∧ w'.cell? ⟨w.heap.size, 1, none⟩ = some (.int .i64 d) ∧ w'.cell? ⟨w.heap.size, 2, none⟩ = some (.int .i64 s) ∧ w'.cell? ⟨w.heap.size, 3, none⟩ = some (.int .i64 l) ∧ w'.cell? ⟨w.heap.size, 4, none⟩ = some (.int .i64 a))) (by kernel_rfl) ?_ (fun hHeld => ?_)
  · try dsimp only
    exact G.drew
  refine wpAnyH_take (i := 0) (oi := _) (v := ?_) rfl (by kernel_rfl) (by kernel_rfl) (by kernel_rfl) (fun _ _ _ h => h) (Or.inl ⟨by rfl, ?_⟩) hHeld ?_
  rotate_left
  · intro w hSw
    try dsimp only at hSw
    go_simp
    try with_reducible rfl
  try simp only [List.getElem_toArray, List.getElem_cons_zero, Act.put, List.setIfInBounds_toArray, List.set_cons_zero, List.set_cons_succ]
  refine wpAnyH_take (i := 1) (oi := _) (v := ?_) rfl (by kernel_rfl) (by kernel_rfl) (by kernel_rfl) (fun _ _ _ h => h) (Or.inl ⟨by rfl, ?_⟩) hHeld ?_
  rotate_left
  · intro w hSw
    try dsimp only at hSw
    go_simp
    try with_reducible rfl
  try simp only [List.getElem_toArray, List.getElem_cons_succ, List.getElem_cons_zero, Act.put, List.setIfInBounds_toArray, List.set_cons_zero, List.set_cons_succ]
  refine wpAnyH_take (i := 2) (oi := _) (v := ?_) rfl (by kernel_rfl) (by kernel_rfl) (by kernel_rfl) (fun _ _ _ h => h) (Or.inl ⟨by rfl, ?_⟩) hHeld ?_
  rotate_left
  · intro w hSw
    try dsimp only at hSw
    go_simp
    try with_reducible rfl
  try simp only [List.getElem_toArray, List.getElem_cons_succ, List.getElem_cons_zero, Act.put, List.setIfInBounds_toArray, List.set_cons_zero, List.set_cons_succ]
  refine wpAnyH_take (i := 4) (oi := _) (v := ?_) rfl (by kernel_rfl) (by kernel_rfl) (by kernel_rfl) (fun _ _ _ h => h) (Or.inl ⟨by rfl, ?_⟩) hHeld ?_
  rotate_left
  · intro w hSw
    try dsimp only at hSw
    go_simp
    try with_reducible rfl
  try simp only [List.getElem_toArray, List.getElem_cons_succ, List.getElem_cons_zero, Act.put, List.setIfInBounds_toArray, List.set_cons_zero, List.set_cons_succ]
  refine wpAnyH_take (i := 5) (oi := _) (v := ?_) rfl (by kernel_rfl) (by kernel_rfl) (by kernel_rfl) (fun _ _ _ h => h) (Or.inl ⟨by rfl, ?_⟩) hHeld ?_
  rotate_left
  · intro w hSw
    try dsimp only at hSw
    go_simp
    try with_reducible rfl
  try simp only [List.getElem_toArray, List.getElem_cons_succ, List.getElem_cons_zero, Act.put, List.setIfInBounds_toArray, List.set_cons_zero, List.set_cons_succ]
  refine wpAnyH_ready (rs := [3]) (by kernel_rfl) (by simp) ?_
  refine AllReadyH.cons (o := _) rfl (fun K hK => ?_) AllReadyH.nil
  go_simp
  (go_at_call 36; refine (set_ok _ _ _ _ _ _ _ hx h).mono ?_; rintro e w' ⟨rfl, hb⟩)
  go_wp2_with fail
  refine hK.out _ _ ?_ (fun hHeld => ?_)
  · try dsimp only
    (first | exact G.drew | (go_split_ands; exact keepS hb ‹_› ‹_› ‹_› ‹_› ‹_› ‹_›) | go_keep)
  clear hK K
  try simp only [List.getElem_toArray, List.getElem_cons_succ, List.getElem_cons_zero, Act.put, List.setIfInBounds_toArray, List.set_cons_zero, List.set_cons_succ]
  refine wpAnyH_ready (rs := [6]) (by kernel_rfl) (by simp) ?_
  refine AllReadyH.cons (o := _) rfl (fun K hK => ?_) AllReadyH.nil
  go_simp
  (go_at_call 31; refine (cells_ok _ _ _ _ _ _ h).mono ?_; rintro e w' ⟨rfl, hb⟩)
  go_wp2_with fail
  refine hK.out _ _ ?_ (fun hHeld => ?_)
  · try dsimp only
    (first | exact G.drew | (go_split_ands; exact keepS hb ‹_› ‹_› ‹_› ‹_› ‹_› ‹_›) | go_keep)
  clear hK K
  try simp only [List.getElem_toArray, List.getElem_cons_succ, List.getElem_cons_zero, Act.put, List.setIfInBounds_toArray, List.set_cons_zero, List.set_cons_succ]
  refine wpAnyH_take (i := 7) (oi := _) (v := ?_) rfl (by kernel_rfl) (by kernel_rfl) (by kernel_rfl) (fun _ _ _ h => h) (Or.inl ⟨by rfl, ?_⟩) hHeld ?_
  rotate_left
  · intro w hSw
    try dsimp only at hSw
    go_simp
    try with_reducible rfl
  try simp only [List.getElem_toArray, List.getElem_cons_succ, List.getElem_cons_zero, Act.put, List.setIfInBounds_toArray, List.set_cons_zero, List.set_cons_succ]
  refine wpAnyH_ready (rs := [8]) (by kernel_rfl) (by simp) ?_
  refine AllReadyH.cons (o := _) rfl (fun K hK => ?_) AllReadyH.nil
  go_simp
  (go_at_call 32; ((with_reducible refine (in_no _ _ _ _ hi).mono ?_); rintro e w' ⟨rfl, rfl⟩))
  go_wp2_with fail
  refine hK.out _ _ ?_ (fun hHeld => ?_)
  · try dsimp only
    (first | exact G.drew | (go_split_ands; exact keepS hb ‹_› ‹_› ‹_› ‹_› ‹_› ‹_›) | go_keep)
  clear hK K
  try simp only [List.getElem_toArray, List.getElem_cons_succ, List.getElem_cons_zero, Act.put, List.setIfInBounds_toArray, List.set_cons_zero, List.set_cons_succ]
  refine wpAnyH_ready (rs := [9]) (by kernel_rfl) (by simp) ?_
  refine AllReadyH.cons (o := _) rfl (fun K hK => ?_) AllReadyH.nil
  go_simp
  (go_at_call 30; refine (told_no _ _ _ _ _ _ _ h).mono ?_; rintro e w' ⟨rfl, hb⟩)
  go_wp2_with fail
  refine hK.out _ _ ?_ (fun hHeld => ?_)
  · try dsimp only
    (first | exact G.drew | (go_split_ands; exact keepS hb ‹_› ‹_› ‹_› ‹_› ‹_› ‹_›) | go_keep)
  clear hK K
  try simp only [List.getElem_toArray, List.getElem_cons_succ, List.getElem_cons_zero, Act.put, List.setIfInBounds_toArray, List.set_cons_zero, List.set_cons_succ]
  refine wpAnyH_take (i := 10) (oi := _) (v := ?_) rfl (by kernel_rfl) (by kernel_rfl) (by kernel_rfl) (fun _ _ _ h => h) (Or.inl ⟨by rfl, ?_⟩) hHeld ?_
  rotate_left
  · intro w hSw
    try dsimp only at hSw
    go_simp
    try with_reducible rfl
  try simp only [List.getElem_toArray, List.getElem_cons_succ, List.getElem_cons_zero, Act.put, List.setIfInBounds_toArray, List.set_cons_zero, List.set_cons_succ]
  refine wpAnyH_take (i := 11) (oi := _) (v := ?_) rfl (by kernel_rfl) (by kernel_rfl) (by kernel_rfl) (fun _ _ _ h => h) (Or.inl ⟨by rfl, ?_⟩) hHeld ?_
  rotate_left
  · intro w hSw
    try dsimp only at hSw
    go_simp
    try with_reducible rfl
  try simp only [List.getElem_toArray, List.getElem_cons_succ, List.getElem_cons_zero, Act.put, List.setIfInBounds_toArray, List.set_cons_zero, List.set_cons_succ]
  refine wpAnyH_take (i := 12) (oi := _) (v := ?_) rfl (by kernel_rfl) (by kernel_rfl) (by kernel_rfl) (fun _ _ _ h => h) (Or.inl ⟨by rfl, ?_⟩) hHeld ?_
  rotate_left
  · intro w hSw
    try dsimp only at hSw
    go_simp
    try with_reducible rfl
  try simp only [List.getElem_toArray, List.getElem_cons_succ, List.getElem_cons_zero, Act.put, List.setIfInBounds_toArray, List.set_cons_zero, List.set_cons_succ]
  refine wpAnyH_take (i := 13) (oi := _) (v := ?_) rfl (by kernel_rfl) (by kernel_rfl) (by kernel_rfl) (fun _ _ _ h => h) (Or.inl ⟨by rfl, ?_⟩) hHeld ?_
  rotate_left
  · intro w hSw
    try dsimp only at hSw
    go_simp
    try with_reducible rfl
  try simp only [List.getElem_toArray, List.getElem_cons_succ, List.getElem_cons_zero, Act.put, List.setIfInBounds_toArray, List.set_cons_zero, List.set_cons_succ]
  refine wpAnyH_done (by kernel_rfl) ?_ _
  go_wp2_with fail
  go_ret2
  exact ⟨rfl, by go_split_ands; assumption⟩
theorem Set_bad (z d s l a x : Int) (w : World) (h : okB z d s l a = false) :
    Calls Try.prog 20 #[.agg #[.int .i64 z, .int .i64 d, .int .i64 s, .int .i64 l, .int .i64 a], .int .i64 x] w fun e w' => e = .returned (.tuple #[.int .i64 (0), .int .i64 1]) ∧ Below w.heap.size w w' := by
  go_enter Try.func20, Try.ntmps20
  go_wp2_with fail
  refine (check_bad _ _ _ _ _ _ h).mono ?_
  rintro e w1 ⟨rfl, hb1⟩
  go_wp2_with fail
  go_ret2
  exact ⟨rfl, ((Below.refl _ _).alloc (Nat.le_refl _) _).trans (hb1.mono (by simp))⟩
def kinF (z d s l a x : Int) : Int :=
  if x < a then -1 else if x < a + 2 * l then 1000 + (x - a) % l else if x < a + 2 * l + 2 * z then 2000 + (x - a - 2 * l) / 2 else 3000 + (x - a - 2 * l - 2 * z) / (d + 1 + s)
theorem kin1 (z d s l a x : Int) (w : World) (h : okB z d s l a = true) (h0 : 0 ≤ x) (h1 : x < a) :
    Calls Try.prog 21 #[.agg #[.int .i64 z, .int .i64 d, .int .i64 s, .int .i64 l, .int .i64 a], .int .i64 x] w fun e w' => e = .returned (.int .i64 (-1)) ∧ Below w.heap.size w w' := by
  have bd := okB_bounds h
  have t0 : x - a < 0 := by omega
  clear h
  go_enter Try.func21, Try.ntmps21
  go_wp2_with fail
  go_ret
  exact ⟨rfl, (Below.refl _ _).alloc (Nat.le_refl _) _⟩
theorem kin2 (z d s l a x : Int) (w : World) (h : okB z d s l a = true) (h1 : ¬ x < a) (h2 : x < a + 2 * l) :
    Calls Try.prog 21 #[.agg #[.int .i64 z, .int .i64 d, .int .i64 s, .int .i64 l, .int .i64 a], .int .i64 x] w fun e w' => e = .returned (.int .i64 (1000 + (x - a) % l)) ∧ Below w.heap.size w w' := by
  have bd := okB_bounds h
  have m0 : 0 ≤ (x - a) % l := Int.emod_nonneg _ (by omega)
  have m1 : (x - a) % l < l := Int.emod_lt_of_pos _ (by omega)
  have t0 : ¬ x - a < 0 := by omega
  have t1 : x - a < 2 * l := by omega
  clear h
  go_enter Try.func21, Try.ntmps21
  go_wp2_with fail
  go_ret
  exact ⟨rfl, (Below.refl _ _).alloc (Nat.le_refl _) _⟩
theorem kin3 (z d s l a x : Int) (w : World) (h : okB z d s l a = true) (h1 : ¬ x < a) (h2 : ¬ x < a + 2 * l) (h3 : x < a + 2 * l + 2 * z) :
    Calls Try.prog 21 #[.agg #[.int .i64 z, .int .i64 d, .int .i64 s, .int .i64 l, .int .i64 a], .int .i64 x] w fun e w' => e = .returned (.int .i64 (2000 + (x - a - 2 * l) / 2)) ∧ Below w.heap.size w w' := by
  have bd := okB_bounds h
  have t0 : ¬ x - a < 0 := by omega
  have t1 : ¬ x - a < 2 * l := by omega
  have t2 : x - a < 2 * l + 2 * z := by omega
  clear h
  go_enter Try.func21, Try.ntmps21
  go_wp2_with fail
  go_ret
  exact ⟨rfl, (Below.refl _ _).alloc (Nat.le_refl _) _⟩
theorem kin4 (z d s l a x : Int) (w : World) (h : okB z d s l a = true) (h1 : ¬ x < a) (h2 : ¬ x < a + 2 * l) (h3 : ¬ x < a + 2 * l + 2 * z) (h4 : x < a + 2 * l + 2 * z + z * (d + 1 + s)) :
    Calls Try.prog 21 #[.agg #[.int .i64 z, .int .i64 d, .int .i64 s, .int .i64 l, .int .i64 a], .int .i64 x] w fun e w' => e = .returned (.int .i64 (3000 + (x - a - 2 * l - 2 * z) / (d + 1 + s))) ∧ Below w.heap.size w w' := by
  have bd := okB_bounds h
  obtain ⟨zp0, zp1⟩ := zp_bounds h
  have m2 : 0 ≤ x - a - 2 * l - 2 * z := by omega
  have q0 : 0 ≤ (x - a - 2 * l - 2 * z) / (d + 1 + s) := Int.ediv_nonneg m2 (by omega)
  have q1 : (x - a - 2 * l - 2 * z) / (d + 1 + s) ≤ x - a - 2 * l - 2 * z := Int.ediv_le_self _ m2
  have n0 : ¬ d + 1 + s = 0 := by omega
  have t0 : ¬ x - a < 0 := by omega
  have t1 : ¬ x - a < 2 * l := by omega
  have t2 : ¬ x - a < 2 * l + 2 * z := by omega
  clear h
  go_enter Try.func21, Try.ntmps21
  go_wp2_with fail
  go_ret
  exact ⟨rfl, (Below.refl _ _).alloc (Nat.le_refl _) _⟩
theorem kin_ok (z d s l a x : Int) (w : World) (h : okB z d s l a = true) (h0 : 0 ≤ x) (h4 : x < a + 2 * l + 2 * z + z * (d + 1 + s)) :
    Calls Try.prog 21 #[.agg #[.int .i64 z, .int .i64 d, .int .i64 s, .int .i64 l, .int .i64 a], .int .i64 x] w fun e w' => e = .returned (.int .i64 (kinF z d s l a x)) ∧ Below w.heap.size w w' := by
  unfold kinF
  split
  · exact kin1 z d s l a x w h h0 ‹_›
  · split
    · exact kin2 z d s l a x w h ‹_› ‹_›
    · split
      · exact kin3 z d s l a x w h ‹_› ‹_› ‹_›
      · exact kin4 z d s l a x w h ‹_› ‹_› ‹_› h4
/-- of what kind a cell is, and which of that kind: q numbers of a set, as Set and kin have them -/
theorem kinds {z d s l a x : Int} (h : okB z d s l a = true) (h0 : 0 ≤ x) (h4 : x < a + 2 * l + 2 * z + z * (d + 1 + s)) :
    (setF z d s l a x = 2 * z + l ∧ kinF z d s l a x = -1) ∨ (∃ q, 0 ≤ q ∧ q < l ∧ setF z d s l a x = z + q ∧ kinF z d s l a x = 1000 + q) ∨
      (∃ q, 0 ≤ q ∧ q < z ∧ setF z d s l a x = z + l + q ∧ kinF z d s l a x = 2000 + q) ∨ (∃ q, 0 ≤ q ∧ q < z ∧ setF z d s l a x = q ∧ kinF z d s l a x = 3000 + q) := by
  have bd := okB_bounds h
  unfold setF kinF
  by_cases h1 : x < a
  · rw [if_pos h1, if_pos h1]; exact .inl ⟨rfl, rfl⟩
  · rw [if_neg h1, if_neg h1]
    by_cases h2 : x < a + 2 * l
    · rw [if_pos h2, if_pos h2]
      exact .inr (.inl ⟨(x - a) % l, Int.emod_nonneg _ (by omega), Int.emod_lt_of_pos _ (by omega), rfl, rfl⟩)
    · rw [if_neg h2, if_neg h2]
      by_cases h3 : x < a + 2 * l + 2 * z
      · rw [if_pos h3, if_pos h3]
        exact .inr (.inr (.inl ⟨(x - (a + 2 * l)) / 2, by omega, by omega, rfl, by omega⟩))
      · rw [if_neg h3, if_neg h3]
        refine .inr (.inr (.inr ⟨(x - (a + 2 * l + 2 * z)) / (d + 1 + s), Int.ediv_nonneg (by omega) (by omega), Int.ediv_lt_of_lt_mul (by omega) (by omega), rfl, ?_⟩))
        rw [show x - a - 2 * l - 2 * z = x - (a + 2 * l + 2 * z) by omega]
theorem alike {z d s l a x y : Int} (h : okB z d s l a = true) (hx : 0 ≤ x) (hx' : x < a + 2 * l + 2 * z + z * (d + 1 + s)) (hy : 0 ≤ y) (hy' : y < a + 2 * l + 2 * z + z * (d + 1 + s)) :
    (0 ≤ setF z d s l a x ∧ setF z d s l a x < 2 * z + l + 1) ∧ (setF z d s l a x = setF z d s l a y ↔ kinF z d s l a x = kinF z d s l a y) := by
  have bd := okB_bounds h
  have k1 := kinds h hx hx'
  have k2 := kinds h hy hy'
  generalize setF z d s l a x = p at *
  generalize setF z d s l a y = q at *
  generalize kinF z d s l a x = u at *
  generalize kinF z d s l a y = v at *
  clear h hx hx' hy hy'
  rcases k1 with ⟨rfl, rfl⟩ | ⟨i, i0, i1, rfl, rfl⟩ | ⟨i, i0, i1, rfl, rfl⟩ | ⟨i, i0, i1, rfl, rfl⟩ <;> rcases k2 with ⟨rfl, rfl⟩ | ⟨j, j0, j1, rfl, rfl⟩ | ⟨j, j0, j1, rfl, rfl⟩ | ⟨j, j0, j1, rfl, rfl⟩ <;> omega
end Go.Proofs.Ytigibbekbncpiaa

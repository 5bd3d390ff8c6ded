/-
  Which set a cell is of: set, Set, kin.
-/
import Derived.Test.YtigibbekbncpiaaWalks3
namespace Go.Proofs.Ytigibbekbncpiaa
open Go.ChangeShapes Go.WideShapes Go.ChangeAt Go.RowKit
set_option linter.unusedVariables false

def setF (z d s l a x : Int) : Int :=
  if x < a then 2 * z + l else if x < a + 2 * l then z + (x - a) % l else if x < a + 2 * l + 2 * z then z + l + (x - (a + 2 * l)) / 2 else (x - (a + 2 * l + 2 * z)) / (d + 1 + s)
theorem startW (w : World) (c0 c1 c2 c3 c4 : Value) (t : TypeId) :
    Below w.heap.size w (w.alloc (.cells #[c0, c1, c2, c3, c4] t)) ∧ (w.alloc (.cells #[c0, c1, c2, c3, c4] t)).cell? ⟨w.heap.size, 0, none⟩ = some c0 ∧ (w.alloc (.cells #[c0, c1, c2, c3, c4] t)).cell? ⟨w.heap.size, 1, none⟩ = some c1 ∧ (w.alloc (.cells #[c0, c1, c2, c3, c4] t)).cell? ⟨w.heap.size, 2, none⟩ = some c2 ∧
      (w.alloc (.cells #[c0, c1, c2, c3, c4] t)).cell? ⟨w.heap.size, 3, none⟩ = some c3 ∧ (w.alloc (.cells #[c0, c1, c2, c3, c4] t)).cell? ⟨w.heap.size, 4, none⟩ = some c4 := by
  refine ⟨((Below.refl _ _).alloc (Nat.le_refl _) _), ?_, ?_, ?_, ?_, ?_⟩ <;> simp
def BoxS (w : World) (c0 c1 c2 c3 c4 : Value) (w' : World) : Prop := Below w.heap.size w w' ∧ w'.cell? ⟨w.heap.size, 0, none⟩ = some c0 ∧ w'.cell? ⟨w.heap.size, 1, none⟩ = some c1 ∧ w'.cell? ⟨w.heap.size, 2, none⟩ = some c2 ∧ w'.cell? ⟨w.heap.size, 3, none⟩ = some c3 ∧ w'.cell? ⟨w.heap.size, 4, none⟩ = some c4
theorem BoxS.start (w : World) (c0 c1 c2 c3 c4 : Value) (t : TypeId) : BoxS w c0 c1 c2 c3 c4 (w.alloc (.cells #[c0, c1, c2, c3, c4] t)) := startW ..
theorem BoxS.step {w W1 w1 : World} {c0 c1 c2 c3 c4 : Value} (h : BoxS w c0 c1 c2 c3 c4 W1) (hb : Below W1.heap.size W1 w1) : BoxS w c0 c1 c2 c3 c4 w1 :=
  keepS hb h.1 h.2.1 h.2.2.1 h.2.2.2.1 h.2.2.2.2.1 h.2.2.2.2.2
theorem BoxS.drew {w W1 : World} {c0 c1 c2 c3 c4 : Value} (h : BoxS w c0 c1 c2 c3 c4 W1) : BoxS w c0 c1 c2 c3 c4 W1.drew := ⟨h.1.drew, h.2.1, h.2.2.1, h.2.2.2.1, h.2.2.2.2.1, h.2.2.2.2.2⟩
theorem set1 (z d s l a x : Int) (w : World) (h : okB z d s l a = true) (h1 : x < a) :
    Calls Try.prog 36 #[.agg #[.int .i64 z, .int .i64 d, .int .i64 s, .int .i64 l, .int .i64 a], .int .i64 x] w fun e w' => e = .returned (.int .i64 (2 * z + l)) ∧ Below w.heap.size w w' := by
  have bd := okB_bounds h
  clear h
  go_enter Try.func36, Try.ntmps36
  go_wp2_with fail
  go_ret
  exact ⟨rfl, (Below.refl _ _).alloc (Nat.le_refl _) _⟩
theorem set2 (z d s l a x : Int) (w : World) (h : okB z d s l a = true) (h1 : ¬ x < a) (h2 : x < a + 2 * l) :
    Calls Try.prog 36 #[.agg #[.int .i64 z, .int .i64 d, .int .i64 s, .int .i64 l, .int .i64 a], .int .i64 x] w fun e w' => e = .returned (.int .i64 (z + (x - a) % l)) ∧ Below w.heap.size w w' := by
  have bd := okB_bounds h
  have m0 : 0 ≤ (x - a) % l := Int.emod_nonneg _ (by omega)
  have m1 : (x - a) % l < l := Int.emod_lt_of_pos _ (by omega)
  have m2 : 0 ≤ x - a := by omega
  have tm : (x - a).tmod l = (x - a) % l := Int.tmod_eq_emod_of_nonneg m2
  have e1 : IntKind.i64.wrap (x - a) = x - a := w64 (by omega) (by omega)
  have e2 : IntKind.i64.wrap (z + (x - a) % l) = z + (x - a) % l := w64 (by omega) (by omega)
  go_enter Try.func36, Try.ntmps36
  go_wp2_with fail
  refine (tables_ok _ _ _ _ _ _ h).mono ?_
  rintro e w1 ⟨rfl, hb1⟩
  have G : BoxS w (.int .i64 z) (.int .i64 d) (.int .i64 s) (.int .i64 l) (.int .i64 a) w1 := (BoxS.start ..).step hb1
  have k0 := G.2.1
  have k1 := G.2.2.1
  have k2 := G.2.2.2.1
  have k3 := G.2.2.2.2.1
  have k4 := G.2.2.2.2.2
  go_wp2_with fail
  go_quiet (fail)
  go_wp2_with fail
  go_ret
  exact ⟨rfl, Below.drewN_ G.1 _⟩
theorem set3 (z d s l a x : Int) (w : World) (h : okB z d s l a = true) (h1 : ¬ x < a) (h2 : ¬ x < a + 2 * l) (h3 : x < a + 2 * l + 2 * z) :
    Calls Try.prog 36 #[.agg #[.int .i64 z, .int .i64 d, .int .i64 s, .int .i64 l, .int .i64 a], .int .i64 x] w fun e w' => e = .returned (.int .i64 (z + l + (x - (a + 2 * l)) / 2)) ∧ Below w.heap.size w w' := by
  have bd := okB_bounds h
  have m2 : 0 ≤ x - (a + 2 * l) := by omega
  have tm : (x - (a + 2 * l)).tdiv 2 = (x - (a + 2 * l)) / 2 := Int.tdiv_eq_ediv_of_nonneg m2
  have e1 : IntKind.i64.wrap (z + l) = z + l := w64 (by omega) (by omega)
  have e2 : IntKind.i64.wrap (x - (a + 2 * l)) = x - (a + 2 * l) := w64 (by omega) (by omega)
  have e3 : IntKind.i64.wrap ((x - (a + 2 * l)) / 2) = (x - (a + 2 * l)) / 2 := w64 (by omega) (by omega)
  have e4 : IntKind.i64.wrap (z + l + (x - (a + 2 * l)) / 2) = z + l + (x - (a + 2 * l)) / 2 := w64 (by omega) (by omega)
  go_enter Try.func36, Try.ntmps36
  go_wp2_with fail
  refine (tables_ok _ _ _ _ _ _ h).mono ?_
  rintro e w1 ⟨rfl, hb1⟩
  have G : BoxS w (.int .i64 z) (.int .i64 d) (.int .i64 s) (.int .i64 l) (.int .i64 a) w1 := (BoxS.start ..).step hb1
  have k0 := G.2.1
  have k1 := G.2.2.1
  have k2 := G.2.2.2.1
  have k3 := G.2.2.2.2.1
  have k4 := G.2.2.2.2.2
  go_wp2_with fail
  clear k0 k1 k2 k3 k4
  refine (slots_ok _ _ _ _ _ _ h).mono ?_
  rintro e w2 ⟨rfl, hb2⟩
  have G2 : BoxS w (.int .i64 z) (.int .i64 d) (.int .i64 s) (.int .i64 l) (.int .i64 a) w2 := G.step hb2
  clear G
  have G := G2
  clear G2
  have k0 := G.2.1
  have k1 := G.2.2.1
  have k2 := G.2.2.2.1
  have k3 := G.2.2.2.2.1
  have k4 := G.2.2.2.2.2
  go_wp2_with fail
  first
  | go_region_held3 (fun w' => Below w.heap.size w w' ∧ w'.cell? ⟨w.heap.size, 0, none⟩ = some (.int .i64 z) ∧ w'.cell? ⟨w.heap.size, 1, none⟩ = some (.int .i64 d) ∧ w'.cell? ⟨w.heap.size, 2, none⟩ = some (.int .i64 s) ∧ w'.cell? ⟨w.heap.size, 3, none⟩ = some (.int .i64 l) ∧ w'.cell? ⟨w.heap.size, 4, none⟩ = some (.int .i64 a)) (first | exact G.drew | (go_split_ands; exact keepS hb ‹_› ‹_› ‹_› ‹_› ‹_› ‹_›) | go_keep)
      (first | (go_at_call 33; refine (tables_ok _ _ _ _ _ _ h).mono ?_; rintro e w' ⟨rfl, hb⟩))
  | fail
  go_wp2_with fail
  go_ret
  exact ⟨rfl, by go_split_ands; assumption⟩
theorem set4 (z d s l a x : Int) (w : World) (hx : x ≤ 9223372036854775807) (h : okB z d s l a = true) (h1 : ¬ x < a) (h2 : ¬ x < a + 2 * l) (h3 : ¬ x < a + 2 * l + 2 * z) :
    Calls Try.prog 36 #[.agg #[.int .i64 z, .int .i64 d, .int .i64 s, .int .i64 l, .int .i64 a], .int .i64 x] w fun e w' => e = .returned (.int .i64 ((x - (a + 2 * l + 2 * z)) / (d + 1 + s))) ∧ Below w.heap.size w w' := by
  have bd := okB_bounds h
  have m2 : 0 ≤ x - (a + 2 * l + 2 * z) := by omega
  have q0 : 0 ≤ (x - (a + 2 * l + 2 * z)) / (d + 1 + s) := Int.ediv_nonneg m2 (by omega)
  have q1 : (x - (a + 2 * l + 2 * z)) / (d + 1 + s) ≤ x - (a + 2 * l + 2 * z) := Int.ediv_le_self _ m2
  have tm : (x - (a + 2 * l + 2 * z)).tdiv (d + 1 + s) = (x - (a + 2 * l + 2 * z)) / (d + 1 + s) := Int.tdiv_eq_ediv_of_nonneg m2
  have n0 : ¬ d + 1 + s = 0 := by omega
  have n1 : 1 ≤ d + 1 + s := by omega
  have e1 : IntKind.i64.wrap (x - (a + 2 * l + 2 * z)) = x - (a + 2 * l + 2 * z) := w64 (by omega) (by omega)
  have e2 : IntKind.i64.wrap ((x - (a + 2 * l + 2 * z)) / (d + 1 + s)) = (x - (a + 2 * l + 2 * z)) / (d + 1 + s) := w64 (by omega) (by omega)
  go_enter Try.func36, Try.ntmps36
  go_wp2_with fail
  refine (tables_ok _ _ _ _ _ _ h).mono ?_
  rintro e w1 ⟨rfl, hb1⟩
  have G : BoxS w (.int .i64 z) (.int .i64 d) (.int .i64 s) (.int .i64 l) (.int .i64 a) w1 := (BoxS.start ..).step hb1
  have k0 := G.2.1
  have k1 := G.2.2.1
  have k2 := G.2.2.2.1
  have k3 := G.2.2.2.2.1
  have k4 := G.2.2.2.2.2
  go_wp2_with fail
  clear k0 k1 k2 k3 k4
  refine (slots_ok _ _ _ _ _ _ h).mono ?_
  rintro e w2 ⟨rfl, hb2⟩
  have G2 : BoxS w (.int .i64 z) (.int .i64 d) (.int .i64 s) (.int .i64 l) (.int .i64 a) w2 := G.step hb2
  clear G
  have G := G2
  clear G2
  have k0 := G.2.1
  have k1 := G.2.2.1
  have k2 := G.2.2.2.1
  have k3 := G.2.2.2.2.1
  have k4 := G.2.2.2.2.2
  go_wp2_with fail
  refine wp_region_held_drew (S := (fun w' => Below w.heap.size w w' ∧ w'.cell? ⟨w.heap.size, 0, none⟩ = some (.int .i64 z) ∧ w'.cell? ⟨w.heap.size, 1, none⟩ = some (.int .i64 d) ∧ w'.cell? ⟨w.heap.size, 2, none⟩ = some (.int .i64 s) ∧ w'.cell? ⟨w.heap.size, 3, none⟩ = some (.int .i64 l) ∧ w'.cell? ⟨w.heap.size, 4, none⟩ = some (.int .i64 a))) (by kernel_rfl) ?_ (fun hHeld => ?_)
  · try dsimp only
    exact G.drew
  refine wpAnyH_take (i := 0) (oi := _) (v := ?_) rfl (by kernel_rfl) (by kernel_rfl) (by kernel_rfl) (fun _ _ _ h => h) (Or.inl ⟨by rfl, ?_⟩) hHeld ?_
  rotate_left
  · intro w hSw
    try dsimp only at hSw
    go_simp
    try with_reducible rfl
  try simp only [List.getElem_toArray, List.getElem_cons_zero, Act.put, List.setIfInBounds_toArray, List.set_cons_zero, List.set_cons_succ]
  refine wpAnyH_take (i := 1) (oi := _) (v := ?_) rfl (by kernel_rfl) (by kernel_rfl) (by kernel_rfl) (fun _ _ _ h => h) (Or.inl ⟨by rfl, ?_⟩) hHeld ?_
  rotate_left
  · intro w hSw
    try dsimp only at hSw
    go_simp
    try with_reducible rfl
  try simp only [List.getElem_toArray, List.getElem_cons_succ, List.getElem_cons_zero, Act.put, List.setIfInBounds_toArray, List.set_cons_zero, List.set_cons_succ]
  refine wpAnyH_take (i := 4) (oi := _) (v := ?_) rfl (by kernel_rfl) (by kernel_rfl) (by kernel_rfl) (fun _ _ _ h => h) (Or.inl ⟨by rfl, ?_⟩) hHeld ?_
  rotate_left
  · intro w hSw
    try dsimp only at hSw
    go_simp
    try with_reducible rfl
  try simp only [List.getElem_toArray, List.getElem_cons_succ, List.getElem_cons_zero, Act.put, List.setIfInBounds_toArray, List.set_cons_zero, List.set_cons_succ]
  refine wpAnyH_ready (rs := [2]) (by kernel_rfl) (by simp) ?_
  refine AllReadyH.cons (o := _) rfl (fun K hK => ?_) AllReadyH.nil
  go_simp
  (go_at_call 34; refine (slots_ok _ _ _ _ _ _ h).mono ?_; rintro e w' ⟨rfl, hb⟩)
  go_wp2_with fail
  refine hK.out _ _ ?_ (fun hHeld => ?_)
  · try dsimp only
    (first | exact G.drew | (go_split_ands; exact keepS hb ‹_› ‹_› ‹_› ‹_› ‹_› ‹_›) | go_keep)
  clear hK K
  try simp only [List.getElem_toArray, List.getElem_cons_succ, List.getElem_cons_zero, Act.put, List.setIfInBounds_toArray, List.set_cons_zero, List.set_cons_succ]
  refine wpAnyH_take (i := 3) (oi := _) (v := ?_) rfl (by kernel_rfl) (by kernel_rfl) (by kernel_rfl) (fun _ _ _ h => h) (Or.inl ⟨by rfl, ?_⟩) hHeld ?_
  rotate_left
  · intro w hSw
    try dsimp only at hSw
    go_simp
    try with_reducible rfl
  try simp only [List.getElem_toArray, List.getElem_cons_succ, List.getElem_cons_zero, Act.put, List.setIfInBounds_toArray, List.set_cons_zero, List.set_cons_succ]
  refine wpAnyH_ready (rs := [5]) (by kernel_rfl) (by simp) ?_
  refine AllReadyH.cons (o := _) rfl (fun K hK => ?_) AllReadyH.nil
  go_simp
  (go_at_call 35; refine (per_ok _ _ _ _ _ _ h).mono ?_; rintro e w' ⟨rfl, hb⟩)
  go_wp2_with fail
  refine hK.out _ _ ?_ (fun hHeld => ?_)
  · try dsimp only
    (first | exact G.drew | (go_split_ands; exact keepS hb ‹_› ‹_› ‹_› ‹_› ‹_› ‹_›) | go_keep)
  clear hK K
  try simp only [List.getElem_toArray, List.getElem_cons_succ, List.getElem_cons_zero, Act.put, List.setIfInBounds_toArray, List.set_cons_zero, List.set_cons_succ]
  refine wpAnyH_take (i := 6) (oi := _) (v := ?_) rfl (by kernel_rfl) (by kernel_rfl) (by kernel_rfl) (fun _ _ _ h => h) (Or.inl ⟨by rfl, ?_⟩) hHeld ?_
  rotate_left
  · intro w hSw
    try dsimp only at hSw
    go_simp
    try with_reducible rfl
  try simp only [List.getElem_toArray, List.getElem_cons_succ, List.getElem_cons_zero, Act.put, List.setIfInBounds_toArray, List.set_cons_zero, List.set_cons_succ]
  refine wpAnyH_take (i := 7) (oi := _) (v := ?_) rfl (by kernel_rfl) (by kernel_rfl) (by kernel_rfl) (fun _ _ _ h => h) (Or.inl ⟨by rfl, ?_⟩) hHeld ?_
  rotate_left
  · intro w hSw
    try dsimp only at hSw
    go_simp
    try with_reducible rfl
  try simp only [List.getElem_toArray, List.getElem_cons_succ, List.getElem_cons_zero, Act.put, List.setIfInBounds_toArray, List.set_cons_zero, List.set_cons_succ]
  refine wpAnyH_done (by kernel_rfl) ?_ _
  go_wp2_with fail
  go_ret
  exact ⟨rfl, by go_split_ands; assumption⟩
theorem set_ok (z d s l a x : Int) (w : World) (hx : x ≤ 9223372036854775807) (h : okB z d s l a = true) :
    Calls Try.prog 36 #[.agg #[.int .i64 z, .int .i64 d, .int .i64 s, .int .i64 l, .int .i64 a], .int .i64 x] w fun e w' => e = .returned (.int .i64 (setF z d s l a x)) ∧ Below w.heap.size w w' := by
  unfold setF
  split
  · exact set1 z d s l a x w h ‹_›
  · split
    · exact set2 z d s l a x w h ‹_› ‹_›
    · split
      · exact set3 z d s l a x w h ‹_› ‹_› ‹_›
      · exact set4 z d s l a x w hx h ‹_› ‹_› ‹_›
end Go.Proofs.Ytigibbekbncpiaa

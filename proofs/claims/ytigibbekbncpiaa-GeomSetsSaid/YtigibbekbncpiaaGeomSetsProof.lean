/-
  PROVED: the law 'GeomSets' returns true for every input, and leaves its arguments and all memory as they were. Conditions: those of the given row alone.
-/
import Derived.Test.YtigibbekbncpiaaWalks5
import Derived.WalkKit
import Derived.ProofKit
import Derived.OpenShut
import Derived.ShutString
import Derived.ChangeOld
import Derived.Below
namespace Go.Proofs.Ytigibbekbncpiaa.geomSets
open Go.ChangeShapes Go.WideShapes Go.ChangeAt Go.RowKit
open Go.ChangeMaps (open_string shut_string)
set_option linter.unusedVariables false      -- a walk need not use every 'w<i>' (that an integer argument fits its kind)

theorem own : ownKnob Try.prog.godebug = none := by kernel_rfl

theorem cells_is {z d s l a n : Int} (w : World) (h : okB z d s l a = true) (hn : a + 2 * l + 2 * z + z * (d + 1 + s) = n) :
    Calls Try.prog 10 #[.agg #[.int .i64 z, .int .i64 d, .int .i64 s, .int .i64 l, .int .i64 a]] w fun e w' => e = .returned (.tuple #[.int .i64 n, .int .i64 0]) ∧ Below w.heap.size w w' := by
  subst hn
  exact Cells_ok z d s l a w h
theorem set_is {z d s l a x p : Int} (w : World) (hx : x ≤ 200) (h : okB z d s l a = true) (hi : inB x 0 (a + 2 * l + 2 * z + z * (d + 1 + s) - 1) = true) (hp : setF z d s l a x = p) :
    Calls Try.prog 20 #[.agg #[.int .i64 z, .int .i64 d, .int .i64 s, .int .i64 l, .int .i64 a], .int .i64 x] w fun e w' => e = .returned (.tuple #[.int .i64 p, .int .i64 0]) ∧ Below w.heap.size w w' := by
  subst hp
  exact Set_yes z d s l a x w (Int.le_trans hx (by decide)) h hi
theorem kin_is {z d s l a x p : Int} (w : World) (h : okB z d s l a = true) (h0 : 0 ≤ x) (h4 : x < a + 2 * l + 2 * z + z * (d + 1 + s)) (hp : kinF z d s l a x = p) :
    Calls Try.prog 21 #[.agg #[.int .i64 z, .int .i64 d, .int .i64 s, .int .i64 l, .int .i64 a], .int .i64 x] w fun e w' => e = .returned (.int .i64 p) ∧ Below w.heap.size w w' := by
  subst hp
  exact kin_ok z d s l a x w h h0 h4
theorem u64_small {N : Int} (h0 : 0 ≤ N) (h1 : N ≤ 200) : IntKind.u64.wrap N = N := by rw [IntKind.wrap_u64]; omega
theorem small_of {X : Nat} {N : Int} (h : (X : Int) < N) (h1 : N ≤ 200) : wrap64 (X : Int) = X ∧ IntKind.i64.wrap (X : Int) = X := ⟨IntWalk.wrap64_in _ ⟨by omega, by omega⟩, w64 (by omega) (by omega)⟩
theorem umodI (a m : Int) (hm : 0 < m) : ∃ x : Nat, (IntKind.u64.wrap a).tmod m = (x : Int) ∧ (x : Int) < m := by
  obtain ⟨k, rfl⟩ := Int.eq_ofNat_of_zero_le (Int.le_of_lt hm)
  obtain ⟨x, hx, lx⟩ := umod a k (by omega)
  exact ⟨x, hx, by omega⟩
set_option maxRecDepth 100000 in
set_option maxHeartbeats 1600000 in
theorem walk (a0 : Int) (a1 : Int) (a2 : Int) (a3 : Int) (a4 : Int) (a5 : Int) (a6 : Int) (w0 : (Lit.int .i64 a0).wf = true) (w1 : (Lit.int .i64 a1).wf = true) (w2 : (Lit.int .i64 a2).wf = true) (w3 : (Lit.int .i64 a3).wf = true) (w4 : (Lit.int .i64 a4).wf = true) (w5 : (Lit.int .i64 a5).wf = true) (w6 : (Lit.int .i64 a6).wf = true) (w : World) :
    Calls Try.prog 7 #[.int .i64 a0, .int .i64 a1, .int .i64 a2, .int .i64 a3, .int .i64 a4, .int .i64 a5, .int .i64 a6] w fun e w' => e = .returned (.bool true) ∧ Below w.heap.size w w' := by
  clear w0 w1 w2 w3 w4 w5 w6
  go_enter Try.func7, Try.ntmps7
  go_wp2_with fail
  refine (some_any _ _ _ _ _ _).mono ?_
  rintro e w1 ⟨z, d, s, l, a, h, rfl, hb1⟩
  have bd := okB_bounds h
  obtain ⟨zp0, zp1⟩ := zp_bounds h
  have G1 : BoxS w1 (.int .i64 z) (.int .i64 d) (.int .i64 s) (.int .i64 l) (.int .i64 a) (w1.alloc (.cells #[.int .i64 z, .int .i64 d, .int .i64 s, .int .i64 l, .int .i64 a] 23)) := BoxS.start ..
  obtain ⟨N, hN⟩ : ∃ N, a + 2 * l + 2 * z + z * (d + 1 + s) = N := ⟨_, rfl⟩
  have N1 : 1 ≤ N := by omega
  have N2 : N ≤ 200 := by omega
  have N0 : ¬ N = 0 := by omega
  have HN := Lib.hid hN
  obtain ⟨X, hX, lX⟩ := umodI a5 N (by omega)
  obtain ⟨Y, hY, lY⟩ := umodI a6 N (by omega)
  have x0 : (0 : Int) ≤ (X : Int) := by omega
  have y0 : (0 : Int) ≤ (Y : Int) := by omega
  have x1 := Lib.hid (show (X : Int) < a + 2 * l + 2 * z + z * (d + 1 + s) by omega)
  have y1 := Lib.hid (show (Y : Int) < a + 2 * l + 2 * z + z * (d + 1 + s) by omega)
  have ix := Lib.hid (show inB X 0 (a + 2 * l + 2 * z + z * (d + 1 + s) - 1) = true from inB_yes (by omega) (by omega))
  have iy := Lib.hid (show inB Y 0 (a + 2 * l + 2 * z + z * (d + 1 + s) - 1) = true from inB_yes (by omega) (by omega))
  have hx200 := Lib.hid (show (X : Int) ≤ 200 by omega)
  have hy200 := Lib.hid (show (Y : Int) ≤ 200 by omega)
  have al := alike h x0 x1.out y0 y1.out
  have al2 := alike h y0 y1.out x0 x1.out
  obtain ⟨p, hp⟩ : ∃ p, setF z d s l a X = p := ⟨_, rfl⟩
  obtain ⟨q, hq⟩ : ∃ q, setF z d s l a Y = q := ⟨_, rfl⟩
  obtain ⟨u, hu⟩ : ∃ u, kinF z d s l a X = u := ⟨_, rfl⟩
  obtain ⟨v, hv⟩ : ∃ v, kinF z d s l a Y = v := ⟨_, rfl⟩
  have KP := Lib.hid hp
  have KQ := Lib.hid hq
  have KU := Lib.hid hu
  have KV := Lib.hid hv
  rw [hp, hq, hu, hv] at al
  rw [hq, hp, hv, hu] at al2
  have p0 : 0 ≤ p := al.1.1
  have p1 : p < 2 * z + l + 1 := al.1.2
  have q0 : 0 ≤ q := al2.1.1
  have q1 : q < 2 * z + l + 1 := al2.1.2
  have tt : ((p == q) == (u == v)) = true := by
    by_cases hpq : p = q
    · have huv := al.2.1 hpq
      rw [beq_iff_eq.2 hpq, beq_iff_eq.2 huv]; rfl
    · have huv : ¬ u = v := fun e => hpq (al.2.2 e)
      rw [beq_eq_false_iff_ne.2 hpq, beq_eq_false_iff_ne.2 huv]; rfl
  clear al al2 hp hq hu hv
  have uN := u64_small (show 0 ≤ N by omega) N2
  obtain ⟨wX, vX⟩ := small_of lX N2
  obtain ⟨wY, vY⟩ := small_of lY N2
  clear hN
  go_wp2_with fail
  refine (cells_is _ h HN.out).mono ?_
  rintro e w2 ⟨rfl, hb2⟩
  have G2 := G1.step hb2
  clear G1 hb2
  have k0 := G2.2.1
  have k1 := G2.2.2.1
  have k2 := G2.2.2.2.1
  have k3 := G2.2.2.2.2.1
  have k4 := G2.2.2.2.2.2
  go_wp2_with fail
  clear k0 k1 k2 k3 k4
  refine (Sets_ok _ _ _ _ _ _ h).mono ?_
  rintro e w3 ⟨rfl, hb3⟩
  have G3 := G2.step hb3
  clear G2 hb3
  have k0 := G3.2.1
  have k1 := G3.2.2.1
  have k2 := G3.2.2.2.1
  have k3 := G3.2.2.2.2.1
  have k4 := G3.2.2.2.2.2
  go_wp2_with fail
  go_quiet (fail)
  go_wp2_with fail
  clear k0 k1 k2 k3 k4
  have G3' : BoxS w1 (.int .i64 z) (.int .i64 d) (.int .i64 s) (.int .i64 l) (.int .i64 a) (w3.drewN nq) := ⟨Below.drewN_ G3.1 _, G3.2⟩
  clear G3
  refine (set_is _ hx200.out h ix.out KP.out).mono ?_
  rintro e w4 ⟨rfl, hb4⟩
  have G4 := G3'.step hb4
  clear G3' hb4
  have k0 := G4.2.1
  have k1 := G4.2.2.1
  have k2 := G4.2.2.2.1
  have k3 := G4.2.2.2.2.1
  have k4 := G4.2.2.2.2.2
  go_wp2_with fail
  clear k0 k1 k2 k3 k4
  refine (set_is _ hy200.out h iy.out KQ.out).mono ?_
  rintro e w5 ⟨rfl, hb5⟩
  have G5 := G4.step hb5
  clear G4 hb5
  have k0 := G5.2.1
  have k1 := G5.2.2.1
  have k2 := G5.2.2.2.1
  have k3 := G5.2.2.2.2.1
  have k4 := G5.2.2.2.2.2
  go_wp2_with fail
  clear k0 k1 k2 k3 k4
  have G := G5
  clear G5
  refine wp_region_held_drew (S := (fun w' => Below w1.heap.size w1 w' ∧ w'.cell? ⟨w1.heap.size, 0, none⟩ = some (.int .i64 z) ∧ w'.cell? ⟨w1.heap.size, 1, none⟩ = some (.int .i64 d) ∧ w'.cell? ⟨w1.heap.size, 2, none⟩ = some (.int .i64 s) ∧ w'.cell? ⟨w1.heap.size, 3, none⟩ = some (.int .i64 l) ∧ w'.cell? ⟨w1.heap.size, 4, none⟩ = some (.int .i64 a))) (by kernel_rfl) ?_ (fun hHeld => ?_)
  · try dsimp only
    exact G.drew
  refine wpAnyH_take (i := 0) (oi := _) (v := ?_) rfl (by kernel_rfl) (by kernel_rfl) (by kernel_rfl) (fun _ _ _ h => h) (Or.inl ⟨by rfl, ?_⟩) hHeld ?_
  rotate_left
  · intro w hSw
    try dsimp only at hSw
    go_simp
    try with_reducible rfl
  try simp only [List.getElem_toArray, List.getElem_cons_zero, Act.put, List.setIfInBounds_toArray, List.set_cons_zero, List.set_cons_succ]
  refine wpAnyH_take (i := 1) (oi := _) (v := ?_) rfl (by kernel_rfl) (by kernel_rfl) (by kernel_rfl) (fun _ _ _ h => h) (Or.inl ⟨by rfl, ?_⟩) hHeld ?_
  rotate_left
  · intro w hSw
    try dsimp only at hSw
    go_simp
    try with_reducible rfl
  try simp only [List.getElem_toArray, List.getElem_cons_succ, List.getElem_cons_zero, Act.put, List.setIfInBounds_toArray, List.set_cons_zero, List.set_cons_succ]
  refine wpAnyH_take (i := 2) (oi := _) (v := ?_) rfl (by kernel_rfl) (by kernel_rfl) (by kernel_rfl) (fun _ _ _ h => h) (Or.inl ⟨by rfl, ?_⟩) hHeld ?_
  rotate_left
  · intro w hSw
    try dsimp only at hSw
    go_simp
    try with_reducible rfl
  try simp only [List.getElem_toArray, List.getElem_cons_succ, List.getElem_cons_zero, Act.put, List.setIfInBounds_toArray, List.set_cons_zero, List.set_cons_succ]
  refine wpAnyH_take (i := 3) (oi := _) (v := ?_) rfl (by kernel_rfl) (by kernel_rfl) (by kernel_rfl) (fun _ _ _ h => h) (Or.inl ⟨by rfl, ?_⟩) hHeld ?_
  rotate_left
  · intro w hSw
    try dsimp only at hSw
    go_simp
    try with_reducible rfl
  try simp only [List.getElem_toArray, List.getElem_cons_succ, List.getElem_cons_zero, Act.put, List.setIfInBounds_toArray, List.set_cons_zero, List.set_cons_succ]
  refine wpAnyH_take (i := 4) (oi := _) (v := ?_) rfl (by kernel_rfl) (by kernel_rfl) (by kernel_rfl) (fun _ _ _ h => h) (Or.inl ⟨by rfl, ?_⟩) hHeld ?_
  rotate_left
  · intro w hSw
    try dsimp only at hSw
    go_simp
    try with_reducible rfl
  try simp only [List.getElem_toArray, List.getElem_cons_succ, List.getElem_cons_zero, Act.put, List.setIfInBounds_toArray, List.set_cons_zero, List.set_cons_succ]
  refine wpAnyH_take (i := 6) (oi := _) (v := ?_) rfl (by kernel_rfl) (by kernel_rfl) (by kernel_rfl) (fun _ _ _ h => h) (Or.inl ⟨by rfl, ?_⟩) hHeld ?_
  rotate_left
  · intro w hSw
    try dsimp only at hSw
    go_simp
    try with_reducible rfl
  try simp only [List.getElem_toArray, List.getElem_cons_succ, List.getElem_cons_zero, Act.put, List.setIfInBounds_toArray, List.set_cons_zero, List.set_cons_succ]
  refine wpAnyH_take (i := 7) (oi := _) (v := ?_) rfl (by kernel_rfl) (by kernel_rfl) (by kernel_rfl) (fun _ _ _ h => h) (Or.inl ⟨by rfl, ?_⟩) hHeld ?_
  rotate_left
  · intro w hSw
    try dsimp only at hSw
    go_simp
    try with_reducible rfl
  try simp only [List.getElem_toArray, List.getElem_cons_succ, List.getElem_cons_zero, Act.put, List.setIfInBounds_toArray, List.set_cons_zero, List.set_cons_succ]
  refine wpAnyH_ready (rs := [5]) (by kernel_rfl) (by simp) ?_
  refine AllReadyH.cons (o := _) rfl (fun K hK => ?_) AllReadyH.nil
  go_simp
  (refine (kin_is _ h x0 x1.out KU.out).mono ?_; rintro e w' ⟨rfl, hb⟩)
  go_wp2_with fail
  refine hK.out _ _ ?_ (fun hHeld => ?_)
  · try dsimp only
    (first | exact G.drew | (go_split_ands; exact keepS hb ‹_› ‹_› ‹_› ‹_› ‹_› ‹_›) | go_keep)
  clear hK K
  try simp only [List.getElem_toArray, List.getElem_cons_succ, List.getElem_cons_zero, Act.put, List.setIfInBounds_toArray, List.set_cons_zero, List.set_cons_succ]
  refine wpAnyH_ready (rs := [8]) (by kernel_rfl) (by simp) ?_
  refine AllReadyH.cons (o := _) rfl (fun K hK => ?_) AllReadyH.nil
  go_simp
  (refine (kin_is _ h y0 y1.out KV.out).mono ?_; rintro e w' ⟨rfl, hb⟩)
  go_wp2_with fail
  refine hK.out _ _ ?_ (fun hHeld => ?_)
  · try dsimp only
    (first | exact G.drew | (go_split_ands; exact keepS hb ‹_› ‹_› ‹_› ‹_› ‹_› ‹_›) | go_keep)
  clear hK K
  try simp only [List.getElem_toArray, List.getElem_cons_succ, List.getElem_cons_zero, Act.put, List.setIfInBounds_toArray, List.set_cons_zero, List.set_cons_succ]
  refine wpAnyH_take (i := 9) (oi := _) (v := ?_) rfl (by kernel_rfl) (by kernel_rfl) (by kernel_rfl) (fun _ _ _ h => h) (Or.inl ⟨by rfl, ?_⟩) hHeld ?_
  rotate_left
  · intro w hSw
    try dsimp only at hSw
    go_simp
    try with_reducible rfl
  try simp only [List.getElem_toArray, List.getElem_cons_succ, List.getElem_cons_zero, Act.put, List.setIfInBounds_toArray, List.set_cons_zero, List.set_cons_succ]
  refine wpAnyH_take (i := 10) (oi := _) (v := ?_) rfl (by kernel_rfl) (by kernel_rfl) (by kernel_rfl) (fun _ _ _ h => h) (Or.inl ⟨by rfl, ?_⟩) hHeld ?_
  rotate_left
  · intro w hSw
    try dsimp only at hSw
    go_simp
    try with_reducible rfl
  try simp only [List.getElem_toArray, List.getElem_cons_succ, List.getElem_cons_zero, Act.put, List.setIfInBounds_toArray, List.set_cons_zero, List.set_cons_succ]
  refine wpAnyH_take (i := 11) (oi := _) (v := ?_) rfl (by kernel_rfl) (by kernel_rfl) (by kernel_rfl) (fun _ _ _ h => h) (Or.inl ⟨by rfl, ?_⟩) hHeld ?_
  rotate_left
  · intro w hSw
    try dsimp only at hSw
    go_simp
    try with_reducible rfl
  try simp only [List.getElem_toArray, List.getElem_cons_succ, List.getElem_cons_zero, Act.put, List.setIfInBounds_toArray, List.set_cons_zero, List.set_cons_succ]
  refine wpAnyH_ready (rs := [12]) (by kernel_rfl) (by simp) ?_
  refine AllReadyH.cons (o := _) rfl (fun K hK => ?_) AllReadyH.nil
  go_simp
  (refine (wakes_any _).mono ?_; rintro e w' ⟨rfl, hb⟩)
  go_wp2_with fail
  refine hK.out _ _ ?_ (fun hHeld => ?_)
  · try dsimp only
    (first | exact G.drew | (go_split_ands; exact keepS hb ‹_› ‹_› ‹_› ‹_› ‹_› ‹_›) | go_keep)
  clear hK K
  try simp only [List.getElem_toArray, List.getElem_cons_succ, List.getElem_cons_zero, Act.put, List.setIfInBounds_toArray, List.set_cons_zero, List.set_cons_succ]
  refine wpAnyH_take (i := 13) (oi := _) (v := ?_) rfl (by kernel_rfl) (by kernel_rfl) (by kernel_rfl) (fun _ _ _ h => h) (Or.inl ⟨by rfl, ?_⟩) hHeld ?_
  rotate_left
  · intro w hSw
    try dsimp only at hSw
    go_simp
    try with_reducible rfl
  try simp only [List.getElem_toArray, List.getElem_cons_succ, List.getElem_cons_zero, Act.put, List.setIfInBounds_toArray, List.set_cons_zero, List.set_cons_succ]
  refine wpAnyH_take (i := 14) (oi := _) (v := ?_) rfl (by kernel_rfl) (by kernel_rfl) (by kernel_rfl) (fun _ _ _ h => h) (Or.inl ⟨by rfl, ?_⟩) hHeld ?_
  rotate_left
  · intro w hSw
    try dsimp only at hSw
    go_simp
    try with_reducible rfl
  try simp only [List.getElem_toArray, List.getElem_cons_succ, List.getElem_cons_zero, Act.put, List.setIfInBounds_toArray, List.set_cons_zero, List.set_cons_succ]
  refine wpAnyH_done (by kernel_rfl) ?_ _
  go_wp2_with fail
  go_ret
  have hfin : ∀ W, Below w1.heap.size w1 W → Below w.heap.size w W := fun W hW => hb1.trans (hW.mono hb1.size)
  exact ⟨rfl, hfin _ (by go_split_ands; assumption)⟩

/-! ### THE ROW's STEP: WRITTEN OUT: LEAVE IT -/
set_option maxRecDepth 100000 in
theorem lifted (os : Os) (started : os.Started) (H : Type) (enc : TypeId × Value → H) :
    ReturnsInHanded {} Try.checked os 7 .any (Rows.geomSetsSpec.pre6 enc Try.prog Try.f7 Rows.geomSetsRow.domain false) (Rows.geomSetsSpec.post enc Try.prog Try.f7 false true false false) := by
  refine returnsInHanded_of_change (C := Try.checked) own started (by kernel_rfl) Try.func7
    (ChangeSpec.witness6 (enc := enc) (C := Try.checked) false ⟨#[], #[.int .i64 0, .int .i64 0, .int .i64 0, .int .i64 0, .int .i64 0, .int .i64 0, .int .i64 0], []⟩ 8 (by kernel_rfl) (by kernel_rfl) (by kernel_rfl) (by kernel_rfl)) ?_
  intro W base args ds gs before hval0 hW hcnd _
  have hval : ∀ (j : Nat) t v, Try.f7.params[j]? = some t → args[j]? = some v → Value.okWide Try.prog W .any base t v := hval0
  have hW' := hW
  obtain ⟨p, q, hA0, hV, rfl, hfz, hnd⟩ := hW
  have hA : DataW.TrodAll enc Try.prog W 0 (fun _ => true) true Try.f7.params.toList args.toList ds p := hA0
  rw [Try.params7] at hA hval
  obtain ⟨v0, vs0, d0, ds0, p0, q0, hargs, rfl, rfl, h0, r0⟩ := trodAll_cons hA
  obtain ⟨v1, vs1, d1, ds1, p1, q1, rfl, rfl, rfl, h1, r1⟩ := trodAll_cons r0
  obtain ⟨v2, vs2, d2, ds2, p2, q2, rfl, rfl, rfl, h2, r2⟩ := trodAll_cons r1
  obtain ⟨v3, vs3, d3, ds3, p3, q3, rfl, rfl, rfl, h3, r3⟩ := trodAll_cons r2
  obtain ⟨v4, vs4, d4, ds4, p4, q4, rfl, rfl, rfl, h4, r4⟩ := trodAll_cons r3
  obtain ⟨v5, vs5, d5, ds5, p5, q5, rfl, rfl, rfl, h5, r5⟩ := trodAll_cons r4
  obtain ⟨v6, vs6, d6, ds6, p6, q6, rfl, rfl, rfl, h6, r6⟩ := trodAll_cons r5
  obtain ⟨rfl, rfl, rfl⟩ := trodAll_nil r6
  obtain rfl : args = #[v0, v1, v2, v3, v4, v5, v6] := by cases args; simp_all
  obtain ⟨rfl, rfl⟩ := trodVars_none hV
  obtain ⟨a0, rfl, rfl, rfl, w0⟩ := open_int Try.underlying3 (hval 0 3 v0 rfl rfl) h0
  obtain ⟨a1, rfl, rfl, rfl, w1⟩ := open_int Try.underlying3 (hval 1 3 v1 rfl rfl) h1
  obtain ⟨a2, rfl, rfl, rfl, w2⟩ := open_int Try.underlying3 (hval 2 3 v2 rfl rfl) h2
  obtain ⟨a3, rfl, rfl, rfl, w3⟩ := open_int Try.underlying3 (hval 3 3 v3 rfl rfl) h3
  obtain ⟨a4, rfl, rfl, rfl, w4⟩ := open_int Try.underlying3 (hval 4 3 v4 rfl rfl) h4
  obtain ⟨a5, rfl, rfl, rfl, w5⟩ := open_int Try.underlying3 (hval 5 3 v5 rfl rfl) h5
  obtain ⟨a6, rfl, rfl, rfl, w6⟩ := open_int Try.underlying3 (hval 6 3 v6 rfl rfl) h6
  clear hA0 hval0
  simp only [List.append_nil] at hW'
  refine (walk a0 a1 a2 a3 a4 a5 a6 w0 w1 w2 w3 w4 w5 w6 W).mono fun e W' ⟨he, bel⟩ => ?_
  subst he
  exact ⟨_, rfl, _, _, _, [], [], [], hW', trodAll_mk1 (shut_bool Try.underlying4 _), (trodAll_cons_mk (shut_int Try.underlying3 w0) (trodAll_cons_mk (shut_int Try.underlying3 w1) (trodAll_cons_mk (shut_int Try.underlying3 w2) (trodAll_cons_mk (shut_int Try.underlying3 w3) (trodAll_cons_mk (shut_int Try.underlying3 w4) (trodAll_cons_mk (shut_int Try.underlying3 w5) (trodAll_cons_mk (shut_int Try.underlying3 w6) trodAll_mk0))))))), rfl, bel.frame _, fun h => by cases h⟩

theorem over : Rows.geomSetsRow.holds Try.pinned (OpenSpec.ofChange Rows.geomSetsSpec) :=
  OpenClaim.holds_of_wide 7 Try.f7 rfl rfl rfl rfl rfl rfl rfl ⟨rfl, rfl, rfl, rfl, rfl⟩ rfl rfl rfl rfl rfl (by kernel_rfl) Try.func7 (by kernel_rfl)
    (of_decide_eq_true (by kernel_rfl)) (by unfold Func.isWrapper; first | (rw [if_pos (by decide +kernel)]; kernel_rfl) | (rw [if_neg (by decide +kernel)]; exact ⟨rfl, rfl⟩))
    (fun os started H enc _ => lifted os started H enc)

/-- ████ THE STATEMENT ████ -/
theorem proved : Rows.GeomSetsSaid :=
  over
#print axioms proved
end Go.Proofs.Ytigibbekbncpiaa.geomSets

/-
  GeomExact at a right geometry.
-/
import Derived.Test.YtigibbekbncpiaaWalks6
import Derived.Deep.CutRange
import Derived.Deep.DeepCutAuto
namespace Go.Proofs.Ytigibbekbncpiaa
open Go.ChangeShapes Go.WideShapes Go.ChangeAt Go.RowKit
set_option linter.unusedVariables false
theorem i64_bounds {n : Int} (h : (Lit.int .i64 n).wf = true) : -9223372036854775808 ≤ n ∧ n ≤ 9223372036854775807 := by
  simp only [Lit.wf, IntKind.min, IntKind.max, IntKind.signed, IntKind.bits, Bool.and_eq_true, decide_eq_true_eq, if_true] at h
  omega
theorem Cells_is {z d s l a n : Int} (w : World) (h : okB z d s l a = true) (hn : a + 2 * l + 2 * z + z * (d + 1 + s) = n) :
    Calls Try.prog 10 #[.agg #[.int .i64 z, .int .i64 d, .int .i64 s, .int .i64 l, .int .i64 a]] w fun e w' => e = .returned (.tuple #[.int .i64 n, .int .i64 0]) ∧ Below w.heap.size w w' := by
  subst hn
  exact Cells_ok z d s l a w h
theorem rcells_is {z d s l a n : Int} (w : World) (h : okB z d s l a = true) (hn : a + 2 * l + 2 * z + z * (d + 1 + s) = n) :
    Calls Try.prog 23 #[.agg #[.int .i64 z, .int .i64 d, .int .i64 s, .int .i64 l, .int .i64 a]] w fun e w' => e = .returned (.int .i64 n) ∧ Below w.heap.size w w' := by
  subst hn
  exact rcells_ok z d s l a w h
theorem Blocks_is {z d s l a m : Int} (w : World) (h : okB z d s l a = true) (hm : z * d = m) :
    Calls Try.prog 13 #[.agg #[.int .i64 z, .int .i64 d, .int .i64 s, .int .i64 l, .int .i64 a]] w fun e w' => e = .returned (.tuple #[.int .i64 m, .int .i64 0]) ∧ Below w.heap.size w w' := by
  subst hm
  exact Blocks_ok z d s l a w h
theorem rper_is {z d s l a p : Int} (w : World) (h : okB z d s l a = true) (hp : d + 1 + s = p) :
    Calls Try.prog 27 #[.agg #[.int .i64 z, .int .i64 d, .int .i64 s, .int .i64 l, .int .i64 a]] w fun e w' => e = .returned (.int .i64 p) ∧ Below w.heap.size w w' := by
  subst hp
  exact rper_ok z d s l a w h
theorem rset_ok (z d s l a x : Int) (w : World) (h : okB z d s l a = true) (h4 : x < a + 2 * l + 2 * z + z * (d + 1 + s)) :
    Calls Try.prog 29 #[.agg #[.int .i64 z, .int .i64 d, .int .i64 s, .int .i64 l, .int .i64 a], .int .i64 x] w fun e w' => e = .returned (.int .i64 (setF z d s l a x)) ∧ Below w.heap.size w w' := by
  by_cases h1 : x < a
  · have e : setF z d s l a x = z + l + z := by rw [setF, if_pos h1]; omega
    rw [e]; exact rset1 z d s l a x w h h1
  · by_cases h2 : x < a + 2 * l
    · have e : setF z d s l a x = z + (x - a) % l := by rw [setF, if_neg h1, if_pos h2]
      rw [e]; exact rset2 z d s l a x w h h1 h2
    · by_cases h3 : x < a + 2 * l + 2 * z
      · have e : setF z d s l a x = z + l + (x - a - 2 * l) / 2 := by rw [setF, if_neg h1, if_neg h2, if_pos h3, show x - (a + 2 * l) = x - a - 2 * l from by omega]
        rw [e]; exact rset3 z d s l a x w h h1 h2 h3
      · have e : setF z d s l a x = (x - (a + 2 * l + 2 * z)) / (d + 1 + s) := by rw [setF, if_neg h1, if_neg h2, if_neg h3]
        rw [e]; exact rset4 z d s l a x w h h1 h2 h3 h4
theorem anchor_x {z d s l a : Int} (h : okB z d s l a = true) (i : Int) :
    ∃ v ev : Int, (∀ w, Calls Try.prog 18 #[.agg #[.int .i64 z, .int .i64 d, .int .i64 s, .int .i64 l, .int .i64 a], .int .i64 i] w fun e w' => e = .returned (.tuple #[.int .i64 v, .int .i64 ev]) ∧ Below w.heap.size w w') ∧ ((0 ≤ i ∧ i < a ∧ v = i ∧ ev = 0) ∨ (¬ (0 ≤ i ∧ i < a) ∧ v = 0 ∧ ev = 1)) := by
  by_cases hi : 0 ≤ i ∧ i < a
  · exact ⟨i, 0, fun w => Anchor_yes z d s l a i w h (inB_yes hi.1 (by omega)), .inl ⟨hi.1, hi.2, rfl, rfl⟩⟩
  · have hn : inB i 0 (a - 1) = false := by
      by_cases h0 : 0 ≤ i
      · exact inB_no2 (fun hh => hi ⟨h0, by omega⟩)
      · exact inB_no1 h0
    exact ⟨0, 1, fun w => Anchor_no z d s l a i w h hn, .inr ⟨hi, rfl, rfl⟩⟩
theorem log_x {z d s l a : Int} (h : okB z d s l a = true) (i k : Int) :
    ∃ (v ev : Int) (r : Bool), (∀ w, Calls Try.prog 15 #[.agg #[.int .i64 z, .int .i64 d, .int .i64 s, .int .i64 l, .int .i64 a], .int .i64 i, .int .i64 k] w fun e w' => e = .returned (.tuple #[.int .i64 v, .int .i64 ev]) ∧ Below w.heap.size w w') ∧
      ((r = true ∧ ev = 0 ∧ 0 ≤ i ∧ i < 2 ∧ 0 ≤ k ∧ k < l ∧ ∀ w, Calls Try.prog 25 #[.agg #[.int .i64 z, .int .i64 d, .int .i64 s, .int .i64 l, .int .i64 a], .int .i64 i, .int .i64 k] w fun e w' => e = .returned (.int .i64 v) ∧ Below w.heap.size w w') ∨
        (r = false ∧ v = 0 ∧ ev = 1 ∧ ¬ (0 ≤ i ∧ i < 2 ∧ 0 ≤ k ∧ k < l))) := by
  have bd := okB_bounds h
  by_cases hi : 0 ≤ i ∧ i < 2
  · by_cases hk : 0 ≤ k ∧ k < l
    · have b1 : inB i 0 1 = true := inB_yes hi.1 (by omega)
      have b2 : inB k 0 (l - 1) = true := inB_yes hk.1 (by omega)
      exact ⟨a + i * l + k, 0, true, fun w => Log_yes z d s l a i k w h b1 b2, .inl ⟨rfl, rfl, hi.1, hi.2, hk.1, hk.2, fun w => rlog_ok z d s l a i k w h b1 b2⟩⟩
    · have b1 : inB i 0 1 = true := inB_yes hi.1 (by omega)
      have b2 : inB k 0 (l - 1) = false := by
        by_cases h0 : 0 ≤ k
        · exact inB_no2 (fun hh => hk ⟨h0, by omega⟩)
        · exact inB_no1 h0
      exact ⟨0, 1, false, fun w => Log_no2 z d s l a i k w h b1 b2, .inr ⟨rfl, rfl, rfl, fun hh => hk hh.2.2⟩⟩
  · have b1 : inB i 0 1 = false := by
      by_cases h0 : 0 ≤ i
      · exact inB_no2 (fun hh => hi ⟨h0, by omega⟩)
      · exact inB_no1 h0
    exact ⟨0, 1, false, fun w => Log_no1 z d s l a i k w h b1, .inr ⟨rfl, rfl, rfl, fun hh => hi ⟨hh.1, hh.2.1⟩⟩⟩
theorem table_x {z d s l a : Int} (h : okB z d s l a = true) (i k : Int) :
    ∃ (v ev : Int) (r : Bool), (∀ w, Calls Try.prog 16 #[.agg #[.int .i64 z, .int .i64 d, .int .i64 s, .int .i64 l, .int .i64 a], .int .i64 i, .int .i64 k] w fun e w' => e = .returned (.tuple #[.int .i64 v, .int .i64 ev]) ∧ Below w.heap.size w w') ∧
      ((r = true ∧ ev = 0 ∧ 0 ≤ i ∧ i < z ∧ 0 ≤ k ∧ k < 2 ∧ ∀ w, Calls Try.prog 26 #[.agg #[.int .i64 z, .int .i64 d, .int .i64 s, .int .i64 l, .int .i64 a], .int .i64 i, .int .i64 k] w fun e w' => e = .returned (.int .i64 v) ∧ Below w.heap.size w w') ∨
        (r = false ∧ v = 0 ∧ ev = 1 ∧ ¬ (0 ≤ i ∧ i < z ∧ 0 ≤ k ∧ k < 2))) := by
  have bd := okB_bounds h
  by_cases hi : 0 ≤ i ∧ i < z
  · by_cases hk : 0 ≤ k ∧ k < 2
    · have b1 : inB i 0 (z - 1) = true := inB_yes hi.1 (by omega)
      have b2 : inB k 0 1 = true := inB_yes hk.1 (by omega)
      exact ⟨a + 2 * l + 2 * i + k, 0, true, fun w => Table_yes z d s l a i k w h b1 b2, .inl ⟨rfl, rfl, hi.1, hi.2, hk.1, hk.2, fun w => rtable_ok z d s l a i k w h b1 b2⟩⟩
    · have b1 : inB i 0 (z - 1) = true := inB_yes hi.1 (by omega)
      have b2 : inB k 0 1 = false := by
        by_cases h0 : 0 ≤ k
        · exact inB_no2 (fun hh => hk ⟨h0, by omega⟩)
        · exact inB_no1 h0
      exact ⟨0, 1, false, fun w => Table_no2 z d s l a i k w h b1 b2, .inr ⟨rfl, rfl, rfl, fun hh => hk hh.2.2⟩⟩
  · have b1 : inB i 0 (z - 1) = false := by
      by_cases h0 : 0 ≤ i
      · exact inB_no2 (fun hh => hi ⟨h0, by omega⟩)
      · exact inB_no1 h0
    exact ⟨0, 1, false, fun w => Table_no1 z d s l a i k w h b1, .inr ⟨rfl, rfl, rfl, fun hh => hi ⟨hh.1, hh.2.1⟩⟩⟩
theorem slot_x {z d s l a : Int} (h : okB z d s l a = true) (i k : Int) :
    ∃ (v ev : Int) (r : Bool), (∀ w, Calls Try.prog 17 #[.agg #[.int .i64 z, .int .i64 d, .int .i64 s, .int .i64 l, .int .i64 a], .int .i64 i, .int .i64 k] w fun e w' => e = .returned (.tuple #[.int .i64 v, .int .i64 ev]) ∧ Below w.heap.size w w') ∧
      ((r = true ∧ ev = 0 ∧ 0 ≤ i ∧ i < z ∧ 0 ≤ k ∧ k < d + 1 + s ∧ ∀ w, Calls Try.prog 28 #[.agg #[.int .i64 z, .int .i64 d, .int .i64 s, .int .i64 l, .int .i64 a], .int .i64 i, .int .i64 k] w fun e w' => e = .returned (.int .i64 v) ∧ Below w.heap.size w w') ∨
        (r = false ∧ v = 0 ∧ ev = 1 ∧ ¬ (0 ≤ i ∧ i < z ∧ 0 ≤ k ∧ k < d + 1 + s))) := by
  have bd := okB_bounds h
  by_cases hi : 0 ≤ i ∧ i < z
  · by_cases hk : 0 ≤ k ∧ k < d + 1 + s
    · have b1 : inB i 0 (z - 1) = true := inB_yes hi.1 (by omega)
      have b2 : inB k 0 (d + 1 + s - 1) = true := inB_yes hk.1 (by omega)
      exact ⟨a + 2 * l + 2 * z + i * (d + 1 + s) + k, 0, true, fun w => Slot_yes z d s l a i k w h b1 b2, .inl ⟨rfl, rfl, hi.1, hi.2, hk.1, hk.2, fun w => rslot_ok z d s l a i k w h ⟨hi.1, by omega⟩ ⟨hk.1, by omega⟩⟩⟩
    · have b1 : inB i 0 (z - 1) = true := inB_yes hi.1 (by omega)
      have b2 : inB k 0 (d + 1 + s - 1) = false := by
        by_cases h0 : 0 ≤ k
        · exact inB_no2 (fun hh => hk ⟨h0, by omega⟩)
        · exact inB_no1 h0
      exact ⟨0, 1, false, fun w => Slot_no2 z d s l a i k w h b1 b2, .inr ⟨rfl, rfl, rfl, fun hh => hk hh.2.2⟩⟩
  · have b1 : inB i 0 (z - 1) = false := by
      by_cases h0 : 0 ≤ i
      · exact inB_no2 (fun hh => hi ⟨h0, by omega⟩)
      · exact inB_no1 h0
    exact ⟨0, 1, false, fun w => Slot_no1 z d s l a i k w h b1, .inr ⟨rfl, rfl, rfl, fun hh => hi ⟨hh.1, hh.2.1⟩⟩⟩
theorem set_x {z d s l a n : Int} (h : okB z d s l a = true) (hn : a + 2 * l + 2 * z + z * (d + 1 + s) = n) (x : Int) (hx : x ≤ 9223372036854775807) :
    ∃ v ev : Int, (∀ w, Calls Try.prog 20 #[.agg #[.int .i64 z, .int .i64 d, .int .i64 s, .int .i64 l, .int .i64 a], .int .i64 x] w fun e w' => e = .returned (.tuple #[.int .i64 v, .int .i64 ev]) ∧ Below w.heap.size w w') ∧
      ((ev = 0 ∧ 0 ≤ x ∧ x < n ∧ ∀ w, Calls Try.prog 29 #[.agg #[.int .i64 z, .int .i64 d, .int .i64 s, .int .i64 l, .int .i64 a], .int .i64 x] w fun e w' => e = .returned (.int .i64 v) ∧ Below w.heap.size w w') ∨ (v = 0 ∧ ev = 1 ∧ ¬ (0 ≤ x ∧ x < n))) := by
  subst hn
  by_cases hi : 0 ≤ x ∧ x < a + 2 * l + 2 * z + z * (d + 1 + s)
  · exact ⟨_, 0, fun w => Set_yes z d s l a x w hx h (inB_yes hi.1 (by omega)), .inl ⟨rfl, hi.1, hi.2, fun w => rset_ok z d s l a x w h hi.2⟩⟩
  · have hn : inB x 0 (a + 2 * l + 2 * z + z * (d + 1 + s) - 1) = false := by
      by_cases h0 : 0 ≤ x
      · exact inB_no2 (fun hh => hi ⟨h0, by omega⟩)
      · exact inB_no1 h0
    exact ⟨0, 1, fun w => Set_no z d s l a x w hx h hn, .inr ⟨rfl, rfl, hi⟩⟩
theorem split_x {z d s l a m : Int} (h : okB z d s l a = true) (hm : z * d = m) (x : Int) :
    ∃ q r ev : Int, (∀ w, Calls Try.prog 14 #[.agg #[.int .i64 z, .int .i64 d, .int .i64 s, .int .i64 l, .int .i64 a], .int .i64 x] w fun e w' => e = .returned (.tuple #[.int .i64 q, .int .i64 r, .int .i64 ev]) ∧ Below w.heap.size w w') ∧
      ((ev = 0 ∧ 0 ≤ x ∧ x < m ∧ x / d = q ∧ x % d = r) ∨ (q = 0 ∧ r = 0 ∧ ev = 17 ∧ ¬ (0 ≤ x ∧ x < m))) := by
  subst hm
  by_cases hi : 0 ≤ x ∧ x < z * d
  · exact ⟨_, _, 0, fun w => Split_ok z d s l a x w h (inB_yes hi.1 (by omega)), .inl ⟨rfl, hi.1, hi.2, rfl, rfl⟩⟩
  · have hn : inB x 0 (z * d - 1) = false := by
      by_cases h0 : 0 ≤ x
      · exact inB_no2 (fun hh => hi ⟨h0, by omega⟩)
      · exact inB_no1 h0
    exact ⟨0, 0, 17, fun w => Split_out z d s l a x w h hn, .inr ⟨rfl, rfl, rfl, hi⟩⟩
set_option maxRecDepth 100000 in
set_option maxHeartbeats 6400000 in
theorem right (z d s l a x y c : Int) (hc : c ≤ 9223372036854775807) (w : World) (h : okB z d s l a = true) :
    Calls Try.prog 8 #[.agg #[.int .i64 z, .int .i64 d, .int .i64 s, .int .i64 l, .int .i64 a], .int .i64 x, .int .i64 y, .int .i64 c] w fun e w' => e = .returned (.bool true) ∧ Below w.heap.size w w' := by
  have bd := okB_bounds h
  have zdb := zd_bounds h
  obtain ⟨zp0, zp1⟩ := zp_bounds h
  obtain ⟨n, hn⟩ : ∃ n, a + 2 * l + 2 * z + z * (d + 1 + s) = n := ⟨_, rfl⟩
  obtain ⟨m, hm⟩ : ∃ m, z * d = m := ⟨_, rfl⟩
  obtain ⟨p, hp⟩ : ∃ p, d + 1 + s = p := ⟨_, rfl⟩
  have nb : 1 ≤ n ∧ n ≤ 200 := by omega
  have mb : 1 ≤ m ∧ m ≤ 16 := by omega
  have mn : m ≤ n := by
    have : z * d ≤ z * (d + 1 + s) := Int.mul_le_mul_of_nonneg_left (by omega) (by omega)
    omega
  obtain ⟨v1, ev1, t1⟩ := anchor_x h x
  obtain ⟨v2, ev2, r2, t2⟩ := log_x h x y
  obtain ⟨v3, ev3, r3, t3⟩ := table_x h x y
  obtain ⟨v4, ev4, r4, t4⟩ := slot_x h x y
  obtain ⟨v5, ev5, t5⟩ := set_x h hn c hc
  obtain ⟨q, r, ev6, t6⟩ := split_x h hm c
  rw [hp] at t4
  have T1 := Lib.hid t1
  have T2 := Lib.hid t2
  have T3 := Lib.hid t3
  have T4 := Lib.hid t4
  have T5 := Lib.hid t5
  have T6 := Lib.hid t6
  have HN := Lib.hid hn
  have HM := Lib.hid hm
  have HP := Lib.hid hp
  have eM : (m != z * d) = false := by rw [hm]; exact bne_self_eq_false m
  have eS : (2 * z + l + 1 != 2 * z + l + 1) = false := bne_self_eq_false _
  clear t1 t2 t3 t4 t5 t6 hn hp zp0 zp1
  clear hm
  have G0 := Lib.hid (BoxS.start w (.int .i64 z) (.int .i64 d) (.int .i64 s) (.int .i64 l) (.int .i64 a) 23)
  go_enter Try.func8, Try.ntmps8
  go_wp2_with fail
  refine (rgeo_ok _ _ _ _ _ _ h).mono ?_
  rintro e w1 ⟨rfl, hb1⟩
  have G1 := Lib.hid (G0.out.step hb1)
  clear hb1 G0
  have k0 := G1.out.2.1
  have k1 := G1.out.2.2.1
  have k2 := G1.out.2.2.2.1
  have k3 := G1.out.2.2.2.2.1
  have k4 := G1.out.2.2.2.2.2
  go_wp2_with fail
  refine (check_ok _ _ _ _ _ _ h).mono ?_
  rintro e w2 ⟨rfl, hb2⟩
  have G2 := Lib.hid (G1.out.step hb2)
  clear hb2 G1 k0 k1 k2 k3 k4
  have k0 := G2.out.2.1
  have k1 := G2.out.2.2.1
  have k2 := G2.out.2.2.2.1
  have k3 := G2.out.2.2.2.2.1
  have k4 := G2.out.2.2.2.2.2
  go_wp2_with fail
  refine (Cells_is _ h HN.out).mono ?_
  rintro e w3 ⟨rfl, hb3⟩
  have G3 := Lib.hid (G2.out.step hb3)
  clear hb3 G2 k0 k1 k2 k3 k4
  have k0 := G3.out.2.1
  have k1 := G3.out.2.2.1
  have k2 := G3.out.2.2.2.1
  have k3 := G3.out.2.2.2.2.1
  have k4 := G3.out.2.2.2.2.2
  go_wp2_with fail
  refine (Blocks_is _ h HM.out).mono ?_
  rintro e w4 ⟨rfl, hb4⟩
  have G4 := Lib.hid (G3.out.step hb4)
  clear hb4 G3 k0 k1 k2 k3 k4
  have k0 := G4.out.2.1
  have k1 := G4.out.2.2.1
  have k2 := G4.out.2.2.2.1
  have k3 := G4.out.2.2.2.2.1
  have k4 := G4.out.2.2.2.2.2
  go_wp2_with fail
  refine (T1.out.1 _).mono ?_
  rintro e w5 ⟨rfl, hb5⟩
  have G5 := Lib.hid (G4.out.step hb5)
  clear hb5 G4 k0 k1 k2 k3 k4
  have k0 := G5.out.2.1
  have k1 := G5.out.2.2.1
  have k2 := G5.out.2.2.2.1
  have k3 := G5.out.2.2.2.2.1
  have k4 := G5.out.2.2.2.2.2
  go_wp2_with fail
  refine (T2.out.1 _).mono ?_
  rintro e w6 ⟨rfl, hb6⟩
  have G6 := Lib.hid (G5.out.step hb6)
  clear hb6 G5 k0 k1 k2 k3 k4
  have k0 := G6.out.2.1
  have k1 := G6.out.2.2.1
  have k2 := G6.out.2.2.2.1
  have k3 := G6.out.2.2.2.2.1
  have k4 := G6.out.2.2.2.2.2
  go_wp2_with fail
  refine (T3.out.1 _).mono ?_
  rintro e w7 ⟨rfl, hb7⟩
  have G7 := Lib.hid (G6.out.step hb7)
  clear hb7 G6 k0 k1 k2 k3 k4
  have k0 := G7.out.2.1
  have k1 := G7.out.2.2.1
  have k2 := G7.out.2.2.2.1
  have k3 := G7.out.2.2.2.2.1
  have k4 := G7.out.2.2.2.2.2
  go_wp2_with fail
  refine (T4.out.1 _).mono ?_
  rintro e w8 ⟨rfl, hb8⟩
  have G8 := Lib.hid (G7.out.step hb8)
  clear hb8 G7 k0 k1 k2 k3 k4
  have k0 := G8.out.2.1
  have k1 := G8.out.2.2.1
  have k2 := G8.out.2.2.2.1
  have k3 := G8.out.2.2.2.2.1
  have k4 := G8.out.2.2.2.2.2
  go_wp2_with fail
  refine (T5.out.1 _).mono ?_
  rintro e w9 ⟨rfl, hb9⟩
  have G9 := Lib.hid (G8.out.step hb9)
  clear hb9 G8 k0 k1 k2 k3 k4
  have k0 := G9.out.2.1
  have k1 := G9.out.2.2.1
  have k2 := G9.out.2.2.2.1
  have k3 := G9.out.2.2.2.2.1
  have k4 := G9.out.2.2.2.2.2
  go_wp2_with fail
  refine (Sets_ok _ _ _ _ _ _ h).mono ?_
  rintro e w10 ⟨rfl, hb10⟩
  have G10 := Lib.hid (G9.out.step hb10)
  clear hb10 G9 k0 k1 k2 k3 k4
  have k0 := G10.out.2.1
  have k1 := G10.out.2.2.1
  have k2 := G10.out.2.2.2.1
  have k3 := G10.out.2.2.2.2.1
  have k4 := G10.out.2.2.2.2.2
  go_wp2_with fail
  refine (T6.out.1 _).mono ?_
  rintro e w11 ⟨rfl, hb11⟩
  have G11 := Lib.hid (G10.out.step hb11)
  clear hb11 G10 k0 k1 k2 k3 k4
  have k0 := G11.out.2.1
  have k1 := G11.out.2.2.1
  have k2 := G11.out.2.2.2.1
  have k3 := G11.out.2.2.2.2.1
  have k4 := G11.out.2.2.2.2.2
  have f0 : ((0 : Int) != 0) = false := by decide
  go_wp2_with fail
  refine (rcells_is _ h HN.out).mono ?_
  rintro e w12 ⟨rfl, hb12⟩
  have G12 := Lib.hid (G11.out.step hb12)
  clear hb12 G11 k0 k1 k2 k3 k4
  have k0 := G12.out.2.1
  have k1 := G12.out.2.2.1
  have k2 := G12.out.2.2.2.1
  have k3 := G12.out.2.2.2.2.1
  have k4 := G12.out.2.2.2.2.2
  go_upto_region 17 with (fail)
  go_cut [210] from 198 to 210 (fun v wc => v = .bool false ∧ Hid (BoxS w (.int .i64 z) (.int .i64 d) (.int .i64 s) (.int .i64 l) (.int .i64 a) wc))
  case first =>
    rcases T1.out.2 with ⟨i0, i1, hv, he⟩ | ⟨hno, hv, he⟩
    · subst hv he
      go_wp2_with (go_at_call 24; refine (ltold_yes _ _ _).mono ?_; rintro e w' ⟨rfl, rfl⟩)
      go_meet
      exact ⟨rfl, G12⟩
    · subst hv he
      by_cases i0 : 0 ≤ x
      · have i1 : ¬ x < a := fun hh => hno ⟨i0, hh⟩
        have i2 : decide (x < a) = false := decide_eq_false i1
        clear hno
        go_wp2_with (go_at_call 24; refine (ltold_no _ _ _).mono ?_; rintro e w' ⟨rfl, rfl⟩)
        go_meet
        exact ⟨rfl, G12⟩
      · clear hno
        go_wp2_with (go_at_call 24; refine (ltold_no _ _ _).mono ?_; rintro e w' ⟨rfl, rfl⟩)
        go_meet
        exact ⟨rfl, G12⟩
  case rest =>
  obtain ⟨rfl, R1⟩ := hcut
  clear G12 k0 k1 k2 k3 k4
  have k0 := R1.out.2.1
  have k1 := R1.out.2.2.1
  have k2 := R1.out.2.2.2.1
  have k3 := R1.out.2.2.2.2.1
  have k4 := R1.out.2.2.2.2.2
  go_upto_region 19 with (fail)
  go_cut [29] from 211 to 226 (fun v wc => v = .bool r2 ∧ Hid (BoxS w (.int .i64 z) (.int .i64 d) (.int .i64 s) (.int .i64 l) (.int .i64 a) wc))
  case first =>
    rcases T2.out.2 with ⟨hr, he, i0, i1, i2, i3, hcall⟩ | ⟨hr, hv, he, hno⟩
    · subst hr
      clear hcall he
      by_cases x0 : x = 0
      · subst x0
        go_wp2_with fail
        go_meet
        exact ⟨by simp [*], R1⟩
      · obtain rfl : x = 1 := by omega
        go_wp2_with fail
        go_meet
        exact ⟨by simp [*], R1⟩
    · subst hr
      clear hv he
      by_cases i0 : 0 ≤ x
      · by_cases i1 : x < 2
        · by_cases i2 : 0 ≤ y
          · have i3 : ¬ y < l := fun hh => hno ⟨i0, i1, i2, hh⟩
            clear hno
            by_cases x0 : x = 0
            · subst x0
              go_wp2_with fail
              go_meet
              exact ⟨by simp [*], R1⟩
            · obtain rfl : x = 1 := by omega
              go_wp2_with fail
              go_meet
              exact ⟨by simp [*], R1⟩
          · clear hno
            by_cases x0 : x = 0
            · subst x0
              go_wp2_with fail
              go_meet
              exact ⟨by simp [*], R1⟩
            · obtain rfl : x = 1 := by omega
              go_wp2_with fail
              go_meet
              exact ⟨by simp [*], R1⟩
        · clear hno
          have x0 : (x == 0) = false := beq_eq_false_iff_ne.2 (by omega)
          have x1 : (x == 1) = false := beq_eq_false_iff_ne.2 (by omega)
          go_wp2_with fail
          go_meet
          exact ⟨by simp [*], R1⟩
      · clear hno
        have x0 : (x == 0) = false := beq_eq_false_iff_ne.2 (by omega)
        have x1 : (x == 1) = false := beq_eq_false_iff_ne.2 (by omega)
        go_wp2_with fail
        go_meet
        exact ⟨by simp [*], R1⟩
  case rest =>
  obtain ⟨rfl, R2⟩ := hcut
  clear R1 k0 k1 k2 k3 k4
  have k0 := R2.out.2.1
  have k1 := R2.out.2.2.1
  have k2 := R2.out.2.2.2.1
  have k3 := R2.out.2.2.2.2.1
  have k4 := R2.out.2.2.2.2.2
  go_upto_region 20 with (fail)
  go_cut [247] from 227 to 247 (fun v wc => v = .bool false ∧ Hid (BoxS w (.int .i64 z) (.int .i64 d) (.int .i64 s) (.int .i64 l) (.int .i64 a) wc))
  case first =>
    rcases T2.out.2 with ⟨hr, he, i0, i1, i2, i3, hcall⟩ | ⟨hr, hv, he, hno⟩
    · subst hr he
      have HC := Lib.hid hcall
      clear hcall i0 i1 i2 i3
      go_wp2_with fail
      refine (HC.out _).mono ?_
      rintro e wy ⟨rfl, hby⟩
      have GY := Lib.hid (R2.out.step hby)
      clear hby
      go_wp2_with (go_at_call 24; refine (ltold_yes _ _ _).mono ?_; rintro e w' ⟨rfl, rfl⟩)
      go_meet
      exact ⟨rfl, GY⟩
    · subst hr hv he
      clear hno
      go_wp2_with (go_at_call 24; refine (ltold_no _ _ _).mono ?_; rintro e w' ⟨rfl, rfl⟩)
      go_meet
      exact ⟨rfl, R2⟩
  case rest =>
  obtain ⟨rfl, R3⟩ := hcut
  clear R2 k0 k1 k2 k3 k4
  have k0 := R3.out.2.1
  have k1 := R3.out.2.2.1
  have k2 := R3.out.2.2.2.1
  have k3 := R3.out.2.2.2.2.1
  have k4 := R3.out.2.2.2.2.2
  go_upto_region 22 with (fail)
  go_cut [29] from 248 to 263 (fun v wc => v = .bool r3 ∧ Hid (BoxS w (.int .i64 z) (.int .i64 d) (.int .i64 s) (.int .i64 l) (.int .i64 a) wc))
  case first =>
    rcases T3.out.2 with ⟨hr, he, i0, i1, i2, i3, hcall⟩ | ⟨hr, hv, he, hno⟩
    · subst hr
      clear hcall he
      by_cases x0 : y = 0
      · subst x0
        go_wp2_with fail
        go_meet
        exact ⟨by simp [*], R3⟩
      · obtain rfl : y = 1 := by omega
        go_wp2_with fail
        go_meet
        exact ⟨by simp [*], R3⟩
    · subst hr
      clear hv he
      by_cases i0 : 0 ≤ x
      · by_cases i1 : x < z
        · by_cases i2 : 0 ≤ y
          · have i3 : ¬ y < 2 := fun hh => hno ⟨i0, i1, i2, hh⟩
            clear hno
            have x0 : (y == 0) = false := beq_eq_false_iff_ne.2 (by omega)
            have x1 : (y == 1) = false := beq_eq_false_iff_ne.2 (by omega)
            go_wp2_with fail
            go_meet
            exact ⟨by simp [*], R3⟩
          · clear hno
            have x0 : (y == 0) = false := beq_eq_false_iff_ne.2 (by omega)
            have x1 : (y == 1) = false := beq_eq_false_iff_ne.2 (by omega)
            go_wp2_with fail
            go_meet
            exact ⟨by simp [*], R3⟩
        · clear hno
          go_wp2_with fail
          go_meet
          exact ⟨by simp [*], R3⟩
      · clear hno
        go_wp2_with fail
        go_meet
        exact ⟨by simp [*], R3⟩
  case rest =>
  obtain ⟨rfl, R4⟩ := hcut
  clear R3 k0 k1 k2 k3 k4
  have k0 := R4.out.2.1
  have k1 := R4.out.2.2.1
  have k2 := R4.out.2.2.2.1
  have k3 := R4.out.2.2.2.2.1
  have k4 := R4.out.2.2.2.2.2
  go_upto_region 23 with (fail)
  go_cut [284] from 264 to 284 (fun v wc => v = .bool false ∧ Hid (BoxS w (.int .i64 z) (.int .i64 d) (.int .i64 s) (.int .i64 l) (.int .i64 a) wc))
  case first =>
    rcases T3.out.2 with ⟨hr, he, i0, i1, i2, i3, hcall⟩ | ⟨hr, hv, he, hno⟩
    · subst hr he
      have HC := Lib.hid hcall
      clear hcall i0 i1 i2 i3
      go_wp2_with fail
      refine (HC.out _).mono ?_
      rintro e wy ⟨rfl, hby⟩
      have GY := Lib.hid (R4.out.step hby)
      clear hby
      go_wp2_with (go_at_call 24; refine (ltold_yes _ _ _).mono ?_; rintro e w' ⟨rfl, rfl⟩)
      go_meet
      exact ⟨rfl, GY⟩
    · subst hr hv he
      clear hno
      go_wp2_with (go_at_call 24; refine (ltold_no _ _ _).mono ?_; rintro e w' ⟨rfl, rfl⟩)
      go_meet
      exact ⟨rfl, R4⟩
  case rest =>
  obtain ⟨rfl, R5⟩ := hcut
  clear R4 k0 k1 k2 k3 k4
  have k0 := R5.out.2.1
  have k1 := R5.out.2.2.1
  have k2 := R5.out.2.2.2.1
  have k3 := R5.out.2.2.2.2.1
  have k4 := R5.out.2.2.2.2.2
  go_upto_region 25 with (fail)
  go_cut [29] from 285 to 302 (fun v wc => v = .bool r4 ∧ Hid (BoxS w (.int .i64 z) (.int .i64 d) (.int .i64 s) (.int .i64 l) (.int .i64 a) wc))
  case first =>
    rcases T4.out.2 with ⟨hr, he, i0, i1, i2, i3, hcall⟩ | ⟨hr, hv, he, hno⟩
    · subst hr
      clear hcall he
      go_wp2_with fail
      refine (rper_is _ h HP.out).mono ?_
      rintro e wy ⟨rfl, hby⟩
      have GY := Lib.hid (R5.out.step hby)
      clear hby
      go_wp2_with fail
      go_meet
      exact ⟨by simp [*], GY⟩
    · subst hr
      clear hv he
      by_cases i0 : 0 ≤ x
      · by_cases i1 : x < z
        · by_cases i2 : 0 ≤ y
          · have i3 : ¬ y < p := fun hh => hno ⟨i0, i1, i2, hh⟩
            clear hno
            go_wp2_with fail
            refine (rper_is _ h HP.out).mono ?_
            rintro e wy ⟨rfl, hby⟩
            have GY := Lib.hid (R5.out.step hby)
            clear hby
            go_wp2_with fail
            go_meet
            exact ⟨by simp [*], GY⟩
          · clear hno
            go_wp2_with fail
            go_meet
            exact ⟨by simp [*], R5⟩
        · clear hno
          go_wp2_with fail
          go_meet
          exact ⟨by simp [*], R5⟩
      · clear hno
        go_wp2_with fail
        go_meet
        exact ⟨by simp [*], R5⟩
  case rest =>
  obtain ⟨rfl, R6⟩ := hcut
  clear R5 k0 k1 k2 k3 k4
  have k0 := R6.out.2.1
  have k1 := R6.out.2.2.1
  have k2 := R6.out.2.2.2.1
  have k3 := R6.out.2.2.2.2.1
  have k4 := R6.out.2.2.2.2.2
  go_upto_region 26 with (fail)
  go_cut [323] from 303 to 323 (fun v wc => v = .bool false ∧ Hid (BoxS w (.int .i64 z) (.int .i64 d) (.int .i64 s) (.int .i64 l) (.int .i64 a) wc))
  case first =>
    rcases T4.out.2 with ⟨hr, he, i0, i1, i2, i3, hcall⟩ | ⟨hr, hv, he, hno⟩
    · subst hr he
      have HC := Lib.hid hcall
      clear hcall i0 i1 i2 i3
      go_wp2_with fail
      refine (HC.out _).mono ?_
      rintro e wy ⟨rfl, hby⟩
      have GY := Lib.hid (R6.out.step hby)
      clear hby
      go_wp2_with (go_at_call 24; refine (ltold_yes _ _ _).mono ?_; rintro e w' ⟨rfl, rfl⟩)
      go_meet
      exact ⟨rfl, GY⟩
    · subst hr hv he
      clear hno
      go_wp2_with (go_at_call 24; refine (ltold_no _ _ _).mono ?_; rintro e w' ⟨rfl, rfl⟩)
      go_meet
      exact ⟨rfl, R6⟩
  case rest =>
  obtain ⟨rfl, R7⟩ := hcut
  clear R6 k0 k1 k2 k3 k4
  have k0 := R7.out.2.1
  have k1 := R7.out.2.2.1
  have k2 := R7.out.2.2.2.1
  have k3 := R7.out.2.2.2.2.1
  have k4 := R7.out.2.2.2.2.2
  rcases T5.out.2 with ⟨he5, c0, c1, hcall⟩ | ⟨hv5, he5, cno⟩
  · subst he5
    have HC := Lib.hid hcall
    clear hcall
    have c0' : ¬ c < 0 := by omega
    have c1' : ¬ n ≤ c := by omega
    go_wp2_with fail
    refine (HC.out _).mono ?_
    rintro e wy ⟨rfl, hby⟩
    have GY := Lib.hid (R7.out.step hby)
    clear hby k0 k1 k2 k3 k4
    have k0 := GY.out.2.1
    have k1 := GY.out.2.2.1
    have k2 := GY.out.2.2.2.1
    have k3 := GY.out.2.2.2.2.1
    have k4 := GY.out.2.2.2.2.2
    go_wp2_with (fail)
    refine (ltold_yes _ _ _).mono ?_
    rintro e wt ⟨rfl, rfl⟩
    rcases T6.out.2 with ⟨he6, j0, j1, jq, jr⟩ | ⟨hq6, hr6, he6, jno⟩
    ·
        subst he6
        have j0' : ¬ c < 0 := by omega
        have j1' : ¬ m ≤ c := by omega
        have dd : ¬ d = 0 := by omega
        have q0 : 0 ≤ c / d := Int.ediv_nonneg j0 (by omega)
        have q1 : c / d ≤ c := Int.ediv_le_self _ j0
        have eq1 : (q == c / d) = true := by rw [jq]; exact beq_self_eq_true q
        have er1 : (r == c % d) = true := by rw [jr]; exact beq_self_eq_true r
        have wq : IntKind.i64.wrap (c / d) = c / d := w64 (by omega) (by omega)
        clear jq jr
        go_wp2_with fail
        refine (wakes_any _).mono ?_
        rintro e wz ⟨rfl, hbz⟩
        go_wp2_with fail
        go_ret
        exact ⟨rfl, GY.out.1.trans (hbz.mono GY.out.1.size)⟩
    ·
        subst hq6 hr6 he6
        have j1 : m ≤ c := by
          have : ¬ c < m := fun hh => jno ⟨by omega, hh⟩
          omega
        clear jno
        go_wp2_with fail
        refine (wakes_any _).mono ?_
        rintro e wz ⟨rfl, hbz⟩
        go_wp2_with fail
        go_ret
        exact ⟨rfl, GY.out.1.trans (hbz.mono GY.out.1.size)⟩
  · subst hv5 he5
    by_cases c0 : c < 0
    · clear cno
      go_wp2_with fail
      refine (ltold_no _ _ _).mono ?_
      rintro e wt ⟨rfl, rfl⟩
      rcases T6.out.2 with ⟨he6, j0, j1, jq, jr⟩ | ⟨hq6, hr6, he6, jno⟩
      · omega
      ·
          subst hq6 hr6 he6
          clear jno
          go_wp2_with fail
          refine (wakes_any _).mono ?_
          rintro e wz ⟨rfl, hbz⟩
          go_wp2_with fail
          go_ret
          exact ⟨rfl, R7.out.1.trans (hbz.mono R7.out.1.size)⟩
    · have c1 : n ≤ c := by
        have : ¬ c < n := fun hh => cno ⟨by omega, hh⟩
        omega
      clear cno
      go_wp2_with fail
      refine (ltold_no _ _ _).mono ?_
      rintro e wt ⟨rfl, rfl⟩
      rcases T6.out.2 with ⟨he6, j0, j1, jq, jr⟩ | ⟨hq6, hr6, he6, jno⟩
      · omega
      ·
          subst hq6 hr6 he6
          have j1 : m ≤ c := by
            have : ¬ c < m := fun hh => jno ⟨by omega, hh⟩
            omega
          clear jno
          go_wp2_with fail
          refine (wakes_any _).mono ?_
          rintro e wz ⟨rfl, hbz⟩
          go_wp2_with fail
          go_ret
          exact ⟨rfl, R7.out.1.trans (hbz.mono R7.out.1.size)⟩
end Go.Proofs.Ytigibbekbncpiaa

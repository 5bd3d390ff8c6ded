/-
  PROVED: the law 'GeomParts' returns true for every input, and leaves its arguments and all memory as they were. Conditions: those of the given row alone.
-/
import Derived.Test.YtigibbekbncpiaaParts
import Derived.WalkKit
import Derived.ProofKit
import Derived.OpenShut
import Derived.ShutString
import Derived.ChangeOld
import Derived.Below
namespace Go.Proofs.Ytigibbekbncpiaa.geomParts
open Go.ChangeShapes Go.WideShapes Go.ChangeAt Go.RowKit
open Go.ChangeMaps (open_string shut_string)
set_option linter.unusedVariables false      -- a walk need not use every 'w<i>' (that an integer argument fits its kind)

theorem own : ownKnob Try.prog.godebug = none := by kernel_rfl

theorem met_new (u : World) (n : Nat) : Met u.heap.size n (fun _ => 0) (u.alloc (.cells (madeCells #[.int .i64 0] n) 3)) := fun x hx => by
  refine ⟨?_, frozen_of_row _ _ _ _ _ (heap_alloc_new u _)⟩
  rw [cell_of_row _ _ _ _ _ _ (heap_alloc_new u _), ← Array.getElem?_toList, toList_madeCells_one]
  simp [hx]
theorem info3 : (Try.prog.info? 3).map (fun i => (i.zero, i.size, i.bytes)) = some (some (.int .i64 0), 1, 8) := by kernel_rfl
theorem make_run (n : Nat) (hn : n ≤ 300) (u : World) : (Instr.makeSlice 34 (.int .i64 (n : Int)) (.int .i64 (n : Int))).run Try.prog u = .ok (.slice (some ⟨u.heap.size, 0, none⟩) n n) (u.alloc (.cells (madeCells #[.int .i64 0] n) 3)) := by
  obtain ⟨i0, hi, hz0, hz1, hz2⟩ := info_parts info3
  have h := run_make (P := Try.prog) u 34 3 i0 (.int .i64 0) Try.underlying34 hi hz0 .i64 .i64 (n : Int) (n : Int) (by omega) (Int.le_refl _) (by rw [hz2]; omega) (by omega)
  have e : ((n : Int)).toNat = n := by omega
  rw [e] at h
  simpa [hz1, Value.cells] using h
theorem cells_is {z d s l a n : Int} (w : World) (h : okB z d s l a = true) (hn : a + 2 * l + 2 * z + z * (d + 1 + s) = n) :
    Calls Try.prog 10 #[.agg #[.int .i64 z, .int .i64 d, .int .i64 s, .int .i64 l, .int .i64 a]] w fun e w' => e = .returned (.tuple #[.int .i64 n, .int .i64 0]) ∧ Below w.heap.size w w' := by
  subst hn
  exact Cells_ok z d s l a w h
theorem boxset {w W : World} {c0 c1 c2 c3 c4 : Value} (h : BoxS w c0 c1 c2 c3 c4 W) {m p : Nat} (hm : w.heap.size < m) (v : Value) : BoxS w c0 c1 c2 c3 c4 (W.setCell ⟨m, p, none⟩ v) := by
  have hne : ∀ j, (W.setCell ⟨m, p, none⟩ v).cell? ⟨w.heap.size, j, none⟩ = W.cell? ⟨w.heap.size, j, none⟩ := fun j =>
    World.cell?_setCell_other W _ _ _ (by intro e; injection e with e1 _; omega)
  refine ⟨h.1.setCell (show w.heap.size ≤ (⟨m, p, none⟩ : Addr).block by show w.heap.size ≤ m; omega) v, ?_, ?_, ?_, ?_, ?_⟩
  · rw [hne]; exact h.2.1
  · rw [hne]; exact h.2.2.1
  · rw [hne]; exact h.2.2.2.1
  · rw [hne]; exact h.2.2.2.2.1
  · rw [hne]; exact h.2.2.2.2.2
set_option maxRecDepth 100000 in
set_option maxHeartbeats 3200000 in
theorem walk (a0 : Int) (a1 : Int) (a2 : Int) (a3 : Int) (a4 : Int) (w0 : (Lit.int .i64 a0).wf = true) (w1 : (Lit.int .i64 a1).wf = true) (w2 : (Lit.int .i64 a2).wf = true) (w3 : (Lit.int .i64 a3).wf = true) (w4 : (Lit.int .i64 a4).wf = true) (w : World) :
    Calls Try.prog 5 #[.int .i64 a0, .int .i64 a1, .int .i64 a2, .int .i64 a3, .int .i64 a4] w fun e w' => e = .returned (.bool true) ∧ Below w.heap.size w w' := by
  clear w0 w1 w2 w3 w4
  go_enter Try.func5, Try.ntmps5
  go_wp2_with fail
  refine (some_any _ _ _ _ _ _).mono ?_
  rintro e w1 ⟨z, d, s, l, a, h, rfl, hb1⟩
  have bd := okB_bounds h
  obtain ⟨zp0, zp1⟩ := zp_bounds h
  obtain ⟨n, hn⟩ := Int.eq_ofNat_of_zero_le (show 0 ≤ a + 2 * l + 2 * z + z * (d + 1 + s) by omega)
  have n1 : (1 : Int) ≤ (n : Int) := by omega
  have n2 : (n : Int) ≤ 300 := by omega
  have HN := Lib.hid hn
  have HB1 := Lib.hid hb1
  have H := Lib.hid h
  clear hn hb1
  go_wp2_with fail
  refine (cells_is _ h HN.out).mono ?_
  rintro e w2 ⟨rfl, hb2⟩
  have G2 := Lib.hid ((BoxS.start w1 (.int .i64 z) (.int .i64 d) (.int .i64 s) (.int .i64 l) (.int .i64 a) 23).step hb2)
  have hm2 : w1.heap.size < w2.heap.size := World.block_lt_of_cell? _ _ G2.out.2.1
  clear h hb2
  have hmk := make_run n (by omega)
  have GM := Lib.hid (G2.out.step ((Below.refl _ _).alloc (Nat.le_refl _) (.cells (madeCells #[.int .i64 0] n) 3)))
  have MM := Lib.hid (met_new w2 n)
  go_wp2_with fail
  go_loopw [15] (fun iv wr => ∃ i : Nat, i ≤ 4 ∧ iv = .int .i64 i ∧ Hid (BoxS w1 (.int .i64 z) (.int .i64 d) (.int .i64 s) (.int .i64 l) (.int .i64 a) wr) ∧ Hid (Met w2.heap.size n (fun x => Geo.hitsAll a l z (d + 1 + s) x i) wr)) (fun iv _ => 4 - (intOf iv).toNat)
  case atStart => exact ⟨0, by omega, rfl, GM, MM⟩
  case round =>
    obtain ⟨i, hi, rfl, GI, MI⟩ := hrel
    obtain ⟨wo, rfl⟩ : ∃ wo : World, wo = wr := ⟨_, rfl⟩
    by_cases hi4 : i < 4
    · have hid4 : decide ((i : Int) < 4) = true := decide_eq_true (by omega)
      go_wp2_with fail
      go_loopw [16, 17, 18, 19, 20, 21, 22, 23, 24] (fun kv _ _ _ _ _ _ _ _ wr => ∃ k : Nat, k ≤ 30 ∧ kv = .int .i64 k ∧ Hid (BoxS w1 (.int .i64 z) (.int .i64 d) (.int .i64 s) (.int .i64 l) (.int .i64 a) wr) ∧ Hid (Met w2.heap.size n (fun x => Geo.hitsAll a l z (d + 1 + s) x i + Geo.hitsRow a l z (d + 1 + s) x i k) wr)) (fun kv _ _ _ _ _ _ _ _ _ => 30 - (intOf kv).toNat)
      case atStart => exact ⟨0, by omega, rfl, GI, MI⟩
      case round =>
        obtain ⟨k, hk, rfl, GK, MK⟩ := hrel
        by_cases hk30 : k < 30
        · obtain ⟨v1, ev1, c1, t1⟩ := log_told H.out HN.out i k
          obtain ⟨v2, ev2, c2, t2⟩ := table_told H.out HN.out i k
          obtain ⟨v3, ev3, c3, t3⟩ := slot_told H.out HN.out i k
          obtain ⟨v4, ev4, c4, t4⟩ := anchor_told H.out HN.out k
          obtain ⟨B4, hB4⟩ : ∃ B, (decide (i = 0) && c4) = B := ⟨_, rfl⟩
          have HB4 := Lib.hid hB4
          clear hB4
          have T1 := Lib.hid t1
          have T2 := Lib.hid t2
          have T3 := Lib.hid t3
          have T4 := Lib.hid t4
          clear t1 t2 t3 t4
          have k0 := GK.out.2.1
          have k1 := GK.out.2.2.1
          have k2 := GK.out.2.2.2.1
          have k3 := GK.out.2.2.2.2.1
          have k4 := GK.out.2.2.2.2.2
          go_wp2_with fail
          refine (T1.out.1 _).mono ?_
          rintro e x1 ⟨rfl, hx1⟩
          have GX1 := Lib.hid (GK.out.step hx1)
          have MX1 := Lib.hid (MK.out.step hx1)
          clear hx1 k0 k1 k2 k3 k4 GK MK
          have k0 := GX1.out.2.1
          have k1 := GX1.out.2.2.1
          have k2 := GX1.out.2.2.2.1
          have k3 := GX1.out.2.2.2.2.1
          have k4 := GX1.out.2.2.2.2.2
          go_wp2_with fail
          refine (T2.out.1 _).mono ?_
          rintro e x2 ⟨rfl, hx2⟩
          have GX2 := Lib.hid (GX1.out.step hx2)
          have MX2 := Lib.hid (MX1.out.step hx2)
          clear hx2 k0 k1 k2 k3 k4 GX1 MX1
          have k0 := GX2.out.2.1
          have k1 := GX2.out.2.2.1
          have k2 := GX2.out.2.2.2.1
          have k3 := GX2.out.2.2.2.2.1
          have k4 := GX2.out.2.2.2.2.2
          go_wp2_with fail
          refine (T3.out.1 _).mono ?_
          rintro e x3 ⟨rfl, hx3⟩
          have GX3 := Lib.hid (GX2.out.step hx3)
          have MX3 := Lib.hid (MX2.out.step hx3)
          clear hx3 k0 k1 k2 k3 k4 GX2 MX2
          have k0 := GX3.out.2.1
          have k1 := GX3.out.2.2.1
          have k2 := GX3.out.2.2.2.1
          have k3 := GX3.out.2.2.2.2.1
          have k4 := GX3.out.2.2.2.2.2
          go_wp2_with fail
          refine (T4.out.1 _).mono ?_
          rintro e x4 ⟨rfl, hx4⟩
          have GX4 := Lib.hid (GX3.out.step hx4)
          have MX4 := Lib.hid (MX3.out.step hx4)
          clear hx4 k0 k1 k2 k3 k4 GX3 MX3
          have k0 := GX4.out.2.1
          have k1 := GX4.out.2.2.1
          have k2 := GX4.out.2.2.2.1
          have k3 := GX4.out.2.2.2.2.1
          have k4 := GX4.out.2.2.2.2.2
          go_upto_region 16 with (fail)
          go_cut [94] from 53 to 155 (fun v wc => v = .bool c1 ∧ Hid (BoxS w1 (.int .i64 z) (.int .i64 d) (.int .i64 s) (.int .i64 l) (.int .i64 a) wc) ∧ Hid (Met w2.heap.size n (fun x => Geo.hitsAll a l z (d + 1 + s) x i + Geo.hitsRow a l z (d + 1 + s) x i k) wc))
          case first =>
            rcases T1.out.2 with ⟨hb, he, p, hv, hp, hc⟩ | ⟨hb, he, hv, hc⟩
            · have hp' : (p : Int) < (n : Int) := by omega
              subst he hv
              go_wp2_with fail
              go_meet
              exact ⟨by rw [hb], GX4, MX4⟩
            · subst he hv
              go_wp2_with fail
              go_meet
              exact ⟨by rw [hb], GX4, MX4⟩
          case rest =>
          obtain ⟨rfl, GR1, MR1⟩ := hcut
          clear GX4 MX4
          go_upto_if 94 with (fail)
          go_cut [14] from 53 to 155 (fun v wc => v = .slice (some ⟨w2.heap.size, 0, none⟩) n n ∧ Hid (BoxS w1 (.int .i64 z) (.int .i64 d) (.int .i64 s) (.int .i64 l) (.int .i64 a) wc) ∧ Hid (Met w2.heap.size n (fun x => Geo.hitsAll a l z (d + 1 + s) x i + Geo.hitsRow a l z (d + 1 + s) x i k + Geo.at1 a 2 l x i k) wc))
          case first =>
            rcases T1.out.2 with ⟨hb, he, p, hv, hp, hc⟩ | ⟨hb, he, hv, hc⟩
            · subst hb he hv
              have hp' : (p : Int) < (n : Int) := by omega
              have cl := (MR1.out p hp).1
              have fz := (MR1.out p hp).2
              obtain ⟨C, hC⟩ : ∃ C, (fun x => Geo.hitsAll a l z (d + 1 + s) x i + Geo.hitsRow a l z (d + 1 + s) x i k) p = C := ⟨_, rfl⟩
              have hC2 : C ≤ 700 := by
                have b1 := Geo.hitsAll_le a l z (d + 1 + s) p i
                have b2 := Geo.hitsRow_le a l z (d + 1 + s) p i k
                have b3 := Geo.at1_le a 2 l p i k
                have b4 := Geo.at1_le (a + 2 * l) z 2 p i k
                have b5 := Geo.at1_le (a + 2 * l + 2 * z) z (d + 1 + s) p i k
                rw [← hC]
                show Geo.hitsAll a l z (d + 1 + s) p i + Geo.hitsRow a l z (d + 1 + s) p i k ≤ 700
                omega
              have MS := Lib.hid (show Met w2.heap.size n (fun x => Geo.hitsAll a l z (d + 1 + s) x i + Geo.hitsRow a l z (d + 1 + s) x i k + Geo.at1 a 2 l x i k) (wc.setCell ⟨w2.heap.size, p, none⟩ (.int .i64 ((C : Int) + 1))) by
                rw [← hC]
                exact MR1.out.hit hp (fun x hx => by
                  exact congrArg (fun t => Geo.hitsAll a l z (d + 1 + s) x i + Geo.hitsRow a l z (d + 1 + s) x i k + t) (hc x)))
              have GS := Lib.hid (boxset (p := p) GR1.out hm2 (.int .i64 ((C : Int) + 1)))
              have cl' : wc.cell? ⟨w2.heap.size, p, none⟩ = some (.int .i64 (C : Int)) := by rw [cl, hC]
              clear cl hC
              go_wp2_with fail
              go_meet
              exact ⟨rfl, GS, MS⟩
            · subst hb he hv
              have MS := Lib.hid (MR1.out.same (g := (fun x => Geo.hitsAll a l z (d + 1 + s) x i + Geo.hitsRow a l z (d + 1 + s) x i k + Geo.at1 a 2 l x i k)) (fun x hx => by
                exact congrArg (fun t => Geo.hitsAll a l z (d + 1 + s) x i + Geo.hitsRow a l z (d + 1 + s) x i k + t) (hc x)))
              go_wp2_with fail
              go_meet
              exact ⟨rfl, GR1, MS⟩
          case rest =>
          obtain ⟨rfl, GS1, MS1⟩ := hcut
          clear GR1 MR1
          go_upto_region 18 with (fail)
          go_cut [111] from 53 to 155 (fun v wc => v = .bool c2 ∧ Hid (BoxS w1 (.int .i64 z) (.int .i64 d) (.int .i64 s) (.int .i64 l) (.int .i64 a) wc) ∧ Hid (Met w2.heap.size n (fun x => Geo.hitsAll a l z (d + 1 + s) x i + Geo.hitsRow a l z (d + 1 + s) x i k + Geo.at1 a 2 l x i k) wc))
          case first =>
            rcases T2.out.2 with ⟨hb, he, p, hv, hp, hc⟩ | ⟨hb, he, hv, hc⟩
            · have hp' : (p : Int) < (n : Int) := by omega
              subst he hv
              go_wp2_with fail
              go_meet
              exact ⟨by rw [hb], GS1, MS1⟩
            · subst he hv
              go_wp2_with fail
              go_meet
              exact ⟨by rw [hb], GS1, MS1⟩
          case rest =>
          obtain ⟨rfl, GR2, MR2⟩ := hcut
          clear GS1 MS1
          go_upto_if 111 with (fail)
          go_cut [14] from 53 to 155 (fun v wc => v = .slice (some ⟨w2.heap.size, 0, none⟩) n n ∧ Hid (BoxS w1 (.int .i64 z) (.int .i64 d) (.int .i64 s) (.int .i64 l) (.int .i64 a) wc) ∧ Hid (Met w2.heap.size n (fun x => Geo.hitsAll a l z (d + 1 + s) x i + Geo.hitsRow a l z (d + 1 + s) x i k + Geo.at1 a 2 l x i k + Geo.at1 (a + 2 * l) z 2 x i k) wc))
          case first =>
            rcases T2.out.2 with ⟨hb, he, p, hv, hp, hc⟩ | ⟨hb, he, hv, hc⟩
            · subst hb he hv
              have hp' : (p : Int) < (n : Int) := by omega
              have cl := (MR2.out p hp).1
              have fz := (MR2.out p hp).2
              obtain ⟨C, hC⟩ : ∃ C, (fun x => Geo.hitsAll a l z (d + 1 + s) x i + Geo.hitsRow a l z (d + 1 + s) x i k + Geo.at1 a 2 l x i k) p = C := ⟨_, rfl⟩
              have hC2 : C ≤ 700 := by
                have b1 := Geo.hitsAll_le a l z (d + 1 + s) p i
                have b2 := Geo.hitsRow_le a l z (d + 1 + s) p i k
                have b3 := Geo.at1_le a 2 l p i k
                have b4 := Geo.at1_le (a + 2 * l) z 2 p i k
                have b5 := Geo.at1_le (a + 2 * l + 2 * z) z (d + 1 + s) p i k
                rw [← hC]
                show Geo.hitsAll a l z (d + 1 + s) p i + Geo.hitsRow a l z (d + 1 + s) p i k + Geo.at1 a 2 l p i k ≤ 700
                omega
              have MS := Lib.hid (show Met w2.heap.size n (fun x => Geo.hitsAll a l z (d + 1 + s) x i + Geo.hitsRow a l z (d + 1 + s) x i k + Geo.at1 a 2 l x i k + Geo.at1 (a + 2 * l) z 2 x i k) (wc.setCell ⟨w2.heap.size, p, none⟩ (.int .i64 ((C : Int) + 1))) by
                rw [← hC]
                exact MR2.out.hit hp (fun x hx => by
                  exact congrArg (fun t => Geo.hitsAll a l z (d + 1 + s) x i + Geo.hitsRow a l z (d + 1 + s) x i k + Geo.at1 a 2 l x i k + t) (hc x)))
              have GS := Lib.hid (boxset (p := p) GR2.out hm2 (.int .i64 ((C : Int) + 1)))
              have cl' : wc.cell? ⟨w2.heap.size, p, none⟩ = some (.int .i64 (C : Int)) := by rw [cl, hC]
              clear cl hC
              go_wp2_with fail
              go_meet
              exact ⟨rfl, GS, MS⟩
            · subst hb he hv
              have MS := Lib.hid (MR2.out.same (g := (fun x => Geo.hitsAll a l z (d + 1 + s) x i + Geo.hitsRow a l z (d + 1 + s) x i k + Geo.at1 a 2 l x i k + Geo.at1 (a + 2 * l) z 2 x i k)) (fun x hx => by
                exact congrArg (fun t => Geo.hitsAll a l z (d + 1 + s) x i + Geo.hitsRow a l z (d + 1 + s) x i k + Geo.at1 a 2 l x i k + t) (hc x)))
              go_wp2_with fail
              go_meet
              exact ⟨rfl, GR2, MS⟩
          case rest =>
          obtain ⟨rfl, GS2, MS2⟩ := hcut
          clear GR2 MR2
          go_upto_region 20 with (fail)
          go_cut [128] from 53 to 155 (fun v wc => v = .bool c3 ∧ Hid (BoxS w1 (.int .i64 z) (.int .i64 d) (.int .i64 s) (.int .i64 l) (.int .i64 a) wc) ∧ Hid (Met w2.heap.size n (fun x => Geo.hitsAll a l z (d + 1 + s) x i + Geo.hitsRow a l z (d + 1 + s) x i k + Geo.at1 a 2 l x i k + Geo.at1 (a + 2 * l) z 2 x i k) wc))
          case first =>
            rcases T3.out.2 with ⟨hb, he, p, hv, hp, hc⟩ | ⟨hb, he, hv, hc⟩
            · have hp' : (p : Int) < (n : Int) := by omega
              subst he hv
              go_wp2_with fail
              go_meet
              exact ⟨by rw [hb], GS2, MS2⟩
            · subst he hv
              go_wp2_with fail
              go_meet
              exact ⟨by rw [hb], GS2, MS2⟩
          case rest =>
          obtain ⟨rfl, GR3, MR3⟩ := hcut
          clear GS2 MS2
          go_upto_if 128 with (fail)
          go_cut [14] from 53 to 155 (fun v wc => v = .slice (some ⟨w2.heap.size, 0, none⟩) n n ∧ Hid (BoxS w1 (.int .i64 z) (.int .i64 d) (.int .i64 s) (.int .i64 l) (.int .i64 a) wc) ∧ Hid (Met w2.heap.size n (fun x => Geo.hitsAll a l z (d + 1 + s) x i + Geo.hitsRow a l z (d + 1 + s) x i k + Geo.at1 a 2 l x i k + Geo.at1 (a + 2 * l) z 2 x i k + Geo.at1 (a + 2 * l + 2 * z) z (d + 1 + s) x i k) wc))
          case first =>
            rcases T3.out.2 with ⟨hb, he, p, hv, hp, hc⟩ | ⟨hb, he, hv, hc⟩
            · subst hb he hv
              have hp' : (p : Int) < (n : Int) := by omega
              have cl := (MR3.out p hp).1
              have fz := (MR3.out p hp).2
              obtain ⟨C, hC⟩ : ∃ C, (fun x => Geo.hitsAll a l z (d + 1 + s) x i + Geo.hitsRow a l z (d + 1 + s) x i k + Geo.at1 a 2 l x i k + Geo.at1 (a + 2 * l) z 2 x i k) p = C := ⟨_, rfl⟩
              have hC2 : C ≤ 700 := by
                have b1 := Geo.hitsAll_le a l z (d + 1 + s) p i
                have b2 := Geo.hitsRow_le a l z (d + 1 + s) p i k
                have b3 := Geo.at1_le a 2 l p i k
                have b4 := Geo.at1_le (a + 2 * l) z 2 p i k
                have b5 := Geo.at1_le (a + 2 * l + 2 * z) z (d + 1 + s) p i k
                rw [← hC]
                show Geo.hitsAll a l z (d + 1 + s) p i + Geo.hitsRow a l z (d + 1 + s) p i k + Geo.at1 a 2 l p i k + Geo.at1 (a + 2 * l) z 2 p i k ≤ 700
                omega
              have MS := Lib.hid (show Met w2.heap.size n (fun x => Geo.hitsAll a l z (d + 1 + s) x i + Geo.hitsRow a l z (d + 1 + s) x i k + Geo.at1 a 2 l x i k + Geo.at1 (a + 2 * l) z 2 x i k + Geo.at1 (a + 2 * l + 2 * z) z (d + 1 + s) x i k) (wc.setCell ⟨w2.heap.size, p, none⟩ (.int .i64 ((C : Int) + 1))) by
                rw [← hC]
                exact MR3.out.hit hp (fun x hx => by
                  exact congrArg (fun t => Geo.hitsAll a l z (d + 1 + s) x i + Geo.hitsRow a l z (d + 1 + s) x i k + Geo.at1 a 2 l x i k + Geo.at1 (a + 2 * l) z 2 x i k + t) (hc x)))
              have GS := Lib.hid (boxset (p := p) GR3.out hm2 (.int .i64 ((C : Int) + 1)))
              have cl' : wc.cell? ⟨w2.heap.size, p, none⟩ = some (.int .i64 (C : Int)) := by rw [cl, hC]
              clear cl hC
              go_wp2_with fail
              go_meet
              exact ⟨rfl, GS, MS⟩
            · subst hb he hv
              have MS := Lib.hid (MR3.out.same (g := (fun x => Geo.hitsAll a l z (d + 1 + s) x i + Geo.hitsRow a l z (d + 1 + s) x i k + Geo.at1 a 2 l x i k + Geo.at1 (a + 2 * l) z 2 x i k + Geo.at1 (a + 2 * l + 2 * z) z (d + 1 + s) x i k)) (fun x hx => by
                exact congrArg (fun t => Geo.hitsAll a l z (d + 1 + s) x i + Geo.hitsRow a l z (d + 1 + s) x i k + Geo.at1 a 2 l x i k + Geo.at1 (a + 2 * l) z 2 x i k + t) (hc x)))
              go_wp2_with fail
              go_meet
              exact ⟨rfl, GR3, MS⟩
          case rest =>
          obtain ⟨rfl, GS3, MS3⟩ := hcut
          clear GR3 MR3
          go_upto_region 22 with (fail)
          go_cut [149] from 53 to 155 (fun v wc => v = .bool B4 ∧ Hid (BoxS w1 (.int .i64 z) (.int .i64 d) (.int .i64 s) (.int .i64 l) (.int .i64 a) wc) ∧ Hid (Met w2.heap.size n (fun x => Geo.hitsAll a l z (d + 1 + s) x i + Geo.hitsRow a l z (d + 1 + s) x i k + Geo.at1 a 2 l x i k + Geo.at1 (a + 2 * l) z 2 x i k + Geo.at1 (a + 2 * l + 2 * z) z (d + 1 + s) x i k) wc))
          case first =>
            by_cases hi0' : i = 0
            · have ti : ((i : Int) == 0) = true := beq_iff_eq.2 (by omega)
              have HI0 := Lib.hid hi0'
              clear hi0'
              rcases T4.out.2 with ⟨hb, he, p, hv, hp, hc⟩ | ⟨hb, he, hv, hc⟩
              · have hp' : (p : Int) < (n : Int) := by omega
                subst he hv
                go_wp2_with fail
                go_meet
                exact ⟨by (rw [← HB4.out, hb, decide_eq_true HI0.out]; try rfl), GS3, MS3⟩
              · subst he hv
                go_wp2_with fail
                go_meet
                exact ⟨by (rw [← HB4.out, hb, decide_eq_true HI0.out]; try rfl), GS3, MS3⟩
            · have ti : ((i : Int) == 0) = false := beq_eq_false_iff_ne.2 (by omega)
              have HI0 := Lib.hid hi0'
              clear hi0'
              go_wp2_with fail
              go_meet
              exact ⟨by (rw [← HB4.out, decide_eq_false HI0.out]; try rfl), GS3, MS3⟩
          case rest =>
          obtain ⟨rfl, GR4, MR4⟩ := hcut
          clear GS3 MS3
          by_cases hi0 : i = 0
          · have HI0 := Lib.hid hi0
            clear hi0
            rcases T4.out.2 with ⟨hb, he, p, hv, hp, hc⟩ | ⟨hb, he, hv, hc⟩
            · have hB : B4 = true := by (rw [← HB4.out, hb, decide_eq_true HI0.out]; try rfl)
              have hci : ∀ x, Geo.at1 0 1 a x i k = if (p : Int) = x then 1 else 0 := by rw [HI0.out]; exact hc
              have HCI := Lib.hid hci
              clear hci hc hb HB4
              subst hB he hv
              have hp' : (p : Int) < (n : Int) := by omega
              have cl := (MR4.out p hp).1
              have fz := (MR4.out p hp).2
              obtain ⟨C, hC⟩ : ∃ C, (fun x => Geo.hitsAll a l z (d + 1 + s) x i + Geo.hitsRow a l z (d + 1 + s) x i k + Geo.at1 a 2 l x i k + Geo.at1 (a + 2 * l) z 2 x i k + Geo.at1 (a + 2 * l + 2 * z) z (d + 1 + s) x i k) p = C := ⟨_, rfl⟩
              have hC2 : C ≤ 700 := by
                have b1 := Geo.hitsAll_le a l z (d + 1 + s) p i
                have b2 := Geo.hitsRow_le a l z (d + 1 + s) p i k
                have b3 := Geo.at1_le a 2 l p i k
                have b4 := Geo.at1_le (a + 2 * l) z 2 p i k
                have b5 := Geo.at1_le (a + 2 * l + 2 * z) z (d + 1 + s) p i k
                rw [← hC]
                show Geo.hitsAll a l z (d + 1 + s) p i + Geo.hitsRow a l z (d + 1 + s) p i k + Geo.at1 a 2 l p i k + Geo.at1 (a + 2 * l) z 2 p i k + Geo.at1 (a + 2 * l + 2 * z) z (d + 1 + s) p i k ≤ 700
                omega
              have MS := Lib.hid (show Met w2.heap.size n (fun x => Geo.hitsAll a l z (d + 1 + s) x i + Geo.hitsRow a l z (d + 1 + s) x i k + Geo.at1 a 2 l x i k + Geo.at1 (a + 2 * l) z 2 x i k + Geo.at1 (a + 2 * l + 2 * z) z (d + 1 + s) x i k + Geo.at1 0 1 a x i k) (wc.setCell ⟨w2.heap.size, p, none⟩ (.int .i64 ((C : Int) + 1))) by
                rw [← hC]
                exact MR4.out.hit hp (fun x hx => by
                  exact congrArg (fun t => Geo.hitsAll a l z (d + 1 + s) x i + Geo.hitsRow a l z (d + 1 + s) x i k + Geo.at1 a 2 l x i k + Geo.at1 (a + 2 * l) z 2 x i k + Geo.at1 (a + 2 * l + 2 * z) z (d + 1 + s) x i k + t) (HCI.out x)))
              have GS := Lib.hid (boxset (p := p) GR4.out hm2 (.int .i64 ((C : Int) + 1)))
              have cl' : wc.cell? ⟨w2.heap.size, p, none⟩ = some (.int .i64 (C : Int)) := by rw [cl, hC]
              clear cl hC
              have MN := Lib.hid (MS.out.same (g := (fun x => Geo.hitsAll a l z (d + 1 + s) x i + Geo.hitsRow a l z (d + 1 + s) x i (k + 1))) (fun x hx => by
                show Geo.hitsAll a l z (d + 1 + s) x i + Geo.hitsRow a l z (d + 1 + s) x i (k + 1) = Geo.hitsAll a l z (d + 1 + s) x i + Geo.hitsRow a l z (d + 1 + s) x i k + Geo.at1 a 2 l x i k + Geo.at1 (a + 2 * l) z 2 x i k + Geo.at1 (a + 2 * l + 2 * z) z (d + 1 + s) x i k + Geo.at1 0 1 a x i k
                simp only [Geo.hitsRow, Geo.hits]; omega))
              clear MS T1 T2 T3 T4
              go_wp2_with fail
              go_roundw
              case rel => first | exact ⟨k + 1, by omega, by go_num, GS, MN⟩ | ((repeat apply Exists.intro); refine ⟨⟨k + 1, by omega, ?_, GS, MN⟩, rfl⟩; go_num)
              case measure => simp [intOf]; omega
            · have hB : B4 = false := by (rw [← HB4.out, hb, decide_eq_true HI0.out]; try rfl)
              have hci : ∀ x, Geo.at1 0 1 a x i k = 0 := by rw [HI0.out]; exact hc
              have HCI := Lib.hid hci
              clear hci hc hb HB4
              subst hB he hv
              have MS := Lib.hid (MR4.out.same (g := (fun x => Geo.hitsAll a l z (d + 1 + s) x i + Geo.hitsRow a l z (d + 1 + s) x i k + Geo.at1 a 2 l x i k + Geo.at1 (a + 2 * l) z 2 x i k + Geo.at1 (a + 2 * l + 2 * z) z (d + 1 + s) x i k + Geo.at1 0 1 a x i k)) (fun x hx => by
                exact congrArg (fun t => Geo.hitsAll a l z (d + 1 + s) x i + Geo.hitsRow a l z (d + 1 + s) x i k + Geo.at1 a 2 l x i k + Geo.at1 (a + 2 * l) z 2 x i k + Geo.at1 (a + 2 * l + 2 * z) z (d + 1 + s) x i k + t) (HCI.out x)))
              have MN := Lib.hid (MS.out.same (g := (fun x => Geo.hitsAll a l z (d + 1 + s) x i + Geo.hitsRow a l z (d + 1 + s) x i (k + 1))) (fun x hx => by
                show Geo.hitsAll a l z (d + 1 + s) x i + Geo.hitsRow a l z (d + 1 + s) x i (k + 1) = Geo.hitsAll a l z (d + 1 + s) x i + Geo.hitsRow a l z (d + 1 + s) x i k + Geo.at1 a 2 l x i k + Geo.at1 (a + 2 * l) z 2 x i k + Geo.at1 (a + 2 * l + 2 * z) z (d + 1 + s) x i k + Geo.at1 0 1 a x i k
                simp only [Geo.hitsRow, Geo.hits]; omega))
              clear MS T1 T2 T3 T4
              go_wp2_with fail
              go_roundw
              case rel => first | exact ⟨k + 1, by omega, by go_num, GR4, MN⟩ | ((repeat apply Exists.intro); refine ⟨⟨k + 1, by omega, ?_, GR4, MN⟩, rfl⟩; go_num)
              case measure => simp [intOf]; omega
          · have hB : B4 = false := by (rw [← HB4.out, decide_eq_false hi0]; try rfl)
            have hci : ∀ x, Geo.at1 0 1 a x i k = 0 := fun x => Geo.at1_no (fun hh => hi0 (by have := hh.1; omega)) x
            have HCI := Lib.hid hci
            clear hci HB4 hi0
            subst hB
            have MS := Lib.hid (MR4.out.same (g := (fun x => Geo.hitsAll a l z (d + 1 + s) x i + Geo.hitsRow a l z (d + 1 + s) x i k + Geo.at1 a 2 l x i k + Geo.at1 (a + 2 * l) z 2 x i k + Geo.at1 (a + 2 * l + 2 * z) z (d + 1 + s) x i k + Geo.at1 0 1 a x i k)) (fun x hx => by
              exact congrArg (fun t => Geo.hitsAll a l z (d + 1 + s) x i + Geo.hitsRow a l z (d + 1 + s) x i k + Geo.at1 a 2 l x i k + Geo.at1 (a + 2 * l) z 2 x i k + Geo.at1 (a + 2 * l + 2 * z) z (d + 1 + s) x i k + t) (HCI.out x)))
            have MN := Lib.hid (MS.out.same (g := (fun x => Geo.hitsAll a l z (d + 1 + s) x i + Geo.hitsRow a l z (d + 1 + s) x i (k + 1))) (fun x hx => by
              show Geo.hitsAll a l z (d + 1 + s) x i + Geo.hitsRow a l z (d + 1 + s) x i (k + 1) = Geo.hitsAll a l z (d + 1 + s) x i + Geo.hitsRow a l z (d + 1 + s) x i k + Geo.at1 a 2 l x i k + Geo.at1 (a + 2 * l) z 2 x i k + Geo.at1 (a + 2 * l + 2 * z) z (d + 1 + s) x i k + Geo.at1 0 1 a x i k
              simp only [Geo.hitsRow, Geo.hits]; omega))
            clear MS T1 T2 T3 T4
            go_wp2_with fail
            go_roundw
            case rel => first | exact ⟨k + 1, by omega, by go_num, GR4, MN⟩ | ((repeat apply Exists.intro); refine ⟨⟨k + 1, by omega, ?_, GR4, MN⟩, rfl⟩; go_num)
            case measure => simp [intOf]; omega
        · obtain rfl : k = 30 := by omega
          have MN := Lib.hid (MK.out.same (g := (fun x => Geo.hitsAll a l z (d + 1 + s) x (i + 1))) (fun x hx => rfl))
          go_wp2_with fail
          go_roundw
          case rel => first | exact ⟨i + 1, by omega, by go_num, GK, MN⟩ | ((repeat apply Exists.intro); refine ⟨⟨i + 1, by omega, ?_, GK, MN⟩, rfl⟩; go_num)
          case measure => simp [intOf]; omega
    · obtain rfl : i = 4 := by omega
      have ones : ∀ x, x < n → wo.cell? ⟨w2.heap.size, x, none⟩ = some (.int .i64 1) := fun x hx => by
        have h1 := (MI.out x hx).1
        have h2 := Geo.hits_one a l z (d + 1 + s) x (by omega) (by omega) (by omega) (by omega) (by omega) (by omega) (by omega) (by omega) (by omega) (by have := HN.out; omega)
        rw [h1]
        show some (Value.int .i64 ((Geo.hitsAll a l z (d + 1 + s) x 4 : Nat) : Int)) = _
        rw [h2]; rfl
      have ONES := Lib.hid ones
      clear ones MI
      go_wp2_with fail
      go_loop [25] (fun jv => ∃ j : Nat, j ≤ n ∧ jv = .int .i64 j) (fun jv => n - (intOf jv).toNat)
      case atStart => exact ⟨0, by omega, rfl⟩
      case round =>
        obtain ⟨j, hj, rfl⟩ := hrel
        by_cases hjn : j < n
        · have cl := ONES.out j hjn
          have j1 : (j : Int) < (n : Int) := by omega
          go_wp2_with fail
          go_round
          case rel => exact ⟨j + 1, by omega, by go_num⟩
          case measure => simp [intOf]; omega
        · go_wp2_with fail
          refine (wakes_any _).mono ?_
          rintro e w9 ⟨rfl, hb9⟩
          go_wp2_with fail
          go_ret
          have g1 := HB1.out.trans (GI.out.1.mono HB1.out.size)
          exact ⟨rfl, g1.trans (hb9.mono g1.size)⟩

/-! ### THE ROW's STEP: WRITTEN OUT: LEAVE IT -/
set_option maxRecDepth 100000 in
theorem lifted (os : Os) (started : os.Started) (H : Type) (enc : TypeId × Value → H) :
    ReturnsInHanded {} Try.checked os 5 .any (Rows.geomPartsSpec.pre6 enc Try.prog Try.f5 Rows.geomPartsRow.domain false) (Rows.geomPartsSpec.post enc Try.prog Try.f5 false true false false) := by
  refine returnsInHanded_of_change (C := Try.checked) own started (by kernel_rfl) Try.func5
    (ChangeSpec.witness6 (enc := enc) (C := Try.checked) false ⟨#[], #[.int .i64 0, .int .i64 0, .int .i64 0, .int .i64 0, .int .i64 0], []⟩ 8 (by kernel_rfl) (by kernel_rfl) (by kernel_rfl) (by kernel_rfl)) ?_
  intro W base args ds gs before hval0 hW hcnd _
  have hval : ∀ (j : Nat) t v, Try.f5.params[j]? = some t → args[j]? = some v → Value.okWide Try.prog W .any base t v := hval0
  have hW' := hW
  obtain ⟨p, q, hA0, hV, rfl, hfz, hnd⟩ := hW
  have hA : DataW.TrodAll enc Try.prog W 0 (fun _ => true) true Try.f5.params.toList args.toList ds p := hA0
  rw [Try.params5] at hA hval
  obtain ⟨v0, vs0, d0, ds0, p0, q0, hargs, rfl, rfl, h0, r0⟩ := trodAll_cons hA
  obtain ⟨v1, vs1, d1, ds1, p1, q1, rfl, rfl, rfl, h1, r1⟩ := trodAll_cons r0
  obtain ⟨v2, vs2, d2, ds2, p2, q2, rfl, rfl, rfl, h2, r2⟩ := trodAll_cons r1
  obtain ⟨v3, vs3, d3, ds3, p3, q3, rfl, rfl, rfl, h3, r3⟩ := trodAll_cons r2
  obtain ⟨v4, vs4, d4, ds4, p4, q4, rfl, rfl, rfl, h4, r4⟩ := trodAll_cons r3
  obtain ⟨rfl, rfl, rfl⟩ := trodAll_nil r4
  obtain rfl : args = #[v0, v1, v2, v3, v4] := by cases args; simp_all
  obtain ⟨rfl, rfl⟩ := trodVars_none hV
  obtain ⟨a0, rfl, rfl, rfl, w0⟩ := open_int Try.underlying3 (hval 0 3 v0 rfl rfl) h0
  obtain ⟨a1, rfl, rfl, rfl, w1⟩ := open_int Try.underlying3 (hval 1 3 v1 rfl rfl) h1
  obtain ⟨a2, rfl, rfl, rfl, w2⟩ := open_int Try.underlying3 (hval 2 3 v2 rfl rfl) h2
  obtain ⟨a3, rfl, rfl, rfl, w3⟩ := open_int Try.underlying3 (hval 3 3 v3 rfl rfl) h3
  obtain ⟨a4, rfl, rfl, rfl, w4⟩ := open_int Try.underlying3 (hval 4 3 v4 rfl rfl) h4
  clear hA0 hval0
  simp only [List.append_nil] at hW'
  refine (walk a0 a1 a2 a3 a4 w0 w1 w2 w3 w4 W).mono fun e W' ⟨he, bel⟩ => ?_
  subst he
  exact ⟨_, rfl, _, _, _, [], [], [], hW', trodAll_mk1 (shut_bool Try.underlying4 _), (trodAll_cons_mk (shut_int Try.underlying3 w0) (trodAll_cons_mk (shut_int Try.underlying3 w1) (trodAll_cons_mk (shut_int Try.underlying3 w2) (trodAll_cons_mk (shut_int Try.underlying3 w3) (trodAll_cons_mk (shut_int Try.underlying3 w4) trodAll_mk0))))), rfl, bel.frame _, fun h => by cases h⟩

theorem over : Rows.geomPartsRow.holds Try.pinned (OpenSpec.ofChange Rows.geomPartsSpec) :=
  OpenClaim.holds_of_wide 5 Try.f5 rfl rfl rfl rfl rfl rfl rfl ⟨rfl, rfl, rfl, rfl, rfl⟩ rfl rfl rfl rfl rfl (by kernel_rfl) Try.func5 (by kernel_rfl)
    (of_decide_eq_true (by kernel_rfl)) (by unfold Func.isWrapper; first | (rw [if_pos (by decide +kernel)]; kernel_rfl) | (rw [if_neg (by decide +kernel)]; exact ⟨rfl, rfl⟩))
    (fun os started H enc _ => lifted os started H enc)

/-- ████ THE STATEMENT ████ -/
theorem proved : Rows.GeomPartsSaid :=
  over
#print axioms proved
end Go.Proofs.Ytigibbekbncpiaa.geomParts

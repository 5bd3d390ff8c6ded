/-
  The walk of OverExact.
-/
import Derived.Test.YtedgalbhjfmafaaExact0
namespace Go.Proofs.Ytedgalbhjfmafaa
open Go.ChangeShapes Go.WideShapes Go.ChangeAt Go.RowKit
set_option linter.unusedVariables false
set_option maxRecDepth 100000 in
set_option maxHeartbeats 6400000 in
theorem overExact_walk (A : Option Addr) (n c : Nat) (xs : List Txn) (ge ep po se la : Int) (lab : ByteArray) (B : Option Addr) (m c' : Nat) (hs : List Hm) (z q : Int) (w : World) (hx : Slc 4 txnE Any w A n xs) (hnc : n ≤ c) (hc : c ≤ maxLen) (hh : Slc 3 homeE Any w B m hs) (hm : m ≤ maxLen) (hlab : lab.size ≤ maxLen) :
    Calls Try.prog 3 #[.slice A n c, .agg #[.int .i64 ge, .int .i64 ep, .int .i64 po, .int .i64 se, .int .i64 la, .string lab, .slice B m c'], .int .i64 z, .int .i64 q] w (Says true w) := by
  have hn : n ≤ maxLen := Nat.le_trans hnc hc
  have HX := Lib.hid hx
  have HH := Lib.hid hh
  have HXL := Lib.hid hx.1
  have HHL := Lib.hid hh.1
  have HAL : Hid (Below w.heap.size w (w.alloc (.cells #[.int .i64 ge, .int .i64 ep, .int .i64 po, .int .i64 se, .int .i64 la, .string lab, .slice B m c'] 25))) := (Below.refl _ _).alloc (Nat.le_refl _) _
  have HBX : Hid (Blk (w.alloc (.cells #[.int .i64 ge, .int .i64 ep, .int .i64 po, .int .i64 se, .int .i64 la, .string lab, .slice B m c'] 25)) w.heap.size 25 #[.int .i64 ge, .int .i64 ep, .int .i64 po, .int .i64 se, .int .i64 la, .string lab, .slice B m c']) := Blk.new _ _ _
  clear hx hh
  cases hv : heavyT xs with
  | true =>
    have HV := Lib.hid hv
    clear hv
    go_enter Try.func3, Try.ntmps3
    go_wp2_with fail
    refine (heavyT_is (HX.out.below txnE.good (by decide) HAL.out) hn HV.out).mono ?_
    rintro e w' ⟨rfl, rfl⟩
    go_wp2_with fail

    go_ret
    exact ⟨rfl, HAL.out⟩
  | false =>
  cases hv2 : heavyA lab.size hs with
  | true =>
    have HV := Lib.hid hv
    have HV2 := Lib.hid hv2
    clear hv hv2
    go_enter Try.func3, Try.ntmps3
    go_wp2_with fail
    refine (heavyT_is (HX.out.below txnE.good (by decide) HAL.out) hn HV.out).mono ?_
    rintro e w' ⟨rfl, rfl⟩
    go_wp2_with fail

    refine (heavyA_any _ _ _ _ _ _ _ _ _ hs Any _ (HH.out.below homeE.good (by decide) HAL.out) hm hlab).mono ?_
    rintro e w1 ⟨he, hb1⟩
    rw [HV2.out] at he
    subst he
    go_wp2_with fail
    go_ret
    exact ⟨rfl, HAL.out.trans (hb1.mono HAL.out.size)⟩
  | false =>
  have HV := Lib.hid hv
  have HV2 := Lib.hid hv2
  obtain ⟨⟨ok, s, bs⟩, hr1⟩ : ∃ r, lastR z q xs = r := ⟨_, rfl⟩
  obtain ⟨⟨r, e2⟩, hroot⟩ : ∃ r, rootOf hs xs z = r := ⟨_, rfl⟩
  obtain ⟨zs, hzs⟩ : ∃ zs, zonesOf xs = zs := ⟨_, rfl⟩
  obtain ⟨zn, hzn⟩ : ∃ zn, zs.length = zn := ⟨_, rfl⟩
  have HR1 := Lib.hid hr1
  have HROOT := Lib.hid hroot
  have HZS := Lib.hid hzs
  have HZN := Lib.hid hzn
  have HSX := Lib.hid (small_of hv)
  have HSB : Hid (∀ x ∈ xs, x.images.length ≤ 100000) := fun x hx => Nat.le_trans (HSX.out.2 x hx).1 (by decide)
  have hn40 : n ≤ 1000 := by have := HSX.out.1; rw [HXL.out] at this; omega
  clear hv hv2 hr1 hroot hzs hzn
  go_enter Try.func3, Try.ntmps3
  go_wp2_with fail
  refine (heavyT_is (HX.out.below txnE.good (by decide) HAL.out) hn HV.out).mono ?_
  rintro e w' ⟨rfl, rfl⟩
  go_wp2_with fail
  refine (heavyA_any _ _ _ _ _ _ _ _ _ hs Any _ (HH.out.below homeE.good (by decide) HAL.out) hm hlab).mono ?_
  rintro e w1 ⟨he, hb1⟩
  rw [HV2.out] at he
  subst he
  have HB1 : Hid (Below w.heap.size w w1) := HAL.out.trans (hb1.mono HAL.out.size)
  have HBX1 : Hid (Blk w1 w.heap.size 25 #[.int .i64 ge, .int .i64 ep, .int .i64 po, .int .i64 se, .int .i64 la, .string lab, .slice B m c']) := HBX.out.below_ hb1 HBX.out.lt
  clear hb1
  go_wp2_with fail
  refine (twinTxns_any _ _ _ xs Any _ (HX.out.keep txnE.good (by decide) (Agree.of_below HB1.out)) hn40 HSX.out.2).mono ?_
  rintro e w2 ⟨v2, rfl, ⟨A2, n2, c2, rfl, q1, q2, hs2⟩, hb2⟩
  have hq : n = n2 := by rw [← HXL.out]; exact hs2.1
  subst hq
  have HK2 : Hid (K1 w n A2 xs #[.int .i64 ge, .int .i64 ep, .int .i64 po, .int .i64 se, .int .i64 la, .string lab, .slice B m c'] w2.heap.size w2) := ⟨HB1.out.trans (hb2.mono HB1.out.size), HBX1.out.below_ hb2 HBX1.out.lt, (hs2.lt txnE.good (by decide)).mono txnE.good (fun b hb => hb.2), Nat.le_refl _⟩
  have HW2 : Hid (w.heap.size < w2.heap.size) := Nat.lt_of_lt_of_le HBX1.out.lt hb2.size
  clear hb2 hs2 HB1 HBX1
  go_wp2_with fail
  refine (Find_is HK2.out.inn hn40 HSX.out.2 HR1.out).mono ?_
  rintro e w3 ⟨A3, n3, c3, rfl, u1, u2, hs3, hb3⟩
  have HB3 : Hid (KB w2.heap.size w3.heap.size A3 n3 bs w3) := (hs3.lt (intE.good _) (by decide))
  have HS23 := Lib.hid hb3.size
  have HK3 : Hid (K1 w n A2 xs #[.int .i64 ge, .int .i64 ep, .int .i64 po, .int .i64 se, .int .i64 la, .string lab, .slice B m c'] w2.heap.size w3) := HK2.out.next hb3
  clear HK2
  clear hs3 hb3
  go_wp2_with fail
  refine (rFind_is (HX.out.keep txnE.good (by decide) (Agree.of_below HK3.out.below)) hn40 HSX.out.2 HR1.out).mono ?_
  rintro e w4 ⟨A4, n4, c4, rfl, u3, u4, hs4, hb4⟩
  have HS4 : Hid (Slc 1 (intE .u8) Any w4 A4 n4 bs) := hs4.mono (intE.good _) (fun _ _ => trivial)
  have HS34 := Lib.hid hb4.size
  have HK4 : Hid (K1 w n A2 xs #[.int .i64 ge, .int .i64 ep, .int .i64 po, .int .i64 se, .int .i64 la, .string lab, .slice B m c'] w2.heap.size w4) := HK3.out.next hb4
  have HB4 : Hid (KB w2.heap.size w3.heap.size A3 n3 bs w4) := HB3.out.next hb4
  clear HK3 HB3
  clear hs4 hb4
  have b0 : w4.cell? ⟨w.heap.size, 0, none⟩ = some (.int .i64 ge) := HK4.out.box.cell 0
  have b1 : w4.cell? ⟨w.heap.size, 1, none⟩ = some (.int .i64 ep) := HK4.out.box.cell 1
  have b2 : w4.cell? ⟨w.heap.size, 2, none⟩ = some (.int .i64 po) := HK4.out.box.cell 2
  have b3 : w4.cell? ⟨w.heap.size, 3, none⟩ = some (.int .i64 se) := HK4.out.box.cell 3
  have b4 : w4.cell? ⟨w.heap.size, 4, none⟩ = some (.int .i64 la) := HK4.out.box.cell 4
  have b5 : w4.cell? ⟨w.heap.size, 5, none⟩ = some (.string lab) := HK4.out.box.cell 5
  have b6 : w4.cell? ⟨w.heap.size, 6, none⟩ = some (.slice B m c') := HK4.out.box.cell 6
  go_wp2_with fail
  clear b0 b1 b2 b3 b4 b5 b6
  refine (Root_any _ _ _ _ _ _ _ _ _ hs _ _ _ xs _ _ Any _ (HH.out.keep homeE.good (by decide) (Agree.of_below HK4.out.below)) hm HK4.out.inn (by omega) HSB.out).mono ?_
  rintro e w5 ⟨he, hb5⟩
  rw [HROOT.out] at he
  subst he
  have HS5 : Hid (Slc 1 (intE .u8) Any w5 A4 n4 bs) := HS4.out.below (intE.good _) (by decide) hb5
  have HS45 := Lib.hid hb5.size
  have HK5 : Hid (K1 w n A2 xs #[.int .i64 ge, .int .i64 ep, .int .i64 po, .int .i64 se, .int .i64 la, .string lab, .slice B m c'] w2.heap.size w5) := HK4.out.next hb5
  have HB5 : Hid (KB w2.heap.size w3.heap.size A3 n3 bs w5) := HB4.out.next hb5
  clear HK4 HB4
  clear hb5 HS4
  go_wp2_with fail
  refine (Drop_any _ _ _ xs _ _ HK5.out.inn hn40 HSX.out.2).mono ?_
  rintro e w6 hd
  obtain ⟨t, ts, A8, n8, c8, A9, n9, c9, er, rfl, g1, g2, g3, g4, him, hrest, hway, hb6⟩ := dropped_in hd
  have HS6 : Hid (Slc 1 (intE .u8) Any w6 A4 n4 bs) := HS5.out.below (intE.good _) (by decide) hb6
  have HGX : Hid (w5.heap.size ≤ w6.heap.size) := hb6.size
  have HK6 : Hid (K1 w n A2 xs #[.int .i64 ge, .int .i64 ep, .int .i64 po, .int .i64 se, .int .i64 la, .string lab, .slice B m c'] w2.heap.size w6) := HK5.out.next hb6
  have HB6 : Hid (KB w2.heap.size w3.heap.size A3 n3 bs w6) := HB5.out.next hb6
  clear HK5 HB5
  have hb7 : Below w6.heap.size w6 (w6.alloc (.cells #[.int .i64 t.seq, .int .i64 t.pos, .int .i64 t.n, .slice A8 n8 c8] 37)) := (Below.refl _ _).alloc (Nat.le_refl _) _
  have HS7 : Hid (Slc 1 (intE .u8) Any (w6.alloc (.cells #[.int .i64 t.seq, .int .i64 t.pos, .int .i64 t.n, .slice A8 n8 c8] 37)) A4 n4 bs) := HS6.out.below (intE.good _) (by decide) hb7
  have HK7 : Hid (K1 w n A2 xs #[.int .i64 ge, .int .i64 ep, .int .i64 po, .int .i64 se, .int .i64 la, .string lab, .slice B m c'] w2.heap.size (w6.alloc (.cells #[.int .i64 t.seq, .int .i64 t.pos, .int .i64 t.n, .slice A8 n8 c8] 37))) := HK6.out.next hb7
  have HB7 : Hid (KB w2.heap.size w3.heap.size A3 n3 bs (w6.alloc (.cells #[.int .i64 t.seq, .int .i64 t.pos, .int .i64 t.n, .slice A8 n8 c8] 37))) := HB6.out.next hb7
  clear HK6 HB6
  have HX7 : Hid (KX w5.heap.size w6.heap.size t A8 n8 c8 A9 n9 ts (w6.alloc (.cells #[.int .i64 t.seq, .int .i64 t.pos, .int .i64 t.n, .slice A8 n8 c8] 37))) := ⟨(Blk.new w6 37 #[.int .i64 t.seq, .int .i64 t.pos, .int .i64 t.n, .slice A8 n8 c8]).cell 0, (Blk.new w6 37 #[.int .i64 t.seq, .int .i64 t.pos, .int .i64 t.n, .slice A8 n8 c8]).cell 1, (Blk.new w6 37 #[.int .i64 t.seq, .int .i64 t.pos, .int .i64 t.n, .slice A8 n8 c8]).cell 2, (Blk.new w6 37 #[.int .i64 t.seq, .int .i64 t.pos, .int .i64 t.n, .slice A8 n8 c8]).cell 3, (him.below imgE.good (by decide) hb7).mono imgE.good (Fr.below hb7), (hrest.below txnE.good (by decide) hb7).mono txnE.good (Fr.below hb7)⟩
  have HWAY := Lib.hid hway
  have t0 : (ok != ok) = false := by simp
  have t1 : (s != s) = false := by simp
  have n3m : n3 ≤ maxLen := Nat.le_trans u1 u2
  have n8m : n8 ≤ maxLen := Nat.le_trans g1 g2
  have n9m : n9 ≤ maxLen := Nat.le_trans g3 g4
  clear hb6 hb7 him hrest hd hway HS5 HS6
  go_wp2_with fail
  refine (bytes_same HB7.out HS7.out n3m).mono ?_
  rintro e w8 ⟨rfl, hb8⟩
  have HK8 : Hid (K1 w n A2 xs #[.int .i64 ge, .int .i64 ep, .int .i64 po, .int .i64 se, .int .i64 la, .string lab, .slice B m c'] w2.heap.size w8) := HK7.out.next hb8
  have HB8 : Hid (KB w2.heap.size w3.heap.size A3 n3 bs w8) := HB7.out.next hb8
  have HX8 : Hid (KX w5.heap.size w6.heap.size t A8 n8 c8 A9 n9 ts w8) := HX7.out.next HGX.out hb8
  clear HK7 HB7 HX7
  clear hb8 HS7
  go_wp2_with fail
  refine (Zones_is HK8.out.inn hn40 (fun x hx => (HSX.out.2 x hx).1) HZS.out HZN.out).mono ?_
  rintro e w9 ⟨A10, c10, rfl, z1, z2, hs9, hb9⟩
  have HZ9 := Lib.hid hs9
  have znm : zn ≤ maxLen := Nat.le_trans z1 z2
  have HK9 : Hid (K1 w n A2 xs #[.int .i64 ge, .int .i64 ep, .int .i64 po, .int .i64 se, .int .i64 la, .string lab, .slice B m c'] w2.heap.size w9) := HK8.out.next hb9
  have HB9 : Hid (KB w2.heap.size w3.heap.size A3 n3 bs w9) := HB8.out.next hb9
  have HX9 : Hid (KX w5.heap.size w6.heap.size t A8 n8 c8 A9 n9 ts w9) := HX8.out.next HGX.out hb9
  clear HK8 HB8 HX8
  clear hs9 hb9
  go_wp2_with fail
  refine (rZones_any _ _ _ xs Any _ (HX.out.keep txnE.good (by decide) (Agree.of_below HK9.out.below)) hn40 (fun x hx => (HSX.out.2 x hx).1)).mono ?_
  rintro e w10 ⟨v10, rfl, ⟨A11, n11, c11, rfl, y1, y2, hs10⟩, hb10⟩
  rw [HZS.out] at hs10
  have HZ10 := Lib.hid hs10
  have HZ10b : Hid (Slc 1 (intE .i64) Any w10 A10 zn zs) := HZ9.out.below (intE.good _) (by decide) hb10
  have HK10 : Hid (K1 w n A2 xs #[.int .i64 ge, .int .i64 ep, .int .i64 po, .int .i64 se, .int .i64 la, .string lab, .slice B m c'] w2.heap.size w10) := HK9.out.next hb10
  have HB10 : Hid (KB w2.heap.size w3.heap.size A3 n3 bs w10) := HB9.out.next hb10
  have HX10 : Hid (KX w5.heap.size w6.heap.size t A8 n8 c8 A9 n9 ts w10) := HX9.out.next HGX.out hb10
  clear HK9 HB9 HX9
  clear hs10 hb10 HZ9
  go_wp2_with fail
  refine (ints_same HZ10b.out HZ10.out znm).mono ?_
  rintro e w11 ⟨rfl, hb11⟩
  have HK11 : Hid (K1 w n A2 xs #[.int .i64 ge, .int .i64 ep, .int .i64 po, .int .i64 se, .int .i64 la, .string lab, .slice B m c'] w2.heap.size w11) := HK10.out.next hb11
  have HB11 : Hid (KB w2.heap.size w3.heap.size A3 n3 bs w11) := HB10.out.next hb11
  have HX11 : Hid (KX w5.heap.size w6.heap.size t A8 n8 c8 A9 n9 ts w11) := HX10.out.next HGX.out hb11
  clear HK10 HB10 HX10
  clear hb11 HZ10 HZ10b
  go_wp2_with fail
  refine (Over_at _ _ _ w2.heap.size _ HB11.out.loose n3m).mono ?_
  rintro e w12 ⟨rfl, hst, hag⟩
  have HK12 : Hid (K1 w n A2 xs #[.int .i64 ge, .int .i64 ep, .int .i64 po, .int .i64 se, .int .i64 la, .string lab, .slice B m c'] w2.heap.size w12) := HK11.out.step hst HW2.out (Nat.le_refl _)
  have HX12 : Hid (KX w5.heap.size w6.heap.size t A8 n8 c8 A9 n9 ts w12) := HX11.out.agree HGX.out (over_far HB11.out (Nat.le_trans HS34.out HS45.out) hag) hst.thawed
  clear hst hag HK11 HX11 HB11


  obtain ⟨bz, hbz⟩ : ∃ bz : Bool, decide (¬ (0 ≤ z ∧ z < (m : Int))) = bz := ⟨_, rfl⟩
  have HBZ := Lib.hid hbz
  clear hbz
  go_upto_region 11 with (fail)
  go_cut [91] from 83 to 91 (fun v wc => v = .bool bz ∧ Hid (K1 w n A2 xs #[.int .i64 ge, .int .i64 ep, .int .i64 po, .int .i64 se, .int .i64 la, .string lab, .slice B m c'] w2.heap.size wc) ∧ Hid (KX w5.heap.size w6.heap.size t A8 n8 c8 A9 n9 ts wc))
  case first =>
    by_cases hz0 : z < 0
    ·
      have HZZ : Hid (bz = true) := HBZ.out.symm.trans (decide_eq_true (by omega))
      go_wp2_with fail
      go_meet
      exact ⟨by rw [HZZ.out], HK12, HX12⟩
    by_cases hz1 : (m : Int) ≤ z
    ·
      have HZZ : Hid (bz = true) := HBZ.out.symm.trans (decide_eq_true (by omega))
      have b6 : w12.cell? ⟨w.heap.size, 6, none⟩ = some (.slice B m c') := HK12.out.box.cell 6
      go_wp2_with fail
      go_meet
      exact ⟨by rw [HZZ.out], HK12, HX12⟩
    ·
      have HZZ : Hid (bz = false) := HBZ.out.symm.trans (decide_eq_false (by omega))
      have b6 : w12.cell? ⟨w.heap.size, 6, none⟩ = some (.slice B m c') := HK12.out.box.cell 6
      go_wp2_with fail
      go_meet
      exact ⟨by rw [HZZ.out], HK12, HX12⟩
  case rest =>
  obtain ⟨rfl, HK13, HX13⟩ := hcut
  clear HK12 HX12
  obtain ⟨wq, rfl⟩ : ∃ wq, wq = wc := ⟨_, rfl⟩
  go_upto_if 91 with (fail)
  go_cut [8] from 92 to 107 (fun v wc => v = .bool false ∧ Hid (K1 w n A2 xs #[.int .i64 ge, .int .i64 ep, .int .i64 po, .int .i64 se, .int .i64 la, .string lab, .slice B m c'] w2.heap.size wc) ∧ Hid (KX w5.heap.size w6.heap.size t A8 n8 c8 A9 n9 ts wc))
  case first =>
    cases bz with
    | false =>
      have hz : 0 ≤ z ∧ z < (m : Int) := by have := of_decide_eq_false HBZ.out; omega
      obtain ⟨zk, rfl⟩ : ∃ zk : Nat, z = zk := ⟨z.toNat, by omega⟩
      have hzk : zk < m := by omega
      obtain ⟨y, hy⟩ : ∃ y, hs[zk]? = some y := ⟨_, List.getElem?_eq_getElem (by rw [HHL.out]; exact hzk)⟩
      have hr := HROOT.out
      have hr' := root_in (xs := xs) hy
      rw [hr] at hr'
      injection hr' with hr1 hr2
      subst hr2
      have HY := Lib.hid hy
      clear hr hr1 hy hz
      have b0 : wq.cell? ⟨w.heap.size, 0, none⟩ = some (.int .i64 ge) := HK13.out.box.cell 0
      have b1 : wq.cell? ⟨w.heap.size, 1, none⟩ = some (.int .i64 ep) := HK13.out.box.cell 1
      have b2 : wq.cell? ⟨w.heap.size, 2, none⟩ = some (.int .i64 po) := HK13.out.box.cell 2
      have b3 : wq.cell? ⟨w.heap.size, 3, none⟩ = some (.int .i64 se) := HK13.out.box.cell 3
      have b4 : wq.cell? ⟨w.heap.size, 4, none⟩ = some (.int .i64 la) := HK13.out.box.cell 4
      have b5 : wq.cell? ⟨w.heap.size, 5, none⟩ = some (.string lab) := HK13.out.box.cell 5
      have b6 : wq.cell? ⟨w.heap.size, 6, none⟩ = some (.slice B m c') := HK13.out.box.cell 6
      go_wp2_with fail
      refine (rRoot_any _ _ _ _ _ _ _ _ _ hs _ _ _ xs _ _ Any Any _ (HH.out.keep homeE.good (by decide) (Agree.of_below HK13.out.below)) hm (HX.out.keep txnE.good (by decide) (Agree.of_below HK13.out.below)) hn40 HSX.out.2 HY.out).mono ?_
      rintro e w13 ⟨he, hb13⟩
      rw [HROOT.out] at he
      subst he
      have HK14 : Hid (K1 w n A2 xs #[.int .i64 ge, .int .i64 ep, .int .i64 po, .int .i64 se, .int .i64 la, .string lab, .slice B m c'] w2.heap.size w13) := HK13.out.next hb13
      have HX14 : Hid (KX w5.heap.size w6.heap.size t A8 n8 c8 A9 n9 ts w13) := HX13.out.next HGX.out hb13
      have t2 : (r != r) = false := by simp
      clear hb13 HK13 HX13 b0 b1 b2 b3 b4 b5 b6
      go_wp2_with fail
      go_meet
      exact ⟨rfl, HK14, HX14⟩
    | true =>
      have hz : ¬ (0 ≤ z ∧ z < (m : Int)) := of_decide_eq_true HBZ.out
      have hr := HROOT.out
      rw [rootOf_out (by rw [HHL.out]; exact hz)] at hr
      injection hr with hr1 hr2
      subst hr1 hr2
      clear hz
      go_wp2_with fail
      go_meet
      exact ⟨rfl, HK13, HX13⟩
  case rest =>
  obtain ⟨rfl, HK14, HX14⟩ := hcut
  clear HK13 HX13
  obtain ⟨wt, rfl⟩ : ∃ wt, wt = wc := ⟨_, rfl⟩

  rcases HWAY.out with hE | hE
  ·

    obtain ⟨rfl, rfl, rfl, rfl, rfl⟩ := hE
    obtain rfl : n = 0 := HXL.out.symm
    have x0 := HX14.out.x0
    have x1 := HX14.out.x1
    have x2 := HX14.out.x2
    have x3 := HX14.out.x3
    go_wp2_with fail
    refine (wakes_any _).mono ?_
    rintro e wz ⟨rfl, hbz⟩
    go_wp2_with fail
    go_ret
    exact ⟨rfl, HK14.out.below.trans (hbz.mono HK14.out.below.size)⟩

  ·

    obtain ⟨rfl, rfl⟩ := hE
    have hnl : n = ts.length + 1 := by rw [← HXL.out]; rfl
    have n0 : ((n : Int) == 0) = false := beq_eq_false_iff_ne.2 (by omega)
    have n1 : (1 : Int) ≤ (n : Int) := by omega
    have n1' : (1 : Int) ≤ (c : Int) := by omega
    have nc' : (n : Int) ≤ (c : Int) := by omega
    obtain ⟨b0, o0, hA0, _⟩ := HX.out.2 (by omega)
    subst hA0
    obtain ⟨A5, hA5⟩ : ∃ A5, (if c = 1 then some (⟨b0, o0, none⟩ : Addr) else some ⟨b0, o0 + 4, none⟩) = A5 := ⟨_, rfl⟩
    have HLW : Hid (Slc 4 txnE Any wt (some ⟨b0, o0, none⟩) n (t :: ts)) := HX.out.keep txnE.good (by decide) (Agree.of_below HK14.out.below)
    have hlt := HLW.out.tail_ txnE.good hnc
    rw [hA5] at hlt
    have HLT := Lib.hid hlt
    have hbq : Below wt.heap.size wt (wt.drew.alloc (.cells #[.int .i64 t.seq, .int .i64 t.pos, .int .i64 t.n, .slice A8 n8 c8] 37)) := (Below.refl _ _).drew.alloc (Nat.le_refl _) _
    have HL1 : Hid (Slc 4 txnE Any (wt.drew.alloc (.cells #[.int .i64 t.seq, .int .i64 t.pos, .int .i64 t.n, .slice A8 n8 c8] 37)) (some ⟨b0, o0, none⟩) 1 [t]) := ((HLW.out.front_ (m := 1) (by omega)).below txnE.good (by decide) hbq)
    have HX1 : Hid (Slc 4 txnE Any (wt.drew.alloc (.cells #[.int .i64 t.seq, .int .i64 t.pos, .int .i64 t.n, .slice A8 n8 c8] 37)) (some ⟨wt.heap.size, 0, none⟩) 1 [t]) := by
      refine Slc.of_blk txnE.good (Blk.new wt.drew 37 #[.int .i64 t.seq, .int .i64 t.pos, .int .i64 t.n, .slice A8 n8 c8]) ⟨rfl, fun j x hj => ?_⟩ rfl trivial
      match j, hj with
      | 0, hj => simp at hj; subst hj; exact ⟨rfl, rfl, rfl, _, rfl, _, _, _, rfl, g1, g2, (HX14.out.im.mono imgE.good (fun _ _ => trivial)).below imgE.good (by decide) hbq⟩
    have HS18 : Hid (∀ W, Below wt.heap.size wt W → Below wt.heap.size wt W ∧ W.cell? ⟨w6.heap.size, 0, none⟩ = some (.int .i64 t.seq) ∧ W.cell? ⟨w6.heap.size, 1, none⟩ = some (.int .i64 t.pos) ∧ W.cell? ⟨w6.heap.size, 2, none⟩ = some (.int .i64 t.n) ∧ W.cell? ⟨w6.heap.size, 3, none⟩ = some (.slice A8 n8 c8)) := fun W hW =>
      ⟨hW, (HX14.out.next HGX.out hW).x0, (HX14.out.next HGX.out hW).x1, (HX14.out.next HGX.out hW).x2, (HX14.out.next HGX.out hW).x3⟩
    clear hbq hlt hnl
    go_wp2_with fail
    refine wp_region_held_drew (S := (fun w' => Below wt.heap.size wt w' ∧ w'.cell? ⟨w6.heap.size, 0, none⟩ = some (.int .i64 t.seq) ∧ w'.cell? ⟨w6.heap.size, 1, none⟩ = some (.int .i64 t.pos) ∧ w'.cell? ⟨w6.heap.size, 2, none⟩ = some (.int .i64 t.n) ∧ w'.cell? ⟨w6.heap.size, 3, none⟩ = some (.slice A8 n8 c8))) (by kernel_rfl) ?_ (fun hHeld => ?_)
    · try dsimp only
      exact HS18.out _ (Below.refl _ _).drew
    refine wpAnyH_take (i := 0) (oi := _) (v := ?_) rfl (by kernel_rfl) (by kernel_rfl) (by kernel_rfl) (fun _ _ _ h => h) (Or.inl ⟨by rfl, ?_⟩) hHeld ?_
    rotate_left
    · intro w hSw
      try dsimp only at hSw
      go_simp
      try with_reducible rfl
    try simp only [List.getElem_toArray, List.getElem_cons_zero, Act.put, List.setIfInBounds_toArray, List.set_cons_zero, List.set_cons_succ]
    refine wpAnyH_take (i := 1) (oi := _) (v := ?_) rfl (by kernel_rfl) (by kernel_rfl) (by kernel_rfl) (fun _ _ _ h => h) (Or.inl ⟨by rfl, ?_⟩) hHeld ?_
    rotate_left
    · intro w hSw
      try dsimp only at hSw
      go_simp
      try with_reducible rfl
    try simp only [List.getElem_toArray, List.getElem_cons_succ, List.getElem_cons_zero, Act.put, List.setIfInBounds_toArray, List.set_cons_zero, List.set_cons_succ]
    refine wpAnyH_take (i := 2) (oi := _) (v := ?_) rfl (by kernel_rfl) (by kernel_rfl) (by kernel_rfl) (fun _ _ _ h => h) (Or.inl ⟨by rfl, ?_⟩) hHeld ?_
    rotate_left
    · intro w hSw
      try dsimp only at hSw
      go_simp
      try with_reducible rfl
    try simp only [List.getElem_toArray, List.getElem_cons_succ, List.getElem_cons_zero, Act.put, List.setIfInBounds_toArray, List.set_cons_zero, List.set_cons_succ]
    refine wpAnyH_take (i := 3) (oi := _) (v := ?_) rfl (by kernel_rfl) (by kernel_rfl) (by kernel_rfl) (fun _ _ _ h => h) (Or.inl ⟨by rfl, ?_⟩) hHeld ?_
    rotate_left
    · intro w hSw
      try dsimp only at hSw
      go_simp
      try with_reducible rfl
    try simp only [List.getElem_toArray, List.getElem_cons_succ, List.getElem_cons_zero, Act.put, List.setIfInBounds_toArray, List.set_cons_zero, List.set_cons_succ]
    refine wpAnyH_take (i := 5) (oi := _) (v := ?_) rfl (by kernel_rfl) (by kernel_rfl) (by kernel_rfl) (fun _ _ _ h => h) (Or.inl ⟨by rfl, ?_⟩) hHeld ?_
    rotate_left
    · intro w hSw
      try dsimp only at hSw
      go_simp
      try with_reducible rfl
    try simp only [List.getElem_toArray, List.getElem_cons_succ, List.getElem_cons_zero, Act.put, List.setIfInBounds_toArray, List.set_cons_zero, List.set_cons_succ]
    refine wpAnyH_take (i := 6) (oi := _) (v := ?_) rfl (by kernel_rfl) (by kernel_rfl) (by kernel_rfl) (fun _ _ _ h => h) (Or.inl ⟨by rfl, ?_⟩) hHeld ?_
    rotate_left
    · intro w hSw
      try dsimp only at hSw
      go_simp
      try with_reducible rfl
    try simp only [List.getElem_toArray, List.getElem_cons_succ, List.getElem_cons_zero, Act.put, List.setIfInBounds_toArray, List.set_cons_zero, List.set_cons_succ]
    refine wpAnyH_ready (rs := [4]) (by kernel_rfl) (by simp) ?_
    refine AllReadyH.cons (o := _) rfl (fun K hK => ?_) AllReadyH.nil
    go_simp
    refine hK.out _ _ ?_ (fun hHeld => ?_)
    · try dsimp only
      exact HS18.out _ ((Below.refl _ _).drew.alloc (Nat.le_refl _) _)
    clear hK K
    try simp only [List.getElem_toArray, List.getElem_cons_succ, List.getElem_cons_zero, Act.put, List.setIfInBounds_toArray, List.set_cons_zero, List.set_cons_succ]
    refine wpAnyH_ready (rs := [7]) (by kernel_rfl) (by simp) ?_
    refine AllReadyH.cons (o := _) rfl (fun K hK => ?_) AllReadyH.nil
    go_simp
    refine (txns_same _ _ _ _ _ _ [t] Any Any _ HX1.out HL1.out (by decide)).mono ?_
    rintro e1 wa ⟨rfl, hba⟩
    have hbw : Below wt.heap.size wt wa := (((Below.refl _ _).drew.alloc (Nat.le_refl _) _) : Below wt.heap.size wt (wt.drew.alloc (.cells #[.int .i64 t.seq, .int .i64 t.pos, .int .i64 t.n, .slice A8 n8 c8] 37))).trans (hba.mono (by simp))
    go_wp2_with fail
    refine hK.out _ _ ?_ (fun hHeld => ?_)
    · try dsimp only
      exact HS18.out _ hbw
    clear hK K
    have HBA := Lib.hid hbw
    clear hbw hba
    try simp only [List.getElem_toArray, List.getElem_cons_succ, List.getElem_cons_zero, Act.put, List.setIfInBounds_toArray, List.set_cons_zero, List.set_cons_succ]
    refine wpAnyH_take (i := 8) (oi := _) (v := ?_) rfl (by kernel_rfl) (by kernel_rfl) (by kernel_rfl) (fun _ _ _ h => h) (Or.inl ⟨by rfl, ?_⟩) hHeld ?_
    rotate_left
    · intro w hSw
      try dsimp only at hSw
      go_simp
      try with_reducible rfl
    try simp only [List.getElem_toArray, List.getElem_cons_succ, List.getElem_cons_zero, Act.put, List.setIfInBounds_toArray, List.set_cons_zero, List.set_cons_succ]
    refine wpAnyH_take (i := 9) (oi := _) (v := ?_) rfl (by kernel_rfl) (by kernel_rfl) (by kernel_rfl) (fun _ _ _ h => h) (Or.inl ⟨by rfl, ?_⟩) hHeld ?_
    rotate_left
    · intro w hSw
      try dsimp only at hSw
      go_simp
      try with_reducible rfl
    try simp only [List.getElem_toArray, List.getElem_cons_succ, List.getElem_cons_zero, Act.put, List.setIfInBounds_toArray, List.set_cons_zero, List.set_cons_succ]
    refine wpAnyH_take (i := 10) (oi := _) (v := ?_) rfl (by kernel_rfl) (by kernel_rfl) (by kernel_rfl) (fun _ _ _ h => h) (Or.inl ⟨by rfl, ?_⟩) hHeld ?_
    rotate_left
    · intro w hSw
      try dsimp only at hSw
      go_simp
      try with_reducible rfl
    try simp only [List.getElem_toArray, List.getElem_cons_succ, List.getElem_cons_zero, Act.put, List.setIfInBounds_toArray, List.set_cons_zero, List.set_cons_succ]
    refine wpAnyH_take (i := 11) (oi := _) (v := ?_) rfl (by kernel_rfl) (by kernel_rfl) (by kernel_rfl) (fun _ _ _ h => h) (Or.inl ⟨by rfl, ?_⟩) hHeld ?_
    rotate_left
    · intro w hSw
      try dsimp only at hSw
      go_simp
      try with_reducible rfl
    try simp only [List.getElem_toArray, List.getElem_cons_succ, List.getElem_cons_zero, Act.put, List.setIfInBounds_toArray, List.set_cons_zero, List.set_cons_succ]
    refine wpAnyH_take (i := 12) (oi := _) (v := ?_) rfl (by kernel_rfl) (by kernel_rfl) (by kernel_rfl) (fun _ _ _ h => h) (Or.inl ⟨by rfl, ?_⟩) hHeld ?_
    rotate_left
    · intro w hSw
      try dsimp only at hSw
      go_simp
      try with_reducible rfl
    try simp only [List.getElem_toArray, List.getElem_cons_succ, List.getElem_cons_zero, Act.put, List.setIfInBounds_toArray, List.set_cons_zero, List.set_cons_succ]
    refine wpAnyH_take (i := 13) (oi := _) (v := ?_) rfl (by kernel_rfl) (by kernel_rfl) (by kernel_rfl) (fun _ _ _ h => h) (Or.inl ⟨by rfl, ?_⟩) hHeld ?_
    rotate_left
    · intro w hSw
      try dsimp only at hSw
      go_simp
      try with_reducible rfl
    try simp only [List.getElem_toArray, List.getElem_cons_succ, List.getElem_cons_zero, Act.put, List.setIfInBounds_toArray, List.set_cons_zero, List.set_cons_succ]
    refine wpAnyH_ready (rs := [14]) (by kernel_rfl) (by simp) ?_
    refine AllReadyH.cons (o := _) rfl (fun K hK => ?_) AllReadyH.nil
    go_simp
    refine (txns_same _ _ _ _ _ _ ts Any Any _ ((HX14.out.rest.mono txnE.good (fun _ _ => trivial)).below txnE.good (by decide) HBA.out) (HLT.out.below txnE.good (by decide) HBA.out) n9m).mono ?_
    rintro e1 wb ⟨rfl, hbb⟩
    have hbw : Below wt.heap.size wt wb := HBA.out.trans (hbb.mono HBA.out.size)
    go_wp2_with fail
    refine hK.out _ _ ?_ (fun hHeld => ?_)
    · try dsimp only
      exact HS18.out _ hbw
    clear hK K
    have HBB := Lib.hid hbw
    clear hbw hbb
    try simp only [List.getElem_toArray, List.getElem_cons_succ, List.getElem_cons_zero, Act.put, List.setIfInBounds_toArray, List.set_cons_zero, List.set_cons_succ]
    refine wpAnyH_take (i := 15) (oi := _) (v := ?_) rfl (by kernel_rfl) (by kernel_rfl) (by kernel_rfl) (fun _ _ _ h => h) (Or.inl ⟨by rfl, ?_⟩) hHeld ?_
    rotate_left
    · intro w hSw
      try dsimp only at hSw
      go_simp
      try with_reducible rfl
    try simp only [List.getElem_toArray, List.getElem_cons_succ, List.getElem_cons_zero, Act.put, List.setIfInBounds_toArray, List.set_cons_zero, List.set_cons_succ]
    refine wpAnyH_take (i := 16) (oi := _) (v := ?_) rfl (by kernel_rfl) (by kernel_rfl) (by kernel_rfl) (fun _ _ _ h => h) (Or.inl ⟨by rfl, ?_⟩) hHeld ?_
    rotate_left
    · intro w hSw
      try dsimp only at hSw
      go_simp
      try with_reducible rfl
    try simp only [List.getElem_toArray, List.getElem_cons_succ, List.getElem_cons_zero, Act.put, List.setIfInBounds_toArray, List.set_cons_zero, List.set_cons_succ]
    refine wpAnyH_done (by kernel_rfl) ?_ _
    clear HS18 HX1 HL1 HLT HLW
    have HKb : Hid (K1 w n A2 (t :: ts) #[.int .i64 ge, .int .i64 ep, .int .i64 po, .int .i64 se, .int .i64 la, .string lab, .slice B m c'] w2.heap.size wb) := HK14.out.next HBB.out
    have HXb : Hid (KX w5.heap.size w6.heap.size t A8 n8 c8 A9 n9 ts wb) := HX14.out.next HGX.out HBB.out
    have HNI := Lib.hid HXb.out.im.1
    have n8b : n8 ≤ 1000 := by rw [← HNI.out]; exact (HSX.out.2 t (List.mem_cons_self ..)).1
    clear HK14 HX14 HBA HBB n0 n1 n1' nc' hA5
    go_wp2_with fail
    go_loopw [21] (fun i wr => ∃ k : Nat, k ≤ n8 ∧ i = .int .i64 k ∧ Hid (OverStep w5.heap.size wb wr)) (fun i _ => n8 - (intOf i).toNat)
    case atStart => exact ⟨0, by omega, rfl, OverStep.refl _ _⟩
    case round =>
      obtain ⟨k, hk, rfl, hS⟩ := hrel
      have x3 := hS.out.else_ _ _ _ HXb.out.x3 (fun x h => by cases h)
      by_cases hlt : k < n8
      · obtain ⟨x, hx⟩ : ∃ x, t.images[k]? = some x := ⟨_, List.getElem?_eq_getElem (by rw [HNI.out]; exact hlt)⟩
        obtain ⟨b1, o1, A12, n12, c12, rfl, hp1, d0, d1, d2, g5, g6, hs12⟩ := imgE.at_ HXb.out.im hx
        have e2 := hS.out.else_ _ _ _ d2 (fun x h => by cases h)
        have HLO : Hid (LooseB w5.heap.size wr A12 n12) := (LooseB.of hs12).step hS.out
        have n12m : n12 ≤ maxLen := Nat.le_trans g5 g6
        have i0 : (0 : Int) ≤ (k : Int) := by omega
        have i1 : (k : Int) < (n8 : Int) := by omega
        clear hx d0 d1 d2 hs12 hp1
        go_wp2_with fail
        refine (Over_any _ _ _ w5.heap.size _ HLO.out n12m).mono ?_
        rintro e wn ⟨rfl, hst⟩
        have HST : Hid (OverStep w5.heap.size wb wn) := hS.out.trans hst
        clear hst
        go_wp2_with fail
        go_roundw
        case rel => exact ⟨k + 1, by omega, by go_num, HST⟩
        case measure => simp [intOf]; omega
      · obtain rfl : k = n8 := by omega
        have HKr : Hid (K1 w n A2 (t :: ts) #[.int .i64 ge, .int .i64 ep, .int .i64 po, .int .i64 se, .int .i64 la, .string lab, .slice B m c'] w2.heap.size wr) := HKb.out.step hS.out HW2.out (Nat.le_trans HS23.out (Nat.le_trans HS34.out HS45.out))
        go_wp2_with fail
        refine (txns_same _ _ _ _ _ _ (t :: ts) _ Any _ HKr.out.inn (HX.out.keep txnE.good (by decide) (Agree.of_below HKr.out.below)) hn).mono ?_
        rintro e wy ⟨rfl, hby⟩
        have HKy : Hid (Below w.heap.size w wy) := HKr.out.below.trans (hby.mono HKr.out.below.size)
        clear hby
        go_wp2_with fail
        refine (wakes_any _).mono ?_
        rintro e wz ⟨rfl, hbz⟩
        go_wp2_with fail
        go_ret
        exact ⟨rfl, HKy.out.trans (hbz.mono HKy.out.size)⟩



end Go.Proofs.Ytedgalbhjfmafaa

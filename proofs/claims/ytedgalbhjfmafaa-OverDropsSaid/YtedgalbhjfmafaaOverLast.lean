/-
  OverLast, walked.
-/
import Derived.Test.YtedgalbhjfmafaaCommon
namespace Go.Proofs.Ytedgalbhjfmafaa
open Go.ChangeShapes Go.WideShapes Go.ChangeAt Go.RowKit
set_option linter.unusedVariables false
theorem all_slc {w w1 w2 : World} {A1 : Option Addr} {n c1 m : Nat} {cells cl : List Value} {v2 : Value} {ks ls : List Txn} (hown : w1.ownsRow w.heap.size 37 4 (.slice A1 n c1) n cells) (hrw : Rw 4 txnE (fun b => Fr w.heap.size w1 b ∧ (Value.slice A1 n c1).ownBlock ≠ some b) w1 cells ks) (hrl : Rw 4 txnE Any w cl ls) (hb1 : Below w.heap.size w w1)
    (hg : w1.grownBy w2 (Value.slice A1 n c1).ownBlock) (hown2 : w2.ownsRow w.heap.size 37 4 v2 (n + m) (cells ++ cl)) (hk : ks.length = n) (hl : ls.length = m) : SlcV 4 txnE Any w2 v2 (ks ++ ls) := by
  have hvl : ∀ g, (Value.slice A1 n c1).ownBlock = some g → w.heap.size ≤ g := fun g hg => (hown.lt g hg).1
  refine SlcV.of_own txnE.good hown2 (Rw.append_ txnE.good ?_ ?_) (by rw [List.length_append]; omega) (fun _ _ => trivial)
  · exact (hrw.keep txnE.good (Agree.grown hg (fun b hb => hb.2))).mono txnE.good (fun _ _ => trivial)
  · have h1 := hrl.lt txnE.good
    exact (h1.keep txnE.good ((Agree.of_below hb1).trans (Agree.grown hg (fun b hb e => by have := hvl b e; have := hb.2; omega)))).mono txnE.good (fun _ _ => trivial)
theorem rise_at {zs : List Int} (h : zs.Pairwise (· < ·)) {k : Nat} {x y : Int} (hy : zs[k]? = some y) (hx : zs[k + 1]? = some x) : y < x := by
  rw [List.pairwise_iff_getElem] at h
  obtain ⟨h1, rfl⟩ := List.getElem?_eq_some_iff.1 hy
  obtain ⟨h2, rfl⟩ := List.getElem?_eq_some_iff.1 hx
  exact h k (k + 1) h1 h2 (by omega)
theorem slcV_is {α : Type} {k : Nat} {E : Elt α} {p : Nat → Prop} {W : World} {A : Option Addr} {n c : Nat} {xs : List α} (h : SlcV k E p W (.slice A n c) xs) : n ≤ c ∧ c ≤ maxLen ∧ Slc k E p W A n xs := by
  obtain ⟨A', n', c', e, h1, h2, h3⟩ := h
  injection e with e1 e2 e3
  subst e1 e2 e3
  exact ⟨h1, h2, h3⟩
set_option maxRecDepth 100000 in
set_option maxHeartbeats 3200000 in
theorem overLast_walk (A : Option Addr) (n c : Nat) (ks : List Txn) (B : Option Addr) (m c' : Nat) (ls : List Txn) (z q : Int) (w : World) (hk : Slc 4 txnE Any w A n ks) (hn : n ≤ maxLen) (hl : Slc 4 txnE Any w B m ls) (hm : m ≤ maxLen) :
    Calls Try.prog 4 #[.slice A n c, .slice B m c', .int .i64 z, .int .i64 q] w (Says true w) := by
  have HK := Lib.hid hk
  have HL := Lib.hid hl
  have HKL := Lib.hid hk.1
  have HLL := Lib.hid hl.1
  clear hk hl
  cases hv : heavyT ks with
  | true =>
    have HV := Lib.hid hv
    clear hv
    go_enter Try.func4, Try.ntmps4
    go_wp2_with fail
    refine (heavyT_is HK.out hn HV.out).mono ?_
    rintro e w' ⟨rfl, rfl⟩
    go_wp2_with fail
    go_ret
    exact ⟨rfl, Below.refl _ _⟩
  | false =>
  cases hv2 : heavyT ls with
  | true =>
    have HV := Lib.hid hv
    have HV2 := Lib.hid hv2
    clear hv hv2
    go_enter Try.func4, Try.ntmps4
    go_wp2_with fail
    refine (heavyT_is HK.out hn HV.out).mono ?_
    rintro e w' ⟨rfl, rfl⟩
    go_wp2_with fail
    refine (heavyT_is HL.out hm HV2.out).mono ?_
    rintro e w' ⟨rfl, rfl⟩
    go_wp2_with fail
    go_ret
    exact ⟨rfl, Below.refl _ _⟩
  | false =>
  have HV := Lib.hid hv
  have HV2 := Lib.hid hv2
  have HSK := Lib.hid (small_of hv)
  have HSL := Lib.hid (small_of hv2)
  have n40 : n ≤ 40 := by have := HSK.out.1; have := HKL.out; omega
  have m40 : m ≤ 40 := by have := HSL.out.1; have := HLL.out; omega
  obtain ⟨⟨ok1, s1, b1⟩, hr1⟩ : ∃ r, lastR z q (ks ++ ls) = r := ⟨_, rfl⟩
  obtain ⟨⟨ok2, s2, b2⟩, hr2⟩ : ∃ r, lastR z q ls = r := ⟨_, rfl⟩
  obtain ⟨⟨ok3, s3, b3⟩, hr3⟩ : ∃ r, lastR z q ks = r := ⟨_, rfl⟩
  have hr4 := lastR_append z q ks ls
  rw [hr1, hr2, hr3] at hr4
  obtain ⟨zs, hzs⟩ : ∃ r, zonesOf (ks ++ ls) = r := ⟨_, rfl⟩
  obtain ⟨xs, hxs⟩ : ∃ r, zonesOf ks = r := ⟨_, rfl⟩
  obtain ⟨ys, hys⟩ : ∃ r, zonesOf ls = r := ⟨_, rfl⟩
  obtain ⟨zn, hzn⟩ : ∃ k, zs.length = k := ⟨_, rfl⟩
  obtain ⟨xn, hxn⟩ : ∃ k, xs.length = k := ⟨_, rfl⟩
  obtain ⟨yn, hyn⟩ : ∃ k, ys.length = k := ⟨_, rfl⟩
  have HR1 := Lib.hid hr1
  have HR2 := Lib.hid hr2
  have HR3 := Lib.hid hr3
  have HR4 := Lib.hid hr4
  have HZS := Lib.hid hzs
  have HXS := Lib.hid hxs
  have HYS := Lib.hid hys
  have HZN := Lib.hid hzn
  have HXN := Lib.hid hxn
  have HYN := Lib.hid hyn
  have HRISE : Hid (zs.Pairwise (· < ·)) := by have := zonesOf_rises (ks ++ ls); rw [hzs] at this; exact this
  have HMEM : Hid (∀ x, x ∈ zs ↔ x ∈ xs ∨ x ∈ ys) := fun x => by rw [← hzs, ← hxs, ← hys, mem_zonesOf, mem_zonesOf, mem_zonesOf, zonesT_append, List.mem_append]
  have HSA : Hid (∀ x ∈ ks ++ ls, x.images.length ≤ 1000 ∧ ∀ y ∈ x.images, y.bytes.length ≤ 1000) := fun x hx => (List.mem_append.1 hx).elim (HSK.out.2 x) (HSL.out.2 x)
  have HAL : Hid ((ks ++ ls).length = n + m) := by rw [Hid, List.length_append, HKL.out, HLL.out]
  obtain ⟨cl, hrd, hrw⟩ := HL.out.cells_ (by decide)
  have HRD := Lib.hid hrd
  have HRWL := Lib.hid (hrw txnE.good)
  have HONE := Lib.hid (Rw.one (by decide) txnE_one (hrw txnE.good))
  obtain ⟨i0, hi, hz0, hz1, hz2⟩ := info_parts info37
  clear hv hv2 hr1 hr2 hr3 hr4 hzs hxs hys hzn hxn hyn hrd hrw
  go_enter Try.func4, Try.ntmps4
  go_wp2_with fail
  refine (heavyT_is HK.out hn HV.out).mono ?_
  rintro e w' ⟨rfl, rfl⟩
  go_wp2_with fail
  refine (heavyT_is HL.out hm HV2.out).mono ?_
  rintro e w' ⟨rfl, rfl⟩
  go_wp2_with fail
  refine (twinTxns_any_own _ _ _ _ _ _ HK.out (by omega) HSK.out.2).mono ?_
  rintro e w1 ⟨v1, rfl, hT, hb1⟩
  obtain ⟨cells, hown, hrw⟩ := hT
  rw [HKL.out] at hown
  have HOWN := Lib.hid hown
  have HRW := Lib.hid hrw
  have HB1 := Lib.hid hb1
  obtain ⟨A1, c1, hv1⟩ := own_form hown
  subst hv1
  clear hown hrw hb1
  go_wp2_with (at_builtin; (refine wpList_append_any _ rfl (.tmp 30) (.tmp 31) 22 rfl w.heap.size 37 i0 _ 4 48 Try.underlying22 hi hz0 hz1 hz2 rfl (by decide) _ n cells rfl HOWN.out w.heap.size B m c' cl rfl (HRD.out.below HB1.out) HONE.out (by unfold maxLen; omega) (by omega) HB1.out.size ?_); intro v2 w2 hown2 hgrow hat; have HB2 : Hid (Below w.heap.size w w2) := HB1.out.grown hgrow HB1.out.size (fun g hg => (HOWN.out.lt g hg).1); have HALL := Lib.hid (all_slc HOWN.out HRW.out HRWL.out HB1.out hgrow hown2 HKL.out HLL.out); obtain ⟨A2, c2, hv2⟩ := own_form hown2; subst hv2; clear hown2 hgrow hat)
  refine (Find_is (slcV_is HALL.out).2.2 (by omega) HSA.out HR1.out).mono ?_
  rintro e w3 ⟨A3, n3, c3, rfl, u1, u2, hs3, hb3⟩
  have HS3 : Hid (Slc 1 (intE .u8) Any w3 A3 n3 b1) := hs3.mono (intE.good _) (fun _ _ => trivial)
  have HB3 : Hid (Below w.heap.size w w3) := HB2.out.trans (hb3.mono HB2.out.size)
  have HALL3 : Hid (Slc 4 txnE Any w3 A2 (n + m) (ks ++ ls)) := (slcV_is HALL.out).2.2.keep txnE.good (by decide) (Agree.of_below hb3)
  clear hs3 hb3 HALL HOWN HRW
  go_wp2_with fail
  refine (Find_is (HL.out.keep txnE.good (by decide) (Agree.of_below HB3.out)) (by omega) HSL.out.2 HR2.out).mono ?_
  rintro e w4 ⟨A4, n4, c4, rfl, u3, u4, hs4, hb4⟩
  have HS4 : Hid (Slc 1 (intE .u8) Any w4 A4 n4 b2) := hs4.mono (intE.good _) (fun _ _ => trivial)
  have HS34 : Hid (Slc 1 (intE .u8) Any w4 A3 n3 b1) := HS3.out.keep (intE.good _) (by decide) (Agree.of_below hb4)
  have HB4 : Hid (Below w.heap.size w w4) := HB3.out.trans (hb4.mono HB3.out.size)
  have HALL4 : Hid (Slc 4 txnE Any w4 A2 (n + m) (ks ++ ls)) := HALL3.out.keep txnE.good (by decide) (Agree.of_below hb4)
  clear hs4 hb4 HALL3 HS3 HB2 HB3
  go_upto_if 50 with (fail)
  go_cut [13, 14, 15] from 51 to 58 (fun cv mv iv wc => ∃ A5 n5 c5, cv = .slice A5 n5 c5 ∧ mv = .int .i64 s1 ∧ iv = .bool ok1 ∧ n5 ≤ c5 ∧ c5 ≤ maxLen ∧ Hid (Slc 1 (intE .u8) Any wc A5 n5 b1) ∧ Hid (Slc 1 (intE .u8) Any wc A3 n3 b1) ∧ Hid (Below w.heap.size w wc) ∧ Hid (Slc 4 txnE Any wc A2 (n + m) (ks ++ ls)))
  case first =>
    cases ok2 with
    | true =>
      have h4 := HR4.out
      rw [if_pos rfl] at h4
      injection h4 with h5 h6
      injection h6 with h6 h7
      subst h5 h6 h7
      go_wp2_with fail
      go_meet
      exact ⟨A4, n4, c4, rfl, rfl, rfl, u3, u4, HS4, HS34, HB4, HALL4⟩
    | false =>
      have h4 := HR4.out
      rw [if_neg (by simp)] at h4
      injection h4 with h5 h6
      injection h6 with h6 h7
      subst h5 h6 h7
      clear HS4
      go_wp2_with fail
      refine (Find_is (HK.out.keep txnE.good (by decide) (Agree.of_below HB4.out)) (by omega) HSK.out.2 HR3.out).mono ?_
      rintro e w5 ⟨A5, n5, c5, rfl, u5, u6, hs5, hb5⟩
      have HS5 : Hid (Slc 1 (intE .u8) Any w5 A5 n5 b1) := hs5.mono (intE.good _) (fun _ _ => trivial)
      have HS35 : Hid (Slc 1 (intE .u8) Any w5 A3 n3 b1) := HS34.out.keep (intE.good _) (by decide) (Agree.of_below hb5)
      have HB5 : Hid (Below w.heap.size w w5) := HB4.out.trans (hb5.mono HB4.out.size)
      have HALL5 : Hid (Slc 4 txnE Any w5 A2 (n + m) (ks ++ ls)) := HALL4.out.keep txnE.good (by decide) (Agree.of_below hb5)
      clear hs5 hb5
      go_wp2_with fail
      go_meet
      exact ⟨A5, n5, c5, rfl, rfl, rfl, u5, u6, HS5, HS35, HB5, HALL5⟩
  case rest =>
  obtain ⟨A5, n5, c5, rfl, rfl, rfl, u5, u6, HS5, HS35, HB5, HALL5⟩ := hcut
  clear HS4 HS34 HB4 HALL4
  have n3m : n3 ≤ maxLen := Nat.le_trans u1 u2
  go_wp2_with fail
  refine (bytes_same HS35.out HS5.out n3m).mono ?_
  rintro e w6 ⟨rfl, hb6⟩
  have HB6 : Hid (Below w.heap.size w w6) := HB5.out.trans (hb6.mono HB5.out.size)
  have HALL6 : Hid (Slc 4 txnE Any w6 A2 (n + m) (ks ++ ls)) := HALL5.out.keep txnE.good (by decide) (Agree.of_below hb6)
  clear hb6 HS5 HS35 HB5 HALL5
  go_wp2_with fail
  refine (Zones_is HALL6.out (by omega) (fun x hx => (HSA.out x hx).1) HZS.out HZN.out).mono ?_
  rintro e w7 ⟨A7, c7, rfl, z1, z2, hs7, hb7⟩
  have HB7 : Hid (Below w.heap.size w w7) := HB6.out.trans (hb7.mono HB6.out.size)
  have HZ7 := Lib.hid hs7
  have znm : zn ≤ maxLen := Nat.le_trans z1 z2
  have znb : zn ≤ 9223372036854775807 := by unfold maxLen at znm; omega
  clear hs7 hb7 HALL6 HB6
  go_wp2_with fail
  go_loopw [17] (fun i wr => ∃ k : Nat, k ≤ zn ∧ i = .int .i64 k ∧ Hid (Below w7.heap.size w7 wr)) (fun i _ => zn - (intOf i).toNat)
  case atStart => exact ⟨0, by omega, rfl, Below.refl _ _⟩
  case round =>
    obtain ⟨k, hkz, rfl, hB⟩ := hrel
    by_cases hlt : k < zn
    · have i0' : (0 : Int) ≤ (k : Int) := by omega
      have i1' : (k : Int) < (zn : Int) := by omega
      cases k with
      | zero =>
        have g0 : ((0 : Int) < ((0 : Nat) : Int)) = False := by simp
        go_wp2_with fail
        go_quiet (fail)
        go_wp2_with fail
        go_roundw
        case rel => exact ⟨1, by omega, by first | rfl | go_num, Below.drewN_ hB.out _⟩
        case measure => simp [intOf]; omega
      | succ k =>
        obtain ⟨x, hx⟩ : ∃ x, zs[k + 1]? = some x := ⟨_, List.getElem?_eq_getElem (by rw [HZN.out]; exact hlt)⟩
        obtain ⟨y, hy⟩ : ∃ y, zs[k]? = some y := ⟨_, List.getElem?_eq_getElem (by rw [HZN.out]; omega)⟩
        obtain ⟨b1', o1, rfl, d1⟩ := ints_at (HZ7.out.below (intE.good _) (by decide) hB.out) hx
        obtain ⟨b2', o2, hA, d2⟩ := ints_at (HZ7.out.below (intE.good _) (by decide) hB.out) hy
        injection hA with hA
        injection hA with hA1 hA2
        subst hA1 hA2
        have hr := rise_at HRISE.out hy hx
        have g1 : ¬ x ≤ y := by omega
        have e1 : IntKind.i64.wrap (((k + 1 : Nat) : Int) - 1) = (k : Int) := by rw [IntWalk.i64_in _ (by omega)]; omega
        have e2 : ((k + 1 : Nat) : Int) - 1 = (k : Int) := by omega
        have g2 : decide ((0 : Int) < ((k + 1 : Nat) : Int)) = true := decide_eq_true (by omega)
        have g3 : decide (x ≤ y) = false := decide_eq_false g1
        have k0' : (0 : Int) ≤ (k : Int) := by omega
        have k1' : (k : Int) < (zn : Int) := by omega
        clear hx hy hr
        go_wp2_with fail
        go_quiet (fail)
        go_wp2_with fail
        go_roundw
        case rel => exact ⟨k + 1 + 1, by omega, by go_num, Below.drewN_ hB.out _⟩
        case measure => simp [intOf]; omega
    · obtain rfl : k = zn := by omega
      have HB7' : Hid (Below w.heap.size w wr) := HB7.out.trans (hB.out.mono HB7.out.size)
      have HZ7' : Hid (Slc 1 (intE .i64) Any wr A7 k zs) := HZ7.out.below (intE.good _) (by decide) hB.out
      clear HZ7 hB
      go_wp2_with fail
      refine (Zones_is (HK.out.keep txnE.good (by decide) (Agree.of_below HB7'.out)) (by omega) (fun x hx => (HSK.out.2 x hx).1) HXS.out HXN.out).mono ?_
      rintro e w8 ⟨A8, c8, rfl, x1, x2, hs8, hb8⟩
      have HB8 : Hid (Below w.heap.size w w8) := HB7'.out.trans (hb8.mono HB7'.out.size)
      have HZ8 : Hid (Slc 1 (intE .i64) Any w8 A7 k zs) := HZ7'.out.below (intE.good _) (by decide) hb8
      have HX8 := Lib.hid hs8
      have xnm : xn ≤ maxLen := Nat.le_trans x1 x2
      have xnb : xn ≤ 9223372036854775807 := by unfold maxLen at xnm; omega
      clear hs8 hb8 HZ7'
      go_wp2_with fail
      refine (Zones_is (HL.out.keep txnE.good (by decide) (Agree.of_below HB8.out)) (by omega) (fun x hx => (HSL.out.2 x hx).1) HYS.out HYN.out).mono ?_
      rintro e w9 ⟨A9, c9, rfl, y1, y2, hs9, hb9⟩
      have HB9 : Hid (Below w.heap.size w w9) := HB8.out.trans (hb9.mono HB8.out.size)
      have HZ9 : Hid (Slc 1 (intE .i64) Any w9 A7 k zs) := HZ8.out.below (intE.good _) (by decide) hb9
      have HX9 : Hid (Slc 1 (intE .i64) Any w9 A8 xn xs) := HX8.out.below (intE.good _) (by decide) hb9
      have HY9 := Lib.hid hs9
      have ynm : yn ≤ maxLen := Nat.le_trans y1 y2
      have ynb : yn ≤ 9223372036854775807 := by unfold maxLen at ynm; omega
      clear hs9 hb9 HZ8 HX8
      obtain ⟨zn, hznk⟩ : ∃ zn, zn = k := ⟨_, rfl⟩
      subst hznk
      go_wp2_with fail
      go_loop [20] (fun i => ∃ k : Nat, k ≤ xn ∧ i = .int .i64 k) (fun i => xn - (intOf i).toNat)
      case atStart => exact ⟨0, by omega, rfl⟩
      case round =>
        obtain ⟨k, hk5, rfl⟩ := hrel
        by_cases hlt : k < xn
        · have i0' : (0 : Int) ≤ (k : Int) := by omega
          have i1' : (k : Int) < (xn : Int) := by omega
          obtain ⟨x, hx⟩ : ∃ x, xs[k]? = some x := ⟨_, List.getElem?_eq_getElem (by rw [HXN.out]; exact hlt)⟩
          obtain ⟨b1', o1, rfl, d1⟩ := ints_at HX9.out hx
          have HM : Hid (x ∈ zs) := (HMEM.out x).2 (.inl (List.mem_of_getElem? hx))
          clear hx
          go_wp2_with fail
          refine (has_yes HZ9.out znm HM.out).mono ?_
          rintro e wh ⟨rfl, rfl⟩
          go_wp2_with fail
          go_round
          case rel => exact ⟨k + 1, by omega, by go_num⟩
          case measure => simp [intOf]; omega
        · obtain rfl : k = xn := by omega
          go_wp2_with fail
          go_loop [21] (fun i => ∃ k : Nat, k ≤ yn ∧ i = .int .i64 k) (fun i => yn - (intOf i).toNat)
          case atStart => exact ⟨0, by omega, rfl⟩
          case round =>
            obtain ⟨k, hk5, rfl⟩ := hrel
            by_cases hlt : k < yn
            · have i0' : (0 : Int) ≤ (k : Int) := by omega
              have i1' : (k : Int) < (yn : Int) := by omega
              obtain ⟨x, hx⟩ : ∃ x, ys[k]? = some x := ⟨_, List.getElem?_eq_getElem (by rw [HYN.out]; exact hlt)⟩
              obtain ⟨b1', o1, rfl, d1⟩ := ints_at HY9.out hx
              have HM : Hid (x ∈ zs) := (HMEM.out x).2 (.inr (List.mem_of_getElem? hx))
              clear hx
              go_wp2_with fail
              refine (has_yes HZ9.out znm HM.out).mono ?_
              rintro e wh ⟨rfl, rfl⟩
              go_wp2_with fail
              go_round
              case rel => exact ⟨k + 1, by omega, by go_num⟩
              case measure => simp [intOf]; omega
            · obtain rfl : k = yn := by omega
              go_wp2_with fail
              go_loop [22] (fun i => ∃ k : Nat, k ≤ zn ∧ i = .int .i64 k) (fun i => zn - (intOf i).toNat)
              case atStart => exact ⟨0, by omega, rfl⟩
              case round =>
                obtain ⟨k, hk5, rfl⟩ := hrel
                by_cases hlt : k < zn
                · have i0' : (0 : Int) ≤ (k : Int) := by omega
                  have i1' : (k : Int) < (zn : Int) := by omega
                  obtain ⟨x, hx⟩ : ∃ x, zs[k]? = some x := ⟨_, List.getElem?_eq_getElem (by rw [HZN.out]; exact hlt)⟩
                  have HXM := Lib.hid ((HMEM.out x).1 (List.mem_of_getElem? hx))
                  obtain ⟨b1', o1, rfl, d1⟩ := ints_at HZ9.out hx
                  clear hx
                  by_cases hin : x ∈ xs
                  · have HIN := Lib.hid hin
                    clear hin
                    go_wp2_with fail
                    refine (has_yes HX9.out xnm HIN.out).mono ?_
                    rintro e wh ⟨rfl, rfl⟩
                    go_wp2_with fail
                    go_round
                    case rel => exact ⟨k + 1, by omega, by go_num⟩
                    case measure => simp [intOf]; omega
                  · have HIN := Lib.hid hin
                    have HIY : Hid (x ∈ ys) := HXM.out.resolve_left hin
                    clear hin
                    go_wp2_with fail
                    refine (has_no HX9.out xnm HIN.out).mono ?_
                    rintro e wh ⟨rfl, rfl⟩
                    go_wp2_with fail
                    refine (has_yes HY9.out ynm HIY.out).mono ?_
                    rintro e wh ⟨rfl, rfl⟩
                    go_wp2_with fail
                    go_round
                    case rel => exact ⟨k + 1, by omega, by go_num⟩
                    case measure => simp [intOf]; omega
                · obtain rfl : k = zn := by omega
                  go_wp2_with fail
                  refine (wakes_any _).mono ?_
                  rintro e wz ⟨rfl, hbz⟩
                  go_wp2_with fail
                  go_ret
                  exact ⟨rfl, HB9.out.trans (hbz.mono HB9.out.size)⟩
end Go.Proofs.Ytedgalbhjfmafaa

/-
  The walk of OverDrops.
-/
import Derived.Test.YtedgalbhjfmafaaLog
namespace Go.Proofs.Ytedgalbhjfmafaa
open Go.ChangeShapes Go.WideShapes Go.ChangeAt Go.RowKit
set_option linter.unusedVariables false
set_option maxRecDepth 100000 in
set_option maxHeartbeats 3200000 in
theorem overDrops_walk (zo da : Int) (A : Option Addr) (n c : Nat) (ss : List Int) (f z q : Int) (w : World) (h : Slc 1 (intE .i64) Any w A n ss) (hn : n ≤ maxLen) :
    Calls Try.prog 5 #[.int .i64 zo, .int .i64 da, .slice A n c, .int .u8 f, .int .i64 z, .int .i64 q] w (Says true w) := by
  unfold maxLen at hn
  have HS := Lib.hid h
  clear h
  by_cases h20 : 20 < n
  · go_enter Try.func5, Try.ntmps5
    go_wp2_with fail
    go_ret
    exact ⟨rfl, Below.refl _ _⟩
  · have hn20 : n ≤ 20 := by omega
    go_enter Try.func5, Try.ntmps5
    go_wp2_with fail
    refine (Some_any _ _ _).mono ?_
    rintro e w1 ⟨⟨Z, D, rfl, hZ, hD⟩, hb1⟩
    have HB1 := Lib.hid hb1
    clear hb1
    go_wp2_with fail
    have HB2 : Hid (Below w.heap.size w (w1.alloc (.cells #[.int .i64 (1 + (Z : Int)), .int .i64 (1 + (D : Int)), .int .i64 1, .int .i64 17, .int .i64 1] 54))) := HB1.out.alloc HB1.out.size _
    have HG := Lib.hid (Blk.new w1 54 #[.int .i64 (1 + (Z : Int)), .int .i64 (1 + (D : Int)), .int .i64 1, .int .i64 17, .int .i64 1])
    refine (First_any _ _ _ Z D hZ hD _ _).mono ?_
    rintro e w3 ⟨⟨AH, cH, hs, rfl, m1, m2, hsH, hroot⟩, hb3⟩
    have HB3 : Hid (Below w.heap.size w w3) := HB2.out.trans (hb3.mono HB2.out.size)
    have HG3 := Lib.hid (HG.out.below_ hb3 HG.out.lt)
    have HB4 : Hid (Below w.heap.size w (w3.alloc (.cells #[.int .i64 1, .int .i64 0, .int .i64 0, .int .i64 1, .int .i64 0, .string ⟨#[]⟩, .slice AH (1 + Z) cH] 25))) := HB3.out.alloc HB3.out.size _
    have HG4 := Lib.hid (HG3.out.alloc (.cells #[.int .i64 1, .int .i64 0, .int .i64 0, .int .i64 1, .int .i64 0, .string ⟨#[]⟩, .slice AH (1 + Z) cH] 25))
    have HA4 := Lib.hid (Blk.new w3 25 #[.int .i64 1, .int .i64 0, .int .i64 0, .int .i64 1, .int .i64 0, .string ⟨#[]⟩, .slice AH (1 + Z) cH])
    have HH4 : Hid (Slc 3 homeE Any (w3.alloc (.cells #[.int .i64 1, .int .i64 0, .int .i64 0, .int .i64 1, .int .i64 0, .string ⟨#[]⟩, .slice AH (1 + Z) cH] 25)) AH (1 + Z) hs) := (hsH.below homeE.good (by decide) ((Below.refl _ _).alloc (Nat.le_refl _) _))
    have HRT := Lib.hid hroot
    have a0 : (w3.alloc (.cells #[.int .i64 1, .int .i64 0, .int .i64 0, .int .i64 1, .int .i64 0, .string ⟨#[]⟩, .slice AH (1 + Z) cH] 25)).cell? ⟨w1.heap.size, 0, none⟩ = some (.int .i64 (1 + (Z : Int))) := HG4.out.cell 0
    have a1 : (w3.alloc (.cells #[.int .i64 1, .int .i64 0, .int .i64 0, .int .i64 1, .int .i64 0, .string ⟨#[]⟩, .slice AH (1 + Z) cH] 25)).cell? ⟨w1.heap.size, 1, none⟩ = some (.int .i64 (1 + (D : Int))) := HG4.out.cell 1
    have a2 : (w3.alloc (.cells #[.int .i64 1, .int .i64 0, .int .i64 0, .int .i64 1, .int .i64 0, .string ⟨#[]⟩, .slice AH (1 + Z) cH] 25)).cell? ⟨w1.heap.size, 2, none⟩ = some (.int .i64 1) := HG4.out.cell 2
    have a3 : (w3.alloc (.cells #[.int .i64 1, .int .i64 0, .int .i64 0, .int .i64 1, .int .i64 0, .string ⟨#[]⟩, .slice AH (1 + Z) cH] 25)).cell? ⟨w1.heap.size, 3, none⟩ = some (.int .i64 17) := HG4.out.cell 3
    have a4 : (w3.alloc (.cells #[.int .i64 1, .int .i64 0, .int .i64 0, .int .i64 1, .int .i64 0, .string ⟨#[]⟩, .slice AH (1 + Z) cH] 25)).cell? ⟨w1.heap.size, 4, none⟩ = some (.int .i64 1) := HG4.out.cell 4
    clear hb3 hsH hroot HG HG3
    go_wp2_with fail
    refine (Log_any Z D hZ hD _ _ _ _ _ _ _ ss _ Any _ (HS.out.keep (intE.good _) (by decide) (Agree.of_below HB4.out)) hn20).mono ?_
    rintro e w5 ⟨vl, rfl, ⟨xs, ⟨AL, nl, cl, rfl, q1, q2, hsL⟩, hxl, hxq, hxs⟩, hb5⟩
    have HB5 : Hid (Below w.heap.size w w5) := HB4.out.trans (hb5.mono HB4.out.size)
    have HG5 := Lib.hid (HG4.out.below_ hb5 HG4.out.lt)
    have HA5 := Lib.hid (HA4.out.below_ hb5 HA4.out.lt)
    have HH5 : Hid (Slc 3 homeE Any w5 AH (1 + Z) hs) := HH4.out.below homeE.good (by decide) hb5
    have HL5 := Lib.hid hsL
    have HXL := Lib.hid hxl
    have HXQ := Lib.hid hxq
    have HXS := Lib.hid hxs
    clear hb5 a0 a1 a2 a3 a4 hsL hxl hxq hxs HG4 HA4 HH4
    have g0 : w5.cell? ⟨w1.heap.size, 0, none⟩ = some (.int .i64 (1 + (Z : Int))) := HG5.out.cell 0
    have g1 : w5.cell? ⟨w1.heap.size, 1, none⟩ = some (.int .i64 (1 + (D : Int))) := HG5.out.cell 1
    obtain ⟨zr, hzr, hzr2⟩ := u64_rem z (1 + Z) (by omega) (by omega)
    obtain ⟨qr, hqr, hqr2⟩ := u64_rem q (2 + D) (by omega) (by omega)
    have hZw : IntKind.u64.wrap (1 + (Z : Int)) = 1 + (Z : Int) := IntWalk.u64_in _ (by omega)
    have hDw : IntKind.u64.wrap (1 + (D : Int) + 1) = 1 + (D : Int) + 1 := IntWalk.u64_in _ (by omega)
    have hDi : IntKind.i64.wrap (1 + (D : Int) + 1) = 1 + (D : Int) + 1 := IntWalk.i64_in _ (by omega)
    have hzr' : (IntKind.u64.wrap z).tmod (1 + (Z : Int)) = (zr : Int) := by rw [← hzr]; congr 1
    have hqr' : (IntKind.u64.wrap q).tmod (1 + (D : Int) + 1) = (qr : Int) := by rw [← hqr]; congr 1; omega
    have hz0 : ¬ (1 + (Z : Int)) = 0 := by omega
    have hd0 : ¬ (1 + (D : Int) + 1) = 0 := by omega
    clear hzr hqr
    go_wp2_with fail
    go_quiet (fail)
    go_wp2_with fail
    obtain ⟨⟨ok, s, bs⟩, hr⟩ : ∃ r, lastR (zr : Int) ((qr : Int) - 1) xs = r := ⟨_, rfl⟩
    have HR := Lib.hid hr
    have hnl : nl ≤ 20 := by have h1 := HXL.out; have h2 := HL5.out.1; omega
    have HSM : Hid (∀ x ∈ xs, x.images.length ≤ 1000 ∧ ∀ y ∈ x.images, y.bytes.length ≤ 1000) := fun x hx => ⟨Nat.le_trans (HXS.out x hx).1 (by decide), fun y hy => Nat.le_trans ((HXS.out x hx).2 y hy) (by decide)⟩
    clear hr g0 g1 hZw hDw hDi hzr' hqr' hz0 hd0
    refine (Find_is (HL5.out.keep txnE.good (by decide) (Agree.drewN _ _ _)) (Nat.le_trans hnl (by decide)) HSM.out HR.out).mono ?_
    rintro e w6 ⟨A3, n3, c3, rfl, u1, u2, hs3, hb6⟩
    have hb6' : Below w5.heap.size w5 w6 := (Below.drewN_ (Below.refl _ _) _).trans hb6
    have HB6 : Hid (Below w.heap.size w w6) := HB5.out.trans (hb6'.mono HB5.out.size)
    have HG6 := Lib.hid (HG5.out.below_ hb6' HG5.out.lt)
    have HA6 := Lib.hid (HA5.out.below_ hb6' HA5.out.lt)
    have HH6 : Hid (Slc 3 homeE Any w6 AH (1 + Z) hs) := HH5.out.below homeE.good (by decide) hb6'
    have HL6 : Hid (Slc 4 txnE Any w6 AL nl xs) := HL5.out.below txnE.good (by decide) hb6'
    have HS6 : Hid (Slc 1 (intE .u8) Any w6 A3 n3 bs) := hs3.mono (intE.good _) (fun _ _ => trivial)
    have n3m : n3 ≤ maxLen := Nat.le_trans u1 u2
    clear hs3 hb6 hb6' HG5 HA5 HH5 HL5
    go_wp2_with fail
    refine (twinTxns_any _ _ _ xs Any _ HL6.out (Nat.le_trans hnl (by decide)) HSM.out).mono ?_
    rintro e w7 ⟨v7, rfl, ⟨AT, nT, cT, rfl, t1, t2, hsT⟩, hb7⟩
    have hq := hsT.1
    rw [HL6.out.1] at hq
    subst hq
    have HB7 : Hid (Below w.heap.size w w7) := HB6.out.trans (hb7.mono HB6.out.size)
    have HA7 := Lib.hid (HA6.out.below_ hb7 HA6.out.lt)
    have HH7 : Hid (Slc 3 homeE Any w7 AH (1 + Z) hs) := HH6.out.below homeE.good (by decide) hb7
    have HL7 : Hid (Slc 4 txnE Any w7 AL nl xs) := HL6.out.below txnE.good (by decide) hb7
    have HS7 : Hid (Slc 1 (intE .u8) Any w7 A3 n3 bs) := HS6.out.below (intE.good _) (by decide) hb7
    have HT7 : Hid (Slc 4 txnE Any w7 AT nl xs) := hsT.mono txnE.good (fun _ _ => trivial)
    clear hb7 hsT HG6 HA6 HH6 HL6 HS6
    go_wp2_with fail
    go_loopw [19, 20] (fun v i wr => ∃ k : Nat, k ≤ nl ∧ i = .int .i64 k ∧ (∃ A' n' c', v = .slice A' n' c' ∧ Hid (Slc 4 txnE Any wr A' n' (xs.drop k))) ∧ Hid (Below w7.heap.size w7 wr)) (fun _ i _ => nl - (intOf i).toNat)
    case atStart => exact ⟨0, by omega, rfl, ⟨_, _, _, rfl, HT7.out⟩, Below.refl _ _⟩
    case round =>
      obtain ⟨k, hk, rfl, ⟨A8, n8, c8, rfl, HT⟩, HB⟩ := hrel
      by_cases hlt : k < nl
      · have i1 : (k : Int) < (nl : Int) := by omega
        have hn8 : n8 ≤ 20 := by have h1 := HT.out.1; have h2 := HXL.out; rw [List.length_drop] at h1; omega
        go_wp2_with fail
        refine (Drop_any _ _ _ _ _ _ HT.out (Nat.le_trans hn8 (by decide)) (fun x hx => HSM.out x (List.mem_of_mem_drop hx))).mono ?_
        rintro e w9 hd
        obtain ⟨t, ts, A10, n10, c10, A9, n9, c9, er, rfl, g1, g2, g3, g4, him, hrest, hway, hb9⟩ := dropped_in hd
        have hcons : xs.drop k = t :: ts ∧ er = 0 := hway.resolve_left (fun hh => by have h1 := HT.out.1; rw [hh.1, List.length_nil] at h1; have h2 := congrArg List.length hh.1; rw [List.length_drop, List.length_nil] at h2; have h3 := HL7.out.1; omega)
        obtain ⟨hcons, rfl⟩ := hcons
        have hxk : xs[k]? = some t := by have h1 := congrArg (fun l => l[0]?) hcons; simpa [List.getElem?_drop] using h1
        have hts : ts = xs.drop (k + 1) := by have h1 := congrArg List.tail hcons; simpa [List.tail_drop] using h1.symm
        have hseq : t.seq = 1 + (k : Int) := HXQ.out k t hxk
        have hn9 : n9 + k + 1 = nl := by have h1 := hrest.1; rw [hts, List.length_drop, HL7.out.1] at h1; omega
        have HTS := Lib.hid hts
        have HSEQ := Lib.hid hseq
        obtain ⟨lb, lo, A12, n12, c12, rfl, hp, d0, d1, d2, d3, g5, g6, hs12⟩ := txnE.at_ HL7.out hxk
        have hbw9 : Below w7.heap.size w7 w9 := HB.out.trans (hb9.mono HB.out.size)
        have hbw : Below w7.heap.size w7 (w9.alloc (.cells #[.int .i64 t.seq, .int .i64 t.pos, .int .i64 t.n, .slice A10 n10 c10] 37)) := hbw9.alloc hbw9.size _
        have e0 : (w9.alloc (.cells #[.int .i64 t.seq, .int .i64 t.pos, .int .i64 t.n, .slice A10 n10 c10] 37)).cell? ⟨lb, lo + k * 4, none⟩ = some (.int .i64 t.seq) := (hbw.cell (p := ⟨lb, lo + k * 4, none⟩) (World.block_lt_of_cell? _ _ d0)).trans d0
        have x0 : (w9.alloc (.cells #[.int .i64 t.seq, .int .i64 t.pos, .int .i64 t.n, .slice A10 n10 c10] 37)).cell? ⟨w9.heap.size, 0, none⟩ = some (.int .i64 t.seq) := (Blk.new w9 37 #[.int .i64 t.seq, .int .i64 t.pos, .int .i64 t.n, .slice A10 n10 c10]).cell 0
        have HXB := Lib.hid (Blk.new w9 37 #[.int .i64 t.seq, .int .i64 t.pos, .int .i64 t.n, .slice A10 n10 c10])
        have HBW0 := Lib.hid hbw
        have HY : Hid (Slc 4 txnE Any (w9.alloc (.cells #[.int .i64 t.seq, .int .i64 t.pos, .int .i64 t.n, .slice A10 n10 c10] 37)) A9 n9 ts) := (hrest.mono txnE.good (fun _ _ => trivial)).below txnE.good (by decide) ((Below.refl _ _).alloc (Nat.le_refl _) _)
        have p0 : (t.seq != t.seq) = false := by simp
        have hw1 : IntKind.i64.wrap ((nl : Int) - (k : Int)) = (nl : Int) - (k : Int) := IntWalk.i64_in _ (by omega)
        have hw2 : IntKind.i64.wrap ((nl : Int) - (k : Int) - 1) = (nl : Int) - (k : Int) - 1 := IntWalk.i64_in _ (by omega)
        have hn9' : ((n9 : Int) != (nl : Int) - (k : Int) - 1) = false := by rw [bne_eq_false_iff_eq]; omega
        have i0 : (0 : Int) ≤ (k : Int) := by omega
        have hn9b : n9 ≤ 20 := by omega
        clear hn9 hts hseq hxk hcons hway hrest him hd hb9 hbw9 hbw d0 d1 d2 d3 hs12 hp HT
        go_wp2_with fail
        go_quiet (fail)
        go_wp2_with fail
        clear hw1 hw2 hn9' p0 e0
        obtain ⟨⟨ok2, s2, bs2⟩, hr2⟩ : ∃ r, lastR (zr : Int) ((qr : Int) - 1) ts = r := ⟨_, rfl⟩
        have HR2 := Lib.hid hr2
        clear hr2
        refine (Find_is (HY.out.keep txnE.good (by decide) (Agree.drewN _ _ _)) (Nat.le_trans hn9b (by decide)) (fun x hx => HSM.out x (by rw [HTS.out] at hx; exact List.mem_of_mem_drop hx)) HR2.out).mono ?_
        rintro e w11 ⟨A13, n13, c13, rfl, u3, u4, hs13, hb11⟩
        have hbd : Below (w9.alloc (.cells #[.int .i64 t.seq, .int .i64 t.pos, .int .i64 t.n, .slice A10 n10 c10] 37)).heap.size (w9.alloc (.cells #[.int .i64 t.seq, .int .i64 t.pos, .int .i64 t.n, .slice A10 n10 c10] 37)) w11 := (Below.drewN_ (Below.refl _ _) _).trans hb11
        have HBW : Hid (Below w7.heap.size w7 w11) := HBW0.out.trans (hbd.mono HBW0.out.size)
        have x0 : w11.cell? ⟨w9.heap.size, 0, none⟩ = some (.int .i64 t.seq) := (HXB.out.below_ hbd HXB.out.lt).cell 0
        have HREST : Hid (Slc 4 txnE Any w11 A9 n9 (xs.drop (k + 1))) := by rw [← HTS.out]; exact HY.out.below txnE.good (by decide) hbd
        have HS13 : Hid (Slc 1 (intE .u8) Any w11 A13 n13 bs2) := hs13.mono (intE.good _) (fun _ _ => trivial)
        have HS11 : Hid (Slc 1 (intE .u8) Any w11 A3 n3 bs) := HS7.out.below (intE.good _) (by decide) HBW.out
        have HD : Hid (lastR (zr : Int) ((qr : Int) - 1) (xs.drop (k + 1)) = (ok2, s2, bs2)) := by rw [← HTS.out]; exact HR2.out
        clear hs13 hb11 hbd
        cases ok2 with
        | true =>
          have hyes := drops_yes HXQ.out (i := k) (z := (zr : Int)) (q := (qr : Int) - 1) (by rw [HD.out])
          rw [HD.out, HR.out] at hyes
          obtain ⟨h5, h6⟩ := hyes
          injection h5 with h7 h8
          injection h8 with h8 h9
          subst h7 h8 h9
          have hlt1 : t.seq < s := by rw [HSEQ.out]; exact h6
          have hlt2 : decide (t.seq < s) = true := decide_eq_true hlt1
          have hlt3 : decide (s ≤ t.seq) = false := decide_eq_false (by omega)
          have hss : (s != s) = false := by simp
          clear h6
          go_wp2_with fail
          refine (bytes_same HS11.out HS13.out n3m).mono ?_
          rintro e w14 ⟨rfl, hb14⟩
          have HBW : Hid (Below w7.heap.size w7 w14) := HBW.out.trans (hb14.mono HBW.out.size)
          have HREST : Hid (Slc 4 txnE Any w14 A9 n9 (xs.drop (k + 1))) := HREST.out.below txnE.good (by decide) hb14
          have x0 : w14.cell? ⟨w9.heap.size, 0, none⟩ = some (.int .i64 t.seq) := (hb14.cell (p := ⟨w9.heap.size, 0, none⟩) (World.block_lt_of_cell? _ _ x0)).trans x0
          clear hb14
          go_wp2_with fail
          go_roundw
          case rel => exact ⟨k + 1, by omega, by go_num, ⟨_, _, _, rfl, HREST⟩, HBW⟩
          case measure => simp [intOf]; omega
        | false =>
          cases ok with
          | true =>
            have hno := drops_no HXQ.out (i := k) (z := (zr : Int)) (q := (qr : Int) - 1) (by rw [HD.out]) (by rw [HR.out])
            rw [HR.out] at hno
            have hlt1 : s ≤ t.seq := by rw [HSEQ.out]; exact hno
            have hlt2 : decide (t.seq < s) = false := decide_eq_false (by omega)
            have hlt3 : decide (s ≤ t.seq) = true := decide_eq_true hlt1
            clear hno
            go_wp2_with fail
            go_roundw
            case rel => exact ⟨k + 1, by omega, by go_num, ⟨_, _, _, rfl, HREST⟩, HBW⟩
            case measure => simp [intOf]; omega
          | false =>
            go_wp2_with fail
            go_roundw
            case rel => exact ⟨k + 1, by omega, by go_num, ⟨_, _, _, rfl, HREST⟩, HBW⟩
            case measure => simp [intOf]; omega
      · obtain rfl : k = nl := by omega
        have h80 : n8 = 0 := by have h1 := HT.out.1; rw [List.length_drop, HL7.out.1] at h1; omega
        subst h80
        have hdrop : xs.drop k = [] := by apply List.eq_nil_of_length_eq_zero; rw [List.length_drop, HL7.out.1]; omega
        have HT0 : Hid (Slc 4 txnE Any wr A8 0 []) := by have := HT.out; rw [hdrop] at this; exact this
        have hroot0 : rootOf hs [] (zr : Int) = (0, 0) := by
          have hl := HH7.out.1
          obtain ⟨y, hy⟩ : ∃ y, hs[zr]? = some y := ⟨_, List.getElem?_eq_getElem (by omega)⟩
          rw [root_in hy]
          have := HRT.out y (List.mem_of_getElem? hy)
          simp [lastR_nil, this]
        have HR0 := Lib.hid hroot0
        have HBF : Hid (Below w.heap.size w wr) := HB7.out.trans (HB.out.mono HB7.out.size)
        have b0 : wr.cell? ⟨w3.heap.size, 0, none⟩ = some (.int .i64 1) := (HA7.out.below_ HB.out HA7.out.lt).cell 0
        have b1 : wr.cell? ⟨w3.heap.size, 1, none⟩ = some (.int .i64 0) := (HA7.out.below_ HB.out HA7.out.lt).cell 1
        have b2 : wr.cell? ⟨w3.heap.size, 2, none⟩ = some (.int .i64 0) := (HA7.out.below_ HB.out HA7.out.lt).cell 2
        have b3 : wr.cell? ⟨w3.heap.size, 3, none⟩ = some (.int .i64 1) := (HA7.out.below_ HB.out HA7.out.lt).cell 3
        have b4 : wr.cell? ⟨w3.heap.size, 4, none⟩ = some (.int .i64 0) := (HA7.out.below_ HB.out HA7.out.lt).cell 4
        have b5 : wr.cell? ⟨w3.heap.size, 5, none⟩ = some (.string ⟨#[]⟩) := (HA7.out.below_ HB.out HA7.out.lt).cell 5
        have b6 : wr.cell? ⟨w3.heap.size, 6, none⟩ = some (.slice AH (1 + Z) cH) := (HA7.out.below_ HB.out HA7.out.lt).cell 6
        clear hdrop hroot0 HT
        go_wp2_with fail
        refine (Root_any _ _ _ _ _ _ _ _ _ hs _ _ _ [] _ Any Any _ (HH7.out.keep homeE.good (by decide) (Agree.of_below HB.out)) (by unfold maxLen; omega) HT0.out (by omega) (fun x hx => by cases hx)).mono ?_
        rintro e wx ⟨he, hbx⟩
        rw [HR0.out] at he
        subst he
        have HBX : Hid (Below w.heap.size w wx) := HBF.out.trans (hbx.mono HBF.out.size)
        clear hbx
        go_wp2_with fail
        refine (wakes_any _).mono ?_
        rintro e wz ⟨rfl, hbz⟩
        go_wp2_with fail
        go_ret
        exact ⟨rfl, HBX.out.trans (hbz.mono HBX.out.size)⟩
end Go.Proofs.Ytedgalbhjfmafaa

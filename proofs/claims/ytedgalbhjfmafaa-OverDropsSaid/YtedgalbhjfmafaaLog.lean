/-
  Log: a log of a geometry.
-/
import Derived.Test.YtedgalbhjfmafaaDrops0
import Derived.Deep.CutRange
namespace Go.Proofs.Ytedgalbhjfmafaa
open Go.ChangeShapes Go.WideShapes Go.ChangeAt Go.RowKit
set_option linter.unusedVariables false
/-- the log so far -/
def LG (w : World) (G CA : Array Value) (k : Nat) (v : Value) (wr : World) : Prop := Blk wr w.heap.size 54 G ∧ Blk wr (w.heap.size + 1) 25 CA ∧ ∃ xs : List Txn, Tw 4 txnE 37 (w.heap.size + 1 + 1) wr v xs ∧ xs.length = k ∧ (∀ (i : Nat) (t : Txn), xs[i]? = some t → t.seq = 1 + (i : Int)) ∧ ∀ x ∈ xs, x.images.length ≤ 5 ∧ ∀ y ∈ x.images, y.bytes.length ≤ 100
/-- the transaction in its box -/
def LX (wo : World) (s p m : Int) (k : Nat) (wr : World) : Prop := ∃ A c ys, Blk wr wo.heap.size 37 #[.int .i64 s, .int .i64 p, .int .i64 m, .slice A k c] ∧ Tw 3 imgE 49 (wo.heap.size + 1) wr (.slice A k c) ys ∧ ys.length = k ∧ ∀ y ∈ ys, y.bytes.length ≤ 100
/-- the image in its box -/
def LY (wi : World) (v : Value) (wc : World) : Prop := ∃ (g : Nat) (x : Img) (A : Option Addr) (n c : Nat), v = .pointer (some ⟨g, 0, none⟩) ∧ wi.heap.size ≤ g ∧ Blk wc g 49 #[.int .i64 x.zone, .int .i64 x.what, .slice A n c] ∧ n ≤ c ∧ c ≤ maxLen ∧ Slc 1 (intE .u8) (Fr wi.heap.size wc) wc A n x.bytes ∧ x.bytes.length ≤ 100 ∧ Below wi.heap.size wi wc
theorem ly_a (wi : World) (a b e0 e1 e2 e3 e4 e5 e6 e7 : Int) : LY wi (.pointer (some ⟨wi.heap.size + 1, 0, none⟩)) ((wi.alloc (.cells #[.int .u8 e0, .int .u8 e1, .int .u8 e2, .int .u8 e3, .int .u8 e4, .int .u8 e5, .int .u8 e6, .int .u8 e7] 5)).alloc (.cells #[.int .i64 a, .int .i64 b, .slice (some ⟨wi.heap.size, 0, none⟩) 8 8] 49)).drew := by
  have hb := (Blk.new wi 5 #[.int .u8 e0, .int .u8 e1, .int .u8 e2, .int .u8 e3, .int .u8 e4, .int .u8 e5, .int .u8 e6, .int .u8 e7]).alloc (.cells #[.int .i64 a, .int .i64 b, .slice (some ⟨wi.heap.size, 0, none⟩) 8 8] 49)
  have hg := Blk.new (wi.alloc (.cells #[.int .u8 e0, .int .u8 e1, .int .u8 e2, .int .u8 e3, .int .u8 e4, .int .u8 e5, .int .u8 e6, .int .u8 e7] 5)) 49 #[.int .i64 a, .int .i64 b, .slice (some ⟨wi.heap.size, 0, none⟩) 8 8]
  rw [World.size_alloc] at hg
  exact ⟨_, ⟨a, b, [e0, e1, e2, e3, e4, e5, e6, e7]⟩, _, 8, 8, rfl, Nat.le_succ _, hg, Nat.le_refl _, by unfold maxLen; omega, Slc.of_blk (intE.good _) hb (Rw.of_ints [e0, e1, e2, e3, e4, e5, e6, e7]) rfl ⟨Nat.le_refl _, _, _, hb⟩, by simp, (((Below.refl _ wi).alloc (Nat.le_refl _) _).alloc (by simp) _).drew⟩
theorem ly_b (wi : World) (a b e0 e1 e2 e3 e4 e5 e6 e7 : Int) : LY wi (.pointer (some ⟨wi.heap.size, 0, none⟩)) ((wi.alloc (.cells #[.int .i64 a, .int .i64 b, .slice (some ⟨wi.heap.size + 1, 0, none⟩) 8 8] 49)).alloc (.cells #[.int .u8 e0, .int .u8 e1, .int .u8 e2, .int .u8 e3, .int .u8 e4, .int .u8 e5, .int .u8 e6, .int .u8 e7] 5)).drew := by
  have hg := (Blk.new wi 49 #[.int .i64 a, .int .i64 b, .slice (some ⟨wi.heap.size + 1, 0, none⟩) 8 8]).alloc (.cells #[.int .u8 e0, .int .u8 e1, .int .u8 e2, .int .u8 e3, .int .u8 e4, .int .u8 e5, .int .u8 e6, .int .u8 e7] 5)
  have hb := Blk.new (wi.alloc (.cells #[.int .i64 a, .int .i64 b, .slice (some ⟨wi.heap.size + 1, 0, none⟩) 8 8] 49)) 5 #[.int .u8 e0, .int .u8 e1, .int .u8 e2, .int .u8 e3, .int .u8 e4, .int .u8 e5, .int .u8 e6, .int .u8 e7]
  rw [World.size_alloc] at hb
  exact ⟨_, ⟨a, b, [e0, e1, e2, e3, e4, e5, e6, e7]⟩, _, 8, 8, rfl, Nat.le_refl _, hg, Nat.le_refl _, by unfold maxLen; omega, Slc.of_blk (intE.good _) hb (Rw.of_ints [e0, e1, e2, e3, e4, e5, e6, e7]) rfl ⟨Nat.le_succ _, _, _, hb⟩, by simp, (((Below.refl _ wi).alloc (Nat.le_refl _) _).alloc (by simp) _).drew⟩
theorem set3_far (W : World) {B g : Nat} (hne : B ≠ g) (a b c : Value) (i : Nat) : (((W.setCell ⟨B, 0, none⟩ a).setCell ⟨B, 1, none⟩ b).setCell ⟨B, 2, none⟩ c).cell? ⟨g, i, none⟩ = W.cell? ⟨g, i, none⟩ := by
  have hn : ∀ j, (⟨B, j, none⟩ : Addr) ≠ ⟨g, i, none⟩ := fun j e => by injection e with e; exact hne e
  rw [World.cell?_setCell_other _ _ _ _ (hn 2), World.cell?_setCell_other _ _ _ _ (hn 1), World.cell?_setCell_other _ _ _ _ (hn 0)]
theorem ly_set {wr wb : World} {g N n c : Nat} {x0 x1 x2 : Value} {A : Option Addr} {bs : List Int} (h : Blk wb g 49 #[x0, x1, x2]) (hge : wr.heap.size ≤ g) (hb : Below wr.heap.size wr wb) (hs : Slc 1 (intE .u8) (Fr N wb) wb A n bs) (hgN : g < N) (hN : wr.heap.size ≤ N) (q1 : n ≤ c) (q2 : c ≤ maxLen) (hl : bs.length ≤ 100) (a b : Int) :
    LY wr (.pointer (some ⟨g, 0, none⟩)) (((wb.setCell ⟨g, 0, none⟩ (.int .i64 a)).setCell ⟨g, 1, none⟩ (.int .i64 b)).setCell ⟨g, 2, none⟩ (.slice A n c)) := by
  have h1 := heap_setCell_same _ g 0 _ _ (.int .i64 a) h
  have h2 := heap_setCell_same _ g 1 _ _ (.int .i64 b) h1
  have h3 := heap_setCell_same _ g 2 _ _ (.slice A n c) h2
  refine ⟨g, ⟨a, b, bs⟩, A, n, c, rfl, hge, by simpa [Blk] using h3, q1, q2, ?_, hl, ((hb.setCell (p := ⟨g, 0, none⟩) hge _).setCell (p := ⟨g, 1, none⟩) hge _).setCell (p := ⟨g, 2, none⟩) hge _⟩
  refine (hs.keep (intE.good _) (by decide) (fun b hb o v hv => (set3_far wb (fun e => by have := hb.1; omega) _ _ _ o).trans hv)).mono (intE.good _) (fun b hb => ⟨Nat.le_trans hN hb.1, ((hb.2.setCell _ _ _).setCell _ _ _).setCell _ _ _⟩)
theorem lx_step {wo wr w1 w2 : World} {s p m : Int} {j c c2 n4 c4 : Nat} {A A2 A4 : Option Addr} {cells : List Value} {ys : List Img} {y : Img} (hb : Blk wr wo.heap.size 37 #[.int .i64 s, .int .i64 p, .int .i64 m, .slice A j c])
    (hown : wr.ownsRow (wo.heap.size + 1) 49 3 (.slice A j c) j cells) (hrw : Rw 3 imgE (fun b => Fr (wo.heap.size + 1) wr b ∧ (Value.slice A j c).ownBlock ≠ some b) wr cells ys) (hl : ys.length = j) (hyb : ∀ y ∈ ys, y.bytes.length ≤ 100)
    (hb1 : Below wr.heap.size wr w1) (hs4 : Slc 1 (intE .u8) (Fr wr.heap.size w1) w1 A4 n4 y.bytes) (m1 : n4 ≤ c4) (m2 : c4 ≤ maxLen) (hy : y.bytes.length ≤ 100)
    (hgrow : (w1.alloc (.cells #[.int .i64 y.zone, .int .i64 y.what, .slice A4 n4 c4] 49)).grownBy w2 (Value.slice A j c).ownBlock) (hown2 : w2.ownsRow (wo.heap.size + 1) 49 3 (.slice A2 (j + 1) c2) (j + 1) (cells ++ [.int .i64 y.zone, .int .i64 y.what, .slice A4 n4 c4]))
    (hat : (Value.slice A2 (j + 1) c2).ownBlock = (Value.slice A j c).ownBlock ∨ (Value.slice A2 (j + 1) c2).ownBlock = some (w1.heap.size + 1)) : LX wo s p m (j + 1) (w2.setCell ⟨wo.heap.size, 3, none⟩ (.slice A2 (j + 1) c2)) := by
  have h3 := ((hb.below_ hb1 hb.lt).alloc (.cells #[.int .i64 y.zone, .int .i64 y.what, .slice A4 n4 c4] 49)).kept hgrow (fun e => by have := (hown.lt _ e.symm).1; omega)
  have htw := tw_step (new := [.int .i64 y.zone, .int .i64 y.what, .slice A4 n4 c4]) (x := y) imgE.good (by rw [hl]; exact hown) hrw hb.lt hb1 rfl ⟨rfl, rfl, _, rfl, _, _, _, rfl, m1, m2, hs4⟩ (by rw [hl]; exact hown2) hgrow hat
  refine ⟨A2, c2, ys ++ [y], ?_, htw.set imgE.good (by omega) _, by simp [hl], fun v hv => ?_⟩
  · have := heap_setCell_same _ wo.heap.size 3 _ _ (.slice A2 (j + 1) c2) h3
    simpa [Blk] using this
  · rw [List.mem_append, List.mem_singleton] at hv
    rcases hv with hv | rfl
    · exact hyb v hv
    · exact hy
theorem lg_step {w wo w1 w2 : World} {G CA : Array Value} {k c c2 n3 c3 : Nat} {A A2 A3 : Option Addr} {cells : List Value} {xs : List Txn} {ys : List Img} {p m : Int} (hg : Blk wo w.heap.size 54 G) (ha : Blk wo (w.heap.size + 1) 25 CA)
    (hown : wo.ownsRow (w.heap.size + 1 + 1) 37 4 (.slice A k c) k cells) (hrw : Rw 4 txnE (fun b => Fr (w.heap.size + 1 + 1) wo b ∧ (Value.slice A k c).ownBlock ≠ some b) wo cells xs) (hl : xs.length = k) (hq : ∀ (i : Nat) (t : Txn), xs[i]? = some t → t.seq = 1 + (i : Int)) (hx : ∀ x ∈ xs, x.images.length ≤ 5 ∧ ∀ y ∈ x.images, y.bytes.length ≤ 100)
    (hB : w.heap.size + 1 + 1 ≤ wo.heap.size) (hb1 : Below wo.heap.size wo w1) (hi : Tw 3 imgE 49 (wo.heap.size + 1) w1 (.slice A3 n3 c3) ys) (hyl : ys.length ≤ 5) (hyb : ∀ y ∈ ys, y.bytes.length ≤ 100)
    (hgrow : (w1.alloc (.cells #[.int .i64 (1 + (k : Int)), .int .i64 p, .int .i64 m, .slice A3 n3 c3] 37)).grownBy w2 (Value.slice A k c).ownBlock) (hown2 : w2.ownsRow (w.heap.size + 1 + 1) 37 4 (.slice A2 (k + 1) c2) (k + 1) (cells ++ [.int .i64 (1 + (k : Int)), .int .i64 p, .int .i64 m, .slice A3 n3 c3]))
    (hat : (Value.slice A2 (k + 1) c2).ownBlock = (Value.slice A k c).ownBlock ∨ (Value.slice A2 (k + 1) c2).ownBlock = some (w1.heap.size + 1)) : LG w G CA (k + 1) (.slice A2 (k + 1) c2) w2 := by
  have hne : ∀ b, b ≤ w.heap.size + 1 → some b ≠ (Value.slice A k c).ownBlock := fun b hb e => by have := (hown.lt b e.symm).1; omega
  have h1 := ((hg.below_ hb1 hg.lt).alloc (.cells #[.int .i64 (1 + (k : Int)), .int .i64 p, .int .i64 m, .slice A3 n3 c3] 37)).kept hgrow (hne _ (by omega))
  have h2 := ((ha.below_ hb1 ha.lt).alloc (.cells #[.int .i64 (1 + (k : Int)), .int .i64 p, .int .i64 m, .slice A3 n3 c3] 37)).kept hgrow (hne _ (by omega))
  have him := (hi.out imgE.good).mono imgE.good (fun b hb => (⟨by have := hb.1; omega, hb.2⟩ : Fr wo.heap.size w1 b))
  have htw := tw_step (new := [.int .i64 (1 + (k : Int)), .int .i64 p, .int .i64 m, .slice A3 n3 c3]) (x := ⟨1 + (k : Int), p, m, ys⟩) txnE.good (by rw [hl]; exact hown) hrw hB hb1 rfl ⟨rfl, rfl, rfl, _, rfl, him⟩ (by rw [hl]; exact hown2) hgrow hat
  refine ⟨h1, h2, xs ++ [⟨1 + (k : Int), p, m, ys⟩], htw, by simp [hl], fun i t ht => ?_, fun v hv => ?_⟩
  · rcases Nat.lt_or_ge i xs.length with h | h
    · rw [List.getElem?_append_left h] at ht
      exact hq i t ht
    · rw [List.getElem?_append_right h] at ht
      have hi0 : i - xs.length = 0 := by have := (List.getElem?_eq_some_iff.1 ht).1; simp at this; omega
      rw [hi0] at ht
      simp at ht
      rw [← ht]
      show 1 + (k : Int) = _
      omega
  · rw [List.mem_append, List.mem_singleton] at hv
    rcases hv with hv | rfl
    · exact hx v hv
    · exact ⟨hyl, hyb⟩
set_option maxRecDepth 100000 in
set_option maxHeartbeats 3200000 in
theorem Log_any (Z D : Nat) (hZ : Z < 4) (hD : D < 4) (lab : ByteArray) (B : Option Addr) (nh ch : Nat) (A : Option Addr) (n c : Nat) (ss : List Int) (f : Int) (p : Nat → Prop) (w : World) (h : Slc 1 (intE .i64) p w A n ss) (hn : n ≤ 20) :
    Calls Try.prog 24 #[.agg #[.int .i64 (1 + (Z : Int)), .int .i64 (1 + (D : Int)), .int .i64 1, .int .i64 17, .int .i64 1], .agg #[.int .i64 1, .int .i64 0, .int .i64 0, .int .i64 1, .int .i64 0, .string lab, .slice B nh ch], .slice A n c, .int .u8 f] w (Gives (fun v w' => ∃ xs : List Txn, Txns (fun _ => True) w' v xs ∧ xs.length ≤ 20 ∧ (∀ (i : Nat) (t : Txn), xs[i]? = some t → t.seq = 1 + (i : Int)) ∧ ∀ x ∈ xs, x.images.length ≤ 5 ∧ ∀ y ∈ x.images, y.bytes.length ≤ 100) w) := by
  obtain ⟨i3, hi3, hz30, hz31, hz32⟩ := info_parts info49
  obtain ⟨i0, hi, hz0, hz1, hz2⟩ := info_parts info37
  have HS := Lib.hid h
  have HL := Lib.hid h.1
  clear h
  go_enter Try.func24, Try.ntmps24
  go_wp2_with fail
  go_loopw [9, 10, 11, 12] (fun v ps us i wr => ∃ k : Nat, k ≤ n ∧ i = .int .i64 k ∧ (∃ y, ps = .int .i64 y) ∧ (∃ u : Nat, us = .int .i64 (u : Int) ∧ u ≤ 17) ∧ Hid (LG w #[.int .i64 (1 + (Z : Int)), .int .i64 (1 + (D : Int)), .int .i64 1, .int .i64 17, .int .i64 1] #[.int .i64 1, .int .i64 0, .int .i64 0, .int .i64 1, .int .i64 0, .string lab, .slice B nh ch] k v wr) ∧ Hid (Below w.heap.size w wr) ∧ Hid (w.heap.size + 1 + 1 ≤ wr.heap.size)) (fun _ _ _ i _ => n - (intOf i).toNat)
  case atStart =>
    refine ⟨0, by omega, rfl, ⟨_, rfl⟩, ⟨0, rfl, by omega⟩, ⟨(Blk.new w 54 _).alloc _, ?_, [], ⟨[], World.ownsRow_nil _ _ _ _, Rw.nil_⟩, rfl, (fun i t h => by simp at h), (fun x h => by cases h)⟩, ((Below.refl _ w).alloc (Nat.le_refl _) _).alloc (by simp) _, by show _ ≤ _; simp⟩
    have := Blk.new (w.alloc (.cells #[.int .i64 (1 + (Z : Int)), .int .i64 (1 + (D : Int)), .int .i64 1, .int .i64 17, .int .i64 1] 54)) 25 #[.int .i64 1, .int .i64 0, .int .i64 0, .int .i64 1, .int .i64 0, .string lab, .slice B nh ch]
    rwa [World.size_alloc] at this
  case round =>
    obtain ⟨k, hk, rfl, ⟨py, rfl⟩, ⟨u, rfl, hu17⟩, hF, hB, hSZ⟩ := hrel
    obtain ⟨hg, ha, xs, hT, hxl, hxq, hxs⟩ := hF.out
    obtain ⟨cells, hown, hrw⟩ := hT
    rw [hxl] at hown
    obtain ⟨AL, cL, rfl⟩ := own_form hown
    have g0 : wr.cell? ⟨w.heap.size, 0, none⟩ = some (.int .i64 (1 + (Z : Int))) := hg.cell 0
    have g1 : wr.cell? ⟨w.heap.size, 1, none⟩ = some (.int .i64 (1 + (D : Int))) := hg.cell 1
    have g3 : wr.cell? ⟨w.heap.size, 3, none⟩ = some (.int .i64 17) := hg.cell 3
    have a3 : wr.cell? ⟨w.heap.size + 1, 3, none⟩ = some (.int .i64 1) := ha.cell 3
    have HG := Lib.hid hg
    have HA := Lib.hid ha
    have HOWN := Lib.hid hown
    have HRW := Lib.hid hrw
    have HXL := Lib.hid hxl
    have HXQ := Lib.hid hxq
    have HXS := Lib.hid hxs
    clear hF hg ha hown hrw hxl hxq hxs
    by_cases hlt : k < n
    · obtain ⟨x, hx⟩ : ∃ x, ss[k]? = some x := ⟨_, List.getElem?_eq_getElem (by rw [HL.out]; exact hlt)⟩
      obtain ⟨b1, o1, rfl, d1⟩ := ints_at HS.out hx
      have e1 := (hB.out.cell (p := ⟨b1, o1 + k, none⟩) (World.block_lt_of_cell? _ _ d1)).trans d1
      obtain ⟨N, hN, hN5⟩ := u64_rem x 5 (by decide) (by decide)
      have hN : (IntKind.u64.wrap x).tmod 5 = (N : Int) := hN
      have j0 : (0 : Int) ≤ (k : Int) := by omega
      have j1 : (k : Int) < (n : Int) := by omega
      clear hx d1
      by_cases hbr : 17 < u + (1 + N) + 1
      · have hbr' : (17 : Int) < (u : Int) + (1 + (N : Int)) + 1 := by omega
        go_wp2_with fail
        go_ret
        exact ⟨_, rfl, ⟨xs, (Tw.out txnE.good (⟨cells, by rw [HXL.out]; exact HOWN.out, HRW.out⟩ : Tw 4 txnE 37 (w.heap.size + 1 + 1) wr (.slice AL k cL) xs)).mono txnE.good (fun _ _ => trivial), by have := HXL.out; omega, HXQ.out, HXS.out⟩, hB.out⟩
      · have hbr' : ¬ (17 : Int) < (u : Int) + (1 + (N : Int)) + 1 := by omega
        obtain ⟨wo, rfl⟩ : ∃ wo, wo = wr := ⟨_, rfl⟩
        go_wp2_with fail
        go_loopw [15] (fun i wi => ∃ j : Nat, j ≤ 1 + N ∧ i = .int .i64 j ∧ Hid (LX wo (1 + (k : Int)) py (1 + (N : Int) + 1) j wi) ∧ Hid (Below wo.heap.size wo wi)) (fun i _ => 1 + N - (intOf i).toNat)
        case atStart => exact ⟨0, by omega, rfl, ⟨none, 0, [], Blk.new wo 37 _, ⟨[], World.ownsRow_nil _ _ _ _, Rw.nil_⟩, rfl, (fun y h => by cases h)⟩, (Below.refl _ _).alloc (Nat.le_refl _) _⟩
        case round =>
          obtain ⟨j, hj, rfl, hX, hBi⟩ := hrel
          obtain ⟨A3, c3, ys, hbx, ⟨cs, hownx, hrwx⟩, hyl, hyb⟩ := hX.out
          have HOXL := Lib.hid hownx
          rw [hyl] at hownx
          have HBX := Lib.hid hbx
          have HOX := Lib.hid hownx
          have HRX := Lib.hid hrwx
          have HYL := Lib.hid hyl
          have HYB := Lib.hid hyb
          clear hX hbx hownx hrwx hyl hyb
          have g0i : wr.cell? ⟨w.heap.size, 0, none⟩ = some (.int .i64 (1 + (Z : Int))) := (hBi.out.cell (p := ⟨w.heap.size, 0, none⟩) HG.out.lt).trans g0
          have g1i : wr.cell? ⟨w.heap.size, 1, none⟩ = some (.int .i64 (1 + (D : Int))) := (hBi.out.cell (p := ⟨w.heap.size, 1, none⟩) HG.out.lt).trans g1
          by_cases hlt2 : j < 1 + N
          · have i2 : (j : Int) < 1 + (N : Int) := by omega
            have z0 : ¬ (1 + (Z : Int)) = 0 := by omega
            have z1 : ¬ (1 + (D : Int) + 1) = 0 := by omega
            clear g0 g1 g3 a3 e1
            go_upto_region 12 with (fail)
            go_cut [16] from 54 to 75 (fun v wc => Hid (LY wr v wc))
            case first =>
              have g0a : ∀ o, (wr.alloc o).cell? ⟨w.heap.size, 0, none⟩ = some (.int .i64 (1 + (Z : Int))) := fun o => (World.cell?_alloc_lt _ _ _ (World.block_lt_of_cell? _ _ g0i)).trans g0i
              have g1a : ∀ o, (wr.alloc o).cell? ⟨w.heap.size, 1, none⟩ = some (.int .i64 (1 + (D : Int))) := fun o => (World.cell?_alloc_lt _ _ _ (World.block_lt_of_cell? _ _ g1i)).trans g1i
              have g0b : ∀ o o', ((wr.alloc o).alloc o').cell? ⟨w.heap.size, 0, none⟩ = some (.int .i64 (1 + (Z : Int))) := fun o o' => (World.cell?_alloc_lt _ _ _ (World.block_lt_of_cell? _ _ (g0a o))).trans (g0a o)
              have g1b : ∀ o o', ((wr.alloc o).alloc o').cell? ⟨w.heap.size, 1, none⟩ = some (.int .i64 (1 + (D : Int))) := fun o o' => (World.cell?_alloc_lt _ _ _ (World.block_lt_of_cell? _ _ (g1a o))).trans (g1a o)
              have zw : IntKind.i64.wrap (1 + (D : Int) + 1) = 1 + (D : Int) + 1 := IntWalk.i64_in _ (by omega)
              go_wp2_with fail
              go_region
              · go_wp2_with fail
                go_meet
                exact ly_a _ _ _ _ _ _ _ _ _ _ _
              · go_wp2_with fail
                go_meet
                exact ly_b _ _ _ _ _ _ _ _ _ _ _
            case rest =>
            obtain ⟨g, y, A4, n4, c4, rfl, hge, hgb, m1, m2, hs4, hyl4, hbc⟩ := hcut.out
            have HGB := Lib.hid hgb
            have HS4 := Lib.hid hs4
            have HBC := Lib.hid hbc
            clear hcut hgb hs4 hbc
            obtain ⟨b3, hb3⟩ : ∃ b3, (((k : Int) + (j : Int)) % 4 == 3) = b3 := ⟨_, rfl⟩
            go_upto_if 80 with (fail)
            clear hb3
            go_cut [16] from 81 to 90 (fun v wq => Hid (LY wr v wq))
            case first =>
              cases b3 with
              | false =>
                go_wp2_with fail
                go_meet
                exact ⟨g, y, A4, n4, c4, rfl, hge, HGB.out, m1, m2, HS4.out, hyl4, HBC.out⟩
              | true =>
                have HK14 : Hid (∀ W, Below wr.heap.size wr W → Below wr.heap.size wr W ∧ W.cell? ⟨w.heap.size, 0, none⟩ = some (.int .i64 (1 + (Z : Int))) ∧ W.cell? ⟨w.heap.size, 1, none⟩ = some (.int .i64 (1 + (D : Int))) ∧ W.cell? ⟨w.heap.size, 2, none⟩ = some (.int .i64 1) ∧ W.cell? ⟨w.heap.size, 3, none⟩ = some (.int .i64 17) ∧ W.cell? ⟨w.heap.size, 4, none⟩ = some (.int .i64 1)) := fun W hW => ⟨hW, ((HG.out.below_ hBi.out HG.out.lt).below_ hW (Nat.lt_of_lt_of_le HG.out.lt hBi.out.size)).cell 0, ((HG.out.below_ hBi.out HG.out.lt).below_ hW (Nat.lt_of_lt_of_le HG.out.lt hBi.out.size)).cell 1, ((HG.out.below_ hBi.out HG.out.lt).below_ hW (Nat.lt_of_lt_of_le HG.out.lt hBi.out.size)).cell 2, ((HG.out.below_ hBi.out HG.out.lt).below_ hW (Nat.lt_of_lt_of_le HG.out.lt hBi.out.size)).cell 3, ((HG.out.below_ hBi.out HG.out.lt).below_ hW (Nat.lt_of_lt_of_le HG.out.lt hBi.out.size)).cell 4⟩
                have hgw : g ≠ w.heap.size := by have := HG.out.lt; have := hBi.out.size; omega
                have HKS : Hid (∀ (W : World) (a b d : Value), (Below wr.heap.size wr W ∧ W.cell? ⟨w.heap.size, 0, none⟩ = some (.int .i64 (1 + (Z : Int))) ∧ W.cell? ⟨w.heap.size, 1, none⟩ = some (.int .i64 (1 + (D : Int))) ∧ W.cell? ⟨w.heap.size, 2, none⟩ = some (.int .i64 1) ∧ W.cell? ⟨w.heap.size, 3, none⟩ = some (.int .i64 17) ∧ W.cell? ⟨w.heap.size, 4, none⟩ = some (.int .i64 1)) → Below wr.heap.size wr (((W.setCell ⟨g, 0, none⟩ a).setCell ⟨g, 1, none⟩ b).setCell ⟨g, 2, none⟩ d) ∧ (((W.setCell ⟨g, 0, none⟩ a).setCell ⟨g, 1, none⟩ b).setCell ⟨g, 2, none⟩ d).cell? ⟨w.heap.size, 0, none⟩ = some (.int .i64 (1 + (Z : Int))) ∧ (((W.setCell ⟨g, 0, none⟩ a).setCell ⟨g, 1, none⟩ b).setCell ⟨g, 2, none⟩ d).cell? ⟨w.heap.size, 1, none⟩ = some (.int .i64 (1 + (D : Int))) ∧ (((W.setCell ⟨g, 0, none⟩ a).setCell ⟨g, 1, none⟩ b).setCell ⟨g, 2, none⟩ d).cell? ⟨w.heap.size, 2, none⟩ = some (.int .i64 1) ∧ (((W.setCell ⟨g, 0, none⟩ a).setCell ⟨g, 1, none⟩ b).setCell ⟨g, 2, none⟩ d).cell? ⟨w.heap.size, 3, none⟩ = some (.int .i64 17) ∧ (((W.setCell ⟨g, 0, none⟩ a).setCell ⟨g, 1, none⟩ b).setCell ⟨g, 2, none⟩ d).cell? ⟨w.heap.size, 4, none⟩ = some (.int .i64 1)) := fun W a b d ⟨h0, h1⟩ => ⟨((h0.setCell (p := ⟨g, 0, none⟩) hge a).setCell (p := ⟨g, 1, none⟩) hge b).setCell (p := ⟨g, 2, none⟩) hge d, by rw [set3_far W hgw, set3_far W hgw, set3_far W hgw, set3_far W hgw, set3_far W hgw]; exact h1⟩
                go_wp2_with fail
                refine wp_region_held_drew (S := (fun w' => Below wr.heap.size wr w' ∧ w'.cell? ⟨w.heap.size, 0, none⟩ = some (.int .i64 (1 + (Z : Int))) ∧ w'.cell? ⟨w.heap.size, 1, none⟩ = some (.int .i64 (1 + (D : Int))) ∧ w'.cell? ⟨w.heap.size, 2, none⟩ = some (.int .i64 1) ∧ w'.cell? ⟨w.heap.size, 3, none⟩ = some (.int .i64 17) ∧ w'.cell? ⟨w.heap.size, 4, none⟩ = some (.int .i64 1))) (by kernel_rfl) ?_ (fun hHeld => ?_)
                · try dsimp only
                  exact HK14.out _ HBC.out.drew
                refine wpAnyH_take (i := 0) (oi := _) (v := ?_) rfl (by kernel_rfl) (by kernel_rfl) (by kernel_rfl) (fun _ _ _ h => h) (Or.inl ⟨by rfl, ?_⟩) hHeld ?_
                rotate_left
                · intro w hSw
                  try dsimp only at hSw
                  go_simp
                  try with_reducible rfl
                try simp only [List.getElem_toArray, List.getElem_cons_zero, Act.put, List.setIfInBounds_toArray, List.set_cons_zero, List.set_cons_succ]
                refine wpAnyH_take (i := 1) (oi := _) (v := ?_) rfl (by kernel_rfl) (by kernel_rfl) (by kernel_rfl) (fun _ _ _ h => h) (Or.inl ⟨by rfl, ?_⟩) hHeld ?_
                rotate_left
                · intro w hSw
                  try dsimp only at hSw
                  go_simp
                  try with_reducible rfl
                try simp only [List.getElem_toArray, List.getElem_cons_succ, List.getElem_cons_zero, Act.put, List.setIfInBounds_toArray, List.set_cons_zero, List.set_cons_succ]
                refine wpAnyH_take (i := 2) (oi := _) (v := ?_) rfl (by kernel_rfl) (by kernel_rfl) (by kernel_rfl) (fun _ _ _ h => h) (Or.inl ⟨by rfl, ?_⟩) hHeld ?_
                rotate_left
                · intro w hSw
                  try dsimp only at hSw
                  go_simp
                  try with_reducible rfl
                try simp only [List.getElem_toArray, List.getElem_cons_succ, List.getElem_cons_zero, Act.put, List.setIfInBounds_toArray, List.set_cons_zero, List.set_cons_succ]
                refine wpAnyH_take (i := 3) (oi := _) (v := ?_) rfl (by kernel_rfl) (by kernel_rfl) (by kernel_rfl) (fun _ _ _ h => h) (Or.inl ⟨by rfl, ?_⟩) hHeld ?_
                rotate_left
                · intro w hSw
                  try dsimp only at hSw
                  go_simp
                  try with_reducible rfl
                try simp only [List.getElem_toArray, List.getElem_cons_succ, List.getElem_cons_zero, Act.put, List.setIfInBounds_toArray, List.set_cons_zero, List.set_cons_succ]
                refine wpAnyH_take (i := 4) (oi := _) (v := ?_) rfl (by kernel_rfl) (by kernel_rfl) (by kernel_rfl) (fun _ _ _ h => h) (Or.inl ⟨by rfl, ?_⟩) hHeld ?_
                rotate_left
                · intro w hSw
                  try dsimp only at hSw
                  go_simp
                  try with_reducible rfl
                try simp only [List.getElem_toArray, List.getElem_cons_succ, List.getElem_cons_zero, Act.put, List.setIfInBounds_toArray, List.set_cons_zero, List.set_cons_succ]
                refine wpAnyH_take (i := 5) (oi := _) (v := ?_) rfl (by kernel_rfl) (by kernel_rfl) (by kernel_rfl) (fun _ _ _ h => h) (Or.inl ⟨by rfl, ?_⟩) hHeld ?_
                rotate_left
                · intro w hSw
                  try dsimp only at hSw
                  go_simp
                  try with_reducible rfl
                try simp only [List.getElem_toArray, List.getElem_cons_succ, List.getElem_cons_zero, Act.put, List.setIfInBounds_toArray, List.set_cons_zero, List.set_cons_succ]
                refine wpAnyH_take (i := 6) (oi := _) (v := ?_) rfl (by kernel_rfl) (by kernel_rfl) (by kernel_rfl) (fun _ _ _ h => h) (Or.inl ⟨by rfl, ?_⟩) hHeld ?_
                rotate_left
                · intro w hSw
                  try dsimp only at hSw
                  go_simp
                  try with_reducible rfl
                try simp only [List.getElem_toArray, List.getElem_cons_succ, List.getElem_cons_zero, Act.put, List.setIfInBounds_toArray, List.set_cons_zero, List.set_cons_succ]
                refine wpAnyH_ready (rs := [7]) (by kernel_rfl) (by simp) ?_
                refine AllReadyH.cons (o := _) rfl (fun K hK => ?_) AllReadyH.nil
                go_simp
                refine (firstTable_ex _ 1 17 1 D hD _).mono ?_
                rintro e1 wt ⟨⟨At, ct, rfl, q1, q2, hst⟩, hbt⟩
                have hbw : Below wc.heap.size wc wt := ((Below.refl _ _).drew).trans hbt
                go_wp2_with fail
                refine hK.out _ _ ?_ (fun hHeld => ?_)
                · try dsimp only
                  exact HK14.out _ (HBC.out.trans (hbw.mono HBC.out.size))
                clear hK K
                have HBT := Lib.hid hbw
                have HST := Lib.hid hst
                clear hbw hbt hst
                try simp only [List.getElem_toArray, List.getElem_cons_succ, List.getElem_cons_zero, Act.put, List.setIfInBounds_toArray, List.set_cons_zero, List.set_cons_succ]
                refine wpAnyH_ready (rs := [8]) (by kernel_rfl) (by simp) ?_
                refine AllReadyH.cons (o := _) rfl (fun K hK => ?_) AllReadyH.nil
                go_simp
                refine (tableBytes_ex _ _ _ _ (fun _ => True) _ HST.out (by omega)).mono ?_
                rintro e1 wb ⟨vb, rfl, ⟨bs, ⟨A5, n5, c5, rfl, q3, q4, hs5⟩, hl5⟩, hb5⟩
                have hbw : Below wc.heap.size wc wb := HBT.out.trans (hb5.mono HBT.out.size)
                have hgb5 := HGB.out.below_ hbw HGB.out.lt
                have y0b : wb.cell? ⟨g, 0, none⟩ = some (.int .i64 y.zone) := hgb5.cell 0
                have y1b : wb.cell? ⟨g, 1, none⟩ = some (.int .i64 y.what) := hgb5.cell 1
                have y2b : wb.cell? ⟨g, 2, none⟩ = some (.slice A4 n4 c4) := hgb5.cell 2
                have yfb : ∀ i, wb.frozen? ⟨g, i, none⟩ = false := fun i => frozen_of_row wb g i _ _ hgb5
                go_wp2_with fail
                refine hK.out _ _ ?_ (fun hHeld => ?_)
                · try dsimp only
                  exact HK14.out _ (HBC.out.trans (hbw.mono HBC.out.size))
                clear hK K
                have HBB := Lib.hid hbw
                have HS5 := Lib.hid hs5
                have HL5 := Lib.hid hl5
                have HGB5 := Lib.hid hgb5
                have hfr : g < wt.heap.size ∧ wr.heap.size ≤ wt.heap.size := ⟨Nat.lt_of_lt_of_le HGB.out.lt HBT.out.size, Nat.le_trans HBC.out.size HBT.out.size⟩
                have HFR := Lib.hid hfr
                clear hbw hb5 hs5 hl5 hgb5 hfr
                try simp only [List.getElem_toArray, List.getElem_cons_succ, List.getElem_cons_zero, Act.put, List.setIfInBounds_toArray, List.set_cons_zero, List.set_cons_succ]
                refine wpAnyH_take (i := 9) (oi := _) (v := ?_) rfl (by kernel_rfl) (by kernel_rfl) (by kernel_rfl) (fun _ _ _ h => h) (Or.inl ⟨by rfl, ?_⟩) hHeld ?_
                rotate_left
                · intro w hSw
                  try dsimp only at hSw
                  go_simp
                  try with_reducible rfl
                try simp only [List.getElem_toArray, List.getElem_cons_succ, List.getElem_cons_zero, Act.put, List.setIfInBounds_toArray, List.set_cons_zero, List.set_cons_succ]
                refine wpAnyH_ready (rs := [10]) (by kernel_rfl) (by simp) ?_
                refine AllReadyH.cons (o := _) rfl (fun K hK => ?_) AllReadyH.nil
                go_simp
                refine hK.out _ _ ?_ (fun hHeld => ?_)
                · try dsimp only
                  exact HKS.out _ _ _ _ (HK14.out _ (HBC.out.trans (HBB.out.mono HBC.out.size)))
                clear hK K
                try simp only [List.getElem_toArray, List.getElem_cons_succ, List.getElem_cons_zero, Act.put, List.setIfInBounds_toArray, List.set_cons_zero, List.set_cons_succ]
                refine wpAnyH_done (by kernel_rfl) ?_ _
                go_wp2_with fail
                go_meet
                exact ly_set HGB5.out hge (HBC.out.trans (HBB.out.mono HBC.out.size)) HS5.out HFR.out.1 HFR.out.2 q3 q4 (by have := HL5.out; omega) _ _
            case rest =>
            obtain ⟨wp, rfl⟩ : ∃ wp, wp = wc := ⟨_, rfl⟩
            clear HGB HS4 HBC hge m1 m2 hyl4
            obtain ⟨g, y, A4, n4, c4, rfl, hge, hgb, m1, m2, hs4, hyl4, hbc⟩ := hcut.out
            have HGB := Lib.hid hgb
            have HS4 := Lib.hid hs4
            have HBC := Lib.hid hbc
            clear hcut hgb hs4 hbc
            have x3 : wp.cell? ⟨wo.heap.size, 3, none⟩ = some (.slice A3 j c3) := (HBX.out.below_ HBC.out HBX.out.lt).cell 3
            have y0 : wp.cell? ⟨g, 0, none⟩ = some (.int .i64 y.zone) := HGB.out.cell 0
            have y1 : wp.cell? ⟨g, 1, none⟩ = some (.int .i64 y.what) := HGB.out.cell 1
            have y2 : wp.cell? ⟨g, 2, none⟩ = some (.slice A4 n4 c4) := HGB.out.cell 2
            go_wp2_with (at_builtin; ((refine wpList_append_any _ rfl (.tmp 92) (.tmp 94) 35 rfl (wo.heap.size + 1) 49 i3 _ 3 40 Try.underlying35 hi3 hz30 hz31 hz32 rfl (by decide) (.slice A3 j c3) j cs rfl ((own_below HOX.out HBC.out).alloc (.cells #[.int .i64 y.zone, .int .i64 y.what, .slice A4 n4 c4] 49)) (wp.heap.size + 1) (some ⟨wp.heap.size, 0, none⟩) 1 1 [.int .i64 y.zone, .int .i64 y.what, .slice A4 n4 c4] rfl ⟨rfl, fun _ => ⟨_, rfl, Nat.lt_succ_self _, World.news_of_block (cs := #[.int .i64 y.zone, .int .i64 y.what, .slice A4 n4 c4]) (t := 49) (fr := (0, 0)) (heap_alloc_new wp _)⟩⟩ (by intro u hu; simp at hu; rcases hu with rfl | rfl | rfl <;> rfl) (by unfold maxLen; omega) (by omega) (Nat.le_trans HBX.out.lt (Nat.le_trans HBC.out.size (by simp))) ?_); intro v2 w2 hown2 hgrow hat; obtain ⟨A2, c2, rfl⟩ := own_form hown2; have HLX := Lib.hid (lx_step (y := y) HBX.out HOX.out HRX.out HYL.out HYB.out HBC.out HS4.out m1 m2 hyl4 hgrow hown2 (by simpa using hat)); have ht2 := ((HBX.out.below_ HBC.out HBX.out.lt).alloc (.cells #[.int .i64 y.zone, .int .i64 y.what, .slice A4 n4 c4] 49)).kept hgrow (fun e => by have := (HOX.out.lt _ e.symm).1; omega); have t02 : w2.cell? ⟨wo.heap.size, 3, none⟩ = some (.slice A3 j c3) := ht2.cell 3; have tf2 : w2.frozen? ⟨wo.heap.size, 3, none⟩ = false := frozen_of_row _ _ _ _ _ ht2; have HB2 : Hid (Below wo.heap.size wo w2) := ((hBi.out.trans (HBC.out.mono hBi.out.size)).alloc (Nat.le_trans hBi.out.size HBC.out.size) _).grown hgrow (Nat.le_trans hBi.out.size (Nat.le_trans HBC.out.size (by simp))) (fun g hg => by have := (HOX.out.lt g hg).1; omega); clear ht2 hown2 hgrow hat))
            go_roundw
            case rel => exact ⟨j + 1, by omega, by go_num, HLX, HB2.out.setCell (by simp) _⟩
            case measure => simp [intOf]; omega
          · obtain rfl : j = 1 + N := by omega
            have i2 : ¬ (((1 + N : Nat) : Int) < 1 + (N : Int)) := by omega
            have x0 : wr.cell? ⟨wo.heap.size, 0, none⟩ = some (.int .i64 (1 + (k : Int))) := HBX.out.cell 0
            have x1 : wr.cell? ⟨wo.heap.size, 1, none⟩ = some (.int .i64 py) := HBX.out.cell 1
            have x2 : wr.cell? ⟨wo.heap.size, 2, none⟩ = some (.int .i64 (1 + (N : Int) + 1)) := HBX.out.cell 2
            have x3 : wr.cell? ⟨wo.heap.size, 3, none⟩ = some (.slice A3 (1 + N) c3) := HBX.out.cell 3
            have g3i : wr.cell? ⟨w.heap.size, 3, none⟩ = some (.int .i64 17) := (hBi.out.cell (p := ⟨w.heap.size, 3, none⟩) HG.out.lt).trans g3
            clear g0 g1 g3 a3 e1
            go_wp2_with (at_builtin; ((refine wpList_append_any _ rfl (.tmp 97) (.tmp 99) 22 rfl (w.heap.size + 1 + 1) 37 i0 _ 4 48 Try.underlying22 hi hz0 hz1 hz2 rfl (by decide) (.slice AL k cL) k cells rfl ((own_below HOWN.out hBi.out).alloc (.cells #[.int .i64 (1 + (k : Int)), .int .i64 py, .int .i64 (1 + (N : Int) + 1), .slice A3 (1 + N) c3] 37)) (wr.heap.size + 1) (some ⟨wr.heap.size, 0, none⟩) 1 1 [.int .i64 (1 + (k : Int)), .int .i64 py, .int .i64 (1 + (N : Int) + 1), .slice A3 (1 + N) c3] rfl ⟨rfl, fun _ => ⟨_, rfl, Nat.lt_succ_self _, World.news_of_block (cs := #[.int .i64 (1 + (k : Int)), .int .i64 py, .int .i64 (1 + (N : Int) + 1), .slice A3 (1 + N) c3]) (t := 37) (fr := (0, 0)) (heap_alloc_new wr _)⟩⟩ (by intro u hu; simp at hu; rcases hu with rfl | rfl | rfl | rfl <;> rfl) (by unfold maxLen; omega) (by omega) (Nat.le_trans hSZ.out (Nat.le_trans hBi.out.size (by simp))) ?_); intro v2 w2 hown2 hgrow hat; obtain ⟨A2, c2, rfl⟩ := own_form hown2; have HLG := Lib.hid (lg_step HG.out HA.out HOWN.out HRW.out HXL.out HXQ.out HXS.out hSZ.out hBi.out ⟨cs, HOXL.out, HRX.out⟩ (by have := HYL.out; omega) HYB.out hgrow hown2 (by simpa using hat)); have HB2 : Hid (Below w.heap.size w w2) := ((hB.out.trans (hBi.out.mono hB.out.size)).alloc (Nat.le_trans hB.out.size hBi.out.size) _).grown hgrow (Nat.le_trans hB.out.size (Nat.le_trans hBi.out.size (by simp))) (fun g hg => by have := (HOWN.out.lt g hg).1; omega); have HSZ2 : Hid (w.heap.size + 1 + 1 ≤ w2.heap.size) := Nat.le_trans hSZ.out (Nat.le_trans hBi.out.size (Nat.le_trans (by simp) hgrow.size)); have g3j : w2.cell? ⟨w.heap.size, 3, none⟩ = some (.int .i64 17) := HLG.out.1.cell 3; clear hown2 hgrow hat))
            go_roundw
            case rel => exact ⟨k + 1, by omega, by go_num, ⟨_, rfl⟩, ⟨u + (1 + N) + 1, by first | go_num | (congr 1; omega), by omega⟩, HLG, HB2, HSZ2⟩
            case measure => simp [intOf]; omega
    · obtain rfl : k = n := by omega
      go_wp2_with fail
      go_ret
      exact ⟨_, rfl, ⟨xs, (Tw.out txnE.good (⟨cells, by rw [HXL.out]; exact HOWN.out, HRW.out⟩ : Tw 4 txnE 37 (w.heap.size + 1 + 1) wr (.slice AL k cL) xs)).mono txnE.good (fun _ _ => trivial), by have := HXL.out; omega, HXQ.out, HXS.out⟩, hB.out⟩
end Go.Proofs.Ytedgalbhjfmafaa

/-
  First: an anchor's beginning.
-/
import Derived.Test.YtedgalbhjfmafaaLow3
namespace Go.Proofs.Ytedgalbhjfmafaa
open Go.ChangeShapes Go.WideShapes Go.ChangeAt Go.RowKit
set_option linter.unusedVariables false
theorem info62 : (Try.prog.info? 62).map (fun i => (i.zero, i.size, i.bytes)) = some (some (.agg #[.slice none 0 0, .int .i64 0, .int .i64 0]), 3, 40) := by kernel_rfl
/-- a store elsewhere leaves what has been gathered -/
theorem Tw.set {α : Type} {k : Nat} {E : Elt α} (hE : Good k E) {e : TypeId} {B : Nat} {wr : World} {v : Value} {ys : List α} (h : Tw k E e B wr v ys) {g j : Nat} (hg : g < B) (u : Value) : Tw k E e B (wr.setCell ⟨g, j, none⟩ u) v ys := by
  obtain ⟨cells, hown, hrw⟩ := h
  refine ⟨cells, ownsRow_far hown (fun e => by have h5 := (hown.lt _ e).1; simp at h5; omega) u, ?_⟩
  refine (hrw.keep hE (Agree.setCell (q := ⟨g, j, none⟩) (fun b hb e => ?_) u)).mono hE (fun b hb => ⟨⟨hb.1.1, hb.1.2.setCell _ _ _⟩, hb.2⟩)
  have := hb.1.1
  have e' : b = g := e
  omega
theorem Tw.below_ {α : Type} {k : Nat} {E : Elt α} (hE : Good k E) {e : TypeId} {B : Nat} {wr w1 : World} {v : Value} {ys : List α} (h : Tw k E e B wr v ys) (hb : Below wr.heap.size wr w1) : Tw k E e B w1 v ys := by
  obtain ⟨cells, hown, hrw⟩ := h
  exact ⟨cells, own_below hown hb, (hrw.keep hE (Agree.of_below hb)).mono hE (fun b hb' => ⟨Fr.below hb b hb'.1, hb'.2⟩)⟩
theorem set7_blk {W : World} {B : Nat} {e : TypeId} {x0 x1 x2 x3 x4 x5 x6 : Value} (h : Blk W B e #[x0, x1, x2, x3, x4, x5, x6]) (a b c d f g i : Value) : Blk (((((((W.setCell ⟨B, 0, none⟩ a).setCell ⟨B, 1, none⟩ b).setCell ⟨B, 2, none⟩ c).setCell ⟨B, 3, none⟩ d).setCell ⟨B, 4, none⟩ f).setCell ⟨B, 5, none⟩ g).setCell ⟨B, 6, none⟩ i) B e #[a, b, c, d, f, g, i] := by
  have h1 := heap_setCell_same _ B 0 _ _ a h
  have h2 := heap_setCell_same _ B 1 _ _ b h1
  have h3 := heap_setCell_same _ B 2 _ _ c h2
  have h4 := heap_setCell_same _ B 3 _ _ d h3
  have h5 := heap_setCell_same _ B 4 _ _ f h4
  have h6 := heap_setCell_same _ B 5 _ _ g h5
  have h7 := heap_setCell_same _ B 6 _ _ i h6
  simpa [Blk] using h7
/-- the anchor in its box -/
def FA (w : World) (G : Array Value) (lab : ByteArray) (k : Nat) (wr : World) : Prop := ∃ A c hs, (Blk wr w.heap.size 54 G ∧ Blk wr (w.heap.size + 1) 25 #[.int .i64 0, .int .i64 0, .int .i64 0, .int .i64 0, .int .i64 0, .string ⟨#[]⟩, .slice none 0 0] ∧ Blk wr (w.heap.size + 1 + 1) 25 #[.int .i64 1, .int .i64 0, .int .i64 0, .int .i64 1, .int .i64 0, .string lab, .slice A k c]) ∧ Tw 3 homeE 62 (w.heap.size + 1 + 1 + 1) wr (.slice A k c) hs ∧ hs.length = k ∧ ∀ h ∈ hs, h.root = 0
/-- the places in their box -/
def FB (wo : World) (n : Int) (k : Nat) (wr : World) : Prop := ∃ A c zs, Blk wr wo.heap.size 62 #[.slice A k c, .int .i64 n, .int .i64 0] ∧ OwnI (wo.heap.size + 1) wr (.slice A k c) zs ∧ zs.length = k
theorem fb_step {wo wi w2 : World} {n : Int} {j c c2 : Nat} {A A2 : Option Addr} {zs : List Int} {y : Int} (hb : Blk wi wo.heap.size 62 #[.slice A j c, .int .i64 n, .int .i64 0]) (ho : OwnI (wo.heap.size + 1) wi (.slice A j c) zs) (hz : zs.length = j)
    (hgrow : (wi.alloc (.cells #[.int .i64 y] 3)).grownBy w2 (Value.slice A j c).ownBlock) (hown2 : w2.ownsRow (wo.heap.size + 1) 3 1 (.slice A2 (j + 1) c2) (j + 1) (zs.map (Value.int .i64) ++ [.int .i64 y])) :
    FB wo n (j + 1) (w2.setCell ⟨wo.heap.size, 0, none⟩ (.slice A2 (j + 1) c2)) := by
  have h3 := (hb.alloc (.cells #[.int .i64 y] 3)).kept hgrow (fun e => by have := (World.ownsRow.lt ho _ e.symm).1; omega)
  refine ⟨A2, c2, zs ++ [y], ?_, ?_, by simp [hz]⟩
  · have := heap_setCell_same _ wo.heap.size 0 _ _ (.slice A2 (j + 1) c2) h3
    simpa [Blk] using this
  · have h4 := ownsRow_far hown2 (p := ⟨wo.heap.size, 0, none⟩) (fun e => by have h5 := (hown2.lt _ e).1; simp at h5; omega) (.slice A2 (j + 1) c2)
    show World.ownsRow _ _ _ _ _ _ _
    rw [List.length_append, List.map_append, hz]
    exact h4
theorem fa_step {w wr w1 w2 : World} {G : Array Value} {lab : ByteArray} {k c c2 n : Nat} {A A2 A3 : Option Addr} {c3 : Nat} {m : Int} {hs : List Hm} {cells : List Value} {zs : List Int} (hg : Blk wr w.heap.size 54 G) (hz : Blk wr (w.heap.size + 1) 25 #[.int .i64 0, .int .i64 0, .int .i64 0, .int .i64 0, .int .i64 0, .string ⟨#[]⟩, .slice none 0 0]) (ht : Blk wr (w.heap.size + 1 + 1) 25 #[.int .i64 1, .int .i64 0, .int .i64 0, .int .i64 1, .int .i64 0, .string lab, .slice A k c])
    (hown : wr.ownsRow (w.heap.size + 1 + 1 + 1) 62 3 (.slice A k c) k cells) (hrw : Rw 3 homeE (fun b => Fr (w.heap.size + 1 + 1 + 1) wr b ∧ (Value.slice A k c).ownBlock ≠ some b) wr cells hs) (hl : hs.length = k) (hroot : ∀ h ∈ hs, h.root = 0)
    (hB : w.heap.size + 1 + 1 + 1 ≤ wr.heap.size) (hb1 : Below wr.heap.size wr w1) (hi : OwnI (wr.heap.size + 1) w1 (.slice A3 n c3) zs) (hgrow : (w1.alloc (.cells #[.slice A3 n c3, .int .i64 m, .int .i64 0] 62)).grownBy w2 (Value.slice A k c).ownBlock)
    (hown2 : w2.ownsRow (w.heap.size + 1 + 1 + 1) 62 3 (.slice A2 (k + 1) c2) (k + 1) (cells ++ [.slice A3 n c3, .int .i64 m, .int .i64 0])) (hat : (Value.slice A2 (k + 1) c2).ownBlock = (Value.slice A k c).ownBlock ∨ (Value.slice A2 (k + 1) c2).ownBlock = some (w1.heap.size + 1)) :
    FA w G lab (k + 1) (w2.setCell ⟨w.heap.size + 1 + 1, 6, none⟩ (.slice A2 (k + 1) c2)) := by
  have hne : ∀ b, b ≤ w.heap.size + 1 + 1 → some b ≠ (Value.slice A k c).ownBlock := fun b hb e => by have := (hown.lt b e.symm).1; omega
  have h1 := ((hg.below_ hb1 hg.lt).alloc (.cells #[.slice A3 n c3, .int .i64 m, .int .i64 0] 62)).kept hgrow (hne _ (by omega))
  have h2 := ((hz.below_ hb1 hz.lt).alloc (.cells #[.slice A3 n c3, .int .i64 m, .int .i64 0] 62)).kept hgrow (hne _ (by omega))
  have h3 := ((ht.below_ hb1 ht.lt).alloc (.cells #[.slice A3 n c3, .int .i64 m, .int .i64 0] 62)).kept hgrow (hne _ (by omega))
  have htw := tw_step (new := [.slice A3 n c3, .int .i64 m, .int .i64 0]) (x := ⟨zs, m, 0⟩) homeE.good (by rw [hl]; exact hown) hrw hB hb1 rfl ⟨⟨_, rfl, hi.ints.mono (intE.good _) (fun b hb => ⟨by have := hb.1; omega, hb.2⟩)⟩, rfl, rfl⟩ (by rw [hl]; exact hown2) hgrow hat
  refine ⟨A2, c2, hs ++ [⟨zs, m, 0⟩], ⟨h1.far (p := ⟨w.heap.size + 1 + 1, 6, none⟩) (by simp; omega) _, h2.far (p := ⟨w.heap.size + 1 + 1, 6, none⟩) (by simp) _, ?_⟩, htw.set homeE.good (by omega) _, by simp [hl], fun h hh => ?_⟩
  · have := heap_setCell_same _ (w.heap.size + 1 + 1) 6 _ _ (.slice A2 (k + 1) c2) h3
    simpa [Blk] using this
  · rw [List.mem_append, List.mem_singleton] at hh
    rcases hh with hh | rfl
    · exact hroot h hh
    · rfl
set_option maxRecDepth 100000 in
set_option maxHeartbeats 1600000 in
theorem First_any (s l a : Int) (Z D : Nat) (hZ : Z < 4) (hD : D < 4) (lab : ByteArray) (w : World) : Calls Try.prog 23 #[.agg #[.int .i64 (1 + (Z : Int)), .int .i64 (1 + (D : Int)), .int .i64 s, .int .i64 l, .int .i64 a], .string lab] w fun e w' => (∃ A c hs, e = .returned (.agg #[.int .i64 1, .int .i64 0, .int .i64 0, .int .i64 1, .int .i64 0, .string lab, .slice A (1 + Z) c]) ∧ 1 + Z ≤ c ∧ c ≤ maxLen ∧ Slc 3 homeE (fun _ => True) w' A (1 + Z) hs ∧ ∀ h ∈ hs, h.root = 0) ∧ Below w.heap.size w w' := by
  obtain ⟨i3, hi3, hz30, hz31, hz32⟩ := info_parts info3
  obtain ⟨i0, hi, hz0, hz1, hz2⟩ := info_parts info62
  have HA1 := Lib.hid (Blk.new w 54 #[.int .i64 (1 + (Z : Int)), .int .i64 (1 + (D : Int)), .int .i64 s, .int .i64 l, .int .i64 a])
  go_enter Try.func23, Try.ntmps23
  go_wp2_with fail
  go_loopw [6] (fun i wr => ∃ k : Nat, k ≤ 1 + Z ∧ i = .int .i64 k ∧ Hid (FA w #[.int .i64 (1 + (Z : Int)), .int .i64 (1 + (D : Int)), .int .i64 s, .int .i64 l, .int .i64 a] lab k wr) ∧ Hid (Below w.heap.size w wr) ∧ Hid (w.heap.size + 1 + 1 + 1 ≤ wr.heap.size)) (fun i _ => 1 + Z - (intOf i).toNat)
  case atStart =>
    refine ⟨0, by omega, rfl, ⟨none, 0, [], ⟨((Blk.new w 54 _).alloc _).alloc _, ?_, ?_⟩, ⟨[], World.ownsRow_nil _ _ _ _, Rw.nil_⟩, rfl, fun h hh => by cases hh⟩, ((((Below.refl _ w).alloc (Nat.le_refl _) _).alloc (by simp) _).alloc (by simp; omega) _), by show _ ≤ _; simp⟩
    · have := (Blk.new (w.alloc (.cells #[.int .i64 (1 + (Z : Int)), .int .i64 (1 + (D : Int)), .int .i64 s, .int .i64 l, .int .i64 a] 54)) 25 #[.int .i64 0, .int .i64 0, .int .i64 0, .int .i64 0, .int .i64 0, .string ⟨#[]⟩, .slice none 0 0]).alloc (.cells #[.int .i64 1, .int .i64 0, .int .i64 0, .int .i64 1, .int .i64 0, .string lab, .slice none 0 0] 25)
      rwa [World.size_alloc] at this
    · have := Blk.new ((w.alloc (.cells #[.int .i64 (1 + (Z : Int)), .int .i64 (1 + (D : Int)), .int .i64 s, .int .i64 l, .int .i64 a] 54)).alloc (.cells #[.int .i64 0, .int .i64 0, .int .i64 0, .int .i64 0, .int .i64 0, .string ⟨#[]⟩, .slice none 0 0] 25)) 25 #[.int .i64 1, .int .i64 0, .int .i64 0, .int .i64 1, .int .i64 0, .string lab, .slice none 0 0]
      simp only [World.size_alloc] at this
      exact this
  case round =>
    obtain ⟨k, hk, rfl, hF, hB, hSZ⟩ := hrel
    obtain ⟨A, c, hs, ⟨hg, hz, ht⟩, ⟨cells, hown, hrw⟩, hl, hroot⟩ := hF.out
    rw [hl] at hown
    have g0 : wr.cell? ⟨w.heap.size, 0, none⟩ = some (.int .i64 (1 + (Z : Int))) := hg.cell 0
    have g1 : wr.cell? ⟨w.heap.size, 1, none⟩ = some (.int .i64 (1 + (D : Int))) := hg.cell 1
    have gl : w.heap.size < wr.heap.size := hg.lt
    have HG := Lib.hid hg
    have HZ := Lib.hid hz
    have HT := Lib.hid ht
    have HOWN := Lib.hid hown
    have HRW := Lib.hid hrw
    have HL := Lib.hid hl
    have HRT := Lib.hid hroot
    clear hF hg hz ht hown hrw hl hroot
    by_cases hlt : k < 1 + Z
    · have i1 : (k : Int) < 1 + (Z : Int) := by omega
      obtain ⟨wo, rfl⟩ : ∃ wo, wo = wr := ⟨_, rfl⟩
      go_wp2_with fail
      go_loopw [8] (fun i wi => ∃ j : Nat, j ≤ 2 + D ∧ i = .int .i64 j ∧ Hid (FB wo (1 + (D : Int) + 1) j wi) ∧ Hid (Below wo.heap.size wo wi)) (fun i _ => 2 + D - (intOf i).toNat)
      case atStart => exact ⟨0, by omega, rfl, ⟨none, 0, [], Blk.new wo 62 _, World.ownsRow_nil _ _ _ _, rfl⟩, (Below.refl _ _).alloc (Nat.le_refl _) _⟩
      case round =>
        obtain ⟨j, hj, rfl, hFB, hBi⟩ := hrel
        obtain ⟨A3, c3, zs, hb7, ho7, hl7⟩ := hFB.out
        have g1i : wr.cell? ⟨w.heap.size, 1, none⟩ = some (.int .i64 (1 + (D : Int))) := (hBi.out.cell (p := ⟨w.heap.size, 1, none⟩) gl).trans g1
        have p0 : wr.cell? ⟨wo.heap.size, 0, none⟩ = some (.slice A3 j c3) := hb7.cell 0
        have H7 : Hid (wr.ownsRow (wo.heap.size + 1) 3 1 (.slice A3 j c3) j (zs.map (Value.int .i64))) := by
          have := ho7
          unfold OwnI at this
          rw [hl7] at this
          exact this
        have HB7 := Lib.hid hb7
        have HO7 := Lib.hid ho7
        have HL7 := Lib.hid hl7
        clear hFB hb7 ho7 hl7
        by_cases hlt2 : j < 2 + D
        · have i2 : (j : Int) ≤ 1 + (D : Int) := by omega
          go_wp2_with (at_builtin; (refine wpList_append_any _ rfl (.tmp 28) (.tmp 30) 42 rfl (wo.heap.size + 1) 3 i3 (.int .i64 0) 1 8 Try.underlying42 hi3 hz30 hz31 hz32 rfl (by decide) (.slice A3 j c3) j (zs.map (Value.int .i64)) rfl (World.ownsRow.alloc H7.out (.cells #[.int .i64 (j : Int)] 3)) (wr.heap.size + 1) (some ⟨wr.heap.size, 0, none⟩) 1 1 [.int .i64 (j : Int)] rfl ⟨rfl, fun _ => ⟨_, rfl, by simp, news_one _ _ _⟩⟩ (by simp [Value.oneCell']) (by unfold maxLen; omega) (by omega) (by have := HB7.out.lt; simp; omega) ?_); intro v2 w2 hown2 hgrow hat; obtain ⟨A2, c2, rfl⟩ := own_form hown2; have HFB := Lib.hid (fb_step HB7.out HO7.out HL7.out hgrow hown2); have ht2 := (HB7.out.alloc (.cells #[.int .i64 (j : Int)] 3)).kept hgrow (fun e => by have := (World.ownsRow.lt H7.out _ e.symm).1; omega); have t02 : w2.cell? ⟨wo.heap.size, 0, none⟩ = some (.slice A3 j c3) := ht2.cell 0; have tf2 : w2.frozen? ⟨wo.heap.size, 0, none⟩ = false := frozen_of_row _ _ _ _ _ ht2; have HB2 : Hid (Below wo.heap.size wo w2) := (hBi.out.alloc hBi.out.size _).grown hgrow (by have h1 := hBi.out.size; simp; omega) (fun g hg => by have := (World.ownsRow.lt H7.out g hg).1; omega); clear ht2 hown2 hgrow hat)
          go_roundw
          case rel => exact ⟨j + 1, by omega, by go_num, HFB, HB2.out.setCell (by simp) _⟩
          case measure => simp [intOf]; omega
        · obtain rfl : j = 2 + D := by omega
          have i2 : ¬ (((2 + D : Nat) : Int) ≤ 1 + (D : Int)) := by omega
          have p1 : wr.cell? ⟨wo.heap.size, 1, none⟩ = some (.int .i64 (1 + (D : Int) + 1)) := HB7.out.cell 1
          have p2 : wr.cell? ⟨wo.heap.size, 2, none⟩ = some (.int .i64 0) := HB7.out.cell 2
          have t6 : wr.cell? ⟨w.heap.size + 1 + 1, 6, none⟩ = some (.slice A k c) := (hBi.out.cell (p := ⟨w.heap.size + 1 + 1, 6, none⟩) HT.out.lt).trans (HT.out.cell 6)
          go_wp2_with (at_builtin; ((refine wpList_append_any _ rfl (.tmp 34) (.tmp 36) 23 rfl (w.heap.size + 1 + 1 + 1) 62 i0 _ 3 40 Try.underlying23 hi hz0 hz1 hz2 rfl (by decide) (.slice A k c) k cells rfl ((own_below HOWN.out hBi.out).alloc (.cells #[.slice A3 (2 + D) c3, .int .i64 (1 + (D : Int) + 1), .int .i64 0] 62)) (wr.heap.size + 1) (some ⟨wr.heap.size, 0, none⟩) 1 1 [.slice A3 (2 + D) c3, .int .i64 (1 + (D : Int) + 1), .int .i64 0] rfl ⟨rfl, fun _ => ⟨_, rfl, Nat.lt_succ_self _, World.news_of_block (cs := #[.slice A3 (2 + D) c3, .int .i64 (1 + (D : Int) + 1), .int .i64 0]) (t := 62) (fr := (0, 0)) (heap_alloc_new wr _)⟩⟩ (by intro u hu; simp at hu; rcases hu with rfl | rfl | rfl <;> rfl) (by unfold maxLen; omega) (by omega) (Nat.le_trans hSZ.out (Nat.le_trans hBi.out.size (by simp))) ?_); intro v2 w2 hown2 hgrow hat; obtain ⟨A2, c2, rfl⟩ := own_form hown2; have HFA := Lib.hid (fa_step (lab := lab) HG.out HZ.out HT.out HOWN.out HRW.out HL.out HRT.out hSZ.out hBi.out HO7.out hgrow hown2 (by simpa using hat)); have ht2 := ((HT.out.below_ hBi.out HT.out.lt).alloc (.cells #[.slice A3 (2 + D) c3, .int .i64 (1 + (D : Int) + 1), .int .i64 0] 62)).kept hgrow (fun e => by have := (HOWN.out.lt _ e.symm).1; omega); have t02 : w2.cell? ⟨w.heap.size + 1 + 1, 6, none⟩ = some (.slice A k c) := ht2.cell 6; have tf2 : w2.frozen? ⟨w.heap.size + 1 + 1, 6, none⟩ = false := frozen_of_row _ _ _ _ _ ht2; have HB2 : Hid (Below w.heap.size w w2) := ((hB.out.trans (hBi.out.mono hB.out.size)).alloc (Nat.le_trans hB.out.size hBi.out.size) _).grown hgrow (Nat.le_trans hB.out.size (Nat.le_trans hBi.out.size (by simp))) (fun g hg => by have := (HOWN.out.lt g hg).1; omega); have HSZ2 : Hid (w.heap.size + 1 + 1 + 1 ≤ w2.heap.size) := Nat.le_trans hSZ.out (Nat.le_trans hBi.out.size (Nat.le_trans (by simp) hgrow.size)); clear ht2 hown2 hgrow hat))
          go_roundw
          case rel => exact ⟨k + 1, by omega, by go_num, HFA, HB2.out.setCell (by simp; omega) _, by show _ ≤ _; simp; exact HSZ2.out⟩
          case measure => simp [intOf]; omega
    · obtain rfl : k = 1 + Z := by omega
      have i1 : ¬ (((1 + Z : Nat) : Int) < 1 + (Z : Int)) := by omega
      have t0 : wr.cell? ⟨w.heap.size + 1 + 1, 0, none⟩ = some (.int .i64 1) := HT.out.cell 0
      have q0 : wr.cell? ⟨w.heap.size + 1, 0, none⟩ = some (.int .i64 0) := HZ.out.cell 0
      have qf0 : wr.frozen? ⟨w.heap.size + 1, 0, none⟩ = false := frozen_of_row _ _ _ _ _ HZ.out
      have t1 : wr.cell? ⟨w.heap.size + 1 + 1, 1, none⟩ = some (.int .i64 0) := HT.out.cell 1
      have q1 : wr.cell? ⟨w.heap.size + 1, 1, none⟩ = some (.int .i64 0) := HZ.out.cell 1
      have qf1 : wr.frozen? ⟨w.heap.size + 1, 1, none⟩ = false := frozen_of_row _ _ _ _ _ HZ.out
      have t2 : wr.cell? ⟨w.heap.size + 1 + 1, 2, none⟩ = some (.int .i64 0) := HT.out.cell 2
      have q2 : wr.cell? ⟨w.heap.size + 1, 2, none⟩ = some (.int .i64 0) := HZ.out.cell 2
      have qf2 : wr.frozen? ⟨w.heap.size + 1, 2, none⟩ = false := frozen_of_row _ _ _ _ _ HZ.out
      have t3 : wr.cell? ⟨w.heap.size + 1 + 1, 3, none⟩ = some (.int .i64 1) := HT.out.cell 3
      have q3 : wr.cell? ⟨w.heap.size + 1, 3, none⟩ = some (.int .i64 0) := HZ.out.cell 3
      have qf3 : wr.frozen? ⟨w.heap.size + 1, 3, none⟩ = false := frozen_of_row _ _ _ _ _ HZ.out
      have t4 : wr.cell? ⟨w.heap.size + 1 + 1, 4, none⟩ = some (.int .i64 0) := HT.out.cell 4
      have q4 : wr.cell? ⟨w.heap.size + 1, 4, none⟩ = some (.int .i64 0) := HZ.out.cell 4
      have qf4 : wr.frozen? ⟨w.heap.size + 1, 4, none⟩ = false := frozen_of_row _ _ _ _ _ HZ.out
      have t5 : wr.cell? ⟨w.heap.size + 1 + 1, 5, none⟩ = some (.string lab) := HT.out.cell 5
      have q5 : wr.cell? ⟨w.heap.size + 1, 5, none⟩ = some (.string ⟨#[]⟩) := HZ.out.cell 5
      have qf5 : wr.frozen? ⟨w.heap.size + 1, 5, none⟩ = false := frozen_of_row _ _ _ _ _ HZ.out
      have t6 : wr.cell? ⟨w.heap.size + 1 + 1, 6, none⟩ = some (.slice A (1 + Z) c) := HT.out.cell 6
      have q6 : wr.cell? ⟨w.heap.size + 1, 6, none⟩ = some (.slice none 0 0) := HZ.out.cell 6
      have qf6 : wr.frozen? ⟨w.heap.size + 1, 6, none⟩ = false := frozen_of_row _ _ _ _ _ HZ.out
      go_wp2_with fail
      have HOWNL : Hid (wr.ownsRow (w.heap.size + 1 + 1 + 1) 62 3 (.slice A (1 + Z) c) hs.length cells) := by rw [HL.out]; exact HOWN.out
      have hx7 := set7_blk HZ.out (.int .i64 1) (.int .i64 0) (.int .i64 0) (.int .i64 1) (.int .i64 0) (.string lab) (.slice A (1 + Z) c)
      have r0 := hx7.cell 0
      have r1 := hx7.cell 1
      have r2 := hx7.cell 2
      have r3 := hx7.cell 3
      have r4 := hx7.cell 4
      have r5 := hx7.cell 5
      have r6 := hx7.cell 6
      have htw0 : Tw 3 homeE 62 (w.heap.size + 1 + 1 + 1) wr (.slice A (1 + Z) c) hs := ⟨cells, HOWNL.out, HRW.out⟩
      have htw := (((((((htw0.set homeE.good (g := w.heap.size + 1) (j := 0) (by omega) (.int .i64 1)).set homeE.good (g := w.heap.size + 1) (j := 1) (by omega) (.int .i64 0)).set homeE.good (g := w.heap.size + 1) (j := 2) (by omega) (.int .i64 0)).set homeE.good (g := w.heap.size + 1) (j := 3) (by omega) (.int .i64 1)).set homeE.good (g := w.heap.size + 1) (j := 4) (by omega) (.int .i64 0)).set homeE.good (g := w.heap.size + 1) (j := 5) (by omega) (.string lab)).set homeE.good (g := w.heap.size + 1) (j := 6) (by omega) (.slice A (1 + Z) c))
      obtain ⟨h1, h2, h3⟩ := slcV_is (htw.out homeE.good)
      refine bodyPost_ret (v := .agg #[.int .i64 1, .int .i64 0, .int .i64 0, .int .i64 1, .int .i64 0, .string lab, .slice A (1 + Z) c]) (by simp at r0 r1 r2 r3 r4 r5 r6; simp [results, Try.results23, go_sem, r0, r1, r2, r3, r4, r5, r6]) rfl ⟨⟨A, c, rfl, h1, h2, hs, h3.mono homeE.good (fun _ _ => trivial), HRT.out⟩, (((((((hB.out.setCell (p := ⟨w.heap.size + 1, 0, none⟩) (Nat.le_succ _) (.int .i64 1)).setCell (p := ⟨w.heap.size + 1, 1, none⟩) (Nat.le_succ _) (.int .i64 0)).setCell (p := ⟨w.heap.size + 1, 2, none⟩) (Nat.le_succ _) (.int .i64 0)).setCell (p := ⟨w.heap.size + 1, 3, none⟩) (Nat.le_succ _) (.int .i64 1)).setCell (p := ⟨w.heap.size + 1, 4, none⟩) (Nat.le_succ _) (.int .i64 0)).setCell (p := ⟨w.heap.size + 1, 5, none⟩) (Nat.le_succ _) (.string lab)).setCell (p := ⟨w.heap.size + 1, 6, none⟩) (Nat.le_succ _) (.slice A (1 + Z) c))⟩
end Go.Proofs.Ytedgalbhjfmafaa

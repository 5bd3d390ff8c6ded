/-
  wakes: the page's example.
-/
import Derived.Test.YtedgalbhjfmafaaDrop
import Derived.Test.YtedgalbhjfmafaaFind2
namespace Go.Proofs.Ytedgalbhjfmafaa
open Go.ChangeShapes Go.WideShapes Go.ChangeAt Go.RowKit
set_option linter.unusedVariables false
theorem Slc.of_blk {α : Type} {k : Nat} {E : Elt α} (hE : Good k E) {p : Nat → Prop} {W : World} {B : Nat} {e : TypeId} {cs : Array Value} {xs : List α} {n : Nat} (h : Blk W B e cs) (hr : Rw k E p W cs.toList xs) (hn : xs.length = n) (hp : p B) : Slc k E p W (some ⟨B, 0, none⟩) n xs := by
  have hc : ∀ i, W.cell? ⟨B, 0 + i, none⟩ = cs.toList[i]? := fun i => by rw [Nat.zero_add, h.cell, Array.getElem?_toList]
  refine ⟨hn, fun _ => ⟨B, 0, rfl, hp, fun i hi => ?_, fun j x hj => hE.here (fun i _ => (hc _).symm) (hr.2 j x hj)⟩⟩
  rw [hc, List.getElem?_eq_getElem (by rw [hr.1, hn]; exact hi)]
  simp
def litL : List Txn := [⟨4, 0, 0, [⟨0, 1, [1]⟩, ⟨0, 255, []⟩]⟩, ⟨5, 0, 0, [⟨0, 1, [2]⟩]⟩]
/-- the example's log, as it lies in five blocks -/
def LitW (s0 s1 s2 s3 s4 : Nat) (W : World) : Prop := (((Blk W s0 5 #[.int .u8 1] ∧ Blk W s1 49 #[.int .i64 0, .int .i64 1, .slice (some ⟨s0, 0, none⟩) 1 1, .int .i64 0, .int .i64 255, .slice none 0 0]) ∧ Blk W s2 5 #[.int .u8 2]) ∧ Blk W s3 49 #[.int .i64 0, .int .i64 1, .slice (some ⟨s2, 0, none⟩) 1 1]) ∧
  Blk W s4 37 #[.int .i64 4, .int .i64 0, .int .i64 0, .slice (some ⟨s1, 0, none⟩) 2 2, .int .i64 5, .int .i64 0, .int .i64 0, .slice (some ⟨s3, 0, none⟩) 1 1]
theorem one_max : 1 ≤ maxLen := by unfold maxLen; omega
theorem litW_slc {s0 s1 s2 s3 s4 : Nat} {W : World} (h : LitW s0 s1 s2 s3 s4 W) : Slc 4 txnE (fun _ => True) W (some ⟨s4, 0, none⟩) 2 litL := by
  obtain ⟨⟨⟨⟨h0, h1⟩, h2⟩, h3⟩, h4⟩ := h
  have b0 : Slc 1 (intE .u8) (fun _ => True) W (some ⟨s0, 0, none⟩) 1 [1] := Slc.of_blk (intE.good _) h0 (Rw.of_ints [1]) rfl trivial
  have b2 : Slc 1 (intE .u8) (fun _ => True) W (some ⟨s2, 0, none⟩) 1 [2] := Slc.of_blk (intE.good _) h2 (Rw.of_ints [2]) rfl trivial
  have hm := one_max
  have i1 : Slc 3 imgE (fun _ => True) W (some ⟨s1, 0, none⟩) 2 [⟨0, 1, [1]⟩, ⟨0, 255, []⟩] := by
    refine Slc.of_blk imgE.good h1 ⟨rfl, fun j x hj => ?_⟩ rfl trivial
    match j, hj with
    | 0, hj => simp at hj; subst hj; exact ⟨rfl, rfl, _, rfl, _, _, _, rfl, Nat.le_refl _, hm, b0⟩
    | 1, hj => simp at hj; subst hj; exact ⟨rfl, rfl, _, rfl, SlcV.nil_⟩
  have i3 : Slc 3 imgE (fun _ => True) W (some ⟨s3, 0, none⟩) 1 [⟨0, 1, [2]⟩] := by
    refine Slc.of_blk imgE.good h3 ⟨rfl, fun j x hj => ?_⟩ rfl trivial
    match j, hj with
    | 0, hj => simp at hj; subst hj; exact ⟨rfl, rfl, _, rfl, _, _, _, rfl, Nat.le_refl _, hm, b2⟩
  refine Slc.of_blk txnE.good h4 ⟨rfl, fun j x hj => ?_⟩ rfl trivial
  match j, hj with
  | 0, hj => simp [litL] at hj; subst hj; exact ⟨rfl, rfl, rfl, _, rfl, _, _, _, rfl, Nat.le_refl _, by unfold maxLen; omega, i1⟩
  | 1, hj => simp [litL] at hj; subst hj; exact ⟨rfl, rfl, rfl, _, rfl, _, _, _, rfl, Nat.le_refl _, hm, i3⟩
theorem lit_last : lastT 0 1 litL = some (⟨5, 0, 0, [⟨0, 1, [2]⟩]⟩, ⟨0, 1, [2]⟩) := by rfl
theorem lit_root (hs : List Hm) (h : 0 < hs.length) : rootOf hs litL 0 = (4, 0) := by
  rw [rootOf, if_pos (by omega)]
  rfl
theorem lit_zones : (zonesOf litL).length = 1 := by
  have : zonesT litL = [0, 0, 0] := rfl
  unfold zonesOf
  rw [this]
  have : srt [0, 0, 0] = [0, 0, 0] := List.mergeSort_of_pairwise (by decide)
  rw [this]
  rfl
theorem lit_small : ∀ x ∈ litL, x.images.length ≤ 1000 ∧ ∀ y ∈ x.images, y.bytes.length ≤ 1000 := by
  intro x hx
  simp [litL] at hx
  rcases hx with rfl | rfl <;> simp
theorem lit_world (w : World) : LitW w.heap.size (w.heap.size + 1) (w.heap.size + 1 + 1) (w.heap.size + 1 + 1 + 1) (w.heap.size + 1 + 1 + 1 + 1) (((((w.alloc (.cells #[.int .u8 1] 5)).alloc (.cells #[.int .i64 0, .int .i64 1, .slice (some ⟨w.heap.size, 0, none⟩) 1 1, .int .i64 0, .int .i64 255, .slice none 0 0] 49)).alloc (.cells #[.int .u8 2] 5)).alloc (.cells #[.int .i64 0, .int .i64 1, .slice (some ⟨w.heap.size + 1 + 1, 0, none⟩) 1 1] 49)).alloc (.cells #[.int .i64 4, .int .i64 0, .int .i64 0, .slice (some ⟨w.heap.size + 1, 0, none⟩) 2 2, .int .i64 5, .int .i64 0, .int .i64 0, .slice (some ⟨w.heap.size + 1 + 1 + 1, 0, none⟩) 1 1] 37)) := by
  refine ⟨⟨⟨⟨((((Blk.new w 5 _).alloc _).alloc _).alloc _).alloc _, ?_⟩, ?_⟩, ?_⟩, ?_⟩
  · have := (((Blk.new (w.alloc (.cells #[.int .u8 1] 5)) 49 #[.int .i64 0, .int .i64 1, .slice (some ⟨w.heap.size, 0, none⟩) 1 1, .int .i64 0, .int .i64 255, .slice none 0 0]).alloc (.cells #[.int .u8 2] 5)).alloc (.cells #[.int .i64 0, .int .i64 1, .slice (some ⟨w.heap.size + 1 + 1, 0, none⟩) 1 1] 49)).alloc (.cells #[.int .i64 4, .int .i64 0, .int .i64 0, .slice (some ⟨w.heap.size + 1, 0, none⟩) 2 2, .int .i64 5, .int .i64 0, .int .i64 0, .slice (some ⟨w.heap.size + 1 + 1 + 1, 0, none⟩) 1 1] 37)
    rwa [World.size_alloc] at this
  · have := ((Blk.new ((w.alloc (.cells #[.int .u8 1] 5)).alloc (.cells #[.int .i64 0, .int .i64 1, .slice (some ⟨w.heap.size, 0, none⟩) 1 1, .int .i64 0, .int .i64 255, .slice none 0 0] 49)) 5 #[.int .u8 2]).alloc (.cells #[.int .i64 0, .int .i64 1, .slice (some ⟨w.heap.size + 1 + 1, 0, none⟩) 1 1] 49)).alloc (.cells #[.int .i64 4, .int .i64 0, .int .i64 0, .slice (some ⟨w.heap.size + 1, 0, none⟩) 2 2, .int .i64 5, .int .i64 0, .int .i64 0, .slice (some ⟨w.heap.size + 1 + 1 + 1, 0, none⟩) 1 1] 37)
    simp only [World.size_alloc] at this
    exact this
  · have := (Blk.new (((w.alloc (.cells #[.int .u8 1] 5)).alloc (.cells #[.int .i64 0, .int .i64 1, .slice (some ⟨w.heap.size, 0, none⟩) 1 1, .int .i64 0, .int .i64 255, .slice none 0 0] 49)).alloc (.cells #[.int .u8 2] 5)) 49 #[.int .i64 0, .int .i64 1, .slice (some ⟨w.heap.size + 1 + 1, 0, none⟩) 1 1]).alloc (.cells #[.int .i64 4, .int .i64 0, .int .i64 0, .slice (some ⟨w.heap.size + 1, 0, none⟩) 2 2, .int .i64 5, .int .i64 0, .int .i64 0, .slice (some ⟨w.heap.size + 1 + 1 + 1, 0, none⟩) 1 1] 37)
    simp only [World.size_alloc] at this
    exact this
  · have := Blk.new ((((w.alloc (.cells #[.int .u8 1] 5)).alloc (.cells #[.int .i64 0, .int .i64 1, .slice (some ⟨w.heap.size, 0, none⟩) 1 1, .int .i64 0, .int .i64 255, .slice none 0 0] 49)).alloc (.cells #[.int .u8 2] 5)).alloc (.cells #[.int .i64 0, .int .i64 1, .slice (some ⟨w.heap.size + 1 + 1, 0, none⟩) 1 1] 49)) 37 #[.int .i64 4, .int .i64 0, .int .i64 0, .slice (some ⟨w.heap.size + 1, 0, none⟩) 2 2, .int .i64 5, .int .i64 0, .int .i64 0, .slice (some ⟨w.heap.size + 1 + 1 + 1, 0, none⟩) 1 1]
    simp only [World.size_alloc] at this
    exact this
theorem rw_home (p : Nat → Prop) (W : World) : Rw 3 homeE p W [.slice none 0 0, .int .i64 0, .int .i64 9] [⟨[], 0, 9⟩] := by
  refine ⟨rfl, fun j x hj => ?_⟩
  match j, hj with
  | 0, hj => simp at hj; subst hj; exact ⟨⟨_, rfl, SlcV.nil_⟩, rfl, rfl⟩
set_option maxRecDepth 100000 in
set_option maxHeartbeats 1600000 in
theorem wakes_any (w : World) : Calls Try.prog 19 #[] w (Says true w) := by
  have HSL := Lib.hid (litW_slc (lit_world w))
  have HB5 : Hid (Below w.heap.size w (((((w.alloc (.cells #[.int .u8 1] 5)).alloc (.cells #[.int .i64 0, .int .i64 1, .slice (some ⟨w.heap.size, 0, none⟩) 1 1, .int .i64 0, .int .i64 255, .slice none 0 0] 49)).alloc (.cells #[.int .u8 2] 5)).alloc (.cells #[.int .i64 0, .int .i64 1, .slice (some ⟨w.heap.size + 1 + 1, 0, none⟩) 1 1] 49)).alloc (.cells #[.int .i64 4, .int .i64 0, .int .i64 0, .slice (some ⟨w.heap.size + 1, 0, none⟩) 2 2, .int .i64 5, .int .i64 0, .int .i64 0, .slice (some ⟨w.heap.size + 1 + 1 + 1, 0, none⟩) 1 1] 37))) := (((((Below.refl _ w).alloc (Nat.le_refl _) _).alloc (by simp) _).alloc (by simp; omega) _).alloc (by simp; omega) _).alloc (by simp; omega) _
  go_enter Try.func19, Try.ntmps19
  go_wp2_with fail
  refine (Find_any _ _ _ _ _ _ _ _ HSL.out (by decide) (fun x hx => by have := lit_small x hx; exact ⟨by omega, fun y hy => by have := this.2 y hy; omega⟩)).mono ?_
  rintro e w1 ⟨hf, hb1⟩
  rw [lit_last] at hf
  obtain ⟨t, x, v, hl, rfl, hbv⟩ := hf.resolve_right (fun h => by cases h.1)
  injection hl with hl
  injection hl with h1 h2
  subst h1 h2
  obtain ⟨A6, n6, c6, rfl, u1, u2, hs6⟩ := hbv
  have hn6 : 1 = n6 := hs6.1
  subst hn6
  obtain ⟨b6, o6, hA6, hc6⟩ := ints_at hs6 (j := 0) (x := 2) rfl
  rw [Nat.add_zero] at hc6
  subst hA6
  have hb6 : b6 < w1.heap.size := World.block_lt_of_cell? _ _ hc6
  have HS1 : Hid (Slc 4 txnE (fun _ => True) w1 _ 2 litL) := HSL.out.keep txnE.good (by decide) (Agree.of_below hb1)
  have HB1 : Hid (Below w.heap.size w w1) := HB5.out.trans (hb1.mono HB5.out.size)
  have HC6 := Lib.hid hc6
  clear hb1 hs6 hc6 HSL HB5
  go_wp2_with fail
  have hw2 : Below w1.heap.size w1 (w1.alloc (.cells #[.slice none 0 0, .int .i64 0, .int .i64 9] 62)) := (Below.refl _ _).alloc (Nat.le_refl _) _
  have HW2 := Lib.hid hw2
  clear hw2
  refine (Root_any _ _ _ _ _ _ _ _ _ [⟨[], 0, 9⟩] _ _ _ litL _ (fun _ => True) (fun _ => True) _ (Slc.of_blk homeE.good (Blk.new w1 62 #[.slice none 0 0, .int .i64 0, .int .i64 9]) (rw_home _ _) rfl trivial) one_max (HS1.out.keep txnE.good (by decide) (Agree.of_below HW2.out)) (by decide) (fun x hx => by have := lit_small x hx; omega)).mono ?_
  rintro e w2 ⟨he, hb2⟩
  rw [lit_root _ (by decide)] at he
  subst he
  have HB2' : Hid (Below w1.heap.size w1 w2) := HW2.out.trans (hb2.mono HW2.out.size)
  have HS2 : Hid (Slc 4 txnE (fun _ => True) w2 _ 2 litL) := HS1.out.keep txnE.good (by decide) (Agree.of_below HB2'.out)
  have HB2 : Hid (Below w.heap.size w w2) := HB1.out.trans (HB2'.out.mono HB1.out.size)
  have HC6b : Hid (w2.cell? ⟨b6, o6, none⟩ = some (.int .u8 2)) := (HB2'.out.cell (p := ⟨b6, o6, none⟩) hb6).trans HC6.out
  have HL6 : Hid (b6 < w2.heap.size) := Nat.lt_of_lt_of_le hb6 HB2'.out.size
  clear hb2 HS1 HC6 hb6
  go_wp2_with fail
  refine (Drop_any _ _ _ litL (fun _ => True) _ HS2.out (by decide) lit_small).mono ?_
  rintro e w3 ⟨hd, hb3⟩
  obtain ⟨t, ts, iv, yv, hxs, rfl, ⟨A8, n8, c8, rfl, _⟩, hy⟩ := hd.resolve_left (fun h => by cases h.1)
  injection hxs with h1 h2
  subst h1 h2
  obtain ⟨A7, n7, c7, rfl, _, _, hs7⟩ := hy
  have hn7 : 1 = n7 := hs7.1
  subst hn7
  have HB3 : Hid (Below w.heap.size w w3) := HB2.out.trans (hb3.mono HB2.out.size)
  have HS3 : Hid (Slc 4 txnE (fun _ => True) (w3.alloc (.cells #[.int .i64 4, .int .i64 0, .int .i64 0, .slice A8 n8 c8] 37)) _ 2 litL) := HS2.out.keep txnE.good (by decide) ((Agree.of_below hb3).trans (Agree.of_below ((Below.refl _ _).alloc (Nat.le_refl _) _)))
  have hc6 : w3.cell? ⟨b6, o6, none⟩ = some (.int .u8 2) := (hb3.cell (p := ⟨b6, o6, none⟩) HL6.out).trans HC6b.out
  have hl6 : b6 < w3.heap.size := Nat.lt_of_lt_of_le HL6.out hb3.size
  have hc6' : (w3.alloc (.cells #[.int .i64 4, .int .i64 0, .int .i64 0, .slice A8 n8 c8] 37)).cell? ⟨b6, o6, none⟩ = some (.int .u8 2) := (World.cell?_alloc_lt _ _ _ hl6).trans hc6
  clear hb3 hs7 HS2 HC6b HL6
  have HB4 : Hid (Below w.heap.size w (w3.alloc (.cells #[.int .i64 4, .int .i64 0, .int .i64 0, .slice A8 n8 c8] 37))) := HB3.out.alloc HB3.out.size _
  go_wp2_with fail
  refine (Zones_any _ _ _ litL (fun _ => True) _ HS3.out (by decide) (fun x hx => (lit_small x hx).1)).mono ?_
  rintro e w4 ⟨v, rfl, ho, hb4⟩
  obtain ⟨A9, c9, rfl⟩ := own_form ho
  have HB5 : Hid (Below w.heap.size w w4) := HB4.out.trans (hb4.mono HB4.out.size)
  rw [lit_zones]
  clear ho hb4
  go_wp2_with fail
  go_ret
  exact ⟨rfl, HB5.out⟩
end Go.Proofs.Ytedgalbhjfmafaa

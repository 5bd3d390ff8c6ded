/-
  FirstTable, TableBytes: their shapes.
-/
import Derived.Test.YtedgalbhjfmafaaLow
import Derived.Deep.RegionLaw
import Derived.Deep.AppendLies
namespace Go.Proofs.Ytedgalbhjfmafaa
open Go.ChangeShapes Go.WideShapes Go.ChangeAt Go.RowKit
set_option linter.unusedVariables false
/-- an entry: two numbers and a bool -/
def entE : Elt Unit := fun _ _ f _ => (∃ a, f 0 = some (.int .i64 a)) ∧ (∃ b, f 1 = some (.int .i64 b)) ∧ ∃ c, f 2 = some (.bool c)
theorem entE.good : Good 3 entE where
  keep := fun _ h => h
  here := fun hf ⟨⟨a, h0⟩, ⟨b, h1⟩, c, h2⟩ => ⟨⟨a, (hf 0 (by decide)).symm.trans h0⟩, ⟨b, (hf 1 (by decide)).symm.trans h1⟩, c, (hf 2 (by decide)).symm.trans h2⟩
  mono := fun _ h => h
  lt := fun h => h
theorem info86 : (Try.prog.info? 86).map (fun i => (i.zero, i.size, i.bytes)) = some (some (.agg #[.int .i64 0, .int .i64 0, .bool false]), 3, 24) := by kernel_rfl
theorem ownsRow_far {w : World} {B n k : Nat} {e : TypeId} {v : Value} {xs : List Value} (h : w.ownsRow B e k v n xs) {p : Addr} (hp : v.ownBlock ≠ some p.block) (u : Value) : (w.setCell p u).ownsRow B e k v n xs := by
  refine ⟨h.1, ?_⟩
  rcases h.2 with h0 | ⟨g, cap, cur, rfl, e2, e3, e4⟩
  · exact .inl h0
  · refine .inr ⟨g, cap, cur, rfl, e2, (heap_setCell_other w p g u (fun e => hp (by rw [← e]; rfl))).trans e3, e4⟩
theorem make8 (u : World) : (Instr.makeSlice 29 (.int .i64 8) (.int .i64 8)).run Try.prog u = .ok (.slice (some ⟨u.heap.size, 0, none⟩) 8 8) (u.alloc (.cells #[.int .u8 0, .int .u8 0, .int .u8 0, .int .u8 0, .int .u8 0, .int .u8 0, .int .u8 0, .int .u8 0] 5)) := by
  obtain ⟨i0, hi, hz0, hz1, hz2⟩ := info_parts info5
  have := Go.run_make (P := Try.prog) u 29 5 i0 (.int .u8 0) Try.underlying29 hi hz0 .i64 .i64 8 8 (by omega) (by omega) (by rw [hz2]; decide) (by omega)
  rw [this, hz1]
  have hm : madeCells (Value.int IntKind.u8 0).cells (Int.toNat 8 * 1) = #[.int .u8 0, .int .u8 0, .int .u8 0, .int .u8 0, .int .u8 0, .int .u8 0, .int .u8 0, .int .u8 0] := by kernel_rfl
  rw [hm]
  rfl
/-- the table in its box -/
def FT (w : World) (G : Array Value) (k : Nat) (wr : World) : Prop := ∃ A c cells, (Blk wr w.heap.size 54 G ∧ Blk wr (w.heap.size + 1) 74 #[.slice none 0 0] ∧ Blk wr (w.heap.size + 1 + 1) 74 #[.slice A k c]) ∧ wr.ownsRow (w.heap.size + 1 + 1 + 1) 86 3 (.slice A k c) k cells ∧ Rw 3 entE (fun _ => True) wr cells (List.replicate k ())
theorem ft_step {w wr w1 w2 : World} {G : Array Value} {k c c2 : Nat} {A A2 : Option Addr} {cells : List Value} {y : Int} {o : Obj} (hg : Blk wr w.heap.size 54 G) (hr : Blk wr (w.heap.size + 1) 74 #[.slice none 0 0]) (ht : Blk wr (w.heap.size + 1 + 1) 74 #[.slice A k c])
    (hown : wr.ownsRow (w.heap.size + 1 + 1 + 1) 86 3 (.slice A k c) k cells) (hrw : Rw 3 entE (fun _ => True) wr cells (List.replicate k ())) (hbw : Below wr.heap.size wr w1) (hgrow : (w1.alloc o).grownBy w2 (Value.slice A k c).ownBlock)
    (hown2 : w2.ownsRow (w.heap.size + 1 + 1 + 1) 86 3 (.slice A2 (k + 1) c2) (k + 1) (cells ++ [.int .i64 0, .int .i64 y, .bool false])) : FT w G (k + 1) (w2.setCell ⟨w.heap.size + 1 + 1, 0, none⟩ (.slice A2 (k + 1) c2)) := by
  have hne : ∀ b, b ≤ w.heap.size + 1 + 1 → some b ≠ (Value.slice A k c).ownBlock := fun b hb e => by have := (hown.lt b e.symm).1; omega
  have h1 := ((hg.below_ hbw hg.lt).alloc o).kept hgrow (hne _ (by omega))
  have h2 := ((hr.below_ hbw hr.lt).alloc o).kept hgrow (hne _ (by omega))
  have h3 := ((ht.below_ hbw ht.lt).alloc o).kept hgrow (hne _ (by omega))
  refine ⟨A2, c2, _, ⟨h1.far (p := ⟨w.heap.size + 1 + 1, 0, none⟩) (by simp; omega) _, h2.far (p := ⟨w.heap.size + 1 + 1, 0, none⟩) (by simp) _, ?_⟩, ownsRow_far hown2 (fun e => by have h5 := (hown2.lt _ e).1; simp at h5; omega) _, ?_⟩
  · have := heap_setCell_same _ (w.heap.size + 1 + 1) 0 _ _ (.slice A2 (k + 1) c2) h3
    simpa [Blk] using this
  · rw [List.replicate_succ']
    exact Rw.snoc entE.good hrw rfl ⟨⟨_, rfl⟩, ⟨_, rfl⟩, _, rfl⟩
theorem zero8 (W : World) : Slc 1 (intE .u8) (fun _ => True) (W.alloc (.cells #[.int .u8 0, .int .u8 0, .int .u8 0, .int .u8 0, .int .u8 0, .int .u8 0, .int .u8 0, .int .u8 0] 5)) (some ⟨W.heap.size, 0, none⟩) 8 [0, 0, 0, 0, 0, 0, 0, 0] := Slc.of_blk (intE.good _) (Blk.new W 5 #[.int .u8 0, .int .u8 0, .int .u8 0, .int .u8 0, .int .u8 0, .int .u8 0, .int .u8 0, .int .u8 0]) (Rw.of_ints [0, 0, 0, 0, 0, 0, 0, 0]) rfl trivial
set_option maxRecDepth 100000 in
set_option maxHeartbeats 1600000 in
theorem firstTable_ex (z s l a : Int) (D : Nat) (hD : D < 4) (w : World) : Calls Try.prog 37 #[.agg #[.int .i64 z, .int .i64 (1 + (D : Int)), .int .i64 s, .int .i64 l, .int .i64 a]] w fun e w' => (∃ A c, e = .returned (.agg #[.slice A (2 + D) c]) ∧ 2 + D ≤ c ∧ c ≤ maxLen ∧ Slc 3 entE (fun _ => True) w' A (2 + D) (List.replicate (2 + D) ())) ∧ Below w.heap.size w w' := by
  obtain ⟨i0, hi, hz0, hz1, hz2⟩ := info_parts info86
  go_enter Try.func37, Try.ntmps37
  go_wp2_with fail
  go_loopw [4] (fun i wr => ∃ k : Nat, k ≤ 2 + D ∧ i = .int .i64 k ∧ Hid (FT w #[.int .i64 z, .int .i64 (1 + (D : Int)), .int .i64 s, .int .i64 l, .int .i64 a] k wr) ∧ Hid (Below w.heap.size w wr)) (fun i _ => 2 + D - (intOf i).toNat)
  case atStart =>
    refine ⟨0, by omega, rfl, ⟨none, 0, [], ⟨((Blk.new w 54 _).alloc _).alloc _, ?_, ?_⟩, World.ownsRow_nil _ _ _ _, Rw.nil_⟩, ((((Below.refl _ w).alloc (Nat.le_refl _) _).alloc (by simp) _).alloc (by simp; omega) _)⟩
    · have := (Blk.new (w.alloc (.cells #[.int .i64 z, .int .i64 (1 + (D : Int)), .int .i64 s, .int .i64 l, .int .i64 a] 54)) 74 #[.slice none 0 0]).alloc (.cells #[.slice none 0 0] 74)
      rwa [World.size_alloc] at this
    · have := Blk.new ((w.alloc (.cells #[.int .i64 z, .int .i64 (1 + (D : Int)), .int .i64 s, .int .i64 l, .int .i64 a] 54)).alloc (.cells #[.slice none 0 0] 74)) 74 #[.slice none 0 0]
      simp only [World.size_alloc] at this
      exact this
  case round =>
    obtain ⟨k, hk, rfl, hF, hB⟩ := hrel
    obtain ⟨A, c, cells, ⟨hg, hr, ht⟩, hown, hrw⟩ := hF.out
    have g1 : wr.cell? ⟨w.heap.size, 1, none⟩ = some (.int .i64 (1 + (D : Int))) := hg.cell 1
    have t0 : wr.cell? ⟨w.heap.size + 1 + 1, 0, none⟩ = some (.slice A k c) := ht.cell 0
    by_cases hlt : k < 2 + D
    · have i1 : (k : Int) ≤ 1 + (D : Int) := by omega
      have HG := Lib.hid hg
      have HR := Lib.hid hr
      have HT := Lib.hid ht
      have HOWN := Lib.hid hown
      have HRW := Lib.hid hrw
      clear hF hg hr ht hown hrw
      have tf : wr.frozen? ⟨w.heap.size + 1 + 1, 0, none⟩ = false := frozen_of_row _ _ _ _ _ HT.out
      have mk := make8
      have t08 : (wr.alloc (.cells #[.int .u8 0, .int .u8 0, .int .u8 0, .int .u8 0, .int .u8 0, .int .u8 0, .int .u8 0, .int .u8 0] 5)).cell? ⟨w.heap.size + 1 + 1, 0, none⟩ = some (.slice A k c) := (World.cell?_alloc_lt _ _ _ HT.out.lt).trans t0
      go_wp2_with fail
      go_region_law (first | (refine step_append_any _ (by rfl) _ _ _ (by rfl) (w.heap.size + 1 + 1 + 1) 86 i0 _ 3 24 Try.underlying72 hi hz0 hz1 hz2 rfl (by omega) (.slice A k c) k cells (by rfl) ((own_below HOWN.out HBW.out).alloc _) (w'.heap.size + 1) (some ⟨w'.heap.size, 0, none⟩) 1 1 [.int .i64 0, .int .i64 y, .bool false] (by rfl) ⟨by rfl, fun _ => ⟨_, rfl, Nat.lt_succ_self _, World.news_of_block (cs := #[.int .i64 0, .int .i64 y, .bool false]) (t := 86) (fr := (0, 0)) (heap_alloc_new w' _)⟩⟩ (by intro u hu; simp at hu; rcases hu with rfl | rfl | rfl <;> rfl) (by unfold maxLen; omega) (by omega) (by have h1 := HT.out.lt; have h2 := HBW.out.size; simp; omega) ?_; intro v2 w2 hown2 hgrow hat; obtain ⟨A2, c2, rfl⟩ := own_form hown2; have HFT := Lib.hid (ft_step HG.out HR.out HT.out HOWN.out HRW.out HBW.out hgrow hown2); have ht2 := ((HT.out.below_ HBW.out HT.out.lt).alloc (.cells #[.int .i64 0, .int .i64 y, .bool false] 86)).kept hgrow (fun e => by have := (HOWN.out.lt _ e.symm).1; omega); have t02 : w2.cell? ⟨w.heap.size + 1 + 1, 0, none⟩ = some (.slice A k c) := ht2.cell 0; have tf2 : w2.frozen? ⟨w.heap.size + 1 + 1, 0, none⟩ = false := frozen_of_row _ _ _ _ _ ht2; have HB2 : Hid (Below w.heap.size w w2) := ((hB.out.trans (HBW.out.mono hB.out.size)).alloc (Nat.le_trans hB.out.size HBW.out.size) _).grown hgrow (by have h1 := hB.out.size; have h2 := HBW.out.size; simp; omega) (fun g hg => by have := (HOWN.out.lt g hg).1; omega); clear ht2 hown2 hgrow hat) | (go_simp; go_at_call 46; refine (entry_ex _ _ _ _ _ (fun _ => True) _ (zero8 wr.drew) (by decide)).mono ?_; rintro e w' ⟨⟨y, rfl⟩, hbe⟩; have hbw : Below wr.heap.size wr w' := (((Below.refl _ wr).drew.alloc (Nat.le_refl _) _) : Below wr.heap.size wr (wr.drew.alloc (.cells #[.int .u8 0, .int .u8 0, .int .u8 0, .int .u8 0, .int .u8 0, .int .u8 0, .int .u8 0, .int .u8 0] 5))).trans (hbe.mono (by simp)); have t0w : w'.cell? ⟨w.heap.size + 1 + 1, 0, none⟩ = some (.slice A k c) := (hbw.cell (p := ⟨w.heap.size + 1 + 1, 0, none⟩) HT.out.lt).trans t0; have tfw : w'.frozen? ⟨w.heap.size + 1 + 1, 0, none⟩ = false := frozen_of_row _ _ _ _ _ (HT.out.below_ hbw HT.out.lt); have t0x : (w'.alloc (.cells #[.int .i64 0, .int .i64 y, .bool false] 86)).cell? ⟨w.heap.size + 1 + 1, 0, none⟩ = some (.slice A k c) := (World.cell?_alloc_lt _ _ _ (Nat.lt_of_lt_of_le HT.out.lt hbw.size)).trans t0w; have HBW := Lib.hid hbw; clear hbe hbw))
      all_goals (
        go_wp2_with fail
        go_roundw
        case rel => exact ⟨k + 1, by omega, by go_num, HFT, HB2.out.setCell (by simp; omega) _⟩
        case measure => simp [intOf]; omega)
    · obtain rfl : k = 2 + D := by omega
      have i1 : ¬ (((2 + D : Nat) : Int) ≤ 1 + (D : Int)) := by omega
      have r0 : wr.cell? ⟨w.heap.size + 1, 0, none⟩ = some (.slice none 0 0) := hr.cell 0
      have rf : wr.frozen? ⟨w.heap.size + 1, 0, none⟩ = false := frozen_of_row _ _ _ _ _ hr
      have HR := Lib.hid hr
      have HOWN := Lib.hid hown
      have HRW := Lib.hid hrw
      clear hF hg hr ht hown hrw
      go_wp2_with fail
      have hne : ∀ b, (Value.slice A (2 + D) c).ownBlock = some b → b ≠ w.heap.size + 1 := fun b hb => by have := (HOWN.out.lt b hb).1; omega
      have hs := SlcV.of_own entE.good HOWN.out (HRW.out) (by simp) (fun _ _ => trivial)
      obtain ⟨h1, h2, h3⟩ := slcV_is hs
      have rs := World.cell?_setCell_same' wr ⟨w.heap.size + 1, 0, none⟩ (.slice A (2 + D) c) (by rw [r0]; rfl)
      have hb2 : Below w.heap.size w (wr.setCell ⟨w.heap.size + 1, 0, none⟩ (.slice A (2 + D) c)) := hB.out.setCell (Nat.le_succ _) _
      have hs2 := ownsRow_far HOWN.out (p := ⟨w.heap.size + 1, 0, none⟩) (fun e => by have h5 := (HOWN.out.lt _ e).1; simp at h5; omega) (.slice A (2 + D) c)
      refine bodyPost_ret (v := .agg #[.slice A (2 + D) c]) (by simp [results, Try.results37, go_sem, rs]) rfl ⟨⟨A, c, rfl, h1, h2, ?_⟩, hb2⟩
      exact (slcV_is (SlcV.of_own entE.good hs2 HRW.out (by simp) (fun _ _ => trivial))).2.2
end Go.Proofs.Ytedgalbhjfmafaa

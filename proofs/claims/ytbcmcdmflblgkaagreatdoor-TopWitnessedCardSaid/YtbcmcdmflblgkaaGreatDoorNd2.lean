/-
  Nd2: ring.Need at the two lists: the walks.
-/
import Derived.Test.YtbcmcdmflblgkaaGreatDoorNd1
import Derived.Maps.OwnSet
import Derived.LoopN
namespace Go.Proofs.YtbcmcdmflblgkaaGreatDoor
open Go.ChangeShapes Go.WideShapes Go.ChangeAt Go.RowKit Go.Maps
set_option linter.unusedVariables false
theorem u3 : Tryz.prog.underlying 3 = some (.int .i64) := by kernel_rfl
theorem u4 : Tryz.prog.underlying 4 = some .bool := by kernel_rfl
theorem u394 : Tryz.prog.underlying 394 = some (.map 3 4) := by kernel_rfl
theorem law3 : Keyed Tryz.prog 3 := int_keyed u3
/-- the cells that the call reads -/
structure Gs (s b o : Nat) (x : Int) (y : Option Int) (w : World) : Prop where
  g0 : w.cell? ⟨s, 0, none⟩ = some (.int .i64 2)
  g1 : w.cell? ⟨s, 1, none⟩ = some (.int .i64 2)
  g2 : w.cell? ⟨s, 2, none⟩ = some (.int .i64 1)
  g3 : w.cell? ⟨s, 3, none⟩ = some (.int .i64 14)
  g4 : w.cell? ⟨s, 4, none⟩ = some (.int .i64 2)
  x0 : w.cell? ⟨b, o, none⟩ = some (.int .i64 x)
  x1 : ∀ z, y = some z → w.cell? ⟨b, o + 1, none⟩ = some (.int .i64 z)
theorem Gs.keep {s b o : Nat} {x : Int} {y : Option Int} {w w' : World} (h : Gs s b o x y w) (k : ∀ p : Addr, p.block = s ∨ p.block = b → w'.cell? p = w.cell? p) : Gs s b o x y w' :=
  ⟨(k _ (.inl rfl)).trans h.g0, (k _ (.inl rfl)).trans h.g1, (k _ (.inl rfl)).trans h.g2, (k _ (.inl rfl)).trans h.g3, (k _ (.inl rfl)).trans h.g4, (k _ (.inr rfl)).trans h.x0, fun z e => (k _ (.inr rfl)).trans (h.x1 z e)⟩
theorem Gs.below {s b o : Nat} {x : Int} {y : Option Int} {w w' : World} (h : Gs s b o x y w) (hb : Below w.heap.size w w') : Gs s b o x y w' :=
  h.keep fun p hp => hb.cell (by
    rcases hp with e | e
    · rw [e]; exact World.block_lt_of_cell? _ _ h.g0
    · rw [e]; exact World.block_lt_of_cell? _ _ h.x0)
theorem Gs.grown {s b o m : Nat} {x : Int} {y : Option Int} {w w' : World} (h : Gs s b o x y w) (hg : w.grownBy w' (some m)) (h1 : s ≠ m) (h2 : b ≠ m) : Gs s b o x y w' :=
  h.keep fun p hp => World.cell?_of_block (hg.block p.block (by
    rcases hp with e | e
    · rw [e]; exact World.block_lt_of_cell? _ _ h.g0
    · rw [e]; exact World.block_lt_of_cell? _ _ h.x0) (fun e' => by
    injection e' with e'
    rcases hp with e | e
    · exact h1 (by rw [← e, e'])
    · exact h2 (by rw [← e, e'])))
theorem start_gs (b o : Nat) (x : Int) (y : Option Int) (w : World) (h0 : w.cell? ⟨b, o, none⟩ = some (.int .i64 x)) (h1 : ∀ z, y = some z → w.cell? ⟨b, o + 1, none⟩ = some (.int .i64 z)) (o2 o3 : Obj) :
    Gs w.heap.size b o x y (((w.alloc (.cells #[.int .i64 2, .int .i64 2, .int .i64 1, .int .i64 14, .int .i64 2] 25)).alloc o2).alloc o3) := by
  have hb := World.block_lt_of_cell? _ _ h0
  have hg : Gs w.heap.size b o x y (w.alloc (.cells #[.int .i64 2, .int .i64 2, .int .i64 1, .int .i64 14, .int .i64 2] 25)) := by
    have hn : (w.alloc (.cells #[.int .i64 2, .int .i64 2, .int .i64 1, .int .i64 14, .int .i64 2] 25)).heap[w.heap.size]? = some (.cells #[.int .i64 2, .int .i64 2, .int .i64 1, .int .i64 14, .int .i64 2] 25 (0, 0)) := heap_alloc_new _ _
    have hbel : Below w.heap.size w (w.alloc (.cells #[.int .i64 2, .int .i64 2, .int .i64 1, .int .i64 14, .int .i64 2] 25)) := (Below.refl _ w).alloc (Nat.le_refl _) _
    exact ⟨cell_of_row _ _ 0 _ _ _ hn, cell_of_row _ _ 1 _ _ _ hn, cell_of_row _ _ 2 _ _ _ hn, cell_of_row _ _ 3 _ _ _ hn, cell_of_row _ _ 4 _ _ _ hn, (hbel.cell (p := ⟨b, o, none⟩) hb).trans h0, fun z e => (hbel.cell (p := ⟨b, o + 1, none⟩) hb).trans (h1 z e)⟩
  exact (hg.below ((Below.refl _ _).alloc (Nat.le_refl _) _)).below ((Below.refl _ _).alloc (Nat.le_refl _) _)
theorem need2 (b o c : Nat) (hc2 : 2 ≤ c) (w : World) (h0 : w.cell? ⟨b, o, none⟩ = some (.int .i64 0)) (h1 : w.cell? ⟨b, o + 1, none⟩ = some (.int .i64 3)) :
    Calls Tryz.prog 228 #[gV, .slice (some ⟨b, o, none⟩) 2 c] w fun e w' => e = .returned (.tuple #[.int .i64 7, .int .i64 0]) ∧ Below w.heap.size w w' := by
  have HB := Lib.hid (World.block_lt_of_cell? _ _ h0)
  have hmm := @run_makeMap Tryz.prog
  unfold gV
  go_enter Tryz.func228, Tryz.ntmps228
  go_wp2_with (go_at_call 113; refine (check_g _).mono ?_; rintro e w' ⟨rfl, rfl⟩)
  have G := start_gs b o 0 (some 3) w h0 (fun z e => by cases e; exact h1) (.cells #[.int .i64 2, .int .i64 2, .int .i64 1, .int .i64 14, .int .i64 2] 25) (.map #[] 0)
  have hown : (((w.alloc (.cells #[.int .i64 2, .int .i64 2, .int .i64 1, .int .i64 14, .int .i64 2] 25)).alloc (.cells #[.int .i64 2, .int .i64 2, .int .i64 1, .int .i64 14, .int .i64 2] 25)).alloc (.map #[] 0)).ownsMap Tryz.prog 3 (plainElem (H := Unit) Tryz.prog 4) (w.heap.size + 1 + 1) 0 (.map []) := by
    have := World.ownsMap_made ((w.alloc (.cells #[.int .i64 2, .int .i64 2, .int .i64 1, .int .i64 14, .int .i64 2] 25)).alloc (.cells #[.int .i64 2, .int .i64 2, .int .i64 1, .int .i64 14, .int .i64 2] 25)) Tryz.prog 3 (plainElem (H := Unit) Tryz.prog 4)
    simpa using this
  have hbw : Below w.heap.size w (((w.alloc (.cells #[.int .i64 2, .int .i64 2, .int .i64 1, .int .i64 14, .int .i64 2] 25)).alloc (.cells #[.int .i64 2, .int .i64 2, .int .i64 1, .int .i64 14, .int .i64 2] 25)).alloc (.map #[] 0)) := ((((Below.refl _ w).alloc (Nat.le_refl _) _).alloc (by simp) _).alloc (by simp; omega) _)
  have hsz : w.heap.size + 1 + 1 < (((w.alloc (.cells #[.int .i64 2, .int .i64 2, .int .i64 1, .int .i64 14, .int .i64 2] 25)).alloc (.cells #[.int .i64 2, .int .i64 2, .int .i64 1, .int .i64 14, .int .i64 2] 25)).alloc (.map #[] 0)).heap.size := by simp
  obtain ⟨W3, hW3⟩ : ∃ W3, (((w.alloc (.cells #[.int .i64 2, .int .i64 2, .int .i64 1, .int .i64 14, .int .i64 2] 25)).alloc (.cells #[.int .i64 2, .int .i64 2, .int .i64 1, .int .i64 14, .int .i64 2] 25)).alloc (.map #[] 0)) = W3 := ⟨_, rfl⟩
  rw [hW3] at G hown hbw hsz ⊢
  clear hW3 h0 h1 hmm
  have HBW := Lib.hid hbw
  have HG := Lib.hid G
  have HOWN := Lib.hid hown
  have HSZ := Lib.hid hsz
  obtain ⟨g0, g1, g2, g3, g4, x0, x1⟩ := G
  replace x1 := x1 3 rfl
  clear hbw hown hsz
  refine wp_loop_rounds 4 ?_
  simp only [Code.rounds]
  go_wp2_with fail
  refine (split_g 0 0 0 _ (by decide) (by decide) (by decide) (by decide)).mono ?_
  rintro e w1 ⟨rfl, hb1⟩
  clear g0 g1 g2 g3 g4 x0 x1
  have hown1 : w1.ownsMap Tryz.prog 3 (plainElem (H := Unit) Tryz.prog 4) (w.heap.size + 1 + 1) 0 (.map []) := by
    obtain ⟨es, clock, q1, q2⟩ := HOWN.out
    exact ⟨es, clock, (hb1.block _ HSZ.out).trans q1, q2⟩
  have HBW1 := Lib.hid (HBW.out.trans (hb1.mono HBW.out.size))
  have HG1 := Lib.hid (HG.out.below hb1)
  have HSZ1 := Lib.hid (Nat.lt_of_lt_of_le HSZ.out hb1.size)
  have HOWN1 := Lib.hid hown1
  obtain ⟨g0, g1, g2, g3, g4, x0, x1⟩ := HG1.out
  replace x1 := x1 3 rfl
  clear hb1 hown1
  go_wp2_with fail
  refine (contains0 _ _ _ _).mono ?_
  rintro e w' ⟨rfl, rfl⟩
  clear g0 g1 g2 g3 g4 x0 x1
  go_wp2_with (at_mapUpdate; refine wpList_mapUpdate_own _ rfl _ _ _ 394 rfl 3 4 law3 u394 _ (w.heap.size + 1 + 1) 0 _ rfl HOWN1.out (by unfold maxLen; omega) _ _ (.int .i64 0) rfl rfl (keyOf_int_mk u3 (by decide)) (.lit (.bool true)) [] (plainElem_bool u4 true) ?_; intro w2 hown2 hg2; have HOWN2 := Lib.hid hown2; have HG2 := Lib.hid (HG1.out.grown hg2 (by omega) (by have := HB.out; omega)); have HBW2 := Lib.hid (HBW1.out.grown hg2 HBW1.out.size (fun k e => by cases e; omega)); have HSZ2 := Lib.hid (Nat.lt_of_lt_of_le HSZ1.out hg2.size); obtain ⟨g0, g1, g2, g3, g4, x0, x1⟩ := HG2.out; replace x1 := x1 3 rfl; clear hown2 hg2)
  refine (split_g 3 1 1 _ (by decide) (by decide) (by decide) (by decide)).mono ?_
  rintro e w3 ⟨rfl, hb3⟩
  clear g0 g1 g2 g3 g4 x0 x1
  have hown3 : w3.ownsMap Tryz.prog 3 (plainElem (H := Unit) Tryz.prog 4) (w.heap.size + 1 + 1) 1 ((DataW.map []).put (.int .i64 0) (.lit (.bool true))) := by
    obtain ⟨es, clock, q1, q2⟩ := HOWN2.out
    exact ⟨es, clock, (hb3.block _ HSZ2.out).trans q1, q2⟩
  have HBW3 := Lib.hid (HBW2.out.trans (hb3.mono HBW2.out.size))
  have HG3 := Lib.hid (HG2.out.below hb3)
  have HOWN3 := Lib.hid hown3
  obtain ⟨g0, g1, g2, g3, g4, x0, x1⟩ := HG3.out
  replace x1 := x1 3 rfl
  clear hb3 hown3
  go_wp2_with fail
  refine (contains1 _ _ _ _ (by decide) _ x0).mono ?_
  rintro e w' ⟨rfl, rfl⟩
  clear g0 g1 g2 g3 g4 x0 x1
  go_wp2_with (at_mapUpdate; refine wpList_mapUpdate_own _ rfl _ _ _ 394 rfl 3 4 law3 u394 _ (w.heap.size + 1 + 1) 1 _ rfl HOWN3.out (by unfold maxLen; omega) _ _ (.int .i64 1) rfl rfl (keyOf_int_mk u3 (by decide)) (.lit (.bool true)) [] (plainElem_bool u4 true) ?_; intro w4 hown4 hg4; have hl : (Builtin.len_ #[394] 3 #[.map (some (w.heap.size + 1 + 1))]).run Tryz.prog w4 = .ok (.int .i64 2) w4 := (hown4.len u394 3); have HBW4 := Lib.hid (HBW3.out.grown hg4 HBW3.out.size (fun k e => by cases e; omega)); clear hown4 hg4)
  go_ret2
  exact ⟨rfl, HBW4.out⟩
theorem need1 (b o c : Nat) (hc2 : 1 ≤ c) (w : World) (h0 : w.cell? ⟨b, o, none⟩ = some (.int .i64 1)) :
    Calls Tryz.prog 228 #[gV, .slice (some ⟨b, o, none⟩) 1 c] w fun e w' => e = .returned (.tuple #[.int .i64 4, .int .i64 0]) ∧ Below w.heap.size w w' := by
  have HB := Lib.hid (World.block_lt_of_cell? _ _ h0)
  have hmm := @run_makeMap Tryz.prog
  unfold gV
  go_enter Tryz.func228, Tryz.ntmps228
  go_wp2_with (go_at_call 113; refine (check_g _).mono ?_; rintro e w' ⟨rfl, rfl⟩)
  have G := start_gs b o 1 none w h0 (fun z e => by cases e) (.cells #[.int .i64 2, .int .i64 2, .int .i64 1, .int .i64 14, .int .i64 2] 25) (.map #[] 0)
  have hown : (((w.alloc (.cells #[.int .i64 2, .int .i64 2, .int .i64 1, .int .i64 14, .int .i64 2] 25)).alloc (.cells #[.int .i64 2, .int .i64 2, .int .i64 1, .int .i64 14, .int .i64 2] 25)).alloc (.map #[] 0)).ownsMap Tryz.prog 3 (plainElem (H := Unit) Tryz.prog 4) (w.heap.size + 1 + 1) 0 (.map []) := by
    have := World.ownsMap_made ((w.alloc (.cells #[.int .i64 2, .int .i64 2, .int .i64 1, .int .i64 14, .int .i64 2] 25)).alloc (.cells #[.int .i64 2, .int .i64 2, .int .i64 1, .int .i64 14, .int .i64 2] 25)) Tryz.prog 3 (plainElem (H := Unit) Tryz.prog 4)
    simpa using this
  have hbw : Below w.heap.size w (((w.alloc (.cells #[.int .i64 2, .int .i64 2, .int .i64 1, .int .i64 14, .int .i64 2] 25)).alloc (.cells #[.int .i64 2, .int .i64 2, .int .i64 1, .int .i64 14, .int .i64 2] 25)).alloc (.map #[] 0)) := ((((Below.refl _ w).alloc (Nat.le_refl _) _).alloc (by simp) _).alloc (by simp; omega) _)
  have hsz : w.heap.size + 1 + 1 < (((w.alloc (.cells #[.int .i64 2, .int .i64 2, .int .i64 1, .int .i64 14, .int .i64 2] 25)).alloc (.cells #[.int .i64 2, .int .i64 2, .int .i64 1, .int .i64 14, .int .i64 2] 25)).alloc (.map #[] 0)).heap.size := by simp
  obtain ⟨W3, hW3⟩ : ∃ W3, (((w.alloc (.cells #[.int .i64 2, .int .i64 2, .int .i64 1, .int .i64 14, .int .i64 2] 25)).alloc (.cells #[.int .i64 2, .int .i64 2, .int .i64 1, .int .i64 14, .int .i64 2] 25)).alloc (.map #[] 0)) = W3 := ⟨_, rfl⟩
  rw [hW3] at G hown hbw hsz ⊢
  clear hW3 h0 hmm
  have HBW := Lib.hid hbw
  have HG := Lib.hid G
  have HOWN := Lib.hid hown
  have HSZ := Lib.hid hsz
  obtain ⟨g0, g1, g2, g3, g4, x0, x1⟩ := G
  clear x1
  clear hbw hown hsz
  refine wp_loop_rounds 3 ?_
  simp only [Code.rounds]
  go_wp2_with fail
  refine (split_g 1 0 1 _ (by decide) (by decide) (by decide) (by decide)).mono ?_
  rintro e w1 ⟨rfl, hb1⟩
  clear g0 g1 g2 g3 g4 x0
  have hown1 : w1.ownsMap Tryz.prog 3 (plainElem (H := Unit) Tryz.prog 4) (w.heap.size + 1 + 1) 0 (.map []) := by
    obtain ⟨es, clock, q1, q2⟩ := HOWN.out
    exact ⟨es, clock, (hb1.block _ HSZ.out).trans q1, q2⟩
  have HBW1 := Lib.hid (HBW.out.trans (hb1.mono HBW.out.size))
  have HG1 := Lib.hid (HG.out.below hb1)
  have HSZ1 := Lib.hid (Nat.lt_of_lt_of_le HSZ.out hb1.size)
  have HOWN1 := Lib.hid hown1
  obtain ⟨g0, g1, g2, g3, g4, x0, x1⟩ := HG1.out
  clear x1
  clear hb1 hown1
  go_wp2_with fail
  refine (contains0 _ _ _ _).mono ?_
  rintro e w' ⟨rfl, rfl⟩
  clear g0 g1 g2 g3 g4 x0
  go_wp2_with (at_mapUpdate; refine wpList_mapUpdate_own _ rfl _ _ _ 394 rfl 3 4 law3 u394 _ (w.heap.size + 1 + 1) 0 _ rfl HOWN1.out (by unfold maxLen; omega) _ _ (.int .i64 0) rfl rfl (keyOf_int_mk u3 (by decide)) (.lit (.bool true)) [] (plainElem_bool u4 true) ?_; intro w2 hown2 hg2; have hl : (Builtin.len_ #[394] 3 #[.map (some (w.heap.size + 1 + 1))]).run Tryz.prog w2 = .ok (.int .i64 1) w2 := (hown2.len u394 3); have HBW4 := Lib.hid (HBW1.out.grown hg2 HBW1.out.size (fun k e => by cases e; omega)); clear hown2 hg2)
  go_ret2
  exact ⟨rfl, HBW4.out⟩
end Go.Proofs.YtbcmcdmflblgkaaGreatDoor

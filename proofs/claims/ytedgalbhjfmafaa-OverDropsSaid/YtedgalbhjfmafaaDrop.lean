/-
  over.Drop: the first transaction, and the others.
-/
import Derived.Test.YtedgalbhjfmafaaOtwin
import Derived.Test.YtedgalbhjfmafaaFind
namespace Go.Proofs.Ytedgalbhjfmafaa
open Go.ChangeShapes Go.WideShapes Go.ChangeAt Go.RowKit
set_option linter.unusedVariables false
theorem set4_far (W : World) {B g : Nat} (hne : B ≠ g) (a b c d : Value) (i : Nat) : ((((W.setCell ⟨B, 0, none⟩ a).setCell ⟨B, 1, none⟩ b).setCell ⟨B, 2, none⟩ c).setCell ⟨B, 3, none⟩ d).cell? ⟨g, i, none⟩ = W.cell? ⟨g, i, none⟩ := by
  have hn : ∀ j, (⟨B, j, none⟩ : Addr) ≠ ⟨g, i, none⟩ := fun j e => by injection e with e; exact hne e
  rw [World.cell?_setCell_other _ _ _ _ (hn 3), World.cell?_setCell_other _ _ _ _ (hn 2), World.cell?_setCell_other _ _ _ _ (hn 1), World.cell?_setCell_other _ _ _ _ (hn 0)]
theorem set4_agree (W : World) {B : Nat} {p : Nat → Prop} (hp : ∀ b, p b → b ≠ B) (a b c d : Value) : Agree p W ((((W.setCell ⟨B, 0, none⟩ a).setCell ⟨B, 1, none⟩ b).setCell ⟨B, 2, none⟩ c).setCell ⟨B, 3, none⟩ d) :=
  fun g hg i v hv => (set4_far W (fun e => hp g hg e.symm) a b c d i).trans hv
theorem set4_thawed {W : World} {B g : Nat} (h : Thawed W g) (a b c d : Value) : Thawed ((((W.setCell ⟨B, 0, none⟩ a).setCell ⟨B, 1, none⟩ b).setCell ⟨B, 2, none⟩ c).setCell ⟨B, 3, none⟩ d) g := (((h.setCell _ _ _).setCell _ _ _).setCell _ _ _).setCell _ _ _
theorem setCell_grown (W : World) (B i : Nat) (u : Value) : W.grownBy (W.setCell ⟨B, i, none⟩ u) (some B) := ⟨rfl, rfl, rfl, by simp, fun k _ hk => heap_setCell_other W ⟨B, i, none⟩ k u (fun e => hk (by simp [e]))⟩
theorem set4_grown (W : World) (B : Nat) (a b c d : Value) : W.grownBy ((((W.setCell ⟨B, 0, none⟩ a).setCell ⟨B, 1, none⟩ b).setCell ⟨B, 2, none⟩ c).setCell ⟨B, 3, none⟩ d) (some B) :=
  grownBy_trans (grownBy_trans (grownBy_trans (setCell_grown _ _ _ _) (setCell_grown _ _ _ _)) (setCell_grown _ _ _ _)) (setCell_grown _ _ _ _)
theorem set4_blk {W : World} {B : Nat} {e : TypeId} {x0 x1 x2 x3 : Value} (h : Blk W B e #[x0, x1, x2, x3]) (a b c d : Value) : Blk ((((W.setCell ⟨B, 0, none⟩ a).setCell ⟨B, 1, none⟩ b).setCell ⟨B, 2, none⟩ c).setCell ⟨B, 3, none⟩ d) B e #[a, b, c, d] := by
  have h1 := heap_setCell_same _ B 0 _ _ a h
  have h2 := heap_setCell_same _ B 1 _ _ b h1
  have h3 := heap_setCell_same _ B 2 _ _ c h2
  have h4 := heap_setCell_same _ B 3 _ _ d h3
  simpa [Blk] using h4
theorem Rw.tail_ {α : Type} {k : Nat} {E : Elt α} (hE : Good k E) {p : Nat → Prop} {W : World} {cells : List Value} {x : α} {xs : List α} (h : Rw k E p W cells (x :: xs)) : Rw k E p W (cells.drop k) xs := by
  refine ⟨by rw [List.length_drop, h.1, List.length_cons, Nat.add_mul, Nat.one_mul]; omega, fun j y hj => ?_⟩
  refine hE.here (fun i _ => ?_) (h.2 (j + 1) y (by simpa using hj))
  rw [List.getElem?_drop]
  congr 1
  rw [Nat.add_mul, Nat.one_mul]
  omega
/-- what Drop leaves -/
def Dropped (xs : List Txn) (W : World) (e : Ending) (w' : World) : Prop :=
  ((xs = [] ∧ e = .returned (.tuple #[.agg #[.int .i64 0, .int .i64 0, .int .i64 0, .slice none 0 0], .slice none 0 0, .int .i64 10])) ∨
    (∃ (t : Txn) (ts : List Txn) (iv yv : Value), xs = t :: ts ∧ e = .returned (.tuple #[.agg #[.int .i64 t.seq, .int .i64 t.pos, .int .i64 t.n, iv], yv, .int .i64 0]) ∧ Imgs (Fr W.heap.size w') w' iv t.images ∧ Txns (Fr W.heap.size w') w' yv ts)) ∧ Below W.heap.size W w'
set_option maxRecDepth 100000 in
set_option maxHeartbeats 1600000 in
theorem Drop_any (A : Option Addr) (n c : Nat) (xs : List Txn) (p : Nat → Prop) (w : World) (h : Slc 4 txnE p w A n xs) (hn : n ≤ 1000) (hx : ∀ x ∈ xs, x.images.length ≤ 1000 ∧ ∀ y ∈ x.images, y.bytes.length ≤ 1000) :
    Calls Try.prog 12 #[.slice A n c] w (Dropped xs w) := by
  have HX := Lib.hid hx
  have HL := Lib.hid h.1
  have HS := Lib.hid h
  clear hx h
  have HB0 : Hid (Below w.heap.size w (w.alloc (.cells #[.int .i64 0, .int .i64 0, .int .i64 0, .slice none 0 0] 37))) := (Below.refl _ _).alloc (Nat.le_refl _) _
  have HBX := Lib.hid (Blk.new w 37 #[.int .i64 0, .int .i64 0, .int .i64 0, .slice none 0 0])
  by_cases h0 : n = 0
  · subst h0
    have HE : Hid (xs = []) := List.eq_nil_of_length_eq_zero HL.out
    go_enter Try.func12, Try.ntmps12
    go_wp2_with fail
    exact bodyPost_ret (v := .tuple #[.agg #[.int .i64 0, .int .i64 0, .int .i64 0, .slice none 0 0], .slice none 0 0, .int .i64 10]) (by simp [results, Try.results12, go_sem]) rfl ⟨.inl ⟨HE.out, rfl⟩, HB0.out⟩
  · go_enter Try.func12, Try.ntmps12
    have n0 : ((n : Int) == 0) = false := beq_eq_false_iff_ne.2 (by omega)
    have n1 : (1 : Int) ≤ (n : Int) := by omega
    have hnp : 0 < n := by omega
    go_wp2_with fail
    refine (twinO_any _ _ _ _ p _ (HS.out.keep txnE.good (by decide) (Agree.of_below HB0.out)) hn HX.out).mono ?_
    rintro e w1 ⟨v1, rfl, ⟨cells, hown, hrw⟩, hb1⟩
    obtain ⟨A1, c1, rfl⟩ := own_form hown
    obtain ⟨g, hA1, hg1⟩ := own_head hown
    have hA := hA1 (by omega)
    subst hA
    obtain ⟨t, ts, hxs⟩ : ∃ t ts, xs = t :: ts := by
      cases xs with
      | nil => have := HL.out; simp at this; omega
      | cons t ts => exact ⟨t, ts, rfl⟩
    subst hxs
    obtain ⟨m0, m1, m2, v3, m3, A2, n2, c2, rfl, q1, q2, hs2⟩ := hrw.2 0 t rfl
    have hown' : w1.ownsRow (w.alloc (.cells #[.int .i64 0, .int .i64 0, .int .i64 0, .slice none 0 0] 37)).heap.size 37 4 (.slice (some ⟨g, 0, none⟩) n c1) n cells := hown
    have d0 : w1.cell? ⟨g, 0, none⟩ = some (.int .i64 t.seq) := (hown'.cellAt 0 (by omega)).trans m0
    have d1 : w1.cell? ⟨g, 1, none⟩ = some (.int .i64 t.pos) := (hown'.cellAt 1 (by omega)).trans m1
    have d2 : w1.cell? ⟨g, 2, none⟩ = some (.int .i64 t.n) := (hown'.cellAt 2 (by omega)).trans m2
    have d3 : w1.cell? ⟨g, 3, none⟩ = some (.slice A2 n2 c2) := (hown'.cellAt 3 (by omega)).trans m3
    have hc1 : n ≤ c1 ∧ c1 ≤ maxLen := by
      rcases hown'.2 with ⟨hv, _⟩ | ⟨g', cap, cur, hv, _, _, h5, h6, _⟩
      · cases hv
      · injection hv with e1 e2 e3
        subst e3
        exact ⟨h5, h6⟩
    have hc2 := hc1.2
    unfold maxLen at hc2
    have n2' : (n : Int) ≤ (c1 : Int) := by omega
    obtain ⟨A5, hA5⟩ : ∃ A5, (if c1 = 1 then some (⟨g, 0, none⟩ : Addr) else some ⟨g, 4, none⟩) = A5 := ⟨_, rfl⟩
    have HR2 : Hid (Reads w1.drew w1.drew.heap.size 4 A5 (n - 1) (cells.drop 4)) := by
      rw [← hA5]
      have := (Reads.of_own hown').cut (k := 1) (cap := c1) (by omega) hc1.1
      rw [show (Option.map (fun x : Addr => x.add (1 * 4)) (some ⟨g, 0, none⟩)) = some ⟨g, 4, none⟩ from by simp [add_flat]] at this
      exact this
    have HO2 : Hid (∀ u ∈ cells.drop 4, u.oneCell' = true) := fun u hu => Rw.one (by decide) txnE_one hrw u (List.mem_of_mem_drop hu)
    have hgl := hown'.lt g rfl
    have HBX1 := Lib.hid (HBX.out.below_ hb1 HBX.out.lt)
    have HKEEP : Hid (∀ W, Below w1.heap.size w1 W → W.cell? ⟨g, 0, none⟩ = some (.int .i64 t.seq) ∧ W.cell? ⟨g, 1, none⟩ = some (.int .i64 t.pos) ∧ W.cell? ⟨g, 2, none⟩ = some (.int .i64 t.n) ∧ W.cell? ⟨g, 3, none⟩ = some (.slice A2 n2 c2)) := fun W hW =>
      ⟨(hW.cell (p := ⟨g, 0, none⟩) hgl.2).trans d0, (hW.cell (p := ⟨g, 1, none⟩) hgl.2).trans d1, (hW.cell (p := ⟨g, 2, none⟩) hgl.2).trans d2, (hW.cell (p := ⟨g, 3, none⟩) hgl.2).trans d3⟩
    have hgne : w.heap.size ≠ g := by have := hgl.1; simp at this; omega
    have HK2 : Hid (∀ W : World, W.cell? ⟨g, 0, none⟩ = some (.int .i64 t.seq) ∧ W.cell? ⟨g, 1, none⟩ = some (.int .i64 t.pos) ∧ W.cell? ⟨g, 2, none⟩ = some (.int .i64 t.n) ∧ W.cell? ⟨g, 3, none⟩ = some (.slice A2 n2 c2) → ((((W.setCell ⟨w.heap.size, 0, none⟩ (.int .i64 t.seq)).setCell ⟨w.heap.size, 1, none⟩ (.int .i64 t.pos)).setCell ⟨w.heap.size, 2, none⟩ (.int .i64 t.n)).setCell ⟨w.heap.size, 3, none⟩ (.slice A2 n2 c2)).cell? ⟨g, 0, none⟩ = some (.int .i64 t.seq) ∧ ((((W.setCell ⟨w.heap.size, 0, none⟩ (.int .i64 t.seq)).setCell ⟨w.heap.size, 1, none⟩ (.int .i64 t.pos)).setCell ⟨w.heap.size, 2, none⟩ (.int .i64 t.n)).setCell ⟨w.heap.size, 3, none⟩ (.slice A2 n2 c2)).cell? ⟨g, 1, none⟩ = some (.int .i64 t.pos) ∧ ((((W.setCell ⟨w.heap.size, 0, none⟩ (.int .i64 t.seq)).setCell ⟨w.heap.size, 1, none⟩ (.int .i64 t.pos)).setCell ⟨w.heap.size, 2, none⟩ (.int .i64 t.n)).setCell ⟨w.heap.size, 3, none⟩ (.slice A2 n2 c2)).cell? ⟨g, 2, none⟩ = some (.int .i64 t.n) ∧ ((((W.setCell ⟨w.heap.size, 0, none⟩ (.int .i64 t.seq)).setCell ⟨w.heap.size, 1, none⟩ (.int .i64 t.pos)).setCell ⟨w.heap.size, 2, none⟩ (.int .i64 t.n)).setCell ⟨w.heap.size, 3, none⟩ (.slice A2 n2 c2)).cell? ⟨g, 3, none⟩ = some (.slice A2 n2 c2)) := fun W ⟨h0, h1, h2, h3⟩ =>
      ⟨(set4_far W hgne _ _ _ _ 0).trans h0, (set4_far W hgne _ _ _ _ 1).trans h1, (set4_far W hgne _ _ _ _ 2).trans h2, (set4_far W hgne _ _ _ _ 3).trans h3⟩
    have HGL := Lib.hid hgl
    have HOWN := Lib.hid hown'
    have HRW := Lib.hid hrw
    have HB1 := Lib.hid hb1
    have HM := Lib.hid hs2
    clear hown hown' hrw hb1 m0 m1 m2 m3 hs2 hA1 hg1 hgl
    go_wp2_with fail
    refine wp_region_held_drew (S := (fun w' => w'.cell? ⟨g, 0, none⟩ = some (.int .i64 t.seq) ∧ w'.cell? ⟨g, 1, none⟩ = some (.int .i64 t.pos) ∧ w'.cell? ⟨g, 2, none⟩ = some (.int .i64 t.n) ∧ w'.cell? ⟨g, 3, none⟩ = some (.slice A2 n2 c2))) (by kernel_rfl) ?_ (fun hHeld => ?_)
    · try dsimp only
      exact ⟨d0, d1, d2, d3⟩
    refine wpAnyH_take (i := 0) (oi := _) (v := ?_) rfl (by kernel_rfl) (by kernel_rfl) (by kernel_rfl) (fun _ _ _ h => h) (Or.inl ⟨by rfl, ?_⟩) hHeld ?_
    rotate_left
    · intro w hSw
      try dsimp only at hSw
      go_simp
      try with_reducible rfl
    try simp only [List.getElem_toArray, List.getElem_cons_zero, Act.put, List.setIfInBounds_toArray, List.set_cons_zero, List.set_cons_succ]
    refine wpAnyH_take (i := 1) (oi := _) (v := ?_) rfl (by kernel_rfl) (by kernel_rfl) (by kernel_rfl) (fun _ _ _ h => h) (Or.inl ⟨by rfl, ?_⟩) hHeld ?_
    rotate_left
    · intro w hSw
      try dsimp only at hSw
      go_simp
      try with_reducible rfl
    try simp only [List.getElem_toArray, List.getElem_cons_succ, List.getElem_cons_zero, Act.put, List.setIfInBounds_toArray, List.set_cons_zero, List.set_cons_succ]
    refine wpAnyH_take (i := 2) (oi := _) (v := ?_) rfl (by kernel_rfl) (by kernel_rfl) (by kernel_rfl) (fun _ _ _ h => h) (Or.inl ⟨by rfl, ?_⟩) hHeld ?_
    rotate_left
    · intro w hSw
      try dsimp only at hSw
      go_simp
      try with_reducible rfl
    try simp only [List.getElem_toArray, List.getElem_cons_succ, List.getElem_cons_zero, Act.put, List.setIfInBounds_toArray, List.set_cons_zero, List.set_cons_succ]
    refine wpAnyH_take (i := 3) (oi := _) (v := ?_) rfl (by kernel_rfl) (by kernel_rfl) (by kernel_rfl) (fun _ _ _ h => h) (Or.inl ⟨by rfl, ?_⟩) hHeld ?_
    rotate_left
    · intro w hSw
      try dsimp only at hSw
      go_simp
      try with_reducible rfl
    try simp only [List.getElem_toArray, List.getElem_cons_succ, List.getElem_cons_zero, Act.put, List.setIfInBounds_toArray, List.set_cons_zero, List.set_cons_succ]
    refine wpAnyH_take (i := 4) (oi := _) (v := ?_) rfl (by kernel_rfl) (by kernel_rfl) (by kernel_rfl) (fun _ _ _ h => h) (Or.inl ⟨by rfl, ?_⟩) hHeld ?_
    rotate_left
    · intro w hSw
      try dsimp only at hSw
      go_simp
      try with_reducible rfl
    try simp only [List.getElem_toArray, List.getElem_cons_succ, List.getElem_cons_zero, Act.put, List.setIfInBounds_toArray, List.set_cons_zero, List.set_cons_succ]
    refine wpAnyH_ready (rs := [5]) (by kernel_rfl) (by simp) ?_
    refine AllReadyH.cons (o := _) rfl (fun K hK => ?_) AllReadyH.nil
    go_simp
    refine (cloneT_own _ _ _ (cells.drop 4) _ HR2.out HO2.out (by omega)).mono ?_
    rintro e1 w2 ⟨yv, rfl, hown2, hbw⟩
    have hb2 : Below w1.heap.size w1 w2 := (Below.drew (Below.refl _ _)).trans hbw
    have hbx2 := HBX1.out.below_ hb2 HBX1.out.lt
    have b0 := hbx2.cell 0
    have b1 := hbx2.cell 1
    have b2 := hbx2.cell 2
    have b3 := hbx2.cell 3
    have bf := fun i => frozen_of_row w2 w.heap.size i _ _ hbx2
    go_wp2_with fail
    refine hK.out _ _ ?_ (fun hHeld => ?_)
    · try dsimp only
      exact HKEEP.out _ hb2
    clear hK K
    have HB2 := Lib.hid hb2
    have HBX2 := Lib.hid hbx2
    have HOWN2 := Lib.hid hown2
    clear hb2 hbx2 hown2 hbw
    try simp only [List.getElem_toArray, List.getElem_cons_succ, List.getElem_cons_zero, Act.put, List.setIfInBounds_toArray, List.set_cons_zero, List.set_cons_succ]
    refine wpAnyH_ready (rs := [6]) (by kernel_rfl) (by simp) ?_
    refine AllReadyH.cons (o := _) rfl (fun K hK => ?_) AllReadyH.nil
    go_simp
    refine hK.out _ _ ?_ (fun hHeld => ?_)
    · try dsimp only
      exact HK2.out w2 (HKEEP.out _ HB2.out)
    clear hK K
    try simp only [List.getElem_toArray, List.getElem_cons_succ, List.getElem_cons_zero, Act.put, List.setIfInBounds_toArray, List.set_cons_zero, List.set_cons_succ]
    refine wpAnyH_take (i := 7) (oi := _) (v := ?_) rfl (by kernel_rfl) (by kernel_rfl) (by kernel_rfl) (fun _ _ _ h => h) (Or.inl ⟨by rfl, ?_⟩) hHeld ?_
    rotate_left
    · intro w hSw
      try dsimp only at hSw
      go_simp
      try with_reducible rfl
    try simp only [List.getElem_toArray, List.getElem_cons_succ, List.getElem_cons_zero, Act.put, List.setIfInBounds_toArray, List.set_cons_zero, List.set_cons_succ]
    refine wpAnyH_take (i := 8) (oi := _) (v := ?_) rfl (by kernel_rfl) (by kernel_rfl) (by kernel_rfl) (fun _ _ _ h => h) (Or.inl ⟨by rfl, ?_⟩) hHeld ?_
    rotate_left
    · intro w hSw
      try dsimp only at hSw
      go_simp
      try with_reducible rfl
    try simp only [List.getElem_toArray, List.getElem_cons_succ, List.getElem_cons_zero, Act.put, List.setIfInBounds_toArray, List.set_cons_zero, List.set_cons_succ]
    refine wpAnyH_done (by kernel_rfl) ?_ _
    go_wp2_with fail
    have HB3 : Hid (Below w.heap.size w w2) := (HB0.out.trans (HB1.out.mono HB0.out.size)).trans (HB2.out.mono (Nat.le_trans HB0.out.size HB1.out.size))
    have hB4 := (((HB3.out.setCell (p := ⟨w.heap.size, 0, none⟩) (Nat.le_refl _) (.int .i64 t.seq)).setCell (p := ⟨w.heap.size, 1, none⟩) (Nat.le_refl _) (.int .i64 t.pos)).setCell (p := ⟨w.heap.size, 2, none⟩) (Nat.le_refl _) (.int .i64 t.n)).setCell (p := ⟨w.heap.size, 3, none⟩) (Nat.le_refl _) (.slice A2 n2 c2)
    have hx4 := set4_blk HBX2.out (.int .i64 t.seq) (.int .i64 t.pos) (.int .i64 t.n) (.slice A2 n2 c2)
    have r0 := hx4.cell 0
    have r1 := hx4.cell 1
    have r2 := hx4.cell 2
    have r3 := hx4.cell 3
    have hp1 : ∀ b, (Fr (w.alloc (.cells #[.int .i64 0, .int .i64 0, .int .i64 0, .slice none 0 0] 37)).heap.size w1 b ∧ (Value.slice (some ⟨g, 0, none⟩) n c1).ownBlock ≠ some b) → b ≠ w.heap.size := fun b hb e => by have := hb.1.1; simp at this; omega
    have hm4 : ∀ b, (Fr (w.alloc (.cells #[.int .i64 0, .int .i64 0, .int .i64 0, .slice none 0 0] 37)).heap.size w1 b ∧ (Value.slice (some ⟨g, 0, none⟩) n c1).ownBlock ≠ some b) → Fr w.heap.size _ b := fun b hb => ⟨Nat.le_trans (by simp) hb.1.1, set4_thawed (B := w.heap.size) (hb.1.2.below HB2.out) (.int .i64 t.seq) (.int .i64 t.pos) (.int .i64 t.n) (.slice A2 n2 c2)⟩
    have hag := (Agree.of_below (p := fun b => Fr (w.alloc (.cells #[.int .i64 0, .int .i64 0, .int .i64 0, .slice none 0 0] 37)).heap.size w1 b ∧ (Value.slice (some ⟨g, 0, none⟩) n c1).ownBlock ≠ some b) HB2.out).trans (set4_agree w2 hp1 (.int .i64 t.seq) (.int .i64 t.pos) (.int .i64 t.n) (.slice A2 n2 c2))
    have hown4 := HOWN2.out.kept (set4_grown w2 w.heap.size (.int .i64 t.seq) (.int .i64 t.pos) (.int .i64 t.n) (.slice A2 n2 c2)) (by
      by_cases hn1 : yv.ownBlock = none
      · exact .inl hn1
      · refine .inr (fun e => ?_)
        have := (HOWN2.out.lt _ e).1
        have := HB1.out.size
        simp at *
        omega)
    refine bodyPost_ret (v := .tuple #[.agg #[.int .i64 t.seq, .int .i64 t.pos, .int .i64 t.n, .slice A2 n2 c2], yv, .int .i64 0]) (by simp at r0 r1 r2 r3; simp [results, Try.results12, go_sem, r0, r1, r2, r3]) rfl ⟨.inr ⟨t, ts, _, _, rfl, rfl, ⟨A2, n2, c2, rfl, q1, q2, (HM.out.keep imgE.good (by decide) hag).mono imgE.good hm4⟩, ?_⟩, hB4⟩
    have hl1 := HL.out
    simp at hl1
    refine SlcV.of_own txnE.good hown4 ((((Rw.tail_ txnE.good HRW.out).keep txnE.good hag)).mono txnE.good hm4) (by omega) (fun b hb => ⟨?_, (own_thawed hown4 b hb).2⟩)
    have h1 := (own_thawed hown4 b hb).1
    have h2 := HB1.out.size
    simp at h1 h2
    omega
end Go.Proofs.Ytedgalbhjfmafaa

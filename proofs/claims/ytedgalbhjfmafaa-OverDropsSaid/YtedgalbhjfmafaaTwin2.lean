/-
  Twins of slices of structs.
-/
import Derived.Test.YtedgalbhjfmafaaTwin
namespace Go.Proofs.Ytedgalbhjfmafaa
open Go.ChangeShapes Go.WideShapes Go.ChangeAt Go.RowKit
set_option linter.unusedVariables false
/-- what has been gathered -/
def Tw {α : Type} (k : Nat) (E : Elt α) (e : TypeId) (B : Nat) (wr : World) (v : Value) (ys : List α) : Prop := ∃ cells, wr.ownsRow B e k v ys.length cells ∧ Rw k E (fun b => Fr B wr b ∧ v.ownBlock ≠ some b) wr cells ys
theorem tw_step {α : Type} {k : Nat} {E : Elt α} (hE : Good k E) {e : TypeId} {B : Nat} {wr w1 w2 : World} {v v' : Value} {ys : List α} {cells new : List Value} {x : α} {o : Obj} (hown : wr.ownsRow B e k v ys.length cells) (hrw : Rw k E (fun b => Fr B wr b ∧ v.ownBlock ≠ some b) wr cells ys)
    (hB : B ≤ wr.heap.size) (hb1 : Below wr.heap.size wr w1) (hnl : new.length = k) (hnew : E (Fr wr.heap.size w1) w1 (fun i => new[i]?) x) (hown2 : w2.ownsRow B e k v' (ys.length + 1) (cells ++ new)) (hg : (w1.alloc o).grownBy w2 v.ownBlock)
    (hat : v'.ownBlock = v.ownBlock ∨ v'.ownBlock = some (w1.heap.size + 1)) : Tw k E e B w2 v' (ys ++ [x]) := by
  have hs1 := hb1.size
  have hal : Below w1.heap.size w1 (w1.alloc o) := (Below.refl _ _).alloc (Nat.le_refl _) o
  have hvl : ∀ g, v.ownBlock = some g → g < wr.heap.size := fun g hg => (hown.lt g hg).2
  refine ⟨cells ++ new, by simpa using hown2, Rw.snoc hE ?_ hnl ?_⟩
  · refine Rw.mono hE (fun b hb => ?_) (hrw.keep hE (((Agree.of_below hb1).trans (Agree.of_below hal)).trans (Agree.grown hg (fun b hb => hb.2))))
    refine ⟨⟨hb.1.1, ((hb.1.2.below hb1).below hal).grown hg hb.2⟩, ?_⟩
    rcases hat with e1 | e1
    · rw [e1]; exact hb.2
    · rw [e1]; intro e2; injection e2 with e2; have := hb.1.lt; omega
  · have hne : ∀ b, Fr wr.heap.size w1 b → v.ownBlock ≠ some b := fun b hb e1 => by have := hvl b e1; have := hb.1; omega
    refine hE.mono (fun b hb => ?_) (hE.keep ((Agree.of_below hal).trans (Agree.grown hg hne)) hnew)
    refine ⟨⟨Nat.le_trans hB hb.1, (hb.2.below hal).grown hg (hne b hb)⟩, ?_⟩
    rcases hat with e1 | e1
    · rw [e1]; exact hne b hb
    · rw [e1]; intro e2; injection e2 with e2; have := hb.lt; omega
theorem Tw.out {α : Type} {k : Nat} {E : Elt α} (hE : Good k E) {e : TypeId} {B : Nat} {wr : World} {v : Value} {ys : List α} (h : Tw k E e B wr v ys) : SlcV k E (Fr B wr) wr v ys := by
  obtain ⟨cells, hown, hrw⟩ := h
  exact SlcV.of_own hE hown (hrw.mono hE (fun b hb => hb.1)) rfl (own_thawed hown)
set_option maxRecDepth 100000 in
set_option maxHeartbeats 1600000 in
theorem twinImgs_any_own (A : Option Addr) (n c : Nat) (xs : List Img) (p : Nat → Prop) (w : World) (h : Slc 3 imgE p w A n xs) (hn : n ≤ 1000) (hx : ∀ x ∈ xs, x.bytes.length ≤ 1000) :
    Calls Try.prog 26 #[.slice A n c] w (Gives (fun v w' => Tw 3 imgE 49 w.heap.size w' v xs) w) := by
  obtain ⟨i0, hi, hz0, hz1, hz2⟩ := info_parts info49
  have HL := Lib.hid h.1
  have HXB := Lib.hid hx
  clear hx
  go_enter Try.func26, Try.ntmps26
  go_wp2_with fail
  go_loopw [3, 4] (fun v i wr => ∃ k : Nat, k ≤ n ∧ i = .int .i64 k ∧ Hid (Tw 3 imgE 49 w.heap.size wr v (xs.take k)) ∧ Hid (Below w.heap.size w wr)) (fun _ i _ => n - (intOf i).toNat)
  case atStart => exact ⟨0, by omega, rfl, ⟨[], World.ownsRow_nil _ _ _ _, Rw.nil_⟩, Below.refl _ _⟩
  case round =>
    obtain ⟨j, hj, rfl, hT, hB⟩ := hrel
    by_cases hlt : j < n
    · obtain ⟨x, hx⟩ : ∃ x, xs[j]? = some x := ⟨_, List.getElem?_eq_getElem (by rw [HL.out]; exact hlt)⟩
      obtain ⟨cells, hown, hrw⟩ := hT.out
      have hlen : (xs.take j).length = j := by rw [List.length_take, HL.out]; omega
      have HOWNL := Lib.hid hown
      rw [hlen] at hown
      have hbd := HXB.out x (List.mem_of_getElem? hx)
      have hsz := hB.out.size
      have HSZ := Lib.hid hsz
      obtain ⟨b, o, A', n', c', rfl, hp, c0, c1, c2, h3, h4, h5⟩ := imgE.at_ h hx
      have h5l := h5.1
      have HX := Lib.hid hx
      have HLEN := Lib.hid hlen
      have HOWN := Lib.hid hown
      have HRW := Lib.hid hrw
      have i0' : (0 : Int) ≤ (j : Int) := by omega
      have i1' : (j : Int) < (n : Int) := by omega
      have hlb : b < w.heap.size := World.block_lt_of_cell? _ _ c0
      have HCELL : Hid (∀ w', Below w.heap.size w w' → w'.cell? ⟨b, o + j * 3, none⟩ = some (.int .i64 x.zone) ∧ w'.cell? ⟨b, o + j * 3 + 1, none⟩ = some (.int .i64 x.what) ∧ w'.cell? ⟨b, o + j * 3 + 2, none⟩ = some (.slice A' n' c')) := fun w' hw' => ⟨(hw'.cell (p := ⟨b, o + j * 3, none⟩) hlb).trans c0, (hw'.cell (p := ⟨b, o + j * 3 + 1, none⟩) hlb).trans c1, (hw'.cell (p := ⟨b, o + j * 3 + 2, none⟩) hlb).trans c2⟩
      clear hx hown hrw h hlen hT hsz c0 c1 c2  hlb
      go_wp2_with fail
      refine wp_region_held_drew (S := (fun w' => Below w.heap.size w w' ∧ w'.cell? ⟨b, o + j * 3, none⟩ = some (.int .i64 x.zone) ∧ w'.cell? ⟨b, o + j * 3 + 1, none⟩ = some (.int .i64 x.what) ∧ w'.cell? ⟨b, o + j * 3 + 2, none⟩ = some (.slice A' n' c'))) (by kernel_rfl) ?_ (fun hHeld => ?_)
      · try dsimp only
        exact ⟨hB.out.drew, HCELL.out _ hB.out.drew⟩
      refine wpAnyH_take (i := 0) (oi := _) (v := ?_) rfl (by kernel_rfl) (by kernel_rfl) (by kernel_rfl) (fun _ _ _ h => h) (Or.inl ⟨by rfl, ?_⟩) hHeld ?_
      rotate_left
      · intro w hSw
        try dsimp only at hSw
        go_simp
        try with_reducible rfl
      try simp only [List.getElem_toArray, List.getElem_cons_zero, Act.put, List.setIfInBounds_toArray, List.set_cons_zero, List.set_cons_succ]
      refine wpAnyH_take (i := 1) (oi := _) (v := ?_) rfl (by kernel_rfl) (by kernel_rfl) (by kernel_rfl) (fun _ _ _ h => h) (Or.inl ⟨by rfl, ?_⟩) hHeld ?_
      rotate_left
      · intro w hSw
        try dsimp only at hSw
        go_simp
        try with_reducible rfl
      try simp only [List.getElem_toArray, List.getElem_cons_succ, List.getElem_cons_zero, Act.put, List.setIfInBounds_toArray, List.set_cons_zero, List.set_cons_succ]
      refine wpAnyH_take (i := 2) (oi := _) (v := ?_) rfl (by kernel_rfl) (by kernel_rfl) (by kernel_rfl) (fun _ _ _ h => h) (Or.inl ⟨by rfl, ?_⟩) hHeld ?_
      rotate_left
      · intro w hSw
        try dsimp only at hSw
        go_simp
        try with_reducible rfl
      try simp only [List.getElem_toArray, List.getElem_cons_succ, List.getElem_cons_zero, Act.put, List.setIfInBounds_toArray, List.set_cons_zero, List.set_cons_succ]
      refine wpAnyH_take (i := 3) (oi := _) (v := ?_) rfl (by kernel_rfl) (by kernel_rfl) (by kernel_rfl) (fun _ _ _ h => h) (Or.inl ⟨by rfl, ?_⟩) hHeld ?_
      rotate_left
      · intro w hSw
        try dsimp only at hSw
        go_simp
        try with_reducible rfl
      try simp only [List.getElem_toArray, List.getElem_cons_succ, List.getElem_cons_zero, Act.put, List.setIfInBounds_toArray, List.set_cons_zero, List.set_cons_succ]
      refine wpAnyH_take (i := 4) (oi := _) (v := ?_) rfl (by kernel_rfl) (by kernel_rfl) (by kernel_rfl) (fun _ _ _ h => h) (Or.inl ⟨by rfl, ?_⟩) hHeld ?_
      rotate_left
      · intro w hSw
        try dsimp only at hSw
        go_simp
        try with_reducible rfl
      try simp only [List.getElem_toArray, List.getElem_cons_succ, List.getElem_cons_zero, Act.put, List.setIfInBounds_toArray, List.set_cons_zero, List.set_cons_succ]
      refine wpAnyH_take (i := 5) (oi := _) (v := ?_) rfl (by kernel_rfl) (by kernel_rfl) (by kernel_rfl) (fun _ _ _ h => h) (Or.inl ⟨by rfl, ?_⟩) hHeld ?_
      rotate_left
      · intro w hSw
        try dsimp only at hSw
        go_simp
        try with_reducible rfl
      try simp only [List.getElem_toArray, List.getElem_cons_succ, List.getElem_cons_zero, Act.put, List.setIfInBounds_toArray, List.set_cons_zero, List.set_cons_succ]
      refine wpAnyH_take (i := 6) (oi := _) (v := ?_) rfl (by kernel_rfl) (by kernel_rfl) (by kernel_rfl) (fun _ _ _ h => h) (Or.inl ⟨by rfl, ?_⟩) hHeld ?_
      rotate_left
      · intro w hSw
        try dsimp only at hSw
        go_simp
        try with_reducible rfl
      try simp only [List.getElem_toArray, List.getElem_cons_succ, List.getElem_cons_zero, Act.put, List.setIfInBounds_toArray, List.set_cons_zero, List.set_cons_succ]
      refine wpAnyH_take (i := 7) (oi := _) (v := ?_) rfl (by kernel_rfl) (by kernel_rfl) (by kernel_rfl) (fun _ _ _ h => h) (Or.inl ⟨by rfl, ?_⟩) hHeld ?_
      rotate_left
      · intro w hSw
        try dsimp only at hSw
        go_simp
        try with_reducible rfl
      try simp only [List.getElem_toArray, List.getElem_cons_succ, List.getElem_cons_zero, Act.put, List.setIfInBounds_toArray, List.set_cons_zero, List.set_cons_succ]
      refine wpAnyH_take (i := 8) (oi := _) (v := ?_) rfl (by kernel_rfl) (by kernel_rfl) (by kernel_rfl) (fun _ _ _ h => h) (Or.inl ⟨by rfl, ?_⟩) hHeld ?_
      rotate_left
      · intro w hSw
        try dsimp only at hSw
        go_simp
        try with_reducible rfl
      try simp only [List.getElem_toArray, List.getElem_cons_succ, List.getElem_cons_zero, Act.put, List.setIfInBounds_toArray, List.set_cons_zero, List.set_cons_succ]
      refine wpAnyH_take (i := 9) (oi := _) (v := ?_) rfl (by kernel_rfl) (by kernel_rfl) (by kernel_rfl) (fun _ _ _ h => h) (Or.inl ⟨by rfl, ?_⟩) hHeld ?_
      rotate_left
      · intro w hSw
        try dsimp only at hSw
        go_simp
        try with_reducible rfl
      try simp only [List.getElem_toArray, List.getElem_cons_succ, List.getElem_cons_zero, Act.put, List.setIfInBounds_toArray, List.set_cons_zero, List.set_cons_succ]
      refine wpAnyH_take (i := 10) (oi := _) (v := ?_) rfl (by kernel_rfl) (by kernel_rfl) (by kernel_rfl) (fun _ _ _ h => h) (Or.inl ⟨by rfl, ?_⟩) hHeld ?_
      rotate_left
      · intro w hSw
        try dsimp only at hSw
        go_simp
        try with_reducible rfl
      try simp only [List.getElem_toArray, List.getElem_cons_succ, List.getElem_cons_zero, Act.put, List.setIfInBounds_toArray, List.set_cons_zero, List.set_cons_succ]
      refine wpAnyH_take (i := 11) (oi := _) (v := ?_) rfl (by kernel_rfl) (by kernel_rfl) (by kernel_rfl) (fun _ _ _ h => h) (Or.inl ⟨by rfl, ?_⟩) hHeld ?_
      rotate_left
      · intro w hSw
        try dsimp only at hSw
        go_simp
        try with_reducible rfl
      try simp only [List.getElem_toArray, List.getElem_cons_succ, List.getElem_cons_zero, Act.put, List.setIfInBounds_toArray, List.set_cons_zero, List.set_cons_succ]
      refine wpAnyH_take (i := 12) (oi := _) (v := ?_) rfl (by kernel_rfl) (by kernel_rfl) (by kernel_rfl) (fun _ _ _ h => h) (Or.inl ⟨by rfl, ?_⟩) hHeld ?_
      rotate_left
      · intro w hSw
        try dsimp only at hSw
        go_simp
        try with_reducible rfl
      try simp only [List.getElem_toArray, List.getElem_cons_succ, List.getElem_cons_zero, Act.put, List.setIfInBounds_toArray, List.set_cons_zero, List.set_cons_succ]
      refine wpAnyH_take (i := 13) (oi := _) (v := ?_) rfl (by kernel_rfl) (by kernel_rfl) (by kernel_rfl) (fun _ _ _ h => h) (Or.inl ⟨by rfl, ?_⟩) hHeld ?_
      rotate_left
      · intro w hSw
        try dsimp only at hSw
        go_simp
        try with_reducible rfl
      try simp only [List.getElem_toArray, List.getElem_cons_succ, List.getElem_cons_zero, Act.put, List.setIfInBounds_toArray, List.set_cons_zero, List.set_cons_succ]
      refine wpAnyH_take (i := 14) (oi := _) (v := ?_) rfl (by kernel_rfl) (by kernel_rfl) (by kernel_rfl) (fun _ _ _ h => h) (Or.inl ⟨by rfl, ?_⟩) hHeld ?_
      rotate_left
      · intro w hSw
        try dsimp only at hSw
        go_simp
        try with_reducible rfl
      try simp only [List.getElem_toArray, List.getElem_cons_succ, List.getElem_cons_zero, Act.put, List.setIfInBounds_toArray, List.set_cons_zero, List.set_cons_succ]
      refine wpAnyH_take (i := 15) (oi := _) (v := ?_) rfl (by kernel_rfl) (by kernel_rfl) (by kernel_rfl) (fun _ _ _ h => h) (Or.inl ⟨by rfl, ?_⟩) hHeld ?_
      rotate_left
      · intro w hSw
        try dsimp only at hSw
        go_simp
        try with_reducible rfl
      try simp only [List.getElem_toArray, List.getElem_cons_succ, List.getElem_cons_zero, Act.put, List.setIfInBounds_toArray, List.set_cons_zero, List.set_cons_succ]
      refine wpAnyH_ready (rs := [16]) (by kernel_rfl) (by simp) ?_
      refine AllReadyH.cons (o := _) rfl (fun K hK => ?_) AllReadyH.nil
      go_simp
      refine (twin_any _ _ _ _ _ _ (h5.keep (intE.good _) (by decide) (Agree.of_below hB.out.drew)) (by omega)).mono ?_
      rintro e1 w1 ⟨bv, rfl, hbv, hbw⟩
      obtain ⟨A2, n2, c2, hq2, hs2⟩ := id hbv
      subst hq2
      clear hs2
      have hb1 : Below wr.heap.size wr w1 := (Below.drew (Below.refl _ _)).trans hbw
      go_wp2_with fail
      refine hK.out _ _ ?_ (fun hHeld => ?_)
      · try dsimp only
        exact ⟨hB.out.trans (hb1.mono HSZ.out), HCELL.out _ (hB.out.trans (hb1.mono HSZ.out))⟩
      clear hK K
      have HB1 := Lib.hid hb1
      have HBV := Lib.hid hbv
      clear hb1 hbv hbw
      try simp only [List.getElem_toArray, List.getElem_cons_succ, List.getElem_cons_zero, Act.put, List.setIfInBounds_toArray, List.set_cons_zero, List.set_cons_succ]
      refine wpAnyH_take (i := 17) (oi := _) (v := ?_) rfl (by kernel_rfl) (by kernel_rfl) (by kernel_rfl) (fun _ _ _ h => h) (Or.inl ⟨by rfl, ?_⟩) hHeld ?_
      rotate_left
      · intro w hSw
        try dsimp only at hSw
        go_simp
        try with_reducible rfl
      try simp only [List.getElem_toArray, List.getElem_cons_succ, List.getElem_cons_zero, Act.put, List.setIfInBounds_toArray, List.set_cons_zero, List.set_cons_succ]
      refine wpAnyH_ready (rs := [18]) (by kernel_rfl) (by simp) ?_
      refine AllReadyH.cons (o := _) rfl (fun K hK => ?_) AllReadyH.nil
      go_simp
      refine hK.out _ _ ?_ (fun hHeld => ?_)
      · try dsimp only
        exact (fun hb => ⟨hb, HCELL.out _ hb⟩) ((hB.out.trans (HB1.out.mono HSZ.out)).alloc (Nat.le_trans HSZ.out HB1.out.size) _)
      clear hK K
      try simp only [List.getElem_toArray, List.getElem_cons_succ, List.getElem_cons_zero, Act.put, List.setIfInBounds_toArray, List.set_cons_zero, List.set_cons_succ]
      refine wpAnyH_ready (rs := [19]) (by kernel_rfl) (by simp) ?_
      refine AllReadyH.cons (o := _) rfl (fun K hK => ?_) AllReadyH.nil
      refine step_append_any _ (by rfl) _ _ _ (by rfl) w.heap.size 49 i0 _ 3 40 Try.underlying35 hi hz0 hz1 hz2 rfl (by omega) u3 j cells (by rfl) ((own_below HOWN.out HB1.out).alloc _)
        (w1.heap.size + 1) (some ⟨w1.heap.size, 0, none⟩) 1 1 [(.int .i64 x.zone), (.int .i64 x.what), (.slice A2 n2 c2)] (by rfl) ⟨by rfl, fun _ => ⟨_, rfl, Nat.lt_succ_self _, World.news_of_block (cs := #[(.int .i64 x.zone), (.int .i64 x.what), (.slice A2 n2 c2)]) (t := 49) (fr := (0, 0)) (heap_alloc_new w1 _)⟩⟩ ?c1 ?c2 ?c3 ?c4 ?_
      case c1 => (intro u hu; simp at hu; rcases hu with rfl | rfl | rfl <;> rfl)
      case c2 => unfold maxLen; omega
      case c3 => omega
      case c4 => exact Nat.le_trans HSZ.out (Nat.le_trans HB1.out.size (by simp))
      intro v2 w2 hown2 hgrow hat
      have hfin := Lib.hid (tw_step (new := [(.int .i64 x.zone), (.int .i64 x.what), (.slice A2 n2 c2)]) imgE.good HOWNL.out HRW.out HSZ.out HB1.out (by rfl) ⟨rfl, rfl, _, rfl, HBV.out⟩ (by rw [HLEN.out]; exact hown2) hgrow (by simpa using hat))
      have hb2 : Below w.heap.size w w2 := (((hB.out.trans (HB1.out.mono HSZ.out)).alloc (Nat.le_trans HSZ.out HB1.out.size) _).grown hgrow (Nat.le_trans HSZ.out (Nat.le_trans HB1.out.size (by simp))) (fun g hg => (HOWN.out.lt g hg).1))
      have HB2 := Lib.hid hb2
      clear hown2 hgrow hat hb2
      refine hK.out _ _ ?_ (fun hHeld => ?_)
      · try dsimp only
        exact ⟨HB2.out, HCELL.out _ HB2.out⟩
      clear hK K
      try simp only [List.getElem_toArray, List.getElem_cons_succ, List.getElem_cons_zero, Act.put, List.setIfInBounds_toArray, List.set_cons_zero, List.set_cons_succ]
      refine wpAnyH_take (i := 20) (oi := _) (v := ?_) rfl (by kernel_rfl) (by kernel_rfl) (by kernel_rfl) (fun _ _ _ h => h) (Or.inl ⟨by rfl, ?_⟩) hHeld ?_
      rotate_left
      · intro w hSw
        try dsimp only at hSw
        go_simp
        try with_reducible rfl
      try simp only [List.getElem_toArray, List.getElem_cons_succ, List.getElem_cons_zero, Act.put, List.setIfInBounds_toArray, List.set_cons_zero, List.set_cons_succ]
      refine wpAnyH_done (by kernel_rfl) ?_ _
      go_wp2_with fail
      go_roundw
      case rel => exact ⟨j + 1, by omega, by go_num, by rw [List.take_add_one, HX.out]; exact hfin.out, HB2.out⟩
      case measure => simp [intOf]; omega
    · obtain rfl : j = n := by omega
      have HT2 := Lib.hid hT.out
      clear hT h
      go_wp2_with fail
      go_ret
      have hT3 := HT2.out
      rw [List.take_of_length_le (by rw [HL.out]; exact Nat.le_refl _)] at hT3
      exact ⟨_, rfl, hT3, hB.out⟩
theorem twinImgs_any (A : Option Addr) (n c : Nat) (xs : List Img) (p : Nat → Prop) (w : World) (h : Slc 3 imgE p w A n xs) (hn : n ≤ 1000) (hx : ∀ x ∈ xs, x.bytes.length ≤ 1000) :
    Calls Try.prog 26 #[.slice A n c] w (Gives (fun v w' => SlcV 3 imgE (Fr w.heap.size w') w' v xs) w) := by
  refine (twinImgs_any_own A n c xs p w h hn hx).mono ?_
  rintro e w' ⟨v, rfl, hT, hb⟩
  exact ⟨v, rfl, hT.out imgE.good, hb⟩
set_option maxRecDepth 100000 in
set_option maxHeartbeats 1600000 in
theorem twinTxns_any_own (A : Option Addr) (n c : Nat) (xs : List Txn) (p : Nat → Prop) (w : World) (h : Slc 4 txnE p w A n xs) (hn : n ≤ 1000) (hx : ∀ x ∈ xs, x.images.length ≤ 1000 ∧ ∀ y ∈ x.images, y.bytes.length ≤ 1000) :
    Calls Try.prog 8 #[.slice A n c] w (Gives (fun v w' => Tw 4 txnE 37 w.heap.size w' v xs) w) := by
  obtain ⟨i0, hi, hz0, hz1, hz2⟩ := info_parts info37
  have HL := Lib.hid h.1
  have HXB := Lib.hid hx
  clear hx
  go_enter Try.func8, Try.ntmps8
  go_wp2_with fail
  go_loopw [3, 4] (fun v i wr => ∃ k : Nat, k ≤ n ∧ i = .int .i64 k ∧ Hid (Tw 4 txnE 37 w.heap.size wr v (xs.take k)) ∧ Hid (Below w.heap.size w wr)) (fun _ i _ => n - (intOf i).toNat)
  case atStart => exact ⟨0, by omega, rfl, ⟨[], World.ownsRow_nil _ _ _ _, Rw.nil_⟩, Below.refl _ _⟩
  case round =>
    obtain ⟨j, hj, rfl, hT, hB⟩ := hrel
    by_cases hlt : j < n
    · obtain ⟨x, hx⟩ : ∃ x, xs[j]? = some x := ⟨_, List.getElem?_eq_getElem (by rw [HL.out]; exact hlt)⟩
      obtain ⟨cells, hown, hrw⟩ := hT.out
      have hlen : (xs.take j).length = j := by rw [List.length_take, HL.out]; omega
      have HOWNL := Lib.hid hown
      rw [hlen] at hown
      have hbd := HXB.out x (List.mem_of_getElem? hx)
      have hsz := hB.out.size
      have HSZ := Lib.hid hsz
      obtain ⟨b, o, A', n', c', rfl, hp, c0, c1, c2, c3, h4, h5, h6⟩ := txnE.at_ h hx
      have h6l := h6.1
      have hbd1 := hbd.1
      have HX := Lib.hid hx
      have HLEN := Lib.hid hlen
      have HOWN := Lib.hid hown
      have HRW := Lib.hid hrw
      have i0' : (0 : Int) ≤ (j : Int) := by omega
      have i1' : (j : Int) < (n : Int) := by omega
      have hlb : b < w.heap.size := World.block_lt_of_cell? _ _ c0
      have HCELL : Hid (∀ w', Below w.heap.size w w' → w'.cell? ⟨b, o + j * 4, none⟩ = some (.int .i64 x.seq) ∧ w'.cell? ⟨b, o + j * 4 + 1, none⟩ = some (.int .i64 x.pos) ∧ w'.cell? ⟨b, o + j * 4 + 2, none⟩ = some (.int .i64 x.n) ∧ w'.cell? ⟨b, o + j * 4 + 3, none⟩ = some (.slice A' n' c')) := fun w' hw' => ⟨(hw'.cell (p := ⟨b, o + j * 4, none⟩) hlb).trans c0, (hw'.cell (p := ⟨b, o + j * 4 + 1, none⟩) hlb).trans c1, (hw'.cell (p := ⟨b, o + j * 4 + 2, none⟩) hlb).trans c2, (hw'.cell (p := ⟨b, o + j * 4 + 3, none⟩) hlb).trans c3⟩
      clear hx hown hrw h hlen hT hsz c0 c1 c2 c3 hlb
      go_wp2_with fail
      refine wp_region_held_drew (S := (fun w' => Below w.heap.size w w' ∧ w'.cell? ⟨b, o + j * 4, none⟩ = some (.int .i64 x.seq) ∧ w'.cell? ⟨b, o + j * 4 + 1, none⟩ = some (.int .i64 x.pos) ∧ w'.cell? ⟨b, o + j * 4 + 2, none⟩ = some (.int .i64 x.n) ∧ w'.cell? ⟨b, o + j * 4 + 3, none⟩ = some (.slice A' n' c'))) (by kernel_rfl) ?_ (fun hHeld => ?_)
      · try dsimp only
        exact ⟨hB.out.drew, HCELL.out _ hB.out.drew⟩
      refine wpAnyH_take (i := 0) (oi := _) (v := ?_) rfl (by kernel_rfl) (by kernel_rfl) (by kernel_rfl) (fun _ _ _ h => h) (Or.inl ⟨by rfl, ?_⟩) hHeld ?_
      rotate_left
      · intro w hSw
        try dsimp only at hSw
        go_simp
        try with_reducible rfl
      try simp only [List.getElem_toArray, List.getElem_cons_zero, Act.put, List.setIfInBounds_toArray, List.set_cons_zero, List.set_cons_succ]
      refine wpAnyH_take (i := 1) (oi := _) (v := ?_) rfl (by kernel_rfl) (by kernel_rfl) (by kernel_rfl) (fun _ _ _ h => h) (Or.inl ⟨by rfl, ?_⟩) hHeld ?_
      rotate_left
      · intro w hSw
        try dsimp only at hSw
        go_simp
        try with_reducible rfl
      try simp only [List.getElem_toArray, List.getElem_cons_succ, List.getElem_cons_zero, Act.put, List.setIfInBounds_toArray, List.set_cons_zero, List.set_cons_succ]
      refine wpAnyH_take (i := 2) (oi := _) (v := ?_) rfl (by kernel_rfl) (by kernel_rfl) (by kernel_rfl) (fun _ _ _ h => h) (Or.inl ⟨by rfl, ?_⟩) hHeld ?_
      rotate_left
      · intro w hSw
        try dsimp only at hSw
        go_simp
        try with_reducible rfl
      try simp only [List.getElem_toArray, List.getElem_cons_succ, List.getElem_cons_zero, Act.put, List.setIfInBounds_toArray, List.set_cons_zero, List.set_cons_succ]
      refine wpAnyH_take (i := 3) (oi := _) (v := ?_) rfl (by kernel_rfl) (by kernel_rfl) (by kernel_rfl) (fun _ _ _ h => h) (Or.inl ⟨by rfl, ?_⟩) hHeld ?_
      rotate_left
      · intro w hSw
        try dsimp only at hSw
        go_simp
        try with_reducible rfl
      try simp only [List.getElem_toArray, List.getElem_cons_succ, List.getElem_cons_zero, Act.put, List.setIfInBounds_toArray, List.set_cons_zero, List.set_cons_succ]
      refine wpAnyH_take (i := 4) (oi := _) (v := ?_) rfl (by kernel_rfl) (by kernel_rfl) (by kernel_rfl) (fun _ _ _ h => h) (Or.inl ⟨by rfl, ?_⟩) hHeld ?_
      rotate_left
      · intro w hSw
        try dsimp only at hSw
        go_simp
        try with_reducible rfl
      try simp only [List.getElem_toArray, List.getElem_cons_succ, List.getElem_cons_zero, Act.put, List.setIfInBounds_toArray, List.set_cons_zero, List.set_cons_succ]
      refine wpAnyH_take (i := 5) (oi := _) (v := ?_) rfl (by kernel_rfl) (by kernel_rfl) (by kernel_rfl) (fun _ _ _ h => h) (Or.inl ⟨by rfl, ?_⟩) hHeld ?_
      rotate_left
      · intro w hSw
        try dsimp only at hSw
        go_simp
        try with_reducible rfl
      try simp only [List.getElem_toArray, List.getElem_cons_succ, List.getElem_cons_zero, Act.put, List.setIfInBounds_toArray, List.set_cons_zero, List.set_cons_succ]
      refine wpAnyH_take (i := 6) (oi := _) (v := ?_) rfl (by kernel_rfl) (by kernel_rfl) (by kernel_rfl) (fun _ _ _ h => h) (Or.inl ⟨by rfl, ?_⟩) hHeld ?_
      rotate_left
      · intro w hSw
        try dsimp only at hSw
        go_simp
        try with_reducible rfl
      try simp only [List.getElem_toArray, List.getElem_cons_succ, List.getElem_cons_zero, Act.put, List.setIfInBounds_toArray, List.set_cons_zero, List.set_cons_succ]
      refine wpAnyH_take (i := 7) (oi := _) (v := ?_) rfl (by kernel_rfl) (by kernel_rfl) (by kernel_rfl) (fun _ _ _ h => h) (Or.inl ⟨by rfl, ?_⟩) hHeld ?_
      rotate_left
      · intro w hSw
        try dsimp only at hSw
        go_simp
        try with_reducible rfl
      try simp only [List.getElem_toArray, List.getElem_cons_succ, List.getElem_cons_zero, Act.put, List.setIfInBounds_toArray, List.set_cons_zero, List.set_cons_succ]
      refine wpAnyH_take (i := 8) (oi := _) (v := ?_) rfl (by kernel_rfl) (by kernel_rfl) (by kernel_rfl) (fun _ _ _ h => h) (Or.inl ⟨by rfl, ?_⟩) hHeld ?_
      rotate_left
      · intro w hSw
        try dsimp only at hSw
        go_simp
        try with_reducible rfl
      try simp only [List.getElem_toArray, List.getElem_cons_succ, List.getElem_cons_zero, Act.put, List.setIfInBounds_toArray, List.set_cons_zero, List.set_cons_succ]
      refine wpAnyH_take (i := 9) (oi := _) (v := ?_) rfl (by kernel_rfl) (by kernel_rfl) (by kernel_rfl) (fun _ _ _ h => h) (Or.inl ⟨by rfl, ?_⟩) hHeld ?_
      rotate_left
      · intro w hSw
        try dsimp only at hSw
        go_simp
        try with_reducible rfl
      try simp only [List.getElem_toArray, List.getElem_cons_succ, List.getElem_cons_zero, Act.put, List.setIfInBounds_toArray, List.set_cons_zero, List.set_cons_succ]
      refine wpAnyH_take (i := 10) (oi := _) (v := ?_) rfl (by kernel_rfl) (by kernel_rfl) (by kernel_rfl) (fun _ _ _ h => h) (Or.inl ⟨by rfl, ?_⟩) hHeld ?_
      rotate_left
      · intro w hSw
        try dsimp only at hSw
        go_simp
        try with_reducible rfl
      try simp only [List.getElem_toArray, List.getElem_cons_succ, List.getElem_cons_zero, Act.put, List.setIfInBounds_toArray, List.set_cons_zero, List.set_cons_succ]
      refine wpAnyH_take (i := 11) (oi := _) (v := ?_) rfl (by kernel_rfl) (by kernel_rfl) (by kernel_rfl) (fun _ _ _ h => h) (Or.inl ⟨by rfl, ?_⟩) hHeld ?_
      rotate_left
      · intro w hSw
        try dsimp only at hSw
        go_simp
        try with_reducible rfl
      try simp only [List.getElem_toArray, List.getElem_cons_succ, List.getElem_cons_zero, Act.put, List.setIfInBounds_toArray, List.set_cons_zero, List.set_cons_succ]
      refine wpAnyH_take (i := 12) (oi := _) (v := ?_) rfl (by kernel_rfl) (by kernel_rfl) (by kernel_rfl) (fun _ _ _ h => h) (Or.inl ⟨by rfl, ?_⟩) hHeld ?_
      rotate_left
      · intro w hSw
        try dsimp only at hSw
        go_simp
        try with_reducible rfl
      try simp only [List.getElem_toArray, List.getElem_cons_succ, List.getElem_cons_zero, Act.put, List.setIfInBounds_toArray, List.set_cons_zero, List.set_cons_succ]
      refine wpAnyH_take (i := 13) (oi := _) (v := ?_) rfl (by kernel_rfl) (by kernel_rfl) (by kernel_rfl) (fun _ _ _ h => h) (Or.inl ⟨by rfl, ?_⟩) hHeld ?_
      rotate_left
      · intro w hSw
        try dsimp only at hSw
        go_simp
        try with_reducible rfl
      try simp only [List.getElem_toArray, List.getElem_cons_succ, List.getElem_cons_zero, Act.put, List.setIfInBounds_toArray, List.set_cons_zero, List.set_cons_succ]
      refine wpAnyH_take (i := 14) (oi := _) (v := ?_) rfl (by kernel_rfl) (by kernel_rfl) (by kernel_rfl) (fun _ _ _ h => h) (Or.inl ⟨by rfl, ?_⟩) hHeld ?_
      rotate_left
      · intro w hSw
        try dsimp only at hSw
        go_simp
        try with_reducible rfl
      try simp only [List.getElem_toArray, List.getElem_cons_succ, List.getElem_cons_zero, Act.put, List.setIfInBounds_toArray, List.set_cons_zero, List.set_cons_succ]
      refine wpAnyH_take (i := 15) (oi := _) (v := ?_) rfl (by kernel_rfl) (by kernel_rfl) (by kernel_rfl) (fun _ _ _ h => h) (Or.inl ⟨by rfl, ?_⟩) hHeld ?_
      rotate_left
      · intro w hSw
        try dsimp only at hSw
        go_simp
        try with_reducible rfl
      try simp only [List.getElem_toArray, List.getElem_cons_succ, List.getElem_cons_zero, Act.put, List.setIfInBounds_toArray, List.set_cons_zero, List.set_cons_succ]
      refine wpAnyH_take (i := 16) (oi := _) (v := ?_) rfl (by kernel_rfl) (by kernel_rfl) (by kernel_rfl) (fun _ _ _ h => h) (Or.inl ⟨by rfl, ?_⟩) hHeld ?_
      rotate_left
      · intro w hSw
        try dsimp only at hSw
        go_simp
        try with_reducible rfl
      try simp only [List.getElem_toArray, List.getElem_cons_succ, List.getElem_cons_zero, Act.put, List.setIfInBounds_toArray, List.set_cons_zero, List.set_cons_succ]
      refine wpAnyH_take (i := 17) (oi := _) (v := ?_) rfl (by kernel_rfl) (by kernel_rfl) (by kernel_rfl) (fun _ _ _ h => h) (Or.inl ⟨by rfl, ?_⟩) hHeld ?_
      rotate_left
      · intro w hSw
        try dsimp only at hSw
        go_simp
        try with_reducible rfl
      try simp only [List.getElem_toArray, List.getElem_cons_succ, List.getElem_cons_zero, Act.put, List.setIfInBounds_toArray, List.set_cons_zero, List.set_cons_succ]
      refine wpAnyH_take (i := 18) (oi := _) (v := ?_) rfl (by kernel_rfl) (by kernel_rfl) (by kernel_rfl) (fun _ _ _ h => h) (Or.inl ⟨by rfl, ?_⟩) hHeld ?_
      rotate_left
      · intro w hSw
        try dsimp only at hSw
        go_simp
        try with_reducible rfl
      try simp only [List.getElem_toArray, List.getElem_cons_succ, List.getElem_cons_zero, Act.put, List.setIfInBounds_toArray, List.set_cons_zero, List.set_cons_succ]
      refine wpAnyH_take (i := 19) (oi := _) (v := ?_) rfl (by kernel_rfl) (by kernel_rfl) (by kernel_rfl) (fun _ _ _ h => h) (Or.inl ⟨by rfl, ?_⟩) hHeld ?_
      rotate_left
      · intro w hSw
        try dsimp only at hSw
        go_simp
        try with_reducible rfl
      try simp only [List.getElem_toArray, List.getElem_cons_succ, List.getElem_cons_zero, Act.put, List.setIfInBounds_toArray, List.set_cons_zero, List.set_cons_succ]
      refine wpAnyH_take (i := 20) (oi := _) (v := ?_) rfl (by kernel_rfl) (by kernel_rfl) (by kernel_rfl) (fun _ _ _ h => h) (Or.inl ⟨by rfl, ?_⟩) hHeld ?_
      rotate_left
      · intro w hSw
        try dsimp only at hSw
        go_simp
        try with_reducible rfl
      try simp only [List.getElem_toArray, List.getElem_cons_succ, List.getElem_cons_zero, Act.put, List.setIfInBounds_toArray, List.set_cons_zero, List.set_cons_succ]
      refine wpAnyH_ready (rs := [21]) (by kernel_rfl) (by simp) ?_
      refine AllReadyH.cons (o := _) rfl (fun K hK => ?_) AllReadyH.nil
      go_simp
      refine (twinImgs_any _ _ _ _ _ _ (h6.keep imgE.good (by decide) (Agree.of_below hB.out.drew)) (by omega) hbd.2).mono ?_
      rintro e1 w1 ⟨bv, rfl, hbv, hbw⟩
      obtain ⟨A2, n2, c2, hq2, hs2⟩ := id hbv
      subst hq2
      clear hs2
      have hb1 : Below wr.heap.size wr w1 := (Below.drew (Below.refl _ _)).trans hbw
      go_wp2_with fail
      refine hK.out _ _ ?_ (fun hHeld => ?_)
      · try dsimp only
        exact ⟨hB.out.trans (hb1.mono HSZ.out), HCELL.out _ (hB.out.trans (hb1.mono HSZ.out))⟩
      clear hK K
      have HB1 := Lib.hid hb1
      have HBV := Lib.hid hbv
      clear hb1 hbv hbw
      try simp only [List.getElem_toArray, List.getElem_cons_succ, List.getElem_cons_zero, Act.put, List.setIfInBounds_toArray, List.set_cons_zero, List.set_cons_succ]
      refine wpAnyH_take (i := 22) (oi := _) (v := ?_) rfl (by kernel_rfl) (by kernel_rfl) (by kernel_rfl) (fun _ _ _ h => h) (Or.inl ⟨by rfl, ?_⟩) hHeld ?_
      rotate_left
      · intro w hSw
        try dsimp only at hSw
        go_simp
        try with_reducible rfl
      try simp only [List.getElem_toArray, List.getElem_cons_succ, List.getElem_cons_zero, Act.put, List.setIfInBounds_toArray, List.set_cons_zero, List.set_cons_succ]
      refine wpAnyH_ready (rs := [23]) (by kernel_rfl) (by simp) ?_
      refine AllReadyH.cons (o := _) rfl (fun K hK => ?_) AllReadyH.nil
      go_simp
      refine hK.out _ _ ?_ (fun hHeld => ?_)
      · try dsimp only
        exact (fun hb => ⟨hb, HCELL.out _ hb⟩) ((hB.out.trans (HB1.out.mono HSZ.out)).alloc (Nat.le_trans HSZ.out HB1.out.size) _)
      clear hK K
      try simp only [List.getElem_toArray, List.getElem_cons_succ, List.getElem_cons_zero, Act.put, List.setIfInBounds_toArray, List.set_cons_zero, List.set_cons_succ]
      refine wpAnyH_ready (rs := [24]) (by kernel_rfl) (by simp) ?_
      refine AllReadyH.cons (o := _) rfl (fun K hK => ?_) AllReadyH.nil
      refine step_append_any _ (by rfl) _ _ _ (by rfl) w.heap.size 37 i0 _ 4 48 Try.underlying22 hi hz0 hz1 hz2 rfl (by omega) u3 j cells (by rfl) ((own_below HOWN.out HB1.out).alloc _)
        (w1.heap.size + 1) (some ⟨w1.heap.size, 0, none⟩) 1 1 [(.int .i64 x.seq), (.int .i64 x.pos), (.int .i64 x.n), (.slice A2 n2 c2)] (by rfl) ⟨by rfl, fun _ => ⟨_, rfl, Nat.lt_succ_self _, World.news_of_block (cs := #[(.int .i64 x.seq), (.int .i64 x.pos), (.int .i64 x.n), (.slice A2 n2 c2)]) (t := 37) (fr := (0, 0)) (heap_alloc_new w1 _)⟩⟩ ?c1 ?c2 ?c3 ?c4 ?_
      case c1 => (intro u hu; simp at hu; rcases hu with rfl | rfl | rfl | rfl <;> rfl)
      case c2 => unfold maxLen; omega
      case c3 => omega
      case c4 => exact Nat.le_trans HSZ.out (Nat.le_trans HB1.out.size (by simp))
      intro v2 w2 hown2 hgrow hat
      have hfin := Lib.hid (tw_step (new := [(.int .i64 x.seq), (.int .i64 x.pos), (.int .i64 x.n), (.slice A2 n2 c2)]) txnE.good HOWNL.out HRW.out HSZ.out HB1.out (by rfl) ⟨rfl, rfl, rfl, _, rfl, HBV.out⟩ (by rw [HLEN.out]; exact hown2) hgrow (by simpa using hat))
      have hb2 : Below w.heap.size w w2 := (((hB.out.trans (HB1.out.mono HSZ.out)).alloc (Nat.le_trans HSZ.out HB1.out.size) _).grown hgrow (Nat.le_trans HSZ.out (Nat.le_trans HB1.out.size (by simp))) (fun g hg => (HOWN.out.lt g hg).1))
      have HB2 := Lib.hid hb2
      clear hown2 hgrow hat hb2
      refine hK.out _ _ ?_ (fun hHeld => ?_)
      · try dsimp only
        exact ⟨HB2.out, HCELL.out _ HB2.out⟩
      clear hK K
      try simp only [List.getElem_toArray, List.getElem_cons_succ, List.getElem_cons_zero, Act.put, List.setIfInBounds_toArray, List.set_cons_zero, List.set_cons_succ]
      refine wpAnyH_take (i := 25) (oi := _) (v := ?_) rfl (by kernel_rfl) (by kernel_rfl) (by kernel_rfl) (fun _ _ _ h => h) (Or.inl ⟨by rfl, ?_⟩) hHeld ?_
      rotate_left
      · intro w hSw
        try dsimp only at hSw
        go_simp
        try with_reducible rfl
      try simp only [List.getElem_toArray, List.getElem_cons_succ, List.getElem_cons_zero, Act.put, List.setIfInBounds_toArray, List.set_cons_zero, List.set_cons_succ]
      refine wpAnyH_done (by kernel_rfl) ?_ _
      go_wp2_with fail
      go_roundw
      case rel => exact ⟨j + 1, by omega, by go_num, by rw [List.take_add_one, HX.out]; exact hfin.out, HB2.out⟩
      case measure => simp [intOf]; omega
    · obtain rfl : j = n := by omega
      have HT2 := Lib.hid hT.out
      clear hT h
      go_wp2_with fail
      go_ret
      have hT3 := HT2.out
      rw [List.take_of_length_le (by rw [HL.out]; exact Nat.le_refl _)] at hT3
      exact ⟨_, rfl, hT3, hB.out⟩
theorem twinTxns_any (A : Option Addr) (n c : Nat) (xs : List Txn) (p : Nat → Prop) (w : World) (h : Slc 4 txnE p w A n xs) (hn : n ≤ 1000) (hx : ∀ x ∈ xs, x.images.length ≤ 1000 ∧ ∀ y ∈ x.images, y.bytes.length ≤ 1000) :
    Calls Try.prog 8 #[.slice A n c] w (Gives (fun v w' => SlcV 4 txnE (Fr w.heap.size w') w' v xs) w) := by
  refine (twinTxns_any_own A n c xs p w h hn hx).mono ?_
  rintro e w' ⟨v, rfl, hT, hb⟩
  exact ⟨v, rfl, hT.out txnE.good, hb⟩
end Go.Proofs.Ytedgalbhjfmafaa

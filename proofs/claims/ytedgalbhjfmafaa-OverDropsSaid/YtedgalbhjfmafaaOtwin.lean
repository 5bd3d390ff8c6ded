/-
  over.Twin: transactions in memory of their own.
-/
import Derived.Test.YtedgalbhjfmafaaZones
import Derived.Test.YtedgalbhjfmafaaTwin2
namespace Go.Proofs.Ytedgalbhjfmafaa
open Go.ChangeShapes Go.WideShapes Go.ChangeAt Go.RowKit
set_option linter.unusedVariables false
theorem grownBy_trans {A B C : World} {r : Option Nat} (h : A.grownBy B r) (k : B.grownBy C r) : A.grownBy C r :=
  ⟨k.os.trans h.os, k.tape.trans h.tape, k.output.trans h.output, Nat.le_trans h.size k.size, fun i hi hr => (k.block i (Nat.lt_of_lt_of_le hi h.size) hr).trans (h.block i hi hr)⟩
theorem grownBy_below {A B : World} {r : Option Nat} (h : Below A.heap.size A B) : A.grownBy B r := ⟨h.os, h.tape, h.output, h.size, fun i hi _ => h.block i hi⟩
theorem below_grownBy {w A B : World} {g : Nat} (h : Below w.heap.size w A) (k : A.grownBy B (some g)) (hg : w.heap.size ≤ g) : Below w.heap.size w B := h.grown k h.size (fun i hi => by cases hi; exact hg)
theorem Thawed.setCell {W : World} {b : Nat} (h : Thawed W b) (g j : Nat) (u : Value) : Thawed (W.setCell ⟨g, j, none⟩ u) b := by
  obtain ⟨cs, t, h'⟩ := h
  by_cases e : b = g
  · subst e
    exact ⟨_, _, heap_setCell_same W b j cs t u h'⟩
  · exact ⟨cs, t, (heap_setCell_other W ⟨g, j, none⟩ b u (fun e' => e (by simpa using e'))).trans h'⟩
/-- the first i elements are new, the others as they came -/
def Mix {α : Type} (k : Nat) (E : Elt α) (q : Nat → Prop) (W : World) (p : Nat → Prop) (w : World) (cells : List Value) (xs : List α) (i : Nat) : Prop :=
  cells.length = xs.length * k ∧ ∀ j x, xs[j]? = some x → (j < i → E q W (fun m => cells[j * k + m]?) x) ∧ (i ≤ j → E p w (fun m => cells[j * k + m]?) x)
theorem Mix.start {α : Type} {k : Nat} {E : Elt α} {q : Nat → Prop} {W : World} {p : Nat → Prop} {w : World} {cells : List Value} {xs : List α} (h : Rw k E p w cells xs) : Mix k E q W p w cells xs 0 :=
  ⟨h.1, fun j x hj => ⟨fun h0 => absurd h0 (by omega), fun _ => h.2 j x hj⟩⟩
theorem Mix.out {α : Type} {k : Nat} {E : Elt α} {q : Nat → Prop} {W : World} {p : Nat → Prop} {w : World} {cells : List Value} {xs : List α} (h : Mix k E q W p w cells xs xs.length) : Rw k E q W cells xs :=
  ⟨h.1, fun j x hj => (h.2 j x hj).1 (List.getElem?_eq_some_iff.1 hj).1⟩
theorem Mix.step {α : Type} {k : Nat} {E : Elt α} (hE : Good k E) {q q2 : Nat → Prop} {W W2 : World} {p : Nat → Prop} {w : World} {cells : List Value} {xs : List α} {i f : Nat} {x : α} {u : Value} (h : Mix k E q W p w cells xs i)
    (ha : Agree q W W2) (hq : ∀ b, q b → q2 b) (hx : xs[i]? = some x) (hf : f < k) (hnew : E q2 W2 (fun m => (cells.set (i * k + f) u)[i * k + m]?) x) : Mix k E q2 W2 p w (cells.set (i * k + f) u) xs (i + 1) := by
  refine ⟨by simpa using h.1, fun j y hj => ?_⟩
  have far : j ≠ i → ∀ m, m < k → cells[j * k + m]? = (cells.set (i * k + f) u)[j * k + m]? := fun hne m hm => by
    rw [List.getElem?_set_ne]
    intro e
    rcases Nat.lt_or_gt_of_ne hne with h1 | h1
    · have := Nat.mul_le_mul_right k (show j + 1 ≤ i from h1)
      rw [Nat.add_mul, Nat.one_mul] at this
      omega
    · have := Nat.mul_le_mul_right k (show i + 1 ≤ j from h1)
      rw [Nat.add_mul, Nat.one_mul] at this
      omega
  refine ⟨fun hlt => ?_, fun hle => hE.here (far (by omega)) ((h.2 j y hj).2 (by omega))⟩
  by_cases e : j = i
  · subst e
    rw [hx] at hj
    injection hj with hj
    subst hj
    exact hnew
  · exact hE.mono hq (hE.keep ha (hE.here (far e) ((h.2 j y hj).1 (by omega))))
theorem Rw.one {α : Type} {k : Nat} {E : Elt α} (hk : 0 < k) (h1 : ∀ {p W f x}, E p W f x → ∀ m, m < k → ∃ u, f m = some u ∧ u.oneCell' = true) {p : Nat → Prop} {w : World} {cells : List Value} {xs : List α} (h : Rw k E p w cells xs) : ∀ u ∈ cells, u.oneCell' = true := by
  intro u hu
  obtain ⟨i, hi⟩ := List.getElem?_of_mem hu
  have hlt := (List.getElem?_eq_some_iff.1 hi).1
  rw [h.1] at hlt
  have hj : i / k < xs.length := Nat.div_lt_of_lt_mul (by rw [Nat.mul_comm]; exact hlt)
  obtain ⟨v, hv, ho⟩ := h1 (h.2 (i / k) xs[i / k] (List.getElem?_eq_getElem hj)) (i % k) (Nat.mod_lt _ hk)
  have e : i / k * k + i % k = i := by rw [Nat.mul_comm]; exact Nat.div_add_mod i k
  rw [e, hi] at hv
  injection hv with hv
  rw [hv]
  exact ho
theorem imgE_one {p : Nat → Prop} {W : World} {f : Nat → Option Value} {x : Img} (h : imgE p W f x) : ∀ m, m < 3 → ∃ u, f m = some u ∧ u.oneCell' = true := by
  obtain ⟨h0, h1, v, h2, A, n, c, rfl, _⟩ := h
  intro m hm
  match m, hm with
  | 0, _ => exact ⟨_, h0, rfl⟩
  | 1, _ => exact ⟨_, h1, rfl⟩
  | 2, _ => exact ⟨_, h2, rfl⟩
theorem txnE_one {p : Nat → Prop} {W : World} {f : Nat → Option Value} {x : Txn} (h : txnE p W f x) : ∀ m, m < 4 → ∃ u, f m = some u ∧ u.oneCell' = true := by
  obtain ⟨h0, h1, h2, v, h3, A, n, c, rfl, _⟩ := h
  intro m hm
  match m, hm with
  | 0, _ => exact ⟨_, h0, rfl⟩
  | 1, _ => exact ⟨_, h1, rfl⟩
  | 2, _ => exact ⟨_, h2, rfl⟩
  | 3, _ => exact ⟨_, h3, rfl⟩
theorem own_head {w : World} {B n c : Nat} {e : TypeId} {k : Nat} {A : Option Addr} {xs : List Value} (h : w.ownsRow B e k (.slice A n c) n xs) : ∃ g, (0 < n → A = some ⟨g, 0, none⟩) ∧ (0 < n → B ≤ g ∧ g < w.heap.size) := by
  rcases h.2 with ⟨hv, h0⟩ | ⟨g, cap, cur, hv, hg, hb, _⟩
  · exact ⟨0, fun h => by omega, fun h => by omega⟩
  · injection hv with h1 h2 h3
    exact ⟨g, fun _ => h1, fun _ => ⟨hg, (Array.getElem?_eq_some_iff.1 hb).1⟩⟩
set_option maxRecDepth 100000 in
set_option maxHeartbeats 4000000 in
theorem twinO_any (A : Option Addr) (n c : Nat) (xs : List Txn) (p : Nat → Prop) (w : World) (h : Slc 4 txnE p w A n xs) (hn : n ≤ 1000) (hx : ∀ x ∈ xs, x.images.length ≤ 1000 ∧ ∀ y ∈ x.images, y.bytes.length ≤ 1000) :
    Calls Try.prog 30 #[.slice A n c] w (Gives (fun v w' => ∃ cells, w'.ownsRow w.heap.size 37 4 v n cells ∧ Rw 4 txnE (fun b => Fr w.heap.size w' b ∧ v.ownBlock ≠ some b) w' cells xs) w) := by
  have HX := Lib.hid hx
  have HL := Lib.hid h.1
  have HS := Lib.hid h
  obtain ⟨cells0, hr0, hw0⟩ := h.cells_ (by decide)
  have hone0 := Rw.one (by decide) txnE_one (hw0 txnE.good)
  have HW0 := Lib.hid (hw0 txnE.good)
  have HR0 := Lib.hid hr0
  have HO0 := Lib.hid hone0
  clear hx h hr0 hw0 hone0
  go_enter Try.func30, Try.ntmps30
  go_wp2_with fail
  refine (cloneT_own _ _ _ cells0 _ HR0.out HO0.out (by omega)).mono ?_
  rintro e w1 ⟨v1, rfl, hown1, hb1⟩
  obtain ⟨A1, c1, rfl⟩ := own_form hown1
  obtain ⟨g, hA1, hg1⟩ := own_head hown1
  have HA1 := Lib.hid hA1
  have HG1 := Lib.hid hg1
  have HB1 := Lib.hid hb1
  have HOWN1 := Lib.hid hown1
  clear hA1 hg1 hb1 hown1
  go_wp2_with fail
  go_loopw [10] (fun i wr => ∃ k : Nat, k ≤ n ∧ i = .int .i64 k ∧ Hid (∃ cells, wr.ownsRow w.heap.size 37 4 (.slice A1 n c1) n cells ∧ Mix 4 txnE (fun b => Fr w.heap.size wr b ∧ b ≠ g) wr p w cells xs k) ∧ Hid (Below w.heap.size w wr)) (fun i _ => n - (intOf i).toNat)
  case atStart => exact ⟨0, by omega, rfl, ⟨cells0, HOWN1.out, Mix.start HW0.out⟩, HB1.out⟩
  case round =>
    obtain ⟨k, hk, rfl, hO, hB⟩ := hrel
    obtain ⟨wo, rfl⟩ : ∃ wo : World, wo = wr := ⟨_, rfl⟩
    by_cases hlt : k < n
    · have hA := HA1.out (by omega)
      subst hA
      obtain ⟨x, hx⟩ : ∃ x, xs[k]? = some x := ⟨_, List.getElem?_eq_getElem (by rw [HL.out]; exact hlt)⟩
      obtain ⟨cells, hown, hmix⟩ := hO.out
      have hgg := hown.lt g rfl
      obtain ⟨m0, m1, m2, v3, m3, A2, n2, c2, rfl, q1, q2, hs2⟩ := (hmix.2 k x hx).2 (Nat.le_refl _)
      have hbd := HX.out x (List.mem_of_getElem? hx)
      have hc3 : wo.cell? ⟨g, k * 4 + 3, none⟩ = some (.slice A2 n2 c2) := (hown.cellAt _ (by omega)).trans m3
      have hf3 : wo.frozen? ⟨g, k * 4 + 3, none⟩ = false := hown.frozenAt _
      obtain ⟨ic0, hr2, hw2⟩ := hs2.cells_ (by decide)
      have hone2 := Rw.one (by decide) imgE_one (hw2 imgE.good)
      have HW2 := Lib.hid (hw2 imgE.good)
      have HR2 : Hid (Reads wo wo.heap.size 3 A2 n2 ic0) := (hr2.below hB.out).more hB.out.size
      have HO2 := Lib.hid hone2
      have hn2 : n2 ≤ 1000 := by rw [← hs2.1]; exact hbd.1
      have HL2 := Lib.hid hs2.1
      have HBD := Lib.hid hbd.2
      have HOWN := Lib.hid hown
      have HMIX := Lib.hid hmix
      have HXX := Lib.hid hx
      have HGG := Lib.hid hgg
      have HM0 := Lib.hid m0
      have HM1 := Lib.hid m1
      have HM2 := Lib.hid m2
      have HSZ := Lib.hid hB.out.size
      have i0' : (0 : Int) ≤ (k : Int) := by omega
      have i1' : (k : Int) < (n : Int) := by omega
      clear hx hown hmix hgg m0 m1 m2 m3 hbd hr2 hw2 hone2 hs2 hO
      go_wp2_with fail
      refine (cloneI_own _ _ _ ic0 _ HR2.out HO2.out (by omega)).mono ?_
      rintro e w2 ⟨v2, rfl, hown2, hb2⟩
      obtain ⟨A3, c3, rfl⟩ := own_form hown2
      obtain ⟨g2, hA3, hg2⟩ := own_head hown2
      have hownw2 := own_below HOWN.out hb2
      have hc3' : w2.cell? ⟨g, k * 4 + 3, none⟩ = some (.slice A2 n2 c2) := (hb2.cell (p := ⟨g, k * 4 + 3, none⟩) HGG.out.2).trans hc3
      have hf3' : w2.frozen? ⟨g, k * 4 + 3, none⟩ = false := hownw2.frozenAt _
      have hst := hownw2.stored (k * 4 + 3) (.slice A3 n2 c3)
      have hcs : (w2.setCell ⟨g, k * 4 + 3, none⟩ (.slice A3 n2 c3)).cell? ⟨g, k * 4 + 3, none⟩ = some (.slice A3 n2 c3) := World.cell?_setCell_same' _ _ _ (by rw [hc3']; rfl)
      have HCS := Lib.hid hcs
      have HST := Lib.hid hst
      have HA3 := Lib.hid hA3
      have HG2 := Lib.hid hg2
      have HB2 := Lib.hid hb2
      have HOWN2 := Lib.hid hown2
      clear hst hA3 hg2 hb2 hown2 hownw2 hc3 hf3
      go_wp2_with fail
      go_loopw [29] (fun i wr => ∃ j : Nat, j ≤ n2 ∧ i = .int .i64 j ∧ Hid (∃ ic, wr.ownsRow wo.heap.size 49 3 (.slice A3 n2 c3) n2 ic ∧ Mix 3 imgE (fun b => Fr w.heap.size wr b ∧ b ≠ g ∧ (0 < n2 → b ≠ g2)) wr p w ic x.images j) ∧
        Hid (wr.ownsRow w.heap.size 37 4 (.slice (some ⟨g, 0, none⟩) n c1) n (cells.set (k * 4 + 3) (.slice A3 n2 c3))) ∧ Hid (wo.grownBy wr (some g))) (fun i _ => n2 - (intOf i).toNat)
      case atStart =>
        refine ⟨0, by omega, rfl, ⟨ic0, ?_, Mix.start HW2.out⟩, HST.out.1, grownBy_trans (grownBy_below HB2.out) HST.out.2⟩
        by_cases h0 : 0 < n2
        · exact HOWN2.out.kept HST.out.2 (.inr (by rw [HA3.out h0]; simp [Value.ownBlock]; have := (HG2.out h0).1; have := HGG.out.2; omega))
        · obtain rfl : n2 = 0 := by omega
          rcases HOWN2.out.2 with hn0 | ⟨g', cap, cur, hv, hg', hb', hrest⟩
          · exact ⟨HOWN2.out.1, .inl hn0⟩
          · injection hv with e1 e2 e3
            subst e1
            exact HOWN2.out.kept HST.out.2 (.inr (by simp [Value.ownBlock]; have := HGG.out.2; omega))
      case round =>
        obtain ⟨j, hj, rfl, hI, hOW, hG⟩ := hrel
        by_cases hlt2 : j < n2
        · have hA' := HA3.out (by omega)
          subst hA'
          obtain ⟨y, hy⟩ : ∃ y, x.images[j]? = some y := ⟨_, List.getElem?_eq_getElem (by rw [HL2.out]; exact hlt2)⟩
          obtain ⟨ic, hown3, hmix3⟩ := hI.out
          obtain ⟨k0, k1, v4, k2, A4, n4, c4, rfl, q3, q4, hs4⟩ := (hmix3.2 j y hy).2 (Nat.le_refl _)
          have hg2l := hown3.lt g2 rfl
          have d0 : wr.cell? ⟨g2, j * 3, none⟩ = some (.int .i64 y.zone) := (hown3.cellAt _ (by omega)).trans k0
          have d1 : wr.cell? ⟨g2, j * 3 + 1, none⟩ = some (.int .i64 y.what) := (hown3.cellAt _ (by omega)).trans k1
          have d2 : wr.cell? ⟨g2, j * 3 + 2, none⟩ = some (.slice A4 n4 c4) := (hown3.cellAt _ (by omega)).trans k2
          have hn4 : n4 ≤ 100000 := by have := HBD.out y (List.mem_of_getElem? hy); rw [hs4.1] at this; omega
          have HS4 : Hid (Slc 1 (intE .u8) p (wr.alloc (.cells #[.int .i64 y.zone, .int .i64 y.what, .slice A4 n4 c4] 49)).drew A4 n4 y.bytes) := hs4.keep (intE.good _) (by decide) (Agree.of_below (((below_grownBy hB.out hG.out HGG.out.1).alloc (Nat.le_trans HSZ.out hG.out.size) _).drew))
          have hgl : g < wr.heap.size := (hOW.out.lt g rfl).2
          have e3 : wr.cell? ⟨g, k * 4 + 3, none⟩ = some (.slice (some ⟨g2, 0, none⟩) n2 c3) := (hOW.out.cellAt _ (by omega)).trans (by rw [List.getElem?_set_self (by have := hOW.out.1; simp at this; omega)])
          have hne : g ≠ g2 := by have := hg2l.1; have := HGG.out.2; omega
          have HKEEP : Hid (∀ W4, Below wr.heap.size wr W4 → Below (wr.heap.size + 1) (wr.alloc (.cells #[.int .i64 y.zone, .int .i64 y.what, .slice A4 n4 c4] 49)) W4 → W4.cell? ⟨g, k * 4 + 3, none⟩ = some (.slice (some ⟨g2, 0, none⟩) n2 c3) ∧ W4.cell? ⟨wr.heap.size, 2, none⟩ = some (.slice A4 n4 c4) ∧ (W4.cell? ⟨g2, j * 3 + 2, none⟩).isSome = true ∧ W4.frozen? ⟨g2, j * 3 + 2, none⟩ = false) := fun W4 hb4 hb5 =>
            ⟨(hb4.cell (p := ⟨g, _, none⟩) hgl).trans e3, (hb5.cell (p := ⟨wr.heap.size, 2, none⟩) (Nat.lt_succ_self _)).trans (cell_of_row _ _ _ _ _ _ (heap_alloc_new wr _)), by rw [(hb4.cell (p := ⟨g2, _, none⟩) hg2l.2).trans d2]; rfl, (hb4.frozen (p := ⟨g2, _, none⟩) hg2l.2).trans (hown3.frozenAt _)⟩
          have HKEEP2 : Hid (∀ W4 u, Below wr.heap.size wr W4 → Below (wr.heap.size + 1) (wr.alloc (.cells #[.int .i64 y.zone, .int .i64 y.what, .slice A4 n4 c4] 49)) W4 → (W4.setCell ⟨g2, j * 3 + 2, none⟩ u).cell? ⟨g, k * 4 + 3, none⟩ = some (.slice (some ⟨g2, 0, none⟩) n2 c3) ∧ (W4.setCell ⟨g2, j * 3 + 2, none⟩ u).cell? ⟨wr.heap.size, 2, none⟩ = some (.slice A4 n4 c4) ∧ ((W4.setCell ⟨g2, j * 3 + 2, none⟩ u).cell? ⟨g2, j * 3 + 2, none⟩).isSome = true ∧ (W4.setCell ⟨g2, j * 3 + 2, none⟩ u).frozen? ⟨g2, j * 3 + 2, none⟩ = false) := fun W4 u hb4 hb5 => by
            obtain ⟨h1, h2, h3, h4⟩ := HKEEP.out W4 hb4 hb5
            refine ⟨(World.cell?_setCell_other _ _ _ _ (by intro e; injection e with e1; exact hne e1.symm)).trans h1, (World.cell?_setCell_other _ _ _ _ (by intro e; injection e with e1; have := hg2l.2; omega)).trans h2, by rw [World.cell?_setCell_same' _ _ _ h3]; rfl, (World.frozen?_setCell _ _ _ _).trans h4⟩
          have HOWN3 := Lib.hid hown3
          have HMIX3 := Lib.hid hmix3
          have HY := Lib.hid hy
          have HK0 := Lib.hid k0
          have HK1 := Lib.hid k1
          have HG2L := Lib.hid hg2l
          have j0' : (0 : Int) ≤ (j : Int) := by omega
          have j1' : (j : Int) < (n2 : Int) := by omega
          clear hs4 e3 hown3 hmix3 hy k0 k1 k2 hI hgl
          go_wp2_with fail
          refine wp_region_held_drew (S := (fun w' => w'.cell? ⟨g, k * 4 + 3, none⟩ = some (.slice (some ⟨g2, 0, none⟩) n2 c3) ∧ w'.cell? ⟨wr.heap.size, 2, none⟩ = some (.slice A4 n4 c4) ∧ (w'.cell? ⟨g2, j * 3 + 2, none⟩).isSome = true ∧ w'.frozen? ⟨g2, j * 3 + 2, none⟩ = false)) (by kernel_rfl) ?_ (fun hHeld => ?_)
          · try dsimp only
            exact HKEEP.out _ ((Below.refl _ _).alloc (Nat.le_refl _) _).drew (Below.drew (Below.refl _ _))
          refine wpAnyH_take (i := 0) (oi := _) (v := ?_) rfl (by kernel_rfl) (by kernel_rfl) (by kernel_rfl) (fun _ _ _ h => h) (Or.inl ⟨by rfl, ?_⟩) hHeld ?_
          rotate_left
          · intro w hSw
            try dsimp only at hSw
            go_simp
            try with_reducible rfl
          try simp only [List.getElem_toArray, List.getElem_cons_zero, Act.put, List.setIfInBounds_toArray, List.set_cons_zero, List.set_cons_succ]
          refine wpAnyH_take (i := 1) (oi := _) (v := ?_) rfl (by kernel_rfl) (by kernel_rfl) (by kernel_rfl) (fun _ _ _ h => h) (Or.inl ⟨by rfl, ?_⟩) hHeld ?_
          rotate_left
          · intro w hSw
            try dsimp only at hSw
            go_simp
            try with_reducible rfl
          try simp only [List.getElem_toArray, List.getElem_cons_succ, List.getElem_cons_zero, Act.put, List.setIfInBounds_toArray, List.set_cons_zero, List.set_cons_succ]
          refine wpAnyH_take (i := 2) (oi := _) (v := ?_) rfl (by kernel_rfl) (by kernel_rfl) (by kernel_rfl) (fun _ _ _ h => h) (Or.inl ⟨by rfl, ?_⟩) hHeld ?_
          rotate_left
          · intro w hSw
            try dsimp only at hSw
            go_simp
            try with_reducible rfl
          try simp only [List.getElem_toArray, List.getElem_cons_succ, List.getElem_cons_zero, Act.put, List.setIfInBounds_toArray, List.set_cons_zero, List.set_cons_succ]
          refine wpAnyH_take (i := 3) (oi := _) (v := ?_) rfl (by kernel_rfl) (by kernel_rfl) (by kernel_rfl) (fun _ _ _ h => h) (Or.inl ⟨by rfl, ?_⟩) hHeld ?_
          rotate_left
          · intro w hSw
            try dsimp only at hSw
            go_simp
            try with_reducible rfl
          try simp only [List.getElem_toArray, List.getElem_cons_succ, List.getElem_cons_zero, Act.put, List.setIfInBounds_toArray, List.set_cons_zero, List.set_cons_succ]
          refine wpAnyH_take (i := 4) (oi := _) (v := ?_) rfl (by kernel_rfl) (by kernel_rfl) (by kernel_rfl) (fun _ _ _ h => h) (Or.inl ⟨by rfl, ?_⟩) hHeld ?_
          rotate_left
          · intro w hSw
            try dsimp only at hSw
            go_simp
            try with_reducible rfl
          try simp only [List.getElem_toArray, List.getElem_cons_succ, List.getElem_cons_zero, Act.put, List.setIfInBounds_toArray, List.set_cons_zero, List.set_cons_succ]
          refine wpAnyH_take (i := 5) (oi := _) (v := ?_) rfl (by kernel_rfl) (by kernel_rfl) (by kernel_rfl) (fun _ _ _ h => h) (Or.inl ⟨by rfl, ?_⟩) hHeld ?_
          rotate_left
          · intro w hSw
            try dsimp only at hSw
            go_simp
            try with_reducible rfl
          try simp only [List.getElem_toArray, List.getElem_cons_succ, List.getElem_cons_zero, Act.put, List.setIfInBounds_toArray, List.set_cons_zero, List.set_cons_succ]
          refine wpAnyH_take (i := 6) (oi := _) (v := ?_) rfl (by kernel_rfl) (by kernel_rfl) (by kernel_rfl) (fun _ _ _ h => h) (Or.inl ⟨by rfl, ?_⟩) hHeld ?_
          rotate_left
          · intro w hSw
            try dsimp only at hSw
            go_simp
            try with_reducible rfl
          try simp only [List.getElem_toArray, List.getElem_cons_succ, List.getElem_cons_zero, Act.put, List.setIfInBounds_toArray, List.set_cons_zero, List.set_cons_succ]
          refine wpAnyH_take (i := 7) (oi := _) (v := ?_) rfl (by kernel_rfl) (by kernel_rfl) (by kernel_rfl) (fun _ _ _ h => h) (Or.inl ⟨by rfl, ?_⟩) hHeld ?_
          rotate_left
          · intro w hSw
            try dsimp only at hSw
            go_simp
            try with_reducible rfl
          try simp only [List.getElem_toArray, List.getElem_cons_succ, List.getElem_cons_zero, Act.put, List.setIfInBounds_toArray, List.set_cons_zero, List.set_cons_succ]
          refine wpAnyH_ready (rs := [8]) (by kernel_rfl) (by simp) ?_
          refine AllReadyH.cons (o := _) rfl (fun K hK => ?_) AllReadyH.nil
          go_simp
          refine (cloneB_any _ _ _ _ _ _ HS4.out hn4).mono ?_
          rintro e1 w4 ⟨bv, rfl, hbv, hbw⟩
          obtain ⟨A5, n5, c5, hq5, hs5⟩ := id hbv
          subst hq5
          clear hs5
          have hb4 : Below wr.heap.size wr w4 := ((Below.refl _ _).alloc (Nat.le_refl _) _).drew.trans (hbw.mono (by simp))
          have hb5 : Below (wr.heap.size + 1) (wr.alloc (.cells #[.int .i64 y.zone, .int .i64 y.what, .slice A4 n4 c4] 49)) w4 := (Below.drew (Below.refl _ _)).trans (hbw.mono (by simp))
          go_wp2_with fail
          refine hK.out _ _ ?_ (fun hHeld => ?_)
          · try dsimp only
            exact HKEEP.out _ hb4 hb5
          clear hK K
          have HB4 := Lib.hid hb4
          have HB5 := Lib.hid hb5
          have HBV := Lib.hid hbv
          have f4 := (HKEEP.out _ hb4 hb5).2.2.2
          have s4 := (hb4.cell (p := ⟨g2, j * 3 + 2, none⟩) HG2L.out.2).trans d2
          clear hb4 hb5 hbv hbw
          try simp only [List.getElem_toArray, List.getElem_cons_succ, List.getElem_cons_zero, Act.put, List.setIfInBounds_toArray, List.set_cons_zero, List.set_cons_succ]
          refine wpAnyH_take (i := 9) (oi := _) (v := ?_) rfl (by kernel_rfl) (by kernel_rfl) (by kernel_rfl) (fun _ _ _ h => h) (Or.inl ⟨by rfl, ?_⟩) hHeld ?_
          rotate_left
          · intro w hSw
            try dsimp only at hSw
            go_simp
            try with_reducible rfl
          try simp only [List.getElem_toArray, List.getElem_cons_succ, List.getElem_cons_zero, Act.put, List.setIfInBounds_toArray, List.set_cons_zero, List.set_cons_succ]
          refine wpAnyH_take (i := 10) (oi := _) (v := ?_) rfl (by kernel_rfl) (by kernel_rfl) (by kernel_rfl) (fun _ _ _ h => h) (Or.inl ⟨by rfl, ?_⟩) hHeld ?_
          rotate_left
          · intro w hSw
            try dsimp only at hSw
            go_simp
            try with_reducible rfl
          try simp only [List.getElem_toArray, List.getElem_cons_succ, List.getElem_cons_zero, Act.put, List.setIfInBounds_toArray, List.set_cons_zero, List.set_cons_succ]
          refine wpAnyH_ready (rs := [11]) (by kernel_rfl) (by simp) ?_
          refine AllReadyH.cons (o := _) rfl (fun K hK => ?_) AllReadyH.nil
          go_simp
          refine hK.out _ _ ?_ (fun hHeld => ?_)
          · try dsimp only
            exact HKEEP2.out _ _ HB4.out HB5.out
          clear hK K
          try simp only [List.getElem_toArray, List.getElem_cons_succ, List.getElem_cons_zero, Act.put, List.setIfInBounds_toArray, List.set_cons_zero, List.set_cons_succ]
          refine wpAnyH_done (by kernel_rfl) ?_ _
          go_wp2_with fail
          have hownA := own_below HOWN3.out HB4.out
          have hst2 := hownA.stored (j * 3 + 2) (.slice A5 n5 c5)
          have hmixA := Mix.step (q2 := fun b => Fr w.heap.size (w4.setCell ⟨g2, j * 3 + 2, none⟩ (.slice A5 n5 c5)) b ∧ b ≠ g ∧ (0 < n2 → b ≠ g2)) imgE.good (f := 2) (u := (.slice A5 n5 c5)) HMIX3.out ((Agree.of_below HB4.out).trans (Agree.setCell (q := ⟨g2, j * 3 + 2, none⟩) (fun b hb => hb.2.2 (by omega)) (.slice A5 n5 c5)))
            (fun b hb => ⟨⟨hb.1.1, (hb.1.2.below HB4.out).setCell _ _ _⟩, hb.2⟩) HY.out (by decide) ?_
          rotate_left
          · have hlen := HMIX3.out.1
            rw [HL2.out] at hlen
            refine ⟨(List.getElem?_set_ne (by omega)).trans HK0.out, (List.getElem?_set_ne (by omega)).trans HK1.out, _, List.getElem?_set_self (by omega), ?_⟩
            refine SlcV.mono (intE.good _) (fun b hb => ?_) (HBV.out.keep (intE.good _) (by decide) (Agree.setCell (q := ⟨g2, j * 3 + 2, none⟩) (fun b hb => ?_) (.slice A5 n5 c5)))
            · have h1 : wr.heap.size < b := by have := hb.1; simp at this; omega
              exact ⟨⟨by have := HSZ.out; have := hG.out.size; omega, hb.2.setCell _ _ _⟩, by have := (hOW.out.lt g rfl).2; omega, fun _ => by have := HG2L.out.2; omega⟩
            · have h1 : wr.heap.size < b := by have := hb.1; simp at this; omega
              show b ≠ g2
              have := HG2L.out.2; omega
          have HMIXA := Lib.hid hmixA
          have HST2 := Lib.hid hst2
          have HOWA : Hid ((w4.setCell ⟨g2, j * 3 + 2, none⟩ (.slice A5 n5 c5)).ownsRow w.heap.size 37 4 (.slice (some ⟨g, 0, none⟩) n c1) n (cells.set (k * 4 + 3) (.slice (some ⟨g2, 0, none⟩) n2 c3))) := (own_below hOW.out HB4.out).kept hst2.2 (.inr (by simp [Value.ownBlock]; exact hne))
          have HGA : Hid (wo.grownBy (w4.setCell ⟨g2, j * 3 + 2, none⟩ (.slice A5 n5 c5)) (some g)) := by
            refine ⟨hst2.2.os.trans (HB4.out.os.trans hG.out.os), hst2.2.tape.trans (HB4.out.tape.trans hG.out.tape), hst2.2.output.trans (HB4.out.output.trans hG.out.output), Nat.le_trans hG.out.size (Nat.le_trans HB4.out.size hst2.2.size), fun b hb hr => ?_⟩
            have hsz := hG.out.size
            exact (hst2.2.block b (by have := HB4.out.size; omega) (by intro e; injection e with e; have := HG2L.out.1; omega)).trans ((HB4.out.block b (by omega)).trans (hG.out.block b hb hr))
          clear hownA hst2 hmixA f4 s4
          go_roundw
          case rel => exact ⟨j + 1, by omega, by go_num, ⟨_, HST2.out.1, HMIXA.out⟩, HOWA, HGA⟩
          case measure => simp [intOf]; omega
        · obtain rfl : j = n2 := by omega
          obtain ⟨ic, hown3, hmix3⟩ := hI.out
          have hmix3' : Mix 3 imgE (fun b => Fr w.heap.size wr b ∧ b ≠ g ∧ (0 < j → b ≠ g2)) wr p w ic x.images x.images.length := by rw [HL2.out]; exact hmix3
          have hv3 : SlcV 3 imgE (fun b => Fr w.heap.size wr b ∧ b ≠ g) wr (.slice A3 j c3) x.images :=
            SlcV.of_own imgE.good hown3 (hmix3'.out.mono imgE.good (fun b hb => ⟨hb.1, hb.2.1⟩)) HL2.out (fun b hb => ⟨⟨Nat.le_trans HSZ.out (own_thawed hown3 b hb).1, (own_thawed hown3 b hb).2⟩, by have := (own_thawed hown3 b hb).1; have := HGG.out.2; omega⟩)
          have hmixO := Mix.step (q2 := fun b => Fr w.heap.size wr b ∧ b ≠ g) txnE.good (f := 3) (u := .slice A3 j c3) HMIX.out (Agree.grown hG.out (fun b hb => by simp; exact fun e => hb.2 e.symm)) (fun b hb => ⟨⟨hb.1.1, hb.1.2.grown hG.out (by simp; exact fun e => hb.2 e.symm)⟩, hb.2⟩) HXX.out (by decide) (by
            have hlen := HMIX.out.1
            rw [HL.out] at hlen
            exact ⟨(List.getElem?_set_ne (by omega)).trans HM0.out, (List.getElem?_set_ne (by omega)).trans HM1.out, (List.getElem?_set_ne (by omega)).trans HM2.out, _, List.getElem?_set_self (by omega), hv3⟩)
          have HMIXO := Lib.hid hmixO
          have HBO : Hid (Below w.heap.size w wr) := below_grownBy hB.out hG.out HGG.out.1
          clear hown3 hmix3 hmix3' hv3 hmixO hI
          go_wp2_with fail
          go_roundw
          case rel => exact ⟨k + 1, by omega, by go_num, ⟨_, hOW.out, HMIXO.out⟩, HBO⟩
          case measure => simp [intOf]; omega
    · obtain rfl : k = n := by omega
      obtain ⟨cells, hown, hmix⟩ := hO.out
      have hmix' : Mix 4 txnE (fun b => Fr w.heap.size wo b ∧ b ≠ g) wo p w cells xs xs.length := by rw [HL.out]; exact hmix
      have HOUT := Lib.hid hmix'.out
      have HOWN := Lib.hid hown
      clear hown hmix hmix' hO
      go_wp2_with fail
      go_ret
      refine ⟨_, rfl, ⟨cells, HOWN.out, ?_⟩, hB.out⟩
      by_cases h0 : 0 < k
      · have hA := HA1.out h0
        subst hA
        exact HOUT.out.mono txnE.good (fun b hb => ⟨hb.1, by simp [Value.ownBlock]; exact fun e => hb.2 e.symm⟩)
      · refine ⟨HOUT.out.1, fun j x hj => ?_⟩
        have := (List.getElem?_eq_some_iff.1 hj).1
        rw [HL.out] at this
        omega
end Go.Proofs.Ytedgalbhjfmafaa

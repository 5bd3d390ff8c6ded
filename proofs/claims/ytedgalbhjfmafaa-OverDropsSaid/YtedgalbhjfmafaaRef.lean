/-
  The page's own answers: Find, Root, put, Zones.
-/
import Derived.Test.YtedgalbhjfmafaaRead2
namespace Go.Proofs.Ytedgalbhjfmafaa
open Go.ChangeShapes Go.WideShapes Go.ChangeAt Go.RowKit
set_option linter.unusedVariables false
theorem hit_not {z q : Int} {x : Img} (h : ¬ (x.zone = z ∧ x.what = q)) : hit z q x = false := by
  unfold hit
  by_cases h1 : x.zone = z
  · rw [beq_iff_eq.2 h1, beq_eq_false_iff_ne.2 (fun h2 => h ⟨h1, h2⟩)]; rfl
  · rw [beq_eq_false_iff_ne.2 h1]; rfl
theorem lastR_some {z q : Int} {ts : List Txn} {a i : Nat} {t : Txn} {x : Img} (ha : ts[a]? = some t) (hi : t.images[i]? = some x) (hx : hit z q x = true) (h1 : ∀ j y, i < j → t.images[j]? = some y → hit z q y = false) (h2 : ∀ j y, a < j → ts[j]? = some y → ∀ v ∈ y.images, hit z q v = false) :
    lastR z q ts = (true, t.seq, x.bytes) := by
  rw [lastR, lastT_some ha (lastI_some hi hx h1) h2]
theorem lastR_none {z q : Int} {ts : List Txn} (h : ∀ t ∈ ts, ∀ x ∈ t.images, hit z q x = false) : lastR z q ts = (false, 0, []) := by rw [lastR, lastT_none h]
/-- what the page's Find leaves -/
def FoundP (r : Bool × Int × List Int) (W : World) (e : Ending) (w' : World) : Prop :=
  ∃ A n c, e = .returned (.tuple #[.slice A n c, .int .i64 r.2.1, .bool r.1]) ∧ n ≤ c ∧ c ≤ maxLen ∧ Slc 1 (intE .u8) Any w' A n r.2.2 ∧ Below W.heap.size W w'
set_option maxRecDepth 100000 in
set_option maxHeartbeats 3200000 in
theorem rFind_any (A : Option Addr) (n c : Nat) (xs : List Txn) (z q : Int) (p : Nat → Prop) (w : World) (h : Slc 4 txnE p w A n xs) (hn : n ≤ 1000) (hx : ∀ x ∈ xs, x.images.length ≤ 1000 ∧ ∀ y ∈ x.images, y.bytes.length ≤ 1000) :
    Calls Try.prog 10 #[.slice A n c, .int .i64 z, .int .i64 q] w (FoundP (lastR z q xs) w) := by
  have HX := Lib.hid hx
  have HL := Lib.hid h.1
  have HS := Lib.hid h
  clear hx h
  go_enter Try.func10, Try.ntmps10
  go_wp2_with fail
  go_loopw [9] (fun i wr => ∃ (m : Nat) (u : Int), m ≤ n ∧ u + 1 = (m : Int) ∧ i = .int .i64 u ∧ Hid (∀ j t, m ≤ j → xs[j]? = some t → ∀ v ∈ t.images, hit z q v = false) ∧ Hid (Below w.heap.size w wr)) (fun i _ => (intOf i + 1).toNat)
  case atStart => exact ⟨n, (n : Int) - 1, Nat.le_refl _, by omega, by first | rfl | go_num, fun j t hj ht => absurd (List.getElem?_eq_some_iff.1 ht).1 (by rw [HL.out]; omega), Below.refl _ _⟩
  case round =>
    obtain ⟨m, u, hm, hu, rfl, hNO, hB⟩ := hrel
    obtain ⟨wo, rfl⟩ : ∃ wo : World, wo = wr := ⟨_, rfl⟩
    cases m with
    | zero =>
      obtain rfl : u = -1 := by omega
      have HR : Hid (lastR z q xs = (false, 0, [])) := lastR_none (fun t ht => by
        obtain ⟨j, hj⟩ := List.getElem?_of_mem ht
        exact hNO.out j t (Nat.zero_le _) hj)
      clear hNO
      go_wp2_with fail
      go_ret3
      rw [HR.out]
      exact ⟨none, 0, 0, rfl, Nat.le_refl _, by unfold maxLen; omega, Slc.nil_, hB.out⟩
    | succ m =>
      obtain rfl : u = (m : Int) := by omega
      clear hu
      obtain ⟨t, ht⟩ : ∃ t, xs[m]? = some t := ⟨_, List.getElem?_eq_getElem (by rw [HL.out]; omega)⟩
      obtain ⟨b, o, A2, n2, c2, rfl, hp, d0, d1, d2, d3, g1, g2, hs2⟩ := txnE.at_ HS.out ht
      have hl : b < w.heap.size := World.block_lt_of_cell? _ _ d0
      have e3 := (hB.out.cell (p := ⟨b, o + m * 4 + 3, none⟩) hl).trans d3
      have hn2 : n2 ≤ 1000 := by have := (HX.out t (List.mem_of_getElem? ht)).1; rw [hs2.1] at this; exact this
      have HT := Lib.hid ht
      have HS2 := Lib.hid hs2
      have HL2 := Lib.hid hs2.1
      have i0 : (0 : Int) ≤ (m : Int) := by omega
      have i1 : (m : Int) < (n : Int) := by omega
      clear ht hs2 hp
      go_wp2_with fail
      go_loopw [10] (fun i wr => ∃ (k : Nat) (u : Int), k ≤ n2 ∧ u + 1 = (k : Int) ∧ i = .int .i64 u ∧ Hid (∀ j y, k ≤ j → t.images[j]? = some y → hit z q y = false) ∧ Hid (Below w.heap.size w wr)) (fun i _ => (intOf i + 1).toNat)
      case atStart => exact ⟨n2, (n2 : Int) - 1, Nat.le_refl _, by omega, by first | rfl | go_num, fun j t hj ht => absurd (List.getElem?_eq_some_iff.1 ht).1 (by rw [HL2.out]; omega), hB⟩
      case round =>
        obtain ⟨k, u, hk, hu, rfl, hNI, hB2⟩ := hrel
        cases k with
        | zero =>
          obtain rfl : u = -1 := by omega
          have HN2 : Hid (∀ j t, m ≤ j → xs[j]? = some t → ∀ v ∈ t.images, hit z q v = false) := fun j t' hj ht' v hv => by
            rcases Nat.lt_or_ge m j with h1 | h1
            · exact hNO.out j t' (by omega) ht' v hv
            · obtain rfl : j = m := by omega
              rw [HT.out] at ht'
              injection ht' with ht'
              subst ht'
              obtain ⟨i, hi⟩ := List.getElem?_of_mem hv
              exact hNI.out i v (Nat.zero_le _) hi
          clear hNI
          go_wp2_with fail
          go_roundw
          case rel => exact ⟨m, (m : Int) - 1, by omega, by omega, by first | rfl | go_num, HN2, hB2⟩
          case measure => simp [intOf]
        | succ k =>
          obtain rfl : u = (k : Int) := by omega
          clear hu
          obtain ⟨x, hx⟩ : ∃ x, t.images[k]? = some x := ⟨_, List.getElem?_eq_getElem (by rw [HL2.out]; omega)⟩
          obtain ⟨b2, o2, A3, n3, c3, rfl, hp2, k0, k1, k2, g3, g4, hs3⟩ := imgE.at_ HS2.out hx
          have hl2 : b2 < w.heap.size := World.block_lt_of_cell? _ _ k0
          have f3 := (hB2.out.cell (p := ⟨b, o + m * 4 + 3, none⟩) hl).trans d3
          have f0 := (hB2.out.cell (p := ⟨b, o + m * 4, none⟩) hl).trans d0
          have e0 := (hB2.out.cell (p := ⟨b2, o2 + k * 3, none⟩) hl2).trans k0
          have e1 := (hB2.out.cell (p := ⟨b2, o2 + k * 3 + 1, none⟩) hl2).trans k1
          have e2 := (hB2.out.cell (p := ⟨b2, o2 + k * 3 + 2, none⟩) hl2).trans k2
          have j0 : (0 : Int) ≤ (k : Int) := by omega
          have j1 : (k : Int) < (n2 : Int) := by omega
          have HXX := Lib.hid hx
          have hn3 : n3 ≤ 100000 := by have := (HX.out t (List.mem_of_getElem? HT.out)).2 x (List.mem_of_getElem? hx); rw [hs3.1] at this; omega
          have HS3 := Lib.hid hs3
          obtain ⟨wk, hwk⟩ : ∃ wk : World, wk = wr := ⟨_, rfl⟩
          subst hwk
          have HB2 := Lib.hid hB2.out
          clear hx hs3 hp2 k0 k1 k2 hB2
          by_cases q1 : x.zone = z ∧ x.what = q
          · have t1 : (x.zone == z) = true := beq_iff_eq.2 q1.1
            have t2 : (x.what == q) = true := beq_iff_eq.2 q1.2
            have hh : hit z q x = true := by unfold hit; rw [t1, t2]; rfl
            have HR := Lib.hid (lastR_some HT.out HXX.out hh (fun j y hj hy => hNI.out j y (by omega) hy) (fun j y hj hy => hNO.out j y (by omega) hy))
            have HBK : Hid (Below w.heap.size w (wk.alloc (.cells #[.int .i64 x.zone, .int .i64 x.what, .slice A3 n3 c3] 49))) := HB2.out.alloc HB2.out.size _
            have HS5 : Hid (Slc 1 (intE .u8) Any (wk.alloc (.cells #[.int .i64 x.zone, .int .i64 x.what, .slice A3 n3 c3] 49)).drew A3 n3 x.bytes) := (HS3.out.keep (intE.good _) (by decide) (Agree.of_below HBK.out.drew)).mono (intE.good _) (fun _ _ => trivial)
            have HCELL : Hid (∀ W4, Below w.heap.size w W4 → Below (wk.alloc (.cells #[.int .i64 x.zone, .int .i64 x.what, .slice A3 n3 c3] 49)).heap.size (wk.alloc (.cells #[.int .i64 x.zone, .int .i64 x.what, .slice A3 n3 c3] 49)) W4 → Below w.heap.size w W4 ∧ W4.cell? ⟨wk.heap.size, 2, none⟩ = some (.slice A3 n3 c3) ∧ W4.cell? ⟨b, o + m * 4, none⟩ = some (.int .i64 t.seq)) := fun W4 h1 h2 =>
              ⟨h1, (h2.cell (p := ⟨wk.heap.size, 2, none⟩) (by simp)).trans (cell_of_row _ _ _ _ _ _ (heap_alloc_new wk _)), (h1.cell (p := ⟨b, o + m * 4, none⟩) hl).trans d0⟩
            clear q1 hh hNI hNO
            go_wp2_with fail
            refine wp_region_held_drew (S := (fun w' => Below w.heap.size w w' ∧ w'.cell? ⟨wk.heap.size, 2, none⟩ = some (.slice A3 n3 c3) ∧ w'.cell? ⟨b, o + m * 4, none⟩ = some (.int .i64 t.seq))) (by kernel_rfl) ?_ (fun hHeld => ?_)
            · try dsimp only
              exact HCELL.out _ HBK.out.drew (Below.drew (Below.refl _ _))
            refine wpAnyH_take (i := 0) (oi := _) (v := ?_) rfl (by kernel_rfl) (by kernel_rfl) (by kernel_rfl) (fun _ _ _ h => h) (Or.inl ⟨by rfl, ?_⟩) hHeld ?_
            rotate_left
            · intro w hSw
              try dsimp only at hSw
              go_simp
              try with_reducible rfl
            try simp only [List.getElem_toArray, List.getElem_cons_zero, Act.put, List.setIfInBounds_toArray, List.set_cons_zero, List.set_cons_succ]
            refine wpAnyH_take (i := 1) (oi := _) (v := ?_) rfl (by kernel_rfl) (by kernel_rfl) (by kernel_rfl) (fun _ _ _ h => h) (Or.inl ⟨by rfl, ?_⟩) hHeld ?_
            rotate_left
            · intro w hSw
              try dsimp only at hSw
              go_simp
              try with_reducible rfl
            try simp only [List.getElem_toArray, List.getElem_cons_succ, List.getElem_cons_zero, Act.put, List.setIfInBounds_toArray, List.set_cons_zero, List.set_cons_succ]
            refine wpAnyH_take (i := 3) (oi := _) (v := ?_) rfl (by kernel_rfl) (by kernel_rfl) (by kernel_rfl) (fun _ _ _ h => h) (Or.inl ⟨by rfl, ?_⟩) hHeld ?_
            rotate_left
            · intro w hSw
              try dsimp only at hSw
              go_simp
              try with_reducible rfl
            try simp only [List.getElem_toArray, List.getElem_cons_succ, List.getElem_cons_zero, Act.put, List.setIfInBounds_toArray, List.set_cons_zero, List.set_cons_succ]
            refine wpAnyH_take (i := 4) (oi := _) (v := ?_) rfl (by kernel_rfl) (by kernel_rfl) (by kernel_rfl) (fun _ _ _ h => h) (Or.inl ⟨by rfl, ?_⟩) hHeld ?_
            rotate_left
            · intro w hSw
              try dsimp only at hSw
              go_simp
              try with_reducible rfl
            try simp only [List.getElem_toArray, List.getElem_cons_succ, List.getElem_cons_zero, Act.put, List.setIfInBounds_toArray, List.set_cons_zero, List.set_cons_succ]
            refine wpAnyH_take (i := 5) (oi := _) (v := ?_) rfl (by kernel_rfl) (by kernel_rfl) (by kernel_rfl) (fun _ _ _ h => h) (Or.inl ⟨by rfl, ?_⟩) hHeld ?_
            rotate_left
            · intro w hSw
              try dsimp only at hSw
              go_simp
              try with_reducible rfl
            try simp only [List.getElem_toArray, List.getElem_cons_succ, List.getElem_cons_zero, Act.put, List.setIfInBounds_toArray, List.set_cons_zero, List.set_cons_succ]
            refine wpAnyH_take (i := 6) (oi := _) (v := ?_) rfl (by kernel_rfl) (by kernel_rfl) (by kernel_rfl) (fun _ _ _ h => h) (Or.inl ⟨by rfl, ?_⟩) hHeld ?_
            rotate_left
            · intro w hSw
              try dsimp only at hSw
              go_simp
              try with_reducible rfl
            try simp only [List.getElem_toArray, List.getElem_cons_succ, List.getElem_cons_zero, Act.put, List.setIfInBounds_toArray, List.set_cons_zero, List.set_cons_succ]
            refine wpAnyH_take (i := 7) (oi := _) (v := ?_) rfl (by kernel_rfl) (by kernel_rfl) (by kernel_rfl) (fun _ _ _ h => h) (Or.inl ⟨by rfl, ?_⟩) hHeld ?_
            rotate_left
            · intro w hSw
              try dsimp only at hSw
              go_simp
              try with_reducible rfl
            try simp only [List.getElem_toArray, List.getElem_cons_succ, List.getElem_cons_zero, Act.put, List.setIfInBounds_toArray, List.set_cons_zero, List.set_cons_succ]
            refine wpAnyH_ready (rs := [2]) (by kernel_rfl) (by simp) ?_
            refine AllReadyH.cons (o := _) rfl (fun K hK => ?_) AllReadyH.nil
            go_simp
            refine (twin_any _ _ _ _ Any _ HS5.out hn3).mono ?_
            rintro e1 w4 ⟨bv, rfl, hbv, hbw⟩
            obtain ⟨A4, n4, c4, hq4, g5, g6, hs4⟩ := hbv
            subst hq4
            have hb4 : Below w.heap.size w w4 := HBK.out.drew.trans (hbw.mono HBK.out.size)
            go_wp2_with fail
            refine hK.out _ _ ?_ (fun hHeld => ?_)
            · try dsimp only
              exact HCELL.out _ hb4 (Below.drew (Below.refl _ _) |>.trans hbw)
            clear hK K
            have HB4 := Lib.hid hb4
            have HS6 : Hid (Slc 1 (intE .u8) Any w4 A4 n4 x.bytes) := hs4.mono (intE.good _) (fun _ _ => trivial)
            clear hb4 hbw hs4
            try simp only [List.getElem_toArray, List.getElem_cons_succ, List.getElem_cons_zero, Act.put, List.setIfInBounds_toArray, List.set_cons_zero, List.set_cons_succ]
            refine wpAnyH_take (i := 8) (oi := _) (v := ?_) rfl (by kernel_rfl) (by kernel_rfl) (by kernel_rfl) (fun _ _ _ h => h) (Or.inl ⟨by rfl, ?_⟩) hHeld ?_
            rotate_left
            · intro w hSw
              try dsimp only at hSw
              go_simp
              try with_reducible rfl
            try simp only [List.getElem_toArray, List.getElem_cons_succ, List.getElem_cons_zero, Act.put, List.setIfInBounds_toArray, List.set_cons_zero, List.set_cons_succ]
            refine wpAnyH_take (i := 9) (oi := _) (v := ?_) rfl (by kernel_rfl) (by kernel_rfl) (by kernel_rfl) (fun _ _ _ h => h) (Or.inl ⟨by rfl, ?_⟩) hHeld ?_
            rotate_left
            · intro w hSw
              try dsimp only at hSw
              go_simp
              try with_reducible rfl
            try simp only [List.getElem_toArray, List.getElem_cons_succ, List.getElem_cons_zero, Act.put, List.setIfInBounds_toArray, List.set_cons_zero, List.set_cons_succ]
            refine wpAnyH_take (i := 10) (oi := _) (v := ?_) rfl (by kernel_rfl) (by kernel_rfl) (by kernel_rfl) (fun _ _ _ h => h) (Or.inl ⟨by rfl, ?_⟩) hHeld ?_
            rotate_left
            · intro w hSw
              try dsimp only at hSw
              go_simp
              try with_reducible rfl
            try simp only [List.getElem_toArray, List.getElem_cons_succ, List.getElem_cons_zero, Act.put, List.setIfInBounds_toArray, List.set_cons_zero, List.set_cons_succ]
            refine wpAnyH_done (by kernel_rfl) ?_ _
            go_wp2_with fail
            go_ret3
            rw [HR.out]
            exact ⟨A4, n4, c4, rfl, g5, g6, HS6.out, HB4.out⟩
          · have HN2 : Hid (∀ j y, k ≤ j → t.images[j]? = some y → hit z q y = false) := fun j y hj hy => by
              rcases Nat.lt_or_ge k j with h1 | h1
              · exact hNI.out j y (by omega) hy
              · obtain rfl : j = k := by omega
                rw [HXX.out] at hy
                injection hy with hy
                subst hy
                exact hit_not q1
            have HBK : Hid (Below w.heap.size w (wk.alloc (.cells #[.int .i64 x.zone, .int .i64 x.what, .slice A3 n3 c3] 49))) := HB2.out.alloc HB2.out.size _
            clear hNI
            by_cases t1 : x.zone = z
            · have t1' : (x.zone == z) = true := beq_iff_eq.2 t1
              have t2' : (x.what == q) = false := beq_eq_false_iff_ne.2 (fun h => q1 ⟨t1, h⟩)
              clear q1 t1
              go_wp2_with fail
              go_roundw
              case rel => exact ⟨k, (k : Int) - 1, by omega, by omega, by first | rfl | go_num, HN2, HBK⟩
              case measure => simp [intOf]
            · have t1' : (x.zone == z) = false := beq_eq_false_iff_ne.2 t1
              clear q1 t1
              go_wp2_with fail
              go_roundw
              case rel => exact ⟨k, (k : Int) - 1, by omega, by omega, by first | rfl | go_num, HN2, HBK⟩
              case measure => simp [intOf]
end Go.Proofs.Ytedgalbhjfmafaa

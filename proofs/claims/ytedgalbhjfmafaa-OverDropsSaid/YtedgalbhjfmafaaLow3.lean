/-
  TableBytes: its shape.
-/
import Derived.Test.YtedgalbhjfmafaaLow2
namespace Go.Proofs.Ytedgalbhjfmafaa
open Go.ChangeShapes Go.WideShapes Go.ChangeAt Go.RowKit
set_option linter.unusedVariables false
theorem entE.at_ {p : Nat → Prop} {W : World} {A : Option Addr} {n : Nat} {xs : List Unit} (h : Slc 3 entE p W A n xs) {j : Nat} (hj : j < n) :
    ∃ b o x y l, A = some ⟨b, o, none⟩ ∧ W.cell? ⟨b, o + j * 3, none⟩ = some (.int .i64 x) ∧ W.cell? ⟨b, o + j * 3 + 1, none⟩ = some (.int .i64 y) ∧ W.cell? ⟨b, o + j * 3 + 2, none⟩ = some (.bool l) := by
  have hx : xs[j]? = some () := by rw [List.getElem?_eq_getElem (by rw [h.1]; exact hj)]
  obtain ⟨b, o, e, hp, ⟨x, h0⟩, ⟨y, h1⟩, l, h2⟩ := h.at_ hx
  exact ⟨b, o, x, y, l, e, by simpa using h0, by simpa [Nat.add_assoc] using h1, by simpa [Nat.add_assoc] using h2⟩
set_option maxRecDepth 100000 in
set_option maxHeartbeats 1600000 in
theorem tableBytes_ex (A : Option Addr) (n c : Nat) (xs : List Unit) (p : Nat → Prop) (w : World) (h : Slc 3 entE p w A n xs) (hn : n ≤ 10) : Calls Try.prog 36 #[.agg #[.slice A n c]] w (Gives (fun v w' => ∃ bs, Bytes (Fr w.heap.size w') w' v bs ∧ bs.length = 9 * n) w) := by
  have HS := Lib.hid h
  clear h
  have HBX := Lib.hid (Blk.new w 74 #[.slice A n c])
  have HAL : Hid (Below w.heap.size w (w.alloc (.cells #[.slice A n c] 74))) := (Below.refl _ _).alloc (Nat.le_refl _) _
  go_enter Try.func36, Try.ntmps36
  go_wp2_with fail
  go_loopw [3, 4] (fun v i wr => ∃ k : Nat, k ≤ n ∧ i = .int .i64 k ∧ Hid (∃ bs, Bytes (Fr w.heap.size wr) wr v bs ∧ bs.length = 9 * k) ∧ Hid (Below w.heap.size w wr) ∧ Hid (wr.cell? ⟨w.heap.size, 0, none⟩ = some (.slice A n c)) ∧ Hid (w.heap.size < wr.heap.size)) (fun _ i _ => n - (intOf i).toNat)
  case atStart => exact ⟨0, by omega, rfl, ⟨[], SlcV.nil_, rfl⟩, HAL.out, HBX.out.cell 0, HBX.out.lt⟩
  case round =>
    obtain ⟨k, hk, rfl, hT, hB, hX, hW⟩ := hrel
    have x0 := hX.out
    by_cases hlt : k < n
    · obtain ⟨eb, eo, a, b, l, rfl, d0, d1, d2⟩ := entE.at_ HS.out hlt
      have hl : eb < w.heap.size := World.block_lt_of_cell? _ _ d0
      have e0 := (hB.out.cell (p := ⟨eb, eo + k * 3, none⟩) hl).trans d0
      have e1 := (hB.out.cell (p := ⟨eb, eo + k * 3 + 1, none⟩) hl).trans d1
      have e2 := (hB.out.cell (p := ⟨eb, eo + k * 3 + 2, none⟩) hl).trans d2
      obtain ⟨bs, ⟨A3, n3, c3, rfl, q1, q2, hs3⟩, hl3⟩ := hT.out
      have hl3b : bs.length ≤ 90 := by omega
      have hn3 : n3 ≤ 90 := by have := hs3.1; omega
      have HN3 : Hid (n3 = 9 * k) := by have := hs3.1; show _ = _; omega
      have HL3 := Lib.hid hl3
      have HBA : Hid (Below w.heap.size w (wr.alloc (.cells #[.int .i64 a, .int .i64 b, .bool l] 86))) := hB.out.alloc hB.out.size _
      have hba : Below wr.heap.size wr (wr.alloc (.cells #[.int .i64 a, .int .i64 b, .bool l] 86)) := (Below.refl _ _).alloc (Nat.le_refl _) _
      have HS3 : Hid (Slc 1 (intE .u8) (Fr w.heap.size wr) (wr.alloc (.cells #[.int .i64 a, .int .i64 b, .bool l] 86)).drew A3 n3 bs) := hs3.below (intE.good _) (by decide) hba.drew
      have HE := Lib.hid (Blk.new wr 86 #[.int .i64 a, .int .i64 b, .bool l])
      have HKEEP : Hid (∀ W, Below (wr.alloc (.cells #[.int .i64 a, .int .i64 b, .bool l] 86)).heap.size (wr.alloc (.cells #[.int .i64 a, .int .i64 b, .bool l] 86)) W → Below (wr.alloc (.cells #[.int .i64 a, .int .i64 b, .bool l] 86)).heap.size (wr.alloc (.cells #[.int .i64 a, .int .i64 b, .bool l] 86)) W ∧ W.cell? ⟨wr.heap.size, 0, none⟩ = some (.int .i64 a) ∧ W.cell? ⟨wr.heap.size, 1, none⟩ = some (.int .i64 b)) := fun W hW => ⟨hW, (HE.out.below_ hW HE.out.lt).cell 0, (HE.out.below_ hW HE.out.lt).cell 1⟩
      have i0' : (0 : Int) ≤ (k : Int) := by omega
      have i1' : (k : Int) < (n : Int) := by omega
      clear d0 d1 d2 hs3 hl3 hba hT
      go_wp2_with fail
      refine wp_region_held_drew (S := (fun w' => Below (wr.alloc (.cells #[.int .i64 a, .int .i64 b, .bool l] 86)).heap.size (wr.alloc (.cells #[.int .i64 a, .int .i64 b, .bool l] 86)) w' ∧ w'.cell? ⟨wr.heap.size, 0, none⟩ = some (.int .i64 a) ∧ w'.cell? ⟨wr.heap.size, 1, none⟩ = some (.int .i64 b))) (by kernel_rfl) ?_ (fun hHeld => ?_)
      · try dsimp only
        exact HKEEP.out _ (Below.refl _ _).drew
      refine wpAnyH_take (i := 0) (oi := _) (v := ?_) rfl (by kernel_rfl) (by kernel_rfl) (by kernel_rfl) (fun _ _ _ h => h) (Or.inl ⟨by rfl, ?_⟩) hHeld ?_
      rotate_left
      · intro w hSw
        try dsimp only at hSw
        go_simp
        try with_reducible rfl
      try simp only [List.getElem_toArray, List.getElem_cons_zero, Act.put, List.setIfInBounds_toArray, List.set_cons_zero, List.set_cons_succ]
      refine wpAnyH_take (i := 1) (oi := _) (v := ?_) rfl (by kernel_rfl) (by kernel_rfl) (by kernel_rfl) (fun _ _ _ h => h) (Or.inl ⟨by rfl, ?_⟩) hHeld ?_
      rotate_left
      · intro w hSw
        try dsimp only at hSw
        go_simp
        try with_reducible rfl
      try simp only [List.getElem_toArray, List.getElem_cons_succ, List.getElem_cons_zero, Act.put, List.setIfInBounds_toArray, List.set_cons_zero, List.set_cons_succ]
      refine wpAnyH_take (i := 2) (oi := _) (v := ?_) rfl (by kernel_rfl) (by kernel_rfl) (by kernel_rfl) (fun _ _ _ h => h) (Or.inl ⟨by rfl, ?_⟩) hHeld ?_
      rotate_left
      · intro w hSw
        try dsimp only at hSw
        go_simp
        try with_reducible rfl
      try simp only [List.getElem_toArray, List.getElem_cons_succ, List.getElem_cons_zero, Act.put, List.setIfInBounds_toArray, List.set_cons_zero, List.set_cons_succ]
      refine wpAnyH_take (i := 4) (oi := _) (v := ?_) rfl (by kernel_rfl) (by kernel_rfl) (by kernel_rfl) (fun _ _ _ h => h) (Or.inl ⟨by rfl, ?_⟩) hHeld ?_
      rotate_left
      · intro w hSw
        try dsimp only at hSw
        go_simp
        try with_reducible rfl
      try simp only [List.getElem_toArray, List.getElem_cons_succ, List.getElem_cons_zero, Act.put, List.setIfInBounds_toArray, List.set_cons_zero, List.set_cons_succ]
      refine wpAnyH_take (i := 5) (oi := _) (v := ?_) rfl (by kernel_rfl) (by kernel_rfl) (by kernel_rfl) (fun _ _ _ h => h) (Or.inl ⟨by rfl, ?_⟩) hHeld ?_
      rotate_left
      · intro w hSw
        try dsimp only at hSw
        go_simp
        try with_reducible rfl
      try simp only [List.getElem_toArray, List.getElem_cons_succ, List.getElem_cons_zero, Act.put, List.setIfInBounds_toArray, List.set_cons_zero, List.set_cons_succ]
      refine wpAnyH_ready (rs := [3]) (by kernel_rfl) (by simp) ?_
      refine AllReadyH.cons (o := _) rfl (fun K hK => ?_) AllReadyH.nil
      go_simp
      refine (putB_ex _ _ _ bs a 4 _ _ HS3.out (Nat.le_trans hn3 (by decide)) (by decide)).mono ?_
      rintro e1 w1 ⟨v1, rfl, ⟨bs1, ⟨A4, n4, c4, rfl, q3, q4, hs4⟩, hl4⟩, hb1⟩
      have hbw : Below (wr.alloc (.cells #[.int .i64 a, .int .i64 b, .bool l] 86)).heap.size (wr.alloc (.cells #[.int .i64 a, .int .i64 b, .bool l] 86)) w1 := ((Below.refl _ _).drew).trans hb1
      have hn4 : n4 ≤ 94 := by have := hs4.1; omega
      have HN4 : Hid (n4 = n3 + 4) := by have := hs4.1; show _ = _; omega
      go_wp2_with fail
      refine hK.out _ _ ?_ (fun hHeld => ?_)
      · try dsimp only
        exact HKEEP.out _ hbw
      clear hK K
      have HB1 := Lib.hid hbw
      have HS4 := Lib.hid hs4
      have HL4 := Lib.hid hl4
      clear hbw hb1 hs4 hl4
      try simp only [List.getElem_toArray, List.getElem_cons_succ, List.getElem_cons_zero, Act.put, List.setIfInBounds_toArray, List.set_cons_zero, List.set_cons_succ]
      refine wpAnyH_ready (rs := [6]) (by kernel_rfl) (by simp) ?_
      refine AllReadyH.cons (o := _) rfl (fun K hK => ?_) AllReadyH.nil
      go_simp
      refine (putB_ex _ _ _ bs1 b 4 _ _ HS4.out (Nat.le_trans hn4 (by decide)) (by decide)).mono ?_
      rintro e1 w2 ⟨v2, rfl, ⟨bs2, ⟨A5, n5, c5, rfl, q5, q6, hs5⟩, hl5⟩, hb2⟩
      have hbw : Below (wr.alloc (.cells #[.int .i64 a, .int .i64 b, .bool l] 86)).heap.size (wr.alloc (.cells #[.int .i64 a, .int .i64 b, .bool l] 86)) w2 := HB1.out.trans (hb2.mono HB1.out.size)
      have hn5 : n5 ≤ 98 := by have := hs5.1; omega
      have HN5 : Hid (n5 = n4 + 4) := by have := hs5.1; show _ = _; omega
      go_wp2_with fail
      refine hK.out _ _ ?_ (fun hHeld => ?_)
      · try dsimp only
        exact HKEEP.out _ hbw
      clear hK K
      have HB2 := Lib.hid hbw
      have HS5 := Lib.hid hs5
      have HL5 := Lib.hid hl5
      clear hbw hb2 hs5 hl5
      try simp only [List.getElem_toArray, List.getElem_cons_succ, List.getElem_cons_zero, Act.put, List.setIfInBounds_toArray, List.set_cons_zero, List.set_cons_succ]
      refine wpAnyH_take (i := 7) (oi := _) (v := ?_) rfl (by kernel_rfl) (by kernel_rfl) (by kernel_rfl) (fun _ _ _ h => h) (Or.inl ⟨by rfl, ?_⟩) hHeld ?_
      rotate_left
      · intro w hSw
        try dsimp only at hSw
        go_simp
        try with_reducible rfl
      try simp only [List.getElem_toArray, List.getElem_cons_succ, List.getElem_cons_zero, Act.put, List.setIfInBounds_toArray, List.set_cons_zero, List.set_cons_succ]
      refine wpAnyH_done (by kernel_rfl) ?_ _
      have f2 : w2.cell? ⟨wr.heap.size, 2, none⟩ = some (.bool l) := (HE.out.below_ HB2.out HE.out.lt).cell 2
      have hx2 : Hid (w2.cell? ⟨w.heap.size, 0, none⟩ = some (.slice (some ⟨eb, eo, none⟩) n c)) := (HB2.out.cell (p := ⟨w.heap.size, 0, none⟩) (by have := hW.out; simp; omega)).trans ((World.cell?_alloc_lt _ _ _ hW.out).trans hX.out)
      have HW2 : Hid (w.heap.size < w2.heap.size) := Nat.lt_of_lt_of_le hW.out (Nat.le_trans (by simp) HB2.out.size)
      clear x0 e0 e1 e2 hX hW HKEEP
      cases l with
      | false =>

        go_wp2_with fail
        refine (putB_ex _ _ _ bs2 0 1 _ _ HS5.out (Nat.le_trans hn5 (by decide)) (by decide)).mono ?_
        rintro e1 w3 ⟨v3, rfl, ⟨bs3, hbv, hl6⟩, hb3⟩
        have HT3 : Hid (∃ bs, Bytes (Fr w.heap.size w3) w3 v3 bs ∧ bs.length = 9 * (k + 1)) := ⟨bs3, hbv.mono (intE.good _) (fun b hb => ⟨by have h1 := hb.1; have h2 := HW2.out; omega, hb.2⟩), by have h3 := HN3.out; have h4 := HN4.out; have h5 := HN5.out; omega⟩
        have HB3 : Hid (Below w.heap.size w w3) := HBA.out.trans ((HB2.out.trans (hb3.mono HB2.out.size)).mono HBA.out.size)
        have HX3 : Hid (w3.cell? ⟨w.heap.size, 0, none⟩ = some (.slice (some ⟨eb, eo, none⟩) n c)) := (hb3.cell (p := ⟨w.heap.size, 0, none⟩) HW2.out).trans hx2.out
        have HW3 : Hid (w.heap.size < w3.heap.size) := Nat.lt_of_lt_of_le HW2.out hb3.size
        clear hbv hl6 hb3
        go_wp2_with fail
        go_roundw
        case rel => exact ⟨k + 1, by omega, by go_num, HT3, HB3, HX3, HW3⟩
        case measure => simp [intOf]; omega

      | true =>

        go_wp2_with fail
        refine (putB_ex _ _ _ bs2 1 1 _ _ HS5.out (Nat.le_trans hn5 (by decide)) (by decide)).mono ?_
        rintro e1 w3 ⟨v3, rfl, ⟨bs3, hbv, hl6⟩, hb3⟩
        have HT3 : Hid (∃ bs, Bytes (Fr w.heap.size w3) w3 v3 bs ∧ bs.length = 9 * (k + 1)) := ⟨bs3, hbv.mono (intE.good _) (fun b hb => ⟨by have h1 := hb.1; have h2 := HW2.out; omega, hb.2⟩), by have h3 := HN3.out; have h4 := HN4.out; have h5 := HN5.out; omega⟩
        have HB3 : Hid (Below w.heap.size w w3) := HBA.out.trans ((HB2.out.trans (hb3.mono HB2.out.size)).mono HBA.out.size)
        have HX3 : Hid (w3.cell? ⟨w.heap.size, 0, none⟩ = some (.slice (some ⟨eb, eo, none⟩) n c)) := (hb3.cell (p := ⟨w.heap.size, 0, none⟩) HW2.out).trans hx2.out
        have HW3 : Hid (w.heap.size < w3.heap.size) := Nat.lt_of_lt_of_le HW2.out hb3.size
        clear hbv hl6 hb3
        go_wp2_with fail
        go_roundw
        case rel => exact ⟨k + 1, by omega, by go_num, HT3, HB3, HX3, HW3⟩
        case measure => simp [intOf]; omega

    · obtain rfl : k = n := by omega
      go_wp2_with fail
      go_ret
      exact ⟨_, rfl, hT.out, hB.out⟩
end Go.Proofs.Ytedgalbhjfmafaa

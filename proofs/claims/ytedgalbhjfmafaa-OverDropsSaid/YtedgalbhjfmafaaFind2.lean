/-
  over.Find, over.Root; anchors.
-/
import Derived.Test.YtedgalbhjfmafaaFind
namespace Go.Proofs.Ytedgalbhjfmafaa
open Go.ChangeShapes Go.WideShapes Go.ChangeAt Go.RowKit
set_option linter.unusedVariables false
/-- what Find leaves -/
def FoundB (xs : List Txn) (z q : Int) (W : World) (e : Ending) (w' : World) : Prop :=
  ((∃ (t : Txn) (x : Img) (v : Value), lastT z q xs = some (t, x) ∧ e = .returned (.tuple #[v, .int .i64 t.seq, .bool true]) ∧ Bytes (Fr W.heap.size w') w' v x.bytes) ∨
    (lastT z q xs = none ∧ e = .returned (.tuple #[.slice none 0 0, .int .i64 0, .bool false]))) ∧ Below W.heap.size W w'
set_option maxRecDepth 100000 in
set_option maxHeartbeats 1600000 in
theorem Find_any (A : Option Addr) (n c : Nat) (xs : List Txn) (z q : Int) (p : Nat → Prop) (w : World) (h : Slc 4 txnE p w A n xs) (hn : n ≤ 100000) (hx : ∀ x ∈ xs, x.images.length ≤ 100000 ∧ ∀ y ∈ x.images, y.bytes.length ≤ 100000) :
    Calls Try.prog 9 #[.slice A n c, .int .i64 z, .int .i64 q] w (FoundB xs z q w) := by
  have HX := Lib.hid hx
  have HX1 : Hid (∀ x ∈ xs, x.images.length ≤ 100000) := fun x hm => (hx x hm).1
  have HS := Lib.hid h
  have HL := Lib.hid h.1
  clear hx h
  go_enter Try.func9, Try.ntmps9
  go_wp2_with fail
  refine (find_any _ _ _ _ _ _ _ _ HS.out hn HX1.out).mono ?_
  rintro e w1 ⟨hf, hb1⟩
  have HB1 := Lib.hid hb1
  clear hb1
  rcases hf with ⟨a, i, t, x, rfl, hxa, hti, hlt⟩ | ⟨rfl, hno⟩
  · obtain ⟨b, o, A2, n2, c2, rfl, hp, d0, d1, d2, d3, g1, g2, hs2⟩ := txnE.at_ HS.out hxa
    obtain ⟨b2, o2, A3, n3, c3, rfl, hp2, k0, k1, k2, g3, g4, hs3⟩ := imgE.at_ hs2 hti
    have hbd := (HX.out t (List.mem_of_getElem? hxa)).2 x (List.mem_of_getElem? hti)
    have hl3 := hs3.1
    have ha : a < n := by have := (List.getElem?_eq_some_iff.1 hxa).1; rw [HL.out] at this; exact this
    have hi : i < n2 := by have := (List.getElem?_eq_some_iff.1 hti).1; rw [hs2.1] at this; exact this
    have hl : b < w.heap.size := World.block_lt_of_cell? _ _ d0
    have hl2 : b2 < w.heap.size := World.block_lt_of_cell? _ _ k0
    have HCELL : Hid (∀ w', Below w.heap.size w w' → w'.cell? ⟨b, o + a * 4, none⟩ = some (.int .i64 t.seq) ∧ w'.cell? ⟨b, o + a * 4 + 3, none⟩ = some (.slice (some ⟨b2, o2, none⟩) n2 c2) ∧ w'.cell? ⟨b2, o2 + i * 3 + 2, none⟩ = some (.slice A3 n3 c3)) := fun w' hw' => ⟨(hw'.cell (p := ⟨b, _, none⟩) hl).trans d0, (hw'.cell (p := ⟨b, _, none⟩) hl).trans d3, (hw'.cell (p := ⟨b2, _, none⟩) hl2).trans k2⟩
    have HLT := Lib.hid hlt
    have i0 : (0 : Int) ≤ (a : Int) := by omega
    have i1 : (a : Int) < (n : Int) := by omega
    have i2 : (0 : Int) ≤ (i : Int) := by omega
    have i3 : (i : Int) < (n2 : Int) := by omega
    clear hxa hti hlt hl hl2 d0 d1 d2 d3 k0 k1 k2 hp hp2
    go_wp2_with fail
    refine wp_region_held_drew (S := (fun w' => Below w.heap.size w w' ∧ w'.cell? ⟨b, o + a * 4, none⟩ = some (.int .i64 t.seq) ∧ w'.cell? ⟨b, o + a * 4 + 3, none⟩ = some (.slice (some ⟨b2, o2, none⟩) n2 c2) ∧ w'.cell? ⟨b2, o2 + i * 3 + 2, none⟩ = some (.slice A3 n3 c3))) (by kernel_rfl) ?_ (fun hHeld => ?_)
    · try dsimp only
      exact ⟨HB1.out.drew, HCELL.out _ HB1.out.drew⟩
    refine wpAnyH_take (i := 0) (oi := _) (v := ?_) rfl (by kernel_rfl) (by kernel_rfl) (by kernel_rfl) (fun _ _ _ h => h) (Or.inl ⟨by rfl, ?_⟩) hHeld ?_
    rotate_left
    · intro w hSw
      try dsimp only at hSw
      go_simp
      try with_reducible rfl
    try simp only [List.getElem_toArray, List.getElem_cons_zero, Act.put, List.setIfInBounds_toArray, List.set_cons_zero, List.set_cons_succ]
    refine wpAnyH_take (i := 1) (oi := _) (v := ?_) rfl (by kernel_rfl) (by kernel_rfl) (by kernel_rfl) (fun _ _ _ h => h) (Or.inl ⟨by rfl, ?_⟩) hHeld ?_
    rotate_left
    · intro w hSw
      try dsimp only at hSw
      go_simp
      try with_reducible rfl
    try simp only [List.getElem_toArray, List.getElem_cons_succ, List.getElem_cons_zero, Act.put, List.setIfInBounds_toArray, List.set_cons_zero, List.set_cons_succ]
    refine wpAnyH_take (i := 2) (oi := _) (v := ?_) rfl (by kernel_rfl) (by kernel_rfl) (by kernel_rfl) (fun _ _ _ h => h) (Or.inl ⟨by rfl, ?_⟩) hHeld ?_
    rotate_left
    · intro w hSw
      try dsimp only at hSw
      go_simp
      try with_reducible rfl
    try simp only [List.getElem_toArray, List.getElem_cons_succ, List.getElem_cons_zero, Act.put, List.setIfInBounds_toArray, List.set_cons_zero, List.set_cons_succ]
    refine wpAnyH_take (i := 3) (oi := _) (v := ?_) rfl (by kernel_rfl) (by kernel_rfl) (by kernel_rfl) (fun _ _ _ h => h) (Or.inl ⟨by rfl, ?_⟩) hHeld ?_
    rotate_left
    · intro w hSw
      try dsimp only at hSw
      go_simp
      try with_reducible rfl
    try simp only [List.getElem_toArray, List.getElem_cons_succ, List.getElem_cons_zero, Act.put, List.setIfInBounds_toArray, List.set_cons_zero, List.set_cons_succ]
    refine wpAnyH_take (i := 4) (oi := _) (v := ?_) rfl (by kernel_rfl) (by kernel_rfl) (by kernel_rfl) (fun _ _ _ h => h) (Or.inl ⟨by rfl, ?_⟩) hHeld ?_
    rotate_left
    · intro w hSw
      try dsimp only at hSw
      go_simp
      try with_reducible rfl
    try simp only [List.getElem_toArray, List.getElem_cons_succ, List.getElem_cons_zero, Act.put, List.setIfInBounds_toArray, List.set_cons_zero, List.set_cons_succ]
    refine wpAnyH_take (i := 5) (oi := _) (v := ?_) rfl (by kernel_rfl) (by kernel_rfl) (by kernel_rfl) (fun _ _ _ h => h) (Or.inl ⟨by rfl, ?_⟩) hHeld ?_
    rotate_left
    · intro w hSw
      try dsimp only at hSw
      go_simp
      try with_reducible rfl
    try simp only [List.getElem_toArray, List.getElem_cons_succ, List.getElem_cons_zero, Act.put, List.setIfInBounds_toArray, List.set_cons_zero, List.set_cons_succ]
    refine wpAnyH_take (i := 6) (oi := _) (v := ?_) rfl (by kernel_rfl) (by kernel_rfl) (by kernel_rfl) (fun _ _ _ h => h) (Or.inl ⟨by rfl, ?_⟩) hHeld ?_
    rotate_left
    · intro w hSw
      try dsimp only at hSw
      go_simp
      try with_reducible rfl
    try simp only [List.getElem_toArray, List.getElem_cons_succ, List.getElem_cons_zero, Act.put, List.setIfInBounds_toArray, List.set_cons_zero, List.set_cons_succ]
    refine wpAnyH_take (i := 7) (oi := _) (v := ?_) rfl (by kernel_rfl) (by kernel_rfl) (by kernel_rfl) (fun _ _ _ h => h) (Or.inl ⟨by rfl, ?_⟩) hHeld ?_
    rotate_left
    · intro w hSw
      try dsimp only at hSw
      go_simp
      try with_reducible rfl
    try simp only [List.getElem_toArray, List.getElem_cons_succ, List.getElem_cons_zero, Act.put, List.setIfInBounds_toArray, List.set_cons_zero, List.set_cons_succ]
    refine wpAnyH_take (i := 8) (oi := _) (v := ?_) rfl (by kernel_rfl) (by kernel_rfl) (by kernel_rfl) (fun _ _ _ h => h) (Or.inl ⟨by rfl, ?_⟩) hHeld ?_
    rotate_left
    · intro w hSw
      try dsimp only at hSw
      go_simp
      try with_reducible rfl
    try simp only [List.getElem_toArray, List.getElem_cons_succ, List.getElem_cons_zero, Act.put, List.setIfInBounds_toArray, List.set_cons_zero, List.set_cons_succ]
    refine wpAnyH_take (i := 10) (oi := _) (v := ?_) rfl (by kernel_rfl) (by kernel_rfl) (by kernel_rfl) (fun _ _ _ h => h) (Or.inl ⟨by rfl, ?_⟩) hHeld ?_
    rotate_left
    · intro w hSw
      try dsimp only at hSw
      go_simp
      try with_reducible rfl
    try simp only [List.getElem_toArray, List.getElem_cons_succ, List.getElem_cons_zero, Act.put, List.setIfInBounds_toArray, List.set_cons_zero, List.set_cons_succ]
    refine wpAnyH_take (i := 11) (oi := _) (v := ?_) rfl (by kernel_rfl) (by kernel_rfl) (by kernel_rfl) (fun _ _ _ h => h) (Or.inl ⟨by rfl, ?_⟩) hHeld ?_
    rotate_left
    · intro w hSw
      try dsimp only at hSw
      go_simp
      try with_reducible rfl
    try simp only [List.getElem_toArray, List.getElem_cons_succ, List.getElem_cons_zero, Act.put, List.setIfInBounds_toArray, List.set_cons_zero, List.set_cons_succ]
    refine wpAnyH_take (i := 12) (oi := _) (v := ?_) rfl (by kernel_rfl) (by kernel_rfl) (by kernel_rfl) (fun _ _ _ h => h) (Or.inl ⟨by rfl, ?_⟩) hHeld ?_
    rotate_left
    · intro w hSw
      try dsimp only at hSw
      go_simp
      try with_reducible rfl
    try simp only [List.getElem_toArray, List.getElem_cons_succ, List.getElem_cons_zero, Act.put, List.setIfInBounds_toArray, List.set_cons_zero, List.set_cons_succ]
    refine wpAnyH_take (i := 13) (oi := _) (v := ?_) rfl (by kernel_rfl) (by kernel_rfl) (by kernel_rfl) (fun _ _ _ h => h) (Or.inl ⟨by rfl, ?_⟩) hHeld ?_
    rotate_left
    · intro w hSw
      try dsimp only at hSw
      go_simp
      try with_reducible rfl
    try simp only [List.getElem_toArray, List.getElem_cons_succ, List.getElem_cons_zero, Act.put, List.setIfInBounds_toArray, List.set_cons_zero, List.set_cons_succ]
    refine wpAnyH_take (i := 14) (oi := _) (v := ?_) rfl (by kernel_rfl) (by kernel_rfl) (by kernel_rfl) (fun _ _ _ h => h) (Or.inl ⟨by rfl, ?_⟩) hHeld ?_
    rotate_left
    · intro w hSw
      try dsimp only at hSw
      go_simp
      try with_reducible rfl
    try simp only [List.getElem_toArray, List.getElem_cons_succ, List.getElem_cons_zero, Act.put, List.setIfInBounds_toArray, List.set_cons_zero, List.set_cons_succ]
    refine wpAnyH_ready (rs := [9]) (by kernel_rfl) (by simp) ?_
    refine AllReadyH.cons (o := _) rfl (fun K hK => ?_) AllReadyH.nil
    go_simp
    refine (cloneB_any _ _ _ _ _ _ (hs3.keep (intE.good _) (by decide) (Agree.of_below HB1.out.drew)) (by omega)).mono ?_
    rintro e1 w2 ⟨bv, rfl, hbv, hbw⟩
    have hb2 : Below w.heap.size w w2 := HB1.out.drew.trans (hbw.mono HB1.out.size)
    go_wp2_with fail
    refine hK.out _ _ ?_ (fun hHeld => ?_)
    · try dsimp only
      exact ⟨hb2, HCELL.out _ hb2⟩
    clear hK K
    have HB2 := Lib.hid hb2
    have HBV := Lib.hid hbv
    clear hb2 hbv hbw
    try simp only [List.getElem_toArray, List.getElem_cons_succ, List.getElem_cons_zero, Act.put, List.setIfInBounds_toArray, List.set_cons_zero, List.set_cons_succ]
    refine wpAnyH_take (i := 15) (oi := _) (v := ?_) rfl (by kernel_rfl) (by kernel_rfl) (by kernel_rfl) (fun _ _ _ h => h) (Or.inl ⟨by rfl, ?_⟩) hHeld ?_
    rotate_left
    · intro w hSw
      try dsimp only at hSw
      go_simp
      try with_reducible rfl
    try simp only [List.getElem_toArray, List.getElem_cons_succ, List.getElem_cons_zero, Act.put, List.setIfInBounds_toArray, List.set_cons_zero, List.set_cons_succ]
    refine wpAnyH_take (i := 16) (oi := _) (v := ?_) rfl (by kernel_rfl) (by kernel_rfl) (by kernel_rfl) (fun _ _ _ h => h) (Or.inl ⟨by rfl, ?_⟩) hHeld ?_
    rotate_left
    · intro w hSw
      try dsimp only at hSw
      go_simp
      try with_reducible rfl
    try simp only [List.getElem_toArray, List.getElem_cons_succ, List.getElem_cons_zero, Act.put, List.setIfInBounds_toArray, List.set_cons_zero, List.set_cons_succ]
    refine wpAnyH_take (i := 17) (oi := _) (v := ?_) rfl (by kernel_rfl) (by kernel_rfl) (by kernel_rfl) (fun _ _ _ h => h) (Or.inl ⟨by rfl, ?_⟩) hHeld ?_
    rotate_left
    · intro w hSw
      try dsimp only at hSw
      go_simp
      try with_reducible rfl
    try simp only [List.getElem_toArray, List.getElem_cons_succ, List.getElem_cons_zero, Act.put, List.setIfInBounds_toArray, List.set_cons_zero, List.set_cons_succ]
    refine wpAnyH_done (by kernel_rfl) ?_ _
    go_wp2_with fail
    go_ret3
    exact ⟨.inl ⟨t, x, bv, HLT.out, rfl, HBV.out.mono (intE.good _) (fun b hb => ⟨Nat.le_trans HB1.out.size hb.1, hb.2⟩)⟩, HB2.out⟩
  · have HNO := Lib.hid hno
    clear hno
    go_wp2_with fail
    go_ret3
    exact ⟨.inr ⟨HNO.out, rfl⟩, HB1.out⟩
/-! ### Anchors -/
structure Hm where
  places : List Int
  next : Int
  root : Int
def homeE : Elt Hm := fun p W f x => (∃ v, f 0 = some v ∧ Ints p W v x.places) ∧ f 1 = some (.int .i64 x.next) ∧ f 2 = some (.int .i64 x.root)
theorem homeE.good : Good 3 homeE where
  keep := fun ha ⟨⟨v, h0, hb⟩, h1, h2⟩ => ⟨⟨v, h0, hb.keep (intE.good _) (by decide) ha⟩, h1, h2⟩
  here := fun hf ⟨⟨v, h0, hb⟩, h1, h2⟩ => ⟨⟨v, (hf 0 (by decide)).symm.trans h0, hb⟩, (hf 1 (by decide)).symm.trans h1, (hf 2 (by decide)).symm.trans h2⟩
  mono := fun hpq ⟨⟨v, h0, hb⟩, h1, h2⟩ => ⟨⟨v, h0, hb.mono (intE.good _) hpq⟩, h1, h2⟩
  lt := fun ⟨⟨v, h0, hb⟩, h1, h2⟩ => ⟨⟨v, h0, hb.lt (intE.good _) (by decide)⟩, h1, h2⟩
theorem homeE.at_ {p : Nat → Prop} {W : World} {A : Option Addr} {n : Nat} {xs : List Hm} (h : Slc 3 homeE p W A n xs) {j : Nat} {x : Hm} (hj : xs[j]? = some x) :
    ∃ b o A' n' c', A = some ⟨b, o, none⟩ ∧ p b ∧ W.cell? ⟨b, o + j * 3, none⟩ = some (.slice A' n' c') ∧ W.cell? ⟨b, o + j * 3 + 1, none⟩ = some (.int .i64 x.next) ∧ W.cell? ⟨b, o + j * 3 + 2, none⟩ = some (.int .i64 x.root) ∧ n' ≤ c' ∧ c' ≤ maxLen ∧ Slc 1 (intE .i64) p W A' n' x.places := by
  obtain ⟨b, o, e, hp, ⟨v, h0, A', n', c', rfl, h3, h4, h5⟩, h1, h2⟩ := h.at_ hj
  exact ⟨b, o, A', n', c', e, hp, by simpa using h0, by simpa [Nat.add_assoc] using h1, by simpa [Nat.add_assoc] using h2, h3, h4, h5⟩
/-- what Root answers -/
def rootOf (hs : List Hm) (xs : List Txn) (z : Int) : Int × Int :=
  if 0 ≤ z ∧ z < hs.length then (match lastT z 255 xs with
    | some (t, _) => (t.seq, 0)
    | none => (match hs[z.toNat]? with
      | some h => (h.root, 0)
      | none => (0, 0))) else (0, 1)
def Rooted (hs : List Hm) (xs : List Txn) (z : Int) (W : World) (e : Ending) (w' : World) : Prop :=
  e = .returned (.tuple #[.int .i64 (rootOf hs xs z).1, .int .i64 (rootOf hs xs z).2]) ∧ Below W.heap.size W w'
theorem ret_two {a b c d : Int} (h : (a, b) = (c, d)) : Ending.returned (.tuple #[.int .i64 a, .int .i64 b]) = Ending.returned (.tuple #[.int .i64 c, .int .i64 d]) := by injection h with h1 h2; rw [h1, h2]
set_option maxRecDepth 100000 in
set_option maxHeartbeats 1600000 in
theorem Root_any (ge ep po se la : Int) (lab : ByteArray) (B : Option Addr) (m c' : Nat) (hs : List Hm) (A : Option Addr) (n c : Nat) (xs : List Txn) (z : Int) (p p' : Nat → Prop) (w : World) (hh : Slc 3 homeE p' w B m hs) (hm : m ≤ maxLen) (h : Slc 4 txnE p w A n xs) (hn : n ≤ 100000) (hx : ∀ x ∈ xs, x.images.length ≤ 100000) :
    Calls Try.prog 11 #[.agg #[.int .i64 ge, .int .i64 ep, .int .i64 po, .int .i64 se, .int .i64 la, .string lab, .slice B m c'], .slice A n c, .int .i64 z] w (Rooted hs xs z w) := by
  unfold maxLen at hm
  have HX := Lib.hid hx
  have HS := Lib.hid h
  have HH := Lib.hid hh
  have HM := Lib.hid hh.1
  have HL := Lib.hid h.1
  clear hx h hh
  have hbx := Blk.new w 25 #[.int .i64 ge, .int .i64 ep, .int .i64 po, .int .i64 se, .int .i64 la, .string lab, .slice B m c']
  by_cases z0 : z < 0
  · have HR : Hid (rootOf hs xs z = (0, 1)) := by show rootOf _ _ _ = _; rw [rootOf, if_neg (by omega)]
    clear hbx
    go_enter Try.func11, Try.ntmps11
    go_wp2_with fail
    go_ret2
    exact ⟨ret_two HR.out.symm, (Below.refl _ _).alloc (Nat.le_refl _) _⟩
  · by_cases z1 : (m : Int) ≤ z
    · have HR : Hid (rootOf hs xs z = (0, 1)) := by show rootOf _ _ _ = _; rw [rootOf, if_neg (by rw [HM.out]; omega)]
      clear hbx
      go_enter Try.func11, Try.ntmps11
      go_wp2_with fail
      go_ret2
      exact ⟨ret_two HR.out.symm, (Below.refl _ _).alloc (Nat.le_refl _) _⟩
    · have HR0 : Hid (rootOf hs xs z = match lastT z 255 xs with
        | some (t, _) => (t.seq, 0)
        | none => (match hs[z.toNat]? with
          | some h => (h.root, 0)
          | none => (0, 0))) := by show rootOf _ _ _ = _; rw [rootOf, if_pos (by rw [HM.out]; omega)]
      have hal : Below w.heap.size w (w.alloc (.cells #[.int .i64 ge, .int .i64 ep, .int .i64 po, .int .i64 se, .int .i64 la, .string lab, .slice B m c'] 25)) := (Below.refl _ _).alloc (Nat.le_refl _) _
      have HAL := Lib.hid hal
      have HBX := Lib.hid hbx
      clear hal hbx
      go_enter Try.func11, Try.ntmps11
      go_wp2_with fail
      refine (find_any _ _ _ _ _ _ p _ (HS.out.keep txnE.good (by decide) (Agree.of_below HAL.out)) hn HX.out).mono ?_
      rintro e w1 ⟨hf, hb1⟩
      have HB1 : Hid (Below w.heap.size w w1) := HAL.out.trans (hb1.mono HAL.out.size)
      have hbx1 := HBX.out.below_ hb1 HBX.out.lt
      have c6 : w1.cell? ⟨w.heap.size, 6, none⟩ = some (.slice B m c') := hbx1.cell 6
      clear hb1 hbx1
      rcases hf with ⟨a, i, t, x, rfl, hxa, hti, hlt⟩ | ⟨rfl, hno⟩
      · obtain ⟨b, o, A2, n2, c2, rfl, hp, d0, d1, d2, d3, g1, g2, hs2⟩ := txnE.at_ HS.out hxa
        have ha : a < n := by have := (List.getElem?_eq_some_iff.1 hxa).1; rw [HL.out] at this; exact this
        have hl : b < w.heap.size := World.block_lt_of_cell? _ _ d0
        have e0 := (HB1.out.cell (p := ⟨b, o + a * 4, none⟩) hl).trans d0
        have i0 : (0 : Int) ≤ (a : Int) := by omega
        have i1 : (a : Int) < (n : Int) := by omega
        have HR : Hid (rootOf hs xs z = (t.seq, 0)) := by have := HR0.out; rw [hlt] at this; exact this
        clear hxa hti hlt d0 d1 d2 d3 hp
        go_wp2_with fail
        go_ret2
        exact ⟨ret_two HR.out.symm, HB1.out⟩
      · obtain ⟨y, hy⟩ : ∃ y, hs[z.toNat]? = some y := ⟨_, List.getElem?_eq_getElem (by rw [HM.out]; omega)⟩
        have HR : Hid (rootOf hs xs z = (y.root, 0)) := by have := HR0.out; rw [hno, hy] at this; exact this
        obtain ⟨k, hk⟩ := Int.eq_ofNat_of_zero_le (show 0 ≤ z by omega)
        subst hk
        rw [Int.toNat_natCast] at hy
        obtain ⟨b, o, A2, n2, c2, rfl, hp, d0, d1, d2, g1, g2, hs2⟩ := homeE.at_ HH.out hy
        have hl : b < w.heap.size := World.block_lt_of_cell? _ _ d0
        have e0 := (HB1.out.cell (p := ⟨b, o + k * 3 + 2, none⟩) hl).trans d2
        clear hy hno d0 d1 d2 hp HR0
        go_wp2_with fail
        go_ret2
        exact ⟨ret_two HR.out.symm, HB1.out⟩
end Go.Proofs.Ytedgalbhjfmafaa

/-
  The page's own answers: Root, put, Zones.
-/
import Derived.Test.YtedgalbhjfmafaaRef
namespace Go.Proofs.Ytedgalbhjfmafaa
open Go.ChangeShapes Go.WideShapes Go.ChangeAt Go.RowKit
set_option linter.unusedVariables false
theorem rFind_is {A : Option Addr} {n c : Nat} {xs : List Txn} {z q : Int} {p : Nat → Prop} {w : World} {ok : Bool} {s : Int} {bs : List Int} (h : Slc 4 txnE p w A n xs) (hn : n ≤ 1000) (hx : ∀ x ∈ xs, x.images.length ≤ 1000 ∧ ∀ y ∈ x.images, y.bytes.length ≤ 1000) (hr : lastR z q xs = (ok, s, bs)) :
    Calls Try.prog 10 #[.slice A n c, .int .i64 z, .int .i64 q] w (FoundP (ok, s, bs) w) := by
  rw [← hr]
  exact rFind_any A n c xs z q p w h hn hx
/-- of a zone that there is -/
theorem root_in {hs : List Hm} {xs : List Txn} {z : Nat} {y : Hm} (hz : hs[z]? = some y) : rootOf hs xs z = (if (lastR z 255 xs).1 = true then (lastR z 255 xs).2.1 else y.root, 0) := by
  have hlt := (List.getElem?_eq_some_iff.1 hz).1
  rw [rootOf, if_pos (by omega), Int.toNat_natCast, hz, lastR]
  cases h : lastT z 255 xs with
  | none => rfl
  | some r => rfl
set_option maxRecDepth 100000 in
set_option maxHeartbeats 1600000 in
theorem rRoot_any (ge ep po se la : Int) (lab : ByteArray) (B : Option Addr) (m c' : Nat) (hs : List Hm) (A : Option Addr) (n c : Nat) (xs : List Txn) (z : Nat) (y : Hm) (p p' : Nat → Prop) (w : World) (hh : Slc 3 homeE p' w B m hs) (hm : m ≤ maxLen) (h : Slc 4 txnE p w A n xs) (hn : n ≤ 1000) (hx : ∀ x ∈ xs, x.images.length ≤ 1000 ∧ ∀ y ∈ x.images, y.bytes.length ≤ 1000) (hz : hs[z]? = some y) :
    Calls Try.prog 18 #[.agg #[.int .i64 ge, .int .i64 ep, .int .i64 po, .int .i64 se, .int .i64 la, .string lab, .slice B m c'], .slice A n c, .int .i64 (z : Int)] w fun e w' => e = .returned (.int .i64 (rootOf hs xs z).1) ∧ Below w.heap.size w w' := by
  unfold maxLen at hm
  rw [root_in hz]
  obtain ⟨⟨ok, s, bs⟩, hr⟩ : ∃ r, lastR z 255 xs = r := ⟨_, rfl⟩
  rw [hr]
  have HR := Lib.hid hr
  have HX := Lib.hid hx
  have HS := Lib.hid h
  have HH := Lib.hid hh
  have hzm : z < m := by have := (List.getElem?_eq_some_iff.1 hz).1; rw [hh.1] at this; exact this
  have HZ := Lib.hid hz
  have HAL : Hid (Below w.heap.size w (w.alloc (.cells #[.int .i64 ge, .int .i64 ep, .int .i64 po, .int .i64 se, .int .i64 la, .string lab, .slice B m c'] 25))) := (Below.refl _ _).alloc (Nat.le_refl _) _
  have HBX := Lib.hid (Blk.new w 25 #[.int .i64 ge, .int .i64 ep, .int .i64 po, .int .i64 se, .int .i64 la, .string lab, .slice B m c'])
  clear hr hx h hh hz
  go_enter Try.func18, Try.ntmps18
  go_wp2_with fail
  refine (rFind_is (HS.out.keep txnE.good (by decide) (Agree.of_below HAL.out)) hn HX.out HR.out).mono ?_
  rintro e w1 ⟨A1, n1, c1, rfl, u1, u2, hs1, hb1⟩
  have HB1 : Hid (Below w.heap.size w w1) := HAL.out.trans (hb1.mono HAL.out.size)
  have hbx1 := HBX.out.below_ hb1 HBX.out.lt
  have c6 : w1.cell? ⟨w.heap.size, 6, none⟩ = some (.slice B m c') := hbx1.cell 6
  clear hb1 hbx1 hs1
  cases ok with
  | true =>
    go_wp2_with fail
    go_ret
    exact ⟨rfl, HB1.out⟩
  | false =>
    obtain ⟨b, o, A2, n2, c2, rfl, hp, d0, d1, d2, g1, g2, hs2⟩ := homeE.at_ HH.out HZ.out
    have hl : b < w.heap.size := World.block_lt_of_cell? _ _ d0
    have e0 := (HB1.out.cell (p := ⟨b, o + z * 3 + 2, none⟩) hl).trans d2
    have i0 : (0 : Int) ≤ (z : Int) := by omega
    have i1 : (z : Int) < (m : Int) := by omega
    clear d0 d1 d2 hp hs2
    go_wp2_with fail
    go_ret
    exact ⟨rfl, HB1.out⟩
/-! ### put -/
/-- into a rising list, once -/
def putF (l : List Int) (x : Int) : List Int :=
  if x ∈ l then l else l.takeWhile (· < x) ++ [x] ++ l.dropWhile (· < x)
theorem putF_mem {l : List Int} {x y : Int} : y ∈ putF l x ↔ y = x ∨ y ∈ l := by
  unfold putF
  by_cases h : x ∈ l
  · rw [if_pos h]
    constructor
    · exact .inr
    · rintro (rfl | h1)
      · exact h
      · exact h1
  · rw [if_neg h]
    have : l.takeWhile (· < x) ++ l.dropWhile (· < x) = l := List.takeWhile_append_dropWhile
    have hm : y ∈ l ↔ y ∈ l.takeWhile (· < x) ∨ y ∈ l.dropWhile (· < x) := by rw [← List.mem_append, this]
    rw [hm]
    simp only [List.mem_append, List.mem_singleton]
    constructor
    · rintro ((h1 | h1) | h1)
      · exact .inr (.inl h1)
      · exact .inl h1
      · exact .inr (.inr h1)
    · rintro (h1 | h1 | h1)
      · exact .inl (.inr h1)
      · exact .inl (.inl h1)
      · exact .inr h1
theorem dw_ge {x : Int} : ∀ {l : List Int}, l.Pairwise (· < ·) → ∀ y ∈ l.dropWhile (· < x), x ≤ y
  | [], _, y, hy => by simp at hy
  | a :: l, h, y, hy => by
    rw [List.pairwise_cons] at h
    rw [List.dropWhile_cons] at hy
    by_cases ha : a < x
    · rw [if_pos (by simpa using ha)] at hy
      exact dw_ge h.2 y hy
    · rw [if_neg (by simpa using ha), List.mem_cons] at hy
      rcases hy with rfl | hy
      · omega
      · have := h.1 y hy; omega
theorem tw_lt {x : Int} : ∀ {l : List Int}, ∀ y ∈ l.takeWhile (· < x), y < x
  | [], y, hy => by simp at hy
  | a :: l, y, hy => by
    rw [List.takeWhile_cons] at hy
    by_cases ha : a < x
    · rw [if_pos (by simpa using ha), List.mem_cons] at hy
      rcases hy with rfl | hy
      · exact ha
      · exact tw_lt y hy
    · rw [if_neg (by simpa using ha)] at hy
      simp at hy
theorem putF_rises {l : List Int} {x : Int} (h : l.Pairwise (· < ·)) : (putF l x).Pairwise (· < ·) := by
  unfold putF
  by_cases hm : x ∈ l
  · rw [if_pos hm]; exact h
  · rw [if_neg hm]
    have hsub : l.takeWhile (· < x) ++ l.dropWhile (· < x) = l := List.takeWhile_append_dropWhile
    have hp : (l.takeWhile (· < x) ++ l.dropWhile (· < x)).Pairwise (· < ·) := by rw [hsub]; exact h
    rw [List.pairwise_append] at hp
    have hd : ∀ y ∈ l.dropWhile (· < x), x < y := fun y hy => by
      have h1 := dw_ge h y hy
      have h2 : y ∈ l := by rw [← hsub]; exact List.mem_append.2 (.inr hy)
      rcases Int.lt_or_eq_of_le h1 with h3 | h3
      · exact h3
      · exact absurd (h3 ▸ h2) hm
    rw [List.append_assoc, List.pairwise_append]
    refine ⟨hp.1, ?_, ?_⟩
    · rw [List.singleton_append, List.pairwise_cons]
      exact ⟨hd, hp.2.1⟩
    · intro a ha b hb
      rw [List.singleton_append, List.mem_cons] at hb
      rcases hb with rfl | hb
      · exact tw_lt a ha
      · exact hp.2.2 a ha b hb
theorem putAll_rises (zs : List Int) : ∀ l : List Int, l.Pairwise (· < ·) → (zs.foldl putF l).Pairwise (· < ·) := by
  induction zs with
  | nil => exact fun l h => h
  | cons z zs ih => exact fun l h => ih _ (putF_rises h)
theorem putAll_mem (zs : List Int) : ∀ (l : List Int) (x : Int), x ∈ zs.foldl putF l ↔ x ∈ zs ∨ x ∈ l := by
  induction zs with
  | nil => intro l x; simp
  | cons z zs ih =>
    intro l x
    rw [List.foldl_cons, ih, putF_mem, List.mem_cons]
    constructor
    · rintro (h | h | h)
      · exact .inl (.inr h)
      · exact .inl (.inl h)
      · exact .inr h
    · rintro ((h | h) | h)
      · exact .inr (.inl h)
      · exact .inl h
      · exact .inr (.inr h)
/-- the page's zones are the program's -/
theorem zones_same (xs : List Txn) : (zonesT xs).foldl putF [] = zonesOf xs :=
  rising_eq (putAll_rises _ _ List.Pairwise.nil) (zonesOf_rises xs) (fun x => by rw [putAll_mem, mem_zonesOf]; simp)
theorem putF_at {l : List Int} {x : Int} {k : Nat} (hk : k ≤ l.length) (hlo : ∀ j y, j < k → l[j]? = some y → y < x) (hhi : ∀ y, l[k]? = some y → x < y) (hr : l.Pairwise (· < ·)) : putF l x = l.take k ++ [x] ++ l.drop k := by
  have h1 : l.takeWhile (· < x) = l.take k ∧ l.dropWhile (· < x) = l.drop k := by
    clear hr
    induction l generalizing k with
    | nil => simp
    | cons a l ih =>
      cases k with
      | zero =>
        have := hhi a rfl
        have hn : ¬ a < x := by omega
        simp [hn]
      | succ k =>
        have ha := hlo 0 a (by omega) rfl
        have := ih (k := k) (by simpa using hk) (fun j y hj hy => hlo (j + 1) y (by omega) (by simpa using hy)) (fun y hy => hhi y (by simpa using hy))
        simp [ha, this.1, this.2]
  unfold putF
  rw [if_neg, h1.1, h1.2]
  intro hm
  obtain ⟨j, hj⟩ := List.getElem?_of_mem hm
  rcases Nat.lt_trichotomy j k with h2 | h2 | h2
  · have := hlo j x h2 hj; omega
  · subst h2; have := hhi x hj; omega
  · have hkl : k < l.length := by have := (List.getElem?_eq_some_iff.1 hj).1; omega
    have h3 := hhi _ (List.getElem?_eq_getElem hkl)
    rw [List.pairwise_iff_getElem] at hr
    obtain ⟨hjl, hje⟩ := List.getElem?_eq_some_iff.1 hj
    have h4 := hr k j hkl hjl h2
    omega
theorem putF_here {l : List Int} {x : Int} {k : Nat} (h : l[k]? = some x) : putF l x = l := by unfold putF; rw [if_pos (List.mem_of_getElem? h)]
end Go.Proofs.Ytedgalbhjfmafaa

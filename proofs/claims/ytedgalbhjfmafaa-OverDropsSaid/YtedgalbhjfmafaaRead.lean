/-
  The contracts of what only reads.
-/
import Derived.Test.YtedgalbhjfmafaaWords
import Derived.Test.YtedgalbhjfmafaaProg
import Derived.WalkKit
import Derived.ProofKit
import Derived.OpenShut
import Derived.ChangeOld
import Derived.Below
import Derived.Lib.Hide
import Derived.Deep.QuietTactic
import Derived.BigQuiet
namespace Go.Proofs.Ytedgalbhjfmafaa
open Go.ChangeShapes Go.WideShapes Go.ChangeAt Go.RowKit
set_option linter.unusedVariables false
def heavyI (xs : List Img) : Bool := decide (40 < xs.length) || xs.any fun x => decide (200 < x.bytes.length)
theorem ret_bool {a b : Bool} (h : a = b) : Ending.returned (Value.bool a) = Ending.returned (Value.bool b) := by rw [h]
theorem heavyI_yes {xs : List Img} {j : Nat} {x : Img} (hj : xs[j]? = some x) (h : 200 < x.bytes.length) : heavyI xs = true := by
  unfold heavyI
  rw [Bool.or_eq_true, List.any_eq_true]
  exact .inr ⟨x, List.mem_of_getElem? hj, by simpa using h⟩
theorem heavyI_no {xs : List Img} (hn : xs.length ≤ 40) (h : ∀ (j : Nat) (x : Img), xs[j]? = some x → x.bytes.length ≤ 200) : heavyI xs = false := by
  unfold heavyI
  rw [Bool.or_eq_false_iff, decide_eq_false_iff_not, List.any_eq_false]
  refine ⟨by omega, fun x hx => ?_⟩
  obtain ⟨j, hj⟩ := List.getElem?_of_mem hx
  have := h j x hj
  simp
  omega
theorem imgE.at_ {p : Nat → Prop} {W : World} {A : Option Addr} {n : Nat} {xs : List Img} (h : Slc 3 imgE p W A n xs) {j : Nat} {x : Img} (hj : xs[j]? = some x) :
    ∃ b o A' n' c', A = some ⟨b, o, none⟩ ∧ p b ∧ W.cell? ⟨b, o + j * 3, none⟩ = some (.int .i64 x.zone) ∧ W.cell? ⟨b, o + j * 3 + 1, none⟩ = some (.int .i64 x.what) ∧ W.cell? ⟨b, o + j * 3 + 2, none⟩ = some (.slice A' n' c') ∧ n' ≤ c' ∧ c' ≤ maxLen ∧ Slc 1 (intE .u8) p W A' n' x.bytes := by
  obtain ⟨b, o, e, hp, h0, h1, v, h2, A', n', c', rfl, h3, h4, h5⟩ := h.at_ hj
  exact ⟨b, o, A', n', c', e, hp, by simpa using h0, by simpa [Nat.add_assoc] using h1, by simpa [Nat.add_assoc] using h2, h3, h4, h5⟩
set_option maxHeartbeats 400000 in
theorem heavyI_any (A : Option Addr) (n c : Nat) (xs : List Img) (p : Nat → Prop) (w : World) (h : Slc 3 imgE p w A n xs) (hn : n ≤ maxLen) :
    Calls Try.prog 25 #[.slice A n c] w fun e w' => e = .returned (.bool (heavyI xs)) ∧ w = w' := by
  unfold maxLen at hn
  have hl := h.1
  by_cases h40 : 40 < n
  · have hr : heavyI xs = true := by unfold heavyI; rw [decide_eq_true (by omega)]; rfl
    have HR := Lib.hid hr
    clear hr hl
    go_enter Try.func25, Try.ntmps25
    go_wp2_with fail
    go_ret
    exact ⟨ret_bool HR.out.symm, rfl⟩
  · have HL := Lib.hid hl
    clear hl
    go_enter Try.func25, Try.ntmps25
    go_wp2_with fail
    go_loop [3] (fun i => ∃ k : Nat, k ≤ n ∧ i = .int .i64 k ∧ Hid (∀ (j : Nat) (x : Img), j < k → xs[j]? = some x → x.bytes.length ≤ 200)) (fun i => n - (intOf i).toNat)
    case atStart => exact ⟨0, by omega, rfl, fun j x hj => absurd hj (by omega)⟩
    case round =>
      obtain ⟨k, hk, rfl, hH⟩ := hrel
      by_cases hlt : k < n
      · obtain ⟨x, hx⟩ : ∃ x, xs[k]? = some x := ⟨_, List.getElem?_eq_getElem (by rw [HL.out]; exact hlt)⟩
        obtain ⟨b, o, A', n', c', rfl, hp, h0, h1, h2, h3, h4, h5⟩ := imgE.at_ h hx
        have hm := h5.1
        have HM := Lib.hid hm
        have HX := Lib.hid hx
        clear hx hm h
        by_cases hb : 200 < n'
        · have HR := Lib.hid (heavyI_yes HX.out (by rw [HM.out]; exact hb))
          go_wp2_with fail
          go_ret
          exact ⟨ret_bool HR.out.symm, rfl⟩
        · have HN : Hid (∀ (j : Nat) (x : Img), j < k + 1 → xs[j]? = some x → x.bytes.length ≤ 200) := fun j y hj hy => by
            rcases Nat.lt_or_ge j k with h6 | h6
            · exact hH j y h6 hy
            · obtain rfl : j = k := by omega
              have := HX.out.symm.trans hy
              injection this with this
              subst this
              rw [HM.out]; omega
          clear hH
          go_wp2_with fail
          go_round
          case rel => exact ⟨k + 1, by omega, by go_num, HN⟩
          case measure => simp [intOf]; omega
      · obtain rfl : k = n := by omega
        have HR : Hid (heavyI xs = false) := heavyI_no (by rw [HL.out]; omega) (fun j x hj => hH j x (by rw [← HL.out]; exact (List.getElem?_eq_some_iff.1 hj).1) hj)
        clear hH h
        go_wp2_with fail
        go_ret
        exact ⟨ret_bool HR.out.symm, rfl⟩

/-- answers a bool, and leaves all that was there -/
def Says (b : Bool) (W : World) (e : Ending) (w' : World) : Prop := e = .returned (.bool b) ∧ Below W.heap.size W w'
theorem Below.drewN_ {B : Nat} {a w : World} (h : Below B a w) (n : Nat) : Below B a (w.drewN n) := h.trans ⟨rfl, rfl, rfl, Nat.le_refl _, fun _ _ => rfl⟩
theorem ints_at {q : IntKind} {p : Nat → Prop} {W : World} {A : Option Addr} {n : Nat} {xs : List Int} (h : Slc 1 (intE q) p W A n xs) {j : Nat} {x : Int} (hj : xs[j]? = some x) :
    ∃ b o, A = some ⟨b, o, none⟩ ∧ W.cell? ⟨b, o + j, none⟩ = some (.int q x) := by
  obtain ⟨b, o, e, hp, h0⟩ := h.at_ hj
  have h1 : W.cell? ⟨b, o + (j * 1 + 0), none⟩ = some (.int q x) := h0
  exact ⟨b, o, e, by simpa using h1⟩
theorem take_eq_next {α : Type} {l m : List α} {k : Nat} {x : α} (hl : l[k]? = some x) (hm : m[k]? = some x) (h : l.take k = m.take k) : l.take (k + 1) = m.take (k + 1) := by
  rw [List.take_add_one, List.take_add_one, h, hl, hm]
theorem txnE.at_ {p : Nat → Prop} {W : World} {A : Option Addr} {n : Nat} {xs : List Txn} (h : Slc 4 txnE p W A n xs) {j : Nat} {x : Txn} (hj : xs[j]? = some x) :
    ∃ b o A' n' c', A = some ⟨b, o, none⟩ ∧ p b ∧ W.cell? ⟨b, o + j * 4, none⟩ = some (.int .i64 x.seq) ∧ W.cell? ⟨b, o + j * 4 + 1, none⟩ = some (.int .i64 x.pos) ∧ W.cell? ⟨b, o + j * 4 + 2, none⟩ = some (.int .i64 x.n) ∧
      W.cell? ⟨b, o + j * 4 + 3, none⟩ = some (.slice A' n' c') ∧ n' ≤ c' ∧ c' ≤ maxLen ∧ Slc 3 imgE p W A' n' x.images := by
  obtain ⟨b, o, e, hp, h0, h1, h2, v, h3, A', n', c', rfl, h4, h5, h6⟩ := h.at_ hj
  exact ⟨b, o, A', n', c', e, hp, by simpa using h0, by simpa [Nat.add_assoc] using h1, by simpa [Nat.add_assoc] using h2, by simpa [Nat.add_assoc] using h3, h4, h5, h6⟩
set_option maxHeartbeats 1000000 in
theorem bytes_any (A B : Option Addr) (n c m c' : Nat) (xs ys : List Int) (p p' : Nat → Prop) (w : World) (hl : Slc 1 (intE .u8) p w A n xs) (hm : Slc 1 (intE .u8) p' w B m ys) (hn : n ≤ maxLen) :
    Calls Try.prog 13 #[.slice A n c, .slice B m c'] w (Says (decide (xs = ys)) w) := by
  unfold maxLen at hn
  have l1 := hl.1
  have l2 := hm.1
  by_cases hnm : n = m
  · subst hnm
    have t0 : ((n : Int) != (n : Int)) = false := by simp
    have HL := Lib.hid l1
    have HM := Lib.hid l2
    clear l1 l2
    go_enter Try.func13, Try.ntmps13
    go_wp2_with fail
    go_loopw [5] (fun i wr => ∃ k : Nat, k ≤ n ∧ i = .int .i64 k ∧ Hid (xs.take k = ys.take k) ∧ Below w.heap.size w wr) (fun i _ => n - (intOf i).toNat)
    case atStart => exact ⟨0, by omega, rfl, rfl, Below.refl _ _⟩
    case round =>
      obtain ⟨k, hk, rfl, htk, hb⟩ := hrel
      by_cases h8 : k < n
      · obtain ⟨x, hx⟩ : ∃ x, xs[k]? = some x := ⟨_, List.getElem?_eq_getElem (by rw [HL.out]; exact h8)⟩
        obtain ⟨y, hy⟩ : ∃ y, ys[k]? = some y := ⟨_, List.getElem?_eq_getElem (by rw [HM.out]; exact h8)⟩
        obtain ⟨b1, o1, rfl, c1⟩ := ints_at (hl.below (intE.good _) (by decide) hb) hx
        obtain ⟨b2, o2, rfl, c2⟩ := ints_at (hm.below (intE.good _) (by decide) hb) hy
        have i0 : (0 : Int) ≤ (k : Int) := by omega
        have i1 : (k : Int) < (n : Int) := by omega
        have HX := Lib.hid hx
        have HY := Lib.hid hy
        clear hx hy
        by_cases he : x = y
        · subst he
          have hnx := Lib.hid (take_eq_next HX.out HY.out htk.out)
          have tt : (x != x) = false := by simp
          clear hl hm htk
          go_wp2_with fail
          go_quiet (fail)
          go_wp2_with fail
          go_roundw
          case rel => exact ⟨k + 1, by omega, by go_num, hnx, Below.drewN_ hb _⟩
          case measure => simp [intOf]; omega
        · have hne : Hid (xs ≠ ys) := fun e => he (by have h2 := HY.out; rw [← e, HX.out] at h2; injection h2)
          have tt : (x != y) = true := by rw [bne_iff_ne]; exact he
          clear hl hm htk
          go_wp2_with fail
          go_quiet (fail)
          go_wp2_with fail
          go_ret
          exact ⟨ret_bool (decide_eq_false hne.out).symm, Below.drewN_ hb _⟩
      · obtain rfl : k = n := by omega
        have hfin : Hid (xs = ys) := by
          have := htk.out
          rwa [List.take_of_length_le (by rw [HL.out]; exact Nat.le_refl _), List.take_of_length_le (by rw [HM.out]; exact Nat.le_refl _)] at this
        clear hl hm htk
        go_wp2_with fail
        go_ret
        exact ⟨ret_bool (decide_eq_true hfin.out).symm, hb⟩
  · have t0 : ((n : Int) != (m : Int)) = true := by rw [bne_iff_ne]; omega
    have hne : xs ≠ ys := fun e => hnm (by rw [← l1, ← l2, e])
    clear l1 l2
    have HN := Lib.hid hne
    clear hne
    go_enter Try.func13, Try.ntmps13
    go_wp2_with fail
    go_ret
    exact ⟨ret_bool (decide_eq_false HN.out).symm, Below.refl _ _⟩
set_option maxHeartbeats 1000000 in
theorem ints_any (A B : Option Addr) (n c m c' : Nat) (xs ys : List Int) (p p' : Nat → Prop) (w : World) (hl : Slc 1 (intE .i64) p w A n xs) (hm : Slc 1 (intE .i64) p' w B m ys) (hn : n ≤ maxLen) :
    Calls Try.prog 14 #[.slice A n c, .slice B m c'] w (Says (decide (xs = ys)) w) := by
  unfold maxLen at hn
  have l1 := hl.1
  have l2 := hm.1
  by_cases hnm : n = m
  · subst hnm
    have t0 : ((n : Int) != (n : Int)) = false := by simp
    have HL := Lib.hid l1
    have HM := Lib.hid l2
    clear l1 l2
    go_enter Try.func14, Try.ntmps14
    go_wp2_with fail
    go_loopw [5] (fun i wr => ∃ k : Nat, k ≤ n ∧ i = .int .i64 k ∧ Hid (xs.take k = ys.take k) ∧ Below w.heap.size w wr) (fun i _ => n - (intOf i).toNat)
    case atStart => exact ⟨0, by omega, rfl, rfl, Below.refl _ _⟩
    case round =>
      obtain ⟨k, hk, rfl, htk, hb⟩ := hrel
      by_cases h8 : k < n
      · obtain ⟨x, hx⟩ : ∃ x, xs[k]? = some x := ⟨_, List.getElem?_eq_getElem (by rw [HL.out]; exact h8)⟩
        obtain ⟨y, hy⟩ : ∃ y, ys[k]? = some y := ⟨_, List.getElem?_eq_getElem (by rw [HM.out]; exact h8)⟩
        obtain ⟨b1, o1, rfl, c1⟩ := ints_at (hl.below (intE.good _) (by decide) hb) hx
        obtain ⟨b2, o2, rfl, c2⟩ := ints_at (hm.below (intE.good _) (by decide) hb) hy
        have i0 : (0 : Int) ≤ (k : Int) := by omega
        have i1 : (k : Int) < (n : Int) := by omega
        have HX := Lib.hid hx
        have HY := Lib.hid hy
        clear hx hy
        by_cases he : x = y
        · subst he
          have hnx := Lib.hid (take_eq_next HX.out HY.out htk.out)
          have tt : (x != x) = false := by simp
          clear hl hm htk
          go_wp2_with fail
          go_quiet (fail)
          go_wp2_with fail
          go_roundw
          case rel => exact ⟨k + 1, by omega, by go_num, hnx, Below.drewN_ hb _⟩
          case measure => simp [intOf]; omega
        · have hne : Hid (xs ≠ ys) := fun e => he (by have h2 := HY.out; rw [← e, HX.out] at h2; injection h2)
          have tt : (x != y) = true := by rw [bne_iff_ne]; exact he
          clear hl hm htk
          go_wp2_with fail
          go_quiet (fail)
          go_wp2_with fail
          go_ret
          exact ⟨ret_bool (decide_eq_false hne.out).symm, Below.drewN_ hb _⟩
      · obtain rfl : k = n := by omega
        have hfin : Hid (xs = ys) := by
          have := htk.out
          rwa [List.take_of_length_le (by rw [HL.out]; exact Nat.le_refl _), List.take_of_length_le (by rw [HM.out]; exact Nat.le_refl _)] at this
        clear hl hm htk
        go_wp2_with fail
        go_ret
        exact ⟨ret_bool (decide_eq_true hfin.out).symm, hb⟩
  · have t0 : ((n : Int) != (m : Int)) = true := by rw [bne_iff_ne]; omega
    have hne : xs ≠ ys := fun e => hnm (by rw [← l1, ← l2, e])
    clear l1 l2
    have HN := Lib.hid hne
    clear hne
    go_enter Try.func14, Try.ntmps14
    go_wp2_with fail
    go_ret
    exact ⟨ret_bool (decide_eq_false HN.out).symm, Below.refl _ _⟩

/-! ### Heavy -/
def heavyT (xs : List Txn) : Bool := decide (40 < xs.length) || xs.any fun x => heavyI x.images
theorem heavyT_yes {xs : List Txn} {j : Nat} {x : Txn} (hj : xs[j]? = some x) (h : heavyI x.images = true) : heavyT xs = true := by
  unfold heavyT
  rw [Bool.or_eq_true, List.any_eq_true]
  exact .inr ⟨x, List.mem_of_getElem? hj, h⟩
theorem heavyT_no {xs : List Txn} (hn : xs.length ≤ 40) (h : ∀ (j : Nat) (x : Txn), xs[j]? = some x → heavyI x.images = false) : heavyT xs = false := by
  unfold heavyT
  rw [Bool.or_eq_false_iff, decide_eq_false_iff_not, List.any_eq_false]
  refine ⟨by omega, fun x hx => ?_⟩
  obtain ⟨j, hj⟩ := List.getElem?_of_mem hx
  simp [h j x hj]
theorem heavyI_of {xs : List Img} (h : heavyI xs = false) : xs.length ≤ 40 ∧ ∀ x ∈ xs, x.bytes.length ≤ 200 := by
  unfold heavyI at h
  rw [Bool.or_eq_false_iff, decide_eq_false_iff_not, List.any_eq_false] at h
  exact ⟨by omega, fun x hx => by have := h.2 x hx; simp at this; omega⟩
theorem heavyT_of {xs : List Txn} (h : heavyT xs = false) : xs.length ≤ 40 ∧ ∀ x ∈ xs, heavyI x.images = false := by
  unfold heavyT at h
  rw [Bool.or_eq_false_iff, decide_eq_false_iff_not, List.any_eq_false] at h
  exact ⟨by omega, fun x hx => by have := h.2 x hx; simpa using this⟩
theorem heavyI_is {A : Option Addr} {n c : Nat} {xs : List Img} {p : Nat → Prop} {w : World} (h : Slc 3 imgE p w A n xs) (hn : n ≤ maxLen) {b : Bool} (hb : heavyI xs = b) :
    Calls Try.prog 25 #[.slice A n c] w fun e w' => e = .returned (.bool b) ∧ w = w' := by
  subst hb
  exact heavyI_any A n c xs p w h hn
set_option maxHeartbeats 400000 in
theorem heavyT_any (A : Option Addr) (n c : Nat) (xs : List Txn) (p : Nat → Prop) (w : World) (h : Slc 4 txnE p w A n xs) (hn : n ≤ maxLen) :
    Calls Try.prog 6 #[.slice A n c] w fun e w' => e = .returned (.bool (heavyT xs)) ∧ w = w' := by
  unfold maxLen at hn
  have hl := h.1
  by_cases h40 : 40 < n
  · have hr : heavyT xs = true := by unfold heavyT; rw [decide_eq_true (by omega)]; rfl
    have HR := Lib.hid hr
    clear hr hl
    go_enter Try.func6, Try.ntmps6
    go_wp2_with fail
    go_ret
    exact ⟨ret_bool HR.out.symm, rfl⟩
  · have HL := Lib.hid hl
    clear hl
    go_enter Try.func6, Try.ntmps6
    go_wp2_with fail
    go_loop [3] (fun i => ∃ k : Nat, k ≤ n ∧ i = .int .i64 k ∧ Hid (∀ (j : Nat) (x : Txn), j < k → xs[j]? = some x → heavyI x.images = false)) (fun i => n - (intOf i).toNat)
    case atStart => exact ⟨0, by omega, rfl, fun j x hj => absurd hj (by omega)⟩
    case round =>
      obtain ⟨k, hk, rfl, hH⟩ := hrel
      by_cases hlt : k < n
      · obtain ⟨x, hx⟩ : ∃ x, xs[k]? = some x := ⟨_, List.getElem?_eq_getElem (by rw [HL.out]; exact hlt)⟩
        obtain ⟨b, o, A', n', c', rfl, hp, h0, h1, h2, h3, h4, h5, h6⟩ := txnE.at_ h hx
        have h7 : n' ≤ maxLen := Nat.le_trans h4 h5
        have HX := Lib.hid hx
        have H6 := Lib.hid h6
        clear hx h h6
        cases hv : heavyI x.images with
        | true =>
          have HR := Lib.hid (heavyT_yes HX.out hv)
          have HV := Lib.hid hv
          clear hv
          go_wp2_with (go_at_call 25; refine (heavyI_is H6.out h7 HV.out).mono ?_; rintro e w' ⟨rfl, rfl⟩)
          go_ret
          exact ⟨ret_bool HR.out.symm, rfl⟩
        | false =>
          have HN : Hid (∀ (j : Nat) (x : Txn), j < k + 1 → xs[j]? = some x → heavyI x.images = false) := fun j y hj hy => by
            rcases Nat.lt_or_ge j k with h6 | h6
            · exact hH j y h6 hy
            · obtain rfl : j = k := by omega
              have := HX.out.symm.trans hy
              injection this with this
              subst this
              exact hv
          have HV := Lib.hid hv
          clear hH hv
          go_wp2_with (go_at_call 25; refine (heavyI_is H6.out h7 HV.out).mono ?_; rintro e w' ⟨rfl, rfl⟩)
          go_round
          case rel => exact ⟨k + 1, by omega, by go_num, HN⟩
          case measure => simp [intOf]; omega
      · obtain rfl : k = n := by omega
        have HR : Hid (heavyT xs = false) := heavyT_no (by rw [HL.out]; omega) (fun j x hj => hH j x (by rw [← HL.out]; exact (List.getElem?_eq_some_iff.1 hj).1) hj)
        clear hH h
        go_wp2_with fail
        go_ret
        exact ⟨ret_bool HR.out.symm, rfl⟩
/-! ### has -/
set_option maxHeartbeats 400000 in
theorem has_any (A : Option Addr) (n c : Nat) (xs : List Int) (y : Int) (p : Nat → Prop) (w : World) (h : Slc 1 (intE .i64) p w A n xs) (hn : n ≤ maxLen) :
    Calls Try.prog 21 #[.slice A n c, .int .i64 y] w fun e w' => e = .returned (.bool (decide (y ∈ xs))) ∧ w = w' := by
  unfold maxLen at hn
  have HL := Lib.hid h.1
  go_enter Try.func21, Try.ntmps21
  go_wp2_with fail
  go_loop [5] (fun i => ∃ k : Nat, k ≤ n ∧ i = .int .i64 k ∧ Hid (y ∉ xs.take k)) (fun i => n - (intOf i).toNat)
  case atStart => exact ⟨0, by omega, rfl, by simp [Hid]⟩
  case round =>
    obtain ⟨k, hk, rfl, hH⟩ := hrel
    by_cases hlt : k < n
    · obtain ⟨x, hx⟩ : ∃ x, xs[k]? = some x := ⟨_, List.getElem?_eq_getElem (by rw [HL.out]; exact hlt)⟩
      obtain ⟨b, o, rfl, h0⟩ := ints_at h hx
      have HX := Lib.hid hx
      clear hx h
      by_cases he : x = y
      · subst he
        have HR : Hid (x ∈ xs) := List.mem_of_getElem? HX.out
        go_wp2_with fail
        go_ret
        exact ⟨ret_bool (decide_eq_true HR.out).symm, rfl⟩
      · have tt : (x == y) = false := beq_eq_false_iff_ne.2 he
        have HN : Hid (y ∉ xs.take (k + 1)) := by
          show ¬ _
          rw [List.take_add_one, HX.out, List.mem_append]
          rintro (h1 | h1)
          · exact hH.out h1
          · simp at h1; exact he h1.symm
        clear hH
        go_wp2_with fail
        go_round
        case rel => exact ⟨k + 1, by omega, by go_num, HN⟩
        case measure => simp [intOf]; omega
    · obtain rfl : k = n := by omega
      have HR : Hid (y ∉ xs) := by
        have := hH.out
        rwa [List.take_of_length_le (by rw [HL.out]; exact Nat.le_refl _)] at this
      clear hH h
      go_wp2_with fail
      go_ret
      exact ⟨ret_bool (decide_eq_false HR.out).symm, rfl⟩
end Go.Proofs.Ytedgalbhjfmafaa

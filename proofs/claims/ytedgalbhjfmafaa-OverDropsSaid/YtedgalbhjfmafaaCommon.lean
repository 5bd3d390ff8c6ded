/-
  What the laws share.
-/
import Derived.Test.YtedgalbhjfmafaaWakes
import Derived.Test.YtedgalbhjfmafaaSets
import Derived.Deep.CutRange
namespace Go.Proofs.Ytedgalbhjfmafaa
open Go.ChangeShapes Go.WideShapes Go.ChangeAt Go.RowKit
set_option linter.unusedVariables false
abbrev Any : Nat → Prop := fun _ => True
/-- the last image: is there one, its transaction's number, its bytes -/
def lastR (z q : Int) (xs : List Txn) : Bool × Int × List Int := match lastT z q xs with
  | some (t, x) => (true, t.seq, x.bytes)
  | none => (false, 0, [])
theorem lastR_append (z q : Int) (k l : List Txn) : lastR z q (k ++ l) = if (lastR z q l).1 = true then lastR z q l else lastR z q k := by
  unfold lastR
  rw [lastT_append]
  cases lastT z q l <;> rfl
/-- what Find leaves -/
def FoundR (B : Nat) (ok : Bool) (s : Int) (bs : List Int) (W : World) (e : Ending) (w' : World) : Prop :=
  ∃ A n c, e = .returned (.tuple #[.slice A n c, .int .i64 s, .bool ok]) ∧ n ≤ c ∧ c ≤ maxLen ∧ Slc 1 (intE .u8) (Fr B w') w' A n bs ∧ Below W.heap.size W w'
theorem Find_is {A : Option Addr} {n c : Nat} {xs : List Txn} {z q : Int} {p : Nat → Prop} {w : World} {ok : Bool} {s : Int} {bs : List Int} (h : Slc 4 txnE p w A n xs) (hn : n ≤ 1000) (hx : ∀ x ∈ xs, x.images.length ≤ 1000 ∧ ∀ y ∈ x.images, y.bytes.length ≤ 1000) (hr : lastR z q xs = (ok, s, bs)) :
    Calls Try.prog 9 #[.slice A n c, .int .i64 z, .int .i64 q] w (FoundR w.heap.size ok s bs w) := by
  refine (Find_any A n c xs z q p w h (by omega) (fun x hm => by have := hx x hm; exact ⟨by omega, fun y hy => by have := this.2 y hy; omega⟩)).mono ?_
  rintro e w' ⟨hf, hb⟩
  rcases hf with ⟨t, x, v, hl, rfl, A', n', c', rfl, h1, h2, h3⟩ | ⟨hl, rfl⟩
  · rw [lastR, hl] at hr
    injection hr with e1 e2
    injection e2 with e2 e3
    subst e1 e2 e3
    exact ⟨A', n', c', rfl, h1, h2, h3, hb⟩
  · rw [lastR, hl] at hr
    injection hr with e1 e2
    injection e2 with e2 e3
    subst e1 e2 e3
    exact ⟨none, 0, 0, rfl, Nat.le_refl _, by unfold maxLen; omega, Slc.nil_, hb⟩
theorem bytes_same {A B : Option Addr} {n c m c' : Nat} {xs : List Int} {p p' : Nat → Prop} {w : World} (hl : Slc 1 (intE .u8) p w A n xs) (hm : Slc 1 (intE .u8) p' w B m xs) (hn : n ≤ maxLen) :
    Calls Try.prog 13 #[.slice A n c, .slice B m c'] w (Says true w) := by
  refine (bytes_any A B n c m c' xs xs p p' w hl hm hn).mono ?_
  rintro e w' ⟨rfl, hb⟩
  exact ⟨ret_bool (decide_eq_true rfl), hb⟩
theorem Rw.append_ {α : Type} {k : Nat} {E : Elt α} (hE : Good k E) {p : Nat → Prop} {W : World} {c1 c2 : List Value} {xs ys : List α} (h : Rw k E p W c1 xs) (h' : Rw k E p W c2 ys) : Rw k E p W (c1 ++ c2) (xs ++ ys) := by
  refine ⟨by rw [List.length_append, List.length_append, h.1, h'.1, Nat.add_mul], fun j x hj => ?_⟩
  rcases Nat.lt_or_ge j xs.length with hlt | hge
  · rw [List.getElem?_append_left hlt] at hj
    refine hE.here (fun i hi => ?_) (h.2 j x hj)
    have : j * k + i < c1.length := by
      rw [h.1]
      have := Nat.mul_le_mul_right k (show j + 1 ≤ xs.length from hlt)
      rw [Nat.add_mul, Nat.one_mul] at this
      omega
    rw [List.getElem?_append_left this]
  · rw [List.getElem?_append_right hge] at hj
    refine hE.here (fun i hi => ?_) (h'.2 (j - xs.length) x hj)
    have h1 := Nat.mul_le_mul_right k hge
    rw [List.getElem?_append_right (by rw [h.1]; omega), h.1, Nat.sub_mul]
    congr 1
    omega
theorem small_of {xs : List Txn} (h : heavyT xs = false) : xs.length ≤ 40 ∧ ∀ x ∈ xs, x.images.length ≤ 1000 ∧ ∀ y ∈ x.images, y.bytes.length ≤ 1000 := by
  obtain ⟨h1, h2⟩ := heavyT_of h
  refine ⟨h1, fun x hx => ?_⟩
  obtain ⟨h3, h4⟩ := heavyI_of (h2 x hx)
  exact ⟨by omega, fun y hy => by have := h4 y hy; omega⟩
theorem heavyT_is {A : Option Addr} {n c : Nat} {xs : List Txn} {p : Nat → Prop} {w : World} (h : Slc 4 txnE p w A n xs) (hn : n ≤ maxLen) {b : Bool} (hb : heavyT xs = b) :
    Calls Try.prog 6 #[.slice A n c] w fun e w' => e = .returned (.bool b) ∧ w = w' := by
  subst hb
  exact heavyT_any A n c xs p w h hn
theorem has_yes {A : Option Addr} {n c : Nat} {xs : List Int} {y : Int} {p : Nat → Prop} {w : World} (h : Slc 1 (intE .i64) p w A n xs) (hn : n ≤ maxLen) (hy : y ∈ xs) :
    Calls Try.prog 21 #[.slice A n c, .int .i64 y] w fun e w' => e = .returned (.bool true) ∧ w = w' := by
  have := has_any A n c xs y p w h hn
  rwa [decide_eq_true hy] at this
theorem has_no {A : Option Addr} {n c : Nat} {xs : List Int} {y : Int} {p : Nat → Prop} {w : World} (h : Slc 1 (intE .i64) p w A n xs) (hn : n ≤ maxLen) (hy : y ∉ xs) :
    Calls Try.prog 21 #[.slice A n c, .int .i64 y] w fun e w' => e = .returned (.bool false) ∧ w = w' := by
  have := has_any A n c xs y p w h hn
  rwa [decide_eq_false hy] at this
/-- what Zones leaves, its length a letter -/
theorem Zones_is {A : Option Addr} {n c : Nat} {xs : List Txn} {p : Nat → Prop} {w : World} {zs : List Int} {m : Nat} (h : Slc 4 txnE p w A n xs) (hn : n ≤ 1000) (hx : ∀ x ∈ xs, x.images.length ≤ 1000) (hz : zonesOf xs = zs) (hm : zs.length = m) :
    Calls Try.prog 15 #[.slice A n c] w fun e w' => ∃ A' c', e = .returned (.slice A' m c') ∧ m ≤ c' ∧ c' ≤ maxLen ∧ Slc 1 (intE .i64) Any w' A' m zs ∧ Below w.heap.size w w' := by
  subst hz hm
  refine (Zones_any A n c xs p w h hn hx).mono ?_
  rintro e w' ⟨v, rfl, ho, hb⟩
  obtain ⟨A', n', c', rfl, h1, h2, h3⟩ := ho.ints
  have h4 := h3.1
  subst h4
  exact ⟨A', c', rfl, h1, h2, h3.mono (intE.good _) (fun _ _ => trivial), hb⟩
end Go.Proofs.Ytedgalbhjfmafaa

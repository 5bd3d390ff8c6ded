/-
  What slices hold, however deep: words for memory. No program is in sight.
-/
import Derived.Below
import Derived.Laws.OwnMore
import Derived.Laws.Rows
import Derived.Deep.Draws
import Derived.Lib.Hide
namespace Go.Proofs.Ytedgalbhjfmafaa
open Go.RowKit
set_option linter.unusedVariables false

/-- what lies in the blocks p reads on as it read -/
def Agree (p : Nat → Prop) (W W' : World) : Prop := ∀ b, p b → ∀ o v, W.cell? ⟨b, o, none⟩ = some v → W'.cell? ⟨b, o, none⟩ = some v
theorem Agree.refl (p : Nat → Prop) (W : World) : Agree p W W := fun _ _ _ _ h => h
theorem Agree.trans {p : Nat → Prop} {A B C : World} (h : Agree p A B) (k : Agree p B C) : Agree p A C := fun b hb o v hv => k b hb o v (h b hb o v hv)
theorem Agree.of_below {p : Nat → Prop} {W W' : World} (h : Below W.heap.size W W') : Agree p W W' := fun b _ o v hv => by
  have hlt := World.block_lt_of_cell? _ _ hv
  exact (h.cell (p := ⟨b, o, none⟩) hlt).trans hv
theorem Agree.of_lt {B : Nat} {p : Nat → Prop} {W W' : World} (h : Below B W W') (hp : ∀ b, p b → b < B) : Agree p W W' := fun b hb o v hv => (h.cell (p := ⟨b, o, none⟩) (hp b hb)).trans hv
theorem Agree.grown {p : Nat → Prop} {W W' : World} {row : Option Nat} (hg : W.grownBy W' row) (hp : ∀ b, p b → row ≠ some b) : Agree p W W' := fun b hb o v hv => by
  have hlt := World.block_lt_of_cell? _ _ hv
  exact (World.cell?_of_block (a := ⟨b, o, none⟩) (hg.block b hlt (fun e => hp b hb e.symm))).trans hv
theorem Agree.setCell {p : Nat → Prop} {W : World} {q : Addr} (hp : ∀ b, p b → b ≠ q.block) (u : Value) : Agree p W (W.setCell q u) := fun b hb o v hv =>
  (World.cell?_setCell_other W q ⟨b, o, none⟩ u (fun e => hp b hb (by rw [e]))).trans hv

/-- how the cells of one element, f 0, f 1 .., read as a datum; what hangs below lies in the blocks p -/
abbrev Elt (α : Type) := (Nat → Prop) → World → (Nat → Option Value) → α → Prop
structure Good {α : Type} (k : Nat) (E : Elt α) : Prop where
  keep : ∀ {p W W' f x}, Agree p W W' → E p W f x → E p W' f x
  here : ∀ {p W f g x}, (∀ i, i < k → f i = g i) → E p W f x → E p W g x
  mono : ∀ {p q W f x}, (∀ b, p b → q b) → E p W f x → E q W f x
  lt : ∀ {p W f x}, E p W f x → E (fun b => p b ∧ b < W.heap.size) W f x

/-- the slice value '.slice A n _' holds the elements xs, k cells each -/
def Slc {α : Type} (k : Nat) (E : Elt α) (p : Nat → Prop) (W : World) (A : Option Addr) (n : Nat) (xs : List α) : Prop :=
  xs.length = n ∧ (0 < n → ∃ b o, A = some ⟨b, o, none⟩ ∧ p b ∧ (∀ i, i < n * k → W.cell? ⟨b, o + i, none⟩ ≠ none) ∧ ∀ j x, xs[j]? = some x → E p W (fun i => W.cell? ⟨b, o + (j * k + i), none⟩) x)
def SlcV {α : Type} (k : Nat) (E : Elt α) (p : Nat → Prop) (W : World) (v : Value) (xs : List α) : Prop :=
  ∃ A n c, v = .slice A n c ∧ n ≤ c ∧ c ≤ maxLen ∧ Slc k E p W A n xs

section
variable {α : Type} {k : Nat} {E : Elt α} {p q : Nat → Prop} {W W' : World} {A : Option Addr} {n : Nat} {v : Value} {xs : List α}
theorem Slc.keep (hE : Good k E) (hk : 0 < k) (ha : Agree p W W') (h : Slc k E p W A n xs) : Slc k E p W' A n xs := by
  refine ⟨h.1, fun hn => ?_⟩
  obtain ⟨b, o, e, hp, hc, hx⟩ := h.2 hn
  have same : ∀ i, i < n * k → W'.cell? ⟨b, o + i, none⟩ = W.cell? ⟨b, o + i, none⟩ := fun i hi => by
    cases hv : W.cell? ⟨b, o + i, none⟩ with
    | none => exact absurd hv (hc i hi)
    | some v => exact ha b hp _ v hv
  refine ⟨b, o, e, hp, fun i hi => by rw [same i hi]; exact hc i hi, fun j x hj => ?_⟩
  have hjn : j < n := by rw [← h.1]; exact (List.getElem?_eq_some_iff.1 hj).1
  refine hE.here (fun i hi => ?_) (hE.keep ha (hx j x hj))
  have : j * k + i < n * k := by
    have := Nat.mul_le_mul_right k (show j + 1 ≤ n from hjn)
    rw [Nat.add_mul, Nat.one_mul] at this
    omega
  exact (same _ this).symm
theorem Slc.mono (hE : Good k E) (hpq : ∀ b, p b → q b) (h : Slc k E p W A n xs) : Slc k E q W A n xs := by
  refine ⟨h.1, fun hn => ?_⟩
  obtain ⟨b, o, e, hp, hc, hx⟩ := h.2 hn
  exact ⟨b, o, e, hpq b hp, hc, fun j x hj => hE.mono hpq (hx j x hj)⟩
theorem Slc.lt (hE : Good k E) (hk : 0 < k) (h : Slc k E p W A n xs) : Slc k E (fun b => p b ∧ b < W.heap.size) W A n xs := by
  refine ⟨h.1, fun hn => ?_⟩
  obtain ⟨b, o, e, hp, hc, hx⟩ := h.2 hn
  have hlt : b < W.heap.size := by
    have h0 := hc 0 (Nat.mul_pos hn hk)
    cases hv : W.cell? ⟨b, o + 0, none⟩ with
    | none => exact absurd hv h0
    | some v => exact World.block_lt_of_cell? _ _ hv
  exact ⟨b, o, e, ⟨hp, hlt⟩, hc, fun j x hj => hE.lt (hx j x hj)⟩
theorem SlcV.keep (hE : Good k E) (hk : 0 < k) (ha : Agree p W W') (h : SlcV k E p W v xs) : SlcV k E p W' v xs := by
  obtain ⟨A, n, c, e, h1, h2, h3⟩ := h
  exact ⟨A, n, c, e, h1, h2, h3.keep hE hk ha⟩
theorem SlcV.mono (hE : Good k E) (hpq : ∀ b, p b → q b) (h : SlcV k E p W v xs) : SlcV k E q W v xs := by
  obtain ⟨A, n, c, e, h1, h2, h3⟩ := h
  exact ⟨A, n, c, e, h1, h2, h3.mono hE hpq⟩
theorem SlcV.lt (hE : Good k E) (hk : 0 < k) (h : SlcV k E p W v xs) : SlcV k E (fun b => p b ∧ b < W.heap.size) W v xs := by
  obtain ⟨A, n, c, e, h1, h2, h3⟩ := h
  exact ⟨A, n, c, e, h1, h2, h3.lt hE hk⟩
theorem Slc.below (hE : Good k E) (hk : 0 < k) (hb : Below W.heap.size W W') (h : Slc k E p W A n xs) : Slc k E p W' A n xs := h.keep hE hk (Agree.of_below hb)
theorem SlcV.below (hE : Good k E) (hk : 0 < k) (hb : Below W.heap.size W W') (h : SlcV k E p W v xs) : SlcV k E p W' v xs := h.keep hE hk (Agree.of_below hb)
theorem Slc.nil_ : Slc k E p W A 0 [] := ⟨rfl, fun h => absurd h (by decide)⟩
theorem SlcV.nil_ : SlcV k E p W (.slice none 0 0) [] := ⟨none, 0, 0, rfl, Nat.le_refl _, by unfold maxLen; omega, Slc.nil_⟩
theorem Slc.at_ (h : Slc k E p W A n xs) {j : Nat} {x : α} (hj : xs[j]? = some x) : ∃ b o, A = some ⟨b, o, none⟩ ∧ p b ∧ E p W (fun i => W.cell? ⟨b, o + (j * k + i), none⟩) x := by
  have hl := (List.getElem?_eq_some_iff.1 hj).1
  obtain ⟨b, o, e, hp, _, hx⟩ := h.2 (by have := h.1; omega)
  exact ⟨b, o, e, hp, hx j x hj⟩
end

/-- the elements xs in a row of values -/
def Rw {α : Type} (k : Nat) (E : Elt α) (p : Nat → Prop) (W : World) (cells : List Value) (xs : List α) : Prop :=
  cells.length = xs.length * k ∧ ∀ j x, xs[j]? = some x → E p W (fun i => cells[j * k + i]?) x
section
variable {α : Type} {k : Nat} {E : Elt α} {p q : Nat → Prop} {W W' : World} {cells : List Value} {xs : List α}
theorem Rw.nil_ : Rw k E p W [] [] := ⟨by simp, fun j x h => by simp at h⟩
theorem Rw.keep (hE : Good k E) (ha : Agree p W W') (h : Rw k E p W cells xs) : Rw k E p W' cells xs := ⟨h.1, fun j x hj => hE.keep ha (h.2 j x hj)⟩
theorem Rw.mono (hE : Good k E) (hpq : ∀ b, p b → q b) (h : Rw k E p W cells xs) : Rw k E q W cells xs := ⟨h.1, fun j x hj => hE.mono hpq (h.2 j x hj)⟩
theorem Rw.lt (hE : Good k E) (h : Rw k E p W cells xs) : Rw k E (fun b => p b ∧ b < W.heap.size) W cells xs := ⟨h.1, fun j x hj => hE.lt (h.2 j x hj)⟩
theorem Rw.snoc (hE : Good k E) (h : Rw k E p W cells xs) {new : List Value} {x : α} (hn : new.length = k) (hx : E p W (fun i => new[i]?) x) : Rw k E p W (cells ++ new) (xs ++ [x]) := by
  refine ⟨by simp [h.1, hn, Nat.add_mul], fun j y hj => ?_⟩
  rcases Nat.lt_or_ge j xs.length with hlt | hge
  · rw [List.getElem?_append_left hlt] at hj
    refine hE.here (fun i hi => ?_) (h.2 j y hj)
    have : j * k + i < cells.length := by
      rw [h.1]
      have := Nat.mul_le_mul_right k (show j + 1 ≤ xs.length from hlt)
      rw [Nat.add_mul, Nat.one_mul] at this
      omega
    rw [List.getElem?_append_left this]
  · rw [List.getElem?_append_right hge] at hj
    have hj0 : j = xs.length := by
      have := (List.getElem?_eq_some_iff.1 hj).1
      simp at this
      omega
    subst hj0
    simp at hj
    subst hj
    refine hE.here (fun i hi => ?_) hx
    rw [← h.1, List.getElem?_append_right (by omega)]
    congr 1
    omega
/-- what a call's own row holds, read as a slice -/
theorem SlcV.of_own (hE : Good k E) {base : Nat} {e : TypeId} {v : Value} {n : Nat} (h : W.ownsRow base e k v n cells) (hr : Rw k E p W cells xs) (hn : xs.length = n) (hp : ∀ g, v.ownBlock = some g → p g) : SlcV k E p W v xs := by
  rcases h.2 with ⟨rfl, h0⟩ | ⟨g, cap, cur, rfl, hg, hh, hnc, hcm, hsz, htk⟩
  · subst h0
    rw [List.eq_nil_of_length_eq_zero hn]
    exact SlcV.nil_
  · have hcell : ∀ i, i < n * k → W.cell? ⟨g, 0 + i, none⟩ = cells[i]? := fun i hi => by
      rw [Nat.zero_add, cell_of_row W g i cur e (0, 0) hh, ← htk, List.getElem?_take_of_lt hi, Array.getElem?_toList]
    refine ⟨_, n, cap, rfl, hnc, hcm, hn, fun hpos => ⟨g, 0, rfl, hp g rfl, fun i hi => ?_, fun j x hj => ?_⟩⟩
    · rw [hcell i hi, List.getElem?_eq_getElem (by rw [h.1]; exact hi)]
      simp
    · have hjn : j < n := by rw [← hn]; exact (List.getElem?_eq_some_iff.1 hj).1
      refine hE.here (fun i hi => ?_) (hr.2 j x hj)
      have : j * k + i < n * k := by
        have := Nat.mul_le_mul_right k (show j + 1 ≤ n from hjn)
        rw [Nat.add_mul, Nat.one_mul] at this
        omega
      exact (hcell _ this).symm
end

/-! ### The elements -/
def intE (q : IntKind) : Elt Int := fun _ _ f x => f 0 = some (.int q x)
theorem intE.good (q : IntKind) : Good 1 (intE q) := ⟨fun _ h => h, fun hf h => (hf 0 (by decide)).symm.trans h, fun _ h => h, fun h => h⟩
abbrev Bytes (p : Nat → Prop) (W : World) (v : Value) (bs : List Int) : Prop := SlcV 1 (intE .u8) p W v bs
abbrev Ints (p : Nat → Prop) (W : World) (v : Value) (bs : List Int) : Prop := SlcV 1 (intE .i64) p W v bs
structure Img where
  zone : Int
  what : Int
  bytes : List Int
structure Txn where
  seq : Int
  pos : Int
  n : Int
  images : List Img
def imgE : Elt Img := fun p W f x => f 0 = some (.int .i64 x.zone) ∧ f 1 = some (.int .i64 x.what) ∧ ∃ v, f 2 = some v ∧ Bytes p W v x.bytes
theorem imgE.good : Good 3 imgE where
  keep := fun ha ⟨h0, h1, v, h2, hb⟩ => ⟨h0, h1, v, h2, hb.keep (intE.good _) (by decide) ha⟩
  here := fun hf ⟨h0, h1, v, h2, hb⟩ => ⟨(hf 0 (by decide)).symm.trans h0, (hf 1 (by decide)).symm.trans h1, v, (hf 2 (by decide)).symm.trans h2, hb⟩
  mono := fun hpq ⟨h0, h1, v, h2, hb⟩ => ⟨h0, h1, v, h2, hb.mono (intE.good _) hpq⟩
  lt := fun ⟨h0, h1, v, h2, hb⟩ => ⟨h0, h1, v, h2, hb.lt (intE.good _) (by decide)⟩
abbrev Imgs (p : Nat → Prop) (W : World) (v : Value) (xs : List Img) : Prop := SlcV 3 imgE p W v xs
def txnE : Elt Txn := fun p W f x => f 0 = some (.int .i64 x.seq) ∧ f 1 = some (.int .i64 x.pos) ∧ f 2 = some (.int .i64 x.n) ∧ ∃ v, f 3 = some v ∧ Imgs p W v x.images
theorem txnE.good : Good 4 txnE where
  keep := fun ha ⟨h0, h1, h2, v, h3, hb⟩ => ⟨h0, h1, h2, v, h3, hb.keep imgE.good (by decide) ha⟩
  here := fun hf ⟨h0, h1, h2, v, h3, hb⟩ => ⟨(hf 0 (by decide)).symm.trans h0, (hf 1 (by decide)).symm.trans h1, (hf 2 (by decide)).symm.trans h2, v, (hf 3 (by decide)).symm.trans h3, hb⟩
  mono := fun hpq ⟨h0, h1, h2, v, h3, hb⟩ => ⟨h0, h1, h2, v, h3, hb.mono imgE.good hpq⟩
  lt := fun ⟨h0, h1, h2, v, h3, hb⟩ => ⟨h0, h1, h2, v, h3, hb.lt imgE.good (by decide)⟩
abbrev Txns (p : Nat → Prop) (W : World) (v : Value) (xs : List Txn) : Prop := SlcV 4 txnE p W v xs
end Go.Proofs.Ytedgalbhjfmafaa

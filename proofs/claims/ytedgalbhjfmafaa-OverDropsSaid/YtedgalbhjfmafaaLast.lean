/-
  The last image of a zone's block: plain lists.
-/
import Derived.Test.YtedgalbhjfmafaaData
namespace Go.Proofs.Ytedgalbhjfmafaa
set_option linter.unusedVariables false
def hit (z q : Int) (x : Img) : Bool := x.zone == z && x.what == q
def lastI (z q : Int) : List Img → Option Img
  | [] => none
  | x :: xs => match lastI z q xs with
    | some y => some y
    | none => if hit z q x = true then some x else none
def lastT (z q : Int) : List Txn → Option (Txn × Img)
  | [] => none
  | t :: ts => match lastT z q ts with
    | some y => some y
    | none => (lastI z q t.images).map fun x => (t, x)
theorem lastI_none {z q : Int} : ∀ {xs : List Img}, (∀ x ∈ xs, hit z q x = false) → lastI z q xs = none
  | [], _ => rfl
  | x :: xs, h => by
    rw [lastI, lastI_none (fun y hy => h y (List.mem_cons_of_mem _ hy))]
    simp [h x (List.mem_cons_self ..)]
theorem lastI_some {z q : Int} : ∀ {xs : List Img} {i : Nat} {x : Img}, xs[i]? = some x → hit z q x = true → (∀ j y, i < j → xs[j]? = some y → hit z q y = false) → lastI z q xs = some x
  | [], i, x, h, _, _ => by simp at h
  | y :: ys, 0, x, h, hx, hn => by
    simp at h
    subst h
    rw [lastI, lastI_none (fun v hv => by
      obtain ⟨j, hj⟩ := List.getElem?_of_mem hv
      exact hn (j + 1) v (by omega) (by simpa using hj))]
    simp [hx]
  | y :: ys, i + 1, x, h, hx, hn => by
    rw [lastI, lastI_some (xs := ys) (i := i) (by simpa using h) hx (fun j v hj hv => hn (j + 1) v (by omega) (by simpa using hv))]
theorem lastT_none {z q : Int} : ∀ {ts : List Txn}, (∀ t ∈ ts, ∀ x ∈ t.images, hit z q x = false) → lastT z q ts = none
  | [], _ => rfl
  | t :: ts, h => by
    rw [lastT, lastT_none (fun y hy => h y (List.mem_cons_of_mem _ hy)), lastI_none (h t (List.mem_cons_self ..))]
    rfl
theorem lastT_some {z q : Int} : ∀ {ts : List Txn} {a : Nat} {t : Txn} {x : Img}, ts[a]? = some t → lastI z q t.images = some x → (∀ j y, a < j → ts[j]? = some y → ∀ v ∈ y.images, hit z q v = false) → lastT z q ts = some (t, x)
  | [], a, t, x, h, _, _ => by simp at h
  | y :: ys, 0, t, x, h, hx, hn => by
    simp at h
    subst h
    rw [lastT, lastT_none (fun v hv => by
      obtain ⟨j, hj⟩ := List.getElem?_of_mem hv
      exact hn (j + 1) v (by omega) (by simpa using hj)), hx]
    rfl
  | y :: ys, a + 1, t, x, h, hx, hn => by
    rw [lastT, lastT_some (ts := ys) (a := a) (by simpa using h) hx (fun j v hj hv => hn (j + 1) v (by omega) (by simpa using hv))]
theorem lastT_append {z q : Int} : ∀ (k l : List Txn), lastT z q (k ++ l) = match lastT z q l with | some y => some y | none => lastT z q k
  | [], l => by cases h : lastT z q l <;> simp [lastT, h]
  | t :: k, l => by
    rw [List.cons_append, lastT, lastT_append k l]
    cases h : lastT z q l <;> simp [lastT]
end Go.Proofs.Ytedgalbhjfmafaa

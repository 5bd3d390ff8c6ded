/-
  Seg: a run cut into pieces: states that are written out, and what lies between two of them.
-/
import Derived.Test.YtbcmcdmflblgkaaGreatDoorTrb
import Derived.Test.YtbcmcdmflblgkaaGreatDoorMon
import Derived.Test.YtbcmcdmflblgkaaGreatDoorSnd14
namespace Go.Proofs.YtbcmcdmflblgkaaGreatDoor
namespace Ev
set_option linter.unusedVariables false
set_option linter.unusedSectionVars false
def vEqs (f : V → V → Bool) : List V → List V → Bool
  | [], [] => true
  | x :: xs, y :: ys => f x y && vEqs f xs ys
  | _, _ => false
def vEq : Nat → V → V → Bool
  | 0 => fun _ _ => false
  | n + 1 => fun a b => match a, b with
    | .agg xs, .agg ys => vEqs (vEq n) xs ys
    | .tup xs, .tup ys => vEqs (vEq n) xs ys
    | .fn f xs, .fn g ys => Nat.beq f g && vEqs (vEq n) xs ys
    | .ifc t x, .ifc u y => Nat.beq t u && vEq n x y
    | x, y => same x y
variable [bs : Base]
theorem vEqs_ok {f : V → V → Bool} (hf : ∀ a b, f a b = true → a = b) : ∀ {xs ys : List V}, vEqs f xs ys = true → xs = ys
  | [], [], _ => rfl
  | x :: xs, y :: ys, h => by
    have h : (f x y && vEqs f xs ys) = true := h
    rw [Bool.and_eq_true] at h
    rw [hf _ _ h.1, vEqs_ok hf h.2]
  | [], _ :: _, h => by cases h
  | _ :: _, [], h => by cases h
theorem vEq_ok : ∀ (n : Nat) (a b : V), vEq n a b = true → a = b
  | 0, a, b, h => by cases h
  | n + 1, a, b, h => by
    unfold vEq at h
    split at h
    · rw [vEqs_ok (vEq_ok n) h]
    · rw [vEqs_ok (vEq_ok n) h]
    · rw [Bool.and_eq_true] at h
      rw [Nat.eq_of_beq_eq_true h.1, vEqs_ok (vEq_ok n) h.2]
    · rw [Bool.and_eq_true] at h
      rw [Nat.eq_of_beq_eq_true h.1, vEq_ok n _ _ h.2]
    · exact same_eq h
/-- a state written out: the locals and the blocks that count -/
structure Lit where
  ls : List (Po × V)
  hp : List (Po × List V)
  nx : Po
def tOf {α : Type} : List (Po × α) → T α
  | [] => .e
  | x :: r => T.set x.1 (some x.2) (tOf r)
def Lit.h (L : Lit) : H := ⟨tOf L.hp, L.nx⟩
def Lit.st (L : Lit) : S := ⟨tOf L.ls, [], L.h⟩
theorem tOf_mem {α : Type} : ∀ {l : List (Po × α)} {p : Po} {v : α}, T.get p (tOf l) = some v → (p, v) ∈ l
  | [], p, v, h => by
    have : ∀ (p : Po), T.get p (.e : T α) = none := by
      intro p
      induction p with
      | one => rfl
      | d0 p ih => exact ih
      | d1 p ih => exact ih
    have h : T.get p (.e : T α) = some v := h
    rw [this p] at h
    cases h
  | x :: l, p, v, h => by
    have h : T.get p (T.set x.1 (some x.2) (tOf l)) = some v := h
    rw [T.get_set] at h
    split at h
    · next e =>
      injection h with h
      rw [e, ← h]
      exact List.mem_cons_self ..
    · exact List.mem_cons_of_mem _ (tOf_mem h)
noncomputable def chkT : List (Po × V) → T V → Bool
  | [], _ => true
  | x :: r, t => bK (match T.get x.1 t with
    | some u => vEq 8 x.2 u
    | none => false) (chkT r t)
noncomputable def chkH : List (Po × List V) → H → Bool
  | [], _ => true
  | x :: r, h => bK (match h.get x.1 with
    | some u => vEqs (vEq 8) x.2 u
    | none => false) (chkH r h)
noncomputable def chk (L : Lit) (t : T V) (l : List V) (h : H) : Bool := bK (Po.eq h.nx L.nx) (bK (chkT L.ls t) (chkH L.hp h))
theorem chkT_ok : ∀ {l : List (Po × V)} {t : T V}, chkT l t = true → ∀ p v, (p, v) ∈ l → T.get p t = some v
  | [], t, h, p, v, hm => by cases hm
  | x :: r, t, h, p, v, hm => by
    obtain ⟨h1, h2⟩ := bK_ok (show bK _ (chkT r t) = true from h)
    rcases List.mem_cons.1 hm with e | hm
    · subst e
      split at h1
      · next u hu =>
        rw [← vEq_ok 8 _ _ h1] at hu
        exact hu
      · cases h1
    · exact chkT_ok h2 p v hm
theorem chkH_ok : ∀ {l : List (Po × List V)} {h : H}, chkH l h = true → ∀ p v, (p, v) ∈ l → h.get p = some v
  | [], t, h, p, v, hm => by cases hm
  | x :: r, t, h, p, v, hm => by
    obtain ⟨h1, h2⟩ := bK_ok (show bK _ (chkH r t) = true from h)
    rcases List.mem_cons.1 hm with e | hm
    · subst e
      split at h1
      · next u hu =>
        rw [← vEqs_ok (vEq_ok 8) h1] at hu
        exact hu
      · cases h1
    · exact chkH_ok h2 p v hm
theorem chk_ok {L : Lit} {t : T V} {l : List V} {h : H} (e : chk L t l h = true) : Sub L.st ⟨t, l, h⟩ := by
  obtain ⟨h1, e⟩ := bK_ok (show bK (Po.eq h.nx L.nx) (bK (chkT L.ls t) (chkH L.hp h)) = true from e)
  obtain ⟨h2, h3⟩ := bK_ok e
  exact ⟨fun p v hv => chkT_ok h2 p v (tOf_mem hv), SubL.nil _, (Po.eq_iff _ _).1 h1, fun p v hv => chkH_ok h3 p v (tOf_mem hv)⟩
/-! ### Pieces -/
theorem fuel_more {cal : Cal} : ∀ (n : Nat) {c : C2} {s : S} {r : X × S}, evC2 cal n c s = some r → evC2 cal (n + 1) c s = some r
  | 0, c, s, r, h => by cases h
  | n + 1, c, s, r, h => by
    have h : stepC cal (evC2 cal n) c s = some r := h
    show stepC cal (evC2 cal (n + 1)) c s = some r
    cases c with
    | seq a b =>
      obtain ⟨⟨x, s1⟩, h1, h2⟩ := ob_get (show ob (evC2 cal n a s) _ = _ from h)
      show ob (evC2 cal (n + 1) a s) _ = _
      rw [fuel_more n h1]
      cases x with
      | normal => exact fuel_more n h2
      | exit i => exact h2
      | ret => exact h2
    | cond x a b =>
      obtain ⟨v, h1, h2⟩ := ob_get (show ob (x.ev s.ls s.stk) _ = _ from h)
      show ob (x.ev s.ls s.stk) _ = _
      rw [h1]
      cases v with
      | boo c => exact fuel_more n h2
      | _ => cases h2
    | block id a =>
      obtain ⟨⟨x, s1⟩, h1, h2⟩ := ob_get (show ob (evC2 cal n a s) _ = _ from h)
      show ob (evC2 cal (n + 1) a s) _ = _
      rw [fuel_more n h1]
      exact h2
    | loop a =>
      obtain ⟨⟨x, s1⟩, h1, h2⟩ := ob_get (show ob (evC2 cal n a s) _ = _ from h)
      show ob (evC2 cal (n + 1) a s) _ = _
      rw [fuel_more n h1]
      cases x with
      | normal => exact fuel_more n h2
      | exit i => exact h2
      | ret => exact h2
    | _ => exact h
theorem fuel_le {cal : Cal} {n m : Nat} (hn : n ≤ m) {c : C2} {s : S} {r : X × S} (h : evC2 cal n c s = some r) : evC2 cal m c s = some r := by
  induction hn with
  | refl => exact h
  | step _ ih => exact fuel_more _ ih
def Goes (cal : Cal) (c : C2) (s : S) (x : X) (s' : S) : Prop := ∃ n s1, evC2 cal n c s = some (x, s1) ∧ Sub s' s1
section
variable {cal : Cal}
theorem Goes.from_ (hc : MonC cal) {c : C2} {s s0 s' : S} {x : X} (h : Goes cal c s x s') (k : Sub s s0) : Goes cal c s0 x s' := by
  obtain ⟨n, s1, h1, h2⟩ := h
  obtain ⟨s2, h3, h4⟩ := evC2_mono hc n h1 k
  exact ⟨n, s2, h3, h2.trans h4⟩
theorem Goes.seq (hc : MonC cal) {a b : C2} {s s1 s2 : S} {x : X} (h : Goes cal a s .normal s1) (k : Goes cal b s1 x s2) : Goes cal (.seq a b) s x s2 := by
  obtain ⟨n, t, h1, h2⟩ := h
  obtain ⟨m, u, k1, k2⟩ := k.from_ hc h2
  refine ⟨max n m + 1, u, ?_, k2⟩
  show ob (evC2 cal (max n m) a s) _ = _
  rw [fuel_le (Nat.le_max_left _ _) h1]
  exact fuel_le (Nat.le_max_right _ _) k1
theorem Goes.seq_ret {a b : C2} {s s1 : S} (h : Goes cal a s .ret s1) : Goes cal (.seq a b) s .ret s1 := by
  obtain ⟨n, t, h1, h2⟩ := h
  refine ⟨n + 1, t, ?_, h2⟩
  show ob (evC2 cal n a s) _ = _
  rw [h1]
  rfl
theorem Goes.seq_exit {a b : C2} {s s1 : S} {i : Nat} (h : Goes cal a s (.exit i) s1) : Goes cal (.seq a b) s (.exit i) s1 := by
  obtain ⟨n, t, h1, h2⟩ := h
  refine ⟨n + 1, t, ?_, h2⟩
  show ob (evC2 cal n a s) _ = _
  rw [h1]
  rfl
theorem Goes.next (hc : MonC cal) {a : C2} {s s1 s2 : S} {x : X} (h : Goes cal a s .normal s1) (k : Goes cal (.loop a) s1 x s2) : Goes cal (.loop a) s x s2 := by
  obtain ⟨n, t, h1, h2⟩ := h
  obtain ⟨m, u, k1, k2⟩ := k.from_ hc h2
  refine ⟨max n m + 1, u, ?_, k2⟩
  show ob (evC2 cal (max n m) a s) _ = _
  rw [fuel_le (Nat.le_max_left _ _) h1]
  exact fuel_le (Nat.le_max_right _ _) k1
theorem Goes.out {a : C2} {s s1 : S} {i : Nat} (h : Goes cal a s (.exit i) s1) : Goes cal (.loop a) s (.exit i) s1 := by
  obtain ⟨n, t, h1, h2⟩ := h
  refine ⟨n + 1, t, ?_, h2⟩
  show ob (evC2 cal n a s) _ = _
  rw [h1]
  rfl
theorem Goes.block_exit {a : C2} {s s1 : S} {i : Nat} (h : Goes cal a s (.exit i) s1) : Goes cal (.block i a) s .normal s1 := by
  obtain ⟨n, t, h1, h2⟩ := h
  refine ⟨n + 1, t, ?_, h2⟩
  show ob (evC2 cal n a s) _ = _
  rw [h1]
  show some (bif Nat.beq i i then (X.normal, t) else (X.exit i, t)) = _
  rw [Nat.beq_refl]
  rfl
theorem Goes.block {a : C2} {s s1 : S} {i : Nat} (h : Goes cal a s .normal s1) : Goes cal (.block i a) s .normal s1 := by
  obtain ⟨n, t, h1, h2⟩ := h
  refine ⟨n + 1, t, ?_, h2⟩
  show ob (evC2 cal n a s) _ = _
  rw [h1]
  rfl
theorem Goes.inv {a b : C2} {s s1 : S} (h : Goes cal (.seq a b) s .normal s1) : ∃ m, Goes cal a s .normal m ∧ Goes cal b m .normal s1 := by
  obtain ⟨n, t, h1, h2⟩ := h
  cases n with
  | zero => cases h1
  | succ n =>
    obtain ⟨⟨x, m⟩, h3, h4⟩ := ob_get (show ob (evC2 cal n a s) _ = _ from h1)
    cases x with
    | normal => exact ⟨m, ⟨n, m, h3, fun _ _ h => h, ⟨[], by simp⟩, SubH.refl _⟩, ⟨n, t, h4, h2⟩⟩
    | exit i => cases h4
    | ret => cases h4
def rep : Nat → C2 → C2
  | 0 => fun _ => .skip
  | n + 1 => fun c => .seq c (rep n c)
theorem Goes.nexts (hc : MonC cal) {c : C2} {x : X} {s2 : S} : ∀ {n : Nat} {s s1 : S}, Goes cal (rep n c) s .normal s1 → Goes cal (.loop c) s1 x s2 → Goes cal (.loop c) s x s2
  | 0, s, s1, h, k => by
    obtain ⟨n, t, h1, h2⟩ := h
    cases n with
    | zero => cases h1
    | succ n =>
      injection h1 with h1
      injection h1 with _ h1
      rw [← h1] at h2
      exact k.from_ hc h2
  | n + 1, s, s1, h, k => by
    obtain ⟨m, h1, h2⟩ := Goes.inv h
    exact h1.next hc (Goes.nexts hc h2 k)
def noK : KS := fun _ _ _ => false
/-- a piece that ends normally at L -/
theorem Goes.normal {ck : CalK} (hk : CalR ck cal) {n : Nat} {c : C2} {s : S} {L : Lit} (h : evCK ck n c s.ls s.stk s.h ⟨chk L, fun _ => noK, noK⟩ = true) : Goes cal c s .normal L.st := by
  obtain ⟨x, s1, h1, h2⟩ := evCK_ok hk n h
  cases x with
  | normal => exact ⟨n, s1, h1, chk_ok h2⟩
  | exit i => cases h2
  | ret => cases h2
/-- a piece that ends by exit i at L -/
theorem Goes.exit {ck : CalK} (hk : CalR ck cal) {n : Nat} {c : C2} {s : S} {i : Nat} {L : Lit} (h : evCK ck n c s.ls s.stk s.h ⟨noK, fun j => bif Nat.beq j i then chk L else noK, noK⟩ = true) : Goes cal c s (.exit i) L.st := by
  obtain ⟨x, s1, h1, h2⟩ := evCK_ok hk n h
  cases x with
  | normal => cases h2
  | exit j =>
    have h2 : (bif Nat.beq j i then chk L else noK) s1.ls s1.stk s1.h = true := h2
    cases e : Nat.beq j i with
    | false => rw [e] at h2; cases h2
    | true =>
      rw [e] at h2
      rw [Nat.eq_of_beq_eq_true e] at h1
      exact ⟨n, s1, h1, chk_ok h2⟩
  | ret => cases h2
/-- a piece that returns at L -/
theorem Goes.ret {ck : CalK} (hk : CalR ck cal) {n : Nat} {c : C2} {s : S} {L : Lit} (h : evCK ck n c s.ls s.stk s.h ⟨noK, fun _ => noK, chk L⟩ = true) : Goes cal c s .ret L.st := by
  obtain ⟨x, s1, h1, h2⟩ := evCK_ok hk n h
  cases x with
  | normal => cases h2
  | exit i => cases h2
  | ret => exact ⟨n, s1, h1, chk_ok h2⟩
end
end Ev
end Go.Proofs.YtbcmcdmflblgkaaGreatDoor

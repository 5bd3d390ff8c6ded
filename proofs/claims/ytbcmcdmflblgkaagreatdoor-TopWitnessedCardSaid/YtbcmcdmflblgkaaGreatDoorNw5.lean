/-
  Nw5: over.find's contract as the evaluator's own rule has it, where at most one image is the block's.
-/
import Derived.Test.YtbcmcdmflblgkaaGreatDoorNw1
import Derived.Test.YtbcmcdmflblgkaaGreatDoorFnd
import Derived.Test.YtbcmcdmflblgkaaGreatDoorDr1
import Derived.Test.YtbcmcdmflblgkaaGreatDoorMon
namespace Go.Proofs.YtbcmcdmflblgkaaGreatDoor
namespace Ev
open Go.RowKit
set_option linter.unusedVariables false
set_option linter.unusedSectionVars false
def isSl : V → Bool
  | .nils => true
  | .sl _ _ _ _ _ _ => true
  | _ => false
def imgsV : List V → Option (List Img)
  | [] => some []
  | .int .i64 z :: .int .i64 w :: s :: r => io (isSl s) (ob (imgsV r) fun l => some (⟨z, w⟩ :: l))
  | _ => none
def txnsV (h : H) : List V → Option (List Txn)
  | [] => some []
  | .int .i64 a :: .int .i64 b :: .int .i64 c :: im :: r => ob (held 3 im h) fun cs => ob (imgsV cs) fun l => io (Nat.ble l.length 100000) (ob (txnsV h r) fun ts => some (⟨a, b, c, l⟩ :: ts))
  | _ => none
def hitsI (z q : Int) : List Img → Nat → List Nat
  | [], _ => []
  | x :: xs, i => bif hit z q x then i :: hitsI z q xs (i + 1) else hitsI z q xs (i + 1)
def hitsT (z q : Int) : List Txn → Nat → List (Nat × Nat)
  | [], _ => []
  | t :: ts, a => (hitsI z q t.images 0).map (fun i => (a, i)) ++ hitsT z q ts (a + 1)
def nFind : List V → H → Option (V × H) := fun vs h => match vs with
  | [l, .int .i64 z, .int .i64 q] => ob (held 4 l h) fun cs => ob (txnsV h cs) fun ts => io (Nat.ble ts.length 100000) (match hitsT z q ts 0 with
    | [] => some (.tup [vi 0, vi 0, .boo false], h)
    | [(a, i)] => some (.tup [vi a, vi i, .boo true], h)
    | _ => none)
  | _ => none
theorem mem_hitsI {z q : Int} : ∀ {xs : List Img} {n i : Nat}, i ∈ hitsI z q xs n ↔ ∃ x, n ≤ i ∧ xs[i - n]? = some x ∧ hit z q x = true
  | [], n, i => by simp [hitsI]
  | x :: xs, n, i => by
    have ih := mem_hitsI (z := z) (q := q) (xs := xs) (n := n + 1) (i := i)
    have rest : (∃ y, n + 1 ≤ i ∧ xs[i - (n + 1)]? = some y ∧ hit z q y = true) ↔ ∃ y, n + 1 ≤ i ∧ (x :: xs)[i - n]? = some y ∧ hit z q y = true := by
      constructor
      · rintro ⟨y, h1, h2, h3⟩
        refine ⟨y, h1, ?_, h3⟩
        rw [show i - n = (i - (n + 1)) + 1 from by omega, List.getElem?_cons_succ]
        exact h2
      · rintro ⟨y, h1, h2, h3⟩
        refine ⟨y, h1, ?_, h3⟩
        rw [show i - n = (i - (n + 1)) + 1 from by omega, List.getElem?_cons_succ] at h2
        exact h2
    unfold hitsI
    cases hh : hit z q x with
    | true =>
      simp only [cond_true, List.mem_cons]
      rw [ih, rest]
      constructor
      · rintro (rfl | ⟨y, h1, h2, h3⟩)
        · exact ⟨x, Nat.le_refl _, by simp, hh⟩
        · exact ⟨y, by omega, h2, h3⟩
      · rintro ⟨y, h1, h2, h3⟩
        by_cases e : i = n
        · exact .inl e
        · exact .inr ⟨y, by omega, h2, h3⟩
    | false =>
      simp only [cond_false]
      rw [ih, rest]
      constructor
      · rintro ⟨y, h1, h2, h3⟩
        exact ⟨y, by omega, h2, h3⟩
      · rintro ⟨y, h1, h2, h3⟩
        by_cases e : i = n
        · subst e
          rw [Nat.sub_self] at h2
          simp only [List.getElem?_cons_zero, Option.some.injEq] at h2
          rw [← h2, hh] at h3
          cases h3
        · exact ⟨y, by omega, h2, h3⟩
theorem mem_hitsT {z q : Int} : ∀ {ts : List Txn} {n a i : Nat}, (a, i) ∈ hitsT z q ts n ↔ ∃ t x, n ≤ a ∧ ts[a - n]? = some t ∧ t.images[i]? = some x ∧ hit z q x = true
  | [], n, a, i => by simp [hitsT]
  | t :: ts, n, a, i => by
    have ih := mem_hitsT (z := z) (q := q) (ts := ts) (n := n + 1) (a := a) (i := i)
    unfold hitsT
    rw [List.mem_append, ih]
    constructor
    · rintro (h | ⟨t', x, h1, h2, h3, h4⟩)
      · obtain ⟨j, hj, e⟩ := List.mem_map.1 h
        injection e with e1 e2
        subst e1 e2
        obtain ⟨x, _, h5, h6⟩ := mem_hitsI.1 hj
        exact ⟨t, x, Nat.le_refl _, by simp, by simpa using h5, h6⟩
      · refine ⟨t', x, by omega, ?_, h3, h4⟩
        rw [show a - n = (a - (n + 1)) + 1 from by omega, List.getElem?_cons_succ]
        exact h2
    · rintro ⟨t', x, h1, h2, h3, h4⟩
      by_cases e : a = n
      · subst e
        rw [Nat.sub_self] at h2
        simp only [List.getElem?_cons_zero, Option.some.injEq] at h2
        subst h2
        exact .inl (List.mem_map.2 ⟨i, mem_hitsI.2 ⟨x, by omega, by simpa using h3, h4⟩, rfl⟩)
      · refine .inr ⟨t', x, by omega, ?_, h3, h4⟩
        rw [show a - n = (a - (n + 1)) + 1 from by omega, List.getElem?_cons_succ] at h2
        exact h2
theorem lastI_hit {z q : Int} : ∀ {xs : List Img} {x : Img}, lastI z q xs = some x → hit z q x = true
  | [], x, h => by cases h
  | y :: ys, x, h => by
    unfold lastI at h
    split at h
    · next u hu => injection h with h; subst h; exact lastI_hit hu
    · split at h
      · next hy => injection h with h; subst h; exact hy
      · cases h
theorem lastI_no {z q : Int} : ∀ {xs : List Img}, lastI z q xs = none → ∀ x ∈ xs, hit z q x = false
  | [], _, x, hx => by cases hx
  | y :: ys, h, x, hx => by
    unfold lastI at h
    split at h
    · cases h
    · next hu =>
      split at h
      · cases h
      · next hy =>
        rcases List.mem_cons.1 hx with rfl | hx
        · exact Bool.eq_false_iff.2 hy
        · exact lastI_no hu x hx
theorem lastT_hit {z q : Int} : ∀ {ts : List Txn} {t : Txn} {x : Img}, lastT z q ts = some (t, x) → hit z q x = true
  | [], t, x, h => by cases h
  | y :: ys, t, x, h => by
    unfold lastT at h
    split at h
    · next u hu => injection h with h; subst h; exact lastT_hit hu
    · cases hl : lastI z q y.images with
      | none => rw [hl] at h; cases h
      | some v =>
        rw [hl] at h
        injection h with h
        injection h with e1 e2
        subst e2
        exact lastI_hit hl
theorem lastT_no {z q : Int} : ∀ {ts : List Txn}, lastT z q ts = none → ∀ t ∈ ts, ∀ x ∈ t.images, hit z q x = false
  | [], _, t, ht => by cases ht
  | y :: ys, h, t, ht => by
    unfold lastT at h
    split at h
    · cases h
    · next hu =>
      cases hl : lastI z q y.images with
      | some v => rw [hl] at h; cases h
      | none =>
        rcases List.mem_cons.1 ht with rfl | ht
        · exact lastI_no hl
        · exact lastT_no hu t ht
theorem imgsV_at : ∀ {cs : List V} {l : List Img}, imgsV cs = some l → cs.length = 3 * l.length ∧ ∀ j x, l[j]? = some x → cs[j * 3]? = some (.int .i64 x.zone) ∧ cs[j * 3 + 1]? = some (.int .i64 x.what) ∧ ∃ s, cs[j * 3 + 2]? = some s ∧ isSl s = true
  | cs, l, h => by
    unfold imgsV at h
    split at h
    · injection h with h; subst h; exact ⟨rfl, fun j x hj => by simp at hj⟩
    · next z w s r =>
      obtain ⟨h1, h⟩ := io_get h
      obtain ⟨l', h2, h⟩ := ob_get h
      injection h with h
      subst h
      obtain ⟨g1, g2⟩ := imgsV_at h2
      refine ⟨by simp [g1]; omega, fun j x hj => ?_⟩
      cases j with
      | zero => simp at hj; subst hj; exact ⟨rfl, rfl, s, rfl, h1⟩
      | succ j =>
        rw [List.getElem?_cons_succ] at hj
        obtain ⟨k1, k2, s', k3, k4⟩ := g2 j x hj
        rw [show (j + 1) * 3 = j * 3 + 1 + 1 + 1 from by omega]
        exact ⟨by simpa using k1, by simpa using k2, s', by simpa using k3, k4⟩
    · cases h
  termination_by cs => cs.length
theorem txnsV_at {h : H} : ∀ {cs : List V} {l : List Txn}, txnsV h cs = some l → cs.length = 4 * l.length ∧ ∀ j t, l[j]? = some t → cs[j * 4]? = some (.int .i64 t.seq) ∧ cs[j * 4 + 1]? = some (.int .i64 t.pos) ∧ cs[j * 4 + 2]? = some (.int .i64 t.n) ∧ t.images.length ≤ 100000 ∧ ∃ im cl, cs[j * 4 + 3]? = some im ∧ held 3 im h = some cl ∧ imgsV cl = some t.images
  | cs, l, he => by
    unfold txnsV at he
    split at he
    · injection he with he; subst he; exact ⟨rfl, fun j x hj => by simp at hj⟩
    · next a b c im r =>
      obtain ⟨cl, h1, he⟩ := ob_get he
      obtain ⟨li, h2, he⟩ := ob_get he
      obtain ⟨h5, he⟩ := io_get he
      obtain ⟨l', h3, he⟩ := ob_get he
      injection he with he
      subst he
      obtain ⟨g1, g2⟩ := txnsV_at h3
      refine ⟨by simp [g1]; omega, fun j t hj => ?_⟩
      cases j with
      | zero => simp at hj; subst hj; exact ⟨rfl, rfl, rfl, Nat.le_of_ble_eq_true h5, im, cl, rfl, h1, h2⟩
      | succ j =>
        rw [List.getElem?_cons_succ] at hj
        obtain ⟨k1, k2, k3, k4, im', cl', k5, k6, k7⟩ := g2 j t hj
        rw [show (j + 1) * 4 = j * 4 + 1 + 1 + 1 + 1 from by omega]
        exact ⟨by simpa using k1, by simpa using k2, by simpa using k3, k4, im', cl', by simpa using k5, k6, k7⟩
    · cases he
  termination_by cs => cs.length
variable [bs : Base]
theorem isSl_rel {ρ : Rho} {s : V} {u : Value} (h : isSl s = true) (hv : VR ρ s u) : ∃ A n c, u = .slice A n c := by
  unfold isSl at h
  split at h
  · exact ⟨_, _, _, hv.nils_inv⟩
  · obtain ⟨_, _, _, _, _, _, e, _⟩ := hv.sl_inv
    exact ⟨_, _, _, e⟩
  · cases h
theorem sl_bounds {ρ : Rho} {s : V} {A : Option Addr} {n c : Nat} {m : Nat} (hv : VR ρ s (.slice A n c)) (hs : slen s = some m) : n ≤ c ∧ c ≤ maxLen := by
  cases s with
  | nils =>
    have := hv.nils_inv
    injection this with e1 e2 e3
    subst e2 e3
    exact ⟨Nat.le_refl _, Nat.zero_le _⟩
  | sl b o n' c' ex k =>
    obtain ⟨B, s, L, ad, c'', hr, e, h1, h2, h3, h4, h5, h6⟩ := hv.sl_inv
    injection e with e1 e2 e3
    subst e2 e3
    exact ⟨h1, h4⟩
  | _ => cases hs
/-- from what is held to what a slice holds -/
theorem slc_of {ρ : Rho} {h : H} {w : World} (hw : WR ρ h w) {α : Type} {k : Nat} {E : Elt α} {v : V} {u : Value} (hv : VR ρ v u) {cs : List V} (hc : held k v h = some cs) {xs : List α} (hlen : cs.length = k * xs.length) (hk : 0 < k)
    (hE : ∀ (ys : List Value) (b o : Nat), VRs ρ cs ys → (∀ j y, ys[j]? = some y → w.cell? ⟨b, o + j, none⟩ = some y) → ∀ j x, xs[j]? = some x → E (fun _ => True) w (fun i => w.cell? ⟨b, o + (j * k + i), none⟩) x) :
    ∃ A n c, u = .slice A n c ∧ n ≤ c ∧ c ≤ maxLen ∧ n = xs.length ∧ Slc k E (fun _ => True) w A n xs := by
  obtain ⟨A, n, c, ys, rfl, hsl, hl, hR, hcell⟩ := held_rel hw hv hc
  obtain ⟨h1, h2⟩ := sl_bounds hv hsl
  have hn : n = xs.length := by
    have h3 := hR.1
    rw [hlen, hl, Nat.mul_comm n k] at h3
    exact (Nat.eq_of_mul_eq_mul_left hk h3).symm
  refine ⟨A, n, c, rfl, h1, h2, hn, hn.symm, fun hn0 => ?_⟩
  obtain ⟨b, o, e⟩ := sl_flat hv hc hn0
  obtain ⟨a, e', hcl⟩ := hcell hn0
  rw [e] at e'
  injection e' with e'
  subst e'
  refine ⟨b, o, e, trivial, fun j x hj => hE ys b o hR (fun j y hy => ?_) j x hj⟩
  have := hcl j y hy
  rw [add_flat] at this
  exact this
theorem nFind_ok : NatOK Tryz.prog 219 nFind := by
  intro vs h v h' he ρ w us hw hs
  unfold nFind at he
  split at he
  · next l z q =>
    obtain ⟨cs, hc, he⟩ := ob_get he
    obtain ⟨ts, ht, he⟩ := ob_get he
    obtain ⟨hb, he⟩ := io_get he
    have hb := Nat.le_of_ble_eq_true hb
    obtain ⟨x, r, rfl, hx, hr⟩ := hs.cons_inv
    obtain ⟨y, y', rfl, hy, hy'⟩ := hr.two_inv
    obtain rfl := hy.int_inv
    obtain rfl := hy'.int_inv
    obtain ⟨g1, g2⟩ := txnsV_at ht
    obtain ⟨A, n, c, rfl, h1, h2, hn, hS⟩ := slc_of (E := txnE) hw hx hc (xs := ts) g1 (by decide) (by
      intro ys b o hR hcell j t hj
      obtain ⟨k1, k2, k3, k4, im, cl, k5, k6, k7⟩ := g2 j t hj
      obtain ⟨u0, e0, v0⟩ := hR.at_ k1
      obtain ⟨u1, e1, v1⟩ := hR.at_ k2
      obtain ⟨u2, e2, v2⟩ := hR.at_ k3
      obtain ⟨u3, e3, v3⟩ := hR.at_ k5
      obtain rfl := v0.int_inv
      obtain rfl := v1.int_inv
      obtain rfl := v2.int_inv
      obtain ⟨m1, m2⟩ := imgsV_at k7
      obtain ⟨A2, n2, c2, rfl, p1, p2, p3, p4⟩ := slc_of (E := imgE) hw v3 k6 (xs := t.images) m1 (by decide) (by
        intro ys b o hR hcell j x hj
        obtain ⟨k1, k2, s, k3, k4⟩ := m2 j x hj
        obtain ⟨u0, e0, v0⟩ := hR.at_ k1
        obtain ⟨u1, e1, v1⟩ := hR.at_ k2
        obtain ⟨u2, e2, v2⟩ := hR.at_ k3
        obtain rfl := v0.int_inv
        obtain rfl := v1.int_inv
        obtain ⟨A, n, c, rfl⟩ := isSl_rel k4 v2
        exact ⟨hcell _ _ e0, hcell _ _ e1, A, n, c, hcell _ _ e2⟩)
      exact ⟨hcell _ _ e0, hcell _ _ e1, hcell _ _ e2, A2, n2, c2, hcell _ _ e3, p1, p2, p4⟩)
    refine (find_any A n c ts z q (fun _ => True) w hS (by omega) (fun t ht' => by
      obtain ⟨j, hj⟩ := List.getElem?_of_mem ht'
      exact (g2 j t hj).2.2.2.1)).mono ?_
    rintro e w' ⟨hf, hbel⟩
    rcases hf with ⟨a, i, t, x, rfl, q1, q2, q3⟩ | ⟨rfl, q1⟩
    · have hm : (a, i) ∈ hitsT z q ts 0 := mem_hitsT.2 ⟨t, x, Nat.zero_le _, by simpa using q1, q2, lastT_hit q3⟩
      split at he
      · next e0 => rw [e0] at hm; cases hm
      · next a' i' e0 =>
        rw [e0, List.mem_singleton] at hm
        injection hm with e1 e2
        subst e1 e2
        injection he with he
        injection he with e1 e2
        subst e1 e2
        exact ⟨_, ρ, rfl, VR.tup_mk (VRs.cons (.int _ _) (VRs.cons (.int _ _) (VRs.cons (.boo _) (VRs.nil ρ)))), hw.below_ hbel, St.refl _ _⟩
      · cases he
    · split at he
      · injection he with he
        injection he with e1 e2
        subst e1 e2
        exact ⟨_, ρ, rfl, VR.tup_mk (VRs.cons (.int _ _) (VRs.cons (.int _ _) (VRs.cons (.boo _) (VRs.nil ρ)))), hw.below_ hbel, St.refl _ _⟩
      · next a' i' e0 =>
        have hm : (a', i') ∈ hitsT z q ts 0 := by rw [e0]; simp
        obtain ⟨t, x, _, k1, k2, k3⟩ := mem_hitsT.1 hm
        have := lastT_no q1 t (List.mem_of_getElem? k1) x (List.mem_of_getElem? k2)
        rw [this] at k3
        cases k3
      · cases he
  · cases he
omit bs
theorem txnsV_mono {h h' : H} (k : SubH h h') : ∀ {cs : List V} {l : List Txn}, txnsV h cs = some l → txnsV h' cs = some l
  | cs, l, he => by
    unfold txnsV at he ⊢
    split at he
    · exact he
    · next a b c im r =>
      obtain ⟨cl, h1, he⟩ := ob_get he
      obtain ⟨li, h2, he⟩ := ob_get he
      obtain ⟨h5, he⟩ := io_get he
      obtain ⟨l', h3, he⟩ := ob_get he
      rw [held_mono k h1]
      simp only [ob]
      rw [h2]
      simp only
      rw [h5]
      simp only [io]
      rw [txnsV_mono k h3]
      exact he
    · cases he
  termination_by cs => cs.length
theorem nFind_mono : MonE nFind := by
  intro vs h v h1 he h' k
  unfold nFind at he ⊢
  split at he
  · next l z q =>
    obtain ⟨cs, hc, he⟩ := ob_get he
    obtain ⟨ts, ht, he⟩ := ob_get he
    obtain ⟨hb, he⟩ := io_get he
    rw [held_mono k hc]
    simp only [ob]
    rw [txnsV_mono k ht]
    simp only
    rw [hb]
    simp only [io]
    split at he
    · injection he with he
      injection he with e1 e2
      subst e1 e2
      exact ⟨h', rfl, k⟩
    · injection he with he
      injection he with e1 e2
      subst e1 e2
      exact ⟨h', rfl, k⟩
    · cases he
  · cases he
end Ev
end Go.Proofs.YtbcmcdmflblgkaaGreatDoor

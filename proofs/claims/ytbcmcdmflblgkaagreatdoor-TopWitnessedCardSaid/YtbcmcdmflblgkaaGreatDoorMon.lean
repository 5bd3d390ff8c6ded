/-
  Mon: where the evaluator answers, it answers the same of a state that holds more.
-/
import Derived.Test.YtbcmcdmflblgkaaGreatDoorFast
namespace Go.Proofs.YtbcmcdmflblgkaaGreatDoor
namespace Ev
set_option linter.unusedVariables false
theorem ob_get {α β : Type} {x : Option α} {f : α → Option β} {b : β} (h : ob x f = some b) : ∃ a, x = some a ∧ f a = some b := by
  cases x with
  | none => cases h
  | some a => exact ⟨a, rfl, h⟩
theorem io_get {α : Type} {c : Bool} {x : Option α} {a : α} (h : io c x = some a) : c = true ∧ x = some a := by
  cases c with
  | false => cases h
  | true => exact ⟨rfl, h⟩
def SubT (t t' : T V) : Prop := ∀ p v, T.get p t = some v → T.get p t' = some v
def SubL (l l' : List V) : Prop := ∃ r, l' = l ++ r
structure SubH (h h' : H) : Prop where
  nx : h'.nx = h.nx
  get : ∀ b cs, h.get b = some cs → h'.get b = some cs
structure Sub (s s' : S) : Prop where
  t : SubT s.ls s'.ls
  l : SubL s.stk s'.stk
  h : SubH s.h s'.h
theorem SubT.refl (t : T V) : SubT t t := fun _ _ h => h
theorem SubL.nil (l : List V) : SubL [] l := ⟨l, rfl⟩
theorem SubH.refl (h : H) : SubH h h := ⟨rfl, fun _ _ h => h⟩
theorem SubH.trans {a b c : H} (h : SubH a b) (k : SubH b c) : SubH a c := ⟨k.nx.trans h.nx, fun p cs e => k.get p cs (h.get p cs e)⟩
theorem Sub.trans {a b c : S} (h : Sub a b) (k : Sub b c) : Sub a c := by
  refine ⟨fun p v e => k.t p v (h.t p v e), ?_, h.h.trans k.h⟩
  obtain ⟨r, e⟩ := h.l
  obtain ⟨r', e'⟩ := k.l
  exact ⟨r ++ r', by rw [e', e, List.append_assoc]⟩
theorem SubT.set {t t' : T V} (k : SubT t t') (p : Po) (v : Option V) : SubT (T.set p v t) (T.set p v t') := by
  intro q u h
  rw [T.get_set] at h ⊢
  split
  · next e => rw [if_pos e] at h; exact h
  · next e => rw [if_neg e] at h; exact k q u h
theorem SubH.put {h h' : H} (k : SubH h h') (p : Po) (v : Option (List V)) : SubH (h.put p v) (h'.put p v) := by
  refine ⟨k.nx, fun q u e => ?_⟩
  have e1 : T.get q (T.set p v h.m) = some u := e
  show T.get q (T.set p v h'.m) = some u
  rw [T.get_set] at e1 ⊢
  split
  · next e => rw [if_pos e] at e1; exact e1
  · next e => rw [if_neg e] at e1; exact k.get q u e1
theorem SubH.new {h h' : H} (k : SubH h h') (cs : List V) : SubH (h.new cs) (h'.new cs) := by
  refine ⟨by show h'.nx.succ = h.nx.succ; rw [k.nx], fun q u e => ?_⟩
  have e1 : T.get q (T.set h.nx (some cs) h.m) = some u := e
  show T.get q (T.set h'.nx (some cs) h'.m) = some u
  rw [k.nx]
  rw [T.get_set] at e1 ⊢
  split
  · next e => rw [if_pos e] at e1; exact e1
  · next e => rw [if_neg e] at e1; exact k.get q u e1
theorem SubL.get {l l' : List V} (k : SubL l l') : ∀ {u : U} {v : V}, u.get l = some v → u.get l' = some v := by
  obtain ⟨r, rfl⟩ := k
  intro u
  induction u generalizing l with
  | z => intro v h; cases l with
    | nil => cases h
    | cons a l => exact h
  | s u ih => intro v h; cases l with
    | nil => cases h
    | cons a l => exact ih (l := l) h
theorem O.mono {x : O} {t t' : T V} {l l' : List V} {v : V} (kt : SubT t t') (kl : SubL l l') (h : x.ev t l = some v) : x.ev t' l' = some v := by
  cases x with
  | st u => exact kl.get (u := u) h
  | lo p => exact kt p v h
  | co v => exact h
theorem evs_mono {t t' : T V} {l l' : List V} (kt : SubT t t') (kl : SubL l l') : ∀ {xs : List O} {vs : List V}, evs xs t l = some vs → evs xs t' l' = some vs
  | [], vs, h => h
  | x :: xs, vs, h => by
    obtain ⟨v, h1, h⟩ := ob_get (show ob (x.ev t l) (fun v => ob (evs xs t l) fun vs => some (v :: vs)) = some vs from h)
    obtain ⟨ws, h2, h⟩ := ob_get h
    show ob (x.ev t' l') (fun v => ob (evs xs t' l') fun vs => some (v :: vs)) = some vs
    rw [O.mono kt kl h1]
    show ob (evs xs t' l') (fun vs => some (v :: vs)) = some vs
    rw [evs_mono kt kl h2]
    exact h
theorem held_mono {h h' : H} (k : SubH h h') {sz : Nat} {v : V} {cs : List V} (e : held sz v h = some cs) : held sz v h' = some cs := by
  unfold held at e ⊢
  split at e
  · exact e
  · next b o n c ex kk =>
    cases n with
    | zero => exact e
    | succ n =>
      obtain ⟨cs', h1, e⟩ := ob_get e
      show ob (h'.get b) _ = _
      rw [k.get b cs' h1]
      exact e
  · cases e
def MonF (f : SF) : Prop := ∀ vs h v, f vs h = some v → ∀ h', SubH h h' → f vs h' = some v
theorem sLoad_mono (sz : Nat) (g : Bool) : MonF (sLoad sz g) := by
  intro vs h v e h' k
  unfold sLoad at e ⊢
  split at e
  · next b o =>
    obtain ⟨cs, h1, e⟩ := ob_get e
    show ob (h'.get b) _ = _
    rw [k.get b cs h1]
    exact e
  · cases e
theorem sB2s_mono : MonF sB2s := by
  intro vs h v e h' k
  unfold sB2s at e ⊢
  split at e
  · next v =>
    obtain ⟨cs, h1, e⟩ := ob_get e
    show ob (held 1 v h') _ = _
    rw [held_mono k h1]
    exact e
  · cases e
theorem semF_mono (k : K) : MonF (semF k) := by
  cases k with
  | load sz g => exact sLoad_mono sz g
  | b2s => exact sB2s_mono
  | _ => intro vs h v e h' k; exact e
def MonE (f : SE) : Prop := ∀ vs h v h1, f vs h = some (v, h1) → ∀ h', SubH h h' → ∃ h1', f vs h' = some (v, h1') ∧ SubH h1 h1'
theorem eStore_mono (sz : Nat) : MonE (eStore sz) := by
  intro vs h v h1 e h' k
  unfold eStore at e ⊢
  split at e
  · next b o u =>
    obtain ⟨cs, h2, e⟩ := ob_get e
    obtain ⟨h3, e⟩ := io_get e
    injection e with e
    injection e with e1 e2
    subst e1 e2
    refine ⟨h'.put b (some (splice o u.cells cs)), ?_, k.put _ _⟩
    show ob (h'.get b) _ = _
    rw [k.get b cs h2]
    show io _ _ = _
    rw [h3]
    rfl
  · cases e
theorem grow_mono {sz m : Nat} {new : List V} {b : Po} {o n c : Nat} {ex : Bool} {h h' : H} {v : V} {h1 : H} (k : SubH h h') (e : grow sz m new b o n c ex h = some (v, h1)) : ∃ h1', grow sz m new b o n c ex h' = some (v, h1') ∧ SubH h1 h1' := by
  unfold grow at e ⊢
  cases hb : Nat.ble (n + m) c with
  | true =>
    rw [hb] at e
    obtain ⟨cs, h2, e⟩ := ob_get (show ob (h.get b) _ = _ from e)
    obtain ⟨h3, e⟩ := io_get e
    injection e with e
    injection e with e1 e2
    subst e1 e2
    refine ⟨_, ?_, k.put b (some (splice (o + n * sz) new cs))⟩
    show ob (h'.get b) _ = _
    rw [k.get b cs h2]
    show io _ _ = _
    rw [h3]
    rfl
  | false =>
    rw [hb] at e
    obtain ⟨old, h2, e⟩ := ob_get (show ob (held sz (.sl b o n c ex sz) h) _ = _ from e)
    show ∃ h1', ob (held sz (.sl b o n c ex sz) h') _ = _ ∧ _
    rw [held_mono k h2]
    cases ex with
    | true =>
      injection e with e
      injection e with e1 e2
      subst e1 e2
      refine ⟨_, ?_, k.new (old ++ new)⟩
      show some (V.sl h'.nx 0 (n + m) (n + m) false sz, h'.new (old ++ new)) = _
      rw [k.nx]
    | false =>
      obtain ⟨cs, h3, e⟩ := ob_get (show ob (h.get b) _ = _ from e)
      injection e with e
      injection e with e1 e2
      subst e1 e2
      refine ⟨_, ?_, (k.put b none).new (old ++ new)⟩
      show ob (h'.get b) (fun _ => some (V.sl h'.nx 0 (n + m) (n + m) false sz, (h'.put b none).new (old ++ new))) = _
      rw [k.get b cs h3, k.nx]
      rfl
theorem appV_mono {sz bytes m : Nat} {new : List V} {s : V} {h h' : H} {v : V} {h1 : H} (k : SubH h h') (e : appV sz bytes m new s h = some (v, h1)) : ∃ h1', appV sz bytes m new s h' = some (v, h1') ∧ SubH h1 h1' := by
  unfold appV at e ⊢
  split at e
  · cases m with
    | zero =>
      injection e with e
      injection e with e1 e2
      subst e1 e2
      exact ⟨h', rfl, k⟩
    | succ m =>
      obtain ⟨h3, e⟩ := io_get e
      injection e with e
      injection e with e1 e2
      subst e1 e2
      refine ⟨_, ?_, k.new new⟩
      show io _ _ = _
      rw [h3, k.nx]
      rfl
  · cases m with
    | zero =>
      injection e with e
      injection e with e1 e2
      subst e1 e2
      exact ⟨h', rfl, k⟩
    | succ m =>
      obtain ⟨h3, e⟩ := io_get e
      obtain ⟨h1', h4, h5⟩ := grow_mono k e
      refine ⟨h1', ?_, h5⟩
      show io _ _ = _
      rw [h3]
      exact h4
  · cases e
theorem eApp_mono (sz bytes : Nat) : MonE (eApp sz bytes) := by
  intro vs h v h1 e h' k
  unfold eApp at e ⊢
  split at e
  · next s x =>
    obtain ⟨m, h2, e⟩ := ob_get e
    obtain ⟨new, h3, e⟩ := ob_get e
    obtain ⟨h1', h4, h5⟩ := appV_mono k e
    refine ⟨h1', ?_, h5⟩
    show ob (slen x) _ = _
    rw [h2]
    show ob (held sz x h') _ = _
    rw [held_mono k h3]
    exact h4
  · cases e
theorem eAppz_mono (sz bytes : Nat) (z : List V) : MonE (eAppz sz bytes z) := by
  intro vs h v h1 e h' k
  unfold eAppz at e ⊢
  split at e
  · next s m =>
    obtain ⟨h3, e⟩ := io_get e
    obtain ⟨h1', h4, h5⟩ := appV_mono k e
    refine ⟨h1', ?_, h5⟩
    show io _ _ = _
    rw [h3]
    exact h4
  · cases e
theorem eCopy_mono (sz : Nat) : MonE (eCopy sz) := by
  intro vs h v h1 e h' k
  unfold eCopy at e ⊢
  split at e
  · next d x =>
    obtain ⟨n, h2, e⟩ := ob_get e
    obtain ⟨m, h3, e⟩ := ob_get e
    obtain ⟨cs, h4, e⟩ := ob_get e
    show ∃ h1', ob (slen d) _ = _ ∧ _
    rw [h2]
    show ∃ h1', ob (slen x) _ = _ ∧ _
    rw [h3]
    show ∃ h1', ob (held sz x h') _ = _ ∧ _
    rw [held_mono k h4]
    show ∃ h1', (match Nat.min m n with
      | 0 => some (vi 0, h')
      | k => match d with
        | .sl b o _ _ _ _ => ob (h'.get b) fun ds => io (Nat.ble (o + k * sz) ds.length && (cs.take (k * sz)).all V.one) (some (vi k, h'.put b (some (splice o (cs.take (k * sz)) ds))))
        | _ => none) = _ ∧ _
    generalize Nat.min m n = q at e ⊢
    cases q with
    | zero =>
      injection e with e
      injection e with e1 e2
      subst e1 e2
      exact ⟨h', rfl, k⟩
    | succ q =>
      cases d with
      | sl b o n' c ex kk =>
        obtain ⟨ds, h5, e⟩ := ob_get (show ob (h.get b) _ = _ from e)
        obtain ⟨h6, e⟩ := io_get e
        injection e with e
        injection e with e1 e2
        subst e1 e2
        refine ⟨_, ?_, k.put b (some (splice o (cs.take ((q + 1) * sz)) ds))⟩
        show ob (h'.get b) _ = _
        rw [k.get b ds h5]
        show io _ _ = _
        rw [h6]
        rfl
      | _ => cases e
  · cases e
theorem eClear_mono (z : List V) : MonE (eClear z) := by
  intro vs h v h1 e h' k
  unfold eClear at e ⊢
  split at e
  · injection e with e
    injection e with e1 e2
    subst e1 e2
    exact ⟨h', rfl, k⟩
  · next b o n _ _ _ =>
    cases n with
    | zero =>
      injection e with e
      injection e with e1 e2
      subst e1 e2
      exact ⟨h', rfl, k⟩
    | succ n =>
      obtain ⟨ds, h5, e⟩ := ob_get e
      obtain ⟨h6, e⟩ := io_get e
      injection e with e
      injection e with e1 e2
      subst e1 e2
      refine ⟨_, ?_, k.put b (some (splice o (zeros (n + 1) z) ds))⟩
      show ob (h'.get b) _ = _
      rw [k.get b ds h5]
      show io _ _ = _
      rw [h6]
      rfl
  · cases e
def MonC (cal : Cal) : Prop := ∀ f, MonE (cal f)
theorem rF_mono {f : SF} (hf : MonF f) : MonE (rF f) := by
  intro vs h v h1 e h' k
  obtain ⟨u, h2, e⟩ := ob_get (show ob (f vs h) _ = _ from e)
  injection e with e
  injection e with e1 e2
  subst e1 e2
  refine ⟨h', ?_, k⟩
  show ob (f vs h') _ = _
  rw [hf vs h u h2 h' k]
  rfl
theorem rA_mono (f : SA) : MonE (rA f) := by
  intro vs h v h1 e h' k
  obtain ⟨x, h2, e⟩ := ob_get (show ob (f vs) _ = _ from e)
  injection e with e
  injection e with e1 e2
  subst e1 e2
  refine ⟨_, ?_, k.new x.1⟩
  show ob (f vs) _ = _
  rw [h2, ← k.nx]
  rfl
theorem rC_mono {cal : Cal} (hc : MonC cal) : MonE (rC cal) := by
  intro vs h v h1 e h' k
  unfold rC at e ⊢
  split at e
  · exact hc _ _ _ _ _ e h' k
  · cases e
theorem semK_mono {cal : Cal} (hc : MonC cal) (k : K) : MonE (semK cal k) := by
  cases k with
  | bad => intro vs h v h1 e; cases e
  | call => exact rC_mono hc
  | box e => exact rA_mono aBox
  | alloc e z => exact rA_mono (aAlloc z)
  | bsl e n z ps => exact rA_mono (aBsl n z ps)
  | mksl e bytes z => exact rA_mono (aMksl bytes z)
  | store sz => exact eStore_mono sz
  | app e sz bytes => exact eApp_mono sz bytes
  | appz e sz bytes z => exact eAppz_mono sz bytes z
  | copy sz => exact eCopy_mono sz
  | clear z => exact eClear_mono z
  | mov => exact rF_mono (semF_mono .mov)
  | pick => exact rF_mono (semF_mono .pick)
  | load sz g => exact rF_mono (sLoad_mono sz g)
  | fadr off => exact rF_mono (semF_mono (.fadr off))
  | fld off sz g => exact rF_mono (semF_mono (.fld off sz g))
  | chk => exact rF_mono (semF_mono .chk)
  | bin op c => exact rF_mono (semF_mono (.bin op c))
  | un op => exact rF_mono (semF_mono (.un op))
  | ext i => exact rF_mono (semF_mono (.ext i))
  | iadr sz => exact rF_mono (semF_mono (.iadr sz))
  | build z ps => exact rF_mono (semF_mono (.build z ps))
  | slice sz lo hi mx => exact rF_mono (semF_mono (.slice sz lo hi mx))
  | conv kk => exact rF_mono (semF_mono (.conv kk))
  | b2s => exact rF_mono sB2s_mono
  | mkif n => exact rF_mono (semF_mono (.mkif n))
  | tass n z ok => exact rF_mono (semF_mono (.tass n z ok))
  | mkfn f => exact rF_mono (semF_mono (.mkfn f))
  | len => exact rF_mono (semF_mono .len)
  | cap => exact rF_mono (semF_mono .cap)
  | mm mx => exact rF_mono (semF_mono (.mm mx))
theorem put_mono {d : D} {v : V} {t t' : T V} {l l' : List V} {h h' : H} (kt : SubT t t') (kl : SubL l l') (kh : SubH h h') : Sub (d.put v t l h) (d.put v t' l' h') := by
  cases d with
  | no => exact ⟨kt, kl, kh⟩
  | push => exact ⟨kt, by obtain ⟨r, e⟩ := kl; exact ⟨r, by show v :: l' = _; rw [e]; rfl⟩, kh⟩
  | loc p => exact ⟨kt.set _ _, kl, kh⟩
section
variable {cal : Cal} (hc : MonC cal) {t t' : T V} {l l' : List V} {h h' : H} (kt : SubT t t') (kl : SubL l l') (kh : SubH h h')
include hc kt kl kh
theorem runOp_mono {d : D} {k : K} {xs : List O} {s : S} (e : runOp cal d k xs t l h = some s) : ∃ s', runOp cal d k xs t' l' h' = some s' ∧ Sub s s' := by
  unfold runOp at e ⊢
  obtain ⟨vs, h1, e⟩ := ob_get e
  obtain ⟨r, h2, e⟩ := ob_get e
  injection e with e
  subst e
  obtain ⟨h1', h3, h4⟩ := semK_mono hc k vs h r.1 r.2 h2 h' kh
  refine ⟨_, ?_, put_mono (d := d) (v := r.1) kt kl h4⟩
  rw [evs_mono kt kl h1]
  show ob (semK cal k vs h') _ = _
  rw [h3]
  rfl
theorem evJ2_mono {j : J2} {s : S} (e : evJ2 cal j t l h = some s) : ∃ s', evJ2 cal j t' l' h' = some s' ∧ Sub s s' := by
  cases j with
  | op d k xs => exact runOp_mono hc kt kl kh (show runOp cal d k xs t l h = some s from e)
  | gd g w d k xs =>
    obtain ⟨v, h1, e⟩ := ob_get (show ob (g.ev t l) _ = _ from e)
    obtain ⟨b, h2, e⟩ := ob_get e
    show ∃ s', ob (g.ev t' l') _ = _ ∧ _
    rw [O.mono kt kl h1]
    show ∃ s', ob (goesV w v) _ = _ ∧ _
    rw [h2]
    cases b with
    | true => exact runOp_mono hc kt kl kh (show runOp cal d k xs t l h = some s from e)
    | false =>
      injection e with e
      subst e
      exact ⟨_, rfl, put_mono kt kl kh⟩
omit hc
theorem againF_mono {k : K} {xs : List O} {d : O} (e : againF k xs d t l h = true) : againF k xs d t' l' h' = true := by
  unfold againF at e ⊢
  split at e
  · next b hb =>
    obtain ⟨vs, h1, hb⟩ := ob_get hb
    obtain ⟨v, h2, hb⟩ := ob_get hb
    obtain ⟨u, h3, hb⟩ := ob_get hb
    rw [evs_mono kt kl h1]
    simp only [ob]
    rw [semF_mono k vs h v h2 h' kh]
    simp only
    rw [O.mono kt kl h3]
    simp only
    injection hb with hb
    rw [hb]
    exact e
  · cases e
theorem again1_mono {j : J2} {d : O} (e : again1 j d t l h = true) : again1 j d t' l' h' = true := by
  cases j with
  | op d' k xs => exact againF_mono kt kl kh (show againF k xs d t l h = true from e)
  | gd g w d' k xs =>
    have e : (match ob (g.ev t l) fun v => goesV w v with
      | some true => againF k xs d t l h
      | some false => true
      | none => false) = true := e
    show (match ob (g.ev t' l') fun v => goesV w v with
      | some true => againF k xs d t' l' h'
      | some false => true
      | none => false) = true
    cases h1 : g.ev t l with
    | none => rw [h1] at e; cases e
    | some v =>
      rw [h1] at e
      rw [O.mono kt kl h1]
      simp only [ob] at e ⊢
      cases h2 : goesV w v with
      | none => rw [h2] at e; cases e
      | some b =>
        rw [h2] at e
        cases b with
        | false => rfl
        | true => exact againF_mono kt kl kh e
theorem again2_mono : ∀ {rs : List (J2 × O)}, again2 rs t l h = true → again2 rs t' l' h' = true
  | [], _ => rfl
  | x :: rs, e => by
    have e : (again1 x.1 x.2 t l h && again2 rs t l h) = true := e
    rw [Bool.and_eq_true] at e
    show (again1 x.1 x.2 t' l' h' && again2 rs t' l' h') = true
    rw [again1_mono kt kl kh e.1, again2_mono e.2]
    rfl
end
theorem evJs2_mono {cal : Cal} (hc : MonC cal) : ∀ {js : List J2} {t t' : T V} {l l' : List V} {h h' : H} {s : S}, SubT t t' → SubL l l' → SubH h h' → evJs2 cal js t l h = some s → ∃ s', evJs2 cal js t' l' h' = some s' ∧ Sub s s'
  | [], t, t', l, l', h, h', s, kt, kl, kh, e => by
    injection e with e
    subst e
    exact ⟨_, rfl, kt, kl, kh⟩
  | j :: js, t, t', l, l', h, h', s, kt, kl, kh, e => by
    obtain ⟨s1, h1, e⟩ := ob_get (show ob (evJ2 cal j t l h) _ = _ from e)
    obtain ⟨s2, h2, h3⟩ := evJ2_mono hc kt kl kh h1
    obtain ⟨s3, h4, h5⟩ := evJs2_mono hc (js := js) h3.t h3.l h3.h e
    refine ⟨s3, ?_, h5⟩
    show ob (evJ2 cal j t' l' h') _ = _
    rw [h2]
    exact h4
theorem evD2_mono {cal : Cal} (hc : MonC cal) : ∀ {js : List (J2 × List (J2 × O))} {t t' : T V} {l l' : List V} {h h' : H} {s : S}, SubT t t' → SubL l l' → SubH h h' → evD2 cal js t l h = some s → ∃ s', evD2 cal js t' l' h' = some s' ∧ Sub s s'
  | [], t, t', l, l', h, h', s, kt, kl, kh, e => by
    injection e with e
    subst e
    exact ⟨_, rfl, kt, kl, kh⟩
  | x :: js, t, t', l, l', h, h', s, kt, kl, kh, e => by
    obtain ⟨s1, h1, e⟩ := ob_get (show ob (evJ2 cal x.1 t l h) _ = _ from e)
    obtain ⟨h6, e⟩ := io_get e
    obtain ⟨s2, h2, h3⟩ := evJ2_mono hc kt kl kh h1
    obtain ⟨s3, h4, h5⟩ := evD2_mono hc (js := js) h3.t h3.l h3.h e
    refine ⟨s3, ?_, h5⟩
    show ob (evJ2 cal x.1 t' l' h') (fun s => io (again2 x.2 s.ls s.stk s.h) (evD2 cal js s.ls s.stk s.h)) = _
    rw [h2]
    show io (again2 x.2 s2.ls s2.stk s2.h) (evD2 cal js s2.ls s2.stk s2.h) = _
    rw [again2_mono h3.t h3.l h3.h h6]
    exact h4
theorem evC2_mono {cal : Cal} (hc : MonC cal) : ∀ (n : Nat) {c : C2} {s s1 s' : S} {x : X}, evC2 cal n c s = some (x, s1) → Sub s s' → ∃ s1', evC2 cal n c s' = some (x, s1') ∧ Sub s1 s1'
  | 0, c, s, s1, s', x, e, k => by cases e
  | n + 1, c, s, s1, s', x, e, k => by
    have e : stepC cal (evC2 cal n) c s = some (x, s1) := e
    show ∃ s1', stepC cal (evC2 cal n) c s' = some (x, s1') ∧ _
    cases c with
    | skip => injection e with e; injection e with e1 e2; subst e1 e2; exact ⟨s', rfl, k⟩
    | ret => injection e with e; injection e with e1 e2; subst e1 e2; exact ⟨s', rfl, k⟩
    | exit id => injection e with e; injection e with e1 e2; subst e1 e2; exact ⟨s', rfl, k⟩
    | seq a b =>
      obtain ⟨⟨x1, s2⟩, h1, e⟩ := ob_get (show ob (evC2 cal n a s) _ = _ from e)
      obtain ⟨s3, h2, h3⟩ := evC2_mono hc n h1 k
      show ∃ s1', ob (evC2 cal n a s') _ = _ ∧ _
      rw [h2]
      cases x1 with
      | normal => exact evC2_mono hc n e h3
      | exit i => injection e with e; injection e with e1 e2; subst e1 e2; exact ⟨s3, rfl, h3⟩
      | ret => injection e with e; injection e with e1 e2; subst e1 e2; exact ⟨s3, rfl, h3⟩
    | cond q a b =>
      obtain ⟨v, h1, e⟩ := ob_get (show ob (q.ev s.ls s.stk) _ = _ from e)
      show ∃ s1', ob (q.ev s'.ls s'.stk) _ = _ ∧ _
      rw [O.mono k.t k.l h1]
      cases v with
      | boo c => exact evC2_mono hc n e k
      | _ => cases e
    | block id a =>
      obtain ⟨⟨x1, s2⟩, h1, e⟩ := ob_get (show ob (evC2 cal n a s) _ = _ from e)
      obtain ⟨s3, h2, h3⟩ := evC2_mono hc n h1 k
      show ∃ s1', ob (evC2 cal n a s') _ = _ ∧ _
      rw [h2]
      cases x1 with
      | normal => injection e with e; injection e with e1 e2; subst e1 e2; exact ⟨s3, rfl, h3⟩
      | ret => injection e with e; injection e with e1 e2; subst e1 e2; exact ⟨s3, rfl, h3⟩
      | exit i =>
        have e : some (bif Nat.beq i id then (X.normal, s2) else (X.exit i, s2)) = some (x, s1) := e
        show ∃ s1', some (bif Nat.beq i id then (X.normal, s3) else (X.exit i, s3)) = some (x, s1') ∧ _
        cases hb : Nat.beq i id with
        | true => rw [hb] at e; injection e with e; injection e with e1 e2; subst e1 e2; exact ⟨s3, rfl, h3⟩
        | false => rw [hb] at e; injection e with e; injection e with e1 e2; subst e1 e2; exact ⟨s3, rfl, h3⟩
    | loop a =>
      obtain ⟨⟨x1, s2⟩, h1, e⟩ := ob_get (show ob (evC2 cal n a s) _ = _ from e)
      obtain ⟨s3, h2, h3⟩ := evC2_mono hc n h1 k
      show ∃ s1', ob (evC2 cal n a s') _ = _ ∧ _
      rw [h2]
      cases x1 with
      | normal => exact evC2_mono hc n e h3
      | exit i => injection e with e; injection e with e1 e2; subst e1 e2; exact ⟨s3, rfl, h3⟩
      | ret => injection e with e; injection e with e1 e2; subst e1 e2; exact ⟨s3, rfl, h3⟩
    | reg js =>
      obtain ⟨s2, h1, e⟩ := ob_get (show ob (evJs2 cal js s.ls [] s.h) _ = _ from e)
      injection e with e
      injection e with e1 e2
      subst e1 e2
      obtain ⟨s3, h2, h3⟩ := evJs2_mono hc k.t (SubL.nil []) k.h h1
      refine ⟨s3, ?_, h3⟩
      show ob (evJs2 cal js s'.ls [] s'.h) _ = _
      rw [h2]
      rfl
    | draw js =>
      obtain ⟨s2, h1, e⟩ := ob_get (show ob (evD2 cal js s.ls [] s.h) _ = _ from e)
      injection e with e
      injection e with e1 e2
      subst e1 e2
      obtain ⟨s3, h2, h3⟩ := evD2_mono hc k.t (SubL.nil []) k.h h1
      refine ⟨s3, ?_, h3⟩
      show ob (evD2 cal js s'.ls [] s'.h) _ = _
      rw [h2]
      rfl
def rdV (r : Option (Nat × Bool)) (v : V) (h : H) : Option V := match r with
  | none => some v
  | some (sz, g) => sLoad sz g [v] h
theorem rdV_mono {r : Option (Nat × Bool)} {v u : V} {h h' : H} (k : SubH h h') (e : rdV r v h = some u) : rdV r v h' = some u := by
  cases r with
  | none => exact e
  | some q => exact sLoad_mono q.1 q.2 [v] h u e h' k
theorem res2_mono {s s' : S} (k : Sub s s') : ∀ {rs : List (O × Option (Nat × Bool))} {us : List V}, res2 s rs = some us → res2 s' rs = some us
  | [], us, e => e
  | (x, r) :: rs, us, e => by
    obtain ⟨v, h1, e⟩ := ob_get (show ob (x.ev s.ls s.stk) _ = _ from e)
    obtain ⟨u, h2, e⟩ := ob_get e
    obtain ⟨ws, h3, e⟩ := ob_get e
    show ob (x.ev s'.ls s'.stk) _ = _
    rw [O.mono k.t k.l h1]
    show ob (rdV r v s'.h) (fun u => ob (res2 s' rs) fun us => some (u :: us)) = _
    rw [rdV_mono k.h (show rdV r v s.h = some u from h2)]
    show ob (res2 s' rs) _ = _
    rw [res2_mono k h3]
    exact e
theorem evF2_mono {cal : Cal} (hc : MonC cal) (F : FR2) : MonE (evF2 cal F) := by
  intro vs h v h1 e h' k
  unfold evF2 at e ⊢
  obtain ⟨t, h2, e⟩ := ob_get e
  obtain ⟨⟨x, s⟩, h3, e⟩ := ob_get e
  obtain ⟨s', h4, h5⟩ := evC2_mono hc 5000 (s' := ⟨t, [], h'⟩) h3 ⟨SubT.refl _, SubL.nil _, k⟩
  rw [h2]
  show ∃ h1', ob (evC2 cal 5000 F.body ⟨t, [], h'⟩) _ = _ ∧ _
  rw [h4]
  cases x with
  | exit i => cases e
  | normal =>
    obtain ⟨us, h6, e⟩ := ob_get (show ob (res2 s F.res) _ = _ from e)
    injection e with e
    injection e with e1 e2
    subst e1 e2
    refine ⟨s'.h, ?_, h5.h⟩
    show ob (res2 s' F.res) _ = _
    rw [res2_mono h5 h6]
    rfl
  | ret =>
    obtain ⟨us, h6, e⟩ := ob_get (show ob (res2 s F.res) _ = _ from e)
    injection e with e
    injection e with e1 e2
    subst e1 e2
    refine ⟨s'.h, ?_, h5.h⟩
    show ob (res2 s' F.res) _ = _
    rw [res2_mono h5 h6]
    rfl
theorem evCall2_mono {nat : Nat → Option Cal} {irs : Nat → Option FR2} (hn : ∀ f g, nat f = some g → MonC g) : ∀ n, MonC (evCall2 nat irs n)
  | 0 => fun f vs h v h1 e => by cases e
  | n + 1 => fun f vs h v h1 e h' k => by
    unfold evCall2 at e ⊢
    cases hF : irs f with
    | some F =>
      rw [hF] at e
      exact evF2_mono (evCall2_mono hn n) F vs h v h1 e h' k
    | none =>
      rw [hF] at e
      obtain ⟨g, h2, e⟩ := ob_get e
      obtain ⟨h1', h3, h4⟩ := hn f g h2 f vs h v h1 e h' k
      refine ⟨h1', ?_, h4⟩
      show ob (nat f) _ = _
      rw [h2]
      exact h3
end Ev
end Go.Proofs.YtbcmcdmflblgkaaGreatDoor

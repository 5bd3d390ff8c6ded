/-
  Turbo: the fast evaluator once more, as the kernel runs it best: by continuations and by the recursors themselves.
  Trb: what the kernel's evaluator comes to, the fast one comes to.
-/
import Derived.Test.YtbcmcdmflblgkaaGreatDoorFast
namespace Go.Proofs.YtbcmcdmflblgkaaGreatDoor
namespace Ev
set_option linter.unusedVariables false
noncomputable section
abbrev KV := V → Bool
abbrev KS := T V → List V → H → Bool
def oK {α : Type} (x : Option α) : (α → Bool) → Bool := Option.rec (motive := fun _ => (α → Bool) → Bool) (fun _ => false) (fun a f => f a) x
def bK (b : Bool) : Bool → Bool := Bool.rec (motive := fun _ => Bool → Bool) (fun _ => false) (fun x => x) b
def uK (u : U) : List V → KV → Bool := U.rec (motive := fun _ => List V → KV → Bool) (fun l => List.rec (motive := fun _ => KV → Bool) (fun _ => false) (fun v _ _ k => k v) l) (fun _ ih l => List.rec (motive := fun _ => KV → Bool) (fun _ => false) (fun _ l' _ => ih l') l) u
def tLf (t : T V) : T V := T.rec (motive := fun _ => T V) .e (fun l _ _ _ _ => l) t
def tRt (t : T V) : T V := T.rec (motive := fun _ => T V) .e (fun _ _ r _ _ => r) t
def tTop (t : T V) : Option V := T.rec (motive := fun _ => Option V) none (fun _ v _ _ _ => v) t
def tK (p : Po) : T V → KV → Bool := Po.rec (motive := fun _ => T V → KV → Bool) (fun t => oK (tTop t)) (fun _ ih t => ih (tLf t)) (fun _ ih t => ih (tRt t)) p
def fetchK (x : O) : T V → List V → KV → Bool := O.rec (motive := fun _ => T V → List V → KV → Bool) (fun u _ l => uK u l) (fun p t _ => tK p t) (fun v _ _ k => k v) x
def evsK (xs : List O) : T V → List V → (List V → Bool) → Bool := List.rec (motive := fun _ => T V → List V → (List V → Bool) → Bool) (fun _ _ k => k []) (fun x _ ih t l k => fetchK x t l fun v => ih t l fun vs => k (v :: vs)) xs
def putK (d : D) : V → T V → List V → H → KS → Bool := D.rec (motive := fun _ => V → T V → List V → H → KS → Bool) (fun _ t l h k => k t l h) (fun v t l h k => k t (v :: l) h) (fun p v t l h k => k (T.set p (some v) t) l h) d
abbrev CalK := Nat → List V → H → (V → H → Bool) → Bool
def opF (f : SF) (d : D) (xs : List O) (t : T V) (l : List V) (h : H) (k : KS) : Bool := evsK xs t l fun vs => oK (f vs h) fun u => putK d u t l h k
def opA (f : SA) (d : D) (xs : List O) (t : T V) (l : List V) (h : H) (k : KS) : Bool := evsK xs t l fun vs => oK (f vs) fun x => putK d (x.2 h.nx) t l (h.new x.1) k
def opE (f : SE) (d : D) (xs : List O) (t : T V) (l : List V) (h : H) (k : KS) : Bool := evsK xs t l fun vs => oK (f vs h) fun x => putK d x.1 t l x.2 k
def opC (cal : CalK) (d : D) (xs : List O) (t : T V) (l : List V) (h : H) (k : KS) : Bool := evsK xs t l fun vs => match vs with
  | .fn id caps :: vs => cal id (vs ++ caps) h fun v h' => putK d v t l h' k
  | _ => false
abbrev OPK := D → List O → T V → List V → H → KS → Bool
def opMov : OPK := fun d xs t l h k => List.rec (motive := fun _ => Bool) false (fun x r _ => List.rec (motive := fun _ => Bool) (fetchK x t l fun v => putK d v t l h k) (fun _ _ _ => false) r) xs
def opBad : OPK := fun _ _ _ _ _ _ => false
def opK (cal : CalK) (k : K) : OPK := match k with
  | .mov => opMov
  | .pick => opF sPick | .load sz g => opF (sLoad sz g) | .fadr off => opF (sFadr off) | .fld off sz g => opF (sFld off sz g) | .chk => opF sChk | .bin op t => opF (sBin op t) | .un op => opF (sUn op)
  | .ext i => opF (sExt i) | .iadr sz => opF (sIadr sz) | .build z ps => opF (sBuild z ps) | .slice sz lo hi mx => opF (sSlice sz lo hi mx) | .conv k => opF (sConv k) | .b2s => opF sB2s | .mkif t => opF (sMkif t)
  | .tass t z ok => opF (sTass t z ok) | .mkfn f => opF (sMkfn f) | .len => opF sLen | .cap => opF sCap | .mm mx => opF (sMm mx)
  | .box _ => opA aBox | .alloc _ z => opA (aAlloc z) | .bsl _ n z ps => opA (aBsl n z ps) | .mksl _ bytes z => opA (aMksl bytes z)
  | .store sz => opE (eStore sz) | .app _ sz bytes => opE (eApp sz bytes) | .appz _ sz bytes z => opE (eAppz sz bytes z) | .copy sz => opE (eCopy sz) | .clear z => opE (eClear z)
  | .call => opC cal
  | .bad => opBad
def goK (w : Bool) (v : V) (a b : Bool) : Bool := match goesV w v with
  | some true => a
  | some false => b
  | none => false
def jK (cal : CalK) (j : J2) : T V → List V → H → KS → Bool := J2.rec (motive := fun _ => T V → List V → H → KS → Bool) (fun d k xs => opK cal k d xs) (fun g w d k xs t l h q => fetchK g t l fun v => goK w v (opK cal k d xs t l h q) (putK d (.lit undef) t l h q)) j
def jsK (cal : CalK) (js : List J2) : T V → List V → H → KS → Bool := List.rec (motive := fun _ => T V → List V → H → KS → Bool) (fun t l h k => k t l h) (fun j _ ih t l h k => jK cal j t l h fun t l h => ih t l h k) js
def dK (cal : CalK) (js : List (J2 × List (J2 × O))) : T V → List V → H → KS → Bool := List.rec (motive := fun _ => T V → List V → H → KS → Bool) (fun t l h k => k t l h) (fun x _ ih t l h k => jK cal x.1 t l h fun t l h => bK (again2 x.2 t l h) (ih t l h k)) js
/-- three ways on: normal, exit, ret -/
structure Ks where
  n : KS
  e : Nat → KS
  r : KS
abbrev EVK := C2 → T V → List V → H → Ks → Bool
def kSeq (ih : EVK) (a b : C2) (t : T V) (l : List V) (h : H) (q : Ks) : Bool := ih a t l h ⟨fun t l h => ih b t l h q, q.e, q.r⟩
def kCond (ih : EVK) (x : O) (a b : C2) (t : T V) (l : List V) (h : H) (q : Ks) : Bool := fetchK x t l fun v => match v with
  | .boo c => ih (bif c then a else b) t l h q
  | _ => false
def kBlock (ih : EVK) (id : Nat) (a : C2) (t : T V) (l : List V) (h : H) (q : Ks) : Bool := ih a t l h ⟨q.n, fun i => bif Nat.beq i id then q.n else q.e i, q.r⟩
def kLoop (ih : EVK) (a : C2) (t : T V) (l : List V) (h : H) (q : Ks) : Bool := ih a t l h ⟨fun t l h => ih (.loop a) t l h q, q.e, q.r⟩
def stepK (cal : CalK) (ih : EVK) (c : C2) : T V → List V → H → Ks → Bool := match c with
  | .skip => fun t l h q => q.n t l h
  | .ret => fun t l h q => q.r t l h
  | .exit id => fun t l h q => q.e id t l h
  | .seq a b => kSeq ih a b
  | .cond x a b => kCond ih x a b
  | .block id a => kBlock ih id a
  | .loop a => kLoop ih a
  | .reg js => fun t _ h q => jsK cal js t [] h q.n
  | .draw js => fun t _ h q => dK cal js t [] h q.n
def evCK (cal : CalK) (n : Nat) : EVK := Nat.rec (motive := fun _ => EVK) (fun _ _ _ _ _ => false) (fun _ ih => stepK cal ih) n
def finK (F : FR2) (k : V → H → Bool) (t : T V) (l : List V) (h : H) : Bool := oK (res2 ⟨t, l, h⟩ F.res) fun us => k (tupV us) h
def evFK (cal : CalK) (F : FR2) (vs : List V) (h : H) (k : V → H → Bool) : Bool := oK (argT F.ps vs .e) fun t => evCK cal 5000 F.body t [] h ⟨finK F k, fun _ _ _ _ => false, finK F k⟩
def evCallK (nat : Nat → Option Cal) (irs : Nat → Option FR2) (n : Nat) : CalK := Nat.rec (motive := fun _ => CalK) (fun _ _ _ _ => false) (fun _ ih f vs h k => Option.rec (motive := fun _ => Bool) (oK (nat f) fun g => oK (g f vs h) fun r => k r.1 r.2) (fun F => evFK ih F vs h k) (irs f)) n
end
end Ev
end Go.Proofs.YtbcmcdmflblgkaaGreatDoor

namespace Go.Proofs.YtbcmcdmflblgkaaGreatDoor
namespace Ev
set_option linter.unusedVariables false
theorem oK_ok {α : Type} {x : Option α} {f : α → Bool} (h : oK x f = true) : ∃ a, x = some a ∧ f a = true := by
  cases x with
  | none => cases h
  | some a => exact ⟨a, rfl, h⟩
theorem bK_ok {b x : Bool} (h : bK b x = true) : b = true ∧ x = true := by
  cases b with
  | false => cases h
  | true => exact ⟨rfl, h⟩
theorem uK_ok : ∀ {u : U} {l : List V} {k : KV}, uK u l k = true → ∃ v, u.get l = some v ∧ k v = true
  | .z, [], _, h => by cases h
  | .z, v :: _, _, h => ⟨v, rfl, h⟩
  | .s _, [], _, h => by cases h
  | .s u, _ :: l, k, h => uK_ok (u := u) (l := l) (k := k) h
theorem tTop_eq (t : T V) : tTop t = t.top := by cases t <;> rfl
theorem tLf_eq (t : T V) : tLf t = t.lf := by cases t <;> rfl
theorem tRt_eq (t : T V) : tRt t = t.rt := by cases t <;> rfl
theorem tK_ok : ∀ {p : Po} {t : T V} {k : KV}, tK p t k = true → ∃ v, T.get p t = some v ∧ k v = true
  | .one, t, k, h => by
    have h' : oK (tTop t) k = true := h
    rw [tTop_eq] at h'
    exact oK_ok h'
  | .d0 p, t, k, h => by
    have h' : tK p (tLf t) k = true := h
    rw [tLf_eq] at h'
    exact tK_ok (p := p) h'
  | .d1 p, t, k, h => by
    have h' : tK p (tRt t) k = true := h
    rw [tRt_eq] at h'
    exact tK_ok (p := p) h'
theorem fetchK_ok {x : O} {t : T V} {l : List V} {k : KV} (h : fetchK x t l k = true) : ∃ v, x.ev t l = some v ∧ k v = true := by
  cases x with
  | st u => exact uK_ok (u := u) h
  | lo p => exact tK_ok (p := p) h
  | co v => exact ⟨v, rfl, h⟩
theorem evsK_ok : ∀ {xs : List O} {t : T V} {l : List V} {k : List V → Bool}, evsK xs t l k = true → ∃ vs, evs xs t l = some vs ∧ k vs = true
  | [], _, _, _, h => ⟨[], rfl, h⟩
  | x :: xs, t, l, k, h => by
    obtain ⟨v, h1, h2⟩ := fetchK_ok (show fetchK x t l (fun v => evsK xs t l fun vs => k (v :: vs)) = true from h)
    obtain ⟨vs, h3, h4⟩ := evsK_ok (xs := xs) h2
    refine ⟨v :: vs, ?_, h4⟩
    show ob (x.ev t l) (fun v => ob (evs xs t l) fun vs => some (v :: vs)) = _
    rw [h1]
    show ob (evs xs t l) (fun vs => some (v :: vs)) = _
    rw [h3]
    rfl
theorem putK_eq (d : D) (v : V) (t : T V) (l : List V) (h : H) (k : KS) : putK d v t l h k = k (d.put v t l h).ls (d.put v t l h).stk (d.put v t l h).h := by cases d <;> rfl
def CalR (ck : CalK) (c : Cal) : Prop := ∀ f vs h k, ck f vs h k = true → ∃ v h', c f vs h = some (v, h') ∧ k v h' = true
theorem run_of {cal : Cal} {d : D} {k : K} {xs : List O} {t : T V} {l : List V} {h h' : H} {vs : List V} {v : V} {q : KS} (h1 : evs xs t l = some vs) (h2 : semK cal k vs h = some (v, h')) (h3 : putK d v t l h' q = true) : ∃ s, runOp cal d k xs t l h = some s ∧ q s.ls s.stk s.h = true := by
  refine ⟨d.put v t l h', ?_, (putK_eq d v t l h' q).symm.trans h3⟩
  unfold runOp
  rw [h1]
  show ob (semK cal k vs h) _ = _
  rw [h2]
  rfl
section
variable {ck : CalK} {cal : Cal} {k : K} {d : D} {xs : List O} {t : T V} {l : List V} {h : H} {q : KS}
theorem opF_ok {f : SF} (hs : semK cal k = rF f) (he : opF f d xs t l h q = true) : ∃ s, runOp cal d k xs t l h = some s ∧ q s.ls s.stk s.h = true := by
  obtain ⟨vs, h1, h2⟩ := evsK_ok he
  obtain ⟨u, h3, h4⟩ := oK_ok h2
  refine run_of h1 (v := u) (h' := h) ?_ h4
  rw [hs]
  show ob (f vs h) _ = _
  rw [h3]
  rfl
theorem opA_ok {f : SA} (hs : semK cal k = rA f) (he : opA f d xs t l h q = true) : ∃ s, runOp cal d k xs t l h = some s ∧ q s.ls s.stk s.h = true := by
  obtain ⟨vs, h1, h2⟩ := evsK_ok he
  obtain ⟨x, h3, h4⟩ := oK_ok h2
  refine run_of h1 (v := x.2 h.nx) (h' := h.new x.1) ?_ h4
  rw [hs]
  show ob (f vs) _ = _
  rw [h3]
  rfl
theorem opE_ok {f : SE} (hs : semK cal k = f) (he : opE f d xs t l h q = true) : ∃ s, runOp cal d k xs t l h = some s ∧ q s.ls s.stk s.h = true := by
  obtain ⟨vs, h1, h2⟩ := evsK_ok he
  obtain ⟨x, h3, h4⟩ := oK_ok h2
  refine run_of h1 (v := x.1) (h' := x.2) ?_ h4
  rw [hs, h3]
theorem opK_ok (hc : CalR ck cal) (he : opK ck k d xs t l h q = true) : ∃ s, runOp cal d k xs t l h = some s ∧ q s.ls s.stk s.h = true := by
  cases k with
  | bad => cases he
  | mov =>
    cases xs with
    | nil => cases he
    | cons x r =>
      cases r with
      | cons y r => cases he
      | nil =>
        obtain ⟨v, h1, h2⟩ := fetchK_ok (show fetchK x t l (fun v => putK d v t l h q) = true from he)
        refine run_of (vs := [v]) (v := v) (h' := h) ?_ rfl h2
        show ob (x.ev t l) _ = _
        rw [h1]
        rfl
  | call =>
    obtain ⟨vs, h1, h2⟩ := evsK_ok (show evsK xs t l _ = true from he)
    split at h2
    · next id caps ws =>
      obtain ⟨v, h', h3, h4⟩ := hc _ _ _ _ h2
      exact run_of h1 (v := v) (h' := h') h3 h4
    · cases h2
  | box e => exact opA_ok (f := aBox) rfl he
  | alloc e z => exact opA_ok (f := aAlloc z) rfl he
  | bsl e n z ps => exact opA_ok (f := aBsl n z ps) rfl he
  | mksl e bytes z => exact opA_ok (f := aMksl bytes z) rfl he
  | store sz => exact opE_ok (f := eStore sz) rfl he
  | app e sz bytes => exact opE_ok (f := eApp sz bytes) rfl he
  | appz e sz bytes z => exact opE_ok (f := eAppz sz bytes z) rfl he
  | copy sz => exact opE_ok (f := eCopy sz) rfl he
  | clear z => exact opE_ok (f := eClear z) rfl he
  | pick => exact opF_ok (f := sPick) rfl he
  | load sz g => exact opF_ok (f := sLoad sz g) rfl he
  | fadr off => exact opF_ok (f := sFadr off) rfl he
  | fld off sz g => exact opF_ok (f := sFld off sz g) rfl he
  | chk => exact opF_ok (f := sChk) rfl he
  | bin op c => exact opF_ok (f := sBin op c) rfl he
  | un op => exact opF_ok (f := sUn op) rfl he
  | ext i => exact opF_ok (f := sExt i) rfl he
  | iadr sz => exact opF_ok (f := sIadr sz) rfl he
  | build z ps => exact opF_ok (f := sBuild z ps) rfl he
  | slice sz lo hi mx => exact opF_ok (f := sSlice sz lo hi mx) rfl he
  | conv k => exact opF_ok (f := sConv k) rfl he
  | b2s => exact opF_ok (f := sB2s) rfl he
  | mkif n => exact opF_ok (f := sMkif n) rfl he
  | tass n z ok => exact opF_ok (f := sTass n z ok) rfl he
  | mkfn f => exact opF_ok (f := sMkfn f) rfl he
  | len => exact opF_ok (f := sLen) rfl he
  | cap => exact opF_ok (f := sCap) rfl he
  | mm mx => exact opF_ok (f := sMm mx) rfl he
theorem goK_ok {w : Bool} {v : V} {a b : Bool} (he : goK w v a b = true) : (goesV w v = some true ∧ a = true) ∨ (goesV w v = some false ∧ b = true) := by
  unfold goK at he
  split at he
  · next e => exact .inl ⟨e, he⟩
  · next e => exact .inr ⟨e, he⟩
  · cases he
theorem jK_ok (hc : CalR ck cal) {j : J2} (he : jK ck j t l h q = true) : ∃ s, evJ2 cal j t l h = some s ∧ q s.ls s.stk s.h = true := by
  cases j with
  | op d k xs => exact opK_ok hc (show opK ck k d xs t l h q = true from he)
  | gd g w d k xs =>
    obtain ⟨v, h1, h2⟩ := fetchK_ok (show fetchK g t l (fun v => goK w v (opK ck k d xs t l h q) (putK d (.lit undef) t l h q)) = true from he)
    show ∃ s, ob (g.ev t l) (fun v => ob (goesV w v) fun b => bif b then runOp cal d k xs t l h else some (d.put (.lit undef) t l h)) = some s ∧ _
    rw [h1]
    show ∃ s, ob (goesV w v) (fun b => bif b then runOp cal d k xs t l h else some (d.put (.lit undef) t l h)) = some s ∧ _
    rcases goK_ok h2 with ⟨e, h3⟩ | ⟨e, h3⟩
    · rw [e]
      exact opK_ok hc h3
    · rw [e]
      exact ⟨_, rfl, (putK_eq d _ t l h q).symm.trans h3⟩
end
theorem jsK_ok {ck : CalK} {cal : Cal} (hc : CalR ck cal) : ∀ {js : List J2} {t : T V} {l : List V} {h : H} {q : KS}, jsK ck js t l h q = true → ∃ s, evJs2 cal js t l h = some s ∧ q s.ls s.stk s.h = true
  | [], t, l, h, q, he => ⟨_, rfl, he⟩
  | j :: js, t, l, h, q, he => by
    obtain ⟨s, h1, h2⟩ := jK_ok hc (show jK ck j t l h (fun t l h => jsK ck js t l h q) = true from he)
    obtain ⟨s', h3, h4⟩ := jsK_ok hc (js := js) h2
    refine ⟨s', ?_, h4⟩
    show ob (evJ2 cal j t l h) _ = _
    rw [h1]
    exact h3
theorem dK_ok {ck : CalK} {cal : Cal} (hc : CalR ck cal) : ∀ {js : List (J2 × List (J2 × O))} {t : T V} {l : List V} {h : H} {q : KS}, dK ck js t l h q = true → ∃ s, evD2 cal js t l h = some s ∧ q s.ls s.stk s.h = true
  | [], t, l, h, q, he => ⟨_, rfl, he⟩
  | x :: js, t, l, h, q, he => by
    obtain ⟨s, h1, h2⟩ := jK_ok hc (show jK ck x.1 t l h (fun t l h => bK (again2 x.2 t l h) (dK ck js t l h q)) = true from he)
    obtain ⟨h5, h2⟩ := bK_ok h2
    obtain ⟨s', h3, h4⟩ := dK_ok hc (js := js) h2
    refine ⟨s', ?_, h4⟩
    show ob (evJ2 cal x.1 t l h) (fun s => io (again2 x.2 s.ls s.stk s.h) (evD2 cal js s.ls s.stk s.h)) = _
    rw [h1]
    show io (again2 x.2 s.ls s.stk s.h) (evD2 cal js s.ls s.stk s.h) = _
    rw [h5]
    exact h3
def Ks.at_ (q : Ks) : X → KS
  | .normal => q.n
  | .exit i => q.e i
  | .ret => q.r
theorem evCK_ok {ck : CalK} {cal : Cal} (hc : CalR ck cal) : ∀ (n : Nat) {c : C2} {t : T V} {l : List V} {h : H} {q : Ks}, evCK ck n c t l h q = true → ∃ x s, evC2 cal n c ⟨t, l, h⟩ = some (x, s) ∧ q.at_ x s.ls s.stk s.h = true
  | 0, c, t, l, h, q, he => by cases he
  | n + 1, c, t, l, h, q, he => by
    have he : stepK ck (evCK ck n) c t l h q = true := he
    show ∃ x s, stepC cal (evC2 cal n) c ⟨t, l, h⟩ = some (x, s) ∧ _
    cases c with
    | skip => exact ⟨.normal, _, rfl, he⟩
    | ret => exact ⟨.ret, _, rfl, he⟩
    | exit id => exact ⟨.exit id, _, rfl, he⟩
    | seq a b =>
      obtain ⟨x, s, h1, h2⟩ := evCK_ok hc n (show evCK ck n a t l h ⟨fun t l h => evCK ck n b t l h q, q.e, q.r⟩ = true from he)
      show ∃ x s, ob (evC2 cal n a ⟨t, l, h⟩) _ = some (x, s) ∧ _
      rw [h1]
      cases x with
      | normal => exact evCK_ok hc n h2
      | exit i => exact ⟨.exit i, s, rfl, h2⟩
      | ret => exact ⟨.ret, s, rfl, h2⟩
    | cond x a b =>
      obtain ⟨v, h1, h2⟩ := fetchK_ok (show fetchK x t l _ = true from he)
      show ∃ x' s, ob (x.ev t l) _ = some (x', s) ∧ _
      rw [h1]
      cases v with
      | boo c => exact evCK_ok hc n h2
      | _ => cases h2
    | block id a =>
      obtain ⟨x, s, h1, h2⟩ := evCK_ok hc n (show evCK ck n a t l h ⟨q.n, fun i => bif Nat.beq i id then q.n else q.e i, q.r⟩ = true from he)
      show ∃ x s, ob (evC2 cal n a ⟨t, l, h⟩) _ = some (x, s) ∧ _
      rw [h1]
      cases x with
      | normal => exact ⟨.normal, s, rfl, h2⟩
      | ret => exact ⟨.ret, s, rfl, h2⟩
      | exit i =>
        have h2 : (bif Nat.beq i id then q.n else q.e i) s.ls s.stk s.h = true := h2
        show ∃ x s', some (bif Nat.beq i id then (X.normal, s) else (X.exit i, s)) = some (x, s') ∧ _
        cases e : Nat.beq i id with
        | true => rw [e] at h2; exact ⟨.normal, s, rfl, h2⟩
        | false => rw [e] at h2; exact ⟨.exit i, s, rfl, h2⟩
    | loop a =>
      obtain ⟨x, s, h1, h2⟩ := evCK_ok hc n (show evCK ck n a t l h ⟨fun t l h => evCK ck n (.loop a) t l h q, q.e, q.r⟩ = true from he)
      show ∃ x s, ob (evC2 cal n a ⟨t, l, h⟩) _ = some (x, s) ∧ _
      rw [h1]
      cases x with
      | normal => exact evCK_ok hc n h2
      | exit i => exact ⟨.exit i, s, rfl, h2⟩
      | ret => exact ⟨.ret, s, rfl, h2⟩
    | reg js =>
      obtain ⟨s, h1, h2⟩ := jsK_ok hc (show jsK ck js t [] h q.n = true from he)
      refine ⟨.normal, s, ?_, h2⟩
      show ob (evJs2 cal js t [] h) _ = _
      rw [h1]
      rfl
    | draw js =>
      obtain ⟨s, h1, h2⟩ := dK_ok hc (show dK ck js t [] h q.n = true from he)
      refine ⟨.normal, s, ?_, h2⟩
      show ob (evD2 cal js t [] h) _ = _
      rw [h1]
      rfl
theorem finK_ok {F : FR2} {k : V → H → Bool} {s : S} (he : finK F k s.ls s.stk s.h = true) : ∃ us, res2 s F.res = some us ∧ k (tupV us) s.h = true := oK_ok (show oK (res2 ⟨s.ls, s.stk, s.h⟩ F.res) (fun us => k (tupV us) s.h) = true from he)
theorem evFK_ok {ck : CalK} {cal : Cal} (hc : CalR ck cal) {F : FR2} {vs : List V} {h : H} {k : V → H → Bool} (he : evFK ck F vs h k = true) : ∃ v h', evF2 cal F vs h = some (v, h') ∧ k v h' = true := by
  obtain ⟨t, h1, h2⟩ := oK_ok (show oK (argT F.ps vs .e) _ = true from he)
  obtain ⟨x, s, h3, h4⟩ := evCK_ok hc 5000 h2
  unfold evF2
  rw [h1]
  show ∃ v h', ob (evC2 cal 5000 F.body ⟨t, [], h⟩) _ = _ ∧ _
  rw [h3]
  cases x with
  | exit i => cases h4
  | normal =>
    obtain ⟨us, h5, h6⟩ := finK_ok h4
    refine ⟨_, _, ?_, h6⟩
    show ob (res2 s F.res) _ = _
    rw [h5]
    rfl
  | ret =>
    obtain ⟨us, h5, h6⟩ := finK_ok h4
    refine ⟨_, _, ?_, h6⟩
    show ob (res2 s F.res) _ = _
    rw [h5]
    rfl
theorem evCallK_ok {nat : Nat → Option Cal} {irs : Nat → Option FR2} : ∀ n, CalR (evCallK nat irs n) (evCall2 nat irs n)
  | 0 => fun f vs h k he => by cases he
  | n + 1 => fun f vs h k he => by
    have he : Option.rec (motive := fun _ => Bool) (oK (nat f) fun g => oK (g f vs h) fun r => k r.1 r.2) (fun F => evFK (evCallK nat irs n) F vs h k) (irs f) = true := he
    unfold evCall2
    cases hF : irs f with
    | some F =>
      rw [hF] at he
      exact evFK_ok (evCallK_ok n) he
    | none =>
      rw [hF] at he
      obtain ⟨g, h1, h2⟩ := oK_ok he
      obtain ⟨r, h3, h4⟩ := oK_ok h2
      refine ⟨r.1, r.2, ?_, h4⟩
      rw [h1]
      exact h3
end Ev
end Go.Proofs.YtbcmcdmflblgkaaGreatDoor

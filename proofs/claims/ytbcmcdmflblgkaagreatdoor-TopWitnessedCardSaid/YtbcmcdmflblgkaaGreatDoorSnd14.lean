/-
  Snd10: what the fast evaluator reckons of a region is what the rules over slots reckon.
  Snd11: regions that draw: what the fast evaluator reckons is a run of the order at hand; the plan's conditions by computation.
  Snd12: the plan's conditions, from what is computed.
  Snd13: code, whole.
  Snd14: a function, and the calls.
-/
import Derived.Test.YtbcmcdmflblgkaaGreatDoorSnd9
import Derived.Test.YtbcmcdmflblgkaaGreatDoorCmp
import Derived.LoopN
import Derived.Calls
namespace Go.Proofs.YtbcmcdmflblgkaaGreatDoor
namespace Ev
open Go.RowKit
set_option linter.unusedVariables false
set_option linter.unusedSectionVars false
variable [bs : Base]
/-- the value at a place -/
def refV (hgt : Nat) (ls : T V) (stk : List V) : Ref → Option V
  | .pos i => if i < hgt then stk[hgt - 1 - i]? else none
  | .loc p => some ((T.get p ls).getD (.lit undef))
  | .con v => some v
/-- the places hold what the slots hold -/
def Cov (lay : Lay) (hgt : Nat) (ls : T V) (stk : List V) (tm : TM) : Prop := ∀ q ∈ lay, ∃ v, refV hgt ls stk q.2 = some v ∧ tm q.1 = some v
theorem uOf_get : ∀ (n : Nat) (l : List V), U.get (uOf n) l = l[n]?
  | 0, [] => rfl
  | 0, _ :: _ => rfl
  | n + 1, [] => rfl
  | n + 1, _ :: l => by
    show U.get (uOf n) l = _
    rw [uOf_get n l]
    rfl
theorem bif_some {α : Type} {b : Bool} {x : α} {y : Option α} : (bif b then x else x) = x := by cases b <;> rfl
theorem refO_ev {hgt : Nat} {ls : T V} {stk : List V} {r : Ref} {o : O} {v w : V} (ho : refO hgt r = some o) (hv : o.ev ls stk = some v) (hw : refV hgt ls stk r = some w) : v = w := by
  cases r with
  | pos i =>
    obtain ⟨hb, ho⟩ := io_some ho
    injection ho with ho
    subst ho
    have h1 : U.get (uOf (hgt - 1 - i)) stk = some v := hv
    rw [uOf_get] at h1
    unfold refV at hw
    simp only at hw
    rw [if_pos (by have := Nat.le_of_ble_eq_true hb; omega), h1] at hw
    injection hw
  | loc p =>
    injection ho with ho
    subst ho
    have h1 : T.get p ls = some v := hv
    unfold refV at hw
    simp only [h1] at hw
    injection hw
  | con c =>
    injection ho with ho
    subst ho
    injection hv with hv
    injection hw with hw
    exact hv.symm.trans hw
theorem look_mem : ∀ {lay : Lay} {t : Nat} {r : Ref}, look lay t = some r → (t, r) ∈ lay
  | [], _, _, h => by cases h
  | (s, r') :: l, t, r, h => by
    unfold look at h
    cases hb : Nat.beq s t with
    | true =>
      rw [hb] at h
      injection h with h
      subst h
      rw [Nat.eq_of_beq_eq_true hb]
      simp
    | false =>
      rw [hb] at h
      exact List.mem_cons_of_mem _ (look_mem h)
theorem opO_ev {lay : Lay} {hgt : Nat} {ls : T V} {stk : List V} {tm : TM} (hc : Cov lay hgt ls stk tm) {x : Operand} {o : O} {v : V} (ho : opO lay hgt x = some o) (hv : o.ev ls stk = some v) : tmO tm x = some v := by
  obtain ⟨r, hr, ho'⟩ := ob_some ho
  cases x with
  | tmp t =>
    obtain ⟨w, hw, ht⟩ := hc (t, r) (look_mem hr)
    rw [refO_ev ho' hv hw]
    exact ht
  | const c =>
    injection hr with hr
    subst hr
    injection ho' with ho'
    subst ho'
    exact hv
  | func f =>
    injection hr with hr
    subst hr
    injection ho' with ho'
    subst ho'
    exact hv
  | global g => cases hr
theorem opOs_ev {lay : Lay} {hgt : Nat} {ls : T V} {stk : List V} {tm : TM} (hc : Cov lay hgt ls stk tm) : ∀ {xs : List Operand} {os : List O} {vs : List V}, opOs lay hgt xs = some os → evs os ls stk = some vs → tmOs tm xs = some vs
  | [], os, vs, ho, hv => by
    injection ho with ho
    subst ho
    injection hv with hv
    subst hv
    rfl
  | x :: xs, os, vs, ho, hv => by
    obtain ⟨y, hy, ho⟩ := ob_some ho
    obtain ⟨ys, hys, ho⟩ := ob_some ho
    injection ho with ho
    subst ho
    obtain ⟨v, h1, hv⟩ := ob_some hv
    obtain ⟨us, h2, hv⟩ := ob_some hv
    injection hv with hv
    subst hv
    show ob (tmO tm x) _ = _
    rw [opO_ev hc hy h1]
    show ob (tmOs tm xs) _ = _
    rw [opOs_ev hc hys h2]
    rfl
/-- what the guard says -/
theorem guardO_none {ops : Array Oper} {lay : Lay} {hgt : Nat} {o : Oper} {tm : TM} (hg : guardO ops lay hgt o = some none) : gTm ops tm o.guard = some true := by
  unfold guardO at hg
  cases h : o.guard with
  | none => rfl
  | some p =>
    rw [h] at hg
    obtain ⟨j, w⟩ := p
    simp only at hg
    split at hg
    · obtain ⟨x, _, hg⟩ := ob_some hg
      cases hg
    · cases hg
theorem guardO_some {ops : Array Oper} {lay : Lay} {hgt : Nat} {ls : T V} {stk : List V} {o : Oper} {tm : TM} (hc : Cov lay hgt ls stk tm) {x : O} {w b : Bool} {v : V} (hg : guardO ops lay hgt o = some (some (x, w))) (hv : x.ev ls stk = some v) (hb : goesV w v = some b) : gTm ops tm o.guard = some b := by
  unfold guardO at hg
  unfold gTm
  cases h : o.guard with
  | none =>
    rw [h] at hg
    cases hg
  | some p =>
    rw [h] at hg
    obtain ⟨j, w'⟩ := p
    simp only at hg ⊢
    split at hg
    · next t ht =>
      obtain ⟨y, hy, hg⟩ := ob_some hg
      injection hg with hg
      injection hg with hg
      injection hg with e1 e2
      subst e1 e2
      rw [ht]
      simp only
      have h1 : tm t = some v := opO_ev hc hy hv
      rw [h1]
      exact hb
    · cases hg
theorem Cov.sub {lay lay' : Lay} {hgt : Nat} {ls : T V} {stk : List V} {tm : TM} (hc : Cov lay hgt ls stk tm) (h : ∀ q ∈ lay', q ∈ lay) : Cov lay' hgt ls stk tm := fun q hq => hc q (h q hq)
theorem notT_ne {t : Nat} {q : Nat × Ref} (h : notT t q = true) : q.1 ≠ t := by
  intro e
  unfold notT at h
  rw [e] at h
  simp at h
theorem notP_ne {p : Po} {q : Nat × Ref} (h : notP p q = true) : q.2 ≠ .loc p := by
  intro e
  unfold notP at h
  rw [e] at h
  simp only [Bool.not_eq_true', (Po.eq_iff p p).2 rfl] at h
  cases h
theorem tset_ne {tm : TM} {t s : Nat} {v : V} (h : s ≠ t) : tset tm (some t) v s = tm s := by
  show (if s = t then some v else tm s) = tm s
  rw [if_neg h]
theorem tset_eq {tm : TM} {t : Nat} {v : V} : tset tm (some t) v t = some v := by
  show (if t = t then some v else tm t) = some v
  rw [if_pos rfl]
/-- the slot is where its source is -/
theorem Cov.alias {lay : Lay} {hgt : Nat} {ls : T V} {stk : List V} {tm : TM} {t : Nat} {r : Ref} {v : V} (hc : Cov lay hgt ls stk tm) (hr : refV hgt ls stk r = some v) : Cov ((t, r) :: lay.filter (notT t)) hgt ls stk (tset tm (some t) v) := by
  intro q hq
  rcases List.mem_cons.1 hq with e | hq
  · subst e
    exact ⟨v, hr, tset_eq⟩
  · obtain ⟨h1, h2⟩ := List.mem_filter.1 hq
    obtain ⟨u, h3, h4⟩ := hc q h1
    exact ⟨u, h3, by rw [tset_ne (notT_ne h2)]; exact h4⟩
theorem refV_push {hgt : Nat} {ls : T V} {stk : List V} {v u : V} {r : Ref} (h : refV hgt ls stk r = some u) : refV (hgt + 1) ls (v :: stk) r = some u := by
  cases r with
  | pos i =>
    unfold refV at h ⊢
    simp only at h ⊢
    split at h
    · next hi =>
      rw [if_pos (by omega)]
      have e : hgt + 1 - 1 - i = (hgt - 1 - i) + 1 := by omega
      rw [e]
      exact h
    · cases h
  | loc p => exact h
  | con c => exact h
theorem Cov.push {lay : Lay} {hgt : Nat} {ls : T V} {stk : List V} {tm : TM} {t : Nat} {v : V} (hc : Cov lay hgt ls stk tm) : Cov ((t, .pos hgt) :: lay.filter (notT t)) (hgt + 1) ls (v :: stk) (tset tm (some t) v) := by
  intro q hq
  rcases List.mem_cons.1 hq with e | hq
  · subst e
    refine ⟨v, ?_, tset_eq⟩
    unfold refV
    simp only
    rw [if_pos (by omega)]
    have e : hgt + 1 - 1 - hgt = 0 := by omega
    rw [e]
    rfl
  · obtain ⟨h1, h2⟩ := List.mem_filter.1 hq
    obtain ⟨u, h3, h4⟩ := hc q h1
    exact ⟨u, refV_push h3, by rw [tset_ne (notT_ne h2)]; exact h4⟩
theorem Cov.loc {lay : Lay} {hgt : Nat} {ls : T V} {stk : List V} {tm : TM} {t : Nat} {v : V} {p : Po} (hc : Cov lay hgt ls stk tm) : Cov ((t, .loc p) :: (lay.filter (notT t)).filter (notP p)) hgt (T.set p (some v) ls) stk (tset tm (some t) v) := by
  intro q hq
  rcases List.mem_cons.1 hq with e | hq
  · subst e
    refine ⟨v, ?_, tset_eq⟩
    unfold refV
    simp only
    rw [T.get_set, if_pos rfl]
    rfl
  · obtain ⟨hq, h0⟩ := List.mem_filter.1 hq
    obtain ⟨h1, h2⟩ := List.mem_filter.1 hq
    obtain ⟨u, h3, h4⟩ := hc q h1
    refine ⟨u, ?_, by rw [tset_ne (notT_ne h2)]; exact h4⟩
    have h5 := notP_ne h0
    cases hr : q.2 with
    | pos i => rw [hr] at h3; exact h3
    | con c => rw [hr] at h3; exact h3
    | loc p' =>
      rw [hr] at h3 h5
      unfold refV at h3 ⊢
      simp only at h3 ⊢
      rw [T.get_set, if_neg (fun e => h5 (by rw [e]))]
      exact h3
/-- a value put where the hint says -/
theorem specOp_of {P : Program} {cal : Cal} {n : Nat} {ops : Array Oper} {o : Oper} {tm : TM} {h : H} {k : K} {xs : List Operand} {vs : List V} {r : V × H} (hn : inRange n o.dst = true) (hg : gTm ops tm o.guard = some true) (ho : opOf P o = some (k, xs)) (hv : tmOs tm xs = some vs) (hk : semK cal k vs h = some r) : specOp P cal n ops o tm h = some (tset tm o.dst r.1, r.2) := by
  unfold specOp
  rw [hn]
  show ob (gTm ops tm o.guard) _ = _
  rw [hg]
  show ob (valsOf P tm o) _ = _
  unfold valsOf
  rw [ho]
  show ob (ob (tmOs tm xs) _) _ = _
  rw [hv]
  show ob (semK cal k vs h) _ = _
  rw [hk]
  rfl
theorem specOp_off {P : Program} {cal : Cal} {n : Nat} {ops : Array Oper} {o : Oper} {tm : TM} {h : H} (hn : inRange n o.dst = true) (hg : gTm ops tm o.guard = some false) : specOp P cal n ops o tm h = some (tset tm o.dst (.lit undef), h) := by
  unfold specOp
  rw [hn]
  show ob (gTm ops tm o.guard) _ = _
  rw [hg]
  rfl
/-- one operation as it is laid down: what its value is, and where it goes -/
theorem mkJ_ev {P : Program} {cal : Cal} {n : Nat} {ops : Array Oper} {o : Oper} {lay : Lay} {hgt : Nat} {ls : T V} {stk : List V} {tm : TM} {h : H} {s' : S} {g : Option (O × Bool)} {d : D} {k : K} {xs : List Operand} {os : List O}
    (hn : inRange n o.dst = true) (hc : Cov lay hgt ls stk tm) (ho : opOf P o = some (k, xs)) (hos : opOs lay hgt xs = some os) (hg : guardO ops lay hgt o = some g) (he : evJ2 cal (mkJ g d k os) ls stk h = some s') :
    ∃ v, specOp P cal n ops o tm h = some (tset tm o.dst v, s'.h) ∧ s' = d.put v ls stk s'.h := by
  cases g with
  | none =>
    obtain ⟨vs, h1, he⟩ := ob_some he
    obtain ⟨r, h2, he⟩ := ob_some he
    injection he with he
    have e : s'.h = r.2 := by rw [← he]; cases d <;> rfl
    refine ⟨r.1, ?_, ?_⟩
    · rw [e]
      exact specOp_of hn (guardO_none hg) ho (opOs_ev hc hos h1) h2
    · rw [e, he]
  | some x =>
    obtain ⟨x, w⟩ := x
    obtain ⟨v, h0, he⟩ := ob_some he
    obtain ⟨b, hb, he⟩ := ob_some he
    have hG := guardO_some hc hg h0 hb
    cases b with
    | true =>
      obtain ⟨vs, h1, he⟩ := ob_some he
      obtain ⟨r, h2, he⟩ := ob_some he
      injection he with he
      have e : s'.h = r.2 := by rw [← he]; cases d <;> rfl
      refine ⟨r.1, ?_, ?_⟩
      · rw [e]
        exact specOp_of hn hG ho (opOs_ev hc hos h1) h2
      · rw [e, he]
    | false =>
      injection he with he
      have e : s'.h = h := by rw [← he]; cases d <;> rfl
      refine ⟨.lit undef, ?_, ?_⟩
      · rw [e]
        exact specOp_off hn hG
      · rw [e, he]
theorem dstOk_in {n : Nat} {d : Option Nat} (h : dstOk n d = true) : inRange n d = true := by cases d <;> exact h
theorem refOf_known {lay : Lay} {hgt : Nat} {ls : T V} {stk : List V} {tm : TM} (hc : Cov lay hgt ls stk tm) {x : Operand} {r : Ref} (hr : refOf lay x = some r) : ∃ v, refV hgt ls stk r = some v ∧ tmO tm x = some v := by
  cases x with
  | tmp t => exact hc (t, r) (look_mem hr)
  | const c => injection hr with hr; subst hr; exact ⟨_, rfl, rfl⟩
  | func f => injection hr with hr; subst hr; exact ⟨_, rfl, rfl⟩
  | global g => cases hr
/-- an operation that may be no code at all -/
def evJo (cal : Cal) (oj : Option J2) (ls : T V) (stk : List V) (h : H) : Option S := match oj with
  | some j => evJ2 cal j ls stk h
  | none => some ⟨ls, stk, h⟩
/-- one operation -/
theorem compOp_sound {P : Program} {cal : Cal} {n : Nat} {ops : Array Oper} {o : Oper} {hint : Nat} {lay lay' : Lay} {hgt hgt' : Nat} {oj : Option J2} {ls : T V} {stk : List V} {tm : TM} {h : H} {s' : S}
    (hco : compOp P n ops lay hgt o hint = some (oj, lay', hgt')) (hc : Cov lay hgt ls stk tm) (he : evJo cal oj ls stk h = some s') :
    ∃ tm', specOp P cal n ops o tm h = some (tm', s'.h) ∧ Cov lay' hgt' s'.ls s'.stk tm' := by
  unfold compOp at hco
  obtain ⟨hd, hco⟩ := io_some hco
  have hn := dstOk_in hd
  cases hbad : isBad P o with
  | true =>
    rw [hbad] at hco
    injection hco with hco
    injection hco with e1 e2
    subst e1
    have he' : (none : Option S) = some s' := he
    cases he'
  | false =>
    rw [hbad] at hco
    simp only [cond_false] at hco
    match hint, hco with
    | 0, hco =>
      simp only at hco
      split at hco
      · next x t ho hdst hgd =>
        obtain ⟨r, hr, hco⟩ := ob_some hco
        injection hco with hco
        injection hco with e1 e2
        injection e2 with e2 e3
        subst e1 e2 e3
        injection he with he
        subst he
        obtain ⟨v, h1, h2⟩ := refOf_known hc hr
        refine ⟨tset tm (some t) v, ?_, hc.alias h1⟩
        have h3 := specOp_of (cal := cal) (n := n) (ops := ops) (tm := tm) (h := h) (vs := [v]) (r := (v, h)) hn (by rw [hgd]; rfl) ho (by show ob (tmO tm x) _ = _; rw [h2]; rfl) rfl
        rw [hdst] at h3
        exact h3
      · cases hco
    | 1, hco =>
      simp only at hco
      obtain ⟨⟨k, xs⟩, ho, hco⟩ := ob_some hco
      obtain ⟨os, hos, hco⟩ := ob_some hco
      obtain ⟨g, hg, hco⟩ := ob_some hco
      cases hdst : o.dst with
      | none =>
        rw [hdst] at hco
        injection hco with hco
        injection hco with e1 e2
        injection e2 with e2 e3
        subst e1 e2 e3
        obtain ⟨v, h1, h2⟩ := mkJ_ev (n := n) hn hc ho hos hg he
        rw [hdst] at h1
        refine ⟨_, h1, ?_⟩
        rw [h2]
        exact hc
      | some t =>
        rw [hdst] at hco
        injection hco with hco
        injection hco with e1 e2
        injection e2 with e2 e3
        subst e1 e2 e3
        obtain ⟨v, h1, h2⟩ := mkJ_ev (n := n) hn hc ho hos hg he
        rw [hdst] at h1
        refine ⟨_, h1, ?_⟩
        rw [h2]
        exact hc.push
    | p + 2, hco =>
      simp only at hco
      obtain ⟨⟨k, xs⟩, ho, hco⟩ := ob_some hco
      obtain ⟨os, hos, hco⟩ := ob_some hco
      obtain ⟨g, hg, hco⟩ := ob_some hco
      cases hdst : o.dst with
      | none =>
        rw [hdst] at hco
        cases hco
      | some t =>
        rw [hdst] at hco
        injection hco with hco
        injection hco with e1 e2
        injection e2 with e2 e3
        subst e1 e2 e3
        obtain ⟨v, h1, h2⟩ := mkJ_ev (n := n) hn hc ho hos hg he
        rw [hdst] at h1
        refine ⟨_, h1, ?_⟩
        rw [h2]
        exact hc.loc
theorem compReg_sound {P : Program} {cal : Cal} {n : Nat} {ops : Array Oper} : ∀ (l : List Oper) {hs : List Nat} {lay lay' : Lay} {hgt hgt' : Nat} {js : List J2} {ls : T V} {stk : List V} {tm : TM} {h : H} {s' : S}
    (hco : compReg P n ops l hs lay hgt = some (js, lay', hgt')) (hc : Cov lay hgt ls stk tm) (he : evJs2 cal js ls stk h = some s'),
    ∃ tm', specs P cal n ops l tm h = some (tm', s'.h) ∧ Cov lay' hgt' s'.ls s'.stk tm'
  | [], hs, lay, lay', hgt, hgt', js, ls, stk, tm, h, s', hco, hc, he => by
    injection hco with hco
    injection hco with e1 e2
    injection e2 with e2 e3
    subst e1 e2 e3
    injection he with he
    subst he
    exact ⟨tm, rfl, hc⟩
  | o :: os, hs, lay, lay', hgt, hgt', js, ls, stk, tm, h, s', hco, hc, he => by
    obtain ⟨⟨oj, lay1, hgt1⟩, h1, hco⟩ := ob_some hco
    obtain ⟨⟨js1, lay2, hgt2⟩, h2, hco⟩ := ob_some hco
    injection hco with hco
    injection hco with e1 e2
    injection e2 with e2 e3
    simp only at e1 e2 e3 h2
    subst e2 e3
    have : ∃ s1, evJo cal oj ls stk h = some s1 ∧ evJs2 cal js1 s1.ls s1.stk s1.h = some s' := by
      cases oj with
      | none =>
        simp only at e1
        subst e1
        exact ⟨⟨ls, stk, h⟩, rfl, he⟩
      | some j =>
        simp only at e1
        subst e1
        obtain ⟨s1, h3, h4⟩ := ob_some he
        exact ⟨s1, h3, h4⟩
    obtain ⟨s1, h3, h4⟩ := this
    obtain ⟨tm1, h5, h6⟩ := compOp_sound (cal := cal) (h := h) h1 hc h3
    obtain ⟨tm2, h7, h8⟩ := compReg_sound os h2 h6 h4
    refine ⟨tm2, ?_, h8⟩
    show ob (specOp P cal n ops o tm h) _ = _
    rw [h5]
    exact h7
end Ev
end Go.Proofs.YtbcmcdmflblgkaaGreatDoor

namespace Go.Proofs.YtbcmcdmflblgkaaGreatDoor
namespace Ev
open Go.RowKit
set_option linter.unusedVariables false
set_option linter.unusedSectionVars false
variable [bs : Base]
theorem and2 {a b : Bool} (h : (a && b) = true) : a = true ∧ b = true := by simpa using h
theorem same_eq {a b : V} (h : same a b = true) : a = b := by
  unfold same at h
  split at h
  · obtain ⟨h1, h2⟩ := and2 h
    rw [kindEq_iff h1, Nat.eq_of_beq_eq_true h2]
  · obtain ⟨h1, h2⟩ := and2 h
    rw [kindEq_iff h1, Nat.eq_of_beq_eq_true h2]
  · rw [eq_of_beq h]
  · rfl
  · rfl
  · rfl
  · rw [beqs_iff.1 h]
  · obtain ⟨h1, h2⟩ := and2 h
    rw [(Po.eq_iff _ _).1 h1, Nat.eq_of_beq_eq_true h2]
  · obtain ⟨h, h6⟩ := and2 h
    obtain ⟨h, h5⟩ := and2 h
    obtain ⟨h, h4⟩ := and2 h
    obtain ⟨h, h3⟩ := and2 h
    obtain ⟨h1, h2⟩ := and2 h
    rw [(Po.eq_iff _ _).1 h1, Nat.eq_of_beq_eq_true h2, Nat.eq_of_beq_eq_true h3, Nat.eq_of_beq_eq_true h4, eq_of_beq h5, Nat.eq_of_beq_eq_true h6]
  · cases h
theorem sames_eq : ∀ {a b : List V}, sames a b = true → a = b
  | [], [], _ => rfl
  | x :: xs, y :: ys, h => by
    obtain ⟨h1, h2⟩ := and2 h
    rw [same_eq h1, sames_eq h2]
  | [], _ :: _, h => by cases h
  | _ :: _, [], h => by cases h
theorem sameV_eq {a b : V} (h : sameV a b = true) : a = b := by
  unfold sameV at h
  split at h
  · rw [sames_eq h]
  · exact same_eq h
theorem reads_eq {k : K} : readsHeap k = k.reads := by cases k <;> rfl
section
variable {P : Program} {cal : Cal} {n : Nat} {ops : Array Oper} {M : List Nat}
/-- what is read again reads so still -/
theorem againF_ok {k : K} {os : List O} {d : O} {ls : T V} {stk : List V} {h : H} {vs : List V} {u : V} (ha : againF k os d ls stk h = true) (hv : ∀ vs', evs os ls stk = some vs' → vs' = vs) (hu : ∀ u', d.ev ls stk = some u' → u' = u) : semF k vs h = some u := by
  unfold againF at ha
  split at ha
  · next b hb =>
    obtain ⟨vs', h1, hb⟩ := ob_some hb
    obtain ⟨v, h2, hb⟩ := ob_some hb
    obtain ⟨u', h3, hb⟩ := ob_some hb
    injection hb with hb
    rw [ha] at hb
    rw [hv vs' h1] at h2
    rw [h2, ← sameV_eq hb, hu u' h3]
  · cases ha
theorem again1_ok {ro : Oper} {lay : Lay} {hgt : Nat} {ls : T V} {stk : List V} {tm : TM} {h : H} {k : K} {xs : List Operand} {os : List O} {g : Option (O × Bool)} {d : O} {t : Nat} (hc : Cov lay hgt ls stk tm) (ho : opOf P ro = some (k, xs)) (hos : opOs lay hgt xs = some os) (hg : guardO ops lay hgt ro = some g) (ht : ro.dst = some t) (hd : opO lay hgt (.tmp t) = some d) (ha : again1 (mkJ g .no k os) d ls stk h = true)
    (hG : gTm ops tm ro.guard = some true) {vs : List V} (hvs : valsOf P tm ro = some (k, vs)) : ∃ v, semF k vs h = some v ∧ tm t = some v := by
  have hu : ∃ u, tm t = some u ∧ ∀ u', d.ev ls stk = some u' → u' = u := by
    obtain ⟨r, hr, hd'⟩ := ob_some hd
    obtain ⟨u, h1, h2⟩ := hc (t, r) (look_mem hr)
    exact ⟨u, h2, fun u' h3 => refO_ev hd' h3 h1⟩
  obtain ⟨u, hu, hu'⟩ := hu
  have hv : ∀ vs', evs os ls stk = some vs' → vs' = vs := fun vs' h1 => by
    have h2 := opOs_ev hc hos h1
    unfold valsOf at hvs
    rw [ho] at hvs
    obtain ⟨vs'', h3, h4⟩ := ob_some (show ob (tmOs tm xs) (fun vs => some (k, vs)) = some (k, vs) from hvs)
    rw [h2] at h3
    injection h3 with h3
    injection h4 with h4
    injection h4 with _ h4
    exact h3.trans h4
  cases g with
  | none => exact ⟨u, againF_ok ha hv hu', hu⟩
  | some x =>
    obtain ⟨x, w⟩ := x
    have ha' : (match ob (x.ev ls stk) fun v => goesV w v with
      | some true => againF k os d ls stk h
      | some false => true
      | none => false) = true := ha
    cases hb : (ob (x.ev ls stk) fun v => goesV w v) with
    | none => rw [hb] at ha'; cases ha'
    | some b =>
      obtain ⟨gv, h1, h2⟩ := ob_some hb
      have h3 := guardO_some hc hg h1 h2
      rw [hG] at h3
      injection h3 with h3
      subst h3
      rw [hb] at ha'
      exact ⟨u, againF_ok ha' hv hu', hu⟩
theorem reads2_ok {lay : Lay} {hgt : Nat} {ls : T V} {stk : List V} {tm : TM} {h : H} {i : Nat} (hc : Cov lay hgt ls stk tm) : ∀ {pre : List Nat} {rs : List (J2 × O)}, reads2 P n ops M lay hgt i pre = some rs → again2 rs ls stk h = true → ∀ r ∈ pre, (effAt P ops i = true → bef M i r = false) → ∀ ro k xs, ops[r]? = some ro → opOf P ro = some (k, xs) → k.reads = true → reOk P ops tm h r
  | [], rs, _, _, r, hr, _, _, _, _, _, _, _ => by cases hr
  | q :: pre, rs, hrs, ha, r, hr, hE, ro, k, xs, hro, ho, hk => by
    obtain ⟨l, hl, hrs⟩ := ob_some hrs
    have main : again2 l ls stk h = true ∧ (r = q → reOk P ops tm h r) := by
      cases hq : ops[q]? with
      | none => rw [hq] at hrs; cases hrs
      | some o =>
        rw [hq] at hrs
        simp only at hrs
        cases hoq : opOf P o with
        | none =>
          rw [hoq] at hrs
          injection hrs with hrs
          subst hrs
          refine ⟨ha, fun e => ?_⟩
          subst e
          rw [hro] at hq
          injection hq with hq
          subst hq
          rw [ho] at hoq
          cases hoq
        | some kx =>
          obtain ⟨k', xs'⟩ := kx
          rw [hoq] at hrs
          simp only at hrs
          cases hcnd : (readsHeap k' && !(effAt P ops i && bef M i q)) with
          | false =>
            rw [hcnd] at hrs
            injection hrs with hrs
            subst hrs
            refine ⟨ha, fun e => ?_⟩
            subst e
            rw [hro] at hq
            injection hq with hq
            subst hq
            rw [ho] at hoq
            injection hoq with hoq
            injection hoq with e1 e2
            subst e1 e2
            rw [reads_eq, hk] at hcnd
            simp only [Bool.true_and, Bool.not_eq_false'] at hcnd
            obtain ⟨h1, h2⟩ := and2 hcnd
            rw [hE h1] at h2
            cases h2
          | true =>
            rw [hcnd] at hrs
            simp only [cond_true] at hrs
            obtain ⟨os, hos, hrs⟩ := ob_some hrs
            obtain ⟨g, hg, hrs⟩ := ob_some hrs
            cases hdst : o.dst with
            | none => rw [hdst] at hrs; cases hrs
            | some t =>
              rw [hdst] at hrs
              obtain ⟨d, hd, hrs⟩ := ob_some hrs
              injection hrs with hrs
              subst hrs
              obtain ⟨h1, h2⟩ := and2 (show (again1 (mkJ g .no k' os) d ls stk h && again2 l ls stk h) = true from ha)
              refine ⟨h2, fun e => ?_⟩
              subst e
              intro o' k'' vs ho' hG hvs t' ht'
              rw [hq] at ho'
              injection ho' with ho'
              subst ho'
              rw [hdst] at ht'
              injection ht' with ht'
              subst ht'
              have hk' : k'' = k' := by
                unfold valsOf at hvs
                rw [hoq] at hvs
                obtain ⟨_, _, h4⟩ := ob_some (show ob (tmOs tm xs') (fun vs => some (k', vs)) = some (k'', vs) from hvs)
                injection h4 with h4
                injection h4 with h4 _
                exact h4.symm
              subst hk'
              exact again1_ok hc hoq hos hg hdst hd h1 hG hvs
    rcases List.mem_cons.1 hr with e | hr
    · exact main.2 e
    · exact reads2_ok hc hl main.1 r hr hE ro k xs hro ho hk
theorem compOp_alias {o : Oper} {hint : Nat} {lay lay' : Lay} {hgt hgt' : Nat} (hco : compOp P n ops lay hgt o hint = some (none, lay', hgt')) : ∃ xs, opOf P o = some (.mov, xs) := by
  unfold compOp at hco
  obtain ⟨hd, hco⟩ := io_some hco
  cases hbad : isBad P o with
  | true =>
    rw [hbad] at hco
    injection hco with hco
    injection hco with e1 e2
    cases e1
  | false =>
    rw [hbad] at hco
    simp only [cond_false] at hco
    match hint, hco with
    | 0, hco =>
      simp only at hco
      split at hco
      · next x t ho hdst hgd => exact ⟨_, ho⟩
      · cases hco
    | 1, hco =>
      simp only at hco
      obtain ⟨⟨k, xs⟩, ho, hco⟩ := ob_some hco
      obtain ⟨os, hos, hco⟩ := ob_some hco
      obtain ⟨g, hg, hco⟩ := ob_some hco
      cases hdst : o.dst with
      | none =>
        rw [hdst] at hco
        injection hco with hco
        injection hco with e1 e2
        cases e1
      | some t =>
        rw [hdst] at hco
        injection hco with hco
        injection hco with e1 e2
        cases e1
    | p + 2, hco =>
      simp only at hco
      obtain ⟨⟨k, xs⟩, ho, hco⟩ := ob_some hco
      obtain ⟨os, hos, hco⟩ := ob_some hco
      obtain ⟨g, hg, hco⟩ := ob_some hco
      cases hdst : o.dst with
      | none =>
        rw [hdst] at hco
        cases hco
      | some t =>
        rw [hdst] at hco
        injection hco with hco
        injection hco with e1 e2
        cases e1
theorem compOp_dst {o : Oper} {hint : Nat} {lay : Lay} {hgt : Nat} {r : Option J2 × Lay × Nat} (hco : compOp P n ops lay hgt o hint = some r) : dstOk n o.dst = true := by
  unfold compOp at hco
  exact (io_some hco).1
theorem compDraw_sound : ∀ {hs : List (Nat × Nat)} {pre : List Nat} {lay lay' : Lay} {hgt hgt' : Nat} {js : List (J2 × List (J2 × O))} {ls : T V} {stk : List V} {tm : TM} {h : H} {s' : S}
    (hco : compDraw P n ops M hs pre lay hgt = some (js, lay', hgt')) (hc : Cov lay hgt ls stk tm) (he : evD2 cal js ls stk h = some s'),
    ∃ tm', DRun P cal n ops (effAt P ops) (bef M) pre (hs.map (·.1)) tm h tm' s'.h ∧ Cov lay' hgt' s'.ls s'.stk tm'
  | [], pre, lay, lay', hgt, hgt', js, ls, stk, tm, h, s', hco, hc, he => by
    injection hco with hco
    injection hco with e1 e2
    injection e2 with e2 e3
    subst e1 e2 e3
    injection he with he
    subst he
    exact ⟨tm, .nil, hc⟩
  | (i, hint) :: hs, pre, lay, lay', hgt, hgt', js, ls, stk, tm, h, s', hco, hc, he => by
    unfold compDraw at hco
    cases hi : ops[i]? with
    | none => rw [hi] at hco; cases hco
    | some o =>
      rw [hi] at hco
      simp only at hco
      obtain ⟨⟨oj, lay1, hgt1⟩, h1, hco⟩ := ob_some hco
      obtain ⟨rs, h2, hco⟩ := ob_some hco
      obtain ⟨⟨js1, lay2, hgt2⟩, h3, hco⟩ := ob_some hco
      injection hco with hco
      injection hco with e1 e2
      injection e2 with e2 e3
      simp only at e1 e2 e3 h2 h3
      subst e2 e3
      have : ∃ s1, evJo cal oj ls stk h = some s1 ∧ (oj = none ∨ again2 rs s1.ls s1.stk s1.h = true) ∧ evD2 cal js1 s1.ls s1.stk s1.h = some s' := by
        cases oj with
        | none =>
          simp only at e1
          subst e1
          exact ⟨⟨ls, stk, h⟩, rfl, .inl rfl, he⟩
        | some j =>
          simp only at e1
          subst e1
          obtain ⟨s1, h4, h5⟩ := ob_some he
          obtain ⟨h6, h7⟩ := io_some h5
          exact ⟨s1, h4, .inr h6, h7⟩
      obtain ⟨s1, h4, h5, h6⟩ := this
      obtain ⟨tm1, h7, h8⟩ := compOp_sound (cal := cal) (h := h) h1 hc h4
      obtain ⟨tm2, h9, h10⟩ := compDraw_sound h3 h8 h6
      refine ⟨tm2, .cons hi h7 ?_ h9, h10⟩
      rcases h5 with e | h5
      · subst e
        obtain ⟨xs, hx⟩ := compOp_alias h1
        exact .inl ⟨_, _, hx, rfl⟩
      · cases hk : Nat.beq (kindOf P o) 0 with
        | true =>
          left
          have hk0 := Nat.eq_of_beq_eq_true hk
          unfold kindOf at hk0
          split at hk0
          · next k xs ho => exact ⟨k, xs, ho, hk0⟩
          · cases hk0
        | false =>
          right
          rw [hk] at h2
          exact reads2_ok h8 h2 h5
theorem compDraw_dst : ∀ {hs : List (Nat × Nat)} {pre : List Nat} {lay : Lay} {hgt : Nat} {r : List (J2 × List (J2 × O)) × Lay × Nat}, compDraw P n ops M hs pre lay hgt = some r → ∀ i ∈ hs.map (·.1), ∀ o, ops[i]? = some o → dstOk n o.dst = true
  | [], pre, lay, hgt, r, hco, i, hi, o, ho => by cases hi
  | (q, hint) :: hs, pre, lay, hgt, r, hco, i, hi, o, ho => by
    unfold compDraw at hco
    cases hq : ops[q]? with
    | none => rw [hq] at hco; cases hco
    | some oq =>
      rw [hq] at hco
      simp only at hco
      obtain ⟨_, h1, hco⟩ := ob_some hco
      obtain ⟨_, h2, hco⟩ := ob_some hco
      obtain ⟨_, h3, hco⟩ := ob_some hco
      rcases List.mem_cons.1 hi with e | hi
      · simp only at e
        subst e
        rw [hq] at ho
        injection ho with ho
        subst ho
        exact compOp_dst h1
      · exact compDraw_dst h3 i hi o ho
theorem compReg_dst : ∀ (l : List Oper) {hs : List Nat} {lay : Lay} {hgt : Nat} {r : List J2 × Lay × Nat}, compReg P n ops l hs lay hgt = some r → ∀ o ∈ l, dstOk n o.dst = true
  | [], _, _, _, _, _, o, ho => by cases ho
  | o :: os, hs, lay, hgt, r, hco, o', ho' => by
    obtain ⟨_, h1, hco⟩ := ob_some hco
    obtain ⟨_, h2, hco⟩ := ob_some hco
    rcases List.mem_cons.1 ho' with e | ho'
    · subst e
      exact compOp_dst h1
    · exact compReg_dst os h2 o' ho'
end
end Ev
end Go.Proofs.YtbcmcdmflblgkaaGreatDoor

namespace Go.Proofs.YtbcmcdmflblgkaaGreatDoor
namespace Ev
open Go.RowKit
set_option linter.unusedVariables false
set_option linter.unusedSectionVars false
variable [bs : Base]
theorem testBit_fold (M : List Nat) : ∀ (l : List Edge) (s j : Nat), (l.foldl (fun s e => bif Region.binds .any e then s ||| 2 ^ e.on ||| M.getD e.on 0 else s) s).testBit j = true ↔ s.testBit j = true ∨ ∃ e ∈ l, Region.binds .any e = true ∧ (e.on = j ∨ (M.getD e.on 0).testBit j = true)
  | [], s, j => by simp
  | e :: l, s, j => by
    rw [List.foldl_cons, testBit_fold M l]
    cases hb : Region.binds .any e with
    | false =>
      simp only [cond_false]
      constructor
      · rintro (h | ⟨e', h1, h2⟩)
        · exact .inl h
        · exact .inr ⟨e', List.mem_cons_of_mem _ h1, h2⟩
      · rintro (h | ⟨e', h1, h2, h3⟩)
        · exact .inl h
        · rcases List.mem_cons.1 h1 with e0 | h1
          · subst e0
            rw [hb] at h2
            cases h2
          · exact .inr ⟨e', h1, h2, h3⟩
    | true =>
      simp only [cond_true, Nat.testBit_or, Bool.or_eq_true, Nat.testBit_two_pow, decide_eq_true_eq]
      constructor
      · rintro (((h | h) | h) | ⟨e', h1, h2⟩)
        · exact .inl h
        · exact .inr ⟨e, by simp, hb, .inl h⟩
        · exact .inr ⟨e, by simp, hb, .inr h⟩
        · exact .inr ⟨e', List.mem_cons_of_mem _ h1, h2⟩
      · rintro (h | ⟨e', h1, h2, h3⟩)
        · exact .inl (.inl (.inl h))
        · rcases List.mem_cons.1 h1 with e0 | h1
          · subst e0
            rcases h3 with h3 | h3
            · exact .inl (.inl (.inr h3))
            · exact .inl (.inr h3)
          · exact .inr ⟨e', h1, h2, h3⟩
theorem maskOf_bit {M : List Nat} {o : Oper} {j : Nat} : (maskOf M o).testBit j = true ↔ ∃ e ∈ o.after, Region.binds .any e = true ∧ (e.on = j ∨ bef M e.on j = true) := by
  unfold maskOf
  rw [testBit_fold]
  simp [bef]
section
variable {P : Program} {ops : Array Oper} {M perm : List Nat}
theorem looksB_of {o : Oper} {t : Nat} (h : Looks P ops o t) : looksB P ops o t = true := by
  unfold looksB
  rcases h with ⟨k, xs, h1, h2⟩ | ⟨j, want, h1, h2⟩
  · rw [h1]
    simp only [Bool.or_eq_true]
    left
    rw [List.any_eq_true]
    exact ⟨_, h2, by simp⟩
  · simp only [Bool.or_eq_true]
    right
    rw [h1]
    simp only
    rw [h2]
    simp
theorem of_all {α : Type} {l : List α} {f : α → Bool} (h : l.all f = true) : ∀ x ∈ l, f x = true := List.all_eq_true.1 h
theorem permOk_split : ∀ {pre post : List Nat}, permOk P ops M pre post = true → ∀ a i b, post = a ++ i :: b → (List.range ops.size).all (fun j => !bef M i j || (pre ++ a).contains j) = true ∧ (effAt P ops i = true → ∀ q ∈ b, bef M q i = true)
  | pre, [], h, a, i, b, e => by cases a <;> cases e
  | pre, x :: post, h, a, i, b, e => by
    unfold permOk at h
    obtain ⟨h1, h2⟩ := and2 h
    obtain ⟨h0, h1⟩ := and2 h1
    cases a with
    | nil =>
      injection e with e1 e2
      subst e1 e2
      refine ⟨by rw [List.append_nil]; exact h0, fun hE q hq => ?_⟩
      rw [hE] at h1
      exact of_all h1 q hq
    | cons y a =>
      injection e with e1 e2
      subst e1
      have := permOk_split h2 a i b e2
      rw [List.append_assoc] at this
      exact this
theorem effAt_eq {i : Nat} {o : Oper} (h : ops[i]? = some o) : effAt P ops i = isEff P o := by
  unfold effAt
  rw [h]
theorem planB_ok (hp : planB P ops M perm = true) (hq : permOk P ops M [] perm = true) : PlanOK P ops (effAt P ops) (bef M) perm := by
  unfold planB at hp
  obtain ⟨hp, c8⟩ := and2 hp
  obtain ⟨hp, c7⟩ := and2 hp
  obtain ⟨hp, c6⟩ := and2 hp
  obtain ⟨hp, c5⟩ := and2 hp
  obtain ⟨hp, c4⟩ := and2 hp
  obtain ⟨hp, c3⟩ := and2 hp
  obtain ⟨c1, c2⟩ := and2 hp
  have hlen : M.length = ops.size := Nat.eq_of_beq_eq_true c5
  have hmask : ∀ (i : Nat) o, ops[i]? = some o → M.getD i 0 = maskOf M o ∧ ∀ e ∈ o.after, Region.binds .any e = true → e.on < i := by
    intro i o ho
    have hi : i < ops.size := (Array.getElem?_eq_some_iff.1 ho).1
    have h := of_all c6 i (List.mem_range.2 hi)
    simp only [ho] at h
    obtain ⟨h1, h2⟩ := and2 h
    refine ⟨Nat.eq_of_beq_eq_true h1, fun e he hb => ?_⟩
    have h3 := of_all h2 e (Array.mem_toList_iff.2 he)
    rw [hb] at h3
    have := Nat.le_of_ble_eq_true (show Nat.ble (e.on + 1) i = true from h3)
    omega
  have hedge : ∀ i j, bef M i j = true → ∃ o e, ops[i]? = some o ∧ e ∈ o.after ∧ Region.binds .any e = true ∧ e.on < i ∧ (e.on = j ∨ bef M e.on j = true) := by
    intro i j h
    by_cases hi : i < ops.size
    · have ho : ops[i]? = some ops[i] := by simp [hi]
      obtain ⟨h1, h2⟩ := hmask i _ ho
      have h' : (M.getD i 0).testBit j = true := h
      rw [h1, maskOf_bit] at h'
      obtain ⟨e, h3, h4, h5⟩ := h'
      exact ⟨_, e, ho, h3, h4, h2 e h3 h4, h5⟩
    · unfold bef at h
      rw [List.getD_eq_getElem?_getD, List.getElem?_eq_none (by omega)] at h
      simp at h
  have hlt : ∀ i j, bef M i j = true → j < ops.size := by
    intro i
    induction i using Nat.strongRecOn with
    | _ i ih =>
      intro j h
      obtain ⟨o, e, h1, h2, h3, h4, h5⟩ := hedge i j h
      have hi : i < ops.size := (Array.getElem?_eq_some_iff.1 h1).1
      rcases h5 with h5 | h5
      · omega
      · exact ih e.on h4 j h5
  have hc7 : ∀ (i q : Nat) oi oq t, ops[i]? = some oi → ops[q]? = some oq → oq.dst = some t → (bif Nat.beq q i then isEff P oi || !looksB P ops oi t else (!looksB P ops oi t || bef M i q || (isEff P oq && bef M q i)) && (isEff P oi || !(match oi.dst with | some s => Nat.beq s t | none => false))) = true := by
    intro i q oi oq t hi hq ht
    have h := of_all c7 i (List.mem_range.2 (Array.getElem?_eq_some_iff.1 hi).1)
    simp only [hi] at h
    have h := of_all h q (List.mem_range.2 (Array.getElem?_eq_some_iff.1 hq).1)
    simp only [hq, ht] at h
    exact h
  have hc8 : ∀ (i : Nat) o, ops[i]? = some o → effAt P ops i = false → o.dst.isSome = true ∧ ∀ k xs, opOf P o = some (k, xs) → k.kind ≤ 1 := by
    intro i o ho hE
    have h := of_all c8 i (List.mem_range.2 (Array.getElem?_eq_some_iff.1 ho).1)
    simp only [ho] at h
    rw [effAt_eq ho] at hE
    rw [hE] at h
    have h := and2 (show (o.dst.isSome && _) = true from h)
    refine ⟨h.1, fun k xs hk => ?_⟩
    have h := h.2
    rw [hk] at h
    exact Nat.le_of_ble_eq_true h
  refine ⟨?_, ?_, Nat.eq_of_beq_eq_true c1, ?_, hedge, ?_, ?_, ?_, ?_, ?_, ?_, ?_, ?_⟩
  · intro i hi
    simpa using of_all c2 i (List.mem_range.2 hi)
  · simpa using c3
  · intro i hi
    have := Nat.le_of_ble_eq_true (of_all c4 i hi)
    omega
  · intro i o e ho he hb
    obtain ⟨h1, h2⟩ := hmask i o ho
    show (M.getD i 0).testBit e.on = true
    rw [h1, maskOf_bit]
    exact ⟨e, he, hb, .inl rfl⟩
  · intro pre i post e j hj
    have h := of_all (permOk_split hq pre i post e).1 j (List.mem_range.2 (hlt i j hj))
    rw [hj] at h
    simpa using h
  · intro pre i post e hE q hqm
    exact (permOk_split hq pre i post e).2 hE q hqm
  · intro i q oi oq t hi hq' hE hdi hdq
    have h := hc7 i q oi oq t hi hq' hdq
    rw [effAt_eq hi] at hE
    cases hb : Nat.beq q i with
    | true => exact Nat.eq_of_beq_eq_true hb
    | false =>
      rw [hb, hE, hdi] at h
      simp at h
  · intro i o ho hE
    have h := (hc8 i o ho hE).1
    cases hd : o.dst with
    | none => rw [hd] at h; cases h
    | some t => exact ⟨t, rfl⟩
  · intro i o t ho hE hd hl
    have h := hc7 i i o o t ho ho hd
    rw [effAt_eq ho] at hE
    rw [hE, looksB_of hl] at h
    simp at h
  · intro i q oi oq t hi hq' hne hd hl
    have h := hc7 i q oi oq t hi hq' hd
    have hb : Nat.beq q i = false := by
      cases hb : Nat.beq q i with
      | false => rfl
      | true => exact absurd (Nat.eq_of_beq_eq_true hb) hne
    rw [hb, looksB_of hl] at h
    simp only [cond_false] at h
    have h := (and2 h).1
    simp only [Bool.not_true, Bool.false_or, Bool.or_eq_true, Bool.and_eq_true] at h
    rcases h with h | h
    · exact .inl h
    · exact .inr ⟨by rw [effAt_eq hq']; exact h.1, h.2⟩
  · intro i o k xs ho hE hop
    have := (hc8 i o ho hE).2 k xs hop
    omega
end
end Ev
end Go.Proofs.YtbcmcdmflblgkaaGreatDoor

namespace Go.Proofs.YtbcmcdmflblgkaaGreatDoor
namespace Ev
open Go.RowKit
set_option linter.unusedVariables false
set_option linter.unusedSectionVars false
variable [bs : Base]
def exOf : X → Exit
  | .normal => .normal
  | .exit id => .exit id
  | .ret => .ret
section
variable {P : Program} {cal : Cal} {n : Nat} {base : Lay} {hints : Hints}
theorem Cov.toB (hbase : ∀ q ∈ base, ∃ p, q.2 = .loc p) {hgt : Nat} {ls : T V} {stk stk' : List V} {tm : TM} (h : Cov base hgt ls stk tm) : Cov base 0 ls stk' tm := by
  intro q hq
  obtain ⟨v, h1, h2⟩ := h q hq
  obtain ⟨p, hp⟩ := hbase q hq
  refine ⟨v, ?_, h2⟩
  rw [hp] at h1 ⊢
  exact h1
theorem Cov.covers {lay : Lay} {hgt : Nat} {ls : T V} {stk stk' : List V} {tm : TM} (hcv : covers base lay = true) (h : Cov lay hgt ls stk tm) : Cov base 0 ls stk' tm := by
  intro q hq
  have h1 := of_all hcv q hq
  split at h1
  · next r hr =>
    obtain ⟨v, h2, h3⟩ := h (q.1, r) (look_mem hr)
    refine ⟨v, ?_, h3⟩
    unfold refEq at h1
    split at h1
    · next e1 e2 e3 _ =>
      have e4 := (Po.eq_iff _ _).1 h1
      subst e4
      rw [‹q.2 = _›]
      exact h2
    · cases h1
  · cases h1
/-- what must hold behind the code -/
def Post (n : Nat) (base : Lay) (ρ : Rho) (a : Act) (h : H) (lay : Lay) (hgt : Nat) (x : X) (s : S) (Q : Exit → Act → World → Prop) : Prop :=
  ∀ ρ' a' w' tm', AR ρ' n All tm' a' → a'.defers = a.defers → WR ρ' s.h w' → St ρ h ρ' s.h → Cov base 0 s.ls s.stk tm' → (x = .normal → Cov lay hgt s.ls s.stk tm') → Q (exOf x) a' w'
theorem dstsIn_of {ops : Array Oper} (h : ∀ (i : Nat) o, ops[i]? = some o → dstOk n o.dst = true) : dstsIn n ops := by
  intro j d hd
  cases ho : ops[j]? with
  | none => rw [ho] at hd; cases hd
  | some o =>
    rw [ho] at hd
    have h1 := h j o ho
    have hd' : o.dst = some d := hd
    rw [hd'] at h1
    exact Nat.le_of_ble_eq_true h1
theorem compC_sound (hcal : CalOK P cal) (hbody : Bodied P cal) (hm : P.follows .mixedOrders = true) (hbase : ∀ q ∈ base, ∃ p, q.2 = .loc p) : ∀ (fuel : Nat) {c : Code} {lay lay' : Lay} {hgt hgt' : Nat} {c2 : C2} {s s' : S} {x : X} {tm : TM}
    (hco : compC P n base hints c lay hgt = some (c2, lay', hgt')) (he : evC2 cal fuel c2 s = some (x, s')) (hc : Cov lay hgt s.ls s.stk tm) (hb : Cov base 0 s.ls s.stk tm) {ρ : Rho} {a : Act} {w : World} (hA : AR ρ n All tm a) (hw : WR ρ s.h w)
    {Q : Exit → Act → World → Prop} (hQ : Post n base ρ a s.h lay' hgt' x s' Q), c.wp P Q a w := by
  intro fuel
  induction fuel using Nat.strongRecOn with
  | _ fuel ih =>
  intro c lay lay' hgt hgt' c2 s s' x tm hco he hc hb ρ a w hA hw Q hQ
  cases fuel with
  | zero => cases he
  | succ fuel =>
  cases c with
  | skip =>
    injection hco with hco
    injection hco with e1 e2
    injection e2 with e2 e3
    subst e1 e2 e3
    injection he with he
    injection he with e1 e2
    subst e1 e2
    exact wp_skip (hQ ρ a w tm hA rfl hw (St.refl _ _) hb (fun _ => hc))
  | ret =>
    injection hco with hco
    injection hco with e1 e2
    injection e2 with e2 e3
    subst e1 e2 e3
    injection he with he
    injection he with e1 e2
    subst e1 e2
    exact wp_ret (hQ ρ a w tm hA rfl hw (St.refl _ _) hb (fun _ => hc))
  | exit id =>
    injection hco with hco
    injection hco with e1 e2
    injection e2 with e2 e3
    subst e1 e2 e3
    injection he with he
    injection he with e1 e2
    subst e1 e2
    exact wp_exit (hQ ρ a w tm hA rfl hw (St.refl _ _) hb (fun _ => hc))
  | seq c d =>
    obtain ⟨⟨c1, lay1, hgt1⟩, h1, hco⟩ := ob_some hco
    obtain ⟨⟨d1, lay2, hgt2⟩, h2, hco⟩ := ob_some hco
    injection hco with hco
    injection hco with e1 e2
    injection e2 with e2 e3
    simp only at e1 e2 e3 h2
    subst e1 e2 e3
    obtain ⟨⟨x1, s1⟩, h3, h4⟩ := ob_some (show ob (evC2 cal fuel c1 s) _ = _ from he)
    refine wp_seq (ih fuel (Nat.lt_succ_self _) h1 h3 hc hb hA hw ?_)
    intro ρ1 a1 w1 tm1 g1 g2 g3 g4 g5 g6
    cases x1 with
    | normal =>
      refine ih fuel (Nat.lt_succ_self _) h2 h4 (g6 rfl) g5 g1 g3 ?_
      intro ρ2 a2 w2 tm2 k1 k2 k3 k4 k5 k6
      exact hQ ρ2 a2 w2 tm2 k1 (k2.trans g2) k3 (g4.trans k4) k5 k6
    | exit i =>
      injection h4 with h4
      injection h4 with e1 e2
      subst e1 e2
      exact hQ ρ1 a1 w1 tm1 g1 g2 g3 g4 g5 (fun h => by cases h)
    | ret =>
      injection h4 with h4
      injection h4 with e1 e2
      subst e1 e2
      exact hQ ρ1 a1 w1 tm1 g1 g2 g3 g4 g5 (fun h => by cases h)
  | cond q c d =>
    obtain ⟨xo, h0, hco⟩ := ob_some hco
    obtain ⟨⟨c1, lay1, hgt1⟩, h1, hco⟩ := ob_some hco
    obtain ⟨⟨d1, lay2, hgt2⟩, h2, hco⟩ := ob_some hco
    injection hco with hco
    injection hco with e1 e2
    injection e2 with e2 e3
    simp only at e1 e2 e3
    subst e1 e2 e3
    obtain ⟨v, h3, h4⟩ := ob_some (show ob (xo.ev s.ls s.stk) _ = _ from he)
    have hv := tmO_rel hA (x := q) (fun _ _ => trivial) (opO_ev hc h0 h3)
    cases v with
    | boo t =>
      refine wp_cond hv.boo_inv ?_
      have hpost : ∀ l g, Post n base ρ a s.h l g x s' Q := fun l g ρ1 a1 w1 tm1 g1 g2 g3 g4 g5 g6 => hQ ρ1 a1 w1 tm1 g1 g2 g3 g4 g5 (fun _ => g5)
      cases t with
      | true => exact ih fuel (Nat.lt_succ_self _) h1 h4 hc hb hA hw (hpost _ _)
      | false => exact ih fuel (Nat.lt_succ_self _) h2 h4 hc hb hA hw (hpost _ _)
    | _ => cases h4
  | block id c =>
    obtain ⟨⟨c1, lay1, hgt1⟩, h1, hco⟩ := ob_some hco
    injection hco with hco
    injection hco with e1 e2
    injection e2 with e2 e3
    simp only at e1 e2 e3
    subst e1 e2 e3
    obtain ⟨⟨x1, s1⟩, h3, h4⟩ := ob_some (show ob (evC2 cal fuel c1 s) _ = _ from he)
    refine wp_block (ih fuel (Nat.lt_succ_self _) h1 h3 hc hb hA hw ?_)
    intro ρ1 a1 w1 tm1 g1 g2 g3 g4 g5 g6
    cases x1 with
    | normal =>
      injection h4 with h4
      injection h4 with e1 e2
      subst e1 e2
      exact hQ ρ1 a1 w1 tm1 g1 g2 g3 g4 g5 (fun _ => g5)
    | ret =>
      injection h4 with h4
      injection h4 with e1 e2
      subst e1 e2
      exact hQ ρ1 a1 w1 tm1 g1 g2 g3 g4 g5 (fun _ => g5)
    | exit i =>
      show (if i = id then Q .normal a1 w1 else Q (.exit i) a1 w1)
      injection h4 with h4
      by_cases e : i = id
      · subst e
        rw [if_pos rfl]
        simp only [Nat.beq_refl, cond_true] at h4
        injection h4 with e1 e2
        subst e1 e2
        exact hQ ρ1 a1 w1 tm1 g1 g2 g3 g4 g5 (fun _ => g5)
      · rw [if_neg e]
        have hbf : Nat.beq i id = false := by
          cases hbf : Nat.beq i id with
          | false => rfl
          | true => exact absurd (Nat.eq_of_beq_eq_true hbf) e
        rw [hbf] at h4
        injection h4 with e1 e2
        subst e1 e2
        exact hQ ρ1 a1 w1 tm1 g1 g2 g3 g4 g5 (fun _ => g5)
  | loop c =>
    obtain ⟨⟨c1, lay1, hgt1⟩, h1, hco⟩ := ob_some hco
    injection hco with hco
    injection hco with e1 e2
    injection e2 with e2 e3
    simp only at e1 e2 e3
    subst e1 e2 e3
    have rounds : ∀ m, m ≤ fuel + 1 → ∀ {s : S} {tm : TM} {ρ : Rho} {a : Act} {w : World}, evC2 cal m (.loop c1) s = some (x, s') → Cov base 0 s.ls s.stk tm → AR ρ n All tm a → WR ρ s.h w → Post n base ρ a s.h base 0 x s' Q → Code.rounds P c Q m a w := by
      intro m
      induction m with
      | zero => intro _ s tm ρ a w he; cases he
      | succ m ihm =>
        intro hle s tm ρ a w he hb hA hw hQ
        obtain ⟨⟨x1, s1⟩, h3, h4⟩ := ob_some (show ob (evC2 cal m c1 s) _ = _ from he)
        rw [rounds_succ]
        refine ih m hle h1 h3 (hb.toB hbase) hb hA hw ?_
        intro ρ1 a1 w1 tm1 g1 g2 g3 g4 g5 g6
        cases x1 with
        | normal =>
          refine ihm (by omega) h4 g5 g1 g3 ?_
          intro ρ2 a2 w2 tm2 k1 k2 k3 k4 k5 k6
          exact hQ ρ2 a2 w2 tm2 k1 (k2.trans g2) k3 (g4.trans k4) k5 k6
        | exit i =>
          injection h4 with h4
          injection h4 with e1 e2
          subst e1 e2
          exact hQ ρ1 a1 w1 tm1 g1 g2 g3 g4 g5 (fun h => by cases h)
        | ret =>
          injection h4 with h4
          injection h4 with e1 e2
          subst e1 e2
          exact hQ ρ1 a1 w1 tm1 g1 g2 g3 g4 g5 (fun h => by cases h)
    exact wp_loop_rounds (fuel + 1) (rounds (fuel + 1) (Nat.le_refl _) he hb hA hw hQ)
  | region id ops d =>
    cases d with
    | false =>
      obtain ⟨⟨js, lay1, hgt1⟩, h1, hco⟩ := ob_some (show ob (compReg P n ops ops.toList ((hints id).map (·.2)) base 0) _ = _ from hco)
      obtain ⟨hcv, hco⟩ := io_some hco
      injection hco with hco
      injection hco with e1 e2
      injection e2 with e2 e3
      simp only at e1 e2 e3 hcv
      subst e1 e2 e3
      obtain ⟨s1, h3, h4⟩ := ob_some (show ob (evJs2 cal js s.ls [] s.h) _ = _ from he)
      injection h4 with h4
      injection h4 with e1 e2
      subst e1 e2
      obtain ⟨tm', h5, h6⟩ := compReg_sound (cal := cal) ops.toList h1 (hb.toB hbase) h3
      have hin : dstsIn n ops := dstsIn_of fun i o ho => compReg_dst ops.toList h1 o (by rw [Array.mem_toList_iff]; exact Array.mem_of_getElem? ho)
      exact reg_sound hcal hbody hin h5 hA hw fun ρ1 a1 w1 g1 g2 g3 g4 => hQ ρ1 a1 w1 tm' g1 g2 g3 g4 (h6.covers hcv) (fun _ => h6)
    | true =>
      obtain ⟨hpl, hco⟩ := io_some (show io (planB P ops (masks ops.toList []) ((hints id).map (·.1)) && permOk P ops (masks ops.toList []) [] ((hints id).map (·.1))) _ = _ from hco)
      obtain ⟨⟨js, lay1, hgt1⟩, h1, hco⟩ := ob_some hco
      obtain ⟨hcv, hco⟩ := io_some hco
      injection hco with hco
      injection hco with e1 e2
      injection e2 with e2 e3
      simp only at e1 e2 e3 hcv
      subst e1 e2 e3
      obtain ⟨s1, h3, h4⟩ := ob_some (show ob (evD2 cal js s.ls [] s.h) _ = _ from he)
      injection h4 with h4
      injection h4 with e1 e2
      subst e1 e2
      obtain ⟨hp1, hp2⟩ := and2 hpl
      have hplan := planB_ok hp1 hp2
      obtain ⟨tm', h5, h6⟩ := compDraw_sound (cal := cal) h1 (hb.toB hbase) h3
      have hin : dstsIn n ops := dstsIn_of fun i o ho => compDraw_dst h1 i (hplan.all i (Array.getElem?_eq_some_iff.1 ho).1) o ho
      exact draw_sound hcal hbody hm hplan hin h5 hA hw fun ρ1 a1 w1 g1 g2 g3 g4 => hQ ρ1 a1 w1 tm' g1 g2 g3 g4 (h6.covers hcv) (fun _ => h6)
  | _ => cases hco
end
end Ev
end Go.Proofs.YtbcmcdmflblgkaaGreatDoor

namespace Go.Proofs.YtbcmcdmflblgkaaGreatDoor
namespace Ev
open Go.RowKit
set_option linter.unusedVariables false
set_option linter.unusedSectionVars false
variable [bs : Base]
theorem argT_out : ∀ {ps : List Po} {vs : List V} {t t' : T V}, argT ps vs t = some t' → vs.length = ps.length ∧ ∀ p, p ∉ ps → T.get p t' = T.get p t
  | [], [], t, t', h => by
    injection h with h
    subst h
    exact ⟨rfl, fun _ _ => rfl⟩
  | [], _ :: _, t, t', h => by cases h
  | p :: ps, v :: vs, t, t', h => by
    obtain ⟨h1, h2⟩ := argT_out (ps := ps) (vs := vs) h
    refine ⟨by simp [h1], fun q hq => ?_⟩
    rw [h2 q (fun hm => hq (List.mem_cons_of_mem _ hm)), T.get_set, if_neg (fun e => hq (by rw [e]; simp))]
  | _ :: _, [], t, t', h => by cases h
theorem argT_in : ∀ {ps : List Po} {vs : List V} {t t' : T V}, argT ps vs t = some t' → ∀ (i : Nat) (p : Po) (v : V), ps[i]? = some p → vs[i]? = some v → (∀ j, ps[j]? = some p → j = i) → T.get p t' = some v
  | [], _, t, t', h, i, p, v, hp, _, _ => by simp at hp
  | q :: ps, [], t, t', h, _, _, _, _, _, _ => by cases h
  | q :: ps, u :: vs, t, t', h, i, p, v, hp, hv, hu => by
    cases i with
    | zero =>
      simp only [List.getElem?_cons_zero, Option.some.injEq] at hp hv
      subst hp hv
      have hn : q ∉ ps := fun hm => by
        obtain ⟨j, hj⟩ := List.mem_iff_getElem?.1 hm
        have := hu (j + 1) (by simpa using hj)
        omega
      rw [(argT_out (ps := ps) (vs := vs) h).2 q hn, T.get_set, if_pos rfl]
    | succ i =>
      refine argT_in (ps := ps) (vs := vs) h i p v (by simpa using hp) (by simpa using hv) (fun j hj => ?_)
      have := hu (j + 1) (by simpa using hj)
      omega
theorem get_e : ∀ (p : Po), T.get p (.e : T V) = none
  | .one => rfl
  | .d0 p => get_e p
  | .d1 p => get_e p
theorem parPs_at {base : Lay} : ∀ {n i : Nat} {ps : List Po}, parPs base i n = some ps → ps.length = n
  | 0, i, ps, h => by injection h with h; subst h; rfl
  | n + 1, i, ps, h => by
    unfold parPs at h
    split at h
    · obtain ⟨l, h1, h⟩ := ob_some h
      injection h with h
      subst h
      simp [parPs_at h1]
    · cases h
/-- the slots at the start -/
def tm0 (vs : List V) : TM := fun t => some ((vs[t]?).getD (.lit undef))
theorem argOk_cov {base : Lay} {ps : List Po} {vs : List V} {ls : T V} (hok : argOk base ps = true) (ha : argT ps vs .e = some ls) (hps : ∀ (i : Nat) p, ps[i]? = some p → ∃ q ∈ base, q = (i, Ref.loc p)) : (∀ q ∈ base, ∃ p, q.2 = .loc p) ∧ Cov base 0 ls [] (tm0 vs) := by
  have key : ∀ q ∈ base, ∃ p, q.2 = .loc p ∧ ∀ (i : Nat) p', ps[i]? = some p' → (p = p' ↔ q.1 = i) := by
    intro q hq
    have h := of_all hok q hq
    split at h
    · next p hp =>
      refine ⟨p, hp, fun i p' hi => ?_⟩
      have h1 := of_all h (p', i) (by rw [List.mem_zipIdx_iff_getElem?]; exact hi)
      simp only at h1
      cases he : p.eq p' with
      | true =>
        rw [he] at h1
        exact ⟨fun _ => Nat.eq_of_beq_eq_true h1, fun _ => (Po.eq_iff _ _).1 he⟩
      | false =>
        rw [he] at h1
        constructor
        · intro e
          rw [(Po.eq_iff _ _).2 e] at he
          cases he
        · intro e
          rw [e] at h1
          simp at h1
    · cases h
  refine ⟨fun q hq => ?_, fun q hq => ?_⟩
  · obtain ⟨p, hp, _⟩ := key q hq
    exact ⟨p, hp⟩
  obtain ⟨p, hp, hk⟩ := key q hq
  obtain ⟨hl, hout⟩ := argT_out ha
  refine ⟨(vs[q.1]?).getD (.lit undef), ?_, rfl⟩
  rw [hp]
  show some ((T.get p ls).getD (.lit undef)) = _
  cases hv : vs[q.1]? with
  | some v =>
    have hlt : q.1 < ps.length := by rw [← hl]; exact (List.getElem?_eq_some_iff.1 hv).1
    have hpi : ps[q.1]? = some ps[q.1] := List.getElem?_eq_getElem hlt
    have e : p = ps[q.1] := (hk _ _ hpi).2 rfl
    rw [argT_in ha q.1 p v (by rw [e]; exact hpi) hv (fun j hj => ((hk j p hj).1 rfl).symm)]
  | none =>
    have hn : p ∉ ps := fun hm => by
      obtain ⟨j, hj⟩ := List.mem_iff_getElem?.1 hm
      have e := (hk j p hj).1 rfl
      have : j < ps.length := (List.getElem?_eq_some_iff.1 hj).1
      rw [e, List.getElem?_eq_none_iff, hl] at hv
      omega
    rw [hout p hn, get_e]
theorem parPs_mem {base : Lay} : ∀ {n i : Nat} {ps : List Po}, parPs base i n = some ps → ∀ (j : Nat) p, ps[j]? = some p → ∃ q ∈ base, q = (i + j, Ref.loc p)
  | 0, i, ps, h, j, p, hj => by injection h with h; subst h; simp at hj
  | n + 1, i, ps, h, j, p, hj => by
    unfold parPs at h
    split at h
    · next p' hp' =>
      obtain ⟨l, h1, h⟩ := ob_some h
      injection h with h
      subst h
      cases j with
      | zero =>
        simp only [List.getElem?_cons_zero, Option.some.injEq] at hj
        subst hj
        exact ⟨_, look_mem hp', rfl⟩
      | succ j =>
        obtain ⟨q, hq, e⟩ := parPs_mem h1 j p (by simpa using hj)
        exact ⟨q, hq, by rw [e]; congr 1; omega⟩
    · cases h
/-- the results -/
def resF (tmps : Array Value) : ResultVar → Sem Value
  | .tmp t => pure (tmps.getD t undef)
  | .cell a t => do loadVar t (← asAddr (tmps.getD a undef))
section
variable {P : Program} {cal : Cal}
theorem res_run {base : Lay} {s : S} {tm : TM} {ρ : Rho} {n : Nat} {a : Act} {w : World} (hc : Cov base 0 s.ls s.stk tm) (hA : AR ρ n All tm a) (hw : WR ρ s.h w) : ∀ {rs : List ResultVar} {os : List (O × Option (Nat × Bool))} {vs : List V}, resO P base rs = some os → res2 s os = some vs → ∃ us : List Value, (rs.mapM (resF a.tmps)).run P w = .ok us w ∧ VRs ρ vs us
  | [], os, vs, ho, hv => by
    injection ho with ho
    subst ho
    injection hv with hv
    subst hv
    exact ⟨[], by simp, VRs.nil _⟩
  | r :: rs, os, vs, ho, hv => by
    have main : ∃ (x : O × Option (Nat × Bool)) (l : _), os = x :: l ∧ resO P base rs = some l ∧ ∀ v u, x.1.ev s.ls s.stk = some v → (match x.2 with | none => some v | some (sz, g) => sLoad sz g [v] s.h) = some u → ∃ y, (resF a.tmps r).run P w = .ok y w ∧ VR ρ u y := by
      cases r with
      | tmp t =>
        obtain ⟨x, hx, ho⟩ := ob_some ho
        obtain ⟨l, hl, ho⟩ := ob_some ho
        injection ho with ho
        refine ⟨_, _, ho.symm, hl, fun v u h1 h2 => ?_⟩
        injection h2 with h2
        subst h2
        exact ⟨_, rfl, tmO_rel hA (x := .tmp t) (fun _ _ => trivial) (opO_ev hc hx h1)⟩
      | cell c t =>
        obtain ⟨x, hx, ho⟩ := ob_some ho
        obtain ⟨i, hi, ho⟩ := ob_some ho
        obtain ⟨g, hg, ho⟩ := ob_some ho
        obtain ⟨l, hl, ho⟩ := ob_some ho
        injection ho with ho
        refine ⟨_, _, ho.symm, hl, fun v u h1 h2 => ?_⟩
        have h3 := tmO_rel hA (x := .tmp c) (fun _ _ => trivial) (opO_ev hc hx h1)
        obtain ⟨y, z, e, h4, h5⟩ := l_load hw hi hg (VRs.cons h3 (VRs.nil _)) h2
        injection e with e
        refine ⟨z, ?_, h5⟩
        have hp : ∃ ad, y = .pointer (some ad) := by
          have h2' : sLoad i.size g [v] s.h = some u := h2
          unfold sLoad at h2'
          split at h2'
          · next b o e0 =>
            injection e0 with e0
            subst e0
            obtain ⟨B, sh, L, hr, e1⟩ := h3.ptr_inv
            exact ⟨_, e.symm.trans e1⟩
          · cases h2'
        obtain ⟨ad, hp⟩ := hp
        show ((do loadVar t (← asAddr (a.eval (.tmp c))) : Sem Value)).run P w = _
        rw [e, hp]
        rw [hp] at h4
        simpa [asAddr, Instr.loadAt, Instr.sureAddr] using h4
    obtain ⟨x, l, e, hl, hy⟩ := main
    subst e
    obtain ⟨v, h1, hv⟩ := ob_some hv
    obtain ⟨u, h2, hv⟩ := ob_some hv
    obtain ⟨us, h3, hv⟩ := ob_some hv
    injection hv with hv
    subst hv
    obtain ⟨y, h4, h5⟩ := hy v u h1 h2
    obtain ⟨ys, h6, h7⟩ := res_run hc hA hw hl h3
    refine ⟨y :: ys, ?_, VRs.cons h5 h7⟩
    rw [List.mapM_cons]
    simp [h4, h6]
theorem tupV_rel {ρ : Rho} {vs : List V} {us : List Value} (h : VRs ρ vs us) : VR ρ (tupV vs) (if h : us.toArray.size = 1 then us.toArray[0] else .tuple us.toArray) := by
  have hl := h.1
  match vs, h with
  | [v], h =>
    obtain ⟨u, rfl, hv⟩ := h.one_inv
    exact hv
  | [], h =>
    obtain rfl := h.nil_inv
    exact .tup rfl (fun i v c hv => by simp at hv)
  | v :: v' :: vs, h =>
    have h2 : us.toArray.size ≠ 1 := by
      simp only [List.length_cons] at hl
      simp only [List.size_toArray]
      omega
    rw [dif_neg h2]
    exact .tup h.arr.1 h.arr.2
theorem mapM_arr {α β : Type} (f : α → Sem β) (l : Array α) {w : World} {us : List β} (h : (l.toList.mapM f).run P w = .ok us w) : (l.mapM f).run P w = .ok us.toArray w := by
  rw [Array.mapM_eq_mapM_toList]
  simp [h]
/-- with any fuel -/
def evFn (fuel : Nat) (cal : Cal) (F : FR2) (vs : List V) (h : H) : Option (V × H) := ob (argT F.ps vs .e) fun t => ob (evC2 cal fuel F.body ⟨t, [], h⟩) fun r => match r with
  | (.exit _, _) => none
  | (_, s) => ob (res2 s F.res) fun us => some (tupV us, s.h)
theorem compF_sound (hcal : CalOK P cal) (hbody : Bodied P cal) (hm : P.follows .mixedOrders = true) {f : FuncId} {fn : Func} {locs : List Nat} {hints : Hints} {F : FR2} (hf : P.funcs[f]? = some fn) (hc : compF P fn locs hints = some F) {vs : List V} {h h' : H} {v : V} {fuel : Nat} (he : evFn fuel cal F vs h = some (v, h')) {ρ : Rho} {w : World} {us : List Value} (hw : WR ρ h w) (hs : VRs ρ vs us) :
    Calls P f us.toArray w fun e w' => ∃ u ρ', e = .returned u ∧ VR ρ' v u ∧ WR ρ' h' w' ∧ St ρ h ρ' h' := by
  unfold compF at hc
  simp only at hc
  obtain ⟨c, hbd, hc⟩ := ob_some hc
  obtain ⟨ps, hps, hc⟩ := ob_some hc
  obtain ⟨res, hres, hc⟩ := ob_some hc
  obtain ⟨⟨c2, lay, hgt⟩, hco, hc⟩ := ob_some hc
  obtain ⟨hok, hc⟩ := io_some hc
  injection hc with hc
  subst hc
  obtain ⟨hn, hok⟩ := and2 hok
  obtain ⟨ls, ha, he⟩ := ob_some he
  obtain ⟨⟨x, s⟩, hev, he⟩ := ob_some he
  have hn := Nat.le_of_ble_eq_true hn
  have hpl := parPs_at hps
  have hvl := (argT_out ha).1
  obtain ⟨hbase, hcov⟩ := argOk_cov hok ha (fun i p hi => by have := parPs_mem hps i p hi; simpa using this)
  have hul : us.length = vs.length := hs.1.symm
  have hA : AR ρ fn.ntmps All (tm0 vs) { tmps := us.toArray ++ Array.replicate (fn.ntmps - us.toArray.size) undef, defers := [] } := by
    refine ⟨by simp; simp only at hvl; omega, fun t u _ hu => ?_⟩
    injection hu with hu
    subst hu
    cases hv : vs[t]? with
    | some v' =>
      obtain ⟨u, h1, h2⟩ := hs.at_ hv
      have hlt : t < us.length := (List.getElem?_eq_some_iff.1 h1).1
      have e : (us.toArray ++ Array.replicate (fn.ntmps - us.toArray.size) undef).getD t undef = u := by
        rw [Array.getD_eq_getD_getElem?, Array.getElem?_append_left (by simpa using hlt)]
        simp [h1]
      show VR ρ v' _
      rw [e]
      exact h2
    | none =>
      have hge : us.length ≤ t := by rw [hul]; exact List.getElem?_eq_none_iff.1 hv
      have e : (us.toArray ++ Array.replicate (fn.ntmps - us.toArray.size) undef).getD t undef = undef := by
        rw [Array.getD_eq_getD_getElem?, Array.getElem?_append_right (by simpa using hge)]
        by_cases hlt : t - us.toArray.size < fn.ntmps - us.toArray.size
        · rw [Array.getElem?_replicate, if_pos hlt]
          rfl
        · rw [Array.getElem?_eq_none (by simpa using hlt)]
          rfl
      show VR ρ (.lit undef) _
      rw [e]
      exact .lit undef
  refine calls_of_wp hf hbd (compC_sound hcal hbody hm hbase fuel hco hev hcov hcov hA hw ?_)
  intro ρ1 a1 w1 tm1 g1 g2 g3 g4 g5 g6
  have fin : (match x with | .exit _ => False | _ => True) → a1.defers = [] ∧ ∃ u, (results fn a1.tmps).run P w1 = .ok u w1 ∧ ∃ u' ρ', Ending.returned u = .returned u' ∧ VR ρ' v u' ∧ WR ρ' h' w1 ∧ St ρ h ρ' h' := by
    intro hx
    refine ⟨g2, ?_⟩
    have he' : ob (res2 s res) (fun us => some (tupV us, s.h)) = some (v, h') := by
      cases x with
      | exit i => exact hx.elim
      | normal => exact he
      | ret => exact he
    obtain ⟨rs, h1, h2⟩ := ob_some he'
    injection h2 with h2
    injection h2 with e1 e2
    subst e1 e2
    obtain ⟨us', h3, h4⟩ := res_run g5 g1 g3 hres h1
    refine ⟨_, ?_, _, ρ1, rfl, tupV_rel h4, g3, g4⟩
    have h5 := mapM_arr (resF a1.tmps) fn.results h3
    show (do let vs ← fn.results.mapM (resF a1.tmps); pure (if h : vs.size = 1 then vs[0] else .tuple vs) : Sem Value).run P w1 = _
    rw [Sem.run_bind, h5]
    rfl
  cases x with
  | normal => exact fin trivial
  | ret => exact fin trivial
  | exit i => cases he
/-- the functions of the tables -/
structure TabOK (P : Program) (nat : Nat → Option Cal) (irs : Nat → Option FR2) : Prop where
  ir : ∀ f F, irs f = some F → ∃ fn locs hints, P.funcs[f]? = some fn ∧ compF P fn locs hints = some F ∧ (fn.name == "runtime.NumGoroutine") = false
  bod : ∀ f g, nat f = some g → ∃ fn, P.funcs[f]? = some fn ∧ fn.body.isSome = true ∧ (fn.name == "runtime.NumGoroutine") = false
  nat : ∀ f g, nat f = some g → ∀ vs h v h', g f vs h = some (v, h') → ∀ (ρ : Rho) (w : World) (us : List Value), WR ρ h w → VRs ρ vs us → Calls P f us.toArray w fun e w' => ∃ u ρ', e = .returned u ∧ VR ρ' v u ∧ WR ρ' h' w' ∧ St ρ h ρ' h'
theorem evCall2_sound {nat : Nat → Option Cal} {irs : Nat → Option FR2} (ht : TabOK P nat irs) (hm : P.follows .mixedOrders = true) : ∀ n, CalOK P (evCall2 nat irs n) ∧ Bodied P (evCall2 nat irs n)
  | 0 => ⟨fun f vs h v h' he => (by cases he), fun f ⟨vs, h, r, he⟩ => (by cases he)⟩
  | n + 1 => by
    obtain ⟨ih1, ih2⟩ := evCall2_sound ht hm n
    refine ⟨fun f vs h v h' he ρ w us hw hs => ?_, fun f hf => ?_⟩
    · unfold evCall2 at he
      split at he
      · next F hF =>
        obtain ⟨fn, locs, hints, h1, h2, h3⟩ := ht.ir f F hF
        exact compF_sound ih1 ih2 hm h1 h2 (fuel := 5000) he hw hs
      · next hF =>
        obtain ⟨g, h1, h2⟩ := ob_some he
        exact ht.nat f g h1 vs h v h' h2 ρ w us hw hs
    · obtain ⟨vs, h, r, he⟩ := hf
      unfold evCall2 at he
      split at he
      · next F hF =>
        obtain ⟨fn, locs, hints, h1, h2, h3⟩ := ht.ir f F hF
        refine ⟨fn, h1, ?_, h3⟩
        unfold compF at h2
        obtain ⟨c, hbd, _⟩ := ob_some h2
        rw [hbd]
        rfl
      · next hF =>
        obtain ⟨g, h1, h2⟩ := ob_some he
        exact ht.bod f g h1
end
end Ev
end Go.Proofs.YtbcmcdmflblgkaaGreatDoor

/-
  Snd9: a region that draws: whatever order comes up, it ends where the order at hand ends.
-/
import Derived.Test.YtbcmcdmflblgkaaGreatDoorSnd8
import Derived.Orders
namespace Go.Proofs.YtbcmcdmflblgkaaGreatDoor
namespace Ev
open Go.RowKit
set_option linter.unusedVariables false
set_option linter.unusedSectionVars false
variable [bs : Base]
/-- does the operation look at a slot? -/
def Looks (P : Program) (ops : Array Oper) (o : Oper) (t : Nat) : Prop := (∃ k xs, opOf P o = some (k, xs) ∧ .tmp t ∈ xs) ∨ ∃ j want, o.guard = some (j, want) ∧ (ops[j]?).bind (fun o => o.dst) = some t
/-- does it read the heap? -/
def K.reads : K → Bool
  | .load .. | .b2s => true
  | _ => false
structure PlanOK (P : Program) (ops : Array Oper) (E : Nat → Bool) (M : Nat → Nat → Bool) (perm : List Nat) : Prop where
  all : ∀ i, i < ops.size → i ∈ perm
  nodup : perm.Nodup
  len : perm.length = ops.size
  lt : ∀ i ∈ perm, i < ops.size
  edge : ∀ i j, M i j = true → ∃ o e, ops[i]? = some o ∧ e ∈ o.after ∧ Region.binds .any e = true ∧ e.on < i ∧ (e.on = j ∨ M e.on j = true)
  dep : ∀ (i : Nat) o e, ops[i]? = some o → e ∈ o.after → Region.binds .any e = true → M i e.on = true
  topo : ∀ pre i post, perm = pre ++ i :: post → ∀ j, M i j = true → j ∈ pre
  after : ∀ pre i post, perm = pre ++ i :: post → E i = true → ∀ q ∈ post, M q i = true
  uniq : ∀ (i q : Nat) oi oq t, ops[i]? = some oi → ops[q]? = some oq → E i = false → oi.dst = some t → oq.dst = some t → q = i
  dst : ∀ (i : Nat) o, ops[i]? = some o → E i = false → ∃ t, o.dst = some t
  self : ∀ (i : Nat) o t, ops[i]? = some o → E i = false → o.dst = some t → ¬ Looks P ops o t
  look : ∀ (i q : Nat) oi oq t, ops[i]? = some oi → ops[q]? = some oq → q ≠ i → oq.dst = some t → Looks P ops oi t → M i q = true ∨ (E q = true ∧ M q i = true)
  flt : ∀ (i : Nat) o k xs, ops[i]? = some o → E i = false → opOf P o = some (k, xs) → k.kind = 0 ∨ k.kind = 1
/-- what was read reads so still -/
def reOk (P : Program) (ops : Array Oper) (tm : TM) (h : H) (r : Nat) : Prop := ∀ o k vs, ops[r]? = some o → gTm ops tm o.guard = some true → valsOf P tm o = some (k, vs) → ∀ t, o.dst = some t → ∃ v, semF k vs h = some v ∧ tm t = some v
/-- the order at hand, step by step, with what is read again behind each -/
inductive DRun (P : Program) (cal : Cal) (n : Nat) (ops : Array Oper) (E : Nat → Bool) (M : Nat → Nat → Bool) : List Nat → List Nat → TM → H → TM → H → Prop
  | nil {pre : List Nat} {tm : TM} {h : H} : DRun P cal n ops E M pre [] tm h tm h
  | cons {pre : List Nat} {i : Nat} {post : List Nat} {o : Oper} {tm tm1 tm' : TM} {h h1 h' : H} (ho : ops[i]? = some o) (hs : specOp P cal n ops o tm h = some (tm1, h1))
      (hre : (∃ k xs, opOf P o = some (k, xs) ∧ k.kind = 0) ∨ ∀ r ∈ pre, (E i = true → M i r = false) → ∀ ro k xs, ops[r]? = some ro → opOf P ro = some (k, xs) → k.reads = true → reOk P ops tm1 h1 r)
      (hr : DRun P cal n ops E M (pre ++ [i]) post tm1 h1 tm' h') : DRun P cal n ops E M pre (i :: post) tm h tm' h'
theorem semF_pure {k : K} (hk : k.reads = false) (vs : List V) (h h' : H) : semF k vs h = semF k vs h' := by
  cases k <;> first
    | (cases hk; done)
    | rfl
section
variable {P : Program} {cal : Cal} {n : Nat} {ops : Array Oper} {E : Nat → Bool} {M : Nat → Nat → Bool} {perm : List Nat}
/-- a float that has been reckoned but not been carried out -/
def Pend (P : Program) (ops : Array Oper) (ρ : Rho) (tm : TM) (h : H) (p : Nat) (ob : Option Po) : Prop := ∃ o t, ops[p]? = some o ∧ o.dst = some t ∧
  ((gTm ops tm o.guard = some false ∧ tm t = some (.lit undef) ∧ ob = none) ∨ (gTm ops tm o.guard = some true ∧ ∃ k vs, valsOf P tm o = some (k, vs) ∧
    ((k.kind = 0 ∧ ob = none ∧ ∃ v, semF k vs h = some v ∧ tm t = some v) ∨ (k.kind = 1 ∧ ∃ cs mk b, ob = some b ∧ semA k vs = some (cs, mk) ∧ tm t = some (mk b) ∧ h.get b = some cs ∧ ρ b = none ∧ b.nat < h.nx.nat))))
def listed (L : Array Bool) (i : Nat) : Prop := L.getD i true = true
structure Inv (P : Program) (n : Nat) (ops : Array Oper) (E : Nat → Bool) (M : Nat → Nat → Bool) (perm : List Nat) (ρ0 : Rho) (h0 : H) (pre post : List Nat) (tm : TM) (h : H) (ρ : Rho) (L : Array Bool) (a : Act) (w : World) : Prop where
  split : perm = pre ++ post
  size : L.size = ops.size
  sub : ∀ i, i < ops.size → listed L i → i ∈ pre
  eff : ∀ i ∈ pre, E i = true → listed L i
  closed : ∀ (i : Nat) o e, ops[i]? = some o → listed L i → e ∈ o.after → Region.binds .any e = true → listed L e.on
  pend : ∃ bl : Nat → Option Po, (∀ p ∈ pre, ¬ listed L p → Pend P ops ρ tm h p (bl p)) ∧ (∀ p q b, p ∈ pre → q ∈ pre → ¬ listed L p → ¬ listed L q → bl p = some b → bl q = some b → p = q) ∧ ∀ p b, p ∈ pre → ¬ listed L p → bl p = some b → h0.nx.nat ≤ b.nat
  ar : AR ρ n (fun t => ∀ (q : Nat) o, ops[q]? = some o → E q = false → ¬ listed L q → o.dst ≠ some t) tm a
  wr : WR ρ h w
  st : St ρ0 h0 ρ h
theorem gTm_congr {tm tm' : TM} {g : Option (Nat × Bool)} (h : ∀ (j : Nat) want t, g = some (j, want) → (ops[j]?).bind (fun o => o.dst) = some t → tm' t = tm t) : gTm ops tm' g = gTm ops tm g := by
  unfold gTm
  cases g with
  | none => rfl
  | some p =>
    obtain ⟨j, want⟩ := p
    simp only
    cases hd : (ops[j]?).bind (fun o => o.dst) with
    | none => rfl
    | some t => simp only; rw [h j want t rfl hd]
theorem tmOs_congr {tm tm' : TM} : ∀ {xs : List Operand}, (∀ t, .tmp t ∈ xs → tm' t = tm t) → tmOs tm' xs = tmOs tm xs
  | [], _ => rfl
  | x :: xs, h => by
    have h1 : tmO tm' x = tmO tm x := by
      cases x with
      | tmp t => exact h t (by simp)
      | _ => rfl
    unfold tmOs
    rw [h1, tmOs_congr (fun t ht => h t (List.mem_cons_of_mem _ ht))]
theorem valsOf_congr {tm tm' : TM} {o : Oper} (h : ∀ k xs t, opOf P o = some (k, xs) → .tmp t ∈ xs → tm' t = tm t) : valsOf P tm' o = valsOf P tm o := by
  unfold valsOf
  cases ho : opOf P o with
  | none => rfl
  | some x =>
    obtain ⟨k, xs⟩ := x
    show ob (tmOs tm' xs) _ = ob (tmOs tm xs) _
    rw [tmOs_congr (fun t ht => h k xs t ho ht)]
theorem ready_before (hp : PlanOK P ops E M perm) {L : Array Bool} (hc : ∀ (i : Nat) o e, ops[i]? = some o → listed L i → e ∈ o.after → Region.binds .any e = true → listed L e.on) : ∀ (i j : Nat), M i j = true → (∀ o e, ops[i]? = some o → e ∈ o.after → Region.binds .any e = true → listed L e.on) → listed L j := by
  intro i
  induction i using Nat.strongRecOn with
  | ind i ih =>
    intro j hM hi
    obtain ⟨o, e, ho, he, hb, hlt, hj⟩ := hp.edge i j hM
    have h1 := hi o e ho he hb
    rcases hj with rfl | hj
    · exact h1
    · exact ih e.on hlt j hj (fun o' e' ho' he' hb' => hc e.on o' e' ho' h1 he' hb')
theorem pend_keep {ρ ρ1 : Rho} {tm tm1 : TM} {h h1 : H} {p : Nat} {b : Option Po} (hp : Pend P ops ρ tm h p b) (hlook : ∀ o t, ops[p]? = some o → Looks P ops o t → tm1 t = tm t) (hdst : ∀ o t, ops[p]? = some o → o.dst = some t → tm1 t = tm t)
    (hre : ∀ o k xs, ops[p]? = some o → opOf P o = some (k, xs) → k.reads = true → reOk P ops tm1 h1 p ∨ h1 = h) (hblk : ∀ b, b.nat < h.nx.nat → ρ b = none → h1.get b = h.get b ∧ ρ1 b = none) (hup : h.nx.nat ≤ h1.nx.nat) : Pend P ops ρ1 tm1 h1 p b := by
  obtain ⟨o, t, ho, hd, hc⟩ := hp
  have hg : gTm ops tm1 o.guard = gTm ops tm o.guard := gTm_congr fun j want t hj ht => hlook o t ho (.inr ⟨j, want, hj, ht⟩)
  have hv : valsOf P tm1 o = valsOf P tm o := valsOf_congr fun k xs t h1 h2 => hlook o t ho (.inl ⟨k, xs, h1, h2⟩)
  have ht := hdst o t ho hd
  refine ⟨o, t, ho, hd, ?_⟩
  rw [hg, hv, ht]
  rcases hc with hc | ⟨hgt, k, vs, hkv, hc⟩
  · exact .inl hc
  · refine .inr ⟨hgt, k, vs, hkv, ?_⟩
    rcases hc with ⟨hk, hb, v, hsv, htv⟩ | ⟨hk, cs, mk, b', hb, hA, htm, hget, hρ, hlt⟩
    · refine .inl ⟨hk, hb, v, ?_, htv⟩
      obtain ⟨⟨k', xs⟩, hop, hkv'⟩ := ob_some hkv
      obtain ⟨vs', hvs', hkv'⟩ := ob_some hkv'
      injection hkv' with hkv'
      injection hkv' with e1 e2
      subst e1 e2
      by_cases hr : k'.reads = true
      · rcases hre o k' xs ho hop hr with h2 | rfl
        · obtain ⟨v2, h3, h4⟩ := h2 o k' vs' ho (hg.trans hgt) (hv.trans hkv) t hd
          rw [ht, htv] at h4
          injection h4 with h4
          rw [h4]
          exact h3
        · exact hsv
      · rw [semF_pure (by simpa using hr) vs' h1 h]
        exact hsv
    · obtain ⟨h2, h3⟩ := hblk b' hlt hρ
      exact .inr ⟨hk, cs, mk, b', hb, hA, htm, h2.trans hget, h3, Nat.lt_of_lt_of_le hlt hup⟩
theorem mem_split (hp : PlanOK P ops E M perm) {pre post : List Nat} (hs : perm = pre ++ post) {i : Nat} (hi : i ∈ pre) : i ∉ post := fun h => by
  have := hp.nodup
  rw [hs, List.nodup_append] at this
  exact this.2.2 i hi i h rfl
/-- a float that comes next is reckoned at once -/
theorem inv_adv (hp : PlanOK P ops E M perm) {pre post : List Nat} {f : Nat} {o : Oper} {tm tm1 : TM} {h h1 : H} {ρ0 ρ : Rho} {h0 : H} {L : Array Bool} {a : Act} {w : World} (hi : Inv P n ops E M perm ρ0 h0 pre (f :: post) tm h ρ L a w) (hE : E f = false) (ho : ops[f]? = some o)
    (hs : specOp P cal n ops o tm h = some (tm1, h1)) (hre : (∃ k xs, opOf P o = some (k, xs) ∧ k.kind = 0) ∨ ∀ r ∈ pre, (E f = true → M f r = false) → ∀ ro k xs, ops[r]? = some ro → opOf P ro = some (k, xs) → k.reads = true → reOk P ops tm1 h1 r) :
    Inv P n ops E M perm ρ0 h0 (pre ++ [f]) post tm1 h1 ρ L a w := by
  have hfsz : f < ops.size := (Array.getElem?_eq_some_iff.1 ho).1
  have hfpre : f ∉ pre := fun hm => mem_split hp hi.split hm (by simp)
  have hfL : ¬ listed L f := fun hl => hfpre (hi.sub f hfsz hl)
  obtain ⟨t, hd⟩ := hp.dst f o ho hE
  unfold specOp at hs
  obtain ⟨hr, hs⟩ := io_some hs
  obtain ⟨b, hb, hs⟩ := ob_some hs
  have hself : ∀ s, Looks P ops o s → s ≠ t := fun s hl e => hp.self f o s ho hE (by rw [e]; exact hd) hl
  have hts : ∀ v s, s ≠ t → tset tm o.dst v s = tm s := fun v s hs => by rw [hd]; unfold tset; exact if_neg hs
  have htt : ∀ v, tset tm o.dst v t = some v := fun v => by rw [hd]; unfold tset; exact if_pos rfl
  have hg1 : ∀ v, gTm ops (tset tm o.dst v) o.guard = gTm ops tm o.guard := fun v => gTm_congr fun j want s h1 h2 => hts v s (hself s (.inr ⟨j, want, h1, h2⟩))
  have hv1 : ∀ v, valsOf P (tset tm o.dst v) o = valsOf P tm o := fun v => valsOf_congr fun k xs s h1 h2 => hts v s (hself s (.inl ⟨k, xs, h1, h2⟩))
  have hnone := hi.wr.new h.nx (Nat.le_refl _)
  have key : (∀ s, s ≠ t → tm1 s = tm s) ∧ (∀ b, b.nat < h.nx.nat → h1.get b = h.get b) ∧ h.nx.nat ≤ h1.nx.nat ∧ WR ρ h1 w ∧ (h1 = h ∨ ∃ k xs, opOf P o = some (k, xs) ∧ k.kind = 1) ∧
      ∃ ob, Pend P ops ρ tm1 h1 f ob ∧ ∀ b, ob = some b → b = h.nx := by
    cases b with
    | false =>
      injection hs with hs
      injection hs with e1 e2
      subst e1 e2
      exact ⟨hts _, fun _ _ => rfl, Nat.le_refl _, hi.wr, .inl rfl, none, ⟨o, t, ho, hd, .inl ⟨(hg1 _).trans hb, htt _, rfl⟩⟩, fun b h => by cases h⟩
    | true =>
      obtain ⟨⟨k, vs⟩, hx, hs⟩ := ob_some hs
      obtain ⟨⟨v, h2⟩, hv, hs⟩ := ob_some hs
      injection hs with hs
      injection hs with e1 e2
      subst e1 e2
      obtain ⟨⟨k', xs⟩, hop, hx'⟩ := ob_some hx
      obtain ⟨vs', hvs', hx'⟩ := ob_some hx'
      injection hx' with hx'
      injection hx' with e1 e2
      subst e1 e2
      rcases hp.flt f o k' xs ho hE hop with hk | hk
      · obtain ⟨hF, rfl⟩ := semK_F hk hv
        exact ⟨hts _, fun _ _ => rfl, Nat.le_refl _, hi.wr, .inl rfl, none, ⟨o, t, ho, hd, .inr ⟨(hg1 _).trans hb, k', vs', (hv1 _).trans hx, .inl ⟨hk, rfl, v, hF, htt _⟩⟩⟩, fun b h => by cases h⟩
      · obtain ⟨cs, mk, hA, rfl, rfl⟩ := semK_A hk hv
        refine ⟨hts _, fun b hb => by rw [H.get_new, if_neg (fun e => by rw [e] at hb; omega)], by rw [H.nx_new]; omega, ⟨fun b ds hb => ?_, fun b b' ds ds' hb hb' B q q' h1 h2 => ?_, fun b hb => hi.wr.new b (by rw [H.nx_new] at hb; omega), hi.wr.own, hi.wr.below, hi.wr.lt⟩, .inr ⟨k', xs, hop, hk⟩, some h.nx, ⟨o, t, ho, hd, .inr ⟨(hg1 _).trans hb, k', vs', (hv1 _).trans hx, .inr ⟨hk, cs, mk, h.nx, rfl, hA, htt _, by rw [H.get_new, if_pos rfl], hnone, by rw [H.nx_new]; omega⟩⟩⟩, fun b h => by injection h with h; exact h.symm⟩
        · intro B s L hB
          rw [H.get_new] at hb
          split at hb
          · rename_i e; rw [e, hnone] at hB; cases hB
          · exact hi.wr.cells b ds hb B s L hB
        · rw [H.get_new] at hb hb'
          split at hb
          · rename_i e; rw [e, hnone] at h1; cases h1
          · split at hb'
            · rename_i e; rw [e, hnone] at h2; cases h2
            · exact hi.wr.inj b b' ds ds' hb hb' B q q' h1 h2
  obtain ⟨k1, k2, k3, k4, k5, ob, k6, k7⟩ := key
  obtain ⟨bl, hbl, hdist, hlow⟩ := hi.pend
  have hlt : ∀ p b, p ∈ pre → ¬ listed L p → bl p = some b → b.nat < h.nx.nat := fun p b hm hn hb => by
    obtain ⟨_, _, _, _, hc⟩ := hbl p hm hn
    rcases hc with ⟨_, _, hz⟩ | ⟨_, _, _, _, hc⟩
    · rw [hb] at hz; cases hz
    · rcases hc with ⟨_, hz, _⟩ | ⟨_, _, _, b', hz, _, _, _, _, hl⟩
      · rw [hb] at hz; cases hz
      · rw [hb] at hz; injection hz with hz; rw [hz]; exact hl
  have hne : ∀ p, p ∈ pre → p ≠ f := fun p hm e => hfpre (e ▸ hm)
  refine ⟨by rw [hi.split]; simp, hi.size, fun i h1 h2 => List.mem_append_left _ (hi.sub i h1 h2), fun i h1 h2 => ?_, hi.closed, ⟨fun p => if p = f then ob else bl p, fun p h1 h2 => ?_, fun p q b h1 h2 h3 h4 h5 h6 => ?_, fun p b h1 h2 h3 => ?_⟩, ⟨hi.ar.1, fun s v hk hv => ?_⟩, k4, ⟨hi.st.same, Nat.le_trans hi.st.up k3, fun b hb hn => (k2 b (Nat.lt_of_lt_of_le hb hi.st.up)).trans (hi.st.keep b hb hn)⟩⟩
  · rcases List.mem_append.1 h1 with h1 | h1
    · exact hi.eff i h1 h2
    · simp at h1; rw [h1, hE] at h2; cases h2
  · rcases List.mem_append.1 h1 with h1 | h1
    · simp only [if_neg (hne p h1)]
      have hpE : E p = false := by
        cases hh : E p with
        | false => rfl
        | true => exact absurd (hi.eff p h1 hh) h2
      have hMpf : ∀ q, M p q = true → q ∈ pre := fun q hM => by
        obtain ⟨pr, po, e⟩ := List.append_of_mem h1
        have := hp.topo pr p (po ++ f :: post) (by rw [hi.split, e]; simp) q hM
        rw [e]
        exact List.mem_append_left _ this
      refine pend_keep (hbl p h1 h2) (fun o' s ho' hl => k1 s fun e => ?_) (fun o' s ho' hd' => k1 s fun e => ?_) (fun o' k xs ho' hop hrd => ?_) (fun b hb hn => ⟨k2 b hb, hn⟩) k3
      · subst e
        rcases hp.look p f o' o s ho' ho (Ne.symm (hne p h1)) hd hl with h | ⟨h, _⟩
        · exact hfpre (hMpf f h)
        · rw [hE] at h; cases h
      · subst e
        exact hne p h1 (hp.uniq f p o o' s ho ho' hE hd hd')
      · rcases hre with ⟨k0, xs0, hop0, hk0⟩ | hre
        · right
          rcases k5 with k5 | ⟨k9, xs9, hop9, hk9⟩
          · exact k5
          · rw [hop0] at hop9
            injection hop9 with hop9
            injection hop9 with e1 e2
            rw [e1, hk9] at hk0
            cases hk0
        · left
          exact hre p h1 (fun e => by rw [hE] at e; cases e) o' k xs ho' hop hrd
    · simp at h1
      subst h1
      simp only [if_pos]
      exact k6
  · rcases List.mem_append.1 h1 with m1 | m1 <;> rcases List.mem_append.1 h2 with m2 | m2
    · simp only [if_neg (hne p m1)] at h5
      simp only [if_neg (hne q m2)] at h6
      exact hdist p q b m1 m2 h3 h4 h5 h6
    · simp at m2
      subst m2
      simp only [if_neg (hne p m1)] at h5
      simp only [if_pos] at h6
      have := hlt p b m1 h3 h5
      rw [k7 b h6] at this
      omega
    · simp at m1
      subst m1
      simp only [if_neg (hne q m2)] at h6
      simp only [if_pos] at h5
      have := hlt q b m2 h4 h6
      rw [k7 b h5] at this
      omega
    · simp at m1 m2
      rw [m1, m2]
  · rcases List.mem_append.1 h1 with m1 | m1
    · simp only [if_neg (hne p m1)] at h3
      exact hlow p b m1 h2 h3
    · simp at m1
      subst m1
      simp only [if_pos] at h3
      rw [k7 b h3]
      exact hi.st.up
  · have hst : s ≠ t := fun e => hk f o ho hE hfL (by rw [e]; exact hd)
    rw [k1 s hst] at hv
    exact hi.ar.2 s v hk hv
theorem listed_set {L : Array Bool} {i j : Nat} : listed (L.setIfInBounds i true) j ↔ j = i ∨ listed L j := by
  unfold listed
  rw [Array.getD_eq_getD_getElem?, Array.getD_eq_getD_getElem?]
  by_cases e : j = i
  · subst e
    rw [Array.getElem?_setIfInBounds]
    simp only [true_or, iff_true]
    split
    · split <;> rfl
    · rename_i hne; exact absurd trivial hne
  · rw [Array.getElem?_setIfInBounds_ne (Ne.symm e)]
    simp [e]
theorem tset_self {tm : TM} {t : Nat} {v : V} (h : tm t = some v) : tset tm (some t) v = tm := by
  funext s
  unfold tset
  simp only
  split
  · rename_i e; rw [e, h]
  · rfl
/-- a block that was reckoned is made -/
theorem WR.late {ρ : Rho} {h : H} {w : World} (hw : WR ρ h w) {b : Po} {cs : List V} {arr : Array Value} {e : TypeId} (hb : h.get b = some cs) (hn : ρ b = none) (hlt : b.nat < h.nx.nat) (hR : VRs ρ cs arr.toList) :
    WR (upd ρ b (w.heap.size, 0, arr.size)) h (w.alloc (.cells arr e)) ∧ Ext ρ (upd ρ b (w.heap.size, 0, arr.size)) := by
  have hext : Ext ρ (upd ρ b (w.heap.size, 0, arr.size)) := fun c p hc => by
    unfold upd
    rw [if_neg (fun e => by rw [e, hn] at hc; cases hc)]
    exact hc
  have hsz : ∀ {B : Nat} {o : Obj}, w.heap[B]? = some o → B < w.heap.size := fun h => (Array.getElem?_eq_some_iff.1 h).1
  have hold : ∀ {B : Nat} {o : Obj}, w.heap[B]? = some o → (w.alloc (.cells arr e)).heap[B]? = some o := fun {B o} h => by
    have := hsz h
    simp only [World.alloc]
    rw [Array.getElem?_push_lt this, ← h, Array.getElem?_eq_getElem this]
  refine ⟨⟨fun c ds hc B s L hB => ?_, fun c c' ds ds' hc hc' B q q' h1 h2 => ?_, fun c hc => ?_, upd_own hw (bs.fr _ hw.below.size), hw.below.alloc _, upd_lt hw (by simp) (by simp)⟩, hext⟩
  · unfold upd at hB
    split at hB
    · rename_i e'
      subst e'
      rw [hb] at hc
      injection hc with hc
      injection hB with hB
      injection hB with e1 e2
      injection e2 with e2 e3
      subst hc e1 e2 e3
      refine ⟨arr, e, heap_alloc_new w _, rfl, fun i v hv => ?_⟩
      obtain ⟨u, hu, huv⟩ := hR.at_ hv
      exact ⟨u, by rw [Nat.zero_add]; simpa using hu, huv.ext hext⟩
    · obtain ⟨arr', e', ha, hL, hcell⟩ := hw.cells c ds hc B s L hB
      exact ⟨arr', e', hold ha, hL, fun i v hv => by obtain ⟨u, hu, huv⟩ := hcell i v hv; exact ⟨u, hu, huv.ext hext⟩⟩
  · unfold upd at h1 h2
    by_cases e1 : c = b <;> by_cases e2 : c' = b
    · rw [e1, e2]
    · rw [if_pos e1] at h1
      rw [if_neg e2] at h2
      injection h1 with h1
      injection h1 with h1 _
      obtain ⟨s', L'⟩ := q'
      obtain ⟨arr', e', ha, _⟩ := hw.cells c' ds' hc' B s' L' h2
      have := hsz ha
      omega
    · rw [if_pos e2] at h2
      rw [if_neg e1] at h1
      injection h2 with h2
      injection h2 with h2 _
      obtain ⟨s', L'⟩ := q
      obtain ⟨arr', e', ha, _⟩ := hw.cells c ds hc B s' L' h1
      have := hsz ha
      omega
    · rw [if_neg e1] at h1
      rw [if_neg e2] at h2
      exact hw.inj c c' ds ds' hc hc' B q q' h1 h2
  · unfold upd
    rw [if_neg (fun e => by rw [e] at hc; omega)]
    exact hw.new c hc
abbrev Known (ops : Array Oper) (E : Nat → Bool) (L : Array Bool) : Nat → Prop := fun t => ∀ (q : Nat) o, ops[q]? = some o → E q = false → ¬ listed L q → o.dst ≠ some t
theorem known_look (hp : PlanOK P ops E M perm) {L : Array Bool} (hc : ∀ (i : Nat) o e, ops[i]? = some o → listed L i → e ∈ o.after → Region.binds .any e = true → listed L e.on) {i : Nat} {o : Oper} (ho : ops[i]? = some o) (hr : ∀ e ∈ o.after, Region.binds .any e = true → listed L e.on) {t : Nat} (hl : Looks P ops o t) : Known ops E L t := by
  intro q oq hq hEq hnl hd
  have hrb : ∀ j, M i j = true → listed L j := fun j hM => ready_before hp hc i j hM (fun o' e ho' he hb => by rw [ho] at ho'; injection ho' with ho'; subst ho'; exact hr e he hb)
  by_cases e : q = i
  · subst e
    rw [ho] at hq
    injection hq with hq
    subst hq
    exact hp.self q o t ho hEq hd hl
  · rcases hp.look i q o oq t ho hq e hd hl with h | ⟨h, _⟩
    · exact hnl (hrb q h)
    · rw [hEq] at h; cases h
/-- a float is carried out -/
theorem float_step (hp : PlanOK P ops E M perm) {pre post : List Nat} {i : Nat} {o : Oper} {tm : TM} {h : H} {ρ0 ρ : Rho} {h0 : H} {L : Array Bool} {a : Act} {w : World} (hi : Inv P n ops E M perm ρ0 h0 pre post tm h ρ L a w) (hin : dstsIn n ops) (hE : E i = false) (ho : ops[i]? = some o) (hpre : i ∈ pre) (hnl : ¬ listed L i)
    (hr : ∀ e ∈ o.after, Region.binds .any e = true → listed L e.on) {K : Act → World → Prop} {Q : Exit → Act → World → Prop} (hK : ∀ ρ' a' w', Inv P n ops E M perm ρ0 h0 pre post tm h ρ' (L.setIfInBounds i true) a' w' → a'.defers = a.defers → K a' w') : wpOp P ops Q i K a w := by
  obtain ⟨bl, hbl, hdist, hlow⟩ := hi.pend
  have hP := hbl i hpre hnl
  have hP' := hP
  obtain ⟨o', t, ho', hd, hc⟩ := hP
  rw [ho] at ho'
  injection ho' with ho'
  subst ho'
  have hin' : inRange n o.dst = true := by
    rw [hd]
    exact Nat.ble_eq_true_of_le (hin i t (by rw [ho]; exact hd))
  have hkn : ∀ s, Looks P ops o s → Known ops E L s := fun s hl => known_look hp hi.closed ho hr hl
  have hwant : ∀ b, gTm ops tm o.guard = some b → Region.wanted o (yielded ops a.tmps) = b := fun b hb => gTm_rel hi.ar hin (fun j want s h1 h2 => hkn s (.inr ⟨j, want, h1, h2⟩)) hb
  -- the state behind it
  have next : ∀ (ρ' : Rho) (u : Value) (w' : World) (v : V), Ext ρ ρ' → (∀ b, bl i ≠ some b → ρ' b = ρ b) → WR ρ' h w' → VR ρ' v u → tm t = some v → Inv P n ops E M perm ρ0 h0 pre post tm h ρ' (L.setIfInBounds i true) (a.put o.dst u) w' := by
    intro ρ' u w' v hext hoth hw' hvu htv
    refine ⟨hi.split, by simp [hi.size], fun j h1 h2 => ?_, fun j h1 h2 => listed_set.2 (.inr (hi.eff j h1 h2)), fun j oj e h1 h2 h3 h4 => ?_, ⟨bl, fun p h1 h2 => ?_, fun p q b h1 h2 h3 h4 => hdist p q b h1 h2 (fun x => h3 (listed_set.2 (.inr x))) (fun x => h4 (listed_set.2 (.inr x))), fun p b h1 h2 => hlow p b h1 (fun x => h2 (listed_set.2 (.inr x)))⟩, ?_, hw', ⟨fun b hb => ?_, hi.st.up, hi.st.keep⟩⟩
    · rcases listed_set.1 h2 with rfl | h2
      · exact hpre
      · exact hi.sub j h1 h2
    · rcases listed_set.1 h2 with rfl | h2
      · rw [ho] at h1
        injection h1 with h1
        subst h1
        exact listed_set.2 (.inr (hr e h3 h4))
      · exact listed_set.2 (.inr (hi.closed j oj e h1 h2 h3 h4))
    · have hpi : p ≠ i := fun e => h2 (listed_set.2 (.inl e))
      have hpl : ¬ listed L p := fun x => h2 (listed_set.2 (.inr x))
      have hpp := hbl p h1 hpl
      obtain ⟨o2, t2, g1, g2, g3⟩ := hpp
      refine ⟨o2, t2, g1, g2, ?_⟩
      rcases g3 with g3 | ⟨g3, k, vs, g4, g5⟩
      · exact .inl g3
      · refine .inr ⟨g3, k, vs, g4, ?_⟩
        rcases g5 with g5 | ⟨g5, cs, mk, b, g6, g7, g8, g9, g10, g11⟩
        · exact .inl g5
        · refine .inr ⟨g5, cs, mk, b, g6, g7, g8, g9, ?_, g11⟩
          rw [hoth b (fun e => hpi (hdist p i b h1 hpre hpl hnl g6 e))]
          exact g10
    · have := (hi.ar.ext hext).put (S' := Known ops E (L.setIfInBounds i true)) hin' hvu (fun s hs => by
        by_cases e : s = t
        · right; rw [e]; exact hd
        · left
          intro q oq h1 h2 h3 h4
          refine hs q oq h1 h2 (fun x => ?_) h4
          rcases listed_set.1 x with rfl | x
          · rw [ho] at h1
            injection h1 with h1
            subst h1
            rw [hd] at h4
            injection h4 with h4
            exact e h4.symm
          · exact h3 x)
      rw [hd, tset_self htv] at this
      rw [hd]
      exact this
    · have hne : bl i ≠ some b := fun e => by have := hlow i b hpre hnl e; omega
      rw [hoth b hne]
      exact hi.st.same b hb
  unfold wpOp
  rw [ho]
  simp only
  rcases hc with ⟨hg, htv, hbn⟩ | ⟨hg, k, vs, hkv, hc⟩
  · rw [hwant false hg, if_neg (by decide)]
    exact hK ρ _ w (next ρ undef w _ (Ext.refl _) (fun _ _ => rfl) hi.wr (.lit _) htv) (put_defers _ _ _)
  · rw [hwant true hg, if_pos rfl]
    left
    obtain ⟨⟨k', xs⟩, hop, hkv'⟩ := ob_some hkv
    obtain ⟨vs', hvs', hkv'⟩ := ob_some hkv'
    injection hkv' with hkv'
    injection hkv' with e1 e2
    subst e1 e2
    have hvr := tmOs_rel hi.ar (fun s hs => hkn s (.inl ⟨k', xs, hop, hs⟩)) hvs'
    unfold Oper.wp
    rcases hc with ⟨hk, hbn, v, hF, htv⟩ | ⟨hk, cs, mk, b, hbs, hA, htm, hget, hρ, hlt⟩
    · obtain ⟨u, hrun, hR⟩ := f_sound hi.wr hop hvr hF
      rw [hrun]
      exact hK ρ _ w (next ρ u w v (Ext.refl _) (fun _ _ => rfl) hi.wr hR htv) (put_defers _ _ _)
    · obtain ⟨u, arr, e, hrun, hR, hmk⟩ := a_sound (w := w) hop hvr hA
      rw [hrun]
      obtain ⟨hw', hext⟩ := hi.wr.late (e := e) hget hρ hlt hR
      refine hK _ _ _ (next _ u _ (mk b) hext (fun c hc => ?_) hw' (hmk _ b (if_pos rfl)) htm) (put_defers _ _ _)
      unfold upd
      rw [if_neg (fun e => hc (by rw [e]; exact hbs))]
/-- a call, or what writes, is carried out -/
theorem eff_step (hcal : CalOK P cal) (hbody : Bodied P cal) (hp : PlanOK P ops E M perm) {pre post : List Nat} {i : Nat} {o : Oper} {tm tm1 : TM} {h h1 : H} {ρ0 ρ : Rho} {h0 : H} {L : Array Bool} {a : Act} {w : World} (hi : Inv P n ops E M perm ρ0 h0 pre (i :: post) tm h ρ L a w) (hin : dstsIn n ops) (hE : E i = true) (ho : ops[i]? = some o)
    (hr : ∀ e ∈ o.after, Region.binds .any e = true → listed L e.on) (hs : specOp P cal n ops o tm h = some (tm1, h1)) (hre : (∃ k xs, opOf P o = some (k, xs) ∧ k.kind = 0) ∨ ∀ r ∈ pre, (E i = true → M i r = false) → ∀ ro k xs, ops[r]? = some ro → opOf P ro = some (k, xs) → k.reads = true → reOk P ops tm1 h1 r)
    {K : Act → World → Prop} {Q : Exit → Act → World → Prop} (hK : ∀ ρ' a' w', Inv P n ops E M perm ρ0 h0 (pre ++ [i]) post tm1 h1 ρ' (L.setIfInBounds i true) a' w' → a'.defers = a.defers → K a' w') : wpOp P ops Q i K a w := by
  have hisz : i < ops.size := (Array.getElem?_eq_some_iff.1 ho).1
  have hipre : i ∉ pre := fun hm => mem_split hp hi.split hm (by simp)
  obtain ⟨bl, hbl, hdist, hlow⟩ := hi.pend
  have hrb : ∀ j, M i j = true → listed L j := fun j hM => ready_before hp hi.closed i j hM (fun o' e ho' he hb => by rw [ho] at ho'; injection ho' with ho'; subst ho'; exact hr e he hb)
  have hkn : ∀ s, Looks P ops o s → Known ops E L s := fun s hl => known_look hp hi.closed ho hr hl
  -- what the step leaves of the slots
  have hts : ∀ s, o.dst ≠ some s → tm1 s = tm s := fun s hs' => by
    unfold specOp at hs
    obtain ⟨_, hs⟩ := io_some hs
    obtain ⟨b, _, hs⟩ := ob_some hs
    have hset : ∀ v, tset tm o.dst v s = tm s := fun v => by
      unfold tset
      cases hd : o.dst with
      | none => rfl
      | some t => simp only; exact if_neg (fun e => hs' (by rw [hd, e]))
    cases b with
    | false => injection hs with hs; injection hs with e1 _; rw [← e1]; exact hset _
    | true =>
      obtain ⟨_, _, hs⟩ := ob_some hs
      obtain ⟨_, _, hs⟩ := ob_some hs
      injection hs with hs
      injection hs with e1 _
      rw [← e1]
      exact hset _
  have hkind0 : (∃ k xs, opOf P o = some (k, xs) ∧ k.kind = 0) → h1 = h := fun ⟨k, xs, hop, hk⟩ => by
    unfold specOp at hs
    obtain ⟨_, hs⟩ := io_some hs
    obtain ⟨b, _, hs⟩ := ob_some hs
    cases b with
    | false => injection hs with hs; injection hs with _ e2; exact e2.symm
    | true =>
      obtain ⟨⟨k', vs⟩, hx, hs⟩ := ob_some hs
      obtain ⟨⟨v, h2⟩, hv, hs⟩ := ob_some hs
      injection hs with hs
      injection hs with _ e2
      obtain ⟨⟨k2, xs2⟩, hop2, hx⟩ := ob_some hx
      obtain ⟨vs2, _, hx⟩ := ob_some hx
      injection hx with hx
      injection hx with q1 q2
      rw [hop] at hop2
      injection hop2 with hop2
      injection hop2 with q3 _
      subst q1 q3
      rw [← e2]
      exact (semK_F hk hv).2
  unfold wpOp
  rw [ho]
  simp only
  refine specOp_sound hcal hbody hs hi.ar hi.wr hin (fun xs k t h1 h2 => hkn t (.inl ⟨k, xs, h1, h2⟩)) (fun j want t h1 h2 => hkn t (.inr ⟨j, want, h1, h2⟩)) fun ρ' a' w' g1 g2 g3 g4 => hK ρ' a' w' ?_ g2
  refine ⟨by rw [hi.split]; simp, by simp [hi.size], fun j q1 q2 => ?_, fun j q1 q2 => ?_, fun j oj e q1 q2 q3 q4 => ?_, ⟨bl, fun p q1 q2 => ?_, fun p q b q1 q2 q3 q4 q5 q6 => ?_, fun p b q1 q2 q3 => ?_⟩, g1.less (fun t ht => .inl fun q oq h1 h2 h3 => ht q oq h1 h2 (fun x => by
    rcases listed_set.1 x with rfl | x
    · rw [hE] at h2; cases h2
    · exact h3 x)), g3, hi.st.trans g4⟩
  · rcases listed_set.1 q2 with rfl | q2
    · simp
    · exact List.mem_append_left _ (hi.sub j q1 q2)
  · rcases List.mem_append.1 q1 with m1 | m1
    · exact listed_set.2 (.inr (hi.eff j m1 q2))
    · simp at m1
      exact listed_set.2 (.inl m1)
  · rcases listed_set.1 q2 with rfl | q2
    · rw [ho] at q1
      injection q1 with q1
      subst q1
      exact listed_set.2 (.inr (hr e q3 q4))
    · exact listed_set.2 (.inr (hi.closed j oj e q1 q2 q3 q4))
  · have hpi : p ≠ i := fun e => q2 (listed_set.2 (.inl e))
    have hpl : ¬ listed L p := fun x => q2 (listed_set.2 (.inr x))
    have hpp : p ∈ pre := by
      rcases List.mem_append.1 q1 with m1 | m1
      · exact m1
      · simp at m1; exact absurd m1 hpi
    have hpE : E p = false := by
      cases hh : E p with
      | false => rfl
      | true => exact absurd (hi.eff p hpp hh) hpl
    have hMp : ∀ q, M p q = true → q ∈ pre := fun q hM => by
      obtain ⟨pr, po, e⟩ := List.append_of_mem hpp
      have := hp.topo pr p (po ++ i :: post) (by rw [hi.split, e]; simp) q hM
      rw [e]
      exact List.mem_append_left _ this
    refine pend_keep (hbl p hpp hpl) (fun o' s ho' hl => hts s fun e => ?_) (fun o' s ho' hd' => hts s fun e => ?_) (fun o' k xs ho' hop hrd => ?_) (fun b hb hn => ⟨g4.keep b hb hn, (g4.same b hb).trans hn⟩) g4.up
    · rcases hp.look p i o' o s ho' ho (Ne.symm hpi) e hl with h | ⟨_, h⟩
      · exact hipre (hMp i h)
      · exact hpl (hrb p h)
    · exact hpi (hp.uniq p i o' o s ho' ho hpE hd' e).symm
    · rcases hre with h0 | hre
      · right; exact hkind0 h0
      · left
        refine hre p hpp (fun _ => ?_) o' k xs ho' hop hrd
        cases hM : M i p with
        | false => rfl
        | true => exact absurd (hrb p hM) hpl
  · have hm : ∀ x, x ∈ pre ++ [i] → ¬ listed (L.setIfInBounds i true) x → x ∈ pre ∧ ¬ listed L x := fun x h1 h2 => by
      rcases List.mem_append.1 h1 with m1 | m1
      · exact ⟨m1, fun y => h2 (listed_set.2 (.inr y))⟩
      · simp at m1; exact absurd (listed_set.2 (.inl m1)) h2
    obtain ⟨a1, a2⟩ := hm p q1 q3
    obtain ⟨b1, b2⟩ := hm q q2 q4
    exact hdist p q b a1 b1 a2 b2 q5 q6
  · rcases List.mem_append.1 q1 with m1 | m1
    · exact hlow p b m1 (fun y => q2 (listed_set.2 (.inr y))) q3
    · simp at m1; exact absurd (listed_set.2 (.inl m1)) q2
theorem all_listed (hp : PlanOK P ops E M perm) {L : Array Bool} (hsz : L.size = ops.size) (hr : Region.ready .any ops L = []) : ∀ i, i < ops.size → listed L i := by
  have step : ∀ (xs ys : List Nat), perm = xs ++ ys → (∀ x ∈ xs, listed L x) → ∀ y ∈ ys, listed L y := by
    intro xs ys
    induction ys generalizing xs with
    | nil => intro _ _ y h; cases h
    | cons p ys ih =>
      intro hs hx
      have hpm : p < ops.size := hp.lt p (by rw [hs]; simp)
      have hpl : listed L p := by
        cases hh : L.getD p true with
        | true => exact hh
        | false =>
          exfalso
          have hmem : p ∈ Region.ready .any ops L := by
            refine mem_ready.2 ⟨hh, ops[p], Array.getElem?_eq_getElem hpm, fun e he hb => ?_⟩
            have hM := hp.dep p ops[p] e (Array.getElem?_eq_getElem hpm) he hb
            have hin := hp.topo xs p ys hs e.on hM
            have hl := hx e.on hin
            have hlt : e.on < ops.size := hp.lt e.on (by rw [hs]; exact List.mem_append_left _ hin)
            unfold listed at hl
            rw [Array.getD_eq_getD_getElem?, Array.getElem?_eq_getElem (by omega)] at hl ⊢
            exact hl
          rw [hr] at hmem
          cases hmem
      intro y hy
      rcases List.mem_cons.1 hy with rfl | hy
      · exact hpl
      · exact ih (xs ++ [p]) (by rw [hs]; simp) (fun x h => by
          rcases List.mem_append.1 h with h | h
          · exact hx x h
          · simp at h; rw [h]; exact hpl) y hy
  exact fun i hi => step [] perm rfl (fun x h => by cases h) i (hp.all i hi)
theorem less_left {L : Array Bool} {i fuel : Nat} {sz : Nat} (hi : i < sz) (hsz : L.size = sz) (hm : i ∈ perm) (hL : L.getD i true = false) (hf : (perm.filter fun p => !L.getD p true).length ≤ fuel + 1) : (perm.filter fun p => !(L.setIfInBounds i true).getD p true).length ≤ fuel := by
  have hsub : ∀ l : List Nat, (l.filter fun p => !(L.setIfInBounds i true).getD p true).length + (if i ∈ l then 1 else 0) ≤ (l.filter fun p => !L.getD p true).length := fun l => by
    induction l with
    | nil => simp
    | cons x l ih =>
      by_cases e : x = i
      · subst e
        have h1 : (L.setIfInBounds x true).getD x true = true := listed_set.2 (.inl rfl)
        simp only [List.filter_cons, h1, hL, Bool.not_true, Bool.not_false, if_true, List.length_cons, List.mem_cons, true_or]
        have : (l.filter fun p => !(L.setIfInBounds x true).getD p true).length ≤ (l.filter fun p => !L.getD p true).length := by
          split at ih <;> omega
        simpa using this
      · have h1 : (L.setIfInBounds i true).getD x true = L.getD x true := by
          rw [Array.getD_eq_getD_getElem?, Array.getD_eq_getD_getElem?, Array.getElem?_setIfInBounds_ne (Ne.symm e)]
        have h2 : (i ∈ x :: l) = (i ∈ l) := by
          apply propext
          simp [Ne.symm e]
        simp only [List.filter_cons, h1, h2]
        split
        · simp only [List.length_cons]; omega
        · exact ih
  have := hsub perm
  rw [if_pos hm] at this
  omega
theorem draw_any (hcal : CalOK P cal) (hbody : Bodied P cal) (hp : PlanOK P ops E M perm) (hin : dstsIn n ops) {Q : Exit → Act → World → Prop} {ρ0 : Rho} {h0 : H} {tm' : TM} {h' : H} {df : List Deferred}
    (hQ : ∀ ρ' a' w', AR ρ' n All tm' a' → a'.defers = df → WR ρ' h' w' → St ρ0 h0 ρ' h' → Q .normal a' w') : ∀ (fuel len : Nat) (pre post : List Nat) (tm : TM) (h : H) (ρ : Rho) (L : Array Bool) (a : Act) (w : World), post.length = len → (perm.filter fun p => !L.getD p true).length ≤ fuel →
      DRun P cal n ops E M pre post tm h tm' h' → Inv P n ops E M perm ρ0 h0 pre post tm h ρ L a w → a.defers = df → wpAny P .any ops Q fuel L a w := by
  intro fuel
  induction fuel with
  | zero =>
    intro len pre post tm h ρ L a w _ hf hd hi hdf
    have hall : ∀ i, i < ops.size → listed L i := fun i hlt => by
      have h0 : (perm.filter fun p => !L.getD p true) = [] := List.eq_nil_of_length_eq_zero (by omega)
      rw [List.filter_eq_nil_iff] at h0
      have := h0 i (hp.all i hlt)
      simpa [listed] using this
    have hpost : post = [] := by
      cases post with
      | nil => rfl
      | cons q r =>
        have hq : q < ops.size := hp.lt q (by rw [hi.split]; simp)
        exact absurd (hi.sub q hq (hall q hq)) (fun hm => mem_split hp hi.split hm (by simp))
    subst hpost
    cases hd
    refine ⟨?_, hQ ρ a w (hi.ar.less fun t _ q o h1 _ h3 => absurd (hall q (Array.getElem?_eq_some_iff.1 h1).1) h3) hdf hi.wr hi.st⟩
    cases hr : Region.ready .any ops L with
    | nil => rfl
    | cons x xs =>
      have hm : x ∈ Region.ready .any ops L := by rw [hr]; simp
      obtain ⟨h1, o, h2, _⟩ := mem_ready.1 hm
      have := hall x (Array.getElem?_eq_some_iff.1 h2).1
      unfold listed at this
      rw [this] at h1
      cases h1
  | succ fuel ih =>
    intro len
    induction len with
    | zero =>
      intro pre post tm h ρ L a w hlen hf hd hi hdf
      have hpost : post = [] := List.eq_nil_of_length_eq_zero hlen
      subst hpost
      cases hd
      refine ⟨fun hr => hQ ρ a w (hi.ar.less fun t _ q o h1 _ h3 => absurd (all_listed hp hi.size hr q (Array.getElem?_eq_some_iff.1 h1).1) h3) hdf hi.wr hi.st, fun i hri => ?_⟩
      obtain ⟨h1, o, ho, h2⟩ := mem_ready.1 hri
      have hisz : i < ops.size := (Array.getElem?_eq_some_iff.1 ho).1
      have hnl : ¬ listed L i := fun x => by unfold listed at x; rw [x] at h1; cases h1
      have hipre : i ∈ pre := by have := hp.all i hisz; rw [hi.split] at this; simpa using this
      have hE : E i = false := by
        cases hh : E i with
        | false => rfl
        | true => exact absurd (hi.eff i hipre hh) hnl
      have hr' : ∀ e ∈ o.after, Region.binds .any e = true → listed L e.on := fun e he hb => by
        have := h2 e he hb
        unfold listed
        rw [Array.getD_eq_getD_getElem?] at this ⊢
        cases hx : L[e.on]? with
        | none => rfl
        | some y => rw [hx] at this; exact this
      refine float_step hp hi hin hE ho hipre hnl hr' fun ρ1 a1 w1 g1 g2 => ?_
      refine ih 0 pre [] _ _ ρ1 _ a1 w1 rfl ?_ .nil g1 (g2.trans hdf)
      exact less_left hisz hi.size (by rw [hi.split]; simpa using hipre) h1 hf
    | succ len ihl =>
      intro pre post tm h ρ L a w hlen hf hd hi hdf
      cases hd with
      | nil => cases hlen
      | @cons _ f post' o _ tm1 _ _ h1 _ ho hs hre hd' =>
        cases hE : E f with
        | false => exact ihl (pre ++ [f]) post' tm1 h1 ρ L a w (by simpa using hlen) hf hd' (inv_adv hp hi hE ho hs hre) hdf
        | true =>
          have hfpre : f ∉ pre := fun hm => mem_split hp hi.split hm (by simp)
          have hfsz : f < ops.size := (Array.getElem?_eq_some_iff.1 ho).1
          have hfl : ¬ listed L f := fun x => hfpre (hi.sub f hfsz x)
          refine ⟨fun hr => absurd (all_listed hp hi.size hr f hfsz) hfl, fun i hri => ?_⟩
          obtain ⟨q1, oi, hoi, q2⟩ := mem_ready.1 hri
          have hisz : i < ops.size := (Array.getElem?_eq_some_iff.1 hoi).1
          have hnl : ¬ listed L i := fun x => by unfold listed at x; rw [x] at q1; cases q1
          have hr' : ∀ e ∈ oi.after, Region.binds .any e = true → listed L e.on := fun e he hb => by
            have := q2 e he hb
            unfold listed
            rw [Array.getD_eq_getD_getElem?] at this ⊢
            cases hx : L[e.on]? with
            | none => rfl
            | some y => rw [hx] at this; exact this
          have hrb : ∀ j, M i j = true → listed L j := fun j hM => ready_before hp hi.closed i j hM (fun o' e ho' he hb => by rw [hoi] at ho'; injection ho' with ho'; subst ho'; exact hr' e he hb)
          have himem : i ∈ perm := hp.all i hisz
          by_cases hif : i = f
          · subst hif
            rw [ho] at hoi
            injection hoi with hoi
            subst hoi
            refine eff_step hcal hbody hp hi hin hE ho hr' hs hre fun ρ1 a1 w1 g1 g2 => ?_
            exact ih post'.length (pre ++ [i]) post' tm1 h1 ρ1 _ a1 w1 rfl (less_left hisz hi.size himem q1 hf) hd' g1 (g2.trans hdf)
          · have hipre : i ∈ pre := by
              rw [hi.split] at himem
              rcases List.mem_append.1 himem with m | m
              · exact m
              · rcases List.mem_cons.1 m with m | m
                · exact absurd m hif
                · exact absurd (hrb f (hp.after pre f post' hi.split hE i m)) hfl
            have hEi : E i = false := by
              cases hh : E i with
              | false => rfl
              | true => exact absurd (hi.eff i hipre hh) hnl
            refine float_step hp hi hin hEi hoi hipre hnl hr' fun ρ1 a1 w1 g1 g2 => ?_
            exact ih (f :: post').length pre (f :: post') tm h ρ1 _ a1 w1 rfl (less_left hisz hi.size himem q1 hf) (.cons ho hs hre hd') g1 (g2.trans hdf)
theorem draw_sound (hcal : CalOK P cal) (hbody : Bodied P cal) (hm : P.follows .mixedOrders = true) (hp : PlanOK P ops E M perm) (hin : dstsIn n ops) {id : Nat} {Q : Exit → Act → World → Prop} {tm tm' : TM} {h h' : H} (hd : DRun P cal n ops E M [] perm tm h tm' h') {ρ : Rho} {a : Act} {w : World} (hA : AR ρ n All tm a) (hw : WR ρ h w)
    (hQ : ∀ ρ' a' w', AR ρ' n All tm' a' → a'.defers = a.defers → WR ρ' h' w' → St ρ h ρ' h' → Q .normal a' w') : (Code.region id ops true).wp P Q a w := by
  refine wp_region_any hm ?_
  have hnone : ∀ i, i < ops.size → ¬ listed (Array.replicate ops.size false) i := fun i hi h => by
    unfold listed at h
    rw [Array.getD_eq_getD_getElem?] at h
    simp [hi] at h
  refine draw_any hcal hbody hp hin (df := a.defers) hQ ops.size perm.length [] perm tm h ρ _ a _ rfl ?_ hd ⟨by simp, by simp, fun i h1 h2 => absurd h2 (hnone i h1), fun i h1 => (by cases h1), fun i o e h1 h2 => absurd h2 (hnone i (Array.getElem?_eq_some_iff.1 h1).1), ⟨fun _ => none, fun p h1 => (by cases h1), fun p q b h1 => (by cases h1), fun p b h1 => (by cases h1)⟩, hA.less (fun _ _ => trivial), hw.drew _, St.refl _ _⟩ rfl
  refine Nat.le_trans (List.length_filter_le _ _) ?_
  exact Nat.le_of_eq hp.len
end
end Ev
end Go.Proofs.YtbcmcdmflblgkaaGreatDoor

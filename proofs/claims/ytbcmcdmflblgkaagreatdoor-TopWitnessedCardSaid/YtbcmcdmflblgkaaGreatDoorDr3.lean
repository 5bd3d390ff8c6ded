/-
  Dr3: the contract of (*disk.Drive).Read, where nothing is cached, as the evaluator runs it.
-/
import Derived.Test.YtbcmcdmflblgkaaGreatDoorDr1
import Derived.Test.YtbcmcdmflblgkaaGreatDoorDr2
import Derived.Test.YtbcmcdmflblgkaaGreatDoorNw1
namespace Go.Proofs.YtbcmcdmflblgkaaGreatDoor
namespace Ev
open Go.RowKit
set_option linter.unusedVariables false
set_option linter.unusedSectionVars false
def noRF : Code → Code
  | .seq a b => .seq (noRF a) (noRF b)
  | .block i c => .block i (noRF c)
  | .rangeFunc _ _ _ _ => .skip
  | c => c
def cc1 : Code → Code
  | .seq a _ => a
  | c => c
def cc2 : Code → Code
  | .seq _ b => b
  | c => c
def rf3 : Code → Code
  | .rangeFunc _ _ a _ => a
  | c => c
def rf4 : Code → Code
  | .rangeFunc _ _ _ a => a
  | c => c
def bk : Code → Code
  | .block _ c => c
  | c => c
variable [bs : Base]
theorem compC_seq {P : Program} {n : Nat} {base : Lay} {hints : Hints} {a b : Code} {lay l' : Lay} {hgt g' : Nat} {c : C2} (h : compC P n base hints (.seq a b) lay hgt = some (c, l', g')) :
    ∃ a' l1 g1 b', compC P n base hints a lay hgt = some (a', l1, g1) ∧ compC P n base hints b l1 g1 = some (b', l', g') ∧ c = .seq a' b' := by
  obtain ⟨⟨a', l1, g1⟩, h1, h⟩ := ob_some (show ob (compC P n base hints a lay hgt) _ = _ from h)
  obtain ⟨⟨b', l2, g2⟩, h2, h⟩ := ob_some h
  injection h with h
  injection h with e1 e2
  injection e2 with e2 e3
  simp only at e1 e2 e3 h2
  subst e1 e2 e3
  exact ⟨a', l1, g1, b', h1, h2, rfl⟩
theorem compC_block {P : Program} {n : Nat} {base : Lay} {hints : Hints} {i : Nat} {a : Code} {lay l' : Lay} {hgt g' : Nat} {c : C2} (h : compC P n base hints (.block i a) lay hgt = some (c, l', g')) : l' = base ∧ g' = 0 := by
  obtain ⟨⟨a', l1, g1⟩, h1, h⟩ := ob_some (show ob (compC P n base hints a lay hgt) _ = _ from h)
  injection h with h
  injection h with e1 e2
  injection e2 with e2 e3
  exact ⟨e2.symm, e3.symm⟩
/-- a function's body by pieces: A; B; (C; block i {a range over a function of nothing}); D -/
theorem runD_sound {cal : Cal} (hcal : ∀ b : Base, @CalOK b Tryz.prog cal) (hbody : Bodied Tryz.prog cal) (hm : Tryz.prog.follows .mixedOrders = true) {f : FuncId} {fn : Func} {locs : List Nat} {hints : Hints} {F : FR2} {x : O}
    (hf : Tryz.prog.funcs[f]? = some fn) {A B C D sg bd : Code} {i : Nat} {g : Operand} {ps' : Array Tmp} (hb : fn.body = some (.seq A (.seq B (.seq (.seq C (.block i (.rangeFunc g ps' sg bd))) D))))
    (hc : compF Tryz.prog { fn with body := some (.seq A (.seq B (.seq (.seq C (.block i .skip)) D))) } locs hints = some F)
    (hx : ∀ base : Lay, base = locs.zipIdx.map (fun q => (q.1, Ref.loc (poOf 12 (q.2 + 1)))) → opO base 0 g = some x) : NatOK Tryz.prog f (runD cal F x) := by
  intro vs h v h' he ρ w us hw hs
  unfold compF at hc
  simp only at hc
  obtain ⟨c, hbd, hc⟩ := ob_some hc
  injection hbd with hbd
  obtain ⟨ps, hps, hc⟩ := ob_some hc
  obtain ⟨res, hres, hc⟩ := ob_some hc
  obtain ⟨⟨c2, lay, hgt⟩, hco, hc⟩ := ob_some hc
  obtain ⟨hok, hc⟩ := io_some hc
  injection hc with hc
  subst hc
  subst hbd
  have hx := hx _ rfl
  generalize (locs.zipIdx.map fun q => (q.1, Ref.loc (poOf 12 (q.2 + 1)))) = base at *
  obtain ⟨A', l1, g1, R', hA', hR', e1⟩ := compC_seq hco
  obtain ⟨B', l2, g2, R2, hB', hR2, e2⟩ := compC_seq hR'
  obtain ⟨CB, l3, g3, D', hCB, hD', e3⟩ := compC_seq hR2
  obtain ⟨C', l5, g5, K2, hC', hK', e4⟩ := compC_seq hCB
  obtain ⟨e5, e6⟩ := compC_block hK'
  subst e6
  rw [e5] at hD'
  subst e1 e2 e3 e4
  clear e5
  obtain ⟨hn, hok⟩ := and2 hok
  unfold runD at he
  obtain ⟨ls, ha, he⟩ := ob_some he
  obtain ⟨⟨x0, s1⟩, hev0, he⟩ := ob_some he
  have hn := Nat.le_of_ble_eq_true hn
  have hpl := parPs_at hps
  have hvl := (argT_out ha).1
  obtain ⟨hbase, hcov⟩ := argOk_cov hok ha (fun i p hi => by have := parPs_mem hps i p hi; simpa using this)
  have hul : us.length = vs.length := hs.1.symm
  have hA : AR ρ fn.ntmps All (tm0 vs) { tmps := us.toArray ++ Array.replicate (fn.ntmps - us.toArray.size) undef, defers := [] } := by
    refine ⟨by simp; simp only at hvl; omega, fun t u _ hu => ?_⟩
    injection hu with hu
    subst hu
    cases hv : vs[t]? with
    | some v' =>
      obtain ⟨u, h1, h2⟩ := hs.at_ hv
      have hlt : t < us.length := (List.getElem?_eq_some_iff.1 h1).1
      have e : (us.toArray ++ Array.replicate (fn.ntmps - us.toArray.size) undef).getD t undef = u := by
        rw [Array.getD_eq_getD_getElem?, Array.getElem?_append_left (by simpa using hlt)]
        simp [h1]
      show VR ρ v' _
      rw [e]
      exact h2
    | none =>
      have hge : us.length ≤ t := by rw [hul]; exact List.getElem?_eq_none_iff.1 hv
      have e : (us.toArray ++ Array.replicate (fn.ntmps - us.toArray.size) undef).getD t undef = undef := by
        rw [Array.getD_eq_getD_getElem?, Array.getElem?_append_right (by simpa using hge)]
        by_cases hlt : t - us.toArray.size < fn.ntmps - us.toArray.size
        · rw [Array.getElem?_replicate, if_pos hlt]
          rfl
        · rw [Array.getElem?_eq_none (by simpa using hlt)]
          rfl
      show VR ρ (.lit undef) _
      rw [e]
      exact .lit undef
  refine callsIn_wide.1 (callsIn_of_wp_marks (n := 3) hf hb trivial (wpIn_wide.2 ?_) rfl)
  -- A
  refine wp_seq (compC_sound (hcal bs) hbody hm hbase 60 hA' hev0 hcov hcov hA hw ?_)
  intro ρ1 a1 w1 tm1 k1 k2 k3 k4 k5 k6
  cases x0 with
  | exit j => cases he
  | ret => cases he
  | normal =>
  have he : runD1 cal _ x s1 = _ := he
  unfold runD1 at he
  obtain ⟨⟨x1, s2⟩, hev1, he⟩ := ob_some he
  -- B
  refine wp_seq (compC_sound (hcal bs) hbody hm hbase 60 hB' hev1 (k6 rfl) k5 k1 k3 ?_)
  intro ρ2 a2 w2 tm2 m1 m2 m3 m4 m5 m6
  cases x1 with
  | exit j => cases he
  | ret =>
    have he : fin _ s2 = _ := he
    obtain ⟨rs, q1, q2⟩ := ob_some he
    injection q2 with q2
    injection q2 with e1 e2
    subst e1 e2
    obtain ⟨us', h3, h4⟩ := res_run m5 m1 m3 hres q1
    have h5 := mapM_arr (resF a2.tmps) fn.results h3
    have hd : a2.defers = [] := m2.trans k2
    show LeavesInM _ _ _ _ _ _ _ _ _
    rw [hd]
    refine ⟨_, ?_, _, ρ2, rfl, tupV_rel h4, m3, k4.trans m4⟩
    show (do let vs ← fn.results.mapM (resF a2.tmps); pure (if h : vs.size = 1 then vs[0] else .tuple vs) : Sem Value).run Tryz.prog w2 = _
    rw [Sem.run_bind, h5]
    rfl
  | normal =>
  have he : runD2 cal _ x s2 = _ := he
  unfold runD2 at he
  obtain ⟨⟨x2, s3⟩, hev2, he⟩ := ob_some he
  -- C
  refine wp_seq (wp_seq (compC_sound (hcal bs) hbody hm hbase 60 hC' hev2 (m6 rfl) m5 m1 m3 ?_))
  intro ρ3 a3 w3 tm3 n1 n2 n3 n4 n5 n6
  cases x2 with
  | exit j => cases he
  | ret => cases he
  | normal =>
  have he : runD3 cal _ x s3 = _ := he
  unfold runD3 at he
  obtain ⟨v3, hv3, he⟩ := ob_some he
  obtain ⟨hem, he⟩ := io_some he
  obtain ⟨⟨x3, s4⟩, hev3, he⟩ := ob_some he
  -- the range
  have hvr : VR ρ3 v3 (a3.eval g) := tmO_rel n1 (x := g) (fun _ _ => trivial) (opO_ev n5 hx hv3)
  obtain ⟨ad, A0, cap, hg, hlt, hcell⟩ : ∃ (ad : Addr) (A0 : Option Addr) (cap : Nat), a3.eval g = .func (.func 322) #[] #[.pointer (some ad)] ∧ ad.block < w3.heap.size ∧ w3.cell? ad = some (.slice A0 0 cap) := by
    unfold emptyB at hem
    split at hem
    · next g0 b o =>
      obtain ⟨h1, h2⟩ := and2 hem
      have h1 := Nat.eq_of_beq_eq_true h1
      subst h1
      obtain ⟨cs, e1, h3⟩ := hvr.fn_inv
      obtain ⟨u, e2, h4⟩ := h3.one_inv
      obtain ⟨Bk, sh, L, h5, rfl⟩ := h4.ptr_inv
      split at h2
      · next cl hcl =>
        obtain ⟨arr, e, ha3, h6, h7⟩ := n3.cells b cl hcl Bk sh L h5
        have hq : ∃ A0 cap, w3.cell? ⟨Bk, sh + o, none⟩ = some (.slice A0 0 cap) := by
          split at h2
          · next e7 =>
            obtain ⟨u, h8, h9⟩ := h7 o _ e7
            rw [h9.nils_inv] at h8
            exact ⟨_, _, by rw [cell_of_row w3 Bk (sh + o) arr e (0, 0) ha3]; exact h8⟩
          · next b' o' n' c' ex' k' e7 =>
            have h2 := Nat.eq_of_beq_eq_true h2
            subst h2
            obtain ⟨u, h8, h9⟩ := h7 o _ e7
            obtain ⟨_, _, _, _, _, _, e9, _⟩ := h9.sl_inv
            rw [e9] at h8
            exact ⟨_, _, by rw [cell_of_row w3 Bk (sh + o) arr e (0, 0) ha3]; exact h8⟩
          · cases h2
        obtain ⟨A0, cap, hq⟩ := hq
        have e2' : cs = #[.pointer (some ⟨Bk, sh + o, none⟩)] := by
          apply Array.ext'
          rw [e2]
        exact ⟨⟨Bk, sh + o, none⟩, A0, cap, by rw [e1, e2'], n3.lt _ _ _ h5, hq⟩
      · cases h2
    · cases hem
  refine wp_block (range_none hg hlt hcell ?_)
  intro Dn W hDn hbel hdef
  have hWR : WR ρ3 s3.h W := n3.below_ hbel
  have hDlt : Dn < W.heap.size := (Array.getElem?_eq_some_iff.1 hdef).1
  have hDno : ∀ b q, ρ3 b ≠ some (Dn, q) := fun b q e => by
    have := n3.lt b Dn q e
    omega
  -- D
  refine @compC_sound (rebase ρ3 W) Tryz.prog cal _ base hints (hcal _) hbody hm hbase 60 D _ _ _ _ _ s3 s4 x3 tm3 hD' hev3 n5 n5 ρ3 { a3 with defers := { target := .collected Dn, args := #[] } :: a3.defers } W ⟨n1.1, n1.2⟩ hWR.rebase _ ?_
  intro ρ4 a4 w4 tm4 o1 o2 o3 o4 o5 o6
  have hw4 : WR ρ4 s4.h w4 := hWR.back o3
  have hD4 : w4.heap[Dn]? = some (.deferred (some [])) := (WR.far (h := s3.h) o3 hDlt hDno).trans hdef
  have hW5 : WR ρ4 s4.h (w4.putObj Dn (.deferred none)) := hw4.putObj hD4 rfl (bs.fr _ (Nat.le_trans (Nat.le_trans n3.below.size (Nat.le_refl _)) hDn)) _
  have hfin : (match x3 with | .exit _ => False | _ => True) → LeavesInM Fence.wide 3 Tryz.prog fn a4.tmps (fun e w' => ∃ u ρ', e = .returned u ∧ VR ρ' v u ∧ WR ρ' h' w' ∧ St ρ h ρ' h') a4.defers .returning w4 := by
    intro hx3
    have hd : a4.defers = [{ target := .collected Dn, args := #[] }] := by
      rw [o2]
      show _ :: a3.defers = _
      rw [n2, m2, k2]
    rw [hd]
    have he' : fin ⟨ps, res, .seq A' (.seq B' (.seq (.seq C' K2) D'))⟩ s4 = some (v, h') := by
      cases x3 with
      | exit j => exact hx3.elim
      | normal => exact he
      | ret => exact he
    obtain ⟨rs, q1, q2⟩ := ob_some he'
    injection q2 with q2
    injection q2 with e1 e2
    subst e1 e2
    obtain ⟨us', h3, h4⟩ := res_run o5 o1 hW5 hres q1
    have h5 := mapM_arr (resF a4.tmps) fn.results h3
    refine ⟨by simp, .inl ⟨_, _, rfl, run_takeDeferred hD4, _, ?_, _, ρ4, rfl, tupV_rel h4, hW5, ((k4.trans m4).trans n4).trans o4⟩⟩
    show (do let vs ← fn.results.mapM (resF a4.tmps); pure (if h : vs.size = 1 then vs[0] else .tuple vs) : Sem Value).run Tryz.prog (w4.putObj Dn (.deferred none)) = _
    rw [Sem.run_bind, h5]
    rfl
  cases x3 with
  | normal => exact hfin trivial
  | ret => exact hfin trivial
  | exit j => cases he
end Ev
end Go.Proofs.YtbcmcdmflblgkaaGreatDoor

/-
  Nw6: label.Bytes at t, as the evaluator's own rule has it.
-/
import Derived.Test.YtbcmcdmflblgkaaGreatDoorNw4
import Derived.Test.YtbcmcdmflblgkaaGreatDoorMon
namespace Go.Proofs.YtbcmcdmflblgkaaGreatDoor
namespace Ev
open Go.RowKit
set_option linter.unusedVariables false
set_option linter.unusedSectionVars false
variable [bs : Base]
theorem nBytes_ok : NatOK Tryz.prog 179 nBytes := by
  intro vs h v h' he ρ w us hw hs
  unfold nBytes at he
  split at he
  · next l =>
    obtain ⟨hl, he⟩ := io_some he
    injection he with he
    injection he with e1 e2
    subst e1 e2
    obtain rfl := beqs_iff.1 hl
    obtain ⟨x, rfl, h1⟩ := hs.one_inv
    obtain rfl := str_t h1
    refine (bytes_t w _ rfl).mono ?_
    rintro e w' ⟨o1, o2, arr, c, n, rfl, rfl, g1, g2, g3⟩
    have hw0 : WR ρ h ((w.iter tText 1).iter tText 1) := (hw.aside _).aside _
    have hw2 := (hw0.aside o1).aside o2
    obtain ⟨k1, k2⟩ := hw2.fresh (cs := u8s [1, 116]) (arr := #[.int .u8 1] ++ (#[.int .u8 116] ++ arr)) (e := 5) (fun i v hv => by
      match i, hv with
      | 0, hv => simp [u8s] at hv; subst hv; exact ⟨.int .u8 1, by rw [Array.getElem?_append_left (by decide)]; rfl, .int _ _⟩
      | 1, hv => simp [u8s] at hv; subst hv; exact ⟨.int .u8 116, by rw [Array.getElem?_append_right (by decide), Array.getElem?_append_left (by decide)]; rfl, .int _ _⟩
      | i + 2, hv => simp [u8s] at hv)
    have hsz : ((((w.iter tText 1).iter tText 1).alloc o1).alloc o2).heap.size = ((w.iter tText 1).iter tText 1).heap.size + 1 + 1 := by simp
    rw [hsz] at k1 k2
    refine ⟨_, _, rfl, VR.tup_mk (VRs.cons (.sl (if_pos rfl) (c' := c) ?_ g1 g1 (fun h => by cases h) g2 (.inr rfl)) (VRs.cons (.int _ _) (VRs.nil _))), k1.drew n, k2⟩
    simp [g3]
    omega
  · cases he
omit bs
theorem nOn_mono : MonE nOn := by
  intro vs h v h1 he h' k
  unfold nOn at he ⊢
  split at he
  · next r b =>
    obtain ⟨h2, he⟩ := io_get he
    obtain ⟨cs, h3, he⟩ := ob_get he
    obtain ⟨l, h4, he⟩ := ob_get he
    injection he with he
    injection he with e1 e2
    subst e1 e2
    refine ⟨h', ?_, k⟩
    rw [h2]
    simp only [io]
    rw [held_mono k h3]
    simp only [ob]
    rw [h4]
  · cases he
theorem nCheck_mono : MonE nCheck := by
  intro vs h v h1 he h' k
  unfold nCheck at he ⊢
  split at he
  · next l =>
    obtain ⟨h2, he⟩ := io_get he
    injection he with he
    injection he with e1 e2
    subst e1 e2
    refine ⟨h', ?_, k⟩
    rw [h2]
    rfl
  · cases he
theorem nBytes_mono : MonE nBytes := by
  intro vs h v h1 he h' k
  unfold nBytes at he ⊢
  split at he
  · next l =>
    obtain ⟨h2, he⟩ := io_get he
    injection he with he
    injection he with e1 e2
    subst e1 e2
    refine ⟨h'.new (u8s [1, 116]), ?_, k.new _⟩
    rw [h2, k.nx]
    rfl
  · cases he
theorem fin_mono {F : FR2} {s s' : S} {v : V} {h1 : H} (k : Sub s s') (e : fin F s = some (v, h1)) : ∃ h1', fin F s' = some (v, h1') ∧ SubH h1 h1' := by
  obtain ⟨us, h2, e⟩ := ob_get (show ob (res2 s F.res) _ = _ from e)
  injection e with e
  injection e with e1 e2
  subst e1 e2
  refine ⟨s'.h, ?_, k.h⟩
  show ob (res2 s' F.res) _ = _
  rw [res2_mono k h2]
  rfl
theorem emptyB_mono {f : Nat} {h h' : H} {v : V} (k : SubH h h') (e : emptyB f h v = true) : emptyB f h' v = true := by
  unfold emptyB at e ⊢
  split at e
  · next g b o =>
    rw [Bool.and_eq_true] at e ⊢
    refine ⟨e.1, ?_⟩
    have e2 := e.2
    cases hb : h.get b with
    | none => rw [hb] at e2; cases e2
    | some cs =>
      rw [hb] at e2
      rw [k.get b cs hb]
      exact e2
  · cases e
theorem runD3_mono {cal : Cal} (hc : MonC cal) {F : FR2} {x : O} {s s' : S} {v : V} {h1 : H} (k : Sub s s') (e : runD3 cal F x s = some (v, h1)) : ∃ h1', runD3 cal F x s' = some (v, h1') ∧ SubH h1 h1' := by
  unfold runD3 at e ⊢
  obtain ⟨u, h2, e⟩ := ob_get e
  obtain ⟨h3, e⟩ := io_get e
  obtain ⟨⟨x1, s1⟩, h4, e⟩ := ob_get e
  obtain ⟨s2, h5, h6⟩ := evC2_mono hc 60 h4 k
  rw [O.mono k.t k.l h2]
  simp only [ob]
  rw [emptyB_mono k.h h3]
  simp only [io]
  rw [h5]
  cases x1 with
  | exit i => cases e
  | normal => exact fin_mono h6 e
  | ret => exact fin_mono h6 e
theorem runD2_mono {cal : Cal} (hc : MonC cal) {F : FR2} {x : O} {s s' : S} {v : V} {h1 : H} (k : Sub s s') (e : runD2 cal F x s = some (v, h1)) : ∃ h1', runD2 cal F x s' = some (v, h1') ∧ SubH h1 h1' := by
  unfold runD2 at e ⊢
  obtain ⟨⟨x1, s1⟩, h4, e⟩ := ob_get e
  obtain ⟨s2, h5, h6⟩ := evC2_mono hc 60 h4 k
  rw [h5]
  cases x1 with
  | exit i => cases e
  | normal => exact runD3_mono hc h6 e
  | ret => cases e
theorem runD1_mono {cal : Cal} (hc : MonC cal) {F : FR2} {x : O} {s s' : S} {v : V} {h1 : H} (k : Sub s s') (e : runD1 cal F x s = some (v, h1)) : ∃ h1', runD1 cal F x s' = some (v, h1') ∧ SubH h1 h1' := by
  unfold runD1 at e ⊢
  obtain ⟨⟨x1, s1⟩, h4, e⟩ := ob_get e
  obtain ⟨s2, h5, h6⟩ := evC2_mono hc 60 h4 k
  rw [h5]
  cases x1 with
  | exit i => cases e
  | normal => exact runD2_mono hc h6 e
  | ret => exact fin_mono h6 e
theorem runD_mono {cal : Cal} (hc : MonC cal) (F : FR2) (x : O) : MonE (runD cal F x) := by
  intro vs h v h1 e h' k
  unfold runD at e ⊢
  obtain ⟨t, h2, e⟩ := ob_get e
  obtain ⟨⟨x1, s1⟩, h4, e⟩ := ob_get e
  obtain ⟨s2, h5, h6⟩ := evC2_mono hc 60 (s' := ⟨t, [], h'⟩) h4 ⟨SubT.refl _, SubL.nil _, k⟩
  rw [h2]
  simp only [ob]
  rw [h5]
  cases x1 with
  | exit i => cases e
  | normal => exact runD1_mono hc h6 e
  | ret => cases e
end Ev
end Go.Proofs.YtbcmcdmflblgkaaGreatDoor

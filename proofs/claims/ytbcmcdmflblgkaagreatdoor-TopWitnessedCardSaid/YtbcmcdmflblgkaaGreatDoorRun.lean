/-
  Run: the pieces joined: what TopWitnessed's call comes to.
-/
import Derived.Test.YtbcmcdmflblgkaaGreatDoorSg0
import Derived.Test.YtbcmcdmflblgkaaGreatDoorSg1
import Derived.Test.YtbcmcdmflblgkaaGreatDoorSg2
import Derived.Test.YtbcmcdmflblgkaaGreatDoorSg3
import Derived.Test.YtbcmcdmflblgkaaGreatDoorSg4
import Derived.Test.YtbcmcdmflblgkaaGreatDoorSg5
import Derived.Test.YtbcmcdmflblgkaaGreatDoorSg6
import Derived.Test.YtbcmcdmflblgkaaGreatDoorSg7
import Derived.Test.YtbcmcdmflblgkaaGreatDoorSg8
import Derived.Test.YtbcmcdmflblgkaaGreatDoorSg9
namespace Go.Proofs.YtbcmcdmflblgkaaGreatDoor
namespace Ev
open Go.RowKit
set_option linter.unusedVariables false
set_option linter.unusedSectionVars false
theorem ck_ok : CalR ck cal := evCallK_ok 40
theorem cal_mono : MonC cal := evCall2_mono nat_mono 40
/-- how the body is put together -/
def glue (a0 a1 a2 a3 a5 a6 a7 : C2) (i1 : Nat) (l1 : C2) (r12 : C2) (i2 : Nat) (l2 : C2) (m0 m1 m2 m3 : C2) (i3 : Nat) (l3 t : C2) : C2 :=
  .seq a0 (.seq a1 (.seq a2 (.seq a3 (.seq a5 (.seq a6 (.seq (.seq a7 (.block i1 (.loop l1))) (.seq (.seq r12 (.block i2 (.loop l2))) (.seq m0 (.seq m1 (.seq m2 (.seq (.seq m3 (.block i3 (.loop l3))) t)))))))))))
theorem body_eq : ir5.body = glue (q1 b5) (q1 (q2 b5)) (q1 (q2 (q2 b5))) (q1 T3) (q1 (q2 T3)) (q1 T5) (q1 (q1 T6)) 0 c1 r12 2 c2 (q1 T8) (q1 (q2 T8)) (q1 (q2 (q2 T8))) (q1 (q1 T11)) 4 c3 T12 := by kernel_rfl
theorem get_e' : ∀ (p : Po), H0.get p = none := by
  intro p
  show T.get p (.e : T (List V)) = none
  induction p with
  | one => rfl
  | d0 p ih => exact ih
  | d1 p ih => exact ih
variable [bs : Base]
theorem body_goes : Goes cal ir5.body S0 .ret st_end.st := by
  rw [body_eq]
  have g0 : Goes cal PRE S0 .normal st_pre.st := Goes.normal ck_ok seg0
  have g1 : Goes cal (rep 4 c1) st_pre.st .normal st_a3.st := Goes.normal ck_ok seg1
  have g2 : Goes cal (rep 1 c1) st_a3.st .normal st_a4.st := Goes.normal ck_ok seg2
  have g3 : Goes cal (.loop c1) st_a4.st (.exit 0) st_a12.st := Goes.exit ck_ok seg3
  have g4 : Goes cal (.seq r12 (rep 7 c2)) st_a12.st .normal st_b6.st := Goes.normal ck_ok seg4
  have g5 : Goes cal (rep 9 c2) st_b6.st .normal st_b15.st := Goes.normal ck_ok seg5
  have g6 : Goes cal (.loop c2) st_b15.st (.exit 2) st_b23.st := Goes.exit ck_ok seg6
  have g7 : Goes cal (.seq MID (rep 3 c3)) st_b23.st .normal st_c2.st := Goes.normal ck_ok seg7
  have g8 : Goes cal (.loop c3) st_c2.st (.exit 4) st_c3.st := Goes.exit ck_ok seg8
  have g9 : Goes cal T12 st_c3.st .ret st_end.st := Goes.ret ck_ok seg9
  have l1 : Goes cal (.block 0 (.loop c1)) st_pre.st .normal st_a12.st := Goes.block_exit (Goes.nexts cal_mono g1 (Goes.nexts cal_mono g2 g3))
  obtain ⟨m4, h4, k4⟩ := Goes.inv g4
  have l2 : Goes cal (.block 2 (.loop c2)) m4 .normal st_b23.st := Goes.block_exit (Goes.nexts cal_mono k4 (Goes.nexts cal_mono g5 g6))
  obtain ⟨m7, h7, k7⟩ := Goes.inv g7
  have l3 : Goes cal (.block 4 (.loop c3)) m7 .normal st_c3.st := Goes.block_exit (Goes.nexts cal_mono k7 g8)
  obtain ⟨n0, p0, r0⟩ := Goes.inv (show Goes cal (.seq _ _) _ _ _ from g0)
  obtain ⟨n1, p1, r1⟩ := Goes.inv r0
  obtain ⟨n2, p2, r2⟩ := Goes.inv r1
  obtain ⟨n3, p3, r3⟩ := Goes.inv r2
  obtain ⟨n5, p5, r5⟩ := Goes.inv r3
  obtain ⟨n6, p6, r6⟩ := Goes.inv r5
  obtain ⟨u0, v0, w0⟩ := Goes.inv (show Goes cal (.seq _ _) _ _ _ from h7)
  obtain ⟨u1, v1, w1⟩ := Goes.inv w0
  obtain ⟨u2, v2, w2⟩ := Goes.inv w1
  exact p0.seq cal_mono (p1.seq cal_mono (p2.seq cal_mono (p3.seq cal_mono (p5.seq cal_mono (p6.seq cal_mono ((r6.seq cal_mono l1).seq cal_mono ((h4.seq cal_mono l2).seq cal_mono (v0.seq cal_mono (v1.seq cal_mono (v2.seq cal_mono ((w2.seq cal_mono l3).seq cal_mono g9)))))))))))
theorem call5 : ∃ fuel h', evFn fuel cal ir5 [] H0 = some (.boo true, h') := by
  obtain ⟨n, s1, h1, h2⟩ := body_goes
  have h1 : evC2 cal n ir5.body ⟨.e, [], H0⟩ = some (.ret, s1) := h1
  refine ⟨n, s1.h, ?_⟩
  unfold evFn
  show ob (evC2 cal n ir5.body ⟨.e, [], H0⟩) _ = _
  rw [h1]
  have h3 : res2 st_end.st ir5.res = some [.boo true] := by kernel_rfl
  show ob (res2 s1 ir5.res) _ = _
  rw [res2_mono h2 h3]
  rfl
end Ev
open Go.RowKit
/-- the call's contract -/
theorem top_true (w : World) : Calls Tryz.prog 5 #[] w fun e w' => e = .returned (.bool true) ∧ Below w.heap.size w w' := by
  let bs : Ev.Base := ⟨w, fun B => w.heap.size ≤ B, fun B h => h⟩
  obtain ⟨fuel, h', he⟩ := @Ev.call5 bs
  obtain ⟨fn, locs, hints, h1, h2, h3⟩ := Ev.ok5
  have hc := Ev.evCall2_sound (bs := bs) Ev.tab Ev.follows_ 40
  have hw : @Ev.WR bs (fun _ => none) Ev.H0 w := @Ev.WR.mk bs _ _ _ (fun b cs h => by rw [show Ev.H.get Ev.H0 b = none from Ev.get_e' b] at h; cases h) (fun b b' cs cs' h => by rw [show Ev.H.get Ev.H0 b = none from Ev.get_e' b] at h; cases h) (fun _ _ => rfl) (fun b B q h => by cases h) (@Ev.Kep.mk bs w rfl rfl rfl (Nat.le_refl _) (fun _ _ => rfl)) (fun b B q h => by cases h)
  refine (Ev.compF_sound (bs := bs) hc.1 hc.2 Ev.follows_ h1 h2 he hw (Ev.VRs.nil _)).mono ?_
  rintro e w' ⟨u, ρ', rfl, hv, hwr, _⟩
  have hk : @Ev.Kep bs w' := @Ev.WR.below bs _ _ _ hwr
  refine ⟨by rw [hv.boo_inv], ⟨@Ev.Kep.os bs _ hk, @Ev.Kep.tape bs _ hk, @Ev.Kep.output bs _ hk, @Ev.Kep.size bs _ hk, fun k hlt => @Ev.Kep.block bs _ hk k (fun h => absurd hlt (Nat.not_lt.2 h))⟩⟩
end Go.Proofs.YtbcmcdmflblgkaaGreatDoor

/-
  PROVED: the law 'GeomBlocks' returns true for every input, and leaves its arguments and all memory as they were. Conditions: those of the given row alone.
-/
import Derived.Test.YtigibbekbncpiaaWalks3
import Derived.WalkKit
import Derived.ProofKit
import Derived.OpenShut
import Derived.ShutString
import Derived.ChangeOld
import Derived.Below
namespace Go.Proofs.Ytigibbekbncpiaa.geomBlocks
open Go.ChangeShapes Go.WideShapes Go.ChangeAt Go.RowKit
open Go.ChangeMaps (open_string shut_string)
set_option linter.unusedVariables false      -- a walk need not use every 'w<i>' (that an integer argument fits its kind)

theorem own : ownKnob Try.prog.godebug = none := by kernel_rfl

theorem split_is {z d s l a x q r : Int} (w : World) (h : okB z d s l a = true) (hi : inB x 0 (z * d - 1) = true) (hq : x / d = q) (hr : x % d = r) :
    Calls Try.prog 14 #[.agg #[.int .i64 z, .int .i64 d, .int .i64 s, .int .i64 l, .int .i64 a], .int .i64 x] w fun e w' => e = .returned (.tuple #[.int .i64 q, .int .i64 r, .int .i64 0]) ∧ Below w.heap.size w w' := by
  subst hq hr
  exact Split_ok z d s l a x w h hi
theorem walk (a0 : Int) (a1 : Int) (a2 : Int) (a3 : Int) (a4 : Int) (a5 : Int) (w0 : (Lit.int .i64 a0).wf = true) (w1 : (Lit.int .i64 a1).wf = true) (w2 : (Lit.int .i64 a2).wf = true) (w3 : (Lit.int .i64 a3).wf = true) (w4 : (Lit.int .i64 a4).wf = true) (w5 : (Lit.int .i64 a5).wf = true) (w : World) :
    Calls Try.prog 4 #[.int .i64 a0, .int .i64 a1, .int .i64 a2, .int .i64 a3, .int .i64 a4, .int .i64 a5] w fun e w' => e = .returned (.bool true) ∧ Below w.heap.size w w' := by
  clear w0 w1 w2 w3 w4 w5
  go_enter Try.func4, Try.ntmps4
  go_wp2_with fail
  refine (some_any _ _ _ _ _ _).mono ?_
  rintro e w1 ⟨z, d, s, l, a, h, rfl, hb1⟩
  have bd := okB_bounds h
  have zd := zd_bounds h
  have g1 : Below w.heap.size w (w1.alloc (.cells #[.int .i64 z, .int .i64 d, .int .i64 s, .int .i64 l, .int .i64 a] 23)) := hb1.alloc hb1.size _
  go_wp2_with fail
  refine (Blocks_ok _ _ _ _ _ _ h).mono ?_
  rintro e w2 ⟨rfl, hb2⟩
  obtain ⟨hc2, hf2⟩ := bcell hb2
  have g2 : Below w.heap.size w w2 := g1.trans (hb2.mono g1.size)
  have z2 : w1.heap.size < w2.heap.size := by have := hb2.size; simp at this; omega
  obtain ⟨m, hm⟩ : ∃ m : Nat, z * d = (m : Int) := Int.eq_ofNat_of_zero_le (by omega)
  obtain ⟨x, hx, lx⟩ := umod a5 m (by omega)
  rw [← hm] at hx
  have lx' : (x : Int) < z * d := by omega
  have hix : inB x 0 (z * d - 1) = true := inB_yes (by omega) (by omega)
  have hin : inB (z * d) 0 (z * d - 1) = false := inB_no2 (by omega)
  have him : inB (-1) 0 (z * d - 1) = false := inB_no1 (by omega)
  have hq0 : 0 ≤ (x : Int) / d := Int.ediv_nonneg (by omega) (by omega)
  have hqz : (x : Int) / d < z := Int.ediv_lt_of_lt_mul (by omega) lx'
  have hr0 : 0 ≤ (x : Int) % d := Int.emod_nonneg _ (by omega)
  have hr1 : (x : Int) % d < d := Int.emod_lt_of_pos _ (by omega)
  have hdm : (x : Int) / d * d + (x : Int) % d = x := Int.ediv_mul_add_emod _ _
  obtain ⟨q, hq⟩ : ∃ q, (x : Int) / d = q := ⟨_, rfl⟩
  obtain ⟨r, hr⟩ : ∃ r, (x : Int) % d = r := ⟨_, rfl⟩
  rw [hq, hr] at hdm
  rw [hq] at hq0 hqz
  rw [hr] at hr0 hr1
  have hqd : 0 ≤ q * d := Int.mul_nonneg hq0 (by omega)
  have HQ := Lib.hid hq
  have HR := Lib.hid hr
  have tsum : (q * d + r == (x : Int)) = true := beq_iff_eq.2 hdm
  have hqd2 : q * d ≤ 16 := by omega
  clear hq hr hdm hm lx
  go_wp2_with fail
  refine (split_is _ h hix HQ.out HR.out).mono ?_
  rintro e w3 ⟨rfl, hb3⟩
  obtain ⟨hc3, hf3⟩ := bcell hb3
  have g3 : Below w.heap.size w w3 := g2.trans (hb3.mono g2.size)
  have z3 : w1.heap.size < w3.heap.size := by have := hb3.size; omega
  go_wp2_with fail
  refine (Split_out _ _ _ _ _ _ _ h hin).mono ?_
  rintro e w4 ⟨rfl, hb4⟩
  obtain ⟨hc4, hf4⟩ := bcell hb4
  have g4 : Below w.heap.size w w4 := g3.trans (hb4.mono g3.size)
  have z4 : w1.heap.size < w4.heap.size := by have := hb4.size; omega
  go_wp2_with fail
  refine (Split_out _ _ _ _ _ _ _ h him).mono ?_
  rintro e w5 ⟨rfl, hb5⟩
  obtain ⟨hc5, hf5⟩ := bcell hb5
  have g5 : Below w.heap.size w w5 := g4.trans (hb5.mono g4.size)
  have z5 : w1.heap.size < w5.heap.size := by have := hb5.size; omega
  go_wp2_with fail
  refine (wakes_any _).mono ?_
  rintro e w6 ⟨rfl, hb6⟩
  go_wp2_with fail
  go_ret
  exact ⟨rfl, g5.trans (hb6.mono g5.size)⟩

/-! ### THE ROW's STEP: WRITTEN OUT: LEAVE IT -/
set_option maxRecDepth 100000 in
theorem lifted (os : Os) (started : os.Started) (H : Type) (enc : TypeId × Value → H) :
    ReturnsInHanded {} Try.checked os 4 .any (Rows.geomBlocksSpec.pre6 enc Try.prog Try.f4 Rows.geomBlocksRow.domain false) (Rows.geomBlocksSpec.post enc Try.prog Try.f4 false true false false) := by
  refine returnsInHanded_of_change (C := Try.checked) own started (by kernel_rfl) Try.func4
    (ChangeSpec.witness6 (enc := enc) (C := Try.checked) false ⟨#[], #[.int .i64 0, .int .i64 0, .int .i64 0, .int .i64 0, .int .i64 0, .int .i64 0], []⟩ 8 (by kernel_rfl) (by kernel_rfl) (by kernel_rfl) (by kernel_rfl)) ?_
  intro W base args ds gs before hval0 hW hcnd _
  have hval : ∀ (j : Nat) t v, Try.f4.params[j]? = some t → args[j]? = some v → Value.okWide Try.prog W .any base t v := hval0
  have hW' := hW
  obtain ⟨p, q, hA0, hV, rfl, hfz, hnd⟩ := hW
  have hA : DataW.TrodAll enc Try.prog W 0 (fun _ => true) true Try.f4.params.toList args.toList ds p := hA0
  rw [Try.params4] at hA hval
  obtain ⟨v0, vs0, d0, ds0, p0, q0, hargs, rfl, rfl, h0, r0⟩ := trodAll_cons hA
  obtain ⟨v1, vs1, d1, ds1, p1, q1, rfl, rfl, rfl, h1, r1⟩ := trodAll_cons r0
  obtain ⟨v2, vs2, d2, ds2, p2, q2, rfl, rfl, rfl, h2, r2⟩ := trodAll_cons r1
  obtain ⟨v3, vs3, d3, ds3, p3, q3, rfl, rfl, rfl, h3, r3⟩ := trodAll_cons r2
  obtain ⟨v4, vs4, d4, ds4, p4, q4, rfl, rfl, rfl, h4, r4⟩ := trodAll_cons r3
  obtain ⟨v5, vs5, d5, ds5, p5, q5, rfl, rfl, rfl, h5, r5⟩ := trodAll_cons r4
  obtain ⟨rfl, rfl, rfl⟩ := trodAll_nil r5
  obtain rfl : args = #[v0, v1, v2, v3, v4, v5] := by cases args; simp_all
  obtain ⟨rfl, rfl⟩ := trodVars_none hV
  obtain ⟨a0, rfl, rfl, rfl, w0⟩ := open_int Try.underlying3 (hval 0 3 v0 rfl rfl) h0
  obtain ⟨a1, rfl, rfl, rfl, w1⟩ := open_int Try.underlying3 (hval 1 3 v1 rfl rfl) h1
  obtain ⟨a2, rfl, rfl, rfl, w2⟩ := open_int Try.underlying3 (hval 2 3 v2 rfl rfl) h2
  obtain ⟨a3, rfl, rfl, rfl, w3⟩ := open_int Try.underlying3 (hval 3 3 v3 rfl rfl) h3
  obtain ⟨a4, rfl, rfl, rfl, w4⟩ := open_int Try.underlying3 (hval 4 3 v4 rfl rfl) h4
  obtain ⟨a5, rfl, rfl, rfl, w5⟩ := open_int Try.underlying3 (hval 5 3 v5 rfl rfl) h5
  clear hA0 hval0
  simp only [List.append_nil] at hW'
  refine (walk a0 a1 a2 a3 a4 a5 w0 w1 w2 w3 w4 w5 W).mono fun e W' ⟨he, bel⟩ => ?_
  subst he
  exact ⟨_, rfl, _, _, _, [], [], [], hW', trodAll_mk1 (shut_bool Try.underlying4 _), (trodAll_cons_mk (shut_int Try.underlying3 w0) (trodAll_cons_mk (shut_int Try.underlying3 w1) (trodAll_cons_mk (shut_int Try.underlying3 w2) (trodAll_cons_mk (shut_int Try.underlying3 w3) (trodAll_cons_mk (shut_int Try.underlying3 w4) (trodAll_cons_mk (shut_int Try.underlying3 w5) trodAll_mk0)))))), rfl, bel.frame _, fun h => by cases h⟩

theorem over : Rows.geomBlocksRow.holds Try.pinned (OpenSpec.ofChange Rows.geomBlocksSpec) :=
  OpenClaim.holds_of_wide 4 Try.f4 rfl rfl rfl rfl rfl rfl rfl ⟨rfl, rfl, rfl, rfl, rfl⟩ rfl rfl rfl rfl rfl (by kernel_rfl) Try.func4 (by kernel_rfl)
    (of_decide_eq_true (by kernel_rfl)) (by unfold Func.isWrapper; first | (rw [if_pos (by decide +kernel)]; kernel_rfl) | (rw [if_neg (by decide +kernel)]; exact ⟨rfl, rfl⟩))
    (fun os started H enc _ => lifted os started H enc)

/-- ████ THE STATEMENT ████ -/
theorem proved : Rows.GeomBlocksSaid :=
  over
#print axioms proved
end Go.Proofs.Ytigibbekbncpiaa.geomBlocks

/-
  PROVED: the law 'SumFour' returns true for every input, and leaves its arguments and all memory as they were. Conditions: those of the given row alone.
-/
import Derived.Test.YtjnlgckjglmijaaKeep
import Derived.WalkKit
import Derived.ProofKit
import Derived.OpenShut
import Derived.ShutString
import Derived.ChangeOld
import Derived.Below
namespace Go.Proofs.Ytjnlgckjglmijaa.sumFour
open Go.ChangeShapes Go.WideShapes Go.ChangeAt Go.RowKit
open Go.ChangeMaps (open_string shut_string)
set_option linter.unusedVariables false      -- a walk need not use every 'w<i>' (that an integer argument fits its kind)

theorem own : ownKnob Try.prog.godebug = none := by kernel_rfl

theorem row_new2 (w : World) (o : Obj) (l : List Nat) (hb : ∀ c ∈ l, c < 256) (t : TypeId) (f : Nat × Nat) (n : Nat) (hn : l.length = n) : Row ((w.alloc o).alloc (.cells (cellsOf l) t f)) (some ⟨w.heap.size + 1, 0, none⟩) n l := by
  have h := row_new (w.alloc o) l hb t f n hn
  rwa [show (w.alloc o).heap.size = w.heap.size + 1 by simp] at h
theorem four (n0 n1 n2 n3 : Nat) (h0 : n0 < 256) (h1 : n1 < 256) (h2 : n2 < 256) (h3 : n3 < 256) : ∀ c ∈ [n0, n1, n2, n3], c < 256 := by
  intro c hc
  simp only [List.mem_cons, List.not_mem_nil, or_false] at hc
  rcases hc with rfl | rfl | rfl | rfl <;> assumption
theorem byte_of {a : Int} (h : (Lit.int .u8 a).wf = true) : ∃ n : Nat, a = n ∧ n < 256 := by
  have hx : 0 ≤ a ∧ a ≤ 255 := by simpa [Lit.wf, IntKind.min, IntKind.max, IntKind.signed, IntKind.bits] using h
  obtain ⟨n, hn⟩ := Int.eq_ofNat_of_zero_le hx.1
  exact ⟨n, hn, by omega⟩
theorem core (n0 n1 n2 n3 m0 m1 m2 m3 : Nat) (h0 : n0 < 256) (h1 : n1 < 256) (h2 : n2 < 256) (h3 : n3 < 256) (k0 : m0 < 256) (k1 : m1 < 256) (k2 : m2 < 256) (k3 : m3 < 256) (w : World) :
    Calls Try.prog 6 #[.int .u8 n0, .int .u8 n1, .int .u8 n2, .int .u8 n3, .int .u8 m0, .int .u8 m1, .int .u8 m2, .int .u8 m3] w fun e w' => e = .returned (.bool true) ∧ Below w.heap.size w w' := by
  have f1 := four n0 n1 n2 n3 h0 h1 h2 h3
  have f2 := four m0 m1 m2 m3 k0 k1 k2 k3
  have r1 : Row ((w.alloc (.cells #[.int .u8 n0, .int .u8 n1, .int .u8 n2, .int .u8 n3] 5)).alloc (.cells #[.int .u8 m0, .int .u8 m1, .int .u8 m2, .int .u8 m3] 5)) (some ⟨w.heap.size, 0, none⟩) 4 [n0, n1, n2, n3] :=
    (row_new w [n0, n1, n2, n3] f1 5 (0, 0) 4 rfl).alloc _
  have r2 : Row ((w.alloc (.cells #[.int .u8 n0, .int .u8 n1, .int .u8 n2, .int .u8 n3] 5)).alloc (.cells #[.int .u8 m0, .int .u8 m1, .int .u8 m2, .int .u8 m3] 5)) (some ⟨w.heap.size + 1, 0, none⟩) 4 [m0, m1, m2, m3] :=
    row_new2 w _ [m0, m1, m2, m3] f2 5 (0, 0) 4 rfl
  obtain ⟨A, hA⟩ : ∃ A, Crc.sum [n0, n1, n2, n3] = A := ⟨_, rfl⟩
  obtain ⟨B, hB⟩ : ∃ B, Crc.sum [m0, m1, m2, m3] = B := ⟨_, rfl⟩
  obtain ⟨D, hD⟩ : ∃ D, decide ([n0, n1, n2, n3] = [m0, m1, m2, m3]) = D := ⟨_, rfl⟩
  have tt : ((((A : Nat) : Int) == ((B : Nat) : Int)) == D) = true := by
    rw [← hD]
    by_cases h : [n0, n1, n2, n3] = [m0, m1, m2, m3]
    · rw [decide_eq_true h, ← hA, ← hB, h]; simp
    · have hne : A ≠ B := fun e => h (Crc.sum_four _ _ rfl rfl f1 f2 (by rw [hA, hB, e]))
      rw [decide_eq_false h, beq_eq_false_iff_ne.2 (by omega : (A : Int) ≠ B)]; rfl
  have HA := Lib.hid hA
  have HB := Lib.hid hB
  have HD := Lib.hid hD
  clear hA hB hD
  have hm4 : 4 ≤ maxLen := by decide
  have g2 : Below w.heap.size w ((w.alloc (.cells #[.int .u8 n0, .int .u8 n1, .int .u8 n2, .int .u8 n3] 5)).alloc (.cells #[.int .u8 m0, .int .u8 m1, .int .u8 m2, .int .u8 m3] 5)) :=
    ((Below.refl _ _).alloc (Nat.le_refl _) _).alloc (by simp) _
  go_enter Try.func6, Try.ntmps6
  go_wp2_with fail
  refine (of_of _ HA.out r1 hm4).mono ?_
  rintro e w' ⟨rfl, rfl⟩
  go_wp2_with fail
  refine (of_of _ HB.out r2 hm4).mono ?_
  rintro e w' ⟨rfl, rfl⟩
  go_wp2_with fail
  refine (bytes_any _ _ _ _ _ _ _ _ _ r1 r2 hm4).mono ?_
  rintro e w1 ⟨rfl, hb1⟩
  rw [HD.out]
  clear r1 r2
  go_wp2_with fail
  refine (wakes_any _).mono ?_
  rintro e w2 ⟨rfl, hb2⟩
  go_wp2_with fail
  go_ret
  have g3 := g2.trans (hb1.mono g2.size)
  exact ⟨rfl, g3.trans (hb2.mono g3.size)⟩
theorem walk (a0 : Int) (a1 : Int) (a2 : Int) (a3 : Int) (a4 : Int) (a5 : Int) (a6 : Int) (a7 : Int) (w0 : (Lit.int .u8 a0).wf = true) (w1 : (Lit.int .u8 a1).wf = true) (w2 : (Lit.int .u8 a2).wf = true) (w3 : (Lit.int .u8 a3).wf = true) (w4 : (Lit.int .u8 a4).wf = true) (w5 : (Lit.int .u8 a5).wf = true) (w6 : (Lit.int .u8 a6).wf = true) (w7 : (Lit.int .u8 a7).wf = true) (w : World) :
    Calls Try.prog 6 #[.int .u8 a0, .int .u8 a1, .int .u8 a2, .int .u8 a3, .int .u8 a4, .int .u8 a5, .int .u8 a6, .int .u8 a7] w fun e w' => e = .returned (.bool true) ∧ Below w.heap.size w w' := by
  obtain ⟨n0, rfl, h0⟩ := byte_of w0
  obtain ⟨n1, rfl, h1⟩ := byte_of w1
  obtain ⟨n2, rfl, h2⟩ := byte_of w2
  obtain ⟨n3, rfl, h3⟩ := byte_of w3
  obtain ⟨m0, rfl, k0⟩ := byte_of w4
  obtain ⟨m1, rfl, k1⟩ := byte_of w5
  obtain ⟨m2, rfl, k2⟩ := byte_of w6
  obtain ⟨m3, rfl, k3⟩ := byte_of w7
  exact core n0 n1 n2 n3 m0 m1 m2 m3 h0 h1 h2 h3 k0 k1 k2 k3 w

/-! ### THE ROW's STEP: WRITTEN OUT: LEAVE IT -/
set_option maxRecDepth 100000 in
theorem lifted (os : Os) (started : os.Started) (H : Type) (enc : TypeId × Value → H) :
    ReturnsInHanded {} Try.checked os 6 .any (Rows.sumFourSpec.pre6 enc Try.prog Try.f6 Rows.sumFourRow.domain false) (Rows.sumFourSpec.post enc Try.prog Try.f6 false true false false) := by
  refine returnsInHanded_of_change (C := Try.checked) own started (by kernel_rfl) Try.func6
    (ChangeSpec.witness6 (enc := enc) (C := Try.checked) false ⟨#[], #[.int .u8 0, .int .u8 0, .int .u8 0, .int .u8 0, .int .u8 0, .int .u8 0, .int .u8 0, .int .u8 0], []⟩ 8 (by kernel_rfl) (by kernel_rfl) (by kernel_rfl) (by kernel_rfl)) ?_
  intro W base args ds gs before hval0 hW hcnd _
  have hval : ∀ (j : Nat) t v, Try.f6.params[j]? = some t → args[j]? = some v → Value.okWide Try.prog W .any base t v := hval0
  have hW' := hW
  obtain ⟨p, q, hA0, hV, rfl, hfz, hnd⟩ := hW
  have hA : DataW.TrodAll enc Try.prog W 0 (fun _ => true) true Try.f6.params.toList args.toList ds p := hA0
  rw [Try.params6] at hA hval
  obtain ⟨v0, vs0, d0, ds0, p0, q0, hargs, rfl, rfl, h0, r0⟩ := trodAll_cons hA
  obtain ⟨v1, vs1, d1, ds1, p1, q1, rfl, rfl, rfl, h1, r1⟩ := trodAll_cons r0
  obtain ⟨v2, vs2, d2, ds2, p2, q2, rfl, rfl, rfl, h2, r2⟩ := trodAll_cons r1
  obtain ⟨v3, vs3, d3, ds3, p3, q3, rfl, rfl, rfl, h3, r3⟩ := trodAll_cons r2
  obtain ⟨v4, vs4, d4, ds4, p4, q4, rfl, rfl, rfl, h4, r4⟩ := trodAll_cons r3
  obtain ⟨v5, vs5, d5, ds5, p5, q5, rfl, rfl, rfl, h5, r5⟩ := trodAll_cons r4
  obtain ⟨v6, vs6, d6, ds6, p6, q6, rfl, rfl, rfl, h6, r6⟩ := trodAll_cons r5
  obtain ⟨v7, vs7, d7, ds7, p7, q7, rfl, rfl, rfl, h7, r7⟩ := trodAll_cons r6
  obtain ⟨rfl, rfl, rfl⟩ := trodAll_nil r7
  obtain rfl : args = #[v0, v1, v2, v3, v4, v5, v6, v7] := by cases args; simp_all
  obtain ⟨rfl, rfl⟩ := trodVars_none hV
  obtain ⟨a0, rfl, rfl, rfl, w0⟩ := open_int Try.underlying5 (hval 0 5 v0 rfl rfl) h0
  obtain ⟨a1, rfl, rfl, rfl, w1⟩ := open_int Try.underlying5 (hval 1 5 v1 rfl rfl) h1
  obtain ⟨a2, rfl, rfl, rfl, w2⟩ := open_int Try.underlying5 (hval 2 5 v2 rfl rfl) h2
  obtain ⟨a3, rfl, rfl, rfl, w3⟩ := open_int Try.underlying5 (hval 3 5 v3 rfl rfl) h3
  obtain ⟨a4, rfl, rfl, rfl, w4⟩ := open_int Try.underlying5 (hval 4 5 v4 rfl rfl) h4
  obtain ⟨a5, rfl, rfl, rfl, w5⟩ := open_int Try.underlying5 (hval 5 5 v5 rfl rfl) h5
  obtain ⟨a6, rfl, rfl, rfl, w6⟩ := open_int Try.underlying5 (hval 6 5 v6 rfl rfl) h6
  obtain ⟨a7, rfl, rfl, rfl, w7⟩ := open_int Try.underlying5 (hval 7 5 v7 rfl rfl) h7
  clear hA0 hval0
  simp only [List.append_nil] at hW'
  refine (walk a0 a1 a2 a3 a4 a5 a6 a7 w0 w1 w2 w3 w4 w5 w6 w7 W).mono fun e W' ⟨he, bel⟩ => ?_
  subst he
  exact ⟨_, rfl, _, _, _, [], [], [], hW', trodAll_mk1 (shut_bool Try.underlying4 _), (trodAll_cons_mk (shut_int Try.underlying5 w0) (trodAll_cons_mk (shut_int Try.underlying5 w1) (trodAll_cons_mk (shut_int Try.underlying5 w2) (trodAll_cons_mk (shut_int Try.underlying5 w3) (trodAll_cons_mk (shut_int Try.underlying5 w4) (trodAll_cons_mk (shut_int Try.underlying5 w5) (trodAll_cons_mk (shut_int Try.underlying5 w6) (trodAll_cons_mk (shut_int Try.underlying5 w7) trodAll_mk0)))))))), rfl, bel.frame _, fun h => by cases h⟩

theorem over : Rows.sumFourRow.holds Try.pinned (OpenSpec.ofChange Rows.sumFourSpec) :=
  OpenClaim.holds_of_wide 6 Try.f6 rfl rfl rfl rfl rfl rfl rfl ⟨rfl, rfl, rfl, rfl, rfl⟩ rfl rfl rfl rfl rfl (by kernel_rfl) Try.func6 (by kernel_rfl)
    (of_decide_eq_true (by kernel_rfl)) (by unfold Func.isWrapper; first | (rw [if_pos (by decide +kernel)]; kernel_rfl) | (rw [if_neg (by decide +kernel)]; exact ⟨rfl, rfl⟩))
    (fun os started H enc _ => lifted os started H enc)

/-- ████ THE STATEMENT ████ -/
theorem proved : Rows.SumFourSaid :=
  over
#print axioms proved
end Go.Proofs.Ytjnlgckjglmijaa.sumFour

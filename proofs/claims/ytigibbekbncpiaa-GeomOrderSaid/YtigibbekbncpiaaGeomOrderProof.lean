/-
  PROVED: the law 'GeomOrder' returns true for every input, and leaves its arguments and all memory as they were. Conditions: those of the given row alone.
-/
import Derived.Test.YtigibbekbncpiaaWalks3
import Derived.WalkKit
import Derived.ProofKit
import Derived.OpenShut
import Derived.ShutString
import Derived.ChangeOld
import Derived.Below
namespace Go.Proofs.Ytigibbekbncpiaa.geomOrder
open Go.ChangeShapes Go.WideShapes Go.ChangeAt Go.RowKit
open Go.ChangeMaps (open_string shut_string)
set_option linter.unusedVariables false      -- a walk need not use every 'w<i>' (that an integer argument fits its kind)

theorem own : ownKnob Try.prog.godebug = none := by kernel_rfl

theorem anchor_is {z d s l a i n : Int} (w : World) (h : okB z d s l a = true) (hi : inB i 0 (a - 1) = true) (hn : i = n) :
    Calls Try.prog 18 #[.agg #[.int .i64 z, .int .i64 d, .int .i64 s, .int .i64 l, .int .i64 a], .int .i64 i] w fun e w' => e = .returned (.tuple #[.int .i64 n, .int .i64 0]) ∧ Below w.heap.size w w' := by
  subst hn
  exact Anchor_yes z d s l a i w h hi
theorem log_is {z d s l a c k n : Int} (w : World) (h : okB z d s l a = true) (hc : inB c 0 1 = true) (hk : inB k 0 (l - 1) = true) (hn : a + c * l + k = n) :
    Calls Try.prog 15 #[.agg #[.int .i64 z, .int .i64 d, .int .i64 s, .int .i64 l, .int .i64 a], .int .i64 c, .int .i64 k] w fun e w' => e = .returned (.tuple #[.int .i64 n, .int .i64 0]) ∧ Below w.heap.size w w' := by
  subst hn
  exact Log_yes z d s l a c k w h hc hk
theorem table_is {z d s l a i k n : Int} (w : World) (h : okB z d s l a = true) (hc : inB i 0 (z - 1) = true) (hk : inB k 0 1 = true) (hn : a + 2 * l + 2 * i + k = n) :
    Calls Try.prog 16 #[.agg #[.int .i64 z, .int .i64 d, .int .i64 s, .int .i64 l, .int .i64 a], .int .i64 i, .int .i64 k] w fun e w' => e = .returned (.tuple #[.int .i64 n, .int .i64 0]) ∧ Below w.heap.size w w' := by
  subst hn
  exact Table_yes z d s l a i k w h hc hk
theorem slot_is {z d s l a i k n : Int} (w : World) (h : okB z d s l a = true) (hc : inB i 0 (z - 1) = true) (hk : inB k 0 (d + 1 + s - 1) = true) (hn : a + 2 * l + 2 * z + i * (d + 1 + s) + k = n) :
    Calls Try.prog 17 #[.agg #[.int .i64 z, .int .i64 d, .int .i64 s, .int .i64 l, .int .i64 a], .int .i64 i, .int .i64 k] w fun e w' => e = .returned (.tuple #[.int .i64 n, .int .i64 0]) ∧ Below w.heap.size w w' := by
  subst hn
  exact Slot_yes z d s l a i k w h hc hk
theorem cells_is {z d s l a n : Int} (w : World) (h : okB z d s l a = true)  (hn : a + 2 * l + 2 * z + z * (d + 1 + s) = n) :
    Calls Try.prog 10 #[.agg #[.int .i64 z, .int .i64 d, .int .i64 s, .int .i64 l, .int .i64 a]] w fun e w' => e = .returned (.tuple #[.int .i64 n, .int .i64 0]) ∧ Below w.heap.size w w' := by
  subst hn
  exact Cells_ok z d s l a w h
set_option maxRecDepth 100000 in
set_option maxHeartbeats 1600000 in
theorem walk (a0 : Int) (a1 : Int) (a2 : Int) (a3 : Int) (a4 : Int) (w0 : (Lit.int .i64 a0).wf = true) (w1 : (Lit.int .i64 a1).wf = true) (w2 : (Lit.int .i64 a2).wf = true) (w3 : (Lit.int .i64 a3).wf = true) (w4 : (Lit.int .i64 a4).wf = true) (w : World) :
    Calls Try.prog 6 #[.int .i64 a0, .int .i64 a1, .int .i64 a2, .int .i64 a3, .int .i64 a4] w fun e w' => e = .returned (.bool true) ∧ Below w.heap.size w w' := by
  clear w0 w1 w2 w3 w4
  go_enter Try.func6, Try.ntmps6
  go_wp2_with fail
  refine (some_any _ _ _ _ _ _).mono ?_
  rintro e w1 ⟨z, d, s, l, a, h, rfl, hb1⟩
  have bd := okB_bounds h
  obtain ⟨zp0, zp1⟩ := zp_bounds h
  have g1 : Below w.heap.size w (w1.alloc (.cells #[.int .i64 z, .int .i64 d, .int .i64 s, .int .i64 l, .int .i64 a] 23)) := hb1.alloc hb1.size _
  obtain ⟨q, hq⟩ : ∃ q, z * (d + 1 + s) = q := ⟨_, rfl⟩
  rw [hq] at zp0 zp1
  have n0 := Lib.hid (show a + 0 * l + 0 = a by omega)
  have n1 := Lib.hid (show a + 1 * l + 0 = a + l by omega)
  have n2 := Lib.hid (show a + 2 * l + 2 * 0 + 0 = a + 2 * l by omega)
  have n3 := Lib.hid (show a + 2 * l + 2 * (z - 1) + 1 = a + 2 * l + 2 * z - 1 by omega)
  have n4 := Lib.hid (show a + 2 * l + 2 * z + 0 * (d + 1 + s) + 0 = a + 2 * l + 2 * z by omega)
  have n5 := Lib.hid (show a + 2 * l + 2 * z + (z - 1) * (d + 1 + s) + (d + s) = a + 2 * l + 2 * z + q - 1 by rw [Int.sub_mul, hq]; omega)
  have n6 := Lib.hid (show a + 2 * l + 2 * z + z * (d + 1 + s) = a + 2 * l + 2 * z + q by rw [hq])
  clear hq
  go_wp2_with fail
  refine (anchor_is _ h (inB_yes (by omega) (by omega)) rfl).mono ?_
  rintro e w2 ⟨rfl, hb2⟩
  obtain ⟨hc2, hf2⟩ := bcell hb2
  have g2 : Below w.heap.size w w2 := g1.trans (hb2.mono g1.size)
  have z2 : w1.heap.size < w2.heap.size := by have := hb2.size; simp at this; omega
  go_wp2_with fail
  refine (log_is _ h rfl (inB_yes (by omega) (by omega)) n0.out).mono ?_
  rintro e w3 ⟨rfl, hb3⟩
  obtain ⟨hc3, hf3⟩ := bcell hb3
  have g3 : Below w.heap.size w w3 := g2.trans (hb3.mono g2.size)
  have z3 : w1.heap.size < w3.heap.size := by have := hb3.size; omega
  go_wp2_with fail
  refine (log_is _ h rfl (inB_yes (by omega) (by omega)) n1.out).mono ?_
  rintro e w4 ⟨rfl, hb4⟩
  obtain ⟨hc4, hf4⟩ := bcell hb4
  have g4 : Below w.heap.size w w4 := g3.trans (hb4.mono g3.size)
  have z4 : w1.heap.size < w4.heap.size := by have := hb4.size; omega
  go_wp2_with fail
  refine (table_is _ h (inB_yes (by omega) (by omega)) rfl n2.out).mono ?_
  rintro e w5 ⟨rfl, hb5⟩
  obtain ⟨hc5, hf5⟩ := bcell hb5
  have g5 : Below w.heap.size w w5 := g4.trans (hb5.mono g4.size)
  have z5 : w1.heap.size < w5.heap.size := by have := hb5.size; omega
  go_wp2_with fail
  refine (table_is _ h (inB_yes (by omega) (by omega)) rfl n3.out).mono ?_
  rintro e w6 ⟨rfl, hb6⟩
  obtain ⟨hc6, hf6⟩ := bcell hb6
  have g6 : Below w.heap.size w w6 := g5.trans (hb6.mono g5.size)
  have z6 : w1.heap.size < w6.heap.size := by have := hb6.size; omega
  go_wp2_with fail
  refine (slot_is _ h (inB_yes (by omega) (by omega)) (inB_yes (by omega) (by omega)) n4.out).mono ?_
  rintro e w7 ⟨rfl, hb7⟩
  obtain ⟨hc7, hf7⟩ := bcell hb7
  have g7 : Below w.heap.size w w7 := g6.trans (hb7.mono g6.size)
  have z7 : w1.heap.size < w7.heap.size := by have := hb7.size; omega
  go_wp2_with fail
  refine (slot_is _ h (inB_yes (by omega) (by omega)) (inB_yes (by omega) (by omega)) n5.out).mono ?_
  rintro e w8 ⟨rfl, hb8⟩
  obtain ⟨hc8, hf8⟩ := bcell hb8
  have g8 : Below w.heap.size w w8 := g7.trans (hb8.mono g7.size)
  have z8 : w1.heap.size < w8.heap.size := by have := hb8.size; omega
  go_wp2_with fail
  refine (cells_is _ h n6.out).mono ?_
  rintro e w9 ⟨rfl, hb9⟩
  obtain ⟨hc9, hf9⟩ := bcell hb9
  have g9 : Below w.heap.size w w9 := g8.trans (hb9.mono g8.size)
  have z9 : w1.heap.size < w9.heap.size := by have := hb9.size; omega
  go_wp2_with fail
  refine (wakes_any _).mono ?_
  rintro e w10 ⟨rfl, hb10⟩
  go_wp2_with fail
  go_ret
  exact ⟨rfl, g9.trans (hb10.mono g9.size)⟩

/-! ### THE ROW's STEP: WRITTEN OUT: LEAVE IT -/
set_option maxRecDepth 100000 in
theorem lifted (os : Os) (started : os.Started) (H : Type) (enc : TypeId × Value → H) :
    ReturnsInHanded {} Try.checked os 6 .any (Rows.geomOrderSpec.pre6 enc Try.prog Try.f6 Rows.geomOrderRow.domain false) (Rows.geomOrderSpec.post enc Try.prog Try.f6 false true false false) := by
  refine returnsInHanded_of_change (C := Try.checked) own started (by kernel_rfl) Try.func6
    (ChangeSpec.witness6 (enc := enc) (C := Try.checked) false ⟨#[], #[.int .i64 0, .int .i64 0, .int .i64 0, .int .i64 0, .int .i64 0], []⟩ 8 (by kernel_rfl) (by kernel_rfl) (by kernel_rfl) (by kernel_rfl)) ?_
  intro W base args ds gs before hval0 hW hcnd _
  have hval : ∀ (j : Nat) t v, Try.f6.params[j]? = some t → args[j]? = some v → Value.okWide Try.prog W .any base t v := hval0
  have hW' := hW
  obtain ⟨p, q, hA0, hV, rfl, hfz, hnd⟩ := hW
  have hA : DataW.TrodAll enc Try.prog W 0 (fun _ => true) true Try.f6.params.toList args.toList ds p := hA0
  rw [Try.params6] at hA hval
  obtain ⟨v0, vs0, d0, ds0, p0, q0, hargs, rfl, rfl, h0, r0⟩ := trodAll_cons hA
  obtain ⟨v1, vs1, d1, ds1, p1, q1, rfl, rfl, rfl, h1, r1⟩ := trodAll_cons r0
  obtain ⟨v2, vs2, d2, ds2, p2, q2, rfl, rfl, rfl, h2, r2⟩ := trodAll_cons r1
  obtain ⟨v3, vs3, d3, ds3, p3, q3, rfl, rfl, rfl, h3, r3⟩ := trodAll_cons r2
  obtain ⟨v4, vs4, d4, ds4, p4, q4, rfl, rfl, rfl, h4, r4⟩ := trodAll_cons r3
  obtain ⟨rfl, rfl, rfl⟩ := trodAll_nil r4
  obtain rfl : args = #[v0, v1, v2, v3, v4] := by cases args; simp_all
  obtain ⟨rfl, rfl⟩ := trodVars_none hV
  obtain ⟨a0, rfl, rfl, rfl, w0⟩ := open_int Try.underlying3 (hval 0 3 v0 rfl rfl) h0
  obtain ⟨a1, rfl, rfl, rfl, w1⟩ := open_int Try.underlying3 (hval 1 3 v1 rfl rfl) h1
  obtain ⟨a2, rfl, rfl, rfl, w2⟩ := open_int Try.underlying3 (hval 2 3 v2 rfl rfl) h2
  obtain ⟨a3, rfl, rfl, rfl, w3⟩ := open_int Try.underlying3 (hval 3 3 v3 rfl rfl) h3
  obtain ⟨a4, rfl, rfl, rfl, w4⟩ := open_int Try.underlying3 (hval 4 3 v4 rfl rfl) h4
  clear hA0 hval0
  simp only [List.append_nil] at hW'
  refine (walk a0 a1 a2 a3 a4 w0 w1 w2 w3 w4 W).mono fun e W' ⟨he, bel⟩ => ?_
  subst he
  exact ⟨_, rfl, _, _, _, [], [], [], hW', trodAll_mk1 (shut_bool Try.underlying4 _), (trodAll_cons_mk (shut_int Try.underlying3 w0) (trodAll_cons_mk (shut_int Try.underlying3 w1) (trodAll_cons_mk (shut_int Try.underlying3 w2) (trodAll_cons_mk (shut_int Try.underlying3 w3) (trodAll_cons_mk (shut_int Try.underlying3 w4) trodAll_mk0))))), rfl, bel.frame _, fun h => by cases h⟩

theorem over : Rows.geomOrderRow.holds Try.pinned (OpenSpec.ofChange Rows.geomOrderSpec) :=
  OpenClaim.holds_of_wide 6 Try.f6 rfl rfl rfl rfl rfl rfl rfl ⟨rfl, rfl, rfl, rfl, rfl⟩ rfl rfl rfl rfl rfl (by kernel_rfl) Try.func6 (by kernel_rfl)
    (of_decide_eq_true (by kernel_rfl)) (by unfold Func.isWrapper; first | (rw [if_pos (by decide +kernel)]; kernel_rfl) | (rw [if_neg (by decide +kernel)]; exact ⟨rfl, rfl⟩))
    (fun os started H enc _ => lifted os started H enc)

/-- ████ THE STATEMENT ████ -/
theorem proved : Rows.GeomOrderSaid :=
  over
#print axioms proved
end Go.Proofs.Ytigibbekbncpiaa.geomOrder

/-
  PROVED: the law 'SumTables' returns true for every input, and leaves its arguments and all memory as they were. Conditions: those of the given row alone.
-/
import Derived.Test.YtjnlgckjglmijaaSums
import Derived.WalkKit
import Derived.ProofKit
import Derived.OpenShut
import Derived.ShutString
import Derived.ChangeOld
import Derived.Below
namespace Go.Proofs.Ytjnlgckjglmijaa.sumTables
open Go.ChangeShapes Go.WideShapes Go.ChangeAt Go.RowKit
open Go.ChangeMaps (open_string shut_string)
set_option linter.unusedVariables false      -- a walk need not use every 'w<i>' (that an integer argument fits its kind)

theorem own : ownKnob Try.prog.godebug = none := by kernel_rfl

theorem walk (a0 : Int) (a1 : Int) (w0 : (Lit.int .i64 a0).wf = true) (w1 : (Lit.int .i64 a1).wf = true) (w : World) :
    Calls Try.prog 8 #[.int .i64 a0, .int .i64 a1] w fun e w' => e = .returned (.bool true) ∧ Below w.heap.size w w' := by
  obtain ⟨x, hx, hx6⟩ := umod a0 256 (by decide)
  obtain ⟨y, hy, hy6⟩ := umod a1 256 (by decide)
  have hxy : x ^^^ y < 256 := Nat.xor_lt_two_pow (n := 8) hx6 hy6
  obtain ⟨A, hA⟩ : ∃ A, Crc.eight x = A := ⟨_, rfl⟩
  obtain ⟨B, hB⟩ : ∃ B, Crc.eight y = B := ⟨_, rfl⟩
  have hC : Crc.eight (x ^^^ y) = A ^^^ B := by rw [Crc.eight_xor, hA, hB]
  have lA : A < 4294967296 := hA ▸ Crc.eight_lt (by omega)
  have lB : B < 4294967296 := hB ▸ Crc.eight_lt (by omega)
  have x1 := xor_i64 x y (by omega) (by omega)
  have x2 := xor_i64 A B lA lB
  have hinj : A = B → x = y := fun e => Crc.eight_inj (by omega) (by omega) (by rw [hA, hB, e])
  have HA := Lib.hid hA
  have HB := Lib.hid hB
  have HC := Lib.hid hC
  have hback : x = y → A = B := fun e => by rw [← hA, ← hB, e]
  clear hA hB hC
  have hx' : (IntKind.u64.wrap a0).tmod 256 = (x : Int) := hx
  have hy' : (IntKind.u64.wrap a1).tmod 256 = (y : Int) := hy
  clear hx hy
  generalize x ^^^ y = z at *
  generalize A ^^^ B = C at *
  have hABxy : (((A : Int) == (B : Int)) == ((x : Int) == (y : Int))) = true := by
    by_cases h : x = y
    · rw [hback h, h]; simp
    · have h' : ¬ A = B := fun e => h (hinj e)
      rw [beq_eq_false_iff_ne.2 (by omega : (A : Int) ≠ B), beq_eq_false_iff_ne.2 (by omega : (x : Int) ≠ y)]; rfl
  clear hinj hback
  go_enter Try.func8, Try.ntmps8
  go_wp2_with fail
  refine (table_is _ hx6 HA.out).mono ?_
  rintro e w' ⟨rfl, rfl⟩
  go_wp2_with fail
  refine (table_is _ hy6 HB.out).mono ?_
  rintro e w' ⟨rfl, rfl⟩
  go_wp2_with fail
  refine (table_is _ hxy HC.out).mono ?_
  rintro e w' ⟨rfl, rfl⟩
  go_wp2_with fail
  refine (wakes_any _).mono ?_
  rintro e w' ⟨rfl, hb⟩
  go_wp2_with fail
  go_ret
  exact ⟨rfl, hb⟩

/-! ### THE ROW's STEP: WRITTEN OUT: LEAVE IT -/
set_option maxRecDepth 100000 in
theorem lifted (os : Os) (started : os.Started) (H : Type) (enc : TypeId × Value → H) :
    ReturnsInHanded {} Try.checked os 8 .any (Rows.sumTablesSpec.pre6 enc Try.prog Try.f8 Rows.sumTablesRow.domain false) (Rows.sumTablesSpec.post enc Try.prog Try.f8 false true false false) := by
  refine returnsInHanded_of_change (C := Try.checked) own started (by kernel_rfl) Try.func8
    (ChangeSpec.witness6 (enc := enc) (C := Try.checked) false ⟨#[], #[.int .i64 0, .int .i64 0], []⟩ 8 (by kernel_rfl) (by kernel_rfl) (by kernel_rfl) (by kernel_rfl)) ?_
  intro W base args ds gs before hval0 hW hcnd _
  have hval : ∀ (j : Nat) t v, Try.f8.params[j]? = some t → args[j]? = some v → Value.okWide Try.prog W .any base t v := hval0
  have hW' := hW
  obtain ⟨p, q, hA0, hV, rfl, hfz, hnd⟩ := hW
  have hA : DataW.TrodAll enc Try.prog W 0 (fun _ => true) true Try.f8.params.toList args.toList ds p := hA0
  rw [Try.params8] at hA hval
  obtain ⟨v0, vs0, d0, ds0, p0, q0, hargs, rfl, rfl, h0, r0⟩ := trodAll_cons hA
  obtain ⟨v1, vs1, d1, ds1, p1, q1, rfl, rfl, rfl, h1, r1⟩ := trodAll_cons r0
  obtain ⟨rfl, rfl, rfl⟩ := trodAll_nil r1
  obtain rfl : args = #[v0, v1] := by cases args; simp_all
  obtain ⟨rfl, rfl⟩ := trodVars_none hV
  obtain ⟨a0, rfl, rfl, rfl, w0⟩ := open_int Try.underlying3 (hval 0 3 v0 rfl rfl) h0
  obtain ⟨a1, rfl, rfl, rfl, w1⟩ := open_int Try.underlying3 (hval 1 3 v1 rfl rfl) h1
  clear hA0 hval0
  simp only [List.append_nil] at hW'
  refine (walk a0 a1 w0 w1 W).mono fun e W' ⟨he, bel⟩ => ?_
  subst he
  exact ⟨_, rfl, _, _, _, [], [], [], hW', trodAll_mk1 (shut_bool Try.underlying4 _), (trodAll_cons_mk (shut_int Try.underlying3 w0) (trodAll_cons_mk (shut_int Try.underlying3 w1) trodAll_mk0)), rfl, bel.frame _, fun h => by cases h⟩

theorem over : Rows.sumTablesRow.holds Try.pinned (OpenSpec.ofChange Rows.sumTablesSpec) :=
  OpenClaim.holds_of_wide 8 Try.f8 rfl rfl rfl rfl rfl rfl rfl ⟨rfl, rfl, rfl, rfl, rfl⟩ rfl rfl rfl rfl rfl (by kernel_rfl) Try.func8 (by kernel_rfl)
    (of_decide_eq_true (by kernel_rfl)) (by unfold Func.isWrapper; first | (rw [if_pos (by decide +kernel)]; kernel_rfl) | (rw [if_neg (by decide +kernel)]; exact ⟨rfl, rfl⟩))
    (fun os started H enc _ => lifted os started H enc)

/-- ████ THE STATEMENT ████ -/
theorem proved : Rows.SumTablesSaid :=
  over
#print axioms proved
end Go.Proofs.Ytjnlgckjglmijaa.sumTables

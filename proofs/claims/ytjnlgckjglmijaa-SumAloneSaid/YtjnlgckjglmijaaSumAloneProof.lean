/-
  PROVED: the law 'SumAlone' returns true for every input, and leaves its arguments and all memory as they were. Conditions: those of the given row alone.
-/
import Derived.Test.YtjnlgckjglmijaaKeep
import Derived.WalkKit
import Derived.ProofKit
import Derived.OpenShut
import Derived.ShutString
import Derived.ChangeOld
import Derived.Below
namespace Go.Proofs.Ytjnlgckjglmijaa.sumAlone
open Go.ChangeShapes Go.WideShapes Go.ChangeAt Go.RowKit
open Go.ChangeMaps (open_string shut_string)
set_option linter.unusedVariables false

theorem own : ownKnob Try.prog.godebug = none := by kernel_rfl
theorem laidOut : laidOutB Try.prog = true := by kernel_rfl

/-- WHAT THE WALK IS TOLD OF A SLICE OF INTEGERS THAT CAME IN: it is nil; or it leads to a row of 'cap' cells, the numbers 'zs' (the first 'len' are its elements, the rest its spare room), each fitting its kind. -/
def IsRow (k : IntKind) (w : World) (a : Option Addr) (len cap : Nat) (zs : List Int) : Prop :=
  (a = none ∧ len = 0 ∧ cap = 0 ∧ zs = []) ∨
  ∃ x, a = some x ∧ len ≤ cap ∧ cap ≤ maxLen ∧ zs.length = cap ∧ (∀ i, i < zs.length → w.cell? (x.add i) = some (.int k (zs.getD i 0))) ∧ ∀ n ∈ zs, (Lit.int k n).wf = true

theorem nil_row (w : World) : Row w none 0 [] := ⟨rfl, by simp, fun h => absurd h (by decide)⟩
theorem sum_nil : Crc.sum [] = 0 := by decide
set_option maxRecDepth 10000 in
theorem walk (a0 : Option Addr) (len0 cap0 : Nat) (z0 : List Int) (w : World) (w0 : IsRow .u8 w a0 len0 cap0 z0) :
    Calls Try.prog 9 #[.slice a0 len0 cap0] w fun e w' => e = .returned (.bool true) ∧ Below w.heap.size w w' := by
  obtain ⟨l, hl, hlc, hcm⟩ := row_of w0
  clear w0
  have hlm : len0 ≤ maxLen := Nat.le_trans hlc hcm
  have hm2 := hcm
  unfold maxLen at hm2
  by_cases hbig : 400 < len0
  · have tb : (400 : Int) < (len0 : Int) := by omega
    go_enter Try.func9, Try.ntmps9
    go_wp2_with fail
    go_ret
    exact ⟨rfl, Below.refl _ _⟩
  · have tb : (len0 : Int) ≤ 400 := by omega
    obtain ⟨S, hS⟩ : ∃ S, Crc.sum l = S := ⟨_, rfl⟩
    have ls : S < 4294967296 := hS ▸ Crc.sum_lt l hl.2.1
    have HS := Lib.hid hS
    by_cases h0 : len0 = 0
    · subst h0
      have hnil : l = [] := List.eq_nil_of_length_eq_zero hl.1
      have hS0 : S = 0 := by rw [← hS, hnil]; decide
      subst hS0
      clear hS hnil
      go_enter Try.func9, Try.ntmps9
      go_wp2_with fail
      refine (of_of _ HS.out hl hlm).mono ?_
      rintro e w' ⟨rfl, rfl⟩
      go_wp2_with fail
      refine (wakes_any _).mono ?_
      rintro e w2 ⟨rfl, hb2⟩
      go_wp2_with fail
      go_ret
      exact ⟨rfl, hb2⟩
    · obtain ⟨x, hx1⟩ : ∃ x, x + 1 = len0 := ⟨len0 - 1, by omega⟩
      have lx' : x ≤ len0 := by omega
      have lx0 : x < len0 := by omega
      have hxm : x ≤ maxLen := Nat.le_trans lx' hlm
      have hdm : len0 - x ≤ maxLen := Nat.le_trans (Nat.sub_le _ _) hlm
      obtain ⟨A, hA⟩ : ∃ A, Crc.sum (l.take x) = A := ⟨_, rfl⟩
      have lA := Lib.hid hA
      have lS := Lib.hid (show Crc.sum (l.take x ++ l.drop x) = S by rw [List.take_append_drop]; exact hS)
      have hsm : ∀ y ∈ l.take x, y < 256 := fun y hy => hl.2.1 y (List.mem_of_mem_take hy)
      have HSM := Lib.hid hsm
      clear hsm hA hS
      have hne : ((len0 : Int) == 0) = false := beq_eq_false_iff_ne.2 (by omega)
      have e3 : IntKind.i64.wrap ((len0 : Int) - 1) = (x : Int) := by rw [show (len0 : Int) - 1 = (x : Int) from by omega]; exact IntWalk.i64_in _ ⟨by omega, by omega⟩
      have i1 : (x : Int) ≤ (len0 : Int) := by omega
      have i2 : (x : Int) ≤ (cap0 : Int) := by omega
      have hcx : ¬ cap0 = x := by omega
      clear hx1
      go_enter Try.func9, Try.ntmps9
      go_wp2_with fail
      refine (of_of _ HS.out hl hlm).mono ?_
      rintro e w' ⟨rfl, rfl⟩
      go_wp2_with fail
      go_quiet ((first | (go_at_call 15; exact Calls.quiet_of_same (of_same _ lA.out ((hl.take lx').drewN _) hxm)) | (go_at_call 11; exact Calls.quiet_of_same (more_same _ _ lA.out HSM.out lS.out ((hl.drop lx' (fun _ => rfl)).drewN _) hdm))))
      go_wp2_with fail
      refine (of_of _ sum_nil (nil_row _) (by decide)).mono ?_
      rintro e w' ⟨rfl, rfl⟩
      go_wp2_with fail
      refine (wakes_any _).mono ?_
      rintro e w2 ⟨rfl, hb2⟩
      go_wp2_with fail
      go_ret
      exact ⟨rfl, (Below.drewN_ (Below.refl _ _) _).trans hb2⟩

/-! ### THE ROW's STEP: WRITTEN OUT: LEAVE IT -/
set_option maxRecDepth 100000 in
theorem lifted (os : Os) (started : os.Started) (H : Type) (enc : TypeId × Value → H) :
    ReturnsInHanded {} Try.checked os 9 .any (Rows.sumAloneSpec.pre6 enc Try.prog Try.f9 Rows.sumAloneRow.domain false) (Rows.sumAloneSpec.post enc Try.prog Try.f9 false true false false) := by
  refine returnsInHanded_of_change (C := Try.checked) own started (by kernel_rfl) Try.func9
    (ChangeSpec.witness6 (enc := enc) (C := Try.checked) false ⟨#[], #[.slice none 0 0], []⟩ 8 (by kernel_rfl) (by kernel_rfl) (by kernel_rfl) (by kernel_rfl)) ?_
  intro W base args ds gs before hval0 hW hcnd _
  have hval : ∀ (j : Nat) t v, Try.f9.params[j]? = some t → args[j]? = some v → Value.okWide Try.prog W .any base t v := hval0
  have hW' := hW
  obtain ⟨p, q, hA0, hV, rfl, hfz, hnd⟩ := hW
  have hA : DataW.TrodAll enc Try.prog W 0 (fun _ => true) true Try.f9.params.toList args.toList ds p := hA0
  rw [Try.params9] at hA hval
  obtain ⟨v0, vs0, d0, ds0, p0, q0, hargs, rfl, rfl, h0, r0⟩ := trodAll_cons hA
  obtain ⟨rfl, rfl, rfl⟩ := trodAll_nil r0
  obtain rfl : args = #[v0] := by cases args; simp_all
  obtain ⟨rfl, rfl⟩ := trodVars_none hV
  obtain ⟨a0, len0, cap0, rfl⟩ := okWide_slice Try.underlying22 (hval 0 22 v0 rfl rfl)
  have k0 := h0
  have lt0 : ∀ x ∈ p0, x.block < W.heap.size := by obtain ⟨m, hm⟩ := k0; exact DataW.trod_lt m _ _ _ hm
  obtain ⟨z0, w0⟩ : ∃ zs, IsRow .u8 W a0 len0 cap0 zs := by
    obtain ⟨fuel, hf⟩ := h0
    rcases open_ints Try.underlying22 Try.underlying5 (by kernel_rfl) hf with ⟨hcs, _⟩ | ⟨x, l, c, zs, hcs, _, hl, hm, hz, _, hcell, hwz⟩
    · simp [Value.cells] at hcs
      obtain ⟨rfl, rfl, rfl⟩ := hcs
      exact ⟨[], .inl ⟨rfl, rfl, rfl, rfl⟩⟩
    · simp [Value.cells] at hcs
      obtain ⟨rfl, rfl, rfl⟩ := hcs
      exact ⟨zs, .inr ⟨_, rfl, hl, hm, by simpa using hz, hcell, hwz⟩⟩
  clear hA0 hval0
  refine (walk a0 len0 cap0 z0 W w0).mono fun e W' ⟨he, bel⟩ => ?_
  subst he
  exact ⟨_, rfl, _, _, _, [], _, [], hW', trodAll_mk1 (shut_bool Try.underlying4 _), (trodAll_cons_mk (Below.trod laidOut (by kernel_rfl) (of_decide_eq_true (by kernel_rfl)) k0 bel lt0) trodAll_mk0), rfl, bel.frame _, fun h => by cases h⟩

theorem over : Rows.sumAloneRow.holds Try.pinned (OpenSpec.ofChange Rows.sumAloneSpec) :=
  OpenClaim.holds_of_wide 9 Try.f9 rfl rfl rfl rfl rfl rfl rfl ⟨rfl, rfl, rfl, rfl, rfl⟩ rfl rfl rfl rfl rfl (by kernel_rfl) Try.func9 (by kernel_rfl)
    (of_decide_eq_true (by kernel_rfl)) (by unfold Func.isWrapper; first | (rw [if_pos (by decide +kernel)]; kernel_rfl) | (rw [if_neg (by decide +kernel)]; exact ⟨rfl, rfl⟩))
    (fun os started H enc _ => lifted os started H enc)

/-- ████ THE STATEMENT ████ -/
theorem proved : Rows.SumAloneSaid := over
#print axioms proved
end Go.Proofs.Ytjnlgckjglmijaa.sumAlone

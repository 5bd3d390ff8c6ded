/-
  PROVED: the law 'SumBurst' returns true for every input, and leaves its arguments and all memory as they were. Conditions: those of the given row alone.
-/
import Derived.Test.YtjnlgckjglmijaaFlip
import Derived.WalkKit
import Derived.ProofKit
import Derived.OpenShut
import Derived.ShutString
import Derived.ChangeOld
import Derived.Below
namespace Go.Proofs.Ytjnlgckjglmijaa.sumBurst
open Go.ChangeShapes Go.WideShapes Go.ChangeAt Go.RowKit
open Go.ChangeMaps (open_string shut_string)
set_option linter.unusedVariables false

theorem own : ownKnob Try.prog.godebug = none := by kernel_rfl
theorem laidOut : laidOutB Try.prog = true := by kernel_rfl

/-- WHAT THE WALK IS TOLD OF A SLICE OF INTEGERS THAT CAME IN: it is nil; or it leads to a row of 'cap' cells, the numbers 'zs' (the first 'len' are its elements, the rest its spare room), each fitting its kind. -/
def IsRow (k : IntKind) (w : World) (a : Option Addr) (len cap : Nat) (zs : List Int) : Prop :=
  (a = none ∧ len = 0 ∧ cap = 0 ∧ zs = []) ∨
  ∃ x, a = some x ∧ len ≤ cap ∧ cap ≤ maxLen ∧ zs.length = cap ∧ (∀ i, i < zs.length → w.cell? (x.add i) = some (.int k (zs.getD i 0))) ∧ ∀ n ∈ zs, (Lit.int k n).wf = true

theorem early (a0 a1 : Option Addr) (n0 c0 n1 c1 : Nat) (x y : Int) (w : World) (hm0 : n0 ≤ maxLen) (hm1 : n1 ≤ maxLen) (h : n0 = 0 ∨ 400 < n0 ∨ 100 < n1) :
    Calls Try.prog 5 #[.slice a0 n0 c0, .slice a1 n1 c1, .int .i64 x, .int .i64 y] w fun e w' => e = .returned (.bool true) ∧ Below w.heap.size w w' := by
  unfold maxLen at hm0 hm1
  by_cases h0 : n0 = 0
  · have t0 : ((n0 : Int) == 0) = true := beq_iff_eq.2 (by omega)
    clear h0 h
    go_enter Try.func5, Try.ntmps5
    go_wp2_with fail
    go_ret
    exact ⟨rfl, Below.refl _ _⟩
  · have t0 : ((n0 : Int) == 0) = false := beq_eq_false_iff_ne.2 (by omega)
    by_cases h1 : 400 < n0
    · have t1 : (400 : Int) < (n0 : Int) := by omega
      clear h h0
      go_enter Try.func5, Try.ntmps5
      go_wp2_with fail
      go_ret
      exact ⟨rfl, Below.refl _ _⟩
    · have t1 : (n0 : Int) ≤ 400 := by omega
      have t2 : (100 : Int) < (n1 : Int) := by omega
      clear h h0
      go_enter Try.func5, Try.ntmps5
      go_wp2_with fail
      go_ret
      exact ⟨rfl, Below.refl _ _⟩
theorem more_unlike {A B : Nat} {m : List Nat} (lA : A < 4294967296) (lB : B < 4294967296) (h : A ≠ B) : Crc.on (A ^^^ Crc.ones) m ^^^ Crc.ones ≠ Crc.on (B ^^^ Crc.ones) m ^^^ Crc.ones := by
  intro e
  have e1 : Crc.on (A ^^^ Crc.ones) m = Crc.on (B ^^^ Crc.ones) m := by
    have := congrArg (· ^^^ Crc.ones) e
    simpa only [Nat.xor_assoc, Nat.xor_self, Nat.xor_zero] using this
  have e2 := Crc.on_inj m (Crc.xor_lt lA Crc.ones_lt) (Crc.xor_lt lB Crc.ones_lt) e1
  have := congrArg (· ^^^ Crc.ones) e2
  exact h (by simpa only [Nat.xor_assoc, Nat.xor_self, Nat.xor_zero] using this)
theorem more_is {m T : Nat} {l : List Nat} (hT : Crc.on (m ^^^ Crc.ones) l ^^^ Crc.ones = T) {a : Option Addr} {n cap : Nat} {w : World} (hm : m < 4294967296) (hl : Row w a n l) (hn : n ≤ maxLen) :
    Calls Try.prog 11 #[.int .i64 (m : Int), .slice a n cap] w fun e w' => e = .returned (.tuple #[.int .i64 (T : Int), .int .i64 0]) ∧ w = w' := hT ▸ more_ok m a n cap l w hm hl hn
set_option maxRecDepth 100000 in
theorem core (a0 a1 : Option Addr) (n0 c0 n1 c1 : Nat) (x y : Int) (l m : List Nat) (w : World) (hl : Row w a0 n0 l) (hm : Row w a1 n1 m) (hc0 : a0 = none → c0 = 0) (h0 : 0 < n0) (t1 : (n0 : Int) ≤ 400) (t2 : (n1 : Int) ≤ 100) :
    Calls Try.prog 5 #[.slice a0 n0 c0, .slice a1 n1 c1, .int .i64 x, .int .i64 y] w fun e w' => e = .returned (.bool true) ∧ Below w.heap.size w w' := by
  have t0 : ((n0 : Int) == 0) = false := beq_eq_false_iff_ne.2 (by omega)
  obtain ⟨p, hp, lp⟩ := umodI x (8 * (n0 : Int)) (by omega)
  obtain ⟨q, hq, lq⟩ := umodI y 4294967296 (by omega)
  have lp' : p < 8 * n0 := by omega
  have lq' : q < 4294967296 := by omega
  obtain ⟨X, lX, oX, hcall⟩ := flip_any a0 n0 c0 l p q w hl hc0 (by omega) lp' lq'
  have HCALL := Lib.hid hcall
  have LX := Lib.hid lX
  have hnm : n0 ≤ maxLen := by unfold maxLen; omega
  have hnm1 : n1 ≤ maxLen := by unfold maxLen; omega
  have hll := hl.1
  have hsm := Lib.hid hl.2.1
  have HLL := Lib.hid hll
  have HQ := Lib.hid (show wrap64 ((IntKind.u64.wrap y).tmod 4294967296) = (q : Int) by rw [hq]; exact IntWalk.wrap64_in _ ⟨by omega, by omega⟩)
  clear hcall hll hc0 t0 h0 hq lq lX lq'
  have t0 : ((n0 : Int) == 0) = false := beq_eq_false_iff_ne.2 (by omega)
  go_enter Try.func5, Try.ntmps5
  go_wp2_with fail
  rw [HQ.out]
  refine HCALL.out.mono ?_
  rintro e w1 ⟨out, j, a', c', rfl, hF, hj, hown, hb1⟩
  have r1 : Row w1 a' n0 out := Row.of_own hown hF.small
  have l1 : Row w1 a0 n0 l := hl.below hb1
  have m1 : Row w1 a1 n1 m := hm.below hb1
  have hne : Crc.sum l ≠ Crc.sum out := hF.unlike hj oX LX.out (by rw [HLL.out]; omega)
  obtain ⟨A, hA⟩ : ∃ A, Crc.sum l = A := ⟨_, rfl⟩
  obtain ⟨B, hB⟩ : ∃ B, Crc.sum out = B := ⟨_, rfl⟩
  have lA : A < 4294967296 := hA ▸ Crc.sum_lt l hsm.out
  have lB : B < 4294967296 := hB ▸ Crc.sum_lt out hF.small
  rw [hA, hB] at hne
  have hne2 := more_unlike (m := m) lA lB hne
  obtain ⟨A2, hA2⟩ : ∃ A2, Crc.on (A ^^^ Crc.ones) m ^^^ Crc.ones = A2 := ⟨_, rfl⟩
  obtain ⟨B2, hB2⟩ : ∃ B2, Crc.on (B ^^^ Crc.ones) m ^^^ Crc.ones = B2 := ⟨_, rfl⟩
  rw [hA2, hB2] at hne2
  have u1 : ((A : Int) != (B : Int)) = true := by rw [bne_iff_ne]; omega
  have u2 : ((A2 : Int) != (B2 : Int)) = true := by rw [bne_iff_ne]; omega
  have HA := Lib.hid hA
  have HB := Lib.hid hB
  have HA2 := Lib.hid hA2
  have HB2 := Lib.hid hB2
  clear hA hB hA2 hB2 hne hne2 hF hown hl hm hp
  go_wp2_with fail
  refine (of_of _ HA.out l1 hnm).mono ?_
  rintro e w' ⟨rfl, rfl⟩
  go_wp2_with fail
  refine (more_is HA2.out lA m1 hnm1).mono ?_
  rintro e w' ⟨rfl, rfl⟩
  go_wp2_with fail
  refine (of_of _ HB.out r1 hnm).mono ?_
  rintro e w' ⟨rfl, rfl⟩
  go_wp2_with fail
  refine (more_is HB2.out lB m1 hnm1).mono ?_
  rintro e w' ⟨rfl, rfl⟩
  go_wp2_with fail
  refine (of_of _ HA.out l1 hnm).mono ?_
  rintro e w' ⟨rfl, rfl⟩
  go_wp2_with fail
  refine (of_of _ HB.out r1 hnm).mono ?_
  rintro e w' ⟨rfl, rfl⟩
  go_wp2_with fail
  refine (wakes_any _).mono ?_
  rintro e w3 ⟨rfl, hb3⟩
  go_wp2_with fail
  go_ret
  exact ⟨rfl, hb1.trans (hb3.mono hb1.size)⟩
theorem walk (a0 : Option Addr) (len0 cap0 : Nat) (z0 : List Int) (a1 : Option Addr) (len1 cap1 : Nat) (z1 : List Int) (a2 : Int) (a3 : Int) (w : World) (w0 : IsRow .u8 w a0 len0 cap0 z0) (w1 : IsRow .u8 w a1 len1 cap1 z1) (w2 : (Lit.int .i64 a2).wf = true) (w3 : (Lit.int .i64 a3).wf = true) :
    Calls Try.prog 5 #[.slice a0 len0 cap0, .slice a1 len1 cap1, .int .i64 a2, .int .i64 a3] w fun e w' => e = .returned (.bool true) ∧ Below w.heap.size w w' := by
  obtain ⟨l, hl, hlc, hcm⟩ := row_of w0
  obtain ⟨m, hm, hmc, hmm⟩ := row_of w1
  have hc0 : a0 = none → cap0 = 0 := by
    rcases w0 with ⟨_, _, h, _⟩ | ⟨x, h, _⟩
    · exact fun _ => h
    · rw [h]; intro h; cases h
  by_cases h : len0 = 0 ∨ 400 < len0 ∨ 100 < len1
  · exact early _ _ _ _ _ _ _ _ _ (Nat.le_trans hlc hcm) (Nat.le_trans hmc hmm) h
  · exact core _ _ _ _ _ _ _ _ l m _ hl hm hc0 (by omega) (by omega) (by omega)

/-! ### THE ROW's STEP: WRITTEN OUT: LEAVE IT -/
set_option maxRecDepth 100000 in
theorem lifted (os : Os) (started : os.Started) (H : Type) (enc : TypeId × Value → H) :
    ReturnsInHanded {} Try.checked os 5 .any (Rows.sumBurstSpec.pre6 enc Try.prog Try.f5 Rows.sumBurstRow.domain false) (Rows.sumBurstSpec.post enc Try.prog Try.f5 false true false false) := by
  refine returnsInHanded_of_change (C := Try.checked) own started (by kernel_rfl) Try.func5
    (ChangeSpec.witness6 (enc := enc) (C := Try.checked) false ⟨#[], #[.slice none 0 0, .slice none 0 0, .int .i64 0, .int .i64 0], []⟩ 8 (by kernel_rfl) (by kernel_rfl) (by kernel_rfl) (by kernel_rfl)) ?_
  intro W base args ds gs before hval0 hW hcnd _
  have hval : ∀ (j : Nat) t v, Try.f5.params[j]? = some t → args[j]? = some v → Value.okWide Try.prog W .any base t v := hval0
  have hW' := hW
  obtain ⟨p, q, hA0, hV, rfl, hfz, hnd⟩ := hW
  have hA : DataW.TrodAll enc Try.prog W 0 (fun _ => true) true Try.f5.params.toList args.toList ds p := hA0
  rw [Try.params5] at hA hval
  obtain ⟨v0, vs0, d0, ds0, p0, q0, hargs, rfl, rfl, h0, r0⟩ := trodAll_cons hA
  obtain ⟨v1, vs1, d1, ds1, p1, q1, rfl, rfl, rfl, h1, r1⟩ := trodAll_cons r0
  obtain ⟨v2, vs2, d2, ds2, p2, q2, rfl, rfl, rfl, h2, r2⟩ := trodAll_cons r1
  obtain ⟨v3, vs3, d3, ds3, p3, q3, rfl, rfl, rfl, h3, r3⟩ := trodAll_cons r2
  obtain ⟨rfl, rfl, rfl⟩ := trodAll_nil r3
  obtain rfl : args = #[v0, v1, v2, v3] := by cases args; simp_all
  obtain ⟨rfl, rfl⟩ := trodVars_none hV
  obtain ⟨a0, len0, cap0, rfl⟩ := okWide_slice Try.underlying22 (hval 0 22 v0 rfl rfl)
  have k0 := h0
  have lt0 : ∀ x ∈ p0, x.block < W.heap.size := by obtain ⟨m, hm⟩ := k0; exact DataW.trod_lt m _ _ _ hm
  obtain ⟨z0, w0⟩ : ∃ zs, IsRow .u8 W a0 len0 cap0 zs := by
    obtain ⟨fuel, hf⟩ := h0
    rcases open_ints Try.underlying22 Try.underlying5 (by kernel_rfl) hf with ⟨hcs, _⟩ | ⟨x, l, c, zs, hcs, _, hl, hm, hz, _, hcell, hwz⟩
    · simp [Value.cells] at hcs
      obtain ⟨rfl, rfl, rfl⟩ := hcs
      exact ⟨[], .inl ⟨rfl, rfl, rfl, rfl⟩⟩
    · simp [Value.cells] at hcs
      obtain ⟨rfl, rfl, rfl⟩ := hcs
      exact ⟨zs, .inr ⟨_, rfl, hl, hm, by simpa using hz, hcell, hwz⟩⟩
  obtain ⟨a1, len1, cap1, rfl⟩ := okWide_slice Try.underlying22 (hval 1 22 v1 rfl rfl)
  have k1 := h1
  have lt1 : ∀ x ∈ p1, x.block < W.heap.size := by obtain ⟨m, hm⟩ := k1; exact DataW.trod_lt m _ _ _ hm
  obtain ⟨z1, w1⟩ : ∃ zs, IsRow .u8 W a1 len1 cap1 zs := by
    obtain ⟨fuel, hf⟩ := h1
    rcases open_ints Try.underlying22 Try.underlying5 (by kernel_rfl) hf with ⟨hcs, _⟩ | ⟨x, l, c, zs, hcs, _, hl, hm, hz, _, hcell, hwz⟩
    · simp [Value.cells] at hcs
      obtain ⟨rfl, rfl, rfl⟩ := hcs
      exact ⟨[], .inl ⟨rfl, rfl, rfl, rfl⟩⟩
    · simp [Value.cells] at hcs
      obtain ⟨rfl, rfl, rfl⟩ := hcs
      exact ⟨zs, .inr ⟨_, rfl, hl, hm, by simpa using hz, hcell, hwz⟩⟩
  obtain ⟨a2, rfl, rfl, rfl, w2⟩ := open_int Try.underlying3 (hval 2 3 v2 rfl rfl) h2
  obtain ⟨a3, rfl, rfl, rfl, w3⟩ := open_int Try.underlying3 (hval 3 3 v3 rfl rfl) h3
  clear hA0 hval0
  refine (walk a0 len0 cap0 z0 a1 len1 cap1 z1 a2 a3 W w0 w1 w2 w3).mono fun e W' ⟨he, bel⟩ => ?_
  subst he
  exact ⟨_, rfl, _, _, _, [], _, [], hW', trodAll_mk1 (shut_bool Try.underlying4 _), (trodAll_cons_mk (Below.trod laidOut (by kernel_rfl) (of_decide_eq_true (by kernel_rfl)) k0 bel lt0) (trodAll_cons_mk (Below.trod laidOut (by kernel_rfl) (of_decide_eq_true (by kernel_rfl)) k1 bel lt1) (trodAll_cons_mk (shut_int Try.underlying3 w2) (trodAll_cons_mk (shut_int Try.underlying3 w3) trodAll_mk0)))), rfl, bel.frame _, fun h => by cases h⟩

theorem over : Rows.sumBurstRow.holds Try.pinned (OpenSpec.ofChange Rows.sumBurstSpec) :=
  OpenClaim.holds_of_wide 5 Try.f5 rfl rfl rfl rfl rfl rfl rfl ⟨rfl, rfl, rfl, rfl, rfl⟩ rfl rfl rfl rfl rfl (by kernel_rfl) Try.func5 (by kernel_rfl)
    (of_decide_eq_true (by kernel_rfl)) (by unfold Func.isWrapper; first | (rw [if_pos (by decide +kernel)]; kernel_rfl) | (rw [if_neg (by decide +kernel)]; exact ⟨rfl, rfl⟩))
    (fun os started H enc _ => lifted os started H enc)

/-- ████ THE STATEMENT ████ -/
theorem proved : Rows.SumBurstSaid := over
#print axioms proved
end Go.Proofs.Ytjnlgckjglmijaa.sumBurst

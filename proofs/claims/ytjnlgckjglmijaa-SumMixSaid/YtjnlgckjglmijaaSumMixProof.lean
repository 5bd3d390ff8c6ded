/-
  PROVED: the law 'SumMix' returns true for every input, and leaves its arguments and all memory as they were. Conditions: those of the given row alone.
-/
import Derived.Test.YtjnlgckjglmijaaTwo
import Derived.WalkKit
import Derived.ProofKit
import Derived.OpenShut
import Derived.ShutString
import Derived.ChangeOld
import Derived.Below
namespace Go.Proofs.Ytjnlgckjglmijaa.sumMix
open Go.ChangeShapes Go.WideShapes Go.ChangeAt Go.RowKit
open Go.ChangeMaps (open_string shut_string)
set_option linter.unusedVariables false

theorem own : ownKnob Try.prog.godebug = none := by kernel_rfl
theorem laidOut : laidOutB Try.prog = true := by kernel_rfl

/-- WHAT THE WALK IS TOLD OF A SLICE OF INTEGERS THAT CAME IN: it is nil; or it leads to a row of 'cap' cells, the numbers 'zs' (the first 'len' are its elements, the rest its spare room), each fitting its kind. -/
def IsRow (k : IntKind) (w : World) (a : Option Addr) (len cap : Nat) (zs : List Int) : Prop :=
  (a = none ∧ len = 0 ∧ cap = 0 ∧ zs = []) ∨
  ∃ x, a = some x ∧ len ≤ cap ∧ cap ≤ maxLen ∧ zs.length = cap ∧ (∀ i, i < zs.length → w.cell? (x.add i) = some (.int k (zs.getD i 0))) ∧ ∀ n ∈ zs, (Lit.int k n).wf = true

theorem early1 (a0 a1 a2 : Option Addr) (n0 c0 n1 c1 n2 c2 : Nat) (w : World) (tb : (400 : Int) < (n0 : Int)) (hm : n0 ≤ maxLen) :
    Calls Try.prog 7 #[.slice a0 n0 c0, .slice a1 n1 c1, .slice a2 n2 c2] w fun e w' => e = .returned (.bool true) ∧ Below w.heap.size w w' := by
  unfold maxLen at hm
  go_enter Try.func7, Try.ntmps7
  go_wp2_with fail
  go_ret
  exact ⟨rfl, Below.refl _ _⟩
theorem early2 (a0 a1 a2 : Option Addr) (n0 c0 n1 c1 n2 c2 : Nat) (w : World) (tb : (n0 : Int) ≤ 400) (t1 : ((n1 : Int) != (n0 : Int)) = true) :
    Calls Try.prog 7 #[.slice a0 n0 c0, .slice a1 n1 c1, .slice a2 n2 c2] w fun e w' => e = .returned (.bool true) ∧ Below w.heap.size w w' := by
  go_enter Try.func7, Try.ntmps7
  go_wp2_with fail
  go_ret
  exact ⟨rfl, Below.refl _ _⟩
theorem early3 (a0 a1 a2 : Option Addr) (n0 c0 c1 n2 c2 : Nat) (w : World) (tb : (n0 : Int) ≤ 400) (t1 : ((n2 : Int) != (n0 : Int)) = true) :
    Calls Try.prog 7 #[.slice a0 n0 c0, .slice a1 n0 c1, .slice a2 n2 c2] w fun e w' => e = .returned (.bool true) ∧ Below w.heap.size w w' := by
  have t0 : ((n0 : Int) != (n0 : Int)) = false := by simp
  go_enter Try.func7, Try.ntmps7
  go_wp2_with fail
  go_ret
  exact ⟨rfl, Below.refl _ _⟩
theorem core (a0 a1 a2 : Option Addr) (n c0 c1 c2 : Nat) (l m k : List Nat) (w : World) (hl : Row w a0 n l) (hm : Row w a1 n m) (hk : Row w a2 n k) (tb : (n : Int) ≤ 400) :
    Calls Try.prog 7 #[.slice a0 n c0, .slice a1 n c1, .slice a2 n c2] w fun e w' => e = .returned (.bool true) ∧ Below w.heap.size w w' := by
  have t0 : ((n : Int) != (n : Int)) = false := by simp
  have hnm : n ≤ maxLen := by unfold maxLen; omega
  obtain ⟨A, hA⟩ : ∃ A, Crc.sum l = A := ⟨_, rfl⟩
  obtain ⟨B, hB⟩ : ∃ B, Crc.sum m = B := ⟨_, rfl⟩
  obtain ⟨C, hC⟩ : ∃ C, Crc.sum k = C := ⟨_, rfl⟩
  have lA : A < 4294967296 := hA ▸ Crc.sum_lt l hl.2.1
  have lB : B < 4294967296 := hB ▸ Crc.sum_lt m hm.2.1
  have lC : C < 4294967296 := hC ▸ Crc.sum_lt k hk.2.1
  have lm : m.length = l.length := by rw [hl.1, hm.1]
  have lk : k.length = l.length := by rw [hl.1, hk.1]
  have lt : (Crc.two l m).length = n := by rw [Crc.two_length l m lm.symm, hl.1]
  have ltt : (Crc.two (Crc.two l m) k).length = n := by rw [Crc.two_length _ _ (by rw [lt, hk.1]), lt]
  have hM : Crc.sum (Crc.two (Crc.two l m) k) = A ^^^ B ^^^ C := by rw [Crc.sum_mix l m k lm lk, hA, hB, hC]
  have x1 := xor_i64 A B lA lB
  have x2 := xor_i64 (A ^^^ B) C (Crc.xor_lt lA lB) lC
  have s2 := two_small hl.2.1 hm.2.1
  have s3 := two_small s2 hk.2.1
  generalize A ^^^ B ^^^ C = M at *
  generalize A ^^^ B = D at *
  have HA := Lib.hid hA
  have HB := Lib.hid hB
  have HC := Lib.hid hC
  have HM := Lib.hid hM
  have LT := Lib.hid lt
  have LTT := Lib.hid ltt
  have S2 := Lib.hid s2
  have S3 := Lib.hid s3
  clear hA hB hC hM lm lk lt ltt s2 s3
  go_enter Try.func7, Try.ntmps7
  go_wp2_with fail
  refine (two_any _ _ _ _ _ _ _ _ hl hm (by omega)).mono ?_
  rintro e w1 ⟨a', c', rfl, hown, hb1⟩
  rw [LT.out] at hown
  rw [LT.out]
  have r1 : Row w1 a' n (Crc.two l m) := Row.of_own hown S2.out
  have k1 : Row w1 a2 n k := hk.below hb1
  clear hown
  go_wp2_with fail
  refine (two_any _ _ _ _ _ _ _ _ r1 k1 (by omega)).mono ?_
  rintro e w2 ⟨a'', c'', rfl, hown, hb2⟩
  rw [LTT.out] at hown
  rw [LTT.out]
  have r2 : Row w2 a'' n (Crc.two (Crc.two l m) k) := Row.of_own hown S3.out
  have g2 := hb1.trans (hb2.mono hb1.size)
  have l2 : Row w2 a0 n l := hl.below g2
  have m2 : Row w2 a1 n m := hm.below g2
  have k2 : Row w2 a2 n k := hk.below g2
  clear hown r1 k1 hl hm hk
  go_wp2_with fail
  refine (of_of _ HM.out r2 hnm).mono ?_
  rintro e w' ⟨rfl, rfl⟩
  go_wp2_with fail
  refine (of_of _ HA.out l2 hnm).mono ?_
  rintro e w' ⟨rfl, rfl⟩
  go_wp2_with fail
  refine (of_of _ HB.out m2 hnm).mono ?_
  rintro e w' ⟨rfl, rfl⟩
  go_wp2_with fail
  refine (of_of _ HC.out k2 hnm).mono ?_
  rintro e w' ⟨rfl, rfl⟩
  go_wp2_with fail
  refine (wakes_any _).mono ?_
  rintro e w3 ⟨rfl, hb3⟩
  go_wp2_with fail
  go_ret
  exact ⟨rfl, g2.trans (hb3.mono g2.size)⟩
theorem walk (a0 : Option Addr) (len0 cap0 : Nat) (z0 : List Int) (a1 : Option Addr) (len1 cap1 : Nat) (z1 : List Int) (a2 : Option Addr) (len2 cap2 : Nat) (z2 : List Int) (w : World) (w0 : IsRow .u8 w a0 len0 cap0 z0) (w1 : IsRow .u8 w a1 len1 cap1 z1) (w2 : IsRow .u8 w a2 len2 cap2 z2) :
    Calls Try.prog 7 #[.slice a0 len0 cap0, .slice a1 len1 cap1, .slice a2 len2 cap2] w fun e w' => e = .returned (.bool true) ∧ Below w.heap.size w w' := by
  obtain ⟨l, hl, hlc, hcm⟩ := row_of w0
  obtain ⟨m, hm, _, _⟩ := row_of w1
  obtain ⟨k, hk, _, _⟩ := row_of w2
  by_cases hbig : 400 < len0
  · exact early1 _ _ _ _ _ _ _ _ _ _ (by omega) (Nat.le_trans hlc hcm)
  · by_cases h1 : len1 = len0
    · subst h1
      by_cases h2 : len2 = len1
      · subst h2
        exact core _ _ _ _ _ _ _ l m k _ hl hm hk (by omega)
      · exact early3 _ _ _ _ _ _ _ _ _ (by omega) (by rw [bne_iff_ne]; omega)
    · exact early2 _ _ _ _ _ _ _ _ _ _ (by omega) (by rw [bne_iff_ne]; omega)

/-! ### THE ROW's STEP: WRITTEN OUT: LEAVE IT -/
set_option maxRecDepth 100000 in
theorem lifted (os : Os) (started : os.Started) (H : Type) (enc : TypeId × Value → H) :
    ReturnsInHanded {} Try.checked os 7 .any (Rows.sumMixSpec.pre6 enc Try.prog Try.f7 Rows.sumMixRow.domain false) (Rows.sumMixSpec.post enc Try.prog Try.f7 false true false false) := by
  refine returnsInHanded_of_change (C := Try.checked) own started (by kernel_rfl) Try.func7
    (ChangeSpec.witness6 (enc := enc) (C := Try.checked) false ⟨#[], #[.slice none 0 0, .slice none 0 0, .slice none 0 0], []⟩ 8 (by kernel_rfl) (by kernel_rfl) (by kernel_rfl) (by kernel_rfl)) ?_
  intro W base args ds gs before hval0 hW hcnd _
  have hval : ∀ (j : Nat) t v, Try.f7.params[j]? = some t → args[j]? = some v → Value.okWide Try.prog W .any base t v := hval0
  have hW' := hW
  obtain ⟨p, q, hA0, hV, rfl, hfz, hnd⟩ := hW
  have hA : DataW.TrodAll enc Try.prog W 0 (fun _ => true) true Try.f7.params.toList args.toList ds p := hA0
  rw [Try.params7] at hA hval
  obtain ⟨v0, vs0, d0, ds0, p0, q0, hargs, rfl, rfl, h0, r0⟩ := trodAll_cons hA
  obtain ⟨v1, vs1, d1, ds1, p1, q1, rfl, rfl, rfl, h1, r1⟩ := trodAll_cons r0
  obtain ⟨v2, vs2, d2, ds2, p2, q2, rfl, rfl, rfl, h2, r2⟩ := trodAll_cons r1
  obtain ⟨rfl, rfl, rfl⟩ := trodAll_nil r2
  obtain rfl : args = #[v0, v1, v2] := by cases args; simp_all
  obtain ⟨rfl, rfl⟩ := trodVars_none hV
  obtain ⟨a0, len0, cap0, rfl⟩ := okWide_slice Try.underlying22 (hval 0 22 v0 rfl rfl)
  have k0 := h0
  have lt0 : ∀ x ∈ p0, x.block < W.heap.size := by obtain ⟨m, hm⟩ := k0; exact DataW.trod_lt m _ _ _ hm
  obtain ⟨z0, w0⟩ : ∃ zs, IsRow .u8 W a0 len0 cap0 zs := by
    obtain ⟨fuel, hf⟩ := h0
    rcases open_ints Try.underlying22 Try.underlying5 (by kernel_rfl) hf with ⟨hcs, _⟩ | ⟨x, l, c, zs, hcs, _, hl, hm, hz, _, hcell, hwz⟩
    · simp [Value.cells] at hcs
      obtain ⟨rfl, rfl, rfl⟩ := hcs
      exact ⟨[], .inl ⟨rfl, rfl, rfl, rfl⟩⟩
    · simp [Value.cells] at hcs
      obtain ⟨rfl, rfl, rfl⟩ := hcs
      exact ⟨zs, .inr ⟨_, rfl, hl, hm, by simpa using hz, hcell, hwz⟩⟩
  obtain ⟨a1, len1, cap1, rfl⟩ := okWide_slice Try.underlying22 (hval 1 22 v1 rfl rfl)
  have k1 := h1
  have lt1 : ∀ x ∈ p1, x.block < W.heap.size := by obtain ⟨m, hm⟩ := k1; exact DataW.trod_lt m _ _ _ hm
  obtain ⟨z1, w1⟩ : ∃ zs, IsRow .u8 W a1 len1 cap1 zs := by
    obtain ⟨fuel, hf⟩ := h1
    rcases open_ints Try.underlying22 Try.underlying5 (by kernel_rfl) hf with ⟨hcs, _⟩ | ⟨x, l, c, zs, hcs, _, hl, hm, hz, _, hcell, hwz⟩
    · simp [Value.cells] at hcs
      obtain ⟨rfl, rfl, rfl⟩ := hcs
      exact ⟨[], .inl ⟨rfl, rfl, rfl, rfl⟩⟩
    · simp [Value.cells] at hcs
      obtain ⟨rfl, rfl, rfl⟩ := hcs
      exact ⟨zs, .inr ⟨_, rfl, hl, hm, by simpa using hz, hcell, hwz⟩⟩
  obtain ⟨a2, len2, cap2, rfl⟩ := okWide_slice Try.underlying22 (hval 2 22 v2 rfl rfl)
  have k2 := h2
  have lt2 : ∀ x ∈ p2, x.block < W.heap.size := by obtain ⟨m, hm⟩ := k2; exact DataW.trod_lt m _ _ _ hm
  obtain ⟨z2, w2⟩ : ∃ zs, IsRow .u8 W a2 len2 cap2 zs := by
    obtain ⟨fuel, hf⟩ := h2
    rcases open_ints Try.underlying22 Try.underlying5 (by kernel_rfl) hf with ⟨hcs, _⟩ | ⟨x, l, c, zs, hcs, _, hl, hm, hz, _, hcell, hwz⟩
    · simp [Value.cells] at hcs
      obtain ⟨rfl, rfl, rfl⟩ := hcs
      exact ⟨[], .inl ⟨rfl, rfl, rfl, rfl⟩⟩
    · simp [Value.cells] at hcs
      obtain ⟨rfl, rfl, rfl⟩ := hcs
      exact ⟨zs, .inr ⟨_, rfl, hl, hm, by simpa using hz, hcell, hwz⟩⟩
  clear hA0 hval0
  refine (walk a0 len0 cap0 z0 a1 len1 cap1 z1 a2 len2 cap2 z2 W w0 w1 w2).mono fun e W' ⟨he, bel⟩ => ?_
  subst he
  exact ⟨_, rfl, _, _, _, [], _, [], hW', trodAll_mk1 (shut_bool Try.underlying4 _), (trodAll_cons_mk (Below.trod laidOut (by kernel_rfl) (of_decide_eq_true (by kernel_rfl)) k0 bel lt0) (trodAll_cons_mk (Below.trod laidOut (by kernel_rfl) (of_decide_eq_true (by kernel_rfl)) k1 bel lt1) (trodAll_cons_mk (Below.trod laidOut (by kernel_rfl) (of_decide_eq_true (by kernel_rfl)) k2 bel lt2) trodAll_mk0))), rfl, bel.frame _, fun h => by cases h⟩

theorem over : Rows.sumMixRow.holds Try.pinned (OpenSpec.ofChange Rows.sumMixSpec) :=
  OpenClaim.holds_of_wide 7 Try.f7 rfl rfl rfl rfl rfl rfl rfl ⟨rfl, rfl, rfl, rfl, rfl⟩ rfl rfl rfl rfl rfl (by kernel_rfl) Try.func7 (by kernel_rfl)
    (of_decide_eq_true (by kernel_rfl)) (by unfold Func.isWrapper; first | (rw [if_pos (by decide +kernel)]; kernel_rfl) | (rw [if_neg (by decide +kernel)]; exact ⟨rfl, rfl⟩))
    (fun os started H enc _ => lifted os started H enc)

/-- ████ THE STATEMENT ████ -/
theorem proved : Rows.SumMixSaid := over
#print axioms proved
end Go.Proofs.Ytjnlgckjglmijaa.sumMix

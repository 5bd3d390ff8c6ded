/-
  More contracts: Split, Set, the laws' own helpers.
-/
import Derived.Test.YtigibbekbncpiaaWalks2
namespace Go.Proofs.Ytigibbekbncpiaa
open Go.ChangeShapes Go.WideShapes Go.ChangeAt Go.RowKit
set_option linter.unusedVariables false

theorem Below.drewN_ {B : Nat} {a w : World} (h : Below B a w) (n : Nat) : Below B a (w.drewN n) := h.trans ⟨rfl, rfl, rfl, Nat.le_refl _, fun _ _ => rfl⟩
theorem Split_ok (z d s l a : Int) (x : Int) (w : World) (h : okB z d s l a = true) (hi : inB x 0 (z * d - 1) = true) :
    Calls Try.prog 14 #[.agg #[.int .i64 z, .int .i64 d, .int .i64 s, .int .i64 l, .int .i64 a], .int .i64 x] w fun e w' => e = .returned (.tuple #[.int .i64 (x / d), .int .i64 (x % d), .int .i64 0]) ∧ Below w.heap.size w w' := by
  have hb0 := okB_bounds h
  have hzd := zd_bounds h
  have e1 : IntKind.i64.wrap (z * d) = z * d := w64 (by omega) (by omega)
  have e2 : IntKind.i64.wrap (z * d - 1) = z * d - 1 := w64 (by omega) (by omega)
  have hx := inB_lo hi
  have hd1 : x / d ≤ x := Int.ediv_le_self _ (by omega)
  have hd0 : 0 ≤ x / d := Int.ediv_nonneg (by omega) (by omega)
  have hm0 : 0 ≤ x % d := Int.emod_nonneg _ (by omega)
  have hm1 : x % d < d := Int.emod_lt_of_pos _ (by omega)
  go_enter Try.func14, Try.ntmps14
  go_wp2_with (first | (go_at_call 11; refine (check_ok _ _ _ _ _ _ h).mono ?_; rintro e w' ⟨rfl, hb⟩; obtain ⟨hc, hf⟩ := bcell hb) | (go_at_call 32; ((with_reducible refine (in_yes _ _ _ _ hi).mono ?_); rintro e w' ⟨rfl, rfl⟩)))
  go_quiet (fail)
  go_wp2
  go_ret3
  exact ⟨rfl, Below.drewN_ (((Below.refl _ _).alloc (Nat.le_refl _) _).trans (hb.mono (by simp))) _⟩
theorem Split_out (z d s l a : Int) (x : Int) (w : World) (h : okB z d s l a = true) (hi : inB x 0 (z * d - 1) = false) :
    Calls Try.prog 14 #[.agg #[.int .i64 z, .int .i64 d, .int .i64 s, .int .i64 l, .int .i64 a], .int .i64 x] w fun e w' => e = .returned (.tuple #[.int .i64 (0), .int .i64 (0), .int .i64 17]) ∧ Below w.heap.size w w' := by
  have hb0 := okB_bounds h
  have hzd := zd_bounds h
  have e1 : IntKind.i64.wrap (z * d) = z * d := w64 (by omega) (by omega)
  have e2 : IntKind.i64.wrap (z * d - 1) = z * d - 1 := w64 (by omega) (by omega)
  go_enter Try.func14, Try.ntmps14
  go_wp2_with (first | (go_at_call 11; refine (check_ok _ _ _ _ _ _ h).mono ?_; rintro e w' ⟨rfl, hb⟩; obtain ⟨hc, hf⟩ := bcell hb) | (go_at_call 32; ((with_reducible refine (in_no _ _ _ _ hi).mono ?_); rintro e w' ⟨rfl, rfl⟩)))
  go_ret3
  exact ⟨rfl, ((Below.refl _ _).alloc (Nat.le_refl _) _).trans (hb.mono (by simp))⟩
theorem Split_bad (z d s l a : Int) (x : Int) (w : World) (h : okB z d s l a = false) :
    Calls Try.prog 14 #[.agg #[.int .i64 z, .int .i64 d, .int .i64 s, .int .i64 l, .int .i64 a], .int .i64 x] w fun e w' => e = .returned (.tuple #[.int .i64 (0), .int .i64 (0), .int .i64 1]) ∧ Below w.heap.size w w' := by
  go_enter Try.func14, Try.ntmps14
  go_wp2_with (first | (go_at_call 11; refine (check_bad _ _ _ _ _ _ h).mono ?_; rintro e w' ⟨rfl, hb⟩; obtain ⟨hc, hf⟩ := bcell hb))
  go_ret3
  exact ⟨rfl, ((Below.refl _ _).alloc (Nat.le_refl _) _).trans (hb.mono (by simp))⟩

theorem zero_ok (w : World) : Calls Try.prog 11 #[.agg #[.int .i64 0, .int .i64 0, .int .i64 0, .int .i64 0, .int .i64 0]] w fun e w' => e = .returned (.int .i64 1) ∧ Below w.heap.size w w' := check_bad 0 0 0 0 0 w (by decide)
theorem cells44 (w : World) : Calls Try.prog 10 #[.agg #[.int .i64 2, .int .i64 3, .int .i64 1, .int .i64 14, .int .i64 2]] w fun e w' => e = .returned (.tuple #[.int .i64 44, .int .i64 0]) ∧ Below w.heap.size w w' := Cells_ok 2 3 1 14 2 w (by decide)
theorem sets19 (w : World) : Calls Try.prog 19 #[.agg #[.int .i64 2, .int .i64 3, .int .i64 1, .int .i64 14, .int .i64 2]] w fun e w' => e = .returned (.tuple #[.int .i64 19, .int .i64 0]) ∧ Below w.heap.size w w' := Sets_ok 2 3 1 14 2 w (by decide)
theorem split4 (w : World) : Calls Try.prog 14 #[.agg #[.int .i64 2, .int .i64 3, .int .i64 1, .int .i64 14, .int .i64 2], .int .i64 4] w fun e w' => e = .returned (.tuple #[.int .i64 1, .int .i64 1, .int .i64 0]) ∧ Below w.heap.size w w' := Split_ok 2 3 1 14 2 4 w (by decide) (by decide)
theorem wakes_any (w : World) : Calls Try.prog 12 #[] w fun e w' => e = .returned (.bool true) ∧ Below w.heap.size w w' := by
  go_enter Try.func12, Try.ntmps12
  go_wp2_with fail
  refine (cells44 _).mono ?_
  rintro e w1 ⟨rfl, hb1⟩
  obtain ⟨hc1, hf1⟩ := bcell hb1
  have g1 : Below w.heap.size w w1 := ((Below.refl _ _).alloc (Nat.le_refl _) _).trans (hb1.mono (by simp))
  have z1 : w.heap.size < w1.heap.size := by have := hb1.size; simp at this; omega
  go_wp2_with fail
  refine (split4 _).mono ?_
  rintro e w2 ⟨rfl, hb2⟩
  obtain ⟨hc2, hf2⟩ := bcell hb2
  have g2 : Below w.heap.size w w2 := g1.trans (hb2.mono g1.size)
  have z2 : w.heap.size < w2.heap.size := by have := hb2.size; omega
  go_wp2_with fail
  refine (sets19 _).mono ?_
  rintro e w3 ⟨rfl, hb3⟩
  have g3 : Below w.heap.size w w3 := g2.trans (hb3.mono g2.size)
  clear hc1 hc2 hf1 hf2
  go_wp2_with fail
  refine (zero_ok _).mono ?_
  rintro e w4 ⟨rfl, hb4⟩
  go_wp2_with fail
  go_ret
  exact ⟨rfl, g3.trans (hb4.mono g3.size)⟩

/-- a right geometry, of whatever numbers -/
def SomeGeo (W : World) (e : Ending) (w' : World) : Prop :=
  ∃ z d s l a : Int, okB z d s l a = true ∧ e = .returned (.agg #[.int .i64 z, .int .i64 d, .int .i64 s, .int .i64 l, .int .i64 a]) ∧ Below W.heap.size W w'
theorem umod (a : Int) (m : Nat) (hm : 0 < m) : ∃ x : Nat, (IntKind.u64.wrap a).tmod (m : Int) = (x : Int) ∧ x < m := by
  have h0 : 0 ≤ IntKind.u64.wrap a := by rw [IntKind.wrap_u64]; omega
  rw [Int.tmod_eq_emod_of_nonneg h0]
  have h1 := Int.emod_nonneg (IntKind.u64.wrap a) (b := (m : Int)) (by omega)
  have h2 := Int.emod_lt_of_pos (IntKind.u64.wrap a) (b := (m : Int)) (by omega)
  obtain ⟨x, hx⟩ := Int.eq_ofNat_of_zero_le h1
  exact ⟨x, hx, by omega⟩
theorem some_any (zones data spares slots anchors : Int) (w : World) :
    Calls Try.prog 9 #[.int .i64 zones, .int .i64 data, .int .i64 spares, .int .i64 slots, .int .i64 anchors] w (SomeGeo w) := by
  obtain ⟨z, hz, lz⟩ := umod zones 4 (by decide)
  obtain ⟨d, hd, ld⟩ := umod data 4 (by decide)
  obtain ⟨s, hs, ls⟩ := umod spares 3 (by decide)
  obtain ⟨l, hl, ll⟩ := umod slots 17 (by decide)
  obtain ⟨a, ha, la⟩ := umod anchors 3 (by decide)
  have hz' : (IntKind.u64.wrap zones).tmod 4 = (z : Int) := hz
  have hd' : (IntKind.u64.wrap data).tmod 4 = (d : Int) := hd
  have hs' : (IntKind.u64.wrap spares).tmod 3 = (s : Int) := hs
  have hl' : (IntKind.u64.wrap slots).tmod 17 = (l : Int) := hl
  have ha' : (IntKind.u64.wrap anchors).tmod 3 = (a : Int) := ha
  clear hz hd hs hl ha
  go_enter Try.func9, Try.ntmps9
  go_wp2_with fail
  refine bodyPost_ret (v := .agg #[.int .i64 (1 + z), .int .i64 (1 + d), .int .i64 s, .int .i64 (14 + l), .int .i64 (1 + a)]) (by simp [results, Try.results9, go_sem]) rfl ⟨_, _, _, _, _, ?_, rfl, ?_⟩
  · exact okB_of (by omega)
  · exact (Below.refl _ _).alloc (Nat.le_refl _) _
end Go.Proofs.Ytigibbekbncpiaa

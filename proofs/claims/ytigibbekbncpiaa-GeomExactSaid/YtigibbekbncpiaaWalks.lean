/-
  The contracts of package geom's functions, each called with whatever geometry.
-/
import Derived.Test.YtigibbekbncpiaaRows
import Derived.WalkKit
import Derived.ProofKit
import Derived.WalkSpells
import Derived.Below
import Derived.BigQuiet
import Derived.Lib.Hide
import Derived.Deep.QuietTactic
import Derived.Deep.RegionHeld3
import Derived.Deep.RegionWith
import Derived.Deep.DeepCutAuto
import Derived.Deep.DrawnRows
import Derived.IntWalk
namespace Go.Proofs.Ytigibbekbncpiaa
open Go.ChangeShapes Go.WideShapes Go.ChangeAt Go.RowKit
set_option linter.unusedVariables false

def inB (n lo hi : Int) : Bool := decide (lo ≤ n) && decide (n ≤ hi)
def okB (z d s l a : Int) : Bool := inB z 1 4 && (inB d 1 4 && (inB s 0 2 && (inB l 14 30 && inB a 1 3)))
/-- a number of a right one, and why not -/
def tellN (b : Bool) (n : Int) : Int := if b = true then n else 0
def tellE (b : Bool) : Int := if b = true then 0 else 1
def geo (z d s l a : Int) : Value := .agg #[.int .i64 z, .int .i64 d, .int .i64 s, .int .i64 l, .int .i64 a]
/-- a number, new blocks alone -/
def SomeInt (W : World) (e : Ending) (w' : World) : Prop := ∃ n : Int, e = .returned (.int .i64 n) ∧ Below W.heap.size W w'

theorem bcell {W w1 : World} (hb : Below W.heap.size W w1) : (∀ b o, b < W.heap.size → w1.cell? ⟨b, o, none⟩ = W.cell? ⟨b, o, none⟩) ∧ (∀ b o, b < W.heap.size → w1.frozen? ⟨b, o, none⟩ = W.frozen? ⟨b, o, none⟩) :=
  ⟨fun b o h => hb.cell (p := ⟨b, o, none⟩) h, fun b o h => hb.frozen (p := ⟨b, o, none⟩) h⟩

theorem inB_no1 {n lo hi : Int} (h : ¬ lo ≤ n) : inB n lo hi = false := by unfold inB; rw [decide_eq_false h]; rfl
theorem inB_no2 {n lo hi : Int} (h : ¬ n ≤ hi) : inB n lo hi = false := by unfold inB; rw [decide_eq_false h]; exact Bool.and_false _
theorem inB_yes {n lo hi : Int} (h : lo ≤ n) (h' : n ≤ hi) : inB n lo hi = true := by unfold inB; rw [decide_eq_true h, decide_eq_true h']; rfl
theorem inB_lo {n lo hi : Int} (h : inB n lo hi = true) : lo ≤ n ∧ n ≤ hi := by
  unfold inB at h
  rw [Bool.and_eq_true, decide_eq_true_iff, decide_eq_true_iff] at h
  exact h
theorem okB_iff {z d s l a : Int} : okB z d s l a = true ↔ inB z 1 4 = true ∧ inB d 1 4 = true ∧ inB s 0 2 = true ∧ inB l 14 30 = true ∧ inB a 1 3 = true := by
  unfold okB; simp only [Bool.and_eq_true]
theorem okB_bounds {z d s l a : Int} (h : okB z d s l a = true) : 1 ≤ z ∧ z ≤ 4 ∧ 1 ≤ d ∧ d ≤ 4 ∧ 0 ≤ s ∧ s ≤ 2 ∧ 14 ≤ l ∧ l ≤ 30 ∧ 1 ≤ a ∧ a ≤ 3 := by
  obtain ⟨h1, h2, h3, h4, h5⟩ := okB_iff.1 h
  have := inB_lo h1; have := inB_lo h2; have := inB_lo h3; have := inB_lo h4; have := inB_lo h5
  omega
theorem okB_of {z d s l a : Int} (h : 1 ≤ z ∧ z ≤ 4 ∧ 1 ≤ d ∧ d ≤ 4 ∧ 0 ≤ s ∧ s ≤ 2 ∧ 14 ≤ l ∧ l ≤ 30 ∧ 1 ≤ a ∧ a ≤ 3) : okB z d s l a = true :=
  okB_iff.2 ⟨inB_yes (by omega) (by omega), inB_yes (by omega) (by omega), inB_yes (by omega) (by omega), inB_yes (by omega) (by omega), inB_yes (by omega) (by omega)⟩

theorem in_any (n lo hi : Int) (w : World) :
    Calls Try.prog 32 #[.int .i64 n, .int .i64 lo, .int .i64 hi] w fun e w' => e = .returned (.bool (inB n lo hi)) ∧ w = w' := by
  by_cases h1 : lo ≤ n
  · by_cases h2 : n ≤ hi
    · rw [inB_yes h1 h2]
      go_enter Try.func32, Try.ntmps32
      go_wp2
      go_ret
      simp
    · rw [inB_no2 h2]
      go_enter Try.func32, Try.ntmps32
      go_wp2
      go_ret
      simp
  · rw [inB_no1 h1]
    go_enter Try.func32, Try.ntmps32
    go_wp2
    go_ret
    simp

theorem check_ok (z d s l a : Int) (w : World) (h : okB z d s l a = true) :
    Calls Try.prog 11 #[.agg #[.int .i64 z, .int .i64 d, .int .i64 s, .int .i64 l, .int .i64 a]] w fun e w' => e = .returned (.int .i64 0) ∧ Below w.heap.size w w' := by
  obtain ⟨hz, hd, hs, hl, ha⟩ := okB_iff.1 h
  clear h
  go_enter Try.func11, Try.ntmps11
  go_wp2_with (go_at_call 32; refine (in_any _ _ _ _).mono ?_; rintro e w' ⟨rfl, rfl⟩)
  go_ret
  exact ⟨rfl, (Below.refl _ _).alloc (Nat.le_refl _) _⟩

theorem check_bad0 (z d s l a : Int) (w : World) (h0 : inB z 1 4 = false) :
    Calls Try.prog 11 #[.agg #[.int .i64 z, .int .i64 d, .int .i64 s, .int .i64 l, .int .i64 a]] w fun e w' => e = .returned (.int .i64 1) ∧ Below w.heap.size w w' := by
  go_enter Try.func11, Try.ntmps11
  go_wp2_with (go_at_call 32; refine (in_any _ _ _ _).mono ?_; rintro e w' ⟨rfl, rfl⟩)
  go_ret
  exact ⟨rfl, (Below.refl _ _).alloc (Nat.le_refl _) _⟩

theorem check_bad1 (z d s l a : Int) (w : World) (h0 : inB z 1 4 = true) (h1 : inB d 1 4 = false) :
    Calls Try.prog 11 #[.agg #[.int .i64 z, .int .i64 d, .int .i64 s, .int .i64 l, .int .i64 a]] w fun e w' => e = .returned (.int .i64 1) ∧ Below w.heap.size w w' := by
  go_enter Try.func11, Try.ntmps11
  go_wp2_with (go_at_call 32; refine (in_any _ _ _ _).mono ?_; rintro e w' ⟨rfl, rfl⟩)
  go_ret
  exact ⟨rfl, (Below.refl _ _).alloc (Nat.le_refl _) _⟩

theorem check_bad2 (z d s l a : Int) (w : World) (h0 : inB z 1 4 = true) (h1 : inB d 1 4 = true) (h2 : inB s 0 2 = false) :
    Calls Try.prog 11 #[.agg #[.int .i64 z, .int .i64 d, .int .i64 s, .int .i64 l, .int .i64 a]] w fun e w' => e = .returned (.int .i64 1) ∧ Below w.heap.size w w' := by
  go_enter Try.func11, Try.ntmps11
  go_wp2_with (go_at_call 32; refine (in_any _ _ _ _).mono ?_; rintro e w' ⟨rfl, rfl⟩)
  go_ret
  exact ⟨rfl, (Below.refl _ _).alloc (Nat.le_refl _) _⟩

theorem check_bad3 (z d s l a : Int) (w : World) (h0 : inB z 1 4 = true) (h1 : inB d 1 4 = true) (h2 : inB s 0 2 = true) (h3 : inB l 14 30 = false) :
    Calls Try.prog 11 #[.agg #[.int .i64 z, .int .i64 d, .int .i64 s, .int .i64 l, .int .i64 a]] w fun e w' => e = .returned (.int .i64 1) ∧ Below w.heap.size w w' := by
  go_enter Try.func11, Try.ntmps11
  go_wp2_with (go_at_call 32; refine (in_any _ _ _ _).mono ?_; rintro e w' ⟨rfl, rfl⟩)
  go_ret
  exact ⟨rfl, (Below.refl _ _).alloc (Nat.le_refl _) _⟩

theorem check_bad4 (z d s l a : Int) (w : World) (h0 : inB z 1 4 = true) (h1 : inB d 1 4 = true) (h2 : inB s 0 2 = true) (h3 : inB l 14 30 = true) (h4 : inB a 1 3 = false) :
    Calls Try.prog 11 #[.agg #[.int .i64 z, .int .i64 d, .int .i64 s, .int .i64 l, .int .i64 a]] w fun e w' => e = .returned (.int .i64 1) ∧ Below w.heap.size w w' := by
  go_enter Try.func11, Try.ntmps11
  go_wp2_with (go_at_call 32; refine (in_any _ _ _ _).mono ?_; rintro e w' ⟨rfl, rfl⟩)
  go_ret
  exact ⟨rfl, (Below.refl _ _).alloc (Nat.le_refl _) _⟩

theorem check_bad (z d s l a : Int) (w : World) (h : okB z d s l a = false) :
    Calls Try.prog 11 #[.agg #[.int .i64 z, .int .i64 d, .int .i64 s, .int .i64 l, .int .i64 a]] w fun e w' => e = .returned (.int .i64 1) ∧ Below w.heap.size w w' := by
  cases h0 : inB z 1 4 with
  | false => exact check_bad0 z d s l a w h0
  | true =>
    cases h1 : inB d 1 4 with
    | false => exact check_bad1 z d s l a w h0 h1
    | true =>
      cases h2 : inB s 0 2 with
      | false => exact check_bad2 z d s l a w h0 h1 h2
      | true =>
        cases h3 : inB l 14 30 with
        | false => exact check_bad3 z d s l a w h0 h1 h2 h3
        | true =>
          cases h4 : inB a 1 3 with
          | false => exact check_bad4 z d s l a w h0 h1 h2 h3 h4
          | true => rw [okB, h0, h1, h2, h3, h4] at h; cases h

theorem told_yes (z d s l a n : Int) (w : World) (h : okB z d s l a = true) :
    Calls Try.prog 30 #[.agg #[.int .i64 z, .int .i64 d, .int .i64 s, .int .i64 l, .int .i64 a], .int .i64 n, .bool true] w fun e w' => e = .returned (.tuple #[.int .i64 n, .int .i64 0]) ∧ Below w.heap.size w w' := by
  go_enter Try.func30, Try.ntmps30
  go_wp2_with (go_at_call 11; refine (check_ok _ _ _ _ _ _ h).mono ?_; rintro e w' ⟨rfl, hb⟩; obtain ⟨hc, hf⟩ := bcell hb)
  go_ret2
  exact ⟨rfl, ((Below.refl _ _).alloc (Nat.le_refl _) _).trans (hb.mono (by simp))⟩
theorem told_no (z d s l a n : Int) (w : World) (h : okB z d s l a = true) :
    Calls Try.prog 30 #[.agg #[.int .i64 z, .int .i64 d, .int .i64 s, .int .i64 l, .int .i64 a], .int .i64 n, .bool false] w fun e w' => e = .returned (.tuple #[.int .i64 0, .int .i64 1]) ∧ Below w.heap.size w w' := by
  go_enter Try.func30, Try.ntmps30
  go_wp2_with (go_at_call 11; refine (check_ok _ _ _ _ _ _ h).mono ?_; rintro e w' ⟨rfl, hb⟩; obtain ⟨hc, hf⟩ := bcell hb)
  go_ret2
  exact ⟨rfl, ((Below.refl _ _).alloc (Nat.le_refl _) _).trans (hb.mono (by simp))⟩
theorem told_bad (z d s l a n : Int) (r : Bool) (w : World) (h : okB z d s l a = false) :
    Calls Try.prog 30 #[.agg #[.int .i64 z, .int .i64 d, .int .i64 s, .int .i64 l, .int .i64 a], .int .i64 n, .bool r] w fun e w' => e = .returned (.tuple #[.int .i64 0, .int .i64 1]) ∧ Below w.heap.size w w' := by
  go_enter Try.func30, Try.ntmps30
  go_wp2_with (go_at_call 11; refine (check_bad _ _ _ _ _ _ h).mono ?_; rintro e w' ⟨rfl, hb⟩; obtain ⟨hc, hf⟩ := bcell hb)
  go_ret2
  exact ⟨rfl, ((Below.refl _ _).alloc (Nat.le_refl _) _).trans (hb.mono (by simp))⟩

/-! ### What a function keeps: the box of its geometry, and all that was there. -/
theorem keepS {w W1 w1 : World} {c0 c1 c2 c3 c4 : Value} (hb : Below W1.heap.size W1 w1) (h : Below w.heap.size w W1)
    (h0 : W1.cell? ⟨w.heap.size, 0, none⟩ = some c0) (h1 : W1.cell? ⟨w.heap.size, 1, none⟩ = some c1) (h2 : W1.cell? ⟨w.heap.size, 2, none⟩ = some c2) (h3 : W1.cell? ⟨w.heap.size, 3, none⟩ = some c3) (h4 : W1.cell? ⟨w.heap.size, 4, none⟩ = some c4) :
    Below w.heap.size w w1 ∧ w1.cell? ⟨w.heap.size, 0, none⟩ = some c0 ∧ w1.cell? ⟨w.heap.size, 1, none⟩ = some c1 ∧ w1.cell? ⟨w.heap.size, 2, none⟩ = some c2 ∧ w1.cell? ⟨w.heap.size, 3, none⟩ = some c3 ∧ w1.cell? ⟨w.heap.size, 4, none⟩ = some c4 := by
  have hlt := World.block_lt_of_cell? _ _ h0
  refine ⟨h.trans (hb.mono h.size), ?_, ?_, ?_, ?_, ?_⟩
  all_goals (rw [hb.cell (by exact hlt)]; assumption)
theorem startS (w : World) (c0 c1 c2 c3 c4 : Value) (t : TypeId) :
    Below w.heap.size w (w.alloc (.cells #[c0, c1, c2, c3, c4] t)).drew ∧ (w.alloc (.cells #[c0, c1, c2, c3, c4] t)).drew.cell? ⟨w.heap.size, 0, none⟩ = some c0 ∧ (w.alloc (.cells #[c0, c1, c2, c3, c4] t)).drew.cell? ⟨w.heap.size, 1, none⟩ = some c1 ∧ (w.alloc (.cells #[c0, c1, c2, c3, c4] t)).drew.cell? ⟨w.heap.size, 2, none⟩ = some c2 ∧
      (w.alloc (.cells #[c0, c1, c2, c3, c4] t)).drew.cell? ⟨w.heap.size, 3, none⟩ = some c3 ∧ (w.alloc (.cells #[c0, c1, c2, c3, c4] t)).drew.cell? ⟨w.heap.size, 4, none⟩ = some c4 := by
  refine ⟨((Below.refl _ _).alloc (Nat.le_refl _) _).drew, ?_, ?_, ?_, ?_, ?_⟩ <;> simp

theorem w64 {n : Int} (h0 : -9223372036854775808 ≤ n) (h1 : n ≤ 9223372036854775807) : IntKind.i64.wrap n = n := IntWalk.i64_in n ⟨by omega, by omega⟩
theorem zp_bounds {z d s l a : Int} (h : okB z d s l a = true) : 2 ≤ z * (d + 1 + s) ∧ z * (d + 1 + s) ≤ 28 := by
  have hb := okB_bounds h
  have h1 : z * 2 ≤ z * (d + 1 + s) := Int.mul_le_mul_of_nonneg_left (by omega) (by omega)
  have h2 : z * (d + 1 + s) ≤ z * 7 := Int.mul_le_mul_of_nonneg_left (by omega) (by omega)
  omega
theorem tables_some (z d s l a : Int) (w : World) :
    Calls Try.prog 33 #[.agg #[.int .i64 z, .int .i64 d, .int .i64 s, .int .i64 l, .int .i64 a]] w (SomeInt w) := by
  go_enter Try.func33, Try.ntmps33
  go_wp2
  go_ret
  exact ⟨_, rfl, (Below.refl _ _).alloc (Nat.le_refl _) _⟩
theorem tables_ok (z d s l a : Int) (w : World) (h : okB z d s l a = true) :
    Calls Try.prog 33 #[.agg #[.int .i64 z, .int .i64 d, .int .i64 s, .int .i64 l, .int .i64 a]] w fun e w' => e = .returned (.int .i64 (a + 2 * l)) ∧ Below w.heap.size w w' := by
  have hb := okB_bounds h
  clear h
  go_enter Try.func33, Try.ntmps33
  go_wp2
  go_ret
  exact ⟨rfl, (Below.refl _ _).alloc (Nat.le_refl _) _⟩
theorem per_some (z d s l a : Int) (w : World) :
    Calls Try.prog 35 #[.agg #[.int .i64 z, .int .i64 d, .int .i64 s, .int .i64 l, .int .i64 a]] w (SomeInt w) := by
  go_enter Try.func35, Try.ntmps35
  go_wp2
  go_ret
  exact ⟨_, rfl, (Below.refl _ _).alloc (Nat.le_refl _) _⟩
theorem per_ok (z d s l a : Int) (w : World) (h : okB z d s l a = true) :
    Calls Try.prog 35 #[.agg #[.int .i64 z, .int .i64 d, .int .i64 s, .int .i64 l, .int .i64 a]] w fun e w' => e = .returned (.int .i64 (d + 1 + s)) ∧ Below w.heap.size w w' := by
  have hb := okB_bounds h
  clear h
  go_enter Try.func35, Try.ntmps35
  go_wp2
  go_ret
  exact ⟨rfl, (Below.refl _ _).alloc (Nat.le_refl _) _⟩
theorem slots_some (z d s l a : Int) (w : World) :
    Calls Try.prog 34 #[.agg #[.int .i64 z, .int .i64 d, .int .i64 s, .int .i64 l, .int .i64 a]] w (SomeInt w) := by
  go_enter Try.func34, Try.ntmps34
  go_wp2_with fail
  go_region_held3 (fun w' => Below w.heap.size w w' ∧ w'.cell? ⟨w.heap.size, 0, none⟩ = some (.int .i64 z) ∧ w'.cell? ⟨w.heap.size, 1, none⟩ = some (.int .i64 d) ∧ w'.cell? ⟨w.heap.size, 2, none⟩ = some (.int .i64 s) ∧ w'.cell? ⟨w.heap.size, 3, none⟩ = some (.int .i64 l) ∧ w'.cell? ⟨w.heap.size, 4, none⟩ = some (.int .i64 a)) (first | exact startS _ _ _ _ _ _ _ | (go_split_ands; exact keepS hb ‹_› ‹_› ‹_› ‹_› ‹_› ‹_›) | go_keep)
    ((go_at_call 33; refine (tables_some _ _ _ _ _ _).mono ?_; rintro e w' ⟨n, rfl, hb⟩))
  all_goals go_wp2_with fail
  all_goals go_ret
  exact ⟨_, rfl, by go_split_ands; assumption⟩
theorem slots_ok (z d s l a : Int) (w : World) (h : okB z d s l a = true) :
    Calls Try.prog 34 #[.agg #[.int .i64 z, .int .i64 d, .int .i64 s, .int .i64 l, .int .i64 a]] w fun e w' => e = .returned (.int .i64 (a + 2 * l + 2 * z)) ∧ Below w.heap.size w w' := by
  have hbd := okB_bounds h
  have e1 : IntKind.i64.wrap (2 * z) = 2 * z := w64 (by omega) (by omega)
  have e2 : IntKind.i64.wrap (a + 2 * l + 2 * z) = a + 2 * l + 2 * z := w64 (by omega) (by omega)
  go_enter Try.func34, Try.ntmps34
  go_wp2_with fail
  go_region_held3 (fun w' => Below w.heap.size w w' ∧ w'.cell? ⟨w.heap.size, 0, none⟩ = some (.int .i64 z) ∧ w'.cell? ⟨w.heap.size, 1, none⟩ = some (.int .i64 d) ∧ w'.cell? ⟨w.heap.size, 2, none⟩ = some (.int .i64 s) ∧ w'.cell? ⟨w.heap.size, 3, none⟩ = some (.int .i64 l) ∧ w'.cell? ⟨w.heap.size, 4, none⟩ = some (.int .i64 a)) (first | exact startS _ _ _ _ _ _ _ | (go_split_ands; exact keepS hb ‹_› ‹_› ‹_› ‹_› ‹_› ‹_›) | go_keep)
    ((go_at_call 33; refine (tables_ok _ _ _ _ _ _ h).mono ?_; rintro e w' ⟨rfl, hb⟩))
  all_goals go_wp2_with fail
  all_goals go_ret
  exact ⟨rfl, by go_split_ands; assumption⟩
theorem cells_some (z d s l a : Int) (w : World) :
    Calls Try.prog 31 #[.agg #[.int .i64 z, .int .i64 d, .int .i64 s, .int .i64 l, .int .i64 a]] w (SomeInt w) := by
  go_enter Try.func31, Try.ntmps31
  go_wp2_with fail
  go_region_held3 (fun w' => Below w.heap.size w w' ∧ w'.cell? ⟨w.heap.size, 0, none⟩ = some (.int .i64 z) ∧ w'.cell? ⟨w.heap.size, 1, none⟩ = some (.int .i64 d) ∧ w'.cell? ⟨w.heap.size, 2, none⟩ = some (.int .i64 s) ∧ w'.cell? ⟨w.heap.size, 3, none⟩ = some (.int .i64 l) ∧ w'.cell? ⟨w.heap.size, 4, none⟩ = some (.int .i64 a)) (first | exact startS _ _ _ _ _ _ _ | (go_split_ands; exact keepS hb ‹_› ‹_› ‹_› ‹_› ‹_› ‹_›) | go_keep)
    (first | (go_at_call 34; refine (slots_some _ _ _ _ _ _).mono ?_; rintro e w' ⟨n, rfl, hb⟩) | (go_at_call 35; refine (per_some _ _ _ _ _ _).mono ?_; rintro e w' ⟨n, rfl, hb⟩))
  all_goals go_wp2_with fail
  all_goals go_ret
  all_goals exact ⟨_, rfl, by go_split_ands; assumption⟩
theorem cells_ok (z d s l a : Int) (w : World) (h : okB z d s l a = true) :
    Calls Try.prog 31 #[.agg #[.int .i64 z, .int .i64 d, .int .i64 s, .int .i64 l, .int .i64 a]] w fun e w' => e = .returned (.int .i64 (a + 2 * l + 2 * z + z * (d + 1 + s))) ∧ Below w.heap.size w w' := by
  have hbd := okB_bounds h
  obtain ⟨hp, hq⟩ := zp_bounds h
  have e1 : IntKind.i64.wrap (z * (d + 1 + s)) = z * (d + 1 + s) := w64 (by omega) (by omega)
  have e2 : IntKind.i64.wrap (a + 2 * l + 2 * z + z * (d + 1 + s)) = a + 2 * l + 2 * z + z * (d + 1 + s) := w64 (by omega) (by omega)
  go_enter Try.func31, Try.ntmps31
  go_wp2_with fail
  go_region_held3 (fun w' => Below w.heap.size w w' ∧ w'.cell? ⟨w.heap.size, 0, none⟩ = some (.int .i64 z) ∧ w'.cell? ⟨w.heap.size, 1, none⟩ = some (.int .i64 d) ∧ w'.cell? ⟨w.heap.size, 2, none⟩ = some (.int .i64 s) ∧ w'.cell? ⟨w.heap.size, 3, none⟩ = some (.int .i64 l) ∧ w'.cell? ⟨w.heap.size, 4, none⟩ = some (.int .i64 a)) (first | exact startS _ _ _ _ _ _ _ | (go_split_ands; exact keepS hb ‹_› ‹_› ‹_› ‹_› ‹_› ‹_›) | go_keep)
    (first | (go_at_call 34; refine (slots_ok _ _ _ _ _ _ h).mono ?_; rintro e w' ⟨rfl, hb⟩) | (go_at_call 35; refine (per_ok _ _ _ _ _ _ h).mono ?_; rintro e w' ⟨rfl, hb⟩))
  all_goals go_wp2_with fail
  all_goals go_ret
  all_goals exact ⟨rfl, by go_split_ands; assumption⟩
theorem Cells_ok (z d s l a : Int) (w : World) (h : okB z d s l a = true) :
    Calls Try.prog 10 #[.agg #[.int .i64 z, .int .i64 d, .int .i64 s, .int .i64 l, .int .i64 a]] w fun e w' => e = .returned (.tuple #[.int .i64 (a + 2 * l + 2 * z + z * (d + 1 + s)), .int .i64 0]) ∧ Below w.heap.size w w' := by
  go_enter Try.func10, Try.ntmps10
  go_wp2_with fail
  go_region_held3 (fun w' => Below w.heap.size w w' ∧ w'.cell? ⟨w.heap.size, 0, none⟩ = some (.int .i64 z) ∧ w'.cell? ⟨w.heap.size, 1, none⟩ = some (.int .i64 d) ∧ w'.cell? ⟨w.heap.size, 2, none⟩ = some (.int .i64 s) ∧ w'.cell? ⟨w.heap.size, 3, none⟩ = some (.int .i64 l) ∧ w'.cell? ⟨w.heap.size, 4, none⟩ = some (.int .i64 a)) (first | exact startS _ _ _ _ _ _ _ | (go_split_ands; exact keepS hb ‹_› ‹_› ‹_› ‹_› ‹_› ‹_›) | go_keep)
    (first | (go_at_call 31; refine (cells_ok _ _ _ _ _ _ h).mono ?_; rintro e w' ⟨rfl, hb⟩) | (go_at_call 30; refine (told_yes _ _ _ _ _ _ _ h).mono ?_; rintro e w' ⟨rfl, hb⟩))
  all_goals go_wp2_with fail
  all_goals go_ret2
  all_goals exact ⟨rfl, by go_split_ands; assumption⟩
theorem Cells_bad (z d s l a : Int) (w : World) (h : okB z d s l a = false) :
    Calls Try.prog 10 #[.agg #[.int .i64 z, .int .i64 d, .int .i64 s, .int .i64 l, .int .i64 a]] w fun e w' => e = .returned (.tuple #[.int .i64 0, .int .i64 1]) ∧ Below w.heap.size w w' := by
  go_enter Try.func10, Try.ntmps10
  go_wp2_with fail
  go_region_held3 (fun w' => Below w.heap.size w w' ∧ w'.cell? ⟨w.heap.size, 0, none⟩ = some (.int .i64 z) ∧ w'.cell? ⟨w.heap.size, 1, none⟩ = some (.int .i64 d) ∧ w'.cell? ⟨w.heap.size, 2, none⟩ = some (.int .i64 s) ∧ w'.cell? ⟨w.heap.size, 3, none⟩ = some (.int .i64 l) ∧ w'.cell? ⟨w.heap.size, 4, none⟩ = some (.int .i64 a)) (first | exact startS _ _ _ _ _ _ _ | (go_split_ands; exact keepS hb ‹_› ‹_› ‹_› ‹_› ‹_› ‹_›) | go_keep)
    (first | (go_at_call 31; refine (cells_some _ _ _ _ _ _).mono ?_; rintro e w' ⟨n, rfl, hb⟩) | (go_at_call 30; refine (told_bad _ _ _ _ _ _ _ _ h).mono ?_; rintro e w' ⟨rfl, hb⟩))
  all_goals go_wp2_with fail
  all_goals go_ret2
  all_goals exact ⟨rfl, by go_split_ands; assumption⟩
end Go.Proofs.Ytigibbekbncpiaa

/-
  Nd1: ring.Need at the two lists that the run asks for.
-/
import Derived.Test.YtbcmcdmflblgkaaGreatDoorProg
import Derived.WalkKit
import Derived.ProofKit
import Derived.WalkSpells
import Derived.WalkLawsBesides
import Derived.OwnWalk
import Derived.Below
import Derived.LoopN
import Derived.LoopTactic
import Derived.BigQuiet
import Derived.Deep.QuietTactic
import Derived.Lib.Hide
namespace Go.Proofs.YtbcmcdmflblgkaaGreatDoor
open Go.ChangeShapes Go.WideShapes Go.ChangeAt Go.RowKit
set_option linter.unusedVariables false
abbrev gV : Value := .agg #[.int .i64 2, .int .i64 2, .int .i64 1, .int .i64 14, .int .i64 2]
theorem in_any (n lo hi : Int) (w : World) : Calls Tryz.prog 117 #[.int .i64 n, .int .i64 lo, .int .i64 hi] w fun e w' => e = .returned (.bool (decide (lo ≤ n) && decide (n ≤ hi))) ∧ w' = w := by
  go_enter Tryz.func117, Tryz.ntmps117
  by_cases h1 : lo ≤ n
  · by_cases h2 : n ≤ hi
    · go_wp2
      go_ret
      exact ⟨by simp [h1, h2], rfl⟩
    · go_wp2
      go_ret
      exact ⟨by simp; omega, rfl⟩
  · go_wp2
    go_ret
    exact ⟨by simp; omega, rfl⟩
theorem check_g (w : World) : Calls Tryz.prog 113 #[gV] w fun e w' => e = .returned (.int .i64 0) ∧ w' = w.alloc (.cells #[.int .i64 2, .int .i64 2, .int .i64 1, .int .i64 14, .int .i64 2] 25) := by
  unfold gV
  go_enter Tryz.func113, Tryz.ntmps113
  go_wp2_with (go_at_call 117; refine (in_any _ _ _ _).mono ?_; rintro e w' ⟨rfl, rfl⟩)
  go_ret
  exact ⟨rfl, rfl⟩
theorem Below.drewN_ {B n : Nat} {a w : World} (h : Below B a w) : Below B a { w with drawn := n } := ⟨h.os, h.tape, h.output, h.size, h.block⟩
theorem split_g (l z a : Int) (w : World) (h0 : 0 ≤ l) (h3 : l ≤ 3) (hz : l / 2 = z) (ha : l % 2 = a) : Calls Tryz.prog 144 #[gV, .int .i64 l] w fun e w' => e = .returned (.tuple #[.int .i64 z, .int .i64 a, .int .i64 0]) ∧ Below w.heap.size w w' := by
  unfold gV
  have hr1 : (decide (0 ≤ l) && decide (l ≤ 3)) = true := by simp [h0, h3]
  have hd1 : l / 2 ≤ l := Int.ediv_le_self _ (by omega)
  have hd0 : 0 ≤ l / 2 := Int.ediv_nonneg (by omega) (by omega)
  have hm0 : 0 ≤ l % 2 := Int.emod_nonneg _ (by omega)
  have hm1 : l % 2 < 2 := Int.emod_lt_of_pos _ (by omega)
  have HZ := Lib.hid hz
  have HA := Lib.hid ha
  clear hz ha
  go_enter Tryz.func144, Tryz.ntmps144
  go_wp2_with (first
    | (go_at_call 113; refine (check_g _).mono ?_; rintro e w' ⟨rfl, rfl⟩)
    | (go_at_call 117; refine (in_any _ _ _ _).mono ?_; rintro e w' ⟨rfl, rfl⟩))
  go_quiet (fail)
  go_wp2
  go_ret3
  rw [← HZ.out, ← HA.out]
  exact ⟨rfl, Below.drewN_ (((Below.refl _ _).alloc (Nat.le_refl _) _).alloc (by simp) _)⟩
theorem contains0 (A : Option Addr) (c : Nat) (x : Int) (w : World) : Calls Tryz.prog 95 #[.slice A 0 c, .int .i64 x] w fun e w' => e = .returned (.bool false) ∧ w' = w := by
  go_enter Tryz.func95, Tryz.ntmps95
  go_wp2_with fail
  refine Calls.mono (R := fun e w' => e = .returned (.int .i64 (-1)) ∧ w' = w) ?_ ?_
  · go_enter Tryz.func150, Tryz.ntmps150
    go_wp2
    refine wp_loop_rounds 2 ?_
    simp only [Code.rounds]
    go_wp2
    go_ret
    exact ⟨rfl, rfl⟩
  · rintro e w' ⟨rfl, rfl⟩
    go_wp2
    go_ret
    exact ⟨rfl, rfl⟩
theorem contains1 (ad : Addr) (c : Nat) (x y : Int) (hxy : (x == y) = false) (w : World) (hc : w.cell? ad = some (.int .i64 y)) : Calls Tryz.prog 95 #[.slice (some ad) 1 c, .int .i64 x] w fun e w' => e = .returned (.bool false) ∧ w' = w := by
  go_enter Tryz.func95, Tryz.ntmps95
  go_wp2_with fail
  refine Calls.mono (R := fun e w' => e = .returned (.int .i64 (-1)) ∧ w' = w) ?_ ?_
  · go_enter Tryz.func150, Tryz.ntmps150
    go_wp2
    refine wp_loop_rounds 3 ?_
    simp only [Code.rounds]
    go_wp2
    go_ret
    exact ⟨rfl, rfl⟩
  · rintro e w' ⟨rfl, rfl⟩
    go_wp2
    go_ret
    exact ⟨rfl, rfl⟩
end Go.Proofs.YtbcmcdmflblgkaaGreatDoor

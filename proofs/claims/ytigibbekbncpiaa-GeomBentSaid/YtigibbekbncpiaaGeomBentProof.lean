/-
  PROVED: the law 'GeomBent' returns true for every input, and leaves its arguments and all memory as they were. Conditions: those of the given row alone.
-/
import Derived.Test.YtigibbekbncpiaaWalks3
import Derived.WalkKit
import Derived.ProofKit
import Derived.OpenShut
import Derived.ShutString
import Derived.ChangeOld
import Derived.Below
namespace Go.Proofs.Ytigibbekbncpiaa.geomBent
open Go.ChangeShapes Go.WideShapes Go.ChangeAt Go.RowKit
open Go.ChangeMaps (open_string shut_string)
set_option linter.unusedVariables false      -- a walk need not use every 'w<i>' (that an integer argument fits its kind)

theorem own : ownKnob Try.prog.godebug = none := by kernel_rfl


theorem case0 (a0 a1 a2 a3 a4 a5 : Int) (n : Nat) (hn : (IntKind.u64.wrap a5).tmod 10 = (n : Int)) (hk : n = 0) (w : World) :
    Calls Try.prog 3 #[.int .i64 a0, .int .i64 a1, .int .i64 a2, .int .i64 a3, .int .i64 a4, .int .i64 a5] w fun e w' => e = .returned (.bool true) ∧ Below w.heap.size w w' := by
  have t0 : ((n : Int) == 0) = true := beq_iff_eq.2 (by omega)
  clear hk
  go_enter Try.func3, Try.ntmps3
  go_wp2_with fail
  refine (some_any _ _ _ _ _ _).mono ?_
  rintro e w1 ⟨z, d, s, l, a, h, rfl, hb1⟩
  have hbad : okB 0 d s l a = false := by
    rw [Bool.eq_false_iff]; intro hh; have := okB_bounds hh; omega
  have z1 : w.heap.size ≤ w1.heap.size := hb1.size
  go_wp2_with fail
  refine (Cells_bad _ _ _ _ _ _ hbad).mono ?_
  rintro e w2 ⟨rfl, hb2⟩
  obtain ⟨hc2, hf2⟩ := bcell hb2
  have z2 : w1.heap.size + 1 < w2.heap.size := by have := hb2.size; simp at this; omega
  go_wp2_with fail
  refine (check_ok _ _ _ _ _ _ h).mono ?_
  rintro e w3 ⟨rfl, hb3⟩
  obtain ⟨hc3, hf3⟩ := bcell hb3
  have z3 : w1.heap.size + 1 < w3.heap.size := by have := hb3.size; omega
  go_wp2_with fail
  refine (check_bad _ _ _ _ _ _ hbad).mono ?_
  rintro e w4 ⟨rfl, hb4⟩
  go_wp2_with fail
  refine (wakes_any _).mono ?_
  rintro e w5 ⟨rfl, hb5⟩
  go_wp2_with fail
  go_ret
  have g2 : Below w.heap.size w w2 := (((hb1.alloc hb1.size _).alloc (by simp; omega) _).trans (hb2.mono (by simp; omega)))
  have g3 := g2.trans (hb3.mono g2.size)
  have g4 := g3.trans (hb4.mono g3.size)
  exact ⟨rfl, g4.trans (hb5.mono g4.size)⟩

theorem case1 (a0 a1 a2 a3 a4 a5 : Int) (n : Nat) (hn : (IntKind.u64.wrap a5).tmod 10 = (n : Int)) (hk : n = 1) (w : World) :
    Calls Try.prog 3 #[.int .i64 a0, .int .i64 a1, .int .i64 a2, .int .i64 a3, .int .i64 a4, .int .i64 a5] w fun e w' => e = .returned (.bool true) ∧ Below w.heap.size w w' := by
  have t0 : ((n : Int) == 0) = false := beq_eq_false_iff_ne.2 (by omega)
  have t1 : ((n : Int) == 1) = true := beq_iff_eq.2 (by omega)
  clear hk
  go_enter Try.func3, Try.ntmps3
  go_wp2_with fail
  refine (some_any _ _ _ _ _ _).mono ?_
  rintro e w1 ⟨z, d, s, l, a, h, rfl, hb1⟩
  have hbad : okB 5 d s l a = false := by
    rw [Bool.eq_false_iff]; intro hh; have := okB_bounds hh; omega
  have z1 : w.heap.size ≤ w1.heap.size := hb1.size
  go_wp2_with fail
  refine (Cells_bad _ _ _ _ _ _ hbad).mono ?_
  rintro e w2 ⟨rfl, hb2⟩
  obtain ⟨hc2, hf2⟩ := bcell hb2
  have z2 : w1.heap.size + 1 < w2.heap.size := by have := hb2.size; simp at this; omega
  go_wp2_with fail
  refine (check_ok _ _ _ _ _ _ h).mono ?_
  rintro e w3 ⟨rfl, hb3⟩
  obtain ⟨hc3, hf3⟩ := bcell hb3
  have z3 : w1.heap.size + 1 < w3.heap.size := by have := hb3.size; omega
  go_wp2_with fail
  refine (check_bad _ _ _ _ _ _ hbad).mono ?_
  rintro e w4 ⟨rfl, hb4⟩
  go_wp2_with fail
  refine (wakes_any _).mono ?_
  rintro e w5 ⟨rfl, hb5⟩
  go_wp2_with fail
  go_ret
  have g2 : Below w.heap.size w w2 := (((hb1.alloc hb1.size _).alloc (by simp; omega) _).trans (hb2.mono (by simp; omega)))
  have g3 := g2.trans (hb3.mono g2.size)
  have g4 := g3.trans (hb4.mono g3.size)
  exact ⟨rfl, g4.trans (hb5.mono g4.size)⟩

theorem case2 (a0 a1 a2 a3 a4 a5 : Int) (n : Nat) (hn : (IntKind.u64.wrap a5).tmod 10 = (n : Int)) (hk : n = 2) (w : World) :
    Calls Try.prog 3 #[.int .i64 a0, .int .i64 a1, .int .i64 a2, .int .i64 a3, .int .i64 a4, .int .i64 a5] w fun e w' => e = .returned (.bool true) ∧ Below w.heap.size w w' := by
  have t0 : ((n : Int) == 0) = false := beq_eq_false_iff_ne.2 (by omega)
  have t1 : ((n : Int) == 1) = false := beq_eq_false_iff_ne.2 (by omega)
  have t2 : ((n : Int) == 2) = true := beq_iff_eq.2 (by omega)
  clear hk
  go_enter Try.func3, Try.ntmps3
  go_wp2_with fail
  refine (some_any _ _ _ _ _ _).mono ?_
  rintro e w1 ⟨z, d, s, l, a, h, rfl, hb1⟩
  have hbad : okB z 0 s l a = false := by
    rw [Bool.eq_false_iff]; intro hh; have := okB_bounds hh; omega
  have z1 : w.heap.size ≤ w1.heap.size := hb1.size
  go_wp2_with fail
  refine (Cells_bad _ _ _ _ _ _ hbad).mono ?_
  rintro e w2 ⟨rfl, hb2⟩
  obtain ⟨hc2, hf2⟩ := bcell hb2
  have z2 : w1.heap.size + 1 < w2.heap.size := by have := hb2.size; simp at this; omega
  go_wp2_with fail
  refine (check_ok _ _ _ _ _ _ h).mono ?_
  rintro e w3 ⟨rfl, hb3⟩
  obtain ⟨hc3, hf3⟩ := bcell hb3
  have z3 : w1.heap.size + 1 < w3.heap.size := by have := hb3.size; omega
  go_wp2_with fail
  refine (check_bad _ _ _ _ _ _ hbad).mono ?_
  rintro e w4 ⟨rfl, hb4⟩
  go_wp2_with fail
  refine (wakes_any _).mono ?_
  rintro e w5 ⟨rfl, hb5⟩
  go_wp2_with fail
  go_ret
  have g2 : Below w.heap.size w w2 := (((hb1.alloc hb1.size _).alloc (by simp; omega) _).trans (hb2.mono (by simp; omega)))
  have g3 := g2.trans (hb3.mono g2.size)
  have g4 := g3.trans (hb4.mono g3.size)
  exact ⟨rfl, g4.trans (hb5.mono g4.size)⟩

theorem case3 (a0 a1 a2 a3 a4 a5 : Int) (n : Nat) (hn : (IntKind.u64.wrap a5).tmod 10 = (n : Int)) (hk : n = 3) (w : World) :
    Calls Try.prog 3 #[.int .i64 a0, .int .i64 a1, .int .i64 a2, .int .i64 a3, .int .i64 a4, .int .i64 a5] w fun e w' => e = .returned (.bool true) ∧ Below w.heap.size w w' := by
  have t0 : ((n : Int) == 0) = false := beq_eq_false_iff_ne.2 (by omega)
  have t1 : ((n : Int) == 1) = false := beq_eq_false_iff_ne.2 (by omega)
  have t2 : ((n : Int) == 2) = false := beq_eq_false_iff_ne.2 (by omega)
  have t3 : ((n : Int) == 3) = true := beq_iff_eq.2 (by omega)
  clear hk
  go_enter Try.func3, Try.ntmps3
  go_wp2_with fail
  refine (some_any _ _ _ _ _ _).mono ?_
  rintro e w1 ⟨z, d, s, l, a, h, rfl, hb1⟩
  have hbad : okB z 5 s l a = false := by
    rw [Bool.eq_false_iff]; intro hh; have := okB_bounds hh; omega
  have z1 : w.heap.size ≤ w1.heap.size := hb1.size
  go_wp2_with fail
  refine (Cells_bad _ _ _ _ _ _ hbad).mono ?_
  rintro e w2 ⟨rfl, hb2⟩
  obtain ⟨hc2, hf2⟩ := bcell hb2
  have z2 : w1.heap.size + 1 < w2.heap.size := by have := hb2.size; simp at this; omega
  go_wp2_with fail
  refine (check_ok _ _ _ _ _ _ h).mono ?_
  rintro e w3 ⟨rfl, hb3⟩
  obtain ⟨hc3, hf3⟩ := bcell hb3
  have z3 : w1.heap.size + 1 < w3.heap.size := by have := hb3.size; omega
  go_wp2_with fail
  refine (check_bad _ _ _ _ _ _ hbad).mono ?_
  rintro e w4 ⟨rfl, hb4⟩
  go_wp2_with fail
  refine (wakes_any _).mono ?_
  rintro e w5 ⟨rfl, hb5⟩
  go_wp2_with fail
  go_ret
  have g2 : Below w.heap.size w w2 := (((hb1.alloc hb1.size _).alloc (by simp; omega) _).trans (hb2.mono (by simp; omega)))
  have g3 := g2.trans (hb3.mono g2.size)
  have g4 := g3.trans (hb4.mono g3.size)
  exact ⟨rfl, g4.trans (hb5.mono g4.size)⟩

theorem case4 (a0 a1 a2 a3 a4 a5 : Int) (n : Nat) (hn : (IntKind.u64.wrap a5).tmod 10 = (n : Int)) (hk : n = 4) (w : World) :
    Calls Try.prog 3 #[.int .i64 a0, .int .i64 a1, .int .i64 a2, .int .i64 a3, .int .i64 a4, .int .i64 a5] w fun e w' => e = .returned (.bool true) ∧ Below w.heap.size w w' := by
  have t0 : ((n : Int) == 0) = false := beq_eq_false_iff_ne.2 (by omega)
  have t1 : ((n : Int) == 1) = false := beq_eq_false_iff_ne.2 (by omega)
  have t2 : ((n : Int) == 2) = false := beq_eq_false_iff_ne.2 (by omega)
  have t3 : ((n : Int) == 3) = false := beq_eq_false_iff_ne.2 (by omega)
  have t4 : ((n : Int) == 4) = true := beq_iff_eq.2 (by omega)
  clear hk
  go_enter Try.func3, Try.ntmps3
  go_wp2_with fail
  refine (some_any _ _ _ _ _ _).mono ?_
  rintro e w1 ⟨z, d, s, l, a, h, rfl, hb1⟩
  have hbad : okB z d (-1) l a = false := by
    rw [Bool.eq_false_iff]; intro hh; have := okB_bounds hh; omega
  have z1 : w.heap.size ≤ w1.heap.size := hb1.size
  go_wp2_with fail
  refine (Cells_bad _ _ _ _ _ _ hbad).mono ?_
  rintro e w2 ⟨rfl, hb2⟩
  obtain ⟨hc2, hf2⟩ := bcell hb2
  have z2 : w1.heap.size + 1 < w2.heap.size := by have := hb2.size; simp at this; omega
  go_wp2_with fail
  refine (check_ok _ _ _ _ _ _ h).mono ?_
  rintro e w3 ⟨rfl, hb3⟩
  obtain ⟨hc3, hf3⟩ := bcell hb3
  have z3 : w1.heap.size + 1 < w3.heap.size := by have := hb3.size; omega
  go_wp2_with fail
  refine (check_bad _ _ _ _ _ _ hbad).mono ?_
  rintro e w4 ⟨rfl, hb4⟩
  go_wp2_with fail
  refine (wakes_any _).mono ?_
  rintro e w5 ⟨rfl, hb5⟩
  go_wp2_with fail
  go_ret
  have g2 : Below w.heap.size w w2 := (((hb1.alloc hb1.size _).alloc (by simp; omega) _).trans (hb2.mono (by simp; omega)))
  have g3 := g2.trans (hb3.mono g2.size)
  have g4 := g3.trans (hb4.mono g3.size)
  exact ⟨rfl, g4.trans (hb5.mono g4.size)⟩

theorem case5 (a0 a1 a2 a3 a4 a5 : Int) (n : Nat) (hn : (IntKind.u64.wrap a5).tmod 10 = (n : Int)) (hk : n = 5) (w : World) :
    Calls Try.prog 3 #[.int .i64 a0, .int .i64 a1, .int .i64 a2, .int .i64 a3, .int .i64 a4, .int .i64 a5] w fun e w' => e = .returned (.bool true) ∧ Below w.heap.size w w' := by
  have t0 : ((n : Int) == 0) = false := beq_eq_false_iff_ne.2 (by omega)
  have t1 : ((n : Int) == 1) = false := beq_eq_false_iff_ne.2 (by omega)
  have t2 : ((n : Int) == 2) = false := beq_eq_false_iff_ne.2 (by omega)
  have t3 : ((n : Int) == 3) = false := beq_eq_false_iff_ne.2 (by omega)
  have t4 : ((n : Int) == 4) = false := beq_eq_false_iff_ne.2 (by omega)
  have t5 : ((n : Int) == 5) = true := beq_iff_eq.2 (by omega)
  clear hk
  go_enter Try.func3, Try.ntmps3
  go_wp2_with fail
  refine (some_any _ _ _ _ _ _).mono ?_
  rintro e w1 ⟨z, d, s, l, a, h, rfl, hb1⟩
  have hbad : okB z d 3 l a = false := by
    rw [Bool.eq_false_iff]; intro hh; have := okB_bounds hh; omega
  have z1 : w.heap.size ≤ w1.heap.size := hb1.size
  go_wp2_with fail
  refine (Cells_bad _ _ _ _ _ _ hbad).mono ?_
  rintro e w2 ⟨rfl, hb2⟩
  obtain ⟨hc2, hf2⟩ := bcell hb2
  have z2 : w1.heap.size + 1 < w2.heap.size := by have := hb2.size; simp at this; omega
  go_wp2_with fail
  refine (check_ok _ _ _ _ _ _ h).mono ?_
  rintro e w3 ⟨rfl, hb3⟩
  obtain ⟨hc3, hf3⟩ := bcell hb3
  have z3 : w1.heap.size + 1 < w3.heap.size := by have := hb3.size; omega
  go_wp2_with fail
  refine (check_bad _ _ _ _ _ _ hbad).mono ?_
  rintro e w4 ⟨rfl, hb4⟩
  go_wp2_with fail
  refine (wakes_any _).mono ?_
  rintro e w5 ⟨rfl, hb5⟩
  go_wp2_with fail
  go_ret
  have g2 : Below w.heap.size w w2 := (((hb1.alloc hb1.size _).alloc (by simp; omega) _).trans (hb2.mono (by simp; omega)))
  have g3 := g2.trans (hb3.mono g2.size)
  have g4 := g3.trans (hb4.mono g3.size)
  exact ⟨rfl, g4.trans (hb5.mono g4.size)⟩

theorem case6 (a0 a1 a2 a3 a4 a5 : Int) (n : Nat) (hn : (IntKind.u64.wrap a5).tmod 10 = (n : Int)) (hk : n = 6) (w : World) :
    Calls Try.prog 3 #[.int .i64 a0, .int .i64 a1, .int .i64 a2, .int .i64 a3, .int .i64 a4, .int .i64 a5] w fun e w' => e = .returned (.bool true) ∧ Below w.heap.size w w' := by
  have t0 : ((n : Int) == 0) = false := beq_eq_false_iff_ne.2 (by omega)
  have t1 : ((n : Int) == 1) = false := beq_eq_false_iff_ne.2 (by omega)
  have t2 : ((n : Int) == 2) = false := beq_eq_false_iff_ne.2 (by omega)
  have t3 : ((n : Int) == 3) = false := beq_eq_false_iff_ne.2 (by omega)
  have t4 : ((n : Int) == 4) = false := beq_eq_false_iff_ne.2 (by omega)
  have t5 : ((n : Int) == 5) = false := beq_eq_false_iff_ne.2 (by omega)
  have t6 : ((n : Int) == 6) = true := beq_iff_eq.2 (by omega)
  clear hk
  go_enter Try.func3, Try.ntmps3
  go_wp2_with fail
  refine (some_any _ _ _ _ _ _).mono ?_
  rintro e w1 ⟨z, d, s, l, a, h, rfl, hb1⟩
  have hbad : okB z d s 13 a = false := by
    rw [Bool.eq_false_iff]; intro hh; have := okB_bounds hh; omega
  have z1 : w.heap.size ≤ w1.heap.size := hb1.size
  go_wp2_with fail
  refine (Cells_bad _ _ _ _ _ _ hbad).mono ?_
  rintro e w2 ⟨rfl, hb2⟩
  obtain ⟨hc2, hf2⟩ := bcell hb2
  have z2 : w1.heap.size + 1 < w2.heap.size := by have := hb2.size; simp at this; omega
  go_wp2_with fail
  refine (check_ok _ _ _ _ _ _ h).mono ?_
  rintro e w3 ⟨rfl, hb3⟩
  obtain ⟨hc3, hf3⟩ := bcell hb3
  have z3 : w1.heap.size + 1 < w3.heap.size := by have := hb3.size; omega
  go_wp2_with fail
  refine (check_bad _ _ _ _ _ _ hbad).mono ?_
  rintro e w4 ⟨rfl, hb4⟩
  go_wp2_with fail
  refine (wakes_any _).mono ?_
  rintro e w5 ⟨rfl, hb5⟩
  go_wp2_with fail
  go_ret
  have g2 : Below w.heap.size w w2 := (((hb1.alloc hb1.size _).alloc (by simp; omega) _).trans (hb2.mono (by simp; omega)))
  have g3 := g2.trans (hb3.mono g2.size)
  have g4 := g3.trans (hb4.mono g3.size)
  exact ⟨rfl, g4.trans (hb5.mono g4.size)⟩

theorem case7 (a0 a1 a2 a3 a4 a5 : Int) (n : Nat) (hn : (IntKind.u64.wrap a5).tmod 10 = (n : Int)) (hk : n = 7) (w : World) :
    Calls Try.prog 3 #[.int .i64 a0, .int .i64 a1, .int .i64 a2, .int .i64 a3, .int .i64 a4, .int .i64 a5] w fun e w' => e = .returned (.bool true) ∧ Below w.heap.size w w' := by
  have t0 : ((n : Int) == 0) = false := beq_eq_false_iff_ne.2 (by omega)
  have t1 : ((n : Int) == 1) = false := beq_eq_false_iff_ne.2 (by omega)
  have t2 : ((n : Int) == 2) = false := beq_eq_false_iff_ne.2 (by omega)
  have t3 : ((n : Int) == 3) = false := beq_eq_false_iff_ne.2 (by omega)
  have t4 : ((n : Int) == 4) = false := beq_eq_false_iff_ne.2 (by omega)
  have t5 : ((n : Int) == 5) = false := beq_eq_false_iff_ne.2 (by omega)
  have t6 : ((n : Int) == 6) = false := beq_eq_false_iff_ne.2 (by omega)
  have t7 : ((n : Int) == 7) = true := beq_iff_eq.2 (by omega)
  clear hk
  go_enter Try.func3, Try.ntmps3
  go_wp2_with fail
  refine (some_any _ _ _ _ _ _).mono ?_
  rintro e w1 ⟨z, d, s, l, a, h, rfl, hb1⟩
  have hbad : okB z d s 31 a = false := by
    rw [Bool.eq_false_iff]; intro hh; have := okB_bounds hh; omega
  have z1 : w.heap.size ≤ w1.heap.size := hb1.size
  go_wp2_with fail
  refine (Cells_bad _ _ _ _ _ _ hbad).mono ?_
  rintro e w2 ⟨rfl, hb2⟩
  obtain ⟨hc2, hf2⟩ := bcell hb2
  have z2 : w1.heap.size + 1 < w2.heap.size := by have := hb2.size; simp at this; omega
  go_wp2_with fail
  refine (check_ok _ _ _ _ _ _ h).mono ?_
  rintro e w3 ⟨rfl, hb3⟩
  obtain ⟨hc3, hf3⟩ := bcell hb3
  have z3 : w1.heap.size + 1 < w3.heap.size := by have := hb3.size; omega
  go_wp2_with fail
  refine (check_bad _ _ _ _ _ _ hbad).mono ?_
  rintro e w4 ⟨rfl, hb4⟩
  go_wp2_with fail
  refine (wakes_any _).mono ?_
  rintro e w5 ⟨rfl, hb5⟩
  go_wp2_with fail
  go_ret
  have g2 : Below w.heap.size w w2 := (((hb1.alloc hb1.size _).alloc (by simp; omega) _).trans (hb2.mono (by simp; omega)))
  have g3 := g2.trans (hb3.mono g2.size)
  have g4 := g3.trans (hb4.mono g3.size)
  exact ⟨rfl, g4.trans (hb5.mono g4.size)⟩

theorem case8 (a0 a1 a2 a3 a4 a5 : Int) (n : Nat) (hn : (IntKind.u64.wrap a5).tmod 10 = (n : Int)) (hk : n = 8) (w : World) :
    Calls Try.prog 3 #[.int .i64 a0, .int .i64 a1, .int .i64 a2, .int .i64 a3, .int .i64 a4, .int .i64 a5] w fun e w' => e = .returned (.bool true) ∧ Below w.heap.size w w' := by
  have t0 : ((n : Int) == 0) = false := beq_eq_false_iff_ne.2 (by omega)
  have t1 : ((n : Int) == 1) = false := beq_eq_false_iff_ne.2 (by omega)
  have t2 : ((n : Int) == 2) = false := beq_eq_false_iff_ne.2 (by omega)
  have t3 : ((n : Int) == 3) = false := beq_eq_false_iff_ne.2 (by omega)
  have t4 : ((n : Int) == 4) = false := beq_eq_false_iff_ne.2 (by omega)
  have t5 : ((n : Int) == 5) = false := beq_eq_false_iff_ne.2 (by omega)
  have t6 : ((n : Int) == 6) = false := beq_eq_false_iff_ne.2 (by omega)
  have t7 : ((n : Int) == 7) = false := beq_eq_false_iff_ne.2 (by omega)
  have t8 : ((n : Int) == 8) = true := beq_iff_eq.2 (by omega)
  clear hk
  go_enter Try.func3, Try.ntmps3
  go_wp2_with fail
  refine (some_any _ _ _ _ _ _).mono ?_
  rintro e w1 ⟨z, d, s, l, a, h, rfl, hb1⟩
  have hbad : okB z d s l 0 = false := by
    rw [Bool.eq_false_iff]; intro hh; have := okB_bounds hh; omega
  have z1 : w.heap.size ≤ w1.heap.size := hb1.size
  go_wp2_with fail
  refine (Cells_bad _ _ _ _ _ _ hbad).mono ?_
  rintro e w2 ⟨rfl, hb2⟩
  obtain ⟨hc2, hf2⟩ := bcell hb2
  have z2 : w1.heap.size + 1 < w2.heap.size := by have := hb2.size; simp at this; omega
  go_wp2_with fail
  refine (check_ok _ _ _ _ _ _ h).mono ?_
  rintro e w3 ⟨rfl, hb3⟩
  obtain ⟨hc3, hf3⟩ := bcell hb3
  have z3 : w1.heap.size + 1 < w3.heap.size := by have := hb3.size; omega
  go_wp2_with fail
  refine (check_bad _ _ _ _ _ _ hbad).mono ?_
  rintro e w4 ⟨rfl, hb4⟩
  go_wp2_with fail
  refine (wakes_any _).mono ?_
  rintro e w5 ⟨rfl, hb5⟩
  go_wp2_with fail
  go_ret
  have g2 : Below w.heap.size w w2 := (((hb1.alloc hb1.size _).alloc (by simp; omega) _).trans (hb2.mono (by simp; omega)))
  have g3 := g2.trans (hb3.mono g2.size)
  have g4 := g3.trans (hb4.mono g3.size)
  exact ⟨rfl, g4.trans (hb5.mono g4.size)⟩

theorem case9 (a0 a1 a2 a3 a4 a5 : Int) (n : Nat) (hn : (IntKind.u64.wrap a5).tmod 10 = (n : Int)) (hk : n = 9) (w : World) :
    Calls Try.prog 3 #[.int .i64 a0, .int .i64 a1, .int .i64 a2, .int .i64 a3, .int .i64 a4, .int .i64 a5] w fun e w' => e = .returned (.bool true) ∧ Below w.heap.size w w' := by
  have t0 : ((n : Int) == 0) = false := beq_eq_false_iff_ne.2 (by omega)
  have t1 : ((n : Int) == 1) = false := beq_eq_false_iff_ne.2 (by omega)
  have t2 : ((n : Int) == 2) = false := beq_eq_false_iff_ne.2 (by omega)
  have t3 : ((n : Int) == 3) = false := beq_eq_false_iff_ne.2 (by omega)
  have t4 : ((n : Int) == 4) = false := beq_eq_false_iff_ne.2 (by omega)
  have t5 : ((n : Int) == 5) = false := beq_eq_false_iff_ne.2 (by omega)
  have t6 : ((n : Int) == 6) = false := beq_eq_false_iff_ne.2 (by omega)
  have t7 : ((n : Int) == 7) = false := beq_eq_false_iff_ne.2 (by omega)
  have t8 : ((n : Int) == 8) = false := beq_eq_false_iff_ne.2 (by omega)
  clear hk
  go_enter Try.func3, Try.ntmps3
  go_wp2_with fail
  refine (some_any _ _ _ _ _ _).mono ?_
  rintro e w1 ⟨z, d, s, l, a, h, rfl, hb1⟩
  have hbad : okB z d s l 4 = false := by
    rw [Bool.eq_false_iff]; intro hh; have := okB_bounds hh; omega
  have z1 : w.heap.size ≤ w1.heap.size := hb1.size
  go_wp2_with fail
  refine (Cells_bad _ _ _ _ _ _ hbad).mono ?_
  rintro e w2 ⟨rfl, hb2⟩
  obtain ⟨hc2, hf2⟩ := bcell hb2
  have z2 : w1.heap.size + 1 < w2.heap.size := by have := hb2.size; simp at this; omega
  go_wp2_with fail
  refine (check_ok _ _ _ _ _ _ h).mono ?_
  rintro e w3 ⟨rfl, hb3⟩
  obtain ⟨hc3, hf3⟩ := bcell hb3
  have z3 : w1.heap.size + 1 < w3.heap.size := by have := hb3.size; omega
  go_wp2_with fail
  refine (check_bad _ _ _ _ _ _ hbad).mono ?_
  rintro e w4 ⟨rfl, hb4⟩
  go_wp2_with fail
  refine (wakes_any _).mono ?_
  rintro e w5 ⟨rfl, hb5⟩
  go_wp2_with fail
  go_ret
  have g2 : Below w.heap.size w w2 := (((hb1.alloc hb1.size _).alloc (by simp; omega) _).trans (hb2.mono (by simp; omega)))
  have g3 := g2.trans (hb3.mono g2.size)
  have g4 := g3.trans (hb4.mono g3.size)
  exact ⟨rfl, g4.trans (hb5.mono g4.size)⟩

theorem walk (a0 : Int) (a1 : Int) (a2 : Int) (a3 : Int) (a4 : Int) (a5 : Int) (w0 : (Lit.int .i64 a0).wf = true) (w1 : (Lit.int .i64 a1).wf = true) (w2 : (Lit.int .i64 a2).wf = true) (w3 : (Lit.int .i64 a3).wf = true) (w4 : (Lit.int .i64 a4).wf = true) (w5 : (Lit.int .i64 a5).wf = true) (w : World) :
    Calls Try.prog 3 #[.int .i64 a0, .int .i64 a1, .int .i64 a2, .int .i64 a3, .int .i64 a4, .int .i64 a5] w fun e w' => e = .returned (.bool true) ∧ Below w.heap.size w w' := by
  obtain ⟨n, hn, ln⟩ := umod a5 10 (by decide)
  have hc : n = 0 ∨ n = 1 ∨ n = 2 ∨ n = 3 ∨ n = 4 ∨ n = 5 ∨ n = 6 ∨ n = 7 ∨ n = 8 ∨ n = 9 := by omega
  rcases hc with h | h | h | h | h | h | h | h | h | h
  · exact case0 a0 a1 a2 a3 a4 a5 n hn h w
  · exact case1 a0 a1 a2 a3 a4 a5 n hn h w
  · exact case2 a0 a1 a2 a3 a4 a5 n hn h w
  · exact case3 a0 a1 a2 a3 a4 a5 n hn h w
  · exact case4 a0 a1 a2 a3 a4 a5 n hn h w
  · exact case5 a0 a1 a2 a3 a4 a5 n hn h w
  · exact case6 a0 a1 a2 a3 a4 a5 n hn h w
  · exact case7 a0 a1 a2 a3 a4 a5 n hn h w
  · exact case8 a0 a1 a2 a3 a4 a5 n hn h w
  · exact case9 a0 a1 a2 a3 a4 a5 n hn h w

/-! ### THE ROW's STEP: WRITTEN OUT: LEAVE IT -/
set_option maxRecDepth 100000 in
theorem lifted (os : Os) (started : os.Started) (H : Type) (enc : TypeId × Value → H) :
    ReturnsInHanded {} Try.checked os 3 .any (Rows.geomBentSpec.pre6 enc Try.prog Try.f3 Rows.geomBentRow.domain false) (Rows.geomBentSpec.post enc Try.prog Try.f3 false true false false) := by
  refine returnsInHanded_of_change (C := Try.checked) own started (by kernel_rfl) Try.func3
    (ChangeSpec.witness6 (enc := enc) (C := Try.checked) false ⟨#[], #[.int .i64 0, .int .i64 0, .int .i64 0, .int .i64 0, .int .i64 0, .int .i64 0], []⟩ 8 (by kernel_rfl) (by kernel_rfl) (by kernel_rfl) (by kernel_rfl)) ?_
  intro W base args ds gs before hval0 hW hcnd _
  have hval : ∀ (j : Nat) t v, Try.f3.params[j]? = some t → args[j]? = some v → Value.okWide Try.prog W .any base t v := hval0
  have hW' := hW
  obtain ⟨p, q, hA0, hV, rfl, hfz, hnd⟩ := hW
  have hA : DataW.TrodAll enc Try.prog W 0 (fun _ => true) true Try.f3.params.toList args.toList ds p := hA0
  rw [Try.params3] at hA hval
  obtain ⟨v0, vs0, d0, ds0, p0, q0, hargs, rfl, rfl, h0, r0⟩ := trodAll_cons hA
  obtain ⟨v1, vs1, d1, ds1, p1, q1, rfl, rfl, rfl, h1, r1⟩ := trodAll_cons r0
  obtain ⟨v2, vs2, d2, ds2, p2, q2, rfl, rfl, rfl, h2, r2⟩ := trodAll_cons r1
  obtain ⟨v3, vs3, d3, ds3, p3, q3, rfl, rfl, rfl, h3, r3⟩ := trodAll_cons r2
  obtain ⟨v4, vs4, d4, ds4, p4, q4, rfl, rfl, rfl, h4, r4⟩ := trodAll_cons r3
  obtain ⟨v5, vs5, d5, ds5, p5, q5, rfl, rfl, rfl, h5, r5⟩ := trodAll_cons r4
  obtain ⟨rfl, rfl, rfl⟩ := trodAll_nil r5
  obtain rfl : args = #[v0, v1, v2, v3, v4, v5] := by cases args; simp_all
  obtain ⟨rfl, rfl⟩ := trodVars_none hV
  obtain ⟨a0, rfl, rfl, rfl, w0⟩ := open_int Try.underlying3 (hval 0 3 v0 rfl rfl) h0
  obtain ⟨a1, rfl, rfl, rfl, w1⟩ := open_int Try.underlying3 (hval 1 3 v1 rfl rfl) h1
  obtain ⟨a2, rfl, rfl, rfl, w2⟩ := open_int Try.underlying3 (hval 2 3 v2 rfl rfl) h2
  obtain ⟨a3, rfl, rfl, rfl, w3⟩ := open_int Try.underlying3 (hval 3 3 v3 rfl rfl) h3
  obtain ⟨a4, rfl, rfl, rfl, w4⟩ := open_int Try.underlying3 (hval 4 3 v4 rfl rfl) h4
  obtain ⟨a5, rfl, rfl, rfl, w5⟩ := open_int Try.underlying3 (hval 5 3 v5 rfl rfl) h5
  clear hA0 hval0
  simp only [List.append_nil] at hW'
  refine (walk a0 a1 a2 a3 a4 a5 w0 w1 w2 w3 w4 w5 W).mono fun e W' ⟨he, bel⟩ => ?_
  subst he
  exact ⟨_, rfl, _, _, _, [], [], [], hW', trodAll_mk1 (shut_bool Try.underlying4 _), (trodAll_cons_mk (shut_int Try.underlying3 w0) (trodAll_cons_mk (shut_int Try.underlying3 w1) (trodAll_cons_mk (shut_int Try.underlying3 w2) (trodAll_cons_mk (shut_int Try.underlying3 w3) (trodAll_cons_mk (shut_int Try.underlying3 w4) (trodAll_cons_mk (shut_int Try.underlying3 w5) trodAll_mk0)))))), rfl, bel.frame _, fun h => by cases h⟩

theorem over : Rows.geomBentRow.holds Try.pinned (OpenSpec.ofChange Rows.geomBentSpec) :=
  OpenClaim.holds_of_wide 3 Try.f3 rfl rfl rfl rfl rfl rfl rfl ⟨rfl, rfl, rfl, rfl, rfl⟩ rfl rfl rfl rfl rfl (by kernel_rfl) Try.func3 (by kernel_rfl)
    (of_decide_eq_true (by kernel_rfl)) (by unfold Func.isWrapper; first | (rw [if_pos (by decide +kernel)]; kernel_rfl) | (rw [if_neg (by decide +kernel)]; exact ⟨rfl, rfl⟩))
    (fun os started H enc _ => lifted os started H enc)

/-- ████ THE STATEMENT ████ -/
theorem proved : Rows.GeomBentSaid :=
  over
#print axioms proved
end Go.Proofs.Ytigibbekbncpiaa.geomBent

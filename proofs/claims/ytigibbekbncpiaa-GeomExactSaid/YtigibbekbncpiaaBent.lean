/-
  GeomExact at a bent geometry.
-/
import Derived.Test.YtigibbekbncpiaaWalks6
namespace Go.Proofs.Ytigibbekbncpiaa
open Go.ChangeShapes Go.WideShapes Go.ChangeAt Go.RowKit
set_option linter.unusedVariables false
theorem log_bad (z d s l a c k : Int) (w : World) (h : okB z d s l a = false) :
    Calls Try.prog 15 #[.agg #[.int .i64 z, .int .i64 d, .int .i64 s, .int .i64 l, .int .i64 a], .int .i64 c, .int .i64 k] w fun e w' => e = .returned (.tuple #[.int .i64 0, .int .i64 1]) ∧ Below w.heap.size w w' := by
  cases hc : inB c 0 1 with
  | true => exact Log_bad1 z d s l a c k w h hc
  | false => exact Log_bad2 z d s l a c k w h hc
theorem table_bad (z d s l a c k : Int) (w : World) (h : okB z d s l a = false) :
    Calls Try.prog 16 #[.agg #[.int .i64 z, .int .i64 d, .int .i64 s, .int .i64 l, .int .i64 a], .int .i64 c, .int .i64 k] w fun e w' => e = .returned (.tuple #[.int .i64 0, .int .i64 1]) ∧ Below w.heap.size w w' := by
  cases hc : inB c 0 (IntKind.i64.wrap (z - 1)) with
  | true => exact Table_bad1 z d s l a c k w h hc
  | false => exact Table_bad2 z d s l a c k w h hc
theorem slot_bad (z d s l a c k : Int) (w : World) (h : okB z d s l a = false) :
    Calls Try.prog 17 #[.agg #[.int .i64 z, .int .i64 d, .int .i64 s, .int .i64 l, .int .i64 a], .int .i64 c, .int .i64 k] w fun e w' => e = .returned (.tuple #[.int .i64 0, .int .i64 1]) ∧ Below w.heap.size w w' := by
  cases hc : inB c 0 (IntKind.i64.wrap (z - 1)) with
  | true => exact Slot_bad1 z d s l a c k w h hc
  | false => exact Slot_bad2 z d s l a c k w h hc
set_option maxRecDepth 100000 in
set_option maxHeartbeats 3200000 in
theorem bent (z d s l a x y c : Int) (w : World) (h : okB z d s l a = false) :
    Calls Try.prog 8 #[.agg #[.int .i64 z, .int .i64 d, .int .i64 s, .int .i64 l, .int .i64 a], .int .i64 x, .int .i64 y, .int .i64 c] w fun e w' => e = .returned (.bool true) ∧ Below w.heap.size w w' := by
  have G0 := Lib.hid (BoxS.start w (.int .i64 z) (.int .i64 d) (.int .i64 s) (.int .i64 l) (.int .i64 a) 23)
  go_enter Try.func8, Try.ntmps8
  go_wp2_with fail
  refine (rgeo_bad _ _ _ _ _ _ h).mono ?_
  rintro e w1 ⟨rfl, hb1⟩
  have G1 := Lib.hid (G0.out.step hb1)
  clear hb1 G0
  have k0 := G1.out.2.1
  have k1 := G1.out.2.2.1
  have k2 := G1.out.2.2.2.1
  have k3 := G1.out.2.2.2.2.1
  have k4 := G1.out.2.2.2.2.2
  go_wp2_with fail
  refine (check_bad _ _ _ _ _ _ h).mono ?_
  rintro e w2 ⟨rfl, hb2⟩
  have G2 := Lib.hid (G1.out.step hb2)
  clear hb2 G1 k0 k1 k2 k3 k4
  have k0 := G2.out.2.1
  have k1 := G2.out.2.2.1
  have k2 := G2.out.2.2.2.1
  have k3 := G2.out.2.2.2.2.1
  have k4 := G2.out.2.2.2.2.2
  go_wp2_with fail
  refine (check_bad _ _ _ _ _ _ h).mono ?_
  rintro e w3 ⟨rfl, hb3⟩
  have G3 := Lib.hid (G2.out.step hb3)
  clear hb3 G2 k0 k1 k2 k3 k4
  have k0 := G3.out.2.1
  have k1 := G3.out.2.2.1
  have k2 := G3.out.2.2.2.1
  have k3 := G3.out.2.2.2.2.1
  have k4 := G3.out.2.2.2.2.2
  go_wp2_with fail
  refine (Cells_bad _ _ _ _ _ _ h).mono ?_
  rintro e w4 ⟨rfl, hb4⟩
  have G4 := Lib.hid (G3.out.step hb4)
  clear hb4 G3 k0 k1 k2 k3 k4
  have k0 := G4.out.2.1
  have k1 := G4.out.2.2.1
  have k2 := G4.out.2.2.2.1
  have k3 := G4.out.2.2.2.2.1
  have k4 := G4.out.2.2.2.2.2
  go_wp2_with fail
  refine (Blocks_bad _ _ _ _ _ _ h).mono ?_
  rintro e w5 ⟨rfl, hb5⟩
  have G5 := Lib.hid (G4.out.step hb5)
  clear hb5 G4 k0 k1 k2 k3 k4
  have k0 := G5.out.2.1
  have k1 := G5.out.2.2.1
  have k2 := G5.out.2.2.2.1
  have k3 := G5.out.2.2.2.2.1
  have k4 := G5.out.2.2.2.2.2
  go_wp2_with fail
  refine (Anchor_bad _ _ _ _ _ _ _ h).mono ?_
  rintro e w6 ⟨rfl, hb6⟩
  have G6 := Lib.hid (G5.out.step hb6)
  clear hb6 G5 k0 k1 k2 k3 k4
  have k0 := G6.out.2.1
  have k1 := G6.out.2.2.1
  have k2 := G6.out.2.2.2.1
  have k3 := G6.out.2.2.2.2.1
  have k4 := G6.out.2.2.2.2.2
  go_wp2_with fail
  refine (log_bad _ _ _ _ _ _ _ _ h).mono ?_
  rintro e w7 ⟨rfl, hb7⟩
  have G7 := Lib.hid (G6.out.step hb7)
  clear hb7 G6 k0 k1 k2 k3 k4
  have k0 := G7.out.2.1
  have k1 := G7.out.2.2.1
  have k2 := G7.out.2.2.2.1
  have k3 := G7.out.2.2.2.2.1
  have k4 := G7.out.2.2.2.2.2
  go_wp2_with fail
  refine (table_bad _ _ _ _ _ _ _ _ h).mono ?_
  rintro e w8 ⟨rfl, hb8⟩
  have G8 := Lib.hid (G7.out.step hb8)
  clear hb8 G7 k0 k1 k2 k3 k4
  have k0 := G8.out.2.1
  have k1 := G8.out.2.2.1
  have k2 := G8.out.2.2.2.1
  have k3 := G8.out.2.2.2.2.1
  have k4 := G8.out.2.2.2.2.2
  go_wp2_with fail
  refine (slot_bad _ _ _ _ _ _ _ _ h).mono ?_
  rintro e w9 ⟨rfl, hb9⟩
  have G9 := Lib.hid (G8.out.step hb9)
  clear hb9 G8 k0 k1 k2 k3 k4
  have k0 := G9.out.2.1
  have k1 := G9.out.2.2.1
  have k2 := G9.out.2.2.2.1
  have k3 := G9.out.2.2.2.2.1
  have k4 := G9.out.2.2.2.2.2
  go_wp2_with fail
  refine (Set_bad _ _ _ _ _ _ _ h).mono ?_
  rintro e w10 ⟨rfl, hb10⟩
  have G10 := Lib.hid (G9.out.step hb10)
  clear hb10 G9 k0 k1 k2 k3 k4
  have k0 := G10.out.2.1
  have k1 := G10.out.2.2.1
  have k2 := G10.out.2.2.2.1
  have k3 := G10.out.2.2.2.2.1
  have k4 := G10.out.2.2.2.2.2
  go_wp2_with fail
  refine (Sets_bad _ _ _ _ _ _ h).mono ?_
  rintro e w11 ⟨rfl, hb11⟩
  have G11 := Lib.hid (G10.out.step hb11)
  clear hb11 G10 k0 k1 k2 k3 k4
  have k0 := G11.out.2.1
  have k1 := G11.out.2.2.1
  have k2 := G11.out.2.2.2.1
  have k3 := G11.out.2.2.2.2.1
  have k4 := G11.out.2.2.2.2.2
  go_wp2_with fail
  refine (Split_bad _ _ _ _ _ _ _ h).mono ?_
  rintro e w12 ⟨rfl, hb12⟩
  have G12 := Lib.hid (G11.out.step hb12)
  clear hb12 G11 k0 k1 k2 k3 k4
  have k0 := G12.out.2.1
  have k1 := G12.out.2.2.1
  have k2 := G12.out.2.2.2.1
  have k3 := G12.out.2.2.2.2.1
  have k4 := G12.out.2.2.2.2.2
  go_wp2_with fail
  refine (wakes_any _).mono ?_
  rintro e w13 ⟨rfl, hb13⟩
  go_wp2_with fail
  go_ret
  exact ⟨rfl, G12.out.1.trans (hb13.mono G12.out.1.size)⟩
end Go.Proofs.Ytigibbekbncpiaa

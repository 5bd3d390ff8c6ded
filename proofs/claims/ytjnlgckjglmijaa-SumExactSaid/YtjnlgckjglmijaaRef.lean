/-
  The contracts of the page's own sums (the references).
-/
import Derived.Test.YtjnlgckjglmijaaMade
namespace Go.Proofs.Ytjnlgckjglmijaa
open Go.ChangeShapes Go.WideShapes Go.ChangeAt Go.RowKit
set_option linter.unusedVariables false
theorem val_i64 {a b : Int} (h : a = b) : Value.int .i64 a = Value.int .i64 b := by rw [h]
theorem rdown_any (r : Nat) (w : World) (hr : r < 4294967296) :
    Calls Try.prog 23 #[.int .i64 (r : Int)] w fun e w' => e = .returned (.int .i64 (Crc.step r : Nat)) ∧ w = w' := by
  have hx := xor_i64 (r / 2) Crc.P (by omega) Crc.P_lt
  have hh : ((r / 2 : Nat) : Int) = (r : Int) / 2 := by omega
  have hP : ((Crc.P : Nat) : Int) = 2197175160 := rfl
  rw [hh, hP] at hx
  have hs : Crc.step r = if r % 2 = 1 then r / 2 ^^^ Crc.P else r / 2 := rfl
  by_cases h : r % 2 = 1
  · have h' : ((r : Int) % 2 == 1) = true := beq_iff_eq.2 (by omega)
    rw [if_pos h] at hs
    rw [hs]
    clear hs
    go_enter Try.func23, Try.ntmps23
    go_wp2
    go_ret
    exact ⟨rfl, rfl⟩
  · have h' : ((r : Int) % 2 == 1) = false := beq_eq_false_iff_ne.2 (by omega)
    rw [if_neg h] at hs
    rw [hs]
    clear hs hx
    go_enter Try.func23, Try.ntmps23
    go_wp2
    go_ret
    exact ⟨ret_i64 hh.symm, rfl⟩
theorem reight_any (r : Nat) (w : World) (hr : r < 4294967296) :
    Calls Try.prog 14 #[.int .i64 (r : Int)] w fun e w' => e = .returned (.int .i64 (Crc.eight r : Nat)) ∧ w = w' := by
  go_enter Try.func14, Try.ntmps14
  go_wp2
  go_loop [0, 3] (fun t i => ∃ k : Nat, k ≤ 8 ∧ i = .int .i64 k ∧ t = .int .i64 (Crc.steps k r : Nat)) (fun _ i => 8 - (intOf i).toNat)
  case atStart => exact ⟨0, by omega, rfl, rfl⟩
  case round =>
    obtain ⟨k, hk, rfl, rfl⟩ := hrel
    have hlt := Crc.steps_lt k hr
    have hs := Lib.hid (Crc.steps_succ k r)
    have h8e := Lib.hid (Crc.eight_eq r)
    by_cases h8 : k < 8
    · go_wp2_with (go_at_call 23; refine (rdown_any _ _ hlt).mono ?_; rintro e w' ⟨rfl, rfl⟩)
      go_round
      case rel => exact ⟨k + 1, by omega, by go_num, val_i64 (by rw [hs.out])⟩
      case measure => simp [intOf]; omega
    · go_wp2
      go_ret
      obtain rfl : k = 8 := by omega
      exact ⟨ret_i64 (by rw [h8e.out]), rfl⟩
theorem rmore_any (m : Nat) (a : Option Addr) (n cap : Nat) (l : List Nat) (w : World) (hm : m < 4294967296) (hl : Row w a n l) (hn : n ≤ maxLen) :
    Calls Try.prog 13 #[.int .i64 (m : Int), .slice a n cap] w fun e w' => e = .returned (.int .i64 ((Crc.on (m ^^^ Crc.ones) l ^^^ Crc.ones : Nat) : Int)) ∧ w = w' := by
  obtain ⟨hlen, hb, hcell⟩ := hl
  unfold maxLen at hn
  have HL := Lib.hid hlen
  clear hlen
  have hq0 := Lib.hid (Crc.not_eq hm)
  have hq1 := Crc.xor_lt hm Crc.ones_lt
  generalize m ^^^ Crc.ones = q at *
  have hr := Crc.on_lt l hq1 hb
  have hfin := Lib.hid (Crc.not_eq hr)
  generalize hT : Crc.on q l ^^^ Crc.ones = T at *
  clear hT
  have e1 : (4294967295 : Int) - (m : Int) = (q : Int) := by have := hq0.out; omega
  go_enter Try.func13, Try.ntmps13
  go_wp2
  go_loop [5, 6] (fun t i => ∃ k : Nat, k ≤ n ∧ i = .int .i64 k ∧ t = .int .i64 (Crc.on q (l.take k) : Nat)) (fun _ i => n - (intOf i).toNat)
  case atStart => exact ⟨0, by omega, rfl, val_i64 (by first | rfl | exact e1)⟩
  case round =>
    obtain ⟨k, hk, rfl, rfl⟩ := hrel
    by_cases h8 : k < n
    · obtain ⟨b, o, rfl, hc⟩ := hcell (by omega)
      have hck := hc k h8
      have hx := on_take_lt hb hq1 k
      have hy := getD_lt hb k
      have hnext := Lib.hid (on_next (r := q) (show k < l.length by rw [HL.out]; exact h8))
      clear hc hcell e1
      generalize l.getD k 0 = y at *
      generalize Crc.on q (l.take k) = x at *
      have hxy := xor_i64 x y hx (by omega)
      have hdl : x ^^^ y < 4294967296 := Crc.xor_lt hx (by omega)
      have hw64 : wrap64 (y : Int) = y := IntWalk.wrap64_in _ ⟨by omega, by omega⟩
      generalize x ^^^ y = z at *
      go_wp2_with (go_at_call 14; refine (reight_any _ _ hdl).mono ?_; rintro e w' ⟨rfl, rfl⟩)
      go_round
      case rel => exact ⟨k + 1, by omega, by go_num, val_i64 (by rw [hnext.out])⟩
      case measure => simp [intOf]; omega
    · obtain rfl : k = n := by omega
      have htk : l.take k = l := List.take_of_length_le (by rw [HL.out]; exact Nat.le_refl _)
      have HT := Lib.hid htk
      clear htk e1
      have hx := on_take_lt hb hq1 k
      go_wp2
      go_ret
      exact ⟨ret_i64 (by rw [HT.out]; have := hfin.out; omega), rfl⟩
end Go.Proofs.Ytjnlgckjglmijaa

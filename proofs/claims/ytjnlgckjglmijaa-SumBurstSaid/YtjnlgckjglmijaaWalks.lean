/-
  The contracts of package sum's functions.
-/
import Derived.Test.YtjnlgckjglmijaaCrc
import Derived.WalkKit
import Derived.ProofKit
import Derived.WalkSpells
import Derived.WalkLawsBesides
import Derived.Below
import Derived.BigQuiet
import Derived.Lib.Hide
import Derived.IntWalk
import Derived.LoopTactic
import Derived.Laws.BitsAllLaws
namespace Go.Proofs.Ytjnlgckjglmijaa
open Go.ChangeShapes Go.WideShapes Go.ChangeAt Go.RowKit
set_option linter.unusedVariables false

theorem and_one (x : Nat) (h : x < 4294967296) : bits .and .u32 (x : Int) 1 = ((x % 2 : Nat) : Int) := by
  rw [show (1 : Int) = ((1 : Nat) : Int) from rfl, u32_and_nat x 1 h (by decide), nat_mask1]
theorem odd_of {x : Nat} (hx : x < 4294967296) (h : (bits .and .u32 (x : Int) 1 == 1) = true) : x % 2 = 1 := by
  rw [and_one x hx, beq_iff_eq] at h; omega
theorem even_of {x : Nat} (hx : x < 4294967296) (h : (bits .and .u32 (x : Int) 1 == 1) = false) : x % 2 = 0 := by
  rw [and_one x hx, beq_eq_false_iff_ne] at h; omega
theorem half_int (x : Nat) : (x : Int) / 2 = ((x / 2 : Nat) : Int) := by omega
theorem step_odd {x : Nat} (hx : x < 4294967296) (h : x % 2 = 1) : bits .xor .u32 ((x : Int) / 2) 2197175160 = (Crc.step x : Nat) := by
  rw [half_int, show (2197175160 : Int) = ((Crc.P : Nat) : Int) from rfl, u32_xor_nat _ _ (by omega) Crc.P_lt, Crc.step, if_pos h]
theorem step_even {x : Nat} (h : x % 2 = 0) : (x : Int) / 2 = (Crc.step x : Nat) := by
  rw [half_int, Crc.step, if_neg (by omega)]
theorem val_u32 {a b : Int} (h : a = b) : Value.int .u32 a = Value.int .u32 b := by rw [h]
theorem ret_u32 {a b : Int} (h : a = b) : Ending.returned (Value.int .u32 a) = Ending.returned (Value.int .u32 b) := by rw [h]
theorem ret_i64 {a b : Int} (h : a = b) : Ending.returned (Value.int .i64 a) = Ending.returned (Value.int .i64 b) := by rw [h]
theorem down_any (r : Nat) (w : World) (hr : r < 4294967296) :
    Calls Try.prog 22 #[.int .u32 r] w fun e w' => e = .returned (.int .u32 (Crc.eight r : Nat)) ∧ w = w' := by
  go_enter Try.func22, Try.ntmps22
  go_wp2
  go_loop [0, 3, 4] (fun t u i => ∃ k : Nat, k ≤ 8 ∧ i = .int .i64 k ∧ t = .int .u32 (Crc.steps k r : Nat)) (fun _ _ i => 8 - (intOf i).toNat)
  case atStart => exact ⟨0, by omega, rfl, rfl⟩
  case round =>
    obtain ⟨k, hk, rfl, rfl⟩ := hrel
    have hlt := Crc.steps_lt k hr
    have hs := Lib.hid (Crc.steps_succ k r)
    have h8e := Lib.hid (Crc.eight_eq r)
    by_cases h8 : k < 8
    · go_wp2
      · go_round
        case rel => exact ⟨k + 1, by omega, by go_num, val_u32 (by rw [hs.out]; exact step_odd hlt (odd_of hlt ‹_›))⟩
        case measure => simp [intOf]; omega
      · go_round
        case rel => exact ⟨k + 1, by omega, by go_num, val_u32 (by rw [hs.out]; exact step_even (even_of hlt ‹_›))⟩
        case measure => simp [intOf]; omega
    · go_wp2
      go_ret
      obtain rfl : k = 8 := by omega
      exact ⟨ret_u32 (by rw [h8e.out]), rfl⟩
/-- a slice of bytes that reads as a list of numbers -/
def Row (w : World) (a : Option Addr) (n : Nat) (l : List Nat) : Prop :=
  l.length = n ∧ (∀ c ∈ l, c < 256) ∧ (0 < n → ∃ b o, a = some ⟨b, o, none⟩ ∧ ∀ j, j < n → w.cell? ⟨b, o + j, none⟩ = some (.int .u8 ((l.getD j 0 : Nat) : Int)))
theorem getD_lt {l : List Nat} (h : ∀ c ∈ l, c < 256) (j : Nat) : l.getD j 0 < 256 := by
  rw [List.getD_eq_getElem?_getD]
  rcases Nat.lt_or_ge j l.length with hj | hj
  · rw [List.getElem?_eq_getElem hj]; exact h _ (List.getElem_mem hj)
  · rw [List.getElem?_eq_none hj]; decide
theorem take_next {l : List Nat} {k : Nat} (h : k < l.length) : l.take (k + 1) = l.take k ++ [l.getD k 0] := by
  rw [List.take_succ_eq_append_getElem h, List.getD_eq_getElem?_getD, List.getElem?_eq_getElem h]; rfl
theorem on_next {l : List Nat} {k : Nat} (h : k < l.length) (r : Nat) : Crc.on r (l.take (k + 1)) = Crc.eight (Crc.on r (l.take k) ^^^ l.getD k 0) := by
  rw [take_next h, Crc.on_append]; rfl
theorem on_take_lt {l : List Nat} (h : ∀ c ∈ l, c < 256) {r : Nat} (hr : r < 4294967296) (k : Nat) : Crc.on r (l.take k) < 4294967296 :=
  Crc.on_lt _ hr (fun c hc => h c (List.mem_of_mem_take hc))
theorem low_byte {x c : Nat} (hx : x < 4294967296) (hc : c < 256) : bits .xor .u32 (bits .and .u32 (x : Int) 255) (c : Int) = ((x % 256 ^^^ c : Nat) : Int) := by
  rw [show (255 : Int) = ((255 : Nat) : Int) from rfl, u32_and_nat x 255 hx (by decide), nat_mask8, u32_xor_nat _ _ (by omega) (by omega)]
theorem round_on {x c : Nat} (hx : x < 4294967296) (hc : c < 256) : bits .xor .u32 ((x : Int) / 256) ((Crc.eight (x % 256 ^^^ c) : Nat) : Int) = (Crc.eight (x ^^^ c) : Nat) := by
  have h1 : x % 256 ^^^ c < 4294967296 := Crc.xor_lt (by omega) (by omega)
  rw [show (x : Int) / 256 = ((x / 256 : Nat) : Int) from by omega, u32_xor_nat _ _ (by omega) (Crc.eight_lt h1), Crc.eight_split x c hc]
theorem on_any (r : Nat) (a : Option Addr) (n cap : Nat) (l : List Nat) (w : World) (hr : r < 4294967296) (hl : Row w a n l) (hn : n ≤ maxLen) :
    Calls Try.prog 21 #[.int .u32 r, .slice a n cap] w fun e w' => e = .returned (.int .u32 (Crc.on r l : Nat)) ∧ w = w' := by
  obtain ⟨hlen, hb, hcell⟩ := hl
  unfold maxLen at hn
  have HL := Lib.hid hlen
  clear hlen
  go_enter Try.func21, Try.ntmps21
  go_wp2
  go_loop [0, 6, 9] (fun t u i => ∃ k : Nat, k ≤ n ∧ i = .int .i64 k ∧ t = .int .u32 (Crc.on r (l.take k) : Nat)) (fun _ _ i => n - (intOf i).toNat)
  case atStart => exact ⟨0, by omega, rfl, rfl⟩
  case round =>
    obtain ⟨k, hk, rfl, rfl⟩ := hrel
    by_cases h8 : k < n
    · obtain ⟨b, o, rfl, hc⟩ := hcell (by omega)
      have hck := hc k h8
      have hx := on_take_lt hb hr k
      have hy := getD_lt hb k
      have hnext := Lib.hid (on_next (r := r) (show k < l.length by rw [HL.out]; exact h8))
      clear hc hcell
      generalize l.getD k 0 = y at *
      generalize Crc.on r (l.take k) = x at *
      have hlow := low_byte hx hy
      have hrd := Lib.hid (round_on hx hy)
      have hdl : x % 256 ^^^ y < 4294967296 := Crc.xor_lt (by omega) (by omega)
      have hm : (y : Int) % 4294967296 = y := by omega
      go_wp2_with (go_at_call 22; refine (down_any _ _ hdl).mono ?_; rintro e w' ⟨rfl, rfl⟩)
      go_round
      case rel => exact ⟨k + 1, by omega, by go_num, val_u32 (by rw [hnext.out, hrd.out])⟩
      case measure => simp [intOf]; omega
    · go_wp2
      go_ret
      obtain rfl : k = n := by omega
      exact ⟨ret_u32 (by rw [List.take_of_length_le (by rw [HL.out]; exact Nat.le_refl _)]), rfl⟩
end Go.Proofs.Ytjnlgckjglmijaa

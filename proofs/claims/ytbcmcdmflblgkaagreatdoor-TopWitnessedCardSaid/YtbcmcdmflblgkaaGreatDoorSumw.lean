/-
  CRC-32C on lists of numbers: what the register does, that it is linear, and that it takes apart what differs in few bits. No Go in sight.
  The contracts of package sum's functions.
-/
import Derived.Below
import Derived.Test.YtbcmcdmflblgkaaGreatDoorProg
import Derived.WalkKit
import Derived.ProofKit
import Derived.WalkSpells
import Derived.WalkLawsBesides
import Derived.BigQuiet
import Derived.Lib.Hide
import Derived.IntWalk
import Derived.LoopTactic
import Derived.Laws.BitsAllLaws
namespace Go.Proofs.YtbcmcdmflblgkaaGreatDoor
namespace Crc

/-- the generator's lower 32 bits, mirrored -/
def P : Nat := 0x82f63b78
def step (r : Nat) : Nat := if r % 2 = 1 then r / 2 ^^^ P else r / 2
def steps : Nat → Nat → Nat
  | 0, r => r
  | n + 1, r => steps n (step r)
def eight (r : Nat) : Nat := steps 8 r
def on (r : Nat) : List Nat → Nat
  | [] => r
  | c :: cs => on (eight (r ^^^ c)) cs
def ones : Nat := 4294967295
def sum (l : List Nat) : Nat := on ones l ^^^ ones
def text : List Nat → Nat
  | [] => 0
  | c :: cs => c ^^^ (256 * text cs)

theorem xor_half (a b : Nat) : (a ^^^ b) / 2 = a / 2 ^^^ b / 2 := by
  apply Nat.eq_of_testBit_eq; intro i; simp [Nat.testBit_div_two]
theorem xor_odd (a b : Nat) : (a ^^^ b) % 2 = (a % 2 + b % 2) % 2 := by
  have h := Nat.xor_mod_two_pow (a := a) (b := b) (n := 1)
  simp only [Nat.pow_one] at h
  rw [h]
  rcases Nat.mod_two_eq_zero_or_one a with ha | ha <;> rcases Nat.mod_two_eq_zero_or_one b with hb | hb <;> rw [ha, hb] <;> rfl
theorem xor_swap (a b c d : Nat) : (a ^^^ b) ^^^ (c ^^^ d) = (a ^^^ c) ^^^ (b ^^^ d) := by
  rw [Nat.xor_assoc, Nat.xor_assoc, ← Nat.xor_assoc b c d, Nat.xor_comm b c, Nat.xor_assoc c b d]
theorem step_xor (a b : Nat) : step (a ^^^ b) = step a ^^^ step b := by
  unfold step
  rw [xor_half, xor_odd]
  rcases Nat.mod_two_eq_zero_or_one a with ha | ha <;> rcases Nat.mod_two_eq_zero_or_one b with hb | hb <;> rw [ha, hb] <;> simp
  · rw [Nat.xor_assoc]
  · rw [Nat.xor_assoc, Nat.xor_assoc, Nat.xor_comm P (b / 2)]
  · rw [xor_swap]; simp
theorem steps_xor (n : Nat) : ∀ a b, steps n (a ^^^ b) = steps n a ^^^ steps n b := by
  induction n with
  | zero => intro a b; rfl
  | succ n ih => intro a b; simp only [steps, step_xor, ih]
theorem step_double (a : Nat) : step (2 * a) = a := by
  unfold step; rw [if_neg (by omega)]; omega
theorem steps_add (m n r : Nat) : steps (m + n) r = steps n (steps m r) := by
  induction m generalizing r with
  | zero => simp [steps]
  | succ m ih => rw [Nat.succ_add]; simp only [steps]; exact ih _
theorem steps_shift (n a : Nat) : steps n (2 ^ n * a) = a := by
  induction n generalizing a with
  | zero => simp [steps]
  | succ n ih => rw [Nat.pow_succ, Nat.mul_comm (2 ^ n) 2, Nat.mul_assoc]; simp only [steps, step_double]; exact ih a
theorem eight_shift (a : Nat) : eight (256 * a) = a := steps_shift 8 a
theorem on_cons (r c : Nat) (cs : List Nat) : on r (c :: cs) = on (eight (r ^^^ c)) cs := rfl
theorem text_cons (c : Nat) (cs : List Nat) : text (c :: cs) = c ^^^ (256 * text cs) := rfl
theorem eight_eq (r : Nat) : eight r = steps 8 r := rfl
theorem on_text (l : List Nat) : ∀ r, on r l = steps (8 * l.length) (r ^^^ text l) := by
  induction l with
  | nil => intro r; exact (Nat.xor_zero r).symm
  | cons c cs ih =>
    intro r
    have e : eight (256 * text cs) = text cs := eight_shift _
    have e1 : steps (8 * (c :: cs).length) (r ^^^ text (c :: cs)) = steps (8 * cs.length) (eight (r ^^^ text (c :: cs))) := by
      have h := steps_add 8 (8 * cs.length) (r ^^^ text (c :: cs))
      have hl : 8 + 8 * cs.length = 8 * (c :: cs).length := by rw [List.length_cons]; omega
      rw [hl] at h
      exact h
    have e2 : eight (r ^^^ text (c :: cs)) = eight (r ^^^ c) ^^^ text cs := by
      have h := steps_xor 8 (r ^^^ c) (256 * text cs)
      rw [text_cons, ← Nat.xor_assoc]
      refine h.trans ?_
      exact congrArg (fun x => eight (r ^^^ c) ^^^ x) e
    rw [e1, e2, on_cons, ih]
theorem two32 : (2 : Nat) ^ 32 = 4294967296 := by decide
theorem xor_lt {a b : Nat} (ha : a < 4294967296) (hb : b < 4294967296) : a ^^^ b < 4294967296 := by
  rw [← two32] at ha hb ⊢; exact Nat.xor_lt_two_pow ha hb
theorem P_lt : P < 4294967296 := by decide
theorem ones_lt : ones < 4294967296 := by decide
theorem step_lt {r : Nat} (h : r < 4294967296) : step r < 4294967296 := by
  unfold step
  split
  · exact xor_lt (by omega) P_lt
  · omega
theorem steps_lt (n : Nat) : ∀ {r : Nat}, r < 4294967296 → steps n r < 4294967296 := by
  induction n with
  | zero => intro r h; exact h
  | succ n ih => intro r h; exact ih (step_lt h)
theorem step_pos {r : Nat} (h : r < 4294967296) (h0 : r ≠ 0) : step r ≠ 0 := by
  unfold step
  split
  · intro e
    have hp : P = r / 2 := by
      have := congrArg (· ^^^ (r / 2)) e
      simp only [Nat.zero_xor] at this
      rw [Nat.xor_comm (r/2) P, Nat.xor_assoc] at this
      simpa using this
    have : P = 2197175160 := rfl
    omega
  · omega
theorem steps_pos (n : Nat) : ∀ {r : Nat}, r < 4294967296 → r ≠ 0 → steps n r ≠ 0 := by
  induction n with
  | zero => intro r _ h; exact h
  | succ n ih => intro r h h0; exact ih (step_lt h) (step_pos h h0)
theorem xor_eq_zero {a b : Nat} (h : a ^^^ b = 0) : a = b := by
  have := congrArg (· ^^^ b) h
  simp only [Nat.zero_xor, Nat.xor_assoc, Nat.xor_self, Nat.xor_zero] at this
  exact this
theorem steps_inj (n : Nat) {a b : Nat} (ha : a < 4294967296) (hb : b < 4294967296) (h : steps n a = steps n b) : a = b := by
  have e : steps n (a ^^^ b) = 0 := by rw [steps_xor, h, Nat.xor_self]
  by_cases h0 : a ^^^ b = 0
  · exact xor_eq_zero h0
  · exact absurd e (steps_pos n (xor_lt ha hb) h0)

/-- the program's round: the row's upper part goes down unseen -/
theorem eight_split (r c : Nat) (_hc : c < 256) : r / 256 ^^^ eight ((r % 256) ^^^ c) = eight (r ^^^ c) := by
  have e : r = (256 * (r / 256)) ^^^ (r % 256) := by
    apply Nat.eq_of_testBit_eq; intro i
    rw [Nat.testBit_xor, show 256 = 2 ^ 8 from rfl, Nat.testBit_two_pow_mul, Nat.testBit_mod_two_pow, Nat.testBit_div_two_pow]
    by_cases h : 8 ≤ i
    · have : ¬ i < 8 := by omega
      simp [h, this]
    · have : i < 8 := by omega
      simp [h, this]
  conv => rhs; rw [e, Nat.xor_assoc]
  unfold eight
  rw [steps_xor 8 (256 * (r / 256))]
  congr 1
  exact (eight_shift _).symm

theorem on_append (a b : List Nat) : ∀ r, on r (a ++ b) = on (on r a) b := by
  induction a with
  | nil => intro r; rfl
  | cons c cs ih => intro r; rw [List.cons_append, on_cons, on_cons, ih]
theorem on_lt (l : List Nat) : ∀ {r : Nat}, r < 4294967296 → (∀ c ∈ l, c < 256) → on r l < 4294967296 := by
  induction l with
  | nil => intro r h _; exact h
  | cons c cs ih =>
    intro r h hc
    rw [on_cons]
    exact ih (steps_lt 8 (xor_lt h (Nat.lt_trans (hc c (List.mem_cons_self ..)) (by decide)))) (fun x hx => hc x (List.mem_cons_of_mem _ hx))
theorem eight_xor (a b : Nat) : eight (a ^^^ b) = eight a ^^^ eight b := steps_xor 8 a b
theorem eight_lt {a : Nat} (h : a < 4294967296) : eight a < 4294967296 := steps_lt 8 h
theorem steps_succ (k r : Nat) : steps (k + 1) r = step (steps k r) := by rw [steps_add]; rfl
end Crc
end Go.Proofs.YtbcmcdmflblgkaaGreatDoor

namespace Go.Proofs.YtbcmcdmflblgkaaGreatDoor
open Go.ChangeShapes Go.WideShapes Go.ChangeAt Go.RowKit
set_option linter.unusedVariables false

theorem and_one (x : Nat) (h : x < 4294967296) : bits .and .u32 (x : Int) 1 = ((x % 2 : Nat) : Int) := by
  rw [show (1 : Int) = ((1 : Nat) : Int) from rfl, u32_and_nat x 1 h (by decide), nat_mask1]
theorem odd_of {x : Nat} (hx : x < 4294967296) (h : (bits .and .u32 (x : Int) 1 == 1) = true) : x % 2 = 1 := by
  rw [and_one x hx, beq_iff_eq] at h; omega
theorem even_of {x : Nat} (hx : x < 4294967296) (h : (bits .and .u32 (x : Int) 1 == 1) = false) : x % 2 = 0 := by
  rw [and_one x hx, beq_eq_false_iff_ne] at h; omega
theorem half_int (x : Nat) : (x : Int) / 2 = ((x / 2 : Nat) : Int) := by omega
theorem step_odd {x : Nat} (hx : x < 4294967296) (h : x % 2 = 1) : bits .xor .u32 ((x : Int) / 2) 2197175160 = (Crc.step x : Nat) := by
  rw [half_int, show (2197175160 : Int) = ((Crc.P : Nat) : Int) from rfl, u32_xor_nat _ _ (by omega) Crc.P_lt, Crc.step, if_pos h]
theorem step_even {x : Nat} (h : x % 2 = 0) : (x : Int) / 2 = (Crc.step x : Nat) := by
  rw [half_int, Crc.step, if_neg (by omega)]
theorem val_u32 {a b : Int} (h : a = b) : Value.int .u32 a = Value.int .u32 b := by rw [h]
theorem ret_u32 {a b : Int} (h : a = b) : Ending.returned (Value.int .u32 a) = Ending.returned (Value.int .u32 b) := by rw [h]
theorem ret_i64 {a b : Int} (h : a = b) : Ending.returned (Value.int .i64 a) = Ending.returned (Value.int .i64 b) := by rw [h]
theorem down_any (r : Nat) (w : World) (hr : r < 4294967296) :
    Calls Tryz.prog 189 #[.int .u32 r] w fun e w' => e = .returned (.int .u32 (Crc.eight r : Nat)) ∧ w = w' := by
  go_enter Tryz.func189, Tryz.ntmps189
  go_wp2
  go_loop [0, 3, 4] (fun t u i => ∃ k : Nat, k ≤ 8 ∧ i = .int .i64 k ∧ t = .int .u32 (Crc.steps k r : Nat)) (fun _ _ i => 8 - (intOf i).toNat)
  case atStart => exact ⟨0, by omega, rfl, rfl⟩
  case round =>
    obtain ⟨k, hk, rfl, rfl⟩ := hrel
    have hlt := Crc.steps_lt k hr
    have hs := Lib.hid (Crc.steps_succ k r)
    have h8e := Lib.hid (Crc.eight_eq r)
    by_cases h8 : k < 8
    · go_wp2
      · go_round
        case rel => exact ⟨k + 1, by omega, by go_num, val_u32 (by rw [hs.out]; exact step_odd hlt (odd_of hlt ‹_›))⟩
        case measure => simp [intOf]; omega
      · go_round
        case rel => exact ⟨k + 1, by omega, by go_num, val_u32 (by rw [hs.out]; exact step_even (even_of hlt ‹_›))⟩
        case measure => simp [intOf]; omega
    · go_wp2
      go_ret
      obtain rfl : k = 8 := by omega
      exact ⟨ret_u32 (by rw [h8e.out]), rfl⟩
/-- a slice of bytes that reads as a list of numbers -/
def Row (w : World) (a : Option Addr) (n : Nat) (l : List Nat) : Prop :=
  l.length = n ∧ (∀ c ∈ l, c < 256) ∧ (0 < n → ∃ b o, a = some ⟨b, o, none⟩ ∧ ∀ j, j < n → w.cell? ⟨b, o + j, none⟩ = some (.int .u8 ((l.getD j 0 : Nat) : Int)))
theorem getD_lt {l : List Nat} (h : ∀ c ∈ l, c < 256) (j : Nat) : l.getD j 0 < 256 := by
  rw [List.getD_eq_getElem?_getD]
  rcases Nat.lt_or_ge j l.length with hj | hj
  · rw [List.getElem?_eq_getElem hj]; exact h _ (List.getElem_mem hj)
  · rw [List.getElem?_eq_none hj]; decide
theorem take_next {l : List Nat} {k : Nat} (h : k < l.length) : l.take (k + 1) = l.take k ++ [l.getD k 0] := by
  rw [List.take_succ_eq_append_getElem h, List.getD_eq_getElem?_getD, List.getElem?_eq_getElem h]; rfl
theorem on_next {l : List Nat} {k : Nat} (h : k < l.length) (r : Nat) : Crc.on r (l.take (k + 1)) = Crc.eight (Crc.on r (l.take k) ^^^ l.getD k 0) := by
  rw [take_next h, Crc.on_append]; rfl
theorem on_take_lt {l : List Nat} (h : ∀ c ∈ l, c < 256) {r : Nat} (hr : r < 4294967296) (k : Nat) : Crc.on r (l.take k) < 4294967296 :=
  Crc.on_lt _ hr (fun c hc => h c (List.mem_of_mem_take hc))
theorem low_byte {x c : Nat} (hx : x < 4294967296) (hc : c < 256) : bits .xor .u32 (bits .and .u32 (x : Int) 255) (c : Int) = ((x % 256 ^^^ c : Nat) : Int) := by
  rw [show (255 : Int) = ((255 : Nat) : Int) from rfl, u32_and_nat x 255 hx (by decide), nat_mask8, u32_xor_nat _ _ (by omega) (by omega)]
theorem round_on {x c : Nat} (hx : x < 4294967296) (hc : c < 256) : bits .xor .u32 ((x : Int) / 256) ((Crc.eight (x % 256 ^^^ c) : Nat) : Int) = (Crc.eight (x ^^^ c) : Nat) := by
  have h1 : x % 256 ^^^ c < 4294967296 := Crc.xor_lt (by omega) (by omega)
  rw [show (x : Int) / 256 = ((x / 256 : Nat) : Int) from by omega, u32_xor_nat _ _ (by omega) (Crc.eight_lt h1), Crc.eight_split x c hc]
theorem on_any (r : Nat) (a : Option Addr) (n cap : Nat) (l : List Nat) (w : World) (hr : r < 4294967296) (hl : Row w a n l) (hn : n ≤ maxLen) :
    Calls Tryz.prog 130 #[.int .u32 r, .slice a n cap] w fun e w' => e = .returned (.int .u32 (Crc.on r l : Nat)) ∧ w = w' := by
  obtain ⟨hlen, hb, hcell⟩ := hl
  unfold maxLen at hn
  have HL := Lib.hid hlen
  clear hlen
  go_enter Tryz.func130, Tryz.ntmps130
  go_wp2
  go_loop [0, 6, 9] (fun t u i => ∃ k : Nat, k ≤ n ∧ i = .int .i64 k ∧ t = .int .u32 (Crc.on r (l.take k) : Nat)) (fun _ _ i => n - (intOf i).toNat)
  case atStart => exact ⟨0, by omega, rfl, rfl⟩
  case round =>
    obtain ⟨k, hk, rfl, rfl⟩ := hrel
    by_cases h8 : k < n
    · obtain ⟨b, o, rfl, hc⟩ := hcell (by omega)
      have hck := hc k h8
      have hx := on_take_lt hb hr k
      have hy := getD_lt hb k
      have hnext := Lib.hid (on_next (r := r) (show k < l.length by rw [HL.out]; exact h8))
      clear hc hcell
      generalize l.getD k 0 = y at *
      generalize Crc.on r (l.take k) = x at *
      have hlow := low_byte hx hy
      have hrd := Lib.hid (round_on hx hy)
      have hdl : x % 256 ^^^ y < 4294967296 := Crc.xor_lt (by omega) (by omega)
      have hm : (y : Int) % 4294967296 = y := by omega
      go_wp2_with (go_at_call 189; refine (down_any _ _ hdl).mono ?_; rintro e w' ⟨rfl, rfl⟩)
      go_round
      case rel => exact ⟨k + 1, by omega, by go_num, val_u32 (by rw [hnext.out, hrd.out])⟩
      case measure => simp [intOf]; omega
    · go_wp2
      go_ret
      obtain rfl : k = n := by omega
      exact ⟨ret_u32 (by rw [List.take_of_length_le (by rw [HL.out]; exact Nat.le_refl _)]), rfl⟩
end Go.Proofs.YtbcmcdmflblgkaaGreatDoor

/-
  CRC-32C on lists of numbers: what the register does, that it is linear, and that it takes apart what differs in few bits. No Go in sight.
-/
import Derived.Test.YtjnlgckjglmijaaRows
namespace Go.Proofs.Ytjnlgckjglmijaa
namespace Crc

/-- the generator's lower 32 bits, mirrored -/
def P : Nat := 0x82f63b78
def step (r : Nat) : Nat := if r % 2 = 1 then r / 2 ^^^ P else r / 2
def steps : Nat → Nat → Nat
  | 0, r => r
  | n + 1, r => steps n (step r)
def eight (r : Nat) : Nat := steps 8 r
def on (r : Nat) : List Nat → Nat
  | [] => r
  | c :: cs => on (eight (r ^^^ c)) cs
def ones : Nat := 4294967295
def sum (l : List Nat) : Nat := on ones l ^^^ ones
def text : List Nat → Nat
  | [] => 0
  | c :: cs => c ^^^ (256 * text cs)

theorem xor_half (a b : Nat) : (a ^^^ b) / 2 = a / 2 ^^^ b / 2 := by
  apply Nat.eq_of_testBit_eq; intro i; simp [Nat.testBit_div_two]
theorem xor_odd (a b : Nat) : (a ^^^ b) % 2 = (a % 2 + b % 2) % 2 := by
  have h := Nat.xor_mod_two_pow (a := a) (b := b) (n := 1)
  simp only [Nat.pow_one] at h
  rw [h]
  rcases Nat.mod_two_eq_zero_or_one a with ha | ha <;> rcases Nat.mod_two_eq_zero_or_one b with hb | hb <;> rw [ha, hb] <;> rfl
theorem xor_swap (a b c d : Nat) : (a ^^^ b) ^^^ (c ^^^ d) = (a ^^^ c) ^^^ (b ^^^ d) := by
  rw [Nat.xor_assoc, Nat.xor_assoc, ← Nat.xor_assoc b c d, Nat.xor_comm b c, Nat.xor_assoc c b d]
theorem step_xor (a b : Nat) : step (a ^^^ b) = step a ^^^ step b := by
  unfold step
  rw [xor_half, xor_odd]
  rcases Nat.mod_two_eq_zero_or_one a with ha | ha <;> rcases Nat.mod_two_eq_zero_or_one b with hb | hb <;> rw [ha, hb] <;> simp
  · rw [Nat.xor_assoc]
  · rw [Nat.xor_assoc, Nat.xor_assoc, Nat.xor_comm P (b / 2)]
  · rw [xor_swap]; simp
theorem steps_xor (n : Nat) : ∀ a b, steps n (a ^^^ b) = steps n a ^^^ steps n b := by
  induction n with
  | zero => intro a b; rfl
  | succ n ih => intro a b; simp only [steps, step_xor, ih]
theorem step_double (a : Nat) : step (2 * a) = a := by
  unfold step; rw [if_neg (by omega)]; omega
theorem steps_add (m n r : Nat) : steps (m + n) r = steps n (steps m r) := by
  induction m generalizing r with
  | zero => simp [steps]
  | succ m ih => rw [Nat.succ_add]; simp only [steps]; exact ih _
theorem steps_shift (n a : Nat) : steps n (2 ^ n * a) = a := by
  induction n generalizing a with
  | zero => simp [steps]
  | succ n ih => rw [Nat.pow_succ, Nat.mul_comm (2 ^ n) 2, Nat.mul_assoc]; simp only [steps, step_double]; exact ih a
theorem eight_shift (a : Nat) : eight (256 * a) = a := steps_shift 8 a
theorem on_cons (r c : Nat) (cs : List Nat) : on r (c :: cs) = on (eight (r ^^^ c)) cs := rfl
theorem text_cons (c : Nat) (cs : List Nat) : text (c :: cs) = c ^^^ (256 * text cs) := rfl
theorem eight_eq (r : Nat) : eight r = steps 8 r := rfl
theorem on_text (l : List Nat) : ∀ r, on r l = steps (8 * l.length) (r ^^^ text l) := by
  induction l with
  | nil => intro r; exact (Nat.xor_zero r).symm
  | cons c cs ih =>
    intro r
    have e : eight (256 * text cs) = text cs := eight_shift _
    have e1 : steps (8 * (c :: cs).length) (r ^^^ text (c :: cs)) = steps (8 * cs.length) (eight (r ^^^ text (c :: cs))) := by
      have h := steps_add 8 (8 * cs.length) (r ^^^ text (c :: cs))
      have hl : 8 + 8 * cs.length = 8 * (c :: cs).length := by rw [List.length_cons]; omega
      rw [hl] at h
      exact h
    have e2 : eight (r ^^^ text (c :: cs)) = eight (r ^^^ c) ^^^ text cs := by
      have h := steps_xor 8 (r ^^^ c) (256 * text cs)
      rw [text_cons, ← Nat.xor_assoc]
      refine h.trans ?_
      exact congrArg (fun x => eight (r ^^^ c) ^^^ x) e
    rw [e1, e2, on_cons, ih]
theorem two32 : (2 : Nat) ^ 32 = 4294967296 := by decide
theorem xor_lt {a b : Nat} (ha : a < 4294967296) (hb : b < 4294967296) : a ^^^ b < 4294967296 := by
  rw [← two32] at ha hb ⊢; exact Nat.xor_lt_two_pow ha hb
theorem P_lt : P < 4294967296 := by decide
theorem ones_lt : ones < 4294967296 := by decide
theorem step_lt {r : Nat} (h : r < 4294967296) : step r < 4294967296 := by
  unfold step
  split
  · exact xor_lt (by omega) P_lt
  · omega
theorem steps_lt (n : Nat) : ∀ {r : Nat}, r < 4294967296 → steps n r < 4294967296 := by
  induction n with
  | zero => intro r h; exact h
  | succ n ih => intro r h; exact ih (step_lt h)
theorem step_pos {r : Nat} (h : r < 4294967296) (h0 : r ≠ 0) : step r ≠ 0 := by
  unfold step
  split
  · intro e
    have hp : P = r / 2 := by
      have := congrArg (· ^^^ (r / 2)) e
      simp only [Nat.zero_xor] at this
      rw [Nat.xor_comm (r/2) P, Nat.xor_assoc] at this
      simpa using this
    have : P = 2197175160 := rfl
    omega
  · omega
theorem steps_pos (n : Nat) : ∀ {r : Nat}, r < 4294967296 → r ≠ 0 → steps n r ≠ 0 := by
  induction n with
  | zero => intro r _ h; exact h
  | succ n ih => intro r h h0; exact ih (step_lt h) (step_pos h h0)
theorem xor_eq_zero {a b : Nat} (h : a ^^^ b = 0) : a = b := by
  have := congrArg (· ^^^ b) h
  simp only [Nat.zero_xor, Nat.xor_assoc, Nat.xor_self, Nat.xor_zero] at this
  exact this
theorem steps_inj (n : Nat) {a b : Nat} (ha : a < 4294967296) (hb : b < 4294967296) (h : steps n a = steps n b) : a = b := by
  have e : steps n (a ^^^ b) = 0 := by rw [steps_xor, h, Nat.xor_self]
  by_cases h0 : a ^^^ b = 0
  · exact xor_eq_zero h0
  · exact absurd e (steps_pos n (xor_lt ha hb) h0)

/-- the program's round: the row's upper part goes down unseen -/
theorem eight_split (r c : Nat) (_hc : c < 256) : r / 256 ^^^ eight ((r % 256) ^^^ c) = eight (r ^^^ c) := by
  have e : r = (256 * (r / 256)) ^^^ (r % 256) := by
    apply Nat.eq_of_testBit_eq; intro i
    rw [Nat.testBit_xor, show 256 = 2 ^ 8 from rfl, Nat.testBit_two_pow_mul, Nat.testBit_mod_two_pow, Nat.testBit_div_two_pow]
    by_cases h : 8 ≤ i
    · have : ¬ i < 8 := by omega
      simp [h, this]
    · have : i < 8 := by omega
      simp [h, this]
  conv => rhs; rw [e, Nat.xor_assoc]
  unfold eight
  rw [steps_xor 8 (256 * (r / 256))]
  congr 1
  exact (eight_shift _).symm

theorem on_append (a b : List Nat) : ∀ r, on r (a ++ b) = on (on r a) b := by
  induction a with
  | nil => intro r; rfl
  | cons c cs ih => intro r; rw [List.cons_append, on_cons, on_cons, ih]
theorem on_lt (l : List Nat) : ∀ {r : Nat}, r < 4294967296 → (∀ c ∈ l, c < 256) → on r l < 4294967296 := by
  induction l with
  | nil => intro r h _; exact h
  | cons c cs ih =>
    intro r h hc
    rw [on_cons]
    exact ih (steps_lt 8 (xor_lt h (Nat.lt_trans (hc c (List.mem_cons_self ..)) (by decide)))) (fun x hx => hc x (List.mem_cons_of_mem _ hx))
theorem on_inj (l : List Nat) {r s : Nat} (hr : r < 4294967296) (hs : s < 4294967296) (h : on r l = on s l) : r = s := by
  rw [on_text, on_text, steps_xor, steps_xor] at h
  have : steps (8 * l.length) r = steps (8 * l.length) s := by
    have := congrArg (· ^^^ steps (8 * l.length) (text l)) h
    simpa [Nat.xor_assoc] using this
  exact steps_inj _ hr hs this
theorem sum_lt (l : List Nat) (h : ∀ c ∈ l, c < 256) : sum l < 4294967296 :=
  xor_lt (on_lt l ones_lt h) ones_lt
theorem sum_back (l : List Nat) : sum l ^^^ ones = on ones l := by
  unfold sum; rw [Nat.xor_assoc, Nat.xor_self, Nat.xor_zero]
/-- gone on with from a sum -/
theorem sum_append (a b : List Nat) : on (sum a ^^^ ones) b ^^^ ones = sum (a ++ b) := by
  rw [sum_back, ← on_append]; rfl
theorem not_eq {r : Nat} (h : r < 4294967296) : r ^^^ ones = 4294967295 - r := by
  apply Nat.eq_of_testBit_eq; intro i
  have : 4294967295 - r = 2 ^ 32 - (r + 1) := by rw [two32]; omega
  rw [this, Nat.testBit_two_pow_sub_succ (by rw [two32]; exact h), Nat.testBit_xor, show ones = 2 ^ 32 - 1 from rfl, Nat.testBit_two_pow_sub_one]
  by_cases hi : i < 32
  · simp [hi]
  · have : r.testBit i = false := Nat.testBit_lt_two_pow (Nat.lt_of_lt_of_le (show r < 2 ^ 32 by rw [two32]; exact h) (Nat.pow_le_pow_right (by decide) (by omega)))
    simp [hi, this]
/-- unlike differences -/
theorem sum_xor (a b : List Nat) (hl : a.length = b.length) : sum a ^^^ sum b = steps (8 * a.length) (text a ^^^ text b) := by
  unfold sum
  rw [xor_swap, Nat.xor_self, Nat.xor_zero, on_text, on_text, ← hl, ← steps_xor, xor_swap, Nat.xor_self, Nat.zero_xor]
theorem sum_burst (a b : List Nat) (hl : a.length = b.length) (at' x : Nat) (_hat : at' ≤ 8 * a.length) (hx : x < 4294967296) (h0 : x ≠ 0) (hd : text a ^^^ text b = 2 ^ at' * x) (_hn : at' ≤ 8 * a.length) : sum a ≠ sum b := by
  intro e
  have h := sum_xor a b hl
  rw [e, Nat.xor_self, hd, show 8 * a.length = at' + (8 * a.length - at') from by omega, steps_add, steps_shift] at h
  exact steps_pos _ hx h0 h.symm
theorem text_lt (l : List Nat) (h : ∀ c ∈ l, c < 256) : text l < 2 ^ (8 * l.length) := by
  induction l with
  | nil => simp [text]
  | cons c cs ih =>
    simp only [text, List.length_cons]
    have h1 := ih (fun x hx => h x (List.mem_cons_of_mem _ hx))
    have h2 := h c (List.mem_cons_self ..)
    have e : 2 ^ (8 * (cs.length + 1)) = 256 * 2 ^ (8 * cs.length) := by
      rw [show 8 * (cs.length + 1) = 8 + 8 * cs.length from by omega, Nat.pow_add]
    apply Nat.xor_lt_two_pow
    · rw [e]; have : 0 < 2 ^ (8 * cs.length) := Nat.two_pow_pos _; omega
    · rw [e]; omega
theorem text_inj : ∀ (a b : List Nat), a.length = b.length → (∀ c ∈ a, c < 256) → (∀ c ∈ b, c < 256) → text a = text b → a = b := by
  intro a
  induction a with
  | nil => intro b hl _ _ _; cases b with | nil => rfl | cons _ _ => simp at hl
  | cons c cs ih =>
    intro b hl ha hb h
    cases b with
    | nil => simp at hl
    | cons d ds =>
      simp only [text] at h
      have hc := ha c (List.mem_cons_self ..)
      have hd := hb d (List.mem_cons_self ..)
      have key : ∀ c t : Nat, c < 256 → (c ^^^ 256 * t) % 256 = c ∧ (c ^^^ 256 * t) / 256 = t := by
        intro c t hc
        constructor
        · have h := Nat.xor_mod_two_pow (a := c) (b := 256 * t) (n := 8)
          rw [show (2:Nat) ^ 8 = 256 from rfl] at h
          rw [h, Nat.mod_eq_of_lt hc, Nat.mul_mod_right, Nat.xor_zero]
        · have h := Nat.xor_div_two_pow (a := c) (b := 256 * t) (n := 8)
          rw [show (2:Nat) ^ 8 = 256 from rfl] at h
          rw [h, Nat.div_eq_of_lt hc, Nat.zero_xor]; omega
      have k1 := key c (text cs) hc
      have k2 := key d (text ds) hd
      rw [h] at k1
      have e1 : c = d := by rw [← k1.1, k2.1]
      have e2 : text cs = text ds := by rw [← k1.2, k2.2]
      rw [e1, ih ds (by simpa using hl) (fun x hx => ha x (List.mem_cons_of_mem _ hx)) (fun x hx => hb x (List.mem_cons_of_mem _ hx)) e2]
theorem sum_four (a b : List Nat) (la : a.length = 4) (lb : b.length = 4) (ha : ∀ c ∈ a, c < 256) (hb : ∀ c ∈ b, c < 256) (h : sum a = sum b) : a = b := by
  have hx := sum_xor a b (by omega)
  rw [h, Nat.xor_self] at hx
  have ta := text_lt a ha
  have tb := text_lt b hb
  rw [la, show 8 * 4 = 32 from rfl, two32] at ta; rw [lb, show 8 * 4 = 32 from rfl, two32] at tb
  refine text_inj a b (by omega) ha hb ?_
  by_cases h0 : text a ^^^ text b = 0
  · exact xor_eq_zero h0
  · exact absurd hx.symm (steps_pos _ (xor_lt ta tb) h0)
def two (a b : List Nat) : List Nat := List.zipWith (· ^^^ ·) a b
theorem text_two : ∀ (a b : List Nat), a.length = b.length → text (two a b) = text a ^^^ text b := by
  intro a
  induction a with
  | nil => intro b hl; cases b with | nil => rfl | cons _ _ => simp at hl
  | cons c cs ih =>
    intro b hl
    cases b with
    | nil => simp at hl
    | cons d ds =>
      have e : 256 * (text cs ^^^ text ds) = 256 * text cs ^^^ 256 * text ds := by
        rw [show 256 = 2 ^ 8 from rfl, Nat.mul_comm, Nat.mul_comm _ (text cs), Nat.mul_comm _ (text ds)]
        simp only [← Nat.shiftLeft_eq]
        exact Nat.shiftLeft_xor_distrib ..
      simp only [two, List.zipWith_cons_cons, text] at ih ⊢
      rw [ih ds (by simpa using hl), e, xor_swap]
theorem two_length (a b : List Nat) (h : a.length = b.length) : (two a b).length = a.length := by simp [two, h]
theorem sum_mix (a b c : List Nat) (h1 : b.length = a.length) (h2 : c.length = a.length) : sum (two (two a b) c) = sum a ^^^ sum b ^^^ sum c := by
  have l1 : (two a b).length = a.length := two_length a b (by omega)
  have l2 : (two (two a b) c).length = a.length := by rw [two_length _ _ (by omega)]; exact l1
  have e1 := sum_xor (two (two a b) c) a (by omega)
  have e2 := sum_xor b c (by omega)
  rw [text_two _ _ (by omega), text_two _ _ (by omega), l2] at e1
  rw [h1] at e2
  have : text a ^^^ text b ^^^ text c ^^^ text a = text b ^^^ text c := by
    rw [Nat.xor_comm _ (text a), ← Nat.xor_assoc, ← Nat.xor_assoc, Nat.xor_self, Nat.zero_xor]
  rw [this, ← e2] at e1
  have := congrArg (· ^^^ sum a) e1
  simp only [Nat.xor_assoc, Nat.xor_self, Nat.xor_zero] at this
  rw [this, ← Nat.xor_assoc, Nat.xor_comm (sum b ^^^ sum c), ← Nat.xor_assoc]
theorem eight_xor (a b : Nat) : eight (a ^^^ b) = eight a ^^^ eight b := steps_xor 8 a b
theorem eight_lt {a : Nat} (h : a < 4294967296) : eight a < 4294967296 := steps_lt 8 h
theorem eight_inj {a b : Nat} (ha : a < 4294967296) (hb : b < 4294967296) (h : eight a = eight b) : a = b := steps_inj 8 ha hb h
theorem text_flip : ∀ (l : List Nat) (i : Nat), i < 8 * l.length → text (l.set (i / 8) (l.getD (i / 8) 0 ^^^ 2 ^ (i % 8))) = text l ^^^ 2 ^ i := by
  intro l
  induction l with
  | nil => intro i h; simp at h
  | cons c cs ih =>
    intro i h
    rw [List.length_cons] at h
    by_cases h8 : i < 8
    · have e1 : i / 8 = 0 := by omega
      have e2 : i % 8 = i := by omega
      rw [e1, e2, List.set_cons_zero, text_cons, text_cons, List.getD_cons_zero, Nat.xor_assoc, Nat.xor_assoc, Nat.xor_comm (2 ^ i)]
    · obtain ⟨k, rfl⟩ : ∃ k, i = k + 8 := ⟨i - 8, by omega⟩
      have e1 : (k + 8) / 8 = k / 8 + 1 := by omega
      have e2 : (k + 8) % 8 = k % 8 := by omega
      rw [e1, e2, List.set_cons_succ, text_cons, text_cons, List.getD_cons_succ, ih k (by omega), Nat.xor_assoc]
      congr 1
      rw [Nat.pow_add, show (2:Nat) ^ 8 = 256 from rfl, Nat.mul_comm (2 ^ k) 256]
      rw [show 256 = 2 ^ 8 from rfl, Nat.mul_comm, Nat.mul_comm _ (text cs), Nat.mul_comm _ (2 ^ k)]
      simp only [← Nat.shiftLeft_eq]
      exact Nat.shiftLeft_xor_distrib ..
theorem xor_top {a j : Nat} (h : a < 2 ^ j) : a ^^^ 2 ^ j = a + 2 ^ j := by
  have hm : (a ^^^ 2 ^ j) % 2 ^ j = a := by
    rw [Nat.xor_mod_two_pow, Nat.mod_self, Nat.xor_zero, Nat.mod_eq_of_lt h]
  have hd : (a ^^^ 2 ^ j) / 2 ^ j = 1 := by
    rw [Nat.xor_div_two_pow, Nat.div_self (Nat.two_pow_pos j), Nat.div_eq_of_lt h, Nat.zero_xor]
  have := Nat.div_add_mod (a ^^^ 2 ^ j) (2 ^ j)
  rw [hm, hd] at this
  omega
/-- one more bit of x -/
theorem mod_odd (x j : Nat) (h : x / 2 ^ j % 2 = 1) : x % 2 ^ (j + 1) = x % 2 ^ j ^^^ 2 ^ j := by
  rw [xor_top (Nat.mod_lt _ (Nat.two_pow_pos j)), Nat.pow_succ, Nat.mod_mul, h, Nat.mul_one]
theorem mod_even (x j : Nat) (h : x / 2 ^ j % 2 = 0) : x % 2 ^ (j + 1) = x % 2 ^ j := by
  rw [Nat.pow_succ, Nat.mod_mul, h, Nat.mul_zero, Nat.add_zero]
theorem mul_xor (at' a b : Nat) : 2 ^ at' * (a ^^^ b) = 2 ^ at' * a ^^^ 2 ^ at' * b := by
  rw [Nat.mul_comm, Nat.mul_comm _ a, Nat.mul_comm _ b]
  simp only [← Nat.shiftLeft_eq]
  exact Nat.shiftLeft_xor_distrib ..
theorem flip_byte (c i : Nat) (h : c < 256) : c ^^^ 2 ^ (i % 8) < 256 := by
  rw [show 256 = 2 ^ 8 from rfl] at h ⊢
  exact Nat.xor_lt_two_pow h (Nat.pow_lt_pow_right (by decide) (Nat.mod_lt _ (by decide)))
/-- what the flipping loop has done -/
structure Flipped (b out : List Nat) (at' x j : Nat) : Prop where
  len : out.length = b.length
  small : ∀ c ∈ out, c < 256
  bits : text out = text b ^^^ 2 ^ at' * (x % 2 ^ j)
theorem Flipped.start (b : List Nat) (at' x : Nat) (h : ∀ c ∈ b, c < 256) : Flipped b b at' x 0 := ⟨rfl, h, by rw [Nat.pow_zero, Nat.mod_one, Nat.mul_zero, Nat.xor_zero]⟩
theorem Flipped.odd {b out : List Nat} {at' x j : Nat} (h : Flipped b out at' x j) (ho : x / 2 ^ j % 2 = 1) (hi : at' + j < 8 * b.length) :
    Flipped b (out.set ((at' + j) / 8) (out.getD ((at' + j) / 8) 0 ^^^ 2 ^ ((at' + j) % 8))) at' x (j + 1) := by
  refine ⟨by rw [List.length_set]; exact h.len, ?_, ?_⟩
  · intro c hc
    rcases List.mem_or_eq_of_mem_set hc with hc | rfl
    · exact h.small c hc
    · apply flip_byte
      have hk : (at' + j) / 8 < out.length := by rw [h.len]; omega
      rw [List.getD_eq_getElem?_getD, List.getElem?_eq_getElem hk]
      exact h.small _ (List.getElem_mem hk)
  · rw [text_flip out _ (by rw [h.len]; exact hi), h.bits, mod_odd x j ho, mul_xor, Nat.xor_assoc, Nat.pow_add]
theorem Flipped.even {b out : List Nat} {at' x j : Nat} (h : Flipped b out at' x j) (ho : x / 2 ^ j % 2 = 0) : Flipped b out at' x (j + 1) :=
  ⟨h.len, h.small, by rw [h.bits, mod_even x j ho]⟩
theorem Flipped.unlike {b out : List Nat} {at' x j : Nat} (h : Flipped b out at' x j) (hj : 0 < j) (ho : x % 2 = 1) (hx : x < 4294967296) (ha : at' ≤ 8 * b.length) : sum b ≠ sum out := by
  refine sum_burst b out h.len.symm at' (x % 2 ^ j) ha (Nat.lt_of_le_of_lt (Nat.mod_le _ _) hx) ?_ ?_ ha
  · intro e
    obtain ⟨i, rfl⟩ : ∃ i, j = i + 1 := ⟨j - 1, by omega⟩
    have : x % 2 ^ (i + 1) % 2 = x % 2 := by rw [Nat.pow_succ]; exact Nat.mod_mul_left_mod x (2 ^ i) 2
    rw [e] at this
    omega
  · rw [h.bits, ← Nat.xor_assoc, Nat.xor_self, Nat.zero_xor]
theorem steps_succ (k r : Nat) : steps (k + 1) r = step (steps k r) := steps_add k 1 r
theorem sum_eq (l : List Nat) : sum l = on 4294967295 l ^^^ ones := rfl
theorem nine : sum [49, 50, 51, 52, 53, 54, 55, 56, 57] = 3808858755 := by decide +kernel
end Crc
end Go.Proofs.Ytjnlgckjglmijaa

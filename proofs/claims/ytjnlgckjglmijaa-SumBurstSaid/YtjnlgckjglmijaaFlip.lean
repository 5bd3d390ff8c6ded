/-
  Bits flipped: Flip's contract.
-/
import Derived.Test.YtjnlgckjglmijaaTwo
namespace Go.Proofs.Ytjnlgckjglmijaa
open Go.ChangeShapes Go.WideShapes Go.ChangeAt Go.RowKit
set_option linter.unusedVariables false
theorem mod_any (x m : Nat) (w : World) (h : x < m) (hm : m ≤ 4294967296) :
    Calls Try.prog 24 #[.int .i64 (x : Int), .int .i64 (m : Int)] w fun e w' => e = .returned (.int .i64 (x : Int)) ∧ w = w' := by
  have h1 : (x : Int) % (m : Int) = x := Int.emod_eq_of_lt (by omega) (by omega)
  have h2 : (1 : Int) ≤ (m : Int) := by omega
  have h3 : ((m : Int) == 0) = false := beq_eq_false_iff_ne.2 (by omega)
  have h4 : (0 : Int) ≤ (x : Int) := by omega
  have h5 : (x : Int) ≤ 4294967296 := by omega
  have h6 : (0 : Int) ≤ (x : Int) % (m : Int) := by omega
  have H1 := Lib.hid h1
  go_enter Try.func24, Try.ntmps24
  go_wp2
  go_ret
  exact ⟨ret_i64 H1.out, rfl⟩
/-- what Flip leaves -/
def Flips (l : List Nat) (n p x : Nat) (W : World) (e : Ending) (w' : World) : Prop :=
  ∃ out j a c, e = .returned (.slice a n c) ∧ Crc.Flipped l out p x j ∧ 0 < j ∧ w'.ownsRow W.heap.size 5 1 (.slice a n c) n (bytesOf out) ∧ Below W.heap.size W w'
theorem own_some {w : World} {base n c : Nat} {e : TypeId} {size : Nat} {a : Option Addr} {xs : List Value} (h : w.ownsRow base e size (.slice a n c) n xs) (hn : 0 < n) : ∃ g, a = some ⟨g, 0, none⟩ ∧ base ≤ g ∧ n ≤ c := by
  rcases h.2 with ⟨_, h0⟩ | ⟨g, cap, cur, hv, hg, _, hcap, _⟩
  · omega
  · injection hv with h1 h2 h3
    exact ⟨g, h1, hg, by omega⟩
theorem bytesOf_set (l : List Nat) (i v : Nat) : (bytesOf l).set i (.int .u8 (v : Int)) = bytesOf (l.set i v) := by
  simp [bytesOf, List.map_set]
theorem flip_value {y q : Nat} (hy : y < 256) : bits .xor .u8 (y : Int) ((2 : Int) ^ (q % 8) % 256) = ((y ^^^ 2 ^ (q % 8) : Nat) : Int) := by
  have h8 : (2 : Nat) ^ (q % 8) < 256 := by
    rw [show (256 : Nat) = 2 ^ 8 from rfl]
    exact Nat.pow_lt_pow_right (by decide) (Nat.mod_lt _ (by decide))
  have e : (2 : Int) ^ (q % 8) = ((2 ^ (q % 8) : Nat) : Int) := by rw [Int.natCast_pow]; rfl
  rw [e]
  generalize 2 ^ (q % 8) = t at *
  rw [show (t : Int) % 256 = (t : Int) from by omega]
  exact u8_xor_nat y _ hy h8
theorem val_int {a b : Int} (h : a = b) : Value.int .i64 a = Value.int .i64 b := by rw [h]
theorem half_next {x j X : Nat} (h : x / 2 ^ j = X) : (X : Int) / 2 = ((x / 2 ^ (j + 1) : Nat) : Int) := by
  rw [Nat.pow_succ, ← Nat.div_div_eq_div_mul, h]; omega
set_option maxHeartbeats 800000 in
theorem flip_odd (a : Option Addr) (n c : Nat) (l : List Nat) (p x : Nat) (w : World) (hl : Row w a n l) (hc0 : a = none → c = 0) (hn : n ≤ 400) (hp : p < 8 * n) (hx : x < 4294967296) (hodd : x % 2 = 1) :
    Calls Try.prog 19 #[.slice a n c, .int .i64 (p : Int), .int .i64 (x : Int)] w (Flips l n p x w) := by
  have hll := hl.1
  have hbs := Lib.hid hl.2.1
  have HC := Lib.hid hc0
  have HST := Lib.hid (Crc.Flipped.start l p x hl.2.1)
  have hpm : p < 8 * n := hp
  have tn : ((n : Int) == 0) = false := beq_eq_false_iff_ne.2 (by omega)
  have tx : ((x : Int) % 2 == 0) = false := beq_eq_false_iff_ne.2 (by omega)
  have HX2 := Lib.hid hodd
  have e8 : ((8 * n : Nat) : Int) = 8 * (n : Int) := by omega
  have m8 := mod_any p (8 * n)
  rw [e8] at m8
  have M8 := Lib.hid m8
  have M32 := Lib.hid (mod_any x 4294967296)
  clear hc0 hodd e8 m8
  go_enter Try.func19, Try.ntmps19
  go_wp2_with fail
  refine (twin_any a n c l _ hl HC.out (by omega)).mono ?_
  rintro e w1 ⟨a', c', rfl, hown, hb1⟩
  rw [hll] at hown
  rw [hll]
  obtain ⟨g, rfl, hg, hcap⟩ := own_some hown (by omega)
  have HL := Lib.hid hll
  have HOWN := Lib.hid hown
  have HB := Lib.hid hb1
  clear hll hown hb1 hl
  go_wp2_with fail
  refine (M8.out _ hpm (by omega)).mono ?_
  rintro e w' ⟨rfl, rfl⟩
  go_wp2_with fail
  refine (M32.out _ hx (by omega)).mono ?_
  rintro e w' ⟨rfl, rfl⟩
  go_wp2_with fail
  go_loopw [9, 10] (fun xv iv wr => ∃ (j q : Nat) (out : List Nat), xv = .int .i64 ((x / 2 ^ j : Nat) : Int) ∧ iv = .int .i64 (q : Int) ∧ Hid (q = p + j) ∧ q ≤ 8 * n ∧ Hid (Crc.Flipped l out p x j) ∧ Hid (wr.ownsRow w.heap.size 5 1 (.slice (some ⟨g, 0, none⟩) n c') n (bytesOf out)) ∧ Hid (Below w.heap.size w wr)) (fun _ iv _ => 8 * n - (intOf iv).toNat)
  case atStart => exact ⟨0, p, l, by rw [Nat.pow_zero, Nat.div_one], rfl, Lib.hid rfl, by omega, HST, HOWN, HB⟩
  case round =>
    obtain ⟨j, q, out, rfl, rfl, HQ, hq, HF, HO, HBr⟩ := hrel
    have hxj : x / 2 ^ j < 4294967296 := Nat.lt_of_le_of_lt (Nat.div_le_self _ _) hx
    obtain ⟨X, hX⟩ : ∃ X, x / 2 ^ j = X := ⟨_, rfl⟩
    rw [hX] at hxj ⊢
    have HXj := Lib.hid hX
    clear hX
    by_cases h0 : X = 0
    · have tz : ¬ (0 : Int) < (X : Int) := by omega
      go_wp2_with fail
      go_ret
      refine ⟨out, j, _, c', rfl, HF.out, ?_, HO.out, HBr.out⟩
      rcases Nat.eq_zero_or_pos j with hj | hj
      · subst hj
        have h1 := HXj.out
        have h2 := HX2.out
        rw [Nat.pow_zero, Nat.div_one] at h1
        omega
      · exact hj
    · by_cases hq8 : q < 8 * n
      · have t1 : (0 : Int) < (X : Int) := by omega
        have t2 : (q : Int) < 8 * (n : Int) := by omega
        have hcl : q / 8 < n := by omega
        have cl : wr.cell? ⟨g, q / 8, none⟩ = some (.int .u8 ((out.getD (q / 8) 0 : Nat) : Int)) := by
          rw [HO.out.cellAt (q / 8) (by omega), bytesOf_get (by rw [HF.out.len, HL.out]; exact hcl)]
        have fz : wr.frozen? ⟨g, q / 8, none⟩ = false := HO.out.frozenAt _
        have hy : out.getD (q / 8) 0 < 256 := getD_lt HF.out.small _
        obtain ⟨y, hyy⟩ : ∃ y, out.getD (q / 8) 0 = y := ⟨_, rfl⟩
        rw [hyy] at cl hy
        have HY := Lib.hid hyy
        clear hyy
        by_cases hod : X % 2 = 1
        · have t3 : ((X : Int) % 2 == 1) = true := beq_iff_eq.2 (by omega)
          have hv := flip_value (q := q) hy
          obtain ⟨v, hvv⟩ : ∃ v, y ^^^ 2 ^ (q % 8) = v := ⟨_, rfl⟩
          rw [hvv] at hv
          have hF1 : Crc.Flipped l (out.set (q / 8) v) p x (j + 1) := by
            have := HF.out.odd (by rw [HXj.out]; exact hod) (by rw [HL.out, ← HQ.out]; exact hq8)
            rw [← HQ.out, HY.out, hvv] at this
            exact this
          have HF1 := Lib.hid hF1
          have HO1 := Lib.hid (show (wr.setCell ⟨g, q / 8, none⟩ (.int .u8 (v : Int))).ownsRow w.heap.size 5 1 (.slice (some ⟨g, 0, none⟩) n c') n (bytesOf (out.set (q / 8) v)) by
            rw [← bytesOf_set]; exact (HO.out.stored (q / 8) _).1)
          have HB1 := Lib.hid (HBr.out.setCell (show w.heap.size ≤ (⟨g, q / 8, none⟩ : Addr).block from hg) (.int .u8 (v : Int)))
          clear hvv hF1
          go_wp2_with fail
          go_roundw
          case rel => exact ⟨j + 1, q + 1, out.set (q / 8) v, val_int (half_next HXj.out), by go_num, Lib.hid (by have := HQ.out; omega), by omega, HF1, HO1, HB1⟩
          case measure => simp [intOf]; omega
        · have t3 : ((X : Int) % 2 == 1) = false := beq_eq_false_iff_ne.2 (by omega)
          have HF1 := Lib.hid (HF.out.even (show x / 2 ^ j % 2 = 0 by rw [HXj.out]; omega))
          go_wp2_with fail
          go_roundw
          case rel => exact ⟨j + 1, q + 1, out, val_int (half_next HXj.out), by go_num, Lib.hid (by have := HQ.out; omega), by omega, HF1, HO, HBr⟩
          case measure => simp [intOf]; omega
      · have t1 : (0 : Int) < (X : Int) := by omega
        have t2 : ¬ (q : Int) < 8 * (n : Int) := by omega
        go_wp2_with fail
        go_ret
        exact ⟨out, j, _, c', rfl, HF.out, by have := HQ.out; omega, HO.out, HBr.out⟩
set_option maxHeartbeats 800000 in
theorem flip_even (a : Option Addr) (n c : Nat) (l : List Nat) (p x x0 : Nat) (w : World) (hl : Row w a n l) (hc0 : a = none → c = 0) (hn : n ≤ 400) (hp : p < 8 * n) (hx : x < 4294967296) (hodd : x % 2 = 1) (hx0 : x = x0 + 1) :
    Calls Try.prog 19 #[.slice a n c, .int .i64 (p : Int), .int .i64 (x0 : Int)] w (Flips l n p x w) := by
  have hll := hl.1
  have hbs := Lib.hid hl.2.1
  have HC := Lib.hid hc0
  have HST := Lib.hid (Crc.Flipped.start l p x hl.2.1)
  have hpm : p < 8 * n := hp
  have tn : ((n : Int) == 0) = false := beq_eq_false_iff_ne.2 (by omega)
  have tx : ((x0 : Int) % 2 == 0) = true := beq_iff_eq.2 (by omega)
  have lx0 : x0 < 4294967296 := by omega
  have HX0 := Lib.hid hx0
  have HX2 := Lib.hid hodd
  have e8 : ((8 * n : Nat) : Int) = 8 * (n : Int) := by omega
  have m8 := mod_any p (8 * n)
  rw [e8] at m8
  have M8 := Lib.hid m8
  have M32 := Lib.hid (mod_any x0 4294967296)
  clear hc0 hodd e8 m8 hx0
  go_enter Try.func19, Try.ntmps19
  go_wp2_with fail
  refine (twin_any a n c l _ hl HC.out (by omega)).mono ?_
  rintro e w1 ⟨a', c', rfl, hown, hb1⟩
  rw [hll] at hown
  rw [hll]
  obtain ⟨g, rfl, hg, hcap⟩ := own_some hown (by omega)
  have HL := Lib.hid hll
  have HOWN := Lib.hid hown
  have HB := Lib.hid hb1
  clear hll hown hb1 hl
  go_wp2_with fail
  refine (M8.out _ hpm (by omega)).mono ?_
  rintro e w' ⟨rfl, rfl⟩
  go_wp2_with fail
  refine (M32.out _ lx0 (by omega)).mono ?_
  rintro e w' ⟨rfl, rfl⟩
  go_wp2_with fail
  go_loopw [9, 10] (fun xv iv wr => ∃ (j q : Nat) (out : List Nat), xv = .int .i64 ((x / 2 ^ j : Nat) : Int) ∧ iv = .int .i64 (q : Int) ∧ Hid (q = p + j) ∧ q ≤ 8 * n ∧ Hid (Crc.Flipped l out p x j) ∧ Hid (wr.ownsRow w.heap.size 5 1 (.slice (some ⟨g, 0, none⟩) n c') n (bytesOf out)) ∧ Hid (Below w.heap.size w wr)) (fun _ iv _ => 8 * n - (intOf iv).toNat)
  case atStart => exact ⟨0, p, l, val_int (by rw [Nat.pow_zero, Nat.div_one]; have := HX0.out; omega), rfl, Lib.hid rfl, by omega, HST, HOWN, HB⟩
  case round =>
    obtain ⟨j, q, out, rfl, rfl, HQ, hq, HF, HO, HBr⟩ := hrel
    have hxj : x / 2 ^ j < 4294967296 := Nat.lt_of_le_of_lt (Nat.div_le_self _ _) hx
    obtain ⟨X, hX⟩ : ∃ X, x / 2 ^ j = X := ⟨_, rfl⟩
    rw [hX] at hxj ⊢
    have HXj := Lib.hid hX
    clear hX
    by_cases h0 : X = 0
    · have tz : ¬ (0 : Int) < (X : Int) := by omega
      go_wp2_with fail
      go_ret
      refine ⟨out, j, _, c', rfl, HF.out, ?_, HO.out, HBr.out⟩
      rcases Nat.eq_zero_or_pos j with hj | hj
      · subst hj
        have h1 := HXj.out
        have h2 := HX2.out
        rw [Nat.pow_zero, Nat.div_one] at h1
        omega
      · exact hj
    · by_cases hq8 : q < 8 * n
      · have t1 : (0 : Int) < (X : Int) := by omega
        have t2 : (q : Int) < 8 * (n : Int) := by omega
        have hcl : q / 8 < n := by omega
        have cl : wr.cell? ⟨g, q / 8, none⟩ = some (.int .u8 ((out.getD (q / 8) 0 : Nat) : Int)) := by
          rw [HO.out.cellAt (q / 8) (by omega), bytesOf_get (by rw [HF.out.len, HL.out]; exact hcl)]
        have fz : wr.frozen? ⟨g, q / 8, none⟩ = false := HO.out.frozenAt _
        have hy : out.getD (q / 8) 0 < 256 := getD_lt HF.out.small _
        obtain ⟨y, hyy⟩ : ∃ y, out.getD (q / 8) 0 = y := ⟨_, rfl⟩
        rw [hyy] at cl hy
        have HY := Lib.hid hyy
        clear hyy
        by_cases hod : X % 2 = 1
        · have t3 : ((X : Int) % 2 == 1) = true := beq_iff_eq.2 (by omega)
          have hv := flip_value (q := q) hy
          obtain ⟨v, hvv⟩ : ∃ v, y ^^^ 2 ^ (q % 8) = v := ⟨_, rfl⟩
          rw [hvv] at hv
          have hF1 : Crc.Flipped l (out.set (q / 8) v) p x (j + 1) := by
            have := HF.out.odd (by rw [HXj.out]; exact hod) (by rw [HL.out, ← HQ.out]; exact hq8)
            rw [← HQ.out, HY.out, hvv] at this
            exact this
          have HF1 := Lib.hid hF1
          have HO1 := Lib.hid (show (wr.setCell ⟨g, q / 8, none⟩ (.int .u8 (v : Int))).ownsRow w.heap.size 5 1 (.slice (some ⟨g, 0, none⟩) n c') n (bytesOf (out.set (q / 8) v)) by
            rw [← bytesOf_set]; exact (HO.out.stored (q / 8) _).1)
          have HB1 := Lib.hid (HBr.out.setCell (show w.heap.size ≤ (⟨g, q / 8, none⟩ : Addr).block from hg) (.int .u8 (v : Int)))
          clear hvv hF1
          go_wp2_with fail
          go_roundw
          case rel => exact ⟨j + 1, q + 1, out.set (q / 8) v, val_int (half_next HXj.out), by go_num, Lib.hid (by have := HQ.out; omega), by omega, HF1, HO1, HB1⟩
          case measure => simp [intOf]; omega
        · have t3 : ((X : Int) % 2 == 1) = false := beq_eq_false_iff_ne.2 (by omega)
          have HF1 := Lib.hid (HF.out.even (show x / 2 ^ j % 2 = 0 by rw [HXj.out]; omega))
          go_wp2_with fail
          go_roundw
          case rel => exact ⟨j + 1, q + 1, out, val_int (half_next HXj.out), by go_num, Lib.hid (by have := HQ.out; omega), by omega, HF1, HO, HBr⟩
          case measure => simp [intOf]; omega
      · have t1 : (0 : Int) < (X : Int) := by omega
        have t2 : ¬ (q : Int) < 8 * (n : Int) := by omega
        go_wp2_with fail
        go_ret
        exact ⟨out, j, _, c', rfl, HF.out, by have := HQ.out; omega, HO.out, HBr.out⟩
theorem flip_any (a : Option Addr) (n c : Nat) (l : List Nat) (p x0 : Nat) (w : World) (hl : Row w a n l) (hc0 : a = none → c = 0) (hn : n ≤ 400) (hp : p < 8 * n) (hx0 : x0 < 4294967296) :
    ∃ x, x < 4294967296 ∧ x % 2 = 1 ∧ Calls Try.prog 19 #[.slice a n c, .int .i64 (p : Int), .int .i64 (x0 : Int)] w (Flips l n p x w) := by
  by_cases h : x0 % 2 = 1
  · exact ⟨x0, hx0, h, flip_odd a n c l p x0 w hl hc0 hn hp hx0 h⟩
  · exact ⟨x0 + 1, by omega, by omega, flip_even a n c l p (x0 + 1) x0 w hl hc0 hn hp (by omega) (by omega) rfl⟩
end Go.Proofs.Ytjnlgckjglmijaa

/-
  How often a cell is met when all addresses are gone through: just once. No Go in sight.
-/
import Derived.Test.YtigibbekbncpiaaRows
namespace Go.Proofs.Ytigibbekbncpiaa
namespace Geo
/-- one of the four kinds of cells: rows of T cells from B on, N rows: does cell x lie at row i, place k? -/
def at1 (B N T x : Int) (i k : Nat) : Nat := if (i : Int) < N ∧ (k : Int) < T ∧ B + i * T + k = x then 1 else 0
def row1 (B N T x : Int) (i : Nat) : Nat → Nat
  | 0 => 0
  | k + 1 => row1 B N T x i k + at1 B N T x i k
theorem row1_eq (B N T x : Int) (i m : Nat) (hT : T ≤ m) (_h0 : 0 ≤ T) : row1 B N T x i m = if (i : Int) < N ∧ B + i * T ≤ x ∧ x < B + i * T + T then 1 else 0 := by
  have key : ∀ k : Nat, row1 B N T x i k = if (i : Int) < N ∧ B + i * T ≤ x ∧ x < B + i * T + T ∧ x < B + i * T + k then 1 else 0 := by
    intro k
    induction k with
    | zero => rw [row1, if_neg (by omega)]
    | succ k ih =>
      rw [row1, ih, at1]
      generalize (i : Int) * T = y
      split <;> split <;> split <;> omega
  rw [key m]
  generalize (i : Int) * T = y
  split <;> split <;> omega
/-- what a cell is met in all -/
def hits (A L Z P x : Int) (i k : Nat) : Nat :=
  at1 A 2 L x i k + at1 (A + 2 * L) Z 2 x i k + at1 (A + 2 * L + 2 * Z) Z P x i k + at1 0 1 A x i k
def hitsRow (A L Z P x : Int) (i : Nat) : Nat → Nat
  | 0 => 0
  | k + 1 => hitsRow A L Z P x i k + hits A L Z P x i k
def hitsAll (A L Z P x : Int) : Nat → Nat
  | 0 => 0
  | i + 1 => hitsAll A L Z P x i + hitsRow A L Z P x i 30
theorem hitsRow_eq (A L Z P x : Int) (i k : Nat) : hitsRow A L Z P x i k = row1 A 2 L x i k + row1 (A + 2 * L) Z 2 x i k + row1 (A + 2 * L + 2 * Z) Z P x i k + row1 0 1 A x i k := by
  induction k with
  | zero => rfl
  | succ k ih => simp only [hitsRow, row1, ih, hits]; omega
theorem rows4 (B N T x : Int) (hN0 : 0 ≤ N) (hN : N ≤ 4) (hT0 : 0 ≤ T) (hT : T ≤ 30) :
    row1 B N T x 0 30 + row1 B N T x 1 30 + row1 B N T x 2 30 + row1 B N T x 3 30 = if B ≤ x ∧ x < B + N * T then 1 else 0 := by
  rw [row1_eq B N T x 0 30 hT hT0, row1_eq B N T x 1 30 hT hT0, row1_eq B N T x 2 30 hT hT0, row1_eq B N T x 3 30 hT hT0]
  have hh : N = 0 ∨ N = 1 ∨ N = 2 ∨ N = 3 ∨ N = 4 := by omega
  rcases hh with rfl | rfl | rfl | rfl | rfl
  all_goals
    have e0 : ((0 : Nat) : Int) = 0 := rfl
    have e1 : ((1 : Nat) : Int) = 1 := rfl
    have e2 : ((2 : Nat) : Int) = 2 := rfl
    have e3 : ((3 : Nat) : Int) = 3 := rfl
    rw [e0, e1, e2, e3]
    split <;> split <;> split <;> split <;> split <;> omega
theorem hits_one (A L Z P x : Int) (hA : 1 ≤ A) (hA3 : A ≤ 3) (hL : 14 ≤ L) (hL2 : L ≤ 30) (hZ : 1 ≤ Z) (hZ4 : Z ≤ 4) (hP : 2 ≤ P) (hP7 : P ≤ 7) (hx : 0 ≤ x) (hn : x < A + 2 * L + 2 * Z + Z * P) :
    hitsAll A L Z P x 4 = 1 := by
  have r1 := rows4 A 2 L x (by omega) (by omega) (by omega) (by omega)
  have r2 := rows4 (A + 2 * L) Z 2 x (by omega) (by omega) (by omega) (by omega)
  have r3 := rows4 (A + 2 * L + 2 * Z) Z P x (by omega) (by omega) (by omega) (by omega)
  have r4 := rows4 0 1 A x (by omega) (by omega) (by omega) (by omega)
  simp only [hitsAll, hitsRow_eq]
  generalize row1 A 2 L x 0 30 = a0 at *
  generalize row1 A 2 L x 1 30 = a1 at *
  generalize row1 A 2 L x 2 30 = a2 at *
  generalize row1 A 2 L x 3 30 = a3 at *
  generalize row1 (A + 2 * L) Z 2 x 0 30 = b0 at *
  generalize row1 (A + 2 * L) Z 2 x 1 30 = b1 at *
  generalize row1 (A + 2 * L) Z 2 x 2 30 = b2 at *
  generalize row1 (A + 2 * L) Z 2 x 3 30 = b3 at *
  generalize row1 (A + 2 * L + 2 * Z) Z P x 0 30 = c0 at *
  generalize row1 (A + 2 * L + 2 * Z) Z P x 1 30 = c1 at *
  generalize row1 (A + 2 * L + 2 * Z) Z P x 2 30 = c2 at *
  generalize row1 (A + 2 * L + 2 * Z) Z P x 3 30 = c3 at *
  generalize row1 0 1 A x 0 30 = d0 at *
  generalize row1 0 1 A x 1 30 = d1 at *
  generalize row1 0 1 A x 2 30 = d2 at *
  generalize row1 0 1 A x 3 30 = d3 at *
  have hm : Z * 2 = 2 * Z := Int.mul_comm ..
  rw [hm] at r2
  have hp : 0 ≤ Z * P := Int.mul_nonneg (by omega) (by omega)
  generalize Z * P = q at *
  split at r1 <;> split at r2 <;> split at r3 <;> split at r4 <;> omega

theorem at1_le (B N T x : Int) (i k : Nat) : at1 B N T x i k ≤ 1 := by unfold at1; split <;> omega
theorem hits_le (A L Z P x : Int) (i k : Nat) : hits A L Z P x i k ≤ 4 := by
  have := at1_le A 2 L x i k; have := at1_le (A + 2 * L) Z 2 x i k; have := at1_le (A + 2 * L + 2 * Z) Z P x i k; have := at1_le 0 1 A x i k
  unfold hits; omega
theorem hitsRow_le (A L Z P x : Int) (i k : Nat) : hitsRow A L Z P x i k ≤ 4 * k := by
  induction k with
  | zero => simp [hitsRow]
  | succ k ih => have := hits_le A L Z P x i k; simp only [hitsRow]; omega
theorem hitsAll_le (A L Z P x : Int) (i : Nat) : hitsAll A L Z P x i ≤ 120 * i := by
  induction i with
  | zero => simp [hitsAll]
  | succ i ih => have := hitsRow_le A L Z P x i 30; simp only [hitsAll]; omega
theorem at1_yes {B N T : Int} {i k : Nat} (hi : (i : Int) < N) (hk : (k : Int) < T) (x : Int) : at1 B N T x i k = if B + i * T + k = x then 1 else 0 := by
  unfold at1
  by_cases h : B + i * T + k = x
  · rw [if_pos ⟨hi, hk, h⟩, if_pos h]
  · rw [if_neg (fun hh => h hh.2.2), if_neg h]
theorem at1_no {B N T : Int} {i k : Nat} (h : ¬ ((i : Int) < N ∧ (k : Int) < T)) (x : Int) : at1 B N T x i k = 0 := by
  unfold at1
  rw [if_neg (fun hh => h ⟨hh.1, hh.2.1⟩)]
end Geo
end Go.Proofs.Ytigibbekbncpiaa

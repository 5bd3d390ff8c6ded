/-
  For GeomParts: what each address told comes to, and the row of counts in memory.
-/
import Derived.Test.YtigibbekbncpiaaWalks5
import Derived.Test.YtigibbekbncpiaaGeo
import Derived.Laws.MakeOwn
import Derived.Laws.OwnMore
import Derived.Deep.CutRange
namespace Go.Proofs.Ytigibbekbncpiaa
open Go.ChangeShapes Go.WideShapes Go.ChangeAt Go.RowKit
set_option linter.unusedVariables false

/-- the row of counts: n cells of block m -/
def Met (m n : Nat) (f : Nat → Nat) (W : World) : Prop := ∀ x, x < n → W.cell? ⟨m, x, none⟩ = some (.int .i64 ((f x : Nat) : Int)) ∧ W.frozen? ⟨m, x, none⟩ = false
theorem Met.step {m n : Nat} {f : Nat → Nat} {W W' : World} (h : Met m n f W) (hb : Below W.heap.size W W') : Met m n f W' := fun x hx => by
  have hlt := World.block_lt_of_cell? _ _ (h x hx).1
  exact ⟨(hb.cell hlt).trans (h x hx).1, (hb.frozen hlt).trans (h x hx).2⟩
theorem Met.same {m n : Nat} {f g : Nat → Nat} {W : World} (h : Met m n f W) (hfg : ∀ x, x < n → g x = f x) : Met m n g W := fun x hx => by rw [hfg x hx]; exact h x hx
theorem Met.hit {m n : Nat} {f g : Nat → Nat} {W : World} (h : Met m n f W) {p : Nat} (hp : p < n) (hg : ∀ x, x < n → g x = f x + if (p : Int) = (x : Int) then 1 else 0) :
    Met m n g (W.setCell ⟨m, p, none⟩ (.int .i64 (((f p : Nat) : Int) + 1))) := fun x hx => by
  rw [hg x hx]
  refine ⟨?_, (World.frozen?_setCell _ _ _ _).trans (h x hx).2⟩
  by_cases hxp : p = x
  · subst hxp
    rw [if_pos rfl]
    have := World.cell?_setCell_same W ⟨m, p, none⟩ (.int .i64 (((f p : Nat) : Int) + 1)) (by rw [(h p hx).1])
    rw [this]
    congr 2
  · rw [if_neg (by omega), World.cell?_setCell_other W _ _ _ (by intro e; injection e with _ e2; exact hxp e2)]
    exact (h x hx).1
/-- an address told: a cell's, and which; or none -/
def Told (f : FuncId) (args : Array Value) (n : Nat) (c : Int → Nat) (v ev : Int) (b : Bool) : Prop :=
  (∀ w, Calls Try.prog f args w fun e w' => e = .returned (.tuple #[.int .i64 v, .int .i64 ev]) ∧ Below w.heap.size w w') ∧
    ((b = true ∧ ev = 0 ∧ ∃ p : Nat, v = (p : Int) ∧ p < n ∧ ∀ x, c x = if (p : Int) = x then 1 else 0) ∨ (b = false ∧ ev = 1 ∧ v = 0 ∧ ∀ x, c x = 0))
theorem log_told {z d s l a : Int} {n : Nat} (h : okB z d s l a = true) (hn : a + 2 * l + 2 * z + z * (d + 1 + s) = (n : Int)) (i k : Nat) :
    ∃ (v ev : Int) (b : Bool), Told 15 #[.agg #[.int .i64 z, .int .i64 d, .int .i64 s, .int .i64 l, .int .i64 a], .int .i64 (i : Int), .int .i64 (k : Int)] n (fun x => Geo.at1 a 2 l x i k) v ev b := by
  have bd := okB_bounds h
  obtain ⟨zp0, zp1⟩ := zp_bounds h
  by_cases hi : (i : Int) < 2
  · by_cases hk : (k : Int) < l
    · have hc : inB i 0 1 = true := inB_yes (by omega) (by omega)
      have hkk : inB k 0 (l - 1) = true := inB_yes (by omega) (by omega)
      have hcl := cl_bounds (l := l) hc (by omega)
      have hcl2 : (i : Int) * l ≤ l := by
        have := Int.mul_le_mul_of_nonneg_right (show (i : Int) ≤ 1 by omega) (show 0 ≤ l by omega)
        omega
      obtain ⟨p, hp⟩ := Int.eq_ofNat_of_zero_le (show 0 ≤ a + (i : Int) * l + k by omega)
      refine ⟨(p : Int), 0, true, fun w => hp ▸ Log_yes z d s l a i k w h hc hkk, .inl ⟨rfl, rfl, p, rfl, by omega, fun x => ?_⟩⟩
      show Geo.at1 _ _ _ x i k = _
      rw [Geo.at1_yes hi hk, hp]
    · refine ⟨0, 1, false, fun w => Log_no2 z d s l a i k w h (inB_yes (by omega) (by omega)) (inB_no2 (by omega)), .inr ⟨rfl, rfl, rfl, fun x => Geo.at1_no (fun hh => hk hh.2) x⟩⟩
  · refine ⟨0, 1, false, fun w => Log_no1 z d s l a i k w h (inB_no2 (by omega)), .inr ⟨rfl, rfl, rfl, fun x => Geo.at1_no (fun hh => hi hh.1) x⟩⟩
theorem table_told {z d s l a : Int} {n : Nat} (h : okB z d s l a = true) (hn : a + 2 * l + 2 * z + z * (d + 1 + s) = (n : Int)) (i k : Nat) :
    ∃ (v ev : Int) (b : Bool), Told 16 #[.agg #[.int .i64 z, .int .i64 d, .int .i64 s, .int .i64 l, .int .i64 a], .int .i64 (i : Int), .int .i64 (k : Int)] n (fun x => Geo.at1 (a + 2 * l) z 2 x i k) v ev b := by
  have bd := okB_bounds h
  obtain ⟨zp0, zp1⟩ := zp_bounds h
  by_cases hi : (i : Int) < z
  · by_cases hk : (k : Int) < 2
    · have hc : inB i 0 (z - 1) = true := inB_yes (by omega) (by omega)
      have hkk : inB k 0 1 = true := inB_yes (by omega) (by omega)
      obtain ⟨p, hp⟩ := Int.eq_ofNat_of_zero_le (show 0 ≤ a + 2 * l + 2 * (i : Int) + k by omega)
      refine ⟨(p : Int), 0, true, fun w => hp ▸ Table_yes z d s l a i k w h hc hkk, .inl ⟨rfl, rfl, p, rfl, by omega, fun x => ?_⟩⟩
      show Geo.at1 _ _ _ x i k = _
      rw [Geo.at1_yes hi hk, show a + 2 * l + (i : Int) * 2 + k = (p : Int) by omega]
    · refine ⟨0, 1, false, fun w => Table_no2 z d s l a i k w h (inB_yes (by omega) (by omega)) (inB_no2 (by omega)), .inr ⟨rfl, rfl, rfl, fun x => Geo.at1_no (fun hh => hk hh.2) x⟩⟩
  · refine ⟨0, 1, false, fun w => Table_no1 z d s l a i k w h (inB_no2 (by omega)), .inr ⟨rfl, rfl, rfl, fun x => Geo.at1_no (fun hh => hi hh.1) x⟩⟩
theorem slot_told {z d s l a : Int} {n : Nat} (h : okB z d s l a = true) (hn : a + 2 * l + 2 * z + z * (d + 1 + s) = (n : Int)) (i k : Nat) :
    ∃ (v ev : Int) (b : Bool), Told 17 #[.agg #[.int .i64 z, .int .i64 d, .int .i64 s, .int .i64 l, .int .i64 a], .int .i64 (i : Int), .int .i64 (k : Int)] n (fun x => Geo.at1 (a + 2 * l + 2 * z) z (d + 1 + s) x i k) v ev b := by
  have bd := okB_bounds h
  obtain ⟨zp0, zp1⟩ := zp_bounds h
  by_cases hi : (i : Int) < z
  · by_cases hk : (k : Int) < d + 1 + s
    · have hc : inB i 0 (z - 1) = true := inB_yes (by omega) (by omega)
      have hkk : inB k 0 (d + 1 + s - 1) = true := inB_yes (by omega) (by omega)
      have hip := ip_bounds (i := i) (p := d + 1 + s) (by omega) (by omega)
      have hle : ((i : Int) + 1) * (d + 1 + s) ≤ z * (d + 1 + s) := Int.mul_le_mul_of_nonneg_right (by omega) (by omega)
      rw [Int.add_mul, Int.one_mul] at hle
      obtain ⟨p, hp⟩ := Int.eq_ofNat_of_zero_le (show 0 ≤ a + 2 * l + 2 * z + (i : Int) * (d + 1 + s) + k by omega)
      refine ⟨(p : Int), 0, true, fun w => hp ▸ Slot_yes z d s l a i k w h hc hkk, .inl ⟨rfl, rfl, p, rfl, by omega, fun x => ?_⟩⟩
      show Geo.at1 _ _ _ x i k = _
      rw [Geo.at1_yes hi hk, hp]
    · refine ⟨0, 1, false, fun w => Slot_no2 z d s l a i k w h (inB_yes (by omega) (by omega)) (inB_no2 (by omega)), .inr ⟨rfl, rfl, rfl, fun x => Geo.at1_no (fun hh => hk hh.2) x⟩⟩
  · refine ⟨0, 1, false, fun w => Slot_no1 z d s l a i k w h (inB_no2 (by omega)), .inr ⟨rfl, rfl, rfl, fun x => Geo.at1_no (fun hh => hi hh.1) x⟩⟩
/-- an anchor's, in the first round alone -/
theorem anchor_told {z d s l a : Int} {n : Nat} (h : okB z d s l a = true) (hn : a + 2 * l + 2 * z + z * (d + 1 + s) = (n : Int)) (k : Nat) :
    ∃ (v ev : Int) (b : Bool), Told 18 #[.agg #[.int .i64 z, .int .i64 d, .int .i64 s, .int .i64 l, .int .i64 a], .int .i64 (k : Int)] n (fun x => Geo.at1 0 1 a x 0 k) v ev b := by
  have bd := okB_bounds h
  obtain ⟨zp0, zp1⟩ := zp_bounds h
  by_cases hk : (k : Int) < a
  · have hkk : inB k 0 (a - 1) = true := inB_yes (by omega) (by omega)
    refine ⟨(k : Int), 0, true, fun w => Anchor_yes z d s l a k w h hkk, .inl ⟨rfl, rfl, k, rfl, by omega, fun x => ?_⟩⟩
    show Geo.at1 _ _ _ x 0 k = _
    rw [Geo.at1_yes (by decide) hk, show (0 : Int) + ((0 : Nat) : Int) * a + k = (k : Int) by simp]
  · exact ⟨0, 1, false, fun w => Anchor_no z d s l a k w h (inB_no2 (by omega)), .inr ⟨rfl, rfl, rfl, fun x => Geo.at1_no (fun hh => hk hh.2) x⟩⟩
end Go.Proofs.Ytigibbekbncpiaa

/-
  The contracts of package sum's exported functions.
-/
import Derived.Test.YtjnlgckjglmijaaWalks
import Derived.Lib.SlBytesConst
namespace Go.Proofs.Ytjnlgckjglmijaa
open Go.ChangeShapes Go.WideShapes Go.ChangeAt Go.RowKit
set_option linter.unusedVariables false
theorem not_u32 {x : Nat} (hx : x < 4294967296) : bits .xor .u32 IntKind.u32.max (x : Int) = ((x ^^^ Crc.ones : Nat) : Int) := by
  rw [show IntKind.u32.max = ((Crc.ones : Nat) : Int) from by decide +kernel, u32_xor_nat _ _ Crc.ones_lt hx, Nat.xor_comm]
theorem of_any (a : Option Addr) (n cap : Nat) (l : List Nat) (w : World) (hl : Row w a n l) (hn : n ≤ maxLen) :
    Calls Try.prog 15 #[.slice a n cap] w fun e w' => e = .returned (.int .i64 (Crc.sum l : Nat)) ∧ w = w' := by
  have hx : Crc.on 4294967295 l < 4294967296 := Crc.on_lt l Crc.ones_lt hl.2.1
  have hx' := Crc.xor_lt hx Crc.ones_lt
  have hs := Lib.hid (Crc.sum_eq l)
  have hk := not_u32 hx
  generalize hq : Crc.on 4294967295 l ^^^ Crc.ones = q at *
  clear hq
  go_enter Try.func15, Try.ntmps15
  go_wp2_with (go_at_call 21; refine (on_any 4294967295 _ _ _ _ _ Crc.ones_lt hl hn).mono ?_; rintro e w' ⟨rfl, rfl⟩)
  go_ret
  exact ⟨ret_i64 (by rw [hs.out]; exact IntWalk.wrap64_in q ⟨by omega, by omega⟩), rfl⟩
theorem table_ok (i : Nat) (w : World) (hi : i < 256) :
    Calls Try.prog 12 #[.int .i64 (i : Int)] w fun e w' => e = .returned (.tuple #[.int .i64 (Crc.eight i : Nat), .int .i64 0]) ∧ w = w' := by
  have hx := Crc.eight_lt (a := i) (by omega)
  have hm : (i : Int) % 4294967296 = i := by omega
  go_enter Try.func12, Try.ntmps12
  go_wp2_with (go_at_call 22; refine (down_any _ _ (by omega)).mono ?_; rintro e w' ⟨rfl, rfl⟩)
  go_ret2
  exact ⟨rfl, rfl⟩
theorem table_bad (i : Int) (w : World) (hi : i < 0 ∨ 255 < i) :
    Calls Try.prog 12 #[.int .i64 i] w fun e w' => e = .returned (.tuple #[.int .i64 0, .int .i64 1]) ∧ w = w' := by
  rcases hi with hi | hi
  · go_enter Try.func12, Try.ntmps12
    go_wp2
    go_ret2
    exact ⟨rfl, rfl⟩
  · have h0 : ¬ i < 0 := by omega
    go_enter Try.func12, Try.ntmps12
    go_wp2
    go_ret2
    exact ⟨rfl, rfl⟩
theorem more_ok (m : Nat) (a : Option Addr) (n cap : Nat) (l : List Nat) (w : World) (hm : m < 4294967296) (hl : Row w a n l) (hn : n ≤ maxLen) :
    Calls Try.prog 11 #[.int .i64 (m : Int), .slice a n cap] w fun e w' => e = .returned (.tuple #[.int .i64 ((Crc.on (m ^^^ Crc.ones) l ^^^ Crc.ones : Nat) : Int), .int .i64 0]) ∧ w = w' := by
  have hk := not_u32 hm
  have hm' := Crc.xor_lt hm Crc.ones_lt
  have hx := Crc.on_lt l hm' hl.2.1
  have hx' := Crc.xor_lt hx Crc.ones_lt
  have hk' := not_u32 hx
  generalize m ^^^ Crc.ones = q at *
  generalize Crc.on q l ^^^ Crc.ones = t at *
  go_enter Try.func11, Try.ntmps11
  go_wp2_with fail
  refine (on_any _ _ _ _ _ _ hm' hl hn).mono ?_
  rintro e w' ⟨rfl, rfl⟩
  go_wp2_with fail
  go_ret2
  exact ⟨rfl, rfl⟩
theorem more_bad (s : Int) (a : Option Addr) (n cap : Nat) (w : World) (hi : s < 0 ∨ 4294967295 < s) :
    Calls Try.prog 11 #[.int .i64 s, .slice a n cap] w fun e w' => e = .returned (.tuple #[.int .i64 0, .int .i64 1]) ∧ w = w' := by
  rcases hi with hi | hi
  · go_enter Try.func11, Try.ntmps11
    go_wp2
    go_ret2
    exact ⟨rfl, rfl⟩
  · have h0 : ¬ s < 0 := by omega
    go_enter Try.func11, Try.ntmps11
    go_wp2
    go_ret2
    exact ⟨rfl, rfl⟩

/-! ### Bytes of the call's own -/
def cellsOf (l : List Nat) : Array Value := (l.map fun c : Nat => Value.int .u8 (c : Int)).toArray
theorem row_new (w : World) (l : List Nat) (hb : ∀ c ∈ l, c < 256) (t : TypeId) (f : Nat × Nat) (n : Nat) (hn : l.length = n) : Row (w.alloc (.cells (cellsOf l) t f)) (some ⟨w.heap.size, 0, none⟩) n l := by
  refine ⟨hn, hb, fun _ => ⟨_, _, rfl, fun j hj => ?_⟩⟩
  rw [Nat.zero_add]
  have hj' : j < l.length := by omega
  rw [cell_of_row _ _ j _ t f (heap_alloc_new w _)]
  simp [cellsOf, hj', List.getD_eq_getElem?_getD]
theorem Row.keep {w w' : World} {a : Option Addr} {n : Nat} {l : List Nat} (h : Row w a n l) (hk : ∀ b o, w.cell? ⟨b, o, none⟩ ≠ none → w'.cell? ⟨b, o, none⟩ = w.cell? ⟨b, o, none⟩) : Row w' a n l := by
  refine ⟨h.1, h.2.1, fun hn => ?_⟩
  obtain ⟨b, o, ha, hc⟩ := h.2.2 hn
  exact ⟨b, o, ha, fun j hj => by rw [hk _ _ (by rw [hc j hj]; simp)]; exact hc j hj⟩
theorem Row.below {w w' : World} {a : Option Addr} {n : Nat} {l : List Nat} (h : Row w a n l) (hb : Below w.heap.size w w') : Row w' a n l :=
  h.keep fun b o hne => hb.cell (p := ⟨b, o, none⟩) (by
    obtain ⟨v, hv⟩ := Option.ne_none_iff_exists'.1 hne
    exact World.block_lt_of_cell? _ _ hv)
theorem Row.alloc {w : World} {a : Option Addr} {n : Nat} {l : List Nat} (h : Row w a n l) (o : Obj) : Row (w.alloc o) a n l := h.below ((Below.refl _ _).alloc (Nat.le_refl _) _)
theorem of_below (l : List Nat) {c : Nat} (hc : Crc.sum l = c) {a : Option Addr} {n cap : Nat} {w : World} (hl : Row w a n l) (hn : n ≤ maxLen) :
    Calls Try.prog 15 #[.slice a n cap] w fun e w' => e = .returned (.int .i64 (c : Int)) ∧ Below w.heap.size w w' :=
  (hc ▸ of_any a n cap l w hl hn).mono fun e w' ⟨he, hw⟩ => ⟨he, hw ▸ Below.refl _ _⟩
theorem of_of (l : List Nat) {c : Nat} (hc : Crc.sum l = c) {a : Option Addr} {n cap : Nat} {w : World} (hl : Row w a n l) (hn : n ≤ maxLen) :
    Calls Try.prog 15 #[.slice a n cap] w fun e w' => e = .returned (.int .i64 (c : Int)) ∧ w = w' := hc ▸ of_any a n cap l w hl hn
theorem more_of (l k : List Nat) {m c : Nat} (hm : Crc.sum l = m) (hb : ∀ x ∈ l, x < 256) (hc : Crc.sum (l ++ k) = c) {a : Option Addr} {n cap : Nat} {w : World} (hl : Row w a n k) (hn : n ≤ maxLen) :
    Calls Try.prog 11 #[.int .i64 (m : Int), .slice a n cap] w fun e w' => e = .returned (.tuple #[.int .i64 (c : Int), .int .i64 0]) ∧ w = w' := by
  subst hm
  have h := more_ok (Crc.sum l) a n cap k w (Crc.sum_lt l hb) hl hn
  rw [Crc.sum_append, hc] at h
  exact h
theorem more_below (l k : List Nat) {m c : Nat} (hm : Crc.sum l = m) (hb : ∀ x ∈ l, x < 256) (hc : Crc.sum (l ++ k) = c) {a : Option Addr} {n cap : Nat} {w : World} (hl : Row w a n k) (hn : n ≤ maxLen) :
    Calls Try.prog 11 #[.int .i64 (m : Int), .slice a n cap] w fun e w' => e = .returned (.tuple #[.int .i64 (c : Int), .int .i64 0]) ∧ Below w.heap.size w w' :=
  (more_of l k hm hb hc hl hn).mono fun e w' ⟨he, hw⟩ => ⟨he, hw ▸ Below.refl _ _⟩
theorem table_zero (w : World) : Calls Try.prog 12 #[.int .i64 0] w fun e w' => e = .returned (.tuple #[.int .i64 0, .int .i64 0]) ∧ w = w' := table_ok 0 w (by decide)
theorem five_lt : ∀ x ∈ [49, 50, 51, 52, 53], x < 256 := by decide
theorem wakes_any (w : World) : Calls Try.prog 18 #[] w fun e w' => e = .returned (.bool true) ∧ Below w.heap.size w w' := by
  have kc := fun (w : World) (C : Array Value) (n c : Nat) => Lib.run_convert_bytes_const (P := Try.prog) w 22 5 C n c Try.underlying22 Try.underlying5
  go_enter Try.func18, Try.ntmps18
  go_wp2_with fail
  refine (table_zero _).mono ?_
  rintro e w' ⟨rfl, rfl⟩
  go_wp2_with fail
  refine (of_below [49, 50, 51, 52, 53] rfl (row_new _ _ (by decide) _ _ _ rfl) (by decide)).mono ?_
  rintro e w1 ⟨rfl, hb1⟩
  go_wp2_with fail
  refine (more_below [49, 50, 51, 52, 53] [54, 55, 56, 57] rfl (by decide) Crc.nine (row_new _ _ (by decide) _ _ _ rfl) (by decide)).mono ?_
  rintro e w2 ⟨rfl, hb2⟩
  go_wp2_with fail
  refine (of_below [49, 50, 51, 52, 53, 54, 55, 56, 57] Crc.nine (row_new _ _ (by decide) _ _ _ rfl) (by decide)).mono ?_
  rintro e w3 ⟨rfl, hb3⟩
  go_wp2_with fail
  go_ret
  refine ⟨rfl, ?_⟩
  have g1 : Below w.heap.size w w1 := ((Below.refl _ _).alloc (Nat.le_refl _) _).trans (hb1.mono (by simp))
  have g2 : Below w.heap.size w w2 := (g1.alloc g1.size _).trans (hb2.mono (by have := g1.size; simp; omega))
  exact (g2.alloc g2.size _).trans (hb3.mono (by have := g2.size; simp; omega))

/-! ### Numbers -/
theorem table_is {i A : Nat} (w : World) (hi : i < 256) (h : Crc.eight i = A) :
    Calls Try.prog 12 #[.int .i64 (i : Int)] w fun e w' => e = .returned (.tuple #[.int .i64 (A : Int), .int .i64 0]) ∧ w = w' := h ▸ table_ok i w hi
theorem xor_i64 (a b : Nat) (ha : a < 4294967296) (hb : b < 4294967296) : bits .xor .i64 (a : Int) (b : Int) = ((a ^^^ b : Nat) : Int) := by
  have hx : a ^^^ b < 4294967296 := Crc.xor_lt ha hb
  show IntKind.i64.wrap ((BitVec.ofInt 64 (a : Int) ^^^ BitVec.ofInt 64 (b : Int)).toNat : Int) = _
  rw [BitVec.toNat_xor, ofInt_u64 a (by omega), ofInt_u64 b (by omega)]
  exact IntWalk.i64_in _ ⟨by omega, by omega⟩
theorem umod (a : Int) (m : Nat) (hm : 0 < m) : ∃ x : Nat, (IntKind.u64.wrap a).tmod (m : Int) = (x : Int) ∧ x < m := by
  have h0 : 0 ≤ IntKind.u64.wrap a := by rw [IntKind.wrap_u64]; omega
  rw [Int.tmod_eq_emod_of_nonneg h0]
  have h1 := Int.emod_nonneg (IntKind.u64.wrap a) (b := (m : Int)) (by omega)
  have h2 := Int.emod_lt_of_pos (IntKind.u64.wrap a) (b := (m : Int)) (by omega)
  obtain ⟨x, hx⟩ := Int.eq_ofNat_of_zero_le h1
  exact ⟨x, hx, by omega⟩
end Go.Proofs.Ytjnlgckjglmijaa

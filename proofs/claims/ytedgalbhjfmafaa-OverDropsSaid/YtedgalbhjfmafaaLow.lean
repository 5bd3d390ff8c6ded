/-
  Below the Log: some number, some bytes.
-/
import Derived.Test.YtedgalbhjfmafaaExact0
import Derived.IntWalk
namespace Go.Proofs.Ytedgalbhjfmafaa
open Go.ChangeShapes Go.WideShapes Go.ChangeAt Go.RowKit
set_option linter.unusedVariables false
theorem wrap64_in (x : Int) (h1 : -9223372036854775808 ≤ x) (h2 : x ≤ 9223372036854775807) : wrap64 x = x := by unfold wrap64; omega
theorem u64_rem (z : Int) (m : Nat) (hm : 0 < m) (hm' : m ≤ 1000) : ∃ Z : Nat, (IntKind.u64.wrap z).tmod (m : Int) = (Z : Int) ∧ Z < m := by
  have h0 : 0 ≤ IntKind.u64.wrap z := by
    have := IntKind.wrap_u64 z
    rw [this]
    exact Int.emod_nonneg _ (by decide)
  rw [Int.tmod_eq_emod_of_nonneg h0]
  have h1 := Int.emod_nonneg (IntKind.u64.wrap z) (show (m : Int) ≠ 0 by omega)
  have h2 := Int.emod_lt_of_pos (IntKind.u64.wrap z) (show (0 : Int) < m by omega)
  exact ⟨((IntKind.u64.wrap z) % (m : Int)).toNat, by omega, by omega⟩
theorem one_more (Z : Nat) (h : Z ≤ 1000) : wrap64 (1 + wrap64 (Z : Int)) = 1 + (Z : Int) := by
  have h1 : wrap64 (Z : Int) = (Z : Int) := wrap64_in (Z : Int) (by omega) (by omega)
  rw [h1]
  exact wrap64_in _ (by omega) (by omega)
set_option maxHeartbeats 400000 in
theorem Some_any (z d : Int) (w : World) : Calls Try.prog 22 #[.int .i64 z, .int .i64 d, .int .i64 1, .int .i64 20, .int .i64 0] w fun e w' => (∃ Z D : Nat, e = .returned (.agg #[.int .i64 (1 + (Z : Int)), .int .i64 (1 + (D : Int)), .int .i64 1, .int .i64 17, .int .i64 1]) ∧ Z < 4 ∧ D < 4) ∧ Below w.heap.size w w' := by
  obtain ⟨Z, hZ, hZ4⟩ := u64_rem z 4 (by decide) (by decide)
  obtain ⟨D, hD, hD4⟩ := u64_rem d 4 (by decide) (by decide)
  have HZ := Lib.hid hZ
  have HD := Lib.hid hD
  have HO1 := Lib.hid (one_more Z (by omega))
  have HO2 := Lib.hid (one_more D (by omega))
  clear hZ hD
  go_enter Try.func22, Try.ntmps22
  go_wp2_with fail
  refine bodyPost_ret (v := .agg #[.int .i64 (wrap64 (1 + wrap64 ((IntKind.u64.wrap z).tmod 4))), .int .i64 (wrap64 (1 + wrap64 ((IntKind.u64.wrap d).tmod 4))), .int .i64 1, .int .i64 17, .int .i64 1]) (by simp [results, Try.results22, go_sem]) rfl ⟨⟨Z, D, ?_, hZ4, hD4⟩, ?_⟩
  · have h1 := HZ.out
    have h2 := HD.out
    have h3 := HO1.out
    have h4 := HO2.out
    have h1 : (IntKind.u64.wrap z).tmod 4 = (Z : Int) := h1
    have h2 : (IntKind.u64.wrap d).tmod 4 = (D : Int) := h2
    rw [h1, h2, h3, h4]
  · exact (Below.refl _ _).alloc (Nat.le_refl _) _
/-! ### The sum -/
theorem down_ex (x : Int) (w : World) : Calls Try.prog 70 #[.int .i64 x] w fun e w' => (∃ y, e = .returned (.int .i64 y)) ∧ w = w' := by
  cases h : (x.tmod 2 == 1) with
  | true =>
    go_enter Try.func70, Try.ntmps70
    go_wp2_with fail
    go_ret
    exact ⟨⟨_, rfl⟩, rfl⟩
  | false =>
    go_enter Try.func70, Try.ntmps70
    go_wp2_with fail
    go_ret
    exact ⟨⟨_, rfl⟩, rfl⟩
theorem eight_ex (x : Int) (w : World) : Calls Try.prog 69 #[.int .i64 x] w fun e w' => (∃ y, e = .returned (.int .i64 y)) ∧ w = w' := by
  go_enter Try.func69, Try.ntmps69
  go_wp2_with fail
  go_loop [0, 3] (fun v i => ∃ k : Nat, k ≤ 8 ∧ i = .int .i64 k ∧ ∃ y, v = .int .i64 y) (fun _ i => 8 - (intOf i).toNat)
  case atStart => exact ⟨0, by omega, rfl, _, rfl⟩
  case round =>
    obtain ⟨k, hk, rfl, y, rfl⟩ := hrel
    by_cases hlt : k < 8
    · have i1 : (k : Int) < 8 := by omega
      go_wp2_with fail
      refine (down_ex _ _).mono ?_
      rintro e w' ⟨⟨y2, rfl⟩, rfl⟩
      go_wp2_with fail
      go_round
      case rel => exact ⟨k + 1, by omega, by go_num, _, rfl⟩
      case measure => simp [intOf]; omega
    · obtain rfl : k = 8 := by omega
      go_wp2_with fail
      go_ret
      exact ⟨⟨_, rfl⟩, rfl⟩
theorem more_ex (x : Int) (A : Option Addr) (n c : Nat) (bs : List Int) (p : Nat → Prop) (w : World) (h : Slc 1 (intE .u8) p w A n bs) (hn : n ≤ 1000) : Calls Try.prog 67 #[.int .i64 x, .slice A n c] w fun e w' => (∃ y, e = .returned (.int .i64 y)) ∧ w = w' := by
  have HS := Lib.hid h
  have HL := Lib.hid h.1
  clear h
  go_enter Try.func67, Try.ntmps67
  go_wp2_with fail
  go_loop [5, 6] (fun v i => ∃ k : Nat, k ≤ n ∧ i = .int .i64 k ∧ ∃ y, v = .int .i64 y) (fun _ i => n - (intOf i).toNat)
  case atStart => exact ⟨0, by omega, rfl, _, rfl⟩
  case round =>
    obtain ⟨k, hk, rfl, y, rfl⟩ := hrel
    by_cases hlt : k < n
    · obtain ⟨u, hu⟩ : ∃ u, bs[k]? = some u := ⟨_, List.getElem?_eq_getElem (by rw [HL.out]; exact hlt)⟩
      obtain ⟨b, o, rfl, c1⟩ := ints_at HS.out hu
      have i0 : (0 : Int) ≤ (k : Int) := by omega
      have i1 : (k : Int) < (n : Int) := by omega
      clear hu
      go_wp2_with fail
      refine (eight_ex _ _).mono ?_
      rintro e w' ⟨⟨y2, rfl⟩, rfl⟩
      go_wp2_with fail
      go_round
      case rel => exact ⟨k + 1, by omega, by go_num, _, rfl⟩
      case measure => simp [intOf]; omega
    · obtain rfl : k = n := by omega
      go_wp2_with fail
      go_ret
      exact ⟨⟨_, rfl⟩, rfl⟩
theorem sum_ex (A : Option Addr) (n c : Nat) (bs : List Int) (p : Nat → Prop) (w : World) (h : Slc 1 (intE .u8) p w A n bs) (hn : n ≤ 1000) : Calls Try.prog 60 #[.slice A n c] w fun e w' => (∃ y, e = .returned (.int .i64 y)) ∧ w = w' := by
  have HS := Lib.hid h
  clear h
  go_enter Try.func60, Try.ntmps60
  go_wp2_with fail
  refine (more_ex _ _ _ _ bs p _ HS.out hn).mono ?_
  rintro e w' ⟨⟨y2, rfl⟩, rfl⟩
  go_wp2_with fail
  go_ret
  exact ⟨⟨_, rfl⟩, rfl⟩
theorem entry_ex (s : Int) (A : Option Addr) (n c : Nat) (bs : List Int) (p : Nat → Prop) (w : World) (h : Slc 1 (intE .u8) p w A n bs) (hn : n ≤ 1000) : Calls Try.prog 46 #[.int .i64 s, .slice A n c] w fun e w' => (∃ y, e = .returned (.agg #[.int .i64 s, .int .i64 y, .bool false])) ∧ Below w.heap.size w w' := by
  have HS := Lib.hid h
  have HAL : Hid (Below w.heap.size w (w.alloc (.cells #[.int .i64 0, .int .i64 0, .bool false] 86))) := (Below.refl _ _).alloc (Nat.le_refl _) _
  clear h
  go_enter Try.func46, Try.ntmps46
  go_wp2_with fail
  refine (sum_ex _ _ _ bs p _ (HS.out.below (intE.good _) (by decide) HAL.out) hn).mono ?_
  rintro e w' ⟨⟨y2, rfl⟩, rfl⟩
  go_wp2_with fail
  refine bodyPost_ret (v := .agg #[.int .i64 s, .int .i64 y2, .bool false]) (by simp [results, Try.results46, go_sem]) rfl ⟨⟨_, rfl⟩, ?_⟩
  exact (Below.refl _ _).alloc (Nat.le_refl _) _
/-! ### Put -/
/-- bytes of the call's own -/
def OwnB (B : Nat) (wr : World) (v : Value) (zs : List Int) : Prop := wr.ownsRow B 5 1 v zs.length (zs.map (Value.int .u8))
theorem OwnB.bytes {B : Nat} {wr : World} {v : Value} {zs : List Int} (h : OwnB B wr v zs) : Bytes (Fr B wr) wr v zs := SlcV.of_own (intE.good _) h (Rw.of_ints zs) rfl (own_thawed h)
theorem ownB_snoc {B : Nat} {w2 : World} {v2 : Value} {ls : List Int} {z : Int} (h : w2.ownsRow B 5 1 v2 (ls.length + 1) (ls.map (Value.int .u8) ++ [.int .u8 z])) : OwnB B w2 v2 (ls ++ [z]) := by
  show World.ownsRow _ _ _ _ _ _ _
  rw [List.map_append, List.length_append]
  exact h
set_option maxHeartbeats 400000 in
theorem twin_own (A : Option Addr) (n c : Nat) (bs : List Int) (p : Nat → Prop) (w : World) (h : Slc 1 (intE .u8) p w A n bs) (hn : n ≤ 100000) :
    Calls Try.prog 29 #[.slice A n c] w (Gives (fun v w' => OwnB w.heap.size w' v bs) w) := by
  obtain ⟨i0, hi, hz0, hz1, hz2⟩ := info_parts info5
  obtain ⟨cells, hr, hw⟩ := h.cells_ (by decide)
  have hcells := (hw (intE.good _)).bytes
  subst hcells
  have HR := Lib.hid hr
  have HL := Lib.hid h.1
  have HO := Lib.hid (ints_one (q := .u8) bs)
  clear h hr hw
  go_enter Try.func29, Try.ntmps29
  go_wp2_with (at_builtin; (refine wpList_append_any _ rfl (.tmp 4) (.tmp 5) 29 rfl w.heap.size 5 i0 (.int .u8 0) 1 1 Try.underlying29 hi hz0 hz1 hz2 rfl (by decide) _ 0 [] rfl (World.ownsRow_nil _ _ _ _) w.heap.size A n c (bs.map (Value.int .u8)) rfl HR.out HO.out (by unfold maxLen; omega) (by omega) (Nat.le_refl _) ?_); intro v' w1 hown hgrow _)
  go_ret
  rw [Nat.zero_add, List.nil_append] at hown
  exact ⟨v', rfl, by show World.ownsRow _ _ _ _ _ _ _; rw [HL.out]; exact hown, (Below.refl _ _).grown hgrow (Nat.le_refl _) (fun k hk => by cases hk)⟩
set_option maxHeartbeats 800000 in
theorem putB_ex (A : Option Addr) (n c : Nat) (bs : List Int) (x : Int) (k : Nat) (p : Nat → Prop) (w : World) (h : Slc 1 (intE .u8) p w A n bs) (hn : n ≤ 1000) (hk : k ≤ 8) : Calls Try.prog 45 #[.slice A n c, .int .i64 x, .int .i64 (k : Int)] w (Gives (fun v w' => ∃ bs', Bytes (Fr w.heap.size w') w' v bs' ∧ bs'.length = n + k) w) := by
  obtain ⟨i0, hi, hz0, hz1, hz2⟩ := info_parts info5
  have HS := Lib.hid h
  have HL := Lib.hid h.1
  clear h
  go_enter Try.func45, Try.ntmps45
  go_wp2_with fail
  refine (twin_own _ _ _ bs p _ HS.out (by omega)).mono ?_
  rintro e w1 ⟨v1, rfl, hown, hb1⟩
  have HO1 := Lib.hid hown
  have HB1 := Lib.hid hb1
  clear hown hb1
  go_wp2_with fail
  go_loopw [1, 7, 8] (fun x v i wr => ∃ j : Nat, j ≤ k ∧ i = .int .i64 j ∧ (∃ y, x = .int .i64 y) ∧ (∃ ys : List Int, ys.length ≤ 1008 ∧ Hid (ys.length = n + j) ∧ Hid (OwnB w.heap.size wr v ys)) ∧ Hid (Below w.heap.size w wr)) (fun _ _ i _ => k - (intOf i).toNat)
  case atStart => exact ⟨0, by omega, rfl, ⟨_, rfl⟩, ⟨bs, by have := HL.out; omega, HL.out, HO1.out⟩, HB1.out⟩
  case round =>
    obtain ⟨j, hj, rfl, ⟨y, rfl⟩, ⟨ys, hys, HY, HO⟩, HB⟩ := hrel
    by_cases hlt : j < k
    · have i1 : (j : Int) < (k : Int) := by omega
      have HSZ := Lib.hid HB.out.size
      have hysj : ys.length ≤ 1007 := by have := HY.out; omega
      go_wp2_with (at_builtin; (refine wpList_append_any _ rfl (.tmp 16) (.tmp 19) 29 rfl w.heap.size 5 i0 (.int .u8 0) 1 1 Try.underlying29 hi hz0 hz1 hz2 rfl (by decide) _ _ _ rfl (World.ownsRow.alloc HO.out (.cells #[.int .u8 _] 5)) (wr.heap.size + 1) (some ⟨wr.heap.size, 0, none⟩) 1 1 [.int .u8 _] rfl ⟨rfl, fun _ => ⟨_, rfl, by simp, news_one _ _ _⟩⟩ (by simp [Value.oneCell']) (by unfold maxLen; omega) (by omega) (by have := HSZ.out; simp; omega) ?_); intro v2 w2 hown2 hgrow hat; have HO3 := Lib.hid (ownB_snoc hown2); have hB3 : Hid (Below w.heap.size w w2) := (HB.out.alloc HSZ.out _).grown hgrow (by have := HSZ.out; simp; omega) (fun g hg => (World.ownsRow.lt HO.out g hg).1); clear hown2 hgrow hat)
      go_roundw
      case rel => exact ⟨j + 1, by omega, by go_num, ⟨_, rfl⟩, ⟨_, by simp; omega, (by have := HY.out; simp; omega : _ = n + (j + 1)), HO3⟩, hB3⟩
      case measure => simp [intOf]; omega
    · obtain rfl : j = k := by omega
      go_wp2_with fail
      go_ret
      exact ⟨_, rfl, ⟨ys, HO.out.bytes, HY.out⟩, HB.out⟩
end Go.Proofs.Ytedgalbhjfmafaa

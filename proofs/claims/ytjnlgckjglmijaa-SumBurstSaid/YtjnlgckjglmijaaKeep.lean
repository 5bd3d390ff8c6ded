/-
  The contracts of the laws' helpers: Bytes, Twin; and the shell's rows as this seat's rows.
-/
import Derived.Test.YtjnlgckjglmijaaSums
import Derived.Deep.QuietTactic
import Derived.BigQuiet
namespace Go.Proofs.Ytjnlgckjglmijaa
open Go.ChangeShapes Go.WideShapes Go.ChangeAt Go.RowKit
set_option linter.unusedVariables false
theorem Below.drewN_ {B : Nat} {a w : World} (h : Below B a w) (n : Nat) : Below B a (w.drewN n) := h.trans ⟨rfl, rfl, rfl, Nat.le_refl _, fun _ _ => rfl⟩
theorem Row.cellAt {w : World} {a : Option Addr} {n : Nat} {l : List Nat} (h : Row w a n l) {k : Nat} (hk : k < n) : ∃ b o, a = some ⟨b, o, none⟩ ∧ w.cell? ⟨b, o + k, none⟩ = some (.int .u8 ((l.getD k 0 : Nat) : Int)) := by
  obtain ⟨b, o, ha, hc⟩ := h.2.2 (by omega)
  exact ⟨b, o, ha, hc k hk⟩
theorem take_eq_next {l m : List Nat} {k : Nat} (hl : k < l.length) (hm : k < m.length) (h : l.take k = m.take k) (he : l.getD k 0 = m.getD k 0) : l.take (k + 1) = m.take (k + 1) := by
  rw [take_next hl, take_next hm, h, he]
theorem ne_of_getD {l m : List Nat} {k : Nat} (he : l.getD k 0 ≠ m.getD k 0) : l ≠ m := fun e => he (by rw [e])
/-- answers a bool, and leaves all that was there -/
def Says (b : Bool) (W : World) (e : Ending) (w' : World) : Prop := e = .returned (.bool b) ∧ Below W.heap.size W w'
theorem ret_bool {a b : Bool} (h : a = b) : Ending.returned (Value.bool a) = Ending.returned (Value.bool b) := by rw [h]
theorem bytes_any (a : Option Addr) (n c : Nat) (l : List Nat) (b : Option Addr) (m c' : Nat) (k' : List Nat) (w : World) (hl : Row w a n l) (hm : Row w b m k') (hn : n ≤ maxLen) :
    Calls Try.prog 17 #[.slice a n c, .slice b m c'] w (Says (decide (l = k')) w) := by
  unfold maxLen at hn
  have l1 := hl.1
  have l2 := hm.1
  by_cases hnm : n = m
  · subst hnm
    have t0 : ((n : Int) != (n : Int)) = false := by simp
    have HL := Lib.hid l1
    have HM := Lib.hid l2
    clear l1 l2
    go_enter Try.func17, Try.ntmps17
    go_wp2_with fail
    go_loopw [5] (fun i wr => ∃ k : Nat, k ≤ n ∧ i = .int .i64 k ∧ Hid (l.take k = k'.take k) ∧ Below w.heap.size w wr) (fun i _ => n - (intOf i).toNat)
    case atStart => exact ⟨0, by omega, rfl, rfl, Below.refl _ _⟩
    case round =>
      obtain ⟨k, hk, rfl, htk, hb⟩ := hrel
      by_cases h8 : k < n
      · obtain ⟨b1, o1, rfl, c1⟩ := (hl.below hb).cellAt h8
        obtain ⟨b2, o2, rfl, c2⟩ := (hm.below hb).cellAt h8
        have i0 : (0 : Int) ≤ (k : Int) := by omega
        have i1 : (k : Int) < (n : Int) := by omega
        by_cases he : l.getD k 0 = k'.getD k 0
        · have hnx := Lib.hid (take_eq_next (by rw [HL.out]; exact h8) (by rw [HM.out]; exact h8) htk.out he)
          have tt : (((l.getD k 0 : Nat) : Int) != ((k'.getD k 0 : Nat) : Int)) = false := by rw [he]; simp
          generalize l.getD k 0 = x at *
          generalize k'.getD k 0 = y at *
          subst he
          clear hl hm htk
          go_wp2_with fail
          go_quiet (fail)
          go_wp2_with fail
          go_roundw
          case rel => exact ⟨k + 1, by omega, by go_num, hnx, Below.drewN_ hb _⟩
          case measure => simp [intOf]; omega
        · have hne := Lib.hid (ne_of_getD he)
          have tt : (((l.getD k 0 : Nat) : Int) != ((k'.getD k 0 : Nat) : Int)) = true := by rw [bne_iff_ne]; omega
          generalize l.getD k 0 = x at *
          generalize k'.getD k 0 = y at *
          clear hl hm htk
          go_wp2_with fail
          go_quiet (fail)
          go_wp2_with fail
          go_ret
          exact ⟨ret_bool (decide_eq_false hne.out).symm, Below.drewN_ hb _⟩
      · obtain rfl : k = n := by omega
        have hfin : l = k' := by
          have := htk.out
          rwa [List.take_of_length_le (by rw [HL.out]; exact Nat.le_refl _), List.take_of_length_le (by rw [HM.out]; exact Nat.le_refl _)] at this
        clear hl hm htk
        go_wp2_with fail
        go_ret
        exact ⟨ret_bool (decide_eq_true hfin).symm, hb⟩
  · have t0 : ((n : Int) != (m : Int)) = true := by rw [bne_iff_ne]; omega
    have hne : l ≠ k' := fun e => hnm (by rw [← l1, ← l2, e])
    clear l1 l2
    have HN := Lib.hid hne
    clear hne
    go_enter Try.func17, Try.ntmps17
    go_wp2_with fail
    go_ret
    exact ⟨ret_bool (decide_eq_false HN.out).symm, Below.refl _ _⟩

/-! ### What came in -/
theorem row_of {w : World} {a : Option Addr} {len cap : Nat} {z : List Int}
    (h : (a = none ∧ len = 0 ∧ cap = 0 ∧ z = []) ∨ ∃ x, a = some x ∧ len ≤ cap ∧ cap ≤ maxLen ∧ z.length = cap ∧ (∀ i, i < z.length → w.cell? (x.add i) = some (.int .u8 (z.getD i 0))) ∧ ∀ n ∈ z, (Lit.int .u8 n).wf = true) :
    ∃ l, Row w a len l ∧ len ≤ cap ∧ cap ≤ maxLen := by
  rcases h with ⟨rfl, rfl, rfl, rfl⟩ | ⟨x, rfl, hl, hm, hz, hc, hw⟩
  · exact ⟨[], ⟨rfl, by simp, fun h => absurd h (by decide)⟩, Nat.le_refl _, by decide⟩
  · have hb : ∀ n ∈ z, 0 ≤ n ∧ n ≤ 255 := fun n hn => by
      have := hw n hn
      simpa [Lit.wf, IntKind.min, IntKind.max, IntKind.signed, IntKind.bits] using this
    refine ⟨(z.take len).map Int.toNat, ⟨by simp; omega, ?_, ?_⟩, hl, hm⟩
    · intro c hc'
      obtain ⟨n, hn, rfl⟩ := List.mem_map.1 hc'
      have := hb n (List.mem_of_mem_take hn)
      omega
    · intro hpos
      obtain ⟨b, o, sp⟩ := x
      have h0 := hc 0 (by omega)
      have hsp : sp = none := by simpa [Addr.add] using World.cell?_spot h0
      subst hsp
      refine ⟨b, o, rfl, fun j hj => ?_⟩
      have hj' := hc j (by omega)
      have hjz : j < z.length := by omega
      have hv := hb _ (List.getElem_mem hjz)
      have e : (Addr.add ⟨b, o, none⟩ j) = ⟨b, o + j, none⟩ := by unfold Addr.add; split <;> simp_all
      rw [e] at hj'
      rw [hj']
      have h1 : z.getD j 0 = z[j] := by rw [List.getD_eq_getElem?_getD, List.getElem?_eq_getElem hjz]; rfl
      have h2 : ((z.take len).map Int.toNat).getD j 0 = z[j].toNat := by
        rw [List.getD_eq_getElem?_getD, List.getElem?_map, List.getElem?_take_of_lt hj, List.getElem?_eq_getElem hjz]; rfl
      rw [h1, h2]
      congr 2
      omega
theorem Row.take {w : World} {a : Option Addr} {n : Nat} {l : List Nat} (h : Row w a n l) {k : Nat} (hk : k ≤ n) : Row w a k (l.take k) := by
  refine ⟨by rw [List.length_take, h.1]; omega, fun c hc => h.2.1 c (List.mem_of_mem_take hc), fun hp => ?_⟩
  obtain ⟨b, o, ha, hc⟩ := h.2.2 (by omega)
  refine ⟨b, o, ha, fun j hj => ?_⟩
  rw [hc j (by omega)]
  simp [List.getD_eq_getElem?_getD, List.getElem?_take_of_lt hj]
theorem Row.drop {w : World} {a : Option Addr} {n : Nat} {l : List Nat} (h : Row w a n l) {k : Nat} (hk : k ≤ n) {a' : Option Addr} (ha' : k < n → a' = a.map (·.add k)) : Row w a' (n - k) (l.drop k) := by
  refine ⟨by rw [List.length_drop, h.1], fun c hc => h.2.1 c (List.mem_of_mem_drop hc), fun hp => ?_⟩
  obtain ⟨b, o, rfl, hc⟩ := h.2.2 (by omega)
  have e : (Addr.add ⟨b, o, none⟩ k) = ⟨b, o + k, none⟩ := by unfold Addr.add; split <;> simp_all
  refine ⟨b, o + k, by rw [ha' (by omega)]; simp [e], fun j hj => ?_⟩
  rw [Nat.add_assoc, hc (k + j) (by omega)]
  simp [List.getD_eq_getElem?_getD]
theorem Row.tail {w : World} {a : Option Addr} {n cap : Nat} {l : List Nat} (h : Row w a n l) {k : Nat} (hk : k ≤ n) (hc : n ≤ cap) : Row w (if cap = k then a else Option.map (fun x => x.add k) a) (n - k) (l.drop k) :=
  h.drop hk fun hlt => by rw [if_neg (by omega)]
theorem Row.drewN {w : World} {a : Option Addr} {n : Nat} {l : List Nat} (h : Row w a n l) (k : Nat) : Row (w.drewN k) a n l := h.keep fun _ _ _ => rfl
theorem of_same (l : List Nat) {c : Nat} (hc : Crc.sum l = c) {a : Option Addr} {n cap : Nat} {w : World} (hl : Row w a n l) (hn : n ≤ maxLen) :
    Calls Try.prog 15 #[.slice a n cap] w fun e w' => e = .returned (.int .i64 (c : Int)) ∧ w' = w := (of_of l hc hl hn).mono fun _ _ ⟨he, hw⟩ => ⟨he, hw.symm⟩
theorem more_same (l k : List Nat) {m c : Nat} (hm : Crc.sum l = m) (hb : ∀ x ∈ l, x < 256) (hc : Crc.sum (l ++ k) = c) {a : Option Addr} {n cap : Nat} {w : World} (hl : Row w a n k) (hn : n ≤ maxLen) :
    Calls Try.prog 11 #[.int .i64 (m : Int), .slice a n cap] w fun e w' => e = .returned (.tuple #[.int .i64 (c : Int), .int .i64 0]) ∧ w' = w := (more_of l k hm hb hc hl hn).mono fun _ _ ⟨he, hw⟩ => ⟨he, hw.symm⟩
theorem umodI (a m : Int) (hm : 0 < m) : ∃ x : Nat, (IntKind.u64.wrap a).tmod m = (x : Int) ∧ (x : Int) < m := by
  obtain ⟨k, rfl⟩ := Int.eq_ofNat_of_zero_le (Int.le_of_lt hm)
  obtain ⟨x, hx, lx⟩ := umod a k (by omega)
  exact ⟨x, hx, by omega⟩
end Go.Proofs.Ytjnlgckjglmijaa

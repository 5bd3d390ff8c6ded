/-
  Two texts held against one another: Two's contract.
-/
import Derived.Test.YtjnlgckjglmijaaMade
import Derived.Deep.RegionHeld3
import Derived.Deep.AppendLies
import Derived.Laws.BitsAllLaws
namespace Go.Proofs.Ytjnlgckjglmijaa
open Go.ChangeShapes Go.WideShapes Go.ChangeAt Go.RowKit
set_option linter.unusedVariables false
theorem cell_below {w W : World} (hb : Below w.heap.size w W) {p : Addr} {v : Value} (hc : w.cell? p = some v) : W.cell? p = some v :=
  (hb.cell (World.block_lt_of_cell? _ _ hc)).trans hc
theorem keep2 {w W : World} (hb : Below w.heap.size w W) {p1 p2 : Addr} {v1 v2 : Value} (c1 : w.cell? p1 = some v1) (c2 : w.cell? p2 = some v2) :
    Below w.heap.size w W ∧ W.cell? p1 = some v1 ∧ W.cell? p2 = some v2 := ⟨hb, cell_below hb c1, cell_below hb c2⟩
theorem two_next {l m : List Nat} {k : Nat} (hl : k < l.length) (hm : m.length = l.length) : (Crc.two l m).take (k + 1) = (Crc.two l m).take k ++ [l.getD k 0 ^^^ m.getD k 0] := by
  have h2 : k < (Crc.two l m).length := by rw [Crc.two_length l m hm.symm]; exact hl
  have hk : k < m.length := by omega
  rw [take_next h2]
  simp [Crc.two, List.getD_eq_getElem?_getD, List.getElem?_zipWith, hl, hk]
theorem two_small {l m : List Nat} (hl : ∀ c ∈ l, c < 256) (hm : ∀ c ∈ m, c < 256) : ∀ c ∈ Crc.two l m, c < 256 := by
  intro c hc
  obtain ⟨i, hi, rfl⟩ := List.getElem_of_mem hc
  have hi' := hi
  simp only [Crc.two, List.length_zipWith] at hi'
  simp only [Crc.two, List.getElem_zipWith]
  rw [show (256 : Nat) = 2 ^ 8 from rfl]
  exact Nat.xor_lt_two_pow (hl _ (List.getElem_mem (by omega))) (hm _ (List.getElem_mem (by omega)))
theorem news_one (w : World) (z : Nat) : ∀ j u, [Value.int .u8 (z : Int)][j]? = some u → (w.alloc (.cells #[.int .u8 (z : Int)] 5)).drew.cell? ((⟨w.heap.size, 0, none⟩ : Addr).add j) = some u :=
  World.news_of_block (w := (w.alloc (.cells #[.int .u8 (z : Int)] 5)).drew) (cs := #[.int .u8 (z : Int)]) (t := 5) (fr := (0, 0)) (heap_alloc_new w _)
set_option maxHeartbeats 800000 in
theorem two_any (a : Option Addr) (n c : Nat) (l : List Nat) (b : Option Addr) (c' : Nat) (m : List Nat) (w : World) (hl : Row w a n l) (hm : Row w b n m) (hn : n ≤ 1000) :
    Calls Try.prog 20 #[.slice a n c, .slice b n c'] w (Made (Crc.two l m) w) := by
  obtain ⟨i0, hi, hz0, hz1, hz2⟩ := info_parts info5
  have hlen := hl.1
  have hlm : m.length = l.length := by rw [hl.1, hm.1]
  have HLM := Lib.hid hlm
  have h2 := Lib.hid (Crc.two_length l m hlm.symm)
  have HL := Lib.hid hlen
  clear hlen hlm
  go_enter Try.func20, Try.ntmps20
  go_wp2_with fail
  go_loopw [5, 6] (fun v i wr => ∃ (k : Nat) (oa : Option Addr) (oc : Nat), k ≤ n ∧ i = .int .i64 k ∧ v = .slice oa k oc ∧ wr.ownsRow w.heap.size 5 1 (.slice oa k oc) k (bytesOf ((Crc.two l m).take k)) ∧ Below w.heap.size w wr) (fun _ i _ => n - (intOf i).toNat)
  case atStart => exact ⟨0, none, 0, by omega, rfl, rfl, World.ownsRow_nil _ _ _ _, Below.refl _ _⟩
  case round =>
    obtain ⟨k, oa, oc, hk, rfl, rfl, hown, hb⟩ := hrel
    by_cases h8 : k < n
    · obtain ⟨b1, o1, rfl, c1⟩ := hl.cellAt h8
      obtain ⟨b2, o2, rfl, c2⟩ := hm.cellAt h8
      have i0' : (0 : Int) ≤ (k : Int) := by omega
      have i1 : (k : Int) < (n : Int) := by omega
      have hx := getD_lt hl.2.1 k
      have hy := getD_lt hm.2.1 k
      have hnx := Lib.hid (two_next (l := l) (m := m) (k := k) (by rw [HL.out]; exact h8) HLM.out)
      clear hl hm
      generalize l.getD k 0 = x at *
      generalize m.getD k 0 = y at *
      have hxy : bits .xor .u8 (x : Int) (y : Int) = ((x ^^^ y : Nat) : Int) := u8_xor_nat x y hx hy
      generalize x ^^^ y = z at *
      have hsz := hb.size
      have C1 := Lib.hid c1
      have C2 := Lib.hid c2
      clear c1 c2
      have HOWN := Lib.hid hown
      have HB := Lib.hid hb
      have hlt := Lib.hid hown.lt
      clear hown hb
      go_wp2_with fail
      go_region_held3 (fun w' => Below w.heap.size w w' ∧ w'.cell? ⟨b1, o1 + k, none⟩ = some (.int .u8 x) ∧ w'.cell? ⟨b2, o2 + k, none⟩ = some (.int .u8 y))
        (first
          | exact keep2 HB.out.drew C1.out C2.out
          | exact keep2 (HB.out.alloc hsz _).drew C1.out C2.out
          | exact keep2 (((HB.out.alloc hsz _).drew).grown hgrow (by simp; omega) (fun g hg => (hlt.out g hg).1)) C1.out C2.out)
        ((refine step_append_lies _ (by rfl) _ _ _ (by rfl) w.heap.size 5 i0 _ 1 1 Try.underlying22 hi hz0 hz1 hz2 rfl (by omega) (.slice oa k oc) k _ (by rfl) ((HOWN.out.alloc _).drew)
            ⟨wr.heap.size, 0, none⟩ 1 1 [.int .u8 z] (by rfl) (by rfl) (news_one wr z) (by simp [Value.oneCell'])
            (by omega) (by unfold maxLen; omega) (by omega) (by simp; omega) (wr.heap.size + 1) (by simp) ?_; intro gg cap w1 hown1 hgrow hat hlt1))
      have hb1 : Below w.heap.size w w1 := by go_split_ands; assumption
      have HB1 := Lib.hid hb1
      have HO1 := Lib.hid hown1
      clear hb1 hown1 hgrow hat hlt1
      go_wp2_with fail
      go_roundw
      case rel => exact ⟨k + 1, some ⟨gg, 0, none⟩, cap, by omega, by go_num, rfl, by rw [hnx.out, bytesOf_append]; exact HO1.out, HB1.out⟩
      case measure => simp [intOf]; omega
    · obtain rfl : k = n := by omega
      have HOWN := Lib.hid hown
      have HB := Lib.hid hb
      clear hown hb hl hm
      go_wp2_with fail
      go_ret
      have htk : (Crc.two l m).take k = Crc.two l m := List.take_of_length_le (by rw [h2.out, HL.out]; exact Nat.le_refl _)
      have hlen2 : (Crc.two l m).length = k := by rw [h2.out, HL.out]
      refine ⟨oa, oc, ?_, ?_, HB.out⟩
      · rw [hlen2]; rfl
      · have := HOWN.out; rw [htk] at this; rw [hlen2]; exact this
end Go.Proofs.Ytjnlgckjglmijaa

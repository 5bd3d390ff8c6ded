/-
  PROVED: the law 'SumExact' returns true for every input, and leaves its arguments and all memory as they were. Conditions: those of the given row alone.
-/
import Derived.Test.YtjnlgckjglmijaaRef
import Derived.WalkKit
import Derived.ProofKit
import Derived.OpenShut
import Derived.ShutString
import Derived.ChangeOld
import Derived.Below
namespace Go.Proofs.Ytjnlgckjglmijaa.sumExact
open Go.ChangeShapes Go.WideShapes Go.ChangeAt Go.RowKit
open Go.ChangeMaps (open_string shut_string)
set_option linter.unusedVariables false

theorem own : ownKnob Try.prog.godebug = none := by kernel_rfl
theorem laidOut : laidOutB Try.prog = true := by kernel_rfl

/-- WHAT THE WALK IS TOLD OF A SLICE OF INTEGERS THAT CAME IN: it is nil; or it leads to a row of 'cap' cells, the numbers 'zs' (the first 'len' are its elements, the rest its spare room), each fitting its kind. -/
def IsRow (k : IntKind) (w : World) (a : Option Addr) (len cap : Nat) (zs : List Int) : Prop :=
  (a = none ∧ len = 0 ∧ cap = 0 ∧ zs = []) ∨
  ∃ x, a = some x ∧ len ≤ cap ∧ cap ≤ maxLen ∧ zs.length = cap ∧ (∀ i, i < zs.length → w.cell? (x.add i) = some (.int k (zs.getD i 0))) ∧ ∀ n ∈ zs, (Lit.int k n).wf = true

theorem rsum_any (a : Option Addr) (n cap : Nat) (l : List Nat) (w : World) (hl : Row w a n l) (hn : n ≤ maxLen) :
    Calls Try.prog 16 #[.slice a n cap] w fun e w' => e = .returned (.int .i64 (Crc.sum l : Nat)) ∧ w = w' := by
  have h0 := rmore_any 0 a n cap l w (by decide) hl hn
  rw [Nat.zero_xor] at h0
  have hs := Lib.hid (show Crc.on Crc.ones l ^^^ Crc.ones = Crc.sum l from rfl)
  rw [hs.out] at h0
  generalize Crc.sum l = S at *
  have H := Lib.hid h0
  clear h0 hs
  go_enter Try.func16, Try.ntmps16
  go_wp2_with fail
  refine H.out.mono ?_
  rintro e w' ⟨rfl, rfl⟩
  go_wp2_with fail
  go_ret
  exact ⟨rfl, rfl⟩
theorem more_is {m T : Nat} {l : List Nat} (hT : Crc.on (m ^^^ Crc.ones) l ^^^ Crc.ones = T) {a : Option Addr} {n cap : Nat} {w : World} (hm : m < 4294967296) (hl : Row w a n l) (hn : n ≤ maxLen) :
    Calls Try.prog 11 #[.int .i64 (m : Int), .slice a n cap] w fun e w' => e = .returned (.tuple #[.int .i64 (T : Int), .int .i64 0]) ∧ w = w' := hT ▸ more_ok m a n cap l w hm hl hn
theorem rmore_is {m T : Nat} {l : List Nat} (hT : Crc.on (m ^^^ Crc.ones) l ^^^ Crc.ones = T) {a : Option Addr} {n cap : Nat} {w : World} (hm : m < 4294967296) (hl : Row w a n l) (hn : n ≤ maxLen) :
    Calls Try.prog 13 #[.int .i64 (m : Int), .slice a n cap] w fun e w' => e = .returned (.int .i64 (T : Int)) ∧ w = w' := hT ▸ rmore_any m a n cap l w hm hl hn
theorem reight_is {i A : Nat} (w : World) (hi : i < 256) (h : Crc.eight i = A) :
    Calls Try.prog 14 #[.int .i64 (i : Int)] w fun e w' => e = .returned (.int .i64 (A : Int)) ∧ w = w' := h ▸ reight_any i w (by omega)
theorem rsum_is {S : Nat} {l : List Nat} (hS : Crc.sum l = S) {a : Option Addr} {n cap : Nat} {w : World} (hl : Row w a n l) (hn : n ≤ maxLen) :
    Calls Try.prog 16 #[.slice a n cap] w fun e w' => e = .returned (.int .i64 (S : Int)) ∧ w = w' := hS ▸ rsum_any a n cap l w hl hn
theorem bytes_same (a : Option Addr) (n c : Nat) (l : List Nat) (b : Option Addr) (m c' : Nat) (w : World) (hl : Row w a n l) (hm : Row w b m l) (hn : n ≤ maxLen) :
    Calls Try.prog 17 #[.slice a n c, .slice b m c'] w (Says true w) := by
  have h := bytes_any a n c l b m c' l w hl hm hn
  rwa [decide_eq_true rfl] at h
theorem case00 (a0 : Option Addr) (len0 cap0 : Nat) (l : List Nat) (s : Int) (hs : s < 0 ∨ 4294967295 < s) (i : Int) (hi : i < 0 ∨ 255 < i) (w : World) (hl : Row w a0 len0 l) (hc0 : a0 = none → cap0 = 0) (hlm : len0 ≤ maxLen) (tb : (len0 : Int) ≤ 400) :
    Calls Try.prog 3 #[.slice a0 len0 cap0, .int .i64 s, .int .i64 i] w fun e w' => e = .returned (.bool true) ∧ Below w.heap.size w w' := by
  obtain ⟨S, hS⟩ : ∃ S, Crc.sum l = S := ⟨_, rfl⟩
  have HS := Lib.hid hS
  have hb := Lib.hid hl.2.1
  have hll := hl.1
  have HC := Lib.hid hc0
  clear hS hc0
  have HSO := Lib.hid hs
  have HIO := Lib.hid hi
  rcases hs with hs | hs
  · rcases hi with hi | hi
    · go_enter Try.func3, Try.ntmps3
      go_wp2_with fail
      refine (twin_any a0 len0 cap0 l _ hl HC.out (by omega)).mono ?_
      rintro e w1 ⟨a', c', rfl, hown, hb1⟩
      rw [hll] at hown
      rw [hll]
      have r1 : Row w1 a' len0 l := Row.of_own hown hb.out
      have r0 : Row w1 a0 len0 l := hl.below hb1
      clear hown
      go_wp2_with fail
      refine (more_bad _ _ _ _ _ HSO.out).mono ?_
      rintro e w' ⟨rfl, rfl⟩
      go_wp2_with fail
      refine (table_bad _ _ HIO.out).mono ?_
      rintro e w' ⟨rfl, rfl⟩
      go_wp2_with fail
      refine (of_of _ HS.out r1 hlm).mono ?_
      rintro e w' ⟨rfl, rfl⟩
      go_wp2_with fail
      refine (rsum_is HS.out r0 hlm).mono ?_
      rintro e w' ⟨rfl, rfl⟩
      go_wp2_with fail
      refine (bytes_same _ _ _ _ _ _ _ _ r1 r0 hlm).mono ?_
      rintro e w2 ⟨rfl, hb2⟩
      go_wp2_with fail
      refine (wakes_any _).mono ?_
      rintro e w3 ⟨rfl, hb3⟩
      go_wp2_with fail
      go_ret
      have g2 := hb1.trans (hb2.mono hb1.size)
      exact ⟨rfl, g2.trans (hb3.mono g2.size)⟩
    · have h0i : ¬ i < 0 := by omega
      go_enter Try.func3, Try.ntmps3
      go_wp2_with fail
      refine (twin_any a0 len0 cap0 l _ hl HC.out (by omega)).mono ?_
      rintro e w1 ⟨a', c', rfl, hown, hb1⟩
      rw [hll] at hown
      rw [hll]
      have r1 : Row w1 a' len0 l := Row.of_own hown hb.out
      have r0 : Row w1 a0 len0 l := hl.below hb1
      clear hown
      go_wp2_with fail
      refine (more_bad _ _ _ _ _ HSO.out).mono ?_
      rintro e w' ⟨rfl, rfl⟩
      go_wp2_with fail
      refine (table_bad _ _ HIO.out).mono ?_
      rintro e w' ⟨rfl, rfl⟩
      go_wp2_with fail
      refine (of_of _ HS.out r1 hlm).mono ?_
      rintro e w' ⟨rfl, rfl⟩
      go_wp2_with fail
      refine (rsum_is HS.out r0 hlm).mono ?_
      rintro e w' ⟨rfl, rfl⟩
      go_wp2_with fail
      refine (bytes_same _ _ _ _ _ _ _ _ r1 r0 hlm).mono ?_
      rintro e w2 ⟨rfl, hb2⟩
      go_wp2_with fail
      refine (wakes_any _).mono ?_
      rintro e w3 ⟨rfl, hb3⟩
      go_wp2_with fail
      go_ret
      have g2 := hb1.trans (hb2.mono hb1.size)
      exact ⟨rfl, g2.trans (hb3.mono g2.size)⟩
  · have h0s : ¬ s < 0 := by omega
    rcases hi with hi | hi
    · go_enter Try.func3, Try.ntmps3
      go_wp2_with fail
      refine (twin_any a0 len0 cap0 l _ hl HC.out (by omega)).mono ?_
      rintro e w1 ⟨a', c', rfl, hown, hb1⟩
      rw [hll] at hown
      rw [hll]
      have r1 : Row w1 a' len0 l := Row.of_own hown hb.out
      have r0 : Row w1 a0 len0 l := hl.below hb1
      clear hown
      go_wp2_with fail
      refine (more_bad _ _ _ _ _ HSO.out).mono ?_
      rintro e w' ⟨rfl, rfl⟩
      go_wp2_with fail
      refine (table_bad _ _ HIO.out).mono ?_
      rintro e w' ⟨rfl, rfl⟩
      go_wp2_with fail
      refine (of_of _ HS.out r1 hlm).mono ?_
      rintro e w' ⟨rfl, rfl⟩
      go_wp2_with fail
      refine (rsum_is HS.out r0 hlm).mono ?_
      rintro e w' ⟨rfl, rfl⟩
      go_wp2_with fail
      refine (bytes_same _ _ _ _ _ _ _ _ r1 r0 hlm).mono ?_
      rintro e w2 ⟨rfl, hb2⟩
      go_wp2_with fail
      refine (wakes_any _).mono ?_
      rintro e w3 ⟨rfl, hb3⟩
      go_wp2_with fail
      go_ret
      have g2 := hb1.trans (hb2.mono hb1.size)
      exact ⟨rfl, g2.trans (hb3.mono g2.size)⟩
    · have h0i : ¬ i < 0 := by omega
      go_enter Try.func3, Try.ntmps3
      go_wp2_with fail
      refine (twin_any a0 len0 cap0 l _ hl HC.out (by omega)).mono ?_
      rintro e w1 ⟨a', c', rfl, hown, hb1⟩
      rw [hll] at hown
      rw [hll]
      have r1 : Row w1 a' len0 l := Row.of_own hown hb.out
      have r0 : Row w1 a0 len0 l := hl.below hb1
      clear hown
      go_wp2_with fail
      refine (more_bad _ _ _ _ _ HSO.out).mono ?_
      rintro e w' ⟨rfl, rfl⟩
      go_wp2_with fail
      refine (table_bad _ _ HIO.out).mono ?_
      rintro e w' ⟨rfl, rfl⟩
      go_wp2_with fail
      refine (of_of _ HS.out r1 hlm).mono ?_
      rintro e w' ⟨rfl, rfl⟩
      go_wp2_with fail
      refine (rsum_is HS.out r0 hlm).mono ?_
      rintro e w' ⟨rfl, rfl⟩
      go_wp2_with fail
      refine (bytes_same _ _ _ _ _ _ _ _ r1 r0 hlm).mono ?_
      rintro e w2 ⟨rfl, hb2⟩
      go_wp2_with fail
      refine (wakes_any _).mono ?_
      rintro e w3 ⟨rfl, hb3⟩
      go_wp2_with fail
      go_ret
      have g2 := hb1.trans (hb2.mono hb1.size)
      exact ⟨rfl, g2.trans (hb3.mono g2.size)⟩
theorem case01 (a0 : Option Addr) (len0 cap0 : Nat) (l : List Nat) (s : Int) (hs : s < 0 ∨ 4294967295 < s) (j : Nat) (hj : j < 256) (w : World) (hl : Row w a0 len0 l) (hc0 : a0 = none → cap0 = 0) (hlm : len0 ≤ maxLen) (tb : (len0 : Int) ≤ 400) :
    Calls Try.prog 3 #[.slice a0 len0 cap0, .int .i64 s, .int .i64 (j : Int)] w fun e w' => e = .returned (.bool true) ∧ Below w.heap.size w w' := by
  obtain ⟨S, hS⟩ : ∃ S, Crc.sum l = S := ⟨_, rfl⟩
  have HS := Lib.hid hS
  have hb := Lib.hid hl.2.1
  have hll := hl.1
  have HC := Lib.hid hc0
  clear hS hc0
  obtain ⟨E, hE⟩ : ∃ E, Crc.eight j = E := ⟨_, rfl⟩
  have HE := Lib.hid hE
  clear hE
  have HSO := Lib.hid hs
  rcases hs with hs | hs
  · go_enter Try.func3, Try.ntmps3
    go_wp2_with fail
    refine (twin_any a0 len0 cap0 l _ hl HC.out (by omega)).mono ?_
    rintro e w1 ⟨a', c', rfl, hown, hb1⟩
    rw [hll] at hown
    rw [hll]
    have r1 : Row w1 a' len0 l := Row.of_own hown hb.out
    have r0 : Row w1 a0 len0 l := hl.below hb1
    clear hown
    go_wp2_with fail
    refine (more_bad _ _ _ _ _ HSO.out).mono ?_
    rintro e w' ⟨rfl, rfl⟩
    go_wp2_with fail
    refine (table_is _ hj HE.out).mono ?_
    rintro e w' ⟨rfl, rfl⟩
    go_wp2_with fail
    refine (reight_is _ hj HE.out).mono ?_
    rintro e w' ⟨rfl, rfl⟩
    go_wp2_with fail
    refine (of_of _ HS.out r1 hlm).mono ?_
    rintro e w' ⟨rfl, rfl⟩
    go_wp2_with fail
    refine (rsum_is HS.out r0 hlm).mono ?_
    rintro e w' ⟨rfl, rfl⟩
    go_wp2_with fail
    refine (bytes_same _ _ _ _ _ _ _ _ r1 r0 hlm).mono ?_
    rintro e w2 ⟨rfl, hb2⟩
    go_wp2_with fail
    refine (wakes_any _).mono ?_
    rintro e w3 ⟨rfl, hb3⟩
    go_wp2_with fail
    go_ret
    have g2 := hb1.trans (hb2.mono hb1.size)
    exact ⟨rfl, g2.trans (hb3.mono g2.size)⟩
  · have h0s : ¬ s < 0 := by omega
    go_enter Try.func3, Try.ntmps3
    go_wp2_with fail
    refine (twin_any a0 len0 cap0 l _ hl HC.out (by omega)).mono ?_
    rintro e w1 ⟨a', c', rfl, hown, hb1⟩
    rw [hll] at hown
    rw [hll]
    have r1 : Row w1 a' len0 l := Row.of_own hown hb.out
    have r0 : Row w1 a0 len0 l := hl.below hb1
    clear hown
    go_wp2_with fail
    refine (more_bad _ _ _ _ _ HSO.out).mono ?_
    rintro e w' ⟨rfl, rfl⟩
    go_wp2_with fail
    refine (table_is _ hj HE.out).mono ?_
    rintro e w' ⟨rfl, rfl⟩
    go_wp2_with fail
    refine (reight_is _ hj HE.out).mono ?_
    rintro e w' ⟨rfl, rfl⟩
    go_wp2_with fail
    refine (of_of _ HS.out r1 hlm).mono ?_
    rintro e w' ⟨rfl, rfl⟩
    go_wp2_with fail
    refine (rsum_is HS.out r0 hlm).mono ?_
    rintro e w' ⟨rfl, rfl⟩
    go_wp2_with fail
    refine (bytes_same _ _ _ _ _ _ _ _ r1 r0 hlm).mono ?_
    rintro e w2 ⟨rfl, hb2⟩
    go_wp2_with fail
    refine (wakes_any _).mono ?_
    rintro e w3 ⟨rfl, hb3⟩
    go_wp2_with fail
    go_ret
    have g2 := hb1.trans (hb2.mono hb1.size)
    exact ⟨rfl, g2.trans (hb3.mono g2.size)⟩
theorem case10 (a0 : Option Addr) (len0 cap0 : Nat) (l : List Nat) (m : Nat) (hm : m < 4294967296) (i : Int) (hi : i < 0 ∨ 255 < i) (w : World) (hl : Row w a0 len0 l) (hc0 : a0 = none → cap0 = 0) (hlm : len0 ≤ maxLen) (tb : (len0 : Int) ≤ 400) :
    Calls Try.prog 3 #[.slice a0 len0 cap0, .int .i64 (m : Int), .int .i64 i] w fun e w' => e = .returned (.bool true) ∧ Below w.heap.size w w' := by
  obtain ⟨S, hS⟩ : ∃ S, Crc.sum l = S := ⟨_, rfl⟩
  have HS := Lib.hid hS
  have hb := Lib.hid hl.2.1
  have hll := hl.1
  have HC := Lib.hid hc0
  clear hS hc0
  obtain ⟨T, hT⟩ : ∃ T, Crc.on (m ^^^ Crc.ones) l ^^^ Crc.ones = T := ⟨_, rfl⟩
  have HT := Lib.hid hT
  clear hT
  have HIO := Lib.hid hi
  rcases hi with hi | hi
  · go_enter Try.func3, Try.ntmps3
    go_wp2_with fail
    refine (twin_any a0 len0 cap0 l _ hl HC.out (by omega)).mono ?_
    rintro e w1 ⟨a', c', rfl, hown, hb1⟩
    rw [hll] at hown
    rw [hll]
    have r1 : Row w1 a' len0 l := Row.of_own hown hb.out
    have r0 : Row w1 a0 len0 l := hl.below hb1
    clear hown
    go_wp2_with fail
    refine (more_is HT.out hm r1 hlm).mono ?_
    rintro e w' ⟨rfl, rfl⟩
    go_wp2_with fail
    refine (table_bad _ _ HIO.out).mono ?_
    rintro e w' ⟨rfl, rfl⟩
    go_wp2_with fail
    refine (rmore_is HT.out hm r0 hlm).mono ?_
    rintro e w' ⟨rfl, rfl⟩
    go_wp2_with fail
    refine (of_of _ HS.out r1 hlm).mono ?_
    rintro e w' ⟨rfl, rfl⟩
    go_wp2_with fail
    refine (rsum_is HS.out r0 hlm).mono ?_
    rintro e w' ⟨rfl, rfl⟩
    go_wp2_with fail
    refine (bytes_same _ _ _ _ _ _ _ _ r1 r0 hlm).mono ?_
    rintro e w2 ⟨rfl, hb2⟩
    go_wp2_with fail
    refine (wakes_any _).mono ?_
    rintro e w3 ⟨rfl, hb3⟩
    go_wp2_with fail
    go_ret
    have g2 := hb1.trans (hb2.mono hb1.size)
    exact ⟨rfl, g2.trans (hb3.mono g2.size)⟩
  · have h0i : ¬ i < 0 := by omega
    go_enter Try.func3, Try.ntmps3
    go_wp2_with fail
    refine (twin_any a0 len0 cap0 l _ hl HC.out (by omega)).mono ?_
    rintro e w1 ⟨a', c', rfl, hown, hb1⟩
    rw [hll] at hown
    rw [hll]
    have r1 : Row w1 a' len0 l := Row.of_own hown hb.out
    have r0 : Row w1 a0 len0 l := hl.below hb1
    clear hown
    go_wp2_with fail
    refine (more_is HT.out hm r1 hlm).mono ?_
    rintro e w' ⟨rfl, rfl⟩
    go_wp2_with fail
    refine (table_bad _ _ HIO.out).mono ?_
    rintro e w' ⟨rfl, rfl⟩
    go_wp2_with fail
    refine (rmore_is HT.out hm r0 hlm).mono ?_
    rintro e w' ⟨rfl, rfl⟩
    go_wp2_with fail
    refine (of_of _ HS.out r1 hlm).mono ?_
    rintro e w' ⟨rfl, rfl⟩
    go_wp2_with fail
    refine (rsum_is HS.out r0 hlm).mono ?_
    rintro e w' ⟨rfl, rfl⟩
    go_wp2_with fail
    refine (bytes_same _ _ _ _ _ _ _ _ r1 r0 hlm).mono ?_
    rintro e w2 ⟨rfl, hb2⟩
    go_wp2_with fail
    refine (wakes_any _).mono ?_
    rintro e w3 ⟨rfl, hb3⟩
    go_wp2_with fail
    go_ret
    have g2 := hb1.trans (hb2.mono hb1.size)
    exact ⟨rfl, g2.trans (hb3.mono g2.size)⟩
theorem case11 (a0 : Option Addr) (len0 cap0 : Nat) (l : List Nat) (m : Nat) (hm : m < 4294967296) (j : Nat) (hj : j < 256) (w : World) (hl : Row w a0 len0 l) (hc0 : a0 = none → cap0 = 0) (hlm : len0 ≤ maxLen) (tb : (len0 : Int) ≤ 400) :
    Calls Try.prog 3 #[.slice a0 len0 cap0, .int .i64 (m : Int), .int .i64 (j : Int)] w fun e w' => e = .returned (.bool true) ∧ Below w.heap.size w w' := by
  obtain ⟨S, hS⟩ : ∃ S, Crc.sum l = S := ⟨_, rfl⟩
  have HS := Lib.hid hS
  have hb := Lib.hid hl.2.1
  have hll := hl.1
  have HC := Lib.hid hc0
  clear hS hc0
  obtain ⟨T, hT⟩ : ∃ T, Crc.on (m ^^^ Crc.ones) l ^^^ Crc.ones = T := ⟨_, rfl⟩
  have HT := Lib.hid hT
  clear hT
  obtain ⟨E, hE⟩ : ∃ E, Crc.eight j = E := ⟨_, rfl⟩
  have HE := Lib.hid hE
  clear hE
  go_enter Try.func3, Try.ntmps3
  go_wp2_with fail
  refine (twin_any a0 len0 cap0 l _ hl HC.out (by omega)).mono ?_
  rintro e w1 ⟨a', c', rfl, hown, hb1⟩
  rw [hll] at hown
  rw [hll]
  have r1 : Row w1 a' len0 l := Row.of_own hown hb.out
  have r0 : Row w1 a0 len0 l := hl.below hb1
  clear hown
  go_wp2_with fail
  refine (more_is HT.out hm r1 hlm).mono ?_
  rintro e w' ⟨rfl, rfl⟩
  go_wp2_with fail
  refine (table_is _ hj HE.out).mono ?_
  rintro e w' ⟨rfl, rfl⟩
  go_wp2_with fail
  refine (rmore_is HT.out hm r0 hlm).mono ?_
  rintro e w' ⟨rfl, rfl⟩
  go_wp2_with fail
  refine (reight_is _ hj HE.out).mono ?_
  rintro e w' ⟨rfl, rfl⟩
  go_wp2_with fail
  refine (of_of _ HS.out r1 hlm).mono ?_
  rintro e w' ⟨rfl, rfl⟩
  go_wp2_with fail
  refine (rsum_is HS.out r0 hlm).mono ?_
  rintro e w' ⟨rfl, rfl⟩
  go_wp2_with fail
  refine (bytes_same _ _ _ _ _ _ _ _ r1 r0 hlm).mono ?_
  rintro e w2 ⟨rfl, hb2⟩
  go_wp2_with fail
  refine (wakes_any _).mono ?_
  rintro e w3 ⟨rfl, hb3⟩
  go_wp2_with fail
  go_ret
  have g2 := hb1.trans (hb2.mono hb1.size)
  exact ⟨rfl, g2.trans (hb3.mono g2.size)⟩
theorem walk (a0 : Option Addr) (len0 cap0 : Nat) (z0 : List Int) (a1 : Int) (a2 : Int) (w : World) (w0 : IsRow .u8 w a0 len0 cap0 z0) (w1 : (Lit.int .i64 a1).wf = true) (w2 : (Lit.int .i64 a2).wf = true) :
    Calls Try.prog 3 #[.slice a0 len0 cap0, .int .i64 a1, .int .i64 a2] w fun e w' => e = .returned (.bool true) ∧ Below w.heap.size w w' := by
  obtain ⟨l, hl, hlc, hcm⟩ := row_of w0
  have hc0 : a0 = none → cap0 = 0 := by
    rcases w0 with ⟨_, _, h, _⟩ | ⟨x, h, _⟩
    · exact fun _ => h
    · rw [h]; intro h; cases h
  clear w0 w1 w2
  have hlm : len0 ≤ maxLen := Nat.le_trans hlc hcm
  by_cases hbig : 400 < len0
  · unfold maxLen at hcm
    have tb : (400 : Int) < (len0 : Int) := by omega
    go_enter Try.func3, Try.ntmps3
    go_wp2_with fail
    go_ret
    exact ⟨rfl, Below.refl _ _⟩
  · have tb : (len0 : Int) ≤ 400 := by omega
    by_cases hs : a1 < 0 ∨ 4294967295 < a1
    · by_cases hi : a2 < 0 ∨ 255 < a2
      · exact case00 a0 len0 cap0 l a1 hs a2 hi w hl hc0 hlm tb
      · obtain ⟨j, rfl⟩ := Int.eq_ofNat_of_zero_le (show 0 ≤ a2 by omega)
        exact case01 a0 len0 cap0 l a1 hs j (by omega) w hl hc0 hlm tb
    · obtain ⟨m, rfl⟩ := Int.eq_ofNat_of_zero_le (show 0 ≤ a1 by omega)
      by_cases hi : a2 < 0 ∨ 255 < a2
      · exact case10 a0 len0 cap0 l m (by omega) a2 hi w hl hc0 hlm tb
      · obtain ⟨j, rfl⟩ := Int.eq_ofNat_of_zero_le (show 0 ≤ a2 by omega)
        exact case11 a0 len0 cap0 l m (by omega) j (by omega) w hl hc0 hlm tb

/-! ### THE ROW's STEP: WRITTEN OUT: LEAVE IT -/
set_option maxRecDepth 100000 in
theorem lifted (os : Os) (started : os.Started) (H : Type) (enc : TypeId × Value → H) :
    ReturnsInHanded {} Try.checked os 3 .any (Rows.sumExactSpec.pre6 enc Try.prog Try.f3 Rows.sumExactRow.domain false) (Rows.sumExactSpec.post enc Try.prog Try.f3 false true false false) := by
  refine returnsInHanded_of_change (C := Try.checked) own started (by kernel_rfl) Try.func3
    (ChangeSpec.witness6 (enc := enc) (C := Try.checked) false ⟨#[], #[.slice none 0 0, .int .i64 0, .int .i64 0], []⟩ 8 (by kernel_rfl) (by kernel_rfl) (by kernel_rfl) (by kernel_rfl)) ?_
  intro W base args ds gs before hval0 hW hcnd _
  have hval : ∀ (j : Nat) t v, Try.f3.params[j]? = some t → args[j]? = some v → Value.okWide Try.prog W .any base t v := hval0
  have hW' := hW
  obtain ⟨p, q, hA0, hV, rfl, hfz, hnd⟩ := hW
  have hA : DataW.TrodAll enc Try.prog W 0 (fun _ => true) true Try.f3.params.toList args.toList ds p := hA0
  rw [Try.params3] at hA hval
  obtain ⟨v0, vs0, d0, ds0, p0, q0, hargs, rfl, rfl, h0, r0⟩ := trodAll_cons hA
  obtain ⟨v1, vs1, d1, ds1, p1, q1, rfl, rfl, rfl, h1, r1⟩ := trodAll_cons r0
  obtain ⟨v2, vs2, d2, ds2, p2, q2, rfl, rfl, rfl, h2, r2⟩ := trodAll_cons r1
  obtain ⟨rfl, rfl, rfl⟩ := trodAll_nil r2
  obtain rfl : args = #[v0, v1, v2] := by cases args; simp_all
  obtain ⟨rfl, rfl⟩ := trodVars_none hV
  obtain ⟨a0, len0, cap0, rfl⟩ := okWide_slice Try.underlying22 (hval 0 22 v0 rfl rfl)
  have k0 := h0
  have lt0 : ∀ x ∈ p0, x.block < W.heap.size := by obtain ⟨m, hm⟩ := k0; exact DataW.trod_lt m _ _ _ hm
  obtain ⟨z0, w0⟩ : ∃ zs, IsRow .u8 W a0 len0 cap0 zs := by
    obtain ⟨fuel, hf⟩ := h0
    rcases open_ints Try.underlying22 Try.underlying5 (by kernel_rfl) hf with ⟨hcs, _⟩ | ⟨x, l, c, zs, hcs, _, hl, hm, hz, _, hcell, hwz⟩
    · simp [Value.cells] at hcs
      obtain ⟨rfl, rfl, rfl⟩ := hcs
      exact ⟨[], .inl ⟨rfl, rfl, rfl, rfl⟩⟩
    · simp [Value.cells] at hcs
      obtain ⟨rfl, rfl, rfl⟩ := hcs
      exact ⟨zs, .inr ⟨_, rfl, hl, hm, by simpa using hz, hcell, hwz⟩⟩
  obtain ⟨a1, rfl, rfl, rfl, w1⟩ := open_int Try.underlying3 (hval 1 3 v1 rfl rfl) h1
  obtain ⟨a2, rfl, rfl, rfl, w2⟩ := open_int Try.underlying3 (hval 2 3 v2 rfl rfl) h2
  clear hA0 hval0
  refine (walk a0 len0 cap0 z0 a1 a2 W w0 w1 w2).mono fun e W' ⟨he, bel⟩ => ?_
  subst he
  exact ⟨_, rfl, _, _, _, [], _, [], hW', trodAll_mk1 (shut_bool Try.underlying4 _), (trodAll_cons_mk (Below.trod laidOut (by kernel_rfl) (of_decide_eq_true (by kernel_rfl)) k0 bel lt0) (trodAll_cons_mk (shut_int Try.underlying3 w1) (trodAll_cons_mk (shut_int Try.underlying3 w2) trodAll_mk0))), rfl, bel.frame _, fun h => by cases h⟩

theorem over : Rows.sumExactRow.holds Try.pinned (OpenSpec.ofChange Rows.sumExactSpec) :=
  OpenClaim.holds_of_wide 3 Try.f3 rfl rfl rfl rfl rfl rfl rfl ⟨rfl, rfl, rfl, rfl, rfl⟩ rfl rfl rfl rfl rfl (by kernel_rfl) Try.func3 (by kernel_rfl)
    (of_decide_eq_true (by kernel_rfl)) (by unfold Func.isWrapper; first | (rw [if_pos (by decide +kernel)]; kernel_rfl) | (rw [if_neg (by decide +kernel)]; exact ⟨rfl, rfl⟩))
    (fun os started H enc _ => lifted os started H enc)

/-- ████ THE STATEMENT ████ -/
theorem proved : Rows.SumExactSaid := over
#print axioms proved
end Go.Proofs.Ytjnlgckjglmijaa.sumExact

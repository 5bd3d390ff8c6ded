/-
  Snd1: what only reads is what the model's operation yields.
  Snd2: what only reads is what the model's operation yields, on.
  Snd3: what only reads, the last of it; literals.
  Snd4: slices, bytes as a string; what makes a block; what writes.
  Snd5: what makes a block, what writes: what the model's operation does.
-/
import Derived.Test.YtbcmcdmflblgkaaGreatDoorOp
import Derived.Laws.IdiomCopy
import Derived.Laws.CopyRow
import Derived.Laws.Strings
import Derived.Laws.Tables
import Derived.Laws.BytesString
import Derived.Laws.MakeOwn
namespace Go.Proofs.YtbcmcdmflblgkaaGreatDoor
namespace Ev
open Go.RowKit
set_option linter.unusedVariables false
set_option linter.unusedSectionVars false
variable [bs : Base]
theorem ob_some {α β : Type} {x : Option α} {f : α → Option β} {y : β} (h : ob x f = some y) : ∃ a, x = some a ∧ f a = some y := by
  cases x with
  | none => cases h
  | some a => exact ⟨a, rfl, h⟩
theorem io_some {α : Type} {b : Bool} {x : Option α} {y : α} (h : io b x = some y) : b = true ∧ x = some y := by
  cases b with
  | true => exact ⟨rfl, h⟩
  | false => cases h
theorem add_flat (b o j : Nat) : (Addr.add ⟨b, o, none⟩ j) = ⟨b, o + j, none⟩ := by unfold Addr.add; split <;> simp_all
theorem WR.cell {ρ : Rho} {h : H} {w : World} (hw : WR ρ h w) {b : Po} {cs : List V} {B s L i : Nat} {v : V} (hb : h.get b = some cs) (hr : ρ b = some (B, s, L)) (hv : cs[i]? = some v) : ∃ u, w.cell? ⟨B, s + i, none⟩ = some u ∧ VR ρ v u := by
  obtain ⟨arr, e, ha, _, hc⟩ := hw.cells b cs hb B s L hr
  obtain ⟨u, hu, hvu⟩ := hc i v hv
  exact ⟨u, by simp [World.cell?, ha, hu], hvu⟩
theorem WR.range {ρ : Rho} {h : H} {w : World} (hw : WR ρ h w) {b : Po} {cs : List V} {B s L o n : Nat} (hb : h.get b = some cs) (hr : ρ b = some (B, s, L)) (hn : o + n ≤ cs.length) :
    ∃ us : List Value, us.length = n ∧ VRs ρ ((cs.drop o).take n) us ∧ ∀ j u, us[j]? = some u → w.cell? (Addr.add ⟨B, s + o, none⟩ j) = some u := by
  have key : ∀ i, i < n → ∃ u, w.cell? ⟨B, s + (o + i), none⟩ = some u ∧ ∀ v, cs[o + i]? = some v → VR ρ v u := fun i hi => by
    have hl : o + i < cs.length := by omega
    obtain ⟨u, h1, h2⟩ := hw.cell hb hr (List.getElem?_eq_getElem hl)
    exact ⟨u, h1, fun v hv => by rw [List.getElem?_eq_getElem hl] at hv; injection hv with hv; exact hv ▸ h2⟩
  refine ⟨(List.range n).map fun i => (w.cell? ⟨B, s + (o + i), none⟩).getD undef, by simp, ⟨by simp; omega, fun i v u hv hu => ?_⟩, fun j u hu => ?_⟩
  · have hi : i < n := by have := (List.getElem?_eq_some_iff.1 hu).1; simpa using this
    obtain ⟨u', h1, h2⟩ := key i hi
    simp [hi, h1] at hu
    subst hu
    rw [List.getElem?_take_of_lt hi, List.getElem?_drop] at hv
    exact h2 v hv
  · have hi : j < n := by have := (List.getElem?_eq_some_iff.1 hu).1; simpa using this
    obtain ⟨u', h1, h2⟩ := key j hi
    simp [hi, h1] at hu
    subst hu
    rw [add_flat, Nat.add_assoc]
    exact h1
section
variable {P : Program} {w : World}
theorem run_isAgg {t : TypeId} {g : Bool} (h : aggOf P t = some g) : (isAgg t).run P w = .ok g w := by
  unfold aggOf at h
  unfold isAgg
  cases hu : P.underlying t with
  | none => rw [hu] at h; cases h
  | some d => rw [hu] at h; cases d <;> simp_all [run_underlying]
theorem run_loadAt_agg {t : TypeId} {i : TypeInfo} {a : Addr} {cs : List Value} (hg : aggOf P t = some true) (hi : P.info? t = some i) (hl : cs.length = i.size) (hc : ∀ j v, cs[j]? = some v → w.cell? (a.add j) = some v) :
    (Instr.loadAt t (.pointer (some a))).run P w = .ok (.agg cs.toArray) w := by
  have h1 := run_loadCells_list (P := P) (w := w) a cs hc
  simp [Instr.loadAt, Instr.sureAddr, loadVar, run_isAgg hg, sizeOf, typeInfo, hi, ← hl, h1]
theorem run_loadAt_one {t : TypeId} {a : Addr} {v : Value} (hg : aggOf P t = some false) (hc : w.cell? a = some v) : (Instr.loadAt t (.pointer (some a))).run P w = .ok v w := by
  simp [Instr.loadAt, Instr.sureAddr, loadVar, run_isAgg hg, run_load, hc]

theorem VRs.one_inv {ρ : Rho} {a : V} {us : List Value} (h : VRs ρ [a] us) : ∃ u, us = [u] ∧ VR ρ a u := by
  obtain ⟨u, r, rfl, h1, h2⟩ := h.cons_inv
  obtain rfl := h2.nil_inv
  exact ⟨u, rfl, h1⟩
theorem VRs.two_inv {ρ : Rho} {a b : V} {us : List Value} (h : VRs ρ [a, b] us) : ∃ u v, us = [u, v] ∧ VR ρ a u ∧ VR ρ b v := by
  obtain ⟨u, r, rfl, h1, h2⟩ := h.cons_inv
  obtain ⟨v, rfl, h3⟩ := h2.one_inv
  exact ⟨u, v, rfl, h1, h3⟩
theorem VRs.three_inv {ρ : Rho} {a b c : V} {us : List Value} (h : VRs ρ [a, b, c] us) : ∃ u v x, us = [u, v, x] ∧ VR ρ a u ∧ VR ρ b v ∧ VR ρ c x := by
  obtain ⟨u, r, rfl, h1, h2⟩ := h.cons_inv
  obtain ⟨v, x, rfl, h3, h4⟩ := h2.two_inv
  exact ⟨u, v, x, rfl, h1, h3, h4⟩
theorem VR.int_inv {ρ : Rho} {k : IntKind} {n : Int} {u : Value} (h : VR ρ (.int k n) u) : u = .int k n := by cases h; rfl
theorem VR.boo_inv {ρ : Rho} {b : Bool} {u : Value} (h : VR ρ (.boo b) u) : u = .bool b := by cases h; rfl
theorem VR.nils_inv {ρ : Rho} {u : Value} (h : VR ρ .nils u) : u = .slice none 0 0 := by cases h; rfl
theorem VR.lit_inv {ρ : Rho} {v u : Value} (h : VR ρ (.lit v) u) : u = v := by cases h; rfl
theorem VR.ptr_inv {ρ : Rho} {b : Po} {o : Nat} {u : Value} (h : VR ρ (.ptr b o) u) : ∃ B s L, ρ b = some (B, s, L) ∧ u = .pointer (some ⟨B, s + o, none⟩) := by cases h with | ptr h => exact ⟨_, _, _, h, rfl⟩
theorem VR.tup_inv {ρ : Rho} {vs : List V} {u : Value} (h : VR ρ (.tup vs) u) : ∃ cs, u = .tuple cs ∧ VRs ρ vs cs.toList := by cases h with | tup hl h => exact ⟨_, rfl, VRs.of_arr hl h⟩
theorem VR.agg_inv {ρ : Rho} {vs : List V} {u : Value} (h : VR ρ (.agg vs) u) : ∃ cs, u = .agg cs ∧ VRs ρ vs cs.toList := by cases h with | agg hl h => exact ⟨_, rfl, VRs.of_arr hl h⟩
theorem VR.fn_inv {ρ : Rho} {f : Nat} {vs : List V} {u : Value} (h : VR ρ (.fn f vs) u) : ∃ cs, u = .func (.func f) #[] cs ∧ VRs ρ vs cs.toList := by cases h with | fn hl h => exact ⟨_, rfl, VRs.of_arr hl h⟩
theorem VR.ifc_inv {ρ : Rho} {t : Nat} {v : V} {u : Value} (h : VR ρ (.ifc t v) u) : ∃ c, u = .iface t c ∧ VR ρ v c := by cases h with | ifc h => exact ⟨_, rfl, h⟩
theorem VR.sl_inv {ρ : Rho} {b : Po} {o n c k : Nat} {ex : Bool} {u : Value} (h : VR ρ (.sl b o n c ex k) u) : ∃ B s L ad c', ρ b = some (B, s, L) ∧ u = .slice (some ad) n c' ∧ n ≤ c' ∧ c ≤ c' ∧ (ex = true → c' = c) ∧ c' ≤ maxLen ∧ (c' = 0 ∨ ad = ⟨B, s + o, none⟩) ∧ s + o + c' * k ≤ L := by
  cases h with | sl h hk hn hc hx hm ha => exact ⟨_, _, _, _, _, h, rfl, hn, hc, hx, hm, ha, hk⟩
theorem VR.agg_mk {ρ : Rho} {vs : List V} {us : List Value} (h : VRs ρ vs us) : VR ρ (.agg vs) (.agg us.toArray) := .agg h.arr.1 h.arr.2
theorem VR.tup_mk {ρ : Rho} {vs : List V} {us : List Value} (h : VRs ρ vs us) : VR ρ (.tup vs) (.tuple us.toArray) := .tup h.arr.1 h.arr.2
theorem ofVal_rel (ρ : Rho) (v : Value) : VR ρ (ofVal v) v := by
  unfold ofVal
  split
  · exact .int _ _
  · exact .boo _
  · exact .lit _
theorem pureOf_some {m : Sem Value} {v : V} (h : pureOf m = some v) (ρ : Rho) : ∃ u, m = .pure u ∧ VR ρ v u := by
  unfold pureOf at h
  split at h
  · injection h with h; subst h; exact ⟨_, rfl, ofVal_rel ρ _⟩
  · cases h
theorem VR.cells_any {ρ : Rho} {v : V} {u : Value} (h : VR ρ v u) : VRs ρ v.cells u.cells.toList := by
  cases h with
  | agg hl h => exact VRs.of_arr hl h
  | lit _ =>
    cases u with
    | agg cs =>
      refine ⟨by simp [V.cells, Value.cells], fun i a b ha hb => ?_⟩
      simp only [V.cells, List.getElem?_map] at ha
      simp only [Value.cells] at hb
      rw [hb] at ha
      injection ha with ha
      subst ha
      exact .lit _
    | _ => exact VRs.cons (.lit _) (VRs.nil ρ)
  | _ => exact VRs.cons (by constructor <;> assumption) (VRs.nil ρ)
/-- the cells of a value -/
theorem VR.cells_rel {ρ : Rho} {v : V} {u : Value} (h : VR ρ v u) (h1 : v.cells.all V.one = true) : VRs ρ v.cells u.cells.toList ∧ ∀ x ∈ u.cells, x.oneCell' = true := by
  have one : ∀ {a : V} {b : Value}, VR ρ a b → a.one = true → b.oneCell' = true := fun {a b} hab ha => by
    cases hab with
    | lit v => revert ha; cases b <;> intro ha <;> first | rfl | cases ha
    | agg hl h => cases ha
    | tup hl h => cases ha
    | _ => rfl
  have key := h.cells_any
  refine ⟨key, fun x hx => ?_⟩
  rw [← Array.mem_toList_iff] at hx
  obtain ⟨i, hi⟩ := List.mem_iff_getElem?.1 hx
  have hl := (List.getElem?_eq_some_iff.1 hi).1
  have hlt : i < v.cells.length := by rw [key.1]; exact hl
  exact one (key.2 i _ x (List.getElem?_eq_getElem hlt) hi) (List.all_eq_true.1 h1 _ (List.getElem_mem hlt))

/-! ### Operation by operation -/
theorem l_load {ρ : Rho} {h : H} (hw : WR ρ h w) {t : TypeId} {i : TypeInfo} {g : Bool} (hi : P.info? t = some i) (hg : aggOf P t = some g) {vs : List V} {us : List Value} {v : V} (hs : VRs ρ vs us) (hv : sLoad i.size g vs h = some v) :
    ∃ x u, us = [x] ∧ (Instr.loadAt t x).run P w = .ok u w ∧ VR ρ v u := by
  unfold sLoad at hv
  split at hv
  · rename_i b o
    obtain ⟨x, rfl, hx⟩ := hs.one_inv
    obtain ⟨B, s, L, hr, rfl⟩ := hx.ptr_inv
    obtain ⟨cs, hb, hv⟩ := ob_some hv
    cases g with
    | true =>
      obtain ⟨hn, hv⟩ := io_some hv
      injection hv with hv
      subst hv
      obtain ⟨us, hl, hR, hc⟩ := hw.range hb hr (Nat.le_of_ble_eq_true hn)
      exact ⟨_, _, rfl, run_loadAt_agg hg hi hl hc, VR.agg_mk hR⟩
    | false =>
      obtain ⟨u, hc, hR⟩ := hw.cell hb hr hv
      exact ⟨_, _, rfl, run_loadAt_one hg hc, hR⟩
  · cases hv
theorem l_pick {ρ : Rho} {h : H} {vs : List V} {us : List Value} {v : V} (hs : VRs ρ vs us) (hv : sPick vs h = some v) : ∃ b x y, us = [.bool b, x, y] ∧ VR ρ v (if b then x else y) := by
  unfold sPick at hv
  split at hv
  · obtain ⟨a, x, y, rfl, h1, h2, h3⟩ := hs.three_inv
    obtain rfl := h1.boo_inv
    injection hv with hv
    subst hv
    refine ⟨_, _, _, rfl, ?_⟩
    rename_i t _ _
    cases t
    · exact h3
    · exact h2
  · cases hv
theorem run_fieldAt {s : TypeId} {fs : Array Field} {f : Nat} {fd : Field} {i : TypeInfo} {a : Addr} (hu : P.underlying s = some (.struct fs)) (hf : fs[f]? = some fd) (hi : P.info? fd.type = some i) (h0 : i.size ≠ 0) :
    (Instr.fieldAt s (.pointer (some a)) f).run P w = .ok (.pointer (some (a.add fd.offset))) w := by
  simp [Instr.fieldAt, run_underlying hu, hf, Instr.sureAddr, fieldPlace, sizeOf, typeInfo, hi, h0]
theorem l_fadr {ρ : Rho} {h : H} {off : Nat} {vs : List V} {us : List Value} {v : V} (hs : VRs ρ vs us) (hv : sFadr off vs h = some v) : ∃ a, us = [.pointer (some a)] ∧ VR ρ v (.pointer (some (a.add off))) := by
  unfold sFadr at hv
  split at hv
  · obtain ⟨x, rfl, hx⟩ := hs.one_inv
    obtain ⟨B, s, L, hr, rfl⟩ := hx.ptr_inv
    injection hv with hv
    subst hv
    refine ⟨_, rfl, ?_⟩
    rw [add_flat, Nat.add_assoc]
    exact .ptr hr
  · cases hv
theorem l_fld {ρ : Rho} {h : H} {s : TypeId} {fs : Array Field} {f : Nat} {fd : Field} {i : TypeInfo} {g : Bool} (hu : P.underlying s = some (.struct fs)) (hf : fs[f]? = some fd) (hi : P.info? fd.type = some i) (hg : aggOf P fd.type = some g)
    {vs : List V} {us : List Value} {v : V} (hs : VRs ρ vs us) (hv : sFld fd.offset i.size g vs h = some v) : ∃ x u, us = [x] ∧ (Instr.field s x f).run P w = .ok u w ∧ VR ρ v u := by
  unfold sFld at hv
  split at hv
  · obtain ⟨x, rfl, hx⟩ := hs.one_inv
    obtain ⟨cs, rfl, hc⟩ := hx.agg_inv
    refine ⟨.agg cs, ?_⟩
    cases g with
    | true =>
      obtain ⟨hn, hv⟩ := io_some hv
      injection hv with hv
      subst hv
      refine ⟨.agg (cs.extract fd.offset (fd.offset + i.size)), rfl, by simp [Instr.field, run_underlying hu, hf, part, run_isAgg hg, sizeOf, typeInfo, hi, asAgg], ?_⟩
      have := VR.agg_mk ((hc.drop fd.offset).take i.size)
      have e : ((cs.toList.drop fd.offset).take i.size).toArray = cs.extract fd.offset (fd.offset + i.size) := by
        apply Array.toList_inj.1
        simp [List.take_drop]
      rwa [e] at this
    | false =>
      obtain ⟨u, hu', hR⟩ := hc.at_ hv
      have hu2 : cs[fd.offset]? = some u := by simpa using hu'
      exact ⟨u, rfl, by simp [Instr.field, run_underlying hu, hf, part, run_isAgg hg, asAgg, hu2], hR⟩
  · cases hv
theorem l_chk {ρ : Rho} {h : H} {vs : List V} {us : List Value} {v : V} (hs : VRs ρ vs us) (hv : sChk vs h = some v) : ∃ x, us = [x] ∧ VR ρ v x ∧ ((∃ a, x = .pointer (some a)) ∨ ∃ f cs, x = .func (.func f) #[] cs) := by
  unfold sChk at hv
  split at hv
  · obtain ⟨x, rfl, hx⟩ := hs.one_inv
    injection hv with hv
    subst hv
    obtain ⟨B, s, L, hr, rfl⟩ := hx.ptr_inv
    exact ⟨_, rfl, hx, .inl ⟨_, rfl⟩⟩
  · obtain ⟨x, rfl, hx⟩ := hs.one_inv
    injection hv with hv
    subst hv
    obtain ⟨cs, rfl, _⟩ := hx.fn_inv
    exact ⟨_, rfl, hx, .inr ⟨_, _, rfl⟩⟩
  · cases hv
theorem l_ext {ρ : Rho} {h : H} {i : Nat} {vs : List V} {us : List Value} {v : V} (hs : VRs ρ vs us) (hv : sExt i vs h = some v) : ∃ x u, us = [x] ∧ (Instr.extract x i).run P w = .ok u w ∧ VR ρ v u := by
  unfold sExt at hv
  split at hv
  · obtain ⟨x, rfl, hx⟩ := hs.one_inv
    obtain ⟨cs, rfl, hc⟩ := hx.tup_inv
    obtain ⟨u, hu, hR⟩ := hc.at_ hv
    have hu2 : cs[i]? = some u := by simpa using hu
    exact ⟨_, u, rfl, by simp [Instr.extract, hu2], hR⟩
  · cases hv
theorem l_iadr {ρ : Rho} {h : H} {t e : TypeId} {i : TypeInfo} (ht : elemT P t = some e) (hi : P.info? e = some i) {vs : List V} {us : List Value} {v : V} (hs : VRs ρ vs us) (hv : sIadr i.size vs h = some v) :
    ∃ x y u, us = [x, y] ∧ (Instr.indexAt t x y).run P w = .ok u w ∧ VR ρ v u := by
  unfold sIadr at hv
  split at hv
  · rename_i b o n c ex kk k j
    obtain ⟨x, y, rfl, hx, hy⟩ := hs.two_inv
    obtain ⟨B, s, L, ad, c', hr, rfl, hn, hc, hxx, hm, ha, _⟩ := hx.sl_inv
    obtain rfl := hy.int_inv
    obtain ⟨hk, hv⟩ := io_some hv
    injection hv with hv
    subst hv
    have hk := Nat.le_of_ble_eq_true hk
    have hu : P.underlying t = some (.slice e) := by
      unfold elemT at ht
      split at ht
      · injection ht with ht; subst ht; assumption
      · cases ht
    obtain rfl : ad = ⟨B, s + o, none⟩ := ha.resolve_left (by omega)
    have hlt : ((j : Nat) : Int) < ((n : Nat) : Int) := by omega
    refine ⟨_, _, .pointer (some ⟨B, s + (o + j * i.size), none⟩), rfl, ?_, .ptr hr⟩
    have hlt' : j < n := by omega
    simp [Instr.indexAt, run_underlying hu, asIntOf, sizeOf, typeInfo, hi, hlt', add_flat, Nat.add_assoc]
  · cases hv
end
end Ev
end Go.Proofs.YtbcmcdmflblgkaaGreatDoor

namespace Go.Proofs.YtbcmcdmflblgkaaGreatDoor
namespace Ev
open Go.RowKit
set_option linter.unusedVariables false
set_option linter.unusedSectionVars false
variable [bs : Base]
section
variable {P : Program} {w : World}
theorem kindEq_iff {a b : IntKind} (h : kindEq a b = true) : a = b := by cases a <;> cases b <;> first | rfl | cases h
theorem beqs_iff : ∀ {a b : List Nat}, beqs a b = true ↔ a = b
  | [], [] => by simp [beqs]
  | x :: a, y :: b => by simp [beqs, beqs_iff (a := a)]
  | [], _ :: _ => by simp [beqs]
  | _ :: _, [] => by simp [beqs]
theorem run_binInt {op : BinOp} {t : TypeId} {x y : Operand} {k k' : IntKind} {a b : Int} {v : V} (hk : (kindEq k k' || isSh op) = true) (hv : arith op k a b = some v) (ρ : Rho) :
    ∃ u, (do eqGuard op t x y (.int k a) (.int k' b); Go.binOp op t (.int k a) (.int k' b) : Sem Value).run P w = .ok u w ∧ VR ρ v u := by
  have hg : (eqGuard op t x y (.int k a) (.int k' b)).run P w = .ok () w := by cases op <;> simp [eqGuard]
  have go : ∀ u, (Go.binOp op t (.int k a) (.int k' b)).run P w = .ok u w → VR ρ v u → ∃ u, (do eqGuard op t x y (.int k a) (.int k' b); Go.binOp op t (.int k a) (.int k' b) : Sem Value).run P w = .ok u w ∧ VR ρ v u :=
    fun u h1 h2 => ⟨u, by simp [hg, h1], h2⟩
  by_cases hs : isSh op = true
  · have hp : ∀ t k'', Go.binOp op t (.int k a) (.int k'' b) = Op.shift op k a k'' b := fun t k'' => by cases op <;> first | rfl | cases hs
    have hsh : ∀ k1 k2, Op.shift op k a k1 b = Op.shift op k a k2 b := fun _ _ => rfl
    have hp2 : pureOf (Go.binOp op 0 (.int k a) (.int k b)) = some v := by cases op <;> first | exact hv | cases hs
    obtain ⟨u, hu, hR⟩ := pureOf_some hp2 ρ
    refine go u ?_ hR
    rw [hp, hsh k' k, ← hp 0 k, hu]
    rfl
  · have hs' : isSh op = false := by simpa using hs
    rw [hs', Bool.or_false] at hk
    obtain rfl := kindEq_iff hk
    have hdef : ∀ t, Go.binOp op t (.int k a) (.int k b) = Go.binOp op 0 (.int k a) (.int k b) := fun t => by cases op <;> rfl
    cases op with
    | add => injection hv with hv; subst hv; exact go _ (by simp [Go.binOp, Op.intArith]) (.int _ _)
    | sub => injection hv with hv; subst hv; exact go _ (by simp [Go.binOp, Op.intArith]) (.int _ _)
    | lss => injection hv with hv; subst hv; exact go _ (by simp [Go.binOp, Op.intCmp]) (.boo _)
    | leq => injection hv with hv; subst hv; exact go _ (by simp [Go.binOp, Op.intCmp]) (.boo _)
    | gtr => injection hv with hv; subst hv; exact go _ (by simp [Go.binOp, Op.intCmp]) (.boo _)
    | geq => injection hv with hv; subst hv; exact go _ (by simp [Go.binOp, Op.intCmp]) (.boo _)
    | eql => injection hv with hv; subst hv; exact go _ (by simp [Go.binOp, Op.intCmp]) (.boo _)
    | neq => injection hv with hv; subst hv; exact go _ (by simp [Go.binOp, Op.intCmp]) (.boo _)
    | shl => exact absurd rfl hs
    | shr => exact absurd rfl hs
    | _ =>
      obtain ⟨u, hu, hR⟩ := pureOf_some (by simpa [arith] using hv) ρ
      exact go u (by rw [hdef, hu]; rfl) hR

theorem eqCls_eq {t : TypeId} {n : Nat} (hc : eqCls P t = n) (hn : n ≠ 0) : ∃ d, P.underlying t = some d ∧ (n = 1 → d = .bool) ∧ (n = 2 → d = .string) ∧ (n = 3 → ∃ e, d = .pointer e) ∧ (n = 4 → ∃ e, d = .slice e) ∧ (n = 5 → ∃ e, d = .interface e) := by
  unfold eqCls at hc
  split at hc <;> first
    | (rename_i h; refine ⟨_, h, ?_⟩; subst hc; simp)
    | exact absurd hc.symm hn
theorem toList_eq {a b : List Nat} {s t : ByteArray} (hs : s.data.toList = a.map UInt8.ofNat) (ha : ∀ x ∈ a, x < 256) (ht : t.data.toList = b.map UInt8.ofNat) (hb : ∀ x ∈ b, x < 256) : s.data.toList = t.data.toList ↔ a = b := by
  rw [hs, ht]
  constructor
  · intro h
    have h2 := congrArg (List.map UInt8.toNat) h
    simp only [List.map_map] at h2
    have key : ∀ l : List Nat, (∀ x ∈ l, x < 256) → l.map (UInt8.toNat ∘ UInt8.ofNat) = l := fun l hl => by
      refine Eq.trans (List.map_congr_left fun x hx => ?_) (List.map_id l)
      have := hl x hx
      simp [Function.comp, UInt8.toNat_ofNat', Nat.mod_eq_of_lt this]
    rwa [key a ha, key b hb] at h2
  · rintro rfl
    rfl
theorem bytes_toList (s : ByteArray) : s.toList = s.data.toList := ByteArray.toList_eq s
theorem run_eqV {ρ : Rho} {t : TypeId} {a b : V} {x y : Value} {r : Bool} (ha : VR ρ a x) (hb : VR ρ b y) (hv : eqV (eqCls P t) a b = some r) :
    (Op.equal t x y).run P w = .ok r w ∨ ∃ s u, x = .string s ∧ y = .string u ∧ r = (s.toList == u.toList) := by
  obtain ⟨d0, hd⟩ : ∃ d, Op.maxDepth = d + 1 := ⟨9999, rfl⟩
  have nz : ∀ {n : Nat}, Nat.beq (eqCls P t) n = true → eqCls P t = n := fun h => Nat.eq_of_beq_eq_true h
  unfold eqV at hv
  split at hv
  · obtain ⟨hc, hv⟩ := io_some hv
    injection hv with hv
    obtain ⟨d, hu, h1, _⟩ := eqCls_eq (nz hc) (by decide)
    obtain rfl := h1 rfl
    obtain rfl := ha.boo_inv
    obtain rfl := hb.boo_inv
    subst hv
    exact .inl (by unfold Op.equal; rw [hd]; simp [Op.equalIn, run_underlying hu])
  · obtain ⟨hc, hv⟩ := io_some hv
    injection hv with hv
    cases ha with
    | str h1 h2 =>
      cases hb with
      | str h3 h4 =>
        refine .inr ⟨_, _, rfl, rfl, ?_⟩
        rw [← hv, Bool.eq_iff_iff, beqs_iff, beq_iff_eq, bytes_toList, bytes_toList]
        exact (toList_eq h1 h2 h3 h4).symm
  · obtain ⟨hc, hv⟩ := io_some hv
    injection hv with hv
    obtain ⟨d, hu, _, _, h1, _⟩ := eqCls_eq (nz hc) (by decide)
    obtain ⟨e, rfl⟩ := h1 rfl
    obtain ⟨B, s, L, hr, rfl⟩ := ha.ptr_inv
    obtain rfl := hb.lit_inv
    subst hv
    exact .inl (by unfold Op.equal; rw [hd]; simp [Op.equalIn, run_underlying hu])
  · obtain ⟨hc, hv⟩ := io_some hv
    injection hv with hv
    obtain ⟨d, hu, _, _, h1, _⟩ := eqCls_eq (nz hc) (by decide)
    obtain ⟨e, rfl⟩ := h1 rfl
    obtain rfl := ha.lit_inv
    obtain rfl := hb.lit_inv
    subst hv
    exact .inl (by unfold Op.equal; rw [hd]; simp [Op.equalIn, run_underlying hu])
  · obtain ⟨hc, hv⟩ := io_some hv
    injection hv with hv
    obtain ⟨d, hu, _, _, _, h1, _⟩ := eqCls_eq (nz hc) (by decide)
    obtain ⟨e, rfl⟩ := h1 rfl
    obtain ⟨B, s, L, ad, c', hr, rfl, _⟩ := ha.sl_inv
    obtain rfl := hb.nils_inv
    subst hv
    exact .inl (by unfold Op.equal; rw [hd]; simp [Op.equalIn, run_underlying hu])
  · obtain ⟨hc, hv⟩ := io_some hv
    injection hv with hv
    obtain ⟨d, hu, _, _, _, h1, _⟩ := eqCls_eq (nz hc) (by decide)
    obtain ⟨e, rfl⟩ := h1 rfl
    obtain rfl := ha.nils_inv
    obtain rfl := hb.nils_inv
    subst hv
    exact .inl (by unfold Op.equal; rw [hd]; simp [Op.equalIn, run_underlying hu])
  · obtain ⟨hc, hv⟩ := io_some hv
    injection hv with hv
    obtain ⟨d, hu, _, _, _, _, h1⟩ := eqCls_eq (nz hc) (by decide)
    obtain ⟨e, rfl⟩ := h1 rfl
    obtain ⟨c, rfl, _⟩ := ha.ifc_inv
    obtain rfl := hb.lit_inv
    subst hv
    exact .inl (by unfold Op.equal; rw [hd]; simp [Op.equalIn, run_underlying hu])
  · obtain ⟨hc, hv⟩ := io_some hv
    injection hv with hv
    obtain ⟨d, hu, _, _, _, _, h1⟩ := eqCls_eq (nz hc) (by decide)
    obtain ⟨e, rfl⟩ := h1 rfl
    obtain rfl := ha.lit_inv
    obtain rfl := hb.lit_inv
    subst hv
    exact .inl (by unfold Op.equal; rw [hd]; simp [Op.equalIn, run_underlying hu])
  · cases hv

theorem run_eq2 {ρ : Rho} {t : TypeId} {x y : Operand} {a b : V} {p q : Value} {r : Bool} (hc : (isIfc P t && !(isCst x || isCst y)) = false) (h1 : VR ρ a p) (h2 : VR ρ b q) (hr : eqV (eqCls P t) a b = some r) :
    (do eqGuard .eql t x y p q; Go.binOp .eql t p q : Sem Value).run P w = .ok (.bool r) w ∧ (do eqGuard .neq t x y p q; Go.binOp .neq t p q : Sem Value).run P w = .ok (.bool (!r)) w := by
  have he := run_eqV (P := P) (w := w) h1 h2 hr
  unfold eqV at hr
  split at hr
  · obtain rfl := h1.boo_inv
    obtain rfl := h2.boo_inv
    rcases he with he | ⟨_, _, e, _⟩
    · simp [eqGuard, Go.binOp, he]
    · cases e
  · cases h1
    cases h2
    rcases he with he | ⟨s, u, e1, e2, rfl⟩
    · have := he
      simp only [eqGuard, Go.binOp, Op.stringOp]
      rename_i l1 l2 s1 g1 g2 s2 g3 g4
      obtain ⟨hc', hr'⟩ := io_some hr
      injection hr' with hr'
      subst hr'
      have e : (s1.toList == s2.toList) = beqs l1 l2 := by
        rw [Bool.eq_iff_iff, beqs_iff, beq_iff_eq, bytes_toList, bytes_toList]
        exact toList_eq g1 g2 g3 g4
      simp [e]
    · injection e1 with e1
      injection e2 with e2
      subst e1
      subst e2
      simp [eqGuard, Go.binOp, Op.stringOp]
  · obtain ⟨B, s, L, hρ, rfl⟩ := h1.ptr_inv
    obtain rfl := h2.lit_inv
    rcases he with he | ⟨_, _, e, _⟩
    · simp [eqGuard, Go.binOp, he]
    · cases e
  · obtain rfl := h1.lit_inv
    obtain rfl := h2.lit_inv
    rcases he with he | ⟨_, _, e, _⟩
    · simp [eqGuard, Go.binOp, he]
    · cases e
  · obtain ⟨B, s, L, ad, c', hρ, rfl, _⟩ := h1.sl_inv
    obtain rfl := h2.nils_inv
    rcases he with he | ⟨_, _, e, _⟩
    · simp [eqGuard, Go.binOp, he]
    · cases e
  · obtain rfl := h1.nils_inv
    obtain rfl := h2.nils_inv
    rcases he with he | ⟨_, _, e, _⟩
    · simp [eqGuard, Go.binOp, he]
    · cases e
  · obtain ⟨c, rfl, _⟩ := h1.ifc_inv
    obtain rfl := h2.lit_inv
    rcases he with he | ⟨_, _, e, _⟩
    · simp [eqGuard, Go.binOp, he]
    · cases e
  · obtain rfl := h1.lit_inv
    obtain rfl := h2.lit_inv
    have hi : isIfc P t = true := by
      obtain ⟨hb, _⟩ := io_some hr
      obtain ⟨d, hu, _, _, _, _, h5⟩ := eqCls_eq (Nat.eq_of_beq_eq_true hb) (by decide)
      obtain ⟨e, rfl⟩ := h5 rfl
      simp [isIfc, hu]
    rw [hi] at hc
    rcases he with he | ⟨_, _, e, _⟩
    · cases x <;> cases y <;> first
        | (simp [isCst] at hc; done)
        | simp [eqGuard, Go.binOp, he]
    · cases e
  · cases hr
theorem run_bin {ρ : Rho} {h : H} {op : BinOp} {t : TypeId} {x y : Operand} {vs : List V} {us : List Value} {v : V} (hc : (isEq op && isIfc P t && !(isCst x || isCst y)) = false) (hs : VRs ρ vs us) (hv : sBin op (eqCls P t) vs h = some v) :
    ∃ p q u, us = [p, q] ∧ (do eqGuard op t x y p q; Go.binOp op t p q : Sem Value).run P w = .ok u w ∧ VR ρ v u := by
  unfold sBin at hv
  split at hv
  · rename_i k a k' b
    obtain ⟨p, q, rfl, h1, h2⟩ := hs.two_inv
    obtain ⟨hk, hv⟩ := io_some hv
    obtain rfl := h1.int_inv
    obtain rfl := h2.int_inv
    obtain ⟨u, hu, hR⟩ := run_binInt (P := P) (w := w) (t := t) (x := x) (y := y) hk hv ρ
    exact ⟨_, _, u, rfl, hu, hR⟩
  · obtain ⟨p, q, rfl, h1, h2⟩ := hs.two_inv
    split at hv
    · obtain ⟨r, hr, hv⟩ := ob_some hv
      injection hv with hv
      subst hv
      exact ⟨p, q, _, rfl, (run_eq2 (by simpa [isEq] using hc) h1 h2 hr).1, .boo _⟩
    · obtain ⟨r, hr, hv⟩ := ob_some hv
      injection hv with hv
      subst hv
      exact ⟨p, q, _, rfl, (run_eq2 (by simpa [isEq] using hc) h1 h2 hr).2, .boo _⟩
    · cases hv
  · cases hv
theorem run_un {ρ : Rho} {h : H} {op : UnOp} {vs : List V} {us : List Value} {v : V} (hs : VRs ρ vs us) (hv : sUn op vs h = some v) : ∃ p u, us = [p] ∧ (Op.unary op p).run P w = .ok u w ∧ VR ρ v u := by
  unfold sUn at hv
  split at hv
  · obtain ⟨p, rfl, h1⟩ := hs.one_inv
    obtain rfl := h1.int_inv
    obtain ⟨u, hu, hR⟩ := pureOf_some hv ρ
    exact ⟨_, u, rfl, by rw [hu]; rfl, hR⟩
  · obtain ⟨p, rfl, h1⟩ := hs.one_inv
    obtain rfl := h1.boo_inv
    obtain ⟨u, hu, hR⟩ := pureOf_some hv ρ
    exact ⟨_, u, rfl, by rw [hu]; rfl, hR⟩
  · cases hv
end
end Ev
end Go.Proofs.YtbcmcdmflblgkaaGreatDoor

namespace Go.Proofs.YtbcmcdmflblgkaaGreatDoor
namespace Ev
open Go.RowKit
set_option linter.unusedVariables false
set_option linter.unusedSectionVars false
variable [bs : Base]
theorem VRs.splice {ρ : Rho} {vs new : List V} {us news : List Value} (h : VRs ρ vs us) (hn : VRs ρ new news) (o : Nat) : VRs ρ (Ev.splice o new vs) (us.take o ++ news ++ us.drop (o + news.length)) := by
  have := ((h.take o).append hn).append (h.drop (o + new.length))
  rw [← hn.1]
  exact this
theorem fold_set (off : Nat) : ∀ (l : List Value) (k : Nat) (cs : Array Value), off + k + l.length ≤ cs.size →
    ((l.zipIdx k).foldl (fun (cs : Array Value) (p : Value × Nat) => cs.setIfInBounds (off + p.2) p.1) cs).toList = cs.toList.take (off + k) ++ l ++ cs.toList.drop (off + k + l.length)
  | [], k, cs, h => by simp
  | x :: l, k, cs, h => by
    simp only [List.zipIdx_cons, List.foldl_cons, List.length_cons] at h ⊢
    rw [fold_set off l (k + 1) _ (by simp; omega)]
    have hlt : off + k < cs.toList.length := by simp; omega
    rw [Array.toList_setIfInBounds]
    apply List.ext_getElem?
    intro i
    have e1 : off + (k + 1) = off + k + 1 := by omega
    rw [e1]
    simp only [List.getElem?_append, List.getElem?_take, List.getElem?_drop, List.length_append, List.length_take, List.length_set, List.getElem?_set, List.length_cons]
    grind
section
variable {P : Program} {w : World}
theorem fill_rel {ρ : Rho} {pl : Nat → Option (Nat × Nat)} {ev : Operand → Value} : ∀ (ps : List (Nat × Operand)) (l : List (Nat × Nat)) (vs cs : List V) (cells : Array Value) (cs' : List V),
    placed pl ps = some l → VRs ρ vs (ps.map fun p => ev p.2) → VRs ρ cs cells.toList → fillL l vs cs = some cs' → ∃ cells', Instr.fill pl cells (ps.map fun p => (p.1, ev p.2)) = some cells' ∧ VRs ρ cs' cells'.toList
  | [], l, vs, cs, cells, cs', hp, hv, hc, hf => by
    injection hp with hp
    subst hp
    injection hf with hf
    subst hf
    exact ⟨cells, rfl, hc⟩
  | p :: ps, l, vs, cs, cells, cs', hp, hv, hc, hf => by
    unfold placed at hp
    cases hx : pl p.1 with
    | none => rw [hx] at hp; cases hp
    | some x =>
      rw [hx] at hp
      cases hr : placed pl ps with
      | none => rw [hr] at hp; cases hp
      | some r =>
        rw [hr] at hp
        injection hp with hp
        subst hp
        cases vs with
        | nil => cases hf
        | cons v vs =>
          obtain ⟨u, us, e, h1, h2⟩ := hv.cons_inv
          injection e with e1 e2
          have e1 : ev p.2 = u := e1
          obtain ⟨hb, hf⟩ := io_some hf
          rw [Bool.and_eq_true] at hb
          have hl := Nat.eq_of_beq_eq_true hb.1
          have hle := Nat.le_of_ble_eq_true hb.2
          have hcl : (ev p.2).cells.toList.length = x.2 := by rw [e1, ← h1.cells_any.1, hl]
          have hsz : (ev p.2).cells.size = x.2 := by simpa using hcl
          have hcs : cs.length = cells.size := by have := hc.1; simpa using this
          have hfold := fold_set x.1 (ev p.2).cells.toList 0 cells (by rw [hcl]; omega)
          obtain ⟨cells', hfi, hR⟩ := fill_rel ps r vs _ ((ev p.2).cells.zipIdx.foldl (fun cs (c, j) => cs.setIfInBounds (x.1 + j) c) cells) cs' hr (by rw [e2]; exact h2) (by
            have := hc.splice (h1.cells_any) x.1
            rw [← e1] at this
            have e : ((ev p.2).cells.zipIdx.foldl (fun cs (c, j) => cs.setIfInBounds (x.1 + j) c) cells).toList = cells.toList.take x.1 ++ (ev p.2).cells.toList ++ cells.toList.drop (x.1 + (ev p.2).cells.toList.length) := by
              rw [← Array.foldl_toList, Array.toList_zipIdx]
              simpa using hfold
            rw [e]
            exact this) hf
          refine ⟨cells', ?_, hR⟩
          show Instr.fill pl cells ((p.1, ev p.2) :: ps.map fun p => (p.1, ev p.2)) = some cells'
          unfold Instr.fill
          simp only [hx]
          rw [if_neg (by simp [hsz]; omega)]
          exact hfi
theorem zeroL_rel {t : TypeId} {z : List V} (h : zeroL P t = some z) (ρ : Rho) : ∃ i y, P.info? t = some i ∧ i.zero = some y ∧ VRs ρ z y.cells.toList := by
  unfold zeroL at h
  cases hi : P.info? t with
  | none => rw [hi] at h; cases h
  | some i =>
    rw [hi] at h
    cases hz : i.zero with
    | none => simp [hz] at h
    | some y =>
      simp only [hz, Option.map_some] at h
      injection h with h
      subst h
      refine ⟨i, y, rfl, hz, by simp, fun j a b ha hb => ?_⟩
      rw [List.getElem?_map, hb] at ha
      injection ha with ha
      subst ha
      exact ofV_rel ρ b
theorem l_build {ρ : Rho} {h : H} {t : TypeId} {fs : Array Field} {z : List V} {pl l : List (Nat × Nat)} {ps : Array (Nat × Operand)} {ev : Operand → Value} {vs : List V} {v : V} (hu : P.underlying t = some (.struct fs)) (hz : zeroL P t = some z) (hpl : places P fs = some pl)
    (hl : placed (fun i => pl.toArray[i]?) ps.toList = some l) (hs : VRs ρ vs (ps.toList.map fun p => ev p.2)) (hv : sBuild z l vs h = some v) : ∃ u, (Instr.build t (ps.map fun (i, x) => (i, ev x))).run P w = .ok u w ∧ VR ρ v u := by
  obtain ⟨cs, hf, hv⟩ := ob_some hv
  injection hv with hv
  subst hv
  obtain ⟨i, y, hi, hy, hR⟩ := zeroL_rel hz ρ
  obtain ⟨cells', hfi, hR2⟩ := fill_rel ps.toList l vs z y.cells cs hl hs hR hf
  refine ⟨.agg cells', run_build w t _ cells' ?_, .agg (by simpa using hR2.1) (fun i v c hv hc => hR2.2 i v c hv (by simpa using hc))⟩
  unfold Program.built
  unfold places at hpl
  simp only [hi, hu, hy, hpl]
  simpa using hfi
theorem l_conv {ρ : Rho} {h : H} {k k0 : IntKind} {s d : TypeId} {vs : List V} {us : List Value} {v : V} (hus : P.underlying s = some (.int k0)) (hud : P.underlying d = some (.int k)) (hs : VRs ρ vs us) (hv : sConv k vs h = some v) :
    ∃ x u, us = [x] ∧ (Go.convert s d x).run P w = .ok u w ∧ VR ρ v u := by
  unfold sConv at hv
  split at hv
  · obtain ⟨x, rfl, h1⟩ := hs.one_inv
    obtain rfl := h1.int_inv
    injection hv with hv
    subst hv
    exact ⟨_, _, rfl, by simp [Go.convert, run_underlying hus, run_underlying hud, Conv.intToInt], .int _ _⟩
  · cases hv
theorem l_mkif {ρ : Rho} {h : H} {t : TypeId} {vs : List V} {us : List Value} {v : V} (hd : (P.underlying t).isSome = true) (hi : isIfc P t = false) (hs : VRs ρ vs us) (hv : sMkif t vs h = some v) : ∃ x u, us = [x] ∧ (Instr.makeInterface t x).run P w = .ok u w ∧ VR ρ v u := by
  unfold sMkif at hv
  split at hv
  · obtain ⟨x, rfl, h1⟩ := hs.one_inv
    injection hv with hv
    subst hv
    refine ⟨x, _, rfl, ?_, .ifc h1⟩
    obtain ⟨d, hu⟩ := Option.isSome_iff_exists.1 hd
    unfold isIfc at hi
    rw [hu] at hi
    cases d <;> first
      | exact Bool.noConfusion hi
      | simp [Instr.makeInterface, run_underlying hu]
  · cases hv
theorem zeroV_rel {t : TypeId} {z : V} (h : zeroV P t = some z) (ρ : Rho) : ∃ i y, P.info? t = some i ∧ i.zero = some y ∧ VR ρ z y := by
  unfold zeroV at h
  cases hi : P.info? t with
  | none => rw [hi] at h; cases h
  | some i =>
    rw [hi] at h
    cases hz : i.zero with
    | none => simp [hz] at h
    | some y =>
      simp only [hz, Option.map_some] at h
      injection h with h
      subst h
      refine ⟨i, y, rfl, hz, ?_⟩
      split
      · refine .agg (by simp) (fun j a b ha hb => ?_)
        rw [List.getElem?_map] at ha
        have hb' := hb
        rw [← Array.getElem?_toList] at hb'
        rw [hb'] at ha
        injection ha with ha
        subst ha
        exact ofV_rel ρ b
      · exact ofV_rel ρ _
theorem l_tass {ρ : Rho} {h : H} {xt t : TypeId} {z : V} {ok : Bool} {vs : List V} {us : List Value} {v : V} (hd : (P.underlying t).isSome = true) (hi : isIfc P t = false) (hz : zeroV P t = some z) (hs : VRs ρ vs us) (hv : sTass t z ok vs h = some v) :
    ∃ x u, us = [x] ∧ (Instr.typeAssert x xt t ok).run P w = .ok u w ∧ VR ρ v u := by
  obtain ⟨d, hu⟩ := Option.isSome_iff_exists.1 hd
  have hni : ∀ ms, d ≠ .interface ms := by
    intro ms e
    subst e
    unfold isIfc at hi
    rw [hu] at hi
    cases hi
  obtain ⟨i, y, hi', hy, hzr⟩ := zeroV_rel hz ρ
  have fails : ∀ p : Value, VR ρ (.tup [z, .boo false]) (.tuple #[y, .bool false]) := fun _ => VR.tup_mk (VRs.cons hzr (VRs.cons (.boo _) (VRs.nil ρ)))
  unfold sTass at hv
  split at hv
  · rename_i u v0
    obtain ⟨x, rfl, h1⟩ := hs.one_inv
    obtain ⟨c, rfl, hc⟩ := h1.ifc_inv
    by_cases hut : u = t
    · subst hut
      simp only [Nat.beq_refl, cond_true] at hv
      injection hv with hv
      subst hv
      cases ok with
      | true =>
        refine ⟨_, .tuple #[c, .bool true], rfl, ?_, VR.tup_mk (VRs.cons hc (VRs.cons (.boo _) (VRs.nil ρ)))⟩
        cases d <;> first | exact absurd rfl (hni _) | simp [Instr.typeAssert, run_underlying hu]
      | false =>
        refine ⟨_, c, rfl, ?_, hc⟩
        cases d <;> first | exact absurd rfl (hni _) | simp [Instr.typeAssert, run_underlying hu]
    · have hb : Nat.beq u t = false := Bool.eq_false_iff.2 fun e => hut (Nat.eq_of_beq_eq_true e)
      simp only [hb, cond_false] at hv
      obtain ⟨rfl, hv⟩ := io_some hv
      injection hv with hv
      subst hv
      refine ⟨_, .tuple #[y, .bool false], rfl, ?_, fails y⟩
      cases d <;> first | exact absurd rfl (hni _) | simp [Instr.typeAssert, run_underlying hu, hut, zeroValue, typeInfo, hi', hy]
  · obtain ⟨x, rfl, h1⟩ := hs.one_inv
    obtain rfl := h1.lit_inv
    obtain ⟨rfl, hv⟩ := io_some hv
    injection hv with hv
    subst hv
    refine ⟨_, .tuple #[y, .bool false], rfl, ?_, fails y⟩
    cases d <;> first | exact absurd rfl (hni _) | simp [Instr.typeAssert, run_underlying hu, zeroValue, typeInfo, hi', hy]
  · cases hv
theorem elemT_eq {t e : TypeId} (h : elemT P t = some e) : P.underlying t = some (.slice e) := by
  unfold elemT at h
  split at h
  · injection h with h; subst h; assumption
  · cases h
theorem slen_rel {ρ : Rho} {v : V} {u : Value} {n : Nat} (h : VR ρ v u) (hv : slen v = some n) : ∃ a c, u = .slice a n c := by
  unfold slen at hv
  split at hv
  · injection hv with hv; subst hv; exact ⟨_, _, h.nils_inv⟩
  · injection hv with hv
    subst hv
    obtain ⟨B, s, L, ad, c', _, rfl, _⟩ := h.sl_inv
    exact ⟨_, _, rfl⟩
  · cases hv
theorem l_len {ρ : Rho} {h : H} {t e ty : TypeId} {vs : List V} {us : List Value} {v : V} (ht : elemT P t = some e) (hs : VRs ρ vs us) (hv : sLen vs h = some v) : ∃ x u, us = [x] ∧ (Builtin.len_ #[t] ty #[x]).run P w = .ok u w ∧ VR ρ v u := by
  unfold sLen at hv
  split at hv
  · obtain ⟨x, rfl, h1⟩ := hs.one_inv
    obtain ⟨n, hn, hv⟩ := ob_some hv
    injection hv with hv
    subst hv
    obtain ⟨a, c, rfl⟩ := slen_rel h1 hn
    exact ⟨_, .int .i64 n, rfl, by simp [Builtin.len_, run_underlying (elemT_eq ht), goInt], .int _ _⟩
  · cases hv
theorem l_cap {ρ : Rho} {h : H} {t e ty : TypeId} {vs : List V} {us : List Value} {v : V} (ht : elemT P t = some e) (hs : VRs ρ vs us) (hv : sCap vs h = some v) : ∃ x u, us = [x] ∧ (Builtin.cap_ #[t] ty #[x]).run P w = .ok u w ∧ VR ρ v u := by
  unfold sCap at hv
  split at hv
  · obtain ⟨x, rfl, h1⟩ := hs.one_inv
    obtain rfl := h1.nils_inv
    injection hv with hv
    subst hv
    exact ⟨_, .int .i64 0, rfl, by simp [Builtin.cap_, run_underlying (elemT_eq ht), goInt], .int _ _⟩
  · obtain ⟨x, rfl, h1⟩ := hs.one_inv
    obtain ⟨B, s, L, ad, c', _, rfl, _, _, hx, _⟩ := h1.sl_inv
    obtain rfl := hx rfl
    injection hv with hv
    subst hv
    exact ⟨_, .int .i64 c', rfl, by simp [Builtin.cap_, run_underlying (elemT_eq ht), goInt], .int _ _⟩
  · cases hv
theorem l_mm {ρ : Rho} {h : H} {mx : Bool} {ts : Array TypeId} {ty : TypeId} {vs : List V} {us : List Value} {v : V} (hs : VRs ρ vs us) (hv : sMm mx vs h = some v) : ∃ x y u, us = [x, y] ∧ (if mx then Builtin.max_ ts ty #[x, y] else Builtin.min_ ts ty #[x, y]).run P w = .ok u w ∧ VR ρ v u := by
  unfold sMm at hv
  split at hv
  · rename_i k a k' b
    obtain ⟨x, y, rfl, h1, h2⟩ := hs.two_inv
    obtain rfl := h1.int_inv
    obtain rfl := h2.int_inv
    injection hv with hv
    subst hv
    refine ⟨_, _, .int k (bif mx then (bif decide (b > a) then b else a) else (bif decide (b < a) then b else a)), rfl, ?_, .int _ _⟩
    cases mx with
    | true => by_cases hab : b > a <;> simp [Builtin.max_, Builtin.max2, hab]
    | false => by_cases hab : b < a <;> simp [Builtin.min_, Builtin.min2, hab]
  · cases hv
end
end Ev
end Go.Proofs.YtbcmcdmflblgkaaGreatDoor

namespace Go.Proofs.YtbcmcdmflblgkaaGreatDoor
namespace Ev
open Go.RowKit
set_option linter.unusedVariables false
set_option linter.unusedSectionVars false
variable [bs : Base]
section
variable {P : Program} {w : World}
/-- what a slice holds -/
theorem held_rel {ρ : Rho} {h : H} (hw : WR ρ h w) {sz : Nat} {v : V} {u : Value} {cs : List V} (hv : VR ρ v u) (hh : held sz v h = some cs) :
    ∃ (A : Option Addr) (n c : Nat) (us : List Value), u = .slice A n c ∧ slen v = some n ∧ us.length = n * sz ∧ VRs ρ cs us ∧ (0 < n → ∃ a, A = some a ∧ ∀ j x, us[j]? = some x → w.cell? (a.add j) = some x) := by
  unfold held at hh
  split at hh
  · injection hh with hh
    subst hh
    exact ⟨_, _, _, [], hv.nils_inv, rfl, by simp, VRs.nil ρ, fun h => absurd h (by omega)⟩
  · rename_i b o n c ex k
    obtain ⟨B, s, L, ad, c', hr, rfl, hn, hc, hx, hm, ha, _⟩ := hv.sl_inv
    split at hh
    · injection hh with hh
      subst hh
      exact ⟨_, _, _, [], rfl, rfl, by simp, VRs.nil ρ, fun h => absurd h (by omega)⟩
    · rename_i hn0
      obtain ⟨ds, hb, hh⟩ := ob_some hh
      obtain ⟨hle, hh⟩ := io_some hh
      injection hh with hh
      subst hh
      have hpos : 0 < n := Nat.pos_of_ne_zero fun e => hn0 e
      obtain rfl : ad = ⟨B, s + o, none⟩ := ha.resolve_left (by omega)
      obtain ⟨us, hl, hR, hcell⟩ := hw.range hb hr (Nat.le_of_ble_eq_true hle)
      exact ⟨_, _, _, us, rfl, rfl, hl, hR, fun _ => ⟨_, rfl, hcell⟩⟩
  · cases hh
theorem run_first {sz n : Nat} {A : Option Addr} {c : Nat} {us : List Value} (hl : us.length = n * sz) (hc : 0 < n → ∃ a, A = some a ∧ ∀ j x, us[j]? = some x → w.cell? (a.add j) = some x) : (Builtin.firstCells sz n (.slice A n c)).run P w = .ok us.toArray w := by
  rcases A with _ | a
  · obtain rfl : n = 0 := by
      rcases Nat.eq_zero_or_pos n with h | h
      · exact h
      · obtain ⟨a, e, _⟩ := hc h; cases e
    have : us = [] := List.eq_nil_of_length_eq_zero (by simpa using hl)
    subst this
    simp [Builtin.firstCells]
  · refine run_firstCells_some w sz n a n c us hl fun j v hj => ?_
    rcases Nat.eq_zero_or_pos n with h | h
    · subst h
      have : us = [] := List.eq_nil_of_length_eq_zero (by simpa using hl)
      subst this
      simp at hj
    · obtain ⟨a', e, hc⟩ := hc h
      injection e with e
      subst e
      exact hc j v hj
theorem bytesV_rel {ρ : Rho} : ∀ {cs : List V} {l : List Nat} {us : List Value}, bytesV cs = some l → VRs ρ cs us → us = l.map (fun (n : Nat) => Value.int .u8 (Int.ofNat n)) ∧ ∀ x ∈ l, x < 256
  | [], l, us, h, hs => by
    injection h with h
    subst h
    obtain rfl := hs.nil_inv
    exact ⟨rfl, fun x hx => by cases hx⟩
  | c :: cs, l, us, h, hs => by
    unfold bytesV at h
    split at h
    · rename_i heq; cases heq
    · rename_i heq
      injection heq with e1 e2
      subst e1
      subst e2
      obtain ⟨hb, h⟩ := io_some h
      obtain ⟨r, hr, h⟩ := ob_some h
      injection h with h
      subst h
      obtain ⟨u, us', rfl, h1, h2⟩ := hs.cons_inv
      obtain rfl := h1.int_inv
      obtain ⟨e, hlt⟩ := bytesV_rel hr h2
      refine ⟨by rw [e]; rfl, fun x hx => ?_⟩
      rcases List.mem_cons.1 hx with rfl | hx
      · have := Nat.le_of_ble_eq_true hb; omega
      · exact hlt x hx
    · cases h
theorem optN_rel {ρ : Rho} {b : Bool} {vs r : List V} {x : Option Nat} {lo : Option Operand} {ev : Operand → Value} {rest : List Value} (hb : lo.isSome = b) (hv : optN b vs = some (x, r)) (hs : VRs ρ vs ((ops3 lo).map ev ++ rest)) :
    VRs ρ r rest ∧ (match lo, x with | none, none => True | some o, some n => ∃ k, ev o = .int k (n : Int) | _, _ => False) := by
  cases lo with
  | none =>
    subst hb
    injection hv with hv
    injection hv with e1 e2
    subst e1
    subst e2
    exact ⟨hs, trivial⟩
  | some o =>
    subst hb
    unfold optN at hv
    simp only [Option.isSome_some] at hv
    cases vs with
    | nil => cases hv
    | cons v vs =>
      obtain ⟨n, hn, hv⟩ := ob_some hv
      injection hv with hv
      injection hv with e1 e2
      subst e1
      subst e2
      obtain ⟨u, us, e, h1, h2⟩ := hs.cons_inv
      simp only [ops3, List.map_cons, List.map_nil, List.cons_append, List.nil_append] at e
      injection e with e1 e2
      subst e2
      refine ⟨h2, ?_⟩
      unfold litI at hn
      split at hn
      · injection hn with hn
        subst hn
        exact ⟨_, by rw [e1]; exact h1.int_inv⟩
      · cases hn
theorem l_slice {ρ : Rho} {h : H} {t e : TypeId} {i : TypeInfo} {x : Operand} {lo hi mx : Option Operand} {ev : Operand → Value} {vs : List V} {v : V} (ht : elemT P t = some e) (hi' : P.info? e = some i) (hs : VRs ρ vs ((x :: (ops3 lo ++ ops3 hi ++ ops3 mx)).map ev))
    (hv : sSlice i.size lo.isSome hi.isSome mx.isSome vs h = some v) : ∃ u, (Instr.sliceAt t (ev x) (lo.map ev) (hi.map ev) (mx.map ev)).run P w = .ok u w ∧ VR ρ v u := by
  have hu := elemT_eq ht
  unfold sSlice at hv
  split at hv
  · rename_i v0 r
    obtain ⟨hmh, hv1⟩ := io_some hv
    obtain ⟨⟨xl, rl⟩, hl, hv2⟩ := ob_some hv1
    obtain ⟨⟨xh, rh⟩, hh, hv3⟩ := ob_some hv2
    obtain ⟨⟨xm, rm⟩, hm, hv4⟩ := ob_some hv3
    clear hv hv1 hv2 hv3
    revert hv4
    intro hv
    obtain ⟨u0, us0, e0, hx, hr⟩ := hs.cons_inv
    simp only [List.map_cons, List.map_append] at e0
    injection e0 with ex er
    subst er
    simp only at hl hh hm hv
    rw [List.append_assoc] at hr
    obtain ⟨hr1, hL⟩ := optN_rel rfl hl hr
    obtain ⟨hr2, hH⟩ := optN_rel rfl hh hr1
    have hr3 : VRs ρ rh ((ops3 mx).map ev ++ []) := by simpa using hr2
    obtain ⟨_, hM⟩ := optN_rel rfl hm hr3
    have mono : ∀ (a b : Nat), ((a : Nat) : Int) ≤ ((b : Nat) : Int) ↔ a ≤ b := fun a b => Int.ofNat_le
    have hbounds : ∀ (n c l e m : Nat), xl.getD 0 = l → xh.getD n = e → xm.getD c = m → l ≤ e → e ≤ m → m ≤ c → (Instr.sliceBounds true n c (lo.map ev) (hi.map ev) (mx.map ev)).run P w = .ok (l, e, m) w := by
      intro n c l e m h1 h2 h3 h4 h5 h6
      subst h1 h2 h3
      rcases lo with _ | lo <;> rcases hi with _ | hi <;> rcases mx with _ | mx <;> rcases xl with _ | xl <;> rcases xh with _ | xh <;> rcases xm with _ | xm <;> try exact hL.elim
      all_goals try exact hH.elim
      all_goals try exact hM.elim
      all_goals try (simp at hmh; done)
      all_goals simp only [Option.getD_none, Option.getD_some] at h4 h5 h6
      all_goals try obtain ⟨kl, hL⟩ := hL
      all_goals try obtain ⟨kh, hH⟩ := hH
      all_goals try obtain ⟨km, hM⟩ := hM
      all_goals simp [Instr.sliceBounds, Instr.sliceBound, asIntOf, *]
    split at hv
    · obtain ⟨hz, hv⟩ := io_some hv
      injection hv with hv
      subst hv
      simp only [Bool.and_eq_true] at hz
      obtain rfl := hx.nils_inv
      have z1 : xl.getD 0 = 0 := Nat.eq_of_beq_eq_true hz.1.1
      have z2 : xh.getD 0 = 0 := Nat.eq_of_beq_eq_true hz.1.2
      have z3 : xm.getD 0 = 0 := Nat.eq_of_beq_eq_true hz.2
      have := hbounds 0 0 0 0 0 z1 z2 z3 (Nat.le_refl _) (Nat.le_refl _) (Nat.le_refl _)
      refine ⟨.slice none 0 0, ?_, .nils⟩
      rw [ex]
      simp [Instr.sliceAt, Instr.slice, run_underlying hu, this, sizeOf, typeInfo, hi']
    · rename_i b o n c ex' k
      obtain ⟨B, s, L, ad, c', hρ, rfl, hn, hc, hxx, hmx, ha, hk⟩ := hx.sl_inv
      unfold cut at hv
      obtain ⟨hz, hv⟩ := io_some hv
      injection hv with hv
      subst hv
      simp only [Bool.and_eq_true] at hz
      have z1 := Nat.le_of_ble_eq_true hz.1.1.1
      have z2 := Nat.le_of_ble_eq_true hz.1.1.2
      have z3 := Nat.le_of_ble_eq_true hz.1.2
      have z4 := Nat.eq_of_beq_eq_true hz.2
      have hmc : xm.getD c' ≤ c' ∧ xh.getD n ≤ xm.getD c' ∧ xm.getD c ≤ xm.getD c' := by
        cases xm with
        | none => simp only [Option.getD_none] at z2 z3 ⊢; exact ⟨Nat.le_refl _, by omega, hc⟩
        | some m => simp only [Option.getD_some] at z2 z3 ⊢; exact ⟨by omega, z2, Nat.le_refl _⟩
      have := hbounds n c' (xl.getD 0) (xh.getD n) (xm.getD c') rfl rfl rfl z1 hmc.2.1 hmc.1
      rw [ex]
      refine ⟨.slice (some (if xm.getD c' = xl.getD 0 then ad else ad.add (xl.getD 0 * i.size))) (xh.getD n - xl.getD 0) (xm.getD c' - xl.getD 0), ?_, ?_⟩
      · simp [Instr.sliceAt, Instr.slice, run_underlying hu, this, sizeOf, typeInfo, hi']
        split <;> rfl
      · refine .sl hρ ?_ (by omega) (by omega) (fun he => ?_) (by omega) ?_
        · rw [← z4]
          have e1 : xm.getD c' - xl.getD 0 + xl.getD 0 ≤ c' := by omega
          have e2 := Nat.mul_le_mul_right k e1
          rw [Nat.add_mul] at e2
          omega
        · rw [Bool.or_eq_true] at he
          cases xm with
          | none =>
            rcases he with he | he
            · simp only [Option.getD_none]; rw [hxx he]
            · cases he
          | some m => rfl
        · by_cases hz0 : xm.getD c' = xl.getD 0
          · left; omega
          · right
            rw [if_neg hz0]
            have hlt : xl.getD 0 < c' := by omega
            obtain rfl : ad = ⟨B, s + o, none⟩ := ha.resolve_left (by omega)
            rw [add_flat, Nat.add_assoc]
    · cases hv
  · cases hv
theorem push_all : ∀ (l : List Nat) (r : ByteArray), (l.map (fun (n : Nat) => Int.ofNat n)).foldl (fun r n => r.push (UInt8.ofNat n.toNat)) r = ⟨(r.data.toList ++ l.map UInt8.ofNat).toArray⟩
  | [], r => by simp
  | x :: l, r => by
    simp only [List.map_cons, List.foldl_cons]
    rw [push_all l]
    simp [ByteArray.push]
theorem l_b2s {ρ : Rho} {h : H} (hw : WR ρ h w) {s d e : TypeId} {vs : List V} {us : List Value} {v : V} (hus : P.underlying s = some (.slice e)) (hue : P.underlying e = some (.int .u8)) (hud : P.underlying d = some .string) (hs : VRs ρ vs us) (hv : sB2s vs h = some v) :
    ∃ x u, us = [x] ∧ (Go.convert s d x).run P w = .ok u w ∧ VR ρ v u := by
  unfold sB2s at hv
  split at hv
  · obtain ⟨x, rfl, h1⟩ := hs.one_inv
    obtain ⟨cs, hh, hv⟩ := ob_some hv
    obtain ⟨l, hl, hv⟩ := ob_some hv
    injection hv with hv
    subst hv
    obtain ⟨A, n, c, ys, rfl, _, hlen, hR, hc⟩ := held_rel hw h1 hh
    obtain ⟨rfl, hlt⟩ := bytesV_rel hl hR
    have hf := run_first (P := P) (w := w) (sz := 1) (n := n) (c := c) hlen hc
    rcases A with _ | a
    · obtain rfl : n = 0 := by
        rcases Nat.eq_zero_or_pos n with h | h
        · exact h
        · obtain ⟨a, e, _⟩ := hc h; cases e
      have hl0 : l = [] := by
        have : l.length = 0 := by simpa using hlen
        exact List.eq_nil_of_length_eq_zero this
      subst hl0
      exact ⟨_, .string .empty, rfl, by simp [Go.convert, run_underlying hus, run_underlying hud, run_underlying hue, Conv.bytesToString], .str rfl (fun x hx => by cases hx)⟩
    · simp only [Builtin.firstCells, Nat.mul_one] at hf
      have hf' : (loadCells a n).run P w = .ok ((l.map (fun (n : Nat) => Int.ofNat n)).map (Value.int .u8)).toArray w := by
        rw [hf, List.map_map]
        rfl
      have hb := run_bytesToString (P := P) w a n c _ hf'
      rw [push_all] at hb
      refine ⟨_, .string ⟨(ByteArray.empty.data.toList ++ l.map UInt8.ofNat).toArray⟩, rfl, ?_, .str (l := l) ?_ hlt⟩
      · simp [Go.convert, run_underlying hus, run_underlying hud, run_underlying hue, hb]
      · simp
  · cases hv

/-! ### What makes a block -/
theorem zeros_rel {ρ : Rho} {z : List V} {y : Array Value} (hz : VRs ρ z y.toList) : ∀ (n : Nat) (N : Nat), N = n * y.size → VRs ρ (zeros n z) (madeCells y N).toList := by
  intro n N hN
  subst hN
  have hl : ∀ n, (zeros n z).length = n * z.length := fun n => by
    induction n with
    | zero => simp [zeros]
    | succ n ih => simp [zeros, ih, Nat.add_mul]; omega
  have hzl : z.length = y.size := by have := hz.1; simpa using this
  have hg : ∀ n i v, (zeros n z)[i]? = some v → z[i % z.length]? = some v := fun n => by
    induction n with
    | zero => intro i v h; simp [zeros] at h
    | succ n ih =>
      intro i v h
      simp only [zeros] at h
      rcases Nat.lt_or_ge i z.length with hi | hi
      · rw [List.getElem?_append_left hi] at h
        rw [Nat.mod_eq_of_lt hi]
        exact h
      · rw [List.getElem?_append_right hi] at h
        have := ih _ _ h
        rwa [Nat.mod_eq_sub_mod hi]
  refine ⟨by simp [hl, hzl, size_madeCells], fun i v u hv hu => ?_⟩
  have hi : i < n * y.size := by have := (List.getElem?_eq_some_iff.1 hu).1; simpa [size_madeCells] using this
  have h1 := hg n i v hv
  rw [hzl] at h1
  have hy : 0 < y.size := by
    rcases Nat.eq_zero_or_pos y.size with h | h
    · rw [h] at hi; omega
    · exact h
  have hm : i % y.size < y.size := Nat.mod_lt _ hy
  have e : (madeCells y (n * y.size)).toList[i]? = some y[i % y.size] := by
    rw [Array.getElem?_toList]
    simp [madeCells, hi, hm]
  rw [e] at hu
  injection hu with hu
  refine hz.2 (i % y.size) v u h1 ?_
  rw [← hu]
  simp [hm]
end
end Ev
end Go.Proofs.YtbcmcdmflblgkaaGreatDoor

namespace Go.Proofs.YtbcmcdmflblgkaaGreatDoor
namespace Ev
open Go.RowKit
set_option linter.unusedVariables false
set_option linter.unusedSectionVars false
variable [bs : Base]
section
variable {P : Program} {w : World}
theorem zeros_len (z : List V) : ∀ n, (zeros n z).length = n * z.length
  | 0 => by simp [zeros]
  | n + 1 => by simp [zeros, zeros_len z n, Nat.add_mul]; omega
theorem fillL_len : ∀ {l : List (Nat × Nat)} {vs cs cs' : List V}, fillL l vs cs = some cs' → cs'.length = cs.length
  | [], vs, cs, cs', h => by injection h with h; rw [h]
  | x :: l, vs, cs, cs', h => by
    cases vs with
    | nil => cases h
    | cons v vs =>
      obtain ⟨hb, h⟩ := io_some h
      rw [fillL_len h]
      rw [Bool.and_eq_true] at hb
      have h1 := Nat.eq_of_beq_eq_true hb.1
      have h2 := Nat.le_of_ble_eq_true hb.2
      simp [splice]
      omega
/-- a block that has just been made -/
def Made (ρ : Rho) (w : World) (cs : List V) (mk : Po → V) (r : Result Value) : Prop :=
  ∃ u arr e, r = .ok u (w.alloc (.cells arr e)) ∧ VRs ρ cs arr.toList ∧ ∀ (ρ' : Rho) b, ρ' b = some (w.heap.size, 0, arr.size) → VR ρ' (mk b) u
theorem mk_ptr {ρ : Rho} {b : Po} {g L : Nat} (h : ρ b = some (g, 0, L)) : VR ρ (.ptr b 0) (.pointer (some ⟨g, 0, none⟩)) := VR.ptr (o := 0) (s := 0) h
theorem mk_sl {ρ : Rho} {b : Po} {g n c k L : Nat} (h : ρ b = some (g, 0, L)) (hL : c * k ≤ L) (hn : n ≤ c) (hm : c ≤ maxLen) : VR ρ (.sl b 0 n c true k) (.slice (some ⟨g, 0, none⟩) n c) := .sl h (by omega) hn (Nat.le_refl _) (fun _ => rfl) hm (.inr rfl)
theorem l_box {ρ : Rho} {e : TypeId} {vs cs : List V} {us : List Value} {mk : Po → V} (hs : VRs ρ vs us) (hv : aBox vs = some (cs, mk)) : ∃ x, us = [x] ∧ Made ρ w cs mk ((Instr.box e x).run P w) := by
  unfold aBox at hv
  split at hv
  · obtain ⟨x, rfl, h1⟩ := hs.one_inv
    obtain ⟨_, hv⟩ := io_some hv
    injection hv with hv
    injection hv with e1 e2
    subst e1
    subst e2
    exact ⟨x, rfl, .pointer (some ⟨w.heap.size, 0, none⟩), x.cells, e, by simp [Instr.box, newVar, newRow], h1.cells_any, fun ρ' b hb => mk_ptr hb⟩
  · cases hv
theorem l_alloc {ρ : Rho} {e : TypeId} {z : List V} {vs cs : List V} {mk : Po → V} (hz : zeroL P e = some z) (hv : aAlloc z vs = some (cs, mk)) : Made ρ w cs mk ((Instr.alloc e true (.tuple #[])).run P w) := by
  obtain ⟨i, y, hi, hy, hR⟩ := zeroL_rel hz ρ
  injection hv with hv
  injection hv with e1 e2
  subst e1
  subst e2
  exact ⟨.pointer (some ⟨w.heap.size, 0, none⟩), y.cells, e, by simp [Instr.alloc, zeroValue, typeInfo, hi, hy, newVar, newRow], hR, fun ρ' b hb => mk_ptr hb⟩
theorem l_mksl {ρ : Rho} {t e : TypeId} {i : TypeInfo} {z : List V} {vs cs : List V} {us : List Value} {mk : Po → V} (ht : elemT P t = some e) (hi : P.info? e = some i) (hz : zeroL P e = some z) (hzl : z.length = i.size) (hs : VRs ρ vs us) (hv : aMksl i.bytes z vs = some (cs, mk)) :
    ∃ x y, us = [x, y] ∧ Made ρ w cs mk ((Instr.makeSlice t x y).run P w) := by
  obtain ⟨i', y, hi', hy, hR⟩ := zeroL_rel hz ρ
  rw [hi] at hi'
  injection hi' with hi'
  subst hi'
  unfold aMksl at hv
  split at hv
  · rename_i n k
    obtain ⟨a, b, rfl, h1, h2⟩ := hs.two_inv
    obtain rfl := h1.int_inv
    obtain rfl := h2.int_inv
    obtain ⟨hc, hv⟩ := io_some hv
    injection hv with hv
    injection hv with e1 e2
    subst e1
    subst e2
    simp only [Bool.and_eq_true] at hc
    have c1 := Nat.le_of_ble_eq_true hc.1.1
    have c2 := Nat.le_of_ble_eq_true hc.1.2
    have c3 := Nat.le_of_ble_eq_true hc.2
    have hys : y.cells.size = i.size := by rw [← hzl]; have := hR.1; simpa using this.symm
    have c3' : (i.bytes : Int) * (Int.ofNat k) ≤ 281474976710656 := by
      have h1 : i.bytes * k ≤ 1000000 := by rw [Nat.mul_comm]; exact c3
      have this : ((i.bytes * k : Nat) : Int) ≤ ((1000000 : Nat) : Int) := Int.ofNat_le.2 h1
      rw [Int.natCast_mul] at this
      have e : (Int.ofNat k) = (k : Int) := rfl
      rw [e]
      omega
    have hrun := Go.run_make (P := P) w t e i y (elemT_eq ht) hi hy .i64 .i64 (Int.ofNat n) (Int.ofNat k) (by simp) (by simpa using c1) c3' (by have : (Int.ofNat k) = (k : Int) := rfl; omega)
    refine ⟨_, _, rfl, _, _, e, hrun, ?_, fun ρ' b hb => ?_⟩
    · exact zeros_rel hR _ _ (by rw [hys]; rfl)
    · exact mk_sl hb (by rw [size_madeCells, hzl]; exact Nat.le_refl _) c1 (by unfold maxLen; omega)
  · cases hv
theorem l_bsl {ρ : Rho} {t e : TypeId} {n : Nat} {i : TypeInfo} {z : List V} {ps : Array (Nat × Operand)} {ev : Operand → Value} {vs cs : List V} {mk : Po → V} (ht : elemT P t = some e) (hi : P.info? e = some i) (h0 : i.size ≠ 0) (hz : zeroL P e = some z) (hzl : z.length = i.size) (hn : n ≤ 100000) (h100 : i.size ≤ 100)
    (hs : VRs ρ vs (ps.toList.map fun p => ev p.2)) (hv : aBsl n z (ps.toList.map fun p => (p.1 * i.size, i.size)) vs = some (cs, mk)) : Made ρ w cs mk ((Instr.buildSlice t n (ps.map fun (i, x) => (i, ev x))).run P w) := by
  obtain ⟨i', y, hi', hy, hR⟩ := zeroL_rel hz ρ
  rw [hi] at hi'
  injection hi' with hi'
  subst hi'
  have hys : y.cells.size = i.size := by rw [← hzl]; have := hR.1; simpa using this.symm
  unfold aBsl at hv
  obtain ⟨cs', hf, hv⟩ := ob_some hv
  obtain ⟨_, hv⟩ := io_some hv
  injection hv with hv
  injection hv with e1 e2
  subst e1
  subst e2
  have hplaced : ∀ l : List (Nat × Operand), placed (fun k => some (k * i.size, i.size)) l = some (l.map fun p => (p.1 * i.size, i.size)) := fun l => by
    induction l with
    | nil => rfl
    | cons p l ih => simp [placed, ih]
  have hle : n * i.size ≤ 16777216 := Nat.le_trans (Nat.mul_le_mul hn h100) (by decide)
  obtain ⟨cells', hfi, hR2⟩ := fill_rel ps.toList _ vs (zeros n z) (madeCells y.cells (n * i.size)) cs' (hplaced _) hs (zeros_rel hR n _ (by rw [hys])) hf
  have hroomy : n * z.length ≤ cells'.size := by
    have h3 := hR2.1
    have h5 : cells'.toList.length = cells'.size := by simp
    rw [fillL_len hf, zeros_len] at h3
    omega
  refine ⟨.slice (some ⟨w.heap.size, 0, none⟩) n n, cells', e, ?_, hR2, fun ρ' b hb => mk_sl hb hroomy (Nat.le_refl _) (by unfold maxLen; omega)⟩
  have hbig : ¬ (16777216 < n * i.size) := by omega
  rcases Nat.eq_zero_or_pos n with rfl | hpos
  · have hm0 : madeCells y.cells (0 * i.size) = #[] := by simp [madeCells]
    rw [hm0] at hfi
    have hr : Array.range 0 = #[] := Array.eq_empty_of_size_eq_zero (by simp)
    simp [Instr.buildSlice, run_underlying (elemT_eq ht), sizeOf, typeInfo, hi, hr, hfi, newRow]
  · have hne : n * i.size ≠ 0 := Nat.mul_ne_zero (by omega) h0
    unfold madeCells at hfi
    simp [Instr.buildSlice, run_underlying (elemT_eq ht), sizeOf, typeInfo, hi, hbig, zeroValue, hy, hfi, newRow]
    exact fun h => absurd h hne

/-! ### What writes -/
/-- what a step that writes comes to -/
def Wrote (ρ : Rho) (h : H) (w : World) (v : V) (h' : H) (r : Result Value) : Prop :=
  ∃ u w' ρ', r = .ok u w' ∧ VR ρ' v u ∧ WR ρ' h' w' ∧ St ρ h ρ' h'
theorem heap_setRow_at {B : Nat} {arr cs : Array Value} {e : TypeId} (h : w.heap[B]? = some (.cells arr e (0, 0))) : (w.setRow B cs).heap[B]? = some (.cells cs e (0, 0)) := by
  have hlt := (Array.getElem?_eq_some_iff.1 h).1
  simp [World.setRow, Array.getElem?_modify, h]
theorem heap_setRow_ne {B C : Nat} {cs : Array Value} (h : C ≠ B) : (w.setRow B cs).heap[C]? = w.heap[C]? := by
  simp [World.setRow, Array.getElem?_modify, Ne.symm h]
theorem below_setRow {B : Nat} {w : World} {cs : Array Value} (h : Kep w) (hB : bs.Fr B) : Kep (w.setRow B cs) :=
  ⟨h.os, h.tape, h.output, by simpa [World.setRow] using h.size, fun k hk => (heap_setRow_ne (fun e => hk (by rw [e]; exact hB))).trans (h.block k hk)⟩
/-- some cells of a block anew -/
theorem WR.write {ρ : Rho} {h : H} (hw : WR ρ h w) {b : Po} {cs : List V} {B s L : Nat} {arr : Array Value} {e : TypeId} (hb : h.get b = some cs) (hr : ρ b = some (B, s, L)) (ha : w.heap[B]? = some (.cells arr e (0, 0))) {o : Nat} {new : List V} {news : List Value} (hn : VRs ρ new news) (hle : o + new.length ≤ cs.length)
    (hsz : s + o + news.length ≤ arr.size) : WR ρ (h.put b (some (splice o new cs))) (w.setRow B (arr.toList.take (s + o) ++ news ++ arr.toList.drop (s + o + news.length)).toArray) := by
  refine ⟨fun c ds hc C t Lt hct => ?_, fun c c' ds ds' hc hc' C t t' h1 h2 => ?_, hw.new, hw.own, below_setRow hw.below (hw.own _ _ _ hr), fun b B q h1 => by simpa [World.setRow] using hw.lt b B q h1⟩
  · rw [H.get_put] at hc
    by_cases hcb : c = b
    · subst hcb
      rw [if_pos rfl] at hc
      injection hc with hc
      subst hc
      rw [hr] at hct
      injection hct with hct
      injection hct with e1 e2
      injection e2 with e2 e6
      subst e1
      subst e2
      subst e6
      obtain ⟨arr', e', ha', hL, hcell⟩ := hw.cells c cs hb _ _ _ hr
      rw [ha] at ha'
      injection ha' with ha'
      injection ha' with e3 _ _
      subst e3
      refine ⟨_, e, heap_setRow_at ha, by simp; omega, fun i v hv => ?_⟩
      have hnl := hn.1
      have hs1 : (arr.toList.take (s + o)).length = s + o := by simp; omega
      unfold splice at hv
      rw [List.append_assoc] at hv
      rcases Nat.lt_or_ge i o with hi | hi
      · rw [List.getElem?_append_left (by simp; omega), List.getElem?_take_of_lt hi] at hv
        obtain ⟨u, hu, hvu⟩ := hcell i v hv
        refine ⟨u, ?_, hvu⟩
        simp only [List.getElem?_toArray, List.append_assoc]
        rw [List.getElem?_append_left (by rw [hs1]; omega), List.getElem?_take_of_lt (by omega)]
        simpa using hu
      · have ho : (cs.take o).length = o := by simp; omega
        rw [List.getElem?_append_right (by rw [ho]; exact hi), ho] at hv
        rcases Nat.lt_or_ge (i - o) new.length with hj | hj
        · rw [List.getElem?_append_left hj] at hv
          obtain ⟨u, hu, hvu⟩ := hn.at_ hv
          refine ⟨u, ?_, hvu⟩
          simp only [List.getElem?_toArray, List.append_assoc]
          rw [List.getElem?_append_right (by rw [hs1]; omega), hs1, List.getElem?_append_left (by omega)]
          have : s + i - (s + o) = i - o := by omega
          rw [this]
          exact hu
        · rw [List.getElem?_append_right hj, List.getElem?_drop] at hv
          have e4 : o + new.length + (i - o - new.length) = i := by omega
          rw [e4] at hv
          obtain ⟨u, hu, hvu⟩ := hcell i v hv
          refine ⟨u, ?_, hvu⟩
          simp only [List.getElem?_toArray, List.append_assoc]
          rw [List.getElem?_append_right (by rw [hs1]; omega), hs1, List.getElem?_append_right (by omega), List.getElem?_drop]
          have e5 : s + o + news.length + (s + i - (s + o) - news.length) = s + i := by omega
          rw [e5]
          simpa using hu
    · rw [if_neg hcb] at hc
      have hne : C ≠ B := fun e => hcb (hw.inj c b ds cs hc hb C _ _ hct (by rw [e]; exact hr))
      obtain ⟨arr', e', ha', hL, hcell⟩ := hw.cells c ds hc C t Lt hct
      exact ⟨arr', e', (heap_setRow_ne hne).trans ha', hL, hcell⟩
  · rw [H.get_put] at hc hc'
    have f1 : ∃ x, h.get c = some x := by
      split at hc
      · rename_i e; rw [e]; exact ⟨_, hb⟩
      · exact ⟨_, hc⟩
    have f2 : ∃ x, h.get c' = some x := by
      split at hc'
      · rename_i e; rw [e]; exact ⟨_, hb⟩
      · exact ⟨_, hc'⟩
    obtain ⟨x, hx⟩ := f1
    obtain ⟨y, hy⟩ := f2
    exact hw.inj c c' x y hx hy C t t' h1 h2
theorem St.put {ρ : Rho} {h : H} {b : Po} {p : Nat × Nat × Nat} (hr : ρ b = some p) (v : Option (List V)) : St ρ h ρ (h.put b v) :=
  ⟨fun _ _ => rfl, Nat.le_refl _, fun c _ hn => by rw [H.get_put, if_neg (fun e => by rw [e, hr] at hn; cases hn)]⟩
theorem WR.room {ρ : Rho} {h : H} (hw : WR ρ h w) {b : Po} {cs : List V} {B s L : Nat} (hb : h.get b = some cs) (hr : ρ b = some (B, s, L)) : ∃ arr e, w.heap[B]? = some (.cells arr e (0, 0)) ∧ arr.size = L ∧ (0 < cs.length → s + cs.length ≤ arr.size) := by
  obtain ⟨arr, e, ha, hL, hc⟩ := hw.cells b cs hb B s L hr
  refine ⟨arr, e, ha, hL, fun hpos => ?_⟩
  have hl : cs.length - 1 < cs.length := by omega
  obtain ⟨u, hu, _⟩ := hc _ _ (List.getElem?_eq_getElem hl)
  have := (Array.getElem?_eq_some_iff.1 hu).1
  omega
theorem l_store {ρ : Rho} {h h' : H} (hw : WR ρ h w) {t : TypeId} {i : TypeInfo} (hi : P.info? t = some i) {vs : List V} {us : List Value} {v : V} (hs : VRs ρ vs us) (hv : eStore i.size vs h = some (v, h')) :
    ∃ x y w', us = [x, y] ∧ (Instr.storeAt t x y).run P w = .ok () w' ∧ v = .lit undef ∧ WR ρ h' w' ∧ St ρ h ρ h' := by
  unfold eStore at hv
  split at hv
  · rename_i b o u
    obtain ⟨x, y, rfl, h1, h2⟩ := hs.two_inv
    obtain ⟨B, s, L, hr, rfl⟩ := h1.ptr_inv
    obtain ⟨cs, hb, hv⟩ := ob_some hv
    obtain ⟨hc, hv⟩ := io_some hv
    injection hv with hv
    injection hv with e1 e2
    subst e1
    subst e2
    simp only [Bool.and_eq_true] at hc
    have c1 := Nat.eq_of_beq_eq_true hc.1.1
    have c2 := Nat.le_of_ble_eq_true hc.1.2
    obtain ⟨hR, h1c⟩ := h2.cells_rel hc.2
    obtain ⟨arr, e, ha, _, hroom⟩ := hw.room hb hr
    have hyl : y.cells.toList.length = i.size := by rw [← hR.1, c1]
    have hys : y.cells.size = i.size := by simpa using hyl
    rcases Nat.eq_zero_or_pos i.size with h0 | hpos
    · have hy0 : y.cells.toList = [] := List.eq_nil_of_length_eq_zero (by omega)
      have hu0 : u.cells = [] := List.eq_nil_of_length_eq_zero (by omega)
      refine ⟨_, _, w, rfl, by simp [Instr.storeAt, Instr.sureAddr, storeVar, sizeOf, typeInfo, hi, hys, hy0, storeCells], rfl, ?_, St.put hr _⟩
      rw [hu0]
      refine ⟨fun c ds hcc C t' Lt hct => ?_, fun c c' ds ds' hcc hcc' => ?_, hw.new, hw.own, hw.below, hw.lt⟩
      · rw [H.get_put] at hcc
        split at hcc
        · rename_i e'
          subst e'
          injection hcc with hcc
          refine hw.cells c ds ?_ C t' Lt hct
          rw [hb, ← hcc]
          simp [splice]
        · exact hw.cells c ds hcc C t' Lt hct
      · rw [H.get_put] at hcc hcc'
        have f1 : ∃ z, h.get c = some z := by
          split at hcc
          · rename_i e'; rw [e']; exact ⟨_, hb⟩
          · exact ⟨_, hcc⟩
        have f2 : ∃ z, h.get c' = some z := by
          split at hcc'
          · rename_i e'; rw [e']; exact ⟨_, hb⟩
          · exact ⟨_, hcc'⟩
        obtain ⟨z, hz⟩ := f1
        obtain ⟨z', hz'⟩ := f2
        exact hw.inj c c' z z' hz hz'
    · have hsz : s + o + y.cells.toList.length ≤ arr.size := by have := hroom (by omega); omega
      have hst := run_storeCells_at (P := P) B (s + o) e y.cells.toList 0 arr w ha (by simpa using hsz) (fun x hx => h1c x (by simpa using hx))
      refine ⟨_, _, _, rfl, ?_, rfl, hw.write hb hr ha hR (by omega) hsz, St.put hr _⟩
      simp only [Nat.add_zero] at hst
      simp [Instr.storeAt, Instr.sureAddr, storeVar, sizeOf, typeInfo, hi, hys, hst]
  · cases hv
end
end Ev
end Go.Proofs.YtbcmcdmflblgkaaGreatDoor

/-
  What came in, read as lists.
-/
import Derived.Test.YtedgalbhjfmafaaCommon
import Derived.Deep.Slices
import Derived.Deep.Fields
import Derived.ChangeSame
import Derived.ShutString
namespace Go.Proofs.Ytedgalbhjfmafaa
open Go.ChangeShapes Go.WideShapes Go.ChangeAt Go.RowKit Go.Deep
set_option linter.unusedVariables false
section
variable {H : Type} {enc : TypeId × Value → H} {P : Program} {w : World} {base : Nat} {spare : Nat → Bool} {held : Bool}
theorem open_slice_fields {t e : TypeId} {fs : Array Field} {fuel : Nat} {cs : List Value} {x : DataW H × List MemPlace} (ht : P.underlying t = some (.slice e)) (he : P.underlying e = some (.struct fs))
    (hone : oneCellFields P fs = true) (hC : P.cellsOf e = fs.size) (h : DataW.trod enc P w base spare held fuel t cs = some x) :
    (cs = [.slice none 0 0] ∧ x = (.nil, [])) ∨
    ∃ (a : Addr) (len cap m : Nat) (D : Nat → DataW H) (Pl : Nat → List MemPlace), cs = [.slice (some a) len cap] ∧ base ≤ a.block ∧ len ≤ cap ∧ cap ≤ maxLen ∧ m = (if spare a.block then cap else len) ∧
      x = (.slice ((List.range len).map D) ((List.range (m - len)).map fun j => D (len + j)), MemPlace.row a (m * fs.size) ++ (List.range m).flatMap Pl) ∧
      ∀ i, i < m → ∃ (ys : List (DataW H × List MemPlace)) (n : Nat), D i = .agg (ys.map (·.1)) ∧ Pl i = ys.flatMap (·.2) ∧ ys.length = fs.size ∧
        ∀ (j : Nat) (f : Field), fs[j]? = some f → ∃ (v : Value) (y : DataW H × List MemPlace), w.cell? (a.add (i * fs.size + j)) = some v ∧ ys[j]? = some y ∧ DataW.trod enc P w base spare held n f.type [v] = some y := by
  rcases open_slice ht h with h0 | ⟨a, len, cap, m, n, D, Pl, hcs, hb, hl, hm, hmm, hx, hi⟩
  · exact .inl h0
  · refine .inr ⟨a, len, cap, m, D, Pl, hcs, hb, hl, hm, hmm, by rw [hC] at hx; exact hx, fun i him => ?_⟩
    obtain ⟨cs', hc, ht'⟩ := hi i him
    rw [hC] at hc
    obtain ⟨ys, n', hn', hy, hlen, hyl, hf⟩ := DataW.trod_struct he ht'
    obtain ⟨_, hcl, hat⟩ := World.cells?_some hc
    simp only [Prod.mk.injEq] at hy
    refine ⟨ys, n', hy.1, hy.2, hyl, fun j f hj => ?_⟩
    obtain ⟨ho, hk⟩ := hone_of hone j f hj
    have hjl : j < fs.size := (Array.getElem?_eq_some_iff.1 hj).1
    have hcell := hat j hjl
    have hv : cs'[j]? = some (cs'[j]'(by omega)) := List.getElem?_eq_getElem (by omega)
    have h1 := hf j f hj
    rw [ho, hk] at h1
    have hone' : (cs'.drop j).take 1 = [cs'[j]'(by omega)] := by
      rw [List.drop_eq_getElem_cons (by omega)]
      rfl
    rw [hone'] at h1
    have hys : ys[j]? = some (ys[j]'(by omega)) := List.getElem?_eq_getElem (by omega)
    refine ⟨_, _, ?_, hys, h1.trans hys⟩
    rw [← Go.Deep.add_add, hcell, hv]
theorem list_of {α : Type} {Q : Nat → α → Prop} : ∀ n, (∀ i, i < n → ∃ x, Q i x) → ∃ xs : List α, xs.length = n ∧ ∀ j x, xs[j]? = some x → Q j x
  | 0, _ => ⟨[], rfl, fun j x h => by simp at h⟩
  | n + 1, h => by
    obtain ⟨xs, hl, hx⟩ := list_of n (fun i hi => h i (by omega))
    obtain ⟨x, hq⟩ := h n (by omega)
    refine ⟨xs ++ [x], by simp [hl], fun j y hj => ?_⟩
    rcases Nat.lt_or_ge j n with h1 | h1
    · rw [List.getElem?_append_left (by omega)] at hj
      exact hx j y hj
    · rw [List.getElem?_append_right (by omega)] at hj
      have : j = n := by have := (List.getElem?_eq_some_iff.1 hj).1; simp at this; omega
      subst this
      simp [hl] at hj
      subst hj
      exact hq
/-- a slice of structs whose fields read as E says -/
theorem open_slc {α : Type} {k : Nat} {E : Elt α} (hE : Good k E) {t e : TypeId} {fs : Array Field} {fuel : Nat} {v : Value} {x : DataW H × List MemPlace} (hk : fs.size = k) (hk0 : 0 < k) (ht : P.underlying t = some (.slice e)) (he : P.underlying e = some (.struct fs))
    (hone : oneCellFields P fs = true) (hC : P.cellsOf e = fs.size)
    (hf : ∀ f : Nat → Option Value, (∀ (j : Nat) (fd : Field), fs[j]? = some fd → ∃ (v : Value) (y : DataW H × List MemPlace) (n : Nat), f j = some v ∧ DataW.trod enc P w base (fun _ => true) held n fd.type [v] = some y) → ∃ x, E Any w f x)
    (h : DataW.trod enc P w base (fun _ => true) held fuel t [v] = some x) : ∃ A n c xs, v = .slice A n c ∧ n ≤ c ∧ c ≤ maxLen ∧ Slc k E Any w A n xs := by
  rcases open_slice_fields ht he hone hC h with ⟨hcs, _⟩ | ⟨a, len, cap, m, D, Pl, hcs, hb, hl, hm, hmm, hx, hi⟩
  · simp at hcs
    exact ⟨none, 0, 0, [], hcs, Nat.le_refl _, by unfold maxLen; omega, Slc.nil_⟩
  · simp at hcs hmm
    subst hmm
    obtain ⟨b, o, sp⟩ := a
    have cells : ∀ i, i < len → ∀ j (fd : Field), fs[j]? = some fd → ∃ (v : Value) (y : DataW H × List MemPlace) (n : Nat), w.cell? (Addr.add ⟨b, o, sp⟩ (i * fs.size + j)) = some v ∧ DataW.trod enc P w base (fun _ => true) held n fd.type [v] = some y := fun i hi' j fd hj => by
      obtain ⟨ys, n, _, _, _, hall⟩ := hi i (by omega)
      obtain ⟨v, y, h1, _, h2⟩ := hall j fd hj
      exact ⟨v, y, n, h1, h2⟩
    by_cases h0 : 0 < len
    · have hf0 : fs[0]? = some (fs[0]'(by omega)) := Array.getElem?_eq_getElem (by omega)
      obtain ⟨v0, y0, n0, hc0, _⟩ := cells 0 h0 0 _ hf0
      have hsp : sp = none := by simpa [Addr.add] using World.cell?_spot hc0
      subst hsp
      have cells' : ∀ i, i < len → ∀ j (fd : Field), fs[j]? = some fd → ∃ (v : Value) (y : DataW H × List MemPlace) (n : Nat), w.cell? ⟨b, o + (i * k + j), none⟩ = some v ∧ DataW.trod enc P w base (fun _ => true) held n fd.type [v] = some y := fun i hi' j fd hj => by
        obtain ⟨v, y, n, h1, h2⟩ := cells i hi' j fd hj
        rw [add_flat, hk] at h1
        exact ⟨v, y, n, h1, h2⟩
      obtain ⟨xs, hxl, hxx⟩ := list_of (Q := fun i x => E Any w (fun j => w.cell? ⟨b, o + (i * k + j), none⟩) x) len (fun i hi' => hf _ (fun j fd hj => cells' i hi' j fd hj))
      refine ⟨some ⟨b, o, none⟩, len, m, xs, hcs, hl, hm, hxl, fun _ => ⟨b, o, rfl, trivial, fun i hi' => ?_, hxx⟩⟩
      have hd : i / k < len := Nat.div_lt_of_lt_mul (by rw [Nat.mul_comm]; exact hi')
      have hmod : i % k < fs.size := by rw [hk]; exact Nat.mod_lt _ hk0
      obtain ⟨v, y, n, h1, _⟩ := cells' (i / k) hd (i % k) _ (Array.getElem?_eq_getElem hmod)
      have e : i / k * k + i % k = i := by rw [Nat.mul_comm]; exact Nat.div_add_mod i k
      rw [e] at h1
      rw [h1]
      simp
    · obtain rfl : len = 0 := by omega
      exact ⟨some ⟨b, o, sp⟩, 0, m, [], hcs, hl, hm, Slc.nil_⟩
/-- a slice of integers -/
theorem open_slc_ints {t e : TypeId} {q : IntKind} {fuel : Nat} {v : Value} {x : DataW H × List MemPlace} (ht : P.underlying t = some (.slice e)) (he : P.underlying e = some (.int q)) (hC : P.cellsOf e = 1)
    (h : DataW.trod enc P w base (fun _ => true) held fuel t [v] = some x) : ∃ A n c xs, v = .slice A n c ∧ n ≤ c ∧ c ≤ maxLen ∧ Slc 1 (intE q) Any w A n xs := by
  rcases open_ints ht he hC h with ⟨hcs, _⟩ | ⟨a, l, c, zs, hcs, _, hl, hm, hz, _, hcell, hwz⟩
  · simp at hcs
    exact ⟨none, 0, 0, [], hcs, Nat.le_refl _, by unfold maxLen; omega, Slc.nil_⟩
  · simp at hcs
    obtain ⟨b, o, sp⟩ := a
    have hz' : zs.length = c := by simpa using hz
    by_cases h0 : 0 < l
    · have hc0 := hcell 0 (by omega)
      have hsp : sp = none := by simpa [Addr.add] using World.cell?_spot hc0
      subst hsp
      have hc' : ∀ i, i < l → w.cell? ⟨b, o + i, none⟩ = some (.int q (zs.getD i 0)) := fun i hi => by rw [← add_flat]; exact hcell i (by omega)
      refine ⟨some ⟨b, o, none⟩, l, c, zs.take l, hcs, hl, hm, by rw [List.length_take]; omega, fun _ => ⟨b, o, rfl, trivial, fun i hi => ?_, fun j x hj => ?_⟩⟩
      · rw [hc' i (by omega)]; simp
      · have hjl : j < l := by have := (List.getElem?_eq_some_iff.1 hj).1; rw [List.length_take] at this; omega
        show w.cell? ⟨b, o + (j * 1 + 0), none⟩ = _
        rw [Nat.mul_one, Nat.add_zero, hc' j hjl]
        rw [List.getElem?_take_of_lt hjl] at hj
        rw [List.getD_eq_getElem?_getD, hj]
        rfl
    · obtain rfl : l = 0 := by omega
      exact ⟨some ⟨b, o, sp⟩, 0, c, [], hcs, hl, hm, Slc.nil_⟩
end
section
variable {H : Type} {enc : TypeId × Value → H} {w : World} {base : Nat} {held : Bool}
theorem int_of {q : IntKind} {t : TypeId} {n : Nat} {v : Value} {y : DataW H × List MemPlace} (ht : Try.prog.underlying t = some (.int q)) (h : DataW.trod enc Try.prog w base (fun _ => true) held n t [v] = some y) : ∃ z, v = .int q z := by
  obtain ⟨z, e, _⟩ := DataW.trod_int ht h
  exact ⟨z, by simpa using e⟩
theorem open_imgs {fuel : Nat} {v : Value} {x : DataW H × List MemPlace} (h : DataW.trod enc Try.prog w base (fun _ => true) held fuel 35 [v] = some x) : ∃ A n c xs, v = .slice A n c ∧ n ≤ c ∧ c ≤ maxLen ∧ Slc 3 imgE Any w A n xs :=
  open_slc imgE.good rfl (by decide) Try.underlying35 Try.underlying49 (by kernel_rfl) (by kernel_rfl) (fun f hf => by
    obtain ⟨v0, y0, n0, e0, t0⟩ := hf 0 _ rfl
    obtain ⟨v1, y1, n1, e1, t1⟩ := hf 1 _ rfl
    obtain ⟨v2, y2, n2, e2, t2⟩ := hf 2 _ rfl
    obtain ⟨z0, rfl⟩ := int_of Try.underlying3 t0
    obtain ⟨z1, rfl⟩ := int_of Try.underlying3 t1
    obtain ⟨A, n, c, xs, rfl, h1, h2, h3⟩ := open_slc_ints Try.underlying29 Try.underlying5 (by kernel_rfl) t2
    exact ⟨⟨z0, z1, xs⟩, e0, e1, _, e2, A, n, c, rfl, h1, h2, h3⟩) h
theorem open_txns {fuel : Nat} {v : Value} {x : DataW H × List MemPlace} (h : DataW.trod enc Try.prog w base (fun _ => true) held fuel 22 [v] = some x) : ∃ A n c xs, v = .slice A n c ∧ n ≤ c ∧ c ≤ maxLen ∧ Slc 4 txnE Any w A n xs :=
  open_slc txnE.good rfl (by decide) Try.underlying22 Try.underlying37 (by kernel_rfl) (by kernel_rfl) (fun f hf => by
    obtain ⟨v0, y0, n0, e0, t0⟩ := hf 0 _ rfl
    obtain ⟨v1, y1, n1, e1, t1⟩ := hf 1 _ rfl
    obtain ⟨v2, y2, n2, e2, t2⟩ := hf 2 _ rfl
    obtain ⟨v3, y3, n3, e3, t3⟩ := hf 3 _ rfl
    obtain ⟨z0, rfl⟩ := int_of Try.underlying3 t0
    obtain ⟨z1, rfl⟩ := int_of Try.underlying3 t1
    obtain ⟨z2, rfl⟩ := int_of Try.underlying3 t2
    obtain ⟨A, n, c, xs, rfl, h1, h2, h3⟩ := open_imgs t3
    exact ⟨⟨z0, z1, z2, xs⟩, e0, e1, e2, _, e3, A, n, c, rfl, h1, h2, h3⟩) h
end
end Go.Proofs.Ytedgalbhjfmafaa

/-
  Op: which operation of the evaluator an operation of the model is.
-/
import Derived.Test.YtbcmcdmflblgkaaGreatDoorRel
namespace Go.Proofs.YtbcmcdmflblgkaaGreatDoor
namespace Ev
set_option linter.unusedVariables false
def ofV : Value → V
  | .int k n => .int k n
  | .bool b => .boo b
  | .string s => .str (s.data.toList.map (·.toNat))
  | .slice none 0 0 => .nils
  | v => .lit v
theorem ofV_rel (ρ : Rho) (v : Value) : VR ρ (ofV v) v := by
  unfold ofV
  split
  · exact .int _ _
  · exact .boo _
  · refine .str ?_ ?_
    · rw [List.map_map]
      refine Eq.trans (List.map_id _).symm (List.map_congr_left fun x _ => ?_)
      simp
    · intro x hx
      simp only [List.mem_map] at hx
      obtain ⟨y, _, rfl⟩ := hx
      exact y.toNat_lt
  · exact .nils
  · exact .lit _
def aggOf (P : Program) (t : TypeId) : Option Bool := match P.underlying t with
  | none => none
  | some (.struct _) | some (.array ..) => some true
  | some _ => some false
def zeroL (P : Program) (t : TypeId) : Option (List V) := match P.info? t with
  | some i => i.zero.map fun z => z.cells.toList.map ofV
  | none => none
def zeroV (P : Program) (t : TypeId) : Option V := match P.info? t with
  | some i => i.zero.map fun z => match z with
    | .agg cs => .agg (cs.toList.map ofV)
    | z => ofV z
  | none => none
def elemT (P : Program) (t : TypeId) : Option TypeId := match P.underlying t with
  | some (.slice e) => some e
  | _ => none
def isIfc (P : Program) (t : TypeId) : Bool := match P.underlying t with
  | some (.interface _) => true
  | _ => false
def isCst : Operand → Bool
  | .const _ => true
  | _ => false
def eqCls (P : Program) (t : TypeId) : Nat := match P.underlying t with
  | some .bool => 1
  | some .string => 2
  | some (.pointer _) => 3
  | some (.slice _) => 4
  | some (.interface _) => 5
  | _ => 0
def isEq : BinOp → Bool
  | .eql | .neq => true
  | _ => false
/-- the places of a literal's parts -/
def places (P : Program) (fs : Array Field) : Option (List (Nat × Nat)) := fs.toList.mapM fun f => (P.info? f.type).map fun i => (f.offset, i.size)
def placed (pl : Nat → Option (Nat × Nat)) : List (Nat × Operand) → Option (List (Nat × Nat))
  | [] => some []
  | p :: r => match pl p.1 with
    | some x => (placed pl r).map fun l => x :: l
    | none => none
def ops3 : Option Operand → List Operand
  | some x => [x]
  | none => []
def opOf (P : Program) (o : Oper) : Option (K × List Operand) := match o.op with
  | .move x | .assign x => some (.mov, [x])
  | .pick c a b => some (.pick, [c, a, b])
  | .load t a => match P.info? t with
    | some i => (aggOf P t).map fun g => (.load i.size g, [a])
    | none => none
  | .store t a x => match P.info? t with
    | some i => if o.dst.isNone then some (.store i.size, [a, x]) else none
    | none => none
  | .fieldAddr s x f => match P.underlying s with
    | some (.struct fs) => match fs[f]? with
      | some fd => match P.info? fd.type with
        | some i => if i.size = 0 then none else some (.fadr fd.offset, [x])
        | none => none
      | none => none
    | _ => none
  | .field s x f => match P.underlying s with
    | some (.struct fs) => match fs[f]? with
      | some fd => match P.info? fd.type with
        | some i => (aggOf P fd.type).map fun g => (.fld fd.offset i.size g, [x])
        | none => none
      | none => none
    | _ => none
  | .nilCheck x => some (.chk, [x])
  | .binOp op t x y _ => if isEq op && isIfc P t && !(isCst x || isCst y) then none else some (.bin op (eqCls P t), [x, y])
  | .unOp op _ x => some (.un op, [x])
  | .extract x i => some (.ext i, [x])
  | .indexAddr t x i => match elemT P t with
    | some e => match P.info? e with
      | some n => some (.iadr n.size, [x, i])
      | none => none
    | none => none
  | .box e x => some (.box e, [x])
  | .alloc e => (zeroL P e).map fun z => (.alloc e z, [])
  | .build t ps => match P.underlying t with
    | some (.struct fs) => match zeroL P t with
      | some z => match places P fs with
        | some pl => (placed (fun i => pl.toArray[i]?) ps.toList).map fun l => (.build z l, ps.toList.map (·.2))
        | none => none
      | none => none
    | _ => none
  | .buildSlice t n ps => match elemT P t with
    | some e => match P.info? e with
      | some i => if i.size = 0 then none else match zeroL P e with
        | some z => if z.length = i.size ∧ n ≤ 100000 ∧ i.size ≤ 100 then some (.bsl e n z (ps.toList.map fun p => (p.1 * i.size, i.size)), ps.toList.map (·.2)) else none
        | none => none
      | none => none
    | none => none
  | .slice t x lo hi mx => match elemT P t with
    | some e => match P.info? e with
      | some i => some (.slice i.size lo.isSome hi.isSome mx.isSome, x :: (ops3 lo ++ ops3 hi ++ ops3 mx))
      | none => none
    | none => none
  | .convert s d x => match P.underlying s, P.underlying d with
    | some (.int _), some (.int k) => some (.conv k, [x])
    | some (.slice e), some .string => match P.underlying e with
      | some (.int .u8) => some (.b2s, [x])
      | _ => none
    | _, _ => none
  | .makeInterface t x => if (P.underlying t).isSome && !isIfc P t then some (.mkif t, [x]) else none
  | .typeAssert x _ t ok => if (P.underlying t).isSome && !isIfc P t then (zeroV P t).map fun z => (.tass t z ok, [x]) else none
  | .makeFunc (.func f) first caps => if first.size = 0 then some (.mkfn f, caps.toList) else none
  | .makeSlice t l c => match elemT P t with
    | some e => match P.info? e with
      | some i => if i.size = 0 then none else match zeroL P e with
        | some z => if z.length = i.size then some (.mksl e i.bytes z, [l, c]) else none
        | none => none
      | none => none
    | none => none
  | .call c => match c.callee with
    | .value f => some (.call, f :: c.args.toList)
    | .invoke .. => none
    | .builtin b => match b, c.args.toList, c.argTypes.toList with
      | .len, [x], [t] => (elemT P t).map fun _ => (.len, [x])
      | .cap, [x], [t] => (elemT P t).map fun _ => (.cap, [x])
      | .max, [x, y], _ => some (.mm true, [x, y])
      | .min, [x, y], _ => some (.mm false, [x, y])
      | .clear, [x], [t] => match elemT P t with
        | some e => (zeroL P e).map fun z => (.clear z, [x])
        | none => none
      | .copy, [d, x], [t, u] => match elemT P t with
        | some e => match P.info? e with
          | some i => if i.size = 0 then none else (elemT P u).map fun _ => (.copy i.size, [d, x])
          | none => none
        | none => none
      | .append, [s, x], [t, u] => match elemT P t with
        | some e => match P.info? e with
          | some i => if i.size = 0 then none else match zeroL P e with
            | some z => if z.length = i.size then (match P.underlying u with
              | some (.slice _) => if t = u then some (.app e i.size i.bytes, [s, x]) else none
              | some (.int _) => some (.appz e i.size i.bytes z, [s, x])
              | _ => none) else none
            | none => none
          | none => none
        | none => none
      | _, _, _ => none
  | _ => none
end Ev
end Go.Proofs.YtbcmcdmflblgkaaGreatDoor

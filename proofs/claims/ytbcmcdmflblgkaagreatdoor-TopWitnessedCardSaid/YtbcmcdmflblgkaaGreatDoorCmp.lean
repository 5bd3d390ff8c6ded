/-
  Cmp: from the model's Code to the fast evaluator's.
-/
import Derived.Test.YtbcmcdmflblgkaaGreatDoorFast
import Derived.Test.YtbcmcdmflblgkaaGreatDoorOp
namespace Go.Proofs.YtbcmcdmflblgkaaGreatDoor
namespace Ev
set_option linter.unusedVariables false
/-- where a slot's value is: on the stack (counted from below), among the locals, or known -/
inductive Ref where
  | pos (i : Nat) | loc (p : Po) | con (v : V)
abbrev Lay := List (Nat × Ref)
def look : Lay → Nat → Option Ref
  | [], _ => none
  | (s, r) :: l, t => bif Nat.beq s t then some r else look l t
def notT (t : Nat) (q : Nat × Ref) : Bool := !(Nat.beq q.1 t)
def notP (p : Po) (q : Nat × Ref) : Bool := match q.2 with
  | .loc p' => !(p'.eq p)
  | _ => true
def uOf : Nat → U
  | 0 => .z
  | n + 1 => .s (uOf n)
def refO (hgt : Nat) : Ref → Option O
  | .pos i => io (Nat.ble (i + 1) hgt) (some (.st (uOf (hgt - 1 - i))))
  | .loc p => some (.lo p)
  | .con v => some (.co v)
def refOf (lay : Lay) : Operand → Option Ref
  | .tmp t => look lay t
  | .const v => some (.con (ofV v))
  | .func f => some (.con (.fn f []))
  | .global _ => none
def opO (lay : Lay) (hgt : Nat) (x : Operand) : Option O := ob (refOf lay x) (refO hgt)
def opOs (lay : Lay) (hgt : Nat) : List Operand → Option (List O)
  | [] => some []
  | x :: xs => ob (opO lay hgt x) fun y => ob (opOs lay hgt xs) fun ys => some (y :: ys)
def poOf : Nat → Nat → Po
  | 0, _ => .one
  | f + 1, n => bif Nat.ble n 1 then .one else bif Nat.beq (n % 2) 1 then .d1 (poOf f (n / 2)) else .d0 (poOf f (n / 2))
def dstOk (n : Nat) : Option Nat → Bool
  | none => true
  | some t => Nat.ble (t + 1) n
/-- how an operation's guard reads: none, or an operand and what it must be -/
def guardO (ops : Array Oper) (lay : Lay) (hgt : Nat) (o : Oper) : Option (Option (O × Bool)) := match o.guard with
  | none => some none
  | some (j, w) => match (ops[j]?).bind (fun o => o.dst) with
    | some t => ob (opO lay hgt (.tmp t)) fun x => some (some (x, w))
    | none => none
def mkJ (g : Option (O × Bool)) (d : D) (k : K) (xs : List O) : J2 := match g with
  | none => .op d k xs
  | some (x, w) => .gd x w d k xs
/-- an operation that the run never reaches: compiled to one that fails -/
def isBad (P : Program) (o : Oper) : Bool := (opOf P o).isNone && o.dst.isNone && o.guard.isNone
/-- one operation: hint 0: nothing is done, the slot is where its source is; 1: onto the stack; p + 2: to a local -/
def compOp (P : Program) (n : Nat) (ops : Array Oper) (lay : Lay) (hgt : Nat) (o : Oper) (hint : Nat) : Option (Option J2 × Lay × Nat) := io (dstOk n o.dst) (bif isBad P o then some (some (.op .no .bad []), lay, hgt) else match hint with
  | 0 => match opOf P o, o.dst, o.guard with
    | some (.mov, [x]), some t, none => ob (refOf lay x) fun r => some (none, (t, r) :: lay.filter (notT t), hgt)
    | _, _, _ => none
  | 1 => ob (opOf P o) fun kx => ob (opOs lay hgt kx.2) fun os => ob (guardO ops lay hgt o) fun g => match o.dst with
    | none => some (some (mkJ g .no kx.1 os), lay, hgt)
    | some t => some (some (mkJ g .push kx.1 os), (t, .pos hgt) :: lay.filter (notT t), hgt + 1)
  | p + 2 => ob (opOf P o) fun kx => ob (opOs lay hgt kx.2) fun os => ob (guardO ops lay hgt o) fun g => match o.dst with
    | none => none
    | some t => some (some (mkJ g (.loc (poOf 12 p)) kx.1 os), (t, .loc (poOf 12 p)) :: (lay.filter (notT t)).filter (notP (poOf 12 p)), hgt))
def compReg (P : Program) (n : Nat) (ops : Array Oper) : List Oper → List Nat → Lay → Nat → Option (List J2 × Lay × Nat)
  | [], _, lay, hgt => some ([], lay, hgt)
  | o :: os, hs, lay, hgt => ob (compOp P n ops lay hgt o (hs.headD 1)) fun r => ob (compReg P n ops os hs.tail r.2.1 r.2.2) fun s => some ((match r.1 with
    | some j => j :: s.1
    | none => s.1), s.2.1, s.2.2)
def refEq : Ref → Ref → Bool
  | .loc p, .loc q => p.eq q
  | _, _ => false
def covers (base lay : Lay) : Bool := base.all fun q => match look lay q.1 with
  | some r => refEq q.2 r
  | none => false
/-! ### A region that draws -/
def maskOf (M : List Nat) (o : Oper) : Nat := o.after.toList.foldl (fun s e => bif Region.binds .any e then s ||| 2 ^ e.on ||| M.getD e.on 0 else s) 0
def masks : List Oper → List Nat → List Nat
  | [], M => M
  | o :: os, M => masks os (M ++ [maskOf M o])
def bef (M : List Nat) (i j : Nat) : Bool := (M.getD i 0).testBit j
def isEff (P : Program) (o : Oper) : Bool := match o.op with
  | .assign _ => true
  | _ => match opOf P o with
    | some (k, _) => Nat.ble 2 k.kind
    | none => true
def effAt (P : Program) (ops : Array Oper) (i : Nat) : Bool := match ops[i]? with
  | some o => isEff P o
  | none => true
def readsHeap : K → Bool
  | .load .. | .b2s => true
  | _ => false
def looksB (P : Program) (ops : Array Oper) (o : Oper) (t : Nat) : Bool := (match opOf P o with
  | some (_, xs) => xs.any fun x => match x with
    | .tmp s => Nat.beq s t
    | _ => false
  | none => false) || (match o.guard with
  | some (j, _) => match (ops[j]?).bind (fun o => o.dst) with
    | some s => Nat.beq s t
    | none => false
  | none => false)
def planB (P : Program) (ops : Array Oper) (M : List Nat) (perm : List Nat) : Bool :=
  let n := ops.size
  let is := List.range n
  let at_ := fun i => ops[i]?
  Nat.beq perm.length n && is.all (fun i => perm.contains i) && decide perm.Nodup && perm.all (fun i => Nat.ble (i + 1) n) && Nat.beq M.length n &&
  is.all (fun i => match at_ i with
    | none => false
    | some o => Nat.beq (M.getD i 0) (maskOf M o) && o.after.toList.all (fun e => !Region.binds .any e || Nat.ble (e.on + 1) i)) &&
  is.all (fun i => match at_ i with
    | none => false
    | some oi => is.all fun q => match at_ q with
      | none => false
      | some oq => match oq.dst with
        | none => true
        | some t => (bif Nat.beq q i then isEff P oi || !looksB P ops oi t else (!looksB P ops oi t || bef M i q || (isEff P oq && bef M q i)) && (isEff P oi || !(match oi.dst with | some s => Nat.beq s t | none => false)))) &&
  is.all (fun i => match at_ i with
    | none => false
    | some o => isEff P o || (o.dst.isSome && (match opOf P o with | some (k, _) => Nat.ble k.kind 1 | none => true)))
def permOk (P : Program) (ops : Array Oper) (M : List Nat) : List Nat → List Nat → Bool
  | _, [] => true
  | pre, i :: post => (List.range ops.size).all (fun j => !bef M i j || pre.contains j) && (!effAt P ops i || post.all fun q => bef M q i) && permOk P ops M (pre ++ [i]) post
/-- what is read again -/
def reads2 (P : Program) (n : Nat) (ops : Array Oper) (M : List Nat) (lay : Lay) (hgt : Nat) (i : Nat) : List Nat → Option (List (J2 × O))
  | [] => some []
  | r :: rs => ob (reads2 P n ops M lay hgt i rs) fun l => match ops[r]? with
    | none => none
    | some o => match opOf P o with
      | none => some l
      | some (k, xs) => bif readsHeap k && !(effAt P ops i && bef M i r) then
          ob (opOs lay hgt xs) fun os => ob (guardO ops lay hgt o) fun g => match o.dst with
            | none => none
            | some t => ob (opO lay hgt (.tmp t)) fun d => some ((mkJ g .no k os, d) :: l)
        else some l
def kindOf (P : Program) (o : Oper) : Nat := match opOf P o with
  | some (k, _) => k.kind
  | none => 9
def compDraw (P : Program) (n : Nat) (ops : Array Oper) (M : List Nat) : List (Nat × Nat) → List Nat → Lay → Nat → Option (List (J2 × List (J2 × O)) × Lay × Nat)
  | [], _, lay, hgt => some ([], lay, hgt)
  | (i, hint) :: hs, pre, lay, hgt => match ops[i]? with
    | none => none
    | some o => ob (compOp P n ops lay hgt o hint) fun r => ob (bif Nat.beq (kindOf P o) 0 then some [] else reads2 P n ops M r.2.1 r.2.2 i pre) fun rs => ob (compDraw P n ops M hs (pre ++ [i]) r.2.1 r.2.2) fun s => some ((match r.1 with
      | some j => (j, rs) :: s.1
      | none => s.1), s.2.1, s.2.2)
/-! ### Code -/
abbrev Hints := Nat → List (Nat × Nat)
def compC (P : Program) (n : Nat) (base : Lay) (hints : Hints) : Code → Lay → Nat → Option (C2 × Lay × Nat)
  | .skip, lay, hgt => some (.skip, lay, hgt)
  | .ret, lay, hgt => some (.ret, lay, hgt)
  | .exit id, lay, hgt => some (.exit id, lay, hgt)
  | .seq a b, lay, hgt => ob (compC P n base hints a lay hgt) fun x => ob (compC P n base hints b x.2.1 x.2.2) fun y => some (.seq x.1 y.1, y.2.1, y.2.2)
  | .cond c a b, lay, hgt => ob (opO lay hgt c) fun x => ob (compC P n base hints a lay hgt) fun y => ob (compC P n base hints b lay hgt) fun z => some (.cond x y.1 z.1, base, 0)
  | .block id a, lay, hgt => ob (compC P n base hints a lay hgt) fun x => some (.block id x.1, base, 0)
  | .loop a, lay, hgt => ob (compC P n base hints a base 0) fun x => some (.loop x.1, base, 0)
  | .region id ops d, lay, hgt => match d with
    | false => ob (compReg P n ops ops.toList ((hints id).map (·.2)) base 0) fun x => io (covers base x.2.1) (some (.reg x.1, x.2.1, x.2.2))
    | true => let M := masks ops.toList []
      let perm := (hints id).map (·.1)
      io (planB P ops M perm && permOk P ops M [] perm) (ob (compDraw P n ops M (hints id) [] base 0) fun x => io (covers base x.2.1) (some (.draw x.1, x.2.1, x.2.2)))
  | _, _, _ => none
def isCov : Lay → Bool := fun base => base.all fun q => match q.2 with
  | .loc _ => true
  | _ => false
def resO (P : Program) (base : Lay) : List ResultVar → Option (List (O × Option (Nat × Bool)))
  | [] => some []
  | .tmp t :: rs => ob (opO base 0 (.tmp t)) fun x => ob (resO P base rs) fun l => some ((x, none) :: l)
  | .cell a t :: rs => ob (opO base 0 (.tmp a)) fun x => ob (P.info? t) fun i => ob (aggOf P t) fun g => ob (resO P base rs) fun l => some ((x, some (i.size, g)) :: l)
def parPs (base : Lay) : Nat → Nat → Option (List Po)
  | _, 0 => some []
  | i, n + 1 => match look base i with
    | some (.loc p) => ob (parPs base (i + 1) n) fun l => some (p :: l)
    | _ => none
/-- a parameter's place is its own -/
def argOk (base : Lay) (ps : List Po) : Bool := base.all fun q => match q.2 with
  | .loc p => ps.zipIdx.all fun x => bif p.eq x.1 then Nat.beq q.1 x.2 else !(Nat.beq q.1 x.2)
  | _ => false
/-- a function: its locals' places (slot by slot), its hints -/
def compF (P : Program) (fn : Func) (locs : List Nat) (hints : Hints) : Option FR2 :=
  let base : Lay := locs.zipIdx.map fun q => (q.1, Ref.loc (poOf 12 (q.2 + 1)))
  let np := fn.params.size + fn.nfree
  ob fn.body fun c => ob (parPs base 0 np) fun ps => ob (resO P base fn.results.toList) fun res => ob (compC P fn.ntmps base hints c base 0) fun x => io (Nat.ble np fn.ntmps && argOk base ps) (some ⟨ps, res, x.1⟩)
end Ev
end Go.Proofs.YtbcmcdmflblgkaaGreatDoor

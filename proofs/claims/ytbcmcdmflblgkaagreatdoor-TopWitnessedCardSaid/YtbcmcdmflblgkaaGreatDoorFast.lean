/-
  Fast: the evaluator that the kernel runs: the locals in a tree, a region's temporaries on a stack.
-/
import Derived.Test.YtbcmcdmflblgkaaGreatDoorEv
namespace Go.Proofs.YtbcmcdmflblgkaaGreatDoor
namespace Ev
set_option linter.unusedVariables false
inductive U where
  | z | s (u : U)
def U.get : U → List V → Option V
  | .z => fun l => match l with
    | v :: _ => some v
    | [] => none
  | .s u => fun l => match l with
    | _ :: l => u.get l
    | [] => none
inductive O where
  | st (u : U) | lo (p : Po) | co (v : V)
inductive D where
  | no | push | loc (p : Po)
inductive J2 where
  | op (d : D) (k : K) (xs : List O)
  | gd (g : O) (w : Bool) (d : D) (k : K) (xs : List O)
inductive C2 where
  | skip
  | ret
  | exit (id : Nat)
  | seq (a b : C2)
  | cond (x : O) (a b : C2)
  | block (id : Nat) (c : C2)
  | loop (c : C2)
  | reg (js : List J2)
  | draw (js : List (J2 × List (J2 × O)))
inductive X where
  | normal | exit (id : Nat) | ret
structure FR2 where
  ps : List Po
  res : List (O × Option (Nat × Bool))
  body : C2
structure S where
  ls : T V
  stk : List V
  h : H
def O.ev : O → T V → List V → Option V
  | .st u => fun _ l => u.get l
  | .lo p => fun t _ => T.get p t
  | .co v => fun _ _ => some v
def evs : List O → T V → List V → Option (List V)
  | [] => fun _ _ => some []
  | x :: xs => fun t l => ob (x.ev t l) fun v => ob (evs xs t l) fun vs => some (v :: vs)
def D.put : D → V → T V → List V → H → S
  | .no => fun _ t l h => ⟨t, l, h⟩
  | .push => fun v t l h => ⟨t, v :: l, h⟩
  | .loc p => fun v t l h => ⟨T.set p (some v) t, l, h⟩
def runOp (cal : Cal) (d : D) (k : K) (xs : List O) (t : T V) (l : List V) (h : H) : Option S := ob (evs xs t l) fun vs => ob (semK cal k vs h) fun r => some (d.put r.1 t l r.2)
def evJ2 (cal : Cal) : J2 → T V → List V → H → Option S
  | .op d k xs => fun t l h => runOp cal d k xs t l h
  | .gd g w d k xs => fun t l h => ob (g.ev t l) fun v => ob (goesV w v) fun b => bif b then runOp cal d k xs t l h else some (d.put (.lit undef) t l h)
def evJs2 (cal : Cal) : List J2 → T V → List V → H → Option S
  | [] => fun t l h => some ⟨t, l, h⟩
  | j :: js => fun t l h => ob (evJ2 cal j t l h) fun s => evJs2 cal js s.ls s.stk s.h
def againF (k : K) (xs : List O) (d : O) (t : T V) (l : List V) (h : H) : Bool := match ob (evs xs t l) fun vs => ob (semF k vs h) fun v => ob (d.ev t l) fun u => some (sameV u v) with
  | some b => b
  | none => false
def again1 : J2 → O → T V → List V → H → Bool
  | .op _ k xs => fun d t l h => againF k xs d t l h
  | .gd g w _ k xs => fun d t l h => match ob (g.ev t l) fun v => goesV w v with
    | some true => againF k xs d t l h
    | some false => true
    | none => false
def again2 : List (J2 × O) → T V → List V → H → Bool
  | [] => fun _ _ _ => true
  | x :: r => fun t l h => again1 x.1 x.2 t l h && again2 r t l h
def evD2 (cal : Cal) : List (J2 × List (J2 × O)) → T V → List V → H → Option S
  | [] => fun t l h => some ⟨t, l, h⟩
  | x :: js => fun t l h => ob (evJ2 cal x.1 t l h) fun s => io (again2 x.2 s.ls s.stk s.h) (evD2 cal js s.ls s.stk s.h)
abbrev R2 := Option (X × S)
abbrev EV2 := C2 → S → R2
def cSeq (ih : EV2) (a b : C2) (s : S) : R2 := ob (ih a s) fun r => match r with
  | (.normal, s') => ih b s'
  | r => some r
def cCond (ih : EV2) (x : O) (a b : C2) (s : S) : R2 := ob (x.ev s.ls s.stk) fun v => match v with
  | .boo t => ih (bif t then a else b) s
  | _ => none
def cBlock (ih : EV2) (id : Nat) (a : C2) (s : S) : R2 := ob (ih a s) fun r => match r with
  | (.exit i, s') => some (bif Nat.beq i id then (.normal, s') else (.exit i, s'))
  | r => some r
def cLoop (ih : EV2) (a : C2) (s : S) : R2 := ob (ih a s) fun r => match r with
  | (.normal, s') => ih (.loop a) s'
  | r => some r
def cReg (cal : Cal) (js : List J2) (s : S) : R2 := ob (evJs2 cal js s.ls [] s.h) fun s' => some (.normal, s')
def cDraw (cal : Cal) (js : List (J2 × List (J2 × O))) (s : S) : R2 := ob (evD2 cal js s.ls [] s.h) fun s' => some (.normal, s')
def stepC (cal : Cal) (ih : EV2) : EV2
  | .skip => fun s => some (.normal, s)
  | .ret => fun s => some (.ret, s)
  | .exit id => fun s => some (.exit id, s)
  | .seq a b => cSeq ih a b
  | .cond x a b => cCond ih x a b
  | .block id a => cBlock ih id a
  | .loop a => cLoop ih a
  | .reg js => cReg cal js
  | .draw js => cDraw cal js
def evC2 (cal : Cal) : Nat → EV2
  | 0 => fun _ _ => none
  | n + 1 => stepC cal (evC2 cal n)
def argT : List Po → List V → T V → Option (T V)
  | [] => fun vs t => match vs with
    | [] => some t
    | _ => none
  | p :: ps => fun vs t => match vs with
    | v :: vs => argT ps vs (T.set p (some v) t)
    | [] => none
def res2 (s : S) : List (O × Option (Nat × Bool)) → Option (List V)
  | [] => some []
  | (x, r) :: rs => ob (x.ev s.ls s.stk) fun v => ob (match r with
    | none => some v
    | some (sz, g) => sLoad sz g [v] s.h) fun u => ob (res2 s rs) fun us => some (u :: us)
def tupV : List V → V
  | [v] => v
  | vs => .tup vs
def evF2 (cal : Cal) (F : FR2) (vs : List V) (h : H) : Option (V × H) := ob (argT F.ps vs .e) fun t => ob (evC2 cal 5000 F.body ⟨t, [], h⟩) fun r => match r with
  | (.exit _, _) => none
  | (_, s) => ob (res2 s F.res) fun us => some (tupV us, s.h)
def evCall2 (nat : Nat → Option Cal) (irs : Nat → Option FR2) : Nat → Cal
  | 0 => fun _ _ _ => none
  | n + 1 => fun f vs h => match irs f with
    | some F => evF2 (evCall2 nat irs n) F vs h
    | none => ob (nat f) fun g => g f vs h
end Ev
end Go.Proofs.YtbcmcdmflblgkaaGreatDoor

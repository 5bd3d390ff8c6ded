/-
  Ev: what the operations of the model's Code come to over an abstract heap: the data and the rules. (No claim; the texts that follow show them sound.)
-/
import Derived.Calls
import Derived.Laws.Append
namespace Go.Proofs.YtbcmcdmflblgkaaGreatDoor
namespace Ev
set_option linter.unusedVariables false

/-! ### Numbers of blocks, and a map from them -/
inductive Po where
  | one | d0 (p : Po) | d1 (p : Po)
  deriving DecidableEq, Inhabited
def Po.nat : Po → Nat
  | .one => 1
  | .d0 p => 2 * p.nat
  | .d1 p => 2 * p.nat + 1
def Po.succ : Po → Po
  | .one => .d0 .one
  | .d0 p => .d1 p
  | .d1 p => .d0 p.succ
def Po.eq : Po → Po → Bool
  | .one, .one => true
  | .d0 p, .d0 q => p.eq q
  | .d1 p, .d1 q => p.eq q
  | _, _ => false
inductive T (α : Type) where
  | e
  | n (l : T α) (v : Option α) (r : T α)
def T.top {α : Type} : T α → Option α
  | .e => none
  | .n _ v _ => v
def T.lf {α : Type} : T α → T α
  | .e => .e
  | .n l _ _ => l
def T.rt {α : Type} : T α → T α
  | .e => .e
  | .n _ _ r => r
def T.get {α : Type} : Po → T α → Option α
  | .one => T.top
  | .d0 p => fun t => T.get p t.lf
  | .d1 p => fun t => T.get p t.rt
def T.set {α : Type} : Po → Option α → T α → T α
  | .one => fun v t => .n t.lf v t.rt
  | .d0 p => fun v t => .n (T.set p v t.lf) t.top t.rt
  | .d1 p => fun v t => .n t.lf t.top (T.set p v t.rt)
theorem Po.eq_iff : ∀ p q : Po, p.eq q = true ↔ p = q
  | .one, .one => by simp [Po.eq]
  | .d0 p, .d0 q => by simp [Po.eq, Po.eq_iff p q]
  | .d1 p, .d1 q => by simp [Po.eq, Po.eq_iff p q]
  | .one, .d0 _ => by simp [Po.eq]
  | .one, .d1 _ => by simp [Po.eq]
  | .d0 _, .one => by simp [Po.eq]
  | .d1 _, .one => by simp [Po.eq]
  | .d0 _, .d1 _ => by simp [Po.eq]
  | .d1 _, .d0 _ => by simp [Po.eq]
theorem Po.nat_pos : ∀ p : Po, 0 < p.nat
  | .one => by simp [Po.nat]
  | .d0 p => by have := Po.nat_pos p; simp [Po.nat]; omega
  | .d1 p => by simp [Po.nat]
theorem Po.nat_inj : ∀ p q : Po, p.nat = q.nat → p = q
  | .one, .one, _ => rfl
  | .d0 p, .d0 q, h => by have := Po.nat_inj p q (by simp only [Po.nat] at h; omega); rw [this]
  | .d1 p, .d1 q, h => by have := Po.nat_inj p q (by simp only [Po.nat] at h; omega); rw [this]
  | .one, .d0 q, h => by simp only [Po.nat] at h; omega
  | .one, .d1 q, h => by have := q.nat_pos; simp only [Po.nat] at h; omega
  | .d0 p, .one, h => by simp only [Po.nat] at h; omega
  | .d1 p, .one, h => by have := p.nat_pos; simp only [Po.nat] at h; omega
  | .d0 p, .d1 q, h => by simp only [Po.nat] at h; omega
  | .d1 p, .d0 q, h => by simp only [Po.nat] at h; omega
theorem Po.nat_succ : ∀ p : Po, p.succ.nat = p.nat + 1
  | .one => rfl
  | .d0 p => rfl
  | .d1 p => by simp only [Po.succ, Po.nat, Po.nat_succ p]; omega
theorem T.get_set {α : Type} : ∀ (p q : Po) (v : Option α) (t : T α), T.get q (T.set p v t) = if q = p then v else T.get q t
  | .one, .one, v, t => by simp [T.get, T.set, T.top]
  | .one, .d0 q, v, t => by simp [T.get, T.set, T.lf]
  | .one, .d1 q, v, t => by simp [T.get, T.set, T.rt]
  | .d0 p, .one, v, t => by simp [T.get, T.set, T.top]
  | .d1 p, .one, v, t => by simp [T.get, T.set, T.top]
  | .d0 p, .d0 q, v, t => by simp only [T.get, T.set, T.lf]; rw [T.get_set p q]; simp
  | .d1 p, .d1 q, v, t => by simp only [T.get, T.set, T.rt]; rw [T.get_set p q]; simp
  | .d0 p, .d1 q, v, t => by simp [T.get, T.set, T.rt]
  | .d1 p, .d0 q, v, t => by simp [T.get, T.set, T.lf]

/-! ### Values -/
inductive V where
  | lit (v : Value)
  | int (k : IntKind) (n : Int)
  | boo (b : Bool)
  | str (l : List Nat)
  | nils
  | ptr (b : Po) (o : Nat)
  | sl (b : Po) (o n c : Nat) (ex : Bool) (k : Nat)
  | fn (f : Nat) (caps : List V)
  | ifc (t : Nat) (v : V)
  | agg (vs : List V)
  | tup (vs : List V)
  deriving Inhabited
def V.cells : V → List V
  | .agg vs => vs
  | .lit (.agg cs) => cs.toList.map .lit
  | v => [v]
/-- may this lie in a cell? -/
def V.one : V → Bool
  | .lit (.agg _) | .lit (.tuple _) | .agg _ | .tup _ => false
  | _ => true
structure H where
  m : T (List V)
  nx : Po
def H.get (h : H) (b : Po) : Option (List V) := T.get b h.m
def H.new (h : H) (cs : List V) : H := ⟨T.set h.nx (some cs) h.m, h.nx.succ⟩
def H.put (h : H) (b : Po) (v : Option (List V)) : H := ⟨T.set b v h.m, h.nx⟩

/-! ### Small rules -/
abbrev vi (n : Nat) : V := .int .i64 (.ofNat n)
def ob {α β : Type} : Option α → (α → Option β) → Option β
  | none => fun _ => none
  | some a => fun f => f a
def io {α : Type} : Bool → Option α → Option α
  | true => fun x => x
  | false => fun _ => none
def splice (o : Nat) (new cs : List V) : List V := cs.take o ++ new ++ cs.drop (o + new.length)
def fillL : List (Nat × Nat) → List V → List V → Option (List V)
  | [] => fun _ cs => some cs
  | (off, sz) :: ps => fun vs cs => match vs with
    | [] => none
    | v :: vs => io (Nat.beq v.cells.length sz && Nat.ble (off + sz) cs.length) (fillL ps vs (splice off v.cells cs))
def zeros : Nat → List V → List V
  | 0 => fun _ => []
  | n + 1 => fun z => z ++ zeros n z
def litI : V → Option Nat
  | .int _ (.ofNat n) => some n
  | _ => none
def valOf : V → Value
  | .int k n => .int k n
  | .boo b => .bool b
  | .lit v => v
  | _ => undef
def ofVal : Value → V
  | .int k n => .int k n
  | .bool b => .boo b
  | v => .lit v
def pureOf : Sem Value → Option V
  | .pure v => some (ofVal v)
  | _ => none
def beqs : List Nat → List Nat → Bool
  | [], [] => true
  | x :: xs, y :: ys => Nat.beq x y && beqs xs ys
  | _, _ => false
/-- c: 1 bool, 2 string, 3 pointer, 4 slice, 5 interface -/
def eqV (c : Nat) : V → V → Option Bool
  | .boo a, .boo b => io (Nat.beq c 1) (some (a == b))
  | .str a, .str b => io (Nat.beq c 2) (some (beqs a b))
  | .ptr _ _, .lit (.pointer none) => io (Nat.beq c 3) (some false)
  | .lit (.pointer none), .lit (.pointer none) => io (Nat.beq c 3) (some true)
  | .sl .., .nils => io (Nat.beq c 4) (some false)
  | .nils, .nils => io (Nat.beq c 4) (some true)
  | .ifc .., .lit .nilIface => io (Nat.beq c 5) (some false)
  | .lit .nilIface, .lit .nilIface => io (Nat.beq c 5) (some true)
  | _, _ => none
def bytesV : List V → Option (List Nat)
  | [] => some []
  | .int .u8 (.ofNat n) :: vs => io (Nat.ble n 255) (ob (bytesV vs) fun l => some (n :: l))
  | _ => none
/-- the cells that a slice holds -/
def held (sz : Nat) : V → H → Option (List V)
  | .nils => fun _ => some []
  | .sl b o n _ _ _ => fun h => match n with
    | 0 => some []
    | _ => ob (h.get b) fun cs => io (Nat.ble (o + n * sz) cs.length) (some ((cs.drop o).take (n * sz)))
  | _ => fun _ => none
def slen : V → Option Nat
  | .nils => some 0
  | .sl _ _ n _ _ _ => some n
  | _ => none
def optN : Bool → List V → Option (Option Nat × List V)
  | false => fun vs => some (none, vs)
  | true => fun vs => match vs with
    | v :: vs => ob (litI v) fun n => some (some n, vs)
    | [] => none

/-! ### The operations -/
inductive K where
  | bad
  | mov
  | pick
  | load (sz : Nat) (g : Bool)
  | store (sz : Nat)
  | fadr (off : Nat)
  | fld (off sz : Nat) (g : Bool)
  | chk
  | bin (op : BinOp) (c : Nat)
  | un (op : UnOp)
  | ext (i : Nat)
  | iadr (sz : Nat)
  | box (e : Nat)
  | alloc (e : Nat) (z : List V)
  | build (z : List V) (ps : List (Nat × Nat))
  | bsl (e n : Nat) (z : List V) (ps : List (Nat × Nat))
  | slice (sz : Nat) (lo hi mx : Bool)
  | conv (k : IntKind)
  | b2s
  | mkif (t : Nat)
  | tass (t : Nat) (z : V) (ok : Bool)
  | mkfn (f : Nat)
  | mksl (e bytes : Nat) (z : List V)
  | len
  | cap
  | app (e sz bytes : Nat)
  | appz (e sz bytes : Nat) (z : List V)
  | copy (sz : Nat)
  | clear (z : List V)
  | mm (mx : Bool)
  | call
abbrev SF := List V → H → Option V
def sMov : SF := fun vs _ => match vs with
  | [v] => some v
  | _ => none
def sPick : SF := fun vs _ => match vs with
  | [.boo t, a, b] => some (bif t then a else b)
  | _ => none
def sLoad (sz : Nat) (g : Bool) : SF := fun vs h => match vs with
  | [.ptr b o] => ob (h.get b) fun cs => bif g then io (Nat.ble (o + sz) cs.length) (some (.agg ((cs.drop o).take sz))) else cs[o]?
  | _ => none
def sFadr (off : Nat) : SF := fun vs _ => match vs with
  | [.ptr b o] => some (.ptr b (o + off))
  | _ => none
def sFld (off sz : Nat) (g : Bool) : SF := fun vs _ => match vs with
  | [.agg cs] => bif g then io (Nat.ble (off + sz) cs.length) (some (.agg ((cs.drop off).take sz))) else cs[off]?
  | _ => none
def sChk : SF := fun vs _ => match vs with
  | [.ptr b o] => some (.ptr b o)
  | [.fn f caps] => some (.fn f caps)
  | _ => none
def arith : BinOp → IntKind → Int → Int → Option V
  | .add => fun k a b => some (.int k (k.wrap (a + b)))
  | .sub => fun k a b => some (.int k (k.wrap (a - b)))
  | .lss => fun _ a b => some (.boo (decide (a < b)))
  | .leq => fun _ a b => some (.boo (decide (a ≤ b)))
  | .gtr => fun _ a b => some (.boo (decide (a > b)))
  | .geq => fun _ a b => some (.boo (decide (a ≥ b)))
  | .eql => fun _ a b => some (.boo (a == b))
  | .neq => fun _ a b => some (.boo (a != b))
  | op => fun k a b => pureOf (Go.binOp op 0 (.int k a) (.int k b))
def kindEq : IntKind → IntKind → Bool
  | .i64, .i64 | .u8, .u8 | .u16, .u16 | .u32, .u32 | .u64, .u64 | .i32, .i32 => true
  | _, _ => false
def isSh : BinOp → Bool
  | .shl | .shr => true
  | _ => false
def sBin (op : BinOp) (t : Nat) : SF := fun vs _ => match vs with
  | [.int k a, .int k' b] => io (kindEq k k' || isSh op) (arith op k a b)
  | [x, y] => match op with
    | .eql => ob (eqV t x y) fun b => some (.boo b)
    | .neq => ob (eqV t x y) fun b => some (.boo (!b))
    | _ => none
  | _ => none
def sUn (op : UnOp) : SF := fun vs _ => match vs with
  | [.int k n] => pureOf (Op.unary op (.int k n))
  | [.boo b] => pureOf (Op.unary op (.bool b))
  | _ => none
def sExt (i : Nat) : SF := fun vs _ => match vs with
  | [.tup ws] => ws[i]?
  | _ => none
def sIadr (sz : Nat) : SF := fun vs _ => match vs with
  | [.sl b o n _ _ _, .int _ (.ofNat k)] => io (Nat.ble (k + 1) n) (some (.ptr b (o + k * sz)))
  | _ => none
def sBuild (z : List V) (ps : List (Nat × Nat)) : SF := fun vs _ => ob (fillL ps vs z) fun cs => some (.agg cs)
def cut (sz : Nat) (b : Po) (o n c : Nat) (ex : Bool) (k : Nat) (lo hi mx : Option Nat) : Option V :=
  io (Nat.ble (lo.getD 0) (hi.getD n) && Nat.ble (hi.getD n) (mx.getD c) && Nat.ble (mx.getD c) c && Nat.beq k sz) (some (.sl b (o + lo.getD 0 * sz) (hi.getD n - lo.getD 0) (mx.getD c - lo.getD 0) (ex || mx.isSome) k))
def sSlice (sz : Nat) (lo hi mx : Bool) : SF := fun vs _ => match vs with
  | v :: r => io (!mx || hi) (ob (optN lo r) fun x => ob (optN hi x.2) fun y => ob (optN mx y.2) fun z => match v with
    | .nils => io (Nat.beq (x.1.getD 0) 0 && Nat.beq (y.1.getD 0) 0 && Nat.beq (z.1.getD 0) 0) (some .nils)
    | .sl b o n c ex k => cut sz b o n c ex k x.1 y.1 z.1
    | _ => none)
  | _ => none
def sConv (k : IntKind) : SF := fun vs _ => match vs with
  | [.int _ n] => some (.int k (k.wrap n))
  | _ => none
def sB2s : SF := fun vs h => match vs with
  | [v] => ob (held 1 v h) fun cs => ob (bytesV cs) fun l => some (.str l)
  | _ => none
def sMkif (t : Nat) : SF := fun vs _ => match vs with
  | [v] => some (.ifc t v)
  | _ => none
def sTass (t : Nat) (z : V) (ok : Bool) : SF := fun vs _ => match vs with
  | [.ifc u v] => bif Nat.beq u t then some (bif ok then .tup [v, .boo true] else v) else io ok (some (.tup [z, .boo false]))
  | [.lit .nilIface] => io ok (some (.tup [z, .boo false]))
  | _ => none
def sMkfn (f : Nat) : SF := fun vs _ => some (.fn f vs)
def sLen : SF := fun vs _ => match vs with
  | [v] => ob (slen v) fun n => some (vi n)
  | _ => none
def sCap : SF := fun vs _ => match vs with
  | [.nils] => some (vi 0)
  | [.sl _ _ _ c true _] => some (vi c)
  | _ => none
def sMm (mx : Bool) : SF := fun vs _ => match vs with
  | [.int k a, .int _ b] => some (.int k (bif mx then (bif decide (b > a) then b else a) else (bif decide (b < a) then b else a)))
  | _ => none
def sBad : SF := fun _ _ => none
/-- what only reads -/
def semF : K → SF
  | .mov => sMov | .pick => sPick | .load sz g => sLoad sz g | .fadr off => sFadr off | .fld off sz g => sFld off sz g | .chk => sChk | .bin op t => sBin op t | .un op => sUn op
  | .ext i => sExt i | .iadr sz => sIadr sz | .build z ps => sBuild z ps | .slice sz lo hi mx => sSlice sz lo hi mx | .conv k => sConv k | .b2s => sB2s | .mkif t => sMkif t
  | .tass t z ok => sTass t z ok | .mkfn f => sMkfn f | .len => sLen | .cap => sCap | .mm mx => sMm mx
  | _ => sBad
abbrev SA := List V → Option (List V × (Po → V))
def aBox : SA := fun vs => match vs with
  | [v] => io (v.cells.all V.one) (some (v.cells, fun b => .ptr b 0))
  | _ => none
def aAlloc (z : List V) : SA := fun _ => some (z, fun b => .ptr b 0)
def aBsl (n : Nat) (z : List V) (ps : List (Nat × Nat)) : SA := fun vs => ob (fillL ps vs (zeros n z)) fun cs => io (cs.all V.one) (some (cs, fun b => .sl b 0 n n true z.length))
def aMksl (bytes : Nat) (z : List V) : SA := fun vs => match vs with
  | [.int .i64 (.ofNat n), .int .i64 (.ofNat k)] => io (Nat.ble n k && Nat.ble k 100000 && Nat.ble (k * bytes) 1000000) (some (zeros k z, fun b => .sl b 0 n k true z.length))
  | _ => none
def aBad : SA := fun _ => none
/-- what makes a block: its cells, and how it is pointed at -/
def semA : K → SA
  | .box _ => aBox | .alloc _ z => aAlloc z | .bsl _ n z ps => aBsl n z ps | .mksl _ bytes z => aMksl bytes z
  | _ => aBad
abbrev SE := List V → H → Option (V × H)
def eStore (sz : Nat) : SE := fun vs h => match vs with
  | [.ptr b o, u] => ob (h.get b) fun cs => io (Nat.beq u.cells.length sz && Nat.ble (o + sz) cs.length && u.cells.all V.one) (some (.lit undef, h.put b (some (splice o u.cells cs))))
  | _ => none
def grow (sz m : Nat) (new : List V) (b : Po) (o n c : Nat) (ex : Bool) (h : H) : Option (V × H) :=
  bif Nat.ble (n + m) c then ob (h.get b) fun cs => io (Nat.ble (o + (n + m) * sz) cs.length) (some (.sl b o (n + m) c ex sz, h.put b (some (splice (o + n * sz) new cs))))
  else ob (held sz (.sl b o n c ex sz) h) fun old => bif ex then some (.sl h.nx 0 (n + m) (n + m) false sz, h.new (old ++ new))
    else ob (h.get b) fun _ => some (.sl h.nx 0 (n + m) (n + m) false sz, (h.put b none).new (old ++ new))
def appV (sz bytes m : Nat) (new : List V) : V → H → Option (V × H)
  | .nils => fun h => match m with
    | 0 => some (.nils, h)
    | _ => io (new.all V.one && Nat.ble (m * bytes) 1000000 && Nat.ble m 1000000) (some (.sl h.nx 0 m m false sz, h.new new))
  | .sl b o n c ex k => fun h => match m with
    | 0 => some (.sl b o n c ex k, h)
    | _ => io (Nat.beq k sz && new.all V.one && Nat.ble ((n + m) * bytes) 1000000 && Nat.ble (n + m) 1000000) (grow sz m new b o n c ex h)
  | _ => fun _ => none
def eApp (sz bytes : Nat) : SE := fun vs h => match vs with
  | [s, x] => ob (slen x) fun m => ob (held sz x h) fun new => appV sz bytes m new s h
  | _ => none
def eAppz (sz bytes : Nat) (z : List V) : SE := fun vs h => match vs with
  | [s, .int .i64 (.ofNat m)] => io (Nat.ble m 100000 && Nat.ble (m * bytes) 1000000) (appV sz bytes m (zeros m z) s h)
  | _ => none
def eCopy (sz : Nat) : SE := fun vs h => match vs with
  | [d, x] => ob (slen d) fun n => ob (slen x) fun m => ob (held sz x h) fun cs => match Nat.min m n with
    | 0 => some (vi 0, h)
    | k => match d with
      | .sl b o _ _ _ _ => ob (h.get b) fun ds => io (Nat.ble (o + k * sz) ds.length && (cs.take (k * sz)).all V.one) (some (vi k, h.put b (some (splice o (cs.take (k * sz)) ds))))
      | _ => none
  | _ => none
def eClear (z : List V) : SE := fun vs h => match vs with
  | [.nils] => some (.lit undef, h)
  | [.sl b o n _ _ _] => match n with
    | 0 => some (.lit undef, h)
    | _ => ob (h.get b) fun ds => io (Nat.ble (o + n * z.length) ds.length && z.all V.one && Nat.ble 1 ds.length) (some (.lit undef, h.put b (some (splice o (zeros n z) ds))))
  | _ => none
def eBad : SE := fun _ _ => none
/-- what writes (but a call) -/
def semE : K → SE
  | .store sz => eStore sz | .app _ sz bytes => eApp sz bytes | .appz _ sz bytes z => eAppz sz bytes z | .copy sz => eCopy sz | .clear z => eClear z
  | _ => eBad
abbrev Cal := Nat → List V → H → Option (V × H)
def rF (f : SF) : SE := fun vs h => ob (f vs h) fun v => some (v, h)
def rA (f : SA) : SE := fun vs h => ob (f vs) fun x => some (x.2 h.nx, h.new x.1)
def rC (cal : Cal) : SE := fun vs h => match vs with
  | .fn id caps :: vs => cal id (vs ++ caps) h
  | _ => none
/-- 0: reads, 1: makes a block, 2: writes, 3: a call -/
def K.kind : K → Nat
  | .box _ | .alloc .. | .bsl .. | .mksl .. => 1
  | .store _ | .app .. | .appz .. | .copy _ | .clear _ => 2
  | .call => 3
  | _ => 0
def semK (cal : Cal) : K → SE
  | .mov => rF sMov | .pick => rF sPick | .load sz g => rF (sLoad sz g) | .fadr off => rF (sFadr off) | .fld off sz g => rF (sFld off sz g) | .chk => rF sChk | .bin op t => rF (sBin op t) | .un op => rF (sUn op)
  | .ext i => rF (sExt i) | .iadr sz => rF (sIadr sz) | .build z ps => rF (sBuild z ps) | .slice sz lo hi mx => rF (sSlice sz lo hi mx) | .conv k => rF (sConv k) | .b2s => rF sB2s | .mkif t => rF (sMkif t)
  | .tass t z ok => rF (sTass t z ok) | .mkfn f => rF (sMkfn f) | .len => rF sLen | .cap => rF sCap | .mm mx => rF (sMm mx)
  | .box _ => rA aBox | .alloc _ z => rA (aAlloc z) | .bsl _ n z ps => rA (aBsl n z ps) | .mksl _ bytes z => rA (aMksl bytes z)
  | .store sz => eStore sz | .app _ sz bytes => eApp sz bytes | .appz _ sz bytes z => eAppz sz bytes z | .copy sz => eCopy sz | .clear z => eClear z
  | .call => rC cal
  | .bad => eBad
def goesV (w : Bool) : V → Option Bool
  | .boo b => some (b == w)
  | .lit (.tuple _) => some false
  | _ => none
/-! ### Two values are one -/
def same : V → V → Bool
  | .int k (.ofNat a), .int k' (.ofNat b) => kindEq k k' && Nat.beq a b
  | .int k (.negSucc a), .int k' (.negSucc b) => kindEq k k' && Nat.beq a b
  | .boo a, .boo b => a == b
  | .nils, .nils | .lit (.pointer none), .lit (.pointer none) | .lit .nilIface, .lit .nilIface => true
  | .str a, .str b => beqs a b
  | .ptr b o, .ptr b' o' => Po.eq b b' && Nat.beq o o'
  | .sl b o n c ex k, .sl b' o' n' c' ex' k' => Po.eq b b' && Nat.beq o o' && Nat.beq n n' && Nat.beq c c' && (ex == ex') && Nat.beq k k'
  | _, _ => false
def sames : List V → List V → Bool
  | [], [] => true
  | x :: xs, y :: ys => same x y && sames xs ys
  | _, _ => false
def sameV : V → V → Bool
  | .agg xs, .agg ys => sames xs ys
  | x, y => same x y
end Ev
end Go.Proofs.YtbcmcdmflblgkaaGreatDoor

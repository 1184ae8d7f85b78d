/- The evaluator: types of pure values, cells, the abstract state, and what an operation does to it.  Conditions: none, these are definitions.
   The evaluator: regions, code, marks, functions.  Conditions: none, these are definitions. -/
import Derived.Calls
import Derived.KernelRfl
import Derived.Orders
set_option linter.unusedVariables false
namespace Go.Ev
open Go
inductive Ty where
  | int (k : IntKind) | bool | str | list (t : Ty) | st (t : Ty) | pair (a b : Ty) | unit
  | ptr (t : Ty)
  deriving DecidableEq, Inhabited
@[reducible] def Ty.den : Ty → Type
  | .int _ => Int
  | .bool => Bool
  | .str => ByteArray
  | .list t => List t.den
  | .st t => t.den
  | .pair a b => a.den × b.den
  | .unit => Unit
  | .ptr t => t.den
def Ty.size : Ty → Nat
  | .st t => t.size
  | .pair a b => a.size + b.size
  | .unit => 0
  | _ => 1
def Ty.dflt : (t : Ty) → t.den
  | .int _ => (0 : Int)
  | .bool => false
  | .str => ByteArray.empty
  | .list _ => []
  | .st t => t.dflt
  | .pair a b => (a.dflt, b.dflt)
  | .unit => ()
  | .ptr t => t.dflt
def castTo (t t' : Ty) (x : t.den) : Option t'.den := if h : t = t' then some (h ▸ x) else none
def hasList : Ty → Bool
  | .list _ => true
  | .st t => hasList t
  | .pair a b => hasList a || hasList b
  | .ptr _ => true
  | _ => false
def noPtr : Ty → Bool
  | .ptr _ => false
  | .st t => noPtr t
  | .pair a b => noPtr a && noPtr b
  | _ => true
structure Dat where
  t : Ty
  x : t.den
inductive SubC where
  | dat (e : Ty) (l : List e.den)
  | ref (i : Nat)
  | part (i : Nat) (t : Ty) (off len : Int)
inductive Cel where
  | u
  | dat (t : Ty) (x : t.den)
  | nil
  | ref (i : Nat)
  | part (i : Nat) (t : Ty) (off len : Int)
  | ptr (i off : Nat)
  | elt (i : Nat) (t : Ty) (n : Int) (off : Nat)
  | mp (i : Nat)
  | fn (f : FuncId) (caps : List Dat)
  | tab (l : List SubC)
inductive AV where
  | one (c : Cel)
  | agg (l : List Cel)
  | tup (l : List (Bool × List Cel))
  | at (l : List Cel)
inductive Blk where
  | none
  | dead
  | arr (t : Ty) (l : List t.den) (o : Nat)
  | box (l : List Cel)
  | mp (l : List Int)
abbrev Hp := Nat → Blk
structure St where
  fr : Nat → AV
  hp : Hp
def upd {α : Type} (f : Nat → α) (d : Nat) (v : α) : Nat → α := fun j => cond (Nat.beq j d) v (f j)
def updAll (hp : Hp) : List (Nat × Blk) → Hp
  | [] => hp
  | p :: l => updAll (upd hp p.1 p.2) l
def explode : (t : Ty) → t.den → List Cel
  | .st t, x => explode t x
  | .pair a b, x => explode a x.1 ++ explode b x.2
  | .unit, _ => []
  | .int k, x => [.dat (.int k) x]
  | .bool, x => [.dat .bool x]
  | .str, x => [.dat .str x]
  | .list t, x => [.dat (.list t) x]
  | .ptr t, x => [.dat (.ptr t) x]
def sub {α : Type} (l : List α) (off len : Int) : List α := (l.drop off.toNat).take len.toNat
def subDat (hp : Hp) (e : Ty) : SubC → Option (List e.den)
  | .dat t l => castTo (.list t) (.list e) l
  | .ref i => match hp i with
    | .arr t' l _ => castTo (.list t') (.list e) l
    | _ => Option.none
  | .part i t0 off len => match hp i with
    | .arr t' l _ => cond (decide (t0 = t')) (castTo (.list t') (.list e) (sub l off len)) Option.none
    | _ => Option.none
def tabDat (hp : Hp) (e : Ty) : List SubC → Option (List (List e.den))
  | [] => some []
  | s :: l => match subDat hp e s with
    | some x => match tabDat hp e l with
      | some y => some (x :: y)
      | Option.none => Option.none
    | Option.none => Option.none
def cellDat (hp : Hp) (t : Ty) : Cel → Option t.den
  | .dat t' x => castTo t' t x
  | .nil => match t with
    | .list _ => some []
    | _ => Option.none
  | .ref i => match hp i with
    | .arr t' l _ => castTo (.list t') t l
    | _ => Option.none
  | .part i t0 off len => match hp i with
    | .arr t' l _ => cond (decide (t0 = t')) (castTo (.list t') t (sub l off len)) Option.none
    | _ => Option.none
  | .tab l => match t with
    | .list (.list e) => tabDat hp e l
    | _ => Option.none
  | _ => Option.none
def one1 {α : Type} (o : Option α) (rest : List Cel) : Option (α × List Cel) := match o with
  | some x => some (x, rest)
  | Option.none => Option.none
def implode (hp : Hp) : (t : Ty) → List Cel → Option (t.den × List Cel)
  | .st t, cs => implode hp t cs
  | .pair a b, cs => match implode hp a cs with
    | some p => match implode hp b p.2 with
      | some q => some ((p.1, q.1), q.2)
      | Option.none => Option.none
    | Option.none => Option.none
  | .unit, cs => some ((), cs)
  | .int k, c :: cs => one1 (cellDat hp (.int k) c) cs
  | .bool, c :: cs => one1 (cellDat hp .bool c) cs
  | .str, c :: cs => one1 (cellDat hp .str c) cs
  | .list t, c :: cs => one1 (cellDat hp (.list t) c) cs
  | .ptr t, c :: cs => one1 (cellDat hp (.ptr t) c) cs
  | _, [] => Option.none
def cnt {α : Type} : List α → Nat
  | [] => 0
  | _ :: l => cnt l + 1
def AV.cells : AV → List Cel
  | .one c => [c]
  | .agg l => l
  | _ => []
def isSt : Ty → Bool
  | .st _ => true
  | _ => false
def datOf (hp : Hp) (t : Ty) (v : AV) : Option t.den :=
  match v with
  | .one c => cond (isSt t) Option.none (match implode hp t [c] with
    | some (x, []) => some x
    | _ => Option.none)
  | .agg l => cond (isSt t) (match implode hp t l with
    | some (x, []) => some x
    | _ => Option.none) Option.none
  | .at l => match t with
    | .ptr t => match implode hp t l with
      | some (x, []) => some x
      | _ => Option.none
    | _ => Option.none
  | _ => Option.none
def ofDat (t : Ty) (x : t.den) : AV := match t, x with
  | .st t, x => .agg (explode t x)
  | .ptr t, x => .at (explode t x)
  | t, x => .one (.dat t x)
def SubC.ids : SubC → List Nat
  | .ref i | .part i _ _ _ => [i]
  | _ => []
def subIds : List SubC → List Nat
  | [] => []
  | s :: l => s.ids ++ subIds l
def Cel.ids : Cel → List Nat
  | .tab l => subIds l
  | .ref i | .part i _ _ _ | .ptr i _ | .elt i _ _ _ | .mp i => [i]
  | _ => []
def idsOf : List Cel → List Nat
  | [] => []
  | c :: l => c.ids ++ idsOf l
def idsOfTup : List (Bool × List Cel) → List Nat
  | [] => []
  | c :: l => idsOf c.2 ++ idsOfTup l
def AV.ids : AV → List Nat
  | .one c => c.ids
  | .agg l => idsOf l
  | .tup l => idsOfTup l
  | .at l => idsOf l
def Cel.known : Cel → Bool
  | .u => false
  | _ => true
def knownL : List Cel → Bool
  | [] => true
  | c :: l => c.known && knownL l
def AV.known : AV → Bool
  | .one c => c.known
  | .agg l => knownL l
  | _ => false
def frozenUpd (hp : Hp) : List Nat → List (Nat × Blk)
  | [] => []
  | i :: l => match hp i with
    | .arr t x _ => (i, .arr t x 0) :: frozenUpd hp l
    | _ => frozenUpd hp l
structure TI where
  ty : Ty
  eb : Nat
  flds : List (Nat × Ty)
  eq : Bool
  on : Bool
  deriving Inhabited
def chkL (T : Nat → TI) (t : Nat) (e : Ty) : Bool := (T t).on && decide ((T t).ty = .list e)
def chkT (T : Nat → TI) (t : Nat) (e : Ty) : Bool := (T t).on && decide ((T t).ty = e)
inductive PSh where
  | dat (t : Ty)
  | view (t : Ty)
  | lent (t : Ty)
  | fn (f : FuncId) (caps : List Ty)
  | nil
def denTs : List Ty → Type
  | [] => Unit
  | [t] => t.den
  | t :: l => t.den × denTs l
@[reducible] def PSh.den : PSh → Type
  | .dat t => t.den
  | .view t => List t.den
  | .lent t => List t.den
  | .fn _ caps => denTs caps
  | .nil => Unit
@[reducible] def denA : List PSh → Type
  | [] => Unit
  | [p] => p.den
  | p :: q :: l => p.den × denA (q :: l)
inductive RSh where
  | dat (t : Ty)
  | own (t : Ty)
  | cut (p : Nat) (t : Ty)
  | fin (p : Nat) (t : Ty)
@[reducible] def RSh.den : RSh → Type
  | .dat t => t.den
  | .own t => List t.den
  | .cut .. => Int × Int
  | .fin _ t => List t.den
@[reducible] def denB : List RSh → Type
  | [] => Unit
  | [p] => p.den
  | p :: q :: l => p.den × denB (q :: l)
structure Entry where
  f : FuncId
  A : List PSh
  B : List RSh
  run : denA A → Option (denB B)
inductive Res where
  | no
  | eff (ok : Bool) (v : AV) (u : List (Nat × Blk))
  | call (E : Entry) (x : denA E.A) (post : denB E.B → AV × List (Nat × Blk))
def i64v (n : Int) : AV := .one (.dat (.int .i64) n)
def boolv (b : Bool) : AV := .one (.dat .bool b)
def inR (i n : Int) : Bool := decide (0 ≤ i) && decide (i < n)
def nth (t : Ty) (l : List t.den) (i : Int) : t.den := l.getD i.toNat t.dflt
def bitsOp (op : BinOp) (k : IntKind) (x y : Int) : Int :=
  k.wrap (match op with
    | .and => BitVec.ofInt k.bits x &&& BitVec.ofInt k.bits y
    | .or => BitVec.ofInt k.bits x ||| BitVec.ofInt k.bits y
    | .xor => BitVec.ofInt k.bits x ^^^ BitVec.ofInt k.bits y
    | _ => BitVec.ofInt k.bits x &&& ~~~BitVec.ofInt k.bits y : BitVec k.bits).toNat
def shlI (k : IntKind) (x y : Int) : Int := k.wrap (x * 2 ^ (min y.toNat k.bits))
def shrI (k : IntKind) (x y : Int) : Int := x.fdiv (2 ^ (min y.toNat k.bits))
def binI (op : BinOp) (k : IntKind) (a b : Int) : Res :=
  match op with
  | .add => .eff true (.one (.dat (.int k) (k.wrap (a + b)))) []
  | .sub => .eff true (.one (.dat (.int k) (k.wrap (a - b)))) []
  | .mul => .eff true (.one (.dat (.int k) (k.wrap (a * b)))) []
  | .quo => .eff (!decide (b = 0)) (.one (.dat (.int k) (k.wrap (a.tdiv b)))) []
  | .rem => .eff (!decide (b = 0)) (.one (.dat (.int k) (a.tmod b))) []
  | .and => .eff true (.one (.dat (.int k) (bitsOp .and k a b))) []
  | .or => .eff true (.one (.dat (.int k) (bitsOp .or k a b))) []
  | .xor => .eff true (.one (.dat (.int k) (bitsOp .xor k a b))) []
  | .andNot => .eff true (.one (.dat (.int k) (bitsOp .andNot k a b))) []
  | .eql => .eff true (boolv (a == b)) []
  | .neq => .eff true (boolv (a != b)) []
  | .lss => .eff true (boolv (decide (a < b))) []
  | .leq => .eff true (boolv (decide (a ≤ b))) []
  | .gtr => .eff true (boolv (decide (b < a))) []
  | .geq => .eff true (boolv (decide (b ≤ a))) []
  | _ => .no
def fitsB (n b : Nat) : Bool := Nat.ble ((n + n / 4 + 192) * b) 281474976710656
def strOp (op : BinOp) (x y : ByteArray) : Res :=
  match op with
  | .add => .eff (Nat.ble (x.size + y.size) 9223372036854775807) (.one (.dat .str (x ++ y))) []
  | .eql => .eff true (boolv (x.toList == y.toList)) []
  | .neq => .eff true (boolv (!(x.toList == y.toList))) []
  | .lss => .eff true (boolv (Op.bytesLess x.toList y.toList)) []
  | .leq => .eff true (boolv (Op.bytesLess x.toList y.toList || x.toList == y.toList)) []
  | .gtr => .eff true (boolv (!(Op.bytesLess x.toList y.toList || x.toList == y.toList))) []
  | .geq => .eff true (boolv (!Op.bytesLess x.toList y.toList)) []
  | _ => .no
def eqCel : Cel → Cel → Option Bool
  | .dat (.int k) a, .dat (.int k') b => cond (decide (k = k')) (some (a == b)) Option.none
  | _, _ => Option.none
def eqCels : List Cel → List Cel → Option Bool
  | [], [] => some true
  | a :: l, b :: m => match eqCel a b with
    | some x => match eqCels l m with
      | some y => some (x && y)
      | Option.none => Option.none
    | Option.none => Option.none
  | _, _ => Option.none
def binA (T : Nat → TI) (t : Nat) (op : BinOp) (x y : AV) : Res :=
  match x, y with
  | .one (.dat (.int k) a), .one (.dat (.int k') b) =>
    match op with
    | .shl => .eff (decide (0 ≤ b)) (.one (.dat (.int k) (shlI k a b))) []
    | .shr => .eff (decide (0 ≤ b)) (.one (.dat (.int k) (shrI k a b))) []
    | _ => cond (decide (k = k')) (binI op k a b) .no
  | .one (.dat .bool a), .one (.dat .bool b) => cond (chkT T t .bool) (match op with
    | .eql => .eff true (boolv (a == b)) []
    | .neq => .eff true (boolv (!(a == b))) []
    | _ => .no) .no
  | .one (.dat .str a), .one (.dat .str b) => strOp op a b
  | .agg l, .agg m => cond ((T t).on && (T t).eq && Nat.beq (cnt l) (T t).ty.size && Nat.beq (cnt m) (T t).ty.size) (match eqCels l m with
    | some b => match op with
      | .eql => .eff true (boolv b) []
      | .neq => .eff true (boolv (!b)) []
      | _ => .no
    | Option.none => .no) .no
  | _, _ => .no
def unA (op : UnOp) (x : AV) : Res :=
  match op, x with
  | .neg, .one (.dat (.int k) a) => .eff true (.one (.dat (.int k) (k.wrap (0 - a)))) []
  | .xor, .one (.dat (.int k) a) => .eff true (.one (.dat (.int k) (bitsOp .xor k (cond k.signed (-1) k.max) a))) []
  | .not, .one (.dat .bool b) => .eff true (boolv (!b)) []
  | _, _ => .no
def zeroCel : Ty → List Cel
  | .st t => zeroCel t
  | .pair a b => zeroCel a ++ zeroCel b
  | .unit => []
  | .int k => [.dat (.int k) (0 : Int)]
  | .bool => [.dat .bool false]
  | .str => [.dat .str ByteArray.empty]
  | .list _ => [.nil]
  | .ptr _ => [.u]
def putAt (l : List Cel) (off : Nat) (c : List Cel) : List Cel := l.take off ++ c ++ l.drop (off + cnt c)
def mkOf (t : Ty) (cs : List Cel) : AV := match t, cs with
  | .st _, cs => .agg cs
  | _, [c] => .one c
  | _, _ => .one .u
def listOf (hp : Hp) (t : Ty) : AV → Option (List t.den)
  | .one (.tab _) => Option.none
  | .one c => cellDat hp (.list t) c
  | _ => Option.none
def lenOf (T : Nat → TI) (t : Nat) (hp : Hp) : AV → Option Int
  | .one (.dat .str s) => cond (chkT T t .str) (some (s.size : Int)) Option.none
  | .one (.dat (.list e) l) => cond (chkL T t e) (some (l.length : Int)) Option.none
  | .one .nil => match (T t).on, (T t).ty with
    | true, .list _ => some 0
    | _, _ => Option.none
  | .one (.ref i) => match hp i with
    | .arr e l _ => cond (chkL T t e) (some (l.length : Int)) Option.none
    | _ => Option.none
  | .one (.part _ e _ n) => cond (chkL T t e) (some n) Option.none
  | _ => Option.none
def bestFrom (max : Bool) (k : IntKind) (a : Int) : List AV → Option Int
  | [] => some a
  | .one (.dat (.int k') b) :: l => cond (decide (k = k')) (bestFrom max k (cond max (if a < b then b else a) (if b < a then b else a)) l) Option.none
  | _ => Option.none
def bestOf (max : Bool) : List AV → Option (IntKind × Int)
  | .one (.dat (.int k) a) :: l => match bestFrom max k a l with
    | some n => some (k, n)
    | Option.none => Option.none
  | _ => Option.none
def elemTy : Ty → Ty
  | .list t => t
  | _ => .unit
def splice {α : Type} (l : List α) (off : Int) (m : List α) : List α := l.take off.toNat ++ m ++ l.drop (off.toNat + m.length)
def capsOf : (ts : List Ty) → List Dat → Option (denTs ts)
  | [], [] => some ()
  | [t], [d] => castTo d.t t d.x
  | t :: t' :: ts, d :: ds => match castTo d.t t d.x with
    | some x => match capsOf (t' :: ts) ds with
      | some y => some (x, y)
      | Option.none => Option.none
    | Option.none => Option.none
  | _, _ => Option.none
def argOf (hp : Hp) : (p : PSh) → AV → Option p.den
  | .dat t, v => datOf hp t v
  | .view t, v => match v with
    | .one (.ref i) => cellDat hp (.list t) (.ref i)
    | .one (.part i t' off len) => cellDat hp (.list t) (.part i t' off len)
    | _ => Option.none
  | .lent t, v => match v with
    | .one (.ref i) => match hp i with
      | .arr t' l o => cond (Nat.beq o 0) Option.none (castTo (.list t') (.list t) l)
      | _ => Option.none
    | .one (.part i t0 off len) => match hp i with
      | .arr t' l o => cond (Nat.beq o 0 || !decide (t0 = t')) Option.none (castTo (.list t') (.list t) (sub l off len))
      | _ => Option.none
    | _ => Option.none
  | .fn f ts, v => match v with
    | .one (.fn g ds) => cond (Nat.beq f g) (capsOf ts ds) Option.none
    | _ => Option.none
  | .nil, v => match v with
    | .one .nil => some ()
    | _ => Option.none
def argsOf (hp : Hp) : (A : List PSh) → List AV → Option (denA A)
  | [], [] => some ()
  | [p], [v] => argOf hp p v
  | p :: q :: A, v :: vs => match argOf hp p v with
    | some x => match argsOf hp (q :: A) vs with
      | some y => some (x, y)
      | Option.none => Option.none
    | Option.none => Option.none
  | _, _ => Option.none
def argUpd (hp : Hp) : List PSh → List AV → List (Nat × Blk)
  | .dat _ :: A, v :: vs => frozenUpd hp v.ids ++ argUpd hp A vs
  | .view _ :: A, v :: vs => frozenUpd hp v.ids ++ argUpd hp A vs
  | _ :: A, _ :: vs => argUpd hp A vs
  | _, _ => []
def lentIds : List PSh → List AV → List Nat
  | .lent _ :: A, v :: vs => v.ids ++ lentIds A vs
  | _ :: A, _ :: vs => lentIds A vs
  | _, _ => []
def takenIds : List PSh → List AV → List Nat
  | .dat _ :: A, v :: vs => v.ids ++ takenIds A vs
  | .view _ :: A, v :: vs => v.ids ++ takenIds A vs
  | _ :: A, _ :: vs => takenIds A vs
  | _, _ => []
def resVal (hp : Hp) (nd : Nat) (single : Bool) (vs : List AV) : (r : RSh) → r.den → List (Bool × List Cel)
  | .dat t, x => [(isSt t, explode t x)]
  | .own t, l => [(false, [cond single (.ref nd) (.dat (.list t) l)])]
  | .cut p t, n => [(false, [match vs.getD p (.one .u) with
    | .one (.ref i) => .part i t n.1 n.2
    | .one (.part i _ off _) => .part i t (off + n.1) n.2
    | _ => .u])]
  | .fin .., _ => []
def resUpd (hp : Hp) (nd : Nat) (single : Bool) (vs : List AV) : (r : RSh) → r.den → List (Nat × Blk)
  | .own t, l => cond single [(nd, .arr t l 2)] []
  | .fin p t, m => match vs.getD p (.one .u) with
    | .one (.ref i) => match hp i with
      | .arr _ _ o => [(i, .arr t m o)]
      | _ => []
    | .one (.part i _ off _) => match hp i with
      | .arr t' l o => match castTo (.list t) (.list t') m with
        | some m' => [(i, .arr t' (splice l off m') o)]
        | Option.none => []
      | _ => []
    | _ => []
  | _, _ => []
def resVals (hp : Hp) (nd : Nat) (single : Bool) (vs : List AV) : (B : List RSh) → denB B → List (Bool × List Cel)
  | [], _ => []
  | [r], y => resVal hp nd single vs r y
  | r :: q :: B, y => resVal hp nd single vs r y.1 ++ resVals hp nd single vs (q :: B) y.2
def resUpds (hp : Hp) (nd : Nat) (single : Bool) (vs : List AV) : (B : List RSh) → denB B → List (Nat × Blk)
  | [], _ => []
  | [r], y => resUpd hp nd single vs r y
  | r :: q :: B, y => resUpd hp nd single vs r y.1 ++ resUpds hp nd single vs (q :: B) y.2
def RSh.isVal : RSh → Bool
  | .fin .. => false
  | _ => true
def valOf : List (Bool × List Cel) → AV
  | [(true, cs)] => .agg cs
  | [(false, [c])] => .one c
  | l => .tup l
def oneVal (B : List RSh) : Bool := Nat.beq (cnt (B.filter RSh.isVal)) 1
def nodupB : List Nat → Bool
  | [] => true
  | i :: l => !(l.any (Nat.beq i)) && nodupB l
def handsOn (single : Bool) : List RSh → Bool
  | [] => false
  | .dat t :: B => hasList t || handsOn single B
  | .own t :: B => hasList t || !single || handsOn single B
  | .fin _ t :: B => hasList t || handsOn single B
  | _ :: B => handsOn single B
def callE (hp : Hp) (nd : Nat) (E : Entry) (vs : List AV) : Res :=
  match argsOf hp E.A vs with
  | some x =>
    cond (nodupB (lentIds E.A vs) && (lentIds E.A vs).all fun i => !(takenIds E.A vs).any (Nat.beq i))
      (.call E x fun y => (valOf (resVals hp nd (oneVal E.B) vs E.B y), cond (handsOn (oneVal E.B) E.B) (argUpd hp E.A vs) [] ++ resUpds hp nd (oneVal E.B) vs E.B y)) .no
  | Option.none => .no
def isSome' {α : Type} : Option α → Bool
  | some _ => true
  | Option.none => false
def callF (tab : List Entry) (hp : Hp) (nd : Nat) (f : FuncId) (vs : List AV) : Res :=
  match tab with
  | [] => .no
  | E :: tab => cond (Nat.beq E.f f && isSome' (argsOf hp E.A vs)) (callE hp nd E vs) (callF tab hp nd f vs)
def elemsOf (hp : Hp) (e : Ty) : Nat → List (Nat × AV) → Option (List e.den)
  | _, [] => some []
  | n, p :: l => cond (Nat.beq n p.1) (match datOf hp e p.2 with
    | some x => match elemsOf hp e (n + 1) l with
      | some y => some (x :: y)
      | Option.none => Option.none
    | Option.none => Option.none) Option.none
def idsOfs : List AV → List Nat
  | [] => []
  | v :: l => v.ids ++ idsOfs l
def buildCells (flds : List (Nat × Ty)) : List Cel → List (Nat × AV) → Option (List Cel)
  | cs, [] => some cs
  | cs, p :: l => match flds[p.1]? with
    | some f => cond (p.2.known && Nat.beq (cnt p.2.cells) f.2.size) (buildCells flds (putAt cs f.1 p.2.cells) l) Option.none
    | Option.none => Option.none
def bytesOf (s : ByteArray) : List Int := s.toList.map fun b => (b.toNat : Int)
def ofBytes (l : List Int) : ByteArray := ⟨(l.map fun n => UInt8.ofNat n.toNat).toArray⟩
def optI (v : Option AV) : Option (Option Int) := match v with
  | Option.none => some Option.none
  | some (.one (.dat (.int _) n)) => some (some n)
  | _ => Option.none
def sliceA (T : Nat → TI) (t0 : Nat) (hp : Hp) (x : AV) (lo hi : Option Int) : Res :=
  let l := lo.getD 0
  match x with
  | .one (.dat .str s) =>
    let h := hi.getD (s.size : Int)
    cond (chkT T t0 .str) (.eff (decide (0 ≤ l) && decide (l ≤ h) && decide (h ≤ (s.size : Int))) (.one (.dat .str (s.extract l.toNat h.toNat))) []) .no
  | .one (.dat (.list t) xs) =>
    let h := hi.getD (xs.length : Int)
    cond (chkL T t0 t) (.eff (decide (0 ≤ l) && decide (l ≤ h) && decide (h ≤ (xs.length : Int))) (.one (.dat (.list t) (sub xs l (h - l)))) []) .no
  | .one (.ref i) => match hp i with
    | .arr t xs _ =>
      let h := hi.getD (xs.length : Int)
      cond (chkL T t0 t) (.eff (decide (0 ≤ l) && decide (l ≤ h) && decide (h ≤ (xs.length : Int))) (.one (.part i t l (h - l))) []) .no
    | _ => .no
  | .one (.part i t off n) =>
    let h := hi.getD n
    cond (chkL T t0 t) (.eff (decide (0 ≤ l) && decide (l ≤ h) && decide (h ≤ n)) (.one (.part i t (off + l) (h - l))) []) .no
  | .one .nil =>
    let h := hi.getD 0
    cond (chkL T t0 (elemTy (T t0).ty)) (.eff (decide (0 ≤ l) && decide (l ≤ h) && decide (h ≤ 0)) (.one .nil) []) .no
  | _ => .no
def appendL (e : Ty) (hp : Hp) (nd : Nat) (eb : Nat) (q : Bool) (x : AV) (m : List e.den) : Res :=
  match x with
  | .one .nil => .eff (q && fitsB m.length eb) (.one (.ref nd)) [(nd, .arr e m 2)]
  | .one (.ref i) => match hp i with
    | .arr t' l o => cond (Nat.beq o 2) (match castTo (.list t') (.list e) l with
      | some l => .eff (q && fitsB (l.length + m.length) eb) (.one (.ref nd)) [(i, .dead), (nd, .arr e (l ++ m) 2)]
      | Option.none => .no) .no
    | _ => .no
  | _ => .no
def appendA (hp : Hp) (nd : Nat) (t : TI) (x y : AV) : Res :=
  match listOf hp (elemTy t.ty) y with
  | Option.none => .no
  | some m => appendL (elemTy t.ty) hp nd t.eb true x m
def appendZ (hp : Hp) (nd : Nat) (t : TI) (x y : AV) : Res :=
  match y with
  | .one (.dat (.int .i64) n) => appendL (elemTy t.ty) hp nd t.eb (decide (0 ≤ n)) x (List.replicate n.toNat (elemTy t.ty).dflt)
  | _ => .no
def builtinA (T : TypeId → TI) (hp : Hp) (nd : Nat) (b : Builtin) (ats : List TypeId) (vs : List AV) : Res :=
  match b with
  | .len => match ats, vs with
    | [t], [v] => match lenOf T t hp v with
      | some n => .eff true (i64v n) []
      | Option.none => .no
    | _, _ => .no
  | .max => match bestOf true vs with
    | some p => .eff true (.one (.dat (.int p.1) p.2)) []
    | Option.none => .no
  | .min => match bestOf false vs with
    | some p => .eff true (.one (.dat (.int p.1) p.2)) []
    | Option.none => .no
  | .append => match ats, vs with
    | [t, t'], [x, y] => cond (chkL T t (elemTy (T t).ty)) (cond (chkL T t' (elemTy (T t).ty)) (appendA hp nd (T t) x y) (cond (chkT T t' (.int .i64) && noPtr (elemTy (T t).ty)) (appendZ hp nd (T t) x y) .no)) .no
    | _, _ => .no
  | .copy => match ats, vs with
    | [t, t'], [x, y] => cond (chkL T t (elemTy (T t).ty) && chkL T t' (elemTy (T t).ty)) (match listOf hp (elemTy (T t).ty) y with
      | Option.none => .no
      | some m => match x with
        | .one (.ref i) => match hp i with
          | .arr t' l o => cond (Nat.beq o 0) .no (match castTo (.list (elemTy (T t).ty)) (.list t') m with
            | some m => .eff true (i64v ((min m.length l.length : Nat) : Int)) [(i, .arr t' (splice l 0 (m.take l.length)) o)]
            | Option.none => .no)
          | _ => .no
        | .one (.part i t0 off n) => match hp i with
          | .arr t' l o => cond (Nat.beq o 0 || !decide (t0 = t')) .no (match castTo (.list (elemTy (T t).ty)) (.list t') m with
            | some m => .eff true (i64v ((min m.length n.toNat : Nat) : Int)) [(i, .arr t' (splice l off (m.take n.toNat)) o)]
            | Option.none => .no)
          | _ => .no
        | _ => .no) .no
    | _, _ => .no
  | .cap => match ats, vs with
    | [t], [.one .nil] => cond (chkL T t (elemTy (T t).ty)) (.eff true (i64v 0) []) .no
    | _, _ => .no
  | _ => .no
def partsOf (ρ : Operand → AV) (ps : List (Nat × Operand)) : List (Nat × AV) := ps.map fun p => (p.1, ρ p.2)
def flatD : List Cel → Option Dat
  | [] => some ⟨.unit, ()⟩
  | .dat t x :: l => match flatD l with
    | some d => some ⟨.pair t d.t, (x, d.x)⟩
    | Option.none => Option.none
  | _ => Option.none
def hasK (l : List Int) (n : Int) : Bool := l.any fun x => decide (x = n)
def addK (l : List Int) (n : Int) : List Int := cond (hasK l n) l (l ++ [n])
abbrev mpT : Ty := .ptr .unit
def subOf (e : Ty) : AV → Option SubC
  | .one (.dat (.list t) x) => cond (decide (t = e)) (some (.dat t x)) Option.none
  | .one .nil => some (.dat e [])
  | .one (.ref i) => some (.ref i)
  | .one (.part i t off n) => some (.part i t off n)
  | _ => Option.none
def subsOf (e : Ty) : Nat → List (Nat × AV) → Option (List SubC)
  | _, [] => some []
  | n, p :: l => cond (Nat.beq n p.1) (match subOf e p.2 with
    | some x => match subsOf e (n + 1) l with
      | some y => some (x :: y)
      | Option.none => Option.none
    | Option.none => Option.none) Option.none
def isRef : AV → Bool
  | .one (.ref _) | .one (.part ..) => true
  | _ => false
def tabbed (e : Ty) (l : List (Nat × AV)) : Bool := match e with
  | .list _ => l.any fun p => isRef p.2
  | _ => false
def opA (T : TypeId → TI) (tab : List Entry) (nd : Nat) (op : Op) (ρ : Operand → AV) (hp : Hp) : Res :=
  match op with
  | .move x | .assign x => .eff true (ρ x) []
  | .binOp op t x y _ => binA T t op (ρ x) (ρ y)
  | .unOp op _ x => unA op (ρ x)
  | .pick c a b => match ρ c with
    | .one (.dat .bool t) => .eff true (cond t (ρ a) (ρ b)) []
    | _ => .no
  | .convert s d x => cond ((T s).on && (T d).on) (match (T s).ty, (T d).ty, ρ x with
    | .int k', .int k, .one (.dat (.int k'') n) => cond (decide (k' = k'')) (.eff true (.one (.dat (.int k) (k.wrap n))) []) .no
    | .str, .list (.int .u8), .one (.dat .str s) => .eff (fitsB s.size 1) (.one (.ref nd)) [(nd, .arr (.int .u8) (bytesOf s) 2)]
    | .list (.int .u8), .str, v => match listOf hp (.int .u8) v with
      | some l => .eff true (.one (.dat .str (ofBytes l))) []
      | Option.none => .no
    | _, _, _ => .no) .no
  | .extract x i => match ρ x with
    | .tup l => match l[i]? with
      | some (true, cs) => .eff true (.agg cs) []
      | some (false, [c]) => .eff true (.one c) []
      | _ => .no
    | _ => .no
  | .field t x i => match ρ x, (T t).flds[i]? with
    | .agg cs, some f => cond ((T t).on && isSt (T t).ty && Nat.beq (cnt cs) (T t).ty.size) (.eff true (mkOf f.2 ((cs.drop f.1).take f.2.size)) []) .no
    | _, _ => .no
  | .index t x i => match ρ x, ρ i with
    | .one (.dat .str s), .one (.dat (.int _) n) => cond (chkT T t .str) (.eff (inR n (s.size : Int)) (.one (.dat (.int .u8) (nth (.int .u8) (bytesOf s) n))) []) .no
    | _, _ => .no
  | .indexAddr xt x i => match ρ i with
    | .one (.dat (.int _) n) => match ρ x with
      | .one (.dat (.list t) l) => cond (chkL T xt t) (.eff (inR n (l.length : Int)) (.at (explode t (nth t l n))) []) .no
      | .one (.ref j) => match hp j with
        | .arr t l _ => cond (chkL T xt t) (.eff (inR n (l.length : Int)) (.one (.elt j t n 0)) []) .no
        | _ => .no
      | .one (.part j t off len) => cond (chkL T xt t) (.eff (inR n len) (.one (.elt j t (off + n) 0)) []) .no
      | _ => .no
    | _ => .no
  | .fieldAddr t x i => match (T t).flds[i]? with
    | some f => cond ((T t).on && isSt (T t).ty) (match ρ x with
      | .one (.ptr j off) => .eff true (.one (.ptr j (off + f.1))) []
      | .at cs => cond (Nat.ble f.1 (cnt cs)) (.eff true (.at (cs.drop f.1)) []) .no
      | .one (.elt j e n off) => .eff true (.one (.elt j e n (off + f.1))) []
      | _ => .no) .no
    | Option.none => .no
  | .load t x => cond (T t).on (match ρ x with
    | .one (.ptr j off) => match hp j with
      | .box cs => cond (Nat.ble (off + (T t).ty.size) (cnt cs)) (.eff true (mkOf (T t).ty ((cs.drop off).take (T t).ty.size)) []) .no
      | _ => .no
    | .at cs => cond (Nat.ble (T t).ty.size (cnt cs)) (.eff true (mkOf (T t).ty (cs.take (T t).ty.size)) []) .no
    | .one (.elt j e' n off) => match hp j with
      | .arr e l _ => cond (decide (e = e') && Nat.ble (off + (T t).ty.size) e.size) (.eff true (mkOf (T t).ty (((explode e (nth e l n)).drop off).take (T t).ty.size)) []) .no
      | _ => .no
    | _ => .no) .no
  | .store t x y => cond ((T t).on && (ρ y).known && Nat.beq (cnt (ρ y).cells) (T t).ty.size) (match ρ x with
    | .one (.ptr j off) => match hp j with
      | .box cs => cond (Nat.ble (off + cnt (ρ y).cells) (cnt cs)) (.eff true (.tup []) [(j, .box (putAt cs off (ρ y).cells))]) .no
      | _ => .no
    | .one (.elt j e' n off) => match hp j with
      | .arr e l o => cond (Nat.beq o 0 || !decide (e = e') || (ρ y).ids.any (Nat.beq j) || !Nat.ble (off + cnt (ρ y).cells) e.size) .no (match implode hp e (putAt (explode e (nth e l n)) off (ρ y).cells) with
        | some (x', []) => .eff true (.tup []) (frozenUpd hp (ρ y).ids ++ [(j, .arr e (l.set n.toNat x') o)])
        | _ => .no)
      | _ => .no
    | _ => .no) .no
  | .nilCheck x => match ρ x with
    | .one (.ptr j off) => .eff true (.one (.ptr j off)) []
    | .at cs => .eff true (.at cs) []
    | .one (.elt j e n off) => .eff true (.one (.elt j e n off)) []
    | _ => .no
  | .alloc t => cond (T t).on (.eff true (.one (.ptr nd 0)) [(nd, .box (zeroCel (T t).ty))]) .no
  | .box t x => cond ((T t).on && (ρ x).known && Nat.beq (cnt (ρ x).cells) (T t).ty.size) (.eff true (.one (.ptr nd 0)) [(nd, .box (ρ x).cells)]) .no
  | .build t ps => cond ((T t).on && isSt (T t).ty) (match buildCells (T t).flds (zeroCel (T t).ty) (partsOf ρ ps.toList) with
    | some cs => .eff true (.agg cs) []
    | Option.none => .no) .no
  | .buildSlice t n ps => cond (chkL T t (elemTy (T t).ty)) (cond (tabbed (elemTy (T t).ty) (partsOf ρ ps.toList)) (match subsOf (elemTy (elemTy (T t).ty)) 0 (partsOf ρ ps.toList) with
    | some l => cond (Nat.beq (cnt ps.toList) n && Nat.ble n 16777216) (.eff true (.one (.tab l)) []) .no
    | Option.none => .no) (match elemsOf hp (elemTy (T t).ty) 0 (partsOf ρ ps.toList) with
    | some l => cond (Nat.beq (cnt ps.toList) n && Nat.ble (n * (elemTy (T t).ty).size) 16777216) (.eff true (.one (.ref nd)) (frozenUpd hp (idsOfs ((partsOf ρ ps.toList).map (·.2))) ++ [(nd, .arr (elemTy (T t).ty) l 2)])) .no
    | Option.none => .no)) .no
  | .makeSlice t x y => match ρ x, ρ y with
    | .one (.dat (.int .i64) n), .one (.dat (.int .i64) c) => cond (chkL T t (elemTy (T t).ty) && noPtr (elemTy (T t).ty))
      (.eff (decide (0 ≤ n) && decide (n ≤ c) && fitsB c.toNat (T t).eb) (.one (.ref nd)) [(nd, .arr (elemTy (T t).ty) (List.replicate n.toNat (elemTy (T t).ty).dflt) 2)]) .no
    | _, _ => .no
  | .makeMap t Option.none => cond (chkT T t mpT) (.eff true (.one (.mp nd)) [(nd, .mp [])]) .no
  | .lookup t x y false => match ρ x, ρ y with
    | .one (.mp i), .one (.dat (.int .i64) n) => match hp i with
      | .mp l => cond (chkT T t mpT) (.eff true (boolv (hasK l n)) []) .no
      | _ => .no
    | _, _ => .no
  | .mapUpdate t x y z => match ρ x, ρ y, ρ z with
    | .one (.mp i), .one (.dat (.int .i64) n), .one (.dat .bool true) => match hp i with
      | .mp l => cond (chkT T t mpT) (.eff true (.tup []) [(i, .mp (addK l n))]) .no
      | _ => .no
    | _, _, _ => .no
  | .makeFunc (.func f) fst caps => cond (Nat.beq fst.size 0) (match elemsF hp (caps.toList.map ρ) with
    | some p => cond (nodupB (p.2.map (·.1))) (.eff true (.one (.fn f p.1)) p.2) .no
    | Option.none => .no) .no
  | .slice t x lo hi Option.none => match optI (lo.map ρ), optI (hi.map ρ) with
    | some a, some b => sliceA T t hp (ρ x) a b
    | _, _ => .no
  | .call c => match c.callee with
    | .builtin b => builtinA T hp nd b c.argTypes.toList (c.args.toList.map ρ)
    | .value f => match ρ f with
      | .one (.fn g ds) => callF tab hp nd g (c.args.toList.map ρ ++ ds.map fun d => ofDat d.t d.x)
      | _ => .no
    | _ => .no
  | _ => .no
where
  elemsF (hp : Hp) : List AV → Option (List Dat × List (Nat × Blk))
    | [] => some ([], [])
    | v :: l => match v with
      | .one (.dat t x) => cond (isSt t) Option.none ((elemsF hp l).map fun p => (⟨t, x⟩ :: p.1, p.2))
      | .one (.ptr j 0) => match hp j with
        | .box cs => match flatD cs with
          | some d => (elemsF hp l).map fun p => (⟨.ptr d.t, d.x⟩ :: p.1, (j, .dead) :: p.2)
          | Option.none => Option.none
        | _ => Option.none
      | _ => Option.none
def constA : Value → AV
  | .int k n => .one (.dat (.int k) n)
  | .bool b => .one (.dat .bool b)
  | .string s => .one (.dat .str s)
  | .slice Option.none 0 0 => .one .nil
  | _ => .one .u
def opnd (fr : Nat → AV) : Operand → AV
  | .tmp t => fr t
  | .const v => constA v
  | .func f => .one (.fn f [])
  | .global _ => .one .u
def usedIds (fr : Nat → AV) : List Operand → List Nat
  | [] => []
  | x :: l => (opnd fr x).ids ++ usedIds fr l
def restr (hp : Hp) (ids : List Nat) : Hp := fun i => cond (ids.any (Nat.beq i)) (hp i) .none
def freeAt (hp : Hp) (nd : Nat) : Bool := match hp nd with
  | .none => true
  | _ => false
end Go.Ev
namespace Go.Ev
open Go
def St.put (S : St) (d : Option Tmp) (v : AV) (u : List (Nat × Blk)) : St :=
  { fr := match d with
      | some d => upd S.fr d v
      | none => S.fr,
    hp := updAll S.hp u }
structure Foot where
  use : List Nat
  wr : List Nat
def meets (l m : List Nat) : Bool := l.any fun i => m.any (Nat.beq i)
def free (anc : Nat) (use wr : List Nat) : Nat → List Foot → Bool
  | _, [] => true
  | i, f :: l => (anc.testBit i || !(meets f.wr use || meets wr f.use || meets f.wr wr)) && free anc use wr (i + 1) l
def setB (S : St) (t : Tmp) (b : Bool) : St := { S with fr := upd S.fr t (boolv b) }
def branch {R : Type} (t : Tmp) (S : St) (K : St → Option R) : Option R :=
  match S.fr t with
  | .one (.dat .bool b) => cond b (K (setB S t true)) (K (setB S t false))
  | _ => K S
def branchO {R : Type} (x : Operand) (S : St) (K : St → Option R) : Option R :=
  match x with
  | .tmp t => branch t S K
  | _ => K S
def decides (op : Op) : Option Operand := match op with
  | .pick c _ _ => some c
  | _ => none
def branchP {R : Type} (op : Op) (S : St) (K : St → Option R) : Option R :=
  match decides op with
  | some x => branchO x S K
  | none => K S
def dstOf (ops : List Oper) (j : Nat) : Option Tmp := match ops[j]? with
  | some o => o.dst
  | none => none
inductive Want where
  | yes | no | open_
def wantOf (fr : Nat → AV) (ops : List Oper) (o : Oper) : Want :=
  match o.guard with
  | none => .yes
  | some (j, want) => match dstOf ops j with
    | some t => match fr t with
      | .one (.dat .bool b) => cond (b == want) .yes .no
      | .tup [] => .no
      | _ => .open_
    | none => .open_
def branchG {R : Type} (ops : List Oper) (o : Oper) (S : St) (K : St → Option R) : Option R :=
  match o.guard with
  | none => K S
  | some (j, _) => match dstOf ops j with
    | some t => branch t S K
    | none => K S
variable (T : TypeId → TI) (tab : List Entry) (n : Nat)
def newId (n : Nat) (o : Oper) : Nat := match o.dst with
  | some d => n + d
  | none => n + n
def blind : Op → Bool
  | .move _ | .assign _ | .pick .. | .extract .. | .fieldAddr .. | .field .. | .nilCheck _ | .build .. => true
  | _ => false
def useOf (n : Nat) (S : St) (o : Oper) : List Nat := newId n o :: _root_.cond (blind o.op) [] (usedIds S.fr o.op.operands.toList)
def opR (S : St) (o : Oper) : Res := opA T tab (newId n o) o.op (opnd S.fr) (restr S.hp (useOf n S o))
def dstIn (n : Nat) (o : Oper) : Bool := match o.dst with
  | some d => Nat.blt d n
  | none => true
def lentStay (hp : Hp) : List (Nat × Blk) → Bool
  | [] => true
  | p :: l => (match hp p.1 with
    | .arr _ _ 1 => (match p.2 with
      | .arr _ _ 1 => true
      | _ => false)
    | _ => true) && lentStay hp l
def goOn {R : Type} (dr : Bool) (anc : Nat) (done : List Foot) (n : Nat) (S : St) (o : Oper) (v : AV) (u : List (Nat × Blk)) (K : List Foot → St → Option R) : Option R :=
  cond (dstIn n o && lentStay S.hp u && (freeAt S.hp (newId n o) || !u.any fun p => Nat.beq p.1 (newId n o)))
    (cond dr
      (cond (free anc (useOf n S o) (u.map (·.1)) 0 done) (K (done ++ [⟨useOf n S o, u.map (·.1)⟩]) (S.put o.dst v u)) none)
      (K done (S.put o.dst v u)))
    none
def stepO {R : Type} (dr : Bool) (anc : Nat) (done : List Foot) (S : St) (o : Oper) (K : List Foot → St → Option R) : Option R :=
  match opR T tab n S o with
  | .no => none
  | .eff ok v u => cond ok (goOn dr anc done n S o v u K) none
  | .call E x post => (E.run x).bind fun y => goOn dr anc done n S o (post y).1 (post y).2 K
def evalOps {R : Type} (dr : Bool) (all : List Oper) : List Oper → List Nat → List Foot → St → (St → Option R) → Option R
  | [], _, _, S, K => K S
  | o :: l, ancs, done, S, K =>
    branchG all o S fun S =>
      match wantOf S.fr all o with
      | .yes => branchP o.op S fun S => stepO T tab n dr (ancs.headD 0) done S o fun done S => evalOps dr all l ancs.tail done S K
      | .no => _root_.cond (dstIn n o) (evalOps dr all l ancs.tail (done ++ [⟨[], []⟩]) (S.put o.dst (.tup []) []) K) none
      | .open_ => none
def edgeBits (acc : List Nat) : List Edge → Nat
  | [] => 0
  | e :: l => cond (Region.binds .any e) (2 ^ e.on ||| acc.getD e.on 0 ||| edgeBits acc l) (edgeBits acc l)
def ancGo : List Oper → List Nat → List Nat
  | [], acc => acc
  | o :: l, acc => ancGo l (acc ++ [edgeBits acc o.after.toList])
def edgesOk : Nat → List Oper → Bool
  | _, [] => true
  | i, o :: l => (o.after.toList.all fun e => !Region.binds .any e || Nat.blt e.on i) && edgesOk (i + 1) l
def tmpsOf : List Operand → List Nat
  | [] => []
  | .tmp t :: l => t :: tmpsOf l
  | _ :: l => tmpsOf l
def looks (all : List Oper) (o : Oper) : List Nat :=
  tmpsOf o.op.operands.toList ++ (match o.guard with
    | some (j, _) => (dstOf all j).toList
    | none => [])
def slotsFree (all : List Oper) (anc : Nat) (o : Oper) : Nat → List Oper → Bool
  | _, [] => true
  | i, p :: l => (anc.testBit i || !(meets p.dst.toList (o.dst.toList ++ looks all o) || meets o.dst.toList (looks all p))) && slotsFree all anc o (i + 1) l
def slotsOk (all : List Oper) : List Oper → List Oper → List Nat → Bool
  | _, [], _ => true
  | before, o :: l, ancs => slotsFree all (ancs.headD 0) o 0 before && slotsOk all (before ++ [o]) l ancs.tail
def drawOk (ops : List Oper) : Bool := edgesOk 0 ops && slotsOk ops [] ops (ancGo ops [])
def evalRegion {R : Type} (dr : Bool) (ops : List Oper) (S : St) (K : St → Option R) : Option R :=
  cond dr (cond (drawOk ops) (evalOps T tab n true ops ops (ancGo ops []) [] S K) none) (evalOps T tab n false ops ops [] [] S K)
inductive EntD where
  | dat (s : Nat) (t : Ty)
  | own (s : Nat) (t : Ty)
  | blk (i : Nat) (t : Ty) (o : Nat)
  | part (s i : Nat) (t : Ty)
  | box (i : Nat) (ts : List Ty)
  | obox (s : Nat) (ts : List Ty)
  | mp (s : Nat)
  | fn (s : Nat) (f : FuncId) (ts : List Ty)
  | fbox (s : Nat) (ts : List Ty) (os : List Nat)
inductive EntP where
  | ptr (s i off : Nat)
  | ref (s i : Nat)
@[reducible] def EntD.den : EntD → Type
  | .dat _ t => t.den
  | .own _ t => List t.den
  | .blk _ t _ => List t.den
  | .part .. => Int × Int
  | .box _ ts => denTs ts
  | .obox _ ts => denTs ts
  | .mp _ => List Int
  | .fn _ _ ts => denTs ts
  | .fbox _ ts _ => denTs ts
@[reducible] def denM : List EntD → Type
  | [] => Unit
  | [e] => e.den
  | e :: f :: l => e.den × denM (f :: l)
structure Mrk where
  D : List EntD
  P : List EntP
@[reducible] def Mrk.den (M : Mrk) : Type := denM M.D
def implodeTs (hp : Hp) : (ts : List Ty) → List Cel → Option (denTs ts)
  | [], [] => some ()
  | [t], cs => match implode hp t cs with
    | some (x, []) => some x
    | _ => none
  | t :: t' :: ts, cs => match implode hp t cs with
    | some (x, cs') => match implodeTs hp (t' :: ts) cs' with
      | some y => some (x, y)
      | none => none
    | none => none
  | _, _ => none
def explodeTs : (ts : List Ty) → denTs ts → List Cel
  | [], _ => []
  | [t], x => explode t x
  | t :: t' :: ts, x => explode t x.1 ++ explodeTs (t' :: ts) x.2
def datsTs : (ts : List Ty) → denTs ts → List Dat
  | [], _ => []
  | [t], x => [⟨t, x⟩]
  | t :: t' :: ts, x => ⟨t, x.1⟩ :: datsTs (t' :: ts) x.2
def oid (s o : Nat) : Nat := s + 1000 * (o + 2)
def memB (o : Nat) (os : List Nat) : Bool := os.any (Nat.beq o)
def refO (s : Nat) (os : List Nat) : Nat → List Cel → List Cel
  | _, [] => []
  | k, c :: l => _root_.cond (memB k os) (.ref (oid s k)) c :: refO s os (k + 1) l
def blkO : Option Cel → Blk
  | some (.dat (.list t) l) => .arr t l 2
  | _ => .dead
def layO (hp : Hp) (s : Nat) (cs : List Cel) : List Nat → Hp
  | [] => hp
  | o :: os => upd (layO hp s cs os) (oid s o) (blkO cs[o]?)
def isNil {α : Type} : List α → Bool
  | [] => true
  | _ => false
def ownC (hp : Hp) : Option Cel → Option Cel → Bool
  | some .nil, some (.dat (.list t) l) => isNil (α := t.den) l
  | some (.ref i), some (.dat (.list t) _) => match hp i with
    | .arr t' _ q => Nat.beq q 2 && decide (t' = t)
    | _ => false
  | _, _ => false
def ownO (hp : Hp) (cs ds : List Cel) (os : List Nat) : Bool := os.all fun o => ownC hp cs[o]? ds[o]?
def cidO (cs : List Cel) : List Nat → List Nat
  | [] => []
  | o :: os => (match cs[o]? with
    | some c => c.ids
    | none => []) ++ cidO cs os
def restO (os : List Nat) : Nat → List Cel → List Nat
  | _, [] => []
  | k, c :: l => _root_.cond (memB k os) [] c.ids ++ restO os (k + 1) l
def boxOf (S : St) (s : Nat) : Option (Nat × List Cel) := match S.fr s with
  | .one (.ptr i off) => _root_.cond (Nat.beq off 0) (match S.hp i with
    | .box cs => some (i, cs)
    | _ => none) none
  | _ => none
def getD (S : St) : (e : EntD) → Option e.den
  | .fbox s ts os => match boxOf S s with
    | some p => match implodeTs S.hp ts p.2 with
      | some x => _root_.cond (ownO S.hp p.2 (explodeTs ts x) os) (some x) none
      | none => none
    | none => none
  | .dat s t => datOf S.hp t (S.fr s)
  | .own s t => match S.fr s with
    | .one .nil => some []
    | .one (.ref i) => match S.hp i with
      | .arr t' l o => cond (Nat.beq o 2) (castTo (.list t') (.list t) l) none
      | _ => none
    | .one (.part i t0 off len) => match S.hp i with
      | .arr t' l o => cond (Nat.beq o 2 && decide (t0 = t')) (castTo (.list t') (.list t) (sub l off len)) none
      | _ => none
    | _ => none
  | .blk i t o => match S.hp i with
    | .arr t' l o' => cond (Nat.beq o o') (castTo (.list t') (.list t) l) none
    | _ => none
  | .part s i t => match S.fr s with
    | .one (.ref j) => cond (Nat.beq i j) (match S.hp i with
      | .arr t' l _ => cond (decide (t = t')) (some (0, (l.length : Int))) none
      | _ => none) none
    | .one (.part j t' off len) => cond (Nat.beq i j && decide (t = t')) (some (off, len)) none
    | _ => none
  | .box i ts => match S.hp i with
    | .box cs => implodeTs S.hp ts cs
    | _ => none
  | .obox s ts => match S.fr s with
    | .one (.ptr i off) => cond (Nat.beq off 0) (match S.hp i with
      | .box cs => implodeTs S.hp ts cs
      | _ => none) none
    | _ => none
  | .mp s => match S.fr s with
    | .one (.mp i) => match S.hp i with
      | .mp l => some l
      | _ => none
    | _ => none
  | .fn s f ts => match S.fr s with
    | .one (.fn g ds) => cond (Nat.beq f g) (capsOf ts ds) none
    | _ => none
def getDs (S : St) : (l : List EntD) → Option (denM l)
  | [] => some ()
  | [e] => getD S e
  | e :: f :: l => match getD S e with
    | some x => match getDs S (f :: l) with
      | some y => some (x, y)
      | none => none
    | none => none
def getP (S : St) : List EntP → Bool
  | [] => true
  | .ptr s i off :: l => (match S.fr s with
    | .one (.ptr j off') => Nat.beq i j && Nat.beq off off'
    | _ => false) && getP S l
  | .ref s i :: l => (match S.fr s with
    | .one (.ref j) => Nat.beq i j
    | _ => false) && getP S l
def keptIds (S : St) : List EntD → List Nat
  | [] => []
  | .own s _ :: l => (S.fr s).ids ++ keptIds S l
  | .blk i _ _ :: l => i :: keptIds S l
  | .box i _ :: l => i :: keptIds S l
  | .obox s _ :: l => (S.fr s).ids ++ keptIds S l
  | .mp s :: l => (S.fr s).ids ++ keptIds S l
  | .fbox s _ os :: l => (match boxOf S s with
    | some p => p.1 :: cidO p.2 os
    | none => []) ++ keptIds S l
  | _ :: l => keptIds S l
def boxIds (hp : Hp) (v : AV) : List Nat := match v with
  | .one (.ptr i _) => match hp i with
    | .box cs => idsOf cs
    | _ => []
  | _ => []
def datIds (S : St) : List EntD → List Nat
  | [] => []
  | .dat s _ :: l => (S.fr s).ids ++ datIds S l
  | .box i _ :: l => (match S.hp i with
    | .box cs => idsOf cs
    | _ => []) ++ datIds S l
  | .obox s _ :: l => boxIds S.hp (S.fr s) ++ datIds S l
  | .fbox s _ os :: l => (match boxOf S s with
    | some p => restO os 0 p.2
    | none => []) ++ datIds S l
  | _ :: l => datIds S l
def madeIds : List EntD → List Nat
  | [] => []
  | .own s _ :: l => (s + 1000) :: madeIds l
  | .blk i _ _ :: l => i :: madeIds l
  | .box i _ :: l => i :: madeIds l
  | .obox s _ :: l => (s + 1000) :: madeIds l
  | .mp s :: l => (s + 1000) :: madeIds l
  | .fbox s _ os :: l => ((s + 1000) :: os.map (oid s)) ++ madeIds l
  | _ :: l => madeIds l
def staticOk (M : Mrk) : Bool :=
  nodupB (madeIds M.D) &&
  (M.D.all fun
    | .part _ i t => M.D.any fun
      | .blk j t' _ => Nat.beq i j && decide (t = t')
      | _ => false
    | _ => true) &&
  (M.P.all fun
    | .ptr _ i _ => M.D.any fun
      | .box j _ => Nat.beq i j
      | _ => false
    | .ref _ i => M.D.any fun
      | .blk j _ _ => Nat.beq i j
      | _ => false)
def noLent (hp : Hp) (l : List Nat) : Bool := l.all fun i => match hp i with
  | .arr _ _ 1 => false
  | _ => true
def getM (M : Mrk) (S : St) : Option M.den :=
  cond (staticOk M && getP S M.P && nodupB (keptIds S M.D) && !meets (keptIds S M.D) (datIds S M.D) && noLent S.hp (datIds S M.D)) (getDs S M.D) none
def mkD (S : St) : (e : EntD) → e.den → St
  | .dat s t, x => { S with fr := upd S.fr s (ofDat t x) }
  | .own s t, l => { fr := upd S.fr s (.one (.ref (s + 1000))), hp := upd S.hp (s + 1000) (.arr t l 2) }
  | .blk i t o, l => { S with hp := upd S.hp i (.arr t l o) }
  | .part s i t, p => { S with fr := upd S.fr s (.one (.part i t p.1 p.2)) }
  | .box i ts, x => { S with hp := upd S.hp i (.box (explodeTs ts x)) }
  | .obox s ts, x => { fr := upd S.fr s (.one (.ptr (s + 1000) 0)), hp := upd S.hp (s + 1000) (.box (explodeTs ts x)) }
  | .mp s, x => { fr := upd S.fr s (.one (.mp (s + 1000))), hp := upd S.hp (s + 1000) (.mp x) }
  | .fn s f ts, x => { S with fr := upd S.fr s (.one (.fn f (datsTs ts x))) }
  | .fbox s ts os, x => { fr := upd S.fr s (.one (.ptr (s + 1000) 0)), hp := upd (layO S.hp s (explodeTs ts x) os) (s + 1000) (.box (refO s os 0 (explodeTs ts x))) }
def mkDs (S : St) : (l : List EntD) → denM l → St
  | [], _ => S
  | [e], x => mkD S e x
  | e :: f :: l, x => mkDs (mkD S e x.1) (f :: l) x.2
def mkP (S : St) : List EntP → St
  | [] => S
  | .ptr s i off :: l => mkP { S with fr := upd S.fr s (.one (.ptr i off)) } l
  | .ref s i :: l => mkP { S with fr := upd S.fr s (.one (.ref i)) } l
def St.empty : St := { fr := fun _ => .one .u, hp := fun _ => .none }
def mkM (M : Mrk) (x : M.den) : St := mkP (mkDs St.empty M.D x) M.P
inductive Ann (R0 : Type) where
  | nil
  | seq (a b : Ann R0)
  | jseq (O : Mrk) (a b : Ann R0)
  | cond (a b : Ann R0)
  | block (a : Ann R0)
  | loop (M O : Mrk) (id : Nat) (run : M.den → Option (O.den ⊕ R0))
namespace Ann
variable {R0 : Type}
def fst : Ann R0 → Ann R0
  | .seq a _ | .cond a _ | .block a => a
  | _ => .nil
def snd : Ann R0 → Ann R0
  | .seq _ b | .cond _ b => b
  | _ => .nil
end Ann
def joinB {α R0 R : Type} (m : Option (α ⊕ R0)) (k : α → Option R) (kr : R0 → Option R) : Option R :=
  match m with
  | none => none
  | some (.inl x) => k x
  | some (.inr r) => kr r
variable {R0 : Type} (fin : St → Option R0)
def evalC : Code → {R : Type} → Ann R0 → (Exit → St → Option R) → (R0 → Option R) → St → Option R
  | .skip, _, _, K, _, S => K .normal S
  | .region _ ops dr, _, _, K, _, S => evalRegion T tab n dr ops.toList S (K .normal)
  | .seq x y, R, ann, K, KR, S =>
    match ann with
    | .jseq O a b => joinB (evalC x (R := O.den ⊕ R0) a (fun e S => match e with
        | .normal => match getM O S with
          | some z => some (.inl z)
          | none => none
        | _ => none) (fun r => some (.inr r)) S) (fun z => evalC y b K KR (mkM O z)) KR
    | ann => evalC x (R := R) ann.fst (fun e S => match e with
        | .normal => evalC y ann.snd K KR S
        | e => K e S) KR S
  | .cond c x y, _, ann, K, KR, S =>
    match c with
    | .tmp t => match S.fr t with
      | .one (.dat .bool b) => _root_.cond b (evalC x ann.fst K KR (setB S t true)) (evalC y ann.snd K KR (setB S t false))
      | _ => none
    | .const (.bool b) => _root_.cond b (evalC x ann.fst K KR S) (evalC y ann.snd K KR S)
    | _ => none
  | .block id x, _, ann, K, KR, S => evalC x ann.fst (fun e S => match e with
      | .exit i => _root_.cond (Nat.beq i id) (K .normal S) (K (.exit i) S)
      | e => K e S) KR S
  | .loop _, _, ann, K, KR, S =>
    match ann with
    | .loop M O id run => match getM M S with
      | some x => joinB (run x) (fun y => K (.exit id) (mkM O y)) KR
      | none => none
    | _ => none
  | .exit id, _, _, K, _, S => K (.exit id) S
  | .ret, _, _, _, KR, S => match fin S with
    | some r => KR r
    | none => none
  | _, _, _, _, _, _ => none
def evalRound (body : Code) (ann : Ann R0) (M O : Mrk) (id : Nat) (rec : M.den → Option (O.den ⊕ R0)) (x : M.den) : Option (O.den ⊕ R0) :=
  evalC T tab n fin body ann (fun e S => match e with
    | .normal => match getM M S with
      | some x => rec x
      | none => none
    | .exit i => _root_.cond (Nat.beq i id) (match getM O S with
      | some y => some (.inl y)
      | none => none) none
    | _ => none) (fun r => some (.inr r)) (mkM M x)
def finVal (S : St) : ResultVar → Option AV
  | .tmp t => some (S.fr t)
  | .cell a t => match S.fr a with
    | .one (.ptr i 0) => match S.hp i with
      | .box cs => _root_.cond ((T t).on && Nat.beq (cnt cs) (T t).ty.size) (some (mkOf (T t).ty cs)) none
      | _ => none
    | _ => none
def finVals (S : St) : List ResultVar → Option (List AV)
  | [] => some []
  | r :: l => match finVal T S r with
    | some v => match finVals S l with
      | some vs => some (v :: vs)
      | none => none
    | none => none
def finOne (S : St) : (r : RSh) → AV → Option r.den
  | .dat t, v => datOf S.hp t v
  | .own t, v => match v with
    | .one .nil => some []
    | .one (.ref i) => match S.hp i with
      | .arr t' l o => _root_.cond (Nat.beq o 2) (castTo (.list t') (.list t) l) none
      | _ => none
    | .one (.part i t0 off len) => match S.hp i with
      | .arr t' l o => _root_.cond (Nat.beq o 2 && decide (t0 = t')) (castTo (.list t') (.list t) (sub l off len)) none
      | _ => none
    | _ => none
  | .cut p t, v => match v with
    | .one (.ref i) => _root_.cond (Nat.beq i p) (match S.hp i with
      | .arr t' l _ => _root_.cond (decide (t' = t)) (some (0, (l.length : Int))) none
      | _ => none) none
    | .one (.part i t' off len) => _root_.cond (Nat.beq i p && decide (t' = t)) (match S.hp i with
      | .arr .. => some (off, len)
      | _ => none) none
    | _ => none
  | .fin p t, _ => match S.hp p with
    | .arr t' l o => _root_.cond (Nat.beq o 1) (castTo (.list t') (.list t) l) none
    | _ => none
def finB (S : St) : (B : List RSh) → List AV → Option (denB B)
  | [], [] => some ()
  | [], _ :: _ => none
  | [r], vs => match r, vs with
    | .fin p t, [] => finOne S (.fin p t) (.one .u)
    | .dat t, [v] => finOne S (.dat t) v
    | .own t, [v] => finOne S (.own t) v
    | .cut p t, [v] => finOne S (.cut p t) v
    | _, _ => none
  | r :: q :: B, vs => match (match r with
      | .fin p t => (finOne S (.fin p t) (.one .u) : Option (RSh.fin p t).den)
      | r => match vs with
        | v :: _ => finOne S r v
        | [] => none) with
    | some x => match finB S (q :: B) (_root_.cond r.isVal vs.tail vs) with
      | some y => some (x, y)
      | none => none
    | none => none
def finIds (single : Bool) : List RSh → List AV → List Nat
  | .fin .. :: B, vs => finIds single B vs
  | .dat _ :: B, v :: vs => v.ids ++ finIds single B vs
  | .own _ :: B, v :: vs => _root_.cond single [] v.ids ++ finIds single B vs
  | .cut .. :: B, _ :: vs => finIds single B vs
  | _, _ => []
def finOf (B : List RSh) (rs : List ResultVar) (S : St) : Option (denB B) :=
  match finVals T S rs with
  | some vs => _root_.cond (noLent S.hp (finIds (oneVal B) B vs)) (finB S B vs) none
  | none => none
def initA (fr : Nat → AV) (hp : Hp) (i : Nat) : (p : PSh) → p.den → St
  | .dat t, x => { fr := upd fr i (ofDat t x), hp }
  | .view t, l => { fr := upd fr i (.one (.ref i)), hp := upd hp i (.arr t l 0) }
  | .lent t, l => { fr := upd fr i (.one (.ref i)), hp := upd hp i (.arr t l 1) }
  | .fn f ts, x => { fr := upd fr i (.one (.fn f (datsTs ts x))), hp }
  | .nil, _ => { fr := upd fr i (.one .nil), hp }
def initAs : Nat → St → (A : List PSh) → denA A → St
  | _, S, [], _ => S
  | i, S, [p], x => initA S.fr S.hp i p x
  | i, S, p :: q :: A, x => initAs (i + 1) (initA S.fr S.hp i p x.1) (q :: A) x.2
def evalF (T : TypeId → TI) (tab : List Entry) (n : Nat) (c : Code) (rs : List ResultVar) (A : List PSh) (B : List RSh) (ann : Ann (denB B)) (x : denA A) : Option (denB B) :=
  evalC T tab n (finOf T B rs) c ann (fun e S => match e with
    | .normal => finOf T B rs S
    | _ => none) some (initAs 0 St.empty A x)
abbrev w64 (n : Int) : Int := IntKind.wrap .i64 n
abbrev wu64 (n : Int) : Int := IntKind.wrap .u64 n
abbrev wu32 (n : Int) : Int := IntKind.wrap .u32 n
abbrev wu8 (n : Int) : Int := IntKind.wrap .u8 n
abbrev rd (l : List Int) (i : Int) : Int := l.getD i.toNat 0
abbrev rdB (l : List Bool) (i : Int) : Bool := l.getD i.toNat false
abbrev mxI (a b : Int) : Int := if a < b then b else a
abbrev mnI (a b : Int) : Int := if b < a then b else a
def bodyOf (f : Func) : Code := match f.body with
  | some c => c
  | none => .skip
def cL : Code → Code
  | .seq a _ => a
  | .cond _ a _ => a
  | .block _ a => a
  | .loop a => a
  | .scope a => a
  | c => c
def cR : Code → Code
  | .seq _ b => b
  | .cond _ _ b => b
  | c => c
def cAt : List Nat → Code → Code
  | [], c => c
  | 0 :: l, c => cAt l (cL c)
  | _ :: l, c => cAt l (cR c)
def tiOf : List (Nat × TI) → Nat → TI
  | [], _ => default
  | p :: l, t => _root_.cond (Nat.beq p.1 t) p.2 (tiOf l t)
end Go.Ev

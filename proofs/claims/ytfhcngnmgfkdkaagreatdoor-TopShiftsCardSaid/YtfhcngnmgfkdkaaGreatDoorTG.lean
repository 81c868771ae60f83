/- A machine over symbolic values: what an operation, a region, a call does to a heap whose blocks stand under names. -/
import Derived.OrdersHeld
import Derived.Below
import Derived.Laws.CopyRow
import Derived.Laws.Cells
import Derived.Laws.World
import Derived.Recover
namespace Go.Proofs.YtfhcngnmgfkdkaaGreatDoor
namespace Sy

/-- A capacity: a number, or that of the row named 'id', less d. -/
inductive Cp where
  | lit (n : Nat)
  | of (id d : Nat)

/-- A value whose blocks stand under names. -/
inductive SV where
  | bo (x : Bool)
  | it (k : IntKind) (n : Int)
  | st (x : List UInt8)
  | p0
  | pt (id o : Nat)
  | s0
  | sl (id o n : Nat) (c : Cp)
  | m0
  | mm (id : Nat)
  | fu (g : FuncId) (x y : List SV)
  | nf
  | ni
  | ifc (t : TypeId) (v : SV)
  | ag (l : List SV)
  | tu (l : List SV)

/-- A tree of values under numbers. -/
inductive Tr (α : Type) where
  | lf
  | nd (l : Tr α) (v : Option α) (r : Tr α)

def Tr.get {α : Type} : Tr α → Nat → Option α
  | .lf, _ => none
  | .nd l v r, k =>
    match Nat.beq k 0 with
    | true => v
    | false => match Nat.beq (k % 2) 1 with
      | true => l.get (k / 2)
      | false => r.get (k / 2 - 1)

def Tr.set {α : Type} (x : α) : Nat → Tr α → Nat → Tr α
  | 0, t, _ => t
  | n + 1, .lf, k =>
    match Nat.beq k 0 with
    | true => .nd .lf (some x) .lf
    | false => match Nat.beq (k % 2) 1 with
      | true => .nd (Tr.set x n .lf (k / 2)) none .lf
      | false => .nd .lf none (Tr.set x n .lf (k / 2 - 1))
  | n + 1, .nd l v r, k =>
    match Nat.beq k 0 with
    | true => .nd l (some x) r
    | false => match Nat.beq (k % 2) 1 with
      | true => .nd (Tr.set x n l (k / 2)) v r
      | false => .nd l v (Tr.set x n r (k / 2 - 1))

def Tr.put {α : Type} (t : Tr α) (k : Nat) (x : α) : Tr α := Tr.set x 20 t k

/-- A block: cells (sp: the cells of an element, where the row was made by append, else 0; ro: never written), a map, or one that is no more. -/
inductive SB where
  | c (ro : Bool) (cs : List SV) (sp : Nat)
  | mp (es : List (SV × SV × Nat)) (ck : Nat)
  | dead

structure SH where
  h : Tr SB
  nx : Nat

structure SA where
  t : Tr SV
  n : Nat
  df : List (FuncId × List SV)

/-! ### equality, decided -/
def Cp.same : Cp → Cp → Bool
  | .lit a, .lit b => Nat.beq a b
  | .of a b, .of c d => Nat.beq a c && Nat.beq b d
  | _, _ => false
mutual
def SV.same : SV → SV → Bool
  | .bo x, .bo y => x == y
  | .it k n, .it j q => k == j && n == q
  | .st x, .st y => x == y
  | .p0, .p0 => true
  | .pt a b, .pt c d => Nat.beq a c && Nat.beq b d
  | .s0, .s0 => true
  | .sl a b n c, .sl a' b' n' c' => Nat.beq a a' && (Nat.beq b b' && (Nat.beq n n' && c.same c'))
  | .m0, .m0 => true
  | .mm a, .mm b => Nat.beq a b
  | .fu g x y, .fu h z u => Nat.beq g h && (SV.sameL x z && SV.sameL y u)
  | .nf, .nf => true
  | .ni, .ni => true
  | .ifc t v, .ifc u w => Nat.beq t u && SV.same v w
  | .ag x, .ag y => SV.sameL x y
  | .tu x, .tu y => SV.sameL x y
  | _, _ => false
def SV.sameL : List SV → List SV → Bool
  | [], [] => true
  | x :: l, y :: r => SV.same x y && SV.sameL l r
  | _, _ => false
end

/-! ### words -/
def mapO {α β : Type} (g : α → Option β) : List α → Option (List β)
  | [] => some []
  | x :: l => match g x with
    | none => none
    | some y => match mapO g l with
      | none => none
      | some r => some (y :: r)
def SV.one : SV → Bool
  | .ag _ | .tu _ => false
  | _ => true
def SV.cells : SV → List SV
  | .ag l => l
  | v => [v]
def ofC : Value → Option SV
  | .bool b => some (.bo b)
  | .int k n => some (.it k n)
  | .string s => some (.st s.data.toList)
  | .pointer none => some .p0
  | .slice none 0 0 => some .s0
  | .map none => some .m0
  | .nilFunc => some .nf
  | .nilIface => some .ni
  | _ => none
def ofV : Value → Option SV
  | .agg cs => match mapO ofC cs.toList with
    | some l => some (.ag l)
    | none => none
  | .tuple vs => match mapO ofC vs.toList with
    | some l => some (.tu l)
    | none => none
  | v => ofC v
def SA.ev (A : SA) : Operand → Option SV
  | .tmp t => A.t.get t
  | .const v => ofV v
  | .global g => match Nat.blt g 7 with
    | true => some (.pt g 0)
    | false => none
  | .func f => some (.fu f [] [])
def SA.put (A : SA) (d : Option Tmp) (v : SV) : Option SA :=
  match d with
  | none => some A
  | some d => match Nat.blt d A.n && Nat.blt d 1000000 with
    | true => some { A with t := A.t.put d v }
    | false => none
def sz (P : Program) (t : TypeId) : Option Nat := match P.info? t with
  | some i => some i.size
  | none => none
def zc (P : Program) (t : TypeId) : Option (List SV) := match P.info? t with
  | some i => match i.zero with
    | some z => match ofV z with
      | some v => some v.cells
      | none => none
    | none => none
  | none => none
def aggT (P : Program) (t : TypeId) : Option Bool := match P.underlying t with
  | some (.struct _) | some (.array _ _) => some true
  | some _ => some false
  | none => none
def need (b : Bool) {α : Type} (x : Option α) : Option α := match b with
  | true => x
  | false => none
/-- A part of cells. -/
def seg (cs : List SV) (o n : Nat) : Option (List SV) :=
  need (Nat.ble (o + n) cs.length) (some ((cs.drop o).take n))
def spl (cs : List SV) (o : Nat) (l : List SV) : List SV := cs.take o ++ l ++ cs.drop (o + l.length)
def partS (P : Program) (t : TypeId) (cs : List SV) (o : Nat) : Option SV :=
  match aggT P t with
  | some true => match sz P t with
    | some n => match seg cs o n with
      | some l => some (.ag l)
      | none => none
    | none => none
  | some false => cs[o]?
  | none => none
def natOf : Int → Option Nat
  | .ofNat n => some n
  | .negSucc _ => none

/-! ### operations that look at values alone -/
def iBin (op : BinOp) (k : IntKind) (x y : Int) : Option SV :=
  match op with
  | .add => some (.it k (k.wrap (x + y)))
  | .sub => some (.it k (k.wrap (x - y)))
  | .mul => some (.it k (k.wrap (x * y)))
  | .eql => some (.bo (x == y))
  | .neq => some (.bo (x != y))
  | .lss => some (.bo (x < y))
  | .leq => some (.bo (x ≤ y))
  | .gtr => some (.bo (x > y))
  | .geq => some (.bo (x ≥ y))
  | _ => none
def sBin (op : BinOp) (x y : List UInt8) : Option SV :=
  match op with
  | .eql => some (.bo (x == y))
  | .neq => some (.bo (!(x == y)))
  | _ => none
def slT (P : Program) (t : TypeId) : Bool := match P.underlying t with
  | some (.slice _) => true
  | _ => false
def sBinOp (P : Program) (t : TypeId) (op : BinOp) (x y : SV) : Option SV :=
  match x, y with
  | .s0, .s0 => need (slT P t) (match op with
    | .eql => some (.bo true)
    | .neq => some (.bo false)
    | _ => none)
  | .sl _ _ _ _, .s0 => need (slT P t) (match op with
    | .eql => some (.bo false)
    | .neq => some (.bo true)
    | _ => none)
  | .it k a, .it j b => need (k == j) (iBin op k a b)
  | .st a, .st b => sBin op a b
  | _, _ => none
def sUn (op : UnOp) (x : SV) : Option SV :=
  match op, x with
  | .not, .bo x => some (.bo (!x))
  | _, _ => none
def sConv (P : Program) (src dst : TypeId) (x : SV) : Option SV :=
  match P.underlying src, P.underlying dst, x with
  | some (.int _), some (.int k), .it _ n => some (.it k (k.wrap n))
  | some .string, some .string, .st x => some (.st x)
  | _, _, _ => none
def sFieldAddr (P : Program) (s : TypeId) (x : SV) (f : Nat) : Option SV :=
  match x with
  | .pt id o => match P.underlying s with
    | some (.struct fs) => match fs[f]? with
      | some g => match sz P g.type with
        | some (_ + 1) => some (.pt id (o + g.offset))
        | _ => none
      | none => none
    | _ => none
  | _ => none
def sField (P : Program) (s : TypeId) (x : SV) (f : Nat) : Option SV :=
  match x with
  | .ag cs => match P.underlying s with
    | some (.struct fs) => match fs[f]? with
      | some g => partS P g.type cs g.offset
      | none => none
    | _ => none
  | _ => none
def sIndexAddr (P : Program) (t : TypeId) (x ix : SV) : Option SV :=
  match ix with
  | .it _ q => match natOf q with
    | some q => match P.underlying t, x with
      | some (.array n e), .pt id o => match sz P e with
        | some z => need (Nat.blt q n) (some (.pt id (o + q * z)))
        | none => none
      | some (.slice e), .sl id o n _ => match sz P e with
        | some z => need (Nat.blt q n) (some (.pt id (o + q * z)))
        | none => none
      | _, _ => none
    | none => none
  | _ => none
def sIndex (P : Program) (t : TypeId) (x ix : SV) : Option SV :=
  match ix with
  | .it _ q => match natOf q with
    | some q => match P.underlying t, x with
      | some .string, .st l => match l[q]? with
        | some c => some (.it .u8 c.toNat)
        | none => none
      | _, _ => none
    | none => none
  | _ => none
/-- A bound that may be left out. -/
def bnd (A : SA) (d : Nat) : Option Operand → Option Nat
  | none => some d
  | some x => match A.ev x with
    | some (.it _ q) => natOf q
    | _ => none
def sSlice (P : Program) (A : SA) (t : TypeId) (x : SV) (lo hi mx : Option Operand) : Option SV :=
  match P.underlying t, x with
  | some .string, .st l => match mx, bnd A 0 lo, bnd A l.length hi with
    | none, some a, some h => need (Nat.ble a h && Nat.ble h l.length) (some (.st ((l.drop a).take (h - a))))
    | _, _, _ => none
  | some (.slice e), .s0 => match sz P e with
    | none => none
    | some _ => match mx, bnd A 0 lo, bnd A 0 hi with
      | none, some 0, some 0 => some .s0
      | _, _, _ => none
  | some (.slice e), .sl id o n c => match sz P e with
    | none => none
    | some z => match mx with
      | some _ => match hi, bnd A 0 lo, bnd A n hi, bnd A n mx with
        | some _, some a, some h, some m => need (Nat.ble a h && (Nat.ble h m && (Nat.ble m n && Nat.beq a 0))) (some (.sl id o (h - a) (.lit (m - a))))
        | _, _, _, _ => none
      | none => match bnd A 0 lo, bnd A n hi with
        | some a, some h => need (Nat.ble a h && Nat.ble h n) (match Nat.beq a 0 with
          | true => some (.sl id o h c)
          | false => need (Nat.blt a n) (match c with
            | .lit m => some (.sl id (o + a * z) (h - a) (.lit (m - a)))
            | .of q d => some (.sl id (o + a * z) (h - a) (.of q (d + a)))))
        | _, _ => none
  | _, _ => none
def sExtract (x : SV) (ix : Nat) : Option SV :=
  match x with
  | .tu l => l[ix]?
  | _ => none
/-- The parts of a struct or an array laid over its zero. -/
def fillS (place : Nat → Option (Nat × Nat)) (cells : List SV) : List (Nat × SV) → Option (List SV)
  | [] => some cells
  | (i, v) :: rest => match place i with
    | none => none
    | some (off, size) => need (Nat.beq v.cells.length size && Nat.ble (off + size) cells.length) (fillS place (spl cells off v.cells) rest)
def evP (A : SA) (x : Nat × Operand) : Option (Nat × SV) := match A.ev x.2 with
  | some v => some (x.1, v)
  | none => none
def placeS (P : Program) (fs : Array Field) (i : Nat) : Option (Nat × Nat) := match fs[i]? with
  | some f => match sz P f.type with
    | some z => some (f.offset, z)
    | none => none
  | none => none
def fieldsOk (P : Program) (fs : Array Field) : Bool := fs.toList.all fun f => (sz P f.type).isSome
def sBuild (P : Program) (A : SA) (t : TypeId) (parts : Array (Nat × Operand)) : Option SV :=
  match P.underlying t with
  | some (.struct fs) => match zc P t, mapO (evP A) parts.toList with
    | some z, some ps => need (fieldsOk P fs) (match fillS (placeS P fs) z ps with
      | some l => some (.ag l)
      | none => none)
    | _, _ => none
  | _ => none
def sLen (P : Program) (t : TypeId) (x : SV) : Option SV :=
  match P.underlying t, x with
  | some .string, .st l => some (.it .i64 l.length)
  | some (.slice _), .s0 => some (.it .i64 0)
  | some (.slice _), .sl _ _ n _ => some (.it .i64 n)
  | some (.array n _), _ => some (.it .i64 n)
  | _, _ => none
/-- The built-ins that look at values alone. -/
def sPure (P : Program) (A : SA) (b : Builtin) (args : List Operand) (ts : List TypeId) : Option SV :=
  match b with
  | .len => match args, ts with
    | [x], [t] => match A.ev x with
      | some x => sLen P t x
      | none => none
    | _, _ => none
  | .max => match args with
    | [x, y] => match A.ev x, A.ev y with
      | some (.it k a), some (.it _ b) => some (.it k (if b > a then b else a))
      | _, _ => none
    | _ => none
  | .min => match args with
    | [x, y] => match A.ev x, A.ev y with
      | some (.it k a), some (.it _ b) => some (.it k (if b < a then b else a))
      | _, _ => none
    | _ => none
  | _ => none
def opD (P : Program) (A : SA) (o : Oper) : Option SV :=
  match o.op with
  | .move x => A.ev x
  | .assign x => A.ev x
  | .pick c a b => match A.ev c with
    | some (.bo true) => A.ev a
    | some (.bo false) => A.ev b
    | _ => none
  | .build t parts => sBuild P A t parts
  | .nilCheck x => match A.ev x with
    | some (.pt id o) => some (.pt id o)
    | some (.fu g x y) => some (.fu g x y)
    | _ => none
  | .binOp op t x y _ => match A.ev x, A.ev y with
    | some x, some y => sBinOp P t op x y
    | _, _ => none
  | .unOp op _ x => match A.ev x with
    | some x => sUn op x
    | none => none
  | .convert src dst x => match A.ev x with
    | some x => sConv P src dst x
    | none => none
  | .fieldAddr s x f => match A.ev x with
    | some x => sFieldAddr P s x f
    | none => none
  | .field s x f => match A.ev x with
    | some x => sField P s x f
    | none => none
  | .indexAddr t x ix => match A.ev x, A.ev ix with
    | some x, some ix => sIndexAddr P t x ix
    | _, _ => none
  | .index t x ix => match A.ev x, A.ev ix with
    | some x, some ix => sIndex P t x ix
    | _, _ => none
  | .slice t x lo hi mx => match A.ev x with
    | some x => sSlice P A t x lo hi mx
    | none => none
  | .extract x ix => match A.ev x with
    | some x => sExtract x ix
    | none => none
  | .makeFunc (.func g) x y => match mapO A.ev x.toList, mapO A.ev y.toList with
    | some x, some y => some (.fu g x y)
    | _, _ => none
  | .call c => match c.callee with
    | .builtin b => sPure P A b c.args.toList c.argTypes.toList
    | _ => none
  | _ => none

/-! ### loads -/
/-- What a load reads: the block, where, the cells. -/
def opL (P : Program) (A : SA) (S : SH) (o : Oper) : Option (SV × Nat × Nat × List SV) :=
  match o.op with
  | .load t x => match A.ev x with
    | some (.pt id q) => match S.h.get id with
      | some (.c _ cs _) => match aggT P t with
        | some true => match sz P t with
          | some n => match seg cs q n with
            | some l => some (.ag l, id, q, l)
            | none => none
          | none => none
        | some false => match cs[q]? with
          | some v => some (v, id, q, [v])
          | none => none
        | none => none
      | _ => none
    | _ => none
  | _ => none

/-! ### operations that change the heap -/
inductive SN where
  | val (v : SV)
  | skip
  | call (f : FuncId) (args : List SV)
  | defer (f : FuncId) (args : List SV)
def SH.new (S : SH) (b : SB) : Option (Nat × SH) := need (Nat.blt S.nx 1000000 && Nat.ble 16 S.nx) (match S.h.get S.nx with
  | none => some (S.nx, { h := S.h.put S.nx b, nx := S.nx + 1 })
  | some _ => none)
def SH.upd (S : SH) (id : Nat) (b : SB) : SH := { S with h := S.h.put id b }
def sStore (P : Program) (S : SH) (t : TypeId) (x v : SV) : Option SH :=
  match x with
  | .pt id q => match S.h.get id with
    | some (.c false cs sp) => match sz P t with
      | some n => need (Nat.beq v.cells.length n && (Nat.ble (q + n) cs.length && (v.cells.all SV.one && Nat.blt id 1000000))) (some (S.upd id (.c false (spl cs q v.cells) sp)))
      | none => none
    | _ => none
  | _ => none
def sRow (S : SH) (cs : List SV) : Option (SV × SH) := need (cs.all SV.one) (match S.new (.c false cs 0) with
  | some (id, S') => some (.pt id 0, S')
  | none => none)
def rep (z : List SV) : Nat → List SV
  | 0 => []
  | n + 1 => z ++ rep z n
def elPlace (z i : Nat) : Option (Nat × Nat) := some (i * z, z)
def sBuildSlice (P : Program) (A : SA) (S : SH) (t : TypeId) (len : Nat) (parts : Array (Nat × Operand)) : Option (SV × SH) :=
  match P.underlying t with
  | some (.slice e) => match sz P e, zc P e, mapO (evP A) parts.toList with
    | some z, some zs, some ps => need (Nat.beq zs.length z && (Nat.blt len 1000 && (Nat.blt z 1000 && Nat.blt 0 z))) (match fillS (elPlace z) (rep zs len) ps with
      | some cs => need (cs.all SV.one) (match S.new (.c false cs 0) with
        | some (id, S') => some (.sl id 0 len (.lit len), S')
        | none => none)
      | none => none)
    | _, _, _ => none
  | _ => none
def sMakeSlice (P : Program) (S : SH) (t : TypeId) (len cap : SV) : Option (SV × SH) :=
  match P.underlying t, len, cap with
  | some (.slice e), .it _ n, .it _ c => match natOf n, natOf c, P.info? e with
    | some n, some c, some i => match zc P e with
      | some zs => need (Nat.beq n c && (Nat.blt n 1000 && (Nat.blt i.bytes 1000000 && Nat.beq zs.length i.size))) (need ((rep zs n).all SV.one) (match S.new (.c false (rep zs n) 0) with
        | some (id, S') => some (.sl id 0 n (.lit n), S')
        | none => none))
      | none => none
    | _, _, _ => none
  | _, _, _ => none
/-- The cells of the second argument of append. -/
def srcCells (S : SH) (z : Nat) : SV → Option (Nat × List SV)
  | .s0 => some (0, [])
  | .sl id o n _ => match Nat.beq n 0 with
    | true => some (0, [])
    | false => match S.h.get id with
      | some (.c _ cs _) => match seg cs o (n * z) with
        | some l => some (n, l)
        | none => none
      | _ => none
  | _ => none
def sAppend (P : Program) (S : SH) (t : TypeId) (x y : SV) : Option (SV × SH) :=
  match P.underlying t with
  | some (.slice e) => match P.info? e, zc P e with
    | some i, some zs => match srcCells S i.size y with
      | some (m, news) => need (Nat.beq zs.length i.size && (Nat.blt 0 i.size && (Nat.blt i.bytes 1000000 && (Nat.blt m 100 && (zs.all SV.one && news.all SV.one))))) (
        match Nat.beq m 0 with
        | true => match x with
          | .s0 => some (.s0, S)
          | .sl id o n c => some (.sl id o n c, S)
          | _ => none
        | false => match x with
          | .s0 => match S.new (.c false news i.size) with
            | some (id, S') => some (.sl id 0 m (.of id 0), S')
            | none => none
          | .sl _ _ n (.lit c) => match srcCells S i.size x with
            | some (_, olds) => need (Nat.blt c (n + m) && (Nat.blt (n + m) 100 && olds.all SV.one)) (match S.new (.c false (olds ++ news) i.size) with
              | some (id', S') => some (.sl id' 0 (n + m) (.of id' 0), S')
              | none => none)
            | none => none
          | .sl id o n (.of q d) => match S.h.get id with
            | some (.c false cs sp) => match seg cs 0 (n * i.size) with
              | some olds => need (Nat.beq o 0 && (Nat.beq q id && (Nat.beq d 0 && (Nat.beq sp i.size && (Nat.blt (n + m) 100 && (Nat.blt id 1000000 && olds.all SV.one)))))) (
                match (S.upd id .dead).new (.c false (olds ++ news) i.size) with
                | some (id', S') => some (.sl id' 0 (n + m) (.of id' 0), S')
                | none => none)
              | none => none
            | _ => none
          | _ => none)
      | none => none
    | _, _ => none
  | _ => none
/-- Maps whose keys are strings. -/
def findS (k : List UInt8) : List (SV × SV × Nat) → Nat → Option (Option (Nat × SV))
  | [], _ => some none
  | (.st x, v, _) :: es, i => match k == x with
    | true => some (some (i, v))
    | false => findS k es (i + 1)
  | _ :: _, _ => none
def sLookup (P : Program) (S : SH) (t : TypeId) (x k : SV) (ok : Bool) : Option SV :=
  match P.underlying t with
  | some (.map kt e) => match P.underlying kt, x, k with
    | some .string, .mm id, .st k => match S.h.get id with
      | some (.mp es _) => match findS k es 0 with
        | some (some (_, v)) => match ok with
          | true => some (.tu [v, .bo true])
          | false => some v
        | some none => match P.info? e with
          | some i => match i.zero with
            | some z => match ofV z with
              | some v => match ok with
                | true => some (.tu [v, .bo false])
                | false => some v
              | none => none
            | none => none
          | none => none
        | none => none
      | _ => none
    | _, _, _ => none
  | _ => none
def sMapUpdate (P : Program) (S : SH) (t : TypeId) (x k v : SV) : Option SH :=
  match P.underlying t with
  | some (.map kt _) => match P.underlying kt, x, k with
    | some .string, .mm id, .st k => match S.h.get id with
      | some (.mp es ck) => match findS k es 0 with
        | some none => need (Nat.blt id 1000000) (some (S.upd id (.mp (es ++ [(.st k, v, ck)]) (ck + 1))))
        | _ => none
      | _ => none
    | _, _, _ => none
  | _ => none
/-- internal/bytealg.IndexByteString. -/
def sIndexByte : List SV → Option SV
  | [.st l, .it .u8 c] => match (List.range l.length).find? fun i => (⟨l.toArray⟩ : ByteArray)[i]! == c.toNat.toUInt8 with
    | some i => some (.it .i64 i)
    | none => some (.it .i64 (-1))
  | _ => none
def opN (P : Program) (ib : FuncId) (A : SA) (S : SH) (o : Oper) : Option (SN × SH) :=
  let val (x : Option (SV × SH)) : Option (SN × SH) := match x with
    | some (v, S') => some (.val v, S')
    | none => none
  let skip (x : Option SH) : Option (SN × SH) := match x with
    | some S' => some (.skip, S')
    | none => none
  match o.op with
  | .alloc e => match zc P e with
    | some cs => val (sRow S cs)
    | none => none
  | .box _ x => match A.ev x with
    | some v => val (sRow S v.cells)
    | none => none
  | .store t x v => match A.ev x, A.ev v with
    | some x, some v => skip (sStore P S t x v)
    | _, _ => none
  | .buildSlice t n ps => val (sBuildSlice P A S t n ps)
  | .makeSlice t n c => match A.ev n, A.ev c with
    | some n, some c => val (sMakeSlice P S t n c)
    | _, _ => none
  | .makeMap _ none => val (match S.new (.mp [] 0) with
    | some (id, S') => some (.mm id, S')
    | none => none)
  | .lookup t x k ok => match A.ev x, A.ev k with
    | some x, some k => match sLookup P S t x k ok with
      | some v => some (.val v, S)
      | none => none
    | _, _ => none
  | .mapUpdate t m k v => match A.ev m, A.ev k, A.ev v with
    | some m, some k, some v => skip (sMapUpdate P S t m k v)
    | _, _, _ => none
  | .insert t m k v => match A.ev m, A.ev k, A.ev v with
    | some m, some k, some v => skip (sMapUpdate P S t m k v)
    | _, _, _ => none
  | .call c => match c.callee with
    | .builtin b => match b with
      | .append => match c.args.toList, c.argTypes.toList with
        | [x, y], [t, u] => match A.ev x, A.ev y with
          | some x, some y => need (Nat.beq t u) (val (sAppend P S t x y))
          | _, _ => none
        | _, _ => none
      | _ => none
    | .value f => match A.ev f, mapO A.ev c.args.toList with
      | some (.fu g x y), some l => match Nat.beq g ib with
        | true => match sIndexByte (x ++ l ++ y) with
          | some v => some (.val v, S)
          | none => none
        | false => match P.funcs[g]? with
          | some fn => match fn.body with
            | some _ => some (.call g (x ++ l ++ y), S)
            | none => none
          | none => none
      | _, _ => none
    | .invoke _ _ => none
  | .defer c => match c.callee with
    | .value f => match A.ev f, mapO A.ev c.args.toList with
      | some (.fu g x y), some l => some (.defer g (x ++ l ++ y), S)
      | _, _ => none
    | _ => none
  | _ => none

/-! ### regions, code, calls -/
/-- Whether an operation is wanted. -/
def want (ops : Array Oper) (A : SA) (o : Oper) : Option Bool :=
  match o.guard with
  | none => some true
  | some (j, b) => match ops[j]? with
    | some p => match p.dst with
      | some d => match A.t.get d with
        | some (.bo c) => some (c == b)
        | some (.tu _) => some false
        | _ => none
      | none => none
    | none => none
def isD (o : Oper) : Bool :=
  match o.op with
  | .move _ | .assign _ | .pick .. | .build .. | .nilCheck _ | .binOp .. | .unOp .. | .convert .. | .fieldAddr .. | .field .. | .indexAddr .. | .index .. | .slice ..
  | .extract .. | .makeFunc .. | .load .. => true
  | .call c => match c.callee with
    | .builtin b => match b with
      | .len | .max | .min => true
      | _ => false
    | _ => false
  | _ => false
/-- Orders in which the operations of a region may be taken: 'd': it may be taken first; 'n': no other may come up; 'b': one of two comes up. -/
inductive PT where
  | done
  | d (i : Nat) (p : PT)
  | n (i : Nat) (p : PT)
  | b (i : Nat) (p : PT) (j : Nat) (q : PT)
def planGo (ops : Array Oper) : Nat → Array Bool → Option PT
  | 0, listed => match Region.ready .any ops listed with
    | [] => some .done
    | _ => none
  | n + 1, listed =>
    match Region.ready .any ops listed with
    | [] => none
    | r :: rs => match (r :: rs).find? (fun i => (match ops[i]? with | some o => isD o | none => false) && Region.free .any ops listed i) with
      | some i => match planGo ops n (listed.setIfInBounds i true) with
        | some p => some (.d i p)
        | none => none
      | none => match rs with
        | [] => match planGo ops n (listed.setIfInBounds r true) with
          | some p => some (.n r p)
          | none => none
        | [q] => match planGo ops n (listed.setIfInBounds r true), planGo ops n (listed.setIfInBounds q true) with
          | some x, some y => some (.b r x q y)
          | _, _ => none
        | _ :: _ :: _ => none
def plan (ops : Array Oper) : Option PT := need (Region.noSelect ops) (planGo ops ops.size (Array.replicate ops.size false))
inductive SX where
  | nor
  | ex (id : Nat)
  | ret
inductive SR where
  | x (e : SX) (A : SA)
  | v (v : SV)
inductive Rq where
  | code (c : Code) (A : SA)
  | ops (l : List Oper) (all : Array Oper) (A : SA)
  | any (all : Array Oper) (π : PT) (H : List (Nat × Nat × Nat × List SV)) (A : SA)
  | call (f : FuncId) (args : List SV)
/-- Whether an operation waits, by an edge of its own, for number i. -/
def waits (o : Oper) (i : Nat) : Bool := o.after.toList.any fun e => Region.binds .any e && Nat.beq e.on i
def stay (o : Oper) : List (Nat × Nat × Nat × List SV) → List (Nat × Nat × Nat × List SV)
  | [] => []
  | h :: H => match waits o h.1 with
    | true => stay o H
    | false => h :: stay o H
def holdsB (S : SH) : List (Nat × Nat × Nat × List SV) → Bool
  | [] => true
  | (_, id, q, l) :: H => match S.h.get id with
    | some (.c _ cs _) => match seg cs q l.length with
      | some r => match SV.sameL r l with
        | true => holdsB S H
        | false => false
      | none => false
    | _ => false
def argT : List SV → Nat → Tr SV → Tr SV
  | [], _, t => t
  | v :: l, k, t => argT l (k + 1) (t.put k v)
def sLoad (P : Program) (S : SH) (t : TypeId) (x : SV) : Option SV :=
  match x with
  | .pt id q => match S.h.get id with
    | some (.c _ cs _) => partS P t cs q
    | _ => none
  | _ => none
def sRes1 (P : Program) (A : SA) (S : SH) : ResultVar → Option SV
  | .tmp t => A.t.get t
  | .cell a t => match A.t.get a with
    | some x => sLoad P S t x
    | none => none
def sRes (P : Program) (fn : Func) (A : SA) (S : SH) : Option SV :=
  match mapO (sRes1 P A S) fn.results.toList with
  | some [v] => some v
  | some l => some (.tu l)
  | none => none
def bindAll {α β : Type} (g : α → Option (List β)) : List α → Option (List β)
  | [] => some []
  | a :: l => match l with
    | [] => g a
    | _ :: _ => match g a with
      | none => none
      | some x => match bindAll g l with
        | none => none
        | some y => some (x ++ y)
def bindL {α β : Type} (x : Option (List α)) (g : α → Option (List β)) : Option (List β) := match x with
  | none => none
  | some l => bindAll g l
section
variable (P : Program) (ib : FuncId) (dk : FuncId → Bool) (rec : Rq → SH → Option (List (SR × SH)))
def fin (A : SA) (d : Option Tmp) (v : SV) (S : SH) : Option (List (SA × SH)) := match A.put d v with
  | some A' => some [(A', S)]
  | none => none
def run1 (A : SA) (S : SH) (o : Oper) : Option (List (SA × SH)) :=
  match opD P A o with
  | some v => fin A o.dst v S
  | none => match opL P A S o with
    | some (v, _) => fin A o.dst v S
    | none => match opN P ib A S o with
      | some (.val v, S') => fin A o.dst v S'
      | some (.skip, S') => fin A o.dst (.tu []) S'
      | some (.defer f args, S') => fin { A with df := (f, args) :: A.df } o.dst (.tu []) S'
      | some (.call f args, S') => bindL (rec (.call f args) S') fun x => match x with
        | (.v v, S'') => fin A o.dst v S''
        | _ => none
      | none => none
def sEnd (fn : Func) (A : SA) (S : SH) : Option (List (SR × SH)) := match sRes P fn A S with
  | some v => some [(.v v, S)]
  | none => none
def sLeave (fn : Func) (x : SR × SH) : Option (List (SR × SH)) := match x with
  | (.x e A, S) => match e with
    | .ex _ => none
    | _ => match A.df with
      | [] => sEnd P fn A S
      | [(g, l)] => need (dk g && Nat.beq l.length 3) (sEnd P fn A S)
      | _ => none
  | _ => none
def sCall (f : FuncId) (args : List SV) (S : SH) : Option (List (SR × SH)) :=
  match P.funcs[f]? with
  | none => none
  | some fn => match fn.body with
    | none => none
    | some c => need (Nat.blt args.length 1000) (bindL (rec (.code c { t := argT args 0 .lf, n := args.length + (fn.ntmps - args.length), df := [] }) S) (sLeave P dk fn))
def sCode (c : Code) (A : SA) (S : SH) : Option (List (SR × SH)) :=
  match c with
  | .skip => some [(.x .nor A, S)]
  | .region _ ops false => rec (.ops ops.toList ops A) S
  | .region _ ops true => match plan ops with
    | some π => rec (.any ops π [] A) S
    | none => none
  | .seq a b => bindL (rec (.code a A) S) fun x => match x with
    | (.x .nor A', S') => rec (.code b A') S'
    | r => some [r]
  | .cond c a b => match A.ev c with
    | some (.bo true) => rec (.code a A) S
    | some (.bo false) => rec (.code b A) S
    | _ => none
  | .block id c => bindL (rec (.code c A) S) fun x => match x with
    | (.x (.ex k) A', S') => match Nat.beq k id with
      | true => some [(.x .nor A', S')]
      | false => some [(.x (.ex k) A', S')]
    | r => some [r]
  | .loop c => bindL (rec (.code c A) S) fun x => match x with
    | (.x .nor A', S') => rec (.code (.loop c) A') S'
    | r => some [r]
  | .exit id => some [(.x (.ex id) A, S)]
  | .label _ => some [(.x .nor A, S)]
  | .scope b => rec (.code b A) S
  | .ret => some [(.x .ret A, S)]
  | _ => none
def sOps (l : List Oper) (all : Array Oper) (A : SA) (S : SH) : Option (List (SR × SH)) :=
  match l with
  | [] => some [(.x .nor A, S)]
  | o :: l => match want all A o with
    | some true => bindL (run1 P ib rec A S o) fun x => rec (.ops l all x.1) x.2
    | some false => match A.put o.dst (.tu []) with
      | some A' => rec (.ops l all A') S
      | none => none
    | none => none
/-- One operation that is carried out within a region whose order is open. -/
def sN (all : Array Oper) (i : Nat) (π : PT) (H : List (Nat × Nat × Nat × List SV)) (A : SA) (S : SH) : Option (List (SR × SH)) :=
  match all[i]? with
  | none => none
  | some o => match want all A o with
    | none => none
    | some false => match A.put o.dst (.tu []) with
      | some A' => rec (.any all π H A') S
      | none => none
    | some true => bindL (run1 P ib rec A S o) fun x => need (holdsB x.2 (stay o H)) (rec (.any all π (stay o H) x.1) x.2)
def sAny (all : Array Oper) (π : PT) (H : List (Nat × Nat × Nat × List SV)) (A : SA) (S : SH) : Option (List (SR × SH)) :=
  match π with
  | .done => some [(.x .nor A, S)]
  | .d i π => match all[i]? with
    | none => none
    | some o => match want all A o with
      | none => none
      | some false => match A.put o.dst (.tu []) with
        | some A' => rec (.any all π H A') S
        | none => none
      | some true => match opD P A o with
        | some v => match A.put o.dst v with
          | some A' => rec (.any all π H A') S
          | none => none
        | none => match opL P A S o with
          | some (v, h) => match A.put o.dst v with
            | some A' => rec (.any all π ((i, h) :: H) A') S
            | none => none
          | none => none
  | .n i π => sN P ib rec all i π H A S
  | .b i π j κ => match sN P ib rec all i π H A S with
    | none => none
    | some x => match sN P ib rec all j κ H A S with
      | none => none
      | some y => some (x ++ y)
def step (q : Rq) (S : SH) : Option (List (SR × SH)) :=
  match q with
  | .code c A => sCode rec c A S
  | .ops l all A => sOps P ib rec l all A S
  | .any all π H A => sAny P ib rec all π H A S
  | .call f args => sCall P dk rec f args S
end
def go (P : Program) (ib : FuncId) (dk : FuncId → Bool) : Nat → Rq → SH → Option (List (SR × SH))
  | 0 => fun _ _ => none
  | n + 1 => step P ib dk (go P ib dk n)
end Sy
end Go.Proofs.YtfhcngnmgfkdkaaGreatDoor

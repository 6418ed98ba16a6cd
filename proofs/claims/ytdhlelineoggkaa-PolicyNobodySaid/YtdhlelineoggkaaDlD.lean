/- 'Dl', part D: what quiet operations come to, as a function; that it is so. -/
import Derived.Test.YtdhlelineoggkaaDlC
import Derived.Laws.Strings
import Derived.Laws.StructEq
namespace Go.Dl
open Go.RowKit

def D.cell : D → Option C
  | .c y => some y
  | _ => none

def liveR (H : List (Option Root)) (r : Nat) : Bool :=
  match H[r]? with
  | some (some _) => true
  | _ => false

/-- The cells behind an address. -/
def cellsAt (H : List (Option Root)) : D → Option (List C)
  | .c (.p r e c) => match H[r]? with
    | some (some R) => (R.rows[e]?).map (·.drop c)
    | _ => none
  | .q xs => some xs
  | _ => none

/-- A copy of a cell: an empty slice is nobody's. -/
def C.cpy : C → C
  | .s true es rows => match rows with
    | [] => .s false es []
    | _ => .s true es rows
  | c => c

def qmk (P : Program) (t : TypeId) (xs : List C) : Option D :=
  match tk P t with
  | none => none
  | some k =>
    if k.agg then (if (xs.take (tsz P t)).length = tsz P t ∧ ((xs.take (tsz P t)).map C.cpy).all C.cp = true then some (.agg ((xs.take (tsz P t)).map C.cpy)) else none)
    else match xs with
      | c :: _ => if c.cpy.cp = true then some (.c c.cpy) else none
      | [] => none

def qload (P : Program) (H : List (Option Root)) (t : TypeId) (d : D) : Option D := (cellsAt H d).bind (qmk P t)

def qnil (H : List (Option Root)) : D → Option D
  | .c (.p r e c) => if liveR H r then some (.c (.p r e c)) else none
  | .c (.f k cs) => some (.c (.f k cs))
  | .q xs => some (.q xs)
  | _ => none

def qfieldAddr (P : Program) (H : List (Option Root)) (t : TypeId) (i : Nat) (d : D) : Option D :=
  match tk P t with
  | some (.st l) => match l[i]? with
    | some (ty, off) => if tsz P ty = 0 then none else match d with
      | .c (.p r e c) => if liveR H r then some (.c (.p r e (c + off))) else none
      | .q xs => some (.q (xs.drop off))
      | _ => none
    | none => none
  | _ => none

/-- A part of an aggregate. -/
def qpart (P : Program) (t : TypeId) (off : Nat) (xs : List C) : Option D :=
  match tk P t with
  | none => none
  | some k => if k.agg then (if tsz P t = 0 then none else some (.agg ((xs.drop off).take (tsz P t)))) else (xs[off]?).map .c

def qfield (P : Program) (t : TypeId) (i : Nat) (d : D) : Option D :=
  match tk P t with
  | some (.st l) => match l[i]? with
    | some (ty, off) => match d with
      | .agg xs => qpart P ty off xs
      | _ => none
    | none => none
  | _ => none

def D.int : D → Option Int
  | .c (.v (.int _ n)) => some n
  | _ => none

def qindexAddr (P : Program) (H : List (Option Root)) (t : TypeId) (d : D) (n : Int) : Option D :=
  match tk P t with
  | some (.slice e) => match d with
    | .c (.h r lo len) => match H[r]? with
      | some (some R) => if tsz P e = R.es ∧ R.es ≠ 0 ∧ 0 ≤ n ∧ n < len then some (.c (.p r (lo + n.toNat) 0)) else none
      | _ => none
    | .c (.s false es rows) => if tsz P e = es ∧ es ≠ 0 ∧ 0 ≤ n ∧ n < rows.length then (rows[n.toNat]?).map .q else none
    | _ => none
  | some (.arr len e) => match d with
    | .c (.p r el c) => if liveR H r = true ∧ tsz P e ≠ 0 ∧ 0 ≤ n ∧ n < len then some (.c (.p r el (c + n.toNat * tsz P e))) else none
    | .q xs => if tsz P e ≠ 0 ∧ 0 ≤ n ∧ n < len then some (.q (xs.drop (n.toNat * tsz P e))) else none
    | _ => none
  | _ => none

def qindex (P : Program) (t : TypeId) (d : D) (n : Int) : Option D :=
  match tk P t with
  | some .str => match d with
    | .c (.v (.string s)) => if 0 ≤ n ∧ n < s.size then some (.c (.v (.int .u8 (s.data.toList.getD n.toNat 0).toNat))) else none
    | _ => none
  | some (.arr len e) => match d with
    | .agg xs => if tsz P e ≠ 0 ∧ 0 ≤ n ∧ n < len then qpart P e (n.toNat * tsz P e) xs else none
    | _ => none
  | _ => none

def qpick : D → D → D → Option D
  | .c (.v (.bool c)), a, b => match a, b with
    | .c (.v (.bool x)), .c (.v (.bool y)) => some (.c (.v (.bool (bif c then x else y))))
    | a, b => some (bif c then a else b)
  | _, _, _ => none

def strEq (x y : ByteArray) : Bool := x.toList == y.toList
def strLt (x y : ByteArray) : Bool := Op.bytesLess x.toList y.toList

def qint (op : BinOp) (k : IntKind) (x y : Int) : Option C :=
  match op with
  | .add => some (.v (.int k (k.wrap (x + y))))
  | .sub => some (.v (.int k (k.wrap (x - y))))
  | .mul => some (.v (.int k (k.wrap (x * y))))
  | .quo => if y = 0 then none else some (.v (.int k (k.wrap (x.tdiv y))))
  | .rem => if y = 0 then none else some (.v (.int k (k.wrap (x.tmod y))))
  | .and => some (.v (.int k (k.wrap (BitVec.ofInt k.bits x &&& BitVec.ofInt k.bits y).toNat)))
  | .or => some (.v (.int k (k.wrap (BitVec.ofInt k.bits x ||| BitVec.ofInt k.bits y).toNat)))
  | .xor => some (.v (.int k (k.wrap (BitVec.ofInt k.bits x ^^^ BitVec.ofInt k.bits y).toNat)))
  | .andNot => some (.v (.int k (k.wrap (BitVec.ofInt k.bits x &&& ~~~ BitVec.ofInt k.bits y).toNat)))
  | .eql => some (.v (.bool (decide (x = y))))
  | .neq => some (.v (.bool (!decide (x = y))))
  | .lss => some (.v (.bool (decide (x < y))))
  | .leq => some (.v (.bool (decide (x ≤ y))))
  | .gtr => some (.v (.bool (decide (y < x))))
  | .geq => some (.v (.bool (decide (y ≤ x))))
  | _ => none

def qshift (op : BinOp) (k : IntKind) (x y : Int) : Option C :=
  match op with
  | .shl => if y < 0 then none else some (.v (.int k (k.wrap (x * 2 ^ min y.toNat k.bits))))
  | .shr => if y < 0 then none else some (.v (.int k (k.wrap (x.fdiv (2 ^ min y.toNat k.bits)))))
  | _ => none

def qstr (op : BinOp) (x y : ByteArray) : Option C :=
  match op with
  | .add => if x.size + y.size ≤ maxStr then some (.v (.string (x ++ y))) else none
  | .eql => some (.v (.bool (strEq x y)))
  | .neq => some (.v (.bool (!strEq x y)))
  | .lss => some (.v (.bool (strLt x y)))
  | .leq => some (.v (.bool (strLt x y || strEq x y)))
  | .gtr => some (.v (.bool (!(strLt x y || strEq x y))))
  | .geq => some (.v (.bool (!strLt x y)))
  | _ => none

def isEq : BinOp → Option Bool
  | .eql => some true
  | .neq => some false
  | _ => none

/-- Against nil, and two truths. -/
def qeq (P : Program) (H : List (Option Root)) (t : TypeId) (a b : D) : Option Bool :=
  match tk P t with
  | some .bool => match a, b with
    | .c (.v (.bool x)), .c (.v (.bool y)) => some (x == y)
    | _, _ => none
  | some (.ptr _) => match a, b with
    | .c (.v (.pointer none)), .c (.v (.pointer none)) => some true
    | .c (.p r _ _), .c (.v (.pointer none)) => if liveR H r then some false else none
    | .c (.v (.pointer none)), .c (.p r _ _) => if liveR H r then some false else none
    | .q _, .c (.v (.pointer none)) => some false
    | .c (.v (.pointer none)), .q _ => some false
    | _, _ => none
  | some .func => match a, b with
    | .c (.f _ _), .c (.v .nilFunc) => some false
    | .c (.v .nilFunc), .c (.v .nilFunc) => some true
    | _, _ => none
  | some (.map _ _) => match a, b with
    | .c (.v (.map none)), .c (.v (.map none)) => some true
    | .c .m, .c (.v (.map none)) => some false
    | .c (.v (.map none)), .c .m => some false
    | _, _ => none
  | _ => none

def isShift : BinOp → Bool
  | .shl => true
  | .shr => true
  | _ => false

/-- The fields of a struct of scalars, one cell each. -/
def flatTs (P : Program) : Nat → List Field → Option (List TK)
  | _, [] => some []
  | i, f :: fs => if f.name ≠ "_" ∧ f.offset = i then match tk P f.type, flatTs P (i + 1) fs with
    | some k, some ks => some (k :: ks)
    | _, _ => none else none
def flatT (P : Program) (t : TypeId) : Option (List TK) :=
  match P.underlying t with
  | some (.struct fs) => if P.stoodInHeld t = false ∧ P.eqGuardType P.depth t = false then flatTs P 0 fs.toList else none
  | _ => none

def eqC : TK → C → C → Option Bool
  | .int _, .v (.int k x), .v (.int k' y) => if k = k' then some (decide (x = y)) else none
  | .bool, .v (.bool x), .v (.bool y) => some (x == y)
  | .str, .v (.string x), .v (.string y) => some (strEq x y)
  | _, _, _ => none
def eqCs : List TK → List C → List C → Option Bool
  | [], [], [] => some true
  | k :: ks, c :: cs, d :: ds => match eqC k c d, eqCs ks cs ds with
    | some a, some b => some (a && b)
    | _, _ => none
  | _, _, _ => none

def qbin (P : Program) (H : List (Option Root)) (op : BinOp) (t : TypeId) (a b : D) : Option D :=
  match a, b with
  | .agg xs, .agg ys => match isEq op, flatT P t with
    | some e, some ks => (eqCs ks xs ys).map fun r => .c (.v (.bool (if e then r else !r)))
    | _, _ => none
  | .c (.v (.int k x)), .c (.v (.int k' y)) => if isShift op then (qshift op k x y).map .c else if k = k' then (qint op k x y).map .c else none
  | .c (.v (.string x)), .c (.v (.string y)) => (qstr op x y).map .c
  | a, b => match isEq op with
    | some e => (qeq P H t a b).map fun r => .c (.v (.bool (if e then r else !r)))
    | none => none

def qun (op : UnOp) : D → Option D
  | .c (.v (.int k n)) => match op with
    | .neg => some (.c (.v (.int k (k.wrap (0 - n)))))
    | _ => none
  | .c (.v (.bool b)) => match op with
    | .not => some (.c (.v (.bool (!b))))
    | _ => none
  | _ => none

def qconv (P : Program) (s d : TypeId) : D → Option D
  | .c (.v (.int _ n)) => match tk P d, tk P s with
    | some (.int k), some _ => some (.c (.v (.int k (k.wrap n))))
    | _, _ => none
  | .c (.v (.string x)) => match tk P d, tk P s with
    | some .str, some _ => some (.c (.v (.string x)))
    | _, _ => none
  | _ => none

/-- The bounds of a slice expression. -/
def qbounds (len : Nat) (lo hi : Option (Option D)) : Option (Nat × Nat) :=
  match hi with
  | none => match lo with
    | none => some (0, len)
    | some (some d) => match d.int with
      | some l => if 0 ≤ l ∧ l ≤ len then some (l.toNat, len) else none
      | none => none
    | some none => none
  | some (some d) => match d.int with
    | some h => if 0 ≤ h ∧ h ≤ len then (match lo with
      | none => some (0, h.toNat)
      | some (some d) => match d.int with
        | some l => if 0 ≤ l ∧ l ≤ h then some (l.toNat, h.toNat) else none
        | none => none
      | some none => none) else none
    | none => none
  | some none => none

def qslice (P : Program) (H : List (Option Root)) (t : TypeId) (lo hi : Option (Option D)) : D → Option D
  | .c (.v (.string s)) => match tk P t with
    | some .str => (qbounds s.size lo hi).map fun (l, h) => .c (.v (.string (s.extract l h)))
    | _ => none
  | .c (.s false es rows) => match tk P t with
    | some (.slice e) => if tsz P e = es ∧ es ≠ 0 then (qbounds rows.length lo hi).map fun (l, h) => .c (.s false es ((rows.drop l).take (h - l))) else none
    | _ => none
  | .c (.h r l0 len) => match tk P t with
    | some (.slice e) => match H[r]? with
      | some (some R) => if tsz P e = R.es ∧ R.es ≠ 0 then (qbounds len lo hi).map fun (l, h) => .c (.h r (l0 + l) (h - l)) else none
      | _ => none
    | _ => none
  | _ => none

/-- A full slice expression that leaves no room. -/
def qslice3 (P : Program) (H : List (Option Root)) (t : TypeId) (lo hi mx : Option D) (d : D) : Option D :=
  match tk P t with
  | some (.slice e) =>
    if tsz P e ≠ 0 ∧ lo.bind D.int = some 0 ∧ hi.bind D.int = some 0 ∧ mx.bind D.int = some 0 then match d with
      | .c (.s _ es _) => some (.c (.s true es []))
      | .c (.h r _ _) => if liveR H r then some (.c (.s true 0 [])) else none
      | _ => none
    else none
  | _ => none

def qlen (P : Program) (H : List (Option Root)) (t : TypeId) : D → Option D
  | .c (.v (.string s)) => match tk P t with
    | some .str => some (.c (.v (.int .i64 s.size)))
    | _ => none
  | .c (.s _ _ rows) => match tk P t with
    | some (.slice _) => if rows.length ≤ maxStr then some (.c (.v (.int .i64 rows.length))) else none
    | _ => none
  | .c (.h r _ len) => match tk P t with
    | some (.slice _) => if liveR H r = true ∧ len ≤ maxStr then some (.c (.v (.int .i64 len))) else none
    | _ => none
  | .c (.v (.map none)) => match tk P t with
    | some (.map _ _) => some (.c (.v (.int .i64 0)))
    | _ => none
  | _ => none

def qext (i : Nat) : D → Option D
  | .t ds => ds[i]?
  | _ => none

def omap {α β : Type} (f : α → β) : Option α → Option β
  | none => none
  | some a => some (f a)

def q2 (isMax : Bool) : D → D → Option D
  | .c (.v (.int k x)), .c (.v (.int k' y)) => if k = k' then some (.c (.v (.int k (if isMax then (if x < y then y else x) else (if y < x then y else x))))) else none
  | _, _ => none

/-- A builtin that reads. -/
def qbuiltin (P : Program) (ρ : Operand → Option D) (H : List (Option Root)) (c : Call) : Option D :=
  match c.callee with
  | .builtin .len => match c.args.toList, c.argTypes.toList with
    | [x], [t] => (ρ x).bind (qlen P H t)
    | _, _ => none
  | .builtin .max => match c.args.toList with
    | [x, y] => match ρ x, ρ y with
      | some a, some b => q2 true a b
      | _, _ => none
    | _ => none
  | .builtin .min => match c.args.toList with
    | [x, y] => match ρ x, ρ y with
      | some a, some b => q2 false a b
      | _, _ => none
    | _ => none
  | _ => none

/-- What a quiet operation comes to. -/
def qev (P : Program) (ρ : Operand → Option D) (H : List (Option Root)) : Op → Option D
  | .move x => ρ x
  | .assign x => ρ x
  | .pick c a b => match ρ c, ρ a, ρ b with
    | some c, some a, some b => qpick c a b
    | _, _, _ => none
  | .load t x => (ρ x).bind (qload P H t)
  | .nilCheck x => (ρ x).bind (qnil H)
  | .binOp op t x y _ => match ρ x, ρ y with
    | some a, some b => qbin P H op t a b
    | _, _ => none
  | .unOp op _ x => (ρ x).bind (qun op)
  | .convert s d x => (ρ x).bind (qconv P s d)
  | .fieldAddr t x i => (ρ x).bind (qfieldAddr P H t i)
  | .field t x i => (ρ x).bind (qfield P t i)
  | .indexAddr t x i => match ρ x, (ρ i).bind D.int with
    | some d, some n => qindexAddr P H t d n
    | _, _ => none
  | .index t x i => match ρ x, (ρ i).bind D.int with
    | some d, some n => qindex P t d n
    | _, _ => none
  | .slice t x lo hi none => (ρ x).bind (qslice P H t (omap ρ lo) (omap ρ hi))
  | .slice t x (some lo) (some hi) (some mx) => (ρ x).bind (qslice3 P H t (ρ lo) (ρ hi) (ρ mx))
  | .extract x i => (ρ x).bind (qext i)
  | .call c => qbuiltin P ρ H c
  | _ => none

end Go.Dl

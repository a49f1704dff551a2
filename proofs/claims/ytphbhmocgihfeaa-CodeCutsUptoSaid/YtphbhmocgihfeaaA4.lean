/- THE ABSTRACT MEMORY (part 4): what each operation that only reckons yields. -/
import Derived.Test.YtphbhmocgihfeaaA3
import Derived.Lib.Strings
import Derived.Lib.SmallJoins
namespace Go.Abs
open Go.RowKit
set_option linter.unusedSectionVars false
set_option linter.unusedVariables false
set_option linter.unusedSimpArgs false

/-- What an operation yields, and what must hold for it. -/
abbrev PV := Option (Prop × AV)

def ibits (op : BinOp) (k : IntKind) (a b : Int) : Int :=
  match op with
  | .and => k.wrap (BitVec.ofInt k.bits a &&& BitVec.ofInt k.bits b).toNat
  | .or => k.wrap (BitVec.ofInt k.bits a ||| BitVec.ofInt k.bits b).toNat
  | .xor => k.wrap (BitVec.ofInt k.bits a ^^^ BitVec.ofInt k.bits b).toNat
  | _ => k.wrap (BitVec.ofInt k.bits a &&& ~~~ BitVec.ofInt k.bits b).toNat

def aInt (op : BinOp) (k : IntKind) (a b : Int) : PV :=
  match op with
  | .add => some (True, .int k (k.wrap (a + b)))
  | .sub => some (True, .int k (k.wrap (a - b)))
  | .mul => some (True, .int k (k.wrap (a * b)))
  | .quo => some (b ≠ 0, .int k (k.wrap (a.tdiv b)))
  | .rem => some (b ≠ 0, .int k (a.tmod b))
  | .and => some (True, .int k (ibits .and k a b))
  | .or => some (True, .int k (ibits .or k a b))
  | .xor => some (True, .int k (ibits .xor k a b))
  | .andNot => some (True, .int k (ibits .andNot k a b))
  | .eql => some (True, .bool (a == b))
  | .neq => some (True, .bool (a != b))
  | .lss => some (True, .bool (decide (a < b)))
  | .leq => some (True, .bool (decide (a ≤ b)))
  | .gtr => some (True, .bool (decide (a > b)))
  | .geq => some (True, .bool (decide (a ≥ b)))
  | .shl => some (0 ≤ b, .int k (k.wrap (a * 2 ^ (min b.toNat k.bits))))
  | .shr => some (0 ≤ b, .int k (a.fdiv (2 ^ (min b.toNat k.bits))))

def aStr (op : BinOp) (a b : List UInt8) : PV :=
  match op with
  | .add => some ((a.length + b.length : Nat) ≤ (9223372036854775807 : Nat), .str (a ++ b))
  | .eql => some (True, .bool (a == b))
  | .neq => some (True, .bool (!(a == b)))
  | .lss => some (True, .bool (Op.bytesLess a b))
  | .leq => some (True, .bool (Op.bytesLess a b || a == b))
  | .gtr => some (True, .bool (!(Op.bytesLess a b || a == b)))
  | .geq => some (True, .bool (!Op.bytesLess a b))
  | _ => none

def isShift : BinOp → Bool
  | .shl | .shr => true
  | _ => false

def aBin (op : BinOp) (x y : AV) : PV :=
  match x, y with
  | .int k a, .int k' b => if isShift op = true ∨ k = k' then aInt op k a b else none
  | .str a, .str b => aStr op a b
  | _, _ => none

/-- '==' at the types that are not numbers or texts. -/
def aEq (P : Program) (t : TypeId) (x y : AV) : Option Bool :=
  match P.underlying t, x, y with
  | some .bool, .bool a, .bool b => some (a == b)
  | some (.pointer _), .nilp, .nilp => some true
  | some (.pointer _), .ptr .., .nilp | some (.pointer _), .nilp, .ptr .. | some (.pointer _), .fptr _, .nilp | some (.pointer _), .nilp, .fptr _ => some false
  | some (.slice _), .nils, .nils => some true
  | some (.slice _), .nils, .arr .. | some (.slice _), .arr .., .nils | some (.slice _), .nils, .tree .. | some (.slice _), .tree .., .nils => some false
  | some (.map _ _), .nilm, .nilm => some true
  | some (.map _ _), .nilm, .ref _ | some (.map _ _), .ref _, .nilm => some false
  | some (.interface _), .nili, .iface _ _ | some (.interface _), .iface _ _, .nili => some false
  | _, _, _ => none

def aBinOp (P : Program) (op : BinOp) (t : TypeId) (x y : AV) : PV :=
  match aBin op x y with
  | some r => some r
  | none =>
    match op with
    | .eql => (aEq P t x y).map fun b => (True, .bool b)
    | .neq => (aEq P t x y).map fun b => (True, .bool (!b))
    | _ => none

def aUn (op : UnOp) (x : AV) : PV :=
  match op, x with
  | .neg, .int k n => some (True, .int k (k.wrap (0 - n)))
  | .xor, .int k n => some (True, .int k (ibits .xor k (if k.signed then -1 else k.max) n))
  | .not, .bool b => some (True, .bool (!b))
  | _, _ => none

def aConv (P : Program) (src dst : TypeId) (x : AV) : PV :=
  match P.underlying src, P.underlying dst, x with
  | some _, some (.int k), .int _ n => some (True, .int k (k.wrap n))
  | some _, some .string, .str s => some (True, .str s)
  | some _, some .string, .int _ n => some (True, .str (Utf8.encode n).data.toList)
  | _, _, _ => none

/-- Is a variable of the type an aggregate of cells? -/
def aggT (P : Program) (t : TypeId) : Option Bool :=
  match P.underlying t with
  | some (.struct _) | some (.array ..) => some true
  | some _ => some false
  | none => none
def tsz (P : Program) (t : TypeId) : Option Nat := (P.info? t).map (·.size)

/-- A part of some cells, as a value. -/
def aPart (P : Program) (t : TypeId) (cs : List AV) (off : Nat) : PV :=
  match aggT P t, tsz P t with
  | some true, some n => some (True, .agg ((cs.drop off).take n))
  | some false, _ => some (off < cs.length, cs.getD off .junk)
  | _, _ => none

def aIndex (P : Program) (t : TypeId) (x i : AV) : PV :=
  match P.underlying t, x, i with
  | some .string, .str s, .int _ i => some (0 ≤ i ∧ i < s.length, .int .u8 ((s.getD i.toNat 0).toNat : Int))
  | some (.array n e), .agg cs, .int _ i =>
    match tsz P e with
    | some z => (aPart P e cs (i.toNat * z)).map fun p => ((0 ≤ i ∧ i < n) ∧ p.1, p.2)
    | none => none
  | _, _, _ => none

def aBound (x : Option AV) (d : Int) : Option Int :=
  match x with
  | none => some d
  | some (.int _ i) => some i
  | _ => none

def aSlice (P : Program) (t : TypeId) (x : AV) (lo hi : Option AV) : PV :=
  match P.underlying t, x with
  | some .string, .str s =>
    match aBound lo 0, aBound hi s.length with
    | some l, some h => some (0 ≤ l ∧ l ≤ h ∧ h ≤ s.length, .str ((s.drop l.toNat).take (h.toNat - l.toNat)))
    | _, _ => none
  | some (.slice e), .tree sz es =>
    match aBound lo 0, aBound hi es.length with
    | some l, some h => some ((0 ≤ l ∧ l ≤ h ∧ h ≤ es.length) ∧ tsz P e = some sz, .tree sz ((es.drop l.toNat).take (h.toNat - l.toNat)))
    | _, _ => none
  | some (.slice e), .arr id g sz off len =>
    match aBound lo 0, aBound hi len with
    | some l, some h => some ((0 ≤ l ∧ l ≤ h ∧ h ≤ len) ∧ tsz P e = some sz, .arr id g sz (off + l.toNat) (h.toNat - l.toNat))
    | _, _ => none
  | some (.slice e), .nils =>
    match aBound lo 0, aBound hi 0 with
    | some l, some h => some (l = 0 ∧ h = 0 ∧ (tsz P e).isSome = true, .nils)
    | _, _ => none
  | _, _ => none

def aField (P : Program) (t : TypeId) (x : AV) (f : Nat) : PV :=
  match P.underlying t, x with
  | some (.struct fs), .agg cs =>
    match fs[f]? with
    | some f => aPart P f.type cs f.offset
    | none => none
  | _, _ => none

def aExtract (x : AV) (i : Nat) : PV :=
  match x with
  | .tup vs => some (i < vs.length, vs.getD i .junk)
  | _ => none

def aLen (P : Program) (t : TypeId) (x : AV) : PV :=
  match P.underlying t, x with
  | some .string, .str s => some (True, .int .i64 s.length)
  | some (.slice _), .tree _ es => some (True, .int .i64 es.length)
  | some (.slice _), .arr _ _ _ _ n => some (True, .int .i64 n)
  | some (.slice _), .nils => some (True, .int .i64 0)
  | some (.array n _), _ => some (True, .int .i64 n)
  | some (.map _ _), .nilm => some (True, .int .i64 0)
  | _, _ => none

def aNil (x : AV) : PV :=
  match x with
  | .ptr .. | .fptr _ => some (True, x)
  | .clo (.func _) _ _ => some (True, x)
  | _ => none

def aFieldAddr (P : Program) (t : TypeId) (x : AV) (f : Nat) : PV :=
  match P.underlying t, x with
  | some (.struct fs), .ptr id g i c =>
    match fs[f]? with
    | some f => some (tsz P f.type ≠ some 0 ∧ (tsz P f.type).isSome = true, .ptr id g i (c + f.offset))
    | none => none
  | some (.struct fs), .fptr cs =>
    match fs[f]? with
    | some f => some (tsz P f.type ≠ some 0 ∧ (tsz P f.type).isSome = true ∧ f.offset ≤ cs.length, .fptr (cs.drop f.offset))
    | none => none
  | _, _ => none

def aIndexAddr (P : Program) (t : TypeId) (x i : AV) : PV :=
  match P.underlying t, x, i with
  | some (.slice e), .tree sz es, .int _ i => some ((0 ≤ i ∧ i < es.length) ∧ tsz P e = some sz, .fptr (es.getD i.toNat []))
  | some (.slice e), .arr id g sz off len, .int _ i => some ((0 ≤ i ∧ i < len) ∧ tsz P e = some sz, .ptr id g (off + i.toNat) 0)
  | some (.array n e), .ptr id g j c, .int _ i =>
    match tsz P e with
    | some z => some ((0 ≤ i ∧ i < n), .ptr id g j (c + i.toNat * z))
    | none => none
  | some (.array n e), .fptr cs, .int _ i =>
    match tsz P e with
    | some z => some ((0 ≤ i ∧ i < n) ∧ i.toNat * z ≤ cs.length, .fptr (cs.drop (i.toNat * z)))
    | none => none
  | _, _, _ => none

def aLoadF (P : Program) (t : TypeId) (x : AV) : PV :=
  match x with
  | .fptr cs =>
    match aggT P t, tsz P t with
    | some true, some n => some (n ≤ cs.length, .agg (cs.take n))
    | some false, _ => some (0 < cs.length, cs.getD 0 .junk)
    | _, _ => none
  | _ => none

def aMkI (P : Program) (t : TypeId) (x : AV) : PV :=
  match P.underlying t with
  | some (.interface _) => none
  | some _ => some (True, .iface t x)
  | none => none

def aPick (c x y : AV) : PV :=
  match c, x, y with
  | .bool b, .bool true, .bool y => some (True, .bool (b || y))
  | .bool b, .bool x, .bool false => some (True, .bool (b && x))
  | .bool b, .bool true, .opt g (.bool y) => some (b = false → g = true, .bool (b || y))
  | .bool b, .opt g (.bool x), .bool false => some (b = true → g = true, .bool (b && x))
  | _, _, _ => none

def unO : AV → AV
  | .opt _ v => v
  | v => v
def unC : AV → Prop
  | .opt g _ => g = true
  | _ => True

def aMin (x y : AV) : PV :=
  match x, y with
  | .int k a, .int _ b => some (True, .int k (if b < a then b else a))
  | _, _ => none
def aMax (x y : AV) : PV :=
  match x, y with
  | .int k a, .int _ b => some (True, .int k (if b > a then b else a))
  | _, _ => none

def aBuiltin (P : Program) (ev : Operand → AV) (c : Call) : PV :=
  match c.callee, c.args.toList, c.argTypes.toList with
  | .builtin .len, [x], [t] => aLen P t (ev x)
  | .builtin .min, [x, y], _ => aMin (ev x) (ev y)
  | .builtin .max, [x, y], _ => aMax (ev x) (ev y)
  | _, _, _ => none

def pureOp1 (P : Program) (ev : Operand → AV) : Op → PV
  | .binOp op t x y _ => aBinOp P op t (ev x) (ev y)
  | .unOp op _ x => aUn op (ev x)
  | .convert s d x => aConv P s d (ev x)
  | .makeInterface t x => aMkI P t (ev x)
  | .makeFunc fn fi ca => some (True, .clo fn (fi.toList.map ev) (ca.toList.map ev))
  | .slice t x lo hi none => aSlice P t (ev x) (lo.map ev) (hi.map ev)
  | .index t x i => aIndex P t (ev x) (ev i)
  | .field t x f => aField P t (ev x) f
  | .extract x i => aExtract (ev x) i
  | .nilCheck x => aNil (ev x)
  | .fieldAddr t x f => aFieldAddr P t (ev x) f
  | .indexAddr t x i => aIndexAddr P t (ev x) (ev i)
  | .load t x => aLoadF P t (ev x)
  | .call c => aBuiltin P ev c
  | _ => none

end Go.Abs

/-
  The abstract machine, part 2: what one operation gives.
-/
import Derived.Test.YtpnhehcncljhpaaAm1
namespace Go.Am
set_option linter.unusedVariables false

def tsz (P : Program) (t : TypeId) : Option Nat := (P.info? t).map (·.size)
def tby (P : Program) (t : TypeId) : Option Nat := (P.info? t).map (·.bytes)
def tagg (P : Program) (t : TypeId) : Option Bool := (P.underlying t).map fun | .struct _ | .array _ _ => true | _ => false
def tslice (P : Program) (t : TypeId) : Option TypeId := match P.underlying t with | some (.slice e) => some e | _ => none
def tarr (P : Program) (t : TypeId) : Option (Nat × TypeId) := match P.underlying t with | some (.array n e) => some (n, e) | _ => none
/-- A struct's field: its type, its place, its size. -/
def tfld (P : Program) (t : TypeId) (f : Nat) : Option (TypeId × Nat × Nat) := match P.underlying t with
  | some (.struct fs) => match fs[f]? with
    | some x => (tsz P x.type).map fun z => (x.type, x.offset, z)
    | none => none
  | _ => none

/-- A value of one cell. -/
def atom : AV → Bool
  | .top | .agg _ | .tup _ | .opt _ _ => false
  | _ => true

def absV : Value → Option AV
  | .bool b => some (.bool b)
  | .int k n => some (.int k n)
  | .string s => some (.str s)
  | .pointer none => some .nilp
  | .slice none 0 0 => some (.ro 0 0 true fun _ _ => .top)
  | .nilFunc => some .nilf
  | _ => none
def absL : List Value → Option (List AV)
  | [] => some []
  | v :: r => match absV v, absL r with
    | some a, some l => some (a :: l)
    | _, _ => none
def absC (v : Value) : AV := match v with
  | .agg cs => match absL cs.toList with
    | some l => .agg l
    | none => .top
  | v => (absV v).getD .top
def tzero (P : Program) (t : TypeId) : Option (List AV) := match P.info? t with
  | some i => match i.zero with
    | some z => absL z.cells.toList
    | none => none
  | none => none

def vcells : AV → List AV
  | .agg l => l
  | v => [v]

def vcOk : AV → Bool
  | .agg _ => true
  | v => atom v
def tabF (f : Nat → AV) : Nat → Nat → List AV
  | _, 0 => []
  | k, m + 1 => f k :: tabF f (k + 1) m

def getL : List AV → Nat → AV
  | [], _ => .top
  | a :: _, 0 => a
  | _ :: l, n + 1 => getL l n
def setL : List AV → Nat → AV → List AV
  | [], _, _ => []
  | _ :: l, 0, v => v :: l
  | a :: l, n + 1, v => a :: setL l n v
/-- The cells from place k on written over. -/
def putL : List AV → Nat → List AV → List AV
  | l, _, [] => l
  | l, k, v :: r => putL (setL l k v) (k + 1) r

def upc (c : Nat → Nat → AV) (i j : Nat) (vs : List AV) : Nat → Nat → AV := fun x y => if x = i ∧ j ≤ y ∧ y < j + vs.length then getL vs (y - j) else c x y
def appC (n : Nat) (c d : Nat → Nat → AV) : Nat → Nat → AV := fun x y => if x < n then c x y else d (x - n) y
def litC (z : Nat) (l : List AV) : Nat → Nat → AV := fun x y => getL l (x * z + y)
def subC (i : Nat) (c : Nat → Nat → AV) : Nat → Nat → AV := fun x y => c (i + x) y
/-- m elements from place s on written over. -/
def ovwC (s m : Nat) (c d : Nat → Nat → AV) : Nat → Nat → AV := fun x y => if s ≤ x ∧ x < s + m then d (x - s) y else c x y
def innC (i j z : Nat) (c : Nat → Nat → AV) : Nat → Nat → AV := fun x y => c i (j + x * z + y)

inductive AR where
  | fail
  | pure (ob : Prop) (v : AV)
  | heap (ob : Prop) (v : AV) (h : List ABlk)

def geth : List ABlk → Nat → ABlk
  | [], _ => .dead
  | a :: _, 0 => a
  | _ :: l, n + 1 => geth l n
def seth : List ABlk → Nat → ABlk → List ABlk
  | [], _, _ => []
  | _ :: l, 0, v => v :: l
  | a :: l, n + 1, v => a :: seth l n v

/-! ### Memory -/
def ldB (x : ABlk) (ag : Bool) (m es i j : Nat) : AR := match x with
  | .lit _ l => bif ag then .pure (i * es + j + m ≤ l.length) (.agg (tabF (getL l) (i * es + j) m)) else .pure (i * es + j < l.length) (getL l (i * es + j))
  | .row _ es' n c => bif ag then .pure (es' = es ∧ i < n ∧ j + m ≤ es) (.agg (tabF (c i) j m)) else .pure (es' = es ∧ i < n ∧ j < es) (c i j)
  | .dead => .fail
def evLoad (ag : Option Bool) (z : Option Nat) (p : AV) (h : List ABlk) : AR := match ag, z, p with
  | some ag, some m, .ptr b es i j => ldB (geth h b) ag m es i j
  | some ag, some m, .rptr es n i j c => bif ag then .pure (i < n ∧ j + m ≤ es) (.agg (tabF (c i) j m)) else .pure (i < n ∧ j < es) (c i j)
  | _, _, _ => .fail
def stB (x : ABlk) (vs : List AV) (es i j : Nat) : Option (Prop × ABlk) := match x with
  | .lit e l => some (i * es + j + vs.length ≤ l.length, .lit e (putL l (i * es + j) vs))
  | .row e es' n c => some (es' = es ∧ i < n ∧ j + vs.length ≤ es, .row e es n (upc c i j vs))
  | .dead => none
def stRes (b : Nat) (h : List ABlk) (ok : Bool) : Option (Prop × ABlk) → AR
  | some (ob, x) => bif ok then .heap ob .top (seth h b x) else .fail
  | none => .fail
def evStore (z : Option Nat) (p v : AV) (h : List ABlk) : AR := match z, p with
  | some m, .ptr b es i j => stRes b h ((vcells v).length == m && vcOk v) (stB (geth h b) (vcells v) es i j)
  | _, _ => .fail
def evBox (t : TypeId) (v : AV) (h : List ABlk) : AR := bif vcOk v then .heap True (.ptr h.length 0 0 0) (h ++ [.lit t (vcells v)]) else .fail
def evAlloc (t : TypeId) (z : Option (List AV)) (h : List ABlk) : AR := match z with
  | some l => .heap True (.ptr h.length 0 0 0) (h ++ [.lit t l])
  | none => .fail

/-! ### Addresses and parts -/
def evFieldAddr (fl : Option (TypeId × Nat × Nat)) (p : AV) : AR := match fl, p with
  | some (_, off, z), .ptr b es i j => .pure (z ≠ 0) (.ptr b es i (j + off))
  | some (_, off, z), .rptr es n i j c => .pure (z ≠ 0) (.rptr es n i (j + off) c)
  | _, _ => .fail
def evField (ag : Option Bool) (fl : Option (TypeId × Nat × Nat)) (v : AV) : AR := match ag, fl, v with
  | some ag, some (_, off, z), .agg l => bif ag then .pure (off + z ≤ l.length) (.agg (tabF (getL l) off z)) else .pure (off < l.length) (getL l off)
  | _, _, _ => .fail
def evIndexAddr (sl : Option TypeId) (ar : Option (Nat × TypeId)) (z : Option Nat) (x ix : AV) : AR := match sl, ar, z, ix with
  | some _, _, some z, .int _ q => match x with
    | .sl b es i n nl => .pure (0 ≤ q ∧ q < n ∧ z = es) (.ptr b es (i + q.toNat) 0)
    | .isl b es i j z' n => .pure (0 ≤ q ∧ q < n ∧ z' = z) (.ptr b es i (j + q.toNat * z))
    | .ro es n nl c => .pure (0 ≤ q ∧ q < n ∧ z = es) (.rptr es n q.toNat 0 c)
    | _ => .fail
  | none, some (len, _), some z, .int _ q => match x with
    | .ptr b es i j => .pure (0 ≤ q ∧ q < len) (.ptr b es i (j + q.toNat * z))
    | .rptr es n i j c => .pure (0 ≤ q ∧ q < len) (.rptr es n i (j + q.toNat * z) c)
    | _ => .fail
  | _, _, _, _ => .fail
def byteAt (s : ByteArray) (i : Nat) : Int := ((s.data.getD i 0).toNat : Int)
def evIndexS (st : Bool) (x ix : AV) : AR := match st, x, ix with
  | true, .str s, .int _ q => .pure (0 ≤ q ∧ q < s.size) (.int .u8 (byteAt s q.toNat))
  | _, _, _ => .fail
def evIndex (ag : Option Bool) (ar : Option (Nat × TypeId)) (z : Option Nat) (x ix : AV) : AR := match x, ix with
  | .agg l, .int _ q => match ag, ar, z with
    | some ag, some (len, _), some z => bif ag then .pure (0 ≤ q ∧ q < len ∧ q.toNat * z + z ≤ l.length) (.agg (tabF (getL l) (q.toNat * z) z)) else .pure (0 ≤ q ∧ q < len ∧ q.toNat * z < l.length) (getL l (q.toNat * z))
    | _, _, _ => .fail
  | _, _ => .fail
/-- The low and the high bound of 'x[lo:hi]'. -/
def evBound (x : Option AV) (d : Nat) : Option Int := match x with
  | none => some d
  | some (.int _ q) => some q
  | _ => none
def evSlice (sl : Option TypeId) (ar : Option (Nat × TypeId)) (z : Option Nat) (x : AV) (lo hi mx : Option AV) : AR := bif mx.isSome && hi.isNone then .fail else match sl, ar, z with
  | some _, _, some z => match x with
    | .sl b es i n nl => match evBound lo 0, evBound hi n, evBound mx n with
      | some l, some u, some m => .pure (0 ≤ l ∧ l ≤ u ∧ u ≤ m ∧ m ≤ n ∧ z = es) (.sl b es (i + l.toNat) (u.toNat - l.toNat) nl)
      | _, _, _ => .fail
    | .isl b es i j z' n => match evBound lo 0, evBound hi n, evBound mx n with
      | some l, some u, some m => .pure (0 ≤ l ∧ l < u ∧ u ≤ m ∧ m ≤ n ∧ z' = z) (.isl b es i (j + l.toNat * z) z (u.toNat - l.toNat))
      | _, _, _ => .fail
    | .csl b es i n c => match evBound lo 0, evBound hi n, evBound mx c with
      | some l, some u, some m => .pure (0 ≤ l ∧ l ≤ u ∧ u ≤ m ∧ m ≤ c ∧ z = es) (.csl b es (i + l.toNat) (u.toNat - l.toNat) (m.toNat - l.toNat))
      | _, _, _ => .fail
    | .ro es n nl c => match mx with
      | some (.int _ 0) => match evBound lo 0, evBound hi n with
        | some l, some u => .pure (l = 0 ∧ u = 0) .emp
        | _, _ => .fail
      | none => match evBound lo 0, evBound hi n with
        | some l, some u => .pure (0 ≤ l ∧ l ≤ u ∧ u ≤ n ∧ z = es) (.ro es (u.toNat - l.toNat) nl (subC l.toNat c))
        | _, _ => .fail
      | _ => .fail
    | _ => .fail
  | none, some (len, _), some z => match x with
    | .ptr b es i j => match evBound lo 0, evBound hi len, mx with
      | some l, some u, none => .pure (0 ≤ l ∧ l < u ∧ u ≤ len ∧ len ≤ 4096) (.isl b es i (j + l.toNat * z) z (u.toNat - l.toNat))
      | _, _, _ => .fail
    | .rptr es n i j c => match evBound lo 0, evBound hi len, mx with
      | some l, some u, none => .pure (0 ≤ l ∧ l ≤ u ∧ u ≤ len ∧ i < n ∧ j + len * z ≤ es ∧ len ≤ 4096) (.ro z (u.toNat - l.toNat) false (innC i (j + l.toNat * z) z c))
      | _, _, _ => .fail
    | _ => .fail
  | _, _, _ => .fail

/-! ### Arithmetic and tests -/
def bLe (x y : Int) : Bool := decide (x ≤ y)
def bLt (x y : Int) : Bool := decide (x < y)
def bEq (x y : Int) : Bool := x == y
def sEq (x y : ByteArray) : Bool := x.toList == y.toList
def sLt (x y : ByteArray) : Bool := Op.bytesLess x.toList y.toList
def andI (k : IntKind) (x y : Int) : Int := k.wrap ((BitVec.ofInt k.bits x &&& BitVec.ofInt k.bits y).toNat : Int)
def orI (k : IntKind) (x y : Int) : Int := k.wrap ((BitVec.ofInt k.bits x ||| BitVec.ofInt k.bits y).toNat : Int)
def xorI (k : IntKind) (x y : Int) : Int := k.wrap ((BitVec.ofInt k.bits x ^^^ BitVec.ofInt k.bits y).toNat : Int)
def andNotI (k : IntKind) (x y : Int) : Int := k.wrap ((BitVec.ofInt k.bits x &&& ~~~BitVec.ofInt k.bits y).toNat : Int)
def shlI (k : IntKind) (x y : Int) : Int := k.wrap (x * 2 ^ min y.toNat k.bits)
def shrI (k : IntKind) (x y : Int) : Int := x.fdiv (2 ^ min y.toNat k.bits)
def wr (k : IntKind) (x : Int) : Int := k.wrap x
def evInt (op : BinOp) (k : IntKind) (x y : Int) : AR := match op with
  | .add => .pure True (.int k (wr k (x + y)))
  | .sub => .pure True (.int k (wr k (x - y)))
  | .mul => .pure True (.int k (wr k (x * y)))
  | .quo => .pure (y ≠ 0) (.int k (wr k (x.tdiv y)))
  | .rem => .pure (y ≠ 0) (.int k (x.tmod y))
  | .and => .pure True (.int k (andI k x y))
  | .or => .pure True (.int k (orI k x y))
  | .xor => .pure True (.int k (xorI k x y))
  | .andNot => .pure True (.int k (andNotI k x y))
  | .eql => .pure True (.bool (bEq x y))
  | .neq => .pure True (.bool (!bEq x y))
  | .lss => .pure True (.bool (bLt x y))
  | .leq => .pure True (.bool (bLe x y))
  | .gtr => .pure True (.bool (bLt y x))
  | .geq => .pure True (.bool (bLe y x))
  | _ => .fail
def evStr (op : BinOp) (x y : ByteArray) : AR := match op with
  | .add => .pure (((x.size + y.size : Nat) : Int) ≤ 9223372036854775807) (.str (x ++ y))
  | .eql => .pure True (.bool (sEq x y))
  | .neq => .pure True (.bool (!sEq x y))
  | .lss => .pure True (.bool (sLt x y))
  | .leq => .pure True (.bool (sLt x y || sEq x y))
  | .gtr => .pure True (.bool (!(sLt x y || sEq x y)))
  | .geq => .pure True (.bool (!sLt x y))
  | _ => .fail
def bB (x y : Bool) : Bool := x == y
inductive Leaf where
  | i (k : IntKind)
  | b
  | s
  deriving DecidableEq
/-- Cell by cell, the cells' kinds being known; none: not told. -/
def eqSh : List Leaf → List AV → List AV → Option Bool
  | [], [], [] => some true
  | .i k :: h, .int k1 x :: l, .int k2 y :: m => match k1 == k && k2 == k, eqSh h l m with
    | true, some r => some (bEq x y && r)
    | _, _ => none
  | .b :: h, .bool x :: l, .bool y :: m => match eqSh h l m with
    | some r => some (bB x y && r)
    | none => none
  | .s :: h, .str x :: l, .str y :: m => match eqSh h l m with
    | some r => some (sEq x y && r)
    | none => none
  | _, _, _ => none
def eqRes (neg : Bool) : Option Bool → AR
  | some b => .pure True (.bool (bif neg then !b else b))
  | none => .fail
/-- What a slice that is only read says of being nil; none: both may be. -/
def nilR (n : Nat) (nl : Bool) : Option Bool := match nl with
  | true => some true
  | false => match n with
    | 0 => none
    | _ + 1 => some false
def nilOf : AV → Option Bool
  | .sl _ _ _ _ nl => some nl
  | .ro _ n nl _ => nilR n nl
  | _ => none
def isNilC : AV → Bool
  | .ro 0 0 true _ => true
  | _ => false
def evBin (sl : Option TypeId) (sh : Option (List Leaf)) (op : BinOp) (x y : AV) : AR := match x, y with
  | .int k a, .int k' b => match op with
    | .shl => .pure (0 ≤ b) (.int k (shlI k a b))
    | .shr => .pure (0 ≤ b) (.int k (shrI k a b))
    | _ => match k == k' with
      | true => evInt op k a b
      | false => .fail
  | .str a, .str b => evStr op a b
  | .agg l, .agg m => match sh, op with
    | some sh, .eql => eqRes false (eqSh sh l m)
    | some sh, .neq => eqRes true (eqSh sh l m)
    | _, _ => .fail
  | x, y => match isNilC y, sl, op with
    | true, some _, .eql => eqRes false (nilOf x)
    | true, some _, .neq => eqRes true (nilOf x)
    | _, _, _ => .fail
def evUn (op : UnOp) (x : AV) : AR := match op, x with
  | .neg, .int k n => .pure True (.int k (wr k (0 - n)))
  | .not, .bool b => .pure True (.bool (!b))
  | _, _ => .fail
def tint (P : Program) (t : TypeId) : Option IntKind := match P.underlying t with | some (.int k) => some k | _ => none
/-- What may be appended: a slice, a string. -/
def tnoint (P : Program) (t : TypeId) : Bool := match P.underlying t with | some (.slice _) => true | some .string => true | _ => false
def tstr (P : Program) (t : TypeId) : Bool := match P.underlying t with | some .string => true | _ => false
/-- The bytes of a content. -/
def bytesC (n : Nat) (c : Nat → Nat → AV) : ByteArray := ⟨((List.range n).map fun i => match c i 0 with | .int _ q => q.toNat.toUInt8 | _ => 0).toArray⟩
def strC (s : ByteArray) : Nat → Nat → AV := fun x _ => .int .u8 (byteAt s x)
def u8Q : AV → Prop
  | .int .u8 q => 0 ≤ q ∧ q ≤ 255
  | _ => False

/-- A byte of a string; a part of an array. -/
def evIndex2 (st : Bool) (ag : Option Bool) (ar : Option (Nat × TypeId)) (z : Option Nat) (x ix : AV) : AR := match x with
  | .str s => evIndexS st (.str s) ix
  | x => evIndex ag ar z x ix
def evSliceS (st : Bool) (s : ByteArray) : Option Int → Option Int → Option AV → AR
  | some l, some u, none => bif st then .pure (0 ≤ l ∧ l ≤ u ∧ u ≤ s.size) (.str (s.extract l.toNat u.toNat)) else .fail
  | _, _, _ => .fail
def evSlice2 (st : Bool) (sl : Option TypeId) (ar : Option (Nat × TypeId)) (z : Option Nat) (x : AV) (lo hi mx : Option AV) : AR := match x with
  | .str s => evSliceS st s (evBound lo 0) (evBound hi s.size) mx
  | x => evSlice sl ar z x lo hi mx
def tbytes (P : Program) (t : TypeId) : Bool := match P.underlying t with
  | some (.slice e) => match P.underlying e with
    | some (.int .u8) => true
    | _ => false
  | _ => false
def mrg (c : Bool) : AV → AV → AR
  | .bool x, .bool y => .pure True (.bool (bif c then x else y))
  | .bool x, _ => bif c then .pure True (.bool x) else .fail
  | _, .bool y => bif c then .fail else .pure True (.bool y)
  | _, _ => .fail
def evPick (c x y : AV) : AR := match c with
  | .bool c => mrg c x y
  | _ => .fail
def evExtract (x : AV) (i : Nat) : AR := match x with
  | .tup l => .pure (i < l.length) (getL l i)
  | _ => .fail
/-- A number of another kind. -/
def evConv (src : Option Bool) (k : Option IntKind) (x : AV) : AR := match src, k, x with
  | some _, some k, .int _ n => .pure True (.int k (wr k n))
  | _, _, _ => .fail
def evNil (x : AV) : AR := match x with
  | .ptr _ _ _ _ => .pure True x
  | .rptr _ _ _ _ _ => .pure True x
  | .fn _ _ => .pure True x
  | _ => .fail

/-! ### Building -/
def fillA : List AV → List (Nat × Nat × AV) → List AV
  | l, [] => l
  | l, (off, _, v) :: r => fillA (putL l off (vcells v)) r
def fillOk (n : Nat) : List (Nat × Nat × AV) → Bool
  | [] => true
  | (off, z, v) :: r => (vcells v).length == z && vcOk v && decide (off + z ≤ n) && fillOk n r
/-- The places of all fields of a struct. -/
def tplacesL (P : Program) : List Field → Option (List (Nat × Nat))
  | [] => some []
  | f :: r => match tsz P f.type, tplacesL P r with
    | some z, some l => some ((f.offset, z) :: l)
    | _, _ => none
def tplaces (P : Program) (t : TypeId) : Option (List (Nat × Nat)) := match P.underlying t with
  | some (.struct fs) => tplacesL P fs.toList
  | _ => none
def getP : List (Nat × Nat) → Nat → Option (Nat × Nat)
  | [], _ => none
  | a :: _, 0 => some a
  | _ :: l, n + 1 => getP l n
def placeS (pl : List (Nat × Nat)) (ρ : Operand → AV) : List (Nat × Operand) → Option (List (Nat × Nat × AV))
  | [] => some []
  | (i, x) :: r => match getP pl i, placeS pl ρ r with
    | some (off, z), some l => some ((off, z, ρ x) :: l)
    | _, _ => none
def placeA (z : Nat) (ρ : Operand → AV) : List (Nat × Operand) → List (Nat × Nat × AV)
  | [] => []
  | (i, x) :: r => (i * z, z, ρ x) :: placeA z ρ r
def evBuildP (zero : Option (List AV)) (ps : Option (List (Nat × Nat × AV))) : AR := match zero, ps with
  | some l, some ps => bif fillOk l.length ps then .pure True (.agg (fillA l ps)) else .fail
  | _, _ => .fail
def evBuild (pl : Option (List (Nat × Nat))) (ar : Option (Nat × TypeId)) (z : Option Nat) (zero : Option (List AV)) (ρ : Operand → AV) (ps : List (Nat × Operand)) : AR := match pl, ar, z with
  | some pl, _, _ => evBuildP zero (placeS pl ρ ps)
  | none, some _, some z => evBuildP zero (some (placeA z ρ ps))
  | _, _, _ => .fail
def repL (l : List AV) : Nat → List AV
  | 0 => []
  | n + 1 => l ++ repL l n
def evBuildSlice (e : Option TypeId) (z : Option Nat) (zero : Option (List AV)) (len : Nat) (ρ : Operand → AV) (ps : List (Nat × Operand)) (h : List ABlk) : AR := match e, z, zero with
  | some e, some z, some l => bif l.length == z && decide (1 ≤ z) && decide (len * z ≤ 4096) && fillOk (len * z) (placeA z ρ ps) then .heap True (.sl h.length z 0 len false) (h ++ [.row e z len (litC z (fillA (repL l len) (placeA z ρ ps)))]) else .fail
  | _, _, _ => .fail
def evMake (e : Option TypeId) (z by_ : Option Nat) (zero : Option (List AV)) (n c : AV) (h : List ABlk) : AR := match e, z, by_, zero, n, c with
  | some e, some z, some by_, some l, .int .i64 n, .int .i64 c => bif l.length == z && decide (1 ≤ z) then .heap (0 ≤ n ∧ n ≤ c ∧ (by_ : Int) * c ≤ 140737488355328 ∧ c ≤ 140737488355328) (.sl h.length z 0 n.toNat false) (h ++ [.row e z n.toNat fun _ y => getL l y]) else .fail
  | _, _, _, _, _, _ => .fail

/-! ### Slices' contents -/
structure Src where
  ob : Prop
  n : Nat
  c : Nat → Nat → AV
def srcOf (z : Nat) (x : AV) (h : List ABlk) : Option Src := match x with
  | .sl b es i n nl => match geth h b with
    | .row _ es' N c => some ⟨es = z ∧ es' = z ∧ i + n ≤ N, n, subC i c⟩
    | _ => none
  | .csl b es i n _ => match geth h b with
    | .row _ es' N c => some ⟨es = z ∧ es' = z ∧ i + n ≤ N, n, subC i c⟩
    | _ => none
  | .isl b es i j z' n => match geth h b with
    | .lit _ l => some ⟨z' = z ∧ i * es + j + n * z ≤ l.length, n, fun x y => getL l (i * es + j + x * z + y)⟩
    | .row _ es' N c => some ⟨z' = z ∧ es' = es ∧ i < N ∧ j + n * z ≤ es, n, innC i j z c⟩
    | .dead => none
  | .ro es n nl c => some ⟨(n = 0 ∨ es = z), n, c⟩
  | .emp => some ⟨True, 0, fun _ _ => .top⟩
  | .str s => some ⟨z = 1, s.size, strC s⟩
  | _ => none
def cvS : Option Src → AR
  | some x => .pure (x.ob ∧ ∀ i, i < x.n → u8Q (x.c i 0)) (.str (bytesC x.n x.c))
  | none => .fail
/-- A number of another kind; bytes as a string. -/
def evConv2 (src : Option Bool) (k : Option IntKind) (sb ds : Bool) (x : AV) (h : List ABlk) : AR := match x with
  | .int kx n => evConv src k (.int kx n)
  | .str _ => .fail
  | x => bif sb && ds then cvS (srcOf 1 x h) else .fail
def appRes (e : TypeId) (z by_ : Nat) (s : AV) (x : Option Src) (h : List ABlk) : AR := match x with
  | some x => match s with
    | .ro 0 0 true _ => .heap (x.ob ∧ (x.n : Int) * by_ ≤ 140737488355328 ∧ x.n ≤ 140737488355328) (.sl h.length z 0 x.n (x.n == 0)) (h ++ [.row e z x.n x.c])
    | .emp => .heap (x.ob ∧ (x.n : Int) * by_ ≤ 140737488355328 ∧ 0 < x.n ∧ x.n ≤ 140737488355328) (.sl h.length z 0 x.n false) (h ++ [.row e z x.n x.c])
    | .sl b es i n nl => match geth h b with
      | .row e' es' N c => .heap (x.ob ∧ e' = e ∧ es = z ∧ es' = z ∧ i + n ≤ N ∧ ((n + x.n : Nat) : Int) * by_ ≤ 140737488355328 ∧ n + x.n ≤ 140737488355328) (.sl h.length z 0 (n + x.n) (nl && x.n == 0)) (seth h b .dead ++ [.row e z (n + x.n) (appC n (subC i c) x.c)])
      | _ => .fail
    | .csl b es i n cc => match geth h b with
      | .row e' es' N c => bif decide (n + x.n ≤ cc) then .heap (x.ob ∧ e' = e ∧ es = z ∧ es' = z ∧ i + n ≤ N) (.csl b es i (n + x.n) cc) (seth h b (.row e' es' (max N (i + n + x.n)) (ovwC (i + n) x.n c x.c))) else .heap (x.ob ∧ e' = e ∧ es = z ∧ es' = z ∧ i + n ≤ N ∧ ((n + x.n : Nat) : Int) * by_ ≤ 140737488355328 ∧ n + x.n ≤ 140737488355328) (.sl h.length z 0 (n + x.n) false) (h ++ [.row e z (n + x.n) (appC n (subC i c) x.c)])
      | _ => .fail
    | _ => .fail
  | none => .fail
/-- How many cells an element's zero value has. -/
def tzn (P : Program) (t : TypeId) : Option Nat := match P.info? t with
  | some i => i.zero.map fun v => v.cells.size
  | none => none
def evAppend (st : Option TypeId) (xi : Bool) (z by_ zn : Option Nat) (s x : AV) (h : List ABlk) : AR := match st, z, by_, zn with
  | some e, some z, some by_, some zn => bif xi && decide (1 ≤ z) && zn == z then appRes e z by_ s (srcOf z x h) h else .fail
  | _, _, _, _ => .fail
/-- copy: how many elements a slice has; its first elements. -/
def lenS : AV → Option Nat
  | .sl _ _ _ n _ => some n
  | .csl _ _ _ n _ => some n
  | .isl _ _ _ _ _ n => some n
  | .ro _ n _ _ => some n
  | .emp => some 0
  | _ => none
def cutS (k : Nat) : AV → AV
  | .sl b es i _ nl => .sl b es i k nl
  | .csl b es i _ c => .csl b es i k c
  | .isl b es i j z _ => .isl b es i j z k
  | .ro es _ nl c => .ro es k nl c
  | x => x
def evCopyR (z b es i n m : Nat) (x : AV) (h : List ABlk) : AR := match srcOf z (cutS (min m n) x) h with
  | some s => match geth h b with
    | .row e' es' N c => .heap (s.ob ∧ es = z ∧ es' = z ∧ i ≤ N) (.int .i64 (min m n : Nat)) (seth h b (.row e' es' (max N (i + min m n)) (ovwC i (min m n) c s.c)))
    | _ => .fail
  | none => .fail
def evCopy (z : Option Nat) (d x : AV) (h : List ABlk) : AR := match z with
  | some z => match lenS x with
    | some m => bif decide (1 ≤ z) then (match d with
      | .sl b es i n _ => evCopyR z b es i n m x h
      | .csl b es i n _ => evCopyR z b es i n m x h
      | _ => .fail) else .fail
    | none => .fail
  | none => .fail
def evClearR (b es i n : Nat) (l : List AV) (h : List ABlk) : AR := match geth h b with
  | .row e' es' N c => .heap (es = l.length ∧ es' = l.length ∧ i ≤ N) .top (seth h b (.row e' es' (max N (i + n)) (ovwC i n c fun _ y => getL l y)))
  | _ => .fail
def evClear (l : Option (List AV)) (x : AV) (h : List ABlk) : AR := match l with
  | some l => bif decide (1 ≤ l.length) then (match x with
    | .sl b es i n _ => evClearR b es i n l h
    | .csl b es i n _ => evClearR b es i n l h
    | _ => .fail) else .fail
  | none => .fail
def evCap (st : Option TypeId) (x : AV) : AR := match st with
  | some _ => match x with
    | .csl _ _ _ _ c => .pure True (.int .i64 c)
    | _ => .fail
  | none => .fail
/-- append of a make, where the capacity does not bear it. -/
def evAppZ (st : Option TypeId) (xi : Bool) (z by_ : Option Nat) (zl : Option (List AV)) (s x : AV) (h : List ABlk) : AR := match st, z, by_, zl, s, x with
  | some e, some z, some by_, some l, .csl b es i n cc, .int .i64 m => match geth h b with
    | .row e' es' N c => bif xi && z == l.length && decide (1 ≤ l.length) && decide (cc < n + m.toNat) then .heap (0 ≤ m ∧ e' = e ∧ es = l.length ∧ es' = l.length ∧ i + n ≤ N ∧ ((n + m.toNat : Nat) : Int) * by_ ≤ 140737488355328 ∧ n + m.toNat ≤ 140737488355328) (.sl h.length l.length 0 (n + m.toNat) false) (h ++ [.row e l.length (n + m.toNat) (appC n (subC i c) fun _ y => getL l y)]) else .fail
    | _ => .fail
  | _, _, _, _, _, _ => .fail
/-- A whole number's type. -/
def tintk (P : Program) (t : TypeId) : Bool := match P.underlying t with
  | some (.int _) => true
  | _ => false
def orF : AR → AR → AR
  | .fail, r => r
  | r, _ => r
def evLen (ar : Option (Nat × TypeId)) (x : AV) : AR := match ar, x with
  | some (n, _), _ => .pure True (.int .i64 n)
  | none, .sl _ _ _ n _ => .pure True (.int .i64 n)
  | none, .isl _ _ _ _ _ n => .pure True (.int .i64 n)
  | none, .ro _ n _ _ => .pure True (.int .i64 n)
  | none, .emp => .pure True (.int .i64 0)
  | none, .str s => .pure True (.int .i64 s.size)
  | _, _ => .fail
def minI (x y : Int) : Int := if y < x then y else x
def maxI (x y : Int) : Int := if y > x then y else x
end Go.Am

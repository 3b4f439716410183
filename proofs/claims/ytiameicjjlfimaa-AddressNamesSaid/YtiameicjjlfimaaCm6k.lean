/-
  A machine that computes, part 6k: the same operations in small pieces, so that the kernel's steps stay small.
-/
import Derived.Test.YtiameicjjlfimaaCm6
namespace Go.Am
noncomputable section
set_option linter.unusedVariables false
set_option linter.unusedSimpArgs false

def kTmp (m : Nat) (f : Fr) (i : Nat) : Option CV := @Bool.rec (fun _ => Option CV) none (cstrip (fget m f i)) (Nat.blt i m)
def kRho (m : Nat) (f : Fr) (x : Operand) : Option CV := @Operand.rec (fun _ => Option CV) (fun i => kTmp m f i) (fun v => some (ofC v)) (fun _ => none) (fun g => some (.fn g [])) x
theorem kRho_eq (m : Nat) (f : Fr) (x : Operand) : kRho m f x = crho m f x := by
  cases x with
  | tmp i => show kTmp m f i = crho m f (.tmp i); unfold kTmp; simp only [crho]; cases Nat.blt i m <;> rfl
  | const v => rfl
  | global g => rfl
  | func g => rfl
def k1 (x : Option CV) (k : CV → CRes) : CRes := @Option.rec CV (fun _ => CRes) .no k x
theorem k1_eq (x : Option CV) (k : CV → CRes) : k1 x k = c1 x k := by cases x <;> rfl
def kP (x : Option CV) : CRes := @Option.rec CV (fun _ => CRes) .no (fun v => .p v) x
theorem kP_eq (x : Option CV) : kP x = cP x := by cases x <;> rfl

def kbInt (op : BinOp) (k : IntKind) (a : Int) (k' : IntKind) (b : Int) : Option CV := match op with
  | .shl => match b with
    | .ofNat n => some (.int k (shlI k a (.ofNat n)))
    | _ => none
  | .shr => match b with
    | .ofNat n => some (.int k (shrI k a (.ofNat n)))
    | _ => none
  | op => match k == k' with
    | true => cInt op k a b
    | false => none
def iLt (a b : Int) : Bool := match a with
  | .ofNat m => match b with
    | .ofNat n => Nat.blt m n
    | .negSucc _ => false
  | .negSucc m => match b with
    | .ofNat _ => true
    | .negSucc n => Nat.blt n m
def iEq (a b : Int) : Bool := match a with
  | .ofNat m => match b with
    | .ofNat n => Nat.beq m n
    | .negSucc _ => false
  | .negSucc m => match b with
    | .ofNat _ => false
    | .negSucc n => Nat.beq m n
def w64 (x : Int) : Int := @Bool.rec (fun _ => Int) (wr .i64 x) x (inI64 x)
theorem iLt_eq (a b : Int) : iLt a b = bLt a b := by
  unfold iLt bLt
  rw [Bool.eq_iff_iff]
  cases a with
  | ofNat m => cases b with
    | ofNat n => simp only [nblt, decide_eq_true_eq]; exact Int.ofNat_lt.symm
    | negSucc n => simp only [Bool.false_eq_true, decide_eq_true_eq, false_iff]; show ¬ (m : Int) < Int.negSucc n; omega
  | negSucc m => cases b with
    | ofNat n => simp only [decide_eq_true_eq, true_iff]; show Int.negSucc m < (n : Int); omega
    | negSucc n => simp only [nblt, decide_eq_true_eq]; omega
theorem iEq_eq (a b : Int) : iEq a b = bEq a b := by
  unfold iEq bEq
  rw [Bool.eq_iff_iff, beq_iff_eq]
  cases a with
  | ofNat m => cases b with
    | ofNat n => simp; omega
    | negSucc n => simp
  | negSucc m => cases b with
    | ofNat n => simp
    | negSucc n => simp
theorem w64_eq (x : Int) : w64 x = cwr .i64 x := by
  unfold w64 cwr
  cases inI64 x <;> rfl
def kb64 (op : BinOp) (a b : Int) : Option CV := match op with
  | .add => some (.int .i64 (w64 (Int.add a b)))
  | .sub => some (.int .i64 (w64 (Int.sub a b)))
  | .eql => some (.bool (iEq a b))
  | .neq => some (.bool (!iEq a b))
  | .lss => some (.bool (iLt a b))
  | .leq => some (.bool (!iLt b a))
  | .gtr => some (.bool (iLt b a))
  | .geq => some (.bool (!iLt a b))
  | op => kbInt op .i64 a .i64 b
theorem bLe_not (a b : Int) : bLe a b = !bLt b a := by
  unfold bLe bLt
  rw [Bool.eq_iff_iff]
  simp
theorem kb64_eq (op : BinOp) (a b : Int) : kb64 op a b = kbInt op .i64 a .i64 b := by
  cases op <;> simp only [kb64, kbInt, beq_self_eq_true, cInt, w64_eq, iLt_eq, iEq_eq, bLe_not, Bool.not_not] <;> rfl
def kb64Y (op : BinOp) (a : Int) (k' : IntKind) (b : Int) : Option CV := match k' with
  | .i64 => kb64 op a b
  | k' => kbInt op .i64 a k' b
def kbIB (op : BinOp) (k : IntKind) (a : Int) (k' : IntKind) (b : Int) : Option CV := match k with
  | .i64 => kb64Y op a k' b
  | k => kbInt op k a k' b
theorem kbIB_eq (op : BinOp) (k : IntKind) (a : Int) (k' : IntKind) (b : Int) : kbIB op k a k' b = kbInt op k a k' b := by
  cases k <;> try rfl
  cases k' <;> try rfl
  exact kb64_eq op a b
def kbI (op : BinOp) (k : IntKind) (a : Int) (y : CV) : Option CV := match y with
  | .int k' b => kbIB op k a k' b
  | _ => none
def kbS (op : BinOp) (a : List Nat) (y : CV) : Option CV := match y with
  | .str b => cStr op a b
  | _ => none
def kbB (bt : Bool) (op : BinOp) (a : Bool) (y : CV) : Option CV := match y with
  | .bool b => match bt, op with
    | true, .eql => some (.bool (bB a b))
    | true, .neq => some (.bool (!bB a b))
    | _, _ => none
  | _ => none
def kbAgg (sh : Option (List Leaf)) (op : BinOp) (l m : List CV) : Option CV := match sh, op with
    | some sh, .eql => match ceqSh sh l m with
      | some r => some (.bool r)
      | none => none
    | some sh, .neq => match ceqSh sh l m with
      | some r => some (.bool (!r))
      | none => none
    | _, _ => none
def kbA (sh : Option (List Leaf)) (op : BinOp) (l : List CV) (y : CV) : Option CV := match y with
  | .agg m => kbAgg sh op l m
  | _ => none
def kBin (bt : Bool) (sl : Option TypeId) (sh : Option (List Leaf)) (op : BinOp) (x y : CV) : Option CV := match x with
  | .int k a => kbI op k a y
  | .str a => kbS op a y
  | .bool a => kbB bt op a y
  | .agg l => kbA sh op l y
  | .sl _ _ _ _ nl => cNilT sl op nl y
  | .ro _ nl _ => cNilT sl op nl y
  | _ => none
theorem kBin_eq (bt : Bool) (sl : Option TypeId) (sh : Option (List Leaf)) (op : BinOp) (x y : CV) : kBin bt sl sh op x y = cBin bt sl sh op x y := by
  cases x <;> cases y <;> try rfl
  exact kbIB_eq ..
def kRowAt (r : List (List CV)) : Nat → Option (List CV) := @List.rec (List CV) (fun _ => Nat → Option (List CV)) (fun _ => none) (fun a _ ih j => @Nat.rec (fun _ => Option (List CV)) (some a) (fun j _ => ih j) j) r
theorem kRowAt_eq (r : List (List CV)) (i : Nat) : kRowAt r i = rowAt r i := by
  induction r generalizing i with
  | nil => rfl
  | cons a r ih => cases i with
    | zero => rfl
    | succ i => exact ih i
def klRow (ag : Bool) (m es j : Nat) (a : Option (List CV)) : Option CV := match Nat.ble (j + (match ag with | true => m | false => 1)) es with
  | true => match a with
    | some a => cells ag m j a
    | none => none
  | false => none
def klRowB (ag : Bool) (m es es' i j : Nat) (r : List (List CV)) : Option CV := match Nat.beq es' es with
  | true => klRow ag m es j (kRowAt r i)
  | false => none
def klB (ag : Bool) (m es i j : Nat) (x : CB) : Option CV := match x with
  | .lit _ l => cells ag m (i * es + j) l
  | .row _ es' r => klRowB ag m es es' i j r
  | .dead => none
def klP (ag : Bool) (m b es i j n : Nat) (h : Hp) : Option CV := match Nat.blt b n with
  | true => klB ag m es i j (hget h b)
  | false => none
def klV (ag : Bool) (m : Nat) (p : CV) (n : Nat) (h : Hp) : Option CV := match p with
  | .ptr b es i j => klP ag m b es i j n h
  | .rptr es i j r => klRow ag m es j (kRowAt r i)
  | _ => none
def kLoad (ag : Option Bool) (z : Option Nat) (p : CV) (n : Nat) (h : Hp) : Option CV := match ag, z with
  | some ag, some m => klV ag m p n h
  | _, _ => none
theorem klRow_eq (ag : Bool) (m es j : Nat) (a : Option (List CV)) : klRow ag m es j a = (match Nat.ble (j + (match ag with | true => m | false => 1)) es with
  | true => (match a with
    | some a => cells ag m j a
    | none => none)
  | false => none) := rfl
theorem kLoad_eq (ag : Option Bool) (z : Option Nat) (p : CV) (n : Nat) (h : Hp) : kLoad ag z p n h = cLoad ag z p n h := by
  cases ag with
  | none => rfl
  | some ag =>
    cases z with
    | none => rfl
    | some m =>
      have hk : kRowAt = rowAt := by funext r i; exact kRowAt_eq r i
      cases p <;> try rfl
      case rptr es i j r => show klRow ag m es j (kRowAt r i) = _; rw [hk]; rfl
      rename_i b es i j
      show klP ag m b es i j n h = _
      unfold klP cLoad
      simp only
      cases Nat.blt b n with
      | false => rfl
      | true =>
        simp only
        cases hget h b with
        | dead => rfl
        | lit e l => rfl
        | row e es' r =>
          simp only [klB, klRowB, klRow, hk]
          cases Nat.beq es' es
          · rfl
          · simp only [Bool.true_and]; rfl
def koMove (P : Program) (sh : TypeId → Option (List Leaf)) (m : Nat) (f : Fr) (n : Nat) (h : Hp) (x : Operand) : CRes := kP (kRho m f x)
def koPick (P : Program) (sh : TypeId → Option (List Leaf)) (m : Nat) (f : Fr) (n : Nat) (h : Hp) (c a b : Operand) : CRes := k1 (kRho m f c) fun c => match c with
    | .bool true => kP (kRho m f a)
    | .bool false => kP (kRho m f b)
    | _ => .no
def koAlloc (P : Program) (sh : TypeId → Option (List Leaf)) (m : Nat) (f : Fr) (n : Nat) (h : Hp) (e : TypeId) : CRes := match czero P e with
    | some l => cN (.ptr n 0 0 0) (.lit e l) n h
    | none => .no
def koBox (P : Program) (sh : TypeId → Option (List Leaf)) (m : Nat) (f : Fr) (n : Nat) (h : Hp) (e : TypeId) (x : Operand) : CRes := k1 (kRho m f x) fun v => match cvOk v with
    | true => cN (.ptr n 0 0 0) (.lit e (ccells v)) n h
    | false => .no
def koBuild (P : Program) (sh : TypeId → Option (List Leaf)) (m : Nat) (f : Fr) (n : Nat) (h : Hp) (y : TypeId) (ps : Array (Nat × Operand)) : CRes := kP (cBuild (tplaces P y) (tarr P y) ((tarr P y).bind fun q => tsz P q.2) (czero P y) m f ps.toList)
def koBuildSlice (P : Program) (sh : TypeId → Option (List Leaf)) (m : Nat) (f : Fr) (n : Nat) (h : Hp) (y : TypeId) (k : Nat) (ps : Array (Nat × Operand)) : CRes := match cBuildSlice (tslice P y) ((tslice P y).bind (tsz P)) ((tslice P y).bind (czero P)) k m f ps.toList with
    | some (z, x) => cN (.sl n z 0 k false) x n h
    | none => .no
def koLoad (P : Program) (sh : TypeId → Option (List Leaf)) (m : Nat) (f : Fr) (n : Nat) (h : Hp) (y : TypeId) (a : Operand) : CRes := k1 (kRho m f a) fun p => kP (kLoad (tagg P y) (tsz P y) p n h)
def koStore (P : Program) (sh : TypeId → Option (List Leaf)) (m : Nat) (f : Fr) (n : Nat) (h : Hp) (y : TypeId) (a x : Operand) : CRes := k1 (kRho m f a) fun p => k1 (kRho m f x) fun v => match cStore (tsz P y) p v n h with
    | some h' => .w .top n h'
    | none => .no
def koNilCheck (P : Program) (sh : TypeId → Option (List Leaf)) (m : Nat) (f : Fr) (n : Nat) (h : Hp) (x : Operand) : CRes := k1 (kRho m f x) fun v => kP (cNil v)
def koBin (P : Program) (sh : TypeId → Option (List Leaf)) (m : Nat) (f : Fr) (n : Nat) (h : Hp) (op : BinOp) (y : TypeId) (a b : Operand) : CRes := k1 (kRho m f a) fun x => k1 (kRho m f b) fun z => kP (kBin (tbool P y) (tslice P y) (sh y) op x z)
def koUn (P : Program) (sh : TypeId → Option (List Leaf)) (m : Nat) (f : Fr) (n : Nat) (h : Hp) (op : UnOp) (x : Operand) : CRes := k1 (kRho m f x) fun v => kP (cUn op v)
def koConv (P : Program) (sh : TypeId → Option (List Leaf)) (m : Nat) (f : Fr) (n : Nat) (h : Hp) (s d : TypeId) (x : Operand) : CRes := k1 (kRho m f x) fun v => kP (cConv (tany P s) (tint P d) (tbytes P s) (tstr P d) v n h)
def koMakeFunc (P : Program) (sh : TypeId → Option (List Leaf)) (m : Nat) (f : Fr) (n : Nat) (h : Hp) (fn : Fn) (first captured : Array Operand) : CRes := match fn, first.toList, crhoL m f captured.toList with
    | .func g, [], some l => .p (.fn g l)
    | _, _, _ => .no
def koMakeSlice (P : Program) (sh : TypeId → Option (List Leaf)) (m : Nat) (f : Fr) (n : Nat) (h : Hp) (y : TypeId) (k c : Operand) : CRes := k1 (kRho m f k) fun k => k1 (kRho m f c) fun c => match cMake (tslice P y) ((tslice P y).bind (tsz P)) ((tslice P y).bind (tby P)) ((tslice P y).bind (czero P)) k c with
    | some (q, z, x) => cN (.sl n z 0 q false) x n h
    | none => .no
def koSlice (P : Program) (sh : TypeId → Option (List Leaf)) (m : Nat) (f : Fr) (n : Nat) (h : Hp) (y : TypeId) (x : Operand) (lo hi mx : Option Operand) : CRes := k1 (kRho m f x) fun v => match crhoO m f lo, crhoO m f hi, crhoO m f mx with
    | some lo, some hi, some mx => kP (cSlice (tstr P y) (tslice P y) (tarr P y) (((tslice P y).or ((tarr P y).map (·.2))).bind (tsz P)) v lo hi mx)
    | _, _, _ => .no
def koFieldAddr (P : Program) (sh : TypeId → Option (List Leaf)) (m : Nat) (f : Fr) (n : Nat) (h : Hp) (s : TypeId) (x : Operand) (k : Nat) : CRes := k1 (kRho m f x) fun v => kP (cFieldAddr (tfld P s k) v)
def koField (P : Program) (sh : TypeId → Option (List Leaf)) (m : Nat) (f : Fr) (n : Nat) (h : Hp) (s : TypeId) (x : Operand) (k : Nat) : CRes := k1 (kRho m f x) fun v => kP (cField ((tfld P s k).bind fun q => tagg P q.1) (tfld P s k) v)
def koIndexAddr (P : Program) (sh : TypeId → Option (List Leaf)) (m : Nat) (f : Fr) (n : Nat) (h : Hp) (y : TypeId) (x i : Operand) : CRes := k1 (kRho m f x) fun v => k1 (kRho m f i) fun i => kP (cIndexAddr (tslice P y) (tarr P y) (((tslice P y).or ((tarr P y).map (·.2))).bind (tsz P)) v i)
def koIndex (P : Program) (sh : TypeId → Option (List Leaf)) (m : Nat) (f : Fr) (n : Nat) (h : Hp) (y : TypeId) (x i : Operand) : CRes := k1 (kRho m f x) fun v => k1 (kRho m f i) fun i => kP (cIndex (tstr P y) ((tarr P y).bind fun q => tagg P q.2) (tarr P y) ((tarr P y).bind fun q => tsz P q.2) v i)
def koExtract (P : Program) (sh : TypeId → Option (List Leaf)) (m : Nat) (f : Fr) (n : Nat) (h : Hp) (x : Operand) (i : Nat) : CRes := k1 (kRho m f x) fun v => kP (cExtract v i)
def koCall (P : Program) (sh : TypeId → Option (List Leaf)) (m : Nat) (f : Fr) (n : Nat) (h : Hp) (c : Call) : CRes := match c.callee with
    | .builtin b => match crhoL m f c.args.toList with
      | some l => cBuiltin P b c.argTypes.toList l n h
      | none => .no
    | _ => .no
def kO (P : Program) (sh : TypeId → Option (List Leaf)) (m : Nat) (f : Fr) (n : Nat) (h : Hp) (op : Op) : CRes := @Op.rec (fun _ => CRes)
  (fun x => koMove P sh m f n h x)
  (fun x => koMove P sh m f n h x)
  (fun c a b => koPick P sh m f n h c a b)
  (fun e => koAlloc P sh m f n h e)
  (fun e x => koBox P sh m f n h e x)
  (fun t ps => koBuild P sh m f n h t ps)
  (fun t l ps => koBuildSlice P sh m f n h t l ps)
  (fun _ _ _ _ => .no)
  (fun t a => koLoad P sh m f n h t a)
  (fun t a v => koStore P sh m f n h t a v)
  (fun _ => .no)
  (fun _ => .no)
  (fun x => koNilCheck P sh m f n h x)
  (fun op t x y _ => koBin P sh m f n h op t x y)
  (fun op _ x => koUn P sh m f n h op x)
  (fun s d x => koConv P sh m f n h s d x)
  (fun _ _ => .no)
  (fun _ _ => .no)
  (fun fn a b => koMakeFunc P sh m f n h fn a b)
  (fun _ _ => .no)
  (fun _ _ => .no)
  (fun t l c => koMakeSlice P sh m f n h t l c)
  (fun t x l h2 m2 => koSlice P sh m f n h t x l h2 m2)
  (fun t x k => koFieldAddr P sh m f n h t x k)
  (fun t x k => koField P sh m f n h t x k)
  (fun t x i => koIndexAddr P sh m f n h t x i)
  (fun t x i => koIndex P sh m f n h t x i)
  (fun _ _ _ _ => .no)
  (fun _ _ _ _ => .no)
  (fun _ _ _ => .no)
  (fun _ _ _ _ => .no)
  (fun _ _ => .no)
  (fun _ _ => .no)
  (fun _ => .no)
  (fun _ _ _ _ => .no)
  (fun x i => koExtract P sh m f n h x i)
  (fun c => koCall P sh m f n h c)
  (fun _ => .no)
  (fun _ => .no)
  (fun _ => .no)
  (fun _ _ => .no)
  (fun _ _ _ => .no)
  (fun _ _ => .no)
  op
theorem kO_eq (P : Program) (sh : TypeId → Option (List Leaf)) (m : Nat) (f : Fr) (n : Nat) (h : Hp) (op : Op) : kO P sh m f n h op = cO P sh m f n h op := by
  have e1 : kRho m f = crho m f := funext fun x => kRho_eq m f x
  have e2 : k1 = c1 := funext fun x => funext fun k => k1_eq x k
  have e3 : kP = cP := funext fun x => kP_eq x
  have e4 : kBin = cBin := by funext a b c d u g; exact kBin_eq a b c d u g
  have e5 : kLoad = cLoad := by funext a b c d u; exact kLoad_eq a b c d u
  cases op <;> simp only [kO] <;> try rfl
  all_goals (simp only [koMove, koPick, koAlloc, koBox, koBuild, koBuildSlice, koLoad, koStore, koNilCheck, koBin, koUn, koConv, koMakeFunc, koMakeSlice, koSlice, koFieldAddr, koField, koIndexAddr, koIndex, koExtract, koCall, e1, e2, e3, e4, e5]; rfl)

/-! ### With calls -/
abbrev Cl := FuncId → List CV → Nat → Hp → CRes
def cX (P : Program) (sh : TypeId → Option (List Leaf)) (cl : Cl) (m : Nat) (f : Fr) (n : Nat) (h : Hp) (op : Op) : CRes := match op with
  | .call c => match c.callee with
    | .value fo => c1 (crho m f fo) fun g => match g with
      | .fn k caps => match crhoL m f c.args.toList with
        | some l => cl k (l ++ caps) n h
        | none => .no
      | _ => .no
    | _ => cO P sh m f n h (.call c)
  | op => cO P sh m f n h op
def kGo (cl : Cl) (n : Nat) (h : Hp) (l : Option (List CV)) (g : CV) : CRes := match g with
  | .fn k caps => match l with
    | some l => cl k (l ++ caps) n h
    | none => .no
  | _ => .no
def kxCall (P : Program) (sh : TypeId → Option (List Leaf)) (cl : Cl) (m : Nat) (f : Fr) (n : Nat) (h : Hp) (c : Call) : CRes := match c.callee with
  | .value fo => k1 (kRho m f fo) fun g => kGo cl n h (crhoL m f c.args.toList) g
  | .builtin b => koCall P sh m f n h c
  | .invoke _ _ => .no
def kX (P : Program) (sh : TypeId → Option (List Leaf)) (cl : Cl) (m : Nat) (f : Fr) (n : Nat) (h : Hp) (op : Op) : CRes := @Op.rec (fun _ => CRes)
  (fun x => koMove P sh m f n h x)
  (fun x => koMove P sh m f n h x)
  (fun c a b => koPick P sh m f n h c a b)
  (fun e => koAlloc P sh m f n h e)
  (fun e x => koBox P sh m f n h e x)
  (fun t ps => koBuild P sh m f n h t ps)
  (fun t l ps => koBuildSlice P sh m f n h t l ps)
  (fun _ _ _ _ => .no)
  (fun t a => koLoad P sh m f n h t a)
  (fun t a v => koStore P sh m f n h t a v)
  (fun _ => .no)
  (fun _ => .no)
  (fun x => koNilCheck P sh m f n h x)
  (fun op t x y _ => koBin P sh m f n h op t x y)
  (fun op _ x => koUn P sh m f n h op x)
  (fun s d x => koConv P sh m f n h s d x)
  (fun _ _ => .no)
  (fun _ _ => .no)
  (fun fn a b => koMakeFunc P sh m f n h fn a b)
  (fun _ _ => .no)
  (fun _ _ => .no)
  (fun t l c => koMakeSlice P sh m f n h t l c)
  (fun t x l h2 m2 => koSlice P sh m f n h t x l h2 m2)
  (fun t x k => koFieldAddr P sh m f n h t x k)
  (fun t x k => koField P sh m f n h t x k)
  (fun t x i => koIndexAddr P sh m f n h t x i)
  (fun t x i => koIndex P sh m f n h t x i)
  (fun _ _ _ _ => .no)
  (fun _ _ _ _ => .no)
  (fun _ _ _ => .no)
  (fun _ _ _ _ => .no)
  (fun _ _ => .no)
  (fun _ _ => .no)
  (fun _ => .no)
  (fun _ _ _ _ => .no)
  (fun x i => koExtract P sh m f n h x i)
  (fun c => kxCall P sh cl m f n h c)
  (fun _ => .no)
  (fun _ => .no)
  (fun _ => .no)
  (fun _ _ => .no)
  (fun _ _ _ => .no)
  (fun _ _ => .no)
  op
theorem kX_eq (P : Program) (sh : TypeId → Option (List Leaf)) (cl : Cl) (m : Nat) (f : Fr) (n : Nat) (h : Hp) (op : Op) : kX P sh cl m f n h op = cX P sh cl m f n h op := by
  have hk := kO_eq P sh m f n h
  cases op
  case call c =>
    obtain ⟨callee, args, ts⟩ := c
    cases callee with
    | value fo =>
      show (k1 (kRho m f fo) fun g => kGo cl n h (crhoL m f args.toList) g) = _
      simp only [k1_eq, kRho_eq, cX]
      congr 1
    | builtin b => exact hk (.call ⟨.builtin b, args, ts⟩)
    | invoke r mm => exact hk (.call ⟨.invoke r mm, args, ts⟩)
  case move x => exact hk (.move x)
  case assign x => exact hk (.assign x)
  case pick c a b => exact hk (.pick c a b)
  case alloc e => exact hk (.alloc e)
  case box e x => exact hk (.box e x)
  case build t ps => exact hk (.build t ps)
  case buildSlice t l ps => exact hk (.buildSlice t l ps)
  case insert t a b c => exact hk (.insert t a b c)
  case load t a => exact hk (.load t a)
  case store t a v => exact hk (.store t a v)
  case ready g => exact hk (.ready g)
  case waits g => exact hk (.waits g)
  case nilCheck x => exact hk (.nilCheck x)
  case binOp op t x y yt => exact hk (.binOp op t x y yt)
  case unOp op t x => exact hk (.unOp op t x)
  case convert s d x => exact hk (.convert s d x)
  case sliceToArrayPointer d x => exact hk (.sliceToArrayPointer d x)
  case makeInterface t x => exact hk (.makeInterface t x)
  case makeFunc fn a b => exact hk (.makeFunc fn a b)
  case makeMap t r => exact hk (.makeMap t r)
  case makeChan t s => exact hk (.makeChan t s)
  case makeSlice t l c => exact hk (.makeSlice t l c)
  case slice t x l h2 m2 => exact hk (.slice t x l h2 m2)
  case fieldAddr t x k => exact hk (.fieldAddr t x k)
  case field t x k => exact hk (.field t x k)
  case indexAddr t x i => exact hk (.indexAddr t x i)
  case index t x i => exact hk (.index t x i)
  case lookup t x i c => exact hk (.lookup t x i c)
  case mapUpdate t a b c => exact hk (.mapUpdate t a b c)
  case mapEntry t a b => exact hk (.mapEntry t a b)
  case entryStore t a b c => exact hk (.entryStore t a b c)
  case range t x => exact hk (.range t x)
  case next i s => exact hk (.next i s)
  case entry i => exact hk (.entry i)
  case typeAssert x a b c => exact hk (.typeAssert x a b c)
  case extract x i => exact hk (.extract x i)
  case go c => exact hk (.go c)
  case defer c => exact hk (.defer c)
  case panic x => exact hk (.panic x)
  case send a b => exact hk (.send a b)
  case recv t a b => exact hk (.recv t a b)
  case select a b => exact hk (.select a b)
end
end Go.Am

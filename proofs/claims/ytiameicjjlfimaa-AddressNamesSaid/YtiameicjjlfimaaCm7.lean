/-
  A machine that computes, part 7: regions, code, calls (the definitions).
-/
import Derived.Test.YtiameicjjlfimaaCm6k
namespace Go.Am
noncomputable section
set_option linter.unusedVariables false
set_option linter.unusedSimpArgs false

/-! ### Arguments, as who only reads sees them -/
def croV (n : Nat) (h : Hp) : Nat → CV → CV
  | 0, _ => .top
  | k + 1, v => match v with
    | .ptr b es i j => match Nat.blt b n with
      | true => match hget h b with
        | .lit _ l => .rptr l.length 0 (i * es + j) [l.map (croV n h k)]
        | .row _ es' r => match Nat.beq es' es with
          | true => .rptr es' i j (r.map fun a => a.map (croV n h k))
          | false => .top
        | .dead => .top
      | false => .top
    | .sl b es i m nl => match Nat.blt b n with
      | true => match hget h b with
        | .row _ es' r => match Nat.beq es' es, partR i m r with
          | true, some d => .ro es nl (d.map fun a => a.map (croV n h k))
          | _, _ => .top
        | _ => .top
      | false => .top
    | .isl b es i j z m => match cSrc z (.isl b es i j z m) n h with
      | some d => .ro z false (d.map fun a => a.map (croV n h k))
      | none => .top
    | .agg l => .agg (l.map (croV n h k))
    | .tup l => .tup (l.map (croV n h k))
    | .fn f l => .fn f (l.map (croV n h k))
    | .opt g v => .top
    | v => v

def isAt : CV → Bool
  | .bool _ => true
  | .int _ _ => true
  | .str _ => true
  | _ => false
def allAt (l : List CV) : Bool := @List.rec CV (fun _ => Bool) true (fun a _ ih => @Bool.rec (fun _ => Bool) false ih (isAt a)) l
theorem isAt_cro {n : Nat} {h : Hp} {k : Nat} {a : CV} (ha : isAt a = true) : croV n h (k + 1) a = a := by
  cases a <;> first | rfl | cases ha
theorem allAt_cro {n : Nat} {h : Hp} {k : Nat} : ∀ {l : List CV}, allAt l = true → l.map (croV n h (k + 1)) = l := by
  intro l
  induction l with
  | nil => intro _; rfl
  | cons a l ih =>
    intro hl
    have hl : @Bool.rec (fun _ => Bool) false (allAt l) (isAt a) = true := hl
    cases ha : isAt a with
    | false => rw [ha] at hl; cases hl
    | true => rw [ha] at hl; rw [List.map_cons, isAt_cro ha, ih hl]
def croF (n : Nat) (h : Hp) (v : CV) : CV := match v with
  | .int k x => .int k x
  | .bool b => .bool b
  | .str s => .str s
  | .agg l => @Bool.rec (fun _ => CV) (croV n h 50 (.agg l)) (.agg l) (allAt l)
  | .ro es nl r => .ro es nl r
  | v => croV n h 50 v
theorem croF_eq (n : Nat) (h : Hp) (v : CV) : croF n h v = croV n h 50 v := by
  cases v <;> try rfl
  rename_i l
  show @Bool.rec (fun _ => CV) (croV n h 50 (.agg l)) (.agg l) (allAt l) = _
  cases hl : allAt l with
  | false => rfl
  | true => show CV.agg l = .agg (l.map (croV n h 49)); rw [allAt_cro hl]

/-! ### What a result brings along -/
mutual
def crefs : CV → List Nat
  | .ptr b _ _ _ => [b]
  | .sl b _ _ _ _ => [b]
  | .isl b _ _ _ _ _ => [b]
  | .agg l => crefsL l
  | .tup l => crefsL l
  | .fn _ l => crefsL l
  | .opt _ v => crefs v
  | .top => []
  | .bool _ => []
  | .int _ _ => []
  | .str _ => []
  | .nilp => []
  | .rptr _ _ _ _ => []
  | .ro _ _ _ => []
  | .emp => []
  | .nilf => []
def crefsL : List CV → List Nat
  | [] => []
  | a :: l => match crefs a with
    | [] => crefsL l
    | r => r ++ crefsL l
end
def crefsR : List (List CV) → List Nat
  | [] => []
  | a :: l => match crefsL a with
    | [] => crefsR l
    | r => r ++ crefsR l
def crefsB : CB → List Nat
  | .dead => []
  | .lit _ l => crefsL l
  | .row _ _ r => crefsR r
def inN (b : Nat) : List Nat → Bool
  | [] => false
  | a :: l => match Nat.beq b a with
    | true => true
    | false => inN b l
/-- The blocks that are reached, without repetition. -/
def reach (h : Hp) : Nat → List Nat → List Nat → List Nat
  | 0, _, acc => acc
  | _ + 1, [], acc => acc
  | k + 1, b :: todo, acc => match inN b acc with
    | true => reach h k todo acc
    | false => reach h k (crefsB (hget h b) ++ todo) (acc ++ [b])
def posN (b : Nat) : List Nat → Option Nat
  | [] => none
  | a :: l => match Nat.beq b a with
    | true => some 0
    | false => match posN b l with
      | some p => some (p + 1)
      | none => none
mutual
/-- A value of the callee's in the caller's numbers. -/
def cad (ν : List Nat) (n : Nat) : CV → Option CV
  | .ptr b es i j => match posN b ν with
    | some p => some (.ptr (n + p) es i j)
    | none => none
  | .sl b es i m nl => match posN b ν with
    | some p => some (.sl (n + p) es i m nl)
    | none => none
  | .isl b es i j z m => match posN b ν with
    | some p => some (.isl (n + p) es i j z m)
    | none => none
  | .ro es nl r => match r with
    | [] => some (.ro es nl [])
    | _ :: _ => none
  | .rptr _ _ _ _ => none
  | .agg l => match cadL ν n l with
    | some l => some (.agg l)
    | none => none
  | .tup l => match cadL ν n l with
    | some l => some (.tup l)
    | none => none
  | .fn f l => match cadL ν n l with
    | some l => some (.fn f l)
    | none => none
  | .opt g v => match cad ν n v with
    | some v => some (.opt g v)
    | none => none
  | .top => some .top
  | .bool b => some (.bool b)
  | .int k m => some (.int k m)
  | .str s => some (.str s)
  | .nilp => some .nilp
  | .emp => some .emp
  | .nilf => some .nilf
def cadL (ν : List Nat) (n : Nat) : List CV → Option (List CV)
  | [] => some []
  | a :: l => match cad ν n a with
    | some a => match cadL ν n l with
      | some l => some (a :: l)
      | none => none
    | none => none
end
def cadR (ν : List Nat) (n : Nat) : List (List CV) → Option (List (List CV))
  | [] => some []
  | a :: l => match cadL ν n a with
    | some a => match cadR ν n l with
      | some l => some (a :: l)
      | none => none
    | none => none
def cadB (ν : List Nat) (n : Nat) : CB → Option CB
  | .dead => none
  | .lit e l => match cadL ν n l with
    | some l => some (.lit e l)
    | none => none
  | .row e es r => match cadR ν n r with
    | some r => some (.row e es r)
    | none => none
/-- The callee's blocks laid behind the caller's. -/
def layB (ν : List Nat) (n : Nat) (h1 : Hp) : List Nat → Nat → Hp → Option Hp
  | [], _, h => some h
  | b :: r, i, h => match cadB ν n (hget h1 b) with
    | some x => match cnew x i h with
      | some h' => layB ν n h1 r (i + 1) h'
      | none => none
    | none => none
def ltAll (n : Nat) : List Nat → Bool
  | [] => true
  | b :: l => match Nat.blt b n with
    | true => ltAll n l
    | false => false
def adoptC (v : CV) (n1 : Nat) (h1 : Hp) (n : Nat) (h : Hp) : CRes := match crefs v with
  | [] => match cad [] n v with
    | some v' => .p v'
    | none => .no
  | rs => match reach h1 1000 rs [] with
    | ν => match ltAll n1 ν, cad ν n v with
      | true, some v' => match layB ν n h1 ν n h with
        | some h' => .w v' (n + ν.length) h'
        | none => .no
      | _, _ => .no

/-! ### Regions -/
def kDst (all : List Oper) : Nat → Option Nat := @List.rec Oper (fun _ => Nat → Option Nat) (fun _ => none) (fun o _ ih j => @Nat.rec (fun _ => Option Nat) o.dst (fun j _ => ih j) j) all
theorem kDst_eq (all : List Oper) (j : Nat) : kDst all j = dstOf all j := by
  induction all generalizing j with
  | nil => rfl
  | cons o l ih => cases j with
    | zero => rfl
    | succ j => exact ih j
/-- The value of a guard: none: not told. -/
def gdV (w : Bool) (v : CV) : Option Bool := match v with
  | .bool b => some (gvw b w)
  | .opt c (.bool b) => some (c && gvw b w)
  | _ => none
def gdS (m : Nat) (f : Fr) (w : Bool) (d : Option Nat) : Option Bool := match d with
  | some d => match Nat.blt d m with
    | true => gdV w (fget m f d)
    | false => none
  | none => none
/-- none: not told; some none: no guard. -/
def cGuard (all : List Oper) (m : Nat) (f : Fr) (g : Option (Nat × Bool)) : Option (Option Bool) := match g with
  | none => some none
  | some (j, w) => match gdS m f w (kDst all j) with
    | some b => some (some b)
    | none => none
def cset (m : Nat) (f : Fr) (d : Option Nat) (v : CV) : Option Fr := match d with
  | none => some f
  | some d => match Nat.blt d m with
    | true => some (fset m f d v)
    | false => none
def wrapG (g : Option Bool) (v : CV) : CV := match g with
  | none => v
  | some _ => .opt true v
abbrev Kf := Fr → Nat → Hp → Option (Fr × Nat × Hp)
def kSet (x : Option Fr) (n : Nat) (h : Hp) (ih : Kf) : Option (Fr × Nat × Hp) := match x with
  | some f => ih f n h
  | none => none
def kPut (m : Nat) (f : Fr) (n : Nat) (h : Hp) (d : Option Nat) (g : Option Bool) (ih : Kf) (r : CRes) : Option (Fr × Nat × Hp) := match r with
  | .no => none
  | .p v => kSet (cset m f d (wrapG g v)) n h ih
  | .w v n' h' => kSet (cset m f d (wrapG g v)) n' h' ih
def kGrd (P : Program) (sh : TypeId → Option (List Leaf)) (cl : Cl) (m : Nat) (o : Oper) (ih : Kf) (f : Fr) (n : Nat) (h : Hp) (g : Option (Option Bool)) : Option (Fr × Nat × Hp) := match g with
  | none => none
  | some none => kPut m f n h o.dst none ih (kX P sh cl m f n h o.op)
  | some (some true) => kPut m f n h o.dst (some true) ih (kX P sh cl m f n h o.op)
  | some (some false) => kSet (cset m f o.dst (.opt false (.bool false))) n h ih
/-! The same by recursors. -/
def rSet (x : Option Fr) (n : Nat) (h : Hp) (ih : Kf) : Option (Fr × Nat × Hp) := @Option.rec Fr (fun _ => Option (Fr × Nat × Hp)) none (fun f => ih f n h) x
theorem rSet_eq (x : Option Fr) (n : Nat) (h : Hp) (ih : Kf) : rSet x n h ih = kSet x n h ih := by cases x <;> rfl
def rcset (m : Nat) (f : Fr) (d : Option Nat) (v : CV) : Option Fr := @Option.rec Nat (fun _ => Option Fr) (some f) (fun d => @Bool.rec (fun _ => Option Fr) none (some (fset m f d v)) (Nat.blt d m)) d
theorem rcset_eq (m : Nat) (f : Fr) (d : Option Nat) (v : CV) : rcset m f d v = cset m f d v := by
  cases d with
  | none => rfl
  | some d => simp only [rcset, cset]; cases Nat.blt d m <;> rfl
def rPut0 (m : Nat) (f : Fr) (n : Nat) (h : Hp) (d : Option Nat) (ih : Kf) (r : CRes) : Option (Fr × Nat × Hp) :=
  @CRes.rec (fun _ => Option (Fr × Nat × Hp)) none (fun v => rSet (rcset m f d v) n h ih) (fun v n' h' => rSet (rcset m f d v) n' h' ih) r
theorem rPut0_eq (m : Nat) (f : Fr) (n : Nat) (h : Hp) (d : Option Nat) (ih : Kf) (r : CRes) : rPut0 m f n h d ih r = kPut m f n h d none ih r := by
  cases r with
  | no => rfl
  | p v => show rSet (rcset m f d v) n h ih = _; rw [rSet_eq, rcset_eq]; rfl
  | w v n' h' => show rSet (rcset m f d v) n' h' ih = _; rw [rSet_eq, rcset_eq]; rfl
def rGrd (P : Program) (sh : TypeId → Option (List Leaf)) (cl : Cl) (all : List Oper) (m : Nat) (o : Oper) (ih : Kf) (f : Fr) (n : Nat) (h : Hp) (g : Option (Nat × Bool)) : Option (Fr × Nat × Hp) :=
  @Option.rec (Nat × Bool) (fun _ => Option (Fr × Nat × Hp)) (rPut0 m f n h o.dst ih (kX P sh cl m f n h o.op)) (fun q => kGrd P sh cl m o ih f n h (cGuard all m f (some q))) g
theorem rGrd_eq (P : Program) (sh : TypeId → Option (List Leaf)) (cl : Cl) (all : List Oper) (m : Nat) (o : Oper) (ih : Kf) (f : Fr) (n : Nat) (h : Hp) (g : Option (Nat × Bool)) : rGrd P sh cl all m o ih f n h g = kGrd P sh cl m o ih f n h (cGuard all m f g) := by
  cases g with
  | none => show rPut0 m f n h o.dst ih (kX P sh cl m f n h o.op) = _; rw [rPut0_eq]; rfl
  | some q => rfl
def cOps (P : Program) (sh : TypeId → Option (List Leaf)) (cl : Cl) (all : List Oper) (m : Nat) (l : List Oper) : Kf :=
  @List.rec Oper (fun _ => Kf) (fun f n h => some (f, n, h)) (fun o _ ih f n h => rGrd P sh cl all m o ih f n h o.guard) l

/-! ### Regions that draw their order -/
def keepF (m : Nat) (f : Fr) : List Nat → Fr → Fr
  | [], g => g
  | d :: r, g => match Nat.blt d m with
    | true => keepF m f r (fset m g d (fget m f d))
    | false => keepF m f r g
def keepH (n : Nat) (h : Hp) : List Nat → Hp → Hp
  | [], g => g
  | b :: r, g => match Nat.blt b n with
    | true => keepH n h r (hset g b (hget h b))
    | false => keepH n h r g
def crefsO (m : Nat) (f : Fr) : List Operand → List Nat
  | [] => []
  | x :: r => match crho m f x with
    | some v => crefs v ++ crefsO m f r
    | none => crefsO m f r
/-- What an operation may look at. -/
def crs (m : Nat) (f : Fr) (h : Hp) (op : Op) : List Nat := match op with
  | .load _ a => crefsO m f [a]
  | .store _ a _ => crefsO m f [a]
  | .convert _ _ x => crefsO m f [x]
  | .call c => match c.callee with
    | .value fo => reach h 1000 (crefsO m f (fo :: c.args.toList)) []
    | .builtin _ => crefsO m f c.args.toList
    | _ => []
  | _ => []
mutual
/-- Renumbering: what is L or more gets numbers from s on. -/
def crn (L s : Nat) : CV → CV
  | .ptr b es i j => .ptr (match Nat.blt b L with | true => b | false => s + (b - L)) es i j
  | .sl b es i n nl => .sl (match Nat.blt b L with | true => b | false => s + (b - L)) es i n nl
  | .isl b es i j z n => .isl (match Nat.blt b L with | true => b | false => s + (b - L)) es i j z n
  | .agg l => .agg (crnL L s l)
  | .tup l => .tup (crnL L s l)
  | .fn f l => .fn f (crnL L s l)
  | .opt g v => .opt g (crn L s v)
  | .top => .top
  | .bool b => .bool b
  | .int k n => .int k n
  | .str x => .str x
  | .nilp => .nilp
  | .rptr es i j r => .rptr es i j r
  | .ro es nl r => .ro es nl r
  | .emp => .emp
  | .nilf => .nilf
def crnL (L s : Nat) : List CV → List CV
  | [] => []
  | a :: l => crn L s a :: crnL L s l
end
/-- The heap behind: the new blocks lie from place s on, those looked at are as they are now. -/
def plcH (hh : Hp) : List Nat → Hp → Hp
  | [], h => h
  | b :: r, h => plcH hh r (hset h b (hget hh b))
def plcN (hh : Hp) (L : Nat) : Nat → Nat → Nat → Hp → Hp
  | 0, _, _, h => h
  | k + 1, i, s, h => plcN hh L k (i + 1) (s + 1) (hset h s (hget hh (L + i)))
/-- No block from n on names a block from L on. -/
def nrC (L : Nat) (hh : Hp) : List Nat → Bool
  | [] => true
  | b :: r => match ltAll L (crefsB (hget hh b)) with
    | true => nrC L hh r
    | false => false
/-- Operations that only read, and little. -/
def readOp (op : Op) : Bool := match op with
  | .move _ => true
  | .assign _ => true
  | .pick _ _ _ => true
  | .load _ _ => true
  | .nilCheck _ => true
  | .binOp _ _ _ _ _ => true
  | .unOp _ _ _ => true
  | .fieldAddr _ _ _ => true
  | .field _ _ _ => true
  | .indexAddr _ _ _ => true
  | .index _ _ _ => true
  | .extract _ _ => true
  | .slice _ _ _ _ _ => true
  | _ => false
def stepX (P : Program) (sh : TypeId → Option (List Leaf)) (cl : Cl) (ops : Array Oper) (L m : Nat) (o : Oper) (f : Fr) (h : Hp) (rs : List Nat) (b : Bool) : CRes := match b with
  | true => match kX P sh cl m f L h o.op with
    | .p v => .p v
    | _ => .no
  | false => kX P sh cl m (keepF m f (o.looksAt ops) .e) L (keepH L h rs .e) o.op
def cDr (P : Program) (sh : TypeId → Option (List Leaf)) (cl : Cl) (ops : Array Oper) (an : List (List Nat)) (L m : Nat) : List Oper → Nat → List LogE → Nat → Fr → Hp → Option (Fr × Hp)
  | [], _, _, s, f, h => match Nat.ble s L with
    | true => some (f, h)
    | false => none
  | o :: r, i, log, s, f, h => match cGuard ops.toList m f o.guard with
    | none => none
    | some (some false) => match cset m f o.dst (.opt false (.bool false)) with
      | some f' => cDr P sh cl ops an L m r (i + 1) log s f' h
      | none => none
    | some g => match crs m f h o.op with
      | rs => match stepX P sh cl ops L m o f h rs (readOp o.op) with
        | .no => none
        | .p v => match okLog an i rs [] log, cset m f o.dst (wrapG g v) with
          | true, some f' => cDr P sh cl ops an L m r (i + 1) (match rs with | [] => log | rs => (i, rs, []) :: log) s f' h
          | _, _ => none
        | .w v n' hh => match rs ++ slotsF s (n' - L) with
          | tg => match okLog an i rs tg log && nrC L hh (rs ++ slotsF L (n' - L)) && Nat.ble (s + (n' - L)) L && ltAll L rs, cset m f o.dst (wrapG g (crn L s v)) with
            | true, some f' => cDr P sh cl ops an L m r (i + 1) ((i, rs, tg) :: log) (s + (n' - L)) f' (plcN hh L (n' - L) 0 s (plcH hh rs h))
            | _, _ => none
def newOps (c : Nat) : List Oper → Nat
  | [] => 0
  | o :: r => match o.op with
    | .alloc _ => newOps c r + 1
    | .box _ _ => newOps c r + 1
    | .buildSlice _ _ _ => newOps c r + 1
    | .makeSlice _ _ _ => newOps c r + 1
    | .call cc => match cc.callee with
      | .builtin .append => newOps c r + 1
      | .builtin _ => newOps c r
      | _ => newOps c r + c
    | _ => newOps c r
/-- The places from n on given up. -/
def deadH : Nat → Nat → Hp → Hp
  | 0, _, h => h
  | k + 1, n, h => deadH k (n + 1) (hset h n .dead)
def cDraw0 (P : Program) (sh : TypeId → Option (List Leaf)) (cl : Cl) (ops : Array Oper) (m : Nat) (f : Fr) (n : Nat) (h : Hp) (kk : Nat) : Option (Fr × Nat × Hp) := match n + kk with
  | L => match Nat.ble L 4096, cDr P sh cl ops (ancL ops) L m ops.toList 0 [] n f (deadH kk n h) with
    | true, some (f', h') => some (f', L, h')
    | _, _ => none
def cDraw (P : Program) (sh : TypeId → Option (List Leaf)) (cl : Cl) (ops : Array Oper) (m : Nat) (f : Fr) (n : Nat) (h : Hp) : Option (Fr × Nat × Hp) := match drawB ops (ancL ops) with
  | true => match cDraw0 P sh cl ops m f n h (newOps 0 ops.toList) with
    | some r => some r
    | none => cDraw0 P sh cl ops m f n h (newOps 8 ops.toList)
  | false => none

/-! ### Code -/
abbrev St := Fr × Nat × Hp
abbrev Kc := Code → Fr → Nat → Hp → Option (Ex × St)
def kNorm (s : Option St) : Option (Ex × St) := match s with
  | some s => some (.normal, s)
  | none => none
def kSeq2 (ih : Kc) (b : Code) (r : Option (Ex × St)) : Option (Ex × St) := match r with
  | some (.normal, f', n', h') => ih b f' n' h'
  | r => r
def kCond (ih : Kc) (x y : Code) (f : Fr) (n : Nat) (h : Hp) (c : Option CV) : Option (Ex × St) := match c with
  | some (.bool true) => ih x f n h
  | some (.bool false) => ih y f n h
  | _ => none
def kBlk2 (id : Nat) (r : Option (Ex × St)) : Option (Ex × St) := match r with
  | some (.exit id', s) => match Nat.beq id' id with
    | true => some (.normal, s)
    | false => some (.exit id', s)
  | r => r
def kReg (P : Program) (sh : TypeId → Option (List Leaf)) (cl : Cl) (m : Nat) (ops : Array Oper) (f : Fr) (n : Nat) (h : Hp) (draw : Bool) : Option (Ex × St) := match draw with
  | false => kNorm (cOps P sh cl ops.toList m ops.toList f n h)
  | true => kNorm (cDraw P sh cl ops m f n h)
def kCode (P : Program) (sh : TypeId → Option (List Leaf)) (cl : Cl) (m : Nat) (ih : Kc) (code : Code) (f : Fr) (n : Nat) (h : Hp) : Option (Ex × St) := match code with
  | .skip => some (.normal, f, n, h)
  | .region _ ops draw => kReg P sh cl m ops f n h draw
  | .seq a b => kSeq2 ih b (ih a f n h)
  | .cond c x y => kCond ih x y f n h (kRho m f c)
  | .block id c => kBlk2 id (ih c f n h)
  | .exit id => some (.exit id, f, n, h)
  | .ret => some (.ret, f, n, h)
  | .loop c => kSeq2 ih (.loop c) (ih c f n h)
  | .label _ => some (.normal, f, n, h)
  | .goto l => some (.goto l, f, n, h)
  | _ => none
def rNorm (s : Option St) : Option (Ex × St) := @Option.rec St (fun _ => Option (Ex × St)) none (fun s => some (.normal, s)) s
def rReg (P : Program) (sh : TypeId → Option (List Leaf)) (cl : Cl) (m : Nat) (ops : Array Oper) (f : Fr) (n : Nat) (h : Hp) (draw : Bool) : Option (Ex × St) :=
  @Bool.rec (fun _ => Option (Ex × St)) (rNorm (cOps P sh cl ops.toList m ops.toList f n h)) (rNorm (cDraw P sh cl ops m f n h)) draw
def rSeq3 (ih : Kc) (b : Code) (r : Option (Ex × St)) (x : Ex) (s : St) : Option (Ex × St) := @Ex.rec (fun _ => Option (Ex × St)) (ih b s.1 s.2.1 s.2.2) (fun _ => r) r (fun _ => r) x
def rSeq2 (ih : Kc) (b : Code) (r : Option (Ex × St)) : Option (Ex × St) := @Option.rec (Ex × St) (fun _ => Option (Ex × St)) none (fun q => rSeq3 ih b r q.1 q.2) r
def rCond (ih : Kc) (x y : Code) (f : Fr) (n : Nat) (h : Hp) (c : CV) : Option (Ex × St) := match c with
  | .bool b => @Bool.rec (fun _ => Option (Ex × St)) (ih y f n h) (ih x f n h) b
  | _ => none
def rCode (P : Program) (sh : TypeId → Option (List Leaf)) (cl : Cl) (m : Nat) (ih : Kc) (code : Code) (f : Fr) (n : Nat) (h : Hp) : Option (Ex × St) :=
  @Code.rec (fun _ => Option (Ex × St)) (some (.normal, f, n, h)) (fun _ ops draw => rReg P sh cl m ops f n h draw) (fun a b _ _ => rSeq2 ih b (ih a f n h))
    (fun c x y _ _ => @Option.rec CV (fun _ => Option (Ex × St)) none (fun v => rCond ih x y f n h v) (kRho m f c)) (fun id c _ => kBlk2 id (ih c f n h)) (fun c _ => rSeq2 ih (.loop c) (ih c f n h))
    (fun _ _ _ _ _ _ => none) (fun id => some (.exit id, f, n, h)) (fun _ _ => none) (fun _ => some (.normal, f, n, h)) (fun l => some (.goto l, f, n, h)) (some (.ret, f, n, h)) (fun _ => none) code
theorem rSeq2_eq (ih : Kc) (b : Code) (r : Option (Ex × St)) : rSeq2 ih b r = kSeq2 ih b r := by
  cases r with
  | none => rfl
  | some q => obtain ⟨x, f, n, h⟩ := q; cases x <;> rfl
theorem rNorm_eq (s : Option St) : rNorm s = kNorm s := by cases s <;> rfl
theorem rCode_eq (P : Program) (sh : TypeId → Option (List Leaf)) (cl : Cl) (m : Nat) (ih : Kc) (code : Code) (f : Fr) (n : Nat) (h : Hp) : rCode P sh cl m ih code f n h = kCode P sh cl m ih code f n h := by
  cases code with
  | region id ops draw => show rReg P sh cl m ops f n h draw = kReg P sh cl m ops f n h draw; cases draw <;> exact rNorm_eq _
  | seq a b => exact rSeq2_eq ..
  | loop c => exact rSeq2_eq ..
  | cond c x y =>
    show @Option.rec CV (fun _ => Option (Ex × St)) none (fun v => rCond ih x y f n h v) (kRho m f c) = kCond ih x y f n h (kRho m f c)
    cases kRho m f c with
    | none => rfl
    | some v => cases v <;> try rfl
                rename_i b; cases b <;> rfl
  | _ => rfl
def cC (P : Program) (sh : TypeId → Option (List Leaf)) (cl : Cl) (m : Nat) (k : Nat) : Kc :=
  @Nat.rec (fun _ => Kc) (fun _ _ _ _ => none) (fun _ ih code f n h => rCode P sh cl m ih code f n h) k

/-! ### Calls -/
def mkFr (m : Nat) : List CV → Nat → Fr → Fr
  | [], _, f => f
  | a :: l, i, f => mkFr m l (i + 1) (fset m f i a)
def cResA (P : Program) (m : Nat) (f : Fr) (n : Nat) (h : Hp) : ResultVar → Option CV
  | .tmp i => match Nat.blt i m with
    | true => cstrip (fget m f i)
    | false => none
  | .cell c ty => match Nat.blt c m with
    | true => match fget m f c with
      | .ptr b es i j => cLoad (tagg P ty) (tsz P ty) (.ptr b es i j) n h
      | _ => none
    | false => none
def cResL (P : Program) (m : Nat) (f : Fr) (n : Nat) (h : Hp) : List ResultVar → Option (List CV)
  | [] => some []
  | r :: rs => match cResA P m f n h r with
    | some v => match cResL P m f n h rs with
      | some l => some (v :: l)
      | none => none
    | none => none
def cRet (P : Program) (m : Nat) (f : Fr) (n : Nat) (h : Hp) (rs : List ResultVar) : Option CV := match rs with
  | [r] => cResA P m f n h r
  | rs => match cResL P m f n h rs with
    | some l => some (.tup l)
    | none => none
/-- A function run from a heap on. -/
def cRun (P : Program) (sh : TypeId → Option (List Leaf)) (cl : Cl) (fuel : Nat) (k : FuncId) (args : List CV) (n : Nat) (h : Hp) : Option (CV × Nat × Hp) := match P.funcs[k]? with
  | some fn => match fn.body with
    | some code => match (fn.name == "runtime.NumGoroutine") || !(Nat.ble fn.ntmps 1024 && Nat.ble args.length fn.ntmps) with
      | false => match cC P sh cl fn.ntmps fuel code (mkFr fn.ntmps args 0 .e) n h with
        | some (.normal, f', n', h') => match cRet P fn.ntmps f' n' h' fn.results.toList with
          | some v => some (v, n', h')
          | none => none
        | some (.ret, f', n', h') => match cRet P fn.ntmps f' n' h' fn.results.toList with
          | some v => some (v, n', h')
          | none => none
        | _ => none
      | true => none
    | none => none
  | none => none
/-- What other contracts say, then: in the same heap, or apart. -/
def cCall (P : Program) (sh : TypeId → Option (List Leaf)) (xt : Cl) (md : FuncId → Bool) : Nat → Cl
  | 0, _, _, _, _ => .no
  | d + 1, k, args, n, h => match xt k args n h with
    | .no => match md k with
      | true => match cRun P sh (cCall P sh xt md d) 5000 k args n h with
        | some (v, n', h') => .w v n' h'
        | none => .no
      | false => match xt k (args.map (croF n h)) 0 .e with
        | .p v => adoptC v 0 .e n h
        | .w v n1 h1 => adoptC v n1 h1 n h
        | .no => match cRun P sh (cCall P sh xt md d) 5000 k (args.map (croF n h)) 0 .e with
          | some (v, n1, h1) => adoptC v n1 h1 n h
          | none => .no
    | r => r
end
end Go.Am

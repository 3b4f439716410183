/-
  A machine that computes, part 3: numbers, strings, addresses, tests.
-/
import Derived.Test.YtiameicjjlfimaaCm2
namespace Go.Am
noncomputable section
set_option linter.unusedVariables false
set_option linter.unusedSimpArgs false

/-! ### Numbers -/
def inI64 : Int → Bool
  | .ofNat n => Nat.blt n 9223372036854775808
  | .negSucc n => Nat.blt n 9223372036854775808
def cwr (k : IntKind) (x : Int) : Int := match k with
  | .i64 => match inI64 x with
    | true => x
    | false => wr .i64 x
  | .u8 => match x with
    | .ofNat n => .ofNat (Nat.mod n 256)
    | .negSucc n => wr .u8 (.negSucc n)
  | k => wr k x
theorem cwr_eq (k : IntKind) (x : Int) : cwr k x = wr k x := by
  unfold cwr
  split
  · split
    · rename_i h
      have h2 : -9223372036854775808 ≤ x ∧ x < 9223372036854775808 := by
        cases x with
        | ofNat n => simp only [inI64, nblt] at h; constructor <;> simp only [Int.ofNat_eq_natCast] <;> omega
        | negSucc n => simp only [inI64, nblt] at h; constructor <;> omega
      unfold wr
      simp only [IntKind.wrap, IntKind.bits, IntKind.signed]
      simp only [Bool.true_and, decide_eq_true_eq, show ((2 : Int) ^ 64) = 18446744073709551616 from by decide, show ((2 : Int) ^ (64 - 1)) = 9223372036854775808 from by decide]
      split <;> omega
    · rfl
  · split
    · rename_i n
      unfold wr
      simp only [IntKind.wrap, IntKind.bits, IntKind.signed]
      simp only [Bool.false_and, Bool.false_eq_true, if_false, show ((2 : Int) ^ 8) = 256 from by decide]
      show ((n % 256 : Nat) : Int) = ((n : Nat) : Int) % 256
      omega
    · rfl
  · rfl
def cInt (op : BinOp) (k : IntKind) (x y : Int) : Option CV := match op with
  | .add => some (.int k (cwr k (x + y)))
  | .sub => some (.int k (cwr k (x - y)))
  | .mul => some (.int k (cwr k (x * y)))
  | .quo => match y with
    | .ofNat 0 => none
    | y => some (.int k (cwr k (x.tdiv y)))
  | .rem => match y with
    | .ofNat 0 => none
    | y => some (.int k (x.tmod y))
  | .and => some (.int k (andI k x y))
  | .or => some (.int k (orI k x y))
  | .xor => some (.int k (xorI k x y))
  | .andNot => some (.int k (andNotI k x y))
  | .eql => some (.bool (bEq x y))
  | .neq => some (.bool (!bEq x y))
  | .lss => some (.bool (bLt x y))
  | .leq => some (.bool (bLe x y))
  | .gtr => some (.bool (bLt y x))
  | .geq => some (.bool (bLe y x))
  | _ => none
theorem cInt_ok {op : BinOp} {k : IntKind} {x y : Int} {v : CV} (h : cInt op k x y = some v) : ∃ ob, evInt op k x y = .pure ob (toAV v) ∧ ob := by
  unfold cInt at h
  split at h
  all_goals first
    | (injection h with h; subst h; refine ⟨True, ?_, trivial⟩; simp only [evInt, toAV, cwr_eq]; done)
    | skip
  · split at h
    · cases h
    · rename_i hn
      injection h with h; subst h
      exact ⟨_, by simp only [evInt, toAV, cwr_eq]; rfl, fun h0 => hn (by rw [h0]; rfl)⟩
  · split at h
    · cases h
    · rename_i hn
      injection h with h; subst h
      exact ⟨_, by simp only [evInt, toAV]; rfl, fun h0 => hn (by rw [h0]; rfl)⟩
  · cases h

/-! ### Strings -/
theorem mkB_size (l : List Nat) : (mkB l).size = l.length := by
  show (l.map Nat.toUInt8).toArray.size = _
  simp
theorem mkB_data (l : List Nat) : (mkB l).data.toList = l.map Nat.toUInt8 := by simp [mkB]
theorem mkB_toList (l : List Nat) : (mkB l).toList = l.map Nat.toUInt8 := by rw [ByteArray.toList_eq, mkB_data]
theorem mkB_append (a b : List Nat) : mkB a ++ mkB b = mkB (a ++ b) := by
  apply WideShapes.bytes_inj
  rw [mkB_data]
  simp [mkB]
theorem u8_eq (x y : Nat) : (x.toUInt8 == y.toUInt8) = Nat.beq (Nat.mod x 256) (Nat.mod y 256) := by
  rw [nbeq, Bool.eq_iff_iff]
  simp only [beq_iff_eq]
  show _ ↔ x % 256 = y % 256
  rw [← UInt8.toNat_inj]
  simp
theorem u8_lt (x y : Nat) : decide (x.toUInt8 < y.toUInt8) = Nat.blt (Nat.mod x 256) (Nat.mod y 256) := by
  rw [Bool.eq_iff_iff]
  simp only [decide_eq_true_eq, nblt]
  show _ ↔ x % 256 < y % 256
  rw [UInt8.lt_iff_toNat_lt]
  simp
def csEq : List Nat → List Nat → Bool
  | [], [] => true
  | x :: a, y :: b => match Nat.beq (Nat.mod x 256) (Nat.mod y 256) with
    | true => csEq a b
    | false => false
  | _, _ => false
def csLt : List Nat → List Nat → Bool
  | _, [] => false
  | [], _ :: _ => true
  | x :: a, y :: b => match Nat.blt (Nat.mod x 256) (Nat.mod y 256) with
    | true => true
    | false => match Nat.beq (Nat.mod x 256) (Nat.mod y 256) with
      | true => csLt a b
      | false => false
theorem csEq_ok (a b : List Nat) : sEq (mkB a) (mkB b) = csEq a b := by
  unfold sEq
  rw [mkB_toList, mkB_toList]
  induction a generalizing b with
  | nil => cases b <;> rfl
  | cons x a ih =>
    cases b with
    | nil => rfl
    | cons y b =>
      simp only [List.map_cons, csEq]
      show (x.toUInt8 == y.toUInt8 && (a.map Nat.toUInt8 == b.map Nat.toUInt8)) = _
      rw [ih, u8_eq]
      cases Nat.beq (Nat.mod x 256) (Nat.mod y 256) <;> rfl
theorem csLt_ok (a b : List Nat) : sLt (mkB a) (mkB b) = csLt a b := by
  unfold sLt
  rw [mkB_toList, mkB_toList]
  induction a generalizing b with
  | nil => cases b <;> rfl
  | cons x a ih =>
    cases b with
    | nil => rfl
    | cons y b =>
      simp only [List.map_cons, csLt, Op.bytesLess]
      rw [ih, u8_eq, u8_lt]
      cases Nat.blt (Nat.mod x 256) (Nat.mod y 256) <;> cases Nat.beq (Nat.mod x 256) (Nat.mod y 256) <;> simp
def cStr (op : BinOp) (x y : List Nat) : Option CV := match op with
  | .add => match Nat.ble (x.length + y.length) 9223372036854775807 with
    | true => some (.str (x ++ y))
    | false => none
  | .eql => some (.bool (csEq x y))
  | .neq => some (.bool (!csEq x y))
  | .lss => some (.bool (csLt x y))
  | .leq => some (.bool (csLt x y || csEq x y))
  | .gtr => some (.bool (!(csLt x y || csEq x y)))
  | .geq => some (.bool (!csLt x y))
  | _ => none
theorem cStr_ok {op : BinOp} {x y : List Nat} {v : CV} (h : cStr op x y = some v) : ∃ ob, evStr op (mkB x) (mkB y) = .pure ob (toAV v) ∧ ob := by
  unfold cStr at h
  split at h
  · split at h
    · rename_i hk
      injection h with h; subst h
      exact ⟨_, by simp only [evStr, toAV, mkB_append]; rfl, by rw [mkB_size, mkB_size]; rw [nble_iff] at hk; omega⟩
    · cases h
  all_goals first
    | (injection h with h; subst h; refine ⟨True, ?_, trivial⟩; simp only [evStr, toAV, csEq_ok, csLt_ok]; done)
    | cases h

/-! ### Tests -/
def ceqSh : List Leaf → List CV → List CV → Option Bool
  | [], [], [] => some true
  | .i k :: h, .int k1 x :: l, .int k2 y :: m => match k1 == k && k2 == k with
    | true => match ceqSh h l m with
      | some r => some (match bEq x y with | true => r | false => false)
      | none => none
    | false => none
  | .b :: h, .bool x :: l, .bool y :: m => match ceqSh h l m with
    | some r => some (bB x y && r)
    | none => none
  | .s :: h, .str x :: l, .str y :: m => match ceqSh h l m with
    | some r => some (csEq x y && r)
    | none => none
  | _, _, _ => none
theorem ceqSh_ok : ∀ {sh : List Leaf} {l m : List CV} {r : Bool}, ceqSh sh l m = some r → eqSh sh (toAVL l) (toAVL m) = some r := by
  intro sh
  induction sh with
  | nil =>
    intro l m r h
    cases l <;> cases m <;> simp [ceqSh] at h ⊢
    simpa [toAVL, eqSh] using h
  | cons lf sh ih =>
    intro l m r h
    unfold ceqSh at h
    split at h
    · rename_i e; exact absurd e (by simp)
    · rename_i k hh k1 x l' k2 y m' e
      injection e with e1 e2; subst e1 e2
      split at h
      · rename_i hk
        split at h
        · rename_i r' hr
          injection h with h; subst h
          simp only [toAVL, toAV, eqSh, hk, ih hr]
          cases bEq x y <;> rfl
        · cases h
      · cases h
    · rename_i hh x l' y m' e
      injection e with e1 e2; subst e1 e2
      split at h
      · rename_i r' hr
        injection h with h; subst h
        simp only [toAVL, toAV, eqSh, ih hr]
      · cases h
    · rename_i hh x l' y m' e
      injection e with e1 e2; subst e1 e2
      split at h
      · rename_i r' hr
        injection h with h; subst h
        simp only [toAVL, toAV, eqSh, ih hr, csEq_ok]
      · cases h
    · cases h
def isNilV : CV → Bool
  | .ro 0 true [] => true
  | _ => false
def cNilT (sl : Option TypeId) (op : BinOp) (nl : Bool) (y : CV) : Option CV := match isNilV y, sl, op with
  | true, some _, .eql => some (.bool nl)
  | true, some _, .neq => some (.bool !nl)
  | _, _, _ => none
theorem cNilT_ok {sl : Option TypeId} {op : BinOp} {nl : Bool} {y v : CV} (h : cNilT sl op nl y = some v) : ∃ ob, binN sl op nl (toAV y) = .pure ob (toAV v) ∧ ob := by
  have hy : isNilV y = true → y = .ro 0 true [] := by
    intro hy; unfold isNilV at hy; split at hy
    · rfl
    · cases hy
  unfold cNilT at h
  split at h
  · rename_i e hn; have := hy (by assumption); subst this; injection h with h; subst h; exact ⟨True, rfl, trivial⟩
  · rename_i e hn; have := hy (by assumption); subst this; injection h with h; subst h; exact ⟨True, rfl, trivial⟩
  · cases h
def cBin (bt : Bool) (sl : Option TypeId) (sh : Option (List Leaf)) (op : BinOp) (x y : CV) : Option CV := match x, y with
  | .int k a, .int k' b => match op with
    | .shl => match b with
      | .ofNat n => some (.int k (shlI k a (.ofNat n)))
      | _ => none
    | .shr => match b with
      | .ofNat n => some (.int k (shrI k a (.ofNat n)))
      | _ => none
    | op => match k == k' with
      | true => cInt op k a b
      | false => none
  | .str a, .str b => cStr op a b
  | .bool a, .bool b => match bt, op with
    | true, .eql => some (.bool (bB a b))
    | true, .neq => some (.bool (!bB a b))
    | _, _ => none
  | .agg l, .agg m => match sh, op with
    | some sh, .eql => match ceqSh sh l m with
      | some r => some (.bool r)
      | none => none
    | some sh, .neq => match ceqSh sh l m with
      | some r => some (.bool (!r))
      | none => none
    | _, _ => none
  | .sl _ _ _ _ nl, y => cNilT sl op nl y
  | .ro _ nl _, y => cNilT sl op nl y
  | _, _ => none
theorem cBin_ok {bt : Bool} {sl : Option TypeId} {sh : Option (List Leaf)} {op : BinOp} {x y v : CV} (h : cBin bt sl sh op x y = some v) :
    ∃ ob, evBin2 bt sl sh op (toAV x) (toAV y) = .pure ob (toAV v) ∧ ob := by
  unfold cBin at h
  split at h
  · rename_i k a k' b
    simp only [toAV, evBin2]
    split at h
    · split at h
      · rename_i n
        injection h with h; subst h
        exact ⟨_, by simp only [binI, toAV]; rfl, Int.natCast_nonneg n⟩
      · cases h
    · split at h
      · rename_i n
        injection h with h; subst h
        exact ⟨_, by simp only [binI, toAV]; rfl, Int.natCast_nonneg n⟩
      · cases h
    · rename_i h1 h2
      split at h
      · rename_i hk
        have hb : binI op k k' a b = bif k == k' then evInt op k a b else .fail := by
          unfold binI
          split
          · exact absurd rfl h1
          · exact absurd rfl h2
          · rfl
        rw [hb, hk]; exact cInt_ok h
      · cases h
  · simp only [toAV, evBin2]; exact cStr_ok h
  · simp only [toAV, evBin2]
    split at h
    · injection h with h; subst h; exact ⟨True, rfl, trivial⟩
    · injection h with h; subst h; exact ⟨True, rfl, trivial⟩
    · cases h
  · simp only [toAV, evBin2]
    split at h
    · split at h
      · rename_i r hr
        injection h with h; subst h
        exact ⟨True, by simp only [binA, ceqSh_ok hr, eqRes, toAV]; rfl, trivial⟩
      · cases h
    · split at h
      · rename_i r hr
        injection h with h; subst h
        exact ⟨True, by simp only [binA, ceqSh_ok hr, eqRes, toAV]; rfl, trivial⟩
      · cases h
    · cases h
  · simp only [toAV, evBin2]; exact cNilT_ok h
  · simp only [toAV, evBin2]; exact cNilT_ok h
  · cases h
def cUn (op : UnOp) (x : CV) : Option CV := match op, x with
  | .neg, .int k n => some (.int k (cwr k (0 - n)))
  | .not, .bool b => some (.bool (!b))
  | _, _ => none
theorem cUn_ok {op : UnOp} {x v : CV} (h : cUn op x = some v) : ∃ ob, evUn op (toAV x) = .pure ob (toAV v) ∧ ob := by
  unfold cUn at h
  split at h
  · injection h with h; subst h; exact ⟨True, by simp only [toAV, evUn, cwr_eq], trivial⟩
  · injection h with h; subst h; exact ⟨True, by simp only [toAV, evUn], trivial⟩
  · cases h

/-! ### Addresses and parts -/
def cFieldAddr (fl : Option (TypeId × Nat × Nat)) (p : CV) : Option CV := match fl with
  | some (_, off, z) => match Nat.blt 0 z with
    | true => match p with
      | .ptr b es i j => some (.ptr b es i (j + off))
      | .rptr es i j r => some (.rptr es i (j + off) r)
      | _ => none
    | false => none
  | none => none
theorem cFieldAddr_ok {fl : Option (TypeId × Nat × Nat)} {p v : CV} (h : cFieldAddr fl p = some v) : ∃ ob, evFieldAddr fl (toAV p) = .pure ob (toAV v) ∧ ob := by
  unfold cFieldAddr at h
  split at h
  · split at h
    · rename_i hz
      rw [nblt] at hz
      split at h
      · injection h with h; subst h; exact ⟨_, by simp only [toAV, evFieldAddr]; rfl, by omega⟩
      · injection h with h; subst h; exact ⟨_, by simp only [toAV, evFieldAddr]; rfl, by omega⟩
      · cases h
    · cases h
  · cases h
def cField (ag : Option Bool) (fl : Option (TypeId × Nat × Nat)) (v : CV) : Option CV := match ag, fl, v with
  | some ag, some (_, off, z), .agg l => cells ag z off l
  | _, _, _ => none
theorem cField_ok {ag : Option Bool} {fl : Option (TypeId × Nat × Nat)} {x v : CV} (h : cField ag fl x = some v) : ∃ ob, evField ag fl (toAV x) = .pure ob (toAV v) ∧ ob := by
  unfold cField at h
  split at h
  · rename_i ag _ off z l
    obtain ⟨q1, q2⟩ := cells_ok h
    cases ag with
    | true => obtain ⟨q3, q4⟩ := q1 rfl; exact ⟨_, by simp only [toAV, evField, cond_true, q3]; rfl, by rw [toAVL_length]; exact q4⟩
    | false => obtain ⟨q3, q4⟩ := q2 rfl; exact ⟨_, by simp only [toAV, evField, cond_false, q3]; rfl, by rw [toAVL_length]; exact q4⟩
  · cases h
def cnat : CV → Option Nat
  | .int _ (.ofNat q) => some q
  | _ => none
theorem cnat_ok {x : CV} {q : Nat} (h : cnat x = some q) : ∃ k, toAV x = .int k (q : Int) := by
  unfold cnat at h
  split at h
  · injection h with h; subst h; exact ⟨_, by simp only [toAV]; rfl⟩
  · cases h
def cIndexAddr (sl : Option TypeId) (ar : Option (Nat × TypeId)) (z : Option Nat) (x ix : CV) : Option CV := match z, cnat ix with
  | some z, some q => match sl with
    | some _ => match x with
      | .sl b es i n nl => match Nat.blt q n && Nat.beq z es with
        | true => some (.ptr b es (i + q) 0)
        | false => none
      | .isl b es i j z' n => match Nat.blt q n && Nat.beq z' z with
        | true => some (.ptr b es i (j + q * z))
        | false => none
      | .ro es nl r => match Nat.blt q r.length && Nat.beq z es with
        | true => some (.rptr es q 0 r)
        | false => none
      | _ => none
    | none => match ar with
      | some (len, _) => match Nat.blt q len with
        | true => match x with
          | .ptr b es i j => some (.ptr b es i (j + q * z))
          | .rptr es i j r => some (.rptr es i (j + q * z) r)
          | _ => none
        | false => none
      | none => none
  | _, _ => none
theorem cIndexAddr_ok {sl : Option TypeId} {ar : Option (Nat × TypeId)} {z : Option Nat} {x ix v : CV} (h : cIndexAddr sl ar z x ix = some v) : ∃ ob, evIndexAddr sl ar z (toAV x) (toAV ix) = .pure ob (toAV v) ∧ ob := by
  unfold cIndexAddr at h
  split at h
  · rename_i z q hq
    obtain ⟨k, hk⟩ := cnat_ok hq
    rw [hk]
    split at h
    · split at h
      · split at h
        · rename_i hc
          rw [Bool.and_eq_true, nblt, nbeq_iff] at hc
          injection h with h; subst h
          refine ⟨_, by simp only [toAV, evIndexAddr, Int.toNat_natCast]; rfl, ?_⟩; exact ⟨Int.natCast_nonneg q, by have := hc.1; omega, hc.2⟩
        · cases h
      · split at h
        · rename_i hc
          rw [Bool.and_eq_true, nblt, nbeq_iff] at hc
          injection h with h; subst h
          refine ⟨_, by simp only [toAV, evIndexAddr, Int.toNat_natCast]; rfl, ?_⟩; exact ⟨Int.natCast_nonneg q, by have := hc.1; omega, hc.2⟩
        · cases h
      · split at h
        · rename_i hc
          rw [Bool.and_eq_true, nblt, nbeq_iff] at hc
          injection h with h; subst h
          refine ⟨_, by simp only [toAV, evIndexAddr, Int.toNat_natCast]; rfl, ?_⟩; exact ⟨Int.natCast_nonneg q, by have := hc.1; omega, hc.2⟩
        · cases h
      · cases h
    · split at h
      · split at h
        · rename_i hc
          rw [nblt] at hc
          split at h
          · injection h with h; subst h
            refine ⟨_, by simp only [toAV, evIndexAddr, Int.toNat_natCast]; rfl, ?_⟩; exact ⟨Int.natCast_nonneg q, by omega⟩
          · injection h with h; subst h
            refine ⟨_, by simp only [toAV, evIndexAddr, Int.toNat_natCast]; rfl, ?_⟩; exact ⟨Int.natCast_nonneg q, by omega⟩
          · cases h
        · cases h
      · cases h
  · cases h
def natAt : List Nat → Nat → Option Nat
  | [], _ => none
  | a :: _, 0 => some a
  | _ :: l, n + 1 => natAt l n
theorem natAt_ok : ∀ {l : List Nat} {i a : Nat}, natAt l i = some a → i < l.length ∧ byteAt (mkB l) i = ((a % 256 : Nat) : Int) := by
  have key : ∀ {l : List Nat} {i a : Nat}, natAt l i = some a → l[i]? = some a := by
    intro l
    induction l with
    | nil => intro i a h; cases h
    | cons b l ih => intro i a h; cases i with
      | zero => simpa [natAt] using h
      | succ i => simpa using ih h
  intro l i a h
  have h1 := key h
  have hi : i < l.length := by
    rcases Nat.lt_or_ge i l.length with h' | h'
    · exact h'
    · rw [List.getElem?_eq_none h'] at h1; cases h1
  refine ⟨hi, ?_⟩
  unfold byteAt
  have : (mkB l).data.getD i 0 = a.toUInt8 := by
    show (l.map Nat.toUInt8).toArray.getD i 0 = _
    rw [Array.getD_eq_getD_getElem?]
    simp [h1]
  rw [this]
  simp
def cIndex (st : Bool) (ag : Option Bool) (ar : Option (Nat × TypeId)) (z : Option Nat) (x ix : CV) : Option CV := match cnat ix with
  | some q => match x with
    | .str s => match st with
      | true => match natAt s q with
        | some a => some (.int .u8 (.ofNat (Nat.mod a 256)))
        | none => none
      | false => none
    | .agg l => match ag, ar, z with
      | some ag, some (len, _), some z => match Nat.blt q len with
        | true => cells ag z (q * z) l
        | false => none
      | _, _, _ => none
    | _ => none
  | none => none
theorem cIndex_ok {st : Bool} {ag : Option Bool} {ar : Option (Nat × TypeId)} {z : Option Nat} {x ix v : CV} (h : cIndex st ag ar z x ix = some v) : ∃ ob, evIndex2 st ag ar z (toAV x) (toAV ix) = .pure ob (toAV v) ∧ ob := by
  unfold cIndex at h
  split at h
  · rename_i q hq
    obtain ⟨k, hk⟩ := cnat_ok hq
    rw [hk]
    split at h
    · rename_i s
      split at h
      · split at h
        · rename_i a ha
          injection h with h; subst h
          obtain ⟨q1, q2⟩ := natAt_ok ha
          refine ⟨_, by simp only [toAV, evIndex2, evIndexS, Int.toNat_natCast, q2]; rfl, ?_⟩; exact ⟨Int.natCast_nonneg q, by rw [mkB_size]; omega⟩
        · cases h
      · cases h
    · split at h
      · rename_i ag len e z
        split at h
        · rename_i hc
          rw [nblt] at hc
          obtain ⟨q1, q2⟩ := cells_ok h
          cases ag with
          | true => obtain ⟨q3, q4⟩ := q1 rfl; refine ⟨_, by simp only [toAV, evIndex2, evIndex, cond_true, Int.toNat_natCast, q3]; rfl, ?_⟩; exact ⟨Int.natCast_nonneg q, by omega, by rw [toAVL_length]; exact q4⟩
          | false => obtain ⟨q3, q4⟩ := q2 rfl; refine ⟨_, by simp only [toAV, evIndex2, evIndex, cond_false, Int.toNat_natCast, q3]; rfl, ?_⟩; exact ⟨Int.natCast_nonneg q, by omega, by rw [toAVL_length]; exact q4⟩
        · cases h
      · cases h
    · cases h
  · cases h
def tupAt : List CV → Nat → Option CV
  | [], _ => none
  | a :: _, 0 => some a
  | _ :: l, n + 1 => tupAt l n
def cExtract (x : CV) (i : Nat) : Option CV := match x with
  | .tup l => tupAt l i
  | _ => none
theorem tupAt_ok : ∀ {l : List CV} {i : Nat} {v : CV}, tupAt l i = some v → getL (toAVL l) i = toAV v ∧ i < l.length
  | [], _, _, h => by cases h
  | a :: _, 0, v, h => by simp only [tupAt, Option.some.injEq] at h; subst h; simp [toAVL, getL]
  | a :: l, n + 1, v, h => by have := tupAt_ok (l := l) h; simpa [toAVL, getL] using this
theorem cExtract_ok {x v : CV} {i : Nat} (h : cExtract x i = some v) : ∃ ob, evExtract (toAV x) i = .pure ob (toAV v) ∧ ob := by
  unfold cExtract at h
  split at h
  · obtain ⟨q1, q2⟩ := tupAt_ok h
    exact ⟨_, by simp only [toAV, evExtract, q1]; rfl, by rw [toAVL_length]; exact q2⟩
  · cases h
def cNil (x : CV) : Option CV := match x with
  | .ptr b es i j => some (.ptr b es i j)
  | .rptr es i j r => some (.rptr es i j r)
  | .fn f l => some (.fn f l)
  | _ => none
theorem cNil_ok {x v : CV} (h : cNil x = some v) : ∃ ob, evNil (toAV x) = .pure ob (toAV v) ∧ ob := by
  unfold cNil at h
  split at h
  · injection h with h; subst h; exact ⟨True, by simp only [toAV, evNil], trivial⟩
  · injection h with h; subst h; exact ⟨True, by simp only [toAV, evNil], trivial⟩
  · injection h with h; subst h; exact ⟨True, by simp only [toAV, evNil], trivial⟩
  · cases h
end
end Go.Am

/-
  The abstract machine, text 7: '==' on structs and arrays whose cells are numbers, bools, strings. numbers without a sign, bit by bit; small equations for the walks. rounds walked one by one, what is known put in order between them; rows of a list. contracts of functions that end in an entry of the model's own; the entry that compares two rows of bytes. contracts of functions that hand an argument on as their result. the rule for regions that draw their order, over what single operations do.
-/
import Derived.Test.YtnclkplbeenmdaaBm6
import Derived.ChangeKeysEq
import Derived.Laws.StructEq
import Derived.IntWalk
import Derived.Lib.BytesEntry
import Derived.Laws.Externs
namespace Go.Am
set_option linter.unusedVariables false
variable {P : Program} {E : Env} {h : List ABlk}

def repLf (l : List Leaf) : Nat → List Leaf
  | 0 => []
  | n + 1 => l ++ repLf l n
def shFs (P : Program) (g : TypeId → Option (List Leaf)) : Nat → List Field → Option (List Leaf)
  | _, [] => some []
  | off, f :: r => if f.name = "_" ∨ f.offset ≠ off then none else match g f.type, tsz P f.type with
    | some l, some z => if l.length = z then (shFs P g (off + z) r).map (l ++ ·) else none
    | _, _ => none
def shF (P : Program) : Nat → TypeId → Option (List Leaf)
  | 0, _ => none
  | d + 1, t => match P.underlying t with
    | some .bool => some [.b]
    | some (.int k) => some [.i k]
    | some .string => some [.s]
    | some (.array n e) => match shF P d e, tsz P e with
      | some l, some z => if l.length = z then some (repLf l n) else none
      | _, _ => none
    | some (.struct fs) => if P.stoodInHeld t then none else shFs P (shF P d) 0 fs.toList
    | _ => none
def leafEq : Leaf → Value → Value → Option Bool
  | .i k, .int k1 x, .int k2 y => if k1 = k ∧ k2 = k then some (x == y) else none
  | .b, .bool x, .bool y => some (x == y)
  | .s, .string x, .string y => some (x.toList == y.toList)
  | _, _, _ => none
def eqVs : List Leaf → List Value → List Value → Option Bool
  | [], [], [] => some true
  | f :: l, x :: xs, y :: ys => match leafEq f x y, eqVs l xs ys with
    | some a, some b => some (a && b)
    | _, _ => none
  | _, _, _ => none
theorem eqVs_len : ∀ {l : List Leaf} {xs ys : List Value} {r : Bool}, eqVs l xs ys = some r → xs.length = l.length ∧ ys.length = l.length := by
  intro l
  induction l with
  | nil => intro xs ys r h; cases xs <;> cases ys <;> simp [eqVs] at h ⊢
  | cons f l ih =>
    intro xs ys r h
    cases xs <;> cases ys <;> simp only [eqVs, reduceCtorEq] at h
    split at h
    · rename_i a b _ hb
      have := ih hb
      simp [this.1, this.2]
    · cases h
theorem eqVs_split : ∀ {l m : List Leaf} {xs ys : List Value} {r : Bool}, eqVs (l ++ m) xs ys = some r →
    ∃ r1 r2, eqVs l (xs.take l.length) (ys.take l.length) = some r1 ∧ eqVs m (xs.drop l.length) (ys.drop l.length) = some r2 ∧ r = (r1 && r2) := by
  intro l
  induction l with
  | nil => intro m xs ys r h; exact ⟨true, r, by simp [eqVs], by simpa using h, by simp⟩
  | cons f l ih =>
    intro m xs ys r h
    cases xs <;> cases ys <;> simp only [List.cons_append, eqVs, reduceCtorEq] at h
    split at h
    · rename_i a b ha hb
      injection h with h; subst h
      obtain ⟨r1, r2, h1, h2, rfl⟩ := ih hb
      refine ⟨a && r1, r2, ?_, by simpa using h2, by rw [Bool.and_assoc]⟩
      simp only [List.length_cons, List.take_succ_cons, eqVs, ha, h1]
    · cases h

/-- A value of a type, by its cells. -/
def VT (P : Program) (t : TypeId) (cs : List Value) (x : Value) : Prop := match tagg P t with
  | some true => x = .agg cs.toArray
  | _ => cs = [x]
theorem shF_agg {d : Nat} {t : TypeId} {l : List Leaf} (hs : shF P d t = some l) : ∃ b, tagg P t = some b ∧ (b = false → l.length = 1) := by
  cases d with
  | zero => cases hs
  | succ d =>
    simp only [shF] at hs
    unfold tagg
    cases hu : P.underlying t with
    | none => rw [hu] at hs; cases hs
    | some k =>
      rw [hu] at hs
      cases k <;> simp only [reduceCtorEq, Option.some.injEq] at hs <;> first
        | (subst hs; exact ⟨false, rfl, fun _ => rfl⟩)
        | exact ⟨true, rfl, fun h => by cases h⟩
theorem part_run {d : Nat} {e : TypeId} {l : List Leaf} {z off : Nat} {cs : List Value} (hs : shF P d e = some l) (hz : tsz P e = some z) (hl : l.length = z) (hlen : ((cs.drop off).take z).length = z) (w : World) :
    ∃ a, (part e cs.toArray off).run P w = .ok a w ∧ VT P e ((cs.drop off).take z) a := by
  obtain ⟨b, hb, h1⟩ := shF_agg hs
  have hagg : ∀ w, (isAgg e).run P w = .ok b w := by
    intro w
    unfold tagg at hb
    cases hu : P.underlying e with
    | none => rw [hu] at hb; cases hb
    | some k =>
      rw [hu] at hb
      simp only [Option.map_some, Option.some.injEq] at hb
      cases k <;> simp only at hb <;> subst hb <;> simp [isAgg, run_underlying hu]
  cases b with
  | true =>
    refine ⟨.agg ((cs.drop off).take z).toArray, ?_, by unfold VT; rw [hb]⟩
    simp only [part, Sem.run_bind, hagg, Result.andThen_ok, if_true, run_sizeOf hz, Sem.run_pure]
    congr 2
    apply Array.ext'
    simp [List.extract]
  | false =>
    have hz1 : z = 1 := by rw [← hl]; exact h1 rfl
    subst hz1
    match hd : (cs.drop off).take 1, hlen with
    | [v], _ =>
      refine ⟨v, ?_, by unfold VT; rw [hb]⟩
      have hv : cs.toArray[off]? = some v := by
        rw [List.getElem?_toArray]
        have := congrArg (·[0]?) hd
        simpa [List.getElem?_take, List.getElem?_drop] using this
      simp only [part, Sem.run_bind, hagg, Result.andThen_ok, Bool.false_eq_true, if_false, hv, Sem.run_pure]
def EqS (P : Program) (d : Nat) (t : TypeId) (l : List Leaf) : Prop := ∀ (w : World) (xs ys : List Value) (r : Bool) (x y : Value), eqVs l xs ys = some r → VT P t xs x → VT P t ys y → (Op.equalIn d t x y).run P w = .ok r w
theorem eqFields_run {dd : Nat} {g : TypeId → Option (List Leaf)} (ih : ∀ t l, g t = some l → EqS P dd t l ∧ ∃ d, shF P d t = some l) (w : World) (xs ys : List Value) : ∀ (fs : List Field) (off : Nat) (l : List Leaf) (r : Bool), shFs P g off fs = some l →
    eqVs l (xs.drop off) (ys.drop off) = some r → (Op.eqFields dd xs.toArray ys.toArray fs).run P w = .ok r w := by
  intro fs
  induction fs with
  | nil =>
    intro off l r hs hr
    simp only [shFs, Option.some.injEq] at hs
    subst hs
    have h0 := eqVs_len hr
    cases hx : xs.drop off <;> cases hy : ys.drop off <;> rw [hx, hy] at hr <;> simp [eqVs] at hr
    subst hr
    simp [Op.eqFields]
  | cons f fs ihf =>
    intro off l r hs hr
    simp only [shFs] at hs
    split at hs
    · cases hs
    rename_i hname
    cases hg : g f.type with
    | none => rw [hg] at hs; cases hs
    | some lf =>
    cases hz : tsz P f.type with
    | none => rw [hg, hz] at hs; cases hs
    | some z =>
    rw [hg, hz] at hs
    simp only at hs
    split at hs
    · rename_i hlz
      simp only [Option.map_eq_some_iff] at hs
      obtain ⟨m, hm, rfl⟩ := hs
      obtain ⟨r1, r2, e1, e2, rfl⟩ := eqVs_split hr
      obtain ⟨hE, d, hd⟩ := ih _ _ hg
      have hoff : f.offset = off := by
        by_cases ho : f.offset = off
        · exact ho
        · exact absurd (.inr ho) hname
      have hn : f.name ≠ "_" := fun hn => hname (.inl hn)
      have l1 := eqVs_len e1
      rw [hlz] at e1 e2 l1
      obtain ⟨a, p1, v1⟩ := part_run (cs := xs) (off := off) hd hz hlz (by omega) w
      obtain ⟨b, p2, v2⟩ := part_run (cs := ys) (off := off) hd hz hlz (by omega) w
      have he := hE w _ _ _ a b e1 v1 v2
      rw [List.drop_drop, List.drop_drop] at e2
      have ht := ihf (off + z) m r2 hm e2
      simp only [Op.eqFields, hn, ne_eq, not_false_eq_true, if_true, Sem.run_bind, hoff, p1, p2, he, Result.andThen_ok]
      cases r1
      · simp
      · simpa using ht
    · cases hs
theorem eqItems_run {dd d : Nat} {e : TypeId} {l : List Leaf} {z : Nat} (hE : EqS P dd e l) (hd : shF P d e = some l) (hz : tsz P e = some z) (hlz : l.length = z) (w : World) (xs ys : List Value) : ∀ (n i : Nat) (r : Bool),
    eqVs (repLf l n) (xs.drop (i * z)) (ys.drop (i * z)) = some r → (Op.eqItems dd e z xs.toArray ys.toArray (List.range' i n)).run P w = .ok r w := by
  intro n
  induction n with
  | zero =>
    intro i r hr
    simp only [repLf] at hr
    cases hx : xs.drop (i * z) <;> cases hy : ys.drop (i * z) <;> rw [hx, hy] at hr <;> simp [eqVs] at hr
    subst hr
    simp [Op.eqItems]
  | succ n ih =>
    intro i r hr
    simp only [repLf] at hr
    obtain ⟨r1, r2, e1, e2, rfl⟩ := eqVs_split hr
    have l1 := eqVs_len e1
    rw [hlz] at e1 e2 l1
    obtain ⟨a, p1, v1⟩ := part_run (cs := xs) (off := i * z) hd hz hlz (by omega) w
    obtain ⟨b, p2, v2⟩ := part_run (cs := ys) (off := i * z) hd hz hlz (by omega) w
    have he := hE w _ _ _ a b e1 v1 v2
    rw [List.drop_drop, List.drop_drop, ← Nat.succ_mul] at e2
    have ht := ih (i + 1) r2 e2
    rw [List.range'_succ]
    simp only [Op.eqItems, Sem.run_bind, p1, p2, he, Result.andThen_ok]
    cases r1
    · simp
    · simpa using ht
theorem equalIn_run : ∀ (d dd : Nat) (t : TypeId) (l : List Leaf), shF P d t = some l → EqS P (dd + d) t l := by
  intro d
  induction d with
  | zero => intro dd t l hs; cases hs
  | succ d ih =>
    intro dd t l hs
    have hs0 := hs
    obtain ⟨b, hb, _⟩ := shF_agg hs
    simp only [shF] at hs
    intro w xs ys r x y hr hx hy
    unfold VT at hx hy
    rw [hb] at hx hy
    unfold tagg at hb
    cases hu : P.underlying t with
    | none => rw [hu] at hs; cases hs
    | some k =>
      rw [hu] at hs hb
      simp only [Option.map_some, Option.some.injEq] at hb
      cases k <;> simp only [reduceCtorEq, Option.some.injEq] at hs hb
      case bool =>
        subst hs hb
        simp only at hx hy; subst hx hy
        cases x <;> cases y <;> simp [eqVs, leafEq] at hr
        subst hr
        exact run_equalIn_bool w (dd + d) t _ _ hu
      case int k =>
        subst hs hb
        simp only at hx hy; subst hx hy
        cases x <;> cases y <;> simp only [eqVs, leafEq, reduceCtorEq] at hr
        split at hr
        · rename_i a b ha hb'
          split at ha
          · rename_i hk
            injection ha with ha; injection hb' with hb'; injection hr with hr
            subst ha hb' hr
            obtain ⟨rfl, rfl⟩ := hk
            rw [show dd + (d + 1) = (dd + d) + 1 from rfl, run_equalIn_int w (dd + d) t _ _ _ _ hu, Bool.and_true]
          · cases ha
        · cases hr
      case string =>
        subst hs hb
        simp only at hx hy; subst hx hy
        cases x <;> cases y <;> simp [eqVs, leafEq] at hr
        subst hr
        exact run_equalIn_string w (dd + d) t _ _ hu
      case array n e =>
        subst hb
        simp only at hx hy; subst hx hy
        cases hl : shF P d e with
        | none => rw [hl] at hs; cases hs
        | some le =>
        cases hz : tsz P e with
        | none => rw [hl, hz] at hs; cases hs
        | some z =>
        rw [hl, hz] at hs
        simp only at hs
        split at hs
        · rename_i hlz
          injection hs with hs; subst hs
          obtain ⟨i, hi, hsz⟩ := info_of_tsz hz
          rw [show dd + (d + 1) = (dd + d) + 1 from rfl, run_equalIn_array w (dd + d) xs.toArray ys.toArray hu hi, show P.cellsOf e = z from by simp [Program.cellsOf, hi, hsz]]
          have := eqItems_run (ih dd e le hl) hl hz hlz w xs ys n 0 r (by simpa using hr)
          rw [List.range_eq_range']
          exact this
        · cases hs
      case struct fs =>
        subst hb
        simp only at hx hy; subst hx hy
        split at hs
        · cases hs
        · rename_i hst
          have hfo : P.fieldsOf t = fs := by simp [Program.fieldsOf, hu]
          rw [show dd + (d + 1) = (dd + d) + 1 from rfl, run_equalIn_struct w (dd + d) t _ _ (by rw [hfo]; exact hu) (by simpa using hst), hfo]
          exact eqFields_run (fun t' l' hl' => ⟨ih dd t' l' hl', d, hl'⟩) w xs ys fs.toList 0 l r hs (by simpa using hr)
theorem eqSh_eqVs : ∀ {l : List Leaf} {x y : List AV} {r : Bool}, eqSh l x y = some r → ∀ (vx vy : List Value), x.length = vx.length → y.length = vy.length →
    (∀ (i : Nat) (a : AV) (v : Value), x[i]? = some a → vx[i]? = some v → VR E a v) → (∀ (i : Nat) (a : AV) (v : Value), y[i]? = some a → vy[i]? = some v → VR E a v) → eqVs l vx vy = some r := by
  intro l
  induction l with
  | nil =>
    intro x y r hr vx vy hx hy _ _
    cases x <;> cases y <;> simp only [eqSh, reduceCtorEq, Option.some.injEq] at hr
    subst hr
    have : vx = [] := List.eq_nil_of_length_eq_zero hx.symm
    have : vy = [] := List.eq_nil_of_length_eq_zero hy.symm
    subst vx vy
    rfl
  | cons f l ih =>
    intro x y r hr vx vy hx hy gx gy
    cases x with
    | nil => cases f <;> simp [eqSh] at hr
    | cons a x => cases y with
      | nil => cases f <;> cases a <;> simp [eqSh] at hr
      | cons b y => cases vx with
        | nil => simp at hx
        | cons va vx => cases vy with
          | nil => simp at hy
          | cons vb vy =>
            have ha := gx 0 a va rfl rfl
            have hb := gy 0 b vb rfl rfl
            have tl : ∀ {s : Bool}, eqSh l x y = some s → eqVs l vx vy = some s := fun hs => ih hs vx vy (by simpa using hx) (by simpa using hy) (fun i a v h1 h2 => gx (i + 1) a v (by simpa using h1) (by simpa using h2)) fun i a v h1 h2 => gy (i + 1) a v (by simpa using h1) (by simpa using h2)
            cases f with
            | i k =>
              cases a <;> cases b <;> simp only [eqSh, reduceCtorEq] at hr
              obtain rfl := VR_int ha
              obtain rfl := VR_int hb
              split at hr
              · rename_i s hk hs
                injection hr with hr; subst hr
                simp only [Bool.and_eq_true, beq_iff_eq] at hk
                simp only [eqVs, leafEq, if_pos hk, tl hs, bEq]
              · cases hr
            | b =>
              cases a <;> cases b <;> simp only [eqSh, reduceCtorEq] at hr
              obtain rfl := VR_bool ha
              obtain rfl := VR_bool hb
              split at hr
              · rename_i s hs
                injection hr with hr; subst hr
                simp only [eqVs, leafEq, tl hs, bB]
              · cases hr
            | s =>
              cases a <;> cases b <;> simp only [eqSh, reduceCtorEq] at hr
              obtain rfl := VR_str ha
              obtain rfl := VR_str hb
              split at hr
              · rename_i s hs
                injection hr with hr; subst hr
                simp only [eqVs, leafEq, tl hs, sEq]
              · cases hr
theorem shOk_of {sh : TypeId → Option (List Leaf)} (hs : ∀ t l, sh t = some l → shF P 9 t = some l ∧ tagg P t = some true ∧ P.eqGuardType P.depth t = false) : ShOk P sh := by
  intro t l hl E x y vx vy r hx hy hr
  obtain ⟨h1, h2, h3⟩ := hs t l hl
  refine ⟨h3, fun w => ?_⟩
  cases hx with
  | agg _ _ lx _ gx =>
  cases hy with
  | agg _ _ ly _ gy =>
  have he := eqSh_eqVs hr vx.toList vy.toList (by simpa using lx) (by simpa using ly) (fun i a v h1 h2 => gx i a v h1 (by simpa using h2)) fun i a v h1 h2 => gy i a v h1 (by simpa using h2)
  exact equalIn_run (P := P) 9 9991 t l h1 w _ _ r _ _ he (by unfold VT; rw [h2]) (by unfold VT; rw [h2])
end Go.Am

namespace Go.Am
set_option linter.unusedVariables false

theorem pureC_eq (body : List AV → AR) (l : List AV) (h : List ABlk) : pureC body l h = pureR (roObL h l) (body (roL h l)) := rfl
theorem freshC_eq (body : List AV → AR) (l : List AV) (h : List ABlk) : freshC body l h = freshR (roObL h l) h (body (roL h l)) := rfl
theorem wrap_nat (k : IntKind) (hs : k.signed = false) (n : Nat) (hn : n < 2 ^ k.bits) : k.wrap (n : Int) = n := by
  have h1 : ((n : Int) % (2 ^ k.bits : Int)) = n := by
    rw [show (2 ^ k.bits : Int) = ((2 ^ k.bits : Nat) : Int) from by simp, ← Int.natCast_emod, Nat.mod_eq_of_lt hn]
  simp only [IntKind.wrap, hs, Bool.false_and, Bool.false_eq_true, if_false, h1]
theorem ofInt_nat (k : IntKind) (n : Nat) (hn : n < 2 ^ k.bits) : (BitVec.ofInt k.bits (n : Int)).toNat = n := by
  rw [BitVec.toNat_ofInt, ← Int.natCast_emod, Int.toNat_natCast, Nat.mod_eq_of_lt hn]
theorem andI_nat (k : IntKind) (hs : k.signed = false) (m n : Nat) (hm : m < 2 ^ k.bits) (hn : n < 2 ^ k.bits) : andI k m n = ((m &&& n : Nat) : Int) := by
  unfold andI
  rw [BitVec.toNat_and, ofInt_nat k m hm, ofInt_nat k n hn, wrap_nat k hs _ (Nat.and_lt_two_pow m hn)]
theorem orI_nat (k : IntKind) (hs : k.signed = false) (m n : Nat) (hm : m < 2 ^ k.bits) (hn : n < 2 ^ k.bits) : orI k m n = ((m ||| n : Nat) : Int) := by
  unfold orI
  rw [BitVec.toNat_or, ofInt_nat k m hm, ofInt_nat k n hn, wrap_nat k hs _ (Nat.or_lt_two_pow hm hn)]
theorem xorI_nat (k : IntKind) (hs : k.signed = false) (m n : Nat) (hm : m < 2 ^ k.bits) (hn : n < 2 ^ k.bits) : xorI k m n = ((m ^^^ n : Nat) : Int) := by
  unfold xorI
  rw [BitVec.toNat_xor, ofInt_nat k m hm, ofInt_nat k n hn, wrap_nat k hs _ (Nat.xor_lt_two_pow hm hn)]
theorem shrI_nat (k : IntKind) (m s : Nat) (h : s ≤ k.bits) : shrI k m s = ((m / 2 ^ s : Nat) : Int) := by
  unfold shrI
  rw [Int.toNat_natCast, Nat.min_eq_left h, show (2 ^ s : Int) = ((2 ^ s : Nat) : Int) from by simp, Int.fdiv_eq_ediv_of_nonneg _ (Int.natCast_nonneg _), ← Int.natCast_ediv]
theorem shlI_nat (k : IntKind) (hs : k.signed = false) (m s : Nat) (h : s ≤ k.bits) (hm : m * 2 ^ s < 2 ^ k.bits) : shlI k m s = ((m * 2 ^ s : Nat) : Int) := by
  unfold shlI
  rw [Int.toNat_natCast, Nat.min_eq_left h, show ((m : Int) * 2 ^ s) = ((m * 2 ^ s : Nat) : Int) from by simp, wrap_nat k hs _ hm]
/-- A byte shifted in from the right. -/
theorem or_step (n c : Int) (h : 0 ≤ n) (h1 : n ≤ 72057594037927935) (hc : 0 ≤ c) (hc1 : c ≤ 255) : orI .u64 (shlI .u64 n 8) (wr .u64 c) = n * 256 + c := by
  obtain ⟨a, rfl⟩ := Int.eq_ofNat_of_zero_le h
  obtain ⟨b, rfl⟩ := Int.eq_ofNat_of_zero_le hc
  rw [show wr .u64 (b : Int) = b from wrap_nat .u64 rfl b (by show b < 2 ^ 64; omega)]
  rw [show shlI .u64 (a : Int) 8 = ((a * 2 ^ 8 : Nat) : Int) from shlI_nat .u64 rfl a 8 (by decide) (by show a * 2 ^ 8 < 2 ^ 64; omega)]
  rw [orI_nat .u64 rfl _ _ (by show a * 2 ^ 8 < 2 ^ 64; omega) (by show b < 2 ^ 64; omega)]
  rw [Nat.mul_comm, ← Nat.two_pow_add_eq_or_of_lt (show b < 2 ^ 8 by omega)]
  omega
end Go.Am

namespace Go.Am
set_option linter.unusedVariables false
variable {P : Program} {E : Env} {h : List ABlk}

def RndS (P : Program) (sh : TypeId → Option (List Leaf)) (ct : Ct) (m : Nat) (c : Code) (K : Kt) : Nat → List AV → List ABlk → Prop
  | 0, _, _ => False
  | n + 1, t, h => ∃ t2 h2, Sub m t h t2 h2 ∧ wpC P sh ct c (kLp (RndS P sh ct m c K n) K) t2 h2
theorem rndS_succ {sh : TypeId → Option (List Leaf)} {ct : Ct} {m n : Nat} {c : Code} {K : Kt} {t : List AV} : RndS P sh ct m c K (n + 1) t h = ∃ t2 h2, Sub m t h t2 h2 ∧ wpC P sh ct c (kLp (RndS P sh ct m c K n) K) t2 h2 := rfl
theorem loop_roundsS {sh : TypeId → Option (List Leaf)} {ct : Ct} (S : ShOk P sh) (C : CtOk P ct) (n : Nat) {c : Code} {K : Kt} {t : List AV} (hr : RndS P sh ct h.length c K n t h) : Mean P (.loop c) K t h := by
  intro E a Q H F hd hQ
  have main : ∀ n (E1 : Env) (a1 : Act) (t1 : List AV) (h1 : List ABlk), RndS P sh ct h.length c K n t1 h1 → HR E1 h1 → FR E1 t1 a1.tmps → a1.defers = [] → Ext E h E1 h1 → Code.rounds P c Q n a1 E1.w := by
    intro n
    induction n with
    | zero => intro E1 a1 t1 h1 hr; exact hr.elim
    | succ n ih =>
      intro E1 a1 t1 h1 hr H1 F1 hd1 X1
      obtain ⟨t2, h2, ⟨μ, c1, c2, c3, c4⟩, hw⟩ := hr
      rw [rounds_succ]
      have X2 := via_Ext H H1 X1 c2 c3 c4
      refine wpC_sound S C c _ _ _ hw (E1.via μ) a1 _ (via_HR H1 c2 c3).1 (via_FR F1 c1) hd1 fun e E2 a2 t3 h3 hk X3 H3 F3 hd3 => ?_
      cases e with
      | normal => exact ih E2 a2 t3 h3 hk H3 F3 hd3 (X2.trans X3)
      | exit id => exact hQ (.exit id) E2 a2 t3 h3 hk (X2.trans X3) H3 F3 hd3
      | ret => exact hQ .ret E2 a2 t3 h3 hk (X2.trans X3) H3 F3 hd3
      | goto l => exact hQ (.goto l) E2 a2 t3 h3 hk (X2.trans X3) H3 F3 hd3
  exact wp_loop_rounds n (main n E a t h hr H F hd (Ext.refl _ _))

/-! ### Rows of a list -/
/-- The rows that a list of rows spells out. -/
def rowsC (l : List (List AV)) : Nat → Nat → AV := fun x y => getL (l.getD x []) y
theorem rowsC_app (l m : List (List AV)) (n : Nat) (hn : n = l.length) : appC n (rowsC l) (rowsC m) = rowsC (l ++ m) := by
  subst hn
  funext x y
  simp only [appC, rowsC]
  split
  · rename_i hx
    simp only [List.getD_eq_getElem?_getD, List.getElem?_append_left hx]
  · rename_i hx
    simp only [List.getD_eq_getElem?_getD, List.getElem?_append_right (Nat.le_of_not_lt hx)]
theorem rowsC_sub0 (l : List (List AV)) : subC 0 (rowsC l) = rowsC l := by
  funext x y
  simp only [subC, Nat.zero_add]
theorem rowsC_sub (l : List (List AV)) (i : Nat) : subC i (rowsC l) = rowsC (l.drop i) := by
  funext x y
  simp only [subC, rowsC, List.getD_eq_getElem?_getD, List.getElem?_drop]
def chunk (z : Nat) : Nat → List AV → List (List AV)
  | 0, _ => []
  | n + 1, l => l.take z :: chunk z n (l.drop z)
theorem litC1 (l : List AV) (x : Nat) (hx : x < l.length) : litC 1 l x 0 = rowsC (l.map fun a => [a]) x 0 := by
  simp only [litC, rowsC, Nat.mul_one, Nat.add_zero, List.getD_eq_getElem?_getD, List.getElem?_map, List.getElem?_eq_getElem hx, Option.map_some, Option.getD_some]
  rw [getL_eq (List.getElem?_eq_getElem hx)]
  rfl
/-- Every cell of a content names only the first n blocks. -/
def NR (n : Nat) (c : Nat → Nat → AV) : Prop := ∀ x y, nr n (c x y)
theorem NR_lit {n z : Nat} {l : List AV} (hl : nrL n l) : NR n (litC z l) := nr_litC hl
theorem NR_app {n k : Nat} {c d : Nat → Nat → AV} (h1 : NR n c) (h2 : NR n d) : NR n (appC k c d) := by
  intro x y
  simp only [appC]
  split
  · exact h1 x y
  · exact h2 _ y
theorem NR_sub {n i : Nat} {c : Nat → Nat → AV} (h1 : NR n c) : NR n (subC i c) := fun x y => h1 _ y
theorem NR_const {n : Nat} {l : List AV} (hl : nrL n l) : NR n (fun _ y => getL l y) := by
  intro x y
  rcases Nat.lt_or_ge y l.length with hi | hi
  · exact nrL_get hl (getL_some hi)
  · simp only [getL_none hi, nr]
theorem NR_rows {n : Nat} {l : List (List AV)} (hl : ∀ r ∈ l, nrL n r) : NR n (rowsC l) := by
  intro x y
  simp only [rowsC, List.getD_eq_getElem?_getD]
  cases hx : l[x]? with
  | none => simp [getL, nr]
  | some r =>
    have hr := hl r (List.mem_of_getElem? hx)
    simp only [Option.getD_some]
    rcases Nat.lt_or_ge y r.length with hi | hi
    · exact nrL_get hr (getL_some hi)
    · simp only [getL_none hi, nr]
/-- A list of bytes as rows. -/
def u8L (l : List Int) : List (List AV) := l.map fun x => [.int .u8 x]
theorem u8L_app (l m : List Int) : u8L l ++ u8L m = u8L (l ++ m) := by simp [u8L]
theorem NR_u8 {n : Nat} (l : List Int) : NR n (rowsC (u8L l)) := NR_rows fun r hr => by
  simp only [u8L, List.mem_map] at hr
  obtain ⟨x, _, rfl⟩ := hr
  simp [nrL, nr]
theorem u8_app (l : List Int) (m : List Int) (x : Nat) (hx : x < l.length + m.length) :
    appC l.length (rowsC (u8L l)) (litC 1 (m.map fun x => .int .u8 x)) x 0 = rowsC (u8L (l ++ m)) x 0 := by
  rw [← u8L_app, ← rowsC_app (u8L l) (u8L m) l.length (by simp [u8L])]
  simp only [appC]
  split
  · rfl
  · rename_i h1
    rw [litC1 _ _ (by simp; omega), List.map_map]
    rfl
/-- A content whose rows are those of a list. -/
def IsR (es n : Nat) (c : Nat → Nat → AV) (l : List (List AV)) : Prop := l.length = n ∧ ∀ x y, x < n → y < es → c x y = rowsC l x y
theorem IsR_rows {es n : Nat} {l : List (List AV)} (h : l.length = n) : IsR es n (rowsC l) l := ⟨h, fun _ _ _ _ => rfl⟩
theorem IsR_zero {es : Nat} {c : Nat → Nat → AV} : IsR es 0 c [] := ⟨rfl, fun x y hx => absurd hx (by omega)⟩
theorem IsR_app {es n m : Nat} {c d : Nat → Nat → AV} {l k : List (List AV)} (h1 : IsR es n c l) (h2 : IsR es m d k) : IsR es (n + m) (appC n (subC 0 c) (subC 0 d)) (l ++ k) := by
  refine ⟨by simp [h1.1, h2.1], fun x y hx hy => ?_⟩
  rw [← rowsC_app l k n h1.1.symm]
  simp only [appC, subC, Nat.zero_add]
  split
  · rename_i h; exact h1.2 x y h hy
  · rename_i h; exact h2.2 (x - n) y (by omega) hy
theorem IsR_app' {es n m p : Nat} {c d : Nat → Nat → AV} {l k : List (List AV)} (h1 : IsR es n c l) (h2 : IsR es m d k) (hp : p = n + m) : IsR es p (appC n (subC 0 c) (subC 0 d)) (l ++ k) := hp ▸ IsR_app h1 h2
theorem IsR_lit1 (l : List AV) : IsR 1 l.length (litC 1 l) (l.map fun a => [a]) := by
  refine ⟨by simp, fun x y hx hy => ?_⟩
  obtain rfl : y = 0 := by omega
  exact litC1 l x hx
theorem IsR_cast {es n : Nat} {c : Nat → Nat → AV} {l m : List (List AV)} (h : IsR es n c l) (e : l = m) : IsR es n c m := e ▸ h
theorem IsR_cv {μ : Mu} {es n : Nat} {c : Nat → Nat → AV} {l : List (List AV)} (h : IsR es n c l) (hf : ∀ r ∈ l, nrefL r) : ∀ x y, x < n → y < es → Cv μ (rowsC l x y) (c x y) := by
  intro x y hx hy
  rw [h.2 x y hx hy]
  refine Cv_refl _ ?_
  simp only [rowsC, List.getD_eq_getElem?_getD]
  rw [List.getElem?_eq_getElem (by rw [h.1]; exact hx)]
  exact nrefL_getL (hf _ (List.getElem_mem _)) y
theorem u8L_nref (l : List Int) : ∀ r ∈ u8L l, nrefL r := by
  intro r hr
  simp only [u8L, List.mem_map] at hr
  obtain ⟨x, _, rfl⟩ := hr
  simp [nrefL, nref]
theorem bytesC_u8 (l : List Int) : bytesC l.length (rowsC (u8L l)) = strOfNums l := by
  unfold bytesC strOfNums
  congr 2
  apply List.ext_getElem?
  intro i
  rw [List.getElem?_map, List.getElem?_map]
  by_cases hi : i < l.length
  · rw [List.getElem?_range hi, List.getElem?_eq_getElem hi]
    simp only [Option.map_some, rowsC, u8L, List.getD_eq_getElem?_getD, List.getElem?_map, List.getElem?_eq_getElem hi, Option.getD_some, getL]
  · rw [List.getElem?_eq_none (by simp; omega), List.getElem?_eq_none (by omega)]; rfl
end Go.Am

namespace Go.Am
set_option linter.unusedVariables false
variable {P : Program} {E : Env} {h : List ABlk}

theorem pure_ext {f : FuncId} (hen : Enters P f) (body : List AV → AR)
    (hw : ∀ (E : Env) (l : List AV) (vs : Array Value) (ob : Prop) (v : AV), body l = .pure ob v → ob → FR E l vs → ∃ u, conc v = some u ∧ Calls P f vs E.w fun e w' => e = .returned u ∧ w' = E.w) : FnOk P f (pureC body) := by
  have main : ∀ (E : Env) (h : List ABlk) (l : List AV) (vs : Array Value) (ob : Prop) (v : AV), HR E h → FR E l vs → pureC body l h = .pure ob v → ob → Calls P f vs E.w (RetP E.w v) := by
    intro E h l vs ob v H F hr hob
    unfold pureC at hr
    cases hbd : body (roL h l) with
    | fail => rw [hbd] at hr; cases hr
    | heap a b c => rw [hbd] at hr; cases hr
    | pure ob' v' =>
      rw [hbd] at hr
      simp only [pureR, AR.pure.injEq] at hr
      obtain ⟨rfl, rfl⟩ := hr
      have F0 : FR E.view (roL h l) vs := by
        refine ⟨by rw [roL_length]; exact F.1, fun i a v ha hv => ?_⟩
        rw [roL_get] at ha
        cases hi : l[i]? with
        | none => rw [hi] at ha; cases ha
        | some a0 =>
          rw [hi] at ha
          simp only [Option.map_some, Option.some.injEq] at ha
          subst ha
          exact ro_VR H (F.2 i a0 v hi hv) (roObL_get hob.1 hi)
      obtain ⟨u, hc, hC⟩ := hw _ _ _ _ _ hbd hob.2 F0
      refine Calls.mono hC ?_
      rintro e w' ⟨rfl, rfl⟩
      exact ⟨u, rfl, hc, rfl, rfl, rfl, Nat.le_refl _, fun _ _ => rfl⟩
  refine ⟨hen, fun E h l vs ob v h' H F hr hob => ?_, main⟩
  cases hc : pureC body l h with
  | fail => rw [hc] at hr; cases hr
  | heap a b c => exfalso; unfold pureC at hc; cases hbd : body (roL h l) <;> rw [hbd] at hc <;> cases hc
  | pure ob' v' =>
    rw [hc] at hr
    simp only [AR.out, Option.some.injEq, Prod.mk.injEq] at hr
    obtain ⟨rfl, rfl, rfl⟩ := hr
    refine (main E h l vs _ _ H F hc hob).mono ?_
    rintro e w' ⟨u, rfl, hu, hS⟩
    obtain ⟨H', X'⟩ := HR_same H hS
    exact ⟨u, _, rfl, rfl, X', H', conc_mk hu⟩

/-- A read-only row of bytes, as the model's entries read it. -/
theorem ro_bytesOf {n : Nat} {nl : Bool} {c : Nat → Nat → AV} {u : Value} (hx : VR E (.ro 1 n nl c) u) (hq : ∀ i, i < n → u8Q (c i 0)) : (Extern.Bytes.bytesOf u).run P E.w = .ok (bytesC n c) E.w := by
  cases hx with
  | ro _ _ _ _ a cap hn hcm hnl hz us ha h1 hc hrf =>
    cases n with
    | zero =>
      have e : bytesC 0 c = .empty := by unfold bytesC; rfl
      rw [e]
      cases a with
      | none => simp only [Extern.Bytes.bytesOf, Sem.run_pure]
      | some a => simp only [Extern.Bytes.bytesOf, Extern.Bytes.loadBytes, Sem.run_pure]
    | succ n =>
      obtain ⟨k, o, rfl, _, hcell⟩ := ha (by omega)
      obtain ⟨ns, e1, e2⟩ := bytesC_eq (n := n + 1) (c := c) (news := (List.range (n + 1)).map fun i => us i 0) (by simp) hq (fun q y hq' hy => by
        have hy0 : y = 0 := by omega
        subst hy0
        refine ⟨us q 0, ?_, h1 q 0 hq' (by omega), hc q 0 hq' (by omega)⟩
        simp [List.getElem?_range hq'])
      have hlen : ns.length = n + 1 := by
        have := congrArg List.length e1
        simpa using this.symm
      have hl := Go.Lib.run_loadBytesX (P := P) E.w ns ⟨k, o, none⟩ .empty (fun j x hj => by
        have hj' : j < n + 1 := by rw [← hlen]; exact (List.getElem?_eq_some_iff.mp hj).1
        have hz := hcell j 0 hj' (by omega)
        rw [Nat.mul_one, Nat.add_zero] at hz
        rw [Addr.add_lit, hz]
        have := congrArg (·[j]?) e1
        simp only [List.getElem?_map, List.getElem?_range hj', hj, Option.map_some, Option.some.injEq] at this
        rw [this])
      rw [hlen] at hl
      simp only [Extern.Bytes.bytesOf]
      rw [hl, e2]
      congr 1
      apply ByteArray.ext
      show #[] ++ (Go.Lib.bytesOf ns).toArray = _
      simp [strOfNums, Go.Lib.bytesOf]

theorem run_compareBytes {n m : Nat} {nl ml : Bool} {c d : Nat → Nat → AV} {u v : Value} (hx : VR E (.ro 1 n nl c) u) (hy : VR E (.ro 1 m ml d) v) (hq : ∀ i, i < n → u8Q (c i 0)) (hr : ∀ i, i < m → u8Q (d i 0)) :
    (Extern.BytealgCompare.compare #[u, v]).run P E.w = .ok (.int .i64 (Go.Lib.compareBytes (bytesC n c).data.toList (bytesC m d).data.toList)) E.w := by
  change Sem.run P (do pure (goInt (Extern.BytealgCompare.cmp (← Extern.Bytes.bytesOf u) (← Extern.Bytes.bytesOf v)))) E.w = _
  simp only [Sem.run_bind, ro_bytesOf hx hq, ro_bytesOf hy hr, Sem.run_pure, Result.andThen]
  rw [Go.Lib.cmp_eq]
  rfl
end Go.Am

namespace Go.Am
set_option linter.unusedVariables false
variable {P : Program} {E : Env} {h : List ABlk}

/-- A contract that leaves memory as it is, and whose result may be memory of the caller's. -/
def passC (body : List AV → AR) (l : List AV) (h : List ABlk) : AR := match body l with
  | .pure ob v => .heap ob v h
  | _ => .fail
/-- The second value says no less than the first. -/
def WkV (v v' : AV) : Prop := ∀ (E : Env) (u : Value), VR E v' u → VR E v u
theorem WkV_refl (v : AV) : WkV v v := fun _ _ h => h
theorem WkV_nil (b es i : Nat) (c : Nat → Nat → AV) : WkV (.sl b es i 0 true) (.ro 0 0 true c) := fun E u h => by
  cases h with
  | ro _ _ _ _ a cap hn hcm hnl hz us ha h1 hc hrf =>
    have ha' : a = none := hnl rfl
    exact .sl b es i 0 true a cap hn hcm (fun _ => ha') hz fun hp => by have := hz ha'; omega
theorem WkV_tup2 {a b a' b' : AV} (h1 : WkV a a') (h2 : WkV b b') : WkV (.tup [a, b]) (.tup [a', b']) := fun E u h => by
  cases h with
  | tup _ vs hl hh =>
    refine .tup _ vs (by simpa using hl) fun i x v hx hv => ?_
    match i with
    | 0 => simp at hx; subst hx; exact h1 E v (hh 0 _ v rfl hv)
    | 1 => simp at hx; subst hx; exact h2 E v (hh 1 _ v rfl hv)
    | i + 2 => simp at hx

theorem pass_fn {f : FuncId} {fn : Func} {code : Code} {sh : TypeId → Option (List Leaf)} {ct : Ct} (S : ShOk P sh) (C : CtOk P ct) (body : List AV → AR) {rs : List ResultVar}
    (hf : P.funcs[f]? = some fn) (hn : (fn.name == "runtime.NumGoroutine") = false) (hb : fn.body = some code) (hrs : fn.results.toList = rs)
    (hw : ∀ (l : List AV) (ob : Prop) (v : AV), body l = .pure ob v → ob → ∃ t, t = l ++ List.replicate (fn.ntmps - l.length) .top ∧ ∀ h, wpC P sh ct code (kRet P rs fun v' h' => WkV v v' ∧ h' = h) t h) : FnOk P f (passC body) := by
  subst hrs
  refine ⟨⟨fn, hf, hn, by rw [hb]; rfl⟩, fun E h l vs ob v h' H F hr hob => ?_, fun E h l vs ob v H F hr hob => ?_⟩
  · unfold passC at hr
    cases hbd : body l with
    | fail => rw [hbd] at hr; cases hr
    | heap a b c => rw [hbd] at hr; cases hr
    | pure ob' v' =>
      rw [hbd] at hr
      simp only [AR.out, Option.some.injEq, Prod.mk.injEq] at hr
      obtain ⟨rfl, rfl, rfl⟩ := hr
      obtain ⟨t, rfl, g⟩ := hw _ _ _ hbd hob
      have F2 : FR E (l ++ List.replicate (fn.ntmps - l.length) .top) (vs ++ Array.replicate (fn.ntmps - vs.size) undef) := by
        refine FR_append F ⟨by simp [F.1], fun i a v ha hv => ?_⟩
        rw [List.getElem?_replicate] at ha
        split at ha
        · injection ha with ha; subst ha; exact .top _
        · cases ha
      refine calls_of_wp hf hb ?_
      refine wpC_sound S C code _ _ _ (g h) E _ _ H F2 rfl fun e E1 a' t' h1 hk X1 H1 F1 hd => ?_
      have done : retK P fn.results.toList (fun v2 h2 => WkV v' v2 ∧ h2 = h) t' h1 → a'.defers = [] ∧ ∃ u, (results fn a'.tmps).run P E1.w = .ok u E1.w ∧ Ret E h h v' (.returned u) E1.w := by
        intro hk
        obtain ⟨u, v2, q1, ⟨q2, rfl⟩, q3⟩ := ret_sound (P := P) H1 F1 hk
        exact ⟨hd, u, q1, u, E1, rfl, rfl, X1, H1, q2 _ _ q3⟩
      cases e with
      | normal => exact done hk
      | ret => exact done hk
      | exit id => exact hk.elim
      | goto l => exact hk.elim
  · exfalso
    unfold passC at hr
    cases hbd : body l <;> rw [hbd] at hr <;> cases hr
/-- Two contracts of one function, each for its own arguments. -/
theorem fn_or {f : FuncId} {c1 c2 : List AV → List ABlk → AR} (b : List AV → Bool) (h1 : FnOk P f c1) (h2 : FnOk P f c2) : FnOk P f (fun l h => bif b l then c1 l h else c2 l h) := by
  refine ⟨h1.1, fun E h l vs ob v h' H F hr hob => ?_, fun E h l vs ob v H F hr hob => ?_⟩
  · cases hb : b l with
    | true => exact h1.2.1 E h l vs ob v h' H F (by simpa only [hb, cond_true] using hr) hob
    | false => exact h2.2.1 E h l vs ob v h' H F (by simpa only [hb, cond_false] using hr) hob
  · cases hb : b l with
    | true => exact h1.2.2 E h l vs ob v H F (by simpa only [hb, cond_true] using hr) hob
    | false => exact h2.2.2 E h l vs ob v H F (by simpa only [hb, cond_false] using hr) hob
end Go.Am

namespace Go.Am
set_option linter.unusedVariables false
variable {P : Program} {E : Env} {h : List ABlk}

/-- Only the named slots. -/
def keepT (ds : List Nat) (t : List AV) : List AV := (List.range t.length).map fun i => bif inL i ds then getL t i else .top
/-- What one operation does, from a state on. -/
def Trip (P : Program) (o : Oper) (t : List AV) (g : List ABlk) (v : AV) (hh : List ABlk) : Prop :=
  ∀ (E : Env) (a : Act) (K : Act → World → Prop) (Q : Exit → Act → World → Prop), HR E g → FR E t a.tmps → (∀ r E', Ext E g E' hh → HR E' hh → VR E' v r → K (a.put o.dst r) E'.w) → o.wp P a E.w K Q
def StepS (P : Program) (ops : Array Oper) (L : Nat) (o : Oper) (t : List AV) (h : List ABlk) (s : Nat) (t' : List AV) (h' : List ABlk) (s' : Nat) (rs tg : List Nat) : Prop :=
  (tg = [] ∧ h' = h ∧ s' = s ∧ gval t ops.toList o.guard = .g false ∧ ∃ x, t' = setT t o.dst (.opt false x)) ∨
  (tg = [] ∧ h' = h ∧ s' = s ∧ ∃ v wv, (gval t ops.toList o.guard = .none ∧ wv = v ∨ gval t ops.toList o.guard = .g true ∧ wv = .opt true v) ∧ Trip P o (keepT (o.looksAt ops) t) (mask rs h) v (mask rs h) ∧ t' = setT t o.dst wv) ∨
  (∃ v hh wv, (gval t ops.toList o.guard = .none ∧ wv = ren L s v ∨ gval t ops.toList o.guard = .g true ∧ wv = .opt true (ren L s v)) ∧ Trip P o (keepT (o.looksAt ops) t) (mask rs h) v hh ∧
    (L < hh.length → nrH L hh) ∧ tg = rs ++ slotsF s (hh.length - L) ∧ h' = place rs s hh h ∧ s' = s + (hh.length - L) ∧ t' = setT t o.dst wv)
theorem StepS.facts {ops : Array Oper} {L : Nat} {o : Oper} {t t' : List AV} {h h' : List ABlk} {s s' : Nat} {rs tg : List Nat} (st : StepS P ops L o t h s t' h' s' rs tg) :
    (∃ x, t' = setT t o.dst x) ∧ h'.length = h.length ∧ s ≤ s' ∧ ∀ b, inL b tg = false → h.length = L → geth h' b = geth h b := by
  rcases st with ⟨rfl, rfl, rfl, _, x, rfl⟩ | ⟨rfl, rfl, rfl, v, wv, _, _, rfl⟩ | ⟨v, hh, wv, _, _, _, rfl, rfl, rfl, rfl⟩
  · exact ⟨⟨_, rfl⟩, rfl, Nat.le_refl _, fun _ _ _ => rfl⟩
  · exact ⟨⟨_, rfl⟩, rfl, Nat.le_refl _, fun _ _ _ => rfl⟩
  · refine ⟨⟨_, rfl⟩, place_length .., Nat.le_add_right _ _, fun b hb hL => ?_⟩
    rw [inL_append, inL_slots, Bool.or_eq_false_iff] at hb
    rw [geth_getD, geth_getD, place_get, hL, hb.2, hb.1]
    simp
structure TraceS (P : Program) (ops : Array Oper) (an : List (List Nat)) (L : Nat) (K : Kt) (s : Nat) (t : List AV) (h : List ABlk) : Prop where
  ex : ∃ (tt : Nat → List AV) (hh : Nat → List ABlk) (ss : Nat → Nat) (rs tg : Nat → List Nat), tt 0 = t ∧ hh 0 = h ∧ ss 0 = s ∧
      (∀ (j : Nat) (o : Oper), ops[j]? = some o → StepS P ops L o (tt j) (hh j) (ss j) (tt (j + 1)) (hh (j + 1)) (ss (j + 1)) (rs j) (tg j)) ∧
      (∀ j1 j2, j1 < j2 → j2 < ops.size → tg j2 = [] ∧ rs j2 = [] ∨ pairOk an j2 (rs j2) (tg j2) (j1, rs j1, tg j1) = true) ∧
      ss ops.size ≤ L ∧ K .normal (tt ops.size) (hh ops.size)
theorem keepT_FR {ds : List Nat} {t t' : List AV} {vs : Array Value} (F : FR E t' vs) (hl : t'.length = t.length) (hg : ∀ d, d ∈ ds → getL t' d = getL t d) : FR E (keepT ds t) vs := by
  refine ⟨by simp [keepT, ← hl, F.1], fun i a v ha hv => ?_⟩
  unfold keepT at ha
  rw [mapRange_get] at ha
  split at ha
  · rename_i hi
    injection ha with ha
    cases hc : inL i ds with
    | false => rw [hc] at ha; subst ha; exact .top _
    | true =>
      rw [hc] at ha
      simp only [cond_true] at ha
      subst ha
      rw [← hg i (inL_mem.1 hc)]
      exact F.2 i _ v (getL_some (by omega)) hv
  · cases ha

theorem draw_trip (kk : Nat) {id : Nat} {ops : Array Oper} {K : Kt} {t : List AV} (hm : P.follows .mixedOrders = true) (hB : drawB ops (ancL ops) = true)
    (hw : TraceS P ops (ancL ops) (h.length + kk) K h.length t (h ++ List.replicate kk .dead)) : Mean P (.region id ops true) K t h := by
  intro E a Q H F hd hQ
  have D := drawOk_of hB
  obtain ⟨tt, hh, ss, rs, tg, e1, e2, e3, step, pr, hend, hK⟩ := hw.ex
  generalize hL : h.length + kk = L at *
  generalize hh0 : h ++ List.replicate kk .dead = h0 at *
  generalize han : ancL ops = an at *
  generalize hm' : ops.size = m at *
  have hL0 : h0.length = L := by rw [← hh0, ← hL]; simp
  have H0 : HR E h0 := by rw [← hh0]; exact (dead_HR H kk).1
  have X0 : Ext E h E h0 := by rw [← hh0]; exact (dead_HR H kk).2
  have stp := step
  have lt : ∀ {i : Nat} {o : Oper}, ops[i]? = some o → i < m := fun hi => by rw [← hm']; exact (Array.getElem?_eq_some_iff.1 hi).1
  have some' : ∀ {i : Nat}, i < m → ∃ o, ops[i]? = some o := fun hi => ⟨ops[_]'(by omega), Array.getElem?_eq_getElem _⟩
  let dst (j : Nat) : Option Nat := (ops[j]?).bind (·.dst)
  have dst_eq : ∀ {j : Nat} {o : Oper}, ops[j]? = some o → dst j = o.dst := fun hj => by simp only [dst, hj, Option.bind_some]
  -- lengths and places
  have lens : ∀ i, i ≤ m → (tt i).length = t.length ∧ (hh i).length = L := by
    intro i
    induction i with
    | zero => intro _; rw [e1, e2]; exact ⟨rfl, hL0⟩
    | succ i ih =>
      intro hi
      obtain ⟨o, ho⟩ := some' (show i < m from by omega)
      obtain ⟨⟨x, hx⟩, hl, _, _⟩ := (stp i o ho).facts
      obtain ⟨i1, i2⟩ := ih (by omega)
      exact ⟨by rw [hx, setT_length, i1], by rw [hl, i2]⟩
  have mono1 : ∀ i, i < m → ss i ≤ ss (i + 1) := fun i hi => by
    obtain ⟨o, ho⟩ := some' hi
    exact (stp i o ho).facts.2.2.1
  have mono : ∀ i j, i ≤ j → j ≤ m → ss i ≤ ss j := by
    intro i j hij
    induction j with
    | zero => intro _; have : i = 0 := by omega
              subst this; exact Nat.le_refl _
    | succ j ih =>
      intro hj
      by_cases he : i = j + 1
      · subst he; exact Nat.le_refl _
      · exact Nat.le_trans (ih (by omega) (by omega)) (mono1 j (by omega))
  -- what the walk in the text's order holds
  have fullT : ∀ i, i ≤ m → ∀ d, getL (tt i) d = valW (fun j => getL (tt (j + 1)) d) (getL t d) (lastW (fun j => dst j == some d) i) := by
    intro i
    induction i with
    | zero => intro _ d; rw [e1]; rfl
    | succ i ih =>
      intro hi d
      obtain ⟨o, ho⟩ := some' (show i < m from by omega)
      obtain ⟨⟨x, hx⟩, _, _, _⟩ := (stp i o ho).facts
      simp only [lastW]
      cases hd : (dst i == some d) with
      | true => rfl
      | false =>
        simp only [cond_false]
        rw [← ih (by omega) d, hx, getL_setT, if_neg]
        rintro ⟨h', _⟩
        rw [dst_eq ho, h'] at hd
        simp at hd
  have fullH : ∀ i, i ≤ m → ∀ b, geth (hh i) b = valW (fun j => geth (hh (j + 1)) b) (geth h0 b) (lastW (fun j => inL b (tg j)) i) := by
    intro i
    induction i with
    | zero => intro _ d; rw [e2]; rfl
    | succ i ih =>
      intro hi b
      obtain ⟨o, ho⟩ := some' (show i < m from by omega)
      obtain ⟨_, _, _, hx⟩ := (stp i o ho).facts
      simp only [lastW]
      cases hd : inL b (tg i) with
      | true => rfl
      | false =>
        simp only [cond_false]
        rw [← ih (by omega) b]
        exact hx b hd (lens i (by omega)).2
  -- the state behind a set of operations
  let TS (s : Nat → Bool) (d : Nat) : AV := valW (fun j => getL (tt (j + 1)) d) (getL t d) (lastW (fun j => s j && (dst j == some d)) m)
  let HS (s : Nat → Bool) (b : Nat) : ABlk := valW (fun j => geth (hh (j + 1)) b) (geth h0 b) (lastW (fun j => s j && inL b (tg j)) m)
  let TL (s : Nat → Bool) : List AV := (List.range t.length).map (TS s)
  let HL (s : Nat → Bool) : List ABlk := (List.range L).map (HS s)
  have HLlen : ∀ s, (HL s).length = L := fun s => by simp [HL]
  have TLlen : ∀ s, (TL s).length = t.length := fun s => by simp [TL]
  let Sb (listed : Array Bool) (j : Nat) : Bool := listed.getD j false
  let Closed (s : Nat → Bool) : Prop := ∀ (i : Nat) o, s i = true → ops[i]? = some o → ∀ e ∈ o.after, Region.binds .any e = true → s e.on = true
  let Inv (listed : Array Bool) (a : Act) (w : World) : Prop := listed.size = m ∧ Closed (Sb listed) ∧ a.defers = [] ∧ ∃ E' : Env, E'.w = w ∧ HR E' (HL (Sb listed)) ∧ FR E' (TL (Sb listed)) a.tmps ∧ Ext0 E h0 E' (HL (Sb listed)) ∧ True ∧
    (∀ b, b < h.length → E'.σ b = E.σ b) ∧ ∀ i, i < m → Sb listed i = false → ∀ b, ss i ≤ b → b < ss (i + 1) → E'.σ b = none
  -- all have come up
  have final : ∀ listed a w, Inv listed a w → (∀ i, i < m → Sb listed i = true) → Q .normal a w := by
    rintro listed a w ⟨hsz, hcl, hdf, E', rfl, HR', FR', X', hpr', hold', _⟩ hall
    have hT : TL (Sb listed) = tt m := by
      apply List.ext_getElem?
      intro d
      rw [mapRange_get]
      split
      · rename_i hdl
        rw [getL_some (by rw [(lens m (Nat.le_refl _)).1]; exact hdl), fullT m (Nat.le_refl _) d]
        simp only [TS]
        rw [lastW_congr (q := fun j => dst j == some d) m fun j hj => by simp only [hall j hj, Bool.true_and]]
      · rw [List.getElem?_eq_none (by rw [(lens m (Nat.le_refl _)).1]; omega)]
    have hH : HL (Sb listed) = hh m := by
      apply List.ext_getElem?
      intro b
      rw [mapRange_get]
      split
      · rename_i hbl
        have : geth (hh m) b = HS (Sb listed) b := by
          rw [fullH m (Nat.le_refl _) b]
          simp only [HS]
          rw [lastW_congr (p := fun j => Sb listed j && inL b (tg j)) (q := fun j => inL b (tg j)) m fun j hj => by simp only [hall j hj, Bool.true_and]]
        rw [← this, geth_getD, List.getElem?_eq_getElem (by rw [(lens m (Nat.le_refl _)).2]; exact hbl)]
        rfl
      · rw [List.getElem?_eq_none (by rw [(lens m (Nat.le_refl _)).2]; omega)]
    rw [hT] at FR'
    rw [hH] at HR' X'
    have ho0 : ∀ k, Own E h0 k → Own E h k := fun k hk => by
      rcases X0.own k hk with h' | h'
      · exact h'
      · have := H0.own_lt hk; omega
    refine hQ .normal E' a (tt m) (hh m) hK ⟨X'.os, X'.tape, X'.output, X'.σ, X'.prot, X'.size, X'.kind, fun k hk hn => X'.frame k hk fun ho => hn (ho0 k ho), fun k hk => ?_, by rw [(lens m (Nat.le_refl _)).2, ← hL]; omega, hold', fun k hk => (X'.pro k hk).imp (fun h => h) (Or.imp_left (ho0 k))⟩ HR' FR' hdf
    rcases X'.own k hk with h' | h'
    · exact .inl (ho0 k h')
    · exact .inr h'
  -- one comes up
  have main : ∀ (fuel : Nat) (listed : Array Bool) (a : Act) (w : World), Inv listed a w → (List.range m).countP (fun j => !Sb listed j) ≤ fuel → wpAny P .any ops Q fuel listed a w := by
    intro fuel
    induction fuel with
    | zero =>
      intro listed a w hI hc
      have hall : ∀ i, i < m → Sb listed i = true := by
        intro i hi
        have h0 : (List.range m).countP (fun j => !Sb listed j) = 0 := by omega
        rw [List.countP_eq_zero] at h0
        have := h0 i (List.mem_range.2 hi)
        simpa using this
      refine ⟨?_, final listed a w hI hall⟩
      rw [List.eq_nil_iff_forall_not_mem]
      intro i hi
      obtain ⟨h1, o, ho, _⟩ := mem_ready.1 hi
      have h2 := hall i (lt ho)
      have hsz := hI.1
      simp only [Sb] at h2
      rw [getD_lt (by rw [hsz]; exact lt ho) true false] at h1
      rw [h1] at h2; cases h2
    | succ fuel ih =>
      intro listed a w hI hc
      refine ⟨fun hr => ?_, fun i hi => ?_⟩
      · refine final listed a w hI fun i hi => ?_
        have key : ∀ i, i < m → Sb listed i = true := by
          intro i
          induction i using Nat.strongRecOn with
          | _ i ihi =>
            intro hi
            cases hs : Sb listed i with
            | true => rfl
            | false =>
              exfalso
              obtain ⟨o, ho⟩ := some' hi
              have hin : i ∈ Region.ready .any ops listed := by
                refine mem_ready.2 ⟨?_, o, ho, fun e he hb => ?_⟩
                · rw [getD_lt (by rw [hI.1]; exact hi) true false]; exact hs
                · have hlt := D.back i o ho e he hb
                  exact ihi e.on hlt (by omega)
              rw [hr] at hin; cases hin
        exact key i hi
      · obtain ⟨hsz, hcl, hdf, E', rfl, HR', FR', X', hpr', hold', hfree⟩ := hI
        obtain ⟨h1, o, ho, hpred⟩ := mem_ready.1 hi
        have him := lt ho
        have hSi : Sb listed i = false := by
          rw [getD_lt (by rw [hsz]; exact him) true false] at h1; exact h1
        -- the order
        have before : ∀ j, inL j (getA an i) = true → Sb listed j = true := fun j hj => anc_closed D hcl i o j ho hpred hj
        have behind : ∀ j, j < m → inL i (getA an j) = true → Sb listed j = false := by
          intro j hj hij
          cases hs : Sb listed j with
          | false => rfl
          | true =>
            obtain ⟨oj, hoj⟩ := some' hj
            have := anc_closed D hcl j oj i hoj (hcl j oj hs hoj) hij
            rw [this] at hSi; cases hSi
        have ordS : ∀ j, j < m → j ≠ i → ordB an i j = true → (j < i → Sb listed j = true) ∧ (i < j → Sb listed j = false) := by
          intro j hj hji hor
          unfold ordB at hor
          by_cases hlt : j < i
          · simp only [hlt, decide_true, cond_true] at hor
            exact ⟨fun _ => before j hor, fun h' => by omega⟩
          · simp only [hlt, decide_false, cond_false] at hor
            exact ⟨fun h' => absurd h' hlt, fun _ => behind j hj hor⟩
        have memS : ∀ j, j < m → j ≠ i → (hit (tg j) (rs i) = true ∨ hit (tg j) (tg i) = true) → (j < i → Sb listed j = true) ∧ (i < j → Sb listed j = false) := by
          intro j hj hji hcf
          rcases Nat.lt_trichotomy j i with hlt | rfl | hgt
          · refine ⟨fun _ => ?_, fun h' => by omega⟩
            rcases pr j i hlt him with ⟨p1, p2⟩ | hp
            · rw [p1, p2] at hcf
              simp [hit, hit_nil] at hcf
            · simp only [pairOk, Bool.or_eq_true, Bool.not_eq_true', Bool.or_eq_false_iff] at hp
              rcases hp with ⟨⟨p1, p2⟩, p3⟩ | hp
              · rcases hcf with h' | h'
                · rw [p1] at h'; cases h'
                · rw [p2] at h'; cases h'
              · exact before j hp
          · exact absurd rfl hji
          · refine ⟨fun h' => by omega, fun _ => ?_⟩
            rcases pr i j hgt hj with ⟨p1, p2⟩ | hp
            · rw [p1] at hcf
              simp [hit] at hcf
            · simp only [pairOk, Bool.or_eq_true, Bool.not_eq_true', Bool.or_eq_false_iff] at hp
              rcases hp with ⟨⟨p1, p2⟩, p3⟩ | hp
              · rcases hcf with h' | h'
                · rw [p3] at h'; cases h'
                · have := hit_symm h'
                  rw [p2] at this; cases this
              · exact behind j hj hp
        -- the state at this operation reads as in the text's order
        have agT : ∀ d, d ∈ o.looksAt ops → getL (TL (Sb listed)) d = getL (tt i) d := by
          intro d hdl
          by_cases hdt : d < t.length
          · rw [getL_map _ _ _ hdt, fullT i (by omega) d]
            simp only [TS]
            have cf : ∀ j, j < m → j ≠ i → (dst j == some d) = true → (j < i → Sb listed j = true) ∧ (i < j → Sb listed j = false) := fun j hj hji hdj =>
              ordS j hj hji (D.ord i j o d ho hji (by simpa using hdj) (.inl hdl))
            rw [lastW_cut (p := fun j => Sb listed j && (dst j == some d)) (q := fun j => dst j == some d) (i := i) (fun j hj => ?_) m (by omega) (fun j hj hjm => ?_)]
            · cases hc : (dst j == some d) with
              | false => simp
              | true => simp [(cf j (by omega) (by omega) hc).1 hj]
            · by_cases hji : j = i
              · subst hji; simp [hSi]
              · cases hc : (dst j == some d) with
                | false => simp
                | true => simp [(cf j hjm hji hc).2 (by omega)]
          · have hge : t.length ≤ d := Nat.not_lt.1 hdt
            rw [getL_none (l := TL (Sb listed)) (by rw [TLlen]; exact hge), getL_none (l := tt i) (by rw [(lens i (by omega)).1]; exact hge)]
        have agH : ∀ b, inL b (rs i) = true → geth (HL (Sb listed)) b = geth (hh i) b := by
          intro b hb
          by_cases hbL : b < L
          · rw [geth_map _ _ _ hbL, fullH i (by omega) b]
            simp only [HS]
            have cf : ∀ j, j < m → j ≠ i → inL b (tg j) = true → (j < i → Sb listed j = true) ∧ (i < j → Sb listed j = false) := fun j hj hji hdj =>
              memS j hj hji (.inl (hit_of hdj hb))
            rw [lastW_cut (p := fun j => Sb listed j && inL b (tg j)) (q := fun j => inL b (tg j)) (i := i) (fun j hj => ?_) m (by omega) (fun j hj hjm => ?_)]
            · cases hc : inL b (tg j) with
              | false => simp
              | true => simp [(cf j (by omega) (by omega) hc).1 hj]
            · by_cases hji : j = i
              · subst hji; simp [hSi]
              · cases hc : inL b (tg j) with
                | false => simp
                | true => simp [(cf j hjm hji hc).2 (by omega)]
          · rw [geth_out (by rw [HLlen]; omega), geth_out (by rw [(lens i (by omega)).2]; omega)]
        have hmask : mask (rs i) (HL (Sb listed)) = mask (rs i) (hh i) := by
          apply List.ext_getElem?
          intro b
          rw [mask_get, mask_get]
          by_cases hbL : b < L
          · have e1 : (HL (Sb listed))[b]? = some (geth (HL (Sb listed)) b) := by rw [geth_getD, List.getElem?_eq_getElem (by rw [HLlen]; exact hbL)]; rfl
            have e2 : (hh i)[b]? = some (geth (hh i) b) := by rw [geth_getD, List.getElem?_eq_getElem (by rw [(lens i (by omega)).2]; exact hbL)]; rfl
            rw [e1, e2]
            simp only [Option.map_some, Option.some.injEq]
            cases hb : inL b (rs i) with
            | false => rfl
            | true => simp only [cond_true]; exact agH b hb
          · rw [List.getElem?_eq_none (by rw [HLlen]; omega), List.getElem?_eq_none (by rw [(lens i (by omega)).2]; omega)]
        have FK : FR E' (keepT (o.looksAt ops) (tt i)) a.tmps := keepT_FR FR' (by rw [TLlen, (lens i (by omega)).1]) agT
        have hgv : gval (TL (Sb listed)) ops.toList o.guard = gval (tt i) ops.toList o.guard := by
          cases hg : o.guard with
          | none => rfl
          | some q =>
            obtain ⟨g, want⟩ := q
            simp only [gval]
            cases hdg : dstOf ops.toList g with
            | none => rfl
            | some d =>
              simp only [gvd]
              rw [agT d]
              rw [dstOf_eq, Array.getElem?_toList] at hdg
              refine List.mem_append_right _ ?_
              rw [hg]; simp [hdg]
        obtain ⟨w1, w2⟩ := gval_sound (ops := ops) rfl (o := o) FR'
        have putd : ∀ v, (a.put o.dst v).defers = [] := by
          intro v
          cases o.dst with
          | none => exact hdf
          | some d => exact hdf
        -- the set with this one
        have hS' : ∀ j, Sb (listed.setIfInBounds i true) j = (decide (j = i) || Sb listed j) := by
          intro j
          by_cases hj : j = i
          · subst hj
            simp only [Sb, decide_true, Bool.true_or]
            simp [show j < listed.size from by rw [hsz]; exact him]
          · simp only [Sb, hj, decide_false, Bool.false_or]
            exact getD_set_ne false (Ne.symm hj)
        have cnt : (List.range m).countP (fun j => !Sb (listed.setIfInBounds i true) j) ≤ fuel := by
          have := countP_lt (p := fun j => !Sb listed j) (q := fun j => !Sb (listed.setIfInBounds i true) j) (List.range m) (fun j _ hj => by
            rw [hS'] at hj; simp at hj ⊢; exact hj.2) ⟨i, List.mem_range.2 him, by simp [hSi], by simp [hS']⟩
          omega
        have closed' : Closed (Sb (listed.setIfInBounds i true)) := by
          intro j oj hj hoj e he hb
          rw [hS'] at hj ⊢
          simp only [Bool.or_eq_true, decide_eq_true_eq] at hj ⊢
          rcases hj with rfl | hj
          · rw [ho] at hoj; injection hoj with hoj; subst hoj
            exact .inr (hpred e he hb)
          · exact .inr (hcl j oj hj hoj e he hb)
        have newT : ∀ wv, tt (i + 1) = setT (tt i) o.dst wv → TL (Sb (listed.setIfInBounds i true)) = setT (TL (Sb listed)) o.dst wv := by
          intro wv hwv
          apply List.ext_getElem?
          intro d
          by_cases hdt : d < t.length
          · have hr : (setT (TL (Sb listed)) o.dst wv)[d]? = some (getL (setT (TL (Sb listed)) o.dst wv) d) := getL_some (by rw [setT_length, TLlen]; exact hdt)
            rw [hr, mapRange_get, if_pos hdt, getL_setT]
            congr 1
            by_cases hdd : o.dst = some d
            · rw [if_pos ⟨hdd, by rw [TLlen]; exact hdt⟩]
              simp only [TS]
              rw [lastW_here (p := fun j => Sb (listed.setIfInBounds i true) j && (dst j == some d)) (i := i) (by simp [hS', dst_eq ho, hdd]) m him (fun j hj hjm => ?_)]
              · show getL (tt (i + 1)) d = wv
                rw [hwv, getL_setT, if_pos ⟨hdd, by rw [(lens i (by omega)).1]; exact hdt⟩]
              · cases hc : (dst j == some d) with
                | false => simp
                | true =>
                  have := (ordS j hjm (by omega) (D.ord i j o d ho (by omega) (by simpa using hc) (.inr hdd))).2 hj
                  simp [hS', this, show ¬ j = i from by omega]
            · rw [if_neg (by rintro ⟨a, _⟩; exact hdd a), getL_map _ _ _ hdt]
              simp only [TS]
              rw [lastW_congr (q := fun j => Sb listed j && (dst j == some d)) m fun j hj => ?_]
              rw [hS']
              by_cases hji : j = i
              · subst hji
                have : (dst j == some d) = false := by rw [dst_eq ho]; simpa using hdd
                rw [this]; simp
              · simp [hji]
          · rw [List.getElem?_eq_none (by rw [TLlen]; omega), List.getElem?_eq_none (by rw [setT_length, TLlen]; omega)]
        have keepH : tg i = [] → HL (Sb (listed.setIfInBounds i true)) = HL (Sb listed) := by
          intro hti
          apply List.map_congr_left
          intro b _
          simp only [HS]
          rw [lastW_congr (q := fun j => Sb listed j && inL b (tg j)) m fun j hj => ?_]
          rw [hS']
          by_cases hji : j = i
          · subst hji; rw [hti]; simp [inL]
          · simp [hji]
        have go : ∀ (E2 : Env) (a' : Act), HR E2 (HL (Sb (listed.setIfInBounds i true))) → FR E2 (TL (Sb (listed.setIfInBounds i true))) a'.tmps → a'.defers = [] → Ext0 E' (HL (Sb listed)) E2 (HL (Sb (listed.setIfInBounds i true))) →
            True → (∀ b, ¬ (ss i ≤ b ∧ b < ss (i + 1)) → E2.σ b = E'.σ b) → wpAny P .any ops Q fuel (listed.setIfInBounds i true) a' E2.w := by
          intro E2 a' g1 g2 g3 g4 g5 g6
          refine ih _ _ _ ⟨by simp [hsz], closed', g3, E2, rfl, g1, g2, X'.trans g4, trivial, fun b hb => ?_, fun j hj hSj b hb1 hb2 => ?_⟩ cnt
          · have := mono 0 i (by omega) (by omega)
            rw [g6 b (by omega)]; exact hold' b hb
          · have hji : j ≠ i := by rintro rfl; rw [hS'] at hSj; simp at hSj
            have hSj' : Sb listed j = false := by rw [hS'] at hSj; simp at hSj; exact hSj.2
            rw [g6 b (fun hc => by
              rcases Nat.lt_or_gt_of_ne hji with hlt | hgt
              · have := mono (j + 1) i (by omega) (by omega); omega
              · have := mono (i + 1) j (by omega) (by omega); omega)]
            exact hfree j hj hSj' b hb1 hb2
        unfold wpOp
        simp only [ho]
        rcases stp i o ho with ⟨t1, t2, t3, t4, x, t5⟩ | ⟨t1, t2, t3, v, wv, t5, t6, t9⟩ | ⟨v, hN, wv, t5, t6, t10, t11, t12, t13, t9⟩
        · rw [w2 false (by rw [hgv]; exact t4)]
          simp only [Bool.false_eq_true, if_false]
          refine go E' _ (by rw [keepH t1]; exact HR') (by rw [newT _ t5]; exact FR_put FR' (.opt_f x) o.dst) (putd _) (by rw [keepH t1]; exact ⟨rfl, rfl, rfl, fun _ _ h => h, fun _ h => h, Nat.le_refl _, fun k cs e h => ⟨cs, h, rfl⟩, fun _ _ _ => rfl, fun _ h => .inl h, fun _ h => .inl h⟩) trivial fun _ _ => rfl
        · have hwant : Region.wanted o (yielded ops a.tmps) = true := by
            rcases t5 with ⟨t5, _⟩ | ⟨t5, _⟩
            · exact w1 (by rw [hgv]; exact t5)
            · exact w2 true (by rw [hgv]; exact t5)
          rw [if_pos hwant]
          refine .inl ?_
          refine t6 E' a _ Q (by rw [← hmask]; exact mask_HR HR' (rs i)) FK fun r E1 X1 H1 hv => ?_
          rw [← hmask] at X1 H1
          obtain ⟨E2, hw2, g1, g2, g3, g4, g5, _⟩ := place_HR (s := 0) HR' X1 H1 (fun b _ hb => by rw [mask_length] at hb; omega) (fun hc => by rw [mask_length] at hc; omega)
          rw [place_mask] at g1 g2
          rw [← hw2]
          refine go E2 _ (by rw [keepH t1]; exact g1) ?_ (putd _) (by rw [keepH t1]; exact g2) g4 fun b hb => g3 b (by rw [mask_length]; omega)
          rw [newT _ t9]
          refine FR_put (FR_mono (g2.keep HR') FR') ?_ o.dst
          have hv2 := g5 (mask_length ..) _ _ hv
          rcases t5 with ⟨_, rfl⟩ | ⟨_, rfl⟩
          · exact hv2
          · exact .opt_t _ _ hv2
        · have hwant : Region.wanted o (yielded ops a.tmps) = true := by
            rcases t5 with ⟨t5, _⟩ | ⟨t5, _⟩
            · exact w1 (by rw [hgv]; exact t5)
            · exact w2 true (by rw [hgv]; exact t5)
          rw [if_pos hwant]
          refine .inl ?_
          refine t6 E' a _ Q (by rw [← hmask]; exact mask_HR HR' (rs i)) FK fun r E1 X1 H1 hv => ?_
          rw [← hmask] at X1
          have hm1 := mono (i + 1) m (by omega) (Nat.le_refl _)
          obtain ⟨E2, hw2, g1, g2, g3, g4, _, g5⟩ := place_HR (s := ss i) HR' X1 H1 (fun b hb1 hb2 => by
              rw [HLlen] at hb2 ⊢
              exact ⟨by omega, hfree i him hSi b hb1 (by omega)⟩) (fun hc => by
              rw [HLlen] at hc ⊢
              exact fun b x hb => nrH_get (t10 hc) hb)
          have hplace : place (rs i) (ss i) hN (HL (Sb listed)) = HL (Sb (listed.setIfInBounds i true)) := by
            apply List.ext_getElem?
            intro b
            by_cases hbL : b < L
            · have q1 : (HL (Sb listed))[b]? = some (HS (Sb listed) b) := by rw [mapRange_get, if_pos hbL]
              have q2 : (hh i)[b]? = some (geth (hh i) b) := by rw [geth_getD, List.getElem?_eq_getElem (by rw [(lens i (by omega)).2]; exact hbL)]; rfl
              rw [place_get, q1, mapRange_get, if_pos hbL]
              simp only [Option.map_some, Option.some.injEq, HLlen]
              cases hbt : inL b (tg i) with
              | true =>
                have hlast : HS (Sb (listed.setIfInBounds i true)) b = geth (hh (i + 1)) b := by
                  simp only [HS]
                  rw [lastW_here (p := fun j => Sb (listed.setIfInBounds i true) j && inL b (tg j)) (i := i) (by simp [hS', hbt]) m him (fun j hj hjm => ?_)]
                  · rfl
                  · cases hc : inL b (tg j) with
                    | false => simp
                    | true =>
                      have := (memS j hjm (by omega) (.inr (hit_of hc hbt))).2 hj
                      simp [hS', this, show ¬ j = i from by omega]
                rw [hlast, t12, geth_getD (place (rs i) (ss i) hN (hh i)), place_get, q2]
                rw [t11, inL_append, inL_slots, Bool.or_eq_true] at hbt
                simp only [Option.map_some, Option.getD_some, (lens i (by omega : i ≤ m)).2]
                rcases hbt with hbt | hbt
                · rw [hbt]; simp only [cond_true]
                · rw [hbt]; simp only [cond_true]
              | false =>
                have hkeep : HS (Sb (listed.setIfInBounds i true)) b = HS (Sb listed) b := by
                  simp only [HS]
                  rw [lastW_congr (q := fun j => Sb listed j && inL b (tg j)) m fun j hj => ?_]
                  rw [hS']
                  by_cases hji : j = i
                  · subst hji; rw [hbt]; simp
                  · simp [hji]
                rw [hkeep]
                rw [t11, inL_append, inL_slots, Bool.or_eq_false_iff] at hbt
                rw [hbt.2, hbt.1]; rfl
            · rw [List.getElem?_eq_none (by rw [place_length, HLlen]; omega), List.getElem?_eq_none (by rw [HLlen]; omega)]
          rw [hplace] at g1 g2
          rw [← hw2]
          refine go E2 _ g1 ?_ (putd _) g2 g4 fun b hb => g3 b (by rw [HLlen]; omega)
          rw [newT _ t9]
          refine FR_put (FR_mono (g2.keep HR') FR') ?_ o.dst
          have hv2 := g5 _ _ hv
          rw [HLlen] at hv2
          rcases t5 with ⟨_, rfl⟩ | ⟨_, rfl⟩
          · exact hv2
          · exact .opt_t _ _ hv2
  -- the beginning
  refine wp_region_any hm ?_
  have e0 : ∀ j, Sb (Array.replicate ops.size false) j = false := fun j => by
    simp only [Sb, Array.getD]
    split <;> simp
  have lw0 : ∀ (p : Nat → Bool) n, (∀ j, p j = false) → lastW p n = none := by
    intro p n hp
    induction n with
    | zero => rfl
    | succ n ih => simp only [lastW, hp, cond_false, ih]
  have hT0 : TL (Sb (Array.replicate ops.size false)) = t := by
    apply List.ext_getElem?
    intro d
    rw [mapRange_get]
    split
    · rename_i hdt
      simp only [TS]
      rw [lw0 _ _ fun j => by simp [e0]]
      exact (getL_some hdt).symm
    · rw [List.getElem?_eq_none (by omega)]
  have hH0 : HL (Sb (Array.replicate ops.size false)) = h0 := by
    apply List.ext_getElem?
    intro b
    rw [mapRange_get]
    split
    · rename_i hbL
      simp only [HS]
      rw [lw0 _ _ fun j => by simp [e0]]
      rw [List.getElem?_eq_getElem (by omega)]
      simp only [valW, Option.some.injEq]
      rw [geth_getD, List.getElem?_eq_getElem (by omega)]; rfl
    · rw [List.getElem?_eq_none (by omega)]
  obtain ⟨HD, XD⟩ := same_HR H0 { E.w with drawn := E.w.drawn + 1 } rfl rfl rfl rfl
  refine main ops.size _ _ _ ⟨by simp [hm'], (fun i o hi => by rw [e0] at hi; cases hi), hd, { E with w := { E.w with drawn := E.w.drawn + 1 } }, rfl, by rw [hH0]; exact HD, by rw [hT0]; exact FR_mono (XD.keep H0) F, by rw [hH0]; exact XD.zero, trivial, fun _ _ => rfl, fun i hi _ b hb1 hb2 => ?_⟩ ?_
  · have h1 := mono 0 i (by omega) (by omega)
    exact H.fresh b (by omega)
  · rw [hm']
    exact Nat.le_trans List.countP_le_length (by simp)
end Go.Am

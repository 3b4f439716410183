/-
  The abstract machine, part 8: one operation, whatever it is.
-/
import Derived.Test.YtiameicjjlfimaaAm7
import Derived.Laws.BytesArg
namespace Go.Am
set_option linter.unusedVariables false
variable {P : Program} {E : Env} {h : List ABlk}

/-! ### Frames -/
def strip : AV → AV
  | .opt _ v => v
  | .top => .top
  | .bool b => .bool b
  | .int k n => .int k n
  | .str s => .str s
  | .nilp => .nilp
  | .ptr b es i j => .ptr b es i j
  | .rptr es n i j c => .rptr es n i j c
  | .sl b es i n nl => .sl b es i n nl
  | .isl b es i j z n => .isl b es i j z n
  | .ro es n nl c => .ro es n nl c
  | .emp => .emp
  | .agg l => .agg l
  | .tup l => .tup l
  | .fn f c => .fn f c
  | .nilf => .nilf
def optOk : AV → Prop
  | .opt g _ => g = true
  | .top => True
  | .bool _ => True
  | .int _ _ => True
  | .str _ => True
  | .nilp => True
  | .ptr _ _ _ _ => True
  | .rptr _ _ _ _ _ => True
  | .sl _ _ _ _ _ => True
  | .isl _ _ _ _ _ _ => True
  | .ro _ _ _ _ => True
  | .emp => True
  | .agg _ => True
  | .tup _ => True
  | .fn _ _ => True
  | .nilf => True
theorem strip_VR {a : AV} {v : Value} (ha : VR E a v) (ho : optOk a) : VR E (strip a) v := by
  cases ha with
  | opt_f a => exact absurd ho (by simp [optOk])
  | opt_t a v hv => exact hv
  | _ => constructor <;> assumption

def FR (E : Env) (t : List AV) (m : Array Value) : Prop := t.length = m.size ∧ ∀ (i : Nat) (a : AV) (v : Value), t[i]? = some a → m[i]? = some v → VR E a v
theorem getL_none {l : List AV} {i : Nat} (hi : l.length ≤ i) : getL l i = .top := by
  induction l generalizing i with
  | nil => rfl
  | cons a l ih =>
    cases i with
    | zero => simp at hi
    | succ i => exact ih (by simpa using hi)
theorem FR_get {t : List AV} {m : Array Value} (F : FR E t m) (i : Nat) : VR E (getL t i) (m.getD i undef) := by
  rcases Nat.lt_or_ge i t.length with hi | hi
  · have h2 : i < m.size := by rw [← F.1]; exact hi
    have h3 := F.2 i _ _ (getL_some hi) (Array.getElem?_eq_getElem h2)
    rw [show m.getD i undef = m[i] from by simp [h2]]
    exact h3
  · rw [getL_none hi]; exact .top _
theorem FR_mono {E' : Env} (K : Keep E E') {t : List AV} {m : Array Value} (F : FR E t m) : FR E' t m := ⟨F.1, fun i a v h1 h2 => (F.2 i a v h1 h2).mono K⟩
theorem setL_length (l : List AV) (i : Nat) (v : AV) : (setL l i v).length = l.length := by
  induction l generalizing i with
  | nil => rfl
  | cons a l ih => cases i <;> simp [setL, ih]
theorem setL_get (l : List AV) (d : Nat) (v : AV) (i : Nat) : (setL l d v)[i]? = if i = d ∧ d < l.length then some v else l[i]? := by
  induction l generalizing d i with
  | nil => simp [setL]
  | cons a l ih =>
    cases d with
    | zero => cases i <;> simp [setL]
    | succ d => cases i with
      | zero => simp [setL]
      | succ i => simp [setL, ih]
theorem FR_set {t : List AV} {m : Array Value} (F : FR E t m) {a : AV} {v : Value} (hv : VR E a v) (d : Nat) : FR E (setL t d a) (m.setIfInBounds d v) := by
  refine ⟨by rw [setL_length, F.1]; simp, fun i a' v' h1 h2 => ?_⟩
  rw [setL_get] at h1
  rw [Array.getElem?_setIfInBounds] at h2
  by_cases hi : d = i
  · subst hi
    rw [if_pos rfl] at h2
    by_cases hd : d < m.size
    · rw [if_pos hd] at h2
      rw [if_pos ⟨rfl, by rw [F.1]; exact hd⟩] at h1
      injection h1 with h1; injection h2 with h2
      subst h1 h2; exact hv
    · rw [if_neg hd] at h2; cases h2
  · rw [if_neg hi] at h2
    rw [if_neg (by rintro ⟨rfl, _⟩; exact hi rfl)] at h1
    exact F.2 i a' v' h1 h2
def setT (t : List AV) (d : Option Nat) (v : AV) : List AV := match d with
  | some d => setL t d v
  | none => t
theorem FR_put {t : List AV} {a : Act} (F : FR E t a.tmps) {x : AV} {v : Value} (hv : VR E x v) (d : Option Nat) : FR E (setT t d x) (a.put d v).tmps := by
  cases d with
  | none => exact F
  | some d => exact FR_set F hv d

def rho (t : List AV) : Operand → AV
  | .tmp i => strip (getL t i)
  | .const v => absC v
  | .global _ => .top
  | .func f => .fn f []
def og (t : List AV) : Operand → Prop
  | .tmp i => optOk (getL t i)
  | .const _ => True
  | .global _ => True
  | .func _ => True
theorem rho_sound {t : List AV} {a : Act} (F : FR E t a.tmps) {x : Operand} (ho : og t x) : VR E (rho t x) (a.eval x) := by
  cases x with
  | tmp i => exact strip_VR (FR_get F i) ho
  | const v => exact absC_sound v
  | global g => exact .top _
  | func f => exact .fn f [] #[] rfl (fun i a v h => by simp at h)
def ogL (t : List AV) : List Operand → Prop
  | [] => True
  | x :: r => og t x ∧ ogL t r
def ogP (t : List AV) : List (Nat × Operand) → Prop
  | [] => True
  | (_, x) :: r => og t x ∧ ogP t r
def ogO (t : List AV) : Option Operand → Prop
  | none => True
  | some x => og t x
theorem ogL_mem {t : List AV} {l : List Operand} (ho : ogL t l) : ∀ x ∈ l, og t x := by
  induction l with
  | nil => simp
  | cons a l ih => intro x hx; cases hx with
    | head => exact ho.1
    | tail _ hx => exact ih ho.2 x hx
theorem ogP_mem {t : List AV} {l : List (Nat × Operand)} (ho : ogP t l) : ∀ x ∈ l, og t x.2 := by
  induction l with
  | nil => simp
  | cons a l ih => intro x hx; cases hx with
    | head => exact ho.1
    | tail _ hx => exact ih ho.2 x hx

/-! ### Comparisons -/
def tbool (P : Program) (t : TypeId) : Bool := match P.underlying t with | some .bool => true | _ => false
def binI (op : BinOp) (k k' : IntKind) (a b : Int) : AR := match op with
  | .shl => .pure (0 ≤ b) (.int k (shlI k a b))
  | .shr => .pure (0 ≤ b) (.int k (shrI k a b))
  | op => bif k == k' then evInt op k a b else .fail
def binB (bt : Bool) (op : BinOp) (a b : Bool) : AR := match bt, op with
  | true, .eql => .pure True (.bool (bB a b))
  | true, .neq => .pure True (.bool (!bB a b))
  | _, _ => .fail
def binA (sh : Option (List Leaf)) (op : BinOp) (l m : List AV) : AR := match sh, op with
  | some sh, .eql => eqRes false (eqSh sh l m)
  | some sh, .neq => eqRes true (eqSh sh l m)
  | _, _ => .fail
def binN (sl : Option TypeId) (op : BinOp) (nl : Bool) : AV → AR
  | .ro 0 0 true _ => match sl, op with
    | some _, .eql => .pure True (.bool nl)
    | some _, .neq => .pure True (.bool !nl)
    | _, _ => .fail
  | _ => .fail
def evBin2 (bt : Bool) (sl : Option TypeId) (sh : Option (List Leaf)) (op : BinOp) (x y : AV) : AR := match x with
  | .int k a => match y with
    | .int k' b => binI op k k' a b
    | _ => .fail
  | .str a => match y with
    | .str b => evStr op a b
    | _ => .fail
  | .bool a => match y with
    | .bool b => binB bt op a b
    | _ => .fail
  | .agg l => match y with
    | .agg m => binA sh op l m
    | _ => .fail
  | .sl _ _ _ _ nl => binN sl op nl y
  | .ro _ _ nl _ => binN sl op nl y
  | _ => .fail

/-- What a seat says of '==' on structs and arrays. -/
def ShOk (P : Program) (sh : TypeId → Option (List Leaf)) : Prop := ∀ t l, sh t = some l → ∀ (E : Env) (x y : List AV) (vx vy : Array Value) (r : Bool), VR E (.agg x) (.agg vx) → VR E (.agg y) (.agg vy) → eqSh l x y = some r →
  P.eqGuardType P.depth t = false ∧ ∀ w, (Op.equal t (.agg vx) (.agg vy)).run P w = .ok r w

theorem VR_str {s : ByteArray} {v : Value} (hv : VR E (.str s) v) : v = .string s := by cases hv; rfl
theorem VR_bool {b : Bool} {v : Value} (hv : VR E (.bool b) v) : v = .bool b := by cases hv; rfl

theorem und_of_tslice' {t e : TypeId} (ht : tslice P t = some e) : P.underlying t = some (.slice e) := und_of_tslice ht

theorem run_ite_pure {c : Prop} [Decidable c] {q : Sem Unit} {w : World} (hq : q.run P w = .ok () w) : (if c then pure () else q : Sem Unit).run P w = .ok () w := by
  split
  · rfl
  · exact hq
theorem run_eqGuard_plain {op : BinOp} {t : TypeId} {x y : Operand} {a b : Value} (hn : ∀ l m, ¬ (a = .agg l ∧ b = .agg m)) (hi : ¬ (a = .nilIface ∧ b = .nilIface)) (w : World) : (eqGuard op t x y a b).run P w = .ok () w := by
  unfold eqGuard
  refine run_ite_pure ?_
  split
  · exact absurd ⟨rfl, rfl⟩ hi
  · exact absurd ⟨rfl, rfl⟩ (hn _ _)
  · rfl

theorem equal_slice {t e : TypeId} {a : Option Addr} {n c : Nat} (ht : P.underlying t = some (.slice e)) (w : World) : (Op.equal t (.slice a n c) (.slice none 0 0)).run P w = .ok a.isNone w := by
  unfold Op.equal Op.maxDepth Op.equalIn
  cases a <;> simp [run_underlying ht]
theorem equal_bool {t : TypeId} {a b : Bool} (ht : P.underlying t = some .bool) (w : World) : (Op.equal t (.bool a) (.bool b)).run P w = .ok (a == b) w := by
  unfold Op.equal Op.maxDepth Op.equalIn
  simp [run_underlying ht]

theorem bin_sound {sh : TypeId → Option (List Leaf)} (S : ShOk P sh) {op : BinOp} {t : TypeId} {x y v : AV} {xo yo : Operand} {u1 u2 : Value} {ob : Prop} (hx : VR E x u1) (hy : VR E y u2)
    (hr : evBin2 (tbool P t) (tslice P t) (sh t) op x y = .pure ob v) (hob : ob) :
    ∃ r, (∀ W, (do eqGuard op t xo yo u1 u2; binOp op t u1 u2 : Sem Value).run P W = .ok r W) ∧ VR E v r := by
  have nilc : ∀ (nl : Bool) (a : Option Addr) (n c : Nat), u1 = .slice a n c → nl = a.isNone → binN (tslice P t) op nl y = .pure ob v →
      ∃ r, (∀ W, (do eqGuard op t xo yo u1 u2; binOp op t u1 u2 : Sem Value).run P W = .ok r W) ∧ VR E v r := by
    rintro nl a n c rfl rfl hr
    unfold binN at hr
    split at hr
    · rename_i c'
      cases hy with
      | ro es n nl c a' cap hn hcm hnl hz u ha h1 hc hrf =>
      have ha : a' = none := by cases a' <;> simp at hnl ⊢
      subst ha
      have hcap : cap = 0 := hz rfl
      subst hcap
      split at hr
      · rename_i e hs
        injection hr with hr1 hr2; subst hr2
        refine ⟨.bool a.isNone, fun W => ?_, .bool _⟩
        rw [Sem.run_bind, run_eqGuard_plain (by rintro l m ⟨h, _⟩; cases h) (by rintro ⟨h, _⟩; cases h)]
        simp only [Result.andThen_ok, binOp, Sem.run_bind, equal_slice (und_of_tslice hs), Sem.run_pure]
      · rename_i e hs
        injection hr with hr1 hr2; subst hr2
        refine ⟨.bool !a.isNone, fun W => ?_, .bool _⟩
        rw [Sem.run_bind, run_eqGuard_plain (by rintro l m ⟨h, _⟩; cases h) (by rintro ⟨h, _⟩; cases h)]
        simp only [Result.andThen_ok, binOp, Sem.run_bind, equal_slice (und_of_tslice hs), Sem.run_pure]
      · cases hr
    · cases hr
  have plain : (∀ l m, ¬ (u1 = .agg l ∧ u2 = .agg m)) → ¬ (u1 = .nilIface ∧ u2 = .nilIface) → (∃ r, (∀ W, (binOp op t u1 u2).run P W = .ok r W) ∧ VR E v r) →
      ∃ r, (∀ W, (do eqGuard op t xo yo u1 u2; binOp op t u1 u2 : Sem Value).run P W = .ok r W) ∧ VR E v r := by
    rintro h1 h2 ⟨r, h3, h4⟩
    refine ⟨r, fun W => ?_, h4⟩
    rw [Sem.run_bind, run_eqGuard_plain h1 h2, Result.andThen_ok, h3]
  cases hx with
  | int k a =>
    simp only [evBin2] at hr
    split at hr
    · rename_i k' b
      obtain rfl := VR_int hy
      refine plain (by rintro l m ⟨h, _⟩; cases h) (by rintro ⟨h, _⟩; cases h) ?_
      unfold binI at hr
      split at hr
      · injection hr with h1 h2; subst h1 h2; exact ⟨_, shl_sound hob, .int _ _⟩
      · injection hr with h1 h2; subst h1 h2; exact ⟨_, shr_sound hob, .int _ _⟩
      · rename_i n1 n2
        cases hk : (k == k') with
        | false => rw [hk] at hr; cases hr
        | true =>
          rw [hk] at hr
          have hk' : k = k' := by simpa using hk
          subst hk'
          exact int_sound ⟨n1, n2⟩ hr hob
    · cases hr
  | str a =>
    simp only [evBin2] at hr
    split at hr
    · obtain rfl := VR_str hy
      exact plain (by rintro l m ⟨h, _⟩; cases h) (by rintro ⟨h, _⟩; cases h) (str_sound hr hob)
    · cases hr
  | bool a =>
    simp only [evBin2] at hr
    split at hr
    · obtain rfl := VR_bool hy
      refine plain (by rintro l m ⟨h, _⟩; cases h) (by rintro ⟨h, _⟩; cases h) ?_
      have hu : ∀ b, tbool P t = b → b = true → P.underlying t = some .bool := by
        rintro b rfl h1
        unfold tbool at h1
        split at h1
        · assumption
        · cases h1
      unfold binB at hr
      split at hr
      · rename_i hb
        injection hr with h1 h2; subst h2
        exact ⟨_, fun W => by simp only [binOp, Sem.run_bind, equal_bool (hu _ hb rfl), Result.andThen_ok, Sem.run_pure]; rfl, .bool _⟩
      · rename_i hb
        injection hr with h1 h2; subst h2
        exact ⟨_, fun W => by simp only [binOp, Sem.run_bind, equal_bool (hu _ hb rfl), Result.andThen_ok, Sem.run_pure]; rfl, .bool _⟩
      · cases hr
    · cases hr
  | agg l vs hl h1 hh =>
    simp only [evBin2] at hr
    split at hr
    · rename_i m
      have hx : VR E (.agg l) (.agg vs) := .agg l vs hl h1 hh
      cases hy with
      | agg m ws hl' h1' hh' =>
      have hy : VR E (.agg m) (.agg ws) := .agg m ws hl' h1' hh'
      have key : ∀ s r, sh t = some s → eqSh s l m = some r → (∀ W, (eqGuard op t xo yo (.agg vs) (.agg ws)).run P W = .ok () W) ∧ ∀ W, (Op.equal t (.agg vs) (.agg ws)).run P W = .ok r W := by
        intro s r hs he
        obtain ⟨g1, g2⟩ := S t s hs E l m vs ws r hx hy he
        refine ⟨fun W => ?_, g2⟩
        unfold eqGuard
        refine run_ite_pure ?_
        simp [program, Sem.run, g1]
      unfold binA at hr
      split at hr
      · rename_i s hs
        cases he : eqSh s l m with
        | none => rw [he] at hr; cases hr
        | some r =>
          rw [he] at hr
          injection hr with q1 q2; subst q2
          obtain ⟨g1, g2⟩ := key s r hs he
          exact ⟨_, fun W => by simp only [Sem.run_bind, g1, Result.andThen_ok, binOp, g2, Sem.run_pure]; rfl, .bool _⟩
      · rename_i s hs
        cases he : eqSh s l m with
        | none => rw [he] at hr; cases hr
        | some r =>
          rw [he] at hr
          injection hr with q1 q2; subst q2
          obtain ⟨g1, g2⟩ := key s r hs he
          exact ⟨_, fun W => by simp only [Sem.run_bind, g1, Result.andThen_ok, binOp, g2, Sem.run_pure]; rfl, .bool _⟩
      · cases hr
    · cases hr
  | sl b es i n nl a cap hn hcm hnl hz hc => exact nilc nl a n cap rfl hnl hr
  | ro es n nl c a cap hn hcm hnl hz u ha h1 hc hrf => exact nilc nl a n cap rfl hnl hr
  | _ => simp only [evBin2, reduceCtorEq] at hr

/-! ### Small operations -/
theorem un_sound {op : UnOp} {x v : AV} {u : Value} {ob : Prop} (hx : VR E x u) (hr : evUn op x = .pure ob v) : ∃ r, (∀ W, (Op.unary op u).run P W = .ok r W) ∧ VR E v r := by
  unfold evUn at hr
  split at hr
  · obtain rfl := VR_int hx
    injection hr with h1 h2; subst h2
    exact ⟨_, fun W => by simp [Op.unary, Op.intArith, wr], .int _ _⟩
  · obtain rfl := VR_bool hx
    injection hr with h1 h2; subst h2
    exact ⟨_, fun W => by simp only [Op.unary, Sem.run_pure], .bool _⟩
  · cases hr
def tany (P : Program) (t : TypeId) : Option Bool := (P.underlying t).map fun _ => true
theorem conv_sound {s d : TypeId} {x v : AV} {u : Value} {ob : Prop} (hx : VR E x u) (hr : evConv (tany P s) (tint P d) x = .pure ob v) : ∃ r, (∀ W, (convert s d u).run P W = .ok r W) ∧ VR E v r := by
  unfold evConv at hr
  split at hr
  · rename_i b k k' n hs hd
    obtain rfl := VR_int hx
    injection hr with h1 h2; subst h2
    unfold tany at hs
    cases hu : P.underlying s with
    | none => rw [hu] at hs; cases hs
    | some q =>
    have hd' : P.underlying d = some (.int k) := by
      unfold tint at hd
      split at hd
      · rename_i h'; injection hd with hd; subst hd; exact h'
      · cases hd
    refine ⟨.int k (wr k n), fun W => ?_, .int _ _⟩
    unfold convert
    simp only [Sem.run_bind, run_underlying hu, run_underlying hd', Result.andThen_ok]
    rfl
  · cases hr
theorem index2_sound {t : TypeId} {x ix v : AV} {u ui : Value} {ob : Prop} (hx : VR E x u) (hi : VR E ix ui)
    (hr : evIndex2 (tstr P t) ((tarr P t).bind fun q => tagg P q.2) (tarr P t) ((tarr P t).bind fun q => tsz P q.2) x ix = .pure ob v) (hob : ob) :
    ∃ r, (∀ W, (Instr.index t u ui).run P W = .ok r W) ∧ VR E v r := by
  unfold evIndex2 at hr
  split at hr
  · rename_i s
    obtain rfl := VR_str hx
    unfold evIndexS at hr
    split at hr
    · rename_i s' k q hs e
      injection e with e; subst e
      obtain rfl := VR_int hi
      simp only [AR.pure.injEq] at hr
      obtain ⟨rfl, rfl⟩ := hr
      have hu : P.underlying t = some .string := by
        unfold tstr at hs
        split at hs
        · assumption
        · cases hs
      have hq : q.toNat < s.size := by omega
      have hg : s[q.toNat]? = some s[q.toNat] := getElem?_pos s q.toNat hq
      have hb : byteAt s q.toNat = (s[q.toNat].toNat : Int) := by
        show ((s.data.getD q.toNat 0).toNat : Int) = ((s.data[q.toNat]'hq).toNat : Int)
        rw [show s.data.getD q.toNat 0 = s.data[q.toNat]'hq from by unfold Array.getD; rw [dif_pos (show q.toNat < s.data.size from hq)]; rfl]
      refine ⟨_, fun W => ?_, .int _ _⟩
      simp only [Instr.index, asIntOf, Sem.run_bind, Sem.run_pure, Result.andThen_ok, run_underlying hu, if_pos hob.1, hg, hb]
    · cases hr
  · exact index_sound hx hi hr hob
theorem slice2_sound {t : TypeId} {x v : AV} {u : Value} {lo hi mx : Option AV} {lv hv mv : Option Value} {ob : Prop} (hx : VR E x u) (hlo : VRO E lo lv) (hhi : VRO E hi hv) (hmx : VRO E mx mv)
    (hr : evSlice2 (tstr P t) (tslice P t) (tarr P t) (((tslice P t).or ((tarr P t).map (·.2))).bind (tsz P)) x lo hi mx = .pure ob v) (hob : ob) :
    ∃ r, (∀ W, (Instr.sliceAt t u lv hv mv).run P W = .ok r W) ∧ VR E v r := by
  unfold evSlice2 at hr
  split at hr
  · rename_i s
    obtain rfl := VR_str hx
    cases e1 : evBound lo 0 with
    | none => rw [e1] at hr; simp only [evSliceS] at hr; cases hr
    | some l =>
    cases e2 : evBound hi s.size with
    | none => rw [e1, e2] at hr; simp only [evSliceS] at hr; cases hr
    | some w =>
    cases mx with
    | some m => rw [e1, e2] at hr; simp only [evSliceS] at hr; cases hr
    | none =>
    rw [e1, e2] at hr
    simp only [evSliceS] at hr
    cases hs : tstr P t with
    | false => rw [hs] at hr; cases hr
    | true =>
    rw [hs] at hr
    simp only [cond_true, AR.pure.injEq] at hr
    obtain ⟨rfl, rfl⟩ := hr
    have hu : P.underlying t = some .string := by
      unfold tstr at hs
      split at hs
      · assumption
      · cases hs
    have hm : mv = none := by cases mv with
      | none => rfl
      | some m => exact hmx.elim
    subst hm
    obtain ⟨M, hb, _⟩ := bounds_run (P := P) (E := E) (b := false) (lo := lo) (hi := hi) (mx := none) (lv := lv) (hv := hv) (mv := none) (n := s.size) (len := s.size) (cap := s.size) (m := s.size) hlo hhi trivial e1 e2 rfl rfl hob.1 hob.2.1 hob.2.2 (by omega) (Nat.le_refl _)
    refine ⟨_, fun W => ?_, .str _⟩
    simp only [Instr.sliceAt, Instr.slice, Sem.run_bind, Sem.run_pure, Result.andThen_ok, run_underlying hu, Option.isSome_none, Bool.false_eq_true, if_false, hb]
  · exact slice_sound hx hlo hhi hmx hr hob
theorem bytesC_eq {n : Nat} {c : Nat → Nat → AV} {news : List Value} (hl : news.length = n * 1) (hc : ∀ i, i < n → u8Q (c i 0)) (hv : ∀ q y, q < n → y < 1 → ∃ v, news[q * 1 + y]? = some v ∧ v.oneCell' = true ∧ VR E (c q y) v) :
    ∃ ns : List Int, news = ns.map (Value.int .u8) ∧ bytesC n c = strOfNums ns := by
  refine ⟨(List.range n).map fun i => match c i 0 with | .int _ q => q | _ => 0, ?_, ?_⟩
  · apply List.ext_getElem?
    intro i
    rw [List.getElem?_map, List.getElem?_map]
    by_cases hi : i < n
    · rw [List.getElem?_range hi]
      obtain ⟨v, h1, _, h3⟩ := hv i 0 hi (by omega)
      rw [Nat.mul_one, Nat.add_zero] at h1
      rw [h1]
      have h4 := hc i hi
      simp only [Option.map_some, Option.some.injEq]
      unfold u8Q at h4
      split at h4
      · rename_i q e
        rw [e] at h3
        rw [VR_int h3, e]
      · exact h4.elim
    · rw [List.getElem?_eq_none (by omega), List.getElem?_eq_none (by simp; omega)]; rfl
  · unfold bytesC strOfNums
    congr 1
    rw [List.map_map]
    congr 1
    apply List.map_congr_left
    intro i _
    simp only [Function.comp]
    cases c i 0 <;> rfl
theorem conv2_sound {s d : TypeId} {x v : AV} {u : Value} {ob : Prop} (H : HR E h) (hx : VR E x u) (hr : evConv2 (tany P s) (tint P d) (tbytes P s) (tstr P d) x h = .pure ob v) (hob : ob) :
    ∃ r, (∀ W : World, (∀ k, k < E.w.heap.size → W.heap[k]? = E.w.heap[k]?) → (convert s d u).run P W = .ok r W) ∧ VR E v r := by
  unfold evConv2 at hr
  split at hr
  · obtain ⟨r, h1, h2⟩ := conv_sound (P := P) hx hr
    exact ⟨r, fun W _ => h1 W, h2⟩
  · cases hr
  · rename_i hni hns
    cases hk : (tbytes P s && tstr P d) with
    | false => rw [hk] at hr; cases hr
    | true =>
    rw [hk] at hr
    simp only [cond_true] at hr
    simp only [Bool.and_eq_true] at hk
    obtain ⟨k1, k2⟩ := hk
    have hd : P.underlying d = some .string := by
      unfold tstr at k2
      split at k2
      · assumption
      · cases k2
    obtain ⟨e, hs, he⟩ : ∃ e, P.underlying s = some (.slice e) ∧ P.underlying e = some (.int .u8) := by
      unfold tbytes at k1
      split at k1
      · rename_i e he
        split at k1
        · rename_i hb; exact ⟨e, he, hb⟩
        · cases k1
      · cases k1
    cases hsr : srcOf 1 x h with
    | none => rw [hsr] at hr; simp only [cvS] at hr; cases hr
    | some src =>
    rw [hsr] at hr
    simp only [cvS, AR.pure.injEq] at hr
    obtain ⟨rfl, rfl⟩ := hr
    obtain ⟨news, g1, g2⟩ := src_sound (P := P) (Nat.le_refl 1) H hx hsr hob.1
    obtain ⟨ns, e1, e2⟩ := bytesC_eq (by rw [g1.len]) hob.2 g2
    have sl : ∀ (a : Option Addr) (n c : Nat), u = .slice a n c → ∃ r, (∀ W : World, (∀ k, k < E.w.heap.size → W.heap[k]? = E.w.heap[k]?) → (convert s d u).run P W = .ok r W) ∧ VR E (.str (bytesC src.n src.c)) r := by
      rintro a n c rfl
      refine ⟨.string (bytesC src.n src.c), fun W hW => ?_, .str _⟩
      rw [run_convert_bytes_string W s d e a n c hs he hd]
      have hn : n = src.n := by
        have h1 := g1.lenOf W
        simp only [Builtin.lenOf, Sem.run_pure, Result.ok.injEq] at h1
        exact h1.1
      cases a with
      | none =>
        have h1 := g1.first W hW
        simp only [Builtin.firstCells, Sem.run_pure, Result.ok.injEq] at h1
        have h2 : news = [] := by
          have := congrArg Array.toList h1.1
          simpa using this.symm
        rw [h2] at e1
        have h3 : ns = [] := by cases ns with
          | nil => rfl
          | cons a l => simp at e1
        rw [e2, h3]
        simp only [Conv.bytesToString, Sem.run_pure]
        rfl
      | some a =>
        have h1 := g1.first W hW
        rw [e1] at h1
        simp only [Builtin.firstCells, Nat.mul_one] at h1
        rw [← hn] at h1
        rw [run_bytesToString W a n c ns h1, foldl_push_bytes, e2]
        simp [strOfNums, ByteArray.empty, ByteArray.emptyWithCapacity]
        rfl
    cases hx with
    | sl b es i n nl a cap => exact sl _ _ _ rfl
    | isl => exact sl _ _ _ rfl
    | ro es n nl c a cap => exact sl _ _ _ rfl
    | emp a => exact sl _ _ _ rfl
    | str s' => exact absurd rfl (hns s')
    | _ => simp only [srcOf] at hsr; cases hsr
theorem extract_sound {i : Nat} {x v : AV} {u : Value} {ob : Prop} (hx : VR E x u) (hr : evExtract x i = .pure ob v) (hob : ob) : ∃ r, (∀ W, (Instr.extract u i).run P W = .ok r W) ∧ VR E v r := by
  unfold evExtract at hr
  split at hr
  · injection hr with h1 h2; subst h1 h2
    cases hx with
    | tup l vs hl hh =>
      have h2 : i < vs.size := by rw [← hl]; exact hob
      refine ⟨vs[i], fun W => ?_, hh i _ _ (getL_some hob) (Array.getElem?_eq_getElem h2)⟩
      simp [Instr.extract, h2]
  · cases hr
theorem pick_sound {c x y v : AV} {b : Bool} {uc ux uy : Value} {ob : Prop} (hc : VR E c uc) (hb : c = .bool b) (hx : b = true → VR E x ux) (hy : b = false → VR E y uy) (hr : evPick c x y = .pure ob v) :
    ∃ r, (∀ W, (do pure (.value (if ← asBool uc then ux else uy)) : Sem Next).run P W = .ok (.value r) W) ∧ VR E v r := by
  subst hb
  obtain rfl := VR_bool hc
  simp only [evPick] at hr
  unfold mrg at hr
  split at hr
  · injection hr with h1 h2; subst h2
    cases b with
    | true => exact ⟨ux, fun W => by simp [asBool], hx rfl⟩
    | false => exact ⟨uy, fun W => by simp [asBool], hy rfl⟩
  · cases hr
end Go.Am

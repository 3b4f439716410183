/-
  The abstract machine, part 8: one operation, whatever it is.
-/
import Derived.Test.YtpnhehcncljhpaaAm7
import Derived.Laws.BytesArg
namespace Go.Am
set_option linter.unusedVariables false
variable {P : Program} {E : Env} {h : List ABlk}

/-! ### Frames -/
def strip : AV → AV
  | .opt _ v => v
  | .top => .top
  | .bool b => .bool b
  | .int k n => .int k n
  | .str s => .str s
  | .nilp => .nilp
  | .ptr b es i j => .ptr b es i j
  | .rptr es n i j c => .rptr es n i j c
  | .sl b es i n nl => .sl b es i n nl
  | .isl b es i j z n => .isl b es i j z n
  | .csl b es i n c => .csl b es i n c
  | .ro es n nl c => .ro es n nl c
  | .emp => .emp
  | .agg l => .agg l
  | .tup l => .tup l
  | .fn f c => .fn f c
  | .nilf => .nilf
  | .ub => .ub
  | .val v => .val v
def optOk : AV → Prop
  | .opt g _ => g = true
  | .top => True
  | .bool _ => True
  | .int _ _ => True
  | .str _ => True
  | .nilp => True
  | .ptr _ _ _ _ => True
  | .rptr _ _ _ _ _ => True
  | .sl _ _ _ _ _ => True
  | .isl _ _ _ _ _ _ => True
  | .csl _ _ _ _ _ => True
  | .ro _ _ _ _ => True
  | .emp => True
  | .agg _ => True
  | .tup _ => True
  | .fn _ _ => True
  | .nilf => True
  | .ub => True
  | .val _ => True
theorem strip_VR {a : AV} {v : Value} (ha : VR E a v) (ho : optOk a) : VR E (strip a) v := by
  cases ha with
  | opt_f a => exact absurd ho (by simp [optOk])
  | opt_t a v hv => exact hv
  | _ => constructor <;> assumption

def FR (E : Env) (t : List AV) (m : Array Value) : Prop := t.length = m.size ∧ ∀ (i : Nat) (a : AV) (v : Value), t[i]? = some a → m[i]? = some v → VR E a v
theorem getL_none {l : List AV} {i : Nat} (hi : l.length ≤ i) : getL l i = .top := by
  induction l generalizing i with
  | nil => rfl
  | cons a l ih =>
    cases i with
    | zero => simp at hi
    | succ i => exact ih (by simpa using hi)
theorem FR_get {t : List AV} {m : Array Value} (F : FR E t m) (i : Nat) : VR E (getL t i) (m.getD i undef) := by
  rcases Nat.lt_or_ge i t.length with hi | hi
  · have h2 : i < m.size := by rw [← F.1]; exact hi
    have h3 := F.2 i _ _ (getL_some hi) (Array.getElem?_eq_getElem h2)
    rw [show m.getD i undef = m[i] from by simp [h2]]
    exact h3
  · rw [getL_none hi]; exact .top _
theorem FR_mono {E' : Env} (K : Keep E E') {t : List AV} {m : Array Value} (F : FR E t m) : FR E' t m := ⟨F.1, fun i a v h1 h2 => (F.2 i a v h1 h2).mono K⟩
theorem setL_length (l : List AV) (i : Nat) (v : AV) : (setL l i v).length = l.length := by
  induction l generalizing i with
  | nil => rfl
  | cons a l ih => cases i <;> simp [setL, ih]
theorem setL_get (l : List AV) (d : Nat) (v : AV) (i : Nat) : (setL l d v)[i]? = if i = d ∧ d < l.length then some v else l[i]? := by
  induction l generalizing d i with
  | nil => simp [setL]
  | cons a l ih =>
    cases d with
    | zero => cases i <;> simp [setL]
    | succ d => cases i with
      | zero => simp [setL]
      | succ i => simp [setL, ih]
theorem FR_set {t : List AV} {m : Array Value} (F : FR E t m) {a : AV} {v : Value} (hv : VR E a v) (d : Nat) : FR E (setL t d a) (m.setIfInBounds d v) := by
  refine ⟨by rw [setL_length, F.1]; simp, fun i a' v' h1 h2 => ?_⟩
  rw [setL_get] at h1
  rw [Array.getElem?_setIfInBounds] at h2
  by_cases hi : d = i
  · subst hi
    rw [if_pos rfl] at h2
    by_cases hd : d < m.size
    · rw [if_pos hd] at h2
      rw [if_pos ⟨rfl, by rw [F.1]; exact hd⟩] at h1
      injection h1 with h1; injection h2 with h2
      subst h1 h2; exact hv
    · rw [if_neg hd] at h2; cases h2
  · rw [if_neg hi] at h2
    rw [if_neg (by rintro ⟨rfl, _⟩; exact hi rfl)] at h1
    exact F.2 i a' v' h1 h2
def setT (t : List AV) (d : Option Nat) (v : AV) : List AV := match d with
  | some d => setL t d v
  | none => t
theorem FR_put {t : List AV} {a : Act} (F : FR E t a.tmps) {x : AV} {v : Value} (hv : VR E x v) (d : Option Nat) : FR E (setT t d x) (a.put d v).tmps := by
  cases d with
  | none => exact F
  | some d => exact FR_set F hv d

def rho (t : List AV) : Operand → AV
  | .tmp i => strip (getL t i)
  | .const v => absC v
  | .global _ => .top
  | .func f => .fn f []
def og (t : List AV) : Operand → Prop
  | .tmp i => optOk (getL t i)
  | .const _ => True
  | .global _ => True
  | .func _ => True
theorem rho_sound {t : List AV} {a : Act} (F : FR E t a.tmps) {x : Operand} (ho : og t x) : VR E (rho t x) (a.eval x) := by
  cases x with
  | tmp i => exact strip_VR (FR_get F i) ho
  | const v => exact absC_sound v
  | global g => exact .top _
  | func f => exact .fn f [] #[] rfl (fun i a v h => by simp at h)
def ogL (t : List AV) : List Operand → Prop
  | [] => True
  | x :: r => og t x ∧ ogL t r
def ogP (t : List AV) : List (Nat × Operand) → Prop
  | [] => True
  | (_, x) :: r => og t x ∧ ogP t r
def ogO (t : List AV) : Option Operand → Prop
  | none => True
  | some x => og t x
theorem ogL_mem {t : List AV} {l : List Operand} (ho : ogL t l) : ∀ x ∈ l, og t x := by
  induction l with
  | nil => simp
  | cons a l ih => intro x hx; cases hx with
    | head => exact ho.1
    | tail _ hx => exact ih ho.2 x hx
theorem ogP_mem {t : List AV} {l : List (Nat × Operand)} (ho : ogP t l) : ∀ x ∈ l, og t x.2 := by
  induction l with
  | nil => simp
  | cons a l ih => intro x hx; cases hx with
    | head => exact ho.1
    | tail _ hx => exact ih ho.2 x hx

/-! ### Comparisons -/
def tbool (P : Program) (t : TypeId) : Bool := match P.underlying t with | some .bool => true | _ => false
def binI (op : BinOp) (k k' : IntKind) (a b : Int) : AR := match op with
  | .shl => .pure (0 ≤ b) (.int k (shlI k a b))
  | .shr => .pure (0 ≤ b) (.int k (shrI k a b))
  | op => bif k == k' then evInt op k a b else .fail
def binB (bt : Bool) (op : BinOp) (a b : Bool) : AR := match bt, op with
  | true, .eql => .pure True (.bool (bB a b))
  | true, .neq => .pure True (.bool (!bB a b))
  | _, _ => .fail
def binA (sh : Option (List Leaf)) (op : BinOp) (l m : List AV) : AR := match sh, op with
  | some sh, .eql => eqRes false (eqSh sh l m)
  | some sh, .neq => eqRes true (eqSh sh l m)
  | _, _ => .fail
def binN (sl : Option TypeId) (op : BinOp) (nl : Bool) : AV → AR
  | .ro 0 0 true _ => match sl, op with
    | some _, .eql => .pure True (.bool nl)
    | some _, .neq => .pure True (.bool !nl)
    | _, _ => .fail
  | _ => .fail
def binU (sl : Option TypeId) (op : BinOp) : AV → AR
  | .ro 0 0 true _ => match sl, op with
    | some _, .eql => .pure True .ub
    | some _, .neq => .pure True .ub
    | _, _ => .fail
  | _ => .fail
def binNR (sl : Option TypeId) (op : BinOp) (y : AV) : Option Bool → AR
  | some b => binN sl op b y
  | none => binU sl op y
def evBin2 (bt : Bool) (sl : Option TypeId) (sh : Option (List Leaf)) (op : BinOp) (x y : AV) : AR := match x with
  | .int k a => match y with
    | .int k' b => binI op k k' a b
    | _ => .fail
  | .str a => match y with
    | .str b => evStr op a b
    | _ => .fail
  | .bool a => match y with
    | .bool b => binB bt op a b
    | _ => .fail
  | .agg l => match y with
    | .agg m => binA sh op l m
    | _ => .fail
  | .sl _ _ _ n nl => binNR sl op y (nilR n nl)
  | .ro _ n nl _ => binNR sl op y (nilR n nl)
  | _ => .fail

/-- What a seat says of '==' on structs and arrays. -/
def ShOk (P : Program) (sh : TypeId → Option (List Leaf)) : Prop := ∀ t l, sh t = some l → ∀ (E : Env) (x y : List AV) (vx vy : Array Value) (r : Bool), VR E (.agg x) (.agg vx) → VR E (.agg y) (.agg vy) → eqSh l x y = some r →
  P.eqGuardType P.depth t = false ∧ ∀ w, (Op.equal t (.agg vx) (.agg vy)).run P w = .ok r w

theorem VR_str {s : ByteArray} {v : Value} (hv : VR E (.str s) v) : v = .string s := by cases hv; rfl
theorem VR_bool {b : Bool} {v : Value} (hv : VR E (.bool b) v) : v = .bool b := by cases hv; rfl

theorem und_of_tslice' {t e : TypeId} (ht : tslice P t = some e) : P.underlying t = some (.slice e) := und_of_tslice ht

theorem run_ite_pure {c : Prop} [Decidable c] {q : Sem Unit} {w : World} (hq : q.run P w = .ok () w) : (if c then pure () else q : Sem Unit).run P w = .ok () w := by
  split
  · rfl
  · exact hq
theorem run_eqGuard_plain {op : BinOp} {t : TypeId} {x y : Operand} {a b : Value} (hn : ∀ l m, ¬ (a = .agg l ∧ b = .agg m)) (hi : ¬ (a = .nilIface ∧ b = .nilIface)) (w : World) : (eqGuard op t x y a b).run P w = .ok () w := by
  unfold eqGuard
  refine run_ite_pure ?_
  split
  · exact absurd ⟨rfl, rfl⟩ hi
  · exact absurd ⟨rfl, rfl⟩ (hn _ _)
  · rfl

theorem equal_slice {t e : TypeId} {a : Option Addr} {n c : Nat} (ht : P.underlying t = some (.slice e)) (w : World) : (Op.equal t (.slice a n c) (.slice none 0 0)).run P w = .ok a.isNone w := by
  unfold Op.equal Op.maxDepth Op.equalIn
  cases a <;> simp [run_underlying ht]
theorem equal_bool {t : TypeId} {a b : Bool} (ht : P.underlying t = some .bool) (w : World) : (Op.equal t (.bool a) (.bool b)).run P w = .ok (a == b) w := by
  unfold Op.equal Op.maxDepth Op.equalIn
  simp [run_underlying ht]

theorem bin_sound {sh : TypeId → Option (List Leaf)} (S : ShOk P sh) {op : BinOp} {t : TypeId} {x y v : AV} {xo yo : Operand} {u1 u2 : Value} {ob : Prop} (hx : VR E x u1) (hy : VR E y u2)
    (hr : evBin2 (tbool P t) (tslice P t) (sh t) op x y = .pure ob v) (hob : ob) :
    ∃ r, (∀ W, (do eqGuard op t xo yo u1 u2; binOp op t u1 u2 : Sem Value).run P W = .ok r W) ∧ VR E v r := by
  have nilc : ∀ (nl : Bool) (a : Option Addr) (n c : Nat), u1 = .slice a n c → nl = a.isNone → binN (tslice P t) op nl y = .pure ob v →
      ∃ r, (∀ W, (do eqGuard op t xo yo u1 u2; binOp op t u1 u2 : Sem Value).run P W = .ok r W) ∧ VR E v r := by
    rintro nl a n c rfl rfl hr
    unfold binN at hr
    split at hr
    · rename_i c'
      cases hy with
      | ro es n nl c a' cap hn hcm hnl hz u ha h1 hc hrf =>
      have ha : a' = none := hnl rfl
      subst ha
      have hcap : cap = 0 := hz rfl
      subst hcap
      split at hr
      · rename_i e hs
        injection hr with hr1 hr2; subst hr2
        refine ⟨.bool a.isNone, fun W => ?_, .bool _⟩
        rw [Sem.run_bind, run_eqGuard_plain (by rintro l m ⟨h, _⟩; cases h) (by rintro ⟨h, _⟩; cases h)]
        simp only [Result.andThen_ok, binOp, Sem.run_bind, equal_slice (und_of_tslice hs), Sem.run_pure]
      · rename_i e hs
        injection hr with hr1 hr2; subst hr2
        refine ⟨.bool !a.isNone, fun W => ?_, .bool _⟩
        rw [Sem.run_bind, run_eqGuard_plain (by rintro l m ⟨h, _⟩; cases h) (by rintro ⟨h, _⟩; cases h)]
        simp only [Result.andThen_ok, binOp, Sem.run_bind, equal_slice (und_of_tslice hs), Sem.run_pure]
      · cases hr
    · cases hr
  have nilr : ∀ (n : Nat) (nl : Bool) (a : Option Addr) (cap : Nat), u1 = .slice a n cap → n ≤ cap → (nl = true → a = none) → (a = none → cap = 0) → binNR (tslice P t) op y (nilR n nl) = .pure ob v →
      ∃ r, (∀ W, (do eqGuard op t xo yo u1 u2; binOp op t u1 u2 : Sem Value).run P W = .ok r W) ∧ VR E v r := by
    intro n nl a cap hu1 hn hnl hz hr
    subst hu1
    cases hq : nilR n nl with
    | some b =>
      rw [hq] at hr
      refine nilc b a n cap rfl ?_ hr
      unfold nilR at hq
      split at hq
      · injection hq with hq; subst hq
        rw [hnl rfl]; rfl
      · split at hq
        · cases hq
        · injection hq with hq; subst hq
          cases a with
          | none => have := hz rfl; omega
          | some a => rfl
    | none =>
      rw [hq] at hr
      simp only [binNR] at hr
      unfold binU at hr
      split at hr
      · rename_i c'
        cases hy with
        | ro es' n' nl' c a' cap' hn' hcm' hnl' hz' u' ha' h1' hc' hrf' =>
        have ha : a' = none := hnl' rfl
        subst ha
        have hcap : cap' = 0 := hz' rfl
        subst hcap
        split at hr
        · rename_i e hs
          injection hr with hr1 hr2; subst hr2
          refine ⟨.bool a.isNone, fun W => ?_, .ub _⟩
          rw [Sem.run_bind, run_eqGuard_plain (by rintro l m ⟨h, _⟩; cases h) (by rintro ⟨h, _⟩; cases h)]
          simp only [Result.andThen_ok, binOp, Sem.run_bind, equal_slice (und_of_tslice hs), Sem.run_pure]
        · rename_i e hs
          injection hr with hr1 hr2; subst hr2
          refine ⟨.bool !a.isNone, fun W => ?_, .ub _⟩
          rw [Sem.run_bind, run_eqGuard_plain (by rintro l m ⟨h, _⟩; cases h) (by rintro ⟨h, _⟩; cases h)]
          simp only [Result.andThen_ok, binOp, Sem.run_bind, equal_slice (und_of_tslice hs), Sem.run_pure]
        · cases hr
      · cases hr
  have plain : (∀ l m, ¬ (u1 = .agg l ∧ u2 = .agg m)) → ¬ (u1 = .nilIface ∧ u2 = .nilIface) → (∃ r, (∀ W, (binOp op t u1 u2).run P W = .ok r W) ∧ VR E v r) →
      ∃ r, (∀ W, (do eqGuard op t xo yo u1 u2; binOp op t u1 u2 : Sem Value).run P W = .ok r W) ∧ VR E v r := by
    rintro h1 h2 ⟨r, h3, h4⟩
    refine ⟨r, fun W => ?_, h4⟩
    rw [Sem.run_bind, run_eqGuard_plain h1 h2, Result.andThen_ok, h3]
  cases hx with
  | int k a =>
    simp only [evBin2] at hr
    split at hr
    · rename_i k' b
      obtain rfl := VR_int hy
      refine plain (by rintro l m ⟨h, _⟩; cases h) (by rintro ⟨h, _⟩; cases h) ?_
      unfold binI at hr
      split at hr
      · injection hr with h1 h2; subst h1 h2; exact ⟨_, shl_sound hob, .int _ _⟩
      · injection hr with h1 h2; subst h1 h2; exact ⟨_, shr_sound hob, .int _ _⟩
      · rename_i n1 n2
        cases hk : (k == k') with
        | false => rw [hk] at hr; cases hr
        | true =>
          rw [hk] at hr
          have hk' : k = k' := by simpa using hk
          subst hk'
          exact int_sound ⟨n1, n2⟩ hr hob
    · cases hr
  | str a =>
    simp only [evBin2] at hr
    split at hr
    · obtain rfl := VR_str hy
      exact plain (by rintro l m ⟨h, _⟩; cases h) (by rintro ⟨h, _⟩; cases h) (str_sound hr hob)
    · cases hr
  | bool a =>
    simp only [evBin2] at hr
    split at hr
    · obtain rfl := VR_bool hy
      refine plain (by rintro l m ⟨h, _⟩; cases h) (by rintro ⟨h, _⟩; cases h) ?_
      have hu : ∀ b, tbool P t = b → b = true → P.underlying t = some .bool := by
        rintro b rfl h1
        unfold tbool at h1
        split at h1
        · assumption
        · cases h1
      unfold binB at hr
      split at hr
      · rename_i hb
        injection hr with h1 h2; subst h2
        exact ⟨_, fun W => by simp only [binOp, Sem.run_bind, equal_bool (hu _ hb rfl), Result.andThen_ok, Sem.run_pure]; rfl, .bool _⟩
      · rename_i hb
        injection hr with h1 h2; subst h2
        exact ⟨_, fun W => by simp only [binOp, Sem.run_bind, equal_bool (hu _ hb rfl), Result.andThen_ok, Sem.run_pure]; rfl, .bool _⟩
      · cases hr
    · cases hr
  | agg l vs hl h1 hh =>
    simp only [evBin2] at hr
    split at hr
    · rename_i m
      have hx : VR E (.agg l) (.agg vs) := .agg l vs hl h1 hh
      cases hy with
      | agg m ws hl' h1' hh' =>
      have hy : VR E (.agg m) (.agg ws) := .agg m ws hl' h1' hh'
      have key : ∀ s r, sh t = some s → eqSh s l m = some r → (∀ W, (eqGuard op t xo yo (.agg vs) (.agg ws)).run P W = .ok () W) ∧ ∀ W, (Op.equal t (.agg vs) (.agg ws)).run P W = .ok r W := by
        intro s r hs he
        obtain ⟨g1, g2⟩ := S t s hs E l m vs ws r hx hy he
        refine ⟨fun W => ?_, g2⟩
        unfold eqGuard
        refine run_ite_pure ?_
        simp [program, Sem.run, g1]
      unfold binA at hr
      split at hr
      · rename_i s hs
        cases he : eqSh s l m with
        | none => rw [he] at hr; cases hr
        | some r =>
          rw [he] at hr
          injection hr with q1 q2; subst q2
          obtain ⟨g1, g2⟩ := key s r hs he
          exact ⟨_, fun W => by simp only [Sem.run_bind, g1, Result.andThen_ok, binOp, g2, Sem.run_pure]; rfl, .bool _⟩
      · rename_i s hs
        cases he : eqSh s l m with
        | none => rw [he] at hr; cases hr
        | some r =>
          rw [he] at hr
          injection hr with q1 q2; subst q2
          obtain ⟨g1, g2⟩ := key s r hs he
          exact ⟨_, fun W => by simp only [Sem.run_bind, g1, Result.andThen_ok, binOp, g2, Sem.run_pure]; rfl, .bool _⟩
      · cases hr
    · cases hr
  | sl b es i n nl a cap hn hcm hnl hz hc =>
    simp only [evBin2] at hr
    exact nilr n nl a cap rfl hn hnl hz hr
  | ro es n nl c a cap hn hcm hnl hz u ha h1 hc hrf =>
    simp only [evBin2] at hr
    exact nilr n nl a cap rfl hn hnl hz hr
  | _ => simp only [evBin2, reduceCtorEq] at hr

/-! ### Small operations -/
theorem un_sound {op : UnOp} {x v : AV} {u : Value} {ob : Prop} (hx : VR E x u) (hr : evUn op x = .pure ob v) : ∃ r, (∀ W, (Op.unary op u).run P W = .ok r W) ∧ VR E v r := by
  unfold evUn at hr
  split at hr
  · obtain rfl := VR_int hx
    injection hr with h1 h2; subst h2
    exact ⟨_, fun W => by simp [Op.unary, Op.intArith, wr], .int _ _⟩
  · obtain rfl := VR_bool hx
    injection hr with h1 h2; subst h2
    exact ⟨_, fun W => by simp only [Op.unary, Sem.run_pure], .bool _⟩
  · cases hr
def tany (P : Program) (t : TypeId) : Option Bool := (P.underlying t).map fun _ => true
theorem conv_sound {s d : TypeId} {x v : AV} {u : Value} {ob : Prop} (hx : VR E x u) (hr : evConv (tany P s) (tint P d) x = .pure ob v) : ∃ r, (∀ W, (convert s d u).run P W = .ok r W) ∧ VR E v r := by
  unfold evConv at hr
  split at hr
  · rename_i b k k' n hs hd
    obtain rfl := VR_int hx
    injection hr with h1 h2; subst h2
    unfold tany at hs
    cases hu : P.underlying s with
    | none => rw [hu] at hs; cases hs
    | some q =>
    have hd' : P.underlying d = some (.int k) := by
      unfold tint at hd
      split at hd
      · rename_i h'; injection hd with hd; subst hd; exact h'
      · cases hd
    refine ⟨.int k (wr k n), fun W => ?_, .int _ _⟩
    unfold convert
    simp only [Sem.run_bind, run_underlying hu, run_underlying hd', Result.andThen_ok]
    rfl
  · cases hr
theorem index2_sound {t : TypeId} {x ix v : AV} {u ui : Value} {ob : Prop} (hx : VR E x u) (hi : VR E ix ui)
    (hr : evIndex2 (tstr P t) ((tarr P t).bind fun q => tagg P q.2) (tarr P t) ((tarr P t).bind fun q => tsz P q.2) x ix = .pure ob v) (hob : ob) :
    ∃ r, (∀ W, (Instr.index t u ui).run P W = .ok r W) ∧ VR E v r := by
  unfold evIndex2 at hr
  split at hr
  · rename_i s
    obtain rfl := VR_str hx
    unfold evIndexS at hr
    split at hr
    · rename_i s' k q hs e
      injection e with e; subst e
      obtain rfl := VR_int hi
      simp only [AR.pure.injEq] at hr
      obtain ⟨rfl, rfl⟩ := hr
      have hu : P.underlying t = some .string := by
        unfold tstr at hs
        split at hs
        · assumption
        · cases hs
      have hq : q.toNat < s.size := by omega
      have hg : s[q.toNat]? = some s[q.toNat] := getElem?_pos s q.toNat hq
      have hb : byteAt s q.toNat = (s[q.toNat].toNat : Int) := by
        show ((s.data.getD q.toNat 0).toNat : Int) = ((s.data[q.toNat]'hq).toNat : Int)
        rw [show s.data.getD q.toNat 0 = s.data[q.toNat]'hq from by unfold Array.getD; rw [dif_pos (show q.toNat < s.data.size from hq)]; rfl]
      refine ⟨_, fun W => ?_, .int _ _⟩
      simp only [Instr.index, asIntOf, Sem.run_bind, Sem.run_pure, Result.andThen_ok, run_underlying hu, if_pos hob.1, hg, hb]
    · cases hr
  · exact index_sound hx hi hr hob
theorem slice2_sound {t : TypeId} {x v : AV} {u : Value} {lo hi mx : Option AV} {lv hv mv : Option Value} {ob : Prop} (hx : VR E x u) (hlo : VRO E lo lv) (hhi : VRO E hi hv) (hmx : VRO E mx mv)
    (hr : evSlice2 (tstr P t) (tslice P t) (tarr P t) (((tslice P t).or ((tarr P t).map (·.2))).bind (tsz P)) x lo hi mx = .pure ob v) (hob : ob) :
    ∃ r, (∀ W, (Instr.sliceAt t u lv hv mv).run P W = .ok r W) ∧ VR E v r := by
  unfold evSlice2 at hr
  split at hr
  · rename_i s
    obtain rfl := VR_str hx
    cases e1 : evBound lo 0 with
    | none => rw [e1] at hr; simp only [evSliceS] at hr; cases hr
    | some l =>
    cases e2 : evBound hi s.size with
    | none => rw [e1, e2] at hr; simp only [evSliceS] at hr; cases hr
    | some w =>
    cases mx with
    | some m => rw [e1, e2] at hr; simp only [evSliceS] at hr; cases hr
    | none =>
    rw [e1, e2] at hr
    simp only [evSliceS] at hr
    cases hs : tstr P t with
    | false => rw [hs] at hr; cases hr
    | true =>
    rw [hs] at hr
    simp only [cond_true, AR.pure.injEq] at hr
    obtain ⟨rfl, rfl⟩ := hr
    have hu : P.underlying t = some .string := by
      unfold tstr at hs
      split at hs
      · assumption
      · cases hs
    have hm : mv = none := by cases mv with
      | none => rfl
      | some m => exact hmx.elim
    subst hm
    obtain ⟨M, hb, _⟩ := bounds_run (P := P) (E := E) (b := false) (lo := lo) (hi := hi) (mx := none) (lv := lv) (hv := hv) (mv := none) (n := s.size) (len := s.size) (cap := s.size) (m := s.size) hlo hhi trivial e1 e2 rfl rfl hob.1 hob.2.1 hob.2.2 (by omega) (Nat.le_refl _)
    refine ⟨_, fun W => ?_, .str _⟩
    simp only [Instr.sliceAt, Instr.slice, Sem.run_bind, Sem.run_pure, Result.andThen_ok, run_underlying hu, Option.isSome_none, Bool.false_eq_true, if_false, hb]
  · exact slice_sound hx hlo hhi hmx hr hob
theorem bytesC_eq {n : Nat} {c : Nat → Nat → AV} {news : List Value} (hl : news.length = n * 1) (hc : ∀ i, i < n → u8Q (c i 0)) (hv : ∀ q y, q < n → y < 1 → ∃ v, news[q * 1 + y]? = some v ∧ v.oneCell' = true ∧ VR E (c q y) v) :
    ∃ ns : List Int, news = ns.map (Value.int .u8) ∧ bytesC n c = strOfNums ns := by
  refine ⟨(List.range n).map fun i => match c i 0 with | .int _ q => q | _ => 0, ?_, ?_⟩
  · apply List.ext_getElem?
    intro i
    rw [List.getElem?_map, List.getElem?_map]
    by_cases hi : i < n
    · rw [List.getElem?_range hi]
      obtain ⟨v, h1, _, h3⟩ := hv i 0 hi (by omega)
      rw [Nat.mul_one, Nat.add_zero] at h1
      rw [h1]
      have h4 := hc i hi
      simp only [Option.map_some, Option.some.injEq]
      unfold u8Q at h4
      split at h4
      · rename_i q e
        rw [e] at h3
        rw [VR_int h3, e]
      · exact h4.elim
    · rw [List.getElem?_eq_none (by omega), List.getElem?_eq_none (by simp; omega)]; rfl
  · unfold bytesC strOfNums
    congr 1
    rw [List.map_map]
    congr 1
    apply List.map_congr_left
    intro i _
    simp only [Function.comp]
    cases c i 0 <;> rfl
theorem conv2_sound {s d : TypeId} {x v : AV} {u : Value} {ob : Prop} (H : HR E h) (hx : VR E x u) (hr : evConv2 (tany P s) (tint P d) (tbytes P s) (tstr P d) x h = .pure ob v) (hob : ob) :
    ∃ r, (∀ W : World, (∀ k, k < E.w.heap.size → W.heap[k]? = E.w.heap[k]?) → (convert s d u).run P W = .ok r W) ∧ VR E v r := by
  unfold evConv2 at hr
  split at hr
  · obtain ⟨r, h1, h2⟩ := conv_sound (P := P) hx hr
    exact ⟨r, fun W _ => h1 W, h2⟩
  · cases hr
  · rename_i hni hns
    cases hk : (tbytes P s && tstr P d) with
    | false => rw [hk] at hr; cases hr
    | true =>
    rw [hk] at hr
    simp only [cond_true] at hr
    simp only [Bool.and_eq_true] at hk
    obtain ⟨k1, k2⟩ := hk
    have hd : P.underlying d = some .string := by
      unfold tstr at k2
      split at k2
      · assumption
      · cases k2
    obtain ⟨e, hs, he⟩ : ∃ e, P.underlying s = some (.slice e) ∧ P.underlying e = some (.int .u8) := by
      unfold tbytes at k1
      split at k1
      · rename_i e he
        split at k1
        · rename_i hb; exact ⟨e, he, hb⟩
        · cases k1
      · cases k1
    cases hsr : srcOf 1 x h with
    | none => rw [hsr] at hr; simp only [cvS] at hr; cases hr
    | some src =>
    rw [hsr] at hr
    simp only [cvS, AR.pure.injEq] at hr
    obtain ⟨rfl, rfl⟩ := hr
    obtain ⟨news, g1, g2⟩ := src_sound (P := P) (Nat.le_refl 1) H hx hsr hob.1
    obtain ⟨ns, e1, e2⟩ := bytesC_eq (by rw [g1.len]) hob.2 g2
    have sl : ∀ (a : Option Addr) (n c : Nat), u = .slice a n c → ∃ r, (∀ W : World, (∀ k, k < E.w.heap.size → W.heap[k]? = E.w.heap[k]?) → (convert s d u).run P W = .ok r W) ∧ VR E (.str (bytesC src.n src.c)) r := by
      rintro a n c rfl
      refine ⟨.string (bytesC src.n src.c), fun W hW => ?_, .str _⟩
      rw [run_convert_bytes_string W s d e a n c hs he hd]
      have hn : n = src.n := by
        have h1 := g1.lenOf W
        simp only [Builtin.lenOf, Sem.run_pure, Result.ok.injEq] at h1
        exact h1.1
      cases a with
      | none =>
        have h1 := g1.first W hW
        simp only [Builtin.firstCells, Sem.run_pure, Result.ok.injEq] at h1
        have h2 : news = [] := by
          have := congrArg Array.toList h1.1
          simpa using this.symm
        rw [h2] at e1
        have h3 : ns = [] := by cases ns with
          | nil => rfl
          | cons a l => simp at e1
        rw [e2, h3]
        simp only [Conv.bytesToString, Sem.run_pure]
        rfl
      | some a =>
        have h1 := g1.first W hW
        rw [e1] at h1
        simp only [Builtin.firstCells, Nat.mul_one] at h1
        rw [← hn] at h1
        rw [run_bytesToString W a n c ns h1, foldl_push_bytes, e2]
        simp [strOfNums, ByteArray.empty, ByteArray.emptyWithCapacity]
        rfl
    cases hx with
    | sl b es i n nl a cap => exact sl _ _ _ rfl
    | isl => exact sl _ _ _ rfl
    | csl => exact sl _ _ _ rfl
    | ro es n nl c a cap => exact sl _ _ _ rfl
    | emp a => exact sl _ _ _ rfl
    | str s' => exact absurd rfl (hns s')
    | _ => simp only [srcOf] at hsr; cases hsr
theorem extract_sound {i : Nat} {x v : AV} {u : Value} {ob : Prop} (hx : VR E x u) (hr : evExtract x i = .pure ob v) (hob : ob) : ∃ r, (∀ W, (Instr.extract u i).run P W = .ok r W) ∧ VR E v r := by
  unfold evExtract at hr
  split at hr
  · injection hr with h1 h2; subst h1 h2
    cases hx with
    | tup l vs hl hh =>
      have h2 : i < vs.size := by rw [← hl]; exact hob
      refine ⟨vs[i], fun W => ?_, hh i _ _ (getL_some hob) (Array.getElem?_eq_getElem h2)⟩
      simp [Instr.extract, h2]
  · cases hr
theorem pick_sound {c x y v : AV} {b : Bool} {uc ux uy : Value} {ob : Prop} (hc : VR E c uc) (hb : c = .bool b) (hx : b = true → VR E x ux) (hy : b = false → VR E y uy) (hr : evPick c x y = .pure ob v) :
    ∃ r, (∀ W, (do pure (.value (if ← asBool uc then ux else uy)) : Sem Next).run P W = .ok (.value r) W) ∧ VR E v r := by
  subst hb
  obtain rfl := VR_bool hc
  simp only [evPick] at hr
  unfold mrg at hr
  split at hr
  · injection hr with h1 h2; subst h2
    cases b with
    | true => exact ⟨ux, fun W => by simp [asBool], hx rfl⟩
    | false => exact ⟨uy, fun W => by simp [asBool], hy rfl⟩
  · cases b with
    | true => injection hr with h1 h2; subst h2; exact ⟨ux, fun W => by simp [asBool], hx rfl⟩
    | false => cases hr
  · cases b with
    | true => cases hr
    | false => injection hr with h1 h2; subst h2; exact ⟨uy, fun W => by simp [asBool], hy rfl⟩
  · cases hr
theorem pick_pf (c x y : AV) : (∃ o w, evPick c x y = .pure o w) ∨ evPick c x y = .fail := by
  unfold evPick mrg
  split
  · rename_i b
    split <;> first | exact .inl ⟨_, _, rfl⟩ | exact .inr rfl | (cases b <;> first | exact .inl ⟨_, _, rfl⟩ | exact .inr rfl)
  · exact .inr rfl

/-! ### copy, clear, cap, append of a make -/
/-- Elements of a row written over, at a slice. -/
theorem ovw_at {b es i m N cap : Nat} {a : Option Addr} {e : TypeId} {c d : Nat → Nat → AV} {news : List Value} (H : HR E h) (hb : geth h b = .row e es N c)
    (hc : 0 < cap → ∃ k o cs e, E.σ b = some (k, o) ∧ a = some ⟨k, o + i * es, none⟩ ∧ E.w.heap[k]? = some (.cells cs e (0, 0)) ∧ o + i * es + cap * es ≤ cs.size)
    (hm : m ≤ cap) (hN : i ≤ N) (hl : news.length = m * es) (h1 : ∀ v ∈ news, v.oneCell' = true) (hn : ∀ q y, q < m → y < es → ∃ v, news[q * es + y]? = some v ∧ v.oneCell' = true ∧ VR E (d q y) v) :
    ∃ E', (∀ a0, a = some a0 → (storeCells a0 news).run P E.w = .ok () E'.w) ∧ (a = none → E'.w = E.w) ∧ Ext E h E' (seth h b (.row e es (max N (i + m)) (ovwC i m c d))) ∧ HR E' (seth h b (.row e es (max N (i + m)) (ovwC i m c d))) := by
  rcases Nat.eq_zero_or_pos m with h0 | hp
  · have hsame : seth h b (.row e es (max N (i + m)) (ovwC i m c d)) = h := by
      rw [show max N (i + m) = N from by omega]
      have : ovwC i m c d = c := by
        funext x y
        unfold ovwC
        rw [h0, if_neg (by omega)]
      rw [this, ← hb, seth_set]
      apply List.ext_getElem?
      intro j
      rw [List.getElem?_set]
      by_cases hj : b = j
      · subst hj
        have := geth_some (h := h) (b := b) (by rw [hb]; exact fun e => by cases e)
        rw [if_pos rfl, this]
        split
        · rfl
        · rename_i hlt; rw [List.getElem?_eq_none (by omega)] at this; cases this
      · rw [if_neg hj]
    rw [hsame]
    have hnil : news = [] := List.eq_nil_of_length_eq_zero (by rw [hl, h0, Nat.zero_mul])
    subst hnil
    exact ⟨E, fun a0 _ => by simp [storeCells], fun _ => rfl, Ext.refl _ _, H⟩
  · obtain ⟨k, o, cs, e2, g1, rfl, g3, g4⟩ := hc (by omega)
    have hfit : o + i * es + m * es ≤ cs.size := by
      have := Nat.mul_le_mul_right es hm
      omega
    obtain ⟨he2, H1, X1⟩ := ovw_HR (d := d) H hb g1 g3 hl hN hfit hn
    subst he2
    have hst := run_storeCells_at P k (o + i * es) e2 news 0 cs E.w g3 (by rw [hl]; omega) h1
    rw [Nat.add_zero, setRow_putRow g3] at hst
    exact ⟨{ E with w := putRow E.w k (splice cs (o + i * es) news) e2 }, fun a0 ha => (by injection ha with ha; subst ha; exact hst), fun ha => (by simp at ha), X1, H1⟩
theorem cutS_VR {x : AV} {u : Value} {m k : Nat} (hx : VR E x u) (hl : lenS x = some m) (hk : k ≤ m) : ∃ a cap, u = .slice a m cap ∧ VR E (cutS k x) (.slice a k cap) ∧ m ≤ cap := by
  cases hx <;> simp only [lenS, Option.some.injEq, reduceCtorEq] at hl <;> subst hl
  case sl b es i nl a cap hn hcm hnl hz hc => exact ⟨a, cap, rfl, .sl _ _ _ _ _ _ _ (by omega) hcm hnl hz hc, hn⟩
  case isl b es i j z cap k' o hn hcm h => exact ⟨_, cap, rfl, .isl _ _ _ _ _ _ _ _ _ (by omega) hcm h, hn⟩
  case csl b es i c a hn hcm hc => exact ⟨a, c, rfl, .csl _ _ _ _ _ _ (by omega) hcm hc, hn⟩
  case ro es nl c a cap hn hcm hnl hz u ha h1 hc hrf => exact ⟨a, cap, rfl, .ro _ _ _ _ a cap (by omega) hcm hnl hz u (fun hp => by obtain ⟨k', o, q1, q2, q3⟩ := ha (by omega); exact ⟨k', o, q1, q2, fun x y hx hy => q3 x y (by omega) hy⟩) (fun x y hx hy => h1 x y (by omega) hy) (fun x y hx hy => hc x y (by omega) hy) fun x y hx hy => hrf x y (by omega) hy, hn⟩
  case emp a =>
    obtain rfl : k = 0 := by omega
    exact ⟨a, 0, rfl, .emp a, Nat.le_refl _⟩
theorem cutS_n {z k : Nat} {x : AV} {s : Src} {m : Nat} (hl : lenS x = some m) (hk : k ≤ m) (hs : srcOf z (cutS k x) h = some s) : s.n = k := by
  cases x <;> simp only [lenS, Option.some.injEq, reduceCtorEq] at hl <;> subst hl <;> simp only [cutS, srcOf] at hs
  · split at hs <;> simp only [Option.some.injEq, reduceCtorEq] at hs; subst hs; rfl
  · split at hs <;> simp only [Option.some.injEq, reduceCtorEq] at hs <;> subst hs <;> rfl
  · split at hs <;> simp only [Option.some.injEq, reduceCtorEq] at hs; subst hs; rfl
  · simp only [Option.some.injEq] at hs; subst hs; rfl
  · simp only [Option.some.injEq] at hs; subst hs; simp only; omega
theorem copyR_sound {dt st ty e : TypeId} {z b es i n m cap mc : Nat} {x v : AV} {a a' : Option Addr} {ob : Prop} {h' : List ABlk} (ht : P.underlying dt = some (.slice e)) (hz : tsz P e = some z) (hz1 : 1 ≤ z) (H : HR E h)
    (hx : VR E x (.slice a' m mc)) (hl : lenS x = some m) (hn : n ≤ cap)
    (hc : 0 < cap → ∃ k o cs e, E.σ b = some (k, o) ∧ a = some ⟨k, o + i * es, none⟩ ∧ E.w.heap[k]? = some (.cells cs e (0, 0)) ∧ o + i * es + cap * es ≤ cs.size)
    (hr : evCopyR z b es i n m x h = .heap ob v h') (hob : ob) :
    ∃ r E', (Builtin.copy_ #[dt, st] ty #[.slice a n cap, .slice a' m mc]).run P E.w = .ok r E'.w ∧ Ext E h E' h' ∧ HR E' h' ∧ VR E' v r := by
  unfold evCopyR at hr
  cases hs : srcOf z (cutS (min m n) x) h with
  | none => rw [hs] at hr; cases hr
  | some s =>
  rw [hs] at hr
  simp only at hr
  cases hb : geth h b with
  | lit e' l => rw [hb] at hr; cases hr
  | dead => rw [hb] at hr; cases hr
  | row e' es' N c =>
    rw [hb] at hr
    simp only [AR.heap.injEq] at hr
    obtain ⟨rfl, rfl, rfl⟩ := hr
    obtain ⟨hso, rfl, rfl, hN⟩ := hob
    obtain ⟨a2, c2, hu, hcut, _⟩ := cutS_VR (k := min m n) hx hl (by omega)
    injection hu with q1 q2 q3
    subst q1 q3
    have hsn := cutS_n hl (show min m n ≤ m by omega) hs
    obtain ⟨news, hs1, hs2⟩ := src_sound (P := P) hz1 H hcut hs hso
    rw [hsn] at hs1 hs2
    obtain ⟨E', g1, g2, g3, g4⟩ := ovw_at (P := P) (a := a) (i := i) (d := s.c) H hb hc (show min m n ≤ cap by omega) hN hs1.len hs1.one hs2
    have hf := hs1.first E.w fun _ _ => rfl
    have hf' : (Builtin.firstCells es' (min m n) (.slice a' m mc)).run P E.w = .ok news.toArray E.w := by
      rw [← hf]; cases a' <;> rfl
    refine ⟨.int .i64 (min m n : Nat), E', ?_, g3, g4, .int _ _⟩
    have hsz := fun w => run_sizeOf (P := P) (w := w) hz
    cases a with
    | none =>
      rw [g2 rfl]
      simp only [Builtin.copy_, List.getElem?_toArray, List.getElem?_cons_zero, List.getElem?_cons_succ, Sem.run_bind, run_underlying ht, Result.andThen_ok, hsz, Builtin.lenOf, Sem.run_pure]
      rw [show Nat.min m n = min m n from rfl, hf']
      rfl
    | some a0 =>
      simp only [Builtin.copy_, List.getElem?_toArray, List.getElem?_cons_zero, List.getElem?_cons_succ, Sem.run_bind, run_underlying ht, Result.andThen_ok, hsz, Builtin.lenOf, Sem.run_pure]
      rw [show Nat.min m n = min m n from rfl, hf']
      simp only [Result.andThen_ok, g1 a0 rfl]
      rfl
theorem copy_sound {dt st ty : TypeId} {d x v : AV} {ud ux : Value} {ob : Prop} {h' : List ABlk} (H : HR E h) (hd : VR E d ud) (hx : VR E x ux)
    (hr : evCopy ((tslice P dt).bind (tsz P)) d x h = .heap ob v h') (hob : ob) :
    ∃ r E', (Builtin.copy_ #[dt, st] ty #[ud, ux]).run P E.w = .ok r E'.w ∧ Ext E h E' h' ∧ HR E' h' ∧ VR E' v r := by
  cases hdt : tslice P dt with
  | none => rw [hdt] at hr; simp only [Option.bind_none, evCopy] at hr; cases hr
  | some e =>
  rw [hdt] at hr
  simp only [Option.bind_some] at hr
  cases hz : tsz P e with
  | none => rw [hz] at hr; simp only [evCopy] at hr; cases hr
  | some z =>
  rw [hz] at hr
  simp only [evCopy] at hr
  cases hl : lenS x with
  | none => rw [hl] at hr; simp only at hr; cases hr
  | some m =>
  rw [hl] at hr
  simp only at hr
  cases hz1 : decide (1 ≤ z) with
  | false => rw [hz1] at hr; cases hr
  | true =>
  rw [hz1] at hr
  simp only [cond_true] at hr
  obtain ⟨a', mc, rfl, _, _⟩ := cutS_VR (k := m) hx hl (Nat.le_refl _)
  cases hd <;> simp only [reduceCtorEq] at hr
  case sl b es i n nl a cap hn hcm hnl hz' hc => exact copyR_sound (und_of_tslice hdt) hz (by simpa using hz1) H hx hl hn hc hr hob
  case csl b es i n c a hn hcm hc => exact copyR_sound (und_of_tslice hdt) hz (by simpa using hz1) H hx hl hn hc hr hob

theorem zcells_get {l : List AV} {zs : Array Value} {n : Nat} (hcz : CR E l zs) : ∀ q y, q < n → y < l.length → ∃ v, (Builtin.zeroCells zs n).toList[q * l.length + y]? = some v ∧ v.oneCell' = true ∧ VR E (getL l y) v := by
  have hsz : zs.size = l.length := hcz.1.symm
  intro q y hq hy
  have hs := split_lt hq hy
  have hlt : y < zs.size := by omega
  obtain ⟨q1, q2⟩ := hcz.2 y (getL l y) zs[y] (getL_some hy) (Array.getElem?_eq_getElem hlt)
  refine ⟨zs[y], ?_, q1, q2⟩
  rw [Array.getElem?_toList, Builtin.zeroCells, Array.getElem?_map, Array.getElem?_range, hsz, if_pos hs]
  simp only [Option.map_some, Option.some.injEq]
  rw [show (q * l.length + y) % l.length = y from by rw [Nat.mul_comm, Nat.mul_add_mod, Nat.mod_eq_of_lt hy], getElem!_pos zs y hlt]
theorem clearR_sound {t ty e : TypeId} {b es i n cap : Nat} {l : List AV} {v : AV} {a : Option Addr} {ob : Prop} {h' : List ABlk} (ht : P.underlying t = some (.slice e)) (hl : tzero P e = some l) (H : HR E h) (hn : n ≤ cap) (hz : a = none → cap = 0)
    (hc : 0 < cap → ∃ k o cs e, E.σ b = some (k, o) ∧ a = some ⟨k, o + i * es, none⟩ ∧ E.w.heap[k]? = some (.cells cs e (0, 0)) ∧ o + i * es + cap * es ≤ cs.size)
    (hr : evClearR b es i n l h = .heap ob v h') (hob : ob) :
    ∃ r E', (Builtin.clear_ #[t] ty #[.slice a n cap]).run P E.w = .ok r E'.w ∧ Ext E h E' h' ∧ HR E' h' ∧ VR E' v r := by
  unfold evClearR at hr
  cases hb : geth h b with
  | lit e' l => rw [hb] at hr; cases hr
  | dead => rw [hb] at hr; cases hr
  | row e' es' N c =>
    rw [hb] at hr
    simp only [AR.heap.injEq] at hr
    obtain ⟨rfl, rfl, rfl⟩ := hr
    obtain ⟨rfl, rfl, hN⟩ := hob
    obtain ⟨ti, zv, hi, hzv, habs⟩ := zero_of hl
    have hcz : CR E l zv.cells := by simpa using absL_CR (E := E) habs
    have hsz : zv.cells.size = l.length := hcz.1.symm
    have hlen : (Builtin.zeroCells zv.cells n).toList.length = n * l.length := by rw [Array.length_toList, zeroCells_size, hsz]
    have hget : ∀ q y, q < n → y < l.length → ∃ v, (Builtin.zeroCells zv.cells n).toList[q * l.length + y]? = some v ∧ v.oneCell' = true ∧ VR E (getL l y) v := by
      intro q y hq hy
      have hs := split_lt hq hy
      have hlt : y < zv.cells.size := by omega
      obtain ⟨q1, q2⟩ := hcz.2 y (getL l y) zv.cells[y] (getL_some hy) (Array.getElem?_eq_getElem hlt)
      refine ⟨zv.cells[y], ?_, q1, q2⟩
      rw [Array.getElem?_toList, Builtin.zeroCells, Array.getElem?_map, Array.getElem?_range, hsz, if_pos hs]
      simp only [Option.map_some, Option.some.injEq]
      rw [show (q * l.length + y) % l.length = y from by rw [Nat.mul_comm, Nat.mul_add_mod, Nat.mod_eq_of_lt hy], getElem!_pos zv.cells y hlt]
    have hone : ∀ v ∈ (Builtin.zeroCells zv.cells n).toList, v.oneCell' = true := by
      intro v hv
      obtain ⟨j, hj, rfl⟩ := List.mem_iff_getElem.mp hv
      rw [hlen] at hj
      rcases Nat.eq_zero_or_pos l.length with h0 | hp
      · rw [h0, Nat.mul_zero] at hj; omega
      · obtain ⟨x, y, rfl, hy⟩ := div_mul_mod j l.length hp
        obtain ⟨v, a1, a2, _⟩ := hget x y (lt_of_split hj) hy
        have := List.getElem?_eq_some_iff.mp a1
        rw [this.2]; exact a2
    obtain ⟨E', g1, g2, g3, g4⟩ := ovw_at (P := P) (a := a) (i := i) (d := fun _ y => getL l y) H hb hc hn hN hlen hone hget
    refine ⟨.tuple #[], E', ?_, g3, g4, .top _⟩
    have hzr := fun w => run_zeroValue (P := P) hi hzv w
    cases a with
    | none =>
      rw [g2 rfl]
      simp [Builtin.clear_, run_underlying ht]
    | some a0 =>
      cases n with
      | zero =>
        have hst := g1 a0 rfl
        rw [show (Builtin.zeroCells zv.cells 0).toList = [] from List.eq_nil_of_length_eq_zero (by rw [hlen, Nat.zero_mul])] at hst
        simp only [storeCells, Sem.run_pure, Result.ok.injEq, true_and] at hst
        rw [← hst]
        simp [Builtin.clear_, run_underlying ht]
      | succ n =>
        have hst := g1 a0 rfl
        simp [Builtin.clear_, run_underlying ht, hzr, hst]
theorem clear_sound {t ty : TypeId} {x v : AV} {u : Value} {ob : Prop} {h' : List ABlk} (H : HR E h) (hx : VR E x u)
    (hr : evClear ((tslice P t).bind (tzero P)) x h = .heap ob v h') (hob : ob) :
    ∃ r E', (Builtin.clear_ #[t] ty #[u]).run P E.w = .ok r E'.w ∧ Ext E h E' h' ∧ HR E' h' ∧ VR E' v r := by
  cases hdt : tslice P t with
  | none => rw [hdt] at hr; simp only [Option.bind_none, evClear] at hr; cases hr
  | some e =>
  rw [hdt] at hr
  simp only [Option.bind_some] at hr
  cases hz : tzero P e with
  | none => rw [hz] at hr; simp only [evClear] at hr; cases hr
  | some l =>
  rw [hz] at hr
  simp only [evClear] at hr
  cases hz1 : decide (1 ≤ l.length) with
  | false => rw [hz1] at hr; cases hr
  | true =>
  rw [hz1] at hr
  simp only [cond_true] at hr
  cases hx <;> simp only [reduceCtorEq] at hr
  case sl b es i n nl a cap hn hcm hnl hz' hc => exact clearR_sound (und_of_tslice hdt) hz H hn hz' hc hr hob
  case csl b es i n c a hn hcm hc =>
    refine clearR_sound (und_of_tslice hdt) hz H hn (fun ha => ?_) hc hr hob
    rcases Nat.eq_zero_or_pos c with h0 | hp
    · exact h0
    · obtain ⟨k, o, cs, e, _, h2, _⟩ := hc hp
      rw [ha] at h2; cases h2
theorem cap_sound {t ty : TypeId} {x v : AV} {u : Value} {ob : Prop} (hx : VR E x u) (hr : evCap (tslice P t) x = .pure ob v) : ∃ r, (∀ W, (Builtin.cap_ #[t] ty #[u]).run P W = .ok r W) ∧ VR E v r := by
  unfold evCap at hr
  split at hr
  · rename_i e he
    have hd := und_of_tslice he
    split at hr
    · injection hr with h1 h2; subst h2
      cases hx
      exact ⟨_, fun W => by simp [Builtin.cap_, run_underlying hd]; rfl, .int _ _⟩
    · cases hr
  · cases hr

theorem tintk_und {t : TypeId} (ht : tintk P t = true) : ∃ k, P.underlying t = some (.int k) := by
  unfold tintk at ht
  split at ht
  · rename_i k hu; exact ⟨k, hu⟩
  · cases ht
theorem run_app_zeros {st xt ty e n cap : Nat} {m : Int} {a : Option Addr} {olds : List Value} {i : TypeInfo} {zv : Value} {w : World} (ht : P.underlying st = some (.slice e)) (hx : tintk P xt = true)
    (hi : P.info? e = some i) (hz1 : 1 ≤ i.size) (hzv : i.zero = some zv) (h0 : 0 ≤ m) (ho : SrcRun P w i.size n (.slice a n cap) olds) (hn : cap < n + m.toNat)
    (h63 : n + m.toNat ≤ 140737488355328) (hby : (n + m.toNat) * i.bytes ≤ 140737488355328) :
    (Builtin.append_ #[st, xt] ty #[.slice a n cap, .int .i64 m]).run P w =
      .ok (.slice (some ⟨w.heap.size, 0, none⟩) (n + m.toNat) (grownCap w (n + m.toNat) cap e)) (w.drew.alloc (.cells (olds.toArray ++ (Builtin.zeroCells zv.cells m.toNat).toList.toArray ++ Builtin.zeroCells zv.cells (grownCap w (n + m.toNat) cap e - (n + m.toNat))) e)) := by
  have hfo := ho.first w.drew fun _ _ => rfl
  have hn' : ¬ (n + m.toNat ≤ cap) := by omega
  have h63' : ¬ (9223372036854775807 < ((n : Int) + (m.toNat : Int))) := by omega
  have h48' : ¬ (281474976710656 < Builtin.nextslicecap (n + m.toNat) cap * i.bytes) := by have := growslice_fits hn hby; omega
  obtain ⟨k, h1⟩ := tintk_und hx
  have wm : IntKind.i64.wrap m = m := IntWalk.i64_in _ (by omega)
  have m1 : ¬ m < 0 := by omega
  have hmb : m.toNat * i.bytes ≤ 140737488355328 := Nat.le_trans (Nat.mul_le_mul_right _ (by omega)) hby
  have m2 : ¬ (281474976710656 < m * (i.bytes : Int)) := by
    have e1 : ((m.toNat * i.bytes : Nat) : Int) = m * (i.bytes : Int) := by rw [Int.natCast_mul, Int.toNat_of_nonneg h0]
    omega
  have h63'' : ¬ (9223372036854775807 < ((n : Int) + max m 0)) := by omega
  simp [Builtin.append_, run_underlying ht, run_underlying h1, asInt, asIntOf, sizeOf, typeInfo, hi, wm, m1, m2, hn', h63', h63'', h48', Question.forced, hfo, newRow, grownCap]
  have hzr := fun w => run_zeroValue (P := P) hi hzv w
  simp only [hzr, Result.andThen_ok]
  split
  · rename_i hz
    have : m.toNat = 0 := by
      rcases Nat.mul_eq_zero.mp hz with h | h <;> omega
    have e0 : Builtin.zeroCells zv.cells m.toNat = #[] := by rw [this]; simp [Builtin.zeroCells]
    rw [e0, Array.empty_append]
    rfl
  · rfl
theorem appZ_sound {st xt ty : TypeId} {s x v : AV} {u ux : Value} {ob : Prop} {h' : List ABlk} (H : HR E h) (hu : VR E s u) (hux : VR E x ux)
    (hr : evAppZ (tslice P st) (tintk P xt) ((tslice P st).bind (tsz P)) ((tslice P st).bind (tby P)) ((tslice P st).bind (tzero P)) s x h = .heap ob v h') (hob : ob) :
    ∃ r E', (Builtin.append_ #[st, xt] ty #[u, ux]).run P E.w = .ok r E'.w ∧ Ext E h E' h' ∧ HR E' h' ∧ VR E' v r := by
  unfold evAppZ at hr
  split at hr
  · rename_i e z by_ l b es i' n cc m he hzz hby hl
    rw [he] at hzz hby hl
    simp only [Option.bind_some] at hzz hby hl
    cases hb : geth h b with
    | lit e' l => rw [hb] at hr; cases hr
    | dead => rw [hb] at hr; cases hr
    | row e' es' N c =>
    rw [hb] at hr
    simp only at hr
    cases hok : (tintk P xt && z == l.length && decide (1 ≤ l.length) && decide (cc < n + m.toNat)) with
    | false => rw [hok] at hr; cases hr
    | true =>
    rw [hok] at hr
    simp only [cond_true, AR.heap.injEq] at hr
    obtain ⟨rfl, rfl, rfl⟩ := hr
    obtain ⟨h0, rfl, rfl, rfl, hN, hb1, hb2⟩ := hob
    simp only [Bool.and_eq_true, decide_eq_true_eq, beq_iff_eq] at hok
    obtain ⟨⟨⟨hxt, rfl⟩, hz1⟩, hroom⟩ := hok
    obtain rfl := VR_int hux
    have ht := und_of_tslice he
    obtain ⟨ti, zv, hi, hzv, habs⟩ := zero_of hl
    obtain ⟨ti', hi', hbt⟩ := info_of_tby hby
    rw [hi] at hi'; cases hi'
    have hcz : CR E l zv.cells := by simpa using absL_CR (E := E) habs
    have hsz : zv.cells.size = l.length := hcz.1.symm
    have hlen : (Builtin.zeroCells zv.cells m.toNat).toList.length = m.toNat * l.length := by rw [Array.length_toList, zeroCells_size, hsz]
    cases hu with
    | csl b es i' n cc a hn hcm hc =>
      have hget : ∀ q y, q < m.toNat → y < l.length → ∃ v, (Builtin.zeroCells zv.cells m.toNat).toList[q * l.length + y]? = some v ∧ v.oneCell' = true ∧ VR E (getL l y) v := zcells_get hcz
      have his : ti.size = l.length := by
        have hq : tsz P e' = some ti.size := by unfold tsz; rw [hi]; rfl
        rw [hq] at hzz
        injection hzz
      have fin : ∀ (olds : List Value), SrcRun P E.w l.length n (.slice a n cc) olds → (∀ q y, q < n → y < l.length → ∃ v, olds[q * l.length + y]? = some v ∧ v.oneCell' = true ∧ VR E (subC i' c q y) v) →
          ∃ r E', (Builtin.append_ #[st, xt] ty #[.slice a n cc, .int .i64 m]).run P E.w = .ok r E'.w ∧ Ext E h E' (h ++ [.row e' l.length (n + m.toNat) (appC n (subC i' c) fun _ y => getL l y)]) ∧ HR E' (h ++ [.row e' l.length (n + m.toNat) (appC n (subC i' c) fun _ y => getL l y)]) ∧ VR E' (.sl h.length l.length 0 (n + m.toNat) false) r := by
        intro olds hols hov
        have hrun := run_app_zeros (P := P) (ty := ty) ht hxt hi (by rw [his]; exact hz1) hzv h0 (by rw [his]; exact hols) hroom hb2 (by rw [hbt]; exact Int.ofNat_le.1 (by rw [Int.natCast_mul]; exact hb1))
        obtain ⟨H2, X2⟩ := drew_HR H
        have gb := grown_bounds E.w (n + m.toNat) cc e' hb2
        obtain ⟨H3, X3, hsz3⟩ := grow_HR (E := { E with w := E.w.drew }) (e := e') (zs := zv.cells) (c := subC i' c) (d := fun _ y => getL l y) (olds := olds) (cap := grownCap E.w (n + m.toNat) cc e') H2 hols.len hlen hsz gb.1
          (fun q y hq hy => by obtain ⟨v, a1, a2, a3⟩ := hov q y hq hy; exact ⟨v, a1, a2, a3.mono (X2.keep H)⟩)
          (fun q y hq hy => by obtain ⟨v, a1, a2, a3⟩ := hget q y hq hy; exact ⟨v, a1, a2, a3.mono (X2.keep H)⟩)
        exact ⟨_, _, hrun, X2.trans X3, H3, VR_new_sl (E := { E with w := E.w.drew }) (h := h) (e := e') (n := n + m.toNat) rfl hsz3 gb.1 gb.2 rfl⟩
      rcases Nat.eq_zero_or_pos n with rfl | hp
      · exact fin [] (src_nil (P := P) a cc) fun q y hq => by omega
      · obtain ⟨k, o, cs, e2, g1, rfl, g3, g4⟩ := hc (by omega)
        have holds : ∀ q y, q < n → y < l.length → ∃ v, E.w.cell? ((⟨k, o + i' * l.length, none⟩ : Addr).add (q * l.length + y)) = some v ∧ v.oneCell' = true ∧ VR E (subC i' c q y) v := by
          intro q y hq hy
          obtain ⟨v, a1, a2, a3⟩ := own_row H hb g1 (i' + q) y (by omega) hy
          refine ⟨v, ?_, a2, a3⟩
          rw [add_none, ← a1, Nat.add_mul]
          congr 2
          omega
        refine fin (cellsAt E.w ⟨k, o + i' * l.length, none⟩ (n * l.length)) (src_at (fun q hq => ?_)) fun q y hq hy => ?_
        · obtain ⟨x, y, rfl, hy⟩ := div_mul_mod q l.length hz1
          obtain ⟨v, a1, a2, _⟩ := holds x y (lt_of_split hq) hy
          exact ⟨v, a1, a2⟩
        · obtain ⟨v, a1, a2, a3⟩ := holds q y hq hy
          exact ⟨v, cellsAt_get (split_lt hq hy) a1, a2, a3⟩
  · cases hr
end Go.Am

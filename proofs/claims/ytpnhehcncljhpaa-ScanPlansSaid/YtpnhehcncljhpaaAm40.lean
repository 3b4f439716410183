/-
  The abstract machine, part 40: contracts by partial functions; arguments and rows by typed lists.
-/
import Derived.Test.YtpnhehcncljhpaaAm39
namespace Go.Am
set_option linter.unusedVariables false
variable {P : Program} {E : Env} {h : List ABlk}

theorem pure_fnM {f : FuncId} {fn : Func} {code : Code} (body : List AV → AR) {rs : List ResultVar}
    (hf : P.funcs[f]? = some fn) (hn : (fn.name == "runtime.NumGoroutine") = false) (hb : fn.body = some code) (hrs : fn.results.toList = rs)
    (hw : ∀ (l : List AV) (ob : Prop) (v : AV), body l = .pure ob v → ob → ∃ l' t, (∀ E vs, FR E l vs → FR E l' vs) ∧ (conc v).isSome = true ∧ t = l' ++ List.replicate (fn.ntmps - l'.length) .top ∧
      Mean P code (kRet P rs fun v' _ => v' = v) t []) : FnOk P f (pureC body) := by
  subst hrs
  have main : ∀ (E : Env) (h : List ABlk) (l : List AV) (vs : Array Value) (ob : Prop) (v : AV), HR E h → FR E l vs → pureC body l h = .pure ob v → ob → Calls P f vs E.w (RetP E.w v) := by
    intro E h l vs ob v H F hr hob
    unfold pureC at hr
    cases hbd : body (roL h l) with
    | fail => rw [hbd] at hr; cases hr
    | heap a b c => rw [hbd] at hr; cases hr
    | pure ob' v' =>
      rw [hbd] at hr
      simp only [pureR, AR.pure.injEq] at hr
      obtain ⟨rfl, rfl⟩ := hr
      obtain ⟨l', t, g1, g2, rfl, g3⟩ := hw _ _ _ hbd hob.2
      have F0 : FR E.view (roL h l) vs := by
        refine ⟨by rw [roL_length]; exact F.1, fun i a v ha hv => ?_⟩
        rw [roL_get] at ha
        cases hi : l[i]? with
        | none => rw [hi] at ha; cases ha
        | some a0 =>
          rw [hi] at ha
          simp only [Option.map_some, Option.some.injEq] at ha
          subst ha
          exact ro_VR H (F.2 i a0 v hi hv) (roObL_get hob.1 hi)
      have F1 := g1 _ _ F0
      have F2 : FR E.view (l' ++ List.replicate (fn.ntmps - l'.length) .top) (vs ++ Array.replicate (fn.ntmps - vs.size) undef) := by
        refine FR_append F1 ⟨by simp [F1.1], fun i a v ha hv => ?_⟩
        rw [List.getElem?_replicate] at ha
        split at ha
        · injection ha with ha; subst ha; exact .top _
        · cases ha
      refine calls_of_wp hf hb ?_
      refine g3 E.view _ _ (view_HR E) F2 rfl fun e E' a' t' h' hk X H' F' hd => ?_
      have done : retK P fn.results.toList (fun w _ => w = v') t' h' → a'.defers = [] ∧ ∃ u, (results fn a'.tmps).run P E'.w = .ok u E'.w ∧ RetP E.w v' (.returned u) E'.w := by
        intro hk
        obtain ⟨u, v', q1, rfl, q3⟩ := ret_sound (P := P) H' F' hk
        refine ⟨hd, u, q1, u, rfl, ?_, ⟨X.os, X.tape, X.output, X.size, fun k hk => X.frame k hk ?_⟩⟩
        · cases hc : conc v' with
          | none => rw [hc] at g2; cases g2
          | some u0 => rw [conc_VR hc q3]
        · rintro ⟨b, x, o, hb, _⟩; simp at hb
      cases e with
      | normal => exact done hk
      | ret => exact done hk
      | exit id => exact hk.elim
      | goto l => exact hk.elim
  refine ⟨⟨fn, hf, hn, by rw [hb]; rfl⟩, fun E h l vs ob v h' H F hr hob => ?_, main⟩
  cases hc : pureC body l h with
  | fail => rw [hc] at hr; cases hr
  | heap a b c => exfalso; unfold pureC at hc; cases hbd : body (roL h l) <;> rw [hbd] at hc <;> cases hc
  | pure ob' v' =>
    rw [hc] at hr
    simp only [AR.out, Option.some.injEq, Prod.mk.injEq] at hr
    obtain ⟨rfl, rfl, rfl⟩ := hr
    refine (main E h l vs _ _ H F hc hob).mono ?_
    rintro e w' ⟨u, rfl, hu, hS⟩
    obtain ⟨H', X'⟩ := HR_same H hS
    exact ⟨u, _, rfl, rfl, X', H', conc_mk hu⟩

/-! ### A value told otherwise -/
theorem VR_weak {a a2 : AV} {v : Value} (hv : VR E a v) (hc : Cv [] a2 a) (hn : nref a2) : VR E a2 v :=
  VR.view (E := E.via []) (E' := E) (fun k hk => ⟨hk, rfl⟩) (Cv_sound hv _ hc) hn
theorem FR_weak {l l2 : List AV} {vs : Array Value} (F : FR E l vs) (hc : CvL [] l2 l) (hn : nrefL l2) : FR E l2 vs := by
  obtain ⟨c1, c2⟩ := CvL_get hc
  refine ⟨c1.trans F.1, fun i a v ha hv => ?_⟩
  have hi : i < l.length := by
    rw [← c1]
    rcases Nat.lt_or_ge i l2.length with h' | h'
    · exact h'
    · rw [List.getElem?_eq_none h'] at ha; cases ha
  exact VR_weak (F.2 i _ v (List.getElem?_eq_getElem hi) hv) (c2 i a _ ha (List.getElem?_eq_getElem hi)) (nrefL_get hn ha)

/-! ### Lists of elements -/
def gd {α : Type} [Inhabited α] (l : List α) (i : Nat) : α := l.getD i default
theorem gd_app_lt {α : Type} [Inhabited α] {l m : List α} {i : Nat} (h : i < l.length) : gd (l ++ m) i = gd l i := by
  simp [gd, List.getElem?_append_left h]
theorem gd_app_ge {α : Type} [Inhabited α] {l m : List α} {i : Nat} (h : l.length ≤ i) : gd (l ++ m) i = gd m (i - l.length) := by
  simp [gd, List.getElem?_append_right h]
/-- The rows of a list of elements. -/
def enR {α : Type} [Inhabited α] (f : α → List AV) (l : List α) : Nat → Nat → AV := fun x y => getL (f (gd l x)) y
/-- The elements that rows tell. -/
def deR {α : Type} (g : (Nat → AV) → α) (n : Nat) (c : Nat → Nat → AV) : List α := (List.range n).map fun x => g (c x)
theorem deR_length {α : Type} {g : (Nat → AV) → α} {n : Nat} {c : Nat → Nat → AV} : (deR g n c).length = n := by simp [deR]
theorem deR_get {α : Type} [Inhabited α] {g : (Nat → AV) → α} {n : Nat} {c : Nat → Nat → AV} {x : Nat} (hx : x < n) : gd (deR g n c) x = g (c x) := by
  simp [gd, deR, hx]
theorem deR_enR {α : Type} [Inhabited α] {f : α → List AV} {g : (Nat → AV) → α} (hfg : ∀ a, g (getL (f a)) = a) (l : List α) : deR g l.length (enR f l) = l := by
  apply List.ext_getElem?
  intro i
  simp only [deR, List.getElem?_map]
  rcases Nat.lt_or_ge i l.length with hi | hi
  · rw [List.getElem?_range hi, List.getElem?_eq_getElem hi]
    simp only [Option.map_some, Option.some.injEq]
    show g (getL (f (gd l i))) = l[i]
    rw [hfg]
    simp [gd, hi]
  · rw [List.getElem?_eq_none (by simpa using hi), List.getElem?_eq_none hi]; rfl
theorem enR_row {α : Type} [Inhabited α] {f : α → List AV} {l : List α} {x : Nat} : enR f l x = getL (f (gd l x)) := rfl
/-! ### Weaker values -/
theorem ro_wk {es n : Nat} {nl : Bool} {c c' : Nat → Nat → AV} (h : ∀ x y, x < n → y < es → WkV (c' x y) (c x y) ∧ nref (c' x y)) : WkV (.ro es n false c') (.ro es n nl c) := fun E u hv => by
  cases hv with
  | ro _ _ _ _ a cap hn hcm hnl hz us ha h1 hc hrf =>
    exact .ro es n false c' a cap hn hcm (fun h => by cases h) hz us ha h1 (fun x y hx hy => (h x y hx hy).1 E _ (hc x y hx hy)) fun x y hx hy => (h x y hx hy).2
theorem ro_wk0 {es es' : Nat} {nl : Bool} {c c' : Nat → Nat → AV} : WkV (.ro es 0 false c') (.ro es' 0 nl c) := fun E u hv => by
  cases hv with
  | ro _ _ _ _ a cap hn hcm hnl hz us ha h1 hc hrf =>
    exact .ro es 0 false c' a cap hn hcm (fun h => by cases h) hz (fun _ _ => undef) (fun h => by omega) (fun x y hx => by omega) (fun x y hx => by omega) fun x y hx => by omega
theorem agg_wk {l l' : List AV} (hl : l'.length = l.length) (h : ∀ i, i < l.length → WkV (getL l' i) (getL l i)) : WkV (.agg l') (.agg l) := fun E u hv => by
  cases hv with
  | agg _ vs hl0 h1 hh =>
    refine .agg l' vs (hl.trans hl0) h1 fun i a v ha hv => ?_
    have hi : i < l'.length := by
      rcases Nat.lt_or_ge i l'.length with h' | h'
      · exact h'
      · rw [List.getElem?_eq_none h'] at ha; cases ha
    rw [← getL_eq ha]
    exact h i (by omega) E v (hh i _ v (getL_some (by omega)) hv)
theorem FR_wk1 {l l2 : List AV} {vs : Array Value} {a a2 : AV} (h : WkV a2 a) (F : FR E (a :: l) vs) (hr : ∀ vs, FR E l vs → FR E l2 vs) : FR E (a2 :: l2) vs := by
  obtain ⟨vs⟩ := vs
  cases vs with
  | nil => have := F.1; simp at this
  | cons v vs =>
    have F1 : FR E l vs.toArray := ⟨by have := F.1; simp at this; simpa using this, fun i b w hb hw => F.2 (i + 1) b w (by simpa using hb) (by simpa using hw)⟩
    obtain ⟨q1, q2⟩ := hr _ F1
    refine ⟨by simp [q1], fun i b w hb hw => ?_⟩
    cases i with
    | zero => simp at hb hw; subst hb hw; exact h E _ (F.2 0 a _ rfl (by simp))
    | succ i => exact q2 i b w (by simpa using hb) (by simpa using hw)
/-! ### Leaves -/
def iA : AV → Int
  | .int _ n => n
  | _ => 0
def bA : AV → Bool
  | .bool b => b
  | _ => false
def sA : AV → ByteArray
  | .str s => s
  | _ => ByteArray.empty
def lA {α : Type} (g : (Nat → AV) → α) : AV → List α
  | .ro _ n _ c => deR g n c
  | _ => []
def iK (k : IntKind) : AV → Prop
  | .int k' _ => k' = k
  | _ => False
def bK : AV → Prop
  | .bool _ => True
  | _ => False
def sK : AV → Prop
  | .str _ => True
  | _ => False
/-- Rows whose cells are those of elements. -/
def Fit (k : (Nat → AV) → Prop) (n : Nat) (c : Nat → Nat → AV) : Prop := ∀ x, x < n → k (c x)
def lK (k : (Nat → AV) → Prop) (es : Nat) : AV → Prop
  | .ro es' n _ c => (n = 0 ∨ es' = es) ∧ Fit k n c
  | _ => False
def lE {α : Type} [Inhabited α] (f : α → List AV) (es : Nat) (l : List α) : AV := .ro es l.length false (enR f l)
theorem iK_wk {k : IntKind} {a : AV} (h : iK k a) : WkV (.int k (iA a)) a ∧ nref (AV.int k (iA a)) := by
  cases a <;> simp only [iK] at h
  subst h
  exact ⟨WkV_refl _, by simp only [nref]⟩
theorem bK_wk {a : AV} (h : bK a) : WkV (.bool (bA a)) a ∧ nref (AV.bool (bA a)) := by
  cases a <;> simp only [bK] at h
  exact ⟨WkV_refl _, by simp only [nref]⟩
theorem sK_wk {a : AV} (h : sK a) : WkV (.str (sA a)) a ∧ nref (AV.str (sA a)) := by
  cases a <;> simp only [sK] at h
  exact ⟨WkV_refl _, by simp only [nref]⟩
theorem lK_wk {α : Type} [Inhabited α] {f : α → List AV} {g : (Nat → AV) → α} {k : (Nat → AV) → Prop} {es : Nat} (hw : ∀ r, k r → ∀ y, y < es → WkV (getL (f (g r)) y) (r y) ∧ nref (getL (f (g r)) y)) {a : AV} (h : lK k es a) :
    WkV (.ro es (lA g a).length false (enR f (lA g a))) a ∧ nref (AV.ro es (lA g a).length false (enR f (lA g a))) := by
  cases a <;> simp only [lK] at h
  rename_i es' n nl c
  refine ⟨?_, by simp only [nref]⟩
  simp only [lA, deR_length]
  by_cases h0 : n = 0
  · subst h0; exact ro_wk0
  · obtain ⟨h1, h2⟩ := h
    rcases h1 with h1 | h1
    · exact absurd h1 h0
    · subst h1
      refine ro_wk fun x y hx hy => ?_
      have := hw _ (h2 x hx) y hy
      simp only [enR, deR_get hx]
      exact this
theorem Fit_enR {α : Type} [Inhabited α] {f : α → List AV} {k : (Nat → AV) → Prop} {n : Nat} {l : List α} (h : ∀ a, k (getL (f a))) : Fit k n (enR f l) := fun x _ => h _
def aL : AV → Nat → AV
  | .agg l => getL l
  | _ => fun _ => .top
def aK (z : Nat) (k : (Nat → AV) → Prop) : AV → Prop
  | .agg l => l.length = z ∧ k (getL l)
  | _ => False
theorem aK_wk {α : Type} {f : α → List AV} {g : (Nat → AV) → α} {k : (Nat → AV) → Prop} {z : Nat} {v : AV} (hw : ∀ r, k r → ∀ y, y < z → WkV (getL (f (g r)) y) (r y) ∧ nref (getL (f (g r)) y)) (hz : (f (g (aL v))).length = z) (hn : nrefL (f (g (aL v)))) (h : aK z k v) :
    WkV (.agg (f (g (aL v)))) v ∧ nref (.agg (f (g (aL v)))) := by
  cases v <;> simp only [aK] at h
  rename_i l
  obtain ⟨h1, h2⟩ := h
  refine ⟨agg_wk (by rw [hz, h1]) fun i hi => (hw _ h2 i (by omega)).1, by simp only [nref]; exact hn⟩
def LW (l2 l : List AV) : Prop := l2.length = l.length ∧ ∀ i, i < l.length → WkV (getL l2 i) (getL l i)
theorem LW_nil : LW [] [] := ⟨rfl, fun i hi => by simp at hi⟩
theorem LW_cons {a a2 : AV} {l l2 : List AV} (h : WkV a2 a) (hl : LW l2 l) : LW (a2 :: l2) (a :: l) := ⟨by simp [hl.1], fun i hi => by
  cases i with
  | zero => exact h
  | succ i => exact hl.2 i (by simpa using hi)⟩
theorem fn_wk {f : FuncId} {l l2 : List AV} (h : LW l2 l) : WkV (.fn f l2) (.fn f l) := fun E u hv => by
  cases hv with
  | fn _ _ vs hl hh =>
    refine .fn f l2 vs (h.1.trans hl) fun i a v ha hv => ?_
    have hi : i < l2.length := by
      rcases Nat.lt_or_ge i l2.length with h' | h'
      · exact h'
      · rw [List.getElem?_eq_none h'] at ha; cases ha
    rw [← getL_eq ha]
    exact h.2 i (by have := h.1; omega) E v (hh i _ v (getL_some (by have := h.1; omega)) hv)
/-- What lies behind a pointer that is only read. -/
def rG : AV → Nat → AV
  | .rptr _ _ i j c => fun y => c i (j + y)
  | _ => fun _ => .top
def rK (z : Nat) (k : (Nat → AV) → Prop) : AV → Prop
  | .rptr es n i j c => i < n ∧ j + z ≤ es ∧ k (fun y => c i (j + y))
  | _ => False
theorem rK_wk {α : Type} [Inhabited α] {f : α → List AV} {g : (Nat → AV) → α} {k : (Nat → AV) → Prop} {z : Nat} {v : AV} (hw : ∀ r, k r → ∀ y, y < z → WkV (getL (f (g r)) y) (r y) ∧ nref (getL (f (g r)) y)) (h : rK z k v) :
    WkV (.rptr z 1 0 0 (enR f [g (rG v)])) v ∧ nref (.rptr z 1 0 0 (enR f [g (rG v)])) := by
  cases v <;> simp only [rK] at h
  rename_i es n i j c
  obtain ⟨h1, h2, h3⟩ := h
  refine ⟨fun E u hv => ?_, by simp only [nref]⟩
  cases hv with
  | rptr _ _ _ _ k' o _ us hp hu h1' hc hrf =>
    rw [show o + i * es + j = (o + i * es + j) + 0 * z + 0 from by omega]
    have hcell : ∀ y, y < z → getL (f (g (rG (.rptr es n i j c)))) y = getL (f (g (fun y => c i (j + y)))) y := fun y _ => rfl
    refine .rptr z 1 0 0 k' (o + i * es + j) _ (fun _ y => us i (j + y)) hp (fun x y hx hy => ?_) (fun x y hx hy => h1' i (j + y) h1 (by omega)) (fun x y hx hy => ?_) (fun x y hx hy => ?_)
    · have := hu i (j + y) h1 (by omega)
      rw [← this]; congr 2
      obtain rfl : x = 0 := by omega
      omega
    · obtain rfl : x = 0 := by omega
      exact (hw _ h3 y hy).1 E _ (hc i (j + y) h1 (by omega))
    · obtain rfl : x = 0 := by omega
      exact (hw _ h3 y hy).2
theorem gd_one {α : Type} [Inhabited α] {a : α} : gd [a] 0 = a := rfl
/-! ### Conditions -/
def inb (q : Int) (n : Nat) : Bool := decide (0 ≤ q) && decide (q < n)
theorem inb_iff {q : Int} {n : Nat} : inb q n = true ↔ 0 ≤ q ∧ q < n ∧ q.toNat < n := by
  simp only [inb, Bool.and_eq_true, decide_eq_true_eq]; omega
def capb (by_ n : Nat) : Bool := decide ((n : Int) * by_ ≤ 140737488355328) && decide (n ≤ 140737488355328)
theorem capb_iff {by_ n : Nat} : capb by_ n = true ↔ (n : Int) * by_ ≤ 140737488355328 ∧ n ≤ 140737488355328 := by
  simp only [capb, Bool.and_eq_true, decide_eq_true_eq]
def slb (lo hi : Int) (n : Nat) : Bool := decide (0 ≤ lo) && decide (lo ≤ hi) && decide (hi ≤ n)
theorem slb_iff {lo hi : Int} {n : Nat} : slb lo hi n = true ↔ 0 ≤ lo ∧ lo ≤ hi ∧ hi ≤ n := by
  simp only [slb, Bool.and_eq_true, decide_eq_true_eq, and_assoc]
theorem ne0_iff {y : Int} : (!bEq y 0) = true ↔ y ≠ 0 := by
  simp [bEq]
theorem bLe_iff {x y : Int} : bLe x y = true ↔ x ≤ y := by simp [bLe]
/-! ### Own rows of typed lists -/
theorem app_row {α : Type} [Inhabited α] {f : α → List AV} (L M : List α) {es : Nat} {c d : Nat → Nat → AV} (h1 : ∀ x y, x < L.length → y < es → enR f L x y = c x y) (h2 : ∀ x y, x < M.length → y < es → enR f M x y = d x y) :
    ∀ x y, x < (L ++ M).length → y < es → enR f (L ++ M) x y = appC L.length c d x y := by
  intro x y hx hy
  rw [List.length_append] at hx
  simp only [appC]
  split
  · rename_i h
    rw [← h1 x y h hy]
    simp only [enR, gd_app_lt h]
  · rename_i h
    rw [← h2 (x - L.length) y (by omega) hy]
    simp only [enR, gd_app_ge (show L.length ≤ x by omega)]
theorem lit_row {α : Type} [Inhabited α] {f : α → List AV} {es : Nat} (L : List α) {l : List AV} (hz : ∀ a ∈ L, (f a).length = es) (hl : l = L.flatMap f) : ∀ x y, x < L.length → y < es → enR f L x y = litC es l x y := by
  subst hl
  induction L with
  | nil => intro x y hx; simp at hx
  | cons a L ih =>
    intro x y hx hy
    have ha := hz a (List.mem_cons_self ..)
    have gapp : ∀ (u v : List AV) (k : Nat), getL (u ++ v) (u.length + k) = getL v k := by
      intro u v k
      induction u with
      | nil => simp
      | cons b u ih => rw [show (b :: u).length + k = (u.length + k) + 1 from by simp; omega]; simpa [getL] using ih
    have glt : ∀ (u v : List AV) (k : Nat), k < u.length → getL (u ++ v) k = getL u k := by
      intro u v k hk
      induction u generalizing k with
      | nil => simp at hk
      | cons b u ih => cases k with
        | zero => rfl
        | succ k => simpa [getL] using ih k (by simpa using hk)
    cases x with
    | zero =>
      simp only [enR, litC, List.flatMap_cons, Nat.zero_mul, Nat.zero_add]
      rw [glt _ _ _ (by omega)]
      rfl
    | succ x =>
      have := ih (fun b hb => hz b (List.mem_cons_of_mem _ hb)) x y (by simpa using hx) hy
      simp only [enR, litC, List.flatMap_cons] at this ⊢
      rw [show (x + 1) * es + y = (f a).length + (x * es + y) from by rw [ha, Nat.add_mul]; omega, gapp, ← this]
      rfl
theorem nref_getL {l : List AV} (h : nrefL l) (y : Nat) : nref (getL l y) := nrefL_getL h y
theorem CvB_row {α : Type} [Inhabited α] {f : α → List AV} {μ : Mu} {e es n : Nat} {m : Nat} {L : List α} {c : Nat → Nat → AV} (hr : ∀ a, nrefL (f a)) (hn : L.length = n) (h : ∀ x y, x < L.length → y < es → enR f L x y = c x y) :
    CvB μ (.row e es L.length (enR f L)) (some m) (.row e es n c) := by
  simp only [CvB]
  refine ⟨trivial, trivial, Nat.le_of_eq hn, fun x y hx hy => ?_⟩
  rw [← h x y hx hy]
  exact Cv_refl _ (nref_getL (hr _) y)
theorem CvB_none {α : Type} [Inhabited α] {f : α → List AV} {μ : Mu} {e es : Nat} {b : ABlk} : CvB μ (.row e es ([] : List α).length (enR f [])) none b := by
  cases b <;> simp only [CvB, List.length_nil]
theorem CvB_dead {μ : Mu} {m : Option Nat} {b : ABlk} : CvB μ .dead m b := by cases b <;> simp only [CvB]
theorem ro_row {α : Type} [Inhabited α] {f : α → List AV} {μ : Mu} {es n : Nat} {nl : Bool} {L : List α} {c : Nat → Nat → AV} (hn : L.length = n) (h : ∀ x y, x < L.length → y < es → enR f L x y = c x y) : Cv μ (.ro es L.length false (enR f L)) (.ro es n nl c) := by
  simp only [Cv]
  exact ⟨.inr trivial, hn, (fun h => by cases h), h⟩
theorem g_iff {g b : Bool} : (bif g then b else true) = true ↔ (g = true → b = true) := by cases g <;> simp
theorem cond_t {α : Type} {c : Bool} {A B : Option α} {x : α} (h : c = true) (H : (bif c then A else B) = some x) : A = some x := by rw [h] at H; exact H
theorem cond_f {α : Type} {c : Bool} {A B : Option α} {x : α} (h : c = false) (H : (bif c then A else B) = some x) : B = some x := by rw [h] at H; exact H
theorem condM {c : Operand} {x y : Code} {K : Kt} {t : List AV} {b : Bool} (hr : rho t c = .bool b) (ho : og t c) (h1 : b = true → Mean P x K t h) (h2 : b = false → Mean P y K t h) : Mean P (.cond c x y) K t h := by
  intro E a Q H F hd hQ
  have hv := rho_sound F ho
  rw [hr] at hv
  have hv := VR_bool hv
  cases b with
  | true => exact wp_cond_true hv (h1 rfl E a Q H F hd hQ)
  | false => exact wp_cond_false hv (h2 rfl E a Q H F hd hQ)
theorem condM' {c : Operand} {x y : Code} {K : Kt} {t : List AV} {b : Bool} (hr : rho t c = .bool b) (ho : og t c) (h2 : b = false → Mean P y K t h) (h1 : b = true → Mean P x K t h) : Mean P (.cond c x y) K t h := condM hr ho h1 h2
theorem Cv_tup {μ : Mu} {l l' : List AV} (h : CvL μ l l') : Cv μ (.tup l) (.tup l') := by simp only [Cv]; exact h
theorem Cv_agg {μ : Mu} {l l' : List AV} (h : CvL μ l l') : Cv μ (.agg l) (.agg l') := by simp only [Cv]; exact h
theorem CvL_nil {μ : Mu} : CvL μ [] [] := by simp only [CvL]
theorem CvL_cons {μ : Mu} {a b : AV} {l m : List AV} (h1 : Cv μ a b) (h2 : CvL μ l m) : CvL μ (a :: l) (b :: m) := by simp only [CvL]; exact ⟨h1, h2⟩
theorem Cv_nf {μ : Mu} {a : AV} (h : nref a) : Cv μ a a := Cv_refl a h
theorem Cv_int {μ : Mu} {k : IntKind} {n : Int} : Cv μ (.int k n) (.int k n) := by simp only [Cv, and_self]
theorem Cv_bool {μ : Mu} {b : Bool} : Cv μ (.bool b) (.bool b) := by simp only [Cv]
theorem Cv_str {μ : Mu} {b : ByteArray} : Cv μ (.str b) (.str b) := by simp only [Cv]
theorem Cv_ronil {α : Type} {μ : Mu} {es es' : Nat} {nl : Bool} {c c' : Nat → Nat → AV} : Cv μ (.ro es ([] : List α).length false c) (.ro es' 0 nl c') := by
  simp only [Cv, List.length_nil]
  exact ⟨.inl trivial, trivial, (fun h => by cases h), fun x y hx => by omega⟩
mutual
theorem nr_nref {n : Nat} : ∀ {a : AV}, nref a → nr n a
  | .top, _ => by simp only [nr]
  | .bool _, _ => by simp only [nr]
  | .int _ _, _ => by simp only [nr]
  | .str _, _ => by simp only [nr]
  | .nilp, _ => by simp only [nr]
  | .ptr _ _ _ _, h => by simp only [nref] at h
  | .rptr _ _ _ _ _, _ => by simp only [nr]
  | .sl _ _ _ _ _, h => by simp only [nref] at h
  | .isl _ _ _ _ _ _, h => by simp only [nref] at h
  | .csl _ _ _ _ _, h => by simp only [nref] at h
  | .ro _ _ _ _, _ => by simp only [nr]
  | .emp, _ => by simp only [nr]
  | .agg l, h => by simp only [nr]; exact nrL_nref (by simpa only [nref] using h)
  | .tup l, h => by simp only [nr]; exact nrL_nref (by simpa only [nref] using h)
  | .fn _ l, h => by simp only [nr]; exact nrL_nref (by simpa only [nref] using h)
  | .nilf, _ => by simp only [nr]
  | .opt _ v, h => by simp only [nr]; exact nr_nref (by simpa only [nref] using h)
  | .ub, _ => by simp only [nr]
  | .val _, _ => by simp only [nr]
theorem nrL_nref {n : Nat} : ∀ {l : List AV}, nrefL l → nrL n l
  | [], _ => by simp only [nrL]
  | a :: l, h => by simp only [nrefL] at h; simp only [nrL]; exact ⟨nr_nref h.1, nrL_nref h.2⟩
end
theorem nrR_lit {n z x y : Nat} {l : List AV} (h : nrefL l) : nr n (litC z l x y) := nr_nref (nrefL_getL h _)
theorem nrR_en {α : Type} [Inhabited α] {n x y : Nat} {f : α → List AV} {L : List α} (h : ∀ a, nrefL (f a)) : nr n (enR f L x y) := nr_nref (nrefL_getL (h _) _)
theorem nrR_app {n k x y : Nat} {c d : Nat → Nat → AV} (h1 : ∀ x y, nr n (c x y)) (h2 : ∀ x y, nr n (d x y)) : nr n (appC k c d x y) := by
  simp only [appC]; split
  · exact h1 _ _
  · exact h2 _ _
theorem upc_row {α : Type} [Inhabited α] {f : α → List AV} (L : List α) (i j : Nat) (a : α) {es : Nat} {c : Nat → Nat → AV} {vs : List AV} (h1 : ∀ x y, x < L.length → y < es → enR f L x y = c x y)
    (hv : ∀ y, y < es → getL (f a) y = if j ≤ y ∧ y < j + vs.length then getL vs (y - j) else getL (f (gd L i)) y) : ∀ x y, x < (L.set i a).length → y < es → enR f (L.set i a) x y = upc c i j vs x y := by
  intro x y hx hy
  rw [List.length_set] at hx
  simp only [upc]
  by_cases hxi : x = i
  · subst hxi
    have hg : gd (L.set x a) x = a := by simp [gd, hx]
    simp only [enR, hg, true_and]
    rw [hv y hy]
    split
    · rfl
    · rw [← h1 x y hx hy]; rfl
  · have hg : gd (L.set i a) x = gd L x := by simp [gd, List.getElem?_set_ne (Ne.symm hxi)]
    rw [if_neg (by rintro ⟨h, _⟩; exact hxi h), ← h1 x y hx hy]
    simp only [enR, hg]
theorem nfR_upc {c : Nat → Nat → AV} {i j x y : Nat} {vs : List AV} (h1 : ∀ x y, nref (c x y)) (h2 : nrefL vs) : nref (upc c i j vs x y) := by
  simp only [upc]; split
  · exact nrefL_getL h2 _
  · exact h1 _ _
theorem nrR_upc {n : Nat} {c : Nat → Nat → AV} {i j x y : Nat} {vs : List AV} (h1 : ∀ x y, nr n (c x y)) (h2 : nrefL vs) : nr n (upc c i j vs x y) := by
  simp only [upc]; split
  · exact nr_nref (nrefL_getL h2 _)
  · exact h1 _ _
theorem nfR_lit {z x y : Nat} {l : List AV} (h : nrefL l) : nref (litC z l x y) := nrefL_getL h _
theorem nfR_en {α : Type} [Inhabited α] {x y : Nat} {f : α → List AV} {L : List α} (h : ∀ a, nrefL (f a)) : nref (enR f L x y) := nrefL_getL (h _) _
theorem nfR_app {k x y : Nat} {c d : Nat → Nat → AV} (h1 : ∀ x y, nref (c x y)) (h2 : ∀ x y, nref (d x y)) : nref (appC k c d x y) := by
  simp only [appC]; split
  · exact h1 _ _
  · exact h2 _ _
theorem nilR_t {n : Nat} : nilR n true = some true := rfl
theorem nilR_0 : nilR 0 false = none := rfl
theorem nilR_s {n : Nat} : nilR (n + 1) false = some false := rfl
theorem nilR_isEmpty {α : Type} {l : List α} : nilR l.length l.isEmpty = some l.isEmpty := by cases l <;> rfl
theorem genC_eq (body : List AV → Nat → AR) (l : List AV) (h : List ABlk) : genC body l h = genR (nrefL l) h (body l h.length) := rfl
theorem sub_enR0 {c : Nat → Nat → AV} : subC 0 c = c := by funext x y; simp [subC]
theorem sub_enR {α : Type} [Inhabited α] {f : α → List AV} {l : List α} {k : Nat} : subC k (enR f l) = enR f (l.drop k) := by
  funext x y
  simp [subC, enR, gd]
/-- Rows appended. -/
theorem app_enR {α : Type} [Inhabited α] {f : α → List AV} {l m : List α} {x y : Nat} (hx : x < l.length + m.length) : enR f (l ++ m) x y = appC l.length (enR f l) (enR f m) x y := by
  simp only [enR, appC]
  by_cases h : x < l.length
  · rw [if_pos h, gd_app_lt h]
  · rw [if_neg h, gd_app_ge (by omega)]
theorem lit_enR {α : Type} [Inhabited α] {f : α → List AV} {a : α} {z y : Nat} (x : Nat) (hx : x < 1) : enR f [a] x y = litC z (f a) x y := by
  obtain rfl : x = 0 := by omega
  simp [enR, litC, gd]
end Go.Am

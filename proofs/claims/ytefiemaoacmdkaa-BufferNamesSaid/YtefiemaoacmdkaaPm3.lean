/-
  The abstract machine, text 3: one operation, whatever it is. calls, all operations, regions in the order of the text. every operation, and a region in the order of the text. regions in the order of the text, code, the loops' rule.
-/
import Derived.Test.YtefiemaoacmdkaaPm2
import Derived.Laws.BytesArg
import Derived.Lib.ConvBytes
import Derived.MapKept
namespace Go.Am
set_option linter.unusedVariables false
variable {P:Program} {E:Env} {h:List ABlk}

/-! ### Frames -/
def strip:AV->AV
 | .opt _ v=>v
 | .top=>.top
 | .bool b=>.bool b
 | .int k n=>.int k n
 | .str s=>.str s
 | .nilp=>.nilp
 | .ptr b es i j=>.ptr b es i j
 | .rptr es n i j c=>.rptr es n i j c
 | .sl b es i n nl=>.sl b es i n nl
 | .isl b es i j z n=>.isl b es i j z n
 | .csl b es i n c=>.csl b es i n c
 | .ro es n nl c=>.ro es n nl c
 | .emp=>.emp
 | .agg l=>.agg l
 | .tup l=>.tup l
 | .fn f c=>.fn f c
 | .mfn f c=>.mfn f c
 | .nilf=>.nilf
 | .ub=>.ub
 | .val v=>.val v
 | .mp m=>.mp m
def optOk:AV->Prop
 | .opt g _=>g=true
 | .top=>True
 | .bool _=>True
 | .int _ _=>True
 | .str _=>True
 | .nilp=>True
 | .ptr _ _ _ _=>True
 | .rptr _ _ _ _ _=>True
 | .sl _ _ _ _ _=>True
 | .isl _ _ _ _ _ _=>True
 | .csl _ _ _ _ _=>True
 | .ro _ _ _ _=>True
 | .emp=>True
 | .agg _=>True
 | .tup _=>True
 | .fn _ _=>True
 | .mfn _ _=>True
 | .nilf=>True
 | .ub=>True
 | .val _=>True
 | .mp _=>True
theorem strip_VR {a:AV} {v:Value} (ha:VR E a v) (ho:optOk a):VR E (strip a) v:=by
 cases ha with
 | opt_f a=>exact absurd ho (by simp [optOk])
 | opt_t a v hv=>exact hv
 | _=>constructor<;>assumption

def FR (E:Env) (t:List AV) (m:Array Value):Prop:=t.length=m.size/\∀ (i:Nat) (a:AV) (v:Value),t[i]? = some a->m[i]? = some v->VR E a v
theorem getL_none {l:List AV} {i:Nat} (hi:l.length <= i):getL l i = .top:=by
 induction l generalizing i with
 | nil=>rfl
 | cons a l ih =>
  cases i with
  | zero=>simp at hi
  | succ i=>exact ih (by simpa using hi)
theorem FR_get {t:List AV} {m:Array Value} (F:FR E t m) (i:Nat):VR E (getL t i) (m.getD i undef):=by
 rcases Nat.lt_or_ge i t.length with hi|hi
 ·have h2:i < m.size:=by rw [← F.1];exact hi
  have h3:=F.2 i _ _ (getL_some hi) (Array.getElem?_eq_getElem h2)
  rw [show m.getD i undef=m[i] from by simp [h2]]
  exact h3
 ·rw [getL_none hi];exact .top _
theorem FR_mono {E':Env} (K:Keep E E') {t:List AV} {m:Array Value} (F:FR E t m):FR E' t m:=⟨F.1,fun i a v h1 h2=>(F.2 i a v h1 h2).mono K⟩
theorem setL_length (l:List AV) (i:Nat) (v:AV):(setL l i v).length=l.length:=by
 induction l generalizing i with
 | nil=>rfl
 | cons a l ih=>cases i<;>simp [setL,ih]
theorem setL_get (l:List AV) (d:Nat) (v:AV) (i:Nat):(setL l d v)[i]? = if i=d/\d < l.length then some v else l[i]?:=by
 induction l generalizing d i with
 | nil=>simp [setL]
 | cons a l ih =>
  cases d with
  | zero=>cases i<;>simp [setL]
  | succ d=>cases i with
   | zero=>simp [setL]
   | succ i=>simp [setL,ih]
theorem FR_set {t:List AV} {m:Array Value} (F:FR E t m) {a:AV} {v:Value} (hv:VR E a v) (d:Nat):FR E (setL t d a) (m.setIfInBounds d v):=by
 refine ⟨by rw [setL_length,F.1];simp,fun i a' v' h1 h2=>?_⟩
 rw [setL_get] at h1
 rw [Array.getElem?_setIfInBounds] at h2
 by_cases hi:d=i
 ·subst hi
  rw [if_pos rfl] at h2
  by_cases hd:d < m.size
  ·rw [if_pos hd] at h2
   rw [if_pos ⟨rfl,by rw [F.1];exact hd⟩] at h1
   injection h1 with h1;injection h2 with h2
   subst h1 h2;exact hv
  ·rw [if_neg hd] at h2;cases h2
 ·rw [if_neg hi] at h2
  rw [if_neg (by rintro ⟨rfl,_⟩;exact hi rfl)] at h1
  exact F.2 i a' v' h1 h2
def setT (t:List AV) (d:Option Nat) (v:AV):List AV:=match d with
 | some d=>setL t d v
 | none=>t
theorem FR_put {t:List AV} {a:Act} (F:FR E t a.tmps) {x:AV} {v:Value} (hv:VR E x v) (d:Option Nat):FR E (setT t d x) (a.put d v).tmps:=by
 cases d with
 | none=>exact F
 | some d=>exact FR_set F hv d

def rho (t:List AV):Operand->AV
 | .tmp i=>strip (getL t i)
 | .const v=>absC v
 | .global _=>.top
 | .func f=>.fn f []
def og (t:List AV):Operand->Prop
 | .tmp i=>optOk (getL t i)
 | .const _=>True
 | .global _=>True
 | .func _=>True
theorem rho_sound {t:List AV} {a:Act} (F:FR E t a.tmps) {x:Operand} (ho:og t x):VR E (rho t x) (a.eval x):=by
 cases x with
 | tmp i=>exact strip_VR (FR_get F i) ho
 | const v=>exact absC_sound v
 | global g=>exact .top _
 | func f=>exact .fn f [] #[] rfl (fun i a v h=>by simp at h)
def ogL (t:List AV):List Operand->Prop
 | []=>True
 | x::r=>og t x/\ogL t r
def ogP (t:List AV):List (Nat × Operand)->Prop
 | []=>True
 | (_,x)::r=>og t x/\ogP t r
def ogO (t:List AV):Option Operand->Prop
 | none=>True
 | some x=>og t x
theorem ogP_mem {t:List AV} {l:List (Nat × Operand)} (ho:ogP t l):∀ x ∈ l,og t x.2:=by
 induction l with
 | nil=>simp
 | cons a l ih=>intro x hx;cases hx with
  | head=>exact ho.1
  | tail _ hx=>exact ih ho.2 x hx

/-! ### Comparisons -/
def tbool (P:Program) (t:TypeId):Bool:=match P.underlying t with|some .bool=>true|_=>false
def binI (op:BinOp) (k k':IntKind) (a b:Int):AR:=match op with
 | .shl=>.pure (0 <= b) (.int k (shlI k a b))
 | .shr=>.pure (0 <= b) (.int k (shrI k a b))
 | op=>bif k == k' then evInt op k a b else .fail
def binB (bt:Bool) (op:BinOp) (a b:Bool):AR:=match bt,op with
 | true,.eql=>.pure True (.bool (bB a b))
 | true,.neq=>.pure True (.bool (!bB a b))
 | _,_=>.fail
def binA (sh:Option (List Leaf)) (op:BinOp) (l m:List AV):AR:=match sh,op with
 | some sh,.eql=>eqRes false (eqSh sh l m)
 | some sh,.neq=>eqRes true (eqSh sh l m)
 | _,_=>.fail
def binN (sl:Option TypeId) (op:BinOp) (nl:Bool):AV->AR
 | .ro 0 0 true _=>match sl,op with
  | some _,.eql=>.pure True (.bool nl)
  | some _,.neq=>.pure True (.bool !nl)
  | _,_=>.fail
 | _=>.fail
def binU (sl:Option TypeId) (op:BinOp):AV->AR
 | .ro 0 0 true _=>match sl,op with
  | some _,.eql=>.pure True .ub
  | some _,.neq=>.pure True .ub
  | _,_=>.fail
 | _=>.fail
def binNR (sl:Option TypeId) (op:BinOp) (y:AV):Option Bool->AR
 | some b=>binN sl op b y
 | none=>binU sl op y
def evBin2 (bt:Bool) (sl:Option TypeId) (sh:Option (List Leaf)) (op:BinOp) (x y:AV):AR:=match x with
 | .int k a=>match y with
  | .int k' b=>binI op k k' a b
  | _=>.fail
 | .str a=>match y with
  | .str b=>evStr op a b
  | _=>.fail
 | .bool a=>match y with
  | .bool b=>binB bt op a b
  | _=>.fail
 | .agg l=>match y with
  | .agg m=>binA sh op l m
  | _=>.fail
 | .sl _ _ _ n nl=>binNR sl op y (nilR n nl)
 | .ro _ n nl _=>binNR sl op y (nilR n nl)
 | _=>.fail

def ShOk (P:Program) (sh:TypeId->Option (List Leaf)):Prop:=∀ t l,sh t=some l->∀ (E:Env) (x y:List AV) (vx vy:Array Value) (r:Bool),VR E (.agg x) (.agg vx)->VR E (.agg y) (.agg vy)->eqSh l x y=some r ->
 P.eqGuardType P.depth t=false/\∀ w,(Op.equal t (.agg vx) (.agg vy)).run P w = .ok r w

theorem VR_str {s:ByteArray} {v:Value} (hv:VR E (.str s) v):v = .string s:=by cases hv;rfl
theorem VR_bool {b:Bool} {v:Value} (hv:VR E (.bool b) v):v = .bool b:=by cases hv;rfl

theorem run_ite_pure {c:Prop} [Decidable c] {q:Sem Unit} {w:World} (hq:q.run P w = .ok () w):(if c then pure () else q:Sem Unit).run P w = .ok () w:=by
 split
 ·rfl
 ·exact hq
theorem run_eqGuard_plain {op:BinOp} {t:TypeId} {x y:Operand} {a b:Value} (hn:∀ l m,¬ (a = .agg l/\b = .agg m)) (hi:¬ (a = .nilIface/\b = .nilIface)) (w:World):(eqGuard op t x y a b).run P w = .ok () w:=by
 unfold eqGuard
 refine run_ite_pure ?_
 split
 ·exact absurd ⟨rfl,rfl⟩ hi
 ·exact absurd ⟨rfl,rfl⟩ (hn _ _)
 ·rfl

theorem equal_slice {t e:TypeId} {a:Option Addr} {n c:Nat} (ht:P.underlying t=some (.slice e)) (w:World):(Op.equal t (.slice a n c) (.slice none 0 0)).run P w = .ok a.isNone w:=by
 unfold Op.equal Op.maxDepth Op.equalIn
 cases a<;>simp [run_underlying ht]
theorem equal_bool {t:TypeId} {a b:Bool} (ht:P.underlying t=some .bool) (w:World):(Op.equal t (.bool a) (.bool b)).run P w = .ok (a == b) w:=by
 unfold Op.equal Op.maxDepth Op.equalIn
 simp [run_underlying ht]

theorem bin_sound {sh:TypeId->Option (List Leaf)} (S:ShOk P sh) {op:BinOp} {t:TypeId} {x y v:AV} {xo yo:Operand} {u1 u2:Value} {ob:Prop} (hx:VR E x u1) (hy:VR E y u2)
  (hr:evBin2 (tbool P t) (tslice P t) (sh t) op x y = .pure ob v) (hob:ob) :
  ∃ r,(∀ W,(do eqGuard op t xo yo u1 u2;binOp op t u1 u2:Sem Value).run P W = .ok r W)/\VR E v r:=by
 have nilc:∀ (nl:Bool) (a:Option Addr) (n c:Nat),u1 = .slice a n c->nl=a.isNone->binN (tslice P t) op nl y = .pure ob v ->
   ∃ r,(∀ W,(do eqGuard op t xo yo u1 u2;binOp op t u1 u2:Sem Value).run P W = .ok r W)/\VR E v r:=by
  rintro nl a n c rfl rfl hr
  unfold binN at hr
  split at hr
  ·rename_i c'
   cases hy with
   | ro es n nl c a' cap hn hcm hnl hz u ha h1 hc hrf =>
   have ha:a'=none:=hnl rfl
   subst ha
   have hcap:cap=0:=hz rfl
   subst hcap
   split at hr
   ·rename_i e hs
    injection hr with hr1 hr2;subst hr2
    refine ⟨.bool a.isNone,fun W=>?_,.bool _⟩
    rw [Sem.run_bind,run_eqGuard_plain (by rintro l m ⟨h,_⟩;cases h) (by rintro ⟨h,_⟩;cases h)]
    simp only [Result.andThen_ok,binOp,Sem.run_bind,equal_slice (und_of_tslice hs),Sem.run_pure]
   ·rename_i e hs
    injection hr with hr1 hr2;subst hr2
    refine ⟨.bool !a.isNone,fun W=>?_,.bool _⟩
    rw [Sem.run_bind,run_eqGuard_plain (by rintro l m ⟨h,_⟩;cases h) (by rintro ⟨h,_⟩;cases h)]
    simp only [Result.andThen_ok,binOp,Sem.run_bind,equal_slice (und_of_tslice hs),Sem.run_pure]
   ·cases hr
  ·cases hr
 have nilr:∀ (n:Nat) (nl:Bool) (a:Option Addr) (cap:Nat),u1 = .slice a n cap->n <= cap->(nl=true->a=none)->(a=none->cap=0)->binNR (tslice P t) op y (nilR n nl) = .pure ob v ->
   ∃ r,(∀ W,(do eqGuard op t xo yo u1 u2;binOp op t u1 u2:Sem Value).run P W = .ok r W)/\VR E v r:=by
  intro n nl a cap hu1 hn hnl hz hr
  subst hu1
  cases hq:nilR n nl with
  | some b =>
   rw [hq] at hr
   refine nilc b a n cap rfl ?_ hr
   unfold nilR at hq
   split at hq
   ·injection hq with hq;subst hq
    rw [hnl rfl];rfl
   ·split at hq
    ·cases hq
    ·injection hq with hq;subst hq
     cases a with
     | none=>have:=hz rfl;omega
     | some a=>rfl
  | none =>
   rw [hq] at hr
   simp only [binNR] at hr
   unfold binU at hr
   split at hr
   ·rename_i c'
    cases hy with
    | ro es' n' nl' c a' cap' hn' hcm' hnl' hz' u' ha' h1' hc' hrf' =>
    have ha:a'=none:=hnl' rfl
    subst ha
    have hcap:cap'=0:=hz' rfl
    subst hcap
    split at hr
    ·rename_i e hs
     injection hr with hr1 hr2;subst hr2
     refine ⟨.bool a.isNone,fun W=>?_,.ub _⟩
     rw [Sem.run_bind,run_eqGuard_plain (by rintro l m ⟨h,_⟩;cases h) (by rintro ⟨h,_⟩;cases h)]
     simp only [Result.andThen_ok,binOp,Sem.run_bind,equal_slice (und_of_tslice hs),Sem.run_pure]
    ·rename_i e hs
     injection hr with hr1 hr2;subst hr2
     refine ⟨.bool !a.isNone,fun W=>?_,.ub _⟩
     rw [Sem.run_bind,run_eqGuard_plain (by rintro l m ⟨h,_⟩;cases h) (by rintro ⟨h,_⟩;cases h)]
     simp only [Result.andThen_ok,binOp,Sem.run_bind,equal_slice (und_of_tslice hs),Sem.run_pure]
    ·cases hr
   ·cases hr
 have plain:(∀ l m,¬ (u1 = .agg l/\u2 = .agg m))->¬ (u1 = .nilIface/\u2 = .nilIface)->(∃ r,(∀ W,(binOp op t u1 u2).run P W = .ok r W)/\VR E v r) ->
   ∃ r,(∀ W,(do eqGuard op t xo yo u1 u2;binOp op t u1 u2:Sem Value).run P W = .ok r W)/\VR E v r:=by
  rintro h1 h2 ⟨r,h3,h4⟩
  refine ⟨r,fun W=>?_,h4⟩
  rw [Sem.run_bind,run_eqGuard_plain h1 h2,Result.andThen_ok,h3]
 cases hx with
 | int k a =>
  simp only [evBin2] at hr
  split at hr
  ·rename_i k' b
   obtain rfl:=VR_int hy
   refine plain (by rintro l m ⟨h,_⟩;cases h) (by rintro ⟨h,_⟩;cases h) ?_
   unfold binI at hr
   split at hr
   ·injection hr with h1 h2;subst h1 h2;exact ⟨_,shl_sound hob,.int _ _⟩
   ·injection hr with h1 h2;subst h1 h2;exact ⟨_,shr_sound hob,.int _ _⟩
   ·rename_i n1 n2
    cases hk:(k == k') with
    | false=>rw [hk] at hr;cases hr
    | true =>
     rw [hk] at hr
     have hk':k=k':=by simpa using hk
     subst hk'
     exact int_sound ⟨n1,n2⟩ hr hob
  ·cases hr
 | str a =>
  simp only [evBin2] at hr
  split at hr
  ·obtain rfl:=VR_str hy
   exact plain (by rintro l m ⟨h,_⟩;cases h) (by rintro ⟨h,_⟩;cases h) (str_sound hr hob)
  ·cases hr
 | bool a =>
  simp only [evBin2] at hr
  split at hr
  ·obtain rfl:=VR_bool hy
   refine plain (by rintro l m ⟨h,_⟩;cases h) (by rintro ⟨h,_⟩;cases h) ?_
   have hu:∀ b,tbool P t=b->b=true->P.underlying t=some .bool:=by
    rintro b rfl h1
    unfold tbool at h1
    split at h1
    ·assumption
    ·cases h1
   unfold binB at hr
   split at hr
   ·rename_i hb
    injection hr with h1 h2;subst h2
    exact ⟨_,fun W=>by simp only [binOp,Sem.run_bind,equal_bool (hu _ hb rfl),Result.andThen_ok,Sem.run_pure];rfl,.bool _⟩
   ·rename_i hb
    injection hr with h1 h2;subst h2
    exact ⟨_,fun W=>by simp only [binOp,Sem.run_bind,equal_bool (hu _ hb rfl),Result.andThen_ok,Sem.run_pure];rfl,.bool _⟩
   ·cases hr
  ·cases hr
 | agg l vs hl h1 hh =>
  simp only [evBin2] at hr
  split at hr
  ·rename_i m
   have hx:VR E (.agg l) (.agg vs):=.agg l vs hl h1 hh
   cases hy with
   | agg m ws hl' h1' hh' =>
   have hy:VR E (.agg m) (.agg ws):=.agg m ws hl' h1' hh'
   have key:∀ s r,sh t=some s->eqSh s l m=some r->(∀ W,(eqGuard op t xo yo (.agg vs) (.agg ws)).run P W = .ok () W)/\∀ W,(Op.equal t (.agg vs) (.agg ws)).run P W = .ok r W:=by
    intro s r hs he
    obtain ⟨g1,g2⟩:=S t s hs E l m vs ws r hx hy he
    refine ⟨fun W=>?_,g2⟩
    unfold eqGuard
    refine run_ite_pure ?_
    simp [program,Sem.run,g1]
   unfold binA at hr
   split at hr
   ·rename_i s hs
    cases he:eqSh s l m with
    | none=>rw [he] at hr;cases hr
    | some r =>
     rw [he] at hr
     injection hr with q1 q2;subst q2
     obtain ⟨g1,g2⟩:=key s r hs he
     exact ⟨_,fun W=>by simp only [Sem.run_bind,g1,Result.andThen_ok,binOp,g2,Sem.run_pure];rfl,.bool _⟩
   ·rename_i s hs
    cases he:eqSh s l m with
    | none=>rw [he] at hr;cases hr
    | some r =>
     rw [he] at hr
     injection hr with q1 q2;subst q2
     obtain ⟨g1,g2⟩:=key s r hs he
     exact ⟨_,fun W=>by simp only [Sem.run_bind,g1,Result.andThen_ok,binOp,g2,Sem.run_pure];rfl,.bool _⟩
   ·cases hr
  ·cases hr
 | sl b es i n nl a cap hn hcm hnl hz hc =>
  simp only [evBin2] at hr
  exact nilr n nl a cap rfl hn hnl hz hr
 | ro es n nl c a cap hn hcm hnl hz u ha h1 hc hrf =>
  simp only [evBin2] at hr
  exact nilr n nl a cap rfl hn hnl hz hr
 | _=>simp only [evBin2,reduceCtorEq] at hr

/-! ### Small operations -/
theorem un_sound {op:UnOp} {x v:AV} {u:Value} {ob:Prop} (hx:VR E x u) (hr:evUn op x = .pure ob v):∃ r,(∀ W,(Op.unary op u).run P W = .ok r W)/\VR E v r:=by
 unfold evUn at hr
 split at hr
 ·obtain rfl:=VR_int hx
  injection hr with h1 h2;subst h2
  exact ⟨_,fun W=>by simp [Op.unary,Op.intArith,wr],.int _ _⟩
 ·obtain rfl:=VR_bool hx
  injection hr with h1 h2;subst h2
  exact ⟨_,fun W=>by simp only [Op.unary,Sem.run_pure],.bool _⟩
 ·cases hr
def tany (P:Program) (t:TypeId):Option Bool:=(P.underlying t).map fun _=>true
theorem conv_sound {s d:TypeId} {x v:AV} {u:Value} {ob:Prop} (hx:VR E x u) (hr:evConv (tany P s) (tint P d) x = .pure ob v):∃ r,(∀ W,(convert s d u).run P W = .ok r W)/\VR E v r:=by
 unfold evConv at hr
 split at hr
 ·rename_i b k k' n hs hd
  obtain rfl:=VR_int hx
  injection hr with h1 h2;subst h2
  unfold tany at hs
  cases hu:P.underlying s with
  | none=>rw [hu] at hs;cases hs
  | some q =>
  have hd':P.underlying d=some (.int k):=by
   unfold tint at hd
   split at hd
   ·rename_i h';injection hd with hd;subst hd;exact h'
   ·cases hd
  refine ⟨.int k (wr k n),fun W=>?_,.int _ _⟩
  unfold convert
  simp only [Sem.run_bind,run_underlying hu,run_underlying hd',Result.andThen_ok]
  rfl
 ·cases hr
theorem index2_sound {t:TypeId} {x ix v:AV} {u ui:Value} {ob:Prop} (hx:VR E x u) (hi:VR E ix ui)
  (hr:evIndex2 (tstr P t) ((tarr P t).bind fun q=>tagg P q.2) (tarr P t) ((tarr P t).bind fun q=>tsz P q.2) x ix = .pure ob v) (hob:ob) :
  ∃ r,(∀ W,(Instr.index t u ui).run P W = .ok r W)/\VR E v r:=by
 unfold evIndex2 at hr
 split at hr
 ·rename_i s
  obtain rfl:=VR_str hx
  unfold evIndexS at hr
  split at hr
  ·rename_i s' k q hs e
   injection e with e;subst e
   obtain rfl:=VR_int hi
   simp only [AR.pure.injEq] at hr
   obtain ⟨rfl,rfl⟩:=hr
   have hu:P.underlying t=some .string:=by
    unfold tstr at hs
    split at hs
    ·assumption
    ·cases hs
   have hq:q.toNat < s.size:=by omega
   have hg:s[q.toNat]? = some s[q.toNat]:=getElem?_pos s q.toNat hq
   have hb:byteAt s q.toNat=(s[q.toNat].toNat:Int):=by
    show ((s.data.getD q.toNat 0).toNat:Int)=((s.data[q.toNat]'hq).toNat:Int)
    rw [show s.data.getD q.toNat 0=s.data[q.toNat]'hq from by unfold Array.getD;rw [dif_pos (show q.toNat < s.data.size from hq)];rfl]
   refine ⟨_,fun W=>?_,.int _ _⟩
   simp only [Instr.index,asIntOf,Sem.run_bind,Sem.run_pure,Result.andThen_ok,run_underlying hu,if_pos hob.1,hg,hb]
  ·cases hr
 ·exact index_sound hx hi hr hob
theorem slice2_sound {t:TypeId} {x v:AV} {u:Value} {lo hi mx:Option AV} {lv hv mv:Option Value} {ob:Prop} (hx:VR E x u) (hlo:VRO E lo lv) (hhi:VRO E hi hv) (hmx:VRO E mx mv)
  (hr:evSlice2 (tstr P t) (tslice P t) (tarr P t) (((tslice P t).or ((tarr P t).map (·.2))).bind (tsz P)) x lo hi mx = .pure ob v) (hob:ob) :
  ∃ r,(∀ W,(Instr.sliceAt t u lv hv mv).run P W = .ok r W)/\VR E v r:=by
 unfold evSlice2 at hr
 split at hr
 ·rename_i s
  obtain rfl:=VR_str hx
  cases e1:evBound lo 0 with
  | none=>rw [e1] at hr;simp only [evSliceS] at hr;cases hr
  | some l =>
  cases e2:evBound hi s.size with
  | none=>rw [e1,e2] at hr;simp only [evSliceS] at hr;cases hr
  | some w =>
  cases mx with
  | some m=>rw [e1,e2] at hr;simp only [evSliceS] at hr;cases hr
  | none =>
  rw [e1,e2] at hr
  simp only [evSliceS] at hr
  cases hs:tstr P t with
  | false=>rw [hs] at hr;cases hr
  | true =>
  rw [hs] at hr
  simp only [cond_true,AR.pure.injEq] at hr
  obtain ⟨rfl,rfl⟩:=hr
  have hu:P.underlying t=some .string:=by
   unfold tstr at hs
   split at hs
   ·assumption
   ·cases hs
  have hm:mv=none:=by cases mv with
   | none=>rfl
   | some m=>exact hmx.elim
  subst hm
  obtain ⟨M,hb,_⟩:=bounds_run (P:=P) (E:=E) (b:=false) (lo:=lo) (hi:=hi) (mx:=none) (lv:=lv) (hv:=hv) (mv:=none) (n:=s.size) (len:=s.size) (cap:=s.size) (m:=s.size) hlo hhi trivial e1 e2 rfl rfl hob.1 hob.2.1 hob.2.2 (by omega) (Nat.le_refl _)
  refine ⟨_,fun W=>?_,.str _⟩
  simp only [Instr.sliceAt,Instr.slice,Sem.run_bind,Sem.run_pure,Result.andThen_ok,run_underlying hu,Option.isSome_none,Bool.false_eq_true,if_false,hb]
 ·exact slice_sound hx hlo hhi hmx hr hob
theorem bytesC_eq {n:Nat} {c:Nat->Nat->AV} {news:List Value} (hl:news.length=n * 1) (hc:∀ i,i < n->u8Q (c i 0)) (hv:∀ q y,q < n->y < 1->∃ v,news[q * 1+y]? = some v/\v.oneCell'=true/\VR E (c q y) v) :
  ∃ ns:List Int,news=ns.map (Value.int .u8)/\bytesC n c=strOfNums ns:=by
 refine ⟨(List.range n).map fun i=>match c i 0 with|.int _ q=>q|_=>0,?_,?_⟩
 ·apply List.ext_getElem?
  intro i
  rw [List.getElem?_map,List.getElem?_map]
  by_cases hi:i < n
  ·rw [List.getElem?_range hi]
   obtain ⟨v,h1,_,h3⟩:=hv i 0 hi (by omega)
   rw [Nat.mul_one,Nat.add_zero] at h1
   rw [h1]
   have h4:=hc i hi
   simp only [Option.map_some,Option.some.injEq]
   unfold u8Q at h4
   split at h4
   ·rename_i q e
    rw [e] at h3
    rw [VR_int h3,e]
   ·exact h4.elim
  ·rw [List.getElem?_eq_none (by omega),List.getElem?_eq_none (by simp;omega)];rfl
 ·unfold bytesC strOfNums
  congr 1
  rw [List.map_map]
  congr 1
  apply List.map_congr_left
  intro i _
  simp only [Function.comp]
  cases c i 0<;>rfl
theorem conv2_sound {s d:TypeId} {x v:AV} {u:Value} {ob:Prop} (H:HR E h) (hx:VR E x u) (hr:evConv2 (tany P s) (tint P d) (tbytes P s) (tstr P d) x h = .pure ob v) (hob:ob) :
  ∃ r,(∀ W:World,(∀ k,k < E.w.heap.size->W.heap[k]? = E.w.heap[k]?)->(convert s d u).run P W = .ok r W)/\VR E v r:=by
 unfold evConv2 at hr
 split at hr
 ·obtain ⟨r,h1,h2⟩:=conv_sound (P:=P) hx hr
  exact ⟨r,fun W _=>h1 W,h2⟩
 ·cases hr
 ·rename_i hni hns
  cases hk:(tbytes P s && tstr P d) with
  | false=>rw [hk] at hr;cases hr
  | true =>
  rw [hk] at hr
  simp only [cond_true] at hr
  simp only [Bool.and_eq_true] at hk
  obtain ⟨k1,k2⟩:=hk
  have hd:P.underlying d=some .string:=by
   unfold tstr at k2
   split at k2
   ·assumption
   ·cases k2
  obtain ⟨e,hs,he⟩:∃ e,P.underlying s=some (.slice e)/\P.underlying e=some (.int .u8):=by
   unfold tbytes at k1
   split at k1
   ·rename_i e he
    split at k1
    ·rename_i hb;exact ⟨e,he,hb⟩
    ·cases k1
   ·cases k1
  cases hsr:srcOf 1 x h with
  | none=>rw [hsr] at hr;simp only [cvS] at hr;cases hr
  | some src =>
  rw [hsr] at hr
  simp only [cvS,AR.pure.injEq] at hr
  obtain ⟨rfl,rfl⟩:=hr
  obtain ⟨news,g1,g2⟩:=src_sound (P:=P) (Nat.le_refl 1) H hx hsr hob.1
  obtain ⟨ns,e1,e2⟩:=bytesC_eq (by rw [g1.len]) hob.2 g2
  have sl:∀ (a:Option Addr) (n c:Nat),u = .slice a n c->∃ r,(∀ W:World,(∀ k,k < E.w.heap.size->W.heap[k]? = E.w.heap[k]?)->(convert s d u).run P W = .ok r W)/\VR E (.str (bytesC src.n src.c)) r:=by
   rintro a n c rfl
   refine ⟨.string (bytesC src.n src.c),fun W hW=>?_,.str _⟩
   rw [run_convert_bytes_string W s d e a n c hs he hd]
   have hn:n=src.n:=by
    have h1:=g1.lenOf W
    simp only [Builtin.lenOf,Sem.run_pure,Result.ok.injEq] at h1
    exact h1.1
   cases a with
   | none =>
    have h1:=g1.first W hW
    simp only [Builtin.firstCells,Sem.run_pure,Result.ok.injEq] at h1
    have h2:news=[]:=by
     have:=congrArg Array.toList h1.1
     simpa using this.symm
    rw [h2] at e1
    have h3:ns=[]:=by cases ns with
     | nil=>rfl
     | cons a l=>simp at e1
    rw [e2,h3]
    simp only [Conv.bytesToString,Sem.run_pure]
    rfl
   | some a =>
    have h1:=g1.first W hW
    rw [e1] at h1
    simp only [Builtin.firstCells,Nat.mul_one] at h1
    rw [← hn] at h1
    rw [run_bytesToString W a n c ns h1,foldl_push_bytes,e2]
    simp [strOfNums,ByteArray.empty,ByteArray.emptyWithCapacity]
    rfl
  cases hx with
  | sl b es i n nl a cap=>exact sl _ _ _ rfl
  | isl=>exact sl _ _ _ rfl
  | csl=>exact sl _ _ _ rfl
  | ro es n nl c a cap=>exact sl _ _ _ rfl
  | emp a=>exact sl _ _ _ rfl
  | str s'=>exact absurd rfl (hns s')
  | _=>simp only [srcOf] at hsr;cases hsr
theorem extract_sound {i:Nat} {x v:AV} {u:Value} {ob:Prop} (hx:VR E x u) (hr:evExtract x i = .pure ob v) (hob:ob):∃ r,(∀ W,(Instr.extract u i).run P W = .ok r W)/\VR E v r:=by
 unfold evExtract at hr
 split at hr
 ·injection hr with h1 h2;subst h1 h2
  cases hx with
  | tup l vs hl hh =>
   have h2:i < vs.size:=by rw [← hl];exact hob
   refine ⟨vs[i],fun W=>?_,hh i _ _ (getL_some hob) (Array.getElem?_eq_getElem h2)⟩
   simp [Instr.extract,h2]
 ·cases hr
theorem pick_sound {c x y v:AV} {b:Bool} {uc ux uy:Value} {ob:Prop} (hc:VR E c uc) (hb:c = .bool b) (hx:b=true->VR E x ux) (hy:b=false->VR E y uy) (hr:evPick c x y = .pure ob v) :
  ∃ r,(∀ W,(do pure (.value (if ← asBool uc then ux else uy)):Sem Next).run P W = .ok (.value r) W)/\VR E v r:=by
 subst hb
 obtain rfl:=VR_bool hc
 simp only [evPick] at hr
 unfold mrg at hr
 split at hr
 ·injection hr with h1 h2;subst h2
  cases b with
  | true=>exact ⟨ux,fun W=>by simp [asBool],hx rfl⟩
  | false=>exact ⟨uy,fun W=>by simp [asBool],hy rfl⟩
 ·cases b with
  | true=>injection hr with h1 h2;subst h2;exact ⟨ux,fun W=>by simp [asBool],hx rfl⟩
  | false=>cases hr
 ·cases b with
  | true=>cases hr
  | false=>injection hr with h1 h2;subst h2;exact ⟨uy,fun W=>by simp [asBool],hy rfl⟩
 ·cases hr
theorem pick_pf (c x y:AV):(∃ o w,evPick c x y = .pure o w) ∨ evPick c x y = .fail:=by
 unfold evPick mrg
 split
 ·rename_i b
  split<;>first|exact .inl ⟨_,_,rfl⟩|exact .inr rfl|(cases b<;>first|exact .inl ⟨_,_,rfl⟩|exact .inr rfl)
 ·exact .inr rfl

/-! ### copy, clear, cap, append of a make -/
theorem ovw_at {b es i m N cap:Nat} {a:Option Addr} {e:TypeId} {c d:Nat->Nat->AV} {news:List Value} (H:HR E h) (hb:geth h b = .row e es N c)
  (hc:0 < cap->∃ k o cs e,E.σ b=some (k,o)/\a=some ⟨k,o+i * es,none⟩/\E.w.heap[k]? = some (.cells cs e (0,0))/\o+i * es+cap * es <= cs.size)
  (hm:m <= cap) (hN:i <= N) (hl:news.length=m * es) (h1:∀ v ∈ news,v.oneCell'=true) (hn:∀ q y,q < m->y < es->∃ v,news[q * es+y]? = some v/\v.oneCell'=true/\VR E (d q y) v) :
  ∃ E',(∀ a0,a=some a0->(storeCells a0 news).run P E.w = .ok () E'.w)/\(a=none->E'.w=E.w)/\Ext E h E' (seth h b (.row e es (max N (i+m)) (ovwC i m c d)))/\HR E' (seth h b (.row e es (max N (i+m)) (ovwC i m c d))):=by
 rcases Nat.eq_zero_or_pos m with h0|hp
 ·have hsame:seth h b (.row e es (max N (i+m)) (ovwC i m c d))=h:=by
   rw [show max N (i+m)=N from by omega]
   have:ovwC i m c d=c:=by
    funext x y
    unfold ovwC
    rw [h0,if_neg (by omega)]
   rw [this,← hb,seth_set]
   apply List.ext_getElem?
   intro j
   rw [List.getElem?_set]
   by_cases hj:b=j
   ·subst hj
    have:=geth_some (h:=h) (b:=b) (by rw [hb];exact fun e=>by cases e)
    rw [if_pos rfl,this]
    split
    ·rfl
    ·rename_i hlt;rw [List.getElem?_eq_none (by omega)] at this;cases this
   ·rw [if_neg hj]
  rw [hsame]
  have hnil:news=[]:=List.eq_nil_of_length_eq_zero (by rw [hl,h0,Nat.zero_mul])
  subst hnil
  exact ⟨E,fun a0 _=>by simp [storeCells],fun _=>rfl,Ext.refl _ _,H⟩
 ·obtain ⟨k,o,cs,e2,g1,rfl,g3,g4⟩:=hc (by omega)
  have hfit:o+i * es+m * es <= cs.size:=by
   have:=Nat.mul_le_mul_right es hm
   omega
  obtain ⟨he2,H1,X1⟩:=ovw_HR (d:=d) H hb g1 g3 hl hN hfit hn
  subst he2
  have hst:=run_storeCells_at P k (o+i * es) e2 news 0 cs E.w g3 (by rw [hl];omega) h1
  rw [Nat.add_zero,setRow_putRow g3] at hst
  exact ⟨{ E with w:=putRow E.w k (splice cs (o+i * es) news) e2 },fun a0 ha=>(by injection ha with ha;subst ha;exact hst),fun ha=>(by simp at ha),X1,H1⟩
theorem cutS_VR {x:AV} {u:Value} {m k:Nat} (hx:VR E x u) (hl:lenS x=some m) (hk:k <= m):∃ a cap,u = .slice a m cap/\VR E (cutS k x) (.slice a k cap)/\m <= cap:=by
 cases hx<;>simp only [lenS,Option.some.injEq,reduceCtorEq] at hl<;>subst hl
 case sl b es i nl a cap hn hcm hnl hz hc=>exact ⟨a,cap,rfl,.sl _ _ _ _ _ _ _ (by omega) hcm hnl hz hc,hn⟩
 case isl b es i j z cap k' o hn hcm h=>exact ⟨_,cap,rfl,.isl _ _ _ _ _ _ _ _ _ (by omega) hcm h,hn⟩
 case csl b es i c a hn hcm hc=>exact ⟨a,c,rfl,.csl _ _ _ _ _ _ (by omega) hcm hc,hn⟩
 case ro es nl c a cap hn hcm hnl hz u ha h1 hc hrf=>exact ⟨a,cap,rfl,.ro _ _ _ _ a cap (by omega) hcm hnl hz u (fun hp=>by obtain ⟨k',o,q1,q2,q3⟩:=ha (by omega);exact ⟨k',o,q1,q2,fun x y hx hy=>q3 x y (by omega) hy⟩) (fun x y hx hy=>h1 x y (by omega) hy) (fun x y hx hy=>hc x y (by omega) hy) fun x y hx hy=>hrf x y (by omega) hy,hn⟩
 case emp a =>
  obtain rfl:k=0:=by omega
  exact ⟨a,0,rfl,.emp a,Nat.le_refl _⟩
theorem cutS_n {z k:Nat} {x:AV} {s:Src} {m:Nat} (hl:lenS x=some m) (hk:k <= m) (hs:srcOf z (cutS k x) h=some s):s.n=k:=by
 cases x<;>simp only [lenS,Option.some.injEq,reduceCtorEq] at hl<;>subst hl<;>simp only [cutS,srcOf] at hs
 ·split at hs<;>simp only [Option.some.injEq,reduceCtorEq] at hs;subst hs;rfl
 ·split at hs<;>simp only [Option.some.injEq,reduceCtorEq] at hs<;>subst hs<;>rfl
 ·split at hs<;>simp only [Option.some.injEq,reduceCtorEq] at hs;subst hs;rfl
 ·simp only [Option.some.injEq] at hs;subst hs;rfl
 ·simp only [Option.some.injEq] at hs;subst hs;simp only;omega
theorem copyR_sound {dt st ty e:TypeId} {z b es i n m cap mc:Nat} {x v:AV} {a a':Option Addr} {ob:Prop} {h':List ABlk} (ht:P.underlying dt=some (.slice e)) (hz:tsz P e=some z) (hz1:1 <= z) (H:HR E h)
  (hx:VR E x (.slice a' m mc)) (hl:lenS x=some m) (hn:n <= cap)
  (hc:0 < cap->∃ k o cs e,E.σ b=some (k,o)/\a=some ⟨k,o+i * es,none⟩/\E.w.heap[k]? = some (.cells cs e (0,0))/\o+i * es+cap * es <= cs.size)
  (hr:evCopyR z b es i n m x h = .heap ob v h') (hob:ob) :
  ∃ r E',(Builtin.copy_ #[dt,st] ty #[.slice a n cap,.slice a' m mc]).run P E.w = .ok r E'.w/\Ext E h E' h'/\HR E' h'/\VR E' v r:=by
 unfold evCopyR at hr
 cases hs:srcOf z (cutS (min m n) x) h with
 | none=>rw [hs] at hr;cases hr
 | some s =>
 rw [hs] at hr
 simp only at hr
 cases hb:geth h b with
 | lit e' l=>rw [hb] at hr;cases hr
 | dead=>rw [hb] at hr;cases hr
 | row e' es' N c =>
  rw [hb] at hr
  simp only [AR.heap.injEq] at hr
  obtain ⟨rfl,rfl,rfl⟩:=hr
  obtain ⟨hso,rfl,rfl,hN⟩:=hob
  obtain ⟨a2,c2,hu,hcut,_⟩:=cutS_VR (k:=min m n) hx hl (by omega)
  injection hu with q1 q2 q3
  subst q1 q3
  have hsn:=cutS_n hl (show min m n <= m by omega) hs
  obtain ⟨news,hs1,hs2⟩:=src_sound (P:=P) hz1 H hcut hs hso
  rw [hsn] at hs1 hs2
  obtain ⟨E',g1,g2,g3,g4⟩:=ovw_at (P:=P) (a:=a) (i:=i) (d:=s.c) H hb hc (show min m n <= cap by omega) hN hs1.len hs1.one hs2
  have hf:=hs1.first E.w fun _ _=>rfl
  have hf':(Builtin.firstCells es' (min m n) (.slice a' m mc)).run P E.w = .ok news.toArray E.w:=by
   rw [← hf];cases a'<;>rfl
  refine ⟨.int .i64 (min m n:Nat),E',?_,g3,g4,.int _ _⟩
  have hsz:=fun w=>run_sizeOf (P:=P) (w:=w) hz
  cases a with
  | none =>
   rw [g2 rfl]
   simp only [Builtin.copy_,List.getElem?_toArray,List.getElem?_cons_zero,List.getElem?_cons_succ,Sem.run_bind,run_underlying ht,Result.andThen_ok,hsz,Builtin.lenOf,Sem.run_pure]
   rw [show Nat.min m n=min m n from rfl,hf']
   rfl
  | some a0 =>
   simp only [Builtin.copy_,List.getElem?_toArray,List.getElem?_cons_zero,List.getElem?_cons_succ,Sem.run_bind,run_underlying ht,Result.andThen_ok,hsz,Builtin.lenOf,Sem.run_pure]
   rw [show Nat.min m n=min m n from rfl,hf']
   simp only [Result.andThen_ok,g1 a0 rfl]
   rfl
theorem tabR_length (c:Nat->Nat->AV) (z:Nat):∀ n x,(tabR c z x n).length=n * z
 | 0,_=>by simp [tabR]
 | n+1,x=>by simp only [tabR,List.length_append,tabF_length,tabR_length c z n];rw [Nat.add_mul];omega
theorem tabR_get (c:Nat->Nat->AV) {z:Nat} (hz:1 <= z):∀ n x p,p < n * z->(tabR c z x n)[p]? = some (c (x+p / z) (p % z))
 | 0,_,p,hp=>by rw [Nat.zero_mul] at hp;omega
 | n+1,x,p,hp=>by
  simp only [tabR]
  rcases Nat.lt_or_ge p z with h|h
  ·rw [List.getElem?_append_left (by rw [tabF_length];exact h),tabF_get _ _ _ _ h,Nat.div_eq_of_lt h,Nat.mod_eq_of_lt h,Nat.zero_add,Nat.add_zero]
  ·rw [List.getElem?_append_right (by rw [tabF_length];exact h),tabF_length,tabR_get c hz n (x+1) (p - z) (by rw [Nat.add_mul] at hp;omega)]
   have e1:(p - z) % z=p % z:=by rw [← Nat.mod_eq_sub_mod h]
   have e2:p / z=(p - z) / z+1:=Nat.div_eq_sub_div (by omega) h
   rw [e1,e2];congr 2;omega
theorem copyL_sound {dt st ty e:TypeId} {z b es i j z' n m cap mc k o:Nat} {x v:AV} {a':Option Addr} {ob:Prop} {h':List ABlk} (ht:P.underlying dt=some (.slice e)) (hz:tsz P e=some z) (hz1:1 <= z) (H:HR E h)
  (hx:VR E x (.slice a' m mc)) (hl:lenS x=some m) (hσ:E.σ b=some (k,o)) (hr:evCopyL z b es i j z' n m x h = .heap ob v h') (hob:ob) :
  ∃ r E',(Builtin.copy_ #[dt,st] ty #[.slice (some ⟨k,o+i * es+j,none⟩) n cap,.slice a' m mc]).run P E.w = .ok r E'.w/\Ext E h E' h'/\HR E' h'/\VR E' v r:=by
 unfold evCopyL at hr
 cases hs:srcOf z (cutS n x) h with
 | none=>rw [hs] at hr;cases hr
 | some s =>
 rw [hs] at hr
 simp only at hr
 cases hb:geth h b with
 | row e' es' N c=>rw [hb] at hr;cases hr
 | dead=>rw [hb] at hr;cases hr
 | lit e' l =>
  rw [hb] at hr
  simp only [AR.heap.injEq] at hr
  obtain ⟨rfl,rfl,rfl⟩:=hr
  obtain ⟨hso,rfl,hnm,hfit⟩:=hob
  obtain ⟨a2,c2,hu,hcut,_⟩:=cutS_VR (k:=n) hx hl hnm
  injection hu with q1 q2 q3
  subst q1 q3
  have hsn:=cutS_n hl hnm hs
  obtain ⟨news,hs1,hs2⟩:=src_sound (P:=P) hz1 H hcut hs hso
  rw [hsn] at hs1 hs2
  have hf:=hs1.first E.w fun _ _=>rfl
  have hf':(Builtin.firstCells z' n (.slice a' m mc)).run P E.w = .ok news.toArray E.w:=by
   rw [← hf];cases a'<;>rfl
  have hd:geth h b ≠ .dead:=by rw [hb];exact fun e=>by cases e
  have hB:=H.blk b _ (geth_some hd)
  rw [hb] at hB
  obtain ⟨k',o',cs,g1,g2,g3,g4⟩:=hB
  rw [hσ] at g1;cases g1
  have hlen:news.length=n * z':=hs1.len
  have hfit2:o+(i * es+j)+news.length <= cs.size:=by rw [hlen];omega
  have K:=keep_put H (cs':=splice cs (o+(i * es+j)) news) ⟨b,_,o,geth_some hd,hd,hσ⟩ g2 (splice_size hfit2)
  have hbr:BR { E with w:=putRow E.w k (splice cs (o+(i * es+j)) news) e' } b (.lit e' (putL l (i * es+j) (tabR s.c z' 0 n))):=by
   refine ⟨k,o,_,hσ,putRow_same (lt_of_some g2),by rw [splice_size hfit2,putL_length];exact g3,fun q a hq=>?_⟩
   have hql:q < l.length:=by
    rcases Nat.lt_or_ge q l.length with h1|h1
    ·exact h1
    ·rw [List.getElem?_eq_none (by rw [putL_length];exact h1)] at hq;cases hq
   rw [putL_get _ _ _ _ hql,tabR_length] at hq
   rw [splice_get hfit2]
   by_cases hin:i * es+j <= q/\q < i * es+j+n * z'
   ·rw [if_pos hin,tabR_get _ hz1 _ _ _ (by omega)] at hq
    rw [if_pos (by omega)]
    injection hq with hq
    have hp:q - (i * es+j) < n * z':=by omega
    obtain ⟨w,e1,e2,e3⟩:=hs2 ((q - (i * es+j)) / z') ((q - (i * es+j)) % z') ((Nat.div_lt_iff_lt_mul (by omega)).2 hp) (Nat.mod_lt _ (by omega))
    refine ⟨w,?_,e2,?_⟩
    ·rw [show o+q - (o+(i * es+j))=q - (i * es+j) from by omega]
     rw [Nat.div_add_mod'] at e1
     exact e1
    ·rw [← hq,Nat.zero_add];exact e3.mono K
   ·rw [if_neg hin] at hq
    rw [if_neg (by omega)]
    obtain ⟨w,e1,e2,e3⟩:=g4 q a hq
    exact ⟨w,e1,e2,e3.mono K⟩
  obtain ⟨H1,X1⟩:=put_HR H (geth_some hd) hd hσ g2 (splice_size hfit2) hbr
  rw [← seth_set] at H1 X1
  have hst:=run_storeCells_at P k (o+(i * es+j)) e' news 0 cs E.w g2 (by omega) hs1.one
  rw [Nat.add_zero,setRow_putRow g2] at hst
  refine ⟨.int .i64 (n:Nat),_,?_,X1,H1,.int _ _⟩
  have hsz:=fun w=>run_sizeOf (P:=P) (w:=w) hz
  simp only [Builtin.copy_,List.getElem?_toArray,List.getElem?_cons_zero,List.getElem?_cons_succ,Sem.run_bind,run_underlying ht,Result.andThen_ok,hsz,Builtin.lenOf,Sem.run_pure]
  rw [show Nat.min m n=n from Nat.min_eq_right hnm,hf']
  simp only [Result.andThen_ok]
  rw [show o+i * es+j=o+(i * es+j) from by omega,hst]
  rfl
theorem copy_sound {dt st ty:TypeId} {d x v:AV} {ud ux:Value} {ob:Prop} {h':List ABlk} (H:HR E h) (hd:VR E d ud) (hx:VR E x ux)
  (hr:evCopy ((tslice P dt).bind (tsz P)) d x h = .heap ob v h') (hob:ob) :
  ∃ r E',(Builtin.copy_ #[dt,st] ty #[ud,ux]).run P E.w = .ok r E'.w/\Ext E h E' h'/\HR E' h'/\VR E' v r:=by
 cases hdt:tslice P dt with
 | none=>rw [hdt] at hr;simp only [Option.bind_none,evCopy] at hr;cases hr
 | some e =>
 rw [hdt] at hr
 simp only [Option.bind_some] at hr
 cases hz:tsz P e with
 | none=>rw [hz] at hr;simp only [evCopy] at hr;cases hr
 | some z =>
 rw [hz] at hr
 simp only [evCopy] at hr
 cases hl:lenS x with
 | none=>rw [hl] at hr;simp only at hr;cases hr
 | some m =>
 rw [hl] at hr
 simp only at hr
 cases hz1:decide (1 <= z) with
 | false=>rw [hz1] at hr;cases hr
 | true =>
 rw [hz1] at hr
 simp only [cond_true] at hr
 obtain ⟨a',mc,rfl,_,_⟩:=cutS_VR (k:=m) hx hl (Nat.le_refl _)
 cases hd<;>simp only [reduceCtorEq] at hr
 case sl b es i n nl a cap hn hcm hnl hz' hc=>exact copyR_sound (und_of_tslice hdt) hz (by simpa using hz1) H hx hl hn hc hr hob
 case csl b es i n c a hn hcm hc=>exact copyR_sound (und_of_tslice hdt) hz (by simpa using hz1) H hx hl hn hc hr hob
 case isl b es i j z' n cap k o hn hcm hσ=>exact copyL_sound (und_of_tslice hdt) hz (by simpa using hz1) H hx hl hσ hr hob

theorem zcells_get {l:List AV} {zs:Array Value} {n:Nat} (hcz:CR E l zs):∀ q y,q < n->y < l.length->∃ v,(Builtin.zeroCells zs n).toList[q * l.length+y]? = some v/\v.oneCell'=true/\VR E (getL l y) v:=by
 have hsz:zs.size=l.length:=hcz.1.symm
 intro q y hq hy
 have hs:=split_lt hq hy
 have hlt:y < zs.size:=by omega
 obtain ⟨q1,q2⟩:=hcz.2 y (getL l y) zs[y] (getL_some hy) (Array.getElem?_eq_getElem hlt)
 refine ⟨zs[y],?_,q1,q2⟩
 rw [Array.getElem?_toList,Builtin.zeroCells,Array.getElem?_map,Array.getElem?_range,hsz,if_pos hs]
 simp only [Option.map_some,Option.some.injEq]
 rw [show (q * l.length+y) % l.length=y from by rw [Nat.mul_comm,Nat.mul_add_mod,Nat.mod_eq_of_lt hy],getElem!_pos zs y hlt]
theorem clearR_sound {t ty e:TypeId} {b es i n cap:Nat} {l:List AV} {v:AV} {a:Option Addr} {ob:Prop} {h':List ABlk} (ht:P.underlying t=some (.slice e)) (hl:tzero P e=some l) (H:HR E h) (hn:n <= cap) (hz:a=none->cap=0)
  (hc:0 < cap->∃ k o cs e,E.σ b=some (k,o)/\a=some ⟨k,o+i * es,none⟩/\E.w.heap[k]? = some (.cells cs e (0,0))/\o+i * es+cap * es <= cs.size)
  (hr:evClearR b es i n l h = .heap ob v h') (hob:ob) :
  ∃ r E',(Builtin.clear_ #[t] ty #[.slice a n cap]).run P E.w = .ok r E'.w/\Ext E h E' h'/\HR E' h'/\VR E' v r:=by
 unfold evClearR at hr
 cases hb:geth h b with
 | lit e' l=>rw [hb] at hr;cases hr
 | dead=>rw [hb] at hr;cases hr
 | row e' es' N c =>
  rw [hb] at hr
  simp only [AR.heap.injEq] at hr
  obtain ⟨rfl,rfl,rfl⟩:=hr
  obtain ⟨rfl,rfl,hN⟩:=hob
  obtain ⟨ti,zv,hi,hzv,habs⟩:=zero_of hl
  have hcz:CR E l zv.cells:=by simpa using absL_CR (E:=E) habs
  have hsz:zv.cells.size=l.length:=hcz.1.symm
  have hlen:(Builtin.zeroCells zv.cells n).toList.length=n * l.length:=by rw [Array.length_toList,zeroCells_size,hsz]
  have hget:∀ q y,q < n->y < l.length->∃ v,(Builtin.zeroCells zv.cells n).toList[q * l.length+y]? = some v/\v.oneCell'=true/\VR E (getL l y) v:=by
   intro q y hq hy
   have hs:=split_lt hq hy
   have hlt:y < zv.cells.size:=by omega
   obtain ⟨q1,q2⟩:=hcz.2 y (getL l y) zv.cells[y] (getL_some hy) (Array.getElem?_eq_getElem hlt)
   refine ⟨zv.cells[y],?_,q1,q2⟩
   rw [Array.getElem?_toList,Builtin.zeroCells,Array.getElem?_map,Array.getElem?_range,hsz,if_pos hs]
   simp only [Option.map_some,Option.some.injEq]
   rw [show (q * l.length+y) % l.length=y from by rw [Nat.mul_comm,Nat.mul_add_mod,Nat.mod_eq_of_lt hy],getElem!_pos zv.cells y hlt]
  have hone:∀ v ∈ (Builtin.zeroCells zv.cells n).toList,v.oneCell'=true:=by
   intro v hv
   obtain ⟨j,hj,rfl⟩:=List.mem_iff_getElem.mp hv
   rw [hlen] at hj
   rcases Nat.eq_zero_or_pos l.length with h0|hp
   ·rw [h0,Nat.mul_zero] at hj;omega
   ·obtain ⟨x,y,rfl,hy⟩:=div_mul_mod j l.length hp
    obtain ⟨v,a1,a2,_⟩:=hget x y (lt_of_split hj) hy
    have:=List.getElem?_eq_some_iff.mp a1
    rw [this.2];exact a2
  obtain ⟨E',g1,g2,g3,g4⟩:=ovw_at (P:=P) (a:=a) (i:=i) (d:=fun _ y=>getL l y) H hb hc hn hN hlen hone hget
  refine ⟨.tuple #[],E',?_,g3,g4,.top _⟩
  have hzr:=fun w=>run_zeroValue (P:=P) hi hzv w
  cases a with
  | none =>
   rw [g2 rfl]
   simp [Builtin.clear_,run_underlying ht]
  | some a0 =>
   cases n with
   | zero =>
    have hst:=g1 a0 rfl
    rw [show (Builtin.zeroCells zv.cells 0).toList=[] from List.eq_nil_of_length_eq_zero (by rw [hlen,Nat.zero_mul])] at hst
    simp only [storeCells,Sem.run_pure,Result.ok.injEq,true_and] at hst
    rw [← hst]
    simp [Builtin.clear_,run_underlying ht]
   | succ n =>
    have hst:=g1 a0 rfl
    simp [Builtin.clear_,run_underlying ht,hzr,hst]
theorem clear_sound {t ty:TypeId} {x v:AV} {u:Value} {ob:Prop} {h':List ABlk} (H:HR E h) (hx:VR E x u)
  (hr:evClear ((tslice P t).bind (tzero P)) x h = .heap ob v h') (hob:ob) :
  ∃ r E',(Builtin.clear_ #[t] ty #[u]).run P E.w = .ok r E'.w/\Ext E h E' h'/\HR E' h'/\VR E' v r:=by
 cases hdt:tslice P t with
 | none=>rw [hdt] at hr;simp only [Option.bind_none,evClear] at hr;cases hr
 | some e =>
 rw [hdt] at hr
 simp only [Option.bind_some] at hr
 cases hz:tzero P e with
 | none=>rw [hz] at hr;simp only [evClear] at hr;cases hr
 | some l =>
 rw [hz] at hr
 simp only [evClear] at hr
 cases hz1:decide (1 <= l.length) with
 | false=>rw [hz1] at hr;cases hr
 | true =>
 rw [hz1] at hr
 simp only [cond_true] at hr
 cases hx<;>simp only [reduceCtorEq] at hr
 case sl b es i n nl a cap hn hcm hnl hz' hc=>exact clearR_sound (und_of_tslice hdt) hz H hn hz' hc hr hob
 case csl b es i n c a hn hcm hc =>
  refine clearR_sound (und_of_tslice hdt) hz H hn (fun ha=>?_) hc hr hob
  rcases Nat.eq_zero_or_pos c with h0|hp
  ·exact h0
  ·obtain ⟨k,o,cs,e,_,h2,_⟩:=hc hp
   rw [ha] at h2;cases h2
theorem cap_sound {t ty:TypeId} {x v:AV} {u:Value} {ob:Prop} (hx:VR E x u) (hr:evCap (tslice P t) x = .pure ob v):∃ r,(∀ W,(Builtin.cap_ #[t] ty #[u]).run P W = .ok r W)/\VR E v r:=by
 unfold evCap at hr
 split at hr
 ·rename_i e he
  have hd:=und_of_tslice he
  split at hr
  ·injection hr with h1 h2;subst h2
   cases hx
   exact ⟨_,fun W=>by simp [Builtin.cap_,run_underlying hd];rfl,.int _ _⟩
  ·cases hr
 ·cases hr

theorem tintk_und {t:TypeId} (ht:tintk P t=true):∃ k,P.underlying t=some (.int k):=by
 unfold tintk at ht
 split at ht
 ·rename_i k hu;exact ⟨k,hu⟩
 ·cases ht
theorem run_app_zeros {st xt ty e n cap:Nat} {m:Int} {a:Option Addr} {olds:List Value} {i:TypeInfo} {zv:Value} {w:World} (ht:P.underlying st=some (.slice e)) (hx:tintk P xt=true)
  (hi:P.info? e=some i) (hz1:1 <= i.size) (hzv:i.zero=some zv) (h0:0 <= m) (ho:SrcRun P w i.size n (.slice a n cap) olds) (hn:cap < n+m.toNat)
  (h63:n+m.toNat <= 140737488355328) (hby:(n+m.toNat) * i.bytes <= 140737488355328) :
  (Builtin.append_ #[st,xt] ty #[.slice a n cap,.int .i64 m]).run P w =
   .ok (.slice (some ⟨w.heap.size,0,none⟩) (n+m.toNat) (grownCap w (n+m.toNat) cap e)) (w.drew.alloc (.cells (olds.toArray ++ (Builtin.zeroCells zv.cells m.toNat).toList.toArray ++ Builtin.zeroCells zv.cells (grownCap w (n+m.toNat) cap e - (n+m.toNat))) e)):=by
 have hfo:=ho.first w.drew fun _ _=>rfl
 have hn':¬ (n+m.toNat <= cap):=by omega
 have h63':¬ (9223372036854775807 < ((n:Int)+(m.toNat:Int))):=by omega
 have h48':¬ (281474976710656 < Builtin.nextslicecap (n+m.toNat) cap * i.bytes):=by have:=growslice_fits hn hby;omega
 obtain ⟨k,h1⟩:=tintk_und hx
 have wm:IntKind.i64.wrap m=m:=IntWalk.i64_in _ (by omega)
 have m1:¬ m < 0:=by omega
 have hmb:m.toNat * i.bytes <= 140737488355328:=Nat.le_trans (Nat.mul_le_mul_right _ (by omega)) hby
 have m2:¬ (281474976710656 < m * (i.bytes:Int)):=by
  have e1:((m.toNat * i.bytes:Nat):Int)=m * (i.bytes:Int):=by rw [Int.natCast_mul,Int.toNat_of_nonneg h0]
  omega
 have h63'':¬ (9223372036854775807 < ((n:Int)+max m 0)):=by omega
 simp [Builtin.append_,run_underlying ht,run_underlying h1,asInt,asIntOf,sizeOf,typeInfo,hi,wm,m1,m2,hn',h63',h63'',h48',Question.forced,hfo,newRow,grownCap]
 have hzr:=fun w=>run_zeroValue (P:=P) hi hzv w
 simp only [hzr,Result.andThen_ok]
 split
 ·rename_i hz
  have:m.toNat=0:=by
   rcases Nat.mul_eq_zero.mp hz with h|h<;>omega
  have e0:Builtin.zeroCells zv.cells m.toNat = #[]:=by rw [this];simp [Builtin.zeroCells]
  rw [e0,Array.empty_append]
  rfl
 ·rfl
theorem appZ_sound {st xt ty:TypeId} {s x v:AV} {u ux:Value} {ob:Prop} {h':List ABlk} (H:HR E h) (hu:VR E s u) (hux:VR E x ux)
  (hr:evAppZ (tslice P st) (tintk P xt) ((tslice P st).bind (tsz P)) ((tslice P st).bind (tby P)) ((tslice P st).bind (tzero P)) s x h = .heap ob v h') (hob:ob) :
  ∃ r E',(Builtin.append_ #[st,xt] ty #[u,ux]).run P E.w = .ok r E'.w/\Ext E h E' h'/\HR E' h'/\VR E' v r:=by
 unfold evAppZ at hr
 split at hr
 ·rename_i e z by_ l b es i' n cc m he hzz hby hl
  rw [he] at hzz hby hl
  simp only [Option.bind_some] at hzz hby hl
  cases hb:geth h b with
  | lit e' l=>rw [hb] at hr;cases hr
  | dead=>rw [hb] at hr;cases hr
  | row e' es' N c =>
  rw [hb] at hr
  simp only at hr
  cases hok:(tintk P xt && z == l.length && decide (1 <= l.length) && decide (cc < n+m.toNat)) with
  | false=>rw [hok] at hr;cases hr
  | true =>
  rw [hok] at hr
  simp only [cond_true,AR.heap.injEq] at hr
  obtain ⟨rfl,rfl,rfl⟩:=hr
  obtain ⟨h0,rfl,rfl,rfl,hN,hb1,hb2⟩:=hob
  simp only [Bool.and_eq_true,decide_eq_true_eq,beq_iff_eq] at hok
  obtain ⟨⟨⟨hxt,rfl⟩,hz1⟩,hroom⟩:=hok
  obtain rfl:=VR_int hux
  have ht:=und_of_tslice he
  obtain ⟨ti,zv,hi,hzv,habs⟩:=zero_of hl
  obtain ⟨ti',hi',hbt⟩:=info_of_tby hby
  rw [hi] at hi';cases hi'
  have hcz:CR E l zv.cells:=by simpa using absL_CR (E:=E) habs
  have hsz:zv.cells.size=l.length:=hcz.1.symm
  have hlen:(Builtin.zeroCells zv.cells m.toNat).toList.length=m.toNat * l.length:=by rw [Array.length_toList,zeroCells_size,hsz]
  cases hu with
  | csl b es i' n cc a hn hcm hc =>
   have hget:∀ q y,q < m.toNat->y < l.length->∃ v,(Builtin.zeroCells zv.cells m.toNat).toList[q * l.length+y]? = some v/\v.oneCell'=true/\VR E (getL l y) v:=zcells_get hcz
   have his:ti.size=l.length:=by
    have hq:tsz P e'=some ti.size:=by unfold tsz;rw [hi];rfl
    rw [hq] at hzz
    injection hzz
   have fin:∀ (olds:List Value),SrcRun P E.w l.length n (.slice a n cc) olds->(∀ q y,q < n->y < l.length->∃ v,olds[q * l.length+y]? = some v/\v.oneCell'=true/\VR E (subC i' c q y) v) ->
     ∃ r E',(Builtin.append_ #[st,xt] ty #[.slice a n cc,.int .i64 m]).run P E.w = .ok r E'.w/\Ext E h E' (h ++ [.row e' l.length (n+m.toNat) (appC n (subC i' c) fun _ y=>getL l y)])/\HR E' (h ++ [.row e' l.length (n+m.toNat) (appC n (subC i' c) fun _ y=>getL l y)])/\VR E' (.sl h.length l.length 0 (n+m.toNat) false) r:=by
    intro olds hols hov
    have hrun:=run_app_zeros (P:=P) (ty:=ty) ht hxt hi (by rw [his];exact hz1) hzv h0 (by rw [his];exact hols) hroom hb2 (by rw [hbt];exact Int.ofNat_le.1 (by rw [Int.natCast_mul];exact hb1))
    obtain ⟨H2,X2⟩:=drew_HR H
    have gb:=grown_bounds E.w (n+m.toNat) cc e' hb2
    obtain ⟨H3,X3,hsz3⟩:=grow_HR (E:={ E with w:=E.w.drew }) (e:=e') (zs:=zv.cells) (c:=subC i' c) (d:=fun _ y=>getL l y) (olds:=olds) (cap:=grownCap E.w (n+m.toNat) cc e') H2 hols.len hlen hsz gb.1
     (fun q y hq hy=>by obtain ⟨v,a1,a2,a3⟩:=hov q y hq hy;exact ⟨v,a1,a2,a3.mono (X2.keep H)⟩)
     (fun q y hq hy=>by obtain ⟨v,a1,a2,a3⟩:=hget q y hq hy;exact ⟨v,a1,a2,a3.mono (X2.keep H)⟩)
    exact ⟨_,_,hrun,X2.trans X3,H3,VR_new_sl (E:={ E with w:=E.w.drew }) (h:=h) (e:=e') (n:=n+m.toNat) rfl hsz3 gb.1 gb.2 rfl⟩
   rcases Nat.eq_zero_or_pos n with rfl|hp
   ·exact fin [] (src_nil (P:=P) a cc) fun q y hq=>by omega
   ·obtain ⟨k,o,cs,e2,g1,rfl,g3,g4⟩:=hc (by omega)
    have holds:∀ q y,q < n->y < l.length->∃ v,E.w.cell? ((⟨k,o+i' * l.length,none⟩:Addr).add (q * l.length+y))=some v/\v.oneCell'=true/\VR E (subC i' c q y) v:=by
     intro q y hq hy
     obtain ⟨v,a1,a2,a3⟩:=own_row H hb g1 (i'+q) y (by omega) hy
     refine ⟨v,?_,a2,a3⟩
     rw [add_none,← a1,Nat.add_mul]
     congr 2
     omega
    refine fin (cellsAt E.w ⟨k,o+i' * l.length,none⟩ (n * l.length)) (src_at (fun q hq=>?_)) fun q y hq hy=>?_
    ·obtain ⟨x,y,rfl,hy⟩:=div_mul_mod q l.length hz1
     obtain ⟨v,a1,a2,_⟩:=holds x y (lt_of_split hq) hy
     exact ⟨v,a1,a2⟩
    ·obtain ⟨v,a1,a2,a3⟩:=holds q y hq hy
     exact ⟨v,cellsAt_get (split_lt hq hy) a1,a2,a3⟩
 ·cases hr
end Go.Am

namespace Go.Am
set_option linter.unusedVariables false
variable {P:Program} {E:Env} {h:List ABlk}

/-! ### What a call gives -/
def AR.out (h:List ABlk):AR->Option (Prop × AV × List ABlk)
 | .fail=>none
 | .pure ob v=>some (ob,v,h)
 | .heap ob v h'=>some (ob,v,h')
abbrev Ct:=FuncId->List AV->List ABlk->AR
def Ret (E:Env) (h h':List ABlk) (v:AV) (e:Ending) (w':World):Prop:=∃ u E',e = .returned u/\E'.w=w'/\Ext E h E' h'/\HR E' h'/\VR E' v u
def Enters (P:Program) (f:FuncId):Prop:=∃ fn,P.funcs[f]? = some fn/\(fn.name == "runtime.NumGoroutine")=false/\fn.body.isNone=false
def concL:List AV->Option (List Value)
 | []=>some []
 | .bool b::l=>(concL l).map (.bool b::·)
 | .int k n::l=>(concL l).map (.int k n::·)
 | .str s::l=>(concL l).map (.string s::·)
 | .nilp::l=>(concL l).map (.pointer none::·)
 | .nilf::l=>(concL l).map (.nilFunc::·)
 | _=>none
def conc1:AV->Option Value
 | .bool b=>some (.bool b)
 | .int k n=>some (.int k n)
 | .str s=>some (.string s)
 | .nilp=>some (.pointer none)
 | .nilf=>some .nilFunc
 | .agg l=>(concL l).map fun l=>.agg l.toArray
 | _=>none
def concT:List AV->Option (List Value)
 | []=>some []
 | a::l=>match conc1 a,concT l with
  | some v,some r=>some (v::r)
  | _,_=>none
def conc:AV->Option Value
 | .tup l=>(concT l).map fun l=>.tuple l.toArray
 | a=>conc1 a
structure Same (w w':World):Prop where
 os:w'.os=w.os
 tape:w'.tape=w.tape
 output:w'.output=w.output
 size:w.heap.size <= w'.heap.size
 old:∀ k,k < w.heap.size->w'.heap[k]? = w.heap[k]?
def RetP (w:World) (v:AV) (e:Ending) (w':World):Prop:=∃ u,e = .returned u/\conc v=some u/\Same w w'
def FnOk (P:Program) (f:FuncId) (c:List AV->List ABlk->AR):Prop:=Enters P f /\
 (∀ (E:Env) (h:List ABlk) (l:List AV) (vs:Array Value) (ob:Prop) (v:AV) (h':List ABlk),HR E h->FR E l vs->(c l h).out h=some (ob,v,h')->ob->Calls P f vs E.w (Ret E h h' v)) /\
 (∀ (E:Env) (h:List ABlk) (l:List AV) (vs:Array Value) (ob:Prop) (v:AV),HR E h->FR E l vs->c l h = .pure ob v->ob->Calls P f vs E.w (RetP E.w v))
def ExtOk (P:Program) (f:FuncId) (c:List AV->List ABlk->AR):Prop:=∀ (E:Env) (h:List ABlk) (l:List AV) (vs:Array Value),HR E h->FR E l vs ->
 (∀ ob v h',c l h ≠ .heap ob v h')/\∀ ob v,c l h = .pure ob v->ob->∃ r,conc v=some r/\(∀ E',VR E' v r)/\(callFunc f vs).run P E.w = .ok (.value r) E.w
def CtOk (P:Program) (ct:Ct):Prop:=∀ f,(∀ l h,ct f l h = .fail) ∨ FnOk P f (ct f) ∨ ExtOk P f (ct f)
def tab:List (FuncId × (List AV->List ABlk->AR))->Ct
 | [],_,_,_=>.fail
 | (k,c)::r,f,l,h=>bif k == f then c l h else tab r f l h
theorem tab_nil:CtOk P (tab []):=fun f=>.inl fun _ _=>rfl
theorem tab_cons {k:FuncId} {c:List AV->List ABlk->AR} {r:List (FuncId × (List AV->List ABlk->AR))} (h1:FnOk P k c) (h2:CtOk P (tab r)):CtOk P (tab ((k,c)::r)):=by
 intro f
 cases hk:(k == f) with
 | true =>
  have e:k=f:=by simpa using hk
  subst e
  refine .inr (.inl ?_)
  rw [show tab ((k,c)::r) k=c from by funext l h;simp [tab]]
  exact h1
 | false =>
  rw [show tab ((k,c)::r) f=tab r f from by funext l h;simp [tab,hk]]
  exact h2 f

theorem tab_ext {k:FuncId} {c:List AV->List ABlk->AR} {r:List (FuncId × (List AV->List ABlk->AR))} (h1:ExtOk P k c) (h2:CtOk P (tab r)):CtOk P (tab ((k,c)::r)):=by
 intro f
 cases hk:(k == f) with
 | true =>
  have e:k=f:=by simpa using hk
  subst e
  refine .inr (.inr ?_)
  rw [show tab ((k,c)::r) k=c from by funext l h;simp [tab]]
  exact h1
 | false =>
  rw [show tab ((k,c)::r) f=tab r f from by funext l h;simp [tab,hk]]
  exact h2 f

theorem FR_append {l m:List AV} {vs ws:Array Value} (h1:FR E l vs) (h2:FR E m ws):FR E (l ++ m) (vs ++ ws):=by
 refine ⟨by simp [h1.1,h2.1],fun i a v ha hv=>?_⟩
 rcases Nat.lt_or_ge i l.length with hi|hi
 ·rw [List.getElem?_append_left hi] at ha
  rw [Array.getElem?_append_left (by rw [← h1.1];exact hi)] at hv
  exact h1.2 i a v ha hv
 ·rw [List.getElem?_append_right hi] at ha
  rw [Array.getElem?_append_right (by rw [← h1.1];exact hi)] at hv
  rw [← h1.1] at hv
  exact h2.2 _ a v ha hv
def mapR (t:List AV):List Operand->List AV
 | []=>[]
 | x::r=>rho t x::mapR t r
theorem FR_mapR {t:List AV} {a:Act} (F:FR E t a.tmps) {xs:Array Operand} (ho:ogL t xs.toList):FR E (mapR t xs.toList) (xs.map a.eval):=by
 have key:∀ l:List Operand,ogL t l->(mapR t l).length=l.length/\∀ (i:Nat) (b:AV) (v:Value),(mapR t l)[i]? = some b->(l.map a.eval)[i]? = some v->VR E b v:=by
  intro l
  induction l with
  | nil=>intro _;exact ⟨rfl,fun i b v hb=>by simp [mapR] at hb⟩
  | cons x l ih =>
   intro ho
   obtain ⟨q1,q2⟩:=ih ho.2
   refine ⟨by simp [mapR,q1],fun i b v hb hv=>?_⟩
   cases i with
   | zero =>
    simp only [mapR,List.getElem?_cons_zero,List.map_cons,Option.some.injEq] at hb hv
    subst hb hv;exact rho_sound F ho.1
   | succ i=>exact q2 i b v (by simpa [mapR] using hb) (by simpa using hv)
 obtain ⟨q1,q2⟩:=key xs.toList ho
 exact ⟨by simpa using q1,fun i b v hb hv=>q2 i b v hb (by simpa using hv)⟩

/-! ### Builtins -/
def evLen2 (sl:Option TypeId) (st:Bool) (ar:Option (Nat × TypeId)) (x:AV):AR:=match ar with
 | some (n,_)=>.pure True (.int .i64 n)
 | none=>match st with
  | true=>match x with
   | .str s=>.pure True (.int .i64 s.size)
   | _=>.fail
  | false=>match sl with
   | some _=>match x with
    | .sl _ _ _ n _=>.pure True (.int .i64 n)
    | .isl _ _ _ _ _ n=>.pure True (.int .i64 n)
    | .csl _ _ _ n _=>.pure True (.int .i64 n)
    | .ro _ n _ _=>.pure True (.int .i64 n)
    | .emp=>.pure True (.int .i64 0)
    | _=>.fail
   | none=>.fail
def evMin:List AV->AR
 | [.int k x,.int k' y]=>bif k == k' then .pure True (.int k (minI x y)) else .fail
 | _=>.fail
def evMax:List AV->AR
 | [.int k x,.int k' y]=>bif k == k' then .pure True (.int k (maxI x y)) else .fail
 | _=>.fail
def evBuiltin (P:Program) (b:Builtin) (ts:List TypeId) (l:List AV) (h:List ABlk):AR:=match b with
 | .len=>match ts,l with
  | [t],[x]=>evLen2 (tslice P t) (tstr P t) (tarr P t) x
  | _,_=>.fail
 | .append=>match ts,l with
  | [st,xt],[s,x]=>bif tintk P xt then evAppZ (tslice P st) (tintk P xt) ((tslice P st).bind (tsz P)) ((tslice P st).bind (tby P)) ((tslice P st).bind (tzero P)) s x h else evAppend (tslice P st) (tnoint P xt) ((tslice P st).bind (tsz P)) ((tslice P st).bind (tby P)) ((tslice P st).bind (tzn P)) s x h
  | _,_=>.fail
 | .copy=>match ts,l with
  | [dt,_],[d,x]=>evCopy ((tslice P dt).bind (tsz P)) d x h
  | _,_=>.fail
 | .clear=>match ts,l with
  | [t],[x]=>evClear ((tslice P t).bind (tzero P)) x h
  | _,_=>.fail
 | .cap=>match ts,l with
  | [t],[x]=>evCap (tslice P t) x
  | _,_=>.fail
 | .min=>evMin l
 | .max=>evMax l
 | _=>.fail

theorem len_sound {t ty:TypeId} {x v:AV} {u:Value} {ob:Prop} (hx:VR E x u) (hr:evLen2 (tslice P t) (tstr P t) (tarr P t) x = .pure ob v):∃ r,(∀ W,(Builtin.len_ #[t] ty #[u]).run P W = .ok r W)/\VR E v r:=by
 have hu:∀ d,P.underlying t=some d->∀ W,(Builtin.len_ #[t] ty #[u]).run P W=(match d,u with
   | .string,.string s=>(pure (goInt s.size):Sem Value)
   | .array n _,_=>pure (goInt n)
   | .slice _,.slice _ n _=>pure (goInt n)
   | _,_=>Builtin.len_ #[t] ty #[u]).run P W:=by
  intro d hd W
  split
  ·simp [Builtin.len_,run_underlying hd]
  ·simp [Builtin.len_,run_underlying hd]
  ·simp [Builtin.len_,run_underlying hd]
  ·rfl
 unfold evLen2 at hr
 split at hr
 ·rename_i n e ha
  injection hr with h1 h2;subst h2
  unfold tarr at ha
  split at ha
  ·rename_i n' e' hd
   injection ha with ha;cases ha
   exact ⟨_,fun W=>by rw [hu _ hd];rfl,.int _ _⟩
  ·cases ha
 ·split at hr
  ·rename_i hs
   split at hr
   ·rename_i s
    injection hr with h1 h2;subst h2
    obtain rfl:=VR_str hx
    unfold tstr at hs
    split at hs
    ·rename_i hd;exact ⟨_,fun W=>by rw [hu _ hd];rfl,.int _ _⟩
    ·cases hs
   ·cases hr
  ·split at hr
   ·rename_i e he
    have hd:=und_of_tslice he
    split at hr
    ·injection hr with h1 h2;subst h2;cases hx;exact ⟨_,fun W=>by rw [hu _ hd];rfl,.int _ _⟩
    ·injection hr with h1 h2;subst h2;cases hx;exact ⟨_,fun W=>by rw [hu _ hd];rfl,.int _ _⟩
    ·injection hr with h1 h2;subst h2;cases hx;exact ⟨_,fun W=>by rw [hu _ hd];rfl,.int _ _⟩
    ·injection hr with h1 h2;subst h2;cases hx;exact ⟨_,fun W=>by rw [hu _ hd];rfl,.int _ _⟩
    ·injection hr with h1 h2;subst h2;cases hx;exact ⟨_,fun W=>by rw [hu _ hd];rfl,.int _ _⟩
    ·cases hr
   ·cases hr

def pO:AR->AR
 | .pure ob v=>.pure ob v
 | .heap _ _ _=>.fail
 | .fail=>.fail
def hO:AR->AR
 | .heap ob v h=>.heap ob v h
 | .pure _ _=>.fail
 | .fail=>.fail
theorem pO_out {r:AR} {ob:Prop} {v:AV} {h':List ABlk} (ho:(pO r).out h=some (ob,v,h')):r = .pure ob v/\h'=h:=by
 cases r<;>simp only [pO,AR.out,Option.some.injEq,Prod.mk.injEq,reduceCtorEq] at ho
 obtain ⟨rfl,rfl,rfl⟩:=ho
 exact ⟨rfl,rfl⟩
theorem hO_out {r:AR} {ob:Prop} {v:AV} {h':List ABlk} (ho:(hO r).out h=some (ob,v,h')):r = .heap ob v h':=by
 cases r<;>simp only [hO,AR.out,Option.some.injEq,Prod.mk.injEq,reduceCtorEq] at ho
 obtain ⟨rfl,rfl,rfl⟩:=ho
 rfl

theorem FR_one {x:AV} {vs:Array Value} (F:FR E [x] vs):∃ u,vs = #[u]/\VR E x u:=by
 have h1:vs.size=1:=by rw [← F.1];rfl
 refine ⟨vs[0],?_,F.2 0 _ _ rfl (Array.getElem?_eq_getElem (by omega))⟩
 apply Array.ext
 ·simp [h1]
 ·intro i hi hi'
  have:i=0:=by omega
  subst this;rfl
theorem FR_two {x y:AV} {vs:Array Value} (F:FR E [x,y] vs):∃ u1 u2,vs = #[u1,u2]/\VR E x u1/\VR E y u2:=by
 have h1:vs.size=2:=by rw [← F.1];rfl
 refine ⟨vs[0],vs[1],?_,F.2 0 _ _ rfl (Array.getElem?_eq_getElem (by omega)),F.2 1 _ _ rfl (Array.getElem?_eq_getElem (by omega))⟩
 apply Array.ext
 ·simp [h1]
 ·intro i hi hi'
  have:i=0 ∨ i=1:=by omega
  rcases this with rfl|rfl<;>rfl

theorem bif_np {c:Bool} {o ob:Prop} {v v':AV} {h':List ABlk}:(bif c then AR.heap o v' h' else .fail) ≠ .pure ob v:=by
 intro he
 cases c<;>cases he
theorem evAppZ_np {st:Option TypeId} {xi:Bool} {z by_:Option Nat} {zl:Option (List AV)} {s x v:AV} {ob:Prop}:evAppZ st xi z by_ zl s x h ≠ .pure ob v:=by
 intro he
 unfold evAppZ at he
 split at he
 ·split at he
  ·exact bif_np he
  ·cases he
 ·cases he
theorem appB_np {c:Bool} {st:Option TypeId} {xi xt:Bool} {z by_ zn:Option Nat} {zl:Option (List AV)} {s x v:AV} {ob:Prop}:(bif c then evAppZ st xi z by_ zl s x h else evAppend st xt z by_ zn s x h) ≠ .pure ob v:=by
 intro he
 cases c
 ·exact evAppend_np he
 ·exact evAppZ_np he
theorem evCopyR_np {z b es i n m:Nat} {x v:AV} {ob:Prop}:evCopyR z b es i n m x h ≠ .pure ob v:=by
 intro he
 unfold evCopyR at he
 split at he
 ·split at he<;>cases he
 ·cases he
theorem evCopyL_np {z b es i j z' n m:Nat} {x v:AV} {ob:Prop}:evCopyL z b es i j z' n m x h ≠ .pure ob v:=by
 intro he
 unfold evCopyL at he
 split at he
 ·split at he<;>cases he
 ·cases he
theorem evCopy_np {z:Option Nat} {d x v:AV} {ob:Prop}:evCopy z d x h ≠ .pure ob v:=by
 intro he
 unfold evCopy at he
 split at he
 ·rename_i z
  split at he
  ·revert he
   cases decide (1 <= z)<;>intro he
   ·cases he
   ·simp only [cond_true] at he
    split at he
    ·exact evCopyR_np he
    ·exact evCopyR_np he
    ·exact evCopyL_np he
    ·cases he
  ·cases he
 ·cases he
theorem evClear_np {l:Option (List AV)} {x v:AV} {ob:Prop}:evClear l x h ≠ .pure ob v:=by
 intro he
 unfold evClear evClearR at he
 split at he
 ·rename_i l
  revert he
  cases decide (1 <= l.length)<;>intro he
  ·cases he
  ·simp only [cond_true] at he
   split at he
   ·split at he<;>cases he
   ·split at he<;>cases he
   ·cases he
 ·cases he

theorem bltin_sound {b:Builtin} {ts:Array TypeId} {ty:TypeId} {cs:Array Bool} {l:List AV} {vs:Array Value} {ob:Prop} {v:AV} {h':List ABlk} (H:HR E h) (F:FR E l vs)
  (hr:(evBuiltin P b ts.toList l h).out h=some (ob,v,h')) (hob:ob) :
  ∃ r E',(builtin b ts ty cs vs).run P E.w = .ok (.value r) E'.w/\Ext E h E' h'/\HR E' h'/\VR E' v r:=by
 obtain ⟨ts⟩:=ts
 unfold evBuiltin at hr
 split at hr
 ·split at hr
  ·rename_i t x e
   simp only at e;subst e
   obtain ⟨u,rfl,hu⟩:=FR_one F
   cases he:evLen2 (tslice P t) (tstr P t) (tarr P t) x with
   | fail=>rw [he] at hr;cases hr
   | heap ob v h'=>exfalso;unfold evLen2 at he;repeat (split at he<;>try cases he)
   | pure ob v =>
    rw [he] at hr
    simp only [AR.out,Option.some.injEq,Prod.mk.injEq] at hr
    obtain ⟨rfl,rfl,rfl⟩:=hr
    obtain ⟨r,q1,q2⟩:=len_sound (ty:=ty) hu he
    exact ⟨r,E,by simp only [builtin,Sem.run_bind,q1,Result.andThen_ok,Sem.run_pure],Ext.refl _ _,H,q2⟩
  ·cases hr
 ·split at hr
  ·rename_i st xt s x e
   simp only at e;subst e
   obtain ⟨u1,u2,rfl,hu1,hu2⟩:=FR_two F
   cases hti:tintk P xt with
   | true =>
    rw [hti] at hr
    simp only [cond_true] at hr
    generalize he:evAppZ (tslice P st) true ((tslice P st).bind (tsz P)) ((tslice P st).bind (tby P)) ((tslice P st).bind (tzero P)) s x h=res at hr
    cases res with
    | fail=>cases hr
    | pure ob v=>exact absurd he evAppZ_np
    | heap ob v h' =>
     simp only [AR.out,Option.some.injEq,Prod.mk.injEq] at hr
     obtain ⟨rfl,rfl,rfl⟩:=hr
     obtain ⟨r,E',q1,q2,q3,q4⟩:=appZ_sound (P:=P) (xt:=xt) (ty:=ty) H hu1 hu2 (by rw [hti];exact he) hob
     exact ⟨r,E',by simp only [builtin,Sem.run_bind,q1,Result.andThen_ok,Sem.run_pure],q2,q3,q4⟩
   | false =>
   rw [hti] at hr
   simp only [cond_false] at hr
   generalize he:evAppend (tslice P st) (tnoint P xt) ((tslice P st).bind (tsz P)) ((tslice P st).bind (tby P)) ((tslice P st).bind (tzn P)) s x h=res at hr
   have hh:∀ ob v,res ≠ .pure ob v:=by
    rintro ob v rfl
    exact evAppend_np he
   cases res with
   | fail=>cases hr
   | pure ob v=>exact absurd rfl (hh ob v)
   | heap ob v h' =>
    simp only [AR.out,Option.some.injEq,Prod.mk.injEq] at hr
    obtain ⟨rfl,rfl,rfl⟩:=hr
    obtain ⟨r,E',q1,q2,q3,q4⟩:=append_sound (ty:=ty) H hu1 hu2 he hob
    exact ⟨r,E',by simp only [builtin,Sem.run_bind,q1,Result.andThen_ok,Sem.run_pure],q2,q3,q4⟩
  ·cases hr
 ·split at hr
  ·rename_i dt st d x e
   simp only at e;subst e
   obtain ⟨u1,u2,rfl,hu1,hu2⟩:=FR_two F
   generalize he:evCopy ((tslice P dt).bind (tsz P)) d x h=res at hr
   cases res with
   | fail=>cases hr
   | pure ob v=>exact absurd he evCopy_np
   | heap ob v h' =>
    simp only [AR.out,Option.some.injEq,Prod.mk.injEq] at hr
    obtain ⟨rfl,rfl,rfl⟩:=hr
    obtain ⟨r,E',q1,q2,q3,q4⟩:=copy_sound (P:=P) (st:=st) (ty:=ty) H hu1 hu2 he hob
    exact ⟨r,E',by simp only [builtin,Sem.run_bind,q1,Result.andThen_ok,Sem.run_pure],q2,q3,q4⟩
  ·cases hr
 ·split at hr
  ·rename_i t x e
   simp only at e;subst e
   obtain ⟨u,rfl,hu⟩:=FR_one F
   generalize he:evClear ((tslice P t).bind (tzero P)) x h=res at hr
   cases res with
   | fail=>cases hr
   | pure ob v=>exact absurd he evClear_np
   | heap ob v h' =>
    simp only [AR.out,Option.some.injEq,Prod.mk.injEq] at hr
    obtain ⟨rfl,rfl,rfl⟩:=hr
    obtain ⟨r,E',q1,q2,q3,q4⟩:=clear_sound (P:=P) (ty:=ty) H hu he hob
    exact ⟨r,E',by simp only [builtin,Sem.run_bind,q1,Result.andThen_ok,Sem.run_pure],q2,q3,q4⟩
  ·cases hr
 ·split at hr
  ·rename_i t x e
   simp only at e;subst e
   obtain ⟨u,rfl,hu⟩:=FR_one F
   cases he:evCap (tslice P t) x with
   | fail=>rw [he] at hr;cases hr
   | heap ob v h'=>exfalso;unfold evCap at he;repeat (split at he<;>try cases he)
   | pure ob v =>
    rw [he] at hr
    simp only [AR.out,Option.some.injEq,Prod.mk.injEq] at hr
    obtain ⟨rfl,rfl,rfl⟩:=hr
    obtain ⟨r,q1,q2⟩:=cap_sound (ty:=ty) hu he
    exact ⟨r,E,by simp only [builtin,Sem.run_bind,q1,Result.andThen_ok,Sem.run_pure],Ext.refl _ _,H,q2⟩
  ·cases hr
 ·unfold evMin at hr
  split at hr
  ·rename_i k x k' y
   obtain ⟨u1,u2,rfl,hu1,hu2⟩:=FR_two F
   obtain rfl:=VR_int hu1
   obtain rfl:=VR_int hu2
   cases hk:(k == k') with
   | false=>rw [hk] at hr;cases hr
   | true =>
    rw [hk] at hr
    simp only [cond_true,AR.out,Option.some.injEq,Prod.mk.injEq] at hr
    obtain ⟨rfl,rfl,rfl⟩:=hr
    exact ⟨.int k (minI x y),E,by simp [builtin,Builtin.min_,Builtin.min2,minI],Ext.refl _ _,H,.int _ _⟩
  ·cases hr
 ·unfold evMax at hr
  split at hr
  ·rename_i k x k' y
   obtain ⟨u1,u2,rfl,hu1,hu2⟩:=FR_two F
   obtain rfl:=VR_int hu1
   obtain rfl:=VR_int hu2
   cases hk:(k == k') with
   | false=>rw [hk] at hr;cases hr
   | true =>
    rw [hk] at hr
    simp only [cond_true,AR.out,Option.some.injEq,Prod.mk.injEq] at hr
    obtain ⟨rfl,rfl,rfl⟩:=hr
    exact ⟨.int k (maxI x y),E,by simp [builtin,Builtin.max_,Builtin.max2,maxI],Ext.refl _ _,H,.int _ _⟩
  ·cases hr
 ·cases hr
end Go.Am

namespace Go.Am
set_option linter.unusedVariables false
variable {P:Program} {E:Env} {h:List ABlk}

/-! ### Maps that are only read -/
theorem avFn_VR (v:Value):VR E (avFn v) v:=by
 unfold avFn
 split
 ·rename_i f args caps
  cases h:args.isEmpty && caps.isEmpty
  ·exact .top _
  ·rw [Bool.and_eq_true,Array.isEmpty_iff,Array.isEmpty_iff] at h
   obtain ⟨rfl,rfl⟩:=h
   exact .fn f [] #[] rfl fun i a v ha=>by simp at ha
 ·exact .top _
theorem avM_VR (v:Value):VR E (avM v) v:=by
 unfold avM
 split
 ·rename_i vs
  cases h:vs.toList.all Value.oneCell'
  ·exact .top _
  ·rw [List.all_eq_true] at h
   refine .agg _ vs (by simp) (fun i v hv=>h v ?_) fun i a v ha hv=>?_
   ·rw [Array.mem_toList_iff,Array.mem_iff_getElem?];exact ⟨i,hv⟩
   ·rw [List.getElem?_map,Array.getElem?_toList,hv] at ha
    simp only [Option.map_some,Option.some.injEq] at ha
    subst ha
    exact avFn_VR v
 ·exact avFn_VR _
theorem lkM_at (n:Int):∀ (m:List (Int × Value)) (i:Nat) (e:Int × Value),m[i]? = some e->e.1=n->(∀ j e',j < i->m[j]? = some e'->e'.1 ≠ n)->VR E (lkM m n) e.2
 | [],i,e,h,_,_=>by simp at h
 | (k,v)::r,i,e,h,h1,h2=>by
  unfold lkM
  by_cases hk:k=n
  ·rw [show bEq n k=true from by simp [bEq,hk]]
   cases i with
   | zero=>simp at h;subst h;exact avM_VR v
   | succ i=>exact absurd hk (h2 0 (k,v) (by omega) rfl)
  ·rw [show bEq n k=false from by simp [bEq];exact fun q=>hk q.symm]
   cases i with
   | zero=>simp at h;subst h;exact absurd h1 hk
   | succ i=>exact lkM_at n r i e (by simpa using h) h1 fun j e' hj hq=>h2 (j+1) e' (by omega) (by simpa using hq)
theorem hasM_ex (n:Int):∀ m:List (Int × Value),hasM m n=true->∃ e ∈ m,e.1=n
 | [],h=>by simp [hasM] at h
 | (k,v)::r,h=>by
  unfold hasM at h
  by_cases hk:k=n
  ·exact ⟨_,List.mem_cons_self ..,hk⟩
  ·rw [show bEq n k=false from by simp [bEq];exact fun q=>hk q.symm] at h
   obtain ⟨e,h1,h2⟩:=hasM_ex n r h
   exact ⟨e,List.mem_cons_of_mem _ h1,h2⟩
theorem findNow_first {d:TypeDesc} {k:Value} (hk:MapKept.IsKey d k):∀ (l:List MapEntry) (i:Nat),(∀ x ∈ l,MapKept.IsKey d x.key)->(∃ x ∈ l,x.key=k) ->
  ∃ j e,Instr.findNow d k l i=some (some (i+j,e.val))/\l[j]? = some e/\e.key=k/\∀ j' e',j' < j->l[j']? = some e'->e'.key ≠ k
 | [],_,_,h=>by obtain ⟨x,hx,_⟩:=h;simp at hx
 | e::es,i,hks,h=>by
  obtain ⟨r,hr,hiff⟩:=MapKept.sameNow_of_keys hk (hks e (.head _))
  cases r with
  | true=>exact ⟨0,e,by simp [Instr.findNow,hr],rfl,(hiff.1 rfl).symm,fun j' e' hj=>by omega⟩
  | false =>
   have hne:e.key ≠ k:=fun q=>by have:=hiff.2 q.symm;cases this
   obtain ⟨x,hx,hxk⟩:=h
   have hx':x ∈ es:=by
    rcases List.mem_cons.1 hx with q|q
    ·exact absurd (q ▸ hxk) hne
    ·exact q
   obtain ⟨j,e1,q1,q2,q3,q4⟩:=findNow_first hk es (i+1) (fun x hx=>hks x (List.mem_cons_of_mem _ hx)) ⟨x,hx',hxk⟩
   refine ⟨j+1,e1,?_,by simpa using q2,q3,fun j' e' hj hq=>?_⟩
   ·simp only [Instr.findNow,hr]
    rw [q1,show i+1+j=i+(j+1) from by omega]
   ·cases j' with
    | zero=>simp at hq;subst hq;exact hne
    | succ j'=>exact q4 j' e' (by omega) (by simpa using hq)
theorem lookup_sound {t:TypeId} {x k v:AV} {u uk:Value} {ob:Prop} {two:Bool} (hx:VR E x u) (hk:VR E k uk) (hr:evLookup (tmap8 P t) x k two = .pure ob v) (hob:ob) :
  ∃ r,(∀ w:World,(∀ k,k < E.w.heap.size->w.heap[k]? = E.w.heap[k]?)->(Instr.lookup t u uk two).run P w = .ok r w)/\VR E v r:=by
 unfold evLookup at hr
 split at hr
 ·rename_i m n ht
  injection hr with h1 h2;subst h1 h2
  unfold tmap8 at ht
  split at ht
  ·rename_i kt et hu
   split at ht
   ·rename_i hd
    cases hk with
    | int =>
     cases hx with
     | mp _ r clock es hp hb he =>
      have hks:∀ x ∈ es.toList,MapKept.IsKey (.int .u8) x.key:=fun x hx=>by
       have:(x.key,x.val) ∈ m.map (fun q=>(Value.int .u8 q.1,q.2)):=by rw [← he];exact List.mem_map_of_mem (f:=fun e:MapEntry=>(e.key,e.val)) hx
       obtain ⟨q,_,hq⟩:=List.mem_map.1 this
       have hq1:Value.int .u8 q.1=x.key:=congrArg Prod.fst hq
       rw [← hq1];exact rfl
      have at_:∀ (i:Nat) (e:MapEntry),es.toList[i]? = some e->∃ q,m[i]? = some q/\e.key = .int .u8 q.1/\e.val=q.2:=fun i e hi=>by
       have h3:=congrArg (fun l=>l[i]?) he
       simp only [List.getElem?_map,hi,Option.map_some] at h3
       cases hm:m[i]? with
       | none=>rw [hm] at h3;cases h3
       | some q =>
        rw [hm] at h3
        simp only [Option.map_some,Option.some.injEq,Prod.mk.injEq] at h3
        exact ⟨q,rfl,h3.1,h3.2⟩
      have hex:∃ x ∈ es.toList,x.key = .int .u8 n:=by
       obtain ⟨q,q1,q2⟩:=hasM_ex n m hob
       have:(Value.int .u8 q.1,q.2) ∈ es.toList.map (fun e=>(e.key,e.val)):=by rw [he];exact List.mem_map_of_mem (f:=fun q:Int × Value=>(Value.int .u8 q.1,q.2)) q1
       obtain ⟨x,hx,hxe⟩:=List.mem_map.1 this
       exact ⟨x,hx,by have h4:x.key=Value.int .u8 q.1:=congrArg Prod.fst hxe;rw [h4,q2]⟩
      have hkk:MapKept.IsKey (.int .u8) (.int .u8 n):=rfl
      obtain ⟨j,e,f1,f2,f3,f4⟩:=findNow_first hkk es.toList 0 hks hex
      obtain ⟨q,g1,g2,g3⟩:=at_ j e f2
      refine ⟨e.val,fun w hw=>?_,?_⟩
      ·have hb':w.heap[r]? = some (.map es clock):=by rw [hw r (Array.getElem?_eq_some_iff.1 hb).1];exact hb
       simp [Instr.lookup,run_underlying hu,MapKept.run_getObj_map hb',MapKept.run_checkKey hd hkk,MapKept.run_findKey hd f1,Result.andThen]
      ·rw [g3]
       refine lkM_at n m j q g1 ?_ fun j' e' hj hm=>?_
       ·rw [g2] at f3;injection f3
       ·intro hn
        have hlen:es.toList.length=m.length:=by have:=congrArg List.length he;simpa using this
        have hj2:j' < es.toList.length:=by rw [hlen];exact (List.getElem?_eq_some_iff.1 hm).1
        obtain ⟨q',k1,k2,k3⟩:=at_ j' _ (List.getElem?_eq_getElem hj2)
        rw [hm] at k1;injection k1 with k1;subst k1
        exact f4 j' _ hj (List.getElem?_eq_getElem hj2) (by rw [k2,hn])
   ·cases ht
  ·cases ht
 ·cases hr
/-! ### Stores -/
theorem store_sound {t:TypeId} {p x v:AV} {u ux:Value} {ob:Prop} {h':List ABlk} (H:HR E h) (hp:VR E p u) (hx:VR E x ux) (hr:evStore (tsz P t) p x h = .heap ob v h') (hob:ob) :
  ∃ E',(Instr.storeAt t u ux).run P E.w = .ok () E'.w/\Ext E h E' h'/\HR E' h'/\v = .top:=by
 unfold evStore at hr
 split at hr
 ·rename_i m b es i j hz
  cases hp with
  | ptr b es i j k o hσ =>
  generalize hst:stB (geth h b) (vcells x) es i j=res at hr
  cases res with
  | none=>cases hr
  | some q =>
  obtain ⟨ob',x'⟩:=q
  simp only [stRes] at hr
  cases hok:((vcells x).length == m && vcOk x) with
  | false=>rw [hok] at hr;cases hr
  | true =>
  rw [hok] at hr
  simp only [cond_true,AR.heap.injEq] at hr
  obtain ⟨rfl,rfl,rfl⟩:=hr
  simp only [Bool.and_eq_true,beq_iff_eq] at hok
  obtain ⟨hm,hok⟩:=hok
  obtain ⟨c1,c2⟩:=VR_cells hok hx
  have hlen:ux.cells.toList.length=(vcells x).length:=by simpa using c1
  have hone:∀ w ∈ ux.cells.toList,w.oneCell'=true:=by
   intro w hw
   obtain ⟨q,hq,e⟩:=List.getElem_of_mem hw
   have hq':q < (vcells x).length:=by omega
   obtain ⟨w',e1,e2,_⟩:=c2 q _ (getL_some hq')
   have:ux.cells[q]? = some w:=by rw [← e];simp
   rw [this] at e1;injection e1 with e1;rw [e1];exact e2
  have hd:geth h b ≠ .dead:=by
   intro hd;rw [hd] at hst;cases hst
  have hb:=geth_some hd
  have hB:=H.blk b _ hb
  have run:∀ (cs:Array Value) (e:TypeId),E.w.heap[k]? = some (.cells cs e (0,0))->o+i * es+j+(vcells x).length <= cs.size ->
    BR { E with w:=putRow E.w k (splice cs (o+i * es+j) ux.cells.toList) e } b x' ->
    ∃ E',(Instr.storeAt t (.pointer (some ⟨k,o+i * es+j,none⟩)) ux).run P E.w = .ok () E'.w/\Ext E h E' (seth h b x')/\HR E' (seth h b x')/\AV.top = .top:=by
   intro cs e hk hfit hbr
   have hsz:(splice cs (o+i * es+j) ux.cells.toList).size=cs.size:=splice_size (by omega)
   obtain ⟨H1,X1⟩:=put_HR H hb hd hσ hk hsz hbr
   rw [← seth_set] at H1 X1
   refine ⟨_,?_,X1,H1,rfl⟩
   have:=run_storeVar (P:=P) (o:=o+i * es+j) hz (by rw [c1,hm]) hk (by rw [c1];omega) hone
   simp only [Instr.storeAt,Instr.sureAddr,Sem.run_bind,Sem.run_pure,Result.andThen_ok]
   exact this
  cases hg:geth h b with
  | dead=>exact absurd hg hd
  | lit e l =>
   rw [hg] at hst hB
   simp only [stB,Option.some.injEq,Prod.mk.injEq] at hst
   obtain ⟨rfl,rfl⟩:=hst
   obtain ⟨k',o',cs,g1,g2,g3,g4⟩:=hB
   rw [hσ] at g1;cases g1
   have K:=keep_put H (cs':=splice cs (o+i * es+j) ux.cells.toList) ⟨b,_,o,hb,hd,hσ⟩ g2 (splice_size (by omega))
   refine run cs e g2 (by omega) ⟨k,o,_,hσ,putRow_same (lt_of_some g2),by rw [splice_size (by omega),putL_length];exact g3,fun q a hq=>?_⟩
   have hql:q < l.length:=by
    rcases Nat.lt_or_ge q l.length with h1|h1
    ·exact h1
    ·rw [List.getElem?_eq_none (by rw [putL_length];exact h1)] at hq;cases hq
   rw [putL_get _ _ _ _ hql] at hq
   rw [splice_get (by omega)]
   by_cases hin:i * es+j <= q/\q < i * es+j+(vcells x).length
   ·rw [if_pos hin] at hq
    rw [if_pos (by omega)]
    obtain ⟨w,e1,e2,e3⟩:=c2 _ _ hq
    refine ⟨w,?_,e2,e3.mono K⟩
    rw [show o+q - (o+i * es+j)=q - (i * es+j) from by omega]
    simpa using e1
   ·rw [if_neg hin] at hq
    rw [if_neg (by omega)]
    obtain ⟨w,e1,e2,e3⟩:=g4 q a hq
    exact ⟨w,e1,e2,e3.mono K⟩
  | row e es' n c =>
   rw [hg] at hst hB
   simp only [stB,Option.some.injEq,Prod.mk.injEq] at hst
   obtain ⟨rfl,rfl⟩:=hst
   obtain ⟨rfl,hin,hjn⟩:=hob
   have hB':=hB
   unfold BR at hB'
   rw [hσ] at hB'
   obtain ⟨cs,g2,g3,g4⟩:=hB'
   have hbd:i * es'+j+(vcells x).length <= n * es':=by
    have:(i+1) * es' <= n * es':=Nat.mul_le_mul_right _ hin
    rw [Nat.succ_mul] at this;omega
   have K:=keep_put H (cs':=splice cs (o+i * es'+j) ux.cells.toList) ⟨b,_,o,hb,hd,hσ⟩ g2 (splice_size (by omega))
   refine run cs e g2 (by omega) ?_
   unfold BR
   rw [show ({ E with w:=putRow E.w k (splice cs (o+i * es'+j) ux.cells.toList) e }:Env).σ b=some (k,o) from hσ]
   refine ⟨_,putRow_same (lt_of_some g2),by rw [splice_size (by omega)];exact g3,fun a y ha hy=>?_⟩
   rw [splice_get (by omega)]
   by_cases hin':a=i/\j <= y/\y < j+(vcells x).length
   ·obtain ⟨rfl,h1,h2⟩:=hin'
    rw [if_pos (by omega)]
    obtain ⟨w,e1,e2,e3⟩:=c2 (y - j) _ (getL_some (by omega))
    refine ⟨w,?_,e2,?_⟩
    ·rw [show o+a * es'+y - (o+a * es'+j)=y - j from by omega];simpa using e1
    ·simp only [upc];rw [if_pos ⟨trivial,h1,h2⟩];exact e3.mono K
   ·have hout:¬ (o+i * es'+j <= o+a * es'+y/\o+a * es'+y < o+i * es'+j+ux.cells.toList.length):=by
     rintro ⟨h1,h2⟩
     rcases Nat.lt_trichotomy a i with h3|h3|h3
     ·have:(a+1) * es' <= i * es':=Nat.mul_le_mul_right _ h3
      rw [Nat.succ_mul] at this;omega
     ·subst h3;exact hin' ⟨rfl,by omega,by omega⟩
     ·have:(i+1) * es' <= a * es':=Nat.mul_le_mul_right _ h3
      rw [Nat.succ_mul] at this;omega
    rw [if_neg hout]
    obtain ⟨w,e1,e2,e3⟩:=g4 a y ha hy
    refine ⟨w,e1,e2,?_⟩
    simp only [upc];rw [if_neg hin'];exact e3.mono K
 ·cases hr

def rhoO (t:List AV):Option Operand->Option AV
 | none=>none
 | some x=>some (rho t x)
def evCall (P:Program) (ct:Ct) (t:List AV) (h:List ABlk) (c:Call):AR:=match c.callee with
 | .value f=>match rho t f with
  | .fn g caps=>ct g (mapR t c.args.toList ++ caps) h
  | .mfn g caps=>ct g (caps ++ mapR t c.args.toList) h
  | _=>.fail
 | .builtin b=>evBuiltin P b c.argTypes.toList (mapR t c.args.toList) h
 | .invoke _ _=>.fail
def bytesL (s:ByteArray):List Int:=(List.range s.size).map (byteAt s)
theorem bytesL_length (s:ByteArray):(bytesL s).length=s.size:=by simp [bytesL]
theorem getD_bytesL {s:ByteArray} {i:Nat} (hi:i < s.size):(bytesL s).getD i default=byteAt s i:=by
 simp [bytesL,List.getD_eq_getElem?_getD,hi]
def strE (s:ByteArray):Nat->Nat->AV:=fun x y=>getL [.int .u8 ((bytesL s).getD x default)] y
theorem strE_at {s:ByteArray} {x y:Nat} (hx:x < s.size) (hy:y < 1):strE s x y = .int .u8 (byteAt s x):=by
 obtain rfl:y=0:=by omega
 simp only [strE,getD_bytesL hx,getL]
def cvO (sb db:Bool) (x:AV) (h:List ABlk) (r:AR):AR:=match x with
 | .str s=>bif sb && db then .heap ((s.size:Int) <= 140737488355328) (.ro 1 (bytesL s).length false (strE s)) h else .fail
 | _=>r
theorem cvO_out {sb db:Bool} {x:AV} {r:AR} {ob:Prop} {v:AV} {h':List ABlk} (ho:(cvO sb db x h (pO r)).out h=some (ob,v,h')) :
  (r = .pure ob v/\h'=h) ∨ ∃ s,x = .str s/\sb=true/\db=true/\ob=((s.size:Int) <= 140737488355328)/\v = .ro 1 (bytesL s).length false (strE s)/\h'=h:=by
 unfold cvO at ho
 split at ho
 ·rename_i s
  cases sb<;>cases db<;>simp only [Bool.and_true,Bool.true_and,Bool.and_false,Bool.false_and,cond_true,cond_false,AR.out,Option.some.injEq,Prod.mk.injEq,reduceCtorEq] at ho
  obtain ⟨rfl,rfl,rfl⟩:=ho
  exact .inr ⟨s,rfl,rfl,rfl,rfl,rfl,rfl⟩
 ·exact .inl (pO_out ho)
theorem cvO_pure {sb db:Bool} {x:AV} {r:AR} {ob:Prop} {v:AV} (ho:cvO sb db x h (pO r) = .pure ob v):r = .pure ob v:=by
 unfold cvO at ho
 split at ho
 ·cases sb<;>cases db<;>simp only [Bool.and_true,Bool.true_and,Bool.and_false,Bool.false_and,cond_true,cond_false,reduceCtorEq] at ho
 ·cases r<;>simp only [pO,reduceCtorEq] at ho ⊢
  exact ho
theorem cvB_sound {sr d:TypeId} {s:ByteArray} (H:HR E h) (hs:tstr P sr=true) (hd:tbytes P d=true) (hb:(s.size:Int) <= 140737488355328) :
  ∃ r E',(convert sr d (.string s)).run P E.w = .ok r E'.w/\Ext E h E' h/\HR E' h/\VR E' (.ro 1 (bytesL s).length false (strE s)) r:=by
 have hsu:P.underlying sr=some .string:=by
  unfold tstr at hs
  split at hs
  ·assumption
  ·cases hs
 obtain ⟨e,hde,he⟩:∃ e,P.underlying d=some (.slice e)/\P.underlying e=some (.int .u8):=by
  unfold tbytes at hd
  split at hd
  ·rename_i e he
   split at hd
   ·rename_i hb;exact ⟨e,he,hb⟩
   ·cases hd
  ·cases hd
 have hrun:=Lib.run_convert_string_bytes E.w sr d e s hsu hde he
 obtain ⟨gb1,gb2⟩:=grown_bounds E.w s.size 0 e (by omega)
 have hold:∀ k,k < E.w.heap.size->(Lib.bytesWorld E.w e s).heap[k]? = E.w.heap[k]?:=fun k hk=>Lib.bytesWorld_at_old E.w e s k hk
 let E':Env:=⟨Lib.bytesWorld E.w e s,E.σ,fun k=>E.prot k ∨ k=E.w.heap.size⟩
 have K:Keep E E':=⟨fun b x hb=>hb,fun k hk=>.inl hk,fun k hk=>hold k (H.prot k hk).1,fun k cs t hk=>⟨cs,(hold k (lt_of_some hk)).trans hk,rfl⟩⟩
 have own:∀ k,Own E' h k ↔ Own E h k:=fun k=>Iff.rfl
 refine ⟨_,E',hrun,⟨rfl,rfl,rfl,K.σ,K.prot,by show _ <= (Lib.bytesWorld E.w e s).heap.size;rw [Lib.bytesWorld_size];omega,K.kind,fun k hk _=>hold k hk,fun k hk=>.inl hk,Nat.le_refl _,fun _ _=>rfl,fun k hk=>?_⟩,⟨fun b x hx=>?_,H.inj,fun k hk=>?_,H.fresh⟩,?_⟩
 ·rcases hk with hk|rfl
  ·exact .inl hk
  ·exact .inr (.inr (Nat.le_refl _))
 ·by_cases hx':x = .dead
  ·subst hx';trivial
  ·exact (H.blk b x hx).mono K rfl fun k o hk=>hold k ((H.blk b x hx).lt hx' hk)
 ·rcases hk with hk|rfl
  ·obtain ⟨p1,p2⟩:=H.prot k hk
   exact ⟨by show k < (Lib.bytesWorld E.w e s).heap.size;rw [Lib.bytesWorld_size];omega,p2⟩
  ·refine ⟨by show _ < (Lib.bytesWorld E.w e s).heap.size;rw [Lib.bytesWorld_size];omega,fun ho=>?_⟩
   have:=H.own_lt ((own _).1 ho)
   omega
 ·rw [bytesL_length]
  refine .ro 1 s.size false (strE s) _ _ gb1 gb2 (fun h=>by cases h) (fun h=>by cases h) (fun x y=>.int .u8 (byteAt s x)) (fun _=>⟨E.w.heap.size,0,rfl,.inr rfl,fun x y hx hy=>?_⟩) (fun x y _ _=>rfl) (fun x y hx hy=>by rw [strE_at hx hy];exact .int _ _) (fun x y hx hy=>by rw [strE_at hx hy];simp only [nref])
  have hc:=Lib.bytesWorld_cell E.w e s x hx
  rw [show 0+x * 1+y=x from by omega]
  rw [hc]
  simp only [byteAt,Array.getD_eq_getD_getElem?,List.getD_eq_getElem?_getD,Array.getElem?_toList]
def evFn (t:List AV) (fn:Fn) (first captured:List Operand):AR:=match fn,first with
 | .func f,[]=>.pure True (.fn f (mapR t captured))
 | .func f,x::xs=>(match captured with
  | []=>.pure True (.mfn f (mapR t (x::xs)))
  | _::_=>.fail)
 | _,_=>.fail
def evO (P:Program) (sh:TypeId->Option (List Leaf)) (ct:Ct) (t:List AV) (h:List ABlk):Op->AR
 | .move x=>.pure True (rho t x)
 | .assign x=>.pure True (rho t x)
 | .pick c a b=>evPick (rho t c) (rho t a) (rho t b)
 | .alloc e=>hO (evAlloc e (tzero P e) h)
 | .box e x=>hO (evBox e (rho t x) h)
 | .build y ps=>pO (evBuild (tplaces P y) (tarr P y) ((tarr P y).bind fun q=>tsz P q.2) (tzero P y) (rho t) ps.toList)
 | .buildSlice y n ps=>hO (evBuildSlice (tslice P y) ((tslice P y).bind (tsz P)) ((tslice P y).bind (tzero P)) n (rho t) ps.toList h)
 | .load y a=>pO (evLoad (tagg P y) (tsz P y) (rho t a) h)
 | .store y a x=>hO (evStore (tsz P y) (rho t a) (rho t x) h)
 | .nilCheck x=>pO (evNil (rho t x))
 | .binOp op y a b _=>pO (evBin2 (tbool P y) (tslice P y) (sh y) op (rho t a) (rho t b))
 | .unOp op _ x=>pO (evUn op (rho t x))
 | .convert s d x=>cvO (tstr P s) (tbytes P d) (rho t x) h (pO (evConv2 (tany P s) (tint P d) (tbytes P s) (tstr P d) (rho t x) h))
 | .makeFunc fn first captured=>evFn t fn first.toList captured.toList
 | .makeSlice y n c=>hO (evMake (tslice P y) ((tslice P y).bind (tsz P)) ((tslice P y).bind (tby P)) ((tslice P y).bind (tzero P)) (rho t n) (rho t c) h)
 | .slice y x lo hi mx=>pO (evSlice2 (tstr P y) (tslice P y) (tarr P y) (((tslice P y).or ((tarr P y).map (·.2))).bind (tsz P)) (rho t x) (rhoO t lo) (rhoO t hi) (rhoO t mx))
 | .fieldAddr s x f=>pO (evFieldAddr (tfld P s f) (rho t x))
 | .field s x f=>pO (evField ((tfld P s f).bind fun q=>tagg P q.1) (tfld P s f) (rho t x))
 | .indexAddr y x i=>pO (evIndexAddr (tslice P y) (tarr P y) (((tslice P y).or ((tarr P y).map (·.2))).bind (tsz P)) (rho t x) (rho t i))
 | .index y x i=>pO (evIndex2 (tstr P y) ((tarr P y).bind fun q=>tagg P q.2) (tarr P y) ((tarr P y).bind fun q=>tsz P q.2) (rho t x) (rho t i))
 | .extract x i=>pO (evExtract (rho t x) i)
 | .lookup y x k two=>pO (evLookup (tmap8 P y) (rho t x) (rho t k) two)
 | .call c=>evCall P ct t h c
 | _=>.fail
def ogC (t:List AV):AV->Operand->Operand->Prop
 | .bool c,a,b=>(c=true->og t a)/\(c=false->og t b)
 | _,_,_=>False
def ogOp (t:List AV):Op->Prop
 | .move x=>og t x
 | .assign x=>og t x
 | .pick c a b=>og t c/\ogC t (rho t c) a b
 | .box _ x=>og t x
 | .build _ ps=>ogP t ps.toList
 | .buildSlice _ _ ps=>ogP t ps.toList
 | .load _ a=>og t a
 | .store _ a x=>og t a/\og t x
 | .nilCheck x=>og t x
 | .binOp _ _ a b _=>og t a/\og t b
 | .unOp _ _ x=>og t x
 | .convert _ _ x=>og t x
 | .makeFunc _ f c=>ogL t c.toList/\ogL t f.toList
 | .makeSlice _ n c=>og t n/\og t c
 | .slice _ x lo hi mx=>og t x/\ogO t lo/\ogO t hi/\ogO t mx
 | .fieldAddr _ x _=>og t x
 | .field _ x _=>og t x
 | .indexAddr _ x i=>og t x/\og t i
 | .index _ x i=>og t x/\og t i
 | .extract x _=>og t x
 | .lookup _ x k _=>og t x/\og t k
 | .call c=>(match c.callee with
  | .value f=>og t f
  | _=>True)/\ogL t c.args.toList
 | _=>True

theorem vro {t:List AV} {a:Act} (F:FR E t a.tmps) {x:Option Operand} (ho:ogO t x):VRO E (rhoO t x) (x.map a.eval):=by
 cases x with
 | none=>trivial
 | some x=>exact rho_sound F ho

theorem fin_pure {o:Oper} {a:Act} {K:Act->World->Prop} {Q:Exit->Act->World->Prop} {r:Value} {v:AV} (H:HR E h) (hrun:(execOp a.eval o).run P E.w = .ok (.value r) E.w) (hv:VR E v r)
  (next:∀ r E',Ext E h E' h->HR E' h->VR E' v r->K (a.put o.dst r) E'.w):o.wp P a E.w K Q:=by
 unfold Oper.wp
 rw [hrun]
 exact next r E (Ext.refl _ _) H hv
theorem fin_heap {o:Oper} {a:Act} {K:Act->World->Prop} {Q:Exit->Act->World->Prop} {v:AV} {h':List ABlk}
  (hrun:∃ r E',(execOp a.eval o).run P E.w = .ok (.value r) E'.w/\Ext E h E' h'/\HR E' h'/\VR E' v r)
  (next:∀ r E',Ext E h E' h'->HR E' h'->VR E' v r->K (a.put o.dst r) E'.w):o.wp P a E.w K Q:=by
 obtain ⟨r,E',h1,h2,h3,h4⟩:=hrun
 unfold Oper.wp
 rw [h1]
 exact next r E' h2 h3 h4

theorem run_callFunc {f:FuncId} {args:Array Value} (hf:Enters P f) (w:World):(callFunc f args).run P w = .ok (.enter f args) w:=by
 obtain ⟨fn,h1,h2,h3⟩:=hf
 simp only [callFunc,program,bind,Sem.bind,Sem.run,h1,h2,h3,Bool.false_eq_true,if_false]
 rfl

theorem op_sound {sh:TypeId->Option (List Leaf)} {ct:Ct} (S:ShOk P sh) (C:CtOk P ct) {t:List AV} {o:Oper} {a:Act} {K:Act->World->Prop} {Q:Exit->Act->World->Prop} {ob:Prop} {v:AV} {h':List ABlk}
  (H:HR E h) (F:FR E t a.tmps) (hr:(evO P sh ct t h o.op).out h=some (ob,v,h')) (hob:ob) (hog:ogOp t o.op)
  (next:∀ r E',Ext E h E' h'->HR E' h'->VR E' v r->K (a.put o.dst r) E'.w):o.wp P a E.w K Q:=by
 obtain ⟨dst,op,ty,pos,after,guard⟩:=o
 have ex:∀ {r:Value} (s:Sem Value),(∃ r,(∀ w,s.run P w = .ok r w)/\VR E v r)->∃ r,(do pure (.value (← s)):Sem Next).run P E.w = .ok (.value r) E.w/\VR E v r:=by
  rintro _ s ⟨r,h1,h2⟩
  exact ⟨r,by rw [Sem.run_bind,h1];rfl,h2⟩
 cases op
 case move x =>
  simp only [evO,AR.out,Option.some.injEq,Prod.mk.injEq] at hr
  obtain ⟨rfl,rfl,rfl⟩:=hr
  exact fin_pure H rfl (rho_sound F hog) next
 case assign x =>
  simp only [evO,AR.out,Option.some.injEq,Prod.mk.injEq] at hr
  obtain ⟨rfl,rfl,rfl⟩:=hr
  exact fin_pure H rfl (rho_sound F hog) next
 case pick c x y =>
  simp only [evO] at hr
  simp only [ogOp] at hog
  obtain ⟨hc,hog⟩:=hog
  cases hb:rho t c with
  | bool b =>
   rw [hb] at hog hr
   simp only [ogC] at hog
   have hp:evPick (.bool b) (rho t x) (rho t y) = .pure ob v/\h'=h:=by
    rcases pick_pf (.bool b) (rho t x) (rho t y) with ⟨o,w,hp⟩|hp
    ·rw [hp] at hr ⊢
     simp only [AR.out,Option.some.injEq,Prod.mk.injEq] at hr
     obtain ⟨rfl,rfl,rfl⟩:=hr
     exact ⟨rfl,rfl⟩
    ·rw [hp] at hr;cases hr
   obtain ⟨hp,rfl⟩:=hp
   obtain ⟨r,h1,h2⟩:=pick_sound (P:=P) (by rw [← hb];exact rho_sound F hc) rfl (fun e=>rho_sound F (hog.1 e)) (fun e=>rho_sound F (hog.2 e)) hp
   exact fin_pure H (h1 _) h2 next
  | _=>rw [hb] at hog;exact hog.elim
 case alloc e =>
  have hr:=hO_out hr
  unfold evAlloc at hr
  split at hr
  ·rename_i l hz
   obtain ⟨i,z,hi,hzv,habs⟩:=zero_of hz
   obtain ⟨H1,X1⟩:=alloc_HR (t:=e) H habs
   injection hr with q1 q2 q3
   subst q2 q3
   exact fin_heap ⟨_,E.push h (.cells z.cells e),by
    show (do pure (.value (← Instr.alloc e true (.tuple #[]))):Sem Next).run P E.w=_
    rw [Sem.run_bind,run_alloc hi hzv];rfl,X1,H1,VR_push_ptr⟩ next
  ·cases hr
 case box e x =>
  have hr:=hO_out hr
  unfold evBox at hr
  cases hk:vcOk (rho t x) with
  | false=>rw [hk] at hr;cases hr
  | true =>
   rw [hk] at hr
   injection hr with q1 q2 q3
   subst q2 q3
   obtain ⟨H1,X1⟩:=box_HR (t:=e) H hk (rho_sound F hog)
   exact fin_heap ⟨_,E.push h (.cells (a.eval x).cells e),by
    show (do pure (.value (← Instr.box e (a.eval x))):Sem Next).run P E.w=_
    rw [Sem.run_bind,run_box];rfl,X1,H1,VR_push_ptr⟩ next
 case build y ps =>
  obtain ⟨hq,rfl⟩:=pO_out hr
  clear hr
  obtain ⟨r,h1,h2⟩:=ex (r:=.nilFunc) _ (build_sound (P:=P) (η:=a.eval) (fun p hp=>rho_sound F (ogP_mem hog p hp)) hq)
  exact fin_pure H h1 h2 next
 case buildSlice y n ps =>
  have hr:=hO_out hr
  obtain ⟨r,E',h1,h2,h3,h4⟩:=buildSlice_sound (P:=P) (η:=a.eval) H (fun p hp=>rho_sound F (ogP_mem hog p hp)) hr
  exact fin_heap ⟨r,E',by
   show (do pure (.value (← Instr.buildSlice y n (ps.map fun (i,x)=>(i,a.eval x)))):Sem Next).run P E.w=_
   rw [Sem.run_bind,h1];rfl,h2,h3,h4⟩ next
 case load y x =>
  obtain ⟨hq,rfl⟩:=pO_out hr
  clear hr
  obtain ⟨r,h1,h2⟩:=load_sound (P:=P) H (rho_sound F hog) hq hob
  refine fin_pure H ?_ h2 next
  show (do pure (.value (← Instr.loadAt y (a.eval x))):Sem Next).run P E.w=_
  rw [Sem.run_bind,h1 _ fun _ _=>rfl];rfl
 case store y x z =>
  have hr:=hO_out hr
  obtain ⟨E',h1,h2,h3,h4⟩:=store_sound (P:=P) H (rho_sound F hog.1) (rho_sound F hog.2) hr hob
  unfold Oper.wp
  have:(execOp a.eval ⟨dst,.store y x z,ty,pos,after,guard⟩).run P E.w = .ok .skip E'.w:=by
   show (do Instr.storeAt y (a.eval x) (a.eval z);pure .skip:Sem Next).run P E.w=_
   rw [Sem.run_bind,h1];rfl
  rw [this]
  subst h4
  exact next undef E' h2 h3 (.top _)
 case nilCheck x =>
  obtain ⟨hq,rfl⟩:=pO_out hr
  clear hr
  have hx:=rho_sound F hog
  unfold evNil at hq
  split at hq
  ·rename_i e
   rw [e] at hx
   injection hq with q1 q2;subst q2
   generalize ha:a.eval x=u at hx
   cases hx
   exact fin_pure H (by simp only [execOp,ha];rfl) (by rw [e];constructor;assumption) next
  ·rename_i e
   rw [e] at hx
   injection hq with q1 q2;subst q2
   rw [e] at next
   have hx':=hx
   generalize ha:a.eval x=u at hx hx'
   cases hx
   exact fin_pure H (by simp only [execOp,ha];rfl) hx' next
  ·rename_i e
   rw [e] at hx
   injection hq with q1 q2;subst q2
   rw [e] at next
   have hx':=hx
   generalize ha:a.eval x=u at hx hx'
   cases hx
   exact fin_pure H (by simp only [execOp,ha];rfl) hx' next
  ·cases hq
 case binOp op y x z yt =>
  obtain ⟨hq,rfl⟩:=pO_out hr
  clear hr
  obtain ⟨r,h1,h2⟩:=ex (r:=.nilFunc) _ (bin_sound S (rho_sound F hog.1) (rho_sound F hog.2) (xo:=x) (yo:=z) hq hob)
  exact fin_pure H h1 h2 next
 case unOp op y x =>
  obtain ⟨hq,rfl⟩:=pO_out hr
  clear hr
  obtain ⟨r,h1,h2⟩:=ex (r:=.nilFunc) _ (un_sound (P:=P) (rho_sound F hog) hq)
  exact fin_pure H h1 h2 next
 case convert s d x =>
  rcases cvO_out hr with ⟨hq,rfl⟩|⟨sx,q1,q2,q3,q4,q5,q6⟩
  ·clear hr
   obtain ⟨r,h1,h2⟩:=conv2_sound (P:=P) H (rho_sound F hog) hq hob
   exact fin_pure H (r:=r) (by
    show (do pure (.value (← convert s d (a.eval x))):Sem Next).run P E.w=_
    rw [Sem.run_bind,h1 _ fun _ _=>rfl];rfl) h2 next
  ·clear hr
   subst q4 q5 q6
   have hx:=rho_sound F hog
   rw [q1] at hx
   generalize hu:a.eval x=u at hx
   cases hx
   obtain ⟨r,E',h1,h2,h3,h4⟩:=cvB_sound (P:=P) H q2 q3 hob
   exact fin_heap ⟨r,E',by
    show (do pure (.value (← convert s d (a.eval x))):Sem Next).run P E.w=_
    rw [hu,Sem.run_bind,h1];rfl,h2,h3,h4⟩ next
 case makeFunc fn first captured =>
  simp only [evO] at hr
  unfold evFn at hr
  split at hr
  ·rename_i f hf
   simp only [AR.out,Option.some.injEq,Prod.mk.injEq] at hr
   obtain ⟨rfl,rfl,rfl⟩:=hr
   have hfe:first = #[]:=by obtain ⟨l⟩:=first;simp at hf;rw [hf]
   subst hfe
   obtain ⟨q1,q2⟩:=FR_mapR F (xs:=captured) hog.1
   exact fin_pure H (r:=.func (.func f) #[] (captured.map a.eval)) (by simp only [execOp,Instr.makeFunc,Sem.run_bind,Sem.run_pure,Result.andThen_ok,Array.map_empty]) (.fn f _ _ q1 q2) next
  ·rename_i f x xs hf
   split at hr
   ·rename_i hc
    simp only [AR.out,Option.some.injEq,Prod.mk.injEq] at hr
    obtain ⟨rfl,rfl,rfl⟩:=hr
    have hce:captured = #[]:=by obtain ⟨l⟩:=captured;simp at hc;rw [hc]
    subst hce
    obtain ⟨q1,q2⟩:=FR_mapR F (xs:=first) hog.2
    rw [hf] at q1 q2
    exact fin_pure H (r:=.func (.func f) (first.map a.eval) #[]) (by simp only [execOp,Instr.makeFunc,Sem.run_bind,Sem.run_pure,Result.andThen_ok,Array.map_empty]) (.mfn f _ _ q1 q2) next
   ·cases hr
  ·cases hr
 case makeSlice y n c =>
  have hr:=hO_out hr
  obtain ⟨r,E',h1,h2,h3,h4⟩:=make_sound (P:=P) H (rho_sound F hog.1) (rho_sound F hog.2) hr hob
  exact fin_heap ⟨r,E',by
   show (do pure (.value (← Instr.makeSlice y (a.eval n) (a.eval c))):Sem Next).run P E.w=_
   rw [Sem.run_bind,h1];rfl,h2,h3,h4⟩ next
 case slice y x lo hi mx =>
  obtain ⟨hq,rfl⟩:=pO_out hr
  clear hr
  obtain ⟨r,h1,h2⟩:=ex (r:=.nilFunc) _ (slice2_sound (P:=P) (rho_sound F hog.1) (vro F hog.2.1) (vro F hog.2.2.1) (vro F hog.2.2.2) hq hob)
  exact fin_pure H h1 h2 next
 case fieldAddr s x f =>
  obtain ⟨hq,rfl⟩:=pO_out hr
  clear hr
  obtain ⟨r,h1,h2⟩:=ex (r:=.nilFunc) _ (fieldAddr_sound (P:=P) (rho_sound F hog) hq hob)
  exact fin_pure H h1 h2 next
 case field s x f =>
  obtain ⟨hq,rfl⟩:=pO_out hr
  clear hr
  obtain ⟨r,h1,h2⟩:=ex (r:=.nilFunc) _ (field_sound (P:=P) (rho_sound F hog) hq hob)
  exact fin_pure H h1 h2 next
 case indexAddr y x i =>
  obtain ⟨hq,rfl⟩:=pO_out hr
  clear hr
  obtain ⟨r,h1,h2⟩:=ex (r:=.nilFunc) _ (indexAddr_sound (P:=P) (rho_sound F hog.1) (rho_sound F hog.2) hq hob)
  exact fin_pure H h1 h2 next
 case index y x i =>
  obtain ⟨hq,rfl⟩:=pO_out hr
  clear hr
  obtain ⟨r,h1,h2⟩:=ex (r:=.nilFunc) _ (index2_sound (P:=P) (rho_sound F hog.1) (rho_sound F hog.2) hq hob)
  exact fin_pure H h1 h2 next
 case extract x i =>
  obtain ⟨hq,rfl⟩:=pO_out hr
  clear hr
  obtain ⟨r,h1,h2⟩:=ex (r:=.nilFunc) _ (extract_sound (P:=P) (rho_sound F hog) hq hob)
  exact fin_pure H h1 h2 next
 case lookup y x k two =>
  obtain ⟨hq,rfl⟩:=pO_out hr
  clear hr
  obtain ⟨r,h1,h2⟩:=lookup_sound (P:=P) (rho_sound F hog.1) (rho_sound F hog.2) hq hob
  refine fin_pure H (r:=r) ?_ h2 next
  show (do pure (.value (← Instr.lookup y (a.eval x) (a.eval k) two)):Sem Next).run P E.w=_
  rw [Sem.run_bind,h1 E.w (fun _ _=>rfl)];rfl
 case call c =>
  obtain ⟨callee,args,argTypes⟩:=c
  simp only [evO] at hr
  have hargs:=FR_mapR F (xs:=args) hog.2
  unfold evCall at hr
  cases callee with
  | invoke r m=>cases hr
  | builtin b =>
   simp only at hr
   obtain ⟨r,E',h1,h2,h3,h4⟩:=bltin_sound (ty:=ty) (cs:=args.map fun|.const _=>true|_=>false) H hargs hr hob
   refine fin_heap ⟨r,E',?_,h2,h3,h4⟩ next
   show (do let d ← resolve a.eval ⟨.builtin b,args,argTypes⟩ ty;invoke d.target d.args:Sem Next).run P E.w=_
   simp only [resolve,Sem.run_bind,Sem.run_pure,Result.andThen_ok,invoke]
   exact h1
  | value f =>
   simp only at hr
   have hf:=rho_sound F hog.1
   cases hg:rho t f with
   | fn g caps =>
    rw [hg] at hr hf
    simp only at hr
    generalize ha:a.eval f=u at hf
    cases hf with
    | fn g caps vs hl hh =>
    rcases C g with hC|⟨hE,hC,_⟩|hC
    ·rw [hC] at hr;cases hr
    ·have hcall:=hC E h _ _ ob v h' H (FR_append hargs ⟨hl,hh⟩) hr hob
     unfold Oper.wp
     have:(execOp a.eval ⟨dst,.call ⟨.value f,args,argTypes⟩,ty,pos,after,guard⟩).run P E.w = .ok (.enter g (args.map a.eval ++ vs)) E.w:=by
      show (do let d ← resolve a.eval ⟨.value f,args,argTypes⟩ ty;invoke d.target d.args:Sem Next).run P E.w=_
      simp only [resolve,Sem.run_bind,Deferred.ofValue,ha,Sem.run_pure,Result.andThen_ok,invoke,Array.empty_append]
      exact run_callFunc hE _
     rw [this]
     refine Calls.mono hcall ?_
     rintro e w' ⟨u,E',rfl,rfl,q1,q2,q3⟩
     exact next u E' q1 q2 q3
    ·obtain ⟨hn,hp⟩:=hC E h _ _ H (FR_append hargs ⟨hl,hh⟩)
     generalize hcc:ct g _ h=res at hr
     cases res with
     | fail=>cases hr
     | heap ob v h'=>exact absurd hcc (hn _ _ _)
     | pure ob' v' =>
      simp only [AR.out,Option.some.injEq,Prod.mk.injEq] at hr
      obtain ⟨rfl,rfl,rfl⟩:=hr
      obtain ⟨r,_,hv,hrun⟩:=hp _ _ hcc hob
      refine fin_pure H ?_ (hv E) next
      show (do let d ← resolve a.eval ⟨.value f,args,argTypes⟩ ty;invoke d.target d.args:Sem Next).run P E.w=_
      simp only [resolve,Sem.run_bind,Deferred.ofValue,ha,Sem.run_pure,Result.andThen_ok,invoke,Array.empty_append]
      exact hrun
   | mfn g caps =>
    rw [hg] at hr hf
    simp only at hr
    generalize ha:a.eval f=u at hf
    cases hf with
    | mfn g caps vs hl hh =>
    rcases C g with hC|⟨hE,hC,_⟩|hC
    ·rw [hC] at hr;cases hr
    ·have hcall:=hC E h _ _ ob v h' H (FR_append ⟨hl,hh⟩ hargs) hr hob
     unfold Oper.wp
     have:(execOp a.eval ⟨dst,.call ⟨.value f,args,argTypes⟩,ty,pos,after,guard⟩).run P E.w = .ok (.enter g (vs ++ args.map a.eval)) E.w:=by
      show (do let d ← resolve a.eval ⟨.value f,args,argTypes⟩ ty;invoke d.target d.args:Sem Next).run P E.w=_
      simp only [resolve,Sem.run_bind,Deferred.ofValue,ha,Sem.run_pure,Result.andThen_ok,invoke,Array.empty_append,Array.append_empty]
      exact run_callFunc hE _
     rw [this]
     refine Calls.mono hcall ?_
     rintro e w' ⟨u,E',rfl,rfl,q1,q2,q3⟩
     exact next u E' q1 q2 q3
    ·obtain ⟨hn,hp⟩:=hC E h _ _ H (FR_append ⟨hl,hh⟩ hargs)
     generalize hcc:ct g _ h=res at hr
     cases res with
     | fail=>cases hr
     | heap ob v h'=>exact absurd hcc (hn _ _ _)
     | pure ob' v' =>
      simp only [AR.out,Option.some.injEq,Prod.mk.injEq] at hr
      obtain ⟨rfl,rfl,rfl⟩:=hr
      obtain ⟨r,_,hv,hrun⟩:=hp _ _ hcc hob
      refine fin_pure H ?_ (hv E) next
      show (do let d ← resolve a.eval ⟨.value f,args,argTypes⟩ ty;invoke d.target d.args:Sem Next).run P E.w=_
      simp only [resolve,Sem.run_bind,Deferred.ofValue,ha,Sem.run_pure,Result.andThen_ok,invoke,Array.empty_append,Array.append_empty]
      exact hrun
   | _=>rw [hg] at hr;cases hr
 all_goals (simp only [evO] at hr;cases hr)
end Go.Am

namespace Go.Am
set_option linter.unusedVariables false
variable {P:Program} {E:Env} {h:List ABlk}

/-! ### Guards -/
inductive GV where
 | none
 | g (b:Bool)
 | bad
def gvw (b:Bool):Bool->Bool
 | true=>b
 | false=>!b
def gvl (v:AV) (w:Bool):GV:=match v with
 | .bool b=>.g (gvw b w)
 | .opt c x=>match x with
  | .bool b=>.g (c && gvw b w)
  | _=>.bad
 | _=>.bad
def dstOf:List Oper->Nat->Option Nat
 | [],_=>none
 | o::_,0=>o.dst
 | _::l,n+1=>dstOf l n
def gvd (t:List AV) (w:Bool):Option Nat->GV
 | some d=>gvl (getL t d) w
 | none=>.bad
def gval (t:List AV) (all:List Oper):Option (Nat × Bool)->GV
 | none=>.none
 | some (j,w)=>gvd t w (dstOf all j)
def nxt (g:GV) (r:AR) (og:Prop) (d:Option Nat) (t:List AV) (h:List ABlk) (F:List AV->List ABlk->Prop):Prop:=match g with
 | .none=>match r with
  | .pure ob v=>og/\ob/\F (setT t d v) h
  | .heap ob v h'=>og/\ob/\F (setT t d v) h'
  | .fail=>False
 | .g b=>match r with
  | .pure ob v=>(b=true->og/\ob)/\F (setT t d (.opt b v)) h
  | .heap ob v h'=>(b=true->og/\ob/\F (setT t d (.opt true v)) h')/\(b=false->F (setT t d (.opt false .top)) h)
  | .fail=>b=false/\F (setT t d (.opt false .top)) h
 | .bad=>False

inductive Ex where
 | normal
 | exit (id:Nat)
 | ret
 | goto (l:Nat)
def Ex.ex:Ex->Exit
 | .normal=>.normal
 | .exit id=>.exit id
 | .ret=>.ret
 | .goto l=>.goto l
abbrev Kt:=Ex->List AV->List ABlk->Prop
section
variable (P:Program) (sh:TypeId->Option (List Leaf)) (ct:Ct)
def wpO (all:List Oper) (K:Kt):List Oper->List AV->List ABlk->Prop
 | [],t,h=>K .normal t h
 | o::r,t,h=>nxt (gval t all o.guard) (evO P sh ct t h o.op) (ogOp t o.op) o.dst t h (wpO all K r)
end
def Mean (P:Program) (c:Code) (K:Kt) (t:List AV) (h:List ABlk):Prop :=
 ∀ (E:Env) (a:Act) (Q:Exit->Act->World->Prop),HR E h->FR E t a.tmps->a.defers=[] ->
  (∀ (e:Ex) (E':Env) (a':Act) (t':List AV) (h':List ABlk),K e t' h'->Ext E h E' h'->HR E' h'->FR E' t' a'.tmps->a'.defers=[]->Q e.ex a' E'.w)->c.wp P Q a E.w
def kSeq (W:Kt->List AV->List ABlk->Prop) (K:Kt):Kt
 | .normal,t,h=>W K t h
 | .exit id,t,h=>K (.exit id) t h
 | .ret,t,h=>K .ret t h
 | .goto l,t,h=>K (.goto l) t h
def kBlk (id:Nat) (K:Kt):Kt
 | .normal,t,h=>K .normal t h
 | .exit id',t,h=>(match id' == id with
  | true=>K .normal t h
  | false=>K (.exit id') t h)
 | .ret,t,h=>K .ret t h
 | .goto l,t,h=>K (.goto l) t h
def cnd (c:AV) (o:Prop) (A B:Prop):Prop:=match c with
 | .bool b=>o/\(b=true->A)/\(b=false->B)
 | .ub=>o/\A/\B
 | _=>False
def wpC (P:Program) (sh:TypeId->Option (List Leaf)) (ct:Ct):Code->Kt->List AV->List ABlk->Prop
 | .skip,K,t,h=>K .normal t h
 | .region id ops draw,K,t,h=>match draw with
  | false=>wpO P sh ct ops.toList K ops.toList t h
  | true=>Mean P (.region id ops true) K t h
 | .seq a b,K,t,h=>wpC P sh ct a (kSeq (wpC P sh ct b) K) t h
 | .cond c x y,K,t,h=>cnd (rho t c) (og t c) (wpC P sh ct x K t h) (wpC P sh ct y K t h)
 | .block id c,K,t,h=>wpC P sh ct c (kBlk id K) t h
 | .exit id,K,t,h=>K (.exit id) t h
 | .ret,K,t,h=>K .ret t h
 | .loop c,K,t,h=>Mean P (.loop c) K t h
 | .label _,K,t,h=>K .normal t h
 | .goto l,K,t,h=>K (.goto l) t h
 | .scope c,K,t,h=>Mean P (.scope c) K t h
 | _,_,_,_=>False

/-! ### Soundness -/
theorem dstOf_eq (l:List Oper) (j:Nat):dstOf l j=(l[j]?).bind (·.dst):=by
 induction l generalizing j with
 | nil=>simp [dstOf]
 | cons o l ih=>cases j with
  | zero=>simp [dstOf]
  | succ j=>simp [dstOf,ih]
theorem gvl_sound {v:AV} {w b:Bool} {u:Value} (hv:VR E v u) (hg:gvl v w = .g b):((match some u with|some (.bool b)=>some b|_=>none) == some w)=b:=by
 unfold gvl at hg
 split at hg
 ·rename_i c
  obtain rfl:=VR_bool hv
  injection hg with hg;subst hg
  cases w<;>cases c<;>rfl
 ·split at hg
  ·rename_i g x c
   injection hg with hg;subst hg
   cases hv with
   | opt_t a v hv =>
    obtain rfl:=VR_bool hv
    cases w<;>cases c<;>rfl
   | opt_f a=>cases w<;>rfl
  ·cases hg
 ·cases hg
theorem gval_sound {all:List Oper} {ops:Array Oper} (hops:ops.toList=all) {t:List AV} {a:Act} (F:FR E t a.tmps) {o:Oper} :
  (gval t all o.guard = .none->Region.wanted o (yielded ops a.tmps)=true)/\(∀ b,gval t all o.guard = .g b->Region.wanted o (yielded ops a.tmps)=b):=by
 subst hops
 unfold Region.wanted
 cases hgd:o.guard with
 | none=>exact ⟨fun _=>rfl,fun b hb=>by simp [gval] at hb⟩
 | some q =>
  obtain ⟨j,w⟩:=q
  refine ⟨fun hb=>?_,fun b hb=>?_⟩
  ·simp only [gval] at hb
   unfold gvd at hb
   split at hb
   ·unfold gvl at hb
    split at hb
    ·cases hb
    ·split at hb<;>cases hb
    ·cases hb
   ·cases hb
  ·simp only [gval,dstOf_eq] at hb
   unfold gvd at hb
   split at hb
   ·rename_i d hd
    have hlt:d < a.tmps.size:=by
     rcases Nat.lt_or_ge d a.tmps.size with h'|h'
     ·exact h'
     ·rw [getL_none (by rw [F.1];exact h')] at hb;cases hb
    have hd':(ops[j]?).bind (·.dst)=some d:=by rw [← Array.getElem?_toList];exact hd
    have hs:=gvl_sound (F.2 d _ _ (getL_some (by rw [F.1];exact hlt)) (Array.getElem?_eq_getElem hlt)) hb
    simp only [yielded,hd',Option.bind_some,Array.getElem?_eq_getElem hlt]
    exact hs
   ·cases hb

theorem wpO_sound {sh:TypeId->Option (List Leaf)} {ct:Ct} (S:ShOk P sh) (C:CtOk P ct) {ops:Array Oper} {K:Kt} {Q:Exit->Act->World->Prop} (l:List Oper) :
  ∀ (E:Env) (t:List AV) (h:List ABlk) (a:Act),HR E h->FR E t a.tmps->a.defers=[]->wpO P sh ct ops.toList K l t h ->
   (∀ (e:Ex) (E':Env) (a':Act) (t':List AV) (h':List ABlk),K e t' h'->Ext E h E' h'->HR E' h'->FR E' t' a'.tmps->a'.defers=[]->Q e.ex a' E'.w)->wpList P ops Q l a E.w:=by
 induction l with
 | nil=>exact fun E t h a H F hd hw hQ=>hQ .normal E a t h hw (Ext.refl _ _) H F hd
 | cons o l ih =>
  intro E t h a H F hd hw hQ
  obtain ⟨g1,g2⟩:=gval_sound (ops:=ops) rfl (o:=o) F
  simp only [wpO] at hw
  have put_defers:∀ d v,(a.put d v).defers=[]:=by
   intro d v
   cases d with
   | none=>exact hd
   | some d=>exact hd
  have run:∀ ob v h',(evO P sh ct t h o.op).out h=some (ob,v,h')->ogOp t o.op->ob->∀ x,(∀ E' r,VR E' v r->VR E' x r)->wpO P sh ct ops.toList K l (setT t o.dst x) h'->o.wp P a E.w (wpList P ops Q l) Q:=by
   intro ob v h' hr hog hob x hx hw
   refine op_sound S C H F hr hob hog fun r E' X H' hv=>?_
   exact ih E' _ h' _ H' (FR_put (FR_mono (X.keep H) F) (hx _ _ hv) o.dst) (put_defers _ _) hw fun e E2 a' t' h2 hk X2 H2 F2 hd2=>hQ e E2 a' t' h2 hk (X.trans X2) H2 F2 hd2
  have skip:∀ x,wpO P sh ct ops.toList K l (setT t o.dst (.opt false x)) h->wpList P ops Q l (a.put o.dst undef) E.w:=by
   intro x hw
   exact ih E _ h _ H (FR_put F (.opt_f x) o.dst) (put_defers _ _) hw hQ
  have optT:∀ v E' r,VR E' v r->VR E' (.opt true v) r:=fun v E' r h=>.opt_t v r h
  unfold wpList
  unfold nxt at hw
  split at hw
  ·rename_i hg
   rw [if_pos (g1 hg)]
   refine .inl ?_
   split at hw
   ·rename_i ob v hr;obtain ⟨q1,q2,q3⟩:=hw;exact run ob v h (by rw [hr];rfl) q1 q2 v (fun _ _ h=>h) q3
   ·rename_i ob v h' hr;obtain ⟨q1,q2,q3⟩:=hw;exact run ob v h' (by rw [hr];rfl) q1 q2 v (fun _ _ h=>h) q3
   ·exact hw.elim
  ·rename_i b hg
   rw [g2 b hg]
   split at hw
   ·rename_i ob v hr
    obtain ⟨q1,q3⟩:=hw
    cases b with
    | true=>rw [if_pos rfl];exact .inl (run ob v h (by rw [hr];rfl) (q1 rfl).1 (q1 rfl).2 _ (optT v) q3)
    | false=>rw [if_neg (by simp)];exact skip _ q3
   ·rename_i ob v h' hr
    obtain ⟨q1,q3⟩:=hw
    cases b with
    | true=>rw [if_pos rfl];exact .inl (run ob v h' (by rw [hr];rfl) (q1 rfl).1 (q1 rfl).2.1 _ (optT v) (q1 rfl).2.2)
    | false=>rw [if_neg (by simp)];exact skip _ (q3 rfl)
   ·obtain ⟨rfl,q3⟩:=hw
    rw [if_neg (by simp)]
    exact skip _ q3
  ·exact hw.elim

theorem wpC_sound {sh:TypeId->Option (List Leaf)} {ct:Ct} (S:ShOk P sh) (C:CtOk P ct) (c:Code):∀ (K:Kt) (t:List AV) (h:List ABlk),wpC P sh ct c K t h->Mean P c K t h:=by
 induction c with
 | skip=>exact fun K t h hw E a Q H F hd hQ=>wp_skip (hQ .normal E a t h hw (Ext.refl _ _) H F hd)
 | region id ops draw =>
  intro K t h hw E a Q H F hd hQ
  cases draw with
  | true=>exact hw E a Q H F hd hQ
  | false=>exact wp_region_list (wpO_sound S C ops.toList E t h a H F hd hw hQ)
 | seq x y ihx ihy =>
  intro K t h hw E a Q H F hd hQ
  refine wp_seq (ihx _ t h hw E a _ H F hd fun e E' a' t' h' hk X H' F' hd'=>?_)
  cases e with
  | normal=>exact ihy K t' h' hk E' a' Q H' F' hd' fun e2 E2 a2 t2 h2 hk2 X2 H2 F2 hd2=>hQ e2 E2 a2 t2 h2 hk2 (X.trans X2) H2 F2 hd2
  | exit id=>exact hQ (.exit id) E' a' t' h' hk X H' F' hd'
  | ret=>exact hQ .ret E' a' t' h' hk X H' F' hd'
  | goto l=>exact hQ (.goto l) E' a' t' h' hk X H' F' hd'
 | cond c x y ihx ihy =>
  intro K t h hw E a Q H F hd hQ
  simp only [wpC] at hw
  unfold cnd at hw
  split at hw
  ·rename_i b hb
   obtain ⟨ho,h1,h2⟩:=hw
   have hv:=rho_sound F ho
   rw [hb] at hv
   have hv:=VR_bool hv
   cases b with
   | true=>exact wp_cond_true hv (ihx K t h (h1 rfl) E a Q H F hd hQ)
   | false=>exact wp_cond_false hv (ihy K t h (h2 rfl) E a Q H F hd hQ)
  ·rename_i hb
   obtain ⟨ho,h1,h2⟩:=hw
   have hv:=rho_sound F ho
   rw [hb] at hv
   generalize hu:a.eval c=u at hv
   cases hv with
   | ub b =>
   cases b with
   | true=>exact wp_cond_true hu (ihx K t h h1 E a Q H F hd hQ)
   | false=>exact wp_cond_false hu (ihy K t h h2 E a Q H F hd hQ)
  ·exact hw.elim
 | block id c ih =>
  intro K t h hw E a Q H F hd hQ
  refine wp_block (ih _ t h hw E a _ H F hd fun e E' a' t' h' hk X H' F' hd'=>?_)
  cases e with
  | normal=>exact hQ .normal E' a' t' h' hk X H' F' hd'
  | exit id' =>
   simp only [kBlk] at hk
   by_cases hid:id'=id
   ·subst hid
    simp only [beq_self_eq_true] at hk
    simp only [Ex.ex,Exit.inBlock,if_true]
    exact hQ .normal E' a' t' h' hk X H' F' hd'
   ·rw [show (id' == id)=false from by simpa using hid] at hk
    simp only [Ex.ex,Exit.inBlock,if_neg hid]
    exact hQ (.exit id') E' a' t' h' hk X H' F' hd'
  | ret=>exact hQ .ret E' a' t' h' hk X H' F' hd'
  | goto l=>exact hQ (.goto l) E' a' t' h' hk X H' F' hd'
 | exit id=>exact fun K t h hw E a Q H F hd hQ=>wp_exit (hQ (.exit id) E a t h hw (Ext.refl _ _) H F hd)
 | ret=>exact fun K t h hw E a Q H F hd hQ=>wp_ret (hQ .ret E a t h hw (Ext.refl _ _) H F hd)
 | loop c ih=>exact fun K t h hw=>hw
 | label l=>exact fun K t h hw E a Q H F hd hQ=>wp_label (hQ .normal E a t h hw (Ext.refl _ _) H F hd)
 | goto l=>exact fun K t h hw E a Q H F hd hQ=>wp_goto (hQ (.goto l) E a t h hw (Ext.refl _ _) H F hd)
 | scope c ih=>exact fun K t h hw=>hw
 | _=>exact fun K t h hw=>hw.elim
end Go.Am

/-
  Code behind which an invariant of the environment holds; stores through pointers into new rows, which stay rows of their type.
-/
import Derived.Test.YtefiemaoacmdkaaDU
namespace Go.Am
set_option linter.unusedVariables false
variable {P:Program} {E:Env} {h:List ABlk} {I:Env->Prop}

def uV (I:Env->Prop) (P:Program) (c:Code) (K:Kt) (t:List AV) (h:List ABlk):Prop :=
 ∀ (E:Env) (a:Act) (Q:Exit->Act->World->Prop),I E->HR E h->FR E t a.tmps->a.defers=[] ->
  (∀ (e:Ex) (E':Env) (a':Act) (t':List AV) (h':List ABlk),K e t' h'->I E'->HR E' h'->FR E' t' a'.tmps->a'.defers=[]->Q e.ex a' E'.w)->c.wp P Q a E.w
def jP (I:Env->Prop) (P:Program) (ops:Array Oper) (l:List Oper) (K:Kt) (t:List AV) (h:List ABlk):Prop :=
 ∀ (E:Env) (a:Act) (Q:Exit->Act->World->Prop),I E->HR E h->FR E t a.tmps->a.defers=[] ->
  (∀ (e:Ex) (E':Env) (a':Act) (t':List AV) (h':List ABlk),K e t' h'->I E'->HR E' h'->FR E' t' a'.tmps->a'.defers=[]->Q e.ex a' E'.w)->wpList P ops Q l a E.w
def Ikp (I:Env->Prop):Prop:=∀ (E:Env) (h:List ABlk) (E':Env) (h':List ABlk),HR E h->Ext E h E' h'->I E->I E'
theorem ofM (hI:Ikp I) {c:Code} {K:Kt} {t:List AV} (hm:Mean P c K t h):uV I P c K t h :=
 fun E a Q i H F hd hQ=>hm E a Q H F hd fun e E' a' t' h' hk X H' F' hd'=>hQ e E' a' t' h' hk (hI E h E' h' H X i) H' F' hd'
theorem ofO (hI:Ikp I) {ops:Array Oper} {l:List Oper} {K:Kt} {t:List AV} (hm:tU P ops l K t h):jP I P ops l K t h :=
 fun E a Q i H F hd hQ=>hm E a Q H F hd fun e E' a' t' h' hk X H' F' hd'=>hQ e E' a' t' h' hk (hI E h E' h' H X i) H' F' hd'
def kR (I:Env->Prop) (P:Program) (y:Code) (K:Kt):Kt
 | .normal,t,h=>uV I P y K t h
 | .exit id,t,h=>K (.exit id) t h
 | .ret,t,h=>K .ret t h
 | .goto l,t,h=>K (.goto l) t h
theorem yE {y:Code} {K:Kt} {t:List AV}:kR I P y K .normal t h=uV I P y K t h:=rfl
theorem xE {y:Code} {K:Kt} {t:List AV} {id:Nat}:kR I P y K (.exit id) t h=K (.exit id) t h:=rfl
theorem xT {y:Code} {K:Kt} {t:List AV}:kR I P y K .ret t h=K .ret t h:=rfl
theorem jV {x y:Code} {K:Kt} {t:List AV} (hm:uV I P x (kR I P y K) t h):uV I P (.seq x y) K t h:=by
 intro E a Q i H F hd hQ
 refine wp_seq (hm E a _ i H F hd fun e E' a' t' h' hk i' H' F' hd'=>?_)
 cases e with
 | normal=>exact hk E' a' Q i' H' F' hd' hQ
 | exit id=>exact hQ (.exit id) E' a' t' h' hk i' H' F' hd'
 | ret=>exact hQ .ret E' a' t' h' hk i' H' F' hd'
 | goto l=>exact hQ (.goto l) E' a' t' h' hk i' H' F' hd'
theorem condR {c:Operand} {x y:Code} {K:Kt} {t:List AV} (b:Bool) (hb:rho t c = .bool b) (ho:og t c) (h1:b=true->uV I P x K t h) (h2:b=false->uV I P y K t h):uV I P (.cond c x y) K t h:=by
 intro E a Q i H F hd hQ
 have hv:=zS F ho
 rw [hb] at hv
 have hv:=qV hv
 cases b with
 | true=>exact wp_cond_true hv (h1 rfl E a Q i H F hd hQ)
 | false=>exact wp_cond_false hv (h2 rfl E a Q i H F hd hQ)
theorem blkR {id:Nat} {c:Code} {K:Kt} {t:List AV} (hm:uV I P c (eO id K) t h):uV I P (.block id c) K t h:=by
 intro E a Q i H F hd hQ
 refine wp_block (hm E a _ i H F hd fun e E' a' t' h' hk i' H' F' hd'=>?_)
 cases e with
 | normal=>exact hQ .normal E' a' t' h' hk i' H' F' hd'
 | exit id' =>
  simp only [eO] at hk
  by_cases hid:id'=id
  ·subst hid
   simp only [beq_self_eq_true] at hk
   simp only [Ex.ex,Exit.inBlock,if_true]
   exact hQ .normal E' a' t' h' hk i' H' F' hd'
  ·rw [show (id' == id)=false from by simpa using hid] at hk
   simp only [Ex.ex,Exit.inBlock,if_neg hid]
   exact hQ (.exit id') E' a' t' h' hk i' H' F' hd'
 | ret=>exact hQ .ret E' a' t' h' hk i' H' F' hd'
 | goto l=>exact hQ (.goto l) E' a' t' h' hk i' H' F' hd'
theorem skipR {K:Kt} {t:List AV} (hk:K .normal t h):uV I P .skip K t h:=fun E a Q i H F hd hQ=>wp_skip (hQ .normal E a t h hk i H F hd)
theorem exitR {id:Nat} {K:Kt} {t:List AV} (hk:K (.exit id) t h):uV I P (.exit id) K t h:=fun E a Q i H F hd hQ=>wp_exit (hQ (.exit id) E a t h hk i H F hd)
theorem retR {K:Kt} {t:List AV} (hk:K .ret t h):uV I P .ret K t h:=fun E a Q i H F hd hQ=>wp_ret (hQ .ret E a t h hk i H F hd)
theorem regR {id:Nat} {ops:Array Oper} {K:Kt} {t:List AV} (hm:jP I P ops ops.toList K t h):uV I P (.region id ops false) K t h :=
 fun E a Q i H F hd hQ=>wp_region_list (hm E a Q i H F hd hQ)
theorem atR {c:Code} {K:Kt} {t:List AV}
  (hm:∀ (E:Env) (a:Act),I E->HR E h->FR E t a.tmps->∃ (E1:Env) (t1:List AV) (h1:List ABlk) (I1:Env->Prop),E1.w=E.w/\HR E1 h1/\FR E1 t1 a.tmps/\I1 E1/\(∀ E',I1 E'->I E')/\uV I1 P c K t1 h1):uV I P c K t h:=by
 intro E a Q i H F hd hQ
 obtain ⟨E1,t1,h1,I1,e,H1,F1,i1,hi,hm⟩:=hm E a i H F
 rw [← e]
 exact hm E1 a Q i1 H1 F1 hd fun e E' a' t' h' hk i' H' F' hd'=>hQ e E' a' t' h' hk (hi E' i') H' F' hd'
theorem atO {ops:Array Oper} {l:List Oper} {K:Kt} {t:List AV}
  (hm:∀ (E:Env) (a:Act),I E->HR E h->FR E t a.tmps->∃ (t1:List AV) (h1:List ABlk),HR E h1/\FR E t1 a.tmps/\jP I P ops l K t1 h1):jP I P ops l K t h:=by
 intro E a Q i H F hd hQ
 obtain ⟨t1,h1,H1,F1,hm⟩:=hm E a i H F
 exact hm E a Q i H1 F1 hd hQ
theorem loopR {α:Type} (T:α->List AV) (Hp:α->List ABlk) (J:α->Prop) (μ:α->Nat) (x0:α) {c:Code} {K:Kt} (h0:J x0)
  (round:∀ x,J x->uV I P c (kLp (fun t h=>∃ x',J x'/\μ x' < μ x/\∀ (E:Env) (a:Array Value),HR E h->FR E t a->HR E (Hp x')/\FR E (T x') a) K) (T x) (Hp x)):uV I P (.loop c) K (T x0) (Hp x0):=by
 intro E a Q i H F hd hQ
 let Inv (x:α) (a':Act) (w':World):Prop:=J x/\a'.defers=[]/\∃ E',E'.w=w'/\HR E' (Hp x)/\FR E' (T x) a'.tmps/\I E'
 have hmin:∀ a' w',∃ m:Nat,(∃ x,Inv x a' w')->(∃ x,Inv x a' w'/\μ x=m)/\∀ x,Inv x a' w'->m <= μ x:=by
  intro a' w'
  by_cases hx:∃ x,Inv x a' w'
  ·obtain ⟨x,hx⟩:=hx
   obtain ⟨m,m1,m2⟩:=exists_min (p:=fun m=>∃ x,Inv x a' w'/\μ x=m) ⟨μ x,x,hx,rfl⟩
   exact ⟨m,fun _=>⟨m1,fun y hy=>m2 _ ⟨y,hy,rfl⟩⟩⟩
  ·exact ⟨0,fun h=>absurd h hx⟩
 refine wp_loop (fun a' w'=>∃ x,Inv x a' w') (fun a' w'=>Classical.choose (hmin a' w')) ⟨x0,h0,hd,E,rfl,H,F,i⟩ fun a1 w1 hI=>?_
 obtain ⟨⟨x,⟨hJ,hd1,E1,rfl,H1,F1,i1⟩,hm1⟩,hm2⟩:=Classical.choose_spec (hmin a1 w1) hI
 refine round x hJ E1 a1 _ i1 H1 F1 hd1 fun e E2 a2 t2 h2 hk i2 H2 F2 hd2=>?_
 cases e with
 | normal =>
  obtain ⟨x',hJ',hμ,hw⟩:=hk
  obtain ⟨H3,F3⟩:=hw E2 a2.tmps H2 F2
  have hI2:Inv x' a2 E2.w:=⟨hJ',hd2,E2,rfl,H3,F3,i2⟩
  refine ⟨⟨x',hI2⟩,?_⟩
  have h1:=(Classical.choose_spec (hmin a2 E2.w) ⟨x',hI2⟩).2 x' hI2
  show Classical.choose (hmin a2 E2.w) < Classical.choose (hmin a1 E1.w)
  omega
 | exit id=>exact hQ (.exit id) E2 a2 t2 h2 hk i2 H2 F2 hd2
 | ret=>exact hQ .ret E2 a2 t2 h2 hk i2 H2 F2 hd2
 | goto l=>exact hQ (.goto l) E2 a2 t2 h2 hk i2 H2 F2 hd2
def kRO (I:Env->Prop) (P:Program) (ops:Array Oper) (rest:List Oper) (K:Kt):Kt
 | .normal,t,h=>jP I P ops rest K t h
 | .exit id,t,h=>K (.exit id) t h
 | .ret,t,h=>K .ret t h
 | .goto l,t,h=>K (.goto l) t h
theorem yG {ops:Array Oper} {rest:List Oper} {K:Kt} {t:List AV}:kRO I P ops rest K .normal t h=jP I P ops rest K t h:=rfl
theorem endRO {ops:Array Oper} {K:Kt} {t:List AV} (hm:K .normal t h):jP I P ops [] K t h:=fun E a Q i H F hd hQ=>hQ .normal E a t h hm i H F hd
theorem segRO {sh:TypeId->Option (List Leaf)} {ct:Ct} (S:fN P sh) (C:wO P ct) (hI:Ikp I) {ops:Array Oper} {K:Kt} {rest:List Oper} (l:List Oper) :
  ∀ {t:List AV} {h:List ABlk},wpO P sh ct ops.toList (kRO I P ops rest K) l t h->jP I P ops (l ++ rest) K t h:=by
 induction l with
 | nil=>exact fun hw=>hw
 | cons o l ih =>
  intro t h hw E a Q i H F hd hQ
  obtain ⟨g1,g2⟩:=qG (ops:=ops) rfl (o:=o) F
  simp only [wpO] at hw
  have put_defers:∀ d v,(a.put d v).defers=[]:=by
   intro d v
   cases d with
   | none=>exact hd
   | some d=>exact hd
  have run:∀ ob v h',(evO P sh ct t h o.op).out h=some (ob,v,h')->vS t o.op->ob->∀ x,(∀ E' r,VR E' v r->VR E' x r)->wpO P sh ct ops.toList (kRO I P ops rest K) l (wW t o.dst x) h'->o.wp P a E.w (wpList P ops Q (l ++ rest)) Q:=by
   intro ob v h' hr hog hob x hx hw
   refine dD S C H F hr hob hog fun r E' X H' hv=>?_
   exact ih hw E' _ Q (hI E h E' h' H X i) H' (uP (vF (X.keep H) F) (hx _ _ hv) o.dst) (put_defers _ _) hQ
  have skip:∀ x,wpO P sh ct ops.toList (kRO I P ops rest K) l (wW t o.dst (.opt false x)) h->wpList P ops Q (l ++ rest) (a.put o.dst undef) E.w:=by
   intro x hw
   exact ih hw E _ Q i H (uP F (.opt_f x) o.dst) (put_defers _ _) hQ
  have optT:∀ v E' r,VR E' v r->VR E' (.opt true v) r:=fun v E' r h=>.opt_t v r h
  rw [List.cons_append]
  unfold wpList
  unfold nxt at hw
  split at hw
  ·rename_i hg
   rw [if_pos (g1 hg)]
   refine .inl ?_
   split at hw
   ·rename_i ob v hr;obtain ⟨q1,q2,q3⟩:=hw;exact run ob v h (by rw [hr];rfl) q1 q2 v (fun _ _ h=>h) q3
   ·rename_i ob v h' hr;obtain ⟨q1,q2,q3⟩:=hw;exact run ob v h' (by rw [hr];rfl) q1 q2 v (fun _ _ h=>h) q3
   ·exact hw.elim
  ·rename_i b hg
   rw [g2 b hg]
   split at hw
   ·rename_i ob v hr
    obtain ⟨q1,q3⟩:=hw
    cases b with
    | true=>rw [if_pos rfl];exact .inl (run ob v h (by rw [hr];rfl) (q1 rfl).1 (q1 rfl).2 _ (optT v) q3)
    | false=>rw [if_neg (by simp)];exact skip _ q3
   ·rename_i ob v h' hr
    obtain ⟨q1,q3⟩:=hw
    cases b with
    | true=>rw [if_pos rfl];exact .inl (run ob v h' (by rw [hr];rfl) (q1 rfl).1 (q1 rfl).2.1 _ (optT v) (q1 rfl).2.2)
    | false=>rw [if_neg (by simp)];exact skip _ (q3 rfl)
   ·obtain ⟨rfl,q3⟩:=hw
    rw [if_neg (by simp)]
    exact skip _ q3
  ·exact hw.elim
theorem cutRO {sh:TypeId->Option (List Leaf)} {ct:Ct} (S:fN P sh) (C:wO P ct) (hI:Ikp I) (n:Nat) {ops:Array Oper} {K:Kt} {l:List Oper} {t:List AV}
  (hw:wpO P sh ct ops.toList (kRO I P ops (l.drop n) K) (l.take n) t h):jP I P ops l K t h:=by
 have:=segRO S C hI (rest:=l.drop n) (l.take n) hw
 rwa [List.take_append_drop] at this
inductive NF:AV->Prop
 | top:NF .top
 | bool (b:Bool):NF (.bool b)
 | int (k:IntKind) (n:Int):NF (.int k n)
 | val (v:Value):NF (.val v)
 | ptr (b es i j:Nat):NF (.ptr b es i j)
 | ro (es n:Nat) (nl:Bool) (c:Nat->Nat->AV) (hf:¬ Fl es c) (h:∀ x y,x < n->y < es->NF (c x y)):NF (.ro es n nl c)
 | agg (l:List AV) (h:∀ a ∈ l,NF a):NF (.agg l)
def I2 (E0 E:Env):Prop:=E.lo=E0.prot/\(∀ b x,E0.σ b=some x->E.σ b=some x)/\(∀ k,E0.prot k->E.prot k/\E.w.heap[k]? = E0.w.heap[k]?)/\E.w.os=E0.w.os/\E.w.tape=E0.w.tape/\E.w.output=E0.w.output/\E0.w.heap.size <= E.w.heap.size
theorem jX (E0:Env):Ikp (I2 E0):=fun E h E' h' H X ⟨i1,i2,i3,i4,i5,i6,i7⟩ =>
 ⟨X.lo.trans i1,fun b x q=>X.σ b x (i2 b x q),fun k q=>⟨X.prot k (i3 k q).1,(X.frame k (H.prot k (i3 k q).1).1 (H.prot k (i3 k q).1).2).trans (i3 k q).2⟩,X.os.trans i4,X.tape.trans i5,X.output.trans i6,Nat.le_trans i7 X.size⟩
theorem VR.old {E0 E:Env} (i:I2 E0 E) {v:AV} {u:Value} (h:VR E0 v u) (nf:NF v):VR E v u:=by
 induction h with
 | top v=>exact .top v
 | bool b=>exact .bool b
 | int k n=>exact .int k n
 | ptr b es i' j k o h=>exact .ptr b es i' j k o (i.2.1 _ _ h)
 | ro es n nl c a cap hn hcm hnl hz u ha h1 hc hrf ih =>
  cases nf with
  | ro es n nl c hf hN =>
  refine .ro es n nl c a cap hn hcm hnl (zrU hz.1 hf) u (fun hp=>?_) h1 (fun x y hx hy=>ih x y hx hy (hN x y hx hy)) hrf
  obtain ⟨k,o,h1,h2,h3⟩:=ha hp
  exact ⟨k,o,h1,(i.2.2.1 k h2).1,fun x y hx hy=>(cell?_same (i.2.2.1 k h2).2).trans (h3 x y hx hy)⟩
 | agg l vs hl h1 h ih =>
  cases nf with
  | agg l hN=>exact .agg l vs hl h1 fun i a v ha hv=>ih i a v ha hv (hN a (List.mem_of_getElem? ha))
 | val v h1=>exact .val v h1
 | _=>cases nf
def Env.reb (E:Env):Env:={ E with lo:=E.prot }
theorem I2_reb (E:Env):I2 E E.reb:=⟨rfl,fun _ _ h=>h,fun _ h=>⟨h,rfl⟩,rfl,rfl,rfl,Nat.le_refl _⟩
theorem FR_old {E0 E:Env} (i:I2 E0 E) {t:List AV} {a:Array Value} (F:FR E0 t a) (n:∀ v ∈ t,NF v):FR E t a:=⟨F.1,fun j v u h1 h2=>(F.2 j v u h1 h2).old i (n v (List.mem_of_getElem? h1))⟩
def NFb:ABlk->Prop
 | .dead=>True
 | .lit _ l=>∀ a ∈ l,NF a
 | _=>False
theorem HR_reb (H:HR E h) (n:∀ x ∈ h,NFb x):HR E.reb h:=by
 refine ⟨fun b x hb=>?_,H.inj,H.prot,H.fresh,fun k q=>q⟩
 have hB:=H.blk b x hb
 have hn:=n x (List.mem_of_getElem? hb)
 cases x with
 | dead=>trivial
 | lit e l =>
  obtain ⟨k,o,cs,q1,q2,q3,q4⟩:=hB
  exact ⟨k,o,cs,q1,q2,q3,fun j a hj=>by obtain ⟨v,w1,w2,w3⟩:=q4 j a hj;exact ⟨v,w1,w2,w3.old (I2_reb E) (hn a (List.mem_of_getElem? hj))⟩⟩
 | row e es n c=>exact hn.elim
 | mapb k m=>exact hn.elim
theorem HR_re {h':List ABlk} (H:HR E h) (hl:h'.length=h.length) (hb:∀ b x',h'[b]? = some x'->x'=ABlk.dead ∨ (BR E b x'/\∃ x,h[b]? = some x/\x ≠ ABlk.dead)):HR E h':=by
 have lv:∀ b x',h'[b]? = some x'->x' ≠ ABlk.dead->∃ x,h[b]? = some x/\x ≠ ABlk.dead:=fun b x' q d=>((hb b x' q).resolve_left d).2
 refine ⟨fun b x q=>?_,fun b b' x x' k o o' q1 q2 q3 q4 q5 q6=>?_,fun k q=>⟨(H.prot k q).1,fun w=>?_⟩,fun b q=>H.fresh b (by omega),H.lo⟩
 ·rcases hb b x q with e|e
  ·rw [e];trivial
  ·exact e.1
 ·obtain ⟨y,y1,y2⟩:=lv b x q1 q2
  obtain ⟨z,z1,z2⟩:=lv b' x' q3 q4
  exact H.inj b b' y z k o o' y1 y2 z1 z2 q5 q6
 ·obtain ⟨b,x,o,q1,q2,q3⟩:=w
  obtain ⟨y,y1,y2⟩:=lv b x q1 q2
  exact (H.prot k q).2 ⟨b,y,o,y1,y2,q3⟩
def Sk (v v':Value):Prop:=v'=v ∨ (∃ κ n m,v = .int κ n/\v' = .int κ m) ∨ ∃ a b,v = .bool a/\v' = .bool b
theorem Sk.trans {a b c:Value} (h:Sk a b) (g:Sk b c):Sk a c:=by
 rcases h with rfl|⟨κ,n,m,rfl,rfl⟩|⟨x,y,rfl,rfl⟩
 ·exact g
 ·rcases g with rfl|⟨κ',n',m',e,rfl⟩|⟨x,y,e,rfl⟩
  ·exact .inr (.inl ⟨κ,n,m,rfl,rfl⟩)
  ·cases e;exact .inr (.inl ⟨κ,n,m',rfl,rfl⟩)
  ·cases e
 ·rcases g with rfl|⟨κ',n',m',e,rfl⟩|⟨x',y',e,rfl⟩
  ·exact .inr (.inr ⟨x,y,rfl,rfl⟩)
  ·cases e
  ·cases e;exact .inr (.inr ⟨x,y',rfl,rfl⟩)
structure Soft (E E':Env):Prop where
 σ:E'.σ=E.σ
 prot:E'.prot=E.prot
 lo:E'.lo=E.lo
 os:E'.w.os=E.w.os
 tape:E'.w.tape=E.w.tape
 output:E'.w.output=E.w.output
 size:E.w.heap.size <= E'.w.heap.size
 old:∀ k,E.lo k->E'.w.heap[k]? = E.w.heap[k]?
 own:∀ k,k < E.w.heap.size->¬ E.prot k->E'.w.heap[k]? = E.w.heap[k]?
 kind:∀ (k:Nat) cs e,E.w.heap[k]? = some (.cells cs e (0,0))->∃ cs',E'.w.heap[k]? = some (.cells cs' e (0,0))
 cell:∀ (a:Addr) (v:Value),E.w.cell? a=some v->∃ v',E'.w.cell? a=some v'/\Sk v v'
theorem I2_soft {E0 E E':Env} (S:Soft E E') (i:I2 E0 E):I2 E0 E':=by
 obtain ⟨i1,i2,i3,i4,i5,i6,i7⟩:=i
 refine ⟨S.lo.trans i1,fun b x q=>by rw [S.σ];exact i2 b x q,fun k q=>⟨by rw [S.prot];exact (i3 k q).1,(S.old k (by rw [i1];exact q)).trans (i3 k q).2⟩,S.os.trans i4,S.tape.trans i5,S.output.trans i6,Nat.le_trans i7 S.size⟩
def Sc (a b:AV):Prop:=(∃ κ z z',a = .int κ z/\b = .int κ z') ∨ ∃ z z',a = .bool z/\b = .bool z'
theorem Sc.val {E:Env} {a b:AV} (h:Sc a b) {u w:Value} (hu:VR E a u) (hw:VR E b w):Sk u w/\w.cells.toList=[w]/\w.oneCell'=true:=by
 rcases h with ⟨κ,z,z',rfl,rfl⟩|⟨z,z',rfl,rfl⟩
 ·cases hu;cases hw;exact ⟨.inr (.inl ⟨κ,z,z',rfl,rfl⟩),rfl,rfl⟩
 ·cases hu;cases hw;exact ⟨.inr (.inr ⟨z,z',rfl,rfl⟩),rfl,rfl⟩
theorem cell_ne {w w':World} {a:Addr} (h:w'.heap[a.block]? = w.heap[a.block]?):w'.cell? a=w.cell? a:=cell?_same h
theorem softO {ops:Array Oper} {K:Kt} {t:List AV} {o:Oper} {ty:TypeId} {p v:Operand} {es n i j:Nat} {c:Nat->Nat->AV}
  (ho:o.op = .store ty p v) (hdst:o.dst=none) (hgd:o.guard=none) (hz:tsz P ty=some 1) (gp:og t p) (gv:og t v) (hp:rho t p = .rptr es n i j c) (hi:i < n) (hj:j < es) (hf:Fl es c) (hc:Sc (c i j) (rho t v))
  (hm:∀ (E E':Env) (a:Act),I E->HR E h->FR E t a.tmps->Soft E E'->I E'/\∃ (t1:List AV) (h1:List ABlk),HR E' h1/\FR E' t1 a.tmps/\K .normal t1 h1):jP I P ops [o] K t h:=by
 obtain ⟨dst,op,oty,opos,oafter,ogd⟩:=o
 simp only at ho hdst hgd
 subst ho hdst hgd
 intro E a Q i0 H F hd hQ
 have vp:=zS F gp
 have vv:=zS F gv
 rw [hp] at vp
 generalize hpu:a.eval p=up at vp
 generalize hvu:a.eval v=uv at vv
 cases vp with
 | rptr es n i j k o' c u hpr hu h1 hcc hrf =>
 obtain ⟨hpr,hnw⟩:=hpr
 obtain ⟨hlo,cs,e,hk⟩:=hnw hf
 have hcell:=hu i j hi hj
 have hint:=hcc i j hi hj
 obtain ⟨hS0,hcl,h1c⟩:=hc.val hint vv
 generalize hux:u i j=ux at hint hcell hS0
 have hcs:cs[o'+i * es+j]? = some ux:=by
  simp only [World.cell?,hk] at hcell
  simpa using hcell
 have hlt:o'+i * es+j < cs.size:=by
  rcases Nat.lt_or_ge (o'+i * es+j) cs.size with q|q
  ·exact q
  ·rw [Array.getElem?_eq_none q] at hcs;cases hcs
 have hcs1:uv.cells.size=1:=by rw [← Array.length_toList,hcl];rfl
 let w':=wT E.w k (splice cs (o'+i * es+j) [uv]) e
 have hrun:(Instr.storeAt ty (.pointer (some ⟨k,o'+i * es+j,none⟩)) uv).run P E.w = .ok () w':=by
  have:=run_storeVar (P:=P) (v:=uv) (o:=o'+i * es+j) hz hcs1 hk (by rw [hcs1];omega) (by rw [hcl];intro u hu;simp at hu;subst hu;exact h1c)
  simp only [Instr.storeAt,Instr.sureAddr,Sem.run_bind,Sem.run_pure,Result.andThen_ok]
  rw [hcl] at this
  exact this
 have hsp:∀ q,(splice cs (o'+i * es+j) [uv])[q]? = if q=o'+i * es+j then some uv else cs[q]?:=by
  intro q
  rw [jC (by show _+1 <= _;omega)]
  by_cases e:q=o'+i * es+j
  ·subst e;rw [if_pos ⟨Nat.le_refl _,by show _ < _+1;omega⟩,if_pos rfl,Nat.sub_self];rfl
  ·rw [if_neg (by show ¬ (_/\_ < _+1);omega),if_neg e]
 have S:Soft E { E with w:=w' }:=by
  refine ⟨rfl,rfl,rfl,rfl,rfl,rfl,by simp [w',wT],fun q hq=>vV (by rintro rfl;exact hlo hq),fun q _ hq=>vV (by rintro rfl;exact hq hpr),fun q cs' e' hq=>?_,fun ad x hx=>?_⟩
  ·by_cases e2:q=k
   ·subst e2;rw [hk] at hq;cases hq;exact ⟨_,vA (yY hk)⟩
   ·exact ⟨cs',(vV e2).trans hq⟩
  ·obtain ⟨bk,off,spot⟩:=ad
   by_cases e2:bk=k
   ·subst e2
    simp only [World.cell?,hk] at hx
    simp only [World.cell?,w',vA (yY hk),hsp]
    by_cases e3:spot.isSome=true
    ·rw [if_pos e3] at hx;cases hx
    ·rw [if_neg e3] at hx ⊢
     by_cases e4:off=o'+i * es+j
     ·rw [if_pos e4]
      rw [e4,hcs] at hx
      cases hx
      exact ⟨_,rfl,hS0⟩
     ·rw [if_neg e4];exact ⟨x,hx,.inl rfl⟩
   ·exact ⟨x,(cell_ne (w:=E.w) (vV e2)).trans hx,.inl rfl⟩
 obtain ⟨i1,t1,h1',H1,F1,hk1⟩:=hm E _ a i0 H F S
 unfold wpList
 rw [if_pos (show Region.wanted _ _=true from rfl)]
 refine .inl ?_
 unfold Oper.wp
 have:(execOp a.eval ⟨none,.store ty p v,oty,opos,oafter,none⟩).run P E.w = .ok .skip w':=by
  show (do Instr.storeAt ty (a.eval p) (a.eval v);pure .skip:Sem Next).run P E.w=_
  rw [Sem.run_bind,hpu,hvu,hrun];rfl
 rw [this]
 exact hQ .normal { E with w:=w' } _ t1 h1' hk1 i1 H1 F1 hd
theorem cells_soft {E E':Env} (S:Soft E E') {u:Nat->Nat->Value} {n es k o:Nat} (hu:∀ x y,x < n->y < es->E.w.cell? ⟨k,o+x * es+y,none⟩=some (u x y)) :
  ∃ u':Nat->Nat->Value,(∀ x y,x < n->y < es->E'.w.cell? ⟨k,o+x * es+y,none⟩=some (u' x y))/\∀ x y,x < n->y < es->Sk (u x y) (u' x y):=by
 refine ⟨fun x y=>(E'.w.cell? ⟨k,o+x * es+y,none⟩).getD undef,fun x y hx hy=>?_,fun x y hx hy=>?_⟩
 ·obtain ⟨v',q,_⟩:=S.cell _ _ (hu x y hx hy)
  simp only [q,Option.getD_some]
 ·obtain ⟨v',q,r⟩:=S.cell _ _ (hu x y hx hy)
  simp only [q,Option.getD_some]
  exact r
theorem zr_soft {E E':Env} (S:Soft E E') {es n cap:Nat} {c c':Nat->Nat->AV} {a:Option Addr} (h:Zr E.w E.lo es n c a cap) (hf:Fl es c'->Fl es c):Zr E'.w E'.lo es n c' a cap :=
 ⟨h.1,fun p f k o q=>(h.2 p (hf f) k o q).to (fun k r=>by rw [← S.lo];exact r) fun cs e r=>S.kind k cs e r⟩
def NS:AV->Prop
 | .top=>True
 | .bool _=>True
 | .int _ _=>True
 | .ptr _ _ _ _=>True
 | .val _=>True
 | _=>False
theorem VR_soft {E E':Env} (S:Soft E E') {v:AV} {u:Value} (h:VR E v u) (ns:NS v):VR E' v u:=by
 cases h with
 | top=>exact .top _
 | bool=>exact .bool _
 | int=>exact .int _ _
 | ptr b es i j k o h=>exact .ptr b es i j k o (by rw [S.σ];exact h)
 | val _ h1=>exact .val _ h1
 | _=>exact ns.elim
theorem FR_soft {E E':Env} (S:Soft E E') {t:List AV} {a:Array Value} (F:FR E t a) (n:∀ v ∈ t,NS v):FR E' t a:=⟨F.1,fun j v u h1 h2=>VR_soft S (F.2 j v u h1 h2) (n v (List.mem_of_getElem? h1))⟩
def wkL:List AV->List AV->Prop
 | [],[]=>True
 | a::l,b::m=>(b=a ∨ b = .top)/\wkL l m
 | _,_=>False
theorem wkL_get:∀ {l m:List AV},wkL l m->l.length=m.length/\∀ (i:Nat) (b:AV),m[i]? = some b->∃ a,l[i]? = some a/\(b=a ∨ b = .top)
 | [],[],_=>⟨rfl,fun i b h=>by simp at h⟩
 | a::l,c::m,h=>by
  obtain ⟨h1,h2⟩:=wkL_get h.2
  refine ⟨by simp [h1],fun i b hb=>?_⟩
  cases i with
  | zero=>simp only [List.getElem?_cons_zero,Option.some.injEq] at hb;subst hb;exact ⟨a,rfl,h.1⟩
  | succ i=>simp only [List.getElem?_cons_succ] at hb ⊢;exact h2 i b hb
 | [],_::_,h=>h.elim
 | _::_,[],h=>h.elim
theorem FR_wk {t t':List AV} {a:Array Value} (h:wkL t t') (F:FR E t a):FR E t' a:=by
 obtain ⟨h1,h2⟩:=wkL_get h
 refine ⟨h1.symm.trans F.1,fun i b v hb hv=>?_⟩
 obtain ⟨x,q1,q2⟩:=h2 i b hb
 rcases q2 with rfl|rfl
 ·exact F.2 i _ v q1 hv
 ·exact .top v
theorem FR_re {t:List AV} {a:Array Value} (F:FR E t a) (i:Nat) {x:AV} (hx:∀ u,VR E (zL t i) u->VR E x u):FR E (kG t i x) a:=by
 have h:=hx _ (FR_get F i)
 refine ⟨by rw [tH];exact F.1,fun j b v hb hv=>?_⟩
 rw [dO] at hb
 by_cases e:j=i/\i < t.length
 ·rw [if_pos e] at hb
  obtain ⟨rfl,_⟩:=e
  cases hb
  rw [show a.getD j undef=v from by simp [Array.getD_eq_getD_getElem?,hv]] at h
  exact h
 ·rw [if_neg e] at hb
  exact F.2 j b v hb hv
theorem agg_re {l l':List AV} {u:Value} (h:VR E (.agg l) u) (hl:l'.length=l.length) (hh:∀ (j:Nat) (a a':AV),l[j]? = some a->l'[j]? = some a'->∀ v,VR E a v->VR E a' v):VR E (.agg l') u:=by
 cases h with
 | agg l vs hl0 h1 h =>
 refine .agg l' vs (hl.trans hl0) h1 fun j a' v ha' hv=>?_
 have hj:j < l.length:=by
  rcases Nat.lt_or_ge j l.length with q|q
  ·exact q
  ·rw [List.getElem?_eq_none (by omega)] at ha';cases ha'
 exact hh j _ a' (List.getElem?_eq_getElem hj) ha' v (h j _ v (List.getElem?_eq_getElem hj) hv)
theorem BR_re {b:Nat} {e:TypeId} {l l':List AV} (h:BR E b (.lit e l)) (hl:l'.length=l.length) (hh:∀ (j:Nat) (a a':AV),l[j]? = some a->l'[j]? = some a'->∀ v,VR E a v->VR E a' v):BR E b (.lit e l'):=by
 obtain ⟨k,o,cs,q1,q2,q3,q4⟩:=h
 refine ⟨k,o,cs,q1,q2,by omega,fun j a' hj=>?_⟩
 have hj':j < l.length:=by
  rcases Nat.lt_or_ge j l.length with q|q
  ·exact q
  ·rw [List.getElem?_eq_none (by omega)] at hj;cases hj
 obtain ⟨v,w1,w2,w3⟩:=q4 j _ (List.getElem?_eq_getElem hj')
 exact ⟨v,w1,w2,hh j _ a' (List.getElem?_eq_getElem hj') hj v w3⟩
theorem own_cells {E E':Env} (H:HR E h) (S:Soft E E') {b:Nat} {x:ABlk} {k o:Nat} (hb:h[b]? = some x) (hx:x ≠ .dead) (hs:E.σ b=some (k,o)):E'.w.heap[k]? = E.w.heap[k]? :=
 S.own k (BR.lt (E:=E) hx (H.blk b x hb) hs) fun q=>(H.prot k q).2 ⟨b,x,o,hb,hx,hs⟩
theorem litN_soft {E E':Env} (H:HR E h) (S:Soft E E') {b:Nat} {e:TypeId} {l:List AV} (hb:h[b]? = some (.lit e l)) (n:∀ a ∈ l,NS a):BR E' b (.lit e l):=by
 obtain ⟨k,o,cs,q1,q2,q3,q4⟩:=H.blk b _ hb
 exact ⟨k,o,cs,by rw [S.σ];exact q1,(own_cells H S hb (fun e=>by cases e) q1).trans q2,q3,fun j a hj=>by obtain ⟨v,w1,w2,w3⟩:=q4 j a hj;exact ⟨v,w1,w2,VR_soft S w3 (n a (List.mem_of_getElem? hj))⟩⟩
theorem HR_soft {E E':Env} {h':List ABlk} (H:HR E h) (S:Soft E E') (hl:h'.length=h.length) (hb:∀ b x',h'[b]? = some x'->x'=ABlk.dead ∨ (BR E' b x'/\∃ x,h[b]? = some x/\x ≠ ABlk.dead)):HR E' h':=by
 have lv:∀ b x',h'[b]? = some x'->x' ≠ ABlk.dead->∃ x,h[b]? = some x/\x ≠ ABlk.dead:=fun b x' q d=>((hb b x' q).resolve_left d).2
 refine ⟨fun b x q=>?_,fun b b' x x' k o o' q1 q2 q3 q4 q5 q6=>?_,fun k q=>⟨?_,fun w=>?_⟩,fun b q=>by rw [S.σ];exact H.fresh b (by omega),fun k q=>?_⟩
 ·rcases hb b x q with e|e
  ·rw [e];trivial
  ·exact e.1
 ·obtain ⟨y,y1,y2⟩:=lv b x q1 q2
  obtain ⟨z,z1,z2⟩:=lv b' x' q3 q4
  rw [S.σ] at q5 q6
  exact H.inj b b' y z k o o' y1 y2 z1 z2 q5 q6
 ·rw [S.prot] at q
  exact Nat.lt_of_lt_of_le (H.prot k q).1 S.size
 ·rw [S.prot] at q
  obtain ⟨b,x,o,q1,q2,q3⟩:=w
  obtain ⟨y,y1,y2⟩:=lv b x q1 q2
  rw [S.σ] at q3
  exact (H.prot k q).2 ⟨b,y,o,y1,y2,q3⟩
 ·rw [S.lo] at q
  rw [S.prot]
  exact H.lo k q
theorem ro_len {es n:Nat} {nl:Bool} {c:Nat->Nat->AV} {u:Value} (h:VR E (.ro es n nl c) u):n <= maxLen:=by
 cases h with
 | ro es n nl c a cap hn hcm=>exact Nat.le_trans hn hcm
theorem FR_val {t:List AV} {a:Array Value} (F:FR E t a) (i:Nat) {x:AV} (hx:VR E x (a.getD i undef)):FR E (kG t i x) a:=by
 refine ⟨by rw [tH];exact F.1,fun j b v hb hv=>?_⟩
 rw [dO] at hb
 by_cases e:j=i/\i < t.length
 ·rw [if_pos e] at hb
  obtain ⟨rfl,_⟩:=e
  cases hb
  rwa [show a.getD j undef=v from by simp [Array.getD_eq_getD_getElem?,hv]] at hx
 ·rw [if_neg e] at hb
  exact F.2 j b v hb hv
theorem VR.relo {E E':Env} (hw:E'.w=E.w) (hp:∀ k,E.prot k->E'.prot k/\(E'.lo k->E.lo k)) {a:AV} {v:Value} (h:VR E a v) (hn:nref a):VR E' a v:=by
 induction h with
 | top v=>exact .top v
 | bool b=>exact .bool b
 | int k n=>exact .int k n
 | str s=>exact .str s
 | nilp=>exact .nilp
 | ptr b es i j k o h=>simp [nref] at hn
 | rptr es n i j k o c u hq hu h1 hc hrf ih =>
  exact .rptr es n i j k o c u ⟨(hp k hq.1).1,fun f=>⟨fun l=>(hq.2 f).1 ((hp k hq.1).2 l),by rw [hw];exact (hq.2 f).2⟩⟩ (by rw [hw];exact hu) h1 (fun x y hx hy=>ih x y hx hy (hrf x y hx hy)) hrf
 | sl b es i n nl a cap hn' hcm hnl hz hc=>simp [nref] at hn
 | isl b es i j z n cap k o hn' hcm h=>simp [nref] at hn
 | csl b es i n c a hn' hcm hc=>simp [nref] at hn
 | ro es n nl c a cap hn' hcm hnl hz u ha h1 hc hrf ih =>
  refine .ro es n nl c a cap hn' hcm hnl ⟨hz.1,fun p f k o q=>?_⟩ u (fun p=>?_) h1 (fun x y hx hy=>ih x y hx hy (hrf x y hx hy)) hrf
  ·obtain ⟨k',o',q1,q2,_⟩:=ha p
   rw [q] at q1;cases q1
   have z:=hz.2 p f k o q
   exact ⟨fun l=>z.1 ((hp k q2).2 l),by rw [hw];exact z.2⟩
  ·obtain ⟨k,o,q1,q2,q3⟩:=ha p
   exact ⟨k,o,q1,(hp k q2).1,by rw [hw];exact q3⟩
 | emp a=>exact .emp a
 | agg l vs hl h1 h ih=>simp only [nref] at hn;exact .agg l vs hl h1 fun i a v ha hv=>ih i a v ha hv (uN hn ha)
 | tup l vs hl h ih=>simp only [nref] at hn;exact .tup l vs hl fun i a v ha hv=>ih i a v ha hv (uN hn ha)
 | fn f l vs hl h ih=>simp only [nref] at hn;exact .fn f l vs hl fun i a v ha hv=>ih i a v ha hv (uN hn ha)
 | mfn f l vs hl h ih=>simp only [nref] at hn;exact .mfn f l vs hl fun i a v ha hv=>ih i a v ha hv (uN hn ha)
 | nilf=>exact .nilf
 | opt_t a v h ih=>simp only [nref] at hn;exact .opt_t a v (ih hn)
 | opt_f a=>exact .opt_f a
 | ub b=>exact .ub b
 | val v h1=>exact .val v h1
 | mp m r clock es hq hb he=>exact .mp m r clock es (hp r hq).1 (by rw [hw];exact hb) he
theorem wk_back {t t':List AV} {h:List ABlk} (w:wkL t t'):∀ (E:Env) (a:Array Value),HR E h->FR E t a->HR E h/\FR E t' a:=fun E a H F=>⟨H,FR_wk w F⟩
theorem wkR {P:Program} {I:Env->Prop} {c:Code} {K:Kt} {t t':List AV} {h:List ABlk} (w:wkL t t') (hm:uV I P c K t' h):uV I P c K t h:=fun E a Q i H F hd hQ=>hm E a Q i H (FR_wk w F) hd hQ
def Env.soft (E:Env):Env:=⟨E.w,fun _=>none,fun k=>k < E.w.heap.size,fun k=>k < E.w.heap.size/\(E.lo k ∨ ¬ E.prot k)⟩
theorem soft_HR:HR E.soft []:=⟨fun b x hb=>by simp at hb,fun b b' x x' k o o' hb=>by simp at hb,fun k hk=>⟨hk,by rintro ⟨b,x,o,hb,_⟩;simp at hb⟩,fun _ _=>rfl,fun k hk=>hk.1⟩
theorem soft_VR (H:HR E h) {a:AV} {v:Value} (hv:VR E a v) (hn:nref a):VR E.soft a v:=VR.relo (E:=E) (E':=E.soft) rfl (fun k hk=>⟨(H.prot k hk).1,fun l=>l.2.resolve_right fun w=>w hk⟩) hv hn
def SI (E0 E:Env):Prop:=E.lo=E0.lo/\(∀ k,E0.prot k->E.prot k)/\E.w.os=E0.w.os/\E.w.tape=E0.w.tape/\E.w.output=E0.w.output/\E0.w.heap.size <= E.w.heap.size/\(∀ k,E0.lo k->E.w.heap[k]? = E0.w.heap[k]?) /\
 (∀ (k:Nat) cs e,E0.w.heap[k]? = some (.cells cs e (0,0))->∃ cs',E.w.heap[k]? = some (.cells cs' e (0,0)))/\∀ (a:Addr) (v:Value),E0.w.cell? a=some v->∃ v',E.w.cell? a=some v'/\Sk v v'
theorem SI_refl (E:Env):SI E E:=⟨rfl,fun _ h=>h,rfl,rfl,rfl,Nat.le_refl _,fun _ _=>rfl,fun k cs e q=>⟨cs,q⟩,fun a v q=>⟨v,q,.inl rfl⟩⟩
theorem cell_blt {w:World} {a:Addr} {v:Value} (h:w.cell? a=some v):a.block < w.heap.size:=by
 rcases Nat.lt_or_ge a.block w.heap.size with q|q
 ·exact q
 ·simp only [World.cell?,Array.getElem?_eq_none q] at h;cases h
theorem SI_kp (E:Env):Ikp (SI E.soft):=fun E1 h1 E2 h2 H X ⟨i1,i2,i3,i4,i5,i6,i7,i8,i9⟩=>by
 have fr:∀ k,k < E.w.heap.size->E2.w.heap[k]? = E1.w.heap[k]?:=fun k hk=>X.frame k (H.prot k (i2 k hk)).1 (H.prot k (i2 k hk)).2
 refine ⟨X.lo.trans i1,fun k q=>X.prot k (i2 k q),X.os.trans i3,X.tape.trans i4,X.output.trans i5,Nat.le_trans i6 X.size,fun k q=>(fr k q.1).trans (i7 k q),fun k cs e q=>?_,fun a v q=>?_⟩
 ·obtain ⟨cs',q1⟩:=i8 k cs e q
  obtain ⟨cs2,q2,_⟩:=X.kind k cs' e q1
  exact ⟨cs2,q2⟩
 ·obtain ⟨v',q1,q2⟩:=i9 a v q
  exact ⟨v',(cell?_same (fr a.block (cell_blt q))).trans q1,q2⟩
theorem SI_soft {E0 E E':Env} (S:Soft E E') (i:SI E0 E):SI E0 E':=by
 obtain ⟨i1,i2,i3,i4,i5,i6,i7,i8,i9⟩:=i
 refine ⟨S.lo.trans i1,fun k q=>by rw [S.prot];exact i2 k q,S.os.trans i3,S.tape.trans i4,S.output.trans i5,Nat.le_trans i6 S.size,fun k q=>(S.old k (by rw [i1];exact q)).trans (i7 k q),fun k cs e q=>?_,fun a v q=>?_⟩
 ·obtain ⟨cs',q1⟩:=i8 k cs e q
  exact S.kind k cs' e q1
 ·obtain ⟨v',q1,q2⟩:=i9 a v q
  obtain ⟨v2,q3,q4⟩:=S.cell a v' q1
  exact ⟨v2,q3,q2.trans q4⟩
theorem SI_back (H:HR E h) {E':Env} (i:SI E.soft E'):Soft E { E with w:=E'.w }:=by
 obtain ⟨i1,i2,i3,i4,i5,i6,i7,i8,i9⟩:=i
 exact ⟨rfl,rfl,rfl,i3,i4,i5,i6,fun k q=>i7 k ⟨(H.prot k (H.lo k q)).1,.inl q⟩,fun k q w=>i7 k ⟨q,.inr w⟩,i8,i9⟩
def SoftOk (P:Program) (f:FuncId) (a:AV):Prop:=(∃ fn,P.funcs[f]? = some fn/\(fn.name == "runtime.NumGoroutine")=false/\fn.body.isNone=false)/\∀ (E:Env) (h:List ABlk) (v:Value),HR E h->VR E a v->Calls P f #[v] E.w fun e w'=>(∃ u,e = .returned u)/\∃ E',E'.w=w'/\Soft E E'
theorem soft_fn {f:FuncId} {fn:Func} {code:Code} {a:AV} (hf:P.funcs[f]? = some fn) (hn:(fn.name == "runtime.NumGoroutine")=false) (hb:fn.body=some code) (hr:fn.results.toList=[]) (na:nref a)
  (hm:∀ (E:Env) (v:Value),VR E.soft a v->uV (SI E.soft) P code (kY P [] fun _ _=>True) (a::List.replicate (fn.ntmps - 1) .top) []):SoftOk P f a:=by
 refine ⟨⟨fn,hf,hn,by rw [hb];rfl⟩,fun E h v H hv=>?_⟩
 have F1:FR E.soft [a] #[v]:=⟨rfl,fun i x u q1 q2=>by
  cases i with
  | zero=>simp at q1 q2;subst q1 q2;exact soft_VR H hv na
  | succ i=>simp at q1⟩
 have F2:FR E.soft ([a] ++ List.replicate (fn.ntmps - 1) .top) (#[v] ++ Array.replicate (fn.ntmps - #[v].size) undef):=by
  refine xM F1 ⟨by simp,fun i x u q1 q2=>?_⟩
  rw [List.getElem?_replicate] at q1
  split at q1
  ·injection q1 with q1;subst q1;exact .top _
  ·cases q1
 refine calls_of_wp hf hb ?_
 refine hm E v (soft_VR H hv na) E.soft _ _ (SI_refl _) soft_HR F2 rfl fun e E' a' t' h' hk i' H' F' hd=>?_
 have done:cV P fn.results.toList (fun _ _=>True) t' h'->a'.defers=[]/\∃ u,(results fn a'.tmps).run P E'.w = .ok u E'.w/\(fun (e:Ending) w'=>(∃ u,e = .returned u)/\∃ E2:Env,E2.w=w'/\Soft E E2) (.returned u) E'.w:=by
  intro hk
  obtain ⟨u,v',q1,_,q3⟩:=tP (P:=P) H' F' hk
  exact ⟨hd,u,q1,⟨u,rfl⟩,{ E with w:=E'.w },rfl,SI_back H i'⟩
 cases e with
 | normal=>exact done (by rw [hr];exact hk)
 | ret=>exact done (by rw [hr];exact hk)
 | exit id=>exact hk.elim
 | goto l=>exact hk.elim
theorem softCall {f:FuncId} {a:AV} (ok:SoftOk P f a) {ops:Array Oper} {K:Kt} {t:List AV} {l:List Oper} {dst:Nat} {ty:TypeId} {pos:String} {after:Array Edge} {x:Operand} {argTypes:Array TypeId}
  (hx:og t x) (ha:rho t x=a)
  (hm:∀ (E E':Env) (a':Array Value),I E->HR E h->FR E t a'->Soft E E'->I E'/\∃ (t1:List AV) (h1:List ABlk),HR E' h1/\FR E' t1 a'/\jP I P ops l K (kG t1 dst .top) h1):jP I P ops (⟨some dst,.call ⟨.value (.func f),#[x],argTypes⟩,ty,pos,after,none⟩::l) K t h:=by
 intro E ac Q i H F hd hQ
 have hv:=zS F hx
 rw [ha] at hv
 obtain ⟨⟨fn,hf,hn,hb⟩,hc⟩:=ok
 have hrun:(execOp ac.eval ⟨some dst,.call ⟨.value (.func f),#[x],argTypes⟩,ty,pos,after,none⟩).run P E.w = .ok (.enter f (#[x].map ac.eval ++ #[])) E.w:=by
  have h0:ac.eval (.func f) = .func (.func f) #[] #[]:=rfl
  show (do let d ← resolve ac.eval ⟨.value (.func f),#[x],argTypes⟩ ty;invoke d.target d.args:Sem Next).run P E.w=_
  simp only [resolve,Sem.run_bind,Deferred.ofValue,h0,Sem.run_pure,Result.andThen_ok,invoke,Array.empty_append]
  exact uH ⟨fn,hf,hn,hb⟩ _
 unfold wpList
 rw [if_pos (show Region.wanted _ _=true from rfl)]
 refine .inl ?_
 unfold Oper.wp
 rw [hrun]
 show Calls P f (#[x].map ac.eval ++ #[]) E.w _
 rw [show #[x].map ac.eval ++ #[] = #[ac.eval x] from by simp]
 refine Calls.mono (hc E h (ac.eval x) H hv) ?_
 rintro e w' ⟨⟨u,rfl⟩,E',rfl,S⟩
 obtain ⟨i',t1,h1,H1,F1,hm1⟩:=hm E E' ac.tmps i H F S
 exact hm1 E' (ac.put (some dst) u) Q i' H1 (uP F1 (.top u) (some dst)) hd hQ
end Go.Am

/-
  The abstract machine, text 5: the walk's own equations, as `simp only` is to use them. a law's call, and what its arguments read as behind it. a scope in which the run jumps back to one label. one operation that sees only the blocks that it names, its new blocks put into places that were kept free. regions that draw their order, whatever they do: the order of the text serves for all. the rule for regions that draw their order. the rule for regions that draw their order, its proof. the rule for regions that draw their order, its last part. the equations of drawn regions for `simp only`.
-/
import Derived.Test.YtefiemaoacmdkaaPm4
import Derived.Carry
import Derived.ProofKit
import Derived.OpenShut
import Derived.ChangeSame
import Derived.Lib.SmallJoins
import Derived.ScopeJumps
namespace Go.Am
set_option linter.unusedVariables false
variable (P:Program) (sh:TypeId->Option (List Leaf)) (ct:Ct)
def kC (b:Code) (K:Kt):Kt:=kSeq (wpC P sh ct b) K
variable {P sh ct} {K:Kt} {t:List AV} {h:List ABlk}
theorem w_skip:wpC P sh ct .skip K t h=K .normal t h:=rfl
theorem w_region {id:Nat} {ops:Array Oper}:wpC P sh ct (.region id ops false) K t h=wpO P sh ct ops.toList K ops.toList t h:=rfl
theorem w_draw {id:Nat} {ops:Array Oper}:wpC P sh ct (.region id ops true) K t h=Mean P (.region id ops true) K t h:=rfl
theorem w_seq {a b:Code}:wpC P sh ct (.seq a b) K t h=wpC P sh ct a (kC P sh ct b K) t h:=rfl
theorem w_cond {c:Operand} {x y:Code}:wpC P sh ct (.cond c x y) K t h=cnd (rho t c) (og t c) (wpC P sh ct x K t h) (wpC P sh ct y K t h):=rfl
theorem w_block {id:Nat} {c:Code}:wpC P sh ct (.block id c) K t h=wpC P sh ct c (eO id K) t h:=rfl
theorem w_exit {id:Nat}:wpC P sh ct (.exit id) K t h=K (.exit id) t h:=rfl
theorem w_ret:wpC P sh ct .ret K t h=K .ret t h:=rfl
theorem w_loop {c:Code}:wpC P sh ct (.loop c) K t h=Mean P (.loop c) K t h:=rfl
theorem w_label {l:Nat}:wpC P sh ct (.label l) K t h=K .normal t h:=rfl
theorem w_goto {l:Nat}:wpC P sh ct (.goto l) K t h=K (.goto l) t h:=rfl
theorem w_scope {c:Code}:wpC P sh ct (.scope c) K t h=Mean P (.scope c) K t h:=rfl
theorem k_goto {b:Code} {l:Nat}:kC P sh ct b K (.goto l) t h=K (.goto l) t h:=rfl
theorem b_goto {i l:Nat}:eO i K (.goto l) t h=K (.goto l) t h:=rfl
theorem k_normal {b:Code}:kC P sh ct b K .normal t h=wpC P sh ct b K t h:=rfl
theorem k_exit {b:Code} {id:Nat}:kC P sh ct b K (.exit id) t h=K (.exit id) t h:=rfl
theorem k_ret {b:Code}:kC P sh ct b K .ret t h=K .ret t h:=rfl
theorem b_normal {i:Nat}:eO i K .normal t h=K .normal t h:=rfl
theorem b_exit {i j:Nat}:eO i K (.exit j) t h=bif j == i then K .normal t h else K (.exit j) t h:=by
 simp only [eO];cases (j == i)<;>rfl
theorem b_ret {i:Nat}:eO i K .ret t h=K .ret t h:=rfl
theorem l_normal {R:List AV->List ABlk->Prop}:kLp R K .normal t h=R t h:=rfl
theorem l_exit {R:List AV->List ABlk->Prop} {id:Nat}:kLp R K (.exit id) t h=K (.exit id) t h:=rfl
theorem l_goto {R:List AV->List ABlk->Prop} {l:Nat}:kLp R K (.goto l) t h=K (.goto l) t h:=rfl
theorem l_ret {R:List AV->List ABlk->Prop}:kLp R K .ret t h=K .ret t h:=rfl
theorem r_normal {rs:List ResultVar} {R:AV->List ABlk->Prop}:kY P rs R .normal t h=cV P rs R t h:=rfl
theorem r_ret {rs:List ResultVar} {R:AV->List ABlk->Prop}:kY P rs R .ret t h=cV P rs R t h:=rfl
theorem o_nil {all:List Oper}:wpO P sh ct all K [] t h=K .normal t h:=rfl
theorem o_cons {all:List Oper} {o:Oper} {r:List Oper}:wpO P sh ct all K (o::r) t h=nxt (gval t all o.guard) (evO P sh ct t h o.op) (vS t o.op) o.dst t h (wpO P sh ct all K r):=rfl
theorem q_nil {all:List Oper}:wpQ P sh ct all K h [] t=K .normal t h:=rfl
theorem q_cons {all:List Oper} {o:Oper} {r:List Oper}:wpQ P sh ct all K h (o::r) t=nxtQ (gval t all o.guard) (evO P sh ct t h o.op) (vS t o.op) o.dst t (wpQ P sh ct all K h r):=rfl
end Go.Am

namespace Go.Am
open Go.RowKit Go.ChangeShapes Go.WideShapes
set_option linter.unusedVariables false
variable {P:Program}

theorem below_of_same {W W':World} (S:Same W W'):Below W.heap.size W W':=⟨S.os,S.tape,S.output,S.size,S.old⟩
def top (W:World):Env:=⟨W,fun _=>none,fun k=>k < W.heap.size,fun _=>False⟩
theorem top_HR (W:World):HR (top W) []:=⟨fun b x hb=>by simp at hb,fun b b' x x' k o o' hb=>by simp at hb,fun k hk=>⟨hk,by rintro ⟨b,x,o,hb,_⟩;simp at hb⟩,fun _ _=>rfl,fun k hk=>hk.elim⟩
section
variable {H:Type} {enc:TypeId × Value->H}
theorem all_stays (hl:laidOutB P=true) {W W':World} {sp:Nat->Bool} (hb:Below W.heap.size W W'):∀ (ts:List TypeId) (vs:List Value) (ds:List (DataW H)) (ps:List MemPlace),(ts.all fun t=>P.readableRec t && decide (t < P.types.size))=true ->
  DataW.TrodAll enc P W 0 (fun _=>true) true ts vs ds ps->(∀ x ∈ ps,x.block < W.heap.size)->(∀ x ∈ ps,sp x.block=true)->DataW.TrodAll enc P W' 0 sp true ts vs ds ps:=by
 intro ts
 induction ts with
 | nil =>
  intro vs ds ps _ h _ _
  obtain ⟨rfl,rfl,rfl⟩:=trodAll_nil h
  exact trodAll_mk0
 | cons t ts ih =>
  intro vs ds ps hts h h1 h2
  obtain ⟨v,vs',d,ds',p,q,rfl,rfl,rfl,hd,hr⟩:=trodAll_cons h
  simp only [List.all_cons,Bool.and_eq_true,decide_eq_true_eq] at hts
  refine trodAll_cons_mk (WideElems.Trod_stays hl hts.1.1 hts.1.2 hd (fun x hx=>hb.same (h1 x (List.mem_append_left _ hx))) fun x hx=>h2 x (List.mem_append_left _ hx)) ?_
  exact ih _ _ _ (by simpa using hts.2) hr (fun x hx=>h1 x (List.mem_append_right _ hx)) fun x hx=>h2 x (List.mem_append_right _ hx)
end
theorem FR_list {E:Env} {l:List AV} {vs:List Value} (h:l.length=vs.length/\∀ (i:Nat) (a:AV) (v:Value),l[i]? = some a->vs[i]? = some v->VR E a v):FR E l vs.toArray:=⟨by simpa using h.1,fun i a v ha hv=>h.2 i a v ha (by simpa using hv)⟩
theorem fl_nil {E:Env}:([]:List AV).length=([]:List Value).length/\∀ (i:Nat) (a:AV) (v:Value),([]:List AV)[i]? = some a->([]:List Value)[i]? = some v->VR E a v:=⟨rfl,fun i a v h=>by simp at h⟩
theorem fl_cons {E:Env} {a:AV} {v:Value} {l:List AV} {vs:List Value} (hv:VR E a v) (h:l.length=vs.length/\∀ (i:Nat) (a:AV) (v:Value),l[i]? = some a->vs[i]? = some v->VR E a v) :
  (a::l).length=(v::vs).length/\∀ (i:Nat) (b:AV) (w:Value),(a::l)[i]? = some b->(v::vs)[i]? = some w->VR E b w:=by
 refine ⟨by simp [h.1],fun i b w hb hw=>?_⟩
 cases i with
 | zero=>simp at hb hw;subst hb hw;exact hv
 | succ i=>exact h.2 i b w (by simpa using hb) (by simpa using hw)
end Go.Am

namespace Go.Am
set_option linter.unusedVariables false
variable {P:Program} {h:List ABlk}

def kSc (l:Nat) (R:List AV->List ABlk->Prop) (K:Kt):Kt
 | .normal,t,h=>K .normal t h
 | .exit id,t,h=>K (.exit id) t h
 | .ret,t,h=>K .ret t h
 | .goto l',t,h=>l'=l/\R t h
theorem s_normal {l:Nat} {R:List AV->List ABlk->Prop} {K:Kt} {t:List AV}:kSc l R K .normal t h=K .normal t h:=rfl
theorem s_exit {l id:Nat} {R:List AV->List ABlk->Prop} {K:Kt} {t:List AV}:kSc l R K (.exit id) t h=K (.exit id) t h:=rfl
theorem s_ret {l:Nat} {R:List AV->List ABlk->Prop} {K:Kt} {t:List AV}:kSc l R K .ret t h=K .ret t h:=rfl
theorem s_goto {l l':Nat} {R:List AV->List ABlk->Prop} {K:Kt} {t:List AV}:kSc l R K (.goto l') t h=(l'=l/\R t h):=rfl
end Go.Am

namespace Go.Am
set_option linter.unusedVariables false
variable {P:Program} {E:Env} {h:List ABlk}

/-! ### The blocks that a value names; their numbers turned -/
mutual
def refs:AV->List Nat
 | .ptr b _ _ _=>[b]
 | .sl b _ _ _ _=>[b]
 | .isl b _ _ _ _ _=>[b]
 | .csl b _ _ _ _=>[b]
 | .agg l=>vC l
 | .tup l=>vC l
 | .fn _ l=>vC l
 | .mfn _ l=>vC l
 | .opt _ v=>refs v
 | .rptr _ _ _ _ _=>[]
 | .ro _ _ _ _=>[]
 | .top=>[]
 | .bool _=>[]
 | .int _ _=>[]
 | .str _=>[]
 | .nilp=>[]
 | .emp=>[]
 | .nilf=>[]
 | .ub=>[]
 | .val _=>[]
 | .mp _=>[]
def vC:List AV->List Nat
 | []=>[]
 | a::l=>refs a ++ vC l
end
def rnN (L s b:Nat):Nat:=bif decide (b < L) then b else s+(b - L)
mutual
def ren (L s:Nat):AV->AV
 | .ptr b es i j=>.ptr (rnN L s b) es i j
 | .sl b es i n nl=>.sl (rnN L s b) es i n nl
 | .isl b es i j z n=>.isl (rnN L s b) es i j z n
 | .csl b es i n c=>.csl (rnN L s b) es i n c
 | .agg l=>.agg (tO L s l)
 | .tup l=>.tup (tO L s l)
 | .fn f l=>.fn f (tO L s l)
 | .mfn f l=>.mfn f (tO L s l)
 | .opt g v=>.opt g (ren L s v)
 | .rptr es n i j c=>.rptr es n i j c
 | .ro es n nl c=>.ro es n nl c
 | .top=>.top
 | .bool b=>.bool b
 | .int k n=>.int k n
 | .str s=>.str s
 | .nilp=>.nilp
 | .emp=>.emp
 | .nilf=>.nilf
 | .ub=>.ub
 | .val v=>.val v
 | .mp m=>.mp m
def tO (L s:Nat):List AV->List AV
 | []=>[]
 | a::l=>ren L s a::tO L s l
end
theorem renL_get (L s:Nat) (l:List AV) (i:Nat):(tO L s l)[i]? = (l[i]?).map (ren L s):=by
 induction l generalizing i with
 | nil=>simp [tO]
 | cons a l ih=>cases i<;>simp [tO,ih]
theorem renL_length (L s:Nat) (l:List AV):(tO L s l).length=l.length:=by
 induction l with
 | nil=>rfl
 | cons a l ih=>simp [tO,ih]
theorem VR.ren {E':Env} {L s:Nat} (hw:E'.w=E.w) (hp:E'.prot=E.prot) (hσ:∀ b x,E.σ b=some x->E'.σ (rnN L s b)=some x) {a:AV} {v:Value} (h:VR E a v) (hlo:∀ k,E'.lo k->E.lo k:=by first|exact fun _ h=>h|assumption):VR E' (ren L s a) v:=by
 have vw:∀ {a v},VR E a v->nref a->VR E' a v:=fun h hn=>VR.view (E:=E) (E':=E') (fun k hk=>⟨by rw [hp];exact hk,by rw [hw]⟩) h hn
 have lst:∀ (l:List AV) (vs:Array Value),l.length=vs.size->(∀ (i:Nat) (a:AV) (v:Value),l[i]? = some a->vs[i]? = some v->VR E' (Am.ren L s a) v) ->
   (tO L s l).length=vs.size/\∀ (i:Nat) (a:AV) (v:Value),(tO L s l)[i]? = some a->vs[i]? = some v->VR E' a v:=by
  intro l vs hl ih
  refine ⟨by rw [renL_length,hl],fun i a v ha hv=>?_⟩
  rw [renL_get] at ha
  cases hi:l[i]? with
  | none=>rw [hi] at ha;cases ha
  | some a0 =>
   rw [hi] at ha
   simp only [Option.map_some,Option.some.injEq] at ha
   subst ha
   exact ih i a0 v hi hv
 induction h with
 | top v=>simp only [Am.ren];exact .top v
 | bool b=>simp only [Am.ren];exact .bool b
 | int k n=>simp only [Am.ren];exact .int k n
 | str s=>simp only [Am.ren];exact .str s
 | nilp=>simp only [Am.ren];exact .nilp
 | ptr b es i j k o h=>simp only [Am.ren];exact .ptr _ es i j k o (hσ _ _ h)
 | rptr es m i j k o c u hp' hu h1 hc hrf ih=>simp only [Am.ren];exact vw (.rptr es m i j k o c u hp' hu h1 hc hrf) (by simp only [nref])
 | sl b es i m nl a cap hm hcm hnl hz hc =>
  simp only [Am.ren]
  refine .sl _ es i m nl a cap hm hcm hnl hz fun hp'=>?_
  obtain ⟨k,o,cs,e,g1,g2,g3,g4⟩:=hc hp'
  exact ⟨k,o,cs,e,hσ _ _ g1,g2,by rw [hw];exact g3,g4⟩
 | isl b es i j z m cap k o hm hcm h=>simp only [Am.ren];exact .isl _ es i j z m cap k o hm hcm (hσ _ _ h)
 | csl b es i m c a hm hcm hc=>simp only [Am.ren];exact .csl _ es i m c a hm hcm fun hp=>by obtain ⟨k,o,cs,e,h1,h2,h3,h4⟩:=hc hp;exact ⟨k,o,cs,e,hσ _ _ h1,h2,by rw [hw];exact h3,h4⟩
 | ro es m nl c a cap hm hcm hnl hz u ha h1 hc hrf ih=>simp only [Am.ren];exact vw (.ro es m nl c a cap hm hcm hnl hz u ha h1 hc hrf) (by simp only [nref])
 | emp a=>simp only [Am.ren];exact .emp a
 | agg l vs hl h1 h ih=>simp only [Am.ren];obtain ⟨q1,q2⟩:=lst l vs hl ih;exact .agg _ vs q1 h1 q2
 | tup l vs hl h ih=>simp only [Am.ren];obtain ⟨q1,q2⟩:=lst l vs hl ih;exact .tup _ vs q1 q2
 | fn f l vs hl h ih=>simp only [Am.ren];obtain ⟨q1,q2⟩:=lst l vs hl ih;exact .fn f _ vs q1 q2
 | mfn f l vs hl h ih=>simp only [Am.ren];obtain ⟨q1,q2⟩:=lst l vs hl ih;exact .mfn f _ vs q1 q2
 | nilf=>simp only [Am.ren];exact .nilf
 | ub b=>simp only [Am.ren];exact .ub b
 | val v h1=>simp only [Am.ren];exact .val v h1
 | mp m r clock es hp hb he=>simp only [Am.ren];exact vw (.mp m r clock es hp hb he) (by simp only [nref])
 | opt_t a v h ih=>simp only [Am.ren];exact .opt_t _ v ih
 | opt_f a=>simp only [Am.ren];exact .opt_f _

/-! ### Only the named blocks -/
def inL (b:Nat):List Nat->Bool
 | []=>false
 | a::l=>(b == a) || inL b l
def wY (rs:List Nat):Nat->List ABlk->List ABlk
 | _,[]=>[]
 | b,x::r=>(bif inL b rs then x else .dead)::wY rs (b+1) r
def mask (rs:List Nat) (h:List ABlk):List ABlk:=wY rs 0 h
def xV (rs:List Nat) (s L k:Nat) (hh:List ABlk):Nat->List ABlk->List ABlk
 | _,[]=>[]
 | b,x::r=>(bif decide (s <= b) && decide (b < s+k) then geth hh (L+(b - s)) else bif inL b rs then geth hh b else x)::xV rs s L k hh (b+1) r
def place (rs:List Nat) (s:Nat) (hh h:List ABlk):List ABlk:=xV rs s h.length (hh.length - h.length) hh 0 h
theorem maskF_length (rs:List Nat) (h:List ABlk):∀ b,(wY rs b h).length=h.length:=by
 induction h with
 | nil=>intro b;rfl
 | cons x r ih=>intro b;simp [wY,ih]
theorem uD (rs:List Nat) (h:List ABlk):(mask rs h).length=h.length:=maskF_length rs h 0
theorem maskF_get (rs:List Nat) (h:List ABlk):∀ (b i:Nat),(wY rs b h)[i]? = (h[i]?).map fun x=>bif inL (b+i) rs then x else .dead:=by
 induction h with
 | nil=>intro b i;simp [wY]
 | cons x r ih =>
  intro b i
  cases i with
  | zero=>simp [wY]
  | succ i=>simp only [wY,List.getElem?_cons_succ,ih];congr 2;funext x;rw [show b+1+i=b+(i+1) from by omega]
theorem dB (rs:List Nat) (h:List ABlk) (i:Nat):(mask rs h)[i]? = (h[i]?).map fun x=>bif inL i rs then x else .dead:=by
 rw [mask,maskF_get];simp
theorem placeF_length (rs:List Nat) (s L k:Nat) (hh h:List ABlk):∀ b,(xV rs s L k hh b h).length=h.length:=by
 induction h with
 | nil=>intro b;rfl
 | cons x r ih=>intro b;simp [xV,ih]
theorem gC (rs:List Nat) (s:Nat) (hh h:List ABlk):(place rs s hh h).length=h.length:=placeF_length ..
theorem placeF_get (rs:List Nat) (s L k:Nat) (hh h:List ABlk):∀ (b i:Nat),(xV rs s L k hh b h)[i]? =
  (h[i]?).map fun x=>bif decide (s <= b+i) && decide (b+i < s+k) then geth hh (L+(b+i - s)) else bif inL (b+i) rs then geth hh (b+i) else x:=by
 induction h with
 | nil=>intro b i;simp [xV]
 | cons x r ih =>
  intro b i
  cases i with
  | zero=>simp [xV]
  | succ i=>simp only [xV,List.getElem?_cons_succ,ih];congr 2;funext x;rw [show b+1+i=b+(i+1) from by omega]
theorem gL (rs:List Nat) (s:Nat) (hh h:List ABlk) (i:Nat):(place rs s hh h)[i]? =
  (h[i]?).map fun x=>bif decide (s <= i) && decide (i < s+(hh.length - h.length)) then geth hh (h.length+(i - s)) else bif inL i rs then geth hh i else x:=by
 rw [place,placeF_get];simp

theorem mask_HR (H:HR E h) (rs:List Nat):HR E (mask rs h):=by
 have hget:∀ {i:Nat} {y:ABlk},(mask rs h)[i]? = some y->y ≠ .dead->h[i]? = some y/\inL i rs=true:=by
  intro i y hi hy
  rw [dB] at hi
  cases hx:h[i]? with
  | none=>rw [hx] at hi;cases hi
  | some x =>
   rw [hx] at hi
   simp only [Option.map_some,Option.some.injEq] at hi
   cases hc:inL i rs with
   | false=>rw [hc] at hi;exact absurd hi.symm hy
   | true=>rw [hc] at hi;exact ⟨by rw [← hi];rfl,rfl⟩
 refine ⟨fun b x hb=>?_,fun b b' x x' k o o' h1 h2 h3 h4 h5 h6=>?_,fun k hk=>?_,fun b hb=>?_,H.lo⟩
 ·by_cases hd:x = .dead
  ·subst hd;trivial
  ·exact H.blk b x (hget hb hd).1
 ·exact H.inj b b' x x' k o o' (hget h1 h2).1 h2 (hget h3 h4).1 h4 h5 h6
 ·refine ⟨(H.prot k hk).1,?_⟩
  rintro ⟨b,x,o,h1,h2,h3⟩
  exact (H.prot k hk).2 ⟨b,x,o,(hget h1 h2).1,h2,h3⟩
 ·rw [uD] at hb;exact H.fresh b hb

structure Ext0 (E:Env) (h:List ABlk) (E':Env) (h':List ABlk):Prop where
 os:E'.w.os=E.w.os
 tape:E'.w.tape=E.w.tape
 output:E'.w.output=E.w.output
 σ:∀ (b:Nat) (x:Nat × Nat),E.σ b=some x->E'.σ b=some x
 prot:∀ k,E.prot k->E'.prot k
 size:E.w.heap.size <= E'.w.heap.size
 kind:∀ (k:Nat) cs e,E.w.heap[k]? = some (.cells cs e (0,0))->∃ cs',E'.w.heap[k]? = some (.cells cs' e (0,0))/\cs'.size=cs.size
 frame:∀ k,k < E.w.heap.size->¬ Own E h k->E'.w.heap[k]? = E.w.heap[k]?
 own:∀ k,Own E' h' k->Own E h k ∨ E.w.heap.size <= k
 pro:∀ k,E'.prot k->E.prot k ∨ Own E h k ∨ E.w.heap.size <= k
 lo:E'.lo=E.lo
 wr:∀ k,E'.prot k->E.prot k ∨ Wr E'.w k
theorem Ext.zero {E':Env} {h':List ABlk} (X:Ext E h E' h'):Ext0 E h E' h':=⟨X.os,X.tape,X.output,X.σ,X.prot,X.size,X.kind,X.frame,X.own,X.pro,X.lo,X.wr⟩
theorem Ext0.trans {E E1 E2:Env} {h h1 h2:List ABlk} (a:Ext0 E h E1 h1) (b:Ext0 E1 h1 E2 h2):Ext0 E h E2 h2 where
 os:=b.os.trans a.os
 tape:=b.tape.trans a.tape
 output:=b.output.trans a.output
 σ:=fun x y h=>b.σ _ _ (a.σ _ _ h)
 prot:=fun k h=>b.prot _ (a.prot _ h)
 size:=Nat.le_trans a.size b.size
 kind:=fun k cs e h=>by
  obtain ⟨c1,h1,e1⟩:=a.kind k cs e h
  obtain ⟨c2,h2,e2⟩:=b.kind k c1 e h1
  exact ⟨c2,h2,e2.trans e1⟩
 frame:=fun k hk hn=>by
  rw [b.frame k (Nat.lt_of_lt_of_le hk a.size) (fun ho=>?_),a.frame k hk hn]
  rcases a.own k ho with h|h
  ·exact hn h
  ·omega
 own:=fun k h=>by
  rcases b.own k h with h|h
  ·exact a.own k h
  ·exact .inr (Nat.le_trans a.size h)
 pro:=fun k h=>by
  rcases b.pro k h with h|h|h
  ·exact a.pro k h
  ·rcases a.own k h with h|h
   ·exact .inr (.inl h)
   ·exact .inr (.inr h)
  ·exact .inr (.inr (Nat.le_trans a.size h))
 lo:=b.lo.trans a.lo
 wr:=fun k h=>by
  rcases b.wr k h with h|h
  ·rcases a.wr k h with h|⟨cs,e,h⟩
   ·exact .inl h
   ·obtain ⟨c2,h2,_⟩:=b.kind k cs e h
    exact .inr ⟨c2,e,h2⟩
  ·exact .inr h
theorem Ext0.keep {E':Env} {h':List ABlk} (x:Ext0 E h E' h') (hh:HR E h):Keep E E' :=
 ⟨x.σ,x.prot,fun k hk=>x.frame k (hh.prot k hk).1 (hh.prot k hk).2,x.kind,x.lo⟩

def nrIn (L:Nat) (hh:List ABlk):Prop:=∀ (b:Nat) (x:ABlk),hh[b]? = some x->nrB L x
theorem place_HR {rs:List Nat} {s:Nat} {E1:Env} {hh:List ABlk} (H:HR E h) (X:Ext E (mask rs h) E1 hh) (H1:HR E1 hh) (hs:∀ b,s <= b->b < s+(hh.length - h.length)->b < h.length/\E.σ b=none)
  (hnr:h.length < hh.length->nrIn h.length hh) :
  ∃ E2:Env,E2.w=E1.w/\HR E2 (place rs s hh h)/\Ext0 E h E2 (place rs s hh h)/\(∀ b,¬ (s <= b/\b < s+(hh.length - h.length))->E2.σ b=E.σ b)/\True/\(hh.length=h.length->∀ a v,VR E1 a v->VR E2 a v)/\∀ a v,VR E1 a v->VR E2 (ren h.length s a) v:=by
 have hlen:h.length <= hh.length:=by rw [← uD rs h];exact X.len
 have Hm:=mask_HR H rs
 have K1:=X.keep Hm
 let σ2:Nat->Option (Nat × Nat):=fun b=>if s <= b/\b < s+(hh.length - h.length) then E1.σ (h.length+(b - s)) else E.σ b
 let E2:Env:=⟨E1.w,σ2,E1.prot,E1.lo⟩
 have hold:∀ b,b < h.length->E1.σ b=E.σ b:=fun b hb=>X.old b (by rw [uD];exact hb)
 have hsl:∀ b,s <= b/\b < s+(hh.length - h.length)->E2.σ b=E1.σ (h.length+(b - s)):=fun b hb=>if_pos hb
 have hns:∀ b,¬ (s <= b/\b < s+(hh.length - h.length))->E2.σ b=E.σ b:=fun b hb=>if_neg hb
 have hlt:∀ b x,E.σ b=some x->b < h.length:=by
  intro b x hb
  rcases Nat.lt_or_ge b h.length with h'|h'
  ·exact h'
  ·rw [H.fresh b h'] at hb;cases hb
 have KE2:Keep E E2:=⟨fun b x hb=>by
   rw [hns b (fun hc=>by rw [(hs b hc.1 hc.2).2] at hb;cases hb)];exact hb,X.prot,K1.same,K1.kind,X.lo⟩
 have hlen1:∀ b x,E1.σ b=some x->b < hh.length:=by
  intro b x hb
  rcases Nat.lt_or_ge b hh.length with h'|h'
  ·exact h'
  ·rw [H1.fresh b h'] at hb;cases hb
 have hσr:∀ b x,E1.σ b=some x->E2.σ (rnN h.length s b)=some x:=by
  intro b x hb
  have hb1:=hlen1 b x hb
  unfold rnN
  by_cases hbl:b < h.length
  ·simp only [hbl,decide_true,cond_true]
   have hb':=hb
   rw [hold b hbl] at hb'
   exact KE2.σ b x hb'
  ·simp only [hbl,decide_false,cond_false]
   rw [hsl _ ⟨by omega,by omega⟩,show h.length+(s+(b - h.length) - s)=b from by omega]
   exact hb
 -- what is read in E1 and names no new block
 have V1:∀ {a:AV} {v:Value},VR E1 a v->(h.length < hh.length->nr h.length a)->VR E2 a v:=by
  intro a v hv hn
  by_cases hc:h.length < hh.length
  ·have hcut:=hv.cut (hn hc)
   refine VR.mono (E:=E1.cut h.length) (E':=E2) ⟨fun b x hb=>?_,fun k hk=>hk,fun _ _=>rfl,fun k cs e hk=>⟨cs,hk,rfl⟩,rfl⟩ hcut
   have hbl:b < h.length:=by
    rcases Nat.lt_or_ge b h.length with h'|h'
    ·exact h'
    ·simp [Env.cut,Nat.not_lt.2 h'] at hb
   rw [jJ hbl,hold b hbl] at hb
   exact KE2.σ b x hb
  ·refine VR.mono (E:=E1) (E':=E2) ⟨fun b x hb=>?_,fun k hk=>hk,fun _ _=>rfl,fun k cs e hk=>⟨cs,hk,rfl⟩,rfl⟩ hv
   have hbl:b < h.length:=by have:=hlen1 b x hb;omega
   rw [hold b hbl] at hb
   exact KE2.σ b x hb
 have B1:∀ (b b':Nat) (x:ABlk),hh[b]? = some x->E2.σ b'=E1.σ b->BR E2 b' x:=by
  intro b b' x hb hσ
  have hB:=H1.blk b x hb
  have hN:h.length < hh.length->nrB h.length x:=fun hc=>hnr hc b x hb
  cases x with
  | dead=>trivial
  | mapb k0 m0 =>
   obtain ⟨q1,q2⟩:=hB
   exact ⟨hσ.trans q1,q2⟩
  | lit e l =>
   obtain ⟨k,o,cs,q1,q2,q3,q4⟩:=hB
   exact ⟨k,o,cs,hσ.trans q1,q2,q3,fun j a hj=>by obtain ⟨v,r1,r2,r3⟩:=q4 j a hj;exact ⟨v,r1,r2,V1 r3 fun hc=>cQ (hN hc) hj⟩⟩
  | row e es m c =>
   unfold BR at hB ⊢
   rw [hσ]
   cases hs':E1.σ b with
   | none=>rw [hs'] at hB;exact hB
   | some p =>
    rw [hs'] at hB
    obtain ⟨cs,q1,q2,q3⟩:=hB
    exact ⟨cs,q1,q2,fun x y hx hy=>by obtain ⟨v,r1,r2,r3⟩:=q3 x y hx hy;exact ⟨v,r1,r2,V1 r3 fun hc=>hN hc x y hx hy⟩⟩
 -- the three kinds of a block of the heap behind
 have hget:∀ {i:Nat} {y:ABlk},(place rs s hh h)[i]? = some y->y ≠ .dead ->
   (∃ i1,hh[i1]? = some y/\E2.σ i=E1.σ i1/\rnN h.length s i1=i) ∨ (h[i]? = some y/\inL i rs=false/\E2.σ i=E.σ i):=by
  intro i y hi hy
  rw [gL] at hi
  cases hx:h[i]? with
  | none=>rw [hx] at hi;cases hi
  | some x =>
   have hil:i < h.length:=by
    rcases Nat.lt_or_ge i h.length with h'|h'
    ·exact h'
    ·rw [List.getElem?_eq_none h'] at hx;cases hx
   rw [hx] at hi
   simp only [Option.map_some,Option.some.injEq] at hi
   by_cases hc:s <= i/\i < s+(hh.length - h.length)
   ·have:(decide (s <= i) && decide (i < s+(hh.length - h.length)))=true:=by simp [hc.1,hc.2]
    rw [this] at hi
    simp only [cond_true] at hi
    refine .inl ⟨h.length+(i - s),by rw [← hi];exact zP (by rw [hi];exact hy),hsl i hc,?_⟩
    simp only [rnN,show ¬ (h.length+(i - s) < h.length) from by omega,decide_false,cond_false]
    omega
   ·have:(decide (s <= i) && decide (i < s+(hh.length - h.length)))=false:=by
     rw [← Bool.not_eq_true,Bool.and_eq_true,decide_eq_true_eq,decide_eq_true_eq];exact hc
    rw [this] at hi
    simp only [cond_false] at hi
    cases hr:inL i rs with
    | true =>
     rw [hr] at hi
     simp only [cond_true] at hi
     exact .inl ⟨i,by rw [← hi];exact zP (by rw [hi];exact hy),by rw [hns i hc,hold i hil],by simp [rnN,hil]⟩
    | false =>
     rw [hr] at hi
     simp only [cond_false] at hi
     exact .inr ⟨by rw [hi],rfl,hns i hc⟩
 have hnm:∀ {i:Nat} {y:ABlk} {k o:Nat},h[i]? = some y->y ≠ .dead->inL i rs=false->E.σ i=some (k,o)->¬ Own E (mask rs h) k:=by
  rintro i y k o h1 h2 h3 h4 ⟨b,x,o',g1,g2,g3⟩
  rw [dB] at g1
  cases hx:h[b]? with
  | none=>rw [hx] at g1;cases g1
  | some x' =>
   rw [hx] at g1
   simp only [Option.map_some,Option.some.injEq] at g1
   cases hc:inL b rs with
   | false=>rw [hc] at g1;exact g2 g1.symm
   | true =>
    rw [hc] at g1
    simp only [cond_true] at g1
    subst g1
    have:=H.inj i b y x' k o o' h1 h2 hx g2 h4 g3
    subst this
    rw [h3] at hc;cases hc
 have hom:∀ k,Own E (mask rs h) k->Own E h k:=by
  rintro k ⟨b,x,o,g1,g2,g3⟩
  rw [dB] at g1
  cases hx:h[b]? with
  | none=>rw [hx] at g1;cases g1
  | some x' =>
   rw [hx] at g1
   simp only [Option.map_some,Option.some.injEq] at g1
   cases hc:inL b rs with
   | false=>rw [hc] at g1;exact absurd g1.symm g2
   | true=>rw [hc] at g1;simp only [cond_true] at g1;subst g1;exact ⟨b,x',o,hx,g2,g3⟩
 have hown:∀ k,Own E2 (place rs s hh h) k->Own E h k ∨ E.w.heap.size <= k:=by
  rintro k ⟨b,x,o,g1,g2,g3⟩
  rcases hget g1 g2 with ⟨i1,q1,q2,_⟩|⟨q1,q2,q3⟩
  ·rw [q2] at g3
   rcases X.own k ⟨i1,x,o,q1,g2,g3⟩ with h'|h'
   ·exact .inl (hom k h')
   ·exact .inr h'
  ·rw [q3] at g3;exact .inl ⟨b,x,o,q1,g2,g3⟩
 refine ⟨E2,rfl,⟨fun b x hb=>?_,fun b b' x x' k o o' h1 h2 h3 h4 h5 h6=>?_,fun k hk=>?_,fun b hb=>?_,H1.lo⟩,
  ⟨X.os,X.tape,X.output,KE2.σ,X.prot,X.size,X.kind,fun k hk hn=>X.frame k hk fun ho=>hn (hom k ho),hown,fun k hk=>(X.pro k hk).imp (fun h=>h) (Or.imp_left (hom k)),X.lo,X.wr⟩,hns,trivial,fun he a v hv=>V1 hv fun hc=>absurd hc (by omega),
  fun a v hv=>VR.ren (E:=E1) (E':=E2) rfl rfl hσr hv⟩
 ·by_cases hd:x = .dead
  ·subst hd;trivial
  rcases hget hb hd with ⟨i1,q1,q2,_⟩|⟨q1,q2,q3⟩
  ·exact B1 i1 b x q1 q2
  ·refine (H.blk b x q1).mono KE2 q3 fun k o hk=>?_
   exact X.frame k ((H.blk b x q1).lt hd hk) (hnm q1 hd q2 hk)
 ·rcases hget h1 h2 with ⟨i1,q1,q2,q2'⟩|⟨q1,q2,q3⟩<;>rcases hget h3 h4 with ⟨i3,r1,r2,r2'⟩|⟨r1,r2,r3⟩
  ·rw [q2] at h5;rw [r2] at h6
   have:=H1.inj i1 i3 x x' k o o' q1 h2 r1 h4 h5 h6
   rw [← q2',← r2',this]
  ·rw [q2] at h5;rw [r3] at h6
   have h8:=hnm r1 h4 r2 h6
   have h9:=(H.blk b' x' r1).lt h4 h6
   rcases X.own k ⟨i1,x,o,q1,h2,h5⟩ with h'|h'
   ·exact absurd h' h8
   ·omega
  ·rw [q3] at h5;rw [r2] at h6
   have h8:=hnm q1 h2 q2 h5
   have h9:=(H.blk b x q1).lt h2 h5
   rcases X.own k ⟨i3,x',o',r1,h4,h6⟩ with h'|h'
   ·exact absurd h' h8
   ·omega
  ·rw [q3] at h5;rw [r3] at h6
   exact H.inj b b' x x' k o o' q1 h2 r1 h4 h5 h6
 ·obtain ⟨p1,p2⟩:=H1.prot k hk
  refine ⟨p1,?_⟩
  rintro ⟨b,x,o,g1,g2,g3⟩
  rcases hget g1 g2 with ⟨i1,q1,q2,_⟩|⟨q1,q2,q3⟩
  ·rw [q2] at g3;exact p2 ⟨i1,x,o,q1,g2,g3⟩
  ·rw [q3] at g3
   rcases X.pro k hk with h'|h'|h'
   ·exact (H.prot k h').2 ⟨b,x,o,q1,g2,g3⟩
   ·exact hnm q1 g2 q2 g3 h'
   ·have:=(H.blk b x q1).lt g2 g3;omega
 ·rw [gC] at hb
  show σ2 b=none
  have:¬ (s <= b/\b < s+(hh.length - h.length)):=fun hc=>by have:=(hs b hc.1 hc.2).1;omega
  show (if _ then _ else _)=none
  rw [if_neg this]
  exact H.fresh b hb
end Go.Am

namespace Go.Am
set_option linter.unusedVariables false
variable {P:Program} {E:Env} {h:List ABlk}

/-! ### What an operation looks at -/
def xJ (t:List AV):Op->List Nat
 | .load _ a=>refs (rho t a)
 | .store _ a _=>refs (rho t a)
 | .call c=>match c.callee with
  | .value f=>refs (rho t f) ++ vC (kE t c.args.toList)
  | _=>vC (kE t c.args.toList)
 | _=>[]
theorem rho_cg {t t':List AV} {x:Operand} (hx:∀ d,x = .tmp d->zL t d=zL t' d):rho t x=rho t' x/\og t x=og t' x:=by
 cases x with
 | tmp i=>simp only [rho,og,hx i rfl];exact ⟨trivial,trivial⟩
 | _=>exact ⟨rfl,rfl⟩
theorem mapR_cg {t t':List AV} {l:List Operand} (hx:∀ x ∈ l,rho t x=rho t' x/\og t x=og t' x):kE t l=kE t' l/\ogL t l=ogL t' l:=by
 induction l with
 | nil=>exact ⟨rfl,rfl⟩
 | cons a l ih =>
  obtain ⟨h1,h2⟩:=hx a (List.mem_cons_self ..)
  obtain ⟨h3,h4⟩:=ih fun x hx'=>hx x (List.mem_cons_of_mem _ hx')
  exact ⟨by simp only [kE,h1,h3],by simp only [ogL,h2,h4]⟩
theorem place_cg {t t':List AV} {l:List (Nat × Operand)} (hx:∀ p ∈ l,rho t p.2=rho t' p.2/\og t p.2=og t' p.2) :
  (∀ z,jU z (rho t) l=jU z (rho t') l)/\(∀ pl,eP pl (rho t) l=eP pl (rho t') l)/\ogP t l=ogP t' l:=by
 induction l with
 | nil=>exact ⟨fun _=>rfl,fun _=>rfl,rfl⟩
 | cons a l ih =>
  obtain ⟨i,x⟩:=a
  obtain ⟨h1,h2⟩:=hx (i,x) (List.mem_cons_self ..)
  obtain ⟨h3,h4,h5⟩:=ih fun x hx'=>hx x (List.mem_cons_of_mem _ hx')
  simp only at h1 h2
  exact ⟨fun z=>by simp only [jU,h1,h3],fun pl=>by simp only [eP,h1,h4],by simp only [ogP,h2,h5]⟩
theorem rhoO_cg {t t':List AV} {o:Option Operand} (hx:∀ x,o=some x->rho t x=rho t' x/\og t x=og t' x):rhoO t o=rhoO t' o/\ogO t o=ogO t' o:=by
 cases o with
 | none=>exact ⟨rfl,rfl⟩
 | some x=>obtain ⟨h1,h2⟩:=hx x rfl;exact ⟨by simp only [rhoO,h1],by simp only [ogO,h2]⟩
theorem evO_cg {sh:TypeId->Option (List Leaf)} {ct:Ct} {t t':List AV} {op:Op} (hx:∀ x ∈ op.operands,rho t x=rho t' x/\og t x=og t' x) :
  evO P sh ct t h op=evO P sh ct t' h op/\vS t op=vS t' op/\xJ t op=xJ t' op:=by
 cases op<;>simp only [Op.operands] at hx
 case build y ps =>
  obtain ⟨q1,q2,q3⟩:=place_cg (l:=ps.toList) fun p hp=>hx p.2 (by simp;exact ⟨p.1,by simpa using hp⟩)
  refine ⟨?_,q3,rfl⟩
  simp only [evO,fT,q1,q2]
 case buildSlice y n ps =>
  obtain ⟨q1,q2,q3⟩:=place_cg (l:=ps.toList) fun p hp=>hx p.2 (by simp;exact ⟨p.1,by simpa using hp⟩)
  refine ⟨?_,q3,rfl⟩
  simp only [evO,qY,q1]
 case makeFunc fn first captured =>
  obtain ⟨q1,q2⟩:=mapR_cg (l:=captured.toList) fun x hx'=>hx x (by simp at hx' ⊢;exact .inr hx')
  obtain ⟨q3,q4⟩:=mapR_cg (l:=first.toList) fun x hx'=>hx x (by simp at hx' ⊢;exact .inl hx')
  refine ⟨?_,?_,rfl⟩
  ·simp only [evO]
   unfold evFn
   split
   ·simp only [q1]
   ·rename_i f x xs hf
    rw [hf] at q3
    split
    ·simp only [q3]
    ·rfl
   ·rfl
  ·simp only [vS,q2,q4]
 case slice y x lo hi mx =>
  have hX:=hx x (by simp)
  obtain ⟨l1,l2⟩:=rhoO_cg (o:=lo) fun z hz=>hx z (by subst hz;simp)
  obtain ⟨m1,m2⟩:=rhoO_cg (o:=hi) fun z hz=>hx z (by subst hz;simp)
  obtain ⟨n1,n2⟩:=rhoO_cg (o:=mx) fun z hz=>hx z (by subst hz;simp)
  exact ⟨by simp only [evO,hX.1,l1,m1,n1],by simp only [vS,hX.2,l2,m2,n2],rfl⟩
 case call c =>
  obtain ⟨callee,args,ats⟩:=c
  simp only [Call.operands] at hx
  obtain ⟨q1,q2⟩:=mapR_cg (l:=args.toList) fun x hx'=>hx x (by simp at hx' ⊢;exact .inr hx')
  cases callee with
  | value f =>
   have hf:=hx f (by simp)
   exact ⟨by simp only [evO,evCall,q1,hf.1],by simp only [vS,q2,hf.2],by simp only [xJ,q1,hf.1]⟩
  | builtin b=>exact ⟨by simp only [evO,evCall,q1],by simp only [vS,q2],by simp only [xJ,q1]⟩
  | invoke r m=>exact ⟨by simp only [evO,evCall],by simp only [vS,q2],by simp only [xJ,q1]⟩
 case load y a=>have h0:=hx a (by simp);exact ⟨by simp only [evO,h0.1],by simp only [vS,h0.2],by simp only [xJ,h0.1]⟩
 case store y a x=>have h0:=hx a (by simp);have h1:=hx x (by simp);exact ⟨by simp only [evO,h0.1,h1.1],by simp only [vS,h0.2,h1.2],by simp only [xJ,h0.1]⟩
 case pick c a b =>
  have h0:=hx c (by simp);have h1:=hx a (by simp);have h2:=hx b (by simp)
  refine ⟨by simp only [evO,h0.1,h1.1,h2.1],?_,rfl⟩
  simp only [vS,h0.1,h0.2]
  cases rho t' c<;>simp only [ogC,h1.2,h2.2]
 case move x=>have h0:=hx x (by simp);exact ⟨by simp only [evO,h0.1],by simp only [vS,h0.2],rfl⟩
 case assign x=>have h0:=hx x (by simp);exact ⟨by simp only [evO,h0.1],by simp only [vS,h0.2],rfl⟩
 case box y x=>have h0:=hx x (by simp);exact ⟨by simp only [evO,h0.1],by simp only [vS,h0.2],rfl⟩
 case nilCheck x=>have h0:=hx x (by simp);exact ⟨by simp only [evO,h0.1],by simp only [vS,h0.2],rfl⟩
 case unOp o y x=>have h0:=hx x (by simp);exact ⟨by simp only [evO,h0.1],by simp only [vS,h0.2],rfl⟩
 case convert s d x=>have h0:=hx x (by simp);exact ⟨by simp only [evO,h0.1],by simp only [vS,h0.2],rfl⟩
 case fieldAddr s x f=>have h0:=hx x (by simp);exact ⟨by simp only [evO,h0.1],by simp only [vS,h0.2],rfl⟩
 case field s x f=>have h0:=hx x (by simp);exact ⟨by simp only [evO,h0.1],by simp only [vS,h0.2],rfl⟩
 case extract x i=>have h0:=hx x (by simp);exact ⟨by simp only [evO,h0.1],by simp only [vS,h0.2],rfl⟩
 case lookup y a b w=>have h0:=hx a (by simp);have h1:=hx b (by simp);exact ⟨by simp only [evO,h0.1,h1.1],by simp only [vS,h0.2,h1.2],rfl⟩
 case binOp o y a b w=>have h0:=hx a (by simp);have h1:=hx b (by simp);exact ⟨by simp only [evO,h0.1,h1.1],by simp only [vS,h0.2,h1.2],rfl⟩
 case makeSlice y a b=>have h0:=hx a (by simp);have h1:=hx b (by simp);exact ⟨by simp only [evO,h0.1,h1.1],by simp only [vS,h0.2,h1.2],rfl⟩
 case indexAddr y a b=>have h0:=hx a (by simp);have h1:=hx b (by simp);exact ⟨by simp only [evO,h0.1,h1.1],by simp only [vS,h0.2,h1.2],rfl⟩
 case index y a b=>have h0:=hx a (by simp);have h1:=hx b (by simp);exact ⟨by simp only [evO,h0.1,h1.1],by simp only [vS,h0.2,h1.2],rfl⟩
 all_goals first|exact ⟨rfl,rfl,rfl⟩|(simp only [evO,vS,xJ];exact ⟨trivial,trivial,trivial⟩)

/-! ### Who must come before whom -/
def getA:List (List Nat)->Nat->List Nat
 | [],_=>[]
 | a::_,0=>a
 | _::l,n+1=>getA l n
def ddL:List Nat->List Nat->List Nat
 | [],acc=>acc
 | a::l,acc=>bif inL a acc then ddL l acc else ddL l (a::acc)
def ancF:List Oper->List (List Nat)->List (List Nat)
 | [],acc=>acc
 | o::r,acc=>ancF r (acc ++ [ddL ((o.after.toList.filter (Region.binds .any)).flatMap fun e=>e.on::getA acc e.on) []])
def ancL (ops:Array Oper):List (List Nat):=ancF ops.toList []
def anB (an:List (List Nat)) (i j:Nat):Bool:=inL j (getA an i)
def ordB (an:List (List Nat)) (i j:Nat):Bool:=bif decide (j < i) then anB an i j else anB an j i
def drawB (ops:Array Oper) (an:List (List Nat)):Bool :=
 Region.noSelect ops &&
 (List.range ops.size).all fun i=>match ops[i]? with
  | none=>true
  | some o =>
   (getA an i).all (fun j=>o.after.any fun e=>Region.binds .any e && decide (e.on < i) && (e.on == j || inL j (getA an e.on))) &&
   o.after.all (fun e=>!Region.binds .any e || decide (e.on < i)) &&
   (List.range ops.size).all fun j=>j == i || match (ops[j]?).bind (·.dst) with
    | none=>true
    | some d=>!((o.looksAt ops).contains d || o.dst == some d) || ordB an i j
abbrev LogE:=Nat × List Nat × List Nat
def hit:List Nat->List Nat->Bool
 | [],_=>false
 | a::l,m=>inL a m || hit l m
def xZ (an:List (List Nat)) (i:Nat) (rs ts:List Nat) (e:LogE):Bool:=!(hit e.2.2 rs || hit e.2.2 ts || hit ts e.2.1) || anB an i e.1
def wZ (an:List (List Nat)) (i:Nat) (rs ts:List Nat):List LogE->Bool
 | []=>true
 | e::l=>xZ an i rs ts e && wZ an i rs ts l
def xK (s:Nat):Nat->List Nat
 | 0=>[]
 | k+1=>s::xK (s+1) k
def qT:List Nat->List ABlk->List ABlk->Prop
 | [],_,_=>True
 | b::l,h',h=>geth h' b=geth h b/\qT l h' h
def uC:List Nat->List Nat->List Nat
 | [],_=>[]
 | a::l,m=>bif inL a m then uC l m else a::uC l m
def qS (an:List (List Nat)) (i L:Nat) (log:List LogE) (s:Nat) (g:GV) (r:AR) (og:Prop) (rs ro:List Nat) (d:Option Nat) (t:List AV) (h:List ABlk) (F:List LogE->Nat->List AV->List ABlk->Prop):Prop:=match g with
 | .none=>match r with
  | .pure ob v=>og/\ob/\wZ an i rs [] log=true/\F ((i,rs,[])::log) s (wW t d v) h
  | .heap ob v h'=>og/\ob/\qT ro h' h/\wZ an i rs (uC rs ro ++ xK s (h'.length - L)) log=true/\(L < h'.length->nrH L h')/\F ((i,rs,uC rs ro ++ xK s (h'.length - L))::log) (s+(h'.length - L)) (wW t d (ren L s v)) (place rs s h' h)
  | .fail=>False
 | .g b=>match r with
  | .pure ob v=>(b=true->og/\ob)/\wZ an i rs [] log=true/\F ((i,rs,[])::log) s (wW t d (.opt b v)) h
  | .heap ob v h'=>(b=true->og/\ob/\qT ro h' h/\wZ an i rs (uC rs ro ++ xK s (h'.length - L)) log=true/\(L < h'.length->nrH L h')/\F ((i,rs,uC rs ro ++ xK s (h'.length - L))::log) (s+(h'.length - L)) (wW t d (.opt true (ren L s v))) (place rs s h' h)) /\
   (b=false->F ((i,[],[])::log) s (wW t d (.opt false .top)) h)
  | .fail=>b=false/\F ((i,[],[])::log) s (wW t d (.opt false .top)) h
 | .bad=>False
def xrD:List (Nat × List Nat × List Nat)->Option Nat->List Nat
 | [],_=>[]
 | _::_,none=>[]
 | (d,l,_)::r,some e=>bif e == d then l else xrD r (some e)
def xoD:List (Nat × List Nat × List Nat)->Option Nat->List Nat
 | [],_=>[]
 | _::_,none=>[]
 | (d,_,l)::r,some e=>bif e == d then l else xoD r (some e)
def wpD (P:Program) (sh:TypeId->Option (List Leaf)) (ct:Ct) (xl:List (Nat × List Nat × List Nat)) (an:List (List Nat)) (L:Nat) (all:List Oper) (K:Kt):List Oper->Nat->List LogE->Nat->List AV->List ABlk->Prop
 | [],_,_,s,t,h=>s <= L/\K .normal t h
 | o::r,i,log,s,t,h=>qS an i L log s (gval t all o.guard) (evO P sh ct t (mask (xJ t o.op ++ xrD xl o.dst) h) o.op) (vS t o.op) (xJ t o.op ++ xrD xl o.dst) (xoD xl o.dst) o.dst t h (wpD P sh ct xl an L all K r (i+1))
end Go.Am

namespace Go.Am
set_option linter.unusedVariables false
variable {P:Program} {E:Env} {h:List ABlk}

def StepT (P:Program) (sh:TypeId->Option (List Leaf)) (ct:Ct) (xl:List (Nat × List Nat × List Nat)) (L:Nat) (all:List Oper) (o:Oper) (t:List AV) (h:List ABlk) (s:Nat) (t':List AV) (h':List ABlk) (s':Nat) (rs tg:List Nat):Prop :=
 (tg=[]/\h'=h/\s'=s/\gval t all o.guard = .g false/\∃ x,t'=wW t o.dst (.opt false x)) ∨
 (tg=[]/\h'=h/\s'=s/\rs=xJ t o.op ++ xrD xl o.dst/\∃ ob v wv,(gval t all o.guard = .none/\wv=v ∨ gval t all o.guard = .g true/\wv = .opt true v)/\evO P sh ct t (mask rs h) o.op = .pure ob v/\ob/\vS t o.op/\t'=wW t o.dst wv) ∨
 (rs=xJ t o.op ++ xrD xl o.dst/\∃ ob v hh wv,(gval t all o.guard = .none/\wv=ren L s v ∨ gval t all o.guard = .g true/\wv = .opt true (ren L s v))/\evO P sh ct t (mask rs h) o.op = .heap ob v hh/\ob/\vS t o.op /\
  (L < hh.length->nrH L hh)/\qT (xoD xl o.dst) hh h/\tg=uC rs (xoD xl o.dst) ++ xK s (hh.length - L)/\h'=place rs s hh h/\s'=s+(hh.length - L)/\t'=wW t o.dst wv)
theorem okLog_mem {an:List (List Nat)} {i:Nat} {rs ts:List Nat} {log:List LogE} (hk:wZ an i rs ts log=true):∀ e ∈ log,xZ an i rs ts e=true:=by
 induction log with
 | nil=>intro e he;cases he
 | cons a l ih =>
  simp only [wZ,Bool.and_eq_true] at hk
  intro e he
  cases he with
  | head=>exact hk.1
  | tail _ he=>exact ih hk.2 e he
theorem xQ (g:List ABlk) (b:Nat):geth g b=(g[b]?).getD .dead:=by
 induction g generalizing b with
 | nil=>simp [geth]
 | cons a l ih=>cases b with
  | zero=>simp [geth]
  | succ b=>simp only [geth,List.getElem?_cons_succ];exact ih b
def TraceAt (P:Program) (sh:TypeId->Option (List Leaf)) (ct:Ct) (xl:List (Nat × List Nat × List Nat)) (an:List (List Nat)) (L:Nat) (all:List Oper) (K:Kt) (l:List Oper) (i:Nat) (log:List LogE) (s:Nat) (t:List AV) (h:List ABlk):Prop :=
  ∃ (tt:Nat->List AV) (hh:Nat->List ABlk) (ss:Nat->Nat) (rs tg:Nat->List Nat),tt i=t/\hh i=h/\ss i=s /\
   (∀ (j:Nat) (o:Oper),l[j]? = some o->StepT P sh ct xl L all o (tt (i+j)) (hh (i+j)) (ss (i+j)) (tt (i+j+1)) (hh (i+j+1)) (ss (i+j+1)) (rs (i+j)) (tg (i+j))) /\
   (∀ j,j < l.length->∀ e ∈ log,tg (i+j)=[]/\rs (i+j)=[] ∨ xZ an (i+j) (rs (i+j)) (tg (i+j)) e=true) /\
   (∀ j1 j2,j1 < j2->j2 < l.length->tg (i+j2)=[]/\rs (i+j2)=[] ∨ xZ an (i+j2) (rs (i+j2)) (tg (i+j2)) (i+j1,rs (i+j1),tg (i+j1))=true) /\
   ss (i+l.length) <= L/\K .normal (tt (i+l.length)) (hh (i+l.length))
theorem wpD_trace {sh:TypeId->Option (List Leaf)} {ct:Ct} {xl:List (Nat × List Nat × List Nat)} {an:List (List Nat)} {L:Nat} {all:List Oper} {K:Kt} (l:List Oper) :
  ∀ (i:Nat) (log:List LogE) (s:Nat) (t:List AV) (h:List ABlk),wpD P sh ct xl an L all K l i log s t h->TraceAt P sh ct xl an L all K l i log s t h:=by
 induction l with
 | nil =>
  intro i log s t h hw
  exact ⟨fun _=>t,fun _=>h,fun _=>s,fun _=>[],fun _=>[],rfl,rfl,rfl,fun j o hj=>by simp at hj,fun j hj=>by simp at hj,fun j1 j2 _ hj=>by simp at hj,hw.1,hw.2⟩
 | cons o l ih =>
  intro i log s t h hw
  have go:∀ (t':List AV) (h':List ABlk) (s':Nat) (rs0 tg0:List Nat),StepT P sh ct xl L all o t h s t' h' s' rs0 tg0->(tg0=[]/\rs0=[] ∨ wZ an i rs0 tg0 log=true)->wpD P sh ct xl an L all K l (i+1) ((i,rs0,tg0)::log) s' t' h'->TraceAt P sh ct xl an L all K (o::l) i log s t h:=by
   intro t' h' s' rs0 tg0 hst hlog hw'
   obtain ⟨tt,hh,ss,rs,tg,e1,e2,e3,g1,g2,g3,g4,g5⟩:=ih (i+1) _ s' t' h' hw'
   refine ⟨fun j=>if j=i then t else tt j,fun j=>if j=i then h else hh j,fun j=>if j=i then s else ss j,fun j=>if j=i then rs0 else rs j,fun j=>if j=i then tg0 else tg j,by simp,by simp,by simp,fun j o' hj=>?_,fun j hj e he=>?_,fun j1 j2 h12 hj=>?_,?_,?_⟩
   ·cases j with
    | zero =>
     simp only [List.getElem?_cons_zero,Option.some.injEq] at hj
     subst hj
     simp only [Nat.add_zero,if_true,show ¬ (i+1=i) from by omega,if_false,e1,e2,e3]
     exact hst
    | succ j =>
     have:=g1 j o' (by simpa using hj)
     simp only [show ¬ (i+(j+1)=i) from by omega,show ¬ (i+(j+1)+1=i) from by omega,if_false]
     rw [show i+(j+1)=i+1+j from by omega]
     exact this
   ·cases j with
    | zero =>
     simp only [Nat.add_zero,if_true]
     rcases hlog with hl|hl
     ·exact .inl hl
     ·exact .inr (okLog_mem hl e he)
    | succ j =>
     simp only [show ¬ (i+(j+1)=i) from by omega,if_false]
     rw [show i+(j+1)=i+1+j from by omega]
     exact g2 j (by simpa using hj) e (List.mem_cons_of_mem _ he)
   ·cases j2 with
    | zero=>omega
    | succ j2 =>
     simp only [show ¬ (i+(j2+1)=i) from by omega,if_false]
     rw [show i+(j2+1)=i+1+j2 from by omega]
     cases j1 with
     | zero =>
      simp only [Nat.add_zero,if_true]
      exact g2 j2 (by simpa using hj) _ (List.mem_cons_self ..)
     | succ j1 =>
      simp only [show ¬ (i+(j1+1)=i) from by omega,if_false]
      rw [show i+(j1+1)=i+1+j1 from by omega]
      exact g3 j1 j2 (by omega) (by simpa using hj)
   ·simp only [List.length_cons,show ¬ (i+(l.length+1)=i) from by omega,if_false]
    rw [show i+(l.length+1)=i+1+l.length from by omega];exact g4
   ·simp only [List.length_cons,show ¬ (i+(l.length+1)=i) from by omega,if_false]
    rw [show i+(l.length+1)=i+1+l.length from by omega];exact g5
  simp only [wpD] at hw
  unfold qS at hw
  split at hw
  ·rename_i hg
   split at hw
   ·rename_i ob v hr
    obtain ⟨q1,q2,q3,q4⟩:=hw
    exact go _ _ _ _ _ (.inr (.inl ⟨rfl,rfl,rfl,rfl,ob,v,v,.inl ⟨hg,rfl⟩,hr,q2,q1,rfl⟩)) (.inr q3) q4
   ·rename_i ob v h' hr
    obtain ⟨q1,q2,q6,q3,q4,q5⟩:=hw
    exact go _ _ _ _ _ (.inr (.inr ⟨rfl,ob,v,h',_,.inl ⟨hg,rfl⟩,hr,q2,q1,q4,q6,rfl,rfl,rfl,rfl⟩)) (.inr q3) q5
   ·exact hw.elim
  ·rename_i b hg
   split at hw
   ·rename_i ob v hr
    obtain ⟨q1,q3,q4⟩:=hw
    cases b with
    | true=>exact go _ _ _ _ _ (.inr (.inl ⟨rfl,rfl,rfl,rfl,ob,v,_,.inr ⟨hg,rfl⟩,hr,(q1 rfl).2,(q1 rfl).1,rfl⟩)) (.inr q3) q4
    | false=>exact go _ _ _ _ _ (.inl ⟨rfl,rfl,rfl,hg,v,rfl⟩) (.inr q3) q4
   ·rename_i ob v h' hr
    obtain ⟨q1,q2⟩:=hw
    cases b with
    | true =>
     obtain ⟨r1,r2,r6,r3,r4,r5⟩:=q1 rfl
     exact go _ _ _ _ _ (.inr (.inr ⟨rfl,ob,v,h',_,.inr ⟨hg,rfl⟩,hr,r2,r1,r4,r6,rfl,rfl,rfl,rfl⟩)) (.inr r3) r5
    | false=>exact go _ _ _ _ _ (.inl ⟨rfl,rfl,rfl,hg,.top,rfl⟩) (.inl ⟨rfl,rfl⟩) (q2 rfl)
   ·obtain ⟨rfl,q3⟩:=hw
    exact go _ _ _ _ _ (.inl ⟨rfl,rfl,rfl,hg,.top,rfl⟩) (.inl ⟨rfl,rfl⟩) q3
  ·exact hw.elim

/-! ### The last writer -/
def kI (p:Nat->Bool):Nat->Option Nat
 | 0=>none
 | n+1=>bif p n then some n else kI p n
def valW {α:Type} (f:Nat->α) (z:α):Option Nat->α
 | none=>z
 | some j=>f j
theorem tC {p q:Nat->Bool}:∀ n,(∀ j,j < n->p j=q j)->kI p n=kI q n
 | 0,_=>rfl
 | n+1,h=>by simp only [kI,h n (by omega),tC n fun j hj=>h j (by omega)]
theorem lastW_cut {p q:Nat->Bool} {i:Nat} (h1:∀ j,j < i->p j=q j):∀ m,i <= m->(∀ j,i <= j->j < m->p j=false)->kI p m=kI q i
 | 0,hm,_=>by
  have:i=0:=by omega
  subst this;rfl
 | m+1,hm,h2=>by
  by_cases hi:i=m+1
  ·subst hi;exact tC _ h1
  ·simp only [kI,h2 m (by omega) (by omega),cond_false]
   exact lastW_cut h1 m (by omega) fun j a b=>h2 j a (by omega)
theorem lastW_here {p:Nat->Bool} {i:Nat} (hp:p i=true):∀ m,i < m->(∀ j,i < j->j < m->p j=false)->kI p m=some i
 | 0,hm,_=>by omega
 | m+1,hm,h2=>by
  by_cases hi:i=m
  ·subst hi;simp only [kI,hp,cond_true]
  ·simp only [kI,h2 m (by omega) (by omega),cond_false]
   exact lastW_here hp m (by omega) fun j a b=>h2 j a (by omega)
theorem getL_setT {t:List AV} {d:Option Nat} {v:AV} {i:Nat}:zL (wW t d v) i=if d=some i/\i < t.length then v else zL t i:=by
 cases d with
 | none=>simp [wW]
 | some d =>
  simp only [wW,Option.some.injEq]
  by_cases hi:i < t.length
  ·have h1:=dO t d v i
   by_cases hd:i=d
   ·subst hd
    rw [if_pos ⟨rfl,hi⟩] at h1 ⊢
    exact cL h1
   ·rw [if_neg (by rintro ⟨a,_⟩;exact hd a)] at h1
    rw [if_neg (by rintro ⟨a,_⟩;exact hd a.symm)]
    rw [yZ hi] at h1
    exact cL h1
  ·rw [if_neg (by rintro ⟨_,a⟩;exact hi a),tN (by rw [tH];omega),tN (by omega)]
theorem setT_length (t:List AV) (d:Option Nat) (v:AV):(wW t d v).length=t.length:=by
 cases d with
 | none=>rfl
 | some d=>exact tH ..
theorem roEq_mem {h h':List ABlk} {b:Nat}:∀ {l:List Nat},qT l h' h->inL b l=true->geth h' b=geth h b
 | [],_,hb=>by cases hb
 | a::l,hr,hb=>by
  simp only [inL,Bool.or_eq_true,beq_iff_eq] at hb
  rcases hb with rfl|hb
  ·exact hr.1
  ·exact roEq_mem hr.2 hb
theorem minL_in (b:Nat) (m:List Nat):∀ l:List Nat,inL b (uC l m)=(inL b l && !inL b m)
 | []=>rfl
 | a::l=>by
  rw [uC]
  cases ha:inL a m with
  | true =>
   rw [show (bif true then uC l m else a::uC l m)=uC l m from rfl,minL_in b m l,inL]
   by_cases hab:b=a
   ·subst hab;simp [ha]
   ·rw [show (b == a)=false from by simpa using hab];simp only [Bool.false_or]
  | false =>
   rw [show (bif false then uC l m else a::uC l m)=a::uC l m from rfl,inL,inL,minL_in b m l]
   by_cases hab:b=a
   ·subst hab;simp [ha]
   ·rw [show (b == a)=false from by simpa using hab];simp only [Bool.false_or]
theorem StepT.facts {sh:TypeId->Option (List Leaf)} {ct:Ct} {xl:List (Nat × List Nat × List Nat)} {L:Nat} {all:List Oper} {o:Oper} {t t':List AV} {h h':List ABlk} {s s':Nat} {rs tg:List Nat} (st:StepT P sh ct xl L all o t h s t' h' s' rs tg) :
  (∃ x,t'=wW t o.dst x)/\h'.length=h.length/\s <= s'/\∀ b,inL b tg=false->h.length=L->geth h' b=geth h b:=by
 have gl:∀ {h h':List ABlk} {b:Nat},h'[b]? = h[b]? -> geth h' b=geth h b:=by
  intro h h' b hb
  rw [xQ,xQ,hb]
 rcases st with ⟨rfl,rfl,rfl,_,x,rfl⟩|⟨rfl,rfl,rfl,_,ob,v,wv,_,_,_,_,rfl⟩|⟨_,ob,v,hh,wv,_,_,_,_,_,hro,rfl,rfl,rfl,rfl⟩
 ·exact ⟨⟨_,rfl⟩,rfl,Nat.le_refl _,fun _ _ _=>rfl⟩
 ·exact ⟨⟨_,rfl⟩,rfl,Nat.le_refl _,fun _ _ _=>rfl⟩
 ·refine ⟨⟨_,rfl⟩,gC ..,Nat.le_add_right _ _,fun b hb hL=>gl ?_⟩
  have inapp:∀ (l m:List Nat),inL b (l ++ m)=(inL b l || inL b m):=by
   intro l m
   induction l with
   | nil=>rfl
   | cons a l ih=>simp [inL,ih,Bool.or_assoc]
  have insl:∀ k s,inL b (xK s k)=(decide (s <= b) && decide (b < s+k)):=by
   intro k
   induction k with
   | zero=>intro s;simp [xK,inL]
   | succ k ih =>
    intro s
    simp only [xK,inL,ih]
    rw [Bool.eq_iff_iff]
    simp only [Bool.or_eq_true,Bool.and_eq_true,beq_iff_eq,decide_eq_true_eq]
    omega
  rw [inapp,insl,Bool.or_eq_false_iff,minL_in] at hb
  rw [gL]
  rw [hL,hb.2]
  cases hbr:inL b rs with
  | false=>simp
  | true =>
   rw [hbr,Bool.true_and,Bool.not_eq_false'] at hb
   have:=roEq_mem hro hb.1
   simp only [cond_true]
   rcases Nat.lt_or_ge b h.length with hl|hl
   ·rw [List.getElem?_eq_getElem hl]
    simp only [Option.map_some]
    rw [this,show geth h b=h[b] from by rw [xQ,List.getElem?_eq_getElem hl];rfl];rfl
   ·rw [List.getElem?_eq_none hl];rfl
end Go.Am

namespace Go.Am
set_option linter.unusedVariables false
variable {P:Program} {E:Env} {h:List ABlk}

theorem dead_HR (H:HR E h) (k:Nat):HR E (h ++ List.replicate k .dead)/\Ext E h E (h ++ List.replicate k .dead):=by
 have hget:∀ {i:Nat} {y:ABlk},(h ++ List.replicate k .dead)[i]? = some y->y ≠ .dead->h[i]? = some y:=by
  intro i y hi hy
  rcases Nat.lt_or_ge i h.length with hl|hl
  ·rwa [List.getElem?_append_left hl] at hi
  ·rw [List.getElem?_append_right hl,List.getElem?_replicate] at hi
   split at hi
   ·injection hi with hi;exact absurd hi.symm hy
   ·cases hi
 have hown:∀ k',Own E (h ++ List.replicate k .dead) k'->Own E h k':=by
  rintro k' ⟨b,x,o,g1,g2,g3⟩
  exact ⟨b,x,o,hget g1 g2,g2,g3⟩
 refine ⟨⟨fun b x hb=>?_,fun b b' x x' k o o' h1 h2 h3 h4 h5 h6=>H.inj b b' x x' k o o' (hget h1 h2) h2 (hget h3 h4) h4 h5 h6,fun k hk=>⟨(H.prot k hk).1,fun ho=>(H.prot k hk).2 (hown k ho)⟩,fun b hb=>H.fresh b (by simp at hb;omega),H.lo⟩,
  ⟨rfl,rfl,rfl,fun _ _ h=>h,fun _ h=>h,Nat.le_refl _,fun k cs e h=>⟨cs,h,rfl⟩,fun _ _ _=>rfl,fun k hk=>.inl (hown k hk),by simp,fun _ _=>rfl,fun _ h=>.inl h,rfl,fun _ h=>.inl h⟩⟩
 by_cases hd:x = .dead
 ·subst hd;trivial
 ·exact H.blk b x (hget hb hd)

theorem countP_lt {p q:Nat->Bool}:∀ (l:List Nat),(∀ j ∈ l,q j=true->p j=true)->(∃ i ∈ l,p i=true/\q i=false)->l.countP q < l.countP p
 | [],_,h=>by obtain ⟨i,hi,_⟩:=h;cases hi
 | a::l,h1,h2=>by
  have hle:l.countP q <= l.countP p:=List.countP_mono_left fun j hj=>h1 j (List.mem_cons_of_mem _ hj)
  obtain ⟨i,hi,h3,h4⟩:=h2
  rw [List.countP_cons,List.countP_cons]
  cases hi with
  | head=>rw [h3,h4];simp;omega
  | tail _ hi =>
   have:=countP_lt l (fun j hj=>h1 j (List.mem_cons_of_mem _ hj)) ⟨i,hi,h3,h4⟩
   have h5:=h1 a (List.mem_cons_self ..)
   cases hq:q a<;>cases hp:p a<;>simp_all<;>omega

theorem place_mask (rs:List Nat) (s:Nat) (h:List ABlk):place rs s (mask rs h) h=h:=by
 apply List.ext_getElem?
 intro i
 rw [gL,uD,Nat.sub_self,Nat.add_zero]
 cases hi:h[i]? with
 | none=>rfl
 | some x =>
  simp only [Option.map_some,Option.some.injEq]
  have:(decide (s <= i) && decide (i < s))=false:=by
   rw [← Bool.not_eq_true,Bool.and_eq_true,decide_eq_true_eq,decide_eq_true_eq];omega
  rw [this]
  cases hr:inL i rs with
  | false=>rfl
  | true =>
   simp only [cond_true,cond_false]
   rw [xQ,dB,hi]
   simp [hr]

theorem inL_append (b:Nat) (l m:List Nat):inL b (l ++ m)=(inL b l || inL b m):=by
 induction l with
 | nil=>rfl
 | cons a l ih=>simp [inL,ih,Bool.or_assoc]
theorem inL_slots (b:Nat):∀ k s,inL b (xK s k)=(decide (s <= b) && decide (b < s+k)):=by
 intro k
 induction k with
 | zero=>intro s;simp [xK,inL]
 | succ k ih =>
  intro s
  simp only [xK,inL,ih]
  rw [Bool.eq_iff_iff]
  simp only [Bool.or_eq_true,Bool.and_eq_true,beq_iff_eq,decide_eq_true_eq]
  omega
theorem hit_of {b:Nat} {l m:List Nat} (h1:inL b l=true) (h2:inL b m=true):hit l m=true:=by
 induction l with
 | nil=>cases h1
 | cons a l ih =>
  simp only [inL,Bool.or_eq_true,beq_iff_eq] at h1
  simp only [hit,Bool.or_eq_true]
  rcases h1 with rfl|h1
  ·exact .inl h2
  ·exact .inr (ih h1)
theorem inL_mem {b:Nat} {l:List Nat}:inL b l=true ↔ b ∈ l:=by
 induction l with
 | nil=>simp [inL]
 | cons a l ih=>simp [inL,ih]

theorem hit_iff {l m:List Nat}:hit l m=true ↔ ∃ x,x ∈ l/\x ∈ m:=by
 induction l with
 | nil=>simp [hit]
 | cons a l ih=>simp [hit,ih,inL_mem]
theorem hit_symm {l m:List Nat} (hm:hit l m=true):hit m l=true:=by
 rw [hit_iff] at hm ⊢
 obtain ⟨x,h1,h2⟩:=hm
 exact ⟨x,h2,h1⟩
theorem hit_nil (l:List Nat):hit l []=false:=by
 cases hc:hit l [] with
 | false=>rfl
 | true=>rw [hit_iff] at hc;obtain ⟨x,_,h2⟩:=hc;cases h2
theorem getD_lt {a:Array Bool} {i:Nat} (hi:i < a.size) (x y:Bool):a.getD i x=a.getD i y:=by
 simp [Array.getD,hi]
section
variable {ops:Array Oper} {an:List (List Nat)}
structure DrawOk (ops:Array Oper) (an:List (List Nat)):Prop where
 nosel:Region.noSelect ops=true
 anc:∀ i o j,ops[i]? = some o->inL j (getA an i)=true->∃ e ∈ o.after,Region.binds .any e=true/\e.on < i/\(e.on=j ∨ inL j (getA an e.on)=true)
 back:∀ (i:Nat) o,ops[i]? = some o->∀ e ∈ o.after,Region.binds .any e=true->e.on < i
 ord:∀ (i j:Nat) o d,ops[i]? = some o->j ≠ i->(ops[j]?).bind (·.dst)=some d->d ∈ o.looksAt ops ∨ o.dst=some d->ordB an i j=true
theorem drawOk_of (hB:drawB ops an=true):DrawOk ops an:=by
 simp only [drawB,Bool.and_eq_true,List.all_eq_true,List.mem_range] at hB
 obtain ⟨h1,h2⟩:=hB
 have lt:∀ {i:Nat} {o:Oper},ops[i]? = some o->i < ops.size:=fun hi=>(Array.getElem?_eq_some_iff.1 hi).1
 have at':∀ (i:Nat) (o:Oper),ops[i]? = some o->_:=fun i o hi=>by
  have:=h2 i (lt hi)
  simp only [hi,Bool.and_eq_true,List.all_eq_true,List.mem_range] at this
  exact this
 refine ⟨h1,fun i o j hi hj=>?_,fun i o hi e he hb=>?_,fun i j o d hi hji hd hor=>?_⟩
 ·have:=(at' i o hi).1.1 j (inL_mem.1 hj)
  obtain ⟨e,he,hb⟩:=Array.any_eq_true'.1 this
  simp only [Bool.and_eq_true,decide_eq_true_eq,Bool.or_eq_true,beq_iff_eq] at hb
  exact ⟨e,he,hb.1.1,hb.1.2,hb.2⟩
 ·have:=Array.all_eq_true_iff_forall_mem.1 (at' i o hi).1.2 e he
  simpa [hb] using this
 ·have hjl:j < ops.size:=by
   rcases Nat.lt_or_ge j ops.size with h'|h'
   ·exact h'
   ·rw [Array.getElem?_eq_none h'] at hd;cases hd
  have:=(at' i o hi).2 j hjl
  simp only [hd,Bool.or_eq_true,beq_iff_eq] at this
  rcases this with h'|h'
  ·exact absurd h' hji
  ·simp only [Bool.not_eq_true',Bool.or_eq_false_iff,List.contains_eq_mem,decide_eq_false_iff_not,beq_eq_false_iff_ne] at h'
   rcases h' with h'|h'
   ·rcases hor with hor|hor
    ·exact absurd hor h'.1
    ·exact absurd hor h'.2
   ·exact h'
theorem anc_closed (D:DrawOk ops an) {S:Nat->Bool} (hS:∀ (i:Nat) o,S i=true->ops[i]? = some o->∀ e ∈ o.after,Region.binds .any e=true->S e.on=true) :
  ∀ (i:Nat) (o:Oper) (j:Nat),ops[i]? = some o->(∀ e ∈ o.after,Region.binds .any e=true->S e.on=true)->inL j (getA an i)=true->S j=true:=by
 intro i
 induction i using Nat.strongRecOn with
 | _ i ih =>
  intro o j hi hp hj
  obtain ⟨e,he,hb,hlt,hor⟩:=D.anc i o j hi hj
  rcases hor with rfl|hor
  ·exact hp e he hb
  ·have hle:e.on < ops.size:=by have:=(Array.getElem?_eq_some_iff.1 hi).1;omega
   have ho:ops[e.on]? = some ops[e.on]:=Array.getElem?_eq_getElem hle
   exact ih e.on hlt _ j ho (hS _ _ (hp e he hb) ho) hor
end
end Go.Am

namespace Go.Am
set_option linter.unusedVariables false
variable {P:Program} {E:Env} {h:List ABlk}

theorem vG {α:Type} (f:Nat->α) (n i:Nat):((List.range n).map f)[i]? = if i < n then some (f i) else none:=by
 rw [List.getElem?_map]
 by_cases hi:i < n
 ·rw [if_pos hi,List.getElem?_range hi];rfl
 ·rw [if_neg hi,List.getElem?_eq_none (by simp;omega)];rfl
theorem getL_map (f:Nat->AV) (n i:Nat) (hi:i < n):zL ((List.range n).map f) i=f i:=cL (by rw [vG,if_pos hi])
theorem geth_map (f:Nat->ABlk) (n i:Nat) (hi:i < n):geth ((List.range n).map f) i=f i:=by rw [xQ,vG,if_pos hi];rfl
theorem geth_out {h:List ABlk} {i:Nat} (hi:h.length <= i):geth h i = .dead:=by rw [xQ,List.getElem?_eq_none hi];rfl

theorem draw_ruleX (xl:List (Nat × List Nat × List Nat)) {sh:TypeId->Option (List Leaf)} {ct:Ct} (S:fN P sh) (C:wO P ct) (kk:Nat) {id:Nat} {ops:Array Oper} {K:Kt} {t:List AV} (hm:P.follows .mixedOrders=true) (hB:drawB ops (ancL ops)=true)
  (hw:∀ an,an=ancL ops->wpD P sh ct xl an (h.length+kk) ops.toList K ops.toList 0 [] h.length t (h ++ List.replicate kk .dead)):Mean P (.region id ops true) K t h:=by
 intro E a Q H F hd hQ
 have D:=drawOk_of hB
 obtain ⟨tt,hh,ss,rs,tg,e1,e2,e3,step,_,pr,hend,hK⟩:=wpD_trace _ _ _ _ _ _ (hw _ rfl)
 generalize hL:h.length+kk=L at *
 generalize hh0:h ++ List.replicate kk .dead=h0 at *
 generalize han:ancL ops=an at *
 simp only [Nat.zero_add,Array.length_toList] at step pr hend hK
 generalize hm':ops.size=m at *
 have hL0:h0.length=L:=by rw [← hh0,← hL];simp
 have H0:HR E h0:=by rw [← hh0];exact (dead_HR H kk).1
 have X0:Ext E h E h0:=by rw [← hh0];exact (dead_HR H kk).2
 have stp:∀ (j:Nat) (o:Oper),ops[j]? = some o->StepT P sh ct xl L ops.toList o (tt j) (hh j) (ss j) (tt (j+1)) (hh (j+1)) (ss (j+1)) (rs j) (tg j):=fun j o hj=>step j o (by rw [Array.getElem?_toList];exact hj)
 have lt:∀ {i:Nat} {o:Oper},ops[i]? = some o->i < m:=fun hi=>by rw [← hm'];exact (Array.getElem?_eq_some_iff.1 hi).1
 have some':∀ {i:Nat},i < m->∃ o,ops[i]? = some o:=fun hi=>⟨ops[_]'(by omega),Array.getElem?_eq_getElem _⟩
 let dst (j:Nat):Option Nat:=(ops[j]?).bind (·.dst)
 have dst_eq:∀ {j:Nat} {o:Oper},ops[j]? = some o->dst j=o.dst:=fun hj=>by simp only [dst,hj,Option.bind_some]
 -- lengths and places
 have lens:∀ i,i <= m->(tt i).length=t.length/\(hh i).length=L:=by
  intro i
  induction i with
  | zero=>intro _;rw [e1,e2];exact ⟨rfl,hL0⟩
  | succ i ih =>
   intro hi
   obtain ⟨o,ho⟩:=some' (show i < m from by omega)
   obtain ⟨⟨x,hx⟩,hl,_,_⟩:=(stp i o ho).facts
   obtain ⟨i1,i2⟩:=ih (by omega)
   exact ⟨by rw [hx,setT_length,i1],by rw [hl,i2]⟩
 have mono1:∀ i,i < m->ss i <= ss (i+1):=fun i hi=>by
  obtain ⟨o,ho⟩:=some' hi
  exact (stp i o ho).facts.2.2.1
 have mono:∀ i j,i <= j->j <= m->ss i <= ss j:=by
  intro i j hij
  induction j with
  | zero =>
   intro _
   have:i=0:=by omega
   subst this;exact Nat.le_refl _
  | succ j ih =>
   intro hj
   by_cases he:i=j+1
   ·subst he;exact Nat.le_refl _
   ·exact Nat.le_trans (ih (by omega) (by omega)) (mono1 j (by omega))
 -- what the walk in the text's order holds
 have fullT:∀ i,i <= m->∀ d,zL (tt i) d=valW (fun j=>zL (tt (j+1)) d) (zL t d) (kI (fun j=>dst j == some d) i):=by
  intro i
  induction i with
  | zero=>intro _ d;rw [e1];rfl
  | succ i ih =>
   intro hi d
   obtain ⟨o,ho⟩:=some' (show i < m from by omega)
   obtain ⟨⟨x,hx⟩,_,_,_⟩:=(stp i o ho).facts
   simp only [kI]
   cases hd:(dst i == some d) with
   | true=>rfl
   | false =>
    simp only [cond_false]
    rw [← ih (by omega) d,hx,getL_setT,if_neg]
    rintro ⟨h',_⟩
    rw [dst_eq ho,h'] at hd
    simp at hd
 have fullH:∀ i,i <= m->∀ b,geth (hh i) b=valW (fun j=>geth (hh (j+1)) b) (geth h0 b) (kI (fun j=>inL b (tg j)) i):=by
  intro i
  induction i with
  | zero=>intro _ d;rw [e2];rfl
  | succ i ih =>
   intro hi b
   obtain ⟨o,ho⟩:=some' (show i < m from by omega)
   obtain ⟨_,_,_,hx⟩:=(stp i o ho).facts
   simp only [kI]
   cases hd:inL b (tg i) with
   | true=>rfl
   | false =>
    simp only [cond_false]
    rw [← ih (by omega) b]
    exact hx b hd (lens i (by omega)).2
 -- the state behind a set of operations
 let TS (s:Nat->Bool) (d:Nat):AV:=valW (fun j=>zL (tt (j+1)) d) (zL t d) (kI (fun j=>s j && (dst j == some d)) m)
 let HS (s:Nat->Bool) (b:Nat):ABlk:=valW (fun j=>geth (hh (j+1)) b) (geth h0 b) (kI (fun j=>s j && inL b (tg j)) m)
 let TL (s:Nat->Bool):List AV:=(List.range t.length).map (TS s)
 let HL (s:Nat->Bool):List ABlk:=(List.range L).map (HS s)
 have HLlen:∀ s,(HL s).length=L:=fun s=>by simp [HL]
 have TLlen:∀ s,(TL s).length=t.length:=fun s=>by simp [TL]
 let Sb (listed:Array Bool) (j:Nat):Bool:=listed.getD j false
 let Closed (s:Nat->Bool):Prop:=∀ (i:Nat) o,s i=true->ops[i]? = some o->∀ e ∈ o.after,Region.binds .any e=true->s e.on=true
 let Inv (listed:Array Bool) (a:Act) (w:World):Prop:=listed.size=m/\Closed (Sb listed)/\a.defers=[]/\∃ E':Env,E'.w=w/\HR E' (HL (Sb listed))/\FR E' (TL (Sb listed)) a.tmps/\Ext0 E h0 E' (HL (Sb listed))/\True /\
  (∀ b,b < h.length->E'.σ b=E.σ b)/\∀ i,i < m->Sb listed i=false->∀ b,ss i <= b->b < ss (i+1)->E'.σ b=none
 -- all have come up
 have final:∀ listed a w,Inv listed a w->(∀ i,i < m->Sb listed i=true)->Q .normal a w:=by
  rintro listed a w ⟨hsz,hcl,hdf,E',rfl,HR',FR',X',hpr',hold',_⟩ hall
  have hT:TL (Sb listed)=tt m:=by
   apply List.ext_getElem?
   intro d
   rw [vG]
   split
   ·rename_i hdl
    rw [yZ (by rw [(lens m (Nat.le_refl _)).1];exact hdl),fullT m (Nat.le_refl _) d]
    simp only [TS]
    rw [tC (q:=fun j=>dst j == some d) m fun j hj=>by simp only [hall j hj,Bool.true_and]]
   ·rw [List.getElem?_eq_none (by rw [(lens m (Nat.le_refl _)).1];omega)]
  have hH:HL (Sb listed)=hh m:=by
   apply List.ext_getElem?
   intro b
   rw [vG]
   split
   ·rename_i hbl
    have:geth (hh m) b=HS (Sb listed) b:=by
     rw [fullH m (Nat.le_refl _) b]
     simp only [HS]
     rw [tC (p:=fun j=>Sb listed j && inL b (tg j)) (q:=fun j=>inL b (tg j)) m fun j hj=>by simp only [hall j hj,Bool.true_and]]
    rw [← this,xQ,List.getElem?_eq_getElem (by rw [(lens m (Nat.le_refl _)).2];exact hbl)]
    rfl
   ·rw [List.getElem?_eq_none (by rw [(lens m (Nat.le_refl _)).2];omega)]
  rw [hT] at FR'
  rw [hH] at HR' X'
  have ho0:∀ k,Own E h0 k->Own E h k:=fun k hk=>by
   rcases X0.own k hk with h'|h'
   ·exact h'
   ·have:=H0.own_lt hk;omega
  refine hQ .normal E' a (tt m) (hh m) hK ⟨X'.os,X'.tape,X'.output,X'.σ,X'.prot,X'.size,X'.kind,fun k hk hn=>X'.frame k hk fun ho=>hn (ho0 k ho),fun k hk=>?_,by rw [(lens m (Nat.le_refl _)).2,← hL];omega,hold',fun k hk=>(X'.pro k hk).imp (fun h=>h) (Or.imp_left (ho0 k)),X'.lo,X'.wr⟩ HR' FR' hdf
  rcases X'.own k hk with h'|h'
  ·exact .inl (ho0 k h')
  ·exact .inr h'
 -- one comes up
 have main:∀ (fuel:Nat) (listed:Array Bool) (a:Act) (w:World),Inv listed a w->(List.range m).countP (fun j=>!Sb listed j) <= fuel->wpAny P .any ops Q fuel listed a w:=by
  intro fuel
  induction fuel with
  | zero =>
   intro listed a w hI hc
   have hall:∀ i,i < m->Sb listed i=true:=by
    intro i hi
    have h0:(List.range m).countP (fun j=>!Sb listed j)=0:=by omega
    rw [List.countP_eq_zero] at h0
    have:=h0 i (List.mem_range.2 hi)
    simpa using this
   refine ⟨?_,final listed a w hI hall⟩
   rw [List.eq_nil_iff_forall_not_mem]
   intro i hi
   obtain ⟨h1,o,ho,_⟩:=mem_ready.1 hi
   have h2:=hall i (lt ho)
   have hsz:=hI.1
   simp only [Sb] at h2
   rw [getD_lt (by rw [hsz];exact lt ho) true false] at h1
   rw [h1] at h2;cases h2
  | succ fuel ih =>
   intro listed a w hI hc
   refine ⟨fun hr=>?_,fun i hi=>?_⟩
   ·refine final listed a w hI fun i hi=>?_
    have key:∀ i,i < m->Sb listed i=true:=by
     intro i
     induction i using Nat.strongRecOn with
     | _ i ihi =>
      intro hi
      cases hs:Sb listed i with
      | true=>rfl
      | false =>
       exfalso
       obtain ⟨o,ho⟩:=some' hi
       have hin:i ∈ Region.ready .any ops listed:=by
        refine mem_ready.2 ⟨?_,o,ho,fun e he hb=>?_⟩
        ·rw [getD_lt (by rw [hI.1];exact hi) true false];exact hs
        ·have hlt:=D.back i o ho e he hb
         exact ihi e.on hlt (by omega)
       rw [hr] at hin;cases hin
    exact key i hi
   ·obtain ⟨hsz,hcl,hdf,E',rfl,HR',FR',X',hpr',hold',hfree⟩:=hI
    obtain ⟨h1,o,ho,hpred⟩:=mem_ready.1 hi
    have him:=lt ho
    have hSi:Sb listed i=false:=by
     rw [getD_lt (by rw [hsz];exact him) true false] at h1;exact h1
    -- the order
    have before:∀ j,inL j (getA an i)=true->Sb listed j=true:=fun j hj=>anc_closed D hcl i o j ho hpred hj
    have behind:∀ j,j < m->inL i (getA an j)=true->Sb listed j=false:=by
     intro j hj hij
     cases hs:Sb listed j with
     | false=>rfl
     | true =>
      obtain ⟨oj,hoj⟩:=some' hj
      have:=anc_closed D hcl j oj i hoj (hcl j oj hs hoj) hij
      rw [this] at hSi;cases hSi
    have ordS:∀ j,j < m->j ≠ i->ordB an i j=true->(j < i->Sb listed j=true)/\(i < j->Sb listed j=false):=by
     intro j hj hji hor
     unfold ordB at hor
     by_cases hlt:j < i
     ·simp only [hlt,decide_true,cond_true] at hor
      exact ⟨fun _=>before j hor,fun h'=>by omega⟩
     ·simp only [hlt,decide_false,cond_false] at hor
      exact ⟨fun h'=>absurd h' hlt,fun _=>behind j hj hor⟩
    have memS:∀ j,j < m->j ≠ i->(hit (tg j) (rs i)=true ∨ hit (tg j) (tg i)=true)->(j < i->Sb listed j=true)/\(i < j->Sb listed j=false):=by
     intro j hj hji hcf
     rcases Nat.lt_trichotomy j i with hlt|rfl|hgt
     ·refine ⟨fun _=>?_,fun h'=>by omega⟩
      rcases pr j i hlt him with ⟨p1,p2⟩|hp
      ·rw [p1,p2] at hcf
       simp [hit,hit_nil] at hcf
      ·simp only [xZ,Bool.or_eq_true,Bool.not_eq_true',Bool.or_eq_false_iff] at hp
       rcases hp with ⟨⟨p1,p2⟩,p3⟩|hp
       ·rcases hcf with h'|h'
        ·rw [p1] at h';cases h'
        ·rw [p2] at h';cases h'
       ·exact before j hp
     ·exact absurd rfl hji
     ·refine ⟨fun h'=>by omega,fun _=>?_⟩
      rcases pr i j hgt hj with ⟨p1,p2⟩|hp
      ·rw [p1] at hcf
       simp [hit] at hcf
      ·simp only [xZ,Bool.or_eq_true,Bool.not_eq_true',Bool.or_eq_false_iff] at hp
       rcases hp with ⟨⟨p1,p2⟩,p3⟩|hp
       ·rcases hcf with h'|h'
        ·rw [p3] at h';cases h'
        ·have:=hit_symm h'
         rw [p2] at this;cases this
       ·exact behind j hj hp
    -- the state at this operation reads as in the text's order
    have agT:∀ d,d ∈ o.looksAt ops->zL (TL (Sb listed)) d=zL (tt i) d:=by
     intro d hdl
     by_cases hdt:d < t.length
     ·rw [getL_map _ _ _ hdt,fullT i (by omega) d]
      simp only [TS]
      have cf:∀ j,j < m->j ≠ i->(dst j == some d)=true->(j < i->Sb listed j=true)/\(i < j->Sb listed j=false):=fun j hj hji hdj =>
       ordS j hj hji (D.ord i j o d ho hji (by simpa using hdj) (.inl hdl))
      rw [lastW_cut (p:=fun j=>Sb listed j && (dst j == some d)) (q:=fun j=>dst j == some d) (i:=i) (fun j hj=>?_) m (by omega) (fun j hj hjm=>?_)]
      ·cases hc:(dst j == some d) with
       | false=>simp
       | true=>simp [(cf j (by omega) (by omega) hc).1 hj]
      ·by_cases hji:j=i
       ·subst hji;simp [hSi]
       ·cases hc:(dst j == some d) with
        | false=>simp
        | true=>simp [(cf j hjm hji hc).2 (by omega)]
     ·have hge:t.length <= d:=Nat.not_lt.1 hdt
      rw [tN (l:=TL (Sb listed)) (by rw [TLlen];exact hge),tN (l:=tt i) (by rw [(lens i (by omega)).1];exact hge)]
    have agH:∀ b,inL b (rs i)=true->geth (HL (Sb listed)) b=geth (hh i) b:=by
     intro b hb
     by_cases hbL:b < L
     ·rw [geth_map _ _ _ hbL,fullH i (by omega) b]
      simp only [HS]
      have cf:∀ j,j < m->j ≠ i->inL b (tg j)=true->(j < i->Sb listed j=true)/\(i < j->Sb listed j=false):=fun j hj hji hdj =>
       memS j hj hji (.inl (hit_of hdj hb))
      rw [lastW_cut (p:=fun j=>Sb listed j && inL b (tg j)) (q:=fun j=>inL b (tg j)) (i:=i) (fun j hj=>?_) m (by omega) (fun j hj hjm=>?_)]
      ·cases hc:inL b (tg j) with
       | false=>simp
       | true=>simp [(cf j (by omega) (by omega) hc).1 hj]
      ·by_cases hji:j=i
       ·subst hji;simp [hSi]
       ·cases hc:inL b (tg j) with
        | false=>simp
        | true=>simp [(cf j hjm hji hc).2 (by omega)]
     ·rw [geth_out (by rw [HLlen];omega),geth_out (by rw [(lens i (by omega)).2];omega)]
    have hmask:mask (rs i) (HL (Sb listed))=mask (rs i) (hh i):=by
     apply List.ext_getElem?
     intro b
     rw [dB,dB]
     by_cases hbL:b < L
     ·have e1:(HL (Sb listed))[b]? = some (geth (HL (Sb listed)) b):=by rw [xQ,List.getElem?_eq_getElem (by rw [HLlen];exact hbL)];rfl
      have e2:(hh i)[b]? = some (geth (hh i) b):=by rw [xQ,List.getElem?_eq_getElem (by rw [(lens i (by omega)).2];exact hbL)];rfl
      rw [e1,e2]
      simp only [Option.map_some,Option.some.injEq]
      cases hb:inL b (rs i) with
      | false=>rfl
      | true=>simp only [cond_true];exact agH b hb
     ·rw [List.getElem?_eq_none (by rw [HLlen];omega),List.getElem?_eq_none (by rw [(lens i (by omega)).2];omega)]
    have opnd:∀ x ∈ o.op.operands,rho (TL (Sb listed)) x=rho (tt i) x/\og (TL (Sb listed)) x=og (tt i) x:=fun x hx=>rho_cg fun d hxd=>agT d (by
     subst hxd
     exact List.mem_append_left _ (List.mem_filterMap.2 ⟨.tmp d,by simpa using hx,rfl⟩))
    obtain ⟨c1,c2,c3⟩:=evO_cg (P:=P) (sh:=sh) (ct:=ct) (h:=mask (rs i) (HL (Sb listed))) opnd
    have hgv:gval (TL (Sb listed)) ops.toList o.guard=gval (tt i) ops.toList o.guard:=by
     cases hg:o.guard with
     | none=>rfl
     | some q =>
      obtain ⟨g,want⟩:=q
      simp only [gval]
      cases hdg:dstOf ops.toList g with
      | none=>rfl
      | some d =>
       simp only [gvd]
       rw [agT d]
       rw [dstOf_eq,Array.getElem?_toList] at hdg
       refine List.mem_append_right _ ?_
       rw [hg];simp [hdg]
    obtain ⟨w1,w2⟩:=qG (ops:=ops) rfl (o:=o) FR'
    have putd:∀ v,(a.put o.dst v).defers=[]:=by
     intro v
     cases o.dst with
     | none=>exact hdf
     | some d=>exact hdf
    -- the set with this one
    have hS':∀ j,Sb (listed.setIfInBounds i true) j=(decide (j=i) || Sb listed j):=by
     intro j
     by_cases hj:j=i
     ·subst hj
      simp only [Sb,decide_true,Bool.true_or]
      simp [show j < listed.size from by rw [hsz];exact him]
     ·simp only [Sb,hj,decide_false,Bool.false_or]
      exact getD_set_ne false (Ne.symm hj)
    have cnt:(List.range m).countP (fun j=>!Sb (listed.setIfInBounds i true) j) <= fuel:=by
     have:=countP_lt (p:=fun j=>!Sb listed j) (q:=fun j=>!Sb (listed.setIfInBounds i true) j) (List.range m) (fun j _ hj=>by
      rw [hS'] at hj;simp at hj ⊢;exact hj.2) ⟨i,List.mem_range.2 him,by simp [hSi],by simp [hS']⟩
     omega
    have closed':Closed (Sb (listed.setIfInBounds i true)):=by
     intro j oj hj hoj e he hb
     rw [hS'] at hj ⊢
     simp only [Bool.or_eq_true,decide_eq_true_eq] at hj ⊢
     rcases hj with rfl|hj
     ·rw [ho] at hoj;injection hoj with hoj;subst hoj
      exact .inr (hpred e he hb)
     ·exact .inr (hcl j oj hj hoj e he hb)
    have newT:∀ wv,tt (i+1)=wW (tt i) o.dst wv->TL (Sb (listed.setIfInBounds i true))=wW (TL (Sb listed)) o.dst wv:=by
     intro wv hwv
     apply List.ext_getElem?
     intro d
     by_cases hdt:d < t.length
     ·have hr:(wW (TL (Sb listed)) o.dst wv)[d]? = some (zL (wW (TL (Sb listed)) o.dst wv) d):=yZ (by rw [setT_length,TLlen];exact hdt)
      rw [hr,vG,if_pos hdt,getL_setT]
      congr 1
      by_cases hdd:o.dst=some d
      ·rw [if_pos ⟨hdd,by rw [TLlen];exact hdt⟩]
       simp only [TS]
       rw [lastW_here (p:=fun j=>Sb (listed.setIfInBounds i true) j && (dst j == some d)) (i:=i) (by simp [hS',dst_eq ho,hdd]) m him (fun j hj hjm=>?_)]
       ·show zL (tt (i+1)) d=wv
        rw [hwv,getL_setT,if_pos ⟨hdd,by rw [(lens i (by omega)).1];exact hdt⟩]
       ·cases hc:(dst j == some d) with
        | false=>simp
        | true =>
         have:=(ordS j hjm (by omega) (D.ord i j o d ho (by omega) (by simpa using hc) (.inr hdd))).2 hj
         simp [hS',this,show ¬ j=i from by omega]
      ·rw [if_neg (by rintro ⟨a,_⟩;exact hdd a),getL_map _ _ _ hdt]
       simp only [TS]
       rw [tC (q:=fun j=>Sb listed j && (dst j == some d)) m fun j hj=>?_]
       rw [hS']
       by_cases hji:j=i
       ·subst hji
        have:(dst j == some d)=false:=by rw [dst_eq ho];simpa using hdd
        rw [this];simp
       ·simp [hji]
     ·rw [List.getElem?_eq_none (by rw [TLlen];omega),List.getElem?_eq_none (by rw [setT_length,TLlen];omega)]
    have keepH:tg i=[]->HL (Sb (listed.setIfInBounds i true))=HL (Sb listed):=by
     intro hti
     apply List.map_congr_left
     intro b _
     simp only [HS]
     rw [tC (q:=fun j=>Sb listed j && inL b (tg j)) m fun j hj=>?_]
     rw [hS']
     by_cases hji:j=i
     ·subst hji;rw [hti];simp [inL]
     ·simp [hji]
    have go:∀ (E2:Env) (a':Act),HR E2 (HL (Sb (listed.setIfInBounds i true)))->FR E2 (TL (Sb (listed.setIfInBounds i true))) a'.tmps->a'.defers=[]->Ext0 E' (HL (Sb listed)) E2 (HL (Sb (listed.setIfInBounds i true))) ->
      True->(∀ b,¬ (ss i <= b/\b < ss (i+1))->E2.σ b=E'.σ b)->wpAny P .any ops Q fuel (listed.setIfInBounds i true) a' E2.w:=by
     intro E2 a' g1 g2 g3 g4 g5 g6
     refine ih _ _ _ ⟨by simp [hsz],closed',g3,E2,rfl,g1,g2,X'.trans g4,trivial,fun b hb=>?_,fun j hj hSj b hb1 hb2=>?_⟩ cnt
     ·have:=mono 0 i (by omega) (by omega)
      rw [g6 b (by omega)];exact hold' b hb
     ·have hji:j ≠ i:=by rintro rfl;rw [hS'] at hSj;simp at hSj
      have hSj':Sb listed j=false:=by rw [hS'] at hSj;simp at hSj;exact hSj.2
      rw [g6 b (fun hc=>by
       rcases Nat.lt_or_gt_of_ne hji with hlt|hgt
       ·have:=mono (j+1) i (by omega) (by omega);omega
       ·have:=mono (i+1) j (by omega) (by omega);omega)]
      exact hfree j hj hSj' b hb1 hb2
    unfold wpOp
    simp only [ho]
    rcases stp i o ho with ⟨t1,t2,t3,t4,x,t5⟩|⟨t1,t2,t3,t4,ob,v,wv,t5,t6,t7,t8,t9⟩|⟨t4,ob,v,hN,wv,t5,t6,t7,t8,t10,tro,t11,t12,t13,t9⟩
    ·rw [w2 false (by rw [hgv];exact t4)]
     simp only [Bool.false_eq_true,if_false]
     refine go E' _ (by rw [keepH t1];exact HR') (by rw [newT _ t5];exact uP FR' (.opt_f x) o.dst) (putd _) (by rw [keepH t1];exact ⟨rfl,rfl,rfl,fun _ _ h=>h,fun _ h=>h,Nat.le_refl _,fun k cs e h=>⟨cs,h,rfl⟩,fun _ _ _=>rfl,fun _ h=>.inl h,fun _ h=>.inl h,rfl,fun _ h=>.inl h⟩) trivial fun _ _=>rfl
    ·have hwant:Region.wanted o (yielded ops a.tmps)=true:=by
      rcases t5 with ⟨t5,_⟩|⟨t5,_⟩
      ·exact w1 (by rw [hgv];exact t5)
      ·exact w2 true (by rw [hgv];exact t5)
     rw [if_pos hwant]
     refine .inl ?_
     have hev:(evO P sh ct (TL (Sb listed)) (mask (rs i) (HL (Sb listed))) o.op).out (mask (rs i) (HL (Sb listed)))=some (ob,v,mask (rs i) (HL (Sb listed))):=by
      rw [c1,hmask,t6];rfl
     refine dD S C (mask_HR HR' (rs i)) FR' hev t7 (by rw [c2];exact t8) fun r E1 X1 H1 hv=>?_
     obtain ⟨E2,hw2,g1,g2,g3,g4,g5,_⟩:=place_HR (s:=0) HR' X1 H1 (fun b _ hb=>by rw [uD] at hb;omega) (fun hc=>by rw [uD] at hc;omega)
     rw [place_mask] at g1 g2
     rw [← hw2]
     refine go E2 _ (by rw [keepH t1];exact g1) ?_ (putd _) (by rw [keepH t1];exact g2) g4 fun b hb=>g3 b (by rw [uD];omega)
     rw [newT _ t9]
     refine uP (vF (g2.keep HR') FR') ?_ o.dst
     have hv2:=g5 (uD ..) _ _ hv
     rcases t5 with ⟨_,rfl⟩|⟨_,rfl⟩
     ·exact hv2
     ·exact .opt_t _ _ hv2
    ·have hwant:Region.wanted o (yielded ops a.tmps)=true:=by
      rcases t5 with ⟨t5,_⟩|⟨t5,_⟩
      ·exact w1 (by rw [hgv];exact t5)
      ·exact w2 true (by rw [hgv];exact t5)
     rw [if_pos hwant]
     refine .inl ?_
     have hev:(evO P sh ct (TL (Sb listed)) (mask (rs i) (HL (Sb listed))) o.op).out (mask (rs i) (HL (Sb listed)))=some (ob,v,hN):=by
      rw [c1,hmask,t6];rfl
     refine dD S C (mask_HR HR' (rs i)) FR' hev t7 (by rw [c2];exact t8) fun r E1 X1 H1 hv=>?_
     have hm1:=mono (i+1) m (by omega) (Nat.le_refl _)
     obtain ⟨E2,hw2,g1,g2,g3,g4,_,g5⟩:=place_HR (s:=ss i) HR' X1 H1 (fun b hb1 hb2=>by
       rw [HLlen] at hb2 ⊢
       exact ⟨by omega,hfree i him hSi b hb1 (by omega)⟩) (fun hc=>by
       rw [HLlen] at hc ⊢
       exact fun b x hb=>nrH_get (t10 hc) hb)
     have hplace:place (rs i) (ss i) hN (HL (Sb listed))=HL (Sb (listed.setIfInBounds i true)):=by
      apply List.ext_getElem?
      intro b
      by_cases hbL:b < L
      ·have q1:(HL (Sb listed))[b]? = some (HS (Sb listed) b):=by rw [vG,if_pos hbL]
       have q2:(hh i)[b]? = some (geth (hh i) b):=by rw [xQ,List.getElem?_eq_getElem (by rw [(lens i (by omega)).2];exact hbL)];rfl
       rw [gL,q1,vG,if_pos hbL]
       simp only [Option.map_some,Option.some.injEq,HLlen]
       cases hbt:inL b (tg i) with
       | true =>
        have hlast:HS (Sb (listed.setIfInBounds i true)) b=geth (hh (i+1)) b:=by
         simp only [HS]
         rw [lastW_here (p:=fun j=>Sb (listed.setIfInBounds i true) j && inL b (tg j)) (i:=i) (by simp [hS',hbt]) m him (fun j hj hjm=>?_)]
         ·rfl
         ·cases hc:inL b (tg j) with
          | false=>simp
          | true =>
           have:=(memS j hjm (by omega) (.inr (hit_of hc hbt))).2 hj
           simp [hS',this,show ¬ j=i from by omega]
        rw [hlast,t12,xQ (place (rs i) (ss i) hN (hh i)),gL,q2]
        rw [t11,inL_append,inL_slots,Bool.or_eq_true,minL_in,Bool.and_eq_true] at hbt
        simp only [Option.map_some,Option.getD_some,(lens i (by omega:i <= m)).2]
        rcases hbt with hbt|hbt
        ·rw [hbt.1];simp only [cond_true]
        ·rw [hbt];simp only [cond_true]
       | false =>
        have hkeep:HS (Sb (listed.setIfInBounds i true)) b=HS (Sb listed) b:=by
         simp only [HS]
         rw [tC (q:=fun j=>Sb listed j && inL b (tg j)) m fun j hj=>?_]
         rw [hS']
         by_cases hji:j=i
         ·subst hji;rw [hbt];simp
         ·simp [hji]
        rw [hkeep]
        rw [t11,inL_append,inL_slots,Bool.or_eq_false_iff,minL_in] at hbt
        rw [hbt.2]
        cases hbr:inL b (rs i) with
        | false=>rfl
        | true =>
         rw [hbr,Bool.true_and,Bool.not_eq_false'] at hbt
         have hag:=agH b hbr
         rw [geth_map _ _ _ hbL] at hag
         simp only [cond_true,cond_false]
         rw [roEq_mem tro hbt.1,← hag]
      ·rw [List.getElem?_eq_none (by rw [gC,HLlen];omega),List.getElem?_eq_none (by rw [HLlen];omega)]
     rw [hplace] at g1 g2
     rw [← hw2]
     refine go E2 _ g1 ?_ (putd _) g2 g4 fun b hb=>g3 b (by rw [HLlen];omega)
     rw [newT _ t9]
     refine uP (vF (g2.keep HR') FR') ?_ o.dst
     have hv2:=g5 _ _ hv
     rw [HLlen] at hv2
     rcases t5 with ⟨_,rfl⟩|⟨_,rfl⟩
     ·exact hv2
     ·exact .opt_t _ _ hv2
 -- the beginning
 refine wp_region_any hm ?_
 have e0:∀ j,Sb (Array.replicate ops.size false) j=false:=fun j=>by
  simp only [Sb,Array.getD]
  split<;>simp
 have lw0:∀ (p:Nat->Bool) n,(∀ j,p j=false)->kI p n=none:=by
  intro p n hp
  induction n with
  | zero=>rfl
  | succ n ih=>simp only [kI,hp,cond_false,ih]
 have hT0:TL (Sb (Array.replicate ops.size false))=t:=by
  apply List.ext_getElem?
  intro d
  rw [vG]
  split
  ·rename_i hdt
   simp only [TS]
   rw [lw0 _ _ fun j=>by simp [e0]]
   exact (yZ hdt).symm
  ·rw [List.getElem?_eq_none (by omega)]
 have hH0:HL (Sb (Array.replicate ops.size false))=h0:=by
  apply List.ext_getElem?
  intro b
  rw [vG]
  split
  ·rename_i hbL
   simp only [HS]
   rw [lw0 _ _ fun j=>by simp [e0]]
   rw [List.getElem?_eq_getElem (by omega)]
   simp only [valW,Option.some.injEq]
   rw [xQ,List.getElem?_eq_getElem (by omega)];rfl
  ·rw [List.getElem?_eq_none (by omega)]
 obtain ⟨HD,XD⟩:=same_HR H0 { E.w with drawn:=E.w.drawn+1 } rfl rfl rfl rfl
 refine main ops.size _ _ _ ⟨by simp [hm'],(fun i o hi=>by rw [e0] at hi;cases hi),hd,{ E with w:={ E.w with drawn:=E.w.drawn+1 } },rfl,by rw [hH0];exact HD,by rw [hT0];exact vF (XD.keep H0) F,by rw [hH0];exact XD.zero,trivial,fun _ _=>rfl,fun i hi _ b hb1 hb2=>?_⟩ ?_
 ·have h1:=mono 0 i (by omega) (by omega)
  exact H.fresh b (by omega)
 ·rw [hm']
  exact Nat.le_trans List.countP_le_length (by simp)
theorem yW {sh:TypeId->Option (List Leaf)} {ct:Ct} (S:fN P sh) (C:wO P ct) (kk:Nat) {id:Nat} {ops:Array Oper} {K:Kt} {t:List AV} (hm:P.follows .mixedOrders=true) (hB:drawB ops (ancL ops)=true)
  (hw:∀ an,an=ancL ops->wpD P sh ct [] an (h.length+kk) ops.toList K ops.toList 0 [] h.length t (h ++ List.replicate kk .dead)):Mean P (.region id ops true) K t h:=draw_ruleX [] S C kk hm hB hw
end Go.Am

namespace Go.Am
set_option linter.unusedVariables false
variable {P:Program} {sh:TypeId->Option (List Leaf)} {ct:Ct} {K:Kt} {t:List AV} {h:List ABlk} {an:List (List Nat)} {L i s:Nat} {all:List Oper} {log:List LogE} {xl:List (Nat × List Nat × List Nat)}
theorem vZ:wpD P sh ct xl an L all K [] i log s t h=(s <= L/\K .normal t h):=rfl
theorem wV {o:Oper} {r:List Oper}:wpD P sh ct xl an L all K (o::r) i log s t h=qS an i L log s (gval t all o.guard) (evO P sh ct t (mask (xJ t o.op ++ xrD xl o.dst) h) o.op) (vS t o.op) (xJ t o.op ++ xrD xl o.dst) (xoD xl o.dst) o.dst t h (wpD P sh ct xl an L all K r (i+1)):=rfl
theorem dead0:List.replicate 0 ABlk.dead=[]:=rfl
theorem deadS {n:Nat}:List.replicate (n+1) ABlk.dead = .dead::List.replicate n .dead:=rfl
end Go.Am

/-
  The abstract machine, text 8: contracts of functions that change the memory of a slice that they are given (its capacity is known inside). a function that changes the memory of the slice that it is given, walked with that memory alone; all else is only read. slices.overlaps at a slice that is only read. own blocks that from here on are only read. functions whose results may be memory of their own, and memory that is only read from then on.
-/
import Derived.Test.YtefiemaoacmdkaaPm7
import Derived.Laws.Externs
import Derived.Lib.Overlaps
namespace Go.Am
set_option linter.unusedVariables false
variable {P:Program} {E:Env} {h:List ABlk}

/-! ### slices.overlaps -/
def atB (E:Env) (b es n:Nat) (u:Value):Prop:=∃ a cap,u = .slice a n cap/\(0 < n->∃ k off cs e,a=some ⟨k,off,none⟩/\(∃ o,E.σ b=some (k,o))/\E.w.heap[k]? = some (.cells cs e (0,0))/\(1 <= es->cs.size ≠ 0))
def slB:AV->Option (Nat × Nat × Nat)
 | .sl b es _ n _=>some (b,es,n)
 | .csl b es _ n _=>some (b,es,n)
 | _=>none
theorem slB_at {x:AV} {u:Value} {b es n:Nat} (hx:VR E x u) (hb:slB x=some (b,es,n)):atB E b es n u:=by
 have fit:∀ {es cap o i z:Nat},0 < cap->o+i * es+cap * es <= z->1 <= es->z ≠ 0:=by
  intro es cap o i z h1 h2 h3
  have:=Nat.mul_le_mul_right es (show 1 <= cap from h1)
  omega
 cases hx<;>simp only [slB,Option.some.injEq,Prod.mk.injEq,reduceCtorEq] at hb
 case sl b' es i m nl a cap hn hcm hnl hz hc =>
  obtain ⟨rfl,rfl,rfl⟩:=hb
  exact ⟨a,cap,rfl,fun hp=>by obtain ⟨k,o,cs,e,h1,h2,h3,h4⟩:=hc (by omega);exact ⟨k,_,cs,e,h2,⟨o,h1⟩,h3,fit (by omega) h4⟩⟩
 case csl b' es i m c a hn hcm hc =>
  obtain ⟨rfl,rfl,rfl⟩:=hb
  exact ⟨a,c,rfl,fun hp=>by obtain ⟨k,o,cs,e,h1,h2,h3,h4⟩:=hc (by omega);exact ⟨k,_,cs,e,h2,⟨o,h1⟩,h3,fit (by omega) h4⟩⟩
/-! ### The heap behind what the caller sees -/
theorem geth_seth {h:List ABlk} {b:Nat} {x:ABlk} (hb:b < h.length):geth (seth h b x) b=x:=by
 rw [xQ,wK,List.getElem?_set_self hb];rfl
theorem geth_seth_ne {h:List ABlk} {b c:Nat} {x:ABlk} (hb:c ≠ b):geth (seth h b x) c=geth h c:=by
 rw [xQ,xQ,wK,List.getElem?_set_ne (Ne.symm hb)]
theorem seth_seth {h:List ABlk} {b:Nat} {x y:ABlk}:seth (seth h b x) b y=seth h b y:=by
 rw [wK,wK,wK,List.set_set]
theorem wF {h:List ABlk} {b:Nat} {x:ABlk}:(seth h b x).length=h.length:=by
 rw [wK,List.length_set]
theorem gA {h:List ABlk} {b:Nat} (hb:geth h b ≠ .dead):b < h.length:=by
 rcases Nat.lt_or_ge b h.length with h'|h'
 ·exact h'
 ·exact absurd (geth_out h') hb

theorem csl_of_sl {b es i n:Nat} {nl:Bool} {u:Value} (hx:VR E (.sl b es i n nl) u):∃ cap,n <= cap/\VR E (.csl b es i n cap) u:=by
 cases hx with
 | sl _ _ _ _ _ a cap hn hcm hnl hz hc=>exact ⟨cap,hn,.csl _ _ _ _ _ _ hn hcm hc⟩

def ConvR (v:AV) (h':List ABlk) (v1:AV) (h1:List ABlk):Prop:=∀ (E1:Env) (u:Value),HR E1 h1->VR E1 v1 u->∃ E',E'.w=E1.w/\Ext E1 h1 E' h'/\HR E' h'/\VR E' v u
theorem ConvR.refl (v:AV) (h:List ABlk):ConvR v h v h:=fun E1 u H V=>⟨E1,rfl,Ext.refl _ _,H,V⟩
theorem conv_move {b es i m N cap:Nat} {e:TypeId} {c1 c:Nat->Nat->AV} {h1:List ABlk} (hb:geth h1 b = .row e es N c1) (hcap:0 < cap) (hN:i+m <= N) (hc:∀ x y,x < m->y < es->c1 (i+x) y=c x y) :
  ConvR (.sl h1.length es 0 m false) (seth h1 b .dead ++ [.row e es m c]) (.csl b es i m cap) h1:=by
 intro E1 u H V
 cases V with
 | csl _ _ _ _ _ a hn hcm hc' =>
 obtain ⟨k,o,cs,e2,g1,rfl,g3,g4⟩:=hc' hcap
 have hne:(ABlk.row e es N c1) ≠ .dead:=fun e=>by cases e
 have hbs:h1[b]? = some (.row e es N c1):=by rw [zP (h:=h1) (b:=b) (by rw [hb];exact hne),hb]
 have hlt:b < h1.length:=gA (by rw [hb];exact hne)
 have hσ2:∀ (c':Nat) (y:Nat × Nat),E1.σ c'=some y->upd E1.σ h1.length (some (k,o+i * es)) c'=some y:=by
  intro c' y hc'
  rw [jW,hc']
  rintro rfl
  rw [H.fresh _ (Nat.le_refl _)] at hc'
  cases hc'
 have K2:Keep E1 { E1 with σ:=upd E1.σ h1.length (some (k,o+i * es)) }:=⟨hσ2,fun _ h=>h,fun _ _=>rfl,fun k cs e h=>⟨cs,h,rfl⟩,rfl⟩
 have hB:=H.blk b _ hbs
 unfold BR at hB
 rw [g1] at hB
 obtain ⟨cs',q1,q2,q3⟩:=hB
 rw [g3] at q1
 injection q1 with q1
 injection q1 with q1a q1b
 subst q1a q1b
 obtain ⟨H2,X2⟩:=move_HR (o':=o+i * es) (x':=.row e2 es m c) H hbs hne g1 (by
  unfold BR
  rw [show ({ E1 with σ:=upd E1.σ h1.length (some (k,o+i * es)) }:Env).σ h1.length=some (k,o+i * es) from vP _ _ _]
  refine ⟨cs,g3,?_,fun x y hx hy=>?_⟩
  ·have:=Nat.mul_le_mul_right es hn
   omega
  ·obtain ⟨v,a1,a2,a3⟩:=q3 (i+x) y (by omega) hy
   refine ⟨v,?_,a2,?_⟩
   ·rw [← a1,Nat.add_mul];congr 1;omega
   ·rw [← hc x y hx hy];exact a3.mono K2)
 rw [wK]
 exact ⟨{ E1 with σ:=upd E1.σ h1.length (some (k,o+i * es)) },rfl,X2,H2,.sl _ _ _ _ _ _ _ hn hcm (fun h=>by cases h) (fun h=>by cases h) fun _=>⟨k,o+i * es,cs,e2,vP _ _ _,by simp,g3,by omega⟩⟩
end Go.Am

namespace Go.Am
set_option linter.unusedVariables false
variable {P:Program} {E:Env} {h:List ABlk}

def Env.only (E:Env) (b:Nat):Env:=⟨E.w,fun i=>if i=0 then E.σ b else none,fun k=>k < E.w.heap.size/\∀ o,E.σ b ≠ some (k,o),E.lo⟩
theorem only_0 (E:Env) (b:Nat):(E.only b).σ 0=E.σ b:=rfl
theorem only_prot (H:HR E h) {b:Nat} (hb:geth h b ≠ .dead) {k:Nat} (hk:E.prot k):(E.only b).prot k :=
 ⟨(H.prot k hk).1,fun o ho=>(H.prot k hk).2 ⟨b,_,o,zP hb,hb,ho⟩⟩
theorem only_HR (H:HR E h) {b e es N:Nat} {c:Nat->Nat->AV} (hb:geth h b = .row e es N c) (hc:∀ x y,x < N->y < es->nref (c x y)):HR (E.only b) [.row e es N c]:=by
 have hne:geth h b ≠ .dead:=by rw [hb];exact fun e=>by cases e
 have hB:=H.blk b _ (zP hne)
 rw [hb] at hB
 refine ⟨fun i x hi=>?_,fun i i' x x' k o o' h1 _ h3 _ _ _=>?_,fun k hk=>⟨hk.1,?_⟩,fun i hi=>?_,fun k hk=>only_prot H hne (H.lo k hk)⟩
 ·cases i with
  | succ i=>simp at hi
  | zero =>
   simp at hi;subst hi
   unfold BR at hB ⊢
   rw [only_0]
   cases hs:E.σ b with
   | none=>rw [hs] at hB;exact hB
   | some p =>
    rw [hs] at hB
    obtain ⟨cs,q1,q2,q3⟩:=hB
    exact ⟨cs,q1,q2,fun x y hx hy=>by
     obtain ⟨v,a1,a2,a3⟩:=q3 x y hx hy
     exact ⟨v,a1,a2,VR.view (E:=E) (E':=E.only b) (fun k hk=>⟨only_prot H hne hk,rfl⟩) a3 (hc x y hx hy)⟩⟩
 ·cases i with
  | succ i=>simp at h1
  | zero=>cases i' with
   | succ i'=>simp at h3
   | zero=>rfl
 ·rintro ⟨i,x,o,h1,h2,h3⟩
  cases i with
  | succ i=>simp at h1
  | zero =>
   rw [only_0] at h3
   exact hk.2 o h3
 ·exact if_neg (by simp at hi;omega)
theorem only_sl {b es i n:Nat} {nl:Bool} {u:Value} (hx:VR E (.sl b es i n nl) u):VR (E.only b) (.sl 0 es i n nl) u:=by
 cases hx with
 | sl _ _ _ _ _ a cap hn hcm hnl hz hc =>
  exact .sl _ _ _ _ _ a cap hn hcm hnl hz fun hp=>by
   obtain ⟨k,o,cs,e,h1,h2,h3,h4⟩:=hc hp
   exact ⟨k,o,cs,e,(only_0 E b).trans h1,h2,h3,h4⟩
theorem only_ro (H:HR E h) {b b2 es i n N e:Nat} {nl:Bool} {c:Nat->Nat->AV} {u:Value} (hx:VR E (.sl b2 es i n nl) u) (hb2:geth h b2 = .row e es N c) (hne:geth h b ≠ .dead) (hbb:b2 ≠ b) (hN:i+n <= N)
  (hc:∀ x y,x < N->y < es->nref (c x y)):VR (E.only b) (.ro es n nl (wL i c)) u:=by
 cases hx with
 | sl _ _ _ _ _ a cap hn hcm hnl hz hcap =>
  have hne2:geth h b2 ≠ .dead:=by rw [hb2];exact fun e=>by cases e
  have own:0 < n->∃ k o,E.σ b2=some (k,o)/\a=some ⟨k,o+i * es,none⟩:=fun hp=>by
   obtain ⟨k,o,cs,e,h1,h2,_⟩:=hcap (by omega)
   exact ⟨k,o,h1,h2⟩
  have cell:∀ x y,x < n->y < es->∃ v,(∃ k o,E.σ b2=some (k,o)/\a=some ⟨k,o+i * es,none⟩/\E.w.cell? ⟨k,o+(i+x) * es+y,none⟩=some v)/\v.oneCell'=true/\VR E (wL i c x y) v:=fun x y hx hy=>by
   obtain ⟨k,o,h1,h2⟩:=own (by omega)
   obtain ⟨v,q1,q2,q3⟩:=vU H hb2 h1 (i+x) y (by omega) hy
   exact ⟨v,⟨k,o,h1,h2,q1⟩,q2,q3⟩
  let us:Nat->Nat->Value:=fun x y=>if hh:x < n/\y < es then (cell x y hh.1 hh.2).choose else undef
  have hus:∀ x y (hx:x < n) (hy:y < es),us x y=(cell x y hx hy).choose:=fun x y hx hy=>dif_pos ⟨hx,hy⟩
  refine .ro es n nl (wL i c) a cap hn hcm hnl (zr_own H hne2 hn hz hcap (fun _ h=>h)) us (fun hp=>?_) (fun x y hx hy=>?_) (fun x y hx hy=>?_) (fun x y hx hy=>hc _ _ (by omega) hy)
  ·obtain ⟨k,o,h1,h2⟩:=own hp
   have hB:=H.blk b2 _ (zP hne2)
   rw [hb2] at hB
   refine ⟨k,o+i * es,h2,⟨hB.lt (by intro e;cases e) h1,fun o' ho'=>hbb (H.inj b2 b _ _ k o o' (zP hne2) hne2 (zP hne) hne h1 ho')⟩,fun x y hx hy=>?_⟩
   obtain ⟨⟨k',o',g1,g2,g3⟩,_⟩:=(cell x y hx hy).choose_spec
   rw [h1] at g1;cases g1
   rw [hus x y hx hy,← g3,Nat.add_mul]
   show (E.only b).w.cell? _=E.w.cell? _
   show E.w.cell? _=E.w.cell? _
   congr 2
   omega
  ·rw [hus x y hx hy];exact (cell x y hx hy).choose_spec.2.1
  ·rw [hus x y hx hy]
   exact VR.view (E:=E) (E':=E.only b) (fun k hk=>⟨only_prot H hne hk,rfl⟩) (cell x y hx hy).choose_spec.2.2 (hc _ _ (by omega) hy)

theorem only_back (H:HR E h) {b es m e:Nat} {c:Nat->Nat->AV} {hs:List ABlk} {E1:Env} {u:Value} (hb:geth h b ≠ .dead) (hs1:∀ k,Own (E.only b) hs k->∃ o,E.σ b=some (k,o)) (X:Ext (E.only b) hs E1 [.dead,.row e es m c]) (H1:HR E1 [.dead,.row e es m c])
  (V:VR E1 (.sl 1 es 0 m false) u) (hc:∀ x y,x < m->y < es->flatA (c x y)) :
  ∃ E',E'.w=E1.w/\Ext E h E' (seth h b .dead ++ [.row e es m c])/\HR E' (seth h b .dead ++ [.row e es m c])/\VR E' (.sl h.length es 0 m false) u:=by
 let E':Env:=⟨E1.w,fun i=>if i < h.length then E.σ i else if i=h.length then E1.σ 1 else none,E.prot,E.lo⟩
 have s1:∀ i,i < h.length->E'.σ i=E.σ i:=fun i hi=>if_pos hi
 have s2:E'.σ h.length=E1.σ 1:=by show (if _ then _ else _)=_;rw [if_neg (by omega),if_pos rfl]
 have hlt:∀ i x,E.σ i=some x->i < h.length:=by
  intro i x hi
  rcases Nat.lt_or_ge i h.length with h'|h'
  ·exact h'
  ·rw [H.fresh i h'] at hi;cases hi
 have hbl:b < h.length:=gA hb
 have keep:∀ k,k < E.w.heap.size->(∀ o,E.σ b ≠ some (k,o))->E1.w.heap[k]? = E.w.heap[k]?:=fun k hk hn=>X.frame k hk fun ho=>by
  obtain ⟨o,h1⟩:=hs1 k ho
  exact hn o h1
 have hprot:∀ k,E.prot k->E1.w.heap[k]? = E.w.heap[k]?:=fun k hk=>keep k (H.prot k hk).1 (only_prot H hb hk).2
 have K:Keep E E':=⟨fun i x hi=>by rw [s1 i (hlt i x hi)];exact hi,fun _ h=>h,hprot,X.kind,rfl⟩
 have hnew:∀ k o,E1.σ 1=some (k,o)->(∃ o,E.σ b=some (k,o)) ∨ E.w.heap.size <= k:=fun k o ho=>by
  rcases X.own k ⟨1,.row e es m c,o,rfl,(by intro e;cases e),ho⟩ with h'|h'
  ·exact .inl (hs1 k h')
  ·exact .inr h'
 have hget:∀ {i:Nat} {x:ABlk},(seth h b .dead ++ [.row e es m c])[i]? = some x->x ≠ .dead->(i < h.length/\i ≠ b/\h[i]? = some x) ∨ (i=h.length/\x = .row e es m c):=by
  intro i x hi hx
  rw [wK] at hi
  rcases getElem?_snoc hi with ⟨hl,hi⟩|⟨rfl,rfl⟩
  ·rw [List.length_set] at hl
   by_cases hib:b=i
   ·subst hib
    rw [List.getElem?_set_self hl] at hi
    injection hi with hi
    exact absurd hi.symm hx
   ·rw [List.getElem?_set_ne hib] at hi
    exact .inl ⟨hl,Ne.symm hib,hi⟩
  ·exact .inr ⟨by rw [List.length_set],rfl⟩
 have notb:∀ {i:Nat} {x:ABlk} {k o:Nat},h[i]? = some x->x ≠ .dead->i ≠ b->E.σ i=some (k,o)->∀ o',E.σ b ≠ some (k,o'):=by
  intro i x k o h1 h2 h3 h4 o' h5
  exact h3 (H.inj i b _ _ k o o' h1 h2 (zP hb) hb h4 h5)
 have hown:∀ k,Own E' (seth h b .dead ++ [.row e es m c]) k->Own E h k ∨ E.w.heap.size <= k:=by
  rintro k ⟨i,x,o,q1,q2,q3⟩
  rcases hget q1 q2 with ⟨hl,_,q1⟩|⟨rfl,rfl⟩
  ·rw [s1 i hl] at q3;exact .inl ⟨i,x,o,q1,q2,q3⟩
  ·rw [s2] at q3
   rcases hnew k o q3 with ⟨o',h'⟩|h'
   ·exact .inl ⟨b,_,o',zP hb,hb,h'⟩
   ·exact .inr h'
 refine ⟨E',rfl,⟨X.os,X.tape,X.output,K.σ,fun _ h=>h,X.size,X.kind,fun k hk hn=>keep k hk fun o ho=>hn ⟨b,_,o,zP hb,hb,ho⟩,hown,by rw [List.length_append,wF];omega,s1,fun _ h=>.inl h,rfl,fun _ h=>.inl h⟩,
  ⟨fun i x hi=>?_,fun i i' x x' k o o' h1 h2 h3 h4 h5 h6=>?_,fun k hk=>?_,fun i hi=>?_,H.lo⟩,?_⟩
 ·by_cases hd:x = .dead
  ·subst hd;trivial
  rcases hget hi hd with ⟨hl,hib,hi'⟩|⟨rfl,rfl⟩
  ·refine (H.blk i x hi').mono K (s1 i hl) fun k o hk=>?_
   exact keep k ((H.blk i x hi').lt hd hk) (notb hi' hd hib hk)
  ·have hB:=H1.blk 1 _ rfl
   unfold BR at hB ⊢
   rw [s2]
   cases hs:E1.σ 1 with
   | none=>rw [hs] at hB;exact hB
   | some p =>
    rw [hs] at hB
    obtain ⟨cs,r1,r2,r3⟩:=hB
    exact ⟨cs,r1,r2,fun x y hx hy=>by obtain ⟨v,y1,y2,y3⟩:=r3 x y hx hy;exact ⟨v,y1,y2,VR.flat (E:=E1) (E':=E') rfl y3 (hc x y hx hy)⟩⟩
 ·rcases hget h1 h2 with ⟨l1,n1,g1⟩|⟨e1,_⟩<;>rcases hget h3 h4 with ⟨l3,n3,g3⟩|⟨e3,_⟩
  ·rw [s1 i l1] at h5;rw [s1 i' l3] at h6;exact H.inj i i' x x' k o o' g1 h2 g3 h4 h5 h6
  ·rw [s1 i l1] at h5;rw [e3,s2] at h6
   rcases hnew k o' h6 with ⟨o2,h'⟩|h'
   ·exact absurd h' (notb g1 h2 n1 h5 o2)
   ·exact absurd ((H.blk i x g1).lt h2 h5) (by omega)
  ·rw [s1 i' l3] at h6;rw [e1,s2] at h5
   rcases hnew k o h5 with ⟨o2,h'⟩|h'
   ·exact absurd h' (notb g3 h4 n3 h6 o2)
   ·exact absurd ((H.blk i' x' g3).lt h4 h6) (by omega)
  ·rw [e1,e3]
 ·obtain ⟨h1,h2⟩:=H.prot k hk
  refine ⟨Nat.lt_of_lt_of_le h1 X.size,fun ho=>?_⟩
  rcases hown k ho with h'|h'
  ·exact h2 h'
  ·omega
 ·rw [List.length_append,wF,List.length_singleton] at hi
  show (if _ then _ else _)=_
  rw [if_neg (by omega),if_neg (by omega)]
 ·cases V with
  | sl _ _ _ _ _ a cap hn hcm hnl hz hcap =>
   exact .sl _ _ _ _ _ a cap hn hcm hnl hz fun hp=>by
    obtain ⟨k,o,cs,e,g1,g2,g3,g4⟩:=hcap hp
    exact ⟨k,o,cs,e,s2.trans g1,g2,g3,g4⟩

theorem edit1_fn {f:FuncId} {fn:Func} {code:Code} {sh:TypeId->Option (List Leaf)} {ct:Ct} (S:fN P sh) (C:wO P ct) (c:List AV->List ABlk->AR) {rs:List ResultVar}
  (hf:P.funcs[f]? = some fn) (hn:(fn.name == "runtime.NumGoroutine")=false) (hb:fn.body=some code) (hrs:fn.results.toList=rs) (hnp:∀ l h ob v,c l h ≠ .pure ob v)
  (hw:∀ (E:Env) (h:List ABlk) (l:List AV) (vs:Array Value) (ob:Prop) (v:AV) (h':List ABlk),HR E h->FR E l vs->c l h = .heap ob v h'->ob ->
   ∃ b e es N cc m c' l',geth h b = .row e es N cc/\(∀ x y,x < N->y < es->nref (cc x y))/\(∀ x y,x < m->y < es->flatA (c' x y))/\v = .sl h.length es 0 m false/\h'=seth h b .dead ++ [.row e es m c']/\FR (E.only b) l' vs /\
   wpC P sh ct code (kY P rs (ConvR (.sl 1 es 0 m false) [.dead,.row e es m c'])) (l' ++ List.replicate (fn.ntmps - l'.length) .top) [.row e es N cc]):yU P f c:=by
 subst hrs
 have tops:∀ {E:Env} {l':List AV} {vs:Array Value},FR E l' vs->FR E (l' ++ List.replicate (fn.ntmps - l'.length) .top) (vs ++ Array.replicate (fn.ntmps - vs.size) undef):=by
  intro E l' vs F1
  refine xM F1 ⟨by simp [F1.1],fun i a v ha hv=>?_⟩
  rw [List.getElem?_replicate] at ha
  split at ha
  ·injection ha with ha;subst ha;exact .top _
  ·cases ha
 refine ⟨⟨fn,hf,hn,by rw [hb];rfl⟩,fun E h l vs ob v h' H F hr hob=>?_,fun E h l vs ob v H F hr hob=>absurd hr (hnp _ _ _ _)⟩
 cases hc:c l h with
 | fail=>rw [hc] at hr;cases hr
 | pure a b=>exact absurd hc (hnp _ _ _ _)
 | heap ob2 v2 h2 =>
  rw [hc] at hr
  simp only [AR.out,Option.some.injEq,Prod.mk.injEq] at hr
  obtain ⟨rfl,rfl,rfl⟩:=hr
  obtain ⟨b,e,es,N,cc,m,c',l',hbk,hnr,hfl,rfl,rfl,g1,g3⟩:=hw E h l vs _ _ _ H F hc hob
  have hne:geth h b ≠ .dead:=by rw [hbk];exact fun e=>by cases e
  refine calls_of_wp hf hb ?_
  refine wpC_sound S C code _ _ _ g3 (E.only b) _ _ (only_HR H hbk hnr) (tops g1) rfl fun en E1 a' t' h1 hk X1 H1 F' hd=>?_
  have done:cV P fn.results.toList (ConvR (.sl 1 es 0 m false) [.dead,.row e es m c']) t' h1->a'.defers=[]/\∃ u,(results fn a'.tmps).run P E1.w = .ok u E1.w/\Ret E h (seth h b .dead ++ [.row e es m c']) (.sl h.length es 0 m false) (.returned u) E1.w:=by
   intro hk
   obtain ⟨u,v',q1,q2,q3⟩:=tP (P:=P) H1 F' hk
   obtain ⟨E2,w1,w2,w3,w4⟩:=q2 E1 u H1 q3
   obtain ⟨E',z1,z2,z3,z4⟩:=only_back H hne (fun k hk=>by
    obtain ⟨i,x,o,r1,r2,r3⟩:=hk
    cases i with
    | succ i=>simp at r1
    | zero=>exact ⟨o,r3⟩) (X1.trans w2) w3 w4 hfl
   exact ⟨hd,u,q1,u,E',rfl,z1.trans w1,z2,z3,z4⟩
  cases en with
  | normal=>exact done hk
  | ret=>exact done hk
  | exit id=>exact hk.elim
  | goto l=>exact hk.elim

/-! ### slices.Delete, slices.Insert as contracts -/
def delA (i p d:Nat) (c:Nat->Nat->AV):Nat->Nat->AV:=fun x y=>if x < p then c (i+x) y else c (i+x+d) y
def delF (e es:Nat) (l:List AV) (h:List ABlk):AR:=match l with
 | [.sl b es' i n _,.int .i64 (.ofNat p),.int .i64 (.ofNat q)]=>match geth h b with
  | .row e' es2 N c=>.heap (e'=e/\es'=es/\es2=es/\i+n <= N/\p < q/\q <= n/\∀ x y,x < N->y < es->flatA (c x y)) (.sl h.length es 0 (n - (q - p)) false) (seth h b .dead ++ [.row e es (n - (q - p)) (delA i p (q - p) c)])
  | _=>.fail
 | _=>.fail
def bN (i p m:Nat) (c d:Nat->Nat->AV):Nat->Nat->AV:=fun x y=>if x < p then c (i+x) y else if x < p+m then d (x - p) y else c (i+x - m) y
def insF (e es:Nat) (l:List AV) (h:List ABlk):AR:=match l with
 | [.sl b es' i n _,.int .i64 (.ofNat p),.sl b2 es3 i2 m _]=>match geth h b with
  | .row e' es2 N c=>match geth h b2 with
   | .row _ es4 N2 d=>.heap (e'=e/\es'=es/\es2=es/\es3=es/\es4=es/\b2 ≠ b/\i+n <= N/\i2+m <= N2/\p <= n/\m=1/\n+m <= 1000000/\(∀ x y,x < N->y < es->flatA (c x y))/\∀ x y,x < N2->y < es->flatA (d x y))
     (.sl h.length es 0 (n+m) false) (seth h b .dead ++ [.row e es (n+m) (bN i p m c (wL i2 d))])
   | _=>.fail
  | _=>.fail
 | _=>.fail
theorem delF_np {e es:Nat}:∀ l h ob v,delF e es l h ≠ .pure ob v:=by
 intro l h ob v hc
 unfold delF at hc
 split at hc
 ·split at hc<;>cases hc
 ·cases hc
theorem insF_np {e es:Nat}:∀ l h ob v,insF e es l h ≠ .pure ob v:=by
 intro l h ob v hc
 unfold insF at hc
 split at hc
 ·split at hc
  ·split at hc<;>cases hc
  ·cases hc
 ·cases hc
end Go.Am

namespace Go.Am
set_option linter.unusedVariables false
variable {P:Program}

theorem run_bind2 {α β:Type} (x:Sem α) (f:α->Sem β) (w:World):(x.bind f).run P w=(x.run P w).andThen fun a w'=>(f a).run P w':=Sem.run_bind ..
theorem run_overlaps_r {t tr e ta tb:TypeId} {z na nb:Nat} (w:World) (ht:P.underlying t=some (.slice e)) (hz:∀ w,(Go.sizeOf e).run P w = .ok z w) (a b:Addr) (n ca n' ca':Nat) (hk:a.block ≠ b.block)
  (hsa:w.shape? a.block=some (ta,na)) (hna:na ≠ 0) (hsb:w.shape? b.block=some (tb,nb)) (hfb:∀ x,w.frozen? ⟨b.block,x,none⟩=false) (hb:b.spot=none) :
  (Extern.SlicesOverlaps.overlaps #[t,t] #[tr] #[.slice (some a) n ca,.slice (some b) n' ca']).run P w = .ok (.bool false) w:=by
 have hfb':w.frozen? b=false:=by
  obtain ⟨bb,bo,bs⟩:=b
  simp only at hb;subst hb
  exact hfb bo
 have hnb:(a.block == b.block)=false:=by simpa using hk
 conv=>lhs;arg 2;whnf
 by_cases h0:n=0 ∨ n'=0 ∨ z=0
 ·simp [Sem.run,ht,run_bind2,hz,h0]
 ·cases na with
  | zero=>exact absurd rfl hna
  | succ na =>
  cases hfa:w.frozen? a<;>cases hfe:w.frozen? { block:=a.block,off:=na+1 } <;>
  simp [Sem.run,ht,run_bind2,hz,h0,hk,hnb,noView,viewAt,mayBeOne,stringish,hsa,hsb,hfa,hfe,hfb,hfb']
variable {E:Env} {h:List ABlk}
def ovC2:List AV->List ABlk->AR
 | [.ro es n _ _,y],h=>match slB y with
  | some (b',_,n')=>.pure (0 < n/\1 <= es/\geth h b' ≠ .dead/\0 < n') (.bool false)
  | none=>.fail
 | _,_=>.fail
theorem ov_ext2 {f:FuncId} {fn:Func} {t tr e:TypeId} {z:Nat} (hf:P.funcs[f]? = some fn) (hname:(fn.name == "runtime.NumGoroutine")=false) (hbd:fn.body.isNone=true) (hn:Extern.findNext fn=none)
  (he:Extern.find fn=some (Extern.SlicesOverlaps.overlaps #[t,t] #[tr])) (ht:tslice P t=some e) (hz:tsz P e=some z):ExtOk P f ovC2:=by
 intro E h l vs H F
 refine ⟨fun ob v h' hc=>?_,fun ob v hc hob=>?_⟩
 ·unfold ovC2 at hc
  split at hc
  ·split at hc<;>cases hc
  ·cases hc
 ·unfold ovC2 at hc
  split at hc
  ·rename_i es n nl c y
   split at hc
   ·rename_i b' es' n' q2
    injection hc with r1 r2;subst r1 r2
    obtain ⟨o1,o2,o3,o4⟩:=hob
    obtain ⟨u1,u2,rfl,hu1,hu2⟩:=FR_two F
    refine ⟨.bool false,rfl,fun E'=>.bool _,?_⟩
    obtain ⟨a',ca',rfl,ha'⟩:=slB_at hu2 q2
    obtain ⟨k',off',cs',e1',rfl,⟨o',g1'⟩,g2',_⟩:=ha' o4
    cases hu1 with
    | ro _ _ _ _ a cap hn' hcm hnl hz' us ha h1 hc hrf =>
    obtain ⟨k,o,rfl,g1,g2⟩:=ha o1
    have hk:k ≠ k':=by
     rintro rfl
     exact (H.prot k g1).2 ⟨b',_,o',zP o3,o3,g1'⟩
    have hcell:=g2 0 0 o1 o2
    obtain ⟨ta,na,hsa,hna⟩:∃ ta na,E.w.shape? k=some (ta,na)/\na ≠ 0:=by
     unfold World.cell? at hcell
     unfold World.shape?
     simp only at hcell
     split at hcell
     ·rename_i cs e' mk hkk
      refine ⟨e',cs.size,rfl,?_⟩
      intro h0
      simp only [Option.isSome_none,Bool.false_eq_true,if_false] at hcell
      rw [Array.getElem?_eq_none (by omega)] at hcell
      cases hcell
     ·cases hcell
    rw [run_callFunc_extern hf hname hbd hn he,run_overlaps_r (ta:=ta) (tb:=e1') (na:=na) (nb:=cs'.size) E.w (yT ht) (xL hz) ⟨k,o,none⟩ ⟨k',off',none⟩ n cap n' ca' hk hsa hna (by unfold World.shape?;simp only [g2'])
     (fun x=>by unfold World.frozen?;simp only [g2'];simp) rfl]
    rfl
   ·cases hc
  ·cases hc

theorem conv_two {x0:ABlk} {e es m N:Nat} {nl:Bool} {c c':Nat->Nat->AV} (hN:m <= N) (hc:∀ x y,x < m->y < es->c x y=c' x y):ConvR (.sl 1 es 0 m nl) [.dead,.row e es m c'] (.sl 1 es 0 m nl) [x0,.row e es N c]:=by
 intro E1 u H V
 obtain ⟨H1,X1⟩:=kill_HR H 0
 have e1:([x0,.row e es N c]:List ABlk).set 0 .dead=[.dead,.row e es N c]:=rfl
 rw [e1] at H1 X1
 have own:∀ k,Own E1 [.dead,.row e es m c'] k->Own E1 [.dead,.row e es N c] k:=by
  rintro k ⟨i,x,o,q1,q2,q3⟩
  match i with
  | 0=>simp at q1;exact absurd q1.symm q2
  | 1=>exact ⟨1,_,o,rfl,(by intro e;cases e),q3⟩
  | i+2=>simp at q1
 refine ⟨E1,rfl,X1.trans ⟨rfl,rfl,rfl,fun _ _ h=>h,fun _ h=>h,Nat.le_refl _,fun k cs e h=>⟨cs,h,rfl⟩,fun _ _ _=>rfl,fun k h=>.inl (own k h),by simp,fun _ _=>rfl,fun _ h=>.inl h,rfl,fun _ h=>.inl h⟩,
  ⟨fun i x hi=>?_,fun i i' x x' k o o' h1 h2 h3 h4 h5 h6=>?_,fun k hk=>⟨(H1.prot k hk).1,fun ho=>(H1.prot k hk).2 (own k ho)⟩,fun i hi=>H1.fresh i (by simpa using hi),H.lo⟩,V⟩
 ·match i with
  | 0=>simp at hi;subst hi;trivial
  | 1 =>
   simp at hi;subst hi
   have hB:=H1.blk 1 _ rfl
   unfold BR at hB ⊢
   cases hs:E1.σ 1 with
   | none=>rw [hs] at hB;simp only at hB ⊢;omega
   | some p =>
    rw [hs] at hB
    obtain ⟨cs,r1,r2,r3⟩:=hB
    have:=Nat.mul_le_mul_right es hN
    exact ⟨cs,r1,by omega,fun x y hx hy=>by rw [← hc x y hx hy];exact r3 x y (by omega) hy⟩
  | i+2=>simp at hi
 ·match i,i' with
  | 0,_=>simp at h1;exact absurd h1.symm h2
  | 1,0=>simp at h3;exact absurd h3.symm h4
  | 1,1=>rfl
  | i+2,_=>simp at h1
  | 1,i'+2=>simp at h3
end Go.Am

namespace Go.Am
set_option linter.unusedVariables false
variable {P:Program} {E:Env} {h:List ABlk}

mutual
def fzV (h:List ABlk) (fz:List Nat):AV->AV
 | .ptr b es i j=>bif inL b fz then (match geth h b with
  | .lit _ l=>.rptr l.length 1 0 (i * es+j) (fun _ y=>zL l y)
  | .row _ es' n c=>.rptr es' n i j c
  | .mapb _ _=>.top
  | .dead=>.top) else .ptr b es i j
 | .sl b es i n nl=>bif inL b fz then (match geth h b with
  | .row _ _ _ c=>.ro es n nl (wL i c)
  | _=>.top) else .sl b es i n nl
 | .isl b es i j z n=>bif inL b fz then (match geth h b with
  | .lit _ l=>.ro z n false (fun x y=>zL l (i * es+j+x * z+y))
  | .row _ _ _ c=>.ro z n false (innC i j z c)
  | .mapb _ _=>.top
  | .dead=>.top) else .isl b es i j z n
 | .csl b es i n c=>bif inL b fz then (match geth h b with
  | .row _ _ _ c=>.ro es n false (wL i c)
  | _=>.top) else .csl b es i n c
 | .agg l=>.agg (fzL h fz l)
 | .tup l=>.tup (fzL h fz l)
 | .fn f l=>.fn f (fzL h fz l)
 | .mfn f l=>.mfn f (fzL h fz l)
 | .top=>.top
 | .bool b=>.bool b
 | .int k n=>.int k n
 | .str s=>.str s
 | .nilp=>.nilp
 | .rptr es n i j c=>.rptr es n i j c
 | .ro es n nl c=>.ro es n nl c
 | .emp=>.emp
 | .nilf=>.nilf
 | .ub=>.ub
 | .val v=>.val v
 | .mp m=>.mp m
 | .opt g v=>.opt g (fzV h fz v)
def fzL (h:List ABlk) (fz:List Nat):List AV->List AV
 | []=>[]
 | a::l=>fzV h fz a::fzL h fz l
end
def vR (es i n:Nat):ABlk->Prop
 | .row _ es' N c=>es'=es/\i+n <= N/\∀ x y,x < n->y < es->nref (c (i+x) y)
 | _=>True
mutual
def yL (h:List ABlk) (fz:List Nat):AV->Prop
 | .ptr b es i j=>bif inL b fz then (match geth h b with
  | .lit _ l=>zX l
  | .row _ es' n c=>es'=es/\∀ x y,x < n->y < es->nref (c x y)
  | .mapb _ _=>True
  | .dead=>True) else True
 | .sl b es i n nl=>bif inL b fz then vR es i n (geth h b) else True
 | .isl b es i j z n=>bif inL b fz then False else True
 | .csl b es i n _=>bif inL b fz then vR es i n (geth h b) else True
 | .agg l=>vO h fz l
 | .tup l=>vO h fz l
 | .fn _ l=>vO h fz l
 | .mfn _ l=>vO h fz l
 | .rptr _ _ _ _ _=>True
 | .ro _ _ _ _=>True
 | .opt _ v=>yL h fz v
 | .top=>True
 | .bool _=>True
 | .int _ _=>True
 | .str _=>True
 | .nilp=>True
 | .emp=>True
 | .nilf=>True
 | .ub=>True
 | .val _=>True
 | .mp _=>True
def vO (h:List ABlk) (fz:List Nat):List AV->Prop
 | []=>True
 | a::l=>yL h fz a/\vO h fz l
end
def fzB (h:List ABlk) (fz:List Nat):ABlk->ABlk
 | .lit e l=>.lit e (fzL h fz l)
 | .row e es n c=>.row e es n c
 | .mapb k m=>.mapb k m
 | .dead=>.dead
def fzHF (h:List ABlk) (fz:List Nat):Nat->List ABlk->List ABlk
 | _,[]=>[]
 | b,x::l=>(bif inL b fz then .dead else fzB h fz x)::fzHF h fz (b+1) l
def fzH (h:List ABlk) (fz:List Nat):List ABlk:=fzHF h fz 0 h
def bC (h:List ABlk) (fz:List Nat):ABlk->Prop
 | .lit _ l=>vO h fz l
 | .row _ _ _ _=>True
 | .mapb _ _=>True
 | .dead=>True
def uT (h:List ABlk) (fz:List Nat):List ABlk->Prop
 | []=>True
 | x::l=>bC h fz x/\uT h fz l
theorem fzL_get {fz:List Nat} (l:List AV) (i:Nat):(fzL h fz l)[i]? = (l[i]?).map (fzV h fz):=by
 induction l generalizing i with
 | nil=>simp [fzL]
 | cons a l ih=>cases i<;>simp [fzL,ih]
theorem kW {fz:List Nat} (l:List AV):(fzL h fz l).length=l.length:=by
 induction l with
 | nil=>rfl
 | cons a l ih=>simp [fzL,ih]
theorem gJ {fz:List Nat} {l:List AV} (hn:vO h fz l) {i:Nat} {a:AV} (ha:l[i]? = some a):yL h fz a:=by
 induction l generalizing i with
 | nil=>simp at ha
 | cons b l ih =>
  simp only [vO] at hn
  cases i with
  | zero=>simp at ha;subst ha;exact hn.1
  | succ i=>exact ih hn.2 (by simpa using ha)
theorem fzHF_get {fz:List Nat} (g:List ABlk):∀ (b i:Nat),(fzHF h fz b g)[i]? = (g[i]?).map fun x=>bif inL (b+i) fz then .dead else fzB h fz x:=by
 induction g with
 | nil=>intro b i;simp [fzHF]
 | cons x l ih =>
  intro b i
  cases i with
  | zero=>simp [fzHF]
  | succ i=>simp only [fzHF,List.getElem?_cons_succ];rw [ih,show b+1+i=b+(i+1) from by omega]
theorem fzH_get {fz:List Nat} (i:Nat):(fzH h fz)[i]? = (h[i]?).map fun x=>bif inL i fz then .dead else fzB h fz x:=by
 unfold fzH;rw [fzHF_get,Nat.zero_add]
theorem fzHF_length {fz:List Nat} (g:List ABlk):∀ b,(fzHF h fz b g).length=g.length:=by
 induction g with
 | nil=>intro b;rfl
 | cons x l ih=>intro b;simp [fzHF,ih]
theorem fzH_length {fz:List Nat}:(fzH h fz).length=h.length:=fzHF_length h 0
theorem fzObH_get {fz:List Nat} {g:List ABlk} (hn:uT h fz g) {i:Nat} {x:ABlk} (ha:g[i]? = some x):bC h fz x:=by
 induction g generalizing i with
 | nil=>simp at ha
 | cons b l ih =>
  simp only [uT] at hn
  cases i with
  | zero=>simp at ha;subst ha;exact hn.1
  | succ i=>exact ih hn.2 (by simpa using ha)

def Env.fz (E:Env) (h:List ABlk) (fz:List Nat):Env:=⟨E.w,E.σ,fun k=>E.prot k ∨ ∃ b x o,inL b fz=true/\h[b]? = some x/\cellB x/\E.σ b=some (k,o),E.lo⟩
theorem fz_keep (E:Env) (h:List ABlk) (fz:List Nat):Keep E (E.fz h fz):=⟨fun _ _ h=>h,fun _ hk=>.inl hk,fun _ _=>rfl,fun k cs e h=>⟨cs,h,rfl⟩,rfl⟩
theorem fz_VR (H:HR E h) {fz:List Nat} {a:AV} {v:Value} (hv:VR E a v) (ho:yL h fz a):VR (E.fz h fz) (fzV h fz a) v:=by
 have K:=fz_keep E h fz
 have vm:∀ {a:AV} {v:Value},VR E a v->VR (E.fz h fz) a v:=fun h=>h.mono K
 have pr:∀ {b k o:Nat},inL b fz=true->cellB (geth h b)->E.σ b=some (k,o)->(E.fz h fz).prot k:=fun h1 h2 h3=>.inr ⟨_,_,_,h1,zP h2.nd,h2,h3⟩
 have lst:∀ (l:List AV) (vs:Array Value),l.length=vs.size->vO h fz l->(∀ (i:Nat) (a:AV) (v:Value),l[i]? = some a->vs[i]? = some v->yL h fz a->VR (E.fz h fz) (fzV h fz a) v) ->
   (fzL h fz l).length=vs.size/\∀ (i:Nat) (a:AV) (v:Value),(fzL h fz l)[i]? = some a->vs[i]? = some v->VR (E.fz h fz) a v:=by
  intro l vs hl hn ih
  refine ⟨by rw [kW,hl],fun i a v ha hv=>?_⟩
  rw [fzL_get] at ha
  cases hi:l[i]? with
  | none=>rw [hi] at ha;cases ha
  | some a0 =>
   rw [hi] at ha
   simp only [Option.map_some,Option.some.injEq] at ha
   subst ha
   exact ih i a0 v hi hv (gJ hn hi)
 -- a row's elements
 have row:∀ (b es i n:Nat) (nl:Bool) (a:Option Addr) (cap:Nat) (e:TypeId) (N:Nat) (c:Nat->Nat->AV),inL b fz=true->geth h b = .row e es N c->i+n <= N->(∀ x y,x < n->y < es->nref (c (i+x) y))->n <= cap->cap <= maxLen->(nl=true->a=none)->(a=none->cap=0) ->
   (0 < cap->∃ k o cs e,E.σ b=some (k,o)/\a=some ⟨k,o+i * es,none⟩/\E.w.heap[k]? = some (.cells cs e (0,0))/\o+i * es+cap * es <= cs.size)->VR (E.fz h fz) (.ro es n nl (wL i c)) (.slice a n cap):=by
  intro b es i n nl a cap e N c hb hg hN hrf hn hcm hnl hz hc
  have main:0 < n->∃ k o,a=some ⟨k,o+i * es,none⟩/\(E.fz h fz).prot k/\∀ x y,x < n->y < es->∃ u,E.w.cell? ⟨k,o+i * es+x * es+y,none⟩=some u/\u.oneCell'=true/\VR E (c (i+x) y) u:=by
   intro hp
   obtain ⟨k,o,cs,e',g1,g2,g3,g4⟩:=hc (by omega)
   refine ⟨k,o,g2,pr hb (by rw [hg];trivial) g1,fun x y hx hy=>?_⟩
   obtain ⟨u,q1,q2,q3⟩:=vU H hg g1 (i+x) y (by omega) hy
   exact ⟨u,by rw [← q1,Nat.add_mul];congr 2;omega,q2,q3⟩
  refine .ro es n nl (wL i c) a cap hn hcm hnl (zr_own H (by rw [hg];exact fun e=>by cases e) hn hz hc (fun _ h=>h)) (fun x y=>tT E.w (x * es+y) a) (fun hp=>?_) (fun x y hx hy=>?_) (fun x y hx hy=>?_) (fun x y hx hy=>hrf x y hx hy)
  ·obtain ⟨k,o,rfl,g2,g3⟩:=main hp
   refine ⟨k,o+i * es,rfl,g2,fun x y hx hy=>?_⟩
   obtain ⟨u,q1,_,_⟩:=g3 x y hx hy
   show E.w.cell? _=_
   rw [q1,tT,show (⟨k,o+i * es,none⟩:Addr).add (x * es+y) = ⟨k,o+i * es+x * es+y,none⟩ from by simp [Addr.add,Nat.add_assoc],q1];rfl
  ·obtain ⟨k,o,rfl,g2,g3⟩:=main (by omega)
   obtain ⟨u,q1,q2,_⟩:=g3 x y hx hy
   rw [tT,show (⟨k,o+i * es,none⟩:Addr).add (x * es+y) = ⟨k,o+i * es+x * es+y,none⟩ from by simp [Addr.add,Nat.add_assoc],q1];exact q2
  ·obtain ⟨k,o,rfl,g2,g3⟩:=main (by omega)
   obtain ⟨u,q1,_,q3⟩:=g3 x y hx hy
   rw [tT,show (⟨k,o+i * es,none⟩:Addr).add (x * es+y) = ⟨k,o+i * es+x * es+y,none⟩ from by simp [Addr.add,Nat.add_assoc],q1];exact vm q3
 induction hv with
 | top v=>simp only [fzV];exact .top v
 | bool b=>simp only [fzV];exact .bool b
 | int k n=>simp only [fzV];exact .int k n
 | str s=>simp only [fzV];exact .str s
 | nilp=>simp only [fzV];exact .nilp
 | emp a=>simp only [fzV];exact .emp a
 | nilf=>simp only [fzV];exact .nilf
 | ub b=>simp only [fzV];exact .ub b
 | val v h1=>simp only [fzV];exact .val v h1
 | mp m r clock es hp hb he=>simp only [fzV];exact vm (.mp m r clock es hp hb he)
 | ptr b es i j k o hσ =>
  simp only [fzV,yL] at ho ⊢
  cases hb:inL b fz with
  | false=>simp only [cond_false];exact .ptr b es i j k o hσ
  | true =>
  rw [hb] at ho
  simp only [cond_true] at ho ⊢
  cases hg:geth h b with
  | dead=>exact .top _
  | mapb _ _=>exact .top _
  | lit e l =>
   rw [hg] at ho
   simp only at ho ⊢
   have hown:=fX H hg hσ
   have hp:=pr hb (by rw [hg];trivial) hσ
   have h1:∀ y,y < l.length->∃ u,E.w.cell? ⟨k,o+y,none⟩=some u/\u.oneCell'=true/\VR (E.fz h fz) (zL l y) u:=by
    intro y hy
    obtain ⟨u,q1,q2,q3⟩:=hown y hy
    exact ⟨u,q1,q2,vm q3⟩
   rw [show o+i * es+j=o+0 * l.length+(i * es+j) from by omega]
   refine .rptr l.length 1 0 (i * es+j) k o _ (fun x y=>(E.w.cell? ⟨k,o+y,none⟩).getD undef) ⟨hp,fun _=>cS H hσ (.inl ⟨_,_,hg⟩) (fun _ h=>h)⟩ (fun x y hx hy=>?_) (fun x y hx hy=>?_) (fun x y hx hy=>?_) (fun x y hx hy=>zR ho y)
   ·obtain ⟨u,q1,_,_⟩:=h1 y hy
    have hx:x=0:=by omega
    subst hx
    rw [show o+0 * l.length+y=o+y from by omega]
    show E.w.cell? _=_
    rw [q1];rfl
   ·obtain ⟨u,q1,q2,_⟩:=h1 y hy
    rw [q1];exact q2
   ·obtain ⟨u,q1,_,q3⟩:=h1 y hy
    rw [q1];exact q3
  | row e es' n c =>
   rw [hg] at ho
   simp only at ho ⊢
   obtain ⟨rfl,ho⟩:=ho
   have hown:=vU H hg hσ
   have hp:=pr hb (by rw [hg];trivial) hσ
   refine .rptr es' n i j k o _ (fun x y=>(E.w.cell? ⟨k,o+x * es'+y,none⟩).getD undef) ⟨hp,fun _=>cS H hσ (.inr ⟨_,_,_,_,hg⟩) (fun _ h=>h)⟩ (fun x y hx hy=>?_) (fun x y hx hy=>?_) (fun x y hx hy=>?_) (fun x y hx hy=>ho x y hx hy)
   ·obtain ⟨u,q1,_,_⟩:=hown x y hx hy
    show E.w.cell? _=_
    rw [q1];rfl
   ·obtain ⟨u,q1,q2,_⟩:=hown x y hx hy
    rw [q1];exact q2
   ·obtain ⟨u,q1,_,q3⟩:=hown x y hx hy
    rw [q1];exact vm q3
 | sl b es i n nl a cap hn hcm hnl hz hc =>
  simp only [fzV,yL] at ho ⊢
  cases hb:inL b fz with
  | false=>simp only [cond_false];exact vm (.sl b es i n nl a cap hn hcm hnl hz hc)
  | true =>
  rw [hb] at ho
  simp only [cond_true] at ho ⊢
  cases hg:geth h b with
  | dead=>exact .top _
  | mapb _ _=>exact .top _
  | lit e l=>exact .top _
  | row e es' N c =>
   rw [hg] at ho
   simp only [vR] at ho ⊢
   obtain ⟨rfl,hN,ho⟩:=ho
   exact row b es' i n nl a cap e N c hb hg hN ho hn hcm hnl hz hc
 | csl b es i n cp a hn hcm hc =>
  simp only [fzV,yL] at ho ⊢
  cases hb:inL b fz with
  | false=>simp only [cond_false];exact vm (.csl b es i n cp a hn hcm hc)
  | true =>
  rw [hb] at ho
  simp only [cond_true] at ho ⊢
  cases hg:geth h b with
  | dead=>exact .top _
  | mapb _ _=>exact .top _
  | lit e l=>exact .top _
  | row e es' N c =>
   rw [hg] at ho
   simp only [vR] at ho ⊢
   obtain ⟨rfl,hN,ho⟩:=ho
   by_cases hcp:0 < cp
   ·obtain ⟨k,o,cs,e',g1,g2,g3,g4⟩:=hc hcp
    exact row b es' i n false a cp e N c hb hg hN ho hn hcm (fun h=>by cases h) (fun h=>by rw [h] at g2;cases g2) hc
   ·have h0:n=0:=by omega
    subst h0
    have hcp:cp=0:=by omega
    subst hcp
    exact .ro es' 0 false _ a 0 (Nat.le_refl _) hcm (fun h=>by cases h) (zrN fun _=>rfl) (fun _ _=>undef) (fun h=>by omega) (fun x y hx=>by omega) (fun x y hx=>by omega) fun x y hx=>by omega
 | isl b es i j z n cap k o hn hcm hσ =>
  simp only [fzV,yL] at ho ⊢
  cases hb:inL b fz with
  | false=>simp only [cond_false];exact .isl b es i j z n cap k o hn hcm hσ
  | true =>
   rw [hb] at ho
   exact (show False from ho).elim
 | rptr es n i j k o c u hp hu h1 hc hrf ih=>simp only [fzV];exact vm (.rptr es n i j k o c u hp hu h1 hc hrf)
 | ro es n nl c a cap hn hcm hnl hz u ha h1 hc hrf ih=>simp only [fzV];exact vm (.ro es n nl c a cap hn hcm hnl hz u ha h1 hc hrf)
 | agg l vs hl h1 hh ih=>simp only [fzV,yL] at ho ⊢;obtain ⟨q1,q2⟩:=lst l vs hl ho ih;exact .agg _ vs q1 h1 q2
 | tup l vs hl hh ih=>simp only [fzV,yL] at ho ⊢;obtain ⟨q1,q2⟩:=lst l vs hl ho ih;exact .tup _ vs q1 q2
 | fn f l vs hl hh ih=>simp only [fzV,yL] at ho ⊢;obtain ⟨q1,q2⟩:=lst l vs hl ho ih;exact .fn f _ vs q1 q2
 | mfn f l vs hl hh ih=>simp only [fzV,yL] at ho ⊢;obtain ⟨q1,q2⟩:=lst l vs hl ho ih;exact .mfn f _ vs q1 q2
 | opt_t a v hv ih=>simp only [fzV,yL] at ho ⊢;exact .opt_t _ v (ih ho)
 | opt_f a=>simp only [fzV];exact .opt_f _
theorem fz_HR (H:HR E h) {fz:List Nat} (ho:uT h fz h):HR (E.fz h fz) (fzH h fz)/\Ext E h (E.fz h fz) (fzH h fz):=by
 have K:=fz_keep E h fz
 have hget:∀ {i:Nat} {y:ABlk},(fzH h fz)[i]? = some y->y ≠ .dead->∃ x,h[i]? = some x/\x ≠ .dead/\inL i fz=false/\y=fzB h fz x:=by
  intro i y hi hy
  rw [fzH_get] at hi
  cases hx:h[i]? with
  | none=>rw [hx] at hi;cases hi
  | some x =>
   rw [hx] at hi
   simp only [Option.map_some,Option.some.injEq] at hi
   cases hb:inL i fz with
   | true=>rw [hb] at hi;exact absurd hi.symm hy
   | false =>
    rw [hb] at hi
    simp only [cond_false] at hi
    exact ⟨x,rfl,fun h=>by subst h;exact hy hi.symm,rfl,hi.symm⟩
 have hown:∀ k,Own (E.fz h fz) (fzH h fz) k->Own E h k:=by
  rintro k ⟨b,y,o,h1,h2,h3⟩
  obtain ⟨x,q1,q2,_,_⟩:=hget h1 h2
  exact ⟨b,x,o,q1,q2,h3⟩
 refine ⟨⟨fun b y hb=>?_,fun b b' y y' k o o' h1 h2 h3 h4 h5 h6=>?_,fun k hk=>?_,fun b hb=>?_,fun k hk=>.inl (H.lo k hk)⟩,⟨rfl,rfl,rfl,K.σ,K.prot,Nat.le_refl _,K.kind,fun _ _ _=>rfl,fun k hk=>.inl (hown k hk),by rw [fzH_length];exact Nat.le_refl _,fun _ _=>rfl,fun k hk=>?_,rfl,fun k hk=>hk.imp id fun ⟨b,x,o,q1,q2,q3,q4⟩=>H.wr q2 q3 q4⟩⟩
 ·by_cases hd:y = .dead
  ·subst hd;trivial
  obtain ⟨x,q1,q2,q3,rfl⟩:=hget hb hd
  have hB:=H.blk b x q1
  cases x with
  | dead=>trivial
  | row e es n c=>exact hB.mono K rfl fun _ _ _=>rfl
  | mapb k0 m0=>exact hB.mono K rfl fun _ _ _=>rfl
  | lit e l =>
   obtain ⟨k,o,cs,r1,r2,r3,r4⟩:=hB
   refine ⟨k,o,cs,r1,r2,by rw [kW];exact r3,fun j a hj=>?_⟩
   rw [fzL_get] at hj
   cases hl:l[j]? with
   | none=>rw [hl] at hj;cases hj
   | some a0 =>
    rw [hl] at hj
    simp only [Option.map_some,Option.some.injEq] at hj
    subst hj
    obtain ⟨v,s1,s2,s3⟩:=r4 j a0 hl
    exact ⟨v,s1,s2,fz_VR H s3 (gJ (fzObH_get ho q1) hl)⟩
 ·obtain ⟨x,q1,q2,_,_⟩:=hget h1 h2
  obtain ⟨x',q1',q2',_,_⟩:=hget h3 h4
  exact H.inj b b' x x' k o o' q1 q2 q1' q2' h5 h6
 ·rcases hk with hk|⟨b,x,o,q1,q2,q3,q4⟩
  ·exact ⟨(H.prot k hk).1,fun ho'=>(H.prot k hk).2 (hown k ho')⟩
  ·refine ⟨BR.lt (E:=E) q3.nd (H.blk b x q2) q4,?_⟩
   rintro ⟨b',y,o',h1,h2,h3⟩
   obtain ⟨x',r1,r2,r3,_⟩:=hget h1 h2
   have:=H.inj b b' x x' k o o' q2 q3.nd r1 r2 q4 h3
   subst this
   rw [q1] at r3;cases r3
 ·rw [fzH_length] at hb;exact H.fresh b hb
 ·rcases hk with hk|⟨b,x,o,q1,q2,q3,q4⟩
  ·exact .inl hk
  ·exact .inr (.inl ⟨b,x,o,q2,q3.nd,q4⟩)
theorem fz_FR (H:HR E h) {fz:List Nat} {t:List AV} {vs:Array Value} (F:FR E t vs) (ho:vO h fz t):FR (E.fz h fz) (fzL h fz t) vs:=by
 refine ⟨by rw [kW];exact F.1,fun i a v ha hv=>?_⟩
 rw [fzL_get] at ha
 cases hi:t[i]? with
 | none=>rw [hi] at ha;cases ha
 | some a0 =>
  rw [hi] at ha
  simp only [Option.map_some,Option.some.injEq] at ha
  subst ha
  exact fz_VR H (F.2 i a0 v hi hv) (gJ ho hi)
theorem jG (fz:List Nat) {c:Code} {K:Kt} {t:List AV} (ho:vO h fz t/\uT h fz h) (hm:Mean P c K (fzL h fz t) (fzH h fz)):Mean P c K t h:=by
 intro E a Q H F hd hQ
 obtain ⟨H1,X1⟩:=fz_HR H ho.2
 exact hm (E.fz h fz) a Q H1 (fz_FR H F ho.1) hd fun e E' a' t' h' hk X H' F' hd'=>hQ e E' a' t' h' hk (X1.trans X) H' F' hd'
end Go.Am

namespace Go.Am
set_option linter.unusedVariables false
variable {P:Program} {E:Env} {h:List ABlk}

def RenB (s:Nat):ABlk->ABlk->Prop
 | .dead,.dead=>True
 | .mapb k m,.mapb k' m'=>k=k'/\m=m'
 | .lit e l,.lit e' l'=>e=e'/\tO 0 s l=l'
 | .row e es n c,.row e' es' n' c'=>e=e'/\es=es'/\n=n'/\∀ x y,x < n->y < es->ren 0 s (c x y)=c' x y
 | _,_=>False
def RenH (s:Nat):List ABlk->List ABlk->Prop
 | [],[]=>True
 | x::l,y::m=>RenB s x y/\RenH s l m
 | _,_=>False
theorem RenH_get {s:Nat} {l m:List ABlk} (hr:RenH s l m):l.length=m.length/\∀ (i:Nat) (y:ABlk),m[i]? = some y->∃ x,l[i]? = some x/\RenB s x y:=by
 induction l generalizing m with
 | nil=>cases m with
  | nil=>exact ⟨rfl,fun i y hy=>by simp at hy⟩
  | cons y m=>simp [RenH] at hr
 | cons x l ih=>cases m with
  | nil=>simp [RenH] at hr
  | cons y m =>
   simp only [RenH] at hr
   obtain ⟨i1,i2⟩:=ih hr.2
   refine ⟨by simp [i1],fun i z hz=>?_⟩
   cases i with
   | zero=>simp at hz;subst hz;exact ⟨x,rfl,hr.1⟩
   | succ i=>simpa using i2 i z (by simpa using hz)
def bL (v:AV) (ns:List ABlk) (v':AV) (hf:List ABlk):Prop:=∃ fz,yL hf fz v'/\uT hf fz hf/\SubV v ns (fzV hf fz v') (fzH hf fz)
def genR (o:Prop) (h:List ABlk):AR->AR
 | .pure ob v=>.heap (o/\ob) v h
 | .heap ob v ns=>.heap (o/\ob) v (h ++ ns)
 | .fail=>.fail
def xN (body:List AV->Nat->AR) (l:List AV) (h:List ABlk):AR:=genR (zX l) h (body l h.length)
def Env.seen (E:Env):Env:=⟨E.w,fun _=>none,E.prot,E.lo⟩
theorem seen_HR (H:HR E h):HR E.seen []:=⟨fun b x hb=>by simp at hb,fun b b' x x' k o o' hb=>by simp at hb,fun k hk=>⟨(H.prot k hk).1,by rintro ⟨b,x,o,hb,_⟩;simp at hb⟩,fun _ _=>rfl,H.lo⟩

theorem eN {f:FuncId} {fn:Func} {code:Code} (body:List AV->Nat->AR) {rs:List ResultVar}
  (hf:P.funcs[f]? = some fn) (hn:(fn.name == "runtime.NumGoroutine")=false) (hb:fn.body=some code) (hrs:fn.results.toList=rs)
  (hw:∀ (l:List AV) (s:Nat) (ob:Prop) (v:AV) (ns:List ABlk),(body l s = .pure ob v/\ns=[]) ∨ body l s = .heap ob v ns->ob->∃ l' v0 ns0,(∀ E vs,FR E l vs->FR E l' vs)/\ren 0 s v0=v/\RenH s ns0 ns /\
   Mean P code (kY P rs (bL v0 ns0)) (l' ++ List.replicate (fn.ntmps - l'.length) .top) []):yU P f (xN body):=by
 subst hrs
 have tops:∀ {E:Env} {l':List AV} {vs:Array Value},FR E l' vs->FR E (l' ++ List.replicate (fn.ntmps - l'.length) .top) (vs ++ Array.replicate (fn.ntmps - vs.size) undef):=by
  intro E l' vs F1
  refine xM F1 ⟨by simp [F1.1],fun i a v ha hv=>?_⟩
  rw [List.getElem?_replicate] at ha
  split at ha
  ·injection ha with ha;subst ha;exact .top _
  ·cases ha
 have main:∀ (E:Env) (h:List ABlk) (l:List AV) (vs:Array Value) (ob:Prop) (v:AV) (ns:List ABlk),HR E h->FR E l vs->(body l h.length = .pure ob v/\ns=[]) ∨ body l h.length = .heap ob v ns->zX l->ob->Calls P f vs E.w (Ret E h (h ++ ns) v):=by
  intro E h l vs ob v ns H F hbd hnr hob
  obtain ⟨l',v0,ns0,g1,g2,g3,g4⟩:=hw l _ ob v ns hbd hob
  have F0:FR E.seen l vs:=⟨F.1,fun i a v ha hv=>VR.view (E:=E) (E':=E.seen) (fun k hk=>⟨hk,rfl⟩) (F.2 i a v ha hv) (uN hnr ha)⟩
  have F2:=tops (g1 _ _ F0)
  refine calls_of_wp hf hb ?_
  refine g4 E.seen _ _ (seen_HR H) F2 rfl fun e E1 a' t' h1 hk X1 H1 F' hd=>?_
  have done:cV P fn.results.toList (bL v0 ns0) t' h1->a'.defers=[]/\∃ u,(results fn a'.tmps).run P E1.w = .ok u E1.w/\Ret E h (h ++ ns) v (.returned u) E1.w:=by
   intro hk
   obtain ⟨u,v',q1,⟨fz,z1,z2,ν,c1,c2,c3⟩,q3⟩:=tP (P:=P) H1 F' hk
   refine ⟨hd,u,q1,?_⟩
   obtain ⟨Hf,Xf⟩:=fz_HR H1 z2
   have hv1:=fz_VR H1 q3 z1
   have X:=X1.trans Xf
   have H3:=(via_HR Hf c2 c3).1
   have hown3:∀ k,Own ((E1.fz h1 fz).via ν) ns0 k->E.w.heap.size <= k:=fun k hk=>by
    rcases X.own k ((via_HR Hf c2 c3).2 k hk) with h'|h'
    ·obtain ⟨b,x,o,hb,_⟩:=h';simp at hb
    ·exact h'
   have hV:VR ((E1.fz h1 fz).via ν) v0 u:=eQ hv1 _ c1
   have hold:∀ k,k < E.w.heap.size->E1.w.heap[k]? = E.w.heap[k]?:=fun k hk=>X1.frame k hk (by rintro ⟨b,x,o,hb,_⟩;simp at hb)
   have hpro:∀ k,((E1.fz h1 fz).via ν).prot k->E.prot k ∨ E.w.heap.size <= k:=fun k hk=>by
    rcases X.pro k hk with h'|h'|h'
    ·exact .inl h'
    ·obtain ⟨b,x,o,hb,_⟩:=h';simp at hb
    ·exact .inr h'
   have hpr:∀ k,E.prot k->((E1.fz h1 fz).via ν).prot k:=fun k hk=>X.prot k hk
   have hl3:((E1.fz h1 fz).via ν).lo=E.lo:=X.lo
   have hwr:∀ k,((E1.fz h1 fz).via ν).prot k->E.prot k ∨ Wr E1.w k:=fun k hk=>X.wr k hk
   generalize hE3:(E1.fz h1 fz).via ν=E3 at H3 hown3 hV hpro hpr hl3 hwr
   have hw3:E3.w=E1.w:=by rw [← hE3];rfl
   let σ2:Nat->Option (Nat × Nat):=fun b=>if b < h.length then E.σ b else E3.σ (b - h.length)
   let E2:Env:=⟨E1.w,σ2,E3.prot,E3.lo⟩
   have s1:∀ b,b < h.length->E2.σ b=E.σ b:=fun b hb=>if_pos hb
   have s2:∀ b,¬ b < h.length->E2.σ b=E3.σ (b - h.length):=fun b hb=>if_neg hb
   have hlt:∀ b x,E.σ b=some x->b < h.length:=by
    intro b x hb
    rcases Nat.lt_or_ge b h.length with h'|h'
    ·exact h'
    ·rw [H.fresh b h'] at hb;cases hb
   have K2:Keep E E2:=⟨fun b x hb=>by rw [s1 b (hlt b x hb)];exact hb,hpr,fun k hk=>hold k (H.prot k hk).1,fun k cs e hk=>⟨cs,(hold k (yY hk)).trans hk,rfl⟩,hl3⟩
   have hσ:∀ b x,E3.σ b=some x->E2.σ (rnN 0 h.length b)=some x:=fun b x hb=>by
    have:rnN 0 h.length b=h.length+b:=by simp [rnN]
    rw [this,s2 _ (by omega),Nat.add_sub_cancel_left];exact hb
   have V2:∀ {a:AV} {v:Value},VR E3 a v->VR E2 (ren 0 h.length a) v:=fun hv=>VR.ren (E:=E3) (E':=E2) hw3.symm rfl hσ hv
   obtain ⟨gl,gg⟩:=RenH_get g3
   have hget:∀ {b:Nat} {x:ABlk},(h ++ ns)[b]? = some x->(b < h.length/\h[b]? = some x) ∨ (¬ b < h.length/\∃ x0,ns0[b - h.length]? = some x0/\RenB h.length x0 x):=by
    intro b x hb
    by_cases hbl:b < h.length
    ·rw [List.getElem?_append_left hbl] at hb;exact .inl ⟨hbl,hb⟩
    ·rw [List.getElem?_append_right (by omega)] at hb;exact .inr ⟨hbl,gg _ _ hb⟩
   have hnd:∀ {x0 x:ABlk},RenB h.length x0 x->x ≠ .dead->x0 ≠ .dead:=by
    rintro x0 x hr hx rfl
    cases x<;>simp only [RenB] at hr
    exact hx rfl
   have hown:∀ k,Own E2 (h ++ ns) k->Own E h k ∨ E.w.heap.size <= k:=by
    rintro k ⟨b,x,o,q1,q2,q3⟩
    rcases hget q1 with ⟨hb,q1⟩|⟨hb,x0,q1,q1'⟩
    ·rw [s1 b hb] at q3;exact .inl ⟨b,x,o,q1,q2,q3⟩
    ·rw [s2 b hb] at q3;exact .inr (hown3 k ⟨_,x0,o,q1,hnd q1' q2,q3⟩)
   refine ⟨u,E2,rfl,rfl,⟨X1.os,X1.tape,X1.output,K2.σ,hpr,X1.size,K2.kind,fun k hk _=>hold k hk,hown,by simp,s1,fun k hk=>(hpro k hk).imp (fun h=>h) .inr,hl3,hwr⟩,⟨fun b x hb=>?_,fun b b' x x' k o o' h1 h2 h3 h4 h5 h6=>?_,fun k hk=>?_,fun b hb=>?_,H3.lo⟩,?_⟩
   ·by_cases hd:x = .dead
    ·subst hd;trivial
    rcases hget hb with ⟨hbl,hb'⟩|⟨hbl,x0,hb',hr⟩
    ·exact (H.blk b x hb').mono K2 (s1 b hbl) fun k o hk=>hold k ((H.blk b x hb').lt hd hk)
    ·have hB:=H3.blk _ x0 hb'
     cases x with
     | dead=>trivial
     | lit e l =>
      cases x0<;>simp only [RenB] at hr
      obtain ⟨rfl,rfl⟩:=hr
      rename_i e l
      obtain ⟨k,o,cs,r1,r2,r3,r4⟩:=hB
      refine ⟨k,o,cs,(s2 b hbl).trans r1,by rw [← hw3];exact r2,by rw [renL_length];exact r3,fun j a hj=>?_⟩
      rw [renL_get] at hj
      cases hl:l[j]? with
      | none=>rw [hl] at hj;cases hj
      | some a0 =>
       rw [hl] at hj
       simp only [Option.map_some,Option.some.injEq] at hj
       subst hj
       obtain ⟨v,y1,y2,y3⟩:=r4 j a0 hl
       exact ⟨v,y1,y2,V2 y3⟩
     | mapb k0 m0 =>
      cases x0<;>simp only [RenB] at hr
      obtain ⟨rfl,rfl⟩:=hr
      obtain ⟨r1,r2⟩:=hB
      exact ⟨(s2 b hbl).trans r1,by rw [← hw3];exact r2⟩
     | row e es n c =>
      cases x0<;>simp only [RenB] at hr
      obtain ⟨rfl,rfl,rfl,hr⟩:=hr
      unfold BR at hB ⊢
      rw [s2 b hbl]
      cases hs:E3.σ (b - h.length) with
      | none=>rw [hs] at hB;exact hB
      | some p =>
       rw [hs] at hB
       obtain ⟨cs,r1,r2,r3⟩:=hB
       exact ⟨cs,by rw [← hw3];exact r1,r2,fun x y hx hy=>by obtain ⟨v,y1,y2,y3⟩:=r3 x y hx hy;exact ⟨v,y1,y2,by rw [← hr x y hx hy];exact V2 y3⟩⟩
   ·rcases hget h1 with ⟨b1,m1⟩|⟨b1,x0,m1,m1'⟩<;>rcases hget h3 with ⟨b3,m3⟩|⟨b3,x0',m3,m3'⟩
    ·rw [s1 b b1] at h5;rw [s1 b' b3] at h6;exact H.inj b b' x x' k o o' m1 h2 m3 h4 h5 h6
    ·rw [s1 b b1] at h5;rw [s2 b' b3] at h6
     have:=(H.blk b x m1).lt h2 h5
     have:=hown3 k ⟨_,x0',o',m3,hnd m3' h4,h6⟩
     omega
    ·rw [s2 b b1] at h5;rw [s1 b' b3] at h6
     have:=(H.blk b' x' m3).lt h4 h6
     have:=hown3 k ⟨_,x0,o,m1,hnd m1' h2,h5⟩
     omega
    ·rw [s2 b b1] at h5;rw [s2 b' b3] at h6
     have:=H3.inj _ _ x0 x0' k o o' m1 (hnd m1' h2) m3 (hnd m3' h4) h5 h6
     omega
   ·obtain ⟨p1,p2⟩:=H3.prot k hk
    refine ⟨by show k < E1.w.heap.size;rw [← hw3];exact p1,?_⟩
    rintro ⟨b,x,o,q1,q2,q3⟩
    rcases hget q1 with ⟨hb,q1⟩|⟨hb,x0,q1,q1'⟩
    ·rw [s1 b hb] at q3
     rcases hpro k hk with h'|h'
     ·exact (H.prot k h').2 ⟨b,x,o,q1,q2,q3⟩
     ·have:=(H.blk b x q1).lt q2 q3;omega
    ·rw [s2 b hb] at q3;exact p2 ⟨_,x0,o,q1,hnd q1' q2,q3⟩
   ·rw [List.length_append] at hb
    rw [s2 b (by omega)]
    exact H3.fresh _ (by omega)
   ·rw [← g2];exact V2 hV
  cases e with
  | normal=>exact done hk
  | ret=>exact done hk
  | exit id=>exact hk.elim
  | goto l=>exact hk.elim
 refine ⟨⟨fn,hf,hn,by rw [hb];rfl⟩,fun E h l vs ob v h' H F hr hob=>?_,fun E h l vs ob v H F hr hob=>?_⟩
 ·unfold xN at hr
  cases hbd:body l h.length with
  | fail=>rw [hbd] at hr;cases hr
  | pure ob' v' =>
   rw [hbd] at hr
   simp only [genR,AR.out,Option.some.injEq,Prod.mk.injEq] at hr
   obtain ⟨rfl,rfl,rfl⟩:=hr
   have:=main E h l vs ob' v' [] H F (.inl ⟨hbd,rfl⟩) hob.1 hob.2
   rwa [List.append_nil] at this
  | heap ob' v' ns =>
   rw [hbd] at hr
   simp only [genR,AR.out,Option.some.injEq,Prod.mk.injEq] at hr
   obtain ⟨rfl,rfl,rfl⟩:=hr
   exact main E h l vs ob' v' ns H F (.inr hbd) hob.1 hob.2
 ·exfalso
  unfold xN at hr
  cases hbd:body l h.length<;>rw [hbd] at hr<;>cases hr
end Go.Am

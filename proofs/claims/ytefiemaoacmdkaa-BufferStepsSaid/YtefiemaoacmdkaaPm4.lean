/-
  The abstract machine, text 4: functions that only read. contracts of functions that only read; loops. loops. regions that draw their order and only read.
-/
import Derived.Test.YtefiemaoacmdkaaPm3
import Derived.Deep.Quiet
namespace Go.Am
set_option linter.unusedVariables false
variable {P:Program} {E:Env} {h:List ABlk}

/-! ### Results -/
def resC (P:Program) (ty:TypeId) (h:List ABlk):AV->AR
 | .ptr b es i j=>pO (jT (tagg P ty) (tsz P ty) (.ptr b es i j) h)
 | _=>.fail
def resA (P:Program) (t:List AV) (h:List ABlk):ResultVar->AR
 | .tmp i=>.pure (optOk (zL t i)) (strip (zL t i))
 | .cell c ty=>resC P ty h (zL t c)
def resCons:AR->AR->AR
 | .pure o v,.pure o' (.tup l)=>.pure (o/\o') (.tup (v::l))
 | _,_=>.fail
def resL (P:Program) (t:List AV) (h:List ABlk):List ResultVar->AR
 | []=>.pure True (.tup [])
 | r::rs=>resCons (resA P t h r) (resL P t h rs)
def resFin (R:AV->List ABlk->Prop) (h:List ABlk):AR->Prop
 | .pure ob v=>ob/\R v h
 | _=>False
def cV (P:Program) (rs:List ResultVar) (R:AV->List ABlk->Prop) (t:List AV) (h:List ABlk):Prop:=match rs with
 | [r]=>resFin R h (resA P t h r)
 | rs=>resFin R h (resL P t h rs)
def kY (P:Program) (rs:List ResultVar) (R:AV->List ABlk->Prop):Kt
 | .normal,t,h=>cV P rs R t h
 | .ret,t,h=>cV P rs R t h
 | .exit _,_,_=>False
 | .goto _,_,_=>False

def resG (a:Array Value):ResultVar->Sem Value
 | .tmp t=>pure (a.getD t undef)
 | .cell c ty=>do loadVar ty (← asAddr (a.getD c undef))
theorem resA_sound (H:HR E h) {t:List AV} {a:Array Value} (F:FR E t a) {r:ResultVar} {ob:Prop} {v:AV} (hr:resA P t h r = .pure ob v) (hob:ob):∃ u,(resG a r).run P E.w = .ok u E.w/\VR E v u:=by
 cases r with
 | tmp i =>
  simp only [resA,AR.pure.injEq] at hr
  obtain ⟨rfl,rfl⟩:=hr
  exact ⟨_,rfl,strip_VR (FR_get F i) hob⟩
 | cell c ty =>
  simp only [resA] at hr
  unfold resC at hr
  split at hr
  ·rename_i b es i j hc
   have hv:=FR_get F c
   rw [hc] at hv
   generalize hu:a.getD c undef=u at hv
   have hq:jT (tagg P ty) (tsz P ty) (.ptr b es i j) h = .pure ob v:=by
    revert hr
    cases jT (tagg P ty) (tsz P ty) (.ptr b es i j) h<;>simp only [pO,AR.pure.injEq,reduceCtorEq,false_implies]
    intro h;exact h
   obtain ⟨x,h1,h2⟩:=load_sound H hv hq hob
   refine ⟨x,?_,h2⟩
   have h3:=h1 E.w fun _ _=>rfl
   cases hv with
   | ptr b es i j k o hσ =>
    simp only [resG,hu,asAddr,Sem.run_bind,Sem.run_pure,Result.andThen_ok]
    simpa only [Instr.loadAt,Instr.sureAddr,Sem.run_bind,Sem.run_pure,Result.andThen_ok] using h3
  ·cases hr
theorem resL_sound (H:HR E h) {t:List AV} {a:Array Value} (F:FR E t a):∀ (rs:List ResultVar) (ob:Prop) (v:AV),resL P t h rs = .pure ob v->ob ->
  ∃ (l:List AV) (vs:List Value),v = .tup l/\l.length=vs.length/\rs.length=vs.length/\(∀ (i:Nat) (x:AV) (v:Value),l[i]? = some x->vs[i]? = some v->VR E x v)/\(rs.mapM (resG a)).run P E.w = .ok vs E.w:=by
 intro rs
 induction rs with
 | nil =>
  intro ob v hl _
  simp only [resL,AR.pure.injEq] at hl
  obtain ⟨rfl,rfl⟩:=hl
  exact ⟨[],[],rfl,rfl,rfl,fun i x v hx=>by simp at hx,rfl⟩
 | cons r rs ih =>
  intro ob v hl ho
  simp only [resL] at hl
  unfold resCons at hl
  split at hl
  ·rename_i o1 v1 o2 l e1 e2
   injection hl with q1 q2
   subst q1 q2
   obtain ⟨u,h1,h2⟩:=resA_sound H F e1 ho.1
   obtain ⟨l',vs,k0,k1,k2,k3,k4⟩:=ih _ _ e2 ho.2
   injection k0 with k0;subst k0
   refine ⟨v1::l,u::vs,rfl,by simp [k1],by simp [k2],fun j x w hx hw=>?_,by rw [List.mapM_cons];simp only [Sem.run_bind,h1,Result.andThen_ok,k4,Sem.run_pure]⟩
   cases j with
   | zero=>simp only [List.getElem?_cons_zero,Option.some.injEq] at hx hw;subst hx hw;exact h2
   | succ j=>exact k3 j x w (by simpa using hx) (by simpa using hw)
  ·cases hl
theorem run_results {fn:Func} {a:Array Value} {w:World} {vs:List Value} (hr:(fn.results.toList.mapM (resG a)).run P w = .ok vs w) :
  (results fn a).run P w = .ok (if h:vs.length=1 then vs[0] else .tuple vs.toArray) w:=by
 have hun:results fn a=(do let vs ← fn.results.mapM (resG a);pure (if h:vs.size=1 then vs[0] else .tuple vs)):=by
  unfold results
  congr 2
 have h1:(fn.results.mapM (resG a)).run P w = .ok vs.toArray w:=by
  rw [Array.mapM_eq_mapM_toList,map_eq_pure_bind]
  simp only [Sem.run_bind,hr,Result.andThen_ok,Sem.run_pure]
 rw [hun]
 simp only [Sem.run_bind,h1,Result.andThen_ok,Sem.run_pure,List.size_toArray]
 split<;>simp_all
theorem tP (H:HR E h) {fn:Func} {R:AV->List ABlk->Prop} {t:List AV} {a:Array Value} (F:FR E t a) (hr:cV P fn.results.toList R t h) :
  ∃ u v,(results fn a).run P E.w = .ok u E.w/\R v h/\VR E v u:=by
 generalize hrs:fn.results.toList=rs at hr
 unfold cV at hr
 split at hr
 ·rename_i r
  unfold resFin at hr
  split at hr
  ·rename_i ob v e
   obtain ⟨u,h1,h2⟩:=resA_sound H F e hr.1
   refine ⟨u,v,?_,hr.2,h2⟩
   have:=run_results (P:=P) (fn:=fn) (a:=a) (w:=E.w) (vs:=[u]) (by rw [hrs,List.mapM_cons];simp only [Sem.run_bind,h1,Result.andThen_ok,List.mapM_nil,Sem.run_pure])
   simpa using this
  ·exact hr.elim
 ·rename_i hne
  unfold resFin at hr
  split at hr
  ·rename_i ob v e
   obtain ⟨l,vs,rfl,q1,q0,q2,q3⟩:=resL_sound H F rs ob v e hr.1
   have:=run_results (fn:=fn) (w:=E.w) (by rw [hrs];exact q3)
   have hlen:rs.length ≠ 1:=by
    intro h1
    match rs,h1,hne with
    | [r],_,hne=>exact hne r rfl
   rw [dif_neg (by omega)] at this
   exact ⟨_,.tup l,this,hr.2,.tup l _ (by simpa using q1) (fun i x v hx hv=>q2 i x v hx (by simpa using hv))⟩
  ·exact hr.elim

/-! ### Read-only views of the arguments -/
theorem uN {l:List AV} (hn:zX l) {i:Nat} {a:AV} (ha:l[i]? = some a):nref a:=by
 induction l generalizing i with
 | nil=>simp at ha
 | cons b l ih =>
  simp only [zX] at hn
  cases i with
  | zero=>simp at ha;subst ha;exact hn.1
  | succ i=>exact ih hn.2 (by simpa using ha)
theorem zr_own {E:Env} {h:List ABlk} (H:HR E h) {b es i n cap z:Nat} {w:World} {lo:Nat->Prop} {a:Option Addr} {c:Nat->Nat->AV} (hnd:geth h b ≠ .dead) (hn:n <= cap) (hz:a=none->cap=0)
  (hc:0 < cap->∃ k o cs e,E.σ b=some (k,o)/\a=some ⟨k,o+i * es,none⟩/\E.w.heap[k]? = some (.cells cs e (0,0))/\o+i * es+cap * es <= cs.size) (hlo:∀ k,lo k->E.lo k) (hw:w=E.w:=by rfl):Zr w lo z n c a cap :=
 ⟨hz,fun hp _ k o e=>by
  obtain ⟨k',o',cs,e',q1,q2,q3,_⟩:=hc (by omega)
  rw [e] at q2
  cases q2
  exact ⟨fun w=>H.lo_own ⟨b,_,_,zP hnd,hnd,q1⟩ (hlo _ w),by rw [hw];exact ⟨_,_,q3⟩⟩⟩
theorem cS {E:Env} {h:List ABlk} (H:HR E h) {b k o:Nat} {lo:Nat->Prop} (hσ:E.σ b=some (k,o)) (hg:(∃ e l,geth h b = .lit e l) ∨ ∃ e es n c,geth h b = .row e es n c) (hlo:∀ k,lo k->E.lo k):Nw E.w lo k:=by
 have hnd:geth h b ≠ .dead:=by rcases hg with ⟨e,l,q⟩|⟨e,es,n,c,q⟩<;>rw [q]<;>exact fun e=>by cases e
 refine ⟨fun w=>H.lo_own ⟨b,_,_,zP hnd,hnd,hσ⟩ (hlo _ w),?_⟩
 have hB:=H.blk b _ (zP hnd)
 rcases hg with ⟨e,l,q⟩|⟨e,es,n,c,q⟩
 ·rw [q] at hB
  obtain ⟨k',o',cs,q1,q2,_⟩:=hB
  rw [hσ] at q1;cases q1
  exact ⟨_,_,q2⟩
 ·rw [q] at hB
  simp only [BR,hσ] at hB
  obtain ⟨cs,q2,_⟩:=hB
  exact ⟨_,_,q2⟩
theorem VR.view {E E':Env} (K:∀ k,E.prot k->E'.prot k/\E'.w.heap[k]? = E.w.heap[k]?) {a:AV} {v:Value} (h:VR E a v) (hn:nref a) (hlo:∀ k,E'.lo k->E.lo k:=by first|exact fun _ h=>h|exact fun _ h=>h.1|assumption):VR E' a v:=by
 induction h with
 | top v=>exact .top v
 | bool b=>exact .bool b
 | int k n=>exact .int k n
 | str s=>exact .str s
 | nilp=>exact .nilp
 | ptr b es i j k o h=>simp [nref] at hn
 | rptr es n i j k o c u hp hu h1 hc hrf ih =>
  exact .rptr es n i j k o c u ⟨(K k hp.1).1,fun f=>(hp.2 f).to hlo fun cs e q=>⟨cs,by rw [(K k hp.1).2];exact q⟩⟩ (fun x y hx hy=>(cell?_same (K k hp.1).2).trans (hu x y hx hy)) h1 (fun x y hx hy=>ih x y hx hy (hrf x y hx hy)) hrf
 | sl b es i n nl a cap hn' hcm hnl hz hc=>simp [nref] at hn
 | isl b es i j z n cap k o hn' hcm h=>simp [nref] at hn
 | csl b es i n c a hn' hcm hc=>simp [nref] at hn
 | ro es n nl c a cap hn' hcm hnl hz u ha h1 hc hrf ih =>
  refine .ro es n nl c a cap hn' hcm hnl (hz.to hlo fun k o p q cs e r=>by
   obtain ⟨k',o',g1,g2,_⟩:=ha p
   rw [q] at g1
   cases g1
   exact ⟨cs,by rw [(K k g2).2];exact r⟩) u (fun hp=>?_) h1 (fun x y hx hy=>ih x y hx hy (hrf x y hx hy)) hrf
  obtain ⟨k,o,h1,h2,h3⟩:=ha hp
  exact ⟨k,o,h1,(K k h2).1,fun x y hx hy=>(cell?_same (K k h2).2).trans (h3 x y hx hy)⟩
 | emp a=>exact .emp a
 | agg l vs hl h1 h ih=>simp only [nref] at hn;exact .agg l vs hl h1 fun i a v ha hv=>ih i a v ha hv (uN hn ha)
 | tup l vs hl h ih=>simp only [nref] at hn;exact .tup l vs hl fun i a v ha hv=>ih i a v ha hv (uN hn ha)
 | fn f l vs hl h ih=>simp only [nref] at hn;exact .fn f l vs hl fun i a v ha hv=>ih i a v ha hv (uN hn ha)
 | mfn f l vs hl h ih=>simp only [nref] at hn;exact .mfn f l vs hl fun i a v ha hv=>ih i a v ha hv (uN hn ha)
 | nilf=>exact .nilf
 | ub b=>exact .ub b
 | val v h1=>exact .val v h1
 | mp m r clock es hp hb he=>exact .mp m r clock es (K r hp).1 ((K r hp).2.trans hb) he
 | opt_t a v h ih=>simp only [nref] at hn;exact .opt_t a v (ih hn)
 | opt_f a=>exact .opt_f a

def roW (h:List ABlk):AV->AV
 | .sl b es i n nl=>match geth h b with
  | .row _ _ _ c=>.ro es n nl (wL i c)
  | _=>.top
 | .ptr _ _ _ _=>.top
 | .isl _ _ _ _ _ _=>.top
 | .csl _ _ _ _ _=>.top
 | .agg l=>.agg l
 | .tup l=>.tup l
 | .fn f l=>.fn f l
 | .mfn f l=>.mfn f l
 | .top=>.top
 | .bool b=>.bool b
 | .int k n=>.int k n
 | .str s=>.str s
 | .nilp=>.nilp
 | .rptr es n i j c=>.rptr es n i j c
 | .ro es n nl c=>.ro es n nl c
 | .emp=>.emp
 | .nilf=>.nilf
 | .ub=>.ub
 | .val v=>.val v
 | .mp m=>.mp m
 | .opt g v=>.opt g v
def roWL (h:List ABlk):List AV->List AV
 | []=>[]
 | a::l=>roW h a::roWL h l
def roWOb (h:List ABlk):AV->Prop
 | .sl b es i n nl=>match geth h b with
  | .row _ es' N c=>es'=es/\i+n <= N/\∀ x y,x < n->y < es->nref (c (i+x) y)
  | _=>True
 | .ptr _ _ _ _=>True
 | .isl _ _ _ _ _ _=>True
 | .csl _ _ _ _ _=>True
 | .agg l=>zX l
 | .tup l=>zX l
 | .fn _ l=>zX l
 | .mfn _ l=>zX l
 | .rptr _ _ _ _ _=>True
 | .ro _ _ _ _=>True
 | .opt _ v=>nref v
 | .top=>True
 | .bool _=>True
 | .int _ _=>True
 | .str _=>True
 | .nilp=>True
 | .emp=>True
 | .nilf=>True
 | .ub=>True
 | .val _=>True
 | .mp _=>True
def roWObL (h:List ABlk):List AV->Prop
 | []=>True
 | a::l=>roWOb h a/\roWObL h l
theorem roWL_getL (l:List AV) (i:Nat):zL (roWL h l) i=roW h (zL l i):=by
 induction l generalizing i with
 | nil=>cases i<;>rfl
 | cons a l ih=>cases i with
  | zero=>rfl
  | succ i=>exact ih i
theorem fY {l:List AV} (hn:roWObL h l) (i:Nat):roWOb h (zL l i):=by
 induction l generalizing i with
 | nil=>cases i<;>trivial
 | cons a l ih =>
  simp only [roWObL] at hn
  cases i with
  | zero=>exact hn.1
  | succ i=>exact ih hn.2 i
theorem roW_nref (a:AV) (hn:roWOb h a):nref (roW h a):=by
 cases a<;>simp only [roW,roWOb,nref] at hn ⊢<;>first|trivial|exact hn|skip
 split<;>simp only [nref]
mutual
def roV (h:List ABlk):AV->AV
 | .ptr b es i j=>match geth h b with
  | .lit _ l=>.rptr l.length 1 0 (i * es+j) (fun _ y=>zL (roWL h l) y)
  | .row _ es' n c=>.rptr es' n i j c
  | .mapb _ _=>.top
  | .dead=>.top
 | .sl b es i n nl=>match geth h b with
  | .row _ _ _ c=>.ro es n nl (wL i c)
  | _=>.top
 | .isl b es i j z n=>match geth h b with
  | .lit _ l=>.ro z n false (fun x y=>zL l (i * es+j+x * z+y))
  | .row _ _ _ c=>.ro z n false (innC i j z c)
  | .mapb _ _=>.top
  | .dead=>.top
 | .csl _ _ _ _ _=>.top
 | .agg l=>.agg (roL h l)
 | .tup l=>.tup (roL h l)
 | .fn f l=>.fn f (roL h l)
 | .mfn f l=>.mfn f (roL h l)
 | .top=>.top
 | .bool b=>.bool b
 | .int k n=>.int k n
 | .str s=>.str s
 | .nilp=>.nilp
 | .rptr es n i j c=>.rptr es n i j c
 | .ro es n nl c=>.ro es n nl c
 | .emp=>.emp
 | .nilf=>.nilf
 | .ub=>.ub
 | .val v=>.val v
 | .mp m=>.mp m
 | .opt g v=>.opt g v
def roL (h:List ABlk):List AV->List AV
 | []=>[]
 | a::l=>roV h a::roL h l
end
mutual
def wU (h:List ABlk):AV->Prop
 | .ptr b es i j=>match geth h b with
  | .lit _ l=>roWObL h l
  | .row _ es' n c=>es'=es/\∀ x y,x < n->y < es->nref (c x y)
  | .mapb _ _=>True
  | .dead=>True
 | .sl b es i n nl=>match geth h b with
  | .row _ es' N c=>es'=es/\i+n <= N/\∀ x y,x < n->y < es->nref (c (i+x) y)
  | _=>True
 | .isl b es i j z n=>match geth h b with
  | .lit _ l=>i * es+j+n * z <= l.length/\zX l
  | .row _ es' N c=>es'=es/\i < N/\j+n * z <= es/\∀ y,y < es->nref (c i y)
  | .mapb _ _=>True
  | .dead=>True
 | .csl _ _ _ _ _=>True
 | .agg l=>jN h l
 | .tup l=>jN h l
 | .fn _ l=>jN h l
 | .mfn _ l=>jN h l
 | .rptr _ _ _ _ _=>True
 | .ro _ _ _ _=>True
 | .opt _ v=>nref v
 | .top=>True
 | .bool _=>True
 | .int _ _=>True
 | .str _=>True
 | .nilp=>True
 | .emp=>True
 | .nilf=>True
 | .ub=>True
 | .val _=>True
 | .mp _=>True
def jN (h:List ABlk):List AV->Prop
 | []=>True
 | a::l=>wU h a/\jN h l
end
def Env.view (E:Env):Env:=⟨E.w,fun _=>none,fun k=>k < E.w.heap.size,fun k=>E.lo k/\k < E.w.heap.size⟩
theorem view_HR (E:Env):HR E.view [] :=
 ⟨fun b x hb=>by simp at hb,fun b b' x x' k o o' hb=>by simp at hb,fun k hk=>⟨hk,by rintro ⟨b,x,o,hb,_⟩;simp at hb⟩,fun _ _=>rfl,fun k hk=>hk.2⟩
theorem view_K (H:HR E h):∀ k,E.prot k->E.view.prot k/\E.view.w.heap[k]? = E.w.heap[k]?:=fun k hk=>⟨(H.prot k hk).1,rfl⟩
theorem jH (l:List AV) (i:Nat):(roL h l)[i]? = (l[i]?).map (roV h):=by
 induction l generalizing i with
 | nil=>simp [roL]
 | cons a l ih=>cases i<;>simp [roL,ih]
theorem uG (l:List AV):(roL h l).length=l.length:=by
 induction l with
 | nil=>rfl
 | cons a l ih=>simp [roL,ih]
theorem uO {l:List AV} (hn:jN h l) {i:Nat} {a:AV} (ha:l[i]? = some a):wU h a:=by
 induction l generalizing i with
 | nil=>simp at ha
 | cons b l ih =>
  simp only [jN] at hn
  cases i with
  | zero=>simp at ha;subst ha;exact hn.1
  | succ i=>exact ih hn.2 (by simpa using ha)
theorem zR {l:List AV} (hn:zX l) (i:Nat):nref (zL l i):=by
 rcases Nat.lt_or_ge i l.length with hi|hi
 ·exact uN hn (yZ hi)
 ·rw [tN hi];simp [nref]
def tT (w:World) (q:Nat):Option Addr->Value
 | some ad=>(w.cell? (ad.add q)).getD undef
 | none=>undef
theorem ro_sl (H:HR E h) {b es i n:Nat} {nl:Bool} {v:Value} (hv:VR E (.sl b es i n nl) v) (ho:match geth h b with
  | .row _ es' N c=>es'=es/\i+n <= N/\∀ x y,x < n->y < es->nref (c (i+x) y)
  | _=>True):VR E.view (match geth h b with
  | .row _ _ _ c=>.ro es n nl (wL i c)
  | _=>.top) v:=by
 have K:=view_K H
 cases hv with
 | sl _ _ _ _ _ a cap hn hcm hnl hz hc =>
  cases hg:geth h b with
  | dead=>exact .top _
  | mapb _ _=>exact .top _
  | lit e l=>exact .top _
  | row e es' N c =>
   rw [hg] at ho
   simp only at ho ⊢
   obtain ⟨rfl,hN,ho⟩:=ho
   have main:0 < n->∃ k o,a=some ⟨k,o+i * es',none⟩/\k < E.w.heap.size/\∀ x y,x < n->y < es'->∃ u,E.w.cell? ⟨k,o+i * es'+x * es'+y,none⟩=some u/\u.oneCell'=true/\VR E.view (c (i+x) y) u:=by
    intro hp
    obtain ⟨k,o,cs,e',g1,g2,g3,g4⟩:=hc (by omega)
    refine ⟨k,o,g2,yY g3,fun x y hx hy=>?_⟩
    obtain ⟨u,q1,q2,q3⟩:=vU H hg g1 (i+x) y (by omega) hy
    exact ⟨u,by rw [← q1,Nat.add_mul];congr 2;omega,q2,q3.view K (ho x y hx hy)⟩
   refine .ro es' n nl (wL i c) a cap hn hcm hnl (zr_own H (by rw [hg];exact fun e=>by cases e) hn hz hc (fun _ h=>h.1)) (fun x y=>tT E.w (x * es'+y) a) (fun hp=>?_) (fun x y hx hy=>?_) (fun x y hx hy=>?_) (fun x y hx hy=>ho x y hx hy)
   ·obtain ⟨k,o,rfl,g2,g3⟩:=main hp
    refine ⟨k,o+i * es',rfl,g2,fun x y hx hy=>?_⟩
    obtain ⟨u,q1,_,_⟩:=g3 x y hx hy
    show E.w.cell? _=_
    rw [q1,tT,show (⟨k,o+i * es',none⟩:Addr).add (x * es'+y) = ⟨k,o+i * es'+x * es'+y,none⟩ from by simp [Addr.add,Nat.add_assoc],q1];rfl
   ·obtain ⟨k,o,rfl,g2,g3⟩:=main (by omega)
    obtain ⟨u,q1,q2,_⟩:=g3 x y hx hy
    rw [tT,show (⟨k,o+i * es',none⟩:Addr).add (x * es'+y) = ⟨k,o+i * es'+x * es'+y,none⟩ from by simp [Addr.add,Nat.add_assoc],q1];exact q2
   ·obtain ⟨k,o,rfl,g2,g3⟩:=main (by omega)
    obtain ⟨u,q1,_,q3⟩:=g3 x y hx hy
    rw [tT,show (⟨k,o+i * es',none⟩:Addr).add (x * es'+y) = ⟨k,o+i * es'+x * es'+y,none⟩ from by simp [Addr.add,Nat.add_assoc],q1];exact q3
theorem roW_VR (H:HR E h) {a:AV} {v:Value} (hv:VR E a v) (ho:roWOb h a):VR E.view (roW h a) v:=by
 have K:=view_K H
 cases a with
 | sl b es i n nl=>exact ro_sl H hv ho
 | ptr b es i j=>exact .top _
 | isl b es i j z n=>exact .top _
 | csl b es i n c=>exact .top _
 | _=>exact hv.view K (by simp only [roWOb] at ho;simp only [nref];try exact ho)
theorem ro_VR (H:HR E h) {a:AV} {v:Value} (hv:VR E a v) (ho:wU h a):VR E.view (roV h a) v:=by
 have K:=view_K H
 induction hv with
 | top v=>simp only [roV];exact .top v
 | bool b=>simp only [roV];exact .bool b
 | int k n=>simp only [roV];exact .int k n
 | str s=>simp only [roV];exact .str s
 | nilp=>simp only [roV];exact .nilp
 | emp a=>simp only [roV];exact .emp a
 | nilf=>simp only [roV];exact .nilf
 | ub b=>simp only [roV];exact .ub b
 | val v h1=>simp only [roV];exact .val v h1
 | mp m r clock es hp hb he=>simp only [roV];exact (VR.mp m r clock es hp hb he).view K (by simp only [nref])
 | ptr b es i j k o hσ =>
  simp only [roV,wU] at ho ⊢
  cases hg:geth h b with
  | dead=>exact .top _
  | mapb _ _=>exact .top _
  | lit e l =>
   rw [hg] at ho
   simp only at ho ⊢
   have hown:=fX H hg hσ
   have hb:=zP (h:=h) (b:=b) (by rw [hg];exact fun e=>by cases e)
   have hlt:k < E.w.heap.size:=(H.blk b _ hb).lt (by rw [hg];exact fun e=>by cases e) hσ
   have h1:∀ y,y < l.length->∃ u,E.w.cell? ⟨k,o+y,none⟩=some u/\u.oneCell'=true/\VR E.view (zL (roWL h l) y) u:=by
    intro y hy
    obtain ⟨u,q1,q2,q3⟩:=hown y hy
    exact ⟨u,q1,q2,by rw [roWL_getL];exact roW_VR H q3 (fY ho y)⟩
   rw [show o+i * es+j=o+0 * l.length+(i * es+j) from by omega]
   refine .rptr l.length 1 0 (i * es+j) k o _ (fun x y=>(E.w.cell? ⟨k,o+y,none⟩).getD undef) ⟨hlt,fun _=>cS H hσ (.inl ⟨_,_,hg⟩) (fun _ h=>h.1)⟩ (fun x y hx hy=>?_) (fun x y hx hy=>?_) (fun x y hx hy=>?_) (fun x y hx hy=>by rw [roWL_getL];exact roW_nref _ (fY ho y))
   ·obtain ⟨u,q1,_,_⟩:=h1 y hy
    have hx:x=0:=by omega
    subst hx
    rw [show o+0 * l.length+y=o+y from by omega]
    show E.w.cell? _=_
    rw [q1];rfl
   ·obtain ⟨u,q1,q2,_⟩:=h1 y hy
    rw [q1];exact q2
   ·obtain ⟨u,q1,_,q3⟩:=h1 y hy
    rw [q1];exact q3
  | row e es' n c =>
   rw [hg] at ho
   simp only at ho ⊢
   obtain ⟨rfl,ho⟩:=ho
   have hown:=vU H hg hσ
   have hb:=zP (h:=h) (b:=b) (by rw [hg];exact fun e=>by cases e)
   have hlt:k < E.w.heap.size:=(H.blk b _ hb).lt (by rw [hg];exact fun e=>by cases e) hσ
   refine .rptr es' n i j k o _ (fun x y=>(E.w.cell? ⟨k,o+x * es'+y,none⟩).getD undef) ⟨hlt,fun _=>cS H hσ (.inr ⟨_,_,_,_,hg⟩) (fun _ h=>h.1)⟩ (fun x y hx hy=>?_) (fun x y hx hy=>?_) (fun x y hx hy=>?_) (fun x y hx hy=>ho x y hx hy)
   ·obtain ⟨u,q1,_,_⟩:=hown x y hx hy
    show E.w.cell? _=_
    rw [q1];rfl
   ·obtain ⟨u,q1,q2,_⟩:=hown x y hx hy
    rw [q1];exact q2
   ·obtain ⟨u,q1,_,q3⟩:=hown x y hx hy
    rw [q1];exact q3.view K (ho x y hx hy)
 | sl b es i n nl a cap hn hcm hnl hz hc =>
  simp only [roV,wU] at ho ⊢
  exact ro_sl H (.sl b es i n nl a cap hn hcm hnl hz hc) ho
 | csl b es i n c a hn hcm hc=>simp only [roV];exact .top _
 | isl b es i j z n cap k o hn hcm hσ =>
  simp only [roV,wU] at ho ⊢
  have main:∀ c:Nat->Nat->AV,((∃ e l,geth h b = .lit e l) ∨ ∃ e es n c,geth h b = .row e es n c)->k < E.w.heap.size->(∀ x y,x < n->y < z->∃ u,E.w.cell? ⟨k,o+i * es+j+x * z+y,none⟩=some u/\u.oneCell'=true/\VR E.view (c x y) u)->(∀ x y,x < n->y < z->nref (c x y))->VR E.view (.ro z n false c) (.slice (some ⟨k,o+i * es+j,none⟩) n cap):=by
   intro c hnd hk hc hrf
   refine .ro z n false c _ cap hn hcm (fun h=>by cases h) (zrB (cS H hσ hnd fun _ h=>h.1)) (fun x y=>(E.w.cell? ⟨k,o+i * es+j+x * z+y,none⟩).getD undef) (fun hp=>⟨k,_,rfl,hk,fun x y hx hy=>?_⟩) (fun x y hx hy=>?_) (fun x y hx hy=>?_) hrf
   ·obtain ⟨u,q1,_,_⟩:=hc x y hx hy
    show E.w.cell? _=_
    rw [q1];rfl
   ·obtain ⟨u,q1,q2,_⟩:=hc x y hx hy
    rw [q1];exact q2
   ·obtain ⟨u,q1,_,q3⟩:=hc x y hx hy
    rw [q1];exact q3
  cases hg:geth h b with
  | dead=>exact .top _
  | mapb _ _=>exact .top _
  | lit e l =>
   rw [hg] at ho
   simp only at ho ⊢
   have hb:=zP (h:=h) (b:=b) (by rw [hg];exact fun e=>by cases e)
   have hlt:k < E.w.heap.size:=(H.blk b _ hb).lt (by rw [hg];exact fun e=>by cases e) hσ
   refine main _ (.inl ⟨_,_,hg⟩) hlt (fun x y hx hy=>?_) (fun x y hx hy=>zR ho.2 _)
   have h1:=wG hx hy
   obtain ⟨u,q1,q2,q3⟩:=fX H hg hσ (i * es+j+x * z+y) (by omega)
   exact ⟨u,by rw [← q1];congr 2;omega,q2,q3.view K (zR ho.2 _)⟩
  | row e es' N c =>
   rw [hg] at ho
   simp only at ho ⊢
   obtain ⟨rfl,hN,hjz,ho⟩:=ho
   have hb:=zP (h:=h) (b:=b) (by rw [hg];exact fun e=>by cases e)
   have hlt:k < E.w.heap.size:=(H.blk b _ hb).lt (by rw [hg];exact fun e=>by cases e) hσ
   refine main _ (.inr ⟨_,_,_,_,hg⟩) hlt (fun x y hx hy=>?_) (fun x y hx hy=>by rw [cN hy];exact ho _ (by have:=wG hx hy;omega))
   have h1:=wG hx hy
   obtain ⟨u,q1,q2,q3⟩:=vU H hg hσ i (j+x * z+y) hN (by omega)
   exact ⟨u,by rw [← q1];congr 2;omega,q2,by rw [cN hy];exact q3.view K (ho _ (by omega))⟩
 | rptr es n i j k o c u hp hu h1 hc hrf ih =>
  simp only [roV]
  exact (VR.rptr es n i j k o c u hp hu h1 hc hrf).view K (by simp only [nref])
 | ro es n nl c a cap hn hcm hnl hz u ha h1 hc hrf ih =>
  simp only [roV]
  exact (VR.ro es n nl c a cap hn hcm hnl hz u ha h1 hc hrf).view K (by simp only [nref])
 | agg l vs hl h1 hh ih =>
  simp only [roV,wU] at ho ⊢
  refine .agg _ _ (by rw [uG,hl]) h1 fun i a v ha hv=>?_
  rw [jH] at ha
  cases hi:l[i]? with
  | none=>rw [hi] at ha;cases ha
  | some a0 =>
   rw [hi] at ha
   simp only [Option.map_some,Option.some.injEq] at ha
   subst ha
   exact ih i a0 v hi hv (uO ho hi)
 | tup l vs hl hh ih =>
  simp only [roV,wU] at ho ⊢
  refine .tup _ _ (by rw [uG,hl]) fun i a v ha hv=>?_
  rw [jH] at ha
  cases hi:l[i]? with
  | none=>rw [hi] at ha;cases ha
  | some a0 =>
   rw [hi] at ha
   simp only [Option.map_some,Option.some.injEq] at ha
   subst ha
   exact ih i a0 v hi hv (uO ho hi)
 | fn f l vs hl hh ih =>
  simp only [roV,wU] at ho ⊢
  refine .fn f _ _ (by rw [uG,hl]) fun i a v ha hv=>?_
  rw [jH] at ha
  cases hi:l[i]? with
  | none=>rw [hi] at ha;cases ha
  | some a0 =>
   rw [hi] at ha
   simp only [Option.map_some,Option.some.injEq] at ha
   subst ha
   exact ih i a0 v hi hv (uO ho hi)
 | mfn f l vs hl hh ih =>
  simp only [roV,wU] at ho ⊢
  refine .mfn f _ _ (by rw [uG,hl]) fun i a v ha hv=>?_
  rw [jH] at ha
  cases hi:l[i]? with
  | none=>rw [hi] at ha;cases ha
  | some a0 =>
   rw [hi] at ha
   simp only [Option.map_some,Option.some.injEq] at ha
   subst ha
   exact ih i a0 v hi hv (uO ho hi)
 | opt_t a v hv ih =>
  simp only [roV,wU] at ho ⊢
  exact .opt_t a v (hv.view K ho)
 | opt_f a=>simp only [roV];exact .opt_f a
end Go.Am

namespace Go.Am
set_option linter.unusedVariables false
variable {P:Program} {E:Env} {h:List ABlk}

theorem concL_VR {l:List AV}:∀ {us:List Value},qX l=some us->∀ (vs:List Value),l.length=vs.length->(∀ (i:Nat) (a:AV) (v:Value),l[i]? = some a->vs[i]? = some v->VR E a v)->vs=us:=by
 induction l with
 | nil=>intro us hu vs hl _;simp only [qX] at hu;injection hu with hu;subst hu;exact List.eq_nil_of_length_eq_zero hl.symm
 | cons a l ih =>
  intro us hu vs hl hh
  cases vs with
  | nil=>simp at hl
  | cons v vs =>
   have h0:=hh 0 a v rfl rfl
   have ih':∀ {us:List Value},qX l=some us->vs=us:=fun hu=>ih hu vs (by simpa using hl) fun i b w hb hw=>hh (i+1) b w (by simpa using hb) (by simpa using hw)
   cases h0
   case fn f l' vs' hl' hh' =>
    cases l' with
    | nil =>
     simp only [qX,Option.map_eq_some_iff] at hu
     obtain ⟨r,q1,rfl⟩:=hu
     obtain rfl:vs' = #[]:=Array.eq_empty_of_size_eq_zero (by simpa using hl'.symm)
     rw [ih' q1]
    | cons x y=>simp only [qX,reduceCtorEq] at hu
   all_goals (simp only [qX,Option.map_eq_some_iff,reduceCtorEq] at hu)
   all_goals (obtain ⟨r,q1,rfl⟩:=hu;rw [ih' q1])
theorem conc1_VR {a:AV} {u v:Value} (hu:conc1 a=some u) (hv:VR E a v):v=u:=by
 cases hv<;>simp only [conc1,Option.some.injEq,Option.map_eq_some_iff,reduceCtorEq] at hu<;>try exact hu
 rename_i l vs hl h1 hh
 obtain ⟨r,q1,rfl⟩:=hu
 obtain ⟨vs⟩:=vs
 rw [concL_VR q1 vs (by simpa using hl) fun i a v ha hv=>hh i a v ha (by simpa using hv)]
theorem concT_VR {l:List AV}:∀ {us:List Value},concT l=some us->∀ (vs:List Value),l.length=vs.length->(∀ (i:Nat) (a:AV) (v:Value),l[i]? = some a->vs[i]? = some v->VR E a v)->vs=us:=by
 induction l with
 | nil=>intro us hu vs hl _;simp only [concT] at hu;injection hu with hu;subst hu;exact List.eq_nil_of_length_eq_zero hl.symm
 | cons a l ih =>
  intro us hu vs hl hh
  cases vs with
  | nil=>simp at hl
  | cons v vs =>
   have h0:=hh 0 a v rfl rfl
   simp only [concT] at hu
   split at hu
   ·rename_i v' r q1 q2
    injection hu with hu;subst hu
    rw [conc1_VR q1 h0,ih q2 vs (by simpa using hl) fun i b w hb hw=>hh (i+1) b w (by simpa using hb) (by simpa using hw)]
   ·cases hu
theorem conc_VR {a:AV} {u v:Value} (hu:conc a=some u) (hv:VR E a v):v=u:=by
 have one:conc1 a=some u->v=u:=fun hu=>conc1_VR hu hv
 unfold conc at hu
 split at hu
 ·rename_i l
  cases hv with
  | tup l vs hl hh =>
  simp only [Option.map_eq_some_iff] at hu
  obtain ⟨r,q1,rfl⟩:=hu
  obtain ⟨vs⟩:=vs
  rw [concT_VR q1 vs (by simpa using hl) fun i a v ha hv=>hh i a v ha (by simpa using hv)]
 ·exact one hu
theorem conc1_mk {a:AV} {u:Value} (hu:conc1 a=some u):VR E a u/\(u.oneCell'=true ∨ ∃ l,a = .agg l):=by
 cases a<;>simp only [conc1,Option.some.injEq,Option.map_eq_some_iff,reduceCtorEq] at hu
 case bool b=>subst hu;exact ⟨.bool _,.inl rfl⟩
 case int k n=>subst hu;exact ⟨.int _ _,.inl rfl⟩
 case str s=>subst hu;exact ⟨.str _,.inl rfl⟩
 case nilp=>subst hu;exact ⟨.nilp,.inl rfl⟩
 case nilf=>subst hu;exact ⟨.nilf,.inl rfl⟩
 case agg l =>
  obtain ⟨r,q1,rfl⟩:=hu
  have key:∀ (l:List AV) (r:List Value),qX l=some r->l.length=r.length/\∀ (i:Nat) (a:AV) (v:Value),l[i]? = some a->r[i]? = some v->VR E a v/\v.oneCell'=true:=by
   intro l
   induction l with
   | nil=>intro r hr;simp only [qX] at hr;injection hr with hr;subst hr;exact ⟨rfl,fun i a v ha=>by simp at ha⟩
   | cons a l ih =>
    intro r hr
    have put:∀ (u:Value),(qX l).map (u::·)=some r->VR E a u->u.oneCell'=true->(a::l).length=r.length/\∀ (i:Nat) (b:AV) (v:Value),(a::l)[i]? = some b->r[i]? = some v->VR E b v/\v.oneCell'=true:=by
     intro u hm hu h1
     simp only [Option.map_eq_some_iff] at hm
     obtain ⟨r',q1,rfl⟩:=hm
     obtain ⟨i1,i2⟩:=ih r' q1
     refine ⟨by simp [i1],fun i b v hb hv=>?_⟩
     cases i with
     | zero=>simp at hb hv;subst hb hv;exact ⟨hu,h1⟩
     | succ i=>exact i2 i b v (by simpa using hb) (by simpa using hv)
    cases a
    case fn f l' =>
     cases l' with
     | nil=>simp only [qX] at hr;exact put _ hr (.fn f [] #[] rfl (fun i a v ha=>by simp at ha)) rfl
     | cons x y=>simp only [qX,reduceCtorEq] at hr
    all_goals (simp only [qX,reduceCtorEq] at hr)
    case bool b=>exact put _ hr (.bool _) rfl
    case int k n=>exact put _ hr (.int _ _) rfl
    case str s=>exact put _ hr (.str _) rfl
    case nilp=>exact put _ hr .nilp rfl
    case nilf=>exact put _ hr .nilf rfl
  obtain ⟨k1,k2⟩:=key l r q1
  exact ⟨.agg _ _ (by simpa using k1) (fun i v hv=>by
   have hi:i < r.length:=by
    rcases Nat.lt_or_ge i r.length with h'|h'
    ·exact h'
    ·simp [List.getElem?_eq_none h'] at hv
   have hil:i < l.length:=by omega
   exact (k2 i _ v (List.getElem?_eq_getElem hil) (by simpa using hv)).2) fun i a v ha hv=>(k2 i a v ha (by simpa using hv)).1,.inr ⟨l,rfl⟩⟩
theorem conc_mk {a:AV} {u:Value} (hu:conc a=some u):VR E a u:=by
 unfold conc at hu
 split at hu
 ·rename_i l
  simp only [Option.map_eq_some_iff] at hu
  obtain ⟨r,q1,rfl⟩:=hu
  have key:∀ (l:List AV) (r:List Value),concT l=some r->l.length=r.length/\∀ (i:Nat) (a:AV) (v:Value),l[i]? = some a->r[i]? = some v->VR E a v:=by
   intro l
   induction l with
   | nil=>intro r hr;simp only [concT] at hr;injection hr with hr;subst hr;exact ⟨rfl,fun i a v ha=>by simp at ha⟩
   | cons a l ih =>
    intro r hr
    simp only [concT] at hr
    split at hr
    ·rename_i v' r' q1 q2
     injection hr with hr;subst hr
     obtain ⟨i1,i2⟩:=ih r' q2
     refine ⟨by simp [i1],fun i b v hb hv=>?_⟩
     cases i with
     | zero=>simp at hb hv;subst hb hv;exact (conc1_mk q1).1
     | succ i=>exact i2 i b v (by simpa using hb) (by simpa using hv)
    ·cases hr
  obtain ⟨k1,k2⟩:=key l r q1
  exact .tup _ _ (by simpa using k1) fun i a v ha hv=>k2 i a v ha (by simpa using hv)
 ·exact (conc1_mk hu).1

def pureR (o:Prop):AR->AR
 | .pure ob v=>.pure (o/\ob) v
 | .heap _ _ _=>.fail
 | .fail=>.fail
def yR (body:List AV->AR) (l:List AV) (h:List ABlk):AR:=pureR (jN h l) (body (roL h l))
theorem fP {w':World} (H:HR E h) (S:Same E.w w'):HR { E with w:=w' } h/\Ext E h { E with w:=w' } h:=by
 have K:Keep E { E with w:=w' }:=⟨fun _ _ h=>h,fun _ h=>h,fun k hk=>S.old k (H.prot k hk).1,fun k cs e hk=>⟨cs,(S.old k (yY hk)).trans hk,rfl⟩,rfl⟩
 exact ⟨⟨fun b x hb=>by
   by_cases hd:x = .dead
   ·subst hd;trivial
   ·exact (H.blk b x hb).mono K rfl fun k o hk=>S.old k ((H.blk b x hb).lt hd hk),H.inj,fun k hk=>⟨Nat.lt_of_lt_of_le (H.prot k hk).1 S.size,(H.prot k hk).2⟩,H.fresh,H.lo⟩,
  ⟨S.os,S.tape,S.output,K.σ,K.prot,S.size,K.kind,fun k hk _=>S.old k hk,fun k h=>.inl h,Nat.le_refl _,fun _ _=>rfl,fun _ h=>.inl h,rfl,fun _ h=>.inl h⟩⟩

end Go.Am

namespace Go.Am
set_option linter.unusedVariables false
variable {P:Program} {E:Env} {h:List ABlk}

/-! ### What refers to the first n blocks only -/
mutual
def nr (n:Nat):AV->Prop
 | .ptr b _ _ _=>b < n
 | .sl b _ _ _ _=>b < n
 | .isl b _ _ _ _ _=>b < n
 | .csl b _ _ _ _=>b < n
 | .rptr _ _ _ _ _=>True
 | .ro _ _ _ _=>True
 | .agg l=>nrL n l
 | .tup l=>nrL n l
 | .fn _ l=>nrL n l
 | .mfn _ l=>nrL n l
 | .opt _ v=>nr n v
 | .top=>True
 | .bool _=>True
 | .int _ _=>True
 | .str _=>True
 | .nilp=>True
 | .emp=>True
 | .nilf=>True
 | .ub=>True
 | .val _=>True
 | .mp _=>True
def nrL (n:Nat):List AV->Prop
 | []=>True
 | a::l=>nr n a/\nrL n l
end
theorem cQ {n:Nat} {l:List AV} (hn:nrL n l) {i:Nat} {a:AV} (ha:l[i]? = some a):nr n a:=by
 induction l generalizing i with
 | nil=>simp at ha
 | cons b l ih =>
  simp only [nrL] at hn
  cases i with
  | zero=>simp at ha;subst ha;exact hn.1
  | succ i=>exact ih hn.2 (by simpa using ha)
def nrB (n:Nat):ABlk->Prop
 | .lit _ l=>nrL n l
 | .row _ es m c=>∀ x y,x < m->y < es->nr n (c x y)
 | .mapb _ _=>True
 | .dead=>True
def nrH (n:Nat):List ABlk->Prop
 | []=>True
 | x::l=>nrB n x/\nrH n l
theorem nrH_get {n:Nat} {l:List ABlk} (hn:nrH n l) {i:Nat} {a:ABlk} (ha:l[i]? = some a):nrB n a:=by
 induction l generalizing i with
 | nil=>simp at ha
 | cons b l ih =>
  simp only [nrH] at hn
  cases i with
  | zero=>simp at ha;subst ha;exact hn.1
  | succ i=>exact ih hn.2 (by simpa using ha)
def Env.cut (E:Env) (n:Nat):Env:=⟨E.w,fun b=>if b < n then E.σ b else none,E.prot,E.lo⟩
theorem jJ {n b:Nat} (hb:b < n):(E.cut n).σ b=E.σ b:=by simp [Env.cut,hb]
theorem VR.cut {n:Nat} {a:AV} {v:Value} (h:VR E a v) (hn:nr n a):VR (E.cut n) a v:=by
 induction h with
 | top v=>exact .top v
 | bool b=>exact .bool b
 | int k n=>exact .int k n
 | str s=>exact .str s
 | nilp=>exact .nilp
 | ptr b es i j k o h=>simp only [nr] at hn;exact .ptr b es i j k o ((jJ hn).trans h)
 | rptr es m i j k o c u hp hu h1 hc hrf ih =>
  exact .rptr es m i j k o c u hp hu h1 (fun x y hx hy=>VR.view (E:=E) (E':=E.cut n) (fun k hk=>⟨hk,rfl⟩) (hc x y hx hy) (hrf x y hx hy)) hrf
 | sl b es i m nl a cap hm hcm hnl hz hc =>
  simp only [nr] at hn
  refine .sl b es i m nl a cap hm hcm hnl hz fun hp=>?_
  obtain ⟨k,o,cs,e,g1,g2⟩:=hc hp
  exact ⟨k,o,cs,e,(jJ hn).trans g1,g2⟩
 | isl b es i j z m cap k o hm hcm h=>simp only [nr] at hn;exact .isl b es i j z m cap k o hm hcm ((jJ hn).trans h)
 | csl b es i m c a hm hcm hc=>simp only [nr] at hn;exact .csl b es i m c a hm hcm fun hp=>by obtain ⟨k,o,cs,e,h1,h2⟩:=hc hp;exact ⟨k,o,cs,e,(jJ hn).trans h1,h2⟩
 | ro es m nl c a cap hm hcm hnl hz u ha h1 hc hrf ih =>
  exact .ro es m nl c a cap hm hcm hnl hz u ha h1 (fun x y hx hy=>VR.view (E:=E) (E':=E.cut n) (fun k hk=>⟨hk,rfl⟩) (hc x y hx hy) (hrf x y hx hy)) hrf
 | emp a=>exact .emp a
 | agg l vs hl h1 h ih=>simp only [nr] at hn;exact .agg l vs hl h1 fun i a v ha hv=>ih i a v ha hv (cQ hn ha)
 | tup l vs hl h ih=>simp only [nr] at hn;exact .tup l vs hl fun i a v ha hv=>ih i a v ha hv (cQ hn ha)
 | fn f l vs hl h ih=>simp only [nr] at hn;exact .fn f l vs hl fun i a v ha hv=>ih i a v ha hv (cQ hn ha)
 | mfn f l vs hl h ih=>simp only [nr] at hn;exact .mfn f l vs hl fun i a v ha hv=>ih i a v ha hv (cQ hn ha)
 | nilf=>exact .nilf
 | ub b=>exact .ub b
 | val v h1=>exact .val v h1
 | mp m r clock es hp hb he=>exact VR.view (E:=E) (E':=E.cut n) (fun k hk=>⟨hk,rfl⟩) (.mp m r clock es hp hb he) (by simp only [nref])
 | opt_t a v h ih=>simp only [nr] at hn;exact .opt_t a v (ih hn)
 | opt_f a=>exact .opt_f a
theorem HR.cut {g:List ABlk} (H:HR E (h ++ g)) (hn:nrH h.length h):HR (E.cut h.length) h:=by
 have hold:∀ {b:Nat} {x:ABlk},h[b]? = some x->b < h.length/\(h ++ g)[b]? = some x:=by
  intro b x hb
  have hlt:b < h.length:=by
   rcases Nat.lt_or_ge b h.length with h'|h'
   ·exact h'
   ·rw [List.getElem?_eq_none h'] at hb;cases hb
  exact ⟨hlt,by rw [List.getElem?_append_left hlt];exact hb⟩
 refine ⟨fun b x hb=>?_,fun b b' x x' k o o' h1 h2 h3 h4 h5 h6=>?_,fun k hk=>?_,fun b hb=>?_,H.lo⟩
 ·obtain ⟨hlt,hb'⟩:=hold hb
  have hB:=H.blk b x hb'
  have hN:=nrH_get hn hb
  cases x with
  | dead=>trivial
  | mapb k0 m0 =>
   obtain ⟨q1,q2⟩:=hB
   exact ⟨(jJ hlt).trans q1,q2⟩
  | lit e l =>
   obtain ⟨k,o,cs,q1,q2,q3,q4⟩:=hB
   exact ⟨k,o,cs,(jJ hlt).trans q1,q2,q3,fun j a hj=>by obtain ⟨v,r1,r2,r3⟩:=q4 j a hj;exact ⟨v,r1,r2,r3.cut (cQ hN hj)⟩⟩
  | row e es m c =>
   unfold BR at hB ⊢
   rw [jJ hlt]
   cases hs:E.σ b with
   | none=>rw [hs] at hB;exact hB
   | some p =>
    rw [hs] at hB
    obtain ⟨cs,q1,q2,q3⟩:=hB
    exact ⟨cs,q1,q2,fun x y hx hy=>by obtain ⟨v,r1,r2,r3⟩:=q3 x y hx hy;exact ⟨v,r1,r2,r3.cut (hN x y hx hy)⟩⟩
 ·obtain ⟨l1,g1⟩:=hold h1
  obtain ⟨l3,g3⟩:=hold h3
  rw [jJ l1] at h5
  rw [jJ l3] at h6
  exact H.inj b b' x x' k o o' g1 h2 g3 h4 h5 h6
 ·obtain ⟨h1,h2⟩:=H.prot k hk
  refine ⟨h1,?_⟩
  rintro ⟨b,x,o,q1,q2,q3⟩
  obtain ⟨l1,g1⟩:=hold q1
  rw [jJ l1] at q3
  exact h2 ⟨b,x,o,g1,q2,q3⟩
 ·simp only [Env.cut];rw [if_neg (by omega)]
theorem Ext.cut {E0:Env} {h0 g:List ABlk} (H0:HR E0 h0) (X:Ext E0 h0 E (h ++ g)) (hl:h0.length <= h.length):Ext E0 h0 (E.cut h.length) h where
 os:=X.os
 tape:=X.tape
 output:=X.output
 σ:=fun b x hb=>by
  have:b < h.length:=by
   rcases Nat.lt_or_ge b h0.length with h'|h'
   ·omega
   ·rw [H0.fresh b h'] at hb;cases hb
  rw [jJ this];exact X.σ b x hb
 prot:=X.prot
 size:=X.size
 kind:=X.kind
 frame:=X.frame
 len:=hl
 old:=fun b hb=>(jJ (by omega)).trans (X.old b hb)
 pro:=X.pro
 lo:=X.lo
 wr:=X.wr
 own:=fun k hk=>by
  obtain ⟨b,x,o,q1,q2,q3⟩:=hk
  have hlt:b < h.length:=by
   rcases Nat.lt_or_ge b h.length with h'|h'
   ·exact h'
   ·rw [List.getElem?_eq_none h'] at q1;cases q1
  rw [jJ hlt] at q3
  exact X.own k ⟨b,x,o,by rw [List.getElem?_append_left hlt];exact q1,q2,q3⟩

def Cov:List AV->List AV->Prop
 | [],[]=>True
 | .top::l,_::m=>Cov l m
 | a::l,b::m=>a=b/\Cov l m
 | _,_=>False
theorem exists_min {p:Nat->Prop} (hp:∃ n,p n):∃ n,p n/\∀ m,p m->n <= m:=by
 obtain ⟨n,hn⟩:=hp
 induction n using Nat.strongRecOn with
 | _ n ih =>
  by_cases hm:∃ m,m < n/\p m
  ·obtain ⟨m,h1,h2⟩:=hm;exact ih m h1 h2
  ·exact ⟨n,hn,fun m h2=>Nat.le_of_not_lt fun h1=>hm ⟨m,h1,h2⟩⟩

def kLp (R:List AV->List ABlk->Prop) (K:Kt):Kt
 | .normal,t,h=>R t h
 | .exit id,t,h=>K (.exit id) t h
 | .ret,t,h=>K .ret t h
 | .goto l,t,h=>K (.goto l) t h
def Back {α:Type} (T:α->List AV) (Hp:α->List ABlk) (J:α->Prop) (μ:α->Nat) (n:Nat) (x:α) (t:List AV) (h:List ABlk):Prop :=
 ∃ x',J x'/\μ x' < μ x/\Cov (T x') t/\(∃ g,h=Hp x' ++ g)/\(Hp x').length=n/\nrL n (T x')/\nrH n (Hp x')
end Go.Am

namespace Go.Am
set_option linter.unusedVariables false
variable {P:Program} {E:Env} {h:List ABlk}

theorem op_still {sh:TypeId->Option (List Leaf)} {ct:Ct} (S:fN P sh) {t:List AV} {o:Oper} {a:Act} {ob:Prop} {v:AV}
  (H:HR E h) (F:FR E t a.tmps) (hr:evO P sh ct t h o.op = .pure ob v) (hob:ob) (hog:vS t o.op) (hcall:∀ f xs ts,o.op ≠ .call ⟨.value f,xs,ts⟩) :
  ∃ r,(∀ w1:World,(∀ k,k < E.w.heap.size->w1.heap[k]? = E.w.heap[k]?)->(execOp a.eval o).run P w1 = .ok (.value r) w1)/\VR E v r:=by
 obtain ⟨dst,op,ty,pos,after,guard⟩:=o
 have pO_eq:∀ {r:AR},pO r = .pure ob v->r = .pure ob v:=by
  intro r h1
  cases r<;>simp only [pO,reduceCtorEq,AR.pure.injEq] at h1 ⊢
  exact h1
 have hO_eq:∀ {r:AR},hO r = .pure ob v->False:=by
  intro r h1
  cases r<;>simp only [hO,reduceCtorEq] at h1
 have ex:∀ (s:Sem Value),(∃ r,(∀ w,s.run P w = .ok r w)/\VR E v r)->∃ r,(∀ w1:World,(∀ k,k < E.w.heap.size->w1.heap[k]? = E.w.heap[k]?)->(do pure (.value (← s)):Sem Next).run P w1 = .ok (.value r) w1)/\VR E v r:=by
  rintro s ⟨r,h1,h2⟩
  exact ⟨r,fun w _=>by rw [Sem.run_bind,h1];rfl,h2⟩
 cases op
 case move x =>
  simp only [evO,AR.pure.injEq] at hr
  obtain ⟨rfl,rfl⟩:=hr
  exact ⟨_,fun _ _=>rfl,zS F hog⟩
 case assign x =>
  simp only [evO,AR.pure.injEq] at hr
  obtain ⟨rfl,rfl⟩:=hr
  exact ⟨_,fun _ _=>rfl,zS F hog⟩
 case pick c x y =>
  simp only [evO] at hr
  simp only [vS] at hog
  obtain ⟨hc,hog⟩:=hog
  cases hb:rho t c with
  | bool b =>
   rw [hb] at hog hr
   simp only [ogC] at hog
   obtain ⟨r,h1,h2⟩:=pick_sound (P:=P) (by rw [← hb];exact zS F hc) rfl (fun e=>zS F (hog.1 e)) (fun e=>zS F (hog.2 e)) hr
   exact ⟨r,fun w _=>h1 w,h2⟩
  | _=>rw [hb] at hog;exact hog.elim
 case build y ps=>exact ex _ (build_sound (P:=P) (η:=a.eval) (fun p hp=>zS F (ogP_mem hog p hp)) (pO_eq hr))
 case load y x =>
  obtain ⟨r,h1,h2⟩:=load_sound (P:=P) H (zS F hog) (pO_eq hr) hob
  refine ⟨r,fun w hw=>?_,h2⟩
  show (do pure (.value (← Instr.loadAt y (a.eval x))):Sem Next).run P w=_
  rw [Sem.run_bind,h1 w hw];rfl
 case lookup y x k two =>
  obtain ⟨r,h1,h2⟩:=lk_sound (P:=P) H (zS F hog.1) (zS F hog.2) (pO_eq hr) hob
  refine ⟨r,fun w hw=>?_,h2⟩
  show (do pure (.value (← Instr.lookup y (a.eval x) (a.eval k) two)):Sem Next).run P w=_
  rw [Sem.run_bind,h1 w hw];rfl
 case nilCheck x =>
  have hr:=pO_eq hr
  have hx:=zS F hog
  unfold evNil at hr
  split at hr
  ·rename_i e
   rw [e] at hx
   injection hr with q1 q2;subst q2
   rw [e]
   have hx':=hx
   generalize ha:a.eval x=u at hx hx'
   cases hx
   exact ⟨_,fun w _=>by simp only [execOp,ha];rfl,hx'⟩
  ·rename_i e
   rw [e] at hx
   injection hr with q1 q2;subst q2
   rw [e]
   have hx':=hx
   generalize ha:a.eval x=u at hx hx'
   cases hx
   exact ⟨_,fun w _=>by simp only [execOp,ha];rfl,hx'⟩
  ·rename_i e
   rw [e] at hx
   injection hr with q1 q2;subst q2
   rw [e]
   have hx':=hx
   generalize ha:a.eval x=u at hx hx'
   cases hx
   exact ⟨_,fun w _=>by simp only [execOp,ha];rfl,hx'⟩
  ·cases hr
 case binOp op y x z yt=>exact ex _ (bin_sound S (zS F hog.1) (zS F hog.2) (xo:=x) (yo:=z) (pO_eq hr) hob)
 case unOp op y x=>exact ex _ (un_sound (P:=P) (zS F hog) (pO_eq hr))
 case convert s d x =>
  obtain ⟨r,h1,h2⟩:=conv2_sound (P:=P) H (zS F hog) (cvO_pure hr) hob
  refine ⟨r,fun w hw=>?_,h2⟩
  show (do pure (.value (← convert s d (a.eval x))):Sem Next).run P w=_
  rw [Sem.run_bind,h1 w hw];rfl
 case makeFunc fn first captured =>
  simp only [evO] at hr
  unfold evFn at hr
  split at hr
  ·rename_i f hf
   simp only [AR.pure.injEq] at hr
   obtain ⟨rfl,rfl⟩:=hr
   have hfe:first = #[]:=by obtain ⟨l⟩:=first;simp at hf;rw [hf]
   subst hfe
   obtain ⟨q1,q2⟩:=jY F (xs:=captured) hog.1
   exact ⟨.func (.func f) #[] (captured.map a.eval),fun w _=>by simp only [execOp,Instr.makeFunc,Sem.run_bind,Sem.run_pure,Result.andThen_ok,Array.map_empty],.fn f _ _ q1 q2⟩
  ·rename_i f x xs hf
   split at hr
   ·rename_i hc
    simp only [AR.pure.injEq] at hr
    obtain ⟨rfl,rfl⟩:=hr
    have hce:captured = #[]:=by obtain ⟨l⟩:=captured;simp at hc;rw [hc]
    subst hce
    obtain ⟨q1,q2⟩:=jY F (xs:=first) hog.2
    rw [hf] at q1 q2
    exact ⟨.func (.func f) (first.map a.eval) #[],fun w _=>by simp only [execOp,Instr.makeFunc,Sem.run_bind,Sem.run_pure,Result.andThen_ok,Array.map_empty],.mfn f _ _ q1 q2⟩
   ·cases hr
  ·cases hr
 case slice y x lo hi mx=>exact ex _ (slice2_sound (P:=P) (zS F hog.1) (vro F hog.2.1) (vro F hog.2.2.1) (vro F hog.2.2.2) (pO_eq hr) hob)
 case fieldAddr s x f=>exact ex _ (cZ (P:=P) (zS F hog) (pO_eq hr) hob)
 case field s x f=>exact ex _ (field_sound (P:=P) (zS F hog) (pO_eq hr) hob)
 case indexAddr y x i=>exact ex _ (bE (P:=P) (zS F hog.1) (zS F hog.2) (pO_eq hr) hob)
 case index y x i=>exact ex _ (index2_sound (P:=P) (zS F hog.1) (zS F hog.2) (pO_eq hr) hob)
 case extract x i=>exact ex _ (extract_sound (P:=P) (zS F hog) (pO_eq hr) hob)
 case call c =>
  obtain ⟨callee,args,argTypes⟩:=c
  simp only [evO] at hr
  have hargs:=jY F (xs:=args) hog.2
  unfold evCall at hr
  cases callee with
  | invoke r m=>cases hr
  | value f=>exact absurd rfl (hcall f args argTypes)
  | builtin b =>
   simp only at hr
   have fin:∀ r,(∀ w1:World,(builtin b argTypes ty (args.map fun|.const _=>true|_=>false) (args.map a.eval)).run P w1 = .ok (.value r) w1)->VR E v r->∃ r,(∀ w1:World,(∀ k,k < E.w.heap.size->w1.heap[k]? = E.w.heap[k]?)->(execOp a.eval ⟨dst,.call ⟨.builtin b,args,argTypes⟩,ty,pos,after,guard⟩).run P w1 = .ok (.value r) w1)/\VR E v r:=by
    intro r h1 h2
    refine ⟨r,fun w _=>?_,h2⟩
    show (do let d ← resolve a.eval ⟨.builtin b,args,argTypes⟩ ty;invoke d.target d.args:Sem Next).run P w=_
    simp only [resolve,Sem.run_bind,Sem.run_pure,Result.andThen_ok,invoke]
    exact h1 w
   obtain ⟨ts⟩:=argTypes
   unfold eU at hr
   split at hr
   ·split at hr
    ·rename_i ts l t' x e1 e2
     simp only at e1;subst e1
     rw [e2] at hargs
     obtain ⟨u,hu,hv⟩:=FR_one hargs
     obtain ⟨r,q1,q2⟩:=len_sound (ty:=ty) hv hr
     exact fin r (fun w=>by rw [hu];simp only [builtin,Sem.run_bind,q1,Result.andThen_ok,Sem.run_pure]) q2
    ·cases hr
   ·split at hr
    ·exact absurd hr appB_np
    ·cases hr
   ·split at hr
    ·exact absurd hr evCopy_np
    ·cases hr
   ·split at hr
    ·exact absurd hr evClear_np
    ·cases hr
   ·split at hr
    ·rename_i ts l t' x e1 e2
     simp only at e1;subst e1
     rw [e2] at hargs
     obtain ⟨u,hu,hv⟩:=FR_one hargs
     obtain ⟨r,q1,q2⟩:=cap_sound (ty:=ty) hv hr
     exact fin r (fun w=>by rw [hu];simp only [builtin,Sem.run_bind,q1,Result.andThen_ok,Sem.run_pure]) q2
    ·cases hr
   ·unfold evMin at hr
    split at hr
    ·rename_i k x k' y e2
     rw [e2] at hargs
     obtain ⟨u1,u2,hu,hu1,hu2⟩:=FR_two hargs
     obtain rfl:=vM hu1
     obtain rfl:=vM hu2
     cases hk:(k == k') with
     | false=>rw [hk] at hr;cases hr
     | true =>
      rw [hk] at hr
      simp only [cond_true,AR.pure.injEq] at hr
      obtain ⟨rfl,rfl⟩:=hr
      exact fin (.int k (minI x y)) (fun w=>by rw [hu];simp [builtin,Builtin.min_,Builtin.min2,minI]) (.int _ _)
    ·cases hr
   ·unfold evMax at hr
    split at hr
    ·rename_i k x k' y e2
     rw [e2] at hargs
     obtain ⟨u1,u2,hu,hu1,hu2⟩:=FR_two hargs
     obtain rfl:=vM hu1
     obtain rfl:=vM hu2
     cases hk:(k == k') with
     | false=>rw [hk] at hr;cases hr
     | true =>
      rw [hk] at hr
      simp only [cond_true,AR.pure.injEq] at hr
      obtain ⟨rfl,rfl⟩:=hr
      exact fin (.int k (maxI x y)) (fun w=>by rw [hu];simp [builtin,Builtin.max_,Builtin.max2,maxI]) (.int _ _)
    ·cases hr
   ·cases hr
 all_goals first|exact (hO_eq hr).elim|(simp only [evO] at hr;cases hr)

theorem op_quiet {sh:TypeId->Option (List Leaf)} {ct:Ct} (S:fN P sh) (C:wO P ct) {t:List AV} {o:Oper} {a:Act} {ob:Prop} {v:AV}
  (H:HR E h) (F:FR E t a.tmps) (hr:evO P sh ct t h o.op = .pure ob v) (hob:ob) (hog:vS t o.op) :
  ∃ r,(∀ w1,Same E.w w1->o.quietAt P a (Same E.w) w1 r)/\VR E v r:=by
 by_cases hcall:∀ f xs ts,o.op ≠ .call ⟨.value f,xs,ts⟩
 ·obtain ⟨r,h1,h2⟩:=op_still S H F hr hob hog hcall
  refine ⟨r,fun w1 hw=>?_,h2⟩
  unfold Oper.quietAt
  rw [h1 w1 hw.old]
  exact ⟨rfl,rfl⟩
 ·have:∃ f xs ts,o.op = .call ⟨.value f,xs,ts⟩:=Classical.byContradiction fun hn=>hcall fun f xs ts e=>hn ⟨f,xs,ts,e⟩
  obtain ⟨f,args,argTypes,e⟩:=this
  obtain ⟨dst,op,ty,pos,after,guard⟩:=o
  simp only at e
  subst e
  simp only [evO] at hr
  have hargs:=jY F (xs:=args) hog.2
  unfold evCall at hr
  simp only at hr
  have hf:=zS F hog.1
  cases hg:rho t f with
  | fn g caps =>
   rw [hg] at hr hf
   simp only at hr
   generalize ha:a.eval f=u at hf
   cases hf with
   | fn g caps vs hl hh =>
   rcases C g with hC|⟨hE,_,hC⟩|hC
   ·rw [hC] at hr;cases hr
   ·have hcall:∀ w1,Same E.w w1->Calls P g (args.map a.eval ++ vs) w1 (RetP w1 v):=by
     intro w1 hw
     obtain ⟨H1,X1⟩:=fP H hw
     exact hC { E with w:=w1 } h _ _ ob v H1 (vF (X1.keep H) (xM hargs ⟨hl,hh⟩)) hr hob
    cases hc:conc v with
    | some r =>
     refine ⟨r,fun w1 hw=>?_,conc_mk hc⟩
     unfold Oper.quietAt
     have:(execOp a.eval ⟨dst,.call ⟨.value f,args,argTypes⟩,ty,pos,after,guard⟩).run P w1 = .ok (.enter g (args.map a.eval ++ vs)) w1:=by
      show (do let d ← resolve a.eval ⟨.value f,args,argTypes⟩ ty;invoke d.target d.args:Sem Next).run P w1=_
      simp only [resolve,Sem.run_bind,Deferred.ofValue,ha,Sem.run_pure,Result.andThen_ok,invoke,Array.empty_append]
      exact uH hE _
     rw [this]
     refine ⟨rfl,(hcall w1 hw).mono ?_⟩
     rintro e w'' ⟨u',rfl,q1,q2⟩
     rw [hc] at q1
     injection q1 with q1
     subst q1
     exact ⟨rfl,⟨q2.os.trans hw.os,q2.tape.trans hw.tape,q2.output.trans hw.output,Nat.le_trans hw.size q2.size,fun k hk=>(q2.old k (Nat.lt_of_lt_of_le hk hw.size)).trans (hw.old k hk)⟩⟩
    | none =>
     exfalso
     obtain ⟨e,w',fr,⟨u',_,q1,_⟩,_⟩:=hcall E.w ⟨rfl,rfl,rfl,Nat.le_refl _,fun _ _=>rfl⟩ []
     rw [hc] at q1
     cases q1
   ·obtain ⟨r,h1,h2,_⟩:=(hC E h _ _ H (xM hargs ⟨hl,hh⟩)).2 _ _ hr hob
    refine ⟨r,fun w1 hw=>?_,h2 E⟩
    obtain ⟨H1,X1⟩:=fP H hw
    obtain ⟨r',h1',_,hrun⟩:=(hC { E with w:=w1 } h _ _ H1 (vF (X1.keep H) (xM hargs ⟨hl,hh⟩))).2 _ _ hr hob
    rw [h1] at h1'
    injection h1' with h1'
    subst h1'
    unfold Oper.quietAt
    have:(execOp a.eval ⟨dst,.call ⟨.value f,args,argTypes⟩,ty,pos,after,guard⟩).run P w1 = .ok (.value r) w1:=by
     show (do let d ← resolve a.eval ⟨.value f,args,argTypes⟩ ty;invoke d.target d.args:Sem Next).run P w1=_
     simp only [resolve,Sem.run_bind,Deferred.ofValue,ha,Sem.run_pure,Result.andThen_ok,invoke,Array.empty_append]
     exact hrun
    rw [this]
    exact ⟨rfl,rfl⟩
  | mfn g caps =>
   rw [hg] at hr hf
   simp only at hr
   generalize ha:a.eval f=u at hf
   cases hf with
   | mfn g caps vs hl hh =>
   rcases C g with hC|⟨hE,_,hC⟩|hC
   ·rw [hC] at hr;cases hr
   ·have hcall:∀ w1,Same E.w w1->Calls P g (vs ++ args.map a.eval) w1 (RetP w1 v):=by
     intro w1 hw
     obtain ⟨H1,X1⟩:=fP H hw
     exact hC { E with w:=w1 } h _ _ ob v H1 (vF (X1.keep H) (xM ⟨hl,hh⟩ hargs)) hr hob
    cases hc:conc v with
    | some r =>
     refine ⟨r,fun w1 hw=>?_,conc_mk hc⟩
     unfold Oper.quietAt
     have:(execOp a.eval ⟨dst,.call ⟨.value f,args,argTypes⟩,ty,pos,after,guard⟩).run P w1 = .ok (.enter g (vs ++ args.map a.eval)) w1:=by
      show (do let d ← resolve a.eval ⟨.value f,args,argTypes⟩ ty;invoke d.target d.args:Sem Next).run P w1=_
      simp only [resolve,Sem.run_bind,Deferred.ofValue,ha,Sem.run_pure,Result.andThen_ok,invoke,Array.empty_append,Array.append_empty]
      exact uH hE _
     rw [this]
     refine ⟨rfl,(hcall w1 hw).mono ?_⟩
     rintro e w'' ⟨u',rfl,q1,q2⟩
     rw [hc] at q1
     injection q1 with q1
     subst q1
     exact ⟨rfl,⟨q2.os.trans hw.os,q2.tape.trans hw.tape,q2.output.trans hw.output,Nat.le_trans hw.size q2.size,fun k hk=>(q2.old k (Nat.lt_of_lt_of_le hk hw.size)).trans (hw.old k hk)⟩⟩
    | none =>
     exfalso
     obtain ⟨e,w',fr,⟨u',_,q1,_⟩,_⟩:=hcall E.w ⟨rfl,rfl,rfl,Nat.le_refl _,fun _ _=>rfl⟩ []
     rw [hc] at q1
     cases q1
   ·obtain ⟨r,h1,h2,_⟩:=(hC E h _ _ H (xM ⟨hl,hh⟩ hargs)).2 _ _ hr hob
    refine ⟨r,fun w1 hw=>?_,h2 E⟩
    obtain ⟨H1,X1⟩:=fP H hw
    obtain ⟨r',h1',_,hrun⟩:=(hC { E with w:=w1 } h _ _ H1 (vF (X1.keep H) (xM ⟨hl,hh⟩ hargs))).2 _ _ hr hob
    rw [h1] at h1'
    injection h1' with h1'
    subst h1'
    unfold Oper.quietAt
    have:(execOp a.eval ⟨dst,.call ⟨.value f,args,argTypes⟩,ty,pos,after,guard⟩).run P w1 = .ok (.value r) w1:=by
     show (do let d ← resolve a.eval ⟨.value f,args,argTypes⟩ ty;invoke d.target d.args:Sem Next).run P w1=_
     simp only [resolve,Sem.run_bind,Deferred.ofValue,ha,Sem.run_pure,Result.andThen_ok,invoke,Array.empty_append,Array.append_empty]
     exact hrun
    rw [this]
    exact ⟨rfl,rfl⟩
  | _=>rw [hg] at hr;cases hr

def nxtQ (g:GV) (r:AR) (og:Prop) (d:Option Nat) (t:List AV) (F:List AV->Prop):Prop:=match g with
 | .none=>match r with
  | .pure ob v=>og/\ob/\F (wW t d v)
  | _=>False
 | .g b=>match r with
  | .pure ob v=>(b=true->og/\ob)/\F (wW t d (.opt b v))
  | _=>b=false/\F (wW t d (.opt false .top))
 | .bad=>False
def wpQ (P:Program) (sh:TypeId->Option (List Leaf)) (ct:Ct) (all:List Oper) (K:Kt) (h:List ABlk):List Oper->List AV->Prop
 | [],t=>K .normal t h
 | o::r,t=>nxtQ (gval t all o.guard) (evO P sh ct t h o.op) (vS t o.op) o.dst t (wpQ P sh ct all K h r)

theorem wpQ_sound {sh:TypeId->Option (List Leaf)} {ct:Ct} (S:fN P sh) (C:wO P ct) {ops:Array Oper} {K:Kt} {Q:Act->Prop} (H:HR E h) (l:List Oper) :
  ∀ (t:List AV) (a:Act),FR E t a.tmps->a.defers=[]->wpQ P sh ct ops.toList K h l t ->
   (∀ (t':List AV) (a':Act),K .normal t' h->FR E t' a'.tmps->a'.defers=[]->Q a')->wpQuiet P ops (Same E.w) Q l a:=by
 induction l with
 | nil=>exact fun t a F hd hw hQ=>hQ t a hw F hd
 | cons o l ih =>
  intro t a F hd hw hQ
  obtain ⟨g1,g2⟩:=qG (ops:=ops) rfl (o:=o) F
  simp only [wpQ] at hw
  have put_defers:∀ d v,(a.put d v).defers=[]:=by
   intro d v
   cases d with
   | none=>exact hd
   | some d=>exact hd
  have run:∀ ob v,evO P sh ct t h o.op = .pure ob v->vS t o.op->ob->∀ x,(∀ r,VR E v r->VR E x r)->wpQ P sh ct ops.toList K h l (wW t o.dst x)->o.quiet P a (Same E.w) (wpQuiet P ops (Same E.w) Q l):=by
   intro ob v hr hog hob x hx hw
   obtain ⟨r,h1,h2⟩:=op_quiet S C H F hr hob hog
   exact ⟨r,h1,ih _ _ (uP F (hx _ h2) o.dst) (put_defers _ _) hw hQ⟩
  have skip:∀ x,wpQ P sh ct ops.toList K h l (wW t o.dst (.opt false x))->wpQuiet P ops (Same E.w) Q l (a.put o.dst undef):=fun x hw =>
   ih _ _ (uP F (.opt_f x) o.dst) (put_defers _ _) hw hQ
  unfold wpQuiet
  unfold nxtQ at hw
  split at hw
  ·rename_i hg
   rw [if_pos (g1 hg)]
   split at hw
   ·rename_i ob v hr;exact run ob v hr hw.1 hw.2.1 v (fun _ h=>h) hw.2.2
   ·exact hw.elim
  ·rename_i b hg
   rw [g2 b hg]
   split at hw
   ·rename_i ob v hr
    cases b with
    | true=>rw [if_pos rfl];exact run ob v hr (hw.1 rfl).1 (hw.1 rfl).2 _ (fun r h=>.opt_t v r h) hw.2
    | false=>rw [if_neg (by simp)];exact skip _ hw.2
   ·obtain ⟨rfl,hw⟩:=hw
    rw [if_neg (by simp)]
    exact skip _ hw
  ·exact hw.elim

theorem qE {sh:TypeId->Option (List Leaf)} {ct:Ct} (S:fN P sh) (C:wO P ct) {id:Nat} {ops:Array Oper} {K:Kt} {t:List AV} (hm:P.follows .mixedOrders=true) (hB:Region.lexB .any ops=true)
  (hw:wpQ P sh ct ops.toList K h ops.toList t):Mean P (.region id ops true) K t h:=by
 intro E a Q H F hd hQ
 refine wp_region_quiet (C:=Same E.w) hm hB ⟨rfl,rfl,rfl,Nat.le_refl _,fun _ _=>rfl⟩ ?_
 refine wpQ_sound S C H ops.toList t a F hd hw fun t' a' hk F' hd' w' hw'=>?_
 obtain ⟨H1,X1⟩:=fP H hw'
 exact hQ .normal { E with w:=w' } a' t' h hk X1 H1 (vF (X1.keep H) F') hd'
end Go.Am

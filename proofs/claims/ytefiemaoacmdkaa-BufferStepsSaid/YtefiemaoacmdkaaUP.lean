/-
  The abstract machine: 'up' (everything told is said to be new), 'rs' (what is not said to be new is forgotten), and the rule that leaves the old rows behind.
-/
import Derived.Test.YtefiemaoacmdkaaPm10
namespace Go.Am
set_option linter.unusedVariables false
variable {P:Program} {E:Env} {h:List ABlk}
mutual
def up:AV->AV
 | .ro es n nl c=>.ro es n nl (fun x y=>bif y == es then .emp else up (c x y))
 | .rptr es n i j c=>.rptr es n i j (fun x y=>up (c x y))
 | .agg l=>.agg (upL l)
 | .tup l=>.tup (upL l)
 | .fn f l=>.fn f (upL l)
 | .mfn f l=>.mfn f (upL l)
 | .opt g v=>.opt g (up v)
 | .ptr b es i j=>.ptr b es i j
 | .sl b es i n nl=>.sl b es i n nl
 | .isl b es i j z n=>.isl b es i j z n
 | .csl b es i n c=>.csl b es i n c
 | .top=>.top
 | .bool b=>.bool b
 | .int k n=>.int k n
 | .str s=>.str s
 | .nilp=>.nilp
 | .emp=>.emp
 | .nilf=>.nilf
 | .ub=>.ub
 | .val v=>.val v
 | .mp m=>.mp m
def upL:List AV->List AV
 | []=>[]
 | a::l=>up a::upL l
end
def rsR (m:AV) (es n:Nat) (nl:Bool) (c c':Nat->Nat->AV):AV:=match m with
 | .emp=>.ro es n nl c'
 | _=>match es,n with
  | 0,0=>.ro 0 0 nl c
  | _,_=>.top
mutual
def rs:AV->AV
 | .ro es n nl c=>rsR (c 0 es) es n nl c (fun x y=>bif y == es then .top else rs (c x y))
 | .rptr _ _ _ _ _=>.top
 | .agg l=>.agg (rsL l)
 | .tup l=>.tup (rsL l)
 | .fn f l=>.fn f (rsL l)
 | .mfn f l=>.mfn f (rsL l)
 | .opt g v=>.opt g (rs v)
 | .ptr b es i j=>.ptr b es i j
 | .sl b es i n nl=>.sl b es i n nl
 | .isl b es i j z n=>.isl b es i j z n
 | .csl b es i n c=>.csl b es i n c
 | .top=>.top
 | .bool b=>.bool b
 | .int k n=>.int k n
 | .str s=>.str s
 | .nilp=>.nilp
 | .emp=>.emp
 | .nilf=>.nilf
 | .ub=>.ub
 | .val v=>.val v
 | .mp _=>.top
def rsL:List AV->List AV
 | []=>[]
 | a::l=>rs a::rsL l
end
def upB:ABlk->ABlk
 | .lit e l=>.lit e (upL l)
 | .row e es n c=>.row e es n (fun x y=>bif y == es then .emp else up (c x y))
 | .mapb k m=>.mapb k m
 | .dead=>.dead
def rsB:ABlk->ABlk
 | .lit e l=>.lit e (rsL l)
 | .row e es n c=>.row e es n (fun x y=>bif y == es then .top else rs (c x y))
 | .mapb k m=>.mapb k m
 | .dead=>.dead
def upH (h:List ABlk):List ABlk:=h.map upB
def rsH (h:List ABlk):List ABlk:=h.map rsB
theorem lget {f:AV->AV} {l:List AV} {i:Nat} {a:AV} (ha:(l[i]?).map f=some a):∃ a0,l[i]? = some a0/\f a0=a:=by
 cases hi:l[i]? with
 | none=>rw [hi] at ha;cases ha
 | some a0=>rw [hi] at ha;simp only [Option.map_some,Option.some.injEq] at ha;exact ⟨a0,rfl,ha⟩
theorem upL_get (l:List AV) (i:Nat):(upL l)[i]? = (l[i]?).map up:=by
 induction l generalizing i with
 | nil=>simp [upL]
 | cons a l ih=>cases i<;>simp [upL,ih]
theorem rsL_get (l:List AV) (i:Nat):(rsL l)[i]? = (l[i]?).map rs:=by
 induction l generalizing i with
 | nil=>simp [rsL]
 | cons a l ih=>cases i<;>simp [rsL,ih]
theorem qA (l:List AV):(upL l).length=l.length:=by induction l with
 | nil=>rfl
 | cons a l ih=>simp [upL,ih]
theorem rsL_len (l:List AV):(rsL l).length=l.length:=by induction l with
 | nil=>rfl
 | cons a l ih=>simp [rsL,ih]
theorem dT (l:List AV) (i:Nat):zL (upL l) i=up (zL l i):=by
 induction l generalizing i with
 | nil=>simp [upL,zL,up]
 | cons a l ih=>cases i<;>simp [upL,zL,ih]
theorem jO (i:Nat):∀ h:List ABlk,geth (upH h) i=upB (geth h i):=by
 intro h
 induction h generalizing i with
 | nil=>rfl
 | cons a l ih=>cases i with
  | zero=>rfl
  | succ i=>exact ih i
mutual
theorem up_nref:∀ a:AV,nref a->nref (up a)
 | .ro _ _ _ _,h=>by simp only [up,nref] at *
 | .rptr _ _ _ _ _,h=>by simp only [up,nref] at *
 | .agg l,h=>by simp only [up,nref] at *;exact dU l h
 | .tup l,h=>by simp only [up,nref] at *;exact dU l h
 | .fn _ l,h=>by simp only [up,nref] at *;exact dU l h
 | .mfn _ l,h=>by simp only [up,nref] at *;exact dU l h
 | .opt _ v,h=>by simp only [up,nref] at *;exact up_nref v h
 | .ptr _ _ _ _,h=>by simp only [up];exact h
 | .sl _ _ _ _ _,h=>by simp only [up];exact h
 | .isl _ _ _ _ _ _,h=>by simp only [up];exact h
 | .csl _ _ _ _ _,h=>by simp only [up];exact h
 | .top,h=>by simp only [up];exact h
 | .bool _,h=>by simp only [up];exact h
 | .int _ _,h=>by simp only [up];exact h
 | .str _,h=>by simp only [up];exact h
 | .nilp,h=>by simp only [up];exact h
 | .emp,h=>by simp only [up];exact h
 | .nilf,h=>by simp only [up];exact h
 | .ub,h=>by simp only [up];exact h
 | .val _,h=>by simp only [up];exact h
 | .mp _,h=>by simp only [up];exact h
theorem dU:∀ l:List AV,zX l->zX (upL l)
 | [],_=>by simp only [upL,zX]
 | a::l,h=>by simp only [upL,zX] at *;exact ⟨up_nref a h.1,dU l h.2⟩
end
mutual
theorem rs_nref:∀ a:AV,nref a->nref (rs a)
 | .ro _ _ _ _,h=>by
  simp only [rs,rsR]
  split
  ·simp only [nref]
  ·split<;>simp only [nref]
 | .rptr _ _ _ _ _,h=>by simp only [rs,nref]
 | .agg l,h=>by simp only [rs,nref] at *;exact dM l h
 | .tup l,h=>by simp only [rs,nref] at *;exact dM l h
 | .fn _ l,h=>by simp only [rs,nref] at *;exact dM l h
 | .mfn _ l,h=>by simp only [rs,nref] at *;exact dM l h
 | .opt _ v,h=>by simp only [rs,nref] at *;exact rs_nref v h
 | .ptr _ _ _ _,h=>by simp only [rs];exact h
 | .sl _ _ _ _ _,h=>by simp only [rs];exact h
 | .isl _ _ _ _ _ _,h=>by simp only [rs];exact h
 | .csl _ _ _ _ _,h=>by simp only [rs];exact h
 | .top,h=>by simp only [rs];exact h
 | .bool _,h=>by simp only [rs];exact h
 | .int _ _,h=>by simp only [rs];exact h
 | .str _,h=>by simp only [rs];exact h
 | .nilp,h=>by simp only [rs];exact h
 | .emp,h=>by simp only [rs];exact h
 | .nilf,h=>by simp only [rs];exact h
 | .ub,h=>by simp only [rs];exact h
 | .val _,h=>by simp only [rs];exact h
 | .mp _,h=>by simp only [rs,nref]
theorem dM:∀ l:List AV,zX l->zX (rsL l)
 | [],_=>by simp only [rsL,zX]
 | a::l,h=>by simp only [rsL,zX] at *;exact ⟨rs_nref a h.1,dM l h.2⟩
end
theorem VR_up {E':Env} (hw:E'.w=E.w) (hσ:E'.σ=E.σ) (hp:∀ k,E'.prot k->E.prot k/\Nw E.w E.lo k) {a:AV} {v:Value} (hv:VR E' a v):VR E (up a) v:=by
 induction hv with
 | top v=>simp only [up];exact .top v
 | bool b=>simp only [up];exact .bool b
 | int k n=>simp only [up];exact .int k n
 | str s=>simp only [up];exact .str s
 | nilp=>simp only [up];exact .nilp
 | ptr b es i j k o h=>simp only [up];exact .ptr b es i j k o (by rw [← hσ];exact h)
 | rptr es n i j k o c u hq hu h1 hc hrf ih =>
  simp only [up]
  exact .rptr es n i j k o _ u ⟨(hp k hq.1).1,fun _=>(hp k hq.1).2⟩ (by rw [← hw];exact hu) h1 ih (fun x y hx hy=>up_nref _ (hrf x y hx hy))
 | sl b es i n nl a cap hn hcm hnl hz hc=>simp only [up];exact .sl b es i n nl a cap hn hcm hnl hz (by rw [← hσ,← hw];exact hc)
 | isl b es i j z n cap k o hn hcm h=>simp only [up];exact .isl b es i j z n cap k o hn hcm (by rw [← hσ];exact h)
 | csl b es i n c a hn hcm hc=>simp only [up];exact .csl b es i n c a hn hcm (by rw [← hσ,← hw];exact hc)
 | ro es n nl c a cap hn hcm hnl hz u ha h1 hc hrf ih =>
  simp only [up]
  refine .ro es n nl _ a cap hn hcm hnl ⟨hz.1,fun hn' _ k o hk=>?_⟩ u (fun hn'=>?_) h1 (fun x y hx hy=>?_) (fun x y hx hy=>?_)
  ·obtain ⟨k',o',q1,q2,_⟩:=ha hn'
   rw [hk] at q1;cases q1
   exact (hp _ q2).2
  ·obtain ⟨k,o,q1,q2,q3⟩:=ha hn'
   exact ⟨k,o,q1,(hp k q2).1,by rw [← hw];exact q3⟩
  ·rw [show (y == es)=false from by simp;omega,cond_false];exact ih x y hx hy
  ·rw [show (y == es)=false from by simp;omega,cond_false];exact up_nref _ (hrf x y hx hy)
 | emp a=>simp only [up];exact .emp a
 | agg l vs hl h1 h ih=>simp only [up];exact .agg _ vs (by rw [qA];exact hl) h1 fun i a v ha hv=>(by rw [upL_get] at ha;obtain ⟨a0,hi,rfl⟩:=lget ha;exact ih i a0 v hi hv)
 | tup l vs hl h ih=>simp only [up];exact .tup _ vs (by rw [qA];exact hl) fun i a v ha hv=>(by rw [upL_get] at ha;obtain ⟨a0,hi,rfl⟩:=lget ha;exact ih i a0 v hi hv)
 | fn f l vs hl h ih=>simp only [up];exact .fn f _ vs (by rw [qA];exact hl) fun i a v ha hv=>(by rw [upL_get] at ha;obtain ⟨a0,hi,rfl⟩:=lget ha;exact ih i a0 v hi hv)
 | mfn f l vs hl h ih=>simp only [up];exact .mfn f _ vs (by rw [qA];exact hl) fun i a v ha hv=>(by rw [upL_get] at ha;obtain ⟨a0,hi,rfl⟩:=lget ha;exact ih i a0 v hi hv)
 | nilf=>simp only [up];exact .nilf
 | opt_t a v h ih=>simp only [up];exact .opt_t _ v ih
 | opt_f a=>simp only [up];exact .opt_f _
 | ub b=>simp only [up];exact .ub b
 | val v h1=>simp only [up];exact .val v h1
 | mp m r clock es hq hb he=>simp only [up];exact .mp m r clock es (hp r hq).1 (by rw [← hw];exact hb) he
def Env.rst (E:Env):Env:=⟨E.w,E.σ,fun k=>E.prot k/\Nw E.w E.lo k,fun _=>False⟩
theorem VR_rs {a:AV} {v:Value} (hv:VR E a v):VR E.rst (rs a) v:=by
 induction hv with
 | top v=>simp only [rs];exact .top v
 | bool b=>simp only [rs];exact .bool b
 | int k n=>simp only [rs];exact .int k n
 | str s=>simp only [rs];exact .str s
 | nilp=>simp only [rs];exact .nilp
 | ptr b es i j k o h=>simp only [rs];exact .ptr b es i j k o h
 | rptr es n i j k o c u hq hu h1 hc hrf ih=>simp only [rs];exact .top _
 | sl b es i n nl a cap hn hcm hnl hz hc=>simp only [rs];exact .sl b es i n nl a cap hn hcm hnl hz hc
 | isl b es i j z n cap k o hn hcm h=>simp only [rs];exact .isl b es i j z n cap k o hn hcm h
 | csl b es i n c a hn hcm hc=>simp only [rs];exact .csl b es i n c a hn hcm hc
 | ro es n nl c a cap hn hcm hnl hz u ha h1 hc hrf ih =>
  simp only [rs,rsR]
  split
  ·rename_i he
   have hN:0 < n->∀ k o,a=some ⟨k,o,none⟩->Nw E.w E.lo k:=fun h0 k o hk=>hz.2 h0 ⟨0,he⟩ k o hk
   refine .ro es n nl _ a cap hn hcm hnl ⟨hz.1,fun h0 _ k o hk=>⟨id,(hN h0 k o hk).2⟩⟩ u (fun hn'=>?_) h1 (fun x y hx hy=>?_) (fun x y hx hy=>?_)
   ·obtain ⟨k,o,q1,q2,q3⟩:=ha hn'
    exact ⟨k,o,q1,⟨q2,hN hn' k o q1⟩,q3⟩
   ·rw [show (y == es)=false from by simp;omega,cond_false];exact ih x y hx hy
   ·rw [show (y == es)=false from by simp;omega,cond_false];exact rs_nref _ (hrf x y hx hy)
  ·split
   ·exact .ro 0 0 nl c a cap hn hcm hnl ⟨hz.1,fun h0=>absurd h0 (by omega)⟩ u (fun h0=>absurd h0 (by omega)) h1 (fun x y hx _=>absurd hx (by omega)) (fun x y hx _=>absurd hx (by omega))
   ·exact .top _
 | emp a=>simp only [rs];exact .emp a
 | agg l vs hl h1 h ih=>simp only [rs];exact .agg _ vs (by rw [rsL_len];exact hl) h1 fun i a v ha hv=>(by rw [rsL_get] at ha;obtain ⟨a0,hi,rfl⟩:=lget ha;exact ih i a0 v hi hv)
 | tup l vs hl h ih=>simp only [rs];exact .tup _ vs (by rw [rsL_len];exact hl) fun i a v ha hv=>(by rw [rsL_get] at ha;obtain ⟨a0,hi,rfl⟩:=lget ha;exact ih i a0 v hi hv)
 | fn f l vs hl h ih=>simp only [rs];exact .fn f _ vs (by rw [rsL_len];exact hl) fun i a v ha hv=>(by rw [rsL_get] at ha;obtain ⟨a0,hi,rfl⟩:=lget ha;exact ih i a0 v hi hv)
 | mfn f l vs hl h ih=>simp only [rs];exact .mfn f _ vs (by rw [rsL_len];exact hl) fun i a v ha hv=>(by rw [rsL_get] at ha;obtain ⟨a0,hi,rfl⟩:=lget ha;exact ih i a0 v hi hv)
 | nilf=>simp only [rs];exact .nilf
 | opt_t a v h ih=>simp only [rs];exact .opt_t _ v ih
 | opt_f a=>simp only [rs];exact .opt_f _
 | ub b=>simp only [rs];exact .ub b
 | val v h1=>simp only [rs];exact .val v h1
 | mp m r clock es hq hb he=>simp only [rs];exact .top _
theorem upH_get {b:Nat} {x:ABlk} (hb:(upH h)[b]? = some x):∃ x0,h[b]? = some x0/\upB x0=x:=by
 unfold upH at hb;rw [List.getElem?_map] at hb
 cases hi:h[b]? with
 | none=>rw [hi] at hb;cases hb
 | some a0=>rw [hi] at hb;simp only [Option.map_some,Option.some.injEq] at hb;exact ⟨a0,rfl,hb⟩
theorem rsH_get {b:Nat} {x:ABlk} (hb:(rsH h)[b]? = some x):∃ x0,h[b]? = some x0/\rsB x0=x:=by
 unfold rsH at hb;rw [List.getElem?_map] at hb
 cases hi:h[b]? with
 | none=>rw [hi] at hb;cases hb
 | some a0=>rw [hi] at hb;simp only [Option.map_some,Option.some.injEq] at hb;exact ⟨a0,rfl,hb⟩
theorem upB_nd {x:ABlk} (h:upB x ≠ .dead):x ≠ .dead:=by rintro rfl;exact h rfl
theorem rsB_nd {x:ABlk} (h:rsB x ≠ .dead):x ≠ .dead:=by rintro rfl;exact h rfl
theorem upH_own {E E':Env} (hσ:E'.σ=E.σ) {k:Nat} (ho:Own E (upH h) k):Own E' h k:=by
 obtain ⟨b,x,o,h1,h2,h3⟩:=ho
 obtain ⟨x0,g1,rfl⟩:=upH_get h1
 exact ⟨b,x0,o,g1,upB_nd h2,by rw [hσ];exact h3⟩
theorem rsH_own {E E':Env} (hσ:E'.σ=E.σ) {k:Nat} (ho:Own E (rsH h) k):Own E' h k:=by
 obtain ⟨b,x,o,h1,h2,h3⟩:=ho
 obtain ⟨x0,g1,rfl⟩:=rsH_get h1
 exact ⟨b,x0,o,g1,rsB_nd h2,by rw [hσ];exact h3⟩
theorem BR_up {E':Env} (hw:E'.w=E.w) (hσ:E'.σ=E.σ) (hp:∀ k,E'.prot k->E.prot k/\Nw E.w E.lo k) {b:Nat} {x:ABlk} (hb:BR E' b x):BR E b (upB x):=by
 cases x with
 | dead=>trivial
 | mapb k m=>unfold upB;unfold BR at hb ⊢;rw [← hσ,← hw];exact hb
 | lit e l =>
  obtain ⟨k,o,cs,h1,h2,h3,h4⟩:=hb
  refine ⟨k,o,cs,by rw [← hσ];exact h1,by rw [← hw];exact h2,by rw [qA];exact h3,fun j a ha=>?_⟩
  rw [upL_get] at ha
  obtain ⟨a0,hi,rfl⟩:=lget ha
  obtain ⟨v,q1,q2,q3⟩:=h4 j a0 hi
  exact ⟨v,q1,q2,VR_up hw hσ hp q3⟩
 | row e es n c =>
  unfold upB;unfold BR at hb ⊢;rw [← hσ]
  cases hs:E'.σ b with
  | none=>rw [hs] at hb;exact hb
  | some q =>
   obtain ⟨k,o⟩:=q
   rw [hs] at hb
   obtain ⟨cs,h1,h2,h3⟩:=hb
   refine ⟨cs,by rw [← hw];exact h1,h2,fun x y hx hy=>?_⟩
   obtain ⟨v,q1,q2,q3⟩:=h3 x y hx hy
   refine ⟨v,q1,q2,?_⟩
   show VR _ (bif y == es then _ else _) v
   rw [show (y == es)=false from by simp;omega,cond_false];exact VR_up hw hσ hp q3
theorem BR_rs {b:Nat} {x:ABlk} (hb:BR E b x):BR E.rst b (rsB x):=by
 cases x with
 | dead=>trivial
 | mapb k m=>exact hb
 | lit e l =>
  obtain ⟨k,o,cs,h1,h2,h3,h4⟩:=hb
  refine ⟨k,o,cs,h1,h2,by rw [rsL_len];exact h3,fun j a ha=>?_⟩
  rw [rsL_get] at ha
  obtain ⟨a0,hi,rfl⟩:=lget ha
  obtain ⟨v,q1,q2,q3⟩:=h4 j a0 hi
  exact ⟨v,q1,q2,VR_rs q3⟩
 | row e es n c =>
  unfold rsB;unfold BR at hb ⊢
  show match E.σ b with
   | none=>n=0
   | some (k,o)=>_
  cases hs:E.σ b with
  | none=>rw [hs] at hb;exact hb
  | some q =>
   obtain ⟨k,o⟩:=q
   rw [hs] at hb
   obtain ⟨cs,h1,h2,h3⟩:=hb
   refine ⟨cs,h1,h2,fun x y hx hy=>?_⟩
   obtain ⟨v,q1,q2,q3⟩:=h3 x y hx hy
   refine ⟨v,q1,q2,?_⟩
   show VR _ (bif y == es then _ else _) v
   rw [show (y == es)=false from by simp;omega,cond_false];exact VR_rs q3
theorem HR_rs (H:HR E h):HR E.rst (rsH h):=by
 refine ⟨fun b x hb=>?_,fun b b' x x' k o o' h1 h2 h3 h4 h5 h6=>?_,fun k hk=>⟨(H.prot k hk.1).1,fun ho=>(H.prot k hk.1).2 (rsH_own (E:=E.rst) (E':=E) rfl ho)⟩,fun b hb=>H.fresh b (by unfold rsH at hb;rwa [List.length_map] at hb),fun k hk=>hk.elim⟩
 ·obtain ⟨x0,g1,rfl⟩:=rsH_get hb
  exact BR_rs (H.blk b x0 g1)
 ·obtain ⟨x0,g1,rfl⟩:=rsH_get h1
  obtain ⟨x1,g3,rfl⟩:=rsH_get h3
  exact H.inj b b' x0 x1 k o o' g1 (rsB_nd h2) g3 (rsB_nd h4) h5 h6
theorem FR_rs {t:List AV} {vs:Array Value} (F:FR E t vs):FR E.rst (rsL t) vs:=by
 refine ⟨by rw [rsL_len];exact F.1,fun i a v ha hv=>?_⟩
 rw [rsL_get] at ha
 obtain ⟨a0,hi,rfl⟩:=lget ha
 exact VR_rs (F.2 i a0 v hi hv)
theorem back {h1:List ABlk} {E1:Env} (H:HR E h) (X:Ext E.rst (rsH h) E1 h1) (H1:HR E1 h1) :
  ∃ E2:Env,E2.w=E1.w/\Ext E h E2 (upH h1)/\HR E2 (upH h1)/\∀ a v,VR E1 a v->VR E2 (up a) v:=by
 let E2:Env:=⟨E1.w,E1.σ,fun k=>E1.prot k ∨ E.prot k,E.lo⟩
 have ow:∀ k,Own E.rst (rsH h) k->Own E h k:=fun k hk=>rsH_own (E:=E.rst) (E':=E) rfl hk
 have ow2:∀ k,Own E2 (upH h1) k->Own E h k ∨ E.w.heap.size <= k:=fun k hk=>(X.own k (upH_own (E:=E2) (E':=E1) rfl hk)).imp (ow k) id
 have nw:∀ k,E1.prot k->E2.prot k/\Nw E2.w E2.lo k:=fun k hk=>by
  refine ⟨.inl hk,?_,?_⟩
  ·intro hl
   rcases X.pro k hk with q|q|q
   ·exact q.2.1 hl
   ·exact (H.prot k (H.lo k hl)).2 (ow k q)
   ·have:=(H.prot k (H.lo k hl)).1
    have q:E.w.heap.size <= k:=q
    omega
  ·rcases X.wr k hk with q|⟨cs,e,q⟩
   ·obtain ⟨cs,e,q1⟩:=q.2.2
    obtain ⟨cs',q2,_⟩:=X.kind k cs e q1
    exact ⟨cs',e,q2⟩
   ·exact ⟨cs,e,q⟩
 refine ⟨E2,rfl,⟨X.os,X.tape,X.output,X.σ,fun k hk=>.inr hk,X.size,X.kind,fun k hk hn=>X.frame k hk fun ho=>hn (ow k ho),ow2,?_,fun b hb=>X.old b (by unfold rsH;rwa [List.length_map]),fun k hk=>?_,rfl,fun k hk=>?_⟩,⟨fun b x hb=>?_,fun b b' x x' k o o' g1 g2 g3 g4 g5 g6=>?_,fun k hk=>?_,fun b hb=>H1.fresh b (by unfold upH at hb;rwa [List.length_map] at hb),fun k hk=>.inr (H.lo k hk)⟩,fun a v hv=>VR_up (E:=E2) (E':=E1) rfl rfl nw hv⟩
 ·have:=X.len
  unfold rsH at this;unfold upH;rw [List.length_map] at this ⊢;exact this
 ·rcases hk with hk|hk
  ·rcases X.pro k hk with q|q|q
   ·exact .inl q.1
   ·exact .inr (.inl (ow k q))
   ·exact .inr (.inr q)
  ·exact .inl hk
 ·rcases hk with hk|hk
  ·exact (X.wr k hk).imp (fun q=>q.1) id
  ·exact .inl hk
 ·obtain ⟨x0,g1,rfl⟩:=upH_get hb
  exact BR_up (E:=E2) (E':=E1) rfl rfl nw (H1.blk b x0 g1)
 ·obtain ⟨x0,q1,rfl⟩:=upH_get g1
  obtain ⟨x1,q3,rfl⟩:=upH_get g3
  exact H1.inj b b' x0 x1 k o o' q1 (upB_nd g2) q3 (upB_nd g4) g5 g6
 ·rcases hk with hk|hk
  ·exact ⟨(H1.prot k hk).1,fun ho=>(H1.prot k hk).2 (upH_own (E:=E2) (E':=E1) rfl ho)⟩
  ·refine ⟨Nat.lt_of_lt_of_le (H.prot k hk).1 X.size,fun ho=>?_⟩
   rcases ow2 k ho with q|q
   ·exact (H.prot k hk).2 q
   ·have:=(H.prot k hk).1;omega
theorem reb0 {c:Code} {K K':Kt} {t:List AV} (hK:∀ e t h,K' e t h->K e (upL t) (upH h)) (hm:Mean P c K' (rsL t) (rsH h)):Mean P c K t h:=by
 intro E a Q H F hd hQ
 refine hm E.rst a Q (HR_rs H) (FR_rs F) hd fun e E1 a' t1 h1 hk X H1 F1 hd'=>?_
 obtain ⟨E2,g1,g2,g3,g4⟩:=back H X H1
 rw [← g1]
 refine hQ e E2 a' (upL t1) (upH h1) (hK e t1 h1 hk) g2 g3 ⟨by rw [qA];exact F1.1,fun i a v ha hv=>?_⟩ hd'
 rw [upL_get] at ha
 obtain ⟨a0,hi,rfl⟩:=lget ha
 exact g4 a0 v (F1.2 i a0 v hi hv)

theorem up_emp {a:AV} (h:up a = .emp):a = .emp:=by cases a<;>simp only [up,reduceCtorEq] at h ⊢
theorem up_optOk (a:AV):optOk (up a) ↔ optOk a:=by cases a<;>simp only [up,optOk]
theorem up_strip (a:AV):strip (up a)=up (strip a):=by cases a<;>simp only [up,strip]
theorem tabF_up {f g:Nat->AV} (m:Nat):∀ k,(∀ q,k <= q->q < k+m->g q=up (f q))->tabF g k m=upL (tabF f k m):=by
 induction m with
 | zero=>intro k _;rfl
 | succ m ih=>intro k hq;simp only [tabF,upL];rw [hq k (Nat.le_refl _) (by omega),ih (k+1) fun q h1 h2=>hq q (by omega) (by omega)]
theorem ldB_up {x:ABlk} {ag:Bool} {m es i j:Nat} {ob:Prop} {v:AV} (hr:ldB x ag m es i j = .pure ob v) (ho:ob):∃ ob',ldB (upB x) ag m es i j = .pure ob' (up v)/\ob':=by
 cases x with
 | dead=>cases hr
 | mapb _ _=>cases hr
 | lit e l =>
  cases ag
  ·simp only [ldB,cond_false,AR.pure.injEq] at hr
   obtain ⟨rfl,rfl⟩:=hr
   exact ⟨i * es+j < (upL l).length,by simp only [upB,ldB,cond_false,dT],by rw [qA];exact ho⟩
  ·simp only [ldB,cond_true,AR.pure.injEq] at hr
   obtain ⟨rfl,rfl⟩:=hr
   refine ⟨i * es+j+m <= (upL l).length,by simp only [upB,ldB,cond_true,up];rw [tabF_up (f:=zL l) (g:=zL (upL l)) m _ fun q _ _=>dT l q],by rw [qA];exact ho⟩
 | row e es' n c =>
  cases ag
  ·simp only [ldB,cond_false,AR.pure.injEq] at hr
   obtain ⟨rfl,rfl⟩:=hr
   refine ⟨es'=es/\i < n/\j < es,by simp only [upB,ldB,cond_false];rw [show (j == es')=false from by simp;omega,cond_false],ho⟩
  ·simp only [ldB,cond_true,AR.pure.injEq] at hr
   obtain ⟨rfl,rfl⟩:=hr
   refine ⟨es'=es/\i < n/\j+m <= es,by simp only [upB,ldB,cond_true,up];rw [tabF_up (f:=c i) m j fun q h1 h2=>by rw [show (q == es')=false from by simp;omega,cond_false]],ho⟩
theorem resA_up {t:List AV} {r:ResultVar} {ob:Prop} {v:AV} (hr:resA P t h r = .pure ob v) (ho:ob):∃ ob',resA P (upL t) (upH h) r = .pure ob' (up v)/\ob':=by
 cases r with
 | tmp i =>
  simp only [resA,AR.pure.injEq] at hr
  obtain ⟨rfl,rfl⟩:=hr
  exact ⟨_,by simp only [resA,dT,up_strip],(up_optOk _).2 ho⟩
 | cell c ty =>
  simp only [resA] at hr
  unfold resC at hr
  split at hr
  ·rename_i b es i j hc
   have h2:zL (upL t) c = .ptr b es i j:=by rw [dT,hc];simp only [up]
   simp only [resA,resC,h2]
   revert hr
   unfold jT
   cases tagg P ty with
   | none=>intro hr;cases hr
   | some ag=>cases tsz P ty with
    | none=>intro hr;cases hr
    | some m =>
     intro hr
     simp only at hr ⊢
     rw [jO]
     cases hl:ldB (geth h b) ag m es i j with
     | fail=>rw [hl] at hr;cases hr
     | heap _ _ _=>rw [hl] at hr;cases hr
     | pure o1 v1 =>
      rw [hl] at hr
      simp only [pO,AR.pure.injEq] at hr
      obtain ⟨rfl,rfl⟩:=hr
      obtain ⟨o2,g1,g2⟩:=ldB_up hl ho
      exact ⟨o2,by rw [g1];rfl,g2⟩
  ·cases hr
theorem resL_up {t:List AV}:∀ {rs:List ResultVar} {ob:Prop} {v:AV},resL P t h rs = .pure ob v->ob->∃ ob',resL P (upL t) (upH h) rs = .pure ob' (up v)/\ob':=by
 intro rs
 induction rs with
 | nil=>intro ob v hr ho;simp only [resL,AR.pure.injEq] at hr;obtain ⟨rfl,rfl⟩:=hr;exact ⟨True,by simp only [resL,up,upL],trivial⟩
 | cons r rs ih =>
  intro ob v hr ho
  simp only [resL] at hr ⊢
  cases h1:resA P t h r with
  | heap _ _ _=>rw [h1] at hr;cases hr
  | fail=>rw [h1] at hr;cases hr
  | pure o1 v1=>cases h2:resL P t h rs with
   | heap _ _ _=>rw [h1,h2] at hr;cases hr
   | fail=>rw [h1,h2] at hr;cases hr
   | pure o2 v2 =>
    rw [h1,h2] at hr
    cases v2<;>simp only [resCons,AR.pure.injEq,reduceCtorEq] at hr
    obtain ⟨rfl,rfl⟩:=hr
    obtain ⟨p1,g1,g2⟩:=resA_up h1 ho.1
    obtain ⟨p2,g3,g4⟩:=ih h2 ho.2
    rw [g1,g3]
    exact ⟨p1/\p2,by simp only [up,resCons,upL],g2,g4⟩
theorem resFin_up {R R':AV->List ABlk->Prop} (hR:∀ v,R' v h->R (up v) (upH h)) {A B:AR} (hAB:∀ ob v,A = .pure ob v->ob->∃ ob',B = .pure ob' (up v)/\ob') (hf:resFin R' h A):resFin R (upH h) B:=by
 cases A with
 | fail=>exact hf.elim
 | heap _ _ _=>exact hf.elim
 | pure ob v =>
  obtain ⟨ob',rfl,ho⟩:=hAB ob v rfl hf.1
  exact ⟨ho,hR v hf.2⟩
theorem retK_up {rs:List ResultVar} {R R':AV->List ABlk->Prop} {t:List AV} (hR:∀ v,R' v h->R (up v) (upH h)) (hk:cV P rs R' t h):cV P rs R (upL t) (upH h):=by
 unfold cV at hk ⊢
 split at hk
 ·exact resFin_up hR (fun ob v a b=>resA_up a b) hk
 ·exact resFin_up hR (fun ob v a b=>resL_up a b) hk
theorem kRet_up {rs:List ResultVar} {R R':AV->List ABlk->Prop} (hR:∀ v h,R' v h->R (up v) (upH h)) (e:Ex) (t:List AV) (h:List ABlk) (hk:kY P rs R' e t h):kY P rs R e (upL t) (upH h):=by
 cases e with
 | normal=>exact retK_up (hR · h) hk
 | ret=>exact retK_up (hR · h) hk
 | exit _=>exact hk.elim
 | goto _=>exact hk.elim
theorem rowOb_up {es i n:Nat} {x:ABlk} (ho:vR es i n x):vR es i n (upB x):=by
 cases x with
 | row e es' N c =>
  obtain ⟨rfl,h2,h3⟩:=ho
  exact ⟨rfl,h2,fun x y hx hy=>by show nref (bif y == es' then _ else _);rw [show (y == es')=false from by simp;omega,cond_false];exact up_nref _ (h3 x y hx hy)⟩
 | lit _ _=>trivial
 | mapb _ _=>trivial
 | dead=>trivial
mutual
theorem fzOb_up {fz:List Nat}:∀ a:AV,yL h fz a->yL (upH h) fz (up a)
 | .ptr b es i j,ho=>by
  simp only [up,yL] at *
  cases hb:inL b fz with
  | false=>trivial
  | true =>
   rw [hb] at ho
   simp only [cond_true] at ho ⊢
   rw [jO]
   cases hg:geth h b with
   | lit e l=>rw [hg] at ho;exact dU l ho
   | row e es' n c=>rw [hg] at ho;exact ⟨ho.1,fun x y hx hy=>by
     show nref (bif y == es' then _ else _)
     rw [show (y == es')=false from by have:=ho.1;simp;omega,cond_false];exact up_nref _ (ho.2 x y hx hy)⟩
   | mapb _ _=>trivial
   | dead=>trivial
 | .sl b es i n nl,ho=>by
  simp only [up,yL] at *
  cases hb:inL b fz with
  | false=>trivial
  | true=>rw [hb] at ho;rw [jO];exact rowOb_up ho
 | .csl b es i n c,ho=>by
  simp only [up,yL] at *
  cases hb:inL b fz with
  | false=>trivial
  | true=>rw [hb] at ho;rw [jO];exact rowOb_up ho
 | .isl b es i j z n,ho=>by simp only [up,yL] at *;exact ho
 | .agg l,ho=>by simp only [up,yL] at *;exact dA l ho
 | .tup l,ho=>by simp only [up,yL] at *;exact dA l ho
 | .fn _ l,ho=>by simp only [up,yL] at *;exact dA l ho
 | .mfn _ l,ho=>by simp only [up,yL] at *;exact dA l ho
 | .opt _ v,ho=>by simp only [up,yL] at *;exact fzOb_up v ho
 | .rptr _ _ _ _ _,_=>by simp only [up,yL]
 | .ro _ _ _ _,_=>by simp only [up,yL]
 | .top,_=>by simp only [up,yL]
 | .bool _,_=>by simp only [up,yL]
 | .int _ _,_=>by simp only [up,yL]
 | .str _,_=>by simp only [up,yL]
 | .nilp,_=>by simp only [up,yL]
 | .emp,_=>by simp only [up,yL]
 | .nilf,_=>by simp only [up,yL]
 | .ub,_=>by simp only [up,yL]
 | .val _,_=>by simp only [up,yL]
 | .mp _,_=>by simp only [up,yL]
theorem dA {fz:List Nat}:∀ l:List AV,vO h fz l->vO (upH h) fz (upL l)
 | [],_=>by simp only [upL,vO]
 | a::l,ho=>by simp only [upL,vO] at *;exact ⟨fzOb_up a ho.1,dA l ho.2⟩
end
theorem fzObH_up {fz:List Nat} (g:List ABlk) (ho:uT h fz g):uT (upH h) fz (upH g):=by
 induction g with
 | nil=>trivial
 | cons x l ih =>
  refine ⟨?_,ih ho.2⟩
  have h1:=ho.1
  cases x with
  | lit e l=>exact dA l h1
  | row _ _ _ _=>trivial
  | mapb _ _=>trivial
  | dead=>trivial
theorem Cv_ro {μ:Mu} {w:AV} {es n:Nat} {nl:Bool} {c c':Nat->Nat->AV} (hc:∀ x y,x < n->y < es->c x y=c' x y) (hf:Fl es c->Fl es c') (h:Cv μ w (.ro es n nl c)):Cv μ w (.ro es n nl c'):=by
 cases w<;>simp only [Cv] at h ⊢
 case ro es1 n1 nl1 c1 =>
  obtain ⟨h1,rfl,h3,h4,h5⟩:=h
  refine ⟨h1,rfl,h3,?_,fun x y hx hy=>?_⟩
  ·rcases h1 with h1|rfl
   ·exact .inl h1
   ·exact h4.imp id fun q r=>hf (q r)
  ·rcases h1 with h1|rfl
   ·omega
   ·rw [h5 x y hx hy,hc x y hx hy]
 all_goals exact h
theorem Cv_rp {μ:Mu} {w:AV} {es n i j:Nat} {c c':Nat->Nat->AV} (hc:∀ x y,x < n->y < es->c x y=c' x y) (hf:Fl es c->Fl es c') (h:Cv μ w (.rptr es n i j c)):Cv μ w (.rptr es n i j c'):=by
 cases w<;>simp only [Cv] at h ⊢
 case rptr es1 n1 i1 j1 c1 =>
  obtain ⟨rfl,rfl,rfl,rfl,h4,h5⟩:=h
  exact ⟨rfl,rfl,rfl,rfl,fun q=>hf (h4 q),fun x y hx hy=>by rw [h5 x y hx hy,hc x y hx hy]⟩
mutual
theorem Cv_up {μ:Mu}:∀ (a b:AV),Cv μ a b->Cv μ (up a) (up b)
 | .ro es n nl c,b,hc=>by
  cases b<;>simp only [Cv,up] at hc ⊢
  obtain ⟨h1,rfl,h3,_,h5⟩:=hc
  refine ⟨h1,rfl,h3,?_,fun x y hx hy=>?_⟩
  ·rcases h1 with h1|rfl
   ·exact .inl h1
   ·exact .inr fun _=>⟨0,by simp⟩
  ·rcases h1 with h1|rfl
   ·omega
   ·rw [show (y == es)=false from by simp;omega,cond_false,cond_false,h5 x y hx hy]
 | .rptr es n i j c,b,hc=>by
  cases b<;>simp only [Cv,up] at hc ⊢
  obtain ⟨rfl,rfl,rfl,rfl,h4,h5⟩:=hc
  refine ⟨rfl,rfl,rfl,rfl,fun ⟨x,q⟩=>?_,fun x y hx hy=>by rw [h5 x y hx hy]⟩
  obtain ⟨x',q'⟩:=h4 ⟨x,up_emp q⟩
  exact ⟨x',by simp only [q',up]⟩
 | .agg l,b,hc=>by cases b<;>simp only [Cv,up] at hc ⊢;exact CvL_up _ _ hc
 | .tup l,b,hc=>by cases b<;>simp only [Cv,up] at hc ⊢;exact CvL_up _ _ hc
 | .fn _ l,b,hc=>by cases b<;>simp only [Cv,up] at hc ⊢;exact ⟨hc.1,CvL_up _ _ hc.2⟩
 | .mfn _ l,b,hc=>by cases b<;>simp only [Cv,up] at hc ⊢;exact ⟨hc.1,CvL_up _ _ hc.2⟩
 | .opt _ v,b,hc=>by cases b<;>simp only [Cv,up] at hc ⊢;exact ⟨hc.1,fun q=>Cv_up _ _ (hc.2 q)⟩
 | .sl _ _ _ _ _,b,hc=>by cases b<;>simp only [Cv,up] at hc ⊢<;>exact hc
 | .ptr _ _ _ _,b,hc=>by cases b<;>simp only [Cv,up] at hc ⊢<;>exact hc
 | .isl _ _ _ _ _ _,b,hc=>by cases b<;>simp only [Cv,up] at hc ⊢<;>exact hc
 | .csl _ _ _ _ _,b,hc=>by cases b<;>simp only [Cv,up] at hc ⊢<;>exact hc
 | .top,b,hc=>by simp only [Cv,up]
 | .bool _,b,hc=>by cases b<;>simp only [Cv,up] at hc ⊢<;>exact hc
 | .int _ _,b,hc=>by cases b<;>simp only [Cv,up] at hc ⊢<;>exact hc
 | .str _,b,hc=>by cases b<;>simp only [Cv,up] at hc ⊢<;>exact hc
 | .nilp,b,hc=>by cases b<;>simp only [Cv,up] at hc ⊢
 | .emp,b,hc=>by cases b<;>simp only [Cv,up] at hc ⊢
 | .nilf,b,hc=>by cases b<;>simp only [Cv,up] at hc ⊢
 | .ub,b,hc=>by cases b<;>simp only [Cv,up] at hc ⊢
 | .val _,b,hc=>by cases b<;>simp only [Cv,up] at hc ⊢<;>exact hc
 | .mp _,b,hc=>by cases b<;>simp only [Cv,up] at hc ⊢<;>exact hc
theorem CvL_up {μ:Mu}:∀ (l m:List AV),CvL μ l m->CvL μ (upL l) (upL m)
 | [],m,hc=>by cases m<;>simp only [CvL,upL] at hc ⊢
 | a::l,m,hc=>by cases m<;>simp only [CvL,upL] at hc ⊢;exact ⟨Cv_up _ _ hc.1,CvL_up _ _ hc.2⟩
end
mutual
theorem Cf_up {μ:Mu} {fz:List Nat}:∀ (a w:AV),yL h fz a->Cv μ w (up (fzV h fz a))->Cv μ w (fzV (upH h) fz (up a))
 | .ptr b es i j,w,ho,hc=>by
  simp only [up,fzV,yL] at *
  cases hb:inL b fz with
  | false=>rw [hb] at hc;simpa only [cond_false,up] using hc
  | true =>
   rw [hb] at ho hc
   simp only [cond_true] at ho hc ⊢
   rw [jO]
   cases hg:geth h b with
   | lit e l=>rw [hg] at hc;simp only [upB,up,qA,dT] at hc ⊢;exact hc
   | row e es' n c =>
    rw [hg] at hc ho;simp only [upB,up] at hc ⊢
    exact Cv_rp (fun x y hx hy=>by rw [show (y == es')=false from by simp;omega,cond_false]) (fun _=>⟨0,by simp⟩) hc
   | mapb _ _=>rw [hg] at hc;simp only [upB,up] at hc ⊢;exact hc
   | dead=>rw [hg] at hc;simp only [upB,up] at hc ⊢;exact hc
 | .sl b es i n nl,w,ho,hc=>by
  simp only [up,fzV,yL] at *
  cases hb:inL b fz with
  | false=>rw [hb] at hc;simpa only [cond_false,up] using hc
  | true =>
   rw [hb] at ho hc
   simp only [cond_true] at ho hc ⊢
   rw [jO]
   cases hg:geth h b with
   | row e es' N c =>
    rw [hg] at hc ho;simp only [upB,up] at hc ⊢
    obtain ⟨rfl,_,_⟩:=ho
    exact Cv_ro (fun x y hx hy=>by simp only [wL]) (fun _=>⟨0,by simp only [wL,beq_self_eq_true,cond_true]⟩) hc
   | lit _ _=>rw [hg] at hc;simp only [upB,up] at hc ⊢;exact hc
   | mapb _ _=>rw [hg] at hc;simp only [upB,up] at hc ⊢;exact hc
   | dead=>rw [hg] at hc;simp only [upB,up] at hc ⊢;exact hc
 | .csl b es i n cp,w,ho,hc=>by
  simp only [up,fzV,yL] at *
  cases hb:inL b fz with
  | false=>rw [hb] at hc;simpa only [cond_false,up] using hc
  | true =>
   rw [hb] at ho hc
   simp only [cond_true] at ho hc ⊢
   rw [jO]
   cases hg:geth h b with
   | row e es' N c =>
    rw [hg] at hc ho;simp only [upB,up] at hc ⊢
    obtain ⟨rfl,_,_⟩:=ho
    exact Cv_ro (fun x y hx hy=>by simp only [wL]) (fun _=>⟨0,by simp only [wL,beq_self_eq_true,cond_true]⟩) hc
   | lit _ _=>rw [hg] at hc;simp only [upB,up] at hc ⊢;exact hc
   | mapb _ _=>rw [hg] at hc;simp only [upB,up] at hc ⊢;exact hc
   | dead=>rw [hg] at hc;simp only [upB,up] at hc ⊢;exact hc
 | .isl b es i j z n,w,ho,hc=>by
  simp only [up,fzV,yL] at *
  cases hb:inL b fz with
  | false=>rw [hb] at hc;simpa only [cond_false,up] using hc
  | true=>rw [hb] at ho;exact (show False from ho).elim
 | .agg l,w,ho,hc=>by simp only [up,fzV,yL] at *;cases w<;>simp only [Cv] at hc ⊢;exact CfL_up l _ ho hc
 | .tup l,w,ho,hc=>by simp only [up,fzV,yL] at *;cases w<;>simp only [Cv] at hc ⊢;exact CfL_up l _ ho hc
 | .fn _ l,w,ho,hc=>by simp only [up,fzV,yL] at *;cases w<;>simp only [Cv] at hc ⊢;exact ⟨hc.1,CfL_up l _ ho hc.2⟩
 | .mfn _ l,w,ho,hc=>by simp only [up,fzV,yL] at *;cases w<;>simp only [Cv] at hc ⊢;exact ⟨hc.1,CfL_up l _ ho hc.2⟩
 | .opt _ v,w,ho,hc=>by simp only [up,fzV,yL] at *;cases w<;>simp only [Cv] at hc ⊢;exact ⟨hc.1,fun q=>Cf_up v _ ho (hc.2 q)⟩
 | .rptr _ _ _ _ _,w,_,hc=>by simp only [up,fzV] at *;exact hc
 | .ro _ _ _ _,w,_,hc=>by simp only [up,fzV] at *;exact hc
 | .top,w,_,hc=>by simp only [up,fzV] at *;exact hc
 | .bool _,w,_,hc=>by simp only [up,fzV] at *;exact hc
 | .int _ _,w,_,hc=>by simp only [up,fzV] at *;exact hc
 | .str _,w,_,hc=>by simp only [up,fzV] at *;exact hc
 | .nilp,w,_,hc=>by simp only [up,fzV] at *;exact hc
 | .emp,w,_,hc=>by simp only [up,fzV] at *;exact hc
 | .nilf,w,_,hc=>by simp only [up,fzV] at *;exact hc
 | .ub,w,_,hc=>by simp only [up,fzV] at *;exact hc
 | .val _,w,_,hc=>by simp only [up,fzV] at *;exact hc
 | .mp _,w,_,hc=>by simp only [up,fzV] at *;exact hc
theorem CfL_up {μ:Mu} {fz:List Nat}:∀ (l w:List AV),vO h fz l->CvL μ w (upL (fzL h fz l))->CvL μ w (fzL (upH h) fz (upL l))
 | [],w,_,hc=>by simp only [upL,fzL] at *;exact hc
 | a::l,w,ho,hc=>by
  simp only [upL,fzL,vO] at *
  cases w<;>simp only [CvL] at hc ⊢
  exact ⟨Cf_up a _ ho.1 hc.1,CfL_up l _ ho.2 hc.2⟩
end
theorem CvB_up {μ:Mu} {fz:List Nat} {x z:ABlk} {m:Option Nat} (ho:bC h fz z) (hc:CvB μ x m (fzB h fz z)):CvB μ (upB x) m (fzB (upH h) fz (upB z)):=by
 cases x with
 | dead=>simp only [upB,CvB]
 | mapb k q=>cases m<;>cases z<;>simp only [CvB,fzB,upB] at hc ⊢<;>exact hc
 | lit e l =>
  cases m<;>cases z<;>simp only [CvB,fzB,upB] at hc ⊢
  exact ⟨hc.1,CfL_up _ _ ho (CvL_up _ _ hc.2)⟩
 | row e es n c =>
  cases m<;>cases z<;>simp only [CvB,fzB,upB] at hc ⊢<;>try exact hc
  obtain ⟨rfl,rfl,h3,h4⟩:=hc
  refine ⟨rfl,rfl,h3,fun x y hx hy=>?_⟩
  rw [show (y == es)=false from by simp;omega,cond_false,cond_false]
  exact Cv_up _ _ (h4 x y hx hy)
theorem geth_fzHF {fz:List Nat} (g:List ABlk):∀ (b i:Nat),geth (fzHF h fz b g) i=bif inL (b+i) fz then .dead else fzB h fz (geth g i):=by
 induction g with
 | nil=>intro b i;cases inL (b+i) fz<;>rfl
 | cons x l ih =>
  intro b i
  cases i with
  | zero=>rfl
  | succ i=>simp only [fzHF,geth];rw [ih,show b+1+i=b+(i+1) from by omega]
theorem fzObH_geth {fz:List Nat} (g:List ABlk) (ho:uT h fz g):∀ i,bC h fz (geth g i):=by
 induction g with
 | nil=>intro i;trivial
 | cons x l ih=>intro i;cases i with
  | zero=>exact ho.1
  | succ i=>exact ih ho.2 i
theorem CvH_up {μ:Mu} {fz:List Nat} (ho:uT h fz h):∀ (ns:List ABlk) (ν:Mu),CvH μ (fzH h fz) ns ν->CvH μ (fzH (upH h) fz) (upH ns) ν
 | [],[],_=>trivial
 | [],_::_,hc=>hc.elim
 | _::_,[],hc=>hc.elim
 | x::l,m::ms,hc=>by
  refine ⟨?_,CvH_up ho l ms hc.2⟩
  have h1:=hc.1
  cases m with
  | none=>exact CvB_up (h:=h) (fz:=fz) (z:=.dead) trivial h1
  | some a =>
   simp only [yN,fzH] at h1 ⊢
   rw [geth_fzHF,Nat.zero_add] at h1 ⊢
   rw [jO]
   cases hb:inL a fz with
   | true=>rw [hb] at h1;exact CvB_up (h:=h) (fz:=fz) (z:=.dead) trivial h1
   | false=>rw [hb] at h1;exact CvB_up (fzObH_geth h ho a) h1
theorem liveM_up:∀ (ms:Mu) (l:List ABlk),kK ms (upH l)=kK ms l
 | [],l=>by cases l with
  | nil=>rfl
  | cons x l=>cases x<;>rfl
 | _::_,[]=>rfl
 | m::ms,x::l=>by
  have ih:=liveM_up ms l
  cases x<;>simp only [upH,List.map_cons,upB,kK] at ih ⊢<;>rw [ih]
theorem RetG_up {v v':AV} {ns h:List ABlk} (hr:bL v ns v' h):bL (up v) (upH ns) (up v') (upH h):=by
 obtain ⟨fz,h1,h2,ν,h3,h4,h5⟩:=hr
 exact ⟨fz,fzOb_up _ h1,fzObH_up _ h2,ν,Cf_up _ _ h1 (Cv_up _ _ h3),CvH_up h2 _ _ h4,by rw [liveM_up];exact h5⟩
theorem reb {c:Code} {rs':List ResultVar} {v:AV} {ns:List ABlk} {t:List AV} (hm:Mean P c (kY P rs' (bL v ns)) (rsL t) (rsH h)):Mean P c (kY P rs' (bL (up v) (upH ns))) t h :=
 reb0 (fun e t h hk=>kRet_up (fun _ _=>RetG_up) e t h hk) hm
end Go.Am

/-
  The abstract machine, text 6: one abstract state that says no more than another, the own blocks numbered anew. loops whose rounds make memory; loops of a known number of rounds. contracts of functions that read their arguments and return memory of their own.
-/
import Derived.Test.YtefiemaoacmdkaaPm5
import Derived.LoopN
namespace Go.Am
set_option linter.unusedVariables false
variable {P:Program} {E:Env} {h:List ABlk}

abbrev Mu:=List (Option Nat)
def zQ:Mu->Nat->Option Nat
 | [],_=>none
 | a::_,0=>a
 | _::l,n+1=>zQ l n
mutual
def Cv (μ:Mu):AV->AV->Prop
 | .top,_=>True
 | .ptr b es i j,.ptr b' es' i' j'=>zQ μ b=some b'/\es=es'/\i=i'/\j=j'
 | .sl b es i n nl,.sl b' es' i' n' nl'=>zQ μ b=some b'/\es=es'/\i=i'/\n=n'/\(nl=true->nl'=true)
 | .sl b es i n nl,.ro es' n' nl' c=>n'=0/\nl'=true/\n=0
 | .isl b es i j z n,.isl b' es' i' j' z' n'=>zQ μ b=some b'/\es=es'/\i=i'/\j=j'/\z=z'/\n=n'
 | .csl b es i n c,.csl b' es' i' n' c'=>zQ μ b=some b'/\es=es'/\i=i'/\n=n'/\c=c'
 | .agg l,.agg l'=>CvL μ l l'
 | .tup l,.tup l'=>CvL μ l l'
 | .fn f l,.fn f' l'=>f=f'/\CvL μ l l'
 | .mfn f l,.mfn f' l'=>f=f'/\CvL μ l l'
 | .opt g v,.opt g' v'=>g=g'/\(g=true->Cv μ v v')
 | .rptr es n i j c,.rptr es' n' i' j' c'=>es=es'/\n=n'/\i=i'/\j=j'/\(Fl es c->Fl es c')/\∀ x y,x < n->y < es->c x y=c' x y
 | .ro es n nl c,.ro es' n' nl' c'=>(n=0 ∨ es=es')/\n=n'/\(nl=true->nl'=true)/\(n=0 ∨ (Fl es c->Fl es c'))/\∀ x y,x < n->y < es->c x y=c' x y
 | .bool b,.bool b'=>b=b'
 | .int k n,.int k' n'=>k=k'/\n=n'
 | .str s,.str s'=>s=s'
 | .nilp,.nilp=>True
 | .emp,.emp=>True
 | .nilf,.nilf=>True
 | .ub,.ub=>True
 | .ub,.bool _=>True
 | .val v,.val v'=>v=v'
 | .mp v,.mp v'=>v=v'
 | _,_=>False
def CvL (μ:Mu):List AV->List AV->Prop
 | [],[]=>True
 | a::l,b::m=>Cv μ a b/\CvL μ l m
 | _,_=>False
end
theorem CvL_get {μ:Mu} {l m:List AV} (hc:CvL μ l m):l.length=m.length/\∀ (i:Nat) (a b:AV),l[i]? = some a->m[i]? = some b->Cv μ a b:=by
 induction l generalizing m with
 | nil =>
  cases m with
  | nil=>exact ⟨rfl,fun i a b ha=>by simp at ha⟩
  | cons b m=>simp [CvL] at hc
 | cons a l ih =>
  cases m with
  | nil=>simp [CvL] at hc
  | cons b m =>
   simp only [CvL] at hc
   obtain ⟨i1,i2⟩:=ih hc.2
   refine ⟨by simp [i1],fun i x y hx hy=>?_⟩
   cases i with
   | zero=>simp at hx hy;subst hx hy;exact hc.1
   | succ i=>exact i2 i x y (by simpa using hx) (by simpa using hy)

def Env.via (E:Env) (μ:Mu):Env:=⟨E.w,fun b=>(zQ μ b).bind E.σ,E.prot,E.lo⟩
theorem eQ {μ:Mu} {a1:AV} {v:Value} (hv:VR E a1 v):∀ a2,Cv μ a2 a1->VR (E.via μ) a2 v:=by
 have vw:∀ {a v},VR E a v->nref a->VR (E.via μ) a v:=fun h hn=>VR.view (E:=E) (E':=E.via μ) (fun k hk=>⟨hk,rfl⟩) h hn
 have hσ:∀ {b b':Nat} {x:Nat × Nat},zQ μ b=some b'->E.σ b'=some x->(E.via μ).σ b=some x:=by
  intro b b' x h1 h2
  show (zQ μ b).bind E.σ=some x
  rw [h1];exact h2
 have lst:∀ (l l2:List AV) (vs:Array Value),l.length=vs.size->(∀ (i:Nat) (a:AV) (v:Value),l[i]? = some a->vs[i]? = some v->∀ a2,Cv μ a2 a->VR (E.via μ) a2 v)->CvL μ l2 l ->
   l2.length=vs.size/\∀ (i:Nat) (a:AV) (v:Value),l2[i]? = some a->vs[i]? = some v->VR (E.via μ) a v:=by
  intro l l2 vs hl ih hc
  obtain ⟨q1,q2⟩:=CvL_get hc
  refine ⟨by rw [q1,hl],fun i a v ha hv=>?_⟩
  have hi:i < l.length:=by
   rw [← q1]
   rcases Nat.lt_or_ge i l2.length with h'|h'
   ·exact h'
   ·rw [List.getElem?_eq_none h'] at ha;cases ha
  exact ih i l[i] v (List.getElem?_eq_getElem hi) hv a (q2 i a _ ha (List.getElem?_eq_getElem hi))
 induction hv with
 | top v=>intro a2 hc;cases a2<;>simp only [Cv] at hc;exact .top v
 | bool b=>intro a2 hc;cases a2<;>simp only [Cv] at hc;exact .top _;subst hc;exact .bool _;exact .ub _
 | int k n=>intro a2 hc;cases a2<;>simp only [Cv] at hc;exact .top _;obtain ⟨rfl,rfl⟩:=hc;exact .int _ _
 | str s=>intro a2 hc;cases a2<;>simp only [Cv] at hc;exact .top _;subst hc;exact .str _
 | nilp=>intro a2 hc;cases a2<;>simp only [Cv] at hc;exact .top _;exact .nilp
 | ptr b es i j k o h =>
  intro a2 hc;cases a2<;>simp only [Cv] at hc
  ·exact .top _
  ·obtain ⟨q1,rfl,rfl,rfl⟩:=hc;exact .ptr _ _ _ _ k o (hσ q1 h)
 | rptr es m i j k o c u hp hu h1 hc hrf ih =>
  intro a2 hq;cases a2<;>simp only [Cv] at hq
  ·exact .top _
  ·obtain ⟨rfl,rfl,rfl,rfl,qf,q⟩:=hq
   exact vw (.rptr _ _ _ _ k o _ u ⟨hp.1,fun f=>hp.2 (qf f)⟩ hu h1 (fun x y hx hy=>by rw [q x y hx hy];exact hc x y hx hy) fun x y hx hy=>by rw [q x y hx hy];exact hrf x y hx hy) (by simp only [nref])
 | sl b es i m nl a cap hm hcm hnl hz hc =>
  intro a2 hq;cases a2<;>simp only [Cv] at hq
  ·exact .top _
  ·obtain ⟨q1,rfl,rfl,rfl,qn⟩:=hq
   refine .sl _ _ _ _ _ a cap hm hcm (fun h=>hnl (qn h)) hz fun hp=>?_
   obtain ⟨k,o,cs,e,g1,g2⟩:=hc hp
   exact ⟨k,o,cs,e,hσ q1 g1,g2⟩
 | csl b es i m c a hm hcm hc =>
  intro a2 hq;cases a2<;>simp only [Cv] at hq
  ·exact .top _
  ·obtain ⟨q1,rfl,rfl,rfl,rfl⟩:=hq;exact .csl _ _ _ _ _ a hm hcm fun hp=>by obtain ⟨k,o,cs,e,h1,h2⟩:=hc hp;exact ⟨k,o,cs,e,hσ q1 h1,h2⟩
 | isl b es i j z m cap k o hm hcm h =>
  intro a2 hq;cases a2<;>simp only [Cv] at hq
  ·exact .top _
  ·obtain ⟨q1,rfl,rfl,rfl,rfl,rfl⟩:=hq;exact .isl _ _ _ _ _ _ cap k o hm hcm (hσ q1 h)
 | ro es m nl c a cap hm hcm hnl hz u ha h1 hc hrf ih =>
  intro a2 hq;cases a2<;>simp only [Cv] at hq
  ·exact .top _
  ·obtain ⟨rfl,rfl,rfl⟩:=hq
   have ha':a=none:=hnl rfl
   have hc0:=hz.1 ha'
   exact .sl _ _ _ _ _ a cap hm hcm (fun _=>ha') hz.1 fun hp=>by omega
  ·obtain ⟨q0,rfl,qn,qf,q⟩:=hq
   rename_i es2 n2 nl2 c2
   rcases q0 with q0|rfl
   ·subst q0
    exact .ro _ _ _ _ a cap hm hcm (fun h=>hnl (qn h)) (zrN hz.1) u (fun h=>by omega) (fun x y hx=>by omega) (fun x y hx=>by omega) fun x y hx=>by omega
   ·exact vw (.ro _ _ _ _ a cap hm hcm (fun h=>hnl (qn h)) (hz.sub (Nat.le_refl _) fun p f=>(qf.resolve_left (by omega)) f) u ha h1 (fun x y hx hy=>by rw [q x y hx hy];exact hc x y hx hy) fun x y hx hy=>by rw [q x y hx hy];exact hrf x y hx hy) (by simp only [nref])
 | emp a=>intro a2 hc;cases a2<;>simp only [Cv] at hc;exact .top _;exact .emp a
 | agg l vs hl h1 h ih =>
  intro a2 hq;cases a2<;>simp only [Cv] at hq
  ·exact .top _
  ·obtain ⟨q1,q2⟩:=lst l _ vs hl ih hq;exact .agg _ vs q1 h1 q2
 | tup l vs hl h ih =>
  intro a2 hq;cases a2<;>simp only [Cv] at hq
  ·exact .top _
  ·obtain ⟨q1,q2⟩:=lst l _ vs hl ih hq;exact .tup _ vs q1 q2
 | fn f l vs hl h ih =>
  intro a2 hq;cases a2<;>simp only [Cv] at hq
  ·exact .top _
  ·obtain ⟨rfl,hq⟩:=hq;obtain ⟨q1,q2⟩:=lst l _ vs hl ih hq;exact .fn _ _ vs q1 q2
 | mfn f l vs hl h ih =>
  intro a2 hq;cases a2<;>simp only [Cv] at hq
  ·exact .top _
  ·obtain ⟨rfl,hq⟩:=hq;obtain ⟨q1,q2⟩:=lst l _ vs hl ih hq;exact .mfn _ _ vs q1 q2
 | nilf=>intro a2 hc;cases a2<;>simp only [Cv] at hc;exact .top _;exact .nilf
 | ub b=>intro a2 hc;cases a2<;>simp only [Cv] at hc;exact .top _;exact .ub b
 | val v h1=>intro a2 hc;cases a2<;>simp only [Cv] at hc;exact .top _;subst hc;exact .val _ h1
 | mp m r clock es hp hb he=>intro a2 hc;cases a2<;>simp only [Cv] at hc;exact .top _;subst hc;exact vw (.mp _ r clock es hp hb he) (by simp only [nref])
 | opt_t a v h ih =>
  intro a2 hq;cases a2<;>simp only [Cv] at hq
  ·exact .top _
  ·obtain ⟨rfl,hq⟩:=hq;exact .opt_t _ v (ih _ (hq rfl))
 | opt_f a =>
  intro a2 hq;cases a2<;>simp only [Cv] at hq
  ·exact .top _
  ·obtain ⟨rfl,_⟩:=hq;exact .opt_f _
mutual
theorem yJ {μ:Mu}:∀ a:AV,nref a->Cv μ a a
 | .top,_=>by simp only [Cv]
 | .bool _,_=>by simp only [Cv]
 | .int _ _,_=>by simp only [Cv];exact ⟨trivial,trivial⟩
 | .str _,_=>by simp only [Cv]
 | .nilp,_=>by simp only [Cv]
 | .ptr _ _ _ _,h=>by simp only [nref] at h
 | .rptr _ _ _ _ _,_=>by simp only [Cv];exact ⟨trivial,trivial,trivial,trivial,fun h=>h,fun _ _ _ _=>trivial⟩
 | .sl _ _ _ _ _,h=>by simp only [nref] at h
 | .isl _ _ _ _ _ _,h=>by simp only [nref] at h
 | .csl _ _ _ _ _,h=>by simp only [nref] at h
 | .ro _ _ _ _,_=>by simp only [Cv];exact ⟨.inr trivial,trivial,fun h=>h,.inr fun h=>h,fun _ _ _ _=>trivial⟩
 | .emp,_=>by simp only [Cv]
 | .agg l,h=>by simp only [Cv];exact bP l (by simpa only [nref] using h)
 | .tup l,h=>by simp only [Cv];exact bP l (by simpa only [nref] using h)
 | .fn _ l,h=>by simp only [Cv];exact ⟨trivial,bP l (by simpa only [nref] using h)⟩
 | .mfn _ l,h=>by simp only [Cv];exact ⟨trivial,bP l (by simpa only [nref] using h)⟩
 | .nilf,_=>by simp only [Cv]
 | .ub,_=>by simp only [Cv]
 | .val _,_=>by simp only [Cv]
 | .mp _,_=>by simp only [Cv]
 | .opt _ v,h=>by simp only [Cv];exact ⟨trivial,fun _=>yJ v (by simpa only [nref] using h)⟩
theorem bP {μ:Mu}:∀ l:List AV,zX l->CvL μ l l
 | [],_=>by simp only [CvL]
 | a::l,h=>by simp only [zX] at h;simp only [CvL];exact ⟨yJ a h.1,bP l h.2⟩
end

/-! ### Blocks -/
def CvB (μ:Mu):ABlk->Option Nat->ABlk->Prop
 | .dead,_,_=>True
 | .lit e l,some _,.lit e' l'=>e=e'/\CvL μ l l'
 | .mapb k m,some _,.mapb k' m'=>k=k'/\m=m'
 | .row e es n c,some _,.row e' es' n' c'=>e=e'/\es=es'/\n <= n'/\∀ x y,x < n->y < es->Cv μ (c x y) (c' x y)
 | .row _ _ n _,none,_=>n=0
 | _,_,_=>False
def yN (h:List ABlk):Option Nat->ABlk
 | none=>.dead
 | some a=>geth h a
def CvH (μ:Mu) (h:List ABlk):List ABlk->Mu->Prop
 | [],[]=>True
 | x::l,m::ms=>CvB μ x m (yN h m)/\CvH μ h l ms
 | _,_=>False
def injM:Mu->Bool
 | []=>true
 | none::l=>injM l
 | some a::l=>!(l.contains (some a)) && injM l
def kK:Mu->List ABlk->Mu
 | _::ms,.dead::l=>none::kK ms l
 | m::ms,.lit _ _::l=>m::kK ms l
 | m::ms,.row _ _ _ _::l=>m::kK ms l
 | m::ms,.mapb _ _::l=>m::kK ms l
 | _,_=>[]
theorem liveM_get {μ:Mu} {h:List ABlk} (hl:h.length=μ.length) {b:Nat} {x:ABlk} (hb:h[b]? = some x) (hx:x ≠ .dead):zQ (kK μ h) b=zQ μ b:=by
 induction h generalizing μ b with
 | nil=>simp at hb
 | cons y l ih=>cases μ with
  | nil=>simp at hl
  | cons m ms =>
   cases b with
   | zero =>
    simp at hb;subst hb
    cases y with
    | dead=>exact absurd rfl hx
    | lit e l'=>rfl
    | row e es n c=>rfl
    | mapb _ _=>rfl
   | succ b =>
    have:=ih (μ:=ms) (by simpa using hl) (b:=b) (by simpa using hb)
    cases y<;>simpa only [kK,zQ] using this
def idM:Nat->Nat->Mu->Bool
 | _,0,_=>true
 | i,n+1,m::ms=>(m == some i) && idM (i+1) n ms
 | _,_+1,[]=>false
theorem CvH_get {μ:Mu} {h h2:List ABlk} {ms:Mu} (hc:CvH μ h h2 ms):h2.length=ms.length/\∀ (b:Nat) (x:ABlk),h2[b]? = some x->CvB μ x (zQ ms b) (yN h (zQ ms b)):=by
 induction h2 generalizing ms with
 | nil=>cases ms with
  | nil=>exact ⟨rfl,fun b x hb=>by simp at hb⟩
  | cons m ms=>simp [CvH] at hc
 | cons y l ih=>cases ms with
  | nil=>simp [CvH] at hc
  | cons m ms =>
   simp only [CvH] at hc
   obtain ⟨i1,i2⟩:=ih hc.2
   refine ⟨by simp [i1],fun b x hb=>?_⟩
   cases b with
   | zero=>simp at hb;subst hb;exact hc.1
   | succ b=>exact i2 b x (by simpa using hb)
theorem getM_out {μ:Mu} {b:Nat} (hb:μ.length <= b):zQ μ b=none:=by
 induction μ generalizing b with
 | nil=>rfl
 | cons m ms ih=>cases b with
  | zero=>simp at hb
  | succ b=>exact ih (by simpa using hb)
theorem getM_mem {μ:Mu} {b a:Nat} (hb:zQ μ b=some a):some a ∈ μ:=by
 induction μ generalizing b with
 | nil=>cases hb
 | cons m ms ih=>cases b with
  | zero=>simp only [zQ] at hb;subst hb;exact List.mem_cons_self ..
  | succ b=>exact List.mem_cons_of_mem _ (ih hb)
theorem injM_get {μ:Mu} (hi:injM μ=true):∀ (b b' a:Nat),zQ μ b=some a->zQ μ b'=some a->b=b':=by
 induction μ with
 | nil=>intro b b' a hb;cases hb
 | cons m ms ih =>
  intro b b' a hb hb'
  cases m with
  | none =>
   simp only [injM] at hi
   cases b with
   | zero=>cases hb
   | succ b=>cases b' with
    | zero=>cases hb'
    | succ b'=>rw [ih hi b b' a hb hb']
  | some q =>
   simp only [injM,Bool.and_eq_true,Bool.not_eq_true',List.contains_eq_mem,decide_eq_false_iff_not] at hi
   cases b with
   | zero =>
    simp only [zQ,Option.some.injEq] at hb;subst hb
    cases b' with
    | zero=>rfl
    | succ b'=>simp only [zQ] at hb';exact absurd (getM_mem hb') hi.1
   | succ b=>cases b' with
    | zero =>
     simp only [zQ,Option.some.injEq] at hb';subst hb'
     simp only [zQ] at hb;exact absurd (getM_mem hb) hi.1
    | succ b'=>rw [ih hi.2 b b' a hb hb']
theorem idM_get:∀ (n i:Nat) (μ:Mu),idM i n μ=true->∀ b,b < n->zQ μ b=some (i+b)
 | 0,_,_,_,b,hb=>by omega
 | n+1,i,[],h,_,_=>by simp [idM] at h
 | n+1,i,m::ms,h,b,hb=>by
  simp only [idM,Bool.and_eq_true,beq_iff_eq] at h
  cases b with
  | zero=>simp only [zQ,h.1,Nat.add_zero]
  | succ b=>simp only [zQ];rw [idM_get n (i+1) ms h.2 b (by omega)];congr 1;omega
theorem via_HR {μ:Mu} {h2:List ABlk} (H:HR E h) (hc:CvH μ h h2 μ) (hi:injM (kK μ h2)=true):HR (E.via μ) h2/\∀ k,Own (E.via μ) h2 k->Own E h k:=by
 obtain ⟨c1,c2⟩:=CvH_get hc
 have src:∀ (b:Nat) (x:ABlk) (p:Nat × Nat),h2[b]? = some x->x ≠ .dead->(E.via μ).σ b=some p->∃ a,zQ μ b=some a/\E.σ a=some p/\geth h a ≠ .dead:=by
  intro b x p hb hx hp
  have hB:=c2 b x hb
  have hp':(zQ μ b).bind E.σ=some p:=hp
  cases hg:zQ μ b with
  | none=>rw [hg] at hp';cases hp'
  | some a =>
   rw [hg] at hp' hB
   refine ⟨a,rfl,hp',fun hd=>?_⟩
   simp only [yN] at hB
   rw [hd] at hB
   cases x<;>simp only [CvB] at hB
   exact hx rfl
 have hown:∀ k,Own (E.via μ) h2 k->Own E h k:=by
  rintro k ⟨b,x,o,h1,h2',h3⟩
  obtain ⟨a,g1,g2,g3⟩:=src b x _ h1 h2' h3
  exact ⟨a,geth h a,o,zP g3,g3,g2⟩
 refine ⟨⟨fun b x hb=>?_,fun b b' x x' k o o' h1 h2 h3 h4 h5 h6=>?_,fun k hk=>⟨(H.prot k hk).1,fun ho=>(H.prot k hk).2 (hown k ho)⟩,fun b hb=>?_,H.lo⟩,hown⟩
 ·have hB:=c2 b x hb
  cases x with
  | dead=>trivial
  | mapb k0 m0 =>
   cases hg:zQ μ b with
   | none=>rw [hg] at hB;simp only [yN,CvB] at hB
   | some a =>
    rw [hg] at hB
    simp only [yN] at hB
    cases hga:geth h a with
    | dead=>rw [hga] at hB;simp only [CvB] at hB
    | row e' es n c=>rw [hga] at hB;simp only [CvB] at hB
    | lit e' l'=>rw [hga] at hB;simp only [CvB] at hB
    | mapb k1 m1 =>
     rw [hga] at hB
     simp only [CvB] at hB
     obtain ⟨rfl,rfl⟩:=hB
     obtain ⟨r1,r2⟩:=(show BR E a (.mapb k0 m0) from by rw [← hga];exact H.blk a _ (zP (by rw [hga];exact fun e=>by cases e)))
     exact ⟨by show (zQ μ b).bind E.σ=_;rw [hg];exact r1,r2⟩
  | lit e l =>
   cases hg:zQ μ b with
   | none=>rw [hg] at hB;simp only [yN,CvB] at hB
   | some a =>
    rw [hg] at hB
    simp only [yN] at hB
    cases hga:geth h a with
    | dead=>rw [hga] at hB;simp only [CvB] at hB
    | mapb _ _=>rw [hga] at hB;simp only [CvB] at hB
    | row e' es n c=>rw [hga] at hB;simp only [CvB] at hB
    | lit e' l' =>
     rw [hga] at hB
     simp only [CvB] at hB
     obtain ⟨rfl,hB⟩:=hB
     obtain ⟨q1,q2⟩:=CvL_get hB
     obtain ⟨k,o,cs,r1,r2,r3,r4⟩:=(show BR E a (.lit e l') from by rw [← hga];exact H.blk a _ (zP (by rw [hga];exact fun e=>by cases e)))
     refine ⟨k,o,cs,by show (zQ μ b).bind E.σ=_;rw [hg];exact r1,r2,by rw [q1];exact r3,fun j y hj=>?_⟩
     have hjl:j < l'.length:=by
      rw [← q1]
      rcases Nat.lt_or_ge j l.length with h'|h'
      ·exact h'
      ·rw [List.getElem?_eq_none h'] at hj;cases hj
     obtain ⟨v,s1,s2,s3⟩:=r4 j _ (List.getElem?_eq_getElem hjl)
     exact ⟨v,s1,s2,eQ s3 _ (q2 j _ _ hj (List.getElem?_eq_getElem hjl))⟩
  | row e es n c =>
   unfold BR
   cases hg:zQ μ b with
   | none =>
    rw [hg] at hB
    simp only [yN,CvB] at hB
    have:(E.via μ).σ b=none:=by show (zQ μ b).bind E.σ=_;rw [hg];rfl
    rw [this];exact hB
   | some a =>
    rw [hg] at hB
    simp only [yN] at hB
    cases hga:geth h a with
    | dead=>rw [hga] at hB;simp only [CvB] at hB
    | mapb _ _=>rw [hga] at hB;simp only [CvB] at hB
    | lit e' l'=>rw [hga] at hB;simp only [CvB] at hB
    | row e' es' n' c' =>
     rw [hga] at hB
     simp only [CvB] at hB
     obtain ⟨rfl,rfl,hle,hB⟩:=hB
     have hR:BR E a (.row e es n' c'):=by rw [← hga];exact H.blk a _ (zP (by rw [hga];exact fun e=>by cases e))
     unfold BR at hR
     have:(E.via μ).σ b=E.σ a:=by show (zQ μ b).bind E.σ=_;rw [hg];rfl
     rw [this]
     cases hs:E.σ a with
     | none=>rw [hs] at hR;exact Nat.eq_zero_of_le_zero (hR ▸ hle)
     | some p =>
      rw [hs] at hR
      obtain ⟨cs,r1,r2,r3⟩:=hR
      exact ⟨cs,r1,Nat.le_trans (Nat.add_le_add_left (Nat.mul_le_mul_right _ hle) _) r2,fun x y hx hy=>by obtain ⟨v,s1,s2,s3⟩:=r3 x y (Nat.lt_of_lt_of_le hx hle) hy;exact ⟨v,s1,s2,eQ s3 _ (hB x y hx hy)⟩⟩
 ·obtain ⟨a,g1,g2,g3⟩:=src b x _ h1 h2 h5
  obtain ⟨a',g1',g2',g3'⟩:=src b' x' _ h3 h4 h6
  have:=H.inj a a' _ _ k o o' (zP g3) g3 (zP g3') g3' g2 g2'
  subst this
  exact injM_get hi b b' a ((liveM_get c1 h1 h2).trans g1) ((liveM_get c1 h3 h4).trans g1')
 ·show (zQ μ b).bind E.σ=none
  rw [getM_out (by rw [← c1];exact hb)];rfl
end Go.Am

namespace Go.Am
set_option linter.unusedVariables false
variable {P:Program} {E:Env} {h:List ABlk}

def SubBy (μ:Mu) (n:Nat) (t:List AV) (h:List ABlk) (t2:List AV) (h2:List ABlk):Prop:=CvL μ t2 t/\CvH μ h h2 μ/\injM (kK μ h2)=true/\idM 0 n μ=true
def Sub (n:Nat) (t:List AV) (h:List ABlk) (t2:List AV) (h2:List ABlk):Prop:=∃ μ,SubBy μ n t h t2 h2
theorem idM_len:∀ (n i:Nat) (μ:Mu),idM i n μ=true->n <= μ.length
 | 0,_,_,_=>Nat.zero_le _
 | n+1,i,[],h=>by simp [idM] at h
 | n+1,i,m::ms,h=>by
  simp only [idM,Bool.and_eq_true] at h
  have:=idM_len n (i+1) ms h.2
  simp;omega
theorem via_FR {μ:Mu} {t t2:List AV} {vs:Array Value} (F:FR E t vs) (hc:CvL μ t2 t):FR (E.via μ) t2 vs:=by
 obtain ⟨c1,c2⟩:=CvL_get hc
 refine ⟨c1.trans F.1,fun i a v ha hv=>?_⟩
 have hi:i < t.length:=by
  rw [← c1]
  rcases Nat.lt_or_ge i t2.length with h'|h'
  ·exact h'
  ·rw [List.getElem?_eq_none h'] at ha;cases ha
 exact eQ (F.2 i _ v (List.getElem?_eq_getElem hi) hv) _ (c2 i a _ ha (List.getElem?_eq_getElem hi))
theorem via_Ext {E0:Env} {h0 h2:List ABlk} {μ:Mu} (H0:HR E0 h0) (H:HR E h) (X:Ext E0 h0 E h) (hc:CvH μ h h2 μ) (hi:injM (kK μ h2)=true) (hd:idM 0 h0.length μ=true):Ext E0 h0 (E.via μ) h2:=by
 have hid:∀ b,b < h0.length->zQ μ b=some b:=fun b hb=>by have:=idM_get _ _ _ hd b hb;rwa [Nat.zero_add] at this
 have hσ:∀ b,b < h0.length->(E.via μ).σ b=E.σ b:=fun b hb=>by show (zQ μ b).bind E.σ=_;rw [hid b hb];rfl
 obtain ⟨_,hown⟩:=via_HR H hc hi
 refine ⟨X.os,X.tape,X.output,fun b x hb=>?_,X.prot,X.size,X.kind,X.frame,fun k hk=>X.own k (hown k hk),?_,fun b hb=>(hσ b hb).trans (X.old b hb),X.pro,X.lo,X.wr⟩
 ·have hlt:b < h0.length:=by
   rcases Nat.lt_or_ge b h0.length with h'|h'
   ·exact h'
   ·rw [H0.fresh b h'] at hb;cases hb
  rw [hσ b hlt];exact X.σ b x hb
 ·rw [(CvH_get hc).1];exact idM_len _ _ _ hd
theorem sub_mean {c:Code} {K:Kt} {t t2:List AV} {h2:List ABlk} (hs:Sub h.length t h t2 h2) (hm:Mean P c K t2 h2):Mean P c K t h:=by
 obtain ⟨μ,c1,c2,c3,c4⟩:=hs
 intro E a Q H F hd hQ
 refine hm (E.via μ) a Q (via_HR H c2 c3).1 (via_FR F c1) hd fun e E' a' t' h' hk X H' F' hd'=>hQ e E' a' t' h' hk ((via_Ext H H (Ext.refl _ _) c2 c3 c4).trans X) H' F' hd'
end Go.Am

namespace Go.Am
set_option linter.unusedVariables false
variable {P:Program} {E:Env} {h:List ABlk}

mutual
def noro:AV->Prop
 | .ro _ n _ _=>n=0
 | .rptr _ _ _ _ _=>False
 | .agg l=>tQ l
 | .tup l=>tQ l
 | .fn _ l=>tQ l
 | .mfn _ l=>tQ l
 | .opt _ v=>noro v
 | .ptr _ _ _ _=>True
 | .sl _ _ _ _ _=>True
 | .isl _ _ _ _ _ _=>True
 | .csl _ _ _ _ _=>True
 | .top=>True
 | .bool _=>True
 | .int _ _=>True
 | .str _=>True
 | .nilp=>True
 | .emp=>True
 | .nilf=>True
 | .ub=>True
 | .val _=>True
 | .mp _=>False
def tQ:List AV->Prop
 | []=>True
 | a::l=>noro a/\tQ l
end
theorem noroL_get {l:List AV} (hn:tQ l) {i:Nat} {a:AV} (ha:l[i]? = some a):noro a:=by
 induction l generalizing i with
 | nil=>simp at ha
 | cons b l ih =>
  simp only [tQ] at hn
  cases i with
  | zero=>simp at ha;subst ha;exact hn.1
  | succ i=>exact ih hn.2 (by simpa using ha)
def flatA (a:AV):Prop:=nref a/\noro a
theorem VR.exp {E':Env} {L s:Nat} (hw:E'.w=E.w) (hσ:∀ b x,E.σ b=some x->E'.σ (rnN L s b)=some x) {a:AV} {v:Value} (h:VR E a v) (hn:noro a):VR E' (Am.ren L s a) v:=by
 have lst:∀ (l:List AV) (vs:Array Value),l.length=vs.size->tQ l->(∀ (i:Nat) (a:AV) (v:Value),l[i]? = some a->vs[i]? = some v->noro a->VR E' (Am.ren L s a) v) ->
   (tO L s l).length=vs.size/\∀ (i:Nat) (a:AV) (v:Value),(tO L s l)[i]? = some a->vs[i]? = some v->VR E' a v:=by
  intro l vs hl hn ih
  refine ⟨by rw [renL_length,hl],fun i a v ha hv=>?_⟩
  rw [renL_get] at ha
  cases hi:l[i]? with
  | none=>rw [hi] at ha;cases ha
  | some a0 =>
   rw [hi] at ha
   simp only [Option.map_some,Option.some.injEq] at ha
   subst ha
   exact ih i a0 v hi hv (noroL_get hn hi)
 induction h with
 | top v=>simp only [Am.ren];exact .top v
 | bool b=>simp only [Am.ren];exact .bool b
 | int k n=>simp only [Am.ren];exact .int k n
 | str s=>simp only [Am.ren];exact .str s
 | nilp=>simp only [Am.ren];exact .nilp
 | ptr b es i j k o h=>simp only [Am.ren];exact .ptr _ es i j k o (hσ _ _ h)
 | rptr es m i j k o c u hp' hu h1 hc hrf ih=>simp only [noro] at hn
 | sl b es i m nl a cap hm hcm hnl hz hc =>
  simp only [Am.ren]
  refine .sl _ es i m nl a cap hm hcm hnl hz fun hp'=>?_
  obtain ⟨k,o,cs,e,g1,g2,g3,g4⟩:=hc hp'
  exact ⟨k,o,cs,e,hσ _ _ g1,g2,by rw [hw];exact g3,g4⟩
 | isl b es i j z m cap k o hm hcm h=>simp only [Am.ren];exact .isl _ es i j z m cap k o hm hcm (hσ _ _ h)
 | csl b es i m c a hm hcm hc=>simp only [Am.ren];exact .csl _ es i m c a hm hcm fun hp=>by obtain ⟨k,o,cs,e,h1,h2,h3,h4⟩:=hc hp;exact ⟨k,o,cs,e,hσ _ _ h1,h2,by rw [hw];exact h3,h4⟩
 | ro es m nl c a cap hm hcm hnl hz u ha h1 hc hrf ih =>
  simp only [noro] at hn;subst hn
  simp only [Am.ren];exact .ro es 0 nl c a cap hm hcm hnl (zrN hz.1) u (fun h=>by omega) (fun x y hx=>by omega) (fun x y hx=>by omega) fun x y hx=>by omega
 | emp a=>simp only [Am.ren];exact .emp a
 | agg l vs hl h1 h ih=>simp only [Am.ren];simp only [noro] at hn;obtain ⟨q1,q2⟩:=lst l vs hl hn ih;exact .agg _ vs q1 h1 q2
 | tup l vs hl h ih=>simp only [Am.ren];simp only [noro] at hn;obtain ⟨q1,q2⟩:=lst l vs hl hn ih;exact .tup _ vs q1 q2
 | fn f l vs hl h ih=>simp only [Am.ren];simp only [noro] at hn;obtain ⟨q1,q2⟩:=lst l vs hl hn ih;exact .fn f _ vs q1 q2
 | mfn f l vs hl h ih=>simp only [Am.ren];simp only [noro] at hn;obtain ⟨q1,q2⟩:=lst l vs hl hn ih;exact .mfn f _ vs q1 q2
 | nilf=>simp only [Am.ren];exact .nilf
 | ub b=>simp only [Am.ren];exact .ub b
 | val v h1=>simp only [Am.ren];exact .val v h1
 | mp m r clock es hp hb he=>simp only [noro] at hn
 | opt_t a v h ih=>simp only [Am.ren];simp only [noro] at hn;exact .opt_t _ v (ih hn)
 | opt_f a=>simp only [Am.ren];exact .opt_f _
mutual
theorem dJ {L s:Nat}:∀ a:AV,nref a->ren L s a=a
 | .top,_=>by simp only [ren]
 | .bool _,_=>by simp only [ren]
 | .int _ _,_=>by simp only [ren]
 | .str _,_=>by simp only [ren]
 | .nilp,_=>by simp only [ren]
 | .ptr _ _ _ _,h=>by simp only [nref] at h
 | .rptr _ _ _ _ _,_=>by simp only [ren]
 | .sl _ _ _ _ _,h=>by simp only [nref] at h
 | .isl _ _ _ _ _ _,h=>by simp only [nref] at h
 | .csl _ _ _ _ _,h=>by simp only [nref] at h
 | .ro _ _ _ _,_=>by simp only [ren]
 | .emp,_=>by simp only [ren]
 | .agg l,h=>by simp only [ren];rw [dH l (by simpa only [nref] using h)]
 | .tup l,h=>by simp only [ren];rw [dH l (by simpa only [nref] using h)]
 | .fn _ l,h=>by simp only [ren];rw [dH l (by simpa only [nref] using h)]
 | .mfn _ l,h=>by simp only [ren];rw [dH l (by simpa only [nref] using h)]
 | .nilf,_=>by simp only [ren]
 | .ub,_=>by simp only [ren]
 | .val _,_=>by simp only [ren]
 | .mp _,_=>by simp only [ren]
 | .opt _ v,h=>by simp only [ren];rw [dJ v (by simpa only [nref] using h)]
theorem dH {L s:Nat}:∀ l:List AV,zX l->tO L s l=l
 | [],_=>by simp only [tO]
 | a::l,h=>by simp only [zX] at h;simp only [tO];rw [dJ a h.1,dH l h.2]
end
theorem VR.flat {E':Env} (hw:E'.w=E.w) {a:AV} {v:Value} (h:VR E a v) (hf:flatA a):VR E' a v:=by
 have h1:=VR.exp (E:=⟨E.w,fun _=>none,E.prot,E.lo⟩) (E':=E') (L:=0) (s:=0) hw (fun b x hb=>by cases hb) (VR.view (E:=E) (E':=⟨E.w,fun _=>none,E.prot,E.lo⟩) (fun k hk=>⟨hk,rfl⟩) h hf.1) hf.2
 rwa [dJ a hf.1] at h1
def freshR (o:Prop) (h:List ABlk):AR->AR
 | .pure ob v=>.pure (o/\ob) v
 | .heap ob v ns=>.heap (o/\ob) (ren 0 h.length v) (h ++ ns)
 | .fail=>.fail
def freshC (body:List AV->AR) (l:List AV) (h:List ABlk):AR:=freshR (jN h l) h (body (roL h l))
def SubV (v:AV) (ns:List ABlk) (v':AV) (hf:List ABlk):Prop:=∃ ν:Mu,Cv ν v v'/\CvH ν hf ns ν/\injM (kK ν ns)=true

end Go.Am

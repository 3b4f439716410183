/-
  The abstract machine, text 10: contracts of functions that change memory that they are given: the named blocks are theirs, all else they see by what may be read. contracts that change memory, over typed values; two ways told apart. lists of bytes. a region in pieces; between two pieces blocks may be given up to be read only. the bytes of a constant string (a row, and its conversion to its own type): memory that is only read. what a law is given, where a struct holds slices of itself. values and contents without own memory, found by their form. contracts of functions that change memory given or return memory of their own; all other memory of the caller they may read. the rest of an own row, as a row of its own. functions that make a map of constants. an element of a row written out, its place not known. a call walked in the caller's own heap; rows of which one element names own blocks. a row of which every element names a row of its own: these lie apart ('parked'), one of them at a time is taken up. arrays at a variable index: a variable that is an array, told as a row of its elements. maps from int to int that a function makes and changes.
-/
import Derived.Test.YtooepgpfaaddbaaGreatPm9
import Derived.Lib.SlBytesConst
import Derived.MapKept
import Derived.StillTail
namespace Go.Am
set_option linter.unusedVariables false
variable {P:Program} {E:Env} {h:List ABlk}

/-! ### Numbers anew -/
def fC:List Nat->Nat->Nat->Nat
 | [],s,i=>s+i
 | b::_,_,0=>b
 | _::l,s,i+1=>fC l s i
mutual
def rnm (bs:List Nat) (s:Nat):AV->AV
 | .ptr b es i j=>.ptr (fC bs s b) es i j
 | .sl b es i n nl=>.sl (fC bs s b) es i n nl
 | .isl b es i j z n=>.isl (fC bs s b) es i j z n
 | .csl b es i n c=>.csl (fC bs s b) es i n c
 | .agg l=>.agg (dH bs s l)
 | .tup l=>.tup (dH bs s l)
 | .fn f l=>.fn f (dH bs s l)
 | .mfn f l=>.mfn f (dH bs s l)
 | .opt g v=>.opt g (rnm bs s v)
 | .rptr es n i j c=>.rptr es n i j c
 | .ro es n nl c=>.ro es n nl c
 | .top=>.top
 | .bool b=>.bool b
 | .int k n=>.int k n
 | .str s=>.str s
 | .nilp=>.nilp
 | .emp=>.emp
 | .nilf=>.nilf
 | .ub=>.ub
 | .val v=>.val v
 | .mp m=>.mp m
def dH (bs:List Nat) (s:Nat):List AV->List AV
 | []=>[]
 | a::l=>rnm bs s a::dH bs s l
end
theorem rnmL_get (bs:List Nat) (s:Nat) (l:List AV) (i:Nat):(dH bs s l)[i]? = (l[i]?).map (rnm bs s):=by
 induction l generalizing i with
 | nil=>simp [dH]
 | cons a l ih=>cases i<;>simp [dH,ih]
theorem rnmL_length (bs:List Nat) (s:Nat) (l:List AV):(dH bs s l).length=l.length:=by
 induction l with
 | nil=>rfl
 | cons a l ih=>simp [dH,ih]
theorem VR.rnm {E':Env} {bs:List Nat} {s:Nat} (hw:E'.w=E.w) (hp:E'.prot=E.prot) (hσ:∀ b x,E.σ b=some x->E'.σ (fC bs s b)=some x) {a:AV} {v:Value} (h:VR E a v) (hlo:∀ k,E'.lo k->E.lo k:=by first|exact fun _ h=>h|assumption):VR E' (rnm bs s a) v:=by
 have vw:∀ {a v},VR E a v->nref a->VR E' a v:=fun h hn=>VR.view (E:=E) (E':=E') (fun k hk=>⟨by rw [hp];exact hk,by rw [hw]⟩) h hn
 have lst:∀ (l:List AV) (vs:Array Value),l.length=vs.size->(∀ (i:Nat) (a:AV) (v:Value),l[i]? = some a->vs[i]? = some v->VR E' (Am.rnm bs s a) v) ->
   (dH bs s l).length=vs.size/\∀ (i:Nat) (a:AV) (v:Value),(dH bs s l)[i]? = some a->vs[i]? = some v->VR E' a v:=by
  intro l vs hl ih
  refine ⟨by rw [rnmL_length,hl],fun i a v ha hv=>?_⟩
  rw [rnmL_get] at ha
  cases hi:l[i]? with
  | none=>rw [hi] at ha;cases ha
  | some a0 =>
   rw [hi] at ha
   simp only [Option.map_some,Option.some.injEq] at ha
   subst ha
   exact ih i a0 v hi hv
 induction h with
 | top v=>simp only [Am.rnm];exact .top v
 | bool b=>simp only [Am.rnm];exact .bool b
 | int k n=>simp only [Am.rnm];exact .int k n
 | str s=>simp only [Am.rnm];exact .str s
 | nilp=>simp only [Am.rnm];exact .nilp
 | ptr b es i j k o h=>simp only [Am.rnm];exact .ptr _ es i j k o (hσ _ _ h)
 | rptr es m i j k o c u hp' hu h1 hc hrf ih=>simp only [Am.rnm];exact vw (.rptr es m i j k o c u hp' hu h1 hc hrf) (by simp only [nref])
 | sl b es i m nl a cap hm hcm hnl hz hc =>
  simp only [Am.rnm]
  refine .sl _ es i m nl a cap hm hcm hnl hz fun hp'=>?_
  obtain ⟨k,o,cs,e,g1,g2,g3,g4⟩:=hc hp'
  exact ⟨k,o,cs,e,hσ _ _ g1,g2,by rw [hw];exact g3,g4⟩
 | isl b es i j z m cap k o hm hcm h=>simp only [Am.rnm];exact .isl _ es i j z m cap k o hm hcm (hσ _ _ h)
 | csl b es i m c a hm hcm hc=>simp only [Am.rnm];exact .csl _ es i m c a hm hcm fun hp=>by obtain ⟨k,o,cs,e,h1,h2,h3,h4⟩:=hc hp;exact ⟨k,o,cs,e,hσ _ _ h1,h2,by rw [hw];exact h3,h4⟩
 | ro es m nl c a cap hm hcm hnl hz u ha h1 hc hrf ih=>simp only [Am.rnm];exact vw (.ro es m nl c a cap hm hcm hnl hz u ha h1 hc hrf) (by simp only [nref])
 | emp a=>simp only [Am.rnm];exact .emp a
 | agg l vs hl h1 h ih=>simp only [Am.rnm];obtain ⟨q1,q2⟩:=lst l vs hl ih;exact .agg _ vs q1 h1 q2
 | tup l vs hl h ih=>simp only [Am.rnm];obtain ⟨q1,q2⟩:=lst l vs hl ih;exact .tup _ vs q1 q2
 | fn f l vs hl h ih=>simp only [Am.rnm];obtain ⟨q1,q2⟩:=lst l vs hl ih;exact .fn f _ vs q1 q2
 | mfn f l vs hl h ih=>simp only [Am.rnm];obtain ⟨q1,q2⟩:=lst l vs hl ih;exact .mfn f _ vs q1 q2
 | nilf=>simp only [Am.rnm];exact .nilf
 | ub b=>simp only [Am.rnm];exact .ub b
 | val v h1=>simp only [Am.rnm];exact .val v h1
 | mp m r clock es hp hb he=>simp only [Am.rnm];exact vw (.mp m r clock es hp hb he) (by simp only [nref])
 | opt_t a v h ih=>simp only [Am.rnm];exact .opt_t _ v ih
 | opt_f a=>simp only [Am.rnm];exact .opt_f _
def rnmC (bs:List Nat) (s:Nat) (c:Nat->Nat->AV):Nat->Nat->AV:=fun x y=>rnm bs s (c x y)
def rnmB (bs:List Nat) (s:Nat):ABlk->ABlk
 | .mapb k m=>.mapb k m
 | .dead=>.dead
 | .lit e l=>.lit e (dH bs s l)
 | .row e es n c=>.row e es n (rnmC bs s c)
def bR (bs:List Nat) (s:Nat):List ABlk->List ABlk
 | []=>[]
 | x::l=>rnmB bs s x::bR bs s l
theorem rnmH_get (bs:List Nat) (s:Nat) (l:List ABlk) (i:Nat):(bR bs s l)[i]? = (l[i]?).map (rnmB bs s):=by
 induction l generalizing i with
 | nil=>simp [bR]
 | cons a l ih=>cases i<;>simp [bR,ih]
theorem rnmH_length (bs:List Nat) (s:Nat) (l:List ABlk):(bR bs s l).length=l.length:=by
 induction l with
 | nil=>rfl
 | cons a l ih=>simp [bR,ih]
theorem uK {bs:List Nat} {s:Nat} {x:ABlk} (hx:rnmB bs s x ≠ .dead):x ≠ .dead:=by
 rintro rfl;exact hx rfl
def nfB (_:ABlk):Prop:=True
def nfBs:List ABlk->Prop
 | []=>True
 | x::l=>nfB x/\nfBs l
theorem nfBs_get {l:List ABlk} (hn:nfBs l) {i:Nat} {x:ABlk} (hi:l[i]? = some x):nfB x:=by
 induction l generalizing i with
 | nil=>simp at hi
 | cons b l ih =>
  simp only [nfBs] at hn
  cases i with
  | zero=>simp at hi;subst hi;exact hn.1
  | succ i=>exact ih hn.2 (by simpa using hi)
def bN (h:List ABlk):List Nat->List ABlk->List ABlk
 | b::bs,x::g=>bN (seth h b x) bs g
 | _,_=>h
def gR:List Nat->List ABlk->List ABlk
 | _::bs,_::g=>gR bs g
 | [],g=>g
 | _::_,[]=>[]
def gY:List Nat->Bool
 | []=>true
 | b::l=>!inL b l && gY l
theorem nodupB_iff {l:List Nat} (hn:gY l=true):∀ (i j b:Nat),l[i]? = some b->l[j]? = some b->i=j:=by
 induction l with
 | nil=>intro i j b hi;simp at hi
 | cons a l ih =>
  simp only [gY,Bool.and_eq_true,Bool.not_eq_true'] at hn
  have ha:a ∉ l:=fun hm=>by have:=inL_mem.2 hm;rw [hn.1] at this;cases this
  intro i j b hi hj
  cases i with
  | zero =>
   simp at hi;subst hi
   cases j with
   | zero=>rfl
   | succ j=>exact absurd (List.mem_of_getElem? (by simpa using hj)) ha
  | succ i =>
   cases j with
   | zero=>simp at hj;subst hj;exact absurd (List.mem_of_getElem? (by simpa using hi)) ha
   | succ j=>rw [ih hn.2 i j b (by simpa using hi) (by simpa using hj)]
theorem tI:∀ (bs:List Nat) (g h:List ABlk),(bN h bs g).length=h.length
 | [],_,_=>by simp [bN]
 | _::_,[],_=>by simp [bN]
 | b::bs,x::g,h=>by simp only [bN];rw [tI,wV]
theorem putH_out:∀ (bs:List Nat) (g h:List ABlk) (b:Nat),b ∉ bs->(bN h bs g)[b]? = h[b]?
 | [],_,_,_,_=>by simp [bN]
 | _::_,[],_,_,_=>by simp [bN]
 | a::bs,x::g,h,b,hb=>by
  simp only [bN]
  rw [putH_out bs g _ b (fun hm=>hb (List.mem_cons_of_mem _ hm)),wP,List.getElem?_set_ne (fun e=>hb (by rw [e];exact List.mem_cons_self ..))]
theorem putH_in:∀ (bs:List Nat) (g h:List ABlk) (i b:Nat) (x:ABlk),gY bs=true->b < h.length->bs[i]? = some b->g[i]? = some x->(bN h bs g)[b]? = some x
 | [],_,_,i,b,x,_,_,hi,_=>by simp at hi
 | _::_,[],_,i,b,x,_,_,_,hg=>by simp at hg
 | a::bs,y::g,h,i,b,x,hn,hb,hi,hg=>by
  have hn':=hn
  simp only [gY,Bool.and_eq_true,Bool.not_eq_true'] at hn
  simp only [bN]
  cases i with
  | zero =>
   simp at hi hg;subst hi hg
   rw [putH_out bs g _ a (fun hm=>by have:=inL_mem.2 hm;rw [hn.1] at this;cases this),wP,List.getElem?_set_self hb]
  | succ i=>exact putH_in bs g _ i b x hn.2 (by rw [wV];exact hb) (by simpa using hi) (by simpa using hg)
theorem dropH_get:∀ (bs:List Nat) (g:List ABlk) (i:Nat),(gR bs g)[i]? = g[bs.length+i]?
 | [],g,i=>by simp [gR]
 | b::bs,[],i=>by simp [gR]
 | b::bs,x::g,i=>by
  simp only [gR]
  rw [dropH_get,List.length_cons,show bs.length+1+i=(bs.length+i)+1 from by omega,List.getElem?_cons_succ]
theorem dropH_len:∀ (bs:List Nat) (g:List ABlk),(gR bs g).length=g.length - bs.length
 | [],g=>by simp [gR]
 | b::bs,[]=>by simp [gR]
 | b::bs,x::g=>by simp only [gR];rw [dropH_len];simp
theorem rhoN_in:∀ {bs:List Nat} {s i b:Nat},bs[i]? = some b->fC bs s i=b
 | [],_,i,b,h=>by simp at h
 | a::bs,s,0,b,h=>by simp at h;simp [fC,h]
 | a::bs,s,i+1,b,h=>by simp only [fC];exact rhoN_in (by simpa using h)
theorem bQ:∀ {bs:List Nat} {s i:Nat},bs.length <= i->fC bs s i=s+(i - bs.length)
 | [],s,i,_=>by simp [fC]
 | a::bs,s,0,h=>by simp at h
 | a::bs,s,i+1,h=>by
  simp only [fC]
  rw [bQ (by simpa using h)]
  simp

/-! ### Inside -/
def dL (bs:List Nat):Mu:=bs.map some
theorem toMu_get (bs:List Nat) (i:Nat):yB (dL bs) i=bs[i]?:=by
 induction bs generalizing i with
 | nil=>rfl
 | cons b bs ih=>cases i with
  | zero=>rfl
  | succ i=>simpa [dL,yB] using ih i
theorem in_σ (E:Env) (bs:List Nat) (i:Nat):(E.via (dL bs)).σ i=(bs[i]?).bind E.σ:=by
 show (yB (dL bs) i).bind E.σ=_
 rw [toMu_get]
theorem in_HR (H:HR E h) {bs:List Nat} {h0:List ABlk} (hn:gY bs=true) (hl:h0.length=bs.length) (hd:∀ (i b:Nat),bs[i]? = some b->geth h b ≠ .dead)
  (hb:∀ (i:Nat) (x0:ABlk),h0[i]? = some x0->BR (E.via (dL bs)) i x0):HR (E.via (dL bs)) h0:=by
 have own:∀ k,Own (E.via (dL bs)) h0 k->Own E h k:=by
  rintro k ⟨i,x,o,q1,q2,q3⟩
  rw [in_σ] at q3
  cases hi:bs[i]? with
  | none=>rw [hi] at q3;cases q3
  | some b=>rw [hi] at q3;exact ⟨b,_,o,zS (hd i b hi),hd i b hi,q3⟩
 refine ⟨hb,fun i j x y k o o' h1 h2 h3 h4 h5 h6=>?_,fun k hk=>⟨(H.prot k hk).1,fun ho=>(H.prot k hk).2 (own k ho)⟩,fun i hi=>?_,H.lo⟩
 ·rw [in_σ] at h5 h6
  cases hi:bs[i]? with
  | none=>rw [hi] at h5;cases h5
  | some b =>
   cases hj:bs[j]? with
   | none=>rw [hj] at h6;cases h6
   | some b' =>
    rw [hi] at h5;rw [hj] at h6
    have:=H.inj b b' _ _ k o o' (zS (hd i b hi)) (hd i b hi) (zS (hd j b' hj)) (hd j b' hj) h5 h6
    subst this
    exact nodupB_iff hn i j b hi hj
 ·rw [in_σ,List.getElem?_eq_none (by omega)];rfl

def RetE (n:Nat) (v0:AV) (g0:List ABlk) (v':AV) (hf:List ABlk):Prop :=
 ∃ fz,wJ hf fz v'/\tU hf fz hf/\∃ ν:Mu,Cv ν v0 (fzV hf fz v')/\CvH ν (fzH hf fz) g0 ν/\injM (dE ν g0)=true/\idM 0 n ν=true
theorem out_BR {E3 E2:Env} {bs:List Nat} {s i j:Nat} {x:ABlk} (hw:E2.w=E3.w) (hp:E2.prot=E3.prot) (hσ:∀ b x,E3.σ b=some x->E2.σ (fC bs s b)=some x) (he:E2.σ j=E3.σ i) (hn:nfB x) (hB:BR E3 i x) (hlo:∀ k,E2.lo k->E3.lo k:=by first|exact fun _ h=>h|assumption):BR E2 j (rnmB bs s x):=by
 have V:∀ {a:AV} {v:Value},VR E3 a v->VR E2 (rnm bs s a) v:=fun hv=>VR.rnm (E:=E3) (E':=E2) hw hp hσ hv
 cases x with
 | dead=>trivial
 | mapb k0 m0 =>
  obtain ⟨r1,r2⟩:=hB
  exact ⟨he.trans r1,by rw [hw];exact r2⟩
 | lit e l =>
  obtain ⟨k,o,cs,r1,r2,r3,r4⟩:=hB
  refine ⟨k,o,cs,he.trans r1,by rw [hw];exact r2,by rw [rnmL_length];exact r3,fun j a hj=>?_⟩
  rw [rnmL_get] at hj
  cases hl:l[j]? with
  | none=>rw [hl] at hj;cases hj
  | some a0 =>
   rw [hl] at hj
   simp only [Option.map_some,Option.some.injEq] at hj
   subst hj
   obtain ⟨v,y1,y2,y3⟩:=r4 j a0 hl
   exact ⟨v,y1,y2,V y3⟩
 | row e es n c =>
  simp only [rnmB]
  unfold BR at hB ⊢
  rw [he]
  cases hs:E3.σ i with
  | none=>rw [hs] at hB;exact hB
  | some p =>
   rw [hs] at hB
   obtain ⟨cs,r1,r2,r3⟩:=hB
   exact ⟨cs,by rw [hw];exact r1,r2,fun x y hx hy=>by
    obtain ⟨v,y1,y2,y3⟩:=r3 x y hx hy
    exact ⟨v,y1,y2,V y3⟩⟩

theorem edit_gen {f:FuncId} {fn:Func} {code:Code} (c:List AV->List ABlk->AR) {rs:List ResultVar}
  (hf:P.funcs[f]? = some fn) (hn:(fn.name == "runtime.NumGoroutine")=false) (hb:fn.body=some code) (hrs:fn.results.toList=rs) (hnp:∀ l h ob v,c l h ≠ .pure ob v)
  (hw:∀ (l:List AV) (h:List ABlk) (ob:Prop) (v:AV) (h':List ABlk),c l h = .heap ob v h'->ob->∃ (bs:List Nat) (l':List AV) (h0:List ABlk) (v0:AV) (g0:List ABlk),
   gY bs=true/\h0.length=bs.length/\(∀ (i b:Nat),bs[i]? = some b->geth h b ≠ .dead) /\
   (∀ E,HR E h->∀ (i:Nat) (x0:ABlk),h0[i]? = some x0->BR (E.via (dL bs)) i x0)/\(∀ E vs,HR E h->FR E l vs->FR (E.via (dL bs)) l' vs) /\
   v=rnm bs h.length v0/\h'=bN h bs (bR bs h.length g0) ++ bR bs h.length (gR bs g0)/\nfBs g0 /\
   Mean P code (kRet P rs (RetE bs.length v0 g0)) (l' ++ List.replicate (fn.ntmps - l'.length) .top) h0):FnOk P f c:=by
 subst hrs
 have tops:∀ {E:Env} {l':List AV} {vs:Array Value},FR E l' vs->FR E (l' ++ List.replicate (fn.ntmps - l'.length) .top) (vs ++ Array.replicate (fn.ntmps - vs.size) undef):=by
  intro E l' vs F1
  refine wF F1 ⟨by simp [F1.1],fun i a v ha hv=>?_⟩
  rw [List.getElem?_replicate] at ha
  split at ha
  ·injection ha with ha;subst ha;exact .top _
  ·cases ha
 refine ⟨⟨fn,hf,hn,by rw [hb];rfl⟩,fun E h l vs ob v h' H F hr hob=>?_,fun E h l vs ob v H F hr hob=>absurd hr (hnp _ _ _ _)⟩
 cases hc:c l h with
 | fail=>rw [hc] at hr;cases hr
 | pure a b=>exact absurd hc (hnp _ _ _ _)
 | heap ob2 v2 h2 =>
  rw [hc] at hr
  simp only [AR.out,Option.some.injEq,Prod.mk.injEq] at hr
  obtain ⟨rfl,rfl,rfl⟩:=hr
  obtain ⟨bs,l',h0,v0,g0,e1,e2,e3,e4,e5,e6,e7,e8,g4⟩:=hw l h _ _ _ hc hob
  have H0:=in_HR H e1 e2 e3 (e4 E H)
  have F0:=tops (e5 E vs H F)
  have blt:∀ {i b:Nat},bs[i]? = some b->b < h.length:=fun hi=>fK (e3 _ _ hi)
  have own0:∀ k,Own (E.via (dL bs)) h0 k->∃ (i b o:Nat),bs[i]? = some b/\E.σ b=some (k,o):=by
   rintro k ⟨i,x,o,q1,q2,q3⟩
   rw [in_σ] at q3
   cases hi:bs[i]? with
   | none=>rw [hi] at q3;cases q3
   | some b=>rw [hi] at q3;exact ⟨i,b,o,hi,q3⟩
  have own1:∀ k,Own (E.via (dL bs)) h0 k->Own E h k:=fun k hk=>by
   obtain ⟨i,b,o,q1,q2⟩:=own0 k hk
   exact ⟨b,_,o,zS (e3 i b q1),e3 i b q1,q2⟩
  refine calls_of_wp hf hb ?_
  refine g4 (E.via (dL bs)) _ _ H0 F0 rfl fun e E1 a' t' h1 hk X1 H1 F' hd=>?_
  have done:retK P fn.results.toList (RetE bs.length v0 g0) t' h1->a'.defers=[]/\∃ u,(results fn a'.tmps).run P E1.w = .ok u E1.w/\Ret E h h2 v2 (.returned u) E1.w:=by
   intro hk
   obtain ⟨u,v',q1,⟨fz,z1,z2,ν,c1,c2,c3,c4⟩,q3⟩:=kZ (P:=P) H1 F' hk
   refine ⟨hd,u,q1,?_⟩
   obtain ⟨Hf,Xf⟩:=fz_HR H1 z2
   have hv1:=fz_VR H1 q3 z1
   have H3:=(via_HR Hf c2 c3).1
   have X3:=via_Ext H0 Hf (X1.trans Xf) c2 c3 (by rw [e2];exact c4)
   have V3:VR ((E1.fz h1 fz).via ν) v0 u:=eD hv1 _ c1
   have hgl:bs.length <= g0.length:=by rw [(CvH_get c2).1];exact idM_len _ _ _ c4
   have hw3:((E1.fz h1 fz).via ν).w=E1.w:=rfl
   generalize (E1.fz h1 fz).via ν=E3 at H3 X3 V3 hw3
   have old3:∀ (i b:Nat),bs[i]? = some b->E3.σ i=E.σ b:=fun i b hi=>by
    rw [X3.old i (by rw [e2];exact (List.getElem?_eq_some_iff.1 hi).1),in_σ,hi];rfl
   let σ2:Nat->Option (Nat × Nat):=fun b=>if b < h.length then E.σ b else E3.σ (bs.length+(b - h.length))
   let E2:Env:=⟨E3.w,σ2,E3.prot,E3.lo⟩
   have s1:∀ b,b < h.length->E2.σ b=E.σ b:=fun b hb=>if_pos hb
   have s2:∀ b,¬ b < h.length->E2.σ b=E3.σ (bs.length+(b - h.length)):=fun b hb=>if_neg hb
   have hlt:∀ b x,E.σ b=some x->b < h.length:=by
    intro b x hb
    rcases Nat.lt_or_ge b h.length with h'|h'
    ·exact h'
    ·rw [H.fresh b h'] at hb;cases hb
   have hρ:∀ i,E2.σ (fC bs h.length i)=E3.σ i:=fun i=>by
    rcases Nat.lt_or_ge i bs.length with hi|hi
    ·have hb:bs[i]? = some bs[i]:=List.getElem?_eq_getElem hi
     rw [rhoN_in hb,s1 _ (blt hb),old3 i _ hb]
    ·rw [bQ hi,s2 _ (by omega)];congr 1;omega
   have same:∀ k,k < E.w.heap.size->(∀ (i b o:Nat),bs[i]? = some b->E.σ b ≠ some (k,o))->E3.w.heap[k]? = E.w.heap[k]?:=fun k hk hno =>
    X3.frame k hk fun ho=>by obtain ⟨i,b,o,q1,q2⟩:=own0 k ho;exact hno i b o q1 q2
   have K2:Keep E E2:=⟨fun b x hb=>by rw [s1 b (hlt b x hb)];exact hb,X3.prot,fun k hk=>X3.frame k (H.prot k hk).1 fun ho=>(H.prot k hk).2 (own1 k ho),X3.kind,X3.lo⟩
   -- where a block of the new heap comes from
   have hget:∀ {b:Nat} {x:ABlk},(bN h bs (bR bs h.length g0) ++ bR bs h.length (gR bs g0))[b]? = some x ->
     (∃ (i:Nat) (x0:ABlk),b=fC bs h.length i/\g0[i]? = some x0/\x=rnmB bs h.length x0) ∨ (b < h.length/\b ∉ bs/\h[b]? = some x):=by
    intro b x hb
    by_cases hbl:b < h.length
    ·rw [List.getElem?_append_left (by rw [tI];exact hbl)] at hb
     by_cases hm:b ∈ bs
     ·obtain ⟨i,hi⟩:=List.mem_iff_getElem?.1 hm
      have hi':i < g0.length:=Nat.lt_of_lt_of_le (List.getElem?_eq_some_iff.1 hi).1 hgl
      rw [putH_in bs _ h i b (rnmB bs h.length g0[i]) e1 hbl hi (by rw [rnmH_get,List.getElem?_eq_getElem hi'];rfl)] at hb
      injection hb with hb
      exact .inl ⟨i,g0[i],(rhoN_in hi).symm,List.getElem?_eq_getElem hi',hb.symm⟩
     ·rw [putH_out bs _ h b hm] at hb
      exact .inr ⟨hbl,hm,hb⟩
    ·rw [List.getElem?_append_right (by rw [tI];omega),tI,rnmH_get,dropH_get] at hb
     cases hg:g0[bs.length+(b - h.length)]? with
     | none=>rw [hg] at hb;cases hb
     | some x0 =>
      rw [hg] at hb
      simp only [Option.map_some,Option.some.injEq] at hb
      exact .inl ⟨_,x0,by rw [bQ (by omega)];omega,hg,hb.symm⟩
   have hown3:∀ {i:Nat} {x0:ABlk} {k o:Nat},g0[i]? = some x0->x0 ≠ .dead->E3.σ i=some (k,o)->(∃ (j b o:Nat),bs[j]? = some b/\E.σ b=some (k,o)) ∨ E.w.heap.size <= k:=fun h1 h2 h3 =>
    (X3.own _ ⟨_,_,_,h1,h2,h3⟩).imp (own0 _) id
   have apart:∀ {b:Nat} {x:ABlk} {k o:Nat},b ∉ bs->h[b]? = some x->x ≠ .dead->E.σ b=some (k,o)->∀ (i b' o':Nat),bs[i]? = some b'->E.σ b' ≠ some (k,o'):=by
    intro b x k o hm h1 h2 h3 i b' o' h4 h5
    have:=H.inj b b' x _ k o o' h1 h2 (zS (e3 i b' h4)) (e3 i b' h4) h3 h5
    subst this
    exact hm (List.mem_of_getElem? h4)
   have hown:∀ k,Own E2 h2 k->Own E h k ∨ E.w.heap.size <= k:=by
    rintro k ⟨b,x,o,q1,q2,q3⟩
    rw [e7] at q1
    rcases hget q1 with ⟨i,x0,rfl,r1,rfl⟩|⟨r1,r2,r3⟩
    ·rw [hρ] at q3
     rcases hown3 r1 (uK q2) q3 with ⟨j,b,o,a1,a2⟩|h'
     ·exact .inl ⟨b,_,o,zS (e3 j b a1),e3 j b a1,a2⟩
     ·exact .inr h'
    ·rw [s1 b r1] at q3;exact .inl ⟨b,x,o,r3,q2,q3⟩
   have hpro:∀ k,E3.prot k->E.prot k ∨ (∃ (j b o:Nat),bs[j]? = some b/\E.σ b=some (k,o)) ∨ E.w.heap.size <= k:=fun k hk=>by
    rcases X3.pro k hk with h'|h'|h'
    ·exact .inl h'
    ·exact .inr (.inl (own0 k h'))
    ·exact .inr (.inr h')
   refine ⟨u,E2,rfl,hw3,⟨X3.os,X3.tape,X3.output,K2.σ,X3.prot,X3.size,K2.kind,fun k hk hno=>X3.frame k hk fun ho=>hno (own1 k ho),hown,?_,s1,fun k hk=>?_,X3.lo⟩,⟨fun b x hb=>?_,fun b b' x x' k o o' h1 h2 h3 h4 h5 h6=>?_,fun k hk=>?_,fun b hb=>?_,H3.lo⟩,?_⟩
   ·rw [e7,List.length_append,tI];omega
   ·rcases hpro k hk with h'|⟨j,b,o,a1,a2⟩|h'
    ·exact .inl h'
    ·exact .inr (.inl ⟨b,_,o,zS (e3 j b a1),e3 j b a1,a2⟩)
    ·exact .inr (.inr h')
   ·rw [e7] at hb
    rcases hget hb with ⟨i,x0,rfl,r1,rfl⟩|⟨r1,r2,r3⟩
    ·exact out_BR (E3:=E3) (E2:=E2) rfl rfl (fun b x hb=>by rw [hρ];exact hb) (hρ i) (nfBs_get e8 r1) (H3.blk i x0 r1)
    ·by_cases hd:x = .dead
     ·subst hd;trivial
     ·exact (H.blk b x r3).mono K2 (s1 b r1) fun k o hk=>same k ((H.blk b x r3).lt hd hk) (apart r2 r3 hd hk)
   ·rw [e7] at h1 h3
    rcases hget h1 with ⟨i,x0,rfl,r1,rfl⟩|⟨r1,r2,r3⟩<;>rcases hget h3 with ⟨j,y0,rfl,w1,rfl⟩|⟨w1,w2,w3⟩
    ·rw [hρ] at h5 h6
     rw [H3.inj i j x0 y0 k o o' r1 (uK h2) w1 (uK h4) h5 h6]
    ·rw [hρ] at h5;rw [s1 _ w1] at h6
     rcases hown3 r1 (uK h2) h5 with ⟨a,b,o2,a1,a2⟩|hq
     ·exact absurd a2 (apart w2 w3 h4 h6 a b o2 a1)
     ·have:=(H.blk _ _ w3).lt h4 h6;omega
    ·rw [s1 _ r1] at h5;rw [hρ] at h6
     rcases hown3 w1 (uK h4) h6 with ⟨a,b,o2,a1,a2⟩|hq
     ·exact absurd a2 (apart r2 r3 h2 h5 a b o2 a1)
     ·have:=(H.blk _ _ r3).lt h2 h5;omega
    ·rw [s1 _ r1] at h5;rw [s1 _ w1] at h6
     exact H.inj b b' x x' k o o' r3 h2 w3 h4 h5 h6
   ·obtain ⟨p1,p2⟩:=H3.prot k hk
    refine ⟨p1,?_⟩
    rintro ⟨b,x,o,q1,q2,q3⟩
    rw [e7] at q1
    rcases hget q1 with ⟨i,x0,rfl,r1,rfl⟩|⟨r1,r2,r3⟩
    ·rw [hρ] at q3;exact p2 ⟨i,x0,o,r1,uK q2,q3⟩
    ·rw [s1 b r1] at q3
     rcases hpro k hk with h'|⟨j,b',o',a1,a2⟩|h'
     ·exact (H.prot k h').2 ⟨b,x,o,r3,q2,q3⟩
     ·exact apart r2 r3 q2 q3 j b' o' a1 a2
     ·have:=(H.blk _ _ r3).lt q2 q3;omega
   ·rw [e7,List.length_append,tI,rnmH_length,dropH_len] at hb
    rw [s2 b (by omega)]
    exact H3.fresh _ (by omega)
   ·rw [e6]
    exact VR.rnm (E:=E3) (E':=E2) rfl rfl (fun b x hb=>by rw [hρ];exact hb) V3
  cases e with
  | normal=>exact done hk
  | ret=>exact done hk
  | exit id=>exact hk.elim
  | goto l=>exact hk.elim

/-! ### What is given, told inside -/
def EV (bs:List Nat) (a0 a:AV):Prop:=∀ (E:Env) (v:Value),VR E a v->VR (E.via (dL bs)) a0 v
theorem EV_wk {bs:List Nat} {a0 a:AV} (hw:WkV a0 a/\nref a0):EV bs a0 a:=fun E v hv=>VR.view (E:=E) (E':=E.via (dL bs)) (fun k hk=>⟨hk,rfl⟩) (hw.1 E v hv) hw.2
theorem EV_ptr {bs:List Nat} {i b es x y:Nat} (hb:bs[i]? = some b):EV bs (.ptr i es x y) (.ptr b es x y):=fun E v hv=>by
 cases hv with
 | ptr _ _ _ _ k o hσ=>exact .ptr _ _ _ _ k o (by rw [in_σ,hb];exact hσ)
theorem EV_sl {bs:List Nat} {i b es x n:Nat} {nl:Bool} (hb:bs[i]? = some b):EV bs (.sl i es x n false) (.sl b es x n nl):=fun E v hv=>by
 cases hv with
 | sl _ _ _ _ _ a cap hm hcm hnl hz hc =>
  exact .sl _ _ _ _ _ a cap hm hcm (fun h=>by cases h) hz fun hp=>by
   obtain ⟨k,o,cs,e,g1,g2,g3,g4⟩:=hc hp
   exact ⟨k,o,cs,e,by rw [in_σ,hb];exact g1,g2,g3,g4⟩
def EVL (bs:List Nat):List AV->List AV->Prop
 | [],[]=>True
 | a::l,b::m=>EV bs a b/\EVL bs l m
 | _,_=>False
theorem EVL_get {bs:List Nat} {l m:List AV} (hc:EVL bs l m):l.length=m.length/\∀ (i:Nat) (a b:AV),l[i]? = some a->m[i]? = some b->EV bs a b:=by
 induction l generalizing m with
 | nil=>cases m with
  | nil=>exact ⟨rfl,fun i a b ha=>by simp at ha⟩
  | cons b m=>simp [EVL] at hc
 | cons a l ih=>cases m with
  | nil=>simp [EVL] at hc
  | cons b m =>
   simp only [EVL] at hc
   obtain ⟨i1,i2⟩:=ih hc.2
   refine ⟨by simp [i1],fun i x y hx hy=>?_⟩
   cases i with
   | zero=>simp at hx hy;subst hx hy;exact hc.1
   | succ i=>exact i2 i x y (by simpa using hx) (by simpa using hy)
theorem EV_FR {bs:List Nat} {l m:List AV} (hc:EVL bs l m) {vs:Array Value} (F:FR E m vs):FR (E.via (dL bs)) l vs:=by
 obtain ⟨q1,q2⟩:=EVL_get hc
 refine ⟨q1.trans F.1,fun i a v ha hv=>?_⟩
 have hi:i < m.length:=by
  rw [← q1]
  rcases Nat.lt_or_ge i l.length with h'|h'
  ·exact h'
  ·rw [List.getElem?_eq_none h'] at ha;cases ha
 exact q2 i a _ ha (List.getElem?_eq_getElem hi) E v (F.2 i _ v (List.getElem?_eq_getElem hi) hv)
def EB (bs:List Nat) (h:List ABlk) (x0:ABlk) (i:Nat):Prop:=∃ b,bs[i]? = some b/\geth h b ≠ .dead/\∀ (E:Env),HR E h->BR (E.via (dL bs)) i x0
theorem EB_lit {bs:List Nat} {i b:Nat} {e:TypeId} {l m:List AV} (hb:bs[i]? = some b) (hg:geth h b = .lit e m) (hc:EVL bs l m):EB bs h (.lit e l) i:=by
 obtain ⟨q1,q2⟩:=EVL_get hc
 have hnd:geth h b ≠ .dead:=by rw [hg];exact fun e=>by cases e
 refine ⟨b,hb,hnd,fun E H=>?_⟩
 have hB:=H.blk b _ (zS hnd)
 rw [hg] at hB
 obtain ⟨k,o,cs,r1,r2,r3,r4⟩:=hB
 refine ⟨k,o,cs,by rw [in_σ,hb];exact r1,r2,by rw [q1];exact r3,fun j a ha=>?_⟩
 have hi:j < m.length:=by
  rw [← q1]
  rcases Nat.lt_or_ge j l.length with h'|h'
  ·exact h'
  ·rw [List.getElem?_eq_none h'] at ha;cases ha
 obtain ⟨v,y1,y2,y3⟩:=r4 j _ (List.getElem?_eq_getElem hi)
 exact ⟨v,y1,y2,q2 j a _ ha (List.getElem?_eq_getElem hi) E v y3⟩
theorem EB_row {α:Type} [Inhabited α] {f:α->List AV} {g:(Nat->AV)->α} {k:(Nat->AV)->Prop} {bs:List Nat} {i b es n:Nat} {e:TypeId} {c:Nat->Nat->AV} (hw:∀ r,k r->∀ y,y < es->WkV (getL (f (g r)) y) (r y)/\nref (getL (f (g r)) y))
  (hb:bs[i]? = some b) (hg:geth h b = .row e es n c) (hk:Fit k n c) {L:List α} (hL:deR g n c=L):EB bs h (.row e es L.length (enR f L)) i:=by
 subst hL
 have hnd:geth h b ≠ .dead:=by rw [hg];exact fun e=>by cases e
 refine ⟨b,hb,hnd,fun E H=>?_⟩
 have hB:=H.blk b _ (zS hnd)
 rw [hg] at hB
 rw [deR_length]
 unfold BR at hB ⊢
 rw [in_σ,hb]
 show (match E.σ b with|none=>n=0|some (k,o)=>_)
 cases hs:E.σ b with
 | none=>rw [hs] at hB;exact hB
 | some p =>
  rw [hs] at hB
  obtain ⟨cs,r1,r2,r3⟩:=hB
  refine ⟨cs,r1,r2,fun x y hx hy=>?_⟩
  obtain ⟨v,y1,y2,y3⟩:=r3 x y hx hy
  obtain ⟨w1,w2⟩:=hw _ (hk x hx) y hy
  refine ⟨v,y1,y2,?_⟩
  rw [enR_row,deR_get hx]
  exact VR.view (E:=E) (E':=E.via (dL bs)) (fun k hk=>⟨hk,rfl⟩) (w1 E v y3) w2
def EBs (bs:List Nat) (h:List ABlk):List ABlk->Nat->Prop
 | [],_=>True
 | x::l,i=>EB bs h x i/\EBs bs h l (i+1)
theorem EBs_get {bs:List Nat}:∀ (l:List ABlk) (s:Nat),EBs bs h l s->∀ (i:Nat) (x:ABlk),l[i]? = some x->EB bs h x (s+i)
 | [],s,_,i,x,hi=>by simp at hi
 | y::l,s,hb,0,x,hi=>by simp at hi;subst hi;exact hb.1
 | y::l,s,hb,i+1,x,hi=>by
  have:=EBs_get l (s+1) hb.2 i x (by simpa using hi)
  rwa [show s+1+i=s+(i+1) from by omega] at this
inductive ED where
 | fail
 | ed (bs:List Nat) (ob:Prop) (v0:AV) (g0:List ABlk)
def edR (h:List ABlk):ED->AR
 | .fail=>.fail
 | .ed bs ob v0 g0=>.heap (gY bs=true/\ob) (rnm bs h.length v0) (bN h bs (bR bs h.length g0) ++ bR bs h.length (gR bs g0))
def edC (body:List AV->List ABlk->ED) (l:List AV) (h:List ABlk):AR:=edR h (body l h)
theorem edit_fnM {f:FuncId} {fn:Func} {code:Code} (body:List AV->List ABlk->ED) {rs:List ResultVar}
  (hf:P.funcs[f]? = some fn) (hn:(fn.name == "runtime.NumGoroutine")=false) (hb:fn.body=some code) (hrs:fn.results.toList=rs)
  (hw:∀ (l:List AV) (h:List ABlk) (bs:List Nat) (ob:Prop) (v0:AV) (g0:List ABlk),body l h = .ed bs ob v0 g0->ob->∃ (l':List AV) (h0:List ABlk),h0.length=bs.length/\EVL bs l' l/\EBs bs h h0 0/\nfBs g0 /\
   Mean P code (kRet P rs (RetE bs.length v0 g0)) (l' ++ List.replicate (fn.ntmps - l'.length) .top) h0):FnOk P f (edC body):=by
 refine edit_gen (edC body) hf hn hb hrs (fun l h ob v hc=>?_) fun l h ob v h' hc hob=>?_
 ·unfold edC at hc
  cases hq:body l h<;>rw [hq] at hc<;>cases hc
 ·unfold edC at hc
  cases hq:body l h with
  | fail=>rw [hq] at hc;cases hc
  | ed bs ob0 v0 g0 =>
   rw [hq] at hc
   simp only [edR,AR.heap.injEq] at hc
   obtain ⟨rfl,rfl,rfl⟩:=hc
   obtain ⟨l',h0,a1,a2,a3,a4,a5⟩:=hw l h bs ob0 v0 g0 hq hob.2
   refine ⟨bs,l',h0,v0,g0,hob.1,a1,fun i b hi=>?_,fun E H i x0 hi=>?_,fun E vs H F=>EV_FR a2 F,rfl,rfl,a4,a5⟩
   ·have hi':i < h0.length:=by rw [a1];exact (List.getElem?_eq_some_iff.1 hi).1
    obtain ⟨b',q1,q2,_⟩:=EBs_get h0 0 a3 i _ (List.getElem?_eq_getElem hi')
    rw [Nat.zero_add,hi] at q1
    injection q1 with q1;subst q1;exact q2
   ·obtain ⟨b',q1,q2,q3⟩:=EBs_get h0 0 a3 i x0 hi
    rw [Nat.zero_add] at q3
    exact q3 E H
end Go.Am

namespace Go.Am
set_option linter.unusedVariables false
variable {P:Program} {E:Env} {h:List ABlk}
theorem wG {c:Bool} {p:Prop} (h1:c=true->p) (h2:c=false->p):p:=by
 cases c
 ·exact h2 rfl
 ·exact h1 rfl
def ptB:AV->Nat
 | .ptr b _ _ _=>b
 | _=>0
def slN:AV->Nat
 | .sl b _ _ _ _=>b
 | _=>0
def litL:ABlk->List AV
 | .lit _ l=>l
 | _=>[]
def yA (h:List ABlk) (v:AV):List AV:=litL (geth h (ptB v))
def isLit (e z:Nat):ABlk->Prop
 | .lit e' l=>e'=e/\l.length=z
 | _=>False
def pK (e z:Nat) (h:List ABlk):AV->Prop
 | .ptr b es i j=>es=0/\i=0/\j=0/\isLit e z (geth h b)
 | _=>False
def isRow (e es n:Nat):ABlk->Prop
 | .row e' es' N c=>e'=e/\es'=es/\N=n
 | _=>False
def oS (e es:Nat) (h:List ABlk):AV->Prop
 | .sl b es' i n _=>es'=es/\i=0/\isRow e es n (geth h b)
 | _=>False
theorem isLit_eq {e z:Nat} {x:ABlk} (hx:isLit e z x):x = .lit e (litL x)/\(litL x).length=z:=by
 cases x<;>simp only [isLit] at hx
 obtain ⟨rfl,rfl⟩:=hx
 exact ⟨rfl,rfl⟩
theorem pK_eq {e z:Nat} {v:AV} (hk:pK e z h v):v = .ptr (ptB v) 0 0 0/\geth h (ptB v) = .lit e (yA h v)/\(yA h v).length=z:=by
 cases v<;>simp only [pK] at hk
 obtain ⟨rfl,rfl,rfl,hl⟩:=hk
 exact ⟨rfl,isLit_eq hl⟩
theorem EV_pK {bs:List Nat} {e z i:Nat} {v:AV} (hk:pK e z h v) (hb:bs[i]? = some (ptB v)):EV bs (.ptr i 0 0 0) v:=by
 rw [(pK_eq hk).1]
 exact EV_ptr hb
theorem EVL_of {bs:List Nat}:∀ {l m:List AV},l.length=m.length->(∀ i,i < l.length->EV bs (getL l i) (getL m i))->EVL bs l m
 | [],[],_,_=>trivial
 | [],_::_,hl,_=>by simp at hl
 | _::_,[],hl,_=>by simp at hl
 | a::l,b::m,hl,hh=>⟨hh 0 (by simp),EVL_of (by simpa using hl) fun i hi=>hh (i+1) (by simpa using hi)⟩
theorem EB_pK {bs:List Nat} {e z i:Nat} {v:AV} {l:List AV} (hk:pK e z h v) (hb:bs[i]? = some (ptB v)) (hl:l.length=z) (hc:∀ i,i < z->EV bs (getL l i) (getL (yA h v) i)):EB bs h (.lit e l) i:=by
 obtain ⟨_,h2,h3⟩:=pK_eq hk
 exact EB_lit hb h2 (EVL_of (hl.trans h3.symm) fun i hi=>hc i (by omega))
theorem roW_id {a:AV} (hn:nref a):roW h a=a:=by
 cases a<;>simp only [nref] at hn<;>rfl
theorem uQ {bs:List Nat} {a0 a:AV} (hn:nref a) (hw:WkV a0 (roW h a)/\nref a0):EV bs a0 a:=by
 rw [roW_id hn] at hw
 exact EV_wk hw
theorem wT {α:Type} [Inhabited α] {f:α->List AV} {g:(Nat->AV)->α} {k:(Nat->AV)->Prop} {bs:List Nat} {i es:Nat} {e:TypeId} {a:AV} (hw:∀ {r:Nat->AV},k r->∀ y,y < es->WkV (getL (f (g r)) y) (r y)/\nref (getL (f (g r)) y))
  (hs:oS e es h a) (hk:lK k es (roW h a)) {L:List α} (hL:lA g (roW h a)=L) (hb:bs[i]? = some (slN a)):EV bs (.sl i es 0 L.length false) a/\EB bs h (.row e es L.length (enR f L)) i:=by
 cases a<;>simp only [oS] at hs
 rename_i b es' x n nl
 obtain ⟨rfl,rfl,hr⟩:=hs
 have hg:∃ c,geth h b = .row e es' n c:=by
  cases hq:geth h b<;>rw [hq] at hr<;>simp only [isRow] at hr
  obtain ⟨rfl,rfl,rfl⟩:=hr
  exact ⟨_,rfl⟩
 obtain ⟨c,hg⟩:=hg
 simp only [roW,hg,lK,lA] at hk hL
 have hsub:wR 0 c=c:=by funext x y;simp [wR]
 rw [hsub] at hk hL
 have hn:L.length=n:=by rw [← hL,deR_length]
 exact ⟨by rw [hn];exact EV_sl hb,EB_row (fun r hr=>hw hr) hb hg hk.2 hL⟩
theorem yQ (l:List AV) (i:Nat):getL (kK h l) i=roW h (getL l i):=dJ l i
theorem yE {n:Nat} {v0 v':AV} {g0 hf:List ABlk} (fz:List Nat) (ν:Mu) (h1:wJ hf fz v') (h2:tU hf fz hf) (h3:Cv ν v0 (fzV hf fz v')) (h4:CvH ν (fzH hf fz) g0 ν) (h5:injM (dE ν g0)=true) (h6:idM 0 n ν=true):RetE n v0 g0 v' hf :=
 ⟨fz,h1,h2,ν,h3,h4,h5,h6⟩
theorem yY {α:Type} [Inhabited α] {e es n:Nat} {f:α->List AV} {L:List α} (hr:∀ a,nrefL (f a)):nfB (.row e es n (enR f L)):=trivial
theorem CvB_pre {α:Type} [Inhabited α] {f:α->List AV} {μ:Mu} {e es N m:Nat} {c:Nat->Nat->AV} {L:List α} (hr:∀ a,nrefL (f a)) (hN:L.length <= N) (hc:∀ x y,x < L.length->y < es->enR f L x y=c x y) :
  CvB μ (.row e es L.length (enR f L)) (some m) (.row e es N c):=by
 simp only [CvB]
 refine ⟨trivial,trivial,hN,fun x y hx hy=>?_⟩
 rw [← hc x y hx hy]
 exact Cv_refl _ (nfR_en hr)
/-! ### Two contracts of one function -/
end Go.Am

namespace Go.Am
set_option linter.unusedVariables false
theorem deR_2 {α:Type} {g:(Nat->AV)->α} {c:Nat->Nat->AV}:deR g 2 c=[g (c 0),g (c 1)]:=rfl
theorem deR_3 {α:Type} {g:(Nat->AV)->α} {c:Nat->Nat->AV}:deR g 3 c=[g (c 0),g (c 1),g (c 2)]:=rfl
theorem deR_4 {α:Type} {g:(Nat->AV)->α} {c:Nat->Nat->AV}:deR g 4 c=[g (c 0),g (c 1),g (c 2),g (c 3)]:=rfl
theorem litC_x0 {z y:Nat} {l:List AV}:cB z l 0 y=getL l (0 * z+y):=rfl
theorem litC_x1 {z y:Nat} {l:List AV}:cB z l 1 y=getL l (1 * z+y):=rfl
theorem litC_x2 {z y:Nat} {l:List AV}:cB z l 2 y=getL l (2 * z+y):=rfl
theorem litC_x3 {z y:Nat} {l:List AV}:cB z l 3 y=getL l (3 * z+y):=rfl
def mkb (by_:Nat) (n c:Int):Bool:=decide (0 <= n/\n <= c/\(by_:Int) * c <= 140737488355328/\c <= 140737488355328)
theorem mkb_iff {by_:Nat} {n c:Int}:mkb by_ n c=true ↔ 0 <= n/\n <= c/\(by_:Int) * c <= 140737488355328/\c <= 140737488355328:=by simp [mkb]
theorem rep_row {α:Type} [Inhabited α] {f:α->List AV} {l:List AV} (n:Nat) (d:α) {es:Nat} (h:f d=l):∀ x y,x < (List.replicate n d).length->y < es->enR f (List.replicate n d) x y=(fun _ y=>getL l y) x y:=by
 intro x y hx _
 rw [List.length_replicate] at hx
 simp only [enR]
 rw [show gd (List.replicate n d) x=d from by simp [gd,List.getD_eq_getElem?_getD,hx],h]
theorem take_row {α:Type} [Inhabited α] {f:α->List AV} {L:List α} {n es:Nat}:∀ x y,x < (List.take n L).length->y < es->enR f (List.take n L) x y=enR f L x y:=by
 intro x y hx _
 rw [List.length_take] at hx
 simp only [enR]
 rw [gd_take (by omega)]
theorem app_row2 {α:Type} [Inhabited α] {f:α->List AV} {n:Nat} {L:List α} (hn:L.length=n) (L' M:List α) {es:Nat} {c d:Nat->Nat->AV} (h1:∀ x y,x < L'.length->y < es->enR f L' x y=c x y) (h2:∀ x y,x < M.length->y < es->enR f M x y=d x y) (e:L'=L:=by rfl) :
  ∀ x y,x < (L' ++ M).length->y < es->enR f (L' ++ M) x y=uL n c d x y:=by
 subst e hn
 exact vO L' M h1 h2
end Go.Am

namespace Go.Am
set_option linter.unusedVariables false
variable {P:Program} {E:Env} {h:List ABlk}
def uC (P:Program) (ops:Array Oper) (l:List Oper) (K:Kt) (t:List AV) (h:List ABlk):Prop :=
 ∀ (E:Env) (a:Act) (Q:Exit->Act->World->Prop),HR E h->FR E t a.tmps->a.defers=[] ->
  (∀ (e:Ex) (E':Env) (a':Act) (t':List AV) (h':List ABlk),K e t' h'->Ext E h E' h'->HR E' h'->FR E' t' a'.tmps->a'.defers=[]->Q e.ex a' E'.w)->wpList P ops Q l a E.w
def kO (P:Program) (ops:Array Oper) (rest:List Oper) (K:Kt):Kt
 | .normal,t,h=>uC P ops rest K t h
 | .exit id,t,h=>K (.exit id) t h
 | .ret,t,h=>K .ret t h
 | .goto l,t,h=>K (.goto l) t h
theorem zV {ops:Array Oper} {rest:List Oper} {K:Kt} {t:List AV}:kO P ops rest K .normal t h=uC P ops rest K t h:=rfl
theorem qP {id:Nat} {ops:Array Oper} {K:Kt} {t:List AV} (hm:uC P ops ops.toList K t h):Mean P (.region id ops false) K t h:=by
 intro E a Q H F hd hQ
 exact wp_region_list (hm E a Q H F hd hQ)
theorem tY {ops:Array Oper} {K:Kt} {t:List AV} (hm:K .normal t h):uC P ops [] K t h:=by
 intro E a Q H F hd hQ
 exact hQ .normal E a t h hm (Ext.refl _ _) H F hd
theorem fzO (fz:List Nat) {ops:Array Oper} {l:List Oper} {K:Kt} {t:List AV} (ho:qH h fz t/\tU h fz h) (hm:uC P ops l K (fzL h fz t) (fzH h fz)):uC P ops l K t h:=by
 intro E a Q H F hd hQ
 obtain ⟨H1,X1⟩:=fz_HR H ho.2
 exact hm (E.fz h fz) a Q H1 (fz_FR H F ho.1) hd fun e E' a' t' h' hk X H' F' hd'=>hQ e E' a' t' h' hk (X1.trans X) H' F' hd'
theorem segO {sh:TypeId->Option (List Leaf)} {ct:Ct} (S:cP P sh) (C:yP P ct) {ops:Array Oper} {K:Kt} {rest:List Oper} (l:List Oper) :
  ∀ {t:List AV} {h:List ABlk},wpO P sh ct ops.toList (kO P ops rest K) l t h->uC P ops (l ++ rest) K t h:=by
 have key:∀ (l:List Oper) (Q:Exit->Act->World->Prop) (E:Env) (t:List AV) (h:List ABlk) (a:Act),HR E h->FR E t a.tmps->a.defers=[]->wpO P sh ct ops.toList (kO P ops rest K) l t h ->
   (∀ (e:Ex) (E':Env) (a':Act) (t':List AV) (h':List ABlk),K e t' h'->Ext E h E' h'->HR E' h'->FR E' t' a'.tmps->a'.defers=[]->Q e.ex a' E'.w)->wpList P ops Q (l ++ rest) a E.w:=by
  intro l Q
  induction l with
  | nil=>exact fun E t h a H F hd hw hQ=>hw E a Q H F hd hQ
  | cons o l ih =>
   intro E t h a H F hd hw hQ
   obtain ⟨g1,g2⟩:=kT (ops:=ops) rfl (o:=o) F
   simp only [wpO] at hw
   have put_defers:∀ d v,(a.put d v).defers=[]:=by
    intro d v
    cases d with
    | none=>exact hd
    | some d=>exact hd
   have run:∀ ob v h',(evO P sh ct t h o.op).out h=some (ob,v,h')->uA t o.op->ob->∀ x,(∀ E' r,VR E' v r->VR E' x r)->wpO P sh ct ops.toList (kO P ops rest K) l (wZ t o.dst x) h'->o.wp P a E.w (wpList P ops Q (l ++ rest)) Q:=by
    intro ob v h' hr hog hob x hx hw
    refine op_sound S C H F hr hob hog fun r E' X H' hv=>?_
    exact ih E' _ h' _ H' (qQ (uZ (X.keep H) F) (hx _ _ hv) o.dst) (put_defers _ _) hw fun e E2 a' t' h2 hk X2 H2 F2 hd2=>hQ e E2 a' t' h2 hk (X.trans X2) H2 F2 hd2
   have skip:∀ x,wpO P sh ct ops.toList (kO P ops rest K) l (wZ t o.dst (.opt false x)) h->wpList P ops Q (l ++ rest) (a.put o.dst undef) E.w:=by
    intro x hw
    exact ih E _ h _ H (qQ F (.opt_f x) o.dst) (put_defers _ _) hw hQ
   have optT:∀ v E' r,VR E' v r->VR E' (.opt true v) r:=fun v E' r h=>.opt_t v r h
   rw [List.cons_append]
   unfold wpList
   unfold nxt at hw
   split at hw
   ·rename_i hg
    rw [if_pos (g1 hg)]
    refine .inl ?_
    split at hw
    ·rename_i ob v hr;obtain ⟨q1,q2,q3⟩:=hw;exact run ob v h (by rw [hr];rfl) q1 q2 v (fun _ _ h=>h) q3
    ·rename_i ob v h' hr;obtain ⟨q1,q2,q3⟩:=hw;exact run ob v h' (by rw [hr];rfl) q1 q2 v (fun _ _ h=>h) q3
    ·exact hw.elim
   ·rename_i b hg
    rw [g2 b hg]
    split at hw
    ·rename_i ob v hr
     obtain ⟨q1,q3⟩:=hw
     cases b with
     | true=>rw [if_pos rfl];exact .inl (run ob v h (by rw [hr];rfl) (q1 rfl).1 (q1 rfl).2 _ (optT v) q3)
     | false=>rw [if_neg (by simp)];exact skip _ q3
    ·rename_i ob v h' hr
     obtain ⟨q1,q3⟩:=hw
     cases b with
     | true=>rw [if_pos rfl];exact .inl (run ob v h' (by rw [hr];rfl) (q1 rfl).1 (q1 rfl).2.1 _ (optT v) (q1 rfl).2.2)
     | false=>rw [if_neg (by simp)];exact skip _ (q3 rfl)
    ·obtain ⟨rfl,q3⟩:=hw
     rw [if_neg (by simp)]
     exact skip _ q3
   ·exact hw.elim
 intro t h hw E a Q H F hd hQ
 exact key l Q E t h a H F hd hw hQ
theorem wL {sh:TypeId->Option (List Leaf)} {ct:Ct} (S:cP P sh) (C:yP P ct) (n:Nat) {ops:Array Oper} {K:Kt} {l:List Oper} {t:List AV}
  (hw:wpO P sh ct ops.toList (kO P ops (l.drop n) K) (l.take n) t h):uC P ops l K t h:=by
 have:=segO S C (rest:=l.drop n) (l.take n) hw
 rwa [List.take_append_drop] at this
/-! ### What is cleared -/
theorem clr_row {α:Type} [Inhabited α] {f:α->List AV} {L:List α} {lo n es:Nat} {c z:Nat->Nat->AV} (h:∀ x y,x < L.length->y < es->enR f L x y=c x y) :
  ∀ x y,x < (List.take lo L).length->y < es->enR f (List.take lo L) x y=jM lo n c z x y:=by
 intro x y hx hy
 rw [List.length_take] at hx
 rw [take_row x y (by rw [List.length_take];exact hx) hy,h x y (by omega) hy]
 unfold jM
 rw [if_neg (by omega)]
theorem dK {α:Type} {L:List α} {lo n:Nat} (hn:L.length=n) (h:lo <= n):(List.take lo L).length=lo:=by rw [List.length_take];omega
def ovwL {α:Type} (L:List α) (i:Nat) (M:List α):List α:=L.take i ++ M ++ L.drop (i+M.length)
theorem ovw_len {α:Type} {L M:List α} {i n m:Nat} (hn:L.length=n) (hm:M.length=m) (h:i+m <= n):(ovwL L i M).length=max n (i+m):=by
 simp only [ovwL,List.length_append,List.length_take,List.length_drop];omega
theorem ovw_row {α:Type} [Inhabited α] {f:α->List AV} {L M:List α} {i n m es:Nat} {c d:Nat->Nat->AV} (hn:L.length=n) (hm:M.length=m) (hi:i+m <= n) (h1:∀ x y,x < L.length->y < es->enR f L x y=c x y) (h2:∀ x y,x < M.length->y < es->enR f M x y=d x y) :
  ∀ x y,x < (ovwL L i M).length->y < es->enR f (ovwL L i M) x y=jM i m c d x y:=by
 intro x y hx hy
 rw [ovw_len hn hm hi] at hx
 have hl:(L.take i).length=i:=by rw [List.length_take];omega
 have e:∀ k,gd (ovwL L i M) k=if k < i then gd L k else if k < i+m then gd M (k - i) else gd L k:=by
  intro k
  unfold ovwL
  by_cases h3:k < i
  ·rw [if_pos h3,qJ (by rw [List.length_append];omega),qJ (by omega),gd_take h3]
  ·rw [if_neg h3]
   by_cases h4:k < i+m
   ·rw [if_pos h4,qJ (by rw [List.length_append];omega),gD (by omega),hl]
   ·rw [if_neg h4,gD (by rw [List.length_append];omega),gd_drop,List.length_append,hl];congr 1;omega
 simp only [enR,e]
 unfold jM
 by_cases h3:x < i
 ·rw [if_pos h3,if_neg (by omega)];exact h1 x y (by omega) hy
 ·rw [if_neg h3]
  by_cases h4:x < i+m
  ·rw [if_pos h4,if_pos (by omega)];exact h2 _ y (by omega) hy
  ·rw [if_neg h4,if_neg (by omega)];exact h1 x y (by omega) hy
end Go.Am

namespace Go.Am
set_option linter.unusedVariables false
variable {P:Program} {E:Env} {h:List ABlk}
theorem arr_row {f:Int->List AV} {L:List Int} {c:Nat->Nat->AV} (hx:∀ x,x < L.length->getL (f (gd L x)) 0=c x 0):∀ x y,x < L.length->y < 1->enR f L x y=c x y:=by
 intro x y h hy
 obtain rfl:y=0:=by omega
 exact hx x h
def gok (t:List AV) (all:List Oper) (g:Option (Nat × Bool)):Bool:=match gval t all g with
 | .none=>true
 | .g b=>b
 | .bad=>false
theorem gok_wanted {E:Env} {ops:Array Oper} {t:List AV} {a:Act} (F:FR E t a.tmps) {o:Oper} (h:gok t ops.toList o.guard=true):Region.wanted o (yielded ops a.tmps)=true:=by
 obtain ⟨g1,g2⟩:=kT (ops:=ops) rfl (o:=o) F
 unfold gok at h
 split at h
 ·rename_i e;exact g1 e
 ·rename_i b e;rw [g2 b e];exact h
 ·cases h
theorem nfR_ovw {s m x y:Nat} {c d:Nat->Nat->AV} (h1:∀ x y,nref (c x y)) (h2:∀ x y,nref (d x y)):nref (jM s m c d x y):=by
 simp only [jM];split
 ·exact h2 _ _
 ·exact h1 _ _
theorem nfR_getL {l:List AV} {y:Nat} (hl:nrefL l):nref (getL l y):=vM hl _
/-! ### Facts of the cells of types, found by type -/
class NRf {α:Type} (f:α->List AV):Prop where
 h:∀ a,nrefL (f a)
class KCf {α:Type} (k:(Nat->AV)->Prop) (f:α->List AV):Prop where
 h:∀ a,k (getL (f a))
theorem nfR_enI {α:Type} [Inhabited α] {f:α->List AV} [i:NRf f] {x y:Nat} {L:List α}:nref (enR f L x y):=nfR_en i.h
end Go.Am

namespace Go.Am
set_option linter.unusedVariables false
section
variable {H:Type} {enc:TypeId × Value->H} {P:Program} {w:World} {spare:Nat->Bool} {held:Bool} {fuel:Nat} {t:TypeId} {cs:List Value} {x:DataW H × List MemPlace}
end
end Go.Am

namespace Go.Am
set_option linter.unusedVariables false
class NfV (a:AV):Prop where
 h:nref a
class NfL (l:List AV):Prop where
 h:nrefL l
class NfC (c:Nat->Nat->AV):Prop where
 h:∀ x y,nref (c x y)
instance {k:IntKind} {n:Int}:NfV (.int k n):=⟨by simp only [nref]⟩
instance {b:Bool}:NfV (.bool b):=⟨by simp only [nref]⟩
instance {s:ByteArray}:NfV (.str s):=⟨by simp only [nref]⟩
instance {es n:Nat} {nl:Bool} {c:Nat->Nat->AV}:NfV (.ro es n nl c):=⟨by simp only [nref]⟩
instance {es n i j:Nat} {c:Nat->Nat->AV}:NfV (.rptr es n i j c):=⟨by simp only [nref]⟩
instance:NfV .top:=⟨by simp only [nref]⟩
instance:NfV .nilp:=⟨by simp only [nref]⟩
instance:NfV .nilf:=⟨by simp only [nref]⟩
instance:NfV .emp:=⟨by simp only [nref]⟩
instance:NfL []:=⟨by simp only [nrefL]⟩
instance {a:AV} {l:List AV} [i:NfV a] [j:NfL l]:NfL (a::l):=⟨by simp only [nrefL];exact ⟨i.h,j.h⟩⟩
instance {l:List AV} [i:NfL l]:NfV (.agg l):=⟨by simp only [nref];exact i.h⟩
instance {l:List AV} [i:NfL l]:NfV (.tup l):=⟨by simp only [nref];exact i.h⟩
instance {f:FuncId} {l:List AV} [i:NfL l]:NfV (.fn f l):=⟨by simp only [nref];exact i.h⟩
instance {f:FuncId} {l:List AV} [i:NfL l]:NfV (.mfn f l):=⟨by simp only [nref];exact i.h⟩
instance {g:Bool} {v:AV} [i:NfV v]:NfV (.opt g v):=⟨by simp only [nref];exact i.h⟩
instance {α:Type} [Inhabited α] {f:α->List AV} [i:NRf f] {L:List α}:NfC (enR f L):=⟨fun x y=>nfR_en i.h⟩
instance {z:Nat} {l:List AV} [i:NfL l]:NfC (cB z l):=⟨fun x y=>nfR_lit i.h⟩
instance {l:List AV} [i:NfL l]:NfC (fun _ y=>getL l y):=⟨fun x y=>nfR_getL i.h⟩
instance {l:List AV} {k:Nat} [i:NfL l]:NfC (fun x y=>getL l (x * k+y)):=⟨fun x y=>nfR_getL i.h⟩
instance {l:List AV} {k o:Nat} [i:NfL l]:NfC (fun x y=>getL l (o+x * k+y)):=⟨fun x y=>nfR_getL i.h⟩
instance {k:Nat} {c d:Nat->Nat->AV} [i:NfC c] [j:NfC d]:NfC (uL k c d):=⟨fun x y=>nfR_app i.h j.h⟩
instance {i p m:Nat} {c d:Nat->Nat->AV} [a:NfC c] [b:NfC d]:NfC (cK i p m c d):=⟨fun x y=>nfR_ins a.h b.h⟩
instance {i p m:Nat} {c:Nat->Nat->AV} [a:NfC c]:NfC (delA i p m c):=⟨fun x y=>nfR_del a.h⟩
instance {i j:Nat} {c:Nat->Nat->AV} {vs:List AV} [a:NfC c] [b:NfL vs]:NfC (upc c i j vs):=⟨fun x y=>nfR_upc a.h b.h⟩
instance {s m:Nat} {c d:Nat->Nat->AV} [a:NfC c] [b:NfC d]:NfC (jM s m c d):=⟨fun x y=>nfR_ovw a.h b.h⟩
instance {i:Nat} {c:Nat->Nat->AV} [a:NfC c]:NfC (wR i c):=⟨fun x y=>a.h _ _⟩
theorem nfA {c:Nat->Nat->AV} [i:NfC c]:∀ x y,nref (c x y):=i.h
theorem nfc {c:Nat->Nat->AV} [i:NfC c] {n es:Nat}:∀ x y,x < n->y < es->nref (c x y):=fun x y _ _=>i.h x y
theorem nrc {c:Nat->Nat->AV} [i:NfC c] {k n es:Nat}:∀ x y,x < n->y < es->nr k (c x y):=fun x y _ _=>nr_nref (i.h x y)
theorem jF {α:Type} [Inhabited α] {k:(Nat->AV)->Prop} {f:α->List AV} [i:KCf k f] {n:Nat} {L:List α}:Fit k n (enR f L):=Fit_enR i.h
end Go.Am

namespace Go.Am
set_option linter.unusedVariables false
variable {P:Program} {E:Env} {h:List ABlk}
mutual
theorem ren_00:∀ a:AV,ren 0 0 a=a
 | .ptr b es i j=>by simp [ren,rnN]
 | .sl b es i n nl=>by simp [ren,rnN]
 | .isl b es i j z n=>by simp [ren,rnN]
 | .csl b es i n c=>by simp [ren,rnN]
 | .agg l=>by simp only [ren];rw [renL_00 l]
 | .tup l=>by simp only [ren];rw [renL_00 l]
 | .fn f l=>by simp only [ren];rw [renL_00 l]
 | .mfn f l=>by simp only [ren];rw [renL_00 l]
 | .opt g v=>by simp only [ren];rw [ren_00 v]
 | .rptr es n i j c=>by simp only [ren]
 | .ro es n nl c=>by simp only [ren]
 | .top=>by simp only [ren]
 | .bool b=>by simp only [ren]
 | .int k n=>by simp only [ren]
 | .str s=>by simp only [ren]
 | .nilp=>by simp only [ren]
 | .emp=>by simp only [ren]
 | .nilf=>by simp only [ren]
 | .ub=>by simp only [ren]
 | .val v=>by simp only [ren]
 | .mp v=>by simp only [ren]
theorem renL_00:∀ l:List AV,qB 0 0 l=l
 | []=>by simp only [qB]
 | a::l=>by simp only [qB];rw [ren_00 a,renL_00 l]
end
theorem VR.noro {E':Env} (hw:E'.w=E.w) (hσ:∀ b x,E.σ b=some x->E'.σ b=some x) {a:AV} {v:Value} (h:VR E a v) (hn:Am.noro a):VR E' a v:=by
 have:=VR.exp (E:=E) (E':=E') (L:=0) (s:=0) hw (fun b x hb=>by rw [show rnN 0 0 b=b from by simp [rnN]];exact hσ b x hb) h hn
 rwa [ren_00] at this
def kP:ABlk->Prop
 | .mapb _ _=>True
 | .dead=>True
 | .lit _ l=>yK l
 | .row _ es n c=>∀ x y,x < n->y < es->noro (c x y)
def noroBs:List ABlk->Prop
 | []=>True
 | x::l=>kP x/\noroBs l
theorem noroBs_get {l:List ABlk} (hn:noroBs l) {i:Nat} {x:ABlk} (hi:l[i]? = some x):kP x:=by
 induction l generalizing i with
 | nil=>simp at hi
 | cons b l ih =>
  simp only [noroBs] at hn
  cases i with
  | zero=>simp at hi;subst hi;exact hn.1
  | succ i=>exact ih hn.2 (by simpa using hi)
theorem BR_noro {E':Env} (hw:E'.w=E.w) (hσ:E'.σ=E.σ) {i:Nat} {x:ABlk} (hB:BR E i x) (hn:kP x):BR E' i x:=by
 have V:∀ {a:AV} {v:Value},VR E a v->noro a->VR E' a v:=fun hv hn=>VR.noro hw (fun b x hb=>by rw [hσ];exact hb) hv hn
 cases x with
 | dead=>trivial
 | mapb k0 m0 =>
  obtain ⟨r1,r2⟩:=hB
  exact ⟨by rw [hσ];exact r1,by rw [hw];exact r2⟩
 | lit e l =>
  obtain ⟨k,o,cs,r1,r2,r3,r4⟩:=hB
  exact ⟨k,o,cs,by rw [hσ];exact r1,by rw [hw];exact r2,r3,fun j a hj=>by obtain ⟨v,q1,q2,q3⟩:=r4 j a hj;exact ⟨v,q1,q2,V q3 (noroL_get hn hj)⟩⟩
 | row e es n c =>
  unfold BR at hB ⊢
  rw [hσ]
  cases hs:E.σ i with
  | none=>rw [hs] at hB;exact hB
  | some p =>
   rw [hs] at hB
   obtain ⟨cs,r1,r2,r3⟩:=hB
   exact ⟨cs,by rw [hw];exact r1,r2,fun x y hx hy=>by obtain ⟨v,q1,q2,q3⟩:=r3 x y hx hy;exact ⟨v,q1,q2,V q3 (hn x y hx hy)⟩⟩
def gvn (E:Env) (bs:List Nat) (k:Nat):Prop:=∃ (i b o:Nat),bs[i]? = some b/\E.σ b=some (k,o)
def Env.see (E:Env) (bs:List Nat):Env:=⟨E.w,(E.via (dL bs)).σ,fun k=>k < E.w.heap.size/\¬ gvn E bs k,E.lo⟩
theorem see_σ (E:Env) (bs:List Nat) (i:Nat):(E.see bs).σ i=(bs[i]?).bind E.σ:=in_σ E bs i
theorem see_HR (H:HR E h) {bs:List Nat} {h0:List ABlk} (hn:gY bs=true) (hl:h0.length=bs.length) (hd:∀ (i b:Nat),bs[i]? = some b->geth h b ≠ .dead)
  (hb:∀ (i:Nat) (x0:ABlk),h0[i]? = some x0->BR (E.see bs) i x0):HR (E.see bs) h0:=by
 have own:∀ k,Own (E.see bs) h0 k->gvn E bs k:=by
  rintro k ⟨i,x,o,q1,q2,q3⟩
  rw [see_σ] at q3
  cases hi:bs[i]? with
  | none=>rw [hi] at q3;cases q3
  | some b=>rw [hi] at q3;exact ⟨i,b,o,hi,q3⟩
 refine ⟨hb,fun i j x y k o o' h1 h2 h3 h4 h5 h6=>?_,fun k hk=>⟨hk.1,fun ho=>hk.2 (own k ho)⟩,fun i hi=>?_,fun k hk=>⟨(H.prot k (H.lo k hk)).1,fun ⟨i,b,o,q1,q2⟩=>(H.prot k (H.lo k hk)).2 ⟨b,_,o,zS (hd i b q1),hd i b q1,q2⟩⟩⟩
 ·rw [see_σ] at h5 h6
  cases hi:bs[i]? with
  | none=>rw [hi] at h5;cases h5
  | some b =>
   cases hj:bs[j]? with
   | none=>rw [hj] at h6;cases h6
   | some b' =>
    rw [hi] at h5;rw [hj] at h6
    have:=H.inj b b' _ _ k o o' (zS (hd i b hi)) (hd i b hi) (zS (hd j b' hj)) (hd j b' hj) h5 h6
    subst this
    exact nodupB_iff hn i j b hi hj
 ·rw [see_σ,List.getElem?_eq_none (by omega)];rfl
theorem roX_sl (X:Nat->Prop) (hXp:∀ k,E.prot k->X k) (hXo:∀ b k o,geth h b ≠ .dead->E.σ b=some (k,o)->X k) (H:HR E h) {b es i n:Nat} {nl:Bool} {v:Value} (hv:VR E (.sl b es i n nl) v) (ho:match geth h b with
  | .row _ es' N c=>es'=es/\i+n <= N/\∀ x y,x < n->y < es->nref (c (i+x) y)
  | _=>True):VR (⟨E.w,fun _=>none,X,E.lo⟩:Env) (match geth h b with
  | .row _ _ _ c=>.ro es n nl (wR i c)
  | _=>.top) v:=by
 have K:∀ k,E.prot k->X k/\(⟨E.w,fun _=>none,X,E.lo⟩:Env).w.heap[k]? = E.w.heap[k]?:=fun k hk=>⟨hXp k hk,rfl⟩
 cases hv with
 | sl _ _ _ _ _ a cap hn hcm hnl hz hc =>
  cases hg:geth h b with
  | dead=>exact .top _
  | mapb _ _=>exact .top _
  | lit e l=>exact .top _
  | row e es' N c =>
   rw [hg] at ho
   simp only at ho ⊢
   obtain ⟨rfl,hN,ho⟩:=ho
   have main:0 < n->∃ k o,a=some ⟨k,o+i * es',none⟩/\X k/\∀ x y,x < n->y < es'->∃ u,E.w.cell? ⟨k,o+i * es'+x * es'+y,none⟩=some u/\u.oneCell'=true/\VR (⟨E.w,fun _=>none,X,E.lo⟩:Env) (c (i+x) y) u:=by
    intro hp
    obtain ⟨k,o,cs,e',g1,g2,g3,g4⟩:=hc (by omega)
    refine ⟨k,o,g2,hXo _ _ _ (by rw [hg];exact fun e=>by cases e) g1,fun x y hx hy=>?_⟩
    obtain ⟨u,q1,q2,q3⟩:=vP H hg g1 (i+x) y (by omega) hy
    exact ⟨u,by rw [← q1,Nat.add_mul];congr 2;omega,q2,q3.view K (ho x y hx hy)⟩
   refine .ro es' n nl (wR i c) a cap hn hcm hnl (zr_own H (by rw [hg];exact fun e=>by cases e) hn hz hc (fun _ h=>h)) (fun x y=>tX E.w (x * es'+y) a) (fun hp=>?_) (fun x y hx hy=>?_) (fun x y hx hy=>?_) (fun x y hx hy=>ho x y hx hy)
   ·obtain ⟨k,o,rfl,g2,g3⟩:=main hp
    refine ⟨k,o+i * es',rfl,g2,fun x y hx hy=>?_⟩
    obtain ⟨u,q1,_,_⟩:=g3 x y hx hy
    show E.w.cell? _=_
    rw [q1,tX,show (⟨k,o+i * es',none⟩:Addr).add (x * es'+y) = ⟨k,o+i * es'+x * es'+y,none⟩ from by simp [Addr.add,Nat.add_assoc],q1];rfl
   ·obtain ⟨k,o,rfl,g2,g3⟩:=main (by omega)
    obtain ⟨u,q1,q2,_⟩:=g3 x y hx hy
    rw [tX,show (⟨k,o+i * es',none⟩:Addr).add (x * es'+y) = ⟨k,o+i * es'+x * es'+y,none⟩ from by simp [Addr.add,Nat.add_assoc],q1];exact q2
   ·obtain ⟨k,o,rfl,g2,g3⟩:=main (by omega)
    obtain ⟨u,q1,_,q3⟩:=g3 x y hx hy
    rw [tX,show (⟨k,o+i * es',none⟩:Addr).add (x * es'+y) = ⟨k,o+i * es'+x * es'+y,none⟩ from by simp [Addr.add,Nat.add_assoc],q1];exact q3
theorem roWX_VR (X:Nat->Prop) (hXp:∀ k,E.prot k->X k) (hXo:∀ b k o,geth h b ≠ .dead->E.σ b=some (k,o)->X k) (H:HR E h) {a:AV} {v:Value} (hv:VR E a v) (ho:roWOb h a):VR (⟨E.w,fun _=>none,X,E.lo⟩:Env) (roW h a) v:=by
 have K:∀ k,E.prot k->X k/\(⟨E.w,fun _=>none,X,E.lo⟩:Env).w.heap[k]? = E.w.heap[k]?:=fun k hk=>⟨hXp k hk,rfl⟩
 cases a with
 | sl b es i n nl=>exact roX_sl X hXp hXo H hv ho
 | ptr b es i j=>exact .top _
 | isl b es i j z n=>exact .top _
 | csl b es i n c=>exact .top _
 | _=>exact hv.view K (by simp only [roWOb] at ho;simp only [nref];try exact ho)
theorem roX_VR (X:Nat->Prop) (hXp:∀ k,E.prot k->X k) (hXo:∀ b k o,geth h b ≠ .dead->E.σ b=some (k,o)->X k) (H:HR E h) {a:AV} {v:Value} (hv:VR E a v) (ho:wU h a):VR (⟨E.w,fun _=>none,X,E.lo⟩:Env) (roV h a) v:=by
 have K:∀ k,E.prot k->X k/\(⟨E.w,fun _=>none,X,E.lo⟩:Env).w.heap[k]? = E.w.heap[k]?:=fun k hk=>⟨hXp k hk,rfl⟩
 induction hv with
 | top v=>simp only [roV];exact .top v
 | bool b=>simp only [roV];exact .bool b
 | int k n=>simp only [roV];exact .int k n
 | str s=>simp only [roV];exact .str s
 | nilp=>simp only [roV];exact .nilp
 | emp a=>simp only [roV];exact .emp a
 | nilf=>simp only [roV];exact .nilf
 | ub b=>simp only [roV];exact .ub b
 | val v h1=>simp only [roV];exact .val v h1
 | mp m r clock es hp hb he=>simp only [roV];exact (VR.mp m r clock es hp hb he).view K (by simp only [nref])
 | ptr b es i j k o hσ =>
  simp only [roV,wU] at ho ⊢
  cases hg:geth h b with
  | dead=>exact .top _
  | mapb _ _=>exact .top _
  | lit e l =>
   rw [hg] at ho
   simp only at ho ⊢
   have hown:=jU H hg hσ
   have hb:=zS (h:=h) (b:=b) (by rw [hg];exact fun e=>by cases e)
   have hlt:X k:=hXo _ _ _ (by rw [hg];exact fun e=>by cases e) hσ
   have h1:∀ y,y < l.length->∃ u,E.w.cell? ⟨k,o+y,none⟩=some u/\u.oneCell'=true/\VR (⟨E.w,fun _=>none,X,E.lo⟩:Env) (getL (kK h l) y) u:=by
    intro y hy
    obtain ⟨u,q1,q2,q3⟩:=hown y hy
    exact ⟨u,q1,q2,by rw [dJ];exact roWX_VR X hXp hXo H q3 (fO ho y)⟩
   rw [show o+i * es+j=o+0 * l.length+(i * es+j) from by omega]
   refine .rptr l.length 1 0 (i * es+j) k o _ (fun x y=>(E.w.cell? ⟨k,o+y,none⟩).getD undef) ⟨hlt,fun _=>eA H hσ (.inl ⟨_,_,hg⟩) (fun _ h=>h)⟩ (fun x y hx hy=>?_) (fun x y hx hy=>?_) (fun x y hx hy=>?_) (fun x y hx hy=>by rw [dJ];exact roW_nref _ (fO ho y))
   ·obtain ⟨u,q1,_,_⟩:=h1 y hy
    have hx:x=0:=by omega
    subst hx
    rw [show o+0 * l.length+y=o+y from by omega]
    show E.w.cell? _=_
    rw [q1];rfl
   ·obtain ⟨u,q1,q2,_⟩:=h1 y hy
    rw [q1];exact q2
   ·obtain ⟨u,q1,_,q3⟩:=h1 y hy
    rw [q1];exact q3
  | row e es' n c =>
   rw [hg] at ho
   simp only at ho ⊢
   obtain ⟨rfl,ho⟩:=ho
   have hown:=vP H hg hσ
   have hb:=zS (h:=h) (b:=b) (by rw [hg];exact fun e=>by cases e)
   have hlt:X k:=hXo _ _ _ (by rw [hg];exact fun e=>by cases e) hσ
   refine .rptr es' n i j k o _ (fun x y=>(E.w.cell? ⟨k,o+x * es'+y,none⟩).getD undef) ⟨hlt,fun _=>eA H hσ (.inr ⟨_,_,_,_,hg⟩) (fun _ h=>h)⟩ (fun x y hx hy=>?_) (fun x y hx hy=>?_) (fun x y hx hy=>?_) (fun x y hx hy=>ho x y hx hy)
   ·obtain ⟨u,q1,_,_⟩:=hown x y hx hy
    show E.w.cell? _=_
    rw [q1];rfl
   ·obtain ⟨u,q1,q2,_⟩:=hown x y hx hy
    rw [q1];exact q2
   ·obtain ⟨u,q1,_,q3⟩:=hown x y hx hy
    rw [q1];exact q3.view K (ho x y hx hy)
 | sl b es i n nl a cap hn hcm hnl hz hc =>
  simp only [roV,wU] at ho ⊢
  exact roX_sl X hXp hXo H (.sl b es i n nl a cap hn hcm hnl hz hc) ho
 | csl b es i n c a hn hcm hc=>simp only [roV];exact .top _
 | isl b es i j z n cap k o hn hcm hσ =>
  simp only [roV,wU] at ho ⊢
  have main:∀ c:Nat->Nat->AV,((∃ e l,geth h b = .lit e l) ∨ ∃ e es n c,geth h b = .row e es n c)->X k->(∀ x y,x < n->y < z->∃ u,E.w.cell? ⟨k,o+i * es+j+x * z+y,none⟩=some u/\u.oneCell'=true/\VR (⟨E.w,fun _=>none,X,E.lo⟩:Env) (c x y) u)->(∀ x y,x < n->y < z->nref (c x y))->VR (⟨E.w,fun _=>none,X,E.lo⟩:Env) (.ro z n false c) (.slice (some ⟨k,o+i * es+j,none⟩) n cap):=by
   intro c hnd hk hc hrf
   refine .ro z n false c _ cap hn hcm (fun h=>by cases h) (zrB (eA H hσ hnd fun _ h=>h)) (fun x y=>(E.w.cell? ⟨k,o+i * es+j+x * z+y,none⟩).getD undef) (fun hp=>⟨k,_,rfl,hk,fun x y hx hy=>?_⟩) (fun x y hx hy=>?_) (fun x y hx hy=>?_) hrf
   ·obtain ⟨u,q1,_,_⟩:=hc x y hx hy
    show E.w.cell? _=_
    rw [q1];rfl
   ·obtain ⟨u,q1,q2,_⟩:=hc x y hx hy
    rw [q1];exact q2
   ·obtain ⟨u,q1,_,q3⟩:=hc x y hx hy
    rw [q1];exact q3
  cases hg:geth h b with
  | dead=>exact .top _
  | mapb _ _=>exact .top _
  | lit e l =>
   rw [hg] at ho
   simp only at ho ⊢
   have hb:=zS (h:=h) (b:=b) (by rw [hg];exact fun e=>by cases e)
   have hlt:X k:=hXo _ _ _ (by rw [hg];exact fun e=>by cases e) hσ
   refine main _ (.inl ⟨_,_,hg⟩) hlt (fun x y hx hy=>?_) (fun x y hx hy=>vM ho.2 _)
   have h1:=wA hx hy
   obtain ⟨u,q1,q2,q3⟩:=jU H hg hσ (i * es+j+x * z+y) (by omega)
   exact ⟨u,by rw [← q1];congr 2;omega,q2,q3.view K (vM ho.2 _)⟩
  | row e es' N c =>
   rw [hg] at ho
   simp only at ho ⊢
   obtain ⟨rfl,hN,hjz,ho⟩:=ho
   have hb:=zS (h:=h) (b:=b) (by rw [hg];exact fun e=>by cases e)
   have hlt:X k:=hXo _ _ _ (by rw [hg];exact fun e=>by cases e) hσ
   refine main _ (.inr ⟨_,_,_,_,hg⟩) hlt (fun x y hx hy=>?_) (fun x y hx hy=>by rw [jT hy];exact ho _ (by have:=wA hx hy;omega))
   have h1:=wA hx hy
   obtain ⟨u,q1,q2,q3⟩:=vP H hg hσ i (j+x * z+y) hN (by omega)
   exact ⟨u,by rw [← q1];congr 2;omega,q2,by rw [jT hy];exact q3.view K (ho _ (by omega))⟩
 | rptr es n i j k o c u hp hu h1 hc hrf ih =>
  simp only [roV]
  exact (VR.rptr es n i j k o c u hp hu h1 hc hrf).view K (by simp only [nref])
 | ro es n nl c a cap hn hcm hnl hz u ha h1 hc hrf ih =>
  simp only [roV]
  exact (VR.ro es n nl c a cap hn hcm hnl hz u ha h1 hc hrf).view K (by simp only [nref])
 | agg l vs hl h1 hh ih =>
  simp only [roV,wU] at ho ⊢
  refine .agg _ _ (by rw [roL_length,hl]) h1 fun i a v ha hv=>?_
  rw [roL_get] at ha
  cases hi:l[i]? with
  | none=>rw [hi] at ha;cases ha
  | some a0 =>
   rw [hi] at ha
   simp only [Option.map_some,Option.some.injEq] at ha
   subst ha
   exact ih i a0 v hi hv (roObL_get ho hi)
 | tup l vs hl hh ih =>
  simp only [roV,wU] at ho ⊢
  refine .tup _ _ (by rw [roL_length,hl]) fun i a v ha hv=>?_
  rw [roL_get] at ha
  cases hi:l[i]? with
  | none=>rw [hi] at ha;cases ha
  | some a0 =>
   rw [hi] at ha
   simp only [Option.map_some,Option.some.injEq] at ha
   subst ha
   exact ih i a0 v hi hv (roObL_get ho hi)
 | fn f l vs hl hh ih =>
  simp only [roV,wU] at ho ⊢
  refine .fn f _ _ (by rw [roL_length,hl]) fun i a v ha hv=>?_
  rw [roL_get] at ha
  cases hi:l[i]? with
  | none=>rw [hi] at ha;cases ha
  | some a0 =>
   rw [hi] at ha
   simp only [Option.map_some,Option.some.injEq] at ha
   subst ha
   exact ih i a0 v hi hv (roObL_get ho hi)
 | mfn f l vs hl hh ih =>
  simp only [roV,wU] at ho ⊢
  refine .mfn f _ _ (by rw [roL_length,hl]) fun i a v ha hv=>?_
  rw [roL_get] at ha
  cases hi:l[i]? with
  | none=>rw [hi] at ha;cases ha
  | some a0 =>
   rw [hi] at ha
   simp only [Option.map_some,Option.some.injEq] at ha
   subst ha
   exact ih i a0 v hi hv (roObL_get ho hi)
 | opt_t a v hv ih =>
  simp only [roV,wU] at ho ⊢
  exact .opt_t a v (hv.view K ho)
 | opt_f a=>simp only [roV];exact .opt_f a
theorem edit_genV {f:FuncId} {fn:Func} {code:Code} (c:List AV->List ABlk->AR) {rs:List ResultVar}
  (hf:P.funcs[f]? = some fn) (hn:(fn.name == "runtime.NumGoroutine")=false) (hb:fn.body=some code) (hrs:fn.results.toList=rs) (hnp:∀ l h ob v,c l h ≠ .pure ob v)
  (hw:∀ (l:List AV) (h:List ABlk) (ob:Prop) (v:AV) (h':List ABlk),c l h = .heap ob v h'->ob->∃ (bs:List Nat) (l':List AV) (h0:List ABlk) (v0:AV) (g0:List ABlk),
   gY bs=true/\h0.length=bs.length/\(∀ (i b:Nat),bs[i]? = some b->geth h b ≠ .dead) /\
   (∀ E,HR E h->∀ (i:Nat) (x0:ABlk),h0[i]? = some x0->BR (E.see bs) i x0)/\(∀ E vs,HR E h->FR E l vs->FR (E.see bs) l' vs) /\
   v=rnm bs h.length v0/\h'=bN h bs (bR bs h.length g0) ++ bR bs h.length (gR bs g0)/\nfBs g0/\noroBs g0/\noro v0 /\
   Mean P code (kRet P rs (RetE bs.length v0 g0)) (l' ++ List.replicate (fn.ntmps - l'.length) .top) h0):FnOk P f c:=by
 subst hrs
 have tops:∀ {E:Env} {l':List AV} {vs:Array Value},FR E l' vs->FR E (l' ++ List.replicate (fn.ntmps - l'.length) .top) (vs ++ Array.replicate (fn.ntmps - vs.size) undef):=by
  intro E l' vs F1
  refine wF F1 ⟨by simp [F1.1],fun i a v ha hv=>?_⟩
  rw [List.getElem?_replicate] at ha
  split at ha
  ·injection ha with ha;subst ha;exact .top _
  ·cases ha
 refine ⟨⟨fn,hf,hn,by rw [hb];rfl⟩,fun E h l vs ob v h' H F hr hob=>?_,fun E h l vs ob v H F hr hob=>absurd hr (hnp _ _ _ _)⟩
 cases hc:c l h with
 | fail=>rw [hc] at hr;cases hr
 | pure a b=>exact absurd hc (hnp _ _ _ _)
 | heap ob2 v2 h2 =>
  rw [hc] at hr
  simp only [AR.out,Option.some.injEq,Prod.mk.injEq] at hr
  obtain ⟨rfl,rfl,rfl⟩:=hr
  obtain ⟨bs,l',h0,v0,g0,e1,e2,e3,e4,e5,e6,e7,e8,e9,e10,g4⟩:=hw l h _ _ _ hc hob
  have H0:=see_HR H e1 e2 e3 (e4 E H)
  have F0:=tops (e5 E vs H F)
  have blt:∀ {i b:Nat},bs[i]? = some b->b < h.length:=fun hi=>fK (e3 _ _ hi)
  have own0:∀ k,Own (E.see bs) h0 k->∃ (i b o:Nat),bs[i]? = some b/\E.σ b=some (k,o):=by
   rintro k ⟨i,x,o,q1,q2,q3⟩
   rw [see_σ] at q3
   cases hi:bs[i]? with
   | none=>rw [hi] at q3;cases q3
   | some b=>rw [hi] at q3;exact ⟨i,b,o,hi,q3⟩
  have own1:∀ k,Own (E.see bs) h0 k->Own E h k:=fun k hk=>by
   obtain ⟨i,b,o,q1,q2⟩:=own0 k hk
   exact ⟨b,_,o,zS (e3 i b q1),e3 i b q1,q2⟩
  refine calls_of_wp hf hb ?_
  refine g4 (E.see bs) _ _ H0 F0 rfl fun e E1 a' t' h1 hk X1 H1 F' hd=>?_
  have done:retK P fn.results.toList (RetE bs.length v0 g0) t' h1->a'.defers=[]/\∃ u,(results fn a'.tmps).run P E1.w = .ok u E1.w/\Ret E h h2 v2 (.returned u) E1.w:=by
   intro hk
   obtain ⟨u,v',q1,⟨fz,z1,z2,ν,c1,c2,c3,c4⟩,q3⟩:=kZ (P:=P) H1 F' hk
   refine ⟨hd,u,q1,?_⟩
   obtain ⟨Hf,Xf⟩:=fz_HR H1 z2
   have hv1:=fz_VR H1 q3 z1
   have H3:=(via_HR Hf c2 c3).1
   have X3:=via_Ext H0 Hf (X1.trans Xf) c2 c3 (by rw [e2];exact c4)
   have V3:VR ((E1.fz h1 fz).via ν) v0 u:=eD hv1 _ c1
   have hgl:bs.length <= g0.length:=by rw [(CvH_get c2).1];exact idM_len _ _ _ c4
   have hw3:((E1.fz h1 fz).via ν).w=E1.w:=rfl
   generalize (E1.fz h1 fz).via ν=E3 at H3 X3 V3 hw3
   have old3:∀ (i b:Nat),bs[i]? = some b->E3.σ i=E.σ b:=fun i b hi=>by
    rw [X3.old i (by rw [e2];exact (List.getElem?_eq_some_iff.1 hi).1),see_σ,hi];rfl
   let σ2:Nat->Option (Nat × Nat):=fun b=>if b < h.length then E.σ b else E3.σ (bs.length+(b - h.length))
   let E2:Env:=⟨E3.w,σ2,E.prot,E.lo⟩
   have s1:∀ b,b < h.length->E2.σ b=E.σ b:=fun b hb=>if_pos hb
   have s2:∀ b,¬ b < h.length->E2.σ b=E3.σ (bs.length+(b - h.length)):=fun b hb=>if_neg hb
   have hlt:∀ b x,E.σ b=some x->b < h.length:=by
    intro b x hb
    rcases Nat.lt_or_ge b h.length with h'|h'
    ·exact h'
    ·rw [H.fresh b h'] at hb;cases hb
   have hρ:∀ i,E2.σ (fC bs h.length i)=E3.σ i:=fun i=>by
    rcases Nat.lt_or_ge i bs.length with hi|hi
    ·have hb:bs[i]? = some bs[i]:=List.getElem?_eq_getElem hi
     rw [rhoN_in hb,s1 _ (blt hb),old3 i _ hb]
    ·rw [bQ hi,s2 _ (by omega)];congr 1;omega
   have same:∀ k,k < E.w.heap.size->(∀ (i b o:Nat),bs[i]? = some b->E.σ b ≠ some (k,o))->E3.w.heap[k]? = E.w.heap[k]?:=fun k hk hno =>
    X3.frame k hk fun ho=>by obtain ⟨i,b,o,q1,q2⟩:=own0 k ho;exact hno i b o q1 q2
   have K2:Keep E E2:=⟨fun b x hb=>by rw [s1 b (hlt b x hb)];exact hb,fun k hk=>hk,fun k hk=>X3.frame k (H.prot k hk).1 fun ho=>(H.prot k hk).2 (own1 k ho),X3.kind,rfl⟩
   -- where a block of the new heap comes from
   have hget:∀ {b:Nat} {x:ABlk},(bN h bs (bR bs h.length g0) ++ bR bs h.length (gR bs g0))[b]? = some x ->
     (∃ (i:Nat) (x0:ABlk),b=fC bs h.length i/\g0[i]? = some x0/\x=rnmB bs h.length x0) ∨ (b < h.length/\b ∉ bs/\h[b]? = some x):=by
    intro b x hb
    by_cases hbl:b < h.length
    ·rw [List.getElem?_append_left (by rw [tI];exact hbl)] at hb
     by_cases hm:b ∈ bs
     ·obtain ⟨i,hi⟩:=List.mem_iff_getElem?.1 hm
      have hi':i < g0.length:=Nat.lt_of_lt_of_le (List.getElem?_eq_some_iff.1 hi).1 hgl
      rw [putH_in bs _ h i b (rnmB bs h.length g0[i]) e1 hbl hi (by rw [rnmH_get,List.getElem?_eq_getElem hi'];rfl)] at hb
      injection hb with hb
      exact .inl ⟨i,g0[i],(rhoN_in hi).symm,List.getElem?_eq_getElem hi',hb.symm⟩
     ·rw [putH_out bs _ h b hm] at hb
      exact .inr ⟨hbl,hm,hb⟩
    ·rw [List.getElem?_append_right (by rw [tI];omega),tI,rnmH_get,dropH_get] at hb
     cases hg:g0[bs.length+(b - h.length)]? with
     | none=>rw [hg] at hb;cases hb
     | some x0 =>
      rw [hg] at hb
      simp only [Option.map_some,Option.some.injEq] at hb
      exact .inl ⟨_,x0,by rw [bQ (by omega)];omega,hg,hb.symm⟩
   have hown3:∀ {i:Nat} {x0:ABlk} {k o:Nat},g0[i]? = some x0->x0 ≠ .dead->E3.σ i=some (k,o)->(∃ (j b o:Nat),bs[j]? = some b/\E.σ b=some (k,o)) ∨ E.w.heap.size <= k:=fun h1 h2 h3 =>
    (X3.own _ ⟨_,_,_,h1,h2,h3⟩).imp (own0 _) id
   have apart:∀ {b:Nat} {x:ABlk} {k o:Nat},b ∉ bs->h[b]? = some x->x ≠ .dead->E.σ b=some (k,o)->∀ (i b' o':Nat),bs[i]? = some b'->E.σ b' ≠ some (k,o'):=by
    intro b x k o hm h1 h2 h3 i b' o' h4 h5
    have:=H.inj b b' x _ k o o' h1 h2 (zS (e3 i b' h4)) (e3 i b' h4) h3 h5
    subst this
    exact hm (List.mem_of_getElem? h4)
   have hown:∀ k,Own E2 h2 k->Own E h k ∨ E.w.heap.size <= k:=by
    rintro k ⟨b,x,o,q1,q2,q3⟩
    rw [e7] at q1
    rcases hget q1 with ⟨i,x0,rfl,r1,rfl⟩|⟨r1,r2,r3⟩
    ·rw [hρ] at q3
     rcases hown3 r1 (uK q2) q3 with ⟨j,b,o,a1,a2⟩|h'
     ·exact .inl ⟨b,_,o,zS (e3 j b a1),e3 j b a1,a2⟩
     ·exact .inr h'
    ·rw [s1 b r1] at q3;exact .inl ⟨b,x,o,r3,q2,q3⟩
   refine ⟨u,E2,rfl,hw3,⟨X3.os,X3.tape,X3.output,K2.σ,fun k hk=>hk,X3.size,K2.kind,fun k hk hno=>X3.frame k hk fun ho=>hno (own1 k ho),hown,?_,s1,fun k hk=>.inl hk,rfl⟩,⟨fun b x hb=>?_,fun b b' x x' k o o' h1 h2 h3 h4 h5 h6=>?_,fun k hk=>?_,fun b hb=>?_,H.lo⟩,?_⟩
   ·rw [e7,List.length_append,tI];omega
   ·rw [e7] at hb
    rcases hget hb with ⟨i,x0,rfl,r1,rfl⟩|⟨r1,r2,r3⟩
    ·exact out_BR (E3:=⟨E3.w,E3.σ,E.prot,E.lo⟩) (E2:=E2) rfl rfl (fun b x hb=>by rw [hρ];exact hb) (hρ i) (nfBs_get e8 r1) (BR_noro (E:=E3) (E':=⟨E3.w,E3.σ,E.prot,E.lo⟩) rfl rfl (H3.blk i x0 r1) (noroBs_get e9 r1))
    ·by_cases hd:x = .dead
     ·subst hd;trivial
     ·exact (H.blk b x r3).mono K2 (s1 b r1) fun k o hk=>same k ((H.blk b x r3).lt hd hk) (apart r2 r3 hd hk)
   ·rw [e7] at h1 h3
    rcases hget h1 with ⟨i,x0,rfl,r1,rfl⟩|⟨r1,r2,r3⟩<;>rcases hget h3 with ⟨j,y0,rfl,w1,rfl⟩|⟨w1,w2,w3⟩
    ·rw [hρ] at h5 h6
     rw [H3.inj i j x0 y0 k o o' r1 (uK h2) w1 (uK h4) h5 h6]
    ·rw [hρ] at h5;rw [s1 _ w1] at h6
     rcases hown3 r1 (uK h2) h5 with ⟨a,b,o2,a1,a2⟩|hq
     ·exact absurd a2 (apart w2 w3 h4 h6 a b o2 a1)
     ·have:=(H.blk _ _ w3).lt h4 h6;omega
    ·rw [s1 _ r1] at h5;rw [hρ] at h6
     rcases hown3 w1 (uK h4) h6 with ⟨a,b,o2,a1,a2⟩|hq
     ·exact absurd a2 (apart r2 r3 h2 h5 a b o2 a1)
     ·have:=(H.blk _ _ r3).lt h2 h5;omega
    ·rw [s1 _ r1] at h5;rw [s1 _ w1] at h6
     exact H.inj b b' x x' k o o' r3 h2 w3 h4 h5 h6
   ·obtain ⟨p1,p2⟩:=H.prot k hk
    refine ⟨Nat.lt_of_lt_of_le p1 X3.size,fun ho=>?_⟩
    rcases hown k ho with h'|h'
    ·exact p2 h'
    ·omega
   ·rw [e7,List.length_append,tI,rnmH_length,dropH_len] at hb
    rw [s2 b (by omega)]
    exact H3.fresh _ (by omega)
   ·rw [e6]
    exact VR.rnm (E:=⟨E3.w,E3.σ,E.prot,E.lo⟩) (E':=E2) rfl rfl (fun b x hb=>by rw [hρ];exact hb) (VR.noro (E:=E3) (E':=⟨E3.w,E3.σ,E.prot,E.lo⟩) rfl (fun _ _ h=>h) V3 e10)
  cases e with
  | normal=>exact done hk
  | ret=>exact done hk
  | exit id=>exact hk.elim
  | goto l=>exact hk.elim

/-! ### What is given, told inside -/
def zH (h:List ABlk):List Nat->List ABlk
 | []=>h
 | b::l=>zH (seth h b .dead) l
theorem deadL_HR:∀ (bs:List Nat) {h:List ABlk},HR E h->HR E (zH h bs)
 | [],_,H=>H
 | b::bs,h,H=>by
  simp only [zH]
  refine deadL_HR bs ?_
  rw [wP];exact (kill_HR H b).1
theorem deadL_geth:∀ (bs:List Nat) (h:List ABlk) (b:Nat),geth (zH h bs) b ≠ .dead->geth h b ≠ .dead/\b ∉ bs
 | [],_,_,hg=>⟨hg,by simp⟩
 | a::bs,h,b,hg=>by
  simp only [zH] at hg
  obtain ⟨q1,q2⟩:=deadL_geth bs _ b hg
  by_cases hab:b=a
  ·subst hab
   exfalso;apply q1
   rcases Nat.lt_or_ge b h.length with hl|hl
   ·have e:(seth h b .dead)[b]? = some .dead:=by rw [wP,List.getElem?_set_self hl]
    rw [wB,e];rfl
   ·have:=fK q1
    rw [wV] at this;omega
  ·refine ⟨?_,by simp [hab,q2]⟩
   have e:(seth h a .dead)[b]? = h[b]?:=by rw [wP,List.getElem?_set_ne (Ne.symm hab)]
   intro hd
   apply q1
   rw [wB,e,← wB];exact hd
def EW (bs:List Nat) (h:List ABlk) (a0 a:AV):Prop:=(∀ (i b:Nat),bs[i]? = some b->geth h b ≠ .dead)->∀ (E:Env) (v:Value),HR E h->VR E a v->VR (E.see bs) a0 v
theorem cM {bs:List Nat} {a0 a:AV} (he:EV bs a0 a) (hn:noro a0):EW bs h a0 a:=fun _ E v _ hv=>VR.noro (E:=E.via (dL bs)) (E':=E.see bs) rfl (fun _ _ h=>h) (he E v hv) hn
def roD (h:List ABlk):AV->AV
 | .ptr b es i j=>match geth h b with
  | .lit _ l=>.rptr l.length 1 0 (i * es+j) (fun _ y=>getL (roL h l) y)
  | .row _ es' n c=>.rptr es' n i j c
  | .mapb _ _=>.top
  | .dead=>.top
 | .sl b es i n nl=>roV h (.sl b es i n nl)
 | .isl b es i j z n=>roV h (.isl b es i j z n)
 | .csl b es i n c=>roV h (.csl b es i n c)
 | .agg l=>roV h (.agg l)
 | .tup l=>roV h (.tup l)
 | .fn f l=>roV h (.fn f l)
 | .mfn f l=>roV h (.mfn f l)
 | .top=>.top
 | .bool b=>.bool b
 | .int k n=>.int k n
 | .str s=>.str s
 | .nilp=>.nilp
 | .rptr es n i j c=>.rptr es n i j c
 | .ro es n nl c=>.ro es n nl c
 | .emp=>.emp
 | .nilf=>.nilf
 | .ub=>.ub
 | .val v=>.val v
 | .mp v=>.mp v
 | .opt g v=>.opt g v
def xJ (h:List ABlk):AV->Prop
 | .ptr b es i j=>match geth h b with
  | .lit _ l=>jO h l
  | .row _ es' n c=>es'=es/\∀ x y,x < n->y < es->nref (c x y)
  | .mapb _ _=>True
  | .dead=>True
 | .sl b es i n nl=>wU h (.sl b es i n nl)
 | .isl b es i j z n=>wU h (.isl b es i j z n)
 | .csl b es i n c=>wU h (.csl b es i n c)
 | .agg l=>wU h (.agg l)
 | .tup l=>wU h (.tup l)
 | .fn f l=>wU h (.fn f l)
 | .mfn f l=>wU h (.mfn f l)
 | .opt g v=>nref v
 | .top=>True
 | .bool _=>True
 | .int _ _=>True
 | .str _=>True
 | .nilp=>True
 | .rptr _ _ _ _ _=>True
 | .ro _ _ _ _=>True
 | .emp=>True
 | .nilf=>True
 | .ub=>True
 | .val _=>True
 | .mp _=>True
mutual
theorem roV_nref:∀ a:AV,wU h a->nref (roV h a)
 | .ptr b es i j,_=>by simp only [roV];split<;>simp only [nref]
 | .sl b es i n nl,_=>by simp only [roV];split<;>simp only [nref]
 | .isl b es i j z n,_=>by simp only [roV];split<;>simp only [nref]
 | .csl b es i n c,_=>by simp only [roV,nref]
 | .agg l,ho=>by simp only [roV,nref];exact bS l (by simpa only [wU] using ho)
 | .tup l,ho=>by simp only [roV,nref];exact bS l (by simpa only [wU] using ho)
 | .fn f l,ho=>by simp only [roV,nref];exact bS l (by simpa only [wU] using ho)
 | .mfn f l,ho=>by simp only [roV,nref];exact bS l (by simpa only [wU] using ho)
 | .top,_=>by simp only [roV,nref]
 | .bool b,_=>by simp only [roV,nref]
 | .int k n,_=>by simp only [roV,nref]
 | .str s,_=>by simp only [roV,nref]
 | .nilp,_=>by simp only [roV,nref]
 | .rptr es n i j c,_=>by simp only [roV,nref]
 | .ro es n nl c,_=>by simp only [roV,nref]
 | .emp,_=>by simp only [roV,nref]
 | .nilf,_=>by simp only [roV,nref]
 | .ub,_=>by simp only [roV,nref]
 | .val v,_=>by simp only [roV,nref]
 | .mp v,_=>by simp only [roV,nref]
 | .opt g v,ho=>by simp only [roV,nref];simpa only [wU] using ho
theorem bS:∀ l:List AV,jO h l->nrefL (roL h l)
 | [],_=>by simp only [roL,nrefL]
 | a::l,ho=>by simp only [roL,nrefL];simp only [jO] at ho;exact ⟨roV_nref a ho.1,bS l ho.2⟩
end
theorem roL_getL (l:List AV) (i:Nat) (hi:i < l.length):getL (roL h l) i=roV h (getL l i):=by
 have h1:(roL h l)[i]? = some (roV h (getL l i)):=by rw [roL_get,xT hi];rfl
 exact getL_eq h1
theorem roD_VR (X:Nat->Prop) (hXp:∀ k,E.prot k->X k) (hXo:∀ b k o,geth h b ≠ .dead->E.σ b=some (k,o)->X k) (H:HR E h) {a:AV} {v:Value} (hv:VR E a v) (ho:xJ h a):VR (⟨E.w,fun _=>none,X,E.lo⟩:Env) (roD h a) v:=by
 have main:roD h a=roV h a->wU h a->VR (⟨E.w,fun _=>none,X,E.lo⟩:Env) (roD h a) v:=fun e ho=>by rw [e];exact roX_VR X hXp hXo H hv ho
 cases a with
 | ptr b es i j =>
  cases hg:geth h b with
  | dead=>simp only [roD,hg];exact .top _
  | mapb _ _=>simp only [roD,hg];exact .top _
  | row e es' n c =>
   refine main (by simp only [roD,roV,hg]) ?_
   simp only [xJ,hg] at ho;simp only [wU,hg];exact ho
  | lit e l =>
   simp only [roD,xJ,hg] at ho ⊢
   cases hv with
   | ptr _ _ _ _ k o hσ =>
    have hown:=jU H hg hσ
    have h1:∀ y,y < l.length->∃ u,E.w.cell? ⟨k,o+y,none⟩=some u/\u.oneCell'=true/\VR (⟨E.w,fun _=>none,X,E.lo⟩:Env) (getL (roL h l) y) u/\nref (getL (roL h l) y):=by
     intro y hy
     obtain ⟨u,q1,q2,q3⟩:=hown y hy
     have hoy:=roObL_get ho (xT hy)
     refine ⟨u,q1,q2,?_,?_⟩
     ·rw [roL_getL l y hy];exact roX_VR X hXp hXo H q3 hoy
     ·rw [roL_getL l y hy];exact roV_nref _ hoy
    rw [show o+i * es+j=o+0 * l.length+(i * es+j) from by omega]
    refine .rptr l.length 1 0 (i * es+j) k o _ (fun x y=>(E.w.cell? ⟨k,o+y,none⟩).getD undef) ⟨hXo _ _ _ (by rw [hg];exact fun e=>by cases e) hσ,fun _=>eA H hσ (.inl ⟨_,_,hg⟩) (fun _ h=>h)⟩ (fun x y hx hy=>?_) (fun x y hx hy=>?_) (fun x y hx hy=>?_) (fun x y hx hy=>?_)
    ·obtain ⟨u,q1,_,_⟩:=h1 y hy
     obtain rfl:x=0:=by omega
     rw [show o+0 * l.length+y=o+y from by omega]
     show E.w.cell? _=_
     rw [q1];rfl
    ·obtain ⟨u,q1,q2,_⟩:=h1 y hy
     rw [q1];exact q2
    ·obtain ⟨u,q1,_,q3,_⟩:=h1 y hy
     rw [q1];exact q3
    ·obtain ⟨u,_,_,_,q4⟩:=h1 y hy
     exact q4
 | _=>exact main (by simp only [roD,roV]) (by first|exact ho|(simp only [xJ] at ho;simp only [wU];exact ho)|simp only [wU])
theorem yR {bs:List Nat} {a0 a:AV} (ho:xJ (zH h bs) a) (hw:WkV a0 (roD (zH h bs) a)/\nref a0):EW bs h a0 a:=fun hd E v H hv=>by
 have H':=deadL_HR bs H
 have q:=roD_VR (E.see bs).prot (fun k hk=>⟨(H.prot k hk).1,fun ⟨i,b,o,q1,q2⟩=>(H.prot k hk).2 ⟨b,_,o,zS (hd i b q1),hd i b q1,q2⟩⟩)
  (fun b k o hb hσ=>by
   obtain ⟨q1,q2⟩:=deadL_geth bs h b hb
   refine ⟨BR.lt q1 (H.blk b _ (zS q1)) hσ,fun ⟨i,b',o',r1,r2⟩=>?_⟩
   have:=H.inj b b' _ _ k o o' (zS q1) q1 (zS (hd i b' r1)) (hd i b' r1) hσ r2
   subst this
   exact q2 (List.mem_of_getElem? r1)) H' hv ho
 exact VR.view (E:=⟨E.w,fun _=>none,(E.see bs).prot,E.lo⟩) (E':=E.see bs) (fun k hk=>⟨hk,rfl⟩) (hw.1 _ v q) hw.2
def EWL (bs:List Nat) (h:List ABlk):List AV->List AV->Prop
 | [],[]=>True
 | a::l,b::m=>EW bs h a b/\EWL bs h l m
 | _,_=>False
theorem EWL_get {bs:List Nat} {l m:List AV} (hc:EWL bs h l m):l.length=m.length/\∀ (i:Nat) (a b:AV),l[i]? = some a->m[i]? = some b->EW bs h a b:=by
 induction l generalizing m with
 | nil=>cases m with
  | nil=>exact ⟨rfl,fun i a b ha=>by simp at ha⟩
  | cons b m=>simp [EWL] at hc
 | cons a l ih=>cases m with
  | nil=>simp [EWL] at hc
  | cons b m =>
   simp only [EWL] at hc
   obtain ⟨i1,i2⟩:=ih hc.2
   refine ⟨by simp [i1],fun i x y hx hy=>?_⟩
   cases i with
   | zero=>simp at hx hy;subst hx hy;exact hc.1
   | succ i=>exact i2 i x y (by simpa using hx) (by simpa using hy)
theorem EW_fn {bs:List Nat} {f:FuncId} {l m:List AV} (hc:EWL bs h l m):EW bs h (.fn f l) (.fn f m):=fun hd E v H hv=>by
 obtain ⟨q1,q2⟩:=EWL_get hc
 cases hv with
 | fn _ _ vs hl h =>
  refine .fn _ _ vs (q1.trans hl) fun i a v ha hv=>?_
  have hi:i < m.length:=by
   rw [← q1]
   rcases Nat.lt_or_ge i l.length with h'|h'
   ·exact h'
   ·rw [List.getElem?_eq_none h'] at ha;cases ha
  exact q2 i a _ ha (List.getElem?_eq_getElem hi) hd E v H (h i _ v (List.getElem?_eq_getElem hi) hv)
theorem EW_FR {bs:List Nat} {l m:List AV} (hc:EWL bs h l m) (hd:∀ (i b:Nat),bs[i]? = some b->geth h b ≠ .dead) (H:HR E h) {vs:Array Value} (F:FR E m vs):FR (E.see bs) l vs:=by
 obtain ⟨q1,q2⟩:=EWL_get hc
 refine ⟨q1.trans F.1,fun i a v ha hv=>?_⟩
 have hi:i < m.length:=by
  rw [← q1]
  rcases Nat.lt_or_ge i l.length with h'|h'
  ·exact h'
  ·rw [List.getElem?_eq_none h'] at ha;cases ha
 exact q2 i a _ ha (List.getElem?_eq_getElem hi) hd E v H (F.2 i _ v (List.getElem?_eq_getElem hi) hv)
theorem xO {f:FuncId} {fn:Func} {code:Code} (body:List AV->List ABlk->ED) {rs:List ResultVar}
  (hf:P.funcs[f]? = some fn) (hn:(fn.name == "runtime.NumGoroutine")=false) (hb:fn.body=some code) (hrs:fn.results.toList=rs)
  (hw:∀ (l:List AV) (h:List ABlk) (bs:List Nat) (ob:Prop) (v0:AV) (g0:List ABlk),body l h = .ed bs ob v0 g0->ob->∃ (l':List AV) (h0:List ABlk),h0.length=bs.length/\EWL bs h l' l/\EBs bs h h0 0/\noroBs h0/\nfBs g0/\noroBs g0/\noro v0 /\
   Mean P code (kRet P rs (RetE bs.length v0 g0)) (l' ++ List.replicate (fn.ntmps - l'.length) .top) h0):FnOk P f (edC body):=by
 refine edit_genV (edC body) hf hn hb hrs (fun l h ob v hc=>?_) fun l h ob v h' hc hob=>?_
 ·unfold edC at hc
  cases hq:body l h<;>rw [hq] at hc<;>cases hc
 ·unfold edC at hc
  cases hq:body l h with
  | fail=>rw [hq] at hc;cases hc
  | ed bs ob0 v0 g0 =>
   rw [hq] at hc
   simp only [edR,AR.heap.injEq] at hc
   obtain ⟨rfl,rfl,rfl⟩:=hc
   obtain ⟨l',h0,a1,a2,a3,a3',a4,a5,a6,a7⟩:=hw l h bs ob0 v0 g0 hq hob.2
   have hd:∀ (i b:Nat),bs[i]? = some b->geth h b ≠ .dead:=fun i b hi=>by
    have hi':i < h0.length:=by rw [a1];exact (List.getElem?_eq_some_iff.1 hi).1
    obtain ⟨b',q1,q2,_⟩:=EBs_get h0 0 a3 i _ (List.getElem?_eq_getElem hi')
    rw [Nat.zero_add,hi] at q1
    injection q1 with q1;subst q1;exact q2
   refine ⟨bs,l',h0,v0,g0,hob.1,a1,hd,fun E H i x0 hi=>?_,fun E vs H F=>EW_FR a2 hd H F,rfl,rfl,a4,a5,a6,a7⟩
   obtain ⟨b',q1,q2,q3⟩:=EBs_get h0 0 a3 i x0 hi
   rw [Nat.zero_add] at q3
   exact BR_noro (E:=E.via (dL bs)) (E':=E.see bs) rfl rfl (q3 E H) (noroBs_get a3' hi)
/-! ### Pointers of which only some cells are read -/
def rM (z:Nat):AV->Prop
 | .rptr es n i j c=>i < n/\j+z <= es
 | _=>False
theorem fN {z:Nat} {cells:List AV} {v:AV} (h:rM z v) (hw:∀ y,y < z->WkV (getL cells y) (rG v y)/\nref (getL cells y)) (hq:getL cells z = .top:=by rfl):WkV (.rptr z 1 0 0 (fun _ y=>getL cells y)) v/\nref (.rptr z 1 0 0 (fun _ y=>getL cells y)):=by
 cases v<;>simp only [rM] at h
 rename_i es n i j c
 obtain ⟨h1,h2⟩:=h
 refine ⟨fun E u hv=>?_,by simp only [nref]⟩
 cases hv with
 | rptr _ _ _ _ k' o _ us hp hu h1' hc hrf =>
  rw [show o+i * es+j=(o+i * es+j)+0 * z+0 from by omega]
  refine .rptr z 1 0 0 k' (o+i * es+j) _ (fun _ y=>us i (j+y)) ⟨hp.1,fun ⟨x,f⟩=>absurd (hq.symm.trans f) (fun e=>by cases e)⟩ (fun x y hx hy=>?_) (fun x y hx hy=>h1' i (j+y) h1 (by omega)) (fun x y hx hy=>?_) (fun x y hx hy=>?_)
  ·have:=hu i (j+y) h1 (by omega)
   rw [← this];congr 2
   obtain rfl:x=0:=by omega
   omega
  ·exact (hw y hy).1 E _ (hc i (j+y) h1 (by omega))
  ·exact (hw y hy).2
theorem yD {a:AV}:WkV .top a/\nref .top:=⟨fun E u _=>.top u,by simp only [nref]⟩
class NOf {α:Type} (f:α->List AV):Prop where
 h:∀ a,yK (f a)
theorem noroL_getL {l:List AV} (hn:yK l) (i:Nat):noro (getL l i):=by
 rcases Nat.lt_or_ge i l.length with hi|hi
 ·exact noroL_get hn (xT hi)
 ·rw [qK hi];simp only [noro]
theorem zW {α:Type} [Inhabited α] {e es n:Nat} {f:α->List AV} [i:NOf f] {L:List α}:kP (.row e es n (enR f L)):=fun x y _ _=>noroL_getL (i.h _) y
theorem xX {c:Bool} {a b:AV} (h1:noro a) (h2:noro b):noro (bif c then a else b):=by cases c<;>assumption
theorem noroB_bif {c:Bool} {a b:ABlk} (h1:kP a) (h2:kP b):kP (bif c then a else b):=by cases c<;>assumption
theorem nfB_bif {c:Bool} {a b:ABlk} (h1:nfB a) (h2:nfB b):nfB (bif c then a else b):=by cases c<;>assumption
theorem rnm_bif {bs:List Nat} {s:Nat} {c:Bool} {a b:AV}:rnm bs s (bif c then a else b)=bif c then rnm bs s a else rnm bs s b:=by cases c<;>rfl
theorem preT_row {α:Type} [Inhabited α] {f:α->List AV} {L:List α} {n es:Nat} {c:Nat->Nat->AV} (h1:∀ x y,x < L.length->y < es->enR f L x y=c x y):∀ x y,x < (L.take n).length->y < es->enR f (L.take n) x y=c x y:=by
 intro x y hx hy
 rw [List.length_take] at hx
 rw [← h1 x y (by omega) hy]
 simp only [enR];rw [gd_take (by omega)]
end Go.Am

namespace Go.Am
set_option linter.unusedVariables false
variable {P:Program} {E:Env} {h:List ABlk}
mutual
def rbV (b m i es:Nat):AV->AV
 | .sl b' es' i' n nl=>bif (b' == b && (i' == i && es' == es)) then .sl m es 0 n nl else .sl b' es' i' n nl
 | .agg l=>.agg (rbL b m i es l)
 | .tup l=>.tup (rbL b m i es l)
 | .fn f l=>.fn f (rbL b m i es l)
 | .mfn f l=>.mfn f (rbL b m i es l)
 | .opt g v=>.opt g (rbV b m i es v)
 | .ptr b es i j=>.ptr b es i j
 | .isl b es i j z n=>.isl b es i j z n
 | .csl b es i n c=>.csl b es i n c
 | .top=>.top
 | .bool b=>.bool b
 | .int k n=>.int k n
 | .str s=>.str s
 | .nilp=>.nilp
 | .rptr es n i j c=>.rptr es n i j c
 | .ro es n nl c=>.ro es n nl c
 | .emp=>.emp
 | .nilf=>.nilf
 | .ub=>.ub
 | .val v=>.val v
 | .mp m=>.mp m
def rbL (b m i es:Nat):List AV->List AV
 | []=>[]
 | a::l=>rbV b m i es a::rbL b m i es l
end
def Env.rb (E:Env) (b m i es:Nat):Env:=⟨E.w,fun x=>bif x == m then (E.σ b).map (fun p=>(p.1,p.2+i * es)) else E.σ x,E.prot,E.lo⟩
theorem bsi {α β:Type} {x:Option α} {f:α->Option β} {b:β} (h:x.bind f=some b):∃ a,x=some a/\f a=some b:=Option.bind_eq_some_iff.1 h
def tp:Nat->List AV->List AV
 | 0,l=>l
 | n+1,l=>.top::tp n l
end Go.Am

namespace Go.Am
set_option linter.unusedVariables false
structure NewMap (w0 w:World) (es:Array MapEntry) (c:Nat):Prop where
 os:w.os=w0.os
 tape:w.tape=w0.tape
 output:w.output=w0.output
 size:w.heap.size=w0.heap.size+1
 obj:w.heap[w0.heap.size]? = some (.map es c)
 old:∀ k,k < w0.heap.size->w.heap[k]? = w0.heap[k]?
theorem NewMap.mk0 (w:World):NewMap w (w.alloc (.map #[] 0)) #[] 0 :=
 ⟨rfl,rfl,rfl,by show (w.heap.push _).size=_;simp,(MapKept.heap_alloc w _).1,(MapKept.heap_alloc w _).2⟩
theorem NewMap.ins {P:Program} {w0 w:World} {es:Array MapEntry} {c:Nat} (h:NewMap w0 w es c) {mt kt et:TypeId} (hm:P.underlying mt=some (.map kt et)) (hd:P.underlying kt=some (.int .u8)) {n:Int} {v:Value}
  (hk:∀ x ∈ es.toList,MapKept.IsKey (.int .u8) x.key) (hn:∀ x ∈ es.toList,x.key ≠ .int .u8 n) :
  ∃ w',(Instr.mapUpdate mt (.map (some w0.heap.size)) (.int .u8 n) v).run P w = .ok () w'/\NewMap w0 w' (es.push ⟨.int .u8 n,v,c⟩) (c+1):=by
 have hkk:MapKept.IsKey (.int .u8) (.int .u8 n):=rfl
 rcases MapKept.findNow_spec hkk es.toList 0 hk with ⟨h1,h2⟩|⟨j,e,h1,h2,h3⟩
 ·refine ⟨{ w with heap:=w.heap.setIfInBounds w0.heap.size (.map (es.push ⟨.int .u8 n,v,c⟩) (c+1)) },?_,⟨h.os,h.tape,h.output,by simp [h.size],(MapKept.heap_set h.obj).1,fun k hk=>((MapKept.heap_set h.obj).2 k (by omega)).trans (h.old k hk)⟩⟩
  simp [Instr.mapUpdate,run_underlying hm,MapKept.run_getObj_map h.obj,MapKept.run_checkKey hd hkk,MapKept.run_findKey hd h1,MapKept.run_setObj_map _ h.obj,Result.andThen]
 ·exact absurd h3 (hn e (List.mem_of_getElem? h2))
theorem stepL {P:Program} {ops:Array Oper} {Q:Exit->Act->World->Prop} {o:Oper} {l:List Oper} {a:Act} {w w':World} {r:Value} (hg:o.guard=none) (hrun:(execOp a.eval o).run P w = .ok (.value r) w') (next:wpList P ops Q l (a.put o.dst r) w'):wpList P ops Q (o::l) a w:=by
 unfold wpList
 have:Region.wanted o (yielded ops a.tmps)=true:=by simp [Region.wanted,hg]
 rw [if_pos this];refine .inl ?_;unfold Oper.wp;rw [hrun];exact next
theorem stepS {P:Program} {ops:Array Oper} {Q:Exit->Act->World->Prop} {o:Oper} {l:List Oper} {a:Act} {w w':World} (hg:o.guard=none) (hrun:(execOp a.eval o).run P w = .ok .skip w') (next:wpList P ops Q l (a.put o.dst undef) w'):wpList P ops Q (o::l) a w:=by
 unfold wpList
 have:Region.wanted o (yielded ops a.tmps)=true:=by simp [Region.wanted,hg]
 rw [if_pos this];refine .inl ?_;unfold Oper.wp;rw [hrun];exact next
theorem skipU {P:Program} {s:Sem Unit} {w w':World} (h:s.run P w = .ok () w'):(do s;pure .skip:Sem Next).run P w = .ok .skip w':=by rw [Sem.run_bind,h];rfl
def mapC (m:List (Int × Value)):List AV->List ABlk->AR
 | [],h=>.heap True (.mp m) h
 | _,_=>.fail
theorem map_fn {P:Program} {f:FuncId} (hen:Enters P f) (m:List (Int × Value))
  (hw:∀ w:World,Calls P f #[] w fun e w'=>e = .returned (.map (some w.heap.size))/\∃ es c,NewMap w w' es c/\es.toList.map (fun e=>(e.key,e.val))=m.map (fun q=>(Value.int .u8 q.1,q.2))):FnOk P f (mapC m):=by
 refine ⟨hen,fun E h l vs ob v h' H F hr hob=>?_,fun E h l vs ob v H F hr hob=>?_⟩
 ·cases l with
  | cons a l=>cases hr
  | nil =>
  have hv:vs = #[]:=Array.eq_empty_of_size_eq_zero F.1.symm
  subst hv
  simp only [mapC,AR.out,Option.some.injEq,Prod.mk.injEq] at hr
  obtain ⟨_,rfl,rfl⟩:=hr
  refine (hw E.w).mono ?_
  rintro e w' ⟨rfl,es,c,N,hm⟩
  have K:Keep E { E with w:=w',prot:=fun k=>E.prot k ∨ k=E.w.heap.size }:=⟨fun _ _ h=>h,fun _ h=>.inl h,fun k hk=>N.old k (H.prot k hk).1,fun k cs e hk=>⟨cs,(N.old k (xE hk)).trans hk,rfl⟩,rfl⟩
  refine ⟨_,{ E with w:=w',prot:=fun k=>E.prot k ∨ k=E.w.heap.size },rfl,rfl,⟨N.os,N.tape,N.output,fun _ _ h=>h,fun _ h=>.inl h,by show E.w.heap.size <= w'.heap.size;rw [N.size];omega,K.kind,fun k hk _=>N.old k hk,fun k h=>.inl h,Nat.le_refl _,fun _ _=>rfl,?_,rfl⟩,⟨?_,H.inj,?_,H.fresh,fun k hk=>.inl (H.lo k hk)⟩,.mp m _ c es (.inr rfl) N.obj hm⟩
  ·rintro k (h|rfl)
   ·exact .inl h
   ·exact .inr (.inr (Nat.le_refl _))
  ·intro b x hb
   by_cases hd:x = .dead
   ·subst hd;trivial
   ·exact (H.blk b x hb).mono K rfl fun k o hk=>N.old k ((H.blk b x hb).lt hd hk)
  ·rintro k (hk|rfl)
   ·exact ⟨by show k < w'.heap.size;rw [N.size];have:=(H.prot k hk).1;omega,(H.prot k hk).2⟩
   ·exact ⟨by show _ < w'.heap.size;rw [N.size];omega,fun ho=>absurd (H.own_lt ho) (by omega)⟩
 ·cases l<;>cases hr
theorem mapC_nil (m:List (Int × Value)) (h:List ABlk):mapC m [] h = .heap True (.mp m) h:=rfl
end Go.Am

namespace Go.Am
set_option linter.unusedVariables false
end Go.Am

namespace Go.Am
set_option linter.unusedVariables false
variable {P:Program} {E:Env} {h:List ABlk}
/-! ### A call that is walked where it stands -/
theorem inlO {k:FuncId} {fn:Func} {code:Code} {rs:List ResultVar} {n:Nat} (hf:P.funcs[k]? = some fn) (hn:(fn.name == "runtime.NumGoroutine")=false) (hb:fn.body=some code) (hrs:fn.results.toList=rs) (hnt:fn.ntmps=n)
  {dst:Option Nat} {ty:TypeId} {pos:String} {after:Array Edge} {f:Operand} {args:Array Operand} {argTypes:Array TypeId} {ops:Array Oper} {l:List Oper} {K:Kt} {t:List AV} {caps tc:List AV}
  (hfn:rho t f = .fn k caps) (hog:og t f/\ogL t args.toList) (htc:kW t args.toList ++ caps=tc)
  (hm:Mean P code (kRet P rs fun v h'=>uC P ops l K (wZ t dst v) h') (tc ++ List.replicate (n - tc.length) .top) h):uC P ops (⟨dst,.call ⟨.value f,args,argTypes⟩,ty,pos,after,none⟩::l) K t h:=by
 subst hrs hnt htc
 intro E a Q H F hd hQ
 have hargs:=jP F (xs:=args) hog.2
 have hf':=zT F hog.1
 rw [hfn] at hf'
 generalize ha:a.eval f=u at hf'
 cases hf' with
 | fn _ _ vs hl hh =>
 have F1:FR E (kW t args.toList ++ caps) (args.map a.eval ++ vs):=wF hargs ⟨hl,hh⟩
 have F2:FR E ((kW t args.toList ++ caps) ++ List.replicate (fn.ntmps - (kW t args.toList ++ caps).length) .top) ((args.map a.eval ++ vs) ++ Array.replicate (fn.ntmps - (args.map a.eval ++ vs).size) undef):=by
  refine wF F1 ⟨by simp only [List.length_replicate,Array.size_replicate,F1.1],fun i a v ha hv=>?_⟩
  rw [List.getElem?_replicate] at ha
  split at ha
  ·injection ha with ha;subst ha;exact .top _
  ·cases ha
 have put_defers:∀ d v,(a.put d v).defers=[]:=by
  intro d v
  cases d with
  | none=>exact hd
  | some d=>exact hd
 unfold wpList
 rw [if_pos (show Region.wanted _ _=true from rfl)]
 refine .inl ?_
 unfold Oper.wp
 have hrun:(execOp a.eval ⟨dst,.call ⟨.value f,args,argTypes⟩,ty,pos,after,none⟩).run P E.w = .ok (.enter k (args.map a.eval ++ vs)) E.w:=by
  show (do let d ← resolve a.eval ⟨.value f,args,argTypes⟩ ty;invoke d.target d.args:Sem Next).run P E.w=_
  simp only [resolve,Sem.run_bind,Deferred.ofValue,ha,Sem.run_pure,Result.andThen_ok,invoke,Array.empty_append]
  exact tQ ⟨fn,hf,hn,by rw [hb];rfl⟩ _
 rw [hrun]
 have hcall:Calls P k (args.map a.eval ++ vs) E.w fun e w'=>∃ u v E' h',e = .returned u/\E'.w=w'/\Ext E h E' h'/\HR E' h'/\VR E' v u/\uC P ops l K (wZ t dst v) h':=by
  refine calls_of_wp hf hb ?_
  refine hm E _ _ H F2 rfl fun e E1 a' t' h1 hk X1 H1 F' hd'=>?_
  have done:retK P fn.results.toList (fun v h'=>uC P ops l K (wZ t dst v) h') t' h1->a'.defers=[]/\∃ u,(results fn a'.tmps).run P E1.w = .ok u E1.w/\∃ u' v E' h',Ending.returned u = .returned u'/\E'.w=E1.w/\Ext E h E' h'/\HR E' h'/\VR E' v u'/\uC P ops l K (wZ t dst v) h':=by
   intro hk
   obtain ⟨u,v,q1,q2,q3⟩:=kZ (P:=P) H1 F' hk
   exact ⟨hd',u,q1,u,v,E1,h1,rfl,rfl,X1,H1,q3,q2⟩
  cases e with
  | normal=>exact done hk
  | ret=>exact done hk
  | exit id=>exact hk.elim
  | goto l=>exact hk.elim
 refine Calls.mono hcall ?_
 rintro e w' ⟨u,v,E',h',rfl,rfl,X,H',V,hM⟩
 exact hM E' (a.put dst u) Q H' (qQ (uZ (X.keep H) F) V dst) (put_defers _ _) fun e E2 a' t' h2 hk X2 H2 F2 hd2=>hQ e E2 a' t' h2 hk (X.trans X2) H2 F2 hd2

/-! ### Rows that name own blocks: these are given up to be read only -/
mutual
theorem fzV_nref {fz:List Nat}:∀ {a:AV},nref a->fzV h fz a=a/\wJ h fz a
 | .ptr _ _ _ _,hn=>by simp [nref] at hn
 | .sl _ _ _ _ _,hn=>by simp [nref] at hn
 | .isl _ _ _ _ _ _,hn=>by simp [nref] at hn
 | .csl _ _ _ _ _,hn=>by simp [nref] at hn
 | .rptr _ _ _ _ _,_=>by simp [fzV,wJ]
 | .ro _ _ _ _,_=>by simp [fzV,wJ]
 | .agg l,hn=>by
  simp only [nref] at hn
  obtain ⟨q1,q2⟩:=bD (fz:=fz) hn
  exact ⟨by simp only [fzV,q1],by simpa only [wJ] using q2⟩
 | .tup l,hn=>by
  simp only [nref] at hn
  obtain ⟨q1,q2⟩:=bD (fz:=fz) hn
  exact ⟨by simp only [fzV,q1],by simpa only [wJ] using q2⟩
 | .fn _ l,hn=>by
  simp only [nref] at hn
  obtain ⟨q1,q2⟩:=bD (fz:=fz) hn
  exact ⟨by simp only [fzV,q1],by simpa only [wJ] using q2⟩
 | .mfn _ l,hn=>by
  simp only [nref] at hn
  obtain ⟨q1,q2⟩:=bD (fz:=fz) hn
  exact ⟨by simp only [fzV,q1],by simpa only [wJ] using q2⟩
 | .opt _ v,hn=>by
  simp only [nref] at hn
  obtain ⟨q1,q2⟩:=fzV_nref (fz:=fz) hn
  exact ⟨by simp only [fzV,q1],by simpa only [wJ] using q2⟩
 | .top,_=>by simp [fzV,wJ]
 | .bool _,_=>by simp [fzV,wJ]
 | .int _ _,_=>by simp [fzV,wJ]
 | .str _,_=>by simp [fzV,wJ]
 | .nilp,_=>by simp [fzV,wJ]
 | .emp,_=>by simp [fzV,wJ]
 | .nilf,_=>by simp [fzV,wJ]
 | .ub,_=>by simp [fzV,wJ]
 | .val _,_=>by simp [fzV,wJ]
 | .mp _,_=>by simp [fzV,wJ]
theorem bD {fz:List Nat}:∀ {l:List AV},nrefL l->fzL h fz l=l/\qH h fz l
 | [],_=>by simp [fzL,qH]
 | a::l,hn=>by
  simp only [nrefL] at hn
  obtain ⟨q1,q2⟩:=fzV_nref (fz:=fz) hn.1
  obtain ⟨q3,q4⟩:=bD (fz:=fz) hn.2
  exact ⟨by simp only [fzL,q1,q3],by simp only [qH];exact ⟨q2,q4⟩⟩
end
/-! ### Rows told a little weaker: a nil slice as a list of no elements -/
/-! ### A region that draws its order, of which the end comes in order -/
def noCallB:List Oper->Bool
 | []=>true
 | o::l=>(match o.op with|.call ⟨.value _,_,_⟩=>false|_=>true) && noCallB l
theorem wpQ_still {sh:TypeId->Option (List Leaf)} {ct:Ct} (S:cP P sh) (C:yP P ct) {ops:Array Oper} {K:Kt} {Q:Act->Prop} {w:World} (hw:∀ k,k < E.w.heap.size->w.heap[k]? = E.w.heap[k]?) (H:HR E h) (l:List Oper) (hn:noCallB l=true) :
  ∀ (t:List AV) (a:Act),FR E t a.tmps->a.defers=[]->wpQ P sh ct ops.toList K h l t ->
   (∀ (t':List AV) (a':Act),K .normal t' h->FR E t' a'.tmps->a'.defers=[]->Q a')->wpStill P ops w Q l a:=by
 induction l with
 | nil=>exact fun t a F hd hw hQ=>hQ t a hw F hd
 | cons o l ih =>
  intro t a F hd hk hQ
  simp only [noCallB,Bool.and_eq_true] at hn
  obtain ⟨g1,g2⟩:=kT (ops:=ops) rfl (o:=o) F
  simp only [wpQ] at hk
  have put_defers:∀ d v,(a.put d v).defers=[]:=by
   intro d v
   cases d with
   | none=>exact hd
   | some d=>exact hd
  have hcall:∀ f xs ts,o.op ≠ .call ⟨.value f,xs,ts⟩:=by
   intro f xs ts e
   have:=hn.1
   rw [e] at this
   cases this
  have run:∀ ob v,evO P sh ct t h o.op = .pure ob v->uA t o.op->ob->∀ x,(∀ r,VR E v r->VR E x r)->wpQ P sh ct ops.toList K h l (wZ t o.dst x)->o.still P a w (wpStill P ops w Q l):=by
   intro ob v hr hog hob x hx hk
   obtain ⟨r,h1,h2⟩:=op_still S H F hr hob hog hcall
   unfold Oper.still
   rw [h1 w hw]
   exact ⟨rfl,ih hn.2 _ _ (qQ F (hx _ h2) o.dst) (put_defers _ _) hk hQ⟩
  have skip:∀ x,wpQ P sh ct ops.toList K h l (wZ t o.dst (.opt false x))->wpStill P ops w Q l (a.put o.dst undef):=fun x hk =>
   ih hn.2 _ _ (qQ F (.opt_f x) o.dst) (put_defers _ _) hk hQ
  unfold wpStill
  unfold nxtQ at hk
  split at hk
  ·rename_i hg
   rw [if_pos (g1 hg)]
   split at hk
   ·rename_i ob v hr;exact run ob v hr hk.1 hk.2.1 v (fun _ h=>h) hk.2.2
   ·exact hk.elim
  ·rename_i b hg
   rw [g2 b hg]
   split at hk
   ·rename_i ob v hr
    cases b with
    | true=>rw [if_pos rfl];exact run ob v hr (hk.1 rfl).1 (hk.1 rfl).2 _ (fun r h=>.opt_t v r h) hk.2
    | false=>rw [if_neg (by simp)];exact skip _ hk.2
   ·obtain ⟨rfl,hk⟩:=hk
    rw [if_neg (by simp)]
    exact skip _ hk
  ·exact hk.elim
theorem draw_tail {sh:TypeId->Option (List Leaf)} {ct:Ct} (S:cP P sh) (C:yP P ct) (n:Nat) {id:Nat} {l:List Oper} {K:Kt} {t:List AV} (hm:P.follows .mixedOrders=true) (hB:Region.lexTailB .any l.toArray n=true) (hn:noCallB (l.take n)=true)
  (hw:wpQ P sh ct l (kO P l.toArray (l.drop n) K) h (l.take n) t):Mean P (.region id l.toArray true) K t h:=by
 intro E a Q H F hd hQ
 refine wp_region_still_tail n hm hB ?_
 have hS:Same E.w { E.w with drawn:=E.w.drawn+1 }:=⟨rfl,rfl,rfl,Nat.le_refl _,fun _ _=>rfl⟩
 refine wpQ_still (w:={ E.w with drawn:=E.w.drawn+1 }) (K:=kO P l.toArray (l.drop n) K) (ops:=l.toArray) S C (fun _ _=>rfl) H (l.take n) hn t a F hd (by simpa using hw) fun t' a' hk F' hd'=>?_
 obtain ⟨H1,X1⟩:=HR_same H hS
 exact hk { E with w:={ E.w with drawn:=E.w.drawn+1 } } a' Q H1 (uZ (X1.keep H) F') hd' fun e E' a2 t2 h2 hk2 X2 H2 F2 hd2=>hQ e E' a2 t2 h2 hk2 (X1.trans X2) H2 F2 hd2
/-! ### A row of which one cell names an own block -/
section
variable {α:Type} [Inhabited α] {f:α->List AV} {μ:Mu} {e es es2 b b' m i j n n' N:Nat} {L:List α}
end
end Go.Am

namespace Go.Am
set_option linter.unusedVariables false
set_option linter.unusedSectionVars false
variable {P:Program} {E:Env} {h:List ABlk}
def plc:Value->Option Nat
 | .slice (some ad) _ cap=>bif decide (0 < cap) then some ad.block else none
 | _=>none
def PkV (V:List Value) (k:Nat):Prop:=∃ (x:Nat) (v:Value),V[x]? = some v/\plc v=some k
def nilv:Value:=.slice none 0 0
structure ExtP (V:List Value) (E:Env) (h:List ABlk) (V':List Value) (E':Env) (h':List ABlk):Prop where
 os:E'.w.os=E.w.os
 tape:E'.w.tape=E.w.tape
 output:E'.w.output=E.w.output
 σ:∀ (b:Nat) (x:Nat × Nat),E.σ b=some x->E'.σ b=some x
 prot:∀ k,E.prot k->E'.prot k
 size:E.w.heap.size <= E'.w.heap.size
 kind:∀ (k:Nat) cs e,E.w.heap[k]? = some (.cells cs e (0,0))->∃ cs',E'.w.heap[k]? = some (.cells cs' e (0,0))/\cs'.size=cs.size
 frame:∀ k,k < E.w.heap.size->¬ Own E h k->¬ PkV V k->E'.w.heap[k]? = E.w.heap[k]?
 own:∀ k,Own E' h' k ∨ PkV V' k->Own E h k ∨ PkV V k ∨ E.w.heap.size <= k
 len:h.length <= h'.length
 old:∀ b,b < h.length->E'.σ b=E.σ b
 pro:∀ k,E'.prot k->E.prot k ∨ Own E h k ∨ PkV V k ∨ E.w.heap.size <= k
 lo:E'.lo=E.lo
theorem ExtP.refl (V:List Value) (E:Env) (h:List ABlk):ExtP V E h V E h :=
 ⟨rfl,rfl,rfl,fun _ _ h=>h,fun _ h=>h,Nat.le_refl _,fun k cs e h=>⟨cs,h,rfl⟩,fun _ _ _ _=>rfl,fun _ h=>by rcases h with h|h;exact .inl h;exact .inr (.inl h),Nat.le_refl _,fun _ _=>rfl,fun _ h=>.inl h,rfl⟩
theorem ExtP.trans {V V1 V2:List Value} {E E1 E2:Env} {h h1 h2:List ABlk} (a:ExtP V E h V1 E1 h1) (b:ExtP V1 E1 h1 V2 E2 h2):ExtP V E h V2 E2 h2 where
 os:=b.os.trans a.os
 tape:=b.tape.trans a.tape
 output:=b.output.trans a.output
 σ:=fun x y h=>b.σ _ _ (a.σ _ _ h)
 prot:=fun k h=>b.prot _ (a.prot _ h)
 size:=Nat.le_trans a.size b.size
 kind:=fun k cs e h=>by
  obtain ⟨c1,h1,e1⟩:=a.kind k cs e h
  obtain ⟨c2,h2,e2⟩:=b.kind k c1 e h1
  exact ⟨c2,h2,e2.trans e1⟩
 frame:=fun k hk hn hv=>by
  rw [b.frame k (Nat.lt_of_lt_of_le hk a.size) (fun ho=>?_) (fun ho=>?_),a.frame k hk hn hv]
  ·rcases a.own k (.inl ho) with h|h|h
   ·exact hn h
   ·exact hv h
   ·omega
  ·rcases a.own k (.inr ho) with h|h|h
   ·exact hn h
   ·exact hv h
   ·omega
 own:=fun k h=>by
  rcases b.own k h with h|h|h
  ·exact a.own k (.inl h)
  ·exact a.own k (.inr h)
  ·exact .inr (.inr (Nat.le_trans a.size h))
 len:=Nat.le_trans a.len b.len
 old:=fun i hi=>(b.old i (Nat.lt_of_lt_of_le hi a.len)).trans (a.old i hi)
 pro:=fun k h=>by
  rcases b.pro k h with h|h|h|h
  ·exact a.pro k h
  ·exact .inr (a.own k (.inl h))
  ·exact .inr (a.own k (.inr h))
  ·exact .inr (.inr (.inr (Nat.le_trans a.size h)))
 lo:=b.lo.trans a.lo
theorem no_PkV {k:Nat}:¬ PkV [] k:=by rintro ⟨x,v,h,_⟩;simp at h
theorem ExtP.nil {V:List Value} {E E':Env} {h h':List ABlk} (x:ExtP [] E h V E' h'):Ext E h E' h' :=
 ⟨x.os,x.tape,x.output,x.σ,x.prot,x.size,x.kind,fun k hk hn=>x.frame k hk hn no_PkV,fun k hk=>by
  rcases x.own k (.inl hk) with h|h|h
  ·exact .inl h
  ·exact absurd h no_PkV
  ·exact .inr h,x.len,x.old,fun k hk=>by
  rcases x.pro k hk with h|h|h|h
  ·exact .inl h
  ·exact .inr (.inl h)
  ·exact absurd h no_PkV
  ·exact .inr (.inr h),x.lo⟩
section
variable {α:Type} [Inhabited α] (f:α->List AV) (e:TypeId) (es:Nat)
def gI (E:Env) (h:List ABlk) (v:Value) (l:List α):Prop :=
 ∃ a cap,v = .slice a l.length cap/\l.length <= cap/\cap <= maxLen/\(a=none->cap=0) /\
  (0 < cap->∃ k o cs,a=some ⟨k,o,none⟩/\E.w.heap[k]? = some (.cells cs e (0,0))/\o+cap * es <= cs.size/\¬ Own E h k/\¬ E.prot k /\
   ∀ x y,x < l.length->y < es->∃ u,cs[o+x * es+y]? = some u/\u.oneCell'=true/\VR E (enR f l x y) u)
structure PkOk (E:Env) (h:List ABlk) (V:List Value) (L:List (List α)):Prop where
 len:V.length=L.length
 row:∀ (x:Nat) (v:Value) (l:List α),V[x]? = some v->L[x]? = some l->gI f e es E h v l
 inj:∀ (x x':Nat) (v v':Value) (k:Nat),V[x]? = some v->V[x']? = some v'->plc v=some k->plc v'=some k->x=x'
variable {f e es}
theorem gI.mono' (hr:∀ a,nrefL (f a)) {E':Env} {h':List ABlk} {v:Value} {l:List α} (hp0:∀ k,E.prot k->E'.prot k/\E'.w.heap[k]? = E.w.heap[k]?)
  (hk:∀ k,plc v=some k->k < E.w.heap.size->¬ Own E h k->¬ E.prot k->E'.w.heap[k]? = E.w.heap[k]? /\ ¬ Own E' h' k/\¬ E'.prot k) (p:gI f e es E h v l) (hlo:∀ k,E'.lo k->E.lo k:=by first|exact fun _ h=>h|assumption):gI f e es E' h' v l:=by
 obtain ⟨a,cap,h1,h2,h3,h4,h5⟩:=p
 refine ⟨a,cap,h1,h2,h3,h4,fun hc=>?_⟩
 obtain ⟨k,o,cs,q1,q2,q3,q4,q5,q6⟩:=h5 hc
 obtain ⟨r1,r2,r3⟩:=hk k (by subst h1 q1;simp [plc,hc]) (xE q2) q4 q5
 refine ⟨k,o,cs,q1,r1.trans q2,q3,r2,r3,fun x y hx hy=>?_⟩
 obtain ⟨u,s1,s2,s3⟩:=q6 x y hx hy
 exact ⟨u,s1,s2,s3.view hp0 (nref_getL (hr _) y)⟩
theorem gI.mono (hr:∀ a,nrefL (f a)) {E':Env} {h':List ABlk} (hp0:∀ k,E.prot k->E'.prot k/\E'.w.heap[k]? = E.w.heap[k]?) (hw:∀ k,k < E.w.heap.size->¬ Own E h k->E'.w.heap[k]? = E.w.heap[k]?)
  (ho:∀ k,Own E' h' k->Own E h k ∨ E.w.heap.size <= k) (hp:∀ k,E'.prot k->E.prot k ∨ Own E h k ∨ E.w.heap.size <= k) {v:Value} {l:List α} (p:gI f e es E h v l) (hlo:∀ k,E'.lo k->E.lo k:=by first|exact fun _ h=>h|assumption):gI f e es E' h' v l:=by
 refine p.mono' hr hp0 fun k _ hk h1 h2=>⟨hw k hk h1,fun hO=>?_,fun hP=>?_⟩
 ·rcases ho k hO with h|h
  ·exact h1 h
  ·omega
 ·rcases hp k hP with h|h|h
  ·exact h2 h
  ·exact h1 h
  ·omega
theorem PkOk.ext (hr:∀ a,nrefL (f a)) (H:HR E h) {E':Env} {h':List ABlk} (X:Ext E h E' h') {V:List Value} {L:List (List α)} (p:PkOk f e es E h V L):PkOk f e es E' h' V L :=
 ⟨p.len,fun x v l h1 h2=>(p.row x v l h1 h2).mono hr (fun k hk=>⟨X.prot k hk,X.frame k (H.prot k hk).1 (H.prot k hk).2⟩) X.frame X.own X.pro (fun k h=>by rw [← X.lo];exact h),p.inj⟩
theorem PkOk.sub (hr:∀ a,nrefL (f a)) {E':Env} {h':List ABlk} (hw:E'.w=E.w) (hp:∀ k,E'.prot k ↔ E.prot k) (ho:∀ k,Own E' h' k->Own E h k) {V:List Value} {L:List (List α)} (p:PkOk f e es E h V L) (hlo:∀ k,E'.lo k->E.lo k:=by first|exact fun _ h=>h|assumption):PkOk f e es E' h' V L :=
 ⟨p.len,fun x v l h1 h2=>(p.row x v l h1 h2).mono hr (fun k hk=>⟨(hp k).2 hk,by rw [hw]⟩) (fun k _ _=>by rw [hw]) (fun k hk=>.inl (ho k hk)) (fun k hk=>.inl ((hp k).1 hk)),p.inj⟩
theorem PkOk.emp:PkOk f e es E h [] []:=⟨rfl,fun x v l h _=>by simp at h,fun x x' v v' k h=>by simp at h⟩

/-! ### Codes that run while rows are parked -/
variable (f e es)
variable {f e es}
/-! ### A row is taken up, and laid down again -/
theorem PkOk.set {V:List Value} {L:List (List α)} {i:Nat} {v:Value} {l:List α} {E':Env} {h':List ABlk} (p:PkOk f e es E h V L) (hi:gI f e es E' h' v l)
  (ho:∀ x u m,x ≠ i->V[x]? = some u->L[x]? = some m->gI f e es E' h' u m) (hd:∀ x u k,x ≠ i->V[x]? = some u->plc u=some k->plc v ≠ some k):PkOk f e es E' h' (V.set i v) (L.set i l):=by
 refine ⟨by rw [List.length_set,List.length_set];exact p.len,fun x u m h1 h2=>?_,fun x x' u u' k h1 h2 h3 h4=>?_⟩
 ·rw [List.getElem?_set] at h1 h2
  by_cases hx:i=x
  ·rw [if_pos hx] at h1 h2
   split at h1
   ·split at h2
    ·cases h1;cases h2;exact hi
    ·cases h2
   ·cases h1
  ·rw [if_neg hx] at h1 h2;exact ho x u m (fun q=>hx q.symm) h1 h2
 ·rw [List.getElem?_set] at h1 h2
  by_cases hx:i=x<;>by_cases hx':i=x'
  ·exact hx.symm.trans hx'
  ·rw [if_pos hx] at h1;rw [if_neg hx'] at h2
   split at h1
   ·cases h1;exact absurd h3 (hd x' u' k (fun q=>hx' q.symm) h2 h4)
   ·cases h1
  ·rw [if_neg hx] at h1;rw [if_pos hx'] at h2
   split at h2
   ·cases h2;exact absurd h4 (hd x u k (fun q=>hx q.symm) h1 h3)
   ·cases h2
  ·rw [if_neg hx] at h1;rw [if_neg hx'] at h2;exact p.inj x x' u u' k h1 h2 h3 h4
theorem gI.nil:gI f e es E h nilv ([]:List α):=⟨none,0,rfl,Nat.le_refl _,Nat.zero_le _,fun _=>rfl,fun h=>absurd h (Nat.lt_irrefl _)⟩
section
variable (f e es)
end
theorem gI.place {v:Value} {l:List α} {k:Nat} (p:gI f e es E h v l) (hk:plc v=some k):k < E.w.heap.size/\¬ Own E h k/\¬ E.prot k:=by
 obtain ⟨a,cap,rfl,_,_,_,h5⟩:=p
 by_cases hc:0 < cap
 ·obtain ⟨k1,o,cs,rfl,q2,_,q4,q5,_⟩:=h5 hc
  simp only [plc,hc,decide_true,cond_true,Option.some.injEq] at hk
  subst hk
  exact ⟨xE q2,q4,q5⟩
 ·cases a with
  | none=>cases hk
  | some ad=>simp [plc,hc] at hk
theorem PkOk.place {V:List Value} {L:List (List α)} {k:Nat} (p:PkOk f e es E h V L) (hk:PkV V k):k < E.w.heap.size/\¬ Own E h k/\¬ E.prot k:=by
 obtain ⟨x,v,h1,h2⟩:=hk
 have hlt:x < L.length:=by
  rw [← p.len]
  rcases Nat.lt_or_ge x V.length with h'|h'
  ·exact h'
  ·rw [List.getElem?_eq_none h'] at h1;cases h1
 exact (p.row x v _ h1 (List.getElem?_eq_getElem hlt)).place h2
theorem gI.ro (hr:∀ a,nrefL (f a)) {E':Env} (hw:E'.w=E.w) (hp:∀ k,E.prot k->E'.prot k) {v:Value} {l:List α} (p:gI f e es E h v l) (hk:∀ k,plc v=some k->E'.prot k) (hL:∀ k,E.lo k->E.prot k) (hlo:∀ k,E'.lo k->E.lo k:=by first|exact fun _ h=>h|assumption):VR E' (.ro es l.length false (enR f l)) v:=by
 obtain ⟨a,cap,rfl,h2,h3,h4,h5⟩:=p
 have hv:∀ {b:AV} {u:Value},VR E b u->nref b->VR E' b u:=fun q n=>VR.view (E:=E) (E':=E') (fun k hk=>⟨hp k hk,by rw [hw]⟩) q n
 have main:0 < l.length->∃ k o,a=some ⟨k,o,none⟩/\E'.prot k/\∀ x y,x < l.length->y < es->∃ u,E'.w.cell? ⟨k,o+x * es+y,none⟩=some u/\u.oneCell'=true/\VR E (enR f l x y) u:=by
  intro hl
  obtain ⟨k,o,cs,rfl,q2,_,_,_,q6⟩:=h5 (by omega)
  refine ⟨k,o,rfl,hk k (by simp [plc,show 0 < cap from by omega]),fun x y hx hy=>?_⟩
  obtain ⟨u,r1,r2,r3⟩:=q6 x y hx hy
  exact ⟨u,by rw [hw];simp only [World.cell?,q2];exact r1,r2,r3⟩
 refine .ro es l.length false _ a cap h2 h3 (fun q=>by cases q) ⟨h4,fun hp _ k o e=>by
  obtain ⟨k',o',cs,q1,q2,_,_,q5,_⟩:=h5 (by omega)
  rw [e] at q1
  cases q1
  exact ⟨fun w=>q5 (hL k (hlo k w)),by rw [hw];exact ⟨_,_,q2⟩⟩⟩ (fun x y=>tX E'.w (x * es+y) a) (fun hl=>?_) (fun x y hx hy=>?_) (fun x y hx hy=>?_) (fun x y hx hy=>nref_getL (hr _) y)
 ·obtain ⟨k,o,rfl,g2,g3⟩:=main hl
  refine ⟨k,o,rfl,g2,fun x y hx hy=>?_⟩
  obtain ⟨u,q1,_,_⟩:=g3 x y hx hy
  rw [q1,tX,show (⟨k,o,none⟩:Addr).add (x * es+y) = ⟨k,o+x * es+y,none⟩ from by simp [Addr.add,Nat.add_assoc],q1];rfl
 ·obtain ⟨k,o,rfl,g2,g3⟩:=main (by omega)
  obtain ⟨u,q1,q2,_⟩:=g3 x y hx hy
  rw [tX,show (⟨k,o,none⟩:Addr).add (x * es+y) = ⟨k,o+x * es+y,none⟩ from by simp [Addr.add,Nat.add_assoc],q1];exact q2
 ·obtain ⟨k,o,rfl,g2,g3⟩:=main (by omega)
  obtain ⟨u,q1,_,q3⟩:=g3 x y hx hy
  rw [tX,show (⟨k,o,none⟩:Addr).add (x * es+y) = ⟨k,o+x * es+y,none⟩ from by simp [Addr.add,Nat.add_assoc],q1];exact hv q3 (nref_getL (hr _) y)
/-! ### A row of which a cell is told by its value -/
section
variable {β:Type} [Inhabited β]
variable {g:β->List AV} {held:β->List α}
end
end
/-! ### Regions told with their operations apart -/
def t8 (a0 a1 a2 a3 a4 a5 a6 a7:AV) (l:List AV):List AV:=a0::a1::a2::a3::a4::a5::a6::a7::l
section
variable {a0 a1 a2 a3 a4 a5 a6 a7:AV} {l:List AV}
end
end Go.Am

namespace Go.Am
open Go
set_option linter.unusedVariables false
variable {P:Program} {h:List ABlk}
theorem nlt {y z:Nat}:¬ y+z < z:=Nat.not_lt.2 (Nat.le_add_left _ _)
theorem uJ {A R X:Type} {a:Code} {K:Kt} {t:List AV} (TB:A->List AV) (HB:A->List ABlk) {step:Unit->Option (Lp Unit (A ⊕ R))} {k:A->Option X} {j:R->Option X} {x:X}
  (hd:lp (yF step ()) k j=some x)
  (round:∀ o,step ()=some o->(∀ e,o = .done (.inl e)->k e=some x)->(∀ r,o = .done (.inr r)->j r=some x)->Mean P a (kJ h.length TB HB (fun e=>o = .done (.inl e)) K) t h)
  (hrest:∀ e,k e=some x->K .normal (TB e) (HB e)):Mean P a K t h:=by
 have ⟨b0,hb0,hk,hj⟩:∃ b0,yF step ()=some b0/\(∀ e,b0 = .inl e->k e=some x)/\(∀ r,b0 = .inr r->j r=some x):=by
  cases hl:yF step () with
  | none=>rw [hl] at hd;cases hd
  | some b =>
   rw [hl] at hd
   refine ⟨b,rfl,?_,?_⟩
   ·rintro e rfl;exact hd
   ·rintro r rfl;exact hd
 obtain ⟨n0,hn0⟩:=gE.1 hb0
 cases n0 with
 | zero=>cases hn0
 | succ n =>
 cases ho:step () with
 | none=>simp only [tV,ho] at hn0;cases hn0
 | some o =>
  have h1:∀ b,o = .done b->b0=b:=by
   rintro b rfl
   simp only [tV,ho] at hn0
   exact (Option.some.inj hn0).symm
  exact join_seq TB HB (fun e=>o = .done (.inl e)) (round o ho (fun e he=>hk e (h1 _ he)) (fun r hr=>hj r (h1 _ hr))) (fun e he=>hrest e (hk e (h1 _ he)))
/-! ### Arrays as wholes -/
/-! ### One block told otherwise -/
end Go.Am

namespace Go.Am
set_option linter.unusedVariables false
set_option linter.unusedSectionVars false
variable {P:Program} {E:Env} {h:List ABlk}
theorem push_HRo {E:Env} {h:List ABlk} (H:HR E h) (ob:Obj) (x:ABlk) (hx:BR (E.push h ob) h.length x):HR (E.push h ob) (h ++ [x])/\Ext E h (E.push h ob) (h ++ [x]):=by
 have K:=dD H ob
 have hσ:∀ b,b < h.length->(E.push h ob).σ b=E.σ b:=fun b hb=>eC (by omega)
 have hnew:(E.push h ob).σ h.length=some (E.w.heap.size,0):=vW _ _ _
 have hold:∀ {b:Nat} {y:ABlk} {k o:Nat},h[b]? = some y->y ≠ .dead->E.σ b=some (k,o)->k < E.w.heap.size:=fun h1 h2 h3=>(H.blk _ _ h1).lt h2 h3
 have hown:∀ k,Own (E.push h ob) (h ++ [x]) k->Own E h k ∨ E.w.heap.size <= k:=by
  rintro k ⟨b,y,o,h1,h2,h3⟩
  rcases getElem?_snoc h1 with ⟨hb,h1⟩|⟨rfl,rfl⟩
  ·rw [hσ b hb] at h3;exact .inl ⟨b,y,o,h1,h2,h3⟩
  ·rw [hnew] at h3;cases h3;exact .inr (Nat.le_refl _)
 refine ⟨⟨fun b y hb=>?_,fun b b' y y' k o o' h1 h2 h3 h4 h5 h6=>?_,fun k hk=>?_,fun b hb=>?_,H.lo⟩,⟨rfl,rfl,rfl,K.σ,K.prot,by simp [Env.push],K.kind,fun k hk _=>uI _ _ hk,hown,by simp,hσ,fun _ h=>.inl h,rfl⟩⟩
 ·rcases getElem?_snoc hb with ⟨hl,hb⟩|⟨rfl,rfl⟩
  ·by_cases hd:y = .dead
   ·subst hd;trivial
   ·exact (H.blk b y hb).mono K (hσ b hl) fun k o hk=>uI _ _ (hold hb hd hk)
  ·exact hx
 ·rcases getElem?_snoc h1 with ⟨l1,g1⟩|⟨e1,e1'⟩<;>rcases getElem?_snoc h3 with ⟨l3,g3⟩|⟨e3,e3'⟩
  ·rw [hσ b l1] at h5;rw [hσ b' l3] at h6;exact H.inj b b' y y' k o o' g1 h2 g3 h4 h5 h6
  ·rw [hσ b l1] at h5;rw [e3,hnew] at h6;cases h6;exact absurd (hold g1 h2 h5) (by omega)
  ·rw [hσ b' l3] at h6;rw [e1,hnew] at h5;cases h5;exact absurd (hold g3 h4 h6) (by omega)
  ·rw [e1,e3]
 ·obtain ⟨h1,h2⟩:=H.prot k hk
  refine ⟨by simp [Env.push];omega,fun ho=>?_⟩
  rcases hown k ho with h|h
  ·exact h2 h
  ·omega
 ·rw [List.length_append,List.length_singleton] at hb
  exact (eC (by omega)).trans (H.fresh b (by omega))
def qG (w:World) (k:Nat) (es:Array MapEntry) (c:Nat):World:={ w with heap:=w.heap.setIfInBounds k (.map es c) }
theorem jX {w:World} {k i:Nat} {es:Array MapEntry} {c:Nat} (h:i ≠ k):(qG w k es c).heap[i]? = w.heap[i]?:=by
 simp only [qG];rw [Array.getElem?_setIfInBounds_ne (Ne.symm h)]
theorem putM_HR {b k:Nat} {m m':List (Int × Int)} {es:Array MapEntry} {c:Nat} (H:HR E h) (hb:h[b]? = some (.mapb k m)) (hf:Mfit es m') (hl:m'.length < 1000000000) :
  HR { E with w:=qG E.w k es c } (h.set b (.mapb k m'))/\Ext E h { E with w:=qG E.w k es c } (h.set b (.mapb k m')):=by
 obtain ⟨hσ,es0,c0,hk,_⟩:=H.blk b _ hb
 have ho:Own E h k:=⟨b,_,0,hb,by simp,hσ⟩
 have klt:=xE hk
 have K:Keep E { E with w:=qG E.w k es c }:=⟨fun _ _ h=>h,fun _ h=>h,fun i hi=>jX (by rintro rfl;exact (H.prot _ hi).2 ho),fun i cs t hi=>by
  by_cases hik:i=k
  ·subst hik;rw [hk] at hi;cases hi
  ·exact ⟨cs,(jX hik).trans hi,rfl⟩,rfl⟩
 have hlt:b < h.length:=(List.getElem?_eq_some_iff.1 hb).1
 have hget:∀ (i:Nat) (y:ABlk),(h.set b (.mapb k m'))[i]? = some y->(i=b/\y = .mapb k m') ∨ (i ≠ b/\h[i]? = some y):=by
  intro i y hi
  by_cases hib:i=b
  ·subst hib;rw [List.getElem?_set_self hlt] at hi;exact .inl ⟨rfl,(by injection hi with hi;exact hi.symm)⟩
  ·rw [List.getElem?_set_ne (Ne.symm hib)] at hi;exact .inr ⟨hib,hi⟩
 have hown:∀ i,Own { E with w:=qG E.w k es c } (h.set b (.mapb k m')) i->Own E h i:=by
  rintro i ⟨d,y,q,h1,h2,h3⟩
  rcases hget d y h1 with ⟨rfl,rfl⟩|⟨hc,h1⟩
  ·have h3':E.σ d=some (i,q):=h3
   rw [hσ] at h3';cases h3';exact ho
  ·exact ⟨d,y,q,h1,h2,h3⟩
 refine ⟨⟨fun d y hc=>?_,fun d d' y y' i q q' h1 h2 h3 h4 h5 h6=>?_,fun i hi=>?_,fun d hc=>?_,H.lo⟩,⟨rfl,rfl,rfl,K.σ,K.prot,by simp [qG],K.kind,fun i hi hn=>jX (by rintro rfl;exact hn ho),fun i hi=>.inl (hown i hi),by simp,fun _ _=>rfl,fun _ h=>.inl h,rfl⟩⟩
 ·rcases hget d y hc with ⟨rfl,rfl⟩|⟨hcb,hc2⟩
  ·exact ⟨hσ,es,c,by simp [qG,klt],hf,hl⟩
  ·by_cases hd:y = .dead
   ·subst hd;trivial
   ·refine (H.blk d y hc2).mono K rfl fun i q hi=>jX ?_
    rintro rfl
    exact hcb (H.inj d b y _ i q 0 hc2 hd hb (by simp) hi hσ)
 ·have g:∀ (d:Nat) (y:ABlk),(h.set b (.mapb k m'))[d]? = some y->y ≠ .dead->∃ y0,h[d]? = some y0/\y0 ≠ .dead:=by
   intro d y hc hy
   rcases hget d y hc with ⟨rfl,rfl⟩|⟨_,hc⟩
   ·exact ⟨_,hb,by simp⟩
   ·exact ⟨y,hc,hy⟩
  obtain ⟨y0,a1,a2⟩:=g d y h1 h2
  obtain ⟨y1,b1,b2⟩:=g d' y' h3 h4
  exact H.inj d d' y0 y1 i q q' a1 a2 b1 b2 h5 h6
 ·obtain ⟨h1,h2⟩:=H.prot i hi
  exact ⟨by simp [qG];exact h1,fun ho'=>h2 (hown i ho')⟩
 ·rw [List.length_set] at hc;exact H.fresh d hc
def bY (m:List (Int × Int)) (k v:Int):List (Int × Int):=if k ∈ m.map Prod.fst then m.map (fun q=>if q.1=k then (k,v) else q) else m ++ [(k,v)]
def delM (m:List (Int × Int)) (k:Int):List (Int × Int):=m.filter fun q=>q.1 != k
theorem lkp_upd {m:List (Int × Int)} {k v x:Int}:lkp (bY m k v) x=if x=k then some v else lkp m x:=by
 unfold lkp bY
 split
 ·rename_i hk
  induction m with
  | nil=>simp at hk
  | cons a m ih =>
   by_cases ha:a.1=k
   ·simp only [List.map_cons,if_pos ha,List.find?_cons]
    by_cases hx:x=k
    ·subst hx;simp
    ·have h1:((k,v).1 == x)=false:=by simp;exact fun e=>hx e.symm
     have h2:(a.1 == x)=false:=by simp;rw [ha];exact fun e=>hx e.symm
     rw [h1,h2]
     simp only [if_neg hx]
     by_cases hm:k ∈ m.map Prod.fst
     ·have:=ih hm;rw [if_neg hx] at this;exact this
     ·have:m.map (fun q=>if q.1=k then (k,v) else q)=m:=by
       conv=>rhs;rw [← List.map_id m]
       refine List.map_congr_left fun q hq=>?_
       rw [if_neg (fun e=>hm (by rw [← e];exact List.mem_map_of_mem hq))];rfl
      rw [this]
   ·have hm:k ∈ m.map Prod.fst:=by
     simp only [List.map_cons,List.mem_cons] at hk
     rcases hk with h|h
     ·exact absurd h.symm ha
     ·exact h
    have:=ih hm
    simp only [List.map_cons,if_neg ha,List.find?_cons]
    by_cases hx:a.1=x
    ·have h1:(a.1 == x)=true:=by simp [hx]
     rw [h1]
     simp only [Option.map_some]
     rw [if_neg (by rw [← hx];exact ha)]
    ·have h1:(a.1 == x)=false:=by simp [hx]
     rw [h1]
     exact this
 ·rename_i hk
  rw [List.find?_append]
  by_cases hx:x=k
  ·subst hx
   have:m.find? (fun q=>q.1 == x)=none:=by
    rw [List.find?_eq_none]
    intro q hq
    simp only [beq_iff_eq]
    exact fun e=>hk (by rw [← e];exact List.mem_map_of_mem hq)
   rw [this];simp
  ·rw [if_neg hx]
   cases hm:m.find? (fun q=>q.1 == x) with
   | some q=>simp
   | none=>simp;exact fun e=>hx e.symm
theorem lkp_del {m:List (Int × Int)} {k x:Int}:lkp (delM m k) x=if x=k then none else lkp m x:=by
 unfold lkp delM
 rw [List.find?_filter]
 by_cases hx:x=k
 ·subst hx
  rw [if_pos rfl]
  simp
 ·rw [if_neg hx]
  congr 1
  congr 1
  funext q
  by_cases e:q.1=x
  ·simp [e,hx]
  ·simp [e]
/-! ### The entries of a map and what is told of them -/
theorem nodup_ne {m:List (Int × Int)} {i j:Nat} {q r:Int × Int} (hn:(m.map Prod.fst).Nodup) (hi:m[i]? = some q) (hj:m[j]? = some r) (h:i ≠ j):q.1 ≠ r.1:=fun e=>by
 obtain ⟨li,ei⟩:=List.getElem?_eq_some_iff.1 hi
 obtain ⟨lj,ej⟩:=List.getElem?_eq_some_iff.1 hj
 have:=List.pairwise_iff_getElem.1 (List.nodup_iff_pairwise_ne.1 hn)
 rcases Nat.lt_or_gt_of_ne h with hlt|hlt
 ·exact this i j (by simpa using li) (by simpa using lj) hlt (by simp [ei,ej,e])
 ·exact this j i (by simpa using lj) (by simpa using li) hlt (by simp [ei,ej,e])
theorem fit_push {es:Array MapEntry} {m:List (Int × Int)} {c:Nat} (hf:Mfit es m) {x v:Int} (hn:x ∉ m.map Prod.fst):Mfit (es.push ⟨.int .i64 x,.int .i64 v,c⟩) (bY m x v):=by
 unfold bY
 rw [if_neg hn]
 refine ⟨by simp [hf.1],?_⟩
 rw [List.map_append]
 refine List.nodup_append.2 ⟨hf.2,by simp,fun a ha b hb=>?_⟩
 simp at hb;subst hb
 rintro rfl;exact hn ha
theorem fit_set {es:Array MapEntry} {m:List (Int × Int)} (hf:Mfit es m) {x v:Int} {j:Nat} {e:MapEntry} (hj:es.toList[j]? = some e) (he:e.key = .int .i64 x):Mfit (es.modify j fun e=>{ e with key:=.int .i64 x,val:=.int .i64 v }) (bY m x v):=by
 obtain ⟨q,q1,q2,q3⟩:=Mfit_at hf hj
 have hq:q.1=x:=by rw [he] at q2;injection q2 with _ q2;exact q2.symm
 have hm:x ∈ m.map Prod.fst:=by rw [← hq];exact List.mem_map_of_mem (List.mem_of_getElem? q1)
 unfold bY
 rw [if_pos hm]
 constructor
 ·refine List.ext_getElem? fun i=>?_
  rw [List.getElem?_map,Array.getElem?_toList,Array.getElem?_modify,List.getElem?_map,List.getElem?_map]
  by_cases hij:j=i
  ·subst hij
   rw [if_pos rfl,← Array.getElem?_toList,hj,q1]
   simp [hq]
  ·rw [if_neg hij,← Array.getElem?_toList]
   cases hi:es.toList[i]? with
   | none =>
    have h3:=congrArg (fun l=>l[i]?) hf.1
    simp only [List.getElem?_map,hi,Option.map_none] at h3
    cases hm2:m[i]? with
    | none=>rfl
    | some r=>rw [hm2] at h3;cases h3
   | some e2 =>
    obtain ⟨r,r1,r2,r3⟩:=Mfit_at hf hi
    have:=nodup_ne hf.2 q1 r1 hij
    rw [r1]
    simp only [Option.map_some,r2,r3]
    rw [if_neg (fun e=>this (by rw [hq,e]))]
 ·have:(m.map (fun q=>if q.1=x then (x,v) else q)).map Prod.fst=m.map Prod.fst:=by
   rw [List.map_map]
   refine List.map_congr_left fun q hq=>?_
   simp only [Function.comp]
   split
   ·rename_i h;exact h.symm
   ·rfl
  rw [this];exact hf.2
theorem del_at:∀ {m:List (Int × Int)} {i:Nat} {q:Int × Int},(m.map Prod.fst).Nodup->m[i]? = some q->m.eraseIdx i=delM m q.1
 | [],_,_,_,h=>by simp at h
 | a::m,0,q,hn,h=>by
  simp at h;subst h
  simp only [List.map_cons,List.nodup_cons] at hn
  simp only [List.eraseIdx_cons_zero,delM,List.filter_cons,bne_self_eq_false,Bool.false_eq_true,if_false]
  refine (List.filter_eq_self.2 fun q hq=>?_).symm
  simp only [bne_iff_ne]
  exact fun e=>hn.1 (by rw [← e];exact List.mem_map_of_mem hq)
 | a::m,i+1,q,hn,h=>by
  simp only [List.map_cons,List.nodup_cons] at hn
  have hq:m[i]? = some q:=by simpa using h
  have hne:(a.1 != q.1)=true:=by
   simp only [bne_iff_ne]
   intro e
   exact hn.1 (by rw [e];exact List.mem_map_of_mem (List.mem_of_getElem? hq))
  have:=del_at hn.2 hq
  unfold delM at this ⊢
  rw [List.eraseIdx_cons_succ,List.filter_cons,hne,this]
  simp
theorem fit_del {es:Array MapEntry} {m:List (Int × Int)} (hf:Mfit es m) {x:Int} {j:Nat} {e:MapEntry} (hj:es.toList[j]? = some e) (he:e.key = .int .i64 x):Mfit (es.eraseIdxIfInBounds j) (delM m x):=by
 obtain ⟨q,q1,q2,q3⟩:=Mfit_at hf hj
 have hq:q.1=x:=by rw [he] at q2;injection q2 with _ q2;exact q2.symm
 have h1:(es.eraseIdxIfInBounds j).toList=es.toList.eraseIdx j:=by
  have hlt:j < es.size:=by have:=(List.getElem?_eq_some_iff.1 hj).1;simpa using this
  simp [Array.eraseIdxIfInBounds,hlt]
 constructor
 ·rw [h1,ChangeMaps.map_eraseIdx,hf.1,← ChangeMaps.map_eraseIdx,del_at hf.2 q1,hq]
 ·exact hf.2.sublist ((List.filter_sublist).map _)
/-! ### The operations -/
theorem stepO {ops:Array Oper} {rest:List Oper} {K:Kt} {t:List AV} {o:Oper} (q2:o.guard=none)
  (hr:∀ (E:Env) (a:Act),HR E h->FR E t a.tmps->∃ (r:Value) (E':Env) (v:AV) (h':List ABlk),((execOp a.eval o).run P E.w = .ok (.value r) E'.w ∨ ((execOp a.eval o).run P E.w = .ok .skip E'.w/\r=undef))/\Ext E h E' h'/\HR E' h'/\VR E' v r/\uC P ops rest K (wZ t o.dst v) h'):uC P ops (o::rest) K t h:=by
 intro E a Q H F hdf hQ
 unfold wpList
 rw [if_pos (show Region.wanted _ _=true by simp [Region.wanted,q2])]
 refine .inl ?_
 obtain ⟨r,E',v,h',h1,X,H',hv,hm⟩:=hr E a H F
 have next:wpList P ops Q rest (a.put o.dst r) E'.w:=hm E' _ Q H' (qQ (uZ (X.keep H) F) hv o.dst) (by cases o.dst<;>simpa [Act.put] using hdf) fun e' E'' a' t' h' hk X3 H3 F3 hd3=>hQ e' E'' a' t' h' hk (X.trans X3) H3 F3 hd3
 unfold Oper.wp
 rcases h1 with h1|⟨h1,rfl⟩
 ·rw [h1];exact next
 ·rw [h1];exact next
theorem makeMapO {ops:Array Oper} {rest:List Oper} {K:Kt} {t:List AV} {o:Oper} {y:TypeId} (q1:o.op = .makeMap y none) (q2:o.guard=none)
  (hm:∀ k:Nat,uC P ops rest K (wZ t o.dst (.val (.map (some k)))) (h ++ [.mapb k []])):uC P ops (o::rest) K t h:=by
 refine stepO q2 fun E a H F=>?_
 obtain ⟨H1,X1⟩:=push_HRo H (.map #[] 0) (.mapb E.w.heap.size []) ⟨vW _ _ _,#[],0,heap_alloc_new _ _,⟨rfl,by simp⟩,by simp⟩
 refine ⟨.map (some E.w.heap.size),_,_,_,.inl ?_,X1,H1,.val _ rfl,hm _⟩
 obtain ⟨dst,op,ty,pos,after,guard⟩:=o
 subst q1
 rfl
theorem mapUpdateO {ops:Array Oper} {rest:List Oper} {K:Kt} {t:List AV} {o:Oper} {y kt et:TypeId} {mo ko vo:Operand} {b k:Nat} {m:List (Int × Int)} {x v:Int} (q1:o.op = .mapUpdate y mo ko vo) (q2:o.guard=none)
  (hu:P.underlying y=some (.map kt et)) (hd:P.underlying kt=some (.int .i64)) (gm:og t mo) (gk:og t ko) (gv:og t vo) (em:rho t mo = .val (.map (some k))) (ek:rho t ko = .int .i64 x) (ev:rho t vo = .int .i64 v)
  (hb:geth h b = .mapb k m) (hl:m.length < 999999999) (hm:uC P ops rest K (wZ t o.dst .top) (seth h b (.mapb k (bY m x v)))):uC P ops (o::rest) K t h:=by
 refine stepO q2 fun E a H F=>?_
 have hbs:h[b]? = some (.mapb k m):=by rw [← hb];exact zS (by rw [hb];exact fun e=>by cases e)
 obtain ⟨hσ,es,c,hk,hf,_⟩:=H.blk b _ hbs
 have rm:=map_of (zT F gm) em
 have rk:=int_of (zT F gk) ek
 have rv:=int_of (zT F gv) ev
 have hkk:MapKept.IsKey (.int .i64) (.int .i64 x):=rfl
 have hlen:(bY m x v).length < 1000000000:=by
  unfold bY;split
  ·rw [List.length_map];omega
  ·rw [List.length_append];simp;omega
 have run:∃ es' c',(Instr.mapUpdate y (.map (some k)) (.int .i64 x) (.int .i64 v)).run P E.w = .ok () (qG E.w k es' c')/\Mfit es' (bY m x v):=by
  rcases MapKept.findNow_spec hkk es.toList 0 (Mfit_key hf) with ⟨f1,f2⟩|⟨j,e,f1,f2,f3⟩
  ·refine ⟨es.push ⟨.int .i64 x,.int .i64 v,c⟩,c+1,?_,fit_push hf (Mfit_none hf f2)⟩
   simp [Instr.mapUpdate,run_underlying hu,MapKept.run_getObj_map hk,MapKept.run_checkKey hd hkk,MapKept.run_findKey hd f1,MapKept.run_setObj_map _ hk,Result.andThen,qG]
  ·refine ⟨es.modify j (fun e=>{ e with key:=.int .i64 x,val:=.int .i64 v }),c,?_,fit_set hf f2 f3⟩
   have hj:es[j]? = some e:=by rw [← Array.getElem?_toList];exact f2
   rw [Nat.zero_add] at f1
   simp [Instr.mapUpdate,run_underlying hu,MapKept.run_getObj_map hk,MapKept.run_checkKey hd hkk,MapKept.run_findKey hd f1,MapKept.run_setObj_map _ hk,Result.andThen,qG,hj,f3,Instr.keyThatStays,Instr.sameBits]
 obtain ⟨es',c',r1,r2⟩:=run
 obtain ⟨H1,X1⟩:=putM_HR (c:=c') H hbs r2 hlen
 rw [← wP] at H1 X1
 refine ⟨undef,_,.top,_,.inr ⟨?_,rfl⟩,X1,H1,.top _,hm⟩
 obtain ⟨dst,op,ty,pos,after,guard⟩:=o
 subst q1
 show (do Instr.mapUpdate y (a.eval mo) (a.eval ko) (a.eval vo);pure .skip:Sem Next).run P E.w=_
 rw [rm,rk,rv,Sem.run_bind,r1];rfl
theorem deleteO {ops:Array Oper} {rest:List Oper} {K:Kt} {t:List AV} {o:Oper} {y kt et:TypeId} {ts:Array TypeId} {mo ko:Operand} {b k:Nat} {m:List (Int × Int)} {x:Int} (q1:o.op = .call { callee:=.builtin .delete,args:=#[mo,ko],argTypes:=ts }) (q2:o.guard=none) (q3:ts[0]? = some y)
  (hu:P.underlying y=some (.map kt et)) (hd:P.underlying kt=some (.int .i64)) (gm:og t mo) (gk:og t ko) (em:rho t mo = .val (.map (some k))) (ek:rho t ko = .int .i64 x)
  (hb:geth h b = .mapb k m) (hm:uC P ops rest K (wZ t o.dst .top) (seth h b (.mapb k (delM m x)))):uC P ops (o::rest) K t h:=by
 refine stepO q2 fun E a H F=>?_
 have hbs:h[b]? = some (.mapb k m):=by rw [← hb];exact zS (by rw [hb];exact fun e=>by cases e)
 obtain ⟨hσ,es,c,hk,hf,hl⟩:=H.blk b _ hbs
 have rm:=map_of (zT F gm) em
 have rk:=int_of (zT F gk) ek
 have hkk:MapKept.IsKey (.int .i64) (.int .i64 x):=rfl
 have hlen:(delM m x).length < 1000000000:=Nat.lt_of_le_of_lt (List.length_filter_le _ _) hl
 have run:∃ es',(Builtin.delete_ ts o.type #[.map (some k),.int .i64 x]).run P E.w = .ok (.tuple #[]) (qG E.w k es' c)/\Mfit es' (delM m x):=by
  rcases MapKept.findNow_spec hkk es.toList 0 (Mfit_key hf) with ⟨f1,f2⟩|⟨j,e,f1,f2,f3⟩
  ·refine ⟨es,?_,?_⟩
   ·simp [Builtin.delete_,q3,run_underlying hu,MapKept.run_getObj_map hk,MapKept.run_checkKey hd hkk,MapKept.run_findKey hd f1,MapKept.run_setObj_map _ hk,Result.andThen,qG]
   ·have:delM m x=m:=List.filter_eq_self.2 fun q hq=>by
     simp only [bne_iff_ne]
     exact fun e=>Mfit_none hf f2 (by rw [← e];exact List.mem_map_of_mem hq)
    rw [this];exact hf
  ·refine ⟨es.eraseIdxIfInBounds j,?_,fit_del hf f2 f3⟩
   rw [Nat.zero_add] at f1
   simp [Builtin.delete_,q3,run_underlying hu,MapKept.run_getObj_map hk,MapKept.run_checkKey hd hkk,MapKept.run_findKey hd f1,MapKept.run_setObj_map _ hk,Result.andThen,qG]
 obtain ⟨es',r1,r2⟩:=run
 obtain ⟨H1,X1⟩:=putM_HR (c:=c) H hbs r2 hlen
 rw [← wP] at H1 X1
 refine ⟨.tuple #[],_,.top,_,.inl ?_,X1,H1,.top _,hm⟩
 obtain ⟨dst,op,ty,pos,after,guard⟩:=o
 subst q1
 show (do let d ← resolve a.eval ⟨.builtin .delete,#[mo,ko],ts⟩ ty;invoke d.target d.args:Sem Next).run P E.w=_
 simp only [resolve,Sem.run_bind,Sem.run_pure,Result.andThen_ok,invoke]
 show (do pure (.value (← Builtin.delete_ ts ty (Array.map a.eval #[mo,ko]))):Sem Next).run P E.w=_
 rw [show Array.map a.eval #[mo,ko] = #[a.eval mo,a.eval ko] from by simp,rm,rk,Sem.run_bind,r1];rfl
theorem inlG {k:FuncId} {fn:Func} {code:Code} {rs:List ResultVar} {n:Nat} (hf:P.funcs[k]? = some fn) (hn:(fn.name == "runtime.NumGoroutine")=false) (hb:fn.body=some code) (hrs:fn.results.toList=rs) (hnt:fn.ntmps=n)
  {dst:Option Nat} {ty:TypeId} {pos:String} {after:Array Edge} {f:Operand} {args:Array Operand} {argTypes:Array TypeId} {gd:Option (Nat × Bool)} {ops:Array Oper} {l:List Oper} {K:Kt} {t:List AV} {caps tc:List AV}
  (hgd:gok t ops.toList gd=true) (hfn:rho t f = .fn k caps) (hog:og t f/\ogL t args.toList) (htc:kW t args.toList ++ caps=tc)
  (hm:Mean P code (kRet P rs fun v h'=>uC P ops l K (wZ t dst v) h') (tc ++ List.replicate (n - tc.length) .top) h):uC P ops (⟨dst,.call ⟨.value f,args,argTypes⟩,ty,pos,after,gd⟩::l) K t h:=by
 subst hrs hnt htc
 intro E a Q H F hd hQ
 have hargs:=jP F (xs:=args) hog.2
 have hf':=zT F hog.1
 rw [hfn] at hf'
 generalize ha:a.eval f=u at hf'
 cases hf' with
 | fn _ _ vs hl hh =>
 have F1:FR E (kW t args.toList ++ caps) (args.map a.eval ++ vs):=wF hargs ⟨hl,hh⟩
 have F2:FR E ((kW t args.toList ++ caps) ++ List.replicate (fn.ntmps - (kW t args.toList ++ caps).length) .top) ((args.map a.eval ++ vs) ++ Array.replicate (fn.ntmps - (args.map a.eval ++ vs).size) undef):=by
  refine wF F1 ⟨by simp only [List.length_replicate,Array.size_replicate,F1.1],fun i a v ha hv=>?_⟩
  rw [List.getElem?_replicate] at ha
  split at ha
  ·injection ha with ha;subst ha;exact .top _
  ·cases ha
 have put_defers:∀ d v,(a.put d v).defers=[]:=by
  intro d v
  cases d with
  | none=>exact hd
  | some d=>exact hd
 unfold wpList
 rw [if_pos (gok_wanted F (o:=⟨dst,.call ⟨.value f,args,argTypes⟩,ty,pos,after,gd⟩) hgd)]
 refine .inl ?_
 unfold Oper.wp
 have hrun:(execOp a.eval ⟨dst,.call ⟨.value f,args,argTypes⟩,ty,pos,after,gd⟩).run P E.w = .ok (.enter k (args.map a.eval ++ vs)) E.w:=by
  show (do let d ← resolve a.eval ⟨.value f,args,argTypes⟩ ty;invoke d.target d.args:Sem Next).run P E.w=_
  simp only [resolve,Sem.run_bind,Deferred.ofValue,ha,Sem.run_pure,Result.andThen_ok,invoke,Array.empty_append]
  exact tQ ⟨fn,hf,hn,by rw [hb];rfl⟩ _
 rw [hrun]
 have hcall:Calls P k (args.map a.eval ++ vs) E.w fun e w'=>∃ u v E' h',e = .returned u/\E'.w=w'/\Ext E h E' h'/\HR E' h'/\VR E' v u/\uC P ops l K (wZ t dst v) h':=by
  refine calls_of_wp hf hb ?_
  refine hm E _ _ H F2 rfl fun e E1 a' t' h1 hk X1 H1 F' hd'=>?_
  have done:retK P fn.results.toList (fun v h'=>uC P ops l K (wZ t dst v) h') t' h1->a'.defers=[]/\∃ u,(results fn a'.tmps).run P E1.w = .ok u E1.w/\∃ u' v E' h',Ending.returned u = .returned u'/\E'.w=E1.w/\Ext E h E' h'/\HR E' h'/\VR E' v u'/\uC P ops l K (wZ t dst v) h':=by
   intro hk
   obtain ⟨u,v,q1,q2,q3⟩:=kZ (P:=P) H1 F' hk
   exact ⟨hd',u,q1,u,v,E1,h1,rfl,rfl,X1,H1,q3,q2⟩
  cases e with
  | normal=>exact done hk
  | ret=>exact done hk
  | exit id=>exact hk.elim
  | goto l=>exact hk.elim
 refine Calls.mono hcall ?_
 rintro e w' ⟨u,v,E',h',rfl,rfl,X,H',V,hM⟩
 exact hM E' (a.put dst u) Q H' (qQ (uZ (X.keep H) F) V dst) (put_defers _ _) fun e E2 a' t' h2 hk X2 H2 F2 hd2=>hQ e E2 a' t' h2 hk (X.trans X2) H2 F2 hd2

theorem appIslO {ops:Array Oper} {rest:List Oper} {K:Kt} {t:List AV} {o:Oper} {st xt e z zn by_:TypeId} {mo yo:Operand} {ts:Array TypeId} {b es i j z0 n:Nat} {c:Nat->Nat->AV} (q1:o.op = .call { callee:=.builtin .append,args:=#[mo,yo],argTypes:=ts }) (q2:o.guard=none) (q3:ts = #[st,xt])
  (hst:tslice P st=some e) (hxt:tnoint P xt=true) (hz:tsz P e=some z) (hby:tby P e=some by_) (hzn:tzn P e=some zn) (gm:og t mo) (gy:og t yo) (em:rho t mo = .isl b es i j z0 n) (ey:rho t yo = .ro 0 0 true c)
  (hm:uC P ops rest K (wZ t o.dst (.isl b es i j z0 n)) h):uC P ops (o::rest) K t h:=by
 refine stepO q2 fun E a H F=>?_
 have rm:=zT F gm
 have ry:=zT F gy
 rw [em] at rm
 rw [ey] at ry
 have ht:=yZ hst
 obtain ⟨ti,zv,hi,hiz,hib,hzv,hzs⟩:=info3 hz hby hzn
 generalize ha:a.eval mo=u at rm
 generalize hy:a.eval yo=v at ry
 cases rm with
 | isl _ _ _ _ _ _ cap k o' hn hcm hσ =>
  cases ry with
  | ro _ _ _ _ ad cap2 hn2 hcm2 hnl hz' us ha2 h1' hc hrf =>
   have had:=hnl rfl
   subst had
   obtain rfl:=hz'.1 rfl
   have hrun:=hU (P:=P) (xt:=xt) (ty:=o.type) (a:=some ⟨k,o'+i * es+j,none⟩) (w:=E.w) ht hxt hi hiz (src_nil (P:=P) none 0) hn
   refine ⟨_,E,_,h,.inl ?_,Ext.refl _ _,H,.isl b es i j z0 n cap k o' hn hcm hσ,hm⟩
   obtain ⟨dst,op,ty,pos,after,guard⟩:=o
   subst q1 q3
   show (do let d ← resolve a.eval ⟨.builtin .append,#[mo,yo],#[st,xt]⟩ ty;invoke d.target d.args:Sem Next).run P E.w=_
   simp only [resolve,Sem.run_bind,Sem.run_pure,Result.andThen_ok,invoke]
   show (do pure (.value (← Builtin.append_ #[st,xt] ty (Array.map a.eval #[mo,yo]))):Sem Next).run P E.w=_
   rw [show Array.map a.eval #[mo,yo] = #[a.eval mo,a.eval yo] from by simp,ha,hy,Sem.run_bind,hrun];rfl
section
variable {α:Type} [Inhabited α] {f:α->List AV} {μ:Mu} {e es es2 b b' m i j n n' N:Nat} {L:List α}
end
mutual
theorem rnm_nref {bs:List Nat} {s:Nat}:∀ a:AV,nref a->rnm bs s a=a
 | .ptr _ _ _ _,h=>by simp only [nref] at h
 | .sl _ _ _ _ _,h=>by simp only [nref] at h
 | .isl _ _ _ _ _ _,h=>by simp only [nref] at h
 | .csl _ _ _ _ _,h=>by simp only [nref] at h
 | .agg l,h=>by simp only [nref] at h;simp only [rnm,dI l h]
 | .tup l,h=>by simp only [nref] at h;simp only [rnm,dI l h]
 | .fn _ l,h=>by simp only [nref] at h;simp only [rnm,dI l h]
 | .mfn _ l,h=>by simp only [nref] at h;simp only [rnm,dI l h]
 | .opt _ v,h=>by simp only [nref] at h;simp only [rnm,rnm_nref v h]
 | .rptr _ _ _ _ _,_=>rfl
 | .ro _ _ _ _,_=>rfl
 | .top,_=>rfl
 | .bool _,_=>rfl
 | .int _ _,_=>rfl
 | .str _,_=>rfl
 | .nilp,_=>rfl
 | .emp,_=>rfl
 | .nilf,_=>rfl
 | .ub,_=>rfl
 | .val _,_=>rfl
 | .mp _,_=>rfl
theorem dI {bs:List Nat} {s:Nat}:∀ l:List AV,nrefL l->dH bs s l=l
 | [],_=>rfl
 | a::l,h=>by simp only [nrefL] at h;simp only [dH,rnm_nref a h.1,dI l h.2]
end
theorem rnmC_en {α:Type} [Inhabited α] {f:α->List AV} [i:NRf f] {bs:List Nat} {s:Nat} {L:List α}:rnmC bs s (enR f L)=enR f L:=by
 funext x y
 exact rnm_nref _ (nfR_enI (f:=f))
/-! ### What is behind a call that is walked in place is told once -/
def kJR (n:Nat) {α:Type} (T:α->List AV) (Hp:α->List ABlk) (J:α->Prop):Kt
 | .normal,t,h=>∃ x,J x/\SubF n t h (T x) (Hp x)
 | .exit _,_,_=>False
 | .ret,t,h=>∃ x,J x/\SubF n t h (T x) (Hp x)
 | .goto _,_,_=>False
theorem kJR_ret {n:Nat} {α:Type} {T:α->List AV} {Hp:α->List ABlk} {J:α->Prop} {t:List AV}:kJR n T Hp J .ret t h = ∃ x,J x/\SubF n t h (T x) (Hp x):=rfl
theorem joinR_den {A R X:Type} {a:Code} {rs:List ResultVar} {Rv:AV->List ABlk->Prop} {t:List AV} (TB:A->List AV) (HB:A->List ABlk) {step:Unit->Option (Lp Unit (A ⊕ R))} {k:A->Option X} {j:R->Option X} {x:X}
  (hd:lp (yF step ()) k j=some x)
  (round:∀ o,step ()=some o->(∀ e,o = .done (.inl e)->k e=some x)->(∀ r,o = .done (.inr r)->j r=some x)->Mean P a (kJR h.length TB HB (fun e=>o = .done (.inl e))) t h)
  (hrest:∀ e,k e=some x->kRet P rs Rv .normal (TB e) (HB e)):Mean P a (kRet P rs Rv) t h:=by
 have ⟨b0,hb0,hk,hj⟩:∃ b0,yF step ()=some b0/\(∀ e,b0 = .inl e->k e=some x)/\(∀ r,b0 = .inr r->j r=some x):=by
  cases hl:yF step () with
  | none=>rw [hl] at hd;cases hd
  | some b =>
   rw [hl] at hd
   refine ⟨b,rfl,?_,?_⟩
   ·rintro e rfl;exact hd
   ·rintro r rfl;exact hd
 obtain ⟨n0,hn0⟩:=gE.1 hb0
 cases n0 with
 | zero=>cases hn0
 | succ n =>
 cases ho:step () with
 | none=>simp only [tV,ho] at hn0;cases hn0
 | some o =>
  have h1:∀ b,o = .done b->b0=b:=by
   rintro b rfl
   simp only [tV,ho] at hn0
   exact (Option.some.inj hn0).symm
  have hm:=round o ho (fun e he=>hk e (h1 _ he)) (fun r hr=>hj r (h1 _ hr))
  intro E ac Q H F hd hQ
  refine hm E ac _ H F hd fun e E' a' t' h' hk2 X H' F' hd'=>?_
  cases e with
  | normal =>
   obtain ⟨x,hJ,hs⟩:=hk2
   obtain ⟨E2,e1,e2,e3,e4⟩:=eV (c:=a) (K:=kRet P rs Rv) rfl H hs H' F' X
   rw [← e1]
   exact hQ .normal E2 a' _ _ (hrest x (hk x (h1 _ hJ))) e4 e2 e3 hd'
  | exit id=>exact hk2.elim
  | ret =>
   obtain ⟨x,hJ,hs⟩:=hk2
   obtain ⟨E2,e1,e2,e3,e4⟩:=eV (c:=a) (K:=kRet P rs Rv) rfl H hs H' F' X
   rw [← e1]
   exact hQ .ret E2 a' _ _ (hrest x (hk x (h1 _ hJ))) e4 e2 e3 hd'
  | goto l=>exact hk2.elim
end Go.Am

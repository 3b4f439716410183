/-
  The abstract machine, text 10: contracts of functions that change memory that they are given: the named blocks are theirs, all else they see by what may be read. contracts that change memory, over typed values; two ways told apart. lists of bytes. a region in pieces; between two pieces blocks may be given up to be read only. the bytes of a constant string (a row, and its conversion to its own type): memory that is only read. what a law is given, where a struct holds slices of itself. values and contents without own memory, found by their form. contracts of functions that change memory given or return memory of their own; all other memory of the caller they may read. the rest of an own row, as a row of its own. functions that make a map of constants. an element of a row written out, its place not known. a call walked in the caller's own heap; rows of which one element names own blocks. a row of which every element names a row of its own: these lie apart ('parked'), one of them at a time is taken up. arrays at a variable index: a variable that is an array, told as a row of its elements. maps from int to int that a function makes and changes.
-/
import Derived.Test.YtefiemaoacmdkaaPm9
import Derived.Lib.SlBytesConst
import Derived.MapKept
import Derived.StillTail
namespace Go.Am
set_option linter.unusedVariables false
variable {P:Program} {E:Env} {h:List ABlk}

/-! ### Numbers anew -/
def bO:List Nat->Nat->Nat->Nat
 | [],s,i=>s+i
 | b::_,_,0=>b
 | _::l,s,i+1=>bO l s i
mutual
def rnm (bs:List Nat) (s:Nat):AV->AV
 | .ptr b es i j=>.ptr (bO bs s b) es i j
 | .sl b es i n nl=>.sl (bO bs s b) es i n nl
 | .isl b es i j z n=>.isl (bO bs s b) es i j z n
 | .csl b es i n c=>.csl (bO bs s b) es i n c
 | .agg l=>.agg (rnmL bs s l)
 | .tup l=>.tup (rnmL bs s l)
 | .fn f l=>.fn f (rnmL bs s l)
 | .mfn f l=>.mfn f (rnmL bs s l)
 | .opt g v=>.opt g (rnm bs s v)
 | .rptr es n i j c=>.rptr es n i j c
 | .ro es n nl c=>.ro es n nl c
 | .top=>.top
 | .bool b=>.bool b
 | .int k n=>.int k n
 | .str s=>.str s
 | .nilp=>.nilp
 | .emp=>.emp
 | .nilf=>.nilf
 | .ub=>.ub
 | .val v=>.val v
 | .mp m=>.mp m
def rnmL (bs:List Nat) (s:Nat):List AV->List AV
 | []=>[]
 | a::l=>rnm bs s a::rnmL bs s l
end
theorem rnmL_get (bs:List Nat) (s:Nat) (l:List AV) (i:Nat):(rnmL bs s l)[i]? = (l[i]?).map (rnm bs s):=by
 induction l generalizing i with
 | nil=>simp [rnmL]
 | cons a l ih=>cases i<;>simp [rnmL,ih]
theorem rnmL_length (bs:List Nat) (s:Nat) (l:List AV):(rnmL bs s l).length=l.length:=by
 induction l with
 | nil=>rfl
 | cons a l ih=>simp [rnmL,ih]
theorem VR.rnm {E':Env} {bs:List Nat} {s:Nat} (hw:E'.w=E.w) (hp:E'.prot=E.prot) (hσ:∀ b x,E.σ b=some x->E'.σ (bO bs s b)=some x) {a:AV} {v:Value} (h:VR E a v) (hlo:∀ k,E'.lo k->E.lo k:=by first|exact fun _ h=>h|assumption):VR E' (rnm bs s a) v:=by
 have vw:∀ {a v},VR E a v->nref a->VR E' a v:=fun h hn=>VR.view (E:=E) (E':=E') (fun k hk=>⟨by rw [hp];exact hk,by rw [hw]⟩) h hn
 have lst:∀ (l:List AV) (vs:Array Value),l.length=vs.size->(∀ (i:Nat) (a:AV) (v:Value),l[i]? = some a->vs[i]? = some v->VR E' (Am.rnm bs s a) v) ->
   (rnmL bs s l).length=vs.size/\∀ (i:Nat) (a:AV) (v:Value),(rnmL bs s l)[i]? = some a->vs[i]? = some v->VR E' a v:=by
  intro l vs hl ih
  refine ⟨by rw [rnmL_length,hl],fun i a v ha hv=>?_⟩
  rw [rnmL_get] at ha
  cases hi:l[i]? with
  | none=>rw [hi] at ha;cases ha
  | some a0 =>
   rw [hi] at ha
   simp only [Option.map_some,Option.some.injEq] at ha
   subst ha
   exact ih i a0 v hi hv
 induction h with
 | top v=>simp only [Am.rnm];exact .top v
 | bool b=>simp only [Am.rnm];exact .bool b
 | int k n=>simp only [Am.rnm];exact .int k n
 | str s=>simp only [Am.rnm];exact .str s
 | nilp=>simp only [Am.rnm];exact .nilp
 | ptr b es i j k o h=>simp only [Am.rnm];exact .ptr _ es i j k o (hσ _ _ h)
 | rptr es m i j k o c u hp' hu h1 hc hrf ih=>simp only [Am.rnm];exact vw (.rptr es m i j k o c u hp' hu h1 hc hrf) (by simp only [nref])
 | sl b es i m nl a cap hm hcm hnl hz hc =>
  simp only [Am.rnm]
  refine .sl _ es i m nl a cap hm hcm hnl hz fun hp'=>?_
  obtain ⟨k,o,cs,e,g1,g2,g3,g4⟩:=hc hp'
  exact ⟨k,o,cs,e,hσ _ _ g1,g2,by rw [hw];exact g3,g4⟩
 | isl b es i j z m cap k o hm hcm h=>simp only [Am.rnm];exact .isl _ es i j z m cap k o hm hcm (hσ _ _ h)
 | csl b es i m c a hm hcm hc=>simp only [Am.rnm];exact .csl _ es i m c a hm hcm fun hp=>by obtain ⟨k,o,cs,e,h1,h2,h3,h4⟩:=hc hp;exact ⟨k,o,cs,e,hσ _ _ h1,h2,by rw [hw];exact h3,h4⟩
 | ro es m nl c a cap hm hcm hnl hz u ha h1 hc hrf ih=>simp only [Am.rnm];exact vw (.ro es m nl c a cap hm hcm hnl hz u ha h1 hc hrf) (by simp only [nref])
 | emp a=>simp only [Am.rnm];exact .emp a
 | agg l vs hl h1 h ih=>simp only [Am.rnm];obtain ⟨q1,q2⟩:=lst l vs hl ih;exact .agg _ vs q1 h1 q2
 | tup l vs hl h ih=>simp only [Am.rnm];obtain ⟨q1,q2⟩:=lst l vs hl ih;exact .tup _ vs q1 q2
 | fn f l vs hl h ih=>simp only [Am.rnm];obtain ⟨q1,q2⟩:=lst l vs hl ih;exact .fn f _ vs q1 q2
 | mfn f l vs hl h ih=>simp only [Am.rnm];obtain ⟨q1,q2⟩:=lst l vs hl ih;exact .mfn f _ vs q1 q2
 | nilf=>simp only [Am.rnm];exact .nilf
 | ub b=>simp only [Am.rnm];exact .ub b
 | val v h1=>simp only [Am.rnm];exact .val v h1
 | mp m r clock es hp hb he=>simp only [Am.rnm];exact vw (.mp m r clock es hp hb he) (by simp only [nref])
 | opt_t a v h ih=>simp only [Am.rnm];exact .opt_t _ v ih
 | opt_f a=>simp only [Am.rnm];exact .opt_f _
def rnmC (bs:List Nat) (s:Nat) (c:Nat->Nat->AV):Nat->Nat->AV:=fun x y=>rnm bs s (c x y)
def rnmB (bs:List Nat) (s:Nat):ABlk->ABlk
 | .mapb k m=>.mapb k m
 | .dead=>.dead
 | .lit e l=>.lit e (rnmL bs s l)
 | .row e es n c=>.row e es n (rnmC bs s c)
def rnmH (bs:List Nat) (s:Nat):List ABlk->List ABlk
 | []=>[]
 | x::l=>rnmB bs s x::rnmH bs s l
theorem rnmH_get (bs:List Nat) (s:Nat) (l:List ABlk) (i:Nat):(rnmH bs s l)[i]? = (l[i]?).map (rnmB bs s):=by
 induction l generalizing i with
 | nil=>simp [rnmH]
 | cons a l ih=>cases i<;>simp [rnmH,ih]
theorem rnmH_length (bs:List Nat) (s:Nat) (l:List ABlk):(rnmH bs s l).length=l.length:=by
 induction l with
 | nil=>rfl
 | cons a l ih=>simp [rnmH,ih]
theorem uB {bs:List Nat} {s:Nat} {x:ABlk} (hx:rnmB bs s x ≠ .dead):x ≠ .dead:=by
 rintro rfl;exact hx rfl
def nfB (_:ABlk):Prop:=True
def nfBs:List ABlk->Prop
 | []=>True
 | x::l=>nfB x/\nfBs l
theorem nfBs_get {l:List ABlk} (hn:nfBs l) {i:Nat} {x:ABlk} (hi:l[i]? = some x):nfB x:=by
 induction l generalizing i with
 | nil=>simp at hi
 | cons b l ih =>
  simp only [nfBs] at hn
  cases i with
  | zero=>simp at hi;subst hi;exact hn.1
  | succ i=>exact ih hn.2 (by simpa using hi)
def putH (h:List ABlk):List Nat->List ABlk->List ABlk
 | b::bs,x::g=>putH (seth h b x) bs g
 | _,_=>h
def gS:List Nat->List ABlk->List ABlk
 | _::bs,_::g=>gS bs g
 | [],g=>g
 | _::_,[]=>[]
def fG:List Nat->Bool
 | []=>true
 | b::l=>!inL b l && fG l
theorem nodupB_iff {l:List Nat} (hn:fG l=true):∀ (i j b:Nat),l[i]? = some b->l[j]? = some b->i=j:=by
 induction l with
 | nil=>intro i j b hi;simp at hi
 | cons a l ih =>
  simp only [fG,Bool.and_eq_true,Bool.not_eq_true'] at hn
  have ha:a ∉ l:=fun hm=>by have:=inL_mem.2 hm;rw [hn.1] at this;cases this
  intro i j b hi hj
  cases i with
  | zero =>
   simp at hi;subst hi
   cases j with
   | zero=>rfl
   | succ j=>exact absurd (List.mem_of_getElem? (by simpa using hj)) ha
  | succ i =>
   cases j with
   | zero=>simp at hj;subst hj;exact absurd (List.mem_of_getElem? (by simpa using hi)) ha
   | succ j=>rw [ih hn.2 i j b (by simpa using hi) (by simpa using hj)]
theorem tE:∀ (bs:List Nat) (g h:List ABlk),(putH h bs g).length=h.length
 | [],_,_=>by simp [putH]
 | _::_,[],_=>by simp [putH]
 | b::bs,x::g,h=>by simp only [putH];rw [tE,wF]
theorem putH_out:∀ (bs:List Nat) (g h:List ABlk) (b:Nat),b ∉ bs->(putH h bs g)[b]? = h[b]?
 | [],_,_,_,_=>by simp [putH]
 | _::_,[],_,_,_=>by simp [putH]
 | a::bs,x::g,h,b,hb=>by
  simp only [putH]
  rw [putH_out bs g _ b (fun hm=>hb (List.mem_cons_of_mem _ hm)),wK,List.getElem?_set_ne (fun e=>hb (by rw [e];exact List.mem_cons_self ..))]
theorem putH_in:∀ (bs:List Nat) (g h:List ABlk) (i b:Nat) (x:ABlk),fG bs=true->b < h.length->bs[i]? = some b->g[i]? = some x->(putH h bs g)[b]? = some x
 | [],_,_,i,b,x,_,_,hi,_=>by simp at hi
 | _::_,[],_,i,b,x,_,_,_,hg=>by simp at hg
 | a::bs,y::g,h,i,b,x,hn,hb,hi,hg=>by
  have hn':=hn
  simp only [fG,Bool.and_eq_true,Bool.not_eq_true'] at hn
  simp only [putH]
  cases i with
  | zero =>
   simp at hi hg;subst hi hg
   rw [putH_out bs g _ a (fun hm=>by have:=inL_mem.2 hm;rw [hn.1] at this;cases this),wK,List.getElem?_set_self hb]
  | succ i=>exact putH_in bs g _ i b x hn.2 (by rw [wF];exact hb) (by simpa using hi) (by simpa using hg)
theorem dropH_get:∀ (bs:List Nat) (g:List ABlk) (i:Nat),(gS bs g)[i]? = g[bs.length+i]?
 | [],g,i=>by simp [gS]
 | b::bs,[],i=>by simp [gS]
 | b::bs,x::g,i=>by
  simp only [gS]
  rw [dropH_get,List.length_cons,show bs.length+1+i=(bs.length+i)+1 from by omega,List.getElem?_cons_succ]
theorem dropH_len:∀ (bs:List Nat) (g:List ABlk),(gS bs g).length=g.length - bs.length
 | [],g=>by simp [gS]
 | b::bs,[]=>by simp [gS]
 | b::bs,x::g=>by simp only [gS];rw [dropH_len];simp
theorem rhoN_in:∀ {bs:List Nat} {s i b:Nat},bs[i]? = some b->bO bs s i=b
 | [],_,i,b,h=>by simp at h
 | a::bs,s,0,b,h=>by simp at h;simp [bO,h]
 | a::bs,s,i+1,b,h=>by simp only [bO];exact rhoN_in (by simpa using h)
theorem rhoN_out:∀ {bs:List Nat} {s i:Nat},bs.length <= i->bO bs s i=s+(i - bs.length)
 | [],s,i,_=>by simp [bO]
 | a::bs,s,0,h=>by simp at h
 | a::bs,s,i+1,h=>by
  simp only [bO]
  rw [rhoN_out (by simpa using h)]
  simp

/-! ### Inside -/
def cX (bs:List Nat):Mu:=bs.map some
theorem toMu_get (bs:List Nat) (i:Nat):zQ (cX bs) i=bs[i]?:=by
 induction bs generalizing i with
 | nil=>rfl
 | cons b bs ih=>cases i with
  | zero=>rfl
  | succ i=>simpa [cX,zQ] using ih i
theorem in_σ (E:Env) (bs:List Nat) (i:Nat):(E.via (cX bs)).σ i=(bs[i]?).bind E.σ:=by
 show (zQ (cX bs) i).bind E.σ=_
 rw [toMu_get]
theorem in_HR (H:HR E h) {bs:List Nat} {h0:List ABlk} (hn:fG bs=true) (hl:h0.length=bs.length) (hd:∀ (i b:Nat),bs[i]? = some b->geth h b ≠ .dead)
  (hb:∀ (i:Nat) (x0:ABlk),h0[i]? = some x0->BR (E.via (cX bs)) i x0):HR (E.via (cX bs)) h0:=by
 have own:∀ k,Own (E.via (cX bs)) h0 k->Own E h k:=by
  rintro k ⟨i,x,o,q1,q2,q3⟩
  rw [in_σ] at q3
  cases hi:bs[i]? with
  | none=>rw [hi] at q3;cases q3
  | some b=>rw [hi] at q3;exact ⟨b,_,o,zP (hd i b hi),hd i b hi,q3⟩
 refine ⟨hb,fun i j x y k o o' h1 h2 h3 h4 h5 h6=>?_,fun k hk=>⟨(H.prot k hk).1,fun ho=>(H.prot k hk).2 (own k ho)⟩,fun i hi=>?_,H.lo⟩
 ·rw [in_σ] at h5 h6
  cases hi:bs[i]? with
  | none=>rw [hi] at h5;cases h5
  | some b =>
   cases hj:bs[j]? with
   | none=>rw [hj] at h6;cases h6
   | some b' =>
    rw [hi] at h5;rw [hj] at h6
    have:=H.inj b b' _ _ k o o' (zP (hd i b hi)) (hd i b hi) (zP (hd j b' hj)) (hd j b' hj) h5 h6
    subst this
    exact nodupB_iff hn i j b hi hj
 ·rw [in_σ,List.getElem?_eq_none (by omega)];rfl

def RetE (n:Nat) (v0:AV) (g0:List ABlk) (v':AV) (hf:List ABlk):Prop :=
 ∃ fz,yL hf fz v'/\uT hf fz hf/\∃ ν:Mu,Cv ν v0 (fzV hf fz v')/\CvH ν (fzH hf fz) g0 ν/\injM (kK ν g0)=true/\idM 0 n ν=true
theorem out_BR {E3 E2:Env} {bs:List Nat} {s i j:Nat} {x:ABlk} (hw:E2.w=E3.w) (hp:E2.prot=E3.prot) (hσ:∀ b x,E3.σ b=some x->E2.σ (bO bs s b)=some x) (he:E2.σ j=E3.σ i) (hn:nfB x) (hB:BR E3 i x) (hlo:∀ k,E2.lo k->E3.lo k:=by first|exact fun _ h=>h|assumption):BR E2 j (rnmB bs s x):=by
 have V:∀ {a:AV} {v:Value},VR E3 a v->VR E2 (rnm bs s a) v:=fun hv=>VR.rnm (E:=E3) (E':=E2) hw hp hσ hv
 cases x with
 | dead=>trivial
 | mapb k0 m0 =>
  obtain ⟨r1,r2⟩:=hB
  exact ⟨he.trans r1,by rw [hw];exact r2⟩
 | lit e l =>
  obtain ⟨k,o,cs,r1,r2,r3,r4⟩:=hB
  refine ⟨k,o,cs,he.trans r1,by rw [hw];exact r2,by rw [rnmL_length];exact r3,fun j a hj=>?_⟩
  rw [rnmL_get] at hj
  cases hl:l[j]? with
  | none=>rw [hl] at hj;cases hj
  | some a0 =>
   rw [hl] at hj
   simp only [Option.map_some,Option.some.injEq] at hj
   subst hj
   obtain ⟨v,y1,y2,y3⟩:=r4 j a0 hl
   exact ⟨v,y1,y2,V y3⟩
 | row e es n c =>
  simp only [rnmB]
  unfold BR at hB ⊢
  rw [he]
  cases hs:E3.σ i with
  | none=>rw [hs] at hB;exact hB
  | some p =>
   rw [hs] at hB
   obtain ⟨cs,r1,r2,r3⟩:=hB
   exact ⟨cs,by rw [hw];exact r1,r2,fun x y hx hy=>by
    obtain ⟨v,y1,y2,y3⟩:=r3 x y hx hy
    exact ⟨v,y1,y2,V y3⟩⟩

theorem edit_gen {f:FuncId} {fn:Func} {code:Code} (c:List AV->List ABlk->AR) {rs:List ResultVar}
  (hf:P.funcs[f]? = some fn) (hn:(fn.name == "runtime.NumGoroutine")=false) (hb:fn.body=some code) (hrs:fn.results.toList=rs) (hnp:∀ l h ob v,c l h ≠ .pure ob v)
  (hw:∀ (l:List AV) (h:List ABlk) (ob:Prop) (v:AV) (h':List ABlk),c l h = .heap ob v h'->ob->∃ (bs:List Nat) (l':List AV) (h0:List ABlk) (v0:AV) (g0:List ABlk),
   fG bs=true/\h0.length=bs.length/\(∀ (i b:Nat),bs[i]? = some b->geth h b ≠ .dead) /\
   (∀ E,HR E h->∀ (i:Nat) (x0:ABlk),h0[i]? = some x0->BR (E.via (cX bs)) i x0)/\(∀ E vs,HR E h->FR E l vs->FR (E.via (cX bs)) l' vs) /\
   v=rnm bs h.length v0/\h'=putH h bs (rnmH bs h.length g0) ++ rnmH bs h.length (gS bs g0)/\nfBs g0 /\
   Mean P code (kY P rs (RetE bs.length v0 g0)) (l' ++ List.replicate (fn.ntmps - l'.length) .top) h0):yU P f c:=by
 subst hrs
 have tops:∀ {E:Env} {l':List AV} {vs:Array Value},FR E l' vs->FR E (l' ++ List.replicate (fn.ntmps - l'.length) .top) (vs ++ Array.replicate (fn.ntmps - vs.size) undef):=by
  intro E l' vs F1
  refine xM F1 ⟨by simp [F1.1],fun i a v ha hv=>?_⟩
  rw [List.getElem?_replicate] at ha
  split at ha
  ·injection ha with ha;subst ha;exact .top _
  ·cases ha
 refine ⟨⟨fn,hf,hn,by rw [hb];rfl⟩,fun E h l vs ob v h' H F hr hob=>?_,fun E h l vs ob v H F hr hob=>absurd hr (hnp _ _ _ _)⟩
 cases hc:c l h with
 | fail=>rw [hc] at hr;cases hr
 | pure a b=>exact absurd hc (hnp _ _ _ _)
 | heap ob2 v2 h2 =>
  rw [hc] at hr
  simp only [AR.out,Option.some.injEq,Prod.mk.injEq] at hr
  obtain ⟨rfl,rfl,rfl⟩:=hr
  obtain ⟨bs,l',h0,v0,g0,e1,e2,e3,e4,e5,e6,e7,e8,g4⟩:=hw l h _ _ _ hc hob
  have H0:=in_HR H e1 e2 e3 (e4 E H)
  have F0:=tops (e5 E vs H F)
  have blt:∀ {i b:Nat},bs[i]? = some b->b < h.length:=fun hi=>gA (e3 _ _ hi)
  have own0:∀ k,Own (E.via (cX bs)) h0 k->∃ (i b o:Nat),bs[i]? = some b/\E.σ b=some (k,o):=by
   rintro k ⟨i,x,o,q1,q2,q3⟩
   rw [in_σ] at q3
   cases hi:bs[i]? with
   | none=>rw [hi] at q3;cases q3
   | some b=>rw [hi] at q3;exact ⟨i,b,o,hi,q3⟩
  have own1:∀ k,Own (E.via (cX bs)) h0 k->Own E h k:=fun k hk=>by
   obtain ⟨i,b,o,q1,q2⟩:=own0 k hk
   exact ⟨b,_,o,zP (e3 i b q1),e3 i b q1,q2⟩
  refine calls_of_wp hf hb ?_
  refine g4 (E.via (cX bs)) _ _ H0 F0 rfl fun e E1 a' t' h1 hk X1 H1 F' hd=>?_
  have done:cV P fn.results.toList (RetE bs.length v0 g0) t' h1->a'.defers=[]/\∃ u,(results fn a'.tmps).run P E1.w = .ok u E1.w/\Ret E h h2 v2 (.returned u) E1.w:=by
   intro hk
   obtain ⟨u,v',q1,⟨fz,z1,z2,ν,c1,c2,c3,c4⟩,q3⟩:=tP (P:=P) H1 F' hk
   refine ⟨hd,u,q1,?_⟩
   obtain ⟨Hf,Xf⟩:=fz_HR H1 z2
   have hv1:=fz_VR H1 q3 z1
   have H3:=(via_HR Hf c2 c3).1
   have X3:=via_Ext H0 Hf (X1.trans Xf) c2 c3 (by rw [e2];exact c4)
   have V3:VR ((E1.fz h1 fz).via ν) v0 u:=eQ hv1 _ c1
   have hgl:bs.length <= g0.length:=by rw [(CvH_get c2).1];exact idM_len _ _ _ c4
   have hw3:((E1.fz h1 fz).via ν).w=E1.w:=rfl
   generalize (E1.fz h1 fz).via ν=E3 at H3 X3 V3 hw3
   have old3:∀ (i b:Nat),bs[i]? = some b->E3.σ i=E.σ b:=fun i b hi=>by
    rw [X3.old i (by rw [e2];exact (List.getElem?_eq_some_iff.1 hi).1),in_σ,hi];rfl
   let σ2:Nat->Option (Nat × Nat):=fun b=>if b < h.length then E.σ b else E3.σ (bs.length+(b - h.length))
   let E2:Env:=⟨E3.w,σ2,E3.prot,E3.lo⟩
   have s1:∀ b,b < h.length->E2.σ b=E.σ b:=fun b hb=>if_pos hb
   have s2:∀ b,¬ b < h.length->E2.σ b=E3.σ (bs.length+(b - h.length)):=fun b hb=>if_neg hb
   have hlt:∀ b x,E.σ b=some x->b < h.length:=by
    intro b x hb
    rcases Nat.lt_or_ge b h.length with h'|h'
    ·exact h'
    ·rw [H.fresh b h'] at hb;cases hb
   have hρ:∀ i,E2.σ (bO bs h.length i)=E3.σ i:=fun i=>by
    rcases Nat.lt_or_ge i bs.length with hi|hi
    ·have hb:bs[i]? = some bs[i]:=List.getElem?_eq_getElem hi
     rw [rhoN_in hb,s1 _ (blt hb),old3 i _ hb]
    ·rw [rhoN_out hi,s2 _ (by omega)];congr 1;omega
   have same:∀ k,k < E.w.heap.size->(∀ (i b o:Nat),bs[i]? = some b->E.σ b ≠ some (k,o))->E3.w.heap[k]? = E.w.heap[k]?:=fun k hk hno =>
    X3.frame k hk fun ho=>by obtain ⟨i,b,o,q1,q2⟩:=own0 k ho;exact hno i b o q1 q2
   have K2:Keep E E2:=⟨fun b x hb=>by rw [s1 b (hlt b x hb)];exact hb,X3.prot,fun k hk=>X3.frame k (H.prot k hk).1 fun ho=>(H.prot k hk).2 (own1 k ho),X3.kind,X3.lo⟩
   -- where a block of the new heap comes from
   have hget:∀ {b:Nat} {x:ABlk},(putH h bs (rnmH bs h.length g0) ++ rnmH bs h.length (gS bs g0))[b]? = some x ->
     (∃ (i:Nat) (x0:ABlk),b=bO bs h.length i/\g0[i]? = some x0/\x=rnmB bs h.length x0) ∨ (b < h.length/\b ∉ bs/\h[b]? = some x):=by
    intro b x hb
    by_cases hbl:b < h.length
    ·rw [List.getElem?_append_left (by rw [tE];exact hbl)] at hb
     by_cases hm:b ∈ bs
     ·obtain ⟨i,hi⟩:=List.mem_iff_getElem?.1 hm
      have hi':i < g0.length:=Nat.lt_of_lt_of_le (List.getElem?_eq_some_iff.1 hi).1 hgl
      rw [putH_in bs _ h i b (rnmB bs h.length g0[i]) e1 hbl hi (by rw [rnmH_get,List.getElem?_eq_getElem hi'];rfl)] at hb
      injection hb with hb
      exact .inl ⟨i,g0[i],(rhoN_in hi).symm,List.getElem?_eq_getElem hi',hb.symm⟩
     ·rw [putH_out bs _ h b hm] at hb
      exact .inr ⟨hbl,hm,hb⟩
    ·rw [List.getElem?_append_right (by rw [tE];omega),tE,rnmH_get,dropH_get] at hb
     cases hg:g0[bs.length+(b - h.length)]? with
     | none=>rw [hg] at hb;cases hb
     | some x0 =>
      rw [hg] at hb
      simp only [Option.map_some,Option.some.injEq] at hb
      exact .inl ⟨_,x0,by rw [rhoN_out (by omega)];omega,hg,hb.symm⟩
   have hown3:∀ {i:Nat} {x0:ABlk} {k o:Nat},g0[i]? = some x0->x0 ≠ .dead->E3.σ i=some (k,o)->(∃ (j b o:Nat),bs[j]? = some b/\E.σ b=some (k,o)) ∨ E.w.heap.size <= k:=fun h1 h2 h3 =>
    (X3.own _ ⟨_,_,_,h1,h2,h3⟩).imp (own0 _) id
   have apart:∀ {b:Nat} {x:ABlk} {k o:Nat},b ∉ bs->h[b]? = some x->x ≠ .dead->E.σ b=some (k,o)->∀ (i b' o':Nat),bs[i]? = some b'->E.σ b' ≠ some (k,o'):=by
    intro b x k o hm h1 h2 h3 i b' o' h4 h5
    have:=H.inj b b' x _ k o o' h1 h2 (zP (e3 i b' h4)) (e3 i b' h4) h3 h5
    subst this
    exact hm (List.mem_of_getElem? h4)
   have hown:∀ k,Own E2 h2 k->Own E h k ∨ E.w.heap.size <= k:=by
    rintro k ⟨b,x,o,q1,q2,q3⟩
    rw [e7] at q1
    rcases hget q1 with ⟨i,x0,rfl,r1,rfl⟩|⟨r1,r2,r3⟩
    ·rw [hρ] at q3
     rcases hown3 r1 (uB q2) q3 with ⟨j,b,o,a1,a2⟩|h'
     ·exact .inl ⟨b,_,o,zP (e3 j b a1),e3 j b a1,a2⟩
     ·exact .inr h'
    ·rw [s1 b r1] at q3;exact .inl ⟨b,x,o,r3,q2,q3⟩
   have hpro:∀ k,E3.prot k->E.prot k ∨ (∃ (j b o:Nat),bs[j]? = some b/\E.σ b=some (k,o)) ∨ E.w.heap.size <= k:=fun k hk=>by
    rcases X3.pro k hk with h'|h'|h'
    ·exact .inl h'
    ·exact .inr (.inl (own0 k h'))
    ·exact .inr (.inr h')
   refine ⟨u,E2,rfl,hw3,⟨X3.os,X3.tape,X3.output,K2.σ,X3.prot,X3.size,K2.kind,fun k hk hno=>X3.frame k hk fun ho=>hno (own1 k ho),hown,?_,s1,fun k hk=>?_,X3.lo,X3.wr⟩,⟨fun b x hb=>?_,fun b b' x x' k o o' h1 h2 h3 h4 h5 h6=>?_,fun k hk=>?_,fun b hb=>?_,H3.lo⟩,?_⟩
   ·rw [e7,List.length_append,tE];omega
   ·rcases hpro k hk with h'|⟨j,b,o,a1,a2⟩|h'
    ·exact .inl h'
    ·exact .inr (.inl ⟨b,_,o,zP (e3 j b a1),e3 j b a1,a2⟩)
    ·exact .inr (.inr h')
   ·rw [e7] at hb
    rcases hget hb with ⟨i,x0,rfl,r1,rfl⟩|⟨r1,r2,r3⟩
    ·exact out_BR (E3:=E3) (E2:=E2) rfl rfl (fun b x hb=>by rw [hρ];exact hb) (hρ i) (nfBs_get e8 r1) (H3.blk i x0 r1)
    ·by_cases hd:x = .dead
     ·subst hd;trivial
     ·exact (H.blk b x r3).mono K2 (s1 b r1) fun k o hk=>same k ((H.blk b x r3).lt hd hk) (apart r2 r3 hd hk)
   ·rw [e7] at h1 h3
    rcases hget h1 with ⟨i,x0,rfl,r1,rfl⟩|⟨r1,r2,r3⟩<;>rcases hget h3 with ⟨j,y0,rfl,w1,rfl⟩|⟨w1,w2,w3⟩
    ·rw [hρ] at h5 h6
     rw [H3.inj i j x0 y0 k o o' r1 (uB h2) w1 (uB h4) h5 h6]
    ·rw [hρ] at h5;rw [s1 _ w1] at h6
     rcases hown3 r1 (uB h2) h5 with ⟨a,b,o2,a1,a2⟩|hq
     ·exact absurd a2 (apart w2 w3 h4 h6 a b o2 a1)
     ·have:=(H.blk _ _ w3).lt h4 h6;omega
    ·rw [s1 _ r1] at h5;rw [hρ] at h6
     rcases hown3 w1 (uB h4) h6 with ⟨a,b,o2,a1,a2⟩|hq
     ·exact absurd a2 (apart r2 r3 h2 h5 a b o2 a1)
     ·have:=(H.blk _ _ r3).lt h2 h5;omega
    ·rw [s1 _ r1] at h5;rw [s1 _ w1] at h6
     exact H.inj b b' x x' k o o' r3 h2 w3 h4 h5 h6
   ·obtain ⟨p1,p2⟩:=H3.prot k hk
    refine ⟨p1,?_⟩
    rintro ⟨b,x,o,q1,q2,q3⟩
    rw [e7] at q1
    rcases hget q1 with ⟨i,x0,rfl,r1,rfl⟩|⟨r1,r2,r3⟩
    ·rw [hρ] at q3;exact p2 ⟨i,x0,o,r1,uB q2,q3⟩
    ·rw [s1 b r1] at q3
     rcases hpro k hk with h'|⟨j,b',o',a1,a2⟩|h'
     ·exact (H.prot k h').2 ⟨b,x,o,r3,q2,q3⟩
     ·exact apart r2 r3 q2 q3 j b' o' a1 a2
     ·have:=(H.blk _ _ r3).lt q2 q3;omega
   ·rw [e7,List.length_append,tE,rnmH_length,dropH_len] at hb
    rw [s2 b (by omega)]
    exact H3.fresh _ (by omega)
   ·rw [e6]
    exact VR.rnm (E:=E3) (E':=E2) rfl rfl (fun b x hb=>by rw [hρ];exact hb) V3
  cases e with
  | normal=>exact done hk
  | ret=>exact done hk
  | exit id=>exact hk.elim
  | goto l=>exact hk.elim

/-! ### What is given, told inside -/
def EV (bs:List Nat) (a0 a:AV):Prop:=∀ (E:Env) (v:Value),VR E a v->VR (E.via (cX bs)) a0 v
theorem EV_wk {bs:List Nat} {a0 a:AV} (hw:WkV a0 a/\nref a0):EV bs a0 a:=fun E v hv=>VR.view (E:=E) (E':=E.via (cX bs)) (fun k hk=>⟨hk,rfl⟩) (hw.1 E v hv) hw.2
theorem EV_sl {bs:List Nat} {i b es x n:Nat} {nl:Bool} (hb:bs[i]? = some b):EV bs (.sl i es x n false) (.sl b es x n nl):=fun E v hv=>by
 cases hv with
 | sl _ _ _ _ _ a cap hm hcm hnl hz hc =>
  exact .sl _ _ _ _ _ a cap hm hcm (fun h=>by cases h) hz fun hp=>by
   obtain ⟨k,o,cs,e,g1,g2,g3,g4⟩:=hc hp
   exact ⟨k,o,cs,e,by rw [in_σ,hb];exact g1,g2,g3,g4⟩
def EVL (bs:List Nat):List AV->List AV->Prop
 | [],[]=>True
 | a::l,b::m=>EV bs a b/\EVL bs l m
 | _,_=>False
theorem EVL_get {bs:List Nat} {l m:List AV} (hc:EVL bs l m):l.length=m.length/\∀ (i:Nat) (a b:AV),l[i]? = some a->m[i]? = some b->EV bs a b:=by
 induction l generalizing m with
 | nil=>cases m with
  | nil=>exact ⟨rfl,fun i a b ha=>by simp at ha⟩
  | cons b m=>simp [EVL] at hc
 | cons a l ih=>cases m with
  | nil=>simp [EVL] at hc
  | cons b m =>
   simp only [EVL] at hc
   obtain ⟨i1,i2⟩:=ih hc.2
   refine ⟨by simp [i1],fun i x y hx hy=>?_⟩
   cases i with
   | zero=>simp at hx hy;subst hx hy;exact hc.1
   | succ i=>exact i2 i x y (by simpa using hx) (by simpa using hy)
theorem EV_fn {bs:List Nat} {f:FuncId} {l m:List AV} (hc:EVL bs l m):EV bs (.fn f l) (.fn f m):=fun E v hv=>by
 obtain ⟨q1,q2⟩:=EVL_get hc
 cases hv with
 | fn _ _ vs hl h =>
  refine .fn _ _ vs (q1.trans hl) fun i a v ha hv=>?_
  have hi:i < m.length:=by
   rw [← q1]
   rcases Nat.lt_or_ge i l.length with h'|h'
   ·exact h'
   ·rw [List.getElem?_eq_none h'] at ha;cases ha
  exact q2 i a _ ha (List.getElem?_eq_getElem hi) E v (h i _ v (List.getElem?_eq_getElem hi) hv)
theorem EV_FR {bs:List Nat} {l m:List AV} (hc:EVL bs l m) {vs:Array Value} (F:FR E m vs):FR (E.via (cX bs)) l vs:=by
 obtain ⟨q1,q2⟩:=EVL_get hc
 refine ⟨q1.trans F.1,fun i a v ha hv=>?_⟩
 have hi:i < m.length:=by
  rw [← q1]
  rcases Nat.lt_or_ge i l.length with h'|h'
  ·exact h'
  ·rw [List.getElem?_eq_none h'] at ha;cases ha
 exact q2 i a _ ha (List.getElem?_eq_getElem hi) E v (F.2 i _ v (List.getElem?_eq_getElem hi) hv)
def EB (bs:List Nat) (h:List ABlk) (x0:ABlk) (i:Nat):Prop:=∃ b,bs[i]? = some b/\geth h b ≠ .dead/\∀ (E:Env),HR E h->BR (E.via (cX bs)) i x0
theorem EB_row {α:Type} [Inhabited α] {f:α->List AV} {g:(Nat->AV)->α} {k:(Nat->AV)->Prop} {bs:List Nat} {i b es n:Nat} {e:TypeId} {c:Nat->Nat->AV} (hw:∀ r,k r->∀ y,y < es->WkV (zL (f (g r)) y) (r y)/\nref (zL (f (g r)) y))
  (hb:bs[i]? = some b) (hg:geth h b = .row e es n c) (hk:Fit k n c) {L:List α} (hL:deR g n c=L):EB bs h (.row e es L.length (enR f L)) i:=by
 subst hL
 have hnd:geth h b ≠ .dead:=by rw [hg];exact fun e=>by cases e
 refine ⟨b,hb,hnd,fun E H=>?_⟩
 have hB:=H.blk b _ (zP hnd)
 rw [hg] at hB
 rw [deR_length]
 unfold BR at hB ⊢
 rw [in_σ,hb]
 show (match E.σ b with|none=>n=0|some (k,o)=>_)
 cases hs:E.σ b with
 | none=>rw [hs] at hB;exact hB
 | some p =>
  rw [hs] at hB
  obtain ⟨cs,r1,r2,r3⟩:=hB
  refine ⟨cs,r1,r2,fun x y hx hy=>?_⟩
  obtain ⟨v,y1,y2,y3⟩:=r3 x y hx hy
  obtain ⟨w1,w2⟩:=hw _ (hk x hx) y hy
  refine ⟨v,y1,y2,?_⟩
  rw [enR_row,deR_get hx]
  exact VR.view (E:=E) (E':=E.via (cX bs)) (fun k hk=>⟨hk,rfl⟩) (w1 E v y3) w2
def EBs (bs:List Nat) (h:List ABlk):List ABlk->Nat->Prop
 | [],_=>True
 | x::l,i=>EB bs h x i/\EBs bs h l (i+1)
theorem EBs_get {bs:List Nat}:∀ (l:List ABlk) (s:Nat),EBs bs h l s->∀ (i:Nat) (x:ABlk),l[i]? = some x->EB bs h x (s+i)
 | [],s,_,i,x,hi=>by simp at hi
 | y::l,s,hb,0,x,hi=>by simp at hi;subst hi;exact hb.1
 | y::l,s,hb,i+1,x,hi=>by
  have:=EBs_get l (s+1) hb.2 i x (by simpa using hi)
  rwa [show s+1+i=s+(i+1) from by omega] at this
inductive ED where
 | fail
 | ed (bs:List Nat) (ob:Prop) (v0:AV) (g0:List ABlk)
def edR (h:List ABlk):ED->AR
 | .fail=>.fail
 | .ed bs ob v0 g0=>.heap (fG bs=true/\ob) (rnm bs h.length v0) (putH h bs (rnmH bs h.length g0) ++ rnmH bs h.length (gS bs g0))
def edC (body:List AV->List ABlk->ED) (l:List AV) (h:List ABlk):AR:=edR h (body l h)
theorem edit_fnM {f:FuncId} {fn:Func} {code:Code} (body:List AV->List ABlk->ED) {rs:List ResultVar}
  (hf:P.funcs[f]? = some fn) (hn:(fn.name == "runtime.NumGoroutine")=false) (hb:fn.body=some code) (hrs:fn.results.toList=rs)
  (hw:∀ (l:List AV) (h:List ABlk) (bs:List Nat) (ob:Prop) (v0:AV) (g0:List ABlk),body l h = .ed bs ob v0 g0->ob->∃ (l':List AV) (h0:List ABlk),h0.length=bs.length/\EVL bs l' l/\EBs bs h h0 0/\nfBs g0 /\
   Mean P code (kY P rs (RetE bs.length v0 g0)) (l' ++ List.replicate (fn.ntmps - l'.length) .top) h0):yU P f (edC body):=by
 refine edit_gen (edC body) hf hn hb hrs (fun l h ob v hc=>?_) fun l h ob v h' hc hob=>?_
 ·unfold edC at hc
  cases hq:body l h<;>rw [hq] at hc<;>cases hc
 ·unfold edC at hc
  cases hq:body l h with
  | fail=>rw [hq] at hc;cases hc
  | ed bs ob0 v0 g0 =>
   rw [hq] at hc
   simp only [edR,AR.heap.injEq] at hc
   obtain ⟨rfl,rfl,rfl⟩:=hc
   obtain ⟨l',h0,a1,a2,a3,a4,a5⟩:=hw l h bs ob0 v0 g0 hq hob.2
   refine ⟨bs,l',h0,v0,g0,hob.1,a1,fun i b hi=>?_,fun E H i x0 hi=>?_,fun E vs H F=>EV_FR a2 F,rfl,rfl,a4,a5⟩
   ·have hi':i < h0.length:=by rw [a1];exact (List.getElem?_eq_some_iff.1 hi).1
    obtain ⟨b',q1,q2,_⟩:=EBs_get h0 0 a3 i _ (List.getElem?_eq_getElem hi')
    rw [Nat.zero_add,hi] at q1
    injection q1 with q1;subst q1;exact q2
   ·obtain ⟨b',q1,q2,q3⟩:=EBs_get h0 0 a3 i x0 hi
    rw [Nat.zero_add] at q3
    exact q3 E H
end Go.Am

namespace Go.Am
set_option linter.unusedVariables false
variable {P:Program} {E:Env} {h:List ABlk}
def ptB:AV->Nat
 | .ptr b _ _ _=>b
 | _=>0
def slN:AV->Nat
 | .sl b _ _ _ _=>b
 | _=>0
def litL:ABlk->List AV
 | .lit _ l=>l
 | _=>[]
def celL (h:List ABlk) (v:AV):List AV:=litL (geth h (ptB v))
def isLit (e z:Nat):ABlk->Prop
 | .lit e' l=>e'=e/\l.length=z
 | _=>False
def pK (e z:Nat) (h:List ABlk):AV->Prop
 | .ptr b es i j=>es=0/\i=0/\j=0/\isLit e z (geth h b)
 | _=>False
def isRow (e es n:Nat):ABlk->Prop
 | .row e' es' N c=>e'=e/\es'=es/\N=n
 | _=>False
def oS (e es:Nat) (h:List ABlk):AV->Prop
 | .sl b es' i n _=>es'=es/\i=0/\isRow e es n (geth h b)
 | _=>False
theorem own_row2 {α:Type} [Inhabited α] {f:α->List AV} {g:(Nat->AV)->α} {k:(Nat->AV)->Prop} {bs:List Nat} {i es:Nat} {e:TypeId} {a:AV} (hw:∀ {r:Nat->AV},k r->∀ y,y < es->WkV (zL (f (g r)) y) (r y)/\nref (zL (f (g r)) y))
  (hs:oS e es h a) (hk:lK k es (roW h a)) {L:List α} (hL:lA g (roW h a)=L) (hb:bs[i]? = some (slN a)):EV bs (.sl i es 0 L.length false) a/\EB bs h (.row e es L.length (enR f L)) i:=by
 cases a<;>simp only [oS] at hs
 rename_i b es' x n nl
 obtain ⟨rfl,rfl,hr⟩:=hs
 have hg:∃ c,geth h b = .row e es' n c:=by
  cases hq:geth h b<;>rw [hq] at hr<;>simp only [isRow] at hr
  obtain ⟨rfl,rfl,rfl⟩:=hr
  exact ⟨_,rfl⟩
 obtain ⟨c,hg⟩:=hg
 simp only [roW,hg,lK,lA] at hk hL
 have hsub:wL 0 c=c:=by funext x y;simp [wL]
 rw [hsub] at hk hL
 have hn:L.length=n:=by rw [← hL,deR_length]
 exact ⟨by rw [hn];exact EV_sl hb,EB_row (fun r hr=>hw hr) hb hg hk.2 hL⟩
theorem RetE_mk {n:Nat} {v0 v':AV} {g0 hf:List ABlk} (fz:List Nat) (ν:Mu) (h1:yL hf fz v') (h2:uT hf fz hf) (h3:Cv ν v0 (fzV hf fz v')) (h4:CvH ν (fzH hf fz) g0 ν) (h5:injM (kK ν g0)=true) (h6:idM 0 n ν=true):RetE n v0 g0 v' hf :=
 ⟨fz,h1,h2,ν,h3,h4,h5,h6⟩
theorem nfB_en {α:Type} [Inhabited α] {e es n:Nat} {f:α->List AV} {L:List α} (hr:∀ a,zX (f a)):nfB (.row e es n (enR f L)):=trivial
theorem CvB_pre {α:Type} [Inhabited α] {f:α->List AV} {μ:Mu} {e es N m:Nat} {c:Nat->Nat->AV} {L:List α} (hr:∀ a,zX (f a)) (hN:L.length <= N) (hc:∀ x y,x < L.length->y < es->enR f L x y=c x y) :
  CvB μ (.row e es L.length (enR f L)) (some m) (.row e es N c):=by
 simp only [CvB]
 refine ⟨trivial,trivial,hN,fun x y hx hy=>?_⟩
 rw [← hc x y hx hy]
 exact yJ _ (nfR_en hr)
/-! ### Two contracts of one function -/
end Go.Am

namespace Go.Am
set_option linter.unusedVariables false
def u8q (a:AV):Bool:=match a with
 | .int .u8 q=>decide (0 <= q/\q <= 255)
 | _=>false
theorem u8q_iff {a:AV}:u8q a=true ↔ u8Q a:=by
 unfold u8q u8Q
 split<;>simp
def u8b (n:Nat) (c:Nat->Nat->AV):Bool:=(List.range n).all fun i=>u8q (c i 0)
theorem u8b_iff {n:Nat} {c:Nat->Nat->AV}:u8b n c=true ↔ ∀ i,i < n->u8Q (c i 0):=by
 unfold u8b
 rw [List.all_eq_true]
 constructor
 ·intro h i hi;exact u8q_iff.1 (h i (List.mem_range.2 hi))
 ·intro h i hi;exact u8q_iff.2 (h i (List.mem_range.1 hi))
def u8A (L:List Int):Bool:=L.all fun q=>decide (0 <= q) && decide (q <= 255)
theorem u8A_iff {L:List Int}:u8A L=true ↔ ∀ q ∈ L,0 <= q/\q <= 255:=by
 unfold u8A
 rw [List.all_eq_true]
 constructor
 ·intro h q hq;simpa using h q hq
 ·intro h q hq;simpa using h q hq
theorem u8b_enR {f:Int->List AV} (hf:∀ a,f a=[.int .u8 a]) (L:List Int):u8b L.length (enR f L)=u8A L:=by
 have h:u8b L.length (enR f L)=true ↔ u8A L=true:=by
  rw [u8b_iff,u8A_iff]
  constructor
  ·intro h q hq
   obtain ⟨i,hi,rfl⟩:=mem_gd hq
   have:=h i hi
   simp only [enR,hf] at this
   exact this
  ·intro h i hi
   simp only [enR,hf]
   exact h _ (gd_mem hi)
 cases h1:u8b L.length (enR f L)<;>cases h2:u8A L<;>simp_all
theorem strE_en {f:Int->List AV} (hf:∀ a,f a=[.int .u8 a]) (s:ByteArray):strE s=enR f (bytesL s):=by
 funext x y
 simp only [strE,enR,hf];rfl
theorem deR_1 {α:Type} {g:(Nat->AV)->α} {c:Nat->Nat->AV}:deR g 1 c=[g (c 0)]:=rfl
theorem deR_2 {α:Type} {g:(Nat->AV)->α} {c:Nat->Nat->AV}:deR g 2 c=[g (c 0),g (c 1)]:=rfl
theorem deR_3 {α:Type} {g:(Nat->AV)->α} {c:Nat->Nat->AV}:deR g 3 c=[g (c 0),g (c 1),g (c 2)]:=rfl
theorem deR_4 {α:Type} {g:(Nat->AV)->α} {c:Nat->Nat->AV}:deR g 4 c=[g (c 0),g (c 1),g (c 2),g (c 3)]:=rfl
theorem deR_5 {α:Type} {g:(Nat->AV)->α} {c:Nat->Nat->AV}:deR g 5 c=[g (c 0),g (c 1),g (c 2),g (c 3),g (c 4)]:=rfl
theorem deR_6 {α:Type} {g:(Nat->AV)->α} {c:Nat->Nat->AV}:deR g 6 c=[g (c 0),g (c 1),g (c 2),g (c 3),g (c 4),g (c 5)]:=rfl
theorem deR_7 {α:Type} {g:(Nat->AV)->α} {c:Nat->Nat->AV}:deR g 7 c=[g (c 0),g (c 1),g (c 2),g (c 3),g (c 4),g (c 5),g (c 6)]:=rfl
theorem deR_8 {α:Type} {g:(Nat->AV)->α} {c:Nat->Nat->AV}:deR g 8 c=[g (c 0),g (c 1),g (c 2),g (c 3),g (c 4),g (c 5),g (c 6),g (c 7)]:=rfl
theorem deR_9 {α:Type} {g:(Nat->AV)->α} {c:Nat->Nat->AV}:deR g 9 c=[g (c 0),g (c 1),g (c 2),g (c 3),g (c 4),g (c 5),g (c 6),g (c 7),g (c 8)]:=rfl
theorem deR_10 {α:Type} {g:(Nat->AV)->α} {c:Nat->Nat->AV}:deR g 10 c=[g (c 0),g (c 1),g (c 2),g (c 3),g (c 4),g (c 5),g (c 6),g (c 7),g (c 8),g (c 9)]:=rfl
theorem deR_11 {α:Type} {g:(Nat->AV)->α} {c:Nat->Nat->AV}:deR g 11 c=[g (c 0),g (c 1),g (c 2),g (c 3),g (c 4),g (c 5),g (c 6),g (c 7),g (c 8),g (c 9),g (c 10)]:=rfl
theorem deR_12 {α:Type} {g:(Nat->AV)->α} {c:Nat->Nat->AV}:deR g 12 c=[g (c 0),g (c 1),g (c 2),g (c 3),g (c 4),g (c 5),g (c 6),g (c 7),g (c 8),g (c 9),g (c 10),g (c 11)]:=rfl
theorem litC_x0 {z y:Nat} {l:List AV}:cP z l 0 y=zL l (0 * z+y):=rfl
theorem litC_x1 {z y:Nat} {l:List AV}:cP z l 1 y=zL l (1 * z+y):=rfl
theorem litC_x2 {z y:Nat} {l:List AV}:cP z l 2 y=zL l (2 * z+y):=rfl
theorem litC_x3 {z y:Nat} {l:List AV}:cP z l 3 y=zL l (3 * z+y):=rfl
theorem litC_x4 {z y:Nat} {l:List AV}:cP z l 4 y=zL l (4 * z+y):=rfl
theorem litC_x5 {z y:Nat} {l:List AV}:cP z l 5 y=zL l (5 * z+y):=rfl
theorem litC_x6 {z y:Nat} {l:List AV}:cP z l 6 y=zL l (6 * z+y):=rfl
theorem litC_x7 {z y:Nat} {l:List AV}:cP z l 7 y=zL l (7 * z+y):=rfl
theorem litC_x8 {z y:Nat} {l:List AV}:cP z l 8 y=zL l (8 * z+y):=rfl
theorem litC_x9 {z y:Nat} {l:List AV}:cP z l 9 y=zL l (9 * z+y):=rfl
theorem litC_x10 {z y:Nat} {l:List AV}:cP z l 10 y=zL l (10 * z+y):=rfl
theorem litC_x11 {z y:Nat} {l:List AV}:cP z l 11 y=zL l (11 * z+y):=rfl
def mkb (by_:Nat) (n c:Int):Bool:=decide (0 <= n/\n <= c/\(by_:Int) * c <= 140737488355328/\c <= 140737488355328)
theorem mkb_iff {by_:Nat} {n c:Int}:mkb by_ n c=true ↔ 0 <= n/\n <= c/\(by_:Int) * c <= 140737488355328/\c <= 140737488355328:=by simp [mkb]
theorem take_row {α:Type} [Inhabited α] {f:α->List AV} {L:List α} {n es:Nat}:∀ x y,x < (List.take n L).length->y < es->enR f (List.take n L) x y=enR f L x y:=by
 intro x y hx _
 rw [List.length_take] at hx
 simp only [enR]
 rw [gd_take (by omega)]
theorem app_len {α:Type} {L M:List α} {n m:Nat} (h1:L.length=n) (h2:M.length=m):(L ++ M).length=n+m:=by rw [List.length_append,h1,h2]
theorem bW {α:Type} [Inhabited α] {f:α->List AV} {n:Nat} {L:List α} (hn:L.length=n) (L' M:List α) {es:Nat} {c d:Nat->Nat->AV} (h1:∀ x y,x < L'.length->y < es->enR f L' x y=c x y) (h2:∀ x y,x < M.length->y < es->enR f M x y=d x y) (e:L'=L:=by rfl) :
  ∀ x y,x < (L' ++ M).length->y < es->enR f (L' ++ M) x y=kD n c d x y:=by
 subst e hn
 exact vQ L' M h1 h2
end Go.Am

namespace Go.Am
set_option linter.unusedVariables false
variable {P:Program} {E:Env} {h:List ABlk}
def tU (P:Program) (ops:Array Oper) (l:List Oper) (K:Kt) (t:List AV) (h:List ABlk):Prop :=
 ∀ (E:Env) (a:Act) (Q:Exit->Act->World->Prop),HR E h->FR E t a.tmps->a.defers=[] ->
  (∀ (e:Ex) (E':Env) (a':Act) (t':List AV) (h':List ABlk),K e t' h'->Ext E h E' h'->HR E' h'->FR E' t' a'.tmps->a'.defers=[]->Q e.ex a' E'.w)->wpList P ops Q l a E.w
def kO (P:Program) (ops:Array Oper) (rest:List Oper) (K:Kt):Kt
 | .normal,t,h=>tU P ops rest K t h
 | .exit id,t,h=>K (.exit id) t h
 | .ret,t,h=>K .ret t h
 | .goto l,t,h=>K (.goto l) t h
theorem zK {ops:Array Oper} {rest:List Oper} {K:Kt} {t:List AV}:kO P ops rest K .normal t h=tU P ops rest K t h:=rfl
theorem jB {id:Nat} {ops:Array Oper} {K:Kt} {t:List AV} (hm:tU P ops ops.toList K t h):Mean P (.region id ops false) K t h:=by
 intro E a Q H F hd hQ
 exact wp_region_list (hm E a Q H F hd hQ)
theorem vN {ops:Array Oper} {K:Kt} {t:List AV} (hm:K .normal t h):tU P ops [] K t h:=by
 intro E a Q H F hd hQ
 exact hQ .normal E a t h hm (Ext.refl _ _) H F hd
theorem fzO (fz:List Nat) {ops:Array Oper} {l:List Oper} {K:Kt} {t:List AV} (ho:vO h fz t/\uT h fz h) (hm:tU P ops l K (fzL h fz t) (fzH h fz)):tU P ops l K t h:=by
 intro E a Q H F hd hQ
 obtain ⟨H1,X1⟩:=fz_HR H ho.2
 exact hm (E.fz h fz) a Q H1 (fz_FR H F ho.1) hd fun e E' a' t' h' hk X H' F' hd'=>hQ e E' a' t' h' hk (X1.trans X) H' F' hd'
theorem subO {ops:Array Oper} {l:List Oper} {K:Kt} {t t2:List AV} {h2:List ABlk} (hs:qR h.length t h t2 h2) (hm:tU P ops l K t2 h2):tU P ops l K t h:=by
 intro E a Q H F hd hQ
 obtain ⟨E1,e1,e2,e3,e4⟩:=cut_mean (c:=.skip) (K:=K) rfl H hs H F (Ext.refl _ _)
 rw [← e1]
 exact hm E1 a Q e2 e3 hd fun e E' a' t' h' hk X H' F' hd'=>hQ e E' a' t' h' hk (e4.trans X) H' F' hd'
theorem segO {sh:TypeId->Option (List Leaf)} {ct:Ct} (S:fN P sh) (C:wO P ct) {ops:Array Oper} {K:Kt} {rest:List Oper} (l:List Oper) :
  ∀ {t:List AV} {h:List ABlk},wpO P sh ct ops.toList (kO P ops rest K) l t h->tU P ops (l ++ rest) K t h:=by
 have key:∀ (l:List Oper) (Q:Exit->Act->World->Prop) (E:Env) (t:List AV) (h:List ABlk) (a:Act),HR E h->FR E t a.tmps->a.defers=[]->wpO P sh ct ops.toList (kO P ops rest K) l t h ->
   (∀ (e:Ex) (E':Env) (a':Act) (t':List AV) (h':List ABlk),K e t' h'->Ext E h E' h'->HR E' h'->FR E' t' a'.tmps->a'.defers=[]->Q e.ex a' E'.w)->wpList P ops Q (l ++ rest) a E.w:=by
  intro l Q
  induction l with
  | nil=>exact fun E t h a H F hd hw hQ=>hw E a Q H F hd hQ
  | cons o l ih =>
   intro E t h a H F hd hw hQ
   obtain ⟨g1,g2⟩:=qG (ops:=ops) rfl (o:=o) F
   simp only [wpO] at hw
   have put_defers:∀ d v,(a.put d v).defers=[]:=by
    intro d v
    cases d with
    | none=>exact hd
    | some d=>exact hd
   have run:∀ ob v h',(evO P sh ct t h o.op).out h=some (ob,v,h')->vS t o.op->ob->∀ x,(∀ E' r,VR E' v r->VR E' x r)->wpO P sh ct ops.toList (kO P ops rest K) l (wW t o.dst x) h'->o.wp P a E.w (wpList P ops Q (l ++ rest)) Q:=by
    intro ob v h' hr hog hob x hx hw
    refine dD S C H F hr hob hog fun r E' X H' hv=>?_
    exact ih E' _ h' _ H' (uP (vF (X.keep H) F) (hx _ _ hv) o.dst) (put_defers _ _) hw fun e E2 a' t' h2 hk X2 H2 F2 hd2=>hQ e E2 a' t' h2 hk (X.trans X2) H2 F2 hd2
   have skip:∀ x,wpO P sh ct ops.toList (kO P ops rest K) l (wW t o.dst (.opt false x)) h->wpList P ops Q (l ++ rest) (a.put o.dst undef) E.w:=by
    intro x hw
    exact ih E _ h _ H (uP F (.opt_f x) o.dst) (put_defers _ _) hw hQ
   have optT:∀ v E' r,VR E' v r->VR E' (.opt true v) r:=fun v E' r h=>.opt_t v r h
   rw [List.cons_append]
   unfold wpList
   unfold nxt at hw
   split at hw
   ·rename_i hg
    rw [if_pos (g1 hg)]
    refine .inl ?_
    split at hw
    ·rename_i ob v hr;obtain ⟨q1,q2,q3⟩:=hw;exact run ob v h (by rw [hr];rfl) q1 q2 v (fun _ _ h=>h) q3
    ·rename_i ob v h' hr;obtain ⟨q1,q2,q3⟩:=hw;exact run ob v h' (by rw [hr];rfl) q1 q2 v (fun _ _ h=>h) q3
    ·exact hw.elim
   ·rename_i b hg
    rw [g2 b hg]
    split at hw
    ·rename_i ob v hr
     obtain ⟨q1,q3⟩:=hw
     cases b with
     | true=>rw [if_pos rfl];exact .inl (run ob v h (by rw [hr];rfl) (q1 rfl).1 (q1 rfl).2 _ (optT v) q3)
     | false=>rw [if_neg (by simp)];exact skip _ q3
    ·rename_i ob v h' hr
     obtain ⟨q1,q3⟩:=hw
     cases b with
     | true=>rw [if_pos rfl];exact .inl (run ob v h' (by rw [hr];rfl) (q1 rfl).1 (q1 rfl).2.1 _ (optT v) (q1 rfl).2.2)
     | false=>rw [if_neg (by simp)];exact skip _ (q3 rfl)
    ·obtain ⟨rfl,q3⟩:=hw
     rw [if_neg (by simp)]
     exact skip _ q3
   ·exact hw.elim
 intro t h hw E a Q H F hd hQ
 exact key l Q E t h a H F hd hw hQ
theorem xS {sh:TypeId->Option (List Leaf)} {ct:Ct} (S:fN P sh) (C:wO P ct) (n:Nat) {ops:Array Oper} {K:Kt} {l:List Oper} {t:List AV}
  (hw:wpO P sh ct ops.toList (kO P ops (l.drop n) K) (l.take n) t h):tU P ops l K t h:=by
 have:=segO S C (rest:=l.drop n) (l.take n) hw
 rwa [List.take_append_drop] at this
/-! ### What is cleared -/
theorem clr_row {α:Type} [Inhabited α] {f:α->List AV} {L:List α} {lo n es:Nat} {c z:Nat->Nat->AV} (h:∀ x y,x < L.length->y < es->enR f L x y=c x y) :
  ∀ x y,x < (List.take lo L).length->y < es->enR f (List.take lo L) x y=gB lo n c z x y:=by
 intro x y hx hy
 rw [List.length_take] at hx
 rw [take_row x y (by rw [List.length_take];exact hx) hy,h x y (by omega) hy]
 unfold gB
 rw [if_neg (by omega)]
theorem tI {α:Type} {L:List α} {lo n:Nat} (hn:L.length=n) (h:lo <= n):(List.take lo L).length=lo:=by rw [List.length_take];omega
end Go.Am

namespace Go.Am
set_option linter.unusedVariables false
variable {P:Program} {E:Env} {h:List ABlk}
theorem nfR_ovw {s m x y:Nat} {c d:Nat->Nat->AV} (h1:∀ x y,nref (c x y)) (h2:∀ x y,nref (d x y)):nref (gB s m c d x y):=by
 simp only [gB];split
 ·exact h2 _ _
 ·exact h1 _ _
theorem nfR_getL {l:List AV} {y:Nat} (hl:zX l):nref (zL l y):=zR hl _
/-! ### Facts of the cells of types, found by type -/
class NRf {α:Type} (f:α->List AV):Prop where
 h:∀ a,zX (f a)
class KCf {α:Type} (k:(Nat->AV)->Prop) (f:α->List AV):Prop where
 h:∀ a,k (zL (f a))
theorem nfR_enI {α:Type} [Inhabited α] {f:α->List AV} [i:NRf f] {x y:Nat} {L:List α}:nref (enR f L x y):=nfR_en i.h
end Go.Am

namespace Go.Am
set_option linter.unusedVariables false
section
variable {H:Type} {enc:TypeId × Value->H} {P:Program} {w:World} {spare:Nat->Bool} {held:Bool} {fuel:Nat} {t:TypeId} {cs:List Value} {x:DataW H × List MemPlace}
end
end Go.Am

namespace Go.Am
set_option linter.unusedVariables false
class NfV (a:AV):Prop where
 h:nref a
class NfL (l:List AV):Prop where
 h:zX l
class NfC (c:Nat->Nat->AV):Prop where
 h:∀ x y,nref (c x y)
instance {k:IntKind} {n:Int}:NfV (.int k n):=⟨by simp only [nref]⟩
instance {b:Bool}:NfV (.bool b):=⟨by simp only [nref]⟩
instance {s:ByteArray}:NfV (.str s):=⟨by simp only [nref]⟩
instance {es n:Nat} {nl:Bool} {c:Nat->Nat->AV}:NfV (.ro es n nl c):=⟨by simp only [nref]⟩
instance {es n i j:Nat} {c:Nat->Nat->AV}:NfV (.rptr es n i j c):=⟨by simp only [nref]⟩
instance:NfV .top:=⟨by simp only [nref]⟩
instance:NfV .nilp:=⟨by simp only [nref]⟩
instance:NfV .nilf:=⟨by simp only [nref]⟩
instance:NfV .emp:=⟨by simp only [nref]⟩
instance:NfL []:=⟨by simp only [zX]⟩
instance {a:AV} {l:List AV} [i:NfV a] [j:NfL l]:NfL (a::l):=⟨by simp only [zX];exact ⟨i.h,j.h⟩⟩
instance {l:List AV} [i:NfL l]:NfV (.agg l):=⟨by simp only [nref];exact i.h⟩
instance {l:List AV} [i:NfL l]:NfV (.tup l):=⟨by simp only [nref];exact i.h⟩
instance {f:FuncId} {l:List AV} [i:NfL l]:NfV (.fn f l):=⟨by simp only [nref];exact i.h⟩
instance {f:FuncId} {l:List AV} [i:NfL l]:NfV (.mfn f l):=⟨by simp only [nref];exact i.h⟩
instance {g:Bool} {v:AV} [i:NfV v]:NfV (.opt g v):=⟨by simp only [nref];exact i.h⟩
instance {α:Type} [Inhabited α] {f:α->List AV} [i:NRf f] {L:List α}:NfC (enR f L):=⟨fun x y=>nfR_en i.h⟩
instance {z:Nat} {l:List AV} [i:NfL l]:NfC (cP z l):=⟨fun x y=>nfR_lit i.h⟩
instance {l:List AV} [i:NfL l]:NfC (fun _ y=>zL l y):=⟨fun x y=>nfR_getL i.h⟩
instance {l:List AV} {k:Nat} [i:NfL l]:NfC (fun x y=>zL l (x * k+y)):=⟨fun x y=>nfR_getL i.h⟩
instance {l:List AV} {k o:Nat} [i:NfL l]:NfC (fun x y=>zL l (o+x * k+y)):=⟨fun x y=>nfR_getL i.h⟩
instance {k:Nat} {c d:Nat->Nat->AV} [i:NfC c] [j:NfC d]:NfC (kD k c d):=⟨fun x y=>nfR_app i.h j.h⟩
instance {i p m:Nat} {c d:Nat->Nat->AV} [a:NfC c] [b:NfC d]:NfC (bN i p m c d):=⟨fun x y=>nfR_ins a.h b.h⟩
instance {i p m:Nat} {c:Nat->Nat->AV} [a:NfC c]:NfC (delA i p m c):=⟨fun x y=>nfR_del a.h⟩
instance {i j:Nat} {c:Nat->Nat->AV} {vs:List AV} [a:NfC c] [b:NfL vs]:NfC (upc c i j vs):=⟨fun x y=>nfR_upc a.h b.h⟩
instance {s m:Nat} {c d:Nat->Nat->AV} [a:NfC c] [b:NfC d]:NfC (gB s m c d):=⟨fun x y=>nfR_ovw a.h b.h⟩
instance {i:Nat} {c:Nat->Nat->AV} [a:NfC c]:NfC (wL i c):=⟨fun x y=>a.h _ _⟩
theorem nfA {c:Nat->Nat->AV} [i:NfC c]:∀ x y,nref (c x y):=i.h
theorem nfc {c:Nat->Nat->AV} [i:NfC c] {n es:Nat}:∀ x y,x < n->y < es->nref (c x y):=fun x y _ _=>i.h x y
theorem nrc {c:Nat->Nat->AV} [i:NfC c] {k n es:Nat}:∀ x y,x < n->y < es->nr k (c x y):=fun x y _ _=>nr_nref (i.h x y)
theorem uQ {α:Type} [Inhabited α] {k:(Nat->AV)->Prop} {f:α->List AV} [i:KCf k f] {n:Nat} {L:List α}:Fit k n (enR f L):=wN i.h
end Go.Am

namespace Go.Am
set_option linter.unusedVariables false
variable {P:Program} {E:Env} {h:List ABlk}
mutual
theorem ren_00:∀ a:AV,ren 0 0 a=a
 | .ptr b es i j=>by simp [ren,rnN]
 | .sl b es i n nl=>by simp [ren,rnN]
 | .isl b es i j z n=>by simp [ren,rnN]
 | .csl b es i n c=>by simp [ren,rnN]
 | .agg l=>by simp only [ren];rw [renL_00 l]
 | .tup l=>by simp only [ren];rw [renL_00 l]
 | .fn f l=>by simp only [ren];rw [renL_00 l]
 | .mfn f l=>by simp only [ren];rw [renL_00 l]
 | .opt g v=>by simp only [ren];rw [ren_00 v]
 | .rptr es n i j c=>by simp only [ren]
 | .ro es n nl c=>by simp only [ren]
 | .top=>by simp only [ren]
 | .bool b=>by simp only [ren]
 | .int k n=>by simp only [ren]
 | .str s=>by simp only [ren]
 | .nilp=>by simp only [ren]
 | .emp=>by simp only [ren]
 | .nilf=>by simp only [ren]
 | .ub=>by simp only [ren]
 | .val v=>by simp only [ren]
 | .mp v=>by simp only [ren]
theorem renL_00:∀ l:List AV,tO 0 0 l=l
 | []=>by simp only [tO]
 | a::l=>by simp only [tO];rw [ren_00 a,renL_00 l]
end
theorem VR.noro {E':Env} (hw:E'.w=E.w) (hσ:∀ b x,E.σ b=some x->E'.σ b=some x) {a:AV} {v:Value} (h:VR E a v) (hn:Am.noro a):VR E' a v:=by
 have:=VR.exp (E:=E) (E':=E') (L:=0) (s:=0) hw (fun b x hb=>by rw [show rnN 0 0 b=b from by simp [rnN]];exact hσ b x hb) h hn
 rwa [ren_00] at this
def noroB:ABlk->Prop
 | .mapb _ _=>True
 | .dead=>True
 | .lit _ l=>tQ l
 | .row _ es n c=>∀ x y,x < n->y < es->noro (c x y)
def noroBs:List ABlk->Prop
 | []=>True
 | x::l=>noroB x/\noroBs l
theorem noroBs_get {l:List ABlk} (hn:noroBs l) {i:Nat} {x:ABlk} (hi:l[i]? = some x):noroB x:=by
 induction l generalizing i with
 | nil=>simp at hi
 | cons b l ih =>
  simp only [noroBs] at hn
  cases i with
  | zero=>simp at hi;subst hi;exact hn.1
  | succ i=>exact ih hn.2 (by simpa using hi)
theorem BR_noro {E':Env} (hw:E'.w=E.w) (hσ:E'.σ=E.σ) {i:Nat} {x:ABlk} (hB:BR E i x) (hn:noroB x):BR E' i x:=by
 have V:∀ {a:AV} {v:Value},VR E a v->noro a->VR E' a v:=fun hv hn=>VR.noro hw (fun b x hb=>by rw [hσ];exact hb) hv hn
 cases x with
 | dead=>trivial
 | mapb k0 m0 =>
  obtain ⟨r1,r2⟩:=hB
  exact ⟨by rw [hσ];exact r1,by rw [hw];exact r2⟩
 | lit e l =>
  obtain ⟨k,o,cs,r1,r2,r3,r4⟩:=hB
  exact ⟨k,o,cs,by rw [hσ];exact r1,by rw [hw];exact r2,r3,fun j a hj=>by obtain ⟨v,q1,q2,q3⟩:=r4 j a hj;exact ⟨v,q1,q2,V q3 (noroL_get hn hj)⟩⟩
 | row e es n c =>
  unfold BR at hB ⊢
  rw [hσ]
  cases hs:E.σ i with
  | none=>rw [hs] at hB;exact hB
  | some p =>
   rw [hs] at hB
   obtain ⟨cs,r1,r2,r3⟩:=hB
   exact ⟨cs,by rw [hw];exact r1,r2,fun x y hx hy=>by obtain ⟨v,q1,q2,q3⟩:=r3 x y hx hy;exact ⟨v,q1,q2,V q3 (hn x y hx hy)⟩⟩
def gvn (E:Env) (bs:List Nat) (k:Nat):Prop:=∃ (i b o:Nat),bs[i]? = some b/\E.σ b=some (k,o)
def Env.see (E:Env) (bs:List Nat):Env:=⟨E.w,(E.via (cX bs)).σ,fun k=>k < E.w.heap.size/\¬ gvn E bs k,E.lo⟩
theorem see_σ (E:Env) (bs:List Nat) (i:Nat):(E.see bs).σ i=(bs[i]?).bind E.σ:=in_σ E bs i
theorem see_HR (H:HR E h) {bs:List Nat} {h0:List ABlk} (hn:fG bs=true) (hl:h0.length=bs.length) (hd:∀ (i b:Nat),bs[i]? = some b->geth h b ≠ .dead)
  (hb:∀ (i:Nat) (x0:ABlk),h0[i]? = some x0->BR (E.see bs) i x0):HR (E.see bs) h0:=by
 have own:∀ k,Own (E.see bs) h0 k->gvn E bs k:=by
  rintro k ⟨i,x,o,q1,q2,q3⟩
  rw [see_σ] at q3
  cases hi:bs[i]? with
  | none=>rw [hi] at q3;cases q3
  | some b=>rw [hi] at q3;exact ⟨i,b,o,hi,q3⟩
 refine ⟨hb,fun i j x y k o o' h1 h2 h3 h4 h5 h6=>?_,fun k hk=>⟨hk.1,fun ho=>hk.2 (own k ho)⟩,fun i hi=>?_,fun k hk=>⟨(H.prot k (H.lo k hk)).1,fun ⟨i,b,o,q1,q2⟩=>(H.prot k (H.lo k hk)).2 ⟨b,_,o,zP (hd i b q1),hd i b q1,q2⟩⟩⟩
 ·rw [see_σ] at h5 h6
  cases hi:bs[i]? with
  | none=>rw [hi] at h5;cases h5
  | some b =>
   cases hj:bs[j]? with
   | none=>rw [hj] at h6;cases h6
   | some b' =>
    rw [hi] at h5;rw [hj] at h6
    have:=H.inj b b' _ _ k o o' (zP (hd i b hi)) (hd i b hi) (zP (hd j b' hj)) (hd j b' hj) h5 h6
    subst this
    exact nodupB_iff hn i j b hi hj
 ·rw [see_σ,List.getElem?_eq_none (by omega)];rfl
theorem roX_sl (X:Nat->Prop) (hXp:∀ k,E.prot k->X k) (hXo:∀ b k o,geth h b ≠ .dead->E.σ b=some (k,o)->X k) (H:HR E h) {b es i n:Nat} {nl:Bool} {v:Value} (hv:VR E (.sl b es i n nl) v) (ho:match geth h b with
  | .row _ es' N c=>es'=es/\i+n <= N/\∀ x y,x < n->y < es->nref (c (i+x) y)
  | _=>True):VR (⟨E.w,fun _=>none,X,E.lo⟩:Env) (match geth h b with
  | .row _ _ _ c=>.ro es n nl (wL i c)
  | _=>.top) v:=by
 have K:∀ k,E.prot k->X k/\(⟨E.w,fun _=>none,X,E.lo⟩:Env).w.heap[k]? = E.w.heap[k]?:=fun k hk=>⟨hXp k hk,rfl⟩
 cases hv with
 | sl _ _ _ _ _ a cap hn hcm hnl hz hc =>
  cases hg:geth h b with
  | dead=>exact .top _
  | mapb _ _=>exact .top _
  | lit e l=>exact .top _
  | row e es' N c =>
   rw [hg] at ho
   simp only at ho ⊢
   obtain ⟨rfl,hN,ho⟩:=ho
   have main:0 < n->∃ k o,a=some ⟨k,o+i * es',none⟩/\X k/\∀ x y,x < n->y < es'->∃ u,E.w.cell? ⟨k,o+i * es'+x * es'+y,none⟩=some u/\u.oneCell'=true/\VR (⟨E.w,fun _=>none,X,E.lo⟩:Env) (c (i+x) y) u:=by
    intro hp
    obtain ⟨k,o,cs,e',g1,g2,g3,g4⟩:=hc (by omega)
    refine ⟨k,o,g2,hXo _ _ _ (by rw [hg];exact fun e=>by cases e) g1,fun x y hx hy=>?_⟩
    obtain ⟨u,q1,q2,q3⟩:=vU H hg g1 (i+x) y (by omega) hy
    exact ⟨u,by rw [← q1,Nat.add_mul];congr 2;omega,q2,q3.view K (ho x y hx hy)⟩
   refine .ro es' n nl (wL i c) a cap hn hcm hnl (zr_own H (by rw [hg];exact fun e=>by cases e) hn hz hc (fun _ h=>h)) (fun x y=>tT E.w (x * es'+y) a) (fun hp=>?_) (fun x y hx hy=>?_) (fun x y hx hy=>?_) (fun x y hx hy=>ho x y hx hy)
   ·obtain ⟨k,o,rfl,g2,g3⟩:=main hp
    refine ⟨k,o+i * es',rfl,g2,fun x y hx hy=>?_⟩
    obtain ⟨u,q1,_,_⟩:=g3 x y hx hy
    show E.w.cell? _=_
    rw [q1,tT,show (⟨k,o+i * es',none⟩:Addr).add (x * es'+y) = ⟨k,o+i * es'+x * es'+y,none⟩ from by simp [Addr.add,Nat.add_assoc],q1];rfl
   ·obtain ⟨k,o,rfl,g2,g3⟩:=main (by omega)
    obtain ⟨u,q1,q2,_⟩:=g3 x y hx hy
    rw [tT,show (⟨k,o+i * es',none⟩:Addr).add (x * es'+y) = ⟨k,o+i * es'+x * es'+y,none⟩ from by simp [Addr.add,Nat.add_assoc],q1];exact q2
   ·obtain ⟨k,o,rfl,g2,g3⟩:=main (by omega)
    obtain ⟨u,q1,_,q3⟩:=g3 x y hx hy
    rw [tT,show (⟨k,o+i * es',none⟩:Addr).add (x * es'+y) = ⟨k,o+i * es'+x * es'+y,none⟩ from by simp [Addr.add,Nat.add_assoc],q1];exact q3
theorem roWX_VR (X:Nat->Prop) (hXp:∀ k,E.prot k->X k) (hXo:∀ b k o,geth h b ≠ .dead->E.σ b=some (k,o)->X k) (H:HR E h) {a:AV} {v:Value} (hv:VR E a v) (ho:roWOb h a):VR (⟨E.w,fun _=>none,X,E.lo⟩:Env) (roW h a) v:=by
 have K:∀ k,E.prot k->X k/\(⟨E.w,fun _=>none,X,E.lo⟩:Env).w.heap[k]? = E.w.heap[k]?:=fun k hk=>⟨hXp k hk,rfl⟩
 cases a with
 | sl b es i n nl=>exact roX_sl X hXp hXo H hv ho
 | ptr b es i j=>exact .top _
 | isl b es i j z n=>exact .top _
 | csl b es i n c=>exact .top _
 | _=>exact hv.view K (by simp only [roWOb] at ho;simp only [nref];try exact ho)
theorem roX_VR (X:Nat->Prop) (hXp:∀ k,E.prot k->X k) (hXo:∀ b k o,geth h b ≠ .dead->E.σ b=some (k,o)->X k) (H:HR E h) {a:AV} {v:Value} (hv:VR E a v) (ho:wU h a):VR (⟨E.w,fun _=>none,X,E.lo⟩:Env) (roV h a) v:=by
 have K:∀ k,E.prot k->X k/\(⟨E.w,fun _=>none,X,E.lo⟩:Env).w.heap[k]? = E.w.heap[k]?:=fun k hk=>⟨hXp k hk,rfl⟩
 induction hv with
 | top v=>simp only [roV];exact .top v
 | bool b=>simp only [roV];exact .bool b
 | int k n=>simp only [roV];exact .int k n
 | str s=>simp only [roV];exact .str s
 | nilp=>simp only [roV];exact .nilp
 | emp a=>simp only [roV];exact .emp a
 | nilf=>simp only [roV];exact .nilf
 | ub b=>simp only [roV];exact .ub b
 | val v h1=>simp only [roV];exact .val v h1
 | mp m r clock es hp hb he=>simp only [roV];exact (VR.mp m r clock es hp hb he).view K (by simp only [nref])
 | ptr b es i j k o hσ =>
  simp only [roV,wU] at ho ⊢
  cases hg:geth h b with
  | dead=>exact .top _
  | mapb _ _=>exact .top _
  | lit e l =>
   rw [hg] at ho
   simp only at ho ⊢
   have hown:=fX H hg hσ
   have hb:=zP (h:=h) (b:=b) (by rw [hg];exact fun e=>by cases e)
   have hlt:X k:=hXo _ _ _ (by rw [hg];exact fun e=>by cases e) hσ
   have h1:∀ y,y < l.length->∃ u,E.w.cell? ⟨k,o+y,none⟩=some u/\u.oneCell'=true/\VR (⟨E.w,fun _=>none,X,E.lo⟩:Env) (zL (roWL h l) y) u:=by
    intro y hy
    obtain ⟨u,q1,q2,q3⟩:=hown y hy
    exact ⟨u,q1,q2,by rw [roWL_getL];exact roWX_VR X hXp hXo H q3 (fY ho y)⟩
   rw [show o+i * es+j=o+0 * l.length+(i * es+j) from by omega]
   refine .rptr l.length 1 0 (i * es+j) k o _ (fun x y=>(E.w.cell? ⟨k,o+y,none⟩).getD undef) ⟨hlt,fun _=>cS H hσ (.inl ⟨_,_,hg⟩) (fun _ h=>h)⟩ (fun x y hx hy=>?_) (fun x y hx hy=>?_) (fun x y hx hy=>?_) (fun x y hx hy=>by rw [roWL_getL];exact roW_nref _ (fY ho y))
   ·obtain ⟨u,q1,_,_⟩:=h1 y hy
    have hx:x=0:=by omega
    subst hx
    rw [show o+0 * l.length+y=o+y from by omega]
    show E.w.cell? _=_
    rw [q1];rfl
   ·obtain ⟨u,q1,q2,_⟩:=h1 y hy
    rw [q1];exact q2
   ·obtain ⟨u,q1,_,q3⟩:=h1 y hy
    rw [q1];exact q3
  | row e es' n c =>
   rw [hg] at ho
   simp only at ho ⊢
   obtain ⟨rfl,ho⟩:=ho
   have hown:=vU H hg hσ
   have hb:=zP (h:=h) (b:=b) (by rw [hg];exact fun e=>by cases e)
   have hlt:X k:=hXo _ _ _ (by rw [hg];exact fun e=>by cases e) hσ
   refine .rptr es' n i j k o _ (fun x y=>(E.w.cell? ⟨k,o+x * es'+y,none⟩).getD undef) ⟨hlt,fun _=>cS H hσ (.inr ⟨_,_,_,_,hg⟩) (fun _ h=>h)⟩ (fun x y hx hy=>?_) (fun x y hx hy=>?_) (fun x y hx hy=>?_) (fun x y hx hy=>ho x y hx hy)
   ·obtain ⟨u,q1,_,_⟩:=hown x y hx hy
    show E.w.cell? _=_
    rw [q1];rfl
   ·obtain ⟨u,q1,q2,_⟩:=hown x y hx hy
    rw [q1];exact q2
   ·obtain ⟨u,q1,_,q3⟩:=hown x y hx hy
    rw [q1];exact q3.view K (ho x y hx hy)
 | sl b es i n nl a cap hn hcm hnl hz hc =>
  simp only [roV,wU] at ho ⊢
  exact roX_sl X hXp hXo H (.sl b es i n nl a cap hn hcm hnl hz hc) ho
 | csl b es i n c a hn hcm hc=>simp only [roV];exact .top _
 | isl b es i j z n cap k o hn hcm hσ =>
  simp only [roV,wU] at ho ⊢
  have main:∀ c:Nat->Nat->AV,((∃ e l,geth h b = .lit e l) ∨ ∃ e es n c,geth h b = .row e es n c)->X k->(∀ x y,x < n->y < z->∃ u,E.w.cell? ⟨k,o+i * es+j+x * z+y,none⟩=some u/\u.oneCell'=true/\VR (⟨E.w,fun _=>none,X,E.lo⟩:Env) (c x y) u)->(∀ x y,x < n->y < z->nref (c x y))->VR (⟨E.w,fun _=>none,X,E.lo⟩:Env) (.ro z n false c) (.slice (some ⟨k,o+i * es+j,none⟩) n cap):=by
   intro c hnd hk hc hrf
   refine .ro z n false c _ cap hn hcm (fun h=>by cases h) (zrB (cS H hσ hnd fun _ h=>h)) (fun x y=>(E.w.cell? ⟨k,o+i * es+j+x * z+y,none⟩).getD undef) (fun hp=>⟨k,_,rfl,hk,fun x y hx hy=>?_⟩) (fun x y hx hy=>?_) (fun x y hx hy=>?_) hrf
   ·obtain ⟨u,q1,_,_⟩:=hc x y hx hy
    show E.w.cell? _=_
    rw [q1];rfl
   ·obtain ⟨u,q1,q2,_⟩:=hc x y hx hy
    rw [q1];exact q2
   ·obtain ⟨u,q1,_,q3⟩:=hc x y hx hy
    rw [q1];exact q3
  cases hg:geth h b with
  | dead=>exact .top _
  | mapb _ _=>exact .top _
  | lit e l =>
   rw [hg] at ho
   simp only at ho ⊢
   have hb:=zP (h:=h) (b:=b) (by rw [hg];exact fun e=>by cases e)
   have hlt:X k:=hXo _ _ _ (by rw [hg];exact fun e=>by cases e) hσ
   refine main _ (.inl ⟨_,_,hg⟩) hlt (fun x y hx hy=>?_) (fun x y hx hy=>zR ho.2 _)
   have h1:=wG hx hy
   obtain ⟨u,q1,q2,q3⟩:=fX H hg hσ (i * es+j+x * z+y) (by omega)
   exact ⟨u,by rw [← q1];congr 2;omega,q2,q3.view K (zR ho.2 _)⟩
  | row e es' N c =>
   rw [hg] at ho
   simp only at ho ⊢
   obtain ⟨rfl,hN,hjz,ho⟩:=ho
   have hb:=zP (h:=h) (b:=b) (by rw [hg];exact fun e=>by cases e)
   have hlt:X k:=hXo _ _ _ (by rw [hg];exact fun e=>by cases e) hσ
   refine main _ (.inr ⟨_,_,_,_,hg⟩) hlt (fun x y hx hy=>?_) (fun x y hx hy=>by rw [cN hy];exact ho _ (by have:=wG hx hy;omega))
   have h1:=wG hx hy
   obtain ⟨u,q1,q2,q3⟩:=vU H hg hσ i (j+x * z+y) hN (by omega)
   exact ⟨u,by rw [← q1];congr 2;omega,q2,by rw [cN hy];exact q3.view K (ho _ (by omega))⟩
 | rptr es n i j k o c u hp hu h1 hc hrf ih =>
  simp only [roV]
  exact (VR.rptr es n i j k o c u hp hu h1 hc hrf).view K (by simp only [nref])
 | ro es n nl c a cap hn hcm hnl hz u ha h1 hc hrf ih =>
  simp only [roV]
  exact (VR.ro es n nl c a cap hn hcm hnl hz u ha h1 hc hrf).view K (by simp only [nref])
 | agg l vs hl h1 hh ih =>
  simp only [roV,wU] at ho ⊢
  refine .agg _ _ (by rw [uG,hl]) h1 fun i a v ha hv=>?_
  rw [jH] at ha
  cases hi:l[i]? with
  | none=>rw [hi] at ha;cases ha
  | some a0 =>
   rw [hi] at ha
   simp only [Option.map_some,Option.some.injEq] at ha
   subst ha
   exact ih i a0 v hi hv (uO ho hi)
 | tup l vs hl hh ih =>
  simp only [roV,wU] at ho ⊢
  refine .tup _ _ (by rw [uG,hl]) fun i a v ha hv=>?_
  rw [jH] at ha
  cases hi:l[i]? with
  | none=>rw [hi] at ha;cases ha
  | some a0 =>
   rw [hi] at ha
   simp only [Option.map_some,Option.some.injEq] at ha
   subst ha
   exact ih i a0 v hi hv (uO ho hi)
 | fn f l vs hl hh ih =>
  simp only [roV,wU] at ho ⊢
  refine .fn f _ _ (by rw [uG,hl]) fun i a v ha hv=>?_
  rw [jH] at ha
  cases hi:l[i]? with
  | none=>rw [hi] at ha;cases ha
  | some a0 =>
   rw [hi] at ha
   simp only [Option.map_some,Option.some.injEq] at ha
   subst ha
   exact ih i a0 v hi hv (uO ho hi)
 | mfn f l vs hl hh ih =>
  simp only [roV,wU] at ho ⊢
  refine .mfn f _ _ (by rw [uG,hl]) fun i a v ha hv=>?_
  rw [jH] at ha
  cases hi:l[i]? with
  | none=>rw [hi] at ha;cases ha
  | some a0 =>
   rw [hi] at ha
   simp only [Option.map_some,Option.some.injEq] at ha
   subst ha
   exact ih i a0 v hi hv (uO ho hi)
 | opt_t a v hv ih =>
  simp only [roV,wU] at ho ⊢
  exact .opt_t a v (hv.view K ho)
 | opt_f a=>simp only [roV];exact .opt_f a
theorem edit_genV {f:FuncId} {fn:Func} {code:Code} (c:List AV->List ABlk->AR) {rs:List ResultVar}
  (hf:P.funcs[f]? = some fn) (hn:(fn.name == "runtime.NumGoroutine")=false) (hb:fn.body=some code) (hrs:fn.results.toList=rs) (hnp:∀ l h ob v,c l h ≠ .pure ob v)
  (hw:∀ (l:List AV) (h:List ABlk) (ob:Prop) (v:AV) (h':List ABlk),c l h = .heap ob v h'->ob->∃ (bs:List Nat) (l':List AV) (h0:List ABlk) (v0:AV) (g0:List ABlk),
   fG bs=true/\h0.length=bs.length/\(∀ (i b:Nat),bs[i]? = some b->geth h b ≠ .dead) /\
   (∀ E,HR E h->∀ (i:Nat) (x0:ABlk),h0[i]? = some x0->BR (E.see bs) i x0)/\(∀ E vs,HR E h->FR E l vs->FR (E.see bs) l' vs) /\
   v=rnm bs h.length v0/\h'=putH h bs (rnmH bs h.length g0) ++ rnmH bs h.length (gS bs g0)/\nfBs g0/\noroBs g0/\noro v0 /\
   Mean P code (kY P rs (RetE bs.length v0 g0)) (l' ++ List.replicate (fn.ntmps - l'.length) .top) h0):yU P f c:=by
 subst hrs
 have tops:∀ {E:Env} {l':List AV} {vs:Array Value},FR E l' vs->FR E (l' ++ List.replicate (fn.ntmps - l'.length) .top) (vs ++ Array.replicate (fn.ntmps - vs.size) undef):=by
  intro E l' vs F1
  refine xM F1 ⟨by simp [F1.1],fun i a v ha hv=>?_⟩
  rw [List.getElem?_replicate] at ha
  split at ha
  ·injection ha with ha;subst ha;exact .top _
  ·cases ha
 refine ⟨⟨fn,hf,hn,by rw [hb];rfl⟩,fun E h l vs ob v h' H F hr hob=>?_,fun E h l vs ob v H F hr hob=>absurd hr (hnp _ _ _ _)⟩
 cases hc:c l h with
 | fail=>rw [hc] at hr;cases hr
 | pure a b=>exact absurd hc (hnp _ _ _ _)
 | heap ob2 v2 h2 =>
  rw [hc] at hr
  simp only [AR.out,Option.some.injEq,Prod.mk.injEq] at hr
  obtain ⟨rfl,rfl,rfl⟩:=hr
  obtain ⟨bs,l',h0,v0,g0,e1,e2,e3,e4,e5,e6,e7,e8,e9,e10,g4⟩:=hw l h _ _ _ hc hob
  have H0:=see_HR H e1 e2 e3 (e4 E H)
  have F0:=tops (e5 E vs H F)
  have blt:∀ {i b:Nat},bs[i]? = some b->b < h.length:=fun hi=>gA (e3 _ _ hi)
  have own0:∀ k,Own (E.see bs) h0 k->∃ (i b o:Nat),bs[i]? = some b/\E.σ b=some (k,o):=by
   rintro k ⟨i,x,o,q1,q2,q3⟩
   rw [see_σ] at q3
   cases hi:bs[i]? with
   | none=>rw [hi] at q3;cases q3
   | some b=>rw [hi] at q3;exact ⟨i,b,o,hi,q3⟩
  have own1:∀ k,Own (E.see bs) h0 k->Own E h k:=fun k hk=>by
   obtain ⟨i,b,o,q1,q2⟩:=own0 k hk
   exact ⟨b,_,o,zP (e3 i b q1),e3 i b q1,q2⟩
  refine calls_of_wp hf hb ?_
  refine g4 (E.see bs) _ _ H0 F0 rfl fun e E1 a' t' h1 hk X1 H1 F' hd=>?_
  have done:cV P fn.results.toList (RetE bs.length v0 g0) t' h1->a'.defers=[]/\∃ u,(results fn a'.tmps).run P E1.w = .ok u E1.w/\Ret E h h2 v2 (.returned u) E1.w:=by
   intro hk
   obtain ⟨u,v',q1,⟨fz,z1,z2,ν,c1,c2,c3,c4⟩,q3⟩:=tP (P:=P) H1 F' hk
   refine ⟨hd,u,q1,?_⟩
   obtain ⟨Hf,Xf⟩:=fz_HR H1 z2
   have hv1:=fz_VR H1 q3 z1
   have H3:=(via_HR Hf c2 c3).1
   have X3:=via_Ext H0 Hf (X1.trans Xf) c2 c3 (by rw [e2];exact c4)
   have V3:VR ((E1.fz h1 fz).via ν) v0 u:=eQ hv1 _ c1
   have hgl:bs.length <= g0.length:=by rw [(CvH_get c2).1];exact idM_len _ _ _ c4
   have hw3:((E1.fz h1 fz).via ν).w=E1.w:=rfl
   generalize (E1.fz h1 fz).via ν=E3 at H3 X3 V3 hw3
   have old3:∀ (i b:Nat),bs[i]? = some b->E3.σ i=E.σ b:=fun i b hi=>by
    rw [X3.old i (by rw [e2];exact (List.getElem?_eq_some_iff.1 hi).1),see_σ,hi];rfl
   let σ2:Nat->Option (Nat × Nat):=fun b=>if b < h.length then E.σ b else E3.σ (bs.length+(b - h.length))
   let E2:Env:=⟨E3.w,σ2,E.prot,E.lo⟩
   have s1:∀ b,b < h.length->E2.σ b=E.σ b:=fun b hb=>if_pos hb
   have s2:∀ b,¬ b < h.length->E2.σ b=E3.σ (bs.length+(b - h.length)):=fun b hb=>if_neg hb
   have hlt:∀ b x,E.σ b=some x->b < h.length:=by
    intro b x hb
    rcases Nat.lt_or_ge b h.length with h'|h'
    ·exact h'
    ·rw [H.fresh b h'] at hb;cases hb
   have hρ:∀ i,E2.σ (bO bs h.length i)=E3.σ i:=fun i=>by
    rcases Nat.lt_or_ge i bs.length with hi|hi
    ·have hb:bs[i]? = some bs[i]:=List.getElem?_eq_getElem hi
     rw [rhoN_in hb,s1 _ (blt hb),old3 i _ hb]
    ·rw [rhoN_out hi,s2 _ (by omega)];congr 1;omega
   have same:∀ k,k < E.w.heap.size->(∀ (i b o:Nat),bs[i]? = some b->E.σ b ≠ some (k,o))->E3.w.heap[k]? = E.w.heap[k]?:=fun k hk hno =>
    X3.frame k hk fun ho=>by obtain ⟨i,b,o,q1,q2⟩:=own0 k ho;exact hno i b o q1 q2
   have K2:Keep E E2:=⟨fun b x hb=>by rw [s1 b (hlt b x hb)];exact hb,fun k hk=>hk,fun k hk=>X3.frame k (H.prot k hk).1 fun ho=>(H.prot k hk).2 (own1 k ho),X3.kind,rfl⟩
   -- where a block of the new heap comes from
   have hget:∀ {b:Nat} {x:ABlk},(putH h bs (rnmH bs h.length g0) ++ rnmH bs h.length (gS bs g0))[b]? = some x ->
     (∃ (i:Nat) (x0:ABlk),b=bO bs h.length i/\g0[i]? = some x0/\x=rnmB bs h.length x0) ∨ (b < h.length/\b ∉ bs/\h[b]? = some x):=by
    intro b x hb
    by_cases hbl:b < h.length
    ·rw [List.getElem?_append_left (by rw [tE];exact hbl)] at hb
     by_cases hm:b ∈ bs
     ·obtain ⟨i,hi⟩:=List.mem_iff_getElem?.1 hm
      have hi':i < g0.length:=Nat.lt_of_lt_of_le (List.getElem?_eq_some_iff.1 hi).1 hgl
      rw [putH_in bs _ h i b (rnmB bs h.length g0[i]) e1 hbl hi (by rw [rnmH_get,List.getElem?_eq_getElem hi'];rfl)] at hb
      injection hb with hb
      exact .inl ⟨i,g0[i],(rhoN_in hi).symm,List.getElem?_eq_getElem hi',hb.symm⟩
     ·rw [putH_out bs _ h b hm] at hb
      exact .inr ⟨hbl,hm,hb⟩
    ·rw [List.getElem?_append_right (by rw [tE];omega),tE,rnmH_get,dropH_get] at hb
     cases hg:g0[bs.length+(b - h.length)]? with
     | none=>rw [hg] at hb;cases hb
     | some x0 =>
      rw [hg] at hb
      simp only [Option.map_some,Option.some.injEq] at hb
      exact .inl ⟨_,x0,by rw [rhoN_out (by omega)];omega,hg,hb.symm⟩
   have hown3:∀ {i:Nat} {x0:ABlk} {k o:Nat},g0[i]? = some x0->x0 ≠ .dead->E3.σ i=some (k,o)->(∃ (j b o:Nat),bs[j]? = some b/\E.σ b=some (k,o)) ∨ E.w.heap.size <= k:=fun h1 h2 h3 =>
    (X3.own _ ⟨_,_,_,h1,h2,h3⟩).imp (own0 _) id
   have apart:∀ {b:Nat} {x:ABlk} {k o:Nat},b ∉ bs->h[b]? = some x->x ≠ .dead->E.σ b=some (k,o)->∀ (i b' o':Nat),bs[i]? = some b'->E.σ b' ≠ some (k,o'):=by
    intro b x k o hm h1 h2 h3 i b' o' h4 h5
    have:=H.inj b b' x _ k o o' h1 h2 (zP (e3 i b' h4)) (e3 i b' h4) h3 h5
    subst this
    exact hm (List.mem_of_getElem? h4)
   have hown:∀ k,Own E2 h2 k->Own E h k ∨ E.w.heap.size <= k:=by
    rintro k ⟨b,x,o,q1,q2,q3⟩
    rw [e7] at q1
    rcases hget q1 with ⟨i,x0,rfl,r1,rfl⟩|⟨r1,r2,r3⟩
    ·rw [hρ] at q3
     rcases hown3 r1 (uB q2) q3 with ⟨j,b,o,a1,a2⟩|h'
     ·exact .inl ⟨b,_,o,zP (e3 j b a1),e3 j b a1,a2⟩
     ·exact .inr h'
    ·rw [s1 b r1] at q3;exact .inl ⟨b,x,o,r3,q2,q3⟩
   refine ⟨u,E2,rfl,hw3,⟨X3.os,X3.tape,X3.output,K2.σ,fun k hk=>hk,X3.size,K2.kind,fun k hk hno=>X3.frame k hk fun ho=>hno (own1 k ho),hown,?_,s1,fun k hk=>.inl hk,rfl,fun k hk=>.inl hk⟩,⟨fun b x hb=>?_,fun b b' x x' k o o' h1 h2 h3 h4 h5 h6=>?_,fun k hk=>?_,fun b hb=>?_,H.lo⟩,?_⟩
   ·rw [e7,List.length_append,tE];omega
   ·rw [e7] at hb
    rcases hget hb with ⟨i,x0,rfl,r1,rfl⟩|⟨r1,r2,r3⟩
    ·exact out_BR (E3:=⟨E3.w,E3.σ,E.prot,E.lo⟩) (E2:=E2) rfl rfl (fun b x hb=>by rw [hρ];exact hb) (hρ i) (nfBs_get e8 r1) (BR_noro (E:=E3) (E':=⟨E3.w,E3.σ,E.prot,E.lo⟩) rfl rfl (H3.blk i x0 r1) (noroBs_get e9 r1))
    ·by_cases hd:x = .dead
     ·subst hd;trivial
     ·exact (H.blk b x r3).mono K2 (s1 b r1) fun k o hk=>same k ((H.blk b x r3).lt hd hk) (apart r2 r3 hd hk)
   ·rw [e7] at h1 h3
    rcases hget h1 with ⟨i,x0,rfl,r1,rfl⟩|⟨r1,r2,r3⟩<;>rcases hget h3 with ⟨j,y0,rfl,w1,rfl⟩|⟨w1,w2,w3⟩
    ·rw [hρ] at h5 h6
     rw [H3.inj i j x0 y0 k o o' r1 (uB h2) w1 (uB h4) h5 h6]
    ·rw [hρ] at h5;rw [s1 _ w1] at h6
     rcases hown3 r1 (uB h2) h5 with ⟨a,b,o2,a1,a2⟩|hq
     ·exact absurd a2 (apart w2 w3 h4 h6 a b o2 a1)
     ·have:=(H.blk _ _ w3).lt h4 h6;omega
    ·rw [s1 _ r1] at h5;rw [hρ] at h6
     rcases hown3 w1 (uB h4) h6 with ⟨a,b,o2,a1,a2⟩|hq
     ·exact absurd a2 (apart r2 r3 h2 h5 a b o2 a1)
     ·have:=(H.blk _ _ r3).lt h2 h5;omega
    ·rw [s1 _ r1] at h5;rw [s1 _ w1] at h6
     exact H.inj b b' x x' k o o' r3 h2 w3 h4 h5 h6
   ·obtain ⟨p1,p2⟩:=H.prot k hk
    refine ⟨Nat.lt_of_lt_of_le p1 X3.size,fun ho=>?_⟩
    rcases hown k ho with h'|h'
    ·exact p2 h'
    ·omega
   ·rw [e7,List.length_append,tE,rnmH_length,dropH_len] at hb
    rw [s2 b (by omega)]
    exact H3.fresh _ (by omega)
   ·rw [e6]
    exact VR.rnm (E:=⟨E3.w,E3.σ,E.prot,E.lo⟩) (E':=E2) rfl rfl (fun b x hb=>by rw [hρ];exact hb) (VR.noro (E:=E3) (E':=⟨E3.w,E3.σ,E.prot,E.lo⟩) rfl (fun _ _ h=>h) V3 e10)
  cases e with
  | normal=>exact done hk
  | ret=>exact done hk
  | exit id=>exact hk.elim
  | goto l=>exact hk.elim

/-! ### What is given, told inside -/
def uY (h:List ABlk):List Nat->List ABlk
 | []=>h
 | b::l=>uY (seth h b .dead) l
theorem deadL_HR:∀ (bs:List Nat) {h:List ABlk},HR E h->HR E (uY h bs)
 | [],_,H=>H
 | b::bs,h,H=>by
  simp only [uY]
  refine deadL_HR bs ?_
  rw [wK];exact (kill_HR H b).1
theorem deadL_geth:∀ (bs:List Nat) (h:List ABlk) (b:Nat),geth (uY h bs) b ≠ .dead->geth h b ≠ .dead/\b ∉ bs
 | [],_,_,hg=>⟨hg,by simp⟩
 | a::bs,h,b,hg=>by
  simp only [uY] at hg
  obtain ⟨q1,q2⟩:=deadL_geth bs _ b hg
  by_cases hab:b=a
  ·subst hab
   exfalso;apply q1
   rcases Nat.lt_or_ge b h.length with hl|hl
   ·have e:(seth h b .dead)[b]? = some .dead:=by rw [wK,List.getElem?_set_self hl]
    rw [xQ,e];rfl
   ·have:=gA q1
    rw [wF] at this;omega
  ·refine ⟨?_,by simp [hab,q2]⟩
   have e:(seth h a .dead)[b]? = h[b]?:=by rw [wK,List.getElem?_set_ne (Ne.symm hab)]
   intro hd
   apply q1
   rw [xQ,e,← xQ];exact hd
def EW (bs:List Nat) (h:List ABlk) (a0 a:AV):Prop:=(∀ (i b:Nat),bs[i]? = some b->geth h b ≠ .dead)->∀ (E:Env) (v:Value),HR E h->VR E a v->VR (E.see bs) a0 v
def roD (h:List ABlk):AV->AV
 | .ptr b es i j=>match geth h b with
  | .lit _ l=>.rptr l.length 1 0 (i * es+j) (fun _ y=>zL (roL h l) y)
  | .row _ es' n c=>.rptr es' n i j c
  | .mapb _ _=>.top
  | .dead=>.top
 | .sl b es i n nl=>roV h (.sl b es i n nl)
 | .isl b es i j z n=>roV h (.isl b es i j z n)
 | .csl b es i n c=>roV h (.csl b es i n c)
 | .agg l=>roV h (.agg l)
 | .tup l=>roV h (.tup l)
 | .fn f l=>roV h (.fn f l)
 | .mfn f l=>roV h (.mfn f l)
 | .top=>.top
 | .bool b=>.bool b
 | .int k n=>.int k n
 | .str s=>.str s
 | .nilp=>.nilp
 | .rptr es n i j c=>.rptr es n i j c
 | .ro es n nl c=>.ro es n nl c
 | .emp=>.emp
 | .nilf=>.nilf
 | .ub=>.ub
 | .val v=>.val v
 | .mp v=>.mp v
 | .opt g v=>.opt g v
def roDOb (h:List ABlk):AV->Prop
 | .ptr b es i j=>match geth h b with
  | .lit _ l=>jN h l
  | .row _ es' n c=>es'=es/\∀ x y,x < n->y < es->nref (c x y)
  | .mapb _ _=>True
  | .dead=>True
 | .sl b es i n nl=>wU h (.sl b es i n nl)
 | .isl b es i j z n=>wU h (.isl b es i j z n)
 | .csl b es i n c=>wU h (.csl b es i n c)
 | .agg l=>wU h (.agg l)
 | .tup l=>wU h (.tup l)
 | .fn f l=>wU h (.fn f l)
 | .mfn f l=>wU h (.mfn f l)
 | .opt g v=>nref v
 | .top=>True
 | .bool _=>True
 | .int _ _=>True
 | .str _=>True
 | .nilp=>True
 | .rptr _ _ _ _ _=>True
 | .ro _ _ _ _=>True
 | .emp=>True
 | .nilf=>True
 | .ub=>True
 | .val _=>True
 | .mp _=>True
mutual
theorem roV_nref:∀ a:AV,wU h a->nref (roV h a)
 | .ptr b es i j,_=>by simp only [roV];split<;>simp only [nref]
 | .sl b es i n nl,_=>by simp only [roV];split<;>simp only [nref]
 | .isl b es i j z n,_=>by simp only [roV];split<;>simp only [nref]
 | .csl b es i n c,_=>by simp only [roV,nref]
 | .agg l,ho=>by simp only [roV,nref];exact roL_nref l (by simpa only [wU] using ho)
 | .tup l,ho=>by simp only [roV,nref];exact roL_nref l (by simpa only [wU] using ho)
 | .fn f l,ho=>by simp only [roV,nref];exact roL_nref l (by simpa only [wU] using ho)
 | .mfn f l,ho=>by simp only [roV,nref];exact roL_nref l (by simpa only [wU] using ho)
 | .top,_=>by simp only [roV,nref]
 | .bool b,_=>by simp only [roV,nref]
 | .int k n,_=>by simp only [roV,nref]
 | .str s,_=>by simp only [roV,nref]
 | .nilp,_=>by simp only [roV,nref]
 | .rptr es n i j c,_=>by simp only [roV,nref]
 | .ro es n nl c,_=>by simp only [roV,nref]
 | .emp,_=>by simp only [roV,nref]
 | .nilf,_=>by simp only [roV,nref]
 | .ub,_=>by simp only [roV,nref]
 | .val v,_=>by simp only [roV,nref]
 | .mp v,_=>by simp only [roV,nref]
 | .opt g v,ho=>by simp only [roV,nref];simpa only [wU] using ho
theorem roL_nref:∀ l:List AV,jN h l->zX (roL h l)
 | [],_=>by simp only [roL,zX]
 | a::l,ho=>by simp only [roL,zX];simp only [jN] at ho;exact ⟨roV_nref a ho.1,roL_nref l ho.2⟩
end
theorem roL_getL (l:List AV) (i:Nat) (hi:i < l.length):zL (roL h l) i=roV h (zL l i):=by
 have h1:(roL h l)[i]? = some (roV h (zL l i)):=by rw [jH,yZ hi];rfl
 exact cL h1
theorem roD_VR (X:Nat->Prop) (hXp:∀ k,E.prot k->X k) (hXo:∀ b k o,geth h b ≠ .dead->E.σ b=some (k,o)->X k) (H:HR E h) {a:AV} {v:Value} (hv:VR E a v) (ho:roDOb h a):VR (⟨E.w,fun _=>none,X,E.lo⟩:Env) (roD h a) v:=by
 have main:roD h a=roV h a->wU h a->VR (⟨E.w,fun _=>none,X,E.lo⟩:Env) (roD h a) v:=fun e ho=>by rw [e];exact roX_VR X hXp hXo H hv ho
 cases a with
 | ptr b es i j =>
  cases hg:geth h b with
  | dead=>simp only [roD,hg];exact .top _
  | mapb _ _=>simp only [roD,hg];exact .top _
  | row e es' n c =>
   refine main (by simp only [roD,roV,hg]) ?_
   simp only [roDOb,hg] at ho;simp only [wU,hg];exact ho
  | lit e l =>
   simp only [roD,roDOb,hg] at ho ⊢
   cases hv with
   | ptr _ _ _ _ k o hσ =>
    have hown:=fX H hg hσ
    have h1:∀ y,y < l.length->∃ u,E.w.cell? ⟨k,o+y,none⟩=some u/\u.oneCell'=true/\VR (⟨E.w,fun _=>none,X,E.lo⟩:Env) (zL (roL h l) y) u/\nref (zL (roL h l) y):=by
     intro y hy
     obtain ⟨u,q1,q2,q3⟩:=hown y hy
     have hoy:=uO ho (yZ hy)
     refine ⟨u,q1,q2,?_,?_⟩
     ·rw [roL_getL l y hy];exact roX_VR X hXp hXo H q3 hoy
     ·rw [roL_getL l y hy];exact roV_nref _ hoy
    rw [show o+i * es+j=o+0 * l.length+(i * es+j) from by omega]
    refine .rptr l.length 1 0 (i * es+j) k o _ (fun x y=>(E.w.cell? ⟨k,o+y,none⟩).getD undef) ⟨hXo _ _ _ (by rw [hg];exact fun e=>by cases e) hσ,fun _=>cS H hσ (.inl ⟨_,_,hg⟩) (fun _ h=>h)⟩ (fun x y hx hy=>?_) (fun x y hx hy=>?_) (fun x y hx hy=>?_) (fun x y hx hy=>?_)
    ·obtain ⟨u,q1,_,_⟩:=h1 y hy
     obtain rfl:x=0:=by omega
     rw [show o+0 * l.length+y=o+y from by omega]
     show E.w.cell? _=_
     rw [q1];rfl
    ·obtain ⟨u,q1,q2,_⟩:=h1 y hy
     rw [q1];exact q2
    ·obtain ⟨u,q1,_,q3,_⟩:=h1 y hy
     rw [q1];exact q3
    ·obtain ⟨u,_,_,_,q4⟩:=h1 y hy
     exact q4
 | _=>exact main (by simp only [roD,roV]) (by first|exact ho|(simp only [roDOb] at ho;simp only [wU];exact ho)|simp only [wU])
theorem EW_view {bs:List Nat} {a0 a:AV} (ho:roDOb (uY h bs) a) (hw:WkV a0 (roD (uY h bs) a)/\nref a0):EW bs h a0 a:=fun hd E v H hv=>by
 have H':=deadL_HR bs H
 have q:=roD_VR (E.see bs).prot (fun k hk=>⟨(H.prot k hk).1,fun ⟨i,b,o,q1,q2⟩=>(H.prot k hk).2 ⟨b,_,o,zP (hd i b q1),hd i b q1,q2⟩⟩)
  (fun b k o hb hσ=>by
   obtain ⟨q1,q2⟩:=deadL_geth bs h b hb
   refine ⟨BR.lt q1 (H.blk b _ (zP q1)) hσ,fun ⟨i,b',o',r1,r2⟩=>?_⟩
   have:=H.inj b b' _ _ k o o' (zP q1) q1 (zP (hd i b' r1)) (hd i b' r1) hσ r2
   subst this
   exact q2 (List.mem_of_getElem? r1)) H' hv ho
 exact VR.view (E:=⟨E.w,fun _=>none,(E.see bs).prot,E.lo⟩) (E':=E.see bs) (fun k hk=>⟨hk,rfl⟩) (hw.1 _ v q) hw.2
def EWL (bs:List Nat) (h:List ABlk):List AV->List AV->Prop
 | [],[]=>True
 | a::l,b::m=>EW bs h a b/\EWL bs h l m
 | _,_=>False
theorem EWL_get {bs:List Nat} {l m:List AV} (hc:EWL bs h l m):l.length=m.length/\∀ (i:Nat) (a b:AV),l[i]? = some a->m[i]? = some b->EW bs h a b:=by
 induction l generalizing m with
 | nil=>cases m with
  | nil=>exact ⟨rfl,fun i a b ha=>by simp at ha⟩
  | cons b m=>simp [EWL] at hc
 | cons a l ih=>cases m with
  | nil=>simp [EWL] at hc
  | cons b m =>
   simp only [EWL] at hc
   obtain ⟨i1,i2⟩:=ih hc.2
   refine ⟨by simp [i1],fun i x y hx hy=>?_⟩
   cases i with
   | zero=>simp at hx hy;subst hx hy;exact hc.1
   | succ i=>exact i2 i x y (by simpa using hx) (by simpa using hy)
theorem EW_FR {bs:List Nat} {l m:List AV} (hc:EWL bs h l m) (hd:∀ (i b:Nat),bs[i]? = some b->geth h b ≠ .dead) (H:HR E h) {vs:Array Value} (F:FR E m vs):FR (E.see bs) l vs:=by
 obtain ⟨q1,q2⟩:=EWL_get hc
 refine ⟨q1.trans F.1,fun i a v ha hv=>?_⟩
 have hi:i < m.length:=by
  rw [← q1]
  rcases Nat.lt_or_ge i l.length with h'|h'
  ·exact h'
  ·rw [List.getElem?_eq_none h'] at ha;cases ha
 exact q2 i a _ ha (List.getElem?_eq_getElem hi) hd E v H (F.2 i _ v (List.getElem?_eq_getElem hi) hv)
theorem edit_fnV {f:FuncId} {fn:Func} {code:Code} (body:List AV->List ABlk->ED) {rs:List ResultVar}
  (hf:P.funcs[f]? = some fn) (hn:(fn.name == "runtime.NumGoroutine")=false) (hb:fn.body=some code) (hrs:fn.results.toList=rs)
  (hw:∀ (l:List AV) (h:List ABlk) (bs:List Nat) (ob:Prop) (v0:AV) (g0:List ABlk),body l h = .ed bs ob v0 g0->ob->∃ (l':List AV) (h0:List ABlk),h0.length=bs.length/\EWL bs h l' l/\EBs bs h h0 0/\noroBs h0/\nfBs g0/\noroBs g0/\noro v0 /\
   Mean P code (kY P rs (RetE bs.length v0 g0)) (l' ++ List.replicate (fn.ntmps - l'.length) .top) h0):yU P f (edC body):=by
 refine edit_genV (edC body) hf hn hb hrs (fun l h ob v hc=>?_) fun l h ob v h' hc hob=>?_
 ·unfold edC at hc
  cases hq:body l h<;>rw [hq] at hc<;>cases hc
 ·unfold edC at hc
  cases hq:body l h with
  | fail=>rw [hq] at hc;cases hc
  | ed bs ob0 v0 g0 =>
   rw [hq] at hc
   simp only [edR,AR.heap.injEq] at hc
   obtain ⟨rfl,rfl,rfl⟩:=hc
   obtain ⟨l',h0,a1,a2,a3,a3',a4,a5,a6,a7⟩:=hw l h bs ob0 v0 g0 hq hob.2
   have hd:∀ (i b:Nat),bs[i]? = some b->geth h b ≠ .dead:=fun i b hi=>by
    have hi':i < h0.length:=by rw [a1];exact (List.getElem?_eq_some_iff.1 hi).1
    obtain ⟨b',q1,q2,_⟩:=EBs_get h0 0 a3 i _ (List.getElem?_eq_getElem hi')
    rw [Nat.zero_add,hi] at q1
    injection q1 with q1;subst q1;exact q2
   refine ⟨bs,l',h0,v0,g0,hob.1,a1,hd,fun E H i x0 hi=>?_,fun E vs H F=>EW_FR a2 hd H F,rfl,rfl,a4,a5,a6,a7⟩
   obtain ⟨b',q1,q2,q3⟩:=EBs_get h0 0 a3 i x0 hi
   rw [Nat.zero_add] at q3
   exact BR_noro (E:=E.via (cX bs)) (E':=E.see bs) rfl rfl (q3 E H) (noroBs_get a3' hi)
/-! ### Pointers of which only some cells are read -/
class NOf {α:Type} (f:α->List AV):Prop where
 h:∀ a,tQ (f a)
theorem noroL_getL {l:List AV} (hn:tQ l) (i:Nat):noro (zL l i):=by
 rcases Nat.lt_or_ge i l.length with hi|hi
 ·exact noroL_get hn (yZ hi)
 ·rw [tN hi];simp only [noro]
theorem noroB_en {α:Type} [Inhabited α] {e es n:Nat} {f:α->List AV} [i:NOf f] {L:List α}:noroB (.row e es n (enR f L)):=fun x y _ _=>noroL_getL (i.h _) y
theorem noro_bif {c:Bool} {a b:AV} (h1:noro a) (h2:noro b):noro (bif c then a else b):=by cases c<;>assumption
theorem rnm_bif {bs:List Nat} {s:Nat} {c:Bool} {a b:AV}:rnm bs s (bif c then a else b)=bif c then rnm bs s a else rnm bs s b:=by cases c<;>rfl
theorem rnmB_bif {bs:List Nat} {s:Nat} {c:Bool} {a b:ABlk}:rnmB bs s (bif c then a else b)=bif c then rnmB bs s a else rnmB bs s b:=by cases c<;>rfl
end Go.Am

namespace Go.Am
set_option linter.unusedVariables false
variable {P:Program} {E:Env} {h:List ABlk}
mutual
def rbV (b m i es:Nat):AV->AV
 | .sl b' es' i' n nl=>bif (b' == b && (i' == i && es' == es)) then .sl m es 0 n nl else .sl b' es' i' n nl
 | .agg l=>.agg (rbL b m i es l)
 | .tup l=>.tup (rbL b m i es l)
 | .fn f l=>.fn f (rbL b m i es l)
 | .mfn f l=>.mfn f (rbL b m i es l)
 | .opt g v=>.opt g (rbV b m i es v)
 | .ptr b es i j=>.ptr b es i j
 | .isl b es i j z n=>.isl b es i j z n
 | .csl b es i n c=>.csl b es i n c
 | .top=>.top
 | .bool b=>.bool b
 | .int k n=>.int k n
 | .str s=>.str s
 | .nilp=>.nilp
 | .rptr es n i j c=>.rptr es n i j c
 | .ro es n nl c=>.ro es n nl c
 | .emp=>.emp
 | .nilf=>.nilf
 | .ub=>.ub
 | .val v=>.val v
 | .mp m=>.mp m
def rbL (b m i es:Nat):List AV->List AV
 | []=>[]
 | a::l=>rbV b m i es a::rbL b m i es l
end
def Env.rb (E:Env) (b m i es:Nat):Env:=⟨E.w,fun x=>bif x == m then (E.σ b).map (fun p=>(p.1,p.2+i * es)) else E.σ x,E.prot,E.lo⟩
theorem ro_nil {z:Nat} {nl:Bool} {c c':Nat->Nat->AV} {v:Value} (h:VR E (.ro z 0 nl c) v):VR E (.ro z 0 nl c') v:=by
 cases h with
 | ro _ _ _ _ a cap hn hcm hnl hz u ha h1 hc hrf=>exact .ro _ _ _ _ a cap hn hcm hnl (zrN hz.1) u (fun h=>absurd h (by omega)) (fun x y hx=>absurd hx (by omega)) (fun x y hx=>absurd hx (by omega)) fun x y hx=>absurd hx (by omega)
def aLs:AV->List AV
 | .agg l=>l
 | _=>[]
theorem bsi {α β:Type} {x:Option α} {f:α->Option β} {b:β} (h:x.bind f=some b):∃ a,x=some a/\f a=some b:=Option.bind_eq_some_iff.1 h
def tp:Nat->List AV->List AV
 | 0,l=>l
 | n+1,l=>.top::tp n l
end Go.Am

namespace Go.Am
set_option linter.unusedVariables false
end Go.Am

namespace Go.Am
set_option linter.unusedVariables false
end Go.Am

namespace Go.Am
set_option linter.unusedVariables false
variable {P:Program} {E:Env} {h:List ABlk}
/-! ### A call that is walked where it stands -/
theorem cM {k:FuncId} {fn:Func} {code:Code} {rs:List ResultVar} {n:Nat} (hf:P.funcs[k]? = some fn) (hn:(fn.name == "runtime.NumGoroutine")=false) (hb:fn.body=some code) (hrs:fn.results.toList=rs) (hnt:fn.ntmps=n)
  {dst:Option Nat} {ty:TypeId} {pos:String} {after:Array Edge} {f:Operand} {args:Array Operand} {argTypes:Array TypeId} {ops:Array Oper} {l:List Oper} {K:Kt} {t:List AV} {caps tc:List AV}
  (hfn:rho t f = .fn k caps) (hog:og t f/\ogL t args.toList) (htc:kE t args.toList ++ caps=tc)
  (hm:Mean P code (kY P rs fun v h'=>tU P ops l K (wW t dst v) h') (tc ++ List.replicate (n - tc.length) .top) h):tU P ops (⟨dst,.call ⟨.value f,args,argTypes⟩,ty,pos,after,none⟩::l) K t h:=by
 subst hrs hnt htc
 intro E a Q H F hd hQ
 have hargs:=jY F (xs:=args) hog.2
 have hf':=zS F hog.1
 rw [hfn] at hf'
 generalize ha:a.eval f=u at hf'
 cases hf' with
 | fn _ _ vs hl hh =>
 have F1:FR E (kE t args.toList ++ caps) (args.map a.eval ++ vs):=xM hargs ⟨hl,hh⟩
 have F2:FR E ((kE t args.toList ++ caps) ++ List.replicate (fn.ntmps - (kE t args.toList ++ caps).length) .top) ((args.map a.eval ++ vs) ++ Array.replicate (fn.ntmps - (args.map a.eval ++ vs).size) undef):=by
  refine xM F1 ⟨by simp only [List.length_replicate,Array.size_replicate,F1.1],fun i a v ha hv=>?_⟩
  rw [List.getElem?_replicate] at ha
  split at ha
  ·injection ha with ha;subst ha;exact .top _
  ·cases ha
 have put_defers:∀ d v,(a.put d v).defers=[]:=by
  intro d v
  cases d with
  | none=>exact hd
  | some d=>exact hd
 unfold wpList
 rw [if_pos (show Region.wanted _ _=true from rfl)]
 refine .inl ?_
 unfold Oper.wp
 have hrun:(execOp a.eval ⟨dst,.call ⟨.value f,args,argTypes⟩,ty,pos,after,none⟩).run P E.w = .ok (.enter k (args.map a.eval ++ vs)) E.w:=by
  show (do let d ← resolve a.eval ⟨.value f,args,argTypes⟩ ty;invoke d.target d.args:Sem Next).run P E.w=_
  simp only [resolve,Sem.run_bind,Deferred.ofValue,ha,Sem.run_pure,Result.andThen_ok,invoke,Array.empty_append]
  exact uH ⟨fn,hf,hn,by rw [hb];rfl⟩ _
 rw [hrun]
 have hcall:Calls P k (args.map a.eval ++ vs) E.w fun e w'=>∃ u v E' h',e = .returned u/\E'.w=w'/\Ext E h E' h'/\HR E' h'/\VR E' v u/\tU P ops l K (wW t dst v) h':=by
  refine calls_of_wp hf hb ?_
  refine hm E _ _ H F2 rfl fun e E1 a' t' h1 hk X1 H1 F' hd'=>?_
  have done:cV P fn.results.toList (fun v h'=>tU P ops l K (wW t dst v) h') t' h1->a'.defers=[]/\∃ u,(results fn a'.tmps).run P E1.w = .ok u E1.w/\∃ u' v E' h',Ending.returned u = .returned u'/\E'.w=E1.w/\Ext E h E' h'/\HR E' h'/\VR E' v u'/\tU P ops l K (wW t dst v) h':=by
   intro hk
   obtain ⟨u,v,q1,q2,q3⟩:=tP (P:=P) H1 F' hk
   exact ⟨hd',u,q1,u,v,E1,h1,rfl,rfl,X1,H1,q3,q2⟩
  cases e with
  | normal=>exact done hk
  | ret=>exact done hk
  | exit id=>exact hk.elim
  | goto l=>exact hk.elim
 refine Calls.mono hcall ?_
 rintro e w' ⟨u,v,E',h',rfl,rfl,X,H',V,hM⟩
 exact hM E' (a.put dst u) Q H' (uP (vF (X.keep H) F) V dst) (put_defers _ _) fun e E2 a' t' h2 hk X2 H2 F2 hd2=>hQ e E2 a' t' h2 hk (X.trans X2) H2 F2 hd2

/-! ### Rows that name own blocks: these are given up to be read only -/
def fzB2 (h:List ABlk) (fz:List Nat):ABlk->ABlk
 | .lit e l=>.lit e (fzL h fz l)
 | .row e es n c=>.row e es n (fun x y=>fzV h fz (c x y))
 | .mapb k m=>.mapb k m
 | .dead=>.dead
def eZ (h:List ABlk) (fz rs:List Nat):Nat->List ABlk->List ABlk
 | _,[]=>[]
 | b,x::l=>(bif inL b fz then .dead else bif inL b rs then fzB2 h fz x else fzB h fz x)::eZ h fz rs (b+1) l
def fzH2 (h:List ABlk) (fz rs:List Nat):List ABlk:=eZ h fz rs 0 h
def fzObB2 (h:List ABlk) (fz:List Nat):ABlk->Prop
 | .lit _ l=>vO h fz l
 | .row _ es n c=>∀ x y,x < n->y < es->yL h fz (c x y)
 | .mapb _ _=>True
 | .dead=>True
def jF (h:List ABlk) (fz rs:List Nat):Nat->List ABlk->Prop
 | _,[]=>True
 | b,x::l=>(bif inL b rs then fzObB2 h fz x else bC h fz x)/\jF h fz rs (b+1) l
theorem fzHF2_get {fz rs:List Nat} (g:List ABlk):∀ (b i:Nat),(eZ h fz rs b g)[i]? = (g[i]?).map fun x=>bif inL (b+i) fz then .dead else bif inL (b+i) rs then fzB2 h fz x else fzB h fz x:=by
 induction g with
 | nil=>intro b i;simp [eZ]
 | cons x l ih =>
  intro b i
  cases i with
  | zero=>simp [eZ]
  | succ i=>simp only [eZ,List.getElem?_cons_succ];rw [ih,show b+1+i=b+(i+1) from by omega]
theorem fzH2_get {fz rs:List Nat} (i:Nat):(fzH2 h fz rs)[i]? = (h[i]?).map fun x=>bif inL i fz then .dead else bif inL i rs then fzB2 h fz x else fzB h fz x:=by
 unfold fzH2;rw [fzHF2_get,Nat.zero_add]
theorem fzHF2_length {fz rs:List Nat} (g:List ABlk):∀ b,(eZ h fz rs b g).length=g.length:=by
 induction g with
 | nil=>intro b;rfl
 | cons x l ih=>intro b;simp [eZ,ih]
theorem fzObHF2_get {fz rs:List Nat} {g:List ABlk}:∀ {b:Nat},jF h fz rs b g->∀ {i:Nat} {x:ABlk},g[i]? = some x->bif inL (b+i) rs then fzObB2 h fz x else bC h fz x:=by
 induction g with
 | nil=>intro b hn i x ha;simp at ha
 | cons y l ih =>
  intro b hn i x ha
  simp only [jF] at hn
  cases i with
  | zero=>simp at ha;subst ha;exact hn.1
  | succ i=>rw [show b+(i+1)=b+1+i from by omega];exact ih hn.2 (by simpa using ha)
theorem fz_HR2 (H:HR E h) {fz rs:List Nat} (ho:jF h fz rs 0 h):HR (E.fz h fz) (fzH2 h fz rs)/\Ext E h (E.fz h fz) (fzH2 h fz rs):=by
 have K:=fz_keep E h fz
 have hget:∀ {i:Nat} {y:ABlk},(fzH2 h fz rs)[i]? = some y->y ≠ .dead->∃ x,h[i]? = some x/\x ≠ .dead/\inL i fz=false/\y=(bif inL i rs then fzB2 h fz x else fzB h fz x):=by
  intro i y hi hy
  rw [fzH2_get] at hi
  cases hx:h[i]? with
  | none=>rw [hx] at hi;cases hi
  | some x =>
   rw [hx] at hi
   simp only [Option.map_some,Option.some.injEq] at hi
   cases hb:inL i fz with
   | true=>rw [hb] at hi;exact absurd hi.symm hy
   | false =>
    rw [hb] at hi
    simp only [cond_false] at hi
    exact ⟨x,rfl,fun h=>by subst h;cases hr:inL i rs<;>rw [hr] at hi<;>exact hy hi.symm,rfl,hi.symm⟩
 have hown:∀ k,Own (E.fz h fz) (fzH2 h fz rs) k->Own E h k:=by
  rintro k ⟨b,y,o,h1,h2,h3⟩
  obtain ⟨x,q1,q2,_,_⟩:=hget h1 h2
  exact ⟨b,x,o,q1,q2,h3⟩
 refine ⟨⟨fun b y hb=>?_,fun b b' y y' k o o' h1 h2 h3 h4 h5 h6=>?_,fun k hk=>?_,fun b hb=>?_,fun k hk=>.inl (H.lo k hk)⟩,⟨rfl,rfl,rfl,K.σ,K.prot,Nat.le_refl _,K.kind,fun _ _ _=>rfl,fun k hk=>.inl (hown k hk),by rw [fzH2,fzHF2_length];exact Nat.le_refl _,fun _ _=>rfl,fun k hk=>?_,rfl,fun k hk=>hk.imp id fun ⟨b,x,o,q1,q2,q3,q4⟩=>H.wr q2 q3 q4⟩⟩
 ·by_cases hd:y = .dead
  ·subst hd;trivial
  obtain ⟨x,q1,q2,q3,rfl⟩:=hget hb hd
  have hB:=H.blk b x q1
  have hob:=fzObHF2_get ho q1
  rw [Nat.zero_add] at hob
  cases hr:inL b rs with
  | false =>
   rw [hr] at hob
   simp only [cond_false] at hob ⊢
   cases x with
   | dead=>trivial
   | row e es n c=>exact hB.mono K rfl fun _ _ _=>rfl
   | mapb k0 m0=>exact hB.mono K rfl fun _ _ _=>rfl
   | lit e l =>
    obtain ⟨k,o,cs,r1,r2,r3,r4⟩:=hB
    refine ⟨k,o,cs,r1,r2,by rw [kW];exact r3,fun j a hj=>?_⟩
    rw [fzL_get] at hj
    cases hl:l[j]? with
    | none=>rw [hl] at hj;cases hj
    | some a0 =>
     rw [hl] at hj
     simp only [Option.map_some,Option.some.injEq] at hj
     subst hj
     obtain ⟨v,s1,s2,s3⟩:=r4 j a0 hl
     exact ⟨v,s1,s2,fz_VR H s3 (gJ hob hl)⟩
  | true =>
   rw [hr] at hob
   simp only [cond_true] at hob ⊢
   cases x with
   | dead=>trivial
   | mapb k0 m0=>exact hB.mono K rfl fun _ _ _=>rfl
   | row e es n c =>
    unfold BR at hB
    simp only [fzB2]
    unfold BR
    show (match E.σ b with|none=>n=0|some (k,o)=>_)
    cases hs:E.σ b with
    | none=>rw [hs] at hB;exact hB
    | some p =>
     rw [hs] at hB
     obtain ⟨cs,r1,r2,r3⟩:=hB
     exact ⟨cs,r1,r2,fun x y hx hy=>by obtain ⟨v,s1,s2,s3⟩:=r3 x y hx hy;exact ⟨v,s1,s2,fz_VR H s3 (hob x y hx hy)⟩⟩
   | lit e l =>
    obtain ⟨k,o,cs,r1,r2,r3,r4⟩:=hB
    refine ⟨k,o,cs,r1,r2,by rw [kW];exact r3,fun j a hj=>?_⟩
    rw [fzL_get] at hj
    cases hl:l[j]? with
    | none=>rw [hl] at hj;cases hj
    | some a0 =>
     rw [hl] at hj
     simp only [Option.map_some,Option.some.injEq] at hj
     subst hj
     obtain ⟨v,s1,s2,s3⟩:=r4 j a0 hl
     exact ⟨v,s1,s2,fz_VR H s3 (gJ hob hl)⟩
 ·obtain ⟨x,q1,q2,_,_⟩:=hget h1 h2
  obtain ⟨x',q1',q2',_,_⟩:=hget h3 h4
  exact H.inj b b' x x' k o o' q1 q2 q1' q2' h5 h6
 ·rcases hk with hk|⟨b,x,o,q1,q2,q3,q4⟩
  ·exact ⟨(H.prot k hk).1,fun ho'=>(H.prot k hk).2 (hown k ho')⟩
  ·refine ⟨BR.lt (E:=E) q3.nd (H.blk b x q2) q4,?_⟩
   rintro ⟨b',y,o',h1,h2,h3⟩
   obtain ⟨x',r1,r2,r3,_⟩:=hget h1 h2
   have:=H.inj b b' x x' k o o' q2 q3.nd r1 r2 q4 h3
   subst this
   rw [q1] at r3;cases r3
 ·rw [fzH2,fzHF2_length] at hb;exact H.fresh b hb
 ·rcases hk with hk|⟨b,x,o,q1,q2,q3,q4⟩
  ·exact .inl hk
  ·exact .inr (.inl ⟨b,x,o,q2,q3.nd,q4⟩)
theorem fz2_mean (fz rs:List Nat) {c:Code} {K:Kt} {t:List AV} (ho:vO h fz t/\jF h fz rs 0 h) (hm:Mean P c K (fzL h fz t) (fzH2 h fz rs)):Mean P c K t h:=by
 intro E a Q H F hd hQ
 obtain ⟨H1,X1⟩:=fz_HR2 H ho.2
 exact hm (E.fz h fz) a Q H1 (fz_FR H F ho.1) hd fun e E' a' t' h' hk X H' F' hd'=>hQ e E' a' t' h' hk (X1.trans X) H' F' hd'
theorem yA (c:Nat->Nat->AV) (i j:Nat) (vs:List AV) (y:Nat):upc c i j vs i y=bif decide (j <= y) && decide (y < j+vs.length) then zL vs (y - j) else c i y:=by
 unfold upc
 by_cases h1:j <= y<;>by_cases h2:y < j+vs.length<;>simp [h1,h2]
theorem yP {c:Nat->Nat->AV} {i j x y:Nat} {vs:List AV} (h:x ≠ i):upc c i j vs x y=c x y:=by
 unfold upc;rw [if_neg (fun q=>h q.1)]
mutual
theorem fzV_nref {fz:List Nat}:∀ {a:AV},nref a->fzV h fz a=a/\yL h fz a
 | .ptr _ _ _ _,hn=>by simp [nref] at hn
 | .sl _ _ _ _ _,hn=>by simp [nref] at hn
 | .isl _ _ _ _ _ _,hn=>by simp [nref] at hn
 | .csl _ _ _ _ _,hn=>by simp [nref] at hn
 | .rptr _ _ _ _ _,_=>by simp [fzV,yL]
 | .ro _ _ _ _,_=>by simp [fzV,yL]
 | .agg l,hn=>by
  simp only [nref] at hn
  obtain ⟨q1,q2⟩:=fzL_nref (fz:=fz) hn
  exact ⟨by simp only [fzV,q1],by simpa only [yL] using q2⟩
 | .tup l,hn=>by
  simp only [nref] at hn
  obtain ⟨q1,q2⟩:=fzL_nref (fz:=fz) hn
  exact ⟨by simp only [fzV,q1],by simpa only [yL] using q2⟩
 | .fn _ l,hn=>by
  simp only [nref] at hn
  obtain ⟨q1,q2⟩:=fzL_nref (fz:=fz) hn
  exact ⟨by simp only [fzV,q1],by simpa only [yL] using q2⟩
 | .mfn _ l,hn=>by
  simp only [nref] at hn
  obtain ⟨q1,q2⟩:=fzL_nref (fz:=fz) hn
  exact ⟨by simp only [fzV,q1],by simpa only [yL] using q2⟩
 | .opt _ v,hn=>by
  simp only [nref] at hn
  obtain ⟨q1,q2⟩:=fzV_nref (fz:=fz) hn
  exact ⟨by simp only [fzV,q1],by simpa only [yL] using q2⟩
 | .top,_=>by simp [fzV,yL]
 | .bool _,_=>by simp [fzV,yL]
 | .int _ _,_=>by simp [fzV,yL]
 | .str _,_=>by simp [fzV,yL]
 | .nilp,_=>by simp [fzV,yL]
 | .emp,_=>by simp [fzV,yL]
 | .nilf,_=>by simp [fzV,yL]
 | .ub,_=>by simp [fzV,yL]
 | .val _,_=>by simp [fzV,yL]
 | .mp _,_=>by simp [fzV,yL]
theorem fzL_nref {fz:List Nat}:∀ {l:List AV},zX l->fzL h fz l=l/\vO h fz l
 | [],_=>by simp [fzL,vO]
 | a::l,hn=>by
  simp only [zX] at hn
  obtain ⟨q1,q2⟩:=fzV_nref (fz:=fz) hn.1
  obtain ⟨q3,q4⟩:=fzL_nref (fz:=fz) hn.2
  exact ⟨by simp only [fzL,q1,q3],by simp only [vO];exact ⟨q2,q4⟩⟩
end
theorem foc_row {α:Type} [Inhabited α] {f:α->List AV} {L:List α} {i es:Nat} {a:α} {fz:List Nat} {C:Nat->Nat->AV} (nr:∀ a y,nref (zL (f a) y)) (hC:∀ x y,x ≠ i->C x y=enR f L x y) (hi:∀ y,y < es->fzV h fz (C i y)=zL (f a) y) :
  ∀ x y,x < (L.set i a).length->y < es->enR f (L.set i a) x y=fzV h fz (C x y):=by
 intro x y hx hy
 rw [List.length_set] at hx
 by_cases hxi:x=i
 ·subst hxi
  rw [hi y hy]
  simp only [enR,gd,List.getD_eq_getElem?_getD,List.getElem?_set_self hx,Option.getD_some]
 ·rw [hC x y hxi]
  have:gd (L.set i a) x=gd L x:=by simp only [gd,List.getD_eq_getElem?_getD,List.getElem?_set_ne (Ne.symm hxi)]
  simp only [enR,gd,List.getD_eq_getElem?_getD,List.getElem?_set_ne (Ne.symm hxi)]
  exact ((fzV_nref (h:=h) (fz:=fz) (nr _ y)).1).symm
theorem eL {α:Type} [Inhabited α] {f:α->List AV} {L:List α} {i n es:Nat} {fz:List Nat} {C:Nat->Nat->AV} (nr:∀ a y,nref (zL (f a) y)) (hC:∀ x y,x ≠ i->C x y=enR f L x y) (hi:∀ y,y < es->yL h fz (C i y)) :
  ∀ x y,x < n->y < es->yL h fz (C x y):=by
 intro x y hx hy
 by_cases hxi:x=i
 ·subst hxi;exact hi y hy
 ·rw [hC x y hxi];exact (fzV_nref (h:=h) (fz:=fz) (nr _ y)).2
/-! ### Rows told a little weaker: a nil slice as a list of no elements -/
def WR {α:Type} [Inhabited α] (f:α->List AV) (L:List α) (es:Nat) (c:Nat->Nat->AV):Prop:=∀ x y,x < L.length->y < es->∀ μ:Mu,Cv μ (enR f L x y) (c x y)
theorem wk_eq {α:Type} [Inhabited α] {f:α->List AV} {L:List α} {es:Nat} {c:Nat->Nat->AV} (hr:∀ a,zX (f a)) (h:∀ x y,x < L.length->y < es->enR f L x y=c x y):WR f L es c:=fun x y hx hy μ=>by
 rw [← h x y hx hy]
 exact yJ _ (wC (hr _) y)
theorem CvB_rowW {α:Type} [Inhabited α] {f:α->List AV} {μ:Mu} {e es n:Nat} {m:Nat} {L:List α} {c:Nat->Nat->AV} (hn:L.length=n) (h:WR f L es c):CvB μ (.row e es L.length (enR f L)) (some m) (.row e es n c):=by
 simp only [CvB]
 exact ⟨trivial,trivial,Nat.le_of_eq hn,fun x y hx hy=>h x y hx hy μ⟩
theorem upc_rowW {α:Type} [Inhabited α] {f:α->List AV} (L:List α) (i j:Nat) (a:α) {es:Nat} {c:Nat->Nat->AV} {vs:List AV} (h1:WR f L es c)
  (hv:∀ y,y < es->∀ μ:Mu,if j <= y/\y < j+vs.length then Cv μ (zL (f a) y) (zL vs (y - j)) else zL (f a) y=zL (f (gd L i)) y):WR f (L.set i a) es (upc c i j vs):=by
 intro x y hx hy μ
 rw [List.length_set] at hx
 simp only [upc]
 by_cases hxi:x=i
 ·subst hxi
  have hg:gd (L.set x a) x=a:=by simp [gd,hx]
  have hq:=hv y hy μ
  have ha:=h1 x y hx hy μ
  simp only [enR,hg,true_and]
  simp only [enR] at ha
  split
  ·rename_i h;rw [if_pos h] at hq;exact hq
  ·rename_i h;rw [if_neg h] at hq;rw [hq];exact ha
 ·rw [if_neg (fun q=>hxi q.1)]
  have:gd (L.set i a) x=gd L x:=by simp only [gd,List.getD_eq_getElem?_getD,List.getElem?_set_ne (Ne.symm hxi)]
  simp only [enR,this]
  exact h1 x y hx hy μ
/-! ### A region that draws its order, of which the end comes in order -/
def noCallB:List Oper->Bool
 | []=>true
 | o::l=>(match o.op with|.call ⟨.value _,_,_⟩=>false|_=>true) && noCallB l
theorem wpQ_still {sh:TypeId->Option (List Leaf)} {ct:Ct} (S:fN P sh) (C:wO P ct) {ops:Array Oper} {K:Kt} {Q:Act->Prop} {w:World} (hw:∀ k,k < E.w.heap.size->w.heap[k]? = E.w.heap[k]?) (H:HR E h) (l:List Oper) (hn:noCallB l=true) :
  ∀ (t:List AV) (a:Act),FR E t a.tmps->a.defers=[]->wpQ P sh ct ops.toList K h l t ->
   (∀ (t':List AV) (a':Act),K .normal t' h->FR E t' a'.tmps->a'.defers=[]->Q a')->wpStill P ops w Q l a:=by
 induction l with
 | nil=>exact fun t a F hd hw hQ=>hQ t a hw F hd
 | cons o l ih =>
  intro t a F hd hk hQ
  simp only [noCallB,Bool.and_eq_true] at hn
  obtain ⟨g1,g2⟩:=qG (ops:=ops) rfl (o:=o) F
  simp only [wpQ] at hk
  have put_defers:∀ d v,(a.put d v).defers=[]:=by
   intro d v
   cases d with
   | none=>exact hd
   | some d=>exact hd
  have hcall:∀ f xs ts,o.op ≠ .call ⟨.value f,xs,ts⟩:=by
   intro f xs ts e
   have:=hn.1
   rw [e] at this
   cases this
  have run:∀ ob v,evO P sh ct t h o.op = .pure ob v->vS t o.op->ob->∀ x,(∀ r,VR E v r->VR E x r)->wpQ P sh ct ops.toList K h l (wW t o.dst x)->o.still P a w (wpStill P ops w Q l):=by
   intro ob v hr hog hob x hx hk
   obtain ⟨r,h1,h2⟩:=op_still S H F hr hob hog hcall
   unfold Oper.still
   rw [h1 w hw]
   exact ⟨rfl,ih hn.2 _ _ (uP F (hx _ h2) o.dst) (put_defers _ _) hk hQ⟩
  have skip:∀ x,wpQ P sh ct ops.toList K h l (wW t o.dst (.opt false x))->wpStill P ops w Q l (a.put o.dst undef):=fun x hk =>
   ih hn.2 _ _ (uP F (.opt_f x) o.dst) (put_defers _ _) hk hQ
  unfold wpStill
  unfold nxtQ at hk
  split at hk
  ·rename_i hg
   rw [if_pos (g1 hg)]
   split at hk
   ·rename_i ob v hr;exact run ob v hr hk.1 hk.2.1 v (fun _ h=>h) hk.2.2
   ·exact hk.elim
  ·rename_i b hg
   rw [g2 b hg]
   split at hk
   ·rename_i ob v hr
    cases b with
    | true=>rw [if_pos rfl];exact run ob v hr (hk.1 rfl).1 (hk.1 rfl).2 _ (fun r h=>.opt_t v r h) hk.2
    | false=>rw [if_neg (by simp)];exact skip _ hk.2
   ·obtain ⟨rfl,hk⟩:=hk
    rw [if_neg (by simp)]
    exact skip _ hk
  ·exact hk.elim
theorem draw_tail {sh:TypeId->Option (List Leaf)} {ct:Ct} (S:fN P sh) (C:wO P ct) (n:Nat) {id:Nat} {l:List Oper} {K:Kt} {t:List AV} (hm:P.follows .mixedOrders=true) (hB:Region.lexTailB .any l.toArray n=true) (hn:noCallB (l.take n)=true)
  (hw:wpQ P sh ct l (kO P l.toArray (l.drop n) K) h (l.take n) t):Mean P (.region id l.toArray true) K t h:=by
 intro E a Q H F hd hQ
 refine wp_region_still_tail n hm hB ?_
 have hS:Same E.w { E.w with drawn:=E.w.drawn+1 }:=⟨rfl,rfl,rfl,Nat.le_refl _,fun _ _=>rfl⟩
 refine wpQ_still (w:={ E.w with drawn:=E.w.drawn+1 }) (K:=kO P l.toArray (l.drop n) K) (ops:=l.toArray) S C (fun _ _=>rfl) H (l.take n) hn t a F hd (by simpa using hw) fun t' a' hk F' hd'=>?_
 obtain ⟨H1,X1⟩:=fP H hS
 exact hk { E with w:={ E.w with drawn:=E.w.drawn+1 } } a' Q H1 (vF (X1.keep H) F') hd' fun e E' a2 t2 h2 hk2 X2 H2 F2 hd2=>hQ e E' a2 t2 h2 hk2 (X1.trans X2) H2 F2 hd2
/-! ### A row of which one cell names an own block -/
theorem gd_set_ne {α:Type} [Inhabited α] {L:List α} {i j:Nat} {a:α} (h:i ≠ j):gd (L.set i a) j=gd L j:=by simp only [gd,List.getD_eq_getElem?_getD,List.getElem?_set_ne h]
theorem gd_set_eq {α:Type} [Inhabited α] {L:List α} {i:Nat} {a:α} (h:i < L.length):gd (L.set i a) i=a:=by simp [gd,h]
section
variable {α:Type} [Inhabited α] {f:α->List AV} {μ:Mu} {e es es2 b b' m i j n n' N:Nat} {L:List α}
theorem wH (c:Nat->Nat->AV) (v:AV) (x y:Nat):upc c i j [v] x y=if x=i/\y=j then v else c x y:=by
 unfold upc
 by_cases h:x=i/\y=j
 ·obtain ⟨rfl,rfl⟩:=h
  simp [zL]
 ·rw [if_neg h,if_neg (fun q=>h ⟨q.1,by have:=q.2.2;simp at this;omega⟩)]
theorem Cv_sl1 (hb:zQ μ b=some b'):Cv μ (.sl b es2 0 n false) (.sl b' es2 0 n false):=by simp only [Cv,hb,true_and,and_self,imp_self]
theorem CvB_focI (hr:∀ a,zX (f a)) (hb:zQ μ b=some b') (hN:L.length=N) (hn:n=n'):CvB μ (.row e es L.length (upc (enR f L) i j [.sl b es2 0 n false])) (some m) (.row e es N (upc (enR f L) i j [.sl b' es2 0 n' false])):=by
 subst hN hn
 simp only [CvB]
 refine ⟨trivial,trivial,Nat.le_refl _,fun x y hx hy=>?_⟩
 rw [wH,wH]
 split
 ·exact Cv_sl1 hb
 ·exact yJ _ (wC (hr _) y)
theorem CvB_focG {C:Nat->Nat->AV} (hr:∀ a,zX (f a)) (hC:∀ x y,x ≠ i->C x y=enR f L x y) (hi:∀ y,y < es->Cv μ (C i y) (C i y)):CvB μ (.row e es n C) (some m) (.row e es n C):=by
 simp only [CvB]
 refine ⟨trivial,trivial,Nat.le_refl _,fun x y hx hy=>?_⟩
 by_cases hx':x=i
 ·subst hx';exact hi y hy
 ·rw [hC x y hx'];exact yJ _ (wC (hr _) y)
theorem CvB_focG2 {C C':Nat->Nat->AV} (hr:∀ a,zX (f a)) (hC:∀ x y,x ≠ i->C x y=enR f L x y) (hC':∀ x y,x ≠ i->C' x y=enR f L x y) (hi:∀ y,y < es->Cv μ (C i y) (C' i y)):CvB μ (.row e es n C) (some m) (.row e es n C'):=by
 simp only [CvB]
 refine ⟨trivial,trivial,Nat.le_refl _,fun x y hx hy=>?_⟩
 by_cases hx':x=i
 ·subst hx';exact hi y hy
 ·rw [hC x y hx',hC' x y hx'];exact yJ _ (wC (hr _) y)
theorem CvB_z {c c':Nat->Nat->AV}:CvB μ (.row e es 0 c) (some m) (.row e es 0 c'):=by
 simp only [CvB]
 exact ⟨trivial,trivial,Nat.le_refl _,fun x y hx=>by omega⟩
theorem RenB_foc {s:Nat} (hr:∀ a,zX (f a)) (hb:rnN 0 s b=b'):RenB s (.row e es N (upc (enR f L) i j [.sl b es2 0 n false])) (.row e es N (upc (enR f L) i j [.sl b' es2 0 n false])):=by
 subst hb
 refine ⟨rfl,rfl,rfl,fun x y hx hy=>?_⟩
 rw [wH,wH]
 split
 ·simp only [ren]
 ·exact dJ _ (wC (hr _) y)
end
end Go.Am

namespace Go.Am
set_option linter.unusedVariables false
set_option linter.unusedSectionVars false
variable {P:Program} {E:Env} {h:List ABlk}
def plc:Value->Option Nat
 | .slice (some ad) _ cap=>bif decide (0 < cap) then some ad.block else none
 | _=>none
def PkV (V:List Value) (k:Nat):Prop:=∃ (x:Nat) (v:Value),V[x]? = some v/\plc v=some k
def nilv:Value:=.slice none 0 0
theorem plc_nilv:plc nilv=none:=rfl
structure ExtP (V:List Value) (E:Env) (h:List ABlk) (V':List Value) (E':Env) (h':List ABlk):Prop where
 os:E'.w.os=E.w.os
 tape:E'.w.tape=E.w.tape
 output:E'.w.output=E.w.output
 σ:∀ (b:Nat) (x:Nat × Nat),E.σ b=some x->E'.σ b=some x
 prot:∀ k,E.prot k->E'.prot k
 size:E.w.heap.size <= E'.w.heap.size
 kind:∀ (k:Nat) cs e,E.w.heap[k]? = some (.cells cs e (0,0))->∃ cs',E'.w.heap[k]? = some (.cells cs' e (0,0))/\cs'.size=cs.size
 frame:∀ k,k < E.w.heap.size->¬ Own E h k->¬ PkV V k->E'.w.heap[k]? = E.w.heap[k]?
 own:∀ k,Own E' h' k ∨ PkV V' k->Own E h k ∨ PkV V k ∨ E.w.heap.size <= k
 len:h.length <= h'.length
 old:∀ b,b < h.length->E'.σ b=E.σ b
 pro:∀ k,E'.prot k->E.prot k ∨ Own E h k ∨ PkV V k ∨ E.w.heap.size <= k
 lo:E'.lo=E.lo
 wr:∀ k,E'.prot k->E.prot k ∨ Wr E'.w k
theorem ExtP.refl (V:List Value) (E:Env) (h:List ABlk):ExtP V E h V E h :=
 ⟨rfl,rfl,rfl,fun _ _ h=>h,fun _ h=>h,Nat.le_refl _,fun k cs e h=>⟨cs,h,rfl⟩,fun _ _ _ _=>rfl,fun _ h=>by rcases h with h|h;exact .inl h;exact .inr (.inl h),Nat.le_refl _,fun _ _=>rfl,fun _ h=>.inl h,rfl,fun _ h=>.inl h⟩
theorem ExtP.trans {V V1 V2:List Value} {E E1 E2:Env} {h h1 h2:List ABlk} (a:ExtP V E h V1 E1 h1) (b:ExtP V1 E1 h1 V2 E2 h2):ExtP V E h V2 E2 h2 where
 os:=b.os.trans a.os
 tape:=b.tape.trans a.tape
 output:=b.output.trans a.output
 σ:=fun x y h=>b.σ _ _ (a.σ _ _ h)
 prot:=fun k h=>b.prot _ (a.prot _ h)
 size:=Nat.le_trans a.size b.size
 kind:=fun k cs e h=>by
  obtain ⟨c1,h1,e1⟩:=a.kind k cs e h
  obtain ⟨c2,h2,e2⟩:=b.kind k c1 e h1
  exact ⟨c2,h2,e2.trans e1⟩
 frame:=fun k hk hn hv=>by
  rw [b.frame k (Nat.lt_of_lt_of_le hk a.size) (fun ho=>?_) (fun ho=>?_),a.frame k hk hn hv]
  ·rcases a.own k (.inl ho) with h|h|h
   ·exact hn h
   ·exact hv h
   ·omega
  ·rcases a.own k (.inr ho) with h|h|h
   ·exact hn h
   ·exact hv h
   ·omega
 own:=fun k h=>by
  rcases b.own k h with h|h|h
  ·exact a.own k (.inl h)
  ·exact a.own k (.inr h)
  ·exact .inr (.inr (Nat.le_trans a.size h))
 len:=Nat.le_trans a.len b.len
 old:=fun i hi=>(b.old i (Nat.lt_of_lt_of_le hi a.len)).trans (a.old i hi)
 pro:=fun k h=>by
  rcases b.pro k h with h|h|h|h
  ·exact a.pro k h
  ·exact .inr (a.own k (.inl h))
  ·exact .inr (a.own k (.inr h))
  ·exact .inr (.inr (.inr (Nat.le_trans a.size h)))
 lo:=b.lo.trans a.lo
 wr:=fun k h=>by
  rcases b.wr k h with h|h
  ·rcases a.wr k h with h|⟨cs,e,h⟩
   ·exact .inl h
   ·obtain ⟨c2,h2,_⟩:=b.kind k cs e h
    exact .inr ⟨c2,e,h2⟩
  ·exact .inr h
theorem Ext.toP (V:List Value) {E E':Env} {h h':List ABlk} (x:Ext E h E' h'):ExtP V E h V E' h' :=
 ⟨x.os,x.tape,x.output,x.σ,x.prot,x.size,x.kind,fun k hk hn _=>x.frame k hk hn,fun k hk=>by
  rcases hk with hk|hk
  ·rcases x.own k hk with h|h
   ·exact .inl h
   ·exact .inr (.inr h)
  ·exact .inr (.inl hk),x.len,x.old,fun k hk=>by
  rcases x.pro k hk with h|h|h
  ·exact .inl h
  ·exact .inr (.inl h)
  ·exact .inr (.inr (.inr h)),x.lo,x.wr⟩
theorem no_PkV {k:Nat}:¬ PkV [] k:=by rintro ⟨x,v,h,_⟩;simp at h
theorem ExtP.nil {V:List Value} {E E':Env} {h h':List ABlk} (x:ExtP [] E h V E' h'):Ext E h E' h' :=
 ⟨x.os,x.tape,x.output,x.σ,x.prot,x.size,x.kind,fun k hk hn=>x.frame k hk hn no_PkV,fun k hk=>by
  rcases x.own k (.inl hk) with h|h|h
  ·exact .inl h
  ·exact absurd h no_PkV
  ·exact .inr h,x.len,x.old,fun k hk=>by
  rcases x.pro k hk with h|h|h|h
  ·exact .inl h
  ·exact .inr (.inl h)
  ·exact absurd h no_PkV
  ·exact .inr (.inr h),x.lo,x.wr⟩
section
variable {α:Type} [Inhabited α] (f:α->List AV) (e:TypeId) (es:Nat)
def qH (E:Env) (h:List ABlk) (v:Value) (l:List α):Prop :=
 ∃ a cap,v = .slice a l.length cap/\l.length <= cap/\cap <= maxLen/\(a=none->cap=0) /\
  (0 < cap->∃ k o cs,a=some ⟨k,o,none⟩/\E.w.heap[k]? = some (.cells cs e (0,0))/\o+cap * es <= cs.size/\¬ Own E h k/\¬ E.prot k /\
   ∀ x y,x < l.length->y < es->∃ u,cs[o+x * es+y]? = some u/\u.oneCell'=true/\VR E (enR f l x y) u)
structure PkOk (E:Env) (h:List ABlk) (V:List Value) (L:List (List α)):Prop where
 len:V.length=L.length
 row:∀ (x:Nat) (v:Value) (l:List α),V[x]? = some v->L[x]? = some l->qH f e es E h v l
 inj:∀ (x x':Nat) (v v':Value) (k:Nat),V[x]? = some v->V[x']? = some v'->plc v=some k->plc v'=some k->x=x'
variable {f e es}
theorem qH.mono' (hr:∀ a,zX (f a)) {E':Env} {h':List ABlk} {v:Value} {l:List α} (hp0:∀ k,E.prot k->E'.prot k/\E'.w.heap[k]? = E.w.heap[k]?)
  (hk:∀ k,plc v=some k->k < E.w.heap.size->¬ Own E h k->¬ E.prot k->E'.w.heap[k]? = E.w.heap[k]? /\ ¬ Own E' h' k/\¬ E'.prot k) (p:qH f e es E h v l) (hlo:∀ k,E'.lo k->E.lo k:=by first|exact fun _ h=>h|assumption):qH f e es E' h' v l:=by
 obtain ⟨a,cap,h1,h2,h3,h4,h5⟩:=p
 refine ⟨a,cap,h1,h2,h3,h4,fun hc=>?_⟩
 obtain ⟨k,o,cs,q1,q2,q3,q4,q5,q6⟩:=h5 hc
 obtain ⟨r1,r2,r3⟩:=hk k (by subst h1 q1;simp [plc,hc]) (yY q2) q4 q5
 refine ⟨k,o,cs,q1,r1.trans q2,q3,r2,r3,fun x y hx hy=>?_⟩
 obtain ⟨u,s1,s2,s3⟩:=q6 x y hx hy
 exact ⟨u,s1,s2,s3.view hp0 (wC (hr _) y)⟩
theorem qH.mono (hr:∀ a,zX (f a)) {E':Env} {h':List ABlk} (hp0:∀ k,E.prot k->E'.prot k/\E'.w.heap[k]? = E.w.heap[k]?) (hw:∀ k,k < E.w.heap.size->¬ Own E h k->E'.w.heap[k]? = E.w.heap[k]?)
  (ho:∀ k,Own E' h' k->Own E h k ∨ E.w.heap.size <= k) (hp:∀ k,E'.prot k->E.prot k ∨ Own E h k ∨ E.w.heap.size <= k) {v:Value} {l:List α} (p:qH f e es E h v l) (hlo:∀ k,E'.lo k->E.lo k:=by first|exact fun _ h=>h|assumption):qH f e es E' h' v l:=by
 refine p.mono' hr hp0 fun k _ hk h1 h2=>⟨hw k hk h1,fun hO=>?_,fun hP=>?_⟩
 ·rcases ho k hO with h|h
  ·exact h1 h
  ·omega
 ·rcases hp k hP with h|h|h
  ·exact h2 h
  ·exact h1 h
  ·omega
theorem PkOk.ext (hr:∀ a,zX (f a)) (H:HR E h) {E':Env} {h':List ABlk} (X:Ext E h E' h') {V:List Value} {L:List (List α)} (p:PkOk f e es E h V L):PkOk f e es E' h' V L :=
 ⟨p.len,fun x v l h1 h2=>(p.row x v l h1 h2).mono hr (fun k hk=>⟨X.prot k hk,X.frame k (H.prot k hk).1 (H.prot k hk).2⟩) X.frame X.own X.pro (fun k h=>by rw [← X.lo];exact h),p.inj⟩
theorem PkOk.sub (hr:∀ a,zX (f a)) {E':Env} {h':List ABlk} (hw:E'.w=E.w) (hp:∀ k,E'.prot k ↔ E.prot k) (ho:∀ k,Own E' h' k->Own E h k) {V:List Value} {L:List (List α)} (p:PkOk f e es E h V L) (hlo:∀ k,E'.lo k->E.lo k:=by first|exact fun _ h=>h|assumption):PkOk f e es E' h' V L :=
 ⟨p.len,fun x v l h1 h2=>(p.row x v l h1 h2).mono hr (fun k hk=>⟨(hp k).2 hk,by rw [hw]⟩) (fun k _ _=>by rw [hw]) (fun k hk=>.inl (ho k hk)) (fun k hk=>.inl ((hp k).1 hk)),p.inj⟩
theorem PkOk.emp:PkOk f e es E h [] []:=⟨rfl,fun x v l h _=>by simp at h,fun x x' v v' k h=>by simp at h⟩

/-! ### Codes that run while rows are parked -/
variable (f e es)
abbrev KtP (α:Type):=List Value->List (List α)->Kt
def kH (P:Program) (V:List Value) (L:List (List α)) (c:Code) (K:KtP α) (t:List AV) (h:List ABlk):Prop :=
 ∀ (E:Env) (a:Act) (Q:Exit->Act->World->Prop),PkOk f e es E h V L->HR E h->FR E t a.tmps->a.defers=[] ->
  (∀ (x:Ex) (E':Env) (a':Act) (t':List AV) (h':List ABlk) (V':List Value) (L':List (List α)),K V' L' x t' h'->PkOk f e es E' h' V' L'->ExtP V E h V' E' h'->HR E' h'->FR E' t' a'.tmps->a'.defers=[]->Q x.ex a' E'.w)->c.wp P Q a E.w
def eI (P:Program) (V:List Value) (L:List (List α)) (ops:Array Oper) (l:List Oper) (K:KtP α) (t:List AV) (h:List ABlk):Prop :=
 ∀ (E:Env) (a:Act) (Q:Exit->Act->World->Prop),PkOk f e es E h V L->HR E h->FR E t a.tmps->a.defers=[] ->
  (∀ (x:Ex) (E':Env) (a':Act) (t':List AV) (h':List ABlk) (V':List Value) (L':List (List α)),K V' L' x t' h'->PkOk f e es E' h' V' L'->ExtP V E h V' E' h'->HR E' h'->FR E' t' a'.tmps->a'.defers=[]->Q x.ex a' E'.w)->wpList P ops Q l a E.w
def kSP (P:Program) (V:List Value) (L:List (List α)) (b:Code) (K:KtP α):Kt
 | .normal,t,h=>kH f e es P V L b K t h
 | .exit id,t,h=>K V L (.exit id) t h
 | .ret,t,h=>K V L .ret t h
 | .goto l,t,h=>K V L (.goto l) t h
def kOP (P:Program) (V:List Value) (L:List (List α)) (ops:Array Oper) (l:List Oper) (K:KtP α):Kt
 | .normal,t,h=>eI f e es P V L ops l K t h
 | .exit id,t,h=>K V L (.exit id) t h
 | .ret,t,h=>K V L .ret t h
 | .goto l,t,h=>K V L (.goto l) t h
variable {f e es}
theorem xY {V:List Value} {L:List (List α)} {b:Code} {K:KtP α} {t:List AV}:kSP f e es P V L b K .normal t h=kH f e es P V L b K t h:=rfl
theorem fC {V:List Value} {L:List (List α)} {ops:Array Oper} {l:List Oper} {K:KtP α} {t:List AV}:kOP f e es P V L ops l K .normal t h=eI f e es P V L ops l K t h:=rfl
theorem frP (hr:∀ a,zX (f a)) {V:List Value} {L:List (List α)} {c:Code} {K:KtP α} {t:List AV} (hm:Mean P c (K V L) t h):kH f e es P V L c K t h:=by
 intro E a Q p H F hd hQ
 exact hm E a Q H F hd fun x E' a' t' h' hk X H' F' hd'=>hQ x E' a' t' h' V L hk (p.ext hr H X) (X.toP V) H' F' hd'
theorem seqPP {V:List Value} {L:List (List α)} {a b:Code} {K:KtP α} {t:List AV} (hm:kH f e es P V L a (fun V' L'=>kSP f e es P V' L' b K) t h):kH f e es P V L (.seq a b) K t h:=by
 intro E ac Q p H F hd hQ
 refine wp_seq (hm E ac _ p H F hd fun x E' a' t' h' V' L' hk p' X H' F' hd'=>?_)
 cases x with
 | normal=>exact hk E' a' Q p' H' F' hd' fun e2 E2 a2 t2 h2 V2 L2 hk2 p2 X2 H2 F2 hd2=>hQ e2 E2 a2 t2 h2 V2 L2 hk2 p2 (X.trans X2) H2 F2 hd2
 | exit id=>exact hQ (.exit id) E' a' t' h' V' L' hk p' X H' F' hd'
 | ret=>exact hQ .ret E' a' t' h' V' L' hk p' X H' F' hd'
 | goto l=>exact hQ (.goto l) E' a' t' h' V' L' hk p' X H' F' hd'
theorem seqP (hr:∀ a,zX (f a)) {V:List Value} {L:List (List α)} {a b:Code} {K:KtP α} {t:List AV} (hm:Mean P a (kSP f e es P V L b K) t h):kH f e es P V L (.seq a b) K t h :=
 seqPP (frP hr hm)
theorem blkP {V:List Value} {L:List (List α)} {id:Nat} {c:Code} {K:KtP α} {t:List AV} (hm:kH f e es P V L c (fun V' L'=>eO id (K V' L')) t h):kH f e es P V L (.block id c) K t h:=by
 intro E ac Q p H F hd hQ
 refine wp_block (hm E ac _ p H F hd fun x E' a' t' h' V' L' hk p' X H' F' hd'=>?_)
 cases x with
 | normal=>exact hQ .normal E' a' t' h' V' L' hk p' X H' F' hd'
 | exit id' =>
  simp only [eO] at hk
  by_cases hid:id'=id
  ·subst hid
   simp only [beq_self_eq_true] at hk
   simp only [Ex.ex,Exit.inBlock,if_true]
   exact hQ .normal E' a' t' h' V' L' hk p' X H' F' hd'
  ·rw [show (id' == id)=false from by simpa using hid] at hk
   simp only [Ex.ex,Exit.inBlock,if_neg hid]
   exact hQ (.exit id') E' a' t' h' V' L' hk p' X H' F' hd'
 | ret=>exact hQ .ret E' a' t' h' V' L' hk p' X H' F' hd'
 | goto l=>exact hQ (.goto l) E' a' t' h' V' L' hk p' X H' F' hd'
theorem regP {V:List Value} {L:List (List α)} {id:Nat} {ops:Array Oper} {K:KtP α} {t:List AV} (hm:eI f e es P V L ops ops.toList K t h):kH f e es P V L (.region id ops false) K t h:=by
 intro E a Q p H F hd hQ
 exact wp_region_list (hm E a Q p H F hd hQ)
theorem endP {V:List Value} {L:List (List α)} {ops:Array Oper} {K:KtP α} {t:List AV} (hm:K V L .normal t h):eI f e es P V L ops [] K t h:=by
 intro E a Q p H F hd hQ
 exact hQ .normal E a t h V L hm p (ExtP.refl _ _ _) H F hd
theorem inP {c:Code} {K:Kt} {t:List AV} (hm:kH f e es P [] [] c (fun _ _=>K) t h):Mean P c K t h:=by
 intro E a Q H F hd hQ
 exact hm E a Q PkOk.emp H F hd fun x E' a' t' h' V' L' hk _ X H' F' hd'=>hQ x E' a' t' h' hk X.nil H' F' hd'
theorem segG {sh:TypeId->Option (List Leaf)} {ct:Ct} (S:fN P sh) (C:wO P ct) {ops:Array Oper} {K:Kt} {rest:List Oper} {Q:Exit->Act->World->Prop}:∀ (l:List Oper) (E:Env) (t:List AV) (h:List ABlk) (a:Act),HR E h->FR E t a.tmps->a.defers=[]->wpO P sh ct ops.toList K l t h ->
  (∀ (E':Env) (a':Act) (t':List AV) (h':List ABlk),K .normal t' h'->Ext E h E' h'->HR E' h'->FR E' t' a'.tmps->a'.defers=[]->wpList P ops Q rest a' E'.w)->wpList P ops Q (l ++ rest) a E.w:=by
 intro l
 induction l with
 | nil=>exact fun E t h a H F hd hw hQ=>hQ E a t h hw (Ext.refl _ _) H F hd
 | cons o l ih =>
  intro E t h a H F hd hw hQ
  obtain ⟨g1,g2⟩:=qG (ops:=ops) rfl (o:=o) F
  simp only [wpO] at hw
  have put_defers:∀ d v,(a.put d v).defers=[]:=by
   intro d v
   cases d with
   | none=>exact hd
   | some d=>exact hd
  have run:∀ ob v h',(evO P sh ct t h o.op).out h=some (ob,v,h')->vS t o.op->ob->∀ x,(∀ E' r,VR E' v r->VR E' x r)->wpO P sh ct ops.toList K l (wW t o.dst x) h'->o.wp P a E.w (wpList P ops Q (l ++ rest)) Q:=by
   intro ob v h' hr hog hob x hx hw
   refine dD S C H F hr hob hog fun r E' X H' hv=>?_
   exact ih E' _ h' _ H' (uP (vF (X.keep H) F) (hx _ _ hv) o.dst) (put_defers _ _) hw fun E2 a' t' h2 hk X2 H2 F2 hd2=>hQ E2 a' t' h2 hk (X.trans X2) H2 F2 hd2
  have skip:∀ x,wpO P sh ct ops.toList K l (wW t o.dst (.opt false x)) h->wpList P ops Q (l ++ rest) (a.put o.dst undef) E.w:=by
   intro x hw
   exact ih E _ h _ H (uP F (.opt_f x) o.dst) (put_defers _ _) hw hQ
  have optT:∀ v E' r,VR E' v r->VR E' (.opt true v) r:=fun v E' r h=>.opt_t v r h
  rw [List.cons_append]
  unfold wpList
  unfold nxt at hw
  split at hw
  ·rename_i hg
   rw [if_pos (g1 hg)]
   refine .inl ?_
   split at hw
   ·rename_i ob v hr;obtain ⟨q1,q2,q3⟩:=hw;exact run ob v h (by rw [hr];rfl) q1 q2 v (fun _ _ h=>h) q3
   ·rename_i ob v h' hr;obtain ⟨q1,q2,q3⟩:=hw;exact run ob v h' (by rw [hr];rfl) q1 q2 v (fun _ _ h=>h) q3
   ·exact hw.elim
  ·rename_i b hg
   rw [g2 b hg]
   split at hw
   ·rename_i ob v hr
    obtain ⟨q1,q3⟩:=hw
    cases b with
    | true=>rw [if_pos rfl];exact .inl (run ob v h (by rw [hr];rfl) (q1 rfl).1 (q1 rfl).2 _ (optT v) q3)
    | false=>rw [if_neg (by simp)];exact skip _ q3
   ·rename_i ob v h' hr
    obtain ⟨q1,q3⟩:=hw
    cases b with
    | true=>rw [if_pos rfl];exact .inl (run ob v h' (by rw [hr];rfl) (q1 rfl).1 (q1 rfl).2.1 _ (optT v) (q1 rfl).2.2)
    | false=>rw [if_neg (by simp)];exact skip _ (q3 rfl)
   ·obtain ⟨rfl,q3⟩:=hw
    rw [if_neg (by simp)]
    exact skip _ q3
  ·exact hw.elim
theorem cutPO {sh:TypeId->Option (List Leaf)} {ct:Ct} (S:fN P sh) (C:wO P ct) (hr:∀ a,zX (f a)) {V:List Value} {L:List (List α)} (n:Nat) {ops:Array Oper} {l:List Oper} {K:KtP α} {t:List AV}
  (hw:wpO P sh ct ops.toList (kOP f e es P V L ops (l.drop n) K) (l.take n) t h):eI f e es P V L ops l K t h:=by
 intro E a Q p H F hd hQ
 rw [← List.take_append_drop n l]
 exact segG S C (l.take n) E t h a H F hd hw fun E' a' t' h' hk X H' F' hd'=>hk E' a' Q (p.ext hr H X) H' F' hd' fun x E2 a2 t2 h2 V2 L2 hk2 p2 X2 H2 F2 hd2=>hQ x E2 a2 t2 h2 V2 L2 hk2 p2 ((X.toP V).trans X2) H2 F2 hd2
/-! ### A row is taken up, and laid down again -/
theorem HR_row {b:Nat} {eB:TypeId} {esB N:Nat} {C C':Nat->Nat->AV} (H:HR E h) (hb:h[b]? = some (.row eB esB N C))
  (hc:∀ k o cs,E.σ b=some (k,o)->E.w.heap[k]? = some (.cells cs eB (0,0))->∀ x y v,x < N->y < esB->cs[o+x * esB+y]? = some v->v.oneCell'=true->VR E (C x y) v->VR E (C' x y) v) :
  HR E (h.set b (.row eB esB N C'))/\∀ k,Own E (h.set b (.row eB esB N C')) k ↔ Own E h k:=by
 have hlt:b < h.length:=by
  rcases Nat.lt_or_ge b h.length with h'|h'
  ·exact h'
  ·rw [List.getElem?_eq_none h'] at hb;cases hb
 have get:∀ {i:Nat} {x:ABlk},(h.set b (.row eB esB N C'))[i]? = some x->(i=b/\x = .row eB esB N C') ∨ (i ≠ b/\h[i]? = some x):=by
  intro i x hi
  rw [List.getElem?_set] at hi
  by_cases hib:b=i
  ·rw [if_pos hib,if_pos hlt] at hi;exact .inl ⟨hib.symm,(Option.some.inj hi).symm⟩
  ·rw [if_neg hib] at hi;exact .inr ⟨fun q=>hib q.symm,hi⟩
 have nd:∀ {i:Nat} {x:ABlk},(h.set b (.row eB esB N C'))[i]? = some x->x ≠ .dead->∃ x',h[i]? = some x'/\x' ≠ .dead:=by
  intro i x hi hx
  rcases get hi with ⟨rfl,rfl⟩|⟨_,h1⟩
  ·exact ⟨_,hb,fun q=>by cases q⟩
  ·exact ⟨x,h1,hx⟩
 have own:∀ k,Own E (h.set b (.row eB esB N C')) k ↔ Own E h k:=by
  intro k
  constructor
  ·rintro ⟨i,x,o,h1,h2,h3⟩
   obtain ⟨x',q1,q2⟩:=nd h1 h2
   exact ⟨i,x',o,q1,q2,h3⟩
  ·rintro ⟨i,x,o,h1,h2,h3⟩
   by_cases hib:b=i
   ·subst hib
    exact ⟨b,.row eB esB N C',o,by rw [List.getElem?_set,if_pos rfl,if_pos hlt],(fun q=>by cases q),h3⟩
   ·exact ⟨i,x,o,by rw [List.getElem?_set,if_neg hib];exact h1,h2,h3⟩
 refine ⟨⟨fun i x hi=>?_,fun i i' x x' k o o' h1 h2 h3 h4 h5 h6=>?_,fun k hk=>⟨(H.prot k hk).1,fun q=>(H.prot k hk).2 ((own k).1 q)⟩,fun i hi=>H.fresh i (by rw [List.length_set] at hi;exact hi),H.lo⟩,own⟩
 ·rcases get hi with ⟨rfl,rfl⟩|⟨_,h1⟩
  ·have hB:=H.blk i _ hb
   unfold BR at hB ⊢
   cases hs:E.σ i with
   | none=>rw [hs] at hB;exact hB
   | some p =>
    rw [hs] at hB
    obtain ⟨cs,q1,q2,q3⟩:=hB
    exact ⟨cs,q1,q2,fun x y hx hy=>by obtain ⟨v,r1,r2,r3⟩:=q3 x y hx hy;exact ⟨v,r1,r2,hc p.1 p.2 cs hs q1 x y v hx hy r1 r2 r3⟩⟩
  ·exact H.blk i x h1
 ·obtain ⟨y,q1,q2⟩:=nd h1 h2
  obtain ⟨y',q3,q4⟩:=nd h3 h4
  exact H.inj i i' y y' k o o' q1 q2 q3 q4 h5 h6
theorem HR_own {x:ABlk} {p:Option (Nat × Nat)} (H:HR E h) (hp:∀ k o,p=some (k,o)->k < E.w.heap.size/\¬ Own E h k/\¬ E.prot k) (hx:BR { E with σ:=upd E.σ h.length p } h.length x) :
  HR { E with σ:=upd E.σ h.length p } (h ++ [x])/\Keep E { E with σ:=upd E.σ h.length p } /\ ∀ k,Own { E with σ:=upd E.σ h.length p } (h ++ [x]) k->Own E h k ∨ ∃ o,p=some (k,o):=by
 have K:Keep E { E with σ:=upd E.σ h.length p }:=⟨(fun b y hb=>by
  show upd E.σ h.length p b=some y
  rw [jW,hb]
  rintro rfl
  rw [H.fresh _ (Nat.le_refl _)] at hb
  cases hb),fun _ h=>h,fun _ _=>rfl,fun k cs e h=>⟨cs,h,rfl⟩,rfl⟩
 have hσ:∀ b,b < h.length->upd E.σ h.length p b=E.σ b:=fun b hb=>jW (by omega)
 have hnew:upd E.σ h.length p h.length=p:=vP _ _ _
 have own:∀ k,Own { E with σ:=upd E.σ h.length p } (h ++ [x]) k->Own E h k ∨ ∃ o,p=some (k,o):=by
  rintro k ⟨b,y,o,h1,h2,h3⟩
  have h3:upd E.σ h.length p b=some (k,o):=h3
  rcases getElem?_snoc h1 with ⟨hb,h1⟩|⟨rfl,rfl⟩
  ·rw [hσ b hb] at h3;exact .inl ⟨b,y,o,h1,h2,h3⟩
  ·rw [hnew] at h3;exact .inr ⟨o,h3⟩
 refine ⟨⟨fun b y hb=>?_,fun b b' y y' k o o' h1 h2 h3 h4 h5 h6=>?_,fun k hk=>?_,fun b hb=>?_,H.lo⟩,K,own⟩
 ·rcases getElem?_snoc hb with ⟨hl,hb⟩|⟨rfl,rfl⟩
  ·exact (H.blk b y hb).mono K (hσ b hl) fun k o hk=>rfl
  ·exact hx
 ·have h5:upd E.σ h.length p b=some (k,o):=h5
  have h6:upd E.σ h.length p b'=some (k,o'):=h6
  rcases getElem?_snoc h1 with ⟨l1,g1⟩|⟨e1,e1'⟩<;>rcases getElem?_snoc h3 with ⟨l3,g3⟩|⟨e3,e3'⟩
  ·rw [hσ b l1] at h5;rw [hσ b' l3] at h6;exact H.inj b b' y y' k o o' g1 h2 g3 h4 h5 h6
  ·rw [hσ b l1] at h5;rw [e3,hnew] at h6;exact absurd ⟨b,y,o,g1,h2,h5⟩ (hp k o' h6).2.1
  ·rw [hσ b' l3] at h6;rw [e1,hnew] at h5;exact absurd ⟨b',y',o',g3,h4,h6⟩ (hp k o h5).2.1
  ·rw [e1,e3]
 ·obtain ⟨h1,h2⟩:=H.prot k hk
  refine ⟨h1,fun ho=>?_⟩
  rcases own k ho with h|⟨o,h⟩
  ·exact h2 h
  ·exact (hp k o h).2.2 hk
 ·rw [List.length_append,List.length_singleton] at hb
  exact (jW (by omega)).trans (H.fresh b (by omega))
theorem PkV_set {V:List Value} {i k:Nat} {v:Value} (h:PkV (V.set i v) k):PkV V k ∨ plc v=some k:=by
 obtain ⟨x,u,h1,h2⟩:=h
 rw [List.getElem?_set] at h1
 by_cases hx:i=x
 ·rw [if_pos hx] at h1
  split at h1
  ·cases h1;exact .inr h2
  ·cases h1
 ·rw [if_neg hx] at h1;exact .inl ⟨x,u,h1,h2⟩
theorem PkOk.set {V:List Value} {L:List (List α)} {i:Nat} {v:Value} {l:List α} {E':Env} {h':List ABlk} (p:PkOk f e es E h V L) (hi:qH f e es E' h' v l)
  (ho:∀ x u m,x ≠ i->V[x]? = some u->L[x]? = some m->qH f e es E' h' u m) (hd:∀ x u k,x ≠ i->V[x]? = some u->plc u=some k->plc v ≠ some k):PkOk f e es E' h' (V.set i v) (L.set i l):=by
 refine ⟨by rw [List.length_set,List.length_set];exact p.len,fun x u m h1 h2=>?_,fun x x' u u' k h1 h2 h3 h4=>?_⟩
 ·rw [List.getElem?_set] at h1 h2
  by_cases hx:i=x
  ·rw [if_pos hx] at h1 h2
   split at h1
   ·split at h2
    ·cases h1;cases h2;exact hi
    ·cases h2
   ·cases h1
  ·rw [if_neg hx] at h1 h2;exact ho x u m (fun q=>hx q.symm) h1 h2
 ·rw [List.getElem?_set] at h1 h2
  by_cases hx:i=x<;>by_cases hx':i=x'
  ·exact hx.symm.trans hx'
  ·rw [if_pos hx] at h1;rw [if_neg hx'] at h2
   split at h1
   ·cases h1;exact absurd h3 (hd x' u' k (fun q=>hx' q.symm) h2 h4)
   ·cases h1
  ·rw [if_neg hx] at h1;rw [if_pos hx'] at h2
   split at h2
   ·cases h2;exact absurd h4 (hd x u k (fun q=>hx q.symm) h1 h3)
   ·cases h2
  ·rw [if_neg hx] at h1;rw [if_neg hx'] at h2;exact p.inj x x' u u' k h1 h2 h3 h4
theorem qH.nil:qH f e es E h nilv ([]:List α):=⟨none,0,rfl,Nat.le_refl _,Nat.zero_le _,fun _=>rfl,fun h=>absurd h (Nat.lt_irrefl _)⟩
theorem unparkP (hr:∀ a,zX (f a)) {V:List Value} {L:List (List α)} {c:Code} {K:KtP α} {t:List AV} (i j B:Nat) {l:List α} {eB:TypeId} {esB N:Nat} {C:Nat->Nat->AV} (hi:L[i]? = some l)
  (hB:h[B]? = some (.row eB esB N C)) (hC:∀ v,V[i]? = some v->C i j = .val v)
  (hm:kH f e es P (V.set i nilv) (L.set i []) c K t ((h ++ [ABlk.row e es l.length (enR f l)]).set B (.row eB esB N (upc C i j [.sl h.length es 0 l.length false])))):kH f e es P V L c K t h:=by
 intro E a Q p H F hd hQ
 have hlt:i < V.length:=by
  rw [p.len]
  rcases Nat.lt_or_ge i L.length with h'|h'
  ·exact h'
  ·rw [List.getElem?_eq_none h'] at hi;cases hi
 have hv:V[i]? = some V[i]:=List.getElem?_eq_getElem hlt
 generalize V[i]=v at hv
 obtain ⟨a0,cap,hv0,h2,h3,h4,h5⟩:=p.row i v l hv hi
 have ⟨q,hq1,hq2,hq3⟩:∃ q:Option (Nat × Nat),(∀ k o,q=some (k,o)->k < E.w.heap.size/\¬ Own E h k/\¬ E.prot k/\plc v=some k) /\
   (0 < cap->∃ k o cs,q=some (k,o)/\a0=some ⟨k,o,none⟩/\E.w.heap[k]? = some (.cells cs e (0,0))/\o+cap * es <= cs.size) /\
   (match q with|none=>l.length=0|some (k,o)=>∃ cs,E.w.heap[k]? = some (.cells cs e (0,0))/\o+l.length * es <= cs.size/\∀ x y,x < l.length->y < es->∃ u,cs[o+x * es+y]? = some u/\u.oneCell'=true/\VR E (enR f l x y) u):=by
  by_cases hc:0 < cap
  ·obtain ⟨k,o,cs,q1,q2,q3,q4,q5,q6⟩:=h5 hc
   refine ⟨some (k,o),fun k' o' h=>?_,fun _=>⟨k,o,cs,rfl,q1,q2,q3⟩,cs,q2,Nat.le_trans (Nat.add_le_add_left (Nat.mul_le_mul_right _ h2) _) q3,q6⟩
   cases h
   exact ⟨yY q2,q4,q5,by subst hv0 q1;simp [plc,hc]⟩
  ·exact ⟨none,fun k o h=>(by cases h),fun h=>absurd h hc,(by show l.length=0;omega)⟩
 have hbx:BR { E with σ:=upd E.σ h.length q } h.length (.row e es l.length (enR f l)):=by
  unfold BR
  show (match upd E.σ h.length q h.length with|none=>_|some (k,o)=>_)
  rw [vP]
  cases q with
  | none=>exact hq3
  | some p0 =>
   obtain ⟨cs,r1,r2,r3⟩:=hq3
   exact ⟨cs,r1,r2,fun x y hx hy=>by obtain ⟨u,s1,s2,s3⟩:=r3 x y hx hy;exact ⟨u,s1,s2,VR.view (E:=E) (E':={ E with σ:=upd E.σ h.length (some p0) }) (fun k hk=>⟨hk,rfl⟩) s3 (wC (hr _) y)⟩⟩
 obtain ⟨H1,K1,o1⟩:=HR_own (x:=.row e es l.length (enR f l)) H (fun k o h=>⟨(hq1 k o h).1,(hq1 k o h).2.1,(hq1 k o h).2.2.1⟩) hbx
 have hBl:B < h.length:=by
  rcases Nat.lt_or_ge B h.length with h'|h'
  ·exact h'
  ·rw [List.getElem?_eq_none h'] at hB;cases hB
 have hB1:(h ++ [.row e es l.length (enR f l)])[B]? = some (.row eB esB N C):=by rw [List.getElem?_append_left hBl];exact hB
 obtain ⟨H2,o2⟩:=HR_row (C':=upc C i j [.sl h.length es 0 l.length false]) H1 hB1 fun k o cs _ _ x y u hx hy _ hu hV=>by
  rw [wH]
  split
  ·rename_i hxy
   obtain ⟨rfl,rfl⟩:=hxy
   rw [hC v hv] at hV
   cases hV
   subst hv0
   refine .sl h.length es 0 l.length false a0 cap h2 h3 (fun q=>by cases q) h4 fun hc=>?_
   obtain ⟨k,o,cs,r1,r2,r3,r4⟩:=hq2 hc
   exact ⟨k,o,cs,e,by show upd E.σ h.length q h.length=_;rw [vP];exact r1,by rw [Nat.zero_mul,Nat.add_zero];exact r2,r3,by rw [Nat.zero_mul,Nat.add_zero];exact r4⟩
  ·exact hV
 have own:∀ k,Own { E with σ:=upd E.σ h.length q } ((h ++ [ABlk.row e es l.length (enR f l)]).set B (.row eB esB N (upc C i j [.sl h.length es 0 l.length false]))) k->Own E h k ∨ plc v=some k:=by
  intro k hk
  rcases o1 k ((o2 k).1 hk) with h|⟨o,h⟩
  ·exact .inl h
  ·exact .inr (hq1 k o h).2.2.2
 have hp:PkOk f e es { E with σ:=upd E.σ h.length q } ((h ++ [ABlk.row e es l.length (enR f l)]).set B (.row eB esB N (upc C i j [.sl h.length es 0 l.length false]))) (V.set i nilv) (L.set i []) :=
  p.set qH.nil (fun x u m hx hu hm=>qH.mono' (E:=E) (h:=h) hr (fun k hk=>⟨hk,rfl⟩) (fun k hk _ q4 q5=>⟨rfl,fun hO=>by
   rcases own k hO with h|h
   ·exact q4 h
   ·exact hx (p.inj x i u v k hu hv hk h),q5⟩) (p.row x u m hu hm)) (fun x u k _ _ _=>by rw [plc_nilv];exact fun q=>by cases q)
 have X:ExtP V E h (V.set i nilv) { E with σ:=upd E.σ h.length q } ((h ++ [ABlk.row e es l.length (enR f l)]).set B (.row eB esB N (upc C i j [.sl h.length es 0 l.length false]))) :=
  ⟨rfl,rfl,rfl,K1.σ,K1.prot,Nat.le_refl _,K1.kind,fun _ _ _ _=>rfl,(fun k hk=>by
   rcases hk with hk|hk
   ·rcases own k hk with h|h
    ·exact .inl h
    ·exact .inr (.inl ⟨i,v,hv,h⟩)
   ·rcases PkV_set hk with h|h
    ·exact .inr (.inl h)
    ·rw [plc_nilv] at h;cases h),(by rw [List.length_set,List.length_append];omega),fun b hb=>jW (by omega),fun k hk=>.inl hk,rfl,fun k hk=>.inl hk⟩
 exact hm { E with σ:=upd E.σ h.length q } a Q hp H2 (vF K1 F) hd fun x E' a' t' h' V' L' hk p' X' H' F' hd'=>hQ x E' a' t' h' V' L' hk p' (X.trans X') H' F' hd'
theorem park_end (hr:∀ a,zX (f a)) {V0 V:List Value} {L:List (List α)} {E0:Env} {h0 Hb:List ABlk} {t:List AV} {vs:Array Value} {i j B:Nat} {l:List α} {eB:TypeId} {esB N:Nat} {CU:Nat->Nat->AV}
  (H0:HR E0 h0) (H:HR E (Hb ++ [ABlk.row e es l.length (enR f l)])) (X:ExtP V0 E0 h0 V E (Hb ++ [ABlk.row e es l.length (enR f l)])) (hn:h0.length <= Hb.length) (p:PkOk f e es E (Hb ++ [ABlk.row e es l.length (enR f l)]) V L) (hL:i < L.length)
  (hB:Hb[B]? = some (.row eB esB N CU)) (hU:CU i j = .sl Hb.length es 0 l.length false) (hi:i < N) (hj:j < esB)
  (hnr:∀ C,(∀ x y,x < N->y < esB->nr Hb.length (C x y))->nrH Hb.length (Hb.set B (.row eB esB N C))) (hnU:∀ x y,¬ (x=i/\y=j)->x < N->y < esB->nr Hb.length (CU x y)) (F:FR E t vs) (ht:nrL Hb.length t) :
  ∃ v E',E'.w=E.w/\HR E' (Hb.set B (.row eB esB N (fun x y=>if x=i/\y=j then .val v else CU x y)))/\FR E' t vs/\ExtP V0 E0 h0 (V.set i v) E' (Hb.set B (.row eB esB N (fun x y=>if x=i/\y=j then .val v else CU x y))) /\
   PkOk f e es E' (Hb.set B (.row eB esB N (fun x y=>if x=i/\y=j then .val v else CU x y))) (V.set i v) (L.set i l):=by
 have hBl:B < Hb.length:=by
  rcases Nat.lt_or_ge B Hb.length with h'|h'
  ·exact h'
  ·rw [List.getElem?_eq_none h'] at hB;cases hB
 have hB1:(Hb ++ [ABlk.row e es l.length (enR f l)])[B]? = some (.row eB esB N CU):=by rw [List.getElem?_append_left hBl];exact hB
 have hl1:(Hb ++ [ABlk.row e es l.length (enR f l)])[Hb.length]? = some (.row e es l.length (enR f l)):=by simp
 have hb:=H.blk B _ hB1
 unfold BR at hb
 cases hs:E.σ B with
 | none=>rw [hs] at hb;simp only at hb;omega
 | some p0 =>
 rw [hs] at hb
 obtain ⟨cs,q1,q2,q3⟩:=hb
 obtain ⟨v,r1,r2,r3⟩:=q3 i j hi hj
 rw [hU] at r3
 cases r3 with
 | sl _ _ _ _ _ a cap g1 g2 g3 g4 g5 =>
 obtain ⟨H1,o1⟩:=HR_row (C':=fun x y=>if x=i/\y=j then .val (.slice a l.length cap) else CU x y) H hB1 fun k o cs' hs' hk' x y u hx hy hu h1 hV=>by
  show VR E (if x=i/\y=j then _ else _) u
  split
  ·rename_i hxy
   obtain ⟨rfl,rfl⟩:=hxy
   rw [hs] at hs';cases hs'
   rw [q1] at hk';cases hk'
   rw [r1] at hu;cases hu
   exact .val _ h1
  ·exact hV
 rw [List.set_append_left _ _ hBl] at H1 o1
 have hlen:(Hb.set B (.row eB esB N (fun x y=>if x=i/\y=j then .val (.slice a l.length cap) else CU x y))).length=Hb.length:=List.length_set ..
 have hnr1:nrH (Hb.set B (.row eB esB N (fun x y=>if x=i/\y=j then .val (.slice a l.length cap) else CU x y))).length (Hb.set B (.row eB esB N (fun x y=>if x=i/\y=j then .val (.slice a l.length cap) else CU x y))):=by
  rw [hlen]
  refine hnr _ fun x y hx hy=>?_
  by_cases hxy:x=i/\y=j
  ·simp only [hxy,and_self,if_true,nr]
  ·simp only [hxy,if_false];exact hnU x y hxy hx hy
 have H2:=H1.cut hnr1
 rw [hlen] at H2
 generalize hG:Hb.set B (.row eB esB N (fun x y=>if x=i/\y=j then .val (.slice a l.length cap) else CU x y))=G at *
 have own:∀ k,Own (E.cut Hb.length) G k->Own E (Hb ++ [ABlk.row e es l.length (enR f l)]) k/\∃ b x o,b < Hb.length/\(Hb ++ [ABlk.row e es l.length (enR f l)])[b]? = some x/\x ≠ .dead/\E.σ b=some (k,o):=by
  rintro k ⟨b,x,o,h1,h2,h3⟩
  have hbl:b < G.length:=by
   rcases Nat.lt_or_ge b G.length with h'|h'
   ·exact h'
   ·rw [List.getElem?_eq_none h'] at h1;cases h1
  rw [hlen] at hbl
  have h3':E.σ b=some (k,o):=by rw [← jJ hbl];exact h3
  have hO:Own E (Hb ++ [ABlk.row e es l.length (enR f l)]) k:=(o1 k).1 ⟨b,x,o,by rw [List.getElem?_append_left (by rw [hlen];exact hbl)];exact h1,h2,h3'⟩
  refine ⟨hO,b,?_⟩
  by_cases hbB:b=B
  ·subst hbB;exact ⟨_,o,hbl,hB1,(fun q=>by cases q),h3'⟩
  ·refine ⟨x,o,hbl,?_,h2,h3'⟩
   rw [← hG,List.getElem?_set,if_neg (fun q=>hbB q.symm)] at h1
   rw [List.getElem?_append_left hbl];exact h1
 have notown:∀ k o,E.σ Hb.length=some (k,o)->¬ Own (E.cut Hb.length) G k:=by
  intro k o hk hO
  obtain ⟨_,b,x,o',hbl,hx,hx0,hσ⟩:=own k hO
  have:=H.inj b Hb.length x _ k o' o hx hx0 hl1 (fun q=>by cases q) hσ hk
  omega
 have isown:∀ k o,E.σ Hb.length=some (k,o)->Own E (Hb ++ [ABlk.row e es l.length (enR f l)]) k:=fun k o hk=>⟨Hb.length,_,o,hl1,(fun q=>by cases q),hk⟩
 have plcown:∀ k,plc (.slice a l.length cap)=some k->Own E (Hb ++ [ABlk.row e es l.length (enR f l)]) k:=by
  intro k hk
  by_cases hc:0 < cap
  ·obtain ⟨k',o',cs',e',s1,s2,_,_⟩:=g5 hc
   subst s2
   simp only [plc,hc,decide_true,cond_true,Option.some.injEq] at hk
   subst hk
   exact isown _ _ s1
  ·cases a with
   | none=>cases hk
   | some ad=>simp [plc,hc] at hk
 refine ⟨.slice a l.length cap,E.cut Hb.length,rfl,by rw [hG];exact H2,⟨F.1,fun x y u h1 h2=>(F.2 x y u h1 h2).cut (cQ ht h1)⟩,?_,?_⟩
 ·rw [hG]
  refine ⟨X.os,X.tape,X.output,fun b x hb=>?_,X.prot,X.size,X.kind,X.frame,fun k hk=>?_,by rw [hlen];exact hn,fun b hb=>(jJ (by omega)).trans (X.old b hb),X.pro,X.lo,X.wr⟩
  ·have hlt:b < h0.length:=by
    rcases Nat.lt_or_ge b h0.length with h'|h'
    ·exact h'
    ·rw [H0.fresh b h'] at hb;cases hb
   rw [jJ (by omega)];exact X.σ b x hb
  ·rcases hk with hk|hk
   ·exact X.own k (.inl (own k hk).1)
   ·rcases PkV_set hk with h|h
    ·exact X.own k (.inr h)
    ·exact X.own k (.inl (plcown k h))
 ·rw [hG]
  refine p.set ?_ (fun x u m hx hu hm=>qH.mono' (E:=E) (h:=Hb ++ [ABlk.row e es l.length (enR f l)]) hr (fun k hk=>⟨hk,rfl⟩) (fun k hk _ q4 q5=>⟨rfl,fun hO=>q4 (own k hO).1,q5⟩) (p.row x u m hu hm)) (fun x u k hx hu hk hv=>?_)
  ·refine ⟨a,cap,rfl,g1,g2,g4,fun hc=>?_⟩
   obtain ⟨k',o',cs',e',s1,s2,s3,s4⟩:=g5 hc
   have hb2:=H.blk Hb.length _ hl1
   unfold BR at hb2
   rw [s1] at hb2
   obtain ⟨cs2,u1,u2,u3⟩:=hb2
   have u1':E.w.heap[k']? = some (.cells cs2 e (0,0)):=u1
   rw [s3] at u1';simp only [Option.some.injEq,Obj.cells.injEq,and_true] at u1';obtain ⟨rfl,rfl⟩:=u1'
   refine ⟨k',o',cs',by rw [s2,Nat.zero_mul,Nat.add_zero],s3,by rw [Nat.zero_mul,Nat.add_zero] at s4;exact s4,notown k' o' s1,fun q=>(H.prot k' q).2 (isown k' o' s1),fun x y hx hy=>?_⟩
   obtain ⟨u,w1,w2,w3⟩:=u3 x y hx hy
   exact ⟨u,w1,w2,VR.view (E:=E) (E':=E.cut Hb.length) (fun k hk=>⟨hk,rfl⟩) w3 (wC (hr _) y)⟩
  ·have hO:=plcown k hv
   have hlt:x < L.length:=by
    rw [← p.len]
    rcases Nat.lt_or_ge x V.length with h'|h'
    ·exact h'
    ·rw [List.getElem?_eq_none h'] at hu;cases hu
   obtain ⟨a1,cap1,t1,_,_,_,t5⟩:=p.row x u _ hu (List.getElem?_eq_getElem hlt)
   by_cases hc:0 < cap1
   ·obtain ⟨k1,o1',cs1,t6,_,_,t7,_⟩:=t5 hc
    subst t1 t6
    simp only [plc,hc,decide_true,cond_true,Option.some.injEq] at hk
    subst hk
    exact t7 hO
   ·subst t1
    cases a1 with
    | none=>cases hk
    | some ad=>simp [plc,hc] at hk
theorem cut_meanP (hr:∀ a,zX (f a)) {n:Nat} {t t2:List AV} {h0 h2:List ABlk} {E0:Env} {V0 V:List Value} {L:List (List α)} (hn:h0.length=n) (H0:HR E0 h0) (hs:qR n t h t2 h2) (H:HR E h) {vs:Array Value} (F:FR E t vs) (X:ExtP V0 E0 h0 V E h) (p:PkOk f e es E h V L) :
  ∃ E',E'.w=E.w/\HR E' h2/\FR E' t2 vs/\ExtP V0 E0 h0 V E' h2/\PkOk f e es E' h2 V L:=by
 subst hn
 obtain ⟨fz,ho,μ,c1,c2,c3,c4⟩:=hs
 obtain ⟨H1,X1⟩:=fz_HR H ho.2
 have F1:=fz_FR H F ho.1
 have p1:=p.ext hr H X1
 have X2:=X.trans (X1.toP V)
 have hid:∀ b,b < h0.length->zQ μ b=some b:=fun b hb=>by have:=idM_get _ _ _ c4 b hb;rwa [Nat.zero_add] at this
 have hσ:∀ b,b < h0.length->((E.fz h fz).via μ).σ b=(E.fz h fz).σ b:=fun b hb=>by show (zQ μ b).bind (E.fz h fz).σ=_;rw [hid b hb];rfl
 obtain ⟨Hv,hown⟩:=via_HR H1 c2 c3
 refine ⟨(E.fz h fz).via μ,rfl,Hv,via_FR F1 c1,⟨X2.os,X2.tape,X2.output,fun b x hb=>?_,X2.prot,X2.size,X2.kind,X2.frame,fun k hk=>?_,?_,fun b hb=>(hσ b hb).trans (X2.old b hb),X2.pro,X2.lo,X2.wr⟩,PkOk.sub (E:=E.fz h fz) (h:=fzH h fz) (E':=(E.fz h fz).via μ) hr rfl (fun _=>Iff.rfl) hown p1⟩
 ·have hlt:b < h0.length:=by
   rcases Nat.lt_or_ge b h0.length with h'|h'
   ·exact h'
   ·rw [H0.fresh b h'] at hb;cases hb
  rw [hσ b hlt];exact X2.σ b x hb
 ·rcases hk with hk|hk
  ·exact X2.own k (.inl (hown k hk))
  ·exact X2.own k (.inr hk)
 ·rw [(CvH_get c2).1];exact idM_len _ _ _ c4
section
variable (f e es)
def kLP (id n:Nat) {S A R:Type} (j:Nat) (o:Lp S (A ⊕ R)) (T:S->List AV) (Hb:S->(Nat->Nat->AV)->List ABlk) (N:S->Nat) (esB:Nat) (CC:S->List Value->Nat->Nat->AV) (LL:S->List (List α)) (M:Nat) (TB:A->List AV) (HB:A->List Value->List ABlk) (LB:A->List (List α)) (K:KtP α):KtP α:=fun V L x t h=>match x with
 | .normal=>∃ s' i l CU,o = .next s'/\i < L.length/\i < N s'/\LL s'=L.set i l/\CU i j = .sl M es 0 l.length false/\(∀ v x y,x < N s'->y < esB->CC s' (V.set i v) x y=if x=i/\y=j then .val v else CU x y)/\(∀ x y,¬ (x=i/\y=j)->x < N s'->y < esB->nr M (CU x y))/\qR n t h (T s') (Hb s' CU ++ [ABlk.row e es l.length (enR f l)])
 | .exit id'=>bif id' == id then ∃ a,o = .done (.inl a)/\L=LB a/\qR n t h (TB a) (HB a V) else K V L (.exit id') t h
 | .ret=>K V L .ret t h
 | .goto l=>K V L (.goto l) t h
end
theorem kLP_exit {id id' n:Nat} {S A R:Type} {j:Nat} {o:Lp S (A ⊕ R)} {T:S->List AV} {Hb:S->(Nat->Nat->AV)->List ABlk} {N:S->Nat} {esB:Nat} {CC:S->List Value->Nat->Nat->AV} {LL:S->List (List α)} {M:Nat} {TB:A->List AV} {HB:A->List Value->List ABlk} {LB:A->List (List α)} {K:KtP α} {V:List Value} {L:List (List α)} {t:List AV} :
  kLP f e es id n j o T Hb N esB CC LL M TB HB LB K V L (.exit id') t h=bif id' == id then (∃ a,o = .done (.inl a)/\L=LB a/\qR n t h (TB a) (HB a V)) else K V L (.exit id') t h:=rfl
theorem loop_denP (hr:∀ a,zX (f a)) {S A R X:Type} {id:Nat} {c:Code} {K:KtP α} {V0:List Value} {L0:List (List α)} {t:List AV} (B:Nat) (eB:TypeId) (esB j M:Nat) (T:S->List AV) (Hb:S->(Nat->Nat->AV)->List ABlk) (N:S->Nat) (CC:S->List Value->Nat->Nat->AV) (LL:S->List (List α)) (TB:A->List AV) (HB:A->List Value->List ABlk) (LB:A->List (List α))
  {step:S->Option (Lp S (A ⊕ R))} {s0:S} {k:A->Option X} {jj:R->Option X} {x:X} (hd:lp (loopD step s0) k jj=some x)
  (hHB:∀ s C,(Hb s C)[B]? = some (.row eB esB (N s) C)) (hset:∀ s C C',(Hb s C).set B (.row eB esB (N s) C')=Hb s C') (hlen:∀ s C,(Hb s C).length=M) (hM:h.length <= M) (hj:j < esB) (hT:∀ s,nrL M (T s)) (hH:∀ s C,(∀ x y,x < N s->y < esB->nr M (C x y))->nrH M (Hb s C))
  (hL0:L0=LL s0) (init:qR h.length t h (T s0) (Hb s0 (CC s0 V0)))
  (round:∀ s o V,V.length=(LL s).length->step s=some o->(∀ a,o = .done (.inl a)->k a=some x)->(∀ r,o = .done (.inr r)->jj r=some x)->kH f e es P V (LL s) c (kLP f e es id h.length j o T Hb N esB CC LL M TB HB LB K) (T s) (Hb s (CC s V)))
  (hrest:∀ a V,k a=some x->V.length=(LB a).length->K V (LB a) .normal (TB a) (HB a V)):kH f e es P V0 L0 (.loop c) (fun V L=>eO id (K V L)) t h:=by
 have ⟨b0,hb0,hk,hjj⟩:∃ b0,loopD step s0=some b0/\(∀ e,b0 = .inl e->k e=some x)/\(∀ r,b0 = .inr r->jj r=some x):=by
  cases hl:loopD step s0 with
  | none=>rw [hl] at hd;cases hd
  | some b =>
   rw [hl] at hd
   refine ⟨b,rfl,?_,?_⟩
   ·rintro e rfl;exact hd
   ·rintro r rfl;exact hd
 obtain ⟨n0,hn0⟩:=kZ.1 hb0
 intro E a Q p H F hda hQ
 let Inv (x:S × Nat) (a':Act) (w':World):Prop:=tD step x.2 x.1=some b0/\a'.defers=[]/\∃ V E',E'.w=w'/\HR E' (Hb x.1 (CC x.1 V))/\FR E' (T x.1) a'.tmps/\ExtP V0 E h V E' (Hb x.1 (CC x.1 V))/\PkOk f e es E' (Hb x.1 (CC x.1 V)) V (LL x.1)
 have hmin:∀ a' w',∃ m:Nat,(∃ x,Inv x a' w')->(∃ x,Inv x a' w'/\x.2=m)/\∀ x,Inv x a' w'->m <= x.2:=by
  intro a' w'
  by_cases hx:∃ x,Inv x a' w'
  ·obtain ⟨x,hx⟩:=hx
   obtain ⟨m,m1,m2⟩:=exists_min (p:=fun m=>∃ x,Inv x a' w'/\x.2=m) ⟨x.2,x,hx,rfl⟩
   exact ⟨m,fun _=>⟨m1,fun y hy=>m2 _ ⟨y,hy,rfl⟩⟩⟩
  ·exact ⟨0,fun h=>absurd h hx⟩
 have hin:∃ x,Inv x a E.w:=by
  obtain ⟨E',e1,e2,e3,e4,e5⟩:=cut_meanP hr rfl H init H F (ExtP.refl V0 _ _) p
  exact ⟨(s0,n0),hn0,hda,V0,E',e1,e2,e3,e4,by rw [← hL0];exact e5⟩
 refine wp_loop (fun a' w'=>∃ x,Inv x a' w') (fun a' w'=>Classical.choose (hmin a' w')) hin fun a1 w1 hI=>?_
 obtain ⟨⟨⟨s,n⟩,⟨hJ,hd1,V1,E1,rfl,H1,F1,X1,p1⟩,hm1⟩,hm2⟩:=Classical.choose_spec (hmin a1 w1) hI
 cases n with
 | zero=>cases hJ
 | succ n =>
 simp only at hJ hm1 H1 F1 X1 p1
 cases ho:step s with
 | none=>simp only [tD,ho] at hJ;cases hJ
 | some o =>
 have hdone:∀ b,o = .done b->b=b0:=by
  rintro b rfl
  simp only [tD,ho] at hJ
  injection hJ
 refine round s o V1 p1.len ho (fun e he=>hk e (hdone _ he).symm) (fun r hr=>hjj r (hdone _ hr).symm) E1 a1 _ p1 H1 F1 hd1 fun e E2 a2 t2 h2 V2 L2 hk2 p2 X2 H2 F2 hd2=>?_
 cases e with
 | normal =>
  obtain ⟨s',i,l,CU,rfl,hi1,hi2,hLL,hCU,hCC,hnr,hs⟩:=hk2
  simp only [tD,ho] at hJ
  obtain ⟨E',e1,e2,e3,e4,e5⟩:=cut_meanP hr rfl H hs H2 F2 (X1.trans X2) p2
  have hM':(Hb s' CU).length=M:=hlen s' CU
  obtain ⟨v,E3,g1,g2,g3,g4,g5⟩:=park_end (j:=j) (N:=N s') (CU:=CU) hr H e2 e4 (by omega) e5 hi1 (hHB s' CU) (by rw [hM'];exact hCU) hi2 hj (fun C hC=>by rw [hset,hM'] at *;exact hH s' C hC) (by rw [hM'];exact hnr) e3 (by rw [hM'];exact hT s')
  rw [hset] at g2 g4 g5
  obtain ⟨H4,o4⟩:=HR_row (C':=CC s' (V2.set i v)) g2 (hHB s' _) fun k o cs _ _ x y u hx hy _ _ hV=>by rw [hCC v x y hx hy];exact hV
  rw [hset] at H4 o4
  have hI2:Inv (s',n) a2 E2.w:=by
   refine ⟨hJ,hd2,V2.set i v,E3,g1.trans e1,H4,g3,?_,?_⟩
   ·exact g4.trans ⟨rfl,rfl,rfl,fun _ _ h=>h,fun _ h=>h,Nat.le_refl _,fun k cs e h=>⟨cs,h,rfl⟩,fun _ _ _ _=>rfl,fun k hk=>by
     rcases hk with hk|hk
     ·exact .inl ((o4 k).1 hk)
     ·exact .inr (.inl hk),by rw [hlen,hlen];exact Nat.le_refl _,fun _ _=>rfl,fun _ h=>.inl h,rfl,fun _ h=>.inl h⟩
   ·rw [hLL];exact g5.sub hr rfl (fun _=>Iff.rfl) fun k hk=>(o4 k).1 hk
  refine ⟨⟨_,hI2⟩,?_⟩
  have h1:=(Classical.choose_spec (hmin a2 E2.w) ⟨_,hI2⟩).2 _ hI2
  show Classical.choose (hmin a2 E2.w) < Classical.choose (hmin a1 E1.w)
  simp only at h1
  omega
 | exit id' =>
  simp only [kLP] at hk2
  by_cases hid:id'=id
  ·subst hid
   simp only [beq_self_eq_true,cond_true] at hk2
   obtain ⟨e,he,rfl,hs⟩:=hk2
   obtain ⟨E',e1,e2,e3,e4,e5⟩:=cut_meanP hr rfl H hs H2 F2 (X1.trans X2) p2
   rw [← e1]
   exact hQ (.exit id') E' a2 _ _ V2 (LB e) (by simp only [eO,beq_self_eq_true];exact hrest e V2 (hk e (hdone _ he).symm) p2.len) e5 e4 e2 e3 hd2
  ·rw [show (id' == id)=false from by simpa using hid] at hk2
   simp only [cond_false] at hk2
   exact hQ (.exit id') E2 a2 t2 h2 V2 L2 (by simp only [eO];rw [show (id' == id)=false from by simpa using hid];exact hk2) p2 (X1.trans X2) H2 F2 hd2
 | ret=>exact hQ .ret E2 a2 t2 h2 V2 L2 hk2 p2 (X1.trans X2) H2 F2 hd2
 | goto l=>exact hQ (.goto l) E2 a2 t2 h2 V2 L2 hk2 p2 (X1.trans X2) H2 F2 hd2
theorem qH.place {v:Value} {l:List α} {k:Nat} (p:qH f e es E h v l) (hk:plc v=some k):k < E.w.heap.size/\¬ Own E h k/\¬ E.prot k:=by
 obtain ⟨a,cap,rfl,_,_,_,h5⟩:=p
 by_cases hc:0 < cap
 ·obtain ⟨k1,o,cs,rfl,q2,_,q4,q5,_⟩:=h5 hc
  simp only [plc,hc,decide_true,cond_true,Option.some.injEq] at hk
  subst hk
  exact ⟨yY q2,q4,q5⟩
 ·cases a with
  | none=>cases hk
  | some ad=>simp [plc,hc] at hk
theorem PkOk.place {V:List Value} {L:List (List α)} {k:Nat} (p:PkOk f e es E h V L) (hk:PkV V k):k < E.w.heap.size/\¬ Own E h k/\¬ E.prot k:=by
 obtain ⟨x,v,h1,h2⟩:=hk
 have hlt:x < L.length:=by
  rw [← p.len]
  rcases Nat.lt_or_ge x V.length with h'|h'
  ·exact h'
  ·rw [List.getElem?_eq_none h'] at h1;cases h1
 exact (p.row x v _ h1 (List.getElem?_eq_getElem hlt)).place h2
theorem PkOk.wr {V:List Value} {L:List (List α)} {k:Nat} (p:PkOk f e es E h V L) (hk:PkV V k):Wr E.w k:=by
 obtain ⟨x,v,h1,h2⟩:=hk
 have hlt:x < L.length:=by
  rw [← p.len]
  rcases Nat.lt_or_ge x V.length with h'|h'
  ·exact h'
  ·rw [List.getElem?_eq_none h'] at h1;cases h1
 obtain ⟨a,cap,rfl,_,_,h4,h5⟩:=p.row x v _ h1 (List.getElem?_eq_getElem hlt)
 by_cases hc:0 < cap
 ·obtain ⟨k',o,cs,rfl,q,_⟩:=h5 hc
  simp only [plc,hc,decide_true,cond_true,Option.some.injEq] at h2
  subst h2;exact ⟨cs,e,q⟩
 ·cases a with
  | none=>cases h2
  | some ad=>simp [plc,hc] at h2
theorem qH.ro (hr:∀ a,zX (f a)) {E':Env} (hw:E'.w=E.w) (hp:∀ k,E.prot k->E'.prot k) {v:Value} {l:List α} (p:qH f e es E h v l) (hk:∀ k,plc v=some k->E'.prot k) (hL:∀ k,E.lo k->E.prot k) (hlo:∀ k,E'.lo k->E.lo k:=by first|exact fun _ h=>h|assumption):VR E' (.ro es l.length false (enR f l)) v:=by
 obtain ⟨a,cap,rfl,h2,h3,h4,h5⟩:=p
 have hv:∀ {b:AV} {u:Value},VR E b u->nref b->VR E' b u:=fun q n=>VR.view (E:=E) (E':=E') (fun k hk=>⟨hp k hk,by rw [hw]⟩) q n
 have main:0 < l.length->∃ k o,a=some ⟨k,o,none⟩/\E'.prot k/\∀ x y,x < l.length->y < es->∃ u,E'.w.cell? ⟨k,o+x * es+y,none⟩=some u/\u.oneCell'=true/\VR E (enR f l x y) u:=by
  intro hl
  obtain ⟨k,o,cs,rfl,q2,_,_,_,q6⟩:=h5 (by omega)
  refine ⟨k,o,rfl,hk k (by simp [plc,show 0 < cap from by omega]),fun x y hx hy=>?_⟩
  obtain ⟨u,r1,r2,r3⟩:=q6 x y hx hy
  exact ⟨u,by rw [hw];simp only [World.cell?,q2];exact r1,r2,r3⟩
 refine .ro es l.length false _ a cap h2 h3 (fun q=>by cases q) ⟨h4,fun hp _ k o e=>by
  obtain ⟨k',o',cs,q1,q2,_,_,q5,_⟩:=h5 (by omega)
  rw [e] at q1
  cases q1
  exact ⟨fun w=>q5 (hL k (hlo k w)),by rw [hw];exact ⟨_,_,q2⟩⟩⟩ (fun x y=>tT E'.w (x * es+y) a) (fun hl=>?_) (fun x y hx hy=>?_) (fun x y hx hy=>?_) (fun x y hx hy=>wC (hr _) y)
 ·obtain ⟨k,o,rfl,g2,g3⟩:=main hl
  refine ⟨k,o,rfl,g2,fun x y hx hy=>?_⟩
  obtain ⟨u,q1,_,_⟩:=g3 x y hx hy
  rw [q1,tT,show (⟨k,o,none⟩:Addr).add (x * es+y) = ⟨k,o+x * es+y,none⟩ from by simp [Addr.add,Nat.add_assoc],q1];rfl
 ·obtain ⟨k,o,rfl,g2,g3⟩:=main (by omega)
  obtain ⟨u,q1,q2,_⟩:=g3 x y hx hy
  rw [tT,show (⟨k,o,none⟩:Addr).add (x * es+y) = ⟨k,o+x * es+y,none⟩ from by simp [Addr.add,Nat.add_assoc],q1];exact q2
 ·obtain ⟨k,o,rfl,g2,g3⟩:=main (by omega)
  obtain ⟨u,q1,_,q3⟩:=g3 x y hx hy
  rw [tT,show (⟨k,o,none⟩:Addr).add (x * es+y) = ⟨k,o+x * es+y,none⟩ from by simp [Addr.add,Nat.add_assoc],q1];exact hv q3 (wC (hr _) y)
theorem thaw_env (hr:∀ a,zX (f a)) {V:List Value} {L:List (List α)} {t:List AV} {vs:Array Value} (j B:Nat) {eB:TypeId} {esB N:Nat} {C C3:Nat->Nat->AV} (p:PkOk f e es E h V L) (H:HR E h) (F:FR E t vs) (hB:h[B]? = some (.row eB esB N C)) (hN:N <= L.length)
  (hC:∀ x v,x < N->V[x]? = some v->C x j = .val v) (hC3:∀ x y l,x < N->y < esB->L[x]? = some l->C3 x y=if y=j then .ro es l.length false (enR f l) else C x y) :
  ∃ E',E'.w=E.w/\HR E' (h.set B (.row eB esB N C3))/\FR E' t vs/\ExtP V E h [] E' (h.set B (.row eB esB N C3)):=by
 have K:Keep E { E with prot:=fun k=>E.prot k ∨ PkV V k }:=⟨fun _ _ h=>h,fun _ h=>.inl h,fun _ _=>rfl,fun k cs e h=>⟨cs,h,rfl⟩,rfl⟩
 have ow:∀ k,Own { E with prot:=fun k=>E.prot k ∨ PkV V k } h k ↔ Own E h k:=fun k=>Iff.rfl
 have H1:HR { E with prot:=fun k=>E.prot k ∨ PkV V k } h:=by
  refine ⟨fun b x hb=>?_,H.inj,fun k hk=>?_,H.fresh,fun k hk=>.inl (H.lo k hk)⟩
  ·exact (H.blk b x hb).mono K rfl fun _ _ _=>rfl
  ·rcases hk with hk|hk
   ·exact H.prot k hk
   ·exact ⟨(p.place hk).1,(p.place hk).2.1⟩
 obtain ⟨H2,o2⟩:=HR_row (C':=C3) H1 hB fun k o cs _ _ x y u hx hy _ _ hV=>by
  have hxl:x < L.length:=by omega
  have hxv:x < V.length:=by rw [p.len];exact hxl
  rw [hC3 x y _ hx hy (List.getElem?_eq_getElem hxl)]
  split
  ·rename_i hyj
   subst hyj
   rw [hC x _ hx (List.getElem?_eq_getElem hxv)] at hV
   cases hV
   exact qH.ro (E:=E) (h:=h) (E':={ E with prot:=fun k=>E.prot k ∨ PkV V k }) hr rfl (fun _ h=>Or.inl h) (p.row x _ _ (List.getElem?_eq_getElem hxv) (List.getElem?_eq_getElem hxl)) (fun k hk=>Or.inr ⟨x,_,List.getElem?_eq_getElem hxv,hk⟩) H.lo
  ·exact hV
 refine ⟨{ E with prot:=fun k=>E.prot k ∨ PkV V k },rfl,H2,vF K F,⟨rfl,rfl,rfl,fun _ _ h=>h,fun _ h=>.inl h,Nat.le_refl _,fun k cs e h=>⟨cs,h,rfl⟩,fun _ _ _ _=>rfl,fun k hk=>?_,by rw [List.length_set];exact Nat.le_refl _,fun _ _=>rfl,fun k hk=>?_,rfl,fun k hk=>hk.imp id p.wr⟩⟩
 ·rcases hk with hk|hk
  ·exact .inl ((ow k).1 ((o2 k).1 hk))
  ·exact absurd hk no_PkV
 ·rcases hk with hk|hk
  ·exact .inl hk
  ·exact .inr (.inr (.inl hk))
theorem thawP (hr:∀ a,zX (f a)) {V:List Value} {L:List (List α)} {c:Code} {K:KtP α} {t:List AV} (j B:Nat) {eB:TypeId} {esB N:Nat} {C:Nat->Nat->AV} (C3:Nat->Nat->AV) (hB:h[B]? = some (.row eB esB N C)) (hN:N <= L.length)
  (hC:∀ x v,x < N->V[x]? = some v->C x j = .val v) (hC3:∀ x y l,x < N->y < esB->L[x]? = some l->C3 x y=if y=j then .ro es l.length false (enR f l) else C x y)
  (hm:Mean P c (K [] []) t (h.set B (.row eB esB N C3))):kH f e es P V L c K t h:=by
 intro E a Q p H F hd hQ
 obtain ⟨E',e1,e2,e3,e4⟩:=thaw_env hr j B p H F hB hN hC hC3
 rw [← e1]
 exact hm E' a Q e2 e3 hd fun x E2 a2 t2 h2 hk X H' F' hd'=>hQ x E2 a2 t2 h2 [] [] hk PkOk.emp (e4.trans (X.toP [])) H' F' hd'
theorem inlPO {k:FuncId} {fn:Func} {code:Code} {rs:List ResultVar} {n:Nat} (hf:P.funcs[k]? = some fn) (hn:(fn.name == "runtime.NumGoroutine")=false) (hb:fn.body=some code) (hrs:fn.results.toList=rs) (hnt:fn.ntmps=n)
  {dst:Option Nat} {ty:TypeId} {pos:String} {after:Array Edge} {g:Operand} {args:Array Operand} {argTypes:Array TypeId} {ops:Array Oper} {l:List Oper} {K:KtP α} {V:List Value} {L:List (List α)} {t:List AV} {caps tc:List AV}
  (hfn:rho t g = .fn k caps) (hog:og t g/\ogL t args.toList) (htc:kE t args.toList ++ caps=tc)
  (hm:kH f e es P V L code (fun V' L'=>kY P rs fun v h'=>eI f e es P V' L' ops l K (wW t dst v) h') (tc ++ List.replicate (n - tc.length) .top) h):eI f e es P V L ops (⟨dst,.call ⟨.value g,args,argTypes⟩,ty,pos,after,none⟩::l) K t h:=by
 subst hrs hnt htc
 intro E a Q p H F hd hQ
 have hargs:=jY F (xs:=args) hog.2
 have hf':=zS F hog.1
 rw [hfn] at hf'
 generalize ha:a.eval g=u at hf'
 cases hf' with
 | fn _ _ vs hl hh =>
 have F1:FR E (kE t args.toList ++ caps) (args.map a.eval ++ vs):=xM hargs ⟨hl,hh⟩
 have F2:FR E ((kE t args.toList ++ caps) ++ List.replicate (fn.ntmps - (kE t args.toList ++ caps).length) .top) ((args.map a.eval ++ vs) ++ Array.replicate (fn.ntmps - (args.map a.eval ++ vs).size) undef):=by
  refine xM F1 ⟨by simp only [List.length_replicate,Array.size_replicate,F1.1],fun i a v ha hv=>?_⟩
  rw [List.getElem?_replicate] at ha
  split at ha
  ·injection ha with ha;subst ha;exact .top _
  ·cases ha
 have put_defers:∀ d v,(a.put d v).defers=[]:=by
  intro d v
  cases d with
  | none=>exact hd
  | some d=>exact hd
 unfold wpList
 rw [if_pos (show Region.wanted _ _=true from rfl)]
 refine .inl ?_
 unfold Oper.wp
 have hrun:(execOp a.eval ⟨dst,.call ⟨.value g,args,argTypes⟩,ty,pos,after,none⟩).run P E.w = .ok (.enter k (args.map a.eval ++ vs)) E.w:=by
  show (do let d ← resolve a.eval ⟨.value g,args,argTypes⟩ ty;invoke d.target d.args:Sem Next).run P E.w=_
  simp only [resolve,Sem.run_bind,Deferred.ofValue,ha,Sem.run_pure,Result.andThen_ok,invoke,Array.empty_append]
  exact uH ⟨fn,hf,hn,by rw [hb];rfl⟩ _
 rw [hrun]
 have hcall:Calls P k (args.map a.eval ++ vs) E.w fun x w'=>∃ u v E' h' V' L',x = .returned u/\E'.w=w'/\ExtP V E h V' E' h'/\HR E' h'/\PkOk f e es E' h' V' L'/\FR E' t a.tmps/\VR E' v u/\eI f e es P V' L' ops l K (wW t dst v) h':=by
  refine calls_of_wp hf hb ?_
  refine hm E _ _ p H F2 rfl fun x E1 a' t' h1 V' L' hk p1 X1 H1 F' hd'=>?_
  have KK:Keep E E1:=⟨X1.σ,X1.prot,fun k hk=>X1.frame k (H.prot k hk).1 (H.prot k hk).2 (fun q=>(p.place q).2.2 hk),X1.kind,X1.lo⟩
  have done:cV P fn.results.toList (fun v h'=>eI f e es P V' L' ops l K (wW t dst v) h') t' h1->a'.defers=[]/\∃ u,(results fn a'.tmps).run P E1.w = .ok u E1.w/\∃ u' v E' h' V' L',Ending.returned u = .returned u'/\E'.w=E1.w/\ExtP V E h V' E' h'/\HR E' h'/\PkOk f e es E' h' V' L'/\FR E' t a.tmps/\VR E' v u'/\eI f e es P V' L' ops l K (wW t dst v) h':=by
   intro hk
   obtain ⟨u,v,q1,q2,q3⟩:=tP (P:=P) H1 F' hk
   exact ⟨hd',u,q1,u,v,E1,h1,V',L',rfl,rfl,X1,H1,p1,vF KK F,q3,q2⟩
  cases x with
  | normal=>exact done hk
  | ret=>exact done hk
  | exit id=>exact hk.elim
  | goto l=>exact hk.elim
 refine Calls.mono hcall ?_
 rintro x w' ⟨u,v,E',h',V',L',rfl,rfl,X,H',p',FF,VV,hM⟩
 exact hM E' (a.put dst u) Q p' H' (uP FF VV dst) (put_defers _ _) fun x E2 a' t' h2 V2 L2 hk p2 X2 H2 F2 hd2=>hQ x E2 a' t' h2 V2 L2 hk p2 (X.trans X2) H2 F2 hd2
/-! ### A row of which a cell is told by its value -/
def valAt (V:List Value) (x:Nat):AV:=match V[x]? with
 | some v=>.val v
 | none=>.top
def ltB (n:Nat):Nat->Bool:=fun x=>decide (x < n)
def tV:Nat->Bool:=fun _=>true
section
variable {β:Type} [Inhabited β]
def pcC (g:β->List AV) (j:Nat) (q:Nat->Bool) (L:List β) (V:List Value):Nat->Nat->AV:=fun x y=>if y=j/\q x=true then valAt V x else enR g L x y
def pkl (held:β->List α) (q:Nat->Bool) (L:List β):List (List α):=(List.range L.length).map fun x=>bif q x then held (gd L x) else []
variable {g:β->List AV} {held:β->List α}
theorem nref_valAt (V:List Value) (x:Nat):nref (valAt V x):=by unfold valAt;split<;>simp [nref]
theorem yC (hr:∀ b,zX (g b)) {j:Nat} {q:Nat->Bool} {L:List β} {V:List Value} (x y:Nat):nref (pcC g j q L V x y):=by
 unfold pcC;split
 ·exact nref_valAt _ _
 ·exact wC (hr _) y
theorem pcC_lt {j n:Nat} {L:List β} {V:List Value} (y:Nat):pcC g j (ltB n) L V n y=enR g L n y:=by simp [pcC,ltB]
theorem valAt_set {V:List Value} {i:Nat} {v:Value} (hi:i < V.length) (x:Nat):valAt (V.set i v) x=if x=i then .val v else valAt V x:=by
 unfold valAt
 rw [List.getElem?_set]
 by_cases h:i=x
 ·subst h;simp [hi]
 ·rw [if_neg h,if_neg (fun q=>h q.symm)]
theorem valAt_get {V:List Value} {i:Nat} {v:Value} (hi:V[i]? = some v):valAt V i = .val v:=by unfold valAt;rw [hi]
theorem kB {q:Nat->Bool} {L:List β}:(pkl held q L).length=L.length:=by simp [pkl]
theorem cT {q:Nat->Bool} {L:List β} {i:Nat} (hi:i < L.length):(pkl held q L)[i]? = some (bif q i then held (gd L i) else []):=by simp [pkl,hi]
theorem pkl_zero {L:List β}:List.replicate L.length []=pkl held (ltB 0) L:=by
 apply List.ext_getElem?
 intro x
 by_cases h:x < L.length
 ·rw [cT h];simp [h,ltB]
 ·rw [List.getElem?_eq_none (by simpa using h),List.getElem?_eq_none (by rw [kB];omega)]
theorem pkl_set {q q':Nat->Bool} {L:List β} {i:Nat} {a:β} (hi:i < L.length) (h1:q' i=true) (h2:∀ x,x ≠ i->q' x=q x):pkl held q' (L.set i a)=(pkl held q L).set i (held a):=by
 apply List.ext_getElem?
 intro x
 by_cases h:x < L.length
 ·rw [cT (by simpa using h),List.getElem?_set,kB]
  by_cases hx:i=x
  ·subst hx;simp [h1,hi,gd]
  ·rw [if_neg hx,cT h,h2 x (fun e=>hx e.symm)]
   have:gd (L.set i a) x=gd L x:=by simp only [gd,List.getD_eq_getElem?_getD,List.getElem?_set_ne hx]
   rw [this]
 ·rw [List.getElem?_eq_none (by rw [kB];simpa using h),List.getElem?_eq_none (by rw [List.length_set,kB];omega)]
theorem pkl_all {L:List β} {n:Nat} (h:L.length <= n):pkl held (ltB n) L=pkl held tV L:=by
 apply List.ext_getElem?
 intro x
 by_cases hx:x < L.length
 ·rw [cT hx,cT hx];simp [ltB,tV,show x < n from by omega]
 ·rw [List.getElem?_eq_none (by rw [kB];omega),List.getElem?_eq_none (by rw [kB];omega)]
theorem enR_set {L:List β} {i x:Nat} {a:β} (hi:i < L.length) (y:Nat):enR g (L.set i a) x y=if x=i then zL (g a) y else enR g L x y:=by
 unfold enR
 by_cases h:x=i
 ·subst h;rw [if_pos rfl];simp [gd,hi]
 ·rw [if_neg h]
  have:gd (L.set i a) x=gd L x:=by simp only [gd,List.getD_eq_getElem?_getD,List.getElem?_set_ne (fun e=>h e.symm)]
  rw [this]
theorem pcC_set {q q':Nat->Bool} {j i:Nat} {L:List β} {V:List Value} {v:Value} {a:β} {c:AV} {esB:Nat} (hi:i < L.length) (hV:i < V.length) (h1:q' i=true) (h2:∀ x,x ≠ i->q' x=q x) (hg:∀ y,y ≠ j->y < esB->zL (g a) y=zL (g (gd L i)) y) (x y:Nat) (hy:y < esB) :
  pcC g j q' (L.set i a) (V.set i v) x y=if x=i/\y=j then .val v else upc (pcC g j q L V) i j [c] x y:=by
 rw [wH]
 unfold pcC
 by_cases hx:x=i
 ·subst hx
  by_cases hyj:y=j
  ·subst hyj;simp [h1,valAt_set hV]
  ·simp only [hyj,false_and,and_false,if_false]
   rw [enR_set hi,if_pos rfl,hg y hyj hy]
   rfl
 ·simp only [hx,false_and,if_false,h2 x hx,valAt_set hV]
  split
  ·rfl
  ·rw [enR_set hi,if_neg hx]
theorem tX {μ:Mu} {e es N N' m i:Nat} {C c1 c2:Nat->Nat->AV} (hN:N=N') (hC:∀ x y,nref (C x y)) (h1:∀ x y,x ≠ i->c1 x y=C x y) (h2:∀ x y,x ≠ i->c2 x y=C x y) (h3:∀ y,y < es->Cv μ (c1 i y) (c2 i y)):CvB μ (.row e es N c1) (some m) (.row e es N' c2):=by
 subst hN
 simp only [CvB]
 refine ⟨trivial,trivial,Nat.le_refl _,fun x y hx hy=>?_⟩
 by_cases h:x=i
 ·subst h;exact h3 y hy
 ·rw [h1 x y h,h2 x y h];exact yJ _ (hC x y)
theorem CvB_pc0 {μ:Mu} {e es N m j:Nat} {L:List β} {V:List Value} {c:Nat->Nat->AV} (hr:∀ b,zX (g b)) (hN:L.length=N) (h:∀ x y,x < L.length->y < es->enR g L x y=c x y):CvB μ (.row e es L.length (pcC g j (ltB 0) L V)) (some m) (.row e es N c):=by
 subst hN
 simp only [CvB]
 refine ⟨trivial,trivial,Nat.le_refl _,fun x y hx hy=>?_⟩
 rw [← h x y hx hy,show pcC g j (ltB 0) L V x y=enR g L x y from by simp [pcC,ltB]]
 exact yJ _ (wC (hr _) y)
theorem CvB_pcx {μ:Mu} {e es m j n:Nat} {L:List β} {V:List Value} (hr:∀ b,zX (g b)) (hn:L.length <= n):CvB μ (.row e es L.length (pcC g j tV L V)) (some m) (.row e es L.length (pcC g j (ltB n) L V)):=by
 simp only [CvB]
 refine ⟨trivial,trivial,Nat.le_refl _,fun x y hx hy=>?_⟩
 rw [show pcC g j (ltB n) L V x y=pcC g j tV L V x y from by simp [pcC,ltB,tV,show x < n from by omega]]
 exact yJ _ (yC hr x y)
theorem CvB_pcs {μ:Mu} {e es m j:Nat} {q:Nat->Bool} {L:List β} {V:List Value} (hr:∀ b,zX (g b)):CvB μ (.row e es L.length (pcC g j q L V)) (some m) (.row e es L.length (pcC g j q L V)):=by
 simp only [CvB]
 exact ⟨trivial,trivial,Nat.le_refl _,fun x y hx hy=>yJ _ (yC hr x y)⟩
theorem initP {n:Nat} {c:Code} {K:KtP α} {t:List AV} (hm:kH f e es P (List.replicate n nilv) (List.replicate n []) c K t h):kH f e es P [] [] c K t h:=by
 intro E a Q p H F hd hQ
 have no:∀ k,¬ PkV (List.replicate n nilv) k:=by
  rintro k ⟨x,v,h1,h2⟩
  rw [List.getElem?_replicate] at h1
  split at h1
  ·cases h1;cases h2
  ·cases h1
 refine hm E a Q ⟨by simp,fun x v l h1 h2=>?_,fun x x' v v' k h1 h2 h3 h4=>absurd ⟨x,v,h1,h3⟩ (no k)⟩ H F hd fun x E' a' t' h' V' L' hk p' X H' F' hd'=>hQ x E' a' t' h' V' L' hk p' ⟨X.os,X.tape,X.output,X.σ,X.prot,X.size,X.kind,fun k h1 h2 _=>X.frame k h1 h2 (no k),fun k hk=>?_,X.len,X.old,fun k hk=>?_,X.lo,X.wr⟩ H' F' hd'
 ·by_cases hx:x < n
  ·simp only [List.getElem?_replicate,hx,if_true,Option.some.injEq] at h1 h2
   subst h1 h2;exact qH.nil
  ·simp only [List.getElem?_replicate,hx,if_false,reduceCtorEq] at h1
 ·rcases X.own k hk with h|h|h
  ·exact .inl h
  ·exact absurd h (no k)
  ·exact .inr (.inr h)
 ·rcases X.pro k hk with h|h|h|h
  ·exact .inl h
  ·exact .inr (.inl h)
  ·exact absurd h (no k)
  ·exact .inr (.inr (.inr h))
theorem nr_upcC {M i j:Nat} {C:Nat->Nat->AV} {c:AV} (hC:∀ x y,nref (C x y)) (x y:Nat) (h:¬ (x=i/\y=j)):nr M (upc C i j [c] x y):=by
 rw [wH,if_neg h];exact nr_nref (hC x y)
theorem kLP_next1 (hr:∀ b,zX (g b)) {S A R:Type} {id n j:Nat} {o:Lp S (A ⊕ R)} {T:S->List AV} {Hb:S->(Nat->Nat->AV)->List ABlk} {N:S->Nat} {esB:Nat} {CC:S->List Value->Nat->Nat->AV} {LL:S->List (List α)} {M:Nat} {TB:A->List AV} {HB:A->List Value->List ABlk} {LB:A->List (List α)} {K:KtP α} {V:List Value} {i:Nat} {L:List β} {s':S} {a:β} {t:List AV}
  (ho:o = .next s') (hi:i < L.length) (hV:V.length=L.length) (hN:N s'=L.length) (hCC:∀ V,CC s' V=pcC g j (ltB (i+1)) (L.set i a) V) (hLL:LL s'=pkl held (ltB (i+1)) (L.set i a)) (hg:∀ y,y ≠ j->y < esB->zL (g a) y=zL (g (gd L i)) y)
  (hs:qR n t h (T s') (Hb s' (upc (pcC g j (ltB i) L V) i j [.sl M es 0 (held a).length false]) ++ [ABlk.row e es (held a).length (enR f (held a))])):kLP f e es id n j o T Hb N esB CC LL M TB HB LB K V (pkl held (ltB i) L) .normal t h:=by
 have e1:∀ x,x ≠ i->ltB (i+1) x=ltB i x:=fun x hx=>by simp only [ltB,decide_eq_decide];omega
 refine ⟨s',i,held a,_,ho,by rw [kB];exact hi,by rw [hN];exact hi,by rw [hLL];exact pkl_set hi (by simp [ltB]) e1,by rw [wH,if_pos ⟨rfl,rfl⟩],fun v x y _ hy=>?_,fun x y h _ _=>nr_upcC (yC hr) x y h,hs⟩
 rw [hCC]
 exact pcC_set hi (by omega) (by simp [ltB]) e1 hg x y hy
theorem kLP_next2 (hr:∀ b,zX (g b)) {S A R:Type} {id n j:Nat} {o:Lp S (A ⊕ R)} {T:S->List AV} {Hb:S->(Nat->Nat->AV)->List ABlk} {N:S->Nat} {esB:Nat} {CC:S->List Value->Nat->Nat->AV} {LL:S->List (List α)} {M:Nat} {TB:A->List AV} {HB:A->List Value->List ABlk} {LB:A->List (List α)} {K:KtP α} {V:List Value} {i:Nat} {L:List β} {s':S} {a:β} {t:List AV}
  (ho:o = .next s') (hi:i < L.length) (hV:V.length=L.length) (hN:N s'=L.length) (hCC:∀ V,CC s' V=pcC g j tV (L.set i a) V) (hLL:LL s'=pkl held tV (L.set i a)) (hg:∀ y,y ≠ j->y < esB->zL (g a) y=zL (g (gd L i)) y)
  (hs:qR n t h (T s') (Hb s' (upc (pcC g j tV L V) i j [.sl M es 0 (held a).length false]) ++ [ABlk.row e es (held a).length (enR f (held a))])):kLP f e es id n j o T Hb N esB CC LL M TB HB LB K (V.set i nilv) ((pkl held tV L).set i []) .normal t h:=by
 refine ⟨s',i,held a,_,ho,by rw [List.length_set,kB];exact hi,by rw [hN];exact hi,by rw [hLL,List.set_set];exact pkl_set hi rfl (fun _ _=>rfl),by rw [wH,if_pos ⟨rfl,rfl⟩],fun v x y _ hy=>?_,fun x y h _ _=>nr_upcC (yC hr) x y h,hs⟩
 rw [hCC,List.set_set]
 exact pcC_set hi (by omega) rfl (fun _ _=>rfl) hg x y hy
end
end
/-! ### Regions told with their operations apart -/
def t8 (a0 a1 a2 a3 a4 a5 a6 a7:AV) (l:List AV):List AV:=a0::a1::a2::a3::a4::a5::a6::a7::l
section
variable {a0 a1 a2 a3 a4 a5 a6 a7:AV} {l:List AV}
end
end Go.Am

namespace Go.Am
open Go
set_option linter.unusedVariables false
variable {P:Program} {h:List ABlk}
theorem nlt {y z:Nat}:¬ y+z < z:=Nat.not_lt.2 (Nat.le_add_left _ _)
theorem qN {l m:List AV} {i:Nat} (h:i < l.length):zL (l ++ m) i=zL l i:=by
 induction l generalizing i with
 | nil=>simp at h
 | cons a l ih=>cases i with
  | zero=>rfl
  | succ i=>exact ih (by simpa using h)
theorem flat_len {L:List AV} {n:Nat}:((List.replicate n L).flatten).length=n * L.length:=by simp
/-! ### Arrays as wholes -/
/-! ### One block told otherwise -/
end Go.Am

namespace Go.Am
set_option linter.unusedVariables false
set_option linter.unusedSectionVars false
variable {P:Program} {E:Env} {h:List ABlk}
/-! ### The entries of a map and what is told of them -/
/-! ### The operations -/
section
variable {α:Type} [Inhabited α] {f:α->List AV} {μ:Mu} {e es es2 b b' m i j n n' N:Nat} {L:List α}
end
mutual
theorem rnm_nref {bs:List Nat} {s:Nat}:∀ a:AV,nref a->rnm bs s a=a
 | .ptr _ _ _ _,h=>by simp only [nref] at h
 | .sl _ _ _ _ _,h=>by simp only [nref] at h
 | .isl _ _ _ _ _ _,h=>by simp only [nref] at h
 | .csl _ _ _ _ _,h=>by simp only [nref] at h
 | .agg l,h=>by simp only [nref] at h;simp only [rnm,dK l h]
 | .tup l,h=>by simp only [nref] at h;simp only [rnm,dK l h]
 | .fn _ l,h=>by simp only [nref] at h;simp only [rnm,dK l h]
 | .mfn _ l,h=>by simp only [nref] at h;simp only [rnm,dK l h]
 | .opt _ v,h=>by simp only [nref] at h;simp only [rnm,rnm_nref v h]
 | .rptr _ _ _ _ _,_=>rfl
 | .ro _ _ _ _,_=>rfl
 | .top,_=>rfl
 | .bool _,_=>rfl
 | .int _ _,_=>rfl
 | .str _,_=>rfl
 | .nilp,_=>rfl
 | .emp,_=>rfl
 | .nilf,_=>rfl
 | .ub,_=>rfl
 | .val _,_=>rfl
 | .mp _,_=>rfl
theorem dK {bs:List Nat} {s:Nat}:∀ l:List AV,zX l->rnmL bs s l=l
 | [],_=>rfl
 | a::l,h=>by simp only [zX] at h;simp only [rnmL,rnm_nref a h.1,dK l h.2]
end
theorem rnmC_en {α:Type} [Inhabited α] {f:α->List AV} [i:NRf f] {bs:List Nat} {s:Nat} {L:List α}:rnmC bs s (enR f L)=enR f L:=by
 funext x y
 exact rnm_nref _ (nfR_enI (f:=f))
theorem rnmC_upc {bs:List Nat} {s i j:Nat} {c:Nat->Nat->AV} {v:AV}:rnmC bs s (upc c i j [v])=upc (rnmC bs s c) i j [rnm bs s v]:=by
 funext x y
 simp only [rnmC]
 rw [wH,wH]
 split<;>rfl
/-! ### What is behind a call that is walked in place is told once -/
def kJR (n:Nat) {α:Type} (T:α->List AV) (Hp:α->List ABlk) (J:α->Prop):Kt
 | .normal,t,h=>∃ x,J x/\qR n t h (T x) (Hp x)
 | .exit _,_,_=>False
 | .ret,t,h=>∃ x,J x/\qR n t h (T x) (Hp x)
 | .goto _,_,_=>False
theorem kJR_normal {n:Nat} {α:Type} {T:α->List AV} {Hp:α->List ABlk} {J:α->Prop} {t:List AV}:kJR n T Hp J .normal t h = ∃ x,J x/\qR n t h (T x) (Hp x):=rfl
theorem kJR_ret {n:Nat} {α:Type} {T:α->List AV} {Hp:α->List ABlk} {J:α->Prop} {t:List AV}:kJR n T Hp J .ret t h = ∃ x,J x/\qR n t h (T x) (Hp x):=rfl
end Go.Am

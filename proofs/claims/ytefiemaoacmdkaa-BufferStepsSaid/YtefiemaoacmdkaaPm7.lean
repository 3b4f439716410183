/-
  The abstract machine, text 7: '==' on structs and arrays whose cells are numbers, bools, strings. numbers without a sign, bit by bit; small equations for the walks. rounds walked one by one, what is known put in order between them; rows of a list. contracts of functions that end in an entry of the model's own; the entry that compares two rows of bytes. contracts of functions that hand an argument on as their result. the rule for regions that draw their order, over what single operations do.
-/
import Derived.Test.YtefiemaoacmdkaaPm6
import Derived.ChangeKeysEq
import Derived.Laws.StructEq
import Derived.IntWalk
import Derived.Lib.BytesEntry
import Derived.Laws.Externs
namespace Go.Am
set_option linter.unusedVariables false
variable {P:Program} {E:Env} {h:List ABlk}

def repLf (l:List Leaf):Nat->List Leaf
 | 0=>[]
 | n+1=>l ++ repLf l n
def shFs (P:Program) (g:TypeId->Option (List Leaf)):Nat->List Field->Option (List Leaf)
 | _,[]=>some []
 | off,f::r=>if f.name = "_" ∨ f.offset ≠ off then none else match g f.type,tsz P f.type with
  | some l,some z=>if l.length=z then (shFs P g (off+z) r).map (l ++ ·) else none
  | _,_=>none
def shF (P:Program):Nat->TypeId->Option (List Leaf)
 | 0,_=>none
 | d+1,t=>match P.underlying t with
  | some .bool=>some [.b]
  | some (.int k)=>some [.i k]
  | some .string=>some [.s]
  | some (.array n e)=>match shF P d e,tsz P e with
   | some l,some z=>if l.length=z then some (repLf l n) else none
   | _,_=>none
  | some (.struct fs)=>if P.stoodInHeld t then none else shFs P (shF P d) 0 fs.toList
  | _=>none
def leafEq:Leaf->Value->Value->Option Bool
 | .i k,.int k1 x,.int k2 y=>if k1=k/\k2=k then some (x == y) else none
 | .b,.bool x,.bool y=>some (x == y)
 | .s,.string x,.string y=>some (x.toList == y.toList)
 | _,_,_=>none
def gT:List Leaf->List Value->List Value->Option Bool
 | [],[],[]=>some true
 | f::l,x::xs,y::ys=>match leafEq f x y,gT l xs ys with
  | some a,some b=>some (a && b)
  | _,_=>none
 | _,_,_=>none
theorem eqVs_len:∀ {l:List Leaf} {xs ys:List Value} {r:Bool},gT l xs ys=some r->xs.length=l.length/\ys.length=l.length:=by
 intro l
 induction l with
 | nil=>intro xs ys r h;cases xs<;>cases ys<;>simp [gT] at h ⊢
 | cons f l ih =>
  intro xs ys r h
  cases xs<;>cases ys<;>simp only [gT,reduceCtorEq] at h
  split at h
  ·rename_i a b _ hb
   have:=ih hb
   simp [this.1,this.2]
  ·cases h
theorem eqVs_split:∀ {l m:List Leaf} {xs ys:List Value} {r:Bool},gT (l ++ m) xs ys=some r ->
  ∃ r1 r2,gT l (xs.take l.length) (ys.take l.length)=some r1/\gT m (xs.drop l.length) (ys.drop l.length)=some r2/\r=(r1 && r2):=by
 intro l
 induction l with
 | nil=>intro m xs ys r h;exact ⟨true,r,by simp [gT],by simpa using h,by simp⟩
 | cons f l ih =>
  intro m xs ys r h
  cases xs<;>cases ys<;>simp only [List.cons_append,gT,reduceCtorEq] at h
  split at h
  ·rename_i a b ha hb
   injection h with h;subst h
   obtain ⟨r1,r2,h1,h2,rfl⟩:=ih hb
   refine ⟨a && r1,r2,?_,by simpa using h2,by rw [Bool.and_assoc]⟩
   simp only [List.length_cons,List.take_succ_cons,gT,ha,h1]
  ·cases h

def VT (P:Program) (t:TypeId) (cs:List Value) (x:Value):Prop:=match tagg P t with
 | some true=>x = .agg cs.toArray
 | _=>cs=[x]
theorem shF_agg {d:Nat} {t:TypeId} {l:List Leaf} (hs:shF P d t=some l):∃ b,tagg P t=some b/\(b=false->l.length=1):=by
 cases d with
 | zero=>cases hs
 | succ d =>
  simp only [shF] at hs
  unfold tagg
  cases hu:P.underlying t with
  | none=>rw [hu] at hs;cases hs
  | some k =>
   rw [hu] at hs
   cases k<;>simp only [reduceCtorEq,Option.some.injEq] at hs<;>first
    | (subst hs;exact ⟨false,rfl,fun _=>rfl⟩)
    | exact ⟨true,rfl,fun h=>by cases h⟩
theorem part_run {d:Nat} {e:TypeId} {l:List Leaf} {z off:Nat} {cs:List Value} (hs:shF P d e=some l) (hz:tsz P e=some z) (hl:l.length=z) (hlen:((cs.drop off).take z).length=z) (w:World) :
  ∃ a,(part e cs.toArray off).run P w = .ok a w/\VT P e ((cs.drop off).take z) a:=by
 obtain ⟨b,hb,h1⟩:=shF_agg hs
 have hagg:∀ w,(isAgg e).run P w = .ok b w:=by
  intro w
  unfold tagg at hb
  cases hu:P.underlying e with
  | none=>rw [hu] at hb;cases hb
  | some k =>
   rw [hu] at hb
   simp only [Option.map_some,Option.some.injEq] at hb
   cases k<;>simp only at hb<;>subst hb<;>simp [isAgg,run_underlying hu]
 cases b with
 | true =>
  refine ⟨.agg ((cs.drop off).take z).toArray,?_,by unfold VT;rw [hb]⟩
  simp only [part,Sem.run_bind,hagg,Result.andThen_ok,if_true,xL hz,Sem.run_pure]
  congr 2
  apply Array.ext'
  simp [List.extract]
 | false =>
  have hz1:z=1:=by rw [← hl];exact h1 rfl
  subst hz1
  match hd:(cs.drop off).take 1,hlen with
  | [v],_ =>
   refine ⟨v,?_,by unfold VT;rw [hb]⟩
   have hv:cs.toArray[off]? = some v:=by
    rw [List.getElem?_toArray]
    have:=congrArg (·[0]?) hd
    simpa [List.getElem?_take,List.getElem?_drop] using this
   simp only [part,Sem.run_bind,hagg,Result.andThen_ok,Bool.false_eq_true,if_false,hv,Sem.run_pure]
def EqS (P:Program) (d:Nat) (t:TypeId) (l:List Leaf):Prop:=∀ (w:World) (xs ys:List Value) (r:Bool) (x y:Value),gT l xs ys=some r->VT P t xs x->VT P t ys y->(Op.equalIn d t x y).run P w = .ok r w
theorem eqFields_run {dd:Nat} {g:TypeId->Option (List Leaf)} (ih:∀ t l,g t=some l->EqS P dd t l/\∃ d,shF P d t=some l) (w:World) (xs ys:List Value):∀ (fs:List Field) (off:Nat) (l:List Leaf) (r:Bool),shFs P g off fs=some l ->
  gT l (xs.drop off) (ys.drop off)=some r->(Op.eqFields dd xs.toArray ys.toArray fs).run P w = .ok r w:=by
 intro fs
 induction fs with
 | nil =>
  intro off l r hs hr
  simp only [shFs,Option.some.injEq] at hs
  subst hs
  have h0:=eqVs_len hr
  cases hx:xs.drop off<;>cases hy:ys.drop off<;>rw [hx,hy] at hr<;>simp [gT] at hr
  subst hr
  simp [Op.eqFields]
 | cons f fs ihf =>
  intro off l r hs hr
  simp only [shFs] at hs
  split at hs
  ·cases hs
  rename_i hname
  cases hg:g f.type with
  | none=>rw [hg] at hs;cases hs
  | some lf =>
  cases hz:tsz P f.type with
  | none=>rw [hg,hz] at hs;cases hs
  | some z =>
  rw [hg,hz] at hs
  simp only at hs
  split at hs
  ·rename_i hlz
   simp only [Option.map_eq_some_iff] at hs
   obtain ⟨m,hm,rfl⟩:=hs
   obtain ⟨r1,r2,e1,e2,rfl⟩:=eqVs_split hr
   obtain ⟨hE,d,hd⟩:=ih _ _ hg
   have hoff:f.offset=off:=by
    by_cases ho:f.offset=off
    ·exact ho
    ·exact absurd (.inr ho) hname
   have hn:f.name ≠ "_" := fun hn=>hname (.inl hn)
   have l1:=eqVs_len e1
   rw [hlz] at e1 e2 l1
   obtain ⟨a,p1,v1⟩:=part_run (cs:=xs) (off:=off) hd hz hlz (by omega) w
   obtain ⟨b,p2,v2⟩:=part_run (cs:=ys) (off:=off) hd hz hlz (by omega) w
   have he:=hE w _ _ _ a b e1 v1 v2
   rw [List.drop_drop,List.drop_drop] at e2
   have ht:=ihf (off+z) m r2 hm e2
   simp only [Op.eqFields,hn,ne_eq,not_false_eq_true,if_true,Sem.run_bind,hoff,p1,p2,he,Result.andThen_ok]
   cases r1
   ·simp
   ·simpa using ht
  ·cases hs
theorem eqItems_run {dd d:Nat} {e:TypeId} {l:List Leaf} {z:Nat} (hE:EqS P dd e l) (hd:shF P d e=some l) (hz:tsz P e=some z) (hlz:l.length=z) (w:World) (xs ys:List Value):∀ (n i:Nat) (r:Bool),
  gT (repLf l n) (xs.drop (i * z)) (ys.drop (i * z))=some r->(Op.eqItems dd e z xs.toArray ys.toArray (List.range' i n)).run P w = .ok r w:=by
 intro n
 induction n with
 | zero =>
  intro i r hr
  simp only [repLf] at hr
  cases hx:xs.drop (i * z)<;>cases hy:ys.drop (i * z)<;>rw [hx,hy] at hr<;>simp [gT] at hr
  subst hr
  simp [Op.eqItems]
 | succ n ih =>
  intro i r hr
  simp only [repLf] at hr
  obtain ⟨r1,r2,e1,e2,rfl⟩:=eqVs_split hr
  have l1:=eqVs_len e1
  rw [hlz] at e1 e2 l1
  obtain ⟨a,p1,v1⟩:=part_run (cs:=xs) (off:=i * z) hd hz hlz (by omega) w
  obtain ⟨b,p2,v2⟩:=part_run (cs:=ys) (off:=i * z) hd hz hlz (by omega) w
  have he:=hE w _ _ _ a b e1 v1 v2
  rw [List.drop_drop,List.drop_drop,← Nat.succ_mul] at e2
  have ht:=ih (i+1) r2 e2
  rw [List.range'_succ]
  simp only [Op.eqItems,Sem.run_bind,p1,p2,he,Result.andThen_ok]
  cases r1
  ·simp
  ·simpa using ht
theorem equalIn_run:∀ (d dd:Nat) (t:TypeId) (l:List Leaf),shF P d t=some l->EqS P (dd+d) t l:=by
 intro d
 induction d with
 | zero=>intro dd t l hs;cases hs
 | succ d ih =>
  intro dd t l hs
  have hs0:=hs
  obtain ⟨b,hb,_⟩:=shF_agg hs
  simp only [shF] at hs
  intro w xs ys r x y hr hx hy
  unfold VT at hx hy
  rw [hb] at hx hy
  unfold tagg at hb
  cases hu:P.underlying t with
  | none=>rw [hu] at hs;cases hs
  | some k =>
   rw [hu] at hs hb
   simp only [Option.map_some,Option.some.injEq] at hb
   cases k<;>simp only [reduceCtorEq,Option.some.injEq] at hs hb
   case bool =>
    subst hs hb
    simp only at hx hy;subst hx hy
    cases x<;>cases y<;>simp [gT,leafEq] at hr
    subst hr
    exact run_equalIn_bool w (dd+d) t _ _ hu
   case int k =>
    subst hs hb
    simp only at hx hy;subst hx hy
    cases x<;>cases y<;>simp only [gT,leafEq,reduceCtorEq] at hr
    split at hr
    ·rename_i a b ha hb'
     split at ha
     ·rename_i hk
      injection ha with ha;injection hb' with hb';injection hr with hr
      subst ha hb' hr
      obtain ⟨rfl,rfl⟩:=hk
      rw [show dd+(d+1)=(dd+d)+1 from rfl,run_equalIn_int w (dd+d) t _ _ _ _ hu,Bool.and_true]
     ·cases ha
    ·cases hr
   case string =>
    subst hs hb
    simp only at hx hy;subst hx hy
    cases x<;>cases y<;>simp [gT,leafEq] at hr
    subst hr
    exact run_equalIn_string w (dd+d) t _ _ hu
   case array n e =>
    subst hb
    simp only at hx hy;subst hx hy
    cases hl:shF P d e with
    | none=>rw [hl] at hs;cases hs
    | some le =>
    cases hz:tsz P e with
    | none=>rw [hl,hz] at hs;cases hs
    | some z =>
    rw [hl,hz] at hs
    simp only at hs
    split at hs
    ·rename_i hlz
     injection hs with hs;subst hs
     obtain ⟨i,hi,hsz⟩:=info_of_tsz hz
     rw [show dd+(d+1)=(dd+d)+1 from rfl,run_equalIn_array w (dd+d) xs.toArray ys.toArray hu hi,show P.cellsOf e=z from by simp [Program.cellsOf,hi,hsz]]
     have:=eqItems_run (ih dd e le hl) hl hz hlz w xs ys n 0 r (by simpa using hr)
     rw [List.range_eq_range']
     exact this
    ·cases hs
   case struct fs =>
    subst hb
    simp only at hx hy;subst hx hy
    split at hs
    ·cases hs
    ·rename_i hst
     have hfo:P.fieldsOf t=fs:=by simp [Program.fieldsOf,hu]
     rw [show dd+(d+1)=(dd+d)+1 from rfl,run_equalIn_struct w (dd+d) t _ _ (by rw [hfo];exact hu) (by simpa using hst),hfo]
     exact eqFields_run (fun t' l' hl'=>⟨ih dd t' l' hl',d,hl'⟩) w xs ys fs.toList 0 l r hs (by simpa using hr)
theorem eqSh_eqVs:∀ {l:List Leaf} {x y:List AV} {r:Bool},bM l x y=some r->∀ (vx vy:List Value),x.length=vx.length->y.length=vy.length ->
  (∀ (i:Nat) (a:AV) (v:Value),x[i]? = some a->vx[i]? = some v->VR E a v)->(∀ (i:Nat) (a:AV) (v:Value),y[i]? = some a->vy[i]? = some v->VR E a v)->gT l vx vy=some r:=by
 intro l
 induction l with
 | nil =>
  intro x y r hr vx vy hx hy _ _
  cases x<;>cases y<;>simp only [bM,reduceCtorEq,Option.some.injEq] at hr
  subst hr
  have:vx=[]:=List.eq_nil_of_length_eq_zero hx.symm
  have:vy=[]:=List.eq_nil_of_length_eq_zero hy.symm
  subst vx vy
  rfl
 | cons f l ih =>
  intro x y r hr vx vy hx hy gx gy
  cases x with
  | nil=>cases f<;>simp [bM] at hr
  | cons a x=>cases y with
   | nil=>cases f<;>cases a<;>simp [bM] at hr
   | cons b y=>cases vx with
    | nil=>simp at hx
    | cons va vx=>cases vy with
     | nil=>simp at hy
     | cons vb vy =>
      have ha:=gx 0 a va rfl rfl
      have hb:=gy 0 b vb rfl rfl
      have tl:∀ {s:Bool},bM l x y=some s->gT l vx vy=some s:=fun hs=>ih hs vx vy (by simpa using hx) (by simpa using hy) (fun i a v h1 h2=>gx (i+1) a v (by simpa using h1) (by simpa using h2)) fun i a v h1 h2=>gy (i+1) a v (by simpa using h1) (by simpa using h2)
      cases f with
      | i k =>
       cases a<;>cases b<;>simp only [bM,reduceCtorEq] at hr
       obtain rfl:=vM ha
       obtain rfl:=vM hb
       split at hr
       ·rename_i s hk hs
        injection hr with hr;subst hr
        simp only [Bool.and_eq_true,beq_iff_eq] at hk
        simp only [gT,leafEq,if_pos hk,tl hs,bEq]
       ·cases hr
      | b =>
       cases a<;>cases b<;>simp only [bM,reduceCtorEq] at hr
       obtain rfl:=qV ha
       obtain rfl:=qV hb
       split at hr
       ·rename_i s hs
        injection hr with hr;subst hr
        simp only [gT,leafEq,tl hs,bB]
       ·cases hr
      | s =>
       cases a<;>cases b<;>simp only [bM,reduceCtorEq] at hr
       obtain rfl:=VR_str ha
       obtain rfl:=VR_str hb
       split at hr
       ·rename_i s hs
        injection hr with hr;subst hr
        simp only [gT,leafEq,tl hs,sEq]
       ·cases hr
theorem shOk_of {sh:TypeId->Option (List Leaf)} (hs:∀ t l,sh t=some l->shF P 9 t=some l/\tagg P t=some true/\P.eqGuardType P.depth t=false):fN P sh:=by
 intro t l hl E x y vx vy r hx hy hr
 obtain ⟨h1,h2,h3⟩:=hs t l hl
 refine ⟨h3,fun w=>?_⟩
 cases hx with
 | agg _ _ lx _ gx =>
 cases hy with
 | agg _ _ ly _ gy =>
 have he:=eqSh_eqVs hr vx.toList vy.toList (by simpa using lx) (by simpa using ly) (fun i a v h1 h2=>gx i a v h1 (by simpa using h2)) fun i a v h1 h2=>gy i a v h1 (by simpa using h2)
 exact equalIn_run (P:=P) 9 9991 t l h1 w _ _ r _ _ he (by unfold VT;rw [h2]) (by unfold VT;rw [h2])
end Go.Am

namespace Go.Am
set_option linter.unusedVariables false

theorem pureC_eq (body:List AV->AR) (l:List AV) (h:List ABlk):yR body l h=pureR (jN h l) (body (roL h l)):=rfl
theorem wrap_nat (k:IntKind) (hs:k.signed=false) (n:Nat) (hn:n < 2 ^ k.bits):k.wrap (n:Int)=n:=by
 have h1:((n:Int) % (2 ^ k.bits:Int))=n:=by
  rw [show (2 ^ k.bits:Int)=((2 ^ k.bits:Nat):Int) from by simp,← Int.natCast_emod,Nat.mod_eq_of_lt hn]
 simp only [IntKind.wrap,hs,Bool.false_and,Bool.false_eq_true,if_false,h1]
theorem shrI_nat (k:IntKind) (m s:Nat) (h:s <= k.bits):shrI k m s=((m / 2 ^ s:Nat):Int):=by
 unfold shrI
 rw [Int.toNat_natCast,Nat.min_eq_left h,show (2 ^ s:Int)=((2 ^ s:Nat):Int) from by simp,Int.fdiv_eq_ediv_of_nonneg _ (Int.natCast_nonneg _),← Int.natCast_ediv]
end Go.Am

namespace Go.Am
set_option linter.unusedVariables false
variable {P:Program} {E:Env} {h:List ABlk}

/-! ### Rows of a list -/
end Go.Am

namespace Go.Am
set_option linter.unusedVariables false
variable {P:Program} {E:Env} {h:List ABlk}

end Go.Am

namespace Go.Am
set_option linter.unusedVariables false
variable {P:Program} {E:Env} {h:List ABlk}

def WkV (v v':AV):Prop:=∀ (E:Env) (u:Value),VR E v' u->VR E v u
theorem WkV_refl (v:AV):WkV v v:=fun _ _ h=>h
end Go.Am

namespace Go.Am
set_option linter.unusedVariables false
variable {P:Program} {E:Env} {h:List ABlk}

def keepT (ds:List Nat) (t:List AV):List AV:=(List.range t.length).map fun i=>bif inL i ds then zL t i else .top
def Trip (P:Program) (o:Oper) (t:List AV) (g:List ABlk) (v:AV) (hh:List ABlk):Prop :=
 ∀ (E:Env) (a:Act) (K:Act->World->Prop) (Q:Exit->Act->World->Prop),HR E g->FR E t a.tmps->(∀ r E',Ext E g E' hh->HR E' hh->VR E' v r->K (a.put o.dst r) E'.w)->o.wp P a E.w K Q
def StepS (P:Program) (ops:Array Oper) (L:Nat) (o:Oper) (t:List AV) (h:List ABlk) (s:Nat) (t':List AV) (h':List ABlk) (s':Nat) (rs tg:List Nat):Prop :=
 (tg=[]/\h'=h/\s'=s/\gval t ops.toList o.guard = .g false/\∃ x,t'=wW t o.dst (.opt false x)) ∨
 (tg=[]/\h'=h/\s'=s/\∃ v wv,(gval t ops.toList o.guard = .none/\wv=v ∨ gval t ops.toList o.guard = .g true/\wv = .opt true v)/\Trip P o (keepT (o.looksAt ops) t) (mask rs h) v (mask rs h)/\t'=wW t o.dst wv) ∨
 (∃ v hh wv,(gval t ops.toList o.guard = .none/\wv=ren L s v ∨ gval t ops.toList o.guard = .g true/\wv = .opt true (ren L s v))/\Trip P o (keepT (o.looksAt ops) t) (mask rs h) v hh /\
  (L < hh.length->nrH L hh)/\tg=rs ++ xK s (hh.length - L)/\h'=place rs s hh h/\s'=s+(hh.length - L)/\t'=wW t o.dst wv)
theorem StepS.facts {ops:Array Oper} {L:Nat} {o:Oper} {t t':List AV} {h h':List ABlk} {s s':Nat} {rs tg:List Nat} (st:StepS P ops L o t h s t' h' s' rs tg) :
  (∃ x,t'=wW t o.dst x)/\h'.length=h.length/\s <= s'/\∀ b,inL b tg=false->h.length=L->geth h' b=geth h b:=by
 rcases st with ⟨rfl,rfl,rfl,_,x,rfl⟩|⟨rfl,rfl,rfl,v,wv,_,_,rfl⟩|⟨v,hh,wv,_,_,_,rfl,rfl,rfl,rfl⟩
 ·exact ⟨⟨_,rfl⟩,rfl,Nat.le_refl _,fun _ _ _=>rfl⟩
 ·exact ⟨⟨_,rfl⟩,rfl,Nat.le_refl _,fun _ _ _=>rfl⟩
 ·refine ⟨⟨_,rfl⟩,gC ..,Nat.le_add_right _ _,fun b hb hL=>?_⟩
  rw [inL_append,inL_slots,Bool.or_eq_false_iff] at hb
  rw [xQ,xQ,gL,hL,hb.2,hb.1]
  simp
end Go.Am

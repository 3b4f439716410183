/-
  Buffers: what is too old is dropped.
-/
import Derived.Test.YtefiemaoacmdkaaBZ
namespace Go.Proofs.Ytefiemaoacmdkaa
open Go.Am
set_option linter.unusedVariables false
set_option linter.unusedSimpArgs false
section
variable {α β:Type} [Inhabited α]
theorem fil_full {p:α->Bool} {l:List α} {n:Nat} (hn:n <= l.length) (h:∀ j:Nat,j < n->p (gd l j)=true):(l.take n).filter p=l.take n:=List.filter_eq_self.2 fun x hx=>by
 obtain ⟨j,hj,rfl⟩:=List.getElem_of_mem hx
 rw [List.length_take] at hj
 rw [List.getElem_take,tV (by omega)];exact h j (by omega)
theorem fil_none {p:α->Bool} {l:List α} {n:Nat} (hn:n <= l.length) (h:∀ j:Nat,j < n->p (gd l j)=false):(l.take n).filter p=[]:=List.filter_eq_nil_iff.2 fun x hx=>by
 obtain ⟨j,hj,rfl⟩:=List.getElem_of_mem hx
 rw [List.length_take] at hj
 rw [List.getElem_take,tV (by omega),h j (by omega)];simp
theorem cut_gen {R:Type} {step:Int × List β × List α × Int->Option (Lp (Int × List β × List α × Int) ((List α × Int × List β) ⊕ R))} (l:List α) (p:α->Bool) (fr:α->β) (d0:List β)
  (hs:∀ (j:Nat) (d:List β) (L:List α) (i:Nat),j < l.length->L.length=l.length->i <= j->gd L j=gd l j->d.length <= d0.length+j ->
   step ((j:Int),d,L,(i:Int))=bif p (gd l j) then some (.next (((j+1:Nat):Int),d,L.set i (gd l j),((i+1:Nat):Int))) else some (.next (((j+1:Nat):Int),d ++ [fr (gd l j)],L,(i:Int))))
  (he:∀ (d:List β) (L:List α) (i:Nat),L.length=l.length->step ((l.length:Int),d,L,(i:Int))=some (.done (.inl (L,(i:Int),d))))
  (k:Nat) (hk:k < l.length) (hp:∀ x,x < k->p (gd l x)=true) (hn:p (gd l k)=false) :
  ∃ (L:List α) (i:Nat),i <= L.length/\L.take i=l.filter p/\xC step (((k+1:Nat):Int),d0 ++ [fr (gd l k)],l,(k:Int))=some (.inl (L,(i:Int),d0 ++ (l.filter fun q=>!p q).map fr)):=by
 obtain ⟨b,l1,l2⟩:=uV (step:=step)
  (fun s=>∃ j i:Nat,s.1=j/\s.2.2.2=i/\i <= j/\j <= l.length/\s.2.2.1.length=l.length/\s.2.2.1.take i=(l.take j).filter p/\(∀ m:Nat,j <= m->gd s.2.2.1 m=gd l m)/\s.2.1=d0 ++ ((l.take j).filter fun q=>!p q).map fr)
  (fun b=>∃ (L:List α) (i:Nat),i <= L.length/\L.take i=l.filter p/\b = .inl (L,(i:Int),d0 ++ (l.filter fun q=>!p q).map fr)) (fun s=>(l.length - s.1).toNat)
  (fun s hS=>by
   obtain ⟨x,d,L,y⟩:=s
   obtain ⟨j,i,q1,q2,q3,q4,q5,q6,q7,q8⟩:=hS
   simp only at q1 q2 q5 q6 q7 q8
   subst q1 q2
   by_cases hj:j < l.length
   ·right
    have hd:d.length <= d0.length+j:=by
     rw [q8,List.length_append,List.length_map]
     have:=List.length_filter_le (fun q=>!p q) (l.take j)
     rw [List.length_take] at this;omega
    rw [hs j d L i hj q5 q3 (q7 j (Nat.le_refl _)) hd]
    have tf:=eW p l hj
    have tg:=eW (fun q=>!p q) l hj
    cases hb:p (gd l j) with
    | true =>
     simp only [hb,Bool.not_true,cond_false,cond_true] at tf tg
     refine ⟨_,rfl,⟨j+1,i+1,rfl,rfl,by omega,by omega,by simpa using q5,?_,fun m hm=>?_,by simp only;rw [tg];exact q8⟩,by simp only;omega⟩
     ·simp only
      rw [tf,← q6,List.take_succ_eq_append_getElem (by simp;omega),List.getElem_set_self,List.take_set_of_le (Nat.le_refl _)]
     ·simp only
      rw [← q7 m (by omega)]
      simp only [gd,List.getD_eq_getElem?_getD,List.getElem?_set]
      rw [if_neg (by omega)]
    | false =>
     simp only [hb,Bool.not_false,cond_false,cond_true] at tf tg
     exact ⟨_,rfl,⟨j+1,i,rfl,rfl,by omega,by omega,q5,by simp only;rw [tf];exact q6,fun m hm=>q7 m (by omega),by simp only;rw [tg,q8,List.map_append,List.append_assoc];rfl⟩,by simp only;omega⟩
   ·left
    obtain rfl:j=l.length:=by omega
    rw [List.take_length] at q6 q8
    exact ⟨_,he d L i q5,L,i,by omega,q6,by rw [q8]⟩) (((k+1:Nat):Int),d0 ++ [fr (gd l k)],l,(k:Int)) ⟨k+1,k,rfl,rfl,by omega,by omega,rfl,by
    simp only
    rw [eW _ _ hk,hn,cond_false,fil_full (by omega) hp],fun m _=>rfl,by
    simp only
    rw [eW _ _ hk,hn,Bool.not_false,cond_true,fil_none (p:=fun q=>!p q) (by omega) (fun x hx=>by rw [hp x hx];rfl)];rfl⟩
 obtain ⟨L,i,h1,h2,rfl⟩:=l2
 exact ⟨L,i,h1,h2,l1⟩
end
def yg (st t:Int) (q:TStored):Bool:=decide (t < q.At+st)
def Aq (l:List TStored):Prop:=l.length <= 1000/\∀ q ∈ l,0 <= q.At/\q.At <= 1099511627776
def olds (st t:Int) (l:List TStored):List TFrame:=(l.filter fun q=>!yg st t q).map fun q=>q.Frame
def yngs (st t:Int) (s:TSleeper):TSleeper:=⟨s.Aid,s.Asleep,s.Held.filter (yg st t)⟩
theorem olds_len (st t:Int) (l:List TStored):(olds st t l).length <= l.length:=by unfold olds;rw [List.length_map];exact List.length_filter_le ..
theorem cutL4 (b:TBuffer) (t:Int) (l:List TStored) (d0:List TFrame) (hb:0 <= b.Stay/\b.Stay <= 1073741824) (ha:Aq l) (hd:d0.length <= 200000) (k:Nat) (hk:k < l.length) (hp:∀ x,x < k->yg b.Stay t (gd l x)=true) (hn:yg b.Stay t (gd l k)=false) :
  ∃ (L:List TStored) (i:Nat),i <= L.length/\L.take i=l.filter (yg b.Stay t)/\xC (fun s=>cE b t s.1 s.2.1 s.2.2.1 s.2.2.2) (((k+1:Nat):Int),d0 ++ [(gd l k).Frame],l,(k:Int))=some (.inl (L,(i:Int),d0 ++ olds b.Stay t l)) :=
 cut_gen (step:=fun s=>cE b t s.1 s.2.1 s.2.2.1 s.2.2.2) l (yg b.Stay t) (fun q=>q.Frame) d0 (fun j d L i hj hL hi hg hdl=>by
  have hq:=ha.2 _ (xT hj)
  have hl:=ha.1
  show cE b t j d L i=_
  unfold cE
  rw [yX (by simp [yD];omega),zP (yN (by omega)),Int.toNat_natCast,hg,qB (x:=(gd l j).At+b.Stay) (by omega)]
  by_cases h:t < (gd l j).At+b.Stay
  ·rw [yR (by simp [vQ];omega),zP (yN (by omega)),Int.toNat_natCast,xO hj (by omega),xO (i:=i) (n:=l.length) (by omega) (by omega),yX (by simp [yg,h])]
  ·rw [yX (by simp [vQ];omega),uR (by omega) (by omega),xO hj (by omega),yR (by simp [yg];omega)])
  (fun d L i hL=>by
   show cE b t (l.length:Int) d L i=_
   unfold cE
   rw [yR (by simp [yD,hL])]) k hk hp hn
theorem cutL6 (b:TBuffer) (t:Int) (l:List TStored) (d0:List TFrame) (hb:0 <= b.Stay/\b.Stay <= 1073741824) (ha:Aq l) (hd:d0.length <= 200000) (k:Nat) (hk:k < l.length) (hp:∀ x,x < k->yg b.Stay t (gd l x)=true) (hn:yg b.Stay t (gd l k)=false) :
  ∃ (L:List TStored) (i:Nat),i <= L.length/\L.take i=l.filter (yg b.Stay t)/\xC (fun s=>F25_L6 b t s.1 s.2.1 s.2.2.1 s.2.2.2) (((k+1:Nat):Int),d0 ++ [(gd l k).Frame],l,(k:Int))=some (.inl (L,(i:Int),d0 ++ olds b.Stay t l)) :=
 cutL4 b t l d0 hb ha hd k hk hp hn
theorem olds_no {st t:Int} {l:List TStored} (h:∀ x,x < l.length->yg st t (gd l x)=true):l.filter (yg st t)=l/\olds st t l=[]:=by
 have h1:=fil_full (Nat.le_refl _) h
 have h2:=fil_none (p:=fun q=>!yg st t q) (l:=l) (Nat.le_refl _) (fun x hx=>by rw [h x hx];rfl)
 rw [List.take_length] at h1 h2
 exact ⟨h1,by unfold olds;rw [h2];rfl⟩
theorem first_old (st t:Int) (l:List TStored):(∀ x,x < l.length->yg st t (gd l x)=true) ∨ ∃ k,k < l.length/\(∀ x,x < k->yg st t (gd l x)=true)/\yg st t (gd l k)=false:=by
 obtain ⟨a,h1,h2,h3⟩:=cut_ex (fun i=>yg st t (gd l i)=false) l.length
 rcases Nat.lt_or_ge a l.length with h|h
 ·exact .inr ⟨a,h,fun x hx=>by simpa using h2 x hx,h3 h⟩
 ·exact .inl fun x hx=>by simpa using h2 x (by omega)
theorem age2_step (b:TBuffer) (t:Int) (w:List TSleeper) (i:Nat) (L:List TSleeper) (d:List TFrame) (hw:i < w.length) (hi:i < L.length) (hwl:w.length <= 1000) (hb:0 <= b.Stay/\b.Stay <= 1073741824) (ha:Aq (gd L i).Held) (hd:d.length <= 100000) :
  eX b t w i L d=some (.next (((i+1:Nat):Int),L.set i (yngs b.Stay t (gd L i)),d ++ olds b.Stay t (gd L i).Held)):=by
 unfold eX
 rw [yX (by simp [yD];omega),zP (yN hi),zP (yN hi)]
 have hl:=ha.1
 rcases first_old b.Stay t (gd L i).Held with h|⟨k,h1,h2,h3⟩
 ·have l1:=kA (step:=fun s=>eY b t i L d s) (R:=Lp (Int × (List TSleeper) × (List TFrame)) (((List TSleeper) × (List TFrame)) ⊕ ((List TFrame) × TBuffer × Int))) (gd L i).Held.length (fun k=>(k:Int)) () (fun k hk=>by
    have hq:=ha.2 _ (xT hk)
    have hy:=h k hk
    unfold yg at hy
    simp only [decide_eq_true_eq] at hy
    show eY b t i L d k=_
    unfold eY
    rw [Int.toNat_natCast,yX (by simp [yD];omega),zP (yN hk),Int.toNat_natCast,qB (x:=(gd (gd L i).Held k).At+b.Stay) (by omega),yR (by simp [vQ];omega),xO hk (by omega)])
   (by show eY b t i L d ((gd L i).Held.length:Nat)=_;unfold eY;rw [Int.toNat_natCast,yR (by simp [yD])])
  rw [wZ (by simpa using l1),zP (by simp [yD];omega),xO hw (by omega),Int.toNat_natCast]
  obtain ⟨g1,g2⟩:=olds_no h
  rw [g2,List.append_nil]
  unfold yngs
  rw [g1]
 ·obtain ⟨X,m,m1,m2,m3⟩:=cutL4 b t (gd L i).Held d hb ha (by omega) k h1 h2 h3
  obtain ⟨r,l1,l2⟩:=gS (step:=fun s=>eY b t i L d s) (k+1) (fun n=>n <= k) (fun r=>r = .inr (.next (((i+1:Nat):Int),L.set i (yngs b.Stay t (gd L i)),d ++ olds b.Stay t (gd L i).Held))) (by omega)
   (fun x hx hI=>by
    have hxl:x < (gd L i).Held.length:=by omega
    have hq:=ha.2 _ (xT hxl)
    unfold eY
    rw [Int.toNat_natCast,yX (by simp [yD];omega),zP (yN hxl),Int.toNat_natCast,qB (x:=(gd (gd L i).Held x).At+b.Stay) (by omega)]
    rcases Nat.lt_or_eq_of_le hI with q|rfl
    ·have hy:=h2 x q
     unfold yg at hy
     simp only [decide_eq_true_eq] at hy
     rw [yR (by simp [vQ];omega),xO hxl (by omega)]
     exact .inr ⟨rfl,by omega⟩
    ·have hy:=h3
     unfold yg at hy
     simp only [decide_eq_false_iff_not] at hy
     rw [yX (by simp [vQ];omega),uR (by omega) (by omega),yR (by simp only [xJ,decide_eq_false_iff_not];omega),xO hxl (by omega)]
     refine .inl ⟨_,?_,rfl⟩
     rw [wZ m3]
     simp only
     rw [zP (dP.2 (by omega)),zP (dP.2 (by omega)),zP (by simp [yD];omega),xO hw (by omega),Int.toNat_natCast,m2]
     rfl)
   (fun hI=>by omega)
  subst l2
  rw [lp_inr l1]
theorem age5_ok (b:TBuffer) (t:Int) (g:List TStored) (L:List TSleeper) (d:List TFrame) (hb:0 <= b.Stay/\b.Stay <= 1073741824) (ha:Aq g) (hd:d.length <= 100000) :
  lp (xC (fun s=>fI b t g L d s) 0) (fun _=>some (d,(TBuffer.mk b.Limit b.Stay L g),(0:Int))) some=some (d ++ olds b.Stay t g,TBuffer.mk b.Limit b.Stay L (g.filter (yg b.Stay t)),0):=by
 have hl:=ha.1
 rcases first_old b.Stay t g with h|⟨k,h1,h2,h3⟩
 ·have l1:=kA (step:=fun s=>fI b t g L d s) (R:=(List TFrame) × TBuffer × Int) g.length (fun k=>(k:Int)) () (fun k hk=>by
    have hq:=ha.2 _ (xT hk)
    have hy:=h k hk
    unfold yg at hy
    simp only [decide_eq_true_eq] at hy
    show fI b t g L d k=_
    unfold fI
    rw [yX (by simp [yD];omega),zP (yN hk),Int.toNat_natCast,qB (x:=(gd g k).At+b.Stay) (by omega),yR (by simp [vQ];omega),xO hk (by omega)])
   (by show fI b t g L d (g.length:Nat)=_;unfold fI;rw [yR (by simp [yD])])
  rw [wZ (by simpa using l1)]
  obtain ⟨g1,g2⟩:=olds_no h
  rw [g2,List.append_nil,g1]
 ·obtain ⟨X,m,m1,m2,m3⟩:=cutL6 b t g d hb ha (by omega) k h1 h2 h3
  obtain ⟨r,l1,l2⟩:=gS (step:=fun s=>fI b t g L d s) (k+1) (fun n=>n <= k) (fun r=>r = .inr (d ++ olds b.Stay t g,TBuffer.mk b.Limit b.Stay L (g.filter (yg b.Stay t)),0)) (by omega)
   (fun x hx hI=>by
    have hxl:x < g.length:=by omega
    have hq:=ha.2 _ (xT hxl)
    unfold fI
    rw [yX (by simp [yD];omega),zP (yN hxl),Int.toNat_natCast,qB (x:=(gd g x).At+b.Stay) (by omega)]
    rcases Nat.lt_or_eq_of_le hI with q|rfl
    ·have hy:=h2 x q
     unfold yg at hy
     simp only [decide_eq_true_eq] at hy
     rw [yR (by simp [vQ];omega),xO hxl (by omega)]
     exact .inr ⟨rfl,by omega⟩
    ·have hy:=h3
     unfold yg at hy
     simp only [decide_eq_false_iff_not] at hy
     rw [yX (by simp [vQ];omega),uR (by omega) (by omega),yR (by simp only [xJ,decide_eq_false_iff_not];omega),xO hxl (by omega)]
     refine .inl ⟨_,?_,rfl⟩
     rw [wZ m3]
     simp only
     rw [zP (dP.2 (by omega)),zP (dP.2 (by omega)),Int.toNat_natCast,m2]
     rfl)
   (fun hI=>by omega)
  subst l2
  rw [lp_inr l1]
def aged (b:TBuffer) (t:Int):TBuffer:=⟨b.Limit,b.Stay,b.List.map (yngs b.Stay t),b.Group.filter (yg b.Stay t)⟩
def drops (b:TBuffer) (t:Int):List TFrame:=(b.List.flatMap fun s=>olds b.Stay t s.Held) ++ olds b.Stay t b.Group
theorem map_snoc_set {f:TSleeper->TSleeper} {l:List TSleeper} {i:Nat} (h:i < l.length):((l.take i).map f ++ l.drop i).set i (f (gd l i))=(l.take (i+1)).map f ++ l.drop (i+1):=by
 rw [qN h,List.map_append,List.append_assoc,List.set_append_right _ _ (by simp;omega)]
 congr 1
 rw [List.length_map,List.length_take,Nat.min_eq_left (by omega),Nat.sub_self,List.drop_eq_getElem_cons h,tV h]
 rfl
theorem age_ok (b:TBuffer) (t:Int) (hc:F18 b=some 0) (hn:Nb b) (hq:Bq b) (hb:0 <= b.Stay/\b.Stay <= 1073741824) (ha:Aq b.Group/\∀ s ∈ b.List,Aq s.Held) (ht:0 <= t/\t <= 1099511627776) (hl:b.List.length <= 40) (hh:∀ s ∈ b.List,s.Held.length <= 70) :
  F25 b t=some (drops b t,aged b t,0):=by
 obtain ⟨n1,n2,n3⟩:=hn
 unfold F25 F61 F92
 rw [hc,Option.bind_some,yR (by simp [xJ]),Option.bind_some,yR (by simp [vQ];omega),uR (by omega) (by omega),Option.bind_some]
 have l1:=kA (step:=fun s=>cD b.List s.1 s.2) (R:=List TFrame × TBuffer × Int) b.List.length (fun i=>((i:Int),b.List)) b.List (fun i hi=>by
   show cD b.List i b.List=_
   unfold cD
   rw [yX (by simp [yD];omega),zP (yN hi),Int.toNat_natCast,bD _ (n3 _ (xT hi)) (hq.2 _ (xT hi)),Option.bind_some,zP (yN hi),zP (by simp [yD];omega),xO hi (by omega)]
   rw [show b.List.set i _=b.List from set_gd b.List i])
  (by show cD b.List _ b.List=_;unfold cD;rw [yR (by simp [yD]),zP (by simp [vQ])])
 replace l1:xC (fun s=>cD b.List s.1 s.2) ((0:Int),b.List)=some (.inl b.List):=by simpa using l1
 rw [wZ l1,bD _ n2 hq.1,Option.bind_some]
 have dl:∀ i,i <= b.List.length->((b.List.take i).flatMap fun s=>olds b.Stay t s.Held).length <= 70 * i:=by
  intro i
  induction i with
  | zero=>intro _;simp
  | succ i ih =>
   intro hi
   rw [qN (show i < b.List.length by omega),List.flatMap_append,List.length_append]
   have h1:=ih (by omega)
   have h2:=olds_len b.Stay t (gd b.List i).Held
   have h3:=hh _ (xT (show i < b.List.length by omega))
   simp only [List.flatMap_cons,List.flatMap_nil,List.append_nil]
   omega
 have l2:=kA (step:=fun s=>eX b t b.List s.1 s.2.1 s.2.2) (R:=List TFrame × TBuffer × Int) b.List.length
  (fun i=>((i:Int),(b.List.take i).map (yngs b.Stay t) ++ b.List.drop i,(b.List.take i).flatMap fun s=>olds b.Stay t s.Held)) (b.List.map (yngs b.Stay t),b.List.flatMap fun s=>olds b.Stay t s.Held) (fun i hi=>by
   show eX b t b.List (i:Int) ((b.List.take i).map (yngs b.Stay t) ++ b.List.drop i) _=_
   have hg:gd ((b.List.take i).map (yngs b.Stay t) ++ b.List.drop i) i=gd b.List i:=by
    rw [gd_app2 (by simp;omega)]
    simp only [List.length_map,List.length_take,Nat.min_eq_left (Nat.le_of_lt hi),Nat.sub_self]
    simp [gd,List.getD_eq_getElem?_getD]
   rw [age2_step b t b.List i _ _ hi (by simp;omega) n1 hb (by rw [hg];exact ha.2 _ (xT hi)) (by have:=dl i (by omega);simp only;omega),hg,map_snoc_set hi,qN hi,List.flatMap_append]
   simp)
  (by
   show eX b t b.List (b.List.length:Nat) _ _=_
   unfold eX
   rw [yR (by simp [yD])]
   simp)
 replace l2:xC (fun s=>eX b t b.List s.1 s.2.1 s.2.2) ((0:Int),b.List,[])=some (.inl (b.List.map (yngs b.Stay t),b.List.flatMap fun s=>olds b.Stay t s.Held)):=by simpa using l2
 rw [wZ l2]
 have hdl:=dl b.List.length (Nat.le_refl _)
 rw [List.take_length] at hdl
 exact age5_ok b t b.Group _ _ hb ha.1 (by simp only;omega)
/-! ### The buffer behind is in order -/
theorem gd_map' {α γ:Type} [Inhabited α] [Inhabited γ] {f:α->γ} {l:List α} {i:Nat} (h:i < l.length):gd (l.map f) i=f (gd l i):=by simp [gd,List.getD_eq_getElem?_getD,h]
theorem adj_le (k:TStored->Int) (l:List TStored) (h:∀ i:Nat,i < l.length->0 < i->k (gd l (i - 1)) <= k (gd l i)):l.Pairwise (fun a b=>k a <= k b):=by
 rw [List.pairwise_iff_getElem]
 intro i j hi hj hij
 rw [tV hi,tV hj]
 obtain ⟨d,rfl⟩:∃ d,j=i+1+d:=⟨j - i - 1,by omega⟩
 clear hij
 induction d with
 | zero=>have:=h (i+1) hj (by omega);simpa using this
 | succ d ih =>
  have h1:=ih (by omega)
  have h2:=h (i+1+(d+1)) hj (by omega)
  rw [show i+1+(d+1) - 1=i+1+d by omega] at h2
  omega
theorem qu_fil {l:List TStored} {lim top:Int} (p:TStored->Bool) (h:Qu l lim top):Qu (l.filter p) lim top:=by
 obtain ⟨h1,h2⟩:=h
 have hl:=List.length_filter_le p l
 have hs:=(adj_le (fun q=>q.At) l fun i hi h0=>(h2 i hi).2.2 h0).filter p
 rw [List.pairwise_iff_getElem] at hs
 refine ⟨by omega,fun i hi=>?_⟩
 have hm:=xT hi
 rw [List.mem_filter] at hm
 obtain ⟨j,hj,e⟩:=uL hm.1
 have hq:=h2 j hj
 refine ⟨by rw [← e];exact hq.1,by rw [← e];exact hq.2.1,fun h0=>?_⟩
 have:=hs (i - 1) i (by omega) hi (by omega)
 rw [tV,tV] at this
 exact this
theorem vb_aq {b:TBuffer} (h:Vb b):Aq b.Group/\∀ s ∈ b.List,Aq s.Held:=by
 have one:∀ {l:List TStored} {lim top:Int},lim <= 64->Qu l lim top->Aq l:=fun hl h=>⟨by have:=h.1;omega,fun q hq=>by obtain ⟨i,hi,rfl⟩:=uL hq;exact (h.2 i hi).2.1⟩
 exact ⟨one h.1.1.1.2 h.2.1,fun s hs=>by obtain ⟨i,hi,rfl⟩:=uL hs;exact one h.1.1.1.2 (h.1.2 i hi).2.2.1⟩
theorem vb_aged {b:TBuffer} (h:Vb b) {t:Int}:Vb (aged b t):=by
 obtain ⟨⟨hh,hp⟩,hq,ha⟩:=h
 refine ⟨⟨⟨hh.1,hh.2.1,by simpa [aged] using hh.2.2⟩,fun i hi=>?_⟩,qu_fil _ hq,?_⟩
 ·simp only [aged,List.length_map] at hi
  obtain ⟨p1,p2,p3,p4⟩:=hp i hi
  have e:gd (aged b t).List i=yngs b.Stay t (gd b.List i):=gd_map' hi
  refine ⟨?_,by rw [e];exact p2,by rw [e];exact qu_fil _ p3,?_⟩
  ·rw [e]
   unfold jF at p1 ⊢
   split
   ·rename_i h0;rw [if_pos h0] at p1;exact p1
   ·rename_i h0;rw [if_neg h0] at p1
    rw [show gd (aged b t).List (i - 1)=yngs b.Stay t (gd b.List (i - 1)) from gd_map' (by omega)];exact p1
  ·rw [e]
   rcases p4 with p4|p4
   ·exact .inl p4
   ·refine .inr ?_
    have:=List.length_filter_le (yg b.Stay t) (gd b.List i).Held
    simp only [yngs];omega
 ·rcases ha with ha|⟨i,hi,ha⟩
  ·refine .inl ?_
   have:=List.length_filter_le (yg b.Stay t) b.Group
   simp only [aged];omega
  ·exact .inr ⟨i,by simpa [aged] using hi,by rw [show gd (aged b t).List i=yngs b.Stay t (gd b.List i) from gd_map' hi];exact ha⟩
end Go.Proofs.Ytefiemaoacmdkaa

/-
  Buffers: what is too old is dropped.
-/
import Derived.Test.YtefiemaoacmdkaaBZ
namespace Go.Proofs.Ytefiemaoacmdkaa
open Go.Am
set_option linter.unusedVariables false
set_option linter.unusedSimpArgs false
section
variable {α β:Type} [Inhabited α]
theorem fil_full {p:α->Bool} {l:List α} {n:Nat} (hn:n <= l.length) (h:∀ j:Nat,j < n->p (gd l j)=true):(l.take n).filter p=l.take n:=List.filter_eq_self.2 fun x hx=>by
 obtain ⟨j,hj,rfl⟩:=List.getElem_of_mem hx
 rw [List.length_take] at hj
 rw [List.getElem_take,bD (by omega)];exact h j (by omega)
theorem fil_none {p:α->Bool} {l:List α} {n:Nat} (hn:n <= l.length) (h:∀ j:Nat,j < n->p (gd l j)=false):(l.take n).filter p=[]:=List.filter_eq_nil_iff.2 fun x hx=>by
 obtain ⟨j,hj,rfl⟩:=List.getElem_of_mem hx
 rw [List.length_take] at hj
 rw [List.getElem_take,bD (by omega),h j (by omega)];simp
theorem cut_gen {R:Type} {step:Int × List β × List α × Int->Option (Lp (Int × List β × List α × Int) ((List α × Int × List β) ⊕ R))} (l:List α) (p:α->Bool) (fr:α->β) (d0:List β)
  (hs:∀ (j:Nat) (d:List β) (L:List α) (i:Nat),j < l.length->L.length=l.length->i <= j->gd L j=gd l j->d.length <= d0.length+j ->
   step ((j:Int),d,L,(i:Int))=bif p (gd l j) then some (.next (((j+1:Nat):Int),d,L.set i (gd l j),((i+1:Nat):Int))) else some (.next (((j+1:Nat):Int),d ++ [fr (gd l j)],L,(i:Int))))
  (he:∀ (d:List β) (L:List α) (i:Nat),L.length=l.length->step ((l.length:Int),d,L,(i:Int))=some (.done (.inl (L,(i:Int),d))))
  (k:Nat) (hk:k < l.length) (hp:∀ x,x < k->p (gd l x)=true) (hn:p (gd l k)=false) :
  ∃ (L:List α) (i:Nat),i <= L.length/\L.take i=l.filter p/\loopD step (((k+1:Nat):Int),d0 ++ [fr (gd l k)],l,(k:Int))=some (.inl (L,(i:Int),d0 ++ (l.filter fun q=>!p q).map fr)):=by
 obtain ⟨b,l1,l2⟩:=loop_inv (step:=step)
  (fun s=>∃ j i:Nat,s.1=j/\s.2.2.2=i/\i <= j/\j <= l.length/\s.2.2.1.length=l.length/\s.2.2.1.take i=(l.take j).filter p/\(∀ m:Nat,j <= m->gd s.2.2.1 m=gd l m)/\s.2.1=d0 ++ ((l.take j).filter fun q=>!p q).map fr)
  (fun b=>∃ (L:List α) (i:Nat),i <= L.length/\L.take i=l.filter p/\b = .inl (L,(i:Int),d0 ++ (l.filter fun q=>!p q).map fr)) (fun s=>(l.length - s.1).toNat)
  (fun s hS=>by
   obtain ⟨x,d,L,y⟩:=s
   obtain ⟨j,i,q1,q2,q3,q4,q5,q6,q7,q8⟩:=hS
   simp only at q1 q2 q5 q6 q7 q8
   subst q1 q2
   by_cases hj:j < l.length
   ·right
    have hd:d.length <= d0.length+j:=by
     rw [q8,List.length_append,List.length_map]
     have:=List.length_filter_le (fun q=>!p q) (l.take j)
     rw [List.length_take] at this;omega
    rw [hs j d L i hj q5 q3 (q7 j (Nat.le_refl _)) hd]
    have tf:=dQ p l hj
    have tg:=dQ (fun q=>!p q) l hj
    cases hb:p (gd l j) with
    | true =>
     simp only [hb,Bool.not_true,cond_false,cond_true] at tf tg
     refine ⟨_,rfl,⟨j+1,i+1,rfl,rfl,by omega,by omega,by simpa using q5,?_,fun m hm=>?_,by simp only;rw [tg];exact q8⟩,by simp only;omega⟩
     ·simp only
      rw [tf,← q6,List.take_succ_eq_append_getElem (by simp;omega),List.getElem_set_self,List.take_set_of_le (Nat.le_refl _)]
     ·simp only
      rw [← q7 m (by omega)]
      simp only [gd,List.getD_eq_getElem?_getD,List.getElem?_set]
      rw [if_neg (by omega)]
    | false =>
     simp only [hb,Bool.not_false,cond_false,cond_true] at tf tg
     exact ⟨_,rfl,⟨j+1,i,rfl,rfl,by omega,by omega,q5,by simp only;rw [tf];exact q6,fun m hm=>q7 m (by omega),by simp only;rw [tg,q8,List.map_append,List.append_assoc];rfl⟩,by simp only;omega⟩
   ·left
    obtain rfl:j=l.length:=by omega
    rw [List.take_length] at q6 q8
    exact ⟨_,he d L i q5,L,i,by omega,q6,by rw [q8]⟩) (((k+1:Nat):Int),d0 ++ [fr (gd l k)],l,(k:Int)) ⟨k+1,k,rfl,rfl,by omega,by omega,rfl,by
    simp only
    rw [dQ _ _ hk,hn,cond_false,fil_full (by omega) hp],fun m _=>rfl,by
    simp only
    rw [dQ _ _ hk,hn,Bool.not_false,cond_true,fil_none (p:=fun q=>!p q) (by omega) (fun x hx=>by rw [hp x hx];rfl)];rfl⟩
 obtain ⟨L,i,h1,h2,rfl⟩:=l2
 exact ⟨L,i,h1,h2,l1⟩
end
def yg (st t:Int) (q:TStored):Bool:=decide (t < q.At+st)
def Aq (l:List TStored):Prop:=l.length <= 1000/\∀ q ∈ l,0 <= q.At/\q.At <= 1099511627776
def olds (st t:Int) (l:List TStored):List TFrame:=(l.filter fun q=>!yg st t q).map fun q=>q.Frame
def yngs (st t:Int) (s:TSleeper):TSleeper:=⟨s.Aid,s.Asleep,s.Held.filter (yg st t)⟩
theorem olds_len (st t:Int) (l:List TStored):(olds st t l).length <= l.length:=by unfold olds;rw [List.length_map];exact List.length_filter_le ..
theorem cutL4 (b:TBuffer) (t:Int) (l:List TStored) (d0:List TFrame) (hb:0 <= b.Stay/\b.Stay <= 1073741824) (ha:Aq l) (hd:d0.length <= 200000) (k:Nat) (hk:k < l.length) (hp:∀ x,x < k->yg b.Stay t (gd l x)=true) (hn:yg b.Stay t (gd l k)=false) :
  ∃ (L:List TStored) (i:Nat),i <= L.length/\L.take i=l.filter (yg b.Stay t)/\loopD (fun s=>bR b t s.1 s.2.1 s.2.2.1 s.2.2.2) (((k+1:Nat):Int),d0 ++ [(gd l k).Frame],l,(k:Int))=some (.inl (L,(i:Int),d0 ++ olds b.Stay t l)) :=
 cut_gen (step:=fun s=>bR b t s.1 s.2.1 s.2.2.1 s.2.2.2) l (yg b.Stay t) (fun q=>q.Frame) d0 (fun j d L i hj hL hi hg hdl=>by
  have hq:=ha.2 _ (gd_mem hj)
  have hl:=ha.1
  show bR b t j d L i=_
  unfold bR
  rw [bif_t (by simp [bLt_eq];omega),need_true (inb_nat (by omega)),Int.toNat_natCast,hg,wr_in (x:=(gd l j).At+b.Stay) (by omega)]
  by_cases h:t < (gd l j).At+b.Stay
  ·rw [bif_f (by simp [bLe_eq];omega),need_true (inb_nat (by omega)),Int.toNat_natCast,wr_add1 hj (by omega),wr_add1 (i:=i) (n:=l.length) (by omega) (by omega),bif_t (by simp [yg,h])]
  ·rw [bif_t (by simp [bLe_eq];omega),nd_cap (by omega) (by omega),wr_add1 hj (by omega),bif_f (by simp [yg];omega)])
  (fun d L i hL=>by
   show bR b t (l.length:Int) d L i=_
   unfold bR
   rw [bif_f (by simp [bLt_eq,hL])]) k hk hp hn
theorem cutL6 (b:TBuffer) (t:Int) (l:List TStored) (d0:List TFrame) (hb:0 <= b.Stay/\b.Stay <= 1073741824) (ha:Aq l) (hd:d0.length <= 200000) (k:Nat) (hk:k < l.length) (hp:∀ x,x < k->yg b.Stay t (gd l x)=true) (hn:yg b.Stay t (gd l k)=false) :
  ∃ (L:List TStored) (i:Nat),i <= L.length/\L.take i=l.filter (yg b.Stay t)/\loopD (fun s=>F25_L6 b t s.1 s.2.1 s.2.2.1 s.2.2.2) (((k+1:Nat):Int),d0 ++ [(gd l k).Frame],l,(k:Int))=some (.inl (L,(i:Int),d0 ++ olds b.Stay t l)) :=
 cutL4 b t l d0 hb ha hd k hk hp hn
theorem olds_no {st t:Int} {l:List TStored} (h:∀ x,x < l.length->yg st t (gd l x)=true):l.filter (yg st t)=l/\olds st t l=[]:=by
 have h1:=fil_full (Nat.le_refl _) h
 have h2:=fil_none (p:=fun q=>!yg st t q) (l:=l) (Nat.le_refl _) (fun x hx=>by rw [h x hx];rfl)
 rw [List.take_length] at h1 h2
 exact ⟨h1,by unfold olds;rw [h2];rfl⟩
theorem first_old (st t:Int) (l:List TStored):(∀ x,x < l.length->yg st t (gd l x)=true) ∨ ∃ k,k < l.length/\(∀ x,x < k->yg st t (gd l x)=true)/\yg st t (gd l k)=false:=by
 obtain ⟨a,h1,h2,h3⟩:=cut_ex (fun i=>yg st t (gd l i)=false) l.length
 rcases Nat.lt_or_ge a l.length with h|h
 ·exact .inr ⟨a,h,fun x hx=>by simpa using h2 x hx,h3 h⟩
 ·exact .inl fun x hx=>by simpa using h2 x (by omega)
theorem age2_step (b:TBuffer) (t:Int) (w:List TSleeper) (i:Nat) (L:List TSleeper) (d:List TFrame) (hw:i < w.length) (hi:i < L.length) (hwl:w.length <= 1000) (hb:0 <= b.Stay/\b.Stay <= 1073741824) (ha:Aq (gd L i).Held) (hd:d.length <= 100000) :
  dX b t w i L d=some (.next (((i+1:Nat):Int),L.set i (yngs b.Stay t (gd L i)),d ++ olds b.Stay t (gd L i).Held)):=by
 unfold dX
 rw [bif_t (by simp [bLt_eq];omega),need_true (inb_nat hi),need_true (inb_nat hi)]
 have hl:=ha.1
 rcases first_old b.Stay t (gd L i).Held with h|⟨k,h1,h2,h3⟩
 ·have l1:=run_gen (step:=fun s=>dY b t i L d s) (R:=Lp (Int × (List TSleeper) × (List TFrame)) (((List TSleeper) × (List TFrame)) ⊕ ((List TFrame) × TBuffer × Int))) (gd L i).Held.length (fun k=>(k:Int)) () (fun k hk=>by
    have hq:=ha.2 _ (gd_mem hk)
    have hy:=h k hk
    unfold yg at hy
    simp only [decide_eq_true_eq] at hy
    show dY b t i L d k=_
    unfold dY
    rw [Int.toNat_natCast,bif_t (by simp [bLt_eq];omega),need_true (inb_nat hk),Int.toNat_natCast,wr_in (x:=(gd (gd L i).Held k).At+b.Stay) (by omega),bif_f (by simp [bLe_eq];omega),wr_add1 hk (by omega)])
   (by show dY b t i L d ((gd L i).Held.length:Nat)=_;unfold dY;rw [Int.toNat_natCast,bif_f (by simp [bLt_eq])])
  rw [lp_inl (by simpa using l1),need_true (by simp [bLt_eq];omega),wr_add1 hw (by omega),Int.toNat_natCast]
  obtain ⟨g1,g2⟩:=olds_no h
  rw [g2,List.append_nil]
  unfold yngs
  rw [g1]
 ·obtain ⟨X,m,m1,m2,m3⟩:=cutL4 b t (gd L i).Held d hb ha (by omega) k h1 h2 h3
  obtain ⟨r,l1,l2⟩:=loop_for (step:=fun s=>dY b t i L d s) (k+1) (fun n=>n <= k) (fun r=>r = .inr (.next (((i+1:Nat):Int),L.set i (yngs b.Stay t (gd L i)),d ++ olds b.Stay t (gd L i).Held))) (by omega)
   (fun x hx hI=>by
    have hxl:x < (gd L i).Held.length:=by omega
    have hq:=ha.2 _ (gd_mem hxl)
    unfold dY
    rw [Int.toNat_natCast,bif_t (by simp [bLt_eq];omega),need_true (inb_nat hxl),Int.toNat_natCast,wr_in (x:=(gd (gd L i).Held x).At+b.Stay) (by omega)]
    rcases Nat.lt_or_eq_of_le hI with q|rfl
    ·have hy:=h2 x q
     unfold yg at hy
     simp only [decide_eq_true_eq] at hy
     rw [bif_f (by simp [bLe_eq];omega),wr_add1 hxl (by omega)]
     exact .inr ⟨rfl,by omega⟩
    ·have hy:=h3
     unfold yg at hy
     simp only [decide_eq_false_iff_not] at hy
     rw [bif_t (by simp [bLe_eq];omega),nd_cap (by omega) (by omega),bif_f (by simp only [bEq_eq,decide_eq_false_iff_not];omega),wr_add1 hxl (by omega)]
     refine .inl ⟨_,?_,rfl⟩
     rw [lp_inl m3]
     simp only
     rw [need_true (slb_iff.2 (by omega)),need_true (slb_iff.2 (by omega)),need_true (by simp [bLt_eq];omega),wr_add1 hw (by omega),Int.toNat_natCast,m2]
     rfl)
   (fun hI=>by omega)
  subst l2
  rw [lp_inr l1]
theorem age5_ok (b:TBuffer) (t:Int) (g:List TStored) (L:List TSleeper) (d:List TFrame) (hb:0 <= b.Stay/\b.Stay <= 1073741824) (ha:Aq g) (hd:d.length <= 100000) :
  lp (loopD (fun s=>eE b t g L d s) 0) (fun _=>some (d,(TBuffer.mk b.Limit b.Stay L g),(0:Int))) some=some (d ++ olds b.Stay t g,TBuffer.mk b.Limit b.Stay L (g.filter (yg b.Stay t)),0):=by
 have hl:=ha.1
 rcases first_old b.Stay t g with h|⟨k,h1,h2,h3⟩
 ·have l1:=run_gen (step:=fun s=>eE b t g L d s) (R:=(List TFrame) × TBuffer × Int) g.length (fun k=>(k:Int)) () (fun k hk=>by
    have hq:=ha.2 _ (gd_mem hk)
    have hy:=h k hk
    unfold yg at hy
    simp only [decide_eq_true_eq] at hy
    show eE b t g L d k=_
    unfold eE
    rw [bif_t (by simp [bLt_eq];omega),need_true (inb_nat hk),Int.toNat_natCast,wr_in (x:=(gd g k).At+b.Stay) (by omega),bif_f (by simp [bLe_eq];omega),wr_add1 hk (by omega)])
   (by show eE b t g L d (g.length:Nat)=_;unfold eE;rw [bif_f (by simp [bLt_eq])])
  rw [lp_inl (by simpa using l1)]
  obtain ⟨g1,g2⟩:=olds_no h
  rw [g2,List.append_nil,g1]
 ·obtain ⟨X,m,m1,m2,m3⟩:=cutL6 b t g d hb ha (by omega) k h1 h2 h3
  obtain ⟨r,l1,l2⟩:=loop_for (step:=fun s=>eE b t g L d s) (k+1) (fun n=>n <= k) (fun r=>r = .inr (d ++ olds b.Stay t g,TBuffer.mk b.Limit b.Stay L (g.filter (yg b.Stay t)),0)) (by omega)
   (fun x hx hI=>by
    have hxl:x < g.length:=by omega
    have hq:=ha.2 _ (gd_mem hxl)
    unfold eE
    rw [bif_t (by simp [bLt_eq];omega),need_true (inb_nat hxl),Int.toNat_natCast,wr_in (x:=(gd g x).At+b.Stay) (by omega)]
    rcases Nat.lt_or_eq_of_le hI with q|rfl
    ·have hy:=h2 x q
     unfold yg at hy
     simp only [decide_eq_true_eq] at hy
     rw [bif_f (by simp [bLe_eq];omega),wr_add1 hxl (by omega)]
     exact .inr ⟨rfl,by omega⟩
    ·have hy:=h3
     unfold yg at hy
     simp only [decide_eq_false_iff_not] at hy
     rw [bif_t (by simp [bLe_eq];omega),nd_cap (by omega) (by omega),bif_f (by simp only [bEq_eq,decide_eq_false_iff_not];omega),wr_add1 hxl (by omega)]
     refine .inl ⟨_,?_,rfl⟩
     rw [lp_inl m3]
     simp only
     rw [need_true (slb_iff.2 (by omega)),need_true (slb_iff.2 (by omega)),Int.toNat_natCast,m2]
     rfl)
   (fun hI=>by omega)
  subst l2
  rw [lp_inr l1]
def aged (b:TBuffer) (t:Int):TBuffer:=⟨b.Limit,b.Stay,b.List.map (yngs b.Stay t),b.Group.filter (yg b.Stay t)⟩
def drops (b:TBuffer) (t:Int):List TFrame:=(b.List.flatMap fun s=>olds b.Stay t s.Held) ++ olds b.Stay t b.Group
theorem map_snoc_set {f:TSleeper->TSleeper} {l:List TSleeper} {i:Nat} (h:i < l.length):((l.take i).map f ++ l.drop i).set i (f (gd l i))=(l.take (i+1)).map f ++ l.drop (i+1):=by
 rw [take_snoc h,List.map_append,List.append_assoc,List.set_append_right _ _ (by simp;omega)]
 congr 1
 rw [List.length_map,List.length_take,Nat.min_eq_left (by omega),Nat.sub_self,List.drop_eq_getElem_cons h,bD h]
 rfl
theorem age_ok (b:TBuffer) (t:Int) (hc:F18 b=some 0) (hn:Nb b) (hq:Bq b) (hb:0 <= b.Stay/\b.Stay <= 1073741824) (ha:Aq b.Group/\∀ s ∈ b.List,Aq s.Held) (ht:0 <= t/\t <= 1099511627776) (hl:b.List.length <= 40) (hh:∀ s ∈ b.List,s.Held.length <= 70) :
  F25 b t=some (drops b t,aged b t,0):=by
 obtain ⟨n1,n2,n3⟩:=hn
 unfold F25 F61 F92
 rw [hc,Option.bind_some,bif_f (by simp [bEq_eq]),Option.bind_some,bif_f (by simp [bLe_eq];omega),nd_cap (by omega) (by omega),Option.bind_some]
 have l1:=run_gen (step:=fun s=>bQ b.List s.1 s.2) (R:=List TFrame × TBuffer × Int) b.List.length (fun i=>((i:Int),b.List)) b.List (fun i hi=>by
   show bQ b.List i b.List=_
   unfold bQ
   rw [bif_t (by simp [bLt_eq];omega),need_true (inb_nat hi),Int.toNat_natCast,queue_ok _ (n3 _ (gd_mem hi)) (hq.2 _ (gd_mem hi)),Option.bind_some,need_true (inb_nat hi),need_true (by simp [bLt_eq];omega),wr_add1 hi (by omega)]
   rw [show b.List.set i _=b.List from set_gd b.List i])
  (by show bQ b.List _ b.List=_;unfold bQ;rw [bif_f (by simp [bLt_eq]),need_true (by simp [bLe_eq])])
 replace l1:loopD (fun s=>bQ b.List s.1 s.2) ((0:Int),b.List)=some (.inl b.List):=by simpa using l1
 rw [lp_inl l1,queue_ok _ n2 hq.1,Option.bind_some]
 have dl:∀ i,i <= b.List.length->((b.List.take i).flatMap fun s=>olds b.Stay t s.Held).length <= 70 * i:=by
  intro i
  induction i with
  | zero=>intro _;simp
  | succ i ih =>
   intro hi
   rw [take_snoc (show i < b.List.length by omega),List.flatMap_append,List.length_append]
   have h1:=ih (by omega)
   have h2:=olds_len b.Stay t (gd b.List i).Held
   have h3:=hh _ (gd_mem (show i < b.List.length by omega))
   simp only [List.flatMap_cons,List.flatMap_nil,List.append_nil]
   omega
 have l2:=run_gen (step:=fun s=>dX b t b.List s.1 s.2.1 s.2.2) (R:=List TFrame × TBuffer × Int) b.List.length
  (fun i=>((i:Int),(b.List.take i).map (yngs b.Stay t) ++ b.List.drop i,(b.List.take i).flatMap fun s=>olds b.Stay t s.Held)) (b.List.map (yngs b.Stay t),b.List.flatMap fun s=>olds b.Stay t s.Held) (fun i hi=>by
   show dX b t b.List (i:Int) ((b.List.take i).map (yngs b.Stay t) ++ b.List.drop i) _=_
   have hg:gd ((b.List.take i).map (yngs b.Stay t) ++ b.List.drop i) i=gd b.List i:=by
    rw [gd_app2 (by simp;omega)]
    simp only [List.length_map,List.length_take,Nat.min_eq_left (Nat.le_of_lt hi),Nat.sub_self]
    simp [gd,List.getD_eq_getElem?_getD]
   rw [age2_step b t b.List i _ _ hi (by simp;omega) n1 hb (by rw [hg];exact ha.2 _ (gd_mem hi)) (by have:=dl i (by omega);simp only;omega),hg,map_snoc_set hi,take_snoc hi,List.flatMap_append]
   simp)
  (by
   show dX b t b.List (b.List.length:Nat) _ _=_
   unfold dX
   rw [bif_f (by simp [bLt_eq])]
   simp)
 replace l2:loopD (fun s=>dX b t b.List s.1 s.2.1 s.2.2) ((0:Int),b.List,[])=some (.inl (b.List.map (yngs b.Stay t),b.List.flatMap fun s=>olds b.Stay t s.Held)):=by simpa using l2
 rw [lp_inl l2]
 have hdl:=dl b.List.length (Nat.le_refl _)
 rw [List.take_length] at hdl
 exact age5_ok b t b.Group _ _ hb ha.1 (by simp only;omega)
theorem adj_le (k:TStored->Int) (l:List TStored) (h:∀ i:Nat,i < l.length->0 < i->k (gd l (i - 1)) <= k (gd l i)):l.Pairwise (fun a b=>k a <= k b):=by
 rw [List.pairwise_iff_getElem]
 intro i j hi hj hij
 rw [bD hi,bD hj]
 obtain ⟨d,rfl⟩:∃ d,j=i+1+d:=⟨j - i - 1,by omega⟩
 clear hij
 induction d with
 | zero=>have:=h (i+1) hj (by omega);simpa using this
 | succ d ih =>
  have h1:=ih (by omega)
  have h2:=h (i+1+(d+1)) hj (by omega)
  rw [show i+1+(d+1) - 1=i+1+d by omega] at h2
  omega
theorem vb_aq {b:TBuffer} (h:Vb b):Aq b.Group/\∀ s ∈ b.List,Aq s.Held:=by
 have one:∀ {l:List TStored} {lim top:Int},lim <= 64->Qu l lim top->Aq l:=fun hl h=>⟨by have:=h.1;omega,fun q hq=>by obtain ⟨i,hi,rfl⟩:=mem_gd hq;exact (h.2 i hi).2.1⟩
 exact ⟨one h.1.1.1.2 h.2.1,fun s hs=>by obtain ⟨i,hi,rfl⟩:=mem_gd hs;exact one h.1.1.1.2 (h.1.2 i hi).2.2.1⟩
end Go.Proofs.Ytefiemaoacmdkaa

/-
  Loops over lists: checks, first places, filters, binary search, putting in at its place.
-/
import Derived.Test.YtooepgpfaaddbaaGreatPW
namespace Go.Am
set_option linter.unusedVariables false
set_option linter.unusedSimpArgs false
set_option linter.unusedSectionVars false
section
variable {α:Type} [Inhabited α]
theorem gd_at {l:List α} {j:Nat} (h:j < l.length):l[j]=gd l j:=by simp [gd,List.getD_eq_getElem?_getD,h]
theorem take_snoc {l:List α} {i:Nat} (h:i < l.length):l.take (i+1)=l.take i ++ [gd l i]:=by
 rw [List.take_succ_eq_append_getElem h,gd_at h]
theorem run_gen {S E R:Type} {step:S->Option (Lp S (E ⊕ R))} (n:Nat) (f:Nat->S) (e:E) (hs:∀ i:Nat,i < n->step (f i)=some (.next (f (i+1)))) (he:step (f n)=some (.done (.inl e))):yF step (f 0)=some (.inl e):=by
 obtain ⟨b,l1,l2⟩:=loop_forS (step:=step) n f (fun _=>True) (fun b=>b = .inl e) trivial (fun i hi _=>.inr ⟨hs i hi,trivial⟩) (fun _=>⟨_,he,rfl⟩)
 rw [l2] at l1
 exact l1
theorem first_gen {E R:Type} {step:Int->Option (Lp Int (E ⊕ R))} (n:Nat) (p:Nat->Prop) (res:Nat->R) (e:E)
  (hs:∀ i:Nat,i < n->(∀ j,j < i->¬ p j)->(¬ p i/\step i=some (.next ((i+1:Nat):Int))) ∨ (p i/\step i=some (.done (.inr (res i)))))
  (he:step n=some (.done (.inl e))) :
  ((∀ i,i < n->¬ p i)/\yF step 0=some (.inl e)) ∨ ∃ i:Nat,i < n/\p i/\(∀ j,j < i->¬ p j)/\yF step 0=some (.inr (res i)):=by
 obtain ⟨b,l1,l2⟩:=loop_for (step:=step) n (fun k=>∀ i,i < k->¬ p i) (fun b=>(b = .inl e/\∀ i,i < n->¬ p i) ∨ ∃ i:Nat,i < n/\p i/\(∀ j,j < i->¬ p j)/\b = .inr (res i)) (fun i hi=>absurd hi (by omega))
  (fun i hi hI=>by
   rcases hs i hi hI with ⟨q,e⟩|⟨q,e⟩
   ·refine .inr ⟨e,fun j hj=>?_⟩
    rcases Nat.lt_or_eq_of_le (Nat.le_of_lt_succ hj) with h|rfl
    ·exact hI j h
    ·exact q
   ·exact .inl ⟨_,e,.inr ⟨i,hi,q,hI,rfl⟩⟩)
  (fun hI=>⟨_,he,.inl ⟨rfl,hI⟩⟩)
 rcases l2 with ⟨rfl,h⟩|⟨i,h1,h2,h3,rfl⟩
 ·exact .inl ⟨h,l1⟩
 ·exact .inr ⟨i,h1,h2,h3,l1⟩
theorem take_fil (p:α->Bool) (l:List α) {i:Nat} (hi:i < l.length):(l.take (i+1)).filter p=bif p (gd l i) then (l.take i).filter p ++ [gd l i] else (l.take i).filter p:=by
 rw [take_snoc hi,List.filter_append]
 cases h:p (gd l i)<;>simp [h]
theorem del_gen (l:List α) (p:α->Bool) (f:α->Option Bool) (hl:l.length <= 10000) (hf:∀ q ∈ l,f q=some (p q))
  {step1:Int->Option (Lp Int (Unit ⊕ Int))} (hs1:∀ s,step1 s=bif (bLt s (l.length:Nat)) then (need (inb s l.length) <| (f (gd l s.toNat)).bind fun r=>bif r then (some (.done (.inr s))) else (some (.next (wr .i64 (s+1))))) else (some (.done (.inl ()))))
  {step2:List α × Int × Int->Option (Lp (List α × Int × Int) ((List α × Int) ⊕ List α))} (hs2:∀ s,step2 s=bif (bLt s.2.2 (s.1.length:Nat)) then (need (inb s.2.2 s.1.length) <| (f (gd s.1 s.2.2.toNat)).bind fun r=>bif (!r) then (need (inb s.2.1 s.1.length) <| some (.next (s.1.set s.2.1.toNat (gd s.1 s.2.2.toNat),wr .i64 (s.2.1+1),wr .i64 (s.2.2+1)))) else (some (.next (s.1,s.2.1,wr .i64 (s.2.2+1))))) else (some (.done (.inl (s.1,s.2.1))))) :
  ((lp (yF step1 0) (fun e=>some (-1)) some:Option Int).bind fun r1=>bif (bEq r1 (-1)) then (some l) else (lp (yF step2 (l,r1,wr .i64 (r1+1))) (fun e=>need (slb e.2 (e.1.length:Nat) e.1.length) <| need (slb 0 e.2 e.1.length) <| some (List.take e.2.toNat e.1)) some))=some (l.filter fun q=>!p q):=by
 have full:∀ n:Nat,n <= l.length->(∀ j:Nat,j < n->p (gd l j)=false)->(l.take n).filter (fun q=>!p q)=l.take n:=fun n hn h=>List.filter_eq_self.2 fun x hx=>by
  obtain ⟨j,hj,rfl⟩:=List.getElem_of_mem hx
  rw [List.length_take] at hj
  rw [List.getElem_take,gd_at (by omega),h j (by omega)];rfl
 rcases first_gen (step:=step1) l.length (fun i=>p (gd l i)=true) (fun i=>(i:Int)) () (fun i hi _=>by
   rw [hs1,xS (by simp [yW];omega),zD (xG hi),Int.toNat_natCast,hf _ (vZ hi),Option.bind_some]
   cases hp:p (gd l i) with
   | true=>exact .inr ⟨rfl,rfl⟩
   | false=>rw [cond_false,vA hi (by omega)];exact .inl ⟨fun h=>(by cases h),rfl⟩)
  (by rw [hs1,yO (by simp [yW])]) with ⟨h,l1⟩|⟨i0,h1,h2,h3,l1⟩
 ·rw [wE l1,Option.bind_some,xS (by simp [bEq])]
  have:=full l.length (Nat.le_refl _) fun j hj=>by simpa using h j hj
  rw [List.take_length] at this
  rw [this]
 ·rw [lp_inr l1,Option.bind_some,yO (by simp [bEq]),vA h1 (by omega)]
  obtain ⟨b,l1,l2⟩:=kG (step:=step2)
   (fun s=>∃ i j:Nat,s.2.1=i/\s.2.2=j/\i < j/\j <= l.length/\s.1.length=l.length/\s.1.take i=(l.take j).filter (fun q=>!p q)/\∀ m:Nat,j <= m->gd s.1 m=gd l m)
   (fun b=>∃ (L:List α) (i:Nat),b = .inl (L,(i:Int))/\i <= L.length/\L.take i=l.filter (fun q=>!p q)) (fun s=>(l.length - s.2.2).toNat)
   (fun s hS=>by
    obtain ⟨L,x,y⟩:=s
    obtain ⟨i,j,q1,q2,q3,q4,q5,q6,q7⟩:=hS
    simp only at q1 q2 q5 q6 q7
    subst q1 q2
    rw [hs2]
    simp only
    by_cases hj:j < l.length
    ·right
     rw [xS (c:=bLt (j:Int) _) (by simp [yW];omega),zD (xG (by omega)),Int.toNat_natCast,q7 j (Nat.le_refl _),hf _ (vZ hj),Option.bind_some,Int.toNat_natCast,vA hj (by omega),vA (i:=i) (n:=l.length) (by omega) (by omega),zD (xG (i:=i) (by omega))]
     have tf:=take_fil (fun q=>!p q) l hj
     cases hb:p (gd l j) with
     | true =>
      simp only [hb,Bool.not_true,cond_false] at tf
      exact ⟨_,rfl,⟨i,j+1,rfl,rfl,by omega,by omega,q5,by simp only;rw [tf];exact q6,fun m hm=>q7 m (by omega)⟩,by simp only;omega⟩
     | false =>
      simp only [hb,Bool.not_false,cond_true] at tf
      refine ⟨_,rfl,⟨i+1,j+1,rfl,rfl,by omega,by omega,by simpa using q5,?_,fun m hm=>?_⟩,by simp only;omega⟩
      ·simp only
       rw [tf,← q6,List.take_succ_eq_append_getElem (by simp;omega),List.getElem_set_self,List.take_set_of_le (Nat.le_refl _)]
      ·simp only
       rw [← q7 m (by omega)]
       simp only [gd,List.getD_eq_getElem?_getD,List.getElem?_set]
       rw [if_neg (by omega)]
    ·left
     obtain rfl:j=l.length:=by omega
     rw [yO (c:=bLt _ _) (by simp [yW,q5])]
     rw [List.take_length] at q6
     exact ⟨_,rfl,L,i,rfl,by omega,q6⟩) (l,(i0:Int),((i0+1:Nat):Int)) ⟨i0,i0+1,rfl,rfl,by omega,by omega,rfl,by
      simp only
      rw [take_fil _ _ h1,h2,Bool.not_true,cond_false,full i0 (by omega) fun j hj=>by simpa using h3 j hj],fun m _=>rfl⟩
  obtain ⟨L,i,rfl,q1,q2⟩:=l2
  rw [wE l1]
  simp only [Int.toNat_natCast]
  rw [zD (slb_iff.2 (by omega)),zD (slb_iff.2 (by omega)),q2]
theorem half_ok {a b:Nat} (h:a+b <= 100000):wr .i64 (wW .u64 (wr .u64 (wr .i64 ((a:Int)+b))) 1)=(((a+b) / 2:Nat):Int):=by
 rw [uV (x:=(a:Int)+b) (by omega),show ((a:Int)+b)=((a+b:Nat):Int) from by omega]
 rw [show wr .u64 ((a+b:Nat):Int)=((a+b:Nat):Int) from wrap_nat .u64 rfl (a+b) (by show a+b < 2 ^ 64;omega)]
 rw [show wW .u64 ((a+b:Nat):Int) 1=(((a+b) / 2 ^ 1:Nat):Int) from bW .u64 (a+b) 1 (by decide),Nat.pow_one,uV (by omega)]
theorem bs_gen {R:Type} {step:Int × Int->Option (Lp (Int × Int) (Int ⊕ R))} (l:List α) (c:α->Option Int) (a:Nat) (ha:a <= l.length) (hl:l.length <= 10000) (hlo:∀ i:Nat,i < a->∃ r,c (gd l i)=some r/\r < 0) (hhi:∀ i:Nat,a <= i->i < l.length->∃ r,c (gd l i)=some r/\0 <= r)
  (hs:∀ s,step s=bif (bLt s.1 s.2) then (need (inb (wr .i64 (wW .u64 (wr .u64 (wr .i64 (s.1+s.2))) 1)) l.length) <| (c (gd l ((wr .i64 (wW .u64 (wr .u64 (wr .i64 (s.1+s.2))) 1)).toNat))).bind fun r2=>bif (bLt r2 0) then (some (.next (wr .i64 ((wr .i64 (wW .u64 (wr .u64 (wr .i64 (s.1+s.2))) 1))+1),s.2))) else (some (.next (s.1,wr .i64 (wW .u64 (wr .u64 (wr .i64 (s.1+s.2))) 1))))) else (some (.done (.inl s.1)))) :
  yF step (0,(l.length:Nat))=some (.inl (a:Int)):=by
 obtain ⟨r,l1,l2⟩:=kG (step:=step) (fun s=>∃ x y:Nat,s=((x:Int),(y:Int))/\x <= a/\a <= y/\y <= l.length) (fun r=>r = .inl (a:Int)) (fun s=>(s.2 - s.1).toNat)
  (fun s hS=>by
   obtain ⟨x,y,rfl,h1,h2,h3⟩:=hS
   rw [hs]
   simp only
   by_cases hxy:x < y
   ·right
    have hm:(x+y) / 2 < l.length:=by omega
    rw [xS (by simp [yW];omega),half_ok (by omega),zD (xG hm),Int.toNat_natCast]
    by_cases hk:(x+y) / 2 < a
    ·obtain ⟨r,r1,r2⟩:=hlo _ hk
     rw [r1,Option.bind_some,xS (by simp [yW];omega),vA hm (by omega)]
     exact ⟨_,rfl,⟨(x+y) / 2+1,y,rfl,by omega,h2,h3⟩,by simp only;omega⟩
    ·obtain ⟨r,r1,r2⟩:=hhi _ (by omega) hm
     rw [r1,Option.bind_some,yO (by simp [yW];omega)]
     exact ⟨_,rfl,⟨x,(x+y) / 2,rfl,h1,by omega,by omega⟩,by simp only;omega⟩
   ·left
    rw [yO (by simp [yW];omega)]
    exact ⟨_,rfl,by rw [show x=a by omega]⟩) (0,(l.length:Nat)) ⟨0,l.length,rfl,by omega,ha,Nat.le_refl _⟩
 rw [l2] at l1
 exact l1
theorem srt_split (k:α->Int):∀ (l:List α) (x:Int),l.Pairwise (fun a b=>k a < k b)->∃ A B,l=A ++ B/\(∀ q ∈ A,k q < x)/\((∀ q ∈ B,x < k q) ∨ ∃ b B',B=b::B'/\k b=x/\∀ q ∈ B',x < k q)
 | [],x,_=>⟨[],[],rfl,by simp,.inl (by simp)⟩
 | a::l,x,h=>by
  obtain ⟨h1,h2⟩:=List.pairwise_cons.1 h
  rcases Int.lt_trichotomy (k a) x with ha|ha|ha
  ·obtain ⟨A,B,e,hA,hB⟩:=srt_split k l x h2
   refine ⟨a::A,B,by rw [e];rfl,fun q hq=>?_,hB⟩
   rcases List.mem_cons.1 hq with rfl|hq
   ·exact ha
   ·exact hA q hq
  ·exact ⟨[],a::l,rfl,by simp,.inr ⟨a,l,rfl,ha,fun q hq=>(by have:=h1 q hq;omega)⟩⟩
  ·refine ⟨[],a::l,rfl,by simp,.inl fun q hq=>?_⟩
   rcases List.mem_cons.1 hq with rfl|hq
   ·exact ha
   ·have:=h1 q hq;omega
def wt (c:α->Int) (t:α) (s:List α × Bool) (q:α):List α × Bool :=
 (if c q=0 then (if 0 <= c q/\s.2=false then s.1 ++ [t] else s.1) else (if 0 <= c q/\s.2=false then s.1 ++ [t] else s.1) ++ [q],s.2 || decide (0 <= c q))
theorem wt_lo (c:α->Int) (t:α):∀ (A o:List α),(∀ q ∈ A,c q < 0)->A.foldl (wt c t) (o,false)=(o ++ A,false)
 | [],o,_=>by simp
 | a::A,o,h=>by
  have ha:=h a (List.mem_cons_self ..)
  rw [List.foldl_cons,show wt c t (o,false) a=(o ++ [a],false) from by
   unfold wt
   rw [if_neg (by omega),if_neg (fun q=>by have:=q.1;omega)]
   simp;omega,wt_lo c t A _ fun q hq=>h q (List.mem_cons_of_mem _ hq)]
  simp
theorem wt_hi (c:α->Int) (t:α):∀ (A o:List α),(∀ q ∈ A,0 < c q)->A.foldl (wt c t) (o,true)=(o ++ A,true)
 | [],o,_=>by simp
 | a::A,o,h=>by
  have ha:=h a (List.mem_cons_self ..)
  rw [List.foldl_cons,show wt c t (o,true) a=(o ++ [a],true) from by
   unfold wt
   rw [if_neg (by omega),if_neg (fun q=>by simp at q)]
   simp,wt_hi c t A _ fun q hq=>h q (List.mem_cons_of_mem _ hq)]
  simp
def wl (c:α->Int) (t:α) (l:List α):List α:=bif !(l.foldl (wt c t) ([],false)).2 then (l.foldl (wt c t) ([],false)).1 ++ [t] else (l.foldl (wt c t) ([],false)).1
theorem wl_new (c:α->Int) (t:α) (A B:List α) (hA:∀ q ∈ A,c q < 0) (hB:∀ q ∈ B,0 < c q):wl c t (A ++ B)=A ++ t::B:=by
 unfold wl
 rw [List.foldl_append,wt_lo c t A _ hA]
 match B,hB with
 | [],_=>simp
 | b::B,hB =>
  have hb:=hB b (List.mem_cons_self ..)
  rw [List.foldl_cons,show wt c t ([] ++ A,false) b=(A ++ [t] ++ [b],true) from by
   unfold wt
   rw [if_neg (by omega),if_pos ⟨by omega,rfl⟩]
   simp;omega,wt_hi c t B _ fun q hq=>hB q (List.mem_cons_of_mem _ hq)]
  simp
theorem wl_old (c:α->Int) (t:α) (A B:List α) (b:α) (hA:∀ q ∈ A,c q < 0) (hb:c b=0) (hB:∀ q ∈ B,0 < c q):wl c t (A ++ b::B)=A ++ t::B:=by
 unfold wl
 rw [List.foldl_append,wt_lo c t A _ hA,List.foldl_cons,show wt c t ([] ++ A,false) b=(A ++ [t],true) from by
   unfold wt
   rw [if_pos hb,if_pos ⟨by omega,rfl⟩]
   simp;omega,wt_hi c t B _ hB]
 simp
theorem adj_srt (k:α->Int) (l:List α) (h:∀ i:Nat,i < l.length->0 < i->k (gd l (i - 1)) < k (gd l i)):l.Pairwise (fun a b=>k a < k b):=by
 have lt:∀ d i:Nat,i+(d+1) < l.length->k (gd l i) < k (gd l (i+(d+1))):=by
  intro d
  induction d with
  | zero=>intro i hi;have:=h (i+1) hi (by omega);simpa using this
  | succ d ih =>
   intro i hi
   have a:=ih i (by omega)
   have b:=h (i+(d+1+1)) hi (by omega)
   rw [show i+(d+1+1) - 1=i+(d+1) from by omega] at b
   omega
 refine List.pairwise_iff_getElem.2 fun i j hi hj hij=>?_
 have:=lt (j - i - 1) i (by omega)
 rw [show i+(j - i - 1+1)=j from by omega] at this
 rw [gd_at hi,gd_at hj]
 exact this
theorem gd_app1 {A B:List α} {i:Nat} (h:i < A.length):gd (A ++ B) i=gd A i:=by simp [gd,List.getD_eq_getElem?_getD,List.getElem?_append_left h]
theorem gd_app2 {A B:List α} {i:Nat} (h:A.length <= i):gd (A ++ B) i=gd B (i - A.length):=by simp [gd,List.getD_eq_getElem?_getD,List.getElem?_append_right h]
end
end Go.Am

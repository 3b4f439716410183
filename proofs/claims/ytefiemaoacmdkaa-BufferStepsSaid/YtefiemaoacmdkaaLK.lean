/-
  Loops over lists: checks, first places, filters, binary search, putting in at its place.
-/
import Derived.Test.YtefiemaoacmdkaaPW
namespace Go.Am
set_option linter.unusedVariables false
set_option linter.unusedSimpArgs false
set_option linter.unusedSectionVars false
section
variable {α:Type} [Inhabited α]
theorem bD {l:List α} {j:Nat} (h:j < l.length):l[j]=gd l j:=by simp [gd,List.getD_eq_getElem?_getD,h]
theorem take_snoc {l:List α} {i:Nat} (h:i < l.length):l.take (i+1)=l.take i ++ [gd l i]:=by
 rw [List.take_succ_eq_append_getElem h,bD h]
theorem run_gen {S E R:Type} {step:S->Option (Lp S (E ⊕ R))} (n:Nat) (f:Nat->S) (e:E) (hs:∀ i:Nat,i < n->step (f i)=some (.next (f (i+1)))) (he:step (f n)=some (.done (.inl e))):loopD step (f 0)=some (.inl e):=by
 obtain ⟨b,l1,l2⟩:=loop_forS (step:=step) n f (fun _=>True) (fun b=>b = .inl e) trivial (fun i hi _=>.inr ⟨hs i hi,trivial⟩) (fun _=>⟨_,he,rfl⟩)
 rw [l2] at l1
 exact l1
theorem first_gen {E R:Type} {step:Int->Option (Lp Int (E ⊕ R))} (n:Nat) (p:Nat->Prop) (res:Nat->R) (e:E)
  (hs:∀ i:Nat,i < n->(∀ j,j < i->¬ p j)->(¬ p i/\step i=some (.next ((i+1:Nat):Int))) ∨ (p i/\step i=some (.done (.inr (res i)))))
  (he:step n=some (.done (.inl e))) :
  ((∀ i,i < n->¬ p i)/\loopD step 0=some (.inl e)) ∨ ∃ i:Nat,i < n/\p i/\(∀ j,j < i->¬ p j)/\loopD step 0=some (.inr (res i)):=by
 obtain ⟨b,l1,l2⟩:=loop_for (step:=step) n (fun k=>∀ i,i < k->¬ p i) (fun b=>(b = .inl e/\∀ i,i < n->¬ p i) ∨ ∃ i:Nat,i < n/\p i/\(∀ j,j < i->¬ p j)/\b = .inr (res i)) (fun i hi=>absurd hi (by omega))
  (fun i hi hI=>by
   rcases hs i hi hI with ⟨q,e⟩|⟨q,e⟩
   ·refine .inr ⟨e,fun j hj=>?_⟩
    rcases Nat.lt_or_eq_of_le (Nat.le_of_lt_succ hj) with h|rfl
    ·exact hI j h
    ·exact q
   ·exact .inl ⟨_,e,.inr ⟨i,hi,q,hI,rfl⟩⟩)
  (fun hI=>⟨_,he,.inl ⟨rfl,hI⟩⟩)
 rcases l2 with ⟨rfl,h⟩|⟨i,h1,h2,h3,rfl⟩
 ·exact .inl ⟨h,l1⟩
 ·exact .inr ⟨i,h1,h2,h3,l1⟩
theorem dQ (p:α->Bool) (l:List α) {i:Nat} (hi:i < l.length):(l.take (i+1)).filter p=bif p (gd l i) then (l.take i).filter p ++ [gd l i] else (l.take i).filter p:=by
 rw [take_snoc hi,List.filter_append]
 cases h:p (gd l i)<;>simp [h]
theorem del_gen (l:List α) (p:α->Bool) (f:α->Option Bool) (hl:l.length <= 10000) (hf:∀ q ∈ l,f q=some (p q))
  {step1:Int->Option (Lp Int (Unit ⊕ Int))} (hs1:∀ s,step1 s=bif (bLt s (l.length:Nat)) then (need (inb s l.length) <| (f (gd l s.toNat)).bind fun r=>bif r then (some (.done (.inr s))) else (some (.next (wr .i64 (s+1))))) else (some (.done (.inl ()))))
  {step2:List α × Int × Int->Option (Lp (List α × Int × Int) ((List α × Int) ⊕ List α))} (hs2:∀ s,step2 s=bif (bLt s.2.2 (s.1.length:Nat)) then (need (inb s.2.2 s.1.length) <| (f (gd s.1 s.2.2.toNat)).bind fun r=>bif (!r) then (need (inb s.2.1 s.1.length) <| some (.next (s.1.set s.2.1.toNat (gd s.1 s.2.2.toNat),wr .i64 (s.2.1+1),wr .i64 (s.2.2+1)))) else (some (.next (s.1,s.2.1,wr .i64 (s.2.2+1))))) else (some (.done (.inl (s.1,s.2.1))))) :
  ((lp (loopD step1 0) (fun e=>some (-1)) some:Option Int).bind fun r1=>bif (bEq r1 (-1)) then (some l) else (lp (loopD step2 (l,r1,wr .i64 (r1+1))) (fun e=>need (slb e.2 (e.1.length:Nat) e.1.length) <| need (slb 0 e.2 e.1.length) <| some (List.take e.2.toNat e.1)) some))=some (l.filter fun q=>!p q):=by
 have full:∀ n:Nat,n <= l.length->(∀ j:Nat,j < n->p (gd l j)=false)->(l.take n).filter (fun q=>!p q)=l.take n:=fun n hn h=>List.filter_eq_self.2 fun x hx=>by
  obtain ⟨j,hj,rfl⟩:=List.getElem_of_mem hx
  rw [List.length_take] at hj
  rw [List.getElem_take,bD (by omega),h j (by omega)];rfl
 rcases first_gen (step:=step1) l.length (fun i=>p (gd l i)=true) (fun i=>(i:Int)) () (fun i hi _=>by
   rw [hs1,bif_t (by simp [bLt_eq];omega),need_true (inb_nat hi),Int.toNat_natCast,hf _ (gd_mem hi),Option.bind_some]
   cases hp:p (gd l i) with
   | true=>exact .inr ⟨rfl,rfl⟩
   | false=>rw [cond_false,wr_add1 hi (by omega)];exact .inl ⟨fun h=>(by cases h),rfl⟩)
  (by rw [hs1,bif_f (by simp [bLt_eq])]) with ⟨h,l1⟩|⟨i0,h1,h2,h3,l1⟩
 ·rw [lp_inl l1,Option.bind_some,bif_t (by simp [bEq])]
  have:=full l.length (Nat.le_refl _) fun j hj=>by simpa using h j hj
  rw [List.take_length] at this
  rw [this]
 ·rw [lp_inr l1,Option.bind_some,bif_f (by simp [bEq]),wr_add1 h1 (by omega)]
  obtain ⟨b,l1,l2⟩:=loop_inv (step:=step2)
   (fun s=>∃ i j:Nat,s.2.1=i/\s.2.2=j/\i < j/\j <= l.length/\s.1.length=l.length/\s.1.take i=(l.take j).filter (fun q=>!p q)/\∀ m:Nat,j <= m->gd s.1 m=gd l m)
   (fun b=>∃ (L:List α) (i:Nat),b = .inl (L,(i:Int))/\i <= L.length/\L.take i=l.filter (fun q=>!p q)) (fun s=>(l.length - s.2.2).toNat)
   (fun s hS=>by
    obtain ⟨L,x,y⟩:=s
    obtain ⟨i,j,q1,q2,q3,q4,q5,q6,q7⟩:=hS
    simp only at q1 q2 q5 q6 q7
    subst q1 q2
    rw [hs2]
    simp only
    by_cases hj:j < l.length
    ·right
     rw [bif_t (c:=bLt (j:Int) _) (by simp [bLt_eq];omega),need_true (inb_nat (by omega)),Int.toNat_natCast,q7 j (Nat.le_refl _),hf _ (gd_mem hj),Option.bind_some,Int.toNat_natCast,wr_add1 hj (by omega),wr_add1 (i:=i) (n:=l.length) (by omega) (by omega),need_true (inb_nat (i:=i) (by omega))]
     have tf:=dQ (fun q=>!p q) l hj
     cases hb:p (gd l j) with
     | true =>
      simp only [hb,Bool.not_true,cond_false] at tf
      exact ⟨_,rfl,⟨i,j+1,rfl,rfl,by omega,by omega,q5,by simp only;rw [tf];exact q6,fun m hm=>q7 m (by omega)⟩,by simp only;omega⟩
     | false =>
      simp only [hb,Bool.not_false,cond_true] at tf
      refine ⟨_,rfl,⟨i+1,j+1,rfl,rfl,by omega,by omega,by simpa using q5,?_,fun m hm=>?_⟩,by simp only;omega⟩
      ·simp only
       rw [tf,← q6,List.take_succ_eq_append_getElem (by simp;omega),List.getElem_set_self,List.take_set_of_le (Nat.le_refl _)]
      ·simp only
       rw [← q7 m (by omega)]
       simp only [gd,List.getD_eq_getElem?_getD,List.getElem?_set]
       rw [if_neg (by omega)]
    ·left
     obtain rfl:j=l.length:=by omega
     rw [bif_f (c:=bLt _ _) (by simp [bLt_eq,q5])]
     rw [List.take_length] at q6
     exact ⟨_,rfl,L,i,rfl,by omega,q6⟩) (l,(i0:Int),((i0+1:Nat):Int)) ⟨i0,i0+1,rfl,rfl,by omega,by omega,rfl,by
      simp only
      rw [dQ _ _ h1,h2,Bool.not_true,cond_false,full i0 (by omega) fun j hj=>by simpa using h3 j hj],fun m _=>rfl⟩
  obtain ⟨L,i,rfl,q1,q2⟩:=l2
  rw [lp_inl l1]
  simp only [Int.toNat_natCast]
  rw [need_true (slb_iff.2 (by omega)),need_true (slb_iff.2 (by omega)),q2]
theorem half_ok {a b:Nat} (h:a+b <= 100000):wr .i64 (shrI .u64 (wr .u64 (wr .i64 ((a:Int)+b))) 1)=(((a+b) / 2:Nat):Int):=by
 rw [wr_in (x:=(a:Int)+b) (by omega),show ((a:Int)+b)=((a+b:Nat):Int) from by omega]
 rw [show wr .u64 ((a+b:Nat):Int)=((a+b:Nat):Int) from wrap_nat .u64 rfl (a+b) (by show a+b < 2 ^ 64;omega)]
 rw [show shrI .u64 ((a+b:Nat):Int) 1=(((a+b) / 2 ^ 1:Nat):Int) from shrI_nat .u64 (a+b) 1 (by decide),Nat.pow_one,wr_in (by omega)]
theorem bs_gen {R:Type} {step:Int × Int->Option (Lp (Int × Int) (Int ⊕ R))} (l:List α) (c:α->Option Int) (a:Nat) (ha:a <= l.length) (hl:l.length <= 10000) (hlo:∀ i:Nat,i < a->∃ r,c (gd l i)=some r/\r < 0) (hhi:∀ i:Nat,a <= i->i < l.length->∃ r,c (gd l i)=some r/\0 <= r)
  (hs:∀ s,step s=bif (bLt s.1 s.2) then (need (inb (wr .i64 (shrI .u64 (wr .u64 (wr .i64 (s.1+s.2))) 1)) l.length) <| (c (gd l ((wr .i64 (shrI .u64 (wr .u64 (wr .i64 (s.1+s.2))) 1)).toNat))).bind fun r2=>bif (bLt r2 0) then (some (.next (wr .i64 ((wr .i64 (shrI .u64 (wr .u64 (wr .i64 (s.1+s.2))) 1))+1),s.2))) else (some (.next (s.1,wr .i64 (shrI .u64 (wr .u64 (wr .i64 (s.1+s.2))) 1))))) else (some (.done (.inl s.1)))) :
  loopD step (0,(l.length:Nat))=some (.inl (a:Int)):=by
 obtain ⟨r,l1,l2⟩:=loop_inv (step:=step) (fun s=>∃ x y:Nat,s=((x:Int),(y:Int))/\x <= a/\a <= y/\y <= l.length) (fun r=>r = .inl (a:Int)) (fun s=>(s.2 - s.1).toNat)
  (fun s hS=>by
   obtain ⟨x,y,rfl,h1,h2,h3⟩:=hS
   rw [hs]
   simp only
   by_cases hxy:x < y
   ·right
    have hm:(x+y) / 2 < l.length:=by omega
    rw [bif_t (by simp [bLt_eq];omega),half_ok (by omega),need_true (inb_nat hm),Int.toNat_natCast]
    by_cases hk:(x+y) / 2 < a
    ·obtain ⟨r,r1,r2⟩:=hlo _ hk
     rw [r1,Option.bind_some,bif_t (by simp [bLt_eq];omega),wr_add1 hm (by omega)]
     exact ⟨_,rfl,⟨(x+y) / 2+1,y,rfl,by omega,h2,h3⟩,by simp only;omega⟩
    ·obtain ⟨r,r1,r2⟩:=hhi _ (by omega) hm
     rw [r1,Option.bind_some,bif_f (by simp [bLt_eq];omega)]
     exact ⟨_,rfl,⟨x,(x+y) / 2,rfl,h1,by omega,by omega⟩,by simp only;omega⟩
   ·left
    rw [bif_f (by simp [bLt_eq];omega)]
    exact ⟨_,rfl,by rw [show x=a by omega]⟩) (0,(l.length:Nat)) ⟨0,l.length,rfl,by omega,ha,Nat.le_refl _⟩
 rw [l2] at l1
 exact l1
theorem gd_app2 {A B:List α} {i:Nat} (h:A.length <= i):gd (A ++ B) i=gd B (i - A.length):=by simp [gd,List.getD_eq_getElem?_getD,List.getElem?_append_right h]
end
end Go.Am

/-
  Loops over lists: checks, first places, filters, binary search, putting in at its place.
-/
import Derived.Test.YtdcepineppafpaaPW
namespace Go.Am
set_option linter.unusedVariables false
set_option linter.unusedSimpArgs false
set_option linter.unusedSectionVars false
section
variable {α:Type} [Inhabited α]
theorem jH {l:List α} {j:Nat} (h:j < l.length):l[j]=gd l j:=by simp [gd,List.getD_eq_getElem?_getD,h]
theorem run_gen {S E R:Type} {step:S->Option (Lp S (E ⊕ R))} (n:Nat) (f:Nat->S) (e:E) (hs:∀ i:Nat,i < n->step (f i)=some (.next (f (i+1)))) (he:step (f n)=some (.done (.inl e))):yP step (f 0)=some (.inl e):=by
 obtain ⟨b,l1,l2⟩:=loop_forS (step:=step) n f (fun _=>True) (fun b=>b = .inl e) trivial (fun i hi _=>.inr ⟨hs i hi,trivial⟩) (fun _=>⟨_,he,rfl⟩)
 rw [l2] at l1
 exact l1
theorem first_gen {E R:Type} {step:Int->Option (Lp Int (E ⊕ R))} (n:Nat) (p:Nat->Prop) (res:Nat->R) (e:E)
  (hs:∀ i:Nat,i < n->(∀ j,j < i->¬ p j)->(¬ p i/\step i=some (.next ((i+1:Nat):Int))) ∨ (p i/\step i=some (.done (.inr (res i)))))
  (he:step n=some (.done (.inl e))) :
  ((∀ i,i < n->¬ p i)/\yP step 0=some (.inl e)) ∨ ∃ i:Nat,i < n/\p i/\(∀ j,j < i->¬ p j)/\yP step 0=some (.inr (res i)):=by
 obtain ⟨b,l1,l2⟩:=loop_for (step:=step) n (fun k=>∀ i,i < k->¬ p i) (fun b=>(b = .inl e/\∀ i,i < n->¬ p i) ∨ ∃ i:Nat,i < n/\p i/\(∀ j,j < i->¬ p j)/\b = .inr (res i)) (fun i hi=>absurd hi (by omega))
  (fun i hi hI=>by
   rcases hs i hi hI with ⟨q,e⟩|⟨q,e⟩
   ·refine .inr ⟨e,fun j hj=>?_⟩
    rcases Nat.lt_or_eq_of_le (Nat.le_of_lt_succ hj) with h|rfl
    ·exact hI j h
    ·exact q
   ·exact .inl ⟨_,e,.inr ⟨i,hi,q,hI,rfl⟩⟩)
  (fun hI=>⟨_,he,.inl ⟨rfl,hI⟩⟩)
 rcases l2 with ⟨rfl,h⟩|⟨i,h1,h2,h3,rfl⟩
 ·exact .inl ⟨h,l1⟩
 ·exact .inr ⟨i,h1,h2,h3,l1⟩
theorem chk_gen {E R:Type} {step:Int->Option (Lp Int (E ⊕ R))} (n:Nat) (P:Nat->Prop) (bad:R) (e:E)
  (hs:∀ i:Nat,i < n->(P i/\step i=some (.next ((i+1:Nat):Int))) ∨ (¬ P i/\step i=some (.done (.inr bad))))
  (he:step n=some (.done (.inl e))) :
  ((∀ i,i < n->P i)/\yP step 0=some (.inl e)) ∨ (¬ (∀ i,i < n->P i)/\yP step 0=some (.inr bad)):=by
 rcases first_gen (step:=step) n (fun i=>¬ P i) (fun _=>bad) e (fun i hi _=>by
  rcases hs i hi with ⟨q,e⟩|⟨q,e⟩
  ·exact .inl ⟨fun h=>h q,e⟩
  ·exact .inr ⟨q,e⟩) he with ⟨h,l⟩|⟨i,h1,h2,_,l⟩
 ·exact .inl ⟨fun i hi=>Classical.not_not.1 (h i hi),l⟩
 ·exact .inr ⟨fun h=>h2 (h i h1),l⟩
theorem half_ok {a b:Nat} (h:a+b <= 100000):wr .i64 (tG .u64 (wr .u64 (wr .i64 ((a:Int)+b))) 1)=(((a+b) / 2:Nat):Int):=by
 rw [kB (x:=(a:Int)+b) (by omega),show ((a:Int)+b)=((a+b:Nat):Int) from by omega]
 rw [show wr .u64 ((a+b:Nat):Int)=((a+b:Nat):Int) from wrap_nat .u64 rfl (a+b) (by show a+b < 2 ^ 64;omega)]
 rw [show tG .u64 ((a+b:Nat):Int) 1=(((a+b) / 2 ^ 1:Nat):Int) from shrI_nat .u64 (a+b) 1 (by decide),Nat.pow_one,kB (by omega)]
theorem bs_gen {R:Type} {step:Int × Int->Option (Lp (Int × Int) (Int ⊕ R))} (l:List α) (c:α->Option Int) (a:Nat) (ha:a <= l.length) (hl:l.length <= 10000) (hlo:∀ i:Nat,i < a->∃ r,c (gd l i)=some r/\r < 0) (hhi:∀ i:Nat,a <= i->i < l.length->∃ r,c (gd l i)=some r/\0 <= r)
  (hs:∀ s,step s=bif (bLt s.1 s.2) then (need (inb (wr .i64 (tG .u64 (wr .u64 (wr .i64 (s.1+s.2))) 1)) l.length) <| (c (gd l ((wr .i64 (tG .u64 (wr .u64 (wr .i64 (s.1+s.2))) 1)).toNat))).bind fun r2=>bif (bLt r2 0) then (some (.next (wr .i64 ((wr .i64 (tG .u64 (wr .u64 (wr .i64 (s.1+s.2))) 1))+1),s.2))) else (some (.next (s.1,wr .i64 (tG .u64 (wr .u64 (wr .i64 (s.1+s.2))) 1))))) else (some (.done (.inl s.1)))) :
  yP step (0,(l.length:Nat))=some (.inl (a:Int)):=by
 obtain ⟨r,l1,l2⟩:=uP (step:=step) (fun s=>∃ x y:Nat,s=((x:Int),(y:Int))/\x <= a/\a <= y/\y <= l.length) (fun r=>r = .inl (a:Int)) (fun s=>(s.2 - s.1).toNat)
  (fun s hS=>by
   obtain ⟨x,y,rfl,h1,h2,h3⟩:=hS
   rw [hs]
   simp only
   by_cases hxy:x < y
   ·right
    have hm:(x+y) / 2 < l.length:=by omega
    rw [xI (by simp [yH];omega),half_ok (by omega),zJ (yK hm),Int.toNat_natCast]
    by_cases hk:(x+y) / 2 < a
    ·obtain ⟨r,r1,r2⟩:=hlo _ hk
     rw [r1,Option.bind_some,xI (by simp [yH];omega),wM hm (by omega)]
     exact ⟨_,rfl,⟨(x+y) / 2+1,y,rfl,by omega,h2,h3⟩,by simp only;omega⟩
    ·obtain ⟨r,r1,r2⟩:=hhi _ (by omega) hm
     rw [r1,Option.bind_some,yR (by simp [yH];omega)]
     exact ⟨_,rfl,⟨x,(x+y) / 2,rfl,h1,by omega,by omega⟩,by simp only;omega⟩
   ·left
    rw [yR (by simp [yH];omega)]
    exact ⟨_,rfl,by rw [show x=a by omega]⟩) (0,(l.length:Nat)) ⟨0,l.length,rfl,by omega,ha,Nat.le_refl _⟩
 rw [l2] at l1
 exact l1
theorem srt_split (k:α->Int):∀ (l:List α) (x:Int),l.Pairwise (fun a b=>k a < k b)->∃ A B,l=A ++ B/\(∀ q ∈ A,k q < x)/\((∀ q ∈ B,x < k q) ∨ ∃ b B',B=b::B'/\k b=x/\∀ q ∈ B',x < k q)
 | [],x,_=>⟨[],[],rfl,by simp,.inl (by simp)⟩
 | a::l,x,h=>by
  obtain ⟨h1,h2⟩:=List.pairwise_cons.1 h
  rcases Int.lt_trichotomy (k a) x with ha|ha|ha
  ·obtain ⟨A,B,e,hA,hB⟩:=srt_split k l x h2
   refine ⟨a::A,B,by rw [e];rfl,fun q hq=>?_,hB⟩
   rcases List.mem_cons.1 hq with rfl|hq
   ·exact ha
   ·exact hA q hq
  ·exact ⟨[],a::l,rfl,by simp,.inr ⟨a,l,rfl,ha,fun q hq=>(by have:=h1 q hq;omega)⟩⟩
  ·refine ⟨[],a::l,rfl,by simp,.inl fun q hq=>?_⟩
   rcases List.mem_cons.1 hq with rfl|hq
   ·exact ha
   ·have:=h1 q hq;omega
def wt (c:α->Int) (t:α) (s:List α × Bool) (q:α):List α × Bool :=
 (if c q=0 then (if 0 <= c q/\s.2=false then s.1 ++ [t] else s.1) else (if 0 <= c q/\s.2=false then s.1 ++ [t] else s.1) ++ [q],s.2 || decide (0 <= c q))
theorem adj_srt (k:α->Int) (l:List α) (h:∀ i:Nat,i < l.length->0 < i->k (gd l (i - 1)) < k (gd l i)):l.Pairwise (fun a b=>k a < k b):=by
 have lt:∀ d i:Nat,i+(d+1) < l.length->k (gd l i) < k (gd l (i+(d+1))):=by
  intro d
  induction d with
  | zero=>intro i hi;have:=h (i+1) hi (by omega);simpa using this
  | succ d ih =>
   intro i hi
   have a:=ih i (by omega)
   have b:=h (i+(d+1+1)) hi (by omega)
   rw [show i+(d+1+1) - 1=i+(d+1) from by omega] at b
   omega
 refine List.pairwise_iff_getElem.2 fun i j hi hj hij=>?_
 have:=lt (j - i - 1) i (by omega)
 rw [show i+(j - i - 1+1)=j from by omega] at this
 rw [jH hi,jH hj]
 exact this
theorem gd_app1 {A B:List α} {i:Nat} (h:i < A.length):gd (A ++ B) i=gd A i:=by simp [gd,List.getD_eq_getElem?_getD,List.getElem?_append_left h]
theorem gd_app2 {A B:List α} {i:Nat} (h:A.length <= i):gd (A ++ B) i=gd B (i - A.length):=by simp [gd,List.getD_eq_getElem?_getD,List.getElem?_append_right h]
end
end Go.Am

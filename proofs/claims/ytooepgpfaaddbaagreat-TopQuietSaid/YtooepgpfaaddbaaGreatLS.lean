/-
  Lists that rise: how the library looks into them; what is put in and taken out.
-/
import Derived.Test.YtooepgpfaaddbaaGreatLK
namespace Go.Am
set_option linter.unusedVariables false
set_option linter.unusedSimpArgs false
set_option linter.unusedSectionVars false
def cmpI (x y:Int):Int:=if x < y then -1 else if y < x then 1 else 0
theorem cmpI_lt {x y:Int} (h:x < y):cmpI x y = -1:=if_pos h
theorem cmpI_gt {x y:Int} (h:y < x):cmpI x y=1:=by unfold cmpI;rw [if_neg (by omega),if_pos h]
theorem cmpI_eq {x y:Int} (h:x=y):cmpI x y=0:=by unfold cmpI;rw [if_neg (by omega),if_neg (by omega)]
section
variable {α:Type} [Inhabited α]
theorem idx_gen (l:List α) (p:α->Bool) (f:α->Option Bool) (hl:l.length <= 10000) (hf:∀ q ∈ l,f q=some (p q))
  {step:Int->Option (Lp Int (Unit ⊕ Int))} (hs:∀ s,step s=bif (bLt s (l.length:Nat)) then (need (inb s l.length) <| (f (gd l s.toNat)).bind fun r=>bif r then (some (.done (.inr s))) else (some (.next (wr .i64 (s+1))))) else (some (.done (.inl ())))) :
  ((∀ q ∈ l,p q=false)/\(lp (yF step 0) (fun e=>some (-1)) some:Option Int)=some (-1)) ∨ ∃ i:Nat,i < l.length/\p (gd l i)=true/\(lp (yF step 0) (fun e=>some (-1)) some:Option Int)=some (i:Int):=by
 rcases first_gen (step:=step) l.length (fun i=>p (gd l i)=true) (fun i=>(i:Int)) () (fun i hi _=>by
   rw [hs,xS (by simp [yW];omega),zD (xG hi),Int.toNat_natCast,hf _ (vZ hi),Option.bind_some,vA hi (by omega)]
   cases h:p (gd l i)
   ·exact .inl ⟨by simp,by rfl⟩
   ·exact .inr ⟨by simp,by rfl⟩)
  (by rw [hs,yO (by simp [yW])]) with ⟨h1,h2⟩|⟨i,h1,h2,_,h3⟩
 ·refine .inl ⟨fun q hq=>?_,wE h2⟩
  obtain ⟨i,hi,rfl⟩:=mem_gd hq
  exact Bool.eq_false_iff.2 (h1 i hi)
 ·exact .inr ⟨i,h1,h2,lp_inr h3⟩
theorem srt_gd (k:α->Int) {l:List α} (h:l.Pairwise (fun a b=>k a < k b)) {i j:Nat} (hij:i < j) (hj:j < l.length):k (gd l i) < k (gd l j):=by
 have:=List.pairwise_iff_getElem.1 h i j (by omega) hj hij
 rwa [gd_at (by omega),gd_at hj] at this
theorem rise_gen (k:α->Int) (l:List α) (f:α->Option Int) (hl:l.length <= 10000) (hf:∀ q ∈ l,f q=some (k q))
  {step:Int->Option (Lp Int (Unit ⊕ Bool))} (hs:∀ s,step s=bif (bLt s (l.length:Nat)) then (need (inb s l.length) <| (f (gd l s.toNat)).bind fun r2=>need (inb (wr .i64 (s - 1)) l.length) <| (f (gd l ((wr .i64 (s - 1)).toNat))).bind fun r5=>bif (bLe r2 r5) then (some (.done (.inr false))) else (some (.next (wr .i64 (s+1))))) else (some (.done (.inl ())))) :
  ∃ b,(lp (yF step 1) (fun e=>some true) some:Option Bool)=some b/\(b=true ↔ l.Pairwise (fun a b=>k a < k b)):=by
 obtain ⟨b,l1,l2⟩:=loop_forS (step:=step) (l.length - 1) (fun i=>((i+1:Nat):Int)) (fun i=>∀ j,j < i->k (gd l j) < k (gd l (j+1)))
  (fun b=>(b = .inl ()/\∀ j,j < l.length - 1->k (gd l j) < k (gd l (j+1))) ∨ (b = .inr false/\∃ j,j+1 < l.length/\¬ k (gd l j) < k (gd l (j+1)))) (fun j hj=>absurd hj (by omega))
  (fun i hi hI=>by
   rw [hs,xS (by simp [yW];omega),zD (xG (by omega)),Int.toNat_natCast,hf _ (vZ (by omega)),Option.bind_some,show wr .i64 (((i+1:Nat):Int) - 1)=((i:Nat):Int) from by rw [uV (by omega)];omega,zD (xG (by omega)),Int.toNat_natCast,hf _ (vZ (by omega)),Option.bind_some]
   by_cases h:k (gd l i) < k (gd l (i+1))
   ·refine .inr ⟨?_,fun j hj=>?_⟩
    ·rw [yO (by simp [vB];omega),vA (show i+1 < l.length by omega) (by omega)]
    ·rcases Nat.lt_or_eq_of_le (Nat.le_of_lt_succ hj) with q|rfl
     ·exact hI j q
     ·exact h
   ·exact .inl ⟨_,xS (by simp [vB];omega),.inr ⟨rfl,i,by omega,h⟩⟩)
  (fun hI=>⟨_,by rw [hs,yO (by simp [yW];omega)],.inl ⟨rfl,hI⟩⟩)
 have l1':yF step 1=some b:=l1
 rcases l2 with ⟨rfl,h⟩|⟨rfl,j,h1,h2⟩
 ·refine ⟨true,wE l1',⟨fun _=>adj_srt k l fun i hi h0=>?_,fun _=>rfl⟩⟩
  have:=h (i - 1) (by omega)
  rwa [show i - 1+1=i by omega] at this
 ·exact ⟨false,lp_inr l1',⟨fun h=>absurd h (by decide),fun h=>absurd (srt_gd k h (Nat.lt_succ_self j) h1) h2⟩⟩
theorem bsf_gen (k:α->Int) (n:Int) (l:List α) (hl:l.length <= 10000) (hp:l.Pairwise (fun a b=>k a < k b)) (c:α->Option Int) (hc:∀ q,c q=some (cmpI (k q) n))
  {step:Int × Int->Option (Lp (Int × Int) (Int ⊕ (Int × Bool)))}
  (hs:∀ s,step s=bif (bLt s.1 s.2) then (need (inb (wr .i64 (wW .u64 (wr .u64 (wr .i64 (s.1+s.2))) 1)) l.length) <| (c (gd l ((wr .i64 (wW .u64 (wr .u64 (wr .i64 (s.1+s.2))) 1)).toNat))).bind fun r2=>bif (bLt r2 0) then (some (.next (wr .i64 ((wr .i64 (wW .u64 (wr .u64 (wr .i64 (s.1+s.2))) 1))+1),s.2))) else (some (.next (s.1,wr .i64 (wW .u64 (wr .u64 (wr .i64 (s.1+s.2))) 1))))) else (some (.done (.inl s.1))))
  (o:Option (Int × Bool)) (ho:o=lp (yF step (0,(l.length:Nat))) (fun w=>need (bif (bLt w (l.length:Nat)) then inb w l.length else true) <| need (bif (bLt w (l.length:Nat)) then ((c (gd l w.toNat)).isSome) else true) <| some (w,((bLt w (l.length:Nat)) && (bEq (gt (c (gd l w.toNat))) 0)))) some) :
  ∃ A B,l=A ++ B/\(∀ q ∈ A,k q < n)/\(((∀ q ∈ B,n < k q)/\o=some ((A.length:Int),false)) ∨ ∃ b B',B=b::B'/\k b=n/\(∀ q ∈ B',n < k q)/\o=some ((A.length:Int),true)):=by
 obtain ⟨A,B,rfl,hA,hB⟩:=srt_split k l n hp
 have hB':∀ q ∈ B,n <= k q:=by
  intro q hq
  rcases hB with h|⟨b,B',rfl,h1,h2⟩
  ·have:=h q hq;omega
  ·rcases List.mem_cons.1 hq with rfl|hq
   ·omega
   ·have:=h2 q hq;omega
 have key:=bs_gen (step:=step) (A ++ B) c A.length (by simp) hl (fun i hi=>by
   rw [gd_app1 hi,hc,cmpI_lt (hA _ (vZ hi))];exact ⟨_,rfl,by decide⟩)
  (fun i h1 h2=>by
   rw [List.length_append] at h2
   have hb:=hB' _ (vZ (show i - A.length < B.length by omega))
   rw [gd_app2 h1,hc]
   refine ⟨_,rfl,?_⟩
   rcases Int.lt_or_eq_of_le hb with h|h
   ·rw [cmpI_gt h];decide
   ·rw [cmpI_eq h.symm];decide) hs
 rw [wE key] at ho
 refine ⟨A,B,rfl,hA,?_⟩
 rcases B with _|⟨b,B⟩
 ·refine .inl ⟨by simp,?_⟩
  rw [ho]
  simp [yW,need]
 ·have hi:A.length < (A ++ b::B).length:=by simp
  have hg:gd (A ++ b::B) A.length=b:=by rw [gd_app2 (Nat.le_refl _),Nat.sub_self];rfl
  rw [zD (by rw [xG hi];simp),Int.toNat_natCast,hg,hc,zD (by simp),zN,show bLt (A.length:Int) ((A ++ b::B).length:Nat)=true from by simp [yW];omega,Bool.true_and] at ho
  rcases hB with h|⟨b2,B2,e,h1,h2⟩
  ·refine .inl ⟨h,?_⟩
   rw [ho,cmpI_gt (h b (List.mem_cons_self ..))];rfl
  ·injection e with e1 e2
   subst e1 e2
   refine .inr ⟨_,_,rfl,h1,h2,?_⟩
   rw [ho,cmpI_eq h1];rfl
theorem pw_app {k:α->Int} {A B:List α} (h:(A ++ B).Pairwise (fun a b=>k a < k b)):A.Pairwise (fun a b=>k a < k b)/\B.Pairwise (fun a b=>k a < k b)/\∀ a ∈ A,∀ b ∈ B,k a < k b:=List.pairwise_append.1 h
theorem pw_ins {k:α->Int} {A B:List α} {t:α} (h:(A ++ B).Pairwise (fun a b=>k a < k b)) (hA:∀ q ∈ A,k q < k t) (hB:∀ q ∈ B,k t < k q):(A ++ t::B).Pairwise (fun a b=>k a < k b):=by
 obtain ⟨h1,h2,h3⟩:=pw_app h
 refine List.pairwise_append.2 ⟨h1,List.pairwise_cons.2 ⟨hB,h2⟩,fun a ha b hb=>?_⟩
 rcases List.mem_cons.1 hb with rfl|hb
 ·exact hA a ha
 ·exact h3 a ha b hb
theorem pw_fil {k:α->Int} (p:α->Bool) {l:List α} (h:l.Pairwise (fun a b=>k a < k b)):(l.filter p).Pairwise (fun a b=>k a < k b):=h.sublist List.filter_sublist
theorem key_inj {k:α->Int} {l:List α} (h:l.Pairwise (fun a b=>k a < k b)) {a b:α} (ha:a ∈ l) (hb:b ∈ l) (e:k a=k b):a=b:=by
 induction l with
 | nil=>simp at ha
 | cons c l ih =>
  obtain ⟨h1,h2⟩:=List.pairwise_cons.1 h
  rcases List.mem_cons.1 ha with e1|ha'<;>rcases List.mem_cons.1 hb with e2|hb'
  ·rw [e1,e2]
  ·have:=h1 _ hb';rw [e1] at e;omega
  ·have:=h1 _ ha';rw [e2] at e;omega
  ·exact ih h2 ha' hb'
theorem set_mid {A B:List α} {b c:α}:(A ++ b::B).set A.length c=A ++ c::B:=by simp
end
end Go.Am

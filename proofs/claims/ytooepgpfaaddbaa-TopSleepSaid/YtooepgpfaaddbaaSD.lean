/-
  A sleeping station's frames: what is held, the fates, the order.
-/
import Derived.Test.YtooepgpfaaddbaaSC
namespace Go.Proofs.Ytooepgpfaaddbaa
open Go.Am
set_option linter.unusedVariables false
set_option linter.unusedSimpArgs false
def sqn (q:TStored):Int:=q.Frame.Head.Seq
structure Iv (i:Nat) (H:List TStored) (F C l:List Int):Prop where
 n60:i <= 60
 lF:F.length=i
 lC:C.length=i
 ll:l.length=4
 hC:∀ n:Nat,n < i->0 <= gd C n/\gd C n <= 3
 hl:∀ c:Nat,c < 4->gd l c <= i
 hH:∀ q ∈ H,∃ n:Nat,n < i/\sqn q=n/\gd C n=q.Cat/\gd F n=0/\gd l q.Cat.toNat <= n
 hs:H.Pairwise (fun a b=>sqn a < sqn b)
 hA:∀ n:Nat,n < i->gd F n=0->∃ q ∈ H,sqn q=n
theorem four {l:List Int} (h:l.length=4):[gd l 0,gd l 1,gd l 2,gd l 3]=l:=by
 match l,h with
 | [a,b,c,d],_=>rfl
theorem gd_set {l:List Int} {i j:Nat} {x:Int} (h:i < l.length):gd (l.set i x) j=if j=i then x else gd l j:=by
 simp only [gd,List.getD_eq_getElem?_getD,List.getElem?_set]
 by_cases e:j=i
 ·subst e;simp [h]
 ·rw [if_neg (fun h=>e h.symm),if_neg e]
theorem spl {H:List TStored} {k:Nat} (h:k < H.length):H=H.take k ++ gd H k::H.drop (k+1):=by rw [← gd_at h,← List.drop_eq_getElem_cons h,List.take_append_drop]
theorem delE {H:List TStored} {k:Nat}:delL H k ((k+1:Nat):Int)=H.take k ++ H.drop (k+1):=rfl
theorem del_sub {H:List TStored} {k:Nat}:List.Sublist (delL H k ((k+1:Nat):Int)) H:=by
 rw [delE]
 have:=List.Sublist.append (List.Sublist.refl (H.take k)) (List.drop_sublist_drop_left H (show k <= k+1 by omega))
 rwa [List.take_append_drop] at this
theorem del_len {H:List TStored} {k:Nat} (h:k < H.length):(delL H k ((k+1:Nat):Int)).length+1=H.length:=by rw [delE];simp;omega
theorem del_mem {H:List TStored} {k:Nat} (h:k < H.length) (hs:H.Pairwise (fun a b=>sqn a < sqn b)) {q:TStored} (hq:q ∈ delL H k ((k+1:Nat):Int)):q ∈ H/\((∃ j,j < k/\q=gd H j) ∨ sqn (gd H k) < sqn q)/\sqn q ≠ sqn (gd H k):=by
 refine ⟨del_sub.subset hq,?_⟩
 rw [spl h] at hs
 obtain ⟨_,p2,p3⟩:=List.pairwise_append.1 hs
 rw [delE] at hq
 rcases List.mem_append.1 hq with hq|hq
 ·have:=p3 q hq _ (List.mem_cons_self ..)
  obtain ⟨j,hj,rfl⟩:=mem_gd hq
  rw [List.length_take] at hj
  refine ⟨.inl ⟨j,by omega,?_⟩,by omega⟩
  rw [← gd_at (by rw [List.length_take];omega),List.getElem_take,gd_at (by omega)]
 ·have:=(List.pairwise_cons.1 p2).1 q hq
  exact ⟨.inr this,by omega⟩
theorem del_or {H:List TStored} {k:Nat} (h:k < H.length) {q:TStored} (hq:q ∈ H):q=gd H k ∨ q ∈ delL H k ((k+1:Nat):Int):=by
 rw [spl h] at hq
 rw [delE]
 rcases List.mem_append.1 hq with hq|hq
 ·exact .inr (List.mem_append_left _ hq)
 ·rcases List.mem_cons.1 hq with rfl|hq
  ·exact .inl rfl
  ·exact .inr (List.mem_append_right _ hq)
theorem Iv.del {i k n:Nat} {x:Int} {H:List TStored} {F C l:List Int} (I:Iv i H F C l) (h:k < H.length) (e:sqn (gd H k)=n) (hn:n < i) (hx:x ≠ 0):Iv i (delL H k ((k+1:Nat):Int)) (F.set n x) C l where
 n60:=I.n60
 lF:=by rw [List.length_set];exact I.lF
 lC:=I.lC
 ll:=I.ll
 hC:=I.hC
 hl:=I.hl
 hH:=fun q hq=>by
  obtain ⟨h1,_,h3⟩:=del_mem h I.hs hq
  obtain ⟨m,m1,m2,m3,m4,m5⟩:=I.hH q h1
  exact ⟨m,m1,m2,m3,by rw [gd_set (by rw [I.lF];exact hn),if_neg (by omega)];exact m4,m5⟩
 hs:=I.hs.sublist del_sub
 hA:=fun m hm h0=>by
  rw [gd_set (by rw [I.lF];exact hn)] at h0
  by_cases c:m=n
  ·rw [if_pos c] at h0;exact absurd h0 hx
  ·rw [if_neg c] at h0
   obtain ⟨q,h1,h2⟩:=I.hA m hm h0
   rcases del_or h h1 with rfl|h1
   ·omega
   ·exact ⟨q,h1,h2⟩
theorem Iv.poll {i k n:Nat} {H:List TStored} {F C l:List Int} (I:Iv i H F C l) (h:k < H.length) (e:sqn (gd H k)=n) (hn:n < i) (hf:∀ j,j < k->(gd H j).Cat ≠ (gd H k).Cat) (hc:0 <= (gd H k).Cat/\(gd H k).Cat <= 3) (hc':∀ q ∈ H,0 <= q.Cat) :
  Iv i (delL H k ((k+1:Nat):Int)) (F.set n 1) C (l.set (gd H k).Cat.toNat n):=by
 have D:=I.del (x:=1) h e hn (by decide)
 have lg:(gd H k).Cat.toNat < l.length:=by rw [I.ll];omega
 exact { D with
  ll:=by rw [List.length_set];exact I.ll
  hl:=fun c hc=>by
   rw [gd_set lg]
   split
   ·omega
   ·exact I.hl c hc
  hH:=fun q hq=>by
   obtain ⟨m,m1,m2,m3,m4,m5⟩:=D.hH q hq
   refine ⟨m,m1,m2,m3,m4,?_⟩
   rw [gd_set lg]
   split
   ·obtain ⟨h1,h2,h3⟩:=del_mem h I.hs hq
    rcases h2 with ⟨j,hj,rfl⟩|h2
    ·have:=hc' _ h1
     exact absurd (by omega) (hf j hj)
    ·omega
   ·exact m5 }
theorem gd_app {A:List Int} {x:Int} {n:Nat}:gd (A ++ [x]) n=if n < A.length then gd A n else if n=A.length then x else default:=by
 by_cases h:n < A.length
 ·rw [gd_app1 h,if_pos h]
 ·rw [gd_app2 (by omega),if_neg h]
  by_cases e:n=A.length
  ·subst e;rw [if_pos rfl,Nat.sub_self];rfl
  ·rw [if_neg e]
   have:1 <= n - A.length:=by omega
   simp only [gd,List.getD_eq_getElem?_getD]
   rw [List.getElem?_eq_none (by simpa using this)]
   rfl
theorem Iv.snoc {i:Nat} {H:List TStored} {F C l:List Int} {x:TStored} (I:Iv i H F C l) (hi:i < 60) (hx:sqn x=i) (hc:0 <= x.Cat/\x.Cat <= 3):Iv (i+1) (H ++ [x]) (F ++ [0]) (C ++ [x.Cat]) l where
 n60:=hi
 lF:=by rw [List.length_append,I.lF];rfl
 lC:=by rw [List.length_append,I.lC];rfl
 ll:=I.ll
 hC:=fun n hn=>by
  rw [gd_app,I.lC]
  by_cases h:n < i
  ·rw [if_pos h];exact I.hC n h
  ·rw [if_neg h,if_pos (by omega)];exact hc
 hl:=fun c hc=>by have:=I.hl c hc;omega
 hH:=fun q hq=>by
  rcases List.mem_append.1 hq with hq|hq
  ·obtain ⟨m,m1,m2,m3,m4,m5⟩:=I.hH q hq
   exact ⟨m,by omega,m2,by rw [gd_app,I.lC,if_pos m1];exact m3,by rw [gd_app,I.lF,if_pos m1];exact m4,m5⟩
  ·obtain rfl:=List.mem_singleton.1 hq
   exact ⟨i,by omega,hx,by rw [gd_app,I.lC,if_neg (by omega),if_pos rfl],by rw [gd_app,I.lF,if_neg (by omega),if_pos rfl],I.hl _ (by omega)⟩
 hs:=List.pairwise_append.2 ⟨I.hs,by simp,fun a ha b hb=>by
  obtain rfl:=List.mem_singleton.1 hb
  obtain ⟨m,m1,m2,_⟩:=I.hH a ha
  omega⟩
 hA:=fun n hn h0=>by
  by_cases h:n < i
  ·rw [gd_app,I.lF,if_pos h] at h0
   obtain ⟨q,h1,h2⟩:=I.hA n h h0
   exact ⟨q,List.mem_append_left _ h1,h2⟩
  ·exact ⟨x,List.mem_append_right _ (by simp),by omega⟩
theorem Iv.age {i:Nat} {H:List TStored} {F G C l:List Int} {p:TStored->Bool} (I:Iv i H F C l) (hG:G.length=F.length) (h:∀ n:Nat,gd G n=if ∃ f ∈ (H.filter p).map (·.Frame),f.Head.Seq=(n:Int) then 2 else gd F n):Iv i (H.filter fun q=>!p q) G C l where
 n60:=I.n60
 lF:=hG.trans I.lF
 lC:=I.lC
 ll:=I.ll
 hC:=I.hC
 hl:=I.hl
 hH:=fun q hq=>by
  obtain ⟨h1,h2⟩:=List.mem_filter.1 hq
  obtain ⟨m,m1,m2,m3,m4,m5⟩:=I.hH q h1
  refine ⟨m,m1,m2,m3,?_,m5⟩
  rw [h,if_neg,m4]
  rintro ⟨f,hf,e⟩
  obtain ⟨q',hq',rfl⟩:=List.mem_map.1 hf
  obtain ⟨h3,h4⟩:=List.mem_filter.1 hq'
  have:q'=q:=by
   obtain ⟨a,ha,rfl⟩:=mem_gd h1
   obtain ⟨b,hb,rfl⟩:=mem_gd h3
   have e':sqn (gd H b)=sqn (gd H a):=by rw [m2];exact e
   rcases Nat.lt_trichotomy a b with c|c|c
   ·have:=List.pairwise_iff_getElem.1 I.hs a b ha hb c
    rw [gd_at,gd_at] at this
    omega
   ·rw [c]
   ·have:=List.pairwise_iff_getElem.1 I.hs b a hb ha c
    rw [gd_at,gd_at] at this
    omega
  subst this
  rw [h4] at h2
  cases h2
 hs:=I.hs.sublist List.filter_sublist
 hA:=fun n hn h0=>by
  rw [h] at h0
  split at h0
  ·cases h0
  ·next c =>
   obtain ⟨q,h1,h2⟩:=I.hA n hn h0
   refine ⟨q,List.mem_filter.2 ⟨h1,?_⟩,h2⟩
   cases hp:p q with
   | false=>rfl
   | true=>exact absurd ⟨q.Frame,List.mem_map.2 ⟨q,List.mem_filter.2 ⟨h1,hp⟩,rfl⟩,h2⟩ c
theorem drop_gen {S E R:Type} {step:S->Option (Lp S (E ⊕ R))} (D:List TFrame) (mk:Int->List Int->S) (ex:List Int->E) (F:List Int) (hD:D.Pairwise (fun a b=>a.Head.Seq < b.Head.Seq)) (hF:∀ f ∈ D,∃ n:Nat,n < F.length/\f.Head.Seq=(n:Int)/\gd F n=0)
  (hs:∀ (j n:Nat) (G:List Int),j < D.length->G.length=F.length->n < F.length->(gd D j).Head.Seq=(n:Int)->gd G n=0->step (mk j G)=some (.next (mk ((j+1:Nat):Int) (G.set n 2))))
  (he:∀ G,step (mk (D.length:Nat) G)=some (.done (.inl (ex G)))) :
  ∃ G:List Int,G.length=F.length/\(∀ n:Nat,gd G n=if ∃ f ∈ D,f.Head.Seq=(n:Int) then 2 else gd F n)/\yN step (mk 0 F)=some (.inl (ex G)):=by
 have key:∀ j,j <= D.length->∃ G:List Int,G.length=F.length/\(∀ n:Nat,gd G n=if ∃ f ∈ D.take j,f.Head.Seq=(n:Int) then 2 else gd F n)/\yN step (mk 0 F)=yN step (mk j G):=by
  intro j
  induction j with
  | zero=>exact fun _=>⟨F,rfl,fun n=>by simp,rfl⟩
  | succ j ih =>
   intro hj
   obtain ⟨G,g1,g2,g3⟩:=ih (by omega)
   obtain ⟨n,n1,n2,n3⟩:=hF _ (gd_mem (show j < D.length by omega))
   have no:¬ ∃ f ∈ D.take j,f.Head.Seq=n:=by
    rintro ⟨f,hf,e⟩
    obtain ⟨a,ha,rfl⟩:=List.getElem_of_mem hf
    rw [List.length_take] at ha
    rw [List.getElem_take] at e
    have:=List.pairwise_iff_getElem.1 hD a j (by omega) (by omega) (by omega)
    rw [gd_at (show j < D.length by omega)] at this
    omega
   refine ⟨G.set n 2,by rw [List.length_set,g1],fun m=>?_,g3.trans (tG (hs j n G (by omega) g1 n1 n2 (by rw [g2,if_neg no,n3])))⟩
   rw [gd_set (by omega),take_snoc (by omega)]
   by_cases c:m=n
   ·rw [if_pos c,if_pos ⟨_,List.mem_append_right _ (List.mem_singleton.2 rfl),by rw [n2,c]⟩]
   ·rw [if_neg c,g2]
    have:(∃ f ∈ D.take j ++ [gd D j],f.Head.Seq=(m:Int)) ↔ ∃ f ∈ D.take j,f.Head.Seq=(m:Int):=by
     constructor
     ·rintro ⟨f,hf,e⟩
      rcases List.mem_append.1 hf with hf|hf
      ·exact ⟨f,hf,e⟩
      ·obtain rfl:=List.mem_singleton.1 hf
       omega
     ·rintro ⟨f,hf,e⟩
      exact ⟨f,List.mem_append_left _ hf,e⟩
    by_cases c':∃ f ∈ D.take j,f.Head.Seq=(m:Int)
    ·rw [if_pos c',if_pos (this.2 c')]
    ·rw [if_neg c',if_neg (fun h=>c' (this.1 h))]
 obtain ⟨G,g1,g2,g3⟩:=key D.length (Nat.le_refl _)
 rw [List.take_length] at g2
 exact ⟨G,g1,g2,g3.trans (yX (he G))⟩
theorem poll_gen {S E R:Type} {step:S->Option (Lp S (E ⊕ R))} {lim now:Int} {C:List Int} {i:Nat} (mk:Bool->List TStored->List Int->List Int->S) (ex:List TStored->List Int->List Int->E)
  (hs:∀ (H:List TStored) (F l:List Int),Qs lim now H->Iv i H F C l->H ≠ []->∃ k n:Nat,k < H.length/\(∀ j,j < k->(gd H j).Cat ≠ (gd H k).Cat)/\sqn (gd H k)=n/\n < i /\
   step (mk true H F l)=some (.next (mk (bLt 0 ((delL H k ((k+1:Nat):Int)).length:Nat)) (delL H k ((k+1:Nat):Int)) (F.set n 1) (l.set (gd H k).Cat.toNat n))))
  (he:∀ (F l:List Int),step (mk false [] F l)=some (.done (.inl (ex [] F l)))) :
  ∀ (m:Nat) (H:List TStored) (F l:List Int),H.length=m->Qs lim now H->Iv i H F C l->∃ F' l',Iv i [] F' C l'/\yN step (mk (!H.isEmpty) H F l)=some (.inl (ex [] F' l'))
 | 0,H,F,l,hm,hq,I=>by
  obtain rfl:=List.length_eq_zero_iff.1 hm
  exact ⟨F,l,I,yX (he F l)⟩
 | m+1,H,F,l,hm,hq,I=>by
  have h0:H ≠ []:=fun h=>by rw [h] at hm;cases hm
  obtain ⟨k,n,k1,k2,k3,k4,k5⟩:=hs H F l hq I h0
  have dl:=del_len k1
  obtain ⟨F',l',I',e⟩:=poll_gen mk ex hs he m (delL H k ((k+1:Nat):Int)) (F.set n 1) (l.set (gd H k).Cat.toNat n) (by omega) (Qs_sub hq del_sub) (I.poll k1 k3 k4 k2 (hq.2.1 _ (gd_mem k1)).1 fun q hq'=>(hq.2.1 q hq').1.1)
  refine ⟨F',l',I',?_⟩
  rw [show (!H.isEmpty)=true from by cases H with|nil=>exact absurd rfl h0|cons a b=>rfl]
  refine (tG k5).trans ?_
  rw [show bLt 0 ((delL H k ((k+1:Nat):Int)).length:Nat) = !(delL H k ((k+1:Nat):Int)).isEmpty from by
   cases delL H k ((k+1:Nat):Int) with
   | nil=>rfl
   | cons a b=>simp [yS]]
  exact e
end Go.Proofs.Ytooepgpfaaddbaa

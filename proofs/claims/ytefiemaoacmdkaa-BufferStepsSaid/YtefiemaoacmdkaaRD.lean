/-
  Leaving and joining: the buffer and the reference give the same.
-/
import Derived.Test.YtefiemaoacmdkaaRC
import Derived.Test.YtefiemaoacmdkaaBK
namespace Go.Proofs.Ytefiemaoacmdkaa
open Go.Am
set_option linter.unusedVariables false
set_option linter.unusedSimpArgs false
theorem split_gd {α:Type} [Inhabited α] {l:List α} {a:Nat} (ha:a < l.length):l=l.take a ++ gd l a::l.drop (a+1):=by
 have:gd l a=l[a]:=by simp [gd,List.getD_eq_getElem?_getD,ha]
 rw [this,List.getElem_cons_drop,List.take_append_drop]
theorem fil_all {α:Type} {p:α->Bool} {l:List α} (h:∀ x ∈ l,p x=true):l.filter p=l:=List.filter_eq_self.2 h
theorem fil_no {α:Type} {p:α->Bool} {l:List α} (h:∀ x ∈ l,p x=false):l.filter p=[]:=List.filter_eq_nil_iff.2 fun x hx=>by rw [h x hx];simp
theorem mem_take_gd {α:Type} [Inhabited α] {l:List α} {a:Nat} {x:α} (h:x ∈ l.take a):∃ i:Nat,i < a/\i < l.length/\gd l i=x:=by
 obtain ⟨i,hi,e⟩:=List.mem_iff_getElem.1 h
 rw [List.length_take] at hi
 refine ⟨i,by omega,by omega,?_⟩
 rw [← e];simp [gd,List.getD_eq_getElem?_getD,show i < l.length by omega]
theorem mem_drop_gd {α:Type} [Inhabited α] {l:List α} {a:Nat} {x:α} (h:x ∈ l.drop a):∃ i:Nat,a <= i/\i < l.length/\gd l i=x:=by
 obtain ⟨i,hi,e⟩:=List.mem_iff_getElem.1 h
 rw [List.length_drop] at hi
 refine ⟨a+i,by omega,by omega,?_⟩
 rw [← e];simp [gd,List.getD_eq_getElem?_getD,show a+i < l.length by omega]
theorem fil_out {l:List TSleeper} {a:Nat} {aid:Int} (ha:a < l.length) (h1:(gd l a).Aid=aid) (hn:∀ i:Nat,i < l.length->(gd l i).Aid=aid->i=a):l.filter (fun q=>!bEq q.Aid aid)=l.take a ++ l.drop (a+1):=by
 conv=>lhs;rw [split_gd ha]
 rw [List.filter_append,List.filter_cons,if_neg (by simp [bEq_eq,h1]),fil_all,fil_all]
 ·intro x hx
  obtain ⟨i,i1,i2,rfl⟩:=mem_drop_gd hx
  simp only [bEq_eq,Bool.not_eq_true',decide_eq_false_iff_not]
  intro e;have:=hn i i2 e;omega
 ·intro x hx
  obtain ⟨i,i1,i2,rfl⟩:=mem_take_gd hx
  simp only [bEq_eq,Bool.not_eq_true',decide_eq_false_iff_not]
  intro e;have:=hn i i2 e;omega
theorem leave_eq (b:TBuffer) (aid:Int) (hg:Ng b) (hq:Bq b) (hc:Ub b) (hu:U8b b):∃ d n e,F42 b aid=some (d,n,e)/\F73 b aid=some (d,n,e)/\Ok3 [] d n:=by
 have h2:=hg.2.1
 have hl:=hg.1
 unfold F42 F73
 rcases open_eq b aid hg hc with ⟨h,c,v⟩|⟨h,c,⟨ha,v⟩|⟨ha,⟨a,a1,a2,p,v⟩|⟨⟨a,P,p⟩,a1,v⟩⟩⟩
 ·rw [c,v,Option.bind_some,Option.bind_some,bif_t (by rfl),bif_t (by rfl)]
  exact ⟨_,_,_,rfl,rfl,ok_zero⟩
 ·rw [c,v,Option.bind_some,Option.bind_some,bif_f (by rfl),bif_t (by simp [bLt_eq];omega),bif_t (by rfl)]
  exact ⟨_,_,_,rfl,rfl,ok_zero⟩
 ·have hh:=hg.2.2 a a1
  rw [c,v,Option.bind_some,Option.bind_some,bif_f (by rfl),bif_f (by simp [bLt_eq];omega),p,Option.bind_some,bif_f (by rfl),btwin_ok b (Nb_of hg) hq,Option.bind_some,bif_f (by rfl),need_true (inb_nat a1),need_true (inb_nat a1)]
  simp only [Int.toNat_natCast]
  rw [frames_ok _ (by omega),rfr_ok _ (by omega),Option.bind_some,Option.bind_some,sdel_ok _ _ (by omega),rtw_ok b (Nb_of hg) hq,Option.bind_some,Option.bind_some,wr_add1 a1 (by omega),Int.toNat_natCast]
  try rw [Option.bind_some]
  rw [need_true (slb_iff.2 ⟨by omega,by omega,by omega⟩),nd_cap (by simp;omega) (by simp;omega),nd_cap (by omega) (by omega),need_true (slb_iff.2 ⟨by omega,by omega,by omega⟩),nd_cap (by omega) (by omega),Option.bind_some,List.nil_append]
  rw [fil_out a1 a2 fun i i1 i2=>aid_inj h i1 a1 (i2.trans a2.symm)]
  have sub:∀ x ∈ b.List.take a ++ b.List.drop (a+1),x ∈ b.List:=fun x hx=>by
   rcases List.mem_append.1 hx with q|q
   ·exact List.mem_of_mem_take q
   ·exact List.mem_of_mem_drop q
  have ln:(b.List.take a ++ b.List.drop (a+1)).length <= 1000:=by rw [List.length_append,List.length_take,List.length_drop];omega
  obtain ⟨q,q1,q2,q3⟩:=aslp_eq (TBuffer.mk b.Limit b.Stay (b.List.take a ++ b.List.drop (a+1)) b.Group) ln
  rw [q1,q2,Option.bind_some,Option.bind_some]
  have uh:=uf_map (hu.2 _ (gd_mem a1))
  cases q with
  | false =>
   rw [bif_t (by rfl),bif_t (by rfl),frames_ok _ (by omega),rfr_ok _ (by omega),Option.bind_some,nd_cap (by simp;omega) (by simp;omega)]
   exact ⟨_,_,_,rfl,rfl,⟨by simp,uf_nil⟩,⟨by simp;omega,uf_app uh (uf_map hu.1)⟩,⟨ln,by simp,fun s hs=>(Nb_of hg).2.2 s (sub s hs)⟩,u8_nil,fun s hs=>hu.2 s (sub s hs)⟩
  | true =>
   rw [bif_f (by rfl),bif_f (by rfl),List.append_nil]
   exact ⟨_,_,_,rfl,rfl,⟨by simp,uf_nil⟩,⟨by simp;omega,uh⟩,⟨ln,(Nb_of hg).2.1,fun s hs=>(Nb_of hg).2.2 s (sub s hs)⟩,hu.1,fun s hs=>hu.2 s (sub s hs)⟩
 ·rw [c,v,Option.bind_some,Option.bind_some,bif_f (by rfl),bif_f (by simp [bLt_eq];omega),p,Option.bind_some,bif_t (by rfl),bif_t (by rfl)]
  exact ⟨_,_,_,rfl,rfl,ok_zero⟩
theorem low_step {m:List TSleeper} (hm:m.Pairwise (fun x y=>x.Aid < y.Aid)) (k:Int):m.filter (fun q=>decide (q.Aid < k+1))=m.filter (fun q=>decide (q.Aid < k)) ++ m.filter (fun q=>decide (q.Aid=k)):=by
 induction m with
 | nil=>rfl
 | cons x m ih =>
  have h:=List.pairwise_cons.1 hm
  have ih:=ih h.2
  rcases Int.lt_trichotomy x.Aid k with hx|hx|hx
  ·rw [List.filter_cons,List.filter_cons,List.filter_cons,if_pos (by simp;omega),if_pos (by simp;omega),if_neg (by simp;omega),ih,List.cons_append]
  ·have e1:m.filter (fun q=>decide (q.Aid < k))=[]:=fil_no fun y hy=>by have:=h.1 y hy;simp;omega
   rw [List.filter_cons,List.filter_cons,List.filter_cons,if_pos (by simp;omega),if_neg (by simp;omega),if_pos (by simp;omega),ih,e1,List.nil_append,List.nil_append]
  ·have e1:m.filter (fun q=>decide (q.Aid < k))=[]:=fil_no fun y hy=>by have:=h.1 y hy;simp;omega
   rw [List.filter_cons,List.filter_cons,List.filter_cons,if_neg (by simp;omega),if_neg (by simp;omega),if_neg (by simp;omega),ih,e1]
theorem one_at {l:List TSleeper} {a:Nat} {k:Int} (ha:a < l.length) (h1:(gd l a).Aid=k) (hn:∀ i:Nat,i < l.length->(gd l i).Aid=k->i=a):l.filter (fun q=>decide (q.Aid=k))=[gd l a]:=by
 conv=>lhs;rw [split_gd ha]
 rw [List.filter_append,List.filter_cons,if_pos (by simp [h1]),fil_no,fil_no]
 ·rfl
 ·intro x hx
  obtain ⟨i,i1,i2,rfl⟩:=mem_drop_gd hx
  simp only [decide_eq_false_iff_not]
  intro e;have:=hn i i2 e;omega
 ·intro x hx
  obtain ⟨i,i1,i2,rfl⟩:=mem_take_gd hx
  simp only [decide_eq_false_iff_not]
  intro e;have:=hn i i2 e;omega
theorem none_at {l:List TSleeper} {k:Int} (hn:∀ i:Nat,i < l.length->(gd l i).Aid ≠ k):l.filter (fun q=>decide (q.Aid=k))=[]:=fil_no fun x hx=>by
 obtain ⟨i,hi,rfl⟩:=mem_gd hx
 simp only [decide_eq_false_iff_not]
 exact hn i hi
theorem ins_eq {l:List TSleeper} {p:Nat} {x:TSleeper} (hp:p <= l.length):insL l (p:Int) [x]=l.take p ++ x::l.drop p:=by
 unfold insL
 simp
theorem ins_at {l:List TSleeper} {p:Nat} {x:TSleeper} {k:Int} (hp:p <= l.length):(insL l (p:Int) [x]).filter (fun q=>decide (q.Aid=k))=(l.take p).filter (fun q=>decide (q.Aid=k)) ++ ((if x.Aid=k then [x] else []) ++ (l.drop p).filter (fun q=>decide (q.Aid=k))):=by
 rw [ins_eq hp,List.filter_append,List.filter_cons]
 split<;>simp_all
theorem join_eq (b:TBuffer) (aid:Int) (hg:Ng b) (hq:Bq b) (hc:Ub b) (hu:U8b b):∃ n e,F40 b aid=some (n,e)/\F72 b aid=some (n,e)/\Ok3 [] [] n:=by
 have hl:=hg.1
 unfold F40 F72
 rcases open_eq b aid hg hc with ⟨h,c,v⟩|⟨h,c,⟨ha,v⟩|⟨ha,⟨a,a1,a2,p,v⟩|⟨⟨a,P,p⟩,a1,v⟩⟩⟩
 ·rw [c,v,Option.bind_some,Option.bind_some,bif_t (by rfl),bif_f (by rfl),bif_t (by rfl)]
  exact ⟨_,_,rfl,rfl,ok_zero⟩
 ·rw [c,v,Option.bind_some,Option.bind_some,bif_f (by rfl),bif_t (by simp [bLt_eq];omega),bif_f (by rfl),bif_t (by rfl)]
  exact ⟨_,_,rfl,rfl,ok_zero⟩
 ·rw [c,v,Option.bind_some,Option.bind_some,bif_f (by rfl),bif_f (by simp [bLt_eq];omega),p,Option.bind_some,bif_t (by rfl),bif_t (by rfl)]
  exact ⟨_,_,rfl,rfl,ok_zero⟩
 ·rw [c,v,Option.bind_some,Option.bind_some,bif_f (by rfl),bif_f (by simp [bLt_eq];omega),p,Option.bind_some,bif_f (by rfl)]
  by_cases h32:b.List.length=32
  ·rw [bif_t (by simp [bEq_eq,h32]),bif_f (by rfl),bif_f (by rfl),bif_t (by simp [bEq_eq,h32])]
   exact ⟨_,_,rfl,rfl,ok_zero⟩
  ·have hp:=P.1
   rw [bif_f (by simp [bEq_eq];omega),bif_f (by rfl),bif_f (by rfl),bif_f (by simp [bEq_eq];omega),btwin_ok b (Nb_of hg) hq,rtw_ok b (Nb_of hg) hq,Option.bind_some,Option.bind_some,need_true (insb_iff.2 ⟨by omega,by omega,by omega⟩),Option.bind_some,Option.bind_some]
   have hlen:b.List.length < 32:=by have:=h.1.1.2.2;omega
   have hvj:=jn_vb h P a1 ha hlen
   have pw:(insL b.List (a:Int) [TSleeper.mk aid false []]).Pairwise (fun x y=>x.Aid < y.Aid):=aid_pw hvj
   generalize hM:insL b.List (a:Int) [TSleeper.mk aid false []]=M at pw hvj ⊢
   have lM:M.length=b.List.length+1:=by rw [← hM];exact ins_len1 hp
   have rng:∀ x ∈ M,1 <= x.Aid/\x.Aid <= 255:=fun x hx=>by
    rw [← hM,ins_eq hp] at hx
    rcases List.mem_append.1 hx with q|q
    ·obtain ⟨i,i1,i2,rfl⟩:=mem_take_gd q;exact aid_rng h i2
    ·rcases List.mem_cons.1 q with rfl|q
     ·exact ha
     ·obtain ⟨i,i1,i2,rfl⟩:=mem_drop_gd q;exact aid_rng h i2
   have key:∀ k:Int,(M.filter (fun q=>decide (q.Aid=k)))=if k=aid then [TSleeper.mk aid false []] else b.List.filter (fun q=>decide (q.Aid=k)):=fun k=>by
    rw [← hM,ins_at hp]
    by_cases hk:k=aid
    ·subst hk
     rw [if_pos rfl,if_pos rfl]
     have e:∀ m:List TSleeper,(∀ x ∈ m,x ∈ b.List)->m.filter (fun q=>decide (q.Aid=k))=[]:=fun m hm=>fil_no fun x hx=>by
      obtain ⟨i,hi,rfl⟩:=mem_gd (hm x hx)
      simp only [decide_eq_false_iff_not]
      exact a1 i hi
     rw [e _ fun x hx=>List.mem_of_mem_take hx,e _ fun x hx=>List.mem_of_mem_drop hx];rfl
    ·rw [if_neg hk,if_neg (fun e=>hk e.symm),List.nil_append,← List.filter_append,List.take_append_drop]
   have sub:∀ k:Int,(M.filter (fun q=>decide (q.Aid < k))).length <= 40:=fun k=>by
    have:=List.length_filter_le (fun q:TSleeper=>decide (q.Aid < k)) M
    omega
   obtain ⟨r,l1,l2⟩:=loop_inv (step:=fun s:Int × List TSleeper=>F72_L1 b aid s.1 s.2) (fun s=>∃ k:Int,1 <= k/\k <= 256/\s=(k,M.filter (fun q=>decide (q.Aid < k))))
    (fun r=>r = .inl M) (fun s=>(256 - s.1).toNat)
    (fun s hI=>by
     obtain ⟨k,k1,k2,rfl⟩:=hI
     unfold F72_L1
     simp only
     by_cases hk:k <= 255
     ·have sb:=sub k
      have nx:wr .i64 (k+1)=k+1:=wr_in (by omega)
      rw [bif_t (by simp [bLe_eq];omega)]
      by_cases hka:k=aid
      ·subst hka
       rw [bif_t (by simp [bEq_eq]),nd_cap (by omega) (by omega)]
       rcases find_ok b k (by omega) with ⟨i,i1,i2,_,_⟩|⟨_,i2⟩
       ·exact absurd i2 (a1 i i1)
       ·rw [i2,Option.bind_some,bif_f (by rfl),nx]
        refine .inr ⟨_,rfl,⟨k+1,by omega,by omega,?_⟩,by simp only;omega⟩
        rw [low_step pw,key,if_pos rfl]
      ·rw [bif_f (by simp [bEq_eq];omega)]
       rcases find_ok b k (by omega) with ⟨i,i1,i2,i3,i4⟩|⟨i1,i2⟩
       ·rw [i4,Option.bind_some,bif_t (by simp [bLe_eq]),need_true (inb_nat i1),nd_cap (by omega) (by omega),Int.toNat_natCast,nx]
        refine .inr ⟨_,rfl,⟨k+1,by omega,by omega,?_⟩,by simp only;omega⟩
        rw [low_step pw,key,if_neg hka,one_at i1 i2 fun j j1 j2=>aid_inj h j1 i1 (j2.trans i2.symm)]
       ·rw [i2,Option.bind_some,bif_f (by rfl),nx]
        refine .inr ⟨_,rfl,⟨k+1,by omega,by omega,?_⟩,by simp only;omega⟩
        rw [low_step pw,key,if_neg hka,none_at i1,List.append_nil]
     ·obtain rfl:k=256:=by omega
      rw [bif_f (by rfl)]
      refine .inl ⟨_,rfl,?_⟩
      rw [fil_all fun x hx=>by have:=rng x hx;simp;omega])
    ((1:Int),[]) ⟨1,by omega,by omega,by rw [fil_no fun x hx=>by have:=rng x hx;simp;omega]⟩
   subst l2
   rw [lp_inl l1]
   have mem:∀ x ∈ M,x=TSleeper.mk aid false [] ∨ x ∈ b.List:=fun x hx=>by
    rw [← hM,ins_eq hp] at hx
    rcases List.mem_append.1 hx with q|q
    ·exact .inr (List.mem_of_mem_take q)
    ·rcases List.mem_cons.1 q with rfl|q
     ·exact .inl rfl
     ·exact .inr (List.mem_of_mem_drop q)
   exact ⟨_,_,rfl,rfl,⟨by simp,uf_nil⟩,⟨by simp,uf_nil⟩,⟨by show M.length <= 1000;omega,(Nb_of hg).2.1,fun s hs=>by
    rcases mem s hs with rfl|q
    ·simp
    ·exact (Nb_of hg).2.2 s q⟩,hu.1,fun s hs=>by
    rcases mem s hs with rfl|q
    ·exact u8_nil
    ·exact hu.2 s q⟩
end Go.Proofs.Ytefiemaoacmdkaa

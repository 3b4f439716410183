/-
  TriggerKeeps: which frames a service period takes, and in which order.
-/
import Derived.Test.YtnclkplbeenmdaaCC
namespace Go.Proofs.Ytnclkplbeenmdaa
open Go.Am
set_option linter.unusedVariables false
set_option linter.unusedSimpArgs false
def Pr (H:List TStored) (s t:Nat):Prop:=(gd H t).Cat < (gd H s).Cat ∨ ((gd H t).Cat=(gd H s).Cat/\s < t)
theorem inner2_ok (p:TTriggerPlan) (l:List TStored) (hn:l.length <= 1000) (hc:C0 l) :
  (∃ k:Nat,k < l.length/\Tl p.Deliver (gd l k)=true/\(∀ j:Nat,j < l.length->Tl p.Deliver (gd l j)=true->(gd l j).Cat <= (gd l k).Cat/\(j < k->(gd l j).Cat < (gd l k).Cat))/\loopD (fun s=>F29_L2 p l s.1 s.2) ((-1:Int),(0:Int))=some (.inl (k:Int))) ∨
  cnt p.Deliver l=0/\loopD (fun s=>F29_L2 p l s.1 s.2) ((-1:Int),(0:Int))=some (.inl (-1)):=by
 obtain ⟨r,l1,l2⟩:=loop_inv (step:=fun s:Int × Int=>F29_L2 p l s.1 s.2) (fun s=>∃ i:Nat,s.2=(i:Int)/\i <= l.length/\((s.1 = -1/\∀ j:Nat,j < i->Tl p.Deliver (gd l j)=false) ∨ ∃ k:Nat,s.1=(k:Int)/\k < i/\Tl p.Deliver (gd l k)=true/\∀ j:Nat,j < i->Tl p.Deliver (gd l j)=true->(gd l j).Cat <= (gd l k).Cat/\(j < k->(gd l j).Cat < (gd l k).Cat)))
  (fun r=>(r = .inl (-1)/\∀ j:Nat,j < l.length->Tl p.Deliver (gd l j)=false) ∨ ∃ k:Nat,r = .inl (k:Int)/\k < l.length/\Tl p.Deliver (gd l k)=true/\∀ j:Nat,j < l.length->Tl p.Deliver (gd l j)=true->(gd l j).Cat <= (gd l k).Cat/\(j < k->(gd l j).Cat < (gd l k).Cat)) (fun s=>(l.length - s.2).toNat)
  (fun s hI=>by
   obtain ⟨v,x⟩:=s
   obtain ⟨i,h1,h2,h3⟩:=hI
   simp only at h1 h3
   subst h1
   unfold F29_L2
   simp only
   by_cases hi:i < l.length
   ·rw [bif_t (by simp [bLt_eq];omega),need_true (inb_nat hi),Int.toNat_natCast,told_ok _ _ (hc _ (gd_mem hi)),Option.bind_some,wr_add1 hi (by omega)]
    cases ht:Tl p.Deliver (gd l i) with
    | false =>
     rw [need_true (by rfl),bif_f (by rfl)]
     refine .inr ⟨_,rfl,⟨i+1,rfl,by omega,?_⟩,by simp only;omega⟩
     rcases h3 with ⟨rfl,h3⟩|⟨k,rfl,h3,h4,h5⟩
     ·refine .inl ⟨rfl,fun j hj=>?_⟩
      rcases Nat.lt_or_eq_of_le (Nat.le_of_lt_succ hj) with h|rfl
      ·exact h3 j h
      ·exact ht
     ·refine .inr ⟨k,rfl,by omega,h4,fun j hj hd=>?_⟩
      rcases Nat.lt_or_eq_of_le (Nat.le_of_lt_succ hj) with h|rfl
      ·exact h5 j h hd
      ·rw [ht] at hd;cases hd
    | true =>
     rcases h3 with ⟨rfl,h3⟩|⟨k,rfl,h3,h4,h5⟩
     ·rw [need_true (by rfl),bif_t (by rfl)]
      refine .inr ⟨_,rfl,⟨i+1,rfl,by omega,.inr ⟨i,rfl,by omega,ht,fun j hj hd=>?_⟩⟩,by simp only;omega⟩
      rcases Nat.lt_or_eq_of_le (Nat.le_of_lt_succ hj) with h|rfl
      ·rw [h3 j h] at hd;cases hd
      ·exact ⟨Int.le_refl _,fun h=>absurd h (Nat.lt_irrefl _)⟩
     ·rw [need_true (by rw [inb_nat (show k < l.length by omega)];simp)]
      cases hb:(true && (bLt (k:Int) 0 || bLt (gd l ((k:Int)).toNat).Cat (gd l i).Cat)) with
      | true =>
       have hb:(gd l k).Cat < (gd l i).Cat:=by
        simp only [Bool.true_and,bLt_eq,Bool.or_eq_true,decide_eq_true_eq,Int.toNat_natCast] at hb
        omega
       refine .inr ⟨_,rfl,⟨i+1,rfl,by omega,.inr ⟨i,rfl,by omega,ht,fun j hj hd=>?_⟩⟩,by simp only;omega⟩
       rcases Nat.lt_or_eq_of_le (Nat.le_of_lt_succ hj) with h|rfl
       ·have:=(h5 j h hd).1
        exact ⟨by omega,fun _=>by omega⟩
       ·exact ⟨Int.le_refl _,fun h=>absurd h (Nat.lt_irrefl _)⟩
      | false =>
       have hb:(gd l i).Cat <= (gd l k).Cat:=by
        simp only [Bool.true_and,bLt_eq,Bool.or_eq_false_iff,decide_eq_false_iff_not,Int.toNat_natCast] at hb
        omega
       refine .inr ⟨_,rfl,⟨i+1,rfl,by omega,.inr ⟨k,rfl,by omega,h4,fun j hj hd=>?_⟩⟩,by simp only;omega⟩
       rcases Nat.lt_or_eq_of_le (Nat.le_of_lt_succ hj) with h|rfl
       ·exact h5 j h hd
       ·exact ⟨hb,fun h=>by omega⟩
   ·obtain rfl:i=l.length:=by omega
    rw [bif_f (by simp [bLt_eq])]
    rcases h3 with ⟨rfl,h3⟩|⟨k,rfl,h3,h4,h5⟩
    ·exact .inl ⟨_,rfl,.inl ⟨rfl,h3⟩⟩
    ·exact .inl ⟨_,rfl,.inr ⟨k,rfl,h3,h4,h5⟩⟩)
  ((-1:Int),(0:Int)) ⟨0,rfl,by omega,.inl ⟨rfl,fun j hj=>by omega⟩⟩
 rcases l2 with ⟨rfl,l2⟩|⟨k,rfl,k1,k2,k3⟩
 ·exact .inr ⟨cnt_0.2 l2,l1⟩
 ·exact .inl ⟨k,k1,k2,k3,l1⟩
structure TR (d:Int) (H:List TStored) (fr:List TFrame) (l:List TStored) (T R:List Nat):Prop where
 tk:fr.length=T.length
 bd:∀ j:Nat,j < T.length->(gd fr j).Body=(gd H (gd T j)).Frame.Body
 left:l=R.map (gd H)
 rise:R.Pairwise (· < ·)
 inr:∀ x ∈ R,x < H.length
 intk:∀ x ∈ T,x < H.length
 apart:∀ x ∈ T,x ∉ R
 ord:T.Pairwise (Pr H)
 dl:∀ x ∈ T,Tl d (gd H x)=true
 next:∀ x ∈ T,∀ y ∈ R,Tl d (gd H y)=true->Pr H x y
 all:T.length+R.length=H.length
theorem gd_map {α β:Type} [Inhabited α] [Inhabited β] (f:α->β) {l:List α} {i:Nat} (h:i < l.length):gd (l.map f) i=f (gd l i):=by
 simp [gd,List.getD_eq_getElem?_getD,h]
theorem range_map {α:Type} [Inhabited α] (H:List α):(List.range H.length).map (gd H)=H:=by
 apply List.ext_getElem (by simp)
 intro i h1 h2
 rw [List.getElem_map,List.getElem_range,gd_at h2]
theorem TR_0 (d:Int) (H:List TStored):TR d H [] H [] (List.range H.length):=by
 refine ⟨rfl,fun j hj=>absurd hj (Nat.not_lt_zero _),(range_map H).symm,List.pairwise_lt_range,fun x hx=>List.mem_range.1 hx,fun x hx=>absurd hx (List.not_mem_nil),fun x hx=>absurd hx (List.not_mem_nil),List.Pairwise.nil,fun x hx=>absurd hx (List.not_mem_nil),fun x hx=>absurd hx (List.not_mem_nil),by simp⟩
theorem del_map {α β:Type} (f:α->β) (l:List α) (k:Nat):delL (l.map f) k ((k+1:Nat):Int)=(delL l k ((k+1:Nat):Int)).map f:=by
 unfold delL
 simp only [Int.toNat_natCast,List.map_append,List.map_take,List.map_drop]
theorem rise_inj {R:List Nat} (h:R.Pairwise (· < ·)) {i j:Nat} (hi:i < R.length) (hj:j < R.length):(i < j->gd R i < gd R j)/\(gd R i=gd R j->i=j):=by
 have key:∀ {i j:Nat},i < R.length->j < R.length->i < j->gd R i < gd R j:=fun hi hj hij=>by
  have:=List.pairwise_iff_getElem.1 h _ _ hi hj hij
  rwa [gd_at hi,gd_at hj] at this
 refine ⟨key hi hj,fun e=>?_⟩
 rcases Nat.lt_trichotomy i j with q|q|q
 ·have:=key hi hj q;omega
 ·exact q
 ·have:=key hj hi q;omega
theorem TR_step {d:Int} {H:List TStored} {fr:List TFrame} {l:List TStored} {T R:List Nat} (h:TR d H fr l T R) {k:Nat} (hk:k < l.length) (ht:Tl d (gd l k)=true)
  (hm:∀ j:Nat,j < l.length->Tl d (gd l j)=true->(gd l j).Cat <= (gd l k).Cat/\(j < k->(gd l j).Cat < (gd l k).Cat)) {f:TFrame} (hf:f.Body=(gd l k).Frame.Body) :
  TR d H (fr ++ [f]) (delL l k ((k+1:Nat):Int)) (T ++ [gd R k]) (delL R k ((k+1:Nat):Int)):=by
 have hlR:l.length=R.length:=by rw [h.left,List.length_map]
 have hkR:k < R.length:=by omega
 have eg:∀ j,j < R.length->gd l j=gd H (gd R j):=fun j hj=>by rw [h.left,gd_map _ hj]
 have hmem:gd R k ∈ R:=gd_mem hkR
 have dlen:=del_len1 (l:=R) hkR
 have notin:gd R k ∉ delL R k ((k+1:Nat):Int):=fun hx=>by
  obtain ⟨j,hj,e⟩:=mem_gd hx
  rw [del_gd hkR] at e
  rw [dlen] at hj
  by_cases h1:j < k
  ·rw [if_pos h1] at e
   have:=(rise_inj h.rise (i:=j) (j:=k) (by omega) hkR).2 e;omega
  ·rw [if_neg h1] at e
   have:=(rise_inj h.rise (i:=j+1) (j:=k) (by omega) hkR).2 e;omega
 refine ⟨by simp [h.tk],fun j hj=>?_,by rw [h.left,del_map],?_,fun x hx=>h.inr x (del_mem hx),fun x hx=>?_,fun x hx hy=>?_,?_,fun x hx=>?_,fun x hx y hy hd=>?_,by rw [List.length_append,dlen];have:=h.all;simp only [List.length_cons,List.length_nil];omega⟩
 ·rw [List.length_append,List.length_singleton] at hj
  by_cases h1:j < T.length
  ·rw [gd_app_lt (by rw [h.tk];exact h1),gd_app_lt h1];exact h.bd j h1
  ·obtain rfl:j=T.length:=by omega
   rw [gd_app_ge (by rw [h.tk];exact Nat.le_refl _),gd_app_ge (Nat.le_refl _),h.tk,Nat.sub_self]
   show f.Body=(gd H (gd R k)).Frame.Body
   rw [hf,eg k hkR]
 ·unfold delL
  simp only [Int.toNat_natCast]
  have hs:(R.take k ++ R.drop (k+1)).Sublist R:=by
   have e:=List.take_append_drop k R
   conv=>rhs;rw [← e]
   refine List.Sublist.append (List.Sublist.refl _) ?_
   rw [← List.drop_drop]
   exact List.drop_sublist _ _
  exact h.rise.sublist hs
 ·rcases List.mem_append.1 hx with q|q
  ·exact h.intk x q
  ·rw [List.mem_singleton] at q;rw [q];exact h.inr _ hmem
 ·rcases List.mem_append.1 hx with q|q
  ·exact h.apart x q (del_mem hy)
  ·rw [List.mem_singleton] at q;rw [q] at hy;exact notin hy
 ·rw [List.pairwise_append]
  refine ⟨h.ord,List.pairwise_singleton _ _,fun x hx y hy=>?_⟩
  rw [List.mem_singleton] at hy;rw [hy]
  exact h.next x hx _ hmem (by rw [← eg k hkR];exact ht)
 ·rcases List.mem_append.1 hx with q|q
  ·exact h.dl x q
  ·rw [List.mem_singleton] at q;rw [q,← eg k hkR];exact ht
 ·rcases List.mem_append.1 hx with q|q
  ·exact h.next x q y (del_mem hy) hd
  ·rw [List.mem_singleton] at q;rw [q]
   obtain ⟨j,hj,rfl⟩:=mem_gd (del_mem hy)
   have hne:j ≠ k:=fun e=>notin (by rw [← e] at hy ⊢;exact hy)
   have q2:=hm j (by omega) (by rw [eg j hj];exact hd)
   rw [eg j hj,eg k hkR] at q2
   unfold Pr
   rcases Nat.lt_or_gt_of_ne hne with g|g
   ·exact .inl (q2.2 g)
   ·rcases Int.lt_or_eq_of_le q2.1 with g2|g2
    ·exact .inl g2
    ·exact .inr ⟨g2,(rise_inj h.rise (i:=k) (j:=j) hkR hj).1 g⟩
theorem outer2_ok (p:TTriggerPlan) (lim:Int) (H:List TStored) (hm:0 <= p.Most) (hn:H.length <= 1000) (h1:Qu H lim 3) (h2:Sq H) (h3:C0 H) :
  ∃ fr l T R,loopD (fun s=>F29_L1 p s.1 s.2) (([]:List TFrame),H)=some (.inl (fr,l))/\Bg p lim H fr l/\(cnt p.Deliver l=0 ∨ p.Most ≠ 0/\(fr.length:Int)=p.Most)/\TR p.Deliver H fr l T R:=by
 obtain ⟨r,l1,l2⟩:=loop_inv (step:=fun s:List TFrame × List TStored=>F29_L1 p s.1 s.2) (fun s=>Bg p lim H s.1 s.2/\∃ T R,TR p.Deliver H s.1 s.2 T R) (fun r=>∃ fr l T R,r = .inl (fr,l)/\Bg p lim H fr l/\(cnt p.Deliver l=0 ∨ p.Most ≠ 0/\(fr.length:Int)=p.Most)/\TR p.Deliver H fr l T R) (fun s=>s.2.length)
  (fun s hI=>by
   obtain ⟨fr,l⟩:=s
   obtain ⟨hI,T,R,tr⟩:=hI
   have hI':=hI
   obtain ⟨b1,b2,b3,b4,b5,b6,b7⟩:=hI
   simp only at b1 b2 b3 b4 b5 b6 b7 tr
   unfold F29_L1
   simp only
   by_cases hc:p.Most=0 ∨ (fr.length:Int) < p.Most
   ·rw [bif_t (by simp only [bEq_eq,bLt_eq,Bool.or_eq_true,decide_eq_true_eq];exact hc)]
    rcases inner2_ok p l (by omega) b5 with ⟨k,k1,k2,kk,k3⟩|⟨k1,k2⟩
    ·rw [lp_inl k3,bif_f (by simp only [bLt_eq,decide_eq_false_iff_not];omega),need_true (inb_nat k1),wr_add1 k1 (by omega),need_true (by unfold delb;simp;omega),Option.bind_some,nd_cap (by omega) (by omega),Int.toNat_natCast]
     have hd:=del_len1 k1
     have hk:=cnt_del k1 k2
     have hq:Fq (gd l k).Frame:=b4 _ (gd_mem k1)
     refine .inr ⟨_,rfl,⟨⟨by simp only [List.length_append,List.length_cons,List.length_nil];omega,by simp only [List.length_append,List.length_cons,List.length_nil];omega,del_qu k1 b3,fun q hq=>b4 q (del_mem hq),fun q hq=>b5 q (del_mem hq),fun i hi=>?_,?_⟩,_,_,TR_step tr k1 k2 kk rfl⟩,by simp only;omega⟩
     ·simp only [List.length_append,List.length_cons,List.length_nil] at hi
      simp only
      by_cases h:i < fr.length
      ·rw [gd_app_lt h];exact b6 i h
      ·rw [gd_app_ge (by omega),show i - fr.length=0 by omega]
       exact ⟨rfl,rfl,hq⟩
     ·simp only [List.length_append,List.length_cons,List.length_nil]
      rcases hc with h|h
      ·exact .inl h
      ·exact .inr (by omega)
    ·rw [lp_inl k2,bif_t (by rfl)]
     exact .inl ⟨_,rfl,fr,l,T,R,rfl,hI',.inl k1,tr⟩
   ·rw [bif_f (by simp only [bEq_eq,bLt_eq,Bool.or_eq_false_iff,decide_eq_false_iff_not];omega)]
    exact .inl ⟨_,rfl,fr,l,T,R,rfl,hI',.inr (by omega),tr⟩)
  (([]:List TFrame),H) ⟨⟨by simp,by simp,h1,h2,h3,fun i hi=>by simp at hi,.inr (by simpa using hm)⟩,_,_,TR_0 p.Deliver H⟩
 obtain ⟨fr,l,T,R,rfl,l2,l3,l4⟩:=l2
 exact ⟨fr,l,T,R,l1,l2,l3,l4⟩
end Go.Proofs.Ytnclkplbeenmdaa

/-
  Ages, and a whole step: the buffer and the reference give the same.
-/
import Derived.Test.YtefiemaoacmdkaaRF
namespace Go.Proofs.Ytefiemaoacmdkaa
open Go.Am
set_option linter.unusedVariables false
set_option linter.unusedSimpArgs false
theorem cap104 {n:Nat} (h:n <= 1000000):capb 104 n=true:=capb_iff.2 ⟨by omega,by omega⟩
theorem fil_snoc {α:Type} [Inhabited α] {l:List α} {i:Nat} {p:α->Bool} (h:i < l.length):(l.take (i+1)).filter p=(l.take i).filter p ++ if p (gd l i) then [gd l i] else []:=by
 rw [take_snoc h,List.filter_append,List.filter_cons]
 split<;>rfl
theorem rage_ok (l:List TStored) (st t:Int) (hn:l.length <= 1000) (hs:0 <= st/\st <= 1073741824) (ha:∀ q ∈ l,0 <= q.At/\q.At <= 1099511627776):F101 l st t=some (olds st t l,l.filter (yg st t)):=by
 unfold F101
 have l1:=run_gen (step:=fun s=>F101_L1 l st t s.1 s.2.1 s.2.2) (R:=List TFrame × List TStored) l.length (fun i=>(olds st t (l.take i),(i:Int),(l.take i).filter (yg st t))) (olds st t l,l.filter (yg st t)) (fun i hi=>by
   show F101_L1 l st t (olds st t (l.take i)) i ((l.take i).filter (yg st t))=_
   unfold F101_L1
   have h1:=ha _ (gd_mem hi)
   have o1:=olds_len st t (l.take i)
   have o2:=List.length_filter_le (yg st t) (l.take i)
   rw [List.length_take] at o1 o2
   rw [bif_t (by simp [bLt_eq];omega),need_true (inb_nat hi),Int.toNat_natCast,wr_in (x:=(gd l i).At+st) (by omega),wr_add1 hi (by omega)]
   by_cases hy:yg st t (gd l i)=true
   ·rw [bif_f (by simp only [yg,decide_eq_true_eq] at hy;simp only [bLe_eq,decide_eq_false_iff_not];omega),need_true (inb_nat hi),nd_cap (by omega) (by omega)]
    have e1:olds st t (l.take (i+1))=olds st t (l.take i):=by
     unfold olds;rw [fil_snoc hi,hy];simp
    have e2:(l.take (i+1)).filter (yg st t)=(l.take i).filter (yg st t) ++ [gd l i]:=by rw [fil_snoc hi,if_pos hy]
    rw [e1,e2]
   ·have hy:yg st t (gd l i)=false:=by simpa using hy
    rw [bif_t (by simp only [yg,decide_eq_false_iff_not] at hy;simp only [bLe_eq,decide_eq_true_eq];omega),need_true (inb_nat hi),need_true (cap104 (by omega))]
    have e1:olds st t (l.take (i+1))=olds st t (l.take i) ++ [(gd l i).Frame]:=by
     unfold olds;rw [fil_snoc hi,hy];simp
    have e2:(l.take (i+1)).filter (yg st t)=(l.take i).filter (yg st t):=by rw [fil_snoc hi,hy];simp
    rw [e1,e2])
  (by show F101_L1 l st t (olds st t (l.take l.length)) _ ((l.take l.length).filter (yg st t))=_;unfold F101_L1;rw [bif_f (by simp [bLt_eq]),List.take_length])
 replace l1:loopD (fun s=>F101_L1 l st t s.1 s.2.1 s.2.2) (([]:List TFrame),(0:Int),([]:List TStored))=some (.inl (olds st t l,l.filter (yg st t))):=by simpa [olds] using l1
 rw [lp_inl l1]
theorem flat_len {l:List TSleeper} {f:TSleeper->List TFrame} {n:Nat} (h:∀ s ∈ l,(f s).length <= n):(l.flatMap f).length <= l.length * n:=by
 induction l with
 | nil=>simp
 | cons s l ih =>
  have h1:=h s (by simp)
  have h2:=ih fun x hx=>h x (List.mem_cons_of_mem _ hx)
  rw [List.flatMap_cons,List.length_append,List.length_cons,Nat.succ_mul]
  omega
theorem rages_ok (b:TBuffer) (t:Int) (hl:b.List.length <= 40) (hh:∀ s ∈ b.List,s.Held.length <= 70) (hs:0 <= b.Stay/\b.Stay <= 1073741824) (ha:∀ s ∈ b.List,Aq s.Held) :
  loopD (fun s=>F80_L1 b t s.1 s.2.1 s.2.2) (([]:List TFrame),(0:Int),b.List)=some (.inl ((b.List.flatMap fun s=>olds b.Stay t s.Held),b.List.map (yngs b.Stay t))):=by
 have l1:=run_gen (step:=fun s=>F80_L1 b t s.1 s.2.1 s.2.2) (R:=List TFrame × TBuffer × Int) b.List.length (fun i=>(((b.List.take i).flatMap fun s=>olds b.Stay t s.Held),(i:Int),(b.List.take i).map (yngs b.Stay t) ++ b.List.drop i)) ((b.List.flatMap fun s=>olds b.Stay t s.Held),b.List.map (yngs b.Stay t)) (fun i hi=>by
   show F80_L1 b t ((b.List.take i).flatMap fun s=>olds b.Stay t s.Held) i ((b.List.take i).map (yngs b.Stay t) ++ b.List.drop i)=_
   unfold F80_L1
   have hA:=ha _ (gd_mem hi)
   have hH:=hh _ (gd_mem hi)
   have o1:=olds_len b.Stay t (gd b.List i).Held
   have o2:((b.List.take i).flatMap fun s=>olds b.Stay t s.Held).length <= (b.List.take i).length * 70:=flat_len fun s hs'=>by
    have:=olds_len b.Stay t s.Held
    have:=hh s (List.mem_of_mem_take hs')
    omega
   have o3:(b.List.take i).length <= 40:=by rw [List.length_take];omega
   have o4:(b.List.take i).length * 70 <= 2800:=by omega
   have ln:((b.List.take i).map (yngs b.Stay t) ++ b.List.drop i).length=b.List.length:=by simp;omega
   have ga:gd ((b.List.take i).map (yngs b.Stay t) ++ b.List.drop i) i=gd b.List i:=by
    rw [app_gd,if_neg (by simp;omega),show i - ((b.List.take i).map (yngs b.Stay t)).length=0 by simp;omega]
    simp [gd,List.getD_eq_getElem?_getD,hi]
   rw [bif_t (by simp [bLt_eq];omega),need_true (inb_nat hi),Int.toNat_natCast,rage_ok _ _ _ hA.1 hs hA.2,Option.bind_some,need_true (cap104 (by show _+(olds b.Stay t (gd b.List i).Held).length <= 1000000;omega)),need_true (by rw [ln];exact inb_nat hi),wr_add1 hi (by omega),ga]
   rw [show TSleeper.mk (gd b.List i).Aid (gd b.List i).Asleep ((gd b.List i).Held.filter (yg b.Stay t))=yngs b.Stay t (gd b.List i) from rfl,map_snoc_set hi,take_snoc hi]
   simp)
  (by
   show F80_L1 b t ((b.List.take b.List.length).flatMap fun s=>olds b.Stay t s.Held) b.List.length ((b.List.take b.List.length).map (yngs b.Stay t) ++ b.List.drop b.List.length)=_
   unfold F80_L1
   rw [bif_f (by simp [bLt_eq]),List.take_length,List.drop_length,List.append_nil])
 simpa using l1
theorem uf_olds {st t:Int} {l:List TStored} (h:U8 l):Uf (olds st t l):=fun f hf=>by
 unfold olds at hf
 obtain ⟨q,hq,rfl⟩:=List.mem_map.1 hf
 exact h q ((List.mem_filter.1 hq).1)
theorem u8_fil {p:TStored->Bool} {l:List TStored} (h:U8 l):U8 (l.filter p):=fun q hq=>h q ((List.mem_filter.1 hq).1)
theorem age_eq (b:TBuffer) (t:Int) (hg:Ng b) (hq:Bq b) (hc:Ub b) (hu:U8b b):∃ d n e,F25 b t=some (d,n,e)/\F80 b t=some (d,n,e)/\Ok3 [] d n:=by
 have hl:=hg.1
 have hh:∀ s ∈ b.List,s.Held.length <= 70:=fun s hs=>by obtain ⟨i,hi,rfl⟩:=mem_gd hs;exact hg.2.2 i hi
 have e1:F61 t=some ((bLe 0 t) && (bLe t 1099511627776)):=rfl
 have e2:F87 t=some ((bLe 0 t) && (bLe t 1099511627776)):=rfl
 rcases valid_eq b hg hc with ⟨h,c,v⟩|⟨h,c,v⟩
 ·by_cases hm:0 <= t/\t <= 1099511627776
  ·have hb:(!((bLe 0 t) && (bLe t 1099511627776)))=false:=by simp [bLe_eq];omega
   have hS:0 <= b.Stay/\b.Stay <= 1073741824:=by have:=h.1.1.2.1;omega
   have hA:=vb_aq h
   rw [age_ok b t c (Nb_of hg) hq hS hA hm hl hh]
   unfold F80
   rw [v,Option.bind_some,bif_f (by rfl),e2,Option.bind_some,bif_f hb,rtw_ok b (Nb_of hg) hq,Option.bind_some,lp_inl (rages_ok b t hl hh hS hA.2),rage_ok _ _ _ hA.1.1 hS hA.1.2,Option.bind_some]
   have o1:=olds_len b.Stay t b.Group
   have o2:(b.List.flatMap fun s=>olds b.Stay t s.Held).length <= b.List.length * 70:=flat_len fun s hs'=>by
    have:=olds_len b.Stay t s.Held
    have:=hh s hs'
    omega
   have h2:=hg.2.1
   have o4:b.List.length * 70 <= 2800:=by omega
   rw [need_true (cap104 (by show (b.List.flatMap fun s=>olds b.Stay t s.Held).length+(olds b.Stay t b.Group).length <= 1000000;omega))]
   refine ⟨_,_,_,rfl,rfl,⟨by simp,uf_nil⟩,⟨by unfold drops;rw [List.length_append];omega,uf_app (fun f hf=>?_) (uf_olds hu.1)⟩,⟨?_,?_,fun s hs=>?_⟩,u8_fil hu.1,fun s hs=>?_⟩
   ·obtain ⟨s,hs,hf⟩:=List.mem_flatMap.1 hf
    exact uf_olds (hu.2 s hs) f hf
   ·show (b.List.map (yngs b.Stay t)).length <= 1000
    rw [List.length_map];omega
   ·show (b.Group.filter (yg b.Stay t)).length <= 1000
    have:=List.length_filter_le (yg b.Stay t) b.Group
    omega
   ·obtain ⟨q,hq',rfl⟩:=List.mem_map.1 hs
    have:=List.length_filter_le (yg b.Stay t) q.Held
    have:=hh q hq'
    show (q.Held.filter (yg b.Stay t)).length <= 1000
    omega
   ·obtain ⟨q,hq',rfl⟩:=List.mem_map.1 hs
    exact u8_fil (hu.2 q hq')
  ·have hb:(!((bLe 0 t) && (bLe t 1099511627776)))=true:=by simp [bLe_eq];omega
   unfold F25 F80
   rw [v,Option.bind_some,bif_f (by rfl),c,Option.bind_some,bif_f (by rfl),e1,Option.bind_some,e2,Option.bind_some,bif_t hb,bif_t hb]
   exact ⟨_,_,_,rfl,rfl,ok_zero⟩
 ·unfold F25 F80
  rw [v,Option.bind_some,bif_t (by rfl),c,Option.bind_some,bif_t (by rfl)]
  exact ⟨_,_,_,rfl,rfl,ok_zero⟩
theorem do_eq (b:TBuffer) (s:TStep) (hg:Ng b) (hq:Bq b) (hc:Ub b) (hu:U8b b) (hf:Fq s.Frame) (hfu:u8A s.Frame.Body=true):∃ o d n e,F31 b s=some (o,d,n,e)/\F32 b s=some (o,d,n,e)/\Ok3 o d n:=by
 unfold F31 F32
 cases h0:bEq s.Kind 0 with
 | true =>
  obtain ⟨n,e,x,y,z⟩:=join_eq b s.Aid hg hq hc hu
  rw [x,y];exact ⟨_,_,_,_,rfl,rfl,z⟩
 | false =>
 cases h1:bEq s.Kind 1 with
 | true =>
  obtain ⟨d,n,e,x,y,z⟩:=leave_eq b s.Aid hg hq hc hu
  rw [x,y];exact ⟨_,_,_,_,rfl,rfl,z⟩
 | false =>
 cases h2:bEq s.Kind 2 with
 | true =>
  obtain ⟨n,e,x,y,z⟩:=sleep_eq b s.Aid hg hq hc hu
  rw [x,y];exact ⟨_,_,_,_,rfl,rfl,z⟩
 | false =>
 cases h3:bEq s.Kind 3 with
 | true =>
  obtain ⟨o,n,e,x,y,z⟩:=wake_eq b s.Aid hg hq hc hu
  rw [x,y];exact ⟨_,_,_,_,rfl,rfl,z⟩
 | false =>
 cases h4:bEq s.Kind 4 with
 | true =>
  obtain ⟨o,d,n,e,x,y,z⟩:=put_eq b s.Aid s.Cat s.Frame s.Now hg hq hc hu hf hfu
  rw [show F24 _ _ _ _ _=_ from x,show F76 _ _ _ _ _=_ from y];exact ⟨_,_,_,_,rfl,rfl,z⟩
 | false =>
 cases h5:bEq s.Kind 5 with
 | true =>
  obtain ⟨o,d,n,e,x,y,z⟩:=pgrp_eq b s.Frame s.Now hg hq hc hu hf hfu
  rw [show F41 _ _ _=_ from x,show F77 _ _ _=_ from y];exact ⟨_,_,_,_,rfl,rfl,z⟩
 | false =>
 cases h6:bEq s.Kind 6 with
 | true =>
  obtain ⟨f,n,e,x,y,fu,z⟩:=poll_eq b s.Aid hg hq hc hu
  rw [x,y]
  simp only [cond_true,cond_false,Option.bind_some]
  cases he:bEq e 0 with
  | true=>exact ⟨_,_,_,_,rfl,rfl,⟨by simp,uf_one fu⟩,z.2.1,z.2.2⟩
  | false=>exact ⟨_,_,_,_,rfl,rfl,z⟩
 | false =>
 cases h7:bEq s.Kind 7 with
 | true =>
  obtain ⟨o,n,e,x,y,z⟩:=flush_eq b hg hq hc hu
  rw [x,y];exact ⟨_,_,_,_,rfl,rfl,z⟩
 | false =>
 cases h8:bEq s.Kind 8 with
 | true =>
  obtain ⟨d,n,e,x,y,z⟩:=age_eq b s.Now hg hq hc hu
  rw [x,y];exact ⟨_,_,_,_,rfl,rfl,z⟩
 | false=>exact ⟨_,_,_,_,rfl,rfl,ok_zero⟩
end Go.Proofs.Ytefiemaoacmdkaa

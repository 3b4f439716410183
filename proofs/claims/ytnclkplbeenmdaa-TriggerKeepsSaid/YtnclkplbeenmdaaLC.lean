/-
  TriggerKeeps: the rounds of the law.
-/
import Derived.Test.YtnclkplbeenmdaaLB
namespace Go.Proofs.Ytnclkplbeenmdaa
open Go.Am
set_option linter.unusedVariables false
set_option linter.unusedSimpArgs false
def mkd (k:Nat) (q:TStored):TStored:=TStored.mk q.Cat q.At (TFrame.mk q.Frame.Head [(k:Int),7])
def MK (H:List TStored):List TStored:=(List.range H.length).map fun k=>mkd k (gd H k)
theorem MK_len (H:List TStored):(MK H).length=H.length:=by simp [MK]
theorem MK_gd {H:List TStored} {k:Nat} (h:k < H.length):gd (MK H) k=mkd k (gd H k):=by
 simp [MK,gd,List.getD_eq_getElem?_getD,h]
theorem wr8 {k:Nat} (h:k < 256):wr .u8 (k:Int)=(k:Int):=wr_u8 (by omega)
theorem mark_ok (H:List TStored) (hn:H.length <= 100):loopD (fun s=>F6_L1 s.1 s.2) (H,(0:Int))=some (.inl (MK H)):=by
 let f:Nat->List TStored:=fun i=>(List.range H.length).map fun k=>if k < i then mkd k (gd H k) else gd H k
 have f0:f 0=H:=by
  show (List.range H.length).map _=H
  simp only [Nat.not_lt_zero,if_false]
  exact range_map H
 have fn:f H.length=MK H:=by
  unfold MK
  refine List.map_congr_left fun k hk=>?_
  rw [if_pos (List.mem_range.1 hk)]
 have fl:∀ i,(f i).length=H.length:=fun i=>by simp [f]
 have fg:∀ i k,k < H.length->gd (f i) k=if k < i then mkd k (gd H k) else gd H k:=fun i k hk=>by
  simp [f,gd,List.getD_eq_getElem?_getD,hk]
 have fs:∀ i,i < H.length->(f i).set i (mkd i (gd H i))=f (i+1):=fun i hi=>by
  apply List.ext_getElem (by simp [f])
  intro k h1 h2
  rw [List.getElem_set]
  simp only [f,List.getElem_map,List.getElem_range]
  by_cases e:i=k
  ·subst e;rw [if_pos rfl,if_pos (by omega)]
  ·rw [if_neg e]
   by_cases q:k < i
   ·rw [if_pos q,if_pos (by omega)]
   ·rw [if_neg q,if_neg (by omega)]
 have l1:=run_gen (step:=fun s=>F6_L1 s.1 s.2) (R:=Bool) H.length (fun i=>(f i,(i:Int))) (MK H) (fun i hi=>by
   show F6_L1 (f i) i=_
   unfold F6_L1
   rw [bif_t (by rw [fl];simp [bLt_eq];omega),need_true (inb_nat (by rw [fl];exact hi)),Option.bind_some,Int.toNat_natCast,wr_add1 hi (by omega),wr8 (show i < 256 by omega),← fs i hi]
   have e:gd (f i) i=gd H i:=by rw [fg i i hi,if_neg (Nat.lt_irrefl _)]
   rw [e]
   rfl)
  (by show F6_L1 (f H.length) _=_;unfold F6_L1;rw [bif_f (by rw [fl];simp [bLt_eq]),fn])
 rw [f0] at l1
 exact l1
def seenL (S:List Nat):List Bool:=(List.range 100).map fun n=>decide (n ∈ S)
theorem seen_0:List.replicate 100 false=seenL []:=by kernel_rfl
theorem seen_len (S:List Nat):(seenL S).length=100:=by simp [seenL]
theorem seen_gd {S:List Nat} {n:Nat} (h:n < 100):gd (seenL S) n=decide (n ∈ S):=by
 simp [seenL,gd,List.getD_eq_getElem?_getD,h]
theorem seen_set {S:List Nat} {n:Nat} (h:n < 100):(seenL S).set n true=seenL (S ++ [n]):=by
 apply List.ext_getElem (by simp [seenL])
 intro i h1 h2
 rw [List.getElem_set]
 simp only [seenL,List.getElem_map,List.getElem_range]
 by_cases e:n=i
 ·subst e;simp
 ·rw [if_neg e]
  simp [Ne.symm e]
section
variable (p:TTriggerPlan) (b:TBuffer) (M:List TStored) (w:List TSleeper) (x:TPeriod × TBuffer × Int)
theorem L2_go (seen:List Bool) (cat last:Int) (k t:Nat) (hk:k < x.1.Left.length) (hl:x.1.Left.length <= 1000) (hB:(gd x.1.Left k).Body=[(t:Int),7]) (ht:t < M.length) (h100:t < 100) (hs:gd seen t=false) (hsl:seen.length=100) (h3:(gd M t).Cat <= cat) (h4:¬ ((gd M t).Cat=cat/\(t:Int) <= last)) (h5:F36 p.Deliver (gd M t).Cat=some true) :
  F6_L2 p true b M w x seen cat last (k:Int)=some (.next (seen.set t true,(gd M t).Cat,(t:Int),((k+1:Nat):Int))):=by
 unfold F6_L2
 have w0:wr .i64 (gd [(t:Int),7] 0)=(t:Int):=by show wr .i64 (t:Int)=_;exact wr_in (by omega)
 have i1:inb (t:Int) M.length=true:=inb_nat ht
 have i2:inb (t:Int) 100=true:=inb_nat h100
 have c1:bLe (M.length:Int) (t:Int)=false:=by simp [bLe_eq];omega
 have c3:bLt cat (gd M t).Cat=false:=by simp [bLt_eq];omega
 have c4:(bEq (gd M t).Cat cat && bLe (t:Int) last)=false:=by
  cases h:(bEq (gd M t).Cat cat && bLe (t:Int) last) with
  | false=>rfl
  | true=>simp [bEq_eq,bLe_eq] at h;exact absurd h h4
 rw [bif_t (c:=bLt _ _) (by simp [bLt_eq];omega),need_true (inb_nat hk)]
 simp only [Int.toNat_natCast,hB,w0]
 rw [bif_f (c:=bEq _ _) (by rfl),need_true (by rfl)]
 simp only [hsl,i1,i2,c1,hs,c3,c4,h5,Option.isSome_some,gt_some,Bool.cond_self,need_true,Bool.not_false,Bool.not_true,Bool.or_false,Bool.false_or,cond_true,cond_false,Int.toNat_natCast]
 rw [wr_add1 hk (by omega)]
theorem L3_go (a:Nat) (seen:List Bool) (k t:Nat) (hk:k < (gd x.2.1.List a).Held.length) (hl:(gd x.2.1.List a).Held.length <= 1000) (hB:(gd (gd x.2.1.List a).Held k).Frame.Body=[(t:Int),7]) (ht:t < M.length) (h100:t < 100) (hs:gd seen t=false) (hsl:seen.length=100) (h5:F15 (gd (gd x.2.1.List a).Held k).Frame (gd M t).Frame=some true) :
  F6_L3 (a:Int) M x seen (k:Int)=some (.next (seen.set t true,((k+1:Nat):Int))):=by
 unfold F6_L3
 simp only [Int.toNat_natCast]
 generalize hq:gd (gd x.2.1.List a).Held k=q at *
 have w0:wr .i64 (gd [(t:Int),7] 0)=(t:Int):=by show wr .i64 (t:Int)=_;exact wr_in (by omega)
 have i1:inb (t:Int) M.length=true:=inb_nat ht
 have i2:inb (t:Int) 100=true:=inb_nat h100
 have i3:inb (k:Int) (gd x.2.1.List a).Held.length=true:=inb_nat hk
 have c1:bLe (M.length:Int) (t:Int)=false:=by simp [bLe_eq];omega
 rw [bif_t (c:=bLt _ _) (by simp [bLt_eq];omega),need_true i3]
 have h6:∀ z:List Int,z=[(t:Int),7]->bEq ((z.length:Nat):Int) 0=false:=fun z e=>by rw [e];rfl
 rw [bif_f (c:=bEq _ _) (h6 _ hB),need_true i3,need_true (by rw [hB];rfl)]
 simp only [eta_TFrame,eta_THeader,eta_A6u8]
 simp only [hB,w0,Int.toNat_natCast]
 simp only [hsl,i1,i2,i3,c1,hs,h5,Option.isSome_some,gt_some,Bool.cond_self,need_true,Bool.not_false,Bool.not_true,Bool.or_false,Bool.false_or,cond_true,cond_false]
 rw [wr_add1 hk (by omega)]
end
end Go.Proofs.Ytnclkplbeenmdaa

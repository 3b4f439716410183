/-
  One station that sleeps: Age.
-/
import Derived.Test.YtooepgpfaaddbaaSB
namespace Go.Proofs.Ytooepgpfaaddbaa
open Go.Am
set_option linter.unusedVariables false
set_option linter.unusedSimpArgs false
def old (stay t:Int) (q:TStored):Bool:=bLe (wr .i64 (q.At+stay)) t
theorem cutB {lim stay t:Int} {H:List TStored} (hl:H.length <= 64):yN (fun _=>F29_L1 (Bf lim stay H) t H) ()=some (.inl ((H.filter (old stay t)).map (·.Frame),H.filter fun q=>!old stay t q)):=by
 have full:∀ n:Nat,n <= H.length->(∀ j:Nat,j < n->old stay t (gd H j)=false)->(H.take n).filter (fun q=>!old stay t q)=H.take n/\(H.take n).filter (old stay t)=[]:=fun n hn h=>by
  have:∀ x ∈ H.take n,old stay t x=false:=fun x hx=>by
   obtain ⟨j,hj,rfl⟩:=List.getElem_of_mem hx
   rw [List.length_take] at hj
   rw [List.getElem_take,gd_at (by omega)]
   exact h j (by omega)
  exact ⟨List.filter_eq_self.2 fun x hx=>by rw [this x hx];rfl,List.filter_eq_nil_iff.2 fun x hx=>by rw [this x hx];simp⟩
 refine yX ?_
 unfold F29_L1
 rcases first_gen (step:=fun s=>F29_L3 (Bf lim stay H) t H s) H.length (fun i=>old stay t (gd H i)=true) (fun i=>.done (.inl ((i:Int),[(gd H i).Frame]))) () (fun i hi _=>by
   unfold F29_L3
   rw [vI (by simp [yS];omega),zS (xW hi),Int.toNat_natCast,show bLe (wr .i64 ((gd H i).At+(Bf lim stay H).Stay)) t=old stay t (gd H i) from rfl]
   cases hp:old stay t (gd H i) with
   | true=>rw [vI (by rfl),zS (tI.2 (by omega)),Option.bind_some];exact .inr ⟨rfl,rfl⟩
   | false=>rw [yT (by rfl),vO hi (by omega)];exact .inl ⟨by simp,rfl⟩)
  (by unfold F29_L3;rw [yT (by simp [yS])]) with ⟨h,l1⟩|⟨i0,h1,h2,h3,l1⟩
 ·have l2:yN (fun _=>F29_L2 (Bf lim stay H) t H) ()=some (.inl (-1,[])):=yX (by unfold F29_L2;rw [wH l1])
  obtain ⟨f1,f2⟩:=full H.length (Nat.le_refl _) fun j hj=>by simpa using h j hj
  rw [List.take_length] at f1 f2
  rw [wH l2,vI (by rfl),f1,f2]
  rfl
 ·have l2:yN (fun _=>F29_L2 (Bf lim stay H) t H) ()=some (.inl ((i0:Int),[(gd H i0).Frame])):=yX (by unfold F29_L2;rw [lp_inr l1])
  rw [wH l2,yT (by simp [uY]),vO h1 (by omega)]
  obtain ⟨f1,f2⟩:=full i0 (by omega) fun j hj=>by simpa using h3 j hj
  obtain ⟨b,l3,l4⟩:=loop_inv (step:=fun s=>F29_L4 (Bf lim stay H) t s.1 s.2.1 s.2.2.1 s.2.2.2)
   (fun s=>∃ i j:Nat,s.2.2.2=i/\s.1=j/\i < j/\j <= H.length/\s.2.2.1.length=H.length/\s.2.2.1.take i=(H.take j).filter (fun q=>!old stay t q)/\(∀ m:Nat,j <= m->gd s.2.2.1 m=gd H m)/\s.2.1=((H.take j).filter (old stay t)).map (·.Frame))
   (fun b=>∃ (L:List TStored) (i:Nat),b = .inl (L,(i:Int),(H.filter (old stay t)).map (·.Frame))/\i <= L.length/\L.take i=H.filter (fun q=>!old stay t q)) (fun s=>(H.length - s.1).toNat)
   (fun s hS=>by
    obtain ⟨x,ds,L,y⟩:=s
    obtain ⟨i,j,q1,q2,q3,q4,q5,q6,q7,q8⟩:=hS
    simp only at q1 q2 q5 q6 q7 q8
    subst q1 q2
    show (∃ b,F29_L4 (Bf lim stay H) t j ds L i=_/\_) ∨ ∃ s',F29_L4 (Bf lim stay H) t j ds L i=_/\_
    unfold F29_L4
    by_cases hj:j < H.length
    ·right
     have dl:ds.length <= j:=by rw [q8,List.length_map];exact Nat.le_trans (List.length_filter_le ..) (by rw [List.length_take];omega)
     rw [vI (c:=bLt (j:Int) _) (by simp [yS];omega),zS (xW (by omega)),Int.toNat_natCast,q7 j (Nat.le_refl _),show bLe (wr .i64 ((gd H j).At+(Bf lim stay H).Stay)) t=old stay t (gd H j) from rfl,vO hj (by omega),vO (i:=i) (n:=H.length) (by omega) (by omega)]
     have tf:=take_fil (fun q=>!old stay t q) H hj
     have tg:=take_fil (old stay t) H hj
     cases hb:old stay t (gd H j) with
     | true =>
      simp only [hb,Bool.not_true,cond_false] at tf
      simp only [hb,cond_true] at tg
      rw [vI (by rfl),zS (tI.2 (by omega))]
      exact ⟨_,rfl,⟨i,j+1,rfl,rfl,by omega,by omega,q5,by simp only;rw [tf];exact q6,fun m hm=>q7 m (by omega),by simp only;rw [tg,q8,List.map_append];rfl⟩,by simp only;omega⟩
     | false =>
      simp only [hb,Bool.not_false,cond_true] at tf
      simp only [hb,cond_false] at tg
      rw [yT (by rfl),zS (xW (by omega)),Int.toNat_natCast]
      refine ⟨_,rfl,⟨i+1,j+1,rfl,rfl,by omega,by omega,by simpa using q5,?_,fun m hm=>?_,by simp only;rw [tg];exact q8⟩,by simp only;omega⟩
      ·simp only
       rw [tf,← q6,List.take_succ_eq_append_getElem (by simp;omega),List.getElem_set_self,List.take_set_of_le (Nat.le_refl _)]
      ·simp only
       rw [← q7 m (by omega)]
       simp only [gd,List.getD_eq_getElem?_getD,List.getElem?_set]
       rw [if_neg (by omega)]
    ·left
     obtain rfl:j=H.length:=by omega
     rw [yT (c:=bLt _ _) (by simp [yS,q5])]
     rw [List.take_length] at q6 q8
     exact ⟨_,rfl,L,i,by rw [q8],by omega,q6⟩) (((i0+1:Nat):Int),[(gd H i0).Frame],H,(i0:Int)) ⟨i0,i0+1,rfl,rfl,by omega,by omega,rfl,by
      simp only
      rw [take_fil _ _ h1,h2,Bool.not_true,cond_false,f1],fun m _=>rfl,by
      simp only
      rw [take_fil _ _ h1,h2,cond_true,f2]
      rfl⟩
  obtain ⟨L,i,rfl,q1,q2⟩:=l4
  rw [wH l3]
  simp only [Int.toNat_natCast]
  rw [zS (slb_iff.2 (by omega)),zS (slb_iff.2 (by omega)),q2]
theorem cutG {lim stay t:Int} {H:List TStored} (w:List TFrame):yN (fun _=>F29_L5 (Bf lim stay H) t [] w) ()=some (.inl ([],w)):=by
 refine yX ?_
 unfold F29_L5
 have l1:yN (fun s=>F29_L7 (Bf lim stay H) t [] w s) 0=some (.inl ()):=yX (by unfold F29_L7;rw [yT (by simp [yS])])
 have l2:yN (fun _=>F29_L6 (Bf lim stay H) t [] w) ()=some (.inl (-1,w)):=yX (by unfold F29_L6;rw [wH l1])
 rw [wH l2,vI (by rfl)]
theorem ageB {lim stay now t:Int} {H:List TStored} (hL:Lm lim stay) (h:Qs lim now H) (hn:now <= 1099511627776) (ht:0 <= t/\t <= 1099511627776) :
  F29 (Bf lim stay H) t=some ((H.filter (old stay t)).map (·.Frame),Bf lim stay (H.filter fun q=>!old stay t q),0):=by
 have h2:=h.1
 have h3:=hL.1.2
 have mo:F24 t=some true:=by
  unfold F24
  rw [show (bLe 0 t && bLe t 1099511627776)=true from by simp [eO];omega]
 unfold F29
 rw [chk hL h hn,Option.bind_some,yT (by rfl),mo,Option.bind_some,yT (by rfl),show (Bf lim stay H).List=[⟨9,true,H⟩] from rfl,cln,Option.bind_some,zS (by rfl),zS (by rfl),show gd ([⟨9,true,H⟩]:List TSleeper) 0 = ⟨9,true,H⟩ from rfl,twq h h3,Option.bind_some,zS (by rfl),show (Bf lim stay H).Group=[] from rfl,twg,Option.bind_some,zS (by rfl),wH (cutB (by omega)),wH (cutG _)]
 rfl
end Go.Proofs.Ytooepgpfaaddbaa

/-
  Root: what taking an announcement does.
-/
import Derived.Test.YtdcepineppafpaaX4
namespace Go.Proofs.Ytdcepineppafpaa
open Go.Am
set_option linter.unusedVariables false
set_option linter.unusedSimpArgs false
def Sm (r:TRoots):Prop:=r.Trees.length <= 1000/\r.Proxies.length <= 1000
theorem F56_ok (r:TRoots) (h:Sm r):F56 r=some r:=by
 unfold F56 F66 F86
 rw [zJ (qM.2 (by have:=h.1;omega)),zJ (qM.2 (by have:=h.2;omega))]
 rfl
theorem F88_ok (q:TTree) (a:A6u8) (hq:Ab q.Root) (ha:Ab a):∃ k,F88 q a=some k/\Cp k (nA q.Root) (nA a):=by
 obtain ⟨k,k1,k2⟩:=F72_ok q.Root a hq ha
 unfold F88
 rw [k1]
 exact ⟨k,rfl,k2⟩
theorem F87_end (l:List TTree) (a:A6u8) (ha:Ab a) (hq:∀ q ∈ l,Ab q.Root) (i:Nat):∃ b,(need (bif (bLt (i:Int) (l.length:Nat)) then inb (i:Int) l.length else true) <| need (bif (bLt (i:Int) (l.length:Nat)) then ((F88 (gd l (i:Int).toNat) a).isSome) else true) <| some ((i:Int),((bLt (i:Int) (l.length:Nat)) && (bEq (gt (F88 (gd l (i:Int).toNat) a)) 0))))=some ((i:Int),b)/\(b=true ↔ i < l.length/\nA (gd l i).Root=nA a):=by
 by_cases h:i < l.length
 ·obtain ⟨k,k1,k2⟩:=F88_ok (gd l i) a (hq _ (jI h)) ha
  rw [zJ (by rw [yK h];simp),Int.toNat_natCast,k1,zJ (by simp),zU]
  refine ⟨_,rfl,?_⟩
  unfold Cp at k2
  simp only [yH,xV,Bool.and_eq_true,decide_eq_true_eq]
  omega
 ·have e:bLt (i:Int) (l.length:Nat)=false:=by simp [yH];omega
  rw [e]
  exact ⟨false,rfl,by simp [h]⟩
theorem F58_ok (r:TRoots) (a:A6u8) (hb:Abr r) (ha:Ab a) (hs:Sm r) (A B:List TTree) (e:r.Trees=A ++ B) (hA:∀ q ∈ A,nA q.Root < nA a) (hB:∀ q ∈ B,nA a <= nA q.Root):∃ b,F58 r a=some ((A.length:Int),b)/\(b=true ↔ ∃ q B',B=q::B'/\nA q.Root=nA a):=by
 have hq:∀ q ∈ r.Trees,Ab q.Root:=fun q hq=>by
  obtain ⟨j,hj,rfl⟩:=List.getElem_of_mem hq
  rw [jH hj];exact (hb.2.1 j hj).1
 have hl:r.Trees.length=A.length+B.length:=by rw [e,List.length_append]
 have i2:=bs_gen (step:=fun s:Int × Int=>F87_0_L1 r.Trees a s.1 s.2) (R:=Int × Bool) r.Trees (fun q=>F88 q a) A.length (by omega) (by have:=hs.1;omega) (fun i hi=>by
  obtain ⟨k,k1,k2⟩:=F88_ok (gd r.Trees i) a (hq _ (jI (by omega))) ha
  refine ⟨k,k1,?_⟩
  rw [e,gd_app1 hi] at k2
  have:=hA _ (jI hi)
  unfold Cp at k2;omega) (fun i h1 h2=>by
  obtain ⟨k,k1,k2⟩:=F88_ok (gd r.Trees i) a (hq _ (jI (by omega))) ha
  refine ⟨k,k1,?_⟩
  rw [e,gd_app2 h1] at k2
  have:=hB _ (jI (show i - A.length < B.length by omega))
  unfold Cp at k2;omega) (fun _=>rfl)
 obtain ⟨b,b1,b2⟩:=F87_end r.Trees a ha hq A.length
 refine ⟨b,?_,?_⟩
 ·unfold F58 F87_0
  rw [wX i2]
  simp only [qH,uA]
  rw [b1];rfl
 ·rw [b2]
  refine ⟨fun h=>?_,fun h=>?_⟩
  ·match B,hl,e,hB with
   | [],hl,_,_=>simp at hl;omega
   | q::B',_,e,_ =>
    refine ⟨q,B',rfl,?_⟩
    have:=h.2
    rw [e,gd_app2 (Nat.le_refl _),Nat.sub_self] at this
    exact this
  ·obtain ⟨q,B',rfl,hq'⟩:=h
   refine ⟨by rw [hl];simp,?_⟩
   rw [e,gd_app2 (Nat.le_refl _),Nat.sub_self]
   exact hq'
theorem Vr_sm {r:TRoots} (h:Vr r):Sm r:=⟨by have:=h.1.2.2.1;omega,by have:=h.1.2.2.2;omega⟩
theorem Vr_pro {r:TRoots} (h:Vr r):r.Proxies.Pairwise (fun a b=>nA a.Out < nA b.Out):=adj_srt (fun q:TProxied=>nA q.Out) r.Proxies fun i hi h0=>(h.2.2 i hi).2 h0
theorem Vr_tre {r:TRoots} (h:Vr r):r.Trees.Pairwise (fun a b=>nA a.Root < nA b.Root):=adj_srt (fun q:TTree=>nA q.Root) r.Trees fun i hi h0=>(h.2.1 i hi).2 h0
def zr:TRoots:=TRoots.mk (A6u8.mk 0 0 0 0 0 0) false false 0 [] []
def Wd (w:TRootWord):Prop:=(1 <= w.Seq/\w.Seq <= 2147483647)/\(0 <= w.Hops/\w.Hops <= 15)/\(0 <= w.Cost/\w.Cost <= 1099511627776)
theorem F43_ok (w:TRootWord):∃ v,F43 w=some v/\(v=true ↔ Wd w):=by
 unfold F43 F57 Wd
 simp only [Option.bind_some,Option.isSome_some,zU,Bool.cond_self,zJ]
 exact ⟨_,rfl,by simp only [Bool.and_eq_true,wW,decide_eq_true_eq,and_assoc]⟩
theorem Vr_iff (r:TRoots):Vr r ↔ Vh r/\(∀ t ∈ r.Trees,Vt r.Own t)/\r.Trees.Pairwise (fun a b=>nA a.Root < nA b.Root)/\(∀ q ∈ r.Proxies,0 <= q.Until/\q.Until <= 1099520627776)/\r.Proxies.Pairwise (fun a b=>nA a.Out < nA b.Out):=by
 refine ⟨fun h=>⟨h.1,fun t ht=>?_,Vr_tre h,fun q hq=>?_,Vr_pro h⟩,fun ⟨h1,h2,h3,h4,h5⟩=>⟨h1,fun i hi=>⟨h2 _ (jI hi),fun h0=>?_⟩,fun i hi=>⟨h4 _ (jI hi),fun h0=>?_⟩⟩⟩
 ·obtain ⟨j,hj,rfl⟩:=List.getElem_of_mem ht
  rw [jH hj];exact (h.2.1 j hj).1
 ·obtain ⟨j,hj,rfl⟩:=List.getElem_of_mem hq
  rw [jH hj];exact (h.2.2 j hj).1
 ·have:=List.pairwise_iff_getElem.1 h3 (i - 1) i (by omega) hi (by omega)
  rwa [jH,jH] at this
 ·have:=List.pairwise_iff_getElem.1 h5 (i - 1) i (by omega) hi (by omega)
  rwa [jH,jH] at this
theorem cX {r:TRoots}:Abr r ↔ Ab r.Own/\(∀ t ∈ r.Trees,Ab t.Root/\Ab t.Parent)/\∀ q ∈ r.Proxies,Ab q.Out/\Ab q.Via:=by
 refine ⟨fun h=>⟨h.1,fun t ht=>?_,fun q hq=>?_⟩,fun h=>⟨h.1,fun i hi=>h.2.1 _ (jI hi),fun i hi=>h.2.2 _ (jI hi)⟩⟩
 ·obtain ⟨j,hj,rfl⟩:=List.getElem_of_mem ht
  rw [jH hj];exact h.2.1 j hj
 ·obtain ⟨j,hj,rfl⟩:=List.getElem_of_mem hq
  rw [jH hj];exact h.2.2 j hj
theorem T_mem {r:TRoots} (hb:Abr r):∀ q ∈ r.Trees,Ab q.Root:=fun q hq=>(cX.1 hb).2.1 q hq |>.1
theorem uniT {r:TRoots} (hv:Vr r) {p q:TTree} (hp:p ∈ r.Trees) (hq:q ∈ r.Trees) (h:p.Root=q.Root):p=q:=by
 obtain ⟨i,hi,rfl⟩:=List.getElem_of_mem hp
 obtain ⟨j,hj,rfl⟩:=List.getElem_of_mem hq
 rcases Nat.lt_trichotomy i j with h1|rfl|h1
 ·have:=List.pairwise_iff_getElem.1 (Vr_tre hv) i j hi hj h1;rw [h] at this;omega
 ·rfl
 ·have:=List.pairwise_iff_getElem.1 (Vr_tre hv) j i hj hi h1;rw [h] at this;omega
def zt:TTree:=TTree.mk (A6u8.mk 0 0 0 0 0 0) (A6u8.mk 0 0 0 0 0 0) 0 0 0 false 0
theorem find_sem (r:TRoots) (a:A6u8) (hl:r.Trees.length <= 1000):(∃ q ∈ r.Trees,q.Root=a/\F37 r a=some (q,true)) ∨ ((∀ q ∈ r.Trees,q.Root ≠ a)/\F37 r a=some (zt,false)):=by
 unfold F37
 rcases first_gen (step:=fun s=>F37_L1 r a s) (E:=Unit) (R:=TTree × Bool) r.Trees.length (fun i=>(gd r.Trees i).Root=a) (fun i=>(gd r.Trees i,true)) () (fun i hi _=>by
   unfold F37_L1
   rw [xI (by simp [yH];omega),zJ (yK hi),Int.toNat_natCast]
   simp only [ae_def,qH,uA]
   by_cases h:(gd r.Trees i).Root=a
   ·rw [cC.2 h,cond_true,zJ (yK hi)];exact .inr ⟨h,rfl⟩
   ·rw [dR.2 h,cond_false,wM hi (by omega)];exact .inl ⟨h,rfl⟩)
  (by unfold F37_L1;rw [yR (by simp [yH])]) with ⟨h,l⟩|⟨i,h1,h2,_,l⟩
 ·rw [wX l]
  refine .inr ⟨fun q hq=>?_,rfl⟩
  obtain ⟨j,hj,rfl⟩:=List.getElem_of_mem hq
  rw [jH hj];exact h j hj
 ·rw [lp_inr l]
  exact .inl ⟨_,jI h1,h2,rfl⟩
def Ok (r:TRoots) (w:TRootWord) (fr:A6u8) (cost now:Int):Prop:=Vr r/\Wd w/\fr ≠ r.Own/\(1 <= cost/\cost <= 1099511627776)/\(0 <= now/\now <= 1099511627776)
def nT (w:TRootWord) (fr:A6u8) (cost now:Int):TTree:=TTree.mk w.Root fr w.Seq (w.Hops+1) (w.Cost+cost) w.Gate (now+5000000)
def nW (w:TRootWord) (cost:Int):TRootWord:=TRootWord.mk w.Root w.Seq (w.Hops+1) (w.Cost+cost) w.Gate
theorem cL (r:TRoots) (w:TRootWord) (fr:A6u8) (cost now:Int) (hb:Abr r) (hw:Ab w.Root) (hf:Ab fr) (hs:Sm r):∃ v,F20 r w fr cost now=some v/\((v.2.2 ≠ 0/\v.1=zr/\v.2.1=[]/\(v.2.2=21 ∨ ¬ (Ok r w fr cost now/\w.Root ≠ r.Own/\∃ q ∈ r.Trees,q.Root=w.Root/\q.Seq=w.Seq/\q.Cost=w.Cost+cost))) ∨
  (v.2.2=0/\Ok r w fr cost now/\w.Root ≠ r.Own/\w.Cost+cost <= 1099511627776/\Vr v.1/\Abr v.1/\v.1.Own=r.Own/\(∀ q,q ∈ v.1.Trees ↔ q=nT w fr cost now ∨ (q ∈ r.Trees/\q.Root ≠ w.Root)) /\
   (∀ q ∈ r.Trees,q.Root=w.Root->(q.Seq < w.Seq ∨ (w.Seq=q.Seq/\w.Cost+cost < q.Cost))/\v.1.Trees.length=r.Trees.length)/\((∀ q ∈ r.Trees,q.Root ≠ w.Root)->v.1.Trees.length=r.Trees.length+1) /\
   v.2.1=if w.Hops+1 < 16 then [nW w cost] else [])):=by
 unfold F20
 rcases F34_ok r hb with ⟨hv,e⟩|⟨hv,e⟩
 ·rw [e,Option.bind_some,yR (by simp [bEq])]
  obtain ⟨d,d1,d2⟩:=F43_ok w
  rw [d1,Option.bind_some]
  unfold F57
  simp only [Option.isSome_some,Bool.cond_self,zJ,zU,ae_def,uA,qH]
  by_cases hok:Wd w/\fr ≠ r.Own/\(1 <= cost/\cost <= 1099511627776)/\(0 <= now/\now <= 1099511627776)
  ·obtain ⟨k1,k2,k3,k4⟩:=hok
   have k1':=k1
   unfold Wd at k1'
   rw [d2.2 k1,dR.2 k2,yR (by simp [wW];omega)]
   obtain ⟨A,B,e1,hA,hB⟩:=srt_split (fun q:TTree=>nA q.Root) r.Trees (nA w.Root) (Vr_tre hv)
   obtain ⟨b,b1,b2⟩:=F58_ok r w.Root hb hw hs A B e1 hA (fun q hq=>by
    rcases hB with h|⟨q',B',rfl,h1,h2⟩
    ·have:=h q hq;omega
    ·rcases List.mem_cons.1 hq with rfl|hq
     ·omega
     ·have:=h2 q hq;omega)
   rw [b1,Option.bind_some]
   simp only [Int.toNat_natCast]
   have hlen:r.Trees.length=A.length+B.length:=by rw [e1,List.length_append]
   by_cases hown:w.Root=r.Own
   ·rw [cC.2 hown,cond_true]
    exact ⟨_,rfl,.inl ⟨by decide,rfl,rfl,.inl rfl⟩⟩
   ·rw [dR.2 hown,cond_false,F56_ok r hs,kB (x:=w.Hops+1) (by omega),kB (x:=w.Cost+cost) (by omega),kB (x:=now+5000000) (by omega)]
    simp only [Option.bind_some]
    have hO:Ok r w fr cost now:=⟨hv,k1,k2,k3,k4⟩
    have hn:TTree.mk w.Root fr w.Seq (w.Hops+1) (w.Cost+cost) w.Gate (now+5000000)=nT w fr cost now:=rfl
    rw [hn]
    have hnr:(nT w fr cost now).Root=w.Root:=rfl
    obtain ⟨g1,g2,g3,g4,g5⟩:=(Vr_iff r).1 hv
    obtain ⟨a1,a2,a3⟩:=cX.1 hb
    rw [e1] at g3
    have fin:∀ L:List TTree,∃ v:TRoots × List TRootWord × Int,(bif (bLt (w.Hops+1) 16) then some (TRoots.mk r.Own r.Root r.Gate r.Seq L r.Proxies,[TRootWord.mk w.Root w.Seq (w.Hops+1) (w.Cost+cost) w.Gate],0) else some (TRoots.mk r.Own r.Root r.Gate r.Seq L r.Proxies,[],0))=some v/\v.2.2=0/\v.1=TRoots.mk r.Own r.Root r.Gate r.Seq L r.Proxies/\v.2.1=if w.Hops+1 < 16 then [nW w cost] else []:=by
     intro L
     by_cases h:w.Hops+1 < 16
     ·rw [xI (by simp [yH,h]),if_pos h];exact ⟨_,rfl,rfl,rfl,rfl⟩
     ·rw [yR (by simp [yH];omega),if_neg h];exact ⟨_,rfl,rfl,rfl,rfl⟩
    have good:∀ B':List TTree,A.length+B'.length+1 <= 8->w.Cost+cost <= 1099511627776->(∀ q ∈ B',q ∈ r.Trees/\nA w.Root < nA q.Root)->B'.Pairwise (fun a b=>nA a.Root < nA b.Root)->Vr (TRoots.mk r.Own r.Root r.Gate r.Seq (A ++ nT w fr cost now::B') r.Proxies)/\Abr (TRoots.mk r.Own r.Root r.Gate r.Seq (A ++ nT w fr cost now::B') r.Proxies):=by
     intro B' hl hc hB' hp
     have hin:∀ q ∈ A ++ nT w fr cost now::B',q=nT w fr cost now ∨ q ∈ r.Trees:=fun q hq=>by
      rcases List.mem_append.1 hq with hq|hq
      ·exact .inr (by rw [e1];exact List.mem_append_left _ hq)
      ·rcases List.mem_cons.1 hq with rfl|hq
       ·exact .inl rfl
       ·exact .inr (hB' q hq).1
     refine ⟨(Vr_iff _).2 ⟨⟨g1.1,g1.2.1,by simp only [List.length_append,List.length_cons];omega,g1.2.2.2⟩,fun q hq=>?_,?_,g4,g5⟩,cX.2 ⟨a1,fun q hq=>?_,a3⟩⟩
     ·rcases hin q hq with rfl|hq
      ·exact ⟨k1.1,by simp only [nT];omega,by simp only [nT];omega,by simp only [nT];omega,hown,k2⟩
      ·exact g2 q hq
     ·refine List.pairwise_append.2 ⟨(List.pairwise_append.1 g3).1,List.pairwise_cons.2 ⟨fun q hq=>?_,hp⟩,fun p hp q hq=>?_⟩
      ·rw [hnr];exact (hB' q hq).2
      ·have:=hA p hp
       rcases List.mem_cons.1 hq with rfl|hq
       ·rw [hnr];exact this
       ·have:=(hB' q hq).2;omega
     ·rcases hin q hq with rfl|hq
      ·exact ⟨hw,hf⟩
      ·exact a2 q hq
    rcases hB with h|⟨q',B',rfl,h1,h2⟩
    ·have hbf:b=false:=by
      cases hbb:b with
      | false=>rfl
      | true =>
       obtain ⟨q,B',h3,h4⟩:=b2.1 hbb
       have:=h q (by rw [h3];simp);omega
     have hno:∀ q ∈ r.Trees,q.Root ≠ w.Root:=fun q hq he=>by
      rw [e1] at hq
      rcases List.mem_append.1 hq with hq|hq
      ·have:=hA q hq;rw [he] at this;omega
      ·have:=h q hq;rw [he] at this;omega
     rw [hbf]
     simp only [Bool.false_and,cond_false,zJ,Bool.not_false,Bool.true_and]
     by_cases hc:w.Cost+cost <= 1099511627776
     ·rw [yR (by simp [yH];omega)]
      by_cases h8:r.Trees.length=8
      ·rw [xI (by simp [xV];omega)]
       exact ⟨_,rfl,.inl ⟨by decide,rfl,rfl,.inr fun hh=>by obtain ⟨_,_,q,hq,hq2,_⟩:=hh;exact hno q hq hq2⟩⟩
      ·have h8':=g1.2.2.1
       rw [yR (by simp [xV];omega),zJ (insb_iff.2 (by omega))]
       have hi:insL r.Trees (A.length:Int) [nT w fr cost now]=A ++ nT w fr cost now::B:=by
        unfold insL
        rw [e1,Int.toNat_natCast,List.take_left,List.drop_left];simp
       rw [hi]
       obtain ⟨q1,q2⟩:=good B (by omega) hc (fun q hq=>⟨by rw [e1];exact List.mem_append_right _ hq,h q hq⟩) (List.pairwise_append.1 g3).2.1
       obtain ⟨v,v1,v2,v3,v4⟩:=fin (A ++ nT w fr cost now::B)
       refine ⟨v,v1,.inr ⟨v2,hO,hown,hc,by rw [v3];exact q1,by rw [v3];exact q2,by rw [v3],fun q=>?_,fun q hq he=>absurd he (hno q hq),fun _=>by rw [v3,hlen];simp only [List.length_append,List.length_cons];omega,v4⟩⟩
       rw [v3]
       simp only [List.mem_append,List.mem_cons]
       refine ⟨fun hq=>?_,fun hq=>?_⟩
       ·rcases hq with hq|rfl|hq
        ·have hm:q ∈ r.Trees:=by rw [e1];exact List.mem_append_left _ hq
         exact .inr ⟨hm,hno q hm⟩
        ·exact .inl rfl
        ·have hm:q ∈ r.Trees:=by rw [e1];exact List.mem_append_right _ hq
         exact .inr ⟨hm,hno q hm⟩
       ·rcases hq with rfl|⟨hq,_⟩
        ·exact .inr (.inl rfl)
        ·rw [e1] at hq
         rcases List.mem_append.1 hq with hq|hq
         ·exact .inl hq
         ·exact .inr (.inr hq)
     ·rw [xI (by simp [yH];omega)]
      exact ⟨_,rfl,.inl ⟨by decide,rfl,rfl,.inr fun hh=>by obtain ⟨_,_,q,hq,hq2,_⟩:=hh;exact hno q hq hq2⟩⟩
    ·have hbt:b=true:=b2.2 ⟨q',B',rfl,h1⟩
     have hg:gd r.Trees A.length=q':=by rw [e1,gd_app2 (Nat.le_refl _),Nat.sub_self];rfl
     have hm:q' ∈ r.Trees:=by rw [e1];simp
     have hr':q'.Root=w.Root:=nA_inj (T_mem hb q' hm) hw h1
     have hAl:A.length < r.Trees.length:=by rw [hlen];simp
     have huni:∀ q ∈ r.Trees,q.Root=w.Root->q=q':=fun q hq he=>uniT hv hq hm (by rw [he,hr'])
     rw [hbt,hg]
     have hin:∀ c:Bool,(bif c then inb (A.length:Int) r.Trees.length else true)=true:=fun c=>by rw [yK hAl];cases c<;>rfl
     simp only [Bool.true_and,yK hAl,Bool.cond_self,zJ,Bool.not_true,Bool.false_and,cond_false,cond_true]
     by_cases hst:w.Seq < q'.Seq ∨ (w.Seq=q'.Seq/\q'.Cost <= w.Cost+cost)
     ·rw [xI (by simp only [yH,xV,wW,Bool.or_eq_true,Bool.and_eq_true,decide_eq_true_eq];exact hst)]
      exact ⟨_,rfl,.inl ⟨by decide,rfl,rfl,.inl rfl⟩⟩
     ·rw [yR (by simp only [yH,xV,wW,Bool.or_eq_false_iff,Bool.and_eq_false_iff,decide_eq_false_iff_not];omega)]
      by_cases hc:w.Cost+cost <= 1099511627776
      ·rw [yR (by simp [yH];omega)]
       have hi:r.Trees.set A.length (nT w fr cost now)=A ++ nT w fr cost now::B':=by rw [e1];simp
       rw [hi]
       have h8':=g1.2.2.1
       have pB:=List.pairwise_cons.1 (List.pairwise_append.1 g3).2.1
       obtain ⟨q1,q2⟩:=good B' (by simp at hlen;omega) hc (fun q hq=>⟨by rw [e1];exact List.mem_append_right _ (List.mem_cons_of_mem _ hq),h2 q hq⟩) pB.2
       obtain ⟨v,v1,v2,v3,v4⟩:=fin (A ++ nT w fr cost now::B')
       refine ⟨v,v1,.inr ⟨v2,hO,hown,hc,by rw [v3];exact q1,by rw [v3];exact q2,by rw [v3],fun q=>?_,fun q hq he=>?_,fun hno=>absurd hr' (hno q' hm),v4⟩⟩
       ·rw [v3,e1]
        simp only [List.mem_append,List.mem_cons]
        refine ⟨fun hq=>?_,fun hq=>?_⟩
        ·rcases hq with hq|rfl|hq
         ·exact .inr ⟨.inl hq,fun he=>by have:=hA q hq;rw [he] at this;omega⟩
         ·exact .inl rfl
         ·exact .inr ⟨.inr (.inr hq),fun he=>by have:=h2 q hq;rw [he] at this;omega⟩
        ·rcases hq with rfl|⟨hq|rfl|hq,hne⟩
         ·exact .inr (.inl rfl)
         ·exact .inl hq
         ·exact absurd hr' hne
         ·exact .inr (.inr hq)
       ·rw [huni q hq he]
        refine ⟨by omega,?_⟩
        rw [v3,hlen];simp
      ·rw [xI (by simp [yH];omega)]
       refine ⟨_,rfl,.inl ⟨by decide,rfl,rfl,.inr fun hh=>?_⟩⟩
       obtain ⟨_,_,q,hq,hq2,hq3,hq4⟩:=hh
       rw [huni q hq hq2] at hq3 hq4
       omega
  ·rw [xI (by
    by_cases h1:Wd w
    ·by_cases h2:fr=r.Own
     ·rw [cC.2 h2];simp
     ·by_cases h3:1 <= cost/\cost <= 1099511627776
      ·have h4:¬ (0 <= now/\now <= 1099511627776):=fun h=>hok ⟨h1,h2,h3,h⟩
       simp only [wW,Bool.or_eq_true,Bool.not_eq_true',Bool.and_eq_false_iff,decide_eq_false_iff_not];omega
      ·simp only [wW,Bool.or_eq_true,Bool.not_eq_true',Bool.and_eq_false_iff,decide_eq_false_iff_not];omega
    ·have:d=false:=by cases d with|false=>rfl|true=>exact absurd (d2.1 rfl) h1
     rw [this];simp)]
   exact ⟨_,rfl,.inl ⟨by decide,rfl,rfl,.inr fun hh=>hok hh.1.2⟩⟩
 ·rw [e,Option.bind_some,xI (by simp [bEq])]
  exact ⟨_,rfl,.inl ⟨by decide,rfl,rfl,.inr fun hh=>hv hh.1.1⟩⟩
end Go.Proofs.Ytdcepineppafpaa

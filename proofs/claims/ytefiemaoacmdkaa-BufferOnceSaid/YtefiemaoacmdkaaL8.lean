/-
  BufferOnce: the law over values.
-/
import Derived.Test.YtefiemaoacmdkaaBT
namespace Go.Proofs.Ytefiemaoacmdkaa
open Go.Am
set_option linter.unusedVariables false
set_option linter.unusedSimpArgs false
theorem alive_ok8:F20=some true:=by kernel_rfl
/-! ### One step -/
def nwL (s:TStep) (i:Nat):List Nat:=if s.Kind=4 ∨ s.Kind=5 then [i] else []
theorem do_sp (b:TBuffer) (s:TStep) {P:Nat->Int} {i:Nat} (hv:Vb b) (hw:W b P (i+1)) (hlt:∀ n ∈ hl b,n < i) (hi:i < 302) (hf:s.Frame=fN i) (hc0:0 <= s.Cat) (h4:s.Kind=4->P i=4 * s.Aid+s.Cat) (h5:s.Kind=5->P i=0) :
  ∃ x,F31 b s=some x/\(x.2.2.2 ≠ 0 ∨ (s.Kind=4->1 <= s.Aid/\s.Aid <= 255/\s.Cat <= 3)/\Sp b P i (nwL s i) x):=by
 unfold F31
 by_cases k:s.Kind=0
 ·rw [yX (by simp [xJ,k])]
  obtain ⟨n,e,e1,e2⟩:=join_sp b s.Aid hv hw
  rw [e1,Option.bind_some]
  refine ⟨_,rfl,?_⟩
  rw [show nwL s i=[] from if_neg (by omega)]
  exact e2.imp_right fun h=>⟨fun h=>by omega,h⟩
 rw [yR (by simp [xJ,k])]
 by_cases k1:s.Kind=1
 ·rw [yX (by simp [xJ,k1])]
  obtain ⟨d,n,e,e1,e2⟩:=leave_sp b s.Aid hv hw
  rw [e1,Option.bind_some]
  refine ⟨_,rfl,?_⟩
  rw [show nwL s i=[] from if_neg (by omega)]
  exact e2.imp_right fun h=>⟨fun h=>by omega,h⟩
 rw [yR (by simp [xJ,k1])]
 by_cases k2:s.Kind=2
 ·rw [yX (by simp [xJ,k2])]
  obtain ⟨n,e,e1,e2⟩:=sleep_sp b s.Aid hv hw
  rw [e1,Option.bind_some]
  refine ⟨_,rfl,?_⟩
  rw [show nwL s i=[] from if_neg (by omega)]
  exact e2.imp_right fun h=>⟨fun h=>by omega,h⟩
 rw [yR (by simp [xJ,k2])]
 by_cases k3:s.Kind=3
 ·rw [yX (by simp [xJ,k3])]
  obtain ⟨o,n,e,e1,e2⟩:=wake_sp b s.Aid hv hw
  rw [e1,Option.bind_some]
  refine ⟨_,rfl,?_⟩
  rw [show nwL s i=[] from if_neg (by omega)]
  exact e2.imp_right fun h=>⟨fun h=>by omega,h⟩
 rw [yR (by simp [xJ,k3])]
 by_cases k4:s.Kind=4
 ·rw [yX (by simp [xJ,k4])]
  obtain ⟨o,d,n,e,e1,e2⟩:=put_sp b s.Aid s.Cat s.Now hv hw hlt hi hc0 (h4 k4)
  rw [hf,e1,Option.bind_some]
  refine ⟨_,rfl,?_⟩
  rw [show nwL s i=[i] from if_pos (.inl k4)]
  exact e2.imp_right fun h=>⟨fun _=>h.1,h.2⟩
 rw [yR (by simp [xJ,k4])]
 by_cases k5:s.Kind=5
 ·rw [yX (by simp [xJ,k5])]
  obtain ⟨o,d,n,e,e1,e2⟩:=pgrp_sp b s.Now hv hw hlt hi (h5 k5)
  rw [hf,e1,Option.bind_some]
  refine ⟨_,rfl,?_⟩
  rw [show nwL s i=[i] from if_pos (.inr k5)]
  exact e2.imp_right fun h=>⟨fun h=>by omega,h⟩
 rw [yR (by simp [xJ,k5])]
 rw [show nwL s i=[] from if_neg (by omega)]
 by_cases k6:s.Kind=6
 ·rw [yX (by simp [xJ,k6])]
  obtain ⟨f,n,e,e1,e2⟩:=poll_sp b s.Aid hv hw
  rw [e1,Option.bind_some]
  by_cases c:e=0
  ·rw [yX (by simp [xJ,c])]
   exact ⟨_,rfl,e2.imp_right fun h=>⟨fun h=>by omega,h⟩⟩
  ·rw [yR (by simp [xJ,c])]
   exact ⟨_,rfl,.inl c⟩
 rw [yR (by simp [xJ,k6])]
 by_cases k7:s.Kind=7
 ·rw [yX (by simp [xJ,k7])]
  obtain ⟨o,n,e,e1,e2⟩:=flush_sp b hv hw
  rw [e1,Option.bind_some]
  exact ⟨_,rfl,.inr ⟨fun h=>by omega,e2⟩⟩
 rw [yR (by simp [xJ,k7])]
 by_cases k8:s.Kind=8
 ·rw [yX (by simp [xJ,k8])]
  obtain ⟨d,n,e,e1,e2⟩:=age_sp b s.Now hv hw
  rw [e1,Option.bind_some]
  exact ⟨_,rfl,e2.imp_right fun h=>⟨fun h=>by omega,h⟩⟩
 rw [yR (by simp [xJ,k8])]
 exact ⟨_,rfl,.inl (by show (2:Int) ≠ 0;omega)⟩
/-! ### What is told of the frames of one step -/
theorem gd_map3 {α γ:Type} [Inhabited α] [Inhabited γ] {f:α->γ} {l:List α} {i:Nat} (h:i < l.length):gd (l.map f) i=f (gd l i):=by simp [gd,List.getD_eq_getElem?_getD,h]
theorem drop_gd {α:Type} [Inhabited α] {l:List α} {k:Nat} (h:k < l.length):l.drop k=gd l k::l.drop (k+1):=by rw [← tV h,← List.drop_eq_getElem_cons h]
theorem out_num {o:List TFrame} {ns:List Nat} {k:Nat} (h:o.map (·.Body)=ns.map fun n:Nat=>(fN n).Body) (hk:k < ns.length) (hn:gd ns k < 302):F38 (gd o k)=some ((gd ns k:Nat):Int):=by
 have hl:o.length=ns.length:=by have:=congrArg List.length h;simpa using this
 refine num_body hn ?_
 have:=congrArg (fun l=>gd l k) h
 rwa [gd_map3 (by omega),gd_map3 hk] at this
theorem out_loop {i:Nat} {r:List TFrame × List TFrame × TBuffer × Int} {w:List Int} {ns Y nx:List Nat} {d0 l0:List Int}
  (ho:r.1.map (·.Body)=ns.map fun n:Nat=>(fN n).Body) (hi:i < 301) (hw:w.length=i+1) (hp:∀ n,n <= i->0 <= gd w n/\gd w n < 1024)
  (hZ:(ns ++ Y).Nodup) (hm:∀ n ∈ ns ++ Y,n <= i) (hx:∀ n ∈ nx,n <= i) (hpw:ns.Pairwise (fun x y=>gd w x=gd w y->x < y)) (hrem:∀ r ∈ nx,∀ n ∈ ns,gd w n=gd w r->n < r)
  (hd:d0.length=i+1) (hl:l0.length=1024) (h1:∀ n,n <= i->(gd d0 n=1 ↔ n ∈ ns ++ Y)) (h2:∀ n ∈ ns ++ nx,gd l0 (gd w n).toNat <= n) (h3:∀ p,p < 1024->gd l0 p <= i) :
  ∃ d l,xC (fun s=>F8_L4 i r w s.1 s.2.1 s.2.2) (d0,l0,(0:Int))=some (.inl (d,l))/\d.length=i+1/\l.length=1024/\(∀ n,n <= i->(gd d n=1 ↔ n ∈ Y))/\(∀ n ∈ nx,gd l (gd w n).toNat <= n)/\∀ p,p < 1024->gd l p <= i:=by
 have hol:r.1.length=ns.length:=by have:=congrArg List.length ho;simpa using this
 have hns:ns.length <= 302:=by
  have h1:=(List.nodup_append.1 hZ).1
  have:=List.Nodup.length_le_of_subset (l₂:=List.range 302) h1 (fun n hn=>List.mem_range.2 (by have:=hm n (List.mem_append_left _ hn);omega))
  simpa using this
 obtain ⟨q,q1,q2⟩:=uV (step:=fun s:List Int × List Int × Int=>F8_L4 i r w s.1 s.2.1 s.2.2)
  (fun s=>∃ k:Nat,s.2.2=(k:Int)/\k <= ns.length/\s.1.length=i+1/\s.2.1.length=1024/\(∀ n,n <= i->(gd s.1 n=1 ↔ n ∈ ns.drop k ++ Y))/\(∀ n ∈ ns.drop k ++ nx,gd s.2.1 (gd w n).toNat <= n)/\∀ p,p < 1024->gd s.2.1 p <= i)
  (fun q=>∃ d l,q = .inl (d,l)/\d.length=i+1/\l.length=1024/\(∀ n,n <= i->(gd d n=1 ↔ n ∈ Y))/\(∀ n ∈ nx,gd l (gd w n).toNat <= n)/\∀ p,p < 1024->gd l p <= i)
  (fun s=>(ns.length - s.2.2).toNat)
  (fun s hI=>by
   obtain ⟨d,l,z⟩:=s
   obtain ⟨k,rfl,hk,g1,g2,g3,g4,g5⟩:=hI
   simp only at g1 g2 g3 g4 g5 ⊢
   unfold F8_L4
   rw [hol]
   by_cases hkn:k < ns.length
   ·have en:=drop_gd hkn
    have hn:gd ns k <= i:=hm _ (List.mem_append_left _ (xT hkn))
    obtain ⟨p1,p2⟩:=hp _ hn
    have a1:gd d (gd ns k)=1:=(g3 _ hn).2 (by rw [en];simp)
    have a2:gd l (gd w (gd ns k)).toNat <= gd ns k:=g4 _ (by rw [en];simp)
    have b1:bLt ((gd ns k:Nat):Int) 0=false:=by simp [yD]
    have b2:bLt (i:Int) ((gd ns k:Nat):Int)=false:=by simp [yD];omega
    have b3:(!bEq (gd d (gd ns k)) 1)=false:=by rw [a1];rfl
    have b4:inb (gd w (gd ns k)) 1024=true:=uQ.2 (by omega)
    have b5:bLt ((gd ns k:Nat):Int) (gd l (gd w (gd ns k)).toNat)=false:=by simp only [yD,decide_eq_false_iff_not];omega
    have b6:inb ((gd ns k:Nat):Int) d.length=true:=yN (by omega)
    have b7:inb ((gd ns k:Nat):Int) w.length=true:=yN (by omega)
    rw [yX (by simp only [yD,decide_eq_true_eq];omega),zP (yN hkn),Int.toNat_natCast,out_num ho hkn (by omega),Option.bind_some]
    simp only [Int.toNat_natCast,b1,b2,b3,b5,g2,b4,b6,b7,Bool.or_false,Bool.not_false,cond_true,cond_false,zP,xO hkn (by omega)]
    refine .inr ⟨_,rfl,⟨k+1,rfl,by omega,by simp [g1],by simp [g2],fun n hni=>?_,fun n hnm=>?_,fun p hp'=>?_⟩,by simp only;omega⟩
    ·have nd:(gd ns k::(ns.drop (k+1) ++ Y)).Nodup:=by
      have:=List.Nodup.sublist (List.Sublist.append (List.drop_sublist k ns) (List.Sublist.refl Y)) hZ
      rwa [en,List.cons_append] at this
     by_cases e:n=gd ns k
     ·subst e
      rw [uJ (by omega)]
      exact ⟨fun h=>by omega,fun h=>absurd h (List.nodup_cons.1 nd).1⟩
     ·rw [uK (fun h=>e h.symm),g3 n hni,en,List.cons_append,List.mem_cons]
      exact ⟨fun h=>h.resolve_left e,.inr⟩
    ·have hni:n <= i:=by
      rcases List.mem_append.1 hnm with h|h
      ·exact hm n (List.mem_append_left _ (List.mem_of_mem_drop h))
      ·exact hx n h
     obtain ⟨p3,p4⟩:=hp n hni
     by_cases e:gd w n=gd w (gd ns k)
     ·rw [e,uJ (by omega)]
      rcases List.mem_append.1 hnm with h|h
      ·have:=List.pairwise_cons.1 (en ▸ (hpw.sublist (List.drop_sublist k ns)))
       have:=this.1 n h e.symm
       omega
      ·have:=hrem n h _ (xT hkn) e.symm
       omega
     ·rw [uK (by omega)]
      refine g4 n ?_
      rcases List.mem_append.1 hnm with h|h
      ·exact List.mem_append_left _ (by rw [en];exact List.mem_cons_of_mem _ h)
      ·exact List.mem_append_right _ h
    ·by_cases e:(gd w (gd ns k)).toNat=p
     ·rw [← e,uJ (by omega)];omega
     ·rw [uK e];exact g5 p hp'
   ·obtain rfl:k=ns.length:=by omega
    rw [yR (by simp [yD])]
    rw [List.drop_length,List.nil_append] at g3 g4
    exact .inl ⟨_,rfl,d,l,rfl,g1,g2,g3,g4,g5⟩)
  (d0,l0,(0:Int)) ⟨0,rfl,by omega,hd,hl,h1,h2,h3⟩
 obtain ⟨d,l,rfl,q2⟩:=q2
 exact ⟨d,l,q1,q2⟩
theorem drop_loop {i:Nat} {r:List TFrame × List TFrame × TBuffer × Int} {ms Y:List Nat} {d0:List Int}
  (ho:r.2.1=ms.map fun n:Nat=>fN n) (hi:i < 301) (hZ:(ms ++ Y).Nodup) (hm:∀ n ∈ ms ++ Y,n <= i)
  (hd:d0.length=i+1) (h1:∀ n,n <= i->(gd d0 n=1 ↔ n ∈ ms ++ Y)) :
  ∃ d,xC (fun s=>F8_L5 i r s.1 s.2) (d0,(0:Int))=some (.inl d)/\d.length=i+1/\(∀ n,n <= i->(gd d n=1 ↔ n ∈ Y)):=by
 have hol:r.2.1.length=ms.length:=by rw [ho];simp
 have hns:ms.length <= 302:=by
  have h1:=(List.nodup_append.1 hZ).1
  have:=List.Nodup.length_le_of_subset (l₂:=List.range 302) h1 (fun n hn=>List.mem_range.2 (by have:=hm n (List.mem_append_left _ hn);omega))
  simpa using this
 obtain ⟨q,q1,q2⟩:=uV (step:=fun s:List Int × Int=>F8_L5 i r s.1 s.2)
  (fun s=>∃ k:Nat,s.2=(k:Int)/\k <= ms.length/\s.1.length=i+1/\(∀ n,n <= i->(gd s.1 n=1 ↔ n ∈ ms.drop k ++ Y)))
  (fun q=>∃ d,q = .inl d/\d.length=i+1/\(∀ n,n <= i->(gd d n=1 ↔ n ∈ Y)))
  (fun s=>(ms.length - s.2).toNat)
  (fun s hI=>by
   obtain ⟨d,z⟩:=s
   obtain ⟨k,rfl,hk,g1,g3⟩:=hI
   simp only at g1 g3 ⊢
   unfold F8_L5
   rw [hol]
   by_cases hkn:k < ms.length
   ·have en:=drop_gd hkn
    have hn:gd ms k <= i:=hm _ (List.mem_append_left _ (xT hkn))
    have a1:gd d (gd ms k)=1:=(g3 _ hn).2 (by rw [en];simp)
    have a0:gd r.2.1 k=fN ((gd ms k:Nat):Int):=by rw [ho,gd_map3 hkn]
    obtain ⟨t1,t2,t3⟩:=tabN (show gd ms k < 302 by omega)
    have b1:bLt ((gd ms k:Nat):Int) 0=false:=by simp [yD]
    have b2:bLt (i:Int) ((gd ms k:Nat):Int)=false:=by simp [yD];omega
    have b3:(!bEq (gd d (gd ms k)) 1)=false:=by rw [a1];rfl
    have b6:inb ((gd ms k:Nat):Int) d.length=true:=yN (by omega)
    have b7:inb (k:Int) ms.length=true:=yN hkn
    have e1:F38 (gd r.2.1 k)=some ((gd ms k:Nat):Int):=by rw [a0];exact t1
    have e2:F36 (gd r.2.1 k) (fN ((gd ms k:Nat):Int))=some true:=by rw [a0];exact fsame_ok _ t3
    rw [yX (by simp only [yD,decide_eq_true_eq];omega),zP (yN hkn),Int.toNat_natCast,e1,Option.bind_some,frame_ok,Option.bind_some,e2,Option.bind_some]
    simp only [Int.toNat_natCast,b1,b2,b3,b6,b7,Bool.or_false,Bool.not_false,Bool.not_true,cond_true,cond_false,zP,xO hkn (by omega)]
    refine .inr ⟨_,rfl,⟨k+1,rfl,by omega,by simp [g1],fun n hni=>?_⟩,by simp only;omega⟩
    have nd:(gd ms k::(ms.drop (k+1) ++ Y)).Nodup:=by
     have:=List.Nodup.sublist (List.Sublist.append (List.drop_sublist k ms) (List.Sublist.refl Y)) hZ
     rwa [en,List.cons_append] at this
    by_cases e:n=gd ms k
    ·subst e
     rw [uJ (by omega)]
     exact ⟨fun h=>by omega,fun h=>absurd h (List.nodup_cons.1 nd).1⟩
    ·rw [uK (fun h=>e h.symm),g3 n hni,en,List.cons_append,List.mem_cons]
     exact ⟨fun h=>h.resolve_left e,.inr⟩
   ·obtain rfl:k=ms.length:=by omega
    rw [yR (by simp [yD])]
    rw [List.drop_length,List.nil_append] at g3
    exact .inl ⟨_,rfl,d,rfl,g1,g3⟩)
  (d0,(0:Int)) ⟨0,rfl,by omega,hd,h1⟩
 obtain ⟨d,rfl,q2⟩:=q2
 exact ⟨d,q1,q2⟩
/-! ### The law's state -/
def Iv (i:Nat) (d w l:List Int) (b:TBuffer):Prop :=
 d.length=i/\w.length=i/\l.length=1024/\Vb b/\W b (fun n=>gd w n) i/\(∀ n,n < i->0 <= gd w n/\gd w n < 1024)/\(hl b).Nodup/\(∀ n,n < i->(gd d n=1 ↔ n ∈ hl b))/\(∀ n ∈ hl b,gd l (gd w n).toNat <= n)/\∀ p,p < 1024->gd l p <= i
theorem note_ok (p:List TStep) (d w:List Int) (i:Nat) (hi:i < 301) (hd:d.length=i) (hw:w.length=i) (hc0:0 <= (gd p i).Cat) (h:(gd p i).Kind=4->1 <= (gd p i).Aid/\(gd p i).Aid <= 255/\(gd p i).Cat <= 3) :
  ∃ d1 d2 w2:List Int,F8_L2 p d w i=some (.done (.inl (d1,w2)))/\F8_L3 p i d1=some (.done (.inl d2))/\d2.length=i+1/\w2.length=i+1/\(∀ n,n < i->gd d2 n=gd d n/\gd w2 n=gd w n)/\(gd d2 i=1 ↔ i ∈ nwL (gd p i) i)/\gd w2 i=(if (gd p i).Kind=4 then 4 * (gd p i).Aid+(gd p i).Cat else 0):=by
 unfold F8_L2 F8_L3 nwL
 have ea:∀ (l:List Int),l.length=i->(∀ n,n < i->gd (l ++ [0]) n=gd l n)/\gd (l ++ [0]) i=0/\(l ++ [0]).length=i+1:=fun l e=>⟨fun n hn=>vY (by omega),by rw [tP (by omega),e,Nat.sub_self];rfl,by simp [e]⟩
 have es:∀ (l:List Int) (x:Int),l.length=i+1->(∀ n,n < i->gd (l.set i x) n=gd l n)/\gd (l.set i x) i=x/\(l.set i x).length=i+1:=fun l x e=>⟨fun n hn=>uK (by omega),uJ (by omega),by simp [e]⟩
 obtain ⟨d1,d2,d3⟩:=ea d hd
 obtain ⟨w1,w2,w3⟩:=ea w hw
 simp only [Int.toNat_natCast]
 by_cases k4:(gd p i).Kind=4
 ·obtain ⟨a1,a2,a3⟩:=h k4
  rw [yX (by simp [xJ,k4]),yR (by simp only [yD,Bool.or_eq_false_iff,decide_eq_false_iff_not];omega),zP (yN (by omega)),zP (yN (by omega)),qB (x:=4 * (gd p i).Aid) (by omega),qB (x:=(gd p i).Cat) (by omega),qB (by omega)]
  obtain ⟨x1,x2,x3⟩:=es _ 1 d3
  obtain ⟨y1,y2,y3⟩:=es _ (4 * (gd p i).Aid+(gd p i).Cat) w3
  refine ⟨_,_,_,rfl,by rw [yR (by simp [xJ,k4])],x3,y3,fun n hn=>⟨by rw [x1 n hn,d1 n hn],by rw [y1 n hn,w1 n hn]⟩,?_,?_⟩
  ·rw [x2,if_pos (.inl k4)];simp
  ·rw [y2,if_pos k4]
 ·rw [yR (by simp [xJ,k4])]
  by_cases k5:(gd p i).Kind=5
  ·obtain ⟨x1,x2,x3⟩:=es _ 1 d3
   refine ⟨_,_,_,rfl,by rw [yX (by simp [xJ,k5]),zP (yN (by omega))],x3,w3,fun n hn=>⟨by rw [x1 n hn,d1 n hn],w1 n hn⟩,?_,?_⟩
   ·rw [x2,if_pos (.inr k5)];simp
   ·rw [w2,if_neg k4]
  ·refine ⟨_,_,_,rfl,by rw [yR (by simp [xJ,k5])],d3,w3,fun n hn=>⟨d1 n hn,w1 n hn⟩,?_,?_⟩
   ·rw [d2,if_neg (by omega)];simp
   ·rw [w2,if_neg k4]
theorem step_ok (p:List TStep) (i:Nat) (d w l:List Int) (b:TBuffer) (hp:i < p.length) (hn:p.length <= 300) (hc0:∀ s ∈ p,0 <= s.Cat) (h:Iv i d w l b) :
  ∃ d' w' l' b',F8_L1 p d w i l b=some (.next (d',w',((i+1:Nat):Int),l',b'))/\Iv (i+1) d' w' l' b':=by
 obtain ⟨v1,v2,v3,v4,v5,v6,v7,v8,v9,v10⟩:=h
 have hlt:∀ n ∈ hl b,n < i:=fun n hn=>hl_lt v5 hn
 let P:Nat->Int:=fun n=>if n=i then (if (gd p i).Kind=4 then 4 * (gd p i).Aid+(gd p i).Cat else 0) else gd w n
 have hP:∀ n,n < i->P n=gd w n:=fun n hn=>if_neg (by omega)
 have hPi:P i=(if (gd p i).Kind=4 then 4 * (gd p i).Aid+(gd p i).Cat else 0):=if_pos rfl
 have hw:W b P (i+1):=W_mono v5 fun n hn=>hP n hn
 obtain ⟨x,x1,x2⟩:=do_sp b ⟨(gd p i).Kind,(gd p i).Aid,(gd p i).Cat,(gd p i).Now,fN i⟩ v4 hw hlt (by omega) rfl (show 0 <= (gd p i).Cat from hc0 _ (xT hp)) (fun k=>by rw [hPi,if_pos k]) (fun k=>by rw [hPi,if_neg (by have:(gd p i).Kind=5:=k;omega)])
 unfold F8_L1
 rw [yX (by simp only [yD,decide_eq_true_eq];omega),zP (yN hp),Int.toNat_natCast,frame_ok,Option.bind_some,x1,Option.bind_some,uR (by omega) (by omega),uR (by omega) (by omega),xO hp (by omega)]
 have ea:∀ (l:List Int),l.length=i->(∀ n,n < i->gd (l ++ [0]) n=gd l n)/\gd (l ++ [0]) i=0/\(l ++ [0]).length=i+1:=fun l e=>⟨fun n hn=>vY (by omega),by rw [tP (by omega),e,Nat.sub_self];rfl,by simp [e]⟩
 by_cases c:x.2.2.2=0
 ·obtain ⟨x3,s1,s2,ns,ms,s3,s4,s5,s6,s7,s8⟩:=x2.resolve_left (fun h=>h c)
  obtain ⟨d1,d2,w2,n1,n2,n3,n4,n5,n6,n7⟩:=note_ok p d w i (by omega) v1 v2 (hc0 _ (xT hp)) x3
  have hP2:∀ n,n <= i->gd w2 n=P n:=fun n hn=>by
   rcases Nat.lt_or_eq_of_le hn with q|rfl
   ·rw [(n5 n q).2,hP n q]
   ·rw [n7,hPi]
  have rng:∀ n,n <= i->0 <= gd w2 n/\gd w2 n < 1024:=fun n hn=>by
   rcases Nat.lt_or_eq_of_le hn with q|rfl
   ·rw [(n5 n q).2];exact v6 n q
   ·rw [n7]
    have:=hc0 _ (xT hp)
    split
    ·rename_i k
     obtain ⟨a1,a2,a3⟩:=x3 k
     simp only at a1 a2 a3
     omega
    ·omega
  have nwi:∀ n,n ∈ nwL (gd p i) i->n=i:=fun n hn=>by
   unfold nwL at hn
   split at hn
   ·exact List.mem_singleton.1 hn
   ·cases hn
  have pm:(ns ++ (ms ++ hl x.2.2.1)).Perm (hl b ++ nwL (gd p i) i):=List.perm_iff_count.2 fun n=>by
   have:=s5 n
   rw [show nwL ⟨(gd p i).Kind,(gd p i).Aid,(gd p i).Cat,(gd p i).Now,fN i⟩ i=nwL (gd p i) i from rfl] at this
   simp only [List.count_append] at this ⊢
   omega
  have nd:(ns ++ (ms ++ hl x.2.2.1)).Nodup:=pm.nodup_iff.2 (List.nodup_append.2 ⟨v7,by unfold nwL;split<;>simp,fun a ha b hb e=>by have:=hlt a ha;have:=nwi b hb;omega⟩)
  have hm:∀ n ∈ ns ++ (ms ++ hl x.2.2.1),n <= i:=fun n hn=>by
   rcases List.mem_append.1 (pm.mem_iff.1 hn) with q|q
   ·have:=hlt n q;omega
   ·have:=nwi n q;omega
  have hx:∀ n ∈ hl x.2.2.1,n <= i:=fun n hn=>hm n (List.mem_append_right _ (List.mem_append_right _ hn))
  have hd2:∀ n,n <= i->(gd d2 n=1 ↔ n ∈ ns ++ (ms ++ hl x.2.2.1)):=fun n hn=>by
   rw [pm.mem_iff,List.mem_append]
   rcases Nat.lt_or_eq_of_le hn with q|rfl
   ·rw [(n5 n q).1,v8 n q]
    exact ⟨.inl,fun h=>h.resolve_right fun h=>by have:=nwi n h;omega⟩
   ·rw [n6]
    exact ⟨.inr,fun h=>h.resolve_left fun h=>by have:=hlt n h;omega⟩
  have hlst:∀ n ∈ ns ++ hl x.2.2.1,gd l (gd w2 n).toNat <= n:=fun n hn=>by
   have hn':n ∈ ns ++ (ms ++ hl x.2.2.1):=by
    rcases List.mem_append.1 hn with q|q
    ·exact List.mem_append_left _ q
    ·exact List.mem_append_right _ (List.mem_append_right _ q)
   rcases List.mem_append.1 (pm.mem_iff.1 hn') with q|q
   ·rw [(n5 n (hlt n q)).2];exact v9 n q
   ·rw [nwi n q]
    have:=rng i (Nat.le_refl _)
    exact v10 _ (by omega)
  have s7':ns.Pairwise (fun x y=>gd w2 x=gd w2 y->x < y):=by
   refine List.Pairwise.imp_of_mem (fun ha hb h e=>h ?_) s7
   rwa [hP2 _ (hm _ (List.mem_append_left _ ha)),hP2 _ (hm _ (List.mem_append_left _ hb))] at e
  have s8':∀ r ∈ hl x.2.2.1,∀ n ∈ ns,gd w2 n=gd w2 r->n < r:=fun r hr n hn e=>by
   rw [hP2 _ (hm _ (List.mem_append_left _ hn)),hP2 _ (hx _ hr)] at e
   exact s8 r hr n hn e
  obtain ⟨d3,l3,o1,o2,o3,o4,o5,o6⟩:=out_loop (r:=x) s3 (by omega) n4 rng nd hm hx s7' s8' n3 v3 hd2 hlst v10
  obtain ⟨d4,r1,r2,r3⟩:=drop_loop (r:=x) s4 (by omega) (List.nodup_append.1 nd).2.1 (fun n hn=>hm n (List.mem_append_right _ hn)) o2 o4
  rw [yR (by simp [xJ,c])]
  rw [wZ (gR n1),wZ (gR n2)]
  simp only
  rw [wZ o1,wZ r1]
  refine ⟨_,_,_,_,rfl,r2,n4,o3,s2,⟨fun s hs=>?_,?_⟩,fun n hn=>rng n (by omega),?_,fun n hn=>r3 n (by omega),o5,fun p hp=>by have:=o6 p hp;show gd l3 p <= _;omega⟩
  ·have:=s6.1 s hs
   exact ⟨fun q hq=>by obtain ⟨t1,t2,t3,t4⟩:=this.1 q hq;exact ⟨t1,t2,by show gd w2 (nq q)=_;rw [hP2 _ (by omega)];exact t3,t4⟩,this.2⟩
  ·have:=s6.2
   exact ⟨fun q hq=>by obtain ⟨t1,t2,t3,t4⟩:=this.1 q hq;exact ⟨t1,t2,by show gd w2 (nq q)=_;rw [hP2 _ (by omega)];exact t3,t4⟩,this.2⟩
  ·exact (List.nodup_append.1 (List.nodup_append.1 nd).2.1).2.1
 ·rw [yX (by simp [xJ,c])]
  obtain ⟨d1,d2,d3⟩:=ea d v1
  obtain ⟨w1,w2,w3⟩:=ea w v2
  refine ⟨_,_,_,_,rfl,d3,w3,v3,v4,W_mono v5 fun n hn=>w1 n hn,fun n hn=>?_,v7,fun n hn=>?_,fun n hn=>?_,fun p hp=>by have:=v10 p hp;omega⟩
  ·rcases Nat.lt_or_eq_of_le (Nat.le_of_lt_succ hn) with q|rfl
   ·rw [w1 n q];exact v6 n q
   ·rw [w2];omega
  ·rcases Nat.lt_or_eq_of_le (Nat.le_of_lt_succ hn) with q|rfl
   ·rw [d1 n q];exact v8 n q
   ·rw [d2]
    exact ⟨fun h=>by omega,fun h=>by have:=hlt n h;omega⟩
  ·rw [w1 n (hlt n hn)];exact v9 n hn
/-! ### The end -/
def sumH (L:List TSleeper):Nat:=(L.map fun s=>s.Held.length).sum
theorem hlB_len (L:List TSleeper):(hlB L).length=sumH L:=by
 induction L with
 | nil=>rfl
 | cons s L ih =>
  unfold hlB sumH at *
  rw [List.flatMap_cons,List.length_append,ih]
  simp
theorem sumH_snoc (A:List TSleeper) (s:TSleeper):sumH (A ++ [s])=sumH A+s.Held.length:=by unfold sumH;simp
theorem sum_loop {i:Nat} {d w l:List Int} {b:TBuffer} (hi:i <= 300) (h:Iv i d w l b) :
  xC (fun s=>F8_L6 d b s.1 s.2) (((b.Group.length:Nat):Int),(0:Int))=some (.inl (((hl b).length:Nat):Int)):=by
 obtain ⟨v1,v2,v3,v4,v5,v6,v7,v8,v9,v10⟩:=h
 have hg:=bN v4
 have h1:=hg.1
 have h2:=hg.2.1
 have hs:∀ j,j <= b.List.length->sumH (b.List.take j) <= 70 * j:=fun j=>by
  induction j with
  | zero=>intro _;simp [sumH]
  | succ j ih =>
   intro hj
   rw [qN (by omega),sumH_snoc]
   have:=ih (by omega)
   have:=hg.2.2 j (by omega)
   omega
 have:=kA (step:=fun s=>F8_L6 d b s.1 s.2) (R:=Bool) b.List.length (fun j=>(((b.Group.length+sumH (b.List.take j):Nat):Int),(j:Int))) (((hl b).length:Nat):Int) (fun j hj=>by
  show F8_L6 d b _ _=_
  unfold F8_L6
  have hh:=hg.2.2 j hj
  have hsj:=hs j (by omega)
  have hin:=kA (step:=fun s=>F8_L7 d b j s) (R:=Bool) (gd b.List j).Held.length (fun k=>(k:Int)) () (fun k hk=>by
    show F8_L7 d b j _=_
    unfold F8_L7
    obtain ⟨q1,q2,q3,q4⟩:=(v5.1 _ (xT hj)).1 _ (xT hk)
    have hm:nq (gd (gd b.List j).Held k) ∈ hl b:=List.mem_append_left _ (List.mem_flatMap.2 ⟨_,xT hj,List.mem_map.2 ⟨_,xT hk,rfl⟩⟩)
    have e1:F38 (gd (gd b.List j).Held k).Frame=some ((nq (gd (gd b.List j).Held k):Nat):Int):=by rw [q2];rw [(tabN (show nq (gd (gd b.List j).Held k) < 302 by omega)).1]
    rw [zP (yN hj)]
    simp only [Int.toNat_natCast]
    rw [yX (by simp only [yD,decide_eq_true_eq];omega),zP (yN hj),zP (yN hk),e1,Option.bind_some]
    have b1:bLt ((nq (gd (gd b.List j).Held k):Nat):Int) 0=false:=by simp [yD]
    have b2:bLe ((d.length:Nat):Int) ((nq (gd (gd b.List j).Held k):Nat):Int)=false:=by simp [vQ];omega
    have b3:(!bEq (gd d (nq (gd (gd b.List j).Held k))) 1)=false:=by rw [(v8 _ q1).2 hm];rfl
    have b4:inb ((nq (gd (gd b.List j).Held k):Nat):Int) d.length=true:=yN (by omega)
    simp only [Int.toNat_natCast,b1,b2,b3,b4,Bool.or_false,Bool.not_false,cond_true,cond_false,zP,xO hk (by omega)])
   (by
    show F8_L7 d b j _=_
    unfold F8_L7
    rw [zP (yN hj)]
    simp only [Int.toNat_natCast]
    rw [yR (by simp [yD])])
  simp only
  rw [yX (by simp only [yD,decide_eq_true_eq];omega),zP (yN hj),wZ (show xC (fun s=>F8_L7 d b j s) (0:Int)=some (.inl ()) from hin),xO hj (by omega),Int.toNat_natCast,qN hj,sumH_snoc,qB (by omega)]
  congr 3
  omega)
  (by
   show F8_L6 d b _ _=_
   unfold F8_L6
   simp only
   rw [yR (by simp [yD]),List.take_length]
   have:(hl b).length=b.Group.length+sumH b.List:=by unfold hl;rw [List.length_append,hlB_len,List.length_map];omega
   rw [this])
 simpa [sumH] using this
theorem count_loop {i:Nat} {d:List Int} {H:List Nat} (hi:i <= 300) (hd:d.length=i) (hn:H.Nodup) (hH:∀ n ∈ H,n < i) (h:∀ n,n < i->(gd d n=1 ↔ n ∈ H)) :
  xC (fun s=>F8_L8 d s.1 s.2) (((H.length:Nat):Int),(0:Int))=some (.inl 0):=by
 have hp:((List.range i).filter fun n=>decide (gd d n=1)).Perm H:=(List.perm_ext_iff_of_nodup (List.Pairwise.filter _ List.nodup_range) hn).2 fun n=>by
  rw [List.mem_filter,List.mem_range,decide_eq_true_eq]
  exact ⟨fun h1=>(h n h1.1).1 h1.2,fun h1=>⟨hH n h1,(h n (hH n h1)).2 h1⟩⟩
 have hlen:=hp.length_eq
 have hle:∀ j,((List.range j).filter fun n=>decide (gd d n=1)).length <= j:=fun j=>by have:=List.length_filter_le (fun n=>decide (gd d n=1)) (List.range j);simpa using this
 have hH2:H.length <= 300:=by have:=hle i;omega
 have:=kA (step:=fun s=>F8_L8 d s.1 s.2) (R:=Bool) d.length (fun j=>((H.length:Int) - (((List.range j).filter fun n=>decide (gd d n=1)).length:Nat),(j:Int))) 0 (fun j hj=>by
  show F8_L8 d _ _=_
  unfold F8_L8
  simp only
  have:=hle j
  rw [yX (by simp only [yD,decide_eq_true_eq];omega),zP (yN hj),xO hj (by omega),Int.toNat_natCast,List.range_succ,List.filter_append,List.length_append]
  by_cases c:gd d j=1
  ·rw [yX (by simp [xJ,c]),List.filter_cons_of_pos (by simp [c]),qB (by omega)]
   congr 3
   simp
   omega
  ·rw [yR (by simp [xJ,c]),List.filter_cons_of_neg (by simp [c])]
   congr 3)
  (by
   show F8_L8 d _ _=_
   unfold F8_L8
   simp only
   rw [yR (by simp [yD]),hd,hlen]
   congr 3
   omega)
 simpa using this
theorem new_ok (a c:Int):∃ b e,F12 a c=some (b,e)/\(e ≠ 0 ∨ e=0/\Vb b/\b.List=[]/\b.Group=[]):=by
 have hg:Ng (TBuffer.mk a c [] []):=⟨by simp,by simp,fun i hi=>by simp at hi⟩
 unfold F12
 rcases check_ok _ hg with ⟨hv,e⟩|⟨_,e⟩
 ·rw [e,Option.bind_some,yR (by rfl)]
  exact ⟨_,_,rfl,.inr ⟨rfl,hv,rfl,rfl⟩⟩
 ·rw [e,Option.bind_some,yX (by rfl)]
  exact ⟨_,_,rfl,.inl (by omega)⟩
theorem gd_rep0 (n p:Nat):gd (List.replicate n (0:Int)) p=0:=by
 simp only [gd,List.getD_eq_getElem?_getD,List.getElem?_replicate]
 split<;>rfl
theorem law8 (a c:Int) (p:List TStep) (hc0:∀ s ∈ p,0 <= s.Cat):F8 a c p=some true:=by
 unfold F8
 obtain ⟨b0,e0,n1,n2⟩:=new_ok a c
 rw [alive_ok8,Option.bind_some,n1,Option.bind_some]
 by_cases hb:e0 ≠ 0 ∨ 300 < p.length
 ·rw [yX (by simp only [xJ,yD,Bool.not_true,Bool.or_false,Bool.or_eq_true,Bool.not_eq_true',decide_eq_false_iff_not,decide_eq_true_eq];omega)]
 ·have he:e0=0:=by omega
  obtain ⟨_,hv,hL,hG⟩:=n2.resolve_left (fun h=>h he)
  rw [yR (by simp only [xJ,yD,Bool.not_true,Bool.or_false,Bool.or_eq_false_iff,Bool.not_eq_false',decide_eq_false_iff_not,decide_eq_true_eq];omega),Option.bind_some]
  have hl0:hl b0=[]:=by unfold hl hlB;rw [hL,hG];rfl
  have I0:Iv 0 [] [] (List.replicate 1024 0) b0:=⟨rfl,rfl,List.length_replicate,hv,⟨fun s hs=>(by rw [hL] at hs;cases hs),by rw [hG];exact Qk_nil⟩,fun n hn=>by omega,by rw [hl0];simp,fun n hn=>by omega,fun n hn=>(by rw [hl0] at hn;cases hn),fun p hp=>by rw [gd_rep0];exact Int.le_refl 0⟩
  obtain ⟨r,r1,r2⟩:=uV (step:=fun s:List Int × List Int × Int × List Int × TBuffer=>F8_L1 p s.1 s.2.1 s.2.2.1 s.2.2.2.1 s.2.2.2.2)
   (fun s=>∃ i:Nat,s.2.2.1=(i:Int)/\i <= p.length/\Iv i s.1 s.2.1 s.2.2.2.1 s.2.2.2.2)
   (fun r=>∃ d b w l,r = .inl (d,b)/\Iv p.length d w l b)
   (fun s=>(p.length - s.2.2.1).toNat)
   (fun s hI=>by
    obtain ⟨d,w,z,l,b⟩:=s
    obtain ⟨i,rfl,hi,hI⟩:=hI
    simp only at hI ⊢
    by_cases hip:i < p.length
    ·obtain ⟨d',w',l',b',s1,s2⟩:=step_ok p i d w l b hip (by omega) hc0 hI
     exact .inr ⟨_,s1,⟨i+1,rfl,by omega,s2⟩,by simp only;omega⟩
    ·obtain rfl:i=p.length:=by omega
     unfold F8_L1
     rw [yR (by simp [yD])]
     exact .inl ⟨_,rfl,d,b,w,l,rfl,hI⟩)
   ([],[],0,List.replicate 1024 0,b0) ⟨0,rfl,by omega,I0⟩
  obtain ⟨d,b,w,l,rfl,hI⟩:=r2
  rw [wZ r1]
  simp only
  rw [wZ (sum_loop (by omega) hI)]
  have hlt:∀ n ∈ hl b,n < p.length:=fun n hn=>hl_lt hI.2.2.2.2.1 hn
  rw [wZ (count_loop (by omega) hI.1 hI.2.2.2.2.2.2.1 hlt hI.2.2.2.2.2.2.2.1)]
  rfl
end Go.Proofs.Ytefiemaoacmdkaa

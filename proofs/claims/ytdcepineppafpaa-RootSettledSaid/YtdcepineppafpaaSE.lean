/-
  RootSettled: settling.
-/
import Derived.Test.YtdcepineppafpaaSD
namespace Go.Proofs.Ytdcepineppafpaa
open Go.Am
set_option linter.unusedVariables false
set_option linter.unusedSimpArgs false
abbrev a8 (w:List TRoots):A8TRoots:=A8TRoots.mk (gd w 0) (gd w 1) (gd w 2) (gd w 3) (gd w 4) (gd w 5) (gd w 6) (gd w 7)
theorem all8 {α:Type} [Inhabited α] (w:List α) (h:w.length=8):[gd w 0,gd w 1,gd w 2,gd w 3,gd w 4,gd w 5,gd w 6,gd w 7]=w:=by
 have:(List.range 8).map (fun i=>gd w i)=w:=by
  refine List.ext_getElem (by simp [h]) fun i h1 h2=>?_
  rw [List.getElem_map,List.getElem_range,jH h2]
 exact this
theorem node0:F42 0=some (nd 0):=F42_ok (i:=0) (by omega)
theorem ky_some {L:List TRoots} {p:Nat} {y:Int × Int × Int} (hp:1 <= p) (hn:Nd p (gd L p)) (h:ky L p=some y):∃ u,(gd L p).Trees=[u]/\u.Root=nd 0/\y=(u.Seq,u.Cost,u.Hops):=by
 rcases hn.2.2.2 with h0|⟨u,h0,h1⟩
 ·rw [ky_nil hp h0] at h;cases h
 ·rw [ky_one hp h0] at h;cases h
  exact ⟨u,h0,h1,rfl⟩
theorem par_nat {p:Nat} (h:p < 8):wr .i64 ((wr .i64 (nd p).x0) - 1)=(p:Int):=by
 unfold nd
 rw [kB (x:=((p+1:Nat):Int)) (by omega),kB (by omega)];omega
theorem improves_ok {lk:Nat->Nat->Int} {L:List TRoots} {M:List (Tmessage × List Nat)} {s0:Int} (I:Inv lk L M s0):F78 (a8 L)=some true:=by
 have l1:=run_gen (step:=fun s=>F78_L1 L s) (E:=Unit) (R:=Bool) 7 (fun i=>((i+1:Nat):Int)) () (fun j hj=>by
  have hi:j+1 < 8:=by omega
  have hN:=I.nod (j+1) (by omega) hi
  unfold F78_L1
  rw [xI (by simp only [yH,decide_eq_true_eq];omega),zJ (yK hi),zJ (yK (by rw [I.len];exact hi)),node0,Option.bind_some,wM hi (by omega)]
  simp only [Int.toNat_natCast,zU,Option.isSome_some,Bool.cond_self,zJ,ae_def]
  rcases hN.2.2.2 with h|⟨t,h,h0⟩
  ·rw [find_no h,Option.bind_some,xI (by simp)]
  ·obtain ⟨g1,p,g2,g3,g4,g5,y,g6,g7⟩:=I.tre (j+1) t (by omega) hi h
   rw [find_one h h0,Option.bind_some]
   simp only [g4]
   by_cases hp:p=0
   ·subst hp
    rw [xI (by rw [cC.2 rfl];simp)]
   ·rw [yR (by rw [dR.2 (fun e=>hp (nd_inj e))];simp)]
    simp only [par_nat g2]
    rw [yR (by simp only [yH,wW,Bool.or_eq_false_iff,decide_eq_false_iff_not];omega),zJ (yK g2),zJ (yK (by rw [I.len];exact g2))]
    simp only [Int.toNat_natCast,Option.bind_some,qG,uA]
    obtain ⟨u,u1,u2,rfl⟩:=ky_some (by omega) (I.nod p (by omega) g2) g6
    rw [find_one u1 u2,Option.bind_some]
    unfold F38
    simp only [Option.isSome_some,zU,Bool.cond_self,zJ]
    rw [yR (by
     simp only [ex] at g7
     simp only [Bool.not_true,Bool.false_or,Bool.not_eq_false',yH,xV,Bool.or_eq_true,Bool.and_eq_true,decide_eq_true_eq]
     omega)]) (by unfold F78_L1;rw [yR (by simp [yH])])
 have l2:yP (fun s=>F78_L1 L s) 1=some (.inl ()):=l1
 unfold F78
 show (some [gd L 0,gd L 1,gd L 2,gd L 3,gd L 4,gd L 5,gd L 6,gd L 7]).bind _=_
 rw [all8 L I.len,Option.bind_some,wX l2]
theorem turn_ok {w:List Int} (hw:w.length=64) (l:Lk (lkw w)) {L:List TRoots} {M:List (Tmessage × List Nat)} {s0 many m0 pick:Int} (I:Inv (lkw w) L M s0) (hm:many+s0=m0) (hm1:0 <= many) (hm2:1 <= m0/\m0 <= 5) (hp:ph M <= 1000000) :
  ∃ many' L' M' s0',yP (fun _:Unit=>F40_L4 w many L (M.map Prod.fst) pick) ()=some (.inl (many',L',M'.map Prod.fst))/\Inv (lkw w) L' M' s0'/\many'+s0'=m0/\0 <= many'/\ph M'+95900 * many'.toNat <= ph M+95900 * many.toNat /\
   (M'=[]->1 <= s0'/\(many'=0 ∨ ∀ k,k < 8->k ≠ 0->¬ 0 < lkw w 0 k)):=by
 by_cases c:0 < many/\((M.map Prod.fst).length=0 ∨ pick.tmod 3=1)
 ·have hl:(M.map Prod.fst).length <= 10000000:=by have:=ph_len M;rw [List.length_map];omega
  have h5:s0 < 5:=by have:=I.s0r;omega
  have sp:=spread_ok (M.map Prod.fst) w hw 0 (by omega) (TRootWord.mk (nd 0) (s0+1) 0 0 false) hl
  have s0r:=I.s0r
  refine ⟨many - 1,L.set 0 (rt (s0+1)),M ++ sndQ (lkw w) 0 (TRootWord.mk (nd 0) (s0+1) 0 0 false) [0],s0+1,wB ?_,inv_ann l I h5,by omega,by omega,?_,fun he=>⟨by omega,.inr fun k hk h0 hlk=>?_⟩⟩
  ·unfold F40_L4
   rw [xI (by simp only [yH,xV,Bool.and_eq_true,Bool.or_eq_true,decide_eq_true_eq];omega),zJ (by simp [yX]),zJ (yX.2 (by rw [I.len];omega)),I.root,announce_ok (by omega),Option.bind_some,yR (by simp [bEq]),zJ (by simp [yX]),zJ (yX.2 (by rw [I.len];omega)),zJ (decide_eq_true hw)]
   refine (congrArg (Option.bind · _) sp).trans ?_
   rw [Option.bind_some,kB (by omega),List.map_append,sndQ_fst]
  ·have:=ph_snd (lkw w) 0 (by omega) (TRootWord.mk (nd 0) (s0+1) 0 0 false) [0] (by simp) (by simp) (by simp)
   simp only [List.length_singleton,Wt] at this
   rw [ph_app];omega
  ·have:=(List.append_eq_nil_iff.1 he).2
   have hx:(Tmessage.mk (k:Nat) (0:Nat) (TRootWord.mk (nd 0) (s0+1) 0 0 false),[0]) ∈ sndQ (lkw w) 0 (TRootWord.mk (nd 0) (s0+1) 0 0 false) [0]:=eW.2 ⟨k,hk,hlk,h0,rfl⟩
   rw [this] at hx;cases hx
 ·refine ⟨many,L,M,s0,wB ?_,I,hm,hm1,Nat.le_refl _,fun he=>?_⟩
  ·unfold F40_L4
   rw [yR (by simp only [yH,xV,Bool.and_eq_false_iff,Bool.or_eq_false_iff,decide_eq_false_iff_not];omega)]
  ·subst he
   simp only [List.map_nil,List.length_nil,true_or,and_true] at c
   exact ⟨by omega,.inl (by omega)⟩
theorem deliver_ok {w:List Int} (hw:w.length=64) (l:Lk (lkw w)) {L:List TRoots} {A B:List (Tmessage × List Nat)} {x:Tmessage × List Nat} {s0:Int} (I:Inv (lkw w) L (A ++ x::B) s0) (st:Nat) (hst:st < 1000000) :
  ∃ (p k:Nat) (v:TRoots × List TRootWord × Int),x.1.from_=p/\x.1.to_=k/\p < 8/\k < 8/\F20 (gd L k) x.1.w (nd p) (gd w (p * 8+k)) st=some v /\
   ((v.2.2 ≠ 0/\Inv (lkw w) L (A ++ B) s0) ∨ (v.2.2=0/\∃ tw,v.2.1=[tw]/\Inv (lkw w) (L.set k v.1) ((A ++ B) ++ sndQ (lkw w) k tw (x.2 ++ [k])) s0/\ph (sndQ (lkw w) k tw (x.2 ++ [k]))+1 <= wt x)):=by
 obtain ⟨p,k,m1,m2,m3,m4,m5,m6,m7,m8,m9,m10,m11,m12,m13,m14⟩:=I.msg x (by simp)
 have lr:=l.rng p k
 have e:gd w (p * 8+k)=lkw w p k:=(lkw_at m3 m4).symm
 have hml:=dG m11 fun q hq=>(m12 q hq).1
 have s0r:=I.s0r
 have hroot:Ab x.1.w.Root:=by rw [m7];exact nd_Ab (by omega)
 by_cases hk0:k=0
 ·subst hk0
  obtain ⟨hv,hb⟩:=rt_V (s:=s0) (by omega)
  obtain ⟨v,v1,v2⟩:=handle_own (rt s0) x.1.w (nd p) (lkw w p 0) st hb hroot (nd_Ab m3) (Vr_sm hv) (by rw [m7];rfl)
  refine ⟨p,0,v,m1,m2,m3,m4,by rw [e,I.root];exact v1,.inl ⟨v2,inv_drop I fun p' k' _ h2 h3=>absurd h3 (by omega)⟩⟩
 ·have hN:=I.nod k (by omega) m4
  obtain ⟨n1,n2,n3,n4⟩:=hN
  by_cases hc:(gd L k).Trees=[] ∨ ∃ q,(gd L k).Trees=[q]/\q.Root=x.1.w.Root/\(q.Seq < x.1.w.Seq ∨ (x.1.w.Seq=q.Seq/\x.1.w.Cost+lkw w p k < q.Cost))
  ·have hO:Ok (gd L k) x.1.w (nd p) (lkw w p k) st:=⟨n2,⟨⟨m8.1,by omega⟩,by omega,by omega⟩,by rw [n1];exact fun h=>m5 (nd_inj h),by omega,by omega⟩
   have hky:∀ y,ky L k=some y->y.1 < x.1.w.Seq ∨ (x.1.w.Seq=y.1/\x.1.w.Cost+lkw w p k < y.2.1):=fun y hy=>by
    rcases hc with h|⟨q,h,_,h2⟩
    ·rw [ky_nil (by omega) h] at hy;cases hy
    ·rw [ky_one (by omega) h] at hy;cases hy
     exact h2
   obtain ⟨v,v1,v2,v3,v4,v5,v6,v7⟩:=handle_up (gd L k) x.1.w (nd p) (lkw w p k) st n3 hroot (nd_Ab m3) hO (by rw [m7,n1];exact fun h=>hk0 (nd_inj h).symm) (by omega) (by omega) hc
   obtain ⟨t1,t2⟩:=inv_take l I p k m1 m2 (by omega) v.1 ⟨by rw [v4,n1],v5,v6,.inr ⟨_,v7,m7⟩⟩ v7 hky
   refine ⟨p,k,v,m1,m2,m3,m4,by rw [e];exact v1,.inr ⟨v2,_,v3,t2,?_⟩⟩
   have hn2:(x.2 ++ [k]).Nodup:=List.nodup_append.2 ⟨m11,by simp,fun a ha b hb'=>by
    rw [List.mem_singleton.1 hb'];rintro rfl;exact t1 ha⟩
   have hq2:∀ q ∈ x.2 ++ [k],q < 8:=fun q hq=>by
    rcases List.mem_append.1 hq with hq|hq
    ·exact (m12 q hq).1
    ·rw [List.mem_singleton.1 hq];exact m4
   have h8:=dG hn2 hq2
   have:=ph_snd (lkw w) k m4 (nW x.1.w (lkw w p k)) (x.2 ++ [k]) hn2 hq2 (by simp)
   simp only [List.length_append,List.length_singleton] at this h8
   have h1:1 <= x.2.length:=List.length_pos_of_mem m13
   have hwt:wt x=Wt x.2.length:=by unfold wt;rw [m2,Int.toNat_natCast,if_neg t1]
   rw [hwt]
   exact Wt_step h1 (by omega) this
  ·rcases n4 with h|⟨q,h,h0⟩
   ·exact absurd (.inl h) hc
   ·have hno:¬ (q.Seq < x.1.w.Seq ∨ (x.1.w.Seq=q.Seq/\x.1.w.Cost+lkw w p k < q.Cost)):=fun hh=>hc (.inr ⟨q,h,by rw [h0,m7],hh⟩)
    obtain ⟨v,v1,v2⟩:=handle_no (gd L k) x.1.w (nd p) (lkw w p k) st n3 hroot (nd_Ab m3) (Vr_sm n2) q h (by rw [h0,m7]) hno
    refine ⟨p,k,v,m1,m2,m3,m4,by rw [e];exact v1,.inl ⟨v2,inv_drop I fun p' k' h1 h2 h3=>?_⟩⟩
    obtain rfl:p'=p:=by omega
    obtain rfl:k'=k:=by omega
    refine ⟨_,ky_one (by omega) h,?_⟩
    unfold le
    simp only;omega
end Go.Proofs.Ytdcepineppafpaa

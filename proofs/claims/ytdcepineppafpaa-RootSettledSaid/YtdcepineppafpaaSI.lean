/-
  RootSettled: the law over values.
-/
import Derived.Test.YtdcepineppafpaaSH
namespace Go.Proofs.Ytdcepineppafpaa
open Go.Am
set_option linter.unusedVariables false
set_option linter.unusedSimpArgs false
theorem alive_ok:F36=some true:=by kernel_rfl
theorem walk_ok {w:List Int} {L:List TRoots} {s0:Int} (hw:w.length=64) (l:Lk (lkw w)) (I:Inv (lkw w) L [] s0) {i:Nat} (hi:i < 8) {y:Int × Int × Int} (hy:ky L i=some y):yP (fun s:Int × Int=>F7_L2 w L s.1 s.2) ((i:Int),0)=some (.inl (0,y.2.2)):=by
 have h7:=fin_hops I hi hy
 obtain ⟨b,h1,h2⟩:=uP (step:=fun s:Int × Int=>F7_L2 w L s.1 s.2) (fun s=>∃ (a n:Nat) (z:Int × Int × Int),a < 8/\s=((a:Int),(n:Int))/\ky L a=some z/\z.2.2+n=y.2.2) (fun b=>b = .inl (0,y.2.2)) (fun s=>100 - s.2.toNat) (fun s hI=>by
  obtain ⟨a,n,z,ha,rfl,hz,hn⟩:=hI
  have hz0:=(fin_seq' I ha hz).2.2.1
  by_cases h0:a=0
  ·subst h0
   rw [fN I] at hz
   cases hz
   simp only at hn
   refine .inl ⟨_,?_,rfl⟩
   unfold F7_L2
   rw [yR (by simp [xV]),show (n:Int)=y.2.2 by omega];rfl
  ·have h1:1 <= a:=by omega
   obtain ⟨t,t1,t2,rfl⟩:=known I h1 ha hz
   obtain ⟨p,g1,g2,g3,g4,g5⟩:=fin_par I h1 ha t1
   obtain ⟨_,n2,n3,_⟩:=I.nod a h1 ha
   refine .inr ⟨((p:Int),((n+1:Nat):Int)),?_,⟨p,n+1,_,g1,rfl,g5,by simp only at hn ⊢;omega⟩,by simp only [Int.toNat_natCast] at *;omega⟩
   unfold F7_L2
   simp only [Int.toNat_natCast,qG,uA]
   simp only at hn hz0
   rw [xI (by simp only [xV,wW,Bool.and_eq_true,Bool.not_eq_true',decide_eq_false_iff_not,decide_eq_true_eq];omega),zJ (yK ha),zJ (yK (by rw [I.len];exact ha)),best_one n2 n3 t1,Option.bind_some,yR (by simp)]
   simp only [g3,par_nat g1,Int.toNat_natCast,yK ha,yK g1,decide_eq_true (show a * 8+p < w.length by omega),Bool.cond_self,zJ]
   rw [yR (by
    rw [← lkw_at ha g1,l.sym a p]
    simp only [yH,wW,xV,Bool.or_eq_false_iff,decide_eq_false_iff_not];omega),wM (n:=100) (i:=n) (by omega) (by omega)]) ((i:Int),0) ⟨i,0,y,hi,rfl,hy,by simp⟩
 rw [h2] at h1
 exact h1
theorem last_ok {w:List Int} {L:List TRoots} {m0:Int} (hw:w.length=64) (l:Lk (lkw w)) (hE:End w m0 L) {cs:List Int} (hl:cs.length=8) (hc:∀ i,i < 8->(ky L i=none->gd cs i < 0)/\∀ y,ky L i=some y->gd cs i=y.2.1/\0 <= y.2.1) :
  yP (fun s=>F7_L1 m0 w L cs s) 1=some (.inl ()):=by
 obtain ⟨s0,I,hs1,hs2⟩:=hE
 exact run_gen (step:=fun s=>F7_L1 m0 w L cs s) (E:=Unit) (R:=Bool) 7 (fun i=>((i+1:Nat):Int)) () (fun j hj=>by
  have hi:j+1 < 8:=by omega
  obtain ⟨n1,n2,n3,n4⟩:=I.nod (j+1) (by omega) hi
  obtain ⟨c1,c2⟩:=hc (j+1) hi
  unfold F7_L1
  simp only [Int.toNat_natCast,qG,uA,qH]
  rw [xI (by simp only [yH,decide_eq_true_eq];omega),zJ (yK hi),zJ (yK (by rw [I.len];exact hi)),wM hi (by omega)]
  rcases n4 with h|⟨t,h,h0⟩
  ·have:=c1 (ky_nil (by omega) h)
   rw [best_no n2 n3 h,Option.bind_some,zJ (yK hi),zJ (yK (by rw [hl];exact hi)),yR (by simp only [bB_eq,wW,Bool.not_eq_false',decide_eq_true_eq];simp;omega),xI (by simp)]
  ·have hk:=ky_one (by omega) h
   obtain ⟨c3,c4⟩:=c2 _ hk
   simp only at c3 c4
   obtain ⟨q1,k,q2,q3,q4⟩:=fin_seq I _ (j+1) t (Nat.lt_succ_self _) (by omega) hi h
   have hm:t.Seq=m0:=by
    rcases hs2 with h|h
    ·omega
    ·exact absurd q4 (h k q2 q3)
   have wk:=walk_ok hw l I hi hk
   have hb:bLe 0 (gd cs (j+1))=true:=by rw [wW];exact decide_eq_true (by rw [c3];exact c4)
   rw [best_one n2 n3 h,Option.bind_some,zJ (yK hi),zJ (yK (by rw [hl];exact hi)),hb,yR (by simp [bB_eq]),yR (by simp),node0,Option.bind_some]
   simp only [ae_def,yK hi,yK (show j+1 < cs.length by omega),Bool.cond_self,zJ]
   rw [yR (by rw [h0,cC.2 rfl,hm,c3];simp [xV]),wX wk]
   rw [yR (by simp [xV,yH])]) (by unfold F7_L1;rw [yR (by simp [yH])])
theorem law7 (A:A8A8i64) (m:Int) (p2:List Int):F7 A m p2=some true:=by
 unfold F7
 show (some (mcells A)).bind _=_
 obtain ⟨W,hW,e⟩:∃ W:List Int,W.length=64/\mcells A=W:=⟨_,rfl,rfl⟩
 rw [e,Option.bind_some,alive_ok,Option.bind_some]
 by_cases c:1 <= m/\m <= 5/\p2.length <= 20000
 ·obtain ⟨w,s1,s2,l⟩:=sym_ok W hW
  obtain ⟨L,t1,t2⟩:=settle_ok s2 l p2 (m0:=m) ⟨c.1,c.2.1⟩
  have t2':=t2
  obtain ⟨s0,I,h1,_⟩:=t2'
  obtain ⟨cs,k1,k2,k3⟩:=cheapest_ok s2 l I h1
  rw [yR (by simp [yH];omega),zJ (decide_eq_true hW)]
  refine (congrArg (Option.bind · _) s1).trans ?_
  rw [Option.bind_some,zJ (decide_eq_true hW)]
  show (some (mcells (mat w))).bind _=_
  rw [gY s2,Option.bind_some,zJ (decide_eq_true s2)]
  refine (congrArg (Option.bind · _) t1).trans ?_
  rw [Option.bind_some]
  show (some [gd L 0,gd L 1,gd L 2,gd L 3,gd L 4,gd L 5,gd L 6,gd L 7]).bind _=_
  rw [all8 L I.len,Option.bind_some,yR (by simp),zJ (decide_eq_true s2)]
  refine (congrArg (Option.bind · _) k1).trans ?_
  rw [Option.bind_some,Option.bind_some,zJ (by simp)]
  show (some [gd cs 0,gd cs 1,gd cs 2,gd cs 3,gd cs 4,gd cs 5,gd cs 6,gd cs 7]).bind _=_
  rw [all8 cs k2,Option.bind_some,wX (last_ok s2 l t2 k2 k3)]
 ·rw [xI (by simp only [yH,Bool.or_eq_true,decide_eq_true_eq,Bool.not_true];simp;omega)]
end Go.Proofs.Ytdcepineppafpaa

/-
  The function that spoils frames stores softly.
-/
import Derived.Test.YtefiemaoacmdkaaST
import Derived.Test.YtefiemaoacmdkaaZEh
namespace Go.Proofs.Ytefiemaoacmdkaa
open Go.Am
set_option linter.unusedVariables false
set_option linter.unusedSimpArgs false
def TS (n:Nat) (L:List TFrame) (i k:AV):List AV:=.ro 41 n false (enR yD L)::.top::i::k::tp 26 []
theorem TS_soft {E E':Env} {t:List AV} {a:Array Value} {n:Nat} {L:List TFrame} {i k:AV} (S:Soft E E') (hL:L.length=n) (F:FR E t a) (h:wkL t (TS n L i k)) (n1:NS i) (n2:NS k):∃ L':List TFrame,L'.length=n/\(∀ x,x < n->(gd L' x).Body.length=(gd L x).Body.length)/\FR E' (TS n L' i k) a:=by
 have F1:=FR_wk h F
 obtain ⟨L',h1,h2,h3⟩:=soft_TFrame S hL (FR_get F1 0)
 have F2:FR E' (.top::.top::i::k::tp 26 []) a:=FR_soft S (FR_wk (t':=.top::.top::i::k::tp 26 []) (by simp only [TS,tp,wkL,true_or,or_true,and_self]) F1) (by
  simp only [tp,List.mem_cons,List.not_mem_nil,or_false,forall_eq_or_imp,forall_eq]
  and_intros<;>first|trivial|assumption)
 exact ⟨L',h1,h2,FR_val F2 0 h3⟩
set_option maxHeartbeats 4000000 in
set_option maxRecDepth 20000 in
theorem spoil_ok {n:Nat} {L:List TFrame} (hL:L.length=n):SoftOk Try.prog 34 (.ro 41 n false (enR yD L)):=by
 refine soft_fn Try.func34 (by kernel_rfl) rfl rfl (by simp only [nref]) (fun E v hv=>?_)
 have hn:=ro_len hv
 obtain ⟨l,hl⟩:∃ l:Nat->Nat,∀ x,x < n->(gd L x).Body.length=l x:=⟨fun x=>(gd L x).Body.length,fun _ _=>rfl⟩
 have hm:∀ x,x < n->l x <= maxLen:=by
  intro x hx
  cases hv with
  | ro es n nl c a cap hn hcm hnl hz u ha h1 hc hrf =>
  have q:=hc x 40 hx (by omega)
  rw [← hl x hx]
  exact ro_len q
 clear hv v
 simp only [maxLen] at hn hm
 rw [Try.ntmps34]
 simp only [Nat.reduceSub,rS,rZ]
 refine jV (ofM (SI_kp E) (rg zA ?_))
 simp only [go_sem,yE,xE,xT,yG,zK,cond_false,cond_true,tS,tZ,dSl,dZ,Nat.reduceLeDiff,Nat.reduceLT,Nat.reduceAdd,Nat.reduceMul,Nat.reduceSub,Nat.reduceEqDiff,Nat.reduceBEq,Int.reduceToNat,reduceCtorEq]
 refine wkR (t':=TS n L (.int .i64 0) .top) (by simp only [TS,tp,wkL,true_or,or_true,and_self]) (blkR ?_)
 refine loopR (α:=Int × List TFrame) (fun x=>TS n x.2 (.int .i64 x.1) .top) (fun _=>[]) (fun x=>0 <= x.1/\x.1 <= (n:Int)/\x.2.length=n/\∀ y,y < n->(gd x.2 y).Body.length=l y) (fun x=>((n:Int) - x.1).toNat) (0,L) ⟨Int.le_refl _,by omega,hL,hl⟩ ?_
 clear hL hl L
 intro ⟨i,L⟩ ⟨hi0,hi1,hL,hl⟩
 simp only at hi0 hi1 hL hl ⊢
 refine jV (jV (ofM (SI_kp E) (rg zA ?_)))
 simp only [TS,tp,go_sem,yE,xE,xT,yG,zK,cond_false,cond_true,tS,tZ,dSl,dZ,Nat.reduceLeDiff,Nat.reduceLT,Nat.reduceAdd,Nat.reduceMul,Nat.reduceSub,Nat.reduceEqDiff,Nat.reduceBEq,Int.reduceToNat,reduceCtorEq]
 repeat ((with_reducible refine And.intro ?_ ?_);focus (first|(and_intros<;>first|(with_reducible trivial)|omega|assumption|exact nfc|first|exact rfl|exact trivial|exact uQ|exact .inr rfl|exact .inl rfl|exact fun x hx=>absurd hx (by omega))|grind))
 refine condR _ rfl trivial (fun hc=>?_) (fun hc=>?_)
 ·have hi:i < (n:Int):=by simpa [bLt_eq] using hc
  have hin:i.toNat < n:=by omega
  have hlk:=hm i.toNat hin
  refine skipR ?_
  simp only [yE]
  refine jV (blkR (jV (ofM (SI_kp E) (rg zA ?_))))
  simp only [go_sem,yE,xE,xT,yG,zK,cond_false,cond_true,tS,tZ,dSl,dZ,Nat.reduceLeDiff,Nat.reduceLT,Nat.reduceAdd,Nat.reduceMul,Nat.reduceSub,Nat.reduceEqDiff,Nat.reduceBEq,Int.reduceToNat,reduceCtorEq]
  repeat ((with_reducible refine And.intro ?_ ?_);focus (first|(and_intros<;>first|(with_reducible trivial)|omega|assumption|exact nfc|first|exact rfl|exact trivial|exact uQ|exact .inr rfl|exact .inl rfl|exact fun x hx=>absurd hx (by omega))|grind))
  refine wkR (t':=TS n L (.int .i64 i) (.int .i64 0)) (by simp only [TS,tp,wkL,true_or,or_true,and_self]) (blkR ?_)
  refine loopR (α:=Int × List TFrame) (fun x=>TS n x.2 (.int .i64 i) (.int .i64 x.1)) (fun _=>[]) (fun x=>0 <= x.1/\x.1 <= (l i.toNat:Int)/\x.2.length=n/\∀ y,y < n->(gd x.2 y).Body.length=l y) (fun x=>((l i.toNat:Int) - x.1).toNat) (0,L) ⟨Int.le_refl _,by omega,hL,hl⟩ ?_
  clear hL hl L
  intro ⟨k,L⟩ ⟨hk0,hk1,hL,hl⟩
  simp only at hk0 hk1 hL hl ⊢
  have hli:=hl i.toNat hin
  refine jV (jV (ofM (SI_kp E) (rg zA ?_)))
  simp only [TS,tp,go_sem,yE,xE,xT,yG,zK,cond_false,cond_true,tS,tZ,dSl,dZ,Nat.reduceLeDiff,Nat.reduceLT,Nat.reduceAdd,Nat.reduceMul,Nat.reduceSub,Nat.reduceEqDiff,Nat.reduceBEq,Int.reduceToNat,reduceCtorEq]
  repeat ((with_reducible refine And.intro ?_ ?_);focus (first|(and_intros<;>first|(with_reducible trivial)|omega|assumption|exact nfc|first|exact rfl|exact trivial|exact uQ|exact .inr rfl|exact .inl rfl|exact fun x hx=>absurd hx (by omega))|grind))
  refine condR _ rfl trivial (fun hc=>?_) (fun hc=>?_)
  ·have hk:k < (l i.toNat:Int):=by
    have:k < ((gd L i.toNat).Body.length:Int):=by simpa [bLt_eq] using hc
    omega
   refine skipR ?_
   simp only [yE]
   refine jV (blkR (regR (cutRO zO zA (SI_kp E) 10 ?_)))
   simp only [go_sem,yE,xE,xT,yG,zK,cond_false,cond_true,tS,tZ,dSl,dZ,Nat.reduceLeDiff,Nat.reduceLT,Nat.reduceAdd,Nat.reduceMul,Nat.reduceSub,Nat.reduceEqDiff,Nat.reduceBEq,Int.reduceToNat,reduceCtorEq]
   repeat ((with_reducible refine And.intro ?_ ?_);focus (first|(and_intros<;>first|(with_reducible trivial)|omega|assumption|exact nfc|first|exact rfl|exact trivial|exact uQ|exact .inr rfl|exact .inl rfl|exact fun x hx=>absurd hx (by omega))|grind))
   refine softO rfl rfl rfl tsz5 trivial trivial rfl (by omega) (by decide) ⟨0,rfl⟩ (.inl ⟨.u8,_,_,rfl,rfl⟩) fun E1 E2 a j Hh F S=>?_
   obtain ⟨L',g1,g2,F'⟩:=TS_soft (L:=L) (i:=.int .i64 i) (k:=.int .i64 k) S hL F (by simp only [TS,tp,wkL,true_or,or_true,and_self]) trivial trivial
   refine ⟨SI_soft S j,_,[],HR_soft Hh S rfl fun b x' hb=>by simp at hb,F',?_⟩
   simp only [TS,tp,go_sem,yE,xE,xT,yG,zK,cond_false,cond_true,tS,tZ,dSl,dZ,Nat.reduceLeDiff,Nat.reduceLT,Nat.reduceAdd,Nat.reduceMul,Nat.reduceSub,Nat.reduceEqDiff,Nat.reduceBEq,Int.reduceToNat,reduceCtorEq]
   refine ofM (SI_kp E) (rg zA ?_)
   simp only [go_sem,yE,xE,xT,yG,zK,cond_false,cond_true,tS,tZ,dSl,dZ,Nat.reduceLeDiff,Nat.reduceLT,Nat.reduceAdd,Nat.reduceMul,Nat.reduceSub,Nat.reduceEqDiff,Nat.reduceBEq,Int.reduceToNat,reduceCtorEq]
   repeat ((with_reducible refine And.intro ?_ ?_);focus (first|(and_intros<;>first|(with_reducible trivial)|omega|assumption|exact nfc|first|exact rfl|exact trivial|exact uQ|exact .inr rfl|exact .inl rfl|exact fun x hx=>absurd hx (by omega))|grind))
   rw [wr_in (by omega)]
   exact ⟨(k+1,L'),⟨by simp only;omega,by simp only;omega,g1,fun y hy=>(g2 y hy).trans (hl y hy)⟩,by simp only;omega,wk_back (by simp only [TS,tp,wkL,true_or,or_true,and_self])⟩
  ·refine exitR ?_
   simp only [go_sem,yE,xE,xT,yG,zK,cond_false,cond_true,tS,tZ,dSl,dZ,Nat.reduceLeDiff,Nat.reduceLT,Nat.reduceAdd,Nat.reduceMul,Nat.reduceSub,Nat.reduceEqDiff,Nat.reduceBEq,Int.reduceToNat,reduceCtorEq]
   refine ofM (SI_kp E) (rg zA ?_)
   simp only [go_sem,yE,xE,xT,yG,zK,cond_false,cond_true,tS,tZ,dSl,dZ,Nat.reduceLeDiff,Nat.reduceLT,Nat.reduceAdd,Nat.reduceMul,Nat.reduceSub,Nat.reduceEqDiff,Nat.reduceBEq,Int.reduceToNat,reduceCtorEq]
   repeat ((with_reducible refine And.intro ?_ ?_);focus (first|(and_intros<;>first|(with_reducible trivial)|omega|assumption|exact nfc|first|exact rfl|exact trivial|exact uQ|exact .inr rfl|exact .inl rfl|exact fun x hx=>absurd hx (by omega))|grind))
   rw [wr_in (by omega)]
   exact ⟨(i+1,L),⟨by simp only;omega,by simp only;omega,hL,hl⟩,by simp only;omega,wk_back (by simp only [TS,tp,wkL,true_or,or_true,and_self])⟩
 ·refine exitR ?_
  simp only [go_sem,yE,xE,xT,yG,zK,cond_false,cond_true,tS,tZ,dSl,dZ,Nat.reduceLeDiff,Nat.reduceLT,Nat.reduceAdd,Nat.reduceMul,Nat.reduceSub,Nat.reduceEqDiff,Nat.reduceBEq,Int.reduceToNat,reduceCtorEq]
end Go.Proofs.Ytefiemaoacmdkaa

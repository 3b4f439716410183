/-
  A contract whose arguments are new rows: its results are new.
-/
import Derived.Test.YtefiemaoacmdkaaUP
namespace Go.Am
set_option linter.unusedVariables false
variable {P:Program} {E:Env} {h:List ABlk}
def upG (body:List AV->Nat->AR) (l:List AV) (s:Nat):AR:=match body (rsL l) s with
 | .fail=>.fail
 | .pure ob v=>.pure ob (up v)
 | .heap ob v ns=>.heap ob (up v) (upH ns)
def ddH (n:Nat):List ABlk:=List.replicate n .dead
theorem ddH_get {n b:Nat} {x:ABlk} (hb:(ddH n)[b]? = some x):x = .dead:=by
 unfold ddH at hb;rw [List.getElem?_replicate] at hb;split at hb
 ·cases hb;rfl
 ·cases hb
theorem ddH_own {E:Env} {n k:Nat}:¬ Own E (ddH n) k:=by
 rintro ⟨b,x,o,q1,q2,_⟩;exact q2 (ddH_get q1)
theorem ddH_HR (H:HR E h):HR E.rst (ddH h.length) :=
 ⟨fun b x hb=>by rw [ddH_get hb];trivial,fun b b' x x' k o o' h1 h2=>absurd (ddH_get h1) h2,fun k hk=>⟨(H.prot k hk.1).1,ddH_own⟩,fun b hb=>H.fresh b (by simpa [ddH] using hb),fun k hk=>hk.elim⟩
theorem ret_up {ns:List ABlk} {v:AV} {e:Ending} {w':World} (H:HR E h) (hr:Ret E.rst (ddH h.length) (ddH h.length ++ ns) v e w'):Ret E h (h ++ upH ns) (up v) e w':=by
 obtain ⟨u,E1,rfl,rfl,X,H1,hv⟩:=hr
 let E2:Env:=⟨E1.w,E1.σ,fun k=>E1.prot k ∨ E.prot k,E.lo⟩
 have dl:(ddH h.length).length=h.length:=by simp [ddH]
 have hold:∀ k,k < E.w.heap.size->E1.w.heap[k]? = E.w.heap[k]?:=fun k hk=>X.frame k hk ddH_own
 have hpro:∀ k,E1.prot k->(E.prot k/\Nw E.w E.lo k) ∨ E.w.heap.size <= k:=fun k hk=>by
  rcases X.pro k hk with q|q|q
  ·exact .inl q
  ·exact (ddH_own q).elim
  ·exact .inr q
 have nw:∀ k,E1.prot k->E2.prot k/\Nw E2.w E2.lo k:=fun k hk=>by
  refine ⟨.inl hk,?_,?_⟩
  ·intro hl
   rcases hpro k hk with q|q
   ·exact q.2.1 hl
   ·have:=(H.prot k (H.lo k hl)).1
    omega
  ·rcases X.wr k hk with q|⟨cs,e,q⟩
   ·obtain ⟨cs,e,q1⟩:=q.2.2
    obtain ⟨cs',q2,_⟩:=X.kind k cs e q1
    exact ⟨cs',e,q2⟩
   ·exact ⟨cs,e,q⟩
 have s1:∀ b,b < h.length->E1.σ b=E.σ b:=fun b hb=>X.old b (by rw [dl];exact hb)
 have K:Keep E E2:=⟨X.σ,fun k hk=>.inr hk,fun k hk=>hold k (H.prot k hk).1,X.kind,rfl⟩
 have gt:∀ {b:Nat} {x:ABlk},(h ++ upH ns)[b]? = some x->(b < h.length/\h[b]? = some x) ∨ (¬ b < h.length/\∃ x0,(ddH h.length ++ ns)[b]? = some x0/\upB x0=x):=by
  intro b x hb
  by_cases hbl:b < h.length
  ·rw [List.getElem?_append_left hbl] at hb;exact .inl ⟨hbl,hb⟩
  ·rw [List.getElem?_append_right (by omega)] at hb
   obtain ⟨x0,q1,q2⟩:=upH_get hb
   exact .inr ⟨hbl,x0,by rw [List.getElem?_append_right (by omega),dl];exact q1,q2⟩
 have ow:∀ k,Own E2 (h ++ upH ns) k->Own E h k ∨ (E.w.heap.size <= k/\Own E1 (ddH h.length ++ ns) k):=by
  rintro k ⟨b,x,o,q1,q2,q3⟩
  rcases gt q1 with ⟨hb,r1⟩|⟨hb,x0,r1,rfl⟩
  ·exact .inl ⟨b,x,o,r1,q2,by rw [← s1 b hb];exact q3⟩
  ·have ho:Own E1 (ddH h.length ++ ns) k:=⟨b,x0,o,r1,upB_nd q2,q3⟩
   exact .inr ⟨(X.own k ho).resolve_left ddH_own,ho⟩
 have olt:∀ k,Own E h k->k < E.w.heap.size:=by
  rintro k ⟨b,x,o,q1,q2,q3⟩
  exact BR.lt (E:=E) q2 (H.blk b x q1) q3
 refine ⟨u,E2,rfl,rfl,⟨X.os,X.tape,X.output,X.σ,fun k hk=>.inr hk,X.size,X.kind,fun k hk _=>hold k hk,fun k hk=>(ow k hk).imp id (·.1),by simp,s1,fun k hk=>?_,rfl,fun k hk=>?_⟩,⟨fun b x hb=>?_,fun b b' x x' k o o' g1 g2 g3 g4 g5 g6=>?_,fun k hk=>?_,fun b hb=>H1.fresh b (by simpa [dl,upH] using hb),fun k hk=>.inr (H.lo k hk)⟩,VR_up (E:=E2) (E':=E1) rfl rfl nw hv⟩
 ·rcases hk with hk|hk
  ·rcases hpro k hk with q|q
   ·exact .inl q.1
   ·exact .inr (.inr q)
  ·exact .inl hk
 ·rcases hk with hk|hk
  ·exact (X.wr k hk).imp (fun q=>q.1) id
  ·exact .inl hk
 ·by_cases hd:x = .dead
  ·subst hd;trivial
  rcases gt hb with ⟨hbl,q⟩|⟨hbl,x0,q,rfl⟩
  ·exact (H.blk b x q).mono K (s1 b hbl) fun k o hk=>hold k ((H.blk b x q).lt hd hk)
  ·exact BR_up (E:=E2) (E':=E1) rfl rfl nw (H1.blk b x0 q)
 ·rcases gt g1 with ⟨hb,q1⟩|⟨hb,x0,q1,rfl⟩<;>rcases gt g3 with ⟨hb',q2⟩|⟨hb',x1,q2,rfl⟩
  ·exact H.inj b b' x x' k o o' q1 g2 q2 g4 (by rw [← s1 b hb];exact g5) (by rw [← s1 b' hb'];exact g6)
  ·have a1:=olt k ⟨b,x,o,q1,g2,by rw [← s1 b hb];exact g5⟩
   have a2:=(X.own k ⟨b',x1,o',q2,upB_nd g4,g6⟩).resolve_left ddH_own
   have a2:E.w.heap.size <= k:=a2
   omega
  ·have a1:=olt k ⟨b',x',o',q2,g4,by rw [← s1 b' hb'];exact g6⟩
   have a2:=(X.own k ⟨b,x0,o,q1,upB_nd g2,g5⟩).resolve_left ddH_own
   have a2:E.w.heap.size <= k:=a2
   omega
  ·exact H1.inj b b' x0 x1 k o o' q1 (upB_nd g2) q2 (upB_nd g4) g5 g6
 ·rcases hk with hk|hk
  ·refine ⟨(H1.prot k hk).1,fun ho=>?_⟩
   rcases ow k ho with q|q
   ·rcases hpro k hk with r|r
    ·exact (H.prot k r.1).2 q
    ·have:=olt k q;omega
   ·exact (H1.prot k hk).2 q.2
  ·refine ⟨Nat.lt_of_lt_of_le (H.prot k hk).1 X.size,fun ho=>?_⟩
   rcases ow k ho with q|q
   ·exact (H.prot k hk).2 q
   ·have:=(H.prot k hk).1;omega
theorem gen_up {f:FuncId} {body:List AV->Nat->AR} (hc:yU P f (xN body)):yU P f (xN (upG body)):=by
 refine ⟨hc.1,fun E h l vs ob v h' H F hr hob=>?_,fun E h l vs ob v H F hr hob=>?_⟩
 ·have dl:(ddH h.length).length=h.length:=by simp [ddH]
  have F':=FR_rs F
  simp only [xN,upG] at hr
  have key:∀ (ob0:Prop) (v0:AV) (ns:List ABlk),(body (rsL l) h.length = .pure ob0 v0/\ns=[]) ∨ body (rsL l) h.length = .heap ob0 v0 ns->zX l->ob0->Calls P f vs E.w (Ret E h (h ++ upH ns) (up v0)):=by
   intro ob0 v0 ns hb hn ho
   have q:(xN body (rsL l) (ddH h.length)).out (ddH h.length)=some (zX (rsL l)/\ob0,v0,ddH h.length ++ ns):=by
    simp only [xN,dl]
    rcases hb with ⟨hb,rfl⟩|hb
    ·rw [hb];simp only [genR,AR.out,List.append_nil]
    ·rw [hb];rfl
   have:=hc.2.1 E.rst (ddH h.length) (rsL l) vs _ v0 _ (ddH_HR H) F' q ⟨dM l hn,ho⟩
   exact this.mono fun e w' hr=>ret_up H hr
  cases hb:body (rsL l) h.length with
  | fail=>rw [hb] at hr;cases hr
  | pure ob0 v0 =>
   rw [hb] at hr
   simp only [genR,AR.out,Option.some.injEq,Prod.mk.injEq] at hr
   obtain ⟨rfl,rfl,rfl⟩:=hr
   have:=key ob0 v0 [] (.inl ⟨hb,rfl⟩) hob.1 hob.2
   simpa [upH] using this
  | heap ob0 v0 ns =>
   rw [hb] at hr
   simp only [genR,AR.out,Option.some.injEq,Prod.mk.injEq] at hr
   obtain ⟨rfl,rfl,rfl⟩:=hr
   exact key ob0 v0 ns (.inr hb) hob.1 hob.2
 ·exfalso
  simp only [xN,upG] at hr
  revert hr
  cases body (rsL l) h.length<;>intro hr<;>cases hr
end Go.Am

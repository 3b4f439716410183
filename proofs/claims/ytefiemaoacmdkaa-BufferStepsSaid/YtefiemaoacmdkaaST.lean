/-
  Rows that are new stay rows of their type when they are stored into softly; the function that spoils frames stores softly.
-/
import Derived.Test.YtefiemaoacmdkaaSR
namespace Go.Proofs.Ytefiemaoacmdkaa
open Go.Am
set_option linter.unusedVariables false
set_option linter.unusedSimpArgs false
def vI:Value->Int
 | .int _ n=>n
 | _=>0
def vB:Value->Bool
 | .bool b=>b
 | _=>false
section
variable {E E':Env} {u u':Value}
theorem si {κ:IntKind} {a:Int} (h:VR E (.int κ a) u) (s:Sk u u'):VR E' (.int κ (vI u')) u':=by
 cases h
 rcases s with rfl|⟨κ',n,m,e1,rfl⟩|⟨x,y,e1,rfl⟩
 ·exact .int _ _
 ·cases e1;exact .int _ _
 ·cases e1
theorem sb {a:Bool} (h:VR E (.bool a) u) (s:Sk u u'):VR E' (.bool (vB u')) u':=by
 cases h
 rcases s with rfl|⟨κ',n,m,e1,rfl⟩|⟨x,y,e1,rfl⟩
 ·exact .bool _
 ·cases e1
 ·exact .bool _
theorem s_ro {es n:Nat} {nl:Bool} {c:Nat->Nat->AV} (h:VR E (.ro es n nl c) u) (s:Sk u u'):u'=u:=by
 cases h
 rcases s with rfl|⟨κ',n,m,e1,rfl⟩|⟨x,y,e1,rfl⟩
 ·rfl
 ·cases e1
 ·cases e1
theorem soft_row {α:Type} [Inhabited α] {d:α->List AV} [i:NRf d] {es n:Nat} {nl:Bool} {L:List α} {v:Value} (S:Soft E E') (R:α->α->Prop) (hu:∀ q,zL (d q) es = .emp)
  (cell:∀ (a:α) (u u':Nat->Value),(∀ y,y < es->VR E (zL (d a) y) (u y))->(∀ y,y < es->Sk (u y) (u' y))->∃ a',R a a'/\∀ y,y < es->VR E' (zL (d a') y) (u' y))
  (hL:L.length=n) (hv:VR E (.ro es n nl (enR d L)) v):∃ L':List α,L'.length=n/\(∀ x,x < n->R (gd L x) (gd L' x))/\VR E' (.ro es n nl (enR d L')) v:=by
 cases hv with
 | ro es n nl c a cap hn hcm hnl hz u ha h1 hc hrf =>
 by_cases hm:0 < n
 ·obtain ⟨k,o,q1,q2,q3⟩:=ha hm
  obtain ⟨u',r1,r2⟩:=cells_soft S q3
  have key:∀ x,∃ a',x < n->R (gd L x) a'/\∀ y,y < es->VR E' (zL (d a') y) (u' x y):=by
   intro x
   by_cases hx:x < n
   ·obtain ⟨a',p1,p2⟩:=cell (gd L x) (u x) (u' x) (fun y hy=>hc x y hx hy) (fun y hy=>r2 x y hx hy)
    exact ⟨a',fun _=>⟨p1,p2⟩⟩
   ·exact ⟨default,fun q=>absurd q hx⟩
  have hg:∀ x,x < n->gd ((List.range n).map fun x=>Classical.choose (key x)) x=Classical.choose (key x):=by
   intro x hx
   simp [gd,List.getD_eq_getElem?_getD,hx]
  refine ⟨(List.range n).map fun x=>Classical.choose (key x),by simp,fun x hx=>by rw [hg x hx];exact (Classical.choose_spec (key x) hx).1,.ro es n nl _ a cap hn hcm hnl (zr_soft S hz fun _=>⟨0,hu _⟩) u' (fun _=>⟨k,o,q1,by rw [S.prot];exact q2,r1⟩) (fun x y hx hy=>?_) (fun x y hx hy=>?_) (fun x y hx hy=>wC (i.h _) y)⟩
  ·rcases r2 x y hx hy with e|⟨κ',a',b',e1,e2⟩|⟨a',b',e1,e2⟩
   ·rw [e];exact h1 x y hx hy
   ·rw [e2];rfl
   ·rw [e2];rfl
  ·simp only [enR];rw [hg x hx];exact (Classical.choose_spec (key x) hx).2 y hy
 ·exact ⟨L,hL,fun x hx=>absurd hx (by omega),.ro es n nl _ a cap hn hcm hnl (zr_soft S hz fun f=>f) u (fun q=>absurd q hm) (fun x y hx=>absurd hx (by omega)) (fun x y hx=>absurd hx (by omega)) (fun x y hx=>absurd hx (by omega))⟩
end
section
variable {E E':Env} {n:Nat} {nl:Bool} {v:Value}
theorem soft_u8 {L:List Int} (S:Soft E E') (hL:L.length=n) (hv:VR E (.ro 1 n nl (enR qD L)) v):∃ L':List Int,L'.length=n/\VR E' (.ro 1 n nl (enR qD L')) v:=by
 obtain ⟨L',h1,_,h2⟩:=soft_row (d:=qD) S (fun _ _=>True) (fun _=>rfl) (fun a u u' h s=>⟨vI (u' 0),trivial,fun y hy=>match y,hy with|0,_=>si (h 0 (by omega)) (s 0 (by omega))|y+1,h=>absurd h (by omega)⟩) hL hv
 exact ⟨L',h1,h2⟩
theorem soft_TFrame {L:List TFrame} (S:Soft E E') (hL:L.length=n) (hv:VR E (.ro 41 n nl (enR yD L)) v):∃ L':List TFrame,L'.length=n/\(∀ x,x < n->(gd L' x).Body.length=(gd L x).Body.length)/\VR E' (.ro 41 n nl (enR yD L')) v:=by
 refine soft_row (d:=yD) S (fun a a'=>a'.Body.length=a.Body.length) (fun _=>rfl) (fun a u u' h s=>?_) hL hv
 obtain ⟨B,hB1,hB2⟩:=soft_u8 S rfl (h 40 (by omega))
 rw [← s_ro (h 40 (by omega)) (s 40 (by omega)),← hB1] at hB2
 exact ⟨TFrame.mk (THeader.mk (vI (u' 0)) (vI (u' 1)) (vB (u' 2)) (vB (u' 3)) (vB (u' 4)) (vB (u' 5)) (vB (u' 6)) (vB (u' 7)) (vB (u' 8)) (vI (u' 9)) (A6u8.mk (vI (u' 10)) (vI (u' 11)) (vI (u' 12)) (vI (u' 13)) (vI (u' 14)) (vI (u' 15))) (A6u8.mk (vI (u' 16)) (vI (u' 17)) (vI (u' 18)) (vI (u' 19)) (vI (u' 20)) (vI (u' 21))) (A6u8.mk (vI (u' 22)) (vI (u' 23)) (vI (u' 24)) (vI (u' 25)) (vI (u' 26)) (vI (u' 27))) (A6u8.mk (vI (u' 28)) (vI (u' 29)) (vI (u' 30)) (vI (u' 31)) (vI (u' 32)) (vI (u' 33))) (vI (u' 34)) (vI (u' 35)) (vI (u' 36)) (vI (u' 37)) (vB (u' 38)) (vB (u' 39))) B,hB1,fun y hy=>by
  have q:=h y hy
  have r:=s y hy
  revert q r
  (repeat (first|(exfalso;omega)|(rcases y with _|y;focus (first|exact fun q r=>si q r|exact fun q r=>sb q r|exact fun _ _=>hB2))))⟩
theorem soft_TStored {L:List TStored} (S:Soft E E') (hL:L.length=n) (hv:VR E (.ro 43 n nl (enR zJ L)) v):∃ L':List TStored,L'.length=n/\VR E' (.ro 43 n nl (enR zJ L')) v:=by
 obtain ⟨L',h1,_,h2⟩:=soft_row (d:=zJ) S (fun _ _=>True) (fun _=>rfl) (fun a u u' h s=>by
  obtain ⟨B,hB1,hB2⟩:=soft_u8 S rfl (h 42 (by omega))
  rw [← s_ro (h 42 (by omega)) (s 42 (by omega)),← hB1] at hB2
  exact ⟨TStored.mk (vI (u' 0)) (vI (u' 1)) (TFrame.mk (THeader.mk (vI (u' 2)) (vI (u' 3)) (vB (u' 4)) (vB (u' 5)) (vB (u' 6)) (vB (u' 7)) (vB (u' 8)) (vB (u' 9)) (vB (u' 10)) (vI (u' 11)) (A6u8.mk (vI (u' 12)) (vI (u' 13)) (vI (u' 14)) (vI (u' 15)) (vI (u' 16)) (vI (u' 17))) (A6u8.mk (vI (u' 18)) (vI (u' 19)) (vI (u' 20)) (vI (u' 21)) (vI (u' 22)) (vI (u' 23))) (A6u8.mk (vI (u' 24)) (vI (u' 25)) (vI (u' 26)) (vI (u' 27)) (vI (u' 28)) (vI (u' 29))) (A6u8.mk (vI (u' 30)) (vI (u' 31)) (vI (u' 32)) (vI (u' 33)) (vI (u' 34)) (vI (u' 35))) (vI (u' 36)) (vI (u' 37)) (vI (u' 38)) (vI (u' 39)) (vB (u' 40)) (vB (u' 41))) B),trivial,fun y hy=>by
   have q:=h y hy
   have r:=s y hy
   revert q r
   (repeat (first|(exfalso;omega)|(rcases y with _|y;focus (first|exact fun q r=>si q r|exact fun q r=>sb q r|exact fun _ _=>hB2))))⟩) hL hv
 exact ⟨L',h1,h2⟩
theorem soft_TSleeper {L:List TSleeper} (S:Soft E E') (hL:L.length=n) (hv:VR E (.ro 3 n nl (enR zT L)) v):∃ L':List TSleeper,L'.length=n/\(∀ x,x < n->(gd L' x).Held.length=(gd L x).Held.length)/\VR E' (.ro 3 n nl (enR zT L')) v:=by
 refine soft_row (d:=zT) S (fun a a'=>a'.Held.length=a.Held.length) (fun _=>rfl) (fun a u u' h s=>?_) hL hv
 obtain ⟨B,hB1,hB2⟩:=soft_TStored S rfl (h 2 (by omega))
 rw [← s_ro (h 2 (by omega)) (s 2 (by omega)),← hB1] at hB2
 exact ⟨TSleeper.mk (vI (u' 0)) (vB (u' 1)) B,hB1,fun y hy=>by
  have q:=h y hy
  have r:=s y hy
  revert q r
  (repeat (first|(exfalso;omega)|(rcases y with _|y;focus (first|exact fun q r=>si q r|exact fun q r=>sb q r|exact fun _ _=>hB2))))⟩
end
end Go.Proofs.Ytefiemaoacmdkaa

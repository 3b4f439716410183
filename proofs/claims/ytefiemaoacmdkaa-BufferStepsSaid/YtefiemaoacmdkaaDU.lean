/-
  Rows told new and rows told without: one from the other.
-/
import Derived.Test.YtefiemaoacmdkaaDB
import Derived.Test.YtefiemaoacmdkaaUP
namespace Go.Proofs.Ytefiemaoacmdkaa
open Go.Am
set_option linter.unusedVariables false
theorem hY {l:List AV}:∀ {y:Nat},l.length <= y->zL l y = .top:=by
 induction l with
 | nil=>intro y _;rfl
 | cons a l ih=>intro y h;cases y with
  | zero=>simp at h
  | succ y=>exact ih (by simpa using h)
theorem upen {α:Type} [Inhabited α] {c d:α->List AV} {z:Nat} (hl:∀ a,(c a).length=z) (h:∀ a,d a=upL (c a) ++ [.emp]) (L:List α):(fun x y=>bif y == z then AV.emp else up (enR c L x y))=enR d L:=by
 funext x y
 simp only [enR,h]
 rcases Nat.lt_trichotomy y z with q|rfl|q
 ·rw [show (y == z)=false from by simp;omega,cond_false,qN (by rw [qA,hl];exact q),dT]
 ·rw [beq_self_eq_true,cond_true]
  have:∀ l:List AV,zL (l ++ [.emp]) l.length = .emp:=fun l=>by induction l with
   | nil=>rfl
   | cons a l ih=>exact ih
  have e:=this (upL (c (gd L x)))
  rw [qA,hl] at e;exact e.symm
 ·rw [show (y == z)=false from by simp;omega,cond_false,hY (by rw [hl];omega),hY (by simp [qA,hl];omega)];rfl
theorem rsen {α:Type} [Inhabited α] {c d:α->List AV} {z:Nat} (hl:∀ a,(c a).length=z) (h:∀ a,rsL (d a)=c a ++ [.emp]) (L:List α) (n:Nat) (nl:Bool):rs (.ro z n nl (enR d L)) = .ro z n nl (enR c L):=by
 have g:∀ x y,rs (enR d L x y)=zL (c (gd L x) ++ [.emp]) y:=fun x y=>by
  rw [← h];simp only [enR]
  generalize d (gd L x)=l
  induction l generalizing y with
  | nil=>rfl
  | cons a l ih=>cases y with
   | zero=>rfl
   | succ y=>exact ih y
 have e:∀ x,zL (c (gd L x) ++ [.emp]) z = .emp:=fun x=>by
  have:∀ l:List AV,zL (l ++ [.emp]) l.length = .emp:=fun l=>by induction l with
   | nil=>rfl
   | cons a l ih=>exact ih
  have e:=this (c (gd L x));rw [hl] at e;exact e
 have m:enR d L 0 z = .emp:=by
  have q:=(g 0 z).trans (e 0)
  revert q;generalize enR d L 0 z=a;intro q
  cases a<;>simp only [rs,reduceCtorEq] at q ⊢
  rename_i es n nl c
  exfalso;revert q;unfold rsR;split
  ·intro q;cases q
  ·split<;>intro q<;>cases q
 simp only [rs,rsR,m]
 congr 1
 funext x y
 rcases Nat.lt_trichotomy y z with q|rfl|q
 ·rw [show (y == z)=false from by simp;omega,cond_false,g,qN (by rw [hl];exact q)];rfl
 ·rw [beq_self_eq_true,cond_true];simp only [enR];rw [hY (by rw [hl];exact Nat.le_refl _)]
 ·rw [show (y == z)=false from by simp;omega,cond_false,g,hY (by simp [hl];omega)];simp only [enR];rw [hY (by rw [hl];omega)]
theorem cl_u8 (a:Int):(xA a).length=1:=rfl
theorem ud_u8 (a:Int):qD a=upL (xA a) ++ [.emp]:=by
 simp only [qD,s_u8,xA,upL,up,List.cons_append,List.nil_append]
theorem rd_u8 (a:Int):rsL (qD a)=xA a ++ [.emp]:=by
 simp only [qD,s_u8,xA,rsL,List.cons_append,List.nil_append];simp only [rs]
theorem up_r_u8 (L:List Int) (n:Nat) (nl:Bool):up (.ro 1 n nl (enR xA L)) = .ro 1 n nl (enR qD L):=by
 simp only [up,upen cl_u8 ud_u8]
theorem rs_r_u8 (L:List Int) (n:Nat) (nl:Bool):rs (.ro 1 n nl (enR qD L)) = .ro 1 n nl (enR xA L):=rsen cl_u8 rd_u8 L n nl
theorem rs_a_u8 (L:List Int) (n:Nat) (nl:Bool):rs (.ro 1 n nl (enR xA L)) = .top:=rfl
theorem kU (a:TFrame):(zI a).length=41:=rfl
theorem ud_TFrame (a:TFrame):yD a=upL (zI a) ++ [.emp]:=by
 simp only [yD,tG,zI,upL,up,List.cons_append,List.nil_append,upen cl_u8 ud_u8]
theorem rd_TFrame (a:TFrame):rsL (yD a)=zI a ++ [.emp]:=by
 simp only [yD,tG,zI,rsL,List.cons_append,List.nil_append,rsen cl_u8 rd_u8];simp only [rs]
theorem eC (L:List TFrame) (n:Nat) (nl:Bool):up (.ro 41 n nl (enR zI L)) = .ro 41 n nl (enR yD L):=by
 simp only [up,upen kU ud_TFrame]
theorem vJ (L:List TFrame) (n:Nat) (nl:Bool):rs (.ro 41 n nl (enR yD L)) = .ro 41 n nl (enR zI L):=rsen kU rd_TFrame L n nl
theorem fZ (L:List TFrame) (n:Nat) (nl:Bool):rs (.ro 41 n nl (enR zI L)) = .top:=rfl
theorem gQ (a:TStored):(zD a).length=43:=rfl
theorem ud_TStored (a:TStored):zJ a=upL (zD a) ++ [.emp]:=by
 simp only [zJ,vL,zD,upL,up,List.cons_append,List.nil_append,upen cl_u8 ud_u8,upen kU ud_TFrame]
theorem rd_TStored (a:TStored):rsL (zJ a)=zD a ++ [.emp]:=by
 simp only [zJ,vL,zD,rsL,List.cons_append,List.nil_append,rsen cl_u8 rd_u8,rsen kU rd_TFrame];simp only [rs]
theorem up_r_TStored (L:List TStored) (n:Nat) (nl:Bool):up (.ro 43 n nl (enR zD L)) = .ro 43 n nl (enR zJ L):=by
 simp only [up,upen gQ ud_TStored]
theorem xP (L:List TStored) (n:Nat) (nl:Bool):rs (.ro 43 n nl (enR zJ L)) = .ro 43 n nl (enR zD L):=rsen gQ rd_TStored L n nl
theorem wQ (L:List TStored) (n:Nat) (nl:Bool):rs (.ro 43 n nl (enR zD L)) = .top:=rfl
theorem bZ (a:TSleeper):(zC a).length=3:=rfl
theorem ud_TSleeper (a:TSleeper):zT a=upL (zC a) ++ [.emp]:=by
 simp only [zT,uI,zC,upL,up,List.cons_append,List.nil_append,upen cl_u8 ud_u8,upen kU ud_TFrame,upen gQ ud_TStored]
theorem rd_TSleeper (a:TSleeper):rsL (zT a)=zC a ++ [.emp]:=by
 simp only [zT,uI,zC,rsL,List.cons_append,List.nil_append,rsen cl_u8 rd_u8,rsen kU rd_TFrame,rsen gQ rd_TStored];simp only [rs]
theorem up_r_TSleeper (L:List TSleeper) (n:Nat) (nl:Bool):up (.ro 3 n nl (enR zC L)) = .ro 3 n nl (enR zT L):=by
 simp only [up,upen bZ ud_TSleeper]
theorem xW (L:List TSleeper) (n:Nat) (nl:Bool):rs (.ro 3 n nl (enR zT L)) = .ro 3 n nl (enR zC L):=rsen bZ rd_TSleeper L n nl
theorem wE (L:List TSleeper) (n:Nat) (nl:Bool):rs (.ro 3 n nl (enR zC L)) = .top:=rfl
end Go.Proofs.Ytefiemaoacmdkaa

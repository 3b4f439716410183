/-
  Messages as frames: what unwrap reads.
-/
import Derived.Test.YtooepgpfaaddbaaGreatTD
namespace Go.Proofs.YtooepgpfaaddbaaGreat
open Go.Am
set_option linter.unusedVariables false
set_option linter.unusedSimpArgs false
theorem F89_ok {P T:List Int} (hP:P.length <= 5000) (hT:T.length=4):F89 P T=some (decide (T=t4 (ck P))):=by
 match T,hT with
 | [a,b,c,d],_ =>
  have k:∀ (x:Bool) (i:Int),inb i [a,b,c,d].length=true->(bif x then inb i [a,b,c,d].length else true)=true:=fun x i h=>by (cases x with|false=>rfl|true=>exact h)
  unfold F89
  rw [F77_ok hP,Option.bind_some,zD (by rfl),zD (k _ 1 rfl),zD (k _ 2 rfl),zD (k _ 3 rfl)]
  refine congrArg some (Bool.eq_iff_iff.2 ?_)
  simp only [Bool.and_eq_true,yT,decide_eq_true_eq,t4,List.cons.injEq,and_true,gd]
  constructor
  ·rintro ⟨⟨⟨h1,h2⟩,h3⟩,h4⟩;exact ⟨h1.symm,h2.symm,h3.symm,h4.symm⟩
  ·rintro ⟨h1,h2,h3,h4⟩;exact ⟨⟨⟨h1.symm,h2.symm⟩,h3.symm⟩,h4.symm⟩
theorem deR_pre {L:List Int} {n:Nat} (h:n <= L.length):deR g_u8 n (enR c_u8 L)=L.take n:=by
 have e:(L.take n).length=n:=by rw [List.length_take];omega
 have:=deR_enR gc_u8 (L.take n)
 rw [e] at this
 refine Eq.trans ?_ this
 unfold deR
 refine List.map_congr_left fun x hx=>?_
 rw [List.mem_range] at hx
 congr 1
 funext y
 simp only [enR]
 congr 1
 simp only [gd,List.getD_eq_getElem?_getD,List.getElem?_take,hx,if_true]
theorem F54_ok {P T:List Int} (hP:P.length=38) (hT:T.length=4):F54 (P ++ T)=some (bif decide (T=t4 (ck P)) then (P,0) else ([],31)):=by
 have hl:(P ++ T).length=42:=by rw [List.length_append];omega
 have e1:(P ++ T).take 38=P:=by rw [← hP,List.take_left'];rfl
 have e2:(P ++ T).drop 38=T:=by rw [← hP,List.drop_left'];rfl
 have w1:wr .i64 (((42:Nat):Int) - 4)=((38:Nat):Int):=by rw [uV (by omega)];rfl
 have d1:deR g_u8 38 (enR c_u8 (P ++ T))=P:=by rw [deR_pre (by omega),e1]
 have d2:deR g_u8 (42 - 38) (enR c_u8 T)=T:=by rw [deR_pre (by omega)];exact List.take_of_length_le (by omega)
 unfold F54 F88_0
 rw [hl,w1]
 simp only [Int.toNat_natCast]
 rw [yO (c:=bLt _ _) (by rfl),zD (by rfl),zD (by rfl),e2,d1,d2,F89_ok (by omega) hT,Option.bind_some]
 cases decide (T=t4 (ck P)) with
 | false=>rfl
 | true=>rw [yO (c:=!true) rfl,zD (by rfl),F78_ok (by omega) (by simp),List.append_nil];rfl
theorem F55_ok {b:List Int} {n:Nat} (h:n <= b.length):eE ⟨b,false⟩ n=some (b.take n,⟨b.drop n,false⟩):=by
 unfold eE
 simp only [Int.toNat_natCast]
 rw [yO (c:=bLt _ _) (by simp [yW];omega),zD (slb_iff.2 (by omega)),zD (slb_iff.2 (by omega))]
theorem F90_ok {D:List Int} {i n:Nat} (h:i+n <= D.length) (hD:D.length <= 5000):F90 (TReader.mk D i) n=some ((D.drop i).take n,TReader.mk D ((i+n:Nat):Int),0):=by
 unfold F90 F98
 simp only
 have e:((i:Int)+n)=((i+n:Nat):Int):=by omega
 rw [uV (x:=(D.length:Int) - i) (by omega),uV (x:=(i:Int)+n) (by omega),e]
 simp only [Int.toNat_natCast]
 rw [yO (c:=bLt _ 0 || _) (by simp [yW];omega),Option.bind_some,yO (c:=!bEq 0 0) rfl,yO (c:=bLt _ 0) (by simp [yW]),yO (c:=bLt _ _) (by simp [yW];omega),zD (slb_iff.2 (by omega)),zD (uT.2 (by omega)),Option.bind_some,Nat.add_sub_cancel_left,List.nil_append]
theorem F28_ok {w:TRegulateWord} (h:Wd w):F28 (enc w)=some (w,0):=by
 have hw:=h
 unfold Wd Mo at hw
 have hl:=enc_len w
 have hm:jI 3 ((enc w).length:Nat)=((3:Nat):Int):=by rw [hl];rfl
 have h8:(8:Int)=((8:Nat):Int):=rfl
 have hd:((enc w).drop 3).take 8=leN 8 w.At:=by
  show List.take 8 (leN 8 w.At)=_
  exact List.take_of_length_le (by rw [leN_len];omega)
 have hv:ldN (leN 8 w.At)=w.At:=ldN_leN 8 w.At (by omega) (by omega)
 have l:=num_gen (R:=Int × TReader × Int) (step:=fun s=>F91_L1 (leN 8 w.At,TReader.mk (enc w) ((3+8:Nat):Int),0) s.1 s.2) (leN 8 w.At) (leN_by 8 w.At) (by rw [leN_len];omega) (fun _=>rfl)
 unfold F28 F62 F91
 rw [hm,h8,F90_ok (by omega) (by omega),hd,Option.bind_some,yO (c:=!bEq 0 0) rfl,wE l,hv]
 simp only [Option.bind_some]
 rw [yO (c:=!bEq 0 0) rfl,yO (c:=bLt _ _) (by rw [hl];rfl),zD (by rw [hl];rfl),zD (by rw [hl];rfl),zD (by rw [hl];rfl)]
 have e:(TRegulateWord.mk (gd (enc w) 0) (wr .i64 (gd (enc w) 1)) (wr .i64 (gd (enc w) 2)) (wr .i64 (jI w.At 4611686018427387904)))=w:=by
  have m:jI w.At 4611686018427387904=w.At:=by unfold jI;split<;>omega
  show TRegulateWord.mk w.Kind (wr .i64 w.Channel) (wr .i64 w.To) _=w
  rw [m,uV (by omega),uV (by omega),uV (by omega)]
 obtain ⟨v,v1,v2⟩:=F29_ok w
 rw [e,v1,Option.bind_some,v2.2 h]
 rfl
theorem F27_ok {l:List Int} (h:l.length=11):F27 ([7,1,0] ++ l)=some (TAction.mk 7 1 0 l,0):=by
 have hl:([7,1,0] ++ l).length=14:=by rw [List.length_append,h];rfl
 have a1:=F90_ok (D:=[7,1,0] ++ l) (i:=0) (n:=3) (by omega) (by omega)
 have a2:=F90_ok (D:=[7,1,0] ++ l) (i:=3) (n:=11) (by omega) (by omega)
 have t:List.take 11 (List.drop 3 ([7,1,0] ++ l))=l:=List.take_of_length_le (by rw [← h];exact Nat.le_refl _)
 have w:wr .i64 (((14:Nat):Int) - ((0+3:Nat):Int))=((11:Nat):Int):=by rw [uV (by omega)];rfl
 unfold F27
 rw [yO (c:=bLt _ _) (by rw [hl];rfl)]
 rw [show (TReader.mk ([7,1,0] ++ l) 0)=TReader.mk ([7,1,0] ++ l) ((0:Nat):Int) from rfl,show (3:Int)=((3:Nat):Int) from rfl,a1,Option.bind_some,xS (c:=bEq _ 0) rfl]
 simp only
 rw [zD (by rfl),zD (by rfl),zD (by rfl),hl,w]
 rw [show (TReader.mk ([7,1,0] ++ l) ((0+3:Nat):Int))=TReader.mk ([7,1,0] ++ l) ((3:Nat):Int) from rfl,a2,Option.bind_some,xS (c:=bEq _ 0) rfl,t]
 rfl
end Go.Proofs.YtooepgpfaaddbaaGreat

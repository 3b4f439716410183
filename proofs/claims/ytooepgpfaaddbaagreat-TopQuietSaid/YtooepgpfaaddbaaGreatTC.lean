/-
  Messages as frames: what wrap writes.
-/
import Derived.Test.YtooepgpfaaddbaaGreatTU
import Derived.Test.YtooepgpfaaddbaaGreatQP
namespace Go.Proofs.YtooepgpfaaddbaaGreat
open Go.Am
set_option linter.unusedVariables false
set_option linter.unusedSimpArgs false
theorem ovw_all {L M:List Int} (h:L.length=M.length):ovwL L 0 M=M:=by
 unfold ovwL
 rw [List.take_zero,List.nil_append,Nat.zero_add,← h,List.drop_length,List.append_nil]
theorem mk8 (L:List Int) (hL:L.length <= 1000):mkb 1 (L.length:Nat) (wr .i64 ((L.length:Nat)+8))=true:=mkb_iff.2 (by rw [uV (by omega)];omega)
theorem F73_ok (L:List Int) (v:Int) (hv:0 <= v) (hL:L.length <= 1000):F73 L v 8=some (L ++ leN 8 v):=by
 have l:=put_gen (R:=List Int) (step:=fun s=>F73_L1 v 8 s.1 s.2) v hv L 8 (by omega) (by omega) (fun _=>rfl)
 have e0:(List.replicate L.length (0:Int)).length=L.length:=List.length_replicate
 have e1:ovwL (List.replicate L.length (0:Int)) 0 L=L:=ovw_all e0
 have e2:List.take (List.replicate L.length (0:Int)).length L=L:=by rw [e0,List.take_length]
 have e3:decide (L.length <= (List.replicate L.length (0:Int)).length)=true:=decide_eq_true (by rw [e0];exact Nat.le_refl _)
 generalize hw:List.replicate L.length (0:Int)=w at e0 e1 e2 e3
 generalize hs:(fun s:List Int × Int=>F73_L1 v 8 s.1 s.2)=step at l
 unfold F73
 rw [hs,hw,zD (mk8 L hL),Option.bind_some,zD e3,e1,Option.bind_some,e2,wE l]
def enc (w:TRegulateWord):List Int:=[w.Kind,w.Channel,w.To] ++ leN 8 w.At
theorem F19_ok {w:TRegulateWord} (h:Wd w):F19 w=some (enc w,0):=by
 obtain ⟨v,v1,v2⟩:=F29_ok w
 have hw:=h
 unfold Wd Mo at hw
 unfold F19 F40
 rw [v1,Option.bind_some,v2.2 h,yO (c:=!true) rfl,wr_u64 (by omega),wr_u8 (x:=w.Channel) (by omega),wr_u8 (x:=w.To) (by omega),F73_ok _ _ (by omega) (by simp)]
 rfl
theorem enc_len (w:TRegulateWord):(enc w).length=11:=by simp [enc,leN_len]
theorem F20_ok {l:List Int} (h:l.length <= 100):F20 (TAction.mk 7 1 0 l)=some ([7,1,0] ++ l,0):=by
 unfold F20
 simp only
 rw [uV (by omega),yO (c:=bLt _ _) (by simp [yW];omega),zD (uT.2 (by omega))]
def hdb (a:A6u8):List Int:=[208,0,0,0,255,255,255,255,255,255,a.x0,a.x1,a.x2,a.x3,a.x4,a.x5,2,0,0,0,0,1,0,0]
def Ad (a:A6u8):Prop:=a.x0=2/\(0 <= a.x1/\a.x1 <= 255)/\(0 <= a.x2/\a.x2 <= 255)/\(0 <= a.x3/\a.x3 <= 255)/\(0 <= a.x4/\a.x4 <= 255)/\0 <= a.x5/\a.x5 <= 255
set_option maxRecDepth 10000 in
theorem F42_ok {a:A6u8} (h:a.x0=2):F42 (hd a)=some 0:=by
 have e:F75 (hd a).A2=some false:=by
  show some (!bEq (uE .u8 a.x0 1) 0)=some false
  rw [h];rfl
 change (bif hdq (hd a) then _ else _)=_
 rw [hdq_hd,cond_true,e]
 kernel_rfl
theorem F43_ok (a:A6u8):F43 (hd a)=some false:=rfl
set_option maxRecDepth 10000 in
theorem F45_ok (a:A6u8):F45 (hd a)=some (hdb a):=by
 change (bif hdq (hd a) then _ else _)=_
 rw [hdq_hd,cond_true]
 have l:yF (fun s=>F45_L1 s.1 s.2.1 s.2.2) (0,[false,false,false,false,false,false,false],0)=some (Sum.inl (β:=List Int) 0):=by
  refine run_gen (step:=fun s=>F45_L1 s.1 s.2.1 s.2.2) 7 (fun i:Nat=>((0:Int),[false,false,false,false,false,false,false],(i:Int))) 0 (fun i hi=>?_) ?_
  ·exact match i,hi with
   | 0,_=>rfl
   | 1,_=>rfl
   | 2,_=>rfl
   | 3,_=>rfl
   | 4,_=>rfl
   | 5,_=>rfl
   | 6,_=>rfl
   | i+7,h=>absurd h (by omega)
  ·rfl
 rw [wE l]
 show _=_
 kernel_rfl
def ck (b:List Int):Int:=xorI .u32 4294967295 (b.foldl ext1 4294967295)
def t4 (c:Int):List Int:=[wr .u8 (wW .u32 c 24),wr .u8 (wW .u32 c 16),wr .u8 (wW .u32 c 8),wr .u8 c]
theorem F77_ok {b:List Int} (h:b.length <= 5000):F77 b=some (ck b):=by
 unfold F77 F94
 rw [zD (decide_eq_true h),Option.bind_some]
 rfl
theorem F78_ok {p q:List Int} (h:p.length <= 5000) (h2:q.length <= 5000):F78 p q=some (p ++ q):=by
 unfold F78
 rw [uV (by omega),zD (mkb_iff.2 (by omega)),Option.bind_some,zD (uT.2 (by simp;omega)),zD (uT.2 (by simp;omega))]
 rfl
theorem F44_ok {b:List Int} (h:b.length <= 5000):F44 b=some (b ++ t4 (ck b)):=by
 unfold F44
 rw [F77_ok h,Option.bind_some,F78_ok h (by simp)]
 rfl
theorem deR_app (L M:List Int):deR g_u8 (L.length+M.length) (uL L.length (enR c_u8 L) (enR c_u8 M))=L ++ M:=by
 refine Eq.trans ?_ (deR_enR gc_u8 (L ++ M))
 rw [← List.length_append]
 unfold deR
 refine List.map_congr_left fun x hx=>?_
 rw [List.mem_range,List.length_append] at hx
 congr 1
 funext y
 exact (app_enR hx).symm
def pay (w:TRegulateWord) (a:A6u8):List Int:=hdb a ++ ([7,1,0] ++ enc w)
def frm (w:TRegulateWord) (a:A6u8):List Int:=pay w a ++ t4 (ck (pay w a))
theorem jV (w:TRegulateWord) (a:A6u8):(pay w a).length=38:=by simp [pay,hdb,enc_len]
theorem frm_len (w:TRegulateWord) (a:A6u8):(frm w a).length=42:=by simp [frm,jV,t4]
theorem F21_ok {a:A6u8} {B:List Int} (h:a.x0=2) (hB:B.length <= 100):F21 (TFrame.mk (hd a) B)=some ((hdb a ++ B) ++ t4 (ck (hdb a ++ B)),0):=by
 unfold F21
 simp only
 have e:=deR_app (hdb a) B
 rw [F42_ok h,F43_ok,F45_ok,Option.bind_some]
 simp only [Option.isSome_some,Bool.cond_self,zD,zN]
 rw [yO (c:=_ || _) (by simp [yT]),yO (c:=bLt _ _) (by simp [yW];omega),Option.bind_some,zD (uT.2 (by simp [hdb];omega)),e,F44_ok (by simp [hdb];omega)]
 rfl
theorem wrap_ok {w:TRegulateWord} {a:A6u8} (h:Wd w) (ha:a.x0=2):F8 w a=some (frm w a,true):=by
 unfold F8
 rw [F19_ok h,Option.bind_some,F20_ok (by rw [enc_len];omega),Option.bind_some]
 show ((F21 (TFrame.mk (hd a) ([7,1,0] ++ enc w))).bind fun r7=>some (r7.1,(((bEq (0:Int) 0 && bEq (0:Int) 0) && bEq r7.2 0) && bLt 0 (r7.1.length:Nat))))=_
 rw [F21_ok ha (by simp [enc_len]),Option.bind_some]
 have:bLt 0 (((hdb a ++ ([7,1,0] ++ enc w)) ++ t4 (ck (hdb a ++ ([7,1,0] ++ enc w)))).length:Nat)=true:=by simp [yW,hdb];omega
 simp only [this]
 rfl
end Go.Proofs.YtooepgpfaaddbaaGreat

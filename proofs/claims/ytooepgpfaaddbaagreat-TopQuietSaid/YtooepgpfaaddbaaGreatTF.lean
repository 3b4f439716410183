/-
  Messages as frames: there and back, and a frame with one bit changed.
-/
import Derived.Test.YtooepgpfaaddbaaGreatTE
namespace Go.Proofs.YtooepgpfaaddbaaGreat
open Go.Am
set_option linter.unusedVariables false
set_option linter.unusedSimpArgs false
theorem frm_F54 (w:TRegulateWord) (a:A6u8):F54 (frm w a)=some (pay w a,0):=by
 unfold frm
 rw [F54_ok (jV w a) rfl]
 simp
theorem bind42 {β:Type} {a:A6u8} {H:THeader} {f:Int->Option β} (e:H=hd a) (ha:a.x0=2):(F42 H).bind f=f 0:=by
 rw [e,F42_ok ha];rfl
set_option maxRecDepth 20000 in
theorem F26_ok {w:TRegulateWord} {a:A6u8} (ha:a.x0=2):F26 (frm w a)=some (TFrame.mk (hd a) ([7,1,0] ++ enc w),0):=by
 have e1:eE (Tcursor.mk (pay w a) false) 2=some ([208,0],Tcursor.mk ((pay w a).drop 2) false):=F55_ok (n:=2) (by rw [jV];omega)
 have e2:F57_0 (Tcursor.mk ((pay w a).drop 2) false)=some (0,Tcursor.mk ((pay w a).drop 4) false):=by
  unfold F57_0
  rw [show (2:Int)=((2:Nat):Int) from rfl,F55_ok (n:=2) (by rw [List.length_drop,jV];omega)]
  show _=_
  kernel_rfl
 have e3:eE (Tcursor.mk ((pay w a).drop 4) false) 6=some ([255,255,255,255,255,255],Tcursor.mk ((pay w a).drop 10) false):=F55_ok (n:=6) (by rw [List.length_drop,jV];omega)
 have e4:eE (Tcursor.mk ((pay w a).drop 10) false) 6=some ([a.x0,a.x1,a.x2,a.x3,a.x4,a.x5],Tcursor.mk ((pay w a).drop 16) false):=F55_ok (n:=6) (by rw [List.length_drop,jV];omega)
 have e5:eE (Tcursor.mk ((pay w a).drop 16) false) 6=some ([2,0,0,0,0,1],Tcursor.mk ((pay w a).drop 22) false):=F55_ok (n:=6) (by rw [List.length_drop,jV];omega)
 have e6:F57_0 (Tcursor.mk ((pay w a).drop 22) false)=some (0,Tcursor.mk ([7,1,0] ++ enc w) false):=by
  unfold F57_0
  rw [show (2:Int)=((2:Nat):Int) from rfl,F55_ok (n:=2) (by rw [List.length_drop,jV];omega)]
  show _=_
  kernel_rfl
 unfold F26
 rw [frm_F54,Option.bind_some,yO (c:=!bEq _ 0) rfl,e1,Option.bind_some]
 rw [yO (c:=false) rfl,zD (by rfl),zD (by rfl),zD (by rfl),xS (c:=bEq _ 0) (by kernel_rfl),xS (c:=bEq _ 13) (by kernel_rfl),zD (by rfl),yO (c:=_ || _) (by kernel_rfl)]
 rw [e2,Option.bind_some,e3,Option.bind_some,zD (by rfl),e4,Option.bind_some,zD (by rfl),e5,Option.bind_some,zD (by rfl),e6,Option.bind_some,yO (c:=false) rfl]
 refine (bind42 (a:=a) ?_ ha).trans ?_
 ·show _=_
  kernel_rfl
 ·show _=_
  kernel_rfl
theorem unwrap_ok {w:TRegulateWord} {a:A6u8} (h:Wd w) (ha:a.x0=2):F12 (frm w a)=some (w,true):=by
 unfold F12
 rw [F26_ok ha,Option.bind_some,yO (c:=!bEq _ 0) rfl]
 rw [F27_ok (enc_len w),Option.bind_some,F28_ok h]
 rfl
theorem pay_by {w:TRegulateWord} {a:A6u8} (h:Wd w) (ha:Ad a):By (pay w a):=by
 unfold Wd at h
 unfold Ad at ha
 intro q hq
 unfold pay hdb enc at hq
 simp only [List.mem_append,List.mem_cons,List.not_mem_nil,or_false] at hq
 rcases hq with hq|hq|hq|hq
 ·omega
 ·omega
 ·omega
 ·exact leN_by 8 w.At q hq
theorem t4_by {l:List Int} (h:By l):By (t4 (ck l)):=by
 obtain ⟨n,e,hn⟩:=ck_rng h
 rw [e,t4_nat hn]
 intro q hq
 simp only [List.mem_cons,List.not_mem_nil,or_false] at hq
 omega
theorem frm_by {w:TRegulateWord} {a:A6u8} (h:Wd w) (ha:Ad a):By (frm w a):=by
 intro q hq
 rcases List.mem_append.1 hq with hq|hq
 ·exact pay_by h ha q hq
 ·exact t4_by (pay_by h ha) q hq
theorem flip_ok {w:TRegulateWord} {a:A6u8} (h:Wd w) (ha:Ad a) {i:Nat} {v:Int} (hi:i < 42) (hv:0 <= v/\v <= 255) (hne:v ≠ gd (frm w a) i):F12 ((frm w a).set i v)=some (⟨0,0,0,0⟩,false):=by
 have hb:=pay_by h ha
 have hl:=jV w a
 have e:F54 ((frm w a).set i v)=some ([],31):=by
  unfold frm at hne ⊢
  rw [List.set_append]
  by_cases hc:i < (pay w a).length
  ·rw [if_pos hc,F54_ok (by rw [List.length_set];exact hl) rfl,yO]
   refine decide_eq_false fun e=>?_
   have hne2:v ≠ gd (pay w a) i:=by
    rw [show gd (pay w a) i=gd (pay w a ++ t4 (ck (pay w a))) i from by simp only [gd,List.getD_eq_getElem?_getD,List.getElem?_append_left hc]]
    exact hne
   have hb2:By ((pay w a).set i v):=fun q hq=>by
    rcases List.mem_or_eq_of_mem_set hq with q1|rfl
    ·exact hb q q1
    ·exact hv
   exact ck_set hb hv hc hne2 (t4_inj hb2 hb e.symm)
  ·have h4:(t4 (ck (pay w a))).length=4:=rfl
   rw [if_neg hc,F54_ok hl (by rw [List.length_set];exact h4),yO]
   refine decide_eq_false fun e=>?_
   have hj:i - (pay w a).length < (t4 (ck (pay w a))).length:=by rw [h4];omega
   have:=congrArg (fun l=>gd l (i - (pay w a).length)) e
   rw [tG hj,if_pos rfl] at this
   refine hne (this.trans ?_)
   simp only [gd,List.getD_eq_getElem?_getD,List.getElem?_append_right (Nat.le_of_not_lt hc)]
 unfold F12 F26
 rw [e]
 rfl
end Go.Proofs.YtooepgpfaaddbaaGreat

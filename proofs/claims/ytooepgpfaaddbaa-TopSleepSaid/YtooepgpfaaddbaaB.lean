/-
  Go's values as typed values.
-/
import Derived.Test.YtooepgpfaaddbaaT
import Derived.Test.YtooepgpfaaddbaaPm10
namespace Go.Proofs.Ytooepgpfaaddbaa
open Go.Am
set_option linter.unusedVariables false
set_option linter.unusedSimpArgs false
def yG (a:Int):List AV:=[.int .u8 a]
def vJ (f:Nat->AV):Int:=iA (f 0)
def k_u8 (f:Nat->AV):Prop:=iK .u8 (f 0)
theorem gc_u8 (a:Int):vJ (zR (yG a))=a:=by
 simp only [vJ,yG,zR,iA,bA,sA,lA]
theorem kc_u8 (a:Int):k_u8 (zR (yG a)):=by
 simp only [k_u8,yG,zR,iK,bK,sK,lK,or_true,true_and,and_true,and_self]
theorem xT (a:Int):nrefL (yG a):=by simp only [yG,nrefL,nref,and_self]
instance:NOf yG:=⟨fun a=>by simp only [yG,wP,noro,and_self]⟩
instance:NRf yG:=⟨xT⟩
instance:KCf k_u8 yG:=⟨kc_u8⟩
theorem w_u8 {f:Nat->AV} (h:k_u8 f):∀ y,y < 1->WkV (zR (yG (vJ f)) y) (f y)/\nref (zR (yG (vJ f)) y):=by
 have h0:=h
 intro y hy
 match y,hy with
 | 0,_=>exact yJ h0
 | y+1,hy=>omega
theorem e_u8_0 (l:List Int) (x:Nat):enR yG l x 0 = .int .u8 (gd l x):=rfl
theorem fit_u8 (n:Nat) (l:List Int):Fit k_u8 n (enR yG l)=True:=eq_true (Fit_enR kc_u8)
theorem de_u8 (l:List Int):deR vJ l.length (enR yG l)=l:=deR_enR gc_u8 l
def yQ (a:Int):List AV:=[.int .i64 a]
def wO (f:Nat->AV):Int:=iA (f 0)
def k_i64 (f:Nat->AV):Prop:=iK .i64 (f 0)
theorem gc_i64 (a:Int):wO (zR (yQ a))=a:=by
 simp only [wO,yQ,zR,iA,bA,sA,lA]
theorem kc_i64 (a:Int):k_i64 (zR (yQ a)):=by
 simp only [k_i64,yQ,zR,iK,bK,sK,lK,or_true,true_and,and_true,and_self]
theorem xQ (a:Int):nrefL (yQ a):=by simp only [yQ,nrefL,nref,and_self]
instance:NOf yQ:=⟨fun a=>by simp only [yQ,wP,noro,and_self]⟩
instance:NRf yQ:=⟨xQ⟩
instance:KCf k_i64 yQ:=⟨kc_i64⟩
theorem w_i64 {f:Nat->AV} (h:k_i64 f):∀ y,y < 1->WkV (zR (yQ (wO f)) y) (f y)/\nref (zR (yQ (wO f)) y):=by
 have h0:=h
 intro y hy
 match y,hy with
 | 0,_=>exact yJ h0
 | y+1,hy=>omega
theorem e_i64_0 (l:List Int) (x:Nat):enR yQ l x 0 = .int .i64 (gd l x):=rfl
theorem fit_i64 (n:Nat) (l:List Int):Fit k_i64 n (enR yQ l)=True:=eq_true (Fit_enR kc_i64)
theorem de_i64 (l:List Int):deR wO l.length (enR yQ l)=l:=deR_enR gc_i64 l
def c_b (a:Bool):List AV:=[.bool a]
def g_b (f:Nat->AV):Bool:=bA (f 0)
def k_b (f:Nat->AV):Prop:=bK (f 0)
theorem gc_b (a:Bool):g_b (zR (c_b a))=a:=by
 simp only [g_b,c_b,zR,iA,bA,sA,lA]
theorem kc_b (a:Bool):k_b (zR (c_b a)):=by
 simp only [k_b,c_b,zR,iK,bK,sK,lK,or_true,true_and,and_true,and_self]
theorem nr_b (a:Bool):nrefL (c_b a):=by simp only [c_b,nrefL,nref,and_self]
instance:NOf c_b:=⟨fun a=>by simp only [c_b,wP,noro,and_self]⟩
instance:NRf c_b:=⟨nr_b⟩
instance:KCf k_b c_b:=⟨kc_b⟩
theorem e_b_0 (l:List Bool) (x:Nat):enR c_b l x 0 = .bool (gd l x):=rfl
theorem fit_b (n:Nat) (l:List Bool):Fit k_b n (enR c_b l)=True:=eq_true (Fit_enR kc_b)
theorem de_b (l:List Bool):deR g_b l.length (enR c_b l)=l:=deR_enR gc_b l
structure TWakeRule where
 Id:Int
 Start:Int
 Every:Int
 Length:Int
 Group:Int
 deriving Inhabited
def c_TWakeRule (a:TWakeRule):List AV:=[.int .i64 a.Id,.int .i64 a.Start,.int .i64 a.Every,.int .i64 a.Length,.int .i64 a.Group]
def g_TWakeRule (f:Nat->AV):TWakeRule:=⟨iA (f 0),iA (f 1),iA (f 2),iA (f 3),iA (f 4)⟩
def wG (f:Nat->AV):Prop:=iK .i64 (f 0)/\iK .i64 (f 1)/\iK .i64 (f 2)/\iK .i64 (f 3)/\iK .i64 (f 4)
theorem gc_TWakeRule (a:TWakeRule):g_TWakeRule (zR (c_TWakeRule a))=a:=by
 simp only [g_TWakeRule,c_TWakeRule,zR,iA,bA,sA,lA]
theorem kc_TWakeRule (a:TWakeRule):wG (zR (c_TWakeRule a)):=by
 simp only [wG,c_TWakeRule,zR,iK,bK,sK,lK,or_true,true_and,and_true,and_self]
theorem nr_TWakeRule (a:TWakeRule):nrefL (c_TWakeRule a):=by simp only [c_TWakeRule,nrefL,nref,and_self]
instance:NOf c_TWakeRule:=⟨fun a=>by simp only [c_TWakeRule,wP,noro,and_self]⟩
instance:NRf c_TWakeRule:=⟨nr_TWakeRule⟩
instance:KCf wG c_TWakeRule:=⟨kc_TWakeRule⟩
theorem w_TWakeRule {f:Nat->AV} (h:wG f):∀ y,y < 5->WkV (zR (c_TWakeRule (g_TWakeRule f)) y) (f y)/\nref (zR (c_TWakeRule (g_TWakeRule f)) y):=by
 obtain ⟨h0,h1,h2,h3,h4⟩:=h
 intro y hy
 match y,hy with
 | 0,_=>exact yJ h0
 | 1,_=>exact yJ h1
 | 2,_=>exact yJ h2
 | 3,_=>exact yJ h3
 | 4,_=>exact yJ h4
 | y+5,hy=>omega
theorem tQ (l:List TWakeRule) (x:Nat):enR c_TWakeRule l x 0 = .int .i64 ((gd l x).Id):=rfl
theorem tR (l:List TWakeRule) (x:Nat):enR c_TWakeRule l x 1 = .int .i64 ((gd l x).Start):=rfl
theorem tT (l:List TWakeRule) (x:Nat):enR c_TWakeRule l x 2 = .int .i64 ((gd l x).Every):=rfl
theorem tU (l:List TWakeRule) (x:Nat):enR c_TWakeRule l x 3 = .int .i64 ((gd l x).Length):=rfl
theorem tV (l:List TWakeRule) (x:Nat):enR c_TWakeRule l x 4 = .int .i64 ((gd l x).Group):=rfl
theorem qH (n:Nat) (l:List TWakeRule):Fit wG n (enR c_TWakeRule l)=True:=eq_true (Fit_enR kc_TWakeRule)
theorem kA (l:List TWakeRule):deR g_TWakeRule l.length (enR c_TWakeRule l)=l:=deR_enR gc_TWakeRule l
theorem qF (a:TWakeRule):TWakeRule.mk a.Id a.Start a.Every a.Length a.Group=a:=rfl
theorem wA_TWakeRule {v:AV} (h:aK 5 wG v):WkV (.agg (c_TWakeRule (g_TWakeRule (aL v)))) v/\nref (.agg (c_TWakeRule (g_TWakeRule (aL v)))):=aK_wk (f:=c_TWakeRule) (g:=g_TWakeRule) (fun r h=>w_TWakeRule h) rfl (by simp only [c_TWakeRule,nrefL,nref,and_self]) h
structure TComing where
 Wait:Int
 Cat:Int
 deriving Inhabited
def c_TComing (a:TComing):List AV:=[.int .i64 a.Wait,.int .u8 a.Cat]
def g_TComing (f:Nat->AV):TComing:=⟨iA (f 0),iA (f 1)⟩
def vR (f:Nat->AV):Prop:=iK .i64 (f 0)/\iK .u8 (f 1)
theorem gc_TComing (a:TComing):g_TComing (zR (c_TComing a))=a:=by
 simp only [g_TComing,c_TComing,zR,iA,bA,sA,lA]
theorem kc_TComing (a:TComing):vR (zR (c_TComing a)):=by
 simp only [vR,c_TComing,zR,iK,bK,sK,lK,or_true,true_and,and_true,and_self]
theorem nr_TComing (a:TComing):nrefL (c_TComing a):=by simp only [c_TComing,nrefL,nref,and_self]
instance:NOf c_TComing:=⟨fun a=>by simp only [c_TComing,wP,noro,and_self]⟩
instance:NRf c_TComing:=⟨nr_TComing⟩
instance:KCf vR c_TComing:=⟨kc_TComing⟩
theorem w_TComing {f:Nat->AV} (h:vR f):∀ y,y < 2->WkV (zR (c_TComing (g_TComing f)) y) (f y)/\nref (zR (c_TComing (g_TComing f)) y):=by
 obtain ⟨h0,h1⟩:=h
 intro y hy
 match y,hy with
 | 0,_=>exact yJ h0
 | 1,_=>exact yJ h1
 | y+2,hy=>omega
theorem dF (l:List TComing) (x:Nat):enR c_TComing l x 0 = .int .i64 ((gd l x).Wait):=rfl
theorem dG (l:List TComing) (x:Nat):enR c_TComing l x 1 = .int .u8 ((gd l x).Cat):=rfl
theorem bV (n:Nat) (l:List TComing):Fit vR n (enR c_TComing l)=True:=eq_true (Fit_enR kc_TComing)
theorem de_TComing (l:List TComing):deR g_TComing l.length (enR c_TComing l)=l:=deR_enR gc_TComing l
theorem bP (a:TComing):TComing.mk a.Wait a.Cat=a:=rfl
def vW (a:List TComing):List AV:=[.ro 2 a.length false (enR c_TComing a)]
def tE (f:Nat->AV):List TComing:=lA g_TComing (f 0)
def uL (f:Nat->AV):Prop:=lK vR 2 (f 0)
theorem gc_lTComing (a:List TComing):tE (zR (vW a))=a:=by
 simp only [tE,vW,zR,iA,bA,sA,lA,deR_enR gc_TComing]
theorem kc_lTComing (a:List TComing):uL (zR (vW a)):=by
 simp only [uL,vW,zR,iK,bK,sK,lK,or_true,true_and,and_true,and_self,Fit_enR kc_TComing]
theorem nr_lTComing (a:List TComing):nrefL (vW a):=by simp only [vW,nrefL,nref,and_self]
instance:NRf vW:=⟨nr_lTComing⟩
instance:KCf uL vW:=⟨kc_lTComing⟩
theorem fG (l:List (List TComing)) (x:Nat):enR vW l x 0 = .ro 2 (gd l x).length false (enR c_TComing (gd l x)):=rfl
theorem fQ (n:Nat) (l:List (List TComing)):Fit uL n (enR vW l)=True:=eq_true (Fit_enR kc_lTComing)
theorem eY (l:List (List TComing)):deR tE l.length (enR vW l)=l:=deR_enR gc_lTComing l
structure A6u8 where
 x0:Int
 x1:Int
 x2:Int
 x3:Int
 x4:Int
 x5:Int
 deriving Inhabited
def qO (a:A6u8):List AV:=[.int .u8 a.x0,.int .u8 a.x1,.int .u8 a.x2,.int .u8 a.x3,.int .u8 a.x4,.int .u8 a.x5]
def g_A6u8 (f:Nat->AV):A6u8:=⟨iA (f 0),iA (f 1),iA (f 2),iA (f 3),iA (f 4),iA (f 5)⟩
def k_A6u8 (f:Nat->AV):Prop:=iK .u8 (f 0)/\iK .u8 (f 1)/\iK .u8 (f 2)/\iK .u8 (f 3)/\iK .u8 (f 4)/\iK .u8 (f 5)
theorem gc_A6u8 (a:A6u8):g_A6u8 (zR (qO a))=a:=by
 simp only [g_A6u8,qO,zR,iA,bA,sA,lA]
theorem kc_A6u8 (a:A6u8):k_A6u8 (zR (qO a)):=by
 simp only [k_A6u8,qO,zR,iK,bK,sK,lK,or_true,true_and,and_true,and_self]
theorem nr_A6u8 (a:A6u8):nrefL (qO a):=by simp only [qO,nrefL,nref,and_self]
instance:NOf qO:=⟨fun a=>by simp only [qO,wP,noro,and_self]⟩
instance:NRf qO:=⟨nr_A6u8⟩
instance:KCf k_A6u8 qO:=⟨kc_A6u8⟩
theorem e_A6u8_0 (l:List A6u8) (x:Nat):enR qO l x 0 = .int .u8 ((gd l x).x0):=rfl
theorem e_A6u8_1 (l:List A6u8) (x:Nat):enR qO l x 1 = .int .u8 ((gd l x).x1):=rfl
theorem e_A6u8_2 (l:List A6u8) (x:Nat):enR qO l x 2 = .int .u8 ((gd l x).x2):=rfl
theorem e_A6u8_3 (l:List A6u8) (x:Nat):enR qO l x 3 = .int .u8 ((gd l x).x3):=rfl
theorem e_A6u8_4 (l:List A6u8) (x:Nat):enR qO l x 4 = .int .u8 ((gd l x).x4):=rfl
theorem e_A6u8_5 (l:List A6u8) (x:Nat):enR qO l x 5 = .int .u8 ((gd l x).x5):=rfl
theorem fit_A6u8 (n:Nat) (l:List A6u8):Fit k_A6u8 n (enR qO l)=True:=eq_true (Fit_enR kc_A6u8)
theorem de_A6u8 (l:List A6u8):deR g_A6u8 l.length (enR qO l)=l:=deR_enR gc_A6u8 l
theorem eta_A6u8 (a:A6u8):A6u8.mk a.x0 a.x1 a.x2 a.x3 a.x4 a.x5=a:=rfl
structure THeader where
 Kind:Int
 Sub:Int
 ToDs:Bool
 FromDs:Bool
 More:Bool
 Retry:Bool
 Sleep:Bool
 MoreData:Bool
 Protected:Bool
 Duration:Int
 A1:A6u8
 A2:A6u8
 A3:A6u8
 A4:A6u8
 Seq:Int
 Frag:Int
 Tid:Int
 Ack:Int
 Amsdu:Bool
 Eosp:Bool
 deriving Inhabited
def yC (a:THeader):List AV:=(.int .u8 a.Kind::.int .u8 a.Sub::.bool a.ToDs::.bool a.FromDs::.bool a.More::.bool a.Retry::.bool a.Sleep::.bool a.MoreData::.bool a.Protected::.int .i64 a.Duration::.int .u8 a.A1.x0::.int .u8 a.A1.x1::.int .u8 a.A1.x2::.int .u8 a.A1.x3::.int .u8 a.A1.x4::.int .u8 a.A1.x5::.int .u8 a.A2.x0::.int .u8 a.A2.x1::.int .u8 a.A2.x2::.int .u8 a.A2.x3::.int .u8 a.A2.x4::.int .u8 a.A2.x5::.int .u8 a.A3.x0::.int .u8 a.A3.x1::.int .u8 a.A3.x2::.int .u8 a.A3.x3::.int .u8 a.A3.x4::.int .u8 a.A3.x5::.int .u8 a.A4.x0::.int .u8 a.A4.x1::.int .u8 a.A4.x2::.int .u8 a.A4.x3::.int .u8 a.A4.x4::.int .u8 a.A4.x5::.int .i64 a.Seq::.int .i64 a.Frag::.int .i64 a.Tid::.int .u8 a.Ack::.bool a.Amsdu::.bool a.Eosp::[])
def fS (f:Nat->AV):THeader:=⟨iA (f 0),iA (f 1),bA (f 2),bA (f 3),bA (f 4),bA (f 5),bA (f 6),bA (f 7),bA (f 8),iA (f 9),⟨iA (f 10),iA (f 11),iA (f 12),iA (f 13),iA (f 14),iA (f 15)⟩,⟨iA (f 16),iA (f 17),iA (f 18),iA (f 19),iA (f 20),iA (f 21)⟩,⟨iA (f 22),iA (f 23),iA (f 24),iA (f 25),iA (f 26),iA (f 27)⟩,⟨iA (f 28),iA (f 29),iA (f 30),iA (f 31),iA (f 32),iA (f 33)⟩,iA (f 34),iA (f 35),iA (f 36),iA (f 37),bA (f 38),bA (f 39)⟩
def qL (f:Nat->AV):Prop:=iK .u8 (f 0)/\iK .u8 (f 1)/\bK (f 2)/\bK (f 3)/\bK (f 4)/\bK (f 5)/\bK (f 6)/\bK (f 7)/\bK (f 8)/\iK .i64 (f 9)/\iK .u8 (f 10)/\iK .u8 (f 11)/\iK .u8 (f 12)/\iK .u8 (f 13)/\iK .u8 (f 14)/\iK .u8 (f 15)/\iK .u8 (f 16)/\iK .u8 (f 17)/\iK .u8 (f 18)/\iK .u8 (f 19)/\iK .u8 (f 20)/\iK .u8 (f 21)/\iK .u8 (f 22)/\iK .u8 (f 23)/\iK .u8 (f 24)/\iK .u8 (f 25)/\iK .u8 (f 26)/\iK .u8 (f 27)/\iK .u8 (f 28)/\iK .u8 (f 29)/\iK .u8 (f 30)/\iK .u8 (f 31)/\iK .u8 (f 32)/\iK .u8 (f 33)/\iK .i64 (f 34)/\iK .i64 (f 35)/\iK .i64 (f 36)/\iK .u8 (f 37)/\bK (f 38)/\bK (f 39)
theorem gc_THeader (a:THeader):fS (zR (yC a))=a:=by
 simp only [fS,yC,zR,iA,bA,sA,lA]
theorem kc_THeader (a:THeader):qL (zR (yC a)):=by
 simp only [qL,yC,zR,iK,bK,sK,lK,or_true,true_and,and_true,and_self]
theorem nr_THeader (a:THeader):nrefL (yC a):=by simp only [yC,nrefL,nref,and_self]
instance:NOf yC:=⟨fun a=>by simp only [yC,wP,noro,and_self]⟩
instance:NRf yC:=⟨nr_THeader⟩
instance:KCf qL yC:=⟨kc_THeader⟩
theorem cO (l:List THeader) (x:Nat):enR yC l x 0 = .int .u8 ((gd l x).Kind):=rfl
theorem cP (l:List THeader) (x:Nat):enR yC l x 1 = .int .u8 ((gd l x).Sub):=rfl
theorem cQ (l:List THeader) (x:Nat):enR yC l x 2 = .bool ((gd l x).ToDs):=rfl
theorem cR (l:List THeader) (x:Nat):enR yC l x 3 = .bool ((gd l x).FromDs):=rfl
theorem cS (l:List THeader) (x:Nat):enR yC l x 4 = .bool ((gd l x).More):=rfl
theorem cT (l:List THeader) (x:Nat):enR yC l x 5 = .bool ((gd l x).Retry):=rfl
theorem cU (l:List THeader) (x:Nat):enR yC l x 6 = .bool ((gd l x).Sleep):=rfl
theorem cV (l:List THeader) (x:Nat):enR yC l x 7 = .bool ((gd l x).MoreData):=rfl
theorem cW (l:List THeader) (x:Nat):enR yC l x 8 = .bool ((gd l x).Protected):=rfl
theorem cX (l:List THeader) (x:Nat):enR yC l x 9 = .int .i64 ((gd l x).Duration):=rfl
theorem kD (l:List THeader) (x:Nat):enR yC l x 10 = .int .u8 (((gd l x).A1).x0):=rfl
theorem kE (l:List THeader) (x:Nat):enR yC l x 11 = .int .u8 (((gd l x).A1).x1):=rfl
theorem kF (l:List THeader) (x:Nat):enR yC l x 12 = .int .u8 (((gd l x).A1).x2):=rfl
theorem kG (l:List THeader) (x:Nat):enR yC l x 13 = .int .u8 (((gd l x).A1).x3):=rfl
theorem kH (l:List THeader) (x:Nat):enR yC l x 14 = .int .u8 (((gd l x).A1).x4):=rfl
theorem kI (l:List THeader) (x:Nat):enR yC l x 15 = .int .u8 (((gd l x).A1).x5):=rfl
theorem kK (l:List THeader) (x:Nat):enR yC l x 16 = .int .u8 (((gd l x).A2).x0):=rfl
theorem kN (l:List THeader) (x:Nat):enR yC l x 17 = .int .u8 (((gd l x).A2).x1):=rfl
theorem kP (l:List THeader) (x:Nat):enR yC l x 18 = .int .u8 (((gd l x).A2).x2):=rfl
theorem kQ (l:List THeader) (x:Nat):enR yC l x 19 = .int .u8 (((gd l x).A2).x3):=rfl
theorem kR (l:List THeader) (x:Nat):enR yC l x 20 = .int .u8 (((gd l x).A2).x4):=rfl
theorem kT (l:List THeader) (x:Nat):enR yC l x 21 = .int .u8 (((gd l x).A2).x5):=rfl
theorem kU (l:List THeader) (x:Nat):enR yC l x 22 = .int .u8 (((gd l x).A3).x0):=rfl
theorem kV (l:List THeader) (x:Nat):enR yC l x 23 = .int .u8 (((gd l x).A3).x1):=rfl
theorem kW (l:List THeader) (x:Nat):enR yC l x 24 = .int .u8 (((gd l x).A3).x2):=rfl
theorem kX (l:List THeader) (x:Nat):enR yC l x 25 = .int .u8 (((gd l x).A3).x3):=rfl
theorem kY (l:List THeader) (x:Nat):enR yC l x 26 = .int .u8 (((gd l x).A3).x4):=rfl
theorem kZ (l:List THeader) (x:Nat):enR yC l x 27 = .int .u8 (((gd l x).A3).x5):=rfl
theorem jA (l:List THeader) (x:Nat):enR yC l x 28 = .int .u8 (((gd l x).A4).x0):=rfl
theorem jB (l:List THeader) (x:Nat):enR yC l x 29 = .int .u8 (((gd l x).A4).x1):=rfl
theorem jC (l:List THeader) (x:Nat):enR yC l x 30 = .int .u8 (((gd l x).A4).x2):=rfl
theorem jD (l:List THeader) (x:Nat):enR yC l x 31 = .int .u8 (((gd l x).A4).x3):=rfl
theorem jE (l:List THeader) (x:Nat):enR yC l x 32 = .int .u8 (((gd l x).A4).x4):=rfl
theorem jF (l:List THeader) (x:Nat):enR yC l x 33 = .int .u8 (((gd l x).A4).x5):=rfl
theorem jG (l:List THeader) (x:Nat):enR yC l x 34 = .int .i64 ((gd l x).Seq):=rfl
theorem jH (l:List THeader) (x:Nat):enR yC l x 35 = .int .i64 ((gd l x).Frag):=rfl
theorem jI (l:List THeader) (x:Nat):enR yC l x 36 = .int .i64 ((gd l x).Tid):=rfl
theorem jJ (l:List THeader) (x:Nat):enR yC l x 37 = .int .u8 ((gd l x).Ack):=rfl
theorem jK (l:List THeader) (x:Nat):enR yC l x 38 = .bool ((gd l x).Amsdu):=rfl
theorem jL (l:List THeader) (x:Nat):enR yC l x 39 = .bool ((gd l x).Eosp):=rfl
theorem bW (n:Nat) (l:List THeader):Fit qL n (enR yC l)=True:=eq_true (Fit_enR kc_THeader)
theorem de_THeader (l:List THeader):deR fS l.length (enR yC l)=l:=deR_enR gc_THeader l
theorem bQ (a:THeader):THeader.mk a.Kind a.Sub a.ToDs a.FromDs a.More a.Retry a.Sleep a.MoreData a.Protected a.Duration a.A1 a.A2 a.A3 a.A4 a.Seq a.Frag a.Tid a.Ack a.Amsdu a.Eosp=a:=rfl
def c_lu8 (a:List Int):List AV:=[.ro 1 a.length false (enR yG a)]
def g_lu8 (f:Nat->AV):List Int:=lA vJ (f 0)
def k_lu8 (f:Nat->AV):Prop:=lK k_u8 1 (f 0)
theorem gc_lu8 (a:List Int):g_lu8 (zR (c_lu8 a))=a:=by
 simp only [g_lu8,c_lu8,zR,iA,bA,sA,lA,deR_enR gc_u8]
theorem kc_lu8 (a:List Int):k_lu8 (zR (c_lu8 a)):=by
 simp only [k_lu8,c_lu8,zR,iK,bK,sK,lK,or_true,true_and,and_true,and_self,Fit_enR kc_u8]
theorem nr_lu8 (a:List Int):nrefL (c_lu8 a):=by simp only [c_lu8,nrefL,nref,and_self]
instance:NRf c_lu8:=⟨nr_lu8⟩
instance:KCf k_lu8 c_lu8:=⟨kc_lu8⟩
theorem e_lu8_0 (l:List (List Int)) (x:Nat):enR c_lu8 l x 0 = .ro 1 (gd l x).length false (enR yG (gd l x)):=rfl
theorem fit_lu8 (n:Nat) (l:List (List Int)):Fit k_lu8 n (enR c_lu8 l)=True:=eq_true (Fit_enR kc_lu8)
theorem de_lu8 (l:List (List Int)):deR g_lu8 l.length (enR c_lu8 l)=l:=deR_enR gc_lu8 l
structure TFrame where
 Head:THeader
 Body:_root_.List Int
 deriving Inhabited
def zM (a:TFrame):List AV:=(.int .u8 a.Head.Kind::.int .u8 a.Head.Sub::.bool a.Head.ToDs::.bool a.Head.FromDs::.bool a.Head.More::.bool a.Head.Retry::.bool a.Head.Sleep::.bool a.Head.MoreData::.bool a.Head.Protected::.int .i64 a.Head.Duration::.int .u8 a.Head.A1.x0::.int .u8 a.Head.A1.x1::.int .u8 a.Head.A1.x2::.int .u8 a.Head.A1.x3::.int .u8 a.Head.A1.x4::.int .u8 a.Head.A1.x5::.int .u8 a.Head.A2.x0::.int .u8 a.Head.A2.x1::.int .u8 a.Head.A2.x2::.int .u8 a.Head.A2.x3::.int .u8 a.Head.A2.x4::.int .u8 a.Head.A2.x5::.int .u8 a.Head.A3.x0::.int .u8 a.Head.A3.x1::.int .u8 a.Head.A3.x2::.int .u8 a.Head.A3.x3::.int .u8 a.Head.A3.x4::.int .u8 a.Head.A3.x5::.int .u8 a.Head.A4.x0::.int .u8 a.Head.A4.x1::.int .u8 a.Head.A4.x2::.int .u8 a.Head.A4.x3::.int .u8 a.Head.A4.x4::.int .u8 a.Head.A4.x5::.int .i64 a.Head.Seq::.int .i64 a.Head.Frag::.int .i64 a.Head.Tid::.int .u8 a.Head.Ack::.bool a.Head.Amsdu::.bool a.Head.Eosp::.ro 1 a.Body.length false (enR yG a.Body)::[])
def zT (f:Nat->AV):TFrame:=⟨⟨iA (f 0),iA (f 1),bA (f 2),bA (f 3),bA (f 4),bA (f 5),bA (f 6),bA (f 7),bA (f 8),iA (f 9),⟨iA (f 10),iA (f 11),iA (f 12),iA (f 13),iA (f 14),iA (f 15)⟩,⟨iA (f 16),iA (f 17),iA (f 18),iA (f 19),iA (f 20),iA (f 21)⟩,⟨iA (f 22),iA (f 23),iA (f 24),iA (f 25),iA (f 26),iA (f 27)⟩,⟨iA (f 28),iA (f 29),iA (f 30),iA (f 31),iA (f 32),iA (f 33)⟩,iA (f 34),iA (f 35),iA (f 36),iA (f 37),bA (f 38),bA (f 39)⟩,lA vJ (f 40)⟩
def vK (f:Nat->AV):Prop:=iK .u8 (f 0)/\iK .u8 (f 1)/\bK (f 2)/\bK (f 3)/\bK (f 4)/\bK (f 5)/\bK (f 6)/\bK (f 7)/\bK (f 8)/\iK .i64 (f 9)/\iK .u8 (f 10)/\iK .u8 (f 11)/\iK .u8 (f 12)/\iK .u8 (f 13)/\iK .u8 (f 14)/\iK .u8 (f 15)/\iK .u8 (f 16)/\iK .u8 (f 17)/\iK .u8 (f 18)/\iK .u8 (f 19)/\iK .u8 (f 20)/\iK .u8 (f 21)/\iK .u8 (f 22)/\iK .u8 (f 23)/\iK .u8 (f 24)/\iK .u8 (f 25)/\iK .u8 (f 26)/\iK .u8 (f 27)/\iK .u8 (f 28)/\iK .u8 (f 29)/\iK .u8 (f 30)/\iK .u8 (f 31)/\iK .u8 (f 32)/\iK .u8 (f 33)/\iK .i64 (f 34)/\iK .i64 (f 35)/\iK .i64 (f 36)/\iK .u8 (f 37)/\bK (f 38)/\bK (f 39)/\lK k_u8 1 (f 40)
theorem gc_TFrame (a:TFrame):zT (zR (zM a))=a:=by
 simp only [zT,zM,zR,iA,bA,sA,lA,deR_enR gc_u8]
theorem kc_TFrame (a:TFrame):vK (zR (zM a)):=by
 simp only [vK,zM,zR,iK,bK,sK,lK,or_true,true_and,and_true,and_self,Fit_enR kc_u8]
theorem xP (a:TFrame):nrefL (zM a):=by simp only [zM,nrefL,nref,and_self]
instance:NRf zM:=⟨xP⟩
instance:KCf vK zM:=⟨kc_TFrame⟩
theorem w_TFrame {f:Nat->AV} (h:vK f):∀ y,y < 41->WkV (zR (zM (zT f)) y) (f y)/\nref (zR (zM (zT f)) y):=by
 obtain ⟨h0,h1,h2,h3,h4,h5,h6,h7,h8,h9,h10,h11,h12,h13,h14,h15,h16,h17,h18,h19,h20,h21,h22,h23,h24,h25,h26,h27,h28,h29,h30,h31,h32,h33,h34,h35,h36,h37,h38,h39,h40⟩:=h
 intro y hy
 match y,hy with
 | 0,_=>exact yJ h0
 | 1,_=>exact yJ h1
 | 2,_=>exact eT h2
 | 3,_=>exact eT h3
 | 4,_=>exact eT h4
 | 5,_=>exact eT h5
 | 6,_=>exact eT h6
 | 7,_=>exact eT h7
 | 8,_=>exact eT h8
 | 9,_=>exact yJ h9
 | 10,_=>exact yJ h10
 | 11,_=>exact yJ h11
 | 12,_=>exact yJ h12
 | 13,_=>exact yJ h13
 | 14,_=>exact yJ h14
 | 15,_=>exact yJ h15
 | 16,_=>exact yJ h16
 | 17,_=>exact yJ h17
 | 18,_=>exact yJ h18
 | 19,_=>exact yJ h19
 | 20,_=>exact yJ h20
 | 21,_=>exact yJ h21
 | 22,_=>exact yJ h22
 | 23,_=>exact yJ h23
 | 24,_=>exact yJ h24
 | 25,_=>exact yJ h25
 | 26,_=>exact yJ h26
 | 27,_=>exact yJ h27
 | 28,_=>exact yJ h28
 | 29,_=>exact yJ h29
 | 30,_=>exact yJ h30
 | 31,_=>exact yJ h31
 | 32,_=>exact yJ h32
 | 33,_=>exact yJ h33
 | 34,_=>exact yJ h34
 | 35,_=>exact yJ h35
 | 36,_=>exact yJ h36
 | 37,_=>exact yJ h37
 | 38,_=>exact eT h38
 | 39,_=>exact eT h39
 | 40,_=>exact uP (fun r h=>w_u8 h) h40
 | y+41,hy=>omega
theorem e_TFrame_0 (l:List TFrame) (x:Nat):enR zM l x 0 = .int .u8 (((gd l x).Head).Kind):=rfl
theorem e_TFrame_1 (l:List TFrame) (x:Nat):enR zM l x 1 = .int .u8 (((gd l x).Head).Sub):=rfl
theorem e_TFrame_2 (l:List TFrame) (x:Nat):enR zM l x 2 = .bool (((gd l x).Head).ToDs):=rfl
theorem e_TFrame_3 (l:List TFrame) (x:Nat):enR zM l x 3 = .bool (((gd l x).Head).FromDs):=rfl
theorem e_TFrame_4 (l:List TFrame) (x:Nat):enR zM l x 4 = .bool (((gd l x).Head).More):=rfl
theorem e_TFrame_5 (l:List TFrame) (x:Nat):enR zM l x 5 = .bool (((gd l x).Head).Retry):=rfl
theorem e_TFrame_6 (l:List TFrame) (x:Nat):enR zM l x 6 = .bool (((gd l x).Head).Sleep):=rfl
theorem e_TFrame_7 (l:List TFrame) (x:Nat):enR zM l x 7 = .bool (((gd l x).Head).MoreData):=rfl
theorem e_TFrame_8 (l:List TFrame) (x:Nat):enR zM l x 8 = .bool (((gd l x).Head).Protected):=rfl
theorem e_TFrame_9 (l:List TFrame) (x:Nat):enR zM l x 9 = .int .i64 (((gd l x).Head).Duration):=rfl
theorem dH (l:List TFrame) (x:Nat):enR zM l x 10 = .int .u8 ((((gd l x).Head).A1).x0):=rfl
theorem dI (l:List TFrame) (x:Nat):enR zM l x 11 = .int .u8 ((((gd l x).Head).A1).x1):=rfl
theorem dJ (l:List TFrame) (x:Nat):enR zM l x 12 = .int .u8 ((((gd l x).Head).A1).x2):=rfl
theorem dK (l:List TFrame) (x:Nat):enR zM l x 13 = .int .u8 ((((gd l x).Head).A1).x3):=rfl
theorem dL (l:List TFrame) (x:Nat):enR zM l x 14 = .int .u8 ((((gd l x).Head).A1).x4):=rfl
theorem dM (l:List TFrame) (x:Nat):enR zM l x 15 = .int .u8 ((((gd l x).Head).A1).x5):=rfl
theorem dN (l:List TFrame) (x:Nat):enR zM l x 16 = .int .u8 ((((gd l x).Head).A2).x0):=rfl
theorem dO (l:List TFrame) (x:Nat):enR zM l x 17 = .int .u8 ((((gd l x).Head).A2).x1):=rfl
theorem dP (l:List TFrame) (x:Nat):enR zM l x 18 = .int .u8 ((((gd l x).Head).A2).x2):=rfl
theorem dQ (l:List TFrame) (x:Nat):enR zM l x 19 = .int .u8 ((((gd l x).Head).A2).x3):=rfl
theorem dR (l:List TFrame) (x:Nat):enR zM l x 20 = .int .u8 ((((gd l x).Head).A2).x4):=rfl
theorem dT (l:List TFrame) (x:Nat):enR zM l x 21 = .int .u8 ((((gd l x).Head).A2).x5):=rfl
theorem dU (l:List TFrame) (x:Nat):enR zM l x 22 = .int .u8 ((((gd l x).Head).A3).x0):=rfl
theorem dV (l:List TFrame) (x:Nat):enR zM l x 23 = .int .u8 ((((gd l x).Head).A3).x1):=rfl
theorem dW (l:List TFrame) (x:Nat):enR zM l x 24 = .int .u8 ((((gd l x).Head).A3).x2):=rfl
theorem dX (l:List TFrame) (x:Nat):enR zM l x 25 = .int .u8 ((((gd l x).Head).A3).x3):=rfl
theorem dY (l:List TFrame) (x:Nat):enR zM l x 26 = .int .u8 ((((gd l x).Head).A3).x4):=rfl
theorem cA (l:List TFrame) (x:Nat):enR zM l x 27 = .int .u8 ((((gd l x).Head).A3).x5):=rfl
theorem cB (l:List TFrame) (x:Nat):enR zM l x 28 = .int .u8 ((((gd l x).Head).A4).x0):=rfl
theorem cC (l:List TFrame) (x:Nat):enR zM l x 29 = .int .u8 ((((gd l x).Head).A4).x1):=rfl
theorem cD (l:List TFrame) (x:Nat):enR zM l x 30 = .int .u8 ((((gd l x).Head).A4).x2):=rfl
theorem cE (l:List TFrame) (x:Nat):enR zM l x 31 = .int .u8 ((((gd l x).Head).A4).x3):=rfl
theorem cF (l:List TFrame) (x:Nat):enR zM l x 32 = .int .u8 ((((gd l x).Head).A4).x4):=rfl
theorem cG (l:List TFrame) (x:Nat):enR zM l x 33 = .int .u8 ((((gd l x).Head).A4).x5):=rfl
theorem cH (l:List TFrame) (x:Nat):enR zM l x 34 = .int .i64 (((gd l x).Head).Seq):=rfl
theorem cI (l:List TFrame) (x:Nat):enR zM l x 35 = .int .i64 (((gd l x).Head).Frag):=rfl
theorem cJ (l:List TFrame) (x:Nat):enR zM l x 36 = .int .i64 (((gd l x).Head).Tid):=rfl
theorem cK (l:List TFrame) (x:Nat):enR zM l x 37 = .int .u8 (((gd l x).Head).Ack):=rfl
theorem cL (l:List TFrame) (x:Nat):enR zM l x 38 = .bool (((gd l x).Head).Amsdu):=rfl
theorem cM (l:List TFrame) (x:Nat):enR zM l x 39 = .bool (((gd l x).Head).Eosp):=rfl
theorem cN (l:List TFrame) (x:Nat):enR zM l x 40 = .ro 1 ((gd l x).Body).length false (enR yG ((gd l x).Body)):=rfl
theorem fit_TFrame (n:Nat) (l:List TFrame):Fit vK n (enR zM l)=True:=eq_true (Fit_enR kc_TFrame)
theorem de_TFrame (l:List TFrame):deR zT l.length (enR zM l)=l:=deR_enR gc_TFrame l
theorem eta_TFrame (a:TFrame):TFrame.mk a.Head a.Body=a:=rfl
theorem wA_TFrame {v:AV} (h:aK 41 vK v):WkV (.agg (zM (zT (aL v)))) v/\nref (.agg (zM (zT (aL v)))):=aK_wk (f:=zM) (g:=zT) (fun r h=>w_TFrame h) rfl (by simp only [zM,nrefL,nref,and_self]) h
structure TStored where
 Cat:Int
 At:Int
 Frame:TFrame
 deriving Inhabited
def zD (a:TStored):List AV:=(.int .u8 a.Cat::.int .i64 a.At::.int .u8 a.Frame.Head.Kind::.int .u8 a.Frame.Head.Sub::.bool a.Frame.Head.ToDs::.bool a.Frame.Head.FromDs::.bool a.Frame.Head.More::.bool a.Frame.Head.Retry::.bool a.Frame.Head.Sleep::.bool a.Frame.Head.MoreData::.bool a.Frame.Head.Protected::.int .i64 a.Frame.Head.Duration::.int .u8 a.Frame.Head.A1.x0::.int .u8 a.Frame.Head.A1.x1::.int .u8 a.Frame.Head.A1.x2::.int .u8 a.Frame.Head.A1.x3::.int .u8 a.Frame.Head.A1.x4::.int .u8 a.Frame.Head.A1.x5::.int .u8 a.Frame.Head.A2.x0::.int .u8 a.Frame.Head.A2.x1::.int .u8 a.Frame.Head.A2.x2::.int .u8 a.Frame.Head.A2.x3::.int .u8 a.Frame.Head.A2.x4::.int .u8 a.Frame.Head.A2.x5::.int .u8 a.Frame.Head.A3.x0::.int .u8 a.Frame.Head.A3.x1::.int .u8 a.Frame.Head.A3.x2::.int .u8 a.Frame.Head.A3.x3::.int .u8 a.Frame.Head.A3.x4::.int .u8 a.Frame.Head.A3.x5::.int .u8 a.Frame.Head.A4.x0::.int .u8 a.Frame.Head.A4.x1::.int .u8 a.Frame.Head.A4.x2::.int .u8 a.Frame.Head.A4.x3::.int .u8 a.Frame.Head.A4.x4::.int .u8 a.Frame.Head.A4.x5::.int .i64 a.Frame.Head.Seq::.int .i64 a.Frame.Head.Frag::.int .i64 a.Frame.Head.Tid::.int .u8 a.Frame.Head.Ack::.bool a.Frame.Head.Amsdu::.bool a.Frame.Head.Eosp::.ro 1 a.Frame.Body.length false (enR yG a.Frame.Body)::[])
def yA (f:Nat->AV):TStored:=⟨iA (f 0),iA (f 1),⟨⟨iA (f 2),iA (f 3),bA (f 4),bA (f 5),bA (f 6),bA (f 7),bA (f 8),bA (f 9),bA (f 10),iA (f 11),⟨iA (f 12),iA (f 13),iA (f 14),iA (f 15),iA (f 16),iA (f 17)⟩,⟨iA (f 18),iA (f 19),iA (f 20),iA (f 21),iA (f 22),iA (f 23)⟩,⟨iA (f 24),iA (f 25),iA (f 26),iA (f 27),iA (f 28),iA (f 29)⟩,⟨iA (f 30),iA (f 31),iA (f 32),iA (f 33),iA (f 34),iA (f 35)⟩,iA (f 36),iA (f 37),iA (f 38),iA (f 39),bA (f 40),bA (f 41)⟩,lA vJ (f 42)⟩⟩
def xD (f:Nat->AV):Prop:=iK .u8 (f 0)/\iK .i64 (f 1)/\iK .u8 (f 2)/\iK .u8 (f 3)/\bK (f 4)/\bK (f 5)/\bK (f 6)/\bK (f 7)/\bK (f 8)/\bK (f 9)/\bK (f 10)/\iK .i64 (f 11)/\iK .u8 (f 12)/\iK .u8 (f 13)/\iK .u8 (f 14)/\iK .u8 (f 15)/\iK .u8 (f 16)/\iK .u8 (f 17)/\iK .u8 (f 18)/\iK .u8 (f 19)/\iK .u8 (f 20)/\iK .u8 (f 21)/\iK .u8 (f 22)/\iK .u8 (f 23)/\iK .u8 (f 24)/\iK .u8 (f 25)/\iK .u8 (f 26)/\iK .u8 (f 27)/\iK .u8 (f 28)/\iK .u8 (f 29)/\iK .u8 (f 30)/\iK .u8 (f 31)/\iK .u8 (f 32)/\iK .u8 (f 33)/\iK .u8 (f 34)/\iK .u8 (f 35)/\iK .i64 (f 36)/\iK .i64 (f 37)/\iK .i64 (f 38)/\iK .u8 (f 39)/\bK (f 40)/\bK (f 41)/\lK k_u8 1 (f 42)
theorem gc_TStored (a:TStored):yA (zR (zD a))=a:=by
 simp only [yA,zD,zR,iA,bA,sA,lA,deR_enR gc_u8]
theorem kc_TStored (a:TStored):xD (zR (zD a)):=by
 simp only [xD,zD,zR,iK,bK,sK,lK,or_true,true_and,and_true,and_self,Fit_enR kc_u8]
theorem yP (a:TStored):nrefL (zD a):=by simp only [zD,nrefL,nref,and_self]
instance:NRf zD:=⟨yP⟩
instance:KCf xD zD:=⟨kc_TStored⟩
theorem eA {f:Nat->AV} (h:xD f):∀ y,y < 43->WkV (zR (zD (yA f)) y) (f y)/\nref (zR (zD (yA f)) y):=by
 obtain ⟨h0,h1,h2,h3,h4,h5,h6,h7,h8,h9,h10,h11,h12,h13,h14,h15,h16,h17,h18,h19,h20,h21,h22,h23,h24,h25,h26,h27,h28,h29,h30,h31,h32,h33,h34,h35,h36,h37,h38,h39,h40,h41,h42⟩:=h
 intro y hy
 match y,hy with
 | 0,_=>exact yJ h0
 | 1,_=>exact yJ h1
 | 2,_=>exact yJ h2
 | 3,_=>exact yJ h3
 | 4,_=>exact eT h4
 | 5,_=>exact eT h5
 | 6,_=>exact eT h6
 | 7,_=>exact eT h7
 | 8,_=>exact eT h8
 | 9,_=>exact eT h9
 | 10,_=>exact eT h10
 | 11,_=>exact yJ h11
 | 12,_=>exact yJ h12
 | 13,_=>exact yJ h13
 | 14,_=>exact yJ h14
 | 15,_=>exact yJ h15
 | 16,_=>exact yJ h16
 | 17,_=>exact yJ h17
 | 18,_=>exact yJ h18
 | 19,_=>exact yJ h19
 | 20,_=>exact yJ h20
 | 21,_=>exact yJ h21
 | 22,_=>exact yJ h22
 | 23,_=>exact yJ h23
 | 24,_=>exact yJ h24
 | 25,_=>exact yJ h25
 | 26,_=>exact yJ h26
 | 27,_=>exact yJ h27
 | 28,_=>exact yJ h28
 | 29,_=>exact yJ h29
 | 30,_=>exact yJ h30
 | 31,_=>exact yJ h31
 | 32,_=>exact yJ h32
 | 33,_=>exact yJ h33
 | 34,_=>exact yJ h34
 | 35,_=>exact yJ h35
 | 36,_=>exact yJ h36
 | 37,_=>exact yJ h37
 | 38,_=>exact yJ h38
 | 39,_=>exact yJ h39
 | 40,_=>exact eT h40
 | 41,_=>exact eT h41
 | 42,_=>exact uP (fun r h=>w_u8 h) h42
 | y+43,hy=>omega
theorem cY (l:List TStored) (x:Nat):enR zD l x 0 = .int .u8 ((gd l x).Cat):=rfl
theorem cZ (l:List TStored) (x:Nat):enR zD l x 1 = .int .i64 ((gd l x).At):=rfl
theorem bC (l:List TStored) (x:Nat):enR zD l x 2 = .int .u8 ((((gd l x).Frame).Head).Kind):=rfl
theorem bD (l:List TStored) (x:Nat):enR zD l x 3 = .int .u8 ((((gd l x).Frame).Head).Sub):=rfl
theorem bE (l:List TStored) (x:Nat):enR zD l x 4 = .bool ((((gd l x).Frame).Head).ToDs):=rfl
theorem bF (l:List TStored) (x:Nat):enR zD l x 5 = .bool ((((gd l x).Frame).Head).FromDs):=rfl
theorem bG (l:List TStored) (x:Nat):enR zD l x 6 = .bool ((((gd l x).Frame).Head).More):=rfl
theorem bH (l:List TStored) (x:Nat):enR zD l x 7 = .bool ((((gd l x).Frame).Head).Retry):=rfl
theorem bI (l:List TStored) (x:Nat):enR zD l x 8 = .bool ((((gd l x).Frame).Head).Sleep):=rfl
theorem bJ (l:List TStored) (x:Nat):enR zD l x 9 = .bool ((((gd l x).Frame).Head).MoreData):=rfl
theorem jP (l:List TStored) (x:Nat):enR zD l x 10 = .bool ((((gd l x).Frame).Head).Protected):=rfl
theorem jQ (l:List TStored) (x:Nat):enR zD l x 11 = .int .i64 ((((gd l x).Frame).Head).Duration):=rfl
theorem jR (l:List TStored) (x:Nat):enR zD l x 12 = .int .u8 (((((gd l x).Frame).Head).A1).x0):=rfl
theorem jS (l:List TStored) (x:Nat):enR zD l x 13 = .int .u8 (((((gd l x).Frame).Head).A1).x1):=rfl
theorem jT (l:List TStored) (x:Nat):enR zD l x 14 = .int .u8 (((((gd l x).Frame).Head).A1).x2):=rfl
theorem jU (l:List TStored) (x:Nat):enR zD l x 15 = .int .u8 (((((gd l x).Frame).Head).A1).x3):=rfl
theorem jV (l:List TStored) (x:Nat):enR zD l x 16 = .int .u8 (((((gd l x).Frame).Head).A1).x4):=rfl
theorem jW (l:List TStored) (x:Nat):enR zD l x 17 = .int .u8 (((((gd l x).Frame).Head).A1).x5):=rfl
theorem jX (l:List TStored) (x:Nat):enR zD l x 18 = .int .u8 (((((gd l x).Frame).Head).A2).x0):=rfl
theorem jY (l:List TStored) (x:Nat):enR zD l x 19 = .int .u8 (((((gd l x).Frame).Head).A2).x1):=rfl
theorem jZ (l:List TStored) (x:Nat):enR zD l x 20 = .int .u8 (((((gd l x).Frame).Head).A2).x2):=rfl
theorem hU (l:List TStored) (x:Nat):enR zD l x 21 = .int .u8 (((((gd l x).Frame).Head).A2).x3):=rfl
theorem hZ (l:List TStored) (x:Nat):enR zD l x 22 = .int .u8 (((((gd l x).Frame).Head).A2).x4):=rfl
theorem gA (l:List TStored) (x:Nat):enR zD l x 23 = .int .u8 (((((gd l x).Frame).Head).A2).x5):=rfl
theorem gB (l:List TStored) (x:Nat):enR zD l x 24 = .int .u8 (((((gd l x).Frame).Head).A3).x0):=rfl
theorem gC (l:List TStored) (x:Nat):enR zD l x 25 = .int .u8 (((((gd l x).Frame).Head).A3).x1):=rfl
theorem gD (l:List TStored) (x:Nat):enR zD l x 26 = .int .u8 (((((gd l x).Frame).Head).A3).x2):=rfl
theorem gE (l:List TStored) (x:Nat):enR zD l x 27 = .int .u8 (((((gd l x).Frame).Head).A3).x3):=rfl
theorem gF (l:List TStored) (x:Nat):enR zD l x 28 = .int .u8 (((((gd l x).Frame).Head).A3).x4):=rfl
theorem gG (l:List TStored) (x:Nat):enR zD l x 29 = .int .u8 (((((gd l x).Frame).Head).A3).x5):=rfl
theorem gH (l:List TStored) (x:Nat):enR zD l x 30 = .int .u8 (((((gd l x).Frame).Head).A4).x0):=rfl
theorem gI (l:List TStored) (x:Nat):enR zD l x 31 = .int .u8 (((((gd l x).Frame).Head).A4).x1):=rfl
theorem gJ (l:List TStored) (x:Nat):enR zD l x 32 = .int .u8 (((((gd l x).Frame).Head).A4).x2):=rfl
theorem gK (l:List TStored) (x:Nat):enR zD l x 33 = .int .u8 (((((gd l x).Frame).Head).A4).x3):=rfl
theorem gL (l:List TStored) (x:Nat):enR zD l x 34 = .int .u8 (((((gd l x).Frame).Head).A4).x4):=rfl
theorem gM (l:List TStored) (x:Nat):enR zD l x 35 = .int .u8 (((((gd l x).Frame).Head).A4).x5):=rfl
theorem gN (l:List TStored) (x:Nat):enR zD l x 36 = .int .i64 ((((gd l x).Frame).Head).Seq):=rfl
theorem gO (l:List TStored) (x:Nat):enR zD l x 37 = .int .i64 ((((gd l x).Frame).Head).Frag):=rfl
theorem gP (l:List TStored) (x:Nat):enR zD l x 38 = .int .i64 ((((gd l x).Frame).Head).Tid):=rfl
theorem gQ (l:List TStored) (x:Nat):enR zD l x 39 = .int .u8 ((((gd l x).Frame).Head).Ack):=rfl
theorem gR (l:List TStored) (x:Nat):enR zD l x 40 = .bool ((((gd l x).Frame).Head).Amsdu):=rfl
theorem gS (l:List TStored) (x:Nat):enR zD l x 41 = .bool ((((gd l x).Frame).Head).Eosp):=rfl
theorem gT (l:List TStored) (x:Nat):enR zD l x 42 = .ro 1 (((gd l x).Frame).Body).length false (enR yG (((gd l x).Frame).Body)):=rfl
theorem bX (n:Nat) (l:List TStored):Fit xD n (enR zD l)=True:=eq_true (Fit_enR kc_TStored)
theorem de_TStored (l:List TStored):deR yA l.length (enR zD l)=l:=deR_enR gc_TStored l
theorem bR (a:TStored):TStored.mk a.Cat a.At a.Frame=a:=rfl
theorem wA_TStored {v:AV} (h:aK 43 xD v):WkV (.agg (zD (yA (aL v)))) v/\nref (.agg (zD (yA (aL v)))):=aK_wk (f:=zD) (g:=yA) (fun r h=>eA h) rfl (by simp only [zD,nrefL,nref,and_self]) h
def vX (a:List TStored):List AV:=[.ro 43 a.length false (enR zD a)]
def tF (f:Nat->AV):List TStored:=lA yA (f 0)
def uM (f:Nat->AV):Prop:=lK xD 43 (f 0)
theorem gc_lTStored (a:List TStored):tF (zR (vX a))=a:=by
 simp only [tF,vX,zR,iA,bA,sA,lA,deR_enR gc_TStored]
theorem kc_lTStored (a:List TStored):uM (zR (vX a)):=by
 simp only [uM,vX,zR,iK,bK,sK,lK,or_true,true_and,and_true,and_self,Fit_enR kc_TStored]
theorem nr_lTStored (a:List TStored):nrefL (vX a):=by simp only [vX,nrefL,nref,and_self]
instance:NRf vX:=⟨nr_lTStored⟩
instance:KCf uM vX:=⟨kc_lTStored⟩
theorem fH (l:List (List TStored)) (x:Nat):enR vX l x 0 = .ro 43 (gd l x).length false (enR zD (gd l x)):=rfl
theorem fR (n:Nat) (l:List (List TStored)):Fit uM n (enR vX l)=True:=eq_true (Fit_enR kc_lTStored)
theorem eZ (l:List (List TStored)):deR tF l.length (enR vX l)=l:=deR_enR gc_lTStored l
structure TSleeper where
 Aid:Int
 Asleep:Bool
 Held:_root_.List TStored
 deriving Inhabited
def zF (a:TSleeper):List AV:=[.int .i64 a.Aid,.bool a.Asleep,.ro 43 a.Held.length false (enR zD a.Held)]
def yI (f:Nat->AV):TSleeper:=⟨iA (f 0),bA (f 1),lA yA (f 2)⟩
def xL (f:Nat->AV):Prop:=iK .i64 (f 0)/\bK (f 1)/\lK xD 43 (f 2)
theorem gc_TSleeper (a:TSleeper):yI (zR (zF a))=a:=by
 simp only [yI,zF,zR,iA,bA,sA,lA,deR_enR gc_TStored]
theorem kc_TSleeper (a:TSleeper):xL (zR (zF a)):=by
 simp only [xL,zF,zR,iK,bK,sK,lK,or_true,true_and,and_true,and_self,Fit_enR kc_TStored]
theorem wU (a:TSleeper):nrefL (zF a):=by simp only [zF,nrefL,nref,and_self]
instance:NRf zF:=⟨wU⟩
instance:KCf xL zF:=⟨kc_TSleeper⟩
theorem w_TSleeper {f:Nat->AV} (h:xL f):∀ y,y < 3->WkV (zR (zF (yI f)) y) (f y)/\nref (zR (zF (yI f)) y):=by
 obtain ⟨h0,h1,h2⟩:=h
 intro y hy
 match y,hy with
 | 0,_=>exact yJ h0
 | 1,_=>exact eT h1
 | 2,_=>exact uP (fun r h=>eA h) h2
 | y+3,hy=>omega
theorem jM (l:List TSleeper) (x:Nat):enR zF l x 0 = .int .i64 ((gd l x).Aid):=rfl
theorem jN (l:List TSleeper) (x:Nat):enR zF l x 1 = .bool ((gd l x).Asleep):=rfl
theorem jO (l:List TSleeper) (x:Nat):enR zF l x 2 = .ro 43 ((gd l x).Held).length false (enR zD ((gd l x).Held)):=rfl
theorem fN (n:Nat) (l:List TSleeper):Fit xL n (enR zF l)=True:=eq_true (Fit_enR kc_TSleeper)
theorem eU (l:List TSleeper):deR yI l.length (enR zF l)=l:=deR_enR gc_TSleeper l
theorem fI (a:TSleeper):TSleeper.mk a.Aid a.Asleep a.Held=a:=rfl
theorem wA_TSleeper {v:AV} (h:aK 3 xL v):WkV (.agg (zF (yI (aL v)))) v/\nref (.agg (zF (yI (aL v)))):=aK_wk (f:=zF) (g:=yI) (fun r h=>w_TSleeper h) rfl (by simp only [zF,nrefL,nref,and_self]) h
def vA (a:List TSleeper):List AV:=[.ro 3 a.length false (enR zF a)]
def uF (f:Nat->AV):List TSleeper:=lA yI (f 0)
def vQ (f:Nat->AV):Prop:=lK xL 3 (f 0)
theorem gc_lTSleeper (a:List TSleeper):uF (zR (vA a))=a:=by
 simp only [uF,vA,zR,iA,bA,sA,lA,deR_enR gc_TSleeper]
theorem kc_lTSleeper (a:List TSleeper):vQ (zR (vA a)):=by
 simp only [vQ,vA,zR,iK,bK,sK,lK,or_true,true_and,and_true,and_self,Fit_enR kc_TSleeper]
theorem nr_lTSleeper (a:List TSleeper):nrefL (vA a):=by simp only [vA,nrefL,nref,and_self]
instance:NRf vA:=⟨nr_lTSleeper⟩
instance:KCf vQ vA:=⟨kc_lTSleeper⟩
theorem qE (l:List (List TSleeper)) (x:Nat):enR vA l x 0 = .ro 3 (gd l x).length false (enR zF (gd l x)):=rfl
theorem qI (n:Nat) (l:List (List TSleeper)):Fit vQ n (enR vA l)=True:=eq_true (Fit_enR kc_lTSleeper)
theorem kB (l:List (List TSleeper)):deR uF l.length (enR vA l)=l:=deR_enR gc_lTSleeper l
structure TBuffer where
 Limit:Int
 Stay:Int
 List:_root_.List TSleeper
 Group:_root_.List TStored
 deriving Inhabited
def wC (a:TBuffer):List AV:=[.int .i64 a.Limit,.int .i64 a.Stay,.ro 3 a.List.length false (enR zF a.List),.ro 43 a.Group.length false (enR zD a.Group)]
def zG (f:Nat->AV):TBuffer:=⟨iA (f 0),iA (f 1),lA yI (f 2),lA yA (f 3)⟩
def xS (f:Nat->AV):Prop:=iK .i64 (f 0)/\iK .i64 (f 1)/\lK xL 3 (f 2)/\lK xD 43 (f 3)
theorem gc_TBuffer (a:TBuffer):zG (zR (wC a))=a:=by
 simp only [zG,wC,zR,iA,bA,sA,lA,deR_enR gc_TSleeper,deR_enR gc_TStored]
theorem kc_TBuffer (a:TBuffer):xS (zR (wC a)):=by
 simp only [xS,wC,zR,iK,bK,sK,lK,or_true,true_and,and_true,and_self,Fit_enR kc_TSleeper,Fit_enR kc_TStored]
theorem nr_TBuffer (a:TBuffer):nrefL (wC a):=by simp only [wC,nrefL,nref,and_self]
instance:NRf wC:=⟨nr_TBuffer⟩
instance:KCf xS wC:=⟨kc_TBuffer⟩
theorem w_TBuffer {f:Nat->AV} (h:xS f):∀ y,y < 4->WkV (zR (wC (zG f)) y) (f y)/\nref (zR (wC (zG f)) y):=by
 obtain ⟨h0,h1,h2,h3⟩:=h
 intro y hy
 match y,hy with
 | 0,_=>exact yJ h0
 | 1,_=>exact yJ h1
 | 2,_=>exact uP (fun r h=>w_TSleeper h) h2
 | 3,_=>exact uP (fun r h=>eA h) h3
 | y+4,hy=>omega
theorem dB (l:List TBuffer) (x:Nat):enR wC l x 0 = .int .i64 ((gd l x).Limit):=rfl
theorem dC (l:List TBuffer) (x:Nat):enR wC l x 1 = .int .i64 ((gd l x).Stay):=rfl
theorem dD (l:List TBuffer) (x:Nat):enR wC l x 2 = .ro 3 ((gd l x).List).length false (enR zF ((gd l x).List)):=rfl
theorem dE (l:List TBuffer) (x:Nat):enR wC l x 3 = .ro 43 ((gd l x).Group).length false (enR zD ((gd l x).Group)):=rfl
theorem bU (n:Nat) (l:List TBuffer):Fit xS n (enR wC l)=True:=eq_true (Fit_enR kc_TBuffer)
theorem de_TBuffer (l:List TBuffer):deR zG l.length (enR wC l)=l:=deR_enR gc_TBuffer l
theorem bM (a:TBuffer):TBuffer.mk a.Limit a.Stay a.List a.Group=a:=rfl
theorem uO {v:AV} (h:aK 4 xS v):WkV (.agg (wC (zG (aL v)))) v/\nref (.agg (wC (zG (aL v)))):=aK_wk (f:=wC) (g:=zG) (fun r h=>w_TBuffer h) rfl (by simp only [wC,nrefL,nref,and_self]) h
def c_li64 (a:List Int):List AV:=[.ro 1 a.length false (enR yQ a)]
def g_li64 (f:Nat->AV):List Int:=lA wO (f 0)
def k_li64 (f:Nat->AV):Prop:=lK k_i64 1 (f 0)
theorem gc_li64 (a:List Int):g_li64 (zR (c_li64 a))=a:=by
 simp only [g_li64,c_li64,zR,iA,bA,sA,lA,deR_enR gc_i64]
theorem kc_li64 (a:List Int):k_li64 (zR (c_li64 a)):=by
 simp only [k_li64,c_li64,zR,iK,bK,sK,lK,or_true,true_and,and_true,and_self,Fit_enR kc_i64]
theorem nr_li64 (a:List Int):nrefL (c_li64 a):=by simp only [c_li64,nrefL,nref,and_self]
instance:NRf c_li64:=⟨nr_li64⟩
instance:KCf k_li64 c_li64:=⟨kc_li64⟩
theorem e_li64_0 (l:List (List Int)) (x:Nat):enR c_li64 l x 0 = .ro 1 (gd l x).length false (enR yQ (gd l x)):=rfl
theorem fit_li64 (n:Nat) (l:List (List Int)):Fit k_li64 n (enR c_li64 l)=True:=eq_true (Fit_enR kc_li64)
theorem de_li64 (l:List (List Int)):deR g_li64 l.length (enR c_li64 l)=l:=deR_enR gc_li64 l
structure A4i64 where
 x0:Int
 x1:Int
 x2:Int
 x3:Int
 deriving Inhabited
def uQ (a:A4i64):List AV:=[.int .i64 a.x0,.int .i64 a.x1,.int .i64 a.x2,.int .i64 a.x3]
def g_A4i64 (f:Nat->AV):A4i64:=⟨iA (f 0),iA (f 1),iA (f 2),iA (f 3)⟩
def k_A4i64 (f:Nat->AV):Prop:=iK .i64 (f 0)/\iK .i64 (f 1)/\iK .i64 (f 2)/\iK .i64 (f 3)
theorem gc_A4i64 (a:A4i64):g_A4i64 (zR (uQ a))=a:=by
 simp only [g_A4i64,uQ,zR,iA,bA,sA,lA]
theorem kc_A4i64 (a:A4i64):k_A4i64 (zR (uQ a)):=by
 simp only [k_A4i64,uQ,zR,iK,bK,sK,lK,or_true,true_and,and_true,and_self]
theorem nr_A4i64 (a:A4i64):nrefL (uQ a):=by simp only [uQ,nrefL,nref,and_self]
instance:NOf uQ:=⟨fun a=>by simp only [uQ,wP,noro,and_self]⟩
instance:NRf uQ:=⟨nr_A4i64⟩
instance:KCf k_A4i64 uQ:=⟨kc_A4i64⟩
theorem e_A4i64_0 (l:List A4i64) (x:Nat):enR uQ l x 0 = .int .i64 ((gd l x).x0):=rfl
theorem e_A4i64_1 (l:List A4i64) (x:Nat):enR uQ l x 1 = .int .i64 ((gd l x).x1):=rfl
theorem e_A4i64_2 (l:List A4i64) (x:Nat):enR uQ l x 2 = .int .i64 ((gd l x).x2):=rfl
theorem e_A4i64_3 (l:List A4i64) (x:Nat):enR uQ l x 3 = .int .i64 ((gd l x).x3):=rfl
theorem fit_A4i64 (n:Nat) (l:List A4i64):Fit k_A4i64 n (enR uQ l)=True:=eq_true (Fit_enR kc_A4i64)
theorem de_A4i64 (l:List A4i64):deR g_A4i64 l.length (enR uQ l)=l:=deR_enR gc_A4i64 l
theorem eta_A4i64 (a:A4i64):A4i64.mk a.x0 a.x1 a.x2 a.x3=a:=rfl
structure Tsleeper where
 rule:TWakeRule
 hold:TBuffer
 wake:Int
 fates:_root_.List Int
 wakes:Int
 last:A4i64
 cats:_root_.List Int
 deriving Inhabited
def yW (a:Tsleeper):List AV:=[.int .i64 a.rule.Id,.int .i64 a.rule.Start,.int .i64 a.rule.Every,.int .i64 a.rule.Length,.int .i64 a.rule.Group,.int .i64 a.hold.Limit,.int .i64 a.hold.Stay,.ro 3 a.hold.List.length false (enR zF a.hold.List),.ro 43 a.hold.Group.length false (enR zD a.hold.Group),.int .i64 a.wake,.ro 1 a.fates.length false (enR yQ a.fates),.int .i64 a.wakes,.int .i64 a.last.x0,.int .i64 a.last.x1,.int .i64 a.last.x2,.int .i64 a.last.x3,.ro 1 a.cats.length false (enR yG a.cats)]
def tD (f:Nat->AV):Tsleeper:=⟨⟨iA (f 0),iA (f 1),iA (f 2),iA (f 3),iA (f 4)⟩,⟨iA (f 5),iA (f 6),lA yI (f 7),lA yA (f 8)⟩,iA (f 9),lA wO (f 10),iA (f 11),⟨iA (f 12),iA (f 13),iA (f 14),iA (f 15)⟩,lA vJ (f 16)⟩
def uK (f:Nat->AV):Prop:=iK .i64 (f 0)/\iK .i64 (f 1)/\iK .i64 (f 2)/\iK .i64 (f 3)/\iK .i64 (f 4)/\iK .i64 (f 5)/\iK .i64 (f 6)/\lK xL 3 (f 7)/\lK xD 43 (f 8)/\iK .i64 (f 9)/\lK k_i64 1 (f 10)/\iK .i64 (f 11)/\iK .i64 (f 12)/\iK .i64 (f 13)/\iK .i64 (f 14)/\iK .i64 (f 15)/\lK k_u8 1 (f 16)
theorem gc_Tsleeper (a:Tsleeper):tD (zR (yW a))=a:=by
 simp only [tD,yW,zR,iA,bA,sA,lA,deR_enR gc_TSleeper,deR_enR gc_TStored,deR_enR gc_i64,deR_enR gc_u8]
theorem kc_Tsleeper (a:Tsleeper):uK (zR (yW a)):=by
 simp only [uK,yW,zR,iK,bK,sK,lK,or_true,true_and,and_true,and_self,Fit_enR kc_TSleeper,Fit_enR kc_TStored,Fit_enR kc_i64,Fit_enR kc_u8]
theorem nr_Tsleeper (a:Tsleeper):nrefL (yW a):=by simp only [yW,nrefL,nref,and_self]
instance:NRf yW:=⟨nr_Tsleeper⟩
instance:KCf uK yW:=⟨kc_Tsleeper⟩
theorem gW (l:List Tsleeper) (x:Nat):enR yW l x 0 = .int .i64 (((gd l x).rule).Id):=rfl
theorem gX (l:List Tsleeper) (x:Nat):enR yW l x 1 = .int .i64 (((gd l x).rule).Start):=rfl
theorem gY (l:List Tsleeper) (x:Nat):enR yW l x 2 = .int .i64 (((gd l x).rule).Every):=rfl
theorem gZ (l:List Tsleeper) (x:Nat):enR yW l x 3 = .int .i64 (((gd l x).rule).Length):=rfl
theorem fA (l:List Tsleeper) (x:Nat):enR yW l x 4 = .int .i64 (((gd l x).rule).Group):=rfl
theorem fB (l:List Tsleeper) (x:Nat):enR yW l x 5 = .int .i64 (((gd l x).hold).Limit):=rfl
theorem fC (l:List Tsleeper) (x:Nat):enR yW l x 6 = .int .i64 (((gd l x).hold).Stay):=rfl
theorem fD (l:List Tsleeper) (x:Nat):enR yW l x 7 = .ro 3 (((gd l x).hold).List).length false (enR zF (((gd l x).hold).List)):=rfl
theorem fE (l:List Tsleeper) (x:Nat):enR yW l x 8 = .ro 43 (((gd l x).hold).Group).length false (enR zD (((gd l x).hold).Group)):=rfl
theorem fF (l:List Tsleeper) (x:Nat):enR yW l x 9 = .int .i64 ((gd l x).wake):=rfl
theorem tW (l:List Tsleeper) (x:Nat):enR yW l x 10 = .ro 1 ((gd l x).fates).length false (enR yQ ((gd l x).fates)):=rfl
theorem tX (l:List Tsleeper) (x:Nat):enR yW l x 11 = .int .i64 ((gd l x).wakes):=rfl
theorem tY (l:List Tsleeper) (x:Nat):enR yW l x 12 = .int .i64 (((gd l x).last).x0):=rfl
theorem qA (l:List Tsleeper) (x:Nat):enR yW l x 13 = .int .i64 (((gd l x).last).x1):=rfl
theorem qB (l:List Tsleeper) (x:Nat):enR yW l x 14 = .int .i64 (((gd l x).last).x2):=rfl
theorem qC (l:List Tsleeper) (x:Nat):enR yW l x 15 = .int .i64 (((gd l x).last).x3):=rfl
theorem qD (l:List Tsleeper) (x:Nat):enR yW l x 16 = .ro 1 ((gd l x).cats).length false (enR yG ((gd l x).cats)):=rfl
theorem fP (n:Nat) (l:List Tsleeper):Fit uK n (enR yW l)=True:=eq_true (Fit_enR kc_Tsleeper)
theorem eW (l:List Tsleeper):deR tD l.length (enR yW l)=l:=deR_enR gc_Tsleeper l
theorem fK (a:Tsleeper):Tsleeper.mk a.rule a.hold a.wake a.fates a.wakes a.last a.cats=a:=rfl
def uS (a:List TFrame):List AV:=[.ro 41 a.length false (enR zM a)]
def fT (f:Nat->AV):List TFrame:=lA zT (f 0)
def qM (f:Nat->AV):Prop:=lK vK 41 (f 0)
theorem gc_lTFrame (a:List TFrame):fT (zR (uS a))=a:=by
 simp only [fT,uS,zR,iA,bA,sA,lA,deR_enR gc_TFrame]
theorem kc_lTFrame (a:List TFrame):qM (zR (uS a)):=by
 simp only [qM,uS,zR,iK,bK,sK,lK,or_true,true_and,and_true,and_self,Fit_enR kc_TFrame]
theorem nr_lTFrame (a:List TFrame):nrefL (uS a):=by simp only [uS,nrefL,nref,and_self]
instance:NRf uS:=⟨nr_lTFrame⟩
instance:KCf qM uS:=⟨kc_lTFrame⟩
theorem bL (l:List (List TFrame)) (x:Nat):enR uS l x 0 = .ro 41 (gd l x).length false (enR zM (gd l x)):=rfl
theorem bY (n:Nat) (l:List (List TFrame)):Fit qM n (enR uS l)=True:=eq_true (Fit_enR kc_lTFrame)
theorem de_lTFrame (l:List (List TFrame)):deR fT l.length (enR uS l)=l:=deR_enR gc_lTFrame l
structure TTraffic where
 Group:Bool
 Aids:_root_.List Int
 deriving Inhabited
def xX (a:TTraffic):List AV:=[.bool a.Group,.ro 1 a.Aids.length false (enR yQ a.Aids)]
def yO (f:Nat->AV):TTraffic:=⟨bA (f 0),lA wO (f 1)⟩
def wF (f:Nat->AV):Prop:=bK (f 0)/\lK k_i64 1 (f 1)
theorem gc_TTraffic (a:TTraffic):yO (zR (xX a))=a:=by
 simp only [yO,xX,zR,iA,bA,sA,lA,deR_enR gc_i64]
theorem kc_TTraffic (a:TTraffic):wF (zR (xX a)):=by
 simp only [wF,xX,zR,iK,bK,sK,lK,or_true,true_and,and_true,and_self,Fit_enR kc_i64]
theorem nr_TTraffic (a:TTraffic):nrefL (xX a):=by simp only [xX,nrefL,nref,and_self]
instance:NRf xX:=⟨nr_TTraffic⟩
instance:KCf wF xX:=⟨kc_TTraffic⟩
theorem w_TTraffic {f:Nat->AV} (h:wF f):∀ y,y < 2->WkV (zR (xX (yO f)) y) (f y)/\nref (zR (xX (yO f)) y):=by
 obtain ⟨h0,h1⟩:=h
 intro y hy
 match y,hy with
 | 0,_=>exact eT h0
 | 1,_=>exact uP (fun r h=>w_i64 h) h1
 | y+2,hy=>omega
theorem gU (l:List TTraffic) (x:Nat):enR xX l x 0 = .bool ((gd l x).Group):=rfl
theorem gV (l:List TTraffic) (x:Nat):enR xX l x 1 = .ro 1 ((gd l x).Aids).length false (enR yQ ((gd l x).Aids)):=rfl
theorem fO (n:Nat) (l:List TTraffic):Fit wF n (enR xX l)=True:=eq_true (Fit_enR kc_TTraffic)
theorem eV (l:List TTraffic):deR yO l.length (enR xX l)=l:=deR_enR gc_TTraffic l
theorem fJ (a:TTraffic):TTraffic.mk a.Group a.Aids=a:=rfl
theorem wA_TTraffic {v:AV} (h:aK 2 wF v):WkV (.agg (xX (yO (aL v)))) v/\nref (.agg (xX (yO (aL v)))):=aK_wk (f:=xX) (g:=yO) (fun r h=>w_TTraffic h) rfl (by simp only [xX,nrefL,nref,and_self]) h
def c_u64 (a:Int):List AV:=[.int .u64 a]
def g_u64 (f:Nat->AV):Int:=iA (f 0)
def k_u64 (f:Nat->AV):Prop:=iK .u64 (f 0)
theorem gc_u64 (a:Int):g_u64 (zR (c_u64 a))=a:=by
 simp only [g_u64,c_u64,zR,iA,bA,sA,lA]
theorem kc_u64 (a:Int):k_u64 (zR (c_u64 a)):=by
 simp only [k_u64,c_u64,zR,iK,bK,sK,lK,or_true,true_and,and_true,and_self]
theorem nr_u64 (a:Int):nrefL (c_u64 a):=by simp only [c_u64,nrefL,nref,and_self]
instance:NOf c_u64:=⟨fun a=>by simp only [c_u64,wP,noro,and_self]⟩
instance:NRf c_u64:=⟨nr_u64⟩
instance:KCf k_u64 c_u64:=⟨kc_u64⟩
theorem e_u64_0 (l:List Int) (x:Nat):enR c_u64 l x 0 = .int .u64 (gd l x):=rfl
theorem fit_u64 (n:Nat) (l:List Int):Fit k_u64 n (enR c_u64 l)=True:=eq_true (Fit_enR kc_u64)
theorem de_u64 (l:List Int):deR g_u64 l.length (enR c_u64 l)=l:=deR_enR gc_u64 l
structure A32u8 where
 x0:Int
 x1:Int
 x2:Int
 x3:Int
 x4:Int
 x5:Int
 x6:Int
 x7:Int
 x8:Int
 x9:Int
 x10:Int
 x11:Int
 x12:Int
 x13:Int
 x14:Int
 x15:Int
 x16:Int
 x17:Int
 x18:Int
 x19:Int
 x20:Int
 x21:Int
 x22:Int
 x23:Int
 x24:Int
 x25:Int
 x26:Int
 x27:Int
 x28:Int
 x29:Int
 x30:Int
 x31:Int
 deriving Inhabited
def yV (a:A32u8):List AV:=(.int .u8 a.x0::.int .u8 a.x1::.int .u8 a.x2::.int .u8 a.x3::.int .u8 a.x4::.int .u8 a.x5::.int .u8 a.x6::.int .u8 a.x7::.int .u8 a.x8::.int .u8 a.x9::.int .u8 a.x10::.int .u8 a.x11::.int .u8 a.x12::.int .u8 a.x13::.int .u8 a.x14::.int .u8 a.x15::.int .u8 a.x16::.int .u8 a.x17::.int .u8 a.x18::.int .u8 a.x19::.int .u8 a.x20::.int .u8 a.x21::.int .u8 a.x22::.int .u8 a.x23::.int .u8 a.x24::.int .u8 a.x25::.int .u8 a.x26::.int .u8 a.x27::.int .u8 a.x28::.int .u8 a.x29::.int .u8 a.x30::.int .u8 a.x31::[])
def g_A32u8 (f:Nat->AV):A32u8:=⟨iA (f 0),iA (f 1),iA (f 2),iA (f 3),iA (f 4),iA (f 5),iA (f 6),iA (f 7),iA (f 8),iA (f 9),iA (f 10),iA (f 11),iA (f 12),iA (f 13),iA (f 14),iA (f 15),iA (f 16),iA (f 17),iA (f 18),iA (f 19),iA (f 20),iA (f 21),iA (f 22),iA (f 23),iA (f 24),iA (f 25),iA (f 26),iA (f 27),iA (f 28),iA (f 29),iA (f 30),iA (f 31)⟩
def k_A32u8 (f:Nat->AV):Prop:=iK .u8 (f 0)/\iK .u8 (f 1)/\iK .u8 (f 2)/\iK .u8 (f 3)/\iK .u8 (f 4)/\iK .u8 (f 5)/\iK .u8 (f 6)/\iK .u8 (f 7)/\iK .u8 (f 8)/\iK .u8 (f 9)/\iK .u8 (f 10)/\iK .u8 (f 11)/\iK .u8 (f 12)/\iK .u8 (f 13)/\iK .u8 (f 14)/\iK .u8 (f 15)/\iK .u8 (f 16)/\iK .u8 (f 17)/\iK .u8 (f 18)/\iK .u8 (f 19)/\iK .u8 (f 20)/\iK .u8 (f 21)/\iK .u8 (f 22)/\iK .u8 (f 23)/\iK .u8 (f 24)/\iK .u8 (f 25)/\iK .u8 (f 26)/\iK .u8 (f 27)/\iK .u8 (f 28)/\iK .u8 (f 29)/\iK .u8 (f 30)/\iK .u8 (f 31)
theorem gc_A32u8 (a:A32u8):g_A32u8 (zR (yV a))=a:=by
 simp only [g_A32u8,yV,zR,iA,bA,sA,lA]
theorem kc_A32u8 (a:A32u8):k_A32u8 (zR (yV a)):=by
 simp only [k_A32u8,yV,zR,iK,bK,sK,lK,or_true,true_and,and_true,and_self]
theorem nr_A32u8 (a:A32u8):nrefL (yV a):=by simp only [yV,nrefL,nref,and_self]
instance:NOf yV:=⟨fun a=>by simp only [yV,wP,noro,and_self]⟩
instance:NRf yV:=⟨nr_A32u8⟩
instance:KCf k_A32u8 yV:=⟨kc_A32u8⟩
theorem e_A32u8_0 (l:List A32u8) (x:Nat):enR yV l x 0 = .int .u8 ((gd l x).x0):=rfl
theorem e_A32u8_1 (l:List A32u8) (x:Nat):enR yV l x 1 = .int .u8 ((gd l x).x1):=rfl
theorem e_A32u8_2 (l:List A32u8) (x:Nat):enR yV l x 2 = .int .u8 ((gd l x).x2):=rfl
theorem e_A32u8_3 (l:List A32u8) (x:Nat):enR yV l x 3 = .int .u8 ((gd l x).x3):=rfl
theorem e_A32u8_4 (l:List A32u8) (x:Nat):enR yV l x 4 = .int .u8 ((gd l x).x4):=rfl
theorem e_A32u8_5 (l:List A32u8) (x:Nat):enR yV l x 5 = .int .u8 ((gd l x).x5):=rfl
theorem e_A32u8_6 (l:List A32u8) (x:Nat):enR yV l x 6 = .int .u8 ((gd l x).x6):=rfl
theorem e_A32u8_7 (l:List A32u8) (x:Nat):enR yV l x 7 = .int .u8 ((gd l x).x7):=rfl
theorem e_A32u8_8 (l:List A32u8) (x:Nat):enR yV l x 8 = .int .u8 ((gd l x).x8):=rfl
theorem e_A32u8_9 (l:List A32u8) (x:Nat):enR yV l x 9 = .int .u8 ((gd l x).x9):=rfl
theorem e_A32u8_10 (l:List A32u8) (x:Nat):enR yV l x 10 = .int .u8 ((gd l x).x10):=rfl
theorem e_A32u8_11 (l:List A32u8) (x:Nat):enR yV l x 11 = .int .u8 ((gd l x).x11):=rfl
theorem e_A32u8_12 (l:List A32u8) (x:Nat):enR yV l x 12 = .int .u8 ((gd l x).x12):=rfl
theorem e_A32u8_13 (l:List A32u8) (x:Nat):enR yV l x 13 = .int .u8 ((gd l x).x13):=rfl
theorem e_A32u8_14 (l:List A32u8) (x:Nat):enR yV l x 14 = .int .u8 ((gd l x).x14):=rfl
theorem e_A32u8_15 (l:List A32u8) (x:Nat):enR yV l x 15 = .int .u8 ((gd l x).x15):=rfl
theorem e_A32u8_16 (l:List A32u8) (x:Nat):enR yV l x 16 = .int .u8 ((gd l x).x16):=rfl
theorem e_A32u8_17 (l:List A32u8) (x:Nat):enR yV l x 17 = .int .u8 ((gd l x).x17):=rfl
theorem e_A32u8_18 (l:List A32u8) (x:Nat):enR yV l x 18 = .int .u8 ((gd l x).x18):=rfl
theorem e_A32u8_19 (l:List A32u8) (x:Nat):enR yV l x 19 = .int .u8 ((gd l x).x19):=rfl
theorem e_A32u8_20 (l:List A32u8) (x:Nat):enR yV l x 20 = .int .u8 ((gd l x).x20):=rfl
theorem e_A32u8_21 (l:List A32u8) (x:Nat):enR yV l x 21 = .int .u8 ((gd l x).x21):=rfl
theorem e_A32u8_22 (l:List A32u8) (x:Nat):enR yV l x 22 = .int .u8 ((gd l x).x22):=rfl
theorem e_A32u8_23 (l:List A32u8) (x:Nat):enR yV l x 23 = .int .u8 ((gd l x).x23):=rfl
theorem e_A32u8_24 (l:List A32u8) (x:Nat):enR yV l x 24 = .int .u8 ((gd l x).x24):=rfl
theorem e_A32u8_25 (l:List A32u8) (x:Nat):enR yV l x 25 = .int .u8 ((gd l x).x25):=rfl
theorem e_A32u8_26 (l:List A32u8) (x:Nat):enR yV l x 26 = .int .u8 ((gd l x).x26):=rfl
theorem e_A32u8_27 (l:List A32u8) (x:Nat):enR yV l x 27 = .int .u8 ((gd l x).x27):=rfl
theorem e_A32u8_28 (l:List A32u8) (x:Nat):enR yV l x 28 = .int .u8 ((gd l x).x28):=rfl
theorem e_A32u8_29 (l:List A32u8) (x:Nat):enR yV l x 29 = .int .u8 ((gd l x).x29):=rfl
theorem e_A32u8_30 (l:List A32u8) (x:Nat):enR yV l x 30 = .int .u8 ((gd l x).x30):=rfl
theorem e_A32u8_31 (l:List A32u8) (x:Nat):enR yV l x 31 = .int .u8 ((gd l x).x31):=rfl
theorem fit_A32u8 (n:Nat) (l:List A32u8):Fit k_A32u8 n (enR yV l)=True:=eq_true (Fit_enR kc_A32u8)
theorem de_A32u8 (l:List A32u8):deR g_A32u8 l.length (enR yV l)=l:=deR_enR gc_A32u8 l
theorem eta_A32u8 (a:A32u8):A32u8.mk a.x0 a.x1 a.x2 a.x3 a.x4 a.x5 a.x6 a.x7 a.x8 a.x9 a.x10 a.x11 a.x12 a.x13 a.x14 a.x15 a.x16 a.x17 a.x18 a.x19 a.x20 a.x21 a.x22 a.x23 a.x24 a.x25 a.x26 a.x27 a.x28 a.x29 a.x30 a.x31=a:=rfl
def shT (t:TypeId):Option (List Leaf):=if t=23 then some [.i .i64,.i .i64,.i .i64,.i .i64,.i .i64] else if t=37 then some [.i .i64,.i .i64,.i .i64,.i .i64] else if t=42 then some [.i .i64,.i .u8] else if t=46 then some [.i .u8,.i .u8,.i .u8,.i .u8,.i .u8,.i .u8] else if t=49 then some (.i .u8::.i .u8::.b::.b::.b::.b::.b::.b::.b::.i .i64::.i .u8::.i .u8::.i .u8::.i .u8::.i .u8::.i .u8::.i .u8::.i .u8::.i .u8::.i .u8::.i .u8::.i .u8::.i .u8::.i .u8::.i .u8::.i .u8::.i .u8::.i .u8::.i .u8::.i .u8::.i .u8::.i .u8::.i .u8::.i .u8::.i .i64::.i .i64::.i .i64::.i .u8::.b::.b::[]) else if t=121 then some (.i .u8::.i .u8::.i .u8::.i .u8::.i .u8::.i .u8::.i .u8::.i .u8::.i .u8::.i .u8::.i .u8::.i .u8::.i .u8::.i .u8::.i .u8::.i .u8::.i .u8::.i .u8::.i .u8::.i .u8::.i .u8::.i .u8::.i .u8::.i .u8::.i .u8::.i .u8::.i .u8::.i .u8::.i .u8::.i .u8::.i .u8::.i .u8::[]) else none
theorem zL:ShOk Try.prog shT:=by
 refine shOk_of fun t l h=>?_
 unfold shT at h
 split at h
 ·rename_i ht;subst ht;injection h with h;subst h;exact ⟨by kernel_rfl,by kernel_rfl,by kernel_rfl⟩
 split at h
 ·rename_i ht;subst ht;injection h with h;subst h;exact ⟨by kernel_rfl,by kernel_rfl,by kernel_rfl⟩
 split at h
 ·rename_i ht;subst ht;injection h with h;subst h;exact ⟨by kernel_rfl,by kernel_rfl,by kernel_rfl⟩
 split at h
 ·rename_i ht;subst ht;injection h with h;subst h;exact ⟨by kernel_rfl,by kernel_rfl,by kernel_rfl⟩
 split at h
 ·rename_i ht;subst ht;injection h with h;subst h;exact ⟨by kernel_rfl,by kernel_rfl,by kernel_rfl⟩
 split at h
 ·rename_i ht;subst ht;injection h with h;subst h;exact ⟨by kernel_rfl,by kernel_rfl,by kernel_rfl⟩
 cases h
theorem shT_23:shT 23=some [.i .i64,.i .i64,.i .i64,.i .i64,.i .i64]:=rfl
theorem shT_37:shT 37=some [.i .i64,.i .i64,.i .i64,.i .i64]:=rfl
theorem shT_42:shT 42=some [.i .i64,.i .u8]:=rfl
theorem shT_46:shT 46=some [.i .u8,.i .u8,.i .u8,.i .u8,.i .u8,.i .u8]:=rfl
theorem shT_49:shT 49=some (.i .u8::.i .u8::.b::.b::.b::.b::.b::.b::.b::.i .i64::.i .u8::.i .u8::.i .u8::.i .u8::.i .u8::.i .u8::.i .u8::.i .u8::.i .u8::.i .u8::.i .u8::.i .u8::.i .u8::.i .u8::.i .u8::.i .u8::.i .u8::.i .u8::.i .u8::.i .u8::.i .u8::.i .u8::.i .u8::.i .u8::.i .i64::.i .i64::.i .i64::.i .u8::.b::.b::[]):=rfl
theorem shT_121:shT 121=some (.i .u8::.i .u8::.i .u8::.i .u8::.i .u8::.i .u8::.i .u8::.i .u8::.i .u8::.i .u8::.i .u8::.i .u8::.i .u8::.i .u8::.i .u8::.i .u8::.i .u8::.i .u8::.i .u8::.i .u8::.i .u8::.i .u8::.i .u8::.i .u8::.i .u8::.i .u8::.i .u8::.i .u8::.i .u8::.i .u8::.i .u8::.i .u8::[]):=rfl
theorem Fit_app {k:(Nat->AV)->Prop} {n p:Nat} {c d:Nat->Nat->AV} (h1:Fit k p c) (h2:Fit k (n - p) d):Fit k n (appC p c d):=fun x hx=>by
 by_cases h:x < p
 ·rw [show appC p c d x=c x from funext fun y=>if_pos h];exact h1 x h
 ·rw [show appC p c d x=d (x - p) from funext fun y=>if_neg h];exact h2 _ (by omega)
def ctNo:Ct:=tab []
theorem zA:yU Try.prog ctNo:=zX
theorem strE_u8 (s:ByteArray):strE s=enR yG (bytesL s):=strE_en (fun _=>rfl) s
theorem rg {ct:Ct} (C:yU Try.prog ct) {a:Code} {K:Kt} {t:List AV} {h:List ABlk} (hw:wpC Try.prog shT ct a K t h):Mean Try.prog a K t h:=wpC_sound zL C a K t h hw
theorem sq {ct:Ct} (C:yU Try.prog ct) {a b:Code} {K:Kt} {t:List AV} {h:List ABlk} (hw:wpC Try.prog shT ct a (kM Try.prog b K) t h):Mean Try.prog (.seq a b) K t h:=zH (wpC_sound zL C a _ t h hw)
theorem bsj {α β : Type} {x : α} {f : α -> Option β} {r : β} (h : (some x).bind f=some r) : ∃ w,x=w /\ f w=some r:=⟨x,rfl,h⟩
theorem nI {α : Type} {q : Int} {n : Nat} {k : Option α} {r : α} (h : need (inb q n) k=some r) : (0 <= q /\ q < n /\ q.toNat < n) /\ k=some r:=⟨uG.1 (yH.1 h).1,(yH.1 h).2⟩
theorem nC {α : Type} {b n : Nat} {k : Option α} {r : α} (h : need (capb b n) k=some r) : ((n : Int) * b <= 140737488355328 /\ n <= 140737488355328) /\ k=some r:=⟨tI.1 (yH.1 h).1,(yH.1 h).2⟩
theorem nS {α : Type} {p q : Int} {n : Nat} {k : Option α} {r : α} (h : need (slb p q n) k=some r) : (0 <= p /\ p <= q /\ q <= n) /\ k=some r:=⟨slb_iff.1 (yH.1 h).1,(yH.1 h).2⟩
theorem aI {A B : Prop} (a : A) (b : B) : A /\ B:=⟨a,b⟩
theorem lC {α : Type} {a : α} {l : List α} : (a::l).length=l.length+1:=rfl
theorem lN {α : Type} : ([] : List α).length=0:=rfl
theorem rS {α : Type} {a : α} {n : Nat} : List.replicate (n+1) a=a::List.replicate n a:=rfl
theorem rZ {α : Type} {a : α} : List.replicate 0 a=[]:=rfl
theorem aC {α : Type} {a : α} {l m : List α} : a::l ++ m=a::(l ++ m):=rfl
theorem aN {α : Type} {l : List α} : [] ++ l=l:=rfl
theorem tS {α : Type} {a : α} {l : List α} {n : Nat} : (a::l).take (n+1)=a::l.take n:=rfl
theorem tZ {α : Type} {l : List α} : l.take 0=[]:=rfl
theorem dS {α : Type} {a : α} {l : List α} {n : Nat} : (a::l).drop (n+1)=l.drop n:=rfl
theorem dZ {α : Type} {l : List α} : l.drop 0=l:=rfl
theorem oE {α : Type} {o : Option α} : o.isSome=true ↔ ∃ a,o=some a:=Option.isSome_iff_exists
end Go.Proofs.Ytooepgpfaaddbaa

/-
  Go's values as typed values.
-/
import Derived.Test.YtefiemaoacmdkaaT
import Derived.Test.YtefiemaoacmdkaaPm10
namespace Go.Proofs.Ytefiemaoacmdkaa
open Go.Am
set_option linter.unusedVariables false
set_option linter.unusedSimpArgs false
def xM (a:Int):List AV:=[.int .u8 a]
def jD (f:Nat->AV):Int:=iA (f 0)
def k_u8 (f:Nat->AV):Prop:=iK .u8 (f 0)
theorem gc_u8 (a:Int):jD (zL (xM a))=a:=by
 simp only [jD,xM,zL,iA,bA,sA,lA]
theorem kc_u8 (a:Int):k_u8 (zL (xM a)):=by
 simp only [k_u8,xM,zL,iK,bK,sK,lK,or_true,true_and,and_true,and_self]
theorem nr_u8 (a:Int):nrefL (xM a):=by simp only [xM,nrefL,nref,and_self]
instance:NOf xM:=⟨fun a=>by simp only [xM,tC,noro,and_self]⟩
instance:NRf xM:=⟨nr_u8⟩
instance:KCf k_u8 xM:=⟨kc_u8⟩
theorem w_u8 {f:Nat->AV} (h:k_u8 f):∀ y,y < 1->WkV (zL (xM (jD f)) y) (f y)/\nref (zL (xM (jD f)) y):=by
 have h0:=h
 intro y hy
 match y,hy with
 | 0,_=>exact yI h0
 | y+1,hy=>omega
theorem e_u8_0 (l:List Int) (x:Nat):enR xM l x 0 = .int .u8 (gd l x):=rfl
theorem fit_u8 (n:Nat) (l:List Int):Fit k_u8 n (enR xM l)=True:=eq_true (Fit_enR kc_u8)
theorem de_u8 (l:List Int):deR jD l.length (enR xM l)=l:=deR_enR gc_u8 l
def xF (a:Int):List AV:=[.int .i64 a]
def tT (f:Nat->AV):Int:=iA (f 0)
def cS (f:Nat->AV):Prop:=iK .i64 (f 0)
theorem gc_i64 (a:Int):tT (zL (xF a))=a:=by
 simp only [tT,xF,zL,iA,bA,sA,lA]
theorem kc_i64 (a:Int):cS (zL (xF a)):=by
 simp only [cS,xF,zL,iK,bK,sK,lK,or_true,true_and,and_true,and_self]
theorem vK (a:Int):nrefL (xF a):=by simp only [xF,nrefL,nref,and_self]
instance:NOf xF:=⟨fun a=>by simp only [xF,tC,noro,and_self]⟩
instance:NRf xF:=⟨vK⟩
instance:KCf cS xF:=⟨kc_i64⟩
theorem w_i64 {f:Nat->AV} (h:cS f):∀ y,y < 1->WkV (zL (xF (tT f)) y) (f y)/\nref (zL (xF (tT f)) y):=by
 have h0:=h
 intro y hy
 match y,hy with
 | 0,_=>exact yI h0
 | y+1,hy=>omega
theorem e_i64_0 (l:List Int) (x:Nat):enR xF l x 0 = .int .i64 (gd l x):=rfl
theorem fit_i64 (n:Nat) (l:List Int):Fit cS n (enR xF l)=True:=eq_true (Fit_enR kc_i64)
theorem de_i64 (l:List Int):deR tT l.length (enR xF l)=l:=deR_enR gc_i64 l
def c_b (a:Bool):List AV:=[.bool a]
def g_b (f:Nat->AV):Bool:=bA (f 0)
def k_b (f:Nat->AV):Prop:=bK (f 0)
theorem gc_b (a:Bool):g_b (zL (c_b a))=a:=by
 simp only [g_b,c_b,zL,iA,bA,sA,lA]
theorem kc_b (a:Bool):k_b (zL (c_b a)):=by
 simp only [k_b,c_b,zL,iK,bK,sK,lK,or_true,true_and,and_true,and_self]
theorem nr_b (a:Bool):nrefL (c_b a):=by simp only [c_b,nrefL,nref,and_self]
instance:NOf c_b:=⟨fun a=>by simp only [c_b,tC,noro,and_self]⟩
instance:NRf c_b:=⟨nr_b⟩
instance:KCf k_b c_b:=⟨kc_b⟩
theorem e_b_0 (l:List Bool) (x:Nat):enR c_b l x 0 = .bool (gd l x):=rfl
theorem fit_b (n:Nat) (l:List Bool):Fit k_b n (enR c_b l)=True:=eq_true (Fit_enR kc_b)
theorem de_b (l:List Bool):deR g_b l.length (enR c_b l)=l:=deR_enR gc_b l
def c_s (a:ByteArray):List AV:=[.str a]
def g_s (f:Nat->AV):ByteArray:=sA (f 0)
def k_s (f:Nat->AV):Prop:=sK (f 0)
theorem gc_s (a:ByteArray):g_s (zL (c_s a))=a:=by
 simp only [g_s,c_s,zL,iA,bA,sA,lA]
theorem kc_s (a:ByteArray):k_s (zL (c_s a)):=by
 simp only [k_s,c_s,zL,iK,bK,sK,lK,or_true,true_and,and_true,and_self]
theorem nr_s (a:ByteArray):nrefL (c_s a):=by simp only [c_s,nrefL,nref,and_self]
instance:NOf c_s:=⟨fun a=>by simp only [c_s,tC,noro,and_self]⟩
instance:NRf c_s:=⟨nr_s⟩
instance:KCf k_s c_s:=⟨kc_s⟩
theorem e_s_0 (l:List ByteArray) (x:Nat):enR c_s l x 0 = .str (gd l x):=rfl
theorem fit_s (n:Nat) (l:List ByteArray):Fit k_s n (enR c_s l)=True:=eq_true (Fit_enR kc_s)
theorem de_s (l:List ByteArray):deR g_s l.length (enR c_s l)=l:=deR_enR gc_s l
structure A6u8 where
 x0:Int
 x1:Int
 x2:Int
 x3:Int
 x4:Int
 x5:Int
 deriving Inhabited
def uP (a:A6u8):List AV:=[.int .u8 a.x0,.int .u8 a.x1,.int .u8 a.x2,.int .u8 a.x3,.int .u8 a.x4,.int .u8 a.x5]
def g_A6u8 (f:Nat->AV):A6u8:=⟨iA (f 0),iA (f 1),iA (f 2),iA (f 3),iA (f 4),iA (f 5)⟩
def k_A6u8 (f:Nat->AV):Prop:=iK .u8 (f 0)/\iK .u8 (f 1)/\iK .u8 (f 2)/\iK .u8 (f 3)/\iK .u8 (f 4)/\iK .u8 (f 5)
theorem gc_A6u8 (a:A6u8):g_A6u8 (zL (uP a))=a:=by
 simp only [g_A6u8,uP,zL,iA,bA,sA,lA]
theorem kc_A6u8 (a:A6u8):k_A6u8 (zL (uP a)):=by
 simp only [k_A6u8,uP,zL,iK,bK,sK,lK,or_true,true_and,and_true,and_self]
theorem nr_A6u8 (a:A6u8):nrefL (uP a):=by simp only [uP,nrefL,nref,and_self]
instance:NOf uP:=⟨fun a=>by simp only [uP,tC,noro,and_self]⟩
instance:NRf uP:=⟨nr_A6u8⟩
instance:KCf k_A6u8 uP:=⟨kc_A6u8⟩
theorem e_A6u8_0 (l:List A6u8) (x:Nat):enR uP l x 0 = .int .u8 ((gd l x).x0):=rfl
theorem e_A6u8_1 (l:List A6u8) (x:Nat):enR uP l x 1 = .int .u8 ((gd l x).x1):=rfl
theorem e_A6u8_2 (l:List A6u8) (x:Nat):enR uP l x 2 = .int .u8 ((gd l x).x2):=rfl
theorem e_A6u8_3 (l:List A6u8) (x:Nat):enR uP l x 3 = .int .u8 ((gd l x).x3):=rfl
theorem e_A6u8_4 (l:List A6u8) (x:Nat):enR uP l x 4 = .int .u8 ((gd l x).x4):=rfl
theorem e_A6u8_5 (l:List A6u8) (x:Nat):enR uP l x 5 = .int .u8 ((gd l x).x5):=rfl
theorem fit_A6u8 (n:Nat) (l:List A6u8):Fit k_A6u8 n (enR uP l)=True:=eq_true (Fit_enR kc_A6u8)
theorem de_A6u8 (l:List A6u8):deR g_A6u8 l.length (enR uP l)=l:=deR_enR gc_A6u8 l
theorem eta_A6u8 (a:A6u8):A6u8.mk a.x0 a.x1 a.x2 a.x3 a.x4 a.x5=a:=rfl
structure THeader where
 Kind:Int
 Sub:Int
 ToDs:Bool
 FromDs:Bool
 More:Bool
 Retry:Bool
 Sleep:Bool
 MoreData:Bool
 Protected:Bool
 Duration:Int
 A1:A6u8
 A2:A6u8
 A3:A6u8
 A4:A6u8
 Seq:Int
 Frag:Int
 Tid:Int
 Ack:Int
 Amsdu:Bool
 Eosp:Bool
 deriving Inhabited
def yJ (a:THeader):List AV:=(.int .u8 a.Kind::.int .u8 a.Sub::.bool a.ToDs::.bool a.FromDs::.bool a.More::.bool a.Retry::.bool a.Sleep::.bool a.MoreData::.bool a.Protected::.int .i64 a.Duration::.int .u8 a.A1.x0::.int .u8 a.A1.x1::.int .u8 a.A1.x2::.int .u8 a.A1.x3::.int .u8 a.A1.x4::.int .u8 a.A1.x5::.int .u8 a.A2.x0::.int .u8 a.A2.x1::.int .u8 a.A2.x2::.int .u8 a.A2.x3::.int .u8 a.A2.x4::.int .u8 a.A2.x5::.int .u8 a.A3.x0::.int .u8 a.A3.x1::.int .u8 a.A3.x2::.int .u8 a.A3.x3::.int .u8 a.A3.x4::.int .u8 a.A3.x5::.int .u8 a.A4.x0::.int .u8 a.A4.x1::.int .u8 a.A4.x2::.int .u8 a.A4.x3::.int .u8 a.A4.x4::.int .u8 a.A4.x5::.int .i64 a.Seq::.int .i64 a.Frag::.int .i64 a.Tid::.int .u8 a.Ack::.bool a.Amsdu::.bool a.Eosp::[])
def bV (f:Nat->AV):THeader:=⟨iA (f 0),iA (f 1),bA (f 2),bA (f 3),bA (f 4),bA (f 5),bA (f 6),bA (f 7),bA (f 8),iA (f 9),⟨iA (f 10),iA (f 11),iA (f 12),iA (f 13),iA (f 14),iA (f 15)⟩,⟨iA (f 16),iA (f 17),iA (f 18),iA (f 19),iA (f 20),iA (f 21)⟩,⟨iA (f 22),iA (f 23),iA (f 24),iA (f 25),iA (f 26),iA (f 27)⟩,⟨iA (f 28),iA (f 29),iA (f 30),iA (f 31),iA (f 32),iA (f 33)⟩,iA (f 34),iA (f 35),iA (f 36),iA (f 37),bA (f 38),bA (f 39)⟩
def eO (f:Nat->AV):Prop:=iK .u8 (f 0)/\iK .u8 (f 1)/\bK (f 2)/\bK (f 3)/\bK (f 4)/\bK (f 5)/\bK (f 6)/\bK (f 7)/\bK (f 8)/\iK .i64 (f 9)/\iK .u8 (f 10)/\iK .u8 (f 11)/\iK .u8 (f 12)/\iK .u8 (f 13)/\iK .u8 (f 14)/\iK .u8 (f 15)/\iK .u8 (f 16)/\iK .u8 (f 17)/\iK .u8 (f 18)/\iK .u8 (f 19)/\iK .u8 (f 20)/\iK .u8 (f 21)/\iK .u8 (f 22)/\iK .u8 (f 23)/\iK .u8 (f 24)/\iK .u8 (f 25)/\iK .u8 (f 26)/\iK .u8 (f 27)/\iK .u8 (f 28)/\iK .u8 (f 29)/\iK .u8 (f 30)/\iK .u8 (f 31)/\iK .u8 (f 32)/\iK .u8 (f 33)/\iK .i64 (f 34)/\iK .i64 (f 35)/\iK .i64 (f 36)/\iK .u8 (f 37)/\bK (f 38)/\bK (f 39)
theorem gc_THeader (a:THeader):bV (zL (yJ a))=a:=by
 simp only [bV,yJ,zL,iA,bA,sA,lA]
theorem kc_THeader (a:THeader):eO (zL (yJ a)):=by
 simp only [eO,yJ,zL,iK,bK,sK,lK,or_true,true_and,and_true,and_self]
theorem nr_THeader (a:THeader):nrefL (yJ a):=by simp only [yJ,nrefL,nref,and_self]
instance:NOf yJ:=⟨fun a=>by simp only [yJ,tC,noro,and_self]⟩
instance:NRf yJ:=⟨nr_THeader⟩
instance:KCf eO yJ:=⟨kc_THeader⟩
theorem e_THeader_0 (l:List THeader) (x:Nat):enR yJ l x 0 = .int .u8 ((gd l x).Kind):=rfl
theorem e_THeader_1 (l:List THeader) (x:Nat):enR yJ l x 1 = .int .u8 ((gd l x).Sub):=rfl
theorem e_THeader_2 (l:List THeader) (x:Nat):enR yJ l x 2 = .bool ((gd l x).ToDs):=rfl
theorem e_THeader_3 (l:List THeader) (x:Nat):enR yJ l x 3 = .bool ((gd l x).FromDs):=rfl
theorem e_THeader_4 (l:List THeader) (x:Nat):enR yJ l x 4 = .bool ((gd l x).More):=rfl
theorem e_THeader_5 (l:List THeader) (x:Nat):enR yJ l x 5 = .bool ((gd l x).Retry):=rfl
theorem e_THeader_6 (l:List THeader) (x:Nat):enR yJ l x 6 = .bool ((gd l x).Sleep):=rfl
theorem e_THeader_7 (l:List THeader) (x:Nat):enR yJ l x 7 = .bool ((gd l x).MoreData):=rfl
theorem e_THeader_8 (l:List THeader) (x:Nat):enR yJ l x 8 = .bool ((gd l x).Protected):=rfl
theorem e_THeader_9 (l:List THeader) (x:Nat):enR yJ l x 9 = .int .i64 ((gd l x).Duration):=rfl
theorem e_THeader_10 (l:List THeader) (x:Nat):enR yJ l x 10 = .int .u8 (((gd l x).A1).x0):=rfl
theorem e_THeader_11 (l:List THeader) (x:Nat):enR yJ l x 11 = .int .u8 (((gd l x).A1).x1):=rfl
theorem e_THeader_12 (l:List THeader) (x:Nat):enR yJ l x 12 = .int .u8 (((gd l x).A1).x2):=rfl
theorem e_THeader_13 (l:List THeader) (x:Nat):enR yJ l x 13 = .int .u8 (((gd l x).A1).x3):=rfl
theorem e_THeader_14 (l:List THeader) (x:Nat):enR yJ l x 14 = .int .u8 (((gd l x).A1).x4):=rfl
theorem e_THeader_15 (l:List THeader) (x:Nat):enR yJ l x 15 = .int .u8 (((gd l x).A1).x5):=rfl
theorem e_THeader_16 (l:List THeader) (x:Nat):enR yJ l x 16 = .int .u8 (((gd l x).A2).x0):=rfl
theorem e_THeader_17 (l:List THeader) (x:Nat):enR yJ l x 17 = .int .u8 (((gd l x).A2).x1):=rfl
theorem e_THeader_18 (l:List THeader) (x:Nat):enR yJ l x 18 = .int .u8 (((gd l x).A2).x2):=rfl
theorem e_THeader_19 (l:List THeader) (x:Nat):enR yJ l x 19 = .int .u8 (((gd l x).A2).x3):=rfl
theorem e_THeader_20 (l:List THeader) (x:Nat):enR yJ l x 20 = .int .u8 (((gd l x).A2).x4):=rfl
theorem e_THeader_21 (l:List THeader) (x:Nat):enR yJ l x 21 = .int .u8 (((gd l x).A2).x5):=rfl
theorem e_THeader_22 (l:List THeader) (x:Nat):enR yJ l x 22 = .int .u8 (((gd l x).A3).x0):=rfl
theorem e_THeader_23 (l:List THeader) (x:Nat):enR yJ l x 23 = .int .u8 (((gd l x).A3).x1):=rfl
theorem e_THeader_24 (l:List THeader) (x:Nat):enR yJ l x 24 = .int .u8 (((gd l x).A3).x2):=rfl
theorem e_THeader_25 (l:List THeader) (x:Nat):enR yJ l x 25 = .int .u8 (((gd l x).A3).x3):=rfl
theorem e_THeader_26 (l:List THeader) (x:Nat):enR yJ l x 26 = .int .u8 (((gd l x).A3).x4):=rfl
theorem e_THeader_27 (l:List THeader) (x:Nat):enR yJ l x 27 = .int .u8 (((gd l x).A3).x5):=rfl
theorem e_THeader_28 (l:List THeader) (x:Nat):enR yJ l x 28 = .int .u8 (((gd l x).A4).x0):=rfl
theorem e_THeader_29 (l:List THeader) (x:Nat):enR yJ l x 29 = .int .u8 (((gd l x).A4).x1):=rfl
theorem e_THeader_30 (l:List THeader) (x:Nat):enR yJ l x 30 = .int .u8 (((gd l x).A4).x2):=rfl
theorem e_THeader_31 (l:List THeader) (x:Nat):enR yJ l x 31 = .int .u8 (((gd l x).A4).x3):=rfl
theorem e_THeader_32 (l:List THeader) (x:Nat):enR yJ l x 32 = .int .u8 (((gd l x).A4).x4):=rfl
theorem e_THeader_33 (l:List THeader) (x:Nat):enR yJ l x 33 = .int .u8 (((gd l x).A4).x5):=rfl
theorem e_THeader_34 (l:List THeader) (x:Nat):enR yJ l x 34 = .int .i64 ((gd l x).Seq):=rfl
theorem e_THeader_35 (l:List THeader) (x:Nat):enR yJ l x 35 = .int .i64 ((gd l x).Frag):=rfl
theorem e_THeader_36 (l:List THeader) (x:Nat):enR yJ l x 36 = .int .i64 ((gd l x).Tid):=rfl
theorem e_THeader_37 (l:List THeader) (x:Nat):enR yJ l x 37 = .int .u8 ((gd l x).Ack):=rfl
theorem e_THeader_38 (l:List THeader) (x:Nat):enR yJ l x 38 = .bool ((gd l x).Amsdu):=rfl
theorem e_THeader_39 (l:List THeader) (x:Nat):enR yJ l x 39 = .bool ((gd l x).Eosp):=rfl
theorem fit_THeader (n:Nat) (l:List THeader):Fit eO n (enR yJ l)=True:=eq_true (Fit_enR kc_THeader)
theorem de_THeader (l:List THeader):deR bV l.length (enR yJ l)=l:=deR_enR gc_THeader l
theorem eta_THeader (a:THeader):THeader.mk a.Kind a.Sub a.ToDs a.FromDs a.More a.Retry a.Sleep a.MoreData a.Protected a.Duration a.A1 a.A2 a.A3 a.A4 a.Seq a.Frag a.Tid a.Ack a.Amsdu a.Eosp=a:=rfl
def cJ (a:List Int):List AV:=[.ro 1 a.length false (enR xM a)]
def g_lu8 (f:Nat->AV):List Int:=lA jD (f 0)
def k_lu8 (f:Nat->AV):Prop:=lK k_u8 1 (f 0)
theorem gc_lu8 (a:List Int):g_lu8 (zL (cJ a))=a:=by
 simp only [g_lu8,cJ,zL,iA,bA,sA,lA,deR_enR gc_u8]
theorem kc_lu8 (a:List Int):k_lu8 (zL (cJ a)):=by
 simp only [k_lu8,cJ,zL,iK,bK,sK,lK,or_true,true_and,and_true,and_self,Fit_enR kc_u8]
theorem nr_lu8 (a:List Int):nrefL (cJ a):=by simp only [cJ,nrefL,nref,and_self]
instance:NRf cJ:=⟨nr_lu8⟩
instance:KCf k_lu8 cJ:=⟨kc_lu8⟩
theorem e_lu8_0 (l:List (List Int)) (x:Nat):enR cJ l x 0 = .ro 1 (gd l x).length false (enR xM (gd l x)):=rfl
theorem fit_lu8 (n:Nat) (l:List (List Int)):Fit k_lu8 n (enR cJ l)=True:=eq_true (Fit_enR kc_lu8)
theorem de_lu8 (l:List (List Int)):deR g_lu8 l.length (enR cJ l)=l:=deR_enR gc_lu8 l
structure TFrame where
 Head:THeader
 Body:_root_.List Int
 deriving Inhabited
def zI (a:TFrame):List AV:=(.int .u8 a.Head.Kind::.int .u8 a.Head.Sub::.bool a.Head.ToDs::.bool a.Head.FromDs::.bool a.Head.More::.bool a.Head.Retry::.bool a.Head.Sleep::.bool a.Head.MoreData::.bool a.Head.Protected::.int .i64 a.Head.Duration::.int .u8 a.Head.A1.x0::.int .u8 a.Head.A1.x1::.int .u8 a.Head.A1.x2::.int .u8 a.Head.A1.x3::.int .u8 a.Head.A1.x4::.int .u8 a.Head.A1.x5::.int .u8 a.Head.A2.x0::.int .u8 a.Head.A2.x1::.int .u8 a.Head.A2.x2::.int .u8 a.Head.A2.x3::.int .u8 a.Head.A2.x4::.int .u8 a.Head.A2.x5::.int .u8 a.Head.A3.x0::.int .u8 a.Head.A3.x1::.int .u8 a.Head.A3.x2::.int .u8 a.Head.A3.x3::.int .u8 a.Head.A3.x4::.int .u8 a.Head.A3.x5::.int .u8 a.Head.A4.x0::.int .u8 a.Head.A4.x1::.int .u8 a.Head.A4.x2::.int .u8 a.Head.A4.x3::.int .u8 a.Head.A4.x4::.int .u8 a.Head.A4.x5::.int .i64 a.Head.Seq::.int .i64 a.Head.Frag::.int .i64 a.Head.Tid::.int .u8 a.Head.Ack::.bool a.Head.Amsdu::.bool a.Head.Eosp::.ro 1 a.Body.length false (enR xM a.Body)::[])
def zU (f:Nat->AV):TFrame:=⟨⟨iA (f 0),iA (f 1),bA (f 2),bA (f 3),bA (f 4),bA (f 5),bA (f 6),bA (f 7),bA (f 8),iA (f 9),⟨iA (f 10),iA (f 11),iA (f 12),iA (f 13),iA (f 14),iA (f 15)⟩,⟨iA (f 16),iA (f 17),iA (f 18),iA (f 19),iA (f 20),iA (f 21)⟩,⟨iA (f 22),iA (f 23),iA (f 24),iA (f 25),iA (f 26),iA (f 27)⟩,⟨iA (f 28),iA (f 29),iA (f 30),iA (f 31),iA (f 32),iA (f 33)⟩,iA (f 34),iA (f 35),iA (f 36),iA (f 37),bA (f 38),bA (f 39)⟩,lA jD (f 40)⟩
def vT (f:Nat->AV):Prop:=iK .u8 (f 0)/\iK .u8 (f 1)/\bK (f 2)/\bK (f 3)/\bK (f 4)/\bK (f 5)/\bK (f 6)/\bK (f 7)/\bK (f 8)/\iK .i64 (f 9)/\iK .u8 (f 10)/\iK .u8 (f 11)/\iK .u8 (f 12)/\iK .u8 (f 13)/\iK .u8 (f 14)/\iK .u8 (f 15)/\iK .u8 (f 16)/\iK .u8 (f 17)/\iK .u8 (f 18)/\iK .u8 (f 19)/\iK .u8 (f 20)/\iK .u8 (f 21)/\iK .u8 (f 22)/\iK .u8 (f 23)/\iK .u8 (f 24)/\iK .u8 (f 25)/\iK .u8 (f 26)/\iK .u8 (f 27)/\iK .u8 (f 28)/\iK .u8 (f 29)/\iK .u8 (f 30)/\iK .u8 (f 31)/\iK .u8 (f 32)/\iK .u8 (f 33)/\iK .i64 (f 34)/\iK .i64 (f 35)/\iK .i64 (f 36)/\iK .u8 (f 37)/\bK (f 38)/\bK (f 39)/\lK k_u8 1 (f 40)
theorem gc_TFrame (a:TFrame):zU (zL (zI a))=a:=by
 simp only [zU,zI,zL,iA,bA,sA,lA,deR_enR gc_u8]
theorem kc_TFrame (a:TFrame):vT (zL (zI a)):=by
 simp only [vT,zI,zL,iK,bK,sK,lK,or_true,true_and,and_true,and_self,Fit_enR kc_u8]
theorem xE (a:TFrame):nrefL (zI a):=by simp only [zI,nrefL,nref,and_self]
instance:NRf zI:=⟨xE⟩
instance:KCf vT zI:=⟨kc_TFrame⟩
theorem w_TFrame {f:Nat->AV} (h:vT f):∀ y,y < 41->WkV (zL (zI (zU f)) y) (f y)/\nref (zL (zI (zU f)) y):=by
 obtain ⟨h0,h1,h2,h3,h4,h5,h6,h7,h8,h9,h10,h11,h12,h13,h14,h15,h16,h17,h18,h19,h20,h21,h22,h23,h24,h25,h26,h27,h28,h29,h30,h31,h32,h33,h34,h35,h36,h37,h38,h39,h40⟩:=h
 intro y hy
 match y,hy with
 | 0,_=>exact yI h0
 | 1,_=>exact yI h1
 | 2,_=>exact uG h2
 | 3,_=>exact uG h3
 | 4,_=>exact uG h4
 | 5,_=>exact uG h5
 | 6,_=>exact uG h6
 | 7,_=>exact uG h7
 | 8,_=>exact uG h8
 | 9,_=>exact yI h9
 | 10,_=>exact yI h10
 | 11,_=>exact yI h11
 | 12,_=>exact yI h12
 | 13,_=>exact yI h13
 | 14,_=>exact yI h14
 | 15,_=>exact yI h15
 | 16,_=>exact yI h16
 | 17,_=>exact yI h17
 | 18,_=>exact yI h18
 | 19,_=>exact yI h19
 | 20,_=>exact yI h20
 | 21,_=>exact yI h21
 | 22,_=>exact yI h22
 | 23,_=>exact yI h23
 | 24,_=>exact yI h24
 | 25,_=>exact yI h25
 | 26,_=>exact yI h26
 | 27,_=>exact yI h27
 | 28,_=>exact yI h28
 | 29,_=>exact yI h29
 | 30,_=>exact yI h30
 | 31,_=>exact yI h31
 | 32,_=>exact yI h32
 | 33,_=>exact yI h33
 | 34,_=>exact yI h34
 | 35,_=>exact yI h35
 | 36,_=>exact yI h36
 | 37,_=>exact yI h37
 | 38,_=>exact uG h38
 | 39,_=>exact uG h39
 | 40,_=>exact qX (fun r h=>w_u8 h) h40
 | y+41,hy=>omega
theorem e_TFrame_0 (l:List TFrame) (x:Nat):enR zI l x 0 = .int .u8 (((gd l x).Head).Kind):=rfl
theorem e_TFrame_1 (l:List TFrame) (x:Nat):enR zI l x 1 = .int .u8 (((gd l x).Head).Sub):=rfl
theorem e_TFrame_2 (l:List TFrame) (x:Nat):enR zI l x 2 = .bool (((gd l x).Head).ToDs):=rfl
theorem e_TFrame_3 (l:List TFrame) (x:Nat):enR zI l x 3 = .bool (((gd l x).Head).FromDs):=rfl
theorem e_TFrame_4 (l:List TFrame) (x:Nat):enR zI l x 4 = .bool (((gd l x).Head).More):=rfl
theorem e_TFrame_5 (l:List TFrame) (x:Nat):enR zI l x 5 = .bool (((gd l x).Head).Retry):=rfl
theorem e_TFrame_6 (l:List TFrame) (x:Nat):enR zI l x 6 = .bool (((gd l x).Head).Sleep):=rfl
theorem e_TFrame_7 (l:List TFrame) (x:Nat):enR zI l x 7 = .bool (((gd l x).Head).MoreData):=rfl
theorem e_TFrame_8 (l:List TFrame) (x:Nat):enR zI l x 8 = .bool (((gd l x).Head).Protected):=rfl
theorem e_TFrame_9 (l:List TFrame) (x:Nat):enR zI l x 9 = .int .i64 (((gd l x).Head).Duration):=rfl
theorem e_TFrame_10 (l:List TFrame) (x:Nat):enR zI l x 10 = .int .u8 ((((gd l x).Head).A1).x0):=rfl
theorem e_TFrame_11 (l:List TFrame) (x:Nat):enR zI l x 11 = .int .u8 ((((gd l x).Head).A1).x1):=rfl
theorem e_TFrame_12 (l:List TFrame) (x:Nat):enR zI l x 12 = .int .u8 ((((gd l x).Head).A1).x2):=rfl
theorem e_TFrame_13 (l:List TFrame) (x:Nat):enR zI l x 13 = .int .u8 ((((gd l x).Head).A1).x3):=rfl
theorem e_TFrame_14 (l:List TFrame) (x:Nat):enR zI l x 14 = .int .u8 ((((gd l x).Head).A1).x4):=rfl
theorem e_TFrame_15 (l:List TFrame) (x:Nat):enR zI l x 15 = .int .u8 ((((gd l x).Head).A1).x5):=rfl
theorem e_TFrame_16 (l:List TFrame) (x:Nat):enR zI l x 16 = .int .u8 ((((gd l x).Head).A2).x0):=rfl
theorem e_TFrame_17 (l:List TFrame) (x:Nat):enR zI l x 17 = .int .u8 ((((gd l x).Head).A2).x1):=rfl
theorem e_TFrame_18 (l:List TFrame) (x:Nat):enR zI l x 18 = .int .u8 ((((gd l x).Head).A2).x2):=rfl
theorem e_TFrame_19 (l:List TFrame) (x:Nat):enR zI l x 19 = .int .u8 ((((gd l x).Head).A2).x3):=rfl
theorem e_TFrame_20 (l:List TFrame) (x:Nat):enR zI l x 20 = .int .u8 ((((gd l x).Head).A2).x4):=rfl
theorem e_TFrame_21 (l:List TFrame) (x:Nat):enR zI l x 21 = .int .u8 ((((gd l x).Head).A2).x5):=rfl
theorem e_TFrame_22 (l:List TFrame) (x:Nat):enR zI l x 22 = .int .u8 ((((gd l x).Head).A3).x0):=rfl
theorem e_TFrame_23 (l:List TFrame) (x:Nat):enR zI l x 23 = .int .u8 ((((gd l x).Head).A3).x1):=rfl
theorem e_TFrame_24 (l:List TFrame) (x:Nat):enR zI l x 24 = .int .u8 ((((gd l x).Head).A3).x2):=rfl
theorem e_TFrame_25 (l:List TFrame) (x:Nat):enR zI l x 25 = .int .u8 ((((gd l x).Head).A3).x3):=rfl
theorem e_TFrame_26 (l:List TFrame) (x:Nat):enR zI l x 26 = .int .u8 ((((gd l x).Head).A3).x4):=rfl
theorem e_TFrame_27 (l:List TFrame) (x:Nat):enR zI l x 27 = .int .u8 ((((gd l x).Head).A3).x5):=rfl
theorem e_TFrame_28 (l:List TFrame) (x:Nat):enR zI l x 28 = .int .u8 ((((gd l x).Head).A4).x0):=rfl
theorem e_TFrame_29 (l:List TFrame) (x:Nat):enR zI l x 29 = .int .u8 ((((gd l x).Head).A4).x1):=rfl
theorem e_TFrame_30 (l:List TFrame) (x:Nat):enR zI l x 30 = .int .u8 ((((gd l x).Head).A4).x2):=rfl
theorem e_TFrame_31 (l:List TFrame) (x:Nat):enR zI l x 31 = .int .u8 ((((gd l x).Head).A4).x3):=rfl
theorem e_TFrame_32 (l:List TFrame) (x:Nat):enR zI l x 32 = .int .u8 ((((gd l x).Head).A4).x4):=rfl
theorem e_TFrame_33 (l:List TFrame) (x:Nat):enR zI l x 33 = .int .u8 ((((gd l x).Head).A4).x5):=rfl
theorem e_TFrame_34 (l:List TFrame) (x:Nat):enR zI l x 34 = .int .i64 (((gd l x).Head).Seq):=rfl
theorem e_TFrame_35 (l:List TFrame) (x:Nat):enR zI l x 35 = .int .i64 (((gd l x).Head).Frag):=rfl
theorem e_TFrame_36 (l:List TFrame) (x:Nat):enR zI l x 36 = .int .i64 (((gd l x).Head).Tid):=rfl
theorem e_TFrame_37 (l:List TFrame) (x:Nat):enR zI l x 37 = .int .u8 (((gd l x).Head).Ack):=rfl
theorem e_TFrame_38 (l:List TFrame) (x:Nat):enR zI l x 38 = .bool (((gd l x).Head).Amsdu):=rfl
theorem e_TFrame_39 (l:List TFrame) (x:Nat):enR zI l x 39 = .bool (((gd l x).Head).Eosp):=rfl
theorem e_TFrame_40 (l:List TFrame) (x:Nat):enR zI l x 40 = .ro 1 ((gd l x).Body).length false (enR xM ((gd l x).Body)):=rfl
theorem fit_TFrame (n:Nat) (l:List TFrame):Fit vT n (enR zI l)=True:=eq_true (Fit_enR kc_TFrame)
theorem de_TFrame (l:List TFrame):deR zU l.length (enR zI l)=l:=deR_enR gc_TFrame l
theorem eta_TFrame (a:TFrame):TFrame.mk a.Head a.Body=a:=rfl
theorem gC {v:AV} (h:aK 41 vT v):WkV (.agg (zI (zU (aL v)))) v/\nref (.agg (zI (zU (aL v)))):=aK_wk (f:=zI) (g:=zU) (fun r h=>w_TFrame h) rfl (by simp only [zI,nrefL,nref,and_self]) h
structure TStored where
 Cat:Int
 At:Int
 Frame:TFrame
 deriving Inhabited
def zE (a:TStored):List AV:=(.int .u8 a.Cat::.int .i64 a.At::.int .u8 a.Frame.Head.Kind::.int .u8 a.Frame.Head.Sub::.bool a.Frame.Head.ToDs::.bool a.Frame.Head.FromDs::.bool a.Frame.Head.More::.bool a.Frame.Head.Retry::.bool a.Frame.Head.Sleep::.bool a.Frame.Head.MoreData::.bool a.Frame.Head.Protected::.int .i64 a.Frame.Head.Duration::.int .u8 a.Frame.Head.A1.x0::.int .u8 a.Frame.Head.A1.x1::.int .u8 a.Frame.Head.A1.x2::.int .u8 a.Frame.Head.A1.x3::.int .u8 a.Frame.Head.A1.x4::.int .u8 a.Frame.Head.A1.x5::.int .u8 a.Frame.Head.A2.x0::.int .u8 a.Frame.Head.A2.x1::.int .u8 a.Frame.Head.A2.x2::.int .u8 a.Frame.Head.A2.x3::.int .u8 a.Frame.Head.A2.x4::.int .u8 a.Frame.Head.A2.x5::.int .u8 a.Frame.Head.A3.x0::.int .u8 a.Frame.Head.A3.x1::.int .u8 a.Frame.Head.A3.x2::.int .u8 a.Frame.Head.A3.x3::.int .u8 a.Frame.Head.A3.x4::.int .u8 a.Frame.Head.A3.x5::.int .u8 a.Frame.Head.A4.x0::.int .u8 a.Frame.Head.A4.x1::.int .u8 a.Frame.Head.A4.x2::.int .u8 a.Frame.Head.A4.x3::.int .u8 a.Frame.Head.A4.x4::.int .u8 a.Frame.Head.A4.x5::.int .i64 a.Frame.Head.Seq::.int .i64 a.Frame.Head.Frag::.int .i64 a.Frame.Head.Tid::.int .u8 a.Frame.Head.Ack::.bool a.Frame.Head.Amsdu::.bool a.Frame.Head.Eosp::.ro 1 a.Frame.Body.length false (enR xM a.Frame.Body)::[])
def yG (f:Nat->AV):TStored:=⟨iA (f 0),iA (f 1),⟨⟨iA (f 2),iA (f 3),bA (f 4),bA (f 5),bA (f 6),bA (f 7),bA (f 8),bA (f 9),bA (f 10),iA (f 11),⟨iA (f 12),iA (f 13),iA (f 14),iA (f 15),iA (f 16),iA (f 17)⟩,⟨iA (f 18),iA (f 19),iA (f 20),iA (f 21),iA (f 22),iA (f 23)⟩,⟨iA (f 24),iA (f 25),iA (f 26),iA (f 27),iA (f 28),iA (f 29)⟩,⟨iA (f 30),iA (f 31),iA (f 32),iA (f 33),iA (f 34),iA (f 35)⟩,iA (f 36),iA (f 37),iA (f 38),iA (f 39),bA (f 40),bA (f 41)⟩,lA jD (f 42)⟩⟩
def xW (f:Nat->AV):Prop:=iK .u8 (f 0)/\iK .i64 (f 1)/\iK .u8 (f 2)/\iK .u8 (f 3)/\bK (f 4)/\bK (f 5)/\bK (f 6)/\bK (f 7)/\bK (f 8)/\bK (f 9)/\bK (f 10)/\iK .i64 (f 11)/\iK .u8 (f 12)/\iK .u8 (f 13)/\iK .u8 (f 14)/\iK .u8 (f 15)/\iK .u8 (f 16)/\iK .u8 (f 17)/\iK .u8 (f 18)/\iK .u8 (f 19)/\iK .u8 (f 20)/\iK .u8 (f 21)/\iK .u8 (f 22)/\iK .u8 (f 23)/\iK .u8 (f 24)/\iK .u8 (f 25)/\iK .u8 (f 26)/\iK .u8 (f 27)/\iK .u8 (f 28)/\iK .u8 (f 29)/\iK .u8 (f 30)/\iK .u8 (f 31)/\iK .u8 (f 32)/\iK .u8 (f 33)/\iK .u8 (f 34)/\iK .u8 (f 35)/\iK .i64 (f 36)/\iK .i64 (f 37)/\iK .i64 (f 38)/\iK .u8 (f 39)/\bK (f 40)/\bK (f 41)/\lK k_u8 1 (f 42)
theorem dJ (a:TStored):yG (zL (zE a))=a:=by
 simp only [yG,zE,zL,iA,bA,sA,lA,deR_enR gc_u8]
theorem gQ (a:TStored):xW (zL (zE a)):=by
 simp only [xW,zE,zL,iK,bK,sK,lK,or_true,true_and,and_true,and_self,Fit_enR kc_u8]
theorem zV (a:TStored):nrefL (zE a):=by simp only [zE,nrefL,nref,and_self]
instance:NRf zE:=⟨zV⟩
instance:KCf xW zE:=⟨gQ⟩
theorem uY {f:Nat->AV} (h:xW f):∀ y,y < 43->WkV (zL (zE (yG f)) y) (f y)/\nref (zL (zE (yG f)) y):=by
 obtain ⟨h0,h1,h2,h3,h4,h5,h6,h7,h8,h9,h10,h11,h12,h13,h14,h15,h16,h17,h18,h19,h20,h21,h22,h23,h24,h25,h26,h27,h28,h29,h30,h31,h32,h33,h34,h35,h36,h37,h38,h39,h40,h41,h42⟩:=h
 intro y hy
 match y,hy with
 | 0,_=>exact yI h0
 | 1,_=>exact yI h1
 | 2,_=>exact yI h2
 | 3,_=>exact yI h3
 | 4,_=>exact uG h4
 | 5,_=>exact uG h5
 | 6,_=>exact uG h6
 | 7,_=>exact uG h7
 | 8,_=>exact uG h8
 | 9,_=>exact uG h9
 | 10,_=>exact uG h10
 | 11,_=>exact yI h11
 | 12,_=>exact yI h12
 | 13,_=>exact yI h13
 | 14,_=>exact yI h14
 | 15,_=>exact yI h15
 | 16,_=>exact yI h16
 | 17,_=>exact yI h17
 | 18,_=>exact yI h18
 | 19,_=>exact yI h19
 | 20,_=>exact yI h20
 | 21,_=>exact yI h21
 | 22,_=>exact yI h22
 | 23,_=>exact yI h23
 | 24,_=>exact yI h24
 | 25,_=>exact yI h25
 | 26,_=>exact yI h26
 | 27,_=>exact yI h27
 | 28,_=>exact yI h28
 | 29,_=>exact yI h29
 | 30,_=>exact yI h30
 | 31,_=>exact yI h31
 | 32,_=>exact yI h32
 | 33,_=>exact yI h33
 | 34,_=>exact yI h34
 | 35,_=>exact yI h35
 | 36,_=>exact yI h36
 | 37,_=>exact yI h37
 | 38,_=>exact yI h38
 | 39,_=>exact yI h39
 | 40,_=>exact uG h40
 | 41,_=>exact uG h41
 | 42,_=>exact qX (fun r h=>w_u8 h) h42
 | y+43,hy=>omega
theorem e_TStored_0 (l:List TStored) (x:Nat):enR zE l x 0 = .int .u8 ((gd l x).Cat):=rfl
theorem e_TStored_1 (l:List TStored) (x:Nat):enR zE l x 1 = .int .i64 ((gd l x).At):=rfl
theorem e_TStored_2 (l:List TStored) (x:Nat):enR zE l x 2 = .int .u8 ((((gd l x).Frame).Head).Kind):=rfl
theorem e_TStored_3 (l:List TStored) (x:Nat):enR zE l x 3 = .int .u8 ((((gd l x).Frame).Head).Sub):=rfl
theorem e_TStored_4 (l:List TStored) (x:Nat):enR zE l x 4 = .bool ((((gd l x).Frame).Head).ToDs):=rfl
theorem e_TStored_5 (l:List TStored) (x:Nat):enR zE l x 5 = .bool ((((gd l x).Frame).Head).FromDs):=rfl
theorem e_TStored_6 (l:List TStored) (x:Nat):enR zE l x 6 = .bool ((((gd l x).Frame).Head).More):=rfl
theorem e_TStored_7 (l:List TStored) (x:Nat):enR zE l x 7 = .bool ((((gd l x).Frame).Head).Retry):=rfl
theorem e_TStored_8 (l:List TStored) (x:Nat):enR zE l x 8 = .bool ((((gd l x).Frame).Head).Sleep):=rfl
theorem e_TStored_9 (l:List TStored) (x:Nat):enR zE l x 9 = .bool ((((gd l x).Frame).Head).MoreData):=rfl
theorem e_TStored_10 (l:List TStored) (x:Nat):enR zE l x 10 = .bool ((((gd l x).Frame).Head).Protected):=rfl
theorem e_TStored_11 (l:List TStored) (x:Nat):enR zE l x 11 = .int .i64 ((((gd l x).Frame).Head).Duration):=rfl
theorem e_TStored_12 (l:List TStored) (x:Nat):enR zE l x 12 = .int .u8 (((((gd l x).Frame).Head).A1).x0):=rfl
theorem e_TStored_13 (l:List TStored) (x:Nat):enR zE l x 13 = .int .u8 (((((gd l x).Frame).Head).A1).x1):=rfl
theorem e_TStored_14 (l:List TStored) (x:Nat):enR zE l x 14 = .int .u8 (((((gd l x).Frame).Head).A1).x2):=rfl
theorem e_TStored_15 (l:List TStored) (x:Nat):enR zE l x 15 = .int .u8 (((((gd l x).Frame).Head).A1).x3):=rfl
theorem e_TStored_16 (l:List TStored) (x:Nat):enR zE l x 16 = .int .u8 (((((gd l x).Frame).Head).A1).x4):=rfl
theorem e_TStored_17 (l:List TStored) (x:Nat):enR zE l x 17 = .int .u8 (((((gd l x).Frame).Head).A1).x5):=rfl
theorem e_TStored_18 (l:List TStored) (x:Nat):enR zE l x 18 = .int .u8 (((((gd l x).Frame).Head).A2).x0):=rfl
theorem e_TStored_19 (l:List TStored) (x:Nat):enR zE l x 19 = .int .u8 (((((gd l x).Frame).Head).A2).x1):=rfl
theorem e_TStored_20 (l:List TStored) (x:Nat):enR zE l x 20 = .int .u8 (((((gd l x).Frame).Head).A2).x2):=rfl
theorem e_TStored_21 (l:List TStored) (x:Nat):enR zE l x 21 = .int .u8 (((((gd l x).Frame).Head).A2).x3):=rfl
theorem e_TStored_22 (l:List TStored) (x:Nat):enR zE l x 22 = .int .u8 (((((gd l x).Frame).Head).A2).x4):=rfl
theorem e_TStored_23 (l:List TStored) (x:Nat):enR zE l x 23 = .int .u8 (((((gd l x).Frame).Head).A2).x5):=rfl
theorem e_TStored_24 (l:List TStored) (x:Nat):enR zE l x 24 = .int .u8 (((((gd l x).Frame).Head).A3).x0):=rfl
theorem e_TStored_25 (l:List TStored) (x:Nat):enR zE l x 25 = .int .u8 (((((gd l x).Frame).Head).A3).x1):=rfl
theorem e_TStored_26 (l:List TStored) (x:Nat):enR zE l x 26 = .int .u8 (((((gd l x).Frame).Head).A3).x2):=rfl
theorem e_TStored_27 (l:List TStored) (x:Nat):enR zE l x 27 = .int .u8 (((((gd l x).Frame).Head).A3).x3):=rfl
theorem e_TStored_28 (l:List TStored) (x:Nat):enR zE l x 28 = .int .u8 (((((gd l x).Frame).Head).A3).x4):=rfl
theorem e_TStored_29 (l:List TStored) (x:Nat):enR zE l x 29 = .int .u8 (((((gd l x).Frame).Head).A3).x5):=rfl
theorem e_TStored_30 (l:List TStored) (x:Nat):enR zE l x 30 = .int .u8 (((((gd l x).Frame).Head).A4).x0):=rfl
theorem e_TStored_31 (l:List TStored) (x:Nat):enR zE l x 31 = .int .u8 (((((gd l x).Frame).Head).A4).x1):=rfl
theorem e_TStored_32 (l:List TStored) (x:Nat):enR zE l x 32 = .int .u8 (((((gd l x).Frame).Head).A4).x2):=rfl
theorem e_TStored_33 (l:List TStored) (x:Nat):enR zE l x 33 = .int .u8 (((((gd l x).Frame).Head).A4).x3):=rfl
theorem e_TStored_34 (l:List TStored) (x:Nat):enR zE l x 34 = .int .u8 (((((gd l x).Frame).Head).A4).x4):=rfl
theorem e_TStored_35 (l:List TStored) (x:Nat):enR zE l x 35 = .int .u8 (((((gd l x).Frame).Head).A4).x5):=rfl
theorem e_TStored_36 (l:List TStored) (x:Nat):enR zE l x 36 = .int .i64 ((((gd l x).Frame).Head).Seq):=rfl
theorem e_TStored_37 (l:List TStored) (x:Nat):enR zE l x 37 = .int .i64 ((((gd l x).Frame).Head).Frag):=rfl
theorem e_TStored_38 (l:List TStored) (x:Nat):enR zE l x 38 = .int .i64 ((((gd l x).Frame).Head).Tid):=rfl
theorem e_TStored_39 (l:List TStored) (x:Nat):enR zE l x 39 = .int .u8 ((((gd l x).Frame).Head).Ack):=rfl
theorem e_TStored_40 (l:List TStored) (x:Nat):enR zE l x 40 = .bool ((((gd l x).Frame).Head).Amsdu):=rfl
theorem e_TStored_41 (l:List TStored) (x:Nat):enR zE l x 41 = .bool ((((gd l x).Frame).Head).Eosp):=rfl
theorem e_TStored_42 (l:List TStored) (x:Nat):enR zE l x 42 = .ro 1 (((gd l x).Frame).Body).length false (enR xM (((gd l x).Frame).Body)):=rfl
theorem fit_TStored (n:Nat) (l:List TStored):Fit xW n (enR zE l)=True:=eq_true (Fit_enR gQ)
theorem de_TStored (l:List TStored):deR yG l.length (enR zE l)=l:=deR_enR dJ l
theorem eta_TStored (a:TStored):TStored.mk a.Cat a.At a.Frame=a:=rfl
theorem kR {v:AV} (h:aK 43 xW v):WkV (.agg (zE (yG (aL v)))) v/\nref (.agg (zE (yG (aL v)))):=aK_wk (f:=zE) (g:=yG) (fun r h=>uY h) rfl (by simp only [zE,nrefL,nref,and_self]) h
def vR (a:List TStored):List AV:=[.ro 43 a.length false (enR zE a)]
def dI (f:Nat->AV):List TStored:=lA yG (f 0)
def gP (f:Nat->AV):Prop:=lK xW 43 (f 0)
theorem gc_lTStored (a:List TStored):dI (zL (vR a))=a:=by
 simp only [dI,vR,zL,iA,bA,sA,lA,deR_enR dJ]
theorem kc_lTStored (a:List TStored):gP (zL (vR a)):=by
 simp only [gP,vR,zL,iK,bK,sK,lK,or_true,true_and,and_true,and_self,Fit_enR gQ]
theorem nr_lTStored (a:List TStored):nrefL (vR a):=by simp only [vR,nrefL,nref,and_self]
instance:NRf vR:=⟨nr_lTStored⟩
instance:KCf gP vR:=⟨kc_lTStored⟩
theorem e_lTStored_0 (l:List (List TStored)) (x:Nat):enR vR l x 0 = .ro 43 (gd l x).length false (enR zE (gd l x)):=rfl
theorem fit_lTStored (n:Nat) (l:List (List TStored)):Fit gP n (enR vR l)=True:=eq_true (Fit_enR kc_lTStored)
theorem de_lTStored (l:List (List TStored)):deR dI l.length (enR vR l)=l:=deR_enR gc_lTStored l
structure TSleeper where
 Aid:Int
 Asleep:Bool
 Held:_root_.List TStored
 deriving Inhabited
def zC (a:TSleeper):List AV:=[.int .i64 a.Aid,.bool a.Asleep,.ro 43 a.Held.length false (enR zE a.Held)]
def yK (f:Nat->AV):TSleeper:=⟨iA (f 0),bA (f 1),lA yG (f 2)⟩
def wG (f:Nat->AV):Prop:=iK .i64 (f 0)/\bK (f 1)/\lK xW 43 (f 2)
theorem cQ (a:TSleeper):yK (zL (zC a))=a:=by
 simp only [yK,zC,zL,iA,bA,sA,lA,deR_enR dJ]
theorem fF (a:TSleeper):wG (zL (zC a)):=by
 simp only [wG,zC,zL,iK,bK,sK,lK,or_true,true_and,and_true,and_self,Fit_enR gQ]
theorem zH (a:TSleeper):nrefL (zC a):=by simp only [zC,nrefL,nref,and_self]
instance:NRf zC:=⟨zH⟩
instance:KCf wG zC:=⟨fF⟩
theorem tN {f:Nat->AV} (h:wG f):∀ y,y < 3->WkV (zL (zC (yK f)) y) (f y)/\nref (zL (zC (yK f)) y):=by
 obtain ⟨h0,h1,h2⟩:=h
 intro y hy
 match y,hy with
 | 0,_=>exact yI h0
 | 1,_=>exact uG h1
 | 2,_=>exact qX (fun r h=>uY h) h2
 | y+3,hy=>omega
theorem e_TSleeper_0 (l:List TSleeper) (x:Nat):enR zC l x 0 = .int .i64 ((gd l x).Aid):=rfl
theorem e_TSleeper_1 (l:List TSleeper) (x:Nat):enR zC l x 1 = .bool ((gd l x).Asleep):=rfl
theorem e_TSleeper_2 (l:List TSleeper) (x:Nat):enR zC l x 2 = .ro 43 ((gd l x).Held).length false (enR zE ((gd l x).Held)):=rfl
theorem fit_TSleeper (n:Nat) (l:List TSleeper):Fit wG n (enR zC l)=True:=eq_true (Fit_enR fF)
theorem de_TSleeper (l:List TSleeper):deR yK l.length (enR zC l)=l:=deR_enR cQ l
theorem eta_TSleeper (a:TSleeper):TSleeper.mk a.Aid a.Asleep a.Held=a:=rfl
theorem bP {v:AV} (h:aK 3 wG v):WkV (.agg (zC (yK (aL v)))) v/\nref (.agg (zC (yK (aL v)))):=aK_wk (f:=zC) (g:=yK) (fun r h=>tN h) rfl (by simp only [zC,nrefL,nref,and_self]) h
def vD (a:List TSleeper):List AV:=[.ro 3 a.length false (enR zC a)]
def fE (f:Nat->AV):List TSleeper:=lA yK (f 0)
def jE (f:Nat->AV):Prop:=lK wG 3 (f 0)
theorem gc_lTSleeper (a:List TSleeper):fE (zL (vD a))=a:=by
 simp only [fE,vD,zL,iA,bA,sA,lA,deR_enR cQ]
theorem kc_lTSleeper (a:List TSleeper):jE (zL (vD a)):=by
 simp only [jE,vD,zL,iK,bK,sK,lK,or_true,true_and,and_true,and_self,Fit_enR fF]
theorem nr_lTSleeper (a:List TSleeper):nrefL (vD a):=by simp only [vD,nrefL,nref,and_self]
instance:NRf vD:=⟨nr_lTSleeper⟩
instance:KCf jE vD:=⟨kc_lTSleeper⟩
theorem e_lTSleeper_0 (l:List (List TSleeper)) (x:Nat):enR vD l x 0 = .ro 3 (gd l x).length false (enR zC (gd l x)):=rfl
theorem fit_lTSleeper (n:Nat) (l:List (List TSleeper)):Fit jE n (enR vD l)=True:=eq_true (Fit_enR kc_lTSleeper)
theorem de_lTSleeper (l:List (List TSleeper)):deR fE l.length (enR vD l)=l:=deR_enR gc_lTSleeper l
structure TBuffer where
 Limit:Int
 Stay:Int
 List:_root_.List TSleeper
 Group:_root_.List TStored
 deriving Inhabited
def wI (a:TBuffer):List AV:=[.int .i64 a.Limit,.int .i64 a.Stay,.ro 3 a.List.length false (enR zC a.List),.ro 43 a.Group.length false (enR zE a.Group)]
def zG (f:Nat->AV):TBuffer:=⟨iA (f 0),iA (f 1),lA yK (f 2),lA yG (f 3)⟩
def wC (f:Nat->AV):Prop:=iK .i64 (f 0)/\iK .i64 (f 1)/\lK wG 3 (f 2)/\lK xW 43 (f 3)
theorem gc_TBuffer (a:TBuffer):zG (zL (wI a))=a:=by
 simp only [zG,wI,zL,iA,bA,sA,lA,deR_enR cQ,deR_enR dJ]
theorem kc_TBuffer (a:TBuffer):wC (zL (wI a)):=by
 simp only [wC,wI,zL,iK,bK,sK,lK,or_true,true_and,and_true,and_self,Fit_enR fF,Fit_enR gQ]
theorem nr_TBuffer (a:TBuffer):nrefL (wI a):=by simp only [wI,nrefL,nref,and_self]
instance:NRf wI:=⟨nr_TBuffer⟩
instance:KCf wC wI:=⟨kc_TBuffer⟩
theorem w_TBuffer {f:Nat->AV} (h:wC f):∀ y,y < 4->WkV (zL (wI (zG f)) y) (f y)/\nref (zL (wI (zG f)) y):=by
 obtain ⟨h0,h1,h2,h3⟩:=h
 intro y hy
 match y,hy with
 | 0,_=>exact yI h0
 | 1,_=>exact yI h1
 | 2,_=>exact qX (fun r h=>tN h) h2
 | 3,_=>exact qX (fun r h=>uY h) h3
 | y+4,hy=>omega
theorem e_TBuffer_0 (l:List TBuffer) (x:Nat):enR wI l x 0 = .int .i64 ((gd l x).Limit):=rfl
theorem e_TBuffer_1 (l:List TBuffer) (x:Nat):enR wI l x 1 = .int .i64 ((gd l x).Stay):=rfl
theorem e_TBuffer_2 (l:List TBuffer) (x:Nat):enR wI l x 2 = .ro 3 ((gd l x).List).length false (enR zC ((gd l x).List)):=rfl
theorem e_TBuffer_3 (l:List TBuffer) (x:Nat):enR wI l x 3 = .ro 43 ((gd l x).Group).length false (enR zE ((gd l x).Group)):=rfl
theorem fit_TBuffer (n:Nat) (l:List TBuffer):Fit wC n (enR wI l)=True:=eq_true (Fit_enR kc_TBuffer)
theorem de_TBuffer (l:List TBuffer):deR zG l.length (enR wI l)=l:=deR_enR gc_TBuffer l
theorem eta_TBuffer (a:TBuffer):TBuffer.mk a.Limit a.Stay a.List a.Group=a:=rfl
theorem wU {v:AV} (h:aK 4 wC v):WkV (.agg (wI (zG (aL v)))) v/\nref (.agg (wI (zG (aL v)))):=aK_wk (f:=wI) (g:=zG) (fun r h=>w_TBuffer h) rfl (by simp only [wI,nrefL,nref,and_self]) h
def gH (a:List Int):List AV:=[.ro 1 a.length false (enR xF a)]
def g_li64 (f:Nat->AV):List Int:=lA tT (f 0)
def k_li64 (f:Nat->AV):Prop:=lK cS 1 (f 0)
theorem gc_li64 (a:List Int):g_li64 (zL (gH a))=a:=by
 simp only [g_li64,gH,zL,iA,bA,sA,lA,deR_enR gc_i64]
theorem kc_li64 (a:List Int):k_li64 (zL (gH a)):=by
 simp only [k_li64,gH,zL,iK,bK,sK,lK,or_true,true_and,and_true,and_self,Fit_enR kc_i64]
theorem nr_li64 (a:List Int):nrefL (gH a):=by simp only [gH,nrefL,nref,and_self]
instance:NRf gH:=⟨nr_li64⟩
instance:KCf k_li64 gH:=⟨kc_li64⟩
theorem e_li64_0 (l:List (List Int)) (x:Nat):enR gH l x 0 = .ro 1 (gd l x).length false (enR xF (gd l x)):=rfl
theorem fit_li64 (n:Nat) (l:List (List Int)):Fit k_li64 n (enR gH l)=True:=eq_true (Fit_enR kc_li64)
theorem de_li64 (l:List (List Int)):deR g_li64 l.length (enR gH l)=l:=deR_enR gc_li64 l
structure TTraffic where
 Group:Bool
 Aids:_root_.List Int
 deriving Inhabited
def vI (a:TTraffic):List AV:=[.bool a.Group,.ro 1 a.Aids.length false (enR xF a.Aids)]
def dH (f:Nat->AV):TTraffic:=⟨bA (f 0),lA tT (f 1)⟩
def gO (f:Nat->AV):Prop:=bK (f 0)/\lK cS 1 (f 1)
theorem gc_TTraffic (a:TTraffic):dH (zL (vI a))=a:=by
 simp only [dH,vI,zL,iA,bA,sA,lA,deR_enR gc_i64]
theorem kc_TTraffic (a:TTraffic):gO (zL (vI a)):=by
 simp only [gO,vI,zL,iK,bK,sK,lK,or_true,true_and,and_true,and_self,Fit_enR kc_i64]
theorem nr_TTraffic (a:TTraffic):nrefL (vI a):=by simp only [vI,nrefL,nref,and_self]
instance:NRf vI:=⟨nr_TTraffic⟩
instance:KCf gO vI:=⟨kc_TTraffic⟩
theorem e_TTraffic_0 (l:List TTraffic) (x:Nat):enR vI l x 0 = .bool ((gd l x).Group):=rfl
theorem e_TTraffic_1 (l:List TTraffic) (x:Nat):enR vI l x 1 = .ro 1 ((gd l x).Aids).length false (enR xF ((gd l x).Aids)):=rfl
theorem fit_TTraffic (n:Nat) (l:List TTraffic):Fit gO n (enR vI l)=True:=eq_true (Fit_enR kc_TTraffic)
theorem de_TTraffic (l:List TTraffic):deR dH l.length (enR vI l)=l:=deR_enR gc_TTraffic l
theorem eta_TTraffic (a:TTraffic):TTraffic.mk a.Group a.Aids=a:=rfl
def uH (a:List TFrame):List AV:=[.ro 41 a.length false (enR zI a)]
def bW (f:Nat->AV):List TFrame:=lA zU (f 0)
def eP (f:Nat->AV):Prop:=lK vT 41 (f 0)
theorem gc_lTFrame (a:List TFrame):bW (zL (uH a))=a:=by
 simp only [bW,uH,zL,iA,bA,sA,lA,deR_enR gc_TFrame]
theorem kc_lTFrame (a:List TFrame):eP (zL (uH a)):=by
 simp only [eP,uH,zL,iK,bK,sK,lK,or_true,true_and,and_true,and_self,Fit_enR kc_TFrame]
theorem nr_lTFrame (a:List TFrame):nrefL (uH a):=by simp only [uH,nrefL,nref,and_self]
instance:NRf uH:=⟨nr_lTFrame⟩
instance:KCf eP uH:=⟨kc_lTFrame⟩
theorem e_lTFrame_0 (l:List (List TFrame)) (x:Nat):enR uH l x 0 = .ro 41 (gd l x).length false (enR zI (gd l x)):=rfl
theorem fit_lTFrame (n:Nat) (l:List (List TFrame)):Fit eP n (enR uH l)=True:=eq_true (Fit_enR kc_lTFrame)
theorem de_lTFrame (l:List (List TFrame)):deR bW l.length (enR uH l)=l:=deR_enR gc_lTFrame l
structure TStep where
 Kind:Int
 Aid:Int
 Cat:Int
 Now:Int
 Frame:TFrame
 deriving Inhabited
def c_TStep (a:TStep):List AV:=(.int .i64 a.Kind::.int .i64 a.Aid::.int .u8 a.Cat::.int .i64 a.Now::.int .u8 a.Frame.Head.Kind::.int .u8 a.Frame.Head.Sub::.bool a.Frame.Head.ToDs::.bool a.Frame.Head.FromDs::.bool a.Frame.Head.More::.bool a.Frame.Head.Retry::.bool a.Frame.Head.Sleep::.bool a.Frame.Head.MoreData::.bool a.Frame.Head.Protected::.int .i64 a.Frame.Head.Duration::.int .u8 a.Frame.Head.A1.x0::.int .u8 a.Frame.Head.A1.x1::.int .u8 a.Frame.Head.A1.x2::.int .u8 a.Frame.Head.A1.x3::.int .u8 a.Frame.Head.A1.x4::.int .u8 a.Frame.Head.A1.x5::.int .u8 a.Frame.Head.A2.x0::.int .u8 a.Frame.Head.A2.x1::.int .u8 a.Frame.Head.A2.x2::.int .u8 a.Frame.Head.A2.x3::.int .u8 a.Frame.Head.A2.x4::.int .u8 a.Frame.Head.A2.x5::.int .u8 a.Frame.Head.A3.x0::.int .u8 a.Frame.Head.A3.x1::.int .u8 a.Frame.Head.A3.x2::.int .u8 a.Frame.Head.A3.x3::.int .u8 a.Frame.Head.A3.x4::.int .u8 a.Frame.Head.A3.x5::.int .u8 a.Frame.Head.A4.x0::.int .u8 a.Frame.Head.A4.x1::.int .u8 a.Frame.Head.A4.x2::.int .u8 a.Frame.Head.A4.x3::.int .u8 a.Frame.Head.A4.x4::.int .u8 a.Frame.Head.A4.x5::.int .i64 a.Frame.Head.Seq::.int .i64 a.Frame.Head.Frag::.int .i64 a.Frame.Head.Tid::.int .u8 a.Frame.Head.Ack::.bool a.Frame.Head.Amsdu::.bool a.Frame.Head.Eosp::.ro 1 a.Frame.Body.length false (enR xM a.Frame.Body)::[])
def g_TStep (f:Nat->AV):TStep:=⟨iA (f 0),iA (f 1),iA (f 2),iA (f 3),⟨⟨iA (f 4),iA (f 5),bA (f 6),bA (f 7),bA (f 8),bA (f 9),bA (f 10),bA (f 11),bA (f 12),iA (f 13),⟨iA (f 14),iA (f 15),iA (f 16),iA (f 17),iA (f 18),iA (f 19)⟩,⟨iA (f 20),iA (f 21),iA (f 22),iA (f 23),iA (f 24),iA (f 25)⟩,⟨iA (f 26),iA (f 27),iA (f 28),iA (f 29),iA (f 30),iA (f 31)⟩,⟨iA (f 32),iA (f 33),iA (f 34),iA (f 35),iA (f 36),iA (f 37)⟩,iA (f 38),iA (f 39),iA (f 40),iA (f 41),bA (f 42),bA (f 43)⟩,lA jD (f 44)⟩⟩
def kX (f:Nat->AV):Prop:=iK .i64 (f 0)/\iK .i64 (f 1)/\iK .u8 (f 2)/\iK .i64 (f 3)/\iK .u8 (f 4)/\iK .u8 (f 5)/\bK (f 6)/\bK (f 7)/\bK (f 8)/\bK (f 9)/\bK (f 10)/\bK (f 11)/\bK (f 12)/\iK .i64 (f 13)/\iK .u8 (f 14)/\iK .u8 (f 15)/\iK .u8 (f 16)/\iK .u8 (f 17)/\iK .u8 (f 18)/\iK .u8 (f 19)/\iK .u8 (f 20)/\iK .u8 (f 21)/\iK .u8 (f 22)/\iK .u8 (f 23)/\iK .u8 (f 24)/\iK .u8 (f 25)/\iK .u8 (f 26)/\iK .u8 (f 27)/\iK .u8 (f 28)/\iK .u8 (f 29)/\iK .u8 (f 30)/\iK .u8 (f 31)/\iK .u8 (f 32)/\iK .u8 (f 33)/\iK .u8 (f 34)/\iK .u8 (f 35)/\iK .u8 (f 36)/\iK .u8 (f 37)/\iK .i64 (f 38)/\iK .i64 (f 39)/\iK .i64 (f 40)/\iK .u8 (f 41)/\bK (f 42)/\bK (f 43)/\lK k_u8 1 (f 44)
theorem gc_TStep (a:TStep):g_TStep (zL (c_TStep a))=a:=by
 simp only [g_TStep,c_TStep,zL,iA,bA,sA,lA,deR_enR gc_u8]
theorem kc_TStep (a:TStep):kX (zL (c_TStep a)):=by
 simp only [kX,c_TStep,zL,iK,bK,sK,lK,or_true,true_and,and_true,and_self,Fit_enR kc_u8]
theorem nr_TStep (a:TStep):nrefL (c_TStep a):=by simp only [c_TStep,nrefL,nref,and_self]
instance:NRf c_TStep:=⟨nr_TStep⟩
instance:KCf kX c_TStep:=⟨kc_TStep⟩
theorem w_TStep {f:Nat->AV} (h:kX f):∀ y,y < 45->WkV (zL (c_TStep (g_TStep f)) y) (f y)/\nref (zL (c_TStep (g_TStep f)) y):=by
 obtain ⟨h0,h1,h2,h3,h4,h5,h6,h7,h8,h9,h10,h11,h12,h13,h14,h15,h16,h17,h18,h19,h20,h21,h22,h23,h24,h25,h26,h27,h28,h29,h30,h31,h32,h33,h34,h35,h36,h37,h38,h39,h40,h41,h42,h43,h44⟩:=h
 intro y hy
 match y,hy with
 | 0,_=>exact yI h0
 | 1,_=>exact yI h1
 | 2,_=>exact yI h2
 | 3,_=>exact yI h3
 | 4,_=>exact yI h4
 | 5,_=>exact yI h5
 | 6,_=>exact uG h6
 | 7,_=>exact uG h7
 | 8,_=>exact uG h8
 | 9,_=>exact uG h9
 | 10,_=>exact uG h10
 | 11,_=>exact uG h11
 | 12,_=>exact uG h12
 | 13,_=>exact yI h13
 | 14,_=>exact yI h14
 | 15,_=>exact yI h15
 | 16,_=>exact yI h16
 | 17,_=>exact yI h17
 | 18,_=>exact yI h18
 | 19,_=>exact yI h19
 | 20,_=>exact yI h20
 | 21,_=>exact yI h21
 | 22,_=>exact yI h22
 | 23,_=>exact yI h23
 | 24,_=>exact yI h24
 | 25,_=>exact yI h25
 | 26,_=>exact yI h26
 | 27,_=>exact yI h27
 | 28,_=>exact yI h28
 | 29,_=>exact yI h29
 | 30,_=>exact yI h30
 | 31,_=>exact yI h31
 | 32,_=>exact yI h32
 | 33,_=>exact yI h33
 | 34,_=>exact yI h34
 | 35,_=>exact yI h35
 | 36,_=>exact yI h36
 | 37,_=>exact yI h37
 | 38,_=>exact yI h38
 | 39,_=>exact yI h39
 | 40,_=>exact yI h40
 | 41,_=>exact yI h41
 | 42,_=>exact uG h42
 | 43,_=>exact uG h43
 | 44,_=>exact qX (fun r h=>w_u8 h) h44
 | y+45,hy=>omega
theorem e_TStep_0 (l:List TStep) (x:Nat):enR c_TStep l x 0 = .int .i64 ((gd l x).Kind):=rfl
theorem e_TStep_1 (l:List TStep) (x:Nat):enR c_TStep l x 1 = .int .i64 ((gd l x).Aid):=rfl
theorem e_TStep_2 (l:List TStep) (x:Nat):enR c_TStep l x 2 = .int .u8 ((gd l x).Cat):=rfl
theorem e_TStep_3 (l:List TStep) (x:Nat):enR c_TStep l x 3 = .int .i64 ((gd l x).Now):=rfl
theorem e_TStep_4 (l:List TStep) (x:Nat):enR c_TStep l x 4 = .int .u8 ((((gd l x).Frame).Head).Kind):=rfl
theorem e_TStep_5 (l:List TStep) (x:Nat):enR c_TStep l x 5 = .int .u8 ((((gd l x).Frame).Head).Sub):=rfl
theorem e_TStep_6 (l:List TStep) (x:Nat):enR c_TStep l x 6 = .bool ((((gd l x).Frame).Head).ToDs):=rfl
theorem e_TStep_7 (l:List TStep) (x:Nat):enR c_TStep l x 7 = .bool ((((gd l x).Frame).Head).FromDs):=rfl
theorem e_TStep_8 (l:List TStep) (x:Nat):enR c_TStep l x 8 = .bool ((((gd l x).Frame).Head).More):=rfl
theorem e_TStep_9 (l:List TStep) (x:Nat):enR c_TStep l x 9 = .bool ((((gd l x).Frame).Head).Retry):=rfl
theorem e_TStep_10 (l:List TStep) (x:Nat):enR c_TStep l x 10 = .bool ((((gd l x).Frame).Head).Sleep):=rfl
theorem e_TStep_11 (l:List TStep) (x:Nat):enR c_TStep l x 11 = .bool ((((gd l x).Frame).Head).MoreData):=rfl
theorem e_TStep_12 (l:List TStep) (x:Nat):enR c_TStep l x 12 = .bool ((((gd l x).Frame).Head).Protected):=rfl
theorem e_TStep_13 (l:List TStep) (x:Nat):enR c_TStep l x 13 = .int .i64 ((((gd l x).Frame).Head).Duration):=rfl
theorem e_TStep_14 (l:List TStep) (x:Nat):enR c_TStep l x 14 = .int .u8 (((((gd l x).Frame).Head).A1).x0):=rfl
theorem e_TStep_15 (l:List TStep) (x:Nat):enR c_TStep l x 15 = .int .u8 (((((gd l x).Frame).Head).A1).x1):=rfl
theorem e_TStep_16 (l:List TStep) (x:Nat):enR c_TStep l x 16 = .int .u8 (((((gd l x).Frame).Head).A1).x2):=rfl
theorem e_TStep_17 (l:List TStep) (x:Nat):enR c_TStep l x 17 = .int .u8 (((((gd l x).Frame).Head).A1).x3):=rfl
theorem e_TStep_18 (l:List TStep) (x:Nat):enR c_TStep l x 18 = .int .u8 (((((gd l x).Frame).Head).A1).x4):=rfl
theorem e_TStep_19 (l:List TStep) (x:Nat):enR c_TStep l x 19 = .int .u8 (((((gd l x).Frame).Head).A1).x5):=rfl
theorem e_TStep_20 (l:List TStep) (x:Nat):enR c_TStep l x 20 = .int .u8 (((((gd l x).Frame).Head).A2).x0):=rfl
theorem e_TStep_21 (l:List TStep) (x:Nat):enR c_TStep l x 21 = .int .u8 (((((gd l x).Frame).Head).A2).x1):=rfl
theorem e_TStep_22 (l:List TStep) (x:Nat):enR c_TStep l x 22 = .int .u8 (((((gd l x).Frame).Head).A2).x2):=rfl
theorem e_TStep_23 (l:List TStep) (x:Nat):enR c_TStep l x 23 = .int .u8 (((((gd l x).Frame).Head).A2).x3):=rfl
theorem e_TStep_24 (l:List TStep) (x:Nat):enR c_TStep l x 24 = .int .u8 (((((gd l x).Frame).Head).A2).x4):=rfl
theorem e_TStep_25 (l:List TStep) (x:Nat):enR c_TStep l x 25 = .int .u8 (((((gd l x).Frame).Head).A2).x5):=rfl
theorem e_TStep_26 (l:List TStep) (x:Nat):enR c_TStep l x 26 = .int .u8 (((((gd l x).Frame).Head).A3).x0):=rfl
theorem e_TStep_27 (l:List TStep) (x:Nat):enR c_TStep l x 27 = .int .u8 (((((gd l x).Frame).Head).A3).x1):=rfl
theorem e_TStep_28 (l:List TStep) (x:Nat):enR c_TStep l x 28 = .int .u8 (((((gd l x).Frame).Head).A3).x2):=rfl
theorem e_TStep_29 (l:List TStep) (x:Nat):enR c_TStep l x 29 = .int .u8 (((((gd l x).Frame).Head).A3).x3):=rfl
theorem e_TStep_30 (l:List TStep) (x:Nat):enR c_TStep l x 30 = .int .u8 (((((gd l x).Frame).Head).A3).x4):=rfl
theorem e_TStep_31 (l:List TStep) (x:Nat):enR c_TStep l x 31 = .int .u8 (((((gd l x).Frame).Head).A3).x5):=rfl
theorem e_TStep_32 (l:List TStep) (x:Nat):enR c_TStep l x 32 = .int .u8 (((((gd l x).Frame).Head).A4).x0):=rfl
theorem e_TStep_33 (l:List TStep) (x:Nat):enR c_TStep l x 33 = .int .u8 (((((gd l x).Frame).Head).A4).x1):=rfl
theorem e_TStep_34 (l:List TStep) (x:Nat):enR c_TStep l x 34 = .int .u8 (((((gd l x).Frame).Head).A4).x2):=rfl
theorem e_TStep_35 (l:List TStep) (x:Nat):enR c_TStep l x 35 = .int .u8 (((((gd l x).Frame).Head).A4).x3):=rfl
theorem e_TStep_36 (l:List TStep) (x:Nat):enR c_TStep l x 36 = .int .u8 (((((gd l x).Frame).Head).A4).x4):=rfl
theorem e_TStep_37 (l:List TStep) (x:Nat):enR c_TStep l x 37 = .int .u8 (((((gd l x).Frame).Head).A4).x5):=rfl
theorem e_TStep_38 (l:List TStep) (x:Nat):enR c_TStep l x 38 = .int .i64 ((((gd l x).Frame).Head).Seq):=rfl
theorem e_TStep_39 (l:List TStep) (x:Nat):enR c_TStep l x 39 = .int .i64 ((((gd l x).Frame).Head).Frag):=rfl
theorem e_TStep_40 (l:List TStep) (x:Nat):enR c_TStep l x 40 = .int .i64 ((((gd l x).Frame).Head).Tid):=rfl
theorem e_TStep_41 (l:List TStep) (x:Nat):enR c_TStep l x 41 = .int .u8 ((((gd l x).Frame).Head).Ack):=rfl
theorem e_TStep_42 (l:List TStep) (x:Nat):enR c_TStep l x 42 = .bool ((((gd l x).Frame).Head).Amsdu):=rfl
theorem e_TStep_43 (l:List TStep) (x:Nat):enR c_TStep l x 43 = .bool ((((gd l x).Frame).Head).Eosp):=rfl
theorem e_TStep_44 (l:List TStep) (x:Nat):enR c_TStep l x 44 = .ro 1 (((gd l x).Frame).Body).length false (enR xM (((gd l x).Frame).Body)):=rfl
theorem fit_TStep (n:Nat) (l:List TStep):Fit kX n (enR c_TStep l)=True:=eq_true (Fit_enR kc_TStep)
theorem de_TStep (l:List TStep):deR g_TStep l.length (enR c_TStep l)=l:=deR_enR gc_TStep l
theorem eta_TStep (a:TStep):TStep.mk a.Kind a.Aid a.Cat a.Now a.Frame=a:=rfl
theorem wA_TStep {v:AV} (h:aK 45 kX v):WkV (.agg (c_TStep (g_TStep (aL v)))) v/\nref (.agg (c_TStep (g_TStep (aL v)))):=aK_wk (f:=c_TStep) (g:=g_TStep) (fun r h=>w_TStep h) rfl (by simp only [c_TStep,nrefL,nref,and_self]) h
def tG (a:List TStep):List AV:=[.ro 45 a.length false (enR c_TStep a)]
def g_lTStep (f:Nat->AV):List TStep:=lA g_TStep (f 0)
def cT (f:Nat->AV):Prop:=lK kX 45 (f 0)
theorem gc_lTStep (a:List TStep):g_lTStep (zL (tG a))=a:=by
 simp only [g_lTStep,tG,zL,iA,bA,sA,lA,deR_enR gc_TStep]
theorem kc_lTStep (a:List TStep):cT (zL (tG a)):=by
 simp only [cT,tG,zL,iK,bK,sK,lK,or_true,true_and,and_true,and_self,Fit_enR kc_TStep]
theorem nr_lTStep (a:List TStep):nrefL (tG a):=by simp only [tG,nrefL,nref,and_self]
instance:NRf tG:=⟨nr_lTStep⟩
instance:KCf cT tG:=⟨kc_lTStep⟩
theorem e_lTStep_0 (l:List (List TStep)) (x:Nat):enR tG l x 0 = .ro 45 (gd l x).length false (enR c_TStep (gd l x)):=rfl
theorem fit_lTStep (n:Nat) (l:List (List TStep)):Fit cT n (enR tG l)=True:=eq_true (Fit_enR kc_lTStep)
theorem de_lTStep (l:List (List TStep)):deR g_lTStep l.length (enR tG l)=l:=deR_enR gc_lTStep l
def eH (a:Int):List AV:=[.int .u64 a]
def g_u64 (f:Nat->AV):Int:=iA (f 0)
def k_u64 (f:Nat->AV):Prop:=iK .u64 (f 0)
theorem gc_u64 (a:Int):g_u64 (zL (eH a))=a:=by
 simp only [g_u64,eH,zL,iA,bA,sA,lA]
theorem kc_u64 (a:Int):k_u64 (zL (eH a)):=by
 simp only [k_u64,eH,zL,iK,bK,sK,lK,or_true,true_and,and_true,and_self]
theorem nr_u64 (a:Int):nrefL (eH a):=by simp only [eH,nrefL,nref,and_self]
instance:NOf eH:=⟨fun a=>by simp only [eH,tC,noro,and_self]⟩
instance:NRf eH:=⟨nr_u64⟩
instance:KCf k_u64 eH:=⟨kc_u64⟩
theorem e_u64_0 (l:List Int) (x:Nat):enR eH l x 0 = .int .u64 (gd l x):=rfl
theorem fit_u64 (n:Nat) (l:List Int):Fit k_u64 n (enR eH l)=True:=eq_true (Fit_enR kc_u64)
theorem de_u64 (l:List Int):deR g_u64 l.length (enR eH l)=l:=deR_enR gc_u64 l
def shT (t:TypeId):Option (List Leaf):=if t=28 then some [.i .u8,.i .u8,.i .u8,.i .u8,.i .u8,.i .u8] else if t=30 then some (.i .u8::.i .u8::.b::.b::.b::.b::.b::.b::.b::.i .i64::.i .u8::.i .u8::.i .u8::.i .u8::.i .u8::.i .u8::.i .u8::.i .u8::.i .u8::.i .u8::.i .u8::.i .u8::.i .u8::.i .u8::.i .u8::.i .u8::.i .u8::.i .u8::.i .u8::.i .u8::.i .u8::.i .u8::.i .u8::.i .u8::.i .i64::.i .i64::.i .i64::.i .u8::.b::.b::[]) else none
theorem zQ:fY Try.prog shT:=by
 refine shOk_of fun t l h=>?_
 unfold shT at h
 split at h
 ·rename_i ht;subst ht;injection h with h;subst h;exact ⟨by kernel_rfl,by kernel_rfl,by kernel_rfl⟩
 split at h
 ·rename_i ht;subst ht;injection h with h;subst h;exact ⟨by kernel_rfl,by kernel_rfl,by kernel_rfl⟩
 cases h
theorem shT_28:shT 28=some [.i .u8,.i .u8,.i .u8,.i .u8,.i .u8,.i .u8]:=rfl
theorem shT_30:shT 30=some (.i .u8::.i .u8::.b::.b::.b::.b::.b::.b::.b::.i .i64::.i .u8::.i .u8::.i .u8::.i .u8::.i .u8::.i .u8::.i .u8::.i .u8::.i .u8::.i .u8::.i .u8::.i .u8::.i .u8::.i .u8::.i .u8::.i .u8::.i .u8::.i .u8::.i .u8::.i .u8::.i .u8::.i .u8::.i .u8::.i .u8::.i .i64::.i .i64::.i .i64::.i .u8::.b::.b::[]):=rfl
theorem Fit_app {k:(Nat->AV)->Prop} {n p:Nat} {c d:Nat->Nat->AV} (h1:Fit k p c) (h2:Fit k (n - p) d):Fit k n (kF p c d):=fun x hx=>by
 by_cases h:x < p
 ·rw [show kF p c d x=c x from funext fun y=>if_pos h];exact h1 x h
 ·rw [show kF p c d x=d (x - p) from funext fun y=>if_neg h];exact h2 _ (by omega)
def ctNo:Ct:=tab []
theorem zA:yZ Try.prog ctNo:=zY
theorem strE_u8 (s:ByteArray):strE s=enR xM (fR s):=strE_en (fun _=>rfl) s
theorem rg {ct:Ct} (C:yZ Try.prog ct) {a:Code} {K:Kt} {t:List AV} {h:List ABlk} (hw:wpC Try.prog shT ct a K t h):Mean Try.prog a K t h:=wpC_sound zQ C a K t h hw
theorem sq {ct:Ct} (C:yZ Try.prog ct) {a b:Code} {K:Kt} {t:List AV} {h:List ABlk} (hw:wpC Try.prog shT ct a (kM Try.prog b K) t h):Mean Try.prog (.seq a b) K t h:=zK (wpC_sound zQ C a _ t h hw)
theorem bsj {α β : Type} {x : α} {f : α -> Option β} {r : β} (h : (some x).bind f=some r) : ∃ w,x=w /\ f w=some r:=⟨x,rfl,h⟩
theorem nI {α : Type} {q : Int} {n : Nat} {k : Option α} {r : α} (h : need (inb q n) k=some r) : (0 <= q /\ q < n /\ q.toNat < n) /\ k=some r:=⟨uQ.1 (yT.1 h).1,(yT.1 h).2⟩
theorem nC {α : Type} {b n : Nat} {k : Option α} {r : α} (h : need (capb b n) k=some r) : ((n : Int) * b <= 140737488355328 /\ n <= 140737488355328) /\ k=some r:=⟨capb_iff.1 (yT.1 h).1,(yT.1 h).2⟩
theorem nS {α : Type} {p q : Int} {n : Nat} {k : Option α} {r : α} (h : need (slb p q n) k=some r) : (0 <= p /\ p <= q /\ q <= n) /\ k=some r:=⟨dP.1 (yT.1 h).1,(yT.1 h).2⟩
theorem aI {A B : Prop} (a : A) (b : B) : A /\ B:=⟨a,b⟩
theorem lC {α : Type} {a : α} {l : List α} : (a::l).length=l.length+1:=rfl
theorem lN {α : Type} : ([] : List α).length=0:=rfl
theorem rS {α : Type} {a : α} {n : Nat} : List.replicate (n+1) a=a::List.replicate n a:=rfl
theorem rZ {α : Type} {a : α} : List.replicate 0 a=[]:=rfl
theorem aC {α : Type} {a : α} {l m : List α} : a::l ++ m=a::(l ++ m):=rfl
theorem aN {α : Type} {l : List α} : [] ++ l=l:=rfl
theorem tS {α : Type} {a : α} {l : List α} {n : Nat} : (a::l).take (n+1)=a::l.take n:=rfl
theorem tZ {α : Type} {l : List α} : l.take 0=[]:=rfl
theorem dS {α : Type} {a : α} {l : List α} {n : Nat} : (a::l).drop (n+1)=l.drop n:=rfl
theorem dZ {α : Type} {l : List α} : l.drop 0=l:=rfl
theorem oE {α : Type} {o : Option α} : o.isSome=true ↔ ∃ a,o=some a:=Option.isSome_iff_exists
end Go.Proofs.Ytefiemaoacmdkaa

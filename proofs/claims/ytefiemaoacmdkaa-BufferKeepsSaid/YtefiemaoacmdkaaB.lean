/-
  Go's values as typed values.
-/
import Derived.Test.YtefiemaoacmdkaaT
import Derived.Test.YtefiemaoacmdkaaPm10
namespace Go.Proofs.Ytefiemaoacmdkaa
open Go.Am
set_option linter.unusedVariables false
set_option linter.unusedSimpArgs false
def xJ (a:Int):List AV:=[.int .u8 a]
def kT (f:Nat->AV):Int:=iA (f 0)
def k_u8 (f:Nat->AV):Prop:=iK .u8 (f 0)
theorem gc_u8 (a:Int):kT (zN (xJ a))=a:=by
 simp only [kT,xJ,zN,iA,bA,sA,lA]
theorem kc_u8 (a:Int):k_u8 (zN (xJ a)):=by
 simp only [k_u8,xJ,zN,iK,bK,sK,lK,or_true,true_and,and_true,and_self]
theorem nr_u8 (a:Int):nrefL (xJ a):=by simp only [xJ,nrefL,nref,and_self]
instance:NOf xJ:=⟨fun a=>by simp only [xJ,uY,noro,and_self]⟩
instance:NRf xJ:=⟨nr_u8⟩
instance:KCf k_u8 xJ:=⟨kc_u8⟩
theorem w_u8 {f:Nat->AV} (h:k_u8 f):∀ y,y < 1->WkV (zN (xJ (kT f)) y) (f y)/\nref (zN (xJ (kT f)) y):=by
 have h0:=h
 intro y hy
 match y,hy with
 | 0,_=>exact yK h0
 | y+1,hy=>omega
theorem e_u8_0 (l:List Int) (x:Nat):enR xJ l x 0 = .int .u8 (gd l x):=rfl
theorem fit_u8 (n:Nat) (l:List Int):Fit k_u8 n (enR xJ l)=True:=eq_true (xX kc_u8)
theorem de_u8 (l:List Int):deR kT l.length (enR xJ l)=l:=wC gc_u8 l
def uH (a:Int):List AV:=[.int .i64 a]
def tN (f:Nat->AV):Int:=iA (f 0)
def cS (f:Nat->AV):Prop:=iK .i64 (f 0)
theorem gc_i64 (a:Int):tN (zN (uH a))=a:=by
 simp only [tN,uH,zN,iA,bA,sA,lA]
theorem kc_i64 (a:Int):cS (zN (uH a)):=by
 simp only [cS,uH,zN,iK,bK,sK,lK,or_true,true_and,and_true,and_self]
theorem nr_i64 (a:Int):nrefL (uH a):=by simp only [uH,nrefL,nref,and_self]
instance:NOf uH:=⟨fun a=>by simp only [uH,uY,noro,and_self]⟩
instance:NRf uH:=⟨nr_i64⟩
instance:KCf cS uH:=⟨kc_i64⟩
theorem w_i64 {f:Nat->AV} (h:cS f):∀ y,y < 1->WkV (zN (uH (tN f)) y) (f y)/\nref (zN (uH (tN f)) y):=by
 have h0:=h
 intro y hy
 match y,hy with
 | 0,_=>exact yK h0
 | y+1,hy=>omega
theorem e_i64_0 (l:List Int) (x:Nat):enR uH l x 0 = .int .i64 (gd l x):=rfl
theorem fit_i64 (n:Nat) (l:List Int):Fit cS n (enR uH l)=True:=eq_true (xX kc_i64)
theorem de_i64 (l:List Int):deR tN l.length (enR uH l)=l:=wC gc_i64 l
def c_b (a:Bool):List AV:=[.bool a]
def g_b (f:Nat->AV):Bool:=bA (f 0)
def k_b (f:Nat->AV):Prop:=bK (f 0)
theorem gc_b (a:Bool):g_b (zN (c_b a))=a:=by
 simp only [g_b,c_b,zN,iA,bA,sA,lA]
theorem kc_b (a:Bool):k_b (zN (c_b a)):=by
 simp only [k_b,c_b,zN,iK,bK,sK,lK,or_true,true_and,and_true,and_self]
theorem nr_b (a:Bool):nrefL (c_b a):=by simp only [c_b,nrefL,nref,and_self]
instance:NOf c_b:=⟨fun a=>by simp only [c_b,uY,noro,and_self]⟩
instance:NRf c_b:=⟨nr_b⟩
instance:KCf k_b c_b:=⟨kc_b⟩
theorem e_b_0 (l:List Bool) (x:Nat):enR c_b l x 0 = .bool (gd l x):=rfl
theorem fit_b (n:Nat) (l:List Bool):Fit k_b n (enR c_b l)=True:=eq_true (xX kc_b)
theorem de_b (l:List Bool):deR g_b l.length (enR c_b l)=l:=wC gc_b l
def c_s (a:ByteArray):List AV:=[.str a]
def g_s (f:Nat->AV):ByteArray:=sA (f 0)
def k_s (f:Nat->AV):Prop:=sK (f 0)
theorem gc_s (a:ByteArray):g_s (zN (c_s a))=a:=by
 simp only [g_s,c_s,zN,iA,bA,sA,lA]
theorem kc_s (a:ByteArray):k_s (zN (c_s a)):=by
 simp only [k_s,c_s,zN,iK,bK,sK,lK,or_true,true_and,and_true,and_self]
theorem nr_s (a:ByteArray):nrefL (c_s a):=by simp only [c_s,nrefL,nref,and_self]
instance:NOf c_s:=⟨fun a=>by simp only [c_s,uY,noro,and_self]⟩
instance:NRf c_s:=⟨nr_s⟩
instance:KCf k_s c_s:=⟨kc_s⟩
theorem e_s_0 (l:List ByteArray) (x:Nat):enR c_s l x 0 = .str (gd l x):=rfl
theorem fit_s (n:Nat) (l:List ByteArray):Fit k_s n (enR c_s l)=True:=eq_true (xX kc_s)
theorem de_s (l:List ByteArray):deR g_s l.length (enR c_s l)=l:=wC gc_s l
structure A6u8 where
 x0:Int
 x1:Int
 x2:Int
 x3:Int
 x4:Int
 x5:Int
 deriving Inhabited
def uO (a:A6u8):List AV:=[.int .u8 a.x0,.int .u8 a.x1,.int .u8 a.x2,.int .u8 a.x3,.int .u8 a.x4,.int .u8 a.x5]
def g_A6u8 (f:Nat->AV):A6u8:=⟨iA (f 0),iA (f 1),iA (f 2),iA (f 3),iA (f 4),iA (f 5)⟩
def k_A6u8 (f:Nat->AV):Prop:=iK .u8 (f 0)/\iK .u8 (f 1)/\iK .u8 (f 2)/\iK .u8 (f 3)/\iK .u8 (f 4)/\iK .u8 (f 5)
theorem gc_A6u8 (a:A6u8):g_A6u8 (zN (uO a))=a:=by
 simp only [g_A6u8,uO,zN,iA,bA,sA,lA]
theorem kc_A6u8 (a:A6u8):k_A6u8 (zN (uO a)):=by
 simp only [k_A6u8,uO,zN,iK,bK,sK,lK,or_true,true_and,and_true,and_self]
theorem nr_A6u8 (a:A6u8):nrefL (uO a):=by simp only [uO,nrefL,nref,and_self]
instance:NOf uO:=⟨fun a=>by simp only [uO,uY,noro,and_self]⟩
instance:NRf uO:=⟨nr_A6u8⟩
instance:KCf k_A6u8 uO:=⟨kc_A6u8⟩
theorem e_A6u8_0 (l:List A6u8) (x:Nat):enR uO l x 0 = .int .u8 ((gd l x).x0):=rfl
theorem e_A6u8_1 (l:List A6u8) (x:Nat):enR uO l x 1 = .int .u8 ((gd l x).x1):=rfl
theorem e_A6u8_2 (l:List A6u8) (x:Nat):enR uO l x 2 = .int .u8 ((gd l x).x2):=rfl
theorem e_A6u8_3 (l:List A6u8) (x:Nat):enR uO l x 3 = .int .u8 ((gd l x).x3):=rfl
theorem e_A6u8_4 (l:List A6u8) (x:Nat):enR uO l x 4 = .int .u8 ((gd l x).x4):=rfl
theorem e_A6u8_5 (l:List A6u8) (x:Nat):enR uO l x 5 = .int .u8 ((gd l x).x5):=rfl
theorem fit_A6u8 (n:Nat) (l:List A6u8):Fit k_A6u8 n (enR uO l)=True:=eq_true (xX kc_A6u8)
theorem de_A6u8 (l:List A6u8):deR g_A6u8 l.length (enR uO l)=l:=wC gc_A6u8 l
theorem eta_A6u8 (a:A6u8):A6u8.mk a.x0 a.x1 a.x2 a.x3 a.x4 a.x5=a:=rfl
structure THeader where
 Kind:Int
 Sub:Int
 ToDs:Bool
 FromDs:Bool
 More:Bool
 Retry:Bool
 Sleep:Bool
 MoreData:Bool
 Protected:Bool
 Duration:Int
 A1:A6u8
 A2:A6u8
 A3:A6u8
 A4:A6u8
 Seq:Int
 Frag:Int
 Tid:Int
 Ack:Int
 Amsdu:Bool
 Eosp:Bool
 deriving Inhabited
def yL (a:THeader):List AV:=(.int .u8 a.Kind::.int .u8 a.Sub::.bool a.ToDs::.bool a.FromDs::.bool a.More::.bool a.Retry::.bool a.Sleep::.bool a.MoreData::.bool a.Protected::.int .i64 a.Duration::.int .u8 a.A1.x0::.int .u8 a.A1.x1::.int .u8 a.A1.x2::.int .u8 a.A1.x3::.int .u8 a.A1.x4::.int .u8 a.A1.x5::.int .u8 a.A2.x0::.int .u8 a.A2.x1::.int .u8 a.A2.x2::.int .u8 a.A2.x3::.int .u8 a.A2.x4::.int .u8 a.A2.x5::.int .u8 a.A3.x0::.int .u8 a.A3.x1::.int .u8 a.A3.x2::.int .u8 a.A3.x3::.int .u8 a.A3.x4::.int .u8 a.A3.x5::.int .u8 a.A4.x0::.int .u8 a.A4.x1::.int .u8 a.A4.x2::.int .u8 a.A4.x3::.int .u8 a.A4.x4::.int .u8 a.A4.x5::.int .i64 a.Seq::.int .i64 a.Frag::.int .i64 a.Tid::.int .u8 a.Ack::.bool a.Amsdu::.bool a.Eosp::[])
def bV (f:Nat->AV):THeader:=⟨iA (f 0),iA (f 1),bA (f 2),bA (f 3),bA (f 4),bA (f 5),bA (f 6),bA (f 7),bA (f 8),iA (f 9),⟨iA (f 10),iA (f 11),iA (f 12),iA (f 13),iA (f 14),iA (f 15)⟩,⟨iA (f 16),iA (f 17),iA (f 18),iA (f 19),iA (f 20),iA (f 21)⟩,⟨iA (f 22),iA (f 23),iA (f 24),iA (f 25),iA (f 26),iA (f 27)⟩,⟨iA (f 28),iA (f 29),iA (f 30),iA (f 31),iA (f 32),iA (f 33)⟩,iA (f 34),iA (f 35),iA (f 36),iA (f 37),bA (f 38),bA (f 39)⟩
def eJ (f:Nat->AV):Prop:=iK .u8 (f 0)/\iK .u8 (f 1)/\bK (f 2)/\bK (f 3)/\bK (f 4)/\bK (f 5)/\bK (f 6)/\bK (f 7)/\bK (f 8)/\iK .i64 (f 9)/\iK .u8 (f 10)/\iK .u8 (f 11)/\iK .u8 (f 12)/\iK .u8 (f 13)/\iK .u8 (f 14)/\iK .u8 (f 15)/\iK .u8 (f 16)/\iK .u8 (f 17)/\iK .u8 (f 18)/\iK .u8 (f 19)/\iK .u8 (f 20)/\iK .u8 (f 21)/\iK .u8 (f 22)/\iK .u8 (f 23)/\iK .u8 (f 24)/\iK .u8 (f 25)/\iK .u8 (f 26)/\iK .u8 (f 27)/\iK .u8 (f 28)/\iK .u8 (f 29)/\iK .u8 (f 30)/\iK .u8 (f 31)/\iK .u8 (f 32)/\iK .u8 (f 33)/\iK .i64 (f 34)/\iK .i64 (f 35)/\iK .i64 (f 36)/\iK .u8 (f 37)/\bK (f 38)/\bK (f 39)
theorem gc_THeader (a:THeader):bV (zN (yL a))=a:=by
 simp only [bV,yL,zN,iA,bA,sA,lA]
theorem kc_THeader (a:THeader):eJ (zN (yL a)):=by
 simp only [eJ,yL,zN,iK,bK,sK,lK,or_true,true_and,and_true,and_self]
theorem nr_THeader (a:THeader):nrefL (yL a):=by simp only [yL,nrefL,nref,and_self]
instance:NOf yL:=⟨fun a=>by simp only [yL,uY,noro,and_self]⟩
instance:NRf yL:=⟨nr_THeader⟩
instance:KCf eJ yL:=⟨kc_THeader⟩
theorem e_THeader_0 (l:List THeader) (x:Nat):enR yL l x 0 = .int .u8 ((gd l x).Kind):=rfl
theorem e_THeader_1 (l:List THeader) (x:Nat):enR yL l x 1 = .int .u8 ((gd l x).Sub):=rfl
theorem e_THeader_2 (l:List THeader) (x:Nat):enR yL l x 2 = .bool ((gd l x).ToDs):=rfl
theorem e_THeader_3 (l:List THeader) (x:Nat):enR yL l x 3 = .bool ((gd l x).FromDs):=rfl
theorem e_THeader_4 (l:List THeader) (x:Nat):enR yL l x 4 = .bool ((gd l x).More):=rfl
theorem e_THeader_5 (l:List THeader) (x:Nat):enR yL l x 5 = .bool ((gd l x).Retry):=rfl
theorem e_THeader_6 (l:List THeader) (x:Nat):enR yL l x 6 = .bool ((gd l x).Sleep):=rfl
theorem e_THeader_7 (l:List THeader) (x:Nat):enR yL l x 7 = .bool ((gd l x).MoreData):=rfl
theorem e_THeader_8 (l:List THeader) (x:Nat):enR yL l x 8 = .bool ((gd l x).Protected):=rfl
theorem e_THeader_9 (l:List THeader) (x:Nat):enR yL l x 9 = .int .i64 ((gd l x).Duration):=rfl
theorem e_THeader_10 (l:List THeader) (x:Nat):enR yL l x 10 = .int .u8 (((gd l x).A1).x0):=rfl
theorem e_THeader_11 (l:List THeader) (x:Nat):enR yL l x 11 = .int .u8 (((gd l x).A1).x1):=rfl
theorem e_THeader_12 (l:List THeader) (x:Nat):enR yL l x 12 = .int .u8 (((gd l x).A1).x2):=rfl
theorem e_THeader_13 (l:List THeader) (x:Nat):enR yL l x 13 = .int .u8 (((gd l x).A1).x3):=rfl
theorem e_THeader_14 (l:List THeader) (x:Nat):enR yL l x 14 = .int .u8 (((gd l x).A1).x4):=rfl
theorem e_THeader_15 (l:List THeader) (x:Nat):enR yL l x 15 = .int .u8 (((gd l x).A1).x5):=rfl
theorem e_THeader_16 (l:List THeader) (x:Nat):enR yL l x 16 = .int .u8 (((gd l x).A2).x0):=rfl
theorem e_THeader_17 (l:List THeader) (x:Nat):enR yL l x 17 = .int .u8 (((gd l x).A2).x1):=rfl
theorem e_THeader_18 (l:List THeader) (x:Nat):enR yL l x 18 = .int .u8 (((gd l x).A2).x2):=rfl
theorem e_THeader_19 (l:List THeader) (x:Nat):enR yL l x 19 = .int .u8 (((gd l x).A2).x3):=rfl
theorem e_THeader_20 (l:List THeader) (x:Nat):enR yL l x 20 = .int .u8 (((gd l x).A2).x4):=rfl
theorem e_THeader_21 (l:List THeader) (x:Nat):enR yL l x 21 = .int .u8 (((gd l x).A2).x5):=rfl
theorem e_THeader_22 (l:List THeader) (x:Nat):enR yL l x 22 = .int .u8 (((gd l x).A3).x0):=rfl
theorem e_THeader_23 (l:List THeader) (x:Nat):enR yL l x 23 = .int .u8 (((gd l x).A3).x1):=rfl
theorem e_THeader_24 (l:List THeader) (x:Nat):enR yL l x 24 = .int .u8 (((gd l x).A3).x2):=rfl
theorem e_THeader_25 (l:List THeader) (x:Nat):enR yL l x 25 = .int .u8 (((gd l x).A3).x3):=rfl
theorem e_THeader_26 (l:List THeader) (x:Nat):enR yL l x 26 = .int .u8 (((gd l x).A3).x4):=rfl
theorem e_THeader_27 (l:List THeader) (x:Nat):enR yL l x 27 = .int .u8 (((gd l x).A3).x5):=rfl
theorem e_THeader_28 (l:List THeader) (x:Nat):enR yL l x 28 = .int .u8 (((gd l x).A4).x0):=rfl
theorem e_THeader_29 (l:List THeader) (x:Nat):enR yL l x 29 = .int .u8 (((gd l x).A4).x1):=rfl
theorem e_THeader_30 (l:List THeader) (x:Nat):enR yL l x 30 = .int .u8 (((gd l x).A4).x2):=rfl
theorem e_THeader_31 (l:List THeader) (x:Nat):enR yL l x 31 = .int .u8 (((gd l x).A4).x3):=rfl
theorem e_THeader_32 (l:List THeader) (x:Nat):enR yL l x 32 = .int .u8 (((gd l x).A4).x4):=rfl
theorem e_THeader_33 (l:List THeader) (x:Nat):enR yL l x 33 = .int .u8 (((gd l x).A4).x5):=rfl
theorem e_THeader_34 (l:List THeader) (x:Nat):enR yL l x 34 = .int .i64 ((gd l x).Seq):=rfl
theorem e_THeader_35 (l:List THeader) (x:Nat):enR yL l x 35 = .int .i64 ((gd l x).Frag):=rfl
theorem e_THeader_36 (l:List THeader) (x:Nat):enR yL l x 36 = .int .i64 ((gd l x).Tid):=rfl
theorem e_THeader_37 (l:List THeader) (x:Nat):enR yL l x 37 = .int .u8 ((gd l x).Ack):=rfl
theorem e_THeader_38 (l:List THeader) (x:Nat):enR yL l x 38 = .bool ((gd l x).Amsdu):=rfl
theorem e_THeader_39 (l:List THeader) (x:Nat):enR yL l x 39 = .bool ((gd l x).Eosp):=rfl
theorem fit_THeader (n:Nat) (l:List THeader):Fit eJ n (enR yL l)=True:=eq_true (xX kc_THeader)
theorem de_THeader (l:List THeader):deR bV l.length (enR yL l)=l:=wC gc_THeader l
theorem eta_THeader (a:THeader):THeader.mk a.Kind a.Sub a.ToDs a.FromDs a.More a.Retry a.Sleep a.MoreData a.Protected a.Duration a.A1 a.A2 a.A3 a.A4 a.Seq a.Frag a.Tid a.Ack a.Amsdu a.Eosp=a:=rfl
def cK (a:List Int):List AV:=[.ro 1 a.length false (enR xJ a)]
def g_lu8 (f:Nat->AV):List Int:=lA kT (f 0)
def k_lu8 (f:Nat->AV):Prop:=lK k_u8 1 (f 0)
theorem gc_lu8 (a:List Int):g_lu8 (zN (cK a))=a:=by
 simp only [g_lu8,cK,zN,iA,bA,sA,lA,wC gc_u8]
theorem kc_lu8 (a:List Int):k_lu8 (zN (cK a)):=by
 simp only [k_lu8,cK,zN,iK,bK,sK,lK,or_true,true_and,and_true,and_self,xX kc_u8]
theorem nr_lu8 (a:List Int):nrefL (cK a):=by simp only [cK,nrefL,nref,and_self]
instance:NRf cK:=⟨nr_lu8⟩
instance:KCf k_lu8 cK:=⟨kc_lu8⟩
theorem e_lu8_0 (l:List (List Int)) (x:Nat):enR cK l x 0 = .ro 1 (gd l x).length false (enR xJ (gd l x)):=rfl
theorem fit_lu8 (n:Nat) (l:List (List Int)):Fit k_lu8 n (enR cK l)=True:=eq_true (xX kc_lu8)
theorem de_lu8 (l:List (List Int)):deR g_lu8 l.length (enR cK l)=l:=wC gc_lu8 l
structure TFrame where
 Head:THeader
 Body:_root_.List Int
 deriving Inhabited
def zK (a:TFrame):List AV:=(.int .u8 a.Head.Kind::.int .u8 a.Head.Sub::.bool a.Head.ToDs::.bool a.Head.FromDs::.bool a.Head.More::.bool a.Head.Retry::.bool a.Head.Sleep::.bool a.Head.MoreData::.bool a.Head.Protected::.int .i64 a.Head.Duration::.int .u8 a.Head.A1.x0::.int .u8 a.Head.A1.x1::.int .u8 a.Head.A1.x2::.int .u8 a.Head.A1.x3::.int .u8 a.Head.A1.x4::.int .u8 a.Head.A1.x5::.int .u8 a.Head.A2.x0::.int .u8 a.Head.A2.x1::.int .u8 a.Head.A2.x2::.int .u8 a.Head.A2.x3::.int .u8 a.Head.A2.x4::.int .u8 a.Head.A2.x5::.int .u8 a.Head.A3.x0::.int .u8 a.Head.A3.x1::.int .u8 a.Head.A3.x2::.int .u8 a.Head.A3.x3::.int .u8 a.Head.A3.x4::.int .u8 a.Head.A3.x5::.int .u8 a.Head.A4.x0::.int .u8 a.Head.A4.x1::.int .u8 a.Head.A4.x2::.int .u8 a.Head.A4.x3::.int .u8 a.Head.A4.x4::.int .u8 a.Head.A4.x5::.int .i64 a.Head.Seq::.int .i64 a.Head.Frag::.int .i64 a.Head.Tid::.int .u8 a.Head.Ack::.bool a.Head.Amsdu::.bool a.Head.Eosp::.ro 1 a.Body.length false (enR xJ a.Body)::[])
def zS (f:Nat->AV):TFrame:=⟨⟨iA (f 0),iA (f 1),bA (f 2),bA (f 3),bA (f 4),bA (f 5),bA (f 6),bA (f 7),bA (f 8),iA (f 9),⟨iA (f 10),iA (f 11),iA (f 12),iA (f 13),iA (f 14),iA (f 15)⟩,⟨iA (f 16),iA (f 17),iA (f 18),iA (f 19),iA (f 20),iA (f 21)⟩,⟨iA (f 22),iA (f 23),iA (f 24),iA (f 25),iA (f 26),iA (f 27)⟩,⟨iA (f 28),iA (f 29),iA (f 30),iA (f 31),iA (f 32),iA (f 33)⟩,iA (f 34),iA (f 35),iA (f 36),iA (f 37),bA (f 38),bA (f 39)⟩,lA kT (f 40)⟩
def vE (f:Nat->AV):Prop:=iK .u8 (f 0)/\iK .u8 (f 1)/\bK (f 2)/\bK (f 3)/\bK (f 4)/\bK (f 5)/\bK (f 6)/\bK (f 7)/\bK (f 8)/\iK .i64 (f 9)/\iK .u8 (f 10)/\iK .u8 (f 11)/\iK .u8 (f 12)/\iK .u8 (f 13)/\iK .u8 (f 14)/\iK .u8 (f 15)/\iK .u8 (f 16)/\iK .u8 (f 17)/\iK .u8 (f 18)/\iK .u8 (f 19)/\iK .u8 (f 20)/\iK .u8 (f 21)/\iK .u8 (f 22)/\iK .u8 (f 23)/\iK .u8 (f 24)/\iK .u8 (f 25)/\iK .u8 (f 26)/\iK .u8 (f 27)/\iK .u8 (f 28)/\iK .u8 (f 29)/\iK .u8 (f 30)/\iK .u8 (f 31)/\iK .u8 (f 32)/\iK .u8 (f 33)/\iK .i64 (f 34)/\iK .i64 (f 35)/\iK .i64 (f 36)/\iK .u8 (f 37)/\bK (f 38)/\bK (f 39)/\lK k_u8 1 (f 40)
theorem gc_TFrame (a:TFrame):zS (zN (zK a))=a:=by
 simp only [zS,zK,zN,iA,bA,sA,lA,wC gc_u8]
theorem kc_TFrame (a:TFrame):vE (zN (zK a)):=by
 simp only [vE,zK,zN,iK,bK,sK,lK,or_true,true_and,and_true,and_self,xX kc_u8]
theorem xE (a:TFrame):nrefL (zK a):=by simp only [zK,nrefL,nref,and_self]
instance:NRf zK:=⟨xE⟩
instance:KCf vE zK:=⟨kc_TFrame⟩
theorem w_TFrame {f:Nat->AV} (h:vE f):∀ y,y < 41->WkV (zN (zK (zS f)) y) (f y)/\nref (zN (zK (zS f)) y):=by
 obtain ⟨h0,h1,h2,h3,h4,h5,h6,h7,h8,h9,h10,h11,h12,h13,h14,h15,h16,h17,h18,h19,h20,h21,h22,h23,h24,h25,h26,h27,h28,h29,h30,h31,h32,h33,h34,h35,h36,h37,h38,h39,h40⟩:=h
 intro y hy
 match y,hy with
 | 0,_=>exact yK h0
 | 1,_=>exact yK h1
 | 2,_=>exact uG h2
 | 3,_=>exact uG h3
 | 4,_=>exact uG h4
 | 5,_=>exact uG h5
 | 6,_=>exact uG h6
 | 7,_=>exact uG h7
 | 8,_=>exact uG h8
 | 9,_=>exact yK h9
 | 10,_=>exact yK h10
 | 11,_=>exact yK h11
 | 12,_=>exact yK h12
 | 13,_=>exact yK h13
 | 14,_=>exact yK h14
 | 15,_=>exact yK h15
 | 16,_=>exact yK h16
 | 17,_=>exact yK h17
 | 18,_=>exact yK h18
 | 19,_=>exact yK h19
 | 20,_=>exact yK h20
 | 21,_=>exact yK h21
 | 22,_=>exact yK h22
 | 23,_=>exact yK h23
 | 24,_=>exact yK h24
 | 25,_=>exact yK h25
 | 26,_=>exact yK h26
 | 27,_=>exact yK h27
 | 28,_=>exact yK h28
 | 29,_=>exact yK h29
 | 30,_=>exact yK h30
 | 31,_=>exact yK h31
 | 32,_=>exact yK h32
 | 33,_=>exact yK h33
 | 34,_=>exact yK h34
 | 35,_=>exact yK h35
 | 36,_=>exact yK h36
 | 37,_=>exact yK h37
 | 38,_=>exact uG h38
 | 39,_=>exact uG h39
 | 40,_=>exact tU (fun r h=>w_u8 h) h40
 | y+41,hy=>omega
theorem e_TFrame_0 (l:List TFrame) (x:Nat):enR zK l x 0 = .int .u8 (((gd l x).Head).Kind):=rfl
theorem e_TFrame_1 (l:List TFrame) (x:Nat):enR zK l x 1 = .int .u8 (((gd l x).Head).Sub):=rfl
theorem e_TFrame_2 (l:List TFrame) (x:Nat):enR zK l x 2 = .bool (((gd l x).Head).ToDs):=rfl
theorem e_TFrame_3 (l:List TFrame) (x:Nat):enR zK l x 3 = .bool (((gd l x).Head).FromDs):=rfl
theorem e_TFrame_4 (l:List TFrame) (x:Nat):enR zK l x 4 = .bool (((gd l x).Head).More):=rfl
theorem e_TFrame_5 (l:List TFrame) (x:Nat):enR zK l x 5 = .bool (((gd l x).Head).Retry):=rfl
theorem e_TFrame_6 (l:List TFrame) (x:Nat):enR zK l x 6 = .bool (((gd l x).Head).Sleep):=rfl
theorem e_TFrame_7 (l:List TFrame) (x:Nat):enR zK l x 7 = .bool (((gd l x).Head).MoreData):=rfl
theorem e_TFrame_8 (l:List TFrame) (x:Nat):enR zK l x 8 = .bool (((gd l x).Head).Protected):=rfl
theorem e_TFrame_9 (l:List TFrame) (x:Nat):enR zK l x 9 = .int .i64 (((gd l x).Head).Duration):=rfl
theorem e_TFrame_10 (l:List TFrame) (x:Nat):enR zK l x 10 = .int .u8 ((((gd l x).Head).A1).x0):=rfl
theorem e_TFrame_11 (l:List TFrame) (x:Nat):enR zK l x 11 = .int .u8 ((((gd l x).Head).A1).x1):=rfl
theorem e_TFrame_12 (l:List TFrame) (x:Nat):enR zK l x 12 = .int .u8 ((((gd l x).Head).A1).x2):=rfl
theorem e_TFrame_13 (l:List TFrame) (x:Nat):enR zK l x 13 = .int .u8 ((((gd l x).Head).A1).x3):=rfl
theorem e_TFrame_14 (l:List TFrame) (x:Nat):enR zK l x 14 = .int .u8 ((((gd l x).Head).A1).x4):=rfl
theorem e_TFrame_15 (l:List TFrame) (x:Nat):enR zK l x 15 = .int .u8 ((((gd l x).Head).A1).x5):=rfl
theorem e_TFrame_16 (l:List TFrame) (x:Nat):enR zK l x 16 = .int .u8 ((((gd l x).Head).A2).x0):=rfl
theorem e_TFrame_17 (l:List TFrame) (x:Nat):enR zK l x 17 = .int .u8 ((((gd l x).Head).A2).x1):=rfl
theorem e_TFrame_18 (l:List TFrame) (x:Nat):enR zK l x 18 = .int .u8 ((((gd l x).Head).A2).x2):=rfl
theorem e_TFrame_19 (l:List TFrame) (x:Nat):enR zK l x 19 = .int .u8 ((((gd l x).Head).A2).x3):=rfl
theorem e_TFrame_20 (l:List TFrame) (x:Nat):enR zK l x 20 = .int .u8 ((((gd l x).Head).A2).x4):=rfl
theorem e_TFrame_21 (l:List TFrame) (x:Nat):enR zK l x 21 = .int .u8 ((((gd l x).Head).A2).x5):=rfl
theorem e_TFrame_22 (l:List TFrame) (x:Nat):enR zK l x 22 = .int .u8 ((((gd l x).Head).A3).x0):=rfl
theorem e_TFrame_23 (l:List TFrame) (x:Nat):enR zK l x 23 = .int .u8 ((((gd l x).Head).A3).x1):=rfl
theorem e_TFrame_24 (l:List TFrame) (x:Nat):enR zK l x 24 = .int .u8 ((((gd l x).Head).A3).x2):=rfl
theorem e_TFrame_25 (l:List TFrame) (x:Nat):enR zK l x 25 = .int .u8 ((((gd l x).Head).A3).x3):=rfl
theorem e_TFrame_26 (l:List TFrame) (x:Nat):enR zK l x 26 = .int .u8 ((((gd l x).Head).A3).x4):=rfl
theorem e_TFrame_27 (l:List TFrame) (x:Nat):enR zK l x 27 = .int .u8 ((((gd l x).Head).A3).x5):=rfl
theorem e_TFrame_28 (l:List TFrame) (x:Nat):enR zK l x 28 = .int .u8 ((((gd l x).Head).A4).x0):=rfl
theorem e_TFrame_29 (l:List TFrame) (x:Nat):enR zK l x 29 = .int .u8 ((((gd l x).Head).A4).x1):=rfl
theorem e_TFrame_30 (l:List TFrame) (x:Nat):enR zK l x 30 = .int .u8 ((((gd l x).Head).A4).x2):=rfl
theorem e_TFrame_31 (l:List TFrame) (x:Nat):enR zK l x 31 = .int .u8 ((((gd l x).Head).A4).x3):=rfl
theorem e_TFrame_32 (l:List TFrame) (x:Nat):enR zK l x 32 = .int .u8 ((((gd l x).Head).A4).x4):=rfl
theorem e_TFrame_33 (l:List TFrame) (x:Nat):enR zK l x 33 = .int .u8 ((((gd l x).Head).A4).x5):=rfl
theorem e_TFrame_34 (l:List TFrame) (x:Nat):enR zK l x 34 = .int .i64 (((gd l x).Head).Seq):=rfl
theorem e_TFrame_35 (l:List TFrame) (x:Nat):enR zK l x 35 = .int .i64 (((gd l x).Head).Frag):=rfl
theorem e_TFrame_36 (l:List TFrame) (x:Nat):enR zK l x 36 = .int .i64 (((gd l x).Head).Tid):=rfl
theorem e_TFrame_37 (l:List TFrame) (x:Nat):enR zK l x 37 = .int .u8 (((gd l x).Head).Ack):=rfl
theorem e_TFrame_38 (l:List TFrame) (x:Nat):enR zK l x 38 = .bool (((gd l x).Head).Amsdu):=rfl
theorem e_TFrame_39 (l:List TFrame) (x:Nat):enR zK l x 39 = .bool (((gd l x).Head).Eosp):=rfl
theorem e_TFrame_40 (l:List TFrame) (x:Nat):enR zK l x 40 = .ro 1 ((gd l x).Body).length false (enR xJ ((gd l x).Body)):=rfl
theorem fit_TFrame (n:Nat) (l:List TFrame):Fit vE n (enR zK l)=True:=eq_true (xX kc_TFrame)
theorem de_TFrame (l:List TFrame):deR zS l.length (enR zK l)=l:=wC gc_TFrame l
theorem eta_TFrame (a:TFrame):TFrame.mk a.Head a.Body=a:=rfl
theorem qI {v:AV} (h:aK 41 vE v):WkV (.agg (zK (zS (aL v)))) v/\nref (.agg (zK (zS (aL v)))):=aK_wk (f:=zK) (g:=zS) (fun r h=>w_TFrame h) rfl (by simp only [zK,nrefL,nref,and_self]) h
structure TStored where
 Cat:Int
 At:Int
 Frame:TFrame
 deriving Inhabited
def zE (a:TStored):List AV:=(.int .u8 a.Cat::.int .i64 a.At::.int .u8 a.Frame.Head.Kind::.int .u8 a.Frame.Head.Sub::.bool a.Frame.Head.ToDs::.bool a.Frame.Head.FromDs::.bool a.Frame.Head.More::.bool a.Frame.Head.Retry::.bool a.Frame.Head.Sleep::.bool a.Frame.Head.MoreData::.bool a.Frame.Head.Protected::.int .i64 a.Frame.Head.Duration::.int .u8 a.Frame.Head.A1.x0::.int .u8 a.Frame.Head.A1.x1::.int .u8 a.Frame.Head.A1.x2::.int .u8 a.Frame.Head.A1.x3::.int .u8 a.Frame.Head.A1.x4::.int .u8 a.Frame.Head.A1.x5::.int .u8 a.Frame.Head.A2.x0::.int .u8 a.Frame.Head.A2.x1::.int .u8 a.Frame.Head.A2.x2::.int .u8 a.Frame.Head.A2.x3::.int .u8 a.Frame.Head.A2.x4::.int .u8 a.Frame.Head.A2.x5::.int .u8 a.Frame.Head.A3.x0::.int .u8 a.Frame.Head.A3.x1::.int .u8 a.Frame.Head.A3.x2::.int .u8 a.Frame.Head.A3.x3::.int .u8 a.Frame.Head.A3.x4::.int .u8 a.Frame.Head.A3.x5::.int .u8 a.Frame.Head.A4.x0::.int .u8 a.Frame.Head.A4.x1::.int .u8 a.Frame.Head.A4.x2::.int .u8 a.Frame.Head.A4.x3::.int .u8 a.Frame.Head.A4.x4::.int .u8 a.Frame.Head.A4.x5::.int .i64 a.Frame.Head.Seq::.int .i64 a.Frame.Head.Frag::.int .i64 a.Frame.Head.Tid::.int .u8 a.Frame.Head.Ack::.bool a.Frame.Head.Amsdu::.bool a.Frame.Head.Eosp::.ro 1 a.Frame.Body.length false (enR xJ a.Frame.Body)::[])
def yD (f:Nat->AV):TStored:=⟨iA (f 0),iA (f 1),⟨⟨iA (f 2),iA (f 3),bA (f 4),bA (f 5),bA (f 6),bA (f 7),bA (f 8),bA (f 9),bA (f 10),iA (f 11),⟨iA (f 12),iA (f 13),iA (f 14),iA (f 15),iA (f 16),iA (f 17)⟩,⟨iA (f 18),iA (f 19),iA (f 20),iA (f 21),iA (f 22),iA (f 23)⟩,⟨iA (f 24),iA (f 25),iA (f 26),iA (f 27),iA (f 28),iA (f 29)⟩,⟨iA (f 30),iA (f 31),iA (f 32),iA (f 33),iA (f 34),iA (f 35)⟩,iA (f 36),iA (f 37),iA (f 38),iA (f 39),bA (f 40),bA (f 41)⟩,lA kT (f 42)⟩⟩
def xS (f:Nat->AV):Prop:=iK .u8 (f 0)/\iK .i64 (f 1)/\iK .u8 (f 2)/\iK .u8 (f 3)/\bK (f 4)/\bK (f 5)/\bK (f 6)/\bK (f 7)/\bK (f 8)/\bK (f 9)/\bK (f 10)/\iK .i64 (f 11)/\iK .u8 (f 12)/\iK .u8 (f 13)/\iK .u8 (f 14)/\iK .u8 (f 15)/\iK .u8 (f 16)/\iK .u8 (f 17)/\iK .u8 (f 18)/\iK .u8 (f 19)/\iK .u8 (f 20)/\iK .u8 (f 21)/\iK .u8 (f 22)/\iK .u8 (f 23)/\iK .u8 (f 24)/\iK .u8 (f 25)/\iK .u8 (f 26)/\iK .u8 (f 27)/\iK .u8 (f 28)/\iK .u8 (f 29)/\iK .u8 (f 30)/\iK .u8 (f 31)/\iK .u8 (f 32)/\iK .u8 (f 33)/\iK .u8 (f 34)/\iK .u8 (f 35)/\iK .i64 (f 36)/\iK .i64 (f 37)/\iK .i64 (f 38)/\iK .u8 (f 39)/\bK (f 40)/\bK (f 41)/\lK k_u8 1 (f 42)
theorem dH (a:TStored):yD (zN (zE a))=a:=by
 simp only [yD,zE,zN,iA,bA,sA,lA,wC gc_u8]
theorem gL (a:TStored):xS (zN (zE a)):=by
 simp only [xS,zE,zN,iK,bK,sK,lK,or_true,true_and,and_true,and_self,xX kc_u8]
theorem zV (a:TStored):nrefL (zE a):=by simp only [zE,nrefL,nref,and_self]
instance:NRf zE:=⟨zV⟩
instance:KCf xS zE:=⟨gL⟩
theorem vQ {f:Nat->AV} (h:xS f):∀ y,y < 43->WkV (zN (zE (yD f)) y) (f y)/\nref (zN (zE (yD f)) y):=by
 obtain ⟨h0,h1,h2,h3,h4,h5,h6,h7,h8,h9,h10,h11,h12,h13,h14,h15,h16,h17,h18,h19,h20,h21,h22,h23,h24,h25,h26,h27,h28,h29,h30,h31,h32,h33,h34,h35,h36,h37,h38,h39,h40,h41,h42⟩:=h
 intro y hy
 match y,hy with
 | 0,_=>exact yK h0
 | 1,_=>exact yK h1
 | 2,_=>exact yK h2
 | 3,_=>exact yK h3
 | 4,_=>exact uG h4
 | 5,_=>exact uG h5
 | 6,_=>exact uG h6
 | 7,_=>exact uG h7
 | 8,_=>exact uG h8
 | 9,_=>exact uG h9
 | 10,_=>exact uG h10
 | 11,_=>exact yK h11
 | 12,_=>exact yK h12
 | 13,_=>exact yK h13
 | 14,_=>exact yK h14
 | 15,_=>exact yK h15
 | 16,_=>exact yK h16
 | 17,_=>exact yK h17
 | 18,_=>exact yK h18
 | 19,_=>exact yK h19
 | 20,_=>exact yK h20
 | 21,_=>exact yK h21
 | 22,_=>exact yK h22
 | 23,_=>exact yK h23
 | 24,_=>exact yK h24
 | 25,_=>exact yK h25
 | 26,_=>exact yK h26
 | 27,_=>exact yK h27
 | 28,_=>exact yK h28
 | 29,_=>exact yK h29
 | 30,_=>exact yK h30
 | 31,_=>exact yK h31
 | 32,_=>exact yK h32
 | 33,_=>exact yK h33
 | 34,_=>exact yK h34
 | 35,_=>exact yK h35
 | 36,_=>exact yK h36
 | 37,_=>exact yK h37
 | 38,_=>exact yK h38
 | 39,_=>exact yK h39
 | 40,_=>exact uG h40
 | 41,_=>exact uG h41
 | 42,_=>exact tU (fun r h=>w_u8 h) h42
 | y+43,hy=>omega
theorem e_TStored_0 (l:List TStored) (x:Nat):enR zE l x 0 = .int .u8 ((gd l x).Cat):=rfl
theorem e_TStored_1 (l:List TStored) (x:Nat):enR zE l x 1 = .int .i64 ((gd l x).At):=rfl
theorem e_TStored_2 (l:List TStored) (x:Nat):enR zE l x 2 = .int .u8 ((((gd l x).Frame).Head).Kind):=rfl
theorem e_TStored_3 (l:List TStored) (x:Nat):enR zE l x 3 = .int .u8 ((((gd l x).Frame).Head).Sub):=rfl
theorem e_TStored_4 (l:List TStored) (x:Nat):enR zE l x 4 = .bool ((((gd l x).Frame).Head).ToDs):=rfl
theorem e_TStored_5 (l:List TStored) (x:Nat):enR zE l x 5 = .bool ((((gd l x).Frame).Head).FromDs):=rfl
theorem e_TStored_6 (l:List TStored) (x:Nat):enR zE l x 6 = .bool ((((gd l x).Frame).Head).More):=rfl
theorem e_TStored_7 (l:List TStored) (x:Nat):enR zE l x 7 = .bool ((((gd l x).Frame).Head).Retry):=rfl
theorem e_TStored_8 (l:List TStored) (x:Nat):enR zE l x 8 = .bool ((((gd l x).Frame).Head).Sleep):=rfl
theorem e_TStored_9 (l:List TStored) (x:Nat):enR zE l x 9 = .bool ((((gd l x).Frame).Head).MoreData):=rfl
theorem e_TStored_10 (l:List TStored) (x:Nat):enR zE l x 10 = .bool ((((gd l x).Frame).Head).Protected):=rfl
theorem e_TStored_11 (l:List TStored) (x:Nat):enR zE l x 11 = .int .i64 ((((gd l x).Frame).Head).Duration):=rfl
theorem e_TStored_12 (l:List TStored) (x:Nat):enR zE l x 12 = .int .u8 (((((gd l x).Frame).Head).A1).x0):=rfl
theorem e_TStored_13 (l:List TStored) (x:Nat):enR zE l x 13 = .int .u8 (((((gd l x).Frame).Head).A1).x1):=rfl
theorem e_TStored_14 (l:List TStored) (x:Nat):enR zE l x 14 = .int .u8 (((((gd l x).Frame).Head).A1).x2):=rfl
theorem e_TStored_15 (l:List TStored) (x:Nat):enR zE l x 15 = .int .u8 (((((gd l x).Frame).Head).A1).x3):=rfl
theorem e_TStored_16 (l:List TStored) (x:Nat):enR zE l x 16 = .int .u8 (((((gd l x).Frame).Head).A1).x4):=rfl
theorem e_TStored_17 (l:List TStored) (x:Nat):enR zE l x 17 = .int .u8 (((((gd l x).Frame).Head).A1).x5):=rfl
theorem e_TStored_18 (l:List TStored) (x:Nat):enR zE l x 18 = .int .u8 (((((gd l x).Frame).Head).A2).x0):=rfl
theorem e_TStored_19 (l:List TStored) (x:Nat):enR zE l x 19 = .int .u8 (((((gd l x).Frame).Head).A2).x1):=rfl
theorem e_TStored_20 (l:List TStored) (x:Nat):enR zE l x 20 = .int .u8 (((((gd l x).Frame).Head).A2).x2):=rfl
theorem e_TStored_21 (l:List TStored) (x:Nat):enR zE l x 21 = .int .u8 (((((gd l x).Frame).Head).A2).x3):=rfl
theorem e_TStored_22 (l:List TStored) (x:Nat):enR zE l x 22 = .int .u8 (((((gd l x).Frame).Head).A2).x4):=rfl
theorem e_TStored_23 (l:List TStored) (x:Nat):enR zE l x 23 = .int .u8 (((((gd l x).Frame).Head).A2).x5):=rfl
theorem e_TStored_24 (l:List TStored) (x:Nat):enR zE l x 24 = .int .u8 (((((gd l x).Frame).Head).A3).x0):=rfl
theorem e_TStored_25 (l:List TStored) (x:Nat):enR zE l x 25 = .int .u8 (((((gd l x).Frame).Head).A3).x1):=rfl
theorem e_TStored_26 (l:List TStored) (x:Nat):enR zE l x 26 = .int .u8 (((((gd l x).Frame).Head).A3).x2):=rfl
theorem e_TStored_27 (l:List TStored) (x:Nat):enR zE l x 27 = .int .u8 (((((gd l x).Frame).Head).A3).x3):=rfl
theorem e_TStored_28 (l:List TStored) (x:Nat):enR zE l x 28 = .int .u8 (((((gd l x).Frame).Head).A3).x4):=rfl
theorem e_TStored_29 (l:List TStored) (x:Nat):enR zE l x 29 = .int .u8 (((((gd l x).Frame).Head).A3).x5):=rfl
theorem e_TStored_30 (l:List TStored) (x:Nat):enR zE l x 30 = .int .u8 (((((gd l x).Frame).Head).A4).x0):=rfl
theorem e_TStored_31 (l:List TStored) (x:Nat):enR zE l x 31 = .int .u8 (((((gd l x).Frame).Head).A4).x1):=rfl
theorem e_TStored_32 (l:List TStored) (x:Nat):enR zE l x 32 = .int .u8 (((((gd l x).Frame).Head).A4).x2):=rfl
theorem e_TStored_33 (l:List TStored) (x:Nat):enR zE l x 33 = .int .u8 (((((gd l x).Frame).Head).A4).x3):=rfl
theorem e_TStored_34 (l:List TStored) (x:Nat):enR zE l x 34 = .int .u8 (((((gd l x).Frame).Head).A4).x4):=rfl
theorem e_TStored_35 (l:List TStored) (x:Nat):enR zE l x 35 = .int .u8 (((((gd l x).Frame).Head).A4).x5):=rfl
theorem e_TStored_36 (l:List TStored) (x:Nat):enR zE l x 36 = .int .i64 ((((gd l x).Frame).Head).Seq):=rfl
theorem e_TStored_37 (l:List TStored) (x:Nat):enR zE l x 37 = .int .i64 ((((gd l x).Frame).Head).Frag):=rfl
theorem e_TStored_38 (l:List TStored) (x:Nat):enR zE l x 38 = .int .i64 ((((gd l x).Frame).Head).Tid):=rfl
theorem e_TStored_39 (l:List TStored) (x:Nat):enR zE l x 39 = .int .u8 ((((gd l x).Frame).Head).Ack):=rfl
theorem e_TStored_40 (l:List TStored) (x:Nat):enR zE l x 40 = .bool ((((gd l x).Frame).Head).Amsdu):=rfl
theorem e_TStored_41 (l:List TStored) (x:Nat):enR zE l x 41 = .bool ((((gd l x).Frame).Head).Eosp):=rfl
theorem e_TStored_42 (l:List TStored) (x:Nat):enR zE l x 42 = .ro 1 (((gd l x).Frame).Body).length false (enR xJ (((gd l x).Frame).Body)):=rfl
theorem fit_TStored (n:Nat) (l:List TStored):Fit xS n (enR zE l)=True:=eq_true (xX gL)
theorem de_TStored (l:List TStored):deR yD l.length (enR zE l)=l:=wC dH l
theorem eta_TStored (a:TStored):TStored.mk a.Cat a.At a.Frame=a:=rfl
theorem kG {v:AV} (h:aK 43 xS v):WkV (.agg (zE (yD (aL v)))) v/\nref (.agg (zE (yD (aL v)))):=aK_wk (f:=zE) (g:=yD) (fun r h=>vQ h) rfl (by simp only [zE,nrefL,nref,and_self]) h
def vS (a:List TStored):List AV:=[.ro 43 a.length false (enR zE a)]
def dG (f:Nat->AV):List TStored:=lA yD (f 0)
def gK (f:Nat->AV):Prop:=lK xS 43 (f 0)
theorem gc_lTStored (a:List TStored):dG (zN (vS a))=a:=by
 simp only [dG,vS,zN,iA,bA,sA,lA,wC dH]
theorem kc_lTStored (a:List TStored):gK (zN (vS a)):=by
 simp only [gK,vS,zN,iK,bK,sK,lK,or_true,true_and,and_true,and_self,xX gL]
theorem nr_lTStored (a:List TStored):nrefL (vS a):=by simp only [vS,nrefL,nref,and_self]
instance:NRf vS:=⟨nr_lTStored⟩
instance:KCf gK vS:=⟨kc_lTStored⟩
theorem e_lTStored_0 (l:List (List TStored)) (x:Nat):enR vS l x 0 = .ro 43 (gd l x).length false (enR zE (gd l x)):=rfl
theorem fit_lTStored (n:Nat) (l:List (List TStored)):Fit gK n (enR vS l)=True:=eq_true (xX kc_lTStored)
theorem de_lTStored (l:List (List TStored)):deR dG l.length (enR vS l)=l:=wC gc_lTStored l
structure TSleeper where
 Aid:Int
 Asleep:Bool
 Held:_root_.List TStored
 deriving Inhabited
def zD (a:TSleeper):List AV:=[.int .i64 a.Aid,.bool a.Asleep,.ro 43 a.Held.length false (enR zE a.Held)]
def yI (f:Nat->AV):TSleeper:=⟨iA (f 0),bA (f 1),lA yD (f 2)⟩
def wI (f:Nat->AV):Prop:=iK .i64 (f 0)/\bK (f 1)/\lK xS 43 (f 2)
theorem gY (a:TSleeper):yI (zN (zD a))=a:=by
 simp only [yI,zD,zN,iA,bA,sA,lA,wC dH]
theorem gZ (a:TSleeper):wI (zN (zD a)):=by
 simp only [wI,zD,zN,iK,bK,sK,lK,or_true,true_and,and_true,and_self,xX gL]
theorem zH (a:TSleeper):nrefL (zD a):=by simp only [zD,nrefL,nref,and_self]
instance:NRf zD:=⟨zH⟩
instance:KCf wI zD:=⟨gZ⟩
theorem tJ {f:Nat->AV} (h:wI f):∀ y,y < 3->WkV (zN (zD (yI f)) y) (f y)/\nref (zN (zD (yI f)) y):=by
 obtain ⟨h0,h1,h2⟩:=h
 intro y hy
 match y,hy with
 | 0,_=>exact yK h0
 | 1,_=>exact uG h1
 | 2,_=>exact tU (fun r h=>vQ h) h2
 | y+3,hy=>omega
theorem e_TSleeper_0 (l:List TSleeper) (x:Nat):enR zD l x 0 = .int .i64 ((gd l x).Aid):=rfl
theorem e_TSleeper_1 (l:List TSleeper) (x:Nat):enR zD l x 1 = .bool ((gd l x).Asleep):=rfl
theorem e_TSleeper_2 (l:List TSleeper) (x:Nat):enR zD l x 2 = .ro 43 ((gd l x).Held).length false (enR zE ((gd l x).Held)):=rfl
theorem fit_TSleeper (n:Nat) (l:List TSleeper):Fit wI n (enR zD l)=True:=eq_true (xX gZ)
theorem de_TSleeper (l:List TSleeper):deR yI l.length (enR zD l)=l:=wC gY l
theorem eta_TSleeper (a:TSleeper):TSleeper.mk a.Aid a.Asleep a.Held=a:=rfl
theorem bP {v:AV} (h:aK 3 wI v):WkV (.agg (zD (yI (aL v)))) v/\nref (.agg (zD (yI (aL v)))):=aK_wk (f:=zD) (g:=yI) (fun r h=>tJ h) rfl (by simp only [zD,nrefL,nref,and_self]) h
def vC (a:List TSleeper):List AV:=[.ro 3 a.length false (enR zD a)]
def gX (f:Nat->AV):List TSleeper:=lA yI (f 0)
def kU (f:Nat->AV):Prop:=lK wI 3 (f 0)
theorem gc_lTSleeper (a:List TSleeper):gX (zN (vC a))=a:=by
 simp only [gX,vC,zN,iA,bA,sA,lA,wC gY]
theorem kc_lTSleeper (a:List TSleeper):kU (zN (vC a)):=by
 simp only [kU,vC,zN,iK,bK,sK,lK,or_true,true_and,and_true,and_self,xX gZ]
theorem nr_lTSleeper (a:List TSleeper):nrefL (vC a):=by simp only [vC,nrefL,nref,and_self]
instance:NRf vC:=⟨nr_lTSleeper⟩
instance:KCf kU vC:=⟨kc_lTSleeper⟩
theorem e_lTSleeper_0 (l:List (List TSleeper)) (x:Nat):enR vC l x 0 = .ro 3 (gd l x).length false (enR zD (gd l x)):=rfl
theorem fit_lTSleeper (n:Nat) (l:List (List TSleeper)):Fit kU n (enR vC l)=True:=eq_true (xX kc_lTSleeper)
theorem de_lTSleeper (l:List (List TSleeper)):deR gX l.length (enR vC l)=l:=wC gc_lTSleeper l
structure TBuffer where
 Limit:Int
 Stay:Int
 List:_root_.List TSleeper
 Group:_root_.List TStored
 deriving Inhabited
def c_TBuffer (a:TBuffer):List AV:=[.int .i64 a.Limit,.int .i64 a.Stay,.ro 3 a.List.length false (enR zD a.List),.ro 43 a.Group.length false (enR zE a.Group)]
def g_TBuffer (f:Nat->AV):TBuffer:=⟨iA (f 0),iA (f 1),lA yI (f 2),lA yD (f 3)⟩
def xQ (f:Nat->AV):Prop:=iK .i64 (f 0)/\iK .i64 (f 1)/\lK wI 3 (f 2)/\lK xS 43 (f 3)
theorem gc_TBuffer (a:TBuffer):g_TBuffer (zN (c_TBuffer a))=a:=by
 simp only [g_TBuffer,c_TBuffer,zN,iA,bA,sA,lA,wC gY,wC dH]
theorem kc_TBuffer (a:TBuffer):xQ (zN (c_TBuffer a)):=by
 simp only [xQ,c_TBuffer,zN,iK,bK,sK,lK,or_true,true_and,and_true,and_self,xX gZ,xX gL]
theorem nr_TBuffer (a:TBuffer):nrefL (c_TBuffer a):=by simp only [c_TBuffer,nrefL,nref,and_self]
instance:NRf c_TBuffer:=⟨nr_TBuffer⟩
instance:KCf xQ c_TBuffer:=⟨kc_TBuffer⟩
theorem w_TBuffer {f:Nat->AV} (h:xQ f):∀ y,y < 4->WkV (zN (c_TBuffer (g_TBuffer f)) y) (f y)/\nref (zN (c_TBuffer (g_TBuffer f)) y):=by
 obtain ⟨h0,h1,h2,h3⟩:=h
 intro y hy
 match y,hy with
 | 0,_=>exact yK h0
 | 1,_=>exact yK h1
 | 2,_=>exact tU (fun r h=>tJ h) h2
 | 3,_=>exact tU (fun r h=>vQ h) h3
 | y+4,hy=>omega
theorem e_TBuffer_0 (l:List TBuffer) (x:Nat):enR c_TBuffer l x 0 = .int .i64 ((gd l x).Limit):=rfl
theorem e_TBuffer_1 (l:List TBuffer) (x:Nat):enR c_TBuffer l x 1 = .int .i64 ((gd l x).Stay):=rfl
theorem e_TBuffer_2 (l:List TBuffer) (x:Nat):enR c_TBuffer l x 2 = .ro 3 ((gd l x).List).length false (enR zD ((gd l x).List)):=rfl
theorem e_TBuffer_3 (l:List TBuffer) (x:Nat):enR c_TBuffer l x 3 = .ro 43 ((gd l x).Group).length false (enR zE ((gd l x).Group)):=rfl
theorem fit_TBuffer (n:Nat) (l:List TBuffer):Fit xQ n (enR c_TBuffer l)=True:=eq_true (xX kc_TBuffer)
theorem de_TBuffer (l:List TBuffer):deR g_TBuffer l.length (enR c_TBuffer l)=l:=wC gc_TBuffer l
theorem eta_TBuffer (a:TBuffer):TBuffer.mk a.Limit a.Stay a.List a.Group=a:=rfl
theorem wB {v:AV} (h:aK 4 xQ v):WkV (.agg (c_TBuffer (g_TBuffer (aL v)))) v/\nref (.agg (c_TBuffer (g_TBuffer (aL v)))):=aK_wk (f:=c_TBuffer) (g:=g_TBuffer) (fun r h=>w_TBuffer h) rfl (by simp only [c_TBuffer,nrefL,nref,and_self]) h
def gD (a:List Int):List AV:=[.ro 1 a.length false (enR uH a)]
def g_li64 (f:Nat->AV):List Int:=lA tN (f 0)
def k_li64 (f:Nat->AV):Prop:=lK cS 1 (f 0)
theorem gc_li64 (a:List Int):g_li64 (zN (gD a))=a:=by
 simp only [g_li64,gD,zN,iA,bA,sA,lA,wC gc_i64]
theorem kc_li64 (a:List Int):k_li64 (zN (gD a)):=by
 simp only [k_li64,gD,zN,iK,bK,sK,lK,or_true,true_and,and_true,and_self,xX kc_i64]
theorem nr_li64 (a:List Int):nrefL (gD a):=by simp only [gD,nrefL,nref,and_self]
instance:NRf gD:=⟨nr_li64⟩
instance:KCf k_li64 gD:=⟨kc_li64⟩
theorem e_li64_0 (l:List (List Int)) (x:Nat):enR gD l x 0 = .ro 1 (gd l x).length false (enR uH (gd l x)):=rfl
theorem fit_li64 (n:Nat) (l:List (List Int)):Fit k_li64 n (enR gD l)=True:=eq_true (xX kc_li64)
theorem de_li64 (l:List (List Int)):deR g_li64 l.length (enR gD l)=l:=wC gc_li64 l
structure TTraffic where
 Group:Bool
 Aids:_root_.List Int
 deriving Inhabited
def vJ (a:TTraffic):List AV:=[.bool a.Group,.ro 1 a.Aids.length false (enR uH a.Aids)]
def dF (f:Nat->AV):TTraffic:=⟨bA (f 0),lA tN (f 1)⟩
def gJ (f:Nat->AV):Prop:=bK (f 0)/\lK cS 1 (f 1)
theorem gc_TTraffic (a:TTraffic):dF (zN (vJ a))=a:=by
 simp only [dF,vJ,zN,iA,bA,sA,lA,wC gc_i64]
theorem kc_TTraffic (a:TTraffic):gJ (zN (vJ a)):=by
 simp only [gJ,vJ,zN,iK,bK,sK,lK,or_true,true_and,and_true,and_self,xX kc_i64]
theorem nr_TTraffic (a:TTraffic):nrefL (vJ a):=by simp only [vJ,nrefL,nref,and_self]
instance:NRf vJ:=⟨nr_TTraffic⟩
instance:KCf gJ vJ:=⟨kc_TTraffic⟩
theorem e_TTraffic_0 (l:List TTraffic) (x:Nat):enR vJ l x 0 = .bool ((gd l x).Group):=rfl
theorem e_TTraffic_1 (l:List TTraffic) (x:Nat):enR vJ l x 1 = .ro 1 ((gd l x).Aids).length false (enR uH ((gd l x).Aids)):=rfl
theorem fit_TTraffic (n:Nat) (l:List TTraffic):Fit gJ n (enR vJ l)=True:=eq_true (xX kc_TTraffic)
theorem de_TTraffic (l:List TTraffic):deR dF l.length (enR vJ l)=l:=wC gc_TTraffic l
theorem eta_TTraffic (a:TTraffic):TTraffic.mk a.Group a.Aids=a:=rfl
def uJ (a:List TFrame):List AV:=[.ro 41 a.length false (enR zK a)]
def bW (f:Nat->AV):List TFrame:=lA zS (f 0)
def eK (f:Nat->AV):Prop:=lK vE 41 (f 0)
theorem gc_lTFrame (a:List TFrame):bW (zN (uJ a))=a:=by
 simp only [bW,uJ,zN,iA,bA,sA,lA,wC gc_TFrame]
theorem kc_lTFrame (a:List TFrame):eK (zN (uJ a)):=by
 simp only [eK,uJ,zN,iK,bK,sK,lK,or_true,true_and,and_true,and_self,xX kc_TFrame]
theorem nr_lTFrame (a:List TFrame):nrefL (uJ a):=by simp only [uJ,nrefL,nref,and_self]
instance:NRf uJ:=⟨nr_lTFrame⟩
instance:KCf eK uJ:=⟨kc_lTFrame⟩
theorem e_lTFrame_0 (l:List (List TFrame)) (x:Nat):enR uJ l x 0 = .ro 41 (gd l x).length false (enR zK (gd l x)):=rfl
theorem fit_lTFrame (n:Nat) (l:List (List TFrame)):Fit eK n (enR uJ l)=True:=eq_true (xX kc_lTFrame)
theorem de_lTFrame (l:List (List TFrame)):deR bW l.length (enR uJ l)=l:=wC gc_lTFrame l
structure TStep where
 Kind:Int
 Aid:Int
 Cat:Int
 Now:Int
 Frame:TFrame
 deriving Inhabited
def c_TStep (a:TStep):List AV:=(.int .i64 a.Kind::.int .i64 a.Aid::.int .u8 a.Cat::.int .i64 a.Now::.int .u8 a.Frame.Head.Kind::.int .u8 a.Frame.Head.Sub::.bool a.Frame.Head.ToDs::.bool a.Frame.Head.FromDs::.bool a.Frame.Head.More::.bool a.Frame.Head.Retry::.bool a.Frame.Head.Sleep::.bool a.Frame.Head.MoreData::.bool a.Frame.Head.Protected::.int .i64 a.Frame.Head.Duration::.int .u8 a.Frame.Head.A1.x0::.int .u8 a.Frame.Head.A1.x1::.int .u8 a.Frame.Head.A1.x2::.int .u8 a.Frame.Head.A1.x3::.int .u8 a.Frame.Head.A1.x4::.int .u8 a.Frame.Head.A1.x5::.int .u8 a.Frame.Head.A2.x0::.int .u8 a.Frame.Head.A2.x1::.int .u8 a.Frame.Head.A2.x2::.int .u8 a.Frame.Head.A2.x3::.int .u8 a.Frame.Head.A2.x4::.int .u8 a.Frame.Head.A2.x5::.int .u8 a.Frame.Head.A3.x0::.int .u8 a.Frame.Head.A3.x1::.int .u8 a.Frame.Head.A3.x2::.int .u8 a.Frame.Head.A3.x3::.int .u8 a.Frame.Head.A3.x4::.int .u8 a.Frame.Head.A3.x5::.int .u8 a.Frame.Head.A4.x0::.int .u8 a.Frame.Head.A4.x1::.int .u8 a.Frame.Head.A4.x2::.int .u8 a.Frame.Head.A4.x3::.int .u8 a.Frame.Head.A4.x4::.int .u8 a.Frame.Head.A4.x5::.int .i64 a.Frame.Head.Seq::.int .i64 a.Frame.Head.Frag::.int .i64 a.Frame.Head.Tid::.int .u8 a.Frame.Head.Ack::.bool a.Frame.Head.Amsdu::.bool a.Frame.Head.Eosp::.ro 1 a.Frame.Body.length false (enR xJ a.Frame.Body)::[])
def g_TStep (f:Nat->AV):TStep:=⟨iA (f 0),iA (f 1),iA (f 2),iA (f 3),⟨⟨iA (f 4),iA (f 5),bA (f 6),bA (f 7),bA (f 8),bA (f 9),bA (f 10),bA (f 11),bA (f 12),iA (f 13),⟨iA (f 14),iA (f 15),iA (f 16),iA (f 17),iA (f 18),iA (f 19)⟩,⟨iA (f 20),iA (f 21),iA (f 22),iA (f 23),iA (f 24),iA (f 25)⟩,⟨iA (f 26),iA (f 27),iA (f 28),iA (f 29),iA (f 30),iA (f 31)⟩,⟨iA (f 32),iA (f 33),iA (f 34),iA (f 35),iA (f 36),iA (f 37)⟩,iA (f 38),iA (f 39),iA (f 40),iA (f 41),bA (f 42),bA (f 43)⟩,lA kT (f 44)⟩⟩
def kK (f:Nat->AV):Prop:=iK .i64 (f 0)/\iK .i64 (f 1)/\iK .u8 (f 2)/\iK .i64 (f 3)/\iK .u8 (f 4)/\iK .u8 (f 5)/\bK (f 6)/\bK (f 7)/\bK (f 8)/\bK (f 9)/\bK (f 10)/\bK (f 11)/\bK (f 12)/\iK .i64 (f 13)/\iK .u8 (f 14)/\iK .u8 (f 15)/\iK .u8 (f 16)/\iK .u8 (f 17)/\iK .u8 (f 18)/\iK .u8 (f 19)/\iK .u8 (f 20)/\iK .u8 (f 21)/\iK .u8 (f 22)/\iK .u8 (f 23)/\iK .u8 (f 24)/\iK .u8 (f 25)/\iK .u8 (f 26)/\iK .u8 (f 27)/\iK .u8 (f 28)/\iK .u8 (f 29)/\iK .u8 (f 30)/\iK .u8 (f 31)/\iK .u8 (f 32)/\iK .u8 (f 33)/\iK .u8 (f 34)/\iK .u8 (f 35)/\iK .u8 (f 36)/\iK .u8 (f 37)/\iK .i64 (f 38)/\iK .i64 (f 39)/\iK .i64 (f 40)/\iK .u8 (f 41)/\bK (f 42)/\bK (f 43)/\lK k_u8 1 (f 44)
theorem gc_TStep (a:TStep):g_TStep (zN (c_TStep a))=a:=by
 simp only [g_TStep,c_TStep,zN,iA,bA,sA,lA,wC gc_u8]
theorem kc_TStep (a:TStep):kK (zN (c_TStep a)):=by
 simp only [kK,c_TStep,zN,iK,bK,sK,lK,or_true,true_and,and_true,and_self,xX kc_u8]
theorem nr_TStep (a:TStep):nrefL (c_TStep a):=by simp only [c_TStep,nrefL,nref,and_self]
instance:NRf c_TStep:=⟨nr_TStep⟩
instance:KCf kK c_TStep:=⟨kc_TStep⟩
theorem w_TStep {f:Nat->AV} (h:kK f):∀ y,y < 45->WkV (zN (c_TStep (g_TStep f)) y) (f y)/\nref (zN (c_TStep (g_TStep f)) y):=by
 obtain ⟨h0,h1,h2,h3,h4,h5,h6,h7,h8,h9,h10,h11,h12,h13,h14,h15,h16,h17,h18,h19,h20,h21,h22,h23,h24,h25,h26,h27,h28,h29,h30,h31,h32,h33,h34,h35,h36,h37,h38,h39,h40,h41,h42,h43,h44⟩:=h
 intro y hy
 match y,hy with
 | 0,_=>exact yK h0
 | 1,_=>exact yK h1
 | 2,_=>exact yK h2
 | 3,_=>exact yK h3
 | 4,_=>exact yK h4
 | 5,_=>exact yK h5
 | 6,_=>exact uG h6
 | 7,_=>exact uG h7
 | 8,_=>exact uG h8
 | 9,_=>exact uG h9
 | 10,_=>exact uG h10
 | 11,_=>exact uG h11
 | 12,_=>exact uG h12
 | 13,_=>exact yK h13
 | 14,_=>exact yK h14
 | 15,_=>exact yK h15
 | 16,_=>exact yK h16
 | 17,_=>exact yK h17
 | 18,_=>exact yK h18
 | 19,_=>exact yK h19
 | 20,_=>exact yK h20
 | 21,_=>exact yK h21
 | 22,_=>exact yK h22
 | 23,_=>exact yK h23
 | 24,_=>exact yK h24
 | 25,_=>exact yK h25
 | 26,_=>exact yK h26
 | 27,_=>exact yK h27
 | 28,_=>exact yK h28
 | 29,_=>exact yK h29
 | 30,_=>exact yK h30
 | 31,_=>exact yK h31
 | 32,_=>exact yK h32
 | 33,_=>exact yK h33
 | 34,_=>exact yK h34
 | 35,_=>exact yK h35
 | 36,_=>exact yK h36
 | 37,_=>exact yK h37
 | 38,_=>exact yK h38
 | 39,_=>exact yK h39
 | 40,_=>exact yK h40
 | 41,_=>exact yK h41
 | 42,_=>exact uG h42
 | 43,_=>exact uG h43
 | 44,_=>exact tU (fun r h=>w_u8 h) h44
 | y+45,hy=>omega
theorem e_TStep_0 (l:List TStep) (x:Nat):enR c_TStep l x 0 = .int .i64 ((gd l x).Kind):=rfl
theorem e_TStep_1 (l:List TStep) (x:Nat):enR c_TStep l x 1 = .int .i64 ((gd l x).Aid):=rfl
theorem e_TStep_2 (l:List TStep) (x:Nat):enR c_TStep l x 2 = .int .u8 ((gd l x).Cat):=rfl
theorem e_TStep_3 (l:List TStep) (x:Nat):enR c_TStep l x 3 = .int .i64 ((gd l x).Now):=rfl
theorem e_TStep_4 (l:List TStep) (x:Nat):enR c_TStep l x 4 = .int .u8 ((((gd l x).Frame).Head).Kind):=rfl
theorem e_TStep_5 (l:List TStep) (x:Nat):enR c_TStep l x 5 = .int .u8 ((((gd l x).Frame).Head).Sub):=rfl
theorem e_TStep_6 (l:List TStep) (x:Nat):enR c_TStep l x 6 = .bool ((((gd l x).Frame).Head).ToDs):=rfl
theorem e_TStep_7 (l:List TStep) (x:Nat):enR c_TStep l x 7 = .bool ((((gd l x).Frame).Head).FromDs):=rfl
theorem e_TStep_8 (l:List TStep) (x:Nat):enR c_TStep l x 8 = .bool ((((gd l x).Frame).Head).More):=rfl
theorem e_TStep_9 (l:List TStep) (x:Nat):enR c_TStep l x 9 = .bool ((((gd l x).Frame).Head).Retry):=rfl
theorem e_TStep_10 (l:List TStep) (x:Nat):enR c_TStep l x 10 = .bool ((((gd l x).Frame).Head).Sleep):=rfl
theorem e_TStep_11 (l:List TStep) (x:Nat):enR c_TStep l x 11 = .bool ((((gd l x).Frame).Head).MoreData):=rfl
theorem e_TStep_12 (l:List TStep) (x:Nat):enR c_TStep l x 12 = .bool ((((gd l x).Frame).Head).Protected):=rfl
theorem e_TStep_13 (l:List TStep) (x:Nat):enR c_TStep l x 13 = .int .i64 ((((gd l x).Frame).Head).Duration):=rfl
theorem e_TStep_14 (l:List TStep) (x:Nat):enR c_TStep l x 14 = .int .u8 (((((gd l x).Frame).Head).A1).x0):=rfl
theorem e_TStep_15 (l:List TStep) (x:Nat):enR c_TStep l x 15 = .int .u8 (((((gd l x).Frame).Head).A1).x1):=rfl
theorem e_TStep_16 (l:List TStep) (x:Nat):enR c_TStep l x 16 = .int .u8 (((((gd l x).Frame).Head).A1).x2):=rfl
theorem e_TStep_17 (l:List TStep) (x:Nat):enR c_TStep l x 17 = .int .u8 (((((gd l x).Frame).Head).A1).x3):=rfl
theorem e_TStep_18 (l:List TStep) (x:Nat):enR c_TStep l x 18 = .int .u8 (((((gd l x).Frame).Head).A1).x4):=rfl
theorem e_TStep_19 (l:List TStep) (x:Nat):enR c_TStep l x 19 = .int .u8 (((((gd l x).Frame).Head).A1).x5):=rfl
theorem e_TStep_20 (l:List TStep) (x:Nat):enR c_TStep l x 20 = .int .u8 (((((gd l x).Frame).Head).A2).x0):=rfl
theorem e_TStep_21 (l:List TStep) (x:Nat):enR c_TStep l x 21 = .int .u8 (((((gd l x).Frame).Head).A2).x1):=rfl
theorem e_TStep_22 (l:List TStep) (x:Nat):enR c_TStep l x 22 = .int .u8 (((((gd l x).Frame).Head).A2).x2):=rfl
theorem e_TStep_23 (l:List TStep) (x:Nat):enR c_TStep l x 23 = .int .u8 (((((gd l x).Frame).Head).A2).x3):=rfl
theorem e_TStep_24 (l:List TStep) (x:Nat):enR c_TStep l x 24 = .int .u8 (((((gd l x).Frame).Head).A2).x4):=rfl
theorem e_TStep_25 (l:List TStep) (x:Nat):enR c_TStep l x 25 = .int .u8 (((((gd l x).Frame).Head).A2).x5):=rfl
theorem e_TStep_26 (l:List TStep) (x:Nat):enR c_TStep l x 26 = .int .u8 (((((gd l x).Frame).Head).A3).x0):=rfl
theorem e_TStep_27 (l:List TStep) (x:Nat):enR c_TStep l x 27 = .int .u8 (((((gd l x).Frame).Head).A3).x1):=rfl
theorem e_TStep_28 (l:List TStep) (x:Nat):enR c_TStep l x 28 = .int .u8 (((((gd l x).Frame).Head).A3).x2):=rfl
theorem e_TStep_29 (l:List TStep) (x:Nat):enR c_TStep l x 29 = .int .u8 (((((gd l x).Frame).Head).A3).x3):=rfl
theorem e_TStep_30 (l:List TStep) (x:Nat):enR c_TStep l x 30 = .int .u8 (((((gd l x).Frame).Head).A3).x4):=rfl
theorem e_TStep_31 (l:List TStep) (x:Nat):enR c_TStep l x 31 = .int .u8 (((((gd l x).Frame).Head).A3).x5):=rfl
theorem e_TStep_32 (l:List TStep) (x:Nat):enR c_TStep l x 32 = .int .u8 (((((gd l x).Frame).Head).A4).x0):=rfl
theorem e_TStep_33 (l:List TStep) (x:Nat):enR c_TStep l x 33 = .int .u8 (((((gd l x).Frame).Head).A4).x1):=rfl
theorem e_TStep_34 (l:List TStep) (x:Nat):enR c_TStep l x 34 = .int .u8 (((((gd l x).Frame).Head).A4).x2):=rfl
theorem e_TStep_35 (l:List TStep) (x:Nat):enR c_TStep l x 35 = .int .u8 (((((gd l x).Frame).Head).A4).x3):=rfl
theorem e_TStep_36 (l:List TStep) (x:Nat):enR c_TStep l x 36 = .int .u8 (((((gd l x).Frame).Head).A4).x4):=rfl
theorem e_TStep_37 (l:List TStep) (x:Nat):enR c_TStep l x 37 = .int .u8 (((((gd l x).Frame).Head).A4).x5):=rfl
theorem e_TStep_38 (l:List TStep) (x:Nat):enR c_TStep l x 38 = .int .i64 ((((gd l x).Frame).Head).Seq):=rfl
theorem e_TStep_39 (l:List TStep) (x:Nat):enR c_TStep l x 39 = .int .i64 ((((gd l x).Frame).Head).Frag):=rfl
theorem e_TStep_40 (l:List TStep) (x:Nat):enR c_TStep l x 40 = .int .i64 ((((gd l x).Frame).Head).Tid):=rfl
theorem e_TStep_41 (l:List TStep) (x:Nat):enR c_TStep l x 41 = .int .u8 ((((gd l x).Frame).Head).Ack):=rfl
theorem e_TStep_42 (l:List TStep) (x:Nat):enR c_TStep l x 42 = .bool ((((gd l x).Frame).Head).Amsdu):=rfl
theorem e_TStep_43 (l:List TStep) (x:Nat):enR c_TStep l x 43 = .bool ((((gd l x).Frame).Head).Eosp):=rfl
theorem e_TStep_44 (l:List TStep) (x:Nat):enR c_TStep l x 44 = .ro 1 (((gd l x).Frame).Body).length false (enR xJ (((gd l x).Frame).Body)):=rfl
theorem fit_TStep (n:Nat) (l:List TStep):Fit kK n (enR c_TStep l)=True:=eq_true (xX kc_TStep)
theorem de_TStep (l:List TStep):deR g_TStep l.length (enR c_TStep l)=l:=wC gc_TStep l
theorem eta_TStep (a:TStep):TStep.mk a.Kind a.Aid a.Cat a.Now a.Frame=a:=rfl
theorem wA_TStep {v:AV} (h:aK 45 kK v):WkV (.agg (c_TStep (g_TStep (aL v)))) v/\nref (.agg (c_TStep (g_TStep (aL v)))):=aK_wk (f:=c_TStep) (g:=g_TStep) (fun r h=>w_TStep h) rfl (by simp only [c_TStep,nrefL,nref,and_self]) h
def tB (a:List TStep):List AV:=[.ro 45 a.length false (enR c_TStep a)]
def g_lTStep (f:Nat->AV):List TStep:=lA g_TStep (f 0)
def cT (f:Nat->AV):Prop:=lK kK 45 (f 0)
theorem gc_lTStep (a:List TStep):g_lTStep (zN (tB a))=a:=by
 simp only [g_lTStep,tB,zN,iA,bA,sA,lA,wC gc_TStep]
theorem kc_lTStep (a:List TStep):cT (zN (tB a)):=by
 simp only [cT,tB,zN,iK,bK,sK,lK,or_true,true_and,and_true,and_self,xX kc_TStep]
theorem nr_lTStep (a:List TStep):nrefL (tB a):=by simp only [tB,nrefL,nref,and_self]
instance:NRf tB:=⟨nr_lTStep⟩
instance:KCf cT tB:=⟨kc_lTStep⟩
theorem e_lTStep_0 (l:List (List TStep)) (x:Nat):enR tB l x 0 = .ro 45 (gd l x).length false (enR c_TStep (gd l x)):=rfl
theorem fit_lTStep (n:Nat) (l:List (List TStep)):Fit cT n (enR tB l)=True:=eq_true (xX kc_lTStep)
theorem de_lTStep (l:List (List TStep)):deR g_lTStep l.length (enR tB l)=l:=wC gc_lTStep l
def fZ (a:Int):List AV:=[.int .u64 a]
def g_u64 (f:Nat->AV):Int:=iA (f 0)
def k_u64 (f:Nat->AV):Prop:=iK .u64 (f 0)
theorem gc_u64 (a:Int):g_u64 (zN (fZ a))=a:=by
 simp only [g_u64,fZ,zN,iA,bA,sA,lA]
theorem kc_u64 (a:Int):k_u64 (zN (fZ a)):=by
 simp only [k_u64,fZ,zN,iK,bK,sK,lK,or_true,true_and,and_true,and_self]
theorem nr_u64 (a:Int):nrefL (fZ a):=by simp only [fZ,nrefL,nref,and_self]
instance:NOf fZ:=⟨fun a=>by simp only [fZ,uY,noro,and_self]⟩
instance:NRf fZ:=⟨nr_u64⟩
instance:KCf k_u64 fZ:=⟨kc_u64⟩
theorem e_u64_0 (l:List Int) (x:Nat):enR fZ l x 0 = .int .u64 (gd l x):=rfl
theorem fit_u64 (n:Nat) (l:List Int):Fit k_u64 n (enR fZ l)=True:=eq_true (xX kc_u64)
theorem de_u64 (l:List Int):deR g_u64 l.length (enR fZ l)=l:=wC gc_u64 l
def shT (t:TypeId):Option (List Leaf):=if t=28 then some [.i .u8,.i .u8,.i .u8,.i .u8,.i .u8,.i .u8] else if t=30 then some (.i .u8::.i .u8::.b::.b::.b::.b::.b::.b::.b::.i .i64::.i .u8::.i .u8::.i .u8::.i .u8::.i .u8::.i .u8::.i .u8::.i .u8::.i .u8::.i .u8::.i .u8::.i .u8::.i .u8::.i .u8::.i .u8::.i .u8::.i .u8::.i .u8::.i .u8::.i .u8::.i .u8::.i .u8::.i .u8::.i .u8::.i .i64::.i .i64::.i .i64::.i .u8::.b::.b::[]) else none
theorem zT:eV Try.prog shT:=by
 refine shOk_of fun t l h=>?_
 unfold shT at h
 split at h
 ·rename_i ht;subst ht;injection h with h;subst h;exact ⟨by kernel_rfl,by kernel_rfl,by kernel_rfl⟩
 split at h
 ·rename_i ht;subst ht;injection h with h;subst h;exact ⟨by kernel_rfl,by kernel_rfl,by kernel_rfl⟩
 cases h
theorem shT_28:shT 28=some [.i .u8,.i .u8,.i .u8,.i .u8,.i .u8,.i .u8]:=rfl
theorem shT_30:shT 30=some (.i .u8::.i .u8::.b::.b::.b::.b::.b::.b::.b::.i .i64::.i .u8::.i .u8::.i .u8::.i .u8::.i .u8::.i .u8::.i .u8::.i .u8::.i .u8::.i .u8::.i .u8::.i .u8::.i .u8::.i .u8::.i .u8::.i .u8::.i .u8::.i .u8::.i .u8::.i .u8::.i .u8::.i .u8::.i .u8::.i .u8::.i .i64::.i .i64::.i .i64::.i .u8::.b::.b::[]):=rfl
theorem Fit_app {k:(Nat->AV)->Prop} {n p:Nat} {c d:Nat->Nat->AV} (h1:Fit k p c) (h2:Fit k (n - p) d):Fit k n (qX p c d):=fun x hx=>by
 by_cases h:x < p
 ·rw [show qX p c d x=c x from funext fun y=>if_pos h];exact h1 x h
 ·rw [show qX p c d x=d (x - p) from funext fun y=>if_neg h];exact h2 _ (by omega)
def ctNo:Ct:=tab []
theorem zA:yY Try.prog ctNo:=zW
theorem strE_u8 (s:ByteArray):strE s=enR xJ (fK s):=strE_en (fun _=>rfl) s
theorem rg {ct:Ct} (C:yY Try.prog ct) {a:Code} {K:Kt} {t:List AV} {h:List ABlk} (hw:wpC Try.prog shT ct a K t h):Mean Try.prog a K t h:=wpC_sound zT C a K t h hw
theorem sq {ct:Ct} (C:yY Try.prog ct) {a b:Code} {K:Kt} {t:List AV} {h:List ABlk} (hw:wpC Try.prog shT ct a (kM Try.prog b K) t h):Mean Try.prog (.seq a b) K t h:=zM (wpC_sound zT C a _ t h hw)
theorem bsj {α β : Type} {x : α} {f : α -> Option β} {r : β} (h : (some x).bind f=some r) : ∃ w,x=w /\ f w=some r:=⟨x,rfl,h⟩
theorem nI {α : Type} {q : Int} {n : Nat} {k : Option α} {r : α} (h : need (inb q n) k=some r) : (0 <= q /\ q < n /\ q.toNat < n) /\ k=some r:=⟨uP.1 (yP.1 h).1,(yP.1 h).2⟩
theorem nC {α : Type} {b n : Nat} {k : Option α} {r : α} (h : need (capb b n) k=some r) : ((n : Int) * b <= 140737488355328 /\ n <= 140737488355328) /\ k=some r:=⟨capb_iff.1 (yP.1 h).1,(yP.1 h).2⟩
theorem nS {α : Type} {p q : Int} {n : Nat} {k : Option α} {r : α} (h : need (slb p q n) k=some r) : (0 <= p /\ p <= q /\ q <= n) /\ k=some r:=⟨jQ.1 (yP.1 h).1,(yP.1 h).2⟩
theorem aI {A B : Prop} (a : A) (b : B) : A /\ B:=⟨a,b⟩
theorem lC {α : Type} {a : α} {l : List α} : (a::l).length=l.length+1:=rfl
theorem lN {α : Type} : ([] : List α).length=0:=rfl
theorem rS {α : Type} {a : α} {n : Nat} : List.replicate (n+1) a=a::List.replicate n a:=rfl
theorem rZ {α : Type} {a : α} : List.replicate 0 a=[]:=rfl
theorem aC {α : Type} {a : α} {l m : List α} : a::l ++ m=a::(l ++ m):=rfl
theorem aN {α : Type} {l : List α} : [] ++ l=l:=rfl
theorem tS {α : Type} {a : α} {l : List α} {n : Nat} : (a::l).take (n+1)=a::l.take n:=rfl
theorem tZ {α : Type} {l : List α} : l.take 0=[]:=rfl
theorem dS {α : Type} {a : α} {l : List α} {n : Nat} : (a::l).drop (n+1)=l.drop n:=rfl
theorem dZ {α : Type} {l : List α} : l.drop 0=l:=rfl
theorem oE {α : Type} {o : Option α} : o.isSome=true ↔ ∃ a,o=some a:=Option.isSome_iff_exists
end Go.Proofs.Ytefiemaoacmdkaa

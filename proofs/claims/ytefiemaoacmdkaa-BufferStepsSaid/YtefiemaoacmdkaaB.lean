/-
  Go's values as typed values.
-/
import Derived.Test.YtefiemaoacmdkaaT
import Derived.Test.YtefiemaoacmdkaaPm10
namespace Go.Proofs.Ytefiemaoacmdkaa
open Go.Am
set_option linter.unusedVariables false
set_option linter.unusedSimpArgs false
def xA (a:Int):List AV:=[.int .u8 a]
def g_u8 (f:Nat->AV):Int:=iA (f 0)
def k_u8 (f:Nat->AV):Prop:=iK .u8 (f 0)
theorem gc_u8 (a:Int):g_u8 (zL (xA a))=a:=by
 simp only [g_u8,xA,zL,iA,bA,sA,lA]
theorem kc_u8 (a:Int):k_u8 (zL (xA a)):=by
 simp only [k_u8,xA,zL,iK,bK,sK,lK,or_true,true_and,and_true,and_self]
theorem nr_u8 (a:Int):zX (xA a):=by simp only [xA,zX,nref,and_self]
instance:NOf xA:=⟨fun a=>by simp only [xA,tQ,noro,and_self]⟩
instance:NRf xA:=⟨nr_u8⟩
instance:KCf k_u8 xA:=⟨kc_u8⟩
theorem w_u8 {f:Nat->AV} (h:k_u8 f):∀ y,y < 1->WkV (zL (xA (g_u8 f)) y) (f y)/\nref (zL (xA (g_u8 f)) y):=by
 have h0:=h
 intro y hy
 match y,hy with
 | 0,_=>exact yB h0
 | y+1,hy=>omega
theorem e_u8_0 (l:List Int) (x:Nat):enR xA l x 0 = .int .u8 (gd l x):=rfl
theorem fit_u8 (n:Nat) (l:List Int):Fit k_u8 n (enR xA l)=True:=eq_true (wN kc_u8)
theorem de_u8 (l:List Int):deR g_u8 l.length (enR xA l)=l:=tL gc_u8 l
def qI (a:Int):List AV:=[.int .i64 a]
def g_i64 (f:Nat->AV):Int:=iA (f 0)
def k_i64 (f:Nat->AV):Prop:=iK .i64 (f 0)
theorem kc_i64 (a:Int):k_i64 (zL (qI a)):=by
 simp only [k_i64,qI,zL,iK,bK,sK,lK,or_true,true_and,and_true,and_self]
theorem nr_i64 (a:Int):zX (qI a):=by simp only [qI,zX,nref,and_self]
instance:NOf qI:=⟨fun a=>by simp only [qI,tQ,noro,and_self]⟩
instance:NRf qI:=⟨nr_i64⟩
instance:KCf k_i64 qI:=⟨kc_i64⟩
theorem w_i64 {f:Nat->AV} (h:k_i64 f):∀ y,y < 1->WkV (zL (qI (g_i64 f)) y) (f y)/\nref (zL (qI (g_i64 f)) y):=by
 have h0:=h
 intro y hy
 match y,hy with
 | 0,_=>exact yB h0
 | y+1,hy=>omega
theorem e_i64_0 (l:List Int) (x:Nat):enR qI l x 0 = .int .i64 (gd l x):=rfl
def c_b (a:Bool):List AV:=[.bool a]
def k_b (f:Nat->AV):Prop:=bK (f 0)
theorem kc_b (a:Bool):k_b (zL (c_b a)):=by
 simp only [k_b,c_b,zL,iK,bK,sK,lK,or_true,true_and,and_true,and_self]
theorem nr_b (a:Bool):zX (c_b a):=by simp only [c_b,zX,nref,and_self]
instance:NOf c_b:=⟨fun a=>by simp only [c_b,tQ,noro,and_self]⟩
instance:NRf c_b:=⟨nr_b⟩
instance:KCf k_b c_b:=⟨kc_b⟩
def c_s (a:ByteArray):List AV:=[.str a]
def k_s (f:Nat->AV):Prop:=sK (f 0)
theorem kc_s (a:ByteArray):k_s (zL (c_s a)):=by
 simp only [k_s,c_s,zL,iK,bK,sK,lK,or_true,true_and,and_true,and_self]
theorem nr_s (a:ByteArray):zX (c_s a):=by simp only [c_s,zX,nref,and_self]
instance:NOf c_s:=⟨fun a=>by simp only [c_s,tQ,noro,and_self]⟩
instance:NRf c_s:=⟨nr_s⟩
instance:KCf k_s c_s:=⟨kc_s⟩
structure A6u8 where
 x0:Int
 x1:Int
 x2:Int
 x3:Int
 x4:Int
 x5:Int
 deriving Inhabited
def cG (a:A6u8):List AV:=[.int .u8 a.x0,.int .u8 a.x1,.int .u8 a.x2,.int .u8 a.x3,.int .u8 a.x4,.int .u8 a.x5]
def k_A6u8 (f:Nat->AV):Prop:=iK .u8 (f 0)/\iK .u8 (f 1)/\iK .u8 (f 2)/\iK .u8 (f 3)/\iK .u8 (f 4)/\iK .u8 (f 5)
theorem kc_A6u8 (a:A6u8):k_A6u8 (zL (cG a)):=by
 simp only [k_A6u8,cG,zL,iK,bK,sK,lK,or_true,true_and,and_true,and_self]
theorem nr_A6u8 (a:A6u8):zX (cG a):=by simp only [cG,zX,nref,and_self]
instance:NOf cG:=⟨fun a=>by simp only [cG,tQ,noro,and_self]⟩
instance:NRf cG:=⟨nr_A6u8⟩
instance:KCf k_A6u8 cG:=⟨kc_A6u8⟩
theorem eta_A6u8 (a:A6u8):A6u8.mk a.x0 a.x1 a.x2 a.x3 a.x4 a.x5=a:=rfl
structure THeader where
 Kind:Int
 Sub:Int
 ToDs:Bool
 FromDs:Bool
 More:Bool
 Retry:Bool
 Sleep:Bool
 MoreData:Bool
 Protected:Bool
 Duration:Int
 A1:A6u8
 A2:A6u8
 A3:A6u8
 A4:A6u8
 Seq:Int
 Frag:Int
 Tid:Int
 Ack:Int
 Amsdu:Bool
 Eosp:Bool
 deriving Inhabited
def tK (a:THeader):List AV:=(.int .u8 a.Kind::.int .u8 a.Sub::.bool a.ToDs::.bool a.FromDs::.bool a.More::.bool a.Retry::.bool a.Sleep::.bool a.MoreData::.bool a.Protected::.int .i64 a.Duration::.int .u8 a.A1.x0::.int .u8 a.A1.x1::.int .u8 a.A1.x2::.int .u8 a.A1.x3::.int .u8 a.A1.x4::.int .u8 a.A1.x5::.int .u8 a.A2.x0::.int .u8 a.A2.x1::.int .u8 a.A2.x2::.int .u8 a.A2.x3::.int .u8 a.A2.x4::.int .u8 a.A2.x5::.int .u8 a.A3.x0::.int .u8 a.A3.x1::.int .u8 a.A3.x2::.int .u8 a.A3.x3::.int .u8 a.A3.x4::.int .u8 a.A3.x5::.int .u8 a.A4.x0::.int .u8 a.A4.x1::.int .u8 a.A4.x2::.int .u8 a.A4.x3::.int .u8 a.A4.x4::.int .u8 a.A4.x5::.int .i64 a.Seq::.int .i64 a.Frag::.int .i64 a.Tid::.int .u8 a.Ack::.bool a.Amsdu::.bool a.Eosp::[])
def k_THeader (f:Nat->AV):Prop:=iK .u8 (f 0)/\iK .u8 (f 1)/\bK (f 2)/\bK (f 3)/\bK (f 4)/\bK (f 5)/\bK (f 6)/\bK (f 7)/\bK (f 8)/\iK .i64 (f 9)/\iK .u8 (f 10)/\iK .u8 (f 11)/\iK .u8 (f 12)/\iK .u8 (f 13)/\iK .u8 (f 14)/\iK .u8 (f 15)/\iK .u8 (f 16)/\iK .u8 (f 17)/\iK .u8 (f 18)/\iK .u8 (f 19)/\iK .u8 (f 20)/\iK .u8 (f 21)/\iK .u8 (f 22)/\iK .u8 (f 23)/\iK .u8 (f 24)/\iK .u8 (f 25)/\iK .u8 (f 26)/\iK .u8 (f 27)/\iK .u8 (f 28)/\iK .u8 (f 29)/\iK .u8 (f 30)/\iK .u8 (f 31)/\iK .u8 (f 32)/\iK .u8 (f 33)/\iK .i64 (f 34)/\iK .i64 (f 35)/\iK .i64 (f 36)/\iK .u8 (f 37)/\bK (f 38)/\bK (f 39)
theorem kc_THeader (a:THeader):k_THeader (zL (tK a)):=by
 simp only [k_THeader,tK,zL,iK,bK,sK,lK,or_true,true_and,and_true,and_self]
theorem nr_THeader (a:THeader):zX (tK a):=by simp only [tK,zX,nref,and_self]
instance:NOf tK:=⟨fun a=>by simp only [tK,tQ,noro,and_self]⟩
instance:NRf tK:=⟨nr_THeader⟩
instance:KCf k_THeader tK:=⟨kc_THeader⟩
theorem eta_THeader (a:THeader):THeader.mk a.Kind a.Sub a.ToDs a.FromDs a.More a.Retry a.Sleep a.MoreData a.Protected a.Duration a.A1 a.A2 a.A3 a.A4 a.Seq a.Frag a.Tid a.Ack a.Amsdu a.Eosp=a:=rfl
def c_lu8 (a:List Int):List AV:=[.ro 1 a.length false (enR xA a)]
def k_lu8 (f:Nat->AV):Prop:=lK k_u8 1 (f 0)
theorem kc_lu8 (a:List Int):k_lu8 (zL (c_lu8 a)):=by
 simp only [k_lu8,c_lu8,zL,iK,bK,sK,lK,or_true,true_and,and_true,and_self,wN kc_u8]
theorem nr_lu8 (a:List Int):zX (c_lu8 a):=by simp only [c_lu8,zX,nref,and_self]
instance:NRf c_lu8:=⟨nr_lu8⟩
instance:KCf k_lu8 c_lu8:=⟨kc_lu8⟩
structure TFrame where
 Head:THeader
 Body:_root_.List Int
 deriving Inhabited
def zI (a:TFrame):List AV:=(.int .u8 a.Head.Kind::.int .u8 a.Head.Sub::.bool a.Head.ToDs::.bool a.Head.FromDs::.bool a.Head.More::.bool a.Head.Retry::.bool a.Head.Sleep::.bool a.Head.MoreData::.bool a.Head.Protected::.int .i64 a.Head.Duration::.int .u8 a.Head.A1.x0::.int .u8 a.Head.A1.x1::.int .u8 a.Head.A1.x2::.int .u8 a.Head.A1.x3::.int .u8 a.Head.A1.x4::.int .u8 a.Head.A1.x5::.int .u8 a.Head.A2.x0::.int .u8 a.Head.A2.x1::.int .u8 a.Head.A2.x2::.int .u8 a.Head.A2.x3::.int .u8 a.Head.A2.x4::.int .u8 a.Head.A2.x5::.int .u8 a.Head.A3.x0::.int .u8 a.Head.A3.x1::.int .u8 a.Head.A3.x2::.int .u8 a.Head.A3.x3::.int .u8 a.Head.A3.x4::.int .u8 a.Head.A3.x5::.int .u8 a.Head.A4.x0::.int .u8 a.Head.A4.x1::.int .u8 a.Head.A4.x2::.int .u8 a.Head.A4.x3::.int .u8 a.Head.A4.x4::.int .u8 a.Head.A4.x5::.int .i64 a.Head.Seq::.int .i64 a.Head.Frag::.int .i64 a.Head.Tid::.int .u8 a.Head.Ack::.bool a.Head.Amsdu::.bool a.Head.Eosp::.ro 1 a.Body.length false (enR xA a.Body)::[])
def yF (f:Nat->AV):TFrame:=⟨⟨iA (f 0),iA (f 1),bA (f 2),bA (f 3),bA (f 4),bA (f 5),bA (f 6),bA (f 7),bA (f 8),iA (f 9),⟨iA (f 10),iA (f 11),iA (f 12),iA (f 13),iA (f 14),iA (f 15)⟩,⟨iA (f 16),iA (f 17),iA (f 18),iA (f 19),iA (f 20),iA (f 21)⟩,⟨iA (f 22),iA (f 23),iA (f 24),iA (f 25),iA (f 26),iA (f 27)⟩,⟨iA (f 28),iA (f 29),iA (f 30),iA (f 31),iA (f 32),iA (f 33)⟩,iA (f 34),iA (f 35),iA (f 36),iA (f 37),bA (f 38),bA (f 39)⟩,lA g_u8 (f 40)⟩
def wI (f:Nat->AV):Prop:=iK .u8 (f 0)/\iK .u8 (f 1)/\bK (f 2)/\bK (f 3)/\bK (f 4)/\bK (f 5)/\bK (f 6)/\bK (f 7)/\bK (f 8)/\iK .i64 (f 9)/\iK .u8 (f 10)/\iK .u8 (f 11)/\iK .u8 (f 12)/\iK .u8 (f 13)/\iK .u8 (f 14)/\iK .u8 (f 15)/\iK .u8 (f 16)/\iK .u8 (f 17)/\iK .u8 (f 18)/\iK .u8 (f 19)/\iK .u8 (f 20)/\iK .u8 (f 21)/\iK .u8 (f 22)/\iK .u8 (f 23)/\iK .u8 (f 24)/\iK .u8 (f 25)/\iK .u8 (f 26)/\iK .u8 (f 27)/\iK .u8 (f 28)/\iK .u8 (f 29)/\iK .u8 (f 30)/\iK .u8 (f 31)/\iK .u8 (f 32)/\iK .u8 (f 33)/\iK .i64 (f 34)/\iK .i64 (f 35)/\iK .i64 (f 36)/\iK .u8 (f 37)/\bK (f 38)/\bK (f 39)/\lK k_u8 1 (f 40)
theorem gc_TFrame (a:TFrame):yF (zL (zI a))=a:=by
 simp only [yF,zI,zL,iA,bA,sA,lA,tL gc_u8]
theorem kc_TFrame (a:TFrame):wI (zL (zI a)):=by
 simp only [wI,zI,zL,iK,bK,sK,lK,or_true,true_and,and_true,and_self,wN kc_u8]
theorem wR (a:TFrame):zX (zI a):=by simp only [zI,zX,nref,and_self]
instance:NRf zI:=⟨wR⟩
instance:KCf wI zI:=⟨kc_TFrame⟩
theorem w_TFrame {f:Nat->AV} (h:wI f):∀ y,y < 41->WkV (zL (zI (yF f)) y) (f y)/\nref (zL (zI (yF f)) y):=by
 obtain ⟨h0,h1,h2,h3,h4,h5,h6,h7,h8,h9,h10,h11,h12,h13,h14,h15,h16,h17,h18,h19,h20,h21,h22,h23,h24,h25,h26,h27,h28,h29,h30,h31,h32,h33,h34,h35,h36,h37,h38,h39,h40⟩:=h
 intro y hy
 match y,hy with
 | 0,_=>exact yB h0
 | 1,_=>exact yB h1
 | 2,_=>exact vY h2
 | 3,_=>exact vY h3
 | 4,_=>exact vY h4
 | 5,_=>exact vY h5
 | 6,_=>exact vY h6
 | 7,_=>exact vY h7
 | 8,_=>exact vY h8
 | 9,_=>exact yB h9
 | 10,_=>exact yB h10
 | 11,_=>exact yB h11
 | 12,_=>exact yB h12
 | 13,_=>exact yB h13
 | 14,_=>exact yB h14
 | 15,_=>exact yB h15
 | 16,_=>exact yB h16
 | 17,_=>exact yB h17
 | 18,_=>exact yB h18
 | 19,_=>exact yB h19
 | 20,_=>exact yB h20
 | 21,_=>exact yB h21
 | 22,_=>exact yB h22
 | 23,_=>exact yB h23
 | 24,_=>exact yB h24
 | 25,_=>exact yB h25
 | 26,_=>exact yB h26
 | 27,_=>exact yB h27
 | 28,_=>exact yB h28
 | 29,_=>exact yB h29
 | 30,_=>exact yB h30
 | 31,_=>exact yB h31
 | 32,_=>exact yB h32
 | 33,_=>exact yB h33
 | 34,_=>exact yB h34
 | 35,_=>exact yB h35
 | 36,_=>exact yB h36
 | 37,_=>exact yB h37
 | 38,_=>exact vY h38
 | 39,_=>exact vY h39
 | 40,_=>exact lK_wk (fun r h=>w_u8 h) h40
 | y+41,hy=>omega
theorem e_TFrame_0 (l:List TFrame) (x:Nat):enR zI l x 0 = .int .u8 (((gd l x).Head).Kind):=rfl
theorem e_TFrame_1 (l:List TFrame) (x:Nat):enR zI l x 1 = .int .u8 (((gd l x).Head).Sub):=rfl
theorem e_TFrame_2 (l:List TFrame) (x:Nat):enR zI l x 2 = .bool (((gd l x).Head).ToDs):=rfl
theorem e_TFrame_3 (l:List TFrame) (x:Nat):enR zI l x 3 = .bool (((gd l x).Head).FromDs):=rfl
theorem e_TFrame_4 (l:List TFrame) (x:Nat):enR zI l x 4 = .bool (((gd l x).Head).More):=rfl
theorem e_TFrame_5 (l:List TFrame) (x:Nat):enR zI l x 5 = .bool (((gd l x).Head).Retry):=rfl
theorem e_TFrame_6 (l:List TFrame) (x:Nat):enR zI l x 6 = .bool (((gd l x).Head).Sleep):=rfl
theorem e_TFrame_7 (l:List TFrame) (x:Nat):enR zI l x 7 = .bool (((gd l x).Head).MoreData):=rfl
theorem e_TFrame_8 (l:List TFrame) (x:Nat):enR zI l x 8 = .bool (((gd l x).Head).Protected):=rfl
theorem e_TFrame_9 (l:List TFrame) (x:Nat):enR zI l x 9 = .int .i64 (((gd l x).Head).Duration):=rfl
theorem e_TFrame_10 (l:List TFrame) (x:Nat):enR zI l x 10 = .int .u8 ((((gd l x).Head).A1).x0):=rfl
theorem e_TFrame_11 (l:List TFrame) (x:Nat):enR zI l x 11 = .int .u8 ((((gd l x).Head).A1).x1):=rfl
theorem e_TFrame_12 (l:List TFrame) (x:Nat):enR zI l x 12 = .int .u8 ((((gd l x).Head).A1).x2):=rfl
theorem e_TFrame_13 (l:List TFrame) (x:Nat):enR zI l x 13 = .int .u8 ((((gd l x).Head).A1).x3):=rfl
theorem e_TFrame_14 (l:List TFrame) (x:Nat):enR zI l x 14 = .int .u8 ((((gd l x).Head).A1).x4):=rfl
theorem e_TFrame_15 (l:List TFrame) (x:Nat):enR zI l x 15 = .int .u8 ((((gd l x).Head).A1).x5):=rfl
theorem e_TFrame_16 (l:List TFrame) (x:Nat):enR zI l x 16 = .int .u8 ((((gd l x).Head).A2).x0):=rfl
theorem e_TFrame_17 (l:List TFrame) (x:Nat):enR zI l x 17 = .int .u8 ((((gd l x).Head).A2).x1):=rfl
theorem e_TFrame_18 (l:List TFrame) (x:Nat):enR zI l x 18 = .int .u8 ((((gd l x).Head).A2).x2):=rfl
theorem e_TFrame_19 (l:List TFrame) (x:Nat):enR zI l x 19 = .int .u8 ((((gd l x).Head).A2).x3):=rfl
theorem e_TFrame_20 (l:List TFrame) (x:Nat):enR zI l x 20 = .int .u8 ((((gd l x).Head).A2).x4):=rfl
theorem e_TFrame_21 (l:List TFrame) (x:Nat):enR zI l x 21 = .int .u8 ((((gd l x).Head).A2).x5):=rfl
theorem e_TFrame_22 (l:List TFrame) (x:Nat):enR zI l x 22 = .int .u8 ((((gd l x).Head).A3).x0):=rfl
theorem e_TFrame_23 (l:List TFrame) (x:Nat):enR zI l x 23 = .int .u8 ((((gd l x).Head).A3).x1):=rfl
theorem e_TFrame_24 (l:List TFrame) (x:Nat):enR zI l x 24 = .int .u8 ((((gd l x).Head).A3).x2):=rfl
theorem e_TFrame_25 (l:List TFrame) (x:Nat):enR zI l x 25 = .int .u8 ((((gd l x).Head).A3).x3):=rfl
theorem e_TFrame_26 (l:List TFrame) (x:Nat):enR zI l x 26 = .int .u8 ((((gd l x).Head).A3).x4):=rfl
theorem e_TFrame_27 (l:List TFrame) (x:Nat):enR zI l x 27 = .int .u8 ((((gd l x).Head).A3).x5):=rfl
theorem e_TFrame_28 (l:List TFrame) (x:Nat):enR zI l x 28 = .int .u8 ((((gd l x).Head).A4).x0):=rfl
theorem e_TFrame_29 (l:List TFrame) (x:Nat):enR zI l x 29 = .int .u8 ((((gd l x).Head).A4).x1):=rfl
theorem e_TFrame_30 (l:List TFrame) (x:Nat):enR zI l x 30 = .int .u8 ((((gd l x).Head).A4).x2):=rfl
theorem e_TFrame_31 (l:List TFrame) (x:Nat):enR zI l x 31 = .int .u8 ((((gd l x).Head).A4).x3):=rfl
theorem e_TFrame_32 (l:List TFrame) (x:Nat):enR zI l x 32 = .int .u8 ((((gd l x).Head).A4).x4):=rfl
theorem e_TFrame_33 (l:List TFrame) (x:Nat):enR zI l x 33 = .int .u8 ((((gd l x).Head).A4).x5):=rfl
theorem e_TFrame_34 (l:List TFrame) (x:Nat):enR zI l x 34 = .int .i64 (((gd l x).Head).Seq):=rfl
theorem e_TFrame_35 (l:List TFrame) (x:Nat):enR zI l x 35 = .int .i64 (((gd l x).Head).Frag):=rfl
theorem e_TFrame_36 (l:List TFrame) (x:Nat):enR zI l x 36 = .int .i64 (((gd l x).Head).Tid):=rfl
theorem e_TFrame_37 (l:List TFrame) (x:Nat):enR zI l x 37 = .int .u8 (((gd l x).Head).Ack):=rfl
theorem e_TFrame_38 (l:List TFrame) (x:Nat):enR zI l x 38 = .bool (((gd l x).Head).Amsdu):=rfl
theorem e_TFrame_39 (l:List TFrame) (x:Nat):enR zI l x 39 = .bool (((gd l x).Head).Eosp):=rfl
theorem e_TFrame_40 (l:List TFrame) (x:Nat):enR zI l x 40 = .ro 1 ((gd l x).Body).length false (enR xA ((gd l x).Body)):=rfl
theorem fit_TFrame (n:Nat) (l:List TFrame):Fit wI n (enR zI l)=True:=eq_true (wN kc_TFrame)
theorem de_TFrame (l:List TFrame):deR yF l.length (enR zI l)=l:=tL gc_TFrame l
theorem eta_TFrame (a:TFrame):TFrame.mk a.Head a.Body=a:=rfl
theorem dV {v:AV} (h:aK 41 wI v):WkV (.agg (zI (yF (aL v)))) v/\nref (.agg (zI (yF (aL v)))):=aK_wk (f:=zI) (g:=yF) (fun r h=>w_TFrame h) rfl (by simp only [zI,zX,nref,and_self]) h
structure TStored where
 Cat:Int
 At:Int
 Frame:TFrame
 deriving Inhabited
def zD (a:TStored):List AV:=(.int .u8 a.Cat::.int .i64 a.At::.int .u8 a.Frame.Head.Kind::.int .u8 a.Frame.Head.Sub::.bool a.Frame.Head.ToDs::.bool a.Frame.Head.FromDs::.bool a.Frame.Head.More::.bool a.Frame.Head.Retry::.bool a.Frame.Head.Sleep::.bool a.Frame.Head.MoreData::.bool a.Frame.Head.Protected::.int .i64 a.Frame.Head.Duration::.int .u8 a.Frame.Head.A1.x0::.int .u8 a.Frame.Head.A1.x1::.int .u8 a.Frame.Head.A1.x2::.int .u8 a.Frame.Head.A1.x3::.int .u8 a.Frame.Head.A1.x4::.int .u8 a.Frame.Head.A1.x5::.int .u8 a.Frame.Head.A2.x0::.int .u8 a.Frame.Head.A2.x1::.int .u8 a.Frame.Head.A2.x2::.int .u8 a.Frame.Head.A2.x3::.int .u8 a.Frame.Head.A2.x4::.int .u8 a.Frame.Head.A2.x5::.int .u8 a.Frame.Head.A3.x0::.int .u8 a.Frame.Head.A3.x1::.int .u8 a.Frame.Head.A3.x2::.int .u8 a.Frame.Head.A3.x3::.int .u8 a.Frame.Head.A3.x4::.int .u8 a.Frame.Head.A3.x5::.int .u8 a.Frame.Head.A4.x0::.int .u8 a.Frame.Head.A4.x1::.int .u8 a.Frame.Head.A4.x2::.int .u8 a.Frame.Head.A4.x3::.int .u8 a.Frame.Head.A4.x4::.int .u8 a.Frame.Head.A4.x5::.int .i64 a.Frame.Head.Seq::.int .i64 a.Frame.Head.Frag::.int .i64 a.Frame.Head.Tid::.int .u8 a.Frame.Head.Ack::.bool a.Frame.Head.Amsdu::.bool a.Frame.Head.Eosp::.ro 1 a.Frame.Body.length false (enR xA a.Frame.Body)::[])
def xC (f:Nat->AV):TStored:=⟨iA (f 0),iA (f 1),⟨⟨iA (f 2),iA (f 3),bA (f 4),bA (f 5),bA (f 6),bA (f 7),bA (f 8),bA (f 9),bA (f 10),iA (f 11),⟨iA (f 12),iA (f 13),iA (f 14),iA (f 15),iA (f 16),iA (f 17)⟩,⟨iA (f 18),iA (f 19),iA (f 20),iA (f 21),iA (f 22),iA (f 23)⟩,⟨iA (f 24),iA (f 25),iA (f 26),iA (f 27),iA (f 28),iA (f 29)⟩,⟨iA (f 30),iA (f 31),iA (f 32),iA (f 33),iA (f 34),iA (f 35)⟩,iA (f 36),iA (f 37),iA (f 38),iA (f 39),bA (f 40),bA (f 41)⟩,lA g_u8 (f 42)⟩⟩
def wB (f:Nat->AV):Prop:=iK .u8 (f 0)/\iK .i64 (f 1)/\iK .u8 (f 2)/\iK .u8 (f 3)/\bK (f 4)/\bK (f 5)/\bK (f 6)/\bK (f 7)/\bK (f 8)/\bK (f 9)/\bK (f 10)/\iK .i64 (f 11)/\iK .u8 (f 12)/\iK .u8 (f 13)/\iK .u8 (f 14)/\iK .u8 (f 15)/\iK .u8 (f 16)/\iK .u8 (f 17)/\iK .u8 (f 18)/\iK .u8 (f 19)/\iK .u8 (f 20)/\iK .u8 (f 21)/\iK .u8 (f 22)/\iK .u8 (f 23)/\iK .u8 (f 24)/\iK .u8 (f 25)/\iK .u8 (f 26)/\iK .u8 (f 27)/\iK .u8 (f 28)/\iK .u8 (f 29)/\iK .u8 (f 30)/\iK .u8 (f 31)/\iK .u8 (f 32)/\iK .u8 (f 33)/\iK .u8 (f 34)/\iK .u8 (f 35)/\iK .i64 (f 36)/\iK .i64 (f 37)/\iK .i64 (f 38)/\iK .u8 (f 39)/\bK (f 40)/\bK (f 41)/\lK k_u8 1 (f 42)
theorem gc_TStored (a:TStored):xC (zL (zD a))=a:=by
 simp only [xC,zD,zL,iA,bA,sA,lA,tL gc_u8]
theorem fD (a:TStored):wB (zL (zD a)):=by
 simp only [wB,zD,zL,iK,bK,sK,lK,or_true,true_and,and_true,and_self,wN kc_u8]
theorem yQ (a:TStored):zX (zD a):=by simp only [zD,zX,nref,and_self]
instance:NRf zD:=⟨yQ⟩
instance:KCf wB zD:=⟨fD⟩
theorem gM {f:Nat->AV} (h:wB f):∀ y,y < 43->WkV (zL (zD (xC f)) y) (f y)/\nref (zL (zD (xC f)) y):=by
 obtain ⟨h0,h1,h2,h3,h4,h5,h6,h7,h8,h9,h10,h11,h12,h13,h14,h15,h16,h17,h18,h19,h20,h21,h22,h23,h24,h25,h26,h27,h28,h29,h30,h31,h32,h33,h34,h35,h36,h37,h38,h39,h40,h41,h42⟩:=h
 intro y hy
 match y,hy with
 | 0,_=>exact yB h0
 | 1,_=>exact yB h1
 | 2,_=>exact yB h2
 | 3,_=>exact yB h3
 | 4,_=>exact vY h4
 | 5,_=>exact vY h5
 | 6,_=>exact vY h6
 | 7,_=>exact vY h7
 | 8,_=>exact vY h8
 | 9,_=>exact vY h9
 | 10,_=>exact vY h10
 | 11,_=>exact yB h11
 | 12,_=>exact yB h12
 | 13,_=>exact yB h13
 | 14,_=>exact yB h14
 | 15,_=>exact yB h15
 | 16,_=>exact yB h16
 | 17,_=>exact yB h17
 | 18,_=>exact yB h18
 | 19,_=>exact yB h19
 | 20,_=>exact yB h20
 | 21,_=>exact yB h21
 | 22,_=>exact yB h22
 | 23,_=>exact yB h23
 | 24,_=>exact yB h24
 | 25,_=>exact yB h25
 | 26,_=>exact yB h26
 | 27,_=>exact yB h27
 | 28,_=>exact yB h28
 | 29,_=>exact yB h29
 | 30,_=>exact yB h30
 | 31,_=>exact yB h31
 | 32,_=>exact yB h32
 | 33,_=>exact yB h33
 | 34,_=>exact yB h34
 | 35,_=>exact yB h35
 | 36,_=>exact yB h36
 | 37,_=>exact yB h37
 | 38,_=>exact yB h38
 | 39,_=>exact yB h39
 | 40,_=>exact vY h40
 | 41,_=>exact vY h41
 | 42,_=>exact lK_wk (fun r h=>w_u8 h) h42
 | y+43,hy=>omega
theorem e_TStored_0 (l:List TStored) (x:Nat):enR zD l x 0 = .int .u8 ((gd l x).Cat):=rfl
theorem e_TStored_1 (l:List TStored) (x:Nat):enR zD l x 1 = .int .i64 ((gd l x).At):=rfl
theorem e_TStored_2 (l:List TStored) (x:Nat):enR zD l x 2 = .int .u8 ((((gd l x).Frame).Head).Kind):=rfl
theorem e_TStored_3 (l:List TStored) (x:Nat):enR zD l x 3 = .int .u8 ((((gd l x).Frame).Head).Sub):=rfl
theorem e_TStored_4 (l:List TStored) (x:Nat):enR zD l x 4 = .bool ((((gd l x).Frame).Head).ToDs):=rfl
theorem e_TStored_5 (l:List TStored) (x:Nat):enR zD l x 5 = .bool ((((gd l x).Frame).Head).FromDs):=rfl
theorem e_TStored_6 (l:List TStored) (x:Nat):enR zD l x 6 = .bool ((((gd l x).Frame).Head).More):=rfl
theorem e_TStored_7 (l:List TStored) (x:Nat):enR zD l x 7 = .bool ((((gd l x).Frame).Head).Retry):=rfl
theorem e_TStored_8 (l:List TStored) (x:Nat):enR zD l x 8 = .bool ((((gd l x).Frame).Head).Sleep):=rfl
theorem e_TStored_9 (l:List TStored) (x:Nat):enR zD l x 9 = .bool ((((gd l x).Frame).Head).MoreData):=rfl
theorem e_TStored_10 (l:List TStored) (x:Nat):enR zD l x 10 = .bool ((((gd l x).Frame).Head).Protected):=rfl
theorem e_TStored_11 (l:List TStored) (x:Nat):enR zD l x 11 = .int .i64 ((((gd l x).Frame).Head).Duration):=rfl
theorem e_TStored_12 (l:List TStored) (x:Nat):enR zD l x 12 = .int .u8 (((((gd l x).Frame).Head).A1).x0):=rfl
theorem e_TStored_13 (l:List TStored) (x:Nat):enR zD l x 13 = .int .u8 (((((gd l x).Frame).Head).A1).x1):=rfl
theorem e_TStored_14 (l:List TStored) (x:Nat):enR zD l x 14 = .int .u8 (((((gd l x).Frame).Head).A1).x2):=rfl
theorem e_TStored_15 (l:List TStored) (x:Nat):enR zD l x 15 = .int .u8 (((((gd l x).Frame).Head).A1).x3):=rfl
theorem e_TStored_16 (l:List TStored) (x:Nat):enR zD l x 16 = .int .u8 (((((gd l x).Frame).Head).A1).x4):=rfl
theorem e_TStored_17 (l:List TStored) (x:Nat):enR zD l x 17 = .int .u8 (((((gd l x).Frame).Head).A1).x5):=rfl
theorem e_TStored_18 (l:List TStored) (x:Nat):enR zD l x 18 = .int .u8 (((((gd l x).Frame).Head).A2).x0):=rfl
theorem e_TStored_19 (l:List TStored) (x:Nat):enR zD l x 19 = .int .u8 (((((gd l x).Frame).Head).A2).x1):=rfl
theorem e_TStored_20 (l:List TStored) (x:Nat):enR zD l x 20 = .int .u8 (((((gd l x).Frame).Head).A2).x2):=rfl
theorem e_TStored_21 (l:List TStored) (x:Nat):enR zD l x 21 = .int .u8 (((((gd l x).Frame).Head).A2).x3):=rfl
theorem e_TStored_22 (l:List TStored) (x:Nat):enR zD l x 22 = .int .u8 (((((gd l x).Frame).Head).A2).x4):=rfl
theorem e_TStored_23 (l:List TStored) (x:Nat):enR zD l x 23 = .int .u8 (((((gd l x).Frame).Head).A2).x5):=rfl
theorem e_TStored_24 (l:List TStored) (x:Nat):enR zD l x 24 = .int .u8 (((((gd l x).Frame).Head).A3).x0):=rfl
theorem e_TStored_25 (l:List TStored) (x:Nat):enR zD l x 25 = .int .u8 (((((gd l x).Frame).Head).A3).x1):=rfl
theorem e_TStored_26 (l:List TStored) (x:Nat):enR zD l x 26 = .int .u8 (((((gd l x).Frame).Head).A3).x2):=rfl
theorem e_TStored_27 (l:List TStored) (x:Nat):enR zD l x 27 = .int .u8 (((((gd l x).Frame).Head).A3).x3):=rfl
theorem e_TStored_28 (l:List TStored) (x:Nat):enR zD l x 28 = .int .u8 (((((gd l x).Frame).Head).A3).x4):=rfl
theorem e_TStored_29 (l:List TStored) (x:Nat):enR zD l x 29 = .int .u8 (((((gd l x).Frame).Head).A3).x5):=rfl
theorem e_TStored_30 (l:List TStored) (x:Nat):enR zD l x 30 = .int .u8 (((((gd l x).Frame).Head).A4).x0):=rfl
theorem e_TStored_31 (l:List TStored) (x:Nat):enR zD l x 31 = .int .u8 (((((gd l x).Frame).Head).A4).x1):=rfl
theorem e_TStored_32 (l:List TStored) (x:Nat):enR zD l x 32 = .int .u8 (((((gd l x).Frame).Head).A4).x2):=rfl
theorem e_TStored_33 (l:List TStored) (x:Nat):enR zD l x 33 = .int .u8 (((((gd l x).Frame).Head).A4).x3):=rfl
theorem e_TStored_34 (l:List TStored) (x:Nat):enR zD l x 34 = .int .u8 (((((gd l x).Frame).Head).A4).x4):=rfl
theorem e_TStored_35 (l:List TStored) (x:Nat):enR zD l x 35 = .int .u8 (((((gd l x).Frame).Head).A4).x5):=rfl
theorem e_TStored_36 (l:List TStored) (x:Nat):enR zD l x 36 = .int .i64 ((((gd l x).Frame).Head).Seq):=rfl
theorem e_TStored_37 (l:List TStored) (x:Nat):enR zD l x 37 = .int .i64 ((((gd l x).Frame).Head).Frag):=rfl
theorem e_TStored_38 (l:List TStored) (x:Nat):enR zD l x 38 = .int .i64 ((((gd l x).Frame).Head).Tid):=rfl
theorem e_TStored_39 (l:List TStored) (x:Nat):enR zD l x 39 = .int .u8 ((((gd l x).Frame).Head).Ack):=rfl
theorem e_TStored_40 (l:List TStored) (x:Nat):enR zD l x 40 = .bool ((((gd l x).Frame).Head).Amsdu):=rfl
theorem e_TStored_41 (l:List TStored) (x:Nat):enR zD l x 41 = .bool ((((gd l x).Frame).Head).Eosp):=rfl
theorem e_TStored_42 (l:List TStored) (x:Nat):enR zD l x 42 = .ro 1 (((gd l x).Frame).Body).length false (enR xA (((gd l x).Frame).Body)):=rfl
theorem fit_TStored (n:Nat) (l:List TStored):Fit wB n (enR zD l)=True:=eq_true (wN fD)
theorem de_TStored (l:List TStored):deR xC l.length (enR zD l)=l:=tL gc_TStored l
theorem eta_TStored (a:TStored):TStored.mk a.Cat a.At a.Frame=a:=rfl
theorem wA_TStored {v:AV} (h:aK 43 wB v):WkV (.agg (zD (xC (aL v)))) v/\nref (.agg (zD (xC (aL v)))):=aK_wk (f:=zD) (g:=xC) (fun r h=>gM h) rfl (by simp only [zD,zX,nref,and_self]) h
def kT (a:List TStored):List AV:=[.ro 43 a.length false (enR zD a)]
def k_lTStored (f:Nat->AV):Prop:=lK wB 43 (f 0)
theorem kc_lTStored (a:List TStored):k_lTStored (zL (kT a)):=by
 simp only [k_lTStored,kT,zL,iK,bK,sK,lK,or_true,true_and,and_true,and_self,wN fD]
theorem nr_lTStored (a:List TStored):zX (kT a):=by simp only [kT,zX,nref,and_self]
instance:NRf kT:=⟨nr_lTStored⟩
instance:KCf k_lTStored kT:=⟨kc_lTStored⟩
structure TSleeper where
 Aid:Int
 Asleep:Bool
 Held:_root_.List TStored
 deriving Inhabited
def zC (a:TSleeper):List AV:=[.int .i64 a.Aid,.bool a.Asleep,.ro 43 a.Held.length false (enR zD a.Held)]
def yS (f:Nat->AV):TSleeper:=⟨iA (f 0),bA (f 1),lA xC (f 2)⟩
def xU (f:Nat->AV):Prop:=iK .i64 (f 0)/\bK (f 1)/\lK wB 43 (f 2)
theorem gc_TSleeper (a:TSleeper):yS (zL (zC a))=a:=by
 simp only [yS,zC,zL,iA,bA,sA,lA,tL gc_TStored]
theorem fW (a:TSleeper):xU (zL (zC a)):=by
 simp only [xU,zC,zL,iK,bK,sK,lK,or_true,true_and,and_true,and_self,wN fD]
theorem zG (a:TSleeper):zX (zC a):=by simp only [zC,zX,nref,and_self]
instance:NRf zC:=⟨zG⟩
instance:KCf xU zC:=⟨fW⟩
theorem fL {f:Nat->AV} (h:xU f):∀ y,y < 3->WkV (zL (zC (yS f)) y) (f y)/\nref (zL (zC (yS f)) y):=by
 obtain ⟨h0,h1,h2⟩:=h
 intro y hy
 match y,hy with
 | 0,_=>exact yB h0
 | 1,_=>exact vY h1
 | 2,_=>exact lK_wk (fun r h=>gM h) h2
 | y+3,hy=>omega
theorem e_TSleeper_0 (l:List TSleeper) (x:Nat):enR zC l x 0 = .int .i64 ((gd l x).Aid):=rfl
theorem e_TSleeper_1 (l:List TSleeper) (x:Nat):enR zC l x 1 = .bool ((gd l x).Asleep):=rfl
theorem e_TSleeper_2 (l:List TSleeper) (x:Nat):enR zC l x 2 = .ro 43 ((gd l x).Held).length false (enR zD ((gd l x).Held)):=rfl
theorem fit_TSleeper (n:Nat) (l:List TSleeper):Fit xU n (enR zC l)=True:=eq_true (wN fW)
theorem de_TSleeper (l:List TSleeper):deR yS l.length (enR zC l)=l:=tL gc_TSleeper l
theorem eta_TSleeper (a:TSleeper):TSleeper.mk a.Aid a.Asleep a.Held=a:=rfl
theorem wA_TSleeper {v:AV} (h:aK 3 xU v):WkV (.agg (zC (yS (aL v)))) v/\nref (.agg (zC (yS (aL v)))):=aK_wk (f:=zC) (g:=yS) (fun r h=>fL h) rfl (by simp only [zC,zX,nref,and_self]) h
def qJ (a:List TSleeper):List AV:=[.ro 3 a.length false (enR zC a)]
def k_lTSleeper (f:Nat->AV):Prop:=lK xU 3 (f 0)
theorem kc_lTSleeper (a:List TSleeper):k_lTSleeper (zL (qJ a)):=by
 simp only [k_lTSleeper,qJ,zL,iK,bK,sK,lK,or_true,true_and,and_true,and_self,wN fW]
theorem nr_lTSleeper (a:List TSleeper):zX (qJ a):=by simp only [qJ,zX,nref,and_self]
instance:NRf qJ:=⟨nr_lTSleeper⟩
instance:KCf k_lTSleeper qJ:=⟨kc_lTSleeper⟩
structure TBuffer where
 Limit:Int
 Stay:Int
 List:_root_.List TSleeper
 Group:_root_.List TStored
 deriving Inhabited
def xB (a:TBuffer):List AV:=[.int .i64 a.Limit,.int .i64 a.Stay,.ro 3 a.List.length false (enR zC a.List),.ro 43 a.Group.length false (enR zD a.Group)]
def zY (f:Nat->AV):TBuffer:=⟨iA (f 0),iA (f 1),lA yS (f 2),lA xC (f 3)⟩
def uA (f:Nat->AV):Prop:=iK .i64 (f 0)/\iK .i64 (f 1)/\lK xU 3 (f 2)/\lK wB 43 (f 3)
theorem kc_TBuffer (a:TBuffer):uA (zL (xB a)):=by
 simp only [uA,xB,zL,iK,bK,sK,lK,or_true,true_and,and_true,and_self,wN fW,wN fD]
theorem nr_TBuffer (a:TBuffer):zX (xB a):=by simp only [xB,zX,nref,and_self]
instance:NRf xB:=⟨nr_TBuffer⟩
instance:KCf uA xB:=⟨kc_TBuffer⟩
theorem w_TBuffer {f:Nat->AV} (h:uA f):∀ y,y < 4->WkV (zL (xB (zY f)) y) (f y)/\nref (zL (xB (zY f)) y):=by
 obtain ⟨h0,h1,h2,h3⟩:=h
 intro y hy
 match y,hy with
 | 0,_=>exact yB h0
 | 1,_=>exact yB h1
 | 2,_=>exact lK_wk (fun r h=>fL h) h2
 | 3,_=>exact lK_wk (fun r h=>gM h) h3
 | y+4,hy=>omega
theorem eta_TBuffer (a:TBuffer):TBuffer.mk a.Limit a.Stay a.List a.Group=a:=rfl
theorem fK {v:AV} (h:aK 4 uA v):WkV (.agg (xB (zY (aL v)))) v/\nref (.agg (xB (zY (aL v)))):=aK_wk (f:=xB) (g:=zY) (fun r h=>w_TBuffer h) rfl (by simp only [xB,zX,nref,and_self]) h
def c_li64 (a:List Int):List AV:=[.ro 1 a.length false (enR qI a)]
def k_li64 (f:Nat->AV):Prop:=lK k_i64 1 (f 0)
theorem kc_li64 (a:List Int):k_li64 (zL (c_li64 a)):=by
 simp only [k_li64,c_li64,zL,iK,bK,sK,lK,or_true,true_and,and_true,and_self,wN kc_i64]
theorem nr_li64 (a:List Int):zX (c_li64 a):=by simp only [c_li64,zX,nref,and_self]
instance:NRf c_li64:=⟨nr_li64⟩
instance:KCf k_li64 c_li64:=⟨kc_li64⟩
structure TTraffic where
 Group:Bool
 Aids:_root_.List Int
 deriving Inhabited
def kQ (a:TTraffic):List AV:=[.bool a.Group,.ro 1 a.Aids.length false (enR qI a.Aids)]
def k_TTraffic (f:Nat->AV):Prop:=bK (f 0)/\lK k_i64 1 (f 1)
theorem kc_TTraffic (a:TTraffic):k_TTraffic (zL (kQ a)):=by
 simp only [k_TTraffic,kQ,zL,iK,bK,sK,lK,or_true,true_and,and_true,and_self,wN kc_i64]
theorem nr_TTraffic (a:TTraffic):zX (kQ a):=by simp only [kQ,zX,nref,and_self]
instance:NRf kQ:=⟨nr_TTraffic⟩
instance:KCf k_TTraffic kQ:=⟨kc_TTraffic⟩
def gI (a:List TFrame):List AV:=[.ro 41 a.length false (enR zI a)]
def k_lTFrame (f:Nat->AV):Prop:=lK wI 41 (f 0)
theorem kc_lTFrame (a:List TFrame):k_lTFrame (zL (gI a)):=by
 simp only [k_lTFrame,gI,zL,iK,bK,sK,lK,or_true,true_and,and_true,and_self,wN kc_TFrame]
theorem nr_lTFrame (a:List TFrame):zX (gI a):=by simp only [gI,zX,nref,and_self]
instance:NRf gI:=⟨nr_lTFrame⟩
instance:KCf k_lTFrame gI:=⟨kc_lTFrame⟩
structure TStep where
 Kind:Int
 Aid:Int
 Cat:Int
 Now:Int
 Frame:TFrame
 deriving Inhabited
def wP (a:TStep):List AV:=(.int .i64 a.Kind::.int .i64 a.Aid::.int .u8 a.Cat::.int .i64 a.Now::.int .u8 a.Frame.Head.Kind::.int .u8 a.Frame.Head.Sub::.bool a.Frame.Head.ToDs::.bool a.Frame.Head.FromDs::.bool a.Frame.Head.More::.bool a.Frame.Head.Retry::.bool a.Frame.Head.Sleep::.bool a.Frame.Head.MoreData::.bool a.Frame.Head.Protected::.int .i64 a.Frame.Head.Duration::.int .u8 a.Frame.Head.A1.x0::.int .u8 a.Frame.Head.A1.x1::.int .u8 a.Frame.Head.A1.x2::.int .u8 a.Frame.Head.A1.x3::.int .u8 a.Frame.Head.A1.x4::.int .u8 a.Frame.Head.A1.x5::.int .u8 a.Frame.Head.A2.x0::.int .u8 a.Frame.Head.A2.x1::.int .u8 a.Frame.Head.A2.x2::.int .u8 a.Frame.Head.A2.x3::.int .u8 a.Frame.Head.A2.x4::.int .u8 a.Frame.Head.A2.x5::.int .u8 a.Frame.Head.A3.x0::.int .u8 a.Frame.Head.A3.x1::.int .u8 a.Frame.Head.A3.x2::.int .u8 a.Frame.Head.A3.x3::.int .u8 a.Frame.Head.A3.x4::.int .u8 a.Frame.Head.A3.x5::.int .u8 a.Frame.Head.A4.x0::.int .u8 a.Frame.Head.A4.x1::.int .u8 a.Frame.Head.A4.x2::.int .u8 a.Frame.Head.A4.x3::.int .u8 a.Frame.Head.A4.x4::.int .u8 a.Frame.Head.A4.x5::.int .i64 a.Frame.Head.Seq::.int .i64 a.Frame.Head.Frag::.int .i64 a.Frame.Head.Tid::.int .u8 a.Frame.Head.Ack::.bool a.Frame.Head.Amsdu::.bool a.Frame.Head.Eosp::.ro 1 a.Frame.Body.length false (enR xA a.Frame.Body)::[])
def cK (f:Nat->AV):TStep:=⟨iA (f 0),iA (f 1),iA (f 2),iA (f 3),⟨⟨iA (f 4),iA (f 5),bA (f 6),bA (f 7),bA (f 8),bA (f 9),bA (f 10),bA (f 11),bA (f 12),iA (f 13),⟨iA (f 14),iA (f 15),iA (f 16),iA (f 17),iA (f 18),iA (f 19)⟩,⟨iA (f 20),iA (f 21),iA (f 22),iA (f 23),iA (f 24),iA (f 25)⟩,⟨iA (f 26),iA (f 27),iA (f 28),iA (f 29),iA (f 30),iA (f 31)⟩,⟨iA (f 32),iA (f 33),iA (f 34),iA (f 35),iA (f 36),iA (f 37)⟩,iA (f 38),iA (f 39),iA (f 40),iA (f 41),bA (f 42),bA (f 43)⟩,lA g_u8 (f 44)⟩⟩
def fV (f:Nat->AV):Prop:=iK .i64 (f 0)/\iK .i64 (f 1)/\iK .u8 (f 2)/\iK .i64 (f 3)/\iK .u8 (f 4)/\iK .u8 (f 5)/\bK (f 6)/\bK (f 7)/\bK (f 8)/\bK (f 9)/\bK (f 10)/\bK (f 11)/\bK (f 12)/\iK .i64 (f 13)/\iK .u8 (f 14)/\iK .u8 (f 15)/\iK .u8 (f 16)/\iK .u8 (f 17)/\iK .u8 (f 18)/\iK .u8 (f 19)/\iK .u8 (f 20)/\iK .u8 (f 21)/\iK .u8 (f 22)/\iK .u8 (f 23)/\iK .u8 (f 24)/\iK .u8 (f 25)/\iK .u8 (f 26)/\iK .u8 (f 27)/\iK .u8 (f 28)/\iK .u8 (f 29)/\iK .u8 (f 30)/\iK .u8 (f 31)/\iK .u8 (f 32)/\iK .u8 (f 33)/\iK .u8 (f 34)/\iK .u8 (f 35)/\iK .u8 (f 36)/\iK .u8 (f 37)/\iK .i64 (f 38)/\iK .i64 (f 39)/\iK .i64 (f 40)/\iK .u8 (f 41)/\bK (f 42)/\bK (f 43)/\lK k_u8 1 (f 44)
theorem kc_TStep (a:TStep):fV (zL (wP a)):=by
 simp only [fV,wP,zL,iK,bK,sK,lK,or_true,true_and,and_true,and_self,wN kc_u8]
theorem nr_TStep (a:TStep):zX (wP a):=by simp only [wP,zX,nref,and_self]
instance:NRf wP:=⟨nr_TStep⟩
instance:KCf fV wP:=⟨kc_TStep⟩
theorem w_TStep {f:Nat->AV} (h:fV f):∀ y,y < 45->WkV (zL (wP (cK f)) y) (f y)/\nref (zL (wP (cK f)) y):=by
 obtain ⟨h0,h1,h2,h3,h4,h5,h6,h7,h8,h9,h10,h11,h12,h13,h14,h15,h16,h17,h18,h19,h20,h21,h22,h23,h24,h25,h26,h27,h28,h29,h30,h31,h32,h33,h34,h35,h36,h37,h38,h39,h40,h41,h42,h43,h44⟩:=h
 intro y hy
 match y,hy with
 | 0,_=>exact yB h0
 | 1,_=>exact yB h1
 | 2,_=>exact yB h2
 | 3,_=>exact yB h3
 | 4,_=>exact yB h4
 | 5,_=>exact yB h5
 | 6,_=>exact vY h6
 | 7,_=>exact vY h7
 | 8,_=>exact vY h8
 | 9,_=>exact vY h9
 | 10,_=>exact vY h10
 | 11,_=>exact vY h11
 | 12,_=>exact vY h12
 | 13,_=>exact yB h13
 | 14,_=>exact yB h14
 | 15,_=>exact yB h15
 | 16,_=>exact yB h16
 | 17,_=>exact yB h17
 | 18,_=>exact yB h18
 | 19,_=>exact yB h19
 | 20,_=>exact yB h20
 | 21,_=>exact yB h21
 | 22,_=>exact yB h22
 | 23,_=>exact yB h23
 | 24,_=>exact yB h24
 | 25,_=>exact yB h25
 | 26,_=>exact yB h26
 | 27,_=>exact yB h27
 | 28,_=>exact yB h28
 | 29,_=>exact yB h29
 | 30,_=>exact yB h30
 | 31,_=>exact yB h31
 | 32,_=>exact yB h32
 | 33,_=>exact yB h33
 | 34,_=>exact yB h34
 | 35,_=>exact yB h35
 | 36,_=>exact yB h36
 | 37,_=>exact yB h37
 | 38,_=>exact yB h38
 | 39,_=>exact yB h39
 | 40,_=>exact yB h40
 | 41,_=>exact yB h41
 | 42,_=>exact vY h42
 | 43,_=>exact vY h43
 | 44,_=>exact lK_wk (fun r h=>w_u8 h) h44
 | y+45,hy=>omega
theorem eta_TStep (a:TStep):TStep.mk a.Kind a.Aid a.Cat a.Now a.Frame=a:=rfl
theorem wA_TStep {v:AV} (h:aK 45 fV v):WkV (.agg (wP (cK (aL v)))) v/\nref (.agg (wP (cK (aL v)))):=aK_wk (f:=wP) (g:=cK) (fun r h=>w_TStep h) rfl (by simp only [wP,zX,nref,and_self]) h
def eS (a:List TStep):List AV:=[.ro 45 a.length false (enR wP a)]
def k_lTStep (f:Nat->AV):Prop:=lK fV 45 (f 0)
theorem kc_lTStep (a:List TStep):k_lTStep (zL (eS a)):=by
 simp only [k_lTStep,eS,zL,iK,bK,sK,lK,or_true,true_and,and_true,and_self,wN kc_TStep]
theorem nr_lTStep (a:List TStep):zX (eS a):=by simp only [eS,zX,nref,and_self]
instance:NRf eS:=⟨nr_lTStep⟩
instance:KCf k_lTStep eS:=⟨kc_lTStep⟩
def c_u64 (a:Int):List AV:=[.int .u64 a]
def k_u64 (f:Nat->AV):Prop:=iK .u64 (f 0)
theorem kc_u64 (a:Int):k_u64 (zL (c_u64 a)):=by
 simp only [k_u64,c_u64,zL,iK,bK,sK,lK,or_true,true_and,and_true,and_self]
theorem nr_u64 (a:Int):zX (c_u64 a):=by simp only [c_u64,zX,nref,and_self]
instance:NOf c_u64:=⟨fun a=>by simp only [c_u64,tQ,noro,and_self]⟩
instance:NRf c_u64:=⟨nr_u64⟩
instance:KCf k_u64 c_u64:=⟨kc_u64⟩
def shT (t:TypeId):Option (List Leaf):=if t=28 then some [.i .u8,.i .u8,.i .u8,.i .u8,.i .u8,.i .u8] else if t=30 then some (.i .u8::.i .u8::.b::.b::.b::.b::.b::.b::.b::.i .i64::.i .u8::.i .u8::.i .u8::.i .u8::.i .u8::.i .u8::.i .u8::.i .u8::.i .u8::.i .u8::.i .u8::.i .u8::.i .u8::.i .u8::.i .u8::.i .u8::.i .u8::.i .u8::.i .u8::.i .u8::.i .u8::.i .u8::.i .u8::.i .u8::.i .i64::.i .i64::.i .i64::.i .u8::.b::.b::[]) else none
theorem zO:fN Try.prog shT:=by
 refine shOk_of fun t l h=>?_
 unfold shT at h
 split at h
 ·rename_i ht;subst ht;injection h with h;subst h;exact ⟨by kernel_rfl,by kernel_rfl,by kernel_rfl⟩
 split at h
 ·rename_i ht;subst ht;injection h with h;subst h;exact ⟨by kernel_rfl,by kernel_rfl,by kernel_rfl⟩
 cases h
theorem shT_28:shT 28=some [.i .u8,.i .u8,.i .u8,.i .u8,.i .u8,.i .u8]:=rfl
theorem shT_30:shT 30=some (.i .u8::.i .u8::.b::.b::.b::.b::.b::.b::.b::.i .i64::.i .u8::.i .u8::.i .u8::.i .u8::.i .u8::.i .u8::.i .u8::.i .u8::.i .u8::.i .u8::.i .u8::.i .u8::.i .u8::.i .u8::.i .u8::.i .u8::.i .u8::.i .u8::.i .u8::.i .u8::.i .u8::.i .u8::.i .u8::.i .u8::.i .i64::.i .i64::.i .i64::.i .u8::.b::.b::[]):=rfl
theorem fO {k:(Nat->AV)->Prop} {n p:Nat} {c d:Nat->Nat->AV} (h1:Fit k p c) (h2:Fit k (n - p) d):Fit k n (kD p c d):=fun x hx=>by
 by_cases h:x < p
 ·rw [show kD p c d x=c x from funext fun y=>if_pos h];exact h1 x h
 ·rw [show kD p c d x=d (x - p) from funext fun y=>if_neg h];exact h2 _ (by omega)
def ctNo:Ct:=tab []
theorem zA:wO Try.prog ctNo:=zU
theorem ctNo_at (k:Nat) (l:List AV) (h:List ABlk):ctNo k l h = .fail:=rfl
theorem strE_u8 (s:ByteArray):strE s=enR xA (bytesL s):=strE_en (fun _=>rfl) s
theorem rg {ct:Ct} (C:wO Try.prog ct) {a:Code} {K:Kt} {t:List AV} {h:List ABlk} (hw:wpC Try.prog shT ct a K t h):Mean Try.prog a K t h:=wpC_sound zO C a K t h hw
theorem sq {ct:Ct} (C:wO Try.prog ct) {a b:Code} {K:Kt} {t:List AV} {h:List ABlk} (hw:wpC Try.prog shT ct a (kM Try.prog b K) t h):Mean Try.prog (.seq a b) K t h:=zZ (wpC_sound zO C a _ t h hw)
theorem aI {A B : Prop} (a : A) (b : B) : A /\ B:=⟨a,b⟩
theorem lCl {α : Type} {a : α} {l : List α} : (a::l).length=l.length+1:=rfl
theorem lNl {α : Type} : ([] : List α).length=0:=rfl
theorem rS {α : Type} {a : α} {n : Nat} : List.replicate (n+1) a=a::List.replicate n a:=rfl
theorem rZ {α : Type} {a : α} : List.replicate 0 a=[]:=rfl
theorem aC {α : Type} {a : α} {l m : List α} : a::l ++ m=a::(l ++ m):=rfl
theorem aN {α : Type} {l : List α} : [] ++ l=l:=rfl
theorem tS {α : Type} {a : α} {l : List α} {n : Nat} : (a::l).take (n+1)=a::l.take n:=rfl
theorem tZ {α : Type} {l : List α} : l.take 0=[]:=rfl
theorem dSl {α : Type} {a : α} {l : List α} {n : Nat} : (a::l).drop (n+1)=l.drop n:=rfl
theorem dZ {α : Type} {l : List α} : l.drop 0=l:=rfl
theorem oE {α : Type} {o : Option α} : o.isSome=true ↔ ∃ a,o=some a:=Option.isSome_iff_exists
end Go.Proofs.Ytefiemaoacmdkaa

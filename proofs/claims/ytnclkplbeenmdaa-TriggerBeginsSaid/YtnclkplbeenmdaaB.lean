/-
  Go's values as typed values.
-/
import Derived.Test.YtnclkplbeenmdaaT
import Derived.Test.YtnclkplbeenmdaaPm10
namespace Go.Proofs.Ytnclkplbeenmdaa
open Go.Am
set_option linter.unusedVariables false
set_option linter.unusedSimpArgs false
def c_u8 (a:Int):List AV:=[.int .u8 a]
def g_u8 (f:Nat->AV):Int:=iA (f 0)
def k_u8 (f:Nat->AV):Prop:=iK .u8 (f 0)
theorem gc_u8 (a:Int):g_u8 (getL (c_u8 a))=a:=by
 simp only [g_u8,c_u8,getL,iA,bA,sA,lA]
theorem kc_u8 (a:Int):k_u8 (getL (c_u8 a)):=by
 simp only [k_u8,c_u8,getL,iK,bK,sK,lK,or_true,true_and,and_true,and_self]
theorem nr_u8 (a:Int):nrefL (c_u8 a):=by simp only [c_u8,nrefL,nref,and_self]
instance:NOf c_u8:=⟨fun a=>by simp only [c_u8,noroL,noro,and_self]⟩
instance:NRf c_u8:=⟨nr_u8⟩
instance:KCf k_u8 c_u8:=⟨kc_u8⟩
theorem w_u8 {f:Nat->AV} (h:k_u8 f):∀ y,y < 1->WkV (getL (c_u8 (g_u8 f)) y) (f y)/\nref (getL (c_u8 (g_u8 f)) y):=by
 have h0:=h
 intro y hy
 match y,hy with
 | 0,_=>exact iK_wk h0
 | y+1,hy=>omega
theorem e_u8_0 (l:List Int) (x:Nat):enR c_u8 l x 0 = .int .u8 (gd l x):=rfl
theorem fit_u8 (n:Nat) (l:List Int):Fit k_u8 n (enR c_u8 l)=True:=eq_true (Fit_enR kc_u8)
theorem de_u8 (l:List Int):deR g_u8 l.length (enR c_u8 l)=l:=deR_enR gc_u8 l
def c_i64 (a:Int):List AV:=[.int .i64 a]
def g_i64 (f:Nat->AV):Int:=iA (f 0)
def k_i64 (f:Nat->AV):Prop:=iK .i64 (f 0)
theorem gc_i64 (a:Int):g_i64 (getL (c_i64 a))=a:=by
 simp only [g_i64,c_i64,getL,iA,bA,sA,lA]
theorem kc_i64 (a:Int):k_i64 (getL (c_i64 a)):=by
 simp only [k_i64,c_i64,getL,iK,bK,sK,lK,or_true,true_and,and_true,and_self]
theorem nr_i64 (a:Int):nrefL (c_i64 a):=by simp only [c_i64,nrefL,nref,and_self]
instance:NOf c_i64:=⟨fun a=>by simp only [c_i64,noroL,noro,and_self]⟩
instance:NRf c_i64:=⟨nr_i64⟩
instance:KCf k_i64 c_i64:=⟨kc_i64⟩
theorem w_i64 {f:Nat->AV} (h:k_i64 f):∀ y,y < 1->WkV (getL (c_i64 (g_i64 f)) y) (f y)/\nref (getL (c_i64 (g_i64 f)) y):=by
 have h0:=h
 intro y hy
 match y,hy with
 | 0,_=>exact iK_wk h0
 | y+1,hy=>omega
theorem e_i64_0 (l:List Int) (x:Nat):enR c_i64 l x 0 = .int .i64 (gd l x):=rfl
theorem fit_i64 (n:Nat) (l:List Int):Fit k_i64 n (enR c_i64 l)=True:=eq_true (Fit_enR kc_i64)
theorem de_i64 (l:List Int):deR g_i64 l.length (enR c_i64 l)=l:=deR_enR gc_i64 l
def c_b (a:Bool):List AV:=[.bool a]
def g_b (f:Nat->AV):Bool:=bA (f 0)
def k_b (f:Nat->AV):Prop:=bK (f 0)
theorem gc_b (a:Bool):g_b (getL (c_b a))=a:=by
 simp only [g_b,c_b,getL,iA,bA,sA,lA]
theorem kc_b (a:Bool):k_b (getL (c_b a)):=by
 simp only [k_b,c_b,getL,iK,bK,sK,lK,or_true,true_and,and_true,and_self]
theorem nr_b (a:Bool):nrefL (c_b a):=by simp only [c_b,nrefL,nref,and_self]
instance:NOf c_b:=⟨fun a=>by simp only [c_b,noroL,noro,and_self]⟩
instance:NRf c_b:=⟨nr_b⟩
instance:KCf k_b c_b:=⟨kc_b⟩
theorem e_b_0 (l:List Bool) (x:Nat):enR c_b l x 0 = .bool (gd l x):=rfl
theorem fit_b (n:Nat) (l:List Bool):Fit k_b n (enR c_b l)=True:=eq_true (Fit_enR kc_b)
theorem de_b (l:List Bool):deR g_b l.length (enR c_b l)=l:=deR_enR gc_b l
def c_s (a:ByteArray):List AV:=[.str a]
def g_s (f:Nat->AV):ByteArray:=sA (f 0)
def k_s (f:Nat->AV):Prop:=sK (f 0)
theorem gc_s (a:ByteArray):g_s (getL (c_s a))=a:=by
 simp only [g_s,c_s,getL,iA,bA,sA,lA]
theorem kc_s (a:ByteArray):k_s (getL (c_s a)):=by
 simp only [k_s,c_s,getL,iK,bK,sK,lK,or_true,true_and,and_true,and_self]
theorem nr_s (a:ByteArray):nrefL (c_s a):=by simp only [c_s,nrefL,nref,and_self]
instance:NOf c_s:=⟨fun a=>by simp only [c_s,noroL,noro,and_self]⟩
instance:NRf c_s:=⟨nr_s⟩
instance:KCf k_s c_s:=⟨kc_s⟩
theorem e_s_0 (l:List ByteArray) (x:Nat):enR c_s l x 0 = .str (gd l x):=rfl
theorem fit_s (n:Nat) (l:List ByteArray):Fit k_s n (enR c_s l)=True:=eq_true (Fit_enR kc_s)
theorem de_s (l:List ByteArray):deR g_s l.length (enR c_s l)=l:=deR_enR gc_s l
structure TTriggerPlan where
 Start:Int
 Deliver:Int
 Most:Int
 deriving Inhabited
def c_TTriggerPlan (a:TTriggerPlan):List AV:=[.int .u8 a.Start,.int .u8 a.Deliver,.int .i64 a.Most]
def g_TTriggerPlan (f:Nat->AV):TTriggerPlan:=⟨iA (f 0),iA (f 1),iA (f 2)⟩
def k_TTriggerPlan (f:Nat->AV):Prop:=iK .u8 (f 0)/\iK .u8 (f 1)/\iK .i64 (f 2)
theorem gc_TTriggerPlan (a:TTriggerPlan):g_TTriggerPlan (getL (c_TTriggerPlan a))=a:=by
 simp only [g_TTriggerPlan,c_TTriggerPlan,getL,iA,bA,sA,lA]
theorem kc_TTriggerPlan (a:TTriggerPlan):k_TTriggerPlan (getL (c_TTriggerPlan a)):=by
 simp only [k_TTriggerPlan,c_TTriggerPlan,getL,iK,bK,sK,lK,or_true,true_and,and_true,and_self]
theorem nr_TTriggerPlan (a:TTriggerPlan):nrefL (c_TTriggerPlan a):=by simp only [c_TTriggerPlan,nrefL,nref,and_self]
instance:NOf c_TTriggerPlan:=⟨fun a=>by simp only [c_TTriggerPlan,noroL,noro,and_self]⟩
instance:NRf c_TTriggerPlan:=⟨nr_TTriggerPlan⟩
instance:KCf k_TTriggerPlan c_TTriggerPlan:=⟨kc_TTriggerPlan⟩
theorem w_TTriggerPlan {f:Nat->AV} (h:k_TTriggerPlan f):∀ y,y < 3->WkV (getL (c_TTriggerPlan (g_TTriggerPlan f)) y) (f y)/\nref (getL (c_TTriggerPlan (g_TTriggerPlan f)) y):=by
 obtain ⟨h0,h1,h2⟩:=h
 intro y hy
 match y,hy with
 | 0,_=>exact iK_wk h0
 | 1,_=>exact iK_wk h1
 | 2,_=>exact iK_wk h2
 | y+3,hy=>omega
theorem e_TTriggerPlan_0 (l:List TTriggerPlan) (x:Nat):enR c_TTriggerPlan l x 0 = .int .u8 ((gd l x).Start):=rfl
theorem e_TTriggerPlan_1 (l:List TTriggerPlan) (x:Nat):enR c_TTriggerPlan l x 1 = .int .u8 ((gd l x).Deliver):=rfl
theorem e_TTriggerPlan_2 (l:List TTriggerPlan) (x:Nat):enR c_TTriggerPlan l x 2 = .int .i64 ((gd l x).Most):=rfl
theorem fit_TTriggerPlan (n:Nat) (l:List TTriggerPlan):Fit k_TTriggerPlan n (enR c_TTriggerPlan l)=True:=eq_true (Fit_enR kc_TTriggerPlan)
theorem de_TTriggerPlan (l:List TTriggerPlan):deR g_TTriggerPlan l.length (enR c_TTriggerPlan l)=l:=deR_enR gc_TTriggerPlan l
theorem eta_TTriggerPlan (a:TTriggerPlan):TTriggerPlan.mk a.Start a.Deliver a.Most=a:=rfl
theorem wA_TTriggerPlan {v:AV} (h:aK 3 k_TTriggerPlan v):WkV (.agg (c_TTriggerPlan (g_TTriggerPlan (aL v)))) v/\nref (.agg (c_TTriggerPlan (g_TTriggerPlan (aL v)))):=aK_wk (f:=c_TTriggerPlan) (g:=g_TTriggerPlan) (fun r h=>w_TTriggerPlan h) rfl (by simp only [c_TTriggerPlan,nrefL,nref,and_self]) h
structure A6u8 where
 x0:Int
 x1:Int
 x2:Int
 x3:Int
 x4:Int
 x5:Int
 deriving Inhabited
def c_A6u8 (a:A6u8):List AV:=[.int .u8 a.x0,.int .u8 a.x1,.int .u8 a.x2,.int .u8 a.x3,.int .u8 a.x4,.int .u8 a.x5]
def g_A6u8 (f:Nat->AV):A6u8:=⟨iA (f 0),iA (f 1),iA (f 2),iA (f 3),iA (f 4),iA (f 5)⟩
def k_A6u8 (f:Nat->AV):Prop:=iK .u8 (f 0)/\iK .u8 (f 1)/\iK .u8 (f 2)/\iK .u8 (f 3)/\iK .u8 (f 4)/\iK .u8 (f 5)
theorem gc_A6u8 (a:A6u8):g_A6u8 (getL (c_A6u8 a))=a:=by
 simp only [g_A6u8,c_A6u8,getL,iA,bA,sA,lA]
theorem kc_A6u8 (a:A6u8):k_A6u8 (getL (c_A6u8 a)):=by
 simp only [k_A6u8,c_A6u8,getL,iK,bK,sK,lK,or_true,true_and,and_true,and_self]
theorem nr_A6u8 (a:A6u8):nrefL (c_A6u8 a):=by simp only [c_A6u8,nrefL,nref,and_self]
instance:NOf c_A6u8:=⟨fun a=>by simp only [c_A6u8,noroL,noro,and_self]⟩
instance:NRf c_A6u8:=⟨nr_A6u8⟩
instance:KCf k_A6u8 c_A6u8:=⟨kc_A6u8⟩
theorem w_A6u8 {f:Nat->AV} (h:k_A6u8 f):∀ y,y < 6->WkV (getL (c_A6u8 (g_A6u8 f)) y) (f y)/\nref (getL (c_A6u8 (g_A6u8 f)) y):=by
 obtain ⟨h0,h1,h2,h3,h4,h5⟩:=h
 intro y hy
 match y,hy with
 | 0,_=>exact iK_wk h0
 | 1,_=>exact iK_wk h1
 | 2,_=>exact iK_wk h2
 | 3,_=>exact iK_wk h3
 | 4,_=>exact iK_wk h4
 | 5,_=>exact iK_wk h5
 | y+6,hy=>omega
theorem e_A6u8_0 (l:List A6u8) (x:Nat):enR c_A6u8 l x 0 = .int .u8 ((gd l x).x0):=rfl
theorem e_A6u8_1 (l:List A6u8) (x:Nat):enR c_A6u8 l x 1 = .int .u8 ((gd l x).x1):=rfl
theorem e_A6u8_2 (l:List A6u8) (x:Nat):enR c_A6u8 l x 2 = .int .u8 ((gd l x).x2):=rfl
theorem e_A6u8_3 (l:List A6u8) (x:Nat):enR c_A6u8 l x 3 = .int .u8 ((gd l x).x3):=rfl
theorem e_A6u8_4 (l:List A6u8) (x:Nat):enR c_A6u8 l x 4 = .int .u8 ((gd l x).x4):=rfl
theorem e_A6u8_5 (l:List A6u8) (x:Nat):enR c_A6u8 l x 5 = .int .u8 ((gd l x).x5):=rfl
theorem fit_A6u8 (n:Nat) (l:List A6u8):Fit k_A6u8 n (enR c_A6u8 l)=True:=eq_true (Fit_enR kc_A6u8)
theorem de_A6u8 (l:List A6u8):deR g_A6u8 l.length (enR c_A6u8 l)=l:=deR_enR gc_A6u8 l
theorem eta_A6u8 (a:A6u8):A6u8.mk a.x0 a.x1 a.x2 a.x3 a.x4 a.x5=a:=rfl
theorem wA_A6u8 {v:AV} (h:aK 6 k_A6u8 v):WkV (.agg (c_A6u8 (g_A6u8 (aL v)))) v/\nref (.agg (c_A6u8 (g_A6u8 (aL v)))):=aK_wk (f:=c_A6u8) (g:=g_A6u8) (fun r h=>w_A6u8 h) rfl (by simp only [c_A6u8,nrefL,nref,and_self]) h
structure THeader where
 Kind:Int
 Sub:Int
 ToDs:Bool
 FromDs:Bool
 More:Bool
 Retry:Bool
 Sleep:Bool
 MoreData:Bool
 Protected:Bool
 Duration:Int
 A1:A6u8
 A2:A6u8
 A3:A6u8
 A4:A6u8
 Seq:Int
 Frag:Int
 Tid:Int
 Ack:Int
 Amsdu:Bool
 Eosp:Bool
 deriving Inhabited
def c_THeader (a:THeader):List AV:=(.int .u8 a.Kind::.int .u8 a.Sub::.bool a.ToDs::.bool a.FromDs::.bool a.More::.bool a.Retry::.bool a.Sleep::.bool a.MoreData::.bool a.Protected::.int .i64 a.Duration::.int .u8 a.A1.x0::.int .u8 a.A1.x1::.int .u8 a.A1.x2::.int .u8 a.A1.x3::.int .u8 a.A1.x4::.int .u8 a.A1.x5::.int .u8 a.A2.x0::.int .u8 a.A2.x1::.int .u8 a.A2.x2::.int .u8 a.A2.x3::.int .u8 a.A2.x4::.int .u8 a.A2.x5::.int .u8 a.A3.x0::.int .u8 a.A3.x1::.int .u8 a.A3.x2::.int .u8 a.A3.x3::.int .u8 a.A3.x4::.int .u8 a.A3.x5::.int .u8 a.A4.x0::.int .u8 a.A4.x1::.int .u8 a.A4.x2::.int .u8 a.A4.x3::.int .u8 a.A4.x4::.int .u8 a.A4.x5::.int .i64 a.Seq::.int .i64 a.Frag::.int .i64 a.Tid::.int .u8 a.Ack::.bool a.Amsdu::.bool a.Eosp::[])
def g_THeader (f:Nat->AV):THeader:=⟨iA (f 0),iA (f 1),bA (f 2),bA (f 3),bA (f 4),bA (f 5),bA (f 6),bA (f 7),bA (f 8),iA (f 9),⟨iA (f 10),iA (f 11),iA (f 12),iA (f 13),iA (f 14),iA (f 15)⟩,⟨iA (f 16),iA (f 17),iA (f 18),iA (f 19),iA (f 20),iA (f 21)⟩,⟨iA (f 22),iA (f 23),iA (f 24),iA (f 25),iA (f 26),iA (f 27)⟩,⟨iA (f 28),iA (f 29),iA (f 30),iA (f 31),iA (f 32),iA (f 33)⟩,iA (f 34),iA (f 35),iA (f 36),iA (f 37),bA (f 38),bA (f 39)⟩
def k_THeader (f:Nat->AV):Prop:=iK .u8 (f 0)/\iK .u8 (f 1)/\bK (f 2)/\bK (f 3)/\bK (f 4)/\bK (f 5)/\bK (f 6)/\bK (f 7)/\bK (f 8)/\iK .i64 (f 9)/\iK .u8 (f 10)/\iK .u8 (f 11)/\iK .u8 (f 12)/\iK .u8 (f 13)/\iK .u8 (f 14)/\iK .u8 (f 15)/\iK .u8 (f 16)/\iK .u8 (f 17)/\iK .u8 (f 18)/\iK .u8 (f 19)/\iK .u8 (f 20)/\iK .u8 (f 21)/\iK .u8 (f 22)/\iK .u8 (f 23)/\iK .u8 (f 24)/\iK .u8 (f 25)/\iK .u8 (f 26)/\iK .u8 (f 27)/\iK .u8 (f 28)/\iK .u8 (f 29)/\iK .u8 (f 30)/\iK .u8 (f 31)/\iK .u8 (f 32)/\iK .u8 (f 33)/\iK .i64 (f 34)/\iK .i64 (f 35)/\iK .i64 (f 36)/\iK .u8 (f 37)/\bK (f 38)/\bK (f 39)
theorem gc_THeader (a:THeader):g_THeader (getL (c_THeader a))=a:=by
 simp only [g_THeader,c_THeader,getL,iA,bA,sA,lA]
theorem kc_THeader (a:THeader):k_THeader (getL (c_THeader a)):=by
 simp only [k_THeader,c_THeader,getL,iK,bK,sK,lK,or_true,true_and,and_true,and_self]
theorem nr_THeader (a:THeader):nrefL (c_THeader a):=by simp only [c_THeader,nrefL,nref,and_self]
instance:NOf c_THeader:=⟨fun a=>by simp only [c_THeader,noroL,noro,and_self]⟩
instance:NRf c_THeader:=⟨nr_THeader⟩
instance:KCf k_THeader c_THeader:=⟨kc_THeader⟩
theorem e_THeader_0 (l:List THeader) (x:Nat):enR c_THeader l x 0 = .int .u8 ((gd l x).Kind):=rfl
theorem e_THeader_1 (l:List THeader) (x:Nat):enR c_THeader l x 1 = .int .u8 ((gd l x).Sub):=rfl
theorem e_THeader_2 (l:List THeader) (x:Nat):enR c_THeader l x 2 = .bool ((gd l x).ToDs):=rfl
theorem e_THeader_3 (l:List THeader) (x:Nat):enR c_THeader l x 3 = .bool ((gd l x).FromDs):=rfl
theorem e_THeader_4 (l:List THeader) (x:Nat):enR c_THeader l x 4 = .bool ((gd l x).More):=rfl
theorem e_THeader_5 (l:List THeader) (x:Nat):enR c_THeader l x 5 = .bool ((gd l x).Retry):=rfl
theorem e_THeader_6 (l:List THeader) (x:Nat):enR c_THeader l x 6 = .bool ((gd l x).Sleep):=rfl
theorem e_THeader_7 (l:List THeader) (x:Nat):enR c_THeader l x 7 = .bool ((gd l x).MoreData):=rfl
theorem e_THeader_8 (l:List THeader) (x:Nat):enR c_THeader l x 8 = .bool ((gd l x).Protected):=rfl
theorem e_THeader_9 (l:List THeader) (x:Nat):enR c_THeader l x 9 = .int .i64 ((gd l x).Duration):=rfl
theorem e_THeader_10 (l:List THeader) (x:Nat):enR c_THeader l x 10 = .int .u8 (((gd l x).A1).x0):=rfl
theorem e_THeader_11 (l:List THeader) (x:Nat):enR c_THeader l x 11 = .int .u8 (((gd l x).A1).x1):=rfl
theorem e_THeader_12 (l:List THeader) (x:Nat):enR c_THeader l x 12 = .int .u8 (((gd l x).A1).x2):=rfl
theorem e_THeader_13 (l:List THeader) (x:Nat):enR c_THeader l x 13 = .int .u8 (((gd l x).A1).x3):=rfl
theorem e_THeader_14 (l:List THeader) (x:Nat):enR c_THeader l x 14 = .int .u8 (((gd l x).A1).x4):=rfl
theorem e_THeader_15 (l:List THeader) (x:Nat):enR c_THeader l x 15 = .int .u8 (((gd l x).A1).x5):=rfl
theorem e_THeader_16 (l:List THeader) (x:Nat):enR c_THeader l x 16 = .int .u8 (((gd l x).A2).x0):=rfl
theorem e_THeader_17 (l:List THeader) (x:Nat):enR c_THeader l x 17 = .int .u8 (((gd l x).A2).x1):=rfl
theorem e_THeader_18 (l:List THeader) (x:Nat):enR c_THeader l x 18 = .int .u8 (((gd l x).A2).x2):=rfl
theorem e_THeader_19 (l:List THeader) (x:Nat):enR c_THeader l x 19 = .int .u8 (((gd l x).A2).x3):=rfl
theorem e_THeader_20 (l:List THeader) (x:Nat):enR c_THeader l x 20 = .int .u8 (((gd l x).A2).x4):=rfl
theorem e_THeader_21 (l:List THeader) (x:Nat):enR c_THeader l x 21 = .int .u8 (((gd l x).A2).x5):=rfl
theorem e_THeader_22 (l:List THeader) (x:Nat):enR c_THeader l x 22 = .int .u8 (((gd l x).A3).x0):=rfl
theorem e_THeader_23 (l:List THeader) (x:Nat):enR c_THeader l x 23 = .int .u8 (((gd l x).A3).x1):=rfl
theorem e_THeader_24 (l:List THeader) (x:Nat):enR c_THeader l x 24 = .int .u8 (((gd l x).A3).x2):=rfl
theorem e_THeader_25 (l:List THeader) (x:Nat):enR c_THeader l x 25 = .int .u8 (((gd l x).A3).x3):=rfl
theorem e_THeader_26 (l:List THeader) (x:Nat):enR c_THeader l x 26 = .int .u8 (((gd l x).A3).x4):=rfl
theorem e_THeader_27 (l:List THeader) (x:Nat):enR c_THeader l x 27 = .int .u8 (((gd l x).A3).x5):=rfl
theorem e_THeader_28 (l:List THeader) (x:Nat):enR c_THeader l x 28 = .int .u8 (((gd l x).A4).x0):=rfl
theorem e_THeader_29 (l:List THeader) (x:Nat):enR c_THeader l x 29 = .int .u8 (((gd l x).A4).x1):=rfl
theorem e_THeader_30 (l:List THeader) (x:Nat):enR c_THeader l x 30 = .int .u8 (((gd l x).A4).x2):=rfl
theorem e_THeader_31 (l:List THeader) (x:Nat):enR c_THeader l x 31 = .int .u8 (((gd l x).A4).x3):=rfl
theorem e_THeader_32 (l:List THeader) (x:Nat):enR c_THeader l x 32 = .int .u8 (((gd l x).A4).x4):=rfl
theorem e_THeader_33 (l:List THeader) (x:Nat):enR c_THeader l x 33 = .int .u8 (((gd l x).A4).x5):=rfl
theorem e_THeader_34 (l:List THeader) (x:Nat):enR c_THeader l x 34 = .int .i64 ((gd l x).Seq):=rfl
theorem e_THeader_35 (l:List THeader) (x:Nat):enR c_THeader l x 35 = .int .i64 ((gd l x).Frag):=rfl
theorem e_THeader_36 (l:List THeader) (x:Nat):enR c_THeader l x 36 = .int .i64 ((gd l x).Tid):=rfl
theorem e_THeader_37 (l:List THeader) (x:Nat):enR c_THeader l x 37 = .int .u8 ((gd l x).Ack):=rfl
theorem e_THeader_38 (l:List THeader) (x:Nat):enR c_THeader l x 38 = .bool ((gd l x).Amsdu):=rfl
theorem e_THeader_39 (l:List THeader) (x:Nat):enR c_THeader l x 39 = .bool ((gd l x).Eosp):=rfl
theorem fit_THeader (n:Nat) (l:List THeader):Fit k_THeader n (enR c_THeader l)=True:=eq_true (Fit_enR kc_THeader)
theorem de_THeader (l:List THeader):deR g_THeader l.length (enR c_THeader l)=l:=deR_enR gc_THeader l
theorem eta_THeader (a:THeader):THeader.mk a.Kind a.Sub a.ToDs a.FromDs a.More a.Retry a.Sleep a.MoreData a.Protected a.Duration a.A1 a.A2 a.A3 a.A4 a.Seq a.Frag a.Tid a.Ack a.Amsdu a.Eosp=a:=rfl
def c_lu8 (a:List Int):List AV:=[.ro 1 a.length false (enR c_u8 a)]
def g_lu8 (f:Nat->AV):List Int:=lA g_u8 (f 0)
def k_lu8 (f:Nat->AV):Prop:=lK k_u8 1 (f 0)
theorem gc_lu8 (a:List Int):g_lu8 (getL (c_lu8 a))=a:=by
 simp only [g_lu8,c_lu8,getL,iA,bA,sA,lA,deR_enR gc_u8]
theorem kc_lu8 (a:List Int):k_lu8 (getL (c_lu8 a)):=by
 simp only [k_lu8,c_lu8,getL,iK,bK,sK,lK,or_true,true_and,and_true,and_self,Fit_enR kc_u8]
theorem nr_lu8 (a:List Int):nrefL (c_lu8 a):=by simp only [c_lu8,nrefL,nref,and_self]
instance:NRf c_lu8:=⟨nr_lu8⟩
instance:KCf k_lu8 c_lu8:=⟨kc_lu8⟩
theorem e_lu8_0 (l:List (List Int)) (x:Nat):enR c_lu8 l x 0 = .ro 1 (gd l x).length false (enR c_u8 (gd l x)):=rfl
theorem fit_lu8 (n:Nat) (l:List (List Int)):Fit k_lu8 n (enR c_lu8 l)=True:=eq_true (Fit_enR kc_lu8)
theorem de_lu8 (l:List (List Int)):deR g_lu8 l.length (enR c_lu8 l)=l:=deR_enR gc_lu8 l
structure TFrame where
 Head:THeader
 Body:_root_.List Int
 deriving Inhabited
def c_TFrame (a:TFrame):List AV:=(.int .u8 a.Head.Kind::.int .u8 a.Head.Sub::.bool a.Head.ToDs::.bool a.Head.FromDs::.bool a.Head.More::.bool a.Head.Retry::.bool a.Head.Sleep::.bool a.Head.MoreData::.bool a.Head.Protected::.int .i64 a.Head.Duration::.int .u8 a.Head.A1.x0::.int .u8 a.Head.A1.x1::.int .u8 a.Head.A1.x2::.int .u8 a.Head.A1.x3::.int .u8 a.Head.A1.x4::.int .u8 a.Head.A1.x5::.int .u8 a.Head.A2.x0::.int .u8 a.Head.A2.x1::.int .u8 a.Head.A2.x2::.int .u8 a.Head.A2.x3::.int .u8 a.Head.A2.x4::.int .u8 a.Head.A2.x5::.int .u8 a.Head.A3.x0::.int .u8 a.Head.A3.x1::.int .u8 a.Head.A3.x2::.int .u8 a.Head.A3.x3::.int .u8 a.Head.A3.x4::.int .u8 a.Head.A3.x5::.int .u8 a.Head.A4.x0::.int .u8 a.Head.A4.x1::.int .u8 a.Head.A4.x2::.int .u8 a.Head.A4.x3::.int .u8 a.Head.A4.x4::.int .u8 a.Head.A4.x5::.int .i64 a.Head.Seq::.int .i64 a.Head.Frag::.int .i64 a.Head.Tid::.int .u8 a.Head.Ack::.bool a.Head.Amsdu::.bool a.Head.Eosp::.ro 1 a.Body.length false (enR c_u8 a.Body)::[])
def g_TFrame (f:Nat->AV):TFrame:=⟨⟨iA (f 0),iA (f 1),bA (f 2),bA (f 3),bA (f 4),bA (f 5),bA (f 6),bA (f 7),bA (f 8),iA (f 9),⟨iA (f 10),iA (f 11),iA (f 12),iA (f 13),iA (f 14),iA (f 15)⟩,⟨iA (f 16),iA (f 17),iA (f 18),iA (f 19),iA (f 20),iA (f 21)⟩,⟨iA (f 22),iA (f 23),iA (f 24),iA (f 25),iA (f 26),iA (f 27)⟩,⟨iA (f 28),iA (f 29),iA (f 30),iA (f 31),iA (f 32),iA (f 33)⟩,iA (f 34),iA (f 35),iA (f 36),iA (f 37),bA (f 38),bA (f 39)⟩,lA g_u8 (f 40)⟩
def k_TFrame (f:Nat->AV):Prop:=iK .u8 (f 0)/\iK .u8 (f 1)/\bK (f 2)/\bK (f 3)/\bK (f 4)/\bK (f 5)/\bK (f 6)/\bK (f 7)/\bK (f 8)/\iK .i64 (f 9)/\iK .u8 (f 10)/\iK .u8 (f 11)/\iK .u8 (f 12)/\iK .u8 (f 13)/\iK .u8 (f 14)/\iK .u8 (f 15)/\iK .u8 (f 16)/\iK .u8 (f 17)/\iK .u8 (f 18)/\iK .u8 (f 19)/\iK .u8 (f 20)/\iK .u8 (f 21)/\iK .u8 (f 22)/\iK .u8 (f 23)/\iK .u8 (f 24)/\iK .u8 (f 25)/\iK .u8 (f 26)/\iK .u8 (f 27)/\iK .u8 (f 28)/\iK .u8 (f 29)/\iK .u8 (f 30)/\iK .u8 (f 31)/\iK .u8 (f 32)/\iK .u8 (f 33)/\iK .i64 (f 34)/\iK .i64 (f 35)/\iK .i64 (f 36)/\iK .u8 (f 37)/\bK (f 38)/\bK (f 39)/\lK k_u8 1 (f 40)
theorem gc_TFrame (a:TFrame):g_TFrame (getL (c_TFrame a))=a:=by
 simp only [g_TFrame,c_TFrame,getL,iA,bA,sA,lA,deR_enR gc_u8]
theorem kc_TFrame (a:TFrame):k_TFrame (getL (c_TFrame a)):=by
 simp only [k_TFrame,c_TFrame,getL,iK,bK,sK,lK,or_true,true_and,and_true,and_self,Fit_enR kc_u8]
theorem nr_TFrame (a:TFrame):nrefL (c_TFrame a):=by simp only [c_TFrame,nrefL,nref,and_self]
instance:NRf c_TFrame:=⟨nr_TFrame⟩
instance:KCf k_TFrame c_TFrame:=⟨kc_TFrame⟩
theorem w_TFrame {f:Nat->AV} (h:k_TFrame f):∀ y,y < 41->WkV (getL (c_TFrame (g_TFrame f)) y) (f y)/\nref (getL (c_TFrame (g_TFrame f)) y):=by
 obtain ⟨h0,h1,h2,h3,h4,h5,h6,h7,h8,h9,h10,h11,h12,h13,h14,h15,h16,h17,h18,h19,h20,h21,h22,h23,h24,h25,h26,h27,h28,h29,h30,h31,h32,h33,h34,h35,h36,h37,h38,h39,h40⟩:=h
 intro y hy
 match y,hy with
 | 0,_=>exact iK_wk h0
 | 1,_=>exact iK_wk h1
 | 2,_=>exact bK_wk h2
 | 3,_=>exact bK_wk h3
 | 4,_=>exact bK_wk h4
 | 5,_=>exact bK_wk h5
 | 6,_=>exact bK_wk h6
 | 7,_=>exact bK_wk h7
 | 8,_=>exact bK_wk h8
 | 9,_=>exact iK_wk h9
 | 10,_=>exact iK_wk h10
 | 11,_=>exact iK_wk h11
 | 12,_=>exact iK_wk h12
 | 13,_=>exact iK_wk h13
 | 14,_=>exact iK_wk h14
 | 15,_=>exact iK_wk h15
 | 16,_=>exact iK_wk h16
 | 17,_=>exact iK_wk h17
 | 18,_=>exact iK_wk h18
 | 19,_=>exact iK_wk h19
 | 20,_=>exact iK_wk h20
 | 21,_=>exact iK_wk h21
 | 22,_=>exact iK_wk h22
 | 23,_=>exact iK_wk h23
 | 24,_=>exact iK_wk h24
 | 25,_=>exact iK_wk h25
 | 26,_=>exact iK_wk h26
 | 27,_=>exact iK_wk h27
 | 28,_=>exact iK_wk h28
 | 29,_=>exact iK_wk h29
 | 30,_=>exact iK_wk h30
 | 31,_=>exact iK_wk h31
 | 32,_=>exact iK_wk h32
 | 33,_=>exact iK_wk h33
 | 34,_=>exact iK_wk h34
 | 35,_=>exact iK_wk h35
 | 36,_=>exact iK_wk h36
 | 37,_=>exact iK_wk h37
 | 38,_=>exact bK_wk h38
 | 39,_=>exact bK_wk h39
 | 40,_=>exact lK_wk (fun r h=>w_u8 h) h40
 | y+41,hy=>omega
theorem e_TFrame_0 (l:List TFrame) (x:Nat):enR c_TFrame l x 0 = .int .u8 (((gd l x).Head).Kind):=rfl
theorem e_TFrame_1 (l:List TFrame) (x:Nat):enR c_TFrame l x 1 = .int .u8 (((gd l x).Head).Sub):=rfl
theorem e_TFrame_2 (l:List TFrame) (x:Nat):enR c_TFrame l x 2 = .bool (((gd l x).Head).ToDs):=rfl
theorem e_TFrame_3 (l:List TFrame) (x:Nat):enR c_TFrame l x 3 = .bool (((gd l x).Head).FromDs):=rfl
theorem e_TFrame_4 (l:List TFrame) (x:Nat):enR c_TFrame l x 4 = .bool (((gd l x).Head).More):=rfl
theorem e_TFrame_5 (l:List TFrame) (x:Nat):enR c_TFrame l x 5 = .bool (((gd l x).Head).Retry):=rfl
theorem e_TFrame_6 (l:List TFrame) (x:Nat):enR c_TFrame l x 6 = .bool (((gd l x).Head).Sleep):=rfl
theorem e_TFrame_7 (l:List TFrame) (x:Nat):enR c_TFrame l x 7 = .bool (((gd l x).Head).MoreData):=rfl
theorem e_TFrame_8 (l:List TFrame) (x:Nat):enR c_TFrame l x 8 = .bool (((gd l x).Head).Protected):=rfl
theorem e_TFrame_9 (l:List TFrame) (x:Nat):enR c_TFrame l x 9 = .int .i64 (((gd l x).Head).Duration):=rfl
theorem e_TFrame_10 (l:List TFrame) (x:Nat):enR c_TFrame l x 10 = .int .u8 ((((gd l x).Head).A1).x0):=rfl
theorem e_TFrame_11 (l:List TFrame) (x:Nat):enR c_TFrame l x 11 = .int .u8 ((((gd l x).Head).A1).x1):=rfl
theorem e_TFrame_12 (l:List TFrame) (x:Nat):enR c_TFrame l x 12 = .int .u8 ((((gd l x).Head).A1).x2):=rfl
theorem e_TFrame_13 (l:List TFrame) (x:Nat):enR c_TFrame l x 13 = .int .u8 ((((gd l x).Head).A1).x3):=rfl
theorem e_TFrame_14 (l:List TFrame) (x:Nat):enR c_TFrame l x 14 = .int .u8 ((((gd l x).Head).A1).x4):=rfl
theorem e_TFrame_15 (l:List TFrame) (x:Nat):enR c_TFrame l x 15 = .int .u8 ((((gd l x).Head).A1).x5):=rfl
theorem e_TFrame_16 (l:List TFrame) (x:Nat):enR c_TFrame l x 16 = .int .u8 ((((gd l x).Head).A2).x0):=rfl
theorem e_TFrame_17 (l:List TFrame) (x:Nat):enR c_TFrame l x 17 = .int .u8 ((((gd l x).Head).A2).x1):=rfl
theorem e_TFrame_18 (l:List TFrame) (x:Nat):enR c_TFrame l x 18 = .int .u8 ((((gd l x).Head).A2).x2):=rfl
theorem e_TFrame_19 (l:List TFrame) (x:Nat):enR c_TFrame l x 19 = .int .u8 ((((gd l x).Head).A2).x3):=rfl
theorem e_TFrame_20 (l:List TFrame) (x:Nat):enR c_TFrame l x 20 = .int .u8 ((((gd l x).Head).A2).x4):=rfl
theorem e_TFrame_21 (l:List TFrame) (x:Nat):enR c_TFrame l x 21 = .int .u8 ((((gd l x).Head).A2).x5):=rfl
theorem e_TFrame_22 (l:List TFrame) (x:Nat):enR c_TFrame l x 22 = .int .u8 ((((gd l x).Head).A3).x0):=rfl
theorem e_TFrame_23 (l:List TFrame) (x:Nat):enR c_TFrame l x 23 = .int .u8 ((((gd l x).Head).A3).x1):=rfl
theorem e_TFrame_24 (l:List TFrame) (x:Nat):enR c_TFrame l x 24 = .int .u8 ((((gd l x).Head).A3).x2):=rfl
theorem e_TFrame_25 (l:List TFrame) (x:Nat):enR c_TFrame l x 25 = .int .u8 ((((gd l x).Head).A3).x3):=rfl
theorem e_TFrame_26 (l:List TFrame) (x:Nat):enR c_TFrame l x 26 = .int .u8 ((((gd l x).Head).A3).x4):=rfl
theorem e_TFrame_27 (l:List TFrame) (x:Nat):enR c_TFrame l x 27 = .int .u8 ((((gd l x).Head).A3).x5):=rfl
theorem e_TFrame_28 (l:List TFrame) (x:Nat):enR c_TFrame l x 28 = .int .u8 ((((gd l x).Head).A4).x0):=rfl
theorem e_TFrame_29 (l:List TFrame) (x:Nat):enR c_TFrame l x 29 = .int .u8 ((((gd l x).Head).A4).x1):=rfl
theorem e_TFrame_30 (l:List TFrame) (x:Nat):enR c_TFrame l x 30 = .int .u8 ((((gd l x).Head).A4).x2):=rfl
theorem e_TFrame_31 (l:List TFrame) (x:Nat):enR c_TFrame l x 31 = .int .u8 ((((gd l x).Head).A4).x3):=rfl
theorem e_TFrame_32 (l:List TFrame) (x:Nat):enR c_TFrame l x 32 = .int .u8 ((((gd l x).Head).A4).x4):=rfl
theorem e_TFrame_33 (l:List TFrame) (x:Nat):enR c_TFrame l x 33 = .int .u8 ((((gd l x).Head).A4).x5):=rfl
theorem e_TFrame_34 (l:List TFrame) (x:Nat):enR c_TFrame l x 34 = .int .i64 (((gd l x).Head).Seq):=rfl
theorem e_TFrame_35 (l:List TFrame) (x:Nat):enR c_TFrame l x 35 = .int .i64 (((gd l x).Head).Frag):=rfl
theorem e_TFrame_36 (l:List TFrame) (x:Nat):enR c_TFrame l x 36 = .int .i64 (((gd l x).Head).Tid):=rfl
theorem e_TFrame_37 (l:List TFrame) (x:Nat):enR c_TFrame l x 37 = .int .u8 (((gd l x).Head).Ack):=rfl
theorem e_TFrame_38 (l:List TFrame) (x:Nat):enR c_TFrame l x 38 = .bool (((gd l x).Head).Amsdu):=rfl
theorem e_TFrame_39 (l:List TFrame) (x:Nat):enR c_TFrame l x 39 = .bool (((gd l x).Head).Eosp):=rfl
theorem e_TFrame_40 (l:List TFrame) (x:Nat):enR c_TFrame l x 40 = .ro 1 ((gd l x).Body).length false (enR c_u8 ((gd l x).Body)):=rfl
theorem fit_TFrame (n:Nat) (l:List TFrame):Fit k_TFrame n (enR c_TFrame l)=True:=eq_true (Fit_enR kc_TFrame)
theorem de_TFrame (l:List TFrame):deR g_TFrame l.length (enR c_TFrame l)=l:=deR_enR gc_TFrame l
theorem eta_TFrame (a:TFrame):TFrame.mk a.Head a.Body=a:=rfl
theorem wA_TFrame {v:AV} (h:aK 41 k_TFrame v):WkV (.agg (c_TFrame (g_TFrame (aL v)))) v/\nref (.agg (c_TFrame (g_TFrame (aL v)))):=aK_wk (f:=c_TFrame) (g:=g_TFrame) (fun r h=>w_TFrame h) rfl (by simp only [c_TFrame,nrefL,nref,and_self]) h
def c_lTFrame (a:List TFrame):List AV:=[.ro 41 a.length false (enR c_TFrame a)]
def g_lTFrame (f:Nat->AV):List TFrame:=lA g_TFrame (f 0)
def k_lTFrame (f:Nat->AV):Prop:=lK k_TFrame 41 (f 0)
theorem gc_lTFrame (a:List TFrame):g_lTFrame (getL (c_lTFrame a))=a:=by
 simp only [g_lTFrame,c_lTFrame,getL,iA,bA,sA,lA,deR_enR gc_TFrame]
theorem kc_lTFrame (a:List TFrame):k_lTFrame (getL (c_lTFrame a)):=by
 simp only [k_lTFrame,c_lTFrame,getL,iK,bK,sK,lK,or_true,true_and,and_true,and_self,Fit_enR kc_TFrame]
theorem nr_lTFrame (a:List TFrame):nrefL (c_lTFrame a):=by simp only [c_lTFrame,nrefL,nref,and_self]
instance:NRf c_lTFrame:=⟨nr_lTFrame⟩
instance:KCf k_lTFrame c_lTFrame:=⟨kc_lTFrame⟩
theorem e_lTFrame_0 (l:List (List TFrame)) (x:Nat):enR c_lTFrame l x 0 = .ro 41 (gd l x).length false (enR c_TFrame (gd l x)):=rfl
theorem fit_lTFrame (n:Nat) (l:List (List TFrame)):Fit k_lTFrame n (enR c_lTFrame l)=True:=eq_true (Fit_enR kc_lTFrame)
theorem de_lTFrame (l:List (List TFrame)):deR g_lTFrame l.length (enR c_lTFrame l)=l:=deR_enR gc_lTFrame l
structure TPeriod where
 Aid:Int
 Left:_root_.List TFrame
 deriving Inhabited
def c_TPeriod (a:TPeriod):List AV:=[.int .i64 a.Aid,.ro 41 a.Left.length false (enR c_TFrame a.Left)]
def g_TPeriod (f:Nat->AV):TPeriod:=⟨iA (f 0),lA g_TFrame (f 1)⟩
def k_TPeriod (f:Nat->AV):Prop:=iK .i64 (f 0)/\lK k_TFrame 41 (f 1)
theorem gc_TPeriod (a:TPeriod):g_TPeriod (getL (c_TPeriod a))=a:=by
 simp only [g_TPeriod,c_TPeriod,getL,iA,bA,sA,lA,deR_enR gc_TFrame]
theorem kc_TPeriod (a:TPeriod):k_TPeriod (getL (c_TPeriod a)):=by
 simp only [k_TPeriod,c_TPeriod,getL,iK,bK,sK,lK,or_true,true_and,and_true,and_self,Fit_enR kc_TFrame]
theorem nr_TPeriod (a:TPeriod):nrefL (c_TPeriod a):=by simp only [c_TPeriod,nrefL,nref,and_self]
instance:NRf c_TPeriod:=⟨nr_TPeriod⟩
instance:KCf k_TPeriod c_TPeriod:=⟨kc_TPeriod⟩
theorem w_TPeriod {f:Nat->AV} (h:k_TPeriod f):∀ y,y < 2->WkV (getL (c_TPeriod (g_TPeriod f)) y) (f y)/\nref (getL (c_TPeriod (g_TPeriod f)) y):=by
 obtain ⟨h0,h1⟩:=h
 intro y hy
 match y,hy with
 | 0,_=>exact iK_wk h0
 | 1,_=>exact lK_wk (fun r h=>w_TFrame h) h1
 | y+2,hy=>omega
theorem e_TPeriod_0 (l:List TPeriod) (x:Nat):enR c_TPeriod l x 0 = .int .i64 ((gd l x).Aid):=rfl
theorem e_TPeriod_1 (l:List TPeriod) (x:Nat):enR c_TPeriod l x 1 = .ro 41 ((gd l x).Left).length false (enR c_TFrame ((gd l x).Left)):=rfl
theorem fit_TPeriod (n:Nat) (l:List TPeriod):Fit k_TPeriod n (enR c_TPeriod l)=True:=eq_true (Fit_enR kc_TPeriod)
theorem de_TPeriod (l:List TPeriod):deR g_TPeriod l.length (enR c_TPeriod l)=l:=deR_enR gc_TPeriod l
theorem eta_TPeriod (a:TPeriod):TPeriod.mk a.Aid a.Left=a:=rfl
theorem wA_TPeriod {v:AV} (h:aK 2 k_TPeriod v):WkV (.agg (c_TPeriod (g_TPeriod (aL v)))) v/\nref (.agg (c_TPeriod (g_TPeriod (aL v)))):=aK_wk (f:=c_TPeriod) (g:=g_TPeriod) (fun r h=>w_TPeriod h) rfl (by simp only [c_TPeriod,nrefL,nref,and_self]) h
structure TStored where
 Cat:Int
 At:Int
 Frame:TFrame
 deriving Inhabited
def c_TStored (a:TStored):List AV:=(.int .u8 a.Cat::.int .i64 a.At::.int .u8 a.Frame.Head.Kind::.int .u8 a.Frame.Head.Sub::.bool a.Frame.Head.ToDs::.bool a.Frame.Head.FromDs::.bool a.Frame.Head.More::.bool a.Frame.Head.Retry::.bool a.Frame.Head.Sleep::.bool a.Frame.Head.MoreData::.bool a.Frame.Head.Protected::.int .i64 a.Frame.Head.Duration::.int .u8 a.Frame.Head.A1.x0::.int .u8 a.Frame.Head.A1.x1::.int .u8 a.Frame.Head.A1.x2::.int .u8 a.Frame.Head.A1.x3::.int .u8 a.Frame.Head.A1.x4::.int .u8 a.Frame.Head.A1.x5::.int .u8 a.Frame.Head.A2.x0::.int .u8 a.Frame.Head.A2.x1::.int .u8 a.Frame.Head.A2.x2::.int .u8 a.Frame.Head.A2.x3::.int .u8 a.Frame.Head.A2.x4::.int .u8 a.Frame.Head.A2.x5::.int .u8 a.Frame.Head.A3.x0::.int .u8 a.Frame.Head.A3.x1::.int .u8 a.Frame.Head.A3.x2::.int .u8 a.Frame.Head.A3.x3::.int .u8 a.Frame.Head.A3.x4::.int .u8 a.Frame.Head.A3.x5::.int .u8 a.Frame.Head.A4.x0::.int .u8 a.Frame.Head.A4.x1::.int .u8 a.Frame.Head.A4.x2::.int .u8 a.Frame.Head.A4.x3::.int .u8 a.Frame.Head.A4.x4::.int .u8 a.Frame.Head.A4.x5::.int .i64 a.Frame.Head.Seq::.int .i64 a.Frame.Head.Frag::.int .i64 a.Frame.Head.Tid::.int .u8 a.Frame.Head.Ack::.bool a.Frame.Head.Amsdu::.bool a.Frame.Head.Eosp::.ro 1 a.Frame.Body.length false (enR c_u8 a.Frame.Body)::[])
def g_TStored (f:Nat->AV):TStored:=⟨iA (f 0),iA (f 1),⟨⟨iA (f 2),iA (f 3),bA (f 4),bA (f 5),bA (f 6),bA (f 7),bA (f 8),bA (f 9),bA (f 10),iA (f 11),⟨iA (f 12),iA (f 13),iA (f 14),iA (f 15),iA (f 16),iA (f 17)⟩,⟨iA (f 18),iA (f 19),iA (f 20),iA (f 21),iA (f 22),iA (f 23)⟩,⟨iA (f 24),iA (f 25),iA (f 26),iA (f 27),iA (f 28),iA (f 29)⟩,⟨iA (f 30),iA (f 31),iA (f 32),iA (f 33),iA (f 34),iA (f 35)⟩,iA (f 36),iA (f 37),iA (f 38),iA (f 39),bA (f 40),bA (f 41)⟩,lA g_u8 (f 42)⟩⟩
def k_TStored (f:Nat->AV):Prop:=iK .u8 (f 0)/\iK .i64 (f 1)/\iK .u8 (f 2)/\iK .u8 (f 3)/\bK (f 4)/\bK (f 5)/\bK (f 6)/\bK (f 7)/\bK (f 8)/\bK (f 9)/\bK (f 10)/\iK .i64 (f 11)/\iK .u8 (f 12)/\iK .u8 (f 13)/\iK .u8 (f 14)/\iK .u8 (f 15)/\iK .u8 (f 16)/\iK .u8 (f 17)/\iK .u8 (f 18)/\iK .u8 (f 19)/\iK .u8 (f 20)/\iK .u8 (f 21)/\iK .u8 (f 22)/\iK .u8 (f 23)/\iK .u8 (f 24)/\iK .u8 (f 25)/\iK .u8 (f 26)/\iK .u8 (f 27)/\iK .u8 (f 28)/\iK .u8 (f 29)/\iK .u8 (f 30)/\iK .u8 (f 31)/\iK .u8 (f 32)/\iK .u8 (f 33)/\iK .u8 (f 34)/\iK .u8 (f 35)/\iK .i64 (f 36)/\iK .i64 (f 37)/\iK .i64 (f 38)/\iK .u8 (f 39)/\bK (f 40)/\bK (f 41)/\lK k_u8 1 (f 42)
theorem gc_TStored (a:TStored):g_TStored (getL (c_TStored a))=a:=by
 simp only [g_TStored,c_TStored,getL,iA,bA,sA,lA,deR_enR gc_u8]
theorem kc_TStored (a:TStored):k_TStored (getL (c_TStored a)):=by
 simp only [k_TStored,c_TStored,getL,iK,bK,sK,lK,or_true,true_and,and_true,and_self,Fit_enR kc_u8]
theorem nr_TStored (a:TStored):nrefL (c_TStored a):=by simp only [c_TStored,nrefL,nref,and_self]
instance:NRf c_TStored:=⟨nr_TStored⟩
instance:KCf k_TStored c_TStored:=⟨kc_TStored⟩
theorem w_TStored {f:Nat->AV} (h:k_TStored f):∀ y,y < 43->WkV (getL (c_TStored (g_TStored f)) y) (f y)/\nref (getL (c_TStored (g_TStored f)) y):=by
 obtain ⟨h0,h1,h2,h3,h4,h5,h6,h7,h8,h9,h10,h11,h12,h13,h14,h15,h16,h17,h18,h19,h20,h21,h22,h23,h24,h25,h26,h27,h28,h29,h30,h31,h32,h33,h34,h35,h36,h37,h38,h39,h40,h41,h42⟩:=h
 intro y hy
 match y,hy with
 | 0,_=>exact iK_wk h0
 | 1,_=>exact iK_wk h1
 | 2,_=>exact iK_wk h2
 | 3,_=>exact iK_wk h3
 | 4,_=>exact bK_wk h4
 | 5,_=>exact bK_wk h5
 | 6,_=>exact bK_wk h6
 | 7,_=>exact bK_wk h7
 | 8,_=>exact bK_wk h8
 | 9,_=>exact bK_wk h9
 | 10,_=>exact bK_wk h10
 | 11,_=>exact iK_wk h11
 | 12,_=>exact iK_wk h12
 | 13,_=>exact iK_wk h13
 | 14,_=>exact iK_wk h14
 | 15,_=>exact iK_wk h15
 | 16,_=>exact iK_wk h16
 | 17,_=>exact iK_wk h17
 | 18,_=>exact iK_wk h18
 | 19,_=>exact iK_wk h19
 | 20,_=>exact iK_wk h20
 | 21,_=>exact iK_wk h21
 | 22,_=>exact iK_wk h22
 | 23,_=>exact iK_wk h23
 | 24,_=>exact iK_wk h24
 | 25,_=>exact iK_wk h25
 | 26,_=>exact iK_wk h26
 | 27,_=>exact iK_wk h27
 | 28,_=>exact iK_wk h28
 | 29,_=>exact iK_wk h29
 | 30,_=>exact iK_wk h30
 | 31,_=>exact iK_wk h31
 | 32,_=>exact iK_wk h32
 | 33,_=>exact iK_wk h33
 | 34,_=>exact iK_wk h34
 | 35,_=>exact iK_wk h35
 | 36,_=>exact iK_wk h36
 | 37,_=>exact iK_wk h37
 | 38,_=>exact iK_wk h38
 | 39,_=>exact iK_wk h39
 | 40,_=>exact bK_wk h40
 | 41,_=>exact bK_wk h41
 | 42,_=>exact lK_wk (fun r h=>w_u8 h) h42
 | y+43,hy=>omega
theorem e_TStored_0 (l:List TStored) (x:Nat):enR c_TStored l x 0 = .int .u8 ((gd l x).Cat):=rfl
theorem e_TStored_1 (l:List TStored) (x:Nat):enR c_TStored l x 1 = .int .i64 ((gd l x).At):=rfl
theorem e_TStored_2 (l:List TStored) (x:Nat):enR c_TStored l x 2 = .int .u8 ((((gd l x).Frame).Head).Kind):=rfl
theorem e_TStored_3 (l:List TStored) (x:Nat):enR c_TStored l x 3 = .int .u8 ((((gd l x).Frame).Head).Sub):=rfl
theorem e_TStored_4 (l:List TStored) (x:Nat):enR c_TStored l x 4 = .bool ((((gd l x).Frame).Head).ToDs):=rfl
theorem e_TStored_5 (l:List TStored) (x:Nat):enR c_TStored l x 5 = .bool ((((gd l x).Frame).Head).FromDs):=rfl
theorem e_TStored_6 (l:List TStored) (x:Nat):enR c_TStored l x 6 = .bool ((((gd l x).Frame).Head).More):=rfl
theorem e_TStored_7 (l:List TStored) (x:Nat):enR c_TStored l x 7 = .bool ((((gd l x).Frame).Head).Retry):=rfl
theorem e_TStored_8 (l:List TStored) (x:Nat):enR c_TStored l x 8 = .bool ((((gd l x).Frame).Head).Sleep):=rfl
theorem e_TStored_9 (l:List TStored) (x:Nat):enR c_TStored l x 9 = .bool ((((gd l x).Frame).Head).MoreData):=rfl
theorem e_TStored_10 (l:List TStored) (x:Nat):enR c_TStored l x 10 = .bool ((((gd l x).Frame).Head).Protected):=rfl
theorem e_TStored_11 (l:List TStored) (x:Nat):enR c_TStored l x 11 = .int .i64 ((((gd l x).Frame).Head).Duration):=rfl
theorem e_TStored_12 (l:List TStored) (x:Nat):enR c_TStored l x 12 = .int .u8 (((((gd l x).Frame).Head).A1).x0):=rfl
theorem e_TStored_13 (l:List TStored) (x:Nat):enR c_TStored l x 13 = .int .u8 (((((gd l x).Frame).Head).A1).x1):=rfl
theorem e_TStored_14 (l:List TStored) (x:Nat):enR c_TStored l x 14 = .int .u8 (((((gd l x).Frame).Head).A1).x2):=rfl
theorem e_TStored_15 (l:List TStored) (x:Nat):enR c_TStored l x 15 = .int .u8 (((((gd l x).Frame).Head).A1).x3):=rfl
theorem e_TStored_16 (l:List TStored) (x:Nat):enR c_TStored l x 16 = .int .u8 (((((gd l x).Frame).Head).A1).x4):=rfl
theorem e_TStored_17 (l:List TStored) (x:Nat):enR c_TStored l x 17 = .int .u8 (((((gd l x).Frame).Head).A1).x5):=rfl
theorem e_TStored_18 (l:List TStored) (x:Nat):enR c_TStored l x 18 = .int .u8 (((((gd l x).Frame).Head).A2).x0):=rfl
theorem e_TStored_19 (l:List TStored) (x:Nat):enR c_TStored l x 19 = .int .u8 (((((gd l x).Frame).Head).A2).x1):=rfl
theorem e_TStored_20 (l:List TStored) (x:Nat):enR c_TStored l x 20 = .int .u8 (((((gd l x).Frame).Head).A2).x2):=rfl
theorem e_TStored_21 (l:List TStored) (x:Nat):enR c_TStored l x 21 = .int .u8 (((((gd l x).Frame).Head).A2).x3):=rfl
theorem e_TStored_22 (l:List TStored) (x:Nat):enR c_TStored l x 22 = .int .u8 (((((gd l x).Frame).Head).A2).x4):=rfl
theorem e_TStored_23 (l:List TStored) (x:Nat):enR c_TStored l x 23 = .int .u8 (((((gd l x).Frame).Head).A2).x5):=rfl
theorem e_TStored_24 (l:List TStored) (x:Nat):enR c_TStored l x 24 = .int .u8 (((((gd l x).Frame).Head).A3).x0):=rfl
theorem e_TStored_25 (l:List TStored) (x:Nat):enR c_TStored l x 25 = .int .u8 (((((gd l x).Frame).Head).A3).x1):=rfl
theorem e_TStored_26 (l:List TStored) (x:Nat):enR c_TStored l x 26 = .int .u8 (((((gd l x).Frame).Head).A3).x2):=rfl
theorem e_TStored_27 (l:List TStored) (x:Nat):enR c_TStored l x 27 = .int .u8 (((((gd l x).Frame).Head).A3).x3):=rfl
theorem e_TStored_28 (l:List TStored) (x:Nat):enR c_TStored l x 28 = .int .u8 (((((gd l x).Frame).Head).A3).x4):=rfl
theorem e_TStored_29 (l:List TStored) (x:Nat):enR c_TStored l x 29 = .int .u8 (((((gd l x).Frame).Head).A3).x5):=rfl
theorem e_TStored_30 (l:List TStored) (x:Nat):enR c_TStored l x 30 = .int .u8 (((((gd l x).Frame).Head).A4).x0):=rfl
theorem e_TStored_31 (l:List TStored) (x:Nat):enR c_TStored l x 31 = .int .u8 (((((gd l x).Frame).Head).A4).x1):=rfl
theorem e_TStored_32 (l:List TStored) (x:Nat):enR c_TStored l x 32 = .int .u8 (((((gd l x).Frame).Head).A4).x2):=rfl
theorem e_TStored_33 (l:List TStored) (x:Nat):enR c_TStored l x 33 = .int .u8 (((((gd l x).Frame).Head).A4).x3):=rfl
theorem e_TStored_34 (l:List TStored) (x:Nat):enR c_TStored l x 34 = .int .u8 (((((gd l x).Frame).Head).A4).x4):=rfl
theorem e_TStored_35 (l:List TStored) (x:Nat):enR c_TStored l x 35 = .int .u8 (((((gd l x).Frame).Head).A4).x5):=rfl
theorem e_TStored_36 (l:List TStored) (x:Nat):enR c_TStored l x 36 = .int .i64 ((((gd l x).Frame).Head).Seq):=rfl
theorem e_TStored_37 (l:List TStored) (x:Nat):enR c_TStored l x 37 = .int .i64 ((((gd l x).Frame).Head).Frag):=rfl
theorem e_TStored_38 (l:List TStored) (x:Nat):enR c_TStored l x 38 = .int .i64 ((((gd l x).Frame).Head).Tid):=rfl
theorem e_TStored_39 (l:List TStored) (x:Nat):enR c_TStored l x 39 = .int .u8 ((((gd l x).Frame).Head).Ack):=rfl
theorem e_TStored_40 (l:List TStored) (x:Nat):enR c_TStored l x 40 = .bool ((((gd l x).Frame).Head).Amsdu):=rfl
theorem e_TStored_41 (l:List TStored) (x:Nat):enR c_TStored l x 41 = .bool ((((gd l x).Frame).Head).Eosp):=rfl
theorem e_TStored_42 (l:List TStored) (x:Nat):enR c_TStored l x 42 = .ro 1 (((gd l x).Frame).Body).length false (enR c_u8 (((gd l x).Frame).Body)):=rfl
theorem fit_TStored (n:Nat) (l:List TStored):Fit k_TStored n (enR c_TStored l)=True:=eq_true (Fit_enR kc_TStored)
theorem de_TStored (l:List TStored):deR g_TStored l.length (enR c_TStored l)=l:=deR_enR gc_TStored l
theorem eta_TStored (a:TStored):TStored.mk a.Cat a.At a.Frame=a:=rfl
theorem wA_TStored {v:AV} (h:aK 43 k_TStored v):WkV (.agg (c_TStored (g_TStored (aL v)))) v/\nref (.agg (c_TStored (g_TStored (aL v)))):=aK_wk (f:=c_TStored) (g:=g_TStored) (fun r h=>w_TStored h) rfl (by simp only [c_TStored,nrefL,nref,and_self]) h
def c_lTStored (a:List TStored):List AV:=[.ro 43 a.length false (enR c_TStored a)]
def g_lTStored (f:Nat->AV):List TStored:=lA g_TStored (f 0)
def k_lTStored (f:Nat->AV):Prop:=lK k_TStored 43 (f 0)
theorem gc_lTStored (a:List TStored):g_lTStored (getL (c_lTStored a))=a:=by
 simp only [g_lTStored,c_lTStored,getL,iA,bA,sA,lA,deR_enR gc_TStored]
theorem kc_lTStored (a:List TStored):k_lTStored (getL (c_lTStored a)):=by
 simp only [k_lTStored,c_lTStored,getL,iK,bK,sK,lK,or_true,true_and,and_true,and_self,Fit_enR kc_TStored]
theorem nr_lTStored (a:List TStored):nrefL (c_lTStored a):=by simp only [c_lTStored,nrefL,nref,and_self]
instance:NRf c_lTStored:=⟨nr_lTStored⟩
instance:KCf k_lTStored c_lTStored:=⟨kc_lTStored⟩
theorem e_lTStored_0 (l:List (List TStored)) (x:Nat):enR c_lTStored l x 0 = .ro 43 (gd l x).length false (enR c_TStored (gd l x)):=rfl
theorem fit_lTStored (n:Nat) (l:List (List TStored)):Fit k_lTStored n (enR c_lTStored l)=True:=eq_true (Fit_enR kc_lTStored)
theorem de_lTStored (l:List (List TStored)):deR g_lTStored l.length (enR c_lTStored l)=l:=deR_enR gc_lTStored l
structure TSleeper where
 Aid:Int
 Asleep:Bool
 Held:_root_.List TStored
 deriving Inhabited
def c_TSleeper (a:TSleeper):List AV:=[.int .i64 a.Aid,.bool a.Asleep,.ro 43 a.Held.length false (enR c_TStored a.Held)]
def g_TSleeper (f:Nat->AV):TSleeper:=⟨iA (f 0),bA (f 1),lA g_TStored (f 2)⟩
def k_TSleeper (f:Nat->AV):Prop:=iK .i64 (f 0)/\bK (f 1)/\lK k_TStored 43 (f 2)
theorem gc_TSleeper (a:TSleeper):g_TSleeper (getL (c_TSleeper a))=a:=by
 simp only [g_TSleeper,c_TSleeper,getL,iA,bA,sA,lA,deR_enR gc_TStored]
theorem kc_TSleeper (a:TSleeper):k_TSleeper (getL (c_TSleeper a)):=by
 simp only [k_TSleeper,c_TSleeper,getL,iK,bK,sK,lK,or_true,true_and,and_true,and_self,Fit_enR kc_TStored]
theorem nr_TSleeper (a:TSleeper):nrefL (c_TSleeper a):=by simp only [c_TSleeper,nrefL,nref,and_self]
instance:NRf c_TSleeper:=⟨nr_TSleeper⟩
instance:KCf k_TSleeper c_TSleeper:=⟨kc_TSleeper⟩
theorem w_TSleeper {f:Nat->AV} (h:k_TSleeper f):∀ y,y < 3->WkV (getL (c_TSleeper (g_TSleeper f)) y) (f y)/\nref (getL (c_TSleeper (g_TSleeper f)) y):=by
 obtain ⟨h0,h1,h2⟩:=h
 intro y hy
 match y,hy with
 | 0,_=>exact iK_wk h0
 | 1,_=>exact bK_wk h1
 | 2,_=>exact lK_wk (fun r h=>w_TStored h) h2
 | y+3,hy=>omega
theorem e_TSleeper_0 (l:List TSleeper) (x:Nat):enR c_TSleeper l x 0 = .int .i64 ((gd l x).Aid):=rfl
theorem e_TSleeper_1 (l:List TSleeper) (x:Nat):enR c_TSleeper l x 1 = .bool ((gd l x).Asleep):=rfl
theorem e_TSleeper_2 (l:List TSleeper) (x:Nat):enR c_TSleeper l x 2 = .ro 43 ((gd l x).Held).length false (enR c_TStored ((gd l x).Held)):=rfl
theorem fit_TSleeper (n:Nat) (l:List TSleeper):Fit k_TSleeper n (enR c_TSleeper l)=True:=eq_true (Fit_enR kc_TSleeper)
theorem de_TSleeper (l:List TSleeper):deR g_TSleeper l.length (enR c_TSleeper l)=l:=deR_enR gc_TSleeper l
theorem eta_TSleeper (a:TSleeper):TSleeper.mk a.Aid a.Asleep a.Held=a:=rfl
theorem wA_TSleeper {v:AV} (h:aK 3 k_TSleeper v):WkV (.agg (c_TSleeper (g_TSleeper (aL v)))) v/\nref (.agg (c_TSleeper (g_TSleeper (aL v)))):=aK_wk (f:=c_TSleeper) (g:=g_TSleeper) (fun r h=>w_TSleeper h) rfl (by simp only [c_TSleeper,nrefL,nref,and_self]) h
def c_lTSleeper (a:List TSleeper):List AV:=[.ro 3 a.length false (enR c_TSleeper a)]
def g_lTSleeper (f:Nat->AV):List TSleeper:=lA g_TSleeper (f 0)
def k_lTSleeper (f:Nat->AV):Prop:=lK k_TSleeper 3 (f 0)
theorem gc_lTSleeper (a:List TSleeper):g_lTSleeper (getL (c_lTSleeper a))=a:=by
 simp only [g_lTSleeper,c_lTSleeper,getL,iA,bA,sA,lA,deR_enR gc_TSleeper]
theorem kc_lTSleeper (a:List TSleeper):k_lTSleeper (getL (c_lTSleeper a)):=by
 simp only [k_lTSleeper,c_lTSleeper,getL,iK,bK,sK,lK,or_true,true_and,and_true,and_self,Fit_enR kc_TSleeper]
theorem nr_lTSleeper (a:List TSleeper):nrefL (c_lTSleeper a):=by simp only [c_lTSleeper,nrefL,nref,and_self]
instance:NRf c_lTSleeper:=⟨nr_lTSleeper⟩
instance:KCf k_lTSleeper c_lTSleeper:=⟨kc_lTSleeper⟩
theorem e_lTSleeper_0 (l:List (List TSleeper)) (x:Nat):enR c_lTSleeper l x 0 = .ro 3 (gd l x).length false (enR c_TSleeper (gd l x)):=rfl
theorem fit_lTSleeper (n:Nat) (l:List (List TSleeper)):Fit k_lTSleeper n (enR c_lTSleeper l)=True:=eq_true (Fit_enR kc_lTSleeper)
theorem de_lTSleeper (l:List (List TSleeper)):deR g_lTSleeper l.length (enR c_lTSleeper l)=l:=deR_enR gc_lTSleeper l
structure TBuffer where
 Limit:Int
 Stay:Int
 List:_root_.List TSleeper
 Group:_root_.List TStored
 deriving Inhabited
def c_TBuffer (a:TBuffer):List AV:=[.int .i64 a.Limit,.int .i64 a.Stay,.ro 3 a.List.length false (enR c_TSleeper a.List),.ro 43 a.Group.length false (enR c_TStored a.Group)]
def g_TBuffer (f:Nat->AV):TBuffer:=⟨iA (f 0),iA (f 1),lA g_TSleeper (f 2),lA g_TStored (f 3)⟩
def k_TBuffer (f:Nat->AV):Prop:=iK .i64 (f 0)/\iK .i64 (f 1)/\lK k_TSleeper 3 (f 2)/\lK k_TStored 43 (f 3)
theorem gc_TBuffer (a:TBuffer):g_TBuffer (getL (c_TBuffer a))=a:=by
 simp only [g_TBuffer,c_TBuffer,getL,iA,bA,sA,lA,deR_enR gc_TSleeper,deR_enR gc_TStored]
theorem kc_TBuffer (a:TBuffer):k_TBuffer (getL (c_TBuffer a)):=by
 simp only [k_TBuffer,c_TBuffer,getL,iK,bK,sK,lK,or_true,true_and,and_true,and_self,Fit_enR kc_TSleeper,Fit_enR kc_TStored]
theorem nr_TBuffer (a:TBuffer):nrefL (c_TBuffer a):=by simp only [c_TBuffer,nrefL,nref,and_self]
instance:NRf c_TBuffer:=⟨nr_TBuffer⟩
instance:KCf k_TBuffer c_TBuffer:=⟨kc_TBuffer⟩
theorem w_TBuffer {f:Nat->AV} (h:k_TBuffer f):∀ y,y < 4->WkV (getL (c_TBuffer (g_TBuffer f)) y) (f y)/\nref (getL (c_TBuffer (g_TBuffer f)) y):=by
 obtain ⟨h0,h1,h2,h3⟩:=h
 intro y hy
 match y,hy with
 | 0,_=>exact iK_wk h0
 | 1,_=>exact iK_wk h1
 | 2,_=>exact lK_wk (fun r h=>w_TSleeper h) h2
 | 3,_=>exact lK_wk (fun r h=>w_TStored h) h3
 | y+4,hy=>omega
theorem e_TBuffer_0 (l:List TBuffer) (x:Nat):enR c_TBuffer l x 0 = .int .i64 ((gd l x).Limit):=rfl
theorem e_TBuffer_1 (l:List TBuffer) (x:Nat):enR c_TBuffer l x 1 = .int .i64 ((gd l x).Stay):=rfl
theorem e_TBuffer_2 (l:List TBuffer) (x:Nat):enR c_TBuffer l x 2 = .ro 3 ((gd l x).List).length false (enR c_TSleeper ((gd l x).List)):=rfl
theorem e_TBuffer_3 (l:List TBuffer) (x:Nat):enR c_TBuffer l x 3 = .ro 43 ((gd l x).Group).length false (enR c_TStored ((gd l x).Group)):=rfl
theorem fit_TBuffer (n:Nat) (l:List TBuffer):Fit k_TBuffer n (enR c_TBuffer l)=True:=eq_true (Fit_enR kc_TBuffer)
theorem de_TBuffer (l:List TBuffer):deR g_TBuffer l.length (enR c_TBuffer l)=l:=deR_enR gc_TBuffer l
theorem eta_TBuffer (a:TBuffer):TBuffer.mk a.Limit a.Stay a.List a.Group=a:=rfl
theorem wA_TBuffer {v:AV} (h:aK 4 k_TBuffer v):WkV (.agg (c_TBuffer (g_TBuffer (aL v)))) v/\nref (.agg (c_TBuffer (g_TBuffer (aL v)))):=aK_wk (f:=c_TBuffer) (g:=g_TBuffer) (fun r h=>w_TBuffer h) rfl (by simp only [c_TBuffer,nrefL,nref,and_self]) h
def c_lTTriggerPlan (a:List TTriggerPlan):List AV:=[.ro 3 a.length false (enR c_TTriggerPlan a)]
def g_lTTriggerPlan (f:Nat->AV):List TTriggerPlan:=lA g_TTriggerPlan (f 0)
def k_lTTriggerPlan (f:Nat->AV):Prop:=lK k_TTriggerPlan 3 (f 0)
theorem gc_lTTriggerPlan (a:List TTriggerPlan):g_lTTriggerPlan (getL (c_lTTriggerPlan a))=a:=by
 simp only [g_lTTriggerPlan,c_lTTriggerPlan,getL,iA,bA,sA,lA,deR_enR gc_TTriggerPlan]
theorem kc_lTTriggerPlan (a:List TTriggerPlan):k_lTTriggerPlan (getL (c_lTTriggerPlan a)):=by
 simp only [k_lTTriggerPlan,c_lTTriggerPlan,getL,iK,bK,sK,lK,or_true,true_and,and_true,and_self,Fit_enR kc_TTriggerPlan]
theorem nr_lTTriggerPlan (a:List TTriggerPlan):nrefL (c_lTTriggerPlan a):=by simp only [c_lTTriggerPlan,nrefL,nref,and_self]
instance:NRf c_lTTriggerPlan:=⟨nr_lTTriggerPlan⟩
instance:KCf k_lTTriggerPlan c_lTTriggerPlan:=⟨kc_lTTriggerPlan⟩
theorem e_lTTriggerPlan_0 (l:List (List TTriggerPlan)) (x:Nat):enR c_lTTriggerPlan l x 0 = .ro 3 (gd l x).length false (enR c_TTriggerPlan (gd l x)):=rfl
theorem fit_lTTriggerPlan (n:Nat) (l:List (List TTriggerPlan)):Fit k_lTTriggerPlan n (enR c_lTTriggerPlan l)=True:=eq_true (Fit_enR kc_lTTriggerPlan)
theorem de_lTTriggerPlan (l:List (List TTriggerPlan)):deR g_lTTriggerPlan l.length (enR c_lTTriggerPlan l)=l:=deR_enR gc_lTTriggerPlan l
def c_li64 (a:List Int):List AV:=[.ro 1 a.length false (enR c_i64 a)]
def g_li64 (f:Nat->AV):List Int:=lA g_i64 (f 0)
def k_li64 (f:Nat->AV):Prop:=lK k_i64 1 (f 0)
theorem gc_li64 (a:List Int):g_li64 (getL (c_li64 a))=a:=by
 simp only [g_li64,c_li64,getL,iA,bA,sA,lA,deR_enR gc_i64]
theorem kc_li64 (a:List Int):k_li64 (getL (c_li64 a)):=by
 simp only [k_li64,c_li64,getL,iK,bK,sK,lK,or_true,true_and,and_true,and_self,Fit_enR kc_i64]
theorem nr_li64 (a:List Int):nrefL (c_li64 a):=by simp only [c_li64,nrefL,nref,and_self]
instance:NRf c_li64:=⟨nr_li64⟩
instance:KCf k_li64 c_li64:=⟨kc_li64⟩
theorem e_li64_0 (l:List (List Int)) (x:Nat):enR c_li64 l x 0 = .ro 1 (gd l x).length false (enR c_i64 (gd l x)):=rfl
theorem fit_li64 (n:Nat) (l:List (List Int)):Fit k_li64 n (enR c_li64 l)=True:=eq_true (Fit_enR kc_li64)
theorem de_li64 (l:List (List Int)):deR g_li64 l.length (enR c_li64 l)=l:=deR_enR gc_li64 l
structure TTraffic where
 Group:Bool
 Aids:_root_.List Int
 deriving Inhabited
def c_TTraffic (a:TTraffic):List AV:=[.bool a.Group,.ro 1 a.Aids.length false (enR c_i64 a.Aids)]
def g_TTraffic (f:Nat->AV):TTraffic:=⟨bA (f 0),lA g_i64 (f 1)⟩
def k_TTraffic (f:Nat->AV):Prop:=bK (f 0)/\lK k_i64 1 (f 1)
theorem gc_TTraffic (a:TTraffic):g_TTraffic (getL (c_TTraffic a))=a:=by
 simp only [g_TTraffic,c_TTraffic,getL,iA,bA,sA,lA,deR_enR gc_i64]
theorem kc_TTraffic (a:TTraffic):k_TTraffic (getL (c_TTraffic a)):=by
 simp only [k_TTraffic,c_TTraffic,getL,iK,bK,sK,lK,or_true,true_and,and_true,and_self,Fit_enR kc_i64]
theorem nr_TTraffic (a:TTraffic):nrefL (c_TTraffic a):=by simp only [c_TTraffic,nrefL,nref,and_self]
instance:NRf c_TTraffic:=⟨nr_TTraffic⟩
instance:KCf k_TTraffic c_TTraffic:=⟨kc_TTraffic⟩
theorem e_TTraffic_0 (l:List TTraffic) (x:Nat):enR c_TTraffic l x 0 = .bool ((gd l x).Group):=rfl
theorem e_TTraffic_1 (l:List TTraffic) (x:Nat):enR c_TTraffic l x 1 = .ro 1 ((gd l x).Aids).length false (enR c_i64 ((gd l x).Aids)):=rfl
theorem fit_TTraffic (n:Nat) (l:List TTraffic):Fit k_TTraffic n (enR c_TTraffic l)=True:=eq_true (Fit_enR kc_TTraffic)
theorem de_TTraffic (l:List TTraffic):deR g_TTraffic l.length (enR c_TTraffic l)=l:=deR_enR gc_TTraffic l
theorem eta_TTraffic (a:TTraffic):TTraffic.mk a.Group a.Aids=a:=rfl
structure Tqueue where
 held:_root_.List TStored
 deliver:Int
 deriving Inhabited
def c_Tqueue (a:Tqueue):List AV:=[.ro 43 a.held.length false (enR c_TStored a.held),.int .u8 a.deliver]
def g_Tqueue (f:Nat->AV):Tqueue:=⟨lA g_TStored (f 0),iA (f 1)⟩
def k_Tqueue (f:Nat->AV):Prop:=lK k_TStored 43 (f 0)/\iK .u8 (f 1)
theorem gc_Tqueue (a:Tqueue):g_Tqueue (getL (c_Tqueue a))=a:=by
 simp only [g_Tqueue,c_Tqueue,getL,iA,bA,sA,lA,deR_enR gc_TStored]
theorem kc_Tqueue (a:Tqueue):k_Tqueue (getL (c_Tqueue a)):=by
 simp only [k_Tqueue,c_Tqueue,getL,iK,bK,sK,lK,or_true,true_and,and_true,and_self,Fit_enR kc_TStored]
theorem nr_Tqueue (a:Tqueue):nrefL (c_Tqueue a):=by simp only [c_Tqueue,nrefL,nref,and_self]
instance:NRf c_Tqueue:=⟨nr_Tqueue⟩
instance:KCf k_Tqueue c_Tqueue:=⟨kc_Tqueue⟩
theorem e_Tqueue_0 (l:List Tqueue) (x:Nat):enR c_Tqueue l x 0 = .ro 43 ((gd l x).held).length false (enR c_TStored ((gd l x).held)):=rfl
theorem e_Tqueue_1 (l:List Tqueue) (x:Nat):enR c_Tqueue l x 1 = .int .u8 ((gd l x).deliver):=rfl
theorem fit_Tqueue (n:Nat) (l:List Tqueue):Fit k_Tqueue n (enR c_Tqueue l)=True:=eq_true (Fit_enR kc_Tqueue)
theorem de_Tqueue (l:List Tqueue):deR g_Tqueue l.length (enR c_Tqueue l)=l:=deR_enR gc_Tqueue l
theorem eta_Tqueue (a:Tqueue):Tqueue.mk a.held a.deliver=a:=rfl
structure A8u8 where
 x0:Int
 x1:Int
 x2:Int
 x3:Int
 x4:Int
 x5:Int
 x6:Int
 x7:Int
 deriving Inhabited
def c_A8u8 (a:A8u8):List AV:=[.int .u8 a.x0,.int .u8 a.x1,.int .u8 a.x2,.int .u8 a.x3,.int .u8 a.x4,.int .u8 a.x5,.int .u8 a.x6,.int .u8 a.x7]
def g_A8u8 (f:Nat->AV):A8u8:=⟨iA (f 0),iA (f 1),iA (f 2),iA (f 3),iA (f 4),iA (f 5),iA (f 6),iA (f 7)⟩
def k_A8u8 (f:Nat->AV):Prop:=iK .u8 (f 0)/\iK .u8 (f 1)/\iK .u8 (f 2)/\iK .u8 (f 3)/\iK .u8 (f 4)/\iK .u8 (f 5)/\iK .u8 (f 6)/\iK .u8 (f 7)
theorem gc_A8u8 (a:A8u8):g_A8u8 (getL (c_A8u8 a))=a:=by
 simp only [g_A8u8,c_A8u8,getL,iA,bA,sA,lA]
theorem kc_A8u8 (a:A8u8):k_A8u8 (getL (c_A8u8 a)):=by
 simp only [k_A8u8,c_A8u8,getL,iK,bK,sK,lK,or_true,true_and,and_true,and_self]
theorem nr_A8u8 (a:A8u8):nrefL (c_A8u8 a):=by simp only [c_A8u8,nrefL,nref,and_self]
instance:NOf c_A8u8:=⟨fun a=>by simp only [c_A8u8,noroL,noro,and_self]⟩
instance:NRf c_A8u8:=⟨nr_A8u8⟩
instance:KCf k_A8u8 c_A8u8:=⟨kc_A8u8⟩
theorem e_A8u8_0 (l:List A8u8) (x:Nat):enR c_A8u8 l x 0 = .int .u8 ((gd l x).x0):=rfl
theorem e_A8u8_1 (l:List A8u8) (x:Nat):enR c_A8u8 l x 1 = .int .u8 ((gd l x).x1):=rfl
theorem e_A8u8_2 (l:List A8u8) (x:Nat):enR c_A8u8 l x 2 = .int .u8 ((gd l x).x2):=rfl
theorem e_A8u8_3 (l:List A8u8) (x:Nat):enR c_A8u8 l x 3 = .int .u8 ((gd l x).x3):=rfl
theorem e_A8u8_4 (l:List A8u8) (x:Nat):enR c_A8u8 l x 4 = .int .u8 ((gd l x).x4):=rfl
theorem e_A8u8_5 (l:List A8u8) (x:Nat):enR c_A8u8 l x 5 = .int .u8 ((gd l x).x5):=rfl
theorem e_A8u8_6 (l:List A8u8) (x:Nat):enR c_A8u8 l x 6 = .int .u8 ((gd l x).x6):=rfl
theorem e_A8u8_7 (l:List A8u8) (x:Nat):enR c_A8u8 l x 7 = .int .u8 ((gd l x).x7):=rfl
theorem fit_A8u8 (n:Nat) (l:List A8u8):Fit k_A8u8 n (enR c_A8u8 l)=True:=eq_true (Fit_enR kc_A8u8)
theorem de_A8u8 (l:List A8u8):deR g_A8u8 l.length (enR c_A8u8 l)=l:=deR_enR gc_A8u8 l
theorem eta_A8u8 (a:A8u8):A8u8.mk a.x0 a.x1 a.x2 a.x3 a.x4 a.x5 a.x6 a.x7=a:=rfl
def c_u64 (a:Int):List AV:=[.int .u64 a]
def g_u64 (f:Nat->AV):Int:=iA (f 0)
def k_u64 (f:Nat->AV):Prop:=iK .u64 (f 0)
theorem gc_u64 (a:Int):g_u64 (getL (c_u64 a))=a:=by
 simp only [g_u64,c_u64,getL,iA,bA,sA,lA]
theorem kc_u64 (a:Int):k_u64 (getL (c_u64 a)):=by
 simp only [k_u64,c_u64,getL,iK,bK,sK,lK,or_true,true_and,and_true,and_self]
theorem nr_u64 (a:Int):nrefL (c_u64 a):=by simp only [c_u64,nrefL,nref,and_self]
instance:NOf c_u64:=⟨fun a=>by simp only [c_u64,noroL,noro,and_self]⟩
instance:NRf c_u64:=⟨nr_u64⟩
instance:KCf k_u64 c_u64:=⟨kc_u64⟩
theorem e_u64_0 (l:List Int) (x:Nat):enR c_u64 l x 0 = .int .u64 (gd l x):=rfl
theorem fit_u64 (n:Nat) (l:List Int):Fit k_u64 n (enR c_u64 l)=True:=eq_true (Fit_enR kc_u64)
theorem de_u64 (l:List Int):deR g_u64 l.length (enR c_u64 l)=l:=deR_enR gc_u64 l
def shT (t:TypeId):Option (List Leaf):=if t=23 then some [.i .u8,.i .u8,.i .i64] else if t=25 then some [.i .u8,.i .u8,.i .u8,.i .u8,.i .u8,.i .u8] else if t=27 then some (.i .u8::.i .u8::.b::.b::.b::.b::.b::.b::.b::.i .i64::.i .u8::.i .u8::.i .u8::.i .u8::.i .u8::.i .u8::.i .u8::.i .u8::.i .u8::.i .u8::.i .u8::.i .u8::.i .u8::.i .u8::.i .u8::.i .u8::.i .u8::.i .u8::.i .u8::.i .u8::.i .u8::.i .u8::.i .u8::.i .u8::.i .i64::.i .i64::.i .i64::.i .u8::.b::.b::[]) else if t=118 then some [.i .u8,.i .u8,.i .u8,.i .u8,.i .u8,.i .u8,.i .u8,.i .u8] else none
theorem shT_ok:ShOk Try.prog shT:=by
 refine shOk_of fun t l h=>?_
 unfold shT at h
 split at h
 ·rename_i ht;subst ht;injection h with h;subst h;exact ⟨by kernel_rfl,by kernel_rfl,by kernel_rfl⟩
 split at h
 ·rename_i ht;subst ht;injection h with h;subst h;exact ⟨by kernel_rfl,by kernel_rfl,by kernel_rfl⟩
 split at h
 ·rename_i ht;subst ht;injection h with h;subst h;exact ⟨by kernel_rfl,by kernel_rfl,by kernel_rfl⟩
 split at h
 ·rename_i ht;subst ht;injection h with h;subst h;exact ⟨by kernel_rfl,by kernel_rfl,by kernel_rfl⟩
 cases h
theorem shT_23:shT 23=some [.i .u8,.i .u8,.i .i64]:=rfl
theorem shT_25:shT 25=some [.i .u8,.i .u8,.i .u8,.i .u8,.i .u8,.i .u8]:=rfl
theorem shT_27:shT 27=some (.i .u8::.i .u8::.b::.b::.b::.b::.b::.b::.b::.i .i64::.i .u8::.i .u8::.i .u8::.i .u8::.i .u8::.i .u8::.i .u8::.i .u8::.i .u8::.i .u8::.i .u8::.i .u8::.i .u8::.i .u8::.i .u8::.i .u8::.i .u8::.i .u8::.i .u8::.i .u8::.i .u8::.i .u8::.i .u8::.i .u8::.i .i64::.i .i64::.i .i64::.i .u8::.b::.b::[]):=rfl
theorem shT_118:shT 118=some [.i .u8,.i .u8,.i .u8,.i .u8,.i .u8,.i .u8,.i .u8,.i .u8]:=rfl
theorem Fit_app {k:(Nat->AV)->Prop} {n p:Nat} {c d:Nat->Nat->AV} (h1:Fit k p c) (h2:Fit k (n - p) d):Fit k n (appC p c d):=fun x hx=>by
 by_cases h:x < p
 ·rw [show appC p c d x=c x from funext fun y=>if_pos h];exact h1 x h
 ·rw [show appC p c d x=d (x - p) from funext fun y=>if_neg h];exact h2 _ (by omega)
def ctNo:Ct:=tab []
theorem ctNo_ok:CtOk Try.prog ctNo:=tab_nil
theorem strE_u8 (s:ByteArray):strE s=enR c_u8 (bytesL s):=strE_en (fun _=>rfl) s
theorem rg {ct:Ct} (C:CtOk Try.prog ct) {a:Code} {K:Kt} {t:List AV} {h:List ABlk} (hw:wpC Try.prog shT ct a K t h):Mean Try.prog a K t h:=wpC_sound shT_ok C a K t h hw
theorem sq {ct:Ct} (C:CtOk Try.prog ct) {a b:Code} {K:Kt} {t:List AV} {h:List ABlk} (hw:wpC Try.prog shT ct a (kM Try.prog b K) t h):Mean Try.prog (.seq a b) K t h:=seqM (wpC_sound shT_ok C a _ t h hw)
end Go.Proofs.Ytnclkplbeenmdaa

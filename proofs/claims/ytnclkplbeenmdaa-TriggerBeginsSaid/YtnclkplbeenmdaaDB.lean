/-
  Rows that are new: their cells.
-/
import Derived.Test.YtnclkplbeenmdaaB
namespace Go.Proofs.Ytnclkplbeenmdaa
open Go.Am
set_option linter.unusedVariables false
set_option linter.unusedSimpArgs false
theorem dS {α:Type} [Inhabited α] {d s:α->List AV} {z:Nat} {L:List α} {c:Nat->Nat->AV} (e:∀ a y,y < z->getL (d a) y=getL (s a) y) (h:∀ x y,x < L.length->y < z->enR s L x y=c x y):∀ x y,x < L.length->y < z->enR d L x y=c x y:=fun x y hx hy=>(e _ y hy).trans (h x y hx hy)
def s_u8 (a:Int):List AV:=[.int .u8 a]
def d_u8 (a:Int):List AV:=s_u8 a ++ [.emp]
theorem ds_u8 (a:Int) (y:Nat) (h:y < 1):getL (d_u8 a) y=getL (s_u8 a) y:=getL_app_lt h
theorem gc_d_u8 (a:Int):g_u8 (getL (d_u8 a))=a:=by
 simp only [g_u8,d_u8,s_u8,List.cons_append,List.nil_append,getL,iA,bA,sA,lA]
theorem kc_d_u8 (a:Int):k_u8 (getL (d_u8 a)):=by
 simp only [k_u8,d_u8,s_u8,List.cons_append,List.nil_append,getL,iK,bK,sK,lK,or_true,true_and,and_true,and_self]
theorem nr_d_u8 (a:Int):nrefL (d_u8 a):=by simp only [d_u8,s_u8,List.cons_append,List.nil_append,nrefL,nref,and_self]
instance:NOf d_u8:=⟨fun a=>by simp only [d_u8,s_u8,List.cons_append,List.nil_append,noroL,noro,and_self]⟩
instance:NRf d_u8:=⟨nr_d_u8⟩
instance:KCf k_u8 d_u8:=⟨kc_d_u8⟩
theorem e_d_u8_0 (l:List Int) (x:Nat):enR d_u8 l x 0 = .int .u8 (gd l x):=rfl
theorem fit_d_u8 (n:Nat) (l:List Int):Fit k_u8 n (enR d_u8 l)=True:=eq_true (Fit_enR kc_d_u8)
theorem de_d_u8 (l:List Int):deR g_u8 l.length (enR d_u8 l)=l:=deR_enR gc_d_u8 l
def s_TFrame (a:TFrame):List AV:=[.int .u8 a.Head.Kind,.int .u8 a.Head.Sub,.bool a.Head.ToDs,.bool a.Head.FromDs,.bool a.Head.More,.bool a.Head.Retry,.bool a.Head.Sleep,.bool a.Head.MoreData,.bool a.Head.Protected,.int .i64 a.Head.Duration,.int .u8 a.Head.A1.x0,.int .u8 a.Head.A1.x1,.int .u8 a.Head.A1.x2,.int .u8 a.Head.A1.x3,.int .u8 a.Head.A1.x4,.int .u8 a.Head.A1.x5,.int .u8 a.Head.A2.x0,.int .u8 a.Head.A2.x1,.int .u8 a.Head.A2.x2,.int .u8 a.Head.A2.x3,.int .u8 a.Head.A2.x4,.int .u8 a.Head.A2.x5,.int .u8 a.Head.A3.x0,.int .u8 a.Head.A3.x1,.int .u8 a.Head.A3.x2,.int .u8 a.Head.A3.x3,.int .u8 a.Head.A3.x4,.int .u8 a.Head.A3.x5,.int .u8 a.Head.A4.x0,.int .u8 a.Head.A4.x1,.int .u8 a.Head.A4.x2,.int .u8 a.Head.A4.x3,.int .u8 a.Head.A4.x4,.int .u8 a.Head.A4.x5,.int .i64 a.Head.Seq,.int .i64 a.Head.Frag,.int .i64 a.Head.Tid,.int .u8 a.Head.Ack,.bool a.Head.Amsdu,.bool a.Head.Eosp,.ro 1 a.Body.length false (enR d_u8 a.Body)]
def d_TFrame (a:TFrame):List AV:=s_TFrame a ++ [.emp]
theorem ds_TFrame (a:TFrame) (y:Nat) (h:y < 41):getL (d_TFrame a) y=getL (s_TFrame a) y:=getL_app_lt h
theorem gc_d_TFrame (a:TFrame):g_TFrame (getL (d_TFrame a))=a:=by
 simp only [g_TFrame,d_TFrame,s_TFrame,List.cons_append,List.nil_append,getL,iA,bA,sA,lA,deR_enR gc_d_u8]
theorem kc_d_TFrame (a:TFrame):k_TFrame (getL (d_TFrame a)):=by
 simp only [k_TFrame,d_TFrame,s_TFrame,List.cons_append,List.nil_append,getL,iK,bK,sK,lK,or_true,true_and,and_true,and_self,Fit_enR kc_d_u8]
theorem nr_d_TFrame (a:TFrame):nrefL (d_TFrame a):=by simp only [d_TFrame,s_TFrame,List.cons_append,List.nil_append,nrefL,nref,and_self]
instance:NRf d_TFrame:=⟨nr_d_TFrame⟩
instance:KCf k_TFrame d_TFrame:=⟨kc_d_TFrame⟩
theorem e_d_TFrame_0 (l:List TFrame) (x:Nat):enR d_TFrame l x 0 = .int .u8 (((gd l x).Head).Kind):=rfl
theorem e_d_TFrame_1 (l:List TFrame) (x:Nat):enR d_TFrame l x 1 = .int .u8 (((gd l x).Head).Sub):=rfl
theorem e_d_TFrame_2 (l:List TFrame) (x:Nat):enR d_TFrame l x 2 = .bool (((gd l x).Head).ToDs):=rfl
theorem e_d_TFrame_3 (l:List TFrame) (x:Nat):enR d_TFrame l x 3 = .bool (((gd l x).Head).FromDs):=rfl
theorem e_d_TFrame_4 (l:List TFrame) (x:Nat):enR d_TFrame l x 4 = .bool (((gd l x).Head).More):=rfl
theorem e_d_TFrame_5 (l:List TFrame) (x:Nat):enR d_TFrame l x 5 = .bool (((gd l x).Head).Retry):=rfl
theorem e_d_TFrame_6 (l:List TFrame) (x:Nat):enR d_TFrame l x 6 = .bool (((gd l x).Head).Sleep):=rfl
theorem e_d_TFrame_7 (l:List TFrame) (x:Nat):enR d_TFrame l x 7 = .bool (((gd l x).Head).MoreData):=rfl
theorem e_d_TFrame_8 (l:List TFrame) (x:Nat):enR d_TFrame l x 8 = .bool (((gd l x).Head).Protected):=rfl
theorem e_d_TFrame_9 (l:List TFrame) (x:Nat):enR d_TFrame l x 9 = .int .i64 (((gd l x).Head).Duration):=rfl
theorem e_d_TFrame_10 (l:List TFrame) (x:Nat):enR d_TFrame l x 10 = .int .u8 ((((gd l x).Head).A1).x0):=rfl
theorem e_d_TFrame_11 (l:List TFrame) (x:Nat):enR d_TFrame l x 11 = .int .u8 ((((gd l x).Head).A1).x1):=rfl
theorem e_d_TFrame_12 (l:List TFrame) (x:Nat):enR d_TFrame l x 12 = .int .u8 ((((gd l x).Head).A1).x2):=rfl
theorem e_d_TFrame_13 (l:List TFrame) (x:Nat):enR d_TFrame l x 13 = .int .u8 ((((gd l x).Head).A1).x3):=rfl
theorem e_d_TFrame_14 (l:List TFrame) (x:Nat):enR d_TFrame l x 14 = .int .u8 ((((gd l x).Head).A1).x4):=rfl
theorem e_d_TFrame_15 (l:List TFrame) (x:Nat):enR d_TFrame l x 15 = .int .u8 ((((gd l x).Head).A1).x5):=rfl
theorem e_d_TFrame_16 (l:List TFrame) (x:Nat):enR d_TFrame l x 16 = .int .u8 ((((gd l x).Head).A2).x0):=rfl
theorem e_d_TFrame_17 (l:List TFrame) (x:Nat):enR d_TFrame l x 17 = .int .u8 ((((gd l x).Head).A2).x1):=rfl
theorem e_d_TFrame_18 (l:List TFrame) (x:Nat):enR d_TFrame l x 18 = .int .u8 ((((gd l x).Head).A2).x2):=rfl
theorem e_d_TFrame_19 (l:List TFrame) (x:Nat):enR d_TFrame l x 19 = .int .u8 ((((gd l x).Head).A2).x3):=rfl
theorem e_d_TFrame_20 (l:List TFrame) (x:Nat):enR d_TFrame l x 20 = .int .u8 ((((gd l x).Head).A2).x4):=rfl
theorem e_d_TFrame_21 (l:List TFrame) (x:Nat):enR d_TFrame l x 21 = .int .u8 ((((gd l x).Head).A2).x5):=rfl
theorem e_d_TFrame_22 (l:List TFrame) (x:Nat):enR d_TFrame l x 22 = .int .u8 ((((gd l x).Head).A3).x0):=rfl
theorem e_d_TFrame_23 (l:List TFrame) (x:Nat):enR d_TFrame l x 23 = .int .u8 ((((gd l x).Head).A3).x1):=rfl
theorem e_d_TFrame_24 (l:List TFrame) (x:Nat):enR d_TFrame l x 24 = .int .u8 ((((gd l x).Head).A3).x2):=rfl
theorem e_d_TFrame_25 (l:List TFrame) (x:Nat):enR d_TFrame l x 25 = .int .u8 ((((gd l x).Head).A3).x3):=rfl
theorem e_d_TFrame_26 (l:List TFrame) (x:Nat):enR d_TFrame l x 26 = .int .u8 ((((gd l x).Head).A3).x4):=rfl
theorem e_d_TFrame_27 (l:List TFrame) (x:Nat):enR d_TFrame l x 27 = .int .u8 ((((gd l x).Head).A3).x5):=rfl
theorem e_d_TFrame_28 (l:List TFrame) (x:Nat):enR d_TFrame l x 28 = .int .u8 ((((gd l x).Head).A4).x0):=rfl
theorem e_d_TFrame_29 (l:List TFrame) (x:Nat):enR d_TFrame l x 29 = .int .u8 ((((gd l x).Head).A4).x1):=rfl
theorem e_d_TFrame_30 (l:List TFrame) (x:Nat):enR d_TFrame l x 30 = .int .u8 ((((gd l x).Head).A4).x2):=rfl
theorem e_d_TFrame_31 (l:List TFrame) (x:Nat):enR d_TFrame l x 31 = .int .u8 ((((gd l x).Head).A4).x3):=rfl
theorem e_d_TFrame_32 (l:List TFrame) (x:Nat):enR d_TFrame l x 32 = .int .u8 ((((gd l x).Head).A4).x4):=rfl
theorem e_d_TFrame_33 (l:List TFrame) (x:Nat):enR d_TFrame l x 33 = .int .u8 ((((gd l x).Head).A4).x5):=rfl
theorem e_d_TFrame_34 (l:List TFrame) (x:Nat):enR d_TFrame l x 34 = .int .i64 (((gd l x).Head).Seq):=rfl
theorem e_d_TFrame_35 (l:List TFrame) (x:Nat):enR d_TFrame l x 35 = .int .i64 (((gd l x).Head).Frag):=rfl
theorem e_d_TFrame_36 (l:List TFrame) (x:Nat):enR d_TFrame l x 36 = .int .i64 (((gd l x).Head).Tid):=rfl
theorem e_d_TFrame_37 (l:List TFrame) (x:Nat):enR d_TFrame l x 37 = .int .u8 (((gd l x).Head).Ack):=rfl
theorem e_d_TFrame_38 (l:List TFrame) (x:Nat):enR d_TFrame l x 38 = .bool (((gd l x).Head).Amsdu):=rfl
theorem e_d_TFrame_39 (l:List TFrame) (x:Nat):enR d_TFrame l x 39 = .bool (((gd l x).Head).Eosp):=rfl
theorem e_d_TFrame_40 (l:List TFrame) (x:Nat):enR d_TFrame l x 40 = .ro 1 ((gd l x).Body).length false (enR d_u8 ((gd l x).Body)):=rfl
theorem fit_d_TFrame (n:Nat) (l:List TFrame):Fit k_TFrame n (enR d_TFrame l)=True:=eq_true (Fit_enR kc_d_TFrame)
theorem de_d_TFrame (l:List TFrame):deR g_TFrame l.length (enR d_TFrame l)=l:=deR_enR gc_d_TFrame l
def s_TStored (a:TStored):List AV:=[.int .u8 a.Cat,.int .i64 a.At,.int .u8 a.Frame.Head.Kind,.int .u8 a.Frame.Head.Sub,.bool a.Frame.Head.ToDs,.bool a.Frame.Head.FromDs,.bool a.Frame.Head.More,.bool a.Frame.Head.Retry,.bool a.Frame.Head.Sleep,.bool a.Frame.Head.MoreData,.bool a.Frame.Head.Protected,.int .i64 a.Frame.Head.Duration,.int .u8 a.Frame.Head.A1.x0,.int .u8 a.Frame.Head.A1.x1,.int .u8 a.Frame.Head.A1.x2,.int .u8 a.Frame.Head.A1.x3,.int .u8 a.Frame.Head.A1.x4,.int .u8 a.Frame.Head.A1.x5,.int .u8 a.Frame.Head.A2.x0,.int .u8 a.Frame.Head.A2.x1,.int .u8 a.Frame.Head.A2.x2,.int .u8 a.Frame.Head.A2.x3,.int .u8 a.Frame.Head.A2.x4,.int .u8 a.Frame.Head.A2.x5,.int .u8 a.Frame.Head.A3.x0,.int .u8 a.Frame.Head.A3.x1,.int .u8 a.Frame.Head.A3.x2,.int .u8 a.Frame.Head.A3.x3,.int .u8 a.Frame.Head.A3.x4,.int .u8 a.Frame.Head.A3.x5,.int .u8 a.Frame.Head.A4.x0,.int .u8 a.Frame.Head.A4.x1,.int .u8 a.Frame.Head.A4.x2,.int .u8 a.Frame.Head.A4.x3,.int .u8 a.Frame.Head.A4.x4,.int .u8 a.Frame.Head.A4.x5,.int .i64 a.Frame.Head.Seq,.int .i64 a.Frame.Head.Frag,.int .i64 a.Frame.Head.Tid,.int .u8 a.Frame.Head.Ack,.bool a.Frame.Head.Amsdu,.bool a.Frame.Head.Eosp,.ro 1 a.Frame.Body.length false (enR d_u8 a.Frame.Body)]
def d_TStored (a:TStored):List AV:=s_TStored a ++ [.emp]
theorem ds_TStored (a:TStored) (y:Nat) (h:y < 43):getL (d_TStored a) y=getL (s_TStored a) y:=getL_app_lt h
theorem gc_d_TStored (a:TStored):g_TStored (getL (d_TStored a))=a:=by
 simp only [g_TStored,d_TStored,s_TStored,List.cons_append,List.nil_append,getL,iA,bA,sA,lA,deR_enR gc_d_u8]
theorem kc_d_TStored (a:TStored):k_TStored (getL (d_TStored a)):=by
 simp only [k_TStored,d_TStored,s_TStored,List.cons_append,List.nil_append,getL,iK,bK,sK,lK,or_true,true_and,and_true,and_self,Fit_enR kc_d_u8]
theorem nr_d_TStored (a:TStored):nrefL (d_TStored a):=by simp only [d_TStored,s_TStored,List.cons_append,List.nil_append,nrefL,nref,and_self]
instance:NRf d_TStored:=⟨nr_d_TStored⟩
instance:KCf k_TStored d_TStored:=⟨kc_d_TStored⟩
theorem e_d_TStored_0 (l:List TStored) (x:Nat):enR d_TStored l x 0 = .int .u8 ((gd l x).Cat):=rfl
theorem e_d_TStored_1 (l:List TStored) (x:Nat):enR d_TStored l x 1 = .int .i64 ((gd l x).At):=rfl
theorem e_d_TStored_2 (l:List TStored) (x:Nat):enR d_TStored l x 2 = .int .u8 ((((gd l x).Frame).Head).Kind):=rfl
theorem e_d_TStored_3 (l:List TStored) (x:Nat):enR d_TStored l x 3 = .int .u8 ((((gd l x).Frame).Head).Sub):=rfl
theorem e_d_TStored_4 (l:List TStored) (x:Nat):enR d_TStored l x 4 = .bool ((((gd l x).Frame).Head).ToDs):=rfl
theorem e_d_TStored_5 (l:List TStored) (x:Nat):enR d_TStored l x 5 = .bool ((((gd l x).Frame).Head).FromDs):=rfl
theorem e_d_TStored_6 (l:List TStored) (x:Nat):enR d_TStored l x 6 = .bool ((((gd l x).Frame).Head).More):=rfl
theorem e_d_TStored_7 (l:List TStored) (x:Nat):enR d_TStored l x 7 = .bool ((((gd l x).Frame).Head).Retry):=rfl
theorem e_d_TStored_8 (l:List TStored) (x:Nat):enR d_TStored l x 8 = .bool ((((gd l x).Frame).Head).Sleep):=rfl
theorem e_d_TStored_9 (l:List TStored) (x:Nat):enR d_TStored l x 9 = .bool ((((gd l x).Frame).Head).MoreData):=rfl
theorem e_d_TStored_10 (l:List TStored) (x:Nat):enR d_TStored l x 10 = .bool ((((gd l x).Frame).Head).Protected):=rfl
theorem e_d_TStored_11 (l:List TStored) (x:Nat):enR d_TStored l x 11 = .int .i64 ((((gd l x).Frame).Head).Duration):=rfl
theorem e_d_TStored_12 (l:List TStored) (x:Nat):enR d_TStored l x 12 = .int .u8 (((((gd l x).Frame).Head).A1).x0):=rfl
theorem e_d_TStored_13 (l:List TStored) (x:Nat):enR d_TStored l x 13 = .int .u8 (((((gd l x).Frame).Head).A1).x1):=rfl
theorem e_d_TStored_14 (l:List TStored) (x:Nat):enR d_TStored l x 14 = .int .u8 (((((gd l x).Frame).Head).A1).x2):=rfl
theorem e_d_TStored_15 (l:List TStored) (x:Nat):enR d_TStored l x 15 = .int .u8 (((((gd l x).Frame).Head).A1).x3):=rfl
theorem e_d_TStored_16 (l:List TStored) (x:Nat):enR d_TStored l x 16 = .int .u8 (((((gd l x).Frame).Head).A1).x4):=rfl
theorem e_d_TStored_17 (l:List TStored) (x:Nat):enR d_TStored l x 17 = .int .u8 (((((gd l x).Frame).Head).A1).x5):=rfl
theorem e_d_TStored_18 (l:List TStored) (x:Nat):enR d_TStored l x 18 = .int .u8 (((((gd l x).Frame).Head).A2).x0):=rfl
theorem e_d_TStored_19 (l:List TStored) (x:Nat):enR d_TStored l x 19 = .int .u8 (((((gd l x).Frame).Head).A2).x1):=rfl
theorem e_d_TStored_20 (l:List TStored) (x:Nat):enR d_TStored l x 20 = .int .u8 (((((gd l x).Frame).Head).A2).x2):=rfl
theorem e_d_TStored_21 (l:List TStored) (x:Nat):enR d_TStored l x 21 = .int .u8 (((((gd l x).Frame).Head).A2).x3):=rfl
theorem e_d_TStored_22 (l:List TStored) (x:Nat):enR d_TStored l x 22 = .int .u8 (((((gd l x).Frame).Head).A2).x4):=rfl
theorem e_d_TStored_23 (l:List TStored) (x:Nat):enR d_TStored l x 23 = .int .u8 (((((gd l x).Frame).Head).A2).x5):=rfl
theorem e_d_TStored_24 (l:List TStored) (x:Nat):enR d_TStored l x 24 = .int .u8 (((((gd l x).Frame).Head).A3).x0):=rfl
theorem e_d_TStored_25 (l:List TStored) (x:Nat):enR d_TStored l x 25 = .int .u8 (((((gd l x).Frame).Head).A3).x1):=rfl
theorem e_d_TStored_26 (l:List TStored) (x:Nat):enR d_TStored l x 26 = .int .u8 (((((gd l x).Frame).Head).A3).x2):=rfl
theorem e_d_TStored_27 (l:List TStored) (x:Nat):enR d_TStored l x 27 = .int .u8 (((((gd l x).Frame).Head).A3).x3):=rfl
theorem e_d_TStored_28 (l:List TStored) (x:Nat):enR d_TStored l x 28 = .int .u8 (((((gd l x).Frame).Head).A3).x4):=rfl
theorem e_d_TStored_29 (l:List TStored) (x:Nat):enR d_TStored l x 29 = .int .u8 (((((gd l x).Frame).Head).A3).x5):=rfl
theorem e_d_TStored_30 (l:List TStored) (x:Nat):enR d_TStored l x 30 = .int .u8 (((((gd l x).Frame).Head).A4).x0):=rfl
theorem e_d_TStored_31 (l:List TStored) (x:Nat):enR d_TStored l x 31 = .int .u8 (((((gd l x).Frame).Head).A4).x1):=rfl
theorem e_d_TStored_32 (l:List TStored) (x:Nat):enR d_TStored l x 32 = .int .u8 (((((gd l x).Frame).Head).A4).x2):=rfl
theorem e_d_TStored_33 (l:List TStored) (x:Nat):enR d_TStored l x 33 = .int .u8 (((((gd l x).Frame).Head).A4).x3):=rfl
theorem e_d_TStored_34 (l:List TStored) (x:Nat):enR d_TStored l x 34 = .int .u8 (((((gd l x).Frame).Head).A4).x4):=rfl
theorem e_d_TStored_35 (l:List TStored) (x:Nat):enR d_TStored l x 35 = .int .u8 (((((gd l x).Frame).Head).A4).x5):=rfl
theorem e_d_TStored_36 (l:List TStored) (x:Nat):enR d_TStored l x 36 = .int .i64 ((((gd l x).Frame).Head).Seq):=rfl
theorem e_d_TStored_37 (l:List TStored) (x:Nat):enR d_TStored l x 37 = .int .i64 ((((gd l x).Frame).Head).Frag):=rfl
theorem e_d_TStored_38 (l:List TStored) (x:Nat):enR d_TStored l x 38 = .int .i64 ((((gd l x).Frame).Head).Tid):=rfl
theorem e_d_TStored_39 (l:List TStored) (x:Nat):enR d_TStored l x 39 = .int .u8 ((((gd l x).Frame).Head).Ack):=rfl
theorem e_d_TStored_40 (l:List TStored) (x:Nat):enR d_TStored l x 40 = .bool ((((gd l x).Frame).Head).Amsdu):=rfl
theorem e_d_TStored_41 (l:List TStored) (x:Nat):enR d_TStored l x 41 = .bool ((((gd l x).Frame).Head).Eosp):=rfl
theorem e_d_TStored_42 (l:List TStored) (x:Nat):enR d_TStored l x 42 = .ro 1 (((gd l x).Frame).Body).length false (enR d_u8 (((gd l x).Frame).Body)):=rfl
theorem fit_d_TStored (n:Nat) (l:List TStored):Fit k_TStored n (enR d_TStored l)=True:=eq_true (Fit_enR kc_d_TStored)
theorem de_d_TStored (l:List TStored):deR g_TStored l.length (enR d_TStored l)=l:=deR_enR gc_d_TStored l
def s_TSleeper (a:TSleeper):List AV:=[.int .i64 a.Aid,.bool a.Asleep,.ro 43 a.Held.length false (enR d_TStored a.Held)]
def d_TSleeper (a:TSleeper):List AV:=s_TSleeper a ++ [.emp]
theorem ds_TSleeper (a:TSleeper) (y:Nat) (h:y < 3):getL (d_TSleeper a) y=getL (s_TSleeper a) y:=getL_app_lt h
theorem gc_d_TSleeper (a:TSleeper):g_TSleeper (getL (d_TSleeper a))=a:=by
 simp only [g_TSleeper,d_TSleeper,s_TSleeper,List.cons_append,List.nil_append,getL,iA,bA,sA,lA,deR_enR gc_d_TStored]
theorem kc_d_TSleeper (a:TSleeper):k_TSleeper (getL (d_TSleeper a)):=by
 simp only [k_TSleeper,d_TSleeper,s_TSleeper,List.cons_append,List.nil_append,getL,iK,bK,sK,lK,or_true,true_and,and_true,and_self,Fit_enR kc_d_TStored]
theorem nr_d_TSleeper (a:TSleeper):nrefL (d_TSleeper a):=by simp only [d_TSleeper,s_TSleeper,List.cons_append,List.nil_append,nrefL,nref,and_self]
instance:NRf d_TSleeper:=⟨nr_d_TSleeper⟩
instance:KCf k_TSleeper d_TSleeper:=⟨kc_d_TSleeper⟩
theorem e_d_TSleeper_0 (l:List TSleeper) (x:Nat):enR d_TSleeper l x 0 = .int .i64 ((gd l x).Aid):=rfl
theorem e_d_TSleeper_1 (l:List TSleeper) (x:Nat):enR d_TSleeper l x 1 = .bool ((gd l x).Asleep):=rfl
theorem e_d_TSleeper_2 (l:List TSleeper) (x:Nat):enR d_TSleeper l x 2 = .ro 43 ((gd l x).Held).length false (enR d_TStored ((gd l x).Held)):=rfl
theorem fit_d_TSleeper (n:Nat) (l:List TSleeper):Fit k_TSleeper n (enR d_TSleeper l)=True:=eq_true (Fit_enR kc_d_TSleeper)
theorem de_d_TSleeper (l:List TSleeper):deR g_TSleeper l.length (enR d_TSleeper l)=l:=deR_enR gc_d_TSleeper l
attribute [go_sem] e_d_u8_0 fit_d_u8 de_d_u8 e_d_TFrame_0 e_d_TFrame_1 e_d_TFrame_2 e_d_TFrame_3 e_d_TFrame_4 e_d_TFrame_5 e_d_TFrame_6 e_d_TFrame_7 e_d_TFrame_8 e_d_TFrame_9 e_d_TFrame_10 e_d_TFrame_11 e_d_TFrame_12 e_d_TFrame_13 e_d_TFrame_14 e_d_TFrame_15 e_d_TFrame_16 e_d_TFrame_17 e_d_TFrame_18 e_d_TFrame_19 e_d_TFrame_20 e_d_TFrame_21 e_d_TFrame_22 e_d_TFrame_23 e_d_TFrame_24 e_d_TFrame_25 e_d_TFrame_26 e_d_TFrame_27 e_d_TFrame_28 e_d_TFrame_29 e_d_TFrame_30 e_d_TFrame_31 e_d_TFrame_32 e_d_TFrame_33 e_d_TFrame_34 e_d_TFrame_35 e_d_TFrame_36 e_d_TFrame_37 e_d_TFrame_38 e_d_TFrame_39 e_d_TFrame_40 fit_d_TFrame de_d_TFrame e_d_TStored_0 e_d_TStored_1 e_d_TStored_2 e_d_TStored_3 e_d_TStored_4 e_d_TStored_5 e_d_TStored_6 e_d_TStored_7 e_d_TStored_8 e_d_TStored_9 e_d_TStored_10 e_d_TStored_11 e_d_TStored_12 e_d_TStored_13 e_d_TStored_14 e_d_TStored_15 e_d_TStored_16 e_d_TStored_17 e_d_TStored_18 e_d_TStored_19 e_d_TStored_20 e_d_TStored_21 e_d_TStored_22 e_d_TStored_23 e_d_TStored_24 e_d_TStored_25 e_d_TStored_26 e_d_TStored_27 e_d_TStored_28 e_d_TStored_29 e_d_TStored_30 e_d_TStored_31 e_d_TStored_32 e_d_TStored_33 e_d_TStored_34 e_d_TStored_35 e_d_TStored_36 e_d_TStored_37 e_d_TStored_38 e_d_TStored_39 e_d_TStored_40 e_d_TStored_41 e_d_TStored_42 fit_d_TStored de_d_TStored e_d_TSleeper_0 e_d_TSleeper_1 e_d_TSleeper_2 fit_d_TSleeper de_d_TSleeper
end Go.Proofs.Ytnclkplbeenmdaa

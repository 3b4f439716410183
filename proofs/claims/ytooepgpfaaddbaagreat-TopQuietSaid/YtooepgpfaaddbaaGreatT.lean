/-
  Facts of the types that the walks meet: sizes, places, zero values.
-/
import Derived.Test.YtooepgpfaaddbaaGreatPm10
import Derived.Test.YtooepgpfaaddbaaGreatProg
namespace Go.Proofs.YtooepgpfaaddbaaGreat
open Go.Am
set_option linter.unusedVariables false
theorem tsz3:tsz Tryz.prog 3=some 1:=by kernel_rfl
theorem tby3:tby Tryz.prog 3=some 8:=by kernel_rfl
theorem tagg3:tagg Tryz.prog 3=some false:=by kernel_rfl
theorem tzero3:tzero Tryz.prog 3=some [AV.int IntKind.i64 0]:=by kernel_rfl
theorem tzn3:tzn Tryz.prog 3=some 1:=by kernel_rfl
theorem tint3:tint Tryz.prog 3=some IntKind.i64:=by kernel_rfl
theorem tnoint3:tnoint Tryz.prog 3=false:=by kernel_rfl
theorem tany3:tany Tryz.prog 3=some true:=by kernel_rfl
theorem tintk3:tintk Tryz.prog 3=true:=by kernel_rfl
theorem tsz4:tsz Tryz.prog 4=some 1:=by kernel_rfl
theorem tagg4:tagg Tryz.prog 4=some false:=by kernel_rfl
theorem tzero4:tzero Tryz.prog 4=some [AV.bool false]:=by kernel_rfl
theorem tsz5:tsz Tryz.prog 5=some 1:=by kernel_rfl
theorem tby5:tby Tryz.prog 5=some 1:=by kernel_rfl
theorem tagg5:tagg Tryz.prog 5=some false:=by kernel_rfl
theorem tzero5:tzero Tryz.prog 5=some [AV.int IntKind.u8 0]:=by kernel_rfl
theorem tzn5:tzn Tryz.prog 5=some 1:=by kernel_rfl
theorem tint5:tint Tryz.prog 5=some IntKind.u8:=by kernel_rfl
theorem tany5:tany Tryz.prog 5=some true:=by kernel_rfl
theorem tsz22:tsz Tryz.prog 22=some 1:=by kernel_rfl
theorem tagg22:tagg Tryz.prog 22=some false:=by kernel_rfl
theorem tslice22:tslice Tryz.prog 22=some 35:=by kernel_rfl
theorem tarr22:tarr Tryz.prog 22=none:=by kernel_rfl
theorem tstr22:tstr Tryz.prog 22=false:=by kernel_rfl
theorem tnoint22:tnoint Tryz.prog 22=true:=by kernel_rfl
theorem tintk22:tintk Tryz.prog 22=false:=by kernel_rfl
theorem tslice23:tslice Tryz.prog 23=some 48:=by kernel_rfl
theorem tarr23:tarr Tryz.prog 23=none:=by kernel_rfl
theorem tstr23:tstr Tryz.prog 23=false:=by kernel_rfl
theorem tsz26:tsz Tryz.prog 26=some 1:=by kernel_rfl
theorem tagg26:tagg Tryz.prog 26=some false:=by kernel_rfl
theorem tslice26:tslice Tryz.prog 26=some 30:=by kernel_rfl
theorem tarr26:tarr Tryz.prog 26=none:=by kernel_rfl
theorem tzero26:tzero Tryz.prog 26=some [AV.ro 0 0 true fun x x_1=>AV.top]:=by kernel_rfl
theorem tnoint26:tnoint Tryz.prog 26=true:=by kernel_rfl
theorem tintk26:tintk Tryz.prog 26=false:=by kernel_rfl
theorem tsz27:tsz Tryz.prog 27=some 1:=by kernel_rfl
theorem tagg27:tagg Tryz.prog 27=some false:=by kernel_rfl
theorem tslice27:tslice Tryz.prog 27=some 97:=by kernel_rfl
theorem tarr27:tarr Tryz.prog 27=none:=by kernel_rfl
theorem tstr27:tstr Tryz.prog 27=false:=by kernel_rfl
theorem tnoint27:tnoint Tryz.prog 27=true:=by kernel_rfl
theorem tintk27:tintk Tryz.prog 27=false:=by kernel_rfl
theorem tsz28:tsz Tryz.prog 28=some 1:=by kernel_rfl
theorem tagg28:tagg Tryz.prog 28=some false:=by kernel_rfl
theorem tslice28:tslice Tryz.prog 28=some 3:=by kernel_rfl
theorem tarr28:tarr Tryz.prog 28=none:=by kernel_rfl
theorem tstr28:tstr Tryz.prog 28=false:=by kernel_rfl
theorem tnoint28:tnoint Tryz.prog 28=true:=by kernel_rfl
theorem tintk28:tintk Tryz.prog 28=false:=by kernel_rfl
theorem tsz30:tsz Tryz.prog 30=some 10:=by kernel_rfl
theorem tby30:tby Tryz.prog 30=some 120:=by kernel_rfl
theorem tagg30:tagg Tryz.prog 30=some true:=by kernel_rfl
theorem tarr30:tarr Tryz.prog 30=none:=by kernel_rfl
theorem tzero30:tzero Tryz.prog 30=some [AV.ro 0 0 true fun x x_1=>AV.top,AV.int IntKind.i64 0,AV.bool false,AV.int IntKind.i64 0,AV.bool false,AV.bool false,AV.int IntKind.i64 0,AV.int IntKind.i64 0,AV.ro 0 0 true fun x x_1=>AV.top,AV.ro 0 0 true fun x x_1=>AV.top]:=by kernel_rfl
theorem tzn30:tzn Tryz.prog 30=some 10:=by kernel_rfl
theorem tplaces30:tplaces Tryz.prog 30=some [(0,1),(1,1),(2,1),(3,1),(4,1),(5,1),(6,1),(7,1),(8,1),(9,1)]:=by kernel_rfl
theorem tfld30_0:tfld Tryz.prog 30 0=some (22,0,1):=by kernel_rfl
theorem tfld30_1:tfld Tryz.prog 30 1=some (3,1,1):=by kernel_rfl
theorem tfld30_2:tfld Tryz.prog 30 2=some (4,2,1):=by kernel_rfl
theorem tfld30_3:tfld Tryz.prog 30 3=some (3,3,1):=by kernel_rfl
theorem tfld30_4:tfld Tryz.prog 30 4=some (4,4,1):=by kernel_rfl
theorem tfld30_5:tfld Tryz.prog 30 5=some (4,5,1):=by kernel_rfl
theorem tfld30_6:tfld Tryz.prog 30 6=some (3,6,1):=by kernel_rfl
theorem tfld30_7:tfld Tryz.prog 30 7=some (3,7,1):=by kernel_rfl
theorem tfld30_8:tfld Tryz.prog 30 8=some (27,8,1):=by kernel_rfl
theorem tfld30_9:tfld Tryz.prog 30 9=some (28,9,1):=by kernel_rfl
theorem tsz31:tsz Tryz.prog 31=some 1:=by kernel_rfl
theorem tagg31:tagg Tryz.prog 31=some false:=by kernel_rfl
theorem tsz35:tsz Tryz.prog 35=some 3:=by kernel_rfl
theorem tby35:tby Tryz.prog 35=some 24:=by kernel_rfl
theorem tagg35:tagg Tryz.prog 35=some true:=by kernel_rfl
theorem tarr35:tarr Tryz.prog 35=none:=by kernel_rfl
theorem tzero35:tzero Tryz.prog 35=some [AV.int IntKind.i64 0,AV.int IntKind.i64 0,AV.bool false]:=by kernel_rfl
theorem tzn35:tzn Tryz.prog 35=some 3:=by kernel_rfl
theorem tplaces35:tplaces Tryz.prog 35=some [(0,1),(1,1),(2,1)]:=by kernel_rfl
theorem tfld35_0:tfld Tryz.prog 35 0=some (3,0,1):=by kernel_rfl
theorem tfld35_1:tfld Tryz.prog 35 1=some (3,1,1):=by kernel_rfl
theorem tfld35_2:tfld Tryz.prog 35 2=some (4,2,1):=by kernel_rfl
theorem tsz36:tsz Tryz.prog 36=some 1:=by kernel_rfl
theorem tagg36:tagg Tryz.prog 36=some false:=by kernel_rfl
theorem tslice36:tslice Tryz.prog 36=some 39:=by kernel_rfl
theorem tarr36:tarr Tryz.prog 36=none:=by kernel_rfl
theorem tzero36:tzero Tryz.prog 36=some [AV.ro 0 0 true fun x x_1=>AV.top]:=by kernel_rfl
theorem tstr36:tstr Tryz.prog 36=false:=by kernel_rfl
theorem tnoint36:tnoint Tryz.prog 36=true:=by kernel_rfl
theorem tintk36:tintk Tryz.prog 36=false:=by kernel_rfl
theorem tmapI37:tmapI Tryz.prog 37=true:=by kernel_rfl
theorem tsz37:tsz Tryz.prog 37=some 1:=by kernel_rfl
theorem tagg37:tagg Tryz.prog 37=some false:=by kernel_rfl
theorem tzero37:tzero Tryz.prog 37=some [AV.val (Value.map none)]:=by kernel_rfl
theorem tslice38:tslice Tryz.prog 38=some 43:=by kernel_rfl
theorem tarr38:tarr Tryz.prog 38=none:=by kernel_rfl
theorem tstr38:tstr Tryz.prog 38=false:=by kernel_rfl
theorem tsz39:tsz Tryz.prog 39=some 1:=by kernel_rfl
theorem tby39:tby Tryz.prog 39=some 24:=by kernel_rfl
theorem tagg39:tagg Tryz.prog 39=some false:=by kernel_rfl
theorem tslice39:tslice Tryz.prog 39=some 5:=by kernel_rfl
theorem tarr39:tarr Tryz.prog 39=none:=by kernel_rfl
theorem tzero39:tzero Tryz.prog 39=some [AV.ro 0 0 true fun x x_1=>AV.top]:=by kernel_rfl
theorem tzn39:tzn Tryz.prog 39=some 1:=by kernel_rfl
theorem tstr39:tstr Tryz.prog 39=false:=by kernel_rfl
theorem tnoint39:tnoint Tryz.prog 39=true:=by kernel_rfl
theorem tintk39:tintk Tryz.prog 39=false:=by kernel_rfl
theorem tsz43:tsz Tryz.prog 43=some 4:=by kernel_rfl
theorem tagg43:tagg Tryz.prog 43=some true:=by kernel_rfl
theorem tarr43:tarr Tryz.prog 43=none:=by kernel_rfl
theorem tzero43:tzero Tryz.prog 43=some [AV.int IntKind.u8 0,AV.int IntKind.i64 0,AV.int IntKind.i64 0,AV.int IntKind.i64 0]:=by kernel_rfl
theorem tplaces43:tplaces Tryz.prog 43=some [(0,1),(1,1),(2,1),(3,1)]:=by kernel_rfl
theorem tfld43_0:tfld Tryz.prog 43 0=some (5,0,1):=by kernel_rfl
theorem tfld43_1:tfld Tryz.prog 43 1=some (3,1,1):=by kernel_rfl
theorem tfld43_2:tfld Tryz.prog 43 2=some (3,2,1):=by kernel_rfl
theorem tfld43_3:tfld Tryz.prog 43 3=some (3,3,1):=by kernel_rfl
theorem tsz45:tsz Tryz.prog 45=some 6:=by kernel_rfl
theorem tagg45:tagg Tryz.prog 45=some true:=by kernel_rfl
theorem tslice45:tslice Tryz.prog 45=none:=by kernel_rfl
theorem tarr45:tarr Tryz.prog 45=some (6,5):=by kernel_rfl
theorem tzero45:tzero Tryz.prog 45=some [AV.int IntKind.u8 0,AV.int IntKind.u8 0,AV.int IntKind.u8 0,AV.int IntKind.u8 0,AV.int IntKind.u8 0,AV.int IntKind.u8 0]:=by kernel_rfl
theorem tplaces45:tplaces Tryz.prog 45=none:=by kernel_rfl
theorem tsz48:tsz Tryz.prog 48=some 3:=by kernel_rfl
theorem tagg48:tagg Tryz.prog 48=some true:=by kernel_rfl
theorem tzero48:tzero Tryz.prog 48=some [AV.int IntKind.u8 0,AV.int IntKind.i64 0,AV.int IntKind.i64 0]:=by kernel_rfl
theorem tfld48_0:tfld Tryz.prog 48 0=some (5,0,1):=by kernel_rfl
theorem tfld48_1:tfld Tryz.prog 48 1=some (3,1,1):=by kernel_rfl
theorem tfld48_2:tfld Tryz.prog 48 2=some (3,2,1):=by kernel_rfl
theorem tint54:tint Tryz.prog 54=some IntKind.u64:=by kernel_rfl
theorem tany54:tany Tryz.prog 54=some true:=by kernel_rfl
theorem tsz65:tsz Tryz.prog 65=some 1:=by kernel_rfl
theorem tagg65:tagg Tryz.prog 65=some false:=by kernel_rfl
theorem tsz70:tsz Tryz.prog 70=some 4:=by kernel_rfl
theorem tagg70:tagg Tryz.prog 70=some true:=by kernel_rfl
theorem tarr70:tarr Tryz.prog 70=none:=by kernel_rfl
theorem tzero70:tzero Tryz.prog 70=some [AV.int IntKind.u8 0,AV.int IntKind.u8 0,AV.int IntKind.u8 0,AV.ro 0 0 true fun x x_1=>AV.top]:=by kernel_rfl
theorem tplaces70:tplaces Tryz.prog 70=some [(0,1),(1,1),(2,1),(3,1)]:=by kernel_rfl
theorem tfld70_0:tfld Tryz.prog 70 0=some (5,0,1):=by kernel_rfl
theorem tfld70_1:tfld Tryz.prog 70 1=some (5,1,1):=by kernel_rfl
theorem tfld70_2:tfld Tryz.prog 70 2=some (5,2,1):=by kernel_rfl
theorem tfld70_3:tfld Tryz.prog 70 3=some (39,3,1):=by kernel_rfl
theorem tsz73:tsz Tryz.prog 73=some 40:=by kernel_rfl
theorem tagg73:tagg Tryz.prog 73=some true:=by kernel_rfl
theorem tarr73:tarr Tryz.prog 73=none:=by kernel_rfl
theorem tzero73:tzero Tryz.prog 73=some [AV.int IntKind.u8 0,AV.int IntKind.u8 0,AV.bool false,AV.bool false,AV.bool false,AV.bool false,AV.bool false,AV.bool false,AV.bool false,AV.int IntKind.i64 0,AV.int IntKind.u8 0,AV.int IntKind.u8 0,AV.int IntKind.u8 0,AV.int IntKind.u8 0,AV.int IntKind.u8 0,AV.int IntKind.u8 0,AV.int IntKind.u8 0,AV.int IntKind.u8 0,AV.int IntKind.u8 0,AV.int IntKind.u8 0,AV.int IntKind.u8 0,AV.int IntKind.u8 0,AV.int IntKind.u8 0,AV.int IntKind.u8 0,AV.int IntKind.u8 0,AV.int IntKind.u8 0,AV.int IntKind.u8 0,AV.int IntKind.u8 0,AV.int IntKind.u8 0,AV.int IntKind.u8 0,AV.int IntKind.u8 0,AV.int IntKind.u8 0,AV.int IntKind.u8 0,AV.int IntKind.u8 0,AV.int IntKind.i64 0,AV.int IntKind.i64 0,AV.int IntKind.i64 0,AV.int IntKind.u8 0,AV.bool false,AV.bool false]:=by kernel_rfl
theorem tplaces73:tplaces Tryz.prog 73=some [(0,1),(1,1),(2,1),(3,1),(4,1),(5,1),(6,1),(7,1),(8,1),(9,1),(10,6),(16,6),(22,6),(28,6),(34,1),(35,1),(36,1),(37,1),(38,1),(39,1)]:=by kernel_rfl
theorem tfld73_0:tfld Tryz.prog 73 0=some (5,0,1):=by kernel_rfl
theorem tfld73_1:tfld Tryz.prog 73 1=some (5,1,1):=by kernel_rfl
theorem tfld73_2:tfld Tryz.prog 73 2=some (4,2,1):=by kernel_rfl
theorem tfld73_3:tfld Tryz.prog 73 3=some (4,3,1):=by kernel_rfl
theorem tfld73_4:tfld Tryz.prog 73 4=some (4,4,1):=by kernel_rfl
theorem tfld73_5:tfld Tryz.prog 73 5=some (4,5,1):=by kernel_rfl
theorem tfld73_6:tfld Tryz.prog 73 6=some (4,6,1):=by kernel_rfl
theorem tfld73_7:tfld Tryz.prog 73 7=some (4,7,1):=by kernel_rfl
theorem tfld73_8:tfld Tryz.prog 73 8=some (4,8,1):=by kernel_rfl
theorem tfld73_9:tfld Tryz.prog 73 9=some (3,9,1):=by kernel_rfl
theorem tfld73_10:tfld Tryz.prog 73 10=some (45,10,6):=by kernel_rfl
theorem tfld73_11:tfld Tryz.prog 73 11=some (45,16,6):=by kernel_rfl
theorem tfld73_12:tfld Tryz.prog 73 12=some (45,22,6):=by kernel_rfl
theorem tfld73_13:tfld Tryz.prog 73 13=some (45,28,6):=by kernel_rfl
theorem tfld73_14:tfld Tryz.prog 73 14=some (3,34,1):=by kernel_rfl
theorem tfld73_15:tfld Tryz.prog 73 15=some (3,35,1):=by kernel_rfl
theorem tfld73_16:tfld Tryz.prog 73 16=some (3,36,1):=by kernel_rfl
theorem tfld73_17:tfld Tryz.prog 73 17=some (5,37,1):=by kernel_rfl
theorem tfld73_18:tfld Tryz.prog 73 18=some (4,38,1):=by kernel_rfl
theorem tsz75:tsz Tryz.prog 75=some 41:=by kernel_rfl
theorem tagg75:tagg Tryz.prog 75=some true:=by kernel_rfl
theorem tarr75:tarr Tryz.prog 75=none:=by kernel_rfl
theorem tzero75:tzero Tryz.prog 75=some [AV.int IntKind.u8 0,AV.int IntKind.u8 0,AV.bool false,AV.bool false,AV.bool false,AV.bool false,AV.bool false,AV.bool false,AV.bool false,AV.int IntKind.i64 0,AV.int IntKind.u8 0,AV.int IntKind.u8 0,AV.int IntKind.u8 0,AV.int IntKind.u8 0,AV.int IntKind.u8 0,AV.int IntKind.u8 0,AV.int IntKind.u8 0,AV.int IntKind.u8 0,AV.int IntKind.u8 0,AV.int IntKind.u8 0,AV.int IntKind.u8 0,AV.int IntKind.u8 0,AV.int IntKind.u8 0,AV.int IntKind.u8 0,AV.int IntKind.u8 0,AV.int IntKind.u8 0,AV.int IntKind.u8 0,AV.int IntKind.u8 0,AV.int IntKind.u8 0,AV.int IntKind.u8 0,AV.int IntKind.u8 0,AV.int IntKind.u8 0,AV.int IntKind.u8 0,AV.int IntKind.u8 0,AV.int IntKind.i64 0,AV.int IntKind.i64 0,AV.int IntKind.i64 0,AV.int IntKind.u8 0,AV.bool false,AV.bool false,AV.ro 0 0 true fun x x_1=>AV.top]:=by kernel_rfl
theorem tplaces75:tplaces Tryz.prog 75=some [(0,40),(40,1)]:=by kernel_rfl
theorem tfld75_0:tfld Tryz.prog 75 0=some (73,0,40):=by kernel_rfl
theorem tfld75_1:tfld Tryz.prog 75 1=some (39,40,1):=by kernel_rfl
theorem tsz88:tsz Tryz.prog 88=some 1:=by kernel_rfl
theorem tagg88:tagg Tryz.prog 88=some false:=by kernel_rfl
theorem tsz89:tsz Tryz.prog 89=some 1:=by kernel_rfl
theorem tagg89:tagg Tryz.prog 89=some false:=by kernel_rfl
theorem tsz91:tsz Tryz.prog 91=some 2:=by kernel_rfl
theorem tzero91:tzero Tryz.prog 91=some [AV.nilf,AV.nilf]:=by kernel_rfl
theorem tfld91_0:tfld Tryz.prog 91 0=some (88,0,1):=by kernel_rfl
theorem tfld91_1:tfld Tryz.prog 91 1=some (89,1,1):=by kernel_rfl
theorem tmap892:tmap8 Tryz.prog 92=true:=by kernel_rfl
theorem tsz97:tsz Tryz.prog 97=some 2:=by kernel_rfl
theorem tby97:tby Tryz.prog 97=some 16:=by kernel_rfl
theorem tagg97:tagg Tryz.prog 97=some true:=by kernel_rfl
theorem tarr97:tarr Tryz.prog 97=none:=by kernel_rfl
theorem tzero97:tzero Tryz.prog 97=some [AV.int IntKind.i64 0,AV.int IntKind.i64 0]:=by kernel_rfl
theorem tzn97:tzn Tryz.prog 97=some 2:=by kernel_rfl
theorem tplaces97:tplaces Tryz.prog 97=some [(0,1),(1,1)]:=by kernel_rfl
theorem tfld97_0:tfld Tryz.prog 97 0=some (3,0,1):=by kernel_rfl
theorem tfld97_1:tfld Tryz.prog 97 1=some (3,1,1):=by kernel_rfl
theorem tint107:tint Tryz.prog 107=some IntKind.u64:=by kernel_rfl
theorem tany107:tany Tryz.prog 107=some true:=by kernel_rfl
theorem tarr110:tarr Tryz.prog 110=none:=by kernel_rfl
theorem tzero110:tzero Tryz.prog 110=some [AV.ro 0 0 true fun x x_1=>AV.top]:=by kernel_rfl
theorem tplaces110:tplaces Tryz.prog 110=some [(0,1)]:=by kernel_rfl
theorem tfld110_0:tfld Tryz.prog 110 0=some (39,0,1):=by kernel_rfl
theorem tarr126:tarr Tryz.prog 126=none:=by kernel_rfl
theorem tzero126:tzero Tryz.prog 126=some [AV.ro 0 0 true fun x x_1=>AV.top,AV.bool false]:=by kernel_rfl
theorem tplaces126:tplaces Tryz.prog 126=some [(0,1),(1,1)]:=by kernel_rfl
theorem tfld126_0:tfld Tryz.prog 126 0=some (39,0,1):=by kernel_rfl
theorem tfld126_1:tfld Tryz.prog 126 1=some (4,1,1):=by kernel_rfl
theorem tsz129:tsz Tryz.prog 129=some 3:=by kernel_rfl
theorem tagg129:tagg Tryz.prog 129=some true:=by kernel_rfl
theorem tarr129:tarr Tryz.prog 129=none:=by kernel_rfl
theorem tzero129:tzero Tryz.prog 129=some [AV.bool false,AV.bool false,AV.bool false]:=by kernel_rfl
theorem tplaces129:tplaces Tryz.prog 129=some [(0,1),(1,1),(2,1)]:=by kernel_rfl
theorem tfld129_1:tfld Tryz.prog 129 1=some (4,1,1):=by kernel_rfl
theorem tfld129_2:tfld Tryz.prog 129 2=some (4,2,1):=by kernel_rfl
theorem tslice133:tslice Tryz.prog 133=some 137:=by kernel_rfl
theorem tarr133:tarr Tryz.prog 133=none:=by kernel_rfl
theorem tstr133:tstr Tryz.prog 133=false:=by kernel_rfl
theorem tsz137:tsz Tryz.prog 137=some 1:=by kernel_rfl
theorem tagg137:tagg Tryz.prog 137=some false:=by kernel_rfl
theorem tsz141:tsz Tryz.prog 141=some 2:=by kernel_rfl
theorem tagg141:tagg Tryz.prog 141=some true:=by kernel_rfl
theorem tarr141:tarr Tryz.prog 141=none:=by kernel_rfl
theorem tzero141:tzero Tryz.prog 141=some [AV.ro 0 0 true fun x x_1=>AV.top,AV.int IntKind.i64 0]:=by kernel_rfl
theorem tplaces141:tplaces Tryz.prog 141=some [(0,1),(1,1)]:=by kernel_rfl
theorem tfld141_0:tfld Tryz.prog 141 0=some (39,0,1):=by kernel_rfl
theorem tfld141_1:tfld Tryz.prog 141 1=some (3,1,1):=by kernel_rfl
theorem tarr143:tarr Tryz.prog 143=none:=by kernel_rfl
theorem tzero143:tzero Tryz.prog 143=some [AV.ro 0 0 true fun x x_1=>AV.top,AV.int IntKind.i64 0,AV.int IntKind.i64 0]:=by kernel_rfl
theorem tplaces143:tplaces Tryz.prog 143=some [(0,2),(2,1)]:=by kernel_rfl
theorem tfld143_0:tfld Tryz.prog 143 0=some (141,0,2):=by kernel_rfl
theorem tfld143_1:tfld Tryz.prog 143 1=some (31,2,1):=by kernel_rfl
theorem tany154:tany Tryz.prog 154=some true:=by kernel_rfl
theorem tslice157:tslice Tryz.prog 157=some 4:=by kernel_rfl
theorem tarr157:tarr Tryz.prog 157=none:=by kernel_rfl
theorem tstr157:tstr Tryz.prog 157=false:=by kernel_rfl
theorem tsz168:tsz Tryz.prog 168=some 4:=by kernel_rfl
theorem tslice168:tslice Tryz.prog 168=none:=by kernel_rfl
theorem tarr168:tarr Tryz.prog 168=some (4,137):=by kernel_rfl
theorem tzero168:tzero Tryz.prog 168=some [AV.nilp,AV.nilp,AV.nilp,AV.nilp]:=by kernel_rfl
theorem tplaces168:tplaces Tryz.prog 168=none:=by kernel_rfl
end Go.Proofs.YtooepgpfaaddbaaGreat

/-
  Facts of the types that the walks meet: sizes, places, zero values.
-/
import Derived.Test.YtefiemaoacmdkaaPm10
import Derived.Test.YtefiemaoacmdkaaProg
namespace Go.Proofs.Ytefiemaoacmdkaa
open Go.Am
set_option linter.unusedVariables false
theorem tsz3:tsz Try.prog 3=some 1:=by kernel_rfl
theorem tagg3:tagg Try.prog 3=some false:=by kernel_rfl
theorem tint3:tint Try.prog 3=some IntKind.i64:=by kernel_rfl
theorem tnoint3:tnoint Try.prog 3=false:=by kernel_rfl
theorem tany3:tany Try.prog 3=some true:=by kernel_rfl
theorem tintk3:tintk Try.prog 3=true:=by kernel_rfl
theorem tsz4:tsz Try.prog 4=some 1:=by kernel_rfl
theorem tagg4:tagg Try.prog 4=some false:=by kernel_rfl
theorem tbool4:tbool Try.prog 4=true:=by kernel_rfl
theorem tsz5:tsz Try.prog 5=some 1:=by kernel_rfl
theorem tby5:tby Try.prog 5=some 1:=by kernel_rfl
theorem tagg5:tagg Try.prog 5=some false:=by kernel_rfl
theorem tzero5:tzero Try.prog 5=some [AV.int IntKind.u8 0]:=by kernel_rfl
theorem tzn5:tzn Try.prog 5=some 1:=by kernel_rfl
theorem tany5:tany Try.prog 5=some true:=by kernel_rfl
theorem tstr9:tstr Try.prog 9=true:=by kernel_rfl
theorem tsz22:tsz Try.prog 22=some 1:=by kernel_rfl
theorem tagg22:tagg Try.prog 22=some false:=by kernel_rfl
theorem tslice22:tslice Try.prog 22=some 57:=by kernel_rfl
theorem tarr22:tarr Try.prog 22=none:=by kernel_rfl
theorem tstr22:tstr Try.prog 22=false:=by kernel_rfl
theorem tnoint22:tnoint Try.prog 22=true:=by kernel_rfl
theorem tintk22:tintk Try.prog 22=false:=by kernel_rfl
theorem tsz23:tsz Try.prog 23=some 1:=by kernel_rfl
theorem tagg23:tagg Try.prog 23=some false:=by kernel_rfl
theorem tslice23:tslice Try.prog 23=some 61:=by kernel_rfl
theorem tarr23:tarr Try.prog 23=none:=by kernel_rfl
theorem tstr23:tstr Try.prog 23=false:=by kernel_rfl
theorem tnoint23:tnoint Try.prog 23=true:=by kernel_rfl
theorem tintk23:tintk Try.prog 23=false:=by kernel_rfl
theorem tsz25:tsz Try.prog 25=some 4:=by kernel_rfl
theorem tagg25:tagg Try.prog 25=some true:=by kernel_rfl
theorem tarr25:tarr Try.prog 25=none:=by kernel_rfl
theorem tzero25:tzero Try.prog 25=some [AV.int IntKind.i64 0,AV.int IntKind.i64 0,AV.ro 0 0 true fun x x_1=>AV.top,AV.ro 0 0 true fun x x_1=>AV.top]:=by kernel_rfl
theorem tplaces25:tplaces Try.prog 25=some [(0,1),(1,1),(2,1),(3,1)]:=by kernel_rfl
theorem tfld25_0:tfld Try.prog 25 0=some (3,0,1):=by kernel_rfl
theorem tfld25_1:tfld Try.prog 25 1=some (3,1,1):=by kernel_rfl
theorem tfld25_2:tfld Try.prog 25 2=some (22,2,1):=by kernel_rfl
theorem tfld25_3:tfld Try.prog 25 3=some (23,3,1):=by kernel_rfl
theorem tsz30:tsz Try.prog 30=some 40:=by kernel_rfl
theorem tagg30:tagg Try.prog 30=some true:=by kernel_rfl
theorem tfld30_7:tfld Try.prog 30 7=some (4,7,1):=by kernel_rfl
theorem tsz31:tsz Try.prog 31=some 1:=by kernel_rfl
theorem tagg31:tagg Try.prog 31=some false:=by kernel_rfl
theorem tslice31:tslice Try.prog 31=some 5:=by kernel_rfl
theorem tarr31:tarr Try.prog 31=none:=by kernel_rfl
theorem tstr31:tstr Try.prog 31=false:=by kernel_rfl
theorem tnoint31:tnoint Try.prog 31=true:=by kernel_rfl
theorem tintk31:tintk Try.prog 31=false:=by kernel_rfl
theorem tbytes31:tbytes Try.prog 31=true:=by kernel_rfl
theorem tsz33:tsz Try.prog 33=some 41:=by kernel_rfl
theorem tby33:tby Try.prog 33=some 104:=by kernel_rfl
theorem tagg33:tagg Try.prog 33=some true:=by kernel_rfl
theorem tarr33:tarr Try.prog 33=none:=by kernel_rfl
theorem tzero33:tzero Try.prog 33=some [AV.int IntKind.u8 0,AV.int IntKind.u8 0,AV.bool false,AV.bool false,AV.bool false,AV.bool false,AV.bool false,AV.bool false,AV.bool false,AV.int IntKind.i64 0,AV.int IntKind.u8 0,AV.int IntKind.u8 0,AV.int IntKind.u8 0,AV.int IntKind.u8 0,AV.int IntKind.u8 0,AV.int IntKind.u8 0,AV.int IntKind.u8 0,AV.int IntKind.u8 0,AV.int IntKind.u8 0,AV.int IntKind.u8 0,AV.int IntKind.u8 0,AV.int IntKind.u8 0,AV.int IntKind.u8 0,AV.int IntKind.u8 0,AV.int IntKind.u8 0,AV.int IntKind.u8 0,AV.int IntKind.u8 0,AV.int IntKind.u8 0,AV.int IntKind.u8 0,AV.int IntKind.u8 0,AV.int IntKind.u8 0,AV.int IntKind.u8 0,AV.int IntKind.u8 0,AV.int IntKind.u8 0,AV.int IntKind.i64 0,AV.int IntKind.i64 0,AV.int IntKind.i64 0,AV.int IntKind.u8 0,AV.bool false,AV.bool false,AV.ro 0 0 true fun x x_1=>AV.top]:=by kernel_rfl
theorem tzn33:tzn Try.prog 33=some 41:=by kernel_rfl
theorem tplaces33:tplaces Try.prog 33=some [(0,40),(40,1)]:=by kernel_rfl
theorem tfld33_0:tfld Try.prog 33 0=some (30,0,40):=by kernel_rfl
theorem tfld33_1:tfld Try.prog 33 1=some (31,40,1):=by kernel_rfl
theorem tsz52:tsz Try.prog 52=some 1:=by kernel_rfl
theorem tagg52:tagg Try.prog 52=some false:=by kernel_rfl
theorem tslice52:tslice Try.prog 52=some 33:=by kernel_rfl
theorem tarr52:tarr Try.prog 52=none:=by kernel_rfl
theorem tzero52:tzero Try.prog 52=some [AV.ro 0 0 true fun x x_1=>AV.top]:=by kernel_rfl
theorem tstr52:tstr Try.prog 52=false:=by kernel_rfl
theorem tnoint52:tnoint Try.prog 52=true:=by kernel_rfl
theorem tintk52:tintk Try.prog 52=false:=by kernel_rfl
theorem tsz57:tsz Try.prog 57=some 3:=by kernel_rfl
theorem tby57:tby Try.prog 57=some 40:=by kernel_rfl
theorem tagg57:tagg Try.prog 57=some true:=by kernel_rfl
theorem tarr57:tarr Try.prog 57=none:=by kernel_rfl
theorem tzero57:tzero Try.prog 57=some [AV.int IntKind.i64 0,AV.bool false,AV.ro 0 0 true fun x x_1=>AV.top]:=by kernel_rfl
theorem tzn57:tzn Try.prog 57=some 3:=by kernel_rfl
theorem tplaces57:tplaces Try.prog 57=some [(0,1),(1,1),(2,1)]:=by kernel_rfl
theorem tfld57_0:tfld Try.prog 57 0=some (3,0,1):=by kernel_rfl
theorem tfld57_1:tfld Try.prog 57 1=some (4,1,1):=by kernel_rfl
theorem tfld57_2:tfld Try.prog 57 2=some (23,2,1):=by kernel_rfl
theorem tsz61:tsz Try.prog 61=some 43:=by kernel_rfl
theorem tby61:tby Try.prog 61=some 120:=by kernel_rfl
theorem tagg61:tagg Try.prog 61=some true:=by kernel_rfl
theorem tarr61:tarr Try.prog 61=none:=by kernel_rfl
theorem tzero61:tzero Try.prog 61=some [AV.int IntKind.u8 0,AV.int IntKind.i64 0,AV.int IntKind.u8 0,AV.int IntKind.u8 0,AV.bool false,AV.bool false,AV.bool false,AV.bool false,AV.bool false,AV.bool false,AV.bool false,AV.int IntKind.i64 0,AV.int IntKind.u8 0,AV.int IntKind.u8 0,AV.int IntKind.u8 0,AV.int IntKind.u8 0,AV.int IntKind.u8 0,AV.int IntKind.u8 0,AV.int IntKind.u8 0,AV.int IntKind.u8 0,AV.int IntKind.u8 0,AV.int IntKind.u8 0,AV.int IntKind.u8 0,AV.int IntKind.u8 0,AV.int IntKind.u8 0,AV.int IntKind.u8 0,AV.int IntKind.u8 0,AV.int IntKind.u8 0,AV.int IntKind.u8 0,AV.int IntKind.u8 0,AV.int IntKind.u8 0,AV.int IntKind.u8 0,AV.int IntKind.u8 0,AV.int IntKind.u8 0,AV.int IntKind.u8 0,AV.int IntKind.u8 0,AV.int IntKind.i64 0,AV.int IntKind.i64 0,AV.int IntKind.i64 0,AV.int IntKind.u8 0,AV.bool false,AV.bool false,AV.ro 0 0 true fun x x_1=>AV.top]:=by kernel_rfl
theorem tzn61:tzn Try.prog 61=some 43:=by kernel_rfl
theorem tplaces61:tplaces Try.prog 61=some [(0,1),(1,1),(2,41)]:=by kernel_rfl
theorem tfld61_0:tfld Try.prog 61 0=some (5,0,1):=by kernel_rfl
theorem tfld61_1:tfld Try.prog 61 1=some (3,1,1):=by kernel_rfl
theorem tfld61_2:tfld Try.prog 61 2=some (33,2,41):=by kernel_rfl
theorem tsz70:tsz Try.prog 70=some 45:=by kernel_rfl
theorem tagg70:tagg Try.prog 70=some true:=by kernel_rfl
theorem tfld70_0:tfld Try.prog 70 0=some (3,0,1):=by kernel_rfl
theorem tfld70_1:tfld Try.prog 70 1=some (3,1,1):=by kernel_rfl
theorem tfld70_2:tfld Try.prog 70 2=some (5,2,1):=by kernel_rfl
theorem tfld70_3:tfld Try.prog 70 3=some (3,3,1):=by kernel_rfl
theorem tfld70_4:tfld Try.prog 70 4=some (33,4,41):=by kernel_rfl
theorem tint124:tint Try.prog 124=some IntKind.u64:=by kernel_rfl
theorem tany124:tany Try.prog 124=some true:=by kernel_rfl
end Go.Proofs.Ytefiemaoacmdkaa

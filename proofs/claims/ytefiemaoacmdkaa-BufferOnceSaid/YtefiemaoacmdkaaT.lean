/-
  Facts of the types that the walks meet: sizes, places, zero values.
-/
import Derived.Test.YtefiemaoacmdkaaPm10
import Derived.Test.YtefiemaoacmdkaaProg
namespace Go.Proofs.Ytefiemaoacmdkaa
open Go.Am
set_option linter.unusedVariables false
theorem tsz3:tsz Try.prog 3=some 1:=by kernel_rfl
theorem tby3:tby Try.prog 3=some 8:=by kernel_rfl
theorem tagg3:tagg Try.prog 3=some false:=by kernel_rfl
theorem tslice3:tslice Try.prog 3=none:=by kernel_rfl
theorem tarr3:tarr Try.prog 3=none:=by kernel_rfl
theorem tzero3:tzero Try.prog 3=some [AV.int IntKind.i64 0]:=by kernel_rfl
theorem tzn3:tzn Try.prog 3=some 1:=by kernel_rfl
theorem tplaces3:tplaces Try.prog 3=none:=by kernel_rfl
theorem tint3:tint Try.prog 3=some IntKind.i64:=by kernel_rfl
theorem tstr3:tstr Try.prog 3=false:=by kernel_rfl
theorem tnoint3:tnoint Try.prog 3=false:=by kernel_rfl
theorem tbool3:tbool Try.prog 3=false:=by kernel_rfl
theorem tany3:tany Try.prog 3=some true:=by kernel_rfl
theorem tintk3:tintk Try.prog 3=true:=by kernel_rfl
theorem tbytes3:tbytes Try.prog 3=false:=by kernel_rfl
theorem tsz4:tsz Try.prog 4=some 1:=by kernel_rfl
theorem tby4:tby Try.prog 4=some 1:=by kernel_rfl
theorem tagg4:tagg Try.prog 4=some false:=by kernel_rfl
theorem tslice4:tslice Try.prog 4=none:=by kernel_rfl
theorem tarr4:tarr Try.prog 4=none:=by kernel_rfl
theorem tzero4:tzero Try.prog 4=some [AV.bool false]:=by kernel_rfl
theorem tzn4:tzn Try.prog 4=some 1:=by kernel_rfl
theorem tplaces4:tplaces Try.prog 4=none:=by kernel_rfl
theorem tint4:tint Try.prog 4=none:=by kernel_rfl
theorem tstr4:tstr Try.prog 4=false:=by kernel_rfl
theorem tnoint4:tnoint Try.prog 4=false:=by kernel_rfl
theorem tbool4:tbool Try.prog 4=true:=by kernel_rfl
theorem tany4:tany Try.prog 4=some true:=by kernel_rfl
theorem tintk4:tintk Try.prog 4=false:=by kernel_rfl
theorem tbytes4:tbytes Try.prog 4=false:=by kernel_rfl
theorem tsz5:tsz Try.prog 5=some 1:=by kernel_rfl
theorem tby5:tby Try.prog 5=some 1:=by kernel_rfl
theorem tagg5:tagg Try.prog 5=some false:=by kernel_rfl
theorem tslice5:tslice Try.prog 5=none:=by kernel_rfl
theorem tarr5:tarr Try.prog 5=none:=by kernel_rfl
theorem tzero5:tzero Try.prog 5=some [AV.int IntKind.u8 0]:=by kernel_rfl
theorem tzn5:tzn Try.prog 5=some 1:=by kernel_rfl
theorem tplaces5:tplaces Try.prog 5=none:=by kernel_rfl
theorem tint5:tint Try.prog 5=some IntKind.u8:=by kernel_rfl
theorem tstr5:tstr Try.prog 5=false:=by kernel_rfl
theorem tnoint5:tnoint Try.prog 5=false:=by kernel_rfl
theorem tbool5:tbool Try.prog 5=false:=by kernel_rfl
theorem tany5:tany Try.prog 5=some true:=by kernel_rfl
theorem tintk5:tintk Try.prog 5=true:=by kernel_rfl
theorem tbytes5:tbytes Try.prog 5=false:=by kernel_rfl
theorem tsz9:tsz Try.prog 9=some 1:=by kernel_rfl
theorem tby9:tby Try.prog 9=some 16:=by kernel_rfl
theorem tagg9:tagg Try.prog 9=some false:=by kernel_rfl
theorem tslice9:tslice Try.prog 9=none:=by kernel_rfl
theorem tarr9:tarr Try.prog 9=none:=by kernel_rfl
theorem tzero9:tzero Try.prog 9=some [AV.str (ByteArray.mk #[])]:=by kernel_rfl
theorem tzn9:tzn Try.prog 9=some 1:=by kernel_rfl
theorem tplaces9:tplaces Try.prog 9=none:=by kernel_rfl
theorem tint9:tint Try.prog 9=none:=by kernel_rfl
theorem tstr9:tstr Try.prog 9=true:=by kernel_rfl
theorem tnoint9:tnoint Try.prog 9=true:=by kernel_rfl
theorem tbool9:tbool Try.prog 9=false:=by kernel_rfl
theorem tany9:tany Try.prog 9=some true:=by kernel_rfl
theorem tintk9:tintk Try.prog 9=false:=by kernel_rfl
theorem tbytes9:tbytes Try.prog 9=false:=by kernel_rfl
theorem tsz22:tsz Try.prog 22=some 1:=by kernel_rfl
theorem tby22:tby Try.prog 22=some 24:=by kernel_rfl
theorem tagg22:tagg Try.prog 22=some false:=by kernel_rfl
theorem tslice22:tslice Try.prog 22=some 57:=by kernel_rfl
theorem tarr22:tarr Try.prog 22=none:=by kernel_rfl
theorem tzero22:tzero Try.prog 22=some [AV.ro 0 0 true fun x x_1=>AV.top]:=by kernel_rfl
theorem tzn22:tzn Try.prog 22=some 1:=by kernel_rfl
theorem tplaces22:tplaces Try.prog 22=none:=by kernel_rfl
theorem tint22:tint Try.prog 22=none:=by kernel_rfl
theorem tstr22:tstr Try.prog 22=false:=by kernel_rfl
theorem tnoint22:tnoint Try.prog 22=true:=by kernel_rfl
theorem tbool22:tbool Try.prog 22=false:=by kernel_rfl
theorem tany22:tany Try.prog 22=some true:=by kernel_rfl
theorem tintk22:tintk Try.prog 22=false:=by kernel_rfl
theorem tbytes22:tbytes Try.prog 22=false:=by kernel_rfl
theorem tsz23:tsz Try.prog 23=some 1:=by kernel_rfl
theorem tby23:tby Try.prog 23=some 24:=by kernel_rfl
theorem tagg23:tagg Try.prog 23=some false:=by kernel_rfl
theorem tslice23:tslice Try.prog 23=some 61:=by kernel_rfl
theorem tarr23:tarr Try.prog 23=none:=by kernel_rfl
theorem tzero23:tzero Try.prog 23=some [AV.ro 0 0 true fun x x_1=>AV.top]:=by kernel_rfl
theorem tzn23:tzn Try.prog 23=some 1:=by kernel_rfl
theorem tplaces23:tplaces Try.prog 23=none:=by kernel_rfl
theorem tint23:tint Try.prog 23=none:=by kernel_rfl
theorem tstr23:tstr Try.prog 23=false:=by kernel_rfl
theorem tnoint23:tnoint Try.prog 23=true:=by kernel_rfl
theorem tbool23:tbool Try.prog 23=false:=by kernel_rfl
theorem tany23:tany Try.prog 23=some true:=by kernel_rfl
theorem tintk23:tintk Try.prog 23=false:=by kernel_rfl
theorem tbytes23:tbytes Try.prog 23=false:=by kernel_rfl
theorem tsz25:tsz Try.prog 25=some 4:=by kernel_rfl
theorem tby25:tby Try.prog 25=some 64:=by kernel_rfl
theorem tagg25:tagg Try.prog 25=some true:=by kernel_rfl
theorem tslice25:tslice Try.prog 25=none:=by kernel_rfl
theorem tarr25:tarr Try.prog 25=none:=by kernel_rfl
theorem tzero25:tzero Try.prog 25=some [AV.int IntKind.i64 0,AV.int IntKind.i64 0,AV.ro 0 0 true fun x x_1=>AV.top,AV.ro 0 0 true fun x x_1=>AV.top]:=by kernel_rfl
theorem tzn25:tzn Try.prog 25=some 4:=by kernel_rfl
theorem tplaces25:tplaces Try.prog 25=some [(0,1),(1,1),(2,1),(3,1)]:=by kernel_rfl
theorem tint25:tint Try.prog 25=none:=by kernel_rfl
theorem tstr25:tstr Try.prog 25=false:=by kernel_rfl
theorem tnoint25:tnoint Try.prog 25=false:=by kernel_rfl
theorem tbool25:tbool Try.prog 25=false:=by kernel_rfl
theorem tany25:tany Try.prog 25=some true:=by kernel_rfl
theorem tintk25:tintk Try.prog 25=false:=by kernel_rfl
theorem tbytes25:tbytes Try.prog 25=false:=by kernel_rfl
theorem tfld25_0:tfld Try.prog 25 0=some (3,0,1):=by kernel_rfl
theorem tfld25_1:tfld Try.prog 25 1=some (3,1,1):=by kernel_rfl
theorem tfld25_2:tfld Try.prog 25 2=some (22,2,1):=by kernel_rfl
theorem tfld25_3:tfld Try.prog 25 3=some (23,3,1):=by kernel_rfl
theorem tsz28:tsz Try.prog 28=some 6:=by kernel_rfl
theorem tby28:tby Try.prog 28=some 6:=by kernel_rfl
theorem tagg28:tagg Try.prog 28=some true:=by kernel_rfl
theorem tslice28:tslice Try.prog 28=none:=by kernel_rfl
theorem tarr28:tarr Try.prog 28=some (6,5):=by kernel_rfl
theorem tzero28:tzero Try.prog 28=some [AV.int IntKind.u8 0,AV.int IntKind.u8 0,AV.int IntKind.u8 0,AV.int IntKind.u8 0,AV.int IntKind.u8 0,AV.int IntKind.u8 0]:=by kernel_rfl
theorem tzn28:tzn Try.prog 28=some 6:=by kernel_rfl
theorem tplaces28:tplaces Try.prog 28=none:=by kernel_rfl
theorem tint28:tint Try.prog 28=none:=by kernel_rfl
theorem tstr28:tstr Try.prog 28=false:=by kernel_rfl
theorem tnoint28:tnoint Try.prog 28=false:=by kernel_rfl
theorem tbool28:tbool Try.prog 28=false:=by kernel_rfl
theorem tany28:tany Try.prog 28=some true:=by kernel_rfl
theorem tintk28:tintk Try.prog 28=false:=by kernel_rfl
theorem tbytes28:tbytes Try.prog 28=false:=by kernel_rfl
theorem tsz30:tsz Try.prog 30=some 40:=by kernel_rfl
theorem tby30:tby Try.prog 30=some 80:=by kernel_rfl
theorem tagg30:tagg Try.prog 30=some true:=by kernel_rfl
theorem tslice30:tslice Try.prog 30=none:=by kernel_rfl
theorem tarr30:tarr Try.prog 30=none:=by kernel_rfl
theorem tzero30:tzero Try.prog 30=some [AV.int IntKind.u8 0,AV.int IntKind.u8 0,AV.bool false,AV.bool false,AV.bool false,AV.bool false,AV.bool false,AV.bool false,AV.bool false,AV.int IntKind.i64 0,AV.int IntKind.u8 0,AV.int IntKind.u8 0,AV.int IntKind.u8 0,AV.int IntKind.u8 0,AV.int IntKind.u8 0,AV.int IntKind.u8 0,AV.int IntKind.u8 0,AV.int IntKind.u8 0,AV.int IntKind.u8 0,AV.int IntKind.u8 0,AV.int IntKind.u8 0,AV.int IntKind.u8 0,AV.int IntKind.u8 0,AV.int IntKind.u8 0,AV.int IntKind.u8 0,AV.int IntKind.u8 0,AV.int IntKind.u8 0,AV.int IntKind.u8 0,AV.int IntKind.u8 0,AV.int IntKind.u8 0,AV.int IntKind.u8 0,AV.int IntKind.u8 0,AV.int IntKind.u8 0,AV.int IntKind.u8 0,AV.int IntKind.i64 0,AV.int IntKind.i64 0,AV.int IntKind.i64 0,AV.int IntKind.u8 0,AV.bool false,AV.bool false]:=by kernel_rfl
theorem tzn30:tzn Try.prog 30=some 40:=by kernel_rfl
theorem tplaces30:tplaces Try.prog 30=some [(0,1),(1,1),(2,1),(3,1),(4,1),(5,1),(6,1),(7,1),(8,1),(9,1),(10,6),(16,6),(22,6),(28,6),(34,1),(35,1),(36,1),(37,1),(38,1),(39,1)]:=by kernel_rfl
theorem tint30:tint Try.prog 30=none:=by kernel_rfl
theorem tstr30:tstr Try.prog 30=false:=by kernel_rfl
theorem tnoint30:tnoint Try.prog 30=false:=by kernel_rfl
theorem tbool30:tbool Try.prog 30=false:=by kernel_rfl
theorem tany30:tany Try.prog 30=some true:=by kernel_rfl
theorem tintk30:tintk Try.prog 30=false:=by kernel_rfl
theorem tbytes30:tbytes Try.prog 30=false:=by kernel_rfl
theorem tfld30_0:tfld Try.prog 30 0=some (5,0,1):=by kernel_rfl
theorem tfld30_1:tfld Try.prog 30 1=some (5,1,1):=by kernel_rfl
theorem tfld30_2:tfld Try.prog 30 2=some (4,2,1):=by kernel_rfl
theorem tfld30_3:tfld Try.prog 30 3=some (4,3,1):=by kernel_rfl
theorem tfld30_4:tfld Try.prog 30 4=some (4,4,1):=by kernel_rfl
theorem tfld30_5:tfld Try.prog 30 5=some (4,5,1):=by kernel_rfl
theorem tfld30_6:tfld Try.prog 30 6=some (4,6,1):=by kernel_rfl
theorem tfld30_7:tfld Try.prog 30 7=some (4,7,1):=by kernel_rfl
theorem tfld30_8:tfld Try.prog 30 8=some (4,8,1):=by kernel_rfl
theorem tfld30_9:tfld Try.prog 30 9=some (3,9,1):=by kernel_rfl
theorem tfld30_10:tfld Try.prog 30 10=some (28,10,6):=by kernel_rfl
theorem tfld30_11:tfld Try.prog 30 11=some (28,16,6):=by kernel_rfl
theorem tfld30_12:tfld Try.prog 30 12=some (28,22,6):=by kernel_rfl
theorem tfld30_13:tfld Try.prog 30 13=some (28,28,6):=by kernel_rfl
theorem tfld30_14:tfld Try.prog 30 14=some (3,34,1):=by kernel_rfl
theorem tfld30_15:tfld Try.prog 30 15=some (3,35,1):=by kernel_rfl
theorem tfld30_16:tfld Try.prog 30 16=some (3,36,1):=by kernel_rfl
theorem tfld30_17:tfld Try.prog 30 17=some (5,37,1):=by kernel_rfl
theorem tfld30_18:tfld Try.prog 30 18=some (4,38,1):=by kernel_rfl
theorem tfld30_19:tfld Try.prog 30 19=some (4,39,1):=by kernel_rfl
theorem tsz31:tsz Try.prog 31=some 1:=by kernel_rfl
theorem tby31:tby Try.prog 31=some 24:=by kernel_rfl
theorem tagg31:tagg Try.prog 31=some false:=by kernel_rfl
theorem tslice31:tslice Try.prog 31=some 5:=by kernel_rfl
theorem tarr31:tarr Try.prog 31=none:=by kernel_rfl
theorem tzero31:tzero Try.prog 31=some [AV.ro 0 0 true fun x x_1=>AV.top]:=by kernel_rfl
theorem tzn31:tzn Try.prog 31=some 1:=by kernel_rfl
theorem tplaces31:tplaces Try.prog 31=none:=by kernel_rfl
theorem tint31:tint Try.prog 31=none:=by kernel_rfl
theorem tstr31:tstr Try.prog 31=false:=by kernel_rfl
theorem tnoint31:tnoint Try.prog 31=true:=by kernel_rfl
theorem tbool31:tbool Try.prog 31=false:=by kernel_rfl
theorem tany31:tany Try.prog 31=some true:=by kernel_rfl
theorem tintk31:tintk Try.prog 31=false:=by kernel_rfl
theorem tbytes31:tbytes Try.prog 31=true:=by kernel_rfl
theorem tsz33:tsz Try.prog 33=some 41:=by kernel_rfl
theorem tby33:tby Try.prog 33=some 104:=by kernel_rfl
theorem tagg33:tagg Try.prog 33=some true:=by kernel_rfl
theorem tslice33:tslice Try.prog 33=none:=by kernel_rfl
theorem tarr33:tarr Try.prog 33=none:=by kernel_rfl
theorem tzero33:tzero Try.prog 33=some [AV.int IntKind.u8 0,AV.int IntKind.u8 0,AV.bool false,AV.bool false,AV.bool false,AV.bool false,AV.bool false,AV.bool false,AV.bool false,AV.int IntKind.i64 0,AV.int IntKind.u8 0,AV.int IntKind.u8 0,AV.int IntKind.u8 0,AV.int IntKind.u8 0,AV.int IntKind.u8 0,AV.int IntKind.u8 0,AV.int IntKind.u8 0,AV.int IntKind.u8 0,AV.int IntKind.u8 0,AV.int IntKind.u8 0,AV.int IntKind.u8 0,AV.int IntKind.u8 0,AV.int IntKind.u8 0,AV.int IntKind.u8 0,AV.int IntKind.u8 0,AV.int IntKind.u8 0,AV.int IntKind.u8 0,AV.int IntKind.u8 0,AV.int IntKind.u8 0,AV.int IntKind.u8 0,AV.int IntKind.u8 0,AV.int IntKind.u8 0,AV.int IntKind.u8 0,AV.int IntKind.u8 0,AV.int IntKind.i64 0,AV.int IntKind.i64 0,AV.int IntKind.i64 0,AV.int IntKind.u8 0,AV.bool false,AV.bool false,AV.ro 0 0 true fun x x_1=>AV.top]:=by kernel_rfl
theorem tzn33:tzn Try.prog 33=some 41:=by kernel_rfl
theorem tplaces33:tplaces Try.prog 33=some [(0,40),(40,1)]:=by kernel_rfl
theorem tint33:tint Try.prog 33=none:=by kernel_rfl
theorem tstr33:tstr Try.prog 33=false:=by kernel_rfl
theorem tnoint33:tnoint Try.prog 33=false:=by kernel_rfl
theorem tbool33:tbool Try.prog 33=false:=by kernel_rfl
theorem tany33:tany Try.prog 33=some true:=by kernel_rfl
theorem tintk33:tintk Try.prog 33=false:=by kernel_rfl
theorem tbytes33:tbytes Try.prog 33=false:=by kernel_rfl
theorem tfld33_0:tfld Try.prog 33 0=some (30,0,40):=by kernel_rfl
theorem tfld33_1:tfld Try.prog 33 1=some (31,40,1):=by kernel_rfl
theorem tsz34:tsz Try.prog 34=some 1:=by kernel_rfl
theorem tby34:tby Try.prog 34=some 8:=by kernel_rfl
theorem tagg34:tagg Try.prog 34=some false:=by kernel_rfl
theorem tslice34:tslice Try.prog 34=none:=by kernel_rfl
theorem tarr34:tarr Try.prog 34=none:=by kernel_rfl
theorem tzero34:tzero Try.prog 34=some [AV.int IntKind.i64 0]:=by kernel_rfl
theorem tzn34:tzn Try.prog 34=some 1:=by kernel_rfl
theorem tplaces34:tplaces Try.prog 34=none:=by kernel_rfl
theorem tint34:tint Try.prog 34=some IntKind.i64:=by kernel_rfl
theorem tstr34:tstr Try.prog 34=false:=by kernel_rfl
theorem tnoint34:tnoint Try.prog 34=false:=by kernel_rfl
theorem tbool34:tbool Try.prog 34=false:=by kernel_rfl
theorem tany34:tany Try.prog 34=some true:=by kernel_rfl
theorem tintk34:tintk Try.prog 34=true:=by kernel_rfl
theorem tbytes34:tbytes Try.prog 34=false:=by kernel_rfl
theorem tsz39:tsz Try.prog 39=some 1:=by kernel_rfl
theorem tby39:tby Try.prog 39=some 24:=by kernel_rfl
theorem tagg39:tagg Try.prog 39=some false:=by kernel_rfl
theorem tslice39:tslice Try.prog 39=some 3:=by kernel_rfl
theorem tarr39:tarr Try.prog 39=none:=by kernel_rfl
theorem tzero39:tzero Try.prog 39=some [AV.ro 0 0 true fun x x_1=>AV.top]:=by kernel_rfl
theorem tzn39:tzn Try.prog 39=some 1:=by kernel_rfl
theorem tplaces39:tplaces Try.prog 39=none:=by kernel_rfl
theorem tint39:tint Try.prog 39=none:=by kernel_rfl
theorem tstr39:tstr Try.prog 39=false:=by kernel_rfl
theorem tnoint39:tnoint Try.prog 39=true:=by kernel_rfl
theorem tbool39:tbool Try.prog 39=false:=by kernel_rfl
theorem tany39:tany Try.prog 39=some true:=by kernel_rfl
theorem tintk39:tintk Try.prog 39=false:=by kernel_rfl
theorem tbytes39:tbytes Try.prog 39=false:=by kernel_rfl
theorem tsz41:tsz Try.prog 41=some 2:=by kernel_rfl
theorem tby41:tby Try.prog 41=some 32:=by kernel_rfl
theorem tagg41:tagg Try.prog 41=some true:=by kernel_rfl
theorem tslice41:tslice Try.prog 41=none:=by kernel_rfl
theorem tarr41:tarr Try.prog 41=none:=by kernel_rfl
theorem tzero41:tzero Try.prog 41=some [AV.bool false,AV.ro 0 0 true fun x x_1=>AV.top]:=by kernel_rfl
theorem tzn41:tzn Try.prog 41=some 2:=by kernel_rfl
theorem tplaces41:tplaces Try.prog 41=some [(0,1),(1,1)]:=by kernel_rfl
theorem tint41:tint Try.prog 41=none:=by kernel_rfl
theorem tstr41:tstr Try.prog 41=false:=by kernel_rfl
theorem tnoint41:tnoint Try.prog 41=false:=by kernel_rfl
theorem tbool41:tbool Try.prog 41=false:=by kernel_rfl
theorem tany41:tany Try.prog 41=some true:=by kernel_rfl
theorem tintk41:tintk Try.prog 41=false:=by kernel_rfl
theorem tbytes41:tbytes Try.prog 41=false:=by kernel_rfl
theorem tfld41_0:tfld Try.prog 41 0=some (4,0,1):=by kernel_rfl
theorem tfld41_1:tfld Try.prog 41 1=some (39,1,1):=by kernel_rfl
theorem tsz52:tsz Try.prog 52=some 1:=by kernel_rfl
theorem tby52:tby Try.prog 52=some 24:=by kernel_rfl
theorem tagg52:tagg Try.prog 52=some false:=by kernel_rfl
theorem tslice52:tslice Try.prog 52=some 33:=by kernel_rfl
theorem tarr52:tarr Try.prog 52=none:=by kernel_rfl
theorem tzero52:tzero Try.prog 52=some [AV.ro 0 0 true fun x x_1=>AV.top]:=by kernel_rfl
theorem tzn52:tzn Try.prog 52=some 1:=by kernel_rfl
theorem tplaces52:tplaces Try.prog 52=none:=by kernel_rfl
theorem tint52:tint Try.prog 52=none:=by kernel_rfl
theorem tstr52:tstr Try.prog 52=false:=by kernel_rfl
theorem tnoint52:tnoint Try.prog 52=true:=by kernel_rfl
theorem tbool52:tbool Try.prog 52=false:=by kernel_rfl
theorem tany52:tany Try.prog 52=some true:=by kernel_rfl
theorem tintk52:tintk Try.prog 52=false:=by kernel_rfl
theorem tbytes52:tbytes Try.prog 52=false:=by kernel_rfl
theorem tsz57:tsz Try.prog 57=some 3:=by kernel_rfl
theorem tby57:tby Try.prog 57=some 40:=by kernel_rfl
theorem tagg57:tagg Try.prog 57=some true:=by kernel_rfl
theorem tslice57:tslice Try.prog 57=none:=by kernel_rfl
theorem tarr57:tarr Try.prog 57=none:=by kernel_rfl
theorem tzero57:tzero Try.prog 57=some [AV.int IntKind.i64 0,AV.bool false,AV.ro 0 0 true fun x x_1=>AV.top]:=by kernel_rfl
theorem tzn57:tzn Try.prog 57=some 3:=by kernel_rfl
theorem tplaces57:tplaces Try.prog 57=some [(0,1),(1,1),(2,1)]:=by kernel_rfl
theorem tint57:tint Try.prog 57=none:=by kernel_rfl
theorem tstr57:tstr Try.prog 57=false:=by kernel_rfl
theorem tnoint57:tnoint Try.prog 57=false:=by kernel_rfl
theorem tbool57:tbool Try.prog 57=false:=by kernel_rfl
theorem tany57:tany Try.prog 57=some true:=by kernel_rfl
theorem tintk57:tintk Try.prog 57=false:=by kernel_rfl
theorem tbytes57:tbytes Try.prog 57=false:=by kernel_rfl
theorem tfld57_0:tfld Try.prog 57 0=some (3,0,1):=by kernel_rfl
theorem tfld57_1:tfld Try.prog 57 1=some (4,1,1):=by kernel_rfl
theorem tfld57_2:tfld Try.prog 57 2=some (23,2,1):=by kernel_rfl
theorem tsz61:tsz Try.prog 61=some 43:=by kernel_rfl
theorem tby61:tby Try.prog 61=some 120:=by kernel_rfl
theorem tagg61:tagg Try.prog 61=some true:=by kernel_rfl
theorem tslice61:tslice Try.prog 61=none:=by kernel_rfl
theorem tarr61:tarr Try.prog 61=none:=by kernel_rfl
theorem tzero61:tzero Try.prog 61=some [AV.int IntKind.u8 0,AV.int IntKind.i64 0,AV.int IntKind.u8 0,AV.int IntKind.u8 0,AV.bool false,AV.bool false,AV.bool false,AV.bool false,AV.bool false,AV.bool false,AV.bool false,AV.int IntKind.i64 0,AV.int IntKind.u8 0,AV.int IntKind.u8 0,AV.int IntKind.u8 0,AV.int IntKind.u8 0,AV.int IntKind.u8 0,AV.int IntKind.u8 0,AV.int IntKind.u8 0,AV.int IntKind.u8 0,AV.int IntKind.u8 0,AV.int IntKind.u8 0,AV.int IntKind.u8 0,AV.int IntKind.u8 0,AV.int IntKind.u8 0,AV.int IntKind.u8 0,AV.int IntKind.u8 0,AV.int IntKind.u8 0,AV.int IntKind.u8 0,AV.int IntKind.u8 0,AV.int IntKind.u8 0,AV.int IntKind.u8 0,AV.int IntKind.u8 0,AV.int IntKind.u8 0,AV.int IntKind.u8 0,AV.int IntKind.u8 0,AV.int IntKind.i64 0,AV.int IntKind.i64 0,AV.int IntKind.i64 0,AV.int IntKind.u8 0,AV.bool false,AV.bool false,AV.ro 0 0 true fun x x_1=>AV.top]:=by kernel_rfl
theorem tzn61:tzn Try.prog 61=some 43:=by kernel_rfl
theorem tplaces61:tplaces Try.prog 61=some [(0,1),(1,1),(2,41)]:=by kernel_rfl
theorem tint61:tint Try.prog 61=none:=by kernel_rfl
theorem tstr61:tstr Try.prog 61=false:=by kernel_rfl
theorem tnoint61:tnoint Try.prog 61=false:=by kernel_rfl
theorem tbool61:tbool Try.prog 61=false:=by kernel_rfl
theorem tany61:tany Try.prog 61=some true:=by kernel_rfl
theorem tintk61:tintk Try.prog 61=false:=by kernel_rfl
theorem tbytes61:tbytes Try.prog 61=false:=by kernel_rfl
theorem tfld61_0:tfld Try.prog 61 0=some (5,0,1):=by kernel_rfl
theorem tfld61_1:tfld Try.prog 61 1=some (3,1,1):=by kernel_rfl
theorem tfld61_2:tfld Try.prog 61 2=some (33,2,41):=by kernel_rfl
theorem tsz70:tsz Try.prog 70=some 45:=by kernel_rfl
theorem tby70:tby Try.prog 70=some 136:=by kernel_rfl
theorem tagg70:tagg Try.prog 70=some true:=by kernel_rfl
theorem tslice70:tslice Try.prog 70=none:=by kernel_rfl
theorem tarr70:tarr Try.prog 70=none:=by kernel_rfl
theorem tzero70:tzero Try.prog 70=some [AV.int IntKind.i64 0,AV.int IntKind.i64 0,AV.int IntKind.u8 0,AV.int IntKind.i64 0,AV.int IntKind.u8 0,AV.int IntKind.u8 0,AV.bool false,AV.bool false,AV.bool false,AV.bool false,AV.bool false,AV.bool false,AV.bool false,AV.int IntKind.i64 0,AV.int IntKind.u8 0,AV.int IntKind.u8 0,AV.int IntKind.u8 0,AV.int IntKind.u8 0,AV.int IntKind.u8 0,AV.int IntKind.u8 0,AV.int IntKind.u8 0,AV.int IntKind.u8 0,AV.int IntKind.u8 0,AV.int IntKind.u8 0,AV.int IntKind.u8 0,AV.int IntKind.u8 0,AV.int IntKind.u8 0,AV.int IntKind.u8 0,AV.int IntKind.u8 0,AV.int IntKind.u8 0,AV.int IntKind.u8 0,AV.int IntKind.u8 0,AV.int IntKind.u8 0,AV.int IntKind.u8 0,AV.int IntKind.u8 0,AV.int IntKind.u8 0,AV.int IntKind.u8 0,AV.int IntKind.u8 0,AV.int IntKind.i64 0,AV.int IntKind.i64 0,AV.int IntKind.i64 0,AV.int IntKind.u8 0,AV.bool false,AV.bool false,AV.ro 0 0 true fun x x_1=>AV.top]:=by kernel_rfl
theorem tzn70:tzn Try.prog 70=some 45:=by kernel_rfl
theorem tplaces70:tplaces Try.prog 70=some [(0,1),(1,1),(2,1),(3,1),(4,41)]:=by kernel_rfl
theorem tint70:tint Try.prog 70=none:=by kernel_rfl
theorem tstr70:tstr Try.prog 70=false:=by kernel_rfl
theorem tnoint70:tnoint Try.prog 70=false:=by kernel_rfl
theorem tbool70:tbool Try.prog 70=false:=by kernel_rfl
theorem tany70:tany Try.prog 70=some true:=by kernel_rfl
theorem tintk70:tintk Try.prog 70=false:=by kernel_rfl
theorem tbytes70:tbytes Try.prog 70=false:=by kernel_rfl
theorem tfld70_0:tfld Try.prog 70 0=some (3,0,1):=by kernel_rfl
theorem tfld70_1:tfld Try.prog 70 1=some (3,1,1):=by kernel_rfl
theorem tfld70_2:tfld Try.prog 70 2=some (5,2,1):=by kernel_rfl
theorem tfld70_3:tfld Try.prog 70 3=some (3,3,1):=by kernel_rfl
theorem tfld70_4:tfld Try.prog 70 4=some (33,4,41):=by kernel_rfl
theorem tsz81:tsz Try.prog 81=some 1:=by kernel_rfl
theorem tby81:tby Try.prog 81=some 24:=by kernel_rfl
theorem tagg81:tagg Try.prog 81=some false:=by kernel_rfl
theorem tslice81:tslice Try.prog 81=some 70:=by kernel_rfl
theorem tarr81:tarr Try.prog 81=none:=by kernel_rfl
theorem tzero81:tzero Try.prog 81=some [AV.ro 0 0 true fun x x_1=>AV.top]:=by kernel_rfl
theorem tzn81:tzn Try.prog 81=some 1:=by kernel_rfl
theorem tplaces81:tplaces Try.prog 81=none:=by kernel_rfl
theorem tint81:tint Try.prog 81=none:=by kernel_rfl
theorem tstr81:tstr Try.prog 81=false:=by kernel_rfl
theorem tnoint81:tnoint Try.prog 81=true:=by kernel_rfl
theorem tbool81:tbool Try.prog 81=false:=by kernel_rfl
theorem tany81:tany Try.prog 81=some true:=by kernel_rfl
theorem tintk81:tintk Try.prog 81=false:=by kernel_rfl
theorem tbytes81:tbytes Try.prog 81=false:=by kernel_rfl
theorem tsz82:tsz Try.prog 82=some 1024:=by kernel_rfl
theorem tby82:tby Try.prog 82=some 8192:=by kernel_rfl
theorem tagg82:tagg Try.prog 82=some true:=by kernel_rfl
theorem tslice82:tslice Try.prog 82=none:=by kernel_rfl
theorem tarr82:tarr Try.prog 82=some (1024,3):=by kernel_rfl
theorem tzn82:tzn Try.prog 82=some 1024:=by kernel_rfl
theorem tplaces82:tplaces Try.prog 82=none:=by kernel_rfl
theorem tint82:tint Try.prog 82=none:=by kernel_rfl
theorem tstr82:tstr Try.prog 82=false:=by kernel_rfl
theorem tnoint82:tnoint Try.prog 82=false:=by kernel_rfl
theorem tbool82:tbool Try.prog 82=false:=by kernel_rfl
theorem tany82:tany Try.prog 82=some true:=by kernel_rfl
theorem tintk82:tintk Try.prog 82=false:=by kernel_rfl
theorem tbytes82:tbytes Try.prog 82=false:=by kernel_rfl
theorem tsz95:tsz Try.prog 95=some 1:=by kernel_rfl
theorem tby95:tby Try.prog 95=some 8:=by kernel_rfl
theorem tagg95:tagg Try.prog 95=some false:=by kernel_rfl
theorem tslice95:tslice Try.prog 95=none:=by kernel_rfl
theorem tarr95:tarr Try.prog 95=none:=by kernel_rfl
theorem tzero95:tzero Try.prog 95=some [AV.nilp]:=by kernel_rfl
theorem tzn95:tzn Try.prog 95=some 1:=by kernel_rfl
theorem tplaces95:tplaces Try.prog 95=none:=by kernel_rfl
theorem tint95:tint Try.prog 95=none:=by kernel_rfl
theorem tstr95:tstr Try.prog 95=false:=by kernel_rfl
theorem tnoint95:tnoint Try.prog 95=false:=by kernel_rfl
theorem tbool95:tbool Try.prog 95=false:=by kernel_rfl
theorem tany95:tany Try.prog 95=some true:=by kernel_rfl
theorem tintk95:tintk Try.prog 95=false:=by kernel_rfl
theorem tbytes95:tbytes Try.prog 95=false:=by kernel_rfl
theorem tsz96:tsz Try.prog 96=some 1:=by kernel_rfl
theorem tby96:tby Try.prog 96=some 8:=by kernel_rfl
theorem tagg96:tagg Try.prog 96=some false:=by kernel_rfl
theorem tslice96:tslice Try.prog 96=none:=by kernel_rfl
theorem tarr96:tarr Try.prog 96=none:=by kernel_rfl
theorem tzero96:tzero Try.prog 96=some [AV.nilp]:=by kernel_rfl
theorem tzn96:tzn Try.prog 96=some 1:=by kernel_rfl
theorem tplaces96:tplaces Try.prog 96=none:=by kernel_rfl
theorem tint96:tint Try.prog 96=none:=by kernel_rfl
theorem tstr96:tstr Try.prog 96=false:=by kernel_rfl
theorem tnoint96:tnoint Try.prog 96=false:=by kernel_rfl
theorem tbool96:tbool Try.prog 96=false:=by kernel_rfl
theorem tany96:tany Try.prog 96=some true:=by kernel_rfl
theorem tintk96:tintk Try.prog 96=false:=by kernel_rfl
theorem tbytes96:tbytes Try.prog 96=false:=by kernel_rfl
theorem tsz103:tsz Try.prog 103=some 1:=by kernel_rfl
theorem tby103:tby Try.prog 103=some 8:=by kernel_rfl
theorem tagg103:tagg Try.prog 103=some false:=by kernel_rfl
theorem tslice103:tslice Try.prog 103=none:=by kernel_rfl
theorem tarr103:tarr Try.prog 103=none:=by kernel_rfl
theorem tzero103:tzero Try.prog 103=some [AV.nilf]:=by kernel_rfl
theorem tzn103:tzn Try.prog 103=some 1:=by kernel_rfl
theorem tplaces103:tplaces Try.prog 103=none:=by kernel_rfl
theorem tint103:tint Try.prog 103=none:=by kernel_rfl
theorem tstr103:tstr Try.prog 103=false:=by kernel_rfl
theorem tnoint103:tnoint Try.prog 103=false:=by kernel_rfl
theorem tbool103:tbool Try.prog 103=false:=by kernel_rfl
theorem tany103:tany Try.prog 103=some true:=by kernel_rfl
theorem tintk103:tintk Try.prog 103=false:=by kernel_rfl
theorem tbytes103:tbytes Try.prog 103=false:=by kernel_rfl
theorem tsz105:tsz Try.prog 105=some 1:=by kernel_rfl
theorem tby105:tby Try.prog 105=some 8:=by kernel_rfl
theorem tagg105:tagg Try.prog 105=some false:=by kernel_rfl
theorem tslice105:tslice Try.prog 105=none:=by kernel_rfl
theorem tarr105:tarr Try.prog 105=none:=by kernel_rfl
theorem tzero105:tzero Try.prog 105=some [AV.nilf]:=by kernel_rfl
theorem tzn105:tzn Try.prog 105=some 1:=by kernel_rfl
theorem tplaces105:tplaces Try.prog 105=none:=by kernel_rfl
theorem tint105:tint Try.prog 105=none:=by kernel_rfl
theorem tstr105:tstr Try.prog 105=false:=by kernel_rfl
theorem tnoint105:tnoint Try.prog 105=false:=by kernel_rfl
theorem tbool105:tbool Try.prog 105=false:=by kernel_rfl
theorem tany105:tany Try.prog 105=some true:=by kernel_rfl
theorem tintk105:tintk Try.prog 105=false:=by kernel_rfl
theorem tbytes105:tbytes Try.prog 105=false:=by kernel_rfl
theorem tsz110:tsz Try.prog 110=some 1:=by kernel_rfl
theorem tby110:tby Try.prog 110=some 8:=by kernel_rfl
theorem tagg110:tagg Try.prog 110=some false:=by kernel_rfl
theorem tslice110:tslice Try.prog 110=none:=by kernel_rfl
theorem tarr110:tarr Try.prog 110=none:=by kernel_rfl
theorem tzero110:tzero Try.prog 110=some [AV.nilp]:=by kernel_rfl
theorem tzn110:tzn Try.prog 110=some 1:=by kernel_rfl
theorem tplaces110:tplaces Try.prog 110=none:=by kernel_rfl
theorem tint110:tint Try.prog 110=none:=by kernel_rfl
theorem tstr110:tstr Try.prog 110=false:=by kernel_rfl
theorem tnoint110:tnoint Try.prog 110=false:=by kernel_rfl
theorem tbool110:tbool Try.prog 110=false:=by kernel_rfl
theorem tany110:tany Try.prog 110=some true:=by kernel_rfl
theorem tintk110:tintk Try.prog 110=false:=by kernel_rfl
theorem tbytes110:tbytes Try.prog 110=false:=by kernel_rfl
theorem tsz112:tsz Try.prog 112=some 1:=by kernel_rfl
theorem tby112:tby Try.prog 112=some 8:=by kernel_rfl
theorem tagg112:tagg Try.prog 112=some false:=by kernel_rfl
theorem tslice112:tslice Try.prog 112=none:=by kernel_rfl
theorem tarr112:tarr Try.prog 112=none:=by kernel_rfl
theorem tzero112:tzero Try.prog 112=some [AV.nilf]:=by kernel_rfl
theorem tzn112:tzn Try.prog 112=some 1:=by kernel_rfl
theorem tplaces112:tplaces Try.prog 112=none:=by kernel_rfl
theorem tint112:tint Try.prog 112=none:=by kernel_rfl
theorem tstr112:tstr Try.prog 112=false:=by kernel_rfl
theorem tnoint112:tnoint Try.prog 112=false:=by kernel_rfl
theorem tbool112:tbool Try.prog 112=false:=by kernel_rfl
theorem tany112:tany Try.prog 112=some true:=by kernel_rfl
theorem tintk112:tintk Try.prog 112=false:=by kernel_rfl
theorem tbytes112:tbytes Try.prog 112=false:=by kernel_rfl
theorem tsz124:tsz Try.prog 124=some 1:=by kernel_rfl
theorem tby124:tby Try.prog 124=some 8:=by kernel_rfl
theorem tagg124:tagg Try.prog 124=some false:=by kernel_rfl
theorem tslice124:tslice Try.prog 124=none:=by kernel_rfl
theorem tarr124:tarr Try.prog 124=none:=by kernel_rfl
theorem tzero124:tzero Try.prog 124=some [AV.int IntKind.u64 0]:=by kernel_rfl
theorem tzn124:tzn Try.prog 124=some 1:=by kernel_rfl
theorem tplaces124:tplaces Try.prog 124=none:=by kernel_rfl
theorem tint124:tint Try.prog 124=some IntKind.u64:=by kernel_rfl
theorem tstr124:tstr Try.prog 124=false:=by kernel_rfl
theorem tnoint124:tnoint Try.prog 124=false:=by kernel_rfl
theorem tbool124:tbool Try.prog 124=false:=by kernel_rfl
theorem tany124:tany Try.prog 124=some true:=by kernel_rfl
theorem tintk124:tintk Try.prog 124=true:=by kernel_rfl
theorem tbytes124:tbytes Try.prog 124=false:=by kernel_rfl
theorem tsz129:tsz Try.prog 129=some 1:=by kernel_rfl
theorem tby129:tby Try.prog 129=some 8:=by kernel_rfl
theorem tagg129:tagg Try.prog 129=some false:=by kernel_rfl
theorem tslice129:tslice Try.prog 129=none:=by kernel_rfl
theorem tarr129:tarr Try.prog 129=none:=by kernel_rfl
theorem tzero129:tzero Try.prog 129=some [AV.nilf]:=by kernel_rfl
theorem tzn129:tzn Try.prog 129=some 1:=by kernel_rfl
theorem tplaces129:tplaces Try.prog 129=none:=by kernel_rfl
theorem tint129:tint Try.prog 129=none:=by kernel_rfl
theorem tstr129:tstr Try.prog 129=false:=by kernel_rfl
theorem tnoint129:tnoint Try.prog 129=false:=by kernel_rfl
theorem tbool129:tbool Try.prog 129=false:=by kernel_rfl
theorem tany129:tany Try.prog 129=some true:=by kernel_rfl
theorem tintk129:tintk Try.prog 129=false:=by kernel_rfl
theorem tbytes129:tbytes Try.prog 129=false:=by kernel_rfl
theorem tsz142:tsz Try.prog 142=some 1:=by kernel_rfl
theorem tby142:tby Try.prog 142=some 8:=by kernel_rfl
theorem tagg142:tagg Try.prog 142=some false:=by kernel_rfl
theorem tslice142:tslice Try.prog 142=none:=by kernel_rfl
theorem tarr142:tarr Try.prog 142=none:=by kernel_rfl
theorem tzero142:tzero Try.prog 142=some [AV.nilf]:=by kernel_rfl
theorem tzn142:tzn Try.prog 142=some 1:=by kernel_rfl
theorem tplaces142:tplaces Try.prog 142=none:=by kernel_rfl
theorem tint142:tint Try.prog 142=none:=by kernel_rfl
theorem tstr142:tstr Try.prog 142=false:=by kernel_rfl
theorem tnoint142:tnoint Try.prog 142=false:=by kernel_rfl
theorem tbool142:tbool Try.prog 142=false:=by kernel_rfl
theorem tany142:tany Try.prog 142=some true:=by kernel_rfl
theorem tintk142:tintk Try.prog 142=false:=by kernel_rfl
theorem tbytes142:tbytes Try.prog 142=false:=by kernel_rfl
end Go.Proofs.Ytefiemaoacmdkaa

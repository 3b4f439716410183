/-
  Facts of the types that the walks meet: sizes, places, zero values.
-/
import Derived.Test.YtnclkplbeenmdaaPm10
import Derived.Test.YtnclkplbeenmdaaProg
namespace Go.Proofs.Ytnclkplbeenmdaa
open Go.Am
set_option linter.unusedVariables false
theorem tsz3:tsz Try.prog 3=some 1:=by kernel_rfl
theorem tby3:tby Try.prog 3=some 8:=by kernel_rfl
theorem tagg3:tagg Try.prog 3=some false:=by kernel_rfl
theorem tslice3:tslice Try.prog 3=none:=by kernel_rfl
theorem tarr3:tarr Try.prog 3=none:=by kernel_rfl
theorem tzero3:tzero Try.prog 3=some [AV.int IntKind.i64 0]:=by kernel_rfl
theorem tzn3:tzn Try.prog 3=some 1:=by kernel_rfl
theorem tplaces3:tplaces Try.prog 3=none:=by kernel_rfl
theorem tint3:tint Try.prog 3=some IntKind.i64:=by kernel_rfl
theorem tstr3:tstr Try.prog 3=false:=by kernel_rfl
theorem tnoint3:tnoint Try.prog 3=false:=by kernel_rfl
theorem tbool3:tbool Try.prog 3=false:=by kernel_rfl
theorem tany3:tany Try.prog 3=some true:=by kernel_rfl
theorem tintk3:tintk Try.prog 3=true:=by kernel_rfl
theorem tbytes3:tbytes Try.prog 3=false:=by kernel_rfl
theorem tsz4:tsz Try.prog 4=some 1:=by kernel_rfl
theorem tby4:tby Try.prog 4=some 1:=by kernel_rfl
theorem tagg4:tagg Try.prog 4=some false:=by kernel_rfl
theorem tslice4:tslice Try.prog 4=none:=by kernel_rfl
theorem tarr4:tarr Try.prog 4=none:=by kernel_rfl
theorem tzero4:tzero Try.prog 4=some [AV.bool false]:=by kernel_rfl
theorem tzn4:tzn Try.prog 4=some 1:=by kernel_rfl
theorem tplaces4:tplaces Try.prog 4=none:=by kernel_rfl
theorem tint4:tint Try.prog 4=none:=by kernel_rfl
theorem tstr4:tstr Try.prog 4=false:=by kernel_rfl
theorem tnoint4:tnoint Try.prog 4=false:=by kernel_rfl
theorem tbool4:tbool Try.prog 4=true:=by kernel_rfl
theorem tany4:tany Try.prog 4=some true:=by kernel_rfl
theorem tintk4:tintk Try.prog 4=false:=by kernel_rfl
theorem tbytes4:tbytes Try.prog 4=false:=by kernel_rfl
theorem tsz5:tsz Try.prog 5=some 1:=by kernel_rfl
theorem tby5:tby Try.prog 5=some 1:=by kernel_rfl
theorem tagg5:tagg Try.prog 5=some false:=by kernel_rfl
theorem tslice5:tslice Try.prog 5=none:=by kernel_rfl
theorem tarr5:tarr Try.prog 5=none:=by kernel_rfl
theorem tzero5:tzero Try.prog 5=some [AV.int IntKind.u8 0]:=by kernel_rfl
theorem tzn5:tzn Try.prog 5=some 1:=by kernel_rfl
theorem tplaces5:tplaces Try.prog 5=none:=by kernel_rfl
theorem tint5:tint Try.prog 5=some IntKind.u8:=by kernel_rfl
theorem tstr5:tstr Try.prog 5=false:=by kernel_rfl
theorem tnoint5:tnoint Try.prog 5=false:=by kernel_rfl
theorem tbool5:tbool Try.prog 5=false:=by kernel_rfl
theorem tany5:tany Try.prog 5=some true:=by kernel_rfl
theorem tintk5:tintk Try.prog 5=true:=by kernel_rfl
theorem tbytes5:tbytes Try.prog 5=false:=by kernel_rfl
theorem tsz9:tsz Try.prog 9=some 1:=by kernel_rfl
theorem tby9:tby Try.prog 9=some 16:=by kernel_rfl
theorem tagg9:tagg Try.prog 9=some false:=by kernel_rfl
theorem tslice9:tslice Try.prog 9=none:=by kernel_rfl
theorem tarr9:tarr Try.prog 9=none:=by kernel_rfl
theorem tzero9:tzero Try.prog 9=some [AV.str (ByteArray.mk #[])]:=by kernel_rfl
theorem tzn9:tzn Try.prog 9=some 1:=by kernel_rfl
theorem tplaces9:tplaces Try.prog 9=none:=by kernel_rfl
theorem tint9:tint Try.prog 9=none:=by kernel_rfl
theorem tstr9:tstr Try.prog 9=true:=by kernel_rfl
theorem tnoint9:tnoint Try.prog 9=true:=by kernel_rfl
theorem tbool9:tbool Try.prog 9=false:=by kernel_rfl
theorem tany9:tany Try.prog 9=some true:=by kernel_rfl
theorem tintk9:tintk Try.prog 9=false:=by kernel_rfl
theorem tbytes9:tbytes Try.prog 9=false:=by kernel_rfl
theorem tsz23:tsz Try.prog 23=some 3:=by kernel_rfl
theorem tby23:tby Try.prog 23=some 16:=by kernel_rfl
theorem tagg23:tagg Try.prog 23=some true:=by kernel_rfl
theorem tslice23:tslice Try.prog 23=none:=by kernel_rfl
theorem tarr23:tarr Try.prog 23=none:=by kernel_rfl
theorem tzero23:tzero Try.prog 23=some [AV.int IntKind.u8 0,AV.int IntKind.u8 0,AV.int IntKind.i64 0]:=by kernel_rfl
theorem tzn23:tzn Try.prog 23=some 3:=by kernel_rfl
theorem tplaces23:tplaces Try.prog 23=some [(0,1),(1,1),(2,1)]:=by kernel_rfl
theorem tint23:tint Try.prog 23=none:=by kernel_rfl
theorem tstr23:tstr Try.prog 23=false:=by kernel_rfl
theorem tnoint23:tnoint Try.prog 23=false:=by kernel_rfl
theorem tbool23:tbool Try.prog 23=false:=by kernel_rfl
theorem tany23:tany Try.prog 23=some true:=by kernel_rfl
theorem tintk23:tintk Try.prog 23=false:=by kernel_rfl
theorem tbytes23:tbytes Try.prog 23=false:=by kernel_rfl
theorem tfld23_0:tfld Try.prog 23 0=some (5,0,1):=by kernel_rfl
theorem tfld23_1:tfld Try.prog 23 1=some (5,1,1):=by kernel_rfl
theorem tfld23_2:tfld Try.prog 23 2=some (3,2,1):=by kernel_rfl
theorem tsz25:tsz Try.prog 25=some 6:=by kernel_rfl
theorem tby25:tby Try.prog 25=some 6:=by kernel_rfl
theorem tagg25:tagg Try.prog 25=some true:=by kernel_rfl
theorem tslice25:tslice Try.prog 25=none:=by kernel_rfl
theorem tarr25:tarr Try.prog 25=some (6,5):=by kernel_rfl
theorem tzero25:tzero Try.prog 25=some [AV.int IntKind.u8 0,AV.int IntKind.u8 0,AV.int IntKind.u8 0,AV.int IntKind.u8 0,AV.int IntKind.u8 0,AV.int IntKind.u8 0]:=by kernel_rfl
theorem tzn25:tzn Try.prog 25=some 6:=by kernel_rfl
theorem tplaces25:tplaces Try.prog 25=none:=by kernel_rfl
theorem tint25:tint Try.prog 25=none:=by kernel_rfl
theorem tstr25:tstr Try.prog 25=false:=by kernel_rfl
theorem tnoint25:tnoint Try.prog 25=false:=by kernel_rfl
theorem tbool25:tbool Try.prog 25=false:=by kernel_rfl
theorem tany25:tany Try.prog 25=some true:=by kernel_rfl
theorem tintk25:tintk Try.prog 25=false:=by kernel_rfl
theorem tbytes25:tbytes Try.prog 25=false:=by kernel_rfl
theorem tsz27:tsz Try.prog 27=some 40:=by kernel_rfl
theorem tby27:tby Try.prog 27=some 80:=by kernel_rfl
theorem tagg27:tagg Try.prog 27=some true:=by kernel_rfl
theorem tslice27:tslice Try.prog 27=none:=by kernel_rfl
theorem tarr27:tarr Try.prog 27=none:=by kernel_rfl
theorem tzero27:tzero Try.prog 27=some [AV.int IntKind.u8 0,AV.int IntKind.u8 0,AV.bool false,AV.bool false,AV.bool false,AV.bool false,AV.bool false,AV.bool false,AV.bool false,AV.int IntKind.i64 0,AV.int IntKind.u8 0,AV.int IntKind.u8 0,AV.int IntKind.u8 0,AV.int IntKind.u8 0,AV.int IntKind.u8 0,AV.int IntKind.u8 0,AV.int IntKind.u8 0,AV.int IntKind.u8 0,AV.int IntKind.u8 0,AV.int IntKind.u8 0,AV.int IntKind.u8 0,AV.int IntKind.u8 0,AV.int IntKind.u8 0,AV.int IntKind.u8 0,AV.int IntKind.u8 0,AV.int IntKind.u8 0,AV.int IntKind.u8 0,AV.int IntKind.u8 0,AV.int IntKind.u8 0,AV.int IntKind.u8 0,AV.int IntKind.u8 0,AV.int IntKind.u8 0,AV.int IntKind.u8 0,AV.int IntKind.u8 0,AV.int IntKind.i64 0,AV.int IntKind.i64 0,AV.int IntKind.i64 0,AV.int IntKind.u8 0,AV.bool false,AV.bool false]:=by kernel_rfl
theorem tzn27:tzn Try.prog 27=some 40:=by kernel_rfl
theorem tplaces27:tplaces Try.prog 27=some [(0,1),(1,1),(2,1),(3,1),(4,1),(5,1),(6,1),(7,1),(8,1),(9,1),(10,6),(16,6),(22,6),(28,6),(34,1),(35,1),(36,1),(37,1),(38,1),(39,1)]:=by kernel_rfl
theorem tint27:tint Try.prog 27=none:=by kernel_rfl
theorem tstr27:tstr Try.prog 27=false:=by kernel_rfl
theorem tnoint27:tnoint Try.prog 27=false:=by kernel_rfl
theorem tbool27:tbool Try.prog 27=false:=by kernel_rfl
theorem tany27:tany Try.prog 27=some true:=by kernel_rfl
theorem tintk27:tintk Try.prog 27=false:=by kernel_rfl
theorem tbytes27:tbytes Try.prog 27=false:=by kernel_rfl
theorem tfld27_0:tfld Try.prog 27 0=some (5,0,1):=by kernel_rfl
theorem tfld27_1:tfld Try.prog 27 1=some (5,1,1):=by kernel_rfl
theorem tfld27_2:tfld Try.prog 27 2=some (4,2,1):=by kernel_rfl
theorem tfld27_3:tfld Try.prog 27 3=some (4,3,1):=by kernel_rfl
theorem tfld27_4:tfld Try.prog 27 4=some (4,4,1):=by kernel_rfl
theorem tfld27_5:tfld Try.prog 27 5=some (4,5,1):=by kernel_rfl
theorem tfld27_6:tfld Try.prog 27 6=some (4,6,1):=by kernel_rfl
theorem tfld27_7:tfld Try.prog 27 7=some (4,7,1):=by kernel_rfl
theorem tfld27_8:tfld Try.prog 27 8=some (4,8,1):=by kernel_rfl
theorem tfld27_9:tfld Try.prog 27 9=some (3,9,1):=by kernel_rfl
theorem tfld27_10:tfld Try.prog 27 10=some (25,10,6):=by kernel_rfl
theorem tfld27_11:tfld Try.prog 27 11=some (25,16,6):=by kernel_rfl
theorem tfld27_12:tfld Try.prog 27 12=some (25,22,6):=by kernel_rfl
theorem tfld27_13:tfld Try.prog 27 13=some (25,28,6):=by kernel_rfl
theorem tfld27_14:tfld Try.prog 27 14=some (3,34,1):=by kernel_rfl
theorem tfld27_15:tfld Try.prog 27 15=some (3,35,1):=by kernel_rfl
theorem tfld27_16:tfld Try.prog 27 16=some (3,36,1):=by kernel_rfl
theorem tfld27_17:tfld Try.prog 27 17=some (5,37,1):=by kernel_rfl
theorem tfld27_18:tfld Try.prog 27 18=some (4,38,1):=by kernel_rfl
theorem tfld27_19:tfld Try.prog 27 19=some (4,39,1):=by kernel_rfl
theorem tsz28:tsz Try.prog 28=some 1:=by kernel_rfl
theorem tby28:tby Try.prog 28=some 24:=by kernel_rfl
theorem tagg28:tagg Try.prog 28=some false:=by kernel_rfl
theorem tslice28:tslice Try.prog 28=some 5:=by kernel_rfl
theorem tarr28:tarr Try.prog 28=none:=by kernel_rfl
theorem tzero28:tzero Try.prog 28=some [AV.ro 0 0 true fun x x_1=>AV.top]:=by kernel_rfl
theorem tzn28:tzn Try.prog 28=some 1:=by kernel_rfl
theorem tplaces28:tplaces Try.prog 28=none:=by kernel_rfl
theorem tint28:tint Try.prog 28=none:=by kernel_rfl
theorem tstr28:tstr Try.prog 28=false:=by kernel_rfl
theorem tnoint28:tnoint Try.prog 28=true:=by kernel_rfl
theorem tbool28:tbool Try.prog 28=false:=by kernel_rfl
theorem tany28:tany Try.prog 28=some true:=by kernel_rfl
theorem tintk28:tintk Try.prog 28=false:=by kernel_rfl
theorem tbytes28:tbytes Try.prog 28=true:=by kernel_rfl
theorem tsz30:tsz Try.prog 30=some 41:=by kernel_rfl
theorem tby30:tby Try.prog 30=some 104:=by kernel_rfl
theorem tagg30:tagg Try.prog 30=some true:=by kernel_rfl
theorem tslice30:tslice Try.prog 30=none:=by kernel_rfl
theorem tarr30:tarr Try.prog 30=none:=by kernel_rfl
theorem tzero30:tzero Try.prog 30=some [AV.int IntKind.u8 0,AV.int IntKind.u8 0,AV.bool false,AV.bool false,AV.bool false,AV.bool false,AV.bool false,AV.bool false,AV.bool false,AV.int IntKind.i64 0,AV.int IntKind.u8 0,AV.int IntKind.u8 0,AV.int IntKind.u8 0,AV.int IntKind.u8 0,AV.int IntKind.u8 0,AV.int IntKind.u8 0,AV.int IntKind.u8 0,AV.int IntKind.u8 0,AV.int IntKind.u8 0,AV.int IntKind.u8 0,AV.int IntKind.u8 0,AV.int IntKind.u8 0,AV.int IntKind.u8 0,AV.int IntKind.u8 0,AV.int IntKind.u8 0,AV.int IntKind.u8 0,AV.int IntKind.u8 0,AV.int IntKind.u8 0,AV.int IntKind.u8 0,AV.int IntKind.u8 0,AV.int IntKind.u8 0,AV.int IntKind.u8 0,AV.int IntKind.u8 0,AV.int IntKind.u8 0,AV.int IntKind.i64 0,AV.int IntKind.i64 0,AV.int IntKind.i64 0,AV.int IntKind.u8 0,AV.bool false,AV.bool false,AV.ro 0 0 true fun x x_1=>AV.top]:=by kernel_rfl
theorem tzn30:tzn Try.prog 30=some 41:=by kernel_rfl
theorem tplaces30:tplaces Try.prog 30=some [(0,40),(40,1)]:=by kernel_rfl
theorem tint30:tint Try.prog 30=none:=by kernel_rfl
theorem tstr30:tstr Try.prog 30=false:=by kernel_rfl
theorem tnoint30:tnoint Try.prog 30=false:=by kernel_rfl
theorem tbool30:tbool Try.prog 30=false:=by kernel_rfl
theorem tany30:tany Try.prog 30=some true:=by kernel_rfl
theorem tintk30:tintk Try.prog 30=false:=by kernel_rfl
theorem tbytes30:tbytes Try.prog 30=false:=by kernel_rfl
theorem tfld30_0:tfld Try.prog 30 0=some (27,0,40):=by kernel_rfl
theorem tfld30_1:tfld Try.prog 30 1=some (28,40,1):=by kernel_rfl
theorem tsz31:tsz Try.prog 31=some 1:=by kernel_rfl
theorem tby31:tby Try.prog 31=some 24:=by kernel_rfl
theorem tagg31:tagg Try.prog 31=some false:=by kernel_rfl
theorem tslice31:tslice Try.prog 31=some 30:=by kernel_rfl
theorem tarr31:tarr Try.prog 31=none:=by kernel_rfl
theorem tzero31:tzero Try.prog 31=some [AV.ro 0 0 true fun x x_1=>AV.top]:=by kernel_rfl
theorem tzn31:tzn Try.prog 31=some 1:=by kernel_rfl
theorem tplaces31:tplaces Try.prog 31=none:=by kernel_rfl
theorem tint31:tint Try.prog 31=none:=by kernel_rfl
theorem tstr31:tstr Try.prog 31=false:=by kernel_rfl
theorem tnoint31:tnoint Try.prog 31=true:=by kernel_rfl
theorem tbool31:tbool Try.prog 31=false:=by kernel_rfl
theorem tany31:tany Try.prog 31=some true:=by kernel_rfl
theorem tintk31:tintk Try.prog 31=false:=by kernel_rfl
theorem tbytes31:tbytes Try.prog 31=false:=by kernel_rfl
theorem tsz33:tsz Try.prog 33=some 2:=by kernel_rfl
theorem tby33:tby Try.prog 33=some 32:=by kernel_rfl
theorem tagg33:tagg Try.prog 33=some true:=by kernel_rfl
theorem tslice33:tslice Try.prog 33=none:=by kernel_rfl
theorem tarr33:tarr Try.prog 33=none:=by kernel_rfl
theorem tzero33:tzero Try.prog 33=some [AV.int IntKind.i64 0,AV.ro 0 0 true fun x x_1=>AV.top]:=by kernel_rfl
theorem tzn33:tzn Try.prog 33=some 2:=by kernel_rfl
theorem tplaces33:tplaces Try.prog 33=some [(0,1),(1,1)]:=by kernel_rfl
theorem tint33:tint Try.prog 33=none:=by kernel_rfl
theorem tstr33:tstr Try.prog 33=false:=by kernel_rfl
theorem tnoint33:tnoint Try.prog 33=false:=by kernel_rfl
theorem tbool33:tbool Try.prog 33=false:=by kernel_rfl
theorem tany33:tany Try.prog 33=some true:=by kernel_rfl
theorem tintk33:tintk Try.prog 33=false:=by kernel_rfl
theorem tbytes33:tbytes Try.prog 33=false:=by kernel_rfl
theorem tfld33_0:tfld Try.prog 33 0=some (3,0,1):=by kernel_rfl
theorem tfld33_1:tfld Try.prog 33 1=some (31,1,1):=by kernel_rfl
theorem tsz36:tsz Try.prog 36=some 1:=by kernel_rfl
theorem tby36:tby Try.prog 36=some 8:=by kernel_rfl
theorem tagg36:tagg Try.prog 36=some false:=by kernel_rfl
theorem tslice36:tslice Try.prog 36=none:=by kernel_rfl
theorem tarr36:tarr Try.prog 36=none:=by kernel_rfl
theorem tzero36:tzero Try.prog 36=some [AV.int IntKind.i64 0]:=by kernel_rfl
theorem tzn36:tzn Try.prog 36=some 1:=by kernel_rfl
theorem tplaces36:tplaces Try.prog 36=none:=by kernel_rfl
theorem tint36:tint Try.prog 36=some IntKind.i64:=by kernel_rfl
theorem tstr36:tstr Try.prog 36=false:=by kernel_rfl
theorem tnoint36:tnoint Try.prog 36=false:=by kernel_rfl
theorem tbool36:tbool Try.prog 36=false:=by kernel_rfl
theorem tany36:tany Try.prog 36=some true:=by kernel_rfl
theorem tintk36:tintk Try.prog 36=true:=by kernel_rfl
theorem tbytes36:tbytes Try.prog 36=false:=by kernel_rfl
theorem tsz49:tsz Try.prog 49=some 1:=by kernel_rfl
theorem tby49:tby Try.prog 49=some 24:=by kernel_rfl
theorem tagg49:tagg Try.prog 49=some false:=by kernel_rfl
theorem tslice49:tslice Try.prog 49=some 71:=by kernel_rfl
theorem tarr49:tarr Try.prog 49=none:=by kernel_rfl
theorem tzero49:tzero Try.prog 49=some [AV.ro 0 0 true fun x x_1=>AV.top]:=by kernel_rfl
theorem tzn49:tzn Try.prog 49=some 1:=by kernel_rfl
theorem tplaces49:tplaces Try.prog 49=none:=by kernel_rfl
theorem tint49:tint Try.prog 49=none:=by kernel_rfl
theorem tstr49:tstr Try.prog 49=false:=by kernel_rfl
theorem tnoint49:tnoint Try.prog 49=true:=by kernel_rfl
theorem tbool49:tbool Try.prog 49=false:=by kernel_rfl
theorem tany49:tany Try.prog 49=some true:=by kernel_rfl
theorem tintk49:tintk Try.prog 49=false:=by kernel_rfl
theorem tbytes49:tbytes Try.prog 49=false:=by kernel_rfl
theorem tsz50:tsz Try.prog 50=some 1:=by kernel_rfl
theorem tby50:tby Try.prog 50=some 24:=by kernel_rfl
theorem tagg50:tagg Try.prog 50=some false:=by kernel_rfl
theorem tslice50:tslice Try.prog 50=some 73:=by kernel_rfl
theorem tarr50:tarr Try.prog 50=none:=by kernel_rfl
theorem tzero50:tzero Try.prog 50=some [AV.ro 0 0 true fun x x_1=>AV.top]:=by kernel_rfl
theorem tzn50:tzn Try.prog 50=some 1:=by kernel_rfl
theorem tplaces50:tplaces Try.prog 50=none:=by kernel_rfl
theorem tint50:tint Try.prog 50=none:=by kernel_rfl
theorem tstr50:tstr Try.prog 50=false:=by kernel_rfl
theorem tnoint50:tnoint Try.prog 50=true:=by kernel_rfl
theorem tbool50:tbool Try.prog 50=false:=by kernel_rfl
theorem tany50:tany Try.prog 50=some true:=by kernel_rfl
theorem tintk50:tintk Try.prog 50=false:=by kernel_rfl
theorem tbytes50:tbytes Try.prog 50=false:=by kernel_rfl
theorem tsz52:tsz Try.prog 52=some 4:=by kernel_rfl
theorem tby52:tby Try.prog 52=some 64:=by kernel_rfl
theorem tagg52:tagg Try.prog 52=some true:=by kernel_rfl
theorem tslice52:tslice Try.prog 52=none:=by kernel_rfl
theorem tarr52:tarr Try.prog 52=none:=by kernel_rfl
theorem tzero52:tzero Try.prog 52=some [AV.int IntKind.i64 0,AV.int IntKind.i64 0,AV.ro 0 0 true fun x x_1=>AV.top,AV.ro 0 0 true fun x x_1=>AV.top]:=by kernel_rfl
theorem tzn52:tzn Try.prog 52=some 4:=by kernel_rfl
theorem tplaces52:tplaces Try.prog 52=some [(0,1),(1,1),(2,1),(3,1)]:=by kernel_rfl
theorem tint52:tint Try.prog 52=none:=by kernel_rfl
theorem tstr52:tstr Try.prog 52=false:=by kernel_rfl
theorem tnoint52:tnoint Try.prog 52=false:=by kernel_rfl
theorem tbool52:tbool Try.prog 52=false:=by kernel_rfl
theorem tany52:tany Try.prog 52=some true:=by kernel_rfl
theorem tintk52:tintk Try.prog 52=false:=by kernel_rfl
theorem tbytes52:tbytes Try.prog 52=false:=by kernel_rfl
theorem tfld52_0:tfld Try.prog 52 0=some (3,0,1):=by kernel_rfl
theorem tfld52_1:tfld Try.prog 52 1=some (3,1,1):=by kernel_rfl
theorem tfld52_2:tfld Try.prog 52 2=some (49,2,1):=by kernel_rfl
theorem tfld52_3:tfld Try.prog 52 3=some (50,3,1):=by kernel_rfl
theorem tsz53:tsz Try.prog 53=some 1:=by kernel_rfl
theorem tby53:tby Try.prog 53=some 24:=by kernel_rfl
theorem tagg53:tagg Try.prog 53=some false:=by kernel_rfl
theorem tslice53:tslice Try.prog 53=some 23:=by kernel_rfl
theorem tarr53:tarr Try.prog 53=none:=by kernel_rfl
theorem tzero53:tzero Try.prog 53=some [AV.ro 0 0 true fun x x_1=>AV.top]:=by kernel_rfl
theorem tzn53:tzn Try.prog 53=some 1:=by kernel_rfl
theorem tplaces53:tplaces Try.prog 53=none:=by kernel_rfl
theorem tint53:tint Try.prog 53=none:=by kernel_rfl
theorem tstr53:tstr Try.prog 53=false:=by kernel_rfl
theorem tnoint53:tnoint Try.prog 53=true:=by kernel_rfl
theorem tbool53:tbool Try.prog 53=false:=by kernel_rfl
theorem tany53:tany Try.prog 53=some true:=by kernel_rfl
theorem tintk53:tintk Try.prog 53=false:=by kernel_rfl
theorem tbytes53:tbytes Try.prog 53=false:=by kernel_rfl
theorem tsz55:tsz Try.prog 55=some 1:=by kernel_rfl
theorem tby55:tby Try.prog 55=some 24:=by kernel_rfl
theorem tagg55:tagg Try.prog 55=some false:=by kernel_rfl
theorem tslice55:tslice Try.prog 55=some 3:=by kernel_rfl
theorem tarr55:tarr Try.prog 55=none:=by kernel_rfl
theorem tzero55:tzero Try.prog 55=some [AV.ro 0 0 true fun x x_1=>AV.top]:=by kernel_rfl
theorem tzn55:tzn Try.prog 55=some 1:=by kernel_rfl
theorem tplaces55:tplaces Try.prog 55=none:=by kernel_rfl
theorem tint55:tint Try.prog 55=none:=by kernel_rfl
theorem tstr55:tstr Try.prog 55=false:=by kernel_rfl
theorem tnoint55:tnoint Try.prog 55=true:=by kernel_rfl
theorem tbool55:tbool Try.prog 55=false:=by kernel_rfl
theorem tany55:tany Try.prog 55=some true:=by kernel_rfl
theorem tintk55:tintk Try.prog 55=false:=by kernel_rfl
theorem tbytes55:tbytes Try.prog 55=false:=by kernel_rfl
theorem tsz57:tsz Try.prog 57=some 2:=by kernel_rfl
theorem tby57:tby Try.prog 57=some 32:=by kernel_rfl
theorem tagg57:tagg Try.prog 57=some true:=by kernel_rfl
theorem tslice57:tslice Try.prog 57=none:=by kernel_rfl
theorem tarr57:tarr Try.prog 57=none:=by kernel_rfl
theorem tzero57:tzero Try.prog 57=some [AV.bool false,AV.ro 0 0 true fun x x_1=>AV.top]:=by kernel_rfl
theorem tzn57:tzn Try.prog 57=some 2:=by kernel_rfl
theorem tplaces57:tplaces Try.prog 57=some [(0,1),(1,1)]:=by kernel_rfl
theorem tint57:tint Try.prog 57=none:=by kernel_rfl
theorem tstr57:tstr Try.prog 57=false:=by kernel_rfl
theorem tnoint57:tnoint Try.prog 57=false:=by kernel_rfl
theorem tbool57:tbool Try.prog 57=false:=by kernel_rfl
theorem tany57:tany Try.prog 57=some true:=by kernel_rfl
theorem tintk57:tintk Try.prog 57=false:=by kernel_rfl
theorem tbytes57:tbytes Try.prog 57=false:=by kernel_rfl
theorem tfld57_0:tfld Try.prog 57 0=some (4,0,1):=by kernel_rfl
theorem tfld57_1:tfld Try.prog 57 1=some (55,1,1):=by kernel_rfl
theorem tsz71:tsz Try.prog 71=some 3:=by kernel_rfl
theorem tby71:tby Try.prog 71=some 40:=by kernel_rfl
theorem tagg71:tagg Try.prog 71=some true:=by kernel_rfl
theorem tslice71:tslice Try.prog 71=none:=by kernel_rfl
theorem tarr71:tarr Try.prog 71=none:=by kernel_rfl
theorem tzero71:tzero Try.prog 71=some [AV.int IntKind.i64 0,AV.bool false,AV.ro 0 0 true fun x x_1=>AV.top]:=by kernel_rfl
theorem tzn71:tzn Try.prog 71=some 3:=by kernel_rfl
theorem tplaces71:tplaces Try.prog 71=some [(0,1),(1,1),(2,1)]:=by kernel_rfl
theorem tint71:tint Try.prog 71=none:=by kernel_rfl
theorem tstr71:tstr Try.prog 71=false:=by kernel_rfl
theorem tnoint71:tnoint Try.prog 71=false:=by kernel_rfl
theorem tbool71:tbool Try.prog 71=false:=by kernel_rfl
theorem tany71:tany Try.prog 71=some true:=by kernel_rfl
theorem tintk71:tintk Try.prog 71=false:=by kernel_rfl
theorem tbytes71:tbytes Try.prog 71=false:=by kernel_rfl
theorem tfld71_0:tfld Try.prog 71 0=some (3,0,1):=by kernel_rfl
theorem tfld71_1:tfld Try.prog 71 1=some (4,1,1):=by kernel_rfl
theorem tfld71_2:tfld Try.prog 71 2=some (50,2,1):=by kernel_rfl
theorem tsz73:tsz Try.prog 73=some 43:=by kernel_rfl
theorem tby73:tby Try.prog 73=some 120:=by kernel_rfl
theorem tagg73:tagg Try.prog 73=some true:=by kernel_rfl
theorem tslice73:tslice Try.prog 73=none:=by kernel_rfl
theorem tarr73:tarr Try.prog 73=none:=by kernel_rfl
theorem tzero73:tzero Try.prog 73=some [AV.int IntKind.u8 0,AV.int IntKind.i64 0,AV.int IntKind.u8 0,AV.int IntKind.u8 0,AV.bool false,AV.bool false,AV.bool false,AV.bool false,AV.bool false,AV.bool false,AV.bool false,AV.int IntKind.i64 0,AV.int IntKind.u8 0,AV.int IntKind.u8 0,AV.int IntKind.u8 0,AV.int IntKind.u8 0,AV.int IntKind.u8 0,AV.int IntKind.u8 0,AV.int IntKind.u8 0,AV.int IntKind.u8 0,AV.int IntKind.u8 0,AV.int IntKind.u8 0,AV.int IntKind.u8 0,AV.int IntKind.u8 0,AV.int IntKind.u8 0,AV.int IntKind.u8 0,AV.int IntKind.u8 0,AV.int IntKind.u8 0,AV.int IntKind.u8 0,AV.int IntKind.u8 0,AV.int IntKind.u8 0,AV.int IntKind.u8 0,AV.int IntKind.u8 0,AV.int IntKind.u8 0,AV.int IntKind.u8 0,AV.int IntKind.u8 0,AV.int IntKind.i64 0,AV.int IntKind.i64 0,AV.int IntKind.i64 0,AV.int IntKind.u8 0,AV.bool false,AV.bool false,AV.ro 0 0 true fun x x_1=>AV.top]:=by kernel_rfl
theorem tzn73:tzn Try.prog 73=some 43:=by kernel_rfl
theorem tplaces73:tplaces Try.prog 73=some [(0,1),(1,1),(2,41)]:=by kernel_rfl
theorem tint73:tint Try.prog 73=none:=by kernel_rfl
theorem tstr73:tstr Try.prog 73=false:=by kernel_rfl
theorem tnoint73:tnoint Try.prog 73=false:=by kernel_rfl
theorem tbool73:tbool Try.prog 73=false:=by kernel_rfl
theorem tany73:tany Try.prog 73=some true:=by kernel_rfl
theorem tintk73:tintk Try.prog 73=false:=by kernel_rfl
theorem tbytes73:tbytes Try.prog 73=false:=by kernel_rfl
theorem tfld73_0:tfld Try.prog 73 0=some (5,0,1):=by kernel_rfl
theorem tfld73_1:tfld Try.prog 73 1=some (3,1,1):=by kernel_rfl
theorem tfld73_2:tfld Try.prog 73 2=some (30,2,41):=by kernel_rfl
theorem tsz78:tsz Try.prog 78=some 100:=by kernel_rfl
theorem tby78:tby Try.prog 78=some 100:=by kernel_rfl
theorem tagg78:tagg Try.prog 78=some true:=by kernel_rfl
theorem tslice78:tslice Try.prog 78=none:=by kernel_rfl
theorem tarr78:tarr Try.prog 78=some (100,4):=by kernel_rfl
theorem tzero78:tzero Try.prog 78=some [AV.bool false,AV.bool false,AV.bool false,AV.bool false,AV.bool false,AV.bool false,AV.bool false,AV.bool false,AV.bool false,AV.bool false,AV.bool false,AV.bool false,AV.bool false,AV.bool false,AV.bool false,AV.bool false,AV.bool false,AV.bool false,AV.bool false,AV.bool false,AV.bool false,AV.bool false,AV.bool false,AV.bool false,AV.bool false,AV.bool false,AV.bool false,AV.bool false,AV.bool false,AV.bool false,AV.bool false,AV.bool false,AV.bool false,AV.bool false,AV.bool false,AV.bool false,AV.bool false,AV.bool false,AV.bool false,AV.bool false,AV.bool false,AV.bool false,AV.bool false,AV.bool false,AV.bool false,AV.bool false,AV.bool false,AV.bool false,AV.bool false,AV.bool false,AV.bool false,AV.bool false,AV.bool false,AV.bool false,AV.bool false,AV.bool false,AV.bool false,AV.bool false,AV.bool false,AV.bool false,AV.bool false,AV.bool false,AV.bool false,AV.bool false,AV.bool false,AV.bool false,AV.bool false,AV.bool false,AV.bool false,AV.bool false,AV.bool false,AV.bool false,AV.bool false,AV.bool false,AV.bool false,AV.bool false,AV.bool false,AV.bool false,AV.bool false,AV.bool false,AV.bool false,AV.bool false,AV.bool false,AV.bool false,AV.bool false,AV.bool false,AV.bool false,AV.bool false,AV.bool false,AV.bool false,AV.bool false,AV.bool false,AV.bool false,AV.bool false,AV.bool false,AV.bool false,AV.bool false,AV.bool false,AV.bool false,AV.bool false]:=by kernel_rfl
theorem tzn78:tzn Try.prog 78=some 100:=by kernel_rfl
theorem tplaces78:tplaces Try.prog 78=none:=by kernel_rfl
theorem tint78:tint Try.prog 78=none:=by kernel_rfl
theorem tstr78:tstr Try.prog 78=false:=by kernel_rfl
theorem tnoint78:tnoint Try.prog 78=false:=by kernel_rfl
theorem tbool78:tbool Try.prog 78=false:=by kernel_rfl
theorem tany78:tany Try.prog 78=some true:=by kernel_rfl
theorem tintk78:tintk Try.prog 78=false:=by kernel_rfl
theorem tbytes78:tbytes Try.prog 78=false:=by kernel_rfl
theorem tsz95:tsz Try.prog 95=some 1:=by kernel_rfl
theorem tby95:tby Try.prog 95=some 8:=by kernel_rfl
theorem tagg95:tagg Try.prog 95=some false:=by kernel_rfl
theorem tslice95:tslice Try.prog 95=none:=by kernel_rfl
theorem tarr95:tarr Try.prog 95=none:=by kernel_rfl
theorem tzero95:tzero Try.prog 95=some [AV.nilf]:=by kernel_rfl
theorem tzn95:tzn Try.prog 95=some 1:=by kernel_rfl
theorem tplaces95:tplaces Try.prog 95=none:=by kernel_rfl
theorem tint95:tint Try.prog 95=none:=by kernel_rfl
theorem tstr95:tstr Try.prog 95=false:=by kernel_rfl
theorem tnoint95:tnoint Try.prog 95=false:=by kernel_rfl
theorem tbool95:tbool Try.prog 95=false:=by kernel_rfl
theorem tany95:tany Try.prog 95=some true:=by kernel_rfl
theorem tintk95:tintk Try.prog 95=false:=by kernel_rfl
theorem tbytes95:tbytes Try.prog 95=false:=by kernel_rfl
theorem tsz98:tsz Try.prog 98=some 1:=by kernel_rfl
theorem tby98:tby Try.prog 98=some 8:=by kernel_rfl
theorem tagg98:tagg Try.prog 98=some false:=by kernel_rfl
theorem tslice98:tslice Try.prog 98=none:=by kernel_rfl
theorem tarr98:tarr Try.prog 98=none:=by kernel_rfl
theorem tzero98:tzero Try.prog 98=some [AV.nilf]:=by kernel_rfl
theorem tzn98:tzn Try.prog 98=some 1:=by kernel_rfl
theorem tplaces98:tplaces Try.prog 98=none:=by kernel_rfl
theorem tint98:tint Try.prog 98=none:=by kernel_rfl
theorem tstr98:tstr Try.prog 98=false:=by kernel_rfl
theorem tnoint98:tnoint Try.prog 98=false:=by kernel_rfl
theorem tbool98:tbool Try.prog 98=false:=by kernel_rfl
theorem tany98:tany Try.prog 98=some true:=by kernel_rfl
theorem tintk98:tintk Try.prog 98=false:=by kernel_rfl
theorem tbytes98:tbytes Try.prog 98=false:=by kernel_rfl
theorem tsz100:tsz Try.prog 100=some 1:=by kernel_rfl
theorem tby100:tby Try.prog 100=some 8:=by kernel_rfl
theorem tagg100:tagg Try.prog 100=some false:=by kernel_rfl
theorem tslice100:tslice Try.prog 100=none:=by kernel_rfl
theorem tarr100:tarr Try.prog 100=none:=by kernel_rfl
theorem tzero100:tzero Try.prog 100=some [AV.nilf]:=by kernel_rfl
theorem tzn100:tzn Try.prog 100=some 1:=by kernel_rfl
theorem tplaces100:tplaces Try.prog 100=none:=by kernel_rfl
theorem tint100:tint Try.prog 100=none:=by kernel_rfl
theorem tstr100:tstr Try.prog 100=false:=by kernel_rfl
theorem tnoint100:tnoint Try.prog 100=false:=by kernel_rfl
theorem tbool100:tbool Try.prog 100=false:=by kernel_rfl
theorem tany100:tany Try.prog 100=some true:=by kernel_rfl
theorem tintk100:tintk Try.prog 100=false:=by kernel_rfl
theorem tbytes100:tbytes Try.prog 100=false:=by kernel_rfl
theorem tsz101:tsz Try.prog 101=some 1:=by kernel_rfl
theorem tby101:tby Try.prog 101=some 8:=by kernel_rfl
theorem tagg101:tagg Try.prog 101=some false:=by kernel_rfl
theorem tslice101:tslice Try.prog 101=none:=by kernel_rfl
theorem tarr101:tarr Try.prog 101=none:=by kernel_rfl
theorem tzero101:tzero Try.prog 101=some [AV.nilp]:=by kernel_rfl
theorem tzn101:tzn Try.prog 101=some 1:=by kernel_rfl
theorem tplaces101:tplaces Try.prog 101=none:=by kernel_rfl
theorem tint101:tint Try.prog 101=none:=by kernel_rfl
theorem tstr101:tstr Try.prog 101=false:=by kernel_rfl
theorem tnoint101:tnoint Try.prog 101=false:=by kernel_rfl
theorem tbool101:tbool Try.prog 101=false:=by kernel_rfl
theorem tany101:tany Try.prog 101=some true:=by kernel_rfl
theorem tintk101:tintk Try.prog 101=false:=by kernel_rfl
theorem tbytes101:tbytes Try.prog 101=false:=by kernel_rfl
theorem tsz103:tsz Try.prog 103=some 2:=by kernel_rfl
theorem tby103:tby Try.prog 103=some 32:=by kernel_rfl
theorem tagg103:tagg Try.prog 103=some true:=by kernel_rfl
theorem tslice103:tslice Try.prog 103=none:=by kernel_rfl
theorem tarr103:tarr Try.prog 103=none:=by kernel_rfl
theorem tzero103:tzero Try.prog 103=some [AV.ro 0 0 true fun x x_1=>AV.top,AV.int IntKind.u8 0]:=by kernel_rfl
theorem tzn103:tzn Try.prog 103=some 2:=by kernel_rfl
theorem tplaces103:tplaces Try.prog 103=some [(0,1),(1,1)]:=by kernel_rfl
theorem tint103:tint Try.prog 103=none:=by kernel_rfl
theorem tstr103:tstr Try.prog 103=false:=by kernel_rfl
theorem tnoint103:tnoint Try.prog 103=false:=by kernel_rfl
theorem tbool103:tbool Try.prog 103=false:=by kernel_rfl
theorem tany103:tany Try.prog 103=some true:=by kernel_rfl
theorem tintk103:tintk Try.prog 103=false:=by kernel_rfl
theorem tbytes103:tbytes Try.prog 103=false:=by kernel_rfl
theorem tfld103_0:tfld Try.prog 103 0=some (50,0,1):=by kernel_rfl
theorem tfld103_1:tfld Try.prog 103 1=some (5,1,1):=by kernel_rfl
theorem tsz106:tsz Try.prog 106=some 1:=by kernel_rfl
theorem tby106:tby Try.prog 106=some 8:=by kernel_rfl
theorem tagg106:tagg Try.prog 106=some false:=by kernel_rfl
theorem tslice106:tslice Try.prog 106=none:=by kernel_rfl
theorem tarr106:tarr Try.prog 106=none:=by kernel_rfl
theorem tzero106:tzero Try.prog 106=some [AV.nilp]:=by kernel_rfl
theorem tzn106:tzn Try.prog 106=some 1:=by kernel_rfl
theorem tplaces106:tplaces Try.prog 106=none:=by kernel_rfl
theorem tint106:tint Try.prog 106=none:=by kernel_rfl
theorem tstr106:tstr Try.prog 106=false:=by kernel_rfl
theorem tnoint106:tnoint Try.prog 106=false:=by kernel_rfl
theorem tbool106:tbool Try.prog 106=false:=by kernel_rfl
theorem tany106:tany Try.prog 106=some true:=by kernel_rfl
theorem tintk106:tintk Try.prog 106=false:=by kernel_rfl
theorem tbytes106:tbytes Try.prog 106=false:=by kernel_rfl
theorem tsz111:tsz Try.prog 111=some 1:=by kernel_rfl
theorem tby111:tby Try.prog 111=some 8:=by kernel_rfl
theorem tagg111:tagg Try.prog 111=some false:=by kernel_rfl
theorem tslice111:tslice Try.prog 111=none:=by kernel_rfl
theorem tarr111:tarr Try.prog 111=none:=by kernel_rfl
theorem tzero111:tzero Try.prog 111=some [AV.nilp]:=by kernel_rfl
theorem tzn111:tzn Try.prog 111=some 1:=by kernel_rfl
theorem tplaces111:tplaces Try.prog 111=none:=by kernel_rfl
theorem tint111:tint Try.prog 111=none:=by kernel_rfl
theorem tstr111:tstr Try.prog 111=false:=by kernel_rfl
theorem tnoint111:tnoint Try.prog 111=false:=by kernel_rfl
theorem tbool111:tbool Try.prog 111=false:=by kernel_rfl
theorem tany111:tany Try.prog 111=some true:=by kernel_rfl
theorem tintk111:tintk Try.prog 111=false:=by kernel_rfl
theorem tbytes111:tbytes Try.prog 111=false:=by kernel_rfl
theorem tsz112:tsz Try.prog 112=some 1:=by kernel_rfl
theorem tby112:tby Try.prog 112=some 8:=by kernel_rfl
theorem tagg112:tagg Try.prog 112=some false:=by kernel_rfl
theorem tslice112:tslice Try.prog 112=none:=by kernel_rfl
theorem tarr112:tarr Try.prog 112=none:=by kernel_rfl
theorem tzero112:tzero Try.prog 112=some [AV.nilp]:=by kernel_rfl
theorem tzn112:tzn Try.prog 112=some 1:=by kernel_rfl
theorem tplaces112:tplaces Try.prog 112=none:=by kernel_rfl
theorem tint112:tint Try.prog 112=none:=by kernel_rfl
theorem tstr112:tstr Try.prog 112=false:=by kernel_rfl
theorem tnoint112:tnoint Try.prog 112=false:=by kernel_rfl
theorem tbool112:tbool Try.prog 112=false:=by kernel_rfl
theorem tany112:tany Try.prog 112=some true:=by kernel_rfl
theorem tintk112:tintk Try.prog 112=false:=by kernel_rfl
theorem tbytes112:tbytes Try.prog 112=false:=by kernel_rfl
theorem tsz118:tsz Try.prog 118=some 8:=by kernel_rfl
theorem tby118:tby Try.prog 118=some 8:=by kernel_rfl
theorem tagg118:tagg Try.prog 118=some true:=by kernel_rfl
theorem tslice118:tslice Try.prog 118=none:=by kernel_rfl
theorem tarr118:tarr Try.prog 118=some (8,5):=by kernel_rfl
theorem tzero118:tzero Try.prog 118=some [AV.int IntKind.u8 0,AV.int IntKind.u8 0,AV.int IntKind.u8 0,AV.int IntKind.u8 0,AV.int IntKind.u8 0,AV.int IntKind.u8 0,AV.int IntKind.u8 0,AV.int IntKind.u8 0]:=by kernel_rfl
theorem tzn118:tzn Try.prog 118=some 8:=by kernel_rfl
theorem tplaces118:tplaces Try.prog 118=none:=by kernel_rfl
theorem tint118:tint Try.prog 118=none:=by kernel_rfl
theorem tstr118:tstr Try.prog 118=false:=by kernel_rfl
theorem tnoint118:tnoint Try.prog 118=false:=by kernel_rfl
theorem tbool118:tbool Try.prog 118=false:=by kernel_rfl
theorem tany118:tany Try.prog 118=some true:=by kernel_rfl
theorem tintk118:tintk Try.prog 118=false:=by kernel_rfl
theorem tbytes118:tbytes Try.prog 118=false:=by kernel_rfl
theorem tsz129:tsz Try.prog 129=some 1:=by kernel_rfl
theorem tby129:tby Try.prog 129=some 8:=by kernel_rfl
theorem tagg129:tagg Try.prog 129=some false:=by kernel_rfl
theorem tslice129:tslice Try.prog 129=none:=by kernel_rfl
theorem tarr129:tarr Try.prog 129=none:=by kernel_rfl
theorem tzero129:tzero Try.prog 129=some [AV.nilf]:=by kernel_rfl
theorem tzn129:tzn Try.prog 129=some 1:=by kernel_rfl
theorem tplaces129:tplaces Try.prog 129=none:=by kernel_rfl
theorem tint129:tint Try.prog 129=none:=by kernel_rfl
theorem tstr129:tstr Try.prog 129=false:=by kernel_rfl
theorem tnoint129:tnoint Try.prog 129=false:=by kernel_rfl
theorem tbool129:tbool Try.prog 129=false:=by kernel_rfl
theorem tany129:tany Try.prog 129=some true:=by kernel_rfl
theorem tintk129:tintk Try.prog 129=false:=by kernel_rfl
theorem tbytes129:tbytes Try.prog 129=false:=by kernel_rfl
theorem tsz130:tsz Try.prog 130=some 1:=by kernel_rfl
theorem tby130:tby Try.prog 130=some 8:=by kernel_rfl
theorem tagg130:tagg Try.prog 130=some false:=by kernel_rfl
theorem tslice130:tslice Try.prog 130=none:=by kernel_rfl
theorem tarr130:tarr Try.prog 130=none:=by kernel_rfl
theorem tzero130:tzero Try.prog 130=some [AV.int IntKind.u64 0]:=by kernel_rfl
theorem tzn130:tzn Try.prog 130=some 1:=by kernel_rfl
theorem tplaces130:tplaces Try.prog 130=none:=by kernel_rfl
theorem tint130:tint Try.prog 130=some IntKind.u64:=by kernel_rfl
theorem tstr130:tstr Try.prog 130=false:=by kernel_rfl
theorem tnoint130:tnoint Try.prog 130=false:=by kernel_rfl
theorem tbool130:tbool Try.prog 130=false:=by kernel_rfl
theorem tany130:tany Try.prog 130=some true:=by kernel_rfl
theorem tintk130:tintk Try.prog 130=true:=by kernel_rfl
theorem tbytes130:tbytes Try.prog 130=false:=by kernel_rfl
end Go.Proofs.Ytnclkplbeenmdaa

/-
  Facts of the types that the walks meet: sizes, places, zero values.
-/
import Derived.Test.YtooepgpfaaddbaaPm10
import Derived.Test.YtooepgpfaaddbaaProg
namespace Go.Proofs.Ytooepgpfaaddbaa
open Go.Am
set_option linter.unusedVariables false
theorem tsz3:tsz Try.prog 3=some 1:=by kernel_rfl
theorem tby3:tby Try.prog 3=some 8:=by kernel_rfl
theorem tagg3:tagg Try.prog 3=some false:=by kernel_rfl
theorem tslice3:tslice Try.prog 3=none:=by kernel_rfl
theorem tarr3:tarr Try.prog 3=none:=by kernel_rfl
theorem tzero3:tzero Try.prog 3=some [AV.int IntKind.i64 0]:=by kernel_rfl
theorem tzn3:tzn Try.prog 3=some 1:=by kernel_rfl
theorem tplaces3:tplaces Try.prog 3=none:=by kernel_rfl
theorem tint3:tint Try.prog 3=some IntKind.i64:=by kernel_rfl
theorem tstr3:tstr Try.prog 3=false:=by kernel_rfl
theorem tnoint3:tnoint Try.prog 3=false:=by kernel_rfl
theorem tbool3:tbool Try.prog 3=false:=by kernel_rfl
theorem tany3:tany Try.prog 3=some true:=by kernel_rfl
theorem tintk3:tintk Try.prog 3=true:=by kernel_rfl
theorem tbytes3:tbytes Try.prog 3=false:=by kernel_rfl
theorem tsz4:tsz Try.prog 4=some 1:=by kernel_rfl
theorem tby4:tby Try.prog 4=some 1:=by kernel_rfl
theorem tagg4:tagg Try.prog 4=some false:=by kernel_rfl
theorem tslice4:tslice Try.prog 4=none:=by kernel_rfl
theorem tarr4:tarr Try.prog 4=none:=by kernel_rfl
theorem tzero4:tzero Try.prog 4=some [AV.bool false]:=by kernel_rfl
theorem tzn4:tzn Try.prog 4=some 1:=by kernel_rfl
theorem tplaces4:tplaces Try.prog 4=none:=by kernel_rfl
theorem tint4:tint Try.prog 4=none:=by kernel_rfl
theorem tstr4:tstr Try.prog 4=false:=by kernel_rfl
theorem tnoint4:tnoint Try.prog 4=false:=by kernel_rfl
theorem tbool4:tbool Try.prog 4=true:=by kernel_rfl
theorem tany4:tany Try.prog 4=some true:=by kernel_rfl
theorem tintk4:tintk Try.prog 4=false:=by kernel_rfl
theorem tbytes4:tbytes Try.prog 4=false:=by kernel_rfl
theorem tsz5:tsz Try.prog 5=some 1:=by kernel_rfl
theorem tby5:tby Try.prog 5=some 1:=by kernel_rfl
theorem tagg5:tagg Try.prog 5=some false:=by kernel_rfl
theorem tslice5:tslice Try.prog 5=none:=by kernel_rfl
theorem tarr5:tarr Try.prog 5=none:=by kernel_rfl
theorem tzero5:tzero Try.prog 5=some [AV.int IntKind.u8 0]:=by kernel_rfl
theorem tzn5:tzn Try.prog 5=some 1:=by kernel_rfl
theorem tplaces5:tplaces Try.prog 5=none:=by kernel_rfl
theorem tint5:tint Try.prog 5=some IntKind.u8:=by kernel_rfl
theorem tstr5:tstr Try.prog 5=false:=by kernel_rfl
theorem tnoint5:tnoint Try.prog 5=false:=by kernel_rfl
theorem tbool5:tbool Try.prog 5=false:=by kernel_rfl
theorem tany5:tany Try.prog 5=some true:=by kernel_rfl
theorem tintk5:tintk Try.prog 5=true:=by kernel_rfl
theorem tbytes5:tbytes Try.prog 5=false:=by kernel_rfl
theorem tsz23:tsz Try.prog 23=some 5:=by kernel_rfl
theorem tby23:tby Try.prog 23=some 40:=by kernel_rfl
theorem tagg23:tagg Try.prog 23=some true:=by kernel_rfl
theorem tslice23:tslice Try.prog 23=none:=by kernel_rfl
theorem tarr23:tarr Try.prog 23=none:=by kernel_rfl
theorem tzero23:tzero Try.prog 23=some [AV.int IntKind.i64 0,AV.int IntKind.i64 0,AV.int IntKind.i64 0,AV.int IntKind.i64 0,AV.int IntKind.i64 0]:=by kernel_rfl
theorem tzn23:tzn Try.prog 23=some 5:=by kernel_rfl
theorem tplaces23:tplaces Try.prog 23=some [(0,1),(1,1),(2,1),(3,1),(4,1)]:=by kernel_rfl
theorem tint23:tint Try.prog 23=none:=by kernel_rfl
theorem tstr23:tstr Try.prog 23=false:=by kernel_rfl
theorem tnoint23:tnoint Try.prog 23=false:=by kernel_rfl
theorem tbool23:tbool Try.prog 23=false:=by kernel_rfl
theorem tany23:tany Try.prog 23=some true:=by kernel_rfl
theorem tintk23:tintk Try.prog 23=false:=by kernel_rfl
theorem tbytes23:tbytes Try.prog 23=false:=by kernel_rfl
theorem tfld23_0:tfld Try.prog 23 0=some (3,0,1):=by kernel_rfl
theorem tfld23_1:tfld Try.prog 23 1=some (3,1,1):=by kernel_rfl
theorem tfld23_2:tfld Try.prog 23 2=some (3,2,1):=by kernel_rfl
theorem tfld23_3:tfld Try.prog 23 3=some (3,3,1):=by kernel_rfl
theorem tfld23_4:tfld Try.prog 23 4=some (3,4,1):=by kernel_rfl
theorem tsz24:tsz Try.prog 24=some 1:=by kernel_rfl
theorem tby24:tby Try.prog 24=some 24:=by kernel_rfl
theorem tagg24:tagg Try.prog 24=some false:=by kernel_rfl
theorem tslice24:tslice Try.prog 24=some 42:=by kernel_rfl
theorem tarr24:tarr Try.prog 24=none:=by kernel_rfl
theorem tzero24:tzero Try.prog 24=some [AV.ro 0 0 true fun x x_1=>AV.top]:=by kernel_rfl
theorem tzn24:tzn Try.prog 24=some 1:=by kernel_rfl
theorem tplaces24:tplaces Try.prog 24=none:=by kernel_rfl
theorem tint24:tint Try.prog 24=none:=by kernel_rfl
theorem tstr24:tstr Try.prog 24=false:=by kernel_rfl
theorem tnoint24:tnoint Try.prog 24=true:=by kernel_rfl
theorem tbool24:tbool Try.prog 24=false:=by kernel_rfl
theorem tany24:tany Try.prog 24=some true:=by kernel_rfl
theorem tintk24:tintk Try.prog 24=false:=by kernel_rfl
theorem tbytes24:tbytes Try.prog 24=false:=by kernel_rfl
theorem tsz26:tsz Try.prog 26=some 1:=by kernel_rfl
theorem tby26:tby Try.prog 26=some 8:=by kernel_rfl
theorem tagg26:tagg Try.prog 26=some false:=by kernel_rfl
theorem tslice26:tslice Try.prog 26=none:=by kernel_rfl
theorem tarr26:tarr Try.prog 26=none:=by kernel_rfl
theorem tzero26:tzero Try.prog 26=some [AV.int IntKind.i64 0]:=by kernel_rfl
theorem tzn26:tzn Try.prog 26=some 1:=by kernel_rfl
theorem tplaces26:tplaces Try.prog 26=none:=by kernel_rfl
theorem tint26:tint Try.prog 26=some IntKind.i64:=by kernel_rfl
theorem tstr26:tstr Try.prog 26=false:=by kernel_rfl
theorem tnoint26:tnoint Try.prog 26=false:=by kernel_rfl
theorem tbool26:tbool Try.prog 26=false:=by kernel_rfl
theorem tany26:tany Try.prog 26=some true:=by kernel_rfl
theorem tintk26:tintk Try.prog 26=true:=by kernel_rfl
theorem tbytes26:tbytes Try.prog 26=false:=by kernel_rfl
theorem tsz28:tsz Try.prog 28=some 1:=by kernel_rfl
theorem tby28:tby Try.prog 28=some 24:=by kernel_rfl
theorem tagg28:tagg Try.prog 28=some false:=by kernel_rfl
theorem tslice28:tslice Try.prog 28=some 72:=by kernel_rfl
theorem tarr28:tarr Try.prog 28=none:=by kernel_rfl
theorem tzero28:tzero Try.prog 28=some [AV.ro 0 0 true fun x x_1=>AV.top]:=by kernel_rfl
theorem tzn28:tzn Try.prog 28=some 1:=by kernel_rfl
theorem tplaces28:tplaces Try.prog 28=none:=by kernel_rfl
theorem tint28:tint Try.prog 28=none:=by kernel_rfl
theorem tstr28:tstr Try.prog 28=false:=by kernel_rfl
theorem tnoint28:tnoint Try.prog 28=true:=by kernel_rfl
theorem tbool28:tbool Try.prog 28=false:=by kernel_rfl
theorem tany28:tany Try.prog 28=some true:=by kernel_rfl
theorem tintk28:tintk Try.prog 28=false:=by kernel_rfl
theorem tbytes28:tbytes Try.prog 28=false:=by kernel_rfl
theorem tsz29:tsz Try.prog 29=some 1:=by kernel_rfl
theorem tby29:tby Try.prog 29=some 24:=by kernel_rfl
theorem tagg29:tagg Try.prog 29=some false:=by kernel_rfl
theorem tslice29:tslice Try.prog 29=some 82:=by kernel_rfl
theorem tarr29:tarr Try.prog 29=none:=by kernel_rfl
theorem tzero29:tzero Try.prog 29=some [AV.ro 0 0 true fun x x_1=>AV.top]:=by kernel_rfl
theorem tzn29:tzn Try.prog 29=some 1:=by kernel_rfl
theorem tplaces29:tplaces Try.prog 29=none:=by kernel_rfl
theorem tint29:tint Try.prog 29=none:=by kernel_rfl
theorem tstr29:tstr Try.prog 29=false:=by kernel_rfl
theorem tnoint29:tnoint Try.prog 29=true:=by kernel_rfl
theorem tbool29:tbool Try.prog 29=false:=by kernel_rfl
theorem tany29:tany Try.prog 29=some true:=by kernel_rfl
theorem tintk29:tintk Try.prog 29=false:=by kernel_rfl
theorem tbytes29:tbytes Try.prog 29=false:=by kernel_rfl
theorem tsz31:tsz Try.prog 31=some 4:=by kernel_rfl
theorem tby31:tby Try.prog 31=some 64:=by kernel_rfl
theorem tagg31:tagg Try.prog 31=some true:=by kernel_rfl
theorem tslice31:tslice Try.prog 31=none:=by kernel_rfl
theorem tarr31:tarr Try.prog 31=none:=by kernel_rfl
theorem tzero31:tzero Try.prog 31=some [AV.int IntKind.i64 0,AV.int IntKind.i64 0,AV.ro 0 0 true fun x x_1=>AV.top,AV.ro 0 0 true fun x x_1=>AV.top]:=by kernel_rfl
theorem tzn31:tzn Try.prog 31=some 4:=by kernel_rfl
theorem tplaces31:tplaces Try.prog 31=some [(0,1),(1,1),(2,1),(3,1)]:=by kernel_rfl
theorem tint31:tint Try.prog 31=none:=by kernel_rfl
theorem tstr31:tstr Try.prog 31=false:=by kernel_rfl
theorem tnoint31:tnoint Try.prog 31=false:=by kernel_rfl
theorem tbool31:tbool Try.prog 31=false:=by kernel_rfl
theorem tany31:tany Try.prog 31=some true:=by kernel_rfl
theorem tintk31:tintk Try.prog 31=false:=by kernel_rfl
theorem tbytes31:tbytes Try.prog 31=false:=by kernel_rfl
theorem tfld31_0:tfld Try.prog 31 0=some (3,0,1):=by kernel_rfl
theorem tfld31_1:tfld Try.prog 31 1=some (3,1,1):=by kernel_rfl
theorem tfld31_2:tfld Try.prog 31 2=some (28,2,1):=by kernel_rfl
theorem tfld31_3:tfld Try.prog 31 3=some (29,3,1):=by kernel_rfl
theorem tsz35:tsz Try.prog 35=some 1:=by kernel_rfl
theorem tby35:tby Try.prog 35=some 8:=by kernel_rfl
theorem tagg35:tagg Try.prog 35=some false:=by kernel_rfl
theorem tslice35:tslice Try.prog 35=none:=by kernel_rfl
theorem tarr35:tarr Try.prog 35=none:=by kernel_rfl
theorem tzero35:tzero Try.prog 35=some [AV.nilp]:=by kernel_rfl
theorem tzn35:tzn Try.prog 35=some 1:=by kernel_rfl
theorem tplaces35:tplaces Try.prog 35=none:=by kernel_rfl
theorem tint35:tint Try.prog 35=none:=by kernel_rfl
theorem tstr35:tstr Try.prog 35=false:=by kernel_rfl
theorem tnoint35:tnoint Try.prog 35=false:=by kernel_rfl
theorem tbool35:tbool Try.prog 35=false:=by kernel_rfl
theorem tany35:tany Try.prog 35=some true:=by kernel_rfl
theorem tintk35:tintk Try.prog 35=false:=by kernel_rfl
theorem tbytes35:tbytes Try.prog 35=false:=by kernel_rfl
theorem tsz36:tsz Try.prog 36=some 1:=by kernel_rfl
theorem tby36:tby Try.prog 36=some 24:=by kernel_rfl
theorem tagg36:tagg Try.prog 36=some false:=by kernel_rfl
theorem tslice36:tslice Try.prog 36=some 3:=by kernel_rfl
theorem tarr36:tarr Try.prog 36=none:=by kernel_rfl
theorem tzero36:tzero Try.prog 36=some [AV.ro 0 0 true fun x x_1=>AV.top]:=by kernel_rfl
theorem tzn36:tzn Try.prog 36=some 1:=by kernel_rfl
theorem tplaces36:tplaces Try.prog 36=none:=by kernel_rfl
theorem tint36:tint Try.prog 36=none:=by kernel_rfl
theorem tstr36:tstr Try.prog 36=false:=by kernel_rfl
theorem tnoint36:tnoint Try.prog 36=true:=by kernel_rfl
theorem tbool36:tbool Try.prog 36=false:=by kernel_rfl
theorem tany36:tany Try.prog 36=some true:=by kernel_rfl
theorem tintk36:tintk Try.prog 36=false:=by kernel_rfl
theorem tbytes36:tbytes Try.prog 36=false:=by kernel_rfl
theorem tsz37:tsz Try.prog 37=some 4:=by kernel_rfl
theorem tby37:tby Try.prog 37=some 32:=by kernel_rfl
theorem tagg37:tagg Try.prog 37=some true:=by kernel_rfl
theorem tslice37:tslice Try.prog 37=none:=by kernel_rfl
theorem tarr37:tarr Try.prog 37=some (4,3):=by kernel_rfl
theorem tzero37:tzero Try.prog 37=some [AV.int IntKind.i64 0,AV.int IntKind.i64 0,AV.int IntKind.i64 0,AV.int IntKind.i64 0]:=by kernel_rfl
theorem tzn37:tzn Try.prog 37=some 4:=by kernel_rfl
theorem tplaces37:tplaces Try.prog 37=none:=by kernel_rfl
theorem tint37:tint Try.prog 37=none:=by kernel_rfl
theorem tstr37:tstr Try.prog 37=false:=by kernel_rfl
theorem tnoint37:tnoint Try.prog 37=false:=by kernel_rfl
theorem tbool37:tbool Try.prog 37=false:=by kernel_rfl
theorem tany37:tany Try.prog 37=some true:=by kernel_rfl
theorem tintk37:tintk Try.prog 37=false:=by kernel_rfl
theorem tbytes37:tbytes Try.prog 37=false:=by kernel_rfl
theorem tsz38:tsz Try.prog 38=some 1:=by kernel_rfl
theorem tby38:tby Try.prog 38=some 24:=by kernel_rfl
theorem tagg38:tagg Try.prog 38=some false:=by kernel_rfl
theorem tslice38:tslice Try.prog 38=some 5:=by kernel_rfl
theorem tarr38:tarr Try.prog 38=none:=by kernel_rfl
theorem tzero38:tzero Try.prog 38=some [AV.ro 0 0 true fun x x_1=>AV.top]:=by kernel_rfl
theorem tzn38:tzn Try.prog 38=some 1:=by kernel_rfl
theorem tplaces38:tplaces Try.prog 38=none:=by kernel_rfl
theorem tint38:tint Try.prog 38=none:=by kernel_rfl
theorem tstr38:tstr Try.prog 38=false:=by kernel_rfl
theorem tnoint38:tnoint Try.prog 38=true:=by kernel_rfl
theorem tbool38:tbool Try.prog 38=false:=by kernel_rfl
theorem tany38:tany Try.prog 38=some true:=by kernel_rfl
theorem tintk38:tintk Try.prog 38=false:=by kernel_rfl
theorem tbytes38:tbytes Try.prog 38=true:=by kernel_rfl
theorem tsz40:tsz Try.prog 40=some 17:=by kernel_rfl
theorem tby40:tby Try.prog 40=some 200:=by kernel_rfl
theorem tagg40:tagg Try.prog 40=some true:=by kernel_rfl
theorem tslice40:tslice Try.prog 40=none:=by kernel_rfl
theorem tarr40:tarr Try.prog 40=none:=by kernel_rfl
theorem tzero40:tzero Try.prog 40=some [AV.int IntKind.i64 0,AV.int IntKind.i64 0,AV.int IntKind.i64 0,AV.int IntKind.i64 0,AV.int IntKind.i64 0,AV.int IntKind.i64 0,AV.int IntKind.i64 0,AV.ro 0 0 true fun x x_1=>AV.top,AV.ro 0 0 true fun x x_1=>AV.top,AV.int IntKind.i64 0,AV.ro 0 0 true fun x x_1=>AV.top,AV.int IntKind.i64 0,AV.int IntKind.i64 0,AV.int IntKind.i64 0,AV.int IntKind.i64 0,AV.int IntKind.i64 0,AV.ro 0 0 true fun x x_1=>AV.top]:=by kernel_rfl
theorem tzn40:tzn Try.prog 40=some 17:=by kernel_rfl
theorem tplaces40:tplaces Try.prog 40=some [(0,5),(5,4),(9,1),(10,1),(11,1),(12,4),(16,1)]:=by kernel_rfl
theorem tint40:tint Try.prog 40=none:=by kernel_rfl
theorem tstr40:tstr Try.prog 40=false:=by kernel_rfl
theorem tnoint40:tnoint Try.prog 40=false:=by kernel_rfl
theorem tbool40:tbool Try.prog 40=false:=by kernel_rfl
theorem tany40:tany Try.prog 40=some true:=by kernel_rfl
theorem tintk40:tintk Try.prog 40=false:=by kernel_rfl
theorem tbytes40:tbytes Try.prog 40=false:=by kernel_rfl
theorem tfld40_0:tfld Try.prog 40 0=some (23,0,5):=by kernel_rfl
theorem tfld40_1:tfld Try.prog 40 1=some (31,5,4):=by kernel_rfl
theorem tfld40_2:tfld Try.prog 40 2=some (3,9,1):=by kernel_rfl
theorem tfld40_3:tfld Try.prog 40 3=some (36,10,1):=by kernel_rfl
theorem tfld40_4:tfld Try.prog 40 4=some (3,11,1):=by kernel_rfl
theorem tfld40_5:tfld Try.prog 40 5=some (37,12,4):=by kernel_rfl
theorem tfld40_6:tfld Try.prog 40 6=some (38,16,1):=by kernel_rfl
theorem tsz42:tsz Try.prog 42=some 2:=by kernel_rfl
theorem tby42:tby Try.prog 42=some 16:=by kernel_rfl
theorem tagg42:tagg Try.prog 42=some true:=by kernel_rfl
theorem tslice42:tslice Try.prog 42=none:=by kernel_rfl
theorem tarr42:tarr Try.prog 42=none:=by kernel_rfl
theorem tzero42:tzero Try.prog 42=some [AV.int IntKind.i64 0,AV.int IntKind.u8 0]:=by kernel_rfl
theorem tzn42:tzn Try.prog 42=some 2:=by kernel_rfl
theorem tplaces42:tplaces Try.prog 42=some [(0,1),(1,1)]:=by kernel_rfl
theorem tint42:tint Try.prog 42=none:=by kernel_rfl
theorem tstr42:tstr Try.prog 42=false:=by kernel_rfl
theorem tnoint42:tnoint Try.prog 42=false:=by kernel_rfl
theorem tbool42:tbool Try.prog 42=false:=by kernel_rfl
theorem tany42:tany Try.prog 42=some true:=by kernel_rfl
theorem tintk42:tintk Try.prog 42=false:=by kernel_rfl
theorem tbytes42:tbytes Try.prog 42=false:=by kernel_rfl
theorem tfld42_0:tfld Try.prog 42 0=some (3,0,1):=by kernel_rfl
theorem tfld42_1:tfld Try.prog 42 1=some (5,1,1):=by kernel_rfl
theorem tsz46:tsz Try.prog 46=some 6:=by kernel_rfl
theorem tby46:tby Try.prog 46=some 6:=by kernel_rfl
theorem tagg46:tagg Try.prog 46=some true:=by kernel_rfl
theorem tslice46:tslice Try.prog 46=none:=by kernel_rfl
theorem tarr46:tarr Try.prog 46=some (6,5):=by kernel_rfl
theorem tzero46:tzero Try.prog 46=some [AV.int IntKind.u8 0,AV.int IntKind.u8 0,AV.int IntKind.u8 0,AV.int IntKind.u8 0,AV.int IntKind.u8 0,AV.int IntKind.u8 0]:=by kernel_rfl
theorem tzn46:tzn Try.prog 46=some 6:=by kernel_rfl
theorem tplaces46:tplaces Try.prog 46=none:=by kernel_rfl
theorem tint46:tint Try.prog 46=none:=by kernel_rfl
theorem tstr46:tstr Try.prog 46=false:=by kernel_rfl
theorem tnoint46:tnoint Try.prog 46=false:=by kernel_rfl
theorem tbool46:tbool Try.prog 46=false:=by kernel_rfl
theorem tany46:tany Try.prog 46=some true:=by kernel_rfl
theorem tintk46:tintk Try.prog 46=false:=by kernel_rfl
theorem tbytes46:tbytes Try.prog 46=false:=by kernel_rfl
theorem tsz49:tsz Try.prog 49=some 40:=by kernel_rfl
theorem tby49:tby Try.prog 49=some 80:=by kernel_rfl
theorem tagg49:tagg Try.prog 49=some true:=by kernel_rfl
theorem tslice49:tslice Try.prog 49=none:=by kernel_rfl
theorem tarr49:tarr Try.prog 49=none:=by kernel_rfl
theorem tzero49:tzero Try.prog 49=some [AV.int IntKind.u8 0,AV.int IntKind.u8 0,AV.bool false,AV.bool false,AV.bool false,AV.bool false,AV.bool false,AV.bool false,AV.bool false,AV.int IntKind.i64 0,AV.int IntKind.u8 0,AV.int IntKind.u8 0,AV.int IntKind.u8 0,AV.int IntKind.u8 0,AV.int IntKind.u8 0,AV.int IntKind.u8 0,AV.int IntKind.u8 0,AV.int IntKind.u8 0,AV.int IntKind.u8 0,AV.int IntKind.u8 0,AV.int IntKind.u8 0,AV.int IntKind.u8 0,AV.int IntKind.u8 0,AV.int IntKind.u8 0,AV.int IntKind.u8 0,AV.int IntKind.u8 0,AV.int IntKind.u8 0,AV.int IntKind.u8 0,AV.int IntKind.u8 0,AV.int IntKind.u8 0,AV.int IntKind.u8 0,AV.int IntKind.u8 0,AV.int IntKind.u8 0,AV.int IntKind.u8 0,AV.int IntKind.i64 0,AV.int IntKind.i64 0,AV.int IntKind.i64 0,AV.int IntKind.u8 0,AV.bool false,AV.bool false]:=by kernel_rfl
theorem tzn49:tzn Try.prog 49=some 40:=by kernel_rfl
theorem tplaces49:tplaces Try.prog 49=some [(0,1),(1,1),(2,1),(3,1),(4,1),(5,1),(6,1),(7,1),(8,1),(9,1),(10,6),(16,6),(22,6),(28,6),(34,1),(35,1),(36,1),(37,1),(38,1),(39,1)]:=by kernel_rfl
theorem tint49:tint Try.prog 49=none:=by kernel_rfl
theorem tstr49:tstr Try.prog 49=false:=by kernel_rfl
theorem tnoint49:tnoint Try.prog 49=false:=by kernel_rfl
theorem tbool49:tbool Try.prog 49=false:=by kernel_rfl
theorem tany49:tany Try.prog 49=some true:=by kernel_rfl
theorem tintk49:tintk Try.prog 49=false:=by kernel_rfl
theorem tbytes49:tbytes Try.prog 49=false:=by kernel_rfl
theorem tfld49_0:tfld Try.prog 49 0=some (5,0,1):=by kernel_rfl
theorem tfld49_1:tfld Try.prog 49 1=some (5,1,1):=by kernel_rfl
theorem tfld49_2:tfld Try.prog 49 2=some (4,2,1):=by kernel_rfl
theorem tfld49_3:tfld Try.prog 49 3=some (4,3,1):=by kernel_rfl
theorem tfld49_4:tfld Try.prog 49 4=some (4,4,1):=by kernel_rfl
theorem tfld49_5:tfld Try.prog 49 5=some (4,5,1):=by kernel_rfl
theorem tfld49_6:tfld Try.prog 49 6=some (4,6,1):=by kernel_rfl
theorem tfld49_7:tfld Try.prog 49 7=some (4,7,1):=by kernel_rfl
theorem tfld49_8:tfld Try.prog 49 8=some (4,8,1):=by kernel_rfl
theorem tfld49_9:tfld Try.prog 49 9=some (3,9,1):=by kernel_rfl
theorem tfld49_10:tfld Try.prog 49 10=some (46,10,6):=by kernel_rfl
theorem tfld49_11:tfld Try.prog 49 11=some (46,16,6):=by kernel_rfl
theorem tfld49_12:tfld Try.prog 49 12=some (46,22,6):=by kernel_rfl
theorem tfld49_13:tfld Try.prog 49 13=some (46,28,6):=by kernel_rfl
theorem tfld49_14:tfld Try.prog 49 14=some (3,34,1):=by kernel_rfl
theorem tfld49_15:tfld Try.prog 49 15=some (3,35,1):=by kernel_rfl
theorem tfld49_16:tfld Try.prog 49 16=some (3,36,1):=by kernel_rfl
theorem tfld49_17:tfld Try.prog 49 17=some (5,37,1):=by kernel_rfl
theorem tfld49_18:tfld Try.prog 49 18=some (4,38,1):=by kernel_rfl
theorem tfld49_19:tfld Try.prog 49 19=some (4,39,1):=by kernel_rfl
theorem tsz50:tsz Try.prog 50=some 1:=by kernel_rfl
theorem tby50:tby Try.prog 50=some 24:=by kernel_rfl
theorem tagg50:tagg Try.prog 50=some false:=by kernel_rfl
theorem tslice50:tslice Try.prog 50=some 54:=by kernel_rfl
theorem tarr50:tarr Try.prog 50=none:=by kernel_rfl
theorem tzero50:tzero Try.prog 50=some [AV.ro 0 0 true fun x x_1=>AV.top]:=by kernel_rfl
theorem tzn50:tzn Try.prog 50=some 1:=by kernel_rfl
theorem tplaces50:tplaces Try.prog 50=none:=by kernel_rfl
theorem tint50:tint Try.prog 50=none:=by kernel_rfl
theorem tstr50:tstr Try.prog 50=false:=by kernel_rfl
theorem tnoint50:tnoint Try.prog 50=true:=by kernel_rfl
theorem tbool50:tbool Try.prog 50=false:=by kernel_rfl
theorem tany50:tany Try.prog 50=some true:=by kernel_rfl
theorem tintk50:tintk Try.prog 50=false:=by kernel_rfl
theorem tbytes50:tbytes Try.prog 50=false:=by kernel_rfl
theorem tsz54:tsz Try.prog 54=some 41:=by kernel_rfl
theorem tby54:tby Try.prog 54=some 104:=by kernel_rfl
theorem tagg54:tagg Try.prog 54=some true:=by kernel_rfl
theorem tslice54:tslice Try.prog 54=none:=by kernel_rfl
theorem tarr54:tarr Try.prog 54=none:=by kernel_rfl
theorem tzero54:tzero Try.prog 54=some [AV.int IntKind.u8 0,AV.int IntKind.u8 0,AV.bool false,AV.bool false,AV.bool false,AV.bool false,AV.bool false,AV.bool false,AV.bool false,AV.int IntKind.i64 0,AV.int IntKind.u8 0,AV.int IntKind.u8 0,AV.int IntKind.u8 0,AV.int IntKind.u8 0,AV.int IntKind.u8 0,AV.int IntKind.u8 0,AV.int IntKind.u8 0,AV.int IntKind.u8 0,AV.int IntKind.u8 0,AV.int IntKind.u8 0,AV.int IntKind.u8 0,AV.int IntKind.u8 0,AV.int IntKind.u8 0,AV.int IntKind.u8 0,AV.int IntKind.u8 0,AV.int IntKind.u8 0,AV.int IntKind.u8 0,AV.int IntKind.u8 0,AV.int IntKind.u8 0,AV.int IntKind.u8 0,AV.int IntKind.u8 0,AV.int IntKind.u8 0,AV.int IntKind.u8 0,AV.int IntKind.u8 0,AV.int IntKind.i64 0,AV.int IntKind.i64 0,AV.int IntKind.i64 0,AV.int IntKind.u8 0,AV.bool false,AV.bool false,AV.ro 0 0 true fun x x_1=>AV.top]:=by kernel_rfl
theorem tzn54:tzn Try.prog 54=some 41:=by kernel_rfl
theorem tplaces54:tplaces Try.prog 54=some [(0,40),(40,1)]:=by kernel_rfl
theorem tint54:tint Try.prog 54=none:=by kernel_rfl
theorem tstr54:tstr Try.prog 54=false:=by kernel_rfl
theorem tnoint54:tnoint Try.prog 54=false:=by kernel_rfl
theorem tbool54:tbool Try.prog 54=false:=by kernel_rfl
theorem tany54:tany Try.prog 54=some true:=by kernel_rfl
theorem tintk54:tintk Try.prog 54=false:=by kernel_rfl
theorem tbytes54:tbytes Try.prog 54=false:=by kernel_rfl
theorem tfld54_0:tfld Try.prog 54 0=some (49,0,40):=by kernel_rfl
theorem tfld54_1:tfld Try.prog 54 1=some (38,40,1):=by kernel_rfl
theorem tsz61:tsz Try.prog 61=some 2:=by kernel_rfl
theorem tby61:tby Try.prog 61=some 32:=by kernel_rfl
theorem tagg61:tagg Try.prog 61=some true:=by kernel_rfl
theorem tslice61:tslice Try.prog 61=none:=by kernel_rfl
theorem tarr61:tarr Try.prog 61=none:=by kernel_rfl
theorem tzero61:tzero Try.prog 61=some [AV.bool false,AV.ro 0 0 true fun x x_1=>AV.top]:=by kernel_rfl
theorem tzn61:tzn Try.prog 61=some 2:=by kernel_rfl
theorem tplaces61:tplaces Try.prog 61=some [(0,1),(1,1)]:=by kernel_rfl
theorem tint61:tint Try.prog 61=none:=by kernel_rfl
theorem tstr61:tstr Try.prog 61=false:=by kernel_rfl
theorem tnoint61:tnoint Try.prog 61=false:=by kernel_rfl
theorem tbool61:tbool Try.prog 61=false:=by kernel_rfl
theorem tany61:tany Try.prog 61=some true:=by kernel_rfl
theorem tintk61:tintk Try.prog 61=false:=by kernel_rfl
theorem tbytes61:tbytes Try.prog 61=false:=by kernel_rfl
theorem tfld61_0:tfld Try.prog 61 0=some (4,0,1):=by kernel_rfl
theorem tfld61_1:tfld Try.prog 61 1=some (36,1,1):=by kernel_rfl
theorem tsz72:tsz Try.prog 72=some 3:=by kernel_rfl
theorem tby72:tby Try.prog 72=some 40:=by kernel_rfl
theorem tagg72:tagg Try.prog 72=some true:=by kernel_rfl
theorem tslice72:tslice Try.prog 72=none:=by kernel_rfl
theorem tarr72:tarr Try.prog 72=none:=by kernel_rfl
theorem tzero72:tzero Try.prog 72=some [AV.int IntKind.i64 0,AV.bool false,AV.ro 0 0 true fun x x_1=>AV.top]:=by kernel_rfl
theorem tzn72:tzn Try.prog 72=some 3:=by kernel_rfl
theorem tplaces72:tplaces Try.prog 72=some [(0,1),(1,1),(2,1)]:=by kernel_rfl
theorem tint72:tint Try.prog 72=none:=by kernel_rfl
theorem tstr72:tstr Try.prog 72=false:=by kernel_rfl
theorem tnoint72:tnoint Try.prog 72=false:=by kernel_rfl
theorem tbool72:tbool Try.prog 72=false:=by kernel_rfl
theorem tany72:tany Try.prog 72=some true:=by kernel_rfl
theorem tintk72:tintk Try.prog 72=false:=by kernel_rfl
theorem tbytes72:tbytes Try.prog 72=false:=by kernel_rfl
theorem tfld72_0:tfld Try.prog 72 0=some (3,0,1):=by kernel_rfl
theorem tfld72_1:tfld Try.prog 72 1=some (4,1,1):=by kernel_rfl
theorem tfld72_2:tfld Try.prog 72 2=some (29,2,1):=by kernel_rfl
theorem tsz73:tsz Try.prog 73=some 1:=by kernel_rfl
theorem tby73:tby Try.prog 73=some 8:=by kernel_rfl
theorem tagg73:tagg Try.prog 73=some false:=by kernel_rfl
theorem tslice73:tslice Try.prog 73=none:=by kernel_rfl
theorem tarr73:tarr Try.prog 73=none:=by kernel_rfl
theorem tzero73:tzero Try.prog 73=some [AV.nilp]:=by kernel_rfl
theorem tzn73:tzn Try.prog 73=some 1:=by kernel_rfl
theorem tplaces73:tplaces Try.prog 73=none:=by kernel_rfl
theorem tint73:tint Try.prog 73=none:=by kernel_rfl
theorem tstr73:tstr Try.prog 73=false:=by kernel_rfl
theorem tnoint73:tnoint Try.prog 73=false:=by kernel_rfl
theorem tbool73:tbool Try.prog 73=false:=by kernel_rfl
theorem tany73:tany Try.prog 73=some true:=by kernel_rfl
theorem tintk73:tintk Try.prog 73=false:=by kernel_rfl
theorem tbytes73:tbytes Try.prog 73=false:=by kernel_rfl
theorem tsz74:tsz Try.prog 74=some 1:=by kernel_rfl
theorem tby74:tby Try.prog 74=some 8:=by kernel_rfl
theorem tagg74:tagg Try.prog 74=some false:=by kernel_rfl
theorem tslice74:tslice Try.prog 74=none:=by kernel_rfl
theorem tarr74:tarr Try.prog 74=none:=by kernel_rfl
theorem tzero74:tzero Try.prog 74=some [AV.nilp]:=by kernel_rfl
theorem tzn74:tzn Try.prog 74=some 1:=by kernel_rfl
theorem tplaces74:tplaces Try.prog 74=none:=by kernel_rfl
theorem tint74:tint Try.prog 74=none:=by kernel_rfl
theorem tstr74:tstr Try.prog 74=false:=by kernel_rfl
theorem tnoint74:tnoint Try.prog 74=false:=by kernel_rfl
theorem tbool74:tbool Try.prog 74=false:=by kernel_rfl
theorem tany74:tany Try.prog 74=some true:=by kernel_rfl
theorem tintk74:tintk Try.prog 74=false:=by kernel_rfl
theorem tbytes74:tbytes Try.prog 74=false:=by kernel_rfl
theorem tsz80:tsz Try.prog 80=some 1:=by kernel_rfl
theorem tby80:tby Try.prog 80=some 8:=by kernel_rfl
theorem tagg80:tagg Try.prog 80=some false:=by kernel_rfl
theorem tslice80:tslice Try.prog 80=none:=by kernel_rfl
theorem tarr80:tarr Try.prog 80=none:=by kernel_rfl
theorem tzero80:tzero Try.prog 80=some [AV.nilp]:=by kernel_rfl
theorem tzn80:tzn Try.prog 80=some 1:=by kernel_rfl
theorem tplaces80:tplaces Try.prog 80=none:=by kernel_rfl
theorem tint80:tint Try.prog 80=none:=by kernel_rfl
theorem tstr80:tstr Try.prog 80=false:=by kernel_rfl
theorem tnoint80:tnoint Try.prog 80=false:=by kernel_rfl
theorem tbool80:tbool Try.prog 80=false:=by kernel_rfl
theorem tany80:tany Try.prog 80=some true:=by kernel_rfl
theorem tintk80:tintk Try.prog 80=false:=by kernel_rfl
theorem tbytes80:tbytes Try.prog 80=false:=by kernel_rfl
theorem tsz82:tsz Try.prog 82=some 43:=by kernel_rfl
theorem tby82:tby Try.prog 82=some 120:=by kernel_rfl
theorem tagg82:tagg Try.prog 82=some true:=by kernel_rfl
theorem tslice82:tslice Try.prog 82=none:=by kernel_rfl
theorem tarr82:tarr Try.prog 82=none:=by kernel_rfl
theorem tzero82:tzero Try.prog 82=some [AV.int IntKind.u8 0,AV.int IntKind.i64 0,AV.int IntKind.u8 0,AV.int IntKind.u8 0,AV.bool false,AV.bool false,AV.bool false,AV.bool false,AV.bool false,AV.bool false,AV.bool false,AV.int IntKind.i64 0,AV.int IntKind.u8 0,AV.int IntKind.u8 0,AV.int IntKind.u8 0,AV.int IntKind.u8 0,AV.int IntKind.u8 0,AV.int IntKind.u8 0,AV.int IntKind.u8 0,AV.int IntKind.u8 0,AV.int IntKind.u8 0,AV.int IntKind.u8 0,AV.int IntKind.u8 0,AV.int IntKind.u8 0,AV.int IntKind.u8 0,AV.int IntKind.u8 0,AV.int IntKind.u8 0,AV.int IntKind.u8 0,AV.int IntKind.u8 0,AV.int IntKind.u8 0,AV.int IntKind.u8 0,AV.int IntKind.u8 0,AV.int IntKind.u8 0,AV.int IntKind.u8 0,AV.int IntKind.u8 0,AV.int IntKind.u8 0,AV.int IntKind.i64 0,AV.int IntKind.i64 0,AV.int IntKind.i64 0,AV.int IntKind.u8 0,AV.bool false,AV.bool false,AV.ro 0 0 true fun x x_1=>AV.top]:=by kernel_rfl
theorem tzn82:tzn Try.prog 82=some 43:=by kernel_rfl
theorem tplaces82:tplaces Try.prog 82=some [(0,1),(1,1),(2,41)]:=by kernel_rfl
theorem tint82:tint Try.prog 82=none:=by kernel_rfl
theorem tstr82:tstr Try.prog 82=false:=by kernel_rfl
theorem tnoint82:tnoint Try.prog 82=false:=by kernel_rfl
theorem tbool82:tbool Try.prog 82=false:=by kernel_rfl
theorem tany82:tany Try.prog 82=some true:=by kernel_rfl
theorem tintk82:tintk Try.prog 82=false:=by kernel_rfl
theorem tbytes82:tbytes Try.prog 82=false:=by kernel_rfl
theorem tfld82_0:tfld Try.prog 82 0=some (5,0,1):=by kernel_rfl
theorem tfld82_1:tfld Try.prog 82 1=some (3,1,1):=by kernel_rfl
theorem tfld82_2:tfld Try.prog 82 2=some (54,2,41):=by kernel_rfl
theorem tsz91:tsz Try.prog 91=some 1:=by kernel_rfl
theorem tby91:tby Try.prog 91=some 8:=by kernel_rfl
theorem tagg91:tagg Try.prog 91=some false:=by kernel_rfl
theorem tslice91:tslice Try.prog 91=none:=by kernel_rfl
theorem tarr91:tarr Try.prog 91=none:=by kernel_rfl
theorem tzero91:tzero Try.prog 91=some [AV.nilf]:=by kernel_rfl
theorem tzn91:tzn Try.prog 91=some 1:=by kernel_rfl
theorem tplaces91:tplaces Try.prog 91=none:=by kernel_rfl
theorem tint91:tint Try.prog 91=none:=by kernel_rfl
theorem tstr91:tstr Try.prog 91=false:=by kernel_rfl
theorem tnoint91:tnoint Try.prog 91=false:=by kernel_rfl
theorem tbool91:tbool Try.prog 91=false:=by kernel_rfl
theorem tany91:tany Try.prog 91=some true:=by kernel_rfl
theorem tintk91:tintk Try.prog 91=false:=by kernel_rfl
theorem tbytes91:tbytes Try.prog 91=false:=by kernel_rfl
theorem tsz93:tsz Try.prog 93=some 1:=by kernel_rfl
theorem tby93:tby Try.prog 93=some 8:=by kernel_rfl
theorem tagg93:tagg Try.prog 93=some false:=by kernel_rfl
theorem tslice93:tslice Try.prog 93=none:=by kernel_rfl
theorem tarr93:tarr Try.prog 93=none:=by kernel_rfl
theorem tzero93:tzero Try.prog 93=some [AV.nilf]:=by kernel_rfl
theorem tzn93:tzn Try.prog 93=some 1:=by kernel_rfl
theorem tplaces93:tplaces Try.prog 93=none:=by kernel_rfl
theorem tint93:tint Try.prog 93=none:=by kernel_rfl
theorem tstr93:tstr Try.prog 93=false:=by kernel_rfl
theorem tnoint93:tnoint Try.prog 93=false:=by kernel_rfl
theorem tbool93:tbool Try.prog 93=false:=by kernel_rfl
theorem tany93:tany Try.prog 93=some true:=by kernel_rfl
theorem tintk93:tintk Try.prog 93=false:=by kernel_rfl
theorem tbytes93:tbytes Try.prog 93=false:=by kernel_rfl
theorem tsz100:tsz Try.prog 100=some 1:=by kernel_rfl
theorem tby100:tby Try.prog 100=some 8:=by kernel_rfl
theorem tagg100:tagg Try.prog 100=some false:=by kernel_rfl
theorem tslice100:tslice Try.prog 100=none:=by kernel_rfl
theorem tarr100:tarr Try.prog 100=none:=by kernel_rfl
theorem tzero100:tzero Try.prog 100=some [AV.nilf]:=by kernel_rfl
theorem tzn100:tzn Try.prog 100=some 1:=by kernel_rfl
theorem tplaces100:tplaces Try.prog 100=none:=by kernel_rfl
theorem tint100:tint Try.prog 100=none:=by kernel_rfl
theorem tstr100:tstr Try.prog 100=false:=by kernel_rfl
theorem tnoint100:tnoint Try.prog 100=false:=by kernel_rfl
theorem tbool100:tbool Try.prog 100=false:=by kernel_rfl
theorem tany100:tany Try.prog 100=some true:=by kernel_rfl
theorem tintk100:tintk Try.prog 100=false:=by kernel_rfl
theorem tbytes100:tbytes Try.prog 100=false:=by kernel_rfl
theorem tsz106:tsz Try.prog 106=some 1:=by kernel_rfl
theorem tby106:tby Try.prog 106=some 8:=by kernel_rfl
theorem tagg106:tagg Try.prog 106=some false:=by kernel_rfl
theorem tslice106:tslice Try.prog 106=none:=by kernel_rfl
theorem tarr106:tarr Try.prog 106=none:=by kernel_rfl
theorem tzero106:tzero Try.prog 106=some [AV.nilf]:=by kernel_rfl
theorem tzn106:tzn Try.prog 106=some 1:=by kernel_rfl
theorem tplaces106:tplaces Try.prog 106=none:=by kernel_rfl
theorem tint106:tint Try.prog 106=none:=by kernel_rfl
theorem tstr106:tstr Try.prog 106=false:=by kernel_rfl
theorem tnoint106:tnoint Try.prog 106=false:=by kernel_rfl
theorem tbool106:tbool Try.prog 106=false:=by kernel_rfl
theorem tany106:tany Try.prog 106=some true:=by kernel_rfl
theorem tintk106:tintk Try.prog 106=false:=by kernel_rfl
theorem tbytes106:tbytes Try.prog 106=false:=by kernel_rfl
theorem tsz115:tsz Try.prog 115=some 1:=by kernel_rfl
theorem tby115:tby Try.prog 115=some 8:=by kernel_rfl
theorem tagg115:tagg Try.prog 115=some false:=by kernel_rfl
theorem tslice115:tslice Try.prog 115=none:=by kernel_rfl
theorem tarr115:tarr Try.prog 115=none:=by kernel_rfl
theorem tzero115:tzero Try.prog 115=some [AV.nilf]:=by kernel_rfl
theorem tzn115:tzn Try.prog 115=some 1:=by kernel_rfl
theorem tplaces115:tplaces Try.prog 115=none:=by kernel_rfl
theorem tint115:tint Try.prog 115=none:=by kernel_rfl
theorem tstr115:tstr Try.prog 115=false:=by kernel_rfl
theorem tnoint115:tnoint Try.prog 115=false:=by kernel_rfl
theorem tbool115:tbool Try.prog 115=false:=by kernel_rfl
theorem tany115:tany Try.prog 115=some true:=by kernel_rfl
theorem tintk115:tintk Try.prog 115=false:=by kernel_rfl
theorem tbytes115:tbytes Try.prog 115=false:=by kernel_rfl
theorem tsz116:tsz Try.prog 116=some 1:=by kernel_rfl
theorem tby116:tby Try.prog 116=some 8:=by kernel_rfl
theorem tagg116:tagg Try.prog 116=some false:=by kernel_rfl
theorem tslice116:tslice Try.prog 116=none:=by kernel_rfl
theorem tarr116:tarr Try.prog 116=none:=by kernel_rfl
theorem tzero116:tzero Try.prog 116=some [AV.int IntKind.u64 0]:=by kernel_rfl
theorem tzn116:tzn Try.prog 116=some 1:=by kernel_rfl
theorem tplaces116:tplaces Try.prog 116=none:=by kernel_rfl
theorem tint116:tint Try.prog 116=some IntKind.u64:=by kernel_rfl
theorem tstr116:tstr Try.prog 116=false:=by kernel_rfl
theorem tnoint116:tnoint Try.prog 116=false:=by kernel_rfl
theorem tbool116:tbool Try.prog 116=false:=by kernel_rfl
theorem tany116:tany Try.prog 116=some true:=by kernel_rfl
theorem tintk116:tintk Try.prog 116=true:=by kernel_rfl
theorem tbytes116:tbytes Try.prog 116=false:=by kernel_rfl
theorem tsz117:tsz Try.prog 117=some 1:=by kernel_rfl
theorem tby117:tby Try.prog 117=some 8:=by kernel_rfl
theorem tagg117:tagg Try.prog 117=some false:=by kernel_rfl
theorem tslice117:tslice Try.prog 117=none:=by kernel_rfl
theorem tarr117:tarr Try.prog 117=none:=by kernel_rfl
theorem tzero117:tzero Try.prog 117=some [AV.nilf]:=by kernel_rfl
theorem tzn117:tzn Try.prog 117=some 1:=by kernel_rfl
theorem tplaces117:tplaces Try.prog 117=none:=by kernel_rfl
theorem tint117:tint Try.prog 117=none:=by kernel_rfl
theorem tstr117:tstr Try.prog 117=false:=by kernel_rfl
theorem tnoint117:tnoint Try.prog 117=false:=by kernel_rfl
theorem tbool117:tbool Try.prog 117=false:=by kernel_rfl
theorem tany117:tany Try.prog 117=some true:=by kernel_rfl
theorem tintk117:tintk Try.prog 117=false:=by kernel_rfl
theorem tbytes117:tbytes Try.prog 117=false:=by kernel_rfl
theorem tsz118:tsz Try.prog 118=some 4:=by kernel_rfl
theorem tby118:tby Try.prog 118=some 32:=by kernel_rfl
theorem tagg118:tagg Try.prog 118=some true:=by kernel_rfl
theorem tslice118:tslice Try.prog 118=none:=by kernel_rfl
theorem tarr118:tarr Try.prog 118=some (4,117):=by kernel_rfl
theorem tzero118:tzero Try.prog 118=some [AV.nilf,AV.nilf,AV.nilf,AV.nilf]:=by kernel_rfl
theorem tzn118:tzn Try.prog 118=some 4:=by kernel_rfl
theorem tplaces118:tplaces Try.prog 118=none:=by kernel_rfl
theorem tint118:tint Try.prog 118=none:=by kernel_rfl
theorem tstr118:tstr Try.prog 118=false:=by kernel_rfl
theorem tnoint118:tnoint Try.prog 118=false:=by kernel_rfl
theorem tbool118:tbool Try.prog 118=false:=by kernel_rfl
theorem tany118:tany Try.prog 118=some true:=by kernel_rfl
theorem tintk118:tintk Try.prog 118=false:=by kernel_rfl
theorem tbytes118:tbytes Try.prog 118=false:=by kernel_rfl
theorem tsz121:tsz Try.prog 121=some 32:=by kernel_rfl
theorem tby121:tby Try.prog 121=some 32:=by kernel_rfl
theorem tagg121:tagg Try.prog 121=some true:=by kernel_rfl
theorem tslice121:tslice Try.prog 121=none:=by kernel_rfl
theorem tarr121:tarr Try.prog 121=some (32,5):=by kernel_rfl
theorem tzero121:tzero Try.prog 121=some [AV.int IntKind.u8 0,AV.int IntKind.u8 0,AV.int IntKind.u8 0,AV.int IntKind.u8 0,AV.int IntKind.u8 0,AV.int IntKind.u8 0,AV.int IntKind.u8 0,AV.int IntKind.u8 0,AV.int IntKind.u8 0,AV.int IntKind.u8 0,AV.int IntKind.u8 0,AV.int IntKind.u8 0,AV.int IntKind.u8 0,AV.int IntKind.u8 0,AV.int IntKind.u8 0,AV.int IntKind.u8 0,AV.int IntKind.u8 0,AV.int IntKind.u8 0,AV.int IntKind.u8 0,AV.int IntKind.u8 0,AV.int IntKind.u8 0,AV.int IntKind.u8 0,AV.int IntKind.u8 0,AV.int IntKind.u8 0,AV.int IntKind.u8 0,AV.int IntKind.u8 0,AV.int IntKind.u8 0,AV.int IntKind.u8 0,AV.int IntKind.u8 0,AV.int IntKind.u8 0,AV.int IntKind.u8 0,AV.int IntKind.u8 0]:=by kernel_rfl
theorem tzn121:tzn Try.prog 121=some 32:=by kernel_rfl
theorem tplaces121:tplaces Try.prog 121=none:=by kernel_rfl
theorem tint121:tint Try.prog 121=none:=by kernel_rfl
theorem tstr121:tstr Try.prog 121=false:=by kernel_rfl
theorem tnoint121:tnoint Try.prog 121=false:=by kernel_rfl
theorem tbool121:tbool Try.prog 121=false:=by kernel_rfl
theorem tany121:tany Try.prog 121=some true:=by kernel_rfl
theorem tintk121:tintk Try.prog 121=false:=by kernel_rfl
theorem tbytes121:tbytes Try.prog 121=false:=by kernel_rfl
theorem tsz123:tsz Try.prog 123=some 1:=by kernel_rfl
theorem tby123:tby Try.prog 123=some 8:=by kernel_rfl
theorem tagg123:tagg Try.prog 123=some false:=by kernel_rfl
theorem tslice123:tslice Try.prog 123=none:=by kernel_rfl
theorem tarr123:tarr Try.prog 123=none:=by kernel_rfl
theorem tzero123:tzero Try.prog 123=some [AV.nilf]:=by kernel_rfl
theorem tzn123:tzn Try.prog 123=some 1:=by kernel_rfl
theorem tplaces123:tplaces Try.prog 123=none:=by kernel_rfl
theorem tint123:tint Try.prog 123=none:=by kernel_rfl
theorem tstr123:tstr Try.prog 123=false:=by kernel_rfl
theorem tnoint123:tnoint Try.prog 123=false:=by kernel_rfl
theorem tbool123:tbool Try.prog 123=false:=by kernel_rfl
theorem tany123:tany Try.prog 123=some true:=by kernel_rfl
theorem tintk123:tintk Try.prog 123=false:=by kernel_rfl
theorem tbytes123:tbytes Try.prog 123=false:=by kernel_rfl
theorem tsz124:tsz Try.prog 124=some 1:=by kernel_rfl
theorem tby124:tby Try.prog 124=some 8:=by kernel_rfl
theorem tagg124:tagg Try.prog 124=some false:=by kernel_rfl
theorem tslice124:tslice Try.prog 124=none:=by kernel_rfl
theorem tarr124:tarr Try.prog 124=none:=by kernel_rfl
theorem tzero124:tzero Try.prog 124=some [AV.nilf]:=by kernel_rfl
theorem tzn124:tzn Try.prog 124=some 1:=by kernel_rfl
theorem tplaces124:tplaces Try.prog 124=none:=by kernel_rfl
theorem tint124:tint Try.prog 124=none:=by kernel_rfl
theorem tstr124:tstr Try.prog 124=false:=by kernel_rfl
theorem tnoint124:tnoint Try.prog 124=false:=by kernel_rfl
theorem tbool124:tbool Try.prog 124=false:=by kernel_rfl
theorem tany124:tany Try.prog 124=some true:=by kernel_rfl
theorem tintk124:tintk Try.prog 124=false:=by kernel_rfl
theorem tbytes124:tbytes Try.prog 124=false:=by kernel_rfl
end Go.Proofs.Ytooepgpfaaddbaa

/-
  Facts of the types that the walks meet: sizes, places, zero values.
-/
import Derived.Test.YtdcepineppafpaaPm10
import Derived.Test.YtdcepineppafpaaProg
namespace Go.Proofs.Ytdcepineppafpaa
open Go.Am
set_option linter.unusedVariables false
theorem tsz3:tsz Try.prog 3=some 1:=by kernel_rfl
theorem tby3:tby Try.prog 3=some 8:=by kernel_rfl
theorem tagg3:tagg Try.prog 3=some false:=by kernel_rfl
theorem tslice3:tslice Try.prog 3=none:=by kernel_rfl
theorem tarr3:tarr Try.prog 3=none:=by kernel_rfl
theorem tzero3:tzero Try.prog 3=some [AV.int IntKind.i64 0]:=by kernel_rfl
theorem tzn3:tzn Try.prog 3=some 1:=by kernel_rfl
theorem tplaces3:tplaces Try.prog 3=none:=by kernel_rfl
theorem tint3:tint Try.prog 3=some IntKind.i64:=by kernel_rfl
theorem tstr3:tstr Try.prog 3=false:=by kernel_rfl
theorem tnoint3:tnoint Try.prog 3=false:=by kernel_rfl
theorem tbool3:tbool Try.prog 3=false:=by kernel_rfl
theorem tany3:tany Try.prog 3=some true:=by kernel_rfl
theorem tintk3:tintk Try.prog 3=true:=by kernel_rfl
theorem tbytes3:tbytes Try.prog 3=false:=by kernel_rfl
theorem tsz4:tsz Try.prog 4=some 1:=by kernel_rfl
theorem tby4:tby Try.prog 4=some 1:=by kernel_rfl
theorem tagg4:tagg Try.prog 4=some false:=by kernel_rfl
theorem tslice4:tslice Try.prog 4=none:=by kernel_rfl
theorem tarr4:tarr Try.prog 4=none:=by kernel_rfl
theorem tzero4:tzero Try.prog 4=some [AV.bool false]:=by kernel_rfl
theorem tzn4:tzn Try.prog 4=some 1:=by kernel_rfl
theorem tplaces4:tplaces Try.prog 4=none:=by kernel_rfl
theorem tint4:tint Try.prog 4=none:=by kernel_rfl
theorem tstr4:tstr Try.prog 4=false:=by kernel_rfl
theorem tnoint4:tnoint Try.prog 4=false:=by kernel_rfl
theorem tbool4:tbool Try.prog 4=true:=by kernel_rfl
theorem tany4:tany Try.prog 4=some true:=by kernel_rfl
theorem tintk4:tintk Try.prog 4=false:=by kernel_rfl
theorem tbytes4:tbytes Try.prog 4=false:=by kernel_rfl
theorem tsz5:tsz Try.prog 5=some 1:=by kernel_rfl
theorem tby5:tby Try.prog 5=some 1:=by kernel_rfl
theorem tagg5:tagg Try.prog 5=some false:=by kernel_rfl
theorem tslice5:tslice Try.prog 5=none:=by kernel_rfl
theorem tarr5:tarr Try.prog 5=none:=by kernel_rfl
theorem tzero5:tzero Try.prog 5=some [AV.int IntKind.u8 0]:=by kernel_rfl
theorem tzn5:tzn Try.prog 5=some 1:=by kernel_rfl
theorem tplaces5:tplaces Try.prog 5=none:=by kernel_rfl
theorem tint5:tint Try.prog 5=some IntKind.u8:=by kernel_rfl
theorem tstr5:tstr Try.prog 5=false:=by kernel_rfl
theorem tnoint5:tnoint Try.prog 5=false:=by kernel_rfl
theorem tbool5:tbool Try.prog 5=false:=by kernel_rfl
theorem tany5:tany Try.prog 5=some true:=by kernel_rfl
theorem tintk5:tintk Try.prog 5=true:=by kernel_rfl
theorem tbytes5:tbytes Try.prog 5=false:=by kernel_rfl
theorem tsz23:tsz Try.prog 23=some 6:=by kernel_rfl
theorem tby23:tby Try.prog 23=some 6:=by kernel_rfl
theorem tagg23:tagg Try.prog 23=some true:=by kernel_rfl
theorem tslice23:tslice Try.prog 23=none:=by kernel_rfl
theorem tarr23:tarr Try.prog 23=some (6,5):=by kernel_rfl
theorem tzero23:tzero Try.prog 23=some [AV.int IntKind.u8 0,AV.int IntKind.u8 0,AV.int IntKind.u8 0,AV.int IntKind.u8 0,AV.int IntKind.u8 0,AV.int IntKind.u8 0]:=by kernel_rfl
theorem tzn23:tzn Try.prog 23=some 6:=by kernel_rfl
theorem tplaces23:tplaces Try.prog 23=none:=by kernel_rfl
theorem tint23:tint Try.prog 23=none:=by kernel_rfl
theorem tstr23:tstr Try.prog 23=false:=by kernel_rfl
theorem tnoint23:tnoint Try.prog 23=false:=by kernel_rfl
theorem tbool23:tbool Try.prog 23=false:=by kernel_rfl
theorem tany23:tany Try.prog 23=some true:=by kernel_rfl
theorem tintk23:tintk Try.prog 23=false:=by kernel_rfl
theorem tbytes23:tbytes Try.prog 23=false:=by kernel_rfl
theorem tsz25:tsz Try.prog 25=some 10:=by kernel_rfl
theorem tby25:tby Try.prog 25=some 40:=by kernel_rfl
theorem tagg25:tagg Try.prog 25=some true:=by kernel_rfl
theorem tslice25:tslice Try.prog 25=none:=by kernel_rfl
theorem tarr25:tarr Try.prog 25=none:=by kernel_rfl
theorem tzero25:tzero Try.prog 25=some [AV.int IntKind.u8 0,AV.int IntKind.u8 0,AV.int IntKind.u8 0,AV.int IntKind.u8 0,AV.int IntKind.u8 0,AV.int IntKind.u8 0,AV.int IntKind.i64 0,AV.int IntKind.i64 0,AV.int IntKind.i64 0,AV.bool false]:=by kernel_rfl
theorem tzn25:tzn Try.prog 25=some 10:=by kernel_rfl
theorem tplaces25:tplaces Try.prog 25=some [(0,6),(6,1),(7,1),(8,1),(9,1)]:=by kernel_rfl
theorem tint25:tint Try.prog 25=none:=by kernel_rfl
theorem tstr25:tstr Try.prog 25=false:=by kernel_rfl
theorem tnoint25:tnoint Try.prog 25=false:=by kernel_rfl
theorem tbool25:tbool Try.prog 25=false:=by kernel_rfl
theorem tany25:tany Try.prog 25=some true:=by kernel_rfl
theorem tintk25:tintk Try.prog 25=false:=by kernel_rfl
theorem tbytes25:tbytes Try.prog 25=false:=by kernel_rfl
theorem tfld25_0:tfld Try.prog 25 0=some (23,0,6):=by kernel_rfl
theorem tfld25_1:tfld Try.prog 25 1=some (3,6,1):=by kernel_rfl
theorem tfld25_2:tfld Try.prog 25 2=some (3,7,1):=by kernel_rfl
theorem tfld25_3:tfld Try.prog 25 3=some (3,8,1):=by kernel_rfl
theorem tfld25_4:tfld Try.prog 25 4=some (4,9,1):=by kernel_rfl
theorem tsz26:tsz Try.prog 26=some 1:=by kernel_rfl
theorem tby26:tby Try.prog 26=some 24:=by kernel_rfl
theorem tagg26:tagg Try.prog 26=some false:=by kernel_rfl
theorem tslice26:tslice Try.prog 26=some 5:=by kernel_rfl
theorem tarr26:tarr Try.prog 26=none:=by kernel_rfl
theorem tzero26:tzero Try.prog 26=some [AV.ro 0 0 true fun x x_1=>AV.top]:=by kernel_rfl
theorem tzn26:tzn Try.prog 26=some 1:=by kernel_rfl
theorem tplaces26:tplaces Try.prog 26=none:=by kernel_rfl
theorem tint26:tint Try.prog 26=none:=by kernel_rfl
theorem tstr26:tstr Try.prog 26=false:=by kernel_rfl
theorem tnoint26:tnoint Try.prog 26=true:=by kernel_rfl
theorem tbool26:tbool Try.prog 26=false:=by kernel_rfl
theorem tany26:tany Try.prog 26=some true:=by kernel_rfl
theorem tintk26:tintk Try.prog 26=false:=by kernel_rfl
theorem tbytes26:tbytes Try.prog 26=true:=by kernel_rfl
theorem tsz27:tsz Try.prog 27=some 1:=by kernel_rfl
theorem tby27:tby Try.prog 27=some 8:=by kernel_rfl
theorem tagg27:tagg Try.prog 27=some false:=by kernel_rfl
theorem tslice27:tslice Try.prog 27=none:=by kernel_rfl
theorem tarr27:tarr Try.prog 27=none:=by kernel_rfl
theorem tzero27:tzero Try.prog 27=some [AV.int IntKind.i64 0]:=by kernel_rfl
theorem tzn27:tzn Try.prog 27=some 1:=by kernel_rfl
theorem tplaces27:tplaces Try.prog 27=none:=by kernel_rfl
theorem tint27:tint Try.prog 27=some IntKind.i64:=by kernel_rfl
theorem tstr27:tstr Try.prog 27=false:=by kernel_rfl
theorem tnoint27:tnoint Try.prog 27=false:=by kernel_rfl
theorem tbool27:tbool Try.prog 27=false:=by kernel_rfl
theorem tany27:tany Try.prog 27=some true:=by kernel_rfl
theorem tintk27:tintk Try.prog 27=true:=by kernel_rfl
theorem tbytes27:tbytes Try.prog 27=false:=by kernel_rfl
theorem tsz38:tsz Try.prog 38=some 1:=by kernel_rfl
theorem tby38:tby Try.prog 38=some 24:=by kernel_rfl
theorem tagg38:tagg Try.prog 38=some false:=by kernel_rfl
theorem tslice38:tslice Try.prog 38=some 62:=by kernel_rfl
theorem tarr38:tarr Try.prog 38=none:=by kernel_rfl
theorem tzero38:tzero Try.prog 38=some [AV.ro 0 0 true fun x x_1=>AV.top]:=by kernel_rfl
theorem tzn38:tzn Try.prog 38=some 1:=by kernel_rfl
theorem tplaces38:tplaces Try.prog 38=none:=by kernel_rfl
theorem tint38:tint Try.prog 38=none:=by kernel_rfl
theorem tstr38:tstr Try.prog 38=false:=by kernel_rfl
theorem tnoint38:tnoint Try.prog 38=true:=by kernel_rfl
theorem tbool38:tbool Try.prog 38=false:=by kernel_rfl
theorem tany38:tany Try.prog 38=some true:=by kernel_rfl
theorem tintk38:tintk Try.prog 38=false:=by kernel_rfl
theorem tbytes38:tbytes Try.prog 38=false:=by kernel_rfl
theorem tsz39:tsz Try.prog 39=some 1:=by kernel_rfl
theorem tby39:tby Try.prog 39=some 24:=by kernel_rfl
theorem tagg39:tagg Try.prog 39=some false:=by kernel_rfl
theorem tslice39:tslice Try.prog 39=some 64:=by kernel_rfl
theorem tarr39:tarr Try.prog 39=none:=by kernel_rfl
theorem tzero39:tzero Try.prog 39=some [AV.ro 0 0 true fun x x_1=>AV.top]:=by kernel_rfl
theorem tzn39:tzn Try.prog 39=some 1:=by kernel_rfl
theorem tplaces39:tplaces Try.prog 39=none:=by kernel_rfl
theorem tint39:tint Try.prog 39=none:=by kernel_rfl
theorem tstr39:tstr Try.prog 39=false:=by kernel_rfl
theorem tnoint39:tnoint Try.prog 39=true:=by kernel_rfl
theorem tbool39:tbool Try.prog 39=false:=by kernel_rfl
theorem tany39:tany Try.prog 39=some true:=by kernel_rfl
theorem tintk39:tintk Try.prog 39=false:=by kernel_rfl
theorem tbytes39:tbytes Try.prog 39=false:=by kernel_rfl
theorem tsz41:tsz Try.prog 41=some 11:=by kernel_rfl
theorem tby41:tby Try.prog 41=some 64:=by kernel_rfl
theorem tagg41:tagg Try.prog 41=some true:=by kernel_rfl
theorem tslice41:tslice Try.prog 41=none:=by kernel_rfl
theorem tarr41:tarr Try.prog 41=none:=by kernel_rfl
theorem tzero41:tzero Try.prog 41=some [AV.int IntKind.u8 0,AV.int IntKind.u8 0,AV.int IntKind.u8 0,AV.int IntKind.u8 0,AV.int IntKind.u8 0,AV.int IntKind.u8 0,AV.bool false,AV.bool false,AV.int IntKind.i64 0,AV.ro 0 0 true fun x x_1=>AV.top,AV.ro 0 0 true fun x x_1=>AV.top]:=by kernel_rfl
theorem tzn41:tzn Try.prog 41=some 11:=by kernel_rfl
theorem tplaces41:tplaces Try.prog 41=some [(0,6),(6,1),(7,1),(8,1),(9,1),(10,1)]:=by kernel_rfl
theorem tint41:tint Try.prog 41=none:=by kernel_rfl
theorem tstr41:tstr Try.prog 41=false:=by kernel_rfl
theorem tnoint41:tnoint Try.prog 41=false:=by kernel_rfl
theorem tbool41:tbool Try.prog 41=false:=by kernel_rfl
theorem tany41:tany Try.prog 41=some true:=by kernel_rfl
theorem tintk41:tintk Try.prog 41=false:=by kernel_rfl
theorem tbytes41:tbytes Try.prog 41=false:=by kernel_rfl
theorem tfld41_0:tfld Try.prog 41 0=some (23,0,6):=by kernel_rfl
theorem tfld41_1:tfld Try.prog 41 1=some (4,6,1):=by kernel_rfl
theorem tfld41_2:tfld Try.prog 41 2=some (4,7,1):=by kernel_rfl
theorem tfld41_3:tfld Try.prog 41 3=some (3,8,1):=by kernel_rfl
theorem tfld41_4:tfld Try.prog 41 4=some (38,9,1):=by kernel_rfl
theorem tfld41_5:tfld Try.prog 41 5=some (39,10,1):=by kernel_rfl
theorem tsz48:tsz Try.prog 48=some 1:=by kernel_rfl
theorem tby48:tby Try.prog 48=some 24:=by kernel_rfl
theorem tagg48:tagg Try.prog 48=some false:=by kernel_rfl
theorem tslice48:tslice Try.prog 48=some 25:=by kernel_rfl
theorem tarr48:tarr Try.prog 48=none:=by kernel_rfl
theorem tzero48:tzero Try.prog 48=some [AV.ro 0 0 true fun x x_1=>AV.top]:=by kernel_rfl
theorem tzn48:tzn Try.prog 48=some 1:=by kernel_rfl
theorem tplaces48:tplaces Try.prog 48=none:=by kernel_rfl
theorem tint48:tint Try.prog 48=none:=by kernel_rfl
theorem tstr48:tstr Try.prog 48=false:=by kernel_rfl
theorem tnoint48:tnoint Try.prog 48=true:=by kernel_rfl
theorem tbool48:tbool Try.prog 48=false:=by kernel_rfl
theorem tany48:tany Try.prog 48=some true:=by kernel_rfl
theorem tintk48:tintk Try.prog 48=false:=by kernel_rfl
theorem tbytes48:tbytes Try.prog 48=false:=by kernel_rfl
theorem tsz53:tsz Try.prog 53=some 1:=by kernel_rfl
theorem tby53:tby Try.prog 53=some 24:=by kernel_rfl
theorem tagg53:tagg Try.prog 53=some false:=by kernel_rfl
theorem tslice53:tslice Try.prog 53=some 23:=by kernel_rfl
theorem tarr53:tarr Try.prog 53=none:=by kernel_rfl
theorem tzero53:tzero Try.prog 53=some [AV.ro 0 0 true fun x x_1=>AV.top]:=by kernel_rfl
theorem tzn53:tzn Try.prog 53=some 1:=by kernel_rfl
theorem tplaces53:tplaces Try.prog 53=none:=by kernel_rfl
theorem tint53:tint Try.prog 53=none:=by kernel_rfl
theorem tstr53:tstr Try.prog 53=false:=by kernel_rfl
theorem tnoint53:tnoint Try.prog 53=true:=by kernel_rfl
theorem tbool53:tbool Try.prog 53=false:=by kernel_rfl
theorem tany53:tany Try.prog 53=some true:=by kernel_rfl
theorem tintk53:tintk Try.prog 53=false:=by kernel_rfl
theorem tbytes53:tbytes Try.prog 53=false:=by kernel_rfl
theorem tsz62:tsz Try.prog 62=some 17:=by kernel_rfl
theorem tby62:tby Try.prog 62=some 56:=by kernel_rfl
theorem tagg62:tagg Try.prog 62=some true:=by kernel_rfl
theorem tslice62:tslice Try.prog 62=none:=by kernel_rfl
theorem tarr62:tarr Try.prog 62=none:=by kernel_rfl
theorem tzero62:tzero Try.prog 62=some [AV.int IntKind.u8 0,AV.int IntKind.u8 0,AV.int IntKind.u8 0,AV.int IntKind.u8 0,AV.int IntKind.u8 0,AV.int IntKind.u8 0,AV.int IntKind.u8 0,AV.int IntKind.u8 0,AV.int IntKind.u8 0,AV.int IntKind.u8 0,AV.int IntKind.u8 0,AV.int IntKind.u8 0,AV.int IntKind.i64 0,AV.int IntKind.i64 0,AV.int IntKind.i64 0,AV.bool false,AV.int IntKind.i64 0]:=by kernel_rfl
theorem tzn62:tzn Try.prog 62=some 17:=by kernel_rfl
theorem tplaces62:tplaces Try.prog 62=some [(0,6),(6,6),(12,1),(13,1),(14,1),(15,1),(16,1)]:=by kernel_rfl
theorem tint62:tint Try.prog 62=none:=by kernel_rfl
theorem tstr62:tstr Try.prog 62=false:=by kernel_rfl
theorem tnoint62:tnoint Try.prog 62=false:=by kernel_rfl
theorem tbool62:tbool Try.prog 62=false:=by kernel_rfl
theorem tany62:tany Try.prog 62=some true:=by kernel_rfl
theorem tintk62:tintk Try.prog 62=false:=by kernel_rfl
theorem tbytes62:tbytes Try.prog 62=false:=by kernel_rfl
theorem tfld62_0:tfld Try.prog 62 0=some (23,0,6):=by kernel_rfl
theorem tfld62_1:tfld Try.prog 62 1=some (23,6,6):=by kernel_rfl
theorem tfld62_2:tfld Try.prog 62 2=some (3,12,1):=by kernel_rfl
theorem tfld62_3:tfld Try.prog 62 3=some (3,13,1):=by kernel_rfl
theorem tfld62_4:tfld Try.prog 62 4=some (3,14,1):=by kernel_rfl
theorem tfld62_5:tfld Try.prog 62 5=some (4,15,1):=by kernel_rfl
theorem tfld62_6:tfld Try.prog 62 6=some (3,16,1):=by kernel_rfl
theorem tsz64:tsz Try.prog 64=some 13:=by kernel_rfl
theorem tby64:tby Try.prog 64=some 24:=by kernel_rfl
theorem tagg64:tagg Try.prog 64=some true:=by kernel_rfl
theorem tslice64:tslice Try.prog 64=none:=by kernel_rfl
theorem tarr64:tarr Try.prog 64=none:=by kernel_rfl
theorem tzero64:tzero Try.prog 64=some [AV.int IntKind.u8 0,AV.int IntKind.u8 0,AV.int IntKind.u8 0,AV.int IntKind.u8 0,AV.int IntKind.u8 0,AV.int IntKind.u8 0,AV.int IntKind.u8 0,AV.int IntKind.u8 0,AV.int IntKind.u8 0,AV.int IntKind.u8 0,AV.int IntKind.u8 0,AV.int IntKind.u8 0,AV.int IntKind.i64 0]:=by kernel_rfl
theorem tzn64:tzn Try.prog 64=some 13:=by kernel_rfl
theorem tplaces64:tplaces Try.prog 64=some [(0,6),(6,6),(12,1)]:=by kernel_rfl
theorem tint64:tint Try.prog 64=none:=by kernel_rfl
theorem tstr64:tstr Try.prog 64=false:=by kernel_rfl
theorem tnoint64:tnoint Try.prog 64=false:=by kernel_rfl
theorem tbool64:tbool Try.prog 64=false:=by kernel_rfl
theorem tany64:tany Try.prog 64=some true:=by kernel_rfl
theorem tintk64:tintk Try.prog 64=false:=by kernel_rfl
theorem tbytes64:tbytes Try.prog 64=false:=by kernel_rfl
theorem tfld64_0:tfld Try.prog 64 0=some (23,0,6):=by kernel_rfl
theorem tfld64_1:tfld Try.prog 64 1=some (23,6,6):=by kernel_rfl
theorem tfld64_2:tfld Try.prog 64 2=some (3,12,1):=by kernel_rfl
theorem tsz80:tsz Try.prog 80=some 8:=by kernel_rfl
theorem tby80:tby Try.prog 80=some 64:=by kernel_rfl
theorem tagg80:tagg Try.prog 80=some true:=by kernel_rfl
theorem tslice80:tslice Try.prog 80=none:=by kernel_rfl
theorem tarr80:tarr Try.prog 80=some (8,3):=by kernel_rfl
theorem tzero80:tzero Try.prog 80=some [AV.int IntKind.i64 0,AV.int IntKind.i64 0,AV.int IntKind.i64 0,AV.int IntKind.i64 0,AV.int IntKind.i64 0,AV.int IntKind.i64 0,AV.int IntKind.i64 0,AV.int IntKind.i64 0]:=by kernel_rfl
theorem tzn80:tzn Try.prog 80=some 8:=by kernel_rfl
theorem tplaces80:tplaces Try.prog 80=none:=by kernel_rfl
theorem tint80:tint Try.prog 80=none:=by kernel_rfl
theorem tstr80:tstr Try.prog 80=false:=by kernel_rfl
theorem tnoint80:tnoint Try.prog 80=false:=by kernel_rfl
theorem tbool80:tbool Try.prog 80=false:=by kernel_rfl
theorem tany80:tany Try.prog 80=some true:=by kernel_rfl
theorem tintk80:tintk Try.prog 80=false:=by kernel_rfl
theorem tbytes80:tbytes Try.prog 80=false:=by kernel_rfl
theorem tsz81:tsz Try.prog 81=some 64:=by kernel_rfl
theorem tby81:tby Try.prog 81=some 512:=by kernel_rfl
theorem tagg81:tagg Try.prog 81=some true:=by kernel_rfl
theorem tslice81:tslice Try.prog 81=none:=by kernel_rfl
theorem tarr81:tarr Try.prog 81=some (8,80):=by kernel_rfl
theorem tzero81:tzero Try.prog 81=some [AV.int IntKind.i64 0,AV.int IntKind.i64 0,AV.int IntKind.i64 0,AV.int IntKind.i64 0,AV.int IntKind.i64 0,AV.int IntKind.i64 0,AV.int IntKind.i64 0,AV.int IntKind.i64 0,AV.int IntKind.i64 0,AV.int IntKind.i64 0,AV.int IntKind.i64 0,AV.int IntKind.i64 0,AV.int IntKind.i64 0,AV.int IntKind.i64 0,AV.int IntKind.i64 0,AV.int IntKind.i64 0,AV.int IntKind.i64 0,AV.int IntKind.i64 0,AV.int IntKind.i64 0,AV.int IntKind.i64 0,AV.int IntKind.i64 0,AV.int IntKind.i64 0,AV.int IntKind.i64 0,AV.int IntKind.i64 0,AV.int IntKind.i64 0,AV.int IntKind.i64 0,AV.int IntKind.i64 0,AV.int IntKind.i64 0,AV.int IntKind.i64 0,AV.int IntKind.i64 0,AV.int IntKind.i64 0,AV.int IntKind.i64 0,AV.int IntKind.i64 0,AV.int IntKind.i64 0,AV.int IntKind.i64 0,AV.int IntKind.i64 0,AV.int IntKind.i64 0,AV.int IntKind.i64 0,AV.int IntKind.i64 0,AV.int IntKind.i64 0,AV.int IntKind.i64 0,AV.int IntKind.i64 0,AV.int IntKind.i64 0,AV.int IntKind.i64 0,AV.int IntKind.i64 0,AV.int IntKind.i64 0,AV.int IntKind.i64 0,AV.int IntKind.i64 0,AV.int IntKind.i64 0,AV.int IntKind.i64 0,AV.int IntKind.i64 0,AV.int IntKind.i64 0,AV.int IntKind.i64 0,AV.int IntKind.i64 0,AV.int IntKind.i64 0,AV.int IntKind.i64 0,AV.int IntKind.i64 0,AV.int IntKind.i64 0,AV.int IntKind.i64 0,AV.int IntKind.i64 0,AV.int IntKind.i64 0,AV.int IntKind.i64 0,AV.int IntKind.i64 0,AV.int IntKind.i64 0]:=by kernel_rfl
theorem tzn81:tzn Try.prog 81=some 64:=by kernel_rfl
theorem tplaces81:tplaces Try.prog 81=none:=by kernel_rfl
theorem tint81:tint Try.prog 81=none:=by kernel_rfl
theorem tstr81:tstr Try.prog 81=false:=by kernel_rfl
theorem tnoint81:tnoint Try.prog 81=false:=by kernel_rfl
theorem tbool81:tbool Try.prog 81=false:=by kernel_rfl
theorem tany81:tany Try.prog 81=some true:=by kernel_rfl
theorem tintk81:tintk Try.prog 81=false:=by kernel_rfl
theorem tbytes81:tbytes Try.prog 81=false:=by kernel_rfl
theorem tsz82:tsz Try.prog 82=some 1:=by kernel_rfl
theorem tby82:tby Try.prog 82=some 24:=by kernel_rfl
theorem tagg82:tagg Try.prog 82=some false:=by kernel_rfl
theorem tslice82:tslice Try.prog 82=some 3:=by kernel_rfl
theorem tarr82:tarr Try.prog 82=none:=by kernel_rfl
theorem tzero82:tzero Try.prog 82=some [AV.ro 0 0 true fun x x_1=>AV.top]:=by kernel_rfl
theorem tzn82:tzn Try.prog 82=some 1:=by kernel_rfl
theorem tplaces82:tplaces Try.prog 82=none:=by kernel_rfl
theorem tint82:tint Try.prog 82=none:=by kernel_rfl
theorem tstr82:tstr Try.prog 82=false:=by kernel_rfl
theorem tnoint82:tnoint Try.prog 82=true:=by kernel_rfl
theorem tbool82:tbool Try.prog 82=false:=by kernel_rfl
theorem tany82:tany Try.prog 82=some true:=by kernel_rfl
theorem tintk82:tintk Try.prog 82=false:=by kernel_rfl
theorem tbytes82:tbytes Try.prog 82=false:=by kernel_rfl
theorem tsz84:tsz Try.prog 84=some 88:=by kernel_rfl
theorem tby84:tby Try.prog 84=some 512:=by kernel_rfl
theorem tagg84:tagg Try.prog 84=some true:=by kernel_rfl
theorem tslice84:tslice Try.prog 84=none:=by kernel_rfl
theorem tarr84:tarr Try.prog 84=some (8,41):=by kernel_rfl
theorem tzero84:tzero Try.prog 84=some [AV.int IntKind.u8 0,AV.int IntKind.u8 0,AV.int IntKind.u8 0,AV.int IntKind.u8 0,AV.int IntKind.u8 0,AV.int IntKind.u8 0,AV.bool false,AV.bool false,AV.int IntKind.i64 0,AV.ro 0 0 true fun x x_1=>AV.top,AV.ro 0 0 true fun x x_1=>AV.top,AV.int IntKind.u8 0,AV.int IntKind.u8 0,AV.int IntKind.u8 0,AV.int IntKind.u8 0,AV.int IntKind.u8 0,AV.int IntKind.u8 0,AV.bool false,AV.bool false,AV.int IntKind.i64 0,AV.ro 0 0 true fun x x_1=>AV.top,AV.ro 0 0 true fun x x_1=>AV.top,AV.int IntKind.u8 0,AV.int IntKind.u8 0,AV.int IntKind.u8 0,AV.int IntKind.u8 0,AV.int IntKind.u8 0,AV.int IntKind.u8 0,AV.bool false,AV.bool false,AV.int IntKind.i64 0,AV.ro 0 0 true fun x x_1=>AV.top,AV.ro 0 0 true fun x x_1=>AV.top,AV.int IntKind.u8 0,AV.int IntKind.u8 0,AV.int IntKind.u8 0,AV.int IntKind.u8 0,AV.int IntKind.u8 0,AV.int IntKind.u8 0,AV.bool false,AV.bool false,AV.int IntKind.i64 0,AV.ro 0 0 true fun x x_1=>AV.top,AV.ro 0 0 true fun x x_1=>AV.top,AV.int IntKind.u8 0,AV.int IntKind.u8 0,AV.int IntKind.u8 0,AV.int IntKind.u8 0,AV.int IntKind.u8 0,AV.int IntKind.u8 0,AV.bool false,AV.bool false,AV.int IntKind.i64 0,AV.ro 0 0 true fun x x_1=>AV.top,AV.ro 0 0 true fun x x_1=>AV.top,AV.int IntKind.u8 0,AV.int IntKind.u8 0,AV.int IntKind.u8 0,AV.int IntKind.u8 0,AV.int IntKind.u8 0,AV.int IntKind.u8 0,AV.bool false,AV.bool false,AV.int IntKind.i64 0,AV.ro 0 0 true fun x x_1=>AV.top,AV.ro 0 0 true fun x x_1=>AV.top,AV.int IntKind.u8 0,AV.int IntKind.u8 0,AV.int IntKind.u8 0,AV.int IntKind.u8 0,AV.int IntKind.u8 0,AV.int IntKind.u8 0,AV.bool false,AV.bool false,AV.int IntKind.i64 0,AV.ro 0 0 true fun x x_1=>AV.top,AV.ro 0 0 true fun x x_1=>AV.top,AV.int IntKind.u8 0,AV.int IntKind.u8 0,AV.int IntKind.u8 0,AV.int IntKind.u8 0,AV.int IntKind.u8 0,AV.int IntKind.u8 0,AV.bool false,AV.bool false,AV.int IntKind.i64 0,AV.ro 0 0 true fun x x_1=>AV.top,AV.ro 0 0 true fun x x_1=>AV.top]:=by kernel_rfl
theorem tzn84:tzn Try.prog 84=some 88:=by kernel_rfl
theorem tplaces84:tplaces Try.prog 84=none:=by kernel_rfl
theorem tint84:tint Try.prog 84=none:=by kernel_rfl
theorem tstr84:tstr Try.prog 84=false:=by kernel_rfl
theorem tnoint84:tnoint Try.prog 84=false:=by kernel_rfl
theorem tbool84:tbool Try.prog 84=false:=by kernel_rfl
theorem tany84:tany Try.prog 84=some true:=by kernel_rfl
theorem tintk84:tintk Try.prog 84=false:=by kernel_rfl
theorem tbytes84:tbytes Try.prog 84=false:=by kernel_rfl
theorem tsz94:tsz Try.prog 94=some 1:=by kernel_rfl
theorem tby94:tby Try.prog 94=some 4:=by kernel_rfl
theorem tagg94:tagg Try.prog 94=some false:=by kernel_rfl
theorem tslice94:tslice Try.prog 94=none:=by kernel_rfl
theorem tarr94:tarr Try.prog 94=none:=by kernel_rfl
theorem tzero94:tzero Try.prog 94=some [AV.int IntKind.u32 0]:=by kernel_rfl
theorem tzn94:tzn Try.prog 94=some 1:=by kernel_rfl
theorem tplaces94:tplaces Try.prog 94=none:=by kernel_rfl
theorem tint94:tint Try.prog 94=some IntKind.u32:=by kernel_rfl
theorem tstr94:tstr Try.prog 94=false:=by kernel_rfl
theorem tnoint94:tnoint Try.prog 94=false:=by kernel_rfl
theorem tbool94:tbool Try.prog 94=false:=by kernel_rfl
theorem tany94:tany Try.prog 94=some true:=by kernel_rfl
theorem tintk94:tintk Try.prog 94=true:=by kernel_rfl
theorem tbytes94:tbytes Try.prog 94=false:=by kernel_rfl
theorem tsz97:tsz Try.prog 97=some 1:=by kernel_rfl
theorem tby97:tby Try.prog 97=some 8:=by kernel_rfl
theorem tagg97:tagg Try.prog 97=some false:=by kernel_rfl
theorem tslice97:tslice Try.prog 97=none:=by kernel_rfl
theorem tarr97:tarr Try.prog 97=none:=by kernel_rfl
theorem tzero97:tzero Try.prog 97=some [AV.int IntKind.u64 0]:=by kernel_rfl
theorem tzn97:tzn Try.prog 97=some 1:=by kernel_rfl
theorem tplaces97:tplaces Try.prog 97=none:=by kernel_rfl
theorem tint97:tint Try.prog 97=some IntKind.u64:=by kernel_rfl
theorem tstr97:tstr Try.prog 97=false:=by kernel_rfl
theorem tnoint97:tnoint Try.prog 97=false:=by kernel_rfl
theorem tbool97:tbool Try.prog 97=false:=by kernel_rfl
theorem tany97:tany Try.prog 97=some true:=by kernel_rfl
theorem tintk97:tintk Try.prog 97=true:=by kernel_rfl
theorem tbytes97:tbytes Try.prog 97=false:=by kernel_rfl
theorem tsz100:tsz Try.prog 100=some 2:=by kernel_rfl
theorem tby100:tby Try.prog 100=some 32:=by kernel_rfl
theorem tagg100:tagg Try.prog 100=some true:=by kernel_rfl
theorem tslice100:tslice Try.prog 100=none:=by kernel_rfl
theorem tarr100:tarr Try.prog 100=none:=by kernel_rfl
theorem tzero100:tzero Try.prog 100=some [AV.ro 0 0 true fun x x_1=>AV.top,AV.int IntKind.i64 0]:=by kernel_rfl
theorem tzn100:tzn Try.prog 100=some 2:=by kernel_rfl
theorem tplaces100:tplaces Try.prog 100=some [(0,1),(1,1)]:=by kernel_rfl
theorem tint100:tint Try.prog 100=none:=by kernel_rfl
theorem tstr100:tstr Try.prog 100=false:=by kernel_rfl
theorem tnoint100:tnoint Try.prog 100=false:=by kernel_rfl
theorem tbool100:tbool Try.prog 100=false:=by kernel_rfl
theorem tany100:tany Try.prog 100=some true:=by kernel_rfl
theorem tintk100:tintk Try.prog 100=false:=by kernel_rfl
theorem tbytes100:tbytes Try.prog 100=false:=by kernel_rfl
theorem tfld100_0:tfld Try.prog 100 0=some (26,0,1):=by kernel_rfl
theorem tfld100_1:tfld Try.prog 100 1=some (3,1,1):=by kernel_rfl
theorem tsz117:tsz Try.prog 117=some 1:=by kernel_rfl
theorem tby117:tby Try.prog 117=some 8:=by kernel_rfl
theorem tagg117:tagg Try.prog 117=some false:=by kernel_rfl
theorem tslice117:tslice Try.prog 117=none:=by kernel_rfl
theorem tarr117:tarr Try.prog 117=none:=by kernel_rfl
theorem tzero117:tzero Try.prog 117=some [AV.nilf]:=by kernel_rfl
theorem tzn117:tzn Try.prog 117=some 1:=by kernel_rfl
theorem tplaces117:tplaces Try.prog 117=none:=by kernel_rfl
theorem tint117:tint Try.prog 117=none:=by kernel_rfl
theorem tstr117:tstr Try.prog 117=false:=by kernel_rfl
theorem tnoint117:tnoint Try.prog 117=false:=by kernel_rfl
theorem tbool117:tbool Try.prog 117=false:=by kernel_rfl
theorem tany117:tany Try.prog 117=some true:=by kernel_rfl
theorem tintk117:tintk Try.prog 117=false:=by kernel_rfl
theorem tbytes117:tbytes Try.prog 117=false:=by kernel_rfl
theorem tsz119:tsz Try.prog 119=some 1:=by kernel_rfl
theorem tby119:tby Try.prog 119=some 8:=by kernel_rfl
theorem tagg119:tagg Try.prog 119=some false:=by kernel_rfl
theorem tslice119:tslice Try.prog 119=none:=by kernel_rfl
theorem tarr119:tarr Try.prog 119=none:=by kernel_rfl
theorem tzero119:tzero Try.prog 119=some [AV.nilf]:=by kernel_rfl
theorem tzn119:tzn Try.prog 119=some 1:=by kernel_rfl
theorem tplaces119:tplaces Try.prog 119=none:=by kernel_rfl
theorem tint119:tint Try.prog 119=none:=by kernel_rfl
theorem tstr119:tstr Try.prog 119=false:=by kernel_rfl
theorem tnoint119:tnoint Try.prog 119=false:=by kernel_rfl
theorem tbool119:tbool Try.prog 119=false:=by kernel_rfl
theorem tany119:tany Try.prog 119=some true:=by kernel_rfl
theorem tintk119:tintk Try.prog 119=false:=by kernel_rfl
theorem tbytes119:tbytes Try.prog 119=false:=by kernel_rfl
theorem tsz125:tsz Try.prog 125=some 1:=by kernel_rfl
theorem tby125:tby Try.prog 125=some 8:=by kernel_rfl
theorem tagg125:tagg Try.prog 125=some false:=by kernel_rfl
theorem tslice125:tslice Try.prog 125=none:=by kernel_rfl
theorem tarr125:tarr Try.prog 125=none:=by kernel_rfl
theorem tzero125:tzero Try.prog 125=some [AV.nilf]:=by kernel_rfl
theorem tzn125:tzn Try.prog 125=some 1:=by kernel_rfl
theorem tplaces125:tplaces Try.prog 125=none:=by kernel_rfl
theorem tint125:tint Try.prog 125=none:=by kernel_rfl
theorem tstr125:tstr Try.prog 125=false:=by kernel_rfl
theorem tnoint125:tnoint Try.prog 125=false:=by kernel_rfl
theorem tbool125:tbool Try.prog 125=false:=by kernel_rfl
theorem tany125:tany Try.prog 125=some true:=by kernel_rfl
theorem tintk125:tintk Try.prog 125=false:=by kernel_rfl
theorem tbytes125:tbytes Try.prog 125=false:=by kernel_rfl
theorem tsz127:tsz Try.prog 127=some 1:=by kernel_rfl
theorem tby127:tby Try.prog 127=some 24:=by kernel_rfl
theorem tagg127:tagg Try.prog 127=some false:=by kernel_rfl
theorem tslice127:tslice Try.prog 127=some 130:=by kernel_rfl
theorem tarr127:tarr Try.prog 127=none:=by kernel_rfl
theorem tzero127:tzero Try.prog 127=some [AV.ro 0 0 true fun x x_1=>AV.top]:=by kernel_rfl
theorem tzn127:tzn Try.prog 127=some 1:=by kernel_rfl
theorem tplaces127:tplaces Try.prog 127=none:=by kernel_rfl
theorem tint127:tint Try.prog 127=none:=by kernel_rfl
theorem tstr127:tstr Try.prog 127=false:=by kernel_rfl
theorem tnoint127:tnoint Try.prog 127=true:=by kernel_rfl
theorem tbool127:tbool Try.prog 127=false:=by kernel_rfl
theorem tany127:tany Try.prog 127=some true:=by kernel_rfl
theorem tintk127:tintk Try.prog 127=false:=by kernel_rfl
theorem tbytes127:tbytes Try.prog 127=false:=by kernel_rfl
theorem tsz130:tsz Try.prog 130=some 12:=by kernel_rfl
theorem tby130:tby Try.prog 130=some 56:=by kernel_rfl
theorem tagg130:tagg Try.prog 130=some true:=by kernel_rfl
theorem tslice130:tslice Try.prog 130=none:=by kernel_rfl
theorem tarr130:tarr Try.prog 130=none:=by kernel_rfl
theorem tzero130:tzero Try.prog 130=some [AV.int IntKind.i64 0,AV.int IntKind.i64 0,AV.int IntKind.u8 0,AV.int IntKind.u8 0,AV.int IntKind.u8 0,AV.int IntKind.u8 0,AV.int IntKind.u8 0,AV.int IntKind.u8 0,AV.int IntKind.i64 0,AV.int IntKind.i64 0,AV.int IntKind.i64 0,AV.bool false]:=by kernel_rfl
theorem tzn130:tzn Try.prog 130=some 12:=by kernel_rfl
theorem tplaces130:tplaces Try.prog 130=some [(0,1),(1,1),(2,10)]:=by kernel_rfl
theorem tint130:tint Try.prog 130=none:=by kernel_rfl
theorem tstr130:tstr Try.prog 130=false:=by kernel_rfl
theorem tnoint130:tnoint Try.prog 130=false:=by kernel_rfl
theorem tbool130:tbool Try.prog 130=false:=by kernel_rfl
theorem tany130:tany Try.prog 130=some true:=by kernel_rfl
theorem tintk130:tintk Try.prog 130=false:=by kernel_rfl
theorem tbytes130:tbytes Try.prog 130=false:=by kernel_rfl
theorem tfld130_0:tfld Try.prog 130 0=some (3,0,1):=by kernel_rfl
theorem tfld130_1:tfld Try.prog 130 1=some (3,1,1):=by kernel_rfl
theorem tfld130_2:tfld Try.prog 130 2=some (25,2,10):=by kernel_rfl
theorem tsz140:tsz Try.prog 140=some 1:=by kernel_rfl
theorem tby140:tby Try.prog 140=some 8:=by kernel_rfl
theorem tagg140:tagg Try.prog 140=some false:=by kernel_rfl
theorem tslice140:tslice Try.prog 140=none:=by kernel_rfl
theorem tarr140:tarr Try.prog 140=none:=by kernel_rfl
theorem tzero140:tzero Try.prog 140=some [AV.nilf]:=by kernel_rfl
theorem tzn140:tzn Try.prog 140=some 1:=by kernel_rfl
theorem tplaces140:tplaces Try.prog 140=none:=by kernel_rfl
theorem tint140:tint Try.prog 140=none:=by kernel_rfl
theorem tstr140:tstr Try.prog 140=false:=by kernel_rfl
theorem tnoint140:tnoint Try.prog 140=false:=by kernel_rfl
theorem tbool140:tbool Try.prog 140=false:=by kernel_rfl
theorem tany140:tany Try.prog 140=some true:=by kernel_rfl
theorem tintk140:tintk Try.prog 140=false:=by kernel_rfl
theorem tbytes140:tbytes Try.prog 140=false:=by kernel_rfl
theorem tsz148:tsz Try.prog 148=some 1:=by kernel_rfl
theorem tby148:tby Try.prog 148=some 8:=by kernel_rfl
theorem tagg148:tagg Try.prog 148=some false:=by kernel_rfl
theorem tslice148:tslice Try.prog 148=none:=by kernel_rfl
theorem tarr148:tarr Try.prog 148=none:=by kernel_rfl
theorem tzero148:tzero Try.prog 148=some [AV.nilf]:=by kernel_rfl
theorem tzn148:tzn Try.prog 148=some 1:=by kernel_rfl
theorem tplaces148:tplaces Try.prog 148=none:=by kernel_rfl
theorem tint148:tint Try.prog 148=none:=by kernel_rfl
theorem tstr148:tstr Try.prog 148=false:=by kernel_rfl
theorem tnoint148:tnoint Try.prog 148=false:=by kernel_rfl
theorem tbool148:tbool Try.prog 148=false:=by kernel_rfl
theorem tany148:tany Try.prog 148=some true:=by kernel_rfl
theorem tintk148:tintk Try.prog 148=false:=by kernel_rfl
theorem tbytes148:tbytes Try.prog 148=false:=by kernel_rfl
theorem tsz152:tsz Try.prog 152=some 1:=by kernel_rfl
theorem tby152:tby Try.prog 152=some 8:=by kernel_rfl
theorem tagg152:tagg Try.prog 152=some false:=by kernel_rfl
theorem tslice152:tslice Try.prog 152=none:=by kernel_rfl
theorem tarr152:tarr Try.prog 152=none:=by kernel_rfl
theorem tzero152:tzero Try.prog 152=some [AV.int IntKind.u64 0]:=by kernel_rfl
theorem tzn152:tzn Try.prog 152=some 1:=by kernel_rfl
theorem tplaces152:tplaces Try.prog 152=none:=by kernel_rfl
theorem tint152:tint Try.prog 152=some IntKind.u64:=by kernel_rfl
theorem tstr152:tstr Try.prog 152=false:=by kernel_rfl
theorem tnoint152:tnoint Try.prog 152=false:=by kernel_rfl
theorem tbool152:tbool Try.prog 152=false:=by kernel_rfl
theorem tany152:tany Try.prog 152=some true:=by kernel_rfl
theorem tintk152:tintk Try.prog 152=true:=by kernel_rfl
theorem tbytes152:tbytes Try.prog 152=false:=by kernel_rfl
end Go.Proofs.Ytdcepineppafpaa

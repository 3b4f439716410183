/-
  Facts of the types that the walks meet: sizes, places, zero values.
-/
import Derived.Test.YtjhkehdbjnhplaaPm10
import Derived.Test.YtjhkehdbjnhplaaProg
namespace Go.Proofs.Ytjhkehdbjnhplaa
open Go.Am
set_option linter.unusedVariables false
theorem tsz3 : tsz Try.prog 3 = some 1 := by kernel_rfl
theorem tby3 : tby Try.prog 3 = some 8 := by kernel_rfl
theorem tagg3 : tagg Try.prog 3 = some false := by kernel_rfl
theorem tslice3 : tslice Try.prog 3 = none := by kernel_rfl
theorem tarr3 : tarr Try.prog 3 = none := by kernel_rfl
theorem tzero3 : tzero Try.prog 3 = some [AV.int IntKind.i64 0] := by kernel_rfl
theorem tzn3 : tzn Try.prog 3 = some 1 := by kernel_rfl
theorem tplaces3 : tplaces Try.prog 3 = none := by kernel_rfl
theorem tint3 : tint Try.prog 3 = some IntKind.i64 := by kernel_rfl
theorem tstr3 : tstr Try.prog 3 = false := by kernel_rfl
theorem tnoint3 : tnoint Try.prog 3 = false := by kernel_rfl
theorem tbool3 : tbool Try.prog 3 = false := by kernel_rfl
theorem tany3 : tany Try.prog 3 = some true := by kernel_rfl
theorem tintk3 : tintk Try.prog 3 = true := by kernel_rfl
theorem tbytes3 : tbytes Try.prog 3 = false := by kernel_rfl
theorem tsz4 : tsz Try.prog 4 = some 1 := by kernel_rfl
theorem tby4 : tby Try.prog 4 = some 1 := by kernel_rfl
theorem tagg4 : tagg Try.prog 4 = some false := by kernel_rfl
theorem tslice4 : tslice Try.prog 4 = none := by kernel_rfl
theorem tarr4 : tarr Try.prog 4 = none := by kernel_rfl
theorem tzero4 : tzero Try.prog 4 = some [AV.bool false] := by kernel_rfl
theorem tzn4 : tzn Try.prog 4 = some 1 := by kernel_rfl
theorem tplaces4 : tplaces Try.prog 4 = none := by kernel_rfl
theorem tint4 : tint Try.prog 4 = none := by kernel_rfl
theorem tstr4 : tstr Try.prog 4 = false := by kernel_rfl
theorem tnoint4 : tnoint Try.prog 4 = false := by kernel_rfl
theorem tbool4 : tbool Try.prog 4 = true := by kernel_rfl
theorem tany4 : tany Try.prog 4 = some true := by kernel_rfl
theorem tintk4 : tintk Try.prog 4 = false := by kernel_rfl
theorem tbytes4 : tbytes Try.prog 4 = false := by kernel_rfl
theorem tsz5 : tsz Try.prog 5 = some 1 := by kernel_rfl
theorem tby5 : tby Try.prog 5 = some 1 := by kernel_rfl
theorem tagg5 : tagg Try.prog 5 = some false := by kernel_rfl
theorem tslice5 : tslice Try.prog 5 = none := by kernel_rfl
theorem tarr5 : tarr Try.prog 5 = none := by kernel_rfl
theorem tzero5 : tzero Try.prog 5 = some [AV.int IntKind.u8 0] := by kernel_rfl
theorem tzn5 : tzn Try.prog 5 = some 1 := by kernel_rfl
theorem tplaces5 : tplaces Try.prog 5 = none := by kernel_rfl
theorem tint5 : tint Try.prog 5 = some IntKind.u8 := by kernel_rfl
theorem tstr5 : tstr Try.prog 5 = false := by kernel_rfl
theorem tnoint5 : tnoint Try.prog 5 = false := by kernel_rfl
theorem tbool5 : tbool Try.prog 5 = false := by kernel_rfl
theorem tany5 : tany Try.prog 5 = some true := by kernel_rfl
theorem tintk5 : tintk Try.prog 5 = true := by kernel_rfl
theorem tbytes5 : tbytes Try.prog 5 = false := by kernel_rfl
theorem tsz9 : tsz Try.prog 9 = some 1 := by kernel_rfl
theorem tby9 : tby Try.prog 9 = some 16 := by kernel_rfl
theorem tagg9 : tagg Try.prog 9 = some false := by kernel_rfl
theorem tslice9 : tslice Try.prog 9 = none := by kernel_rfl
theorem tarr9 : tarr Try.prog 9 = none := by kernel_rfl
theorem tzero9 : tzero Try.prog 9 = some [AV.str (ByteArray.mk #[])] := by kernel_rfl
theorem tzn9 : tzn Try.prog 9 = some 1 := by kernel_rfl
theorem tplaces9 : tplaces Try.prog 9 = none := by kernel_rfl
theorem tint9 : tint Try.prog 9 = none := by kernel_rfl
theorem tstr9 : tstr Try.prog 9 = true := by kernel_rfl
theorem tnoint9 : tnoint Try.prog 9 = true := by kernel_rfl
theorem tbool9 : tbool Try.prog 9 = false := by kernel_rfl
theorem tany9 : tany Try.prog 9 = some true := by kernel_rfl
theorem tintk9 : tintk Try.prog 9 = false := by kernel_rfl
theorem tbytes9 : tbytes Try.prog 9 = false := by kernel_rfl
theorem tsz23 : tsz Try.prog 23 = some 4 := by kernel_rfl
theorem tby23 : tby Try.prog 23 = some 32 := by kernel_rfl
theorem tagg23 : tagg Try.prog 23 = some true := by kernel_rfl
theorem tslice23 : tslice Try.prog 23 = none := by kernel_rfl
theorem tarr23 : tarr Try.prog 23 = none := by kernel_rfl
theorem tzero23 : tzero Try.prog 23 = some [AV.int IntKind.u8 0, AV.int IntKind.i64 0, AV.int IntKind.i64 0, AV.int IntKind.i64 0] := by kernel_rfl
theorem tzn23 : tzn Try.prog 23 = some 4 := by kernel_rfl
theorem tplaces23 : tplaces Try.prog 23 = some [(0, 1), (1, 1), (2, 1), (3, 1)] := by kernel_rfl
theorem tint23 : tint Try.prog 23 = none := by kernel_rfl
theorem tstr23 : tstr Try.prog 23 = false := by kernel_rfl
theorem tnoint23 : tnoint Try.prog 23 = false := by kernel_rfl
theorem tbool23 : tbool Try.prog 23 = false := by kernel_rfl
theorem tany23 : tany Try.prog 23 = some true := by kernel_rfl
theorem tintk23 : tintk Try.prog 23 = false := by kernel_rfl
theorem tbytes23 : tbytes Try.prog 23 = false := by kernel_rfl
theorem tfld23_0 : tfld Try.prog 23 0 = some (5, 0, 1) := by kernel_rfl
theorem tfld23_1 : tfld Try.prog 23 1 = some (3, 1, 1) := by kernel_rfl
theorem tfld23_2 : tfld Try.prog 23 2 = some (3, 2, 1) := by kernel_rfl
theorem tfld23_3 : tfld Try.prog 23 3 = some (3, 3, 1) := by kernel_rfl
theorem tsz24 : tsz Try.prog 24 = some 1 := by kernel_rfl
theorem tby24 : tby Try.prog 24 = some 24 := by kernel_rfl
theorem tagg24 : tagg Try.prog 24 = some false := by kernel_rfl
theorem tslice24 : tslice Try.prog 24 = some 5 := by kernel_rfl
theorem tarr24 : tarr Try.prog 24 = none := by kernel_rfl
theorem tzero24 : tzero Try.prog 24 = some [AV.ro 0 0 true fun x x_1 => AV.top] := by kernel_rfl
theorem tzn24 : tzn Try.prog 24 = some 1 := by kernel_rfl
theorem tplaces24 : tplaces Try.prog 24 = none := by kernel_rfl
theorem tint24 : tint Try.prog 24 = none := by kernel_rfl
theorem tstr24 : tstr Try.prog 24 = false := by kernel_rfl
theorem tnoint24 : tnoint Try.prog 24 = true := by kernel_rfl
theorem tbool24 : tbool Try.prog 24 = false := by kernel_rfl
theorem tany24 : tany Try.prog 24 = some true := by kernel_rfl
theorem tintk24 : tintk Try.prog 24 = false := by kernel_rfl
theorem tbytes24 : tbytes Try.prog 24 = true := by kernel_rfl
theorem tsz25 : tsz Try.prog 25 = some 1 := by kernel_rfl
theorem tby25 : tby Try.prog 25 = some 8 := by kernel_rfl
theorem tagg25 : tagg Try.prog 25 = some false := by kernel_rfl
theorem tslice25 : tslice Try.prog 25 = none := by kernel_rfl
theorem tarr25 : tarr Try.prog 25 = none := by kernel_rfl
theorem tzero25 : tzero Try.prog 25 = some [AV.int IntKind.i64 0] := by kernel_rfl
theorem tzn25 : tzn Try.prog 25 = some 1 := by kernel_rfl
theorem tplaces25 : tplaces Try.prog 25 = none := by kernel_rfl
theorem tint25 : tint Try.prog 25 = some IntKind.i64 := by kernel_rfl
theorem tstr25 : tstr Try.prog 25 = false := by kernel_rfl
theorem tnoint25 : tnoint Try.prog 25 = false := by kernel_rfl
theorem tbool25 : tbool Try.prog 25 = false := by kernel_rfl
theorem tany25 : tany Try.prog 25 = some true := by kernel_rfl
theorem tintk25 : tintk Try.prog 25 = true := by kernel_rfl
theorem tbytes25 : tbytes Try.prog 25 = false := by kernel_rfl
theorem tsz35 : tsz Try.prog 35 = some 1 := by kernel_rfl
theorem tby35 : tby Try.prog 35 = some 24 := by kernel_rfl
theorem tagg35 : tagg Try.prog 35 = some false := by kernel_rfl
theorem tslice35 : tslice Try.prog 35 = some 45 := by kernel_rfl
theorem tarr35 : tarr Try.prog 35 = none := by kernel_rfl
theorem tzero35 : tzero Try.prog 35 = some [AV.ro 0 0 true fun x x_1 => AV.top] := by kernel_rfl
theorem tzn35 : tzn Try.prog 35 = some 1 := by kernel_rfl
theorem tplaces35 : tplaces Try.prog 35 = none := by kernel_rfl
theorem tint35 : tint Try.prog 35 = none := by kernel_rfl
theorem tstr35 : tstr Try.prog 35 = false := by kernel_rfl
theorem tnoint35 : tnoint Try.prog 35 = true := by kernel_rfl
theorem tbool35 : tbool Try.prog 35 = false := by kernel_rfl
theorem tany35 : tany Try.prog 35 = some true := by kernel_rfl
theorem tintk35 : tintk Try.prog 35 = false := by kernel_rfl
theorem tbytes35 : tbytes Try.prog 35 = false := by kernel_rfl
theorem tsz36 : tsz Try.prog 36 = some 1 := by kernel_rfl
theorem tby36 : tby Try.prog 36 = some 24 := by kernel_rfl
theorem tagg36 : tagg Try.prog 36 = some false := by kernel_rfl
theorem tslice36 : tslice Try.prog 36 = some 79 := by kernel_rfl
theorem tarr36 : tarr Try.prog 36 = none := by kernel_rfl
theorem tzero36 : tzero Try.prog 36 = some [AV.ro 0 0 true fun x x_1 => AV.top] := by kernel_rfl
theorem tzn36 : tzn Try.prog 36 = some 1 := by kernel_rfl
theorem tplaces36 : tplaces Try.prog 36 = none := by kernel_rfl
theorem tint36 : tint Try.prog 36 = none := by kernel_rfl
theorem tstr36 : tstr Try.prog 36 = false := by kernel_rfl
theorem tnoint36 : tnoint Try.prog 36 = true := by kernel_rfl
theorem tbool36 : tbool Try.prog 36 = false := by kernel_rfl
theorem tany36 : tany Try.prog 36 = some true := by kernel_rfl
theorem tintk36 : tintk Try.prog 36 = false := by kernel_rfl
theorem tbytes36 : tbytes Try.prog 36 = false := by kernel_rfl
theorem tsz37 : tsz Try.prog 37 = some 1 := by kernel_rfl
theorem tby37 : tby Try.prog 37 = some 24 := by kernel_rfl
theorem tagg37 : tagg Try.prog 37 = some false := by kernel_rfl
theorem tslice37 : tslice Try.prog 37 = some 3 := by kernel_rfl
theorem tarr37 : tarr Try.prog 37 = none := by kernel_rfl
theorem tzero37 : tzero Try.prog 37 = some [AV.ro 0 0 true fun x x_1 => AV.top] := by kernel_rfl
theorem tzn37 : tzn Try.prog 37 = some 1 := by kernel_rfl
theorem tplaces37 : tplaces Try.prog 37 = none := by kernel_rfl
theorem tint37 : tint Try.prog 37 = none := by kernel_rfl
theorem tstr37 : tstr Try.prog 37 = false := by kernel_rfl
theorem tnoint37 : tnoint Try.prog 37 = true := by kernel_rfl
theorem tbool37 : tbool Try.prog 37 = false := by kernel_rfl
theorem tany37 : tany Try.prog 37 = some true := by kernel_rfl
theorem tintk37 : tintk Try.prog 37 = false := by kernel_rfl
theorem tbytes37 : tbytes Try.prog 37 = false := by kernel_rfl
theorem tsz39 : tsz Try.prog 39 = some 10 := by kernel_rfl
theorem tby39 : tby Try.prog 39 = some 120 := by kernel_rfl
theorem tagg39 : tagg Try.prog 39 = some true := by kernel_rfl
theorem tslice39 : tslice Try.prog 39 = none := by kernel_rfl
theorem tarr39 : tarr Try.prog 39 = none := by kernel_rfl
theorem tzero39 : tzero Try.prog 39 = some [AV.ro 0 0 true fun x x_1 => AV.top, AV.int IntKind.i64 0, AV.bool false, AV.int IntKind.i64 0, AV.bool false, AV.bool false, AV.int IntKind.i64 0, AV.int IntKind.i64 0, AV.ro 0 0 true fun x x_1 => AV.top, AV.ro 0 0 true fun x x_1 => AV.top] := by kernel_rfl
theorem tzn39 : tzn Try.prog 39 = some 10 := by kernel_rfl
theorem tplaces39 : tplaces Try.prog 39 = some [(0, 1), (1, 1), (2, 1), (3, 1), (4, 1), (5, 1), (6, 1), (7, 1), (8, 1), (9, 1)] := by kernel_rfl
theorem tint39 : tint Try.prog 39 = none := by kernel_rfl
theorem tstr39 : tstr Try.prog 39 = false := by kernel_rfl
theorem tnoint39 : tnoint Try.prog 39 = false := by kernel_rfl
theorem tbool39 : tbool Try.prog 39 = false := by kernel_rfl
theorem tany39 : tany Try.prog 39 = some true := by kernel_rfl
theorem tintk39 : tintk Try.prog 39 = false := by kernel_rfl
theorem tbytes39 : tbytes Try.prog 39 = false := by kernel_rfl
theorem tfld39_0 : tfld Try.prog 39 0 = some (35, 0, 1) := by kernel_rfl
theorem tfld39_1 : tfld Try.prog 39 1 = some (3, 1, 1) := by kernel_rfl
theorem tfld39_2 : tfld Try.prog 39 2 = some (4, 2, 1) := by kernel_rfl
theorem tfld39_3 : tfld Try.prog 39 3 = some (3, 3, 1) := by kernel_rfl
theorem tfld39_4 : tfld Try.prog 39 4 = some (4, 4, 1) := by kernel_rfl
theorem tfld39_5 : tfld Try.prog 39 5 = some (4, 5, 1) := by kernel_rfl
theorem tfld39_6 : tfld Try.prog 39 6 = some (3, 6, 1) := by kernel_rfl
theorem tfld39_7 : tfld Try.prog 39 7 = some (3, 7, 1) := by kernel_rfl
theorem tfld39_8 : tfld Try.prog 39 8 = some (36, 8, 1) := by kernel_rfl
theorem tfld39_9 : tfld Try.prog 39 9 = some (37, 9, 1) := by kernel_rfl
theorem tsz45 : tsz Try.prog 45 = some 3 := by kernel_rfl
theorem tby45 : tby Try.prog 45 = some 24 := by kernel_rfl
theorem tagg45 : tagg Try.prog 45 = some true := by kernel_rfl
theorem tslice45 : tslice Try.prog 45 = none := by kernel_rfl
theorem tarr45 : tarr Try.prog 45 = none := by kernel_rfl
theorem tzero45 : tzero Try.prog 45 = some [AV.int IntKind.i64 0, AV.int IntKind.i64 0, AV.bool false] := by kernel_rfl
theorem tzn45 : tzn Try.prog 45 = some 3 := by kernel_rfl
theorem tplaces45 : tplaces Try.prog 45 = some [(0, 1), (1, 1), (2, 1)] := by kernel_rfl
theorem tint45 : tint Try.prog 45 = none := by kernel_rfl
theorem tstr45 : tstr Try.prog 45 = false := by kernel_rfl
theorem tnoint45 : tnoint Try.prog 45 = false := by kernel_rfl
theorem tbool45 : tbool Try.prog 45 = false := by kernel_rfl
theorem tany45 : tany Try.prog 45 = some true := by kernel_rfl
theorem tintk45 : tintk Try.prog 45 = false := by kernel_rfl
theorem tbytes45 : tbytes Try.prog 45 = false := by kernel_rfl
theorem tfld45_0 : tfld Try.prog 45 0 = some (3, 0, 1) := by kernel_rfl
theorem tfld45_1 : tfld Try.prog 45 1 = some (3, 1, 1) := by kernel_rfl
theorem tfld45_2 : tfld Try.prog 45 2 = some (4, 2, 1) := by kernel_rfl
theorem tsz54 : tsz Try.prog 54 = some 1 := by kernel_rfl
theorem tby54 : tby Try.prog 54 = some 24 := by kernel_rfl
theorem tagg54 : tagg Try.prog 54 = some false := by kernel_rfl
theorem tslice54 : tslice Try.prog 54 = some 23 := by kernel_rfl
theorem tarr54 : tarr Try.prog 54 = none := by kernel_rfl
theorem tzero54 : tzero Try.prog 54 = some [AV.ro 0 0 true fun x x_1 => AV.top] := by kernel_rfl
theorem tzn54 : tzn Try.prog 54 = some 1 := by kernel_rfl
theorem tplaces54 : tplaces Try.prog 54 = none := by kernel_rfl
theorem tint54 : tint Try.prog 54 = none := by kernel_rfl
theorem tstr54 : tstr Try.prog 54 = false := by kernel_rfl
theorem tnoint54 : tnoint Try.prog 54 = true := by kernel_rfl
theorem tbool54 : tbool Try.prog 54 = false := by kernel_rfl
theorem tany54 : tany Try.prog 54 = some true := by kernel_rfl
theorem tintk54 : tintk Try.prog 54 = false := by kernel_rfl
theorem tbytes54 : tbytes Try.prog 54 = false := by kernel_rfl
theorem tsz79 : tsz Try.prog 79 = some 2 := by kernel_rfl
theorem tby79 : tby Try.prog 79 = some 16 := by kernel_rfl
theorem tagg79 : tagg Try.prog 79 = some true := by kernel_rfl
theorem tslice79 : tslice Try.prog 79 = none := by kernel_rfl
theorem tarr79 : tarr Try.prog 79 = none := by kernel_rfl
theorem tzero79 : tzero Try.prog 79 = some [AV.int IntKind.i64 0, AV.int IntKind.i64 0] := by kernel_rfl
theorem tzn79 : tzn Try.prog 79 = some 2 := by kernel_rfl
theorem tplaces79 : tplaces Try.prog 79 = some [(0, 1), (1, 1)] := by kernel_rfl
theorem tint79 : tint Try.prog 79 = none := by kernel_rfl
theorem tstr79 : tstr Try.prog 79 = false := by kernel_rfl
theorem tnoint79 : tnoint Try.prog 79 = false := by kernel_rfl
theorem tbool79 : tbool Try.prog 79 = false := by kernel_rfl
theorem tany79 : tany Try.prog 79 = some true := by kernel_rfl
theorem tintk79 : tintk Try.prog 79 = false := by kernel_rfl
theorem tbytes79 : tbytes Try.prog 79 = false := by kernel_rfl
theorem tfld79_0 : tfld Try.prog 79 0 = some (3, 0, 1) := by kernel_rfl
theorem tfld79_1 : tfld Try.prog 79 1 = some (3, 1, 1) := by kernel_rfl
theorem tsz81 : tsz Try.prog 81 = some 1 := by kernel_rfl
theorem tby81 : tby Try.prog 81 = some 24 := by kernel_rfl
theorem tagg81 : tagg Try.prog 81 = some false := by kernel_rfl
theorem tslice81 : tslice Try.prog 81 = some 139 := by kernel_rfl
theorem tarr81 : tarr Try.prog 81 = none := by kernel_rfl
theorem tzero81 : tzero Try.prog 81 = some [AV.ro 0 0 true fun x x_1 => AV.top] := by kernel_rfl
theorem tzn81 : tzn Try.prog 81 = some 1 := by kernel_rfl
theorem tplaces81 : tplaces Try.prog 81 = none := by kernel_rfl
theorem tint81 : tint Try.prog 81 = none := by kernel_rfl
theorem tstr81 : tstr Try.prog 81 = false := by kernel_rfl
theorem tnoint81 : tnoint Try.prog 81 = true := by kernel_rfl
theorem tbool81 : tbool Try.prog 81 = false := by kernel_rfl
theorem tany81 : tany Try.prog 81 = some true := by kernel_rfl
theorem tintk81 : tintk Try.prog 81 = false := by kernel_rfl
theorem tbytes81 : tbytes Try.prog 81 = false := by kernel_rfl
theorem tsz83 : tsz Try.prog 83 = some 1 := by kernel_rfl
theorem tby83 : tby Try.prog 83 = some 8 := by kernel_rfl
theorem tagg83 : tagg Try.prog 83 = some false := by kernel_rfl
theorem tslice83 : tslice Try.prog 83 = none := by kernel_rfl
theorem tarr83 : tarr Try.prog 83 = none := by kernel_rfl
theorem tzero83 : tzero Try.prog 83 = some [AV.nilp] := by kernel_rfl
theorem tzn83 : tzn Try.prog 83 = some 1 := by kernel_rfl
theorem tplaces83 : tplaces Try.prog 83 = none := by kernel_rfl
theorem tint83 : tint Try.prog 83 = none := by kernel_rfl
theorem tstr83 : tstr Try.prog 83 = false := by kernel_rfl
theorem tnoint83 : tnoint Try.prog 83 = false := by kernel_rfl
theorem tbool83 : tbool Try.prog 83 = false := by kernel_rfl
theorem tany83 : tany Try.prog 83 = some true := by kernel_rfl
theorem tintk83 : tintk Try.prog 83 = false := by kernel_rfl
theorem tbytes83 : tbytes Try.prog 83 = false := by kernel_rfl
theorem tsz84 : tsz Try.prog 84 = some 1 := by kernel_rfl
theorem tby84 : tby Try.prog 84 = some 24 := by kernel_rfl
theorem tagg84 : tagg Try.prog 84 = some false := by kernel_rfl
theorem tslice84 : tslice Try.prog 84 = some 39 := by kernel_rfl
theorem tarr84 : tarr Try.prog 84 = none := by kernel_rfl
theorem tzero84 : tzero Try.prog 84 = some [AV.ro 0 0 true fun x x_1 => AV.top] := by kernel_rfl
theorem tzn84 : tzn Try.prog 84 = some 1 := by kernel_rfl
theorem tplaces84 : tplaces Try.prog 84 = none := by kernel_rfl
theorem tint84 : tint Try.prog 84 = none := by kernel_rfl
theorem tstr84 : tstr Try.prog 84 = false := by kernel_rfl
theorem tnoint84 : tnoint Try.prog 84 = true := by kernel_rfl
theorem tbool84 : tbool Try.prog 84 = false := by kernel_rfl
theorem tany84 : tany Try.prog 84 = some true := by kernel_rfl
theorem tintk84 : tintk Try.prog 84 = false := by kernel_rfl
theorem tbytes84 : tbytes Try.prog 84 = false := by kernel_rfl
theorem tmap885 : tmap8 Try.prog 85 = false := by kernel_rfl
theorem tmapI85 : tmapI Try.prog 85 = true := by kernel_rfl
theorem tsz85 : tsz Try.prog 85 = some 1 := by kernel_rfl
theorem tagg85 : tagg Try.prog 85 = some false := by kernel_rfl
theorem tsz87 : tsz Try.prog 87 = some 4 := by kernel_rfl
theorem tby87 : tby Try.prog 87 = some 64 := by kernel_rfl
theorem tagg87 : tagg Try.prog 87 = some true := by kernel_rfl
theorem tslice87 : tslice Try.prog 87 = none := by kernel_rfl
theorem tarr87 : tarr Try.prog 87 = none := by kernel_rfl
theorem tzero87 : tzero Try.prog 87 = some [AV.int IntKind.i64 0, AV.ro 0 0 true fun x x_1 => AV.top, AV.ro 0 0 true fun x x_1 => AV.top, AV.val (Value.map none)] := by kernel_rfl
theorem tzn87 : tzn Try.prog 87 = some 4 := by kernel_rfl
theorem tplaces87 : tplaces Try.prog 87 = some [(0, 1), (1, 1), (2, 1), (3, 1)] := by kernel_rfl
theorem tint87 : tint Try.prog 87 = none := by kernel_rfl
theorem tstr87 : tstr Try.prog 87 = false := by kernel_rfl
theorem tnoint87 : tnoint Try.prog 87 = false := by kernel_rfl
theorem tbool87 : tbool Try.prog 87 = false := by kernel_rfl
theorem tany87 : tany Try.prog 87 = some true := by kernel_rfl
theorem tintk87 : tintk Try.prog 87 = false := by kernel_rfl
theorem tbytes87 : tbytes Try.prog 87 = false := by kernel_rfl
theorem tfld87_0 : tfld Try.prog 87 0 = some (3, 0, 1) := by kernel_rfl
theorem tfld87_1 : tfld Try.prog 87 1 = some (84, 1, 1) := by kernel_rfl
theorem tfld87_2 : tfld Try.prog 87 2 = some (54, 2, 1) := by kernel_rfl
theorem tfld87_3 : tfld Try.prog 87 3 = some (85, 3, 1) := by kernel_rfl
theorem tsz88 : tsz Try.prog 88 = some 1 := by kernel_rfl
theorem tby88 : tby Try.prog 88 = some 8 := by kernel_rfl
theorem tagg88 : tagg Try.prog 88 = some false := by kernel_rfl
theorem tslice88 : tslice Try.prog 88 = none := by kernel_rfl
theorem tarr88 : tarr Try.prog 88 = none := by kernel_rfl
theorem tzero88 : tzero Try.prog 88 = some [AV.nilf] := by kernel_rfl
theorem tzn88 : tzn Try.prog 88 = some 1 := by kernel_rfl
theorem tplaces88 : tplaces Try.prog 88 = none := by kernel_rfl
theorem tint88 : tint Try.prog 88 = none := by kernel_rfl
theorem tstr88 : tstr Try.prog 88 = false := by kernel_rfl
theorem tnoint88 : tnoint Try.prog 88 = false := by kernel_rfl
theorem tbool88 : tbool Try.prog 88 = false := by kernel_rfl
theorem tany88 : tany Try.prog 88 = some true := by kernel_rfl
theorem tintk88 : tintk Try.prog 88 = false := by kernel_rfl
theorem tbytes88 : tbytes Try.prog 88 = false := by kernel_rfl
theorem tsz93 : tsz Try.prog 93 = some 1 := by kernel_rfl
theorem tby93 : tby Try.prog 93 = some 8 := by kernel_rfl
theorem tagg93 : tagg Try.prog 93 = some false := by kernel_rfl
theorem tslice93 : tslice Try.prog 93 = none := by kernel_rfl
theorem tarr93 : tarr Try.prog 93 = none := by kernel_rfl
theorem tzero93 : tzero Try.prog 93 = some [AV.int IntKind.u64 0] := by kernel_rfl
theorem tzn93 : tzn Try.prog 93 = some 1 := by kernel_rfl
theorem tplaces93 : tplaces Try.prog 93 = none := by kernel_rfl
theorem tint93 : tint Try.prog 93 = some IntKind.u64 := by kernel_rfl
theorem tstr93 : tstr Try.prog 93 = false := by kernel_rfl
theorem tnoint93 : tnoint Try.prog 93 = false := by kernel_rfl
theorem tbool93 : tbool Try.prog 93 = false := by kernel_rfl
theorem tany93 : tany Try.prog 93 = some true := by kernel_rfl
theorem tintk93 : tintk Try.prog 93 = true := by kernel_rfl
theorem tbytes93 : tbytes Try.prog 93 = false := by kernel_rfl
theorem tsz96 : tsz Try.prog 96 = some 2 := by kernel_rfl
theorem tby96 : tby Try.prog 96 = some 32 := by kernel_rfl
theorem tagg96 : tagg Try.prog 96 = some true := by kernel_rfl
theorem tslice96 : tslice Try.prog 96 = none := by kernel_rfl
theorem tarr96 : tarr Try.prog 96 = none := by kernel_rfl
theorem tzero96 : tzero Try.prog 96 = some [AV.ro 0 0 true fun x x_1 => AV.top, AV.int IntKind.i64 0] := by kernel_rfl
theorem tzn96 : tzn Try.prog 96 = some 2 := by kernel_rfl
theorem tplaces96 : tplaces Try.prog 96 = some [(0, 1), (1, 1)] := by kernel_rfl
theorem tint96 : tint Try.prog 96 = none := by kernel_rfl
theorem tstr96 : tstr Try.prog 96 = false := by kernel_rfl
theorem tnoint96 : tnoint Try.prog 96 = false := by kernel_rfl
theorem tbool96 : tbool Try.prog 96 = false := by kernel_rfl
theorem tany96 : tany Try.prog 96 = some true := by kernel_rfl
theorem tintk96 : tintk Try.prog 96 = false := by kernel_rfl
theorem tbytes96 : tbytes Try.prog 96 = false := by kernel_rfl
theorem tfld96_0 : tfld Try.prog 96 0 = some (24, 0, 1) := by kernel_rfl
theorem tfld96_1 : tfld Try.prog 96 1 = some (3, 1, 1) := by kernel_rfl
theorem tsz101 : tsz Try.prog 101 = some 1 := by kernel_rfl
theorem tby101 : tby Try.prog 101 = some 8 := by kernel_rfl
theorem tagg101 : tagg Try.prog 101 = some false := by kernel_rfl
theorem tslice101 : tslice Try.prog 101 = none := by kernel_rfl
theorem tarr101 : tarr Try.prog 101 = none := by kernel_rfl
theorem tzero101 : tzero Try.prog 101 = some [AV.nilp] := by kernel_rfl
theorem tzn101 : tzn Try.prog 101 = some 1 := by kernel_rfl
theorem tplaces101 : tplaces Try.prog 101 = none := by kernel_rfl
theorem tint101 : tint Try.prog 101 = none := by kernel_rfl
theorem tstr101 : tstr Try.prog 101 = false := by kernel_rfl
theorem tnoint101 : tnoint Try.prog 101 = false := by kernel_rfl
theorem tbool101 : tbool Try.prog 101 = false := by kernel_rfl
theorem tany101 : tany Try.prog 101 = some true := by kernel_rfl
theorem tintk101 : tintk Try.prog 101 = false := by kernel_rfl
theorem tbytes101 : tbytes Try.prog 101 = false := by kernel_rfl
theorem tsz109 : tsz Try.prog 109 = some 1 := by kernel_rfl
theorem tby109 : tby Try.prog 109 = some 8 := by kernel_rfl
theorem tagg109 : tagg Try.prog 109 = some false := by kernel_rfl
theorem tslice109 : tslice Try.prog 109 = none := by kernel_rfl
theorem tarr109 : tarr Try.prog 109 = none := by kernel_rfl
theorem tzero109 : tzero Try.prog 109 = some [AV.nilf] := by kernel_rfl
theorem tzn109 : tzn Try.prog 109 = some 1 := by kernel_rfl
theorem tplaces109 : tplaces Try.prog 109 = none := by kernel_rfl
theorem tint109 : tint Try.prog 109 = none := by kernel_rfl
theorem tstr109 : tstr Try.prog 109 = false := by kernel_rfl
theorem tnoint109 : tnoint Try.prog 109 = false := by kernel_rfl
theorem tbool109 : tbool Try.prog 109 = false := by kernel_rfl
theorem tany109 : tany Try.prog 109 = some true := by kernel_rfl
theorem tintk109 : tintk Try.prog 109 = false := by kernel_rfl
theorem tbytes109 : tbytes Try.prog 109 = false := by kernel_rfl
theorem tsz113 : tsz Try.prog 113 = some 1 := by kernel_rfl
theorem tby113 : tby Try.prog 113 = some 8 := by kernel_rfl
theorem tagg113 : tagg Try.prog 113 = some false := by kernel_rfl
theorem tslice113 : tslice Try.prog 113 = none := by kernel_rfl
theorem tarr113 : tarr Try.prog 113 = none := by kernel_rfl
theorem tzero113 : tzero Try.prog 113 = some [AV.nilf] := by kernel_rfl
theorem tzn113 : tzn Try.prog 113 = some 1 := by kernel_rfl
theorem tplaces113 : tplaces Try.prog 113 = none := by kernel_rfl
theorem tint113 : tint Try.prog 113 = none := by kernel_rfl
theorem tstr113 : tstr Try.prog 113 = false := by kernel_rfl
theorem tnoint113 : tnoint Try.prog 113 = false := by kernel_rfl
theorem tbool113 : tbool Try.prog 113 = false := by kernel_rfl
theorem tany113 : tany Try.prog 113 = some true := by kernel_rfl
theorem tintk113 : tintk Try.prog 113 = false := by kernel_rfl
theorem tbytes113 : tbytes Try.prog 113 = false := by kernel_rfl
theorem tsz119 : tsz Try.prog 119 = some 1 := by kernel_rfl
theorem tby119 : tby Try.prog 119 = some 8 := by kernel_rfl
theorem tagg119 : tagg Try.prog 119 = some false := by kernel_rfl
theorem tslice119 : tslice Try.prog 119 = none := by kernel_rfl
theorem tarr119 : tarr Try.prog 119 = none := by kernel_rfl
theorem tzero119 : tzero Try.prog 119 = some [AV.nilf] := by kernel_rfl
theorem tzn119 : tzn Try.prog 119 = some 1 := by kernel_rfl
theorem tplaces119 : tplaces Try.prog 119 = none := by kernel_rfl
theorem tint119 : tint Try.prog 119 = none := by kernel_rfl
theorem tstr119 : tstr Try.prog 119 = false := by kernel_rfl
theorem tnoint119 : tnoint Try.prog 119 = false := by kernel_rfl
theorem tbool119 : tbool Try.prog 119 = false := by kernel_rfl
theorem tany119 : tany Try.prog 119 = some true := by kernel_rfl
theorem tintk119 : tintk Try.prog 119 = false := by kernel_rfl
theorem tbytes119 : tbytes Try.prog 119 = false := by kernel_rfl
theorem tsz124 : tsz Try.prog 124 = some 1 := by kernel_rfl
theorem tby124 : tby Try.prog 124 = some 8 := by kernel_rfl
theorem tagg124 : tagg Try.prog 124 = some false := by kernel_rfl
theorem tslice124 : tslice Try.prog 124 = none := by kernel_rfl
theorem tarr124 : tarr Try.prog 124 = none := by kernel_rfl
theorem tzero124 : tzero Try.prog 124 = some [AV.nilf] := by kernel_rfl
theorem tzn124 : tzn Try.prog 124 = some 1 := by kernel_rfl
theorem tplaces124 : tplaces Try.prog 124 = none := by kernel_rfl
theorem tint124 : tint Try.prog 124 = none := by kernel_rfl
theorem tstr124 : tstr Try.prog 124 = false := by kernel_rfl
theorem tnoint124 : tnoint Try.prog 124 = false := by kernel_rfl
theorem tbool124 : tbool Try.prog 124 = false := by kernel_rfl
theorem tany124 : tany Try.prog 124 = some true := by kernel_rfl
theorem tintk124 : tintk Try.prog 124 = false := by kernel_rfl
theorem tbytes124 : tbytes Try.prog 124 = false := by kernel_rfl
theorem tsz126 : tsz Try.prog 126 = some 1 := by kernel_rfl
theorem tby126 : tby Try.prog 126 = some 8 := by kernel_rfl
theorem tagg126 : tagg Try.prog 126 = some false := by kernel_rfl
theorem tslice126 : tslice Try.prog 126 = none := by kernel_rfl
theorem tarr126 : tarr Try.prog 126 = none := by kernel_rfl
theorem tzero126 : tzero Try.prog 126 = some [AV.nilf] := by kernel_rfl
theorem tzn126 : tzn Try.prog 126 = some 1 := by kernel_rfl
theorem tplaces126 : tplaces Try.prog 126 = none := by kernel_rfl
theorem tint126 : tint Try.prog 126 = none := by kernel_rfl
theorem tstr126 : tstr Try.prog 126 = false := by kernel_rfl
theorem tnoint126 : tnoint Try.prog 126 = false := by kernel_rfl
theorem tbool126 : tbool Try.prog 126 = false := by kernel_rfl
theorem tany126 : tany Try.prog 126 = some true := by kernel_rfl
theorem tintk126 : tintk Try.prog 126 = false := by kernel_rfl
theorem tbytes126 : tbytes Try.prog 126 = false := by kernel_rfl
theorem tsz129 : tsz Try.prog 129 = some 1 := by kernel_rfl
theorem tby129 : tby Try.prog 129 = some 8 := by kernel_rfl
theorem tagg129 : tagg Try.prog 129 = some false := by kernel_rfl
theorem tslice129 : tslice Try.prog 129 = none := by kernel_rfl
theorem tarr129 : tarr Try.prog 129 = none := by kernel_rfl
theorem tzero129 : tzero Try.prog 129 = some [AV.nilf] := by kernel_rfl
theorem tzn129 : tzn Try.prog 129 = some 1 := by kernel_rfl
theorem tplaces129 : tplaces Try.prog 129 = none := by kernel_rfl
theorem tint129 : tint Try.prog 129 = none := by kernel_rfl
theorem tstr129 : tstr Try.prog 129 = false := by kernel_rfl
theorem tnoint129 : tnoint Try.prog 129 = false := by kernel_rfl
theorem tbool129 : tbool Try.prog 129 = false := by kernel_rfl
theorem tany129 : tany Try.prog 129 = some true := by kernel_rfl
theorem tintk129 : tintk Try.prog 129 = false := by kernel_rfl
theorem tbytes129 : tbytes Try.prog 129 = false := by kernel_rfl
theorem tsz130 : tsz Try.prog 130 = some 1 := by kernel_rfl
theorem tby130 : tby Try.prog 130 = some 8 := by kernel_rfl
theorem tagg130 : tagg Try.prog 130 = some false := by kernel_rfl
theorem tslice130 : tslice Try.prog 130 = none := by kernel_rfl
theorem tarr130 : tarr Try.prog 130 = none := by kernel_rfl
theorem tzero130 : tzero Try.prog 130 = some [AV.nilf] := by kernel_rfl
theorem tzn130 : tzn Try.prog 130 = some 1 := by kernel_rfl
theorem tplaces130 : tplaces Try.prog 130 = none := by kernel_rfl
theorem tint130 : tint Try.prog 130 = none := by kernel_rfl
theorem tstr130 : tstr Try.prog 130 = false := by kernel_rfl
theorem tnoint130 : tnoint Try.prog 130 = false := by kernel_rfl
theorem tbool130 : tbool Try.prog 130 = false := by kernel_rfl
theorem tany130 : tany Try.prog 130 = some true := by kernel_rfl
theorem tintk130 : tintk Try.prog 130 = false := by kernel_rfl
theorem tbytes130 : tbytes Try.prog 130 = false := by kernel_rfl
theorem tsz132 : tsz Try.prog 132 = some 2 := by kernel_rfl
theorem tby132 : tby Try.prog 132 = some 16 := by kernel_rfl
theorem tagg132 : tagg Try.prog 132 = some true := by kernel_rfl
theorem tslice132 : tslice Try.prog 132 = none := by kernel_rfl
theorem tarr132 : tarr Try.prog 132 = none := by kernel_rfl
theorem tzero132 : tzero Try.prog 132 = some [AV.nilf, AV.nilf] := by kernel_rfl
theorem tzn132 : tzn Try.prog 132 = some 2 := by kernel_rfl
theorem tplaces132 : tplaces Try.prog 132 = some [(0, 1), (1, 1)] := by kernel_rfl
theorem tint132 : tint Try.prog 132 = none := by kernel_rfl
theorem tstr132 : tstr Try.prog 132 = false := by kernel_rfl
theorem tnoint132 : tnoint Try.prog 132 = false := by kernel_rfl
theorem tbool132 : tbool Try.prog 132 = false := by kernel_rfl
theorem tany132 : tany Try.prog 132 = some true := by kernel_rfl
theorem tintk132 : tintk Try.prog 132 = false := by kernel_rfl
theorem tbytes132 : tbytes Try.prog 132 = false := by kernel_rfl
theorem tfld132_0 : tfld Try.prog 132 0 = some (129, 0, 1) := by kernel_rfl
theorem tfld132_1 : tfld Try.prog 132 1 = some (130, 1, 1) := by kernel_rfl
theorem tmap8133 : tmap8 Try.prog 133 = true := by kernel_rfl
theorem tsz139 : tsz Try.prog 139 = some 4 := by kernel_rfl
theorem tby139 : tby Try.prog 139 = some 32 := by kernel_rfl
theorem tagg139 : tagg Try.prog 139 = some true := by kernel_rfl
theorem tslice139 : tslice Try.prog 139 = none := by kernel_rfl
theorem tarr139 : tarr Try.prog 139 = none := by kernel_rfl
theorem tzero139 : tzero Try.prog 139 = some [AV.int IntKind.u8 0, AV.int IntKind.i64 0, AV.int IntKind.i64 0, AV.int IntKind.i64 0] := by kernel_rfl
theorem tzn139 : tzn Try.prog 139 = some 4 := by kernel_rfl
theorem tplaces139 : tplaces Try.prog 139 = some [(0, 1), (1, 1), (2, 1), (3, 1)] := by kernel_rfl
theorem tint139 : tint Try.prog 139 = none := by kernel_rfl
theorem tstr139 : tstr Try.prog 139 = false := by kernel_rfl
theorem tnoint139 : tnoint Try.prog 139 = false := by kernel_rfl
theorem tbool139 : tbool Try.prog 139 = false := by kernel_rfl
theorem tany139 : tany Try.prog 139 = some true := by kernel_rfl
theorem tintk139 : tintk Try.prog 139 = false := by kernel_rfl
theorem tbytes139 : tbytes Try.prog 139 = false := by kernel_rfl
theorem tfld139_0 : tfld Try.prog 139 0 = some (5, 0, 1) := by kernel_rfl
theorem tfld139_1 : tfld Try.prog 139 1 = some (3, 1, 1) := by kernel_rfl
theorem tfld139_2 : tfld Try.prog 139 2 = some (3, 2, 1) := by kernel_rfl
theorem tfld139_3 : tfld Try.prog 139 3 = some (3, 3, 1) := by kernel_rfl
theorem tsz141 : tsz Try.prog 141 = some 1 := by kernel_rfl
theorem tby141 : tby Try.prog 141 = some 8 := by kernel_rfl
theorem tagg141 : tagg Try.prog 141 = some false := by kernel_rfl
theorem tslice141 : tslice Try.prog 141 = none := by kernel_rfl
theorem tarr141 : tarr Try.prog 141 = none := by kernel_rfl
theorem tzero141 : tzero Try.prog 141 = some [AV.nilf] := by kernel_rfl
theorem tzn141 : tzn Try.prog 141 = some 1 := by kernel_rfl
theorem tplaces141 : tplaces Try.prog 141 = none := by kernel_rfl
theorem tint141 : tint Try.prog 141 = none := by kernel_rfl
theorem tstr141 : tstr Try.prog 141 = false := by kernel_rfl
theorem tnoint141 : tnoint Try.prog 141 = false := by kernel_rfl
theorem tbool141 : tbool Try.prog 141 = false := by kernel_rfl
theorem tany141 : tany Try.prog 141 = some true := by kernel_rfl
theorem tintk141 : tintk Try.prog 141 = false := by kernel_rfl
theorem tbytes141 : tbytes Try.prog 141 = false := by kernel_rfl
theorem tsz149 : tsz Try.prog 149 = some 1 := by kernel_rfl
theorem tby149 : tby Try.prog 149 = some 8 := by kernel_rfl
theorem tagg149 : tagg Try.prog 149 = some false := by kernel_rfl
theorem tslice149 : tslice Try.prog 149 = none := by kernel_rfl
theorem tarr149 : tarr Try.prog 149 = none := by kernel_rfl
theorem tzero149 : tzero Try.prog 149 = some [AV.nilf] := by kernel_rfl
theorem tzn149 : tzn Try.prog 149 = some 1 := by kernel_rfl
theorem tplaces149 : tplaces Try.prog 149 = none := by kernel_rfl
theorem tint149 : tint Try.prog 149 = none := by kernel_rfl
theorem tstr149 : tstr Try.prog 149 = false := by kernel_rfl
theorem tnoint149 : tnoint Try.prog 149 = false := by kernel_rfl
theorem tbool149 : tbool Try.prog 149 = false := by kernel_rfl
theorem tany149 : tany Try.prog 149 = some true := by kernel_rfl
theorem tintk149 : tintk Try.prog 149 = false := by kernel_rfl
theorem tbytes149 : tbytes Try.prog 149 = false := by kernel_rfl
theorem tsz152 : tsz Try.prog 152 = some 1 := by kernel_rfl
theorem tby152 : tby Try.prog 152 = some 8 := by kernel_rfl
theorem tagg152 : tagg Try.prog 152 = some false := by kernel_rfl
theorem tslice152 : tslice Try.prog 152 = none := by kernel_rfl
theorem tarr152 : tarr Try.prog 152 = none := by kernel_rfl
theorem tzero152 : tzero Try.prog 152 = some [AV.nilf] := by kernel_rfl
theorem tzn152 : tzn Try.prog 152 = some 1 := by kernel_rfl
theorem tplaces152 : tplaces Try.prog 152 = none := by kernel_rfl
theorem tint152 : tint Try.prog 152 = none := by kernel_rfl
theorem tstr152 : tstr Try.prog 152 = false := by kernel_rfl
theorem tnoint152 : tnoint Try.prog 152 = false := by kernel_rfl
theorem tbool152 : tbool Try.prog 152 = false := by kernel_rfl
theorem tany152 : tany Try.prog 152 = some true := by kernel_rfl
theorem tintk152 : tintk Try.prog 152 = false := by kernel_rfl
theorem tbytes152 : tbytes Try.prog 152 = false := by kernel_rfl
theorem tsz155 : tsz Try.prog 155 = some 1 := by kernel_rfl
theorem tby155 : tby Try.prog 155 = some 8 := by kernel_rfl
theorem tagg155 : tagg Try.prog 155 = some false := by kernel_rfl
theorem tslice155 : tslice Try.prog 155 = none := by kernel_rfl
theorem tarr155 : tarr Try.prog 155 = none := by kernel_rfl
theorem tzero155 : tzero Try.prog 155 = some [AV.nilf] := by kernel_rfl
theorem tzn155 : tzn Try.prog 155 = some 1 := by kernel_rfl
theorem tplaces155 : tplaces Try.prog 155 = none := by kernel_rfl
theorem tint155 : tint Try.prog 155 = none := by kernel_rfl
theorem tstr155 : tstr Try.prog 155 = false := by kernel_rfl
theorem tnoint155 : tnoint Try.prog 155 = false := by kernel_rfl
theorem tbool155 : tbool Try.prog 155 = false := by kernel_rfl
theorem tany155 : tany Try.prog 155 = some true := by kernel_rfl
theorem tintk155 : tintk Try.prog 155 = false := by kernel_rfl
theorem tbytes155 : tbytes Try.prog 155 = false := by kernel_rfl
theorem tsz156 : tsz Try.prog 156 = some 1 := by kernel_rfl
theorem tby156 : tby Try.prog 156 = some 8 := by kernel_rfl
theorem tagg156 : tagg Try.prog 156 = some false := by kernel_rfl
theorem tslice156 : tslice Try.prog 156 = none := by kernel_rfl
theorem tarr156 : tarr Try.prog 156 = none := by kernel_rfl
theorem tzero156 : tzero Try.prog 156 = some [AV.int IntKind.u64 0] := by kernel_rfl
theorem tzn156 : tzn Try.prog 156 = some 1 := by kernel_rfl
theorem tplaces156 : tplaces Try.prog 156 = none := by kernel_rfl
theorem tint156 : tint Try.prog 156 = some IntKind.u64 := by kernel_rfl
theorem tstr156 : tstr Try.prog 156 = false := by kernel_rfl
theorem tnoint156 : tnoint Try.prog 156 = false := by kernel_rfl
theorem tbool156 : tbool Try.prog 156 = false := by kernel_rfl
theorem tany156 : tany Try.prog 156 = some true := by kernel_rfl
theorem tintk156 : tintk Try.prog 156 = true := by kernel_rfl
theorem tbytes156 : tbytes Try.prog 156 = false := by kernel_rfl
end Go.Proofs.Ytjhkehdbjnhplaa

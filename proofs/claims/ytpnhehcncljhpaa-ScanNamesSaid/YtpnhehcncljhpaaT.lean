/-
  Facts of the types that the walks meet: sizes, places, zero values.
-/
import Derived.Test.YtpnhehcncljhpaaPm10
import Derived.Test.YtpnhehcncljhpaaProg
namespace Go.Proofs.Ytpnhehcncljhpaa
open Go.Am
set_option linter.unusedVariables false
theorem tsz3 : tsz Try.prog 3 = some 1 := by kernel_rfl
theorem tby3 : tby Try.prog 3 = some 8 := by kernel_rfl
theorem tagg3 : tagg Try.prog 3 = some false := by kernel_rfl
theorem tslice3 : tslice Try.prog 3 = none := by kernel_rfl
theorem tarr3 : tarr Try.prog 3 = none := by kernel_rfl
theorem tzero3 : tzero Try.prog 3 = some [AV.int IntKind.i64 0] := by kernel_rfl
theorem tzn3 : tzn Try.prog 3 = some 1 := by kernel_rfl
theorem tplaces3 : tplaces Try.prog 3 = none := by kernel_rfl
theorem tint3 : tint Try.prog 3 = some IntKind.i64 := by kernel_rfl
theorem tstr3 : tstr Try.prog 3 = false := by kernel_rfl
theorem tnoint3 : tnoint Try.prog 3 = false := by kernel_rfl
theorem tbool3 : tbool Try.prog 3 = false := by kernel_rfl
theorem tany3 : tany Try.prog 3 = some true := by kernel_rfl
theorem tintk3 : tintk Try.prog 3 = true := by kernel_rfl
theorem tbytes3 : tbytes Try.prog 3 = false := by kernel_rfl
theorem tsz4 : tsz Try.prog 4 = some 1 := by kernel_rfl
theorem tby4 : tby Try.prog 4 = some 1 := by kernel_rfl
theorem tagg4 : tagg Try.prog 4 = some false := by kernel_rfl
theorem tslice4 : tslice Try.prog 4 = none := by kernel_rfl
theorem tarr4 : tarr Try.prog 4 = none := by kernel_rfl
theorem tzero4 : tzero Try.prog 4 = some [AV.bool false] := by kernel_rfl
theorem tzn4 : tzn Try.prog 4 = some 1 := by kernel_rfl
theorem tplaces4 : tplaces Try.prog 4 = none := by kernel_rfl
theorem tint4 : tint Try.prog 4 = none := by kernel_rfl
theorem tstr4 : tstr Try.prog 4 = false := by kernel_rfl
theorem tnoint4 : tnoint Try.prog 4 = false := by kernel_rfl
theorem tbool4 : tbool Try.prog 4 = true := by kernel_rfl
theorem tany4 : tany Try.prog 4 = some true := by kernel_rfl
theorem tintk4 : tintk Try.prog 4 = false := by kernel_rfl
theorem tbytes4 : tbytes Try.prog 4 = false := by kernel_rfl
theorem tsz5 : tsz Try.prog 5 = some 1 := by kernel_rfl
theorem tby5 : tby Try.prog 5 = some 1 := by kernel_rfl
theorem tagg5 : tagg Try.prog 5 = some false := by kernel_rfl
theorem tslice5 : tslice Try.prog 5 = none := by kernel_rfl
theorem tarr5 : tarr Try.prog 5 = none := by kernel_rfl
theorem tzero5 : tzero Try.prog 5 = some [AV.int IntKind.u8 0] := by kernel_rfl
theorem tzn5 : tzn Try.prog 5 = some 1 := by kernel_rfl
theorem tplaces5 : tplaces Try.prog 5 = none := by kernel_rfl
theorem tint5 : tint Try.prog 5 = some IntKind.u8 := by kernel_rfl
theorem tstr5 : tstr Try.prog 5 = false := by kernel_rfl
theorem tnoint5 : tnoint Try.prog 5 = false := by kernel_rfl
theorem tbool5 : tbool Try.prog 5 = false := by kernel_rfl
theorem tany5 : tany Try.prog 5 = some true := by kernel_rfl
theorem tintk5 : tintk Try.prog 5 = true := by kernel_rfl
theorem tbytes5 : tbytes Try.prog 5 = false := by kernel_rfl
theorem tsz9 : tsz Try.prog 9 = some 1 := by kernel_rfl
theorem tby9 : tby Try.prog 9 = some 16 := by kernel_rfl
theorem tagg9 : tagg Try.prog 9 = some false := by kernel_rfl
theorem tslice9 : tslice Try.prog 9 = none := by kernel_rfl
theorem tarr9 : tarr Try.prog 9 = none := by kernel_rfl
theorem tzero9 : tzero Try.prog 9 = some [AV.str (ByteArray.mk #[])] := by kernel_rfl
theorem tzn9 : tzn Try.prog 9 = some 1 := by kernel_rfl
theorem tplaces9 : tplaces Try.prog 9 = none := by kernel_rfl
theorem tint9 : tint Try.prog 9 = none := by kernel_rfl
theorem tstr9 : tstr Try.prog 9 = true := by kernel_rfl
theorem tnoint9 : tnoint Try.prog 9 = true := by kernel_rfl
theorem tbool9 : tbool Try.prog 9 = false := by kernel_rfl
theorem tany9 : tany Try.prog 9 = some true := by kernel_rfl
theorem tintk9 : tintk Try.prog 9 = false := by kernel_rfl
theorem tbytes9 : tbytes Try.prog 9 = false := by kernel_rfl
theorem tsz22 : tsz Try.prog 22 = some 1 := by kernel_rfl
theorem tby22 : tby Try.prog 22 = some 24 := by kernel_rfl
theorem tagg22 : tagg Try.prog 22 = some false := by kernel_rfl
theorem tslice22 : tslice Try.prog 22 = some 3 := by kernel_rfl
theorem tarr22 : tarr Try.prog 22 = none := by kernel_rfl
theorem tzero22 : tzero Try.prog 22 = some [AV.ro 0 0 true fun x x_1 => AV.top] := by kernel_rfl
theorem tzn22 : tzn Try.prog 22 = some 1 := by kernel_rfl
theorem tplaces22 : tplaces Try.prog 22 = none := by kernel_rfl
theorem tint22 : tint Try.prog 22 = none := by kernel_rfl
theorem tstr22 : tstr Try.prog 22 = false := by kernel_rfl
theorem tnoint22 : tnoint Try.prog 22 = true := by kernel_rfl
theorem tbool22 : tbool Try.prog 22 = false := by kernel_rfl
theorem tany22 : tany Try.prog 22 = some true := by kernel_rfl
theorem tintk22 : tintk Try.prog 22 = false := by kernel_rfl
theorem tbytes22 : tbytes Try.prog 22 = false := by kernel_rfl
theorem tsz23 : tsz Try.prog 23 = some 1 := by kernel_rfl
theorem tby23 : tby Try.prog 23 = some 24 := by kernel_rfl
theorem tagg23 : tagg Try.prog 23 = some false := by kernel_rfl
theorem tslice23 : tslice Try.prog 23 = some 37 := by kernel_rfl
theorem tarr23 : tarr Try.prog 23 = none := by kernel_rfl
theorem tzero23 : tzero Try.prog 23 = some [AV.ro 0 0 true fun x x_1 => AV.top] := by kernel_rfl
theorem tzn23 : tzn Try.prog 23 = some 1 := by kernel_rfl
theorem tplaces23 : tplaces Try.prog 23 = none := by kernel_rfl
theorem tint23 : tint Try.prog 23 = none := by kernel_rfl
theorem tstr23 : tstr Try.prog 23 = false := by kernel_rfl
theorem tnoint23 : tnoint Try.prog 23 = true := by kernel_rfl
theorem tbool23 : tbool Try.prog 23 = false := by kernel_rfl
theorem tany23 : tany Try.prog 23 = some true := by kernel_rfl
theorem tintk23 : tintk Try.prog 23 = false := by kernel_rfl
theorem tbytes23 : tbytes Try.prog 23 = false := by kernel_rfl
theorem tsz25 : tsz Try.prog 25 = some 1 := by kernel_rfl
theorem tby25 : tby Try.prog 25 = some 24 := by kernel_rfl
theorem tagg25 : tagg Try.prog 25 = some false := by kernel_rfl
theorem tslice25 : tslice Try.prog 25 = some 65 := by kernel_rfl
theorem tarr25 : tarr Try.prog 25 = none := by kernel_rfl
theorem tzero25 : tzero Try.prog 25 = some [AV.ro 0 0 true fun x x_1 => AV.top] := by kernel_rfl
theorem tzn25 : tzn Try.prog 25 = some 1 := by kernel_rfl
theorem tplaces25 : tplaces Try.prog 25 = none := by kernel_rfl
theorem tint25 : tint Try.prog 25 = none := by kernel_rfl
theorem tstr25 : tstr Try.prog 25 = false := by kernel_rfl
theorem tnoint25 : tnoint Try.prog 25 = true := by kernel_rfl
theorem tbool25 : tbool Try.prog 25 = false := by kernel_rfl
theorem tany25 : tany Try.prog 25 = some true := by kernel_rfl
theorem tintk25 : tintk Try.prog 25 = false := by kernel_rfl
theorem tbytes25 : tbytes Try.prog 25 = false := by kernel_rfl
theorem tsz26 : tsz Try.prog 26 = some 1 := by kernel_rfl
theorem tby26 : tby Try.prog 26 = some 8 := by kernel_rfl
theorem tagg26 : tagg Try.prog 26 = some false := by kernel_rfl
theorem tslice26 : tslice Try.prog 26 = none := by kernel_rfl
theorem tarr26 : tarr Try.prog 26 = none := by kernel_rfl
theorem tzero26 : tzero Try.prog 26 = some [AV.int IntKind.i64 0] := by kernel_rfl
theorem tzn26 : tzn Try.prog 26 = some 1 := by kernel_rfl
theorem tplaces26 : tplaces Try.prog 26 = none := by kernel_rfl
theorem tint26 : tint Try.prog 26 = some IntKind.i64 := by kernel_rfl
theorem tstr26 : tstr Try.prog 26 = false := by kernel_rfl
theorem tnoint26 : tnoint Try.prog 26 = false := by kernel_rfl
theorem tbool26 : tbool Try.prog 26 = false := by kernel_rfl
theorem tany26 : tany Try.prog 26 = some true := by kernel_rfl
theorem tintk26 : tintk Try.prog 26 = true := by kernel_rfl
theorem tbytes26 : tbytes Try.prog 26 = false := by kernel_rfl
theorem tsz35 : tsz Try.prog 35 = some 1 := by kernel_rfl
theorem tby35 : tby Try.prog 35 = some 24 := by kernel_rfl
theorem tagg35 : tagg Try.prog 35 = some false := by kernel_rfl
theorem tslice35 : tslice Try.prog 35 = some 5 := by kernel_rfl
theorem tarr35 : tarr Try.prog 35 = none := by kernel_rfl
theorem tzero35 : tzero Try.prog 35 = some [AV.ro 0 0 true fun x x_1 => AV.top] := by kernel_rfl
theorem tzn35 : tzn Try.prog 35 = some 1 := by kernel_rfl
theorem tplaces35 : tplaces Try.prog 35 = none := by kernel_rfl
theorem tint35 : tint Try.prog 35 = none := by kernel_rfl
theorem tstr35 : tstr Try.prog 35 = false := by kernel_rfl
theorem tnoint35 : tnoint Try.prog 35 = true := by kernel_rfl
theorem tbool35 : tbool Try.prog 35 = false := by kernel_rfl
theorem tany35 : tany Try.prog 35 = some true := by kernel_rfl
theorem tintk35 : tintk Try.prog 35 = false := by kernel_rfl
theorem tbytes35 : tbytes Try.prog 35 = true := by kernel_rfl
theorem tsz37 : tsz Try.prog 37 = some 4 := by kernel_rfl
theorem tby37 : tby Try.prog 37 = some 56 := by kernel_rfl
theorem tagg37 : tagg Try.prog 37 = some true := by kernel_rfl
theorem tslice37 : tslice Try.prog 37 = none := by kernel_rfl
theorem tarr37 : tarr Try.prog 37 = none := by kernel_rfl
theorem tzero37 : tzero Try.prog 37 = some [AV.int IntKind.u8 0, AV.int IntKind.u8 0, AV.ro 0 0 true fun x x_1 => AV.top, AV.ro 0 0 true fun x x_1 => AV.top] := by kernel_rfl
theorem tzn37 : tzn Try.prog 37 = some 4 := by kernel_rfl
theorem tplaces37 : tplaces Try.prog 37 = some [(0, 1), (1, 1), (2, 1), (3, 1)] := by kernel_rfl
theorem tint37 : tint Try.prog 37 = none := by kernel_rfl
theorem tstr37 : tstr Try.prog 37 = false := by kernel_rfl
theorem tnoint37 : tnoint Try.prog 37 = false := by kernel_rfl
theorem tbool37 : tbool Try.prog 37 = false := by kernel_rfl
theorem tany37 : tany Try.prog 37 = some true := by kernel_rfl
theorem tintk37 : tintk Try.prog 37 = false := by kernel_rfl
theorem tbytes37 : tbytes Try.prog 37 = false := by kernel_rfl
theorem tfld37_0 : tfld Try.prog 37 0 = some (5, 0, 1) := by kernel_rfl
theorem tfld37_1 : tfld Try.prog 37 1 = some (5, 1, 1) := by kernel_rfl
theorem tfld37_2 : tfld Try.prog 37 2 = some (35, 2, 1) := by kernel_rfl
theorem tfld37_3 : tfld Try.prog 37 3 = some (23, 3, 1) := by kernel_rfl
theorem tsz39 : tsz Try.prog 39 = some 1 := by kernel_rfl
theorem tby39 : tby Try.prog 39 = some 24 := by kernel_rfl
theorem tagg39 : tagg Try.prog 39 = some false := by kernel_rfl
theorem tslice39 : tslice Try.prog 39 = some 52 := by kernel_rfl
theorem tarr39 : tarr Try.prog 39 = none := by kernel_rfl
theorem tzero39 : tzero Try.prog 39 = some [AV.ro 0 0 true fun x x_1 => AV.top] := by kernel_rfl
theorem tzn39 : tzn Try.prog 39 = some 1 := by kernel_rfl
theorem tplaces39 : tplaces Try.prog 39 = none := by kernel_rfl
theorem tint39 : tint Try.prog 39 = none := by kernel_rfl
theorem tstr39 : tstr Try.prog 39 = false := by kernel_rfl
theorem tnoint39 : tnoint Try.prog 39 = true := by kernel_rfl
theorem tbool39 : tbool Try.prog 39 = false := by kernel_rfl
theorem tany39 : tany Try.prog 39 = some true := by kernel_rfl
theorem tintk39 : tintk Try.prog 39 = false := by kernel_rfl
theorem tbytes39 : tbytes Try.prog 39 = false := by kernel_rfl
theorem tsz41 : tsz Try.prog 41 = some 1 := by kernel_rfl
theorem tby41 : tby Try.prog 41 = some 24 := by kernel_rfl
theorem tagg41 : tagg Try.prog 41 = some true := by kernel_rfl
theorem tslice41 : tslice Try.prog 41 = none := by kernel_rfl
theorem tarr41 : tarr Try.prog 41 = none := by kernel_rfl
theorem tzero41 : tzero Try.prog 41 = some [AV.ro 0 0 true fun x x_1 => AV.top] := by kernel_rfl
theorem tzn41 : tzn Try.prog 41 = some 1 := by kernel_rfl
theorem tplaces41 : tplaces Try.prog 41 = some [(0, 1)] := by kernel_rfl
theorem tint41 : tint Try.prog 41 = none := by kernel_rfl
theorem tstr41 : tstr Try.prog 41 = false := by kernel_rfl
theorem tnoint41 : tnoint Try.prog 41 = false := by kernel_rfl
theorem tbool41 : tbool Try.prog 41 = false := by kernel_rfl
theorem tany41 : tany Try.prog 41 = some true := by kernel_rfl
theorem tintk41 : tintk Try.prog 41 = false := by kernel_rfl
theorem tbytes41 : tbytes Try.prog 41 = false := by kernel_rfl
theorem tfld41_0 : tfld Try.prog 41 0 = some (39, 0, 1) := by kernel_rfl
theorem tsz43 : tsz Try.prog 43 = some 6 := by kernel_rfl
theorem tby43 : tby Try.prog 43 = some 6 := by kernel_rfl
theorem tagg43 : tagg Try.prog 43 = some true := by kernel_rfl
theorem tslice43 : tslice Try.prog 43 = none := by kernel_rfl
theorem tarr43 : tarr Try.prog 43 = some (6, 5) := by kernel_rfl
theorem tzero43 : tzero Try.prog 43 = some [AV.int IntKind.u8 0, AV.int IntKind.u8 0, AV.int IntKind.u8 0, AV.int IntKind.u8 0, AV.int IntKind.u8 0, AV.int IntKind.u8 0] := by kernel_rfl
theorem tzn43 : tzn Try.prog 43 = some 6 := by kernel_rfl
theorem tplaces43 : tplaces Try.prog 43 = none := by kernel_rfl
theorem tint43 : tint Try.prog 43 = none := by kernel_rfl
theorem tstr43 : tstr Try.prog 43 = false := by kernel_rfl
theorem tnoint43 : tnoint Try.prog 43 = false := by kernel_rfl
theorem tbool43 : tbool Try.prog 43 = false := by kernel_rfl
theorem tany43 : tany Try.prog 43 = some true := by kernel_rfl
theorem tintk43 : tintk Try.prog 43 = false := by kernel_rfl
theorem tbytes43 : tbytes Try.prog 43 = false := by kernel_rfl
theorem tsz44 : tsz Try.prog 44 = some 1 := by kernel_rfl
theorem tby44 : tby Try.prog 44 = some 8 := by kernel_rfl
theorem tagg44 : tagg Try.prog 44 = some false := by kernel_rfl
theorem tslice44 : tslice Try.prog 44 = none := by kernel_rfl
theorem tarr44 : tarr Try.prog 44 = none := by kernel_rfl
theorem tzero44 : tzero Try.prog 44 = some [AV.int IntKind.u64 0] := by kernel_rfl
theorem tzn44 : tzn Try.prog 44 = some 1 := by kernel_rfl
theorem tplaces44 : tplaces Try.prog 44 = none := by kernel_rfl
theorem tint44 : tint Try.prog 44 = some IntKind.u64 := by kernel_rfl
theorem tstr44 : tstr Try.prog 44 = false := by kernel_rfl
theorem tnoint44 : tnoint Try.prog 44 = false := by kernel_rfl
theorem tbool44 : tbool Try.prog 44 = false := by kernel_rfl
theorem tany44 : tany Try.prog 44 = some true := by kernel_rfl
theorem tintk44 : tintk Try.prog 44 = true := by kernel_rfl
theorem tbytes44 : tbytes Try.prog 44 = false := by kernel_rfl
theorem tsz45 : tsz Try.prog 45 = some 1 := by kernel_rfl
theorem tby45 : tby Try.prog 45 = some 2 := by kernel_rfl
theorem tagg45 : tagg Try.prog 45 = some false := by kernel_rfl
theorem tslice45 : tslice Try.prog 45 = none := by kernel_rfl
theorem tarr45 : tarr Try.prog 45 = none := by kernel_rfl
theorem tzero45 : tzero Try.prog 45 = some [AV.int IntKind.u16 0] := by kernel_rfl
theorem tzn45 : tzn Try.prog 45 = some 1 := by kernel_rfl
theorem tplaces45 : tplaces Try.prog 45 = none := by kernel_rfl
theorem tint45 : tint Try.prog 45 = some IntKind.u16 := by kernel_rfl
theorem tstr45 : tstr Try.prog 45 = false := by kernel_rfl
theorem tnoint45 : tnoint Try.prog 45 = false := by kernel_rfl
theorem tbool45 : tbool Try.prog 45 = false := by kernel_rfl
theorem tany45 : tany Try.prog 45 = some true := by kernel_rfl
theorem tintk45 : tintk Try.prog 45 = true := by kernel_rfl
theorem tbytes45 : tbytes Try.prog 45 = false := by kernel_rfl
theorem tsz47 : tsz Try.prog 47 = some 4 := by kernel_rfl
theorem tby47 : tby Try.prog 47 = some 40 := by kernel_rfl
theorem tagg47 : tagg Try.prog 47 = some true := by kernel_rfl
theorem tslice47 : tslice Try.prog 47 = none := by kernel_rfl
theorem tarr47 : tarr Try.prog 47 = none := by kernel_rfl
theorem tzero47 : tzero Try.prog 47 = some [AV.int IntKind.u64 0, AV.int IntKind.u16 0, AV.int IntKind.u16 0, AV.ro 0 0 true fun x x_1 => AV.top] := by kernel_rfl
theorem tzn47 : tzn Try.prog 47 = some 4 := by kernel_rfl
theorem tplaces47 : tplaces Try.prog 47 = some [(0, 1), (1, 1), (2, 1), (3, 1)] := by kernel_rfl
theorem tint47 : tint Try.prog 47 = none := by kernel_rfl
theorem tstr47 : tstr Try.prog 47 = false := by kernel_rfl
theorem tnoint47 : tnoint Try.prog 47 = false := by kernel_rfl
theorem tbool47 : tbool Try.prog 47 = false := by kernel_rfl
theorem tany47 : tany Try.prog 47 = some true := by kernel_rfl
theorem tintk47 : tintk Try.prog 47 = false := by kernel_rfl
theorem tbytes47 : tbytes Try.prog 47 = false := by kernel_rfl
theorem tfld47_0 : tfld Try.prog 47 0 = some (44, 0, 1) := by kernel_rfl
theorem tfld47_1 : tfld Try.prog 47 1 = some (45, 1, 1) := by kernel_rfl
theorem tfld47_2 : tfld Try.prog 47 2 = some (45, 2, 1) := by kernel_rfl
theorem tfld47_3 : tfld Try.prog 47 3 = some (23, 3, 1) := by kernel_rfl
theorem tsz52 : tsz Try.prog 52 = some 13 := by kernel_rfl
theorem tby52 : tby Try.prog 52 = some 72 := by kernel_rfl
theorem tagg52 : tagg Try.prog 52 = some true := by kernel_rfl
theorem tslice52 : tslice Try.prog 52 = none := by kernel_rfl
theorem tarr52 : tarr Try.prog 52 = none := by kernel_rfl
theorem tzero52 : tzero Try.prog 52 = some [AV.int IntKind.u8 0, AV.int IntKind.u8 0, AV.int IntKind.u8 0, AV.int IntKind.u8 0, AV.int IntKind.u8 0, AV.int IntKind.u8 0, AV.int IntKind.i64 0, AV.int IntKind.i64 0, AV.int IntKind.i64 0, AV.int IntKind.i64 0, AV.int IntKind.i64 0, AV.str (ByteArray.mk #[]), AV.bool false] := by kernel_rfl
theorem tzn52 : tzn Try.prog 52 = some 13 := by kernel_rfl
theorem tplaces52 : tplaces Try.prog 52 = some [(0, 6), (6, 1), (7, 1), (8, 1), (9, 1), (10, 1), (11, 1), (12, 1)] := by kernel_rfl
theorem tint52 : tint Try.prog 52 = none := by kernel_rfl
theorem tstr52 : tstr Try.prog 52 = false := by kernel_rfl
theorem tnoint52 : tnoint Try.prog 52 = false := by kernel_rfl
theorem tbool52 : tbool Try.prog 52 = false := by kernel_rfl
theorem tany52 : tany Try.prog 52 = some true := by kernel_rfl
theorem tintk52 : tintk Try.prog 52 = false := by kernel_rfl
theorem tbytes52 : tbytes Try.prog 52 = false := by kernel_rfl
theorem tfld52_0 : tfld Try.prog 52 0 = some (43, 0, 6) := by kernel_rfl
theorem tfld52_1 : tfld Try.prog 52 1 = some (3, 6, 1) := by kernel_rfl
theorem tfld52_2 : tfld Try.prog 52 2 = some (3, 7, 1) := by kernel_rfl
theorem tfld52_3 : tfld Try.prog 52 3 = some (3, 8, 1) := by kernel_rfl
theorem tfld52_4 : tfld Try.prog 52 4 = some (3, 9, 1) := by kernel_rfl
theorem tfld52_5 : tfld Try.prog 52 5 = some (3, 10, 1) := by kernel_rfl
theorem tfld52_6 : tfld Try.prog 52 6 = some (9, 11, 1) := by kernel_rfl
theorem tfld52_7 : tfld Try.prog 52 7 = some (4, 12, 1) := by kernel_rfl
theorem tsz59 : tsz Try.prog 59 = some 4 := by kernel_rfl
theorem tby59 : tby Try.prog 59 = some 40 := by kernel_rfl
theorem tagg59 : tagg Try.prog 59 = some true := by kernel_rfl
theorem tslice59 : tslice Try.prog 59 = none := by kernel_rfl
theorem tarr59 : tarr Try.prog 59 = none := by kernel_rfl
theorem tzero59 : tzero Try.prog 59 = some [AV.str (ByteArray.mk #[]), AV.bool false, AV.int IntKind.i64 0, AV.int IntKind.i64 0] := by kernel_rfl
theorem tzn59 : tzn Try.prog 59 = some 4 := by kernel_rfl
theorem tplaces59 : tplaces Try.prog 59 = some [(0, 1), (1, 1), (2, 1), (3, 1)] := by kernel_rfl
theorem tint59 : tint Try.prog 59 = none := by kernel_rfl
theorem tstr59 : tstr Try.prog 59 = false := by kernel_rfl
theorem tnoint59 : tnoint Try.prog 59 = false := by kernel_rfl
theorem tbool59 : tbool Try.prog 59 = false := by kernel_rfl
theorem tany59 : tany Try.prog 59 = some true := by kernel_rfl
theorem tintk59 : tintk Try.prog 59 = false := by kernel_rfl
theorem tbytes59 : tbytes Try.prog 59 = false := by kernel_rfl
theorem tfld59_0 : tfld Try.prog 59 0 = some (9, 0, 1) := by kernel_rfl
theorem tfld59_1 : tfld Try.prog 59 1 = some (4, 1, 1) := by kernel_rfl
theorem tfld59_2 : tfld Try.prog 59 2 = some (3, 2, 1) := by kernel_rfl
theorem tfld59_3 : tfld Try.prog 59 3 = some (3, 3, 1) := by kernel_rfl
theorem tsz65 : tsz Try.prog 65 = some 4 := by kernel_rfl
theorem tby65 : tby Try.prog 65 = some 32 := by kernel_rfl
theorem tagg65 : tagg Try.prog 65 = some true := by kernel_rfl
theorem tslice65 : tslice Try.prog 65 = none := by kernel_rfl
theorem tarr65 : tarr Try.prog 65 = none := by kernel_rfl
theorem tzero65 : tzero Try.prog 65 = some [AV.int IntKind.i64 0, AV.int IntKind.i64 0, AV.int IntKind.i64 0, AV.bool false] := by kernel_rfl
theorem tzn65 : tzn Try.prog 65 = some 4 := by kernel_rfl
theorem tplaces65 : tplaces Try.prog 65 = some [(0, 1), (1, 1), (2, 1), (3, 1)] := by kernel_rfl
theorem tint65 : tint Try.prog 65 = none := by kernel_rfl
theorem tstr65 : tstr Try.prog 65 = false := by kernel_rfl
theorem tnoint65 : tnoint Try.prog 65 = false := by kernel_rfl
theorem tbool65 : tbool Try.prog 65 = false := by kernel_rfl
theorem tany65 : tany Try.prog 65 = some true := by kernel_rfl
theorem tintk65 : tintk Try.prog 65 = false := by kernel_rfl
theorem tbytes65 : tbytes Try.prog 65 = false := by kernel_rfl
theorem tfld65_0 : tfld Try.prog 65 0 = some (3, 0, 1) := by kernel_rfl
theorem tfld65_1 : tfld Try.prog 65 1 = some (3, 1, 1) := by kernel_rfl
theorem tfld65_2 : tfld Try.prog 65 2 = some (3, 2, 1) := by kernel_rfl
theorem tfld65_3 : tfld Try.prog 65 3 = some (4, 3, 1) := by kernel_rfl
theorem tsz74 : tsz Try.prog 74 = some 1 := by kernel_rfl
theorem tby74 : tby Try.prog 74 = some 8 := by kernel_rfl
theorem tagg74 : tagg Try.prog 74 = some false := by kernel_rfl
theorem tslice74 : tslice Try.prog 74 = none := by kernel_rfl
theorem tarr74 : tarr Try.prog 74 = none := by kernel_rfl
theorem tzero74 : tzero Try.prog 74 = some [AV.nilf] := by kernel_rfl
theorem tzn74 : tzn Try.prog 74 = some 1 := by kernel_rfl
theorem tplaces74 : tplaces Try.prog 74 = none := by kernel_rfl
theorem tint74 : tint Try.prog 74 = none := by kernel_rfl
theorem tstr74 : tstr Try.prog 74 = false := by kernel_rfl
theorem tnoint74 : tnoint Try.prog 74 = false := by kernel_rfl
theorem tbool74 : tbool Try.prog 74 = false := by kernel_rfl
theorem tany74 : tany Try.prog 74 = some true := by kernel_rfl
theorem tintk74 : tintk Try.prog 74 = false := by kernel_rfl
theorem tbytes74 : tbytes Try.prog 74 = false := by kernel_rfl
theorem tsz79 : tsz Try.prog 79 = some 1 := by kernel_rfl
theorem tby79 : tby Try.prog 79 = some 8 := by kernel_rfl
theorem tagg79 : tagg Try.prog 79 = some false := by kernel_rfl
theorem tslice79 : tslice Try.prog 79 = none := by kernel_rfl
theorem tarr79 : tarr Try.prog 79 = none := by kernel_rfl
theorem tzero79 : tzero Try.prog 79 = some [AV.nilf] := by kernel_rfl
theorem tzn79 : tzn Try.prog 79 = some 1 := by kernel_rfl
theorem tplaces79 : tplaces Try.prog 79 = none := by kernel_rfl
theorem tint79 : tint Try.prog 79 = none := by kernel_rfl
theorem tstr79 : tstr Try.prog 79 = false := by kernel_rfl
theorem tnoint79 : tnoint Try.prog 79 = false := by kernel_rfl
theorem tbool79 : tbool Try.prog 79 = false := by kernel_rfl
theorem tany79 : tany Try.prog 79 = some true := by kernel_rfl
theorem tintk79 : tintk Try.prog 79 = false := by kernel_rfl
theorem tbytes79 : tbytes Try.prog 79 = false := by kernel_rfl
theorem tsz81 : tsz Try.prog 81 = some 1 := by kernel_rfl
theorem tby81 : tby Try.prog 81 = some 8 := by kernel_rfl
theorem tagg81 : tagg Try.prog 81 = some false := by kernel_rfl
theorem tslice81 : tslice Try.prog 81 = none := by kernel_rfl
theorem tarr81 : tarr Try.prog 81 = none := by kernel_rfl
theorem tzero81 : tzero Try.prog 81 = some [AV.nilp] := by kernel_rfl
theorem tzn81 : tzn Try.prog 81 = some 1 := by kernel_rfl
theorem tplaces81 : tplaces Try.prog 81 = none := by kernel_rfl
theorem tint81 : tint Try.prog 81 = none := by kernel_rfl
theorem tstr81 : tstr Try.prog 81 = false := by kernel_rfl
theorem tnoint81 : tnoint Try.prog 81 = false := by kernel_rfl
theorem tbool81 : tbool Try.prog 81 = false := by kernel_rfl
theorem tany81 : tany Try.prog 81 = some true := by kernel_rfl
theorem tintk81 : tintk Try.prog 81 = false := by kernel_rfl
theorem tbytes81 : tbytes Try.prog 81 = false := by kernel_rfl
theorem tsz88 : tsz Try.prog 88 = some 1 := by kernel_rfl
theorem tby88 : tby Try.prog 88 = some 8 := by kernel_rfl
theorem tagg88 : tagg Try.prog 88 = some false := by kernel_rfl
theorem tslice88 : tslice Try.prog 88 = none := by kernel_rfl
theorem tarr88 : tarr Try.prog 88 = none := by kernel_rfl
theorem tzero88 : tzero Try.prog 88 = some [AV.nilf] := by kernel_rfl
theorem tzn88 : tzn Try.prog 88 = some 1 := by kernel_rfl
theorem tplaces88 : tplaces Try.prog 88 = none := by kernel_rfl
theorem tint88 : tint Try.prog 88 = none := by kernel_rfl
theorem tstr88 : tstr Try.prog 88 = false := by kernel_rfl
theorem tnoint88 : tnoint Try.prog 88 = false := by kernel_rfl
theorem tbool88 : tbool Try.prog 88 = false := by kernel_rfl
theorem tany88 : tany Try.prog 88 = some true := by kernel_rfl
theorem tintk88 : tintk Try.prog 88 = false := by kernel_rfl
theorem tbytes88 : tbytes Try.prog 88 = false := by kernel_rfl
theorem tsz94 : tsz Try.prog 94 = some 1 := by kernel_rfl
theorem tby94 : tby Try.prog 94 = some 8 := by kernel_rfl
theorem tagg94 : tagg Try.prog 94 = some false := by kernel_rfl
theorem tslice94 : tslice Try.prog 94 = none := by kernel_rfl
theorem tarr94 : tarr Try.prog 94 = none := by kernel_rfl
theorem tzero94 : tzero Try.prog 94 = some [AV.nilf] := by kernel_rfl
theorem tzn94 : tzn Try.prog 94 = some 1 := by kernel_rfl
theorem tplaces94 : tplaces Try.prog 94 = none := by kernel_rfl
theorem tint94 : tint Try.prog 94 = none := by kernel_rfl
theorem tstr94 : tstr Try.prog 94 = false := by kernel_rfl
theorem tnoint94 : tnoint Try.prog 94 = false := by kernel_rfl
theorem tbool94 : tbool Try.prog 94 = false := by kernel_rfl
theorem tany94 : tany Try.prog 94 = some true := by kernel_rfl
theorem tintk94 : tintk Try.prog 94 = false := by kernel_rfl
theorem tbytes94 : tbytes Try.prog 94 = false := by kernel_rfl
theorem tsz95 : tsz Try.prog 95 = some 1 := by kernel_rfl
theorem tby95 : tby Try.prog 95 = some 8 := by kernel_rfl
theorem tagg95 : tagg Try.prog 95 = some false := by kernel_rfl
theorem tslice95 : tslice Try.prog 95 = none := by kernel_rfl
theorem tarr95 : tarr Try.prog 95 = none := by kernel_rfl
theorem tzero95 : tzero Try.prog 95 = some [AV.int IntKind.u64 0] := by kernel_rfl
theorem tzn95 : tzn Try.prog 95 = some 1 := by kernel_rfl
theorem tplaces95 : tplaces Try.prog 95 = none := by kernel_rfl
theorem tint95 : tint Try.prog 95 = some IntKind.u64 := by kernel_rfl
theorem tstr95 : tstr Try.prog 95 = false := by kernel_rfl
theorem tnoint95 : tnoint Try.prog 95 = false := by kernel_rfl
theorem tbool95 : tbool Try.prog 95 = false := by kernel_rfl
theorem tany95 : tany Try.prog 95 = some true := by kernel_rfl
theorem tintk95 : tintk Try.prog 95 = true := by kernel_rfl
theorem tbytes95 : tbytes Try.prog 95 = false := by kernel_rfl
end Go.Proofs.Ytpnhehcncljhpaa

/-
  Facts of the types that the walks meet: sizes, places, zero values.
-/
import Derived.Test.YtbahnppiobafoaaPm10
import Derived.Test.YtbahnppiobafoaaProg
namespace Go.Proofs.Ytbahnppiobafoaa
open Go.Am
set_option linter.unusedVariables false
theorem tsz3 : tsz Try.prog 3 = some 1 := by kernel_rfl
theorem tby3 : tby Try.prog 3 = some 8 := by kernel_rfl
theorem tagg3 : tagg Try.prog 3 = some false := by kernel_rfl
theorem tslice3 : tslice Try.prog 3 = none := by kernel_rfl
theorem tarr3 : tarr Try.prog 3 = none := by kernel_rfl
theorem tzero3 : tzero Try.prog 3 = some [AV.int IntKind.i64 0] := by kernel_rfl
theorem tzn3 : tzn Try.prog 3 = some 1 := by kernel_rfl
theorem tplaces3 : tplaces Try.prog 3 = none := by kernel_rfl
theorem tint3 : tint Try.prog 3 = some IntKind.i64 := by kernel_rfl
theorem tstr3 : tstr Try.prog 3 = false := by kernel_rfl
theorem tnoint3 : tnoint Try.prog 3 = false := by kernel_rfl
theorem tbool3 : tbool Try.prog 3 = false := by kernel_rfl
theorem tany3 : tany Try.prog 3 = some true := by kernel_rfl
theorem tintk3 : tintk Try.prog 3 = true := by kernel_rfl
theorem tbytes3 : tbytes Try.prog 3 = false := by kernel_rfl
theorem tsz4 : tsz Try.prog 4 = some 1 := by kernel_rfl
theorem tby4 : tby Try.prog 4 = some 1 := by kernel_rfl
theorem tagg4 : tagg Try.prog 4 = some false := by kernel_rfl
theorem tslice4 : tslice Try.prog 4 = none := by kernel_rfl
theorem tarr4 : tarr Try.prog 4 = none := by kernel_rfl
theorem tzero4 : tzero Try.prog 4 = some [AV.bool false] := by kernel_rfl
theorem tzn4 : tzn Try.prog 4 = some 1 := by kernel_rfl
theorem tplaces4 : tplaces Try.prog 4 = none := by kernel_rfl
theorem tint4 : tint Try.prog 4 = none := by kernel_rfl
theorem tstr4 : tstr Try.prog 4 = false := by kernel_rfl
theorem tnoint4 : tnoint Try.prog 4 = false := by kernel_rfl
theorem tbool4 : tbool Try.prog 4 = true := by kernel_rfl
theorem tany4 : tany Try.prog 4 = some true := by kernel_rfl
theorem tintk4 : tintk Try.prog 4 = false := by kernel_rfl
theorem tbytes4 : tbytes Try.prog 4 = false := by kernel_rfl
theorem tsz5 : tsz Try.prog 5 = some 1 := by kernel_rfl
theorem tby5 : tby Try.prog 5 = some 1 := by kernel_rfl
theorem tagg5 : tagg Try.prog 5 = some false := by kernel_rfl
theorem tslice5 : tslice Try.prog 5 = none := by kernel_rfl
theorem tarr5 : tarr Try.prog 5 = none := by kernel_rfl
theorem tzero5 : tzero Try.prog 5 = some [AV.int IntKind.u8 0] := by kernel_rfl
theorem tzn5 : tzn Try.prog 5 = some 1 := by kernel_rfl
theorem tplaces5 : tplaces Try.prog 5 = none := by kernel_rfl
theorem tint5 : tint Try.prog 5 = some IntKind.u8 := by kernel_rfl
theorem tstr5 : tstr Try.prog 5 = false := by kernel_rfl
theorem tnoint5 : tnoint Try.prog 5 = false := by kernel_rfl
theorem tbool5 : tbool Try.prog 5 = false := by kernel_rfl
theorem tany5 : tany Try.prog 5 = some true := by kernel_rfl
theorem tintk5 : tintk Try.prog 5 = true := by kernel_rfl
theorem tbytes5 : tbytes Try.prog 5 = false := by kernel_rfl
theorem tsz9 : tsz Try.prog 9 = some 1 := by kernel_rfl
theorem tby9 : tby Try.prog 9 = some 16 := by kernel_rfl
theorem tagg9 : tagg Try.prog 9 = some false := by kernel_rfl
theorem tslice9 : tslice Try.prog 9 = none := by kernel_rfl
theorem tarr9 : tarr Try.prog 9 = none := by kernel_rfl
theorem tzero9 : tzero Try.prog 9 = some [AV.str (ByteArray.mk #[])] := by kernel_rfl
theorem tzn9 : tzn Try.prog 9 = some 1 := by kernel_rfl
theorem tplaces9 : tplaces Try.prog 9 = none := by kernel_rfl
theorem tint9 : tint Try.prog 9 = none := by kernel_rfl
theorem tstr9 : tstr Try.prog 9 = true := by kernel_rfl
theorem tnoint9 : tnoint Try.prog 9 = true := by kernel_rfl
theorem tbool9 : tbool Try.prog 9 = false := by kernel_rfl
theorem tany9 : tany Try.prog 9 = some true := by kernel_rfl
theorem tintk9 : tintk Try.prog 9 = false := by kernel_rfl
theorem tbytes9 : tbytes Try.prog 9 = false := by kernel_rfl
theorem tsz23 : tsz Try.prog 23 = some 6 := by kernel_rfl
theorem tby23 : tby Try.prog 23 = some 6 := by kernel_rfl
theorem tagg23 : tagg Try.prog 23 = some true := by kernel_rfl
theorem tslice23 : tslice Try.prog 23 = none := by kernel_rfl
theorem tarr23 : tarr Try.prog 23 = some (6, 5) := by kernel_rfl
theorem tzero23 : tzero Try.prog 23 = some [AV.int IntKind.u8 0, AV.int IntKind.u8 0, AV.int IntKind.u8 0, AV.int IntKind.u8 0, AV.int IntKind.u8 0, AV.int IntKind.u8 0] := by kernel_rfl
theorem tzn23 : tzn Try.prog 23 = some 6 := by kernel_rfl
theorem tplaces23 : tplaces Try.prog 23 = none := by kernel_rfl
theorem tint23 : tint Try.prog 23 = none := by kernel_rfl
theorem tstr23 : tstr Try.prog 23 = false := by kernel_rfl
theorem tnoint23 : tnoint Try.prog 23 = false := by kernel_rfl
theorem tbool23 : tbool Try.prog 23 = false := by kernel_rfl
theorem tany23 : tany Try.prog 23 = some true := by kernel_rfl
theorem tintk23 : tintk Try.prog 23 = false := by kernel_rfl
theorem tbytes23 : tbytes Try.prog 23 = false := by kernel_rfl
theorem tsz24 : tsz Try.prog 24 = some 1 := by kernel_rfl
theorem tby24 : tby Try.prog 24 = some 24 := by kernel_rfl
theorem tagg24 : tagg Try.prog 24 = some false := by kernel_rfl
theorem tslice24 : tslice Try.prog 24 = some 5 := by kernel_rfl
theorem tarr24 : tarr Try.prog 24 = none := by kernel_rfl
theorem tzero24 : tzero Try.prog 24 = some [AV.ro 0 0 true fun x x_1 => AV.top] := by kernel_rfl
theorem tzn24 : tzn Try.prog 24 = some 1 := by kernel_rfl
theorem tplaces24 : tplaces Try.prog 24 = none := by kernel_rfl
theorem tint24 : tint Try.prog 24 = none := by kernel_rfl
theorem tstr24 : tstr Try.prog 24 = false := by kernel_rfl
theorem tnoint24 : tnoint Try.prog 24 = true := by kernel_rfl
theorem tbool24 : tbool Try.prog 24 = false := by kernel_rfl
theorem tany24 : tany Try.prog 24 = some true := by kernel_rfl
theorem tintk24 : tintk Try.prog 24 = false := by kernel_rfl
theorem tbytes24 : tbytes Try.prog 24 = true := by kernel_rfl
theorem tsz26 : tsz Try.prog 26 = some 39 := by kernel_rfl
theorem tby26 : tby Try.prog 26 = some 80 := by kernel_rfl
theorem tagg26 : tagg Try.prog 26 = some true := by kernel_rfl
theorem tslice26 : tslice Try.prog 26 = none := by kernel_rfl
theorem tarr26 : tarr Try.prog 26 = none := by kernel_rfl
theorem tzero26 : tzero Try.prog 26 = some [AV.int IntKind.u8 0, AV.int IntKind.u8 0, AV.int IntKind.u8 0, AV.int IntKind.u8 0, AV.int IntKind.u8 0, AV.int IntKind.u8 0, AV.int IntKind.u8 0, AV.int IntKind.u8 0, AV.int IntKind.u8 0, AV.int IntKind.u8 0, AV.int IntKind.u8 0, AV.int IntKind.u8 0, AV.int IntKind.u8 0, AV.int IntKind.u8 0, AV.int IntKind.u8 0, AV.int IntKind.u8 0, AV.int IntKind.u8 0, AV.int IntKind.u8 0, AV.int IntKind.u8 0, AV.int IntKind.u8 0, AV.int IntKind.u8 0, AV.int IntKind.u8 0, AV.int IntKind.u8 0, AV.int IntKind.u8 0, AV.int IntKind.u8 0, AV.int IntKind.u8 0, AV.int IntKind.u8 0, AV.int IntKind.u8 0, AV.int IntKind.u8 0, AV.int IntKind.u8 0, AV.int IntKind.u8 0, AV.int IntKind.u8 0, AV.int IntKind.u8 0, AV.int IntKind.u8 0, AV.int IntKind.u8 0, AV.int IntKind.u8 0, AV.int IntKind.i64 0, AV.int IntKind.i64 0, AV.ro 0 0 true fun x x_1 => AV.top] := by kernel_rfl
theorem tzn26 : tzn Try.prog 26 = some 39 := by kernel_rfl
theorem tplaces26 : tplaces Try.prog 26 = some [(0, 6), (6, 6), (12, 6), (18, 6), (24, 6), (30, 6), (36, 1), (37, 1), (38, 1)] := by kernel_rfl
theorem tint26 : tint Try.prog 26 = none := by kernel_rfl
theorem tstr26 : tstr Try.prog 26 = false := by kernel_rfl
theorem tnoint26 : tnoint Try.prog 26 = false := by kernel_rfl
theorem tbool26 : tbool Try.prog 26 = false := by kernel_rfl
theorem tany26 : tany Try.prog 26 = some true := by kernel_rfl
theorem tintk26 : tintk Try.prog 26 = false := by kernel_rfl
theorem tbytes26 : tbytes Try.prog 26 = false := by kernel_rfl
theorem tfld26_0 : tfld Try.prog 26 0 = some (23, 0, 6) := by kernel_rfl
theorem tfld26_1 : tfld Try.prog 26 1 = some (23, 6, 6) := by kernel_rfl
theorem tfld26_2 : tfld Try.prog 26 2 = some (23, 12, 6) := by kernel_rfl
theorem tfld26_3 : tfld Try.prog 26 3 = some (23, 18, 6) := by kernel_rfl
theorem tfld26_4 : tfld Try.prog 26 4 = some (23, 24, 6) := by kernel_rfl
theorem tfld26_5 : tfld Try.prog 26 5 = some (23, 30, 6) := by kernel_rfl
theorem tfld26_6 : tfld Try.prog 26 6 = some (3, 36, 1) := by kernel_rfl
theorem tfld26_7 : tfld Try.prog 26 7 = some (3, 37, 1) := by kernel_rfl
theorem tfld26_8 : tfld Try.prog 26 8 = some (24, 38, 1) := by kernel_rfl
theorem tsz28 : tsz Try.prog 28 = some 1 := by kernel_rfl
theorem tby28 : tby Try.prog 28 = some 24 := by kernel_rfl
theorem tagg28 : tagg Try.prog 28 = some false := by kernel_rfl
theorem tslice28 : tslice Try.prog 28 = some 59 := by kernel_rfl
theorem tarr28 : tarr Try.prog 28 = none := by kernel_rfl
theorem tzero28 : tzero Try.prog 28 = some [AV.ro 0 0 true fun x x_1 => AV.top] := by kernel_rfl
theorem tzn28 : tzn Try.prog 28 = some 1 := by kernel_rfl
theorem tplaces28 : tplaces Try.prog 28 = none := by kernel_rfl
theorem tint28 : tint Try.prog 28 = none := by kernel_rfl
theorem tstr28 : tstr Try.prog 28 = false := by kernel_rfl
theorem tnoint28 : tnoint Try.prog 28 = true := by kernel_rfl
theorem tbool28 : tbool Try.prog 28 = false := by kernel_rfl
theorem tany28 : tany Try.prog 28 = some true := by kernel_rfl
theorem tintk28 : tintk Try.prog 28 = false := by kernel_rfl
theorem tbytes28 : tbytes Try.prog 28 = false := by kernel_rfl
theorem tsz29 : tsz Try.prog 29 = some 1 := by kernel_rfl
theorem tby29 : tby Try.prog 29 = some 24 := by kernel_rfl
theorem tagg29 : tagg Try.prog 29 = some false := by kernel_rfl
theorem tslice29 : tslice Try.prog 29 = some 90 := by kernel_rfl
theorem tarr29 : tarr Try.prog 29 = none := by kernel_rfl
theorem tzero29 : tzero Try.prog 29 = some [AV.ro 0 0 true fun x x_1 => AV.top] := by kernel_rfl
theorem tzn29 : tzn Try.prog 29 = some 1 := by kernel_rfl
theorem tplaces29 : tplaces Try.prog 29 = none := by kernel_rfl
theorem tint29 : tint Try.prog 29 = none := by kernel_rfl
theorem tstr29 : tstr Try.prog 29 = false := by kernel_rfl
theorem tnoint29 : tnoint Try.prog 29 = true := by kernel_rfl
theorem tbool29 : tbool Try.prog 29 = false := by kernel_rfl
theorem tany29 : tany Try.prog 29 = some true := by kernel_rfl
theorem tintk29 : tintk Try.prog 29 = false := by kernel_rfl
theorem tbytes29 : tbytes Try.prog 29 = false := by kernel_rfl
theorem tsz31 : tsz Try.prog 31 = some 9 := by kernel_rfl
theorem tby31 : tby Try.prog 31 = some 64 := by kernel_rfl
theorem tagg31 : tagg Try.prog 31 = some true := by kernel_rfl
theorem tslice31 : tslice Try.prog 31 = none := by kernel_rfl
theorem tarr31 : tarr Try.prog 31 = none := by kernel_rfl
theorem tzero31 : tzero Try.prog 31 = some [AV.int IntKind.u8 0, AV.int IntKind.u8 0, AV.int IntKind.u8 0, AV.int IntKind.u8 0, AV.int IntKind.u8 0, AV.int IntKind.u8 0, AV.int IntKind.i64 0, AV.ro 0 0 true fun x x_1 => AV.top, AV.ro 0 0 true fun x x_1 => AV.top] := by kernel_rfl
theorem tzn31 : tzn Try.prog 31 = some 9 := by kernel_rfl
theorem tplaces31 : tplaces Try.prog 31 = some [(0, 6), (6, 1), (7, 1), (8, 1)] := by kernel_rfl
theorem tint31 : tint Try.prog 31 = none := by kernel_rfl
theorem tstr31 : tstr Try.prog 31 = false := by kernel_rfl
theorem tnoint31 : tnoint Try.prog 31 = false := by kernel_rfl
theorem tbool31 : tbool Try.prog 31 = false := by kernel_rfl
theorem tany31 : tany Try.prog 31 = some true := by kernel_rfl
theorem tintk31 : tintk Try.prog 31 = false := by kernel_rfl
theorem tbytes31 : tbytes Try.prog 31 = false := by kernel_rfl
theorem tfld31_0 : tfld Try.prog 31 0 = some (23, 0, 6) := by kernel_rfl
theorem tfld31_1 : tfld Try.prog 31 1 = some (3, 6, 1) := by kernel_rfl
theorem tfld31_2 : tfld Try.prog 31 2 = some (28, 7, 1) := by kernel_rfl
theorem tfld31_3 : tfld Try.prog 31 3 = some (29, 8, 1) := by kernel_rfl
theorem tsz33 : tsz Try.prog 33 = some 1 := by kernel_rfl
theorem tby33 : tby Try.prog 33 = some 8 := by kernel_rfl
theorem tagg33 : tagg Try.prog 33 = some false := by kernel_rfl
theorem tslice33 : tslice Try.prog 33 = none := by kernel_rfl
theorem tarr33 : tarr Try.prog 33 = none := by kernel_rfl
theorem tzero33 : tzero Try.prog 33 = some [AV.int IntKind.i64 0] := by kernel_rfl
theorem tzn33 : tzn Try.prog 33 = some 1 := by kernel_rfl
theorem tplaces33 : tplaces Try.prog 33 = none := by kernel_rfl
theorem tint33 : tint Try.prog 33 = some IntKind.i64 := by kernel_rfl
theorem tstr33 : tstr Try.prog 33 = false := by kernel_rfl
theorem tnoint33 : tnoint Try.prog 33 = false := by kernel_rfl
theorem tbool33 : tbool Try.prog 33 = false := by kernel_rfl
theorem tany33 : tany Try.prog 33 = some true := by kernel_rfl
theorem tintk33 : tintk Try.prog 33 = true := by kernel_rfl
theorem tbytes33 : tbytes Try.prog 33 = false := by kernel_rfl
theorem tsz55 : tsz Try.prog 55 = some 1 := by kernel_rfl
theorem tby55 : tby Try.prog 55 = some 24 := by kernel_rfl
theorem tagg55 : tagg Try.prog 55 = some false := by kernel_rfl
theorem tslice55 : tslice Try.prog 55 = some 26 := by kernel_rfl
theorem tarr55 : tarr Try.prog 55 = none := by kernel_rfl
theorem tzero55 : tzero Try.prog 55 = some [AV.ro 0 0 true fun x x_1 => AV.top] := by kernel_rfl
theorem tzn55 : tzn Try.prog 55 = some 1 := by kernel_rfl
theorem tplaces55 : tplaces Try.prog 55 = none := by kernel_rfl
theorem tint55 : tint Try.prog 55 = none := by kernel_rfl
theorem tstr55 : tstr Try.prog 55 = false := by kernel_rfl
theorem tnoint55 : tnoint Try.prog 55 = true := by kernel_rfl
theorem tbool55 : tbool Try.prog 55 = false := by kernel_rfl
theorem tany55 : tany Try.prog 55 = some true := by kernel_rfl
theorem tintk55 : tintk Try.prog 55 = false := by kernel_rfl
theorem tbytes55 : tbytes Try.prog 55 = false := by kernel_rfl
theorem tsz59 : tsz Try.prog 59 = some 7 := by kernel_rfl
theorem tby59 : tby Try.prog 59 = some 16 := by kernel_rfl
theorem tagg59 : tagg Try.prog 59 = some true := by kernel_rfl
theorem tslice59 : tslice Try.prog 59 = none := by kernel_rfl
theorem tarr59 : tarr Try.prog 59 = none := by kernel_rfl
theorem tzero59 : tzero Try.prog 59 = some [AV.int IntKind.u8 0, AV.int IntKind.u8 0, AV.int IntKind.u8 0, AV.int IntKind.u8 0, AV.int IntKind.u8 0, AV.int IntKind.u8 0, AV.int IntKind.i64 0] := by kernel_rfl
theorem tzn59 : tzn Try.prog 59 = some 7 := by kernel_rfl
theorem tplaces59 : tplaces Try.prog 59 = some [(0, 6), (6, 1)] := by kernel_rfl
theorem tint59 : tint Try.prog 59 = none := by kernel_rfl
theorem tstr59 : tstr Try.prog 59 = false := by kernel_rfl
theorem tnoint59 : tnoint Try.prog 59 = false := by kernel_rfl
theorem tbool59 : tbool Try.prog 59 = false := by kernel_rfl
theorem tany59 : tany Try.prog 59 = some true := by kernel_rfl
theorem tintk59 : tintk Try.prog 59 = false := by kernel_rfl
theorem tbytes59 : tbytes Try.prog 59 = false := by kernel_rfl
theorem tfld59_0 : tfld Try.prog 59 0 = some (23, 0, 6) := by kernel_rfl
theorem tfld59_1 : tfld Try.prog 59 1 = some (3, 6, 1) := by kernel_rfl
theorem tsz62 : tsz Try.prog 62 = some 72 := by kernel_rfl
theorem tby62 : tby Try.prog 62 = some 512 := by kernel_rfl
theorem tagg62 : tagg Try.prog 62 = some true := by kernel_rfl
theorem tslice62 : tslice Try.prog 62 = none := by kernel_rfl
theorem tarr62 : tarr Try.prog 62 = some (8, 31) := by kernel_rfl
theorem tzero62 : tzero Try.prog 62 = some [AV.int IntKind.u8 0, AV.int IntKind.u8 0, AV.int IntKind.u8 0, AV.int IntKind.u8 0, AV.int IntKind.u8 0, AV.int IntKind.u8 0, AV.int IntKind.i64 0, AV.ro 0 0 true fun x x_1 => AV.top, AV.ro 0 0 true fun x x_1 => AV.top, AV.int IntKind.u8 0, AV.int IntKind.u8 0, AV.int IntKind.u8 0, AV.int IntKind.u8 0, AV.int IntKind.u8 0, AV.int IntKind.u8 0, AV.int IntKind.i64 0, AV.ro 0 0 true fun x x_1 => AV.top, AV.ro 0 0 true fun x x_1 => AV.top, AV.int IntKind.u8 0, AV.int IntKind.u8 0, AV.int IntKind.u8 0, AV.int IntKind.u8 0, AV.int IntKind.u8 0, AV.int IntKind.u8 0, AV.int IntKind.i64 0, AV.ro 0 0 true fun x x_1 => AV.top, AV.ro 0 0 true fun x x_1 => AV.top, AV.int IntKind.u8 0, AV.int IntKind.u8 0, AV.int IntKind.u8 0, AV.int IntKind.u8 0, AV.int IntKind.u8 0, AV.int IntKind.u8 0, AV.int IntKind.i64 0, AV.ro 0 0 true fun x x_1 => AV.top, AV.ro 0 0 true fun x x_1 => AV.top, AV.int IntKind.u8 0, AV.int IntKind.u8 0, AV.int IntKind.u8 0, AV.int IntKind.u8 0, AV.int IntKind.u8 0, AV.int IntKind.u8 0, AV.int IntKind.i64 0, AV.ro 0 0 true fun x x_1 => AV.top, AV.ro 0 0 true fun x x_1 => AV.top, AV.int IntKind.u8 0, AV.int IntKind.u8 0, AV.int IntKind.u8 0, AV.int IntKind.u8 0, AV.int IntKind.u8 0, AV.int IntKind.u8 0, AV.int IntKind.i64 0, AV.ro 0 0 true fun x x_1 => AV.top, AV.ro 0 0 true fun x x_1 => AV.top, AV.int IntKind.u8 0, AV.int IntKind.u8 0, AV.int IntKind.u8 0, AV.int IntKind.u8 0, AV.int IntKind.u8 0, AV.int IntKind.u8 0, AV.int IntKind.i64 0, AV.ro 0 0 true fun x x_1 => AV.top, AV.ro 0 0 true fun x x_1 => AV.top, AV.int IntKind.u8 0, AV.int IntKind.u8 0, AV.int IntKind.u8 0, AV.int IntKind.u8 0, AV.int IntKind.u8 0, AV.int IntKind.u8 0, AV.int IntKind.i64 0, AV.ro 0 0 true fun x x_1 => AV.top, AV.ro 0 0 true fun x x_1 => AV.top] := by kernel_rfl
theorem tzn62 : tzn Try.prog 62 = some 72 := by kernel_rfl
theorem tplaces62 : tplaces Try.prog 62 = none := by kernel_rfl
theorem tint62 : tint Try.prog 62 = none := by kernel_rfl
theorem tstr62 : tstr Try.prog 62 = false := by kernel_rfl
theorem tnoint62 : tnoint Try.prog 62 = false := by kernel_rfl
theorem tbool62 : tbool Try.prog 62 = false := by kernel_rfl
theorem tany62 : tany Try.prog 62 = some true := by kernel_rfl
theorem tintk62 : tintk Try.prog 62 = false := by kernel_rfl
theorem tbytes62 : tbytes Try.prog 62 = false := by kernel_rfl
theorem tsz64 : tsz Try.prog 64 = some 8 := by kernel_rfl
theorem tby64 : tby Try.prog 64 = some 64 := by kernel_rfl
theorem tagg64 : tagg Try.prog 64 = some true := by kernel_rfl
theorem tslice64 : tslice Try.prog 64 = none := by kernel_rfl
theorem tarr64 : tarr Try.prog 64 = some (8, 3) := by kernel_rfl
theorem tzero64 : tzero Try.prog 64 = some [AV.int IntKind.i64 0, AV.int IntKind.i64 0, AV.int IntKind.i64 0, AV.int IntKind.i64 0, AV.int IntKind.i64 0, AV.int IntKind.i64 0, AV.int IntKind.i64 0, AV.int IntKind.i64 0] := by kernel_rfl
theorem tzn64 : tzn Try.prog 64 = some 8 := by kernel_rfl
theorem tplaces64 : tplaces Try.prog 64 = none := by kernel_rfl
theorem tint64 : tint Try.prog 64 = none := by kernel_rfl
theorem tstr64 : tstr Try.prog 64 = false := by kernel_rfl
theorem tnoint64 : tnoint Try.prog 64 = false := by kernel_rfl
theorem tbool64 : tbool Try.prog 64 = false := by kernel_rfl
theorem tany64 : tany Try.prog 64 = some true := by kernel_rfl
theorem tintk64 : tintk Try.prog 64 = false := by kernel_rfl
theorem tbytes64 : tbytes Try.prog 64 = false := by kernel_rfl
theorem tsz70 : tsz Try.prog 70 = some 1 := by kernel_rfl
theorem tby70 : tby Try.prog 70 = some 24 := by kernel_rfl
theorem tagg70 : tagg Try.prog 70 = some false := by kernel_rfl
theorem tslice70 : tslice Try.prog 70 = some 3 := by kernel_rfl
theorem tarr70 : tarr Try.prog 70 = none := by kernel_rfl
theorem tzero70 : tzero Try.prog 70 = some [AV.ro 0 0 true fun x x_1 => AV.top] := by kernel_rfl
theorem tzn70 : tzn Try.prog 70 = some 1 := by kernel_rfl
theorem tplaces70 : tplaces Try.prog 70 = none := by kernel_rfl
theorem tint70 : tint Try.prog 70 = none := by kernel_rfl
theorem tstr70 : tstr Try.prog 70 = false := by kernel_rfl
theorem tnoint70 : tnoint Try.prog 70 = true := by kernel_rfl
theorem tbool70 : tbool Try.prog 70 = false := by kernel_rfl
theorem tany70 : tany Try.prog 70 = some true := by kernel_rfl
theorem tintk70 : tintk Try.prog 70 = false := by kernel_rfl
theorem tbytes70 : tbytes Try.prog 70 = false := by kernel_rfl
theorem tsz73 : tsz Try.prog 73 = some 8 := by kernel_rfl
theorem tby73 : tby Try.prog 73 = some 8 := by kernel_rfl
theorem tagg73 : tagg Try.prog 73 = some true := by kernel_rfl
theorem tslice73 : tslice Try.prog 73 = none := by kernel_rfl
theorem tarr73 : tarr Try.prog 73 = some (8, 4) := by kernel_rfl
theorem tzero73 : tzero Try.prog 73 = some [AV.bool false, AV.bool false, AV.bool false, AV.bool false, AV.bool false, AV.bool false, AV.bool false, AV.bool false] := by kernel_rfl
theorem tzn73 : tzn Try.prog 73 = some 8 := by kernel_rfl
theorem tplaces73 : tplaces Try.prog 73 = none := by kernel_rfl
theorem tint73 : tint Try.prog 73 = none := by kernel_rfl
theorem tstr73 : tstr Try.prog 73 = false := by kernel_rfl
theorem tnoint73 : tnoint Try.prog 73 = false := by kernel_rfl
theorem tbool73 : tbool Try.prog 73 = false := by kernel_rfl
theorem tany73 : tany Try.prog 73 = some true := by kernel_rfl
theorem tintk73 : tintk Try.prog 73 = false := by kernel_rfl
theorem tbytes73 : tbytes Try.prog 73 = false := by kernel_rfl
theorem tsz75 : tsz Try.prog 75 = some 1 := by kernel_rfl
theorem tby75 : tby Try.prog 75 = some 24 := by kernel_rfl
theorem tagg75 : tagg Try.prog 75 = some false := by kernel_rfl
theorem tslice75 : tslice Try.prog 75 = some 4 := by kernel_rfl
theorem tarr75 : tarr Try.prog 75 = none := by kernel_rfl
theorem tzero75 : tzero Try.prog 75 = some [AV.ro 0 0 true fun x x_1 => AV.top] := by kernel_rfl
theorem tzn75 : tzn Try.prog 75 = some 1 := by kernel_rfl
theorem tplaces75 : tplaces Try.prog 75 = none := by kernel_rfl
theorem tint75 : tint Try.prog 75 = none := by kernel_rfl
theorem tstr75 : tstr Try.prog 75 = false := by kernel_rfl
theorem tnoint75 : tnoint Try.prog 75 = true := by kernel_rfl
theorem tbool75 : tbool Try.prog 75 = false := by kernel_rfl
theorem tany75 : tany Try.prog 75 = some true := by kernel_rfl
theorem tintk75 : tintk Try.prog 75 = false := by kernel_rfl
theorem tbytes75 : tbytes Try.prog 75 = false := by kernel_rfl
theorem tsz76 : tsz Try.prog 76 = some 64 := by kernel_rfl
theorem tby76 : tby Try.prog 76 = some 64 := by kernel_rfl
theorem tagg76 : tagg Try.prog 76 = some true := by kernel_rfl
theorem tslice76 : tslice Try.prog 76 = none := by kernel_rfl
theorem tarr76 : tarr Try.prog 76 = some (8, 73) := by kernel_rfl
theorem tzero76 : tzero Try.prog 76 = some [AV.bool false, AV.bool false, AV.bool false, AV.bool false, AV.bool false, AV.bool false, AV.bool false, AV.bool false, AV.bool false, AV.bool false, AV.bool false, AV.bool false, AV.bool false, AV.bool false, AV.bool false, AV.bool false, AV.bool false, AV.bool false, AV.bool false, AV.bool false, AV.bool false, AV.bool false, AV.bool false, AV.bool false, AV.bool false, AV.bool false, AV.bool false, AV.bool false, AV.bool false, AV.bool false, AV.bool false, AV.bool false, AV.bool false, AV.bool false, AV.bool false, AV.bool false, AV.bool false, AV.bool false, AV.bool false, AV.bool false, AV.bool false, AV.bool false, AV.bool false, AV.bool false, AV.bool false, AV.bool false, AV.bool false, AV.bool false, AV.bool false, AV.bool false, AV.bool false, AV.bool false, AV.bool false, AV.bool false, AV.bool false, AV.bool false, AV.bool false, AV.bool false, AV.bool false, AV.bool false, AV.bool false, AV.bool false, AV.bool false, AV.bool false] := by kernel_rfl
theorem tzn76 : tzn Try.prog 76 = some 64 := by kernel_rfl
theorem tplaces76 : tplaces Try.prog 76 = none := by kernel_rfl
theorem tint76 : tint Try.prog 76 = none := by kernel_rfl
theorem tstr76 : tstr Try.prog 76 = false := by kernel_rfl
theorem tnoint76 : tnoint Try.prog 76 = false := by kernel_rfl
theorem tbool76 : tbool Try.prog 76 = false := by kernel_rfl
theorem tany76 : tany Try.prog 76 = some true := by kernel_rfl
theorem tintk76 : tintk Try.prog 76 = false := by kernel_rfl
theorem tbytes76 : tbytes Try.prog 76 = false := by kernel_rfl
theorem tsz78 : tsz Try.prog 78 = some 1 := by kernel_rfl
theorem tby78 : tby Try.prog 78 = some 24 := by kernel_rfl
theorem tagg78 : tagg Try.prog 78 = some false := by kernel_rfl
theorem tslice78 : tslice Try.prog 78 = some 80 := by kernel_rfl
theorem tarr78 : tarr Try.prog 78 = none := by kernel_rfl
theorem tzero78 : tzero Try.prog 78 = some [AV.ro 0 0 true fun x x_1 => AV.top] := by kernel_rfl
theorem tzn78 : tzn Try.prog 78 = some 1 := by kernel_rfl
theorem tplaces78 : tplaces Try.prog 78 = none := by kernel_rfl
theorem tint78 : tint Try.prog 78 = none := by kernel_rfl
theorem tstr78 : tstr Try.prog 78 = false := by kernel_rfl
theorem tnoint78 : tnoint Try.prog 78 = true := by kernel_rfl
theorem tbool78 : tbool Try.prog 78 = false := by kernel_rfl
theorem tany78 : tany Try.prog 78 = some true := by kernel_rfl
theorem tintk78 : tintk Try.prog 78 = false := by kernel_rfl
theorem tbytes78 : tbytes Try.prog 78 = false := by kernel_rfl
theorem tsz80 : tsz Try.prog 80 = some 40 := by kernel_rfl
theorem tby80 : tby Try.prog 80 = some 88 := by kernel_rfl
theorem tagg80 : tagg Try.prog 80 = some true := by kernel_rfl
theorem tslice80 : tslice Try.prog 80 = none := by kernel_rfl
theorem tarr80 : tarr Try.prog 80 = none := by kernel_rfl
theorem tzero80 : tzero Try.prog 80 = some [AV.int IntKind.i64 0, AV.int IntKind.u8 0, AV.int IntKind.u8 0, AV.int IntKind.u8 0, AV.int IntKind.u8 0, AV.int IntKind.u8 0, AV.int IntKind.u8 0, AV.int IntKind.u8 0, AV.int IntKind.u8 0, AV.int IntKind.u8 0, AV.int IntKind.u8 0, AV.int IntKind.u8 0, AV.int IntKind.u8 0, AV.int IntKind.u8 0, AV.int IntKind.u8 0, AV.int IntKind.u8 0, AV.int IntKind.u8 0, AV.int IntKind.u8 0, AV.int IntKind.u8 0, AV.int IntKind.u8 0, AV.int IntKind.u8 0, AV.int IntKind.u8 0, AV.int IntKind.u8 0, AV.int IntKind.u8 0, AV.int IntKind.u8 0, AV.int IntKind.u8 0, AV.int IntKind.u8 0, AV.int IntKind.u8 0, AV.int IntKind.u8 0, AV.int IntKind.u8 0, AV.int IntKind.u8 0, AV.int IntKind.u8 0, AV.int IntKind.u8 0, AV.int IntKind.u8 0, AV.int IntKind.u8 0, AV.int IntKind.u8 0, AV.int IntKind.u8 0, AV.int IntKind.i64 0, AV.int IntKind.i64 0, AV.ro 0 0 true fun x x_1 => AV.top] := by kernel_rfl
theorem tzn80 : tzn Try.prog 80 = some 40 := by kernel_rfl
theorem tplaces80 : tplaces Try.prog 80 = some [(0, 1), (1, 39)] := by kernel_rfl
theorem tint80 : tint Try.prog 80 = none := by kernel_rfl
theorem tstr80 : tstr Try.prog 80 = false := by kernel_rfl
theorem tnoint80 : tnoint Try.prog 80 = false := by kernel_rfl
theorem tbool80 : tbool Try.prog 80 = false := by kernel_rfl
theorem tany80 : tany Try.prog 80 = some true := by kernel_rfl
theorem tintk80 : tintk Try.prog 80 = false := by kernel_rfl
theorem tbytes80 : tbytes Try.prog 80 = false := by kernel_rfl
theorem tfld80_0 : tfld Try.prog 80 0 = some (3, 0, 1) := by kernel_rfl
theorem tfld80_1 : tfld Try.prog 80 1 = some (26, 1, 39) := by kernel_rfl
theorem tsz84 : tsz Try.prog 84 = some 1 := by kernel_rfl
theorem tby84 : tby Try.prog 84 = some 8 := by kernel_rfl
theorem tagg84 : tagg Try.prog 84 = some false := by kernel_rfl
theorem tslice84 : tslice Try.prog 84 = none := by kernel_rfl
theorem tarr84 : tarr Try.prog 84 = none := by kernel_rfl
theorem tzero84 : tzero Try.prog 84 = some [AV.int IntKind.u64 0] := by kernel_rfl
theorem tzn84 : tzn Try.prog 84 = some 1 := by kernel_rfl
theorem tplaces84 : tplaces Try.prog 84 = none := by kernel_rfl
theorem tint84 : tint Try.prog 84 = some IntKind.u64 := by kernel_rfl
theorem tstr84 : tstr Try.prog 84 = false := by kernel_rfl
theorem tnoint84 : tnoint Try.prog 84 = false := by kernel_rfl
theorem tbool84 : tbool Try.prog 84 = false := by kernel_rfl
theorem tany84 : tany Try.prog 84 = some true := by kernel_rfl
theorem tintk84 : tintk Try.prog 84 = true := by kernel_rfl
theorem tbytes84 : tbytes Try.prog 84 = false := by kernel_rfl
theorem tsz85 : tsz Try.prog 85 = some 1 := by kernel_rfl
theorem tby85 : tby Try.prog 85 = some 24 := by kernel_rfl
theorem tagg85 : tagg Try.prog 85 = some false := by kernel_rfl
theorem tslice85 : tslice Try.prog 85 = some 23 := by kernel_rfl
theorem tarr85 : tarr Try.prog 85 = none := by kernel_rfl
theorem tzero85 : tzero Try.prog 85 = some [AV.ro 0 0 true fun x x_1 => AV.top] := by kernel_rfl
theorem tzn85 : tzn Try.prog 85 = some 1 := by kernel_rfl
theorem tplaces85 : tplaces Try.prog 85 = none := by kernel_rfl
theorem tint85 : tint Try.prog 85 = none := by kernel_rfl
theorem tstr85 : tstr Try.prog 85 = false := by kernel_rfl
theorem tnoint85 : tnoint Try.prog 85 = true := by kernel_rfl
theorem tbool85 : tbool Try.prog 85 = false := by kernel_rfl
theorem tany85 : tany Try.prog 85 = some true := by kernel_rfl
theorem tintk85 : tintk Try.prog 85 = false := by kernel_rfl
theorem tbytes85 : tbytes Try.prog 85 = false := by kernel_rfl
theorem tsz86 : tsz Try.prog 86 = some 36 := by kernel_rfl
theorem tby86 : tby Try.prog 86 = some 36 := by kernel_rfl
theorem tagg86 : tagg Try.prog 86 = some true := by kernel_rfl
theorem tslice86 : tslice Try.prog 86 = none := by kernel_rfl
theorem tarr86 : tarr Try.prog 86 = some (6, 23) := by kernel_rfl
theorem tzero86 : tzero Try.prog 86 = some [AV.int IntKind.u8 0, AV.int IntKind.u8 0, AV.int IntKind.u8 0, AV.int IntKind.u8 0, AV.int IntKind.u8 0, AV.int IntKind.u8 0, AV.int IntKind.u8 0, AV.int IntKind.u8 0, AV.int IntKind.u8 0, AV.int IntKind.u8 0, AV.int IntKind.u8 0, AV.int IntKind.u8 0, AV.int IntKind.u8 0, AV.int IntKind.u8 0, AV.int IntKind.u8 0, AV.int IntKind.u8 0, AV.int IntKind.u8 0, AV.int IntKind.u8 0, AV.int IntKind.u8 0, AV.int IntKind.u8 0, AV.int IntKind.u8 0, AV.int IntKind.u8 0, AV.int IntKind.u8 0, AV.int IntKind.u8 0, AV.int IntKind.u8 0, AV.int IntKind.u8 0, AV.int IntKind.u8 0, AV.int IntKind.u8 0, AV.int IntKind.u8 0, AV.int IntKind.u8 0, AV.int IntKind.u8 0, AV.int IntKind.u8 0, AV.int IntKind.u8 0, AV.int IntKind.u8 0, AV.int IntKind.u8 0, AV.int IntKind.u8 0] := by kernel_rfl
theorem tzn86 : tzn Try.prog 86 = some 36 := by kernel_rfl
theorem tplaces86 : tplaces Try.prog 86 = none := by kernel_rfl
theorem tint86 : tint Try.prog 86 = none := by kernel_rfl
theorem tstr86 : tstr Try.prog 86 = false := by kernel_rfl
theorem tnoint86 : tnoint Try.prog 86 = false := by kernel_rfl
theorem tbool86 : tbool Try.prog 86 = false := by kernel_rfl
theorem tany86 : tany Try.prog 86 = some true := by kernel_rfl
theorem tintk86 : tintk Try.prog 86 = false := by kernel_rfl
theorem tbytes86 : tbytes Try.prog 86 = false := by kernel_rfl
theorem tsz90 : tsz Try.prog 90 = some 12 := by kernel_rfl
theorem tby90 : tby Try.prog 90 = some 12 := by kernel_rfl
theorem tagg90 : tagg Try.prog 90 = some true := by kernel_rfl
theorem tslice90 : tslice Try.prog 90 = none := by kernel_rfl
theorem tarr90 : tarr Try.prog 90 = none := by kernel_rfl
theorem tzero90 : tzero Try.prog 90 = some [AV.int IntKind.u8 0, AV.int IntKind.u8 0, AV.int IntKind.u8 0, AV.int IntKind.u8 0, AV.int IntKind.u8 0, AV.int IntKind.u8 0, AV.int IntKind.u8 0, AV.int IntKind.u8 0, AV.int IntKind.u8 0, AV.int IntKind.u8 0, AV.int IntKind.u8 0, AV.int IntKind.u8 0] := by kernel_rfl
theorem tzn90 : tzn Try.prog 90 = some 12 := by kernel_rfl
theorem tplaces90 : tplaces Try.prog 90 = some [(0, 6), (6, 6)] := by kernel_rfl
theorem tint90 : tint Try.prog 90 = none := by kernel_rfl
theorem tstr90 : tstr Try.prog 90 = false := by kernel_rfl
theorem tnoint90 : tnoint Try.prog 90 = false := by kernel_rfl
theorem tbool90 : tbool Try.prog 90 = false := by kernel_rfl
theorem tany90 : tany Try.prog 90 = some true := by kernel_rfl
theorem tintk90 : tintk Try.prog 90 = false := by kernel_rfl
theorem tbytes90 : tbytes Try.prog 90 = false := by kernel_rfl
theorem tfld90_0 : tfld Try.prog 90 0 = some (23, 0, 6) := by kernel_rfl
theorem tfld90_1 : tfld Try.prog 90 1 = some (23, 6, 6) := by kernel_rfl
theorem tsz105 : tsz Try.prog 105 = some 1 := by kernel_rfl
theorem tby105 : tby Try.prog 105 = some 8 := by kernel_rfl
theorem tagg105 : tagg Try.prog 105 = some false := by kernel_rfl
theorem tslice105 : tslice Try.prog 105 = none := by kernel_rfl
theorem tarr105 : tarr Try.prog 105 = none := by kernel_rfl
theorem tzero105 : tzero Try.prog 105 = some [AV.nilf] := by kernel_rfl
theorem tzn105 : tzn Try.prog 105 = some 1 := by kernel_rfl
theorem tplaces105 : tplaces Try.prog 105 = none := by kernel_rfl
theorem tint105 : tint Try.prog 105 = none := by kernel_rfl
theorem tstr105 : tstr Try.prog 105 = false := by kernel_rfl
theorem tnoint105 : tnoint Try.prog 105 = false := by kernel_rfl
theorem tbool105 : tbool Try.prog 105 = false := by kernel_rfl
theorem tany105 : tany Try.prog 105 = some true := by kernel_rfl
theorem tintk105 : tintk Try.prog 105 = false := by kernel_rfl
theorem tbytes105 : tbytes Try.prog 105 = false := by kernel_rfl
theorem tsz110 : tsz Try.prog 110 = some 1 := by kernel_rfl
theorem tby110 : tby Try.prog 110 = some 8 := by kernel_rfl
theorem tagg110 : tagg Try.prog 110 = some false := by kernel_rfl
theorem tslice110 : tslice Try.prog 110 = none := by kernel_rfl
theorem tarr110 : tarr Try.prog 110 = none := by kernel_rfl
theorem tzero110 : tzero Try.prog 110 = some [AV.nilf] := by kernel_rfl
theorem tzn110 : tzn Try.prog 110 = some 1 := by kernel_rfl
theorem tplaces110 : tplaces Try.prog 110 = none := by kernel_rfl
theorem tint110 : tint Try.prog 110 = none := by kernel_rfl
theorem tstr110 : tstr Try.prog 110 = false := by kernel_rfl
theorem tnoint110 : tnoint Try.prog 110 = false := by kernel_rfl
theorem tbool110 : tbool Try.prog 110 = false := by kernel_rfl
theorem tany110 : tany Try.prog 110 = some true := by kernel_rfl
theorem tintk110 : tintk Try.prog 110 = false := by kernel_rfl
theorem tbytes110 : tbytes Try.prog 110 = false := by kernel_rfl
theorem tsz114 : tsz Try.prog 114 = some 1 := by kernel_rfl
theorem tby114 : tby Try.prog 114 = some 8 := by kernel_rfl
theorem tagg114 : tagg Try.prog 114 = some false := by kernel_rfl
theorem tslice114 : tslice Try.prog 114 = none := by kernel_rfl
theorem tarr114 : tarr Try.prog 114 = none := by kernel_rfl
theorem tzero114 : tzero Try.prog 114 = some [AV.nilf] := by kernel_rfl
theorem tzn114 : tzn Try.prog 114 = some 1 := by kernel_rfl
theorem tplaces114 : tplaces Try.prog 114 = none := by kernel_rfl
theorem tint114 : tint Try.prog 114 = none := by kernel_rfl
theorem tstr114 : tstr Try.prog 114 = false := by kernel_rfl
theorem tnoint114 : tnoint Try.prog 114 = false := by kernel_rfl
theorem tbool114 : tbool Try.prog 114 = false := by kernel_rfl
theorem tany114 : tany Try.prog 114 = some true := by kernel_rfl
theorem tintk114 : tintk Try.prog 114 = false := by kernel_rfl
theorem tbytes114 : tbytes Try.prog 114 = false := by kernel_rfl
end Go.Proofs.Ytbahnppiobafoaa

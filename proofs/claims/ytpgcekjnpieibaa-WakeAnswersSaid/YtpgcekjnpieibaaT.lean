/-
  Facts of the types that the walks meet: sizes, places, zero values.
-/
import Derived.Test.YtpgcekjnpieibaaBm10
import Derived.Test.YtpgcekjnpieibaaProg
namespace Go.Proofs.Ytpgcekjnpieibaa
open Go.Am
set_option linter.unusedVariables false
theorem tsz3 : tsz Try.prog 3 = some 1 := by kernel_rfl
theorem tby3 : tby Try.prog 3 = some 8 := by kernel_rfl
theorem tagg3 : tagg Try.prog 3 = some false := by kernel_rfl
theorem tslice3 : tslice Try.prog 3 = none := by kernel_rfl
theorem tarr3 : tarr Try.prog 3 = none := by kernel_rfl
theorem tzero3 : tzero Try.prog 3 = some [AV.int IntKind.i64 0] := by kernel_rfl
theorem tzn3 : tzn Try.prog 3 = some 1 := by kernel_rfl
theorem tplaces3 : tplaces Try.prog 3 = none := by kernel_rfl
theorem tint3 : tint Try.prog 3 = some IntKind.i64 := by kernel_rfl
theorem tstr3 : tstr Try.prog 3 = false := by kernel_rfl
theorem tnoint3 : tnoint Try.prog 3 = false := by kernel_rfl
theorem tbool3 : tbool Try.prog 3 = false := by kernel_rfl
theorem tany3 : tany Try.prog 3 = some true := by kernel_rfl
theorem tintk3 : tintk Try.prog 3 = true := by kernel_rfl
theorem tbytes3 : tbytes Try.prog 3 = false := by kernel_rfl
theorem tsz4 : tsz Try.prog 4 = some 1 := by kernel_rfl
theorem tby4 : tby Try.prog 4 = some 1 := by kernel_rfl
theorem tagg4 : tagg Try.prog 4 = some false := by kernel_rfl
theorem tslice4 : tslice Try.prog 4 = none := by kernel_rfl
theorem tarr4 : tarr Try.prog 4 = none := by kernel_rfl
theorem tzero4 : tzero Try.prog 4 = some [AV.bool false] := by kernel_rfl
theorem tzn4 : tzn Try.prog 4 = some 1 := by kernel_rfl
theorem tplaces4 : tplaces Try.prog 4 = none := by kernel_rfl
theorem tint4 : tint Try.prog 4 = none := by kernel_rfl
theorem tstr4 : tstr Try.prog 4 = false := by kernel_rfl
theorem tnoint4 : tnoint Try.prog 4 = false := by kernel_rfl
theorem tbool4 : tbool Try.prog 4 = true := by kernel_rfl
theorem tany4 : tany Try.prog 4 = some true := by kernel_rfl
theorem tintk4 : tintk Try.prog 4 = false := by kernel_rfl
theorem tbytes4 : tbytes Try.prog 4 = false := by kernel_rfl
theorem tsz23 : tsz Try.prog 23 = some 5 := by kernel_rfl
theorem tby23 : tby Try.prog 23 = some 40 := by kernel_rfl
theorem tagg23 : tagg Try.prog 23 = some true := by kernel_rfl
theorem tslice23 : tslice Try.prog 23 = none := by kernel_rfl
theorem tarr23 : tarr Try.prog 23 = none := by kernel_rfl
theorem tzero23 : tzero Try.prog 23 = some [AV.int IntKind.i64 0, AV.int IntKind.i64 0, AV.int IntKind.i64 0, AV.int IntKind.i64 0, AV.int IntKind.i64 0] := by kernel_rfl
theorem tzn23 : tzn Try.prog 23 = some 5 := by kernel_rfl
theorem tplaces23 : tplaces Try.prog 23 = some [(0, 1), (1, 1), (2, 1), (3, 1), (4, 1)] := by kernel_rfl
theorem tint23 : tint Try.prog 23 = none := by kernel_rfl
theorem tstr23 : tstr Try.prog 23 = false := by kernel_rfl
theorem tnoint23 : tnoint Try.prog 23 = false := by kernel_rfl
theorem tbool23 : tbool Try.prog 23 = false := by kernel_rfl
theorem tany23 : tany Try.prog 23 = some true := by kernel_rfl
theorem tintk23 : tintk Try.prog 23 = false := by kernel_rfl
theorem tbytes23 : tbytes Try.prog 23 = false := by kernel_rfl
theorem tfld23_0 : tfld Try.prog 23 0 = some (3, 0, 1) := by kernel_rfl
theorem tfld23_1 : tfld Try.prog 23 1 = some (3, 1, 1) := by kernel_rfl
theorem tfld23_2 : tfld Try.prog 23 2 = some (3, 2, 1) := by kernel_rfl
theorem tfld23_3 : tfld Try.prog 23 3 = some (3, 3, 1) := by kernel_rfl
theorem tfld23_4 : tfld Try.prog 23 4 = some (3, 4, 1) := by kernel_rfl
theorem tsz24 : tsz Try.prog 24 = some 1 := by kernel_rfl
theorem tby24 : tby Try.prog 24 = some 8 := by kernel_rfl
theorem tagg24 : tagg Try.prog 24 = some false := by kernel_rfl
theorem tslice24 : tslice Try.prog 24 = none := by kernel_rfl
theorem tarr24 : tarr Try.prog 24 = none := by kernel_rfl
theorem tzero24 : tzero Try.prog 24 = some [AV.nilf] := by kernel_rfl
theorem tzn24 : tzn Try.prog 24 = some 1 := by kernel_rfl
theorem tplaces24 : tplaces Try.prog 24 = none := by kernel_rfl
theorem tint24 : tint Try.prog 24 = none := by kernel_rfl
theorem tstr24 : tstr Try.prog 24 = false := by kernel_rfl
theorem tnoint24 : tnoint Try.prog 24 = false := by kernel_rfl
theorem tbool24 : tbool Try.prog 24 = false := by kernel_rfl
theorem tany24 : tany Try.prog 24 = some true := by kernel_rfl
theorem tintk24 : tintk Try.prog 24 = false := by kernel_rfl
theorem tbytes24 : tbytes Try.prog 24 = false := by kernel_rfl
theorem tsz29 : tsz Try.prog 29 = some 1 := by kernel_rfl
theorem tby29 : tby Try.prog 29 = some 8 := by kernel_rfl
theorem tagg29 : tagg Try.prog 29 = some false := by kernel_rfl
theorem tslice29 : tslice Try.prog 29 = none := by kernel_rfl
theorem tarr29 : tarr Try.prog 29 = none := by kernel_rfl
theorem tzero29 : tzero Try.prog 29 = some [AV.int IntKind.i64 0] := by kernel_rfl
theorem tzn29 : tzn Try.prog 29 = some 1 := by kernel_rfl
theorem tplaces29 : tplaces Try.prog 29 = none := by kernel_rfl
theorem tint29 : tint Try.prog 29 = some IntKind.i64 := by kernel_rfl
theorem tstr29 : tstr Try.prog 29 = false := by kernel_rfl
theorem tnoint29 : tnoint Try.prog 29 = false := by kernel_rfl
theorem tbool29 : tbool Try.prog 29 = false := by kernel_rfl
theorem tany29 : tany Try.prog 29 = some true := by kernel_rfl
theorem tintk29 : tintk Try.prog 29 = true := by kernel_rfl
theorem tbytes29 : tbytes Try.prog 29 = false := by kernel_rfl
theorem tsz35 : tsz Try.prog 35 = some 1 := by kernel_rfl
theorem tby35 : tby Try.prog 35 = some 24 := by kernel_rfl
theorem tagg35 : tagg Try.prog 35 = some false := by kernel_rfl
theorem tslice35 : tslice Try.prog 35 = some 23 := by kernel_rfl
theorem tarr35 : tarr Try.prog 35 = none := by kernel_rfl
theorem tzero35 : tzero Try.prog 35 = some [AV.ro 0 0 true fun x x_1 => AV.top] := by kernel_rfl
theorem tzn35 : tzn Try.prog 35 = some 1 := by kernel_rfl
theorem tplaces35 : tplaces Try.prog 35 = none := by kernel_rfl
theorem tint35 : tint Try.prog 35 = none := by kernel_rfl
theorem tstr35 : tstr Try.prog 35 = false := by kernel_rfl
theorem tnoint35 : tnoint Try.prog 35 = true := by kernel_rfl
theorem tbool35 : tbool Try.prog 35 = false := by kernel_rfl
theorem tany35 : tany Try.prog 35 = some true := by kernel_rfl
theorem tintk35 : tintk Try.prog 35 = false := by kernel_rfl
theorem tbytes35 : tbytes Try.prog 35 = false := by kernel_rfl
theorem tsz37 : tsz Try.prog 37 = some 1 := by kernel_rfl
theorem tby37 : tby Try.prog 37 = some 24 := by kernel_rfl
theorem tagg37 : tagg Try.prog 37 = some true := by kernel_rfl
theorem tslice37 : tslice Try.prog 37 = none := by kernel_rfl
theorem tarr37 : tarr Try.prog 37 = none := by kernel_rfl
theorem tzero37 : tzero Try.prog 37 = some [AV.ro 0 0 true fun x x_1 => AV.top] := by kernel_rfl
theorem tzn37 : tzn Try.prog 37 = some 1 := by kernel_rfl
theorem tplaces37 : tplaces Try.prog 37 = some [(0, 1)] := by kernel_rfl
theorem tint37 : tint Try.prog 37 = none := by kernel_rfl
theorem tstr37 : tstr Try.prog 37 = false := by kernel_rfl
theorem tnoint37 : tnoint Try.prog 37 = false := by kernel_rfl
theorem tbool37 : tbool Try.prog 37 = false := by kernel_rfl
theorem tany37 : tany Try.prog 37 = some true := by kernel_rfl
theorem tintk37 : tintk Try.prog 37 = false := by kernel_rfl
theorem tbytes37 : tbytes Try.prog 37 = false := by kernel_rfl
theorem tfld37_0 : tfld Try.prog 37 0 = some (35, 0, 1) := by kernel_rfl
theorem tsz51 : tsz Try.prog 51 = some 1 := by kernel_rfl
theorem tby51 : tby Try.prog 51 = some 24 := by kernel_rfl
theorem tagg51 : tagg Try.prog 51 = some false := by kernel_rfl
theorem tslice51 : tslice Try.prog 51 = some 3 := by kernel_rfl
theorem tarr51 : tarr Try.prog 51 = none := by kernel_rfl
theorem tzero51 : tzero Try.prog 51 = some [AV.ro 0 0 true fun x x_1 => AV.top] := by kernel_rfl
theorem tzn51 : tzn Try.prog 51 = some 1 := by kernel_rfl
theorem tplaces51 : tplaces Try.prog 51 = none := by kernel_rfl
theorem tint51 : tint Try.prog 51 = none := by kernel_rfl
theorem tstr51 : tstr Try.prog 51 = false := by kernel_rfl
theorem tnoint51 : tnoint Try.prog 51 = true := by kernel_rfl
theorem tbool51 : tbool Try.prog 51 = false := by kernel_rfl
theorem tany51 : tany Try.prog 51 = some true := by kernel_rfl
theorem tintk51 : tintk Try.prog 51 = false := by kernel_rfl
theorem tbytes51 : tbytes Try.prog 51 = false := by kernel_rfl
theorem tsz61 : tsz Try.prog 61 = some 1 := by kernel_rfl
theorem tby61 : tby Try.prog 61 = some 8 := by kernel_rfl
theorem tagg61 : tagg Try.prog 61 = some false := by kernel_rfl
theorem tslice61 : tslice Try.prog 61 = none := by kernel_rfl
theorem tarr61 : tarr Try.prog 61 = none := by kernel_rfl
theorem tzero61 : tzero Try.prog 61 = some [AV.int IntKind.u64 0] := by kernel_rfl
theorem tzn61 : tzn Try.prog 61 = some 1 := by kernel_rfl
theorem tplaces61 : tplaces Try.prog 61 = none := by kernel_rfl
theorem tint61 : tint Try.prog 61 = some IntKind.u64 := by kernel_rfl
theorem tstr61 : tstr Try.prog 61 = false := by kernel_rfl
theorem tnoint61 : tnoint Try.prog 61 = false := by kernel_rfl
theorem tbool61 : tbool Try.prog 61 = false := by kernel_rfl
theorem tany61 : tany Try.prog 61 = some true := by kernel_rfl
theorem tintk61 : tintk Try.prog 61 = true := by kernel_rfl
theorem tbytes61 : tbytes Try.prog 61 = false := by kernel_rfl
theorem tsz71 : tsz Try.prog 71 = some 1 := by kernel_rfl
theorem tby71 : tby Try.prog 71 = some 8 := by kernel_rfl
theorem tagg71 : tagg Try.prog 71 = some false := by kernel_rfl
theorem tslice71 : tslice Try.prog 71 = none := by kernel_rfl
theorem tarr71 : tarr Try.prog 71 = none := by kernel_rfl
theorem tzero71 : tzero Try.prog 71 = some [AV.nilf] := by kernel_rfl
theorem tzn71 : tzn Try.prog 71 = some 1 := by kernel_rfl
theorem tplaces71 : tplaces Try.prog 71 = none := by kernel_rfl
theorem tint71 : tint Try.prog 71 = none := by kernel_rfl
theorem tstr71 : tstr Try.prog 71 = false := by kernel_rfl
theorem tnoint71 : tnoint Try.prog 71 = false := by kernel_rfl
theorem tbool71 : tbool Try.prog 71 = false := by kernel_rfl
theorem tany71 : tany Try.prog 71 = some true := by kernel_rfl
theorem tintk71 : tintk Try.prog 71 = false := by kernel_rfl
theorem tbytes71 : tbytes Try.prog 71 = false := by kernel_rfl
theorem tsz74 : tsz Try.prog 74 = some 1 := by kernel_rfl
theorem tby74 : tby Try.prog 74 = some 8 := by kernel_rfl
theorem tagg74 : tagg Try.prog 74 = some false := by kernel_rfl
theorem tslice74 : tslice Try.prog 74 = none := by kernel_rfl
theorem tarr74 : tarr Try.prog 74 = none := by kernel_rfl
theorem tzero74 : tzero Try.prog 74 = some [AV.int IntKind.u64 0] := by kernel_rfl
theorem tzn74 : tzn Try.prog 74 = some 1 := by kernel_rfl
theorem tplaces74 : tplaces Try.prog 74 = none := by kernel_rfl
theorem tint74 : tint Try.prog 74 = some IntKind.u64 := by kernel_rfl
theorem tstr74 : tstr Try.prog 74 = false := by kernel_rfl
theorem tnoint74 : tnoint Try.prog 74 = false := by kernel_rfl
theorem tbool74 : tbool Try.prog 74 = false := by kernel_rfl
theorem tany74 : tany Try.prog 74 = some true := by kernel_rfl
theorem tintk74 : tintk Try.prog 74 = true := by kernel_rfl
theorem tbytes74 : tbytes Try.prog 74 = false := by kernel_rfl
end Go.Proofs.Ytpgcekjnpieibaa

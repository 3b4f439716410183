/-
  Facts of the types that the walks meet: sizes, places, zero values.
-/
import Derived.Test.YtohkhcljklndpaaBm10
import Derived.Test.YtohkhcljklndpaaProg
namespace Go.Proofs.Ytohkhcljklndpaa
open Go.Am
set_option linter.unusedVariables false
theorem tsz3 : tsz Try.prog 3 = some 1 := by kernel_rfl
theorem tby3 : tby Try.prog 3 = some 8 := by kernel_rfl
theorem tagg3 : tagg Try.prog 3 = some false := by kernel_rfl
theorem tslice3 : tslice Try.prog 3 = none := by kernel_rfl
theorem tarr3 : tarr Try.prog 3 = none := by kernel_rfl
theorem tzero3 : tzero Try.prog 3 = some [AV.int IntKind.i64 0] := by kernel_rfl
theorem tzn3 : tzn Try.prog 3 = some 1 := by kernel_rfl
theorem tplaces3 : tplaces Try.prog 3 = none := by kernel_rfl
theorem tint3 : tint Try.prog 3 = some IntKind.i64 := by kernel_rfl
theorem tstr3 : tstr Try.prog 3 = false := by kernel_rfl
theorem tnoint3 : tnoint Try.prog 3 = false := by kernel_rfl
theorem tbool3 : tbool Try.prog 3 = false := by kernel_rfl
theorem tany3 : tany Try.prog 3 = some true := by kernel_rfl
theorem tintk3 : tintk Try.prog 3 = true := by kernel_rfl
theorem tbytes3 : tbytes Try.prog 3 = false := by kernel_rfl
theorem tsz4 : tsz Try.prog 4 = some 1 := by kernel_rfl
theorem tby4 : tby Try.prog 4 = some 1 := by kernel_rfl
theorem tagg4 : tagg Try.prog 4 = some false := by kernel_rfl
theorem tslice4 : tslice Try.prog 4 = none := by kernel_rfl
theorem tarr4 : tarr Try.prog 4 = none := by kernel_rfl
theorem tzero4 : tzero Try.prog 4 = some [AV.bool false] := by kernel_rfl
theorem tzn4 : tzn Try.prog 4 = some 1 := by kernel_rfl
theorem tplaces4 : tplaces Try.prog 4 = none := by kernel_rfl
theorem tint4 : tint Try.prog 4 = none := by kernel_rfl
theorem tstr4 : tstr Try.prog 4 = false := by kernel_rfl
theorem tnoint4 : tnoint Try.prog 4 = false := by kernel_rfl
theorem tbool4 : tbool Try.prog 4 = true := by kernel_rfl
theorem tany4 : tany Try.prog 4 = some true := by kernel_rfl
theorem tintk4 : tintk Try.prog 4 = false := by kernel_rfl
theorem tbytes4 : tbytes Try.prog 4 = false := by kernel_rfl
theorem tsz5 : tsz Try.prog 5 = some 1 := by kernel_rfl
theorem tby5 : tby Try.prog 5 = some 1 := by kernel_rfl
theorem tagg5 : tagg Try.prog 5 = some false := by kernel_rfl
theorem tslice5 : tslice Try.prog 5 = none := by kernel_rfl
theorem tarr5 : tarr Try.prog 5 = none := by kernel_rfl
theorem tzero5 : tzero Try.prog 5 = some [AV.int IntKind.u8 0] := by kernel_rfl
theorem tzn5 : tzn Try.prog 5 = some 1 := by kernel_rfl
theorem tplaces5 : tplaces Try.prog 5 = none := by kernel_rfl
theorem tint5 : tint Try.prog 5 = some IntKind.u8 := by kernel_rfl
theorem tstr5 : tstr Try.prog 5 = false := by kernel_rfl
theorem tnoint5 : tnoint Try.prog 5 = false := by kernel_rfl
theorem tbool5 : tbool Try.prog 5 = false := by kernel_rfl
theorem tany5 : tany Try.prog 5 = some true := by kernel_rfl
theorem tintk5 : tintk Try.prog 5 = true := by kernel_rfl
theorem tbytes5 : tbytes Try.prog 5 = false := by kernel_rfl
theorem tsz22 : tsz Try.prog 22 = some 1 := by kernel_rfl
theorem tby22 : tby Try.prog 22 = some 24 := by kernel_rfl
theorem tagg22 : tagg Try.prog 22 = some false := by kernel_rfl
theorem tslice22 : tslice Try.prog 22 = some 24 := by kernel_rfl
theorem tarr22 : tarr Try.prog 22 = none := by kernel_rfl
theorem tzero22 : tzero Try.prog 22 = some [AV.ro 0 0 true fun x x_1 => AV.top] := by kernel_rfl
theorem tzn22 : tzn Try.prog 22 = some 1 := by kernel_rfl
theorem tplaces22 : tplaces Try.prog 22 = none := by kernel_rfl
theorem tint22 : tint Try.prog 22 = none := by kernel_rfl
theorem tstr22 : tstr Try.prog 22 = false := by kernel_rfl
theorem tnoint22 : tnoint Try.prog 22 = true := by kernel_rfl
theorem tbool22 : tbool Try.prog 22 = false := by kernel_rfl
theorem tany22 : tany Try.prog 22 = some true := by kernel_rfl
theorem tintk22 : tintk Try.prog 22 = false := by kernel_rfl
theorem tbytes22 : tbytes Try.prog 22 = false := by kernel_rfl
theorem tsz24 : tsz Try.prog 24 = some 6 := by kernel_rfl
theorem tby24 : tby Try.prog 24 = some 6 := by kernel_rfl
theorem tagg24 : tagg Try.prog 24 = some true := by kernel_rfl
theorem tslice24 : tslice Try.prog 24 = none := by kernel_rfl
theorem tarr24 : tarr Try.prog 24 = some (6, 5) := by kernel_rfl
theorem tzero24 : tzero Try.prog 24 = some [AV.int IntKind.u8 0, AV.int IntKind.u8 0, AV.int IntKind.u8 0, AV.int IntKind.u8 0, AV.int IntKind.u8 0, AV.int IntKind.u8 0] := by kernel_rfl
theorem tzn24 : tzn Try.prog 24 = some 6 := by kernel_rfl
theorem tplaces24 : tplaces Try.prog 24 = none := by kernel_rfl
theorem tint24 : tint Try.prog 24 = none := by kernel_rfl
theorem tstr24 : tstr Try.prog 24 = false := by kernel_rfl
theorem tnoint24 : tnoint Try.prog 24 = false := by kernel_rfl
theorem tbool24 : tbool Try.prog 24 = false := by kernel_rfl
theorem tany24 : tany Try.prog 24 = some true := by kernel_rfl
theorem tintk24 : tintk Try.prog 24 = false := by kernel_rfl
theorem tbytes24 : tbytes Try.prog 24 = false := by kernel_rfl
theorem tsz25 : tsz Try.prog 25 = some 1 := by kernel_rfl
theorem tby25 : tby Try.prog 25 = some 8 := by kernel_rfl
theorem tagg25 : tagg Try.prog 25 = some false := by kernel_rfl
theorem tslice25 : tslice Try.prog 25 = none := by kernel_rfl
theorem tarr25 : tarr Try.prog 25 = none := by kernel_rfl
theorem tzero25 : tzero Try.prog 25 = some [AV.int IntKind.i64 0] := by kernel_rfl
theorem tzn25 : tzn Try.prog 25 = some 1 := by kernel_rfl
theorem tplaces25 : tplaces Try.prog 25 = none := by kernel_rfl
theorem tint25 : tint Try.prog 25 = some IntKind.i64 := by kernel_rfl
theorem tstr25 : tstr Try.prog 25 = false := by kernel_rfl
theorem tnoint25 : tnoint Try.prog 25 = false := by kernel_rfl
theorem tbool25 : tbool Try.prog 25 = false := by kernel_rfl
theorem tany25 : tany Try.prog 25 = some true := by kernel_rfl
theorem tintk25 : tintk Try.prog 25 = true := by kernel_rfl
theorem tbytes25 : tbytes Try.prog 25 = false := by kernel_rfl
theorem tsz43 : tsz Try.prog 43 = some 1 := by kernel_rfl
theorem tby43 : tby Try.prog 43 = some 8 := by kernel_rfl
theorem tagg43 : tagg Try.prog 43 = some false := by kernel_rfl
theorem tslice43 : tslice Try.prog 43 = none := by kernel_rfl
theorem tarr43 : tarr Try.prog 43 = none := by kernel_rfl
theorem tzero43 : tzero Try.prog 43 = some [AV.nilf] := by kernel_rfl
theorem tzn43 : tzn Try.prog 43 = some 1 := by kernel_rfl
theorem tplaces43 : tplaces Try.prog 43 = none := by kernel_rfl
theorem tint43 : tint Try.prog 43 = none := by kernel_rfl
theorem tstr43 : tstr Try.prog 43 = false := by kernel_rfl
theorem tnoint43 : tnoint Try.prog 43 = false := by kernel_rfl
theorem tbool43 : tbool Try.prog 43 = false := by kernel_rfl
theorem tany43 : tany Try.prog 43 = some true := by kernel_rfl
theorem tintk43 : tintk Try.prog 43 = false := by kernel_rfl
theorem tbytes43 : tbytes Try.prog 43 = false := by kernel_rfl
theorem tsz46 : tsz Try.prog 46 = some 1 := by kernel_rfl
theorem tby46 : tby Try.prog 46 = some 24 := by kernel_rfl
theorem tagg46 : tagg Try.prog 46 = some false := by kernel_rfl
theorem tslice46 : tslice Try.prog 46 = some 22 := by kernel_rfl
theorem tarr46 : tarr Try.prog 46 = none := by kernel_rfl
theorem tzero46 : tzero Try.prog 46 = some [AV.ro 0 0 true fun x x_1 => AV.top] := by kernel_rfl
theorem tzn46 : tzn Try.prog 46 = some 1 := by kernel_rfl
theorem tplaces46 : tplaces Try.prog 46 = none := by kernel_rfl
theorem tint46 : tint Try.prog 46 = none := by kernel_rfl
theorem tstr46 : tstr Try.prog 46 = false := by kernel_rfl
theorem tnoint46 : tnoint Try.prog 46 = true := by kernel_rfl
theorem tbool46 : tbool Try.prog 46 = false := by kernel_rfl
theorem tany46 : tany Try.prog 46 = some true := by kernel_rfl
theorem tintk46 : tintk Try.prog 46 = false := by kernel_rfl
theorem tbytes46 : tbytes Try.prog 46 = false := by kernel_rfl
theorem tsz48 : tsz Try.prog 48 = some 1 := by kernel_rfl
theorem tby48 : tby Try.prog 48 = some 24 := by kernel_rfl
theorem tagg48 : tagg Try.prog 48 = some false := by kernel_rfl
theorem tslice48 : tslice Try.prog 48 = some 5 := by kernel_rfl
theorem tarr48 : tarr Try.prog 48 = none := by kernel_rfl
theorem tzero48 : tzero Try.prog 48 = some [AV.ro 0 0 true fun x x_1 => AV.top] := by kernel_rfl
theorem tzn48 : tzn Try.prog 48 = some 1 := by kernel_rfl
theorem tplaces48 : tplaces Try.prog 48 = none := by kernel_rfl
theorem tint48 : tint Try.prog 48 = none := by kernel_rfl
theorem tstr48 : tstr Try.prog 48 = false := by kernel_rfl
theorem tnoint48 : tnoint Try.prog 48 = true := by kernel_rfl
theorem tbool48 : tbool Try.prog 48 = false := by kernel_rfl
theorem tany48 : tany Try.prog 48 = some true := by kernel_rfl
theorem tintk48 : tintk Try.prog 48 = false := by kernel_rfl
theorem tbytes48 : tbytes Try.prog 48 = true := by kernel_rfl
theorem tsz49 : tsz Try.prog 49 = some 1 := by kernel_rfl
theorem tby49 : tby Try.prog 49 = some 8 := by kernel_rfl
theorem tagg49 : tagg Try.prog 49 = some false := by kernel_rfl
theorem tslice49 : tslice Try.prog 49 = none := by kernel_rfl
theorem tarr49 : tarr Try.prog 49 = none := by kernel_rfl
theorem tzero49 : tzero Try.prog 49 = some [AV.int IntKind.u64 0] := by kernel_rfl
theorem tzn49 : tzn Try.prog 49 = some 1 := by kernel_rfl
theorem tplaces49 : tplaces Try.prog 49 = none := by kernel_rfl
theorem tint49 : tint Try.prog 49 = some IntKind.u64 := by kernel_rfl
theorem tstr49 : tstr Try.prog 49 = false := by kernel_rfl
theorem tnoint49 : tnoint Try.prog 49 = false := by kernel_rfl
theorem tbool49 : tbool Try.prog 49 = false := by kernel_rfl
theorem tany49 : tany Try.prog 49 = some true := by kernel_rfl
theorem tintk49 : tintk Try.prog 49 = true := by kernel_rfl
theorem tbytes49 : tbytes Try.prog 49 = false := by kernel_rfl
end Go.Proofs.Ytohkhcljklndpaa

/-
  Facts of the types that the walks meet: sizes, places, zero values.
-/
import Derived.Test.YtiameicjjlfimaaAm28
import Derived.Test.YtiameicjjlfimaaProg
namespace Go.Proofs.Ytiameicjjlfimaa
open Go.Am
set_option linter.unusedVariables false
theorem tsz3 : tsz Try.prog 3 = some 1 := by kernel_rfl
theorem tby3 : tby Try.prog 3 = some 8 := by kernel_rfl
theorem tagg3 : tagg Try.prog 3 = some false := by kernel_rfl
theorem tslice3 : tslice Try.prog 3 = none := by kernel_rfl
theorem tarr3 : tarr Try.prog 3 = none := by kernel_rfl
theorem tzero3 : tzero Try.prog 3 = some [AV.int IntKind.i64 (Int.ofNat 0)] := by kernel_rfl
theorem tzn3 : tzn Try.prog 3 = some 1 := by kernel_rfl
theorem tplaces3 : tplaces Try.prog 3 = none := by kernel_rfl
theorem tint3 : tint Try.prog 3 = some IntKind.i64 := by kernel_rfl
theorem tstr3 : tstr Try.prog 3 = false := by kernel_rfl
theorem tnoint3 : tnoint Try.prog 3 = false := by kernel_rfl
theorem tbool3 : tbool Try.prog 3 = false := by kernel_rfl
theorem tany3 : tany Try.prog 3 = some true := by kernel_rfl
theorem tbytes3 : tbytes Try.prog 3 = false := by kernel_rfl
theorem tsz4 : tsz Try.prog 4 = some 1 := by kernel_rfl
theorem tby4 : tby Try.prog 4 = some 1 := by kernel_rfl
theorem tagg4 : tagg Try.prog 4 = some false := by kernel_rfl
theorem tslice4 : tslice Try.prog 4 = none := by kernel_rfl
theorem tarr4 : tarr Try.prog 4 = none := by kernel_rfl
theorem tzero4 : tzero Try.prog 4 = some [AV.bool false] := by kernel_rfl
theorem tzn4 : tzn Try.prog 4 = some 1 := by kernel_rfl
theorem tplaces4 : tplaces Try.prog 4 = none := by kernel_rfl
theorem tint4 : tint Try.prog 4 = none := by kernel_rfl
theorem tstr4 : tstr Try.prog 4 = false := by kernel_rfl
theorem tnoint4 : tnoint Try.prog 4 = false := by kernel_rfl
theorem tbool4 : tbool Try.prog 4 = true := by kernel_rfl
theorem tany4 : tany Try.prog 4 = some true := by kernel_rfl
theorem tbytes4 : tbytes Try.prog 4 = false := by kernel_rfl
theorem tsz5 : tsz Try.prog 5 = some 1 := by kernel_rfl
theorem tby5 : tby Try.prog 5 = some 1 := by kernel_rfl
theorem tagg5 : tagg Try.prog 5 = some false := by kernel_rfl
theorem tslice5 : tslice Try.prog 5 = none := by kernel_rfl
theorem tarr5 : tarr Try.prog 5 = none := by kernel_rfl
theorem tzero5 : tzero Try.prog 5 = some [AV.int IntKind.u8 (Int.ofNat 0)] := by kernel_rfl
theorem tzn5 : tzn Try.prog 5 = some 1 := by kernel_rfl
theorem tplaces5 : tplaces Try.prog 5 = none := by kernel_rfl
theorem tint5 : tint Try.prog 5 = some IntKind.u8 := by kernel_rfl
theorem tstr5 : tstr Try.prog 5 = false := by kernel_rfl
theorem tnoint5 : tnoint Try.prog 5 = false := by kernel_rfl
theorem tbool5 : tbool Try.prog 5 = false := by kernel_rfl
theorem tany5 : tany Try.prog 5 = some true := by kernel_rfl
theorem tbytes5 : tbytes Try.prog 5 = false := by kernel_rfl
theorem tsz9 : tsz Try.prog 9 = some 1 := by kernel_rfl
theorem tby9 : tby Try.prog 9 = some 16 := by kernel_rfl
theorem tagg9 : tagg Try.prog 9 = some false := by kernel_rfl
theorem tslice9 : tslice Try.prog 9 = none := by kernel_rfl
theorem tarr9 : tarr Try.prog 9 = none := by kernel_rfl
theorem tzero9 : tzero Try.prog 9 = some [AV.str { data := { toList := [] } }] := by kernel_rfl
theorem tzn9 : tzn Try.prog 9 = some 1 := by kernel_rfl
theorem tplaces9 : tplaces Try.prog 9 = none := by kernel_rfl
theorem tint9 : tint Try.prog 9 = none := by kernel_rfl
theorem tstr9 : tstr Try.prog 9 = true := by kernel_rfl
theorem tnoint9 : tnoint Try.prog 9 = true := by kernel_rfl
theorem tbool9 : tbool Try.prog 9 = false := by kernel_rfl
theorem tany9 : tany Try.prog 9 = some true := by kernel_rfl
theorem tbytes9 : tbytes Try.prog 9 = false := by kernel_rfl
theorem tsz22 : tsz Try.prog 22 = some 6 := by kernel_rfl
theorem tby22 : tby Try.prog 22 = some 6 := by kernel_rfl
theorem tagg22 : tagg Try.prog 22 = some true := by kernel_rfl
theorem tslice22 : tslice Try.prog 22 = none := by kernel_rfl
theorem tarr22 : tarr Try.prog 22 = some (6, 5) := by kernel_rfl
theorem tzero22 : tzero Try.prog 22 = some [AV.int IntKind.u8 (Int.ofNat 0), AV.int IntKind.u8 (Int.ofNat 0), AV.int IntKind.u8 (Int.ofNat 0), AV.int IntKind.u8 (Int.ofNat 0), AV.int IntKind.u8 (Int.ofNat 0), AV.int IntKind.u8 (Int.ofNat 0)] := by kernel_rfl
theorem tzn22 : tzn Try.prog 22 = some 6 := by kernel_rfl
theorem tplaces22 : tplaces Try.prog 22 = none := by kernel_rfl
theorem tint22 : tint Try.prog 22 = none := by kernel_rfl
theorem tstr22 : tstr Try.prog 22 = false := by kernel_rfl
theorem tnoint22 : tnoint Try.prog 22 = false := by kernel_rfl
theorem tbool22 : tbool Try.prog 22 = false := by kernel_rfl
theorem tany22 : tany Try.prog 22 = some true := by kernel_rfl
theorem tbytes22 : tbytes Try.prog 22 = false := by kernel_rfl
theorem tsz23 : tsz Try.prog 23 = some 6 := by kernel_rfl
theorem tby23 : tby Try.prog 23 = some 6 := by kernel_rfl
theorem tagg23 : tagg Try.prog 23 = some true := by kernel_rfl
theorem tslice23 : tslice Try.prog 23 = none := by kernel_rfl
theorem tarr23 : tarr Try.prog 23 = some (6, 5) := by kernel_rfl
theorem tzero23 : tzero Try.prog 23 = some [AV.int IntKind.u8 (Int.ofNat 0), AV.int IntKind.u8 (Int.ofNat 0), AV.int IntKind.u8 (Int.ofNat 0), AV.int IntKind.u8 (Int.ofNat 0), AV.int IntKind.u8 (Int.ofNat 0), AV.int IntKind.u8 (Int.ofNat 0)] := by kernel_rfl
theorem tzn23 : tzn Try.prog 23 = some 6 := by kernel_rfl
theorem tplaces23 : tplaces Try.prog 23 = none := by kernel_rfl
theorem tint23 : tint Try.prog 23 = none := by kernel_rfl
theorem tstr23 : tstr Try.prog 23 = false := by kernel_rfl
theorem tnoint23 : tnoint Try.prog 23 = false := by kernel_rfl
theorem tbool23 : tbool Try.prog 23 = false := by kernel_rfl
theorem tany23 : tany Try.prog 23 = some true := by kernel_rfl
theorem tbytes23 : tbytes Try.prog 23 = false := by kernel_rfl
theorem tsz28 : tsz Try.prog 28 = some 1 := by kernel_rfl
theorem tby28 : tby Try.prog 28 = some 8 := by kernel_rfl
theorem tagg28 : tagg Try.prog 28 = some false := by kernel_rfl
theorem tslice28 : tslice Try.prog 28 = none := by kernel_rfl
theorem tarr28 : tarr Try.prog 28 = none := by kernel_rfl
theorem tzero28 : tzero Try.prog 28 = some [AV.int IntKind.i64 (Int.ofNat 0)] := by kernel_rfl
theorem tzn28 : tzn Try.prog 28 = some 1 := by kernel_rfl
theorem tplaces28 : tplaces Try.prog 28 = none := by kernel_rfl
theorem tint28 : tint Try.prog 28 = some IntKind.i64 := by kernel_rfl
theorem tstr28 : tstr Try.prog 28 = false := by kernel_rfl
theorem tnoint28 : tnoint Try.prog 28 = false := by kernel_rfl
theorem tbool28 : tbool Try.prog 28 = false := by kernel_rfl
theorem tany28 : tany Try.prog 28 = some true := by kernel_rfl
theorem tbytes28 : tbytes Try.prog 28 = false := by kernel_rfl
theorem tsz34 : tsz Try.prog 34 = some 1 := by kernel_rfl
theorem tby34 : tby Try.prog 34 = some 8 := by kernel_rfl
theorem tagg34 : tagg Try.prog 34 = some false := by kernel_rfl
theorem tslice34 : tslice Try.prog 34 = none := by kernel_rfl
theorem tarr34 : tarr Try.prog 34 = none := by kernel_rfl
theorem tzero34 : tzero Try.prog 34 = some [AV.int IntKind.u64 (Int.ofNat 0)] := by kernel_rfl
theorem tzn34 : tzn Try.prog 34 = some 1 := by kernel_rfl
theorem tplaces34 : tplaces Try.prog 34 = none := by kernel_rfl
theorem tint34 : tint Try.prog 34 = some IntKind.u64 := by kernel_rfl
theorem tstr34 : tstr Try.prog 34 = false := by kernel_rfl
theorem tnoint34 : tnoint Try.prog 34 = false := by kernel_rfl
theorem tbool34 : tbool Try.prog 34 = false := by kernel_rfl
theorem tany34 : tany Try.prog 34 = some true := by kernel_rfl
theorem tbytes34 : tbytes Try.prog 34 = false := by kernel_rfl
theorem tsz43 : tsz Try.prog 43 = some 1 := by kernel_rfl
theorem tby43 : tby Try.prog 43 = some 24 := by kernel_rfl
theorem tagg43 : tagg Try.prog 43 = some false := by kernel_rfl
theorem tslice43 : tslice Try.prog 43 = some 23 := by kernel_rfl
theorem tarr43 : tarr Try.prog 43 = none := by kernel_rfl
theorem tzero43 : tzero Try.prog 43 = some [AV.ro 0 0 true fun x x_1 => AV.top] := by kernel_rfl
theorem tzn43 : tzn Try.prog 43 = some 1 := by kernel_rfl
theorem tplaces43 : tplaces Try.prog 43 = none := by kernel_rfl
theorem tint43 : tint Try.prog 43 = none := by kernel_rfl
theorem tstr43 : tstr Try.prog 43 = false := by kernel_rfl
theorem tnoint43 : tnoint Try.prog 43 = true := by kernel_rfl
theorem tbool43 : tbool Try.prog 43 = false := by kernel_rfl
theorem tany43 : tany Try.prog 43 = some true := by kernel_rfl
theorem tbytes43 : tbytes Try.prog 43 = false := by kernel_rfl
theorem tsz59 : tsz Try.prog 59 = some 1 := by kernel_rfl
theorem tby59 : tby Try.prog 59 = some 24 := by kernel_rfl
theorem tagg59 : tagg Try.prog 59 = some false := by kernel_rfl
theorem tslice59 : tslice Try.prog 59 = some 9 := by kernel_rfl
theorem tarr59 : tarr Try.prog 59 = none := by kernel_rfl
theorem tzero59 : tzero Try.prog 59 = some [AV.ro 0 0 true fun x x_1 => AV.top] := by kernel_rfl
theorem tzn59 : tzn Try.prog 59 = some 1 := by kernel_rfl
theorem tplaces59 : tplaces Try.prog 59 = none := by kernel_rfl
theorem tint59 : tint Try.prog 59 = none := by kernel_rfl
theorem tstr59 : tstr Try.prog 59 = false := by kernel_rfl
theorem tnoint59 : tnoint Try.prog 59 = true := by kernel_rfl
theorem tbool59 : tbool Try.prog 59 = false := by kernel_rfl
theorem tany59 : tany Try.prog 59 = some true := by kernel_rfl
theorem tbytes59 : tbytes Try.prog 59 = false := by kernel_rfl
theorem tsz63 : tsz Try.prog 63 = some 1 := by kernel_rfl
theorem tby63 : tby Try.prog 63 = some 8 := by kernel_rfl
theorem tagg63 : tagg Try.prog 63 = some false := by kernel_rfl
theorem tslice63 : tslice Try.prog 63 = none := by kernel_rfl
theorem tarr63 : tarr Try.prog 63 = none := by kernel_rfl
theorem tzero63 : tzero Try.prog 63 = some [AV.int IntKind.u64 (Int.ofNat 0)] := by kernel_rfl
theorem tzn63 : tzn Try.prog 63 = some 1 := by kernel_rfl
theorem tplaces63 : tplaces Try.prog 63 = none := by kernel_rfl
theorem tint63 : tint Try.prog 63 = some IntKind.u64 := by kernel_rfl
theorem tstr63 : tstr Try.prog 63 = false := by kernel_rfl
theorem tnoint63 : tnoint Try.prog 63 = false := by kernel_rfl
theorem tbool63 : tbool Try.prog 63 = false := by kernel_rfl
theorem tany63 : tany Try.prog 63 = some true := by kernel_rfl
theorem tbytes63 : tbytes Try.prog 63 = false := by kernel_rfl
theorem tsz64 : tsz Try.prog 64 = some 1 := by kernel_rfl
theorem tby64 : tby Try.prog 64 = some 24 := by kernel_rfl
theorem tagg64 : tagg Try.prog 64 = some false := by kernel_rfl
theorem tslice64 : tslice Try.prog 64 = some 5 := by kernel_rfl
theorem tarr64 : tarr Try.prog 64 = none := by kernel_rfl
theorem tzero64 : tzero Try.prog 64 = some [AV.ro 0 0 true fun x x_1 => AV.top] := by kernel_rfl
theorem tzn64 : tzn Try.prog 64 = some 1 := by kernel_rfl
theorem tplaces64 : tplaces Try.prog 64 = none := by kernel_rfl
theorem tint64 : tint Try.prog 64 = none := by kernel_rfl
theorem tstr64 : tstr Try.prog 64 = false := by kernel_rfl
theorem tnoint64 : tnoint Try.prog 64 = true := by kernel_rfl
theorem tbool64 : tbool Try.prog 64 = false := by kernel_rfl
theorem tany64 : tany Try.prog 64 = some true := by kernel_rfl
theorem tbytes64 : tbytes Try.prog 64 = true := by kernel_rfl
theorem tsz72 : tsz Try.prog 72 = some 1 := by kernel_rfl
theorem tby72 : tby Try.prog 72 = some 24 := by kernel_rfl
theorem tagg72 : tagg Try.prog 72 = some false := by kernel_rfl
theorem tslice72 : tslice Try.prog 72 = some 43 := by kernel_rfl
theorem tarr72 : tarr Try.prog 72 = none := by kernel_rfl
theorem tzero72 : tzero Try.prog 72 = some [AV.ro 0 0 true fun x x_1 => AV.top] := by kernel_rfl
theorem tzn72 : tzn Try.prog 72 = some 1 := by kernel_rfl
theorem tplaces72 : tplaces Try.prog 72 = none := by kernel_rfl
theorem tint72 : tint Try.prog 72 = none := by kernel_rfl
theorem tstr72 : tstr Try.prog 72 = false := by kernel_rfl
theorem tnoint72 : tnoint Try.prog 72 = true := by kernel_rfl
theorem tbool72 : tbool Try.prog 72 = false := by kernel_rfl
theorem tany72 : tany Try.prog 72 = some true := by kernel_rfl
theorem tbytes72 : tbytes Try.prog 72 = false := by kernel_rfl
end Go.Proofs.Ytiameicjjlfimaa

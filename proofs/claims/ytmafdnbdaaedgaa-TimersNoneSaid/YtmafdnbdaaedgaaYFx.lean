/- What the program says of its types. No condition. -/
import Derived.Test.YtmafdnbdaaedgaaProg
import Derived.Test.YtmafdnbdaaedgaaYb1
set_option linter.unusedSectionVars false
set_option linter.unusedVariables false
set_option linter.unusedSimpArgs false
set_option linter.deprecated false
namespace Go.Proofs.Ytmafdnbdaaedgaa
open Go.Am
theorem ty3 : tyI Try.prog 3 = some (1, false, [AV.v (Value.int IntKind.i64 0)]) := by kernel_rfl
theorem ty4 : tyI Try.prog 4 = some (1, false, [AV.v (Value.bool false)]) := by kernel_rfl
theorem ty5 : tyI Try.prog 5 = some (1, false, [AV.v (Value.int IntKind.u8 0)]) := by kernel_rfl
theorem jeq7 {x y : Operand} {cs ds : List AV} {K : Kv} : jbin Try.prog .eql 7 x y (.agg cs) (.agg ds) = (match eqAV [Sc.int IntKind.i64, Sc.int IntKind.i64, Sc.bool, Sc.int IntKind.u8] cs ds with | some b => K.k (.v (.bool (b))) | none => abin Try.prog .eql 7 x y (.agg cs) (.agg ds) K.k) := jbin_agg_eql (by kernel_rfl)
theorem sl22 : slI Try.prog 22 = some (5, 1) := by kernel_rfl
theorem sl28 : slI Try.prog 28 = some (4, 1) := by kernel_rfl
theorem sl29 : slI Try.prog 29 = some (32, 2) := by kernel_rfl
theorem ty32 : tyI Try.prog 32 = some (2, true, [AV.v (Value.int IntKind.i64 0), AV.v (Value.int IntKind.i64 0)]) := by kernel_rfl
theorem st32 : stI Try.prog 32 = some [(0, 1, false), (1, 1, false)] := by kernel_rfl
theorem jeq32 {x y : Operand} {cs ds : List AV} {K : Kv} : jbin Try.prog .eql 32 x y (.agg cs) (.agg ds) = (match eqAV [Sc.int IntKind.i64, Sc.int IntKind.i64] cs ds with | some b => K.k (.v (.bool (b))) | none => abin Try.prog .eql 32 x y (.agg cs) (.agg ds) K.k) := jbin_agg_eql (by kernel_rfl)
theorem ty50 : tyI Try.prog 50 = some (1, false, [AV.v (Value.slice none 0 0)]) := by kernel_rfl
theorem sl50 : slI Try.prog 50 = some (56, 1) := by kernel_rfl
theorem ty51 : tyI Try.prog 51 = some (1, false, [AV.v (Value.map none)]) := by kernel_rfl
theorem mp51 : mpI Try.prog 51 = some (3, 56) := by kernel_rfl
theorem ty53 : tyI Try.prog 53 = some (2, true, [AV.v (Value.slice none 0 0), AV.v (Value.map none)]) := by kernel_rfl
theorem st53 : stI Try.prog 53 = some [(0, 1, false), (1, 1, false)] := by kernel_rfl
theorem ty56 : tyI Try.prog 56 = some (1, false, [AV.v (Value.pointer none)]) := by kernel_rfl
theorem zv56 : zvI Try.prog 56 = some (AV.v (Value.pointer none)) := by kernel_rfl
theorem pt56 : ptI Try.prog 56 = some 58 := by kernel_rfl
theorem ty58 : tyI Try.prog 58 = some (3, true, [AV.v (Value.int IntKind.i64 0), AV.v (Value.int IntKind.i64 0), AV.v (Value.int IntKind.i64 0)]) := by kernel_rfl
theorem st58 : stI Try.prog 58 = some [(0, 2, true), (2, 1, false)] := by kernel_rfl
theorem pt60 : ptI Try.prog 60 = some 50 := by kernel_rfl
theorem me60_Len : methI Try.prog 60 "Len" = some (65, some 50) := by kernel_rfl
theorem me60_Less : methI Try.prog 60 "Less" = some (66, some 50) := by kernel_rfl
theorem me60_Pop : methI Try.prog 60 "Pop" = some (68, none) := by kernel_rfl
theorem me60_Push : methI Try.prog 60 "Push" = some (69, none) := by kernel_rfl
theorem me60_Swap : methI Try.prog 60 "Swap" = some (67, some 50) := by kernel_rfl
theorem sl92 : slI Try.prog 92 = some (3, 1) := by kernel_rfl
theorem arn32 : arI Try.prog 32 = none := by kernel_rfl
theorem arn53 : arI Try.prog 53 = none := by kernel_rfl
theorem arn58 : arI Try.prog 58 = none := by kernel_rfl
end Go.Proofs.Ytmafdnbdaaedgaa

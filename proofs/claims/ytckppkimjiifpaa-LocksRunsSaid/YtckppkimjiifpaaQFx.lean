/- What the program says of its types. No condition. -/
import Derived.Test.YtckppkimjiifpaaProg
import Derived.Test.YtckppkimjiifpaaQb1
set_option linter.unusedSectionVars false
set_option linter.unusedVariables false
set_option linter.unusedSimpArgs false
set_option linter.deprecated false
namespace Go.Proofs.Ytckppkimjiifpaa
open Go.Am
theorem ty3 : tyI Try.prog 3 = some (1, false, [AV.v (Value.int IntKind.i64 0)]) := by kernel_rfl
theorem zv3 : zvI Try.prog 3 = some (AV.v (Value.int IntKind.i64 0)) := by kernel_rfl
theorem ty4 : tyI Try.prog 4 = some (1, false, [AV.v (Value.bool false)]) := by kernel_rfl
theorem jeq7 {x y : Operand} {cs ds : List AV} {K : Kv} : jbin Try.prog .eql 7 x y (.agg cs) (.agg ds) = (match eqAV [Sc.int IntKind.i64, Sc.int IntKind.i64, Sc.bool, Sc.int IntKind.u8] cs ds with | some b => K.k (.v (.bool (b))) | none => abin Try.prog .eql 7 x y (.agg cs) (.agg ds) K.k) := jbin_agg_eql (by kernel_rfl)
theorem sl22 : slI Try.prog 22 = some (30, 4) := by kernel_rfl
theorem ty23 : tyI Try.prog 23 = some (1, false, [AV.v (Value.pointer none)]) := by kernel_rfl
theorem ty30 : tyI Try.prog 30 = some (4, true, [AV.v (Value.int IntKind.i64 0), AV.v (Value.int IntKind.i64 0), AV.v (Value.int IntKind.i64 0), AV.v (Value.bool false)]) := by kernel_rfl
theorem st30 : stI Try.prog 30 = some [(0, 1, false), (1, 1, false), (2, 1, false), (3, 1, false)] := by kernel_rfl
theorem sl32 : slI Try.prog 32 = some (35, 2) := by kernel_rfl
theorem ty35 : tyI Try.prog 35 = some (2, true, [AV.v (Value.int IntKind.i64 0), AV.v (Value.bool false)]) := by kernel_rfl
theorem st35 : stI Try.prog 35 = some [(0, 1, false), (1, 1, false)] := by kernel_rfl
theorem jne35 {x y : Operand} {cs ds : List AV} {K : Kv} : jbin Try.prog .neq 35 x y (.agg cs) (.agg ds) = (match eqAV [Sc.int IntKind.i64, Sc.bool] cs ds with | some b => K.k (.v (.bool (!b))) | none => abin Try.prog .neq 35 x y (.agg cs) (.agg ds) K.k) := jbin_agg_neq (by kernel_rfl)
theorem sl38 : slI Try.prog 38 = some (3, 1) := by kernel_rfl
theorem ty44 : tyI Try.prog 44 = some (1, false, [AV.v (Value.pointer none)]) := by kernel_rfl
theorem ty49 : tyI Try.prog 49 = some (2, true, [AV.v (Value.pointer none), AV.v (Value.pointer none)]) := by kernel_rfl
theorem st49 : stI Try.prog 49 = some [(0, 1, false), (1, 1, false)] := by kernel_rfl
theorem ty52 : tyI Try.prog 52 = some (1, false, [AV.v (Value.slice none 0 0)]) := by kernel_rfl
theorem sl52 : slI Try.prog 52 = some (60, 1) := by kernel_rfl
theorem ty54 : tyI Try.prog 54 = some (1, true, [AV.v (Value.slice none 0 0)]) := by kernel_rfl
theorem st54 : stI Try.prog 54 = some [(0, 1, false)] := by kernel_rfl
theorem ty60 : tyI Try.prog 60 = some (1, false, [AV.v (Value.pointer none)]) := by kernel_rfl
theorem ty61 : tyI Try.prog 61 = some (1, false, [AV.v (Value.map none)]) := by kernel_rfl
theorem mp61 : mpI Try.prog 61 = some (3, 3) := by kernel_rfl
theorem ty62 : tyI Try.prog 62 = some (1, false, [AV.v (Value.slice none 0 0)]) := by kernel_rfl
theorem sl62 : slI Try.prog 62 = some (67, 2) := by kernel_rfl
theorem ty64 : tyI Try.prog 64 = some (2, true, [AV.v (Value.map none), AV.v (Value.slice none 0 0)]) := by kernel_rfl
theorem st64 : stI Try.prog 64 = some [(0, 1, false), (1, 1, false)] := by kernel_rfl
theorem ty67 : tyI Try.prog 67 = some (2, true, [AV.v (Value.int IntKind.i64 0), AV.v (Value.bool false)]) := by kernel_rfl
theorem st67 : stI Try.prog 67 = some [(0, 1, false), (1, 1, false)] := by kernel_rfl
theorem ty73 : tyI Try.prog 73 = some (1, false, [AV.v (Value.slice none 0 0)]) := by kernel_rfl
theorem sl73 : slI Try.prog 73 = some (91, 3) := by kernel_rfl
theorem ty75 : tyI Try.prog 75 = some (3, true, [AV.v (Value.int IntKind.i64 0), AV.v (Value.slice none 0 0), AV.v (Value.slice none 0 0)]) := by kernel_rfl
theorem st75 : stI Try.prog 75 = some [(0, 1, false), (1, 1, false), (2, 1, false)] := by kernel_rfl
theorem ty91 : tyI Try.prog 91 = some (3, true, [AV.v (Value.int IntKind.i64 0), AV.v (Value.int IntKind.i64 0), AV.v (Value.bool false)]) := by kernel_rfl
theorem st91 : stI Try.prog 91 = some [(0, 1, false), (1, 2, true)] := by kernel_rfl
theorem arn35 : arI Try.prog 35 = none := by kernel_rfl
theorem arn49 : arI Try.prog 49 = none := by kernel_rfl
theorem arn54 : arI Try.prog 54 = none := by kernel_rfl
theorem arn64 : arI Try.prog 64 = none := by kernel_rfl
theorem arn67 : arI Try.prog 67 = none := by kernel_rfl
theorem arn75 : arI Try.prog 75 = none := by kernel_rfl
theorem arn91 : arI Try.prog 91 = none := by kernel_rfl
end Go.Proofs.Ytckppkimjiifpaa

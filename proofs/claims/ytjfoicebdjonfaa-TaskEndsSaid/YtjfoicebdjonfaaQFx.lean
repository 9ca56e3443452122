/- What the program says of its types. No condition. -/
import Derived.Test.YtjfoicebdjonfaaProg
import Derived.Test.YtjfoicebdjonfaaQb2
set_option linter.unusedSectionVars false
set_option linter.unusedVariables false
set_option linter.unusedSimpArgs false
set_option linter.deprecated false
namespace Go.Proofs.Ytjfoicebdjonfaa
open Go.Am
theorem ty3 : tyI Try.prog 3 = some (1, false, [AV.v (Value.int IntKind.i64 0)]) := by kernel_rfl
theorem zv3 : zvI Try.prog 3 = some (AV.v (Value.int IntKind.i64 0)) := by kernel_rfl
theorem ty4 : tyI Try.prog 4 = some (1, false, [AV.v (Value.bool false)]) := by kernel_rfl
theorem ty5 : tyI Try.prog 5 = some (1, false, [AV.v (Value.int IntKind.u8 0)]) := by kernel_rfl
theorem jeq7 {x y : Operand} {cs ds : List AV} {K : Kv} : jbin Try.prog .eql 7 x y (.agg cs) (.agg ds) = (match eqAV [Sc.int IntKind.i64, Sc.int IntKind.i64, Sc.bool, Sc.int IntKind.u8] cs ds with | some b => K.k (.v (.bool (b))) | none => abin Try.prog .eql 7 x y (.agg cs) (.agg ds) K.k) := jbin_agg_eql (by kernel_rfl)
theorem ty22 : tyI Try.prog 22 = some (1, false, [AV.v (Value.slice none 0 0)]) := by kernel_rfl
theorem sl22 : slI Try.prog 22 = some (72, 3) := by kernel_rfl
theorem ty24 : tyI Try.prog 24 = some (1, false, [AV.v (Value.slice none 0 0)]) := by kernel_rfl
theorem sl24 : slI Try.prog 24 = some (31, 1) := by kernel_rfl
theorem ty31 : tyI Try.prog 31 = some (1, false, [AV.v (Value.slice none 0 0)]) := by kernel_rfl
theorem sl31 : slI Try.prog 31 = some (45, 2) := by kernel_rfl
theorem ty45 : tyI Try.prog 45 = some (2, true, [AV.v (Value.int IntKind.i64 0), AV.v (Value.bool false)]) := by kernel_rfl
theorem st45 : stI Try.prog 45 = some [(0, 1, false), (1, 1, false)] := by kernel_rfl
theorem jne45 {x y : Operand} {cs ds : List AV} {K : Kv} : jbin Try.prog .neq 45 x y (.agg cs) (.agg ds) = (match eqAV [Sc.int IntKind.i64, Sc.bool] cs ds with | some b => K.k (.v (.bool (!b))) | none => abin Try.prog .neq 45 x y (.agg cs) (.agg ds) K.k) := jbin_agg_neq (by kernel_rfl)
theorem sl47 : slI Try.prog 47 = some (58, 3) := by kernel_rfl
theorem sl48 : slI Try.prog 48 = some (5, 1) := by kernel_rfl
theorem ty49 : tyI Try.prog 49 = some (1, false, [AV.v (Value.pointer none)]) := by kernel_rfl
theorem ty53 : tyI Try.prog 53 = some (1, false, [AV.v (Value.slice none 0 0)]) := by kernel_rfl
theorem sl53 : slI Try.prog 53 = some (60, 2) := by kernel_rfl
theorem ty55 : tyI Try.prog 55 = some (2, true, [AV.v (Value.pointer none), AV.v (Value.slice none 0 0)]) := by kernel_rfl
theorem st55 : stI Try.prog 55 = some [(0, 1, false), (1, 1, false)] := by kernel_rfl
theorem ty58 : tyI Try.prog 58 = some (3, true, [AV.v (Value.int IntKind.u8 0), AV.v (Value.int IntKind.u8 0), AV.v (Value.slice none 0 0)]) := by kernel_rfl
theorem st58 : stI Try.prog 58 = some [(0, 1, false), (1, 1, false), (2, 1, false)] := by kernel_rfl
theorem ty60 : tyI Try.prog 60 = some (2, true, [AV.v (Value.slice none 0 0), AV.v (Value.int IntKind.i64 0)]) := by kernel_rfl
theorem st60 : stI Try.prog 60 = some [(0, 1, false), (1, 1, false)] := by kernel_rfl
theorem sl61 : slI Try.prog 61 = some (3, 1) := by kernel_rfl
theorem ty70 : tyI Try.prog 70 = some (1, false, [AV.v (Value.int IntKind.i64 0)]) := by kernel_rfl
theorem ty72 : tyI Try.prog 72 = some (3, true, [AV.v (Value.int IntKind.i64 0), AV.v (Value.int IntKind.i64 0), AV.v (Value.bool false)]) := by kernel_rfl
theorem st72 : stI Try.prog 72 = some [(0, 1, false), (1, 2, true)] := by kernel_rfl
theorem ty80 : tyI Try.prog 80 = some (1, false, [AV.v (Value.slice none 0 0)]) := by kernel_rfl
theorem sl80 : slI Try.prog 80 = some (83, 1) := by kernel_rfl
theorem ty82 : tyI Try.prog 82 = some (1, true, [AV.v (Value.slice none 0 0)]) := by kernel_rfl
theorem st82 : stI Try.prog 82 = some [(0, 1, false)] := by kernel_rfl
theorem ty83 : tyI Try.prog 83 = some (1, false, [AV.v (Value.pointer none)]) := by kernel_rfl
theorem ty84 : tyI Try.prog 84 = some (1, false, [AV.v (Value.map none)]) := by kernel_rfl
theorem mp84 : mpI Try.prog 84 = some (3, 3) := by kernel_rfl
theorem ty85 : tyI Try.prog 85 = some (1, false, [AV.v (Value.slice none 0 0)]) := by kernel_rfl
theorem sl85 : slI Try.prog 85 = some (101, 2) := by kernel_rfl
theorem ty87 : tyI Try.prog 87 = some (2, true, [AV.v (Value.map none), AV.v (Value.slice none 0 0)]) := by kernel_rfl
theorem st87 : stI Try.prog 87 = some [(0, 1, false), (1, 1, false)] := by kernel_rfl
theorem ty101 : tyI Try.prog 101 = some (2, true, [AV.v (Value.int IntKind.i64 0), AV.v (Value.bool false)]) := by kernel_rfl
theorem st101 : stI Try.prog 101 = some [(0, 1, false), (1, 1, false)] := by kernel_rfl
theorem arn45 : arI Try.prog 45 = none := by kernel_rfl
theorem arn55 : arI Try.prog 55 = none := by kernel_rfl
theorem arn60 : arI Try.prog 60 = none := by kernel_rfl
theorem arn72 : arI Try.prog 72 = none := by kernel_rfl
theorem arn82 : arI Try.prog 82 = none := by kernel_rfl
theorem arn87 : arI Try.prog 87 = none := by kernel_rfl
theorem arn101 : arI Try.prog 101 = none := by kernel_rfl
end Go.Proofs.Ytjfoicebdjonfaa

/- What the program says of its types. No condition. -/
import Derived.Test.YtelenadhhjeoeaaDoorProg
import Derived.Test.YtelenadhhjeoeaaDoorUv
namespace Go.Proofs.YtelenadhhjeoeaaDoor
open Go.Am
theorem ty1 : tyI Tryd.prog 1 = some (1, false, [AV.v Value.nilFunc]) := by kernel_rfl
theorem ty2 : tyI Tryd.prog 2 = some (1, false, [AV.v (Value.int IntKind.i64 0)]) := by kernel_rfl
theorem ty3 : tyI Tryd.prog 3 = some (1, false, [AV.v (Value.int IntKind.i64 0)]) := by kernel_rfl
theorem ty4 : tyI Tryd.prog 4 = some (1, false, [AV.v (Value.bool false)]) := by kernel_rfl
theorem ty5 : tyI Tryd.prog 5 = some (1, false, [AV.v (Value.int IntKind.u8 0)]) := by kernel_rfl
theorem ty6 : tyI Tryd.prog 6 = some (1, false, [AV.v (Value.int IntKind.u8 0)]) := by kernel_rfl
theorem ty7 : tyI Tryd.prog 7 = some (4, true, [AV.v (Value.int IntKind.i64 0), AV.v (Value.int IntKind.i64 0), AV.v (Value.bool false), AV.v (Value.int IntKind.u8 0)]) := by kernel_rfl
theorem st7 : stI Tryd.prog 7 = some [(0, 1, false), (1, 1, false), (2, 1, false), (3, 1, false)] := by kernel_rfl
theorem ty8 : tyI Tryd.prog 8 = some (4, true, [AV.v (Value.int IntKind.i64 0), AV.v (Value.int IntKind.i64 0), AV.v (Value.bool false), AV.v (Value.int IntKind.u8 0)]) := by kernel_rfl
theorem st8 : stI Tryd.prog 8 = some [(0, 1, false), (1, 1, false), (2, 1, false), (3, 1, false)] := by kernel_rfl
theorem ty9 : tyI Tryd.prog 9 = some (1, false, [AV.v (Value.string ⟨#[]⟩)]) := by kernel_rfl
theorem ty10 : tyI Tryd.prog 10 = some (1, false, [AV.v (Value.string ⟨#[]⟩)]) := by kernel_rfl
theorem ty11 : tyI Tryd.prog 11 = some (1, false, [AV.v (Value.string ⟨#[]⟩)]) := by kernel_rfl
theorem ty12 : tyI Tryd.prog 12 = some (1, false, [AV.v (Value.int IntKind.u64 0)]) := by kernel_rfl
theorem ty13 : tyI Tryd.prog 13 = some (2, true, [AV.v (Value.string ⟨#[]⟩), AV.v (Value.int IntKind.u64 0)]) := by kernel_rfl
theorem st13 : stI Tryd.prog 13 = some [(0, 1, false), (1, 1, false)] := by kernel_rfl
theorem ty14 : tyI Tryd.prog 14 = some (2, true, [AV.v (Value.string ⟨#[]⟩), AV.v (Value.int IntKind.u64 0)]) := by kernel_rfl
theorem st14 : stI Tryd.prog 14 = some [(0, 1, false), (1, 1, false)] := by kernel_rfl
theorem ty15 : tyI Tryd.prog 15 = some (1, false, [AV.v (Value.pointer none)]) := by kernel_rfl
theorem ty16 : tyI Tryd.prog 16 = some (1, false, [AV.v (Value.pointer none)]) := by kernel_rfl
theorem ty17 : tyI Tryd.prog 17 = some (1, false, [AV.v (Value.pointer none)]) := by kernel_rfl
theorem ty18 : tyI Tryd.prog 18 = some (1, true, [AV.v (Value.pointer none)]) := by kernel_rfl
theorem st18 : stI Tryd.prog 18 = some [(0, 1, false)] := by kernel_rfl
theorem ty19 : tyI Tryd.prog 19 = some (1, true, [AV.v (Value.pointer none)]) := by kernel_rfl
theorem st19 : stI Tryd.prog 19 = some [(0, 1, false)] := by kernel_rfl
theorem ty20 : tyI Tryd.prog 20 = some (1, false, [AV.v Value.nilIface]) := by kernel_rfl
theorem ty21 : tyI Tryd.prog 21 = some (1, false, [AV.v (Value.int IntKind.i32 0)]) := by kernel_rfl
theorem ty22 : tyI Tryd.prog 22 = some (1, false, [AV.v (Value.slice none 0 0)]) := by kernel_rfl
theorem sl22 : slI Tryd.prog 22 = some (5, 1) := by kernel_rfl
theorem ty23 : tyI Tryd.prog 23 = some (1, false, [AV.v (Value.slice none 0 0)]) := by kernel_rfl
theorem sl23 : slI Tryd.prog 23 = some (22, 1) := by kernel_rfl
theorem ty24 : tyI Tryd.prog 24 = some (1, false, [AV.v Value.nilFunc]) := by kernel_rfl
theorem ty25 : tyI Tryd.prog 25 = some (1, false, [AV.v (Value.pointer none)]) := by kernel_rfl
theorem ty26 : tyI Tryd.prog 26 = some (1, false, [AV.v Value.nilFunc]) := by kernel_rfl
theorem ty27 : tyI Tryd.prog 27 = some (32, true, (bvs (zeros8 32))) := by kernel_rfl
theorem ar27 : arI Tryd.prog 27 = some (32, 1, false) := by kernel_rfl
theorem ty28 : tyI Tryd.prog 28 = some (1, false, [AV.v Value.nilFunc]) := by kernel_rfl
theorem ty29 : tyI Tryd.prog 29 = some (1, false, [AV.v Value.nilFunc]) := by kernel_rfl
theorem ty30 : tyI Tryd.prog 30 = some (1, false, [AV.v Value.nilFunc]) := by kernel_rfl
theorem ty31 : tyI Tryd.prog 31 = some (1, false, [AV.v Value.nilFunc]) := by kernel_rfl
theorem ty32 : tyI Tryd.prog 32 = some (1, false, [AV.v Value.nilFunc]) := by kernel_rfl
theorem ty33 : tyI Tryd.prog 33 = some (1, false, [AV.v Value.nilFunc]) := by kernel_rfl
theorem ty34 : tyI Tryd.prog 34 = some (1, false, [AV.v Value.nilFunc]) := by kernel_rfl
theorem ty35 : tyI Tryd.prog 35 = some (64, true, (bvs (zeros8 64))) := by kernel_rfl
theorem ar35 : arI Tryd.prog 35 = some (64, 1, false) := by kernel_rfl
theorem ty36 : tyI Tryd.prog 36 = some (64, true, (bvs (zeros8 64))) := by kernel_rfl
theorem ar36 : arI Tryd.prog 36 = some (64, 1, false) := by kernel_rfl
theorem ty37 : tyI Tryd.prog 37 = some (1, false, [AV.v (Value.pointer none)]) := by kernel_rfl
theorem ty38 : tyI Tryd.prog 38 = some (66, true, (bvs (zeros8 64) ++ ([AV.v (Value.pointer none), AV.v (Value.int IntKind.i64 0)]))) := by kernel_rfl
theorem st38 : stI Tryd.prog 38 = some [(0, 64, true), (64, 1, false), (65, 1, false)] := by kernel_rfl
theorem ty39 : tyI Tryd.prog 39 = some (66, true, (bvs (zeros8 64) ++ ([AV.v (Value.pointer none), AV.v (Value.int IntKind.i64 0)]))) := by kernel_rfl
theorem st39 : stI Tryd.prog 39 = some [(0, 64, true), (64, 1, false), (65, 1, false)] := by kernel_rfl
theorem ty40 : tyI Tryd.prog 40 = some (1, false, [AV.v (Value.slice none 0 0)]) := by kernel_rfl
theorem sl40 : slI Tryd.prog 40 = some (25, 1) := by kernel_rfl
theorem ty41 : tyI Tryd.prog 41 = some (1, false, [AV.v Value.nilFunc]) := by kernel_rfl
theorem ty42 : tyI Tryd.prog 42 = some (1, false, [AV.v (Value.int IntKind.u64 0)]) := by kernel_rfl
theorem ty43 : tyI Tryd.prog 43 = some (1, false, [AV.v Value.nilFunc]) := by kernel_rfl
theorem ty44 : tyI Tryd.prog 44 = some (1, false, [AV.v Value.nilFunc]) := by kernel_rfl
theorem ty45 : tyI Tryd.prog 45 = some (1, false, [AV.v Value.nilFunc]) := by kernel_rfl
theorem ty46 : tyI Tryd.prog 46 = some (1, false, [AV.v Value.nilFunc]) := by kernel_rfl
theorem ty47 : tyI Tryd.prog 47 = some (1, false, [AV.v Value.nilFunc]) := by kernel_rfl
theorem ty48 : tyI Tryd.prog 48 = some (1, false, [AV.v Value.nilFunc]) := by kernel_rfl
theorem ty49 : tyI Tryd.prog 49 = some (1, false, [AV.v (Value.int IntKind.i64 0)]) := by kernel_rfl
theorem ty50 : tyI Tryd.prog 50 = some (1, false, [AV.v Value.nilFunc]) := by kernel_rfl
theorem ty51 : tyI Tryd.prog 51 = some (1, false, [AV.v Value.nilFunc]) := by kernel_rfl
theorem ty52 : tyI Tryd.prog 52 = some (1, false, [AV.v Value.nilFunc]) := by kernel_rfl
theorem ty53 : tyI Tryd.prog 53 = some (1, false, [AV.v Value.nilFunc]) := by kernel_rfl
theorem ty54 : tyI Tryd.prog 54 = some (1, false, [AV.v Value.nilFunc]) := by kernel_rfl
theorem ty55 : tyI Tryd.prog 55 = some (1, false, [AV.v Value.nilFunc]) := by kernel_rfl
theorem ty56 : tyI Tryd.prog 56 = some (1, false, [AV.v Value.nilFunc]) := by kernel_rfl
theorem ty57 : tyI Tryd.prog 57 = some (1, false, [AV.v (Value.int IntKind.u64 0)]) := by kernel_rfl
theorem ty58 : tyI Tryd.prog 58 = some (1, false, [AV.v (Value.int IntKind.u32 0)]) := by kernel_rfl
theorem ty59 : tyI Tryd.prog 59 = some (8, true, [AV.v (Value.int IntKind.u32 0), AV.v (Value.int IntKind.u32 0), AV.v (Value.int IntKind.u32 0), AV.v (Value.int IntKind.u32 0), AV.v (Value.int IntKind.u32 0), AV.v (Value.int IntKind.u32 0), AV.v (Value.int IntKind.u32 0), AV.v (Value.int IntKind.u32 0)]) := by kernel_rfl
theorem ar59 : arI Tryd.prog 59 = some (8, 1, false) := by kernel_rfl
theorem ty60 : tyI Tryd.prog 60 = some (1, false, [AV.v Value.nilFunc]) := by kernel_rfl
theorem ty61 : tyI Tryd.prog 61 = some (74, true, (uvs (zeros32 8) ++ (bvs (zeros8 64) ++ ([AV.v (Value.int IntKind.i64 0), AV.v (Value.bool false)])))) := by kernel_rfl
theorem st61 : stI Tryd.prog 61 = some [(0, 8, true), (8, 64, true), (72, 1, false), (73, 1, false)] := by kernel_rfl
theorem ty62 : tyI Tryd.prog 62 = some (74, true, (uvs (zeros32 8) ++ (bvs (zeros8 64) ++ ([AV.v (Value.int IntKind.i64 0), AV.v (Value.bool false)])))) := by kernel_rfl
theorem st62 : stI Tryd.prog 62 = some [(0, 8, true), (8, 64, true), (72, 1, false), (73, 1, false)] := by kernel_rfl
theorem ty63 : tyI Tryd.prog 63 = some (1, false, [AV.v Value.nilFunc]) := by kernel_rfl
theorem ty64 : tyI Tryd.prog 64 = some (1, false, [AV.v Value.nilFunc]) := by kernel_rfl
theorem ty65 : tyI Tryd.prog 65 = some (1, false, [AV.v Value.nilFunc]) := by kernel_rfl
theorem ty66 : tyI Tryd.prog 66 = some (1, false, [AV.v Value.nilFunc]) := by kernel_rfl
theorem ty67 : tyI Tryd.prog 67 = some (8, true, [AV.v (Value.int IntKind.u8 0), AV.v (Value.int IntKind.u8 0), AV.v (Value.int IntKind.u8 0), AV.v (Value.int IntKind.u8 0), AV.v (Value.int IntKind.u8 0), AV.v (Value.int IntKind.u8 0), AV.v (Value.int IntKind.u8 0), AV.v (Value.int IntKind.u8 0)]) := by kernel_rfl
theorem ar67 : arI Tryd.prog 67 = some (8, 1, false) := by kernel_rfl
theorem ty68 : tyI Tryd.prog 68 = some (64, true, (uvs (zeros32 64))) := by kernel_rfl
theorem ar68 : arI Tryd.prog 68 = some (64, 1, false) := by kernel_rfl
theorem ty69 : tyI Tryd.prog 69 = some (1, false, [AV.v Value.nilFunc]) := by kernel_rfl
theorem ty70 : tyI Tryd.prog 70 = some (1, false, [AV.v Value.nilFunc]) := by kernel_rfl
theorem ty71 : tyI Tryd.prog 71 = some (1, false, [AV.v (Value.slice none 0 0)]) := by kernel_rfl
theorem sl71 : slI Tryd.prog 71 = some (58, 1) := by kernel_rfl
theorem ty72 : tyI Tryd.prog 72 = some (1, false, [AV.v Value.nilFunc]) := by kernel_rfl
theorem ty73 : tyI Tryd.prog 73 = some (1, false, [AV.v Value.nilFunc]) := by kernel_rfl
theorem ty74 : tyI Tryd.prog 74 = some (1, false, [AV.v Value.nilFunc]) := by kernel_rfl
theorem ty75 : tyI Tryd.prog 75 = some (4, true, [AV.v (Value.pointer none), AV.v (Value.pointer none), AV.v (Value.pointer none), AV.v (Value.string ⟨#[]⟩)]) := by kernel_rfl
theorem st75 : stI Tryd.prog 75 = some [(0, 1, false), (1, 1, false), (2, 1, false), (3, 1, false)] := by kernel_rfl
theorem ty76 : tyI Tryd.prog 76 = some (4, true, [AV.v (Value.pointer none), AV.v (Value.pointer none), AV.v (Value.pointer none), AV.v (Value.string ⟨#[]⟩)]) := by kernel_rfl
theorem st76 : stI Tryd.prog 76 = some [(0, 1, false), (1, 1, false), (2, 1, false), (3, 1, false)] := by kernel_rfl
theorem ty77 : tyI Tryd.prog 77 = some (0, true, []) := by kernel_rfl
theorem ar77 : arI Tryd.prog 77 = some (0, 1, false) := by kernel_rfl
theorem ty78 : tyI Tryd.prog 78 = some (0, true, []) := by kernel_rfl
theorem st78 : stI Tryd.prog 78 = some [(0, 0, true)] := by kernel_rfl
theorem ty79 : tyI Tryd.prog 79 = some (0, true, []) := by kernel_rfl
theorem st79 : stI Tryd.prog 79 = some [(0, 0, true)] := by kernel_rfl
theorem ty80 : tyI Tryd.prog 80 = some (1, false, [AV.v (Value.int IntKind.u8 0)]) := by kernel_rfl
theorem ty81 : tyI Tryd.prog 81 = some (1, false, [AV.v (Value.int IntKind.u8 0)]) := by kernel_rfl
theorem ty82 : tyI Tryd.prog 82 = some (1, false, [AV.v Value.nilFunc]) := by kernel_rfl
theorem ty83 : tyI Tryd.prog 83 = some (1, false, [AV.v (Value.pointer none)]) := by kernel_rfl
theorem ty84 : tyI Tryd.prog 84 = some (1, false, [AV.v (Value.int IntKind.i32 0)]) := by kernel_rfl
theorem ty85 : tyI Tryd.prog 85 = some (1, false, [AV.v (Value.int IntKind.i32 0)]) := by kernel_rfl
theorem ty86 : tyI Tryd.prog 86 = some (11, true, [AV.v (Value.int IntKind.u64 0), AV.v (Value.int IntKind.u64 0), AV.v (Value.int IntKind.u32 0), AV.v (Value.int IntKind.u8 0), AV.v (Value.int IntKind.u8 0), AV.v (Value.int IntKind.u8 0), AV.v (Value.int IntKind.u8 0), AV.v Value.nilFunc, AV.v (Value.pointer none), AV.v (Value.int IntKind.i32 0), AV.v (Value.int IntKind.i32 0)]) := by kernel_rfl
theorem st86 : stI Tryd.prog 86 = some [(0, 1, false), (1, 1, false), (2, 1, false), (3, 1, false), (4, 1, false), (5, 1, false), (6, 1, false), (7, 1, false), (8, 1, false), (9, 1, false), (10, 1, false)] := by kernel_rfl
theorem ty87 : tyI Tryd.prog 87 = some (11, true, [AV.v (Value.int IntKind.u64 0), AV.v (Value.int IntKind.u64 0), AV.v (Value.int IntKind.u32 0), AV.v (Value.int IntKind.u8 0), AV.v (Value.int IntKind.u8 0), AV.v (Value.int IntKind.u8 0), AV.v (Value.int IntKind.u8 0), AV.v Value.nilFunc, AV.v (Value.pointer none), AV.v (Value.int IntKind.i32 0), AV.v (Value.int IntKind.i32 0)]) := by kernel_rfl
theorem st87 : stI Tryd.prog 87 = some [(0, 1, false), (1, 1, false), (2, 1, false), (3, 1, false), (4, 1, false), (5, 1, false), (6, 1, false), (7, 1, false), (8, 1, false), (9, 1, false), (10, 1, false)] := by kernel_rfl
theorem ty88 : tyI Tryd.prog 88 = some (1, false, [AV.v (Value.pointer none)]) := by kernel_rfl
theorem arn7 : arI Tryd.prog 7 = none := by kernel_rfl
theorem arn8 : arI Tryd.prog 8 = none := by kernel_rfl
theorem arn13 : arI Tryd.prog 13 = none := by kernel_rfl
theorem arn14 : arI Tryd.prog 14 = none := by kernel_rfl
theorem arn18 : arI Tryd.prog 18 = none := by kernel_rfl
theorem arn19 : arI Tryd.prog 19 = none := by kernel_rfl
theorem arn38 : arI Tryd.prog 38 = none := by kernel_rfl
theorem arn39 : arI Tryd.prog 39 = none := by kernel_rfl
theorem arn61 : arI Tryd.prog 61 = none := by kernel_rfl
theorem arn62 : arI Tryd.prog 62 = none := by kernel_rfl
theorem arn75 : arI Tryd.prog 75 = none := by kernel_rfl
theorem arn76 : arI Tryd.prog 76 = none := by kernel_rfl
theorem arn78 : arI Tryd.prog 78 = none := by kernel_rfl
theorem arn79 : arI Tryd.prog 79 = none := by kernel_rfl
theorem arn86 : arI Tryd.prog 86 = none := by kernel_rfl
theorem arn87 : arI Tryd.prog 87 = none := by kernel_rfl
theorem stn27 : stI Tryd.prog 27 = none := by kernel_rfl
theorem stn35 : stI Tryd.prog 35 = none := by kernel_rfl
theorem stn36 : stI Tryd.prog 36 = none := by kernel_rfl
theorem stn59 : stI Tryd.prog 59 = none := by kernel_rfl
theorem stn67 : stI Tryd.prog 67 = none := by kernel_rfl
theorem stn68 : stI Tryd.prog 68 = none := by kernel_rfl
theorem stn77 : stI Tryd.prog 77 = none := by kernel_rfl
end Go.Proofs.YtelenadhhjeoeaaDoor

/- What the program says of its types. No condition. -/
import Derived.Test.YtbiikekemaggaaaDoorProg
import Derived.Test.YtbiikekemaggaaaDoorUv
namespace Go.Proofs.YtbiikekemaggaaaDoor
open Go.Am
theorem ty1 : tyI Tryd.prog 1 = some (1, false, [AV.v Value.nilFunc]) := by kernel_rfl
theorem ty2 : tyI Tryd.prog 2 = some (1, false, [AV.v (Value.int IntKind.i64 0)]) := by kernel_rfl
theorem ty3 : tyI Tryd.prog 3 = some (1, false, [AV.v (Value.int IntKind.i64 0)]) := by kernel_rfl
theorem ty4 : tyI Tryd.prog 4 = some (1, false, [AV.v (Value.bool false)]) := by kernel_rfl
theorem ty5 : tyI Tryd.prog 5 = some (1, false, [AV.v (Value.int IntKind.u8 0)]) := by kernel_rfl
theorem ty6 : tyI Tryd.prog 6 = some (1, false, [AV.v (Value.int IntKind.u8 0)]) := by kernel_rfl
theorem ty7 : tyI Tryd.prog 7 = some (4, true, [AV.v (Value.int IntKind.i64 0), AV.v (Value.int IntKind.i64 0), AV.v (Value.bool false), AV.v (Value.int IntKind.u8 0)]) := by kernel_rfl
theorem st7 : stI Tryd.prog 7 = some [(0, 1, false), (1, 1, false), (2, 1, false), (3, 1, false)] := by kernel_rfl
theorem ty8 : tyI Tryd.prog 8 = some (4, true, [AV.v (Value.int IntKind.i64 0), AV.v (Value.int IntKind.i64 0), AV.v (Value.bool false), AV.v (Value.int IntKind.u8 0)]) := by kernel_rfl
theorem st8 : stI Tryd.prog 8 = some [(0, 1, false), (1, 1, false), (2, 1, false), (3, 1, false)] := by kernel_rfl
theorem ty9 : tyI Tryd.prog 9 = some (1, false, [AV.v (Value.string ⟨#[]⟩)]) := by kernel_rfl
theorem ty10 : tyI Tryd.prog 10 = some (1, false, [AV.v (Value.string ⟨#[]⟩)]) := by kernel_rfl
theorem ty11 : tyI Tryd.prog 11 = some (1, false, [AV.v (Value.string ⟨#[]⟩)]) := by kernel_rfl
theorem ty12 : tyI Tryd.prog 12 = some (1, false, [AV.v (Value.int IntKind.u64 0)]) := by kernel_rfl
theorem ty13 : tyI Tryd.prog 13 = some (2, true, [AV.v (Value.string ⟨#[]⟩), AV.v (Value.int IntKind.u64 0)]) := by kernel_rfl
theorem st13 : stI Tryd.prog 13 = some [(0, 1, false), (1, 1, false)] := by kernel_rfl
theorem ty14 : tyI Tryd.prog 14 = some (2, true, [AV.v (Value.string ⟨#[]⟩), AV.v (Value.int IntKind.u64 0)]) := by kernel_rfl
theorem st14 : stI Tryd.prog 14 = some [(0, 1, false), (1, 1, false)] := by kernel_rfl
theorem ty15 : tyI Tryd.prog 15 = some (1, false, [AV.v (Value.pointer none)]) := by kernel_rfl
theorem ty16 : tyI Tryd.prog 16 = some (1, false, [AV.v (Value.pointer none)]) := by kernel_rfl
theorem ty17 : tyI Tryd.prog 17 = some (1, false, [AV.v (Value.pointer none)]) := by kernel_rfl
theorem ty18 : tyI Tryd.prog 18 = some (1, true, [AV.v (Value.pointer none)]) := by kernel_rfl
theorem st18 : stI Tryd.prog 18 = some [(0, 1, false)] := by kernel_rfl
theorem ty19 : tyI Tryd.prog 19 = some (1, true, [AV.v (Value.pointer none)]) := by kernel_rfl
theorem st19 : stI Tryd.prog 19 = some [(0, 1, false)] := by kernel_rfl
theorem ty20 : tyI Tryd.prog 20 = some (1, false, [AV.v Value.nilIface]) := by kernel_rfl
theorem ty21 : tyI Tryd.prog 21 = some (1, false, [AV.v (Value.int IntKind.i32 0)]) := by kernel_rfl
theorem ty22 : tyI Tryd.prog 22 = some (1, false, [AV.v (Value.slice none 0 0)]) := by kernel_rfl
theorem sl22 : slI Tryd.prog 22 = some (5, 1) := by kernel_rfl
theorem ty23 : tyI Tryd.prog 23 = some (2, true, [AV.v (Value.slice none 0 0), AV.v (Value.int IntKind.i64 0)]) := by kernel_rfl
theorem st23 : stI Tryd.prog 23 = some [(0, 1, false), (1, 1, false)] := by kernel_rfl
theorem ty24 : tyI Tryd.prog 24 = some (2, true, [AV.v (Value.slice none 0 0), AV.v (Value.int IntKind.i64 0)]) := by kernel_rfl
theorem st24 : stI Tryd.prog 24 = some [(0, 1, false), (1, 1, false)] := by kernel_rfl
theorem ty25 : tyI Tryd.prog 25 = some (6, true, [AV.v (Value.int IntKind.u8 0), AV.v (Value.int IntKind.u8 0), AV.v (Value.int IntKind.u8 0), AV.v (Value.int IntKind.u8 0), AV.v (Value.int IntKind.u8 0), AV.v (Value.int IntKind.u8 0)]) := by kernel_rfl
theorem ar25 : arI Tryd.prog 25 = some (6, 1, false) := by kernel_rfl
theorem ty26 : tyI Tryd.prog 26 = some (6, true, [AV.v (Value.int IntKind.u8 0), AV.v (Value.int IntKind.u8 0), AV.v (Value.int IntKind.u8 0), AV.v (Value.int IntKind.u8 0), AV.v (Value.int IntKind.u8 0), AV.v (Value.int IntKind.u8 0)]) := by kernel_rfl
theorem ar26 : arI Tryd.prog 26 = some (6, 1, false) := by kernel_rfl
theorem ty27 : tyI Tryd.prog 27 = some (1, false, [AV.v Value.nilFunc]) := by kernel_rfl
theorem ty28 : tyI Tryd.prog 28 = some (1, false, [AV.v Value.nilFunc]) := by kernel_rfl
theorem ty29 : tyI Tryd.prog 29 = some (1, false, [AV.v (Value.int IntKind.i64 0)]) := by kernel_rfl
theorem ty31 : tyI Tryd.prog 31 = some (1, false, [AV.v Value.nilFunc]) := by kernel_rfl
theorem ty33 : tyI Tryd.prog 33 = some (1, false, [AV.v Value.nilFunc]) := by kernel_rfl
theorem ty35 : tyI Tryd.prog 35 = some (1, false, [AV.v Value.nilFunc]) := by kernel_rfl
theorem ty37 : tyI Tryd.prog 37 = some (1, false, [AV.v Value.nilFunc]) := by kernel_rfl
theorem ty38 : tyI Tryd.prog 38 = some (1, false, [AV.v Value.nilFunc]) := by kernel_rfl
theorem ty39 : tyI Tryd.prog 39 = some (1, false, [AV.v Value.nilFunc]) := by kernel_rfl
theorem ty40 : tyI Tryd.prog 40 = some (1, false, [AV.v Value.nilFunc]) := by kernel_rfl
theorem ty41 : tyI Tryd.prog 41 = some (1, false, [AV.v Value.nilFunc]) := by kernel_rfl
theorem ty42 : tyI Tryd.prog 42 = some (1, false, [AV.v Value.nilFunc]) := by kernel_rfl
theorem ty43 : tyI Tryd.prog 43 = some (1, false, [AV.v (Value.int IntKind.u64 0)]) := by kernel_rfl
theorem ty44 : tyI Tryd.prog 44 = some (1, false, [AV.v Value.nilFunc]) := by kernel_rfl
theorem ty45 : tyI Tryd.prog 45 = some (1, false, [AV.v Value.nilFunc]) := by kernel_rfl
theorem ty46 : tyI Tryd.prog 46 = some (8, true, [AV.v (Value.slice none 0 0), AV.v (Value.int IntKind.u8 0), AV.v (Value.int IntKind.u8 0), AV.v (Value.int IntKind.u8 0), AV.v (Value.int IntKind.u8 0), AV.v (Value.int IntKind.u8 0), AV.v (Value.int IntKind.u8 0), AV.v (Value.slice none 0 0)]) := by kernel_rfl
theorem st46 : stI Tryd.prog 46 = some [(0, 1, false), (1, 6, true), (7, 1, false)] := by kernel_rfl
theorem ty47 : tyI Tryd.prog 47 = some (8, true, [AV.v (Value.slice none 0 0), AV.v (Value.int IntKind.u8 0), AV.v (Value.int IntKind.u8 0), AV.v (Value.int IntKind.u8 0), AV.v (Value.int IntKind.u8 0), AV.v (Value.int IntKind.u8 0), AV.v (Value.int IntKind.u8 0), AV.v (Value.slice none 0 0)]) := by kernel_rfl
theorem st47 : stI Tryd.prog 47 = some [(0, 1, false), (1, 6, true), (7, 1, false)] := by kernel_rfl
theorem ty49 : tyI Tryd.prog 49 = some (1, false, [AV.v Value.nilFunc]) := by kernel_rfl
theorem ty50 : tyI Tryd.prog 50 = some (1, false, [AV.v Value.nilFunc]) := by kernel_rfl
theorem ty51 : tyI Tryd.prog 51 = some (1, false, [AV.v Value.nilFunc]) := by kernel_rfl
theorem ty52 : tyI Tryd.prog 52 = some (1, false, [AV.v Value.nilFunc]) := by kernel_rfl
theorem ty53 : tyI Tryd.prog 53 = some (1, false, [AV.v (Value.pointer none)]) := by kernel_rfl
theorem ty54 : tyI Tryd.prog 54 = some (1, false, [AV.v Value.nilFunc]) := by kernel_rfl
theorem ty55 : tyI Tryd.prog 55 = some (1, false, [AV.v Value.nilFunc]) := by kernel_rfl
theorem ty56 : tyI Tryd.prog 56 = some (1, false, [AV.v Value.nilFunc]) := by kernel_rfl
theorem ty57 : tyI Tryd.prog 57 = some (1, false, [AV.v Value.nilFunc]) := by kernel_rfl
theorem ty58 : tyI Tryd.prog 58 = some (1, false, [AV.v (Value.int IntKind.u64 0)]) := by kernel_rfl
theorem ty59 : tyI Tryd.prog 59 = some (32, true, (bvs (zeros8 32))) := by kernel_rfl
theorem ar59 : arI Tryd.prog 59 = some (32, 1, false) := by kernel_rfl
theorem ty60 : tyI Tryd.prog 60 = some (1, false, [AV.v Value.nilFunc]) := by kernel_rfl
theorem ty61 : tyI Tryd.prog 61 = some (1, false, [AV.v Value.nilFunc]) := by kernel_rfl
theorem ty62 : tyI Tryd.prog 62 = some (1, false, [AV.v Value.nilFunc]) := by kernel_rfl
theorem ty63 : tyI Tryd.prog 63 = some (64, true, (bvs (zeros8 64))) := by kernel_rfl
theorem ar63 : arI Tryd.prog 63 = some (64, 1, false) := by kernel_rfl
theorem ty64 : tyI Tryd.prog 64 = some (64, true, (bvs (zeros8 64))) := by kernel_rfl
theorem ar64 : arI Tryd.prog 64 = some (64, 1, false) := by kernel_rfl
theorem ty65 : tyI Tryd.prog 65 = some (1, false, [AV.v Value.nilFunc]) := by kernel_rfl
theorem ty66 : tyI Tryd.prog 66 = some (1, false, [AV.v (Value.pointer none)]) := by kernel_rfl
theorem ty67 : tyI Tryd.prog 67 = some (1, false, [AV.v Value.nilFunc]) := by kernel_rfl
theorem ty68 : tyI Tryd.prog 68 = some (66, true, (bvs (zeros8 64) ++ ([AV.v (Value.pointer none), AV.v (Value.int IntKind.i64 0)]))) := by kernel_rfl
theorem st68 : stI Tryd.prog 68 = some [(0, 64, true), (64, 1, false), (65, 1, false)] := by kernel_rfl
theorem ty69 : tyI Tryd.prog 69 = some (66, true, (bvs (zeros8 64) ++ ([AV.v (Value.pointer none), AV.v (Value.int IntKind.i64 0)]))) := by kernel_rfl
theorem st69 : stI Tryd.prog 69 = some [(0, 64, true), (64, 1, false), (65, 1, false)] := by kernel_rfl
theorem ty70 : tyI Tryd.prog 70 = some (1, false, [AV.v Value.nilFunc]) := by kernel_rfl
theorem ty71 : tyI Tryd.prog 71 = some (1, false, [AV.v Value.nilFunc]) := by kernel_rfl
theorem ty72 : tyI Tryd.prog 72 = some (1, false, [AV.v Value.nilFunc]) := by kernel_rfl
theorem ty73 : tyI Tryd.prog 73 = some (8, true, [AV.v (Value.int IntKind.u8 0), AV.v (Value.int IntKind.u8 0), AV.v (Value.int IntKind.u8 0), AV.v (Value.int IntKind.u8 0), AV.v (Value.int IntKind.u8 0), AV.v (Value.int IntKind.u8 0), AV.v (Value.int IntKind.u8 0), AV.v (Value.int IntKind.u8 0)]) := by kernel_rfl
theorem ar73 : arI Tryd.prog 73 = some (8, 1, false) := by kernel_rfl
theorem ty74 : tyI Tryd.prog 74 = some (1, false, [AV.v Value.nilFunc]) := by kernel_rfl
theorem ty75 : tyI Tryd.prog 75 = some (1, false, [AV.v Value.nilFunc]) := by kernel_rfl
theorem ty76 : tyI Tryd.prog 76 = some (1, false, [AV.v (Value.int IntKind.u32 0)]) := by kernel_rfl
theorem ty77 : tyI Tryd.prog 77 = some (8, true, [AV.v (Value.int IntKind.u32 0), AV.v (Value.int IntKind.u32 0), AV.v (Value.int IntKind.u32 0), AV.v (Value.int IntKind.u32 0), AV.v (Value.int IntKind.u32 0), AV.v (Value.int IntKind.u32 0), AV.v (Value.int IntKind.u32 0), AV.v (Value.int IntKind.u32 0)]) := by kernel_rfl
theorem ar77 : arI Tryd.prog 77 = some (8, 1, false) := by kernel_rfl
theorem ty78 : tyI Tryd.prog 78 = some (1, false, [AV.v Value.nilFunc]) := by kernel_rfl
theorem ty79 : tyI Tryd.prog 79 = some (74, true, (uvs (zeros32 8) ++ (bvs (zeros8 64) ++ ([AV.v (Value.int IntKind.i64 0), AV.v (Value.bool false)])))) := by kernel_rfl
theorem st79 : stI Tryd.prog 79 = some [(0, 8, true), (8, 64, true), (72, 1, false), (73, 1, false)] := by kernel_rfl
theorem ty80 : tyI Tryd.prog 80 = some (74, true, (uvs (zeros32 8) ++ (bvs (zeros8 64) ++ ([AV.v (Value.int IntKind.i64 0), AV.v (Value.bool false)])))) := by kernel_rfl
theorem st80 : stI Tryd.prog 80 = some [(0, 8, true), (8, 64, true), (72, 1, false), (73, 1, false)] := by kernel_rfl
theorem ty81 : tyI Tryd.prog 81 = some (1, false, [AV.v Value.nilFunc]) := by kernel_rfl
theorem ty82 : tyI Tryd.prog 82 = some (1, false, [AV.v Value.nilFunc]) := by kernel_rfl
theorem ty83 : tyI Tryd.prog 83 = some (64, true, (uvs (zeros32 64))) := by kernel_rfl
theorem ar83 : arI Tryd.prog 83 = some (64, 1, false) := by kernel_rfl
theorem ty84 : tyI Tryd.prog 84 = some (1, false, [AV.v Value.nilFunc]) := by kernel_rfl
theorem ty85 : tyI Tryd.prog 85 = some (1, false, [AV.v Value.nilFunc]) := by kernel_rfl
theorem ty86 : tyI Tryd.prog 86 = some (1, false, [AV.v (Value.slice none 0 0)]) := by kernel_rfl
theorem sl86 : slI Tryd.prog 86 = some (76, 1) := by kernel_rfl
theorem ty87 : tyI Tryd.prog 87 = some (1, false, [AV.v Value.nilFunc]) := by kernel_rfl
theorem ty88 : tyI Tryd.prog 88 = some (1, false, [AV.v Value.nilFunc]) := by kernel_rfl
theorem ty89 : tyI Tryd.prog 89 = some (1, false, [AV.v Value.nilFunc]) := by kernel_rfl
theorem ty90 : tyI Tryd.prog 90 = some (4, true, [AV.v (Value.pointer none), AV.v (Value.pointer none), AV.v (Value.pointer none), AV.v (Value.string ⟨#[]⟩)]) := by kernel_rfl
theorem st90 : stI Tryd.prog 90 = some [(0, 1, false), (1, 1, false), (2, 1, false), (3, 1, false)] := by kernel_rfl
theorem ty91 : tyI Tryd.prog 91 = some (4, true, [AV.v (Value.pointer none), AV.v (Value.pointer none), AV.v (Value.pointer none), AV.v (Value.string ⟨#[]⟩)]) := by kernel_rfl
theorem st91 : stI Tryd.prog 91 = some [(0, 1, false), (1, 1, false), (2, 1, false), (3, 1, false)] := by kernel_rfl
theorem ty92 : tyI Tryd.prog 92 = some (0, true, []) := by kernel_rfl
theorem ar92 : arI Tryd.prog 92 = some (0, 1, false) := by kernel_rfl
theorem ty93 : tyI Tryd.prog 93 = some (0, true, []) := by kernel_rfl
theorem st93 : stI Tryd.prog 93 = some [(0, 0, true)] := by kernel_rfl
theorem ty94 : tyI Tryd.prog 94 = some (0, true, []) := by kernel_rfl
theorem st94 : stI Tryd.prog 94 = some [(0, 0, true)] := by kernel_rfl
theorem ty95 : tyI Tryd.prog 95 = some (1, false, [AV.v Value.nilFunc]) := by kernel_rfl
theorem ty96 : tyI Tryd.prog 96 = some (1, false, [AV.v (Value.int IntKind.u8 0)]) := by kernel_rfl
theorem ty97 : tyI Tryd.prog 97 = some (1, false, [AV.v (Value.int IntKind.u8 0)]) := by kernel_rfl
theorem ty98 : tyI Tryd.prog 98 = some (1, false, [AV.v Value.nilFunc]) := by kernel_rfl
theorem ty99 : tyI Tryd.prog 99 = some (1, false, [AV.v (Value.pointer none)]) := by kernel_rfl
theorem ty100 : tyI Tryd.prog 100 = some (1, false, [AV.v (Value.int IntKind.i32 0)]) := by kernel_rfl
theorem ty101 : tyI Tryd.prog 101 = some (1, false, [AV.v (Value.int IntKind.i32 0)]) := by kernel_rfl
theorem ty102 : tyI Tryd.prog 102 = some (11, true, [AV.v (Value.int IntKind.u64 0), AV.v (Value.int IntKind.u64 0), AV.v (Value.int IntKind.u32 0), AV.v (Value.int IntKind.u8 0), AV.v (Value.int IntKind.u8 0), AV.v (Value.int IntKind.u8 0), AV.v (Value.int IntKind.u8 0), AV.v Value.nilFunc, AV.v (Value.pointer none), AV.v (Value.int IntKind.i32 0), AV.v (Value.int IntKind.i32 0)]) := by kernel_rfl
theorem st102 : stI Tryd.prog 102 = some [(0, 1, false), (1, 1, false), (2, 1, false), (3, 1, false), (4, 1, false), (5, 1, false), (6, 1, false), (7, 1, false), (8, 1, false), (9, 1, false), (10, 1, false)] := by kernel_rfl
theorem ty103 : tyI Tryd.prog 103 = some (11, true, [AV.v (Value.int IntKind.u64 0), AV.v (Value.int IntKind.u64 0), AV.v (Value.int IntKind.u32 0), AV.v (Value.int IntKind.u8 0), AV.v (Value.int IntKind.u8 0), AV.v (Value.int IntKind.u8 0), AV.v (Value.int IntKind.u8 0), AV.v Value.nilFunc, AV.v (Value.pointer none), AV.v (Value.int IntKind.i32 0), AV.v (Value.int IntKind.i32 0)]) := by kernel_rfl
theorem st103 : stI Tryd.prog 103 = some [(0, 1, false), (1, 1, false), (2, 1, false), (3, 1, false), (4, 1, false), (5, 1, false), (6, 1, false), (7, 1, false), (8, 1, false), (9, 1, false), (10, 1, false)] := by kernel_rfl
theorem ty104 : tyI Tryd.prog 104 = some (1, false, [AV.v (Value.pointer none)]) := by kernel_rfl
theorem arn7 : arI Tryd.prog 7 = none := by kernel_rfl
theorem arn8 : arI Tryd.prog 8 = none := by kernel_rfl
theorem arn13 : arI Tryd.prog 13 = none := by kernel_rfl
theorem arn14 : arI Tryd.prog 14 = none := by kernel_rfl
theorem arn18 : arI Tryd.prog 18 = none := by kernel_rfl
theorem arn19 : arI Tryd.prog 19 = none := by kernel_rfl
theorem arn23 : arI Tryd.prog 23 = none := by kernel_rfl
theorem arn24 : arI Tryd.prog 24 = none := by kernel_rfl
theorem arn46 : arI Tryd.prog 46 = none := by kernel_rfl
theorem arn47 : arI Tryd.prog 47 = none := by kernel_rfl
theorem arn68 : arI Tryd.prog 68 = none := by kernel_rfl
theorem arn69 : arI Tryd.prog 69 = none := by kernel_rfl
theorem arn79 : arI Tryd.prog 79 = none := by kernel_rfl
theorem arn80 : arI Tryd.prog 80 = none := by kernel_rfl
theorem arn90 : arI Tryd.prog 90 = none := by kernel_rfl
theorem arn91 : arI Tryd.prog 91 = none := by kernel_rfl
theorem arn93 : arI Tryd.prog 93 = none := by kernel_rfl
theorem arn94 : arI Tryd.prog 94 = none := by kernel_rfl
theorem arn102 : arI Tryd.prog 102 = none := by kernel_rfl
theorem arn103 : arI Tryd.prog 103 = none := by kernel_rfl
theorem stn25 : stI Tryd.prog 25 = none := by kernel_rfl
theorem stn26 : stI Tryd.prog 26 = none := by kernel_rfl
theorem stn59 : stI Tryd.prog 59 = none := by kernel_rfl
theorem stn63 : stI Tryd.prog 63 = none := by kernel_rfl
theorem stn64 : stI Tryd.prog 64 = none := by kernel_rfl
theorem stn73 : stI Tryd.prog 73 = none := by kernel_rfl
theorem stn77 : stI Tryd.prog 77 = none := by kernel_rfl
theorem stn83 : stI Tryd.prog 83 = none := by kernel_rfl
theorem stn92 : stI Tryd.prog 92 = none := by kernel_rfl
end Go.Proofs.YtbiikekemaggaaaDoor

/- What the program says of its types. No condition. -/
import Derived.Test.YtegfopnjochidaaDoorProg
import Derived.Test.YtegfopnjochidaaDoorUv
namespace Go.Proofs.YtegfopnjochidaaDoor
open Go.Am
theorem ty1 : tyI Tryd.prog 1 = some (1, false, [AV.v Value.nilFunc]) := by kernel_rfl
theorem ty2 : tyI Tryd.prog 2 = some (1, false, [AV.v (Value.int IntKind.i64 0)]) := by kernel_rfl
theorem ty3 : tyI Tryd.prog 3 = some (1, false, [AV.v (Value.int IntKind.i64 0)]) := by kernel_rfl
theorem ty4 : tyI Tryd.prog 4 = some (1, false, [AV.v (Value.bool false)]) := by kernel_rfl
theorem ty5 : tyI Tryd.prog 5 = some (1, false, [AV.v (Value.int IntKind.u8 0)]) := by kernel_rfl
theorem ty6 : tyI Tryd.prog 6 = some (1, false, [AV.v (Value.int IntKind.u8 0)]) := by kernel_rfl
theorem ty7 : tyI Tryd.prog 7 = some (4, true, [AV.v (Value.int IntKind.i64 0), AV.v (Value.int IntKind.i64 0), AV.v (Value.bool false), AV.v (Value.int IntKind.u8 0)]) := by kernel_rfl
theorem st7 : stI Tryd.prog 7 = some [(0, 1, false), (1, 1, false), (2, 1, false), (3, 1, false)] := by kernel_rfl
theorem ty8 : tyI Tryd.prog 8 = some (4, true, [AV.v (Value.int IntKind.i64 0), AV.v (Value.int IntKind.i64 0), AV.v (Value.bool false), AV.v (Value.int IntKind.u8 0)]) := by kernel_rfl
theorem st8 : stI Tryd.prog 8 = some [(0, 1, false), (1, 1, false), (2, 1, false), (3, 1, false)] := by kernel_rfl
theorem ty9 : tyI Tryd.prog 9 = some (1, false, [AV.v (Value.string ⟨#[]⟩)]) := by kernel_rfl
theorem ty10 : tyI Tryd.prog 10 = some (1, false, [AV.v (Value.string ⟨#[]⟩)]) := by kernel_rfl
theorem ty11 : tyI Tryd.prog 11 = some (1, false, [AV.v (Value.string ⟨#[]⟩)]) := by kernel_rfl
theorem ty12 : tyI Tryd.prog 12 = some (1, false, [AV.v (Value.int IntKind.u64 0)]) := by kernel_rfl
theorem ty13 : tyI Tryd.prog 13 = some (2, true, [AV.v (Value.string ⟨#[]⟩), AV.v (Value.int IntKind.u64 0)]) := by kernel_rfl
theorem st13 : stI Tryd.prog 13 = some [(0, 1, false), (1, 1, false)] := by kernel_rfl
theorem ty14 : tyI Tryd.prog 14 = some (2, true, [AV.v (Value.string ⟨#[]⟩), AV.v (Value.int IntKind.u64 0)]) := by kernel_rfl
theorem st14 : stI Tryd.prog 14 = some [(0, 1, false), (1, 1, false)] := by kernel_rfl
theorem ty15 : tyI Tryd.prog 15 = some (1, false, [AV.v (Value.pointer none)]) := by kernel_rfl
theorem ty16 : tyI Tryd.prog 16 = some (1, false, [AV.v (Value.pointer none)]) := by kernel_rfl
theorem ty17 : tyI Tryd.prog 17 = some (1, false, [AV.v (Value.pointer none)]) := by kernel_rfl
theorem ty18 : tyI Tryd.prog 18 = some (1, true, [AV.v (Value.pointer none)]) := by kernel_rfl
theorem st18 : stI Tryd.prog 18 = some [(0, 1, false)] := by kernel_rfl
theorem ty19 : tyI Tryd.prog 19 = some (1, true, [AV.v (Value.pointer none)]) := by kernel_rfl
theorem st19 : stI Tryd.prog 19 = some [(0, 1, false)] := by kernel_rfl
theorem ty20 : tyI Tryd.prog 20 = some (1, false, [AV.v Value.nilIface]) := by kernel_rfl
theorem ty21 : tyI Tryd.prog 21 = some (1, false, [AV.v (Value.int IntKind.i32 0)]) := by kernel_rfl
theorem ty22 : tyI Tryd.prog 22 = some (1, false, [AV.v (Value.int IntKind.u32 0)]) := by kernel_rfl
theorem ty23 : tyI Tryd.prog 23 = some (8, true, [AV.v (Value.int IntKind.u32 0), AV.v (Value.int IntKind.u32 0), AV.v (Value.int IntKind.u32 0), AV.v (Value.int IntKind.u32 0), AV.v (Value.int IntKind.u32 0), AV.v (Value.int IntKind.u32 0), AV.v (Value.int IntKind.u32 0), AV.v (Value.int IntKind.u32 0)]) := by kernel_rfl
theorem ar23 : arI Tryd.prog 23 = some (8, 1, false) := by kernel_rfl
theorem ty24 : tyI Tryd.prog 24 = some (64, true, (bvs (zeros8 64))) := by kernel_rfl
theorem ar24 : arI Tryd.prog 24 = some (64, 1, false) := by kernel_rfl
theorem ty25 : tyI Tryd.prog 25 = some (1, false, [AV.v Value.nilFunc]) := by kernel_rfl
theorem ty26 : tyI Tryd.prog 26 = some (1, false, [AV.v Value.nilFunc]) := by kernel_rfl
theorem ty27 : tyI Tryd.prog 27 = some (1, false, [AV.v Value.nilFunc]) := by kernel_rfl
theorem ty28 : tyI Tryd.prog 28 = some (1, false, [AV.v Value.nilFunc]) := by kernel_rfl
theorem ty29 : tyI Tryd.prog 29 = some (1, false, [AV.v (Value.slice none 0 0)]) := by kernel_rfl
theorem sl29 : slI Tryd.prog 29 = some (5, 1) := by kernel_rfl
theorem ty30 : tyI Tryd.prog 30 = some (1, false, [AV.v Value.nilFunc]) := by kernel_rfl
theorem ty31 : tyI Tryd.prog 31 = some (1, false, [AV.v Value.nilFunc]) := by kernel_rfl
theorem ty32 : tyI Tryd.prog 32 = some (1, false, [AV.v Value.nilFunc]) := by kernel_rfl
theorem ty33 : tyI Tryd.prog 33 = some (32, true, (bvs (zeros8 32))) := by kernel_rfl
theorem ar33 : arI Tryd.prog 33 = some (32, 1, false) := by kernel_rfl
theorem ty34 : tyI Tryd.prog 34 = some (1, false, [AV.v Value.nilFunc]) := by kernel_rfl
theorem ty35 : tyI Tryd.prog 35 = some (1, false, [AV.v Value.nilFunc]) := by kernel_rfl
theorem ty36 : tyI Tryd.prog 36 = some (1, false, [AV.v Value.nilFunc]) := by kernel_rfl
theorem ty37 : tyI Tryd.prog 37 = some (1, false, [AV.v (Value.int IntKind.u64 0)]) := by kernel_rfl
theorem ty38 : tyI Tryd.prog 38 = some (1, false, [AV.v (Value.slice none 0 0)]) := by kernel_rfl
theorem sl38 : slI Tryd.prog 38 = some (29, 1) := by kernel_rfl
theorem ty39 : tyI Tryd.prog 39 = some (1, false, [AV.v (Value.pointer none)]) := by kernel_rfl
theorem ty40 : tyI Tryd.prog 40 = some (1, false, [AV.v Value.nilFunc]) := by kernel_rfl
theorem ty41 : tyI Tryd.prog 41 = some (1, false, [AV.v (Value.int IntKind.i64 0)]) := by kernel_rfl
theorem ty42 : tyI Tryd.prog 42 = some (1, false, [AV.v Value.nilFunc]) := by kernel_rfl
theorem ty43 : tyI Tryd.prog 43 = some (1, false, [AV.v Value.nilFunc]) := by kernel_rfl
theorem ty44 : tyI Tryd.prog 44 = some (1, false, [AV.v Value.nilFunc]) := by kernel_rfl
theorem ty45 : tyI Tryd.prog 45 = some (1, false, [AV.v Value.nilFunc]) := by kernel_rfl
theorem ty46 : tyI Tryd.prog 46 = some (1, false, [AV.v Value.nilFunc]) := by kernel_rfl
theorem ty47 : tyI Tryd.prog 47 = some (74, true, (uvs (zeros32 8) ++ (bvs (zeros8 64) ++ ([AV.v (Value.int IntKind.i64 0), AV.v (Value.bool false)])))) := by kernel_rfl
theorem st47 : stI Tryd.prog 47 = some [(0, 8, true), (8, 64, true), (72, 1, false), (73, 1, false)] := by kernel_rfl
theorem ty48 : tyI Tryd.prog 48 = some (74, true, (uvs (zeros32 8) ++ (bvs (zeros8 64) ++ ([AV.v (Value.int IntKind.i64 0), AV.v (Value.bool false)])))) := by kernel_rfl
theorem st48 : stI Tryd.prog 48 = some [(0, 8, true), (8, 64, true), (72, 1, false), (73, 1, false)] := by kernel_rfl
theorem ty49 : tyI Tryd.prog 49 = some (1, false, [AV.v (Value.slice none 0 0)]) := by kernel_rfl
theorem sl49 : slI Tryd.prog 49 = some (39, 1) := by kernel_rfl
theorem ty50 : tyI Tryd.prog 50 = some (64, true, (uvs (zeros32 64))) := by kernel_rfl
theorem ar50 : arI Tryd.prog 50 = some (64, 1, false) := by kernel_rfl
theorem ty51 : tyI Tryd.prog 51 = some (1, false, [AV.v Value.nilFunc]) := by kernel_rfl
theorem ty52 : tyI Tryd.prog 52 = some (1, false, [AV.v Value.nilFunc]) := by kernel_rfl
theorem ty53 : tyI Tryd.prog 53 = some (1, false, [AV.v (Value.slice none 0 0)]) := by kernel_rfl
theorem sl53 : slI Tryd.prog 53 = some (22, 1) := by kernel_rfl
theorem ty54 : tyI Tryd.prog 54 = some (1, false, [AV.v Value.nilFunc]) := by kernel_rfl
theorem ty55 : tyI Tryd.prog 55 = some (1, false, [AV.v Value.nilFunc]) := by kernel_rfl
theorem ty56 : tyI Tryd.prog 56 = some (1, false, [AV.v Value.nilFunc]) := by kernel_rfl
theorem ty57 : tyI Tryd.prog 57 = some (1, false, [AV.v (Value.int IntKind.u64 0)]) := by kernel_rfl
theorem ty58 : tyI Tryd.prog 58 = some (8, true, [AV.v (Value.int IntKind.u8 0), AV.v (Value.int IntKind.u8 0), AV.v (Value.int IntKind.u8 0), AV.v (Value.int IntKind.u8 0), AV.v (Value.int IntKind.u8 0), AV.v (Value.int IntKind.u8 0), AV.v (Value.int IntKind.u8 0), AV.v (Value.int IntKind.u8 0)]) := by kernel_rfl
theorem ar58 : arI Tryd.prog 58 = some (8, 1, false) := by kernel_rfl
theorem ty59 : tyI Tryd.prog 59 = some (1, false, [AV.v Value.nilFunc]) := by kernel_rfl
theorem ty60 : tyI Tryd.prog 60 = some (4, true, [AV.v (Value.pointer none), AV.v (Value.pointer none), AV.v (Value.pointer none), AV.v (Value.string ⟨#[]⟩)]) := by kernel_rfl
theorem st60 : stI Tryd.prog 60 = some [(0, 1, false), (1, 1, false), (2, 1, false), (3, 1, false)] := by kernel_rfl
theorem ty61 : tyI Tryd.prog 61 = some (4, true, [AV.v (Value.pointer none), AV.v (Value.pointer none), AV.v (Value.pointer none), AV.v (Value.string ⟨#[]⟩)]) := by kernel_rfl
theorem st61 : stI Tryd.prog 61 = some [(0, 1, false), (1, 1, false), (2, 1, false), (3, 1, false)] := by kernel_rfl
theorem ty62 : tyI Tryd.prog 62 = some (0, true, []) := by kernel_rfl
theorem ar62 : arI Tryd.prog 62 = some (0, 1, false) := by kernel_rfl
theorem ty63 : tyI Tryd.prog 63 = some (0, true, []) := by kernel_rfl
theorem st63 : stI Tryd.prog 63 = some [(0, 0, true)] := by kernel_rfl
theorem ty64 : tyI Tryd.prog 64 = some (0, true, []) := by kernel_rfl
theorem st64 : stI Tryd.prog 64 = some [(0, 0, true)] := by kernel_rfl
theorem ty65 : tyI Tryd.prog 65 = some (1, false, [AV.v (Value.int IntKind.u8 0)]) := by kernel_rfl
theorem ty66 : tyI Tryd.prog 66 = some (1, false, [AV.v (Value.int IntKind.u8 0)]) := by kernel_rfl
theorem ty67 : tyI Tryd.prog 67 = some (1, false, [AV.v Value.nilFunc]) := by kernel_rfl
theorem ty68 : tyI Tryd.prog 68 = some (1, false, [AV.v (Value.pointer none)]) := by kernel_rfl
theorem ty69 : tyI Tryd.prog 69 = some (1, false, [AV.v (Value.int IntKind.i32 0)]) := by kernel_rfl
theorem ty70 : tyI Tryd.prog 70 = some (1, false, [AV.v (Value.int IntKind.i32 0)]) := by kernel_rfl
theorem ty71 : tyI Tryd.prog 71 = some (11, true, [AV.v (Value.int IntKind.u64 0), AV.v (Value.int IntKind.u64 0), AV.v (Value.int IntKind.u32 0), AV.v (Value.int IntKind.u8 0), AV.v (Value.int IntKind.u8 0), AV.v (Value.int IntKind.u8 0), AV.v (Value.int IntKind.u8 0), AV.v Value.nilFunc, AV.v (Value.pointer none), AV.v (Value.int IntKind.i32 0), AV.v (Value.int IntKind.i32 0)]) := by kernel_rfl
theorem st71 : stI Tryd.prog 71 = some [(0, 1, false), (1, 1, false), (2, 1, false), (3, 1, false), (4, 1, false), (5, 1, false), (6, 1, false), (7, 1, false), (8, 1, false), (9, 1, false), (10, 1, false)] := by kernel_rfl
theorem ty72 : tyI Tryd.prog 72 = some (11, true, [AV.v (Value.int IntKind.u64 0), AV.v (Value.int IntKind.u64 0), AV.v (Value.int IntKind.u32 0), AV.v (Value.int IntKind.u8 0), AV.v (Value.int IntKind.u8 0), AV.v (Value.int IntKind.u8 0), AV.v (Value.int IntKind.u8 0), AV.v Value.nilFunc, AV.v (Value.pointer none), AV.v (Value.int IntKind.i32 0), AV.v (Value.int IntKind.i32 0)]) := by kernel_rfl
theorem st72 : stI Tryd.prog 72 = some [(0, 1, false), (1, 1, false), (2, 1, false), (3, 1, false), (4, 1, false), (5, 1, false), (6, 1, false), (7, 1, false), (8, 1, false), (9, 1, false), (10, 1, false)] := by kernel_rfl
theorem ty73 : tyI Tryd.prog 73 = some (1, false, [AV.v (Value.pointer none)]) := by kernel_rfl
theorem arn7 : arI Tryd.prog 7 = none := by kernel_rfl
theorem arn8 : arI Tryd.prog 8 = none := by kernel_rfl
theorem arn13 : arI Tryd.prog 13 = none := by kernel_rfl
theorem arn14 : arI Tryd.prog 14 = none := by kernel_rfl
theorem arn18 : arI Tryd.prog 18 = none := by kernel_rfl
theorem arn19 : arI Tryd.prog 19 = none := by kernel_rfl
theorem arn47 : arI Tryd.prog 47 = none := by kernel_rfl
theorem arn48 : arI Tryd.prog 48 = none := by kernel_rfl
theorem arn60 : arI Tryd.prog 60 = none := by kernel_rfl
theorem arn61 : arI Tryd.prog 61 = none := by kernel_rfl
theorem arn63 : arI Tryd.prog 63 = none := by kernel_rfl
theorem arn64 : arI Tryd.prog 64 = none := by kernel_rfl
theorem arn71 : arI Tryd.prog 71 = none := by kernel_rfl
theorem arn72 : arI Tryd.prog 72 = none := by kernel_rfl
theorem stn23 : stI Tryd.prog 23 = none := by kernel_rfl
theorem stn24 : stI Tryd.prog 24 = none := by kernel_rfl
theorem stn33 : stI Tryd.prog 33 = none := by kernel_rfl
theorem stn50 : stI Tryd.prog 50 = none := by kernel_rfl
theorem stn58 : stI Tryd.prog 58 = none := by kernel_rfl
theorem stn62 : stI Tryd.prog 62 = none := by kernel_rfl
end Go.Proofs.YtegfopnjochidaaDoor

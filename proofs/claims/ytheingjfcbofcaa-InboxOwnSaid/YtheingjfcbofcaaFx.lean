/- What the program says of its types. No condition. -/
import Derived.Test.YtheingjfcbofcaaProg
import Derived.Test.YtheingjfcbofcaaUv
namespace Go.Proofs.Ytheingjfcbofcaa
open Go.Am
theorem ty1 : tyI Try.prog 1 = some (1, false, [AV.v Value.nilFunc]) := by kernel_rfl
theorem ty2 : tyI Try.prog 2 = some (1, false, [AV.v (Value.int IntKind.i64 0)]) := by kernel_rfl
theorem ty3 : tyI Try.prog 3 = some (1, false, [AV.v (Value.int IntKind.i64 0)]) := by kernel_rfl
theorem ty4 : tyI Try.prog 4 = some (1, false, [AV.v (Value.bool false)]) := by kernel_rfl
theorem ty5 : tyI Try.prog 5 = some (1, false, [AV.v (Value.int IntKind.u8 0)]) := by kernel_rfl
theorem ty6 : tyI Try.prog 6 = some (1, false, [AV.v (Value.int IntKind.u8 0)]) := by kernel_rfl
theorem ty7 : tyI Try.prog 7 = some (4, true, [AV.v (Value.int IntKind.i64 0), AV.v (Value.int IntKind.i64 0), AV.v (Value.bool false), AV.v (Value.int IntKind.u8 0)]) := by kernel_rfl
theorem st7 : stI Try.prog 7 = some [(0, 1, false), (1, 1, false), (2, 1, false), (3, 1, false)] := by kernel_rfl
theorem ty8 : tyI Try.prog 8 = some (4, true, [AV.v (Value.int IntKind.i64 0), AV.v (Value.int IntKind.i64 0), AV.v (Value.bool false), AV.v (Value.int IntKind.u8 0)]) := by kernel_rfl
theorem st8 : stI Try.prog 8 = some [(0, 1, false), (1, 1, false), (2, 1, false), (3, 1, false)] := by kernel_rfl
theorem ty9 : tyI Try.prog 9 = some (1, false, [AV.v (Value.string ⟨#[]⟩)]) := by kernel_rfl
theorem ty10 : tyI Try.prog 10 = some (1, false, [AV.v (Value.string ⟨#[]⟩)]) := by kernel_rfl
theorem ty11 : tyI Try.prog 11 = some (1, false, [AV.v (Value.string ⟨#[]⟩)]) := by kernel_rfl
theorem ty12 : tyI Try.prog 12 = some (1, false, [AV.v (Value.int IntKind.u64 0)]) := by kernel_rfl
theorem ty13 : tyI Try.prog 13 = some (2, true, [AV.v (Value.string ⟨#[]⟩), AV.v (Value.int IntKind.u64 0)]) := by kernel_rfl
theorem st13 : stI Try.prog 13 = some [(0, 1, false), (1, 1, false)] := by kernel_rfl
theorem ty14 : tyI Try.prog 14 = some (2, true, [AV.v (Value.string ⟨#[]⟩), AV.v (Value.int IntKind.u64 0)]) := by kernel_rfl
theorem st14 : stI Try.prog 14 = some [(0, 1, false), (1, 1, false)] := by kernel_rfl
theorem ty15 : tyI Try.prog 15 = some (1, false, [AV.v (Value.pointer none)]) := by kernel_rfl
theorem ty16 : tyI Try.prog 16 = some (1, false, [AV.v (Value.pointer none)]) := by kernel_rfl
theorem ty17 : tyI Try.prog 17 = some (1, false, [AV.v (Value.pointer none)]) := by kernel_rfl
theorem ty18 : tyI Try.prog 18 = some (1, true, [AV.v (Value.pointer none)]) := by kernel_rfl
theorem st18 : stI Try.prog 18 = some [(0, 1, false)] := by kernel_rfl
theorem ty19 : tyI Try.prog 19 = some (1, true, [AV.v (Value.pointer none)]) := by kernel_rfl
theorem st19 : stI Try.prog 19 = some [(0, 1, false)] := by kernel_rfl
theorem ty20 : tyI Try.prog 20 = some (1, false, [AV.v Value.nilIface]) := by kernel_rfl
theorem ty21 : tyI Try.prog 21 = some (1, false, [AV.v (Value.int IntKind.i32 0)]) := by kernel_rfl
theorem ty22 : tyI Try.prog 22 = some (1, false, [AV.v (Value.slice none 0 0)]) := by kernel_rfl
theorem sl22 : slI Try.prog 22 = some (23, 1) := by kernel_rfl
theorem ty23 : tyI Try.prog 23 = some (1, false, [AV.v (Value.slice none 0 0)]) := by kernel_rfl
theorem sl23 : slI Try.prog 23 = some (5, 1) := by kernel_rfl
theorem ty24 : tyI Try.prog 24 = some (1, false, [AV.v (Value.pointer none)]) := by kernel_rfl
theorem ty25 : tyI Try.prog 25 = some (1, false, [AV.v (Value.int IntKind.i64 0)]) := by kernel_rfl
theorem ty27 : tyI Try.prog 27 = some (1, false, [AV.v Value.nilFunc]) := by kernel_rfl
theorem ty28 : tyI Try.prog 28 = some (1, false, [AV.v Value.nilFunc]) := by kernel_rfl
theorem ty29 : tyI Try.prog 29 = some (1, false, [AV.v Value.nilFunc]) := by kernel_rfl
theorem ty30 : tyI Try.prog 30 = some (1, false, [AV.v Value.nilFunc]) := by kernel_rfl
theorem ty31 : tyI Try.prog 31 = some (1, false, [AV.v Value.nilFunc]) := by kernel_rfl
theorem ty33 : tyI Try.prog 33 = some (1, false, [AV.v Value.nilFunc]) := by kernel_rfl
theorem ty34 : tyI Try.prog 34 = some (1, false, [AV.v Value.nilFunc]) := by kernel_rfl
theorem ty35 : tyI Try.prog 35 = some (1, false, [AV.v Value.nilFunc]) := by kernel_rfl
theorem ty36 : tyI Try.prog 36 = some (1, false, [AV.v Value.nilFunc]) := by kernel_rfl
theorem ty37 : tyI Try.prog 37 = some (1, false, [AV.v Value.nilFunc]) := by kernel_rfl
theorem ty38 : tyI Try.prog 38 = some (1, false, [AV.v Value.nilFunc]) := by kernel_rfl
theorem ty39 : tyI Try.prog 39 = some (1, false, [AV.v (Value.slice none 0 0)]) := by kernel_rfl
theorem sl39 : slI Try.prog 39 = some (50, 3) := by kernel_rfl
theorem ty40 : tyI Try.prog 40 = some (4, true, [AV.v (Value.int IntKind.i64 0), AV.v (Value.slice none 0 0), AV.v (Value.bool false), AV.v (Value.bool false)]) := by kernel_rfl
theorem st40 : stI Try.prog 40 = some [(0, 1, false), (1, 1, false), (2, 1, false), (3, 1, false)] := by kernel_rfl
theorem ty41 : tyI Try.prog 41 = some (4, true, [AV.v (Value.int IntKind.i64 0), AV.v (Value.slice none 0 0), AV.v (Value.bool false), AV.v (Value.bool false)]) := by kernel_rfl
theorem st41 : stI Try.prog 41 = some [(0, 1, false), (1, 1, false), (2, 1, false), (3, 1, false)] := by kernel_rfl
theorem ty43 : tyI Try.prog 43 = some (1, false, [AV.v Value.nilFunc]) := by kernel_rfl
theorem ty44 : tyI Try.prog 44 = some (1, false, [AV.v (Value.pointer none)]) := by kernel_rfl
theorem ty45 : tyI Try.prog 45 = some (5, true, [AV.v (Value.pointer none), AV.v (Value.int IntKind.i64 0), AV.v (Value.slice none 0 0), AV.v (Value.bool false), AV.v (Value.bool false)]) := by kernel_rfl
theorem st45 : stI Try.prog 45 = some [(0, 1, false), (1, 4, true)] := by kernel_rfl
theorem ty46 : tyI Try.prog 46 = some (5, true, [AV.v (Value.pointer none), AV.v (Value.int IntKind.i64 0), AV.v (Value.slice none 0 0), AV.v (Value.bool false), AV.v (Value.bool false)]) := by kernel_rfl
theorem st46 : stI Try.prog 46 = some [(0, 1, false), (1, 4, true)] := by kernel_rfl
theorem ty47 : tyI Try.prog 47 = some (1, false, [AV.v Value.nilFunc]) := by kernel_rfl
theorem ty48 : tyI Try.prog 48 = some (1, false, [AV.v (Value.int IntKind.i64 0)]) := by kernel_rfl
theorem ty49 : tyI Try.prog 49 = some (3, true, [AV.v (Value.int IntKind.u8 0), AV.v (Value.slice none 0 0), AV.v (Value.int IntKind.i64 0)]) := by kernel_rfl
theorem st49 : stI Try.prog 49 = some [(0, 1, false), (1, 1, false), (2, 1, false)] := by kernel_rfl
theorem ty50 : tyI Try.prog 50 = some (3, true, [AV.v (Value.int IntKind.u8 0), AV.v (Value.slice none 0 0), AV.v (Value.int IntKind.i64 0)]) := by kernel_rfl
theorem st50 : stI Try.prog 50 = some [(0, 1, false), (1, 1, false), (2, 1, false)] := by kernel_rfl
theorem ty51 : tyI Try.prog 51 = some (1, false, [AV.v Value.nilFunc]) := by kernel_rfl
theorem ty52 : tyI Try.prog 52 = some (1, false, [AV.v Value.nilFunc]) := by kernel_rfl
theorem ty53 : tyI Try.prog 53 = some (3, true, [AV.v (Value.slice none 0 0), AV.v (Value.int IntKind.i64 0), AV.v (Value.int IntKind.i64 0)]) := by kernel_rfl
theorem st53 : stI Try.prog 53 = some [(0, 1, false), (1, 1, false), (2, 1, false)] := by kernel_rfl
theorem ty54 : tyI Try.prog 54 = some (3, true, [AV.v (Value.slice none 0 0), AV.v (Value.int IntKind.i64 0), AV.v (Value.int IntKind.i64 0)]) := by kernel_rfl
theorem st54 : stI Try.prog 54 = some [(0, 1, false), (1, 1, false), (2, 1, false)] := by kernel_rfl
theorem ty55 : tyI Try.prog 55 = some (1, false, [AV.v (Value.int IntKind.u8 0)]) := by kernel_rfl
theorem ty56 : tyI Try.prog 56 = some (5, true, [AV.v (Value.slice none 0 0), AV.v (Value.int IntKind.i64 0), AV.v (Value.int IntKind.i64 0), AV.v (Value.int IntKind.u8 0), AV.v (Value.bool false)]) := by kernel_rfl
theorem st56 : stI Try.prog 56 = some [(0, 3, true), (3, 1, false), (4, 1, false)] := by kernel_rfl
theorem ty57 : tyI Try.prog 57 = some (5, true, [AV.v (Value.slice none 0 0), AV.v (Value.int IntKind.i64 0), AV.v (Value.int IntKind.i64 0), AV.v (Value.int IntKind.u8 0), AV.v (Value.bool false)]) := by kernel_rfl
theorem st57 : stI Try.prog 57 = some [(0, 3, true), (3, 1, false), (4, 1, false)] := by kernel_rfl
theorem ty58 : tyI Try.prog 58 = some (1, false, [AV.v (Value.slice none 0 0)]) := by kernel_rfl
theorem sl58 : slI Try.prog 58 = some (24, 1) := by kernel_rfl
theorem ty60 : tyI Try.prog 60 = some (1, false, [AV.v Value.nilFunc]) := by kernel_rfl
theorem ty61 : tyI Try.prog 61 = some (1, false, [AV.v Value.nilFunc]) := by kernel_rfl
theorem ty62 : tyI Try.prog 62 = some (1, false, [AV.v Value.nilFunc]) := by kernel_rfl
theorem ty63 : tyI Try.prog 63 = some (1, false, [AV.v Value.nilFunc]) := by kernel_rfl
theorem ty64 : tyI Try.prog 64 = some (1, false, [AV.v Value.nilFunc]) := by kernel_rfl
theorem ty65 : tyI Try.prog 65 = some (1, false, [AV.v Value.nilFunc]) := by kernel_rfl
theorem ty66 : tyI Try.prog 66 = some (1, false, [AV.v Value.nilFunc]) := by kernel_rfl
theorem ty68 : tyI Try.prog 68 = some (1, false, [AV.v Value.nilFunc]) := by kernel_rfl
theorem ty69 : tyI Try.prog 69 = some (1, false, [AV.v Value.nilFunc]) := by kernel_rfl
theorem ty70 : tyI Try.prog 70 = some (1, false, [AV.v Value.nilFunc]) := by kernel_rfl
theorem ty72 : tyI Try.prog 72 = some (1, false, [AV.v Value.nilFunc]) := by kernel_rfl
theorem ty74 : tyI Try.prog 74 = some (1, false, [AV.v Value.nilFunc]) := by kernel_rfl
theorem ty75 : tyI Try.prog 75 = some (1, false, [AV.v Value.nilFunc]) := by kernel_rfl
theorem ty76 : tyI Try.prog 76 = some (2, true, [AV.v (Value.int IntKind.i64 0), AV.v (Value.int IntKind.i64 0)]) := by kernel_rfl
theorem ar76 : arI Try.prog 76 = some (2, 1, false) := by kernel_rfl
theorem ty77 : tyI Try.prog 77 = some (1, false, [AV.v Value.nilFunc]) := by kernel_rfl
theorem ty78 : tyI Try.prog 78 = some (1, false, [AV.v (Value.pointer none)]) := by kernel_rfl
theorem ty79 : tyI Try.prog 79 = some (1, false, [AV.v Value.nilFunc]) := by kernel_rfl
theorem ty80 : tyI Try.prog 80 = some (4, true, [AV.v (Value.pointer none), AV.v (Value.pointer none), AV.v (Value.pointer none), AV.v (Value.string ⟨#[]⟩)]) := by kernel_rfl
theorem st80 : stI Try.prog 80 = some [(0, 1, false), (1, 1, false), (2, 1, false), (3, 1, false)] := by kernel_rfl
theorem ty81 : tyI Try.prog 81 = some (4, true, [AV.v (Value.pointer none), AV.v (Value.pointer none), AV.v (Value.pointer none), AV.v (Value.string ⟨#[]⟩)]) := by kernel_rfl
theorem st81 : stI Try.prog 81 = some [(0, 1, false), (1, 1, false), (2, 1, false), (3, 1, false)] := by kernel_rfl
theorem ty82 : tyI Try.prog 82 = some (0, true, []) := by kernel_rfl
theorem ar82 : arI Try.prog 82 = some (0, 1, false) := by kernel_rfl
theorem ty83 : tyI Try.prog 83 = some (0, true, []) := by kernel_rfl
theorem st83 : stI Try.prog 83 = some [(0, 0, true)] := by kernel_rfl
theorem ty84 : tyI Try.prog 84 = some (0, true, []) := by kernel_rfl
theorem st84 : stI Try.prog 84 = some [(0, 0, true)] := by kernel_rfl
theorem ty85 : tyI Try.prog 85 = some (1, false, [AV.v (Value.int IntKind.u32 0)]) := by kernel_rfl
theorem ty86 : tyI Try.prog 86 = some (1, false, [AV.v (Value.int IntKind.u8 0)]) := by kernel_rfl
theorem ty87 : tyI Try.prog 87 = some (1, false, [AV.v (Value.int IntKind.u8 0)]) := by kernel_rfl
theorem ty88 : tyI Try.prog 88 = some (1, false, [AV.v Value.nilFunc]) := by kernel_rfl
theorem ty89 : tyI Try.prog 89 = some (1, false, [AV.v (Value.pointer none)]) := by kernel_rfl
theorem ty90 : tyI Try.prog 90 = some (1, false, [AV.v (Value.int IntKind.i32 0)]) := by kernel_rfl
theorem ty91 : tyI Try.prog 91 = some (1, false, [AV.v (Value.int IntKind.i32 0)]) := by kernel_rfl
theorem ty92 : tyI Try.prog 92 = some (11, true, [AV.v (Value.int IntKind.u64 0), AV.v (Value.int IntKind.u64 0), AV.v (Value.int IntKind.u32 0), AV.v (Value.int IntKind.u8 0), AV.v (Value.int IntKind.u8 0), AV.v (Value.int IntKind.u8 0), AV.v (Value.int IntKind.u8 0), AV.v Value.nilFunc, AV.v (Value.pointer none), AV.v (Value.int IntKind.i32 0), AV.v (Value.int IntKind.i32 0)]) := by kernel_rfl
theorem st92 : stI Try.prog 92 = some [(0, 1, false), (1, 1, false), (2, 1, false), (3, 1, false), (4, 1, false), (5, 1, false), (6, 1, false), (7, 1, false), (8, 1, false), (9, 1, false), (10, 1, false)] := by kernel_rfl
theorem ty93 : tyI Try.prog 93 = some (11, true, [AV.v (Value.int IntKind.u64 0), AV.v (Value.int IntKind.u64 0), AV.v (Value.int IntKind.u32 0), AV.v (Value.int IntKind.u8 0), AV.v (Value.int IntKind.u8 0), AV.v (Value.int IntKind.u8 0), AV.v (Value.int IntKind.u8 0), AV.v Value.nilFunc, AV.v (Value.pointer none), AV.v (Value.int IntKind.i32 0), AV.v (Value.int IntKind.i32 0)]) := by kernel_rfl
theorem st93 : stI Try.prog 93 = some [(0, 1, false), (1, 1, false), (2, 1, false), (3, 1, false), (4, 1, false), (5, 1, false), (6, 1, false), (7, 1, false), (8, 1, false), (9, 1, false), (10, 1, false)] := by kernel_rfl
theorem ty94 : tyI Try.prog 94 = some (1, false, [AV.v (Value.pointer none)]) := by kernel_rfl
theorem arn7 : arI Try.prog 7 = none := by kernel_rfl
theorem arn8 : arI Try.prog 8 = none := by kernel_rfl
theorem arn13 : arI Try.prog 13 = none := by kernel_rfl
theorem arn14 : arI Try.prog 14 = none := by kernel_rfl
theorem arn18 : arI Try.prog 18 = none := by kernel_rfl
theorem arn19 : arI Try.prog 19 = none := by kernel_rfl
theorem arn40 : arI Try.prog 40 = none := by kernel_rfl
theorem arn41 : arI Try.prog 41 = none := by kernel_rfl
theorem arn45 : arI Try.prog 45 = none := by kernel_rfl
theorem arn46 : arI Try.prog 46 = none := by kernel_rfl
theorem arn49 : arI Try.prog 49 = none := by kernel_rfl
theorem arn50 : arI Try.prog 50 = none := by kernel_rfl
theorem arn53 : arI Try.prog 53 = none := by kernel_rfl
theorem arn54 : arI Try.prog 54 = none := by kernel_rfl
theorem arn56 : arI Try.prog 56 = none := by kernel_rfl
theorem arn57 : arI Try.prog 57 = none := by kernel_rfl
theorem arn80 : arI Try.prog 80 = none := by kernel_rfl
theorem arn81 : arI Try.prog 81 = none := by kernel_rfl
theorem arn83 : arI Try.prog 83 = none := by kernel_rfl
theorem arn84 : arI Try.prog 84 = none := by kernel_rfl
theorem arn92 : arI Try.prog 92 = none := by kernel_rfl
theorem arn93 : arI Try.prog 93 = none := by kernel_rfl
theorem stn76 : stI Try.prog 76 = none := by kernel_rfl
theorem stn82 : stI Try.prog 82 = none := by kernel_rfl
end Go.Proofs.Ytheingjfcbofcaa

/- What the program says of its types. No condition. -/
import Derived.Test.YtminoakdilbokaaProg
import Derived.Test.YtminoakdilbokaaCl
namespace Go.Proofs.Ytminoakdilbokaa
open Go.Am
theorem ty1 : tyI Try.prog 1 = some (1, false, [AV.v Value.nilFunc]) := by kernel_rfl
theorem ty2 : tyI Try.prog 2 = some (1, false, [AV.v (Value.int IntKind.i64 0)]) := by kernel_rfl
theorem ty3 : tyI Try.prog 3 = some (1, false, [AV.v (Value.int IntKind.i64 0)]) := by kernel_rfl
theorem ty4 : tyI Try.prog 4 = some (1, false, [AV.v (Value.bool false)]) := by kernel_rfl
theorem ty5 : tyI Try.prog 5 = some (1, false, [AV.v (Value.int IntKind.u8 0)]) := by kernel_rfl
theorem ty6 : tyI Try.prog 6 = some (1, false, [AV.v (Value.int IntKind.u8 0)]) := by kernel_rfl
theorem ty7 : tyI Try.prog 7 = some (4, true, [AV.v (Value.int IntKind.i64 0), AV.v (Value.int IntKind.i64 0), AV.v (Value.bool false), AV.v (Value.int IntKind.u8 0)]) := by kernel_rfl
theorem st7 : stI Try.prog 7 = some [(0, 1, false), (1, 1, false), (2, 1, false), (3, 1, false)] := by kernel_rfl
theorem jeq7 {x y : Operand} {cs ds : List AV} {K : Kv} : jbin Try.prog .eql 7 x y (.agg cs) (.agg ds) = (match eqAV [Sc.int IntKind.i64, Sc.int IntKind.i64, Sc.bool, Sc.int IntKind.u8] cs ds with | some b => K.k (.v (.bool (b))) | none => abin Try.prog .eql 7 x y (.agg cs) (.agg ds) K.k) := jbin_agg_eql (by kernel_rfl)
theorem jne7 {x y : Operand} {cs ds : List AV} {K : Kv} : jbin Try.prog .neq 7 x y (.agg cs) (.agg ds) = (match eqAV [Sc.int IntKind.i64, Sc.int IntKind.i64, Sc.bool, Sc.int IntKind.u8] cs ds with | some b => K.k (.v (.bool (!b))) | none => abin Try.prog .neq 7 x y (.agg cs) (.agg ds) K.k) := jbin_agg_neq (by kernel_rfl)
theorem ty8 : tyI Try.prog 8 = some (4, true, [AV.v (Value.int IntKind.i64 0), AV.v (Value.int IntKind.i64 0), AV.v (Value.bool false), AV.v (Value.int IntKind.u8 0)]) := by kernel_rfl
theorem st8 : stI Try.prog 8 = some [(0, 1, false), (1, 1, false), (2, 1, false), (3, 1, false)] := by kernel_rfl
theorem jeq8 {x y : Operand} {cs ds : List AV} {K : Kv} : jbin Try.prog .eql 8 x y (.agg cs) (.agg ds) = (match eqAV [Sc.int IntKind.i64, Sc.int IntKind.i64, Sc.bool, Sc.int IntKind.u8] cs ds with | some b => K.k (.v (.bool (b))) | none => abin Try.prog .eql 8 x y (.agg cs) (.agg ds) K.k) := jbin_agg_eql (by kernel_rfl)
theorem jne8 {x y : Operand} {cs ds : List AV} {K : Kv} : jbin Try.prog .neq 8 x y (.agg cs) (.agg ds) = (match eqAV [Sc.int IntKind.i64, Sc.int IntKind.i64, Sc.bool, Sc.int IntKind.u8] cs ds with | some b => K.k (.v (.bool (!b))) | none => abin Try.prog .neq 8 x y (.agg cs) (.agg ds) K.k) := jbin_agg_neq (by kernel_rfl)
theorem ty9 : tyI Try.prog 9 = some (1, false, [AV.v (Value.string ⟨#[]⟩)]) := by kernel_rfl
theorem ty10 : tyI Try.prog 10 = some (1, false, [AV.v (Value.string ⟨#[]⟩)]) := by kernel_rfl
theorem ty11 : tyI Try.prog 11 = some (1, false, [AV.v (Value.string ⟨#[]⟩)]) := by kernel_rfl
theorem ty12 : tyI Try.prog 12 = some (1, false, [AV.v (Value.int IntKind.u64 0)]) := by kernel_rfl
theorem ty13 : tyI Try.prog 13 = some (2, true, [AV.v (Value.string ⟨#[]⟩), AV.v (Value.int IntKind.u64 0)]) := by kernel_rfl
theorem st13 : stI Try.prog 13 = some [(0, 1, false), (1, 1, false)] := by kernel_rfl
theorem ty14 : tyI Try.prog 14 = some (2, true, [AV.v (Value.string ⟨#[]⟩), AV.v (Value.int IntKind.u64 0)]) := by kernel_rfl
theorem st14 : stI Try.prog 14 = some [(0, 1, false), (1, 1, false)] := by kernel_rfl
theorem ty15 : tyI Try.prog 15 = some (1, false, [AV.v (Value.pointer none)]) := by kernel_rfl
theorem ty16 : tyI Try.prog 16 = some (1, false, [AV.v (Value.pointer none)]) := by kernel_rfl
theorem ty17 : tyI Try.prog 17 = some (1, false, [AV.v (Value.pointer none)]) := by kernel_rfl
theorem ty18 : tyI Try.prog 18 = some (1, true, [AV.v (Value.pointer none)]) := by kernel_rfl
theorem st18 : stI Try.prog 18 = some [(0, 1, false)] := by kernel_rfl
theorem ty19 : tyI Try.prog 19 = some (1, true, [AV.v (Value.pointer none)]) := by kernel_rfl
theorem st19 : stI Try.prog 19 = some [(0, 1, false)] := by kernel_rfl
theorem ty20 : tyI Try.prog 20 = some (1, false, [AV.v Value.nilIface]) := by kernel_rfl
theorem ty21 : tyI Try.prog 21 = some (1, false, [AV.v (Value.int IntKind.i32 0)]) := by kernel_rfl
theorem ty22 : tyI Try.prog 22 = some (1, false, [AV.v (Value.slice none 0 0)]) := by kernel_rfl
theorem sl22 : slI Try.prog 22 = some (34, 2) := by kernel_rfl
theorem ty23 : tyI Try.prog 23 = some (1, false, [AV.v Value.nilFunc]) := by kernel_rfl
theorem ty24 : tyI Try.prog 24 = some (1, false, [AV.v (Value.slice none 0 0)]) := by kernel_rfl
theorem sl24 : slI Try.prog 24 = some (5, 1) := by kernel_rfl
theorem ty25 : tyI Try.prog 25 = some (1, false, [AV.v (Value.int IntKind.i64 0)]) := by kernel_rfl
theorem ty27 : tyI Try.prog 27 = some (1, false, [AV.v Value.nilFunc]) := by kernel_rfl
theorem ty29 : tyI Try.prog 29 = some (1, false, [AV.v Value.nilFunc]) := by kernel_rfl
theorem ty30 : tyI Try.prog 30 = some (1, false, [AV.v Value.nilFunc]) := by kernel_rfl
theorem ty31 : tyI Try.prog 31 = some (1, false, [AV.v Value.nilFunc]) := by kernel_rfl
theorem ty32 : tyI Try.prog 32 = some (1, false, [AV.v (Value.int IntKind.u16 0)]) := by kernel_rfl
theorem ty33 : tyI Try.prog 33 = some (2, true, [AV.v (Value.int IntKind.i64 0), AV.v (Value.slice none 0 0)]) := by kernel_rfl
theorem st33 : stI Try.prog 33 = some [(0, 1, false), (1, 1, false)] := by kernel_rfl
theorem ty34 : tyI Try.prog 34 = some (2, true, [AV.v (Value.int IntKind.i64 0), AV.v (Value.slice none 0 0)]) := by kernel_rfl
theorem st34 : stI Try.prog 34 = some [(0, 1, false), (1, 1, false)] := by kernel_rfl
theorem ty35 : tyI Try.prog 35 = some (1, false, [AV.v Value.nilFunc]) := by kernel_rfl
theorem ty36 : tyI Try.prog 36 = some (1, false, [AV.v Value.nilFunc]) := by kernel_rfl
theorem ty38 : tyI Try.prog 38 = some (1, false, [AV.v Value.nilFunc]) := by kernel_rfl
theorem ty40 : tyI Try.prog 40 = some (1, false, [AV.v Value.nilFunc]) := by kernel_rfl
theorem ty41 : tyI Try.prog 41 = some (1, false, [AV.v Value.nilFunc]) := by kernel_rfl
theorem ty42 : tyI Try.prog 42 = some (1, false, [AV.v Value.nilFunc]) := by kernel_rfl
theorem ty43 : tyI Try.prog 43 = some (1, false, [AV.v Value.nilFunc]) := by kernel_rfl
theorem ty44 : tyI Try.prog 44 = some (1, false, [AV.v Value.nilFunc]) := by kernel_rfl
theorem ty45 : tyI Try.prog 45 = some (1, false, [AV.v (Value.slice none 0 0)]) := by kernel_rfl
theorem sl45 : slI Try.prog 45 = some (24, 1) := by kernel_rfl
theorem ty46 : tyI Try.prog 46 = some (1, false, [AV.v Value.nilFunc]) := by kernel_rfl
theorem ty48 : tyI Try.prog 48 = some (1, false, [AV.v Value.nilFunc]) := by kernel_rfl
theorem ty49 : tyI Try.prog 49 = some (1, false, [AV.v Value.nilFunc]) := by kernel_rfl
theorem ty50 : tyI Try.prog 50 = some (1, false, [AV.v Value.nilFunc]) := by kernel_rfl
theorem ty51 : tyI Try.prog 51 = some (1, false, [AV.v Value.nilFunc]) := by kernel_rfl
theorem ty52 : tyI Try.prog 52 = some (1, false, [AV.v Value.nilFunc]) := by kernel_rfl
theorem ty53 : tyI Try.prog 53 = some (1, false, [AV.v Value.nilFunc]) := by kernel_rfl
theorem ty54 : tyI Try.prog 54 = some (1, false, [AV.v (Value.int IntKind.u64 0)]) := by kernel_rfl
theorem ty55 : tyI Try.prog 55 = some (1, false, [AV.v Value.nilFunc]) := by kernel_rfl
theorem ty56 : tyI Try.prog 56 = some (1, false, [AV.v Value.nilFunc]) := by kernel_rfl
theorem ty57 : tyI Try.prog 57 = some (8, true, [AV.v (Value.int IntKind.u8 0), AV.v (Value.int IntKind.u8 0), AV.v (Value.int IntKind.u8 0), AV.v (Value.int IntKind.u8 0), AV.v (Value.int IntKind.u8 0), AV.v (Value.int IntKind.u8 0), AV.v (Value.int IntKind.u8 0), AV.v (Value.int IntKind.u8 0)]) := by kernel_rfl
theorem ar57 : arI Try.prog 57 = some (8, 1, false) := by kernel_rfl
theorem ty58 : tyI Try.prog 58 = some (1, false, [AV.v (Value.int IntKind.u64 0)]) := by kernel_rfl
theorem ty59 : tyI Try.prog 59 = some (1, false, [AV.v Value.nilFunc]) := by kernel_rfl
theorem ty60 : tyI Try.prog 60 = some (4, true, [AV.v (Value.pointer none), AV.v (Value.pointer none), AV.v (Value.pointer none), AV.v (Value.string ⟨#[]⟩)]) := by kernel_rfl
theorem st60 : stI Try.prog 60 = some [(0, 1, false), (1, 1, false), (2, 1, false), (3, 1, false)] := by kernel_rfl
theorem ty61 : tyI Try.prog 61 = some (4, true, [AV.v (Value.pointer none), AV.v (Value.pointer none), AV.v (Value.pointer none), AV.v (Value.string ⟨#[]⟩)]) := by kernel_rfl
theorem st61 : stI Try.prog 61 = some [(0, 1, false), (1, 1, false), (2, 1, false), (3, 1, false)] := by kernel_rfl
theorem ty62 : tyI Try.prog 62 = some (0, true, []) := by kernel_rfl
theorem ar62 : arI Try.prog 62 = some (0, 1, false) := by kernel_rfl
theorem ty63 : tyI Try.prog 63 = some (0, true, []) := by kernel_rfl
theorem st63 : stI Try.prog 63 = some [(0, 0, true)] := by kernel_rfl
theorem ty64 : tyI Try.prog 64 = some (0, true, []) := by kernel_rfl
theorem st64 : stI Try.prog 64 = some [(0, 0, true)] := by kernel_rfl
theorem ty65 : tyI Try.prog 65 = some (1, false, [AV.v Value.nilFunc]) := by kernel_rfl
theorem ty66 : tyI Try.prog 66 = some (1, false, [AV.v (Value.int IntKind.u32 0)]) := by kernel_rfl
theorem ty67 : tyI Try.prog 67 = some (1, false, [AV.v (Value.int IntKind.u8 0)]) := by kernel_rfl
theorem ty68 : tyI Try.prog 68 = some (1, false, [AV.v (Value.int IntKind.u8 0)]) := by kernel_rfl
theorem ty69 : tyI Try.prog 69 = some (1, false, [AV.v Value.nilFunc]) := by kernel_rfl
theorem ty70 : tyI Try.prog 70 = some (1, false, [AV.v (Value.pointer none)]) := by kernel_rfl
theorem ty71 : tyI Try.prog 71 = some (1, false, [AV.v (Value.int IntKind.i32 0)]) := by kernel_rfl
theorem ty72 : tyI Try.prog 72 = some (1, false, [AV.v (Value.int IntKind.i32 0)]) := by kernel_rfl
theorem ty73 : tyI Try.prog 73 = some (11, true, [AV.v (Value.int IntKind.u64 0), AV.v (Value.int IntKind.u64 0), AV.v (Value.int IntKind.u32 0), AV.v (Value.int IntKind.u8 0), AV.v (Value.int IntKind.u8 0), AV.v (Value.int IntKind.u8 0), AV.v (Value.int IntKind.u8 0), AV.v Value.nilFunc, AV.v (Value.pointer none), AV.v (Value.int IntKind.i32 0), AV.v (Value.int IntKind.i32 0)]) := by kernel_rfl
theorem st73 : stI Try.prog 73 = some [(0, 1, false), (1, 1, false), (2, 1, false), (3, 1, false), (4, 1, false), (5, 1, false), (6, 1, false), (7, 1, false), (8, 1, false), (9, 1, false), (10, 1, false)] := by kernel_rfl
theorem ty74 : tyI Try.prog 74 = some (11, true, [AV.v (Value.int IntKind.u64 0), AV.v (Value.int IntKind.u64 0), AV.v (Value.int IntKind.u32 0), AV.v (Value.int IntKind.u8 0), AV.v (Value.int IntKind.u8 0), AV.v (Value.int IntKind.u8 0), AV.v (Value.int IntKind.u8 0), AV.v Value.nilFunc, AV.v (Value.pointer none), AV.v (Value.int IntKind.i32 0), AV.v (Value.int IntKind.i32 0)]) := by kernel_rfl
theorem st74 : stI Try.prog 74 = some [(0, 1, false), (1, 1, false), (2, 1, false), (3, 1, false), (4, 1, false), (5, 1, false), (6, 1, false), (7, 1, false), (8, 1, false), (9, 1, false), (10, 1, false)] := by kernel_rfl
theorem ty75 : tyI Try.prog 75 = some (1, false, [AV.v (Value.pointer none)]) := by kernel_rfl
theorem arn7 : arI Try.prog 7 = none := by kernel_rfl
theorem arn8 : arI Try.prog 8 = none := by kernel_rfl
theorem arn13 : arI Try.prog 13 = none := by kernel_rfl
theorem arn14 : arI Try.prog 14 = none := by kernel_rfl
theorem arn18 : arI Try.prog 18 = none := by kernel_rfl
theorem arn19 : arI Try.prog 19 = none := by kernel_rfl
theorem arn33 : arI Try.prog 33 = none := by kernel_rfl
theorem arn34 : arI Try.prog 34 = none := by kernel_rfl
theorem arn60 : arI Try.prog 60 = none := by kernel_rfl
theorem arn61 : arI Try.prog 61 = none := by kernel_rfl
theorem arn63 : arI Try.prog 63 = none := by kernel_rfl
theorem arn64 : arI Try.prog 64 = none := by kernel_rfl
theorem arn73 : arI Try.prog 73 = none := by kernel_rfl
theorem arn74 : arI Try.prog 74 = none := by kernel_rfl
theorem stn57 : stI Try.prog 57 = none := by kernel_rfl
theorem stn62 : stI Try.prog 62 = none := by kernel_rfl
end Go.Proofs.Ytminoakdilbokaa

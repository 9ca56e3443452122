/- What the program says of its types. No condition. -/
import Derived.Test.YtbbgaeopadnglaaProg
import Derived.Test.YtbbgaeopadnglaaCl
namespace Go.Proofs.Ytbbgaeopadnglaa
open Go.Am
theorem ty1 : tyI Try.prog 1 = some (1, false, [AV.v Value.nilFunc]) := by kernel_rfl
theorem ty2 : tyI Try.prog 2 = some (1, false, [AV.v (Value.int IntKind.i64 0)]) := by kernel_rfl
theorem ty3 : tyI Try.prog 3 = some (1, false, [AV.v (Value.int IntKind.i64 0)]) := by kernel_rfl
theorem ty4 : tyI Try.prog 4 = some (1, false, [AV.v (Value.bool false)]) := by kernel_rfl
theorem ty5 : tyI Try.prog 5 = some (1, false, [AV.v (Value.int IntKind.u8 0)]) := by kernel_rfl
theorem ty6 : tyI Try.prog 6 = some (1, false, [AV.v (Value.int IntKind.u8 0)]) := by kernel_rfl
theorem ty7 : tyI Try.prog 7 = some (4, true, [AV.v (Value.int IntKind.i64 0), AV.v (Value.int IntKind.i64 0), AV.v (Value.bool false), AV.v (Value.int IntKind.u8 0)]) := by kernel_rfl
theorem st7 : stI Try.prog 7 = some [(0, 1, false), (1, 1, false), (2, 1, false), (3, 1, false)] := by kernel_rfl
theorem jeq7 {x y : Operand} {cs ds : List AV} {K : Kv} : jbin Try.prog .eql 7 x y (.agg cs) (.agg ds) = (match eqAV [Sc.int IntKind.i64, Sc.int IntKind.i64, Sc.bool, Sc.int IntKind.u8] cs ds with | some b => K.k (.v (.bool (b))) | none => abin Try.prog .eql 7 x y (.agg cs) (.agg ds) K.k) := jbin_agg_eql (by kernel_rfl)
theorem jne7 {x y : Operand} {cs ds : List AV} {K : Kv} : jbin Try.prog .neq 7 x y (.agg cs) (.agg ds) = (match eqAV [Sc.int IntKind.i64, Sc.int IntKind.i64, Sc.bool, Sc.int IntKind.u8] cs ds with | some b => K.k (.v (.bool (!b))) | none => abin Try.prog .neq 7 x y (.agg cs) (.agg ds) K.k) := jbin_agg_neq (by kernel_rfl)
theorem ty8 : tyI Try.prog 8 = some (4, true, [AV.v (Value.int IntKind.i64 0), AV.v (Value.int IntKind.i64 0), AV.v (Value.bool false), AV.v (Value.int IntKind.u8 0)]) := by kernel_rfl
theorem st8 : stI Try.prog 8 = some [(0, 1, false), (1, 1, false), (2, 1, false), (3, 1, false)] := by kernel_rfl
theorem jeq8 {x y : Operand} {cs ds : List AV} {K : Kv} : jbin Try.prog .eql 8 x y (.agg cs) (.agg ds) = (match eqAV [Sc.int IntKind.i64, Sc.int IntKind.i64, Sc.bool, Sc.int IntKind.u8] cs ds with | some b => K.k (.v (.bool (b))) | none => abin Try.prog .eql 8 x y (.agg cs) (.agg ds) K.k) := jbin_agg_eql (by kernel_rfl)
theorem jne8 {x y : Operand} {cs ds : List AV} {K : Kv} : jbin Try.prog .neq 8 x y (.agg cs) (.agg ds) = (match eqAV [Sc.int IntKind.i64, Sc.int IntKind.i64, Sc.bool, Sc.int IntKind.u8] cs ds with | some b => K.k (.v (.bool (!b))) | none => abin Try.prog .neq 8 x y (.agg cs) (.agg ds) K.k) := jbin_agg_neq (by kernel_rfl)
theorem ty9 : tyI Try.prog 9 = some (1, false, [AV.v (Value.string ⟨#[]⟩)]) := by kernel_rfl
theorem ty10 : tyI Try.prog 10 = some (1, false, [AV.v (Value.string ⟨#[]⟩)]) := by kernel_rfl
theorem ty11 : tyI Try.prog 11 = some (1, false, [AV.v (Value.string ⟨#[]⟩)]) := by kernel_rfl
theorem ty12 : tyI Try.prog 12 = some (1, false, [AV.v (Value.int IntKind.u64 0)]) := by kernel_rfl
theorem ty13 : tyI Try.prog 13 = some (2, true, [AV.v (Value.string ⟨#[]⟩), AV.v (Value.int IntKind.u64 0)]) := by kernel_rfl
theorem st13 : stI Try.prog 13 = some [(0, 1, false), (1, 1, false)] := by kernel_rfl
theorem ty14 : tyI Try.prog 14 = some (2, true, [AV.v (Value.string ⟨#[]⟩), AV.v (Value.int IntKind.u64 0)]) := by kernel_rfl
theorem st14 : stI Try.prog 14 = some [(0, 1, false), (1, 1, false)] := by kernel_rfl
theorem ty15 : tyI Try.prog 15 = some (1, false, [AV.v (Value.pointer none)]) := by kernel_rfl
theorem ty16 : tyI Try.prog 16 = some (1, false, [AV.v (Value.pointer none)]) := by kernel_rfl
theorem ty17 : tyI Try.prog 17 = some (1, false, [AV.v (Value.pointer none)]) := by kernel_rfl
theorem ty18 : tyI Try.prog 18 = some (1, true, [AV.v (Value.pointer none)]) := by kernel_rfl
theorem st18 : stI Try.prog 18 = some [(0, 1, false)] := by kernel_rfl
theorem ty19 : tyI Try.prog 19 = some (1, true, [AV.v (Value.pointer none)]) := by kernel_rfl
theorem st19 : stI Try.prog 19 = some [(0, 1, false)] := by kernel_rfl
theorem ty20 : tyI Try.prog 20 = some (1, false, [AV.v Value.nilIface]) := by kernel_rfl
theorem ty21 : tyI Try.prog 21 = some (1, false, [AV.v (Value.int IntKind.i32 0)]) := by kernel_rfl
theorem ty22 : tyI Try.prog 22 = some (1, false, [AV.v (Value.slice none 0 0)]) := by kernel_rfl
theorem sl22 : slI Try.prog 22 = some (32, 3) := by kernel_rfl
theorem ty23 : tyI Try.prog 23 = some (1, false, [AV.v Value.nilFunc]) := by kernel_rfl
theorem ty24 : tyI Try.prog 24 = some (1, false, [AV.v (Value.pointer none)]) := by kernel_rfl
theorem ty25 : tyI Try.prog 25 = some (1, false, [AV.v (Value.int IntKind.i64 0)]) := by kernel_rfl
theorem ty27 : tyI Try.prog 27 = some (1, false, [AV.v Value.nilFunc]) := by kernel_rfl
theorem ty28 : tyI Try.prog 28 = some (1, false, [AV.v (Value.slice none 0 0)]) := by kernel_rfl
theorem sl28 : slI Try.prog 28 = some (3, 1) := by kernel_rfl
theorem ty29 : tyI Try.prog 29 = some (1, false, [AV.v (Value.slice none 0 0)]) := by kernel_rfl
theorem sl29 : slI Try.prog 29 = some (4, 1) := by kernel_rfl
theorem ty30 : tyI Try.prog 30 = some (1, false, [AV.v Value.nilFunc]) := by kernel_rfl
theorem ty31 : tyI Try.prog 31 = some (3, true, [AV.v (Value.int IntKind.i64 0), AV.v (Value.int IntKind.i64 0), AV.v (Value.int IntKind.i64 0)]) := by kernel_rfl
theorem st31 : stI Try.prog 31 = some [(0, 1, false), (1, 1, false), (2, 1, false)] := by kernel_rfl
theorem jeq31 {x y : Operand} {cs ds : List AV} {K : Kv} : jbin Try.prog .eql 31 x y (.agg cs) (.agg ds) = (match eqAV [Sc.int IntKind.i64, Sc.int IntKind.i64, Sc.int IntKind.i64] cs ds with | some b => K.k (.v (.bool (b))) | none => abin Try.prog .eql 31 x y (.agg cs) (.agg ds) K.k) := jbin_agg_eql (by kernel_rfl)
theorem jne31 {x y : Operand} {cs ds : List AV} {K : Kv} : jbin Try.prog .neq 31 x y (.agg cs) (.agg ds) = (match eqAV [Sc.int IntKind.i64, Sc.int IntKind.i64, Sc.int IntKind.i64] cs ds with | some b => K.k (.v (.bool (!b))) | none => abin Try.prog .neq 31 x y (.agg cs) (.agg ds) K.k) := jbin_agg_neq (by kernel_rfl)
theorem ty32 : tyI Try.prog 32 = some (3, true, [AV.v (Value.int IntKind.i64 0), AV.v (Value.int IntKind.i64 0), AV.v (Value.int IntKind.i64 0)]) := by kernel_rfl
theorem st32 : stI Try.prog 32 = some [(0, 1, false), (1, 1, false), (2, 1, false)] := by kernel_rfl
theorem jeq32 {x y : Operand} {cs ds : List AV} {K : Kv} : jbin Try.prog .eql 32 x y (.agg cs) (.agg ds) = (match eqAV [Sc.int IntKind.i64, Sc.int IntKind.i64, Sc.int IntKind.i64] cs ds with | some b => K.k (.v (.bool (b))) | none => abin Try.prog .eql 32 x y (.agg cs) (.agg ds) K.k) := jbin_agg_eql (by kernel_rfl)
theorem jne32 {x y : Operand} {cs ds : List AV} {K : Kv} : jbin Try.prog .neq 32 x y (.agg cs) (.agg ds) = (match eqAV [Sc.int IntKind.i64, Sc.int IntKind.i64, Sc.int IntKind.i64] cs ds with | some b => K.k (.v (.bool (!b))) | none => abin Try.prog .neq 32 x y (.agg cs) (.agg ds) K.k) := jbin_agg_neq (by kernel_rfl)
theorem ty34 : tyI Try.prog 34 = some (1, false, [AV.v Value.nilFunc]) := by kernel_rfl
theorem ty35 : tyI Try.prog 35 = some (1, false, [AV.v (Value.int IntKind.u64 0)]) := by kernel_rfl
theorem ty36 : tyI Try.prog 36 = some (1, false, [AV.v Value.nilFunc]) := by kernel_rfl
theorem ty37 : tyI Try.prog 37 = some (1, false, [AV.v Value.nilFunc]) := by kernel_rfl
theorem ty38 : tyI Try.prog 38 = some (1, false, [AV.v (Value.slice none 0 0)]) := by kernel_rfl
theorem sl38 : slI Try.prog 38 = some (5, 1) := by kernel_rfl
theorem ty39 : tyI Try.prog 39 = some (1, false, [AV.v Value.nilFunc]) := by kernel_rfl
theorem ty40 : tyI Try.prog 40 = some (1, false, [AV.v (Value.int IntKind.u16 0)]) := by kernel_rfl
theorem ty41 : tyI Try.prog 41 = some (1, false, [AV.v Value.nilFunc]) := by kernel_rfl
theorem ty42 : tyI Try.prog 42 = some (1, false, [AV.v Value.nilFunc]) := by kernel_rfl
theorem ty43 : tyI Try.prog 43 = some (1, false, [AV.v Value.nilFunc]) := by kernel_rfl
theorem ty44 : tyI Try.prog 44 = some (1, false, [AV.v (Value.pointer none)]) := by kernel_rfl
theorem ty46 : tyI Try.prog 46 = some (1, false, [AV.v Value.nilFunc]) := by kernel_rfl
theorem ty47 : tyI Try.prog 47 = some (1, false, [AV.v (Value.pointer none)]) := by kernel_rfl
theorem ty48 : tyI Try.prog 48 = some (2, true, [AV.v (Value.pointer none), AV.v (Value.pointer none)]) := by kernel_rfl
theorem st48 : stI Try.prog 48 = some [(0, 1, false), (1, 1, false)] := by kernel_rfl
theorem ty49 : tyI Try.prog 49 = some (2, true, [AV.v (Value.pointer none), AV.v (Value.pointer none)]) := by kernel_rfl
theorem st49 : stI Try.prog 49 = some [(0, 1, false), (1, 1, false)] := by kernel_rfl
theorem ty50 : tyI Try.prog 50 = some (1, false, [AV.v Value.nilFunc]) := by kernel_rfl
theorem ty51 : tyI Try.prog 51 = some (1, false, [AV.v (Value.slice none 0 0)]) := by kernel_rfl
theorem sl51 : slI Try.prog 51 = some (54, 2) := by kernel_rfl
theorem ty52 : tyI Try.prog 52 = some (1, false, [AV.v Value.nilFunc]) := by kernel_rfl
theorem ty53 : tyI Try.prog 53 = some (2, true, [AV.v (Value.int IntKind.i64 0), AV.v (Value.int IntKind.i64 0)]) := by kernel_rfl
theorem st53 : stI Try.prog 53 = some [(0, 1, false), (1, 1, false)] := by kernel_rfl
theorem jeq53 {x y : Operand} {cs ds : List AV} {K : Kv} : jbin Try.prog .eql 53 x y (.agg cs) (.agg ds) = (match eqAV [Sc.int IntKind.i64, Sc.int IntKind.i64] cs ds with | some b => K.k (.v (.bool (b))) | none => abin Try.prog .eql 53 x y (.agg cs) (.agg ds) K.k) := jbin_agg_eql (by kernel_rfl)
theorem jne53 {x y : Operand} {cs ds : List AV} {K : Kv} : jbin Try.prog .neq 53 x y (.agg cs) (.agg ds) = (match eqAV [Sc.int IntKind.i64, Sc.int IntKind.i64] cs ds with | some b => K.k (.v (.bool (!b))) | none => abin Try.prog .neq 53 x y (.agg cs) (.agg ds) K.k) := jbin_agg_neq (by kernel_rfl)
theorem ty54 : tyI Try.prog 54 = some (2, true, [AV.v (Value.int IntKind.i64 0), AV.v (Value.int IntKind.i64 0)]) := by kernel_rfl
theorem st54 : stI Try.prog 54 = some [(0, 1, false), (1, 1, false)] := by kernel_rfl
theorem jeq54 {x y : Operand} {cs ds : List AV} {K : Kv} : jbin Try.prog .eql 54 x y (.agg cs) (.agg ds) = (match eqAV [Sc.int IntKind.i64, Sc.int IntKind.i64] cs ds with | some b => K.k (.v (.bool (b))) | none => abin Try.prog .eql 54 x y (.agg cs) (.agg ds) K.k) := jbin_agg_eql (by kernel_rfl)
theorem jne54 {x y : Operand} {cs ds : List AV} {K : Kv} : jbin Try.prog .neq 54 x y (.agg cs) (.agg ds) = (match eqAV [Sc.int IntKind.i64, Sc.int IntKind.i64] cs ds with | some b => K.k (.v (.bool (!b))) | none => abin Try.prog .neq 54 x y (.agg cs) (.agg ds) K.k) := jbin_agg_neq (by kernel_rfl)
theorem ty55 : tyI Try.prog 55 = some (1, false, [AV.v Value.nilFunc]) := by kernel_rfl
theorem ty56 : tyI Try.prog 56 = some (1, false, [AV.v Value.nilFunc]) := by kernel_rfl
theorem ty57 : tyI Try.prog 57 = some (1, false, [AV.v Value.nilFunc]) := by kernel_rfl
theorem ty58 : tyI Try.prog 58 = some (2, true, [AV.v (Value.slice none 0 0), AV.v (Value.int IntKind.i64 0)]) := by kernel_rfl
theorem st58 : stI Try.prog 58 = some [(0, 1, false), (1, 1, false)] := by kernel_rfl
theorem ty59 : tyI Try.prog 59 = some (2, true, [AV.v (Value.slice none 0 0), AV.v (Value.int IntKind.i64 0)]) := by kernel_rfl
theorem st59 : stI Try.prog 59 = some [(0, 1, false), (1, 1, false)] := by kernel_rfl
theorem ty60 : tyI Try.prog 60 = some (2, true, [AV.v (Value.slice none 0 0), AV.v (Value.int IntKind.i64 0)]) := by kernel_rfl
theorem st60 : stI Try.prog 60 = some [(0, 1, false), (1, 1, false)] := by kernel_rfl
theorem ty61 : tyI Try.prog 61 = some (2, true, [AV.v (Value.slice none 0 0), AV.v (Value.int IntKind.i64 0)]) := by kernel_rfl
theorem st61 : stI Try.prog 61 = some [(0, 1, false), (1, 1, false)] := by kernel_rfl
theorem ty62 : tyI Try.prog 62 = some (7, true, [AV.v (Value.int IntKind.i64 0), AV.v (Value.int IntKind.i64 0), AV.v (Value.slice none 0 0), AV.v (Value.slice none 0 0), AV.v (Value.int IntKind.i64 0), AV.v (Value.slice none 0 0), AV.v (Value.int IntKind.i64 0)]) := by kernel_rfl
theorem st62 : stI Try.prog 62 = some [(0, 1, false), (1, 1, false), (2, 1, false), (3, 2, true), (5, 2, true)] := by kernel_rfl
theorem ty63 : tyI Try.prog 63 = some (7, true, [AV.v (Value.int IntKind.i64 0), AV.v (Value.int IntKind.i64 0), AV.v (Value.slice none 0 0), AV.v (Value.slice none 0 0), AV.v (Value.int IntKind.i64 0), AV.v (Value.slice none 0 0), AV.v (Value.int IntKind.i64 0)]) := by kernel_rfl
theorem st63 : stI Try.prog 63 = some [(0, 1, false), (1, 1, false), (2, 1, false), (3, 2, true), (5, 2, true)] := by kernel_rfl
theorem ty64 : tyI Try.prog 64 = some (1, false, [AV.v (Value.slice none 0 0)]) := by kernel_rfl
theorem sl64 : slI Try.prog 64 = some (24, 1) := by kernel_rfl
theorem ty65 : tyI Try.prog 65 = some (1, false, [AV.v Value.nilFunc]) := by kernel_rfl
theorem ty66 : tyI Try.prog 66 = some (1, false, [AV.v Value.nilFunc]) := by kernel_rfl
theorem ty67 : tyI Try.prog 67 = some (1, false, [AV.v Value.nilFunc]) := by kernel_rfl
theorem ty69 : tyI Try.prog 69 = some (1, false, [AV.v Value.nilFunc]) := by kernel_rfl
theorem ty70 : tyI Try.prog 70 = some (1, false, [AV.v Value.nilFunc]) := by kernel_rfl
theorem ty72 : tyI Try.prog 72 = some (1, false, [AV.v Value.nilFunc]) := by kernel_rfl
theorem ty73 : tyI Try.prog 73 = some (1, false, [AV.v Value.nilFunc]) := by kernel_rfl
theorem ty74 : tyI Try.prog 74 = some (1, false, [AV.v Value.nilFunc]) := by kernel_rfl
theorem ty75 : tyI Try.prog 75 = some (1, false, [AV.v Value.nilFunc]) := by kernel_rfl
theorem ty76 : tyI Try.prog 76 = some (1, false, [AV.v Value.nilFunc]) := by kernel_rfl
theorem ty77 : tyI Try.prog 77 = some (6, true, [AV.v (Value.int IntKind.i64 0), AV.v (Value.int IntKind.i64 0), AV.v (Value.int IntKind.i64 0), AV.v (Value.slice none 0 0), AV.v (Value.slice none 0 0), AV.v (Value.slice none 0 0)]) := by kernel_rfl
theorem st77 : stI Try.prog 77 = some [(0, 1, false), (1, 1, false), (2, 1, false), (3, 1, false), (4, 1, false), (5, 1, false)] := by kernel_rfl
theorem ty78 : tyI Try.prog 78 = some (6, true, [AV.v (Value.int IntKind.i64 0), AV.v (Value.int IntKind.i64 0), AV.v (Value.int IntKind.i64 0), AV.v (Value.slice none 0 0), AV.v (Value.slice none 0 0), AV.v (Value.slice none 0 0)]) := by kernel_rfl
theorem st78 : stI Try.prog 78 = some [(0, 1, false), (1, 1, false), (2, 1, false), (3, 1, false), (4, 1, false), (5, 1, false)] := by kernel_rfl
theorem ty79 : tyI Try.prog 79 = some (1, false, [AV.v Value.nilFunc]) := by kernel_rfl
theorem ty80 : tyI Try.prog 80 = some (1, false, [AV.v Value.nilFunc]) := by kernel_rfl
theorem ty81 : tyI Try.prog 81 = some (1, false, [AV.v Value.nilFunc]) := by kernel_rfl
theorem ty82 : tyI Try.prog 82 = some (1, false, [AV.v (Value.pointer none)]) := by kernel_rfl
theorem ty83 : tyI Try.prog 83 = some (1, false, [AV.v Value.nilFunc]) := by kernel_rfl
theorem ty84 : tyI Try.prog 84 = some (1, false, [AV.v Value.nilFunc]) := by kernel_rfl
theorem ty85 : tyI Try.prog 85 = some (1, false, [AV.v Value.nilFunc]) := by kernel_rfl
theorem ty86 : tyI Try.prog 86 = some (1, false, [AV.v (Value.pointer none)]) := by kernel_rfl
theorem ty87 : tyI Try.prog 87 = some (1, false, [AV.v Value.nilFunc]) := by kernel_rfl
theorem ty88 : tyI Try.prog 88 = some (1, false, [AV.v Value.nilFunc]) := by kernel_rfl
theorem ty89 : tyI Try.prog 89 = some (4, true, [AV.v (Value.pointer none), AV.v (Value.pointer none), AV.v (Value.pointer none), AV.v (Value.string ⟨#[]⟩)]) := by kernel_rfl
theorem st89 : stI Try.prog 89 = some [(0, 1, false), (1, 1, false), (2, 1, false), (3, 1, false)] := by kernel_rfl
theorem ty90 : tyI Try.prog 90 = some (4, true, [AV.v (Value.pointer none), AV.v (Value.pointer none), AV.v (Value.pointer none), AV.v (Value.string ⟨#[]⟩)]) := by kernel_rfl
theorem st90 : stI Try.prog 90 = some [(0, 1, false), (1, 1, false), (2, 1, false), (3, 1, false)] := by kernel_rfl
theorem ty91 : tyI Try.prog 91 = some (0, true, []) := by kernel_rfl
theorem ar91 : arI Try.prog 91 = some (0, 1, false) := by kernel_rfl
theorem ty92 : tyI Try.prog 92 = some (0, true, []) := by kernel_rfl
theorem st92 : stI Try.prog 92 = some [(0, 0, true)] := by kernel_rfl
theorem ty93 : tyI Try.prog 93 = some (0, true, []) := by kernel_rfl
theorem st93 : stI Try.prog 93 = some [(0, 0, true)] := by kernel_rfl
theorem ty94 : tyI Try.prog 94 = some (1, false, [AV.v (Value.int IntKind.u32 0)]) := by kernel_rfl
theorem ty95 : tyI Try.prog 95 = some (1, false, [AV.v (Value.int IntKind.u8 0)]) := by kernel_rfl
theorem ty96 : tyI Try.prog 96 = some (1, false, [AV.v (Value.int IntKind.u8 0)]) := by kernel_rfl
theorem ty97 : tyI Try.prog 97 = some (1, false, [AV.v Value.nilFunc]) := by kernel_rfl
theorem ty98 : tyI Try.prog 98 = some (1, false, [AV.v (Value.pointer none)]) := by kernel_rfl
theorem ty99 : tyI Try.prog 99 = some (1, false, [AV.v (Value.int IntKind.i32 0)]) := by kernel_rfl
theorem ty100 : tyI Try.prog 100 = some (1, false, [AV.v (Value.int IntKind.i32 0)]) := by kernel_rfl
theorem ty101 : tyI Try.prog 101 = some (11, true, [AV.v (Value.int IntKind.u64 0), AV.v (Value.int IntKind.u64 0), AV.v (Value.int IntKind.u32 0), AV.v (Value.int IntKind.u8 0), AV.v (Value.int IntKind.u8 0), AV.v (Value.int IntKind.u8 0), AV.v (Value.int IntKind.u8 0), AV.v Value.nilFunc, AV.v (Value.pointer none), AV.v (Value.int IntKind.i32 0), AV.v (Value.int IntKind.i32 0)]) := by kernel_rfl
theorem st101 : stI Try.prog 101 = some [(0, 1, false), (1, 1, false), (2, 1, false), (3, 1, false), (4, 1, false), (5, 1, false), (6, 1, false), (7, 1, false), (8, 1, false), (9, 1, false), (10, 1, false)] := by kernel_rfl
theorem ty102 : tyI Try.prog 102 = some (11, true, [AV.v (Value.int IntKind.u64 0), AV.v (Value.int IntKind.u64 0), AV.v (Value.int IntKind.u32 0), AV.v (Value.int IntKind.u8 0), AV.v (Value.int IntKind.u8 0), AV.v (Value.int IntKind.u8 0), AV.v (Value.int IntKind.u8 0), AV.v Value.nilFunc, AV.v (Value.pointer none), AV.v (Value.int IntKind.i32 0), AV.v (Value.int IntKind.i32 0)]) := by kernel_rfl
theorem st102 : stI Try.prog 102 = some [(0, 1, false), (1, 1, false), (2, 1, false), (3, 1, false), (4, 1, false), (5, 1, false), (6, 1, false), (7, 1, false), (8, 1, false), (9, 1, false), (10, 1, false)] := by kernel_rfl
theorem ty103 : tyI Try.prog 103 = some (1, false, [AV.v Value.nilFunc]) := by kernel_rfl
theorem ty104 : tyI Try.prog 104 = some (1, false, [AV.v (Value.pointer none)]) := by kernel_rfl
theorem arn7 : arI Try.prog 7 = none := by kernel_rfl
theorem arn8 : arI Try.prog 8 = none := by kernel_rfl
theorem arn13 : arI Try.prog 13 = none := by kernel_rfl
theorem arn14 : arI Try.prog 14 = none := by kernel_rfl
theorem arn18 : arI Try.prog 18 = none := by kernel_rfl
theorem arn19 : arI Try.prog 19 = none := by kernel_rfl
theorem arn31 : arI Try.prog 31 = none := by kernel_rfl
theorem arn32 : arI Try.prog 32 = none := by kernel_rfl
theorem arn48 : arI Try.prog 48 = none := by kernel_rfl
theorem arn49 : arI Try.prog 49 = none := by kernel_rfl
theorem arn53 : arI Try.prog 53 = none := by kernel_rfl
theorem arn54 : arI Try.prog 54 = none := by kernel_rfl
theorem arn58 : arI Try.prog 58 = none := by kernel_rfl
theorem arn59 : arI Try.prog 59 = none := by kernel_rfl
theorem arn60 : arI Try.prog 60 = none := by kernel_rfl
theorem arn61 : arI Try.prog 61 = none := by kernel_rfl
theorem arn62 : arI Try.prog 62 = none := by kernel_rfl
theorem arn63 : arI Try.prog 63 = none := by kernel_rfl
theorem arn77 : arI Try.prog 77 = none := by kernel_rfl
theorem arn78 : arI Try.prog 78 = none := by kernel_rfl
theorem arn89 : arI Try.prog 89 = none := by kernel_rfl
theorem arn90 : arI Try.prog 90 = none := by kernel_rfl
theorem arn92 : arI Try.prog 92 = none := by kernel_rfl
theorem arn93 : arI Try.prog 93 = none := by kernel_rfl
theorem arn101 : arI Try.prog 101 = none := by kernel_rfl
theorem arn102 : arI Try.prog 102 = none := by kernel_rfl
theorem stn91 : stI Try.prog 91 = none := by kernel_rfl
end Go.Proofs.Ytbbgaeopadnglaa

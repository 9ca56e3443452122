/- What the program says of its types. No condition. -/
import Derived.Test.YtckppkimjiifpaaProg
import Derived.Test.YtckppkimjiifpaaCl
namespace Go.Proofs.Ytckppkimjiifpaa
open Go.Am
theorem ty1 : tyI Try.prog 1 = some (1, false, [AV.v Value.nilFunc]) := by kernel_rfl
theorem ty2 : tyI Try.prog 2 = some (1, false, [AV.v (Value.int IntKind.i64 0)]) := by kernel_rfl
theorem ty3 : tyI Try.prog 3 = some (1, false, [AV.v (Value.int IntKind.i64 0)]) := by kernel_rfl
theorem zv3 : zvI Try.prog 3 = some (AV.v (Value.int IntKind.i64 0)) := by kernel_rfl
theorem ty4 : tyI Try.prog 4 = some (1, false, [AV.v (Value.bool false)]) := by kernel_rfl
theorem ty5 : tyI Try.prog 5 = some (1, false, [AV.v (Value.int IntKind.u8 0)]) := by kernel_rfl
theorem ty6 : tyI Try.prog 6 = some (1, false, [AV.v (Value.int IntKind.u8 0)]) := by kernel_rfl
theorem ty7 : tyI Try.prog 7 = some (4, true, [AV.v (Value.int IntKind.i64 0), AV.v (Value.int IntKind.i64 0), AV.v (Value.bool false), AV.v (Value.int IntKind.u8 0)]) := by kernel_rfl
theorem st7 : stI Try.prog 7 = some [(0, 1, false), (1, 1, false), (2, 1, false), (3, 1, false)] := by kernel_rfl
theorem jeq7 {x y : Operand} {cs ds : List AV} {K : Kv} : jbin Try.prog .eql 7 x y (.agg cs) (.agg ds) = (match eqAV [Sc.int IntKind.i64, Sc.int IntKind.i64, Sc.bool, Sc.int IntKind.u8] cs ds with | some b => K.k (.v (.bool (b))) | none => abin Try.prog .eql 7 x y (.agg cs) (.agg ds) K.k) := jbin_agg_eql (by kernel_rfl)
theorem jne7 {x y : Operand} {cs ds : List AV} {K : Kv} : jbin Try.prog .neq 7 x y (.agg cs) (.agg ds) = (match eqAV [Sc.int IntKind.i64, Sc.int IntKind.i64, Sc.bool, Sc.int IntKind.u8] cs ds with | some b => K.k (.v (.bool (!b))) | none => abin Try.prog .neq 7 x y (.agg cs) (.agg ds) K.k) := jbin_agg_neq (by kernel_rfl)
theorem ty8 : tyI Try.prog 8 = some (4, true, [AV.v (Value.int IntKind.i64 0), AV.v (Value.int IntKind.i64 0), AV.v (Value.bool false), AV.v (Value.int IntKind.u8 0)]) := by kernel_rfl
theorem st8 : stI Try.prog 8 = some [(0, 1, false), (1, 1, false), (2, 1, false), (3, 1, false)] := by kernel_rfl
theorem jeq8 {x y : Operand} {cs ds : List AV} {K : Kv} : jbin Try.prog .eql 8 x y (.agg cs) (.agg ds) = (match eqAV [Sc.int IntKind.i64, Sc.int IntKind.i64, Sc.bool, Sc.int IntKind.u8] cs ds with | some b => K.k (.v (.bool (b))) | none => abin Try.prog .eql 8 x y (.agg cs) (.agg ds) K.k) := jbin_agg_eql (by kernel_rfl)
theorem jne8 {x y : Operand} {cs ds : List AV} {K : Kv} : jbin Try.prog .neq 8 x y (.agg cs) (.agg ds) = (match eqAV [Sc.int IntKind.i64, Sc.int IntKind.i64, Sc.bool, Sc.int IntKind.u8] cs ds with | some b => K.k (.v (.bool (!b))) | none => abin Try.prog .neq 8 x y (.agg cs) (.agg ds) K.k) := jbin_agg_neq (by kernel_rfl)
theorem ty9 : tyI Try.prog 9 = some (1, false, [AV.v (Value.string ⟨#[]⟩)]) := by kernel_rfl
theorem ty10 : tyI Try.prog 10 = some (1, false, [AV.v (Value.string ⟨#[]⟩)]) := by kernel_rfl
theorem ty11 : tyI Try.prog 11 = some (1, false, [AV.v (Value.string ⟨#[]⟩)]) := by kernel_rfl
theorem ty12 : tyI Try.prog 12 = some (1, false, [AV.v (Value.int IntKind.u64 0)]) := by kernel_rfl
theorem ty13 : tyI Try.prog 13 = some (2, true, [AV.v (Value.string ⟨#[]⟩), AV.v (Value.int IntKind.u64 0)]) := by kernel_rfl
theorem st13 : stI Try.prog 13 = some [(0, 1, false), (1, 1, false)] := by kernel_rfl
theorem ty14 : tyI Try.prog 14 = some (2, true, [AV.v (Value.string ⟨#[]⟩), AV.v (Value.int IntKind.u64 0)]) := by kernel_rfl
theorem st14 : stI Try.prog 14 = some [(0, 1, false), (1, 1, false)] := by kernel_rfl
theorem ty15 : tyI Try.prog 15 = some (1, false, [AV.v (Value.pointer none)]) := by kernel_rfl
theorem ty16 : tyI Try.prog 16 = some (1, false, [AV.v (Value.pointer none)]) := by kernel_rfl
theorem ty17 : tyI Try.prog 17 = some (1, false, [AV.v (Value.pointer none)]) := by kernel_rfl
theorem ty18 : tyI Try.prog 18 = some (1, true, [AV.v (Value.pointer none)]) := by kernel_rfl
theorem st18 : stI Try.prog 18 = some [(0, 1, false)] := by kernel_rfl
theorem ty19 : tyI Try.prog 19 = some (1, true, [AV.v (Value.pointer none)]) := by kernel_rfl
theorem st19 : stI Try.prog 19 = some [(0, 1, false)] := by kernel_rfl
theorem ty20 : tyI Try.prog 20 = some (1, false, [AV.v Value.nilIface]) := by kernel_rfl
theorem ty21 : tyI Try.prog 21 = some (1, false, [AV.v (Value.int IntKind.i32 0)]) := by kernel_rfl
theorem ty22 : tyI Try.prog 22 = some (1, false, [AV.v (Value.slice none 0 0)]) := by kernel_rfl
theorem sl22 : slI Try.prog 22 = some (30, 4) := by kernel_rfl
theorem ty23 : tyI Try.prog 23 = some (1, false, [AV.v (Value.pointer none)]) := by kernel_rfl
theorem ty24 : tyI Try.prog 24 = some (1, false, [AV.v (Value.int IntKind.i64 0)]) := by kernel_rfl
theorem ty26 : tyI Try.prog 26 = some (1, false, [AV.v Value.nilFunc]) := by kernel_rfl
theorem ty27 : tyI Try.prog 27 = some (1, false, [AV.v Value.nilFunc]) := by kernel_rfl
theorem ty28 : tyI Try.prog 28 = some (1, false, [AV.v Value.nilFunc]) := by kernel_rfl
theorem ty29 : tyI Try.prog 29 = some (4, true, [AV.v (Value.int IntKind.i64 0), AV.v (Value.int IntKind.i64 0), AV.v (Value.int IntKind.i64 0), AV.v (Value.bool false)]) := by kernel_rfl
theorem st29 : stI Try.prog 29 = some [(0, 1, false), (1, 1, false), (2, 1, false), (3, 1, false)] := by kernel_rfl
theorem jeq29 {x y : Operand} {cs ds : List AV} {K : Kv} : jbin Try.prog .eql 29 x y (.agg cs) (.agg ds) = (match eqAV [Sc.int IntKind.i64, Sc.int IntKind.i64, Sc.int IntKind.i64, Sc.bool] cs ds with | some b => K.k (.v (.bool (b))) | none => abin Try.prog .eql 29 x y (.agg cs) (.agg ds) K.k) := jbin_agg_eql (by kernel_rfl)
theorem jne29 {x y : Operand} {cs ds : List AV} {K : Kv} : jbin Try.prog .neq 29 x y (.agg cs) (.agg ds) = (match eqAV [Sc.int IntKind.i64, Sc.int IntKind.i64, Sc.int IntKind.i64, Sc.bool] cs ds with | some b => K.k (.v (.bool (!b))) | none => abin Try.prog .neq 29 x y (.agg cs) (.agg ds) K.k) := jbin_agg_neq (by kernel_rfl)
theorem ty30 : tyI Try.prog 30 = some (4, true, [AV.v (Value.int IntKind.i64 0), AV.v (Value.int IntKind.i64 0), AV.v (Value.int IntKind.i64 0), AV.v (Value.bool false)]) := by kernel_rfl
theorem st30 : stI Try.prog 30 = some [(0, 1, false), (1, 1, false), (2, 1, false), (3, 1, false)] := by kernel_rfl
theorem jeq30 {x y : Operand} {cs ds : List AV} {K : Kv} : jbin Try.prog .eql 30 x y (.agg cs) (.agg ds) = (match eqAV [Sc.int IntKind.i64, Sc.int IntKind.i64, Sc.int IntKind.i64, Sc.bool] cs ds with | some b => K.k (.v (.bool (b))) | none => abin Try.prog .eql 30 x y (.agg cs) (.agg ds) K.k) := jbin_agg_eql (by kernel_rfl)
theorem jne30 {x y : Operand} {cs ds : List AV} {K : Kv} : jbin Try.prog .neq 30 x y (.agg cs) (.agg ds) = (match eqAV [Sc.int IntKind.i64, Sc.int IntKind.i64, Sc.int IntKind.i64, Sc.bool] cs ds with | some b => K.k (.v (.bool (!b))) | none => abin Try.prog .neq 30 x y (.agg cs) (.agg ds) K.k) := jbin_agg_neq (by kernel_rfl)
theorem ty31 : tyI Try.prog 31 = some (1, false, [AV.v Value.nilFunc]) := by kernel_rfl
theorem ty32 : tyI Try.prog 32 = some (1, false, [AV.v (Value.slice none 0 0)]) := by kernel_rfl
theorem sl32 : slI Try.prog 32 = some (35, 2) := by kernel_rfl
theorem ty33 : tyI Try.prog 33 = some (1, false, [AV.v Value.nilFunc]) := by kernel_rfl
theorem ty34 : tyI Try.prog 34 = some (2, true, [AV.v (Value.int IntKind.i64 0), AV.v (Value.bool false)]) := by kernel_rfl
theorem st34 : stI Try.prog 34 = some [(0, 1, false), (1, 1, false)] := by kernel_rfl
theorem jeq34 {x y : Operand} {cs ds : List AV} {K : Kv} : jbin Try.prog .eql 34 x y (.agg cs) (.agg ds) = (match eqAV [Sc.int IntKind.i64, Sc.bool] cs ds with | some b => K.k (.v (.bool (b))) | none => abin Try.prog .eql 34 x y (.agg cs) (.agg ds) K.k) := jbin_agg_eql (by kernel_rfl)
theorem jne34 {x y : Operand} {cs ds : List AV} {K : Kv} : jbin Try.prog .neq 34 x y (.agg cs) (.agg ds) = (match eqAV [Sc.int IntKind.i64, Sc.bool] cs ds with | some b => K.k (.v (.bool (!b))) | none => abin Try.prog .neq 34 x y (.agg cs) (.agg ds) K.k) := jbin_agg_neq (by kernel_rfl)
theorem ty35 : tyI Try.prog 35 = some (2, true, [AV.v (Value.int IntKind.i64 0), AV.v (Value.bool false)]) := by kernel_rfl
theorem st35 : stI Try.prog 35 = some [(0, 1, false), (1, 1, false)] := by kernel_rfl
theorem jeq35 {x y : Operand} {cs ds : List AV} {K : Kv} : jbin Try.prog .eql 35 x y (.agg cs) (.agg ds) = (match eqAV [Sc.int IntKind.i64, Sc.bool] cs ds with | some b => K.k (.v (.bool (b))) | none => abin Try.prog .eql 35 x y (.agg cs) (.agg ds) K.k) := jbin_agg_eql (by kernel_rfl)
theorem jne35 {x y : Operand} {cs ds : List AV} {K : Kv} : jbin Try.prog .neq 35 x y (.agg cs) (.agg ds) = (match eqAV [Sc.int IntKind.i64, Sc.bool] cs ds with | some b => K.k (.v (.bool (!b))) | none => abin Try.prog .neq 35 x y (.agg cs) (.agg ds) K.k) := jbin_agg_neq (by kernel_rfl)
theorem ty37 : tyI Try.prog 37 = some (1, false, [AV.v Value.nilFunc]) := by kernel_rfl
theorem ty38 : tyI Try.prog 38 = some (1, false, [AV.v (Value.slice none 0 0)]) := by kernel_rfl
theorem sl38 : slI Try.prog 38 = some (3, 1) := by kernel_rfl
theorem ty39 : tyI Try.prog 39 = some (1, false, [AV.v Value.nilFunc]) := by kernel_rfl
theorem ty41 : tyI Try.prog 41 = some (1, false, [AV.v Value.nilFunc]) := by kernel_rfl
theorem ty42 : tyI Try.prog 42 = some (1, false, [AV.v Value.nilFunc]) := by kernel_rfl
theorem ty43 : tyI Try.prog 43 = some (1, false, [AV.v Value.nilFunc]) := by kernel_rfl
theorem ty44 : tyI Try.prog 44 = some (1, false, [AV.v (Value.pointer none)]) := by kernel_rfl
theorem ty46 : tyI Try.prog 46 = some (1, false, [AV.v Value.nilFunc]) := by kernel_rfl
theorem ty47 : tyI Try.prog 47 = some (1, false, [AV.v (Value.pointer none)]) := by kernel_rfl
theorem ty48 : tyI Try.prog 48 = some (2, true, [AV.v (Value.pointer none), AV.v (Value.pointer none)]) := by kernel_rfl
theorem st48 : stI Try.prog 48 = some [(0, 1, false), (1, 1, false)] := by kernel_rfl
theorem ty49 : tyI Try.prog 49 = some (2, true, [AV.v (Value.pointer none), AV.v (Value.pointer none)]) := by kernel_rfl
theorem st49 : stI Try.prog 49 = some [(0, 1, false), (1, 1, false)] := by kernel_rfl
theorem ty50 : tyI Try.prog 50 = some (1, false, [AV.v Value.nilFunc]) := by kernel_rfl
theorem ty51 : tyI Try.prog 51 = some (1, false, [AV.v Value.nilFunc]) := by kernel_rfl
theorem ty52 : tyI Try.prog 52 = some (1, false, [AV.v (Value.slice none 0 0)]) := by kernel_rfl
theorem sl52 : slI Try.prog 52 = some (60, 1) := by kernel_rfl
theorem ty53 : tyI Try.prog 53 = some (1, true, [AV.v (Value.slice none 0 0)]) := by kernel_rfl
theorem st53 : stI Try.prog 53 = some [(0, 1, false)] := by kernel_rfl
theorem ty54 : tyI Try.prog 54 = some (1, true, [AV.v (Value.slice none 0 0)]) := by kernel_rfl
theorem st54 : stI Try.prog 54 = some [(0, 1, false)] := by kernel_rfl
theorem ty55 : tyI Try.prog 55 = some (1, false, [AV.v (Value.slice none 0 0)]) := by kernel_rfl
theorem sl55 : slI Try.prog 55 = some (23, 1) := by kernel_rfl
theorem ty57 : tyI Try.prog 57 = some (1, false, [AV.v Value.nilFunc]) := by kernel_rfl
theorem ty58 : tyI Try.prog 58 = some (1, false, [AV.v Value.nilFunc]) := by kernel_rfl
theorem ty59 : tyI Try.prog 59 = some (1, false, [AV.v Value.nilFunc]) := by kernel_rfl
theorem ty60 : tyI Try.prog 60 = some (1, false, [AV.v (Value.pointer none)]) := by kernel_rfl
theorem ty61 : tyI Try.prog 61 = some (1, false, [AV.v (Value.map none)]) := by kernel_rfl
theorem mp61 : mpI Try.prog 61 = some (3, 3) := by kernel_rfl
theorem ty62 : tyI Try.prog 62 = some (1, false, [AV.v (Value.slice none 0 0)]) := by kernel_rfl
theorem sl62 : slI Try.prog 62 = some (67, 2) := by kernel_rfl
theorem ty63 : tyI Try.prog 63 = some (2, true, [AV.v (Value.map none), AV.v (Value.slice none 0 0)]) := by kernel_rfl
theorem st63 : stI Try.prog 63 = some [(0, 1, false), (1, 1, false)] := by kernel_rfl
theorem ty64 : tyI Try.prog 64 = some (2, true, [AV.v (Value.map none), AV.v (Value.slice none 0 0)]) := by kernel_rfl
theorem st64 : stI Try.prog 64 = some [(0, 1, false), (1, 1, false)] := by kernel_rfl
theorem ty65 : tyI Try.prog 65 = some (1, false, [AV.v (Value.int IntKind.u64 0)]) := by kernel_rfl
theorem ty66 : tyI Try.prog 66 = some (2, true, [AV.v (Value.int IntKind.i64 0), AV.v (Value.bool false)]) := by kernel_rfl
theorem st66 : stI Try.prog 66 = some [(0, 1, false), (1, 1, false)] := by kernel_rfl
theorem jeq66 {x y : Operand} {cs ds : List AV} {K : Kv} : jbin Try.prog .eql 66 x y (.agg cs) (.agg ds) = (match eqAV [Sc.int IntKind.i64, Sc.bool] cs ds with | some b => K.k (.v (.bool (b))) | none => abin Try.prog .eql 66 x y (.agg cs) (.agg ds) K.k) := jbin_agg_eql (by kernel_rfl)
theorem jne66 {x y : Operand} {cs ds : List AV} {K : Kv} : jbin Try.prog .neq 66 x y (.agg cs) (.agg ds) = (match eqAV [Sc.int IntKind.i64, Sc.bool] cs ds with | some b => K.k (.v (.bool (!b))) | none => abin Try.prog .neq 66 x y (.agg cs) (.agg ds) K.k) := jbin_agg_neq (by kernel_rfl)
theorem ty67 : tyI Try.prog 67 = some (2, true, [AV.v (Value.int IntKind.i64 0), AV.v (Value.bool false)]) := by kernel_rfl
theorem st67 : stI Try.prog 67 = some [(0, 1, false), (1, 1, false)] := by kernel_rfl
theorem jeq67 {x y : Operand} {cs ds : List AV} {K : Kv} : jbin Try.prog .eql 67 x y (.agg cs) (.agg ds) = (match eqAV [Sc.int IntKind.i64, Sc.bool] cs ds with | some b => K.k (.v (.bool (b))) | none => abin Try.prog .eql 67 x y (.agg cs) (.agg ds) K.k) := jbin_agg_eql (by kernel_rfl)
theorem jne67 {x y : Operand} {cs ds : List AV} {K : Kv} : jbin Try.prog .neq 67 x y (.agg cs) (.agg ds) = (match eqAV [Sc.int IntKind.i64, Sc.bool] cs ds with | some b => K.k (.v (.bool (!b))) | none => abin Try.prog .neq 67 x y (.agg cs) (.agg ds) K.k) := jbin_agg_neq (by kernel_rfl)
theorem ty68 : tyI Try.prog 68 = some (1, false, [AV.v Value.nilFunc]) := by kernel_rfl
theorem ty69 : tyI Try.prog 69 = some (1, false, [AV.v Value.nilFunc]) := by kernel_rfl
theorem ty70 : tyI Try.prog 70 = some (1, false, [AV.v Value.nilFunc]) := by kernel_rfl
theorem ty71 : tyI Try.prog 71 = some (1, false, [AV.v Value.nilFunc]) := by kernel_rfl
theorem ty72 : tyI Try.prog 72 = some (1, false, [AV.v Value.nilFunc]) := by kernel_rfl
theorem ty73 : tyI Try.prog 73 = some (1, false, [AV.v (Value.slice none 0 0)]) := by kernel_rfl
theorem sl73 : slI Try.prog 73 = some (91, 3) := by kernel_rfl
theorem ty74 : tyI Try.prog 74 = some (3, true, [AV.v (Value.int IntKind.i64 0), AV.v (Value.slice none 0 0), AV.v (Value.slice none 0 0)]) := by kernel_rfl
theorem st74 : stI Try.prog 74 = some [(0, 1, false), (1, 1, false), (2, 1, false)] := by kernel_rfl
theorem ty75 : tyI Try.prog 75 = some (3, true, [AV.v (Value.int IntKind.i64 0), AV.v (Value.slice none 0 0), AV.v (Value.slice none 0 0)]) := by kernel_rfl
theorem st75 : stI Try.prog 75 = some [(0, 1, false), (1, 1, false), (2, 1, false)] := by kernel_rfl
theorem ty77 : tyI Try.prog 77 = some (1, false, [AV.v Value.nilFunc]) := by kernel_rfl
theorem ty79 : tyI Try.prog 79 = some (1, false, [AV.v Value.nilFunc]) := by kernel_rfl
theorem ty80 : tyI Try.prog 80 = some (1, false, [AV.v Value.nilFunc]) := by kernel_rfl
theorem ty81 : tyI Try.prog 81 = some (1, false, [AV.v Value.nilFunc]) := by kernel_rfl
theorem ty82 : tyI Try.prog 82 = some (1, false, [AV.v Value.nilFunc]) := by kernel_rfl
theorem ty83 : tyI Try.prog 83 = some (1, false, [AV.v Value.nilFunc]) := by kernel_rfl
theorem ty84 : tyI Try.prog 84 = some (1, false, [AV.v Value.nilFunc]) := by kernel_rfl
theorem ty85 : tyI Try.prog 85 = some (1, false, [AV.v Value.nilFunc]) := by kernel_rfl
theorem ty86 : tyI Try.prog 86 = some (1, false, [AV.v Value.nilFunc]) := by kernel_rfl
theorem ty87 : tyI Try.prog 87 = some (1, false, [AV.v Value.nilFunc]) := by kernel_rfl
theorem ty88 : tyI Try.prog 88 = some (1, false, [AV.v Value.nilFunc]) := by kernel_rfl
theorem ty89 : tyI Try.prog 89 = some (1, false, [AV.v Value.nilFunc]) := by kernel_rfl
theorem ty90 : tyI Try.prog 90 = some (3, true, [AV.v (Value.int IntKind.i64 0), AV.v (Value.int IntKind.i64 0), AV.v (Value.bool false)]) := by kernel_rfl
theorem st90 : stI Try.prog 90 = some [(0, 1, false), (1, 2, true)] := by kernel_rfl
theorem jeq90 {x y : Operand} {cs ds : List AV} {K : Kv} : jbin Try.prog .eql 90 x y (.agg cs) (.agg ds) = (match eqAV [Sc.int IntKind.i64, Sc.int IntKind.i64, Sc.bool] cs ds with | some b => K.k (.v (.bool (b))) | none => abin Try.prog .eql 90 x y (.agg cs) (.agg ds) K.k) := jbin_agg_eql (by kernel_rfl)
theorem jne90 {x y : Operand} {cs ds : List AV} {K : Kv} : jbin Try.prog .neq 90 x y (.agg cs) (.agg ds) = (match eqAV [Sc.int IntKind.i64, Sc.int IntKind.i64, Sc.bool] cs ds with | some b => K.k (.v (.bool (!b))) | none => abin Try.prog .neq 90 x y (.agg cs) (.agg ds) K.k) := jbin_agg_neq (by kernel_rfl)
theorem ty91 : tyI Try.prog 91 = some (3, true, [AV.v (Value.int IntKind.i64 0), AV.v (Value.int IntKind.i64 0), AV.v (Value.bool false)]) := by kernel_rfl
theorem st91 : stI Try.prog 91 = some [(0, 1, false), (1, 2, true)] := by kernel_rfl
theorem jeq91 {x y : Operand} {cs ds : List AV} {K : Kv} : jbin Try.prog .eql 91 x y (.agg cs) (.agg ds) = (match eqAV [Sc.int IntKind.i64, Sc.int IntKind.i64, Sc.bool] cs ds with | some b => K.k (.v (.bool (b))) | none => abin Try.prog .eql 91 x y (.agg cs) (.agg ds) K.k) := jbin_agg_eql (by kernel_rfl)
theorem jne91 {x y : Operand} {cs ds : List AV} {K : Kv} : jbin Try.prog .neq 91 x y (.agg cs) (.agg ds) = (match eqAV [Sc.int IntKind.i64, Sc.int IntKind.i64, Sc.bool] cs ds with | some b => K.k (.v (.bool (!b))) | none => abin Try.prog .neq 91 x y (.agg cs) (.agg ds) K.k) := jbin_agg_neq (by kernel_rfl)
theorem ty92 : tyI Try.prog 92 = some (1, false, [AV.v Value.nilFunc]) := by kernel_rfl
theorem ty93 : tyI Try.prog 93 = some (1, false, [AV.v Value.nilFunc]) := by kernel_rfl
theorem ty94 : tyI Try.prog 94 = some (1, false, [AV.v (Value.int IntKind.i64 0)]) := by kernel_rfl
theorem ty96 : tyI Try.prog 96 = some (1, false, [AV.v Value.nilFunc]) := by kernel_rfl
theorem ty97 : tyI Try.prog 97 = some (1, false, [AV.v Value.nilFunc]) := by kernel_rfl
theorem ty98 : tyI Try.prog 98 = some (1, false, [AV.v Value.nilFunc]) := by kernel_rfl
theorem ty100 : tyI Try.prog 100 = some (1, false, [AV.v Value.nilFunc]) := by kernel_rfl
theorem ty101 : tyI Try.prog 101 = some (1, false, [AV.v Value.nilFunc]) := by kernel_rfl
theorem ty102 : tyI Try.prog 102 = some (1, false, [AV.v (Value.int IntKind.u32 0)]) := by kernel_rfl
theorem ty103 : tyI Try.prog 103 = some (1, false, [AV.v Value.nilFunc]) := by kernel_rfl
theorem ty104 : tyI Try.prog 104 = some (1, false, [AV.v (Value.int IntKind.u64 0)]) := by kernel_rfl
theorem ty105 : tyI Try.prog 105 = some (1, false, [AV.v (Value.int IntKind.u64 0)]) := by kernel_rfl
theorem ty106 : tyI Try.prog 106 = some (1, false, [AV.v Value.nilFunc]) := by kernel_rfl
theorem ty107 : tyI Try.prog 107 = some (1, false, [AV.v Value.nilFunc]) := by kernel_rfl
theorem ty108 : tyI Try.prog 108 = some (1, false, [AV.v Value.nilFunc]) := by kernel_rfl
theorem ty109 : tyI Try.prog 109 = some (1, false, [AV.v (Value.pointer none)]) := by kernel_rfl
theorem ty110 : tyI Try.prog 110 = some (1, false, [AV.v Value.nilFunc]) := by kernel_rfl
theorem ty111 : tyI Try.prog 111 = some (1, false, [AV.v (Value.pointer none)]) := by kernel_rfl
theorem ty113 : tyI Try.prog 113 = some (1, false, [AV.v Value.nilFunc]) := by kernel_rfl
theorem ty114 : tyI Try.prog 114 = some (1, false, [AV.v Value.nilFunc]) := by kernel_rfl
theorem ty115 : tyI Try.prog 115 = some (4, true, [AV.v (Value.pointer none), AV.v (Value.pointer none), AV.v (Value.pointer none), AV.v (Value.string ⟨#[]⟩)]) := by kernel_rfl
theorem st115 : stI Try.prog 115 = some [(0, 1, false), (1, 1, false), (2, 1, false), (3, 1, false)] := by kernel_rfl
theorem ty116 : tyI Try.prog 116 = some (4, true, [AV.v (Value.pointer none), AV.v (Value.pointer none), AV.v (Value.pointer none), AV.v (Value.string ⟨#[]⟩)]) := by kernel_rfl
theorem st116 : stI Try.prog 116 = some [(0, 1, false), (1, 1, false), (2, 1, false), (3, 1, false)] := by kernel_rfl
theorem ty117 : tyI Try.prog 117 = some (0, true, []) := by kernel_rfl
theorem ar117 : arI Try.prog 117 = some (0, 1, false) := by kernel_rfl
theorem ty118 : tyI Try.prog 118 = some (0, true, []) := by kernel_rfl
theorem st118 : stI Try.prog 118 = some [(0, 0, true)] := by kernel_rfl
theorem ty119 : tyI Try.prog 119 = some (0, true, []) := by kernel_rfl
theorem st119 : stI Try.prog 119 = some [(0, 0, true)] := by kernel_rfl
theorem ty120 : tyI Try.prog 120 = some (1, false, [AV.v (Value.int IntKind.u8 0)]) := by kernel_rfl
theorem ty121 : tyI Try.prog 121 = some (1, false, [AV.v (Value.int IntKind.u8 0)]) := by kernel_rfl
theorem ty122 : tyI Try.prog 122 = some (1, false, [AV.v Value.nilFunc]) := by kernel_rfl
theorem ty123 : tyI Try.prog 123 = some (1, false, [AV.v (Value.pointer none)]) := by kernel_rfl
theorem ty124 : tyI Try.prog 124 = some (1, false, [AV.v (Value.int IntKind.i32 0)]) := by kernel_rfl
theorem ty125 : tyI Try.prog 125 = some (1, false, [AV.v (Value.int IntKind.i32 0)]) := by kernel_rfl
theorem ty126 : tyI Try.prog 126 = some (11, true, [AV.v (Value.int IntKind.u64 0), AV.v (Value.int IntKind.u64 0), AV.v (Value.int IntKind.u32 0), AV.v (Value.int IntKind.u8 0), AV.v (Value.int IntKind.u8 0), AV.v (Value.int IntKind.u8 0), AV.v (Value.int IntKind.u8 0), AV.v Value.nilFunc, AV.v (Value.pointer none), AV.v (Value.int IntKind.i32 0), AV.v (Value.int IntKind.i32 0)]) := by kernel_rfl
theorem st126 : stI Try.prog 126 = some [(0, 1, false), (1, 1, false), (2, 1, false), (3, 1, false), (4, 1, false), (5, 1, false), (6, 1, false), (7, 1, false), (8, 1, false), (9, 1, false), (10, 1, false)] := by kernel_rfl
theorem ty127 : tyI Try.prog 127 = some (11, true, [AV.v (Value.int IntKind.u64 0), AV.v (Value.int IntKind.u64 0), AV.v (Value.int IntKind.u32 0), AV.v (Value.int IntKind.u8 0), AV.v (Value.int IntKind.u8 0), AV.v (Value.int IntKind.u8 0), AV.v (Value.int IntKind.u8 0), AV.v Value.nilFunc, AV.v (Value.pointer none), AV.v (Value.int IntKind.i32 0), AV.v (Value.int IntKind.i32 0)]) := by kernel_rfl
theorem st127 : stI Try.prog 127 = some [(0, 1, false), (1, 1, false), (2, 1, false), (3, 1, false), (4, 1, false), (5, 1, false), (6, 1, false), (7, 1, false), (8, 1, false), (9, 1, false), (10, 1, false)] := by kernel_rfl
theorem ty128 : tyI Try.prog 128 = some (1, false, [AV.v (Value.pointer none)]) := by kernel_rfl
theorem arn7 : arI Try.prog 7 = none := by kernel_rfl
theorem arn8 : arI Try.prog 8 = none := by kernel_rfl
theorem arn13 : arI Try.prog 13 = none := by kernel_rfl
theorem arn14 : arI Try.prog 14 = none := by kernel_rfl
theorem arn18 : arI Try.prog 18 = none := by kernel_rfl
theorem arn19 : arI Try.prog 19 = none := by kernel_rfl
theorem arn29 : arI Try.prog 29 = none := by kernel_rfl
theorem arn30 : arI Try.prog 30 = none := by kernel_rfl
theorem arn34 : arI Try.prog 34 = none := by kernel_rfl
theorem arn35 : arI Try.prog 35 = none := by kernel_rfl
theorem arn48 : arI Try.prog 48 = none := by kernel_rfl
theorem arn49 : arI Try.prog 49 = none := by kernel_rfl
theorem arn53 : arI Try.prog 53 = none := by kernel_rfl
theorem arn54 : arI Try.prog 54 = none := by kernel_rfl
theorem arn63 : arI Try.prog 63 = none := by kernel_rfl
theorem arn64 : arI Try.prog 64 = none := by kernel_rfl
theorem arn66 : arI Try.prog 66 = none := by kernel_rfl
theorem arn67 : arI Try.prog 67 = none := by kernel_rfl
theorem arn74 : arI Try.prog 74 = none := by kernel_rfl
theorem arn75 : arI Try.prog 75 = none := by kernel_rfl
theorem arn90 : arI Try.prog 90 = none := by kernel_rfl
theorem arn91 : arI Try.prog 91 = none := by kernel_rfl
theorem arn115 : arI Try.prog 115 = none := by kernel_rfl
theorem arn116 : arI Try.prog 116 = none := by kernel_rfl
theorem arn118 : arI Try.prog 118 = none := by kernel_rfl
theorem arn119 : arI Try.prog 119 = none := by kernel_rfl
theorem arn126 : arI Try.prog 126 = none := by kernel_rfl
theorem arn127 : arI Try.prog 127 = none := by kernel_rfl
theorem stn117 : stI Try.prog 117 = none := by kernel_rfl
end Go.Proofs.Ytckppkimjiifpaa

/- Facts of this seat's tables of types. No condition. -/
import Derived.Test.YtoacjmckefahcaaRows2
import Derived.Test.YtoacjmckefahcaaChecked
import Derived.KernelRfl
set_option linter.unusedVariables false
set_option linter.unusedSimpArgs false
namespace Go.Proofs.Ytoacjmckefahcaa
open Go Go.Sim

theorem mixed : Try.prog.follows .mixedOrders = true := by kernel_rfl
theorem ti1 : tinfo Try.prog 1 = some ⟨1, 8, false, [.nilFunc]⟩ := by kernel_rfl
theorem ti2 : tinfo Try.prog 2 = some ⟨1, 8, false, [.int .i64 0]⟩ := by kernel_rfl
theorem tk2 : tint Try.prog 2 = some .i64 := by kernel_rfl
theorem ti3 : tinfo Try.prog 3 = some ⟨1, 8, false, [.int .i64 0]⟩ := by kernel_rfl
theorem te3 : telem Try.prog 3 = none := by kernel_rfl
theorem ts3 : tstr Try.prog 3 = false := by kernel_rfl
theorem tk3 : tint Try.prog 3 = some .i64 := by kernel_rfl
theorem tz3 : tsome Try.prog 3 = true := by kernel_rfl
theorem ti4 : tinfo Try.prog 4 = some ⟨1, 1, false, [.bool false]⟩ := by kernel_rfl
theorem tb4 : tbool Try.prog 4 = true := by kernel_rfl
theorem ti5 : tinfo Try.prog 5 = some ⟨1, 1, false, [.int .u8 0]⟩ := by kernel_rfl
theorem tk5 : tint Try.prog 5 = some .u8 := by kernel_rfl
theorem tz5 : tsome Try.prog 5 = true := by kernel_rfl
theorem ti9 : tinfo Try.prog 9 = some ⟨1, 16, false, [(.string ⟨[].toArray⟩)]⟩ := by kernel_rfl
theorem te9 : telem Try.prog 9 = none := by kernel_rfl
theorem ts9 : tstr Try.prog 9 = true := by kernel_rfl
theorem tk9 : tint Try.prog 9 = none := by kernel_rfl
theorem tz9 : tsome Try.prog 9 = true := by kernel_rfl
theorem ti12 : tinfo Try.prog 12 = some ⟨1, 8, false, [.int .u64 0]⟩ := by kernel_rfl
theorem tk12 : tint Try.prog 12 = some .u64 := by kernel_rfl
theorem ti13 : tinfo Try.prog 13 = some ⟨2, 24, true, [(.string ⟨[].toArray⟩), .int .u64 0]⟩ := by kernel_rfl
theorem tp13 : tplaces Try.prog 13 = some [(0, 1), (1, 1)] := by kernel_rfl
theorem tf13_0 : tfield Try.prog 13 0 = some (0, 9) := by kernel_rfl
theorem tf13_1 : tfield Try.prog 13 1 = some (1, 12) := by kernel_rfl
theorem ti20 : tinfo Try.prog 20 = some ⟨1, 16, false, [.nilIface]⟩ := by kernel_rfl
theorem ti21 : tinfo Try.prog 21 = some ⟨1, 4, false, [.int .i32 0]⟩ := by kernel_rfl
theorem tk21 : tint Try.prog 21 = some .i32 := by kernel_rfl
theorem tz21 : tsome Try.prog 21 = true := by kernel_rfl
theorem ti22 : tinfo Try.prog 22 = some ⟨1, 24, false, [(.slice none 0 0)]⟩ := by kernel_rfl
theorem te22 : telem Try.prog 22 = some 77 := by kernel_rfl
theorem ti23 : tinfo Try.prog 23 = some ⟨1, 24, true, [(.slice none 0 0)]⟩ := by kernel_rfl
theorem tp23 : tplaces Try.prog 23 = some [(0, 1)] := by kernel_rfl
theorem tf23_0 : tfield Try.prog 23 0 = some (0, 22) := by kernel_rfl
theorem ti24 : tinfo Try.prog 24 = some ⟨1, 24, true, [(.slice none 0 0)]⟩ := by kernel_rfl
theorem tp24 : tplaces Try.prog 24 = some [(0, 1)] := by kernel_rfl
theorem tf24_0 : tfield Try.prog 24 0 = some (0, 22) := by kernel_rfl
theorem ti25 : tinfo Try.prog 25 = some ⟨1, 24, false, [(.slice none 0 0)]⟩ := by kernel_rfl
theorem te25 : telem Try.prog 25 = some 42 := by kernel_rfl
theorem ti26 : tinfo Try.prog 26 = some ⟨1, 8, false, [.nilFunc]⟩ := by kernel_rfl
theorem ti27 : tinfo Try.prog 27 = some ⟨1, 8, false, [.nilFunc]⟩ := by kernel_rfl
theorem ti28 : tinfo Try.prog 28 = some ⟨1, 8, false, [.nilFunc]⟩ := by kernel_rfl
theorem ti29 : tinfo Try.prog 29 = some ⟨1, 8, false, [.nilFunc]⟩ := by kernel_rfl
theorem ti30 : tinfo Try.prog 30 = some ⟨1, 24, false, [(.slice none 0 0)]⟩ := by kernel_rfl
theorem te30 : telem Try.prog 30 = some 3 := by kernel_rfl
theorem ti31 : tinfo Try.prog 31 = some ⟨1, 24, false, [(.slice none 0 0)]⟩ := by kernel_rfl
theorem te31 : telem Try.prog 31 = some 81 := by kernel_rfl
theorem ti32 : tinfo Try.prog 32 = some ⟨1, 24, true, [(.slice none 0 0)]⟩ := by kernel_rfl
theorem tp32 : tplaces Try.prog 32 = some [(0, 1)] := by kernel_rfl
theorem tf32_0 : tfield Try.prog 32 0 = some (0, 31) := by kernel_rfl
theorem ti33 : tinfo Try.prog 33 = some ⟨1, 24, true, [(.slice none 0 0)]⟩ := by kernel_rfl
theorem tp33 : tplaces Try.prog 33 = some [(0, 1)] := by kernel_rfl
theorem tf33_0 : tfield Try.prog 33 0 = some (0, 31) := by kernel_rfl
theorem ti34 : tinfo Try.prog 34 = some ⟨4, 64, true, [(.slice none 0 0), .int .i64 0, .int .i64 0, (.slice none 0 0)]⟩ := by kernel_rfl
theorem tp34 : tplaces Try.prog 34 = some [(0, 1), (1, 1), (2, 1), (3, 1)] := by kernel_rfl
theorem tf34_0 : tfield Try.prog 34 0 = some (0, 30) := by kernel_rfl
theorem tf34_1 : tfield Try.prog 34 1 = some (1, 3) := by kernel_rfl
theorem tf34_2 : tfield Try.prog 34 2 = some (2, 3) := by kernel_rfl
theorem tf34_3 : tfield Try.prog 34 3 = some (3, 33) := by kernel_rfl
theorem ti35 : tinfo Try.prog 35 = some ⟨4, 64, true, [(.slice none 0 0), .int .i64 0, .int .i64 0, (.slice none 0 0)]⟩ := by kernel_rfl
theorem tp35 : tplaces Try.prog 35 = some [(0, 1), (1, 1), (2, 1), (3, 1)] := by kernel_rfl
theorem tf35_0 : tfield Try.prog 35 0 = some (0, 30) := by kernel_rfl
theorem tf35_1 : tfield Try.prog 35 1 = some (1, 3) := by kernel_rfl
theorem tf35_2 : tfield Try.prog 35 2 = some (2, 3) := by kernel_rfl
theorem tf35_3 : tfield Try.prog 35 3 = some (3, 33) := by kernel_rfl
theorem ti36 : tinfo Try.prog 36 = some ⟨1, 8, false, [.nilFunc]⟩ := by kernel_rfl
theorem ti37 : tinfo Try.prog 37 = some ⟨1, 24, false, [(.slice none 0 0)]⟩ := by kernel_rfl
theorem te37 : telem Try.prog 37 = some 5 := by kernel_rfl
theorem tz37 : tsome Try.prog 37 = true := by kernel_rfl
theorem ti39 : tinfo Try.prog 39 = some ⟨1, 8, false, [.nilFunc]⟩ := by kernel_rfl
theorem ti40 : tinfo Try.prog 40 = some ⟨1, 8, false, [.nilFunc]⟩ := by kernel_rfl
theorem ti41 : tinfo Try.prog 41 = some ⟨4, 32, true, [.int .i64 0, .int .i64 0, .int .i64 0, .int .i64 0]⟩ := by kernel_rfl
theorem tq41 : teq Try.prog 41 = some [.i, .i, .i, .i] := by kernel_rfl
theorem tp41 : tplaces Try.prog 41 = some [(0, 1), (1, 1), (2, 1), (3, 1)] := by kernel_rfl
theorem tf41_0 : tfield Try.prog 41 0 = some (0, 3) := by kernel_rfl
theorem tf41_1 : tfield Try.prog 41 1 = some (1, 3) := by kernel_rfl
theorem tf41_2 : tfield Try.prog 41 2 = some (2, 3) := by kernel_rfl
theorem tf41_3 : tfield Try.prog 41 3 = some (3, 3) := by kernel_rfl
theorem ti42 : tinfo Try.prog 42 = some ⟨4, 32, true, [.int .i64 0, .int .i64 0, .int .i64 0, .int .i64 0]⟩ := by kernel_rfl
theorem tq42 : teq Try.prog 42 = some [.i, .i, .i, .i] := by kernel_rfl
theorem tp42 : tplaces Try.prog 42 = some [(0, 1), (1, 1), (2, 1), (3, 1)] := by kernel_rfl
theorem tf42_0 : tfield Try.prog 42 0 = some (0, 3) := by kernel_rfl
theorem tf42_1 : tfield Try.prog 42 1 = some (1, 3) := by kernel_rfl
theorem tf42_2 : tfield Try.prog 42 2 = some (2, 3) := by kernel_rfl
theorem tf42_3 : tfield Try.prog 42 3 = some (3, 3) := by kernel_rfl
theorem ti43 : tinfo Try.prog 43 = some ⟨1, 8, false, [.nilFunc]⟩ := by kernel_rfl
theorem ti44 : tinfo Try.prog 44 = some ⟨1, 8, false, [.nilFunc]⟩ := by kernel_rfl
theorem ti45 : tinfo Try.prog 45 = some ⟨1, 8, false, [.nilFunc]⟩ := by kernel_rfl
theorem ti46 : tinfo Try.prog 46 = some ⟨1, 8, false, [.map none]⟩ := by kernel_rfl
theorem ti47 : tinfo Try.prog 47 = some ⟨1, 8, false, [.nilFunc]⟩ := by kernel_rfl
theorem ti48 : tinfo Try.prog 48 = some ⟨1, 8, false, [.nilFunc]⟩ := by kernel_rfl
theorem ti49 : tinfo Try.prog 49 = some ⟨1, 8, false, [.nilFunc]⟩ := by kernel_rfl
theorem ti50 : tinfo Try.prog 50 = some ⟨1, 8, false, [.nilFunc]⟩ := by kernel_rfl
theorem ti51 : tinfo Try.prog 51 = some ⟨1, 8, false, [.nilFunc]⟩ := by kernel_rfl
theorem ti52 : tinfo Try.prog 52 = some ⟨1, 8, false, [.nilFunc]⟩ := by kernel_rfl
theorem ti53 : tinfo Try.prog 53 = some ⟨1, 8, false, [.nilFunc]⟩ := by kernel_rfl
theorem ti54 : tinfo Try.prog 54 = some ⟨1, 8, false, [.nilFunc]⟩ := by kernel_rfl
theorem ti55 : tinfo Try.prog 55 = some ⟨1, 8, false, [.nilFunc]⟩ := by kernel_rfl
theorem ti56 : tinfo Try.prog 56 = some ⟨1, 8, false, [.pointer none]⟩ := by kernel_rfl
theorem ti57 : tinfo Try.prog 57 = some ⟨1, 8, false, [.nilFunc]⟩ := by kernel_rfl
theorem ti58 : tinfo Try.prog 58 = some ⟨1, 8, false, [.nilFunc]⟩ := by kernel_rfl
theorem ti59 : tinfo Try.prog 59 = some ⟨2, 16, true, [.int .i64 0, .int .i64 0]⟩ := by kernel_rfl
theorem tq59 : teq Try.prog 59 = some [.i, .i] := by kernel_rfl
theorem tp59 : tplaces Try.prog 59 = some [(0, 1), (1, 1)] := by kernel_rfl
theorem tf59_0 : tfield Try.prog 59 0 = some (0, 3) := by kernel_rfl
theorem tf59_1 : tfield Try.prog 59 1 = some (1, 3) := by kernel_rfl
theorem ti60 : tinfo Try.prog 60 = some ⟨2, 16, true, [.int .i64 0, .int .i64 0]⟩ := by kernel_rfl
theorem tq60 : teq Try.prog 60 = some [.i, .i] := by kernel_rfl
theorem tp60 : tplaces Try.prog 60 = some [(0, 1), (1, 1)] := by kernel_rfl
theorem tf60_0 : tfield Try.prog 60 0 = some (0, 3) := by kernel_rfl
theorem tf60_1 : tfield Try.prog 60 1 = some (1, 3) := by kernel_rfl
theorem ti61 : tinfo Try.prog 61 = some ⟨1, 8, false, [.nilFunc]⟩ := by kernel_rfl
theorem ti62 : tinfo Try.prog 62 = some ⟨1, 8, false, [.nilFunc]⟩ := by kernel_rfl
theorem ti63 : tinfo Try.prog 63 = some ⟨1, 8, false, [.pointer none]⟩ := by kernel_rfl
theorem ti64 : tinfo Try.prog 64 = some ⟨1, 8, false, [.nilFunc]⟩ := by kernel_rfl
theorem ti65 : tinfo Try.prog 65 = some ⟨5, 104, true, [(.slice none 0 0), (.slice none 0 0), (.slice none 0 0), (.slice none 0 0), .int .i64 0]⟩ := by kernel_rfl
theorem tp65 : tplaces Try.prog 65 = some [(0, 1), (1, 1), (2, 1), (3, 1), (4, 1)] := by kernel_rfl
theorem tf65_0 : tfield Try.prog 65 0 = some (0, 24) := by kernel_rfl
theorem tf65_1 : tfield Try.prog 65 1 = some (1, 25) := by kernel_rfl
theorem tf65_2 : tfield Try.prog 65 2 = some (2, 30) := by kernel_rfl
theorem tf65_3 : tfield Try.prog 65 3 = some (3, 33) := by kernel_rfl
theorem tf65_4 : tfield Try.prog 65 4 = some (4, 3) := by kernel_rfl
theorem ti66 : tinfo Try.prog 66 = some ⟨5, 104, true, [(.slice none 0 0), (.slice none 0 0), (.slice none 0 0), (.slice none 0 0), .int .i64 0]⟩ := by kernel_rfl
theorem tp66 : tplaces Try.prog 66 = some [(0, 1), (1, 1), (2, 1), (3, 1), (4, 1)] := by kernel_rfl
theorem tf66_0 : tfield Try.prog 66 0 = some (0, 24) := by kernel_rfl
theorem tf66_1 : tfield Try.prog 66 1 = some (1, 25) := by kernel_rfl
theorem tf66_2 : tfield Try.prog 66 2 = some (2, 30) := by kernel_rfl
theorem tf66_3 : tfield Try.prog 66 3 = some (3, 33) := by kernel_rfl
theorem tf66_4 : tfield Try.prog 66 4 = some (4, 3) := by kernel_rfl
theorem ti67 : tinfo Try.prog 67 = some ⟨1, 8, false, [.nilFunc]⟩ := by kernel_rfl
theorem ti68 : tinfo Try.prog 68 = some ⟨1, 8, false, [.nilFunc]⟩ := by kernel_rfl
theorem ti69 : tinfo Try.prog 69 = some ⟨1, 8, false, [.nilFunc]⟩ := by kernel_rfl
theorem ti70 : tinfo Try.prog 70 = some ⟨1, 8, false, [.nilFunc]⟩ := by kernel_rfl
theorem ti71 : tinfo Try.prog 71 = some ⟨1, 8, false, [.nilFunc]⟩ := by kernel_rfl
theorem ti72 : tinfo Try.prog 72 = some ⟨1, 8, false, [.nilFunc]⟩ := by kernel_rfl
theorem ti73 : tinfo Try.prog 73 = some ⟨1, 8, false, [.nilFunc]⟩ := by kernel_rfl
theorem ti74 : tinfo Try.prog 74 = some ⟨1, 8, false, [.nilFunc]⟩ := by kernel_rfl
theorem ti75 : tinfo Try.prog 75 = some ⟨1, 8, false, [.nilFunc]⟩ := by kernel_rfl
theorem ti76 : tinfo Try.prog 76 = some ⟨2, 24, true, [(.string ⟨[].toArray⟩), .int .i64 0]⟩ := by kernel_rfl
theorem tq76 : teq Try.prog 76 = some [.s, .i] := by kernel_rfl
theorem tp76 : tplaces Try.prog 76 = some [(0, 1), (1, 1)] := by kernel_rfl
theorem tf76_0 : tfield Try.prog 76 0 = some (0, 9) := by kernel_rfl
theorem tf76_1 : tfield Try.prog 76 1 = some (1, 3) := by kernel_rfl
theorem ti77 : tinfo Try.prog 77 = some ⟨2, 24, true, [(.string ⟨[].toArray⟩), .int .i64 0]⟩ := by kernel_rfl
theorem tq77 : teq Try.prog 77 = some [.s, .i] := by kernel_rfl
theorem tp77 : tplaces Try.prog 77 = some [(0, 1), (1, 1)] := by kernel_rfl
theorem tf77_0 : tfield Try.prog 77 0 = some (0, 9) := by kernel_rfl
theorem tf77_1 : tfield Try.prog 77 1 = some (1, 3) := by kernel_rfl
theorem ti78 : tinfo Try.prog 78 = some ⟨1, 8, false, [.nilFunc]⟩ := by kernel_rfl
theorem ti79 : tinfo Try.prog 79 = some ⟨1, 8, false, [.nilFunc]⟩ := by kernel_rfl
theorem ti80 : tinfo Try.prog 80 = some ⟨5, 40, true, [.int .i64 0, .int .i64 0, .int .i64 0, .int .i64 0, .bool false]⟩ := by kernel_rfl
theorem tq80 : teq Try.prog 80 = some [.i, .i, .i, .i, .b] := by kernel_rfl
theorem tp80 : tplaces Try.prog 80 = some [(0, 1), (1, 1), (2, 1), (3, 1), (4, 1)] := by kernel_rfl
theorem tf80_0 : tfield Try.prog 80 0 = some (0, 3) := by kernel_rfl
theorem tf80_1 : tfield Try.prog 80 1 = some (1, 3) := by kernel_rfl
theorem tf80_2 : tfield Try.prog 80 2 = some (2, 3) := by kernel_rfl
theorem tf80_3 : tfield Try.prog 80 3 = some (3, 3) := by kernel_rfl
theorem tf80_4 : tfield Try.prog 80 4 = some (4, 4) := by kernel_rfl
theorem ti81 : tinfo Try.prog 81 = some ⟨5, 40, true, [.int .i64 0, .int .i64 0, .int .i64 0, .int .i64 0, .bool false]⟩ := by kernel_rfl
theorem tq81 : teq Try.prog 81 = some [.i, .i, .i, .i, .b] := by kernel_rfl
theorem tp81 : tplaces Try.prog 81 = some [(0, 1), (1, 1), (2, 1), (3, 1), (4, 1)] := by kernel_rfl
theorem tf81_0 : tfield Try.prog 81 0 = some (0, 3) := by kernel_rfl
theorem tf81_1 : tfield Try.prog 81 1 = some (1, 3) := by kernel_rfl
theorem tf81_2 : tfield Try.prog 81 2 = some (2, 3) := by kernel_rfl
theorem tf81_3 : tfield Try.prog 81 3 = some (3, 3) := by kernel_rfl
theorem tf81_4 : tfield Try.prog 81 4 = some (4, 4) := by kernel_rfl
theorem ti82 : tinfo Try.prog 82 = some ⟨1, 8, false, [.nilFunc]⟩ := by kernel_rfl
theorem ti84 : tinfo Try.prog 84 = some ⟨1, 8, false, [.nilFunc]⟩ := by kernel_rfl
theorem ti85 : tinfo Try.prog 85 = some ⟨1, 8, false, [.nilFunc]⟩ := by kernel_rfl
theorem ti86 : tinfo Try.prog 86 = some ⟨1, 8, false, [.nilFunc]⟩ := by kernel_rfl
theorem ti87 : tinfo Try.prog 87 = some ⟨1, 8, false, [.nilFunc]⟩ := by kernel_rfl
theorem ti88 : tinfo Try.prog 88 = some ⟨1, 8, false, [.nilFunc]⟩ := by kernel_rfl
theorem ti89 : tinfo Try.prog 89 = some ⟨1, 8, false, [.nilFunc]⟩ := by kernel_rfl
theorem ti90 : tinfo Try.prog 90 = some ⟨1, 8, false, [.nilFunc]⟩ := by kernel_rfl
theorem ti91 : tinfo Try.prog 91 = some ⟨2, 32, true, [(.slice none 0 0), .int .i64 0]⟩ := by kernel_rfl
theorem tp91 : tplaces Try.prog 91 = some [(0, 1), (1, 1)] := by kernel_rfl
theorem tf91_0 : tfield Try.prog 91 0 = some (0, 37) := by kernel_rfl
theorem tf91_1 : tfield Try.prog 91 1 = some (1, 3) := by kernel_rfl
theorem ti92 : tinfo Try.prog 92 = some ⟨2, 32, true, [(.slice none 0 0), .int .i64 0]⟩ := by kernel_rfl
theorem tp92 : tplaces Try.prog 92 = some [(0, 1), (1, 1)] := by kernel_rfl
theorem tf92_0 : tfield Try.prog 92 0 = some (0, 37) := by kernel_rfl
theorem tf92_1 : tfield Try.prog 92 1 = some (1, 3) := by kernel_rfl
theorem ti93 : tinfo Try.prog 93 = some ⟨1, 8, false, [.nilFunc]⟩ := by kernel_rfl
theorem ti94 : tinfo Try.prog 94 = some ⟨1, 8, false, [.nilFunc]⟩ := by kernel_rfl
theorem ti95 : tinfo Try.prog 95 = some ⟨1, 8, false, [.nilFunc]⟩ := by kernel_rfl
theorem ti96 : tinfo Try.prog 96 = some ⟨1, 8, false, [.nilFunc]⟩ := by kernel_rfl
theorem ti97 : tinfo Try.prog 97 = some ⟨1, 8, false, [.nilFunc]⟩ := by kernel_rfl
theorem ti98 : tinfo Try.prog 98 = some ⟨1, 8, false, [.nilFunc]⟩ := by kernel_rfl
theorem ti99 : tinfo Try.prog 99 = some ⟨1, 8, false, [.nilFunc]⟩ := by kernel_rfl
theorem ti100 : tinfo Try.prog 100 = some ⟨1, 8, false, [.nilFunc]⟩ := by kernel_rfl
theorem ti101 : tinfo Try.prog 101 = some ⟨1, 8, false, [.nilFunc]⟩ := by kernel_rfl
theorem ti102 : tinfo Try.prog 102 = some ⟨1, 8, false, [.nilFunc]⟩ := by kernel_rfl
theorem ti103 : tinfo Try.prog 103 = some ⟨1, 8, false, [.nilFunc]⟩ := by kernel_rfl
theorem ti104 : tinfo Try.prog 104 = some ⟨1, 24, false, [(.slice none 0 0)]⟩ := by kernel_rfl
theorem te104 : telem Try.prog 104 = some 9 := by kernel_rfl
theorem ti105 : tinfo Try.prog 105 = some ⟨1, 8, false, [.nilFunc]⟩ := by kernel_rfl
theorem ti106 : tinfo Try.prog 106 = some ⟨1, 8, false, [.nilFunc]⟩ := by kernel_rfl
theorem ti107 : tinfo Try.prog 107 = some ⟨1, 8, false, [.nilFunc]⟩ := by kernel_rfl
theorem ti108 : tinfo Try.prog 108 = some ⟨1, 8, false, [.nilFunc]⟩ := by kernel_rfl
theorem ti109 : tinfo Try.prog 109 = some ⟨1, 8, false, [.nilFunc]⟩ := by kernel_rfl
theorem ti110 : tinfo Try.prog 110 = some ⟨1, 8, false, [.nilFunc]⟩ := by kernel_rfl
theorem ti111 : tinfo Try.prog 111 = some ⟨1, 8, false, [.nilFunc]⟩ := by kernel_rfl
theorem ti112 : tinfo Try.prog 112 = some ⟨1, 8, false, [.nilFunc]⟩ := by kernel_rfl
theorem ti113 : tinfo Try.prog 113 = some ⟨1, 8, false, [.int .u64 0]⟩ := by kernel_rfl
theorem tk113 : tint Try.prog 113 = some .u64 := by kernel_rfl
theorem tz113 : tsome Try.prog 113 = true := by kernel_rfl
theorem ti114 : tinfo Try.prog 114 = some ⟨1, 8, false, [.pointer none]⟩ := by kernel_rfl
theorem ti115 : tinfo Try.prog 115 = some ⟨1, 8, false, [.nilFunc]⟩ := by kernel_rfl
theorem ti116 : tinfo Try.prog 116 = some ⟨1, 8, false, [.int .i64 0]⟩ := by kernel_rfl
theorem tk116 : tint Try.prog 116 = some .i64 := by kernel_rfl
theorem ti118 : tinfo Try.prog 118 = some ⟨1, 8, false, [.nilFunc]⟩ := by kernel_rfl
theorem ti119 : tinfo Try.prog 119 = some ⟨1, 8, false, [.nilFunc]⟩ := by kernel_rfl
theorem ti120 : tinfo Try.prog 120 = some ⟨1, 8, false, [.nilFunc]⟩ := by kernel_rfl
theorem ti122 : tinfo Try.prog 122 = some ⟨1, 8, false, [.nilFunc]⟩ := by kernel_rfl
theorem ti123 : tinfo Try.prog 123 = some ⟨1, 8, false, [.nilFunc]⟩ := by kernel_rfl
theorem ti124 : tinfo Try.prog 124 = some ⟨1, 4, false, [.int .u32 0]⟩ := by kernel_rfl
theorem tk124 : tint Try.prog 124 = some .u32 := by kernel_rfl
theorem tz124 : tsome Try.prog 124 = true := by kernel_rfl
theorem ti125 : tinfo Try.prog 125 = some ⟨1, 8, false, [.nilFunc]⟩ := by kernel_rfl
theorem ti126 : tinfo Try.prog 126 = some ⟨1, 8, false, [.int .u64 0]⟩ := by kernel_rfl
theorem tk126 : tint Try.prog 126 = some .u64 := by kernel_rfl
theorem tz126 : tsome Try.prog 126 = true := by kernel_rfl
theorem ti127 : tinfo Try.prog 127 = some ⟨1, 8, false, [.nilFunc]⟩ := by kernel_rfl
theorem ti128 : tinfo Try.prog 128 = some ⟨1, 8, false, [.int .u64 0]⟩ := by kernel_rfl
theorem tk128 : tint Try.prog 128 = some .u64 := by kernel_rfl
theorem ti129 : tinfo Try.prog 129 = some ⟨1, 8, false, [.nilFunc]⟩ := by kernel_rfl
theorem ti130 : tinfo Try.prog 130 = some ⟨1, 8, false, [.nilFunc]⟩ := by kernel_rfl
theorem ti131 : tinfo Try.prog 131 = some ⟨1, 8, false, [.nilFunc]⟩ := by kernel_rfl
theorem ti132 : tinfo Try.prog 132 = some ⟨1, 8, false, [.pointer none]⟩ := by kernel_rfl
theorem ti133 : tinfo Try.prog 133 = some ⟨1, 8, false, [.nilFunc]⟩ := by kernel_rfl
theorem ti134 : tinfo Try.prog 134 = some ⟨1, 8, false, [.pointer none]⟩ := by kernel_rfl
theorem ti136 : tinfo Try.prog 136 = some ⟨1, 8, false, [.nilFunc]⟩ := by kernel_rfl
theorem ti137 : tinfo Try.prog 137 = some ⟨1, 8, false, [.nilFunc]⟩ := by kernel_rfl
theorem ti143 : tinfo Try.prog 143 = some ⟨1, 8, false, [.nilFunc]⟩ := by kernel_rfl
theorem ti147 : tinfo Try.prog 147 = some ⟨1, 8, false, [.pointer none]⟩ := by kernel_rfl
theorem fp13_0 {b sz i j : Nat} : fieldAddrA Try.prog 13 (.ptr b sz i j) 0 = some (.ptr b sz i (j + 0)) := fa_p tf13_0 ti9 (by decide)
theorem fv13_0 {es : List (List AV)} {i j : Nat} : fieldAddrA Try.prog 13 (.vptr es i j) 0 = some (.vptr es i (j + 0)) := fa_v tf13_0 ti9 (by decide)
theorem fp13_1 {b sz i j : Nat} : fieldAddrA Try.prog 13 (.ptr b sz i j) 1 = some (.ptr b sz i (j + 1)) := fa_p tf13_1 ti12 (by decide)
theorem fv13_1 {es : List (List AV)} {i j : Nat} : fieldAddrA Try.prog 13 (.vptr es i j) 1 = some (.vptr es i (j + 1)) := fa_v tf13_1 ti12 (by decide)
theorem fp23_0 {b sz i j : Nat} : fieldAddrA Try.prog 23 (.ptr b sz i j) 0 = some (.ptr b sz i (j + 0)) := fa_p tf23_0 ti22 (by decide)
theorem fv23_0 {es : List (List AV)} {i j : Nat} : fieldAddrA Try.prog 23 (.vptr es i j) 0 = some (.vptr es i (j + 0)) := fa_v tf23_0 ti22 (by decide)
theorem fp24_0 {b sz i j : Nat} : fieldAddrA Try.prog 24 (.ptr b sz i j) 0 = some (.ptr b sz i (j + 0)) := fa_p tf24_0 ti22 (by decide)
theorem fv24_0 {es : List (List AV)} {i j : Nat} : fieldAddrA Try.prog 24 (.vptr es i j) 0 = some (.vptr es i (j + 0)) := fa_v tf24_0 ti22 (by decide)
theorem fp32_0 {b sz i j : Nat} : fieldAddrA Try.prog 32 (.ptr b sz i j) 0 = some (.ptr b sz i (j + 0)) := fa_p tf32_0 ti31 (by decide)
theorem fv32_0 {es : List (List AV)} {i j : Nat} : fieldAddrA Try.prog 32 (.vptr es i j) 0 = some (.vptr es i (j + 0)) := fa_v tf32_0 ti31 (by decide)
theorem fp33_0 {b sz i j : Nat} : fieldAddrA Try.prog 33 (.ptr b sz i j) 0 = some (.ptr b sz i (j + 0)) := fa_p tf33_0 ti31 (by decide)
theorem fv33_0 {es : List (List AV)} {i j : Nat} : fieldAddrA Try.prog 33 (.vptr es i j) 0 = some (.vptr es i (j + 0)) := fa_v tf33_0 ti31 (by decide)
theorem fp34_0 {b sz i j : Nat} : fieldAddrA Try.prog 34 (.ptr b sz i j) 0 = some (.ptr b sz i (j + 0)) := fa_p tf34_0 ti30 (by decide)
theorem fv34_0 {es : List (List AV)} {i j : Nat} : fieldAddrA Try.prog 34 (.vptr es i j) 0 = some (.vptr es i (j + 0)) := fa_v tf34_0 ti30 (by decide)
theorem fp34_1 {b sz i j : Nat} : fieldAddrA Try.prog 34 (.ptr b sz i j) 1 = some (.ptr b sz i (j + 1)) := fa_p tf34_1 ti3 (by decide)
theorem fv34_1 {es : List (List AV)} {i j : Nat} : fieldAddrA Try.prog 34 (.vptr es i j) 1 = some (.vptr es i (j + 1)) := fa_v tf34_1 ti3 (by decide)
theorem fp34_2 {b sz i j : Nat} : fieldAddrA Try.prog 34 (.ptr b sz i j) 2 = some (.ptr b sz i (j + 2)) := fa_p tf34_2 ti3 (by decide)
theorem fv34_2 {es : List (List AV)} {i j : Nat} : fieldAddrA Try.prog 34 (.vptr es i j) 2 = some (.vptr es i (j + 2)) := fa_v tf34_2 ti3 (by decide)
theorem fp34_3 {b sz i j : Nat} : fieldAddrA Try.prog 34 (.ptr b sz i j) 3 = some (.ptr b sz i (j + 3)) := fa_p tf34_3 ti33 (by decide)
theorem fv34_3 {es : List (List AV)} {i j : Nat} : fieldAddrA Try.prog 34 (.vptr es i j) 3 = some (.vptr es i (j + 3)) := fa_v tf34_3 ti33 (by decide)
theorem fp35_0 {b sz i j : Nat} : fieldAddrA Try.prog 35 (.ptr b sz i j) 0 = some (.ptr b sz i (j + 0)) := fa_p tf35_0 ti30 (by decide)
theorem fv35_0 {es : List (List AV)} {i j : Nat} : fieldAddrA Try.prog 35 (.vptr es i j) 0 = some (.vptr es i (j + 0)) := fa_v tf35_0 ti30 (by decide)
theorem fp35_1 {b sz i j : Nat} : fieldAddrA Try.prog 35 (.ptr b sz i j) 1 = some (.ptr b sz i (j + 1)) := fa_p tf35_1 ti3 (by decide)
theorem fv35_1 {es : List (List AV)} {i j : Nat} : fieldAddrA Try.prog 35 (.vptr es i j) 1 = some (.vptr es i (j + 1)) := fa_v tf35_1 ti3 (by decide)
theorem fp35_2 {b sz i j : Nat} : fieldAddrA Try.prog 35 (.ptr b sz i j) 2 = some (.ptr b sz i (j + 2)) := fa_p tf35_2 ti3 (by decide)
theorem fv35_2 {es : List (List AV)} {i j : Nat} : fieldAddrA Try.prog 35 (.vptr es i j) 2 = some (.vptr es i (j + 2)) := fa_v tf35_2 ti3 (by decide)
theorem fp35_3 {b sz i j : Nat} : fieldAddrA Try.prog 35 (.ptr b sz i j) 3 = some (.ptr b sz i (j + 3)) := fa_p tf35_3 ti33 (by decide)
theorem fv35_3 {es : List (List AV)} {i j : Nat} : fieldAddrA Try.prog 35 (.vptr es i j) 3 = some (.vptr es i (j + 3)) := fa_v tf35_3 ti33 (by decide)
theorem fp41_0 {b sz i j : Nat} : fieldAddrA Try.prog 41 (.ptr b sz i j) 0 = some (.ptr b sz i (j + 0)) := fa_p tf41_0 ti3 (by decide)
theorem fv41_0 {es : List (List AV)} {i j : Nat} : fieldAddrA Try.prog 41 (.vptr es i j) 0 = some (.vptr es i (j + 0)) := fa_v tf41_0 ti3 (by decide)
theorem fp41_1 {b sz i j : Nat} : fieldAddrA Try.prog 41 (.ptr b sz i j) 1 = some (.ptr b sz i (j + 1)) := fa_p tf41_1 ti3 (by decide)
theorem fv41_1 {es : List (List AV)} {i j : Nat} : fieldAddrA Try.prog 41 (.vptr es i j) 1 = some (.vptr es i (j + 1)) := fa_v tf41_1 ti3 (by decide)
theorem fp41_2 {b sz i j : Nat} : fieldAddrA Try.prog 41 (.ptr b sz i j) 2 = some (.ptr b sz i (j + 2)) := fa_p tf41_2 ti3 (by decide)
theorem fv41_2 {es : List (List AV)} {i j : Nat} : fieldAddrA Try.prog 41 (.vptr es i j) 2 = some (.vptr es i (j + 2)) := fa_v tf41_2 ti3 (by decide)
theorem fp41_3 {b sz i j : Nat} : fieldAddrA Try.prog 41 (.ptr b sz i j) 3 = some (.ptr b sz i (j + 3)) := fa_p tf41_3 ti3 (by decide)
theorem fv41_3 {es : List (List AV)} {i j : Nat} : fieldAddrA Try.prog 41 (.vptr es i j) 3 = some (.vptr es i (j + 3)) := fa_v tf41_3 ti3 (by decide)
theorem fp42_0 {b sz i j : Nat} : fieldAddrA Try.prog 42 (.ptr b sz i j) 0 = some (.ptr b sz i (j + 0)) := fa_p tf42_0 ti3 (by decide)
theorem fv42_0 {es : List (List AV)} {i j : Nat} : fieldAddrA Try.prog 42 (.vptr es i j) 0 = some (.vptr es i (j + 0)) := fa_v tf42_0 ti3 (by decide)
theorem fp42_1 {b sz i j : Nat} : fieldAddrA Try.prog 42 (.ptr b sz i j) 1 = some (.ptr b sz i (j + 1)) := fa_p tf42_1 ti3 (by decide)
theorem fv42_1 {es : List (List AV)} {i j : Nat} : fieldAddrA Try.prog 42 (.vptr es i j) 1 = some (.vptr es i (j + 1)) := fa_v tf42_1 ti3 (by decide)
theorem fp42_2 {b sz i j : Nat} : fieldAddrA Try.prog 42 (.ptr b sz i j) 2 = some (.ptr b sz i (j + 2)) := fa_p tf42_2 ti3 (by decide)
theorem fv42_2 {es : List (List AV)} {i j : Nat} : fieldAddrA Try.prog 42 (.vptr es i j) 2 = some (.vptr es i (j + 2)) := fa_v tf42_2 ti3 (by decide)
theorem fp42_3 {b sz i j : Nat} : fieldAddrA Try.prog 42 (.ptr b sz i j) 3 = some (.ptr b sz i (j + 3)) := fa_p tf42_3 ti3 (by decide)
theorem fv42_3 {es : List (List AV)} {i j : Nat} : fieldAddrA Try.prog 42 (.vptr es i j) 3 = some (.vptr es i (j + 3)) := fa_v tf42_3 ti3 (by decide)
theorem fp59_0 {b sz i j : Nat} : fieldAddrA Try.prog 59 (.ptr b sz i j) 0 = some (.ptr b sz i (j + 0)) := fa_p tf59_0 ti3 (by decide)
theorem fv59_0 {es : List (List AV)} {i j : Nat} : fieldAddrA Try.prog 59 (.vptr es i j) 0 = some (.vptr es i (j + 0)) := fa_v tf59_0 ti3 (by decide)
theorem fp59_1 {b sz i j : Nat} : fieldAddrA Try.prog 59 (.ptr b sz i j) 1 = some (.ptr b sz i (j + 1)) := fa_p tf59_1 ti3 (by decide)
theorem fv59_1 {es : List (List AV)} {i j : Nat} : fieldAddrA Try.prog 59 (.vptr es i j) 1 = some (.vptr es i (j + 1)) := fa_v tf59_1 ti3 (by decide)
theorem fp60_0 {b sz i j : Nat} : fieldAddrA Try.prog 60 (.ptr b sz i j) 0 = some (.ptr b sz i (j + 0)) := fa_p tf60_0 ti3 (by decide)
theorem fv60_0 {es : List (List AV)} {i j : Nat} : fieldAddrA Try.prog 60 (.vptr es i j) 0 = some (.vptr es i (j + 0)) := fa_v tf60_0 ti3 (by decide)
theorem fp60_1 {b sz i j : Nat} : fieldAddrA Try.prog 60 (.ptr b sz i j) 1 = some (.ptr b sz i (j + 1)) := fa_p tf60_1 ti3 (by decide)
theorem fv60_1 {es : List (List AV)} {i j : Nat} : fieldAddrA Try.prog 60 (.vptr es i j) 1 = some (.vptr es i (j + 1)) := fa_v tf60_1 ti3 (by decide)
theorem fp65_0 {b sz i j : Nat} : fieldAddrA Try.prog 65 (.ptr b sz i j) 0 = some (.ptr b sz i (j + 0)) := fa_p tf65_0 ti24 (by decide)
theorem fv65_0 {es : List (List AV)} {i j : Nat} : fieldAddrA Try.prog 65 (.vptr es i j) 0 = some (.vptr es i (j + 0)) := fa_v tf65_0 ti24 (by decide)
theorem fp65_1 {b sz i j : Nat} : fieldAddrA Try.prog 65 (.ptr b sz i j) 1 = some (.ptr b sz i (j + 1)) := fa_p tf65_1 ti25 (by decide)
theorem fv65_1 {es : List (List AV)} {i j : Nat} : fieldAddrA Try.prog 65 (.vptr es i j) 1 = some (.vptr es i (j + 1)) := fa_v tf65_1 ti25 (by decide)
theorem fp65_2 {b sz i j : Nat} : fieldAddrA Try.prog 65 (.ptr b sz i j) 2 = some (.ptr b sz i (j + 2)) := fa_p tf65_2 ti30 (by decide)
theorem fv65_2 {es : List (List AV)} {i j : Nat} : fieldAddrA Try.prog 65 (.vptr es i j) 2 = some (.vptr es i (j + 2)) := fa_v tf65_2 ti30 (by decide)
theorem fp65_3 {b sz i j : Nat} : fieldAddrA Try.prog 65 (.ptr b sz i j) 3 = some (.ptr b sz i (j + 3)) := fa_p tf65_3 ti33 (by decide)
theorem fv65_3 {es : List (List AV)} {i j : Nat} : fieldAddrA Try.prog 65 (.vptr es i j) 3 = some (.vptr es i (j + 3)) := fa_v tf65_3 ti33 (by decide)
theorem fp65_4 {b sz i j : Nat} : fieldAddrA Try.prog 65 (.ptr b sz i j) 4 = some (.ptr b sz i (j + 4)) := fa_p tf65_4 ti3 (by decide)
theorem fv65_4 {es : List (List AV)} {i j : Nat} : fieldAddrA Try.prog 65 (.vptr es i j) 4 = some (.vptr es i (j + 4)) := fa_v tf65_4 ti3 (by decide)
theorem fp66_0 {b sz i j : Nat} : fieldAddrA Try.prog 66 (.ptr b sz i j) 0 = some (.ptr b sz i (j + 0)) := fa_p tf66_0 ti24 (by decide)
theorem fv66_0 {es : List (List AV)} {i j : Nat} : fieldAddrA Try.prog 66 (.vptr es i j) 0 = some (.vptr es i (j + 0)) := fa_v tf66_0 ti24 (by decide)
theorem fp66_1 {b sz i j : Nat} : fieldAddrA Try.prog 66 (.ptr b sz i j) 1 = some (.ptr b sz i (j + 1)) := fa_p tf66_1 ti25 (by decide)
theorem fv66_1 {es : List (List AV)} {i j : Nat} : fieldAddrA Try.prog 66 (.vptr es i j) 1 = some (.vptr es i (j + 1)) := fa_v tf66_1 ti25 (by decide)
theorem fp66_2 {b sz i j : Nat} : fieldAddrA Try.prog 66 (.ptr b sz i j) 2 = some (.ptr b sz i (j + 2)) := fa_p tf66_2 ti30 (by decide)
theorem fv66_2 {es : List (List AV)} {i j : Nat} : fieldAddrA Try.prog 66 (.vptr es i j) 2 = some (.vptr es i (j + 2)) := fa_v tf66_2 ti30 (by decide)
theorem fp66_3 {b sz i j : Nat} : fieldAddrA Try.prog 66 (.ptr b sz i j) 3 = some (.ptr b sz i (j + 3)) := fa_p tf66_3 ti33 (by decide)
theorem fv66_3 {es : List (List AV)} {i j : Nat} : fieldAddrA Try.prog 66 (.vptr es i j) 3 = some (.vptr es i (j + 3)) := fa_v tf66_3 ti33 (by decide)
theorem fp66_4 {b sz i j : Nat} : fieldAddrA Try.prog 66 (.ptr b sz i j) 4 = some (.ptr b sz i (j + 4)) := fa_p tf66_4 ti3 (by decide)
theorem fv66_4 {es : List (List AV)} {i j : Nat} : fieldAddrA Try.prog 66 (.vptr es i j) 4 = some (.vptr es i (j + 4)) := fa_v tf66_4 ti3 (by decide)
theorem fp76_0 {b sz i j : Nat} : fieldAddrA Try.prog 76 (.ptr b sz i j) 0 = some (.ptr b sz i (j + 0)) := fa_p tf76_0 ti9 (by decide)
theorem fv76_0 {es : List (List AV)} {i j : Nat} : fieldAddrA Try.prog 76 (.vptr es i j) 0 = some (.vptr es i (j + 0)) := fa_v tf76_0 ti9 (by decide)
theorem fp76_1 {b sz i j : Nat} : fieldAddrA Try.prog 76 (.ptr b sz i j) 1 = some (.ptr b sz i (j + 1)) := fa_p tf76_1 ti3 (by decide)
theorem fv76_1 {es : List (List AV)} {i j : Nat} : fieldAddrA Try.prog 76 (.vptr es i j) 1 = some (.vptr es i (j + 1)) := fa_v tf76_1 ti3 (by decide)
theorem fp77_0 {b sz i j : Nat} : fieldAddrA Try.prog 77 (.ptr b sz i j) 0 = some (.ptr b sz i (j + 0)) := fa_p tf77_0 ti9 (by decide)
theorem fv77_0 {es : List (List AV)} {i j : Nat} : fieldAddrA Try.prog 77 (.vptr es i j) 0 = some (.vptr es i (j + 0)) := fa_v tf77_0 ti9 (by decide)
theorem fp77_1 {b sz i j : Nat} : fieldAddrA Try.prog 77 (.ptr b sz i j) 1 = some (.ptr b sz i (j + 1)) := fa_p tf77_1 ti3 (by decide)
theorem fv77_1 {es : List (List AV)} {i j : Nat} : fieldAddrA Try.prog 77 (.vptr es i j) 1 = some (.vptr es i (j + 1)) := fa_v tf77_1 ti3 (by decide)
theorem fp80_0 {b sz i j : Nat} : fieldAddrA Try.prog 80 (.ptr b sz i j) 0 = some (.ptr b sz i (j + 0)) := fa_p tf80_0 ti3 (by decide)
theorem fv80_0 {es : List (List AV)} {i j : Nat} : fieldAddrA Try.prog 80 (.vptr es i j) 0 = some (.vptr es i (j + 0)) := fa_v tf80_0 ti3 (by decide)
theorem fp80_1 {b sz i j : Nat} : fieldAddrA Try.prog 80 (.ptr b sz i j) 1 = some (.ptr b sz i (j + 1)) := fa_p tf80_1 ti3 (by decide)
theorem fv80_1 {es : List (List AV)} {i j : Nat} : fieldAddrA Try.prog 80 (.vptr es i j) 1 = some (.vptr es i (j + 1)) := fa_v tf80_1 ti3 (by decide)
theorem fp80_2 {b sz i j : Nat} : fieldAddrA Try.prog 80 (.ptr b sz i j) 2 = some (.ptr b sz i (j + 2)) := fa_p tf80_2 ti3 (by decide)
theorem fv80_2 {es : List (List AV)} {i j : Nat} : fieldAddrA Try.prog 80 (.vptr es i j) 2 = some (.vptr es i (j + 2)) := fa_v tf80_2 ti3 (by decide)
theorem fp80_3 {b sz i j : Nat} : fieldAddrA Try.prog 80 (.ptr b sz i j) 3 = some (.ptr b sz i (j + 3)) := fa_p tf80_3 ti3 (by decide)
theorem fv80_3 {es : List (List AV)} {i j : Nat} : fieldAddrA Try.prog 80 (.vptr es i j) 3 = some (.vptr es i (j + 3)) := fa_v tf80_3 ti3 (by decide)
theorem fp80_4 {b sz i j : Nat} : fieldAddrA Try.prog 80 (.ptr b sz i j) 4 = some (.ptr b sz i (j + 4)) := fa_p tf80_4 ti4 (by decide)
theorem fv80_4 {es : List (List AV)} {i j : Nat} : fieldAddrA Try.prog 80 (.vptr es i j) 4 = some (.vptr es i (j + 4)) := fa_v tf80_4 ti4 (by decide)
theorem fp81_0 {b sz i j : Nat} : fieldAddrA Try.prog 81 (.ptr b sz i j) 0 = some (.ptr b sz i (j + 0)) := fa_p tf81_0 ti3 (by decide)
theorem fv81_0 {es : List (List AV)} {i j : Nat} : fieldAddrA Try.prog 81 (.vptr es i j) 0 = some (.vptr es i (j + 0)) := fa_v tf81_0 ti3 (by decide)
theorem fp81_1 {b sz i j : Nat} : fieldAddrA Try.prog 81 (.ptr b sz i j) 1 = some (.ptr b sz i (j + 1)) := fa_p tf81_1 ti3 (by decide)
theorem fv81_1 {es : List (List AV)} {i j : Nat} : fieldAddrA Try.prog 81 (.vptr es i j) 1 = some (.vptr es i (j + 1)) := fa_v tf81_1 ti3 (by decide)
theorem fp81_2 {b sz i j : Nat} : fieldAddrA Try.prog 81 (.ptr b sz i j) 2 = some (.ptr b sz i (j + 2)) := fa_p tf81_2 ti3 (by decide)
theorem fv81_2 {es : List (List AV)} {i j : Nat} : fieldAddrA Try.prog 81 (.vptr es i j) 2 = some (.vptr es i (j + 2)) := fa_v tf81_2 ti3 (by decide)
theorem fp81_3 {b sz i j : Nat} : fieldAddrA Try.prog 81 (.ptr b sz i j) 3 = some (.ptr b sz i (j + 3)) := fa_p tf81_3 ti3 (by decide)
theorem fv81_3 {es : List (List AV)} {i j : Nat} : fieldAddrA Try.prog 81 (.vptr es i j) 3 = some (.vptr es i (j + 3)) := fa_v tf81_3 ti3 (by decide)
theorem fp81_4 {b sz i j : Nat} : fieldAddrA Try.prog 81 (.ptr b sz i j) 4 = some (.ptr b sz i (j + 4)) := fa_p tf81_4 ti4 (by decide)
theorem fv81_4 {es : List (List AV)} {i j : Nat} : fieldAddrA Try.prog 81 (.vptr es i j) 4 = some (.vptr es i (j + 4)) := fa_v tf81_4 ti4 (by decide)
theorem fp91_0 {b sz i j : Nat} : fieldAddrA Try.prog 91 (.ptr b sz i j) 0 = some (.ptr b sz i (j + 0)) := fa_p tf91_0 ti37 (by decide)
theorem fv91_0 {es : List (List AV)} {i j : Nat} : fieldAddrA Try.prog 91 (.vptr es i j) 0 = some (.vptr es i (j + 0)) := fa_v tf91_0 ti37 (by decide)
theorem fp91_1 {b sz i j : Nat} : fieldAddrA Try.prog 91 (.ptr b sz i j) 1 = some (.ptr b sz i (j + 1)) := fa_p tf91_1 ti3 (by decide)
theorem fv91_1 {es : List (List AV)} {i j : Nat} : fieldAddrA Try.prog 91 (.vptr es i j) 1 = some (.vptr es i (j + 1)) := fa_v tf91_1 ti3 (by decide)
theorem fp92_0 {b sz i j : Nat} : fieldAddrA Try.prog 92 (.ptr b sz i j) 0 = some (.ptr b sz i (j + 0)) := fa_p tf92_0 ti37 (by decide)
theorem fv92_0 {es : List (List AV)} {i j : Nat} : fieldAddrA Try.prog 92 (.vptr es i j) 0 = some (.vptr es i (j + 0)) := fa_v tf92_0 ti37 (by decide)
theorem fp92_1 {b sz i j : Nat} : fieldAddrA Try.prog 92 (.ptr b sz i j) 1 = some (.ptr b sz i (j + 1)) := fa_p tf92_1 ti3 (by decide)
theorem fv92_1 {es : List (List AV)} {i j : Nat} : fieldAddrA Try.prog 92 (.vptr es i j) 1 = some (.vptr es i (j + 1)) := fa_v tf92_1 ti3 (by decide)
theorem lv22 {es : List (List AV)} {cl : Bool} : lenA Try.prog 22 (.vsl es cl) = some (I es.length) := lenV te22
theorem ll22 {b sz off len : Nat} {cl : Bool} : lenA Try.prog 22 (.sl b sz off len cl) = some (I len) := lenL te22
theorem is22 {b off len : Nat} {cl : Bool} {kd : IntKind} {n : Int} : indexAddrA Try.prog 22 (.sl b 2 off len cl) (.lit (.int kd n)) = if 0 ≤ n ∧ n < len then some (.ptr b 2 (off + n.toNat) 0) else none := ixs te22 ti77
theorem ix22 {l : List Class} {cl : Bool} {kd : IntKind} {n : Int} : indexAddrA Try.prog 22 (.vsl (l.map rClass) cl) (.lit (.int kd n)) = if 0 ≤ n ∧ n < l.length then some (.vptr (l.map rClass) n.toNat 0) else none := ixv te22 ti77 rClass_len (by decide)
theorem sh22 {l : List Class} {cl : Bool} {h : Int} {ka : IntKind} : sliceA Try.prog 22 (.vsl (l.map rClass) cl) none (some (.lit (.int ka h))) none = if 0 ≤ h ∧ h ≤ l.length then some (.vsl ((l.take h.toNat).map rClass) (clipOf none h l.length cl)) else none := sl_hi te22 ti77 rClass_len
theorem so22 {l : List Class} {cl : Bool} {lo : Int} {ka : IntKind} : sliceA Try.prog 22 (.vsl (l.map rClass) cl) (some (.lit (.int ka lo))) none none = if 0 ≤ lo ∧ lo ≤ l.length then some (.vsl ((l.drop lo.toNat).map rClass) cl) else none := sl_lo te22 ti77 rClass_len
theorem sb22 {l : List Class} {cl : Bool} {lo h : Int} {ka kb : IntKind} : sliceA Try.prog 22 (.vsl (l.map rClass) cl) (some (.lit (.int ka lo))) (some (.lit (.int kb h))) none = if 0 ≤ lo ∧ lo ≤ h ∧ h ≤ l.length then some (.vsl (((l.take h.toNat).drop lo.toNat).map rClass) (clipOf none h l.length cl)) else none := sl_lohi te22 ti77 rClass_len
theorem sm22 {l : List Class} {cl : Bool} {h m : Int} {ka kb : IntKind} : sliceA Try.prog 22 (.vsl (l.map rClass) cl) none (some (.lit (.int ka h))) (some (.lit (.int kb m))) = if 0 ≤ h ∧ h ≤ m ∧ m ≤ l.length then some (.vsl ((l.take h.toNat).map rClass) (decide (m = h))) else none := sl_hm te22 ti77 rClass_len
theorem sp22 {b off n : Nat} {cl : Bool} {h m : Int} {ka kb : IntKind} : sliceA Try.prog 22 (.sl b 2 off n cl) none (some (.lit (.int ka h))) (some (.lit (.int kb m))) = if 0 ≤ h ∧ h ≤ m ∧ m ≤ n then some (.sl b 2 off h.toNat (decide (m = h))) else none := so_hm te22 ti77 rfl
theorem lv25 {es : List (List AV)} {cl : Bool} : lenA Try.prog 25 (.vsl es cl) = some (I es.length) := lenV te25
theorem ll25 {b sz off len : Nat} {cl : Bool} : lenA Try.prog 25 (.sl b sz off len cl) = some (I len) := lenL te25
theorem is25 {b off len : Nat} {cl : Bool} {kd : IntKind} {n : Int} : indexAddrA Try.prog 25 (.sl b 4 off len cl) (.lit (.int kd n)) = if 0 ≤ n ∧ n < len then some (.ptr b 4 (off + n.toNat) 0) else none := ixs te25 ti42
theorem ix25 {l : List Line} {cl : Bool} {kd : IntKind} {n : Int} : indexAddrA Try.prog 25 (.vsl (l.map rLine) cl) (.lit (.int kd n)) = if 0 ≤ n ∧ n < l.length then some (.vptr (l.map rLine) n.toNat 0) else none := ixv te25 ti42 rLine_len (by decide)
theorem sh25 {l : List Line} {cl : Bool} {h : Int} {ka : IntKind} : sliceA Try.prog 25 (.vsl (l.map rLine) cl) none (some (.lit (.int ka h))) none = if 0 ≤ h ∧ h ≤ l.length then some (.vsl ((l.take h.toNat).map rLine) (clipOf none h l.length cl)) else none := sl_hi te25 ti42 rLine_len
theorem so25 {l : List Line} {cl : Bool} {lo : Int} {ka : IntKind} : sliceA Try.prog 25 (.vsl (l.map rLine) cl) (some (.lit (.int ka lo))) none none = if 0 ≤ lo ∧ lo ≤ l.length then some (.vsl ((l.drop lo.toNat).map rLine) cl) else none := sl_lo te25 ti42 rLine_len
theorem sb25 {l : List Line} {cl : Bool} {lo h : Int} {ka kb : IntKind} : sliceA Try.prog 25 (.vsl (l.map rLine) cl) (some (.lit (.int ka lo))) (some (.lit (.int kb h))) none = if 0 ≤ lo ∧ lo ≤ h ∧ h ≤ l.length then some (.vsl (((l.take h.toNat).drop lo.toNat).map rLine) (clipOf none h l.length cl)) else none := sl_lohi te25 ti42 rLine_len
theorem sm25 {l : List Line} {cl : Bool} {h m : Int} {ka kb : IntKind} : sliceA Try.prog 25 (.vsl (l.map rLine) cl) none (some (.lit (.int ka h))) (some (.lit (.int kb m))) = if 0 ≤ h ∧ h ≤ m ∧ m ≤ l.length then some (.vsl ((l.take h.toNat).map rLine) (decide (m = h))) else none := sl_hm te25 ti42 rLine_len
theorem sp25 {b off n : Nat} {cl : Bool} {h m : Int} {ka kb : IntKind} : sliceA Try.prog 25 (.sl b 4 off n cl) none (some (.lit (.int ka h))) (some (.lit (.int kb m))) = if 0 ≤ h ∧ h ≤ m ∧ m ≤ n then some (.sl b 4 off h.toNat (decide (m = h))) else none := so_hm te25 ti42 rfl
theorem lv30 {es : List (List AV)} {cl : Bool} : lenA Try.prog 30 (.vsl es cl) = some (I es.length) := lenV te30
theorem ll30 {b sz off len : Nat} {cl : Bool} : lenA Try.prog 30 (.sl b sz off len cl) = some (I len) := lenL te30
theorem is30 {b off len : Nat} {cl : Bool} {kd : IntKind} {n : Int} : indexAddrA Try.prog 30 (.sl b 1 off len cl) (.lit (.int kd n)) = if 0 ≤ n ∧ n < len then some (.ptr b 1 (off + n.toNat) 0) else none := ixs te30 ti3
theorem ix30 {l : List Int} {cl : Bool} {kd : IntKind} {n : Int} : indexAddrA Try.prog 30 (.vsl (l.map rI) cl) (.lit (.int kd n)) = if 0 ≤ n ∧ n < l.length then some (.vptr (l.map rI) n.toNat 0) else none := ixv te30 ti3 rI_len (by decide)
theorem sh30 {l : List Int} {cl : Bool} {h : Int} {ka : IntKind} : sliceA Try.prog 30 (.vsl (l.map rI) cl) none (some (.lit (.int ka h))) none = if 0 ≤ h ∧ h ≤ l.length then some (.vsl ((l.take h.toNat).map rI) (clipOf none h l.length cl)) else none := sl_hi te30 ti3 rI_len
theorem so30 {l : List Int} {cl : Bool} {lo : Int} {ka : IntKind} : sliceA Try.prog 30 (.vsl (l.map rI) cl) (some (.lit (.int ka lo))) none none = if 0 ≤ lo ∧ lo ≤ l.length then some (.vsl ((l.drop lo.toNat).map rI) cl) else none := sl_lo te30 ti3 rI_len
theorem sb30 {l : List Int} {cl : Bool} {lo h : Int} {ka kb : IntKind} : sliceA Try.prog 30 (.vsl (l.map rI) cl) (some (.lit (.int ka lo))) (some (.lit (.int kb h))) none = if 0 ≤ lo ∧ lo ≤ h ∧ h ≤ l.length then some (.vsl (((l.take h.toNat).drop lo.toNat).map rI) (clipOf none h l.length cl)) else none := sl_lohi te30 ti3 rI_len
theorem sm30 {l : List Int} {cl : Bool} {h m : Int} {ka kb : IntKind} : sliceA Try.prog 30 (.vsl (l.map rI) cl) none (some (.lit (.int ka h))) (some (.lit (.int kb m))) = if 0 ≤ h ∧ h ≤ m ∧ m ≤ l.length then some (.vsl ((l.take h.toNat).map rI) (decide (m = h))) else none := sl_hm te30 ti3 rI_len
theorem sp30 {b off n : Nat} {cl : Bool} {h m : Int} {ka kb : IntKind} : sliceA Try.prog 30 (.sl b 1 off n cl) none (some (.lit (.int ka h))) (some (.lit (.int kb m))) = if 0 ≤ h ∧ h ≤ m ∧ m ≤ n then some (.sl b 1 off h.toNat (decide (m = h))) else none := so_hm te30 ti3 rfl
theorem lv31 {es : List (List AV)} {cl : Bool} : lenA Try.prog 31 (.vsl es cl) = some (I es.length) := lenV te31
theorem ll31 {b sz off len : Nat} {cl : Bool} : lenA Try.prog 31 (.sl b sz off len cl) = some (I len) := lenL te31
theorem is31 {b off len : Nat} {cl : Bool} {kd : IntKind} {n : Int} : indexAddrA Try.prog 31 (.sl b 5 off len cl) (.lit (.int kd n)) = if 0 ≤ n ∧ n < len then some (.ptr b 5 (off + n.toNat) 0) else none := ixs te31 ti81
theorem ix31 {l : List Fault} {cl : Bool} {kd : IntKind} {n : Int} : indexAddrA Try.prog 31 (.vsl (l.map rFault) cl) (.lit (.int kd n)) = if 0 ≤ n ∧ n < l.length then some (.vptr (l.map rFault) n.toNat 0) else none := ixv te31 ti81 rFault_len (by decide)
theorem sh31 {l : List Fault} {cl : Bool} {h : Int} {ka : IntKind} : sliceA Try.prog 31 (.vsl (l.map rFault) cl) none (some (.lit (.int ka h))) none = if 0 ≤ h ∧ h ≤ l.length then some (.vsl ((l.take h.toNat).map rFault) (clipOf none h l.length cl)) else none := sl_hi te31 ti81 rFault_len
theorem so31 {l : List Fault} {cl : Bool} {lo : Int} {ka : IntKind} : sliceA Try.prog 31 (.vsl (l.map rFault) cl) (some (.lit (.int ka lo))) none none = if 0 ≤ lo ∧ lo ≤ l.length then some (.vsl ((l.drop lo.toNat).map rFault) cl) else none := sl_lo te31 ti81 rFault_len
theorem sb31 {l : List Fault} {cl : Bool} {lo h : Int} {ka kb : IntKind} : sliceA Try.prog 31 (.vsl (l.map rFault) cl) (some (.lit (.int ka lo))) (some (.lit (.int kb h))) none = if 0 ≤ lo ∧ lo ≤ h ∧ h ≤ l.length then some (.vsl (((l.take h.toNat).drop lo.toNat).map rFault) (clipOf none h l.length cl)) else none := sl_lohi te31 ti81 rFault_len
theorem sm31 {l : List Fault} {cl : Bool} {h m : Int} {ka kb : IntKind} : sliceA Try.prog 31 (.vsl (l.map rFault) cl) none (some (.lit (.int ka h))) (some (.lit (.int kb m))) = if 0 ≤ h ∧ h ≤ m ∧ m ≤ l.length then some (.vsl ((l.take h.toNat).map rFault) (decide (m = h))) else none := sl_hm te31 ti81 rFault_len
theorem sp31 {b off n : Nat} {cl : Bool} {h m : Int} {ka kb : IntKind} : sliceA Try.prog 31 (.sl b 5 off n cl) none (some (.lit (.int ka h))) (some (.lit (.int kb m))) = if 0 ≤ h ∧ h ≤ m ∧ m ≤ n then some (.sl b 5 off h.toNat (decide (m = h))) else none := so_hm te31 ti81 rfl
theorem lv37 {es : List (List AV)} {cl : Bool} : lenA Try.prog 37 (.vsl es cl) = some (I es.length) := lenV te37
theorem ll37 {b sz off len : Nat} {cl : Bool} : lenA Try.prog 37 (.sl b sz off len cl) = some (I len) := lenL te37
theorem is37 {b off len : Nat} {cl : Bool} {kd : IntKind} {n : Int} : indexAddrA Try.prog 37 (.sl b 1 off len cl) (.lit (.int kd n)) = if 0 ≤ n ∧ n < len then some (.ptr b 1 (off + n.toNat) 0) else none := ixs te37 ti5
theorem ix37 {l : List UInt8} {cl : Bool} {kd : IntKind} {n : Int} : indexAddrA Try.prog 37 (.vsl (l.map rU) cl) (.lit (.int kd n)) = if 0 ≤ n ∧ n < l.length then some (.vptr (l.map rU) n.toNat 0) else none := ixv te37 ti5 rU_len (by decide)
theorem sh37 {l : List UInt8} {cl : Bool} {h : Int} {ka : IntKind} : sliceA Try.prog 37 (.vsl (l.map rU) cl) none (some (.lit (.int ka h))) none = if 0 ≤ h ∧ h ≤ l.length then some (.vsl ((l.take h.toNat).map rU) (clipOf none h l.length cl)) else none := sl_hi te37 ti5 rU_len
theorem so37 {l : List UInt8} {cl : Bool} {lo : Int} {ka : IntKind} : sliceA Try.prog 37 (.vsl (l.map rU) cl) (some (.lit (.int ka lo))) none none = if 0 ≤ lo ∧ lo ≤ l.length then some (.vsl ((l.drop lo.toNat).map rU) cl) else none := sl_lo te37 ti5 rU_len
theorem sb37 {l : List UInt8} {cl : Bool} {lo h : Int} {ka kb : IntKind} : sliceA Try.prog 37 (.vsl (l.map rU) cl) (some (.lit (.int ka lo))) (some (.lit (.int kb h))) none = if 0 ≤ lo ∧ lo ≤ h ∧ h ≤ l.length then some (.vsl (((l.take h.toNat).drop lo.toNat).map rU) (clipOf none h l.length cl)) else none := sl_lohi te37 ti5 rU_len
theorem sm37 {l : List UInt8} {cl : Bool} {h m : Int} {ka kb : IntKind} : sliceA Try.prog 37 (.vsl (l.map rU) cl) none (some (.lit (.int ka h))) (some (.lit (.int kb m))) = if 0 ≤ h ∧ h ≤ m ∧ m ≤ l.length then some (.vsl ((l.take h.toNat).map rU) (decide (m = h))) else none := sl_hm te37 ti5 rU_len
theorem sp37 {b off n : Nat} {cl : Bool} {h m : Int} {ka kb : IntKind} : sliceA Try.prog 37 (.sl b 1 off n cl) none (some (.lit (.int ka h))) (some (.lit (.int kb m))) = if 0 ≤ h ∧ h ≤ m ∧ m ≤ n then some (.sl b 1 off h.toNat (decide (m = h))) else none := so_hm te37 ti5 rfl
theorem lv104 {es : List (List AV)} {cl : Bool} : lenA Try.prog 104 (.vsl es cl) = some (I es.length) := lenV te104
theorem ll104 {b sz off len : Nat} {cl : Bool} : lenA Try.prog 104 (.sl b sz off len cl) = some (I len) := lenL te104
theorem is104 {b off len : Nat} {cl : Bool} {kd : IntKind} {n : Int} : indexAddrA Try.prog 104 (.sl b 1 off len cl) (.lit (.int kd n)) = if 0 ≤ n ∧ n < len then some (.ptr b 1 (off + n.toNat) 0) else none := ixs te104 ti9
theorem ix104 {l : List Str} {cl : Bool} {kd : IntKind} {n : Int} : indexAddrA Try.prog 104 (.vsl (l.map rS) cl) (.lit (.int kd n)) = if 0 ≤ n ∧ n < l.length then some (.vptr (l.map rS) n.toNat 0) else none := ixv te104 ti9 rS_len (by decide)
theorem sh104 {l : List Str} {cl : Bool} {h : Int} {ka : IntKind} : sliceA Try.prog 104 (.vsl (l.map rS) cl) none (some (.lit (.int ka h))) none = if 0 ≤ h ∧ h ≤ l.length then some (.vsl ((l.take h.toNat).map rS) (clipOf none h l.length cl)) else none := sl_hi te104 ti9 rS_len
theorem so104 {l : List Str} {cl : Bool} {lo : Int} {ka : IntKind} : sliceA Try.prog 104 (.vsl (l.map rS) cl) (some (.lit (.int ka lo))) none none = if 0 ≤ lo ∧ lo ≤ l.length then some (.vsl ((l.drop lo.toNat).map rS) cl) else none := sl_lo te104 ti9 rS_len
theorem sb104 {l : List Str} {cl : Bool} {lo h : Int} {ka kb : IntKind} : sliceA Try.prog 104 (.vsl (l.map rS) cl) (some (.lit (.int ka lo))) (some (.lit (.int kb h))) none = if 0 ≤ lo ∧ lo ≤ h ∧ h ≤ l.length then some (.vsl (((l.take h.toNat).drop lo.toNat).map rS) (clipOf none h l.length cl)) else none := sl_lohi te104 ti9 rS_len
theorem sm104 {l : List Str} {cl : Bool} {h m : Int} {ka kb : IntKind} : sliceA Try.prog 104 (.vsl (l.map rS) cl) none (some (.lit (.int ka h))) (some (.lit (.int kb m))) = if 0 ≤ h ∧ h ≤ m ∧ m ≤ l.length then some (.vsl ((l.take h.toNat).map rS) (decide (m = h))) else none := sl_hm te104 ti9 rS_len
theorem sp104 {b off n : Nat} {cl : Bool} {h m : Int} {ka kb : IntKind} : sliceA Try.prog 104 (.sl b 1 off n cl) none (some (.lit (.int ka h))) (some (.lit (.int kb m))) = if 0 ≤ h ∧ h ≤ m ∧ m ≤ n then some (.sl b 1 off h.toNat (decide (m = h))) else none := so_hm te104 ti9 rfl
theorem xs9 {s : Str} {kd : IntKind} {n : Int} : indexA Try.prog 9 (S s) (.lit (.int kd n)) = if 0 ≤ n ∧ n < s.length then some (U8 (s.getD n.toNat 0).toNat) else none := ixS ts9
theorem ls9 {s : Str} : lenA Try.prog 9 (S s) = some (I s.length) := lenS ts9
theorem sx9 {s : Str} {h : Int} {ka : IntKind} : sliceA Try.prog 9 (S s) none (some (.lit (.int ka h))) none = if 0 ≤ h ∧ h ≤ s.length then some (S (s.take h.toNat)) else none := ss_hi ts9
theorem sy9 {s : Str} {lo : Int} {ka : IntKind} : sliceA Try.prog 9 (S s) (some (.lit (.int ka lo))) none none = if 0 ≤ lo ∧ lo ≤ s.length then some (S (s.drop lo.toNat)) else none := ss_lo ts9
theorem sz9 {s : Str} {lo h : Int} {ka kb : IntKind} : sliceA Try.prog 9 (S s) (some (.lit (.int ka lo))) (some (.lit (.int kb h))) none = if 0 ≤ lo ∧ lo ≤ h ∧ h ≤ s.length then some (S ((s.take h.toNat).drop lo.toNat)) else none := ss_lohi ts9
end Go.Proofs.Ytoacjmckefahcaa

/- Facts of this seat's tables of types. No condition. -/
import Derived.Test.YtbjgilehnlpmaaaRows2
import Derived.Test.YtbjgilehnlpmaaaChecked
import Derived.KernelRfl
set_option linter.unusedVariables false
set_option linter.unusedSimpArgs false
namespace Go.Proofs.Ytbjgilehnlpmaaa
open Go Go.Sim

theorem mixed : Try.prog.follows .mixedOrders = true := by kernel_rfl
theorem ti1 : tinfo Try.prog 1 = some ⟨1, 8, false, [.nilFunc]⟩ := by kernel_rfl
theorem ti2 : tinfo Try.prog 2 = some ⟨1, 8, false, [.int .i64 0]⟩ := by kernel_rfl
theorem tk2 : tint Try.prog 2 = some .i64 := by kernel_rfl
theorem ti3 : tinfo Try.prog 3 = some ⟨1, 8, false, [.int .i64 0]⟩ := by kernel_rfl
theorem te3 : telem Try.prog 3 = none := by kernel_rfl
theorem ts3 : tstr Try.prog 3 = false := by kernel_rfl
theorem tk3 : tint Try.prog 3 = some .i64 := by kernel_rfl
theorem tz3 : tsome Try.prog 3 = true := by kernel_rfl
theorem ti4 : tinfo Try.prog 4 = some ⟨1, 1, false, [.bool false]⟩ := by kernel_rfl
theorem tb4 : tbool Try.prog 4 = true := by kernel_rfl
theorem ti5 : tinfo Try.prog 5 = some ⟨1, 1, false, [.int .u8 0]⟩ := by kernel_rfl
theorem tk5 : tint Try.prog 5 = some .u8 := by kernel_rfl
theorem tz5 : tsome Try.prog 5 = true := by kernel_rfl
theorem ti9 : tinfo Try.prog 9 = some ⟨1, 16, false, [(.string ⟨[].toArray⟩)]⟩ := by kernel_rfl
theorem te9 : telem Try.prog 9 = none := by kernel_rfl
theorem ts9 : tstr Try.prog 9 = true := by kernel_rfl
theorem tk9 : tint Try.prog 9 = none := by kernel_rfl
theorem tz9 : tsome Try.prog 9 = true := by kernel_rfl
theorem ti12 : tinfo Try.prog 12 = some ⟨1, 8, false, [.int .u64 0]⟩ := by kernel_rfl
theorem tk12 : tint Try.prog 12 = some .u64 := by kernel_rfl
theorem ti13 : tinfo Try.prog 13 = some ⟨2, 24, true, [(.string ⟨[].toArray⟩), .int .u64 0]⟩ := by kernel_rfl
theorem tp13 : tplaces Try.prog 13 = some [(0, 1), (1, 1)] := by kernel_rfl
theorem tf13_0 : tfield Try.prog 13 0 = some (0, 9) := by kernel_rfl
theorem tf13_1 : tfield Try.prog 13 1 = some (1, 12) := by kernel_rfl
theorem ti20 : tinfo Try.prog 20 = some ⟨1, 16, false, [.nilIface]⟩ := by kernel_rfl
theorem ti21 : tinfo Try.prog 21 = some ⟨1, 4, false, [.int .i32 0]⟩ := by kernel_rfl
theorem tk21 : tint Try.prog 21 = some .i32 := by kernel_rfl
theorem tz21 : tsome Try.prog 21 = true := by kernel_rfl
theorem ti22 : tinfo Try.prog 22 = some ⟨1, 24, false, [(.slice none 0 0)]⟩ := by kernel_rfl
theorem te22 : telem Try.prog 22 = some 81 := by kernel_rfl
theorem ti23 : tinfo Try.prog 23 = some ⟨1, 24, true, [(.slice none 0 0)]⟩ := by kernel_rfl
theorem tp23 : tplaces Try.prog 23 = some [(0, 1)] := by kernel_rfl
theorem tf23_0 : tfield Try.prog 23 0 = some (0, 22) := by kernel_rfl
theorem ti24 : tinfo Try.prog 24 = some ⟨1, 24, true, [(.slice none 0 0)]⟩ := by kernel_rfl
theorem tp24 : tplaces Try.prog 24 = some [(0, 1)] := by kernel_rfl
theorem tf24_0 : tfield Try.prog 24 0 = some (0, 22) := by kernel_rfl
theorem ti25 : tinfo Try.prog 25 = some ⟨1, 24, false, [(.slice none 0 0)]⟩ := by kernel_rfl
theorem te25 : telem Try.prog 25 = some 37 := by kernel_rfl
theorem ti27 : tinfo Try.prog 27 = some ⟨1, 8, false, [.nilFunc]⟩ := by kernel_rfl
theorem ti28 : tinfo Try.prog 28 = some ⟨1, 8, false, [.nilFunc]⟩ := by kernel_rfl
theorem ti29 : tinfo Try.prog 29 = some ⟨1, 24, false, [(.slice none 0 0)]⟩ := by kernel_rfl
theorem te29 : telem Try.prog 29 = some 3 := by kernel_rfl
theorem ti30 : tinfo Try.prog 30 = some ⟨1, 24, false, [(.slice none 0 0)]⟩ := by kernel_rfl
theorem te30 : telem Try.prog 30 = some 56 := by kernel_rfl
theorem ti31 : tinfo Try.prog 31 = some ⟨1, 24, true, [(.slice none 0 0)]⟩ := by kernel_rfl
theorem tp31 : tplaces Try.prog 31 = some [(0, 1)] := by kernel_rfl
theorem tf31_0 : tfield Try.prog 31 0 = some (0, 30) := by kernel_rfl
theorem ti32 : tinfo Try.prog 32 = some ⟨1, 24, true, [(.slice none 0 0)]⟩ := by kernel_rfl
theorem tp32 : tplaces Try.prog 32 = some [(0, 1)] := by kernel_rfl
theorem tf32_0 : tfield Try.prog 32 0 = some (0, 30) := by kernel_rfl
theorem ti33 : tinfo Try.prog 33 = some ⟨4, 64, true, [(.slice none 0 0), .int .i64 0, .int .i64 0, (.slice none 0 0)]⟩ := by kernel_rfl
theorem tp33 : tplaces Try.prog 33 = some [(0, 1), (1, 1), (2, 1), (3, 1)] := by kernel_rfl
theorem tf33_0 : tfield Try.prog 33 0 = some (0, 29) := by kernel_rfl
theorem tf33_1 : tfield Try.prog 33 1 = some (1, 3) := by kernel_rfl
theorem tf33_2 : tfield Try.prog 33 2 = some (2, 3) := by kernel_rfl
theorem tf33_3 : tfield Try.prog 33 3 = some (3, 32) := by kernel_rfl
theorem ti34 : tinfo Try.prog 34 = some ⟨4, 64, true, [(.slice none 0 0), .int .i64 0, .int .i64 0, (.slice none 0 0)]⟩ := by kernel_rfl
theorem tp34 : tplaces Try.prog 34 = some [(0, 1), (1, 1), (2, 1), (3, 1)] := by kernel_rfl
theorem tf34_0 : tfield Try.prog 34 0 = some (0, 29) := by kernel_rfl
theorem tf34_1 : tfield Try.prog 34 1 = some (1, 3) := by kernel_rfl
theorem tf34_2 : tfield Try.prog 34 2 = some (2, 3) := by kernel_rfl
theorem tf34_3 : tfield Try.prog 34 3 = some (3, 32) := by kernel_rfl
theorem ti35 : tinfo Try.prog 35 = some ⟨1, 8, false, [.nilFunc]⟩ := by kernel_rfl
theorem ti36 : tinfo Try.prog 36 = some ⟨4, 32, true, [.int .i64 0, .int .i64 0, .int .i64 0, .int .i64 0]⟩ := by kernel_rfl
theorem tq36 : teq Try.prog 36 = some [.i, .i, .i, .i] := by kernel_rfl
theorem tp36 : tplaces Try.prog 36 = some [(0, 1), (1, 1), (2, 1), (3, 1)] := by kernel_rfl
theorem tf36_0 : tfield Try.prog 36 0 = some (0, 3) := by kernel_rfl
theorem tf36_1 : tfield Try.prog 36 1 = some (1, 3) := by kernel_rfl
theorem tf36_2 : tfield Try.prog 36 2 = some (2, 3) := by kernel_rfl
theorem tf36_3 : tfield Try.prog 36 3 = some (3, 3) := by kernel_rfl
theorem ti37 : tinfo Try.prog 37 = some ⟨4, 32, true, [.int .i64 0, .int .i64 0, .int .i64 0, .int .i64 0]⟩ := by kernel_rfl
theorem tq37 : teq Try.prog 37 = some [.i, .i, .i, .i] := by kernel_rfl
theorem tp37 : tplaces Try.prog 37 = some [(0, 1), (1, 1), (2, 1), (3, 1)] := by kernel_rfl
theorem tf37_0 : tfield Try.prog 37 0 = some (0, 3) := by kernel_rfl
theorem tf37_1 : tfield Try.prog 37 1 = some (1, 3) := by kernel_rfl
theorem tf37_2 : tfield Try.prog 37 2 = some (2, 3) := by kernel_rfl
theorem tf37_3 : tfield Try.prog 37 3 = some (3, 3) := by kernel_rfl
theorem ti38 : tinfo Try.prog 38 = some ⟨1, 8, false, [.nilFunc]⟩ := by kernel_rfl
theorem ti39 : tinfo Try.prog 39 = some ⟨1, 8, false, [.nilFunc]⟩ := by kernel_rfl
theorem ti40 : tinfo Try.prog 40 = some ⟨1, 8, false, [.nilFunc]⟩ := by kernel_rfl
theorem ti41 : tinfo Try.prog 41 = some ⟨1, 8, false, [.nilFunc]⟩ := by kernel_rfl
theorem ti42 : tinfo Try.prog 42 = some ⟨1, 8, false, [.nilFunc]⟩ := by kernel_rfl
theorem ti43 : tinfo Try.prog 43 = some ⟨1, 8, false, [.nilFunc]⟩ := by kernel_rfl
theorem ti44 : tinfo Try.prog 44 = some ⟨1, 24, false, [(.slice none 0 0)]⟩ := by kernel_rfl
theorem te44 : telem Try.prog 44 = some 5 := by kernel_rfl
theorem tz44 : tsome Try.prog 44 = true := by kernel_rfl
theorem ti46 : tinfo Try.prog 46 = some ⟨1, 8, false, [.nilFunc]⟩ := by kernel_rfl
theorem ti47 : tinfo Try.prog 47 = some ⟨1, 8, false, [.nilFunc]⟩ := by kernel_rfl
theorem ti48 : tinfo Try.prog 48 = some ⟨1, 8, false, [.nilFunc]⟩ := by kernel_rfl
theorem ti49 : tinfo Try.prog 49 = some ⟨1, 8, false, [.pointer none]⟩ := by kernel_rfl
theorem ti50 : tinfo Try.prog 50 = some ⟨1, 8, false, [.nilFunc]⟩ := by kernel_rfl
theorem ti51 : tinfo Try.prog 51 = some ⟨1, 8, false, [.nilFunc]⟩ := by kernel_rfl
theorem ti52 : tinfo Try.prog 52 = some ⟨2, 16, true, [.int .i64 0, .int .i64 0]⟩ := by kernel_rfl
theorem tq52 : teq Try.prog 52 = some [.i, .i] := by kernel_rfl
theorem tp52 : tplaces Try.prog 52 = some [(0, 1), (1, 1)] := by kernel_rfl
theorem tf52_0 : tfield Try.prog 52 0 = some (0, 3) := by kernel_rfl
theorem tf52_1 : tfield Try.prog 52 1 = some (1, 3) := by kernel_rfl
theorem ti53 : tinfo Try.prog 53 = some ⟨2, 16, true, [.int .i64 0, .int .i64 0]⟩ := by kernel_rfl
theorem tq53 : teq Try.prog 53 = some [.i, .i] := by kernel_rfl
theorem tp53 : tplaces Try.prog 53 = some [(0, 1), (1, 1)] := by kernel_rfl
theorem tf53_0 : tfield Try.prog 53 0 = some (0, 3) := by kernel_rfl
theorem tf53_1 : tfield Try.prog 53 1 = some (1, 3) := by kernel_rfl
theorem ti54 : tinfo Try.prog 54 = some ⟨1, 8, false, [.nilFunc]⟩ := by kernel_rfl
theorem ti55 : tinfo Try.prog 55 = some ⟨5, 40, true, [.int .i64 0, .int .i64 0, .int .i64 0, .int .i64 0, .bool false]⟩ := by kernel_rfl
theorem tq55 : teq Try.prog 55 = some [.i, .i, .i, .i, .b] := by kernel_rfl
theorem tp55 : tplaces Try.prog 55 = some [(0, 1), (1, 1), (2, 1), (3, 1), (4, 1)] := by kernel_rfl
theorem tf55_0 : tfield Try.prog 55 0 = some (0, 3) := by kernel_rfl
theorem tf55_1 : tfield Try.prog 55 1 = some (1, 3) := by kernel_rfl
theorem tf55_2 : tfield Try.prog 55 2 = some (2, 3) := by kernel_rfl
theorem tf55_3 : tfield Try.prog 55 3 = some (3, 3) := by kernel_rfl
theorem tf55_4 : tfield Try.prog 55 4 = some (4, 4) := by kernel_rfl
theorem ti56 : tinfo Try.prog 56 = some ⟨5, 40, true, [.int .i64 0, .int .i64 0, .int .i64 0, .int .i64 0, .bool false]⟩ := by kernel_rfl
theorem tq56 : teq Try.prog 56 = some [.i, .i, .i, .i, .b] := by kernel_rfl
theorem tp56 : tplaces Try.prog 56 = some [(0, 1), (1, 1), (2, 1), (3, 1), (4, 1)] := by kernel_rfl
theorem tf56_0 : tfield Try.prog 56 0 = some (0, 3) := by kernel_rfl
theorem tf56_1 : tfield Try.prog 56 1 = some (1, 3) := by kernel_rfl
theorem tf56_2 : tfield Try.prog 56 2 = some (2, 3) := by kernel_rfl
theorem tf56_3 : tfield Try.prog 56 3 = some (3, 3) := by kernel_rfl
theorem tf56_4 : tfield Try.prog 56 4 = some (4, 4) := by kernel_rfl
theorem ti57 : tinfo Try.prog 57 = some ⟨1, 8, false, [.map none]⟩ := by kernel_rfl
theorem ti58 : tinfo Try.prog 58 = some ⟨1, 8, false, [.nilFunc]⟩ := by kernel_rfl
theorem ti59 : tinfo Try.prog 59 = some ⟨1, 8, false, [.nilFunc]⟩ := by kernel_rfl
theorem ti60 : tinfo Try.prog 60 = some ⟨1, 8, false, [.nilFunc]⟩ := by kernel_rfl
theorem ti61 : tinfo Try.prog 61 = some ⟨1, 8, false, [.nilFunc]⟩ := by kernel_rfl
theorem ti62 : tinfo Try.prog 62 = some ⟨1, 8, false, [.nilFunc]⟩ := by kernel_rfl
theorem ti63 : tinfo Try.prog 63 = some ⟨1, 8, false, [.nilFunc]⟩ := by kernel_rfl
theorem ti64 : tinfo Try.prog 64 = some ⟨1, 8, false, [.nilFunc]⟩ := by kernel_rfl
theorem ti65 : tinfo Try.prog 65 = some ⟨1, 8, false, [.nilFunc]⟩ := by kernel_rfl
theorem ti66 : tinfo Try.prog 66 = some ⟨1, 8, false, [.pointer none]⟩ := by kernel_rfl
theorem ti67 : tinfo Try.prog 67 = some ⟨1, 8, false, [.nilFunc]⟩ := by kernel_rfl
theorem ti68 : tinfo Try.prog 68 = some ⟨1, 8, false, [.nilFunc]⟩ := by kernel_rfl
theorem ti69 : tinfo Try.prog 69 = some ⟨1, 8, false, [.nilFunc]⟩ := by kernel_rfl
theorem ti70 : tinfo Try.prog 70 = some ⟨5, 104, true, [(.slice none 0 0), (.slice none 0 0), (.slice none 0 0), (.slice none 0 0), .int .i64 0]⟩ := by kernel_rfl
theorem tp70 : tplaces Try.prog 70 = some [(0, 1), (1, 1), (2, 1), (3, 1), (4, 1)] := by kernel_rfl
theorem tf70_0 : tfield Try.prog 70 0 = some (0, 24) := by kernel_rfl
theorem tf70_1 : tfield Try.prog 70 1 = some (1, 25) := by kernel_rfl
theorem tf70_2 : tfield Try.prog 70 2 = some (2, 29) := by kernel_rfl
theorem tf70_3 : tfield Try.prog 70 3 = some (3, 32) := by kernel_rfl
theorem tf70_4 : tfield Try.prog 70 4 = some (4, 3) := by kernel_rfl
theorem ti71 : tinfo Try.prog 71 = some ⟨5, 104, true, [(.slice none 0 0), (.slice none 0 0), (.slice none 0 0), (.slice none 0 0), .int .i64 0]⟩ := by kernel_rfl
theorem tp71 : tplaces Try.prog 71 = some [(0, 1), (1, 1), (2, 1), (3, 1), (4, 1)] := by kernel_rfl
theorem tf71_0 : tfield Try.prog 71 0 = some (0, 24) := by kernel_rfl
theorem tf71_1 : tfield Try.prog 71 1 = some (1, 25) := by kernel_rfl
theorem tf71_2 : tfield Try.prog 71 2 = some (2, 29) := by kernel_rfl
theorem tf71_3 : tfield Try.prog 71 3 = some (3, 32) := by kernel_rfl
theorem tf71_4 : tfield Try.prog 71 4 = some (4, 3) := by kernel_rfl
theorem ti73 : tinfo Try.prog 73 = some ⟨1, 8, false, [.nilFunc]⟩ := by kernel_rfl
theorem ti74 : tinfo Try.prog 74 = some ⟨1, 8, false, [.nilFunc]⟩ := by kernel_rfl
theorem ti75 : tinfo Try.prog 75 = some ⟨1, 8, false, [.nilFunc]⟩ := by kernel_rfl
theorem ti76 : tinfo Try.prog 76 = some ⟨1, 8, false, [.nilFunc]⟩ := by kernel_rfl
theorem ti77 : tinfo Try.prog 77 = some ⟨1, 8, false, [.nilFunc]⟩ := by kernel_rfl
theorem ti78 : tinfo Try.prog 78 = some ⟨1, 8, false, [.nilFunc]⟩ := by kernel_rfl
theorem ti79 : tinfo Try.prog 79 = some ⟨1, 8, false, [.nilFunc]⟩ := by kernel_rfl
theorem ti80 : tinfo Try.prog 80 = some ⟨2, 24, true, [(.string ⟨[].toArray⟩), .int .i64 0]⟩ := by kernel_rfl
theorem tq80 : teq Try.prog 80 = some [.s, .i] := by kernel_rfl
theorem tp80 : tplaces Try.prog 80 = some [(0, 1), (1, 1)] := by kernel_rfl
theorem tf80_0 : tfield Try.prog 80 0 = some (0, 9) := by kernel_rfl
theorem tf80_1 : tfield Try.prog 80 1 = some (1, 3) := by kernel_rfl
theorem ti81 : tinfo Try.prog 81 = some ⟨2, 24, true, [(.string ⟨[].toArray⟩), .int .i64 0]⟩ := by kernel_rfl
theorem tq81 : teq Try.prog 81 = some [.s, .i] := by kernel_rfl
theorem tp81 : tplaces Try.prog 81 = some [(0, 1), (1, 1)] := by kernel_rfl
theorem tf81_0 : tfield Try.prog 81 0 = some (0, 9) := by kernel_rfl
theorem tf81_1 : tfield Try.prog 81 1 = some (1, 3) := by kernel_rfl
theorem ti82 : tinfo Try.prog 82 = some ⟨1, 8, false, [.nilFunc]⟩ := by kernel_rfl
theorem ti83 : tinfo Try.prog 83 = some ⟨1, 8, false, [.nilFunc]⟩ := by kernel_rfl
theorem ti84 : tinfo Try.prog 84 = some ⟨1, 8, false, [.nilFunc]⟩ := by kernel_rfl
theorem ti85 : tinfo Try.prog 85 = some ⟨1, 8, false, [.nilFunc]⟩ := by kernel_rfl
theorem ti86 : tinfo Try.prog 86 = some ⟨1, 8, false, [.nilFunc]⟩ := by kernel_rfl
theorem ti87 : tinfo Try.prog 87 = some ⟨1, 8, false, [.nilFunc]⟩ := by kernel_rfl
theorem ti88 : tinfo Try.prog 88 = some ⟨1, 8, false, [.nilFunc]⟩ := by kernel_rfl
theorem ti89 : tinfo Try.prog 89 = some ⟨1, 8, false, [.nilFunc]⟩ := by kernel_rfl
theorem ti90 : tinfo Try.prog 90 = some ⟨2, 32, true, [(.slice none 0 0), .int .i64 0]⟩ := by kernel_rfl
theorem tp90 : tplaces Try.prog 90 = some [(0, 1), (1, 1)] := by kernel_rfl
theorem tf90_0 : tfield Try.prog 90 0 = some (0, 44) := by kernel_rfl
theorem tf90_1 : tfield Try.prog 90 1 = some (1, 3) := by kernel_rfl
theorem ti91 : tinfo Try.prog 91 = some ⟨2, 32, true, [(.slice none 0 0), .int .i64 0]⟩ := by kernel_rfl
theorem tp91 : tplaces Try.prog 91 = some [(0, 1), (1, 1)] := by kernel_rfl
theorem tf91_0 : tfield Try.prog 91 0 = some (0, 44) := by kernel_rfl
theorem tf91_1 : tfield Try.prog 91 1 = some (1, 3) := by kernel_rfl
theorem ti92 : tinfo Try.prog 92 = some ⟨1, 8, false, [.nilFunc]⟩ := by kernel_rfl
theorem ti93 : tinfo Try.prog 93 = some ⟨1, 8, false, [.nilFunc]⟩ := by kernel_rfl
theorem ti94 : tinfo Try.prog 94 = some ⟨1, 8, false, [.nilFunc]⟩ := by kernel_rfl
theorem ti95 : tinfo Try.prog 95 = some ⟨1, 8, false, [.nilFunc]⟩ := by kernel_rfl
theorem ti96 : tinfo Try.prog 96 = some ⟨1, 8, false, [.nilFunc]⟩ := by kernel_rfl
theorem ti97 : tinfo Try.prog 97 = some ⟨1, 8, false, [.nilFunc]⟩ := by kernel_rfl
theorem ti98 : tinfo Try.prog 98 = some ⟨1, 8, false, [.nilFunc]⟩ := by kernel_rfl
theorem ti99 : tinfo Try.prog 99 = some ⟨1, 8, false, [.nilFunc]⟩ := by kernel_rfl
theorem ti100 : tinfo Try.prog 100 = some ⟨1, 8, false, [.nilFunc]⟩ := by kernel_rfl
theorem ti101 : tinfo Try.prog 101 = some ⟨1, 8, false, [.nilFunc]⟩ := by kernel_rfl
theorem ti102 : tinfo Try.prog 102 = some ⟨1, 8, false, [.nilFunc]⟩ := by kernel_rfl
theorem ti103 : tinfo Try.prog 103 = some ⟨1, 24, false, [(.slice none 0 0)]⟩ := by kernel_rfl
theorem te103 : telem Try.prog 103 = some 9 := by kernel_rfl
theorem ti104 : tinfo Try.prog 104 = some ⟨1, 8, false, [.nilFunc]⟩ := by kernel_rfl
theorem ti105 : tinfo Try.prog 105 = some ⟨1, 8, false, [.nilFunc]⟩ := by kernel_rfl
theorem ti106 : tinfo Try.prog 106 = some ⟨1, 8, false, [.nilFunc]⟩ := by kernel_rfl
theorem ti107 : tinfo Try.prog 107 = some ⟨1, 8, false, [.nilFunc]⟩ := by kernel_rfl
theorem ti108 : tinfo Try.prog 108 = some ⟨1, 8, false, [.nilFunc]⟩ := by kernel_rfl
theorem ti109 : tinfo Try.prog 109 = some ⟨1, 8, false, [.nilFunc]⟩ := by kernel_rfl
theorem ti110 : tinfo Try.prog 110 = some ⟨1, 8, false, [.nilFunc]⟩ := by kernel_rfl
theorem ti111 : tinfo Try.prog 111 = some ⟨1, 8, false, [.nilFunc]⟩ := by kernel_rfl
theorem ti112 : tinfo Try.prog 112 = some ⟨1, 8, false, [.int .u64 0]⟩ := by kernel_rfl
theorem tk112 : tint Try.prog 112 = some .u64 := by kernel_rfl
theorem tz112 : tsome Try.prog 112 = true := by kernel_rfl
theorem ti113 : tinfo Try.prog 113 = some ⟨1, 8, false, [.pointer none]⟩ := by kernel_rfl
theorem ti114 : tinfo Try.prog 114 = some ⟨1, 8, false, [.nilFunc]⟩ := by kernel_rfl
theorem ti115 : tinfo Try.prog 115 = some ⟨1, 8, false, [.int .i64 0]⟩ := by kernel_rfl
theorem tk115 : tint Try.prog 115 = some .i64 := by kernel_rfl
theorem ti117 : tinfo Try.prog 117 = some ⟨1, 8, false, [.nilFunc]⟩ := by kernel_rfl
theorem ti118 : tinfo Try.prog 118 = some ⟨1, 8, false, [.nilFunc]⟩ := by kernel_rfl
theorem ti119 : tinfo Try.prog 119 = some ⟨1, 8, false, [.nilFunc]⟩ := by kernel_rfl
theorem ti121 : tinfo Try.prog 121 = some ⟨1, 8, false, [.nilFunc]⟩ := by kernel_rfl
theorem ti122 : tinfo Try.prog 122 = some ⟨1, 8, false, [.nilFunc]⟩ := by kernel_rfl
theorem ti123 : tinfo Try.prog 123 = some ⟨1, 4, false, [.int .u32 0]⟩ := by kernel_rfl
theorem tk123 : tint Try.prog 123 = some .u32 := by kernel_rfl
theorem tz123 : tsome Try.prog 123 = true := by kernel_rfl
theorem ti124 : tinfo Try.prog 124 = some ⟨1, 8, false, [.nilFunc]⟩ := by kernel_rfl
theorem ti125 : tinfo Try.prog 125 = some ⟨1, 8, false, [.int .u64 0]⟩ := by kernel_rfl
theorem tk125 : tint Try.prog 125 = some .u64 := by kernel_rfl
theorem tz125 : tsome Try.prog 125 = true := by kernel_rfl
theorem ti126 : tinfo Try.prog 126 = some ⟨1, 8, false, [.nilFunc]⟩ := by kernel_rfl
theorem ti127 : tinfo Try.prog 127 = some ⟨1, 8, false, [.int .u64 0]⟩ := by kernel_rfl
theorem tk127 : tint Try.prog 127 = some .u64 := by kernel_rfl
theorem ti128 : tinfo Try.prog 128 = some ⟨1, 8, false, [.nilFunc]⟩ := by kernel_rfl
theorem ti129 : tinfo Try.prog 129 = some ⟨1, 8, false, [.nilFunc]⟩ := by kernel_rfl
theorem ti130 : tinfo Try.prog 130 = some ⟨1, 8, false, [.nilFunc]⟩ := by kernel_rfl
theorem ti131 : tinfo Try.prog 131 = some ⟨1, 8, false, [.pointer none]⟩ := by kernel_rfl
theorem ti132 : tinfo Try.prog 132 = some ⟨1, 8, false, [.nilFunc]⟩ := by kernel_rfl
theorem ti133 : tinfo Try.prog 133 = some ⟨1, 8, false, [.pointer none]⟩ := by kernel_rfl
theorem ti135 : tinfo Try.prog 135 = some ⟨1, 8, false, [.nilFunc]⟩ := by kernel_rfl
theorem ti136 : tinfo Try.prog 136 = some ⟨1, 8, false, [.nilFunc]⟩ := by kernel_rfl
theorem ti142 : tinfo Try.prog 142 = some ⟨1, 8, false, [.nilFunc]⟩ := by kernel_rfl
theorem ti146 : tinfo Try.prog 146 = some ⟨1, 8, false, [.pointer none]⟩ := by kernel_rfl
theorem fp13_0 {b sz i j : Nat} : fieldAddrA Try.prog 13 (.ptr b sz i j) 0 = some (.ptr b sz i (j + 0)) := fa_p tf13_0 ti9 (by decide)
theorem fv13_0 {es : List (List AV)} {i j : Nat} : fieldAddrA Try.prog 13 (.vptr es i j) 0 = some (.vptr es i (j + 0)) := fa_v tf13_0 ti9 (by decide)
theorem fp13_1 {b sz i j : Nat} : fieldAddrA Try.prog 13 (.ptr b sz i j) 1 = some (.ptr b sz i (j + 1)) := fa_p tf13_1 ti12 (by decide)
theorem fv13_1 {es : List (List AV)} {i j : Nat} : fieldAddrA Try.prog 13 (.vptr es i j) 1 = some (.vptr es i (j + 1)) := fa_v tf13_1 ti12 (by decide)
theorem fp23_0 {b sz i j : Nat} : fieldAddrA Try.prog 23 (.ptr b sz i j) 0 = some (.ptr b sz i (j + 0)) := fa_p tf23_0 ti22 (by decide)
theorem fv23_0 {es : List (List AV)} {i j : Nat} : fieldAddrA Try.prog 23 (.vptr es i j) 0 = some (.vptr es i (j + 0)) := fa_v tf23_0 ti22 (by decide)
theorem fp24_0 {b sz i j : Nat} : fieldAddrA Try.prog 24 (.ptr b sz i j) 0 = some (.ptr b sz i (j + 0)) := fa_p tf24_0 ti22 (by decide)
theorem fv24_0 {es : List (List AV)} {i j : Nat} : fieldAddrA Try.prog 24 (.vptr es i j) 0 = some (.vptr es i (j + 0)) := fa_v tf24_0 ti22 (by decide)
theorem fp31_0 {b sz i j : Nat} : fieldAddrA Try.prog 31 (.ptr b sz i j) 0 = some (.ptr b sz i (j + 0)) := fa_p tf31_0 ti30 (by decide)
theorem fv31_0 {es : List (List AV)} {i j : Nat} : fieldAddrA Try.prog 31 (.vptr es i j) 0 = some (.vptr es i (j + 0)) := fa_v tf31_0 ti30 (by decide)
theorem fp32_0 {b sz i j : Nat} : fieldAddrA Try.prog 32 (.ptr b sz i j) 0 = some (.ptr b sz i (j + 0)) := fa_p tf32_0 ti30 (by decide)
theorem fv32_0 {es : List (List AV)} {i j : Nat} : fieldAddrA Try.prog 32 (.vptr es i j) 0 = some (.vptr es i (j + 0)) := fa_v tf32_0 ti30 (by decide)
theorem fp33_0 {b sz i j : Nat} : fieldAddrA Try.prog 33 (.ptr b sz i j) 0 = some (.ptr b sz i (j + 0)) := fa_p tf33_0 ti29 (by decide)
theorem fv33_0 {es : List (List AV)} {i j : Nat} : fieldAddrA Try.prog 33 (.vptr es i j) 0 = some (.vptr es i (j + 0)) := fa_v tf33_0 ti29 (by decide)
theorem fp33_1 {b sz i j : Nat} : fieldAddrA Try.prog 33 (.ptr b sz i j) 1 = some (.ptr b sz i (j + 1)) := fa_p tf33_1 ti3 (by decide)
theorem fv33_1 {es : List (List AV)} {i j : Nat} : fieldAddrA Try.prog 33 (.vptr es i j) 1 = some (.vptr es i (j + 1)) := fa_v tf33_1 ti3 (by decide)
theorem fp33_2 {b sz i j : Nat} : fieldAddrA Try.prog 33 (.ptr b sz i j) 2 = some (.ptr b sz i (j + 2)) := fa_p tf33_2 ti3 (by decide)
theorem fv33_2 {es : List (List AV)} {i j : Nat} : fieldAddrA Try.prog 33 (.vptr es i j) 2 = some (.vptr es i (j + 2)) := fa_v tf33_2 ti3 (by decide)
theorem fp33_3 {b sz i j : Nat} : fieldAddrA Try.prog 33 (.ptr b sz i j) 3 = some (.ptr b sz i (j + 3)) := fa_p tf33_3 ti32 (by decide)
theorem fv33_3 {es : List (List AV)} {i j : Nat} : fieldAddrA Try.prog 33 (.vptr es i j) 3 = some (.vptr es i (j + 3)) := fa_v tf33_3 ti32 (by decide)
theorem fp34_0 {b sz i j : Nat} : fieldAddrA Try.prog 34 (.ptr b sz i j) 0 = some (.ptr b sz i (j + 0)) := fa_p tf34_0 ti29 (by decide)
theorem fv34_0 {es : List (List AV)} {i j : Nat} : fieldAddrA Try.prog 34 (.vptr es i j) 0 = some (.vptr es i (j + 0)) := fa_v tf34_0 ti29 (by decide)
theorem fp34_1 {b sz i j : Nat} : fieldAddrA Try.prog 34 (.ptr b sz i j) 1 = some (.ptr b sz i (j + 1)) := fa_p tf34_1 ti3 (by decide)
theorem fv34_1 {es : List (List AV)} {i j : Nat} : fieldAddrA Try.prog 34 (.vptr es i j) 1 = some (.vptr es i (j + 1)) := fa_v tf34_1 ti3 (by decide)
theorem fp34_2 {b sz i j : Nat} : fieldAddrA Try.prog 34 (.ptr b sz i j) 2 = some (.ptr b sz i (j + 2)) := fa_p tf34_2 ti3 (by decide)
theorem fv34_2 {es : List (List AV)} {i j : Nat} : fieldAddrA Try.prog 34 (.vptr es i j) 2 = some (.vptr es i (j + 2)) := fa_v tf34_2 ti3 (by decide)
theorem fp34_3 {b sz i j : Nat} : fieldAddrA Try.prog 34 (.ptr b sz i j) 3 = some (.ptr b sz i (j + 3)) := fa_p tf34_3 ti32 (by decide)
theorem fv34_3 {es : List (List AV)} {i j : Nat} : fieldAddrA Try.prog 34 (.vptr es i j) 3 = some (.vptr es i (j + 3)) := fa_v tf34_3 ti32 (by decide)
theorem fp36_0 {b sz i j : Nat} : fieldAddrA Try.prog 36 (.ptr b sz i j) 0 = some (.ptr b sz i (j + 0)) := fa_p tf36_0 ti3 (by decide)
theorem fv36_0 {es : List (List AV)} {i j : Nat} : fieldAddrA Try.prog 36 (.vptr es i j) 0 = some (.vptr es i (j + 0)) := fa_v tf36_0 ti3 (by decide)
theorem fp36_1 {b sz i j : Nat} : fieldAddrA Try.prog 36 (.ptr b sz i j) 1 = some (.ptr b sz i (j + 1)) := fa_p tf36_1 ti3 (by decide)
theorem fv36_1 {es : List (List AV)} {i j : Nat} : fieldAddrA Try.prog 36 (.vptr es i j) 1 = some (.vptr es i (j + 1)) := fa_v tf36_1 ti3 (by decide)
theorem fp36_2 {b sz i j : Nat} : fieldAddrA Try.prog 36 (.ptr b sz i j) 2 = some (.ptr b sz i (j + 2)) := fa_p tf36_2 ti3 (by decide)
theorem fv36_2 {es : List (List AV)} {i j : Nat} : fieldAddrA Try.prog 36 (.vptr es i j) 2 = some (.vptr es i (j + 2)) := fa_v tf36_2 ti3 (by decide)
theorem fp36_3 {b sz i j : Nat} : fieldAddrA Try.prog 36 (.ptr b sz i j) 3 = some (.ptr b sz i (j + 3)) := fa_p tf36_3 ti3 (by decide)
theorem fv36_3 {es : List (List AV)} {i j : Nat} : fieldAddrA Try.prog 36 (.vptr es i j) 3 = some (.vptr es i (j + 3)) := fa_v tf36_3 ti3 (by decide)
theorem fp37_0 {b sz i j : Nat} : fieldAddrA Try.prog 37 (.ptr b sz i j) 0 = some (.ptr b sz i (j + 0)) := fa_p tf37_0 ti3 (by decide)
theorem fv37_0 {es : List (List AV)} {i j : Nat} : fieldAddrA Try.prog 37 (.vptr es i j) 0 = some (.vptr es i (j + 0)) := fa_v tf37_0 ti3 (by decide)
theorem fp37_1 {b sz i j : Nat} : fieldAddrA Try.prog 37 (.ptr b sz i j) 1 = some (.ptr b sz i (j + 1)) := fa_p tf37_1 ti3 (by decide)
theorem fv37_1 {es : List (List AV)} {i j : Nat} : fieldAddrA Try.prog 37 (.vptr es i j) 1 = some (.vptr es i (j + 1)) := fa_v tf37_1 ti3 (by decide)
theorem fp37_2 {b sz i j : Nat} : fieldAddrA Try.prog 37 (.ptr b sz i j) 2 = some (.ptr b sz i (j + 2)) := fa_p tf37_2 ti3 (by decide)
theorem fv37_2 {es : List (List AV)} {i j : Nat} : fieldAddrA Try.prog 37 (.vptr es i j) 2 = some (.vptr es i (j + 2)) := fa_v tf37_2 ti3 (by decide)
theorem fp37_3 {b sz i j : Nat} : fieldAddrA Try.prog 37 (.ptr b sz i j) 3 = some (.ptr b sz i (j + 3)) := fa_p tf37_3 ti3 (by decide)
theorem fv37_3 {es : List (List AV)} {i j : Nat} : fieldAddrA Try.prog 37 (.vptr es i j) 3 = some (.vptr es i (j + 3)) := fa_v tf37_3 ti3 (by decide)
theorem fp52_0 {b sz i j : Nat} : fieldAddrA Try.prog 52 (.ptr b sz i j) 0 = some (.ptr b sz i (j + 0)) := fa_p tf52_0 ti3 (by decide)
theorem fv52_0 {es : List (List AV)} {i j : Nat} : fieldAddrA Try.prog 52 (.vptr es i j) 0 = some (.vptr es i (j + 0)) := fa_v tf52_0 ti3 (by decide)
theorem fp52_1 {b sz i j : Nat} : fieldAddrA Try.prog 52 (.ptr b sz i j) 1 = some (.ptr b sz i (j + 1)) := fa_p tf52_1 ti3 (by decide)
theorem fv52_1 {es : List (List AV)} {i j : Nat} : fieldAddrA Try.prog 52 (.vptr es i j) 1 = some (.vptr es i (j + 1)) := fa_v tf52_1 ti3 (by decide)
theorem fp53_0 {b sz i j : Nat} : fieldAddrA Try.prog 53 (.ptr b sz i j) 0 = some (.ptr b sz i (j + 0)) := fa_p tf53_0 ti3 (by decide)
theorem fv53_0 {es : List (List AV)} {i j : Nat} : fieldAddrA Try.prog 53 (.vptr es i j) 0 = some (.vptr es i (j + 0)) := fa_v tf53_0 ti3 (by decide)
theorem fp53_1 {b sz i j : Nat} : fieldAddrA Try.prog 53 (.ptr b sz i j) 1 = some (.ptr b sz i (j + 1)) := fa_p tf53_1 ti3 (by decide)
theorem fv53_1 {es : List (List AV)} {i j : Nat} : fieldAddrA Try.prog 53 (.vptr es i j) 1 = some (.vptr es i (j + 1)) := fa_v tf53_1 ti3 (by decide)
theorem fp55_0 {b sz i j : Nat} : fieldAddrA Try.prog 55 (.ptr b sz i j) 0 = some (.ptr b sz i (j + 0)) := fa_p tf55_0 ti3 (by decide)
theorem fv55_0 {es : List (List AV)} {i j : Nat} : fieldAddrA Try.prog 55 (.vptr es i j) 0 = some (.vptr es i (j + 0)) := fa_v tf55_0 ti3 (by decide)
theorem fp55_1 {b sz i j : Nat} : fieldAddrA Try.prog 55 (.ptr b sz i j) 1 = some (.ptr b sz i (j + 1)) := fa_p tf55_1 ti3 (by decide)
theorem fv55_1 {es : List (List AV)} {i j : Nat} : fieldAddrA Try.prog 55 (.vptr es i j) 1 = some (.vptr es i (j + 1)) := fa_v tf55_1 ti3 (by decide)
theorem fp55_2 {b sz i j : Nat} : fieldAddrA Try.prog 55 (.ptr b sz i j) 2 = some (.ptr b sz i (j + 2)) := fa_p tf55_2 ti3 (by decide)
theorem fv55_2 {es : List (List AV)} {i j : Nat} : fieldAddrA Try.prog 55 (.vptr es i j) 2 = some (.vptr es i (j + 2)) := fa_v tf55_2 ti3 (by decide)
theorem fp55_3 {b sz i j : Nat} : fieldAddrA Try.prog 55 (.ptr b sz i j) 3 = some (.ptr b sz i (j + 3)) := fa_p tf55_3 ti3 (by decide)
theorem fv55_3 {es : List (List AV)} {i j : Nat} : fieldAddrA Try.prog 55 (.vptr es i j) 3 = some (.vptr es i (j + 3)) := fa_v tf55_3 ti3 (by decide)
theorem fp55_4 {b sz i j : Nat} : fieldAddrA Try.prog 55 (.ptr b sz i j) 4 = some (.ptr b sz i (j + 4)) := fa_p tf55_4 ti4 (by decide)
theorem fv55_4 {es : List (List AV)} {i j : Nat} : fieldAddrA Try.prog 55 (.vptr es i j) 4 = some (.vptr es i (j + 4)) := fa_v tf55_4 ti4 (by decide)
theorem fp56_0 {b sz i j : Nat} : fieldAddrA Try.prog 56 (.ptr b sz i j) 0 = some (.ptr b sz i (j + 0)) := fa_p tf56_0 ti3 (by decide)
theorem fv56_0 {es : List (List AV)} {i j : Nat} : fieldAddrA Try.prog 56 (.vptr es i j) 0 = some (.vptr es i (j + 0)) := fa_v tf56_0 ti3 (by decide)
theorem fp56_1 {b sz i j : Nat} : fieldAddrA Try.prog 56 (.ptr b sz i j) 1 = some (.ptr b sz i (j + 1)) := fa_p tf56_1 ti3 (by decide)
theorem fv56_1 {es : List (List AV)} {i j : Nat} : fieldAddrA Try.prog 56 (.vptr es i j) 1 = some (.vptr es i (j + 1)) := fa_v tf56_1 ti3 (by decide)
theorem fp56_2 {b sz i j : Nat} : fieldAddrA Try.prog 56 (.ptr b sz i j) 2 = some (.ptr b sz i (j + 2)) := fa_p tf56_2 ti3 (by decide)
theorem fv56_2 {es : List (List AV)} {i j : Nat} : fieldAddrA Try.prog 56 (.vptr es i j) 2 = some (.vptr es i (j + 2)) := fa_v tf56_2 ti3 (by decide)
theorem fp56_3 {b sz i j : Nat} : fieldAddrA Try.prog 56 (.ptr b sz i j) 3 = some (.ptr b sz i (j + 3)) := fa_p tf56_3 ti3 (by decide)
theorem fv56_3 {es : List (List AV)} {i j : Nat} : fieldAddrA Try.prog 56 (.vptr es i j) 3 = some (.vptr es i (j + 3)) := fa_v tf56_3 ti3 (by decide)
theorem fp56_4 {b sz i j : Nat} : fieldAddrA Try.prog 56 (.ptr b sz i j) 4 = some (.ptr b sz i (j + 4)) := fa_p tf56_4 ti4 (by decide)
theorem fv56_4 {es : List (List AV)} {i j : Nat} : fieldAddrA Try.prog 56 (.vptr es i j) 4 = some (.vptr es i (j + 4)) := fa_v tf56_4 ti4 (by decide)
theorem fp70_0 {b sz i j : Nat} : fieldAddrA Try.prog 70 (.ptr b sz i j) 0 = some (.ptr b sz i (j + 0)) := fa_p tf70_0 ti24 (by decide)
theorem fv70_0 {es : List (List AV)} {i j : Nat} : fieldAddrA Try.prog 70 (.vptr es i j) 0 = some (.vptr es i (j + 0)) := fa_v tf70_0 ti24 (by decide)
theorem fp70_1 {b sz i j : Nat} : fieldAddrA Try.prog 70 (.ptr b sz i j) 1 = some (.ptr b sz i (j + 1)) := fa_p tf70_1 ti25 (by decide)
theorem fv70_1 {es : List (List AV)} {i j : Nat} : fieldAddrA Try.prog 70 (.vptr es i j) 1 = some (.vptr es i (j + 1)) := fa_v tf70_1 ti25 (by decide)
theorem fp70_2 {b sz i j : Nat} : fieldAddrA Try.prog 70 (.ptr b sz i j) 2 = some (.ptr b sz i (j + 2)) := fa_p tf70_2 ti29 (by decide)
theorem fv70_2 {es : List (List AV)} {i j : Nat} : fieldAddrA Try.prog 70 (.vptr es i j) 2 = some (.vptr es i (j + 2)) := fa_v tf70_2 ti29 (by decide)
theorem fp70_3 {b sz i j : Nat} : fieldAddrA Try.prog 70 (.ptr b sz i j) 3 = some (.ptr b sz i (j + 3)) := fa_p tf70_3 ti32 (by decide)
theorem fv70_3 {es : List (List AV)} {i j : Nat} : fieldAddrA Try.prog 70 (.vptr es i j) 3 = some (.vptr es i (j + 3)) := fa_v tf70_3 ti32 (by decide)
theorem fp70_4 {b sz i j : Nat} : fieldAddrA Try.prog 70 (.ptr b sz i j) 4 = some (.ptr b sz i (j + 4)) := fa_p tf70_4 ti3 (by decide)
theorem fv70_4 {es : List (List AV)} {i j : Nat} : fieldAddrA Try.prog 70 (.vptr es i j) 4 = some (.vptr es i (j + 4)) := fa_v tf70_4 ti3 (by decide)
theorem fp71_0 {b sz i j : Nat} : fieldAddrA Try.prog 71 (.ptr b sz i j) 0 = some (.ptr b sz i (j + 0)) := fa_p tf71_0 ti24 (by decide)
theorem fv71_0 {es : List (List AV)} {i j : Nat} : fieldAddrA Try.prog 71 (.vptr es i j) 0 = some (.vptr es i (j + 0)) := fa_v tf71_0 ti24 (by decide)
theorem fp71_1 {b sz i j : Nat} : fieldAddrA Try.prog 71 (.ptr b sz i j) 1 = some (.ptr b sz i (j + 1)) := fa_p tf71_1 ti25 (by decide)
theorem fv71_1 {es : List (List AV)} {i j : Nat} : fieldAddrA Try.prog 71 (.vptr es i j) 1 = some (.vptr es i (j + 1)) := fa_v tf71_1 ti25 (by decide)
theorem fp71_2 {b sz i j : Nat} : fieldAddrA Try.prog 71 (.ptr b sz i j) 2 = some (.ptr b sz i (j + 2)) := fa_p tf71_2 ti29 (by decide)
theorem fv71_2 {es : List (List AV)} {i j : Nat} : fieldAddrA Try.prog 71 (.vptr es i j) 2 = some (.vptr es i (j + 2)) := fa_v tf71_2 ti29 (by decide)
theorem fp71_3 {b sz i j : Nat} : fieldAddrA Try.prog 71 (.ptr b sz i j) 3 = some (.ptr b sz i (j + 3)) := fa_p tf71_3 ti32 (by decide)
theorem fv71_3 {es : List (List AV)} {i j : Nat} : fieldAddrA Try.prog 71 (.vptr es i j) 3 = some (.vptr es i (j + 3)) := fa_v tf71_3 ti32 (by decide)
theorem fp71_4 {b sz i j : Nat} : fieldAddrA Try.prog 71 (.ptr b sz i j) 4 = some (.ptr b sz i (j + 4)) := fa_p tf71_4 ti3 (by decide)
theorem fv71_4 {es : List (List AV)} {i j : Nat} : fieldAddrA Try.prog 71 (.vptr es i j) 4 = some (.vptr es i (j + 4)) := fa_v tf71_4 ti3 (by decide)
theorem fp80_0 {b sz i j : Nat} : fieldAddrA Try.prog 80 (.ptr b sz i j) 0 = some (.ptr b sz i (j + 0)) := fa_p tf80_0 ti9 (by decide)
theorem fv80_0 {es : List (List AV)} {i j : Nat} : fieldAddrA Try.prog 80 (.vptr es i j) 0 = some (.vptr es i (j + 0)) := fa_v tf80_0 ti9 (by decide)
theorem fp80_1 {b sz i j : Nat} : fieldAddrA Try.prog 80 (.ptr b sz i j) 1 = some (.ptr b sz i (j + 1)) := fa_p tf80_1 ti3 (by decide)
theorem fv80_1 {es : List (List AV)} {i j : Nat} : fieldAddrA Try.prog 80 (.vptr es i j) 1 = some (.vptr es i (j + 1)) := fa_v tf80_1 ti3 (by decide)
theorem fp81_0 {b sz i j : Nat} : fieldAddrA Try.prog 81 (.ptr b sz i j) 0 = some (.ptr b sz i (j + 0)) := fa_p tf81_0 ti9 (by decide)
theorem fv81_0 {es : List (List AV)} {i j : Nat} : fieldAddrA Try.prog 81 (.vptr es i j) 0 = some (.vptr es i (j + 0)) := fa_v tf81_0 ti9 (by decide)
theorem fp81_1 {b sz i j : Nat} : fieldAddrA Try.prog 81 (.ptr b sz i j) 1 = some (.ptr b sz i (j + 1)) := fa_p tf81_1 ti3 (by decide)
theorem fv81_1 {es : List (List AV)} {i j : Nat} : fieldAddrA Try.prog 81 (.vptr es i j) 1 = some (.vptr es i (j + 1)) := fa_v tf81_1 ti3 (by decide)
theorem fp90_0 {b sz i j : Nat} : fieldAddrA Try.prog 90 (.ptr b sz i j) 0 = some (.ptr b sz i (j + 0)) := fa_p tf90_0 ti44 (by decide)
theorem fv90_0 {es : List (List AV)} {i j : Nat} : fieldAddrA Try.prog 90 (.vptr es i j) 0 = some (.vptr es i (j + 0)) := fa_v tf90_0 ti44 (by decide)
theorem fp90_1 {b sz i j : Nat} : fieldAddrA Try.prog 90 (.ptr b sz i j) 1 = some (.ptr b sz i (j + 1)) := fa_p tf90_1 ti3 (by decide)
theorem fv90_1 {es : List (List AV)} {i j : Nat} : fieldAddrA Try.prog 90 (.vptr es i j) 1 = some (.vptr es i (j + 1)) := fa_v tf90_1 ti3 (by decide)
theorem fp91_0 {b sz i j : Nat} : fieldAddrA Try.prog 91 (.ptr b sz i j) 0 = some (.ptr b sz i (j + 0)) := fa_p tf91_0 ti44 (by decide)
theorem fv91_0 {es : List (List AV)} {i j : Nat} : fieldAddrA Try.prog 91 (.vptr es i j) 0 = some (.vptr es i (j + 0)) := fa_v tf91_0 ti44 (by decide)
theorem fp91_1 {b sz i j : Nat} : fieldAddrA Try.prog 91 (.ptr b sz i j) 1 = some (.ptr b sz i (j + 1)) := fa_p tf91_1 ti3 (by decide)
theorem fv91_1 {es : List (List AV)} {i j : Nat} : fieldAddrA Try.prog 91 (.vptr es i j) 1 = some (.vptr es i (j + 1)) := fa_v tf91_1 ti3 (by decide)
theorem lv22 {es : List (List AV)} {cl : Bool} : lenA Try.prog 22 (.vsl es cl) = some (I es.length) := lenV te22
theorem ll22 {b sz off len : Nat} {cl : Bool} : lenA Try.prog 22 (.sl b sz off len cl) = some (I len) := lenL te22
theorem is22 {b off len : Nat} {cl : Bool} {kd : IntKind} {n : Int} : indexAddrA Try.prog 22 (.sl b 2 off len cl) (.lit (.int kd n)) = if 0 ≤ n ∧ n < len then some (.ptr b 2 (off + n.toNat) 0) else none := ixs te22 ti81
theorem ix22 {l : List Class} {cl : Bool} {kd : IntKind} {n : Int} : indexAddrA Try.prog 22 (.vsl (l.map rClass) cl) (.lit (.int kd n)) = if 0 ≤ n ∧ n < l.length then some (.vptr (l.map rClass) n.toNat 0) else none := ixv te22 ti81 rClass_len (by decide)
theorem sh22 {l : List Class} {cl : Bool} {h : Int} {ka : IntKind} : sliceA Try.prog 22 (.vsl (l.map rClass) cl) none (some (.lit (.int ka h))) none = if 0 ≤ h ∧ h ≤ l.length then some (.vsl ((l.take h.toNat).map rClass) (clipOf none h l.length cl)) else none := sl_hi te22 ti81 rClass_len
theorem so22 {l : List Class} {cl : Bool} {lo : Int} {ka : IntKind} : sliceA Try.prog 22 (.vsl (l.map rClass) cl) (some (.lit (.int ka lo))) none none = if 0 ≤ lo ∧ lo ≤ l.length then some (.vsl ((l.drop lo.toNat).map rClass) cl) else none := sl_lo te22 ti81 rClass_len
theorem sb22 {l : List Class} {cl : Bool} {lo h : Int} {ka kb : IntKind} : sliceA Try.prog 22 (.vsl (l.map rClass) cl) (some (.lit (.int ka lo))) (some (.lit (.int kb h))) none = if 0 ≤ lo ∧ lo ≤ h ∧ h ≤ l.length then some (.vsl (((l.take h.toNat).drop lo.toNat).map rClass) (clipOf none h l.length cl)) else none := sl_lohi te22 ti81 rClass_len
theorem sm22 {l : List Class} {cl : Bool} {h m : Int} {ka kb : IntKind} : sliceA Try.prog 22 (.vsl (l.map rClass) cl) none (some (.lit (.int ka h))) (some (.lit (.int kb m))) = if 0 ≤ h ∧ h ≤ m ∧ m ≤ l.length then some (.vsl ((l.take h.toNat).map rClass) (decide (m = h))) else none := sl_hm te22 ti81 rClass_len
theorem sp22 {b off n : Nat} {cl : Bool} {h m : Int} {ka kb : IntKind} : sliceA Try.prog 22 (.sl b 2 off n cl) none (some (.lit (.int ka h))) (some (.lit (.int kb m))) = if 0 ≤ h ∧ h ≤ m ∧ m ≤ n then some (.sl b 2 off h.toNat (decide (m = h))) else none := so_hm te22 ti81 rfl
theorem lv25 {es : List (List AV)} {cl : Bool} : lenA Try.prog 25 (.vsl es cl) = some (I es.length) := lenV te25
theorem ll25 {b sz off len : Nat} {cl : Bool} : lenA Try.prog 25 (.sl b sz off len cl) = some (I len) := lenL te25
theorem is25 {b off len : Nat} {cl : Bool} {kd : IntKind} {n : Int} : indexAddrA Try.prog 25 (.sl b 4 off len cl) (.lit (.int kd n)) = if 0 ≤ n ∧ n < len then some (.ptr b 4 (off + n.toNat) 0) else none := ixs te25 ti37
theorem ix25 {l : List Line} {cl : Bool} {kd : IntKind} {n : Int} : indexAddrA Try.prog 25 (.vsl (l.map rLine) cl) (.lit (.int kd n)) = if 0 ≤ n ∧ n < l.length then some (.vptr (l.map rLine) n.toNat 0) else none := ixv te25 ti37 rLine_len (by decide)
theorem sh25 {l : List Line} {cl : Bool} {h : Int} {ka : IntKind} : sliceA Try.prog 25 (.vsl (l.map rLine) cl) none (some (.lit (.int ka h))) none = if 0 ≤ h ∧ h ≤ l.length then some (.vsl ((l.take h.toNat).map rLine) (clipOf none h l.length cl)) else none := sl_hi te25 ti37 rLine_len
theorem so25 {l : List Line} {cl : Bool} {lo : Int} {ka : IntKind} : sliceA Try.prog 25 (.vsl (l.map rLine) cl) (some (.lit (.int ka lo))) none none = if 0 ≤ lo ∧ lo ≤ l.length then some (.vsl ((l.drop lo.toNat).map rLine) cl) else none := sl_lo te25 ti37 rLine_len
theorem sb25 {l : List Line} {cl : Bool} {lo h : Int} {ka kb : IntKind} : sliceA Try.prog 25 (.vsl (l.map rLine) cl) (some (.lit (.int ka lo))) (some (.lit (.int kb h))) none = if 0 ≤ lo ∧ lo ≤ h ∧ h ≤ l.length then some (.vsl (((l.take h.toNat).drop lo.toNat).map rLine) (clipOf none h l.length cl)) else none := sl_lohi te25 ti37 rLine_len
theorem sm25 {l : List Line} {cl : Bool} {h m : Int} {ka kb : IntKind} : sliceA Try.prog 25 (.vsl (l.map rLine) cl) none (some (.lit (.int ka h))) (some (.lit (.int kb m))) = if 0 ≤ h ∧ h ≤ m ∧ m ≤ l.length then some (.vsl ((l.take h.toNat).map rLine) (decide (m = h))) else none := sl_hm te25 ti37 rLine_len
theorem sp25 {b off n : Nat} {cl : Bool} {h m : Int} {ka kb : IntKind} : sliceA Try.prog 25 (.sl b 4 off n cl) none (some (.lit (.int ka h))) (some (.lit (.int kb m))) = if 0 ≤ h ∧ h ≤ m ∧ m ≤ n then some (.sl b 4 off h.toNat (decide (m = h))) else none := so_hm te25 ti37 rfl
theorem lv29 {es : List (List AV)} {cl : Bool} : lenA Try.prog 29 (.vsl es cl) = some (I es.length) := lenV te29
theorem ll29 {b sz off len : Nat} {cl : Bool} : lenA Try.prog 29 (.sl b sz off len cl) = some (I len) := lenL te29
theorem is29 {b off len : Nat} {cl : Bool} {kd : IntKind} {n : Int} : indexAddrA Try.prog 29 (.sl b 1 off len cl) (.lit (.int kd n)) = if 0 ≤ n ∧ n < len then some (.ptr b 1 (off + n.toNat) 0) else none := ixs te29 ti3
theorem ix29 {l : List Int} {cl : Bool} {kd : IntKind} {n : Int} : indexAddrA Try.prog 29 (.vsl (l.map rI) cl) (.lit (.int kd n)) = if 0 ≤ n ∧ n < l.length then some (.vptr (l.map rI) n.toNat 0) else none := ixv te29 ti3 rI_len (by decide)
theorem sh29 {l : List Int} {cl : Bool} {h : Int} {ka : IntKind} : sliceA Try.prog 29 (.vsl (l.map rI) cl) none (some (.lit (.int ka h))) none = if 0 ≤ h ∧ h ≤ l.length then some (.vsl ((l.take h.toNat).map rI) (clipOf none h l.length cl)) else none := sl_hi te29 ti3 rI_len
theorem so29 {l : List Int} {cl : Bool} {lo : Int} {ka : IntKind} : sliceA Try.prog 29 (.vsl (l.map rI) cl) (some (.lit (.int ka lo))) none none = if 0 ≤ lo ∧ lo ≤ l.length then some (.vsl ((l.drop lo.toNat).map rI) cl) else none := sl_lo te29 ti3 rI_len
theorem sb29 {l : List Int} {cl : Bool} {lo h : Int} {ka kb : IntKind} : sliceA Try.prog 29 (.vsl (l.map rI) cl) (some (.lit (.int ka lo))) (some (.lit (.int kb h))) none = if 0 ≤ lo ∧ lo ≤ h ∧ h ≤ l.length then some (.vsl (((l.take h.toNat).drop lo.toNat).map rI) (clipOf none h l.length cl)) else none := sl_lohi te29 ti3 rI_len
theorem sm29 {l : List Int} {cl : Bool} {h m : Int} {ka kb : IntKind} : sliceA Try.prog 29 (.vsl (l.map rI) cl) none (some (.lit (.int ka h))) (some (.lit (.int kb m))) = if 0 ≤ h ∧ h ≤ m ∧ m ≤ l.length then some (.vsl ((l.take h.toNat).map rI) (decide (m = h))) else none := sl_hm te29 ti3 rI_len
theorem sp29 {b off n : Nat} {cl : Bool} {h m : Int} {ka kb : IntKind} : sliceA Try.prog 29 (.sl b 1 off n cl) none (some (.lit (.int ka h))) (some (.lit (.int kb m))) = if 0 ≤ h ∧ h ≤ m ∧ m ≤ n then some (.sl b 1 off h.toNat (decide (m = h))) else none := so_hm te29 ti3 rfl
theorem lv30 {es : List (List AV)} {cl : Bool} : lenA Try.prog 30 (.vsl es cl) = some (I es.length) := lenV te30
theorem ll30 {b sz off len : Nat} {cl : Bool} : lenA Try.prog 30 (.sl b sz off len cl) = some (I len) := lenL te30
theorem is30 {b off len : Nat} {cl : Bool} {kd : IntKind} {n : Int} : indexAddrA Try.prog 30 (.sl b 5 off len cl) (.lit (.int kd n)) = if 0 ≤ n ∧ n < len then some (.ptr b 5 (off + n.toNat) 0) else none := ixs te30 ti56
theorem ix30 {l : List Fault} {cl : Bool} {kd : IntKind} {n : Int} : indexAddrA Try.prog 30 (.vsl (l.map rFault) cl) (.lit (.int kd n)) = if 0 ≤ n ∧ n < l.length then some (.vptr (l.map rFault) n.toNat 0) else none := ixv te30 ti56 rFault_len (by decide)
theorem sh30 {l : List Fault} {cl : Bool} {h : Int} {ka : IntKind} : sliceA Try.prog 30 (.vsl (l.map rFault) cl) none (some (.lit (.int ka h))) none = if 0 ≤ h ∧ h ≤ l.length then some (.vsl ((l.take h.toNat).map rFault) (clipOf none h l.length cl)) else none := sl_hi te30 ti56 rFault_len
theorem so30 {l : List Fault} {cl : Bool} {lo : Int} {ka : IntKind} : sliceA Try.prog 30 (.vsl (l.map rFault) cl) (some (.lit (.int ka lo))) none none = if 0 ≤ lo ∧ lo ≤ l.length then some (.vsl ((l.drop lo.toNat).map rFault) cl) else none := sl_lo te30 ti56 rFault_len
theorem sb30 {l : List Fault} {cl : Bool} {lo h : Int} {ka kb : IntKind} : sliceA Try.prog 30 (.vsl (l.map rFault) cl) (some (.lit (.int ka lo))) (some (.lit (.int kb h))) none = if 0 ≤ lo ∧ lo ≤ h ∧ h ≤ l.length then some (.vsl (((l.take h.toNat).drop lo.toNat).map rFault) (clipOf none h l.length cl)) else none := sl_lohi te30 ti56 rFault_len
theorem sm30 {l : List Fault} {cl : Bool} {h m : Int} {ka kb : IntKind} : sliceA Try.prog 30 (.vsl (l.map rFault) cl) none (some (.lit (.int ka h))) (some (.lit (.int kb m))) = if 0 ≤ h ∧ h ≤ m ∧ m ≤ l.length then some (.vsl ((l.take h.toNat).map rFault) (decide (m = h))) else none := sl_hm te30 ti56 rFault_len
theorem sp30 {b off n : Nat} {cl : Bool} {h m : Int} {ka kb : IntKind} : sliceA Try.prog 30 (.sl b 5 off n cl) none (some (.lit (.int ka h))) (some (.lit (.int kb m))) = if 0 ≤ h ∧ h ≤ m ∧ m ≤ n then some (.sl b 5 off h.toNat (decide (m = h))) else none := so_hm te30 ti56 rfl
theorem lv44 {es : List (List AV)} {cl : Bool} : lenA Try.prog 44 (.vsl es cl) = some (I es.length) := lenV te44
theorem ll44 {b sz off len : Nat} {cl : Bool} : lenA Try.prog 44 (.sl b sz off len cl) = some (I len) := lenL te44
theorem is44 {b off len : Nat} {cl : Bool} {kd : IntKind} {n : Int} : indexAddrA Try.prog 44 (.sl b 1 off len cl) (.lit (.int kd n)) = if 0 ≤ n ∧ n < len then some (.ptr b 1 (off + n.toNat) 0) else none := ixs te44 ti5
theorem ix44 {l : List UInt8} {cl : Bool} {kd : IntKind} {n : Int} : indexAddrA Try.prog 44 (.vsl (l.map rU) cl) (.lit (.int kd n)) = if 0 ≤ n ∧ n < l.length then some (.vptr (l.map rU) n.toNat 0) else none := ixv te44 ti5 rU_len (by decide)
theorem sh44 {l : List UInt8} {cl : Bool} {h : Int} {ka : IntKind} : sliceA Try.prog 44 (.vsl (l.map rU) cl) none (some (.lit (.int ka h))) none = if 0 ≤ h ∧ h ≤ l.length then some (.vsl ((l.take h.toNat).map rU) (clipOf none h l.length cl)) else none := sl_hi te44 ti5 rU_len
theorem so44 {l : List UInt8} {cl : Bool} {lo : Int} {ka : IntKind} : sliceA Try.prog 44 (.vsl (l.map rU) cl) (some (.lit (.int ka lo))) none none = if 0 ≤ lo ∧ lo ≤ l.length then some (.vsl ((l.drop lo.toNat).map rU) cl) else none := sl_lo te44 ti5 rU_len
theorem sb44 {l : List UInt8} {cl : Bool} {lo h : Int} {ka kb : IntKind} : sliceA Try.prog 44 (.vsl (l.map rU) cl) (some (.lit (.int ka lo))) (some (.lit (.int kb h))) none = if 0 ≤ lo ∧ lo ≤ h ∧ h ≤ l.length then some (.vsl (((l.take h.toNat).drop lo.toNat).map rU) (clipOf none h l.length cl)) else none := sl_lohi te44 ti5 rU_len
theorem sm44 {l : List UInt8} {cl : Bool} {h m : Int} {ka kb : IntKind} : sliceA Try.prog 44 (.vsl (l.map rU) cl) none (some (.lit (.int ka h))) (some (.lit (.int kb m))) = if 0 ≤ h ∧ h ≤ m ∧ m ≤ l.length then some (.vsl ((l.take h.toNat).map rU) (decide (m = h))) else none := sl_hm te44 ti5 rU_len
theorem sp44 {b off n : Nat} {cl : Bool} {h m : Int} {ka kb : IntKind} : sliceA Try.prog 44 (.sl b 1 off n cl) none (some (.lit (.int ka h))) (some (.lit (.int kb m))) = if 0 ≤ h ∧ h ≤ m ∧ m ≤ n then some (.sl b 1 off h.toNat (decide (m = h))) else none := so_hm te44 ti5 rfl
theorem lv103 {es : List (List AV)} {cl : Bool} : lenA Try.prog 103 (.vsl es cl) = some (I es.length) := lenV te103
theorem ll103 {b sz off len : Nat} {cl : Bool} : lenA Try.prog 103 (.sl b sz off len cl) = some (I len) := lenL te103
theorem is103 {b off len : Nat} {cl : Bool} {kd : IntKind} {n : Int} : indexAddrA Try.prog 103 (.sl b 1 off len cl) (.lit (.int kd n)) = if 0 ≤ n ∧ n < len then some (.ptr b 1 (off + n.toNat) 0) else none := ixs te103 ti9
theorem ix103 {l : List Str} {cl : Bool} {kd : IntKind} {n : Int} : indexAddrA Try.prog 103 (.vsl (l.map rS) cl) (.lit (.int kd n)) = if 0 ≤ n ∧ n < l.length then some (.vptr (l.map rS) n.toNat 0) else none := ixv te103 ti9 rS_len (by decide)
theorem sh103 {l : List Str} {cl : Bool} {h : Int} {ka : IntKind} : sliceA Try.prog 103 (.vsl (l.map rS) cl) none (some (.lit (.int ka h))) none = if 0 ≤ h ∧ h ≤ l.length then some (.vsl ((l.take h.toNat).map rS) (clipOf none h l.length cl)) else none := sl_hi te103 ti9 rS_len
theorem so103 {l : List Str} {cl : Bool} {lo : Int} {ka : IntKind} : sliceA Try.prog 103 (.vsl (l.map rS) cl) (some (.lit (.int ka lo))) none none = if 0 ≤ lo ∧ lo ≤ l.length then some (.vsl ((l.drop lo.toNat).map rS) cl) else none := sl_lo te103 ti9 rS_len
theorem sb103 {l : List Str} {cl : Bool} {lo h : Int} {ka kb : IntKind} : sliceA Try.prog 103 (.vsl (l.map rS) cl) (some (.lit (.int ka lo))) (some (.lit (.int kb h))) none = if 0 ≤ lo ∧ lo ≤ h ∧ h ≤ l.length then some (.vsl (((l.take h.toNat).drop lo.toNat).map rS) (clipOf none h l.length cl)) else none := sl_lohi te103 ti9 rS_len
theorem sm103 {l : List Str} {cl : Bool} {h m : Int} {ka kb : IntKind} : sliceA Try.prog 103 (.vsl (l.map rS) cl) none (some (.lit (.int ka h))) (some (.lit (.int kb m))) = if 0 ≤ h ∧ h ≤ m ∧ m ≤ l.length then some (.vsl ((l.take h.toNat).map rS) (decide (m = h))) else none := sl_hm te103 ti9 rS_len
theorem sp103 {b off n : Nat} {cl : Bool} {h m : Int} {ka kb : IntKind} : sliceA Try.prog 103 (.sl b 1 off n cl) none (some (.lit (.int ka h))) (some (.lit (.int kb m))) = if 0 ≤ h ∧ h ≤ m ∧ m ≤ n then some (.sl b 1 off h.toNat (decide (m = h))) else none := so_hm te103 ti9 rfl
theorem xs9 {s : Str} {kd : IntKind} {n : Int} : indexA Try.prog 9 (S s) (.lit (.int kd n)) = if 0 ≤ n ∧ n < s.length then some (U8 (s.getD n.toNat 0).toNat) else none := ixS ts9
theorem ls9 {s : Str} : lenA Try.prog 9 (S s) = some (I s.length) := lenS ts9
theorem sx9 {s : Str} {h : Int} {ka : IntKind} : sliceA Try.prog 9 (S s) none (some (.lit (.int ka h))) none = if 0 ≤ h ∧ h ≤ s.length then some (S (s.take h.toNat)) else none := ss_hi ts9
theorem sy9 {s : Str} {lo : Int} {ka : IntKind} : sliceA Try.prog 9 (S s) (some (.lit (.int ka lo))) none none = if 0 ≤ lo ∧ lo ≤ s.length then some (S (s.drop lo.toNat)) else none := ss_lo ts9
theorem sz9 {s : Str} {lo h : Int} {ka kb : IntKind} : sliceA Try.prog 9 (S s) (some (.lit (.int ka lo))) (some (.lit (.int kb h))) none = if 0 ≤ lo ∧ lo ≤ h ∧ h ≤ s.length then some (S ((s.take h.toNat).drop lo.toNat)) else none := ss_lohi ts9
end Go.Proofs.Ytbjgilehnlpmaaa

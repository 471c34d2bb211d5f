/- Facts of this seat's tables of types. No condition. -/
import Derived.Test.YtihjbbiajggcoaaRows2
import Derived.Test.YtihjbbiajggcoaaChecked
import Derived.KernelRfl
set_option linter.unusedVariables false
set_option linter.unusedSimpArgs false
namespace Go.Proofs.Ytihjbbiajggcoaa
open Go Go.Sim

theorem mixed : Try.prog.follows .mixedOrders = true := by kernel_rfl
theorem ti1 : tinfo Try.prog 1 = some ⟨1, 8, false, [.nilFunc]⟩ := by kernel_rfl
theorem ti2 : tinfo Try.prog 2 = some ⟨1, 8, false, [.int .i64 0]⟩ := by kernel_rfl
theorem tk2 : tint Try.prog 2 = some .i64 := by kernel_rfl
theorem ti3 : tinfo Try.prog 3 = some ⟨1, 8, false, [.int .i64 0]⟩ := by kernel_rfl
theorem te3 : telem Try.prog 3 = none := by kernel_rfl
theorem ts3 : tstr Try.prog 3 = false := by kernel_rfl
theorem tk3 : tint Try.prog 3 = some .i64 := by kernel_rfl
theorem tz3 : tsome Try.prog 3 = true := by kernel_rfl
theorem ti4 : tinfo Try.prog 4 = some ⟨1, 1, false, [.bool false]⟩ := by kernel_rfl
theorem tb4 : tbool Try.prog 4 = true := by kernel_rfl
theorem ti5 : tinfo Try.prog 5 = some ⟨1, 1, false, [.int .u8 0]⟩ := by kernel_rfl
theorem tk5 : tint Try.prog 5 = some .u8 := by kernel_rfl
theorem tz5 : tsome Try.prog 5 = true := by kernel_rfl
theorem ti9 : tinfo Try.prog 9 = some ⟨1, 16, false, [(.string ⟨[].toArray⟩)]⟩ := by kernel_rfl
theorem te9 : telem Try.prog 9 = none := by kernel_rfl
theorem ts9 : tstr Try.prog 9 = true := by kernel_rfl
theorem tk9 : tint Try.prog 9 = none := by kernel_rfl
theorem tz9 : tsome Try.prog 9 = true := by kernel_rfl
theorem ti12 : tinfo Try.prog 12 = some ⟨1, 8, false, [.int .u64 0]⟩ := by kernel_rfl
theorem tk12 : tint Try.prog 12 = some .u64 := by kernel_rfl
theorem ti13 : tinfo Try.prog 13 = some ⟨2, 24, true, [(.string ⟨[].toArray⟩), .int .u64 0]⟩ := by kernel_rfl
theorem tp13 : tplaces Try.prog 13 = some [(0, 1), (1, 1)] := by kernel_rfl
theorem tf13_0 : tfield Try.prog 13 0 = some (0, 9) := by kernel_rfl
theorem tf13_1 : tfield Try.prog 13 1 = some (1, 12) := by kernel_rfl
theorem ti20 : tinfo Try.prog 20 = some ⟨1, 16, false, [.nilIface]⟩ := by kernel_rfl
theorem ti21 : tinfo Try.prog 21 = some ⟨1, 4, false, [.int .i32 0]⟩ := by kernel_rfl
theorem tk21 : tint Try.prog 21 = some .i32 := by kernel_rfl
theorem tz21 : tsome Try.prog 21 = true := by kernel_rfl
theorem ti22 : tinfo Try.prog 22 = some ⟨1, 24, false, [(.slice none 0 0)]⟩ := by kernel_rfl
theorem te22 : telem Try.prog 22 = some 5 := by kernel_rfl
theorem tz22 : tsome Try.prog 22 = true := by kernel_rfl
theorem ti23 : tinfo Try.prog 23 = some ⟨1, 24, false, [(.slice none 0 0)]⟩ := by kernel_rfl
theorem te23 : telem Try.prog 23 = some 79 := by kernel_rfl
theorem ti24 : tinfo Try.prog 24 = some ⟨1, 24, true, [(.slice none 0 0)]⟩ := by kernel_rfl
theorem tp24 : tplaces Try.prog 24 = some [(0, 1)] := by kernel_rfl
theorem tf24_0 : tfield Try.prog 24 0 = some (0, 23) := by kernel_rfl
theorem ti25 : tinfo Try.prog 25 = some ⟨1, 24, true, [(.slice none 0 0)]⟩ := by kernel_rfl
theorem tp25 : tplaces Try.prog 25 = some [(0, 1)] := by kernel_rfl
theorem tf25_0 : tfield Try.prog 25 0 = some (0, 23) := by kernel_rfl
theorem ti26 : tinfo Try.prog 26 = some ⟨1, 24, false, [(.slice none 0 0)]⟩ := by kernel_rfl
theorem te26 : telem Try.prog 26 = some 41 := by kernel_rfl
theorem ti27 : tinfo Try.prog 27 = some ⟨3, 24, true, [.bool false, .int .i64 0, .int .i64 0]⟩ := by kernel_rfl
theorem tq27 : teq Try.prog 27 = some [.b, .i, .i] := by kernel_rfl
theorem tp27 : tplaces Try.prog 27 = some [(0, 1), (1, 1), (2, 1)] := by kernel_rfl
theorem tf27_0 : tfield Try.prog 27 0 = some (0, 4) := by kernel_rfl
theorem tf27_1 : tfield Try.prog 27 1 = some (1, 3) := by kernel_rfl
theorem tf27_2 : tfield Try.prog 27 2 = some (2, 3) := by kernel_rfl
theorem ti28 : tinfo Try.prog 28 = some ⟨3, 24, true, [.bool false, .int .i64 0, .int .i64 0]⟩ := by kernel_rfl
theorem tq28 : teq Try.prog 28 = some [.b, .i, .i] := by kernel_rfl
theorem tp28 : tplaces Try.prog 28 = some [(0, 1), (1, 1), (2, 1)] := by kernel_rfl
theorem tf28_0 : tfield Try.prog 28 0 = some (0, 4) := by kernel_rfl
theorem tf28_1 : tfield Try.prog 28 1 = some (1, 3) := by kernel_rfl
theorem tf28_2 : tfield Try.prog 28 2 = some (2, 3) := by kernel_rfl
theorem ti30 : tinfo Try.prog 30 = some ⟨1, 8, false, [.nilFunc]⟩ := by kernel_rfl
theorem ti31 : tinfo Try.prog 31 = some ⟨1, 24, false, [(.slice none 0 0)]⟩ := by kernel_rfl
theorem te31 : telem Try.prog 31 = some 3 := by kernel_rfl
theorem ti32 : tinfo Try.prog 32 = some ⟨1, 24, false, [(.slice none 0 0)]⟩ := by kernel_rfl
theorem te32 : telem Try.prog 32 = some 70 := by kernel_rfl
theorem ti33 : tinfo Try.prog 33 = some ⟨1, 24, true, [(.slice none 0 0)]⟩ := by kernel_rfl
theorem tp33 : tplaces Try.prog 33 = some [(0, 1)] := by kernel_rfl
theorem tf33_0 : tfield Try.prog 33 0 = some (0, 32) := by kernel_rfl
theorem ti34 : tinfo Try.prog 34 = some ⟨1, 24, true, [(.slice none 0 0)]⟩ := by kernel_rfl
theorem tp34 : tplaces Try.prog 34 = some [(0, 1)] := by kernel_rfl
theorem tf34_0 : tfield Try.prog 34 0 = some (0, 32) := by kernel_rfl
theorem ti35 : tinfo Try.prog 35 = some ⟨4, 64, true, [(.slice none 0 0), .int .i64 0, .int .i64 0, (.slice none 0 0)]⟩ := by kernel_rfl
theorem tp35 : tplaces Try.prog 35 = some [(0, 1), (1, 1), (2, 1), (3, 1)] := by kernel_rfl
theorem tf35_0 : tfield Try.prog 35 0 = some (0, 31) := by kernel_rfl
theorem tf35_1 : tfield Try.prog 35 1 = some (1, 3) := by kernel_rfl
theorem tf35_2 : tfield Try.prog 35 2 = some (2, 3) := by kernel_rfl
theorem tf35_3 : tfield Try.prog 35 3 = some (3, 34) := by kernel_rfl
theorem ti36 : tinfo Try.prog 36 = some ⟨4, 64, true, [(.slice none 0 0), .int .i64 0, .int .i64 0, (.slice none 0 0)]⟩ := by kernel_rfl
theorem tp36 : tplaces Try.prog 36 = some [(0, 1), (1, 1), (2, 1), (3, 1)] := by kernel_rfl
theorem tf36_0 : tfield Try.prog 36 0 = some (0, 31) := by kernel_rfl
theorem tf36_1 : tfield Try.prog 36 1 = some (1, 3) := by kernel_rfl
theorem tf36_2 : tfield Try.prog 36 2 = some (2, 3) := by kernel_rfl
theorem tf36_3 : tfield Try.prog 36 3 = some (3, 34) := by kernel_rfl
theorem ti37 : tinfo Try.prog 37 = some ⟨1, 8, false, [.nilFunc]⟩ := by kernel_rfl
theorem ti38 : tinfo Try.prog 38 = some ⟨1, 8, false, [.nilFunc]⟩ := by kernel_rfl
theorem ti39 : tinfo Try.prog 39 = some ⟨1, 8, false, [.nilFunc]⟩ := by kernel_rfl
theorem ti40 : tinfo Try.prog 40 = some ⟨3, 24, true, [.int .i64 0, .int .i64 0, .int .i64 0]⟩ := by kernel_rfl
theorem tq40 : teq Try.prog 40 = some [.i, .i, .i] := by kernel_rfl
theorem tp40 : tplaces Try.prog 40 = some [(0, 1), (1, 1), (2, 1)] := by kernel_rfl
theorem tf40_0 : tfield Try.prog 40 0 = some (0, 3) := by kernel_rfl
theorem tf40_1 : tfield Try.prog 40 1 = some (1, 3) := by kernel_rfl
theorem tf40_2 : tfield Try.prog 40 2 = some (2, 3) := by kernel_rfl
theorem ti41 : tinfo Try.prog 41 = some ⟨3, 24, true, [.int .i64 0, .int .i64 0, .int .i64 0]⟩ := by kernel_rfl
theorem tq41 : teq Try.prog 41 = some [.i, .i, .i] := by kernel_rfl
theorem tp41 : tplaces Try.prog 41 = some [(0, 1), (1, 1), (2, 1)] := by kernel_rfl
theorem tf41_0 : tfield Try.prog 41 0 = some (0, 3) := by kernel_rfl
theorem tf41_1 : tfield Try.prog 41 1 = some (1, 3) := by kernel_rfl
theorem tf41_2 : tfield Try.prog 41 2 = some (2, 3) := by kernel_rfl
theorem ti42 : tinfo Try.prog 42 = some ⟨1, 8, false, [.nilFunc]⟩ := by kernel_rfl
theorem ti43 : tinfo Try.prog 43 = some ⟨1, 8, false, [.nilFunc]⟩ := by kernel_rfl
theorem ti44 : tinfo Try.prog 44 = some ⟨1, 8, false, [.pointer none]⟩ := by kernel_rfl
theorem ti45 : tinfo Try.prog 45 = some ⟨1, 8, false, [.nilFunc]⟩ := by kernel_rfl
theorem ti47 : tinfo Try.prog 47 = some ⟨1, 8, false, [.nilFunc]⟩ := by kernel_rfl
theorem ti48 : tinfo Try.prog 48 = some ⟨1, 8, false, [.nilFunc]⟩ := by kernel_rfl
theorem ti49 : tinfo Try.prog 49 = some ⟨1, 8, false, [.nilFunc]⟩ := by kernel_rfl
theorem ti50 : tinfo Try.prog 50 = some ⟨1, 8, false, [.nilFunc]⟩ := by kernel_rfl
theorem ti51 : tinfo Try.prog 51 = some ⟨1, 8, false, [.nilFunc]⟩ := by kernel_rfl
theorem ti52 : tinfo Try.prog 52 = some ⟨1, 8, false, [.nilFunc]⟩ := by kernel_rfl
theorem ti53 : tinfo Try.prog 53 = some ⟨1, 8, false, [.nilFunc]⟩ := by kernel_rfl
theorem ti54 : tinfo Try.prog 54 = some ⟨1, 8, false, [.nilFunc]⟩ := by kernel_rfl
theorem ti55 : tinfo Try.prog 55 = some ⟨2, 32, true, [(.slice none 0 0), .int .i64 0]⟩ := by kernel_rfl
theorem tp55 : tplaces Try.prog 55 = some [(0, 1), (1, 1)] := by kernel_rfl
theorem tf55_0 : tfield Try.prog 55 0 = some (0, 22) := by kernel_rfl
theorem tf55_1 : tfield Try.prog 55 1 = some (1, 3) := by kernel_rfl
theorem ti56 : tinfo Try.prog 56 = some ⟨2, 32, true, [(.slice none 0 0), .int .i64 0]⟩ := by kernel_rfl
theorem tp56 : tplaces Try.prog 56 = some [(0, 1), (1, 1)] := by kernel_rfl
theorem tf56_0 : tfield Try.prog 56 0 = some (0, 22) := by kernel_rfl
theorem tf56_1 : tfield Try.prog 56 1 = some (1, 3) := by kernel_rfl
theorem ti57 : tinfo Try.prog 57 = some ⟨1, 8, false, [.nilFunc]⟩ := by kernel_rfl
theorem ti58 : tinfo Try.prog 58 = some ⟨1, 8, false, [.nilFunc]⟩ := by kernel_rfl
theorem ti59 : tinfo Try.prog 59 = some ⟨1, 8, false, [.nilFunc]⟩ := by kernel_rfl
theorem ti60 : tinfo Try.prog 60 = some ⟨1, 8, false, [.nilFunc]⟩ := by kernel_rfl
theorem ti61 : tinfo Try.prog 61 = some ⟨1, 8, false, [.nilFunc]⟩ := by kernel_rfl
theorem ti62 : tinfo Try.prog 62 = some ⟨1, 8, false, [.nilFunc]⟩ := by kernel_rfl
theorem ti63 : tinfo Try.prog 63 = some ⟨1, 8, false, [.pointer none]⟩ := by kernel_rfl
theorem ti64 : tinfo Try.prog 64 = some ⟨1, 8, false, [.nilFunc]⟩ := by kernel_rfl
theorem ti65 : tinfo Try.prog 65 = some ⟨1, 8, false, [.nilFunc]⟩ := by kernel_rfl
theorem ti66 : tinfo Try.prog 66 = some ⟨1, 8, false, [.nilFunc]⟩ := by kernel_rfl
theorem ti67 : tinfo Try.prog 67 = some ⟨2, 16, true, [.int .i64 0, .int .i64 0]⟩ := by kernel_rfl
theorem tq67 : teq Try.prog 67 = some [.i, .i] := by kernel_rfl
theorem tp67 : tplaces Try.prog 67 = some [(0, 1), (1, 1)] := by kernel_rfl
theorem tf67_0 : tfield Try.prog 67 0 = some (0, 3) := by kernel_rfl
theorem tf67_1 : tfield Try.prog 67 1 = some (1, 3) := by kernel_rfl
theorem ti68 : tinfo Try.prog 68 = some ⟨2, 16, true, [.int .i64 0, .int .i64 0]⟩ := by kernel_rfl
theorem tq68 : teq Try.prog 68 = some [.i, .i] := by kernel_rfl
theorem tp68 : tplaces Try.prog 68 = some [(0, 1), (1, 1)] := by kernel_rfl
theorem tf68_0 : tfield Try.prog 68 0 = some (0, 3) := by kernel_rfl
theorem tf68_1 : tfield Try.prog 68 1 = some (1, 3) := by kernel_rfl
theorem ti69 : tinfo Try.prog 69 = some ⟨5, 40, true, [.int .i64 0, .int .i64 0, .int .i64 0, .int .i64 0, .bool false]⟩ := by kernel_rfl
theorem tq69 : teq Try.prog 69 = some [.i, .i, .i, .i, .b] := by kernel_rfl
theorem tp69 : tplaces Try.prog 69 = some [(0, 1), (1, 1), (2, 1), (3, 1), (4, 1)] := by kernel_rfl
theorem tf69_0 : tfield Try.prog 69 0 = some (0, 3) := by kernel_rfl
theorem tf69_1 : tfield Try.prog 69 1 = some (1, 3) := by kernel_rfl
theorem tf69_2 : tfield Try.prog 69 2 = some (2, 3) := by kernel_rfl
theorem tf69_3 : tfield Try.prog 69 3 = some (3, 3) := by kernel_rfl
theorem tf69_4 : tfield Try.prog 69 4 = some (4, 4) := by kernel_rfl
theorem ti70 : tinfo Try.prog 70 = some ⟨5, 40, true, [.int .i64 0, .int .i64 0, .int .i64 0, .int .i64 0, .bool false]⟩ := by kernel_rfl
theorem tq70 : teq Try.prog 70 = some [.i, .i, .i, .i, .b] := by kernel_rfl
theorem tp70 : tplaces Try.prog 70 = some [(0, 1), (1, 1), (2, 1), (3, 1), (4, 1)] := by kernel_rfl
theorem tf70_0 : tfield Try.prog 70 0 = some (0, 3) := by kernel_rfl
theorem tf70_1 : tfield Try.prog 70 1 = some (1, 3) := by kernel_rfl
theorem tf70_2 : tfield Try.prog 70 2 = some (2, 3) := by kernel_rfl
theorem tf70_3 : tfield Try.prog 70 3 = some (3, 3) := by kernel_rfl
theorem tf70_4 : tfield Try.prog 70 4 = some (4, 4) := by kernel_rfl
theorem ti71 : tinfo Try.prog 71 = some ⟨1, 8, false, [.nilFunc]⟩ := by kernel_rfl
theorem ti72 : tinfo Try.prog 72 = some ⟨3, 56, true, [(.slice none 0 0), (.slice none 0 0), .int .i64 0]⟩ := by kernel_rfl
theorem tp72 : tplaces Try.prog 72 = some [(0, 1), (1, 1), (2, 1)] := by kernel_rfl
theorem tf72_0 : tfield Try.prog 72 0 = some (0, 31) := by kernel_rfl
theorem tf72_1 : tfield Try.prog 72 1 = some (1, 34) := by kernel_rfl
theorem tf72_2 : tfield Try.prog 72 2 = some (2, 3) := by kernel_rfl
theorem ti73 : tinfo Try.prog 73 = some ⟨3, 56, true, [(.slice none 0 0), (.slice none 0 0), .int .i64 0]⟩ := by kernel_rfl
theorem tp73 : tplaces Try.prog 73 = some [(0, 1), (1, 1), (2, 1)] := by kernel_rfl
theorem tf73_0 : tfield Try.prog 73 0 = some (0, 31) := by kernel_rfl
theorem tf73_1 : tfield Try.prog 73 1 = some (1, 34) := by kernel_rfl
theorem tf73_2 : tfield Try.prog 73 2 = some (2, 3) := by kernel_rfl
theorem ti74 : tinfo Try.prog 74 = some ⟨1, 8, false, [.nilFunc]⟩ := by kernel_rfl
theorem ti75 : tinfo Try.prog 75 = some ⟨1, 8, false, [.nilFunc]⟩ := by kernel_rfl
theorem ti77 : tinfo Try.prog 77 = some ⟨1, 8, false, [.nilFunc]⟩ := by kernel_rfl
theorem ti78 : tinfo Try.prog 78 = some ⟨2, 24, true, [(.string ⟨[].toArray⟩), .int .i64 0]⟩ := by kernel_rfl
theorem tq78 : teq Try.prog 78 = some [.s, .i] := by kernel_rfl
theorem tp78 : tplaces Try.prog 78 = some [(0, 1), (1, 1)] := by kernel_rfl
theorem tf78_0 : tfield Try.prog 78 0 = some (0, 9) := by kernel_rfl
theorem tf78_1 : tfield Try.prog 78 1 = some (1, 3) := by kernel_rfl
theorem ti79 : tinfo Try.prog 79 = some ⟨2, 24, true, [(.string ⟨[].toArray⟩), .int .i64 0]⟩ := by kernel_rfl
theorem tq79 : teq Try.prog 79 = some [.s, .i] := by kernel_rfl
theorem tp79 : tplaces Try.prog 79 = some [(0, 1), (1, 1)] := by kernel_rfl
theorem tf79_0 : tfield Try.prog 79 0 = some (0, 9) := by kernel_rfl
theorem tf79_1 : tfield Try.prog 79 1 = some (1, 3) := by kernel_rfl
theorem ti80 : tinfo Try.prog 80 = some ⟨1, 8, false, [.nilFunc]⟩ := by kernel_rfl
theorem ti81 : tinfo Try.prog 81 = some ⟨1, 8, false, [.nilFunc]⟩ := by kernel_rfl
theorem ti82 : tinfo Try.prog 82 = some ⟨1, 8, false, [.nilFunc]⟩ := by kernel_rfl
theorem ti83 : tinfo Try.prog 83 = some ⟨1, 8, false, [.nilFunc]⟩ := by kernel_rfl
theorem ti84 : tinfo Try.prog 84 = some ⟨1, 8, false, [.nilFunc]⟩ := by kernel_rfl
theorem ti85 : tinfo Try.prog 85 = some ⟨1, 24, false, [(.slice none 0 0)]⟩ := by kernel_rfl
theorem te85 : telem Try.prog 85 = some 9 := by kernel_rfl
theorem ti86 : tinfo Try.prog 86 = some ⟨1, 8, false, [.nilFunc]⟩ := by kernel_rfl
theorem ti87 : tinfo Try.prog 87 = some ⟨1, 24, false, [(.slice none 0 0)]⟩ := by kernel_rfl
theorem te87 : telem Try.prog 87 = some 155 := by kernel_rfl
theorem ti88 : tinfo Try.prog 88 = some ⟨5, 104, true, [(.slice none 0 0), (.slice none 0 0), (.slice none 0 0), (.slice none 0 0), .int .i64 0]⟩ := by kernel_rfl
theorem tp88 : tplaces Try.prog 88 = some [(0, 1), (1, 1), (2, 1), (3, 1), (4, 1)] := by kernel_rfl
theorem tf88_0 : tfield Try.prog 88 0 = some (0, 25) := by kernel_rfl
theorem tf88_1 : tfield Try.prog 88 1 = some (1, 87) := by kernel_rfl
theorem tf88_2 : tfield Try.prog 88 2 = some (2, 31) := by kernel_rfl
theorem tf88_3 : tfield Try.prog 88 3 = some (3, 34) := by kernel_rfl
theorem tf88_4 : tfield Try.prog 88 4 = some (4, 3) := by kernel_rfl
theorem ti89 : tinfo Try.prog 89 = some ⟨5, 104, true, [(.slice none 0 0), (.slice none 0 0), (.slice none 0 0), (.slice none 0 0), .int .i64 0]⟩ := by kernel_rfl
theorem tp89 : tplaces Try.prog 89 = some [(0, 1), (1, 1), (2, 1), (3, 1), (4, 1)] := by kernel_rfl
theorem tf89_0 : tfield Try.prog 89 0 = some (0, 25) := by kernel_rfl
theorem tf89_1 : tfield Try.prog 89 1 = some (1, 87) := by kernel_rfl
theorem tf89_2 : tfield Try.prog 89 2 = some (2, 31) := by kernel_rfl
theorem tf89_3 : tfield Try.prog 89 3 = some (3, 34) := by kernel_rfl
theorem tf89_4 : tfield Try.prog 89 4 = some (4, 3) := by kernel_rfl
theorem ti90 : tinfo Try.prog 90 = some ⟨1, 8, false, [.nilFunc]⟩ := by kernel_rfl
theorem ti91 : tinfo Try.prog 91 = some ⟨1, 8, false, [.nilFunc]⟩ := by kernel_rfl
theorem ti92 : tinfo Try.prog 92 = some ⟨1, 8, false, [.nilFunc]⟩ := by kernel_rfl
theorem ti93 : tinfo Try.prog 93 = some ⟨1, 8, false, [.nilFunc]⟩ := by kernel_rfl
theorem ti94 : tinfo Try.prog 94 = some ⟨1, 8, false, [.nilFunc]⟩ := by kernel_rfl
theorem ti95 : tinfo Try.prog 95 = some ⟨1, 8, false, [.nilFunc]⟩ := by kernel_rfl
theorem ti96 : tinfo Try.prog 96 = some ⟨1, 8, false, [.nilFunc]⟩ := by kernel_rfl
theorem ti97 : tinfo Try.prog 97 = some ⟨1, 8, false, [.nilFunc]⟩ := by kernel_rfl
theorem ti98 : tinfo Try.prog 98 = some ⟨1, 8, false, [.nilFunc]⟩ := by kernel_rfl
theorem ti99 : tinfo Try.prog 99 = some ⟨1, 8, false, [.nilFunc]⟩ := by kernel_rfl
theorem ti100 : tinfo Try.prog 100 = some ⟨1, 8, false, [.nilFunc]⟩ := by kernel_rfl
theorem ti101 : tinfo Try.prog 101 = some ⟨1, 8, false, [.nilFunc]⟩ := by kernel_rfl
theorem ti102 : tinfo Try.prog 102 = some ⟨1, 8, false, [.nilFunc]⟩ := by kernel_rfl
theorem ti103 : tinfo Try.prog 103 = some ⟨1, 8, false, [.nilFunc]⟩ := by kernel_rfl
theorem ti104 : tinfo Try.prog 104 = some ⟨1, 8, false, [.nilFunc]⟩ := by kernel_rfl
theorem ti105 : tinfo Try.prog 105 = some ⟨1, 8, false, [.nilFunc]⟩ := by kernel_rfl
theorem ti106 : tinfo Try.prog 106 = some ⟨1, 8, false, [.nilFunc]⟩ := by kernel_rfl
theorem ti107 : tinfo Try.prog 107 = some ⟨1, 8, false, [.nilFunc]⟩ := by kernel_rfl
theorem ti108 : tinfo Try.prog 108 = some ⟨1, 8, false, [.nilFunc]⟩ := by kernel_rfl
theorem ti109 : tinfo Try.prog 109 = some ⟨1, 8, false, [.nilFunc]⟩ := by kernel_rfl
theorem ti110 : tinfo Try.prog 110 = some ⟨1, 8, false, [.nilFunc]⟩ := by kernel_rfl
theorem ti111 : tinfo Try.prog 111 = some ⟨1, 8, false, [.pointer none]⟩ := by kernel_rfl
theorem ti112 : tinfo Try.prog 112 = some ⟨1, 8, false, [.nilFunc]⟩ := by kernel_rfl
theorem ti113 : tinfo Try.prog 113 = some ⟨1, 8, false, [.nilFunc]⟩ := by kernel_rfl
theorem ti114 : tinfo Try.prog 114 = some ⟨1, 8, false, [.nilFunc]⟩ := by kernel_rfl
theorem ti115 : tinfo Try.prog 115 = some ⟨1, 8, false, [.nilFunc]⟩ := by kernel_rfl
theorem ti116 : tinfo Try.prog 116 = some ⟨1, 8, false, [.int .u64 0]⟩ := by kernel_rfl
theorem tk116 : tint Try.prog 116 = some .u64 := by kernel_rfl
theorem tz116 : tsome Try.prog 116 = true := by kernel_rfl
theorem ti117 : tinfo Try.prog 117 = some ⟨1, 8, false, [.nilFunc]⟩ := by kernel_rfl
theorem ti118 : tinfo Try.prog 118 = some ⟨1, 8, false, [.int .i64 0]⟩ := by kernel_rfl
theorem tk118 : tint Try.prog 118 = some .i64 := by kernel_rfl
theorem ti120 : tinfo Try.prog 120 = some ⟨1, 8, false, [.nilFunc]⟩ := by kernel_rfl
theorem ti121 : tinfo Try.prog 121 = some ⟨1, 8, false, [.nilFunc]⟩ := by kernel_rfl
theorem ti122 : tinfo Try.prog 122 = some ⟨1, 8, false, [.nilFunc]⟩ := by kernel_rfl
theorem ti124 : tinfo Try.prog 124 = some ⟨1, 8, false, [.nilFunc]⟩ := by kernel_rfl
theorem ti125 : tinfo Try.prog 125 = some ⟨1, 8, false, [.nilFunc]⟩ := by kernel_rfl
theorem ti126 : tinfo Try.prog 126 = some ⟨1, 4, false, [.int .u32 0]⟩ := by kernel_rfl
theorem tk126 : tint Try.prog 126 = some .u32 := by kernel_rfl
theorem tz126 : tsome Try.prog 126 = true := by kernel_rfl
theorem ti127 : tinfo Try.prog 127 = some ⟨1, 8, false, [.nilFunc]⟩ := by kernel_rfl
theorem ti128 : tinfo Try.prog 128 = some ⟨1, 8, false, [.int .u64 0]⟩ := by kernel_rfl
theorem tk128 : tint Try.prog 128 = some .u64 := by kernel_rfl
theorem tz128 : tsome Try.prog 128 = true := by kernel_rfl
theorem ti129 : tinfo Try.prog 129 = some ⟨1, 8, false, [.int .u64 0]⟩ := by kernel_rfl
theorem tk129 : tint Try.prog 129 = some .u64 := by kernel_rfl
theorem ti130 : tinfo Try.prog 130 = some ⟨1, 8, false, [.nilFunc]⟩ := by kernel_rfl
theorem ti131 : tinfo Try.prog 131 = some ⟨1, 8, false, [.nilFunc]⟩ := by kernel_rfl
theorem ti132 : tinfo Try.prog 132 = some ⟨1, 8, false, [.nilFunc]⟩ := by kernel_rfl
theorem ti133 : tinfo Try.prog 133 = some ⟨1, 8, false, [.pointer none]⟩ := by kernel_rfl
theorem ti134 : tinfo Try.prog 134 = some ⟨1, 8, false, [.nilFunc]⟩ := by kernel_rfl
theorem ti135 : tinfo Try.prog 135 = some ⟨1, 8, false, [.pointer none]⟩ := by kernel_rfl
theorem ti137 : tinfo Try.prog 137 = some ⟨1, 8, false, [.nilFunc]⟩ := by kernel_rfl
theorem ti138 : tinfo Try.prog 138 = some ⟨1, 8, false, [.nilFunc]⟩ := by kernel_rfl
theorem ti144 : tinfo Try.prog 144 = some ⟨1, 8, false, [.nilFunc]⟩ := by kernel_rfl
theorem ti148 : tinfo Try.prog 148 = some ⟨1, 8, false, [.pointer none]⟩ := by kernel_rfl
theorem ti153 : tinfo Try.prog 153 = some ⟨1, 8, false, [.nilFunc]⟩ := by kernel_rfl
theorem ti154 : tinfo Try.prog 154 = some ⟨4, 32, true, [.int .i64 0, .int .i64 0, .int .i64 0, .int .i64 0]⟩ := by kernel_rfl
theorem tq154 : teq Try.prog 154 = some [.i, .i, .i, .i] := by kernel_rfl
theorem tp154 : tplaces Try.prog 154 = some [(0, 1), (1, 1), (2, 1), (3, 1)] := by kernel_rfl
theorem tf154_0 : tfield Try.prog 154 0 = some (0, 3) := by kernel_rfl
theorem tf154_1 : tfield Try.prog 154 1 = some (1, 3) := by kernel_rfl
theorem tf154_2 : tfield Try.prog 154 2 = some (2, 3) := by kernel_rfl
theorem tf154_3 : tfield Try.prog 154 3 = some (3, 3) := by kernel_rfl
theorem ti155 : tinfo Try.prog 155 = some ⟨4, 32, true, [.int .i64 0, .int .i64 0, .int .i64 0, .int .i64 0]⟩ := by kernel_rfl
theorem tq155 : teq Try.prog 155 = some [.i, .i, .i, .i] := by kernel_rfl
theorem tp155 : tplaces Try.prog 155 = some [(0, 1), (1, 1), (2, 1), (3, 1)] := by kernel_rfl
theorem tf155_0 : tfield Try.prog 155 0 = some (0, 3) := by kernel_rfl
theorem tf155_1 : tfield Try.prog 155 1 = some (1, 3) := by kernel_rfl
theorem tf155_2 : tfield Try.prog 155 2 = some (2, 3) := by kernel_rfl
theorem tf155_3 : tfield Try.prog 155 3 = some (3, 3) := by kernel_rfl
theorem ti157 : tinfo Try.prog 157 = some ⟨1, 8, false, [.nilFunc]⟩ := by kernel_rfl
theorem fp13_0 {b sz i j : Nat} : fieldAddrA Try.prog 13 (.ptr b sz i j) 0 = some (.ptr b sz i (j + 0)) := fa_p tf13_0 ti9 (by decide)
theorem fv13_0 {es : List (List AV)} {i j : Nat} : fieldAddrA Try.prog 13 (.vptr es i j) 0 = some (.vptr es i (j + 0)) := fa_v tf13_0 ti9 (by decide)
theorem fp13_1 {b sz i j : Nat} : fieldAddrA Try.prog 13 (.ptr b sz i j) 1 = some (.ptr b sz i (j + 1)) := fa_p tf13_1 ti12 (by decide)
theorem fv13_1 {es : List (List AV)} {i j : Nat} : fieldAddrA Try.prog 13 (.vptr es i j) 1 = some (.vptr es i (j + 1)) := fa_v tf13_1 ti12 (by decide)
theorem fp24_0 {b sz i j : Nat} : fieldAddrA Try.prog 24 (.ptr b sz i j) 0 = some (.ptr b sz i (j + 0)) := fa_p tf24_0 ti23 (by decide)
theorem fv24_0 {es : List (List AV)} {i j : Nat} : fieldAddrA Try.prog 24 (.vptr es i j) 0 = some (.vptr es i (j + 0)) := fa_v tf24_0 ti23 (by decide)
theorem fp25_0 {b sz i j : Nat} : fieldAddrA Try.prog 25 (.ptr b sz i j) 0 = some (.ptr b sz i (j + 0)) := fa_p tf25_0 ti23 (by decide)
theorem fv25_0 {es : List (List AV)} {i j : Nat} : fieldAddrA Try.prog 25 (.vptr es i j) 0 = some (.vptr es i (j + 0)) := fa_v tf25_0 ti23 (by decide)
theorem fp27_0 {b sz i j : Nat} : fieldAddrA Try.prog 27 (.ptr b sz i j) 0 = some (.ptr b sz i (j + 0)) := fa_p tf27_0 ti4 (by decide)
theorem fv27_0 {es : List (List AV)} {i j : Nat} : fieldAddrA Try.prog 27 (.vptr es i j) 0 = some (.vptr es i (j + 0)) := fa_v tf27_0 ti4 (by decide)
theorem fp27_1 {b sz i j : Nat} : fieldAddrA Try.prog 27 (.ptr b sz i j) 1 = some (.ptr b sz i (j + 1)) := fa_p tf27_1 ti3 (by decide)
theorem fv27_1 {es : List (List AV)} {i j : Nat} : fieldAddrA Try.prog 27 (.vptr es i j) 1 = some (.vptr es i (j + 1)) := fa_v tf27_1 ti3 (by decide)
theorem fp27_2 {b sz i j : Nat} : fieldAddrA Try.prog 27 (.ptr b sz i j) 2 = some (.ptr b sz i (j + 2)) := fa_p tf27_2 ti3 (by decide)
theorem fv27_2 {es : List (List AV)} {i j : Nat} : fieldAddrA Try.prog 27 (.vptr es i j) 2 = some (.vptr es i (j + 2)) := fa_v tf27_2 ti3 (by decide)
theorem fp28_0 {b sz i j : Nat} : fieldAddrA Try.prog 28 (.ptr b sz i j) 0 = some (.ptr b sz i (j + 0)) := fa_p tf28_0 ti4 (by decide)
theorem fv28_0 {es : List (List AV)} {i j : Nat} : fieldAddrA Try.prog 28 (.vptr es i j) 0 = some (.vptr es i (j + 0)) := fa_v tf28_0 ti4 (by decide)
theorem fp28_1 {b sz i j : Nat} : fieldAddrA Try.prog 28 (.ptr b sz i j) 1 = some (.ptr b sz i (j + 1)) := fa_p tf28_1 ti3 (by decide)
theorem fv28_1 {es : List (List AV)} {i j : Nat} : fieldAddrA Try.prog 28 (.vptr es i j) 1 = some (.vptr es i (j + 1)) := fa_v tf28_1 ti3 (by decide)
theorem fp28_2 {b sz i j : Nat} : fieldAddrA Try.prog 28 (.ptr b sz i j) 2 = some (.ptr b sz i (j + 2)) := fa_p tf28_2 ti3 (by decide)
theorem fv28_2 {es : List (List AV)} {i j : Nat} : fieldAddrA Try.prog 28 (.vptr es i j) 2 = some (.vptr es i (j + 2)) := fa_v tf28_2 ti3 (by decide)
theorem fp33_0 {b sz i j : Nat} : fieldAddrA Try.prog 33 (.ptr b sz i j) 0 = some (.ptr b sz i (j + 0)) := fa_p tf33_0 ti32 (by decide)
theorem fv33_0 {es : List (List AV)} {i j : Nat} : fieldAddrA Try.prog 33 (.vptr es i j) 0 = some (.vptr es i (j + 0)) := fa_v tf33_0 ti32 (by decide)
theorem fp34_0 {b sz i j : Nat} : fieldAddrA Try.prog 34 (.ptr b sz i j) 0 = some (.ptr b sz i (j + 0)) := fa_p tf34_0 ti32 (by decide)
theorem fv34_0 {es : List (List AV)} {i j : Nat} : fieldAddrA Try.prog 34 (.vptr es i j) 0 = some (.vptr es i (j + 0)) := fa_v tf34_0 ti32 (by decide)
theorem fp35_0 {b sz i j : Nat} : fieldAddrA Try.prog 35 (.ptr b sz i j) 0 = some (.ptr b sz i (j + 0)) := fa_p tf35_0 ti31 (by decide)
theorem fv35_0 {es : List (List AV)} {i j : Nat} : fieldAddrA Try.prog 35 (.vptr es i j) 0 = some (.vptr es i (j + 0)) := fa_v tf35_0 ti31 (by decide)
theorem fp35_1 {b sz i j : Nat} : fieldAddrA Try.prog 35 (.ptr b sz i j) 1 = some (.ptr b sz i (j + 1)) := fa_p tf35_1 ti3 (by decide)
theorem fv35_1 {es : List (List AV)} {i j : Nat} : fieldAddrA Try.prog 35 (.vptr es i j) 1 = some (.vptr es i (j + 1)) := fa_v tf35_1 ti3 (by decide)
theorem fp35_2 {b sz i j : Nat} : fieldAddrA Try.prog 35 (.ptr b sz i j) 2 = some (.ptr b sz i (j + 2)) := fa_p tf35_2 ti3 (by decide)
theorem fv35_2 {es : List (List AV)} {i j : Nat} : fieldAddrA Try.prog 35 (.vptr es i j) 2 = some (.vptr es i (j + 2)) := fa_v tf35_2 ti3 (by decide)
theorem fp35_3 {b sz i j : Nat} : fieldAddrA Try.prog 35 (.ptr b sz i j) 3 = some (.ptr b sz i (j + 3)) := fa_p tf35_3 ti34 (by decide)
theorem fv35_3 {es : List (List AV)} {i j : Nat} : fieldAddrA Try.prog 35 (.vptr es i j) 3 = some (.vptr es i (j + 3)) := fa_v tf35_3 ti34 (by decide)
theorem fp36_0 {b sz i j : Nat} : fieldAddrA Try.prog 36 (.ptr b sz i j) 0 = some (.ptr b sz i (j + 0)) := fa_p tf36_0 ti31 (by decide)
theorem fv36_0 {es : List (List AV)} {i j : Nat} : fieldAddrA Try.prog 36 (.vptr es i j) 0 = some (.vptr es i (j + 0)) := fa_v tf36_0 ti31 (by decide)
theorem fp36_1 {b sz i j : Nat} : fieldAddrA Try.prog 36 (.ptr b sz i j) 1 = some (.ptr b sz i (j + 1)) := fa_p tf36_1 ti3 (by decide)
theorem fv36_1 {es : List (List AV)} {i j : Nat} : fieldAddrA Try.prog 36 (.vptr es i j) 1 = some (.vptr es i (j + 1)) := fa_v tf36_1 ti3 (by decide)
theorem fp36_2 {b sz i j : Nat} : fieldAddrA Try.prog 36 (.ptr b sz i j) 2 = some (.ptr b sz i (j + 2)) := fa_p tf36_2 ti3 (by decide)
theorem fv36_2 {es : List (List AV)} {i j : Nat} : fieldAddrA Try.prog 36 (.vptr es i j) 2 = some (.vptr es i (j + 2)) := fa_v tf36_2 ti3 (by decide)
theorem fp36_3 {b sz i j : Nat} : fieldAddrA Try.prog 36 (.ptr b sz i j) 3 = some (.ptr b sz i (j + 3)) := fa_p tf36_3 ti34 (by decide)
theorem fv36_3 {es : List (List AV)} {i j : Nat} : fieldAddrA Try.prog 36 (.vptr es i j) 3 = some (.vptr es i (j + 3)) := fa_v tf36_3 ti34 (by decide)
theorem fp40_0 {b sz i j : Nat} : fieldAddrA Try.prog 40 (.ptr b sz i j) 0 = some (.ptr b sz i (j + 0)) := fa_p tf40_0 ti3 (by decide)
theorem fv40_0 {es : List (List AV)} {i j : Nat} : fieldAddrA Try.prog 40 (.vptr es i j) 0 = some (.vptr es i (j + 0)) := fa_v tf40_0 ti3 (by decide)
theorem fp40_1 {b sz i j : Nat} : fieldAddrA Try.prog 40 (.ptr b sz i j) 1 = some (.ptr b sz i (j + 1)) := fa_p tf40_1 ti3 (by decide)
theorem fv40_1 {es : List (List AV)} {i j : Nat} : fieldAddrA Try.prog 40 (.vptr es i j) 1 = some (.vptr es i (j + 1)) := fa_v tf40_1 ti3 (by decide)
theorem fp40_2 {b sz i j : Nat} : fieldAddrA Try.prog 40 (.ptr b sz i j) 2 = some (.ptr b sz i (j + 2)) := fa_p tf40_2 ti3 (by decide)
theorem fv40_2 {es : List (List AV)} {i j : Nat} : fieldAddrA Try.prog 40 (.vptr es i j) 2 = some (.vptr es i (j + 2)) := fa_v tf40_2 ti3 (by decide)
theorem fp41_0 {b sz i j : Nat} : fieldAddrA Try.prog 41 (.ptr b sz i j) 0 = some (.ptr b sz i (j + 0)) := fa_p tf41_0 ti3 (by decide)
theorem fv41_0 {es : List (List AV)} {i j : Nat} : fieldAddrA Try.prog 41 (.vptr es i j) 0 = some (.vptr es i (j + 0)) := fa_v tf41_0 ti3 (by decide)
theorem fp41_1 {b sz i j : Nat} : fieldAddrA Try.prog 41 (.ptr b sz i j) 1 = some (.ptr b sz i (j + 1)) := fa_p tf41_1 ti3 (by decide)
theorem fv41_1 {es : List (List AV)} {i j : Nat} : fieldAddrA Try.prog 41 (.vptr es i j) 1 = some (.vptr es i (j + 1)) := fa_v tf41_1 ti3 (by decide)
theorem fp41_2 {b sz i j : Nat} : fieldAddrA Try.prog 41 (.ptr b sz i j) 2 = some (.ptr b sz i (j + 2)) := fa_p tf41_2 ti3 (by decide)
theorem fv41_2 {es : List (List AV)} {i j : Nat} : fieldAddrA Try.prog 41 (.vptr es i j) 2 = some (.vptr es i (j + 2)) := fa_v tf41_2 ti3 (by decide)
theorem fp55_0 {b sz i j : Nat} : fieldAddrA Try.prog 55 (.ptr b sz i j) 0 = some (.ptr b sz i (j + 0)) := fa_p tf55_0 ti22 (by decide)
theorem fv55_0 {es : List (List AV)} {i j : Nat} : fieldAddrA Try.prog 55 (.vptr es i j) 0 = some (.vptr es i (j + 0)) := fa_v tf55_0 ti22 (by decide)
theorem fp55_1 {b sz i j : Nat} : fieldAddrA Try.prog 55 (.ptr b sz i j) 1 = some (.ptr b sz i (j + 1)) := fa_p tf55_1 ti3 (by decide)
theorem fv55_1 {es : List (List AV)} {i j : Nat} : fieldAddrA Try.prog 55 (.vptr es i j) 1 = some (.vptr es i (j + 1)) := fa_v tf55_1 ti3 (by decide)
theorem fp56_0 {b sz i j : Nat} : fieldAddrA Try.prog 56 (.ptr b sz i j) 0 = some (.ptr b sz i (j + 0)) := fa_p tf56_0 ti22 (by decide)
theorem fv56_0 {es : List (List AV)} {i j : Nat} : fieldAddrA Try.prog 56 (.vptr es i j) 0 = some (.vptr es i (j + 0)) := fa_v tf56_0 ti22 (by decide)
theorem fp56_1 {b sz i j : Nat} : fieldAddrA Try.prog 56 (.ptr b sz i j) 1 = some (.ptr b sz i (j + 1)) := fa_p tf56_1 ti3 (by decide)
theorem fv56_1 {es : List (List AV)} {i j : Nat} : fieldAddrA Try.prog 56 (.vptr es i j) 1 = some (.vptr es i (j + 1)) := fa_v tf56_1 ti3 (by decide)
theorem fp67_0 {b sz i j : Nat} : fieldAddrA Try.prog 67 (.ptr b sz i j) 0 = some (.ptr b sz i (j + 0)) := fa_p tf67_0 ti3 (by decide)
theorem fv67_0 {es : List (List AV)} {i j : Nat} : fieldAddrA Try.prog 67 (.vptr es i j) 0 = some (.vptr es i (j + 0)) := fa_v tf67_0 ti3 (by decide)
theorem fp67_1 {b sz i j : Nat} : fieldAddrA Try.prog 67 (.ptr b sz i j) 1 = some (.ptr b sz i (j + 1)) := fa_p tf67_1 ti3 (by decide)
theorem fv67_1 {es : List (List AV)} {i j : Nat} : fieldAddrA Try.prog 67 (.vptr es i j) 1 = some (.vptr es i (j + 1)) := fa_v tf67_1 ti3 (by decide)
theorem fp68_0 {b sz i j : Nat} : fieldAddrA Try.prog 68 (.ptr b sz i j) 0 = some (.ptr b sz i (j + 0)) := fa_p tf68_0 ti3 (by decide)
theorem fv68_0 {es : List (List AV)} {i j : Nat} : fieldAddrA Try.prog 68 (.vptr es i j) 0 = some (.vptr es i (j + 0)) := fa_v tf68_0 ti3 (by decide)
theorem fp68_1 {b sz i j : Nat} : fieldAddrA Try.prog 68 (.ptr b sz i j) 1 = some (.ptr b sz i (j + 1)) := fa_p tf68_1 ti3 (by decide)
theorem fv68_1 {es : List (List AV)} {i j : Nat} : fieldAddrA Try.prog 68 (.vptr es i j) 1 = some (.vptr es i (j + 1)) := fa_v tf68_1 ti3 (by decide)
theorem fp69_0 {b sz i j : Nat} : fieldAddrA Try.prog 69 (.ptr b sz i j) 0 = some (.ptr b sz i (j + 0)) := fa_p tf69_0 ti3 (by decide)
theorem fv69_0 {es : List (List AV)} {i j : Nat} : fieldAddrA Try.prog 69 (.vptr es i j) 0 = some (.vptr es i (j + 0)) := fa_v tf69_0 ti3 (by decide)
theorem fp69_1 {b sz i j : Nat} : fieldAddrA Try.prog 69 (.ptr b sz i j) 1 = some (.ptr b sz i (j + 1)) := fa_p tf69_1 ti3 (by decide)
theorem fv69_1 {es : List (List AV)} {i j : Nat} : fieldAddrA Try.prog 69 (.vptr es i j) 1 = some (.vptr es i (j + 1)) := fa_v tf69_1 ti3 (by decide)
theorem fp69_2 {b sz i j : Nat} : fieldAddrA Try.prog 69 (.ptr b sz i j) 2 = some (.ptr b sz i (j + 2)) := fa_p tf69_2 ti3 (by decide)
theorem fv69_2 {es : List (List AV)} {i j : Nat} : fieldAddrA Try.prog 69 (.vptr es i j) 2 = some (.vptr es i (j + 2)) := fa_v tf69_2 ti3 (by decide)
theorem fp69_3 {b sz i j : Nat} : fieldAddrA Try.prog 69 (.ptr b sz i j) 3 = some (.ptr b sz i (j + 3)) := fa_p tf69_3 ti3 (by decide)
theorem fv69_3 {es : List (List AV)} {i j : Nat} : fieldAddrA Try.prog 69 (.vptr es i j) 3 = some (.vptr es i (j + 3)) := fa_v tf69_3 ti3 (by decide)
theorem fp69_4 {b sz i j : Nat} : fieldAddrA Try.prog 69 (.ptr b sz i j) 4 = some (.ptr b sz i (j + 4)) := fa_p tf69_4 ti4 (by decide)
theorem fv69_4 {es : List (List AV)} {i j : Nat} : fieldAddrA Try.prog 69 (.vptr es i j) 4 = some (.vptr es i (j + 4)) := fa_v tf69_4 ti4 (by decide)
theorem fp70_0 {b sz i j : Nat} : fieldAddrA Try.prog 70 (.ptr b sz i j) 0 = some (.ptr b sz i (j + 0)) := fa_p tf70_0 ti3 (by decide)
theorem fv70_0 {es : List (List AV)} {i j : Nat} : fieldAddrA Try.prog 70 (.vptr es i j) 0 = some (.vptr es i (j + 0)) := fa_v tf70_0 ti3 (by decide)
theorem fp70_1 {b sz i j : Nat} : fieldAddrA Try.prog 70 (.ptr b sz i j) 1 = some (.ptr b sz i (j + 1)) := fa_p tf70_1 ti3 (by decide)
theorem fv70_1 {es : List (List AV)} {i j : Nat} : fieldAddrA Try.prog 70 (.vptr es i j) 1 = some (.vptr es i (j + 1)) := fa_v tf70_1 ti3 (by decide)
theorem fp70_2 {b sz i j : Nat} : fieldAddrA Try.prog 70 (.ptr b sz i j) 2 = some (.ptr b sz i (j + 2)) := fa_p tf70_2 ti3 (by decide)
theorem fv70_2 {es : List (List AV)} {i j : Nat} : fieldAddrA Try.prog 70 (.vptr es i j) 2 = some (.vptr es i (j + 2)) := fa_v tf70_2 ti3 (by decide)
theorem fp70_3 {b sz i j : Nat} : fieldAddrA Try.prog 70 (.ptr b sz i j) 3 = some (.ptr b sz i (j + 3)) := fa_p tf70_3 ti3 (by decide)
theorem fv70_3 {es : List (List AV)} {i j : Nat} : fieldAddrA Try.prog 70 (.vptr es i j) 3 = some (.vptr es i (j + 3)) := fa_v tf70_3 ti3 (by decide)
theorem fp70_4 {b sz i j : Nat} : fieldAddrA Try.prog 70 (.ptr b sz i j) 4 = some (.ptr b sz i (j + 4)) := fa_p tf70_4 ti4 (by decide)
theorem fv70_4 {es : List (List AV)} {i j : Nat} : fieldAddrA Try.prog 70 (.vptr es i j) 4 = some (.vptr es i (j + 4)) := fa_v tf70_4 ti4 (by decide)
theorem fp72_0 {b sz i j : Nat} : fieldAddrA Try.prog 72 (.ptr b sz i j) 0 = some (.ptr b sz i (j + 0)) := fa_p tf72_0 ti31 (by decide)
theorem fv72_0 {es : List (List AV)} {i j : Nat} : fieldAddrA Try.prog 72 (.vptr es i j) 0 = some (.vptr es i (j + 0)) := fa_v tf72_0 ti31 (by decide)
theorem fp72_1 {b sz i j : Nat} : fieldAddrA Try.prog 72 (.ptr b sz i j) 1 = some (.ptr b sz i (j + 1)) := fa_p tf72_1 ti34 (by decide)
theorem fv72_1 {es : List (List AV)} {i j : Nat} : fieldAddrA Try.prog 72 (.vptr es i j) 1 = some (.vptr es i (j + 1)) := fa_v tf72_1 ti34 (by decide)
theorem fp72_2 {b sz i j : Nat} : fieldAddrA Try.prog 72 (.ptr b sz i j) 2 = some (.ptr b sz i (j + 2)) := fa_p tf72_2 ti3 (by decide)
theorem fv72_2 {es : List (List AV)} {i j : Nat} : fieldAddrA Try.prog 72 (.vptr es i j) 2 = some (.vptr es i (j + 2)) := fa_v tf72_2 ti3 (by decide)
theorem fp73_0 {b sz i j : Nat} : fieldAddrA Try.prog 73 (.ptr b sz i j) 0 = some (.ptr b sz i (j + 0)) := fa_p tf73_0 ti31 (by decide)
theorem fv73_0 {es : List (List AV)} {i j : Nat} : fieldAddrA Try.prog 73 (.vptr es i j) 0 = some (.vptr es i (j + 0)) := fa_v tf73_0 ti31 (by decide)
theorem fp73_1 {b sz i j : Nat} : fieldAddrA Try.prog 73 (.ptr b sz i j) 1 = some (.ptr b sz i (j + 1)) := fa_p tf73_1 ti34 (by decide)
theorem fv73_1 {es : List (List AV)} {i j : Nat} : fieldAddrA Try.prog 73 (.vptr es i j) 1 = some (.vptr es i (j + 1)) := fa_v tf73_1 ti34 (by decide)
theorem fp73_2 {b sz i j : Nat} : fieldAddrA Try.prog 73 (.ptr b sz i j) 2 = some (.ptr b sz i (j + 2)) := fa_p tf73_2 ti3 (by decide)
theorem fv73_2 {es : List (List AV)} {i j : Nat} : fieldAddrA Try.prog 73 (.vptr es i j) 2 = some (.vptr es i (j + 2)) := fa_v tf73_2 ti3 (by decide)
theorem fp78_0 {b sz i j : Nat} : fieldAddrA Try.prog 78 (.ptr b sz i j) 0 = some (.ptr b sz i (j + 0)) := fa_p tf78_0 ti9 (by decide)
theorem fv78_0 {es : List (List AV)} {i j : Nat} : fieldAddrA Try.prog 78 (.vptr es i j) 0 = some (.vptr es i (j + 0)) := fa_v tf78_0 ti9 (by decide)
theorem fp78_1 {b sz i j : Nat} : fieldAddrA Try.prog 78 (.ptr b sz i j) 1 = some (.ptr b sz i (j + 1)) := fa_p tf78_1 ti3 (by decide)
theorem fv78_1 {es : List (List AV)} {i j : Nat} : fieldAddrA Try.prog 78 (.vptr es i j) 1 = some (.vptr es i (j + 1)) := fa_v tf78_1 ti3 (by decide)
theorem fp79_0 {b sz i j : Nat} : fieldAddrA Try.prog 79 (.ptr b sz i j) 0 = some (.ptr b sz i (j + 0)) := fa_p tf79_0 ti9 (by decide)
theorem fv79_0 {es : List (List AV)} {i j : Nat} : fieldAddrA Try.prog 79 (.vptr es i j) 0 = some (.vptr es i (j + 0)) := fa_v tf79_0 ti9 (by decide)
theorem fp79_1 {b sz i j : Nat} : fieldAddrA Try.prog 79 (.ptr b sz i j) 1 = some (.ptr b sz i (j + 1)) := fa_p tf79_1 ti3 (by decide)
theorem fv79_1 {es : List (List AV)} {i j : Nat} : fieldAddrA Try.prog 79 (.vptr es i j) 1 = some (.vptr es i (j + 1)) := fa_v tf79_1 ti3 (by decide)
theorem fp88_0 {b sz i j : Nat} : fieldAddrA Try.prog 88 (.ptr b sz i j) 0 = some (.ptr b sz i (j + 0)) := fa_p tf88_0 ti25 (by decide)
theorem fv88_0 {es : List (List AV)} {i j : Nat} : fieldAddrA Try.prog 88 (.vptr es i j) 0 = some (.vptr es i (j + 0)) := fa_v tf88_0 ti25 (by decide)
theorem fp88_1 {b sz i j : Nat} : fieldAddrA Try.prog 88 (.ptr b sz i j) 1 = some (.ptr b sz i (j + 1)) := fa_p tf88_1 ti87 (by decide)
theorem fv88_1 {es : List (List AV)} {i j : Nat} : fieldAddrA Try.prog 88 (.vptr es i j) 1 = some (.vptr es i (j + 1)) := fa_v tf88_1 ti87 (by decide)
theorem fp88_2 {b sz i j : Nat} : fieldAddrA Try.prog 88 (.ptr b sz i j) 2 = some (.ptr b sz i (j + 2)) := fa_p tf88_2 ti31 (by decide)
theorem fv88_2 {es : List (List AV)} {i j : Nat} : fieldAddrA Try.prog 88 (.vptr es i j) 2 = some (.vptr es i (j + 2)) := fa_v tf88_2 ti31 (by decide)
theorem fp88_3 {b sz i j : Nat} : fieldAddrA Try.prog 88 (.ptr b sz i j) 3 = some (.ptr b sz i (j + 3)) := fa_p tf88_3 ti34 (by decide)
theorem fv88_3 {es : List (List AV)} {i j : Nat} : fieldAddrA Try.prog 88 (.vptr es i j) 3 = some (.vptr es i (j + 3)) := fa_v tf88_3 ti34 (by decide)
theorem fp88_4 {b sz i j : Nat} : fieldAddrA Try.prog 88 (.ptr b sz i j) 4 = some (.ptr b sz i (j + 4)) := fa_p tf88_4 ti3 (by decide)
theorem fv88_4 {es : List (List AV)} {i j : Nat} : fieldAddrA Try.prog 88 (.vptr es i j) 4 = some (.vptr es i (j + 4)) := fa_v tf88_4 ti3 (by decide)
theorem fp89_0 {b sz i j : Nat} : fieldAddrA Try.prog 89 (.ptr b sz i j) 0 = some (.ptr b sz i (j + 0)) := fa_p tf89_0 ti25 (by decide)
theorem fv89_0 {es : List (List AV)} {i j : Nat} : fieldAddrA Try.prog 89 (.vptr es i j) 0 = some (.vptr es i (j + 0)) := fa_v tf89_0 ti25 (by decide)
theorem fp89_1 {b sz i j : Nat} : fieldAddrA Try.prog 89 (.ptr b sz i j) 1 = some (.ptr b sz i (j + 1)) := fa_p tf89_1 ti87 (by decide)
theorem fv89_1 {es : List (List AV)} {i j : Nat} : fieldAddrA Try.prog 89 (.vptr es i j) 1 = some (.vptr es i (j + 1)) := fa_v tf89_1 ti87 (by decide)
theorem fp89_2 {b sz i j : Nat} : fieldAddrA Try.prog 89 (.ptr b sz i j) 2 = some (.ptr b sz i (j + 2)) := fa_p tf89_2 ti31 (by decide)
theorem fv89_2 {es : List (List AV)} {i j : Nat} : fieldAddrA Try.prog 89 (.vptr es i j) 2 = some (.vptr es i (j + 2)) := fa_v tf89_2 ti31 (by decide)
theorem fp89_3 {b sz i j : Nat} : fieldAddrA Try.prog 89 (.ptr b sz i j) 3 = some (.ptr b sz i (j + 3)) := fa_p tf89_3 ti34 (by decide)
theorem fv89_3 {es : List (List AV)} {i j : Nat} : fieldAddrA Try.prog 89 (.vptr es i j) 3 = some (.vptr es i (j + 3)) := fa_v tf89_3 ti34 (by decide)
theorem fp89_4 {b sz i j : Nat} : fieldAddrA Try.prog 89 (.ptr b sz i j) 4 = some (.ptr b sz i (j + 4)) := fa_p tf89_4 ti3 (by decide)
theorem fv89_4 {es : List (List AV)} {i j : Nat} : fieldAddrA Try.prog 89 (.vptr es i j) 4 = some (.vptr es i (j + 4)) := fa_v tf89_4 ti3 (by decide)
theorem fp154_0 {b sz i j : Nat} : fieldAddrA Try.prog 154 (.ptr b sz i j) 0 = some (.ptr b sz i (j + 0)) := fa_p tf154_0 ti3 (by decide)
theorem fv154_0 {es : List (List AV)} {i j : Nat} : fieldAddrA Try.prog 154 (.vptr es i j) 0 = some (.vptr es i (j + 0)) := fa_v tf154_0 ti3 (by decide)
theorem fp154_1 {b sz i j : Nat} : fieldAddrA Try.prog 154 (.ptr b sz i j) 1 = some (.ptr b sz i (j + 1)) := fa_p tf154_1 ti3 (by decide)
theorem fv154_1 {es : List (List AV)} {i j : Nat} : fieldAddrA Try.prog 154 (.vptr es i j) 1 = some (.vptr es i (j + 1)) := fa_v tf154_1 ti3 (by decide)
theorem fp154_2 {b sz i j : Nat} : fieldAddrA Try.prog 154 (.ptr b sz i j) 2 = some (.ptr b sz i (j + 2)) := fa_p tf154_2 ti3 (by decide)
theorem fv154_2 {es : List (List AV)} {i j : Nat} : fieldAddrA Try.prog 154 (.vptr es i j) 2 = some (.vptr es i (j + 2)) := fa_v tf154_2 ti3 (by decide)
theorem fp154_3 {b sz i j : Nat} : fieldAddrA Try.prog 154 (.ptr b sz i j) 3 = some (.ptr b sz i (j + 3)) := fa_p tf154_3 ti3 (by decide)
theorem fv154_3 {es : List (List AV)} {i j : Nat} : fieldAddrA Try.prog 154 (.vptr es i j) 3 = some (.vptr es i (j + 3)) := fa_v tf154_3 ti3 (by decide)
theorem fp155_0 {b sz i j : Nat} : fieldAddrA Try.prog 155 (.ptr b sz i j) 0 = some (.ptr b sz i (j + 0)) := fa_p tf155_0 ti3 (by decide)
theorem fv155_0 {es : List (List AV)} {i j : Nat} : fieldAddrA Try.prog 155 (.vptr es i j) 0 = some (.vptr es i (j + 0)) := fa_v tf155_0 ti3 (by decide)
theorem fp155_1 {b sz i j : Nat} : fieldAddrA Try.prog 155 (.ptr b sz i j) 1 = some (.ptr b sz i (j + 1)) := fa_p tf155_1 ti3 (by decide)
theorem fv155_1 {es : List (List AV)} {i j : Nat} : fieldAddrA Try.prog 155 (.vptr es i j) 1 = some (.vptr es i (j + 1)) := fa_v tf155_1 ti3 (by decide)
theorem fp155_2 {b sz i j : Nat} : fieldAddrA Try.prog 155 (.ptr b sz i j) 2 = some (.ptr b sz i (j + 2)) := fa_p tf155_2 ti3 (by decide)
theorem fv155_2 {es : List (List AV)} {i j : Nat} : fieldAddrA Try.prog 155 (.vptr es i j) 2 = some (.vptr es i (j + 2)) := fa_v tf155_2 ti3 (by decide)
theorem fp155_3 {b sz i j : Nat} : fieldAddrA Try.prog 155 (.ptr b sz i j) 3 = some (.ptr b sz i (j + 3)) := fa_p tf155_3 ti3 (by decide)
theorem fv155_3 {es : List (List AV)} {i j : Nat} : fieldAddrA Try.prog 155 (.vptr es i j) 3 = some (.vptr es i (j + 3)) := fa_v tf155_3 ti3 (by decide)
theorem lv22 {es : List (List AV)} {cl : Bool} : lenA Try.prog 22 (.vsl es cl) = some (I es.length) := lenV te22
theorem ll22 {b sz off len : Nat} {cl : Bool} : lenA Try.prog 22 (.sl b sz off len cl) = some (I len) := lenL te22
theorem is22 {b off len : Nat} {cl : Bool} {kd : IntKind} {n : Int} : indexAddrA Try.prog 22 (.sl b 1 off len cl) (.lit (.int kd n)) = if 0 ≤ n ∧ n < len then some (.ptr b 1 (off + n.toNat) 0) else none := ixs te22 ti5
theorem ix22 {l : List UInt8} {cl : Bool} {kd : IntKind} {n : Int} : indexAddrA Try.prog 22 (.vsl (l.map rU) cl) (.lit (.int kd n)) = if 0 ≤ n ∧ n < l.length then some (.vptr (l.map rU) n.toNat 0) else none := ixv te22 ti5 rU_len (by decide)
theorem sh22 {l : List UInt8} {cl : Bool} {h : Int} {ka : IntKind} : sliceA Try.prog 22 (.vsl (l.map rU) cl) none (some (.lit (.int ka h))) none = if 0 ≤ h ∧ h ≤ l.length then some (.vsl ((l.take h.toNat).map rU) (clipOf none h l.length cl)) else none := sl_hi te22 ti5 rU_len
theorem so22 {l : List UInt8} {cl : Bool} {lo : Int} {ka : IntKind} : sliceA Try.prog 22 (.vsl (l.map rU) cl) (some (.lit (.int ka lo))) none none = if 0 ≤ lo ∧ lo ≤ l.length then some (.vsl ((l.drop lo.toNat).map rU) cl) else none := sl_lo te22 ti5 rU_len
theorem sb22 {l : List UInt8} {cl : Bool} {lo h : Int} {ka kb : IntKind} : sliceA Try.prog 22 (.vsl (l.map rU) cl) (some (.lit (.int ka lo))) (some (.lit (.int kb h))) none = if 0 ≤ lo ∧ lo ≤ h ∧ h ≤ l.length then some (.vsl (((l.take h.toNat).drop lo.toNat).map rU) (clipOf none h l.length cl)) else none := sl_lohi te22 ti5 rU_len
theorem sm22 {l : List UInt8} {cl : Bool} {h m : Int} {ka kb : IntKind} : sliceA Try.prog 22 (.vsl (l.map rU) cl) none (some (.lit (.int ka h))) (some (.lit (.int kb m))) = if 0 ≤ h ∧ h ≤ m ∧ m ≤ l.length then some (.vsl ((l.take h.toNat).map rU) (decide (m = h))) else none := sl_hm te22 ti5 rU_len
theorem sp22 {b off n : Nat} {cl : Bool} {h m : Int} {ka kb : IntKind} : sliceA Try.prog 22 (.sl b 1 off n cl) none (some (.lit (.int ka h))) (some (.lit (.int kb m))) = if 0 ≤ h ∧ h ≤ m ∧ m ≤ n then some (.sl b 1 off h.toNat (decide (m = h))) else none := so_hm te22 ti5 rfl
theorem lv23 {es : List (List AV)} {cl : Bool} : lenA Try.prog 23 (.vsl es cl) = some (I es.length) := lenV te23
theorem ll23 {b sz off len : Nat} {cl : Bool} : lenA Try.prog 23 (.sl b sz off len cl) = some (I len) := lenL te23
theorem is23 {b off len : Nat} {cl : Bool} {kd : IntKind} {n : Int} : indexAddrA Try.prog 23 (.sl b 2 off len cl) (.lit (.int kd n)) = if 0 ≤ n ∧ n < len then some (.ptr b 2 (off + n.toNat) 0) else none := ixs te23 ti79
theorem ix23 {l : List Class} {cl : Bool} {kd : IntKind} {n : Int} : indexAddrA Try.prog 23 (.vsl (l.map rClass) cl) (.lit (.int kd n)) = if 0 ≤ n ∧ n < l.length then some (.vptr (l.map rClass) n.toNat 0) else none := ixv te23 ti79 rClass_len (by decide)
theorem sh23 {l : List Class} {cl : Bool} {h : Int} {ka : IntKind} : sliceA Try.prog 23 (.vsl (l.map rClass) cl) none (some (.lit (.int ka h))) none = if 0 ≤ h ∧ h ≤ l.length then some (.vsl ((l.take h.toNat).map rClass) (clipOf none h l.length cl)) else none := sl_hi te23 ti79 rClass_len
theorem so23 {l : List Class} {cl : Bool} {lo : Int} {ka : IntKind} : sliceA Try.prog 23 (.vsl (l.map rClass) cl) (some (.lit (.int ka lo))) none none = if 0 ≤ lo ∧ lo ≤ l.length then some (.vsl ((l.drop lo.toNat).map rClass) cl) else none := sl_lo te23 ti79 rClass_len
theorem sb23 {l : List Class} {cl : Bool} {lo h : Int} {ka kb : IntKind} : sliceA Try.prog 23 (.vsl (l.map rClass) cl) (some (.lit (.int ka lo))) (some (.lit (.int kb h))) none = if 0 ≤ lo ∧ lo ≤ h ∧ h ≤ l.length then some (.vsl (((l.take h.toNat).drop lo.toNat).map rClass) (clipOf none h l.length cl)) else none := sl_lohi te23 ti79 rClass_len
theorem sm23 {l : List Class} {cl : Bool} {h m : Int} {ka kb : IntKind} : sliceA Try.prog 23 (.vsl (l.map rClass) cl) none (some (.lit (.int ka h))) (some (.lit (.int kb m))) = if 0 ≤ h ∧ h ≤ m ∧ m ≤ l.length then some (.vsl ((l.take h.toNat).map rClass) (decide (m = h))) else none := sl_hm te23 ti79 rClass_len
theorem sp23 {b off n : Nat} {cl : Bool} {h m : Int} {ka kb : IntKind} : sliceA Try.prog 23 (.sl b 2 off n cl) none (some (.lit (.int ka h))) (some (.lit (.int kb m))) = if 0 ≤ h ∧ h ≤ m ∧ m ≤ n then some (.sl b 2 off h.toNat (decide (m = h))) else none := so_hm te23 ti79 rfl
theorem lv26 {es : List (List AV)} {cl : Bool} : lenA Try.prog 26 (.vsl es cl) = some (I es.length) := lenV te26
theorem ll26 {b sz off len : Nat} {cl : Bool} : lenA Try.prog 26 (.sl b sz off len cl) = some (I len) := lenL te26
theorem is26 {b off len : Nat} {cl : Bool} {kd : IntKind} {n : Int} : indexAddrA Try.prog 26 (.sl b 3 off len cl) (.lit (.int kd n)) = if 0 ≤ n ∧ n < len then some (.ptr b 3 (off + n.toNat) 0) else none := ixs te26 ti41
theorem ix26 {l : List Exi} {cl : Bool} {kd : IntKind} {n : Int} : indexAddrA Try.prog 26 (.vsl (l.map rExit) cl) (.lit (.int kd n)) = if 0 ≤ n ∧ n < l.length then some (.vptr (l.map rExit) n.toNat 0) else none := ixv te26 ti41 rExit_len (by decide)
theorem sh26 {l : List Exi} {cl : Bool} {h : Int} {ka : IntKind} : sliceA Try.prog 26 (.vsl (l.map rExit) cl) none (some (.lit (.int ka h))) none = if 0 ≤ h ∧ h ≤ l.length then some (.vsl ((l.take h.toNat).map rExit) (clipOf none h l.length cl)) else none := sl_hi te26 ti41 rExit_len
theorem so26 {l : List Exi} {cl : Bool} {lo : Int} {ka : IntKind} : sliceA Try.prog 26 (.vsl (l.map rExit) cl) (some (.lit (.int ka lo))) none none = if 0 ≤ lo ∧ lo ≤ l.length then some (.vsl ((l.drop lo.toNat).map rExit) cl) else none := sl_lo te26 ti41 rExit_len
theorem sb26 {l : List Exi} {cl : Bool} {lo h : Int} {ka kb : IntKind} : sliceA Try.prog 26 (.vsl (l.map rExit) cl) (some (.lit (.int ka lo))) (some (.lit (.int kb h))) none = if 0 ≤ lo ∧ lo ≤ h ∧ h ≤ l.length then some (.vsl (((l.take h.toNat).drop lo.toNat).map rExit) (clipOf none h l.length cl)) else none := sl_lohi te26 ti41 rExit_len
theorem sm26 {l : List Exi} {cl : Bool} {h m : Int} {ka kb : IntKind} : sliceA Try.prog 26 (.vsl (l.map rExit) cl) none (some (.lit (.int ka h))) (some (.lit (.int kb m))) = if 0 ≤ h ∧ h ≤ m ∧ m ≤ l.length then some (.vsl ((l.take h.toNat).map rExit) (decide (m = h))) else none := sl_hm te26 ti41 rExit_len
theorem sp26 {b off n : Nat} {cl : Bool} {h m : Int} {ka kb : IntKind} : sliceA Try.prog 26 (.sl b 3 off n cl) none (some (.lit (.int ka h))) (some (.lit (.int kb m))) = if 0 ≤ h ∧ h ≤ m ∧ m ≤ n then some (.sl b 3 off h.toNat (decide (m = h))) else none := so_hm te26 ti41 rfl
theorem lv31 {es : List (List AV)} {cl : Bool} : lenA Try.prog 31 (.vsl es cl) = some (I es.length) := lenV te31
theorem ll31 {b sz off len : Nat} {cl : Bool} : lenA Try.prog 31 (.sl b sz off len cl) = some (I len) := lenL te31
theorem is31 {b off len : Nat} {cl : Bool} {kd : IntKind} {n : Int} : indexAddrA Try.prog 31 (.sl b 1 off len cl) (.lit (.int kd n)) = if 0 ≤ n ∧ n < len then some (.ptr b 1 (off + n.toNat) 0) else none := ixs te31 ti3
theorem ix31 {l : List Int} {cl : Bool} {kd : IntKind} {n : Int} : indexAddrA Try.prog 31 (.vsl (l.map rI) cl) (.lit (.int kd n)) = if 0 ≤ n ∧ n < l.length then some (.vptr (l.map rI) n.toNat 0) else none := ixv te31 ti3 rI_len (by decide)
theorem sh31 {l : List Int} {cl : Bool} {h : Int} {ka : IntKind} : sliceA Try.prog 31 (.vsl (l.map rI) cl) none (some (.lit (.int ka h))) none = if 0 ≤ h ∧ h ≤ l.length then some (.vsl ((l.take h.toNat).map rI) (clipOf none h l.length cl)) else none := sl_hi te31 ti3 rI_len
theorem so31 {l : List Int} {cl : Bool} {lo : Int} {ka : IntKind} : sliceA Try.prog 31 (.vsl (l.map rI) cl) (some (.lit (.int ka lo))) none none = if 0 ≤ lo ∧ lo ≤ l.length then some (.vsl ((l.drop lo.toNat).map rI) cl) else none := sl_lo te31 ti3 rI_len
theorem sb31 {l : List Int} {cl : Bool} {lo h : Int} {ka kb : IntKind} : sliceA Try.prog 31 (.vsl (l.map rI) cl) (some (.lit (.int ka lo))) (some (.lit (.int kb h))) none = if 0 ≤ lo ∧ lo ≤ h ∧ h ≤ l.length then some (.vsl (((l.take h.toNat).drop lo.toNat).map rI) (clipOf none h l.length cl)) else none := sl_lohi te31 ti3 rI_len
theorem sm31 {l : List Int} {cl : Bool} {h m : Int} {ka kb : IntKind} : sliceA Try.prog 31 (.vsl (l.map rI) cl) none (some (.lit (.int ka h))) (some (.lit (.int kb m))) = if 0 ≤ h ∧ h ≤ m ∧ m ≤ l.length then some (.vsl ((l.take h.toNat).map rI) (decide (m = h))) else none := sl_hm te31 ti3 rI_len
theorem sp31 {b off n : Nat} {cl : Bool} {h m : Int} {ka kb : IntKind} : sliceA Try.prog 31 (.sl b 1 off n cl) none (some (.lit (.int ka h))) (some (.lit (.int kb m))) = if 0 ≤ h ∧ h ≤ m ∧ m ≤ n then some (.sl b 1 off h.toNat (decide (m = h))) else none := so_hm te31 ti3 rfl
theorem lv32 {es : List (List AV)} {cl : Bool} : lenA Try.prog 32 (.vsl es cl) = some (I es.length) := lenV te32
theorem ll32 {b sz off len : Nat} {cl : Bool} : lenA Try.prog 32 (.sl b sz off len cl) = some (I len) := lenL te32
theorem is32 {b off len : Nat} {cl : Bool} {kd : IntKind} {n : Int} : indexAddrA Try.prog 32 (.sl b 5 off len cl) (.lit (.int kd n)) = if 0 ≤ n ∧ n < len then some (.ptr b 5 (off + n.toNat) 0) else none := ixs te32 ti70
theorem ix32 {l : List Fault} {cl : Bool} {kd : IntKind} {n : Int} : indexAddrA Try.prog 32 (.vsl (l.map rFault) cl) (.lit (.int kd n)) = if 0 ≤ n ∧ n < l.length then some (.vptr (l.map rFault) n.toNat 0) else none := ixv te32 ti70 rFault_len (by decide)
theorem sh32 {l : List Fault} {cl : Bool} {h : Int} {ka : IntKind} : sliceA Try.prog 32 (.vsl (l.map rFault) cl) none (some (.lit (.int ka h))) none = if 0 ≤ h ∧ h ≤ l.length then some (.vsl ((l.take h.toNat).map rFault) (clipOf none h l.length cl)) else none := sl_hi te32 ti70 rFault_len
theorem so32 {l : List Fault} {cl : Bool} {lo : Int} {ka : IntKind} : sliceA Try.prog 32 (.vsl (l.map rFault) cl) (some (.lit (.int ka lo))) none none = if 0 ≤ lo ∧ lo ≤ l.length then some (.vsl ((l.drop lo.toNat).map rFault) cl) else none := sl_lo te32 ti70 rFault_len
theorem sb32 {l : List Fault} {cl : Bool} {lo h : Int} {ka kb : IntKind} : sliceA Try.prog 32 (.vsl (l.map rFault) cl) (some (.lit (.int ka lo))) (some (.lit (.int kb h))) none = if 0 ≤ lo ∧ lo ≤ h ∧ h ≤ l.length then some (.vsl (((l.take h.toNat).drop lo.toNat).map rFault) (clipOf none h l.length cl)) else none := sl_lohi te32 ti70 rFault_len
theorem sm32 {l : List Fault} {cl : Bool} {h m : Int} {ka kb : IntKind} : sliceA Try.prog 32 (.vsl (l.map rFault) cl) none (some (.lit (.int ka h))) (some (.lit (.int kb m))) = if 0 ≤ h ∧ h ≤ m ∧ m ≤ l.length then some (.vsl ((l.take h.toNat).map rFault) (decide (m = h))) else none := sl_hm te32 ti70 rFault_len
theorem sp32 {b off n : Nat} {cl : Bool} {h m : Int} {ka kb : IntKind} : sliceA Try.prog 32 (.sl b 5 off n cl) none (some (.lit (.int ka h))) (some (.lit (.int kb m))) = if 0 ≤ h ∧ h ≤ m ∧ m ≤ n then some (.sl b 5 off h.toNat (decide (m = h))) else none := so_hm te32 ti70 rfl
theorem lv85 {es : List (List AV)} {cl : Bool} : lenA Try.prog 85 (.vsl es cl) = some (I es.length) := lenV te85
theorem ll85 {b sz off len : Nat} {cl : Bool} : lenA Try.prog 85 (.sl b sz off len cl) = some (I len) := lenL te85
theorem is85 {b off len : Nat} {cl : Bool} {kd : IntKind} {n : Int} : indexAddrA Try.prog 85 (.sl b 1 off len cl) (.lit (.int kd n)) = if 0 ≤ n ∧ n < len then some (.ptr b 1 (off + n.toNat) 0) else none := ixs te85 ti9
theorem ix85 {l : List Str} {cl : Bool} {kd : IntKind} {n : Int} : indexAddrA Try.prog 85 (.vsl (l.map rS) cl) (.lit (.int kd n)) = if 0 ≤ n ∧ n < l.length then some (.vptr (l.map rS) n.toNat 0) else none := ixv te85 ti9 rS_len (by decide)
theorem sh85 {l : List Str} {cl : Bool} {h : Int} {ka : IntKind} : sliceA Try.prog 85 (.vsl (l.map rS) cl) none (some (.lit (.int ka h))) none = if 0 ≤ h ∧ h ≤ l.length then some (.vsl ((l.take h.toNat).map rS) (clipOf none h l.length cl)) else none := sl_hi te85 ti9 rS_len
theorem so85 {l : List Str} {cl : Bool} {lo : Int} {ka : IntKind} : sliceA Try.prog 85 (.vsl (l.map rS) cl) (some (.lit (.int ka lo))) none none = if 0 ≤ lo ∧ lo ≤ l.length then some (.vsl ((l.drop lo.toNat).map rS) cl) else none := sl_lo te85 ti9 rS_len
theorem sb85 {l : List Str} {cl : Bool} {lo h : Int} {ka kb : IntKind} : sliceA Try.prog 85 (.vsl (l.map rS) cl) (some (.lit (.int ka lo))) (some (.lit (.int kb h))) none = if 0 ≤ lo ∧ lo ≤ h ∧ h ≤ l.length then some (.vsl (((l.take h.toNat).drop lo.toNat).map rS) (clipOf none h l.length cl)) else none := sl_lohi te85 ti9 rS_len
theorem sm85 {l : List Str} {cl : Bool} {h m : Int} {ka kb : IntKind} : sliceA Try.prog 85 (.vsl (l.map rS) cl) none (some (.lit (.int ka h))) (some (.lit (.int kb m))) = if 0 ≤ h ∧ h ≤ m ∧ m ≤ l.length then some (.vsl ((l.take h.toNat).map rS) (decide (m = h))) else none := sl_hm te85 ti9 rS_len
theorem sp85 {b off n : Nat} {cl : Bool} {h m : Int} {ka kb : IntKind} : sliceA Try.prog 85 (.sl b 1 off n cl) none (some (.lit (.int ka h))) (some (.lit (.int kb m))) = if 0 ≤ h ∧ h ≤ m ∧ m ≤ n then some (.sl b 1 off h.toNat (decide (m = h))) else none := so_hm te85 ti9 rfl
theorem lv87 {es : List (List AV)} {cl : Bool} : lenA Try.prog 87 (.vsl es cl) = some (I es.length) := lenV te87
theorem ll87 {b sz off len : Nat} {cl : Bool} : lenA Try.prog 87 (.sl b sz off len cl) = some (I len) := lenL te87
theorem is87 {b off len : Nat} {cl : Bool} {kd : IntKind} {n : Int} : indexAddrA Try.prog 87 (.sl b 4 off len cl) (.lit (.int kd n)) = if 0 ≤ n ∧ n < len then some (.ptr b 4 (off + n.toNat) 0) else none := ixs te87 ti155
theorem ix87 {l : List Line} {cl : Bool} {kd : IntKind} {n : Int} : indexAddrA Try.prog 87 (.vsl (l.map rLine) cl) (.lit (.int kd n)) = if 0 ≤ n ∧ n < l.length then some (.vptr (l.map rLine) n.toNat 0) else none := ixv te87 ti155 rLine_len (by decide)
theorem sh87 {l : List Line} {cl : Bool} {h : Int} {ka : IntKind} : sliceA Try.prog 87 (.vsl (l.map rLine) cl) none (some (.lit (.int ka h))) none = if 0 ≤ h ∧ h ≤ l.length then some (.vsl ((l.take h.toNat).map rLine) (clipOf none h l.length cl)) else none := sl_hi te87 ti155 rLine_len
theorem so87 {l : List Line} {cl : Bool} {lo : Int} {ka : IntKind} : sliceA Try.prog 87 (.vsl (l.map rLine) cl) (some (.lit (.int ka lo))) none none = if 0 ≤ lo ∧ lo ≤ l.length then some (.vsl ((l.drop lo.toNat).map rLine) cl) else none := sl_lo te87 ti155 rLine_len
theorem sb87 {l : List Line} {cl : Bool} {lo h : Int} {ka kb : IntKind} : sliceA Try.prog 87 (.vsl (l.map rLine) cl) (some (.lit (.int ka lo))) (some (.lit (.int kb h))) none = if 0 ≤ lo ∧ lo ≤ h ∧ h ≤ l.length then some (.vsl (((l.take h.toNat).drop lo.toNat).map rLine) (clipOf none h l.length cl)) else none := sl_lohi te87 ti155 rLine_len
theorem sm87 {l : List Line} {cl : Bool} {h m : Int} {ka kb : IntKind} : sliceA Try.prog 87 (.vsl (l.map rLine) cl) none (some (.lit (.int ka h))) (some (.lit (.int kb m))) = if 0 ≤ h ∧ h ≤ m ∧ m ≤ l.length then some (.vsl ((l.take h.toNat).map rLine) (decide (m = h))) else none := sl_hm te87 ti155 rLine_len
theorem sp87 {b off n : Nat} {cl : Bool} {h m : Int} {ka kb : IntKind} : sliceA Try.prog 87 (.sl b 4 off n cl) none (some (.lit (.int ka h))) (some (.lit (.int kb m))) = if 0 ≤ h ∧ h ≤ m ∧ m ≤ n then some (.sl b 4 off h.toNat (decide (m = h))) else none := so_hm te87 ti155 rfl
theorem xs9 {s : Str} {kd : IntKind} {n : Int} : indexA Try.prog 9 (S s) (.lit (.int kd n)) = if 0 ≤ n ∧ n < s.length then some (U8 (s.getD n.toNat 0).toNat) else none := ixS ts9
theorem ls9 {s : Str} : lenA Try.prog 9 (S s) = some (I s.length) := lenS ts9
theorem sx9 {s : Str} {h : Int} {ka : IntKind} : sliceA Try.prog 9 (S s) none (some (.lit (.int ka h))) none = if 0 ≤ h ∧ h ≤ s.length then some (S (s.take h.toNat)) else none := ss_hi ts9
theorem sy9 {s : Str} {lo : Int} {ka : IntKind} : sliceA Try.prog 9 (S s) (some (.lit (.int ka lo))) none none = if 0 ≤ lo ∧ lo ≤ s.length then some (S (s.drop lo.toNat)) else none := ss_lo ts9
theorem sz9 {s : Str} {lo h : Int} {ka kb : IntKind} : sliceA Try.prog 9 (S s) (some (.lit (.int ka lo))) (some (.lit (.int kb h))) none = if 0 ≤ lo ∧ lo ≤ h ∧ h ≤ s.length then some (S ((s.take h.toNat).drop lo.toNat)) else none := ss_lohi ts9
end Go.Proofs.Ytihjbbiajggcoaa

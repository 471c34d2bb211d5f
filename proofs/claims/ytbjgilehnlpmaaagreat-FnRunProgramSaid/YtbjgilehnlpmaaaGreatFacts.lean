/- Facts of this seat's tables of types. No condition. -/
import Derived.Test.YtbjgilehnlpmaaaGreatRows2
import Derived.Test.YtbjgilehnlpmaaaGreatChecked
import Derived.KernelRfl
set_option linter.unusedVariables false
set_option linter.unusedSimpArgs false
namespace Go.Proofs.YtbjgilehnlpmaaaGreat
open Go Go.Sim

theorem mixed : Tryz.prog.follows .mixedOrders = true := by kernel_rfl
theorem ti1 : tinfo Tryz.prog 1 = some ⟨1, 8, false, [.nilFunc]⟩ := by kernel_rfl
theorem ti2 : tinfo Tryz.prog 2 = some ⟨1, 8, false, [.int .i64 0]⟩ := by kernel_rfl
theorem tk2 : tint Tryz.prog 2 = some .i64 := by kernel_rfl
theorem ti3 : tinfo Tryz.prog 3 = some ⟨1, 8, false, [.int .i64 0]⟩ := by kernel_rfl
theorem te3 : telem Tryz.prog 3 = none := by kernel_rfl
theorem ts3 : tstr Tryz.prog 3 = false := by kernel_rfl
theorem tk3 : tint Tryz.prog 3 = some .i64 := by kernel_rfl
theorem tz3 : tsome Tryz.prog 3 = true := by kernel_rfl
theorem ti4 : tinfo Tryz.prog 4 = some ⟨1, 1, false, [.bool false]⟩ := by kernel_rfl
theorem tb4 : tbool Tryz.prog 4 = true := by kernel_rfl
theorem ti5 : tinfo Tryz.prog 5 = some ⟨1, 1, false, [.int .u8 0]⟩ := by kernel_rfl
theorem tk5 : tint Tryz.prog 5 = some .u8 := by kernel_rfl
theorem tz5 : tsome Tryz.prog 5 = true := by kernel_rfl
theorem ti9 : tinfo Tryz.prog 9 = some ⟨1, 16, false, [(.string ⟨[].toArray⟩)]⟩ := by kernel_rfl
theorem te9 : telem Tryz.prog 9 = none := by kernel_rfl
theorem ts9 : tstr Tryz.prog 9 = true := by kernel_rfl
theorem tk9 : tint Tryz.prog 9 = none := by kernel_rfl
theorem tz9 : tsome Tryz.prog 9 = true := by kernel_rfl
theorem ti12 : tinfo Tryz.prog 12 = some ⟨1, 8, false, [.int .u64 0]⟩ := by kernel_rfl
theorem tk12 : tint Tryz.prog 12 = some .u64 := by kernel_rfl
theorem ti13 : tinfo Tryz.prog 13 = some ⟨2, 24, true, [(.string ⟨[].toArray⟩), .int .u64 0]⟩ := by kernel_rfl
theorem tp13 : tplaces Tryz.prog 13 = some [(0, 1), (1, 1)] := by kernel_rfl
theorem tf13_0 : tfield Tryz.prog 13 0 = some (0, 9) := by kernel_rfl
theorem tf13_1 : tfield Tryz.prog 13 1 = some (1, 12) := by kernel_rfl
theorem ti20 : tinfo Tryz.prog 20 = some ⟨1, 16, false, [.nilIface]⟩ := by kernel_rfl
theorem ti21 : tinfo Tryz.prog 21 = some ⟨1, 4, false, [.int .i32 0]⟩ := by kernel_rfl
theorem tk21 : tint Tryz.prog 21 = some .i32 := by kernel_rfl
theorem tz21 : tsome Tryz.prog 21 = true := by kernel_rfl
theorem ti22 : tinfo Tryz.prog 22 = some ⟨1, 24, false, [(.slice none 0 0)]⟩ := by kernel_rfl
theorem te22 : telem Tryz.prog 22 = some 105 := by kernel_rfl
theorem ti23 : tinfo Tryz.prog 23 = some ⟨1, 24, true, [(.slice none 0 0)]⟩ := by kernel_rfl
theorem tp23 : tplaces Tryz.prog 23 = some [(0, 1)] := by kernel_rfl
theorem tf23_0 : tfield Tryz.prog 23 0 = some (0, 22) := by kernel_rfl
theorem ti24 : tinfo Tryz.prog 24 = some ⟨1, 24, true, [(.slice none 0 0)]⟩ := by kernel_rfl
theorem tp24 : tplaces Tryz.prog 24 = some [(0, 1)] := by kernel_rfl
theorem tf24_0 : tfield Tryz.prog 24 0 = some (0, 22) := by kernel_rfl
theorem ti25 : tinfo Tryz.prog 25 = some ⟨1, 24, false, [(.slice none 0 0)]⟩ := by kernel_rfl
theorem te25 : telem Tryz.prog 25 = some 50 := by kernel_rfl
theorem ti26 : tinfo Tryz.prog 26 = some ⟨1, 24, false, [(.slice none 0 0)]⟩ := by kernel_rfl
theorem te26 : telem Tryz.prog 26 = some 3 := by kernel_rfl
theorem ti27 : tinfo Tryz.prog 27 = some ⟨1, 24, false, [(.slice none 0 0)]⟩ := by kernel_rfl
theorem te27 : telem Tryz.prog 27 = some 80 := by kernel_rfl
theorem ti28 : tinfo Tryz.prog 28 = some ⟨1, 24, true, [(.slice none 0 0)]⟩ := by kernel_rfl
theorem tp28 : tplaces Tryz.prog 28 = some [(0, 1)] := by kernel_rfl
theorem tf28_0 : tfield Tryz.prog 28 0 = some (0, 27) := by kernel_rfl
theorem ti29 : tinfo Tryz.prog 29 = some ⟨1, 24, true, [(.slice none 0 0)]⟩ := by kernel_rfl
theorem tp29 : tplaces Tryz.prog 29 = some [(0, 1)] := by kernel_rfl
theorem tf29_0 : tfield Tryz.prog 29 0 = some (0, 27) := by kernel_rfl
theorem ti30 : tinfo Tryz.prog 30 = some ⟨4, 64, true, [(.slice none 0 0), .int .i64 0, .int .i64 0, (.slice none 0 0)]⟩ := by kernel_rfl
theorem tp30 : tplaces Tryz.prog 30 = some [(0, 1), (1, 1), (2, 1), (3, 1)] := by kernel_rfl
theorem tf30_0 : tfield Tryz.prog 30 0 = some (0, 26) := by kernel_rfl
theorem tf30_1 : tfield Tryz.prog 30 1 = some (1, 3) := by kernel_rfl
theorem tf30_2 : tfield Tryz.prog 30 2 = some (2, 3) := by kernel_rfl
theorem tf30_3 : tfield Tryz.prog 30 3 = some (3, 29) := by kernel_rfl
theorem ti31 : tinfo Tryz.prog 31 = some ⟨4, 64, true, [(.slice none 0 0), .int .i64 0, .int .i64 0, (.slice none 0 0)]⟩ := by kernel_rfl
theorem tp31 : tplaces Tryz.prog 31 = some [(0, 1), (1, 1), (2, 1), (3, 1)] := by kernel_rfl
theorem tf31_0 : tfield Tryz.prog 31 0 = some (0, 26) := by kernel_rfl
theorem tf31_1 : tfield Tryz.prog 31 1 = some (1, 3) := by kernel_rfl
theorem tf31_2 : tfield Tryz.prog 31 2 = some (2, 3) := by kernel_rfl
theorem tf31_3 : tfield Tryz.prog 31 3 = some (3, 29) := by kernel_rfl
theorem ti32 : tinfo Tryz.prog 32 = some ⟨1, 8, false, [.nilFunc]⟩ := by kernel_rfl
theorem ti33 : tinfo Tryz.prog 33 = some ⟨1, 8, false, [.nilFunc]⟩ := by kernel_rfl
theorem ti34 : tinfo Tryz.prog 34 = some ⟨1, 8, false, [.nilFunc]⟩ := by kernel_rfl
theorem ti35 : tinfo Tryz.prog 35 = some ⟨1, 24, false, [(.slice none 0 0)]⟩ := by kernel_rfl
theorem te35 : telem Tryz.prog 35 = some 5 := by kernel_rfl
theorem tz35 : tsome Tryz.prog 35 = true := by kernel_rfl
theorem ti37 : tinfo Tryz.prog 37 = some ⟨1, 8, false, [.nilFunc]⟩ := by kernel_rfl
theorem ti38 : tinfo Tryz.prog 38 = some ⟨1, 8, false, [.nilFunc]⟩ := by kernel_rfl
theorem ti39 : tinfo Tryz.prog 39 = some ⟨1, 8, false, [.nilFunc]⟩ := by kernel_rfl
theorem ti40 : tinfo Tryz.prog 40 = some ⟨1, 8, false, [.nilFunc]⟩ := by kernel_rfl
theorem ti42 : tinfo Tryz.prog 42 = some ⟨1, 8, false, [.nilFunc]⟩ := by kernel_rfl
theorem ti44 : tinfo Tryz.prog 44 = some ⟨1, 8, false, [.nilFunc]⟩ := by kernel_rfl
theorem ti46 : tinfo Tryz.prog 46 = some ⟨1, 8, false, [.nilFunc]⟩ := by kernel_rfl
theorem ti47 : tinfo Tryz.prog 47 = some ⟨1, 8, false, [.nilFunc]⟩ := by kernel_rfl
theorem ti48 : tinfo Tryz.prog 48 = some ⟨1, 8, false, [.nilFunc]⟩ := by kernel_rfl
theorem ti49 : tinfo Tryz.prog 49 = some ⟨4, 32, true, [.int .i64 0, .int .i64 0, .int .i64 0, .int .i64 0]⟩ := by kernel_rfl
theorem tq49 : teq Tryz.prog 49 = some [.i, .i, .i, .i] := by kernel_rfl
theorem tp49 : tplaces Tryz.prog 49 = some [(0, 1), (1, 1), (2, 1), (3, 1)] := by kernel_rfl
theorem tf49_0 : tfield Tryz.prog 49 0 = some (0, 3) := by kernel_rfl
theorem tf49_1 : tfield Tryz.prog 49 1 = some (1, 3) := by kernel_rfl
theorem tf49_2 : tfield Tryz.prog 49 2 = some (2, 3) := by kernel_rfl
theorem tf49_3 : tfield Tryz.prog 49 3 = some (3, 3) := by kernel_rfl
theorem ti50 : tinfo Tryz.prog 50 = some ⟨4, 32, true, [.int .i64 0, .int .i64 0, .int .i64 0, .int .i64 0]⟩ := by kernel_rfl
theorem tq50 : teq Tryz.prog 50 = some [.i, .i, .i, .i] := by kernel_rfl
theorem tp50 : tplaces Tryz.prog 50 = some [(0, 1), (1, 1), (2, 1), (3, 1)] := by kernel_rfl
theorem tf50_0 : tfield Tryz.prog 50 0 = some (0, 3) := by kernel_rfl
theorem tf50_1 : tfield Tryz.prog 50 1 = some (1, 3) := by kernel_rfl
theorem tf50_2 : tfield Tryz.prog 50 2 = some (2, 3) := by kernel_rfl
theorem tf50_3 : tfield Tryz.prog 50 3 = some (3, 3) := by kernel_rfl
theorem ti51 : tinfo Tryz.prog 51 = some ⟨1, 8, false, [.nilFunc]⟩ := by kernel_rfl
theorem ti52 : tinfo Tryz.prog 52 = some ⟨1, 8, false, [.nilFunc]⟩ := by kernel_rfl
theorem ti53 : tinfo Tryz.prog 53 = some ⟨1, 8, false, [.nilFunc]⟩ := by kernel_rfl
theorem ti54 : tinfo Tryz.prog 54 = some ⟨1, 8, false, [.nilFunc]⟩ := by kernel_rfl
theorem ti55 : tinfo Tryz.prog 55 = some ⟨1, 8, false, [.pointer none]⟩ := by kernel_rfl
theorem ti56 : tinfo Tryz.prog 56 = some ⟨1, 8, false, [.nilFunc]⟩ := by kernel_rfl
theorem ti57 : tinfo Tryz.prog 57 = some ⟨1, 8, false, [.nilFunc]⟩ := by kernel_rfl
theorem ti58 : tinfo Tryz.prog 58 = some ⟨2, 16, true, [.int .i64 0, .int .i64 0]⟩ := by kernel_rfl
theorem tq58 : teq Tryz.prog 58 = some [.i, .i] := by kernel_rfl
theorem tp58 : tplaces Tryz.prog 58 = some [(0, 1), (1, 1)] := by kernel_rfl
theorem tf58_0 : tfield Tryz.prog 58 0 = some (0, 3) := by kernel_rfl
theorem tf58_1 : tfield Tryz.prog 58 1 = some (1, 3) := by kernel_rfl
theorem ti59 : tinfo Tryz.prog 59 = some ⟨2, 16, true, [.int .i64 0, .int .i64 0]⟩ := by kernel_rfl
theorem tq59 : teq Tryz.prog 59 = some [.i, .i] := by kernel_rfl
theorem tp59 : tplaces Tryz.prog 59 = some [(0, 1), (1, 1)] := by kernel_rfl
theorem tf59_0 : tfield Tryz.prog 59 0 = some (0, 3) := by kernel_rfl
theorem tf59_1 : tfield Tryz.prog 59 1 = some (1, 3) := by kernel_rfl
theorem ti60 : tinfo Tryz.prog 60 = some ⟨1, 8, false, [.nilFunc]⟩ := by kernel_rfl
theorem ti61 : tinfo Tryz.prog 61 = some ⟨1, 8, false, [.nilFunc]⟩ := by kernel_rfl
theorem ti62 : tinfo Tryz.prog 62 = some ⟨1, 8, false, [.nilFunc]⟩ := by kernel_rfl
theorem ti63 : tinfo Tryz.prog 63 = some ⟨1, 8, false, [.nilFunc]⟩ := by kernel_rfl
theorem ti64 : tinfo Tryz.prog 64 = some ⟨1, 8, false, [.nilFunc]⟩ := by kernel_rfl
theorem ti65 : tinfo Tryz.prog 65 = some ⟨1, 8, false, [.nilFunc]⟩ := by kernel_rfl
theorem ti66 : tinfo Tryz.prog 66 = some ⟨1, 8, false, [.pointer none]⟩ := by kernel_rfl
theorem ti67 : tinfo Tryz.prog 67 = some ⟨1, 8, false, [.nilFunc]⟩ := by kernel_rfl
theorem ti68 : tinfo Tryz.prog 68 = some ⟨1, 8, false, [.map none]⟩ := by kernel_rfl
theorem ti69 : tinfo Tryz.prog 69 = some ⟨1, 8, false, [.nilFunc]⟩ := by kernel_rfl
theorem ti70 : tinfo Tryz.prog 70 = some ⟨1, 8, false, [.nilFunc]⟩ := by kernel_rfl
theorem ti71 : tinfo Tryz.prog 71 = some ⟨1, 8, false, [.nilFunc]⟩ := by kernel_rfl
theorem ti72 : tinfo Tryz.prog 72 = some ⟨1, 8, false, [.nilFunc]⟩ := by kernel_rfl
theorem ti73 : tinfo Tryz.prog 73 = some ⟨1, 8, false, [.nilFunc]⟩ := by kernel_rfl
theorem ti74 : tinfo Tryz.prog 74 = some ⟨1, 8, false, [.nilFunc]⟩ := by kernel_rfl
theorem ti75 : tinfo Tryz.prog 75 = some ⟨1, 8, false, [.nilFunc]⟩ := by kernel_rfl
theorem ti76 : tinfo Tryz.prog 76 = some ⟨1, 8, false, [.nilFunc]⟩ := by kernel_rfl
theorem ti77 : tinfo Tryz.prog 77 = some ⟨1, 8, false, [.nilFunc]⟩ := by kernel_rfl
theorem ti78 : tinfo Tryz.prog 78 = some ⟨1, 8, false, [.nilFunc]⟩ := by kernel_rfl
theorem ti79 : tinfo Tryz.prog 79 = some ⟨5, 40, true, [.int .i64 0, .int .i64 0, .int .i64 0, .int .i64 0, .bool false]⟩ := by kernel_rfl
theorem tq79 : teq Tryz.prog 79 = some [.i, .i, .i, .i, .b] := by kernel_rfl
theorem tp79 : tplaces Tryz.prog 79 = some [(0, 1), (1, 1), (2, 1), (3, 1), (4, 1)] := by kernel_rfl
theorem tf79_0 : tfield Tryz.prog 79 0 = some (0, 3) := by kernel_rfl
theorem tf79_1 : tfield Tryz.prog 79 1 = some (1, 3) := by kernel_rfl
theorem tf79_2 : tfield Tryz.prog 79 2 = some (2, 3) := by kernel_rfl
theorem tf79_3 : tfield Tryz.prog 79 3 = some (3, 3) := by kernel_rfl
theorem tf79_4 : tfield Tryz.prog 79 4 = some (4, 4) := by kernel_rfl
theorem ti80 : tinfo Tryz.prog 80 = some ⟨5, 40, true, [.int .i64 0, .int .i64 0, .int .i64 0, .int .i64 0, .bool false]⟩ := by kernel_rfl
theorem tq80 : teq Tryz.prog 80 = some [.i, .i, .i, .i, .b] := by kernel_rfl
theorem tp80 : tplaces Tryz.prog 80 = some [(0, 1), (1, 1), (2, 1), (3, 1), (4, 1)] := by kernel_rfl
theorem tf80_0 : tfield Tryz.prog 80 0 = some (0, 3) := by kernel_rfl
theorem tf80_1 : tfield Tryz.prog 80 1 = some (1, 3) := by kernel_rfl
theorem tf80_2 : tfield Tryz.prog 80 2 = some (2, 3) := by kernel_rfl
theorem tf80_3 : tfield Tryz.prog 80 3 = some (3, 3) := by kernel_rfl
theorem tf80_4 : tfield Tryz.prog 80 4 = some (4, 4) := by kernel_rfl
theorem ti81 : tinfo Tryz.prog 81 = some ⟨1, 8, false, [.nilFunc]⟩ := by kernel_rfl
theorem ti82 : tinfo Tryz.prog 82 = some ⟨1, 8, false, [.nilFunc]⟩ := by kernel_rfl
theorem ti83 : tinfo Tryz.prog 83 = some ⟨1, 8, false, [.nilFunc]⟩ := by kernel_rfl
theorem ti84 : tinfo Tryz.prog 84 = some ⟨1, 8, false, [.nilFunc]⟩ := by kernel_rfl
theorem ti85 : tinfo Tryz.prog 85 = some ⟨1, 8, false, [.nilFunc]⟩ := by kernel_rfl
theorem ti86 : tinfo Tryz.prog 86 = some ⟨1, 8, false, [.nilFunc]⟩ := by kernel_rfl
theorem ti87 : tinfo Tryz.prog 87 = some ⟨1, 8, false, [.nilFunc]⟩ := by kernel_rfl
theorem ti88 : tinfo Tryz.prog 88 = some ⟨1, 8, false, [.nilFunc]⟩ := by kernel_rfl
theorem ti89 : tinfo Tryz.prog 89 = some ⟨5, 104, true, [(.slice none 0 0), (.slice none 0 0), (.slice none 0 0), (.slice none 0 0), .int .i64 0]⟩ := by kernel_rfl
theorem tp89 : tplaces Tryz.prog 89 = some [(0, 1), (1, 1), (2, 1), (3, 1), (4, 1)] := by kernel_rfl
theorem tf89_0 : tfield Tryz.prog 89 0 = some (0, 24) := by kernel_rfl
theorem tf89_1 : tfield Tryz.prog 89 1 = some (1, 25) := by kernel_rfl
theorem tf89_2 : tfield Tryz.prog 89 2 = some (2, 26) := by kernel_rfl
theorem tf89_3 : tfield Tryz.prog 89 3 = some (3, 29) := by kernel_rfl
theorem tf89_4 : tfield Tryz.prog 89 4 = some (4, 3) := by kernel_rfl
theorem ti90 : tinfo Tryz.prog 90 = some ⟨5, 104, true, [(.slice none 0 0), (.slice none 0 0), (.slice none 0 0), (.slice none 0 0), .int .i64 0]⟩ := by kernel_rfl
theorem tp90 : tplaces Tryz.prog 90 = some [(0, 1), (1, 1), (2, 1), (3, 1), (4, 1)] := by kernel_rfl
theorem tf90_0 : tfield Tryz.prog 90 0 = some (0, 24) := by kernel_rfl
theorem tf90_1 : tfield Tryz.prog 90 1 = some (1, 25) := by kernel_rfl
theorem tf90_2 : tfield Tryz.prog 90 2 = some (2, 26) := by kernel_rfl
theorem tf90_3 : tfield Tryz.prog 90 3 = some (3, 29) := by kernel_rfl
theorem tf90_4 : tfield Tryz.prog 90 4 = some (4, 3) := by kernel_rfl
theorem ti91 : tinfo Tryz.prog 91 = some ⟨1, 8, false, [.nilFunc]⟩ := by kernel_rfl
theorem ti93 : tinfo Tryz.prog 93 = some ⟨1, 8, false, [.nilFunc]⟩ := by kernel_rfl
theorem ti94 : tinfo Tryz.prog 94 = some ⟨1, 8, false, [.nilFunc]⟩ := by kernel_rfl
theorem ti95 : tinfo Tryz.prog 95 = some ⟨1, 8, false, [.nilFunc]⟩ := by kernel_rfl
theorem ti96 : tinfo Tryz.prog 96 = some ⟨1, 8, false, [.nilFunc]⟩ := by kernel_rfl
theorem ti97 : tinfo Tryz.prog 97 = some ⟨1, 8, false, [.pointer none]⟩ := by kernel_rfl
theorem ti98 : tinfo Tryz.prog 98 = some ⟨4, 96, true, [(.slice none 0 0), (.slice none 0 0), (.slice none 0 0), (.slice none 0 0)]⟩ := by kernel_rfl
theorem tp98 : tplaces Tryz.prog 98 = some [(0, 1), (1, 1), (2, 1), (3, 1)] := by kernel_rfl
theorem tf98_0 : tfield Tryz.prog 98 0 = some (0, 24) := by kernel_rfl
theorem tf98_1 : tfield Tryz.prog 98 1 = some (1, 25) := by kernel_rfl
theorem tf98_2 : tfield Tryz.prog 98 2 = some (2, 26) := by kernel_rfl
theorem tf98_3 : tfield Tryz.prog 98 3 = some (3, 29) := by kernel_rfl
theorem ti99 : tinfo Tryz.prog 99 = some ⟨4, 96, true, [(.slice none 0 0), (.slice none 0 0), (.slice none 0 0), (.slice none 0 0)]⟩ := by kernel_rfl
theorem tp99 : tplaces Tryz.prog 99 = some [(0, 1), (1, 1), (2, 1), (3, 1)] := by kernel_rfl
theorem tf99_0 : tfield Tryz.prog 99 0 = some (0, 24) := by kernel_rfl
theorem tf99_1 : tfield Tryz.prog 99 1 = some (1, 25) := by kernel_rfl
theorem tf99_2 : tfield Tryz.prog 99 2 = some (2, 26) := by kernel_rfl
theorem tf99_3 : tfield Tryz.prog 99 3 = some (3, 29) := by kernel_rfl
theorem ti100 : tinfo Tryz.prog 100 = some ⟨2, 16, true, [.int .i64 0, .int .i64 0]⟩ := by kernel_rfl
theorem tq100 : teq Tryz.prog 100 = some [.i, .i] := by kernel_rfl
theorem tp100 : tplaces Tryz.prog 100 = some [(0, 1), (1, 1)] := by kernel_rfl
theorem tf100_0 : tfield Tryz.prog 100 0 = some (0, 3) := by kernel_rfl
theorem tf100_1 : tfield Tryz.prog 100 1 = some (1, 3) := by kernel_rfl
theorem ti101 : tinfo Tryz.prog 101 = some ⟨2, 16, true, [.int .i64 0, .int .i64 0]⟩ := by kernel_rfl
theorem tq101 : teq Tryz.prog 101 = some [.i, .i] := by kernel_rfl
theorem tp101 : tplaces Tryz.prog 101 = some [(0, 1), (1, 1)] := by kernel_rfl
theorem tf101_0 : tfield Tryz.prog 101 0 = some (0, 3) := by kernel_rfl
theorem tf101_1 : tfield Tryz.prog 101 1 = some (1, 3) := by kernel_rfl
theorem ti102 : tinfo Tryz.prog 102 = some ⟨1, 8, false, [.nilFunc]⟩ := by kernel_rfl
theorem ti103 : tinfo Tryz.prog 103 = some ⟨1, 8, false, [.nilFunc]⟩ := by kernel_rfl
theorem ti104 : tinfo Tryz.prog 104 = some ⟨2, 24, true, [(.string ⟨[].toArray⟩), .int .i64 0]⟩ := by kernel_rfl
theorem tq104 : teq Tryz.prog 104 = some [.s, .i] := by kernel_rfl
theorem tp104 : tplaces Tryz.prog 104 = some [(0, 1), (1, 1)] := by kernel_rfl
theorem tf104_0 : tfield Tryz.prog 104 0 = some (0, 9) := by kernel_rfl
theorem tf104_1 : tfield Tryz.prog 104 1 = some (1, 3) := by kernel_rfl
theorem ti105 : tinfo Tryz.prog 105 = some ⟨2, 24, true, [(.string ⟨[].toArray⟩), .int .i64 0]⟩ := by kernel_rfl
theorem tq105 : teq Tryz.prog 105 = some [.s, .i] := by kernel_rfl
theorem tp105 : tplaces Tryz.prog 105 = some [(0, 1), (1, 1)] := by kernel_rfl
theorem tf105_0 : tfield Tryz.prog 105 0 = some (0, 9) := by kernel_rfl
theorem tf105_1 : tfield Tryz.prog 105 1 = some (1, 3) := by kernel_rfl
theorem ti106 : tinfo Tryz.prog 106 = some ⟨1, 8, false, [.nilFunc]⟩ := by kernel_rfl
theorem ti107 : tinfo Tryz.prog 107 = some ⟨1, 8, false, [.nilFunc]⟩ := by kernel_rfl
theorem ti108 : tinfo Tryz.prog 108 = some ⟨1, 8, false, [.nilFunc]⟩ := by kernel_rfl
theorem ti109 : tinfo Tryz.prog 109 = some ⟨1, 8, false, [.nilFunc]⟩ := by kernel_rfl
theorem ti110 : tinfo Tryz.prog 110 = some ⟨1, 8, false, [.nilFunc]⟩ := by kernel_rfl
theorem ti111 : tinfo Tryz.prog 111 = some ⟨1, 8, false, [.nilFunc]⟩ := by kernel_rfl
theorem ti112 : tinfo Tryz.prog 112 = some ⟨1, 8, false, [.nilFunc]⟩ := by kernel_rfl
theorem ti113 : tinfo Tryz.prog 113 = some ⟨2, 32, true, [(.slice none 0 0), .int .i64 0]⟩ := by kernel_rfl
theorem tp113 : tplaces Tryz.prog 113 = some [(0, 1), (1, 1)] := by kernel_rfl
theorem tf113_0 : tfield Tryz.prog 113 0 = some (0, 35) := by kernel_rfl
theorem tf113_1 : tfield Tryz.prog 113 1 = some (1, 3) := by kernel_rfl
theorem ti114 : tinfo Tryz.prog 114 = some ⟨2, 32, true, [(.slice none 0 0), .int .i64 0]⟩ := by kernel_rfl
theorem tp114 : tplaces Tryz.prog 114 = some [(0, 1), (1, 1)] := by kernel_rfl
theorem tf114_0 : tfield Tryz.prog 114 0 = some (0, 35) := by kernel_rfl
theorem tf114_1 : tfield Tryz.prog 114 1 = some (1, 3) := by kernel_rfl
theorem ti115 : tinfo Tryz.prog 115 = some ⟨1, 8, false, [.nilFunc]⟩ := by kernel_rfl
theorem ti116 : tinfo Tryz.prog 116 = some ⟨1, 8, false, [.nilFunc]⟩ := by kernel_rfl
theorem ti117 : tinfo Tryz.prog 117 = some ⟨1, 8, false, [.nilFunc]⟩ := by kernel_rfl
theorem ti118 : tinfo Tryz.prog 118 = some ⟨1, 24, false, [(.slice none 0 0)]⟩ := by kernel_rfl
theorem te118 : telem Tryz.prog 118 = some 25 := by kernel_rfl
theorem ti119 : tinfo Tryz.prog 119 = some ⟨1, 8, false, [.nilFunc]⟩ := by kernel_rfl
theorem ti120 : tinfo Tryz.prog 120 = some ⟨1, 8, false, [.nilFunc]⟩ := by kernel_rfl
theorem ti121 : tinfo Tryz.prog 121 = some ⟨1, 8, false, [.nilFunc]⟩ := by kernel_rfl
theorem ti122 : tinfo Tryz.prog 122 = some ⟨1, 8, false, [.nilFunc]⟩ := by kernel_rfl
theorem ti123 : tinfo Tryz.prog 123 = some ⟨1, 8, false, [.nilFunc]⟩ := by kernel_rfl
theorem ti124 : tinfo Tryz.prog 124 = some ⟨1, 8, false, [.nilFunc]⟩ := by kernel_rfl
theorem ti125 : tinfo Tryz.prog 125 = some ⟨1, 8, false, [.nilFunc]⟩ := by kernel_rfl
theorem ti126 : tinfo Tryz.prog 126 = some ⟨1, 8, false, [.nilFunc]⟩ := by kernel_rfl
theorem ti127 : tinfo Tryz.prog 127 = some ⟨1, 8, false, [.nilFunc]⟩ := by kernel_rfl
theorem ti128 : tinfo Tryz.prog 128 = some ⟨1, 8, false, [.nilFunc]⟩ := by kernel_rfl
theorem ti129 : tinfo Tryz.prog 129 = some ⟨1, 8, false, [.nilFunc]⟩ := by kernel_rfl
theorem ti130 : tinfo Tryz.prog 130 = some ⟨1, 8, false, [.nilFunc]⟩ := by kernel_rfl
theorem ti131 : tinfo Tryz.prog 131 = some ⟨1, 24, false, [(.slice none 0 0)]⟩ := by kernel_rfl
theorem te131 : telem Tryz.prog 131 = some 9 := by kernel_rfl
theorem ti132 : tinfo Tryz.prog 132 = some ⟨1, 8, false, [.nilFunc]⟩ := by kernel_rfl
theorem ti133 : tinfo Tryz.prog 133 = some ⟨1, 8, false, [.nilFunc]⟩ := by kernel_rfl
theorem ti134 : tinfo Tryz.prog 134 = some ⟨1, 8, false, [.nilFunc]⟩ := by kernel_rfl
theorem ti135 : tinfo Tryz.prog 135 = some ⟨1, 8, false, [.nilFunc]⟩ := by kernel_rfl
theorem ti136 : tinfo Tryz.prog 136 = some ⟨1, 8, false, [.int .u64 0]⟩ := by kernel_rfl
theorem tk136 : tint Tryz.prog 136 = some .u64 := by kernel_rfl
theorem tz136 : tsome Tryz.prog 136 = true := by kernel_rfl
theorem ti137 : tinfo Tryz.prog 137 = some ⟨1, 8, false, [.nilFunc]⟩ := by kernel_rfl
theorem ti138 : tinfo Tryz.prog 138 = some ⟨1, 8, false, [.nilFunc]⟩ := by kernel_rfl
theorem ti139 : tinfo Tryz.prog 139 = some ⟨1, 8, false, [.nilFunc]⟩ := by kernel_rfl
theorem ti140 : tinfo Tryz.prog 140 = some ⟨1, 8, false, [.nilFunc]⟩ := by kernel_rfl
theorem ti141 : tinfo Tryz.prog 141 = some ⟨1, 8, false, [.nilFunc]⟩ := by kernel_rfl
theorem ti142 : tinfo Tryz.prog 142 = some ⟨1, 8, false, [.nilFunc]⟩ := by kernel_rfl
theorem ti143 : tinfo Tryz.prog 143 = some ⟨1, 8, false, [.int .i64 0]⟩ := by kernel_rfl
theorem tk143 : tint Tryz.prog 143 = some .i64 := by kernel_rfl
theorem ti145 : tinfo Tryz.prog 145 = some ⟨1, 8, false, [.nilFunc]⟩ := by kernel_rfl
theorem ti146 : tinfo Tryz.prog 146 = some ⟨1, 8, false, [.nilFunc]⟩ := by kernel_rfl
theorem ti147 : tinfo Tryz.prog 147 = some ⟨1, 8, false, [.nilFunc]⟩ := by kernel_rfl
theorem ti149 : tinfo Tryz.prog 149 = some ⟨1, 8, false, [.nilFunc]⟩ := by kernel_rfl
theorem ti150 : tinfo Tryz.prog 150 = some ⟨1, 8, false, [.nilFunc]⟩ := by kernel_rfl
theorem ti151 : tinfo Tryz.prog 151 = some ⟨1, 4, false, [.int .u32 0]⟩ := by kernel_rfl
theorem tk151 : tint Tryz.prog 151 = some .u32 := by kernel_rfl
theorem tz151 : tsome Tryz.prog 151 = true := by kernel_rfl
theorem ti152 : tinfo Tryz.prog 152 = some ⟨1, 8, false, [.nilFunc]⟩ := by kernel_rfl
theorem ti153 : tinfo Tryz.prog 153 = some ⟨1, 8, false, [.int .u64 0]⟩ := by kernel_rfl
theorem tk153 : tint Tryz.prog 153 = some .u64 := by kernel_rfl
theorem tz153 : tsome Tryz.prog 153 = true := by kernel_rfl
theorem ti154 : tinfo Tryz.prog 154 = some ⟨1, 8, false, [.pointer none]⟩ := by kernel_rfl
theorem ti155 : tinfo Tryz.prog 155 = some ⟨1, 8, false, [.nilFunc]⟩ := by kernel_rfl
theorem ti156 : tinfo Tryz.prog 156 = some ⟨1, 8, false, [.nilFunc]⟩ := by kernel_rfl
theorem ti157 : tinfo Tryz.prog 157 = some ⟨1, 8, false, [.nilFunc]⟩ := by kernel_rfl
theorem ti158 : tinfo Tryz.prog 158 = some ⟨1, 8, false, [.int .u64 0]⟩ := by kernel_rfl
theorem tk158 : tint Tryz.prog 158 = some .u64 := by kernel_rfl
theorem ti159 : tinfo Tryz.prog 159 = some ⟨1, 8, false, [.nilFunc]⟩ := by kernel_rfl
theorem ti160 : tinfo Tryz.prog 160 = some ⟨1, 8, false, [.nilFunc]⟩ := by kernel_rfl
theorem ti161 : tinfo Tryz.prog 161 = some ⟨1, 8, false, [.nilFunc]⟩ := by kernel_rfl
theorem ti162 : tinfo Tryz.prog 162 = some ⟨1, 8, false, [.pointer none]⟩ := by kernel_rfl
theorem ti163 : tinfo Tryz.prog 163 = some ⟨1, 8, false, [.nilFunc]⟩ := by kernel_rfl
theorem ti164 : tinfo Tryz.prog 164 = some ⟨1, 8, false, [.nilFunc]⟩ := by kernel_rfl
theorem ti165 : tinfo Tryz.prog 165 = some ⟨1, 8, false, [.pointer none]⟩ := by kernel_rfl
theorem ti167 : tinfo Tryz.prog 167 = some ⟨1, 8, false, [.nilFunc]⟩ := by kernel_rfl
theorem ti168 : tinfo Tryz.prog 168 = some ⟨1, 8, false, [.nilFunc]⟩ := by kernel_rfl
theorem ti174 : tinfo Tryz.prog 174 = some ⟨1, 8, false, [.nilFunc]⟩ := by kernel_rfl
theorem ti178 : tinfo Tryz.prog 178 = some ⟨1, 8, false, [.pointer none]⟩ := by kernel_rfl
theorem fp13_0 {b sz i j : Nat} : fieldAddrA Tryz.prog 13 (.ptr b sz i j) 0 = some (.ptr b sz i (j + 0)) := fa_p tf13_0 ti9 (by decide)
theorem fv13_0 {es : List (List AV)} {i j : Nat} : fieldAddrA Tryz.prog 13 (.vptr es i j) 0 = some (.vptr es i (j + 0)) := fa_v tf13_0 ti9 (by decide)
theorem fp13_1 {b sz i j : Nat} : fieldAddrA Tryz.prog 13 (.ptr b sz i j) 1 = some (.ptr b sz i (j + 1)) := fa_p tf13_1 ti12 (by decide)
theorem fv13_1 {es : List (List AV)} {i j : Nat} : fieldAddrA Tryz.prog 13 (.vptr es i j) 1 = some (.vptr es i (j + 1)) := fa_v tf13_1 ti12 (by decide)
theorem fp23_0 {b sz i j : Nat} : fieldAddrA Tryz.prog 23 (.ptr b sz i j) 0 = some (.ptr b sz i (j + 0)) := fa_p tf23_0 ti22 (by decide)
theorem fv23_0 {es : List (List AV)} {i j : Nat} : fieldAddrA Tryz.prog 23 (.vptr es i j) 0 = some (.vptr es i (j + 0)) := fa_v tf23_0 ti22 (by decide)
theorem fp24_0 {b sz i j : Nat} : fieldAddrA Tryz.prog 24 (.ptr b sz i j) 0 = some (.ptr b sz i (j + 0)) := fa_p tf24_0 ti22 (by decide)
theorem fv24_0 {es : List (List AV)} {i j : Nat} : fieldAddrA Tryz.prog 24 (.vptr es i j) 0 = some (.vptr es i (j + 0)) := fa_v tf24_0 ti22 (by decide)
theorem fp28_0 {b sz i j : Nat} : fieldAddrA Tryz.prog 28 (.ptr b sz i j) 0 = some (.ptr b sz i (j + 0)) := fa_p tf28_0 ti27 (by decide)
theorem fv28_0 {es : List (List AV)} {i j : Nat} : fieldAddrA Tryz.prog 28 (.vptr es i j) 0 = some (.vptr es i (j + 0)) := fa_v tf28_0 ti27 (by decide)
theorem fp29_0 {b sz i j : Nat} : fieldAddrA Tryz.prog 29 (.ptr b sz i j) 0 = some (.ptr b sz i (j + 0)) := fa_p tf29_0 ti27 (by decide)
theorem fv29_0 {es : List (List AV)} {i j : Nat} : fieldAddrA Tryz.prog 29 (.vptr es i j) 0 = some (.vptr es i (j + 0)) := fa_v tf29_0 ti27 (by decide)
theorem fp30_0 {b sz i j : Nat} : fieldAddrA Tryz.prog 30 (.ptr b sz i j) 0 = some (.ptr b sz i (j + 0)) := fa_p tf30_0 ti26 (by decide)
theorem fv30_0 {es : List (List AV)} {i j : Nat} : fieldAddrA Tryz.prog 30 (.vptr es i j) 0 = some (.vptr es i (j + 0)) := fa_v tf30_0 ti26 (by decide)
theorem fp30_1 {b sz i j : Nat} : fieldAddrA Tryz.prog 30 (.ptr b sz i j) 1 = some (.ptr b sz i (j + 1)) := fa_p tf30_1 ti3 (by decide)
theorem fv30_1 {es : List (List AV)} {i j : Nat} : fieldAddrA Tryz.prog 30 (.vptr es i j) 1 = some (.vptr es i (j + 1)) := fa_v tf30_1 ti3 (by decide)
theorem fp30_2 {b sz i j : Nat} : fieldAddrA Tryz.prog 30 (.ptr b sz i j) 2 = some (.ptr b sz i (j + 2)) := fa_p tf30_2 ti3 (by decide)
theorem fv30_2 {es : List (List AV)} {i j : Nat} : fieldAddrA Tryz.prog 30 (.vptr es i j) 2 = some (.vptr es i (j + 2)) := fa_v tf30_2 ti3 (by decide)
theorem fp30_3 {b sz i j : Nat} : fieldAddrA Tryz.prog 30 (.ptr b sz i j) 3 = some (.ptr b sz i (j + 3)) := fa_p tf30_3 ti29 (by decide)
theorem fv30_3 {es : List (List AV)} {i j : Nat} : fieldAddrA Tryz.prog 30 (.vptr es i j) 3 = some (.vptr es i (j + 3)) := fa_v tf30_3 ti29 (by decide)
theorem fp31_0 {b sz i j : Nat} : fieldAddrA Tryz.prog 31 (.ptr b sz i j) 0 = some (.ptr b sz i (j + 0)) := fa_p tf31_0 ti26 (by decide)
theorem fv31_0 {es : List (List AV)} {i j : Nat} : fieldAddrA Tryz.prog 31 (.vptr es i j) 0 = some (.vptr es i (j + 0)) := fa_v tf31_0 ti26 (by decide)
theorem fp31_1 {b sz i j : Nat} : fieldAddrA Tryz.prog 31 (.ptr b sz i j) 1 = some (.ptr b sz i (j + 1)) := fa_p tf31_1 ti3 (by decide)
theorem fv31_1 {es : List (List AV)} {i j : Nat} : fieldAddrA Tryz.prog 31 (.vptr es i j) 1 = some (.vptr es i (j + 1)) := fa_v tf31_1 ti3 (by decide)
theorem fp31_2 {b sz i j : Nat} : fieldAddrA Tryz.prog 31 (.ptr b sz i j) 2 = some (.ptr b sz i (j + 2)) := fa_p tf31_2 ti3 (by decide)
theorem fv31_2 {es : List (List AV)} {i j : Nat} : fieldAddrA Tryz.prog 31 (.vptr es i j) 2 = some (.vptr es i (j + 2)) := fa_v tf31_2 ti3 (by decide)
theorem fp31_3 {b sz i j : Nat} : fieldAddrA Tryz.prog 31 (.ptr b sz i j) 3 = some (.ptr b sz i (j + 3)) := fa_p tf31_3 ti29 (by decide)
theorem fv31_3 {es : List (List AV)} {i j : Nat} : fieldAddrA Tryz.prog 31 (.vptr es i j) 3 = some (.vptr es i (j + 3)) := fa_v tf31_3 ti29 (by decide)
theorem fp49_0 {b sz i j : Nat} : fieldAddrA Tryz.prog 49 (.ptr b sz i j) 0 = some (.ptr b sz i (j + 0)) := fa_p tf49_0 ti3 (by decide)
theorem fv49_0 {es : List (List AV)} {i j : Nat} : fieldAddrA Tryz.prog 49 (.vptr es i j) 0 = some (.vptr es i (j + 0)) := fa_v tf49_0 ti3 (by decide)
theorem fp49_1 {b sz i j : Nat} : fieldAddrA Tryz.prog 49 (.ptr b sz i j) 1 = some (.ptr b sz i (j + 1)) := fa_p tf49_1 ti3 (by decide)
theorem fv49_1 {es : List (List AV)} {i j : Nat} : fieldAddrA Tryz.prog 49 (.vptr es i j) 1 = some (.vptr es i (j + 1)) := fa_v tf49_1 ti3 (by decide)
theorem fp49_2 {b sz i j : Nat} : fieldAddrA Tryz.prog 49 (.ptr b sz i j) 2 = some (.ptr b sz i (j + 2)) := fa_p tf49_2 ti3 (by decide)
theorem fv49_2 {es : List (List AV)} {i j : Nat} : fieldAddrA Tryz.prog 49 (.vptr es i j) 2 = some (.vptr es i (j + 2)) := fa_v tf49_2 ti3 (by decide)
theorem fp49_3 {b sz i j : Nat} : fieldAddrA Tryz.prog 49 (.ptr b sz i j) 3 = some (.ptr b sz i (j + 3)) := fa_p tf49_3 ti3 (by decide)
theorem fv49_3 {es : List (List AV)} {i j : Nat} : fieldAddrA Tryz.prog 49 (.vptr es i j) 3 = some (.vptr es i (j + 3)) := fa_v tf49_3 ti3 (by decide)
theorem fp50_0 {b sz i j : Nat} : fieldAddrA Tryz.prog 50 (.ptr b sz i j) 0 = some (.ptr b sz i (j + 0)) := fa_p tf50_0 ti3 (by decide)
theorem fv50_0 {es : List (List AV)} {i j : Nat} : fieldAddrA Tryz.prog 50 (.vptr es i j) 0 = some (.vptr es i (j + 0)) := fa_v tf50_0 ti3 (by decide)
theorem fp50_1 {b sz i j : Nat} : fieldAddrA Tryz.prog 50 (.ptr b sz i j) 1 = some (.ptr b sz i (j + 1)) := fa_p tf50_1 ti3 (by decide)
theorem fv50_1 {es : List (List AV)} {i j : Nat} : fieldAddrA Tryz.prog 50 (.vptr es i j) 1 = some (.vptr es i (j + 1)) := fa_v tf50_1 ti3 (by decide)
theorem fp50_2 {b sz i j : Nat} : fieldAddrA Tryz.prog 50 (.ptr b sz i j) 2 = some (.ptr b sz i (j + 2)) := fa_p tf50_2 ti3 (by decide)
theorem fv50_2 {es : List (List AV)} {i j : Nat} : fieldAddrA Tryz.prog 50 (.vptr es i j) 2 = some (.vptr es i (j + 2)) := fa_v tf50_2 ti3 (by decide)
theorem fp50_3 {b sz i j : Nat} : fieldAddrA Tryz.prog 50 (.ptr b sz i j) 3 = some (.ptr b sz i (j + 3)) := fa_p tf50_3 ti3 (by decide)
theorem fv50_3 {es : List (List AV)} {i j : Nat} : fieldAddrA Tryz.prog 50 (.vptr es i j) 3 = some (.vptr es i (j + 3)) := fa_v tf50_3 ti3 (by decide)
theorem fp58_0 {b sz i j : Nat} : fieldAddrA Tryz.prog 58 (.ptr b sz i j) 0 = some (.ptr b sz i (j + 0)) := fa_p tf58_0 ti3 (by decide)
theorem fv58_0 {es : List (List AV)} {i j : Nat} : fieldAddrA Tryz.prog 58 (.vptr es i j) 0 = some (.vptr es i (j + 0)) := fa_v tf58_0 ti3 (by decide)
theorem fp58_1 {b sz i j : Nat} : fieldAddrA Tryz.prog 58 (.ptr b sz i j) 1 = some (.ptr b sz i (j + 1)) := fa_p tf58_1 ti3 (by decide)
theorem fv58_1 {es : List (List AV)} {i j : Nat} : fieldAddrA Tryz.prog 58 (.vptr es i j) 1 = some (.vptr es i (j + 1)) := fa_v tf58_1 ti3 (by decide)
theorem fp59_0 {b sz i j : Nat} : fieldAddrA Tryz.prog 59 (.ptr b sz i j) 0 = some (.ptr b sz i (j + 0)) := fa_p tf59_0 ti3 (by decide)
theorem fv59_0 {es : List (List AV)} {i j : Nat} : fieldAddrA Tryz.prog 59 (.vptr es i j) 0 = some (.vptr es i (j + 0)) := fa_v tf59_0 ti3 (by decide)
theorem fp59_1 {b sz i j : Nat} : fieldAddrA Tryz.prog 59 (.ptr b sz i j) 1 = some (.ptr b sz i (j + 1)) := fa_p tf59_1 ti3 (by decide)
theorem fv59_1 {es : List (List AV)} {i j : Nat} : fieldAddrA Tryz.prog 59 (.vptr es i j) 1 = some (.vptr es i (j + 1)) := fa_v tf59_1 ti3 (by decide)
theorem fp79_0 {b sz i j : Nat} : fieldAddrA Tryz.prog 79 (.ptr b sz i j) 0 = some (.ptr b sz i (j + 0)) := fa_p tf79_0 ti3 (by decide)
theorem fv79_0 {es : List (List AV)} {i j : Nat} : fieldAddrA Tryz.prog 79 (.vptr es i j) 0 = some (.vptr es i (j + 0)) := fa_v tf79_0 ti3 (by decide)
theorem fp79_1 {b sz i j : Nat} : fieldAddrA Tryz.prog 79 (.ptr b sz i j) 1 = some (.ptr b sz i (j + 1)) := fa_p tf79_1 ti3 (by decide)
theorem fv79_1 {es : List (List AV)} {i j : Nat} : fieldAddrA Tryz.prog 79 (.vptr es i j) 1 = some (.vptr es i (j + 1)) := fa_v tf79_1 ti3 (by decide)
theorem fp79_2 {b sz i j : Nat} : fieldAddrA Tryz.prog 79 (.ptr b sz i j) 2 = some (.ptr b sz i (j + 2)) := fa_p tf79_2 ti3 (by decide)
theorem fv79_2 {es : List (List AV)} {i j : Nat} : fieldAddrA Tryz.prog 79 (.vptr es i j) 2 = some (.vptr es i (j + 2)) := fa_v tf79_2 ti3 (by decide)
theorem fp79_3 {b sz i j : Nat} : fieldAddrA Tryz.prog 79 (.ptr b sz i j) 3 = some (.ptr b sz i (j + 3)) := fa_p tf79_3 ti3 (by decide)
theorem fv79_3 {es : List (List AV)} {i j : Nat} : fieldAddrA Tryz.prog 79 (.vptr es i j) 3 = some (.vptr es i (j + 3)) := fa_v tf79_3 ti3 (by decide)
theorem fp79_4 {b sz i j : Nat} : fieldAddrA Tryz.prog 79 (.ptr b sz i j) 4 = some (.ptr b sz i (j + 4)) := fa_p tf79_4 ti4 (by decide)
theorem fv79_4 {es : List (List AV)} {i j : Nat} : fieldAddrA Tryz.prog 79 (.vptr es i j) 4 = some (.vptr es i (j + 4)) := fa_v tf79_4 ti4 (by decide)
theorem fp80_0 {b sz i j : Nat} : fieldAddrA Tryz.prog 80 (.ptr b sz i j) 0 = some (.ptr b sz i (j + 0)) := fa_p tf80_0 ti3 (by decide)
theorem fv80_0 {es : List (List AV)} {i j : Nat} : fieldAddrA Tryz.prog 80 (.vptr es i j) 0 = some (.vptr es i (j + 0)) := fa_v tf80_0 ti3 (by decide)
theorem fp80_1 {b sz i j : Nat} : fieldAddrA Tryz.prog 80 (.ptr b sz i j) 1 = some (.ptr b sz i (j + 1)) := fa_p tf80_1 ti3 (by decide)
theorem fv80_1 {es : List (List AV)} {i j : Nat} : fieldAddrA Tryz.prog 80 (.vptr es i j) 1 = some (.vptr es i (j + 1)) := fa_v tf80_1 ti3 (by decide)
theorem fp80_2 {b sz i j : Nat} : fieldAddrA Tryz.prog 80 (.ptr b sz i j) 2 = some (.ptr b sz i (j + 2)) := fa_p tf80_2 ti3 (by decide)
theorem fv80_2 {es : List (List AV)} {i j : Nat} : fieldAddrA Tryz.prog 80 (.vptr es i j) 2 = some (.vptr es i (j + 2)) := fa_v tf80_2 ti3 (by decide)
theorem fp80_3 {b sz i j : Nat} : fieldAddrA Tryz.prog 80 (.ptr b sz i j) 3 = some (.ptr b sz i (j + 3)) := fa_p tf80_3 ti3 (by decide)
theorem fv80_3 {es : List (List AV)} {i j : Nat} : fieldAddrA Tryz.prog 80 (.vptr es i j) 3 = some (.vptr es i (j + 3)) := fa_v tf80_3 ti3 (by decide)
theorem fp80_4 {b sz i j : Nat} : fieldAddrA Tryz.prog 80 (.ptr b sz i j) 4 = some (.ptr b sz i (j + 4)) := fa_p tf80_4 ti4 (by decide)
theorem fv80_4 {es : List (List AV)} {i j : Nat} : fieldAddrA Tryz.prog 80 (.vptr es i j) 4 = some (.vptr es i (j + 4)) := fa_v tf80_4 ti4 (by decide)
theorem fp89_0 {b sz i j : Nat} : fieldAddrA Tryz.prog 89 (.ptr b sz i j) 0 = some (.ptr b sz i (j + 0)) := fa_p tf89_0 ti24 (by decide)
theorem fv89_0 {es : List (List AV)} {i j : Nat} : fieldAddrA Tryz.prog 89 (.vptr es i j) 0 = some (.vptr es i (j + 0)) := fa_v tf89_0 ti24 (by decide)
theorem fp89_1 {b sz i j : Nat} : fieldAddrA Tryz.prog 89 (.ptr b sz i j) 1 = some (.ptr b sz i (j + 1)) := fa_p tf89_1 ti25 (by decide)
theorem fv89_1 {es : List (List AV)} {i j : Nat} : fieldAddrA Tryz.prog 89 (.vptr es i j) 1 = some (.vptr es i (j + 1)) := fa_v tf89_1 ti25 (by decide)
theorem fp89_2 {b sz i j : Nat} : fieldAddrA Tryz.prog 89 (.ptr b sz i j) 2 = some (.ptr b sz i (j + 2)) := fa_p tf89_2 ti26 (by decide)
theorem fv89_2 {es : List (List AV)} {i j : Nat} : fieldAddrA Tryz.prog 89 (.vptr es i j) 2 = some (.vptr es i (j + 2)) := fa_v tf89_2 ti26 (by decide)
theorem fp89_3 {b sz i j : Nat} : fieldAddrA Tryz.prog 89 (.ptr b sz i j) 3 = some (.ptr b sz i (j + 3)) := fa_p tf89_3 ti29 (by decide)
theorem fv89_3 {es : List (List AV)} {i j : Nat} : fieldAddrA Tryz.prog 89 (.vptr es i j) 3 = some (.vptr es i (j + 3)) := fa_v tf89_3 ti29 (by decide)
theorem fp89_4 {b sz i j : Nat} : fieldAddrA Tryz.prog 89 (.ptr b sz i j) 4 = some (.ptr b sz i (j + 4)) := fa_p tf89_4 ti3 (by decide)
theorem fv89_4 {es : List (List AV)} {i j : Nat} : fieldAddrA Tryz.prog 89 (.vptr es i j) 4 = some (.vptr es i (j + 4)) := fa_v tf89_4 ti3 (by decide)
theorem fp90_0 {b sz i j : Nat} : fieldAddrA Tryz.prog 90 (.ptr b sz i j) 0 = some (.ptr b sz i (j + 0)) := fa_p tf90_0 ti24 (by decide)
theorem fv90_0 {es : List (List AV)} {i j : Nat} : fieldAddrA Tryz.prog 90 (.vptr es i j) 0 = some (.vptr es i (j + 0)) := fa_v tf90_0 ti24 (by decide)
theorem fp90_1 {b sz i j : Nat} : fieldAddrA Tryz.prog 90 (.ptr b sz i j) 1 = some (.ptr b sz i (j + 1)) := fa_p tf90_1 ti25 (by decide)
theorem fv90_1 {es : List (List AV)} {i j : Nat} : fieldAddrA Tryz.prog 90 (.vptr es i j) 1 = some (.vptr es i (j + 1)) := fa_v tf90_1 ti25 (by decide)
theorem fp90_2 {b sz i j : Nat} : fieldAddrA Tryz.prog 90 (.ptr b sz i j) 2 = some (.ptr b sz i (j + 2)) := fa_p tf90_2 ti26 (by decide)
theorem fv90_2 {es : List (List AV)} {i j : Nat} : fieldAddrA Tryz.prog 90 (.vptr es i j) 2 = some (.vptr es i (j + 2)) := fa_v tf90_2 ti26 (by decide)
theorem fp90_3 {b sz i j : Nat} : fieldAddrA Tryz.prog 90 (.ptr b sz i j) 3 = some (.ptr b sz i (j + 3)) := fa_p tf90_3 ti29 (by decide)
theorem fv90_3 {es : List (List AV)} {i j : Nat} : fieldAddrA Tryz.prog 90 (.vptr es i j) 3 = some (.vptr es i (j + 3)) := fa_v tf90_3 ti29 (by decide)
theorem fp90_4 {b sz i j : Nat} : fieldAddrA Tryz.prog 90 (.ptr b sz i j) 4 = some (.ptr b sz i (j + 4)) := fa_p tf90_4 ti3 (by decide)
theorem fv90_4 {es : List (List AV)} {i j : Nat} : fieldAddrA Tryz.prog 90 (.vptr es i j) 4 = some (.vptr es i (j + 4)) := fa_v tf90_4 ti3 (by decide)
theorem fp98_0 {b sz i j : Nat} : fieldAddrA Tryz.prog 98 (.ptr b sz i j) 0 = some (.ptr b sz i (j + 0)) := fa_p tf98_0 ti24 (by decide)
theorem fv98_0 {es : List (List AV)} {i j : Nat} : fieldAddrA Tryz.prog 98 (.vptr es i j) 0 = some (.vptr es i (j + 0)) := fa_v tf98_0 ti24 (by decide)
theorem fp98_1 {b sz i j : Nat} : fieldAddrA Tryz.prog 98 (.ptr b sz i j) 1 = some (.ptr b sz i (j + 1)) := fa_p tf98_1 ti25 (by decide)
theorem fv98_1 {es : List (List AV)} {i j : Nat} : fieldAddrA Tryz.prog 98 (.vptr es i j) 1 = some (.vptr es i (j + 1)) := fa_v tf98_1 ti25 (by decide)
theorem fp98_2 {b sz i j : Nat} : fieldAddrA Tryz.prog 98 (.ptr b sz i j) 2 = some (.ptr b sz i (j + 2)) := fa_p tf98_2 ti26 (by decide)
theorem fv98_2 {es : List (List AV)} {i j : Nat} : fieldAddrA Tryz.prog 98 (.vptr es i j) 2 = some (.vptr es i (j + 2)) := fa_v tf98_2 ti26 (by decide)
theorem fp98_3 {b sz i j : Nat} : fieldAddrA Tryz.prog 98 (.ptr b sz i j) 3 = some (.ptr b sz i (j + 3)) := fa_p tf98_3 ti29 (by decide)
theorem fv98_3 {es : List (List AV)} {i j : Nat} : fieldAddrA Tryz.prog 98 (.vptr es i j) 3 = some (.vptr es i (j + 3)) := fa_v tf98_3 ti29 (by decide)
theorem fp99_0 {b sz i j : Nat} : fieldAddrA Tryz.prog 99 (.ptr b sz i j) 0 = some (.ptr b sz i (j + 0)) := fa_p tf99_0 ti24 (by decide)
theorem fv99_0 {es : List (List AV)} {i j : Nat} : fieldAddrA Tryz.prog 99 (.vptr es i j) 0 = some (.vptr es i (j + 0)) := fa_v tf99_0 ti24 (by decide)
theorem fp99_1 {b sz i j : Nat} : fieldAddrA Tryz.prog 99 (.ptr b sz i j) 1 = some (.ptr b sz i (j + 1)) := fa_p tf99_1 ti25 (by decide)
theorem fv99_1 {es : List (List AV)} {i j : Nat} : fieldAddrA Tryz.prog 99 (.vptr es i j) 1 = some (.vptr es i (j + 1)) := fa_v tf99_1 ti25 (by decide)
theorem fp99_2 {b sz i j : Nat} : fieldAddrA Tryz.prog 99 (.ptr b sz i j) 2 = some (.ptr b sz i (j + 2)) := fa_p tf99_2 ti26 (by decide)
theorem fv99_2 {es : List (List AV)} {i j : Nat} : fieldAddrA Tryz.prog 99 (.vptr es i j) 2 = some (.vptr es i (j + 2)) := fa_v tf99_2 ti26 (by decide)
theorem fp99_3 {b sz i j : Nat} : fieldAddrA Tryz.prog 99 (.ptr b sz i j) 3 = some (.ptr b sz i (j + 3)) := fa_p tf99_3 ti29 (by decide)
theorem fv99_3 {es : List (List AV)} {i j : Nat} : fieldAddrA Tryz.prog 99 (.vptr es i j) 3 = some (.vptr es i (j + 3)) := fa_v tf99_3 ti29 (by decide)
theorem fp100_0 {b sz i j : Nat} : fieldAddrA Tryz.prog 100 (.ptr b sz i j) 0 = some (.ptr b sz i (j + 0)) := fa_p tf100_0 ti3 (by decide)
theorem fv100_0 {es : List (List AV)} {i j : Nat} : fieldAddrA Tryz.prog 100 (.vptr es i j) 0 = some (.vptr es i (j + 0)) := fa_v tf100_0 ti3 (by decide)
theorem fp100_1 {b sz i j : Nat} : fieldAddrA Tryz.prog 100 (.ptr b sz i j) 1 = some (.ptr b sz i (j + 1)) := fa_p tf100_1 ti3 (by decide)
theorem fv100_1 {es : List (List AV)} {i j : Nat} : fieldAddrA Tryz.prog 100 (.vptr es i j) 1 = some (.vptr es i (j + 1)) := fa_v tf100_1 ti3 (by decide)
theorem fp101_0 {b sz i j : Nat} : fieldAddrA Tryz.prog 101 (.ptr b sz i j) 0 = some (.ptr b sz i (j + 0)) := fa_p tf101_0 ti3 (by decide)
theorem fv101_0 {es : List (List AV)} {i j : Nat} : fieldAddrA Tryz.prog 101 (.vptr es i j) 0 = some (.vptr es i (j + 0)) := fa_v tf101_0 ti3 (by decide)
theorem fp101_1 {b sz i j : Nat} : fieldAddrA Tryz.prog 101 (.ptr b sz i j) 1 = some (.ptr b sz i (j + 1)) := fa_p tf101_1 ti3 (by decide)
theorem fv101_1 {es : List (List AV)} {i j : Nat} : fieldAddrA Tryz.prog 101 (.vptr es i j) 1 = some (.vptr es i (j + 1)) := fa_v tf101_1 ti3 (by decide)
theorem fp104_0 {b sz i j : Nat} : fieldAddrA Tryz.prog 104 (.ptr b sz i j) 0 = some (.ptr b sz i (j + 0)) := fa_p tf104_0 ti9 (by decide)
theorem fv104_0 {es : List (List AV)} {i j : Nat} : fieldAddrA Tryz.prog 104 (.vptr es i j) 0 = some (.vptr es i (j + 0)) := fa_v tf104_0 ti9 (by decide)
theorem fp104_1 {b sz i j : Nat} : fieldAddrA Tryz.prog 104 (.ptr b sz i j) 1 = some (.ptr b sz i (j + 1)) := fa_p tf104_1 ti3 (by decide)
theorem fv104_1 {es : List (List AV)} {i j : Nat} : fieldAddrA Tryz.prog 104 (.vptr es i j) 1 = some (.vptr es i (j + 1)) := fa_v tf104_1 ti3 (by decide)
theorem fp105_0 {b sz i j : Nat} : fieldAddrA Tryz.prog 105 (.ptr b sz i j) 0 = some (.ptr b sz i (j + 0)) := fa_p tf105_0 ti9 (by decide)
theorem fv105_0 {es : List (List AV)} {i j : Nat} : fieldAddrA Tryz.prog 105 (.vptr es i j) 0 = some (.vptr es i (j + 0)) := fa_v tf105_0 ti9 (by decide)
theorem fp105_1 {b sz i j : Nat} : fieldAddrA Tryz.prog 105 (.ptr b sz i j) 1 = some (.ptr b sz i (j + 1)) := fa_p tf105_1 ti3 (by decide)
theorem fv105_1 {es : List (List AV)} {i j : Nat} : fieldAddrA Tryz.prog 105 (.vptr es i j) 1 = some (.vptr es i (j + 1)) := fa_v tf105_1 ti3 (by decide)
theorem fp113_0 {b sz i j : Nat} : fieldAddrA Tryz.prog 113 (.ptr b sz i j) 0 = some (.ptr b sz i (j + 0)) := fa_p tf113_0 ti35 (by decide)
theorem fv113_0 {es : List (List AV)} {i j : Nat} : fieldAddrA Tryz.prog 113 (.vptr es i j) 0 = some (.vptr es i (j + 0)) := fa_v tf113_0 ti35 (by decide)
theorem fp113_1 {b sz i j : Nat} : fieldAddrA Tryz.prog 113 (.ptr b sz i j) 1 = some (.ptr b sz i (j + 1)) := fa_p tf113_1 ti3 (by decide)
theorem fv113_1 {es : List (List AV)} {i j : Nat} : fieldAddrA Tryz.prog 113 (.vptr es i j) 1 = some (.vptr es i (j + 1)) := fa_v tf113_1 ti3 (by decide)
theorem fp114_0 {b sz i j : Nat} : fieldAddrA Tryz.prog 114 (.ptr b sz i j) 0 = some (.ptr b sz i (j + 0)) := fa_p tf114_0 ti35 (by decide)
theorem fv114_0 {es : List (List AV)} {i j : Nat} : fieldAddrA Tryz.prog 114 (.vptr es i j) 0 = some (.vptr es i (j + 0)) := fa_v tf114_0 ti35 (by decide)
theorem fp114_1 {b sz i j : Nat} : fieldAddrA Tryz.prog 114 (.ptr b sz i j) 1 = some (.ptr b sz i (j + 1)) := fa_p tf114_1 ti3 (by decide)
theorem fv114_1 {es : List (List AV)} {i j : Nat} : fieldAddrA Tryz.prog 114 (.vptr es i j) 1 = some (.vptr es i (j + 1)) := fa_v tf114_1 ti3 (by decide)
theorem lv22 {es : List (List AV)} {cl : Bool} : lenA Tryz.prog 22 (.vsl es cl) = some (I es.length) := lenV te22
theorem ll22 {b sz off len : Nat} {cl : Bool} : lenA Tryz.prog 22 (.sl b sz off len cl) = some (I len) := lenL te22
theorem is22 {b off len : Nat} {cl : Bool} {kd : IntKind} {n : Int} : indexAddrA Tryz.prog 22 (.sl b 2 off len cl) (.lit (.int kd n)) = if 0 ≤ n ∧ n < len then some (.ptr b 2 (off + n.toNat) 0) else none := ixs te22 ti105
theorem ix22 {l : List Class} {cl : Bool} {kd : IntKind} {n : Int} : indexAddrA Tryz.prog 22 (.vsl (l.map rClass) cl) (.lit (.int kd n)) = if 0 ≤ n ∧ n < l.length then some (.vptr (l.map rClass) n.toNat 0) else none := ixv te22 ti105 rClass_len (by decide)
theorem sh22 {l : List Class} {cl : Bool} {h : Int} {ka : IntKind} : sliceA Tryz.prog 22 (.vsl (l.map rClass) cl) none (some (.lit (.int ka h))) none = if 0 ≤ h ∧ h ≤ l.length then some (.vsl ((l.take h.toNat).map rClass) (clipOf none h l.length cl)) else none := sl_hi te22 ti105 rClass_len
theorem so22 {l : List Class} {cl : Bool} {lo : Int} {ka : IntKind} : sliceA Tryz.prog 22 (.vsl (l.map rClass) cl) (some (.lit (.int ka lo))) none none = if 0 ≤ lo ∧ lo ≤ l.length then some (.vsl ((l.drop lo.toNat).map rClass) cl) else none := sl_lo te22 ti105 rClass_len
theorem sb22 {l : List Class} {cl : Bool} {lo h : Int} {ka kb : IntKind} : sliceA Tryz.prog 22 (.vsl (l.map rClass) cl) (some (.lit (.int ka lo))) (some (.lit (.int kb h))) none = if 0 ≤ lo ∧ lo ≤ h ∧ h ≤ l.length then some (.vsl (((l.take h.toNat).drop lo.toNat).map rClass) (clipOf none h l.length cl)) else none := sl_lohi te22 ti105 rClass_len
theorem sm22 {l : List Class} {cl : Bool} {h m : Int} {ka kb : IntKind} : sliceA Tryz.prog 22 (.vsl (l.map rClass) cl) none (some (.lit (.int ka h))) (some (.lit (.int kb m))) = if 0 ≤ h ∧ h ≤ m ∧ m ≤ l.length then some (.vsl ((l.take h.toNat).map rClass) (decide (m = h))) else none := sl_hm te22 ti105 rClass_len
theorem sp22 {b off n : Nat} {cl : Bool} {h m : Int} {ka kb : IntKind} : sliceA Tryz.prog 22 (.sl b 2 off n cl) none (some (.lit (.int ka h))) (some (.lit (.int kb m))) = if 0 ≤ h ∧ h ≤ m ∧ m ≤ n then some (.sl b 2 off h.toNat (decide (m = h))) else none := so_hm te22 ti105 rfl
theorem lv25 {es : List (List AV)} {cl : Bool} : lenA Tryz.prog 25 (.vsl es cl) = some (I es.length) := lenV te25
theorem ll25 {b sz off len : Nat} {cl : Bool} : lenA Tryz.prog 25 (.sl b sz off len cl) = some (I len) := lenL te25
theorem is25 {b off len : Nat} {cl : Bool} {kd : IntKind} {n : Int} : indexAddrA Tryz.prog 25 (.sl b 4 off len cl) (.lit (.int kd n)) = if 0 ≤ n ∧ n < len then some (.ptr b 4 (off + n.toNat) 0) else none := ixs te25 ti50
theorem ix25 {l : List Line} {cl : Bool} {kd : IntKind} {n : Int} : indexAddrA Tryz.prog 25 (.vsl (l.map rLine) cl) (.lit (.int kd n)) = if 0 ≤ n ∧ n < l.length then some (.vptr (l.map rLine) n.toNat 0) else none := ixv te25 ti50 rLine_len (by decide)
theorem sh25 {l : List Line} {cl : Bool} {h : Int} {ka : IntKind} : sliceA Tryz.prog 25 (.vsl (l.map rLine) cl) none (some (.lit (.int ka h))) none = if 0 ≤ h ∧ h ≤ l.length then some (.vsl ((l.take h.toNat).map rLine) (clipOf none h l.length cl)) else none := sl_hi te25 ti50 rLine_len
theorem so25 {l : List Line} {cl : Bool} {lo : Int} {ka : IntKind} : sliceA Tryz.prog 25 (.vsl (l.map rLine) cl) (some (.lit (.int ka lo))) none none = if 0 ≤ lo ∧ lo ≤ l.length then some (.vsl ((l.drop lo.toNat).map rLine) cl) else none := sl_lo te25 ti50 rLine_len
theorem sb25 {l : List Line} {cl : Bool} {lo h : Int} {ka kb : IntKind} : sliceA Tryz.prog 25 (.vsl (l.map rLine) cl) (some (.lit (.int ka lo))) (some (.lit (.int kb h))) none = if 0 ≤ lo ∧ lo ≤ h ∧ h ≤ l.length then some (.vsl (((l.take h.toNat).drop lo.toNat).map rLine) (clipOf none h l.length cl)) else none := sl_lohi te25 ti50 rLine_len
theorem sm25 {l : List Line} {cl : Bool} {h m : Int} {ka kb : IntKind} : sliceA Tryz.prog 25 (.vsl (l.map rLine) cl) none (some (.lit (.int ka h))) (some (.lit (.int kb m))) = if 0 ≤ h ∧ h ≤ m ∧ m ≤ l.length then some (.vsl ((l.take h.toNat).map rLine) (decide (m = h))) else none := sl_hm te25 ti50 rLine_len
theorem sp25 {b off n : Nat} {cl : Bool} {h m : Int} {ka kb : IntKind} : sliceA Tryz.prog 25 (.sl b 4 off n cl) none (some (.lit (.int ka h))) (some (.lit (.int kb m))) = if 0 ≤ h ∧ h ≤ m ∧ m ≤ n then some (.sl b 4 off h.toNat (decide (m = h))) else none := so_hm te25 ti50 rfl
theorem lv26 {es : List (List AV)} {cl : Bool} : lenA Tryz.prog 26 (.vsl es cl) = some (I es.length) := lenV te26
theorem ll26 {b sz off len : Nat} {cl : Bool} : lenA Tryz.prog 26 (.sl b sz off len cl) = some (I len) := lenL te26
theorem is26 {b off len : Nat} {cl : Bool} {kd : IntKind} {n : Int} : indexAddrA Tryz.prog 26 (.sl b 1 off len cl) (.lit (.int kd n)) = if 0 ≤ n ∧ n < len then some (.ptr b 1 (off + n.toNat) 0) else none := ixs te26 ti3
theorem ix26 {l : List Int} {cl : Bool} {kd : IntKind} {n : Int} : indexAddrA Tryz.prog 26 (.vsl (l.map rI) cl) (.lit (.int kd n)) = if 0 ≤ n ∧ n < l.length then some (.vptr (l.map rI) n.toNat 0) else none := ixv te26 ti3 rI_len (by decide)
theorem sh26 {l : List Int} {cl : Bool} {h : Int} {ka : IntKind} : sliceA Tryz.prog 26 (.vsl (l.map rI) cl) none (some (.lit (.int ka h))) none = if 0 ≤ h ∧ h ≤ l.length then some (.vsl ((l.take h.toNat).map rI) (clipOf none h l.length cl)) else none := sl_hi te26 ti3 rI_len
theorem so26 {l : List Int} {cl : Bool} {lo : Int} {ka : IntKind} : sliceA Tryz.prog 26 (.vsl (l.map rI) cl) (some (.lit (.int ka lo))) none none = if 0 ≤ lo ∧ lo ≤ l.length then some (.vsl ((l.drop lo.toNat).map rI) cl) else none := sl_lo te26 ti3 rI_len
theorem sb26 {l : List Int} {cl : Bool} {lo h : Int} {ka kb : IntKind} : sliceA Tryz.prog 26 (.vsl (l.map rI) cl) (some (.lit (.int ka lo))) (some (.lit (.int kb h))) none = if 0 ≤ lo ∧ lo ≤ h ∧ h ≤ l.length then some (.vsl (((l.take h.toNat).drop lo.toNat).map rI) (clipOf none h l.length cl)) else none := sl_lohi te26 ti3 rI_len
theorem sm26 {l : List Int} {cl : Bool} {h m : Int} {ka kb : IntKind} : sliceA Tryz.prog 26 (.vsl (l.map rI) cl) none (some (.lit (.int ka h))) (some (.lit (.int kb m))) = if 0 ≤ h ∧ h ≤ m ∧ m ≤ l.length then some (.vsl ((l.take h.toNat).map rI) (decide (m = h))) else none := sl_hm te26 ti3 rI_len
theorem sp26 {b off n : Nat} {cl : Bool} {h m : Int} {ka kb : IntKind} : sliceA Tryz.prog 26 (.sl b 1 off n cl) none (some (.lit (.int ka h))) (some (.lit (.int kb m))) = if 0 ≤ h ∧ h ≤ m ∧ m ≤ n then some (.sl b 1 off h.toNat (decide (m = h))) else none := so_hm te26 ti3 rfl
theorem lv27 {es : List (List AV)} {cl : Bool} : lenA Tryz.prog 27 (.vsl es cl) = some (I es.length) := lenV te27
theorem ll27 {b sz off len : Nat} {cl : Bool} : lenA Tryz.prog 27 (.sl b sz off len cl) = some (I len) := lenL te27
theorem is27 {b off len : Nat} {cl : Bool} {kd : IntKind} {n : Int} : indexAddrA Tryz.prog 27 (.sl b 5 off len cl) (.lit (.int kd n)) = if 0 ≤ n ∧ n < len then some (.ptr b 5 (off + n.toNat) 0) else none := ixs te27 ti80
theorem ix27 {l : List Fault} {cl : Bool} {kd : IntKind} {n : Int} : indexAddrA Tryz.prog 27 (.vsl (l.map rFault) cl) (.lit (.int kd n)) = if 0 ≤ n ∧ n < l.length then some (.vptr (l.map rFault) n.toNat 0) else none := ixv te27 ti80 rFault_len (by decide)
theorem sh27 {l : List Fault} {cl : Bool} {h : Int} {ka : IntKind} : sliceA Tryz.prog 27 (.vsl (l.map rFault) cl) none (some (.lit (.int ka h))) none = if 0 ≤ h ∧ h ≤ l.length then some (.vsl ((l.take h.toNat).map rFault) (clipOf none h l.length cl)) else none := sl_hi te27 ti80 rFault_len
theorem so27 {l : List Fault} {cl : Bool} {lo : Int} {ka : IntKind} : sliceA Tryz.prog 27 (.vsl (l.map rFault) cl) (some (.lit (.int ka lo))) none none = if 0 ≤ lo ∧ lo ≤ l.length then some (.vsl ((l.drop lo.toNat).map rFault) cl) else none := sl_lo te27 ti80 rFault_len
theorem sb27 {l : List Fault} {cl : Bool} {lo h : Int} {ka kb : IntKind} : sliceA Tryz.prog 27 (.vsl (l.map rFault) cl) (some (.lit (.int ka lo))) (some (.lit (.int kb h))) none = if 0 ≤ lo ∧ lo ≤ h ∧ h ≤ l.length then some (.vsl (((l.take h.toNat).drop lo.toNat).map rFault) (clipOf none h l.length cl)) else none := sl_lohi te27 ti80 rFault_len
theorem sm27 {l : List Fault} {cl : Bool} {h m : Int} {ka kb : IntKind} : sliceA Tryz.prog 27 (.vsl (l.map rFault) cl) none (some (.lit (.int ka h))) (some (.lit (.int kb m))) = if 0 ≤ h ∧ h ≤ m ∧ m ≤ l.length then some (.vsl ((l.take h.toNat).map rFault) (decide (m = h))) else none := sl_hm te27 ti80 rFault_len
theorem sp27 {b off n : Nat} {cl : Bool} {h m : Int} {ka kb : IntKind} : sliceA Tryz.prog 27 (.sl b 5 off n cl) none (some (.lit (.int ka h))) (some (.lit (.int kb m))) = if 0 ≤ h ∧ h ≤ m ∧ m ≤ n then some (.sl b 5 off h.toNat (decide (m = h))) else none := so_hm te27 ti80 rfl
theorem lv35 {es : List (List AV)} {cl : Bool} : lenA Tryz.prog 35 (.vsl es cl) = some (I es.length) := lenV te35
theorem ll35 {b sz off len : Nat} {cl : Bool} : lenA Tryz.prog 35 (.sl b sz off len cl) = some (I len) := lenL te35
theorem is35 {b off len : Nat} {cl : Bool} {kd : IntKind} {n : Int} : indexAddrA Tryz.prog 35 (.sl b 1 off len cl) (.lit (.int kd n)) = if 0 ≤ n ∧ n < len then some (.ptr b 1 (off + n.toNat) 0) else none := ixs te35 ti5
theorem ix35 {l : List UInt8} {cl : Bool} {kd : IntKind} {n : Int} : indexAddrA Tryz.prog 35 (.vsl (l.map rU) cl) (.lit (.int kd n)) = if 0 ≤ n ∧ n < l.length then some (.vptr (l.map rU) n.toNat 0) else none := ixv te35 ti5 rU_len (by decide)
theorem sh35 {l : List UInt8} {cl : Bool} {h : Int} {ka : IntKind} : sliceA Tryz.prog 35 (.vsl (l.map rU) cl) none (some (.lit (.int ka h))) none = if 0 ≤ h ∧ h ≤ l.length then some (.vsl ((l.take h.toNat).map rU) (clipOf none h l.length cl)) else none := sl_hi te35 ti5 rU_len
theorem so35 {l : List UInt8} {cl : Bool} {lo : Int} {ka : IntKind} : sliceA Tryz.prog 35 (.vsl (l.map rU) cl) (some (.lit (.int ka lo))) none none = if 0 ≤ lo ∧ lo ≤ l.length then some (.vsl ((l.drop lo.toNat).map rU) cl) else none := sl_lo te35 ti5 rU_len
theorem sb35 {l : List UInt8} {cl : Bool} {lo h : Int} {ka kb : IntKind} : sliceA Tryz.prog 35 (.vsl (l.map rU) cl) (some (.lit (.int ka lo))) (some (.lit (.int kb h))) none = if 0 ≤ lo ∧ lo ≤ h ∧ h ≤ l.length then some (.vsl (((l.take h.toNat).drop lo.toNat).map rU) (clipOf none h l.length cl)) else none := sl_lohi te35 ti5 rU_len
theorem sm35 {l : List UInt8} {cl : Bool} {h m : Int} {ka kb : IntKind} : sliceA Tryz.prog 35 (.vsl (l.map rU) cl) none (some (.lit (.int ka h))) (some (.lit (.int kb m))) = if 0 ≤ h ∧ h ≤ m ∧ m ≤ l.length then some (.vsl ((l.take h.toNat).map rU) (decide (m = h))) else none := sl_hm te35 ti5 rU_len
theorem sp35 {b off n : Nat} {cl : Bool} {h m : Int} {ka kb : IntKind} : sliceA Tryz.prog 35 (.sl b 1 off n cl) none (some (.lit (.int ka h))) (some (.lit (.int kb m))) = if 0 ≤ h ∧ h ≤ m ∧ m ≤ n then some (.sl b 1 off h.toNat (decide (m = h))) else none := so_hm te35 ti5 rfl
theorem lv118 {es : List (List AV)} {cl : Bool} : lenA Tryz.prog 118 (.vsl es cl) = some (I es.length) := lenV te118
theorem ll118 {b sz off len : Nat} {cl : Bool} : lenA Tryz.prog 118 (.sl b sz off len cl) = some (I len) := lenL te118
theorem is118 {b off len : Nat} {cl : Bool} {kd : IntKind} {n : Int} : indexAddrA Tryz.prog 118 (.sl b 1 off len cl) (.lit (.int kd n)) = if 0 ≤ n ∧ n < len then some (.ptr b 1 (off + n.toNat) 0) else none := ixs te118 ti25
theorem sp118 {b off n : Nat} {cl : Bool} {h m : Int} {ka kb : IntKind} : sliceA Tryz.prog 118 (.sl b 1 off n cl) none (some (.lit (.int ka h))) (some (.lit (.int kb m))) = if 0 ≤ h ∧ h ≤ m ∧ m ≤ n then some (.sl b 1 off h.toNat (decide (m = h))) else none := so_hm te118 ti25 rfl
theorem lv131 {es : List (List AV)} {cl : Bool} : lenA Tryz.prog 131 (.vsl es cl) = some (I es.length) := lenV te131
theorem ll131 {b sz off len : Nat} {cl : Bool} : lenA Tryz.prog 131 (.sl b sz off len cl) = some (I len) := lenL te131
theorem is131 {b off len : Nat} {cl : Bool} {kd : IntKind} {n : Int} : indexAddrA Tryz.prog 131 (.sl b 1 off len cl) (.lit (.int kd n)) = if 0 ≤ n ∧ n < len then some (.ptr b 1 (off + n.toNat) 0) else none := ixs te131 ti9
theorem ix131 {l : List Str} {cl : Bool} {kd : IntKind} {n : Int} : indexAddrA Tryz.prog 131 (.vsl (l.map rS) cl) (.lit (.int kd n)) = if 0 ≤ n ∧ n < l.length then some (.vptr (l.map rS) n.toNat 0) else none := ixv te131 ti9 rS_len (by decide)
theorem sh131 {l : List Str} {cl : Bool} {h : Int} {ka : IntKind} : sliceA Tryz.prog 131 (.vsl (l.map rS) cl) none (some (.lit (.int ka h))) none = if 0 ≤ h ∧ h ≤ l.length then some (.vsl ((l.take h.toNat).map rS) (clipOf none h l.length cl)) else none := sl_hi te131 ti9 rS_len
theorem so131 {l : List Str} {cl : Bool} {lo : Int} {ka : IntKind} : sliceA Tryz.prog 131 (.vsl (l.map rS) cl) (some (.lit (.int ka lo))) none none = if 0 ≤ lo ∧ lo ≤ l.length then some (.vsl ((l.drop lo.toNat).map rS) cl) else none := sl_lo te131 ti9 rS_len
theorem sb131 {l : List Str} {cl : Bool} {lo h : Int} {ka kb : IntKind} : sliceA Tryz.prog 131 (.vsl (l.map rS) cl) (some (.lit (.int ka lo))) (some (.lit (.int kb h))) none = if 0 ≤ lo ∧ lo ≤ h ∧ h ≤ l.length then some (.vsl (((l.take h.toNat).drop lo.toNat).map rS) (clipOf none h l.length cl)) else none := sl_lohi te131 ti9 rS_len
theorem sm131 {l : List Str} {cl : Bool} {h m : Int} {ka kb : IntKind} : sliceA Tryz.prog 131 (.vsl (l.map rS) cl) none (some (.lit (.int ka h))) (some (.lit (.int kb m))) = if 0 ≤ h ∧ h ≤ m ∧ m ≤ l.length then some (.vsl ((l.take h.toNat).map rS) (decide (m = h))) else none := sl_hm te131 ti9 rS_len
theorem sp131 {b off n : Nat} {cl : Bool} {h m : Int} {ka kb : IntKind} : sliceA Tryz.prog 131 (.sl b 1 off n cl) none (some (.lit (.int ka h))) (some (.lit (.int kb m))) = if 0 ≤ h ∧ h ≤ m ∧ m ≤ n then some (.sl b 1 off h.toNat (decide (m = h))) else none := so_hm te131 ti9 rfl
theorem xs9 {s : Str} {kd : IntKind} {n : Int} : indexA Tryz.prog 9 (S s) (.lit (.int kd n)) = if 0 ≤ n ∧ n < s.length then some (U8 (s.getD n.toNat 0).toNat) else none := ixS ts9
theorem ls9 {s : Str} : lenA Tryz.prog 9 (S s) = some (I s.length) := lenS ts9
theorem sx9 {s : Str} {h : Int} {ka : IntKind} : sliceA Tryz.prog 9 (S s) none (some (.lit (.int ka h))) none = if 0 ≤ h ∧ h ≤ s.length then some (S (s.take h.toNat)) else none := ss_hi ts9
theorem sy9 {s : Str} {lo : Int} {ka : IntKind} : sliceA Tryz.prog 9 (S s) (some (.lit (.int ka lo))) none none = if 0 ≤ lo ∧ lo ≤ s.length then some (S (s.drop lo.toNat)) else none := ss_lo ts9
theorem sz9 {s : Str} {lo h : Int} {ka kb : IntKind} : sliceA Tryz.prog 9 (S s) (some (.lit (.int ka lo))) (some (.lit (.int kb h))) none = if 0 ≤ lo ∧ lo ≤ h ∧ h ≤ s.length then some (S ((s.take h.toNat).drop lo.toNat)) else none := ss_lohi ts9
end Go.Proofs.YtbjgilehnlpmaaaGreat

/- Facts of this seat's tables of types. No condition. -/
import Derived.Test.YtckipeopgimenaaGreatRows2
import Derived.Test.YtckipeopgimenaaGreatChecked
import Derived.KernelRfl
set_option linter.unusedVariables false
set_option linter.unusedSimpArgs false
namespace Go.Proofs.YtckipeopgimenaaGreat
open Go Go.Sim

theorem mixed : Tryz.prog.follows .mixedOrders = true := by kernel_rfl
theorem ti1 : tinfo Tryz.prog 1 = some ⟨1, 8, false, [.nilFunc]⟩ := by kernel_rfl
theorem ti2 : tinfo Tryz.prog 2 = some ⟨1, 8, false, [.int .i64 0]⟩ := by kernel_rfl
theorem tk2 : tint Tryz.prog 2 = some .i64 := by kernel_rfl
theorem ti3 : tinfo Tryz.prog 3 = some ⟨1, 8, false, [.int .i64 0]⟩ := by kernel_rfl
theorem te3 : telem Tryz.prog 3 = none := by kernel_rfl
theorem ts3 : tstr Tryz.prog 3 = false := by kernel_rfl
theorem tk3 : tint Tryz.prog 3 = some .i64 := by kernel_rfl
theorem tz3 : tsome Tryz.prog 3 = true := by kernel_rfl
theorem ti4 : tinfo Tryz.prog 4 = some ⟨1, 1, false, [.bool false]⟩ := by kernel_rfl
theorem tb4 : tbool Tryz.prog 4 = true := by kernel_rfl
theorem ti5 : tinfo Tryz.prog 5 = some ⟨1, 1, false, [.int .u8 0]⟩ := by kernel_rfl
theorem tk5 : tint Tryz.prog 5 = some .u8 := by kernel_rfl
theorem tz5 : tsome Tryz.prog 5 = true := by kernel_rfl
theorem ti9 : tinfo Tryz.prog 9 = some ⟨1, 16, false, [(.string ⟨[].toArray⟩)]⟩ := by kernel_rfl
theorem te9 : telem Tryz.prog 9 = none := by kernel_rfl
theorem ts9 : tstr Tryz.prog 9 = true := by kernel_rfl
theorem tk9 : tint Tryz.prog 9 = none := by kernel_rfl
theorem tz9 : tsome Tryz.prog 9 = true := by kernel_rfl
theorem ti12 : tinfo Tryz.prog 12 = some ⟨1, 8, false, [.int .u64 0]⟩ := by kernel_rfl
theorem tk12 : tint Tryz.prog 12 = some .u64 := by kernel_rfl
theorem ti13 : tinfo Tryz.prog 13 = some ⟨2, 24, true, [(.string ⟨[].toArray⟩), .int .u64 0]⟩ := by kernel_rfl
theorem tp13 : tplaces Tryz.prog 13 = some [(0, 1), (1, 1)] := by kernel_rfl
theorem tf13_0 : tfield Tryz.prog 13 0 = some (0, 9) := by kernel_rfl
theorem tf13_1 : tfield Tryz.prog 13 1 = some (1, 12) := by kernel_rfl
theorem ti20 : tinfo Tryz.prog 20 = some ⟨1, 16, false, [.nilIface]⟩ := by kernel_rfl
theorem ti21 : tinfo Tryz.prog 21 = some ⟨1, 4, false, [.int .i32 0]⟩ := by kernel_rfl
theorem tk21 : tint Tryz.prog 21 = some .i32 := by kernel_rfl
theorem tz21 : tsome Tryz.prog 21 = true := by kernel_rfl
theorem ti22 : tinfo Tryz.prog 22 = some ⟨1, 24, false, [(.slice none 0 0)]⟩ := by kernel_rfl
theorem te22 : telem Tryz.prog 22 = some 5 := by kernel_rfl
theorem tz22 : tsome Tryz.prog 22 = true := by kernel_rfl
theorem ti23 : tinfo Tryz.prog 23 = some ⟨1, 24, false, [(.slice none 0 0)]⟩ := by kernel_rfl
theorem te23 : telem Tryz.prog 23 = some 127 := by kernel_rfl
theorem ti24 : tinfo Tryz.prog 24 = some ⟨1, 24, true, [(.slice none 0 0)]⟩ := by kernel_rfl
theorem tp24 : tplaces Tryz.prog 24 = some [(0, 1)] := by kernel_rfl
theorem tf24_0 : tfield Tryz.prog 24 0 = some (0, 23) := by kernel_rfl
theorem ti25 : tinfo Tryz.prog 25 = some ⟨1, 24, true, [(.slice none 0 0)]⟩ := by kernel_rfl
theorem tp25 : tplaces Tryz.prog 25 = some [(0, 1)] := by kernel_rfl
theorem tf25_0 : tfield Tryz.prog 25 0 = some (0, 23) := by kernel_rfl
theorem ti26 : tinfo Tryz.prog 26 = some ⟨1, 24, false, [(.slice none 0 0)]⟩ := by kernel_rfl
theorem te26 : telem Tryz.prog 26 = some 50 := by kernel_rfl
theorem ti28 : tinfo Tryz.prog 28 = some ⟨1, 8, false, [.nilFunc]⟩ := by kernel_rfl
theorem ti29 : tinfo Tryz.prog 29 = some ⟨1, 24, false, [(.slice none 0 0)]⟩ := by kernel_rfl
theorem te29 : telem Tryz.prog 29 = some 3 := by kernel_rfl
theorem ti30 : tinfo Tryz.prog 30 = some ⟨1, 24, false, [(.slice none 0 0)]⟩ := by kernel_rfl
theorem te30 : telem Tryz.prog 30 = some 86 := by kernel_rfl
theorem ti31 : tinfo Tryz.prog 31 = some ⟨1, 24, true, [(.slice none 0 0)]⟩ := by kernel_rfl
theorem tp31 : tplaces Tryz.prog 31 = some [(0, 1)] := by kernel_rfl
theorem tf31_0 : tfield Tryz.prog 31 0 = some (0, 30) := by kernel_rfl
theorem ti32 : tinfo Tryz.prog 32 = some ⟨1, 24, true, [(.slice none 0 0)]⟩ := by kernel_rfl
theorem tp32 : tplaces Tryz.prog 32 = some [(0, 1)] := by kernel_rfl
theorem tf32_0 : tfield Tryz.prog 32 0 = some (0, 30) := by kernel_rfl
theorem ti33 : tinfo Tryz.prog 33 = some ⟨4, 64, true, [(.slice none 0 0), .int .i64 0, .int .i64 0, (.slice none 0 0)]⟩ := by kernel_rfl
theorem tp33 : tplaces Tryz.prog 33 = some [(0, 1), (1, 1), (2, 1), (3, 1)] := by kernel_rfl
theorem tf33_0 : tfield Tryz.prog 33 0 = some (0, 29) := by kernel_rfl
theorem tf33_1 : tfield Tryz.prog 33 1 = some (1, 3) := by kernel_rfl
theorem tf33_2 : tfield Tryz.prog 33 2 = some (2, 3) := by kernel_rfl
theorem tf33_3 : tfield Tryz.prog 33 3 = some (3, 32) := by kernel_rfl
theorem ti34 : tinfo Tryz.prog 34 = some ⟨4, 64, true, [(.slice none 0 0), .int .i64 0, .int .i64 0, (.slice none 0 0)]⟩ := by kernel_rfl
theorem tp34 : tplaces Tryz.prog 34 = some [(0, 1), (1, 1), (2, 1), (3, 1)] := by kernel_rfl
theorem tf34_0 : tfield Tryz.prog 34 0 = some (0, 29) := by kernel_rfl
theorem tf34_1 : tfield Tryz.prog 34 1 = some (1, 3) := by kernel_rfl
theorem tf34_2 : tfield Tryz.prog 34 2 = some (2, 3) := by kernel_rfl
theorem tf34_3 : tfield Tryz.prog 34 3 = some (3, 32) := by kernel_rfl
theorem ti35 : tinfo Tryz.prog 35 = some ⟨1, 8, false, [.nilFunc]⟩ := by kernel_rfl
theorem ti36 : tinfo Tryz.prog 36 = some ⟨1, 8, false, [.nilFunc]⟩ := by kernel_rfl
theorem ti37 : tinfo Tryz.prog 37 = some ⟨1, 8, false, [.nilFunc]⟩ := by kernel_rfl
theorem ti38 : tinfo Tryz.prog 38 = some ⟨1, 8, false, [.nilFunc]⟩ := by kernel_rfl
theorem ti40 : tinfo Tryz.prog 40 = some ⟨1, 8, false, [.nilFunc]⟩ := by kernel_rfl
theorem ti42 : tinfo Tryz.prog 42 = some ⟨1, 8, false, [.nilFunc]⟩ := by kernel_rfl
theorem ti43 : tinfo Tryz.prog 43 = some ⟨1, 8, false, [.nilFunc]⟩ := by kernel_rfl
theorem ti44 : tinfo Tryz.prog 44 = some ⟨3, 24, true, [.bool false, .int .i64 0, .int .i64 0]⟩ := by kernel_rfl
theorem tq44 : teq Tryz.prog 44 = some [.b, .i, .i] := by kernel_rfl
theorem tp44 : tplaces Tryz.prog 44 = some [(0, 1), (1, 1), (2, 1)] := by kernel_rfl
theorem tf44_0 : tfield Tryz.prog 44 0 = some (0, 4) := by kernel_rfl
theorem tf44_1 : tfield Tryz.prog 44 1 = some (1, 3) := by kernel_rfl
theorem tf44_2 : tfield Tryz.prog 44 2 = some (2, 3) := by kernel_rfl
theorem ti45 : tinfo Tryz.prog 45 = some ⟨3, 24, true, [.bool false, .int .i64 0, .int .i64 0]⟩ := by kernel_rfl
theorem tq45 : teq Tryz.prog 45 = some [.b, .i, .i] := by kernel_rfl
theorem tp45 : tplaces Tryz.prog 45 = some [(0, 1), (1, 1), (2, 1)] := by kernel_rfl
theorem tf45_0 : tfield Tryz.prog 45 0 = some (0, 4) := by kernel_rfl
theorem tf45_1 : tfield Tryz.prog 45 1 = some (1, 3) := by kernel_rfl
theorem tf45_2 : tfield Tryz.prog 45 2 = some (2, 3) := by kernel_rfl
theorem ti47 : tinfo Tryz.prog 47 = some ⟨1, 8, false, [.nilFunc]⟩ := by kernel_rfl
theorem ti48 : tinfo Tryz.prog 48 = some ⟨1, 8, false, [.nilFunc]⟩ := by kernel_rfl
theorem ti49 : tinfo Tryz.prog 49 = some ⟨4, 32, true, [.int .i64 0, .int .i64 0, .int .i64 0, .int .i64 0]⟩ := by kernel_rfl
theorem tq49 : teq Tryz.prog 49 = some [.i, .i, .i, .i] := by kernel_rfl
theorem tp49 : tplaces Tryz.prog 49 = some [(0, 1), (1, 1), (2, 1), (3, 1)] := by kernel_rfl
theorem tf49_0 : tfield Tryz.prog 49 0 = some (0, 3) := by kernel_rfl
theorem tf49_1 : tfield Tryz.prog 49 1 = some (1, 3) := by kernel_rfl
theorem tf49_2 : tfield Tryz.prog 49 2 = some (2, 3) := by kernel_rfl
theorem tf49_3 : tfield Tryz.prog 49 3 = some (3, 3) := by kernel_rfl
theorem ti50 : tinfo Tryz.prog 50 = some ⟨4, 32, true, [.int .i64 0, .int .i64 0, .int .i64 0, .int .i64 0]⟩ := by kernel_rfl
theorem tq50 : teq Tryz.prog 50 = some [.i, .i, .i, .i] := by kernel_rfl
theorem tp50 : tplaces Tryz.prog 50 = some [(0, 1), (1, 1), (2, 1), (3, 1)] := by kernel_rfl
theorem tf50_0 : tfield Tryz.prog 50 0 = some (0, 3) := by kernel_rfl
theorem tf50_1 : tfield Tryz.prog 50 1 = some (1, 3) := by kernel_rfl
theorem tf50_2 : tfield Tryz.prog 50 2 = some (2, 3) := by kernel_rfl
theorem tf50_3 : tfield Tryz.prog 50 3 = some (3, 3) := by kernel_rfl
theorem ti51 : tinfo Tryz.prog 51 = some ⟨1, 8, false, [.nilFunc]⟩ := by kernel_rfl
theorem ti52 : tinfo Tryz.prog 52 = some ⟨1, 8, false, [.nilFunc]⟩ := by kernel_rfl
theorem ti54 : tinfo Tryz.prog 54 = some ⟨1, 8, false, [.nilFunc]⟩ := by kernel_rfl
theorem ti55 : tinfo Tryz.prog 55 = some ⟨1, 8, false, [.nilFunc]⟩ := by kernel_rfl
theorem ti56 : tinfo Tryz.prog 56 = some ⟨1, 8, false, [.nilFunc]⟩ := by kernel_rfl
theorem ti57 : tinfo Tryz.prog 57 = some ⟨1, 24, false, [(.slice none 0 0)]⟩ := by kernel_rfl
theorem te57 : telem Tryz.prog 57 = some 98 := by kernel_rfl
theorem ti59 : tinfo Tryz.prog 59 = some ⟨1, 8, false, [.nilFunc]⟩ := by kernel_rfl
theorem ti60 : tinfo Tryz.prog 60 = some ⟨1, 8, false, [.nilFunc]⟩ := by kernel_rfl
theorem ti61 : tinfo Tryz.prog 61 = some ⟨1, 8, false, [.nilFunc]⟩ := by kernel_rfl
theorem ti62 : tinfo Tryz.prog 62 = some ⟨1, 8, false, [.nilFunc]⟩ := by kernel_rfl
theorem ti63 : tinfo Tryz.prog 63 = some ⟨1, 8, false, [.pointer none]⟩ := by kernel_rfl
theorem ti64 : tinfo Tryz.prog 64 = some ⟨1, 8, false, [.nilFunc]⟩ := by kernel_rfl
theorem ti65 : tinfo Tryz.prog 65 = some ⟨1, 8, false, [.pointer none]⟩ := by kernel_rfl
theorem ti66 : tinfo Tryz.prog 66 = some ⟨1, 8, false, [.nilFunc]⟩ := by kernel_rfl
theorem ti67 : tinfo Tryz.prog 67 = some ⟨1, 8, false, [.nilFunc]⟩ := by kernel_rfl
theorem ti68 : tinfo Tryz.prog 68 = some ⟨2, 16, true, [.int .i64 0, .int .i64 0]⟩ := by kernel_rfl
theorem tq68 : teq Tryz.prog 68 = some [.i, .i] := by kernel_rfl
theorem tp68 : tplaces Tryz.prog 68 = some [(0, 1), (1, 1)] := by kernel_rfl
theorem tf68_0 : tfield Tryz.prog 68 0 = some (0, 3) := by kernel_rfl
theorem tf68_1 : tfield Tryz.prog 68 1 = some (1, 3) := by kernel_rfl
theorem ti69 : tinfo Tryz.prog 69 = some ⟨2, 16, true, [.int .i64 0, .int .i64 0]⟩ := by kernel_rfl
theorem tq69 : teq Tryz.prog 69 = some [.i, .i] := by kernel_rfl
theorem tp69 : tplaces Tryz.prog 69 = some [(0, 1), (1, 1)] := by kernel_rfl
theorem tf69_0 : tfield Tryz.prog 69 0 = some (0, 3) := by kernel_rfl
theorem tf69_1 : tfield Tryz.prog 69 1 = some (1, 3) := by kernel_rfl
theorem ti70 : tinfo Tryz.prog 70 = some ⟨1, 8, false, [.nilFunc]⟩ := by kernel_rfl
theorem ti71 : tinfo Tryz.prog 71 = some ⟨1, 8, false, [.nilFunc]⟩ := by kernel_rfl
theorem ti72 : tinfo Tryz.prog 72 = some ⟨1, 8, false, [.nilFunc]⟩ := by kernel_rfl
theorem ti73 : tinfo Tryz.prog 73 = some ⟨1, 8, false, [.nilFunc]⟩ := by kernel_rfl
theorem ti74 : tinfo Tryz.prog 74 = some ⟨1, 8, false, [.nilFunc]⟩ := by kernel_rfl
theorem ti75 : tinfo Tryz.prog 75 = some ⟨1, 8, false, [.nilFunc]⟩ := by kernel_rfl
theorem ti77 : tinfo Tryz.prog 77 = some ⟨1, 8, false, [.nilFunc]⟩ := by kernel_rfl
theorem ti78 : tinfo Tryz.prog 78 = some ⟨1, 8, false, [.nilFunc]⟩ := by kernel_rfl
theorem ti79 : tinfo Tryz.prog 79 = some ⟨1, 8, false, [.nilFunc]⟩ := by kernel_rfl
theorem ti80 : tinfo Tryz.prog 80 = some ⟨1, 8, false, [.nilFunc]⟩ := by kernel_rfl
theorem ti81 : tinfo Tryz.prog 81 = some ⟨1, 8, false, [.nilFunc]⟩ := by kernel_rfl
theorem ti82 : tinfo Tryz.prog 82 = some ⟨1, 8, false, [.nilFunc]⟩ := by kernel_rfl
theorem ti83 : tinfo Tryz.prog 83 = some ⟨1, 8, false, [.nilFunc]⟩ := by kernel_rfl
theorem ti84 : tinfo Tryz.prog 84 = some ⟨1, 8, false, [.nilFunc]⟩ := by kernel_rfl
theorem ti85 : tinfo Tryz.prog 85 = some ⟨5, 40, true, [.int .i64 0, .int .i64 0, .int .i64 0, .int .i64 0, .bool false]⟩ := by kernel_rfl
theorem tq85 : teq Tryz.prog 85 = some [.i, .i, .i, .i, .b] := by kernel_rfl
theorem tp85 : tplaces Tryz.prog 85 = some [(0, 1), (1, 1), (2, 1), (3, 1), (4, 1)] := by kernel_rfl
theorem tf85_0 : tfield Tryz.prog 85 0 = some (0, 3) := by kernel_rfl
theorem tf85_1 : tfield Tryz.prog 85 1 = some (1, 3) := by kernel_rfl
theorem tf85_2 : tfield Tryz.prog 85 2 = some (2, 3) := by kernel_rfl
theorem tf85_3 : tfield Tryz.prog 85 3 = some (3, 3) := by kernel_rfl
theorem tf85_4 : tfield Tryz.prog 85 4 = some (4, 4) := by kernel_rfl
theorem ti86 : tinfo Tryz.prog 86 = some ⟨5, 40, true, [.int .i64 0, .int .i64 0, .int .i64 0, .int .i64 0, .bool false]⟩ := by kernel_rfl
theorem tq86 : teq Tryz.prog 86 = some [.i, .i, .i, .i, .b] := by kernel_rfl
theorem tp86 : tplaces Tryz.prog 86 = some [(0, 1), (1, 1), (2, 1), (3, 1), (4, 1)] := by kernel_rfl
theorem tf86_0 : tfield Tryz.prog 86 0 = some (0, 3) := by kernel_rfl
theorem tf86_1 : tfield Tryz.prog 86 1 = some (1, 3) := by kernel_rfl
theorem tf86_2 : tfield Tryz.prog 86 2 = some (2, 3) := by kernel_rfl
theorem tf86_3 : tfield Tryz.prog 86 3 = some (3, 3) := by kernel_rfl
theorem tf86_4 : tfield Tryz.prog 86 4 = some (4, 4) := by kernel_rfl
theorem ti87 : tinfo Tryz.prog 87 = some ⟨1, 8, false, [.nilFunc]⟩ := by kernel_rfl
theorem ti88 : tinfo Tryz.prog 88 = some ⟨1, 8, false, [.nilFunc]⟩ := by kernel_rfl
theorem ti89 : tinfo Tryz.prog 89 = some ⟨1, 8, false, [.nilFunc]⟩ := by kernel_rfl
theorem ti90 : tinfo Tryz.prog 90 = some ⟨1, 8, false, [.nilFunc]⟩ := by kernel_rfl
theorem ti91 : tinfo Tryz.prog 91 = some ⟨1, 8, false, [.nilFunc]⟩ := by kernel_rfl
theorem ti93 : tinfo Tryz.prog 93 = some ⟨1, 8, false, [.nilFunc]⟩ := by kernel_rfl
theorem ti94 : tinfo Tryz.prog 94 = some ⟨1, 8, false, [.nilFunc]⟩ := by kernel_rfl
theorem ti95 : tinfo Tryz.prog 95 = some ⟨1, 8, false, [.nilFunc]⟩ := by kernel_rfl
theorem ti96 : tinfo Tryz.prog 96 = some ⟨1, 8, false, [.nilFunc]⟩ := by kernel_rfl
theorem ti97 : tinfo Tryz.prog 97 = some ⟨3, 24, true, [.int .i64 0, .int .i64 0, .int .i64 0]⟩ := by kernel_rfl
theorem tq97 : teq Tryz.prog 97 = some [.i, .i, .i] := by kernel_rfl
theorem tp97 : tplaces Tryz.prog 97 = some [(0, 1), (1, 1), (2, 1)] := by kernel_rfl
theorem tf97_0 : tfield Tryz.prog 97 0 = some (0, 3) := by kernel_rfl
theorem tf97_1 : tfield Tryz.prog 97 1 = some (1, 3) := by kernel_rfl
theorem tf97_2 : tfield Tryz.prog 97 2 = some (2, 3) := by kernel_rfl
theorem ti98 : tinfo Tryz.prog 98 = some ⟨3, 24, true, [.int .i64 0, .int .i64 0, .int .i64 0]⟩ := by kernel_rfl
theorem tq98 : teq Tryz.prog 98 = some [.i, .i, .i] := by kernel_rfl
theorem tp98 : tplaces Tryz.prog 98 = some [(0, 1), (1, 1), (2, 1)] := by kernel_rfl
theorem tf98_0 : tfield Tryz.prog 98 0 = some (0, 3) := by kernel_rfl
theorem tf98_1 : tfield Tryz.prog 98 1 = some (1, 3) := by kernel_rfl
theorem tf98_2 : tfield Tryz.prog 98 2 = some (2, 3) := by kernel_rfl
theorem ti99 : tinfo Tryz.prog 99 = some ⟨1, 8, false, [.nilFunc]⟩ := by kernel_rfl
theorem ti100 : tinfo Tryz.prog 100 = some ⟨1, 8, false, [.nilFunc]⟩ := by kernel_rfl
theorem ti101 : tinfo Tryz.prog 101 = some ⟨1, 8, false, [.nilFunc]⟩ := by kernel_rfl
theorem ti102 : tinfo Tryz.prog 102 = some ⟨1, 8, false, [.nilFunc]⟩ := by kernel_rfl
theorem ti103 : tinfo Tryz.prog 103 = some ⟨1, 8, false, [.nilFunc]⟩ := by kernel_rfl
theorem ti104 : tinfo Tryz.prog 104 = some ⟨1, 8, false, [.nilFunc]⟩ := by kernel_rfl
theorem ti105 : tinfo Tryz.prog 105 = some ⟨1, 8, false, [.nilFunc]⟩ := by kernel_rfl
theorem ti106 : tinfo Tryz.prog 106 = some ⟨1, 8, false, [.nilFunc]⟩ := by kernel_rfl
theorem ti107 : tinfo Tryz.prog 107 = some ⟨2, 32, true, [(.slice none 0 0), .int .i64 0]⟩ := by kernel_rfl
theorem tp107 : tplaces Tryz.prog 107 = some [(0, 1), (1, 1)] := by kernel_rfl
theorem tf107_0 : tfield Tryz.prog 107 0 = some (0, 22) := by kernel_rfl
theorem tf107_1 : tfield Tryz.prog 107 1 = some (1, 3) := by kernel_rfl
theorem ti108 : tinfo Tryz.prog 108 = some ⟨2, 32, true, [(.slice none 0 0), .int .i64 0]⟩ := by kernel_rfl
theorem tp108 : tplaces Tryz.prog 108 = some [(0, 1), (1, 1)] := by kernel_rfl
theorem tf108_0 : tfield Tryz.prog 108 0 = some (0, 22) := by kernel_rfl
theorem tf108_1 : tfield Tryz.prog 108 1 = some (1, 3) := by kernel_rfl
theorem ti109 : tinfo Tryz.prog 109 = some ⟨5, 104, true, [(.slice none 0 0), (.slice none 0 0), (.slice none 0 0), (.slice none 0 0), .int .i64 0]⟩ := by kernel_rfl
theorem tp109 : tplaces Tryz.prog 109 = some [(0, 1), (1, 1), (2, 1), (3, 1), (4, 1)] := by kernel_rfl
theorem tf109_0 : tfield Tryz.prog 109 0 = some (0, 25) := by kernel_rfl
theorem tf109_1 : tfield Tryz.prog 109 1 = some (1, 26) := by kernel_rfl
theorem tf109_2 : tfield Tryz.prog 109 2 = some (2, 29) := by kernel_rfl
theorem tf109_3 : tfield Tryz.prog 109 3 = some (3, 32) := by kernel_rfl
theorem tf109_4 : tfield Tryz.prog 109 4 = some (4, 3) := by kernel_rfl
theorem ti110 : tinfo Tryz.prog 110 = some ⟨5, 104, true, [(.slice none 0 0), (.slice none 0 0), (.slice none 0 0), (.slice none 0 0), .int .i64 0]⟩ := by kernel_rfl
theorem tp110 : tplaces Tryz.prog 110 = some [(0, 1), (1, 1), (2, 1), (3, 1), (4, 1)] := by kernel_rfl
theorem tf110_0 : tfield Tryz.prog 110 0 = some (0, 25) := by kernel_rfl
theorem tf110_1 : tfield Tryz.prog 110 1 = some (1, 26) := by kernel_rfl
theorem tf110_2 : tfield Tryz.prog 110 2 = some (2, 29) := by kernel_rfl
theorem tf110_3 : tfield Tryz.prog 110 3 = some (3, 32) := by kernel_rfl
theorem tf110_4 : tfield Tryz.prog 110 4 = some (4, 3) := by kernel_rfl
theorem ti111 : tinfo Tryz.prog 111 = some ⟨1, 8, false, [.nilFunc]⟩ := by kernel_rfl
theorem ti113 : tinfo Tryz.prog 113 = some ⟨1, 8, false, [.nilFunc]⟩ := by kernel_rfl
theorem ti114 : tinfo Tryz.prog 114 = some ⟨1, 8, false, [.nilFunc]⟩ := by kernel_rfl
theorem ti115 : tinfo Tryz.prog 115 = some ⟨1, 8, false, [.nilFunc]⟩ := by kernel_rfl
theorem ti116 : tinfo Tryz.prog 116 = some ⟨1, 8, false, [.nilFunc]⟩ := by kernel_rfl
theorem ti117 : tinfo Tryz.prog 117 = some ⟨1, 8, false, [.nilFunc]⟩ := by kernel_rfl
theorem ti118 : tinfo Tryz.prog 118 = some ⟨1, 8, false, [.nilFunc]⟩ := by kernel_rfl
theorem ti119 : tinfo Tryz.prog 119 = some ⟨1, 8, false, [.pointer none]⟩ := by kernel_rfl
theorem ti120 : tinfo Tryz.prog 120 = some ⟨4, 96, true, [(.slice none 0 0), (.slice none 0 0), (.slice none 0 0), (.slice none 0 0)]⟩ := by kernel_rfl
theorem tp120 : tplaces Tryz.prog 120 = some [(0, 1), (1, 1), (2, 1), (3, 1)] := by kernel_rfl
theorem tf120_0 : tfield Tryz.prog 120 0 = some (0, 25) := by kernel_rfl
theorem tf120_1 : tfield Tryz.prog 120 1 = some (1, 26) := by kernel_rfl
theorem tf120_2 : tfield Tryz.prog 120 2 = some (2, 29) := by kernel_rfl
theorem tf120_3 : tfield Tryz.prog 120 3 = some (3, 32) := by kernel_rfl
theorem ti121 : tinfo Tryz.prog 121 = some ⟨4, 96, true, [(.slice none 0 0), (.slice none 0 0), (.slice none 0 0), (.slice none 0 0)]⟩ := by kernel_rfl
theorem tp121 : tplaces Tryz.prog 121 = some [(0, 1), (1, 1), (2, 1), (3, 1)] := by kernel_rfl
theorem tf121_0 : tfield Tryz.prog 121 0 = some (0, 25) := by kernel_rfl
theorem tf121_1 : tfield Tryz.prog 121 1 = some (1, 26) := by kernel_rfl
theorem tf121_2 : tfield Tryz.prog 121 2 = some (2, 29) := by kernel_rfl
theorem tf121_3 : tfield Tryz.prog 121 3 = some (3, 32) := by kernel_rfl
theorem ti122 : tinfo Tryz.prog 122 = some ⟨2, 16, true, [.int .i64 0, .int .i64 0]⟩ := by kernel_rfl
theorem tq122 : teq Tryz.prog 122 = some [.i, .i] := by kernel_rfl
theorem tp122 : tplaces Tryz.prog 122 = some [(0, 1), (1, 1)] := by kernel_rfl
theorem tf122_0 : tfield Tryz.prog 122 0 = some (0, 3) := by kernel_rfl
theorem tf122_1 : tfield Tryz.prog 122 1 = some (1, 3) := by kernel_rfl
theorem ti123 : tinfo Tryz.prog 123 = some ⟨2, 16, true, [.int .i64 0, .int .i64 0]⟩ := by kernel_rfl
theorem tq123 : teq Tryz.prog 123 = some [.i, .i] := by kernel_rfl
theorem tp123 : tplaces Tryz.prog 123 = some [(0, 1), (1, 1)] := by kernel_rfl
theorem tf123_0 : tfield Tryz.prog 123 0 = some (0, 3) := by kernel_rfl
theorem tf123_1 : tfield Tryz.prog 123 1 = some (1, 3) := by kernel_rfl
theorem ti124 : tinfo Tryz.prog 124 = some ⟨1, 8, false, [.nilFunc]⟩ := by kernel_rfl
theorem ti125 : tinfo Tryz.prog 125 = some ⟨1, 8, false, [.nilFunc]⟩ := by kernel_rfl
theorem ti126 : tinfo Tryz.prog 126 = some ⟨2, 24, true, [(.string ⟨[].toArray⟩), .int .i64 0]⟩ := by kernel_rfl
theorem tq126 : teq Tryz.prog 126 = some [.s, .i] := by kernel_rfl
theorem tp126 : tplaces Tryz.prog 126 = some [(0, 1), (1, 1)] := by kernel_rfl
theorem tf126_0 : tfield Tryz.prog 126 0 = some (0, 9) := by kernel_rfl
theorem tf126_1 : tfield Tryz.prog 126 1 = some (1, 3) := by kernel_rfl
theorem ti127 : tinfo Tryz.prog 127 = some ⟨2, 24, true, [(.string ⟨[].toArray⟩), .int .i64 0]⟩ := by kernel_rfl
theorem tq127 : teq Tryz.prog 127 = some [.s, .i] := by kernel_rfl
theorem tp127 : tplaces Tryz.prog 127 = some [(0, 1), (1, 1)] := by kernel_rfl
theorem tf127_0 : tfield Tryz.prog 127 0 = some (0, 9) := by kernel_rfl
theorem tf127_1 : tfield Tryz.prog 127 1 = some (1, 3) := by kernel_rfl
theorem ti128 : tinfo Tryz.prog 128 = some ⟨1, 8, false, [.nilFunc]⟩ := by kernel_rfl
theorem ti129 : tinfo Tryz.prog 129 = some ⟨1, 8, false, [.nilFunc]⟩ := by kernel_rfl
theorem ti130 : tinfo Tryz.prog 130 = some ⟨1, 8, false, [.nilFunc]⟩ := by kernel_rfl
theorem ti131 : tinfo Tryz.prog 131 = some ⟨1, 8, false, [.nilFunc]⟩ := by kernel_rfl
theorem ti132 : tinfo Tryz.prog 132 = some ⟨1, 8, false, [.nilFunc]⟩ := by kernel_rfl
theorem ti133 : tinfo Tryz.prog 133 = some ⟨1, 24, false, [(.slice none 0 0)]⟩ := by kernel_rfl
theorem te133 : telem Tryz.prog 133 = some 26 := by kernel_rfl
theorem ti134 : tinfo Tryz.prog 134 = some ⟨1, 8, false, [.nilFunc]⟩ := by kernel_rfl
theorem ti135 : tinfo Tryz.prog 135 = some ⟨1, 8, false, [.nilFunc]⟩ := by kernel_rfl
theorem ti136 : tinfo Tryz.prog 136 = some ⟨1, 8, false, [.nilFunc]⟩ := by kernel_rfl
theorem ti137 : tinfo Tryz.prog 137 = some ⟨1, 8, false, [.nilFunc]⟩ := by kernel_rfl
theorem ti138 : tinfo Tryz.prog 138 = some ⟨1, 8, false, [.nilFunc]⟩ := by kernel_rfl
theorem ti139 : tinfo Tryz.prog 139 = some ⟨1, 8, false, [.nilFunc]⟩ := by kernel_rfl
theorem ti140 : tinfo Tryz.prog 140 = some ⟨1, 8, false, [.nilFunc]⟩ := by kernel_rfl
theorem ti141 : tinfo Tryz.prog 141 = some ⟨1, 8, false, [.nilFunc]⟩ := by kernel_rfl
theorem ti142 : tinfo Tryz.prog 142 = some ⟨1, 8, false, [.nilFunc]⟩ := by kernel_rfl
theorem ti143 : tinfo Tryz.prog 143 = some ⟨1, 8, false, [.nilFunc]⟩ := by kernel_rfl
theorem ti144 : tinfo Tryz.prog 144 = some ⟨3, 56, true, [(.slice none 0 0), (.slice none 0 0), .int .i64 0]⟩ := by kernel_rfl
theorem tp144 : tplaces Tryz.prog 144 = some [(0, 1), (1, 1), (2, 1)] := by kernel_rfl
theorem tf144_0 : tfield Tryz.prog 144 0 = some (0, 29) := by kernel_rfl
theorem tf144_1 : tfield Tryz.prog 144 1 = some (1, 32) := by kernel_rfl
theorem tf144_2 : tfield Tryz.prog 144 2 = some (2, 3) := by kernel_rfl
theorem ti145 : tinfo Tryz.prog 145 = some ⟨3, 56, true, [(.slice none 0 0), (.slice none 0 0), .int .i64 0]⟩ := by kernel_rfl
theorem tp145 : tplaces Tryz.prog 145 = some [(0, 1), (1, 1), (2, 1)] := by kernel_rfl
theorem tf145_0 : tfield Tryz.prog 145 0 = some (0, 29) := by kernel_rfl
theorem tf145_1 : tfield Tryz.prog 145 1 = some (1, 32) := by kernel_rfl
theorem tf145_2 : tfield Tryz.prog 145 2 = some (2, 3) := by kernel_rfl
theorem ti146 : tinfo Tryz.prog 146 = some ⟨1, 8, false, [.nilFunc]⟩ := by kernel_rfl
theorem ti147 : tinfo Tryz.prog 147 = some ⟨1, 8, false, [.nilFunc]⟩ := by kernel_rfl
theorem ti148 : tinfo Tryz.prog 148 = some ⟨1, 8, false, [.nilFunc]⟩ := by kernel_rfl
theorem ti149 : tinfo Tryz.prog 149 = some ⟨1, 8, false, [.nilFunc]⟩ := by kernel_rfl
theorem ti150 : tinfo Tryz.prog 150 = some ⟨1, 24, false, [(.slice none 0 0)]⟩ := by kernel_rfl
theorem te150 : telem Tryz.prog 150 = some 9 := by kernel_rfl
theorem ti151 : tinfo Tryz.prog 151 = some ⟨1, 8, false, [.nilFunc]⟩ := by kernel_rfl
theorem ti152 : tinfo Tryz.prog 152 = some ⟨1, 8, false, [.nilFunc]⟩ := by kernel_rfl
theorem ti153 : tinfo Tryz.prog 153 = some ⟨1, 8, false, [.nilFunc]⟩ := by kernel_rfl
theorem ti154 : tinfo Tryz.prog 154 = some ⟨1, 8, false, [.nilFunc]⟩ := by kernel_rfl
theorem ti155 : tinfo Tryz.prog 155 = some ⟨1, 8, false, [.nilFunc]⟩ := by kernel_rfl
theorem ti156 : tinfo Tryz.prog 156 = some ⟨1, 8, false, [.nilFunc]⟩ := by kernel_rfl
theorem ti157 : tinfo Tryz.prog 157 = some ⟨1, 8, false, [.nilFunc]⟩ := by kernel_rfl
theorem ti158 : tinfo Tryz.prog 158 = some ⟨1, 8, false, [.nilFunc]⟩ := by kernel_rfl
theorem ti159 : tinfo Tryz.prog 159 = some ⟨1, 8, false, [.nilFunc]⟩ := by kernel_rfl
theorem ti160 : tinfo Tryz.prog 160 = some ⟨1, 8, false, [.nilFunc]⟩ := by kernel_rfl
theorem ti161 : tinfo Tryz.prog 161 = some ⟨1, 8, false, [.nilFunc]⟩ := by kernel_rfl
theorem ti162 : tinfo Tryz.prog 162 = some ⟨1, 8, false, [.nilFunc]⟩ := by kernel_rfl
theorem ti163 : tinfo Tryz.prog 163 = some ⟨1, 8, false, [.nilFunc]⟩ := by kernel_rfl
theorem ti164 : tinfo Tryz.prog 164 = some ⟨1, 8, false, [.nilFunc]⟩ := by kernel_rfl
theorem ti165 : tinfo Tryz.prog 165 = some ⟨1, 8, false, [.nilFunc]⟩ := by kernel_rfl
theorem ti166 : tinfo Tryz.prog 166 = some ⟨1, 8, false, [.nilFunc]⟩ := by kernel_rfl
theorem ti167 : tinfo Tryz.prog 167 = some ⟨1, 8, false, [.nilFunc]⟩ := by kernel_rfl
theorem ti168 : tinfo Tryz.prog 168 = some ⟨1, 8, false, [.nilFunc]⟩ := by kernel_rfl
theorem ti169 : tinfo Tryz.prog 169 = some ⟨1, 8, false, [.nilFunc]⟩ := by kernel_rfl
theorem ti170 : tinfo Tryz.prog 170 = some ⟨1, 8, false, [.nilFunc]⟩ := by kernel_rfl
theorem ti171 : tinfo Tryz.prog 171 = some ⟨1, 8, false, [.nilFunc]⟩ := by kernel_rfl
theorem ti172 : tinfo Tryz.prog 172 = some ⟨1, 8, false, [.nilFunc]⟩ := by kernel_rfl
theorem ti173 : tinfo Tryz.prog 173 = some ⟨1, 8, false, [.nilFunc]⟩ := by kernel_rfl
theorem ti174 : tinfo Tryz.prog 174 = some ⟨1, 8, false, [.nilFunc]⟩ := by kernel_rfl
theorem ti175 : tinfo Tryz.prog 175 = some ⟨1, 8, false, [.int .u64 0]⟩ := by kernel_rfl
theorem tk175 : tint Tryz.prog 175 = some .u64 := by kernel_rfl
theorem tz175 : tsome Tryz.prog 175 = true := by kernel_rfl
theorem ti176 : tinfo Tryz.prog 176 = some ⟨1, 8, false, [.pointer none]⟩ := by kernel_rfl
theorem ti177 : tinfo Tryz.prog 177 = some ⟨1, 8, false, [.nilFunc]⟩ := by kernel_rfl
theorem ti178 : tinfo Tryz.prog 178 = some ⟨1, 8, false, [.nilFunc]⟩ := by kernel_rfl
theorem ti179 : tinfo Tryz.prog 179 = some ⟨1, 8, false, [.nilFunc]⟩ := by kernel_rfl
theorem ti180 : tinfo Tryz.prog 180 = some ⟨1, 8, false, [.int .i64 0]⟩ := by kernel_rfl
theorem tk180 : tint Tryz.prog 180 = some .i64 := by kernel_rfl
theorem ti182 : tinfo Tryz.prog 182 = some ⟨1, 8, false, [.nilFunc]⟩ := by kernel_rfl
theorem ti183 : tinfo Tryz.prog 183 = some ⟨1, 8, false, [.nilFunc]⟩ := by kernel_rfl
theorem ti184 : tinfo Tryz.prog 184 = some ⟨1, 8, false, [.nilFunc]⟩ := by kernel_rfl
theorem ti186 : tinfo Tryz.prog 186 = some ⟨1, 8, false, [.nilFunc]⟩ := by kernel_rfl
theorem ti187 : tinfo Tryz.prog 187 = some ⟨1, 8, false, [.nilFunc]⟩ := by kernel_rfl
theorem ti188 : tinfo Tryz.prog 188 = some ⟨1, 4, false, [.int .u32 0]⟩ := by kernel_rfl
theorem tk188 : tint Tryz.prog 188 = some .u32 := by kernel_rfl
theorem tz188 : tsome Tryz.prog 188 = true := by kernel_rfl
theorem ti189 : tinfo Tryz.prog 189 = some ⟨1, 8, false, [.nilFunc]⟩ := by kernel_rfl
theorem ti190 : tinfo Tryz.prog 190 = some ⟨1, 8, false, [.int .u64 0]⟩ := by kernel_rfl
theorem tk190 : tint Tryz.prog 190 = some .u64 := by kernel_rfl
theorem tz190 : tsome Tryz.prog 190 = true := by kernel_rfl
theorem ti191 : tinfo Tryz.prog 191 = some ⟨1, 8, false, [.int .u64 0]⟩ := by kernel_rfl
theorem tk191 : tint Tryz.prog 191 = some .u64 := by kernel_rfl
theorem ti192 : tinfo Tryz.prog 192 = some ⟨1, 8, false, [.nilFunc]⟩ := by kernel_rfl
theorem ti193 : tinfo Tryz.prog 193 = some ⟨1, 8, false, [.nilFunc]⟩ := by kernel_rfl
theorem ti194 : tinfo Tryz.prog 194 = some ⟨1, 8, false, [.nilFunc]⟩ := by kernel_rfl
theorem ti195 : tinfo Tryz.prog 195 = some ⟨1, 8, false, [.pointer none]⟩ := by kernel_rfl
theorem ti196 : tinfo Tryz.prog 196 = some ⟨1, 8, false, [.nilFunc]⟩ := by kernel_rfl
theorem ti197 : tinfo Tryz.prog 197 = some ⟨1, 8, false, [.pointer none]⟩ := by kernel_rfl
theorem ti199 : tinfo Tryz.prog 199 = some ⟨1, 8, false, [.nilFunc]⟩ := by kernel_rfl
theorem ti200 : tinfo Tryz.prog 200 = some ⟨1, 8, false, [.nilFunc]⟩ := by kernel_rfl
theorem ti206 : tinfo Tryz.prog 206 = some ⟨1, 8, false, [.nilFunc]⟩ := by kernel_rfl
theorem ti210 : tinfo Tryz.prog 210 = some ⟨1, 8, false, [.pointer none]⟩ := by kernel_rfl
theorem ti215 : tinfo Tryz.prog 215 = some ⟨1, 8, false, [.nilFunc]⟩ := by kernel_rfl
theorem fp13_0 {b sz i j : Nat} : fieldAddrA Tryz.prog 13 (.ptr b sz i j) 0 = some (.ptr b sz i (j + 0)) := fa_p tf13_0 ti9 (by decide)
theorem fv13_0 {es : List (List AV)} {i j : Nat} : fieldAddrA Tryz.prog 13 (.vptr es i j) 0 = some (.vptr es i (j + 0)) := fa_v tf13_0 ti9 (by decide)
theorem fp13_1 {b sz i j : Nat} : fieldAddrA Tryz.prog 13 (.ptr b sz i j) 1 = some (.ptr b sz i (j + 1)) := fa_p tf13_1 ti12 (by decide)
theorem fv13_1 {es : List (List AV)} {i j : Nat} : fieldAddrA Tryz.prog 13 (.vptr es i j) 1 = some (.vptr es i (j + 1)) := fa_v tf13_1 ti12 (by decide)
theorem fp24_0 {b sz i j : Nat} : fieldAddrA Tryz.prog 24 (.ptr b sz i j) 0 = some (.ptr b sz i (j + 0)) := fa_p tf24_0 ti23 (by decide)
theorem fv24_0 {es : List (List AV)} {i j : Nat} : fieldAddrA Tryz.prog 24 (.vptr es i j) 0 = some (.vptr es i (j + 0)) := fa_v tf24_0 ti23 (by decide)
theorem fp25_0 {b sz i j : Nat} : fieldAddrA Tryz.prog 25 (.ptr b sz i j) 0 = some (.ptr b sz i (j + 0)) := fa_p tf25_0 ti23 (by decide)
theorem fv25_0 {es : List (List AV)} {i j : Nat} : fieldAddrA Tryz.prog 25 (.vptr es i j) 0 = some (.vptr es i (j + 0)) := fa_v tf25_0 ti23 (by decide)
theorem fp31_0 {b sz i j : Nat} : fieldAddrA Tryz.prog 31 (.ptr b sz i j) 0 = some (.ptr b sz i (j + 0)) := fa_p tf31_0 ti30 (by decide)
theorem fv31_0 {es : List (List AV)} {i j : Nat} : fieldAddrA Tryz.prog 31 (.vptr es i j) 0 = some (.vptr es i (j + 0)) := fa_v tf31_0 ti30 (by decide)
theorem fp32_0 {b sz i j : Nat} : fieldAddrA Tryz.prog 32 (.ptr b sz i j) 0 = some (.ptr b sz i (j + 0)) := fa_p tf32_0 ti30 (by decide)
theorem fv32_0 {es : List (List AV)} {i j : Nat} : fieldAddrA Tryz.prog 32 (.vptr es i j) 0 = some (.vptr es i (j + 0)) := fa_v tf32_0 ti30 (by decide)
theorem fp33_0 {b sz i j : Nat} : fieldAddrA Tryz.prog 33 (.ptr b sz i j) 0 = some (.ptr b sz i (j + 0)) := fa_p tf33_0 ti29 (by decide)
theorem fv33_0 {es : List (List AV)} {i j : Nat} : fieldAddrA Tryz.prog 33 (.vptr es i j) 0 = some (.vptr es i (j + 0)) := fa_v tf33_0 ti29 (by decide)
theorem fp33_1 {b sz i j : Nat} : fieldAddrA Tryz.prog 33 (.ptr b sz i j) 1 = some (.ptr b sz i (j + 1)) := fa_p tf33_1 ti3 (by decide)
theorem fv33_1 {es : List (List AV)} {i j : Nat} : fieldAddrA Tryz.prog 33 (.vptr es i j) 1 = some (.vptr es i (j + 1)) := fa_v tf33_1 ti3 (by decide)
theorem fp33_2 {b sz i j : Nat} : fieldAddrA Tryz.prog 33 (.ptr b sz i j) 2 = some (.ptr b sz i (j + 2)) := fa_p tf33_2 ti3 (by decide)
theorem fv33_2 {es : List (List AV)} {i j : Nat} : fieldAddrA Tryz.prog 33 (.vptr es i j) 2 = some (.vptr es i (j + 2)) := fa_v tf33_2 ti3 (by decide)
theorem fp33_3 {b sz i j : Nat} : fieldAddrA Tryz.prog 33 (.ptr b sz i j) 3 = some (.ptr b sz i (j + 3)) := fa_p tf33_3 ti32 (by decide)
theorem fv33_3 {es : List (List AV)} {i j : Nat} : fieldAddrA Tryz.prog 33 (.vptr es i j) 3 = some (.vptr es i (j + 3)) := fa_v tf33_3 ti32 (by decide)
theorem fp34_0 {b sz i j : Nat} : fieldAddrA Tryz.prog 34 (.ptr b sz i j) 0 = some (.ptr b sz i (j + 0)) := fa_p tf34_0 ti29 (by decide)
theorem fv34_0 {es : List (List AV)} {i j : Nat} : fieldAddrA Tryz.prog 34 (.vptr es i j) 0 = some (.vptr es i (j + 0)) := fa_v tf34_0 ti29 (by decide)
theorem fp34_1 {b sz i j : Nat} : fieldAddrA Tryz.prog 34 (.ptr b sz i j) 1 = some (.ptr b sz i (j + 1)) := fa_p tf34_1 ti3 (by decide)
theorem fv34_1 {es : List (List AV)} {i j : Nat} : fieldAddrA Tryz.prog 34 (.vptr es i j) 1 = some (.vptr es i (j + 1)) := fa_v tf34_1 ti3 (by decide)
theorem fp34_2 {b sz i j : Nat} : fieldAddrA Tryz.prog 34 (.ptr b sz i j) 2 = some (.ptr b sz i (j + 2)) := fa_p tf34_2 ti3 (by decide)
theorem fv34_2 {es : List (List AV)} {i j : Nat} : fieldAddrA Tryz.prog 34 (.vptr es i j) 2 = some (.vptr es i (j + 2)) := fa_v tf34_2 ti3 (by decide)
theorem fp34_3 {b sz i j : Nat} : fieldAddrA Tryz.prog 34 (.ptr b sz i j) 3 = some (.ptr b sz i (j + 3)) := fa_p tf34_3 ti32 (by decide)
theorem fv34_3 {es : List (List AV)} {i j : Nat} : fieldAddrA Tryz.prog 34 (.vptr es i j) 3 = some (.vptr es i (j + 3)) := fa_v tf34_3 ti32 (by decide)
theorem fp44_0 {b sz i j : Nat} : fieldAddrA Tryz.prog 44 (.ptr b sz i j) 0 = some (.ptr b sz i (j + 0)) := fa_p tf44_0 ti4 (by decide)
theorem fv44_0 {es : List (List AV)} {i j : Nat} : fieldAddrA Tryz.prog 44 (.vptr es i j) 0 = some (.vptr es i (j + 0)) := fa_v tf44_0 ti4 (by decide)
theorem fp44_1 {b sz i j : Nat} : fieldAddrA Tryz.prog 44 (.ptr b sz i j) 1 = some (.ptr b sz i (j + 1)) := fa_p tf44_1 ti3 (by decide)
theorem fv44_1 {es : List (List AV)} {i j : Nat} : fieldAddrA Tryz.prog 44 (.vptr es i j) 1 = some (.vptr es i (j + 1)) := fa_v tf44_1 ti3 (by decide)
theorem fp44_2 {b sz i j : Nat} : fieldAddrA Tryz.prog 44 (.ptr b sz i j) 2 = some (.ptr b sz i (j + 2)) := fa_p tf44_2 ti3 (by decide)
theorem fv44_2 {es : List (List AV)} {i j : Nat} : fieldAddrA Tryz.prog 44 (.vptr es i j) 2 = some (.vptr es i (j + 2)) := fa_v tf44_2 ti3 (by decide)
theorem fp45_0 {b sz i j : Nat} : fieldAddrA Tryz.prog 45 (.ptr b sz i j) 0 = some (.ptr b sz i (j + 0)) := fa_p tf45_0 ti4 (by decide)
theorem fv45_0 {es : List (List AV)} {i j : Nat} : fieldAddrA Tryz.prog 45 (.vptr es i j) 0 = some (.vptr es i (j + 0)) := fa_v tf45_0 ti4 (by decide)
theorem fp45_1 {b sz i j : Nat} : fieldAddrA Tryz.prog 45 (.ptr b sz i j) 1 = some (.ptr b sz i (j + 1)) := fa_p tf45_1 ti3 (by decide)
theorem fv45_1 {es : List (List AV)} {i j : Nat} : fieldAddrA Tryz.prog 45 (.vptr es i j) 1 = some (.vptr es i (j + 1)) := fa_v tf45_1 ti3 (by decide)
theorem fp45_2 {b sz i j : Nat} : fieldAddrA Tryz.prog 45 (.ptr b sz i j) 2 = some (.ptr b sz i (j + 2)) := fa_p tf45_2 ti3 (by decide)
theorem fv45_2 {es : List (List AV)} {i j : Nat} : fieldAddrA Tryz.prog 45 (.vptr es i j) 2 = some (.vptr es i (j + 2)) := fa_v tf45_2 ti3 (by decide)
theorem fp49_0 {b sz i j : Nat} : fieldAddrA Tryz.prog 49 (.ptr b sz i j) 0 = some (.ptr b sz i (j + 0)) := fa_p tf49_0 ti3 (by decide)
theorem fv49_0 {es : List (List AV)} {i j : Nat} : fieldAddrA Tryz.prog 49 (.vptr es i j) 0 = some (.vptr es i (j + 0)) := fa_v tf49_0 ti3 (by decide)
theorem fp49_1 {b sz i j : Nat} : fieldAddrA Tryz.prog 49 (.ptr b sz i j) 1 = some (.ptr b sz i (j + 1)) := fa_p tf49_1 ti3 (by decide)
theorem fv49_1 {es : List (List AV)} {i j : Nat} : fieldAddrA Tryz.prog 49 (.vptr es i j) 1 = some (.vptr es i (j + 1)) := fa_v tf49_1 ti3 (by decide)
theorem fp49_2 {b sz i j : Nat} : fieldAddrA Tryz.prog 49 (.ptr b sz i j) 2 = some (.ptr b sz i (j + 2)) := fa_p tf49_2 ti3 (by decide)
theorem fv49_2 {es : List (List AV)} {i j : Nat} : fieldAddrA Tryz.prog 49 (.vptr es i j) 2 = some (.vptr es i (j + 2)) := fa_v tf49_2 ti3 (by decide)
theorem fp49_3 {b sz i j : Nat} : fieldAddrA Tryz.prog 49 (.ptr b sz i j) 3 = some (.ptr b sz i (j + 3)) := fa_p tf49_3 ti3 (by decide)
theorem fv49_3 {es : List (List AV)} {i j : Nat} : fieldAddrA Tryz.prog 49 (.vptr es i j) 3 = some (.vptr es i (j + 3)) := fa_v tf49_3 ti3 (by decide)
theorem fp50_0 {b sz i j : Nat} : fieldAddrA Tryz.prog 50 (.ptr b sz i j) 0 = some (.ptr b sz i (j + 0)) := fa_p tf50_0 ti3 (by decide)
theorem fv50_0 {es : List (List AV)} {i j : Nat} : fieldAddrA Tryz.prog 50 (.vptr es i j) 0 = some (.vptr es i (j + 0)) := fa_v tf50_0 ti3 (by decide)
theorem fp50_1 {b sz i j : Nat} : fieldAddrA Tryz.prog 50 (.ptr b sz i j) 1 = some (.ptr b sz i (j + 1)) := fa_p tf50_1 ti3 (by decide)
theorem fv50_1 {es : List (List AV)} {i j : Nat} : fieldAddrA Tryz.prog 50 (.vptr es i j) 1 = some (.vptr es i (j + 1)) := fa_v tf50_1 ti3 (by decide)
theorem fp50_2 {b sz i j : Nat} : fieldAddrA Tryz.prog 50 (.ptr b sz i j) 2 = some (.ptr b sz i (j + 2)) := fa_p tf50_2 ti3 (by decide)
theorem fv50_2 {es : List (List AV)} {i j : Nat} : fieldAddrA Tryz.prog 50 (.vptr es i j) 2 = some (.vptr es i (j + 2)) := fa_v tf50_2 ti3 (by decide)
theorem fp50_3 {b sz i j : Nat} : fieldAddrA Tryz.prog 50 (.ptr b sz i j) 3 = some (.ptr b sz i (j + 3)) := fa_p tf50_3 ti3 (by decide)
theorem fv50_3 {es : List (List AV)} {i j : Nat} : fieldAddrA Tryz.prog 50 (.vptr es i j) 3 = some (.vptr es i (j + 3)) := fa_v tf50_3 ti3 (by decide)
theorem fp68_0 {b sz i j : Nat} : fieldAddrA Tryz.prog 68 (.ptr b sz i j) 0 = some (.ptr b sz i (j + 0)) := fa_p tf68_0 ti3 (by decide)
theorem fv68_0 {es : List (List AV)} {i j : Nat} : fieldAddrA Tryz.prog 68 (.vptr es i j) 0 = some (.vptr es i (j + 0)) := fa_v tf68_0 ti3 (by decide)
theorem fp68_1 {b sz i j : Nat} : fieldAddrA Tryz.prog 68 (.ptr b sz i j) 1 = some (.ptr b sz i (j + 1)) := fa_p tf68_1 ti3 (by decide)
theorem fv68_1 {es : List (List AV)} {i j : Nat} : fieldAddrA Tryz.prog 68 (.vptr es i j) 1 = some (.vptr es i (j + 1)) := fa_v tf68_1 ti3 (by decide)
theorem fp69_0 {b sz i j : Nat} : fieldAddrA Tryz.prog 69 (.ptr b sz i j) 0 = some (.ptr b sz i (j + 0)) := fa_p tf69_0 ti3 (by decide)
theorem fv69_0 {es : List (List AV)} {i j : Nat} : fieldAddrA Tryz.prog 69 (.vptr es i j) 0 = some (.vptr es i (j + 0)) := fa_v tf69_0 ti3 (by decide)
theorem fp69_1 {b sz i j : Nat} : fieldAddrA Tryz.prog 69 (.ptr b sz i j) 1 = some (.ptr b sz i (j + 1)) := fa_p tf69_1 ti3 (by decide)
theorem fv69_1 {es : List (List AV)} {i j : Nat} : fieldAddrA Tryz.prog 69 (.vptr es i j) 1 = some (.vptr es i (j + 1)) := fa_v tf69_1 ti3 (by decide)
theorem fp85_0 {b sz i j : Nat} : fieldAddrA Tryz.prog 85 (.ptr b sz i j) 0 = some (.ptr b sz i (j + 0)) := fa_p tf85_0 ti3 (by decide)
theorem fv85_0 {es : List (List AV)} {i j : Nat} : fieldAddrA Tryz.prog 85 (.vptr es i j) 0 = some (.vptr es i (j + 0)) := fa_v tf85_0 ti3 (by decide)
theorem fp85_1 {b sz i j : Nat} : fieldAddrA Tryz.prog 85 (.ptr b sz i j) 1 = some (.ptr b sz i (j + 1)) := fa_p tf85_1 ti3 (by decide)
theorem fv85_1 {es : List (List AV)} {i j : Nat} : fieldAddrA Tryz.prog 85 (.vptr es i j) 1 = some (.vptr es i (j + 1)) := fa_v tf85_1 ti3 (by decide)
theorem fp85_2 {b sz i j : Nat} : fieldAddrA Tryz.prog 85 (.ptr b sz i j) 2 = some (.ptr b sz i (j + 2)) := fa_p tf85_2 ti3 (by decide)
theorem fv85_2 {es : List (List AV)} {i j : Nat} : fieldAddrA Tryz.prog 85 (.vptr es i j) 2 = some (.vptr es i (j + 2)) := fa_v tf85_2 ti3 (by decide)
theorem fp85_3 {b sz i j : Nat} : fieldAddrA Tryz.prog 85 (.ptr b sz i j) 3 = some (.ptr b sz i (j + 3)) := fa_p tf85_3 ti3 (by decide)
theorem fv85_3 {es : List (List AV)} {i j : Nat} : fieldAddrA Tryz.prog 85 (.vptr es i j) 3 = some (.vptr es i (j + 3)) := fa_v tf85_3 ti3 (by decide)
theorem fp85_4 {b sz i j : Nat} : fieldAddrA Tryz.prog 85 (.ptr b sz i j) 4 = some (.ptr b sz i (j + 4)) := fa_p tf85_4 ti4 (by decide)
theorem fv85_4 {es : List (List AV)} {i j : Nat} : fieldAddrA Tryz.prog 85 (.vptr es i j) 4 = some (.vptr es i (j + 4)) := fa_v tf85_4 ti4 (by decide)
theorem fp86_0 {b sz i j : Nat} : fieldAddrA Tryz.prog 86 (.ptr b sz i j) 0 = some (.ptr b sz i (j + 0)) := fa_p tf86_0 ti3 (by decide)
theorem fv86_0 {es : List (List AV)} {i j : Nat} : fieldAddrA Tryz.prog 86 (.vptr es i j) 0 = some (.vptr es i (j + 0)) := fa_v tf86_0 ti3 (by decide)
theorem fp86_1 {b sz i j : Nat} : fieldAddrA Tryz.prog 86 (.ptr b sz i j) 1 = some (.ptr b sz i (j + 1)) := fa_p tf86_1 ti3 (by decide)
theorem fv86_1 {es : List (List AV)} {i j : Nat} : fieldAddrA Tryz.prog 86 (.vptr es i j) 1 = some (.vptr es i (j + 1)) := fa_v tf86_1 ti3 (by decide)
theorem fp86_2 {b sz i j : Nat} : fieldAddrA Tryz.prog 86 (.ptr b sz i j) 2 = some (.ptr b sz i (j + 2)) := fa_p tf86_2 ti3 (by decide)
theorem fv86_2 {es : List (List AV)} {i j : Nat} : fieldAddrA Tryz.prog 86 (.vptr es i j) 2 = some (.vptr es i (j + 2)) := fa_v tf86_2 ti3 (by decide)
theorem fp86_3 {b sz i j : Nat} : fieldAddrA Tryz.prog 86 (.ptr b sz i j) 3 = some (.ptr b sz i (j + 3)) := fa_p tf86_3 ti3 (by decide)
theorem fv86_3 {es : List (List AV)} {i j : Nat} : fieldAddrA Tryz.prog 86 (.vptr es i j) 3 = some (.vptr es i (j + 3)) := fa_v tf86_3 ti3 (by decide)
theorem fp86_4 {b sz i j : Nat} : fieldAddrA Tryz.prog 86 (.ptr b sz i j) 4 = some (.ptr b sz i (j + 4)) := fa_p tf86_4 ti4 (by decide)
theorem fv86_4 {es : List (List AV)} {i j : Nat} : fieldAddrA Tryz.prog 86 (.vptr es i j) 4 = some (.vptr es i (j + 4)) := fa_v tf86_4 ti4 (by decide)
theorem fp97_0 {b sz i j : Nat} : fieldAddrA Tryz.prog 97 (.ptr b sz i j) 0 = some (.ptr b sz i (j + 0)) := fa_p tf97_0 ti3 (by decide)
theorem fv97_0 {es : List (List AV)} {i j : Nat} : fieldAddrA Tryz.prog 97 (.vptr es i j) 0 = some (.vptr es i (j + 0)) := fa_v tf97_0 ti3 (by decide)
theorem fp97_1 {b sz i j : Nat} : fieldAddrA Tryz.prog 97 (.ptr b sz i j) 1 = some (.ptr b sz i (j + 1)) := fa_p tf97_1 ti3 (by decide)
theorem fv97_1 {es : List (List AV)} {i j : Nat} : fieldAddrA Tryz.prog 97 (.vptr es i j) 1 = some (.vptr es i (j + 1)) := fa_v tf97_1 ti3 (by decide)
theorem fp97_2 {b sz i j : Nat} : fieldAddrA Tryz.prog 97 (.ptr b sz i j) 2 = some (.ptr b sz i (j + 2)) := fa_p tf97_2 ti3 (by decide)
theorem fv97_2 {es : List (List AV)} {i j : Nat} : fieldAddrA Tryz.prog 97 (.vptr es i j) 2 = some (.vptr es i (j + 2)) := fa_v tf97_2 ti3 (by decide)
theorem fp98_0 {b sz i j : Nat} : fieldAddrA Tryz.prog 98 (.ptr b sz i j) 0 = some (.ptr b sz i (j + 0)) := fa_p tf98_0 ti3 (by decide)
theorem fv98_0 {es : List (List AV)} {i j : Nat} : fieldAddrA Tryz.prog 98 (.vptr es i j) 0 = some (.vptr es i (j + 0)) := fa_v tf98_0 ti3 (by decide)
theorem fp98_1 {b sz i j : Nat} : fieldAddrA Tryz.prog 98 (.ptr b sz i j) 1 = some (.ptr b sz i (j + 1)) := fa_p tf98_1 ti3 (by decide)
theorem fv98_1 {es : List (List AV)} {i j : Nat} : fieldAddrA Tryz.prog 98 (.vptr es i j) 1 = some (.vptr es i (j + 1)) := fa_v tf98_1 ti3 (by decide)
theorem fp98_2 {b sz i j : Nat} : fieldAddrA Tryz.prog 98 (.ptr b sz i j) 2 = some (.ptr b sz i (j + 2)) := fa_p tf98_2 ti3 (by decide)
theorem fv98_2 {es : List (List AV)} {i j : Nat} : fieldAddrA Tryz.prog 98 (.vptr es i j) 2 = some (.vptr es i (j + 2)) := fa_v tf98_2 ti3 (by decide)
theorem fp107_0 {b sz i j : Nat} : fieldAddrA Tryz.prog 107 (.ptr b sz i j) 0 = some (.ptr b sz i (j + 0)) := fa_p tf107_0 ti22 (by decide)
theorem fv107_0 {es : List (List AV)} {i j : Nat} : fieldAddrA Tryz.prog 107 (.vptr es i j) 0 = some (.vptr es i (j + 0)) := fa_v tf107_0 ti22 (by decide)
theorem fp107_1 {b sz i j : Nat} : fieldAddrA Tryz.prog 107 (.ptr b sz i j) 1 = some (.ptr b sz i (j + 1)) := fa_p tf107_1 ti3 (by decide)
theorem fv107_1 {es : List (List AV)} {i j : Nat} : fieldAddrA Tryz.prog 107 (.vptr es i j) 1 = some (.vptr es i (j + 1)) := fa_v tf107_1 ti3 (by decide)
theorem fp108_0 {b sz i j : Nat} : fieldAddrA Tryz.prog 108 (.ptr b sz i j) 0 = some (.ptr b sz i (j + 0)) := fa_p tf108_0 ti22 (by decide)
theorem fv108_0 {es : List (List AV)} {i j : Nat} : fieldAddrA Tryz.prog 108 (.vptr es i j) 0 = some (.vptr es i (j + 0)) := fa_v tf108_0 ti22 (by decide)
theorem fp108_1 {b sz i j : Nat} : fieldAddrA Tryz.prog 108 (.ptr b sz i j) 1 = some (.ptr b sz i (j + 1)) := fa_p tf108_1 ti3 (by decide)
theorem fv108_1 {es : List (List AV)} {i j : Nat} : fieldAddrA Tryz.prog 108 (.vptr es i j) 1 = some (.vptr es i (j + 1)) := fa_v tf108_1 ti3 (by decide)
theorem fp109_0 {b sz i j : Nat} : fieldAddrA Tryz.prog 109 (.ptr b sz i j) 0 = some (.ptr b sz i (j + 0)) := fa_p tf109_0 ti25 (by decide)
theorem fv109_0 {es : List (List AV)} {i j : Nat} : fieldAddrA Tryz.prog 109 (.vptr es i j) 0 = some (.vptr es i (j + 0)) := fa_v tf109_0 ti25 (by decide)
theorem fp109_1 {b sz i j : Nat} : fieldAddrA Tryz.prog 109 (.ptr b sz i j) 1 = some (.ptr b sz i (j + 1)) := fa_p tf109_1 ti26 (by decide)
theorem fv109_1 {es : List (List AV)} {i j : Nat} : fieldAddrA Tryz.prog 109 (.vptr es i j) 1 = some (.vptr es i (j + 1)) := fa_v tf109_1 ti26 (by decide)
theorem fp109_2 {b sz i j : Nat} : fieldAddrA Tryz.prog 109 (.ptr b sz i j) 2 = some (.ptr b sz i (j + 2)) := fa_p tf109_2 ti29 (by decide)
theorem fv109_2 {es : List (List AV)} {i j : Nat} : fieldAddrA Tryz.prog 109 (.vptr es i j) 2 = some (.vptr es i (j + 2)) := fa_v tf109_2 ti29 (by decide)
theorem fp109_3 {b sz i j : Nat} : fieldAddrA Tryz.prog 109 (.ptr b sz i j) 3 = some (.ptr b sz i (j + 3)) := fa_p tf109_3 ti32 (by decide)
theorem fv109_3 {es : List (List AV)} {i j : Nat} : fieldAddrA Tryz.prog 109 (.vptr es i j) 3 = some (.vptr es i (j + 3)) := fa_v tf109_3 ti32 (by decide)
theorem fp109_4 {b sz i j : Nat} : fieldAddrA Tryz.prog 109 (.ptr b sz i j) 4 = some (.ptr b sz i (j + 4)) := fa_p tf109_4 ti3 (by decide)
theorem fv109_4 {es : List (List AV)} {i j : Nat} : fieldAddrA Tryz.prog 109 (.vptr es i j) 4 = some (.vptr es i (j + 4)) := fa_v tf109_4 ti3 (by decide)
theorem fp110_0 {b sz i j : Nat} : fieldAddrA Tryz.prog 110 (.ptr b sz i j) 0 = some (.ptr b sz i (j + 0)) := fa_p tf110_0 ti25 (by decide)
theorem fv110_0 {es : List (List AV)} {i j : Nat} : fieldAddrA Tryz.prog 110 (.vptr es i j) 0 = some (.vptr es i (j + 0)) := fa_v tf110_0 ti25 (by decide)
theorem fp110_1 {b sz i j : Nat} : fieldAddrA Tryz.prog 110 (.ptr b sz i j) 1 = some (.ptr b sz i (j + 1)) := fa_p tf110_1 ti26 (by decide)
theorem fv110_1 {es : List (List AV)} {i j : Nat} : fieldAddrA Tryz.prog 110 (.vptr es i j) 1 = some (.vptr es i (j + 1)) := fa_v tf110_1 ti26 (by decide)
theorem fp110_2 {b sz i j : Nat} : fieldAddrA Tryz.prog 110 (.ptr b sz i j) 2 = some (.ptr b sz i (j + 2)) := fa_p tf110_2 ti29 (by decide)
theorem fv110_2 {es : List (List AV)} {i j : Nat} : fieldAddrA Tryz.prog 110 (.vptr es i j) 2 = some (.vptr es i (j + 2)) := fa_v tf110_2 ti29 (by decide)
theorem fp110_3 {b sz i j : Nat} : fieldAddrA Tryz.prog 110 (.ptr b sz i j) 3 = some (.ptr b sz i (j + 3)) := fa_p tf110_3 ti32 (by decide)
theorem fv110_3 {es : List (List AV)} {i j : Nat} : fieldAddrA Tryz.prog 110 (.vptr es i j) 3 = some (.vptr es i (j + 3)) := fa_v tf110_3 ti32 (by decide)
theorem fp110_4 {b sz i j : Nat} : fieldAddrA Tryz.prog 110 (.ptr b sz i j) 4 = some (.ptr b sz i (j + 4)) := fa_p tf110_4 ti3 (by decide)
theorem fv110_4 {es : List (List AV)} {i j : Nat} : fieldAddrA Tryz.prog 110 (.vptr es i j) 4 = some (.vptr es i (j + 4)) := fa_v tf110_4 ti3 (by decide)
theorem fp120_0 {b sz i j : Nat} : fieldAddrA Tryz.prog 120 (.ptr b sz i j) 0 = some (.ptr b sz i (j + 0)) := fa_p tf120_0 ti25 (by decide)
theorem fv120_0 {es : List (List AV)} {i j : Nat} : fieldAddrA Tryz.prog 120 (.vptr es i j) 0 = some (.vptr es i (j + 0)) := fa_v tf120_0 ti25 (by decide)
theorem fp120_1 {b sz i j : Nat} : fieldAddrA Tryz.prog 120 (.ptr b sz i j) 1 = some (.ptr b sz i (j + 1)) := fa_p tf120_1 ti26 (by decide)
theorem fv120_1 {es : List (List AV)} {i j : Nat} : fieldAddrA Tryz.prog 120 (.vptr es i j) 1 = some (.vptr es i (j + 1)) := fa_v tf120_1 ti26 (by decide)
theorem fp120_2 {b sz i j : Nat} : fieldAddrA Tryz.prog 120 (.ptr b sz i j) 2 = some (.ptr b sz i (j + 2)) := fa_p tf120_2 ti29 (by decide)
theorem fv120_2 {es : List (List AV)} {i j : Nat} : fieldAddrA Tryz.prog 120 (.vptr es i j) 2 = some (.vptr es i (j + 2)) := fa_v tf120_2 ti29 (by decide)
theorem fp120_3 {b sz i j : Nat} : fieldAddrA Tryz.prog 120 (.ptr b sz i j) 3 = some (.ptr b sz i (j + 3)) := fa_p tf120_3 ti32 (by decide)
theorem fv120_3 {es : List (List AV)} {i j : Nat} : fieldAddrA Tryz.prog 120 (.vptr es i j) 3 = some (.vptr es i (j + 3)) := fa_v tf120_3 ti32 (by decide)
theorem fp121_0 {b sz i j : Nat} : fieldAddrA Tryz.prog 121 (.ptr b sz i j) 0 = some (.ptr b sz i (j + 0)) := fa_p tf121_0 ti25 (by decide)
theorem fv121_0 {es : List (List AV)} {i j : Nat} : fieldAddrA Tryz.prog 121 (.vptr es i j) 0 = some (.vptr es i (j + 0)) := fa_v tf121_0 ti25 (by decide)
theorem fp121_1 {b sz i j : Nat} : fieldAddrA Tryz.prog 121 (.ptr b sz i j) 1 = some (.ptr b sz i (j + 1)) := fa_p tf121_1 ti26 (by decide)
theorem fv121_1 {es : List (List AV)} {i j : Nat} : fieldAddrA Tryz.prog 121 (.vptr es i j) 1 = some (.vptr es i (j + 1)) := fa_v tf121_1 ti26 (by decide)
theorem fp121_2 {b sz i j : Nat} : fieldAddrA Tryz.prog 121 (.ptr b sz i j) 2 = some (.ptr b sz i (j + 2)) := fa_p tf121_2 ti29 (by decide)
theorem fv121_2 {es : List (List AV)} {i j : Nat} : fieldAddrA Tryz.prog 121 (.vptr es i j) 2 = some (.vptr es i (j + 2)) := fa_v tf121_2 ti29 (by decide)
theorem fp121_3 {b sz i j : Nat} : fieldAddrA Tryz.prog 121 (.ptr b sz i j) 3 = some (.ptr b sz i (j + 3)) := fa_p tf121_3 ti32 (by decide)
theorem fv121_3 {es : List (List AV)} {i j : Nat} : fieldAddrA Tryz.prog 121 (.vptr es i j) 3 = some (.vptr es i (j + 3)) := fa_v tf121_3 ti32 (by decide)
theorem fp122_0 {b sz i j : Nat} : fieldAddrA Tryz.prog 122 (.ptr b sz i j) 0 = some (.ptr b sz i (j + 0)) := fa_p tf122_0 ti3 (by decide)
theorem fv122_0 {es : List (List AV)} {i j : Nat} : fieldAddrA Tryz.prog 122 (.vptr es i j) 0 = some (.vptr es i (j + 0)) := fa_v tf122_0 ti3 (by decide)
theorem fp122_1 {b sz i j : Nat} : fieldAddrA Tryz.prog 122 (.ptr b sz i j) 1 = some (.ptr b sz i (j + 1)) := fa_p tf122_1 ti3 (by decide)
theorem fv122_1 {es : List (List AV)} {i j : Nat} : fieldAddrA Tryz.prog 122 (.vptr es i j) 1 = some (.vptr es i (j + 1)) := fa_v tf122_1 ti3 (by decide)
theorem fp123_0 {b sz i j : Nat} : fieldAddrA Tryz.prog 123 (.ptr b sz i j) 0 = some (.ptr b sz i (j + 0)) := fa_p tf123_0 ti3 (by decide)
theorem fv123_0 {es : List (List AV)} {i j : Nat} : fieldAddrA Tryz.prog 123 (.vptr es i j) 0 = some (.vptr es i (j + 0)) := fa_v tf123_0 ti3 (by decide)
theorem fp123_1 {b sz i j : Nat} : fieldAddrA Tryz.prog 123 (.ptr b sz i j) 1 = some (.ptr b sz i (j + 1)) := fa_p tf123_1 ti3 (by decide)
theorem fv123_1 {es : List (List AV)} {i j : Nat} : fieldAddrA Tryz.prog 123 (.vptr es i j) 1 = some (.vptr es i (j + 1)) := fa_v tf123_1 ti3 (by decide)
theorem fp126_0 {b sz i j : Nat} : fieldAddrA Tryz.prog 126 (.ptr b sz i j) 0 = some (.ptr b sz i (j + 0)) := fa_p tf126_0 ti9 (by decide)
theorem fv126_0 {es : List (List AV)} {i j : Nat} : fieldAddrA Tryz.prog 126 (.vptr es i j) 0 = some (.vptr es i (j + 0)) := fa_v tf126_0 ti9 (by decide)
theorem fp126_1 {b sz i j : Nat} : fieldAddrA Tryz.prog 126 (.ptr b sz i j) 1 = some (.ptr b sz i (j + 1)) := fa_p tf126_1 ti3 (by decide)
theorem fv126_1 {es : List (List AV)} {i j : Nat} : fieldAddrA Tryz.prog 126 (.vptr es i j) 1 = some (.vptr es i (j + 1)) := fa_v tf126_1 ti3 (by decide)
theorem fp127_0 {b sz i j : Nat} : fieldAddrA Tryz.prog 127 (.ptr b sz i j) 0 = some (.ptr b sz i (j + 0)) := fa_p tf127_0 ti9 (by decide)
theorem fv127_0 {es : List (List AV)} {i j : Nat} : fieldAddrA Tryz.prog 127 (.vptr es i j) 0 = some (.vptr es i (j + 0)) := fa_v tf127_0 ti9 (by decide)
theorem fp127_1 {b sz i j : Nat} : fieldAddrA Tryz.prog 127 (.ptr b sz i j) 1 = some (.ptr b sz i (j + 1)) := fa_p tf127_1 ti3 (by decide)
theorem fv127_1 {es : List (List AV)} {i j : Nat} : fieldAddrA Tryz.prog 127 (.vptr es i j) 1 = some (.vptr es i (j + 1)) := fa_v tf127_1 ti3 (by decide)
theorem fp144_0 {b sz i j : Nat} : fieldAddrA Tryz.prog 144 (.ptr b sz i j) 0 = some (.ptr b sz i (j + 0)) := fa_p tf144_0 ti29 (by decide)
theorem fv144_0 {es : List (List AV)} {i j : Nat} : fieldAddrA Tryz.prog 144 (.vptr es i j) 0 = some (.vptr es i (j + 0)) := fa_v tf144_0 ti29 (by decide)
theorem fp144_1 {b sz i j : Nat} : fieldAddrA Tryz.prog 144 (.ptr b sz i j) 1 = some (.ptr b sz i (j + 1)) := fa_p tf144_1 ti32 (by decide)
theorem fv144_1 {es : List (List AV)} {i j : Nat} : fieldAddrA Tryz.prog 144 (.vptr es i j) 1 = some (.vptr es i (j + 1)) := fa_v tf144_1 ti32 (by decide)
theorem fp144_2 {b sz i j : Nat} : fieldAddrA Tryz.prog 144 (.ptr b sz i j) 2 = some (.ptr b sz i (j + 2)) := fa_p tf144_2 ti3 (by decide)
theorem fv144_2 {es : List (List AV)} {i j : Nat} : fieldAddrA Tryz.prog 144 (.vptr es i j) 2 = some (.vptr es i (j + 2)) := fa_v tf144_2 ti3 (by decide)
theorem fp145_0 {b sz i j : Nat} : fieldAddrA Tryz.prog 145 (.ptr b sz i j) 0 = some (.ptr b sz i (j + 0)) := fa_p tf145_0 ti29 (by decide)
theorem fv145_0 {es : List (List AV)} {i j : Nat} : fieldAddrA Tryz.prog 145 (.vptr es i j) 0 = some (.vptr es i (j + 0)) := fa_v tf145_0 ti29 (by decide)
theorem fp145_1 {b sz i j : Nat} : fieldAddrA Tryz.prog 145 (.ptr b sz i j) 1 = some (.ptr b sz i (j + 1)) := fa_p tf145_1 ti32 (by decide)
theorem fv145_1 {es : List (List AV)} {i j : Nat} : fieldAddrA Tryz.prog 145 (.vptr es i j) 1 = some (.vptr es i (j + 1)) := fa_v tf145_1 ti32 (by decide)
theorem fp145_2 {b sz i j : Nat} : fieldAddrA Tryz.prog 145 (.ptr b sz i j) 2 = some (.ptr b sz i (j + 2)) := fa_p tf145_2 ti3 (by decide)
theorem fv145_2 {es : List (List AV)} {i j : Nat} : fieldAddrA Tryz.prog 145 (.vptr es i j) 2 = some (.vptr es i (j + 2)) := fa_v tf145_2 ti3 (by decide)
theorem lv22 {es : List (List AV)} {cl : Bool} : lenA Tryz.prog 22 (.vsl es cl) = some (I es.length) := lenV te22
theorem ll22 {b sz off len : Nat} {cl : Bool} : lenA Tryz.prog 22 (.sl b sz off len cl) = some (I len) := lenL te22
theorem is22 {b off len : Nat} {cl : Bool} {kd : IntKind} {n : Int} : indexAddrA Tryz.prog 22 (.sl b 1 off len cl) (.lit (.int kd n)) = if 0 ≤ n ∧ n < len then some (.ptr b 1 (off + n.toNat) 0) else none := ixs te22 ti5
theorem ix22 {l : List UInt8} {cl : Bool} {kd : IntKind} {n : Int} : indexAddrA Tryz.prog 22 (.vsl (l.map rU) cl) (.lit (.int kd n)) = if 0 ≤ n ∧ n < l.length then some (.vptr (l.map rU) n.toNat 0) else none := ixv te22 ti5 rU_len (by decide)
theorem sh22 {l : List UInt8} {cl : Bool} {h : Int} {ka : IntKind} : sliceA Tryz.prog 22 (.vsl (l.map rU) cl) none (some (.lit (.int ka h))) none = if 0 ≤ h ∧ h ≤ l.length then some (.vsl ((l.take h.toNat).map rU) (clipOf none h l.length cl)) else none := sl_hi te22 ti5 rU_len
theorem so22 {l : List UInt8} {cl : Bool} {lo : Int} {ka : IntKind} : sliceA Tryz.prog 22 (.vsl (l.map rU) cl) (some (.lit (.int ka lo))) none none = if 0 ≤ lo ∧ lo ≤ l.length then some (.vsl ((l.drop lo.toNat).map rU) cl) else none := sl_lo te22 ti5 rU_len
theorem sb22 {l : List UInt8} {cl : Bool} {lo h : Int} {ka kb : IntKind} : sliceA Tryz.prog 22 (.vsl (l.map rU) cl) (some (.lit (.int ka lo))) (some (.lit (.int kb h))) none = if 0 ≤ lo ∧ lo ≤ h ∧ h ≤ l.length then some (.vsl (((l.take h.toNat).drop lo.toNat).map rU) (clipOf none h l.length cl)) else none := sl_lohi te22 ti5 rU_len
theorem sm22 {l : List UInt8} {cl : Bool} {h m : Int} {ka kb : IntKind} : sliceA Tryz.prog 22 (.vsl (l.map rU) cl) none (some (.lit (.int ka h))) (some (.lit (.int kb m))) = if 0 ≤ h ∧ h ≤ m ∧ m ≤ l.length then some (.vsl ((l.take h.toNat).map rU) (decide (m = h))) else none := sl_hm te22 ti5 rU_len
theorem sp22 {b off n : Nat} {cl : Bool} {h m : Int} {ka kb : IntKind} : sliceA Tryz.prog 22 (.sl b 1 off n cl) none (some (.lit (.int ka h))) (some (.lit (.int kb m))) = if 0 ≤ h ∧ h ≤ m ∧ m ≤ n then some (.sl b 1 off h.toNat (decide (m = h))) else none := so_hm te22 ti5 rfl
theorem lv23 {es : List (List AV)} {cl : Bool} : lenA Tryz.prog 23 (.vsl es cl) = some (I es.length) := lenV te23
theorem ll23 {b sz off len : Nat} {cl : Bool} : lenA Tryz.prog 23 (.sl b sz off len cl) = some (I len) := lenL te23
theorem is23 {b off len : Nat} {cl : Bool} {kd : IntKind} {n : Int} : indexAddrA Tryz.prog 23 (.sl b 2 off len cl) (.lit (.int kd n)) = if 0 ≤ n ∧ n < len then some (.ptr b 2 (off + n.toNat) 0) else none := ixs te23 ti127
theorem ix23 {l : List Class} {cl : Bool} {kd : IntKind} {n : Int} : indexAddrA Tryz.prog 23 (.vsl (l.map rClass) cl) (.lit (.int kd n)) = if 0 ≤ n ∧ n < l.length then some (.vptr (l.map rClass) n.toNat 0) else none := ixv te23 ti127 rClass_len (by decide)
theorem sh23 {l : List Class} {cl : Bool} {h : Int} {ka : IntKind} : sliceA Tryz.prog 23 (.vsl (l.map rClass) cl) none (some (.lit (.int ka h))) none = if 0 ≤ h ∧ h ≤ l.length then some (.vsl ((l.take h.toNat).map rClass) (clipOf none h l.length cl)) else none := sl_hi te23 ti127 rClass_len
theorem so23 {l : List Class} {cl : Bool} {lo : Int} {ka : IntKind} : sliceA Tryz.prog 23 (.vsl (l.map rClass) cl) (some (.lit (.int ka lo))) none none = if 0 ≤ lo ∧ lo ≤ l.length then some (.vsl ((l.drop lo.toNat).map rClass) cl) else none := sl_lo te23 ti127 rClass_len
theorem sb23 {l : List Class} {cl : Bool} {lo h : Int} {ka kb : IntKind} : sliceA Tryz.prog 23 (.vsl (l.map rClass) cl) (some (.lit (.int ka lo))) (some (.lit (.int kb h))) none = if 0 ≤ lo ∧ lo ≤ h ∧ h ≤ l.length then some (.vsl (((l.take h.toNat).drop lo.toNat).map rClass) (clipOf none h l.length cl)) else none := sl_lohi te23 ti127 rClass_len
theorem sm23 {l : List Class} {cl : Bool} {h m : Int} {ka kb : IntKind} : sliceA Tryz.prog 23 (.vsl (l.map rClass) cl) none (some (.lit (.int ka h))) (some (.lit (.int kb m))) = if 0 ≤ h ∧ h ≤ m ∧ m ≤ l.length then some (.vsl ((l.take h.toNat).map rClass) (decide (m = h))) else none := sl_hm te23 ti127 rClass_len
theorem sp23 {b off n : Nat} {cl : Bool} {h m : Int} {ka kb : IntKind} : sliceA Tryz.prog 23 (.sl b 2 off n cl) none (some (.lit (.int ka h))) (some (.lit (.int kb m))) = if 0 ≤ h ∧ h ≤ m ∧ m ≤ n then some (.sl b 2 off h.toNat (decide (m = h))) else none := so_hm te23 ti127 rfl
theorem lv26 {es : List (List AV)} {cl : Bool} : lenA Tryz.prog 26 (.vsl es cl) = some (I es.length) := lenV te26
theorem ll26 {b sz off len : Nat} {cl : Bool} : lenA Tryz.prog 26 (.sl b sz off len cl) = some (I len) := lenL te26
theorem is26 {b off len : Nat} {cl : Bool} {kd : IntKind} {n : Int} : indexAddrA Tryz.prog 26 (.sl b 4 off len cl) (.lit (.int kd n)) = if 0 ≤ n ∧ n < len then some (.ptr b 4 (off + n.toNat) 0) else none := ixs te26 ti50
theorem ix26 {l : List Line} {cl : Bool} {kd : IntKind} {n : Int} : indexAddrA Tryz.prog 26 (.vsl (l.map rLine) cl) (.lit (.int kd n)) = if 0 ≤ n ∧ n < l.length then some (.vptr (l.map rLine) n.toNat 0) else none := ixv te26 ti50 rLine_len (by decide)
theorem sh26 {l : List Line} {cl : Bool} {h : Int} {ka : IntKind} : sliceA Tryz.prog 26 (.vsl (l.map rLine) cl) none (some (.lit (.int ka h))) none = if 0 ≤ h ∧ h ≤ l.length then some (.vsl ((l.take h.toNat).map rLine) (clipOf none h l.length cl)) else none := sl_hi te26 ti50 rLine_len
theorem so26 {l : List Line} {cl : Bool} {lo : Int} {ka : IntKind} : sliceA Tryz.prog 26 (.vsl (l.map rLine) cl) (some (.lit (.int ka lo))) none none = if 0 ≤ lo ∧ lo ≤ l.length then some (.vsl ((l.drop lo.toNat).map rLine) cl) else none := sl_lo te26 ti50 rLine_len
theorem sb26 {l : List Line} {cl : Bool} {lo h : Int} {ka kb : IntKind} : sliceA Tryz.prog 26 (.vsl (l.map rLine) cl) (some (.lit (.int ka lo))) (some (.lit (.int kb h))) none = if 0 ≤ lo ∧ lo ≤ h ∧ h ≤ l.length then some (.vsl (((l.take h.toNat).drop lo.toNat).map rLine) (clipOf none h l.length cl)) else none := sl_lohi te26 ti50 rLine_len
theorem sm26 {l : List Line} {cl : Bool} {h m : Int} {ka kb : IntKind} : sliceA Tryz.prog 26 (.vsl (l.map rLine) cl) none (some (.lit (.int ka h))) (some (.lit (.int kb m))) = if 0 ≤ h ∧ h ≤ m ∧ m ≤ l.length then some (.vsl ((l.take h.toNat).map rLine) (decide (m = h))) else none := sl_hm te26 ti50 rLine_len
theorem sp26 {b off n : Nat} {cl : Bool} {h m : Int} {ka kb : IntKind} : sliceA Tryz.prog 26 (.sl b 4 off n cl) none (some (.lit (.int ka h))) (some (.lit (.int kb m))) = if 0 ≤ h ∧ h ≤ m ∧ m ≤ n then some (.sl b 4 off h.toNat (decide (m = h))) else none := so_hm te26 ti50 rfl
theorem lv29 {es : List (List AV)} {cl : Bool} : lenA Tryz.prog 29 (.vsl es cl) = some (I es.length) := lenV te29
theorem ll29 {b sz off len : Nat} {cl : Bool} : lenA Tryz.prog 29 (.sl b sz off len cl) = some (I len) := lenL te29
theorem is29 {b off len : Nat} {cl : Bool} {kd : IntKind} {n : Int} : indexAddrA Tryz.prog 29 (.sl b 1 off len cl) (.lit (.int kd n)) = if 0 ≤ n ∧ n < len then some (.ptr b 1 (off + n.toNat) 0) else none := ixs te29 ti3
theorem ix29 {l : List Int} {cl : Bool} {kd : IntKind} {n : Int} : indexAddrA Tryz.prog 29 (.vsl (l.map rI) cl) (.lit (.int kd n)) = if 0 ≤ n ∧ n < l.length then some (.vptr (l.map rI) n.toNat 0) else none := ixv te29 ti3 rI_len (by decide)
theorem sh29 {l : List Int} {cl : Bool} {h : Int} {ka : IntKind} : sliceA Tryz.prog 29 (.vsl (l.map rI) cl) none (some (.lit (.int ka h))) none = if 0 ≤ h ∧ h ≤ l.length then some (.vsl ((l.take h.toNat).map rI) (clipOf none h l.length cl)) else none := sl_hi te29 ti3 rI_len
theorem so29 {l : List Int} {cl : Bool} {lo : Int} {ka : IntKind} : sliceA Tryz.prog 29 (.vsl (l.map rI) cl) (some (.lit (.int ka lo))) none none = if 0 ≤ lo ∧ lo ≤ l.length then some (.vsl ((l.drop lo.toNat).map rI) cl) else none := sl_lo te29 ti3 rI_len
theorem sb29 {l : List Int} {cl : Bool} {lo h : Int} {ka kb : IntKind} : sliceA Tryz.prog 29 (.vsl (l.map rI) cl) (some (.lit (.int ka lo))) (some (.lit (.int kb h))) none = if 0 ≤ lo ∧ lo ≤ h ∧ h ≤ l.length then some (.vsl (((l.take h.toNat).drop lo.toNat).map rI) (clipOf none h l.length cl)) else none := sl_lohi te29 ti3 rI_len
theorem sm29 {l : List Int} {cl : Bool} {h m : Int} {ka kb : IntKind} : sliceA Tryz.prog 29 (.vsl (l.map rI) cl) none (some (.lit (.int ka h))) (some (.lit (.int kb m))) = if 0 ≤ h ∧ h ≤ m ∧ m ≤ l.length then some (.vsl ((l.take h.toNat).map rI) (decide (m = h))) else none := sl_hm te29 ti3 rI_len
theorem sp29 {b off n : Nat} {cl : Bool} {h m : Int} {ka kb : IntKind} : sliceA Tryz.prog 29 (.sl b 1 off n cl) none (some (.lit (.int ka h))) (some (.lit (.int kb m))) = if 0 ≤ h ∧ h ≤ m ∧ m ≤ n then some (.sl b 1 off h.toNat (decide (m = h))) else none := so_hm te29 ti3 rfl
theorem lv30 {es : List (List AV)} {cl : Bool} : lenA Tryz.prog 30 (.vsl es cl) = some (I es.length) := lenV te30
theorem ll30 {b sz off len : Nat} {cl : Bool} : lenA Tryz.prog 30 (.sl b sz off len cl) = some (I len) := lenL te30
theorem is30 {b off len : Nat} {cl : Bool} {kd : IntKind} {n : Int} : indexAddrA Tryz.prog 30 (.sl b 5 off len cl) (.lit (.int kd n)) = if 0 ≤ n ∧ n < len then some (.ptr b 5 (off + n.toNat) 0) else none := ixs te30 ti86
theorem ix30 {l : List Fault} {cl : Bool} {kd : IntKind} {n : Int} : indexAddrA Tryz.prog 30 (.vsl (l.map rFault) cl) (.lit (.int kd n)) = if 0 ≤ n ∧ n < l.length then some (.vptr (l.map rFault) n.toNat 0) else none := ixv te30 ti86 rFault_len (by decide)
theorem sh30 {l : List Fault} {cl : Bool} {h : Int} {ka : IntKind} : sliceA Tryz.prog 30 (.vsl (l.map rFault) cl) none (some (.lit (.int ka h))) none = if 0 ≤ h ∧ h ≤ l.length then some (.vsl ((l.take h.toNat).map rFault) (clipOf none h l.length cl)) else none := sl_hi te30 ti86 rFault_len
theorem so30 {l : List Fault} {cl : Bool} {lo : Int} {ka : IntKind} : sliceA Tryz.prog 30 (.vsl (l.map rFault) cl) (some (.lit (.int ka lo))) none none = if 0 ≤ lo ∧ lo ≤ l.length then some (.vsl ((l.drop lo.toNat).map rFault) cl) else none := sl_lo te30 ti86 rFault_len
theorem sb30 {l : List Fault} {cl : Bool} {lo h : Int} {ka kb : IntKind} : sliceA Tryz.prog 30 (.vsl (l.map rFault) cl) (some (.lit (.int ka lo))) (some (.lit (.int kb h))) none = if 0 ≤ lo ∧ lo ≤ h ∧ h ≤ l.length then some (.vsl (((l.take h.toNat).drop lo.toNat).map rFault) (clipOf none h l.length cl)) else none := sl_lohi te30 ti86 rFault_len
theorem sm30 {l : List Fault} {cl : Bool} {h m : Int} {ka kb : IntKind} : sliceA Tryz.prog 30 (.vsl (l.map rFault) cl) none (some (.lit (.int ka h))) (some (.lit (.int kb m))) = if 0 ≤ h ∧ h ≤ m ∧ m ≤ l.length then some (.vsl ((l.take h.toNat).map rFault) (decide (m = h))) else none := sl_hm te30 ti86 rFault_len
theorem sp30 {b off n : Nat} {cl : Bool} {h m : Int} {ka kb : IntKind} : sliceA Tryz.prog 30 (.sl b 5 off n cl) none (some (.lit (.int ka h))) (some (.lit (.int kb m))) = if 0 ≤ h ∧ h ≤ m ∧ m ≤ n then some (.sl b 5 off h.toNat (decide (m = h))) else none := so_hm te30 ti86 rfl
theorem lv57 {es : List (List AV)} {cl : Bool} : lenA Tryz.prog 57 (.vsl es cl) = some (I es.length) := lenV te57
theorem ll57 {b sz off len : Nat} {cl : Bool} : lenA Tryz.prog 57 (.sl b sz off len cl) = some (I len) := lenL te57
theorem is57 {b off len : Nat} {cl : Bool} {kd : IntKind} {n : Int} : indexAddrA Tryz.prog 57 (.sl b 3 off len cl) (.lit (.int kd n)) = if 0 ≤ n ∧ n < len then some (.ptr b 3 (off + n.toNat) 0) else none := ixs te57 ti98
theorem ix57 {l : List Exi} {cl : Bool} {kd : IntKind} {n : Int} : indexAddrA Tryz.prog 57 (.vsl (l.map rExit) cl) (.lit (.int kd n)) = if 0 ≤ n ∧ n < l.length then some (.vptr (l.map rExit) n.toNat 0) else none := ixv te57 ti98 rExit_len (by decide)
theorem sh57 {l : List Exi} {cl : Bool} {h : Int} {ka : IntKind} : sliceA Tryz.prog 57 (.vsl (l.map rExit) cl) none (some (.lit (.int ka h))) none = if 0 ≤ h ∧ h ≤ l.length then some (.vsl ((l.take h.toNat).map rExit) (clipOf none h l.length cl)) else none := sl_hi te57 ti98 rExit_len
theorem so57 {l : List Exi} {cl : Bool} {lo : Int} {ka : IntKind} : sliceA Tryz.prog 57 (.vsl (l.map rExit) cl) (some (.lit (.int ka lo))) none none = if 0 ≤ lo ∧ lo ≤ l.length then some (.vsl ((l.drop lo.toNat).map rExit) cl) else none := sl_lo te57 ti98 rExit_len
theorem sb57 {l : List Exi} {cl : Bool} {lo h : Int} {ka kb : IntKind} : sliceA Tryz.prog 57 (.vsl (l.map rExit) cl) (some (.lit (.int ka lo))) (some (.lit (.int kb h))) none = if 0 ≤ lo ∧ lo ≤ h ∧ h ≤ l.length then some (.vsl (((l.take h.toNat).drop lo.toNat).map rExit) (clipOf none h l.length cl)) else none := sl_lohi te57 ti98 rExit_len
theorem sm57 {l : List Exi} {cl : Bool} {h m : Int} {ka kb : IntKind} : sliceA Tryz.prog 57 (.vsl (l.map rExit) cl) none (some (.lit (.int ka h))) (some (.lit (.int kb m))) = if 0 ≤ h ∧ h ≤ m ∧ m ≤ l.length then some (.vsl ((l.take h.toNat).map rExit) (decide (m = h))) else none := sl_hm te57 ti98 rExit_len
theorem sp57 {b off n : Nat} {cl : Bool} {h m : Int} {ka kb : IntKind} : sliceA Tryz.prog 57 (.sl b 3 off n cl) none (some (.lit (.int ka h))) (some (.lit (.int kb m))) = if 0 ≤ h ∧ h ≤ m ∧ m ≤ n then some (.sl b 3 off h.toNat (decide (m = h))) else none := so_hm te57 ti98 rfl
theorem lv133 {es : List (List AV)} {cl : Bool} : lenA Tryz.prog 133 (.vsl es cl) = some (I es.length) := lenV te133
theorem ll133 {b sz off len : Nat} {cl : Bool} : lenA Tryz.prog 133 (.sl b sz off len cl) = some (I len) := lenL te133
theorem is133 {b off len : Nat} {cl : Bool} {kd : IntKind} {n : Int} : indexAddrA Tryz.prog 133 (.sl b 1 off len cl) (.lit (.int kd n)) = if 0 ≤ n ∧ n < len then some (.ptr b 1 (off + n.toNat) 0) else none := ixs te133 ti26
theorem sp133 {b off n : Nat} {cl : Bool} {h m : Int} {ka kb : IntKind} : sliceA Tryz.prog 133 (.sl b 1 off n cl) none (some (.lit (.int ka h))) (some (.lit (.int kb m))) = if 0 ≤ h ∧ h ≤ m ∧ m ≤ n then some (.sl b 1 off h.toNat (decide (m = h))) else none := so_hm te133 ti26 rfl
theorem lv150 {es : List (List AV)} {cl : Bool} : lenA Tryz.prog 150 (.vsl es cl) = some (I es.length) := lenV te150
theorem ll150 {b sz off len : Nat} {cl : Bool} : lenA Tryz.prog 150 (.sl b sz off len cl) = some (I len) := lenL te150
theorem is150 {b off len : Nat} {cl : Bool} {kd : IntKind} {n : Int} : indexAddrA Tryz.prog 150 (.sl b 1 off len cl) (.lit (.int kd n)) = if 0 ≤ n ∧ n < len then some (.ptr b 1 (off + n.toNat) 0) else none := ixs te150 ti9
theorem ix150 {l : List Str} {cl : Bool} {kd : IntKind} {n : Int} : indexAddrA Tryz.prog 150 (.vsl (l.map rS) cl) (.lit (.int kd n)) = if 0 ≤ n ∧ n < l.length then some (.vptr (l.map rS) n.toNat 0) else none := ixv te150 ti9 rS_len (by decide)
theorem sh150 {l : List Str} {cl : Bool} {h : Int} {ka : IntKind} : sliceA Tryz.prog 150 (.vsl (l.map rS) cl) none (some (.lit (.int ka h))) none = if 0 ≤ h ∧ h ≤ l.length then some (.vsl ((l.take h.toNat).map rS) (clipOf none h l.length cl)) else none := sl_hi te150 ti9 rS_len
theorem so150 {l : List Str} {cl : Bool} {lo : Int} {ka : IntKind} : sliceA Tryz.prog 150 (.vsl (l.map rS) cl) (some (.lit (.int ka lo))) none none = if 0 ≤ lo ∧ lo ≤ l.length then some (.vsl ((l.drop lo.toNat).map rS) cl) else none := sl_lo te150 ti9 rS_len
theorem sb150 {l : List Str} {cl : Bool} {lo h : Int} {ka kb : IntKind} : sliceA Tryz.prog 150 (.vsl (l.map rS) cl) (some (.lit (.int ka lo))) (some (.lit (.int kb h))) none = if 0 ≤ lo ∧ lo ≤ h ∧ h ≤ l.length then some (.vsl (((l.take h.toNat).drop lo.toNat).map rS) (clipOf none h l.length cl)) else none := sl_lohi te150 ti9 rS_len
theorem sm150 {l : List Str} {cl : Bool} {h m : Int} {ka kb : IntKind} : sliceA Tryz.prog 150 (.vsl (l.map rS) cl) none (some (.lit (.int ka h))) (some (.lit (.int kb m))) = if 0 ≤ h ∧ h ≤ m ∧ m ≤ l.length then some (.vsl ((l.take h.toNat).map rS) (decide (m = h))) else none := sl_hm te150 ti9 rS_len
theorem sp150 {b off n : Nat} {cl : Bool} {h m : Int} {ka kb : IntKind} : sliceA Tryz.prog 150 (.sl b 1 off n cl) none (some (.lit (.int ka h))) (some (.lit (.int kb m))) = if 0 ≤ h ∧ h ≤ m ∧ m ≤ n then some (.sl b 1 off h.toNat (decide (m = h))) else none := so_hm te150 ti9 rfl
theorem xs9 {s : Str} {kd : IntKind} {n : Int} : indexA Tryz.prog 9 (S s) (.lit (.int kd n)) = if 0 ≤ n ∧ n < s.length then some (U8 (s.getD n.toNat 0).toNat) else none := ixS ts9
theorem ls9 {s : Str} : lenA Tryz.prog 9 (S s) = some (I s.length) := lenS ts9
theorem sx9 {s : Str} {h : Int} {ka : IntKind} : sliceA Tryz.prog 9 (S s) none (some (.lit (.int ka h))) none = if 0 ≤ h ∧ h ≤ s.length then some (S (s.take h.toNat)) else none := ss_hi ts9
theorem sy9 {s : Str} {lo : Int} {ka : IntKind} : sliceA Tryz.prog 9 (S s) (some (.lit (.int ka lo))) none none = if 0 ≤ lo ∧ lo ≤ s.length then some (S (s.drop lo.toNat)) else none := ss_lo ts9
theorem sz9 {s : Str} {lo h : Int} {ka kb : IntKind} : sliceA Tryz.prog 9 (S s) (some (.lit (.int ka lo))) (some (.lit (.int kb h))) none = if 0 ≤ lo ∧ lo ≤ h ∧ h ≤ s.length then some (S ((s.take h.toNat).drop lo.toNat)) else none := ss_lohi ts9
end Go.Proofs.YtckipeopgimenaaGreat

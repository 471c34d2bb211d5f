/- Facts of this seat's tables of types. No condition. -/
import Derived.Test.YtoacjmckefahcaaGreatRows2
import Derived.Test.YtoacjmckefahcaaGreatChecked
import Derived.KernelRfl
set_option linter.unusedVariables false
set_option linter.unusedSimpArgs false
namespace Go.Proofs.YtoacjmckefahcaaGreat
open Go Go.Sim

theorem mixed : Tryz.prog.follows .mixedOrders = true := by kernel_rfl
theorem ti1 : tinfo Tryz.prog 1 = some ⟨1, 8, false, [.nilFunc]⟩ := by kernel_rfl
theorem ti2 : tinfo Tryz.prog 2 = some ⟨1, 8, false, [.int .i64 0]⟩ := by kernel_rfl
theorem tk2 : tint Tryz.prog 2 = some .i64 := by kernel_rfl
theorem ti3 : tinfo Tryz.prog 3 = some ⟨1, 8, false, [.int .i64 0]⟩ := by kernel_rfl
theorem te3 : telem Tryz.prog 3 = none := by kernel_rfl
theorem ts3 : tstr Tryz.prog 3 = false := by kernel_rfl
theorem tk3 : tint Tryz.prog 3 = some .i64 := by kernel_rfl
theorem tz3 : tsome Tryz.prog 3 = true := by kernel_rfl
theorem ti4 : tinfo Tryz.prog 4 = some ⟨1, 1, false, [.bool false]⟩ := by kernel_rfl
theorem tb4 : tbool Tryz.prog 4 = true := by kernel_rfl
theorem ti5 : tinfo Tryz.prog 5 = some ⟨1, 1, false, [.int .u8 0]⟩ := by kernel_rfl
theorem tk5 : tint Tryz.prog 5 = some .u8 := by kernel_rfl
theorem tz5 : tsome Tryz.prog 5 = true := by kernel_rfl
theorem ti9 : tinfo Tryz.prog 9 = some ⟨1, 16, false, [(.string ⟨[].toArray⟩)]⟩ := by kernel_rfl
theorem te9 : telem Tryz.prog 9 = none := by kernel_rfl
theorem ts9 : tstr Tryz.prog 9 = true := by kernel_rfl
theorem tk9 : tint Tryz.prog 9 = none := by kernel_rfl
theorem tz9 : tsome Tryz.prog 9 = true := by kernel_rfl
theorem ti12 : tinfo Tryz.prog 12 = some ⟨1, 8, false, [.int .u64 0]⟩ := by kernel_rfl
theorem tk12 : tint Tryz.prog 12 = some .u64 := by kernel_rfl
theorem ti13 : tinfo Tryz.prog 13 = some ⟨2, 24, true, [(.string ⟨[].toArray⟩), .int .u64 0]⟩ := by kernel_rfl
theorem tp13 : tplaces Tryz.prog 13 = some [(0, 1), (1, 1)] := by kernel_rfl
theorem tf13_0 : tfield Tryz.prog 13 0 = some (0, 9) := by kernel_rfl
theorem tf13_1 : tfield Tryz.prog 13 1 = some (1, 12) := by kernel_rfl
theorem ti20 : tinfo Tryz.prog 20 = some ⟨1, 16, false, [.nilIface]⟩ := by kernel_rfl
theorem ti21 : tinfo Tryz.prog 21 = some ⟨1, 4, false, [.int .i32 0]⟩ := by kernel_rfl
theorem tk21 : tint Tryz.prog 21 = some .i32 := by kernel_rfl
theorem tz21 : tsome Tryz.prog 21 = true := by kernel_rfl
theorem ti22 : tinfo Tryz.prog 22 = some ⟨1, 24, false, [(.slice none 0 0)]⟩ := by kernel_rfl
theorem te22 : telem Tryz.prog 22 = some 5 := by kernel_rfl
theorem tz22 : tsome Tryz.prog 22 = true := by kernel_rfl
theorem ti23 : tinfo Tryz.prog 23 = some ⟨1, 24, false, [(.slice none 0 0)]⟩ := by kernel_rfl
theorem te23 : telem Tryz.prog 23 = some 98 := by kernel_rfl
theorem ti24 : tinfo Tryz.prog 24 = some ⟨1, 24, true, [(.slice none 0 0)]⟩ := by kernel_rfl
theorem tp24 : tplaces Tryz.prog 24 = some [(0, 1)] := by kernel_rfl
theorem tf24_0 : tfield Tryz.prog 24 0 = some (0, 23) := by kernel_rfl
theorem ti25 : tinfo Tryz.prog 25 = some ⟨1, 24, true, [(.slice none 0 0)]⟩ := by kernel_rfl
theorem tp25 : tplaces Tryz.prog 25 = some [(0, 1)] := by kernel_rfl
theorem tf25_0 : tfield Tryz.prog 25 0 = some (0, 23) := by kernel_rfl
theorem ti26 : tinfo Tryz.prog 26 = some ⟨1, 24, false, [(.slice none 0 0)]⟩ := by kernel_rfl
theorem te26 : telem Tryz.prog 26 = some 44 := by kernel_rfl
theorem ti28 : tinfo Tryz.prog 28 = some ⟨1, 8, false, [.nilFunc]⟩ := by kernel_rfl
theorem ti29 : tinfo Tryz.prog 29 = some ⟨1, 8, false, [.nilFunc]⟩ := by kernel_rfl
theorem ti30 : tinfo Tryz.prog 30 = some ⟨1, 8, false, [.nilFunc]⟩ := by kernel_rfl
theorem ti31 : tinfo Tryz.prog 31 = some ⟨1, 8, false, [.nilFunc]⟩ := by kernel_rfl
theorem ti32 : tinfo Tryz.prog 32 = some ⟨1, 8, false, [.nilFunc]⟩ := by kernel_rfl
theorem ti33 : tinfo Tryz.prog 33 = some ⟨1, 24, false, [(.slice none 0 0)]⟩ := by kernel_rfl
theorem te33 : telem Tryz.prog 33 = some 3 := by kernel_rfl
theorem ti34 : tinfo Tryz.prog 34 = some ⟨1, 24, false, [(.slice none 0 0)]⟩ := by kernel_rfl
theorem te34 : telem Tryz.prog 34 = some 87 := by kernel_rfl
theorem ti35 : tinfo Tryz.prog 35 = some ⟨1, 24, true, [(.slice none 0 0)]⟩ := by kernel_rfl
theorem tp35 : tplaces Tryz.prog 35 = some [(0, 1)] := by kernel_rfl
theorem tf35_0 : tfield Tryz.prog 35 0 = some (0, 34) := by kernel_rfl
theorem ti36 : tinfo Tryz.prog 36 = some ⟨1, 24, true, [(.slice none 0 0)]⟩ := by kernel_rfl
theorem tp36 : tplaces Tryz.prog 36 = some [(0, 1)] := by kernel_rfl
theorem tf36_0 : tfield Tryz.prog 36 0 = some (0, 34) := by kernel_rfl
theorem ti37 : tinfo Tryz.prog 37 = some ⟨4, 64, true, [(.slice none 0 0), .int .i64 0, .int .i64 0, (.slice none 0 0)]⟩ := by kernel_rfl
theorem tp37 : tplaces Tryz.prog 37 = some [(0, 1), (1, 1), (2, 1), (3, 1)] := by kernel_rfl
theorem tf37_0 : tfield Tryz.prog 37 0 = some (0, 33) := by kernel_rfl
theorem tf37_1 : tfield Tryz.prog 37 1 = some (1, 3) := by kernel_rfl
theorem tf37_2 : tfield Tryz.prog 37 2 = some (2, 3) := by kernel_rfl
theorem tf37_3 : tfield Tryz.prog 37 3 = some (3, 36) := by kernel_rfl
theorem ti38 : tinfo Tryz.prog 38 = some ⟨4, 64, true, [(.slice none 0 0), .int .i64 0, .int .i64 0, (.slice none 0 0)]⟩ := by kernel_rfl
theorem tp38 : tplaces Tryz.prog 38 = some [(0, 1), (1, 1), (2, 1), (3, 1)] := by kernel_rfl
theorem tf38_0 : tfield Tryz.prog 38 0 = some (0, 33) := by kernel_rfl
theorem tf38_1 : tfield Tryz.prog 38 1 = some (1, 3) := by kernel_rfl
theorem tf38_2 : tfield Tryz.prog 38 2 = some (2, 3) := by kernel_rfl
theorem tf38_3 : tfield Tryz.prog 38 3 = some (3, 36) := by kernel_rfl
theorem ti39 : tinfo Tryz.prog 39 = some ⟨1, 8, false, [.nilFunc]⟩ := by kernel_rfl
theorem ti40 : tinfo Tryz.prog 40 = some ⟨1, 8, false, [.nilFunc]⟩ := by kernel_rfl
theorem ti41 : tinfo Tryz.prog 41 = some ⟨1, 8, false, [.nilFunc]⟩ := by kernel_rfl
theorem ti42 : tinfo Tryz.prog 42 = some ⟨1, 8, false, [.nilFunc]⟩ := by kernel_rfl
theorem ti43 : tinfo Tryz.prog 43 = some ⟨4, 32, true, [.int .i64 0, .int .i64 0, .int .i64 0, .int .i64 0]⟩ := by kernel_rfl
theorem tq43 : teq Tryz.prog 43 = some [.i, .i, .i, .i] := by kernel_rfl
theorem tp43 : tplaces Tryz.prog 43 = some [(0, 1), (1, 1), (2, 1), (3, 1)] := by kernel_rfl
theorem tf43_0 : tfield Tryz.prog 43 0 = some (0, 3) := by kernel_rfl
theorem tf43_1 : tfield Tryz.prog 43 1 = some (1, 3) := by kernel_rfl
theorem tf43_2 : tfield Tryz.prog 43 2 = some (2, 3) := by kernel_rfl
theorem tf43_3 : tfield Tryz.prog 43 3 = some (3, 3) := by kernel_rfl
theorem ti44 : tinfo Tryz.prog 44 = some ⟨4, 32, true, [.int .i64 0, .int .i64 0, .int .i64 0, .int .i64 0]⟩ := by kernel_rfl
theorem tq44 : teq Tryz.prog 44 = some [.i, .i, .i, .i] := by kernel_rfl
theorem tp44 : tplaces Tryz.prog 44 = some [(0, 1), (1, 1), (2, 1), (3, 1)] := by kernel_rfl
theorem tf44_0 : tfield Tryz.prog 44 0 = some (0, 3) := by kernel_rfl
theorem tf44_1 : tfield Tryz.prog 44 1 = some (1, 3) := by kernel_rfl
theorem tf44_2 : tfield Tryz.prog 44 2 = some (2, 3) := by kernel_rfl
theorem tf44_3 : tfield Tryz.prog 44 3 = some (3, 3) := by kernel_rfl
theorem ti45 : tinfo Tryz.prog 45 = some ⟨1, 8, false, [.nilFunc]⟩ := by kernel_rfl
theorem ti46 : tinfo Tryz.prog 46 = some ⟨1, 8, false, [.nilFunc]⟩ := by kernel_rfl
theorem ti47 : tinfo Tryz.prog 47 = some ⟨1, 8, false, [.nilFunc]⟩ := by kernel_rfl
theorem ti48 : tinfo Tryz.prog 48 = some ⟨1, 8, false, [.nilFunc]⟩ := by kernel_rfl
theorem ti49 : tinfo Tryz.prog 49 = some ⟨1, 8, false, [.nilFunc]⟩ := by kernel_rfl
theorem ti50 : tinfo Tryz.prog 50 = some ⟨1, 8, false, [.nilFunc]⟩ := by kernel_rfl
theorem ti51 : tinfo Tryz.prog 51 = some ⟨3, 24, true, [.bool false, .int .i64 0, .int .i64 0]⟩ := by kernel_rfl
theorem tq51 : teq Tryz.prog 51 = some [.b, .i, .i] := by kernel_rfl
theorem tp51 : tplaces Tryz.prog 51 = some [(0, 1), (1, 1), (2, 1)] := by kernel_rfl
theorem tf51_0 : tfield Tryz.prog 51 0 = some (0, 4) := by kernel_rfl
theorem tf51_1 : tfield Tryz.prog 51 1 = some (1, 3) := by kernel_rfl
theorem tf51_2 : tfield Tryz.prog 51 2 = some (2, 3) := by kernel_rfl
theorem ti52 : tinfo Tryz.prog 52 = some ⟨3, 24, true, [.bool false, .int .i64 0, .int .i64 0]⟩ := by kernel_rfl
theorem tq52 : teq Tryz.prog 52 = some [.b, .i, .i] := by kernel_rfl
theorem tp52 : tplaces Tryz.prog 52 = some [(0, 1), (1, 1), (2, 1)] := by kernel_rfl
theorem tf52_0 : tfield Tryz.prog 52 0 = some (0, 4) := by kernel_rfl
theorem tf52_1 : tfield Tryz.prog 52 1 = some (1, 3) := by kernel_rfl
theorem tf52_2 : tfield Tryz.prog 52 2 = some (2, 3) := by kernel_rfl
theorem ti54 : tinfo Tryz.prog 54 = some ⟨1, 8, false, [.nilFunc]⟩ := by kernel_rfl
theorem ti55 : tinfo Tryz.prog 55 = some ⟨1, 8, false, [.nilFunc]⟩ := by kernel_rfl
theorem ti56 : tinfo Tryz.prog 56 = some ⟨1, 8, false, [.pointer none]⟩ := by kernel_rfl
theorem ti57 : tinfo Tryz.prog 57 = some ⟨1, 8, false, [.nilFunc]⟩ := by kernel_rfl
theorem ti58 : tinfo Tryz.prog 58 = some ⟨1, 8, false, [.map none]⟩ := by kernel_rfl
theorem ti59 : tinfo Tryz.prog 59 = some ⟨1, 8, false, [.nilFunc]⟩ := by kernel_rfl
theorem ti60 : tinfo Tryz.prog 60 = some ⟨1, 8, false, [.nilFunc]⟩ := by kernel_rfl
theorem ti61 : tinfo Tryz.prog 61 = some ⟨1, 8, false, [.nilFunc]⟩ := by kernel_rfl
theorem ti62 : tinfo Tryz.prog 62 = some ⟨1, 8, false, [.nilFunc]⟩ := by kernel_rfl
theorem ti63 : tinfo Tryz.prog 63 = some ⟨1, 8, false, [.nilFunc]⟩ := by kernel_rfl
theorem ti64 : tinfo Tryz.prog 64 = some ⟨1, 8, false, [.nilFunc]⟩ := by kernel_rfl
theorem ti65 : tinfo Tryz.prog 65 = some ⟨1, 8, false, [.nilFunc]⟩ := by kernel_rfl
theorem ti66 : tinfo Tryz.prog 66 = some ⟨1, 8, false, [.nilFunc]⟩ := by kernel_rfl
theorem ti67 : tinfo Tryz.prog 67 = some ⟨1, 8, false, [.pointer none]⟩ := by kernel_rfl
theorem ti68 : tinfo Tryz.prog 68 = some ⟨1, 8, false, [.nilFunc]⟩ := by kernel_rfl
theorem ti69 : tinfo Tryz.prog 69 = some ⟨1, 8, false, [.nilFunc]⟩ := by kernel_rfl
theorem ti70 : tinfo Tryz.prog 70 = some ⟨2, 16, true, [.int .i64 0, .int .i64 0]⟩ := by kernel_rfl
theorem tq70 : teq Tryz.prog 70 = some [.i, .i] := by kernel_rfl
theorem tp70 : tplaces Tryz.prog 70 = some [(0, 1), (1, 1)] := by kernel_rfl
theorem tf70_0 : tfield Tryz.prog 70 0 = some (0, 3) := by kernel_rfl
theorem tf70_1 : tfield Tryz.prog 70 1 = some (1, 3) := by kernel_rfl
theorem ti71 : tinfo Tryz.prog 71 = some ⟨2, 16, true, [.int .i64 0, .int .i64 0]⟩ := by kernel_rfl
theorem tq71 : teq Tryz.prog 71 = some [.i, .i] := by kernel_rfl
theorem tp71 : tplaces Tryz.prog 71 = some [(0, 1), (1, 1)] := by kernel_rfl
theorem tf71_0 : tfield Tryz.prog 71 0 = some (0, 3) := by kernel_rfl
theorem tf71_1 : tfield Tryz.prog 71 1 = some (1, 3) := by kernel_rfl
theorem ti72 : tinfo Tryz.prog 72 = some ⟨1, 8, false, [.nilFunc]⟩ := by kernel_rfl
theorem ti73 : tinfo Tryz.prog 73 = some ⟨1, 8, false, [.nilFunc]⟩ := by kernel_rfl
theorem ti74 : tinfo Tryz.prog 74 = some ⟨1, 8, false, [.nilFunc]⟩ := by kernel_rfl
theorem ti75 : tinfo Tryz.prog 75 = some ⟨1, 8, false, [.nilFunc]⟩ := by kernel_rfl
theorem ti76 : tinfo Tryz.prog 76 = some ⟨1, 8, false, [.nilFunc]⟩ := by kernel_rfl
theorem ti77 : tinfo Tryz.prog 77 = some ⟨1, 8, false, [.nilFunc]⟩ := by kernel_rfl
theorem ti78 : tinfo Tryz.prog 78 = some ⟨1, 8, false, [.nilFunc]⟩ := by kernel_rfl
theorem ti79 : tinfo Tryz.prog 79 = some ⟨5, 104, true, [(.slice none 0 0), (.slice none 0 0), (.slice none 0 0), (.slice none 0 0), .int .i64 0]⟩ := by kernel_rfl
theorem tp79 : tplaces Tryz.prog 79 = some [(0, 1), (1, 1), (2, 1), (3, 1), (4, 1)] := by kernel_rfl
theorem tf79_0 : tfield Tryz.prog 79 0 = some (0, 25) := by kernel_rfl
theorem tf79_1 : tfield Tryz.prog 79 1 = some (1, 26) := by kernel_rfl
theorem tf79_2 : tfield Tryz.prog 79 2 = some (2, 33) := by kernel_rfl
theorem tf79_3 : tfield Tryz.prog 79 3 = some (3, 36) := by kernel_rfl
theorem tf79_4 : tfield Tryz.prog 79 4 = some (4, 3) := by kernel_rfl
theorem ti80 : tinfo Tryz.prog 80 = some ⟨5, 104, true, [(.slice none 0 0), (.slice none 0 0), (.slice none 0 0), (.slice none 0 0), .int .i64 0]⟩ := by kernel_rfl
theorem tp80 : tplaces Tryz.prog 80 = some [(0, 1), (1, 1), (2, 1), (3, 1), (4, 1)] := by kernel_rfl
theorem tf80_0 : tfield Tryz.prog 80 0 = some (0, 25) := by kernel_rfl
theorem tf80_1 : tfield Tryz.prog 80 1 = some (1, 26) := by kernel_rfl
theorem tf80_2 : tfield Tryz.prog 80 2 = some (2, 33) := by kernel_rfl
theorem tf80_3 : tfield Tryz.prog 80 3 = some (3, 36) := by kernel_rfl
theorem tf80_4 : tfield Tryz.prog 80 4 = some (4, 3) := by kernel_rfl
theorem ti81 : tinfo Tryz.prog 81 = some ⟨1, 8, false, [.nilFunc]⟩ := by kernel_rfl
theorem ti83 : tinfo Tryz.prog 83 = some ⟨1, 8, false, [.nilFunc]⟩ := by kernel_rfl
theorem ti84 : tinfo Tryz.prog 84 = some ⟨1, 8, false, [.nilFunc]⟩ := by kernel_rfl
theorem ti85 : tinfo Tryz.prog 85 = some ⟨1, 8, false, [.nilFunc]⟩ := by kernel_rfl
theorem ti86 : tinfo Tryz.prog 86 = some ⟨5, 40, true, [.int .i64 0, .int .i64 0, .int .i64 0, .int .i64 0, .bool false]⟩ := by kernel_rfl
theorem tq86 : teq Tryz.prog 86 = some [.i, .i, .i, .i, .b] := by kernel_rfl
theorem tp86 : tplaces Tryz.prog 86 = some [(0, 1), (1, 1), (2, 1), (3, 1), (4, 1)] := by kernel_rfl
theorem tf86_0 : tfield Tryz.prog 86 0 = some (0, 3) := by kernel_rfl
theorem tf86_1 : tfield Tryz.prog 86 1 = some (1, 3) := by kernel_rfl
theorem tf86_2 : tfield Tryz.prog 86 2 = some (2, 3) := by kernel_rfl
theorem tf86_3 : tfield Tryz.prog 86 3 = some (3, 3) := by kernel_rfl
theorem tf86_4 : tfield Tryz.prog 86 4 = some (4, 4) := by kernel_rfl
theorem ti87 : tinfo Tryz.prog 87 = some ⟨5, 40, true, [.int .i64 0, .int .i64 0, .int .i64 0, .int .i64 0, .bool false]⟩ := by kernel_rfl
theorem tq87 : teq Tryz.prog 87 = some [.i, .i, .i, .i, .b] := by kernel_rfl
theorem tp87 : tplaces Tryz.prog 87 = some [(0, 1), (1, 1), (2, 1), (3, 1), (4, 1)] := by kernel_rfl
theorem tf87_0 : tfield Tryz.prog 87 0 = some (0, 3) := by kernel_rfl
theorem tf87_1 : tfield Tryz.prog 87 1 = some (1, 3) := by kernel_rfl
theorem tf87_2 : tfield Tryz.prog 87 2 = some (2, 3) := by kernel_rfl
theorem tf87_3 : tfield Tryz.prog 87 3 = some (3, 3) := by kernel_rfl
theorem tf87_4 : tfield Tryz.prog 87 4 = some (4, 4) := by kernel_rfl
theorem ti88 : tinfo Tryz.prog 88 = some ⟨1, 8, false, [.nilFunc]⟩ := by kernel_rfl
theorem ti89 : tinfo Tryz.prog 89 = some ⟨1, 8, false, [.nilFunc]⟩ := by kernel_rfl
theorem ti90 : tinfo Tryz.prog 90 = some ⟨1, 8, false, [.nilFunc]⟩ := by kernel_rfl
theorem ti91 : tinfo Tryz.prog 91 = some ⟨1, 8, false, [.nilFunc]⟩ := by kernel_rfl
theorem ti92 : tinfo Tryz.prog 92 = some ⟨2, 32, true, [(.slice none 0 0), .int .i64 0]⟩ := by kernel_rfl
theorem tp92 : tplaces Tryz.prog 92 = some [(0, 1), (1, 1)] := by kernel_rfl
theorem tf92_0 : tfield Tryz.prog 92 0 = some (0, 22) := by kernel_rfl
theorem tf92_1 : tfield Tryz.prog 92 1 = some (1, 3) := by kernel_rfl
theorem ti93 : tinfo Tryz.prog 93 = some ⟨2, 32, true, [(.slice none 0 0), .int .i64 0]⟩ := by kernel_rfl
theorem tp93 : tplaces Tryz.prog 93 = some [(0, 1), (1, 1)] := by kernel_rfl
theorem tf93_0 : tfield Tryz.prog 93 0 = some (0, 22) := by kernel_rfl
theorem tf93_1 : tfield Tryz.prog 93 1 = some (1, 3) := by kernel_rfl
theorem ti94 : tinfo Tryz.prog 94 = some ⟨1, 8, false, [.nilFunc]⟩ := by kernel_rfl
theorem ti95 : tinfo Tryz.prog 95 = some ⟨1, 8, false, [.nilFunc]⟩ := by kernel_rfl
theorem ti96 : tinfo Tryz.prog 96 = some ⟨1, 8, false, [.nilFunc]⟩ := by kernel_rfl
theorem ti97 : tinfo Tryz.prog 97 = some ⟨2, 24, true, [(.string ⟨[].toArray⟩), .int .i64 0]⟩ := by kernel_rfl
theorem tq97 : teq Tryz.prog 97 = some [.s, .i] := by kernel_rfl
theorem tp97 : tplaces Tryz.prog 97 = some [(0, 1), (1, 1)] := by kernel_rfl
theorem tf97_0 : tfield Tryz.prog 97 0 = some (0, 9) := by kernel_rfl
theorem tf97_1 : tfield Tryz.prog 97 1 = some (1, 3) := by kernel_rfl
theorem ti98 : tinfo Tryz.prog 98 = some ⟨2, 24, true, [(.string ⟨[].toArray⟩), .int .i64 0]⟩ := by kernel_rfl
theorem tq98 : teq Tryz.prog 98 = some [.s, .i] := by kernel_rfl
theorem tp98 : tplaces Tryz.prog 98 = some [(0, 1), (1, 1)] := by kernel_rfl
theorem tf98_0 : tfield Tryz.prog 98 0 = some (0, 9) := by kernel_rfl
theorem tf98_1 : tfield Tryz.prog 98 1 = some (1, 3) := by kernel_rfl
theorem ti99 : tinfo Tryz.prog 99 = some ⟨1, 8, false, [.nilFunc]⟩ := by kernel_rfl
theorem ti100 : tinfo Tryz.prog 100 = some ⟨1, 8, false, [.nilFunc]⟩ := by kernel_rfl
theorem ti101 : tinfo Tryz.prog 101 = some ⟨1, 8, false, [.nilFunc]⟩ := by kernel_rfl
theorem ti103 : tinfo Tryz.prog 103 = some ⟨1, 8, false, [.nilFunc]⟩ := by kernel_rfl
theorem ti104 : tinfo Tryz.prog 104 = some ⟨1, 8, false, [.nilFunc]⟩ := by kernel_rfl
theorem ti105 : tinfo Tryz.prog 105 = some ⟨1, 8, false, [.nilFunc]⟩ := by kernel_rfl
theorem ti106 : tinfo Tryz.prog 106 = some ⟨1, 8, false, [.nilFunc]⟩ := by kernel_rfl
theorem ti107 : tinfo Tryz.prog 107 = some ⟨1, 8, false, [.nilFunc]⟩ := by kernel_rfl
theorem ti108 : tinfo Tryz.prog 108 = some ⟨1, 8, false, [.nilFunc]⟩ := by kernel_rfl
theorem ti109 : tinfo Tryz.prog 109 = some ⟨1, 8, false, [.nilFunc]⟩ := by kernel_rfl
theorem ti110 : tinfo Tryz.prog 110 = some ⟨1, 8, false, [.nilFunc]⟩ := by kernel_rfl
theorem ti111 : tinfo Tryz.prog 111 = some ⟨1, 24, false, [(.slice none 0 0)]⟩ := by kernel_rfl
theorem te111 : telem Tryz.prog 111 = some 9 := by kernel_rfl
theorem ti112 : tinfo Tryz.prog 112 = some ⟨1, 8, false, [.nilFunc]⟩ := by kernel_rfl
theorem ti113 : tinfo Tryz.prog 113 = some ⟨1, 8, false, [.nilFunc]⟩ := by kernel_rfl
theorem ti114 : tinfo Tryz.prog 114 = some ⟨1, 8, false, [.nilFunc]⟩ := by kernel_rfl
theorem ti115 : tinfo Tryz.prog 115 = some ⟨1, 8, false, [.nilFunc]⟩ := by kernel_rfl
theorem ti116 : tinfo Tryz.prog 116 = some ⟨1, 8, false, [.nilFunc]⟩ := by kernel_rfl
theorem ti117 : tinfo Tryz.prog 117 = some ⟨1, 8, false, [.nilFunc]⟩ := by kernel_rfl
theorem ti118 : tinfo Tryz.prog 118 = some ⟨1, 8, false, [.nilFunc]⟩ := by kernel_rfl
theorem ti119 : tinfo Tryz.prog 119 = some ⟨1, 8, false, [.nilFunc]⟩ := by kernel_rfl
theorem ti120 : tinfo Tryz.prog 120 = some ⟨1, 8, false, [.nilFunc]⟩ := by kernel_rfl
theorem ti121 : tinfo Tryz.prog 121 = some ⟨1, 8, false, [.nilFunc]⟩ := by kernel_rfl
theorem ti122 : tinfo Tryz.prog 122 = some ⟨1, 8, false, [.nilFunc]⟩ := by kernel_rfl
theorem ti123 : tinfo Tryz.prog 123 = some ⟨1, 8, false, [.nilFunc]⟩ := by kernel_rfl
theorem ti124 : tinfo Tryz.prog 124 = some ⟨1, 8, false, [.nilFunc]⟩ := by kernel_rfl
theorem ti125 : tinfo Tryz.prog 125 = some ⟨1, 8, false, [.nilFunc]⟩ := by kernel_rfl
theorem ti126 : tinfo Tryz.prog 126 = some ⟨1, 8, false, [.nilFunc]⟩ := by kernel_rfl
theorem ti127 : tinfo Tryz.prog 127 = some ⟨1, 8, false, [.int .u64 0]⟩ := by kernel_rfl
theorem tk127 : tint Tryz.prog 127 = some .u64 := by kernel_rfl
theorem tz127 : tsome Tryz.prog 127 = true := by kernel_rfl
theorem ti128 : tinfo Tryz.prog 128 = some ⟨1, 8, false, [.pointer none]⟩ := by kernel_rfl
theorem ti129 : tinfo Tryz.prog 129 = some ⟨1, 8, false, [.nilFunc]⟩ := by kernel_rfl
theorem ti130 : tinfo Tryz.prog 130 = some ⟨1, 8, false, [.int .i64 0]⟩ := by kernel_rfl
theorem tk130 : tint Tryz.prog 130 = some .i64 := by kernel_rfl
theorem ti132 : tinfo Tryz.prog 132 = some ⟨1, 8, false, [.nilFunc]⟩ := by kernel_rfl
theorem ti133 : tinfo Tryz.prog 133 = some ⟨1, 8, false, [.nilFunc]⟩ := by kernel_rfl
theorem ti134 : tinfo Tryz.prog 134 = some ⟨1, 8, false, [.nilFunc]⟩ := by kernel_rfl
theorem ti136 : tinfo Tryz.prog 136 = some ⟨1, 8, false, [.nilFunc]⟩ := by kernel_rfl
theorem ti137 : tinfo Tryz.prog 137 = some ⟨1, 8, false, [.nilFunc]⟩ := by kernel_rfl
theorem ti138 : tinfo Tryz.prog 138 = some ⟨1, 4, false, [.int .u32 0]⟩ := by kernel_rfl
theorem tk138 : tint Tryz.prog 138 = some .u32 := by kernel_rfl
theorem tz138 : tsome Tryz.prog 138 = true := by kernel_rfl
theorem ti139 : tinfo Tryz.prog 139 = some ⟨1, 8, false, [.nilFunc]⟩ := by kernel_rfl
theorem ti140 : tinfo Tryz.prog 140 = some ⟨1, 8, false, [.int .u64 0]⟩ := by kernel_rfl
theorem tk140 : tint Tryz.prog 140 = some .u64 := by kernel_rfl
theorem tz140 : tsome Tryz.prog 140 = true := by kernel_rfl
theorem ti141 : tinfo Tryz.prog 141 = some ⟨1, 8, false, [.int .u64 0]⟩ := by kernel_rfl
theorem tk141 : tint Tryz.prog 141 = some .u64 := by kernel_rfl
theorem ti142 : tinfo Tryz.prog 142 = some ⟨1, 8, false, [.nilFunc]⟩ := by kernel_rfl
theorem ti143 : tinfo Tryz.prog 143 = some ⟨1, 8, false, [.nilFunc]⟩ := by kernel_rfl
theorem ti144 : tinfo Tryz.prog 144 = some ⟨1, 8, false, [.nilFunc]⟩ := by kernel_rfl
theorem ti145 : tinfo Tryz.prog 145 = some ⟨1, 8, false, [.pointer none]⟩ := by kernel_rfl
theorem ti146 : tinfo Tryz.prog 146 = some ⟨1, 8, false, [.nilFunc]⟩ := by kernel_rfl
theorem ti147 : tinfo Tryz.prog 147 = some ⟨1, 8, false, [.pointer none]⟩ := by kernel_rfl
theorem ti148 : tinfo Tryz.prog 148 = some ⟨1, 8, false, [.nilFunc]⟩ := by kernel_rfl
theorem ti149 : tinfo Tryz.prog 149 = some ⟨1, 8, false, [.nilFunc]⟩ := by kernel_rfl
theorem ti155 : tinfo Tryz.prog 155 = some ⟨1, 8, false, [.nilFunc]⟩ := by kernel_rfl
theorem ti159 : tinfo Tryz.prog 159 = some ⟨1, 8, false, [.pointer none]⟩ := by kernel_rfl
theorem fp13_0 {b sz i j : Nat} : fieldAddrA Tryz.prog 13 (.ptr b sz i j) 0 = some (.ptr b sz i (j + 0)) := fa_p tf13_0 ti9 (by decide)
theorem fv13_0 {es : List (List AV)} {i j : Nat} : fieldAddrA Tryz.prog 13 (.vptr es i j) 0 = some (.vptr es i (j + 0)) := fa_v tf13_0 ti9 (by decide)
theorem fp13_1 {b sz i j : Nat} : fieldAddrA Tryz.prog 13 (.ptr b sz i j) 1 = some (.ptr b sz i (j + 1)) := fa_p tf13_1 ti12 (by decide)
theorem fv13_1 {es : List (List AV)} {i j : Nat} : fieldAddrA Tryz.prog 13 (.vptr es i j) 1 = some (.vptr es i (j + 1)) := fa_v tf13_1 ti12 (by decide)
theorem fp24_0 {b sz i j : Nat} : fieldAddrA Tryz.prog 24 (.ptr b sz i j) 0 = some (.ptr b sz i (j + 0)) := fa_p tf24_0 ti23 (by decide)
theorem fv24_0 {es : List (List AV)} {i j : Nat} : fieldAddrA Tryz.prog 24 (.vptr es i j) 0 = some (.vptr es i (j + 0)) := fa_v tf24_0 ti23 (by decide)
theorem fp25_0 {b sz i j : Nat} : fieldAddrA Tryz.prog 25 (.ptr b sz i j) 0 = some (.ptr b sz i (j + 0)) := fa_p tf25_0 ti23 (by decide)
theorem fv25_0 {es : List (List AV)} {i j : Nat} : fieldAddrA Tryz.prog 25 (.vptr es i j) 0 = some (.vptr es i (j + 0)) := fa_v tf25_0 ti23 (by decide)
theorem fp35_0 {b sz i j : Nat} : fieldAddrA Tryz.prog 35 (.ptr b sz i j) 0 = some (.ptr b sz i (j + 0)) := fa_p tf35_0 ti34 (by decide)
theorem fv35_0 {es : List (List AV)} {i j : Nat} : fieldAddrA Tryz.prog 35 (.vptr es i j) 0 = some (.vptr es i (j + 0)) := fa_v tf35_0 ti34 (by decide)
theorem fp36_0 {b sz i j : Nat} : fieldAddrA Tryz.prog 36 (.ptr b sz i j) 0 = some (.ptr b sz i (j + 0)) := fa_p tf36_0 ti34 (by decide)
theorem fv36_0 {es : List (List AV)} {i j : Nat} : fieldAddrA Tryz.prog 36 (.vptr es i j) 0 = some (.vptr es i (j + 0)) := fa_v tf36_0 ti34 (by decide)
theorem fp37_0 {b sz i j : Nat} : fieldAddrA Tryz.prog 37 (.ptr b sz i j) 0 = some (.ptr b sz i (j + 0)) := fa_p tf37_0 ti33 (by decide)
theorem fv37_0 {es : List (List AV)} {i j : Nat} : fieldAddrA Tryz.prog 37 (.vptr es i j) 0 = some (.vptr es i (j + 0)) := fa_v tf37_0 ti33 (by decide)
theorem fp37_1 {b sz i j : Nat} : fieldAddrA Tryz.prog 37 (.ptr b sz i j) 1 = some (.ptr b sz i (j + 1)) := fa_p tf37_1 ti3 (by decide)
theorem fv37_1 {es : List (List AV)} {i j : Nat} : fieldAddrA Tryz.prog 37 (.vptr es i j) 1 = some (.vptr es i (j + 1)) := fa_v tf37_1 ti3 (by decide)
theorem fp37_2 {b sz i j : Nat} : fieldAddrA Tryz.prog 37 (.ptr b sz i j) 2 = some (.ptr b sz i (j + 2)) := fa_p tf37_2 ti3 (by decide)
theorem fv37_2 {es : List (List AV)} {i j : Nat} : fieldAddrA Tryz.prog 37 (.vptr es i j) 2 = some (.vptr es i (j + 2)) := fa_v tf37_2 ti3 (by decide)
theorem fp37_3 {b sz i j : Nat} : fieldAddrA Tryz.prog 37 (.ptr b sz i j) 3 = some (.ptr b sz i (j + 3)) := fa_p tf37_3 ti36 (by decide)
theorem fv37_3 {es : List (List AV)} {i j : Nat} : fieldAddrA Tryz.prog 37 (.vptr es i j) 3 = some (.vptr es i (j + 3)) := fa_v tf37_3 ti36 (by decide)
theorem fp38_0 {b sz i j : Nat} : fieldAddrA Tryz.prog 38 (.ptr b sz i j) 0 = some (.ptr b sz i (j + 0)) := fa_p tf38_0 ti33 (by decide)
theorem fv38_0 {es : List (List AV)} {i j : Nat} : fieldAddrA Tryz.prog 38 (.vptr es i j) 0 = some (.vptr es i (j + 0)) := fa_v tf38_0 ti33 (by decide)
theorem fp38_1 {b sz i j : Nat} : fieldAddrA Tryz.prog 38 (.ptr b sz i j) 1 = some (.ptr b sz i (j + 1)) := fa_p tf38_1 ti3 (by decide)
theorem fv38_1 {es : List (List AV)} {i j : Nat} : fieldAddrA Tryz.prog 38 (.vptr es i j) 1 = some (.vptr es i (j + 1)) := fa_v tf38_1 ti3 (by decide)
theorem fp38_2 {b sz i j : Nat} : fieldAddrA Tryz.prog 38 (.ptr b sz i j) 2 = some (.ptr b sz i (j + 2)) := fa_p tf38_2 ti3 (by decide)
theorem fv38_2 {es : List (List AV)} {i j : Nat} : fieldAddrA Tryz.prog 38 (.vptr es i j) 2 = some (.vptr es i (j + 2)) := fa_v tf38_2 ti3 (by decide)
theorem fp38_3 {b sz i j : Nat} : fieldAddrA Tryz.prog 38 (.ptr b sz i j) 3 = some (.ptr b sz i (j + 3)) := fa_p tf38_3 ti36 (by decide)
theorem fv38_3 {es : List (List AV)} {i j : Nat} : fieldAddrA Tryz.prog 38 (.vptr es i j) 3 = some (.vptr es i (j + 3)) := fa_v tf38_3 ti36 (by decide)
theorem fp43_0 {b sz i j : Nat} : fieldAddrA Tryz.prog 43 (.ptr b sz i j) 0 = some (.ptr b sz i (j + 0)) := fa_p tf43_0 ti3 (by decide)
theorem fv43_0 {es : List (List AV)} {i j : Nat} : fieldAddrA Tryz.prog 43 (.vptr es i j) 0 = some (.vptr es i (j + 0)) := fa_v tf43_0 ti3 (by decide)
theorem fp43_1 {b sz i j : Nat} : fieldAddrA Tryz.prog 43 (.ptr b sz i j) 1 = some (.ptr b sz i (j + 1)) := fa_p tf43_1 ti3 (by decide)
theorem fv43_1 {es : List (List AV)} {i j : Nat} : fieldAddrA Tryz.prog 43 (.vptr es i j) 1 = some (.vptr es i (j + 1)) := fa_v tf43_1 ti3 (by decide)
theorem fp43_2 {b sz i j : Nat} : fieldAddrA Tryz.prog 43 (.ptr b sz i j) 2 = some (.ptr b sz i (j + 2)) := fa_p tf43_2 ti3 (by decide)
theorem fv43_2 {es : List (List AV)} {i j : Nat} : fieldAddrA Tryz.prog 43 (.vptr es i j) 2 = some (.vptr es i (j + 2)) := fa_v tf43_2 ti3 (by decide)
theorem fp43_3 {b sz i j : Nat} : fieldAddrA Tryz.prog 43 (.ptr b sz i j) 3 = some (.ptr b sz i (j + 3)) := fa_p tf43_3 ti3 (by decide)
theorem fv43_3 {es : List (List AV)} {i j : Nat} : fieldAddrA Tryz.prog 43 (.vptr es i j) 3 = some (.vptr es i (j + 3)) := fa_v tf43_3 ti3 (by decide)
theorem fp44_0 {b sz i j : Nat} : fieldAddrA Tryz.prog 44 (.ptr b sz i j) 0 = some (.ptr b sz i (j + 0)) := fa_p tf44_0 ti3 (by decide)
theorem fv44_0 {es : List (List AV)} {i j : Nat} : fieldAddrA Tryz.prog 44 (.vptr es i j) 0 = some (.vptr es i (j + 0)) := fa_v tf44_0 ti3 (by decide)
theorem fp44_1 {b sz i j : Nat} : fieldAddrA Tryz.prog 44 (.ptr b sz i j) 1 = some (.ptr b sz i (j + 1)) := fa_p tf44_1 ti3 (by decide)
theorem fv44_1 {es : List (List AV)} {i j : Nat} : fieldAddrA Tryz.prog 44 (.vptr es i j) 1 = some (.vptr es i (j + 1)) := fa_v tf44_1 ti3 (by decide)
theorem fp44_2 {b sz i j : Nat} : fieldAddrA Tryz.prog 44 (.ptr b sz i j) 2 = some (.ptr b sz i (j + 2)) := fa_p tf44_2 ti3 (by decide)
theorem fv44_2 {es : List (List AV)} {i j : Nat} : fieldAddrA Tryz.prog 44 (.vptr es i j) 2 = some (.vptr es i (j + 2)) := fa_v tf44_2 ti3 (by decide)
theorem fp44_3 {b sz i j : Nat} : fieldAddrA Tryz.prog 44 (.ptr b sz i j) 3 = some (.ptr b sz i (j + 3)) := fa_p tf44_3 ti3 (by decide)
theorem fv44_3 {es : List (List AV)} {i j : Nat} : fieldAddrA Tryz.prog 44 (.vptr es i j) 3 = some (.vptr es i (j + 3)) := fa_v tf44_3 ti3 (by decide)
theorem fp51_0 {b sz i j : Nat} : fieldAddrA Tryz.prog 51 (.ptr b sz i j) 0 = some (.ptr b sz i (j + 0)) := fa_p tf51_0 ti4 (by decide)
theorem fv51_0 {es : List (List AV)} {i j : Nat} : fieldAddrA Tryz.prog 51 (.vptr es i j) 0 = some (.vptr es i (j + 0)) := fa_v tf51_0 ti4 (by decide)
theorem fp51_1 {b sz i j : Nat} : fieldAddrA Tryz.prog 51 (.ptr b sz i j) 1 = some (.ptr b sz i (j + 1)) := fa_p tf51_1 ti3 (by decide)
theorem fv51_1 {es : List (List AV)} {i j : Nat} : fieldAddrA Tryz.prog 51 (.vptr es i j) 1 = some (.vptr es i (j + 1)) := fa_v tf51_1 ti3 (by decide)
theorem fp51_2 {b sz i j : Nat} : fieldAddrA Tryz.prog 51 (.ptr b sz i j) 2 = some (.ptr b sz i (j + 2)) := fa_p tf51_2 ti3 (by decide)
theorem fv51_2 {es : List (List AV)} {i j : Nat} : fieldAddrA Tryz.prog 51 (.vptr es i j) 2 = some (.vptr es i (j + 2)) := fa_v tf51_2 ti3 (by decide)
theorem fp52_0 {b sz i j : Nat} : fieldAddrA Tryz.prog 52 (.ptr b sz i j) 0 = some (.ptr b sz i (j + 0)) := fa_p tf52_0 ti4 (by decide)
theorem fv52_0 {es : List (List AV)} {i j : Nat} : fieldAddrA Tryz.prog 52 (.vptr es i j) 0 = some (.vptr es i (j + 0)) := fa_v tf52_0 ti4 (by decide)
theorem fp52_1 {b sz i j : Nat} : fieldAddrA Tryz.prog 52 (.ptr b sz i j) 1 = some (.ptr b sz i (j + 1)) := fa_p tf52_1 ti3 (by decide)
theorem fv52_1 {es : List (List AV)} {i j : Nat} : fieldAddrA Tryz.prog 52 (.vptr es i j) 1 = some (.vptr es i (j + 1)) := fa_v tf52_1 ti3 (by decide)
theorem fp52_2 {b sz i j : Nat} : fieldAddrA Tryz.prog 52 (.ptr b sz i j) 2 = some (.ptr b sz i (j + 2)) := fa_p tf52_2 ti3 (by decide)
theorem fv52_2 {es : List (List AV)} {i j : Nat} : fieldAddrA Tryz.prog 52 (.vptr es i j) 2 = some (.vptr es i (j + 2)) := fa_v tf52_2 ti3 (by decide)
theorem fp70_0 {b sz i j : Nat} : fieldAddrA Tryz.prog 70 (.ptr b sz i j) 0 = some (.ptr b sz i (j + 0)) := fa_p tf70_0 ti3 (by decide)
theorem fv70_0 {es : List (List AV)} {i j : Nat} : fieldAddrA Tryz.prog 70 (.vptr es i j) 0 = some (.vptr es i (j + 0)) := fa_v tf70_0 ti3 (by decide)
theorem fp70_1 {b sz i j : Nat} : fieldAddrA Tryz.prog 70 (.ptr b sz i j) 1 = some (.ptr b sz i (j + 1)) := fa_p tf70_1 ti3 (by decide)
theorem fv70_1 {es : List (List AV)} {i j : Nat} : fieldAddrA Tryz.prog 70 (.vptr es i j) 1 = some (.vptr es i (j + 1)) := fa_v tf70_1 ti3 (by decide)
theorem fp71_0 {b sz i j : Nat} : fieldAddrA Tryz.prog 71 (.ptr b sz i j) 0 = some (.ptr b sz i (j + 0)) := fa_p tf71_0 ti3 (by decide)
theorem fv71_0 {es : List (List AV)} {i j : Nat} : fieldAddrA Tryz.prog 71 (.vptr es i j) 0 = some (.vptr es i (j + 0)) := fa_v tf71_0 ti3 (by decide)
theorem fp71_1 {b sz i j : Nat} : fieldAddrA Tryz.prog 71 (.ptr b sz i j) 1 = some (.ptr b sz i (j + 1)) := fa_p tf71_1 ti3 (by decide)
theorem fv71_1 {es : List (List AV)} {i j : Nat} : fieldAddrA Tryz.prog 71 (.vptr es i j) 1 = some (.vptr es i (j + 1)) := fa_v tf71_1 ti3 (by decide)
theorem fp79_0 {b sz i j : Nat} : fieldAddrA Tryz.prog 79 (.ptr b sz i j) 0 = some (.ptr b sz i (j + 0)) := fa_p tf79_0 ti25 (by decide)
theorem fv79_0 {es : List (List AV)} {i j : Nat} : fieldAddrA Tryz.prog 79 (.vptr es i j) 0 = some (.vptr es i (j + 0)) := fa_v tf79_0 ti25 (by decide)
theorem fp79_1 {b sz i j : Nat} : fieldAddrA Tryz.prog 79 (.ptr b sz i j) 1 = some (.ptr b sz i (j + 1)) := fa_p tf79_1 ti26 (by decide)
theorem fv79_1 {es : List (List AV)} {i j : Nat} : fieldAddrA Tryz.prog 79 (.vptr es i j) 1 = some (.vptr es i (j + 1)) := fa_v tf79_1 ti26 (by decide)
theorem fp79_2 {b sz i j : Nat} : fieldAddrA Tryz.prog 79 (.ptr b sz i j) 2 = some (.ptr b sz i (j + 2)) := fa_p tf79_2 ti33 (by decide)
theorem fv79_2 {es : List (List AV)} {i j : Nat} : fieldAddrA Tryz.prog 79 (.vptr es i j) 2 = some (.vptr es i (j + 2)) := fa_v tf79_2 ti33 (by decide)
theorem fp79_3 {b sz i j : Nat} : fieldAddrA Tryz.prog 79 (.ptr b sz i j) 3 = some (.ptr b sz i (j + 3)) := fa_p tf79_3 ti36 (by decide)
theorem fv79_3 {es : List (List AV)} {i j : Nat} : fieldAddrA Tryz.prog 79 (.vptr es i j) 3 = some (.vptr es i (j + 3)) := fa_v tf79_3 ti36 (by decide)
theorem fp79_4 {b sz i j : Nat} : fieldAddrA Tryz.prog 79 (.ptr b sz i j) 4 = some (.ptr b sz i (j + 4)) := fa_p tf79_4 ti3 (by decide)
theorem fv79_4 {es : List (List AV)} {i j : Nat} : fieldAddrA Tryz.prog 79 (.vptr es i j) 4 = some (.vptr es i (j + 4)) := fa_v tf79_4 ti3 (by decide)
theorem fp80_0 {b sz i j : Nat} : fieldAddrA Tryz.prog 80 (.ptr b sz i j) 0 = some (.ptr b sz i (j + 0)) := fa_p tf80_0 ti25 (by decide)
theorem fv80_0 {es : List (List AV)} {i j : Nat} : fieldAddrA Tryz.prog 80 (.vptr es i j) 0 = some (.vptr es i (j + 0)) := fa_v tf80_0 ti25 (by decide)
theorem fp80_1 {b sz i j : Nat} : fieldAddrA Tryz.prog 80 (.ptr b sz i j) 1 = some (.ptr b sz i (j + 1)) := fa_p tf80_1 ti26 (by decide)
theorem fv80_1 {es : List (List AV)} {i j : Nat} : fieldAddrA Tryz.prog 80 (.vptr es i j) 1 = some (.vptr es i (j + 1)) := fa_v tf80_1 ti26 (by decide)
theorem fp80_2 {b sz i j : Nat} : fieldAddrA Tryz.prog 80 (.ptr b sz i j) 2 = some (.ptr b sz i (j + 2)) := fa_p tf80_2 ti33 (by decide)
theorem fv80_2 {es : List (List AV)} {i j : Nat} : fieldAddrA Tryz.prog 80 (.vptr es i j) 2 = some (.vptr es i (j + 2)) := fa_v tf80_2 ti33 (by decide)
theorem fp80_3 {b sz i j : Nat} : fieldAddrA Tryz.prog 80 (.ptr b sz i j) 3 = some (.ptr b sz i (j + 3)) := fa_p tf80_3 ti36 (by decide)
theorem fv80_3 {es : List (List AV)} {i j : Nat} : fieldAddrA Tryz.prog 80 (.vptr es i j) 3 = some (.vptr es i (j + 3)) := fa_v tf80_3 ti36 (by decide)
theorem fp80_4 {b sz i j : Nat} : fieldAddrA Tryz.prog 80 (.ptr b sz i j) 4 = some (.ptr b sz i (j + 4)) := fa_p tf80_4 ti3 (by decide)
theorem fv80_4 {es : List (List AV)} {i j : Nat} : fieldAddrA Tryz.prog 80 (.vptr es i j) 4 = some (.vptr es i (j + 4)) := fa_v tf80_4 ti3 (by decide)
theorem fp86_0 {b sz i j : Nat} : fieldAddrA Tryz.prog 86 (.ptr b sz i j) 0 = some (.ptr b sz i (j + 0)) := fa_p tf86_0 ti3 (by decide)
theorem fv86_0 {es : List (List AV)} {i j : Nat} : fieldAddrA Tryz.prog 86 (.vptr es i j) 0 = some (.vptr es i (j + 0)) := fa_v tf86_0 ti3 (by decide)
theorem fp86_1 {b sz i j : Nat} : fieldAddrA Tryz.prog 86 (.ptr b sz i j) 1 = some (.ptr b sz i (j + 1)) := fa_p tf86_1 ti3 (by decide)
theorem fv86_1 {es : List (List AV)} {i j : Nat} : fieldAddrA Tryz.prog 86 (.vptr es i j) 1 = some (.vptr es i (j + 1)) := fa_v tf86_1 ti3 (by decide)
theorem fp86_2 {b sz i j : Nat} : fieldAddrA Tryz.prog 86 (.ptr b sz i j) 2 = some (.ptr b sz i (j + 2)) := fa_p tf86_2 ti3 (by decide)
theorem fv86_2 {es : List (List AV)} {i j : Nat} : fieldAddrA Tryz.prog 86 (.vptr es i j) 2 = some (.vptr es i (j + 2)) := fa_v tf86_2 ti3 (by decide)
theorem fp86_3 {b sz i j : Nat} : fieldAddrA Tryz.prog 86 (.ptr b sz i j) 3 = some (.ptr b sz i (j + 3)) := fa_p tf86_3 ti3 (by decide)
theorem fv86_3 {es : List (List AV)} {i j : Nat} : fieldAddrA Tryz.prog 86 (.vptr es i j) 3 = some (.vptr es i (j + 3)) := fa_v tf86_3 ti3 (by decide)
theorem fp86_4 {b sz i j : Nat} : fieldAddrA Tryz.prog 86 (.ptr b sz i j) 4 = some (.ptr b sz i (j + 4)) := fa_p tf86_4 ti4 (by decide)
theorem fv86_4 {es : List (List AV)} {i j : Nat} : fieldAddrA Tryz.prog 86 (.vptr es i j) 4 = some (.vptr es i (j + 4)) := fa_v tf86_4 ti4 (by decide)
theorem fp87_0 {b sz i j : Nat} : fieldAddrA Tryz.prog 87 (.ptr b sz i j) 0 = some (.ptr b sz i (j + 0)) := fa_p tf87_0 ti3 (by decide)
theorem fv87_0 {es : List (List AV)} {i j : Nat} : fieldAddrA Tryz.prog 87 (.vptr es i j) 0 = some (.vptr es i (j + 0)) := fa_v tf87_0 ti3 (by decide)
theorem fp87_1 {b sz i j : Nat} : fieldAddrA Tryz.prog 87 (.ptr b sz i j) 1 = some (.ptr b sz i (j + 1)) := fa_p tf87_1 ti3 (by decide)
theorem fv87_1 {es : List (List AV)} {i j : Nat} : fieldAddrA Tryz.prog 87 (.vptr es i j) 1 = some (.vptr es i (j + 1)) := fa_v tf87_1 ti3 (by decide)
theorem fp87_2 {b sz i j : Nat} : fieldAddrA Tryz.prog 87 (.ptr b sz i j) 2 = some (.ptr b sz i (j + 2)) := fa_p tf87_2 ti3 (by decide)
theorem fv87_2 {es : List (List AV)} {i j : Nat} : fieldAddrA Tryz.prog 87 (.vptr es i j) 2 = some (.vptr es i (j + 2)) := fa_v tf87_2 ti3 (by decide)
theorem fp87_3 {b sz i j : Nat} : fieldAddrA Tryz.prog 87 (.ptr b sz i j) 3 = some (.ptr b sz i (j + 3)) := fa_p tf87_3 ti3 (by decide)
theorem fv87_3 {es : List (List AV)} {i j : Nat} : fieldAddrA Tryz.prog 87 (.vptr es i j) 3 = some (.vptr es i (j + 3)) := fa_v tf87_3 ti3 (by decide)
theorem fp87_4 {b sz i j : Nat} : fieldAddrA Tryz.prog 87 (.ptr b sz i j) 4 = some (.ptr b sz i (j + 4)) := fa_p tf87_4 ti4 (by decide)
theorem fv87_4 {es : List (List AV)} {i j : Nat} : fieldAddrA Tryz.prog 87 (.vptr es i j) 4 = some (.vptr es i (j + 4)) := fa_v tf87_4 ti4 (by decide)
theorem fp92_0 {b sz i j : Nat} : fieldAddrA Tryz.prog 92 (.ptr b sz i j) 0 = some (.ptr b sz i (j + 0)) := fa_p tf92_0 ti22 (by decide)
theorem fv92_0 {es : List (List AV)} {i j : Nat} : fieldAddrA Tryz.prog 92 (.vptr es i j) 0 = some (.vptr es i (j + 0)) := fa_v tf92_0 ti22 (by decide)
theorem fp92_1 {b sz i j : Nat} : fieldAddrA Tryz.prog 92 (.ptr b sz i j) 1 = some (.ptr b sz i (j + 1)) := fa_p tf92_1 ti3 (by decide)
theorem fv92_1 {es : List (List AV)} {i j : Nat} : fieldAddrA Tryz.prog 92 (.vptr es i j) 1 = some (.vptr es i (j + 1)) := fa_v tf92_1 ti3 (by decide)
theorem fp93_0 {b sz i j : Nat} : fieldAddrA Tryz.prog 93 (.ptr b sz i j) 0 = some (.ptr b sz i (j + 0)) := fa_p tf93_0 ti22 (by decide)
theorem fv93_0 {es : List (List AV)} {i j : Nat} : fieldAddrA Tryz.prog 93 (.vptr es i j) 0 = some (.vptr es i (j + 0)) := fa_v tf93_0 ti22 (by decide)
theorem fp93_1 {b sz i j : Nat} : fieldAddrA Tryz.prog 93 (.ptr b sz i j) 1 = some (.ptr b sz i (j + 1)) := fa_p tf93_1 ti3 (by decide)
theorem fv93_1 {es : List (List AV)} {i j : Nat} : fieldAddrA Tryz.prog 93 (.vptr es i j) 1 = some (.vptr es i (j + 1)) := fa_v tf93_1 ti3 (by decide)
theorem fp97_0 {b sz i j : Nat} : fieldAddrA Tryz.prog 97 (.ptr b sz i j) 0 = some (.ptr b sz i (j + 0)) := fa_p tf97_0 ti9 (by decide)
theorem fv97_0 {es : List (List AV)} {i j : Nat} : fieldAddrA Tryz.prog 97 (.vptr es i j) 0 = some (.vptr es i (j + 0)) := fa_v tf97_0 ti9 (by decide)
theorem fp97_1 {b sz i j : Nat} : fieldAddrA Tryz.prog 97 (.ptr b sz i j) 1 = some (.ptr b sz i (j + 1)) := fa_p tf97_1 ti3 (by decide)
theorem fv97_1 {es : List (List AV)} {i j : Nat} : fieldAddrA Tryz.prog 97 (.vptr es i j) 1 = some (.vptr es i (j + 1)) := fa_v tf97_1 ti3 (by decide)
theorem fp98_0 {b sz i j : Nat} : fieldAddrA Tryz.prog 98 (.ptr b sz i j) 0 = some (.ptr b sz i (j + 0)) := fa_p tf98_0 ti9 (by decide)
theorem fv98_0 {es : List (List AV)} {i j : Nat} : fieldAddrA Tryz.prog 98 (.vptr es i j) 0 = some (.vptr es i (j + 0)) := fa_v tf98_0 ti9 (by decide)
theorem fp98_1 {b sz i j : Nat} : fieldAddrA Tryz.prog 98 (.ptr b sz i j) 1 = some (.ptr b sz i (j + 1)) := fa_p tf98_1 ti3 (by decide)
theorem fv98_1 {es : List (List AV)} {i j : Nat} : fieldAddrA Tryz.prog 98 (.vptr es i j) 1 = some (.vptr es i (j + 1)) := fa_v tf98_1 ti3 (by decide)
theorem lv22 {es : List (List AV)} {cl : Bool} : lenA Tryz.prog 22 (.vsl es cl) = some (I es.length) := lenV te22
theorem ll22 {b sz off len : Nat} {cl : Bool} : lenA Tryz.prog 22 (.sl b sz off len cl) = some (I len) := lenL te22
theorem is22 {b off len : Nat} {cl : Bool} {kd : IntKind} {n : Int} : indexAddrA Tryz.prog 22 (.sl b 1 off len cl) (.lit (.int kd n)) = if 0 ≤ n ∧ n < len then some (.ptr b 1 (off + n.toNat) 0) else none := ixs te22 ti5
theorem ix22 {l : List UInt8} {cl : Bool} {kd : IntKind} {n : Int} : indexAddrA Tryz.prog 22 (.vsl (l.map rU) cl) (.lit (.int kd n)) = if 0 ≤ n ∧ n < l.length then some (.vptr (l.map rU) n.toNat 0) else none := ixv te22 ti5 rU_len (by decide)
theorem sh22 {l : List UInt8} {cl : Bool} {h : Int} {ka : IntKind} : sliceA Tryz.prog 22 (.vsl (l.map rU) cl) none (some (.lit (.int ka h))) none = if 0 ≤ h ∧ h ≤ l.length then some (.vsl ((l.take h.toNat).map rU) (clipOf none h l.length cl)) else none := sl_hi te22 ti5 rU_len
theorem so22 {l : List UInt8} {cl : Bool} {lo : Int} {ka : IntKind} : sliceA Tryz.prog 22 (.vsl (l.map rU) cl) (some (.lit (.int ka lo))) none none = if 0 ≤ lo ∧ lo ≤ l.length then some (.vsl ((l.drop lo.toNat).map rU) cl) else none := sl_lo te22 ti5 rU_len
theorem sb22 {l : List UInt8} {cl : Bool} {lo h : Int} {ka kb : IntKind} : sliceA Tryz.prog 22 (.vsl (l.map rU) cl) (some (.lit (.int ka lo))) (some (.lit (.int kb h))) none = if 0 ≤ lo ∧ lo ≤ h ∧ h ≤ l.length then some (.vsl (((l.take h.toNat).drop lo.toNat).map rU) (clipOf none h l.length cl)) else none := sl_lohi te22 ti5 rU_len
theorem sm22 {l : List UInt8} {cl : Bool} {h m : Int} {ka kb : IntKind} : sliceA Tryz.prog 22 (.vsl (l.map rU) cl) none (some (.lit (.int ka h))) (some (.lit (.int kb m))) = if 0 ≤ h ∧ h ≤ m ∧ m ≤ l.length then some (.vsl ((l.take h.toNat).map rU) (decide (m = h))) else none := sl_hm te22 ti5 rU_len
theorem sp22 {b off n : Nat} {cl : Bool} {h m : Int} {ka kb : IntKind} : sliceA Tryz.prog 22 (.sl b 1 off n cl) none (some (.lit (.int ka h))) (some (.lit (.int kb m))) = if 0 ≤ h ∧ h ≤ m ∧ m ≤ n then some (.sl b 1 off h.toNat (decide (m = h))) else none := so_hm te22 ti5 rfl
theorem lv23 {es : List (List AV)} {cl : Bool} : lenA Tryz.prog 23 (.vsl es cl) = some (I es.length) := lenV te23
theorem ll23 {b sz off len : Nat} {cl : Bool} : lenA Tryz.prog 23 (.sl b sz off len cl) = some (I len) := lenL te23
theorem is23 {b off len : Nat} {cl : Bool} {kd : IntKind} {n : Int} : indexAddrA Tryz.prog 23 (.sl b 2 off len cl) (.lit (.int kd n)) = if 0 ≤ n ∧ n < len then some (.ptr b 2 (off + n.toNat) 0) else none := ixs te23 ti98
theorem ix23 {l : List Class} {cl : Bool} {kd : IntKind} {n : Int} : indexAddrA Tryz.prog 23 (.vsl (l.map rClass) cl) (.lit (.int kd n)) = if 0 ≤ n ∧ n < l.length then some (.vptr (l.map rClass) n.toNat 0) else none := ixv te23 ti98 rClass_len (by decide)
theorem sh23 {l : List Class} {cl : Bool} {h : Int} {ka : IntKind} : sliceA Tryz.prog 23 (.vsl (l.map rClass) cl) none (some (.lit (.int ka h))) none = if 0 ≤ h ∧ h ≤ l.length then some (.vsl ((l.take h.toNat).map rClass) (clipOf none h l.length cl)) else none := sl_hi te23 ti98 rClass_len
theorem so23 {l : List Class} {cl : Bool} {lo : Int} {ka : IntKind} : sliceA Tryz.prog 23 (.vsl (l.map rClass) cl) (some (.lit (.int ka lo))) none none = if 0 ≤ lo ∧ lo ≤ l.length then some (.vsl ((l.drop lo.toNat).map rClass) cl) else none := sl_lo te23 ti98 rClass_len
theorem sb23 {l : List Class} {cl : Bool} {lo h : Int} {ka kb : IntKind} : sliceA Tryz.prog 23 (.vsl (l.map rClass) cl) (some (.lit (.int ka lo))) (some (.lit (.int kb h))) none = if 0 ≤ lo ∧ lo ≤ h ∧ h ≤ l.length then some (.vsl (((l.take h.toNat).drop lo.toNat).map rClass) (clipOf none h l.length cl)) else none := sl_lohi te23 ti98 rClass_len
theorem sm23 {l : List Class} {cl : Bool} {h m : Int} {ka kb : IntKind} : sliceA Tryz.prog 23 (.vsl (l.map rClass) cl) none (some (.lit (.int ka h))) (some (.lit (.int kb m))) = if 0 ≤ h ∧ h ≤ m ∧ m ≤ l.length then some (.vsl ((l.take h.toNat).map rClass) (decide (m = h))) else none := sl_hm te23 ti98 rClass_len
theorem sp23 {b off n : Nat} {cl : Bool} {h m : Int} {ka kb : IntKind} : sliceA Tryz.prog 23 (.sl b 2 off n cl) none (some (.lit (.int ka h))) (some (.lit (.int kb m))) = if 0 ≤ h ∧ h ≤ m ∧ m ≤ n then some (.sl b 2 off h.toNat (decide (m = h))) else none := so_hm te23 ti98 rfl
theorem lv26 {es : List (List AV)} {cl : Bool} : lenA Tryz.prog 26 (.vsl es cl) = some (I es.length) := lenV te26
theorem ll26 {b sz off len : Nat} {cl : Bool} : lenA Tryz.prog 26 (.sl b sz off len cl) = some (I len) := lenL te26
theorem is26 {b off len : Nat} {cl : Bool} {kd : IntKind} {n : Int} : indexAddrA Tryz.prog 26 (.sl b 4 off len cl) (.lit (.int kd n)) = if 0 ≤ n ∧ n < len then some (.ptr b 4 (off + n.toNat) 0) else none := ixs te26 ti44
theorem ix26 {l : List Line} {cl : Bool} {kd : IntKind} {n : Int} : indexAddrA Tryz.prog 26 (.vsl (l.map rLine) cl) (.lit (.int kd n)) = if 0 ≤ n ∧ n < l.length then some (.vptr (l.map rLine) n.toNat 0) else none := ixv te26 ti44 rLine_len (by decide)
theorem sh26 {l : List Line} {cl : Bool} {h : Int} {ka : IntKind} : sliceA Tryz.prog 26 (.vsl (l.map rLine) cl) none (some (.lit (.int ka h))) none = if 0 ≤ h ∧ h ≤ l.length then some (.vsl ((l.take h.toNat).map rLine) (clipOf none h l.length cl)) else none := sl_hi te26 ti44 rLine_len
theorem so26 {l : List Line} {cl : Bool} {lo : Int} {ka : IntKind} : sliceA Tryz.prog 26 (.vsl (l.map rLine) cl) (some (.lit (.int ka lo))) none none = if 0 ≤ lo ∧ lo ≤ l.length then some (.vsl ((l.drop lo.toNat).map rLine) cl) else none := sl_lo te26 ti44 rLine_len
theorem sb26 {l : List Line} {cl : Bool} {lo h : Int} {ka kb : IntKind} : sliceA Tryz.prog 26 (.vsl (l.map rLine) cl) (some (.lit (.int ka lo))) (some (.lit (.int kb h))) none = if 0 ≤ lo ∧ lo ≤ h ∧ h ≤ l.length then some (.vsl (((l.take h.toNat).drop lo.toNat).map rLine) (clipOf none h l.length cl)) else none := sl_lohi te26 ti44 rLine_len
theorem sm26 {l : List Line} {cl : Bool} {h m : Int} {ka kb : IntKind} : sliceA Tryz.prog 26 (.vsl (l.map rLine) cl) none (some (.lit (.int ka h))) (some (.lit (.int kb m))) = if 0 ≤ h ∧ h ≤ m ∧ m ≤ l.length then some (.vsl ((l.take h.toNat).map rLine) (decide (m = h))) else none := sl_hm te26 ti44 rLine_len
theorem sp26 {b off n : Nat} {cl : Bool} {h m : Int} {ka kb : IntKind} : sliceA Tryz.prog 26 (.sl b 4 off n cl) none (some (.lit (.int ka h))) (some (.lit (.int kb m))) = if 0 ≤ h ∧ h ≤ m ∧ m ≤ n then some (.sl b 4 off h.toNat (decide (m = h))) else none := so_hm te26 ti44 rfl
theorem lv33 {es : List (List AV)} {cl : Bool} : lenA Tryz.prog 33 (.vsl es cl) = some (I es.length) := lenV te33
theorem ll33 {b sz off len : Nat} {cl : Bool} : lenA Tryz.prog 33 (.sl b sz off len cl) = some (I len) := lenL te33
theorem is33 {b off len : Nat} {cl : Bool} {kd : IntKind} {n : Int} : indexAddrA Tryz.prog 33 (.sl b 1 off len cl) (.lit (.int kd n)) = if 0 ≤ n ∧ n < len then some (.ptr b 1 (off + n.toNat) 0) else none := ixs te33 ti3
theorem ix33 {l : List Int} {cl : Bool} {kd : IntKind} {n : Int} : indexAddrA Tryz.prog 33 (.vsl (l.map rI) cl) (.lit (.int kd n)) = if 0 ≤ n ∧ n < l.length then some (.vptr (l.map rI) n.toNat 0) else none := ixv te33 ti3 rI_len (by decide)
theorem sh33 {l : List Int} {cl : Bool} {h : Int} {ka : IntKind} : sliceA Tryz.prog 33 (.vsl (l.map rI) cl) none (some (.lit (.int ka h))) none = if 0 ≤ h ∧ h ≤ l.length then some (.vsl ((l.take h.toNat).map rI) (clipOf none h l.length cl)) else none := sl_hi te33 ti3 rI_len
theorem so33 {l : List Int} {cl : Bool} {lo : Int} {ka : IntKind} : sliceA Tryz.prog 33 (.vsl (l.map rI) cl) (some (.lit (.int ka lo))) none none = if 0 ≤ lo ∧ lo ≤ l.length then some (.vsl ((l.drop lo.toNat).map rI) cl) else none := sl_lo te33 ti3 rI_len
theorem sb33 {l : List Int} {cl : Bool} {lo h : Int} {ka kb : IntKind} : sliceA Tryz.prog 33 (.vsl (l.map rI) cl) (some (.lit (.int ka lo))) (some (.lit (.int kb h))) none = if 0 ≤ lo ∧ lo ≤ h ∧ h ≤ l.length then some (.vsl (((l.take h.toNat).drop lo.toNat).map rI) (clipOf none h l.length cl)) else none := sl_lohi te33 ti3 rI_len
theorem sm33 {l : List Int} {cl : Bool} {h m : Int} {ka kb : IntKind} : sliceA Tryz.prog 33 (.vsl (l.map rI) cl) none (some (.lit (.int ka h))) (some (.lit (.int kb m))) = if 0 ≤ h ∧ h ≤ m ∧ m ≤ l.length then some (.vsl ((l.take h.toNat).map rI) (decide (m = h))) else none := sl_hm te33 ti3 rI_len
theorem sp33 {b off n : Nat} {cl : Bool} {h m : Int} {ka kb : IntKind} : sliceA Tryz.prog 33 (.sl b 1 off n cl) none (some (.lit (.int ka h))) (some (.lit (.int kb m))) = if 0 ≤ h ∧ h ≤ m ∧ m ≤ n then some (.sl b 1 off h.toNat (decide (m = h))) else none := so_hm te33 ti3 rfl
theorem lv34 {es : List (List AV)} {cl : Bool} : lenA Tryz.prog 34 (.vsl es cl) = some (I es.length) := lenV te34
theorem ll34 {b sz off len : Nat} {cl : Bool} : lenA Tryz.prog 34 (.sl b sz off len cl) = some (I len) := lenL te34
theorem is34 {b off len : Nat} {cl : Bool} {kd : IntKind} {n : Int} : indexAddrA Tryz.prog 34 (.sl b 5 off len cl) (.lit (.int kd n)) = if 0 ≤ n ∧ n < len then some (.ptr b 5 (off + n.toNat) 0) else none := ixs te34 ti87
theorem ix34 {l : List Fault} {cl : Bool} {kd : IntKind} {n : Int} : indexAddrA Tryz.prog 34 (.vsl (l.map rFault) cl) (.lit (.int kd n)) = if 0 ≤ n ∧ n < l.length then some (.vptr (l.map rFault) n.toNat 0) else none := ixv te34 ti87 rFault_len (by decide)
theorem sh34 {l : List Fault} {cl : Bool} {h : Int} {ka : IntKind} : sliceA Tryz.prog 34 (.vsl (l.map rFault) cl) none (some (.lit (.int ka h))) none = if 0 ≤ h ∧ h ≤ l.length then some (.vsl ((l.take h.toNat).map rFault) (clipOf none h l.length cl)) else none := sl_hi te34 ti87 rFault_len
theorem so34 {l : List Fault} {cl : Bool} {lo : Int} {ka : IntKind} : sliceA Tryz.prog 34 (.vsl (l.map rFault) cl) (some (.lit (.int ka lo))) none none = if 0 ≤ lo ∧ lo ≤ l.length then some (.vsl ((l.drop lo.toNat).map rFault) cl) else none := sl_lo te34 ti87 rFault_len
theorem sb34 {l : List Fault} {cl : Bool} {lo h : Int} {ka kb : IntKind} : sliceA Tryz.prog 34 (.vsl (l.map rFault) cl) (some (.lit (.int ka lo))) (some (.lit (.int kb h))) none = if 0 ≤ lo ∧ lo ≤ h ∧ h ≤ l.length then some (.vsl (((l.take h.toNat).drop lo.toNat).map rFault) (clipOf none h l.length cl)) else none := sl_lohi te34 ti87 rFault_len
theorem sm34 {l : List Fault} {cl : Bool} {h m : Int} {ka kb : IntKind} : sliceA Tryz.prog 34 (.vsl (l.map rFault) cl) none (some (.lit (.int ka h))) (some (.lit (.int kb m))) = if 0 ≤ h ∧ h ≤ m ∧ m ≤ l.length then some (.vsl ((l.take h.toNat).map rFault) (decide (m = h))) else none := sl_hm te34 ti87 rFault_len
theorem sp34 {b off n : Nat} {cl : Bool} {h m : Int} {ka kb : IntKind} : sliceA Tryz.prog 34 (.sl b 5 off n cl) none (some (.lit (.int ka h))) (some (.lit (.int kb m))) = if 0 ≤ h ∧ h ≤ m ∧ m ≤ n then some (.sl b 5 off h.toNat (decide (m = h))) else none := so_hm te34 ti87 rfl
theorem lv111 {es : List (List AV)} {cl : Bool} : lenA Tryz.prog 111 (.vsl es cl) = some (I es.length) := lenV te111
theorem ll111 {b sz off len : Nat} {cl : Bool} : lenA Tryz.prog 111 (.sl b sz off len cl) = some (I len) := lenL te111
theorem is111 {b off len : Nat} {cl : Bool} {kd : IntKind} {n : Int} : indexAddrA Tryz.prog 111 (.sl b 1 off len cl) (.lit (.int kd n)) = if 0 ≤ n ∧ n < len then some (.ptr b 1 (off + n.toNat) 0) else none := ixs te111 ti9
theorem ix111 {l : List Str} {cl : Bool} {kd : IntKind} {n : Int} : indexAddrA Tryz.prog 111 (.vsl (l.map rS) cl) (.lit (.int kd n)) = if 0 ≤ n ∧ n < l.length then some (.vptr (l.map rS) n.toNat 0) else none := ixv te111 ti9 rS_len (by decide)
theorem sh111 {l : List Str} {cl : Bool} {h : Int} {ka : IntKind} : sliceA Tryz.prog 111 (.vsl (l.map rS) cl) none (some (.lit (.int ka h))) none = if 0 ≤ h ∧ h ≤ l.length then some (.vsl ((l.take h.toNat).map rS) (clipOf none h l.length cl)) else none := sl_hi te111 ti9 rS_len
theorem so111 {l : List Str} {cl : Bool} {lo : Int} {ka : IntKind} : sliceA Tryz.prog 111 (.vsl (l.map rS) cl) (some (.lit (.int ka lo))) none none = if 0 ≤ lo ∧ lo ≤ l.length then some (.vsl ((l.drop lo.toNat).map rS) cl) else none := sl_lo te111 ti9 rS_len
theorem sb111 {l : List Str} {cl : Bool} {lo h : Int} {ka kb : IntKind} : sliceA Tryz.prog 111 (.vsl (l.map rS) cl) (some (.lit (.int ka lo))) (some (.lit (.int kb h))) none = if 0 ≤ lo ∧ lo ≤ h ∧ h ≤ l.length then some (.vsl (((l.take h.toNat).drop lo.toNat).map rS) (clipOf none h l.length cl)) else none := sl_lohi te111 ti9 rS_len
theorem sm111 {l : List Str} {cl : Bool} {h m : Int} {ka kb : IntKind} : sliceA Tryz.prog 111 (.vsl (l.map rS) cl) none (some (.lit (.int ka h))) (some (.lit (.int kb m))) = if 0 ≤ h ∧ h ≤ m ∧ m ≤ l.length then some (.vsl ((l.take h.toNat).map rS) (decide (m = h))) else none := sl_hm te111 ti9 rS_len
theorem sp111 {b off n : Nat} {cl : Bool} {h m : Int} {ka kb : IntKind} : sliceA Tryz.prog 111 (.sl b 1 off n cl) none (some (.lit (.int ka h))) (some (.lit (.int kb m))) = if 0 ≤ h ∧ h ≤ m ∧ m ≤ n then some (.sl b 1 off h.toNat (decide (m = h))) else none := so_hm te111 ti9 rfl
theorem xs9 {s : Str} {kd : IntKind} {n : Int} : indexA Tryz.prog 9 (S s) (.lit (.int kd n)) = if 0 ≤ n ∧ n < s.length then some (U8 (s.getD n.toNat 0).toNat) else none := ixS ts9
theorem ls9 {s : Str} : lenA Tryz.prog 9 (S s) = some (I s.length) := lenS ts9
theorem sx9 {s : Str} {h : Int} {ka : IntKind} : sliceA Tryz.prog 9 (S s) none (some (.lit (.int ka h))) none = if 0 ≤ h ∧ h ≤ s.length then some (S (s.take h.toNat)) else none := ss_hi ts9
theorem sy9 {s : Str} {lo : Int} {ka : IntKind} : sliceA Tryz.prog 9 (S s) (some (.lit (.int ka lo))) none none = if 0 ≤ lo ∧ lo ≤ s.length then some (S (s.drop lo.toNat)) else none := ss_lo ts9
theorem sz9 {s : Str} {lo h : Int} {ka kb : IntKind} : sliceA Tryz.prog 9 (S s) (some (.lit (.int ka lo))) (some (.lit (.int kb h))) none = if 0 ≤ lo ∧ lo ≤ h ∧ h ≤ s.length then some (S ((s.take h.toNat).drop lo.toNat)) else none := ss_lohi ts9
end Go.Proofs.YtoacjmckefahcaaGreat

/- Facts of this seat's tables of types. No condition. -/
import Derived.Test.YtihjbbiajggcoaaDoorRows2
import Derived.Test.YtihjbbiajggcoaaDoorChecked
import Derived.KernelRfl
set_option linter.unusedVariables false
set_option linter.unusedSimpArgs false
namespace Go.Proofs.YtihjbbiajggcoaaDoor
open Go Go.Sim

theorem mixed : Tryd.prog.follows .mixedOrders = true := by kernel_rfl
theorem ti1 : tinfo Tryd.prog 1 = some ⟨1, 8, false, [.nilFunc]⟩ := by kernel_rfl
theorem ti2 : tinfo Tryd.prog 2 = some ⟨1, 8, false, [.int .i64 0]⟩ := by kernel_rfl
theorem tk2 : tint Tryd.prog 2 = some .i64 := by kernel_rfl
theorem ti3 : tinfo Tryd.prog 3 = some ⟨1, 8, false, [.int .i64 0]⟩ := by kernel_rfl
theorem te3 : telem Tryd.prog 3 = none := by kernel_rfl
theorem ts3 : tstr Tryd.prog 3 = false := by kernel_rfl
theorem tk3 : tint Tryd.prog 3 = some .i64 := by kernel_rfl
theorem tz3 : tsome Tryd.prog 3 = true := by kernel_rfl
theorem ti4 : tinfo Tryd.prog 4 = some ⟨1, 1, false, [.bool false]⟩ := by kernel_rfl
theorem tb4 : tbool Tryd.prog 4 = true := by kernel_rfl
theorem ti5 : tinfo Tryd.prog 5 = some ⟨1, 1, false, [.int .u8 0]⟩ := by kernel_rfl
theorem tk5 : tint Tryd.prog 5 = some .u8 := by kernel_rfl
theorem tz5 : tsome Tryd.prog 5 = true := by kernel_rfl
theorem ti9 : tinfo Tryd.prog 9 = some ⟨1, 16, false, [(.string ⟨[].toArray⟩)]⟩ := by kernel_rfl
theorem te9 : telem Tryd.prog 9 = none := by kernel_rfl
theorem ts9 : tstr Tryd.prog 9 = true := by kernel_rfl
theorem tk9 : tint Tryd.prog 9 = none := by kernel_rfl
theorem tz9 : tsome Tryd.prog 9 = true := by kernel_rfl
theorem ti12 : tinfo Tryd.prog 12 = some ⟨1, 8, false, [.int .u64 0]⟩ := by kernel_rfl
theorem tk12 : tint Tryd.prog 12 = some .u64 := by kernel_rfl
theorem ti13 : tinfo Tryd.prog 13 = some ⟨2, 24, true, [(.string ⟨[].toArray⟩), .int .u64 0]⟩ := by kernel_rfl
theorem tp13 : tplaces Tryd.prog 13 = some [(0, 1), (1, 1)] := by kernel_rfl
theorem tf13_0 : tfield Tryd.prog 13 0 = some (0, 9) := by kernel_rfl
theorem tf13_1 : tfield Tryd.prog 13 1 = some (1, 12) := by kernel_rfl
theorem ti20 : tinfo Tryd.prog 20 = some ⟨1, 16, false, [.nilIface]⟩ := by kernel_rfl
theorem ti21 : tinfo Tryd.prog 21 = some ⟨1, 4, false, [.int .i32 0]⟩ := by kernel_rfl
theorem tk21 : tint Tryd.prog 21 = some .i32 := by kernel_rfl
theorem tz21 : tsome Tryd.prog 21 = true := by kernel_rfl
theorem ti22 : tinfo Tryd.prog 22 = some ⟨1, 24, false, [(.slice none 0 0)]⟩ := by kernel_rfl
theorem te22 : telem Tryd.prog 22 = some 5 := by kernel_rfl
theorem tz22 : tsome Tryd.prog 22 = true := by kernel_rfl
theorem ti23 : tinfo Tryd.prog 23 = some ⟨1, 24, false, [(.slice none 0 0)]⟩ := by kernel_rfl
theorem te23 : telem Tryd.prog 23 = some 84 := by kernel_rfl
theorem ti24 : tinfo Tryd.prog 24 = some ⟨1, 24, true, [(.slice none 0 0)]⟩ := by kernel_rfl
theorem tp24 : tplaces Tryd.prog 24 = some [(0, 1)] := by kernel_rfl
theorem tf24_0 : tfield Tryd.prog 24 0 = some (0, 23) := by kernel_rfl
theorem ti25 : tinfo Tryd.prog 25 = some ⟨1, 24, true, [(.slice none 0 0)]⟩ := by kernel_rfl
theorem tp25 : tplaces Tryd.prog 25 = some [(0, 1)] := by kernel_rfl
theorem tf25_0 : tfield Tryd.prog 25 0 = some (0, 23) := by kernel_rfl
theorem ti26 : tinfo Tryd.prog 26 = some ⟨1, 24, false, [(.slice none 0 0)]⟩ := by kernel_rfl
theorem te26 : telem Tryd.prog 26 = some 35 := by kernel_rfl
theorem ti27 : tinfo Tryd.prog 27 = some ⟨1, 24, true, [(.slice none 0 0)]⟩ := by kernel_rfl
theorem tp27 : tplaces Tryd.prog 27 = some [(0, 1)] := by kernel_rfl
theorem tf27_0 : tfield Tryd.prog 27 0 = some (0, 26) := by kernel_rfl
theorem ti28 : tinfo Tryd.prog 28 = some ⟨1, 24, true, [(.slice none 0 0)]⟩ := by kernel_rfl
theorem tp28 : tplaces Tryd.prog 28 = some [(0, 1)] := by kernel_rfl
theorem tf28_0 : tfield Tryd.prog 28 0 = some (0, 26) := by kernel_rfl
theorem ti30 : tinfo Tryd.prog 30 = some ⟨1, 8, false, [.nilFunc]⟩ := by kernel_rfl
theorem ti32 : tinfo Tryd.prog 32 = some ⟨1, 8, false, [.nilFunc]⟩ := by kernel_rfl
theorem ti33 : tinfo Tryd.prog 33 = some ⟨1, 8, false, [.nilFunc]⟩ := by kernel_rfl
theorem ti34 : tinfo Tryd.prog 34 = some ⟨5, 40, true, [.int .i64 0, .int .i64 0, .int .i64 0, .int .i64 0, .bool false]⟩ := by kernel_rfl
theorem tq34 : teq Tryd.prog 34 = some [.i, .i, .i, .i, .b] := by kernel_rfl
theorem tp34 : tplaces Tryd.prog 34 = some [(0, 1), (1, 1), (2, 1), (3, 1), (4, 1)] := by kernel_rfl
theorem tf34_0 : tfield Tryd.prog 34 0 = some (0, 3) := by kernel_rfl
theorem tf34_1 : tfield Tryd.prog 34 1 = some (1, 3) := by kernel_rfl
theorem tf34_2 : tfield Tryd.prog 34 2 = some (2, 3) := by kernel_rfl
theorem tf34_3 : tfield Tryd.prog 34 3 = some (3, 3) := by kernel_rfl
theorem tf34_4 : tfield Tryd.prog 34 4 = some (4, 4) := by kernel_rfl
theorem ti35 : tinfo Tryd.prog 35 = some ⟨5, 40, true, [.int .i64 0, .int .i64 0, .int .i64 0, .int .i64 0, .bool false]⟩ := by kernel_rfl
theorem tq35 : teq Tryd.prog 35 = some [.i, .i, .i, .i, .b] := by kernel_rfl
theorem tp35 : tplaces Tryd.prog 35 = some [(0, 1), (1, 1), (2, 1), (3, 1), (4, 1)] := by kernel_rfl
theorem tf35_0 : tfield Tryd.prog 35 0 = some (0, 3) := by kernel_rfl
theorem tf35_1 : tfield Tryd.prog 35 1 = some (1, 3) := by kernel_rfl
theorem tf35_2 : tfield Tryd.prog 35 2 = some (2, 3) := by kernel_rfl
theorem tf35_3 : tfield Tryd.prog 35 3 = some (3, 3) := by kernel_rfl
theorem tf35_4 : tfield Tryd.prog 35 4 = some (4, 4) := by kernel_rfl
theorem ti36 : tinfo Tryd.prog 36 = some ⟨1, 8, false, [.nilFunc]⟩ := by kernel_rfl
theorem ti37 : tinfo Tryd.prog 37 = some ⟨1, 24, false, [(.slice none 0 0)]⟩ := by kernel_rfl
theorem te37 : telem Tryd.prog 37 = some 3 := by kernel_rfl
theorem ti38 : tinfo Tryd.prog 38 = some ⟨1, 8, false, [.nilFunc]⟩ := by kernel_rfl
theorem ti39 : tinfo Tryd.prog 39 = some ⟨1, 8, false, [.nilFunc]⟩ := by kernel_rfl
theorem ti40 : tinfo Tryd.prog 40 = some ⟨1, 8, false, [.nilFunc]⟩ := by kernel_rfl
theorem ti42 : tinfo Tryd.prog 42 = some ⟨1, 8, false, [.nilFunc]⟩ := by kernel_rfl
theorem ti44 : tinfo Tryd.prog 44 = some ⟨1, 8, false, [.nilFunc]⟩ := by kernel_rfl
theorem ti45 : tinfo Tryd.prog 45 = some ⟨1, 8, false, [.nilFunc]⟩ := by kernel_rfl
theorem ti46 : tinfo Tryd.prog 46 = some ⟨1, 8, false, [.nilFunc]⟩ := by kernel_rfl
theorem ti47 : tinfo Tryd.prog 47 = some ⟨1, 8, false, [.pointer none]⟩ := by kernel_rfl
theorem ti48 : tinfo Tryd.prog 48 = some ⟨1, 8, false, [.nilFunc]⟩ := by kernel_rfl
theorem ti49 : tinfo Tryd.prog 49 = some ⟨1, 8, false, [.nilFunc]⟩ := by kernel_rfl
theorem ti50 : tinfo Tryd.prog 50 = some ⟨1, 8, false, [.nilFunc]⟩ := by kernel_rfl
theorem ti51 : tinfo Tryd.prog 51 = some ⟨1, 8, false, [.nilFunc]⟩ := by kernel_rfl
theorem ti52 : tinfo Tryd.prog 52 = some ⟨1, 8, false, [.nilFunc]⟩ := by kernel_rfl
theorem ti53 : tinfo Tryd.prog 53 = some ⟨1, 8, false, [.nilFunc]⟩ := by kernel_rfl
theorem ti54 : tinfo Tryd.prog 54 = some ⟨1, 8, false, [.nilFunc]⟩ := by kernel_rfl
theorem ti55 : tinfo Tryd.prog 55 = some ⟨1, 8, false, [.nilFunc]⟩ := by kernel_rfl
theorem ti56 : tinfo Tryd.prog 56 = some ⟨1, 8, false, [.nilFunc]⟩ := by kernel_rfl
theorem ti57 : tinfo Tryd.prog 57 = some ⟨1, 8, false, [.nilFunc]⟩ := by kernel_rfl
theorem ti58 : tinfo Tryd.prog 58 = some ⟨1, 8, false, [.nilFunc]⟩ := by kernel_rfl
theorem ti59 : tinfo Tryd.prog 59 = some ⟨1, 8, false, [.nilFunc]⟩ := by kernel_rfl
theorem ti60 : tinfo Tryd.prog 60 = some ⟨1, 8, false, [.nilFunc]⟩ := by kernel_rfl
theorem ti61 : tinfo Tryd.prog 61 = some ⟨1, 8, false, [.nilFunc]⟩ := by kernel_rfl
theorem ti62 : tinfo Tryd.prog 62 = some ⟨1, 8, false, [.nilFunc]⟩ := by kernel_rfl
theorem ti64 : tinfo Tryd.prog 64 = some ⟨1, 8, false, [.nilFunc]⟩ := by kernel_rfl
theorem ti65 : tinfo Tryd.prog 65 = some ⟨1, 8, false, [.nilFunc]⟩ := by kernel_rfl
theorem ti66 : tinfo Tryd.prog 66 = some ⟨2, 32, true, [(.slice none 0 0), .int .i64 0]⟩ := by kernel_rfl
theorem tp66 : tplaces Tryd.prog 66 = some [(0, 1), (1, 1)] := by kernel_rfl
theorem tf66_0 : tfield Tryd.prog 66 0 = some (0, 22) := by kernel_rfl
theorem tf66_1 : tfield Tryd.prog 66 1 = some (1, 3) := by kernel_rfl
theorem ti67 : tinfo Tryd.prog 67 = some ⟨2, 32, true, [(.slice none 0 0), .int .i64 0]⟩ := by kernel_rfl
theorem tp67 : tplaces Tryd.prog 67 = some [(0, 1), (1, 1)] := by kernel_rfl
theorem tf67_0 : tfield Tryd.prog 67 0 = some (0, 22) := by kernel_rfl
theorem tf67_1 : tfield Tryd.prog 67 1 = some (1, 3) := by kernel_rfl
theorem ti68 : tinfo Tryd.prog 68 = some ⟨1, 8, false, [.nilFunc]⟩ := by kernel_rfl
theorem ti69 : tinfo Tryd.prog 69 = some ⟨1, 8, false, [.nilFunc]⟩ := by kernel_rfl
theorem ti70 : tinfo Tryd.prog 70 = some ⟨1, 8, false, [.pointer none]⟩ := by kernel_rfl
theorem ti71 : tinfo Tryd.prog 71 = some ⟨1, 8, false, [.nilFunc]⟩ := by kernel_rfl
theorem ti72 : tinfo Tryd.prog 72 = some ⟨1, 8, false, [.nilFunc]⟩ := by kernel_rfl
theorem ti73 : tinfo Tryd.prog 73 = some ⟨1, 8, false, [.nilFunc]⟩ := by kernel_rfl
theorem ti74 : tinfo Tryd.prog 74 = some ⟨1, 8, false, [.nilFunc]⟩ := by kernel_rfl
theorem ti75 : tinfo Tryd.prog 75 = some ⟨1, 8, false, [.nilFunc]⟩ := by kernel_rfl
theorem ti76 : tinfo Tryd.prog 76 = some ⟨1, 8, false, [.nilFunc]⟩ := by kernel_rfl
theorem ti77 : tinfo Tryd.prog 77 = some ⟨1, 8, false, [.nilFunc]⟩ := by kernel_rfl
theorem ti78 : tinfo Tryd.prog 78 = some ⟨1, 8, false, [.nilFunc]⟩ := by kernel_rfl
theorem ti79 : tinfo Tryd.prog 79 = some ⟨1, 8, false, [.nilFunc]⟩ := by kernel_rfl
theorem ti80 : tinfo Tryd.prog 80 = some ⟨1, 8, false, [.nilFunc]⟩ := by kernel_rfl
theorem ti81 : tinfo Tryd.prog 81 = some ⟨1, 8, false, [.nilFunc]⟩ := by kernel_rfl
theorem ti82 : tinfo Tryd.prog 82 = some ⟨1, 8, false, [.nilFunc]⟩ := by kernel_rfl
theorem ti83 : tinfo Tryd.prog 83 = some ⟨2, 24, true, [(.string ⟨[].toArray⟩), .int .i64 0]⟩ := by kernel_rfl
theorem tq83 : teq Tryd.prog 83 = some [.s, .i] := by kernel_rfl
theorem tp83 : tplaces Tryd.prog 83 = some [(0, 1), (1, 1)] := by kernel_rfl
theorem tf83_0 : tfield Tryd.prog 83 0 = some (0, 9) := by kernel_rfl
theorem tf83_1 : tfield Tryd.prog 83 1 = some (1, 3) := by kernel_rfl
theorem ti84 : tinfo Tryd.prog 84 = some ⟨2, 24, true, [(.string ⟨[].toArray⟩), .int .i64 0]⟩ := by kernel_rfl
theorem tq84 : teq Tryd.prog 84 = some [.s, .i] := by kernel_rfl
theorem tp84 : tplaces Tryd.prog 84 = some [(0, 1), (1, 1)] := by kernel_rfl
theorem tf84_0 : tfield Tryd.prog 84 0 = some (0, 9) := by kernel_rfl
theorem tf84_1 : tfield Tryd.prog 84 1 = some (1, 3) := by kernel_rfl
theorem ti85 : tinfo Tryd.prog 85 = some ⟨1, 8, false, [.nilFunc]⟩ := by kernel_rfl
theorem ti86 : tinfo Tryd.prog 86 = some ⟨1, 8, false, [.nilFunc]⟩ := by kernel_rfl
theorem ti87 : tinfo Tryd.prog 87 = some ⟨1, 8, false, [.nilFunc]⟩ := by kernel_rfl
theorem ti88 : tinfo Tryd.prog 88 = some ⟨1, 8, false, [.nilFunc]⟩ := by kernel_rfl
theorem ti89 : tinfo Tryd.prog 89 = some ⟨1, 8, false, [.nilFunc]⟩ := by kernel_rfl
theorem ti90 : tinfo Tryd.prog 90 = some ⟨1, 8, false, [.nilFunc]⟩ := by kernel_rfl
theorem ti91 : tinfo Tryd.prog 91 = some ⟨1, 8, false, [.nilFunc]⟩ := by kernel_rfl
theorem ti92 : tinfo Tryd.prog 92 = some ⟨1, 8, false, [.nilFunc]⟩ := by kernel_rfl
theorem ti93 : tinfo Tryd.prog 93 = some ⟨1, 8, false, [.nilFunc]⟩ := by kernel_rfl
theorem ti94 : tinfo Tryd.prog 94 = some ⟨1, 8, false, [.nilFunc]⟩ := by kernel_rfl
theorem ti95 : tinfo Tryd.prog 95 = some ⟨1, 8, false, [.nilFunc]⟩ := by kernel_rfl
theorem ti96 : tinfo Tryd.prog 96 = some ⟨1, 8, false, [.int .u64 0]⟩ := by kernel_rfl
theorem tk96 : tint Tryd.prog 96 = some .u64 := by kernel_rfl
theorem tz96 : tsome Tryd.prog 96 = true := by kernel_rfl
theorem ti97 : tinfo Tryd.prog 97 = some ⟨1, 8, false, [.nilFunc]⟩ := by kernel_rfl
theorem ti98 : tinfo Tryd.prog 98 = some ⟨1, 8, false, [.nilFunc]⟩ := by kernel_rfl
theorem ti99 : tinfo Tryd.prog 99 = some ⟨1, 8, false, [.nilFunc]⟩ := by kernel_rfl
theorem ti100 : tinfo Tryd.prog 100 = some ⟨1, 8, false, [.nilFunc]⟩ := by kernel_rfl
theorem ti101 : tinfo Tryd.prog 101 = some ⟨1, 24, false, [(.slice none 0 0)]⟩ := by kernel_rfl
theorem te101 : telem Tryd.prog 101 = some 9 := by kernel_rfl
theorem ti102 : tinfo Tryd.prog 102 = some ⟨1, 8, false, [.nilFunc]⟩ := by kernel_rfl
theorem ti103 : tinfo Tryd.prog 103 = some ⟨1, 8, false, [.nilFunc]⟩ := by kernel_rfl
theorem ti104 : tinfo Tryd.prog 104 = some ⟨1, 8, false, [.int .i64 0]⟩ := by kernel_rfl
theorem tk104 : tint Tryd.prog 104 = some .i64 := by kernel_rfl
theorem ti106 : tinfo Tryd.prog 106 = some ⟨1, 8, false, [.nilFunc]⟩ := by kernel_rfl
theorem ti107 : tinfo Tryd.prog 107 = some ⟨1, 8, false, [.nilFunc]⟩ := by kernel_rfl
theorem ti108 : tinfo Tryd.prog 108 = some ⟨1, 8, false, [.nilFunc]⟩ := by kernel_rfl
theorem ti110 : tinfo Tryd.prog 110 = some ⟨1, 8, false, [.nilFunc]⟩ := by kernel_rfl
theorem ti111 : tinfo Tryd.prog 111 = some ⟨1, 8, false, [.nilFunc]⟩ := by kernel_rfl
theorem ti112 : tinfo Tryd.prog 112 = some ⟨1, 4, false, [.int .u32 0]⟩ := by kernel_rfl
theorem tk112 : tint Tryd.prog 112 = some .u32 := by kernel_rfl
theorem tz112 : tsome Tryd.prog 112 = true := by kernel_rfl
theorem ti113 : tinfo Tryd.prog 113 = some ⟨1, 8, false, [.nilFunc]⟩ := by kernel_rfl
theorem ti114 : tinfo Tryd.prog 114 = some ⟨1, 8, false, [.int .u64 0]⟩ := by kernel_rfl
theorem tk114 : tint Tryd.prog 114 = some .u64 := by kernel_rfl
theorem tz114 : tsome Tryd.prog 114 = true := by kernel_rfl
theorem ti115 : tinfo Tryd.prog 115 = some ⟨1, 8, false, [.int .u64 0]⟩ := by kernel_rfl
theorem tk115 : tint Tryd.prog 115 = some .u64 := by kernel_rfl
theorem ti116 : tinfo Tryd.prog 116 = some ⟨1, 8, false, [.nilFunc]⟩ := by kernel_rfl
theorem ti117 : tinfo Tryd.prog 117 = some ⟨1, 8, false, [.nilFunc]⟩ := by kernel_rfl
theorem ti118 : tinfo Tryd.prog 118 = some ⟨1, 8, false, [.nilFunc]⟩ := by kernel_rfl
theorem ti119 : tinfo Tryd.prog 119 = some ⟨1, 8, false, [.pointer none]⟩ := by kernel_rfl
theorem ti120 : tinfo Tryd.prog 120 = some ⟨1, 8, false, [.nilFunc]⟩ := by kernel_rfl
theorem ti121 : tinfo Tryd.prog 121 = some ⟨1, 8, false, [.nilFunc]⟩ := by kernel_rfl
theorem ti122 : tinfo Tryd.prog 122 = some ⟨1, 8, false, [.pointer none]⟩ := by kernel_rfl
theorem ti124 : tinfo Tryd.prog 124 = some ⟨1, 8, false, [.nilFunc]⟩ := by kernel_rfl
theorem ti125 : tinfo Tryd.prog 125 = some ⟨24, 24, true, [.int .u8 0, .int .u8 0, .int .u8 0, .int .u8 0, .int .u8 0, .int .u8 0, .int .u8 0, .int .u8 0, .int .u8 0, .int .u8 0, .int .u8 0, .int .u8 0, .int .u8 0, .int .u8 0, .int .u8 0, .int .u8 0, .int .u8 0, .int .u8 0, .int .u8 0, .int .u8 0, .int .u8 0, .int .u8 0, .int .u8 0, .int .u8 0]⟩ := by kernel_rfl
theorem ta125 : tarr Tryd.prog 125 = some (24, 5) := by kernel_rfl
theorem ti126 : tinfo Tryd.prog 126 = some ⟨1, 8, false, [.nilFunc]⟩ := by kernel_rfl
theorem ti128 : tinfo Tryd.prog 128 = some ⟨1, 8, false, [.nilFunc]⟩ := by kernel_rfl
theorem ti129 : tinfo Tryd.prog 129 = some ⟨1, 8, false, [.nilFunc]⟩ := by kernel_rfl
theorem ti130 : tinfo Tryd.prog 130 = some ⟨20, 160, true, [.int .u64 0, .int .u64 0, .int .u64 0, .int .u64 0, .int .u64 0, .int .u64 0, .int .u64 0, .int .u64 0, .int .u64 0, .int .u64 0, .int .u64 0, .int .u64 0, .int .u64 0, .int .u64 0, .int .u64 0, .int .u64 0, .int .u64 0, .int .u64 0, .int .u64 0, .int .u64 0]⟩ := by kernel_rfl
theorem ta130 : tarr Tryd.prog 130 = some (20, 114) := by kernel_rfl
theorem ti131 : tinfo Tryd.prog 131 = some ⟨65, 65, true, [.int .u8 0, .int .u8 0, .int .u8 0, .int .u8 0, .int .u8 0, .int .u8 0, .int .u8 0, .int .u8 0, .int .u8 0, .int .u8 0, .int .u8 0, .int .u8 0, .int .u8 0, .int .u8 0, .int .u8 0, .int .u8 0, .int .u8 0, .int .u8 0, .int .u8 0, .int .u8 0, .int .u8 0, .int .u8 0, .int .u8 0, .int .u8 0, .int .u8 0, .int .u8 0, .int .u8 0, .int .u8 0, .int .u8 0, .int .u8 0, .int .u8 0, .int .u8 0, .int .u8 0, .int .u8 0, .int .u8 0, .int .u8 0, .int .u8 0, .int .u8 0, .int .u8 0, .int .u8 0, .int .u8 0, .int .u8 0, .int .u8 0, .int .u8 0, .int .u8 0, .int .u8 0, .int .u8 0, .int .u8 0, .int .u8 0, .int .u8 0, .int .u8 0, .int .u8 0, .int .u8 0, .int .u8 0, .int .u8 0, .int .u8 0, .int .u8 0, .int .u8 0, .int .u8 0, .int .u8 0, .int .u8 0, .int .u8 0, .int .u8 0, .int .u8 0, .int .u8 0]⟩ := by kernel_rfl
theorem ta131 : tarr Tryd.prog 131 = some (65, 5) := by kernel_rfl
theorem ti132 : tinfo Tryd.prog 132 = some ⟨32, 32, true, [.int .u8 0, .int .u8 0, .int .u8 0, .int .u8 0, .int .u8 0, .int .u8 0, .int .u8 0, .int .u8 0, .int .u8 0, .int .u8 0, .int .u8 0, .int .u8 0, .int .u8 0, .int .u8 0, .int .u8 0, .int .u8 0, .int .u8 0, .int .u8 0, .int .u8 0, .int .u8 0, .int .u8 0, .int .u8 0, .int .u8 0, .int .u8 0, .int .u8 0, .int .u8 0, .int .u8 0, .int .u8 0, .int .u8 0, .int .u8 0, .int .u8 0, .int .u8 0]⟩ := by kernel_rfl
theorem ta132 : tarr Tryd.prog 132 = some (32, 5) := by kernel_rfl
theorem ti133 : tinfo Tryd.prog 133 = some ⟨64, 64, true, [.int .u8 0, .int .u8 0, .int .u8 0, .int .u8 0, .int .u8 0, .int .u8 0, .int .u8 0, .int .u8 0, .int .u8 0, .int .u8 0, .int .u8 0, .int .u8 0, .int .u8 0, .int .u8 0, .int .u8 0, .int .u8 0, .int .u8 0, .int .u8 0, .int .u8 0, .int .u8 0, .int .u8 0, .int .u8 0, .int .u8 0, .int .u8 0, .int .u8 0, .int .u8 0, .int .u8 0, .int .u8 0, .int .u8 0, .int .u8 0, .int .u8 0, .int .u8 0, .int .u8 0, .int .u8 0, .int .u8 0, .int .u8 0, .int .u8 0, .int .u8 0, .int .u8 0, .int .u8 0, .int .u8 0, .int .u8 0, .int .u8 0, .int .u8 0, .int .u8 0, .int .u8 0, .int .u8 0, .int .u8 0, .int .u8 0, .int .u8 0, .int .u8 0, .int .u8 0, .int .u8 0, .int .u8 0, .int .u8 0, .int .u8 0, .int .u8 0, .int .u8 0, .int .u8 0, .int .u8 0, .int .u8 0, .int .u8 0, .int .u8 0, .int .u8 0]⟩ := by kernel_rfl
theorem ta133 : tarr Tryd.prog 133 = some (64, 5) := by kernel_rfl
theorem ti134 : tinfo Tryd.prog 134 = some ⟨1, 8, false, [.nilFunc]⟩ := by kernel_rfl
theorem ti140 : tinfo Tryd.prog 140 = some ⟨1, 8, false, [.nilFunc]⟩ := by kernel_rfl
theorem ti144 : tinfo Tryd.prog 144 = some ⟨1, 8, false, [.pointer none]⟩ := by kernel_rfl
theorem fp13_0 {b sz i j : Nat} : fieldAddrA Tryd.prog 13 (.ptr b sz i j) 0 = some (.ptr b sz i (j + 0)) := fa_p tf13_0 ti9 (by decide)
theorem fv13_0 {es : List (List AV)} {i j : Nat} : fieldAddrA Tryd.prog 13 (.vptr es i j) 0 = some (.vptr es i (j + 0)) := fa_v tf13_0 ti9 (by decide)
theorem fp13_1 {b sz i j : Nat} : fieldAddrA Tryd.prog 13 (.ptr b sz i j) 1 = some (.ptr b sz i (j + 1)) := fa_p tf13_1 ti12 (by decide)
theorem fv13_1 {es : List (List AV)} {i j : Nat} : fieldAddrA Tryd.prog 13 (.vptr es i j) 1 = some (.vptr es i (j + 1)) := fa_v tf13_1 ti12 (by decide)
theorem fp24_0 {b sz i j : Nat} : fieldAddrA Tryd.prog 24 (.ptr b sz i j) 0 = some (.ptr b sz i (j + 0)) := fa_p tf24_0 ti23 (by decide)
theorem fv24_0 {es : List (List AV)} {i j : Nat} : fieldAddrA Tryd.prog 24 (.vptr es i j) 0 = some (.vptr es i (j + 0)) := fa_v tf24_0 ti23 (by decide)
theorem fp25_0 {b sz i j : Nat} : fieldAddrA Tryd.prog 25 (.ptr b sz i j) 0 = some (.ptr b sz i (j + 0)) := fa_p tf25_0 ti23 (by decide)
theorem fv25_0 {es : List (List AV)} {i j : Nat} : fieldAddrA Tryd.prog 25 (.vptr es i j) 0 = some (.vptr es i (j + 0)) := fa_v tf25_0 ti23 (by decide)
theorem fp27_0 {b sz i j : Nat} : fieldAddrA Tryd.prog 27 (.ptr b sz i j) 0 = some (.ptr b sz i (j + 0)) := fa_p tf27_0 ti26 (by decide)
theorem fv27_0 {es : List (List AV)} {i j : Nat} : fieldAddrA Tryd.prog 27 (.vptr es i j) 0 = some (.vptr es i (j + 0)) := fa_v tf27_0 ti26 (by decide)
theorem fp28_0 {b sz i j : Nat} : fieldAddrA Tryd.prog 28 (.ptr b sz i j) 0 = some (.ptr b sz i (j + 0)) := fa_p tf28_0 ti26 (by decide)
theorem fv28_0 {es : List (List AV)} {i j : Nat} : fieldAddrA Tryd.prog 28 (.vptr es i j) 0 = some (.vptr es i (j + 0)) := fa_v tf28_0 ti26 (by decide)
theorem fp34_0 {b sz i j : Nat} : fieldAddrA Tryd.prog 34 (.ptr b sz i j) 0 = some (.ptr b sz i (j + 0)) := fa_p tf34_0 ti3 (by decide)
theorem fv34_0 {es : List (List AV)} {i j : Nat} : fieldAddrA Tryd.prog 34 (.vptr es i j) 0 = some (.vptr es i (j + 0)) := fa_v tf34_0 ti3 (by decide)
theorem fp34_1 {b sz i j : Nat} : fieldAddrA Tryd.prog 34 (.ptr b sz i j) 1 = some (.ptr b sz i (j + 1)) := fa_p tf34_1 ti3 (by decide)
theorem fv34_1 {es : List (List AV)} {i j : Nat} : fieldAddrA Tryd.prog 34 (.vptr es i j) 1 = some (.vptr es i (j + 1)) := fa_v tf34_1 ti3 (by decide)
theorem fp34_2 {b sz i j : Nat} : fieldAddrA Tryd.prog 34 (.ptr b sz i j) 2 = some (.ptr b sz i (j + 2)) := fa_p tf34_2 ti3 (by decide)
theorem fv34_2 {es : List (List AV)} {i j : Nat} : fieldAddrA Tryd.prog 34 (.vptr es i j) 2 = some (.vptr es i (j + 2)) := fa_v tf34_2 ti3 (by decide)
theorem fp34_3 {b sz i j : Nat} : fieldAddrA Tryd.prog 34 (.ptr b sz i j) 3 = some (.ptr b sz i (j + 3)) := fa_p tf34_3 ti3 (by decide)
theorem fv34_3 {es : List (List AV)} {i j : Nat} : fieldAddrA Tryd.prog 34 (.vptr es i j) 3 = some (.vptr es i (j + 3)) := fa_v tf34_3 ti3 (by decide)
theorem fp34_4 {b sz i j : Nat} : fieldAddrA Tryd.prog 34 (.ptr b sz i j) 4 = some (.ptr b sz i (j + 4)) := fa_p tf34_4 ti4 (by decide)
theorem fv34_4 {es : List (List AV)} {i j : Nat} : fieldAddrA Tryd.prog 34 (.vptr es i j) 4 = some (.vptr es i (j + 4)) := fa_v tf34_4 ti4 (by decide)
theorem fp35_0 {b sz i j : Nat} : fieldAddrA Tryd.prog 35 (.ptr b sz i j) 0 = some (.ptr b sz i (j + 0)) := fa_p tf35_0 ti3 (by decide)
theorem fv35_0 {es : List (List AV)} {i j : Nat} : fieldAddrA Tryd.prog 35 (.vptr es i j) 0 = some (.vptr es i (j + 0)) := fa_v tf35_0 ti3 (by decide)
theorem fp35_1 {b sz i j : Nat} : fieldAddrA Tryd.prog 35 (.ptr b sz i j) 1 = some (.ptr b sz i (j + 1)) := fa_p tf35_1 ti3 (by decide)
theorem fv35_1 {es : List (List AV)} {i j : Nat} : fieldAddrA Tryd.prog 35 (.vptr es i j) 1 = some (.vptr es i (j + 1)) := fa_v tf35_1 ti3 (by decide)
theorem fp35_2 {b sz i j : Nat} : fieldAddrA Tryd.prog 35 (.ptr b sz i j) 2 = some (.ptr b sz i (j + 2)) := fa_p tf35_2 ti3 (by decide)
theorem fv35_2 {es : List (List AV)} {i j : Nat} : fieldAddrA Tryd.prog 35 (.vptr es i j) 2 = some (.vptr es i (j + 2)) := fa_v tf35_2 ti3 (by decide)
theorem fp35_3 {b sz i j : Nat} : fieldAddrA Tryd.prog 35 (.ptr b sz i j) 3 = some (.ptr b sz i (j + 3)) := fa_p tf35_3 ti3 (by decide)
theorem fv35_3 {es : List (List AV)} {i j : Nat} : fieldAddrA Tryd.prog 35 (.vptr es i j) 3 = some (.vptr es i (j + 3)) := fa_v tf35_3 ti3 (by decide)
theorem fp35_4 {b sz i j : Nat} : fieldAddrA Tryd.prog 35 (.ptr b sz i j) 4 = some (.ptr b sz i (j + 4)) := fa_p tf35_4 ti4 (by decide)
theorem fv35_4 {es : List (List AV)} {i j : Nat} : fieldAddrA Tryd.prog 35 (.vptr es i j) 4 = some (.vptr es i (j + 4)) := fa_v tf35_4 ti4 (by decide)
theorem fp66_0 {b sz i j : Nat} : fieldAddrA Tryd.prog 66 (.ptr b sz i j) 0 = some (.ptr b sz i (j + 0)) := fa_p tf66_0 ti22 (by decide)
theorem fv66_0 {es : List (List AV)} {i j : Nat} : fieldAddrA Tryd.prog 66 (.vptr es i j) 0 = some (.vptr es i (j + 0)) := fa_v tf66_0 ti22 (by decide)
theorem fp66_1 {b sz i j : Nat} : fieldAddrA Tryd.prog 66 (.ptr b sz i j) 1 = some (.ptr b sz i (j + 1)) := fa_p tf66_1 ti3 (by decide)
theorem fv66_1 {es : List (List AV)} {i j : Nat} : fieldAddrA Tryd.prog 66 (.vptr es i j) 1 = some (.vptr es i (j + 1)) := fa_v tf66_1 ti3 (by decide)
theorem fp67_0 {b sz i j : Nat} : fieldAddrA Tryd.prog 67 (.ptr b sz i j) 0 = some (.ptr b sz i (j + 0)) := fa_p tf67_0 ti22 (by decide)
theorem fv67_0 {es : List (List AV)} {i j : Nat} : fieldAddrA Tryd.prog 67 (.vptr es i j) 0 = some (.vptr es i (j + 0)) := fa_v tf67_0 ti22 (by decide)
theorem fp67_1 {b sz i j : Nat} : fieldAddrA Tryd.prog 67 (.ptr b sz i j) 1 = some (.ptr b sz i (j + 1)) := fa_p tf67_1 ti3 (by decide)
theorem fv67_1 {es : List (List AV)} {i j : Nat} : fieldAddrA Tryd.prog 67 (.vptr es i j) 1 = some (.vptr es i (j + 1)) := fa_v tf67_1 ti3 (by decide)
theorem fp83_0 {b sz i j : Nat} : fieldAddrA Tryd.prog 83 (.ptr b sz i j) 0 = some (.ptr b sz i (j + 0)) := fa_p tf83_0 ti9 (by decide)
theorem fv83_0 {es : List (List AV)} {i j : Nat} : fieldAddrA Tryd.prog 83 (.vptr es i j) 0 = some (.vptr es i (j + 0)) := fa_v tf83_0 ti9 (by decide)
theorem fp83_1 {b sz i j : Nat} : fieldAddrA Tryd.prog 83 (.ptr b sz i j) 1 = some (.ptr b sz i (j + 1)) := fa_p tf83_1 ti3 (by decide)
theorem fv83_1 {es : List (List AV)} {i j : Nat} : fieldAddrA Tryd.prog 83 (.vptr es i j) 1 = some (.vptr es i (j + 1)) := fa_v tf83_1 ti3 (by decide)
theorem fp84_0 {b sz i j : Nat} : fieldAddrA Tryd.prog 84 (.ptr b sz i j) 0 = some (.ptr b sz i (j + 0)) := fa_p tf84_0 ti9 (by decide)
theorem fv84_0 {es : List (List AV)} {i j : Nat} : fieldAddrA Tryd.prog 84 (.vptr es i j) 0 = some (.vptr es i (j + 0)) := fa_v tf84_0 ti9 (by decide)
theorem fp84_1 {b sz i j : Nat} : fieldAddrA Tryd.prog 84 (.ptr b sz i j) 1 = some (.ptr b sz i (j + 1)) := fa_p tf84_1 ti3 (by decide)
theorem fv84_1 {es : List (List AV)} {i j : Nat} : fieldAddrA Tryd.prog 84 (.vptr es i j) 1 = some (.vptr es i (j + 1)) := fa_v tf84_1 ti3 (by decide)
theorem lv22 {es : List (List AV)} {cl : Bool} : lenA Tryd.prog 22 (.vsl es cl) = some (I es.length) := lenV te22
theorem ll22 {b sz off len : Nat} {cl : Bool} : lenA Tryd.prog 22 (.sl b sz off len cl) = some (I len) := lenL te22
theorem is22 {b off len : Nat} {cl : Bool} {kd : IntKind} {n : Int} : indexAddrA Tryd.prog 22 (.sl b 1 off len cl) (.lit (.int kd n)) = if 0 ≤ n ∧ n < len then some (.ptr b 1 (off + n.toNat) 0) else none := ixs te22 ti5
theorem ix22 {l : List UInt8} {cl : Bool} {kd : IntKind} {n : Int} : indexAddrA Tryd.prog 22 (.vsl (l.map rU) cl) (.lit (.int kd n)) = if 0 ≤ n ∧ n < l.length then some (.vptr (l.map rU) n.toNat 0) else none := ixv te22 ti5 rU_len (by decide)
theorem sh22 {l : List UInt8} {cl : Bool} {h : Int} {ka : IntKind} : sliceA Tryd.prog 22 (.vsl (l.map rU) cl) none (some (.lit (.int ka h))) none = if 0 ≤ h ∧ h ≤ l.length then some (.vsl ((l.take h.toNat).map rU) (clipOf none h l.length cl)) else none := sl_hi te22 ti5 rU_len
theorem so22 {l : List UInt8} {cl : Bool} {lo : Int} {ka : IntKind} : sliceA Tryd.prog 22 (.vsl (l.map rU) cl) (some (.lit (.int ka lo))) none none = if 0 ≤ lo ∧ lo ≤ l.length then some (.vsl ((l.drop lo.toNat).map rU) cl) else none := sl_lo te22 ti5 rU_len
theorem sb22 {l : List UInt8} {cl : Bool} {lo h : Int} {ka kb : IntKind} : sliceA Tryd.prog 22 (.vsl (l.map rU) cl) (some (.lit (.int ka lo))) (some (.lit (.int kb h))) none = if 0 ≤ lo ∧ lo ≤ h ∧ h ≤ l.length then some (.vsl (((l.take h.toNat).drop lo.toNat).map rU) (clipOf none h l.length cl)) else none := sl_lohi te22 ti5 rU_len
theorem sm22 {l : List UInt8} {cl : Bool} {h m : Int} {ka kb : IntKind} : sliceA Tryd.prog 22 (.vsl (l.map rU) cl) none (some (.lit (.int ka h))) (some (.lit (.int kb m))) = if 0 ≤ h ∧ h ≤ m ∧ m ≤ l.length then some (.vsl ((l.take h.toNat).map rU) (decide (m = h))) else none := sl_hm te22 ti5 rU_len
theorem sp22 {b off n : Nat} {cl : Bool} {h m : Int} {ka kb : IntKind} : sliceA Tryd.prog 22 (.sl b 1 off n cl) none (some (.lit (.int ka h))) (some (.lit (.int kb m))) = if 0 ≤ h ∧ h ≤ m ∧ m ≤ n then some (.sl b 1 off h.toNat (decide (m = h))) else none := so_hm te22 ti5 rfl
theorem lv23 {es : List (List AV)} {cl : Bool} : lenA Tryd.prog 23 (.vsl es cl) = some (I es.length) := lenV te23
theorem ll23 {b sz off len : Nat} {cl : Bool} : lenA Tryd.prog 23 (.sl b sz off len cl) = some (I len) := lenL te23
theorem is23 {b off len : Nat} {cl : Bool} {kd : IntKind} {n : Int} : indexAddrA Tryd.prog 23 (.sl b 2 off len cl) (.lit (.int kd n)) = if 0 ≤ n ∧ n < len then some (.ptr b 2 (off + n.toNat) 0) else none := ixs te23 ti84
theorem ix23 {l : List Class} {cl : Bool} {kd : IntKind} {n : Int} : indexAddrA Tryd.prog 23 (.vsl (l.map rClass) cl) (.lit (.int kd n)) = if 0 ≤ n ∧ n < l.length then some (.vptr (l.map rClass) n.toNat 0) else none := ixv te23 ti84 rClass_len (by decide)
theorem sh23 {l : List Class} {cl : Bool} {h : Int} {ka : IntKind} : sliceA Tryd.prog 23 (.vsl (l.map rClass) cl) none (some (.lit (.int ka h))) none = if 0 ≤ h ∧ h ≤ l.length then some (.vsl ((l.take h.toNat).map rClass) (clipOf none h l.length cl)) else none := sl_hi te23 ti84 rClass_len
theorem so23 {l : List Class} {cl : Bool} {lo : Int} {ka : IntKind} : sliceA Tryd.prog 23 (.vsl (l.map rClass) cl) (some (.lit (.int ka lo))) none none = if 0 ≤ lo ∧ lo ≤ l.length then some (.vsl ((l.drop lo.toNat).map rClass) cl) else none := sl_lo te23 ti84 rClass_len
theorem sb23 {l : List Class} {cl : Bool} {lo h : Int} {ka kb : IntKind} : sliceA Tryd.prog 23 (.vsl (l.map rClass) cl) (some (.lit (.int ka lo))) (some (.lit (.int kb h))) none = if 0 ≤ lo ∧ lo ≤ h ∧ h ≤ l.length then some (.vsl (((l.take h.toNat).drop lo.toNat).map rClass) (clipOf none h l.length cl)) else none := sl_lohi te23 ti84 rClass_len
theorem sm23 {l : List Class} {cl : Bool} {h m : Int} {ka kb : IntKind} : sliceA Tryd.prog 23 (.vsl (l.map rClass) cl) none (some (.lit (.int ka h))) (some (.lit (.int kb m))) = if 0 ≤ h ∧ h ≤ m ∧ m ≤ l.length then some (.vsl ((l.take h.toNat).map rClass) (decide (m = h))) else none := sl_hm te23 ti84 rClass_len
theorem sp23 {b off n : Nat} {cl : Bool} {h m : Int} {ka kb : IntKind} : sliceA Tryd.prog 23 (.sl b 2 off n cl) none (some (.lit (.int ka h))) (some (.lit (.int kb m))) = if 0 ≤ h ∧ h ≤ m ∧ m ≤ n then some (.sl b 2 off h.toNat (decide (m = h))) else none := so_hm te23 ti84 rfl
theorem lv26 {es : List (List AV)} {cl : Bool} : lenA Tryd.prog 26 (.vsl es cl) = some (I es.length) := lenV te26
theorem ll26 {b sz off len : Nat} {cl : Bool} : lenA Tryd.prog 26 (.sl b sz off len cl) = some (I len) := lenL te26
theorem is26 {b off len : Nat} {cl : Bool} {kd : IntKind} {n : Int} : indexAddrA Tryd.prog 26 (.sl b 5 off len cl) (.lit (.int kd n)) = if 0 ≤ n ∧ n < len then some (.ptr b 5 (off + n.toNat) 0) else none := ixs te26 ti35
theorem ix26 {l : List Fault} {cl : Bool} {kd : IntKind} {n : Int} : indexAddrA Tryd.prog 26 (.vsl (l.map rFault) cl) (.lit (.int kd n)) = if 0 ≤ n ∧ n < l.length then some (.vptr (l.map rFault) n.toNat 0) else none := ixv te26 ti35 rFault_len (by decide)
theorem sh26 {l : List Fault} {cl : Bool} {h : Int} {ka : IntKind} : sliceA Tryd.prog 26 (.vsl (l.map rFault) cl) none (some (.lit (.int ka h))) none = if 0 ≤ h ∧ h ≤ l.length then some (.vsl ((l.take h.toNat).map rFault) (clipOf none h l.length cl)) else none := sl_hi te26 ti35 rFault_len
theorem so26 {l : List Fault} {cl : Bool} {lo : Int} {ka : IntKind} : sliceA Tryd.prog 26 (.vsl (l.map rFault) cl) (some (.lit (.int ka lo))) none none = if 0 ≤ lo ∧ lo ≤ l.length then some (.vsl ((l.drop lo.toNat).map rFault) cl) else none := sl_lo te26 ti35 rFault_len
theorem sb26 {l : List Fault} {cl : Bool} {lo h : Int} {ka kb : IntKind} : sliceA Tryd.prog 26 (.vsl (l.map rFault) cl) (some (.lit (.int ka lo))) (some (.lit (.int kb h))) none = if 0 ≤ lo ∧ lo ≤ h ∧ h ≤ l.length then some (.vsl (((l.take h.toNat).drop lo.toNat).map rFault) (clipOf none h l.length cl)) else none := sl_lohi te26 ti35 rFault_len
theorem sm26 {l : List Fault} {cl : Bool} {h m : Int} {ka kb : IntKind} : sliceA Tryd.prog 26 (.vsl (l.map rFault) cl) none (some (.lit (.int ka h))) (some (.lit (.int kb m))) = if 0 ≤ h ∧ h ≤ m ∧ m ≤ l.length then some (.vsl ((l.take h.toNat).map rFault) (decide (m = h))) else none := sl_hm te26 ti35 rFault_len
theorem sp26 {b off n : Nat} {cl : Bool} {h m : Int} {ka kb : IntKind} : sliceA Tryd.prog 26 (.sl b 5 off n cl) none (some (.lit (.int ka h))) (some (.lit (.int kb m))) = if 0 ≤ h ∧ h ≤ m ∧ m ≤ n then some (.sl b 5 off h.toNat (decide (m = h))) else none := so_hm te26 ti35 rfl
theorem lv37 {es : List (List AV)} {cl : Bool} : lenA Tryd.prog 37 (.vsl es cl) = some (I es.length) := lenV te37
theorem ll37 {b sz off len : Nat} {cl : Bool} : lenA Tryd.prog 37 (.sl b sz off len cl) = some (I len) := lenL te37
theorem is37 {b off len : Nat} {cl : Bool} {kd : IntKind} {n : Int} : indexAddrA Tryd.prog 37 (.sl b 1 off len cl) (.lit (.int kd n)) = if 0 ≤ n ∧ n < len then some (.ptr b 1 (off + n.toNat) 0) else none := ixs te37 ti3
theorem ix37 {l : List Int} {cl : Bool} {kd : IntKind} {n : Int} : indexAddrA Tryd.prog 37 (.vsl (l.map rI) cl) (.lit (.int kd n)) = if 0 ≤ n ∧ n < l.length then some (.vptr (l.map rI) n.toNat 0) else none := ixv te37 ti3 rI_len (by decide)
theorem sh37 {l : List Int} {cl : Bool} {h : Int} {ka : IntKind} : sliceA Tryd.prog 37 (.vsl (l.map rI) cl) none (some (.lit (.int ka h))) none = if 0 ≤ h ∧ h ≤ l.length then some (.vsl ((l.take h.toNat).map rI) (clipOf none h l.length cl)) else none := sl_hi te37 ti3 rI_len
theorem so37 {l : List Int} {cl : Bool} {lo : Int} {ka : IntKind} : sliceA Tryd.prog 37 (.vsl (l.map rI) cl) (some (.lit (.int ka lo))) none none = if 0 ≤ lo ∧ lo ≤ l.length then some (.vsl ((l.drop lo.toNat).map rI) cl) else none := sl_lo te37 ti3 rI_len
theorem sb37 {l : List Int} {cl : Bool} {lo h : Int} {ka kb : IntKind} : sliceA Tryd.prog 37 (.vsl (l.map rI) cl) (some (.lit (.int ka lo))) (some (.lit (.int kb h))) none = if 0 ≤ lo ∧ lo ≤ h ∧ h ≤ l.length then some (.vsl (((l.take h.toNat).drop lo.toNat).map rI) (clipOf none h l.length cl)) else none := sl_lohi te37 ti3 rI_len
theorem sm37 {l : List Int} {cl : Bool} {h m : Int} {ka kb : IntKind} : sliceA Tryd.prog 37 (.vsl (l.map rI) cl) none (some (.lit (.int ka h))) (some (.lit (.int kb m))) = if 0 ≤ h ∧ h ≤ m ∧ m ≤ l.length then some (.vsl ((l.take h.toNat).map rI) (decide (m = h))) else none := sl_hm te37 ti3 rI_len
theorem sp37 {b off n : Nat} {cl : Bool} {h m : Int} {ka kb : IntKind} : sliceA Tryd.prog 37 (.sl b 1 off n cl) none (some (.lit (.int ka h))) (some (.lit (.int kb m))) = if 0 ≤ h ∧ h ≤ m ∧ m ≤ n then some (.sl b 1 off h.toNat (decide (m = h))) else none := so_hm te37 ti3 rfl
theorem lv101 {es : List (List AV)} {cl : Bool} : lenA Tryd.prog 101 (.vsl es cl) = some (I es.length) := lenV te101
theorem ll101 {b sz off len : Nat} {cl : Bool} : lenA Tryd.prog 101 (.sl b sz off len cl) = some (I len) := lenL te101
theorem is101 {b off len : Nat} {cl : Bool} {kd : IntKind} {n : Int} : indexAddrA Tryd.prog 101 (.sl b 1 off len cl) (.lit (.int kd n)) = if 0 ≤ n ∧ n < len then some (.ptr b 1 (off + n.toNat) 0) else none := ixs te101 ti9
theorem ix101 {l : List Str} {cl : Bool} {kd : IntKind} {n : Int} : indexAddrA Tryd.prog 101 (.vsl (l.map rS) cl) (.lit (.int kd n)) = if 0 ≤ n ∧ n < l.length then some (.vptr (l.map rS) n.toNat 0) else none := ixv te101 ti9 rS_len (by decide)
theorem sh101 {l : List Str} {cl : Bool} {h : Int} {ka : IntKind} : sliceA Tryd.prog 101 (.vsl (l.map rS) cl) none (some (.lit (.int ka h))) none = if 0 ≤ h ∧ h ≤ l.length then some (.vsl ((l.take h.toNat).map rS) (clipOf none h l.length cl)) else none := sl_hi te101 ti9 rS_len
theorem so101 {l : List Str} {cl : Bool} {lo : Int} {ka : IntKind} : sliceA Tryd.prog 101 (.vsl (l.map rS) cl) (some (.lit (.int ka lo))) none none = if 0 ≤ lo ∧ lo ≤ l.length then some (.vsl ((l.drop lo.toNat).map rS) cl) else none := sl_lo te101 ti9 rS_len
theorem sb101 {l : List Str} {cl : Bool} {lo h : Int} {ka kb : IntKind} : sliceA Tryd.prog 101 (.vsl (l.map rS) cl) (some (.lit (.int ka lo))) (some (.lit (.int kb h))) none = if 0 ≤ lo ∧ lo ≤ h ∧ h ≤ l.length then some (.vsl (((l.take h.toNat).drop lo.toNat).map rS) (clipOf none h l.length cl)) else none := sl_lohi te101 ti9 rS_len
theorem sm101 {l : List Str} {cl : Bool} {h m : Int} {ka kb : IntKind} : sliceA Tryd.prog 101 (.vsl (l.map rS) cl) none (some (.lit (.int ka h))) (some (.lit (.int kb m))) = if 0 ≤ h ∧ h ≤ m ∧ m ≤ l.length then some (.vsl ((l.take h.toNat).map rS) (decide (m = h))) else none := sl_hm te101 ti9 rS_len
theorem sp101 {b off n : Nat} {cl : Bool} {h m : Int} {ka kb : IntKind} : sliceA Tryd.prog 101 (.sl b 1 off n cl) none (some (.lit (.int ka h))) (some (.lit (.int kb m))) = if 0 ≤ h ∧ h ≤ m ∧ m ≤ n then some (.sl b 1 off h.toNat (decide (m = h))) else none := so_hm te101 ti9 rfl
theorem xs9 {s : Str} {kd : IntKind} {n : Int} : indexA Tryd.prog 9 (S s) (.lit (.int kd n)) = if 0 ≤ n ∧ n < s.length then some (U8 (s.getD n.toNat 0).toNat) else none := ixS ts9
theorem ls9 {s : Str} : lenA Tryd.prog 9 (S s) = some (I s.length) := lenS ts9
theorem sx9 {s : Str} {h : Int} {ka : IntKind} : sliceA Tryd.prog 9 (S s) none (some (.lit (.int ka h))) none = if 0 ≤ h ∧ h ≤ s.length then some (S (s.take h.toNat)) else none := ss_hi ts9
theorem sy9 {s : Str} {lo : Int} {ka : IntKind} : sliceA Tryd.prog 9 (S s) (some (.lit (.int ka lo))) none none = if 0 ≤ lo ∧ lo ≤ s.length then some (S (s.drop lo.toNat)) else none := ss_lo ts9
theorem sz9 {s : Str} {lo h : Int} {ka kb : IntKind} : sliceA Tryd.prog 9 (S s) (some (.lit (.int ka lo))) (some (.lit (.int kb h))) none = if 0 ≤ lo ∧ lo ≤ h ∧ h ≤ s.length then some (S ((s.take h.toNat).drop lo.toNat)) else none := ss_lohi ts9
end Go.Proofs.YtihjbbiajggcoaaDoor

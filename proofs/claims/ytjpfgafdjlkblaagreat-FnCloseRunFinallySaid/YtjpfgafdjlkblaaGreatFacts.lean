/- Facts of this seat's tables of types. No condition. -/
import Derived.Test.YtjpfgafdjlkblaaGreatRows2
import Derived.Test.YtjpfgafdjlkblaaGreatChecked
import Derived.KernelRfl
namespace Go.Proofs.YtjpfgafdjlkblaaGreat
open Go Go.Sim

theorem mixed : Tryz.prog.follows .mixedOrders = true := by kernel_rfl
theorem ti1: tinfo Tryz.prog 1 = some ⟨1,8,false,[.nilFunc]⟩ := by kernel_rfl
theorem ti2: tinfo Tryz.prog 2 = some ⟨1,8,false,[.int .i64 0]⟩ := by kernel_rfl
theorem tk2 : tint Tryz.prog 2 = some .i64 := by kernel_rfl
theorem ti3: tinfo Tryz.prog 3 = some ⟨1,8,false,[.int .i64 0]⟩ := by kernel_rfl
theorem te3 : telem Tryz.prog 3 = none := by kernel_rfl
theorem ts3 : tstr Tryz.prog 3 = false := by kernel_rfl
theorem tk3 : tint Tryz.prog 3 = some .i64 := by kernel_rfl
theorem tz3 : tsome Tryz.prog 3 = true := by kernel_rfl
theorem ti4: tinfo Tryz.prog 4 = some ⟨1,1,false,[.bool false]⟩ := by kernel_rfl
theorem tb4 : tbool Tryz.prog 4 = true := by kernel_rfl
theorem ti5: tinfo Tryz.prog 5 = some ⟨1,1,false,[.int .u8 0]⟩ := by kernel_rfl
theorem tk5 : tint Tryz.prog 5 = some .u8 := by kernel_rfl
theorem tz5 : tsome Tryz.prog 5 = true := by kernel_rfl
theorem ti9: tinfo Tryz.prog 9 = some ⟨1,16,false,[(.string ⟨[].toArray⟩)]⟩ := by kernel_rfl
theorem te9 : telem Tryz.prog 9 = none := by kernel_rfl
theorem ts9 : tstr Tryz.prog 9 = true := by kernel_rfl
theorem tk9 : tint Tryz.prog 9 = none := by kernel_rfl
theorem tz9 : tsome Tryz.prog 9 = true := by kernel_rfl
theorem ti12: tinfo Tryz.prog 12 = some ⟨1,8,false,[.int .u64 0]⟩ := by kernel_rfl
theorem tf13_0 : tfield Tryz.prog 13 0 = some (0,9) := by kernel_rfl
theorem tf13_1 : tfield Tryz.prog 13 1 = some (1,12) := by kernel_rfl
theorem ti20: tinfo Tryz.prog 20 = some ⟨1,16,false,[.nilIface]⟩ := by kernel_rfl
theorem ti22: tinfo Tryz.prog 22 = some ⟨1,24,false,[(.slice none 0 0)]⟩ := by kernel_rfl
theorem te22 : telem Tryz.prog 22 = some 5 := by kernel_rfl
theorem tz22 : tsome Tryz.prog 22 = true := by kernel_rfl
theorem ti23: tinfo Tryz.prog 23 = some ⟨1,24,false,[(.slice none 0 0)]⟩ := by kernel_rfl
theorem te23 : telem Tryz.prog 23 = some 144 := by kernel_rfl
theorem tf24_0 : tfield Tryz.prog 24 0 = some (0,23) := by kernel_rfl
theorem ti25: tinfo Tryz.prog 25 = some ⟨1,24,true,[(.slice none 0 0)]⟩ := by kernel_rfl
theorem tp25 : tplaces Tryz.prog 25 = some [(0,1)] := by kernel_rfl
theorem tf25_0 : tfield Tryz.prog 25 0 = some (0,23) := by kernel_rfl
theorem ti26: tinfo Tryz.prog 26 = some ⟨1,24,false,[(.slice none 0 0)]⟩ := by kernel_rfl
theorem te26 : telem Tryz.prog 26 = some 41 := by kernel_rfl
theorem ti29: tinfo Tryz.prog 29 = some ⟨1,24,false,[(.slice none 0 0)]⟩ := by kernel_rfl
theorem te29 : telem Tryz.prog 29 = some 3 := by kernel_rfl
theorem ti30: tinfo Tryz.prog 30 = some ⟨1,24,false,[(.slice none 0 0)]⟩ := by kernel_rfl
theorem te30 : telem Tryz.prog 30 = some 103 := by kernel_rfl
theorem tf31_0 : tfield Tryz.prog 31 0 = some (0,30) := by kernel_rfl
theorem ti32: tinfo Tryz.prog 32 = some ⟨1,24,true,[(.slice none 0 0)]⟩ := by kernel_rfl
theorem tp32 : tplaces Tryz.prog 32 = some [(0,1)] := by kernel_rfl
theorem tf32_0 : tfield Tryz.prog 32 0 = some (0,30) := by kernel_rfl
theorem tf33_0 : tfield Tryz.prog 33 0 = some (0,29) := by kernel_rfl
theorem tf33_1 : tfield Tryz.prog 33 1 = some (1,3) := by kernel_rfl
theorem tf33_2 : tfield Tryz.prog 33 2 = some (2,3) := by kernel_rfl
theorem tf33_3 : tfield Tryz.prog 33 3 = some (3,32) := by kernel_rfl
theorem ti34: tinfo Tryz.prog 34 = some ⟨4,64,true,[(.slice none 0 0),.int .i64 0,.int .i64 0,(.slice none 0 0)]⟩ := by kernel_rfl
theorem tp34 : tplaces Tryz.prog 34 = some [(0,1),(1,1),(2,1),(3,1)] := by kernel_rfl
theorem tf34_0 : tfield Tryz.prog 34 0 = some (0,29) := by kernel_rfl
theorem tf34_1 : tfield Tryz.prog 34 1 = some (1,3) := by kernel_rfl
theorem tf34_2 : tfield Tryz.prog 34 2 = some (2,3) := by kernel_rfl
theorem tf34_3 : tfield Tryz.prog 34 3 = some (3,32) := by kernel_rfl
theorem tf40_0 : tfield Tryz.prog 40 0 = some (0,3) := by kernel_rfl
theorem tf40_1 : tfield Tryz.prog 40 1 = some (1,3) := by kernel_rfl
theorem tf40_2 : tfield Tryz.prog 40 2 = some (2,3) := by kernel_rfl
theorem tf40_3 : tfield Tryz.prog 40 3 = some (3,3) := by kernel_rfl
theorem ti41: tinfo Tryz.prog 41 = some ⟨4,32,true,[.int .i64 0,.int .i64 0,.int .i64 0,.int .i64 0]⟩ := by kernel_rfl
theorem tq41 : teq Tryz.prog 41 = some [.i,.i,.i,.i] := by kernel_rfl
theorem tp41 : tplaces Tryz.prog 41 = some [(0,1),(1,1),(2,1),(3,1)] := by kernel_rfl
theorem tf41_0 : tfield Tryz.prog 41 0 = some (0,3) := by kernel_rfl
theorem tf41_1 : tfield Tryz.prog 41 1 = some (1,3) := by kernel_rfl
theorem tf41_2 : tfield Tryz.prog 41 2 = some (2,3) := by kernel_rfl
theorem tf41_3 : tfield Tryz.prog 41 3 = some (3,3) := by kernel_rfl
theorem tf43_0 : tfield Tryz.prog 43 0 = some (0,3) := by kernel_rfl
theorem tf43_1 : tfield Tryz.prog 43 1 = some (1,3) := by kernel_rfl
theorem tf43_2 : tfield Tryz.prog 43 2 = some (2,3) := by kernel_rfl
theorem ti44: tinfo Tryz.prog 44 = some ⟨3,24,true,[.int .i64 0,.int .i64 0,.int .i64 0]⟩ := by kernel_rfl
theorem tq44 : teq Tryz.prog 44 = some [.i,.i,.i] := by kernel_rfl
theorem tp44 : tplaces Tryz.prog 44 = some [(0,1),(1,1),(2,1)] := by kernel_rfl
theorem tf44_0 : tfield Tryz.prog 44 0 = some (0,3) := by kernel_rfl
theorem tf44_1 : tfield Tryz.prog 44 1 = some (1,3) := by kernel_rfl
theorem tf44_2 : tfield Tryz.prog 44 2 = some (2,3) := by kernel_rfl
theorem ti45: tinfo Tryz.prog 45 = some ⟨1,24,false,[(.slice none 0 0)]⟩ := by kernel_rfl
theorem te45 : telem Tryz.prog 45 = some 44 := by kernel_rfl
theorem tf46_0 : tfield Tryz.prog 46 0 = some (0,4) := by kernel_rfl
theorem tf46_1 : tfield Tryz.prog 46 1 = some (1,3) := by kernel_rfl
theorem tf46_2 : tfield Tryz.prog 46 2 = some (2,3) := by kernel_rfl
theorem ti47: tinfo Tryz.prog 47 = some ⟨3,24,true,[.bool false,.int .i64 0,.int .i64 0]⟩ := by kernel_rfl
theorem tq47 : teq Tryz.prog 47 = some [.b,.i,.i] := by kernel_rfl
theorem tp47 : tplaces Tryz.prog 47 = some [(0,1),(1,1),(2,1)] := by kernel_rfl
theorem tf47_0 : tfield Tryz.prog 47 0 = some (0,4) := by kernel_rfl
theorem tf47_1 : tfield Tryz.prog 47 1 = some (1,3) := by kernel_rfl
theorem tf47_2 : tfield Tryz.prog 47 2 = some (2,3) := by kernel_rfl
theorem ti56: tinfo Tryz.prog 56 = some ⟨1,24,false,[(.slice none 0 0)]⟩ := by kernel_rfl
theorem te56 : telem Tryz.prog 56 = some 169 := by kernel_rfl
theorem tf57_0 : tfield Tryz.prog 57 0 = some (0,56) := by kernel_rfl
theorem tf58_0 : tfield Tryz.prog 58 0 = some (0,56) := by kernel_rfl
theorem te59 : telem Tryz.prog 59 = some 113 := by kernel_rfl
theorem te71 : telem Tryz.prog 71 = some 120 := by kernel_rfl
theorem tf72_0 : tfield Tryz.prog 72 0 = some (0,4) := by kernel_rfl
theorem tf72_1 : tfield Tryz.prog 72 1 = some (1,3) := by kernel_rfl
theorem tf72_2 : tfield Tryz.prog 72 2 = some (2,3) := by kernel_rfl
theorem ti82: tinfo Tryz.prog 82 = some ⟨1,8,false,[.pointer none]⟩ := by kernel_rfl
theorem ti84: tinfo Tryz.prog 84 = some ⟨1,8,false,[.pointer none]⟩ := by kernel_rfl
theorem tf87_0 : tfield Tryz.prog 87 0 = some (0,3) := by kernel_rfl
theorem tf87_1 : tfield Tryz.prog 87 1 = some (1,3) := by kernel_rfl
theorem ti88: tinfo Tryz.prog 88 = some ⟨2,16,true,[.int .i64 0,.int .i64 0]⟩ := by kernel_rfl
theorem tq88 : teq Tryz.prog 88 = some [.i,.i] := by kernel_rfl
theorem tp88 : tplaces Tryz.prog 88 = some [(0,1),(1,1)] := by kernel_rfl
theorem tf88_0 : tfield Tryz.prog 88 0 = some (0,3) := by kernel_rfl
theorem tf88_1 : tfield Tryz.prog 88 1 = some (1,3) := by kernel_rfl
theorem tf102_0 : tfield Tryz.prog 102 0 = some (0,3) := by kernel_rfl
theorem tf102_1 : tfield Tryz.prog 102 1 = some (1,3) := by kernel_rfl
theorem tf102_2 : tfield Tryz.prog 102 2 = some (2,3) := by kernel_rfl
theorem tf102_3 : tfield Tryz.prog 102 3 = some (3,3) := by kernel_rfl
theorem tf102_4 : tfield Tryz.prog 102 4 = some (4,4) := by kernel_rfl
theorem ti103: tinfo Tryz.prog 103 = some ⟨5,40,true,[.int .i64 0,.int .i64 0,.int .i64 0,.int .i64 0,.bool false]⟩ := by kernel_rfl
theorem tq103 : teq Tryz.prog 103 = some [.i,.i,.i,.i,.b] := by kernel_rfl
theorem tp103 : tplaces Tryz.prog 103 = some [(0,1),(1,1),(2,1),(3,1),(4,1)] := by kernel_rfl
theorem tf103_0 : tfield Tryz.prog 103 0 = some (0,3) := by kernel_rfl
theorem tf103_1 : tfield Tryz.prog 103 1 = some (1,3) := by kernel_rfl
theorem tf103_2 : tfield Tryz.prog 103 2 = some (2,3) := by kernel_rfl
theorem tf103_3 : tfield Tryz.prog 103 3 = some (3,3) := by kernel_rfl
theorem tf103_4 : tfield Tryz.prog 103 4 = some (4,4) := by kernel_rfl
theorem ti106: tinfo Tryz.prog 106 = some ⟨1,8,false,[.nilFunc]⟩ := by kernel_rfl
theorem ti109: tinfo Tryz.prog 109 = some ⟨1,8,false,[.nilFunc]⟩ := by kernel_rfl
theorem ti113: tinfo Tryz.prog 113 = some ⟨4,32,true,[.int .i64 0,.int .i64 0,.int .i64 0,.int .i64 0]⟩ := by kernel_rfl
theorem tf113_0 : tfield Tryz.prog 113 0 = some (0,3) := by kernel_rfl
theorem tf113_1 : tfield Tryz.prog 113 1 = some (1,3) := by kernel_rfl
theorem tf113_2 : tfield Tryz.prog 113 2 = some (2,3) := by kernel_rfl
theorem tf113_3 : tfield Tryz.prog 113 3 = some (3,3) := by kernel_rfl
theorem ti120: tinfo Tryz.prog 120 = some ⟨3,24,true,[.int .i64 0,.int .i64 0,.int .i64 0]⟩ := by kernel_rfl
theorem tf120_0 : tfield Tryz.prog 120 0 = some (0,3) := by kernel_rfl
theorem tf120_1 : tfield Tryz.prog 120 1 = some (1,3) := by kernel_rfl
theorem tf120_2 : tfield Tryz.prog 120 2 = some (2,3) := by kernel_rfl
theorem ti124: tinfo Tryz.prog 124 = some ⟨1,8,false,[.nilFunc]⟩ := by kernel_rfl
theorem tf126_0 : tfield Tryz.prog 126 0 = some (0,22) := by kernel_rfl
theorem tf126_1 : tfield Tryz.prog 126 1 = some (1,3) := by kernel_rfl
theorem ti127: tinfo Tryz.prog 127 = some ⟨2,32,true,[(.slice none 0 0),.int .i64 0]⟩ := by kernel_rfl
theorem tp127 : tplaces Tryz.prog 127 = some [(0,1),(1,1)] := by kernel_rfl
theorem tf127_0 : tfield Tryz.prog 127 0 = some (0,22) := by kernel_rfl
theorem tf127_1 : tfield Tryz.prog 127 1 = some (1,3) := by kernel_rfl
theorem tf128_0 : tfield Tryz.prog 128 0 = some (0,25) := by kernel_rfl
theorem tf128_1 : tfield Tryz.prog 128 1 = some (1,26) := by kernel_rfl
theorem tf128_2 : tfield Tryz.prog 128 2 = some (2,29) := by kernel_rfl
theorem tf128_3 : tfield Tryz.prog 128 3 = some (3,32) := by kernel_rfl
theorem tf128_4 : tfield Tryz.prog 128 4 = some (4,3) := by kernel_rfl
theorem ti129: tinfo Tryz.prog 129 = some ⟨5,104,true,[(.slice none 0 0),(.slice none 0 0),(.slice none 0 0),(.slice none 0 0),.int .i64 0]⟩ := by kernel_rfl
theorem tp129 : tplaces Tryz.prog 129 = some [(0,1),(1,1),(2,1),(3,1),(4,1)] := by kernel_rfl
theorem tf129_0 : tfield Tryz.prog 129 0 = some (0,25) := by kernel_rfl
theorem tf129_1 : tfield Tryz.prog 129 1 = some (1,26) := by kernel_rfl
theorem tf129_2 : tfield Tryz.prog 129 2 = some (2,29) := by kernel_rfl
theorem tf129_3 : tfield Tryz.prog 129 3 = some (3,32) := by kernel_rfl
theorem tf129_4 : tfield Tryz.prog 129 4 = some (4,3) := by kernel_rfl
theorem ti136: tinfo Tryz.prog 136 = some ⟨1,8,false,[.pointer none]⟩ := by kernel_rfl
theorem tf137_0 : tfield Tryz.prog 137 0 = some (0,25) := by kernel_rfl
theorem tf137_1 : tfield Tryz.prog 137 1 = some (1,26) := by kernel_rfl
theorem tf137_2 : tfield Tryz.prog 137 2 = some (2,29) := by kernel_rfl
theorem tf137_3 : tfield Tryz.prog 137 3 = some (3,32) := by kernel_rfl
theorem ti138: tinfo Tryz.prog 138 = some ⟨4,96,true,[(.slice none 0 0),(.slice none 0 0),(.slice none 0 0),(.slice none 0 0)]⟩ := by kernel_rfl
theorem tp138 : tplaces Tryz.prog 138 = some [(0,1),(1,1),(2,1),(3,1)] := by kernel_rfl
theorem tf138_0 : tfield Tryz.prog 138 0 = some (0,25) := by kernel_rfl
theorem tf138_1 : tfield Tryz.prog 138 1 = some (1,26) := by kernel_rfl
theorem tf138_2 : tfield Tryz.prog 138 2 = some (2,29) := by kernel_rfl
theorem tf138_3 : tfield Tryz.prog 138 3 = some (3,32) := by kernel_rfl
theorem tf139_0 : tfield Tryz.prog 139 0 = some (0,3) := by kernel_rfl
theorem tf139_1 : tfield Tryz.prog 139 1 = some (1,3) := by kernel_rfl
theorem ti140: tinfo Tryz.prog 140 = some ⟨2,16,true,[.int .i64 0,.int .i64 0]⟩ := by kernel_rfl
theorem tq140 : teq Tryz.prog 140 = some [.i,.i] := by kernel_rfl
theorem tp140 : tplaces Tryz.prog 140 = some [(0,1),(1,1)] := by kernel_rfl
theorem tf140_0 : tfield Tryz.prog 140 0 = some (0,3) := by kernel_rfl
theorem tf140_1 : tfield Tryz.prog 140 1 = some (1,3) := by kernel_rfl
theorem tf143_0 : tfield Tryz.prog 143 0 = some (0,9) := by kernel_rfl
theorem tf143_1 : tfield Tryz.prog 143 1 = some (1,3) := by kernel_rfl
theorem ti144: tinfo Tryz.prog 144 = some ⟨2,24,true,[(.string ⟨[].toArray⟩),.int .i64 0]⟩ := by kernel_rfl
theorem tq144 : teq Tryz.prog 144 = some [.s,.i] := by kernel_rfl
theorem tp144 : tplaces Tryz.prog 144 = some [(0,1),(1,1)] := by kernel_rfl
theorem tf144_0 : tfield Tryz.prog 144 0 = some (0,9) := by kernel_rfl
theorem tf144_1 : tfield Tryz.prog 144 1 = some (1,3) := by kernel_rfl
theorem ti149: tinfo Tryz.prog 149 = some ⟨1,24,false,[(.slice none 0 0)]⟩ := by kernel_rfl
theorem te149 : telem Tryz.prog 149 = some 26 := by kernel_rfl
theorem ti151: tinfo Tryz.prog 151 = some ⟨1,24,false,[(.slice none 0 0)]⟩ := by kernel_rfl
theorem te151 : telem Tryz.prog 151 = some 29 := by kernel_rfl
theorem tf158_0 : tfield Tryz.prog 158 0 = some (0,29) := by kernel_rfl
theorem tf158_1 : tfield Tryz.prog 158 1 = some (1,32) := by kernel_rfl
theorem tf158_2 : tfield Tryz.prog 158 2 = some (2,3) := by kernel_rfl
theorem tf159_0 : tfield Tryz.prog 159 0 = some (0,29) := by kernel_rfl
theorem tf159_1 : tfield Tryz.prog 159 1 = some (1,32) := by kernel_rfl
theorem tf159_2 : tfield Tryz.prog 159 2 = some (2,3) := by kernel_rfl
theorem ti164: tinfo Tryz.prog 164 = some ⟨1,8,false,[.nilFunc]⟩ := by kernel_rfl
theorem ti165: tinfo Tryz.prog 165 = some ⟨1,8,false,[.nilFunc]⟩ := by kernel_rfl
theorem ti167: tinfo Tryz.prog 167 = some ⟨1,8,false,[.nilFunc]⟩ := by kernel_rfl
theorem ti169: tinfo Tryz.prog 169 = some ⟨2,24,true,[(.string ⟨[].toArray⟩),.int .i64 0]⟩ := by kernel_rfl
theorem tf169_0 : tfield Tryz.prog 169 0 = some (0,9) := by kernel_rfl
theorem tf169_1 : tfield Tryz.prog 169 1 = some (1,3) := by kernel_rfl
theorem ti177: tinfo Tryz.prog 177 = some ⟨1,24,false,[(.slice none 0 0)]⟩ := by kernel_rfl
theorem te177 : telem Tryz.prog 177 = some 9 := by kernel_rfl
theorem ti186: tinfo Tryz.prog 186 = some ⟨1,8,false,[.nilFunc]⟩ := by kernel_rfl
theorem ti202: tinfo Tryz.prog 202 = some ⟨1,8,false,[.pointer none]⟩ := by kernel_rfl
theorem ti205: tinfo Tryz.prog 205 = some ⟨1,8,false,[.int .u64 0]⟩ := by kernel_rfl
theorem tk205 : tint Tryz.prog 205 = some .u64 := by kernel_rfl
theorem tz205 : tsome Tryz.prog 205 = true := by kernel_rfl
theorem ti209: tinfo Tryz.prog 209 = some ⟨1,8,false,[.int .i64 0]⟩ := by kernel_rfl
theorem tk209 : tint Tryz.prog 209 = some .i64 := by kernel_rfl
theorem ti217: tinfo Tryz.prog 217 = some ⟨1,4,false,[.int .u32 0]⟩ := by kernel_rfl
theorem tk217 : tint Tryz.prog 217 = some .u32 := by kernel_rfl
theorem tz217 : tsome Tryz.prog 217 = true := by kernel_rfl
theorem ti219: tinfo Tryz.prog 219 = some ⟨1,8,false,[.int .u64 0]⟩ := by kernel_rfl
theorem tk219 : tint Tryz.prog 219 = some .u64 := by kernel_rfl
theorem tz219 : tsome Tryz.prog 219 = true := by kernel_rfl
theorem ti220: tinfo Tryz.prog 220 = some ⟨1,8,false,[.int .u64 0]⟩ := by kernel_rfl
theorem tk220 : tint Tryz.prog 220 = some .u64 := by kernel_rfl
theorem ti224: tinfo Tryz.prog 224 = some ⟨1,8,false,[.pointer none]⟩ := by kernel_rfl
theorem ti226: tinfo Tryz.prog 226 = some ⟨1,8,false,[.pointer none]⟩ := by kernel_rfl
theorem fp13_0 {b sz i j : Nat} : fieldAddrA Tryz.prog 13 (.ptr b sz i j) 0 = some (.ptr b sz i (j + 0)) := fa_p tf13_0 ti9 (by decide)
theorem fv13_0 {es : List (List AV)} {i j : Nat} : fieldAddrA Tryz.prog 13 (.vptr es i j) 0 = some (.vptr es i (j + 0)) := fa_v tf13_0 ti9 (by decide)
theorem fp13_1 {b sz i j : Nat} : fieldAddrA Tryz.prog 13 (.ptr b sz i j) 1 = some (.ptr b sz i (j + 1)) := fa_p tf13_1 ti12 (by decide)
theorem fv13_1 {es : List (List AV)} {i j : Nat} : fieldAddrA Tryz.prog 13 (.vptr es i j) 1 = some (.vptr es i (j + 1)) := fa_v tf13_1 ti12 (by decide)
theorem fp24_0 {b sz i j : Nat} : fieldAddrA Tryz.prog 24 (.ptr b sz i j) 0 = some (.ptr b sz i (j + 0)) := fa_p tf24_0 ti23 (by decide)
theorem fv24_0 {es : List (List AV)} {i j : Nat} : fieldAddrA Tryz.prog 24 (.vptr es i j) 0 = some (.vptr es i (j + 0)) := fa_v tf24_0 ti23 (by decide)
theorem fp25_0 {b sz i j : Nat} : fieldAddrA Tryz.prog 25 (.ptr b sz i j) 0 = some (.ptr b sz i (j + 0)) := fa_p tf25_0 ti23 (by decide)
theorem fv25_0 {es : List (List AV)} {i j : Nat} : fieldAddrA Tryz.prog 25 (.vptr es i j) 0 = some (.vptr es i (j + 0)) := fa_v tf25_0 ti23 (by decide)
theorem fp31_0 {b sz i j : Nat} : fieldAddrA Tryz.prog 31 (.ptr b sz i j) 0 = some (.ptr b sz i (j + 0)) := fa_p tf31_0 ti30 (by decide)
theorem fv31_0 {es : List (List AV)} {i j : Nat} : fieldAddrA Tryz.prog 31 (.vptr es i j) 0 = some (.vptr es i (j + 0)) := fa_v tf31_0 ti30 (by decide)
theorem fp32_0 {b sz i j : Nat} : fieldAddrA Tryz.prog 32 (.ptr b sz i j) 0 = some (.ptr b sz i (j + 0)) := fa_p tf32_0 ti30 (by decide)
theorem fv32_0 {es : List (List AV)} {i j : Nat} : fieldAddrA Tryz.prog 32 (.vptr es i j) 0 = some (.vptr es i (j + 0)) := fa_v tf32_0 ti30 (by decide)
theorem fp33_0 {b sz i j : Nat} : fieldAddrA Tryz.prog 33 (.ptr b sz i j) 0 = some (.ptr b sz i (j + 0)) := fa_p tf33_0 ti29 (by decide)
theorem fv33_0 {es : List (List AV)} {i j : Nat} : fieldAddrA Tryz.prog 33 (.vptr es i j) 0 = some (.vptr es i (j + 0)) := fa_v tf33_0 ti29 (by decide)
theorem fp33_1 {b sz i j : Nat} : fieldAddrA Tryz.prog 33 (.ptr b sz i j) 1 = some (.ptr b sz i (j + 1)) := fa_p tf33_1 ti3 (by decide)
theorem fv33_1 {es : List (List AV)} {i j : Nat} : fieldAddrA Tryz.prog 33 (.vptr es i j) 1 = some (.vptr es i (j + 1)) := fa_v tf33_1 ti3 (by decide)
theorem fp33_2 {b sz i j : Nat} : fieldAddrA Tryz.prog 33 (.ptr b sz i j) 2 = some (.ptr b sz i (j + 2)) := fa_p tf33_2 ti3 (by decide)
theorem fv33_2 {es : List (List AV)} {i j : Nat} : fieldAddrA Tryz.prog 33 (.vptr es i j) 2 = some (.vptr es i (j + 2)) := fa_v tf33_2 ti3 (by decide)
theorem fp33_3 {b sz i j : Nat} : fieldAddrA Tryz.prog 33 (.ptr b sz i j) 3 = some (.ptr b sz i (j + 3)) := fa_p tf33_3 ti32 (by decide)
theorem fv33_3 {es : List (List AV)} {i j : Nat} : fieldAddrA Tryz.prog 33 (.vptr es i j) 3 = some (.vptr es i (j + 3)) := fa_v tf33_3 ti32 (by decide)
theorem fp34_0 {b sz i j : Nat} : fieldAddrA Tryz.prog 34 (.ptr b sz i j) 0 = some (.ptr b sz i (j + 0)) := fa_p tf34_0 ti29 (by decide)
theorem fv34_0 {es : List (List AV)} {i j : Nat} : fieldAddrA Tryz.prog 34 (.vptr es i j) 0 = some (.vptr es i (j + 0)) := fa_v tf34_0 ti29 (by decide)
theorem fp34_1 {b sz i j : Nat} : fieldAddrA Tryz.prog 34 (.ptr b sz i j) 1 = some (.ptr b sz i (j + 1)) := fa_p tf34_1 ti3 (by decide)
theorem fv34_1 {es : List (List AV)} {i j : Nat} : fieldAddrA Tryz.prog 34 (.vptr es i j) 1 = some (.vptr es i (j + 1)) := fa_v tf34_1 ti3 (by decide)
theorem fp34_2 {b sz i j : Nat} : fieldAddrA Tryz.prog 34 (.ptr b sz i j) 2 = some (.ptr b sz i (j + 2)) := fa_p tf34_2 ti3 (by decide)
theorem fv34_2 {es : List (List AV)} {i j : Nat} : fieldAddrA Tryz.prog 34 (.vptr es i j) 2 = some (.vptr es i (j + 2)) := fa_v tf34_2 ti3 (by decide)
theorem fp34_3 {b sz i j : Nat} : fieldAddrA Tryz.prog 34 (.ptr b sz i j) 3 = some (.ptr b sz i (j + 3)) := fa_p tf34_3 ti32 (by decide)
theorem fv34_3 {es : List (List AV)} {i j : Nat} : fieldAddrA Tryz.prog 34 (.vptr es i j) 3 = some (.vptr es i (j + 3)) := fa_v tf34_3 ti32 (by decide)
theorem fp40_0 {b sz i j : Nat} : fieldAddrA Tryz.prog 40 (.ptr b sz i j) 0 = some (.ptr b sz i (j + 0)) := fa_p tf40_0 ti3 (by decide)
theorem fv40_0 {es : List (List AV)} {i j : Nat} : fieldAddrA Tryz.prog 40 (.vptr es i j) 0 = some (.vptr es i (j + 0)) := fa_v tf40_0 ti3 (by decide)
theorem fp40_1 {b sz i j : Nat} : fieldAddrA Tryz.prog 40 (.ptr b sz i j) 1 = some (.ptr b sz i (j + 1)) := fa_p tf40_1 ti3 (by decide)
theorem fv40_1 {es : List (List AV)} {i j : Nat} : fieldAddrA Tryz.prog 40 (.vptr es i j) 1 = some (.vptr es i (j + 1)) := fa_v tf40_1 ti3 (by decide)
theorem fp40_2 {b sz i j : Nat} : fieldAddrA Tryz.prog 40 (.ptr b sz i j) 2 = some (.ptr b sz i (j + 2)) := fa_p tf40_2 ti3 (by decide)
theorem fv40_2 {es : List (List AV)} {i j : Nat} : fieldAddrA Tryz.prog 40 (.vptr es i j) 2 = some (.vptr es i (j + 2)) := fa_v tf40_2 ti3 (by decide)
theorem fp40_3 {b sz i j : Nat} : fieldAddrA Tryz.prog 40 (.ptr b sz i j) 3 = some (.ptr b sz i (j + 3)) := fa_p tf40_3 ti3 (by decide)
theorem fv40_3 {es : List (List AV)} {i j : Nat} : fieldAddrA Tryz.prog 40 (.vptr es i j) 3 = some (.vptr es i (j + 3)) := fa_v tf40_3 ti3 (by decide)
theorem fp41_0 {b sz i j : Nat} : fieldAddrA Tryz.prog 41 (.ptr b sz i j) 0 = some (.ptr b sz i (j + 0)) := fa_p tf41_0 ti3 (by decide)
theorem fv41_0 {es : List (List AV)} {i j : Nat} : fieldAddrA Tryz.prog 41 (.vptr es i j) 0 = some (.vptr es i (j + 0)) := fa_v tf41_0 ti3 (by decide)
theorem fp41_1 {b sz i j : Nat} : fieldAddrA Tryz.prog 41 (.ptr b sz i j) 1 = some (.ptr b sz i (j + 1)) := fa_p tf41_1 ti3 (by decide)
theorem fv41_1 {es : List (List AV)} {i j : Nat} : fieldAddrA Tryz.prog 41 (.vptr es i j) 1 = some (.vptr es i (j + 1)) := fa_v tf41_1 ti3 (by decide)
theorem fp41_2 {b sz i j : Nat} : fieldAddrA Tryz.prog 41 (.ptr b sz i j) 2 = some (.ptr b sz i (j + 2)) := fa_p tf41_2 ti3 (by decide)
theorem fv41_2 {es : List (List AV)} {i j : Nat} : fieldAddrA Tryz.prog 41 (.vptr es i j) 2 = some (.vptr es i (j + 2)) := fa_v tf41_2 ti3 (by decide)
theorem fp41_3 {b sz i j : Nat} : fieldAddrA Tryz.prog 41 (.ptr b sz i j) 3 = some (.ptr b sz i (j + 3)) := fa_p tf41_3 ti3 (by decide)
theorem fv41_3 {es : List (List AV)} {i j : Nat} : fieldAddrA Tryz.prog 41 (.vptr es i j) 3 = some (.vptr es i (j + 3)) := fa_v tf41_3 ti3 (by decide)
theorem fp43_0 {b sz i j : Nat} : fieldAddrA Tryz.prog 43 (.ptr b sz i j) 0 = some (.ptr b sz i (j + 0)) := fa_p tf43_0 ti3 (by decide)
theorem fv43_0 {es : List (List AV)} {i j : Nat} : fieldAddrA Tryz.prog 43 (.vptr es i j) 0 = some (.vptr es i (j + 0)) := fa_v tf43_0 ti3 (by decide)
theorem fp43_1 {b sz i j : Nat} : fieldAddrA Tryz.prog 43 (.ptr b sz i j) 1 = some (.ptr b sz i (j + 1)) := fa_p tf43_1 ti3 (by decide)
theorem fv43_1 {es : List (List AV)} {i j : Nat} : fieldAddrA Tryz.prog 43 (.vptr es i j) 1 = some (.vptr es i (j + 1)) := fa_v tf43_1 ti3 (by decide)
theorem fp43_2 {b sz i j : Nat} : fieldAddrA Tryz.prog 43 (.ptr b sz i j) 2 = some (.ptr b sz i (j + 2)) := fa_p tf43_2 ti3 (by decide)
theorem fv43_2 {es : List (List AV)} {i j : Nat} : fieldAddrA Tryz.prog 43 (.vptr es i j) 2 = some (.vptr es i (j + 2)) := fa_v tf43_2 ti3 (by decide)
theorem fp44_0 {b sz i j : Nat} : fieldAddrA Tryz.prog 44 (.ptr b sz i j) 0 = some (.ptr b sz i (j + 0)) := fa_p tf44_0 ti3 (by decide)
theorem fv44_0 {es : List (List AV)} {i j : Nat} : fieldAddrA Tryz.prog 44 (.vptr es i j) 0 = some (.vptr es i (j + 0)) := fa_v tf44_0 ti3 (by decide)
theorem fp44_1 {b sz i j : Nat} : fieldAddrA Tryz.prog 44 (.ptr b sz i j) 1 = some (.ptr b sz i (j + 1)) := fa_p tf44_1 ti3 (by decide)
theorem fv44_1 {es : List (List AV)} {i j : Nat} : fieldAddrA Tryz.prog 44 (.vptr es i j) 1 = some (.vptr es i (j + 1)) := fa_v tf44_1 ti3 (by decide)
theorem fp44_2 {b sz i j : Nat} : fieldAddrA Tryz.prog 44 (.ptr b sz i j) 2 = some (.ptr b sz i (j + 2)) := fa_p tf44_2 ti3 (by decide)
theorem fv44_2 {es : List (List AV)} {i j : Nat} : fieldAddrA Tryz.prog 44 (.vptr es i j) 2 = some (.vptr es i (j + 2)) := fa_v tf44_2 ti3 (by decide)
theorem fp46_0 {b sz i j : Nat} : fieldAddrA Tryz.prog 46 (.ptr b sz i j) 0 = some (.ptr b sz i (j + 0)) := fa_p tf46_0 ti4 (by decide)
theorem fv46_0 {es : List (List AV)} {i j : Nat} : fieldAddrA Tryz.prog 46 (.vptr es i j) 0 = some (.vptr es i (j + 0)) := fa_v tf46_0 ti4 (by decide)
theorem fp46_1 {b sz i j : Nat} : fieldAddrA Tryz.prog 46 (.ptr b sz i j) 1 = some (.ptr b sz i (j + 1)) := fa_p tf46_1 ti3 (by decide)
theorem fv46_1 {es : List (List AV)} {i j : Nat} : fieldAddrA Tryz.prog 46 (.vptr es i j) 1 = some (.vptr es i (j + 1)) := fa_v tf46_1 ti3 (by decide)
theorem fp46_2 {b sz i j : Nat} : fieldAddrA Tryz.prog 46 (.ptr b sz i j) 2 = some (.ptr b sz i (j + 2)) := fa_p tf46_2 ti3 (by decide)
theorem fv46_2 {es : List (List AV)} {i j : Nat} : fieldAddrA Tryz.prog 46 (.vptr es i j) 2 = some (.vptr es i (j + 2)) := fa_v tf46_2 ti3 (by decide)
theorem fp47_0 {b sz i j : Nat} : fieldAddrA Tryz.prog 47 (.ptr b sz i j) 0 = some (.ptr b sz i (j + 0)) := fa_p tf47_0 ti4 (by decide)
theorem fv47_0 {es : List (List AV)} {i j : Nat} : fieldAddrA Tryz.prog 47 (.vptr es i j) 0 = some (.vptr es i (j + 0)) := fa_v tf47_0 ti4 (by decide)
theorem fp47_1 {b sz i j : Nat} : fieldAddrA Tryz.prog 47 (.ptr b sz i j) 1 = some (.ptr b sz i (j + 1)) := fa_p tf47_1 ti3 (by decide)
theorem fv47_1 {es : List (List AV)} {i j : Nat} : fieldAddrA Tryz.prog 47 (.vptr es i j) 1 = some (.vptr es i (j + 1)) := fa_v tf47_1 ti3 (by decide)
theorem fp47_2 {b sz i j : Nat} : fieldAddrA Tryz.prog 47 (.ptr b sz i j) 2 = some (.ptr b sz i (j + 2)) := fa_p tf47_2 ti3 (by decide)
theorem fv47_2 {es : List (List AV)} {i j : Nat} : fieldAddrA Tryz.prog 47 (.vptr es i j) 2 = some (.vptr es i (j + 2)) := fa_v tf47_2 ti3 (by decide)
theorem fp57_0 {b sz i j : Nat} : fieldAddrA Tryz.prog 57 (.ptr b sz i j) 0 = some (.ptr b sz i (j + 0)) := fa_p tf57_0 ti56 (by decide)
theorem fv57_0 {es : List (List AV)} {i j : Nat} : fieldAddrA Tryz.prog 57 (.vptr es i j) 0 = some (.vptr es i (j + 0)) := fa_v tf57_0 ti56 (by decide)
theorem fp58_0 {b sz i j : Nat} : fieldAddrA Tryz.prog 58 (.ptr b sz i j) 0 = some (.ptr b sz i (j + 0)) := fa_p tf58_0 ti56 (by decide)
theorem fv58_0 {es : List (List AV)} {i j : Nat} : fieldAddrA Tryz.prog 58 (.vptr es i j) 0 = some (.vptr es i (j + 0)) := fa_v tf58_0 ti56 (by decide)
theorem fp72_0 {b sz i j : Nat} : fieldAddrA Tryz.prog 72 (.ptr b sz i j) 0 = some (.ptr b sz i (j + 0)) := fa_p tf72_0 ti4 (by decide)
theorem fv72_0 {es : List (List AV)} {i j : Nat} : fieldAddrA Tryz.prog 72 (.vptr es i j) 0 = some (.vptr es i (j + 0)) := fa_v tf72_0 ti4 (by decide)
theorem fp72_1 {b sz i j : Nat} : fieldAddrA Tryz.prog 72 (.ptr b sz i j) 1 = some (.ptr b sz i (j + 1)) := fa_p tf72_1 ti3 (by decide)
theorem fv72_1 {es : List (List AV)} {i j : Nat} : fieldAddrA Tryz.prog 72 (.vptr es i j) 1 = some (.vptr es i (j + 1)) := fa_v tf72_1 ti3 (by decide)
theorem fp72_2 {b sz i j : Nat} : fieldAddrA Tryz.prog 72 (.ptr b sz i j) 2 = some (.ptr b sz i (j + 2)) := fa_p tf72_2 ti3 (by decide)
theorem fv72_2 {es : List (List AV)} {i j : Nat} : fieldAddrA Tryz.prog 72 (.vptr es i j) 2 = some (.vptr es i (j + 2)) := fa_v tf72_2 ti3 (by decide)
theorem fp87_0 {b sz i j : Nat} : fieldAddrA Tryz.prog 87 (.ptr b sz i j) 0 = some (.ptr b sz i (j + 0)) := fa_p tf87_0 ti3 (by decide)
theorem fv87_0 {es : List (List AV)} {i j : Nat} : fieldAddrA Tryz.prog 87 (.vptr es i j) 0 = some (.vptr es i (j + 0)) := fa_v tf87_0 ti3 (by decide)
theorem fp87_1 {b sz i j : Nat} : fieldAddrA Tryz.prog 87 (.ptr b sz i j) 1 = some (.ptr b sz i (j + 1)) := fa_p tf87_1 ti3 (by decide)
theorem fv87_1 {es : List (List AV)} {i j : Nat} : fieldAddrA Tryz.prog 87 (.vptr es i j) 1 = some (.vptr es i (j + 1)) := fa_v tf87_1 ti3 (by decide)
theorem fp88_0 {b sz i j : Nat} : fieldAddrA Tryz.prog 88 (.ptr b sz i j) 0 = some (.ptr b sz i (j + 0)) := fa_p tf88_0 ti3 (by decide)
theorem fv88_0 {es : List (List AV)} {i j : Nat} : fieldAddrA Tryz.prog 88 (.vptr es i j) 0 = some (.vptr es i (j + 0)) := fa_v tf88_0 ti3 (by decide)
theorem fp88_1 {b sz i j : Nat} : fieldAddrA Tryz.prog 88 (.ptr b sz i j) 1 = some (.ptr b sz i (j + 1)) := fa_p tf88_1 ti3 (by decide)
theorem fv88_1 {es : List (List AV)} {i j : Nat} : fieldAddrA Tryz.prog 88 (.vptr es i j) 1 = some (.vptr es i (j + 1)) := fa_v tf88_1 ti3 (by decide)
theorem fp102_0 {b sz i j : Nat} : fieldAddrA Tryz.prog 102 (.ptr b sz i j) 0 = some (.ptr b sz i (j + 0)) := fa_p tf102_0 ti3 (by decide)
theorem fv102_0 {es : List (List AV)} {i j : Nat} : fieldAddrA Tryz.prog 102 (.vptr es i j) 0 = some (.vptr es i (j + 0)) := fa_v tf102_0 ti3 (by decide)
theorem fp102_1 {b sz i j : Nat} : fieldAddrA Tryz.prog 102 (.ptr b sz i j) 1 = some (.ptr b sz i (j + 1)) := fa_p tf102_1 ti3 (by decide)
theorem fv102_1 {es : List (List AV)} {i j : Nat} : fieldAddrA Tryz.prog 102 (.vptr es i j) 1 = some (.vptr es i (j + 1)) := fa_v tf102_1 ti3 (by decide)
theorem fp102_2 {b sz i j : Nat} : fieldAddrA Tryz.prog 102 (.ptr b sz i j) 2 = some (.ptr b sz i (j + 2)) := fa_p tf102_2 ti3 (by decide)
theorem fv102_2 {es : List (List AV)} {i j : Nat} : fieldAddrA Tryz.prog 102 (.vptr es i j) 2 = some (.vptr es i (j + 2)) := fa_v tf102_2 ti3 (by decide)
theorem fp102_3 {b sz i j : Nat} : fieldAddrA Tryz.prog 102 (.ptr b sz i j) 3 = some (.ptr b sz i (j + 3)) := fa_p tf102_3 ti3 (by decide)
theorem fv102_3 {es : List (List AV)} {i j : Nat} : fieldAddrA Tryz.prog 102 (.vptr es i j) 3 = some (.vptr es i (j + 3)) := fa_v tf102_3 ti3 (by decide)
theorem fp102_4 {b sz i j : Nat} : fieldAddrA Tryz.prog 102 (.ptr b sz i j) 4 = some (.ptr b sz i (j + 4)) := fa_p tf102_4 ti4 (by decide)
theorem fv102_4 {es : List (List AV)} {i j : Nat} : fieldAddrA Tryz.prog 102 (.vptr es i j) 4 = some (.vptr es i (j + 4)) := fa_v tf102_4 ti4 (by decide)
theorem fp103_0 {b sz i j : Nat} : fieldAddrA Tryz.prog 103 (.ptr b sz i j) 0 = some (.ptr b sz i (j + 0)) := fa_p tf103_0 ti3 (by decide)
theorem fv103_0 {es : List (List AV)} {i j : Nat} : fieldAddrA Tryz.prog 103 (.vptr es i j) 0 = some (.vptr es i (j + 0)) := fa_v tf103_0 ti3 (by decide)
theorem fp103_1 {b sz i j : Nat} : fieldAddrA Tryz.prog 103 (.ptr b sz i j) 1 = some (.ptr b sz i (j + 1)) := fa_p tf103_1 ti3 (by decide)
theorem fv103_1 {es : List (List AV)} {i j : Nat} : fieldAddrA Tryz.prog 103 (.vptr es i j) 1 = some (.vptr es i (j + 1)) := fa_v tf103_1 ti3 (by decide)
theorem fp103_2 {b sz i j : Nat} : fieldAddrA Tryz.prog 103 (.ptr b sz i j) 2 = some (.ptr b sz i (j + 2)) := fa_p tf103_2 ti3 (by decide)
theorem fv103_2 {es : List (List AV)} {i j : Nat} : fieldAddrA Tryz.prog 103 (.vptr es i j) 2 = some (.vptr es i (j + 2)) := fa_v tf103_2 ti3 (by decide)
theorem fp103_3 {b sz i j : Nat} : fieldAddrA Tryz.prog 103 (.ptr b sz i j) 3 = some (.ptr b sz i (j + 3)) := fa_p tf103_3 ti3 (by decide)
theorem fv103_3 {es : List (List AV)} {i j : Nat} : fieldAddrA Tryz.prog 103 (.vptr es i j) 3 = some (.vptr es i (j + 3)) := fa_v tf103_3 ti3 (by decide)
theorem fp103_4 {b sz i j : Nat} : fieldAddrA Tryz.prog 103 (.ptr b sz i j) 4 = some (.ptr b sz i (j + 4)) := fa_p tf103_4 ti4 (by decide)
theorem fv103_4 {es : List (List AV)} {i j : Nat} : fieldAddrA Tryz.prog 103 (.vptr es i j) 4 = some (.vptr es i (j + 4)) := fa_v tf103_4 ti4 (by decide)
theorem fp113_0 {b sz i j : Nat} : fieldAddrA Tryz.prog 113 (.ptr b sz i j) 0 = some (.ptr b sz i (j + 0)) := fa_p tf113_0 ti3 (by decide)
theorem fv113_0 {es : List (List AV)} {i j : Nat} : fieldAddrA Tryz.prog 113 (.vptr es i j) 0 = some (.vptr es i (j + 0)) := fa_v tf113_0 ti3 (by decide)
theorem fp113_1 {b sz i j : Nat} : fieldAddrA Tryz.prog 113 (.ptr b sz i j) 1 = some (.ptr b sz i (j + 1)) := fa_p tf113_1 ti3 (by decide)
theorem fv113_1 {es : List (List AV)} {i j : Nat} : fieldAddrA Tryz.prog 113 (.vptr es i j) 1 = some (.vptr es i (j + 1)) := fa_v tf113_1 ti3 (by decide)
theorem fp113_2 {b sz i j : Nat} : fieldAddrA Tryz.prog 113 (.ptr b sz i j) 2 = some (.ptr b sz i (j + 2)) := fa_p tf113_2 ti3 (by decide)
theorem fv113_2 {es : List (List AV)} {i j : Nat} : fieldAddrA Tryz.prog 113 (.vptr es i j) 2 = some (.vptr es i (j + 2)) := fa_v tf113_2 ti3 (by decide)
theorem fp113_3 {b sz i j : Nat} : fieldAddrA Tryz.prog 113 (.ptr b sz i j) 3 = some (.ptr b sz i (j + 3)) := fa_p tf113_3 ti3 (by decide)
theorem fv113_3 {es : List (List AV)} {i j : Nat} : fieldAddrA Tryz.prog 113 (.vptr es i j) 3 = some (.vptr es i (j + 3)) := fa_v tf113_3 ti3 (by decide)
theorem fp120_0 {b sz i j : Nat} : fieldAddrA Tryz.prog 120 (.ptr b sz i j) 0 = some (.ptr b sz i (j + 0)) := fa_p tf120_0 ti3 (by decide)
theorem fv120_0 {es : List (List AV)} {i j : Nat} : fieldAddrA Tryz.prog 120 (.vptr es i j) 0 = some (.vptr es i (j + 0)) := fa_v tf120_0 ti3 (by decide)
theorem fp120_1 {b sz i j : Nat} : fieldAddrA Tryz.prog 120 (.ptr b sz i j) 1 = some (.ptr b sz i (j + 1)) := fa_p tf120_1 ti3 (by decide)
theorem fv120_1 {es : List (List AV)} {i j : Nat} : fieldAddrA Tryz.prog 120 (.vptr es i j) 1 = some (.vptr es i (j + 1)) := fa_v tf120_1 ti3 (by decide)
theorem fp120_2 {b sz i j : Nat} : fieldAddrA Tryz.prog 120 (.ptr b sz i j) 2 = some (.ptr b sz i (j + 2)) := fa_p tf120_2 ti3 (by decide)
theorem fv120_2 {es : List (List AV)} {i j : Nat} : fieldAddrA Tryz.prog 120 (.vptr es i j) 2 = some (.vptr es i (j + 2)) := fa_v tf120_2 ti3 (by decide)
theorem fp126_0 {b sz i j : Nat} : fieldAddrA Tryz.prog 126 (.ptr b sz i j) 0 = some (.ptr b sz i (j + 0)) := fa_p tf126_0 ti22 (by decide)
theorem fv126_0 {es : List (List AV)} {i j : Nat} : fieldAddrA Tryz.prog 126 (.vptr es i j) 0 = some (.vptr es i (j + 0)) := fa_v tf126_0 ti22 (by decide)
theorem fp126_1 {b sz i j : Nat} : fieldAddrA Tryz.prog 126 (.ptr b sz i j) 1 = some (.ptr b sz i (j + 1)) := fa_p tf126_1 ti3 (by decide)
theorem fv126_1 {es : List (List AV)} {i j : Nat} : fieldAddrA Tryz.prog 126 (.vptr es i j) 1 = some (.vptr es i (j + 1)) := fa_v tf126_1 ti3 (by decide)
theorem fp127_0 {b sz i j : Nat} : fieldAddrA Tryz.prog 127 (.ptr b sz i j) 0 = some (.ptr b sz i (j + 0)) := fa_p tf127_0 ti22 (by decide)
theorem fv127_0 {es : List (List AV)} {i j : Nat} : fieldAddrA Tryz.prog 127 (.vptr es i j) 0 = some (.vptr es i (j + 0)) := fa_v tf127_0 ti22 (by decide)
theorem fp127_1 {b sz i j : Nat} : fieldAddrA Tryz.prog 127 (.ptr b sz i j) 1 = some (.ptr b sz i (j + 1)) := fa_p tf127_1 ti3 (by decide)
theorem fv127_1 {es : List (List AV)} {i j : Nat} : fieldAddrA Tryz.prog 127 (.vptr es i j) 1 = some (.vptr es i (j + 1)) := fa_v tf127_1 ti3 (by decide)
theorem fp128_0 {b sz i j : Nat} : fieldAddrA Tryz.prog 128 (.ptr b sz i j) 0 = some (.ptr b sz i (j + 0)) := fa_p tf128_0 ti25 (by decide)
theorem fv128_0 {es : List (List AV)} {i j : Nat} : fieldAddrA Tryz.prog 128 (.vptr es i j) 0 = some (.vptr es i (j + 0)) := fa_v tf128_0 ti25 (by decide)
theorem fp128_1 {b sz i j : Nat} : fieldAddrA Tryz.prog 128 (.ptr b sz i j) 1 = some (.ptr b sz i (j + 1)) := fa_p tf128_1 ti26 (by decide)
theorem fv128_1 {es : List (List AV)} {i j : Nat} : fieldAddrA Tryz.prog 128 (.vptr es i j) 1 = some (.vptr es i (j + 1)) := fa_v tf128_1 ti26 (by decide)
theorem fp128_2 {b sz i j : Nat} : fieldAddrA Tryz.prog 128 (.ptr b sz i j) 2 = some (.ptr b sz i (j + 2)) := fa_p tf128_2 ti29 (by decide)
theorem fv128_2 {es : List (List AV)} {i j : Nat} : fieldAddrA Tryz.prog 128 (.vptr es i j) 2 = some (.vptr es i (j + 2)) := fa_v tf128_2 ti29 (by decide)
theorem fp128_3 {b sz i j : Nat} : fieldAddrA Tryz.prog 128 (.ptr b sz i j) 3 = some (.ptr b sz i (j + 3)) := fa_p tf128_3 ti32 (by decide)
theorem fv128_3 {es : List (List AV)} {i j : Nat} : fieldAddrA Tryz.prog 128 (.vptr es i j) 3 = some (.vptr es i (j + 3)) := fa_v tf128_3 ti32 (by decide)
theorem fp128_4 {b sz i j : Nat} : fieldAddrA Tryz.prog 128 (.ptr b sz i j) 4 = some (.ptr b sz i (j + 4)) := fa_p tf128_4 ti3 (by decide)
theorem fv128_4 {es : List (List AV)} {i j : Nat} : fieldAddrA Tryz.prog 128 (.vptr es i j) 4 = some (.vptr es i (j + 4)) := fa_v tf128_4 ti3 (by decide)
theorem fp129_0 {b sz i j : Nat} : fieldAddrA Tryz.prog 129 (.ptr b sz i j) 0 = some (.ptr b sz i (j + 0)) := fa_p tf129_0 ti25 (by decide)
theorem fv129_0 {es : List (List AV)} {i j : Nat} : fieldAddrA Tryz.prog 129 (.vptr es i j) 0 = some (.vptr es i (j + 0)) := fa_v tf129_0 ti25 (by decide)
theorem fp129_1 {b sz i j : Nat} : fieldAddrA Tryz.prog 129 (.ptr b sz i j) 1 = some (.ptr b sz i (j + 1)) := fa_p tf129_1 ti26 (by decide)
theorem fv129_1 {es : List (List AV)} {i j : Nat} : fieldAddrA Tryz.prog 129 (.vptr es i j) 1 = some (.vptr es i (j + 1)) := fa_v tf129_1 ti26 (by decide)
theorem fp129_2 {b sz i j : Nat} : fieldAddrA Tryz.prog 129 (.ptr b sz i j) 2 = some (.ptr b sz i (j + 2)) := fa_p tf129_2 ti29 (by decide)
theorem fv129_2 {es : List (List AV)} {i j : Nat} : fieldAddrA Tryz.prog 129 (.vptr es i j) 2 = some (.vptr es i (j + 2)) := fa_v tf129_2 ti29 (by decide)
theorem fp129_3 {b sz i j : Nat} : fieldAddrA Tryz.prog 129 (.ptr b sz i j) 3 = some (.ptr b sz i (j + 3)) := fa_p tf129_3 ti32 (by decide)
theorem fv129_3 {es : List (List AV)} {i j : Nat} : fieldAddrA Tryz.prog 129 (.vptr es i j) 3 = some (.vptr es i (j + 3)) := fa_v tf129_3 ti32 (by decide)
theorem fp129_4 {b sz i j : Nat} : fieldAddrA Tryz.prog 129 (.ptr b sz i j) 4 = some (.ptr b sz i (j + 4)) := fa_p tf129_4 ti3 (by decide)
theorem fv129_4 {es : List (List AV)} {i j : Nat} : fieldAddrA Tryz.prog 129 (.vptr es i j) 4 = some (.vptr es i (j + 4)) := fa_v tf129_4 ti3 (by decide)
theorem fp137_0 {b sz i j : Nat} : fieldAddrA Tryz.prog 137 (.ptr b sz i j) 0 = some (.ptr b sz i (j + 0)) := fa_p tf137_0 ti25 (by decide)
theorem fv137_0 {es : List (List AV)} {i j : Nat} : fieldAddrA Tryz.prog 137 (.vptr es i j) 0 = some (.vptr es i (j + 0)) := fa_v tf137_0 ti25 (by decide)
theorem fp137_1 {b sz i j : Nat} : fieldAddrA Tryz.prog 137 (.ptr b sz i j) 1 = some (.ptr b sz i (j + 1)) := fa_p tf137_1 ti26 (by decide)
theorem fv137_1 {es : List (List AV)} {i j : Nat} : fieldAddrA Tryz.prog 137 (.vptr es i j) 1 = some (.vptr es i (j + 1)) := fa_v tf137_1 ti26 (by decide)
theorem fp137_2 {b sz i j : Nat} : fieldAddrA Tryz.prog 137 (.ptr b sz i j) 2 = some (.ptr b sz i (j + 2)) := fa_p tf137_2 ti29 (by decide)
theorem fv137_2 {es : List (List AV)} {i j : Nat} : fieldAddrA Tryz.prog 137 (.vptr es i j) 2 = some (.vptr es i (j + 2)) := fa_v tf137_2 ti29 (by decide)
theorem fp137_3 {b sz i j : Nat} : fieldAddrA Tryz.prog 137 (.ptr b sz i j) 3 = some (.ptr b sz i (j + 3)) := fa_p tf137_3 ti32 (by decide)
theorem fv137_3 {es : List (List AV)} {i j : Nat} : fieldAddrA Tryz.prog 137 (.vptr es i j) 3 = some (.vptr es i (j + 3)) := fa_v tf137_3 ti32 (by decide)
theorem fp138_0 {b sz i j : Nat} : fieldAddrA Tryz.prog 138 (.ptr b sz i j) 0 = some (.ptr b sz i (j + 0)) := fa_p tf138_0 ti25 (by decide)
theorem fv138_0 {es : List (List AV)} {i j : Nat} : fieldAddrA Tryz.prog 138 (.vptr es i j) 0 = some (.vptr es i (j + 0)) := fa_v tf138_0 ti25 (by decide)
theorem fp138_1 {b sz i j : Nat} : fieldAddrA Tryz.prog 138 (.ptr b sz i j) 1 = some (.ptr b sz i (j + 1)) := fa_p tf138_1 ti26 (by decide)
theorem fv138_1 {es : List (List AV)} {i j : Nat} : fieldAddrA Tryz.prog 138 (.vptr es i j) 1 = some (.vptr es i (j + 1)) := fa_v tf138_1 ti26 (by decide)
theorem fp138_2 {b sz i j : Nat} : fieldAddrA Tryz.prog 138 (.ptr b sz i j) 2 = some (.ptr b sz i (j + 2)) := fa_p tf138_2 ti29 (by decide)
theorem fv138_2 {es : List (List AV)} {i j : Nat} : fieldAddrA Tryz.prog 138 (.vptr es i j) 2 = some (.vptr es i (j + 2)) := fa_v tf138_2 ti29 (by decide)
theorem fp138_3 {b sz i j : Nat} : fieldAddrA Tryz.prog 138 (.ptr b sz i j) 3 = some (.ptr b sz i (j + 3)) := fa_p tf138_3 ti32 (by decide)
theorem fv138_3 {es : List (List AV)} {i j : Nat} : fieldAddrA Tryz.prog 138 (.vptr es i j) 3 = some (.vptr es i (j + 3)) := fa_v tf138_3 ti32 (by decide)
theorem fp139_0 {b sz i j : Nat} : fieldAddrA Tryz.prog 139 (.ptr b sz i j) 0 = some (.ptr b sz i (j + 0)) := fa_p tf139_0 ti3 (by decide)
theorem fv139_0 {es : List (List AV)} {i j : Nat} : fieldAddrA Tryz.prog 139 (.vptr es i j) 0 = some (.vptr es i (j + 0)) := fa_v tf139_0 ti3 (by decide)
theorem fp139_1 {b sz i j : Nat} : fieldAddrA Tryz.prog 139 (.ptr b sz i j) 1 = some (.ptr b sz i (j + 1)) := fa_p tf139_1 ti3 (by decide)
theorem fv139_1 {es : List (List AV)} {i j : Nat} : fieldAddrA Tryz.prog 139 (.vptr es i j) 1 = some (.vptr es i (j + 1)) := fa_v tf139_1 ti3 (by decide)
theorem fp140_0 {b sz i j : Nat} : fieldAddrA Tryz.prog 140 (.ptr b sz i j) 0 = some (.ptr b sz i (j + 0)) := fa_p tf140_0 ti3 (by decide)
theorem fv140_0 {es : List (List AV)} {i j : Nat} : fieldAddrA Tryz.prog 140 (.vptr es i j) 0 = some (.vptr es i (j + 0)) := fa_v tf140_0 ti3 (by decide)
theorem fp140_1 {b sz i j : Nat} : fieldAddrA Tryz.prog 140 (.ptr b sz i j) 1 = some (.ptr b sz i (j + 1)) := fa_p tf140_1 ti3 (by decide)
theorem fv140_1 {es : List (List AV)} {i j : Nat} : fieldAddrA Tryz.prog 140 (.vptr es i j) 1 = some (.vptr es i (j + 1)) := fa_v tf140_1 ti3 (by decide)
theorem fp143_0 {b sz i j : Nat} : fieldAddrA Tryz.prog 143 (.ptr b sz i j) 0 = some (.ptr b sz i (j + 0)) := fa_p tf143_0 ti9 (by decide)
theorem fv143_0 {es : List (List AV)} {i j : Nat} : fieldAddrA Tryz.prog 143 (.vptr es i j) 0 = some (.vptr es i (j + 0)) := fa_v tf143_0 ti9 (by decide)
theorem fp143_1 {b sz i j : Nat} : fieldAddrA Tryz.prog 143 (.ptr b sz i j) 1 = some (.ptr b sz i (j + 1)) := fa_p tf143_1 ti3 (by decide)
theorem fv143_1 {es : List (List AV)} {i j : Nat} : fieldAddrA Tryz.prog 143 (.vptr es i j) 1 = some (.vptr es i (j + 1)) := fa_v tf143_1 ti3 (by decide)
theorem fp144_0 {b sz i j : Nat} : fieldAddrA Tryz.prog 144 (.ptr b sz i j) 0 = some (.ptr b sz i (j + 0)) := fa_p tf144_0 ti9 (by decide)
theorem fv144_0 {es : List (List AV)} {i j : Nat} : fieldAddrA Tryz.prog 144 (.vptr es i j) 0 = some (.vptr es i (j + 0)) := fa_v tf144_0 ti9 (by decide)
theorem fp144_1 {b sz i j : Nat} : fieldAddrA Tryz.prog 144 (.ptr b sz i j) 1 = some (.ptr b sz i (j + 1)) := fa_p tf144_1 ti3 (by decide)
theorem fv144_1 {es : List (List AV)} {i j : Nat} : fieldAddrA Tryz.prog 144 (.vptr es i j) 1 = some (.vptr es i (j + 1)) := fa_v tf144_1 ti3 (by decide)
theorem fp158_0 {b sz i j : Nat} : fieldAddrA Tryz.prog 158 (.ptr b sz i j) 0 = some (.ptr b sz i (j + 0)) := fa_p tf158_0 ti29 (by decide)
theorem fv158_0 {es : List (List AV)} {i j : Nat} : fieldAddrA Tryz.prog 158 (.vptr es i j) 0 = some (.vptr es i (j + 0)) := fa_v tf158_0 ti29 (by decide)
theorem fp158_1 {b sz i j : Nat} : fieldAddrA Tryz.prog 158 (.ptr b sz i j) 1 = some (.ptr b sz i (j + 1)) := fa_p tf158_1 ti32 (by decide)
theorem fv158_1 {es : List (List AV)} {i j : Nat} : fieldAddrA Tryz.prog 158 (.vptr es i j) 1 = some (.vptr es i (j + 1)) := fa_v tf158_1 ti32 (by decide)
theorem fp158_2 {b sz i j : Nat} : fieldAddrA Tryz.prog 158 (.ptr b sz i j) 2 = some (.ptr b sz i (j + 2)) := fa_p tf158_2 ti3 (by decide)
theorem fv158_2 {es : List (List AV)} {i j : Nat} : fieldAddrA Tryz.prog 158 (.vptr es i j) 2 = some (.vptr es i (j + 2)) := fa_v tf158_2 ti3 (by decide)
theorem fp159_0 {b sz i j : Nat} : fieldAddrA Tryz.prog 159 (.ptr b sz i j) 0 = some (.ptr b sz i (j + 0)) := fa_p tf159_0 ti29 (by decide)
theorem fv159_0 {es : List (List AV)} {i j : Nat} : fieldAddrA Tryz.prog 159 (.vptr es i j) 0 = some (.vptr es i (j + 0)) := fa_v tf159_0 ti29 (by decide)
theorem fp159_1 {b sz i j : Nat} : fieldAddrA Tryz.prog 159 (.ptr b sz i j) 1 = some (.ptr b sz i (j + 1)) := fa_p tf159_1 ti32 (by decide)
theorem fv159_1 {es : List (List AV)} {i j : Nat} : fieldAddrA Tryz.prog 159 (.vptr es i j) 1 = some (.vptr es i (j + 1)) := fa_v tf159_1 ti32 (by decide)
theorem fp159_2 {b sz i j : Nat} : fieldAddrA Tryz.prog 159 (.ptr b sz i j) 2 = some (.ptr b sz i (j + 2)) := fa_p tf159_2 ti3 (by decide)
theorem fv159_2 {es : List (List AV)} {i j : Nat} : fieldAddrA Tryz.prog 159 (.vptr es i j) 2 = some (.vptr es i (j + 2)) := fa_v tf159_2 ti3 (by decide)
theorem fp169_0 {b sz i j : Nat} : fieldAddrA Tryz.prog 169 (.ptr b sz i j) 0 = some (.ptr b sz i (j + 0)) := fa_p tf169_0 ti9 (by decide)
theorem fv169_0 {es : List (List AV)} {i j : Nat} : fieldAddrA Tryz.prog 169 (.vptr es i j) 0 = some (.vptr es i (j + 0)) := fa_v tf169_0 ti9 (by decide)
theorem fp169_1 {b sz i j : Nat} : fieldAddrA Tryz.prog 169 (.ptr b sz i j) 1 = some (.ptr b sz i (j + 1)) := fa_p tf169_1 ti3 (by decide)
theorem fv169_1 {es : List (List AV)} {i j : Nat} : fieldAddrA Tryz.prog 169 (.vptr es i j) 1 = some (.vptr es i (j + 1)) := fa_v tf169_1 ti3 (by decide)
theorem lv22 {es : List (List AV)} {cl : Bool} : lenA Tryz.prog 22 (.vsl es cl) = some (I es.length) := lenV te22
theorem ll22 {b sz off len : Nat} {cl : Bool} : lenA Tryz.prog 22 (.sl b sz off len cl) = some (I len) := lenL te22
theorem is22 {b off len : Nat} {cl : Bool} {kd : IntKind} {n : Int} : indexAddrA Tryz.prog 22 (.sl b 1 off len cl) (.lit (.int kd n)) = if 0 ≤ n ∧ n < len then some (.ptr b 1 (off + n.toNat) 0) else none := ixs te22 ti5
theorem ix22 {l : List UInt8} {cl : Bool} {kd : IntKind} {n : Int} : indexAddrA Tryz.prog 22 (.vsl (l.map rU) cl) (.lit (.int kd n)) = if 0 ≤ n ∧ n < l.length then some (.vptr (l.map rU) n.toNat 0) else none := ixv te22 ti5 rU_len (by decide)
theorem sh22 {l : List UInt8} {cl : Bool} {h : Int} {ka : IntKind} : sliceA Tryz.prog 22 (.vsl (l.map rU) cl) none (some (.lit (.int ka h))) none = if 0 ≤ h ∧ h ≤ l.length then some (.vsl ((l.take h.toNat).map rU) (clipOf none h l.length cl)) else none := sl_hi te22 ti5 rU_len
theorem so22 {l : List UInt8} {cl : Bool} {lo : Int} {ka : IntKind} : sliceA Tryz.prog 22 (.vsl (l.map rU) cl) (some (.lit (.int ka lo))) none none = if 0 ≤ lo ∧ lo ≤ l.length then some (.vsl ((l.drop lo.toNat).map rU) cl) else none := sl_lo te22 ti5 rU_len
theorem sb22 {l : List UInt8} {cl : Bool} {lo h : Int} {ka kb : IntKind} : sliceA Tryz.prog 22 (.vsl (l.map rU) cl) (some (.lit (.int ka lo))) (some (.lit (.int kb h))) none = if 0 ≤ lo ∧ lo ≤ h ∧ h ≤ l.length then some (.vsl (((l.take h.toNat).drop lo.toNat).map rU) (clipOf none h l.length cl)) else none := sl_lohi te22 ti5 rU_len
theorem sm22 {l : List UInt8} {cl : Bool} {h m : Int} {ka kb : IntKind} : sliceA Tryz.prog 22 (.vsl (l.map rU) cl) none (some (.lit (.int ka h))) (some (.lit (.int kb m))) = if 0 ≤ h ∧ h ≤ m ∧ m ≤ l.length then some (.vsl ((l.take h.toNat).map rU) (decide (m = h))) else none := sl_hm te22 ti5 rU_len
theorem sp22 {b off n : Nat} {cl : Bool} {h m : Int} {ka kb : IntKind} : sliceA Tryz.prog 22 (.sl b 1 off n cl) none (some (.lit (.int ka h))) (some (.lit (.int kb m))) = if 0 ≤ h ∧ h ≤ m ∧ m ≤ n then some (.sl b 1 off h.toNat (decide (m = h))) else none := so_hm te22 ti5 rfl
theorem lv23 {es : List (List AV)} {cl : Bool} : lenA Tryz.prog 23 (.vsl es cl) = some (I es.length) := lenV te23
theorem ll23 {b sz off len : Nat} {cl : Bool} : lenA Tryz.prog 23 (.sl b sz off len cl) = some (I len) := lenL te23
theorem is23 {b off len : Nat} {cl : Bool} {kd : IntKind} {n : Int} : indexAddrA Tryz.prog 23 (.sl b 2 off len cl) (.lit (.int kd n)) = if 0 ≤ n ∧ n < len then some (.ptr b 2 (off + n.toNat) 0) else none := ixs te23 ti144
theorem ix23 {l : List Class} {cl : Bool} {kd : IntKind} {n : Int} : indexAddrA Tryz.prog 23 (.vsl (l.map rClass) cl) (.lit (.int kd n)) = if 0 ≤ n ∧ n < l.length then some (.vptr (l.map rClass) n.toNat 0) else none := ixv te23 ti144 rClass_len (by decide)
theorem sh23 {l : List Class} {cl : Bool} {h : Int} {ka : IntKind} : sliceA Tryz.prog 23 (.vsl (l.map rClass) cl) none (some (.lit (.int ka h))) none = if 0 ≤ h ∧ h ≤ l.length then some (.vsl ((l.take h.toNat).map rClass) (clipOf none h l.length cl)) else none := sl_hi te23 ti144 rClass_len
theorem so23 {l : List Class} {cl : Bool} {lo : Int} {ka : IntKind} : sliceA Tryz.prog 23 (.vsl (l.map rClass) cl) (some (.lit (.int ka lo))) none none = if 0 ≤ lo ∧ lo ≤ l.length then some (.vsl ((l.drop lo.toNat).map rClass) cl) else none := sl_lo te23 ti144 rClass_len
theorem sb23 {l : List Class} {cl : Bool} {lo h : Int} {ka kb : IntKind} : sliceA Tryz.prog 23 (.vsl (l.map rClass) cl) (some (.lit (.int ka lo))) (some (.lit (.int kb h))) none = if 0 ≤ lo ∧ lo ≤ h ∧ h ≤ l.length then some (.vsl (((l.take h.toNat).drop lo.toNat).map rClass) (clipOf none h l.length cl)) else none := sl_lohi te23 ti144 rClass_len
theorem sm23 {l : List Class} {cl : Bool} {h m : Int} {ka kb : IntKind} : sliceA Tryz.prog 23 (.vsl (l.map rClass) cl) none (some (.lit (.int ka h))) (some (.lit (.int kb m))) = if 0 ≤ h ∧ h ≤ m ∧ m ≤ l.length then some (.vsl ((l.take h.toNat).map rClass) (decide (m = h))) else none := sl_hm te23 ti144 rClass_len
theorem sp23 {b off n : Nat} {cl : Bool} {h m : Int} {ka kb : IntKind} : sliceA Tryz.prog 23 (.sl b 2 off n cl) none (some (.lit (.int ka h))) (some (.lit (.int kb m))) = if 0 ≤ h ∧ h ≤ m ∧ m ≤ n then some (.sl b 2 off h.toNat (decide (m = h))) else none := so_hm te23 ti144 rfl
theorem lv26 {es : List (List AV)} {cl : Bool} : lenA Tryz.prog 26 (.vsl es cl) = some (I es.length) := lenV te26
theorem ll26 {b sz off len : Nat} {cl : Bool} : lenA Tryz.prog 26 (.sl b sz off len cl) = some (I len) := lenL te26
theorem is26 {b off len : Nat} {cl : Bool} {kd : IntKind} {n : Int} : indexAddrA Tryz.prog 26 (.sl b 4 off len cl) (.lit (.int kd n)) = if 0 ≤ n ∧ n < len then some (.ptr b 4 (off + n.toNat) 0) else none := ixs te26 ti41
theorem ix26 {l : List Line} {cl : Bool} {kd : IntKind} {n : Int} : indexAddrA Tryz.prog 26 (.vsl (l.map rLine) cl) (.lit (.int kd n)) = if 0 ≤ n ∧ n < l.length then some (.vptr (l.map rLine) n.toNat 0) else none := ixv te26 ti41 rLine_len (by decide)
theorem sh26 {l : List Line} {cl : Bool} {h : Int} {ka : IntKind} : sliceA Tryz.prog 26 (.vsl (l.map rLine) cl) none (some (.lit (.int ka h))) none = if 0 ≤ h ∧ h ≤ l.length then some (.vsl ((l.take h.toNat).map rLine) (clipOf none h l.length cl)) else none := sl_hi te26 ti41 rLine_len
theorem so26 {l : List Line} {cl : Bool} {lo : Int} {ka : IntKind} : sliceA Tryz.prog 26 (.vsl (l.map rLine) cl) (some (.lit (.int ka lo))) none none = if 0 ≤ lo ∧ lo ≤ l.length then some (.vsl ((l.drop lo.toNat).map rLine) cl) else none := sl_lo te26 ti41 rLine_len
theorem sb26 {l : List Line} {cl : Bool} {lo h : Int} {ka kb : IntKind} : sliceA Tryz.prog 26 (.vsl (l.map rLine) cl) (some (.lit (.int ka lo))) (some (.lit (.int kb h))) none = if 0 ≤ lo ∧ lo ≤ h ∧ h ≤ l.length then some (.vsl (((l.take h.toNat).drop lo.toNat).map rLine) (clipOf none h l.length cl)) else none := sl_lohi te26 ti41 rLine_len
theorem sm26 {l : List Line} {cl : Bool} {h m : Int} {ka kb : IntKind} : sliceA Tryz.prog 26 (.vsl (l.map rLine) cl) none (some (.lit (.int ka h))) (some (.lit (.int kb m))) = if 0 ≤ h ∧ h ≤ m ∧ m ≤ l.length then some (.vsl ((l.take h.toNat).map rLine) (decide (m = h))) else none := sl_hm te26 ti41 rLine_len
theorem sp26 {b off n : Nat} {cl : Bool} {h m : Int} {ka kb : IntKind} : sliceA Tryz.prog 26 (.sl b 4 off n cl) none (some (.lit (.int ka h))) (some (.lit (.int kb m))) = if 0 ≤ h ∧ h ≤ m ∧ m ≤ n then some (.sl b 4 off h.toNat (decide (m = h))) else none := so_hm te26 ti41 rfl
theorem lv29 {es : List (List AV)} {cl : Bool} : lenA Tryz.prog 29 (.vsl es cl) = some (I es.length) := lenV te29
theorem ll29 {b sz off len : Nat} {cl : Bool} : lenA Tryz.prog 29 (.sl b sz off len cl) = some (I len) := lenL te29
theorem is29 {b off len : Nat} {cl : Bool} {kd : IntKind} {n : Int} : indexAddrA Tryz.prog 29 (.sl b 1 off len cl) (.lit (.int kd n)) = if 0 ≤ n ∧ n < len then some (.ptr b 1 (off + n.toNat) 0) else none := ixs te29 ti3
theorem ix29 {l : List Int} {cl : Bool} {kd : IntKind} {n : Int} : indexAddrA Tryz.prog 29 (.vsl (l.map rI) cl) (.lit (.int kd n)) = if 0 ≤ n ∧ n < l.length then some (.vptr (l.map rI) n.toNat 0) else none := ixv te29 ti3 rI_len (by decide)
theorem sh29 {l : List Int} {cl : Bool} {h : Int} {ka : IntKind} : sliceA Tryz.prog 29 (.vsl (l.map rI) cl) none (some (.lit (.int ka h))) none = if 0 ≤ h ∧ h ≤ l.length then some (.vsl ((l.take h.toNat).map rI) (clipOf none h l.length cl)) else none := sl_hi te29 ti3 rI_len
theorem so29 {l : List Int} {cl : Bool} {lo : Int} {ka : IntKind} : sliceA Tryz.prog 29 (.vsl (l.map rI) cl) (some (.lit (.int ka lo))) none none = if 0 ≤ lo ∧ lo ≤ l.length then some (.vsl ((l.drop lo.toNat).map rI) cl) else none := sl_lo te29 ti3 rI_len
theorem sb29 {l : List Int} {cl : Bool} {lo h : Int} {ka kb : IntKind} : sliceA Tryz.prog 29 (.vsl (l.map rI) cl) (some (.lit (.int ka lo))) (some (.lit (.int kb h))) none = if 0 ≤ lo ∧ lo ≤ h ∧ h ≤ l.length then some (.vsl (((l.take h.toNat).drop lo.toNat).map rI) (clipOf none h l.length cl)) else none := sl_lohi te29 ti3 rI_len
theorem sm29 {l : List Int} {cl : Bool} {h m : Int} {ka kb : IntKind} : sliceA Tryz.prog 29 (.vsl (l.map rI) cl) none (some (.lit (.int ka h))) (some (.lit (.int kb m))) = if 0 ≤ h ∧ h ≤ m ∧ m ≤ l.length then some (.vsl ((l.take h.toNat).map rI) (decide (m = h))) else none := sl_hm te29 ti3 rI_len
theorem sp29 {b off n : Nat} {cl : Bool} {h m : Int} {ka kb : IntKind} : sliceA Tryz.prog 29 (.sl b 1 off n cl) none (some (.lit (.int ka h))) (some (.lit (.int kb m))) = if 0 ≤ h ∧ h ≤ m ∧ m ≤ n then some (.sl b 1 off h.toNat (decide (m = h))) else none := so_hm te29 ti3 rfl
theorem lv30 {es : List (List AV)} {cl : Bool} : lenA Tryz.prog 30 (.vsl es cl) = some (I es.length) := lenV te30
theorem ll30 {b sz off len : Nat} {cl : Bool} : lenA Tryz.prog 30 (.sl b sz off len cl) = some (I len) := lenL te30
theorem is30 {b off len : Nat} {cl : Bool} {kd : IntKind} {n : Int} : indexAddrA Tryz.prog 30 (.sl b 5 off len cl) (.lit (.int kd n)) = if 0 ≤ n ∧ n < len then some (.ptr b 5 (off + n.toNat) 0) else none := ixs te30 ti103
theorem ix30 {l : List Fault} {cl : Bool} {kd : IntKind} {n : Int} : indexAddrA Tryz.prog 30 (.vsl (l.map rFault) cl) (.lit (.int kd n)) = if 0 ≤ n ∧ n < l.length then some (.vptr (l.map rFault) n.toNat 0) else none := ixv te30 ti103 rFault_len (by decide)
theorem sh30 {l : List Fault} {cl : Bool} {h : Int} {ka : IntKind} : sliceA Tryz.prog 30 (.vsl (l.map rFault) cl) none (some (.lit (.int ka h))) none = if 0 ≤ h ∧ h ≤ l.length then some (.vsl ((l.take h.toNat).map rFault) (clipOf none h l.length cl)) else none := sl_hi te30 ti103 rFault_len
theorem so30 {l : List Fault} {cl : Bool} {lo : Int} {ka : IntKind} : sliceA Tryz.prog 30 (.vsl (l.map rFault) cl) (some (.lit (.int ka lo))) none none = if 0 ≤ lo ∧ lo ≤ l.length then some (.vsl ((l.drop lo.toNat).map rFault) cl) else none := sl_lo te30 ti103 rFault_len
theorem sb30 {l : List Fault} {cl : Bool} {lo h : Int} {ka kb : IntKind} : sliceA Tryz.prog 30 (.vsl (l.map rFault) cl) (some (.lit (.int ka lo))) (some (.lit (.int kb h))) none = if 0 ≤ lo ∧ lo ≤ h ∧ h ≤ l.length then some (.vsl (((l.take h.toNat).drop lo.toNat).map rFault) (clipOf none h l.length cl)) else none := sl_lohi te30 ti103 rFault_len
theorem sm30 {l : List Fault} {cl : Bool} {h m : Int} {ka kb : IntKind} : sliceA Tryz.prog 30 (.vsl (l.map rFault) cl) none (some (.lit (.int ka h))) (some (.lit (.int kb m))) = if 0 ≤ h ∧ h ≤ m ∧ m ≤ l.length then some (.vsl ((l.take h.toNat).map rFault) (decide (m = h))) else none := sl_hm te30 ti103 rFault_len
theorem sp30 {b off n : Nat} {cl : Bool} {h m : Int} {ka kb : IntKind} : sliceA Tryz.prog 30 (.sl b 5 off n cl) none (some (.lit (.int ka h))) (some (.lit (.int kb m))) = if 0 ≤ h ∧ h ≤ m ∧ m ≤ n then some (.sl b 5 off h.toNat (decide (m = h))) else none := so_hm te30 ti103 rfl
theorem lv45 {es : List (List AV)} {cl : Bool} : lenA Tryz.prog 45 (.vsl es cl) = some (I es.length) := lenV te45
theorem ll45 {b sz off len : Nat} {cl : Bool} : lenA Tryz.prog 45 (.sl b sz off len cl) = some (I len) := lenL te45
theorem is45 {b off len : Nat} {cl : Bool} {kd : IntKind} {n : Int} : indexAddrA Tryz.prog 45 (.sl b 3 off len cl) (.lit (.int kd n)) = if 0 ≤ n ∧ n < len then some (.ptr b 3 (off + n.toNat) 0) else none := ixs te45 ti44
theorem ix45 {l : List Exi} {cl : Bool} {kd : IntKind} {n : Int} : indexAddrA Tryz.prog 45 (.vsl (l.map rExit) cl) (.lit (.int kd n)) = if 0 ≤ n ∧ n < l.length then some (.vptr (l.map rExit) n.toNat 0) else none := ixv te45 ti44 rExit_len (by decide)
theorem sh45 {l : List Exi} {cl : Bool} {h : Int} {ka : IntKind} : sliceA Tryz.prog 45 (.vsl (l.map rExit) cl) none (some (.lit (.int ka h))) none = if 0 ≤ h ∧ h ≤ l.length then some (.vsl ((l.take h.toNat).map rExit) (clipOf none h l.length cl)) else none := sl_hi te45 ti44 rExit_len
theorem so45 {l : List Exi} {cl : Bool} {lo : Int} {ka : IntKind} : sliceA Tryz.prog 45 (.vsl (l.map rExit) cl) (some (.lit (.int ka lo))) none none = if 0 ≤ lo ∧ lo ≤ l.length then some (.vsl ((l.drop lo.toNat).map rExit) cl) else none := sl_lo te45 ti44 rExit_len
theorem sb45 {l : List Exi} {cl : Bool} {lo h : Int} {ka kb : IntKind} : sliceA Tryz.prog 45 (.vsl (l.map rExit) cl) (some (.lit (.int ka lo))) (some (.lit (.int kb h))) none = if 0 ≤ lo ∧ lo ≤ h ∧ h ≤ l.length then some (.vsl (((l.take h.toNat).drop lo.toNat).map rExit) (clipOf none h l.length cl)) else none := sl_lohi te45 ti44 rExit_len
theorem sm45 {l : List Exi} {cl : Bool} {h m : Int} {ka kb : IntKind} : sliceA Tryz.prog 45 (.vsl (l.map rExit) cl) none (some (.lit (.int ka h))) (some (.lit (.int kb m))) = if 0 ≤ h ∧ h ≤ m ∧ m ≤ l.length then some (.vsl ((l.take h.toNat).map rExit) (decide (m = h))) else none := sl_hm te45 ti44 rExit_len
theorem sp45 {b off n : Nat} {cl : Bool} {h m : Int} {ka kb : IntKind} : sliceA Tryz.prog 45 (.sl b 3 off n cl) none (some (.lit (.int ka h))) (some (.lit (.int kb m))) = if 0 ≤ h ∧ h ≤ m ∧ m ≤ n then some (.sl b 3 off h.toNat (decide (m = h))) else none := so_hm te45 ti44 rfl
theorem lv56 {es : List (List AV)} {cl : Bool} : lenA Tryz.prog 56 (.vsl es cl) = some (I es.length) := lenV te56
theorem ll56 {b sz off len : Nat} {cl : Bool} : lenA Tryz.prog 56 (.sl b sz off len cl) = some (I len) := lenL te56
theorem is56 {b off len : Nat} {cl : Bool} {kd : IntKind} {n : Int} : indexAddrA Tryz.prog 56 (.sl b 2 off len cl) (.lit (.int kd n)) = if 0 ≤ n ∧ n < len then some (.ptr b 2 (off + n.toNat) 0) else none := ixs te56 ti169
theorem sp56 {b off n : Nat} {cl : Bool} {h m : Int} {ka kb : IntKind} : sliceA Tryz.prog 56 (.sl b 2 off n cl) none (some (.lit (.int ka h))) (some (.lit (.int kb m))) = if 0 ≤ h ∧ h ≤ m ∧ m ≤ n then some (.sl b 2 off h.toNat (decide (m = h))) else none := so_hm te56 ti169 rfl
theorem lv59 {es : List (List AV)} {cl : Bool} : lenA Tryz.prog 59 (.vsl es cl) = some (I es.length) := lenV te59
theorem ll59 {b sz off len : Nat} {cl : Bool} : lenA Tryz.prog 59 (.sl b sz off len cl) = some (I len) := lenL te59
theorem is59 {b off len : Nat} {cl : Bool} {kd : IntKind} {n : Int} : indexAddrA Tryz.prog 59 (.sl b 4 off len cl) (.lit (.int kd n)) = if 0 ≤ n ∧ n < len then some (.ptr b 4 (off + n.toNat) 0) else none := ixs te59 ti113
theorem sp59 {b off n : Nat} {cl : Bool} {h m : Int} {ka kb : IntKind} : sliceA Tryz.prog 59 (.sl b 4 off n cl) none (some (.lit (.int ka h))) (some (.lit (.int kb m))) = if 0 ≤ h ∧ h ≤ m ∧ m ≤ n then some (.sl b 4 off h.toNat (decide (m = h))) else none := so_hm te59 ti113 rfl
theorem lv71 {es : List (List AV)} {cl : Bool} : lenA Tryz.prog 71 (.vsl es cl) = some (I es.length) := lenV te71
theorem ll71 {b sz off len : Nat} {cl : Bool} : lenA Tryz.prog 71 (.sl b sz off len cl) = some (I len) := lenL te71
theorem is71 {b off len : Nat} {cl : Bool} {kd : IntKind} {n : Int} : indexAddrA Tryz.prog 71 (.sl b 3 off len cl) (.lit (.int kd n)) = if 0 ≤ n ∧ n < len then some (.ptr b 3 (off + n.toNat) 0) else none := ixs te71 ti120
theorem sp71 {b off n : Nat} {cl : Bool} {h m : Int} {ka kb : IntKind} : sliceA Tryz.prog 71 (.sl b 3 off n cl) none (some (.lit (.int ka h))) (some (.lit (.int kb m))) = if 0 ≤ h ∧ h ≤ m ∧ m ≤ n then some (.sl b 3 off h.toNat (decide (m = h))) else none := so_hm te71 ti120 rfl
theorem lv149 {es : List (List AV)} {cl : Bool} : lenA Tryz.prog 149 (.vsl es cl) = some (I es.length) := lenV te149
theorem ll149 {b sz off len : Nat} {cl : Bool} : lenA Tryz.prog 149 (.sl b sz off len cl) = some (I len) := lenL te149
theorem is149 {b off len : Nat} {cl : Bool} {kd : IntKind} {n : Int} : indexAddrA Tryz.prog 149 (.sl b 1 off len cl) (.lit (.int kd n)) = if 0 ≤ n ∧ n < len then some (.ptr b 1 (off + n.toNat) 0) else none := ixs te149 ti26
theorem sp149 {b off n : Nat} {cl : Bool} {h m : Int} {ka kb : IntKind} : sliceA Tryz.prog 149 (.sl b 1 off n cl) none (some (.lit (.int ka h))) (some (.lit (.int kb m))) = if 0 ≤ h ∧ h ≤ m ∧ m ≤ n then some (.sl b 1 off h.toNat (decide (m = h))) else none := so_hm te149 ti26 rfl
theorem lv151 {es : List (List AV)} {cl : Bool} : lenA Tryz.prog 151 (.vsl es cl) = some (I es.length) := lenV te151
theorem ll151 {b sz off len : Nat} {cl : Bool} : lenA Tryz.prog 151 (.sl b sz off len cl) = some (I len) := lenL te151
theorem is151 {b off len : Nat} {cl : Bool} {kd : IntKind} {n : Int} : indexAddrA Tryz.prog 151 (.sl b 1 off len cl) (.lit (.int kd n)) = if 0 ≤ n ∧ n < len then some (.ptr b 1 (off + n.toNat) 0) else none := ixs te151 ti29
theorem sp151 {b off n : Nat} {cl : Bool} {h m : Int} {ka kb : IntKind} : sliceA Tryz.prog 151 (.sl b 1 off n cl) none (some (.lit (.int ka h))) (some (.lit (.int kb m))) = if 0 ≤ h ∧ h ≤ m ∧ m ≤ n then some (.sl b 1 off h.toNat (decide (m = h))) else none := so_hm te151 ti29 rfl
theorem lv177 {es : List (List AV)} {cl : Bool} : lenA Tryz.prog 177 (.vsl es cl) = some (I es.length) := lenV te177
theorem ll177 {b sz off len : Nat} {cl : Bool} : lenA Tryz.prog 177 (.sl b sz off len cl) = some (I len) := lenL te177
theorem is177 {b off len : Nat} {cl : Bool} {kd : IntKind} {n : Int} : indexAddrA Tryz.prog 177 (.sl b 1 off len cl) (.lit (.int kd n)) = if 0 ≤ n ∧ n < len then some (.ptr b 1 (off + n.toNat) 0) else none := ixs te177 ti9
theorem ix177 {l : List Str} {cl : Bool} {kd : IntKind} {n : Int} : indexAddrA Tryz.prog 177 (.vsl (l.map rS) cl) (.lit (.int kd n)) = if 0 ≤ n ∧ n < l.length then some (.vptr (l.map rS) n.toNat 0) else none := ixv te177 ti9 rS_len (by decide)
theorem sh177 {l : List Str} {cl : Bool} {h : Int} {ka : IntKind} : sliceA Tryz.prog 177 (.vsl (l.map rS) cl) none (some (.lit (.int ka h))) none = if 0 ≤ h ∧ h ≤ l.length then some (.vsl ((l.take h.toNat).map rS) (clipOf none h l.length cl)) else none := sl_hi te177 ti9 rS_len
theorem so177 {l : List Str} {cl : Bool} {lo : Int} {ka : IntKind} : sliceA Tryz.prog 177 (.vsl (l.map rS) cl) (some (.lit (.int ka lo))) none none = if 0 ≤ lo ∧ lo ≤ l.length then some (.vsl ((l.drop lo.toNat).map rS) cl) else none := sl_lo te177 ti9 rS_len
theorem sb177 {l : List Str} {cl : Bool} {lo h : Int} {ka kb : IntKind} : sliceA Tryz.prog 177 (.vsl (l.map rS) cl) (some (.lit (.int ka lo))) (some (.lit (.int kb h))) none = if 0 ≤ lo ∧ lo ≤ h ∧ h ≤ l.length then some (.vsl (((l.take h.toNat).drop lo.toNat).map rS) (clipOf none h l.length cl)) else none := sl_lohi te177 ti9 rS_len
theorem sm177 {l : List Str} {cl : Bool} {h m : Int} {ka kb : IntKind} : sliceA Tryz.prog 177 (.vsl (l.map rS) cl) none (some (.lit (.int ka h))) (some (.lit (.int kb m))) = if 0 ≤ h ∧ h ≤ m ∧ m ≤ l.length then some (.vsl ((l.take h.toNat).map rS) (decide (m = h))) else none := sl_hm te177 ti9 rS_len
theorem sp177 {b off n : Nat} {cl : Bool} {h m : Int} {ka kb : IntKind} : sliceA Tryz.prog 177 (.sl b 1 off n cl) none (some (.lit (.int ka h))) (some (.lit (.int kb m))) = if 0 ≤ h ∧ h ≤ m ∧ m ≤ n then some (.sl b 1 off h.toNat (decide (m = h))) else none := so_hm te177 ti9 rfl
theorem xs9 {s : Str} {kd : IntKind} {n : Int} : indexA Tryz.prog 9 (S s) (.lit (.int kd n)) = if 0 ≤ n ∧ n < s.length then some (U8 (s.getD n.toNat 0).toNat) else none := ixS ts9
theorem ls9 {s : Str} : lenA Tryz.prog 9 (S s) = some (I s.length) := lenS ts9
theorem sx9 {s : Str} {h : Int} {ka : IntKind} : sliceA Tryz.prog 9 (S s) none (some (.lit (.int ka h))) none = if 0 ≤ h ∧ h ≤ s.length then some (S (s.take h.toNat)) else none := ss_hi ts9
theorem sy9 {s : Str} {lo : Int} {ka : IntKind} : sliceA Tryz.prog 9 (S s) (some (.lit (.int ka lo))) none none = if 0 ≤ lo ∧ lo ≤ s.length then some (S (s.drop lo.toNat)) else none := ss_lo ts9
theorem sz9 {s : Str} {lo h : Int} {ka kb : IntKind} : sliceA Tryz.prog 9 (S s) (some (.lit (.int ka lo))) (some (.lit (.int kb h))) none = if 0 ≤ lo ∧ lo ≤ h ∧ h ≤ s.length then some (S ((s.take h.toNat).drop lo.toNat)) else none := ss_lohi ts9
end Go.Proofs.YtjpfgafdjlkblaaGreat

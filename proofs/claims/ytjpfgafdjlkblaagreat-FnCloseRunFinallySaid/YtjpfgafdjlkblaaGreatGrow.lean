/- The library contract of slices.Grow at this program. No condition. -/
import Derived.Shelf.Spec.SlicesGrow
import Derived.Test.YtjpfgafdjlkblaaGreatProg
namespace Go.Proofs
open Go.Shelf
def Tryz.laysGrowLine_ren : Go.Shelf.Ren := ⟨fun | 4 => 109 | n => n, fun | 22 => 26 | 25 => 41 | 3 => 3 | 4 => 4 | 9 => 9 | 20 => 20 | 0 => 0 | n => n, fun | n => n⟩
theorem Tryz.laysGrowLine : Go.Proofs.Lays8.n4 Tryz.prog Tryz.laysGrowLine_ren := {
  mixed := by kernel_rfl
  f4 := ⟨Tryz.f109.name, by decide, Tryz.func109.trans (congrArg some (by kernel_rfl))⟩
  t0 := Tryz.underlying0
  a0 := Tryz.isAgg0
  z0 := Tryz.sizeOf0
  v0 := Tryz.zeroValue0
  t3 := Tryz.underlying3
  a3 := Tryz.isAgg3
  z3 := Tryz.sizeOf3
  v3 := Tryz.zeroValue3
  t4 := Tryz.underlying4
  a4 := Tryz.isAgg4
  z4 := Tryz.sizeOf4
  v4 := Tryz.zeroValue4
  t9 := Tryz.underlying9
  a9 := Tryz.isAgg9
  z9 := Tryz.sizeOf9
  v9 := Tryz.zeroValue9
  t20 := Tryz.underlying20
  a20 := Tryz.isAgg20
  z20 := Tryz.sizeOf20
  v20 := Tryz.zeroValue20
  t22 := Tryz.underlying26
  a22 := Tryz.isAgg26
  z22 := Tryz.sizeOf26
  v22 := Tryz.zeroValue26 }
theorem Tryz.growRoomLine (base : Option Addr) (l c n : Nat) (w : World) (h1 : l ≤ c) (h2 : c ≤ 9223372036854775807) (h3 : n ≤ 9223372036854775807) (h4 : l + n ≤ c) :
    Calls Tryz.prog 109 #[.slice base l c, .int .i64 n] w fun e w' => e = .returned (.slice base l c) ∧ w' = w := Any8.slices_Grow_room Tryz.laysGrowLine base l c n w h1 h2 h3 h4
def Tryz.laysGrowInt_ren : Go.Shelf.Ren := ⟨fun | 4 => 110 | n => n, fun | 22 => 29 | 25 => 3 | 3 => 3 | 4 => 4 | 9 => 9 | 20 => 20 | 0 => 0 | n => n, fun | n => n⟩
theorem Tryz.laysGrowInt : Go.Proofs.Lays8.n4 Tryz.prog Tryz.laysGrowInt_ren := {
  mixed := by kernel_rfl
  f4 := ⟨Tryz.f110.name, by decide, Tryz.func110.trans (congrArg some (by kernel_rfl))⟩
  t0 := Tryz.underlying0
  a0 := Tryz.isAgg0
  z0 := Tryz.sizeOf0
  v0 := Tryz.zeroValue0
  t3 := Tryz.underlying3
  a3 := Tryz.isAgg3
  z3 := Tryz.sizeOf3
  v3 := Tryz.zeroValue3
  t4 := Tryz.underlying4
  a4 := Tryz.isAgg4
  z4 := Tryz.sizeOf4
  v4 := Tryz.zeroValue4
  t9 := Tryz.underlying9
  a9 := Tryz.isAgg9
  z9 := Tryz.sizeOf9
  v9 := Tryz.zeroValue9
  t20 := Tryz.underlying20
  a20 := Tryz.isAgg20
  z20 := Tryz.sizeOf20
  v20 := Tryz.zeroValue20
  t22 := Tryz.underlying29
  a22 := Tryz.isAgg29
  z22 := Tryz.sizeOf29
  v22 := Tryz.zeroValue29 }
theorem Tryz.growRoomInt (base : Option Addr) (l c n : Nat) (w : World) (h1 : l ≤ c) (h2 : c ≤ 9223372036854775807) (h3 : n ≤ 9223372036854775807) (h4 : l + n ≤ c) :
    Calls Tryz.prog 110 #[.slice base l c, .int .i64 n] w fun e w' => e = .returned (.slice base l c) ∧ w' = w := Any8.slices_Grow_room Tryz.laysGrowInt base l c n w h1 h2 h3 h4
end Go.Proofs

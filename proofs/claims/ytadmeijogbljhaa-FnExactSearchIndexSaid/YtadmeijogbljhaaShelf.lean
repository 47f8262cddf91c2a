/- slices.Sort at []int: the shelf's contract, laid by the kit's tools. -/
import Derived.Shelf.Sort.Plain
import Derived.Shelf.Slices.In.SortNone
import Derived.Test.YtadmeijogbljhaaProg
namespace Go.Proofs
open Go.Shelf
def Ytadmeijogbljhaa.lays189_ren : Go.Shelf.Ren := ⟨fun | 189 => 156 | 125 => 193 | 257 => 192 | 128 => 217 | 129 => 218 | 294 => 208 | 295 => 209 | 296 => 210 | 297 => 211 | 298 => 212 | 299 => 213 | 216 => 214 | 300 => 215 | 301 => 216 | 328 => 225 | 329 => 226 | 330 => 227 | 331 => 228 | 332 => 229 | 215 => 185 | 343 => 233 | n => n, fun | 28 => 52 | 3 => 3 | 46 => 214 | 0 => 0 | 51 => 235 | 53 => 237 | 4 => 4 | 183 => 227 | 182 => 226 | 131 => 232 | 5 => 5 | 9 => 9 | 218 => 243 | 222 => 247 | 228 => 251 | 229 => 249 | n => n, fun | n => n⟩
theorem Ytadmeijogbljhaa.lays189 : Go.Proofs.Lays.n189 Try.prog Ytadmeijogbljhaa.lays189_ren := {
  mixed := by kernel_rfl
  f125 := Try.func193.trans (congrArg some (by kernel_rfl))
  f128 := Try.func217.trans (congrArg some (by kernel_rfl))
  f129 := Try.func218.trans (congrArg some (by kernel_rfl))
  f189 := Try.func156.trans (congrArg some (by kernel_rfl))
  f215 := Try.func185.trans (congrArg some (by kernel_rfl))
  f216 := Try.func214.trans (congrArg some (by kernel_rfl))
  f257 := Try.func192.trans (congrArg some (by kernel_rfl))
  f294 := Try.func208.trans (congrArg some (by kernel_rfl))
  f295 := Try.func209.trans (congrArg some (by kernel_rfl))
  f296 := Try.func210.trans (congrArg some (by kernel_rfl))
  f297 := Try.func211.trans (congrArg some (by kernel_rfl))
  f298 := Try.func212.trans (congrArg some (by kernel_rfl))
  f299 := Try.func213.trans (congrArg some (by kernel_rfl))
  f300 := Try.func215.trans (congrArg some (by kernel_rfl))
  f301 := Try.func216.trans (congrArg some (by kernel_rfl))
  f328 := Try.func225.trans (congrArg some (by kernel_rfl))
  f329 := Try.func226.trans (congrArg some (by kernel_rfl))
  f330 := Try.func227.trans (congrArg some (by kernel_rfl))
  f331 := Try.func228.trans (congrArg some (by kernel_rfl))
  f332 := Try.func229.trans (congrArg some (by kernel_rfl))
  f343 := Try.func233.trans (congrArg some (by kernel_rfl))
  t0 := Try.underlying0
  a0 := Try.isAgg0
  z0 := Try.sizeOf0
  v0 := Try.zeroValue0
  t3 := Try.underlying3
  a3 := Try.isAgg3
  z3 := Try.sizeOf3
  v3 := Try.zeroValue3
  t4 := Try.underlying4
  a4 := Try.isAgg4
  z4 := Try.sizeOf4
  v4 := Try.zeroValue4
  t5 := Try.underlying5
  a5 := Try.isAgg5
  z5 := Try.sizeOf5
  v5 := Try.zeroValue5
  t9 := Try.underlying9
  a9 := Try.isAgg9
  z9 := Try.sizeOf9
  v9 := Try.zeroValue9
  t28 := Try.underlying52
  a28 := Try.isAgg52
  z28 := Try.sizeOf52
  v28 := Try.zeroValue52
  t46 := Try.underlying214
  a46 := Try.isAgg214
  z46 := Try.sizeOf214
  v46 := Try.zeroValue214
  t51 := Try.underlying235
  a51 := Try.isAgg235
  z51 := Try.sizeOf235
  v51 := Try.zeroValue235
  t53 := Try.underlying237
  a53 := Try.isAgg237
  z53 := Try.sizeOf237
  v53 := Try.zeroValue237
  t131 := Try.underlying232
  a131 := Try.isAgg232
  z131 := Try.sizeOf232
  v131 := Try.zeroValue232
  t182 := Try.underlying226
  a182 := Try.isAgg226
  z182 := Try.sizeOf226
  v182 := Try.zeroValue226
  t183 := Try.underlying227
  a183 := Try.isAgg227
  z183 := Try.sizeOf227
  v183 := Try.zeroValue227
  t218 := Try.underlying243
  a218 := Try.isAgg243
  z218 := Try.sizeOf243
  v218 := Try.zeroValue243
  t222 := Try.underlying247
  a222 := Try.isAgg247
  z222 := Try.sizeOf247
  v222 := Try.zeroValue247
  t228 := Try.underlying251
  a228 := Try.isAgg251
  z228 := Try.sizeOf251
  v228 := Try.zeroValue251
  t229 := Try.underlying249
  a229 := Try.isAgg249
  z229 := Try.sizeOf249
  v229 := Try.zeroValue249 }
open Go.Sort Go.RowKit in
theorem Ytadmeijogbljhaa.slices_Sort_int (blk off cap : Nat) (zs : List Int) (w : World) (hH : Holds (Value.int .i64) w blk off zs.toArray) (hblk : blk < w.heap.size) (hsz : zs.length < 4611686018427387904) :
    Calls Try.prog 156 #[.slice (some ⟨blk, off, none⟩) zs.length cap] w fun e w' =>
      e = .returned (.tuple #[]) ∧ ∃ n os, w' = grow (putRow (Value.int .i64) (Sort.ahead w n) blk off (zs.mergeSort fun x y => decide (x ≤ y)).toArray) os := Any.slices_Sort_int Ytadmeijogbljhaa.lays189 blk off cap zs w hH hblk hsz
open Go.RowKit Go.Sort in
theorem Ytadmeijogbljhaa.slices_Sort_int_none (p : Option Addr) (cap : Nat) (w : World) :
    Calls Try.prog 156 #[.slice p 0 cap] w fun e w' => e = .returned (.tuple #[]) ∧ w' = w := Any.slices_Sort_int_none Ytadmeijogbljhaa.lays189 p cap w
end Go.Proofs

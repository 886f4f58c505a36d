/-
  Words, plain lemmas and walks, merged: Shelf, Gn, Gt, Hp, Pa, Na, Nb, Nd, Ne.
-/
import Derived.Shelf.Strings.Builder1
import Derived.Shelf.Small.Bits
import Derived.Shelf.Small.Strs
import Derived.Shelf.Small.Wraps
import Derived.Shelf.Strings.BuilderF
import Derived.Shelf.Strings.BuilderK
import Derived.Shelf.Strconv.Itoa0
import Derived.Shelf.Strconv.Itoa1
import Derived.Shelf.LaysM
import Derived.Shelf.Strconv.Itoa2
import Derived.Shelf.Strconv.Itoa3
import Derived.Shelf.Strings.Search1
import Derived.Shelf.Sort.Plain
import Derived.Shelf.Bits.Mul64
import Derived.Shelf.Slices.Turned
import Derived.Shelf.Slices.Reverse
import Derived.Shelf.Slices.Equal
import Derived.Ground.Names2Prog
import Derived.Shelf.Slices.Clone
import Derived.Shelf.Slices.CompactI
import Derived.Shelf.Slices.SearchI
import Derived.Shelf.Slices.Cells
import Derived.Shelf.Slices.In.SortNone
import Derived.Shelf.Slices.Empties
import Derived.Shelf.Slices.Empties2
import Derived.Ground.SlgnProg
import Derived.Shelf.SlicesE.Index
import Derived.Shelf.SlicesE.Reverse
import Derived.Shelf.SlicesE.Equal
import Derived.Shelf.SlicesE.Compact
import Derived.Shelf.SlicesE.Clone
import Derived.Ground.SlgfProg
import Derived.Shelf.SlicesE.IndexFunc
import Derived.Shelf.SlicesQ.IndexFunc
import Derived.Test.YtocbhlohcikapaaGreatDoorProg
import Derived.Test.YtocbhlohcikapaaGreatDoorZub
import Derived.Test.YtocbhlohcikapaaGreatDoorZua
import Derived.Laws.CopyOwn
import Derived.Deep.RegionLaw
import Derived.Deep.Quiet
set_option linter.unusedVariables false
set_option linter.unusedSimpArgs false
namespace Go.Proofs
open Go.Shelf
def Tryz.lays169_ren : Go.Shelf.Ren := ⟨fun | 169 => 203 | n => n, fun | 70 => 209 | 9 => 9 | 0 => 0 | 72 => 211 | 37 => 56 | 127 => 236 | 3 => 3 | 5 => 5 | n => n, fun | n => n⟩
theorem Tryz.lays169 : Go.Proofs.Lays.n169 Tryz.prog Tryz.lays169_ren := {
 mixed := by kernel_rfl
 f169 := Tryz.func203.trans (congrArg some (by kernel_rfl))
 t0 := Tryz.underlying0
 a0 := Tryz.isAgg0
 z0 := Tryz.sizeOf0
 v0 := Tryz.zeroValue0
 t3 := Tryz.underlying3
 a3 := Tryz.isAgg3
 z3 := Tryz.sizeOf3
 v3 := Tryz.zeroValue3
 t9 := Tryz.underlying9
 a9 := Tryz.isAgg9
 z9 := Tryz.sizeOf9
 v9 := Tryz.zeroValue9
 t37 := Tryz.underlying56
 a37 := Tryz.isAgg56
 z37 := Tryz.sizeOf56
 v37 := Tryz.zeroValue56
 t70 := Tryz.underlying209
 a70 := Tryz.isAgg209
 z70 := Tryz.sizeOf209
 v70 := Tryz.zeroValue209
 t72 := Tryz.underlying211
 a72 := Tryz.isAgg211
 z72 := Tryz.sizeOf211
 v72 := Tryz.zeroValue211
 t127 := Tryz.underlying236
 a127 := Tryz.isAgg236
 z127 := Tryz.sizeOf236
 v127 := Tryz.zeroValue236 }
theorem Tryz.Builder_Extra_169 : Builder.Extra Tryz.prog Tryz.lays169_ren := {
 sizeBuilder := by kernel_rfl
 liesBuilder := by kernel_rfl
 t5 := Tryz.underlying5
 a5 := Tryz.isAgg5
 z5 := Tryz.sizeOf5
 v5 := Tryz.zeroValue5
 infoByte := by kernel_rfl
 cellsByte := by kernel_rfl
 sizeByte := by kernel_rfl
 neB5 := by decide }
open Go.RowKit in
theorem Tryz.Builder_String_any_f (B b : Nat) (l : List UInt8) (w : World) (h : Lib.IsBuilderF 211 5 B b (Lib.byteCells l) w) (hBw : B ≤ w.heap.size) :
  Calls Tryz.prog 203 #[.pointer (some ⟨b, 0, none⟩)] w fun e w' => e = .returned (.string ⟨l.toArray⟩) ∧ (Lib.IsBuilderF 211 5 B b (Lib.byteCells l) w' ∧ Below B w w') := Any.Builder_String_any_f Tryz.lays169 Tryz.Builder_Extra_169 B b l w h hBw
def Tryz.lays171_ren : Go.Shelf.Ren := ⟨fun | 171 => 202 | 243 => 228 | 246 => 248 | 283 => 254 | 284 => 255 | 285 => 256 | 286 => 257 | 129 => 195 | 317 => 259 | 318 => 260 | 319 => 261 | 320 => 262 | 337 => 263 | 338 => 264 | n => n, fun | 3 => 3 | 9 => 9 | 2 => 2 | 4 => 4 | 171 => 255 | 0 => 0 | 53 => 205 | 37 => 56 | 5 => 5 | 173 => 257 | 212 => 262 | 51 => 203 | 20 => 20 | 213 => 263 | 46 => 158 | 232 => 264 | 233 => 265 | n => n, fun | 17 => 1 | 18 => 2 | 19 => 3 | n => n⟩
theorem Tryz.lays171 : Go.Proofs.Lays.n171 Tryz.prog Tryz.lays171_ren := {
 mixed := by kernel_rfl
 f129 := Tryz.func195.trans (congrArg some (by kernel_rfl))
 f171 := Tryz.func202.trans (congrArg some (by kernel_rfl))
 f243 := Tryz.func228.trans (congrArg some (by kernel_rfl))
 f246 := Tryz.func248.trans (congrArg some (by kernel_rfl))
 f283 := Tryz.func254.trans (congrArg some (by kernel_rfl))
 f284 := Tryz.func255.trans (congrArg some (by kernel_rfl))
 f285 := Tryz.func256.trans (congrArg some (by kernel_rfl))
 f286 := Tryz.func257.trans (congrArg some (by kernel_rfl))
 f317 := Tryz.func259.trans (congrArg some (by kernel_rfl))
 f318 := Tryz.func260.trans (congrArg some (by kernel_rfl))
 f319 := Tryz.func261.trans (congrArg some (by kernel_rfl))
 f320 := Tryz.func262.trans (congrArg some (by kernel_rfl))
 f337 := Tryz.func263.trans (congrArg some (by kernel_rfl))
 f338 := Tryz.func264.trans (congrArg some (by kernel_rfl))
 t0 := Tryz.underlying0
 a0 := Tryz.isAgg0
 z0 := Tryz.sizeOf0
 v0 := Tryz.zeroValue0
 t2 := Tryz.underlying2
 a2 := Tryz.isAgg2
 z2 := Tryz.sizeOf2
 v2 := Tryz.zeroValue2
 t3 := Tryz.underlying3
 a3 := Tryz.isAgg3
 z3 := Tryz.sizeOf3
 v3 := Tryz.zeroValue3
 t4 := Tryz.underlying4
 a4 := Tryz.isAgg4
 z4 := Tryz.sizeOf4
 v4 := Tryz.zeroValue4
 t5 := Tryz.underlying5
 a5 := Tryz.isAgg5
 z5 := Tryz.sizeOf5
 v5 := Tryz.zeroValue5
 t9 := Tryz.underlying9
 a9 := Tryz.isAgg9
 z9 := Tryz.sizeOf9
 v9 := Tryz.zeroValue9
 t20 := Tryz.underlying20
 a20 := Tryz.isAgg20
 z20 := Tryz.sizeOf20
 v20 := Tryz.zeroValue20
 t37 := Tryz.underlying56
 a37 := Tryz.isAgg56
 z37 := Tryz.sizeOf56
 v37 := Tryz.zeroValue56
 t46 := Tryz.underlying158
 a46 := Tryz.isAgg158
 z46 := Tryz.sizeOf158
 v46 := Tryz.zeroValue158
 t51 := Tryz.underlying203
 a51 := Tryz.isAgg203
 z51 := Tryz.sizeOf203
 v51 := Tryz.zeroValue203
 t53 := Tryz.underlying205
 a53 := Tryz.isAgg205
 z53 := Tryz.sizeOf205
 v53 := Tryz.zeroValue205
 t171 := Tryz.underlying255
 a171 := Tryz.isAgg255
 z171 := Tryz.sizeOf255
 v171 := Tryz.zeroValue255
 t173 := Tryz.underlying257
 a173 := Tryz.isAgg257
 z173 := Tryz.sizeOf257
 v173 := Tryz.zeroValue257
 t212 := Tryz.underlying262
 a212 := Tryz.isAgg262
 z212 := Tryz.sizeOf262
 v212 := Tryz.zeroValue262
 t213 := Tryz.underlying263
 a213 := Tryz.isAgg263
 z213 := Tryz.sizeOf263
 t232 := Tryz.underlying264
 a232 := Tryz.isAgg264
 z232 := Tryz.sizeOf264
 v232 := Tryz.zeroValue264
 t233 := Tryz.underlying265
 a233 := Tryz.isAgg265
 z233 := Tryz.sizeOf265
 v233 := Tryz.zeroValue265
 g17 := by kernel_rfl
 g18 := by kernel_rfl
 g19 := by kernel_rfl }
open Go.RowKit Go.Sort Go.Lib in
theorem Tryz.strconv_Itoa_small (i : Nat) (hi : i < 100) (w : World) :
  Calls Tryz.prog 202 #[.int .i64 i] w fun e w' => e = .returned (.string ⟨(Lib.decDigits i).toArray⟩) ∧ w' = w := Any.strconv_Itoa_small Tryz.lays171 i hi w
def Tryz.lays189_ren : Go.Shelf.Ren := ⟨fun | 189 => 102 | 125 => 155 | 257 => 154 | 128 => 194 | 129 => 195 | 294 => 185 | 295 => 186 | 296 => 187 | 297 => 188 | 298 => 189 | 299 => 190 | 216 => 191 | 300 => 192 | 301 => 193 | 328 => 219 | 329 => 220 | 330 => 221 | 331 => 222 | 332 => 223 | 215 => 184 | 343 => 236 | n => n, fun | 28 => 30 | 3 => 3 | 46 => 158 | 0 => 0 | 51 => 203 | 53 => 205 | 4 => 4 | 183 => 197 | 182 => 196 | 131 => 86 | 5 => 5 | 9 => 9 | 218 => 228 | 222 => 232 | 228 => 240 | 229 => 241 | n => n, fun | n => n⟩
theorem Tryz.lays189 : Go.Proofs.Lays.n189 Tryz.prog Tryz.lays189_ren := {
 mixed := by kernel_rfl
 f125 := Tryz.func155.trans (congrArg some (by kernel_rfl))
 f128 := Tryz.func194.trans (congrArg some (by kernel_rfl))
 f129 := Tryz.func195.trans (congrArg some (by kernel_rfl))
 f189 := Tryz.func102.trans (congrArg some (by kernel_rfl))
 f215 := Tryz.func184.trans (congrArg some (by kernel_rfl))
 f216 := Tryz.func191.trans (congrArg some (by kernel_rfl))
 f257 := Tryz.func154.trans (congrArg some (by kernel_rfl))
 f294 := Tryz.func185.trans (congrArg some (by kernel_rfl))
 f295 := Tryz.func186.trans (congrArg some (by kernel_rfl))
 f296 := Tryz.func187.trans (congrArg some (by kernel_rfl))
 f297 := Tryz.func188.trans (congrArg some (by kernel_rfl))
 f298 := Tryz.func189.trans (congrArg some (by kernel_rfl))
 f299 := Tryz.func190.trans (congrArg some (by kernel_rfl))
 f300 := Tryz.func192.trans (congrArg some (by kernel_rfl))
 f301 := Tryz.func193.trans (congrArg some (by kernel_rfl))
 f328 := Tryz.func219.trans (congrArg some (by kernel_rfl))
 f329 := Tryz.func220.trans (congrArg some (by kernel_rfl))
 f330 := Tryz.func221.trans (congrArg some (by kernel_rfl))
 f331 := Tryz.func222.trans (congrArg some (by kernel_rfl))
 f332 := Tryz.func223.trans (congrArg some (by kernel_rfl))
 f343 := Tryz.func236.trans (congrArg some (by kernel_rfl))
 t0 := Tryz.underlying0
 a0 := Tryz.isAgg0
 z0 := Tryz.sizeOf0
 v0 := Tryz.zeroValue0
 t3 := Tryz.underlying3
 a3 := Tryz.isAgg3
 z3 := Tryz.sizeOf3
 v3 := Tryz.zeroValue3
 t4 := Tryz.underlying4
 a4 := Tryz.isAgg4
 z4 := Tryz.sizeOf4
 v4 := Tryz.zeroValue4
 t5 := Tryz.underlying5
 a5 := Tryz.isAgg5
 z5 := Tryz.sizeOf5
 v5 := Tryz.zeroValue5
 t9 := Tryz.underlying9
 a9 := Tryz.isAgg9
 z9 := Tryz.sizeOf9
 v9 := Tryz.zeroValue9
 t28 := Tryz.underlying30
 a28 := Tryz.isAgg30
 z28 := Tryz.sizeOf30
 v28 := Tryz.zeroValue30
 t46 := Tryz.underlying158
 a46 := Tryz.isAgg158
 z46 := Tryz.sizeOf158
 v46 := Tryz.zeroValue158
 t51 := Tryz.underlying203
 a51 := Tryz.isAgg203
 z51 := Tryz.sizeOf203
 v51 := Tryz.zeroValue203
 t53 := Tryz.underlying205
 a53 := Tryz.isAgg205
 z53 := Tryz.sizeOf205
 v53 := Tryz.zeroValue205
 t131 := Tryz.underlying86
 a131 := Tryz.isAgg86
 z131 := Tryz.sizeOf86
 v131 := Tryz.zeroValue86
 t182 := Tryz.underlying196
 a182 := Tryz.isAgg196
 z182 := Tryz.sizeOf196
 v182 := Tryz.zeroValue196
 t183 := Tryz.underlying197
 a183 := Tryz.isAgg197
 z183 := Tryz.sizeOf197
 v183 := Tryz.zeroValue197
 t218 := Tryz.underlying228
 a218 := Tryz.isAgg228
 z218 := Tryz.sizeOf228
 v218 := Tryz.zeroValue228
 t222 := Tryz.underlying232
 a222 := Tryz.isAgg232
 z222 := Tryz.sizeOf232
 v222 := Tryz.zeroValue232
 t228 := Tryz.underlying240
 a228 := Tryz.isAgg240
 z228 := Tryz.sizeOf240
 v228 := Tryz.zeroValue240
 t229 := Tryz.underlying241
 a229 := Tryz.isAgg241
 z229 := Tryz.sizeOf241
 v229 := Tryz.zeroValue241 }
open Go.Sort Go.RowKit in
theorem Tryz.slices_Sort_int (blk off cap : Nat) (zs : List Int) (w : World) (hH : Holds (Value.int .i64) w blk off zs.toArray) (hblk : blk < w.heap.size) (hsz : zs.length < 4611686018427387904) :
  Calls Tryz.prog 102 #[.slice (some ⟨blk, off, none⟩) zs.length cap] w fun e w' =>
   e = .returned (.tuple #[]) ∧ ∃ n os, w' = grow (putRow (Value.int .i64) (Sort.ahead w n) blk off (zs.mergeSort fun x y => decide (x ≤ y)).toArray) os := Any.slices_Sort_int Tryz.lays189 blk off cap zs w hH hblk hsz
def Tryz.lays212_ren : Go.Shelf.Ren := ⟨fun | 212 => 174 | 263 => 207 | 264 => 208 | n => n, fun | 46 => 158 | 51 => 203 | 146 => 218 | 53 => 205 | 148 => 220 | n => n, fun | n => n⟩
theorem Tryz.lays212 : Go.Proofs.Lays.n212 Tryz.prog Tryz.lays212_ren := {
 mixed := by kernel_rfl
 f212 := Tryz.func174.trans (congrArg some (by kernel_rfl))
 f263 := Tryz.func207.trans (congrArg some (by kernel_rfl))
 f264 := Tryz.func208.trans (congrArg some (by kernel_rfl))
 t46 := Tryz.underlying158
 a46 := Tryz.isAgg158
 z46 := Tryz.sizeOf158
 v46 := Tryz.zeroValue158
 t51 := Tryz.underlying203
 a51 := Tryz.isAgg203
 z51 := Tryz.sizeOf203
 v51 := Tryz.zeroValue203
 t53 := Tryz.underlying205
 a53 := Tryz.isAgg205
 z53 := Tryz.sizeOf205
 v53 := Tryz.zeroValue205
 t146 := Tryz.underlying218
 a146 := Tryz.isAgg218
 z146 := Tryz.sizeOf218
 v146 := Tryz.zeroValue218
 t148 := Tryz.underlying220
 a148 := Tryz.isAgg220
 z148 := Tryz.sizeOf220
 v148 := Tryz.zeroValue220 }
open Go.RowKit Go.Lib in
theorem Tryz.bits_Mul (x y : Nat) (hx : x < 18446744073709551616) (hy : y < 18446744073709551616) (w : World) :
  Calls Tryz.prog 174 #[.int .u64 x, .int .u64 y] w fun e w' => e = .returned (.tuple #[.int .u64 ((x * y / 18446744073709551616 : Nat) : Int), .int .u64 ((x * y % 18446744073709551616 : Nat) : Int)]) ∧ w' = w := Any.bits_Mul Tryz.lays212 x y hx hy w
def Tryz.lays108_ren : Go.Shelf.Ren := ⟨fun | 108 => 57 | n => n, fun | 28 => 30 | 3 => 3 | 0 => 0 | 4 => 4 | n => n, fun | n => n⟩
theorem Tryz.lays108 : Go.Proofs.Lays.n108 Tryz.prog Tryz.lays108_ren := {
 mixed := by kernel_rfl
 f108 := Tryz.func57.trans (congrArg some (by kernel_rfl))
 t0 := Tryz.underlying0
 a0 := Tryz.isAgg0
 z0 := Tryz.sizeOf0
 v0 := Tryz.zeroValue0
 t3 := Tryz.underlying3
 a3 := Tryz.isAgg3
 z3 := Tryz.sizeOf3
 v3 := Tryz.zeroValue3
 t4 := Tryz.underlying4
 a4 := Tryz.isAgg4
 z4 := Tryz.sizeOf4
 v4 := Tryz.zeroValue4
 t28 := Tryz.underlying30
 a28 := Tryz.isAgg30
 z28 := Tryz.sizeOf30
 v28 := Tryz.zeroValue30 }
open Go.Lib in
theorem Tryz.slices_Index_int (b off n c : Nat) (zs : List Int) (x : Int) (w : World) (hz : n ≤ zs.length) (hbig : n ≤ 9223372036854775807) (hc : ∀ j, j < zs.length → w.cell? ⟨b, off + j, none⟩ = some (.int .i64 (zs.getD j 0))) :
  Calls Tryz.prog 57 #[.slice (some ⟨b, off, none⟩) n c, .int .i64 x] w fun e w' => e = .returned (.int .i64 (Lib.idxOf (zs.take n) x)) ∧ w' = w := Any.slices_Index_int Tryz.lays108 b off n c zs x w hz hbig hc
def Tryz.lays107_ren : Go.Shelf.Ren := ⟨fun | 107 => 56 | 108 => 57 | n => n, fun | 28 => 30 | 3 => 3 | 4 => 4 | 0 => 0 | n => n, fun | n => n⟩
theorem Tryz.lays107 : Go.Proofs.Lays.n107 Tryz.prog Tryz.lays107_ren := {
 mixed := by kernel_rfl
 f107 := Tryz.func56.trans (congrArg some (by kernel_rfl))
 f108 := Tryz.func57.trans (congrArg some (by kernel_rfl))
 t0 := Tryz.underlying0
 a0 := Tryz.isAgg0
 z0 := Tryz.sizeOf0
 v0 := Tryz.zeroValue0
 t3 := Tryz.underlying3
 a3 := Tryz.isAgg3
 z3 := Tryz.sizeOf3
 v3 := Tryz.zeroValue3
 t4 := Tryz.underlying4
 a4 := Tryz.isAgg4
 z4 := Tryz.sizeOf4
 v4 := Tryz.zeroValue4
 t28 := Tryz.underlying30
 a28 := Tryz.isAgg30
 z28 := Tryz.sizeOf30
 v28 := Tryz.zeroValue30 }
open Go.Lib in
theorem Tryz.slices_Contains_int (b off n c : Nat) (zs : List Int) (x : Int) (w : World) (hz : n ≤ zs.length) (hbig : n ≤ 9223372036854775807) (hc : ∀ j, j < zs.length → w.cell? ⟨b, off + j, none⟩ = some (.int .i64 (zs.getD j 0))) :
  Calls Tryz.prog 56 #[.slice (some ⟨b, off, none⟩) n c, .int .i64 x] w fun e w' => e = .returned (.bool ((zs.take n).contains x)) ∧ w' = w := Any.slices_Contains_int Tryz.lays107 b off n c zs x w hz hbig hc
open Go.Lib in
theorem Tryz.slices_Contains_int_empty (a : Option Addr) (c : Nat) (x : Int) (w : World) :
  Calls Tryz.prog 56 #[.slice a 0 c, .int .i64 x] w fun e w' => e = .returned (.bool false) ∧ w' = w := Any.slices_Contains_int_empty Tryz.lays107 a c x w
def Tryz.lays111_ren : Go.Shelf.Ren := ⟨fun | 111 => 20 | n => n, fun | 28 => 30 | 3 => 3 | 4 => 4 | 0 => 0 | n => n, fun | n => n⟩
theorem Tryz.lays111 : Go.Proofs.Lays.n111 Tryz.prog Tryz.lays111_ren := {
 mixed := by kernel_rfl
 f111 := Tryz.func20.trans (congrArg some (by kernel_rfl))
 t0 := Tryz.underlying0
 a0 := Tryz.isAgg0
 z0 := Tryz.sizeOf0
 v0 := Tryz.zeroValue0
 t3 := Tryz.underlying3
 a3 := Tryz.isAgg3
 z3 := Tryz.sizeOf3
 v3 := Tryz.zeroValue3
 t4 := Tryz.underlying4
 a4 := Tryz.isAgg4
 z4 := Tryz.sizeOf4
 v4 := Tryz.zeroValue4
 t28 := Tryz.underlying30
 a28 := Tryz.isAgg30
 z28 := Tryz.sizeOf30
 v28 := Tryz.zeroValue30 }
open Go.RowKit Go.Lib in
theorem Tryz.slices_Equal_int (b1 o1 n c b2 o2 m d : Nat) (xs ys : List Int) (w : World) (hx : n ≤ xs.length) (hy : m ≤ ys.length) (hbig : n ≤ 9223372036854775807) (hbig2 : m ≤ 9223372036854775807) (hc1 : ∀ j, j < xs.length → w.cell? ⟨b1, o1 + j, none⟩ = some (.int .i64 (xs.getD j 0))) (hc2 : ∀ j, j < ys.length → w.cell? ⟨b2, o2 + j, none⟩ = some (.int .i64 (ys.getD j 0))) :
  Calls Tryz.prog 20 #[.slice (some ⟨b1, o1, none⟩) n c, .slice (some ⟨b2, o2, none⟩) m d] w fun e w' => e = .returned (.bool (xs.take n == ys.take m)) ∧ ∃ q, w' = w.drewN q := Any.slices_Equal_int Tryz.lays111 b1 o1 n c b2 o2 m d xs ys w hx hy hbig hbig2 hc1 hc2
open Go.RowKit Go.Lib in
theorem Tryz.slices_Equal_int_empty (a1 a2 : Option Addr) (c m d : Nat) (w : World) (hbig2 : m ≤ 9223372036854775807) :
  Calls Tryz.prog 20 #[.slice a1 0 c, .slice a2 m d] w fun e w' => e = .returned (.bool (decide (m = 0))) ∧ w' = w := Any.slices_Equal_int_empty Tryz.lays111 a1 a2 c m d w hbig2
def Tryz.laysNm215_ren : Go.Shelf.Ren := ⟨fun | 15 => 91 | n => n, fun | 22 => 30 | 3 => 3 | 4 => 4 | n => n, fun | n => n⟩
theorem Tryz.laysNm215 : Go.Proofs.Lays2.n15 Tryz.prog Tryz.laysNm215_ren := {
 mixed := by kernel_rfl
 f15 := Tryz.func91.trans (congrArg some (by kernel_rfl))
 t3 := Tryz.underlying3
 a3 := Tryz.isAgg3
 z3 := Tryz.sizeOf3
 v3 := Tryz.zeroValue3
 t4 := Tryz.underlying4
 a4 := Tryz.isAgg4
 z4 := Tryz.sizeOf4
 v4 := Tryz.zeroValue4
 t22 := Tryz.underlying30
 a22 := Tryz.isAgg30
 z22 := Tryz.sizeOf30
 v22 := Tryz.zeroValue30
 i3 := by kernel_rfl }
open Go.RowKit Go.Lib in
theorem Tryz.slices_Clone_int (b off n c : Nat) (zs : List Int) (w : World) (hz : n ≤ zs.length) (hbig : n * 8 ≤ 140737488355328) (hc : ∀ j, j < zs.length → w.cell? ⟨b, off + j, none⟩ = some (.int .i64 (zs.getD j 0))) :
  Calls Tryz.prog 91 #[.slice (some ⟨b, off, none⟩) n c] w fun e w' => ∃ v', e = .returned v' ∧ w'.ownsRow w.heap.size 3 1 v' n ((zs.take n).map (Value.int .i64)) ∧ v' ≠ .slice none 0 0 ∧ Below w.heap.size w w' := Any.slices_Clone_int Tryz.laysNm215 b off n c zs w hz hbig hc
def Tryz.laysNm220_ren : Go.Shelf.Ren := ⟨fun | 20 => 103 | n => n, fun | 22 => 30 | 3 => 3 | 4 => 4 | 0 => 0 | n => n, fun | n => n⟩
theorem Tryz.laysNm220 : Go.Proofs.Lays2.n20 Tryz.prog Tryz.laysNm220_ren := {
 mixed := by kernel_rfl
 f20 := Tryz.func103.trans (congrArg some (by kernel_rfl))
 t0 := Tryz.underlying0
 a0 := Tryz.isAgg0
 z0 := Tryz.sizeOf0
 v0 := Tryz.zeroValue0
 t3 := Tryz.underlying3
 a3 := Tryz.isAgg3
 z3 := Tryz.sizeOf3
 v3 := Tryz.zeroValue3
 t4 := Tryz.underlying4
 a4 := Tryz.isAgg4
 z4 := Tryz.sizeOf4
 v4 := Tryz.zeroValue4
 t22 := Tryz.underlying30
 a22 := Tryz.isAgg30
 z22 := Tryz.sizeOf30
 v22 := Tryz.zeroValue30
 i3 := by kernel_rfl }
open Go.RowKit Go.Lib Go.Sort in
theorem Tryz.slices_Compact_int (blk off cap : Nat) (zs : List Int) (w : World) (hH : Holds (Value.int .i64) w blk off zs.toArray) (hsz : zs.length ≤ 9223372036854775807) (hcap : zs.length ≤ cap) :
  Calls Tryz.prog 103 #[.slice (some ⟨blk, off, none⟩) zs.length cap] w fun e w' => e = .returned (.slice (some ⟨blk, off, none⟩) (Lib.compact zs).length cap) ∧ ∃ q, w' = putRow (Value.int .i64) (Sort.ahead w q) blk off (Lib.compact zs ++ List.replicate (zs.length - (Lib.compact zs).length) 0).toArray := Any.slices_Compact_int Tryz.laysNm220 blk off cap zs w hH hsz hcap
open Go.RowKit Go.Lib Go.Sort in
theorem Tryz.slices_Compact_int_empty (a : Option Addr) (cap : Nat) (w : World) :
  Calls Tryz.prog 103 #[.slice a 0 cap] w fun e w' => e = .returned (.slice a 0 cap) ∧ w' = w := Any.slices_Compact_int_empty Tryz.laysNm220 a cap w
def Tryz.laysNm225_ren : Go.Shelf.Ren := ⟨fun | 25 => 173 | 31 => 191 | 32 => 206 | 37 => 184 | n => n, fun | 22 => 30 | 3 => 3 | 4 => 4 | 40 => 158 | 0 => 0 | n => n, fun | n => n⟩
theorem Tryz.laysNm225 : Go.Proofs.Lays2.n25 Tryz.prog Tryz.laysNm225_ren := {
 mixed := by kernel_rfl
 f25 := Tryz.func173.trans (congrArg some (by kernel_rfl))
 f31 := Tryz.func191.trans (congrArg some (by kernel_rfl))
 f32 := Tryz.func206.trans (congrArg some (by kernel_rfl))
 f37 := Tryz.func184.trans (congrArg some (by kernel_rfl))
 t0 := Tryz.underlying0
 a0 := Tryz.isAgg0
 z0 := Tryz.sizeOf0
 v0 := Tryz.zeroValue0
 t3 := Tryz.underlying3
 a3 := Tryz.isAgg3
 z3 := Tryz.sizeOf3
 v3 := Tryz.zeroValue3
 t4 := Tryz.underlying4
 a4 := Tryz.isAgg4
 z4 := Tryz.sizeOf4
 v4 := Tryz.zeroValue4
 t22 := Tryz.underlying30
 a22 := Tryz.isAgg30
 z22 := Tryz.sizeOf30
 v22 := Tryz.zeroValue30
 t40 := Tryz.underlying158
 a40 := Tryz.isAgg158
 z40 := Tryz.sizeOf158
 v40 := Tryz.zeroValue158 }
open Go.RowKit Go.Lib in
theorem Tryz.slices_BinarySearch_int (b off n c : Nat) (zs : List Int) (x : Int) (w : World) (hz : n ≤ zs.length) (hbig : n < 4611686018427387904) (hc : ∀ j, j < zs.length → w.cell? ⟨b, off + j, none⟩ = some (.int .i64 (zs.getD j 0))) (hs : (zs.take n).Pairwise (· ≤ ·)) :
  Calls Tryz.prog 173 #[.slice (some ⟨b, off, none⟩) n c, .int .i64 x] w fun e w' => e = .returned (.tuple #[.int .i64 ((zs.take n).countP (· < x) : Nat), .bool ((zs.take n).contains x)]) ∧ ∃ q, w' = w.drewN q := Any.slices_BinarySearch_int Tryz.laysNm225 b off n c zs x w hz hbig hc hs
open Go.RowKit Go.Sort in
theorem Tryz.slices_Sort_int_none (p : Option Addr) (cap : Nat) (w : World) :
  Calls Tryz.prog 102 #[.slice p 0 cap] w fun e w' => e = .returned (.tuple #[]) ∧ w' = w := Any.slices_Sort_int_none Tryz.lays189 p cap w
open Go.RowKit Go.Lib in
theorem Tryz.slices_BinarySearch_int_empty (a : Option Addr) (c : Nat) (x : Int) (w : World) :
  Calls Tryz.prog 173 #[.slice a 0 c, .int .i64 x] w fun e w' => e = .returned (.tuple #[.int .i64 0, .bool false]) ∧ w' = w := Any.slices_BinarySearch_int_empty Tryz.laysNm225 a c x w
open Go.RowKit Go.Lib in
theorem Tryz.slices_Equal_int_lens (a1 a2 : Option Addr) (n c m d : Nat) (w : World) (hnm : n ≠ m) :
  Calls Tryz.prog 20 #[.slice a1 n c, .slice a2 m d] w fun e w' => e = .returned (.bool false) ∧ w' = w := Any.slices_Equal_int_lens Tryz.lays111 a1 a2 n c m d w hnm
def Tryz.laysSlE33_f140_ren : Go.Shelf.Ren := ⟨fun | 33 => 140 | n => n, fun | 22 => 90 | 23 => 4 | 4 => 4 | 3 => 3 | 0 => 0 | n => n, fun | n => n⟩
theorem Tryz.laysSlE33_f140 : Go.Proofs.SlLaysE.n33 Tryz.prog Tryz.laysSlE33_f140_ren := {
 mixed := by kernel_rfl
 f33 := ⟨Tryz.f140.name, by decide, Tryz.func140.trans (congrArg some (by kernel_rfl))⟩
 t0 := Tryz.underlying0
 a0 := Tryz.isAgg0
 z0 := Tryz.sizeOf0
 v0 := Tryz.zeroValue0
 t3 := Tryz.underlying3
 a3 := Tryz.isAgg3
 z3 := Tryz.sizeOf3
 v3 := Tryz.zeroValue3
 t4 := Tryz.underlying4
 a4 := Tryz.isAgg4
 z4 := Tryz.sizeOf4
 v4 := Tryz.zeroValue4
 t22 := Tryz.underlying90
 a22 := Tryz.isAgg90
 z22 := Tryz.sizeOf90
 v22 := Tryz.zeroValue90
 a23 := Tryz.isAgg4
 z23 := Tryz.sizeOf4 }
open Go.RowKit Go.Lib in
theorem Tryz.slices_Equal_f140 {α : Type} [Inhabited α] (enc : α → Value) (eq : α → α → Bool) (hne : NeqAt Tryz.prog 4 enc eq) (b1 o1 n c b2 o2 m d : Nat) (xs ys : List α) (w : World) (hx : n ≤ xs.length) (hy : m ≤ ys.length) (hbig : n ≤ 9223372036854775807) (hbig2 : m ≤ 9223372036854775807) (hc1 : ∀ j, j < xs.length → w.cell? ⟨b1, o1 + j, none⟩ = some (enc xs[j]!)) (hc2 : ∀ j, j < ys.length → w.cell? ⟨b2, o2 + j, none⟩ = some (enc ys[j]!)) :
  Calls Tryz.prog 140 #[.slice (some ⟨b1, o1, none⟩) n c, .slice (some ⟨b2, o2, none⟩) m d] w fun e w' => e = .returned (.bool (Lib.allEq eq (xs.take n) (ys.take m))) ∧ ∃ q, w' = w.drewN q := AnyE.slices_Equal Tryz.laysSlE33_f140 enc eq hne b1 o1 n c b2 o2 m d xs ys w hx hy hbig hbig2 hc1 hc2
def Tryz.laysSlE041_f91_ren : Go.Shelf.Ren := ⟨fun | 41 => 91 | n => n, fun | 22 => 30 | 23 => 3 | 4 => 4 | n => n, fun | n => n⟩
theorem Tryz.laysSlE041_f91 : Go.Proofs.SlLaysE0.n41 Tryz.prog Tryz.laysSlE041_f91_ren := {
 mixed := by kernel_rfl
 f41 := ⟨Tryz.f91.name, by decide, Tryz.func91.trans (congrArg some (by kernel_rfl))⟩
 t4 := Tryz.underlying4
 a4 := Tryz.isAgg4
 z4 := Tryz.sizeOf4
 v4 := Tryz.zeroValue4
 t22 := Tryz.underlying30
 a22 := Tryz.isAgg30
 z22 := Tryz.sizeOf30
 v22 := Tryz.zeroValue30 }
open Go.RowKit Go.Lib in
theorem Tryz.slices_Clone (i0 : TypeInfo) (z : Value) (size bytes : Nat) (hi : Tryz.prog.info? 3 = some i0) (hz0 : i0.zero = some z) (hz1 : i0.size = size) (hz2 : i0.bytes = bytes) (hzs : z.cells.size = size) (hsz : 0 < size) (z23 : ∀ w, (Go.sizeOf 3).run Tryz.prog w = .ok size w) (b off n c : Nat) (news : List Value) (w : World) (hl : news.length = n * size) (hn : n ≤ maxLen) (hbig : n * bytes ≤ 140737488355328) (hc : ∀ j u, news[j]? = some u → w.cell? ⟨b, off + j, none⟩ = some u) (h1 : ∀ u ∈ news, u.oneCell' = true) :
  Calls Tryz.prog 91 #[.slice (some ⟨b, off, none⟩) n c] w fun e w' => ∃ v', e = .returned v' ∧ w'.ownsRow w.heap.size 3 size v' n news ∧ v' ≠ .slice none 0 0 ∧ Below w.heap.size w w' := AnyE.slices_Clone Tryz.laysSlE041_f91 i0 z size bytes hi hz0 hz1 hz2 hzs hsz z23 b off n c news w hl hn hbig hc h1
open Go.RowKit Go.Lib in
theorem Tryz.slices_Clone_nil (n c : Nat) (w : World) :
  Calls Tryz.prog 91 #[.slice none n c] w fun e w' => e = .returned (.slice none 0 0) ∧ w' = w := AnyE.slices_Clone_nil Tryz.laysSlE041_f91 n c w
def Tryz.laysSlH6_f169_ren : Go.Shelf.Ren := ⟨fun | 6 => 169 | n => n, fun | 22 => 30 | 23 => 3 | 25 => 42 | 3 => 3 | 0 => 0 | 4 => 4 | n => n, fun | n => n⟩
theorem Tryz.laysSlH6_f169 : Go.Proofs.SlLaysH.n6 Tryz.prog Tryz.laysSlH6_f169_ren := {
 mixed := by kernel_rfl
 f6 := ⟨Tryz.f169.name, by decide, Tryz.func169.trans (congrArg some (by kernel_rfl))⟩
 t0 := Tryz.underlying0
 a0 := Tryz.isAgg0
 z0 := Tryz.sizeOf0
 v0 := Tryz.zeroValue0
 t3 := Tryz.underlying3
 a3 := Tryz.isAgg3
 z3 := Tryz.sizeOf3
 v3 := Tryz.zeroValue3
 t4 := Tryz.underlying4
 a4 := Tryz.isAgg4
 z4 := Tryz.sizeOf4
 v4 := Tryz.zeroValue4
 t22 := Tryz.underlying30
 a22 := Tryz.isAgg30
 z22 := Tryz.sizeOf30
 v22 := Tryz.zeroValue30
 a23 := Tryz.isAgg3
 z23 := Tryz.sizeOf3
 t25 := Tryz.underlying42
 a25 := Tryz.isAgg42
 z25 := Tryz.sizeOf42
 v25 := Tryz.zeroValue42 }
open Go.RowKit Go.Lib in
theorem Tryz.slices_IndexFunc_f169 {α : Type} [Inhabited α] (enc : α → Value) (p : α → Bool) (g : Nat) (lb : Array Value) (eg : ∀ args w, (callFunc g args).run Tryz.prog w = .ok (.enter g args) w) (b off n c : Nat) (zs : List α) (w : World) (hp : PredAt Tryz.prog g lb enc p w) (hz : n ≤ zs.length) (hbig : n ≤ 9223372036854775807) (hc : ∀ j, j < zs.length → w.cell? ⟨b, off + j, none⟩ = some (enc zs[j]!)) :
  Calls Tryz.prog 169 #[.slice (some ⟨b, off, none⟩) n c, .func (.func g) #[] lb] w fun e w' => e = .returned (.int .i64 (Lib.idxBy (fun _ y => p y) (zs.take n) default)) ∧ ∃ q, w' = w.drewN q := AnyE.slices_IndexFunc Tryz.laysSlH6_f169 enc p g lb eg b off n c zs w hp hz hbig hc
open Go.RowKit Go.Lib in
theorem Tryz.slices_IndexFunc_empty_f169 {α : Type} [Inhabited α] (a : Option Addr) (c : Nat) (fv : Value) (w : World) :
  Calls Tryz.prog 169 #[.slice a 0 c, fv] w fun e w' => e = .returned (.int .i64 (-1)) ∧ w' = w := AnyE.slices_IndexFunc_empty Tryz.laysSlH6_f169 a c fv w
def Tryz.laysSlH8_f35_ren : Go.Shelf.Ren := ⟨fun | 8 => 35 | 6 => 90 | n => n, fun | 22 => 47 | 23 => 30 | 25 => 51 | 4 => 4 | 3 => 3 | 0 => 0 | n => n, fun | n => n⟩
theorem Tryz.laysSlH8_f35 : Go.Proofs.SlLaysH.n8 Tryz.prog Tryz.laysSlH8_f35_ren := {
 mixed := by kernel_rfl
 f6 := ⟨Tryz.f90.name, by decide, Tryz.func90.trans (congrArg some (by kernel_rfl))⟩
 f8 := ⟨Tryz.f35.name, by decide, Tryz.func35.trans (congrArg some (by kernel_rfl))⟩
 t0 := Tryz.underlying0
 a0 := Tryz.isAgg0
 z0 := Tryz.sizeOf0
 v0 := Tryz.zeroValue0
 t3 := Tryz.underlying3
 a3 := Tryz.isAgg3
 z3 := Tryz.sizeOf3
 v3 := Tryz.zeroValue3
 t4 := Tryz.underlying4
 a4 := Tryz.isAgg4
 z4 := Tryz.sizeOf4
 v4 := Tryz.zeroValue4
 t22 := Tryz.underlying47
 a22 := Tryz.isAgg47
 z22 := Tryz.sizeOf47
 v22 := Tryz.zeroValue47
 a23 := Tryz.isAgg30
 z23 := Tryz.sizeOf30
 t25 := Tryz.underlying51
 a25 := Tryz.isAgg51
 z25 := Tryz.sizeOf51
 v25 := Tryz.zeroValue51 }
open Go.RowKit Go.Lib in
theorem Tryz.slices_ContainsFunc {α : Type} [Inhabited α] (enc : α → Value) (p : α → Bool) (g : Nat) (lb : Array Value) (eg : ∀ args w, (callFunc g args).run Tryz.prog w = .ok (.enter g args) w) (b off n c : Nat) (zs : List α) (w : World) (hp : PredAt Tryz.prog g lb enc p w) (hz : n ≤ zs.length) (hbig : n ≤ 9223372036854775807) (hc : ∀ j, j < zs.length → w.cell? ⟨b, off + j, none⟩ = some (enc zs[j]!)) :
  Calls Tryz.prog 35 #[.slice (some ⟨b, off, none⟩) n c, .func (.func g) #[] lb] w fun e w' => e = .returned (.bool ((zs.take n).any p)) ∧ ∃ q, w' = w.drewN q := AnyE.slices_ContainsFunc Tryz.laysSlH8_f35 enc p g lb eg b off n c zs w hp hz hbig hc
def Tryz.laysSlH06_f146_ren : Go.Shelf.Ren := ⟨fun | 6 => 146 | n => n, fun | 22 => 148 | 23 => 149 | 25 => 152 | 3 => 3 | 0 => 0 | 4 => 4 | n => n, fun | n => n⟩
theorem Tryz.laysSlH06_f146 : Go.Proofs.SlLaysH0.n6 Tryz.prog Tryz.laysSlH06_f146_ren := {
 mixed := by kernel_rfl
 f6 := ⟨Tryz.f146.name, by decide, Tryz.func146.trans (congrArg some (by kernel_rfl))⟩
 t0 := Tryz.underlying0
 a0 := Tryz.isAgg0
 z0 := Tryz.sizeOf0
 v0 := Tryz.zeroValue0
 t3 := Tryz.underlying3
 a3 := Tryz.isAgg3
 z3 := Tryz.sizeOf3
 v3 := Tryz.zeroValue3
 t4 := Tryz.underlying4
 a4 := Tryz.isAgg4
 z4 := Tryz.sizeOf4
 v4 := Tryz.zeroValue4
 t22 := Tryz.underlying148
 a22 := Tryz.isAgg148
 z22 := Tryz.sizeOf148
 v22 := Tryz.zeroValue148
 t25 := Tryz.underlying152
 a25 := Tryz.isAgg152
 z25 := Tryz.sizeOf152
 v25 := Tryz.zeroValue152 }
open Go.RowKit Go.Lib in
theorem Tryz.slices_IndexFunc {α : Type} [Inhabited α] (k : Nat) (aE : ∀ w, (isAgg 149).run Tryz.prog w = .ok true w) (zE : ∀ w, (Go.sizeOf 149).run Tryz.prog w = .ok k w) (enc : α → List Value) (hk : ∀ x, (enc x).length = k) (p : α → Bool) (g : Nat) (lb : Array Value) (eg : ∀ args w, (callFunc g args).run Tryz.prog w = .ok (.enter g args) w) (b off n c : Nat) (zs : List α) (w : World) (hp : PredBelow Tryz.prog g lb (fun x => .agg (enc x).toArray) p w) (hz : n ≤ zs.length) (hbig : n ≤ 9223372036854775807) (hb : b < w.heap.size) (hc : ∀ j, j < zs.length → ∀ i v, (enc zs[j]!)[i]? = some v → w.cell? ⟨b, off + j * k + i, none⟩ = some v) :
  Calls Tryz.prog 146 #[.slice (some ⟨b, off, none⟩) n c, .func (.func g) #[] lb] w fun e w' => e = .returned (.int .i64 (Lib.idxBy (fun _ y => p y) (zs.take n) default)) ∧ Below w.heap.size w w' := AnyQ.slices_IndexFunc Tryz.laysSlH06_f146 k aE zE enc hk p g lb eg b off n c zs w hp hz hbig hb hc
def Tryz.laysSlH08_f144_ren : Go.Shelf.Ren := ⟨fun | 8 => 144 | 6 => 146 | n => n, fun | 22 => 148 | 23 => 149 | 25 => 152 | 4 => 4 | 3 => 3 | 0 => 0 | n => n, fun | n => n⟩
theorem Tryz.laysSlH08_f144 : Go.Proofs.SlLaysH0.n8 Tryz.prog Tryz.laysSlH08_f144_ren := {
 mixed := by kernel_rfl
 f6 := ⟨Tryz.f146.name, by decide, Tryz.func146.trans (congrArg some (by kernel_rfl))⟩
 f8 := ⟨Tryz.f144.name, by decide, Tryz.func144.trans (congrArg some (by kernel_rfl))⟩
 t0 := Tryz.underlying0
 a0 := Tryz.isAgg0
 z0 := Tryz.sizeOf0
 v0 := Tryz.zeroValue0
 t3 := Tryz.underlying3
 a3 := Tryz.isAgg3
 z3 := Tryz.sizeOf3
 v3 := Tryz.zeroValue3
 t4 := Tryz.underlying4
 a4 := Tryz.isAgg4
 z4 := Tryz.sizeOf4
 v4 := Tryz.zeroValue4
 t22 := Tryz.underlying148
 a22 := Tryz.isAgg148
 z22 := Tryz.sizeOf148
 v22 := Tryz.zeroValue148
 t25 := Tryz.underlying152
 a25 := Tryz.isAgg152
 z25 := Tryz.sizeOf152
 v25 := Tryz.zeroValue152 }
open Go.RowKit Go.Lib in
theorem Tryz.slices_ContainsFunc_f144 {α : Type} [Inhabited α] (k : Nat) (aE : ∀ w, (isAgg 149).run Tryz.prog w = .ok true w) (zE : ∀ w, (Go.sizeOf 149).run Tryz.prog w = .ok k w) (enc : α → List Value) (hk : ∀ x, (enc x).length = k) (p : α → Bool) (g : Nat) (lb : Array Value) (eg : ∀ args w, (callFunc g args).run Tryz.prog w = .ok (.enter g args) w) (b off n c : Nat) (zs : List α) (w : World) (hp : PredBelow Tryz.prog g lb (fun x => .agg (enc x).toArray) p w) (hz : n ≤ zs.length) (hbig : n ≤ 9223372036854775807) (hb : b < w.heap.size) (hc : ∀ j, j < zs.length → ∀ i v, (enc zs[j]!)[i]? = some v → w.cell? ⟨b, off + j * k + i, none⟩ = some v) :
  Calls Tryz.prog 144 #[.slice (some ⟨b, off, none⟩) n c, .func (.func g) #[] lb] w fun e w' => e = .returned (.bool ((zs.take n).any p)) ∧ Below w.heap.size w w' := AnyQ.slices_ContainsFunc Tryz.laysSlH08_f144 k aE zE enc hk p g lb eg b off n c zs w hp hz hbig hb hc
end Go.Proofs
namespace Go.Proofs.YtocbhlohcikapaaGreatDoor
section
open Go.RowKit Go.Sort Go.Shelf Go.Lib
theorem binI_any (l : List Int) (p : Option Addr) (c : Nat) (x : Int) (w : World) (hp : Sl w (Value.int .i64) p l) (hs : l.Pairwise (· < ·)) (hl : l.length ≤ 100000) :
  Calls Tryz.prog 173 #[.slice p l.length c, .int .i64 x] w fun e w' => (∃ i : Int, e = .returned (.tuple #[.int .i64 i, .bool (decide (x ∈ l))]) ∧ (x ∈ l → i = ((l.idxOf x : Nat) : Int))) ∧ Dr w w' := by
 rcases Nat.eq_zero_or_pos l.length with h0 | h0
 ·have : l = [] := List.length_eq_zero_iff.1 h0
  subst this
  refine (Tryz.slices_BinarySearch_int_empty p c x w).mono ?_
  rintro e w' ⟨rfl, rfl⟩
  exact ⟨⟨0, by simp, by simp⟩, Dr.refl _⟩
 ·obtain ⟨b, off, rfl, hb, hc⟩ := hp.get 0 h0
  refine (Tryz.slices_BinarySearch_int b off l.length c l x w (Nat.le_refl _) (by omega) (fun j hj => by rw [hc j hj, List.getD_eq_getElem?_getD, List.getElem?_eq_getElem hj]; rfl) (by rw [List.take_length]; exact hs.imp (fun h => by omega))).mono ?_
  rintro e w' ⟨rfl, hD⟩
  rw [List.take_length]
  refine ⟨⟨((l.countP (· < x) : Nat) : Int), ?_, fun hm => congrArg Int.ofNat (countP_idxOf hs hm)⟩, hD⟩
  rw [show l.contains x = decide (x ∈ l) by rw [Bool.eq_iff_iff]; simp]
set_option maxRecDepth 100000 in
set_option maxHeartbeats 2000000 in
theorem gkeep_any (G : Gr) (p : Option Addr) (c : Nat) (st : List Int) (q : Option Addr) (d : Nat) (w : World) (hin : Sg 3 w edE p G.es) (hst : Sl w (Value.int .i64) q st) (hl : G.es.length ≤ 10000) (hs : st.length ≤ 100000) (hso : st.Pairwise (· < ·)) :
  Calls Tryz.prog 119 #[(.agg #[.int .i64 G.q, .int .i64 G.n, .slice p G.es.length c]), .slice q st.length d] w (RetG (partA G st) w) := by
 have HIN := hidI hin; have HST := hidI hst; have HSO := hidI hso
 obtain ⟨i0, hi0, hz0, hz1, hz2⟩ := info_parts infoE
 clear hin hst hso
 obtain ⟨w0, hw0⟩ : ∃ w0, w0 = ((w.alloc (.cells #[.int .i64 G.q, .int .i64 G.n, .slice p G.es.length c] 24)).alloc (.cells #[.int .i64 0, .int .i64 0, .slice none 0 0] 24)).alloc (.cells #[.int .i64 G.q, .int .i64 st.length, .slice none 0 0] 24) := ⟨_, rfl⟩
 have b0 : VRow w0 w.heap.size 24 [.int .i64 G.q, .int .i64 G.n, .slice p G.es.length c] := by subst hw0; exact ((VRow.new w _ _).alloc _).alloc _
 have b1 : VRow w0 (w.heap.size + 1) 24 [.int .i64 0, .int .i64 0, .slice none 0 0] := by subst hw0; exact (VRow.new1 w _ _ _).alloc _
 have b2 : VRow w0 (w.heap.size + 1 + 1) 24 [.int .i64 G.q, .int .i64 st.length, .slice none 0 0] := by subst hw0; exact VRow.new2 w _ _ _ _
 have hB0 : Below w.heap.size w w0 := by subst hw0; exact (((Below.refl _ _).alloc (Nat.le_refl _) _).alloc (by simp) _).alloc (by simp; omega) _
 have hsz0 : w0.heap.size = w.heap.size + 1 + 1 + 1 := by subst hw0; simp
 go_enter Tryz.func119, Tryz.ntmps119
 go_wp2
 rw [← hw0]
 clear hw0
 go_loopw [20] (fun iv wr => ∃ (k : Nat) (v : Value), k ≤ G.es.length ∧ iv = .int .i64 k ∧ VRow wr w.heap.size 24 [.int .i64 G.q, .int .i64 G.n, .slice p G.es.length c] ∧ VRow wr (w.heap.size + 1) 24 [.int .i64 0, .int .i64 0, .slice none 0 0] ∧ VRow wr (w.heap.size + 1 + 1) 24 [.int .i64 G.q, .int .i64 st.length, v] ∧
   wr.ownsRow (w.heap.size + 1 + 1 + 1) 44 3 v ((G.es.take k).filterMap (partE st)).length (cat ((G.es.take k).filterMap (partE st))) ∧ Below w.heap.size w wr ∧ w.heap.size + 1 + 1 + 1 ≤ wr.heap.size) (fun iv _ => G.es.length - (intOf iv).toNat)
 case atStart => exact ⟨0, _, by omega, rfl, b0, b1, b2, World.ownsRow_nil _ _ _ _, hB0, by omega⟩
 case round =>
  obtain ⟨k, v, hk, rfl, c0, c1, c2, hown, hB, hge⟩ := hrel
  have f2 := c0.at 2 rfl
  by_cases hlt : k < G.es.length
  ·obtain ⟨b3, o3, rfl, hb3, e0, e1, e2⟩ := (HIN.out.below hB).get3 k hlt rfl
   have hSN := hidI (partE_snoc st G.es k hlt)
   have hML : ((G.es.take k).filterMap (partE st)).length ≤ k := Nat.le_trans (List.length_filterMap_le _ _) (by rw [List.length_take]; omega)
   generalize (G.es.take k).filterMap (partE st) = M at *
   generalize hx : G.es[k] = x at *
   have HS1 : Sl (wr.alloc (.cells #[.int .i64 x.f, .int .i64 x.l, .int .i64 x.t] 44)) (Value.int .i64) q st := HST.out.below (hB.alloc hB.size _)
   have y0 : VRow (wr.alloc (.cells #[.int .i64 x.f, .int .i64 x.l, .int .i64 x.t] 44)) wr.heap.size 44 (edE x) := VRow.new wr _ _
   have hown1 := hown.alloc (.cells #[.int .i64 x.f, .int .i64 x.l, .int .i64 x.t] 44)
   have d0 := c0.alloc (.cells #[.int .i64 x.f, .int .i64 x.l, .int .i64 x.t] 44)
   have d1 := c1.alloc (.cells #[.int .i64 x.f, .int .i64 x.l, .int .i64 x.t] 44)
   have d2 := c2.alloc (.cells #[.int .i64 x.f, .int .i64 x.l, .int .i64 x.t] 44)
   have hB1 := hB.alloc hB.size (.cells #[.int .i64 x.f, .int .i64 x.l, .int .i64 x.t] 44)
   have hsz1 : (wr.alloc (.cells #[.int .i64 x.f, .int .i64 x.l, .int .i64 x.t] 44)).heap.size = wr.heap.size + 1 := World.size_alloc _ _
   go_wp2_with fail
   generalize (wr.alloc (.cells #[.int .i64 x.f, .int .i64 x.l, .int .i64 x.t] 44)) = W1 at *
   have g0 := y0.at 0 rfl; have g1 := y0.at 1 rfl; have g2 := y0.at 2 rfl
   have k0 := d2.at 0 rfl; have k1 := d2.at 1 rfl; have k2 := d2.at 2 rfl; have kf := d2.frozen 2
   clear e0 e1 e2 f2
   refine (binI_any st q d x.f W1 HS1 HSO.out hs).mono ?_
   rintro e wa ⟨⟨i, rfl, hi⟩, hDa⟩
   have HS2 := HS1.dr hDa
   have y1 := y0.dr hDa
   have l2 := y1.at 2 rfl
   have g2 := y1.at 2 rfl
   clear g0 g1 k0 k1 k2 kf
   go_wp2_with fail
   refine (binI_any st q d x.t wa HS2 HSO.out hs).mono ?_
   rintro e W2 ⟨⟨j, rfl, hj⟩, hDb⟩
   have hD := hDa.trans hDb
   have y2 := y0.dr hD
   have g1 := y2.at 1 rfl
   have hownq := hown1.dr hD
   have hq0 := d0.dr hD
   have hq1 := d1.dr hD
   have hq2 := d2.dr hD
   have hBq := hB1.trans (hD.below _)
   have hszq : W2.heap.size = wr.heap.size + 1 := by rw [hD.size]; exact hsz1
   have kk2 := hq2.at 2 rfl
   clear d0 d1 d2 hown1 hB1 hsz1 HS1 HS2 y0 y1 y2 hDa hDb hD l2 g2
   by_cases hm : x.f ∈ st ∧ x.t ∈ st
   ·have HSN : Hid (List.filterMap (partE st) (G.es.take (k + 1)) = M ++ [⟨i, x.l, j⟩]) := by rw [Hid, hSN.out, part_go hm, hi hm.1, hj hm.2]
    have m1 : decide (x.f ∈ st) = true := decide_eq_true hm.1
    have m2 : decide (x.t ∈ st) = true := decide_eq_true hm.2
    rw [m1, m2]
    clear hSN hi hj hm m1 m2
    have hnew := cell_new3 W2 ⟨i, x.l, j⟩ 44 (wr.heap.size + 1) hszq
    have hownA := hownq.alloc (.cells (edE ⟨i, x.l, j⟩).toArray 44)
    have hBA := hBq.alloc hBq.size (.cells (edE ⟨i, x.l, j⟩).toArray 44)
    have p0 := hq0.alloc (.cells (edE ⟨i, x.l, j⟩).toArray 44)
    have p1 := hq1.alloc (.cells (edE ⟨i, x.l, j⟩).toArray 44)
    have p2 := hq2.alloc (.cells (edE ⟨i, x.l, j⟩).toArray 44)
    have hne : ∀ j, v.ownBlock = some j → w.heap.size + 1 + 1 + 1 ≤ j := fun j e => (hownq.lt j e).1
    go_wp2_with (at_builtin; refine wpList_append_own _ rfl _ _ 22 rfl (w.heap.size + 1 + 1 + 1) 44 i0 _ 3 24 Tryz.underlying22 hi0 hz0 hz1 hz2 rfl (by decide) _ _ _ rfl hownA ⟨wr.heap.size + 1, 0, none⟩ 1 1 (cat [⟨i, x.l, j⟩]) rfl rfl hnew (cat_one _) (by simp [maxLen]; omega) (by omega) (by rw [World.size_alloc, hszq]; omega) ?_; intro v' w1 hown' hgrow _; rw [← cat_app] at hown'; obtain ⟨pv, mv, cv, rfl⟩ := own_shape hown'; have r2 := VRow.grown p2 hgrow (fun e => by have := hne _ e.symm; omega); have z2 := r2.frozen 2; have s2 := r2.at 2 rfl)
    have hr0 := VRow.other (i := 2) (.slice pv mv cv) (p0.grown hgrow (fun e => by have := hne _ e.symm; omega)) (C := w.heap.size + 1 + 1) (by omega)
    have hr1 := VRow.other (i := 2) (.slice pv mv cv) (p1.grown hgrow (fun e => by have := hne _ e.symm; omega)) (C := w.heap.size + 1 + 1) (by omega)
    have hBf : RowKit.Below w.heap.size w (w1.setCell (⟨w.heap.size + 1 + 1, 2, none⟩ : Addr) (.slice pv mv cv)) := (hBA.grown hgrow (Nat.le_trans hBq.size (by simp)) (fun j e => by have := hne _ e; omega)).setCell (show w.heap.size ≤ w.heap.size + 1 + 1 by omega) _
    go_roundw
    case rel =>
     refine ⟨k + 1, _, by omega, by go_num, hr0, hr1, VRow.set (i := 2) _ r2, ?_, hBf, ?_⟩
     ·rw [HSN.out]
      exact ownsRow_setCell_below (a := (⟨w.heap.size + 1 + 1, 2, none⟩ : Addr)) (own_conv hown' rfl (Nat.le_refl _)) (show w.heap.size + 1 + 1 < w.heap.size + 1 + 1 + 1 by omega) _
     ·rw [World.size_setCell]; have := hgrow.size; rw [World.size_alloc] at this; omega
    case measure => simp [intOf]; omega
   ·have HSN : Hid (List.filterMap (partE st) (G.es.take (k + 1)) = M) := by rw [Hid, hSN.out, part_stop hm]; simp
    have hor : decide (x.f ∈ st) = false ∨ (decide (x.f ∈ st) = true ∧ decide (x.t ∈ st) = false) := by
     by_cases h1 : x.f ∈ st
     ·exact .inr ⟨decide_eq_true h1, decide_eq_false (fun h2 => hm ⟨h1, h2⟩)⟩
     ·exact .inl (decide_eq_false h1)
    clear hSN hm hi hj
    generalize decide (x.f ∈ st) = b1 at *
    generalize decide (x.t ∈ st) = b2 at *
    rcases hor with rfl | ⟨rfl, rfl⟩
    all_goals
     go_wp2_with fail
     go_roundw
     case rel =>
      refine ⟨k + 1, v, by omega, by go_num, hq0, hq1, hq2, ?_, hBq, by omega⟩
      rw [HSN.out]; exact hownq
     case measure => simp [intOf]; omega
  ·obtain rfl : k = G.es.length := by omega
   rw [List.take_length] at hown
   have k0 := c2.at 0 rfl; have k1 := c2.at 1 rfl; have k2 := c2.at 2 rfl
   have j0 := c1.at 0 rfl; have j1 := c1.at 1 rfl; have j2 := c1.at 2 rfl
   have z0 := c1.frozen 0; have z1 := c1.frozen 1; have z2 := c1.frozen 2
   obtain ⟨pv, mv, cv, rfl⟩ := own_shape hown
   go_wp2
   have r6 := VRow.set (i := 2) (.slice pv mv cv) (VRow.set (i := 1) (.int .i64 st.length) (VRow.set (i := 0) (.int .i64 G.q) c1))
   have y0 := r6.at 0 rfl; have y1 := r6.at 1 rfl; have y2 := r6.at 2 rfl
   have hz0 : w.heap.size + 1 < w.heap.size + 1 + 1 + 1 := by omega
   have o6 := ownsRow_setCell_below (a := (⟨w.heap.size + 1, 2, none⟩ : Addr)) (ownsRow_setCell_below (a := (⟨w.heap.size + 1, 1, none⟩ : Addr)) (ownsRow_setCell_below (a := (⟨w.heap.size + 1, 0, none⟩ : Addr)) hown hz0 (.int .i64 G.q)) hz0 (.int .i64 st.length)) hz0 (.slice pv mv cv)
   have x6 : RowKit.Below w.heap.size w (((wr.setCell (⟨w.heap.size + 1, 0, none⟩ : Addr) (.int .i64 G.q)).setCell (⟨w.heap.size + 1, 1, none⟩ : Addr) (.int .i64 st.length)).setCell (⟨w.heap.size + 1, 2, none⟩ : Addr) (.slice pv mv cv)) :=
    ((hB.setCell (show w.heap.size ≤ w.heap.size + 1 by omega) _).setCell (show w.heap.size ≤ w.heap.size + 1 by omega) _).setCell (show w.heap.size ≤ w.heap.size + 1 by omega) _
   refine bodyPost_ret (v := .agg #[.int .i64 G.q, .int .i64 st.length, .slice pv mv cv]) (by simp [results, Tryz.results119, go_sem, y0, y1, y2]) rfl ?_
   exact ⟨_, _, _, rfl, own_conv o6 rfl (by omega), x6⟩
end
section
open Go.RowKit Go.Sort Go.Shelf Go.Lib
def keepA (G : Gr) (st : List Int) : Gr × Int := if chkG G = 0 then (if chkS G.n none st = 0 then (partA G st, 0) else (⟨0, 0, []⟩, chkS G.n none st)) else (⟨0, 0, []⟩, 1)
set_option maxRecDepth 100000 in
set_option maxHeartbeats 2000000 in
theorem gKeep_any (G : Gr) (p : Option Addr) (c : Nat) (st : List Int) (q : Option Addr) (d : Nat) (w : World) (hin : Sg 3 w edE p G.es) (hst : Sl w (Value.int .i64) q st) (hl : G.es.length ≤ 10000) (hs : st.length ≤ 100000) :
  Calls Tryz.prog 54 #[(.agg #[.int .i64 G.q, .int .i64 G.n, .slice p G.es.length c]), .slice q st.length d] w (RetGr (keepA G st).1 (keepA G st).2 w) := by
 have HIN := hidI hin; have HST := hidI hst
 clear hin hst
 obtain ⟨w0, hw0⟩ : ∃ w0, w0 = (w.alloc (.cells #[.int .i64 G.q, .int .i64 G.n, .slice p G.es.length c] 24)).alloc (.cells #[.int .i64 0, .int .i64 0, .slice none 0 0] 24) := ⟨_, rfl⟩
 have b0 : VRow w0 w.heap.size 24 [.int .i64 G.q, .int .i64 G.n, .slice p G.es.length c] := by subst hw0; exact (VRow.new w _ _).alloc _
 have b1 : VRow w0 (w.heap.size + 1) 24 [.int .i64 0, .int .i64 0, .slice none 0 0] := by subst hw0; exact VRow.new1 w _ _ _
 have hB0 : RowKit.Below w.heap.size w w0 := by subst hw0; exact ((RowKit.Below.refl _ _).alloc (Nat.le_refl _) _).alloc (by simp) _
 obtain ⟨r, hr⟩ : ∃ r, chkG G = r := ⟨_, rfl⟩
 by_cases hr0 : r = 0
 ·subst hr0
  obtain ⟨r2, hr2⟩ : ∃ r2, chkS G.n none st = r2 := ⟨_, rfl⟩
  have HR := hidI hr; have HR2 := hidI hr2
  clear hr
  go_enter Tryz.func54, Tryz.ntmps54
  go_wp2_with fail
  rw [← hw0]
  clear hw0
  refine (gCheck_r G p c _ 0 HR.out (HIN.out.below hB0) (by omega)).mono ?_
  rintro e w1 ⟨rfl, hB1⟩
  have x1 := hB0.trans (hB1.mono hB0.size)
  have c0 := b0.below hB1 b0.lt
  have c1 := b1.below hB1 b1.lt
  have f0 := c0.at 0 rfl; have f1 := c0.at 1 rfl; have f2 := c0.at 2 rfl
  clear hB1
  go_wp2_with fail
  refine (gCheckSet_any G p c st q d _ (HST.out.below x1) (by omega)).mono ?_
  rw [hr2]
  rintro e w2 ⟨rfl, hB2⟩
  have x2 := x1.trans (hB2.mono x1.size)
  have d0 := c0.below hB2 c0.lt
  have d1 := c1.below hB2 c1.lt
  clear f0 f1 f2 hB2 c0 c1 b0 b1
  have f0 := d0.at 0 rfl; have f1 := d0.at 1 rfl; have f2 := d0.at 2 rfl
  have j0 := d1.at 0 rfl; have j1 := d1.at 1 rfl; have j2 := d1.at 2 rfl
  have z0 := d1.frozen 0; have z1 := d1.frozen 1; have z2 := d1.frozen 2
  by_cases h2 : r2 = 0
  ·subst h2
   have HK : Hid (keepA G st = (partA G st, 0)) := by unfold Hid keepA; rw [if_pos HR.out, if_pos HR2.out]
   have hso := (chkS_ok HR2.out).1
   clear hr2
   go_wp2_with fail
   refine (gkeep_any G p c st q d _ (HIN.out.below x2) (HST.out.below x2) hl hs hso).mono ?_
   rintro e w3 ⟨p3, m3, c3, rfl, hown3, hB3⟩
   have x3 := x2.trans (hB3.mono x2.size)
   have e1 := d1.below hB3 d1.lt
   have hz : w.heap.size + 1 < w2.heap.size := d1.lt
   clear f0 f1 f2 j0 j1 j2 z0 z1 z2
   have j0 := e1.at 0 rfl; have j1 := e1.at 1 rfl; have j2 := e1.at 2 rfl
   have z0 := e1.frozen 0; have z1 := e1.frozen 1; have z2 := e1.frozen 2
   go_wp2
   have r6 := VRow.set (i := 2) (.slice p3 m3 c3) (VRow.set (i := 1) (.int .i64 (partA G st).n) (VRow.set (i := 0) (.int .i64 (partA G st).q) e1))
   have y0 := r6.at 0 rfl; have y1 := r6.at 1 rfl; have y2 := r6.at 2 rfl
   have o6 := ownsRow_setCell_below (a := (⟨w.heap.size + 1, 2, none⟩ : Addr)) (ownsRow_setCell_below (a := (⟨w.heap.size + 1, 1, none⟩ : Addr)) (ownsRow_setCell_below (a := (⟨w.heap.size + 1, 0, none⟩ : Addr)) hown3 hz (.int .i64 (partA G st).q)) hz (.int .i64 (partA G st).n)) hz (.slice p3 m3 c3)
   have x6 : RowKit.Below w.heap.size w (((w3.setCell (⟨w.heap.size + 1, 0, none⟩ : Addr) (.int .i64 (partA G st).q)).setCell (⟨w.heap.size + 1, 1, none⟩ : Addr) (.int .i64 (partA G st).n)).setCell (⟨w.heap.size + 1, 2, none⟩ : Addr) (.slice p3 m3 c3)) :=
    ((x3.setCell (show w.heap.size ≤ w.heap.size + 1 by omega) _).setCell (show w.heap.size ≤ w.heap.size + 1 by omega) _).setCell (show w.heap.size ≤ w.heap.size + 1 by omega) _
   refine bodyPost_ret (v := .tuple #[.agg #[.int .i64 (partA G st).q, .int .i64 (partA G st).n, .slice p3 m3 c3], .int .i64 0]) (by simp [results, Tryz.results54, go_sem, y0, y1, y2]) rfl ?_
   obtain ⟨p6, c6, hv, hs6, hc6, _⟩ := own_sg o6
   cases hv
   exact RetGr.of (G' := partA G st) HK.out hs6 hc6 x6
  ·have HK : Hid (keepA G st = (⟨0, 0, []⟩, r2)) := by unfold Hid keepA; rw [if_pos HR.out, HR2.out, if_neg h2]
   have hrb : (r2 == 0) = false := by simpa using h2
   clear hr2
   go_wp2
   have r6 := VRow.set (i := 2) (.slice none 0 0) (VRow.set (i := 1) (.int .i64 0) (VRow.set (i := 0) (.int .i64 0) d1))
   have y0 := r6.at 0 rfl; have y1 := r6.at 1 rfl; have y2 := r6.at 2 rfl
   have x6 : RowKit.Below w.heap.size w (((w2.setCell (⟨w.heap.size + 1, 0, none⟩ : Addr) (.int .i64 0)).setCell (⟨w.heap.size + 1, 1, none⟩ : Addr) (.int .i64 0)).setCell (⟨w.heap.size + 1, 2, none⟩ : Addr) (.slice none 0 0)) :=
    ((x2.setCell (show w.heap.size ≤ w.heap.size + 1 by omega) _).setCell (show w.heap.size ≤ w.heap.size + 1 by omega) _).setCell (show w.heap.size ≤ w.heap.size + 1 by omega) _
   refine bodyPost_ret (v := .tuple #[.agg #[.int .i64 0, .int .i64 0, .slice none 0 0], .int .i64 r2]) (by simp [results, Tryz.results54, go_sem, y0, y1, y2]) rfl ?_
   exact RetGr.of (G' := ⟨0, 0, []⟩) HK.out (Sg.nil _ _ _ _) (by simp) x6
 ·have HK : Hid (keepA G st = (⟨0, 0, []⟩, 1)) := by unfold Hid keepA; rw [if_neg (by rw [hr]; exact hr0)]
  have hrb : (r == 0) = false := by simpa using hr0
  have HR := hidI hr
  clear hr
  go_enter Tryz.func54, Tryz.ntmps54
  go_wp2_with fail
  rw [← hw0]
  clear hw0
  refine (gCheck_r G p c _ r HR.out (HIN.out.below hB0) (by omega)).mono ?_
  rintro e w1 ⟨rfl, hB1⟩
  have x1 := hB0.trans (hB1.mono hB0.size)
  have c1 := b1.below hB1 b1.lt
  have j0 := c1.at 0 rfl; have j1 := c1.at 1 rfl; have j2 := c1.at 2 rfl
  have z0 := c1.frozen 0; have z1 := c1.frozen 1; have z2 := c1.frozen 2
  go_wp2
  have r6 := VRow.set (i := 2) (.slice none 0 0) (VRow.set (i := 1) (.int .i64 0) (VRow.set (i := 0) (.int .i64 0) c1))
  have y0 := r6.at 0 rfl; have y1 := r6.at 1 rfl; have y2 := r6.at 2 rfl
  have x6 : RowKit.Below w.heap.size w (((w1.setCell (⟨w.heap.size + 1, 0, none⟩ : Addr) (.int .i64 0)).setCell (⟨w.heap.size + 1, 1, none⟩ : Addr) (.int .i64 0)).setCell (⟨w.heap.size + 1, 2, none⟩ : Addr) (.slice none 0 0)) :=
   ((x1.setCell (show w.heap.size ≤ w.heap.size + 1 by omega) _).setCell (show w.heap.size ≤ w.heap.size + 1 by omega) _).setCell (show w.heap.size ≤ w.heap.size + 1 by omega) _
  refine bodyPost_ret (v := .tuple #[.agg #[.int .i64 0, .int .i64 0, .slice none 0 0], .int .i64 1]) (by simp [results, Tryz.results54, go_sem, y0, y1, y2]) rfl ?_
  exact RetGr.of (G' := ⟨0, 0, []⟩) HK.out (Sg.nil _ _ _ _) (by simp) x6
end
section
open Go.RowKit
theorem srt_unique : ∀ {a b : List Int}, a.Pairwise (· < ·) → b.Pairwise (· < ·) → (∀ x, x ∈ a ↔ x ∈ b) → a = b
 | [], [], _, _, _ => rfl
 | [], y :: b, _, _, h => absurd ((h y).2 List.mem_cons_self) (by simp)
 | x :: a, [], _, _, h => absurd ((h x).1 List.mem_cons_self) (by simp)
 | x :: a, y :: b, ha, hb, h => by
  obtain ⟨ha1, ha2⟩ := List.pairwise_cons.1 ha
  obtain ⟨hb1, hb2⟩ := List.pairwise_cons.1 hb
  have e : x = y := by
   rcases List.mem_cons.1 ((h x).1 List.mem_cons_self) with e | hx
   ·exact e
   ·rcases List.mem_cons.1 ((h y).2 List.mem_cons_self) with e | hy
    ·exact e.symm
    ·have := ha1 y hy; have := hb1 x hx; omega
  subst e
  rw [srt_unique ha2 hb2 (fun z => ?_)]
  constructor
  ·intro hz
   rcases List.mem_cons.1 ((h z).1 (List.mem_cons_of_mem _ hz)) with e | hz'
   ·subst e; have := ha1 z hz; omega
   ·exact hz'
  ·intro hz
   rcases List.mem_cons.1 ((h z).2 (List.mem_cons_of_mem _ hz)) with e | hz'
   ·subst e; have := hb1 z hz; omega
   ·exact hz'
theorem mem_upto {n : Nat} {x : Int} : x ∈ upto n ↔ 0 ≤ x ∧ x < n := by
 unfold upto
 rw [List.mem_map]
 constructor
 ·rintro ⟨i, hi, rfl⟩
  rw [List.mem_range] at hi
  omega
 ·intro h
  exact ⟨x.toNat, by rw [List.mem_range]; omega, by omega⟩
theorem nextA_srt (G : Gr) (st : List Int) (b : Int) : (nextA G st b).Pairwise (· < ·) := (upto_srt _).filter _
theorem mem_nextA {G : Gr} {st : List Int} {b t : Int} (hv : Vg G) : t ∈ nextA G st b ↔ ∃ x ∈ G.es, x.t = t ∧ x.l = b ∧ x.f ∈ st := by
 unfold nextA nxP
 rw [List.mem_filter, mem_upto, List.any_eq_true]
 constructor
 ·rintro ⟨_, x, hx, h⟩
  simp only [nxE, Bool.and_eq_true, decide_eq_true_eq] at h
  exact ⟨x, hx, h⟩
 ·rintro ⟨x, hx, rfl, h1, h2⟩
  have := hv.ins x hx
  have := hv.n1
  exact ⟨⟨by omega, by omega⟩, x, hx, by simp [nxE, h1, h2]⟩
def stepL (es : List Ed) (st : List Int) (b : Int) : List Int := st.flatMap (fun s => (es.filter (fun x => decide (x.f = s) && decide (x.l = b))).map Ed.t)
theorem mem_stepL {es : List Ed} {st : List Int} {b t : Int} : t ∈ stepL es st b ↔ ∃ x ∈ es, x.t = t ∧ x.l = b ∧ x.f ∈ st := by
 unfold stepL
 rw [List.mem_flatMap]
 constructor
 ·rintro ⟨s, hs, h⟩
  obtain ⟨x, hx, rfl⟩ := List.mem_map.1 h
  obtain ⟨hx, h⟩ := List.mem_filter.1 hx
  simp only [Bool.and_eq_true, decide_eq_true_eq] at h
  exact ⟨x, hx, rfl, h.2, h.1 ▸ hs⟩
 ·rintro ⟨x, hx, rfl, h1, h2⟩
  exact ⟨x.f, h2, List.mem_map.2 ⟨x, List.mem_filter.2 ⟨hx, by simp [h1]⟩, rfl⟩⟩
theorem step_law {G : Gr} {st l : List Int} {b : Int} (hv : Vg G) (hs : l.Pairwise (· < ·)) (hm : ∀ x, x ∈ l ↔ x ∈ stepL G.es st b) : l = nextA G st b :=
 srt_unique hs (nextA_srt G st b) (fun x => by rw [hm, mem_stepL, mem_nextA hv])
end
section
open Go.RowKit
theorem norm_le (l : List Ed) : (norm l).length ≤ l.length := by
 rw [← norm_sort]; exact Nat.le_trans (compact_len _) (by simp)
theorem chkS_of {n : Int} : ∀ {l : List Int} {p : Option Int}, l.Pairwise (· < ·) → (∀ x ∈ l, 0 ≤ x ∧ x < n) → (∀ q, p = some q → ∀ x ∈ l, q < x) → chkS n p l = 0
 | [], _, _, _, _ => rfl
 | s :: l, p, h1, h2, h3 => by
  obtain ⟨a, b⟩ := List.pairwise_cons.1 h1
  have hp : ¬ leP p s = true := by
   cases p with
   | none => simp [leP]
   | some q => have := h3 q rfl s List.mem_cons_self; simp [leP]; omega
  rw [chkS_cons, if_neg (by have := h2 s List.mem_cons_self; omega), if_neg hp]
  exact chkS_of b (fun x hx => h2 x (List.mem_cons_of_mem _ hx)) (fun q hq x hx => by cases hq; exact a x hx)
structure St (n : Int) (l : List Int) : Prop where
 srt : l.Pairwise (· < ·)
 ins : ∀ x ∈ l, 0 ≤ x ∧ x < n
theorem St.chk {n : Int} {l : List Int} (h : St n l) : chkS n none l = 0 := chkS_of h.srt h.ins (by simp)
theorem St.eq {n : Int} {l : List Int} (h : St n l) : l = (upto n.toNat).filter (fun x => decide (x ∈ l)) :=
 srt_unique h.srt ((upto_srt _).filter _) (fun x => by
  rw [List.mem_filter, mem_upto, decide_eq_true_eq]
  exact ⟨fun hx => ⟨by have := h.ins x hx; omega, hx⟩, fun hx => hx.2⟩)
theorem St.len {n : Int} {l : List Int} (h : St n l) (hn : 0 ≤ n) : (l.length : Int) ≤ n := by
 have := List.length_filter_le (fun x => decide (x ∈ l)) (upto n.toNat)
 rw [← h.eq, upto_len] at this
 omega
theorem St.upto {n : Int} (hn : 0 ≤ n) : St n (upto n.toNat) := ⟨upto_srt _, fun x hx => by rw [mem_upto] at hx; omega⟩
theorem St.filter {n : Int} {l : List Int} (h : St n l) (p : Int → Bool) : St n (l.filter p) := ⟨h.srt.filter _, fun x hx => h.ins x (List.mem_filter.1 hx).1⟩
theorem iof_lt {x : Int} {l : List Int} (h : x ∈ l) : l.idxOf x < l.length := List.idxOf_lt_length_iff.2 h
theorem iof_get {x : Int} {l : List Int} (h : x ∈ l) : l[l.idxOf x]'(iof_lt h) = x := List.getElem_idxOf (iof_lt h)
theorem iof_mono {x y : Int} {l : List Int} (hs : l.Pairwise (· < ·)) (hx : x ∈ l) (hy : y ∈ l) (h : x < y) : l.idxOf x < l.idxOf y := by
 rcases Nat.lt_or_ge (l.idxOf x) (l.idxOf y) with h' | h'
 ·exact h'
 ·have ex := iof_get hx; have ey := iof_get hy
  by_cases e : l.idxOf y = l.idxOf x
  ·have : y = x := by rw [← ex, ← ey]; congr 1
   omega
  ·have := List.pairwise_iff_getElem.1 hs _ _ (iof_lt hy) (iof_lt hx) (by omega)
   rw [ex, ey] at this; omega
theorem iof_inj {x y : Int} {l : List Int} (hx : x ∈ l) (hy : y ∈ l) (h : l.idxOf x = l.idxOf y) : x = y := by
 rw [← iof_get hx, ← iof_get hy]; congr 1
theorem upto_get {n i : Nat} (h : i < (upto n).length) : (upto n)[i] = (i : Int) := by simp [Go.Proofs.YtocbhlohcikapaaGreatDoor.upto]
theorem partE_some {st : List Int} {x y : Ed} (h : partE st x = some y) : x.f ∈ st ∧ x.t ∈ st ∧ y = ⟨((st.idxOf x.f : Nat) : Int), x.l, ((st.idxOf x.t : Nat) : Int)⟩ := by
 unfold partE at h
 split at h
 ·rename_i hh; cases h; exact ⟨hh.1, hh.2, rfl⟩
 ·cases h
theorem part_vg {G : Gr} (h : Vg G) {st : List Int} (hs : St G.n st) : Vg (partA G st) := by
 have hl := hs.len h.n1
 have h2 := h.n2
 refine ⟨h.q1, h.q2, by show (0:Int) ≤ (st.length : Int); omega, by show (st.length : Int) ≤ 64; omega, Nat.le_trans (partE_len _ _) h.len, fun y hy => ?_, ?_⟩
 ·obtain ⟨x, hx, e⟩ := List.mem_filterMap.1 hy
  obtain ⟨a, b, rfl⟩ := partE_some e
  have := h.ins x hx
  have := iof_lt a; have := iof_lt b
  show (0:Int) ≤ ((st.idxOf x.f : Nat) : Int) ∧ 0 ≤ x.l ∧ (0:Int) ≤ ((st.idxOf x.t : Nat) : Int) ∧ ((st.idxOf x.f : Nat) : Int) < (st.length : Int) ∧ ((st.idxOf x.t : Nat) : Int) < (st.length : Int) ∧ x.l < G.q
  omega
 ·refine h.srt.filterMap _ (fun x x' hlt y hy y' hy' => ?_)
  obtain ⟨a, b, rfl⟩ := partE_some hy
  obtain ⟨a', b', rfl⟩ := partE_some hy'
  rw [ltE_iff] at hlt ⊢
  show ((st.idxOf x.f : Nat) : Int) < ((st.idxOf x'.f : Nat) : Int) ∨ (((st.idxOf x.f : Nat) : Int) = ((st.idxOf x'.f : Nat) : Int) ∧ (x.l < x'.l ∨ (x.l = x'.l ∧ ((st.idxOf x.t : Nat) : Int) < ((st.idxOf x'.t : Nat) : Int))))
  rcases hlt with h1 | ⟨h1, h2 | ⟨h2, h3⟩⟩
  ·have := iof_mono hs.srt a a' h1; omega
  ·rw [h1]; exact .inr ⟨rfl, .inl h2⟩
  ·have := iof_mono hs.srt b b' h3
   rw [h1]; exact .inr ⟨rfl, .inr ⟨h2, by omega⟩⟩
def Uq (l : List Ed) : Prop := l.Pairwise (fun a b => ¬ (a.f = b.f ∧ a.l = b.l))
theorem uq_of_det : ∀ {l : List Ed}, l.Pairwise (fun a b => ltE a b = true) → detB l = true → Uq l
 | [], _, _ => List.Pairwise.nil
 | [_], _, _ => by simp [Uq]
 | x :: y :: l, h, hd => by
  obtain ⟨h1, h2⟩ := List.pairwise_cons.1 h
  have hd1 : ¬ (x.f = y.f ∧ x.l = y.l) := fun e => by
   have := detB_f (l := x :: y :: l) 0 (by simp) (by simpa using e.1) (by simpa using e.2)
   rw [hd] at this; cases this
  have hd2 : detB (y :: l) = true := by
   cases hc : detB (y :: l)
   ·exfalso
    have : detB (x :: y :: l) = true → detB (y :: l) = true := fun h => by
     unfold detB at h
     first
     | exact (Bool.and_eq_true_iff.1 h).2
     | (split at h <;> simp_all)
    rw [this hd] at hc; cases hc
   ·rfl
  have ih := uq_of_det h2 hd2
  refine List.pairwise_cons.2 ⟨fun z hz => ?_, ih⟩
  rcases List.mem_cons.1 hz with e | hz
  ·subst e; exact hd1
  ·have a := ltE_iff.1 (h1 y List.mem_cons_self)
   have b := ltE_iff.1 ((List.pairwise_cons.1 h2).1 z hz)
   omega
theorem det_of_uq {l : List Ed} (h : Uq l) : detB l = true :=
 detB_t (fun k hk => List.pairwise_iff_getElem.1 h k (k + 1) (by omega) hk (by omega))
end
section
open Go.RowKit
def tgt (es : List Ed) (s a : Int) : Int := match es.find? (fun x => decide (x.f = s) && decide (x.l = a)) with
 | some x => x.t
 | none => -1
theorem tgt_or (es : List Ed) (s a : Int) : (tgt es s a = -1 ∧ ∀ x ∈ es, ¬ (x.f = s ∧ x.l = a)) ∨ ∃ x ∈ es, x.f = s ∧ x.l = a ∧ tgt es s a = x.t := by
 cases h : es.find? (fun x => decide (x.f = s) && decide (x.l = a)) with
 | none =>
  refine .inl ⟨by simp [tgt, h], fun x hx => ?_⟩
  have := List.find?_eq_none.1 h x hx
  simpa using this
 | some x =>
  have h1 := List.find?_some h
  have h2 := List.mem_of_find?_eq_some h
  rw [Bool.and_eq_true, decide_eq_true_eq, decide_eq_true_eq] at h1
  exact .inr ⟨x, h2, h1.1, h1.2, by simp [tgt, h]⟩
theorem uq_eq {es : List Ed} (hu : Uq es) {x y : Ed} (hx : x ∈ es) (hy : y ∈ es) (hf : x.f = y.f) (hl : x.l = y.l) : x = y := by
 obtain ⟨i, hi, rfl⟩ := List.mem_iff_getElem.1 hx
 obtain ⟨j, hj, rfl⟩ := List.mem_iff_getElem.1 hy
 rcases Nat.lt_trichotomy i j with h | h | h
 ·exact absurd ⟨hf, hl⟩ (List.pairwise_iff_getElem.1 hu i j hi hj h)
 ·subst h; rfl
 ·exact absurd ⟨hf.symm, hl.symm⟩ (List.pairwise_iff_getElem.1 hu j i hj hi h)
theorem tgt_at {es : List Ed} (hu : Uq es) {x : Ed} (hx : x ∈ es) : tgt es x.f x.l = x.t := by
 rcases tgt_or es x.f x.l with ⟨_, h⟩ | ⟨y, hy, h1, h2, h3⟩
 ·exact absurd ⟨rfl, rfl⟩ (h x hx)
 ·rw [h3, uq_eq hu hy hx h1 h2]
theorem tgt_snoc {es : List Ed} {x : Ed} (hu : Uq (es ++ [x])) (s a : Int) : tgt (es ++ [x]) s a = if x.f = s ∧ x.l = a then x.t else tgt es s a := by
 split
 ·rename_i h; obtain ⟨rfl, rfl⟩ := h; exact tgt_at hu (by simp)
 ·rename_i h
  unfold tgt
  rw [List.find?_append]
  have : (([x] : List Ed).find? (fun x => decide (x.f = s) && decide (x.l = a))) = none := by
   rw [List.find?_eq_none]
   intro y hy
   obtain rfl := List.mem_singleton.1 hy
   simpa using h
  rw [this, Option.or_none]
theorem tgt_bd {G : Gr} (hv : Vg G) (s a : Int) : -1 ≤ tgt G.es s a ∧ (0 ≤ tgt G.es s a → tgt G.es s a < G.n) := by
 rcases tgt_or G.es s a with ⟨h, _⟩ | ⟨x, hx, _, _, h⟩
 ·rw [h]; omega
 ·rw [h]; have := hv.ins x hx; omega
theorem uq_det {G : Gr} (hv : Vg G) (hd : detB G.es = true) : Uq G.es := uq_of_det hv.srt hd
structure Eqv (R : Nat → Nat → Bool) : Prop where
 refl : ∀ s, R s s = true
 symm : ∀ s t, R s t = true → R t s = true
 trans : ∀ s t u, R s t = true → R t u = true → R s u = true
def fstR (R : Nat → Nat → Bool) (s : Nat) : Bool := (List.range s).all (fun t => !R t s)
def frsR (R : Nat → Nat → Bool) (n : Nat) : List Nat := (List.range n).filter (fstR R)
def repR (R : Nat → Nat → Bool) (s : Nat) : Nat := ((List.range s).find? (fun t => R t s)).getD s
def numR (R : Nat → Nat → Bool) (s : Nat) : Int := ((frsR R (repR R s)).length : Int)
theorem fstR_iff {R : Nat → Nat → Bool} {s : Nat} : fstR R s = true ↔ ∀ t, t < s → R t s = false := by
 simp [fstR]
theorem frsR_succ (R : Nat → Nat → Bool) (k : Nat) : frsR R (k + 1) = frsR R k ++ if fstR R k = true then [k] else [] := by
 unfold frsR
 rw [List.range_succ, List.filter_append]
 congr 1
 by_cases h : fstR R k = true
 ·simp [h]
 ·simp [h]
theorem frsR_go {R : Nat → Nat → Bool} {k : Nat} (h : fstR R k = true) : frsR R (k + 1) = frsR R k ++ [k] := by rw [frsR_succ, if_pos h]
theorem frsR_stay {R : Nat → Nat → Bool} {k : Nat} (h : fstR R k = false) : frsR R (k + 1) = frsR R k := by rw [frsR_succ, if_neg (by simp [h]), List.append_nil]
theorem frsR_len (R : Nat → Nat → Bool) (n : Nat) : (frsR R n).length ≤ n := by
 have := List.length_filter_le (fstR R) (List.range n)
 rw [List.length_range] at this; exact this
theorem mem_frsR {R : Nat → Nat → Bool} {n s : Nat} : s ∈ frsR R n ↔ s < n ∧ fstR R s = true := by simp [frsR]
theorem frsR_mono (R : Nat → Nat → Bool) {a b : Nat} (h : a ≤ b) : ∃ m, frsR R b = frsR R a ++ m ∧ ∀ x ∈ m, a ≤ x := by
 induction b with
 | zero => obtain rfl : a = 0 := by omega
           exact ⟨[], by simp, by simp⟩
 | succ b ih =>
  by_cases e : a = b + 1
  ·subst e; exact ⟨[], by simp, by simp⟩
  ·obtain ⟨m, hm, hx⟩ := ih (by omega)
   refine ⟨m ++ (if fstR R b = true then [b] else []), by rw [frsR_succ, hm, List.append_assoc], fun x h => ?_⟩
   rcases List.mem_append.1 h with h | h
   ·exact hx x h
   ·split at h
    ·simp at h; omega
    ·simp at h
theorem repR_or (R : Nat → Nat → Bool) (s : Nat) : (fstR R s = true ∧ repR R s = s) ∨ (repR R s < s ∧ R (repR R s) s = true ∧ ∀ t, t < repR R s → R t s = false) := by
 cases h : (List.range s).find? (fun t => R t s) with
 | none =>
  refine .inl ⟨fstR_iff.2 (fun t ht => ?_), by simp [repR, h]⟩
  have := List.find?_eq_none.1 h t (by simpa using ht)
  simpa using this
 | some t =>
  obtain ⟨h1, h2, h3⟩ := List.find?_range_eq_some.1 h
  have e : repR R s = t := by simp [repR, h]
  rw [e]
  refine .inr ⟨by simpa using h2, h1, fun j hj => ?_⟩
  simpa using h3 j hj
section
variable {R : Nat → Nat → Bool}
theorem repR_le (R : Nat → Nat → Bool) (s : Nat) : repR R s ≤ s := by rcases repR_or R s with h | h <;> omega
theorem repR_rel (hE : Eqv R) (s : Nat) : R (repR R s) s = true := by
 rcases repR_or R s with ⟨_, h⟩ | ⟨_, h, _⟩
 ·rw [h]; exact hE.refl s
 ·exact h
theorem repR_min {s t : Nat} (h : R t s = true) : repR R s ≤ t := by
 rcases repR_or R s with ⟨h1, h2⟩ | ⟨_, _, h3⟩
 ·rw [h2]
  by_cases hlt : t < s
  ·rw [fstR_iff.1 h1 t hlt] at h; cases h
  ·omega
 ·by_cases hlt : t < repR R s
  ·rw [h3 t hlt] at h; cases h
  ·omega
theorem repR_eq (hE : Eqv R) {r s : Nat} (h : R r s = true) : repR R r = repR R s := by
 have h1 := repR_min (hE.trans _ _ _ (repR_rel hE r) h)
 have h2 := repR_min (hE.trans _ _ _ (repR_rel hE s) (hE.symm _ _ h))
 omega
theorem repR_fst (hE : Eqv R) (s : Nat) : fstR R (repR R s) = true := by
 rw [fstR_iff]
 intro t ht
 cases h : R t (repR R s)
 ·rfl
 ·have := repR_min (hE.trans _ _ _ h (repR_rel hE s)); omega
theorem repR_self {s : Nat} (h : fstR R s = true) : repR R s = s := by
 rcases repR_or R s with h1 | ⟨h1, h2, _⟩
 ·exact h1.2
 ·rw [fstR_iff.1 h _ h1] at h2; cases h2
theorem numR_iff (hE : Eqv R) {r s : Nat} : numR R r = numR R s ↔ R r s = true := by
 constructor
 ·intro h
  have key : ∀ a b : Nat, fstR R a = true → a < b → (frsR R a).length < (frsR R b).length := by
   intro a b ha hab
   obtain ⟨m, hm, _⟩ := frsR_mono R (show a + 1 ≤ b by omega)
   rw [hm, frsR_go ha, List.length_append, List.length_append, List.length_singleton]; omega
  have hl : (frsR R (repR R r)).length = (frsR R (repR R s)).length := by unfold numR at h; omega
  have e : repR R r = repR R s := by
   rcases Nat.lt_trichotomy (repR R r) (repR R s) with h1 | h1 | h1
   ·have := key _ _ (repR_fst hE r) h1; omega
   ·exact h1
   ·have := key _ _ (repR_fst hE s) h1; omega
  exact hE.trans _ _ _ (hE.symm _ _ (repR_rel hE r)) (e ▸ repR_rel hE s)
 ·intro h; unfold numR; rw [repR_eq hE h]
theorem numR_new {s : Nat} (h : fstR R s = true) : numR R s = ((frsR R s).length : Int) := by unfold numR; rw [repR_self h]
theorem numR_old (hE : Eqv R) {s k : Nat} (hk : k < (frsR R s).length) (h : R (frsR R s)[k] s = true) : fstR R s = false ∧ numR R s = k := by
 obtain ⟨h1, h2⟩ := mem_frsR.1 (List.getElem_mem hk)
 obtain ⟨m, hm, hx⟩ := frsR_mono R (Nat.le_of_lt h1)
 obtain ⟨m', hm', hx'⟩ := frsR_mono R (show (frsR R s)[k] + 1 ≤ s from h1)
 have hr : repR R s = (frsR R s)[k] := by rw [← repR_eq hE h, repR_self h2]
 refine ⟨?_, ?_⟩
 ·cases hf : fstR R s
  ·rfl
  ·rw [fstR_iff.1 hf _ h1] at h; cases h
 ·unfold numR
  rw [hr]
  have hp : (frsR R s).Pairwise (· < ·) := List.Pairwise.filter _ List.pairwise_lt_range
  have e : frsR R s = (frsR R (frsR R s)[k] ++ [(frsR R s)[k]]) ++ m' := by rw [← frsR_go h2]; exact hm'
  generalize hg : (frsR R s)[k] = g at *
  have hj : (frsR R g).length < (frsR R s).length := by rw [e]; simp <;> omega
  have hv : (frsR R s)[(frsR R g).length]'hj = g := by
   have : (frsR R s)[(frsR R g).length]? = some g := by rw [e]; simp
   rw [List.getElem?_eq_getElem hj] at this
   exact Option.some.inj this
  rcases Nat.lt_trichotomy k (frsR R g).length with h3 | h3 | h3
  ·have := List.pairwise_iff_getElem.1 hp k _ hk hj h3
   rw [hv, hg] at this; omega
  ·omega
  ·have := List.pairwise_iff_getElem.1 hp _ k hj hk h3
   rw [hv, hg] at this; omega
theorem numR_none (hE : Eqv R) {s : Nat} (h : ∀ k (hk : k < (frsR R s).length), R (frsR R s)[k] s = false) : fstR R s = true ∧ numR R s = ((frsR R s).length : Int) := by
 have hf : fstR R s = true := by
  rcases repR_or R s with h1 | ⟨h1, h2, _⟩
  ·exact h1.1
  ·have hm : repR R s ∈ frsR R s := mem_frsR.2 ⟨h1, repR_fst hE s⟩
   obtain ⟨k, hk, e⟩ := List.mem_iff_getElem.1 hm
   have := h k hk
   rw [e, h2] at this; cases this
 exact ⟨hf, numR_new hf⟩
theorem numR_like (hE : Eqv R) {s t : Nat} (h : R t s = true) : numR R s = numR R t := ((numR_iff hE).2 h).symm
theorem numR_bd (hE : Eqv R) (s n : Nat) (h : s < n) : 0 ≤ numR R s ∧ numR R s < ((frsR R n).length : Int) := by
 have h1 := repR_fst hE s
 obtain ⟨m, hm, _⟩ := frsR_mono R (show repR R s + 1 ≤ n by have := repR_le R s; omega)
 unfold numR
 rw [hm, frsR_go h1, List.length_append, List.length_append, List.length_singleton]
 omega
end
theorem find_congr {p q : Nat → Bool} : ∀ {l : List Nat}, (∀ x ∈ l, p x = q x) → l.find? p = l.find? q
 | [], _ => rfl
 | x :: l, h => by
  rw [List.find?_cons, List.find?_cons, h x (by simp), find_congr (fun y hy => h y (by simp [hy]))]
theorem fstR_congr {R R' : Nat → Nat → Bool} {s : Nat} (h : ∀ t, t < s → R t s = R' t s) : fstR R s = fstR R' s := by
 rw [Bool.eq_iff_iff, fstR_iff, fstR_iff]
 constructor
 ·intro g t ht; rw [← h t ht]; exact g t ht
 ·intro g t ht; rw [h t ht]; exact g t ht
theorem frsR_congr {R R' : Nat → Nat → Bool} {n : Nat} (h : ∀ s, s < n → ∀ t, t < s → R t s = R' t s) : frsR R n = frsR R' n := by
 unfold frsR
 apply List.filter_congr
 intro s hs
 exact fstR_congr (h s (by simpa using hs))
theorem repR_congr {R R' : Nat → Nat → Bool} {s : Nat} (h : ∀ t, t < s → R t s = R' t s) : repR R s = repR R' s := by
 unfold repR
 rw [find_congr (fun t ht => h t (by simpa using ht))]
theorem numR_congr {R R' : Nat → Nat → Bool} {n s : Nat} (hs : s < n) (h : ∀ s, s < n → ∀ t, t < s → R t s = R' t s) : numR R s = numR R' s := by
 unfold numR
 rw [← repR_congr (h s hs), frsR_congr (fun u hu t ht => h u (by have := repR_le R s; omega) t ht)]
theorem same_of_count {R R' : Nat → Nat → Bool} (hE : Eqv R) (hE' : Eqv R') {n : Nat} (hsub : ∀ r s, r < n → s < n → R r s = true → R' r s = true) (hc : (frsR R n).length = (frsR R' n).length) :
  ∀ r s, r < n → s < n → R r s = R' r s := by
 have hm : ∀ s, s < n → fstR R' s = true → fstR R s = true := by
  intro s hs h
  rw [fstR_iff] at *
  intro t ht
  cases e : R t s
  ·rfl
  ·have := hsub t s (by omega) hs e; rw [h t ht] at this; cases this
 have hf : ∀ s, s < n → fstR R s = true → fstR R' s = true := by
  have he : frsR R' n = (frsR R n).filter (fstR R') := by
   unfold frsR
   rw [List.filter_filter]
   apply List.filter_congr
   intro s hs
   have := hm s (by simpa using hs)
   cases h1 : fstR R' s
   ·simp
   ·simp [this h1]
  have hl : ((frsR R n).filter (fstR R')).length = (frsR R n).length := by rw [← he, hc]
  intro s hs h
  have hall := List.filter_eq_self.1 (List.Sublist.eq_of_length List.filter_sublist hl)
  exact hall s (mem_frsR.2 ⟨hs, h⟩)
 intro r s hr hs
 cases e : R' r s
 ·cases e2 : R r s
  ·rfl
  ·rw [hsub r s hr hs e2] at e; cases e
 ·have a1 := repR_rel hE r
  have a2 := repR_rel hE s
  have l1 := repR_le R r
  have l2 := repR_le R s
  have b1 := hsub _ _ (by omega) hr a1
  have b2 := hsub _ _ (by omega) hs a2
  have g : R' (repR R r) (repR R s) = true := hE'.trans _ _ _ (hE'.trans _ _ _ b1 e) (hE'.symm _ _ b2)
  have f1 := hf _ (by omega) (repR_fst hE r)
  have f2 := hf _ (by omega) (repR_fst hE s)
  have e3 : repR R r = repR R s := by
   rcases Nat.lt_trichotomy (repR R r) (repR R s) with h | h | h
   ·rw [fstR_iff.1 f2 _ h] at g; cases g
   ·exact h
   ·have g2 := hE'.symm _ _ g
    rw [fstR_iff.1 f1 _ h] at g2; cases g2
  exact hE.trans _ _ _ (hE.symm _ _ a1) (e3 ▸ a2)
def cg (c : List Int) (s : Int) : Int := c.getD s.toNat 0
def alkB (es : List Ed) (c : List Int) (r s : Nat) (a : Nat) : Bool :=
 decide ((tgt es r a < 0) ↔ (tgt es s a < 0)) && (decide (tgt es r a < 0) || decide (cg c (tgt es r a) = cg c (tgt es s a)))
def alkA (q : Nat) (es : List Ed) (c : List Int) (r s : Nat) : Bool := (List.range q).all (alkB es c r s)
def relA (q : Nat) (es : List Ed) (c : List Int) (r s : Nat) : Bool := decide (cg c r = cg c s) && alkA q es c r s
def eqA (c : List Int) (r s : Nat) : Bool := decide (cg c r = cg c s)
theorem alkB_iff {es : List Ed} {c : List Int} {r s a : Nat} : alkB es c r s a = true ↔ ((tgt es r a < 0 ↔ tgt es s a < 0) ∧ (0 ≤ tgt es r a → cg c (tgt es r a) = cg c (tgt es s a))) := by
 unfold alkB
 rw [Bool.and_eq_true, Bool.or_eq_true, decide_eq_true_eq, decide_eq_true_eq, decide_eq_true_eq]
 constructor
 ·rintro ⟨h1, h2⟩; exact ⟨h1, fun h => h2.resolve_left (by omega)⟩
 ·rintro ⟨h1, h2⟩
  refine ⟨h1, ?_⟩
  by_cases h : tgt es r a < 0
  ·exact .inl h
  ·exact .inr (h2 (by omega))
theorem alkA_iff {q : Nat} {es : List Ed} {c : List Int} {r s : Nat} : alkA q es c r s = true ↔ ∀ a, a < q → ((tgt es r a < 0 ↔ tgt es s a < 0) ∧ (0 ≤ tgt es r a → cg c (tgt es r a) = cg c (tgt es s a))) := by
 unfold alkA
 rw [List.all_eq_true]
 constructor
 ·intro h a ha; exact alkB_iff.1 (h a (by simpa using ha))
 ·intro h a ha; exact alkB_iff.2 (h a (by simpa using ha))
theorem relA_iff {q : Nat} {es : List Ed} {c : List Int} {r s : Nat} : relA q es c r s = true ↔ cg c r = cg c s ∧ ∀ a, a < q → ((tgt es r a < 0 ↔ tgt es s a < 0) ∧ (0 ≤ tgt es r a → cg c (tgt es r a) = cg c (tgt es s a))) := by
 unfold relA; rw [Bool.and_eq_true, decide_eq_true_eq, alkA_iff]
theorem relA_eqv (q : Nat) (es : List Ed) (c : List Int) : Eqv (relA q es c) where
 refl s := by rw [relA_iff]; exact ⟨rfl, fun a _ => ⟨Iff.rfl, fun _ => rfl⟩⟩
 symm s t h := by
  rw [relA_iff] at *
  refine ⟨h.1.symm, fun a ha => ?_⟩
  obtain ⟨h1, h2⟩ := h.2 a ha
  exact ⟨h1.symm, fun h => (h2 (by omega)).symm⟩
 trans s t u h k := by
  rw [relA_iff] at *
  refine ⟨h.1.trans k.1, fun a ha => ?_⟩
  obtain ⟨h1, h2⟩ := h.2 a ha
  obtain ⟨k1, k2⟩ := k.2 a ha
  exact ⟨h1.trans k1, fun h => (h2 h).trans (k2 (by omega))⟩
theorem eqA_eqv (c : List Int) : Eqv (eqA c) where
 refl s := by simp [eqA]
 symm s t h := by simp [eqA] at *; exact h.symm
 trans s t u h k := by simp [eqA] at *; exact h.trans k
def clsN (q n : Nat) (es : List Ed) : Nat → List Int
 | 0 => List.replicate n 0
 | k + 1 => (List.range n).map (numR (relA q es (clsN q n es k)))
def clA (G : Gr) : List Int := clsN G.q.toNat G.n.toNat G.es G.n.toNat
def mcA (n : Nat) (c : List Int) : Nat := (frsR (eqA c) n).length
section
variable {q n : Nat} {es : List Ed}
theorem clsN_len (k : Nat) : (clsN q n es k).length = n := by cases k <;> simp [clsN]
theorem cg_map (f : Nat → Int) {s : Nat} (hs : s < n) : cg ((List.range n).map f) s = f s := by
 unfold cg
 rw [Int.toNat_natCast]
 simp [List.getD, hs]
theorem cg_succ (k : Nat) {s : Nat} (hs : s < n) : cg (clsN q n es (k + 1)) s = numR (relA q es (clsN q n es k)) s := by rw [clsN, cg_map _ hs]
theorem eqA_succ (k : Nat) {r s : Nat} (hr : r < n) (hs : s < n) : eqA (clsN q n es (k + 1)) r s = relA q es (clsN q n es k) r s := by
 unfold eqA
 rw [cg_succ k hr, cg_succ k hs, Bool.eq_iff_iff, decide_eq_true_eq]
 exact numR_iff (relA_eqv _ _ _)
theorem mcA_succ (k : Nat) : mcA n (clsN q n es (k + 1)) = (frsR (relA q es (clsN q n es k)) n).length := by
 unfold mcA
 rw [frsR_congr (fun s hs t ht => eqA_succ k (by omega) hs)]
theorem cg_zero (s : Int) : cg (clsN q n es 0) s = 0 := by
 unfold cg clsN
 rw [List.getD_eq_getElem?_getD, List.getElem?_replicate]
 split <;> rfl
theorem frs_one : ∀ m, frsR (fun _ _ => true) m = if m = 0 then [] else [0]
 | 0 => rfl
 | m + 1 => by
  rw [frsR_succ, frs_one m]
  cases m with
  | zero => rfl
  | succ m =>
   have : fstR (fun _ _ => true) (m + 1) = false := by
    rw [Bool.eq_false_iff]; intro h
    have := fstR_iff.1 h 0 (by omega)
    cases this
   simp [this]
theorem eqA_zero (r s : Nat) : eqA (clsN q n es 0) r s = true := by simp [eqA, cg_zero]
theorem mcA_zero : mcA n (clsN q n es 0) = min n 1 := by
 unfold mcA
 rw [frsR_congr (R' := fun _ _ => true) (fun s _ t _ => eqA_zero t s), frs_one]
 split
 ·rename_i h; subst h; rfl
 ·simp; omega
theorem canon (k : Nat) : clsN q n es k = (List.range n).map (numR (eqA (clsN q n es k))) := by
 cases k with
 | zero =>
  apply List.ext_getElem
  ·simp [clsN]
  ·intro i h1 h2
   have e0 : numR (eqA (clsN q n es 0)) i = 0 := by
    unfold numR
    have : repR (eqA (clsN q n es 0)) i = 0 := by
     have := repR_min (R := eqA (clsN q n es 0)) (eqA_zero 0 i)
     omega
    rw [this]; rfl
   rw [List.getElem_map, List.getElem_range, e0]
   simp [clsN]
 | succ k =>
  have h : ∀ s, s < n → numR (relA q es (clsN q n es k)) s = numR (eqA (clsN q n es (k + 1))) s := fun s hs =>
   numR_congr hs (fun u hu t ht => (eqA_succ k (by omega) hu).symm)
  show (List.range n).map (numR (relA q es (clsN q n es k))) = _
  apply List.map_congr_left
  intro s hs
  exact h s (by simpa using hs)
theorem relA_sub (c : List Int) (r s : Nat) (h : relA q es c r s = true) : eqA c r s = true := by
 rw [relA_iff] at h; simp [eqA, h.1]
theorem cls_same {k : Nat} : mcA n (clsN q n es (k + 1)) = mcA n (clsN q n es k) ↔ clsN q n es (k + 1) = clsN q n es k := by
 constructor
 ·intro h
  rw [mcA_succ] at h
  have := same_of_count (relA_eqv q es (clsN q n es k)) (eqA_eqv (clsN q n es k)) (n := n) (fun r s _ _ => relA_sub _ r s) h
  rw [canon k]
  show (List.range n).map (numR (relA q es (clsN q n es k))) = _
  apply List.map_congr_left
  intro s hs
  exact numR_congr (by simpa using hs) (fun u hu t ht => this t u (by omega) hu)
 ·intro h; rw [h]
theorem mcA_le (k : Nat) : mcA n (clsN q n es k) ≤ mcA n (clsN q n es (k + 1)) := by
 rw [mcA_succ]
 unfold mcA frsR
 have h : ∀ s, s ∈ List.range n → fstR (eqA (clsN q n es k)) s = true → fstR (relA q es (clsN q n es k)) s = true := by
  intro s _ h
  rw [fstR_iff] at *
  intro t ht
  cases e : relA q es (clsN q n es k) t s
  ·rfl
  ·have h2 := h t ht
   rw [relA_sub _ t s e] at h2; cases h2
 rw [← List.countP_eq_length_filter, ← List.countP_eq_length_filter]
 exact List.countP_mono_left h
theorem mcA_max (c : List Int) : mcA n c ≤ n := frsR_len _ _
theorem cls_stay {k : Nat} (h : clsN q n es (k + 1) = clsN q n es k) : ∀ m, k ≤ m → clsN q n es m = clsN q n es k := by
 intro m
 induction m with
 | zero => intro hm; obtain rfl : k = 0 := by omega
           rfl
 | succ m ih =>
  intro hm
  by_cases e : k = m + 1
  ·subst e; rfl
  ·have h1 := ih (by omega)
   rw [← h]
   show (List.range n).map (numR (relA q es (clsN q n es m))) = _
   rw [h1]; rfl
theorem cls_end {k : Nat} (hk : k ≤ mcA n (clsN q n es k)) (h : clsN q n es (k + 1) = clsN q n es k) : clsN q n es n = clsN q n es k :=
 cls_stay h n (Nat.le_trans hk (mcA_max _))
theorem cls_more {k : Nat} (hk : k ≤ mcA n (clsN q n es k)) (h : clsN q n es (k + 1) ≠ clsN q n es k) : k + 1 ≤ mcA n (clsN q n es (k + 1)) ∧ mcA n (clsN q n es k) < mcA n (clsN q n es (k + 1)) := by
 have h1 := mcA_le (q := q) (n := n) (es := es) k
 have h2 : mcA n (clsN q n es (k + 1)) ≠ mcA n (clsN q n es k) := fun e => h (cls_same.1 e)
 omega
theorem cls_fix : clsN q n es (n + 1) = clsN q n es n := by
 have key : ∀ k, clsN q n es (k + 1) = clsN q n es k ∨ k + 1 ≤ mcA n (clsN q n es (k + 1)) := by
  intro k
  induction k with
  | zero =>
   by_cases e : clsN q n es 1 = clsN q n es 0
   ·exact .inl e
   ·exact .inr (cls_more (Nat.zero_le _) e).1
  | succ k ih =>
   by_cases e : clsN q n es (k + 1 + 1) = clsN q n es (k + 1)
   ·exact .inl e
   ·rcases ih with h | h
    ·exfalso; apply e
     show (List.range n).map (numR (relA q es (clsN q n es (k + 1)))) = _
     rw [h]; exact h
    ·exact .inr (cls_more h e).1
 rcases key n with h | h
 ·exact h
 ·have := mcA_max (n := n) (clsN q n es (n + 1)); omega
end
end
section
open Go.RowKit
abbrev Pw := (Int × Int) × List Int
def nxt (es : List Ed) (s a : Int) : Int := if s < 0 then -1 else tgt es s a
end
section
open Go.RowKit Go.Sort
theorem infoJ : (Tryz.prog.info? 3).map (fun i => (i.zero, i.size, i.bytes)) = some (some (.int .i64 0), 1, 8) := by kernel_rfl
theorem own_vrowJ {w : World} {B e g n : Nat} {xs : List Value} (h : w.ownsRow B e 1 (.slice (some ⟨g, 0, none⟩) n n) n xs) : VRow w g e xs := by
 rcases h.2 with ⟨e0, _⟩ | ⟨g', cap', cur, e0, hg, hh, hc, hm, hs, ht⟩
 ·cases e0
 ·cases e0
  have h1 : cur.toList.take (n * 1) = cur.toList := List.take_of_length_le (by simp [hs])
  rw [h1] at ht
  subst ht
  exact hh
theorem made_rowJ {w : World} {B e g n : Nat} (h : w.ownsRow B e 1 (.slice (some ⟨g, 0, none⟩) n n) n (madeCells (Value.int .i64 0).cells (n * 1)).toList) : VRow w g e (List.replicate n (.int .i64 0)) := by
 have := own_vrowJ h
 rw [show (Value.int .i64 0).cells = #[Value.int .i64 0] from rfl, toList_madeCells_one, Nat.mul_one] at this
 exact this
def RetRep (v : Value) (m : Nat) (w : World) (e : Ending) (w' : World) : Prop :=
 ∃ g, e = .returned (.slice (some ⟨g, 0, none⟩) m m) ∧ w.heap.size ≤ g ∧ VRow w' g 3 (List.replicate m v) ∧ RowKit.Below w.heap.size w w'
theorem rep_splice (v z : Value) (n m k : Nat) (_ : n + k ≤ m) : splice (List.replicate n v ++ List.replicate (m - n) z) n (List.replicate k v) = List.replicate (n + k) v ++ List.replicate (m - (n + k)) z := by
 unfold splice
 rw [List.take_append_of_le_length (by simp), List.take_of_length_le (by simp), List.drop_append, List.drop_of_length_le (by simp), List.nil_append, List.length_replicate, List.length_replicate, List.drop_replicate,
  ← List.append_assoc, List.replicate_append_replicate, show n + k - n = k by omega, show m - n - k = m - (n + k) by omega]
theorem one_src {w : World} {b o : Nat} {v : Value} (h : w.cell? ⟨b, o, none⟩ = some v) : ∀ (j : Nat) (u : Value), ([v] : List Value)[j]? = some u → w.cell? ((⟨b, o, none⟩ : Addr).add j) = some u := by
 intro j u hj
 cases j with
 | zero => simp at hj; subst hj; exact h
 | succ j => simp at hj
theorem step_copy_run {P : Program} {w : World} {ops : Array Oper} {o : Oper} {a : Act} {K : Act → World → Prop} {Q : Exit → Act → World → Prop} {E : Prop} (hgd : o.guard = none) (s x : Operand) (t t' : TypeId)
  (ho : o.op = .call { callee := .builtin .copy, args := #[s, x], argTypes := #[t, t'] }) (sv xv : Value) (hs : a.eval s = sv) (hx : a.eval x = xv) (v' : Value) (w' : World)
  (hrun : (Builtin.copy_ #[t, t'] o.type #[sv, xv]).run P w = .ok v' w') (h : K (a.put o.dst v') w') : if Region.wanted o (yielded ops a.tmps) = true then Oper.wp P o a w K Q else E := by
 have hw : Region.wanted o (yielded ops a.tmps) = true := by simp [Region.wanted, hgd]
 rw [if_pos hw]
 unfold Oper.wp execOp
 simp only [ho, resolve, invoke, builtin, Sem.run_bind, Sem.run_pure, Result.andThen_ok, List.map_toArray, List.map_cons, List.map_nil, hs, hx, hrun]
 exact h
theorem copy_to {w w1 : World} {B off n m c : Nat} {sp : Addr} {R cs : List Value} (hs : Option.map (fun x => x.size) (Tryz.prog.info? 3) = some 1) (hr : VRow w1 B 3 R) (hB : RowKit.Below w.heap.size w w1) (hb : w.heap.size ≤ B)
  (hn : cs.length = min m n) (hsrc : ∀ (j : Nat) (v : Value), cs[j]? = some v → w1.cell? (sp.add j) = some v) (hfit : off + cs.length ≤ R.length) (h1 : ∀ v ∈ cs, v.oneCell' = true) (d : Nat) :
  ∃ w2, (Builtin.copy_ #[30, 30] 3 #[.slice (some ⟨B, off, none⟩) n d, .slice (some sp) m c]).run Tryz.prog w1 = .ok (goInt cs.length) w2 ∧ VRow w2 B 3 (splice R off cs) ∧ RowKit.Below w.heap.size w w2 := by
 have h := run_copy_row Tryz.prog w1 30 30 3 3 B off n d sp m c R.toArray 3 cs Tryz.underlying30 hs hr hn hsrc (by simpa using hfit) h1
 refine ⟨_, h, ?_, below_setRow hB hb _⟩
 have hh := setRow_heap w1 B R.toArray (R.toArray.toList.take off ++ cs ++ R.toArray.toList.drop (off + cs.length)).toArray 3 (0, 0) hr
 unfold VRow
 refine hh.trans ?_
 unfold splice
 rw [List.append_assoc]
theorem rep_first (x : Int) (b o c m : Nat) (w w1 : World) (hs : Option.map (fun x => x.size) (Tryz.prog.info? 3) = some 1) (hx : w1.cell? ⟨b, o, none⟩ = some (.int .i64 x)) (hr : VRow w1 w.heap.size 3 (List.replicate m (.int .i64 0))) (hB : RowKit.Below w.heap.size w w1) (h1 : 1 ≤ m) :
  ∃ w2, (Builtin.copy_ #[30, 30] 3 #[.slice (some ⟨w.heap.size, 0, none⟩) m m, .slice (some ⟨b, o, none⟩) 1 c]).run Tryz.prog w1 = .ok (goInt 1) w2 ∧ VRow w2 w.heap.size 3 (List.replicate 1 (.int .i64 x) ++ List.replicate (m - 1) (.int .i64 0)) ∧ RowKit.Below w.heap.size w w2 := by
 obtain ⟨w2, h2, h3, h4⟩ := copy_to (c := c) (n := m) (m := 1) (off := 0) (cs := [.int .i64 x]) hs hr hB (Nat.le_refl _) (by rw [List.length_singleton]; omega) (one_src hx) (by rw [List.length_singleton, List.length_replicate]; omega) (by simp [Value.oneCell']) m
 refine ⟨w2, h2, ?_, h4⟩
 have e := rep_splice (.int .i64 x) (.int .i64 0) 0 m 1 (by omega)
 rw [Nat.zero_add, List.replicate_zero, List.nil_append, Nat.sub_zero] at e
 rw [← e]; exact h3
theorem rep_next (x : Int) (n m : Nat) (w w1 : World) (hs : Option.map (fun x => x.size) (Tryz.prog.info? 3) = some 1) (hr : VRow w1 w.heap.size 3 (List.replicate n (.int .i64 x) ++ List.replicate (m - n) (.int .i64 0))) (hB : RowKit.Below w.heap.size w w1) (h1 : 1 ≤ n) (h2 : n < m) :
  ∃ w2 k, 1 ≤ k ∧ n + k ≤ m ∧ (Builtin.copy_ #[30, 30] 3 #[.slice (some ⟨w.heap.size, n, none⟩) (m - n) (m - n), .slice (some ⟨w.heap.size, 0, none⟩) n m]).run Tryz.prog w1 = .ok (goInt k) w2 ∧ VRow w2 w.heap.size 3 (List.replicate (n + k) (.int .i64 x) ++ List.replicate (m - (n + k)) (.int .i64 0)) ∧ RowKit.Below w.heap.size w w2 := by
 obtain ⟨k, hk⟩ : ∃ k, k = min n (m - n) := ⟨_, rfl⟩
 have hk1 : 1 ≤ k ∧ n + k ≤ m ∧ k ≤ n := by omega
 obtain ⟨w2, h5, h3, h4⟩ := copy_to (c := m) (n := m - n) (m := n) (off := n) (sp := ⟨w.heap.size, 0, none⟩) (cs := List.replicate k (.int .i64 x)) hs hr hB (Nat.le_refl _) (by rw [List.length_replicate, hk]) (by
  intro j v hv
  rw [List.getElem?_replicate] at hv
  split at hv
  ·cases hv
   rw [show (⟨w.heap.size, 0, none⟩ : Addr).add j = ⟨w.heap.size, 0 + j, none⟩ by unfold Addr.add; split <;> simp_all, Nat.zero_add, hr.cell, List.getElem?_append_left (by simp; omega), List.getElem?_replicate, if_pos (by omega)]
  ·cases hv) (by simp; omega) (by intro v hv; rw [List.eq_of_mem_replicate hv]; rfl) (m - n)
 rw [List.length_replicate] at h5
 refine ⟨w2, k, hk1.1, hk1.2.1, h5, ?_, h4⟩
 rw [← rep_splice (.int .i64 x) (.int .i64 0) n m k hk1.2.1]; exact h3
set_option maxRecDepth 100000 in
set_option maxHeartbeats 1000000 in
theorem repeatI_any (x : Int) (b o c m : Nat) (w : World) (hx : w.cell? ⟨b, o, none⟩ = some (.int .i64 x)) (h1 : 1 ≤ m) (h2 : m ≤ 100000) :
  Calls Tryz.prog 120 #[.slice (some ⟨b, o, none⟩) 1 c, .int .i64 m] w (RetRep (.int .i64 x) m w) := by
 obtain ⟨i0, hi0, hz0, hz1, hz3⟩ := info_parts infoJ
 have hb : b < w.heap.size := World.block_lt_of_cell? w _ hx
 have hsz1 : Option.map (fun x => x.size) (Tryz.prog.info? 3) = some 1 := by rw [hi0]; simp [hz1]
 have hmn : ¬ (m : Int) < 0 := by omega
 have e1 : ((1 : Nat) * m / 18446744073709551616 : Nat) = 0 := by omega
 have e2 : ((1 : Nat) * m % 18446744073709551616 : Nat) = m := by omega
 have HM : Hid (∀ W, Calls Tryz.prog 174 #[.int .u64 1, .int .u64 m] W fun e w' => e = .returned (.tuple #[.int .u64 0, .int .u64 m]) ∧ w' = W) := fun W => by
  have := Tryz.bits_Mul 1 m (by omega) (by omega) W
  rw [e1, e2] at this
  exact this
 have hwi : IntKind.i64.wrap (m : Int) = m := by rw [IntKind.wrap_i64]; omega
 have hwu : IntKind.u64.wrap (m : Int) = m := by rw [IntKind.wrap_u64]; omega
 clear e1 e2
 go_enter Tryz.func120, Tryz.ntmps120
 go_wp2_with fail
 refine (HM.out _).mono ?_
 rintro e w2 ⟨rfl, hw2⟩
 have hw2 := hw2.symm
 subst hw2
 have hms : ¬ (9223372036854775807 : Int) < (m : Int) := by omega
 go_wp2_with (at_make; refine wpList_make_full _ rfl _ _ 30 rfl w.heap.size 3 i0 (.int .i64 0) 1 Tryz.underlying30 hi0 hz0 hz1 .i64 .i64 _ _ m rfl rfl (by omega) (by omega) (by rw [hz3]; omega) (by unfold maxLen; omega) (Nat.le_refl _) ?_; intro w1 hown hgrow)
 obtain ⟨w2, hrun, hr2, hB2⟩ := rep_first x b o c m w w1 hsz1 (hgrow.cell hx (by simp)) (made_rowJ hown) ((RowKit.Below.refl w.heap.size w).grown hgrow (Nat.le_refl _) (by simp)) h1
 rw [hrun]
 clear hown hgrow hrun hx
 go_wp2
 go_loopw [8] (fun iv wr => ∃ n : Nat, 1 ≤ n ∧ n ≤ m ∧ iv = .int .i64 n ∧ VRow wr w.heap.size 3 (List.replicate n (.int .i64 x) ++ List.replicate (m - n) (.int .i64 0)) ∧ RowKit.Below w.heap.size w wr) (fun iv _ => m - (intOf iv).toNat)
 case atStart => exact ⟨1, by omega, h1, rfl, hr2, hB2⟩
 case round =>
  clear hr2 hB2
  obtain ⟨n, hn1, hnm, rfl, hr, hB⟩ := hrel
  by_cases hlt : n < m
  ·have hltI : (n : Int) < (m : Int) := by omega
   go_upto_region 9 with fail
   obtain ⟨w3, k, hk1, hk2, hrun, hr3, hB3⟩ := rep_next x n m w wr.drew hsz1 (hr.dr ⟨1, rfl⟩) (hB.trans ((show Dr wr wr.drew from ⟨1, rfl⟩).below _)) hn1 hlt
   clear hr hB
   have hwk : IntKind.i64.wrap ((n : Int) + (k : Int)) = (n : Int) + k := by rw [IntKind.wrap_i64]; omega
   have hle0 : (0 : Int) ≤ n := by omega
   have hmne : ¬ m = n := by omega
   have hle1 : (n : Int) ≤ m := by omega
   go_region_law (refine step_copy_run rfl (.tmp 41) (.tmp 44) 30 30 rfl (.slice (some ⟨w.heap.size, n, none⟩) (m - n) (m - n)) (.slice (some ⟨w.heap.size, 0, none⟩) n m) (by simp [Act.eval, Act.put, hmne]) (by simp [Act.eval, Act.put, hmne]) (.int .i64 (k : Int)) w3 hrun ?_)
   go_wp2
   go_roundw
   case rel => (repeat apply Exists.intro); exact ⟨⟨n + k, by omega, hk2, by go_num, hr3, hB3⟩, rfl⟩
   case measure => simp [intOf, Act.put]; omega
  ·obtain rfl : n = m := by omega
   have hltI : ¬ (n : Int) < (n : Int) := by omega
   go_wp2
   go_ret
   rw [Nat.sub_self, List.replicate_zero, List.append_nil] at hr
   exact ⟨w.heap.size, rfl, Nat.le_refl _, hr, hB⟩
end
section
open Go.RowKit Go.Sort
def hdV (bs : Nat → Nat) (q : Nat) (s : Nat) : Value := .slice (some ⟨bs s, 0, none⟩) q q
def rowV (T : Nat → Nat → Int) (s : Nat) (a : Nat) : Value := .int .i64 (T s a)
structure Tab (w : World) (base B n q : Nat) (bs : Nat → Nat) (T : Nat → Nat → Int) : Prop where
 hd : VRow w B 30 ((List.range n).map (hdV bs q))
 row : ∀ s, s < n → VRow w (bs s) 3 ((List.range q).map (rowV T s))
 inj : ∀ s t, s < n → t < n → bs s = bs t → s = t
 lo : base ≤ B ∧ ∀ s, s < n → base ≤ bs s
 ne : ∀ s, s < n → bs s ≠ B
theorem map_range_get {f : Nat → Value} {n i : Nat} (h : i < n) : ((List.range n).map f)[i]? = some (f i) := by simp [h]
theorem map_range_set {f g : Nat → Value} {n i : Nat} {v : Value} (hi : i < n) (hv : g i = v) (hg : ∀ j, j < n → j ≠ i → g j = f j) : ((List.range n).map f).set i v = (List.range n).map g := by
 apply List.ext_getElem
 ·simp
 ·intro j h1 h2
  rw [List.getElem_set]
  split
  ·rename_i e; subst e; rw [List.getElem_map, List.getElem_range, hv]
  ·rename_i e
   rw [List.getElem_map, List.getElem_map, List.getElem_range]
   rw [hg j (by simpa using h2) (fun h => e h.symm)]
section
variable {w : World} {base B n q : Nat} {bs : Nat → Nat} {T : Nat → Nat → Int}
theorem Tab.below {w' : World} {b : Nat} (h : Tab w base B n q bs T) (hB : RowKit.Below b w w') (h1 : B < b) (h2 : ∀ s, s < n → bs s < b) : Tab w' base B n q bs T :=
 ⟨h.hd.below hB h1, fun s hs => (h.row s hs).below hB (h2 s hs), h.inj, h.lo, h.ne⟩
theorem Tab.later {w' : World} (h : Tab w base B n q bs T) (hB : RowKit.Below w.heap.size w w') : Tab w' base B n q bs T :=
 h.below hB h.hd.lt (fun s hs => (h.row s hs).lt)
theorem Tab.congr {T' : Nat → Nat → Int} (h : Tab w base B n q bs T) (e : ∀ s a, s < n → a < q → T s a = T' s a) : Tab w base B n q bs T' :=
 ⟨h.hd, fun s hs => by
  have := h.row s hs
  have e2 : (List.range q).map (rowV T s) = (List.range q).map (rowV T' s) := by
   apply List.map_congr_left
   intro a ha
   unfold rowV; rw [e s a hs (by simpa using ha)]
  rw [e2] at this; exact this, h.inj, h.lo, h.ne⟩
theorem Tab.set (h : Tab w base B n q bs T) (f l : Nat) (t : Int) (hf : f < n) (hl : l < q) :
  Tab (w.setCell ⟨bs f, l, none⟩ (.int .i64 t)) base B n q bs (fun s a => if s = f ∧ a = l then t else T s a) := by
 refine ⟨h.hd.other _ (fun e => h.ne f hf e.symm), fun s hs => ?_, h.inj, h.lo, h.ne⟩
 by_cases e : s = f
 ·subst e
  have := (h.row s hs).set (i := l) (.int .i64 t)
  rw [map_range_set (g := rowV (fun s' a => if s' = s ∧ a = l then t else T s' a) s) hl (by simp [rowV]) (fun j _ hj => by simp [rowV, hj])] at this
  exact this
 ·have := (h.row s hs).other (C := bs f) (i := l) (.int .i64 t) (fun e2 => e (h.inj s f hs hf e2))
  have e2 : rowV (fun s' a => if s' = f ∧ a = l then t else T s' a) s = rowV T s := by funext a; simp [rowV, e]
  rw [e2]; exact this
theorem Tab.mono {base' : Nat} (h : Tab w base B n q bs T) (hb : base' ≤ base) : Tab w base' B n q bs T :=
 ⟨h.hd, h.row, h.inj, ⟨Nat.le_trans hb h.lo.1, fun s hs => Nat.le_trans hb (h.lo.2 s hs)⟩, h.ne⟩
end
theorem infoS : (Tryz.prog.info? 30).map (fun i => (i.zero, i.size, i.bytes)) = some (some (.slice none 0 0), 1, 24) := by kernel_rfl
theorem made_rowS {w : World} {B e g n : Nat} (h : w.ownsRow B e 1 (.slice (some ⟨g, 0, none⟩) n n) n (madeCells (Value.slice none 0 0).cells (n * 1)).toList) : VRow w g e (List.replicate n (.slice none 0 0)) := by
 have := own_vrowJ h
 rw [show (Value.slice none 0 0).cells = #[Value.slice none 0 0] from rfl, toList_madeCells_one, Nat.mul_one] at this
 exact this
structure TabP (w : World) (base B n q k : Nat) (bs : Nat → Nat) : Prop where
 hd : VRow w B 30 ((List.range k).map (hdV bs q) ++ List.replicate (n - k) (.slice none 0 0))
 row : ∀ s, s < k → VRow w (bs s) 3 (List.replicate q (.int .i64 (-1)))
 inj : ∀ s t, s < k → t < k → bs s = bs t → s = t
 lo : base ≤ B ∧ ∀ s, s < k → base ≤ bs s
 ne : ∀ s, s < k → bs s ≠ B
theorem TabP.next {w w2 : World} {base B n q k g : Nat} {bs : Nat → Nat} (h : TabP w base B n q k bs) (hk : k < n) (hB : RowKit.Below w.heap.size w w2) (hg : w.heap.size ≤ g) (hr : VRow w2 g 3 (List.replicate q (.int .i64 (-1)))) (hb : base ≤ w.heap.size) :
  TabP (w2.setCell ⟨B, k, none⟩ (.slice (some ⟨g, 0, none⟩) q q)) base B n q (k + 1) (fun s => if s = k then g else bs s) := by
 have hlt := h.hd.lt
 have hne : ∀ s, s < k → bs s < g := fun s hs => Nat.lt_of_lt_of_le (h.row s hs).lt hg
 refine ⟨?_, fun s hs => ?_, fun s t hs ht => ?_, ⟨h.lo.1, fun s hs => ?_⟩, fun s hs => ?_⟩
 ·have h1 := (h.hd.below hB hlt).set (i := k) (.slice (some ⟨g, 0, none⟩) q q)
  obtain ⟨m, hm⟩ : ∃ m, n - k = m + 1 := ⟨n - k - 1, by omega⟩
  rw [hm, List.replicate_succ, List.set_append_right _ _ (by simp), List.length_map, List.length_range, Nat.sub_self, List.set_cons_zero] at h1
  rw [show n - (k + 1) = m by omega, List.range_succ, List.map_append, List.append_assoc]
  have e : (List.range k).map (hdV (fun s => if s = k then g else bs s) q) = (List.range k).map (hdV bs q) := by
   apply List.map_congr_left
   intro s hs
   have : s ≠ k := by have := List.mem_range.1 hs; omega
   simp [hdV, this]
  rw [e]
  simpa [hdV] using h1
 ·by_cases e : s = k
  ·subst e
   rw [if_pos rfl]
   exact hr.other _ (by omega)
  ·have hs' : s < k := by omega
   rw [if_neg e]
   exact ((h.row s hs').below hB (h.row s hs').lt).other _ (h.ne s hs')
 ·have := hne s; have := hne t
  split <;> split
  ·intro _; omega
  ·intro e; have := hne t (by omega); omega
  ·intro e; have := hne s (by omega); omega
  ·intro e; exact h.inj s t (by omega) (by omega) e
 ·split
  ·omega
  ·exact h.lo.2 s (by omega)
 ·split
  ·omega
  ·exact h.ne s (by omega)
theorem TabP.tab {w : World} {base B n q : Nat} {bs : Nat → Nat} (h : TabP w base B n q n bs) : Tab w base B n q bs (fun _ _ => -1) := by
 refine ⟨by have := h.hd; rwa [Nat.sub_self, List.replicate_zero, List.append_nil] at this, fun s hs => ?_, h.inj, h.lo, h.ne⟩
 have := h.row s hs
 have e : (List.range q).map (rowV (fun _ _ => -1) s) = List.replicate q (.int .i64 (-1)) := by
  rw [List.eq_replicate_iff]
  simp [rowV]
 rw [e]; exact this
def RetTab (n q : Nat) (T : Nat → Nat → Int) (w : World) (e : Ending) (w' : World) : Prop :=
 ∃ B bs, e = .returned (.slice (some ⟨B, 0, none⟩) n n) ∧ Tab w' w.heap.size B n q bs T ∧ RowKit.Below w.heap.size w w'
set_option maxRecDepth 100000 in
set_option maxHeartbeats 2000000 in
theorem mof_any (G : Gr) (p : Option Addr) (c : Nat) (L : Nat) (w : World) (hin : Sg 3 w edE p G.es) (hv : Vg G) (hu : Uq G.es) (hL : G.q ≤ L) (hL2 : L ≤ 256) :
  Calls Tryz.prog 55 #[(.agg #[.int .i64 G.q, .int .i64 G.n, .slice p G.es.length c]), .int .i64 L] w (RetTab G.n.toNat L (fun s a => tgt G.es s a) w) := by
 obtain ⟨i1, hi1, hy0, hy1, hy3⟩ := info_parts infoS
 have HV := hidI hv; have HU := hidI hu
 obtain ⟨N, hN⟩ : ∃ N : Nat, G.n = N := ⟨G.n.toNat, by have := hv.n1; omega⟩
 have HN : Hid (G.n.toNat = N) := by rw [Hid, hN]; rfl
 have HN2 := hidI hN
 have hN64 : N ≤ 64 := by have := hv.n2; omega
 have hL1 : 1 ≤ L := by have := hv.q1; omega
 have HL := hidI hL
 have hlen := hv.len
 rw [HN.out, hN]
 obtain ⟨w0, hw0⟩ : ∃ w0, w0 = w.alloc (.cells #[.int .i64 G.q, .int .i64 (N : Int), .slice p G.es.length c] 24) := ⟨_, rfl⟩
 have b0 : VRow w0 w.heap.size 24 [.int .i64 G.q, .int .i64 (N : Int), .slice p G.es.length c] := by subst hw0; exact VRow.new w _ _
 have hB0 : RowKit.Below w.heap.size w w0 := by subst hw0; exact (RowKit.Below.refl _ _).alloc (Nat.le_refl _) _
 have zb : w.heap.size < w0.heap.size := b0.lt
 have HIN := hidI (hin.below hB0)
 clear hin hv hu hN hL
 go_enter Tryz.func55, Tryz.ntmps55
 go_upto_region 1 with fail
 rw [← hw0]
 clear hw0
 have g1 := b0.at 1 rfl
 go_wp2_with (at_make; refine wpList_make_full _ rfl _ _ 72 rfl w0.heap.size 30 i1 (.slice none 0 0) 1 Tryz.underlying72 hi1 hy0 hy1 .i64 .i64 _ _ N rfl rfl (by omega) (by omega) (by rw [hy3]; omega) (by unfold maxLen; omega) (Nat.le_refl _) ?_; intro w1 hown hgrow)
 have hP : ∃ bs, TabP w1 w0.heap.size w0.heap.size N L 0 bs := ⟨fun _ => 0, by have := made_rowS hown; simpa using this, fun s hs => absurd hs (by omega), fun s t hs => absurd hs (by omega), ⟨Nat.le_refl _, fun s hs => absurd hs (by omega)⟩, fun s hs => absurd hs (by omega)⟩
 have hB1 : RowKit.Below w0.heap.size w0 w1 := (RowKit.Below.refl _ _).grown hgrow (Nat.le_refl _) (by simp)
 have hs1 := hown
 clear hown hgrow g1
 go_loopw [14] (fun iv wr => ∃ (k : Nat) (bs : Nat → Nat), k ≤ N ∧ iv = .int .i64 k ∧ TabP wr w0.heap.size w0.heap.size N L k bs ∧ RowKit.Below w0.heap.size w0 wr) (fun iv _ => N - (intOf iv).toNat)
 case atStart =>
  obtain ⟨bs, hP⟩ := hP
  exact ⟨0, bs, by omega, rfl, hP, hB1⟩
 case round =>
  clear hP hB1 hs1
  obtain ⟨k, bs, hk, rfl, hP, hB⟩ := hrel
  by_cases hlt : k < N
  ·have hltN : (k : Int) < (N : Int) := by omega
   have HC := hidI (repeatI_any (-1) wr.heap.size 0 1 L (wr.alloc (.cells #[.int .i64 (-1)] 3)) ((VRow.new wr 3 [.int .i64 (-1)]).at 0 rfl) hL1 (by omega))
   obtain ⟨wn, hwn⟩ : ∃ wn, wn = wr.alloc (.cells #[.int .i64 (-1)] 3) := ⟨_, rfl⟩
   have hBn : RowKit.Below wr.heap.size wr wn := by subst hwn; exact (RowKit.Below.refl _ _).alloc (Nat.le_refl _) _
   rw [← hwn] at HC
   go_wp2_with fail
   rw [← hwn]
   clear hwn
   refine HC.out.mono ?_
   rintro e w2 ⟨g, rfl, hg, hr, hB2⟩
   have hBB := hBn.trans (hB2.mono hBn.size)
   have hsz := hB.size
   have hP2 := hP.next hlt hBB (Nat.le_trans hBn.size hg) hr hsz
   have hc := (hP.hd.below hBB hP.hd.lt).at k (v := .slice none 0 0) (by rw [List.getElem?_append_right (by simp), List.getElem?_replicate]; simp; omega)
   have hf := (hP.hd.below hBB hP.hd.lt).frozen k
   have hB3 := hB.trans (hBB.mono hsz)
   clear hP hr hBB hB2
   go_wp2
   go_roundw
   case rel => exact ⟨k + 1, _, by omega, by go_num, hP2, hB3.setCell (p := ⟨w0.heap.size, k, none⟩) (Nat.le_refl _) _⟩
   case measure => simp [intOf]; omega
  ·obtain rfl : N = k := by omega
   have hltN : ¬ (N : Int) < (N : Int) := by omega
   have hT := hP.tab
   have g2 := (b0.below hB zb).at 2 rfl
   clear hP
   go_wp2
   clear g2
   go_loopw [27] (fun iv wr => ∃ k : Nat, k ≤ G.es.length ∧ iv = .int .i64 k ∧ Tab wr w0.heap.size w0.heap.size N L bs (fun s a => tgt (G.es.take k) s a) ∧ RowKit.Below w0.heap.size w0 wr) (fun iv _ => G.es.length - (intOf iv).toNat)
   case atStart => exact ⟨0, by omega, rfl, hT, hB⟩
   case round =>
    clear hT hB
    obtain ⟨k, hk, rfl, hT, hB⟩ := hrel
    by_cases hlt : k < G.es.length
    ·have hltI : (k : Int) < (G.es.length : Int) := by omega
     obtain ⟨b1, o1, rfl, hb1, e0, e1, e2⟩ := (HIN.out.below hB).get3 k hlt rfl
     have hins := HV.out.ins _ (List.getElem_mem hlt)
     have HTS : Hid (∀ s a, tgt (G.es.take (k + 1)) s a = if G.es[k].f = s ∧ G.es[k].l = a then G.es[k].t else tgt (G.es.take k) s a) := fun s a => by
      rw [List.take_succ_eq_append_getElem hlt]
      exact tgt_snoc (by rw [← List.take_succ_eq_append_getElem hlt]; exact List.Pairwise.sublist (List.take_sublist _ _) HU.out) s a
     generalize hx : G.es[k] = x at *
     obtain ⟨xf, xl, xt⟩ := x
     have hins : 0 ≤ xf ∧ 0 ≤ xl ∧ 0 ≤ xt ∧ xf < G.n ∧ xt < G.n ∧ xl < G.q := hins
     have e0 : wr.cell? ⟨b1, o1 + k * 3, none⟩ = some (.int .i64 xf) := e0
     have e1 : wr.cell? ⟨b1, o1 + k * 3 + 1, none⟩ = some (.int .i64 xl) := e1
     have e2 : wr.cell? ⟨b1, o1 + k * 3 + 2, none⟩ = some (.int .i64 xt) := e2
     obtain ⟨F, rfl⟩ : ∃ F : Nat, xf = F := ⟨xf.toNat, by omega⟩
     obtain ⟨A, rfl⟩ : ∃ A : Nat, xl = A := ⟨xl.toNat, by omega⟩
     have hF : F < N := by have := HN2.out; omega
     have hA : A < L := by have := HL.out; omega
     have hFN : (F : Int) < (N : Int) := by omega
     have hAL : (A : Int) < (L : Int) := by omega
     have g2 := (b0.below hB zb).at 2 rfl
     clear hx hins
     go_wp2_with fail
     refine region_tail 10 (by kernel_rfl) (by kernel_rfl) fun W hD => ?_
     have hBa : RowKit.Below wr.heap.size wr W := ((RowKit.Below.refl wr.heap.size wr).alloc (Nat.le_refl _) _).trans (hD.below _)
     have bx : VRow W wr.heap.size 44 [.int .i64 F, .int .i64 A, .int .i64 xt] := (VRow.new wr 44 [.int .i64 (F : Int), .int .i64 (A : Int), .int .i64 xt]).dr hD
     have x0 := bx.at 0 rfl; have x1 := bx.at 1 rfl; have x2 := bx.at 2 rfl
     have hTW := hT.later hBa
     have hBW := hB.trans (hBa.mono hB.size)
     have hh := hTW.hd.at F (map_range_get hF)
     have hrw := (hTW.row F hF).at A (map_range_get hA)
     have hrf := (hTW.row F hF).frozen A
     have hT2 := hTW.set F A xt hF hA
     have hlo := hTW.lo.2 F hF
     unfold hdV at hh
     unfold rowV at hrw
     clear hT hTW hB hBa bx e0 e1 e2 g2 hb1 hD
     simp only [List.take_succ_cons, List.take_zero, List.drop_succ_cons, List.drop_zero]
     iterate 10 still_step
     refine wpStill_nil ?_
     go_wp2
     go_roundw
     case rel =>
      refine ⟨k + 1, by omega, by go_num, hT2.congr (fun s a hs ha => ?_), hBW.setCell (p := ⟨bs F, A, none⟩) hlo _⟩
      rw [HTS.out s a]
      simp only [Int.natCast_inj, eq_comm]
     case measure => simp [intOf]; omega
    ·have hltI : ¬ (k : Int) < (G.es.length : Int) := by omega
     have hTf := hT.mono hB0.size
     rw [List.take_of_length_le (by omega)] at hTf
     go_wp2
     go_ret
     exact ⟨w0.heap.size, bs, rfl, hTf, hB0.trans (hB.mono hB0.size)⟩
end
end Go.Proofs.YtocbhlohcikapaaGreatDoor

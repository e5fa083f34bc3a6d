/-
 DERIVED: THE SHELF's CONTRACTS AT THIS DUMP, IN PLAIN WORDS (tools/lay-plain.mjs out of 'TrydShelf.lean', which tools/lay-shelf.mjs wrote): THE SAME DECLARATIONS UNDER THE SAME NAMES: 'import', 'namespace', 'open', 'def', 'theorem' AND NOTHING ELSE: no command of the shelf's: FOR A HAND-IN. Each laying: the table of numbers ('.._ren') and one theorem, a field a fact of the dump's own or the kernel's comparison; each contract: ONE APPLICATION.
-/
import Derived.Shelf.Sort.Plain
import Derived.Test.YtjdnejbngloieaaDoorProg
set_option linter.all false
namespace Go.Proofs
open Go.Shelf
def Tryd.y66 : Go.Shelf.Ren := ⟨fun | 189 => 34 | 125 => 45 | 257 => 44 | 128 => 58 | 129 => 59 | 294 => 49 | 295 => 50 | 296 => 51 | 297 => 52 | 298 => 53 | 299 => 54 | 216 => 55 | 300 => 56 | 301 => 57 | 328 => 60 | 329 => 61 | 330 => 62 | 331 => 63 | 332 => 64 | 215 => 65 | 343 => 66 | n => n, fun | 28 => 30 | 3 => 3 | 46 => 80 | 0 => 0 | 51 => 92 | 53 => 94 | 4 => 4 | 183 => 86 | 182 => 85 | 131 => 27 | 5 => 5 | 9 => 9 | 218 => 95 | 222 => 99 | 228 => 101 | 229 => 102 | n => n, fun | n => n⟩
theorem Tryd.y79 : Go.Proofs.Lays.n189 Tryd.prog Tryd.y66 := {
 mixed := by kernel_rfl
 f125 := Tryd.func45.trans (congrArg some (by kernel_rfl))
 f128 := Tryd.func58.trans (congrArg some (by kernel_rfl))
 f129 := Tryd.func59.trans (congrArg some (by kernel_rfl))
 f189 := Tryd.func34.trans (congrArg some (by kernel_rfl))
 f215 := Tryd.func65.trans (congrArg some (by kernel_rfl))
 f216 := Tryd.func55.trans (congrArg some (by kernel_rfl))
 f257 := Tryd.func44.trans (congrArg some (by kernel_rfl))
 f294 := Tryd.func49.trans (congrArg some (by kernel_rfl))
 f295 := Tryd.func50.trans (congrArg some (by kernel_rfl))
 f296 := Tryd.func51.trans (congrArg some (by kernel_rfl))
 f297 := Tryd.func52.trans (congrArg some (by kernel_rfl))
 f298 := Tryd.func53.trans (congrArg some (by kernel_rfl))
 f299 := Tryd.func54.trans (congrArg some (by kernel_rfl))
 f300 := Tryd.func56.trans (congrArg some (by kernel_rfl))
 f301 := Tryd.func57.trans (congrArg some (by kernel_rfl))
 f328 := Tryd.func60.trans (congrArg some (by kernel_rfl))
 f329 := Tryd.func61.trans (congrArg some (by kernel_rfl))
 f330 := Tryd.func62.trans (congrArg some (by kernel_rfl))
 f331 := Tryd.func63.trans (congrArg some (by kernel_rfl))
 f332 := Tryd.func64.trans (congrArg some (by kernel_rfl))
 f343 := Tryd.func66.trans (congrArg some (by kernel_rfl))
 t0 := Tryd.underlying0
 a0 := Tryd.isAgg0
 z0 := Tryd.sizeOf0
 v0 := Tryd.zeroValue0
 t3 := Tryd.underlying3
 a3 := Tryd.isAgg3
 z3 := Tryd.sizeOf3
 v3 := Tryd.zeroValue3
 t4 := Tryd.underlying4
 a4 := Tryd.isAgg4
 z4 := Tryd.sizeOf4
 v4 := Tryd.zeroValue4
 t5 := Tryd.underlying5
 a5 := Tryd.isAgg5
 z5 := Tryd.sizeOf5
 v5 := Tryd.zeroValue5
 t9 := Tryd.underlying9
 a9 := Tryd.isAgg9
 z9 := Tryd.sizeOf9
 v9 := Tryd.zeroValue9
 t28 := Tryd.underlying30
 a28 := Tryd.isAgg30
 z28 := Tryd.sizeOf30
 v28 := Tryd.zeroValue30
 t46 := Tryd.underlying80
 a46 := Tryd.isAgg80
 z46 := Tryd.sizeOf80
 v46 := Tryd.zeroValue80
 t51 := Tryd.underlying92
 a51 := Tryd.isAgg92
 z51 := Tryd.sizeOf92
 v51 := Tryd.zeroValue92
 t53 := Tryd.underlying94
 a53 := Tryd.isAgg94
 z53 := Tryd.sizeOf94
 v53 := Tryd.zeroValue94
 t131 := Tryd.underlying27
 a131 := Tryd.isAgg27
 z131 := Tryd.sizeOf27
 v131 := Tryd.zeroValue27
 t182 := Tryd.underlying85
 a182 := Tryd.isAgg85
 z182 := Tryd.sizeOf85
 v182 := Tryd.zeroValue85
 t183 := Tryd.underlying86
 a183 := Tryd.isAgg86
 z183 := Tryd.sizeOf86
 v183 := Tryd.zeroValue86
 t218 := Tryd.underlying95
 a218 := Tryd.isAgg95
 z218 := Tryd.sizeOf95
 v218 := Tryd.zeroValue95
 t222 := Tryd.underlying99
 a222 := Tryd.isAgg99
 z222 := Tryd.sizeOf99
 v222 := Tryd.zeroValue99
 t228 := Tryd.underlying101
 a228 := Tryd.isAgg101
 z228 := Tryd.sizeOf101
 v228 := Tryd.zeroValue101
 t229 := Tryd.underlying102
 a229 := Tryd.isAgg102
 z229 := Tryd.sizeOf102
 v229 := Tryd.zeroValue102 }
open Go.Sort Go.RowKit in
theorem Tryd.slices_Sort_int (blk off cap : Nat) (zs : List Int) (w : World) (hH : Holds (Value.int .i64) w blk off zs.toArray) (hblk : blk < w.heap.size) (hsz : zs.length < 4611686018427387904) :
  Calls Tryd.prog 34 #[.slice (some ⟨blk, off, none⟩) zs.length cap] w fun e w' =>
   e = .returned (.tuple #[]) ∧ ∃ n os, w' = grow (putRow (Value.int .i64) (Sort.ahead w n) blk off (zs.mergeSort fun x y => decide (x ≤ y)).toArray) os := Any.slices_Sort_int Tryd.y79 blk off cap zs w hH hblk hsz
end Go.Proofs

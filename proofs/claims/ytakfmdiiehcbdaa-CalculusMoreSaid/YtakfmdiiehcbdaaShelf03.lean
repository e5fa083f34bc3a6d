/-
 DERIVED: THE SHELF's CONTRACTS AT THIS DUMP, IN PLAIN WORDS (tools/lay-plain.mjs out of 'TryShelf.lean', which tools/lay-shelf.mjs wrote): THE SAME DECLARATIONS UNDER THE SAME NAMES: 'import', 'namespace', 'open', 'def', 'theorem' AND NOTHING ELSE: no command of the shelf's: FOR A HAND-IN. Each laying: the table of numbers ('.._ren') and one theorem, a field a fact of the dump's own or the kernel's comparison; each contract: ONE APPLICATION.
-/
import Derived.Shelf.Small.Bits
import Derived.Ground.SlsfProg
import Derived.Shelf.SlSortCmp.PdqK
import Derived.Shelf.SlSortCmp.NoneTotal
import Derived.Test.YtakfmdiiehcbdaaProg
set_option linter.all false
namespace Go.Proofs
open Go.Shelf
def Try.y8m : Go.Shelf.Ren := ⟨fun | 125 => 74 | 128 => 87 | 129 => 88 | n => n, fun | 46 => 120 | 3 => 3 | 51 => 136 | 53 => 71 | 4 => 4 | 5 => 5 | 9 => 9 | n => n, fun | n => n⟩
theorem Try.y9Q : Go.Proofs.Lays.n125 Try.prog Try.y8m := {
 mixed := by kernel_rfl
 f125 := Try.func74.trans (congrArg some (by kernel_rfl))
 f128 := Try.func87.trans (congrArg some (by kernel_rfl))
 f129 := Try.func88.trans (congrArg some (by kernel_rfl))
 t3 := Try.underlying3
 a3 := Try.isAgg3
 z3 := Try.sizeOf3
 v3 := Try.zeroValue3
 t4 := Try.underlying4
 a4 := Try.isAgg4
 z4 := Try.sizeOf4
 v4 := Try.zeroValue4
 t5 := Try.underlying5
 a5 := Try.isAgg5
 z5 := Try.sizeOf5
 v5 := Try.zeroValue5
 t9 := Try.underlying9
 a9 := Try.isAgg9
 z9 := Try.sizeOf9
 v9 := Try.zeroValue9
 t46 := Try.underlying120
 a46 := Try.isAgg120
 z46 := Try.sizeOf120
 v46 := Try.zeroValue120
 t51 := Try.underlying136
 a51 := Try.isAgg136
 z51 := Try.sizeOf136
 v51 := Try.zeroValue136
 t53 := Try.underlying71
 a53 := Try.isAgg71
 z53 := Try.sizeOf71
 v53 := Try.zeroValue71 }
theorem Try.bits_Len (x : Int) (w : World) (h0 : 0 ≤ x) (h1 : x ≤ 18446744073709551615) :
  Calls Try.prog 74 #[.int .u64 x] w fun e w' => e = .returned (.int .i64 (Lib.bitLen x.toNat)) ∧ w' = w := Any.bits_Len Try.y9Q x w h0 h1
def Try.y2b : Go.Shelf.Ren := ⟨fun | 14 => 73 | 20 => 79 | 21 => 80 | 22 => 81 | 23 => 82 | 24 => 83 | 25 => 84 | 26 => 85 | 27 => 86 | 46 => 91 | 47 => 92 | 48 => 93 | 49 => 94 | 50 => 95 | 15 => 74 | 57 => 104 | 28 => 87 | 29 => 88 | n => n, fun | 24 => 35 | 22 => 38 | 3 => 3 | 25 => 88 | 4 => 4 | 0 => 0 | 46 => 129 | 45 => 128 | 50 => 133 | 66 => 139 | 39 => 120 | 55 => 71 | 70 => 143 | 76 => 150 | 77 => 106 | 53 => 136 | 5 => 5 | 9 => 9 | n => n, fun | n => n⟩
theorem Try.y5f : Go.Proofs.SlLaysF0.n14 Try.prog Try.y2b := {
 mixed := by kernel_rfl
 f14 := ⟨Try.f73.name, by decide, Try.func73.trans (congrArg some (by kernel_rfl))⟩
 f15 := Try.func74.trans (congrArg some (by kernel_rfl))
 f20 := ⟨Try.f79.name, by decide, Try.func79.trans (congrArg some (by kernel_rfl))⟩
 f21 := ⟨Try.f80.name, by decide, Try.func80.trans (congrArg some (by kernel_rfl))⟩
 f22 := ⟨Try.f81.name, by decide, Try.func81.trans (congrArg some (by kernel_rfl))⟩
 f23 := ⟨Try.f82.name, by decide, Try.func82.trans (congrArg some (by kernel_rfl))⟩
 f24 := ⟨Try.f83.name, by decide, Try.func83.trans (congrArg some (by kernel_rfl))⟩
 f25 := ⟨Try.f84.name, by decide, Try.func84.trans (congrArg some (by kernel_rfl))⟩
 f26 := ⟨Try.f85.name, by decide, Try.func85.trans (congrArg some (by kernel_rfl))⟩
 f27 := ⟨Try.f86.name, by decide, Try.func86.trans (congrArg some (by kernel_rfl))⟩
 f28 := Try.func87.trans (congrArg some (by kernel_rfl))
 f29 := Try.func88.trans (congrArg some (by kernel_rfl))
 f46 := ⟨Try.f91.name, by decide, Try.func91.trans (congrArg some (by kernel_rfl))⟩
 f47 := Try.func92.trans (congrArg some (by kernel_rfl))
 f48 := Try.func93.trans (congrArg some (by kernel_rfl))
 f49 := ⟨Try.f94.name, by decide, Try.func94.trans (congrArg some (by kernel_rfl))⟩
 f50 := ⟨Try.f95.name, by decide, Try.func95.trans (congrArg some (by kernel_rfl))⟩
 f57 := ⟨Try.f104.name, by decide, Try.func104.trans (congrArg some (by kernel_rfl))⟩
 t0 := Try.underlying0
 a0 := Try.isAgg0
 z0 := Try.sizeOf0
 v0 := Try.zeroValue0
 t3 := Try.underlying3
 a3 := Try.isAgg3
 z3 := Try.sizeOf3
 v3 := Try.zeroValue3
 t4 := Try.underlying4
 a4 := Try.isAgg4
 z4 := Try.sizeOf4
 v4 := Try.zeroValue4
 t5 := Try.underlying5
 a5 := Try.isAgg5
 z5 := Try.sizeOf5
 v5 := Try.zeroValue5
 t9 := Try.underlying9
 a9 := Try.isAgg9
 z9 := Try.sizeOf9
 v9 := Try.zeroValue9
 t22 := Try.underlying38
 a22 := Try.isAgg38
 z22 := Try.sizeOf38
 v22 := Try.zeroValue38
 t25 := Try.underlying88
 a25 := Try.isAgg88
 z25 := Try.sizeOf88
 v25 := Try.zeroValue88
 t39 := Try.underlying120
 a39 := Try.isAgg120
 z39 := Try.sizeOf120
 v39 := Try.zeroValue120
 t45 := Try.underlying128
 a45 := Try.isAgg128
 z45 := Try.sizeOf128
 v45 := Try.zeroValue128
 t46 := Try.underlying129
 a46 := Try.isAgg129
 z46 := Try.sizeOf129
 v46 := Try.zeroValue129
 t50 := Try.underlying133
 a50 := Try.isAgg133
 z50 := Try.sizeOf133
 v50 := Try.zeroValue133
 t53 := Try.underlying136
 a53 := Try.isAgg136
 z53 := Try.sizeOf136
 v53 := Try.zeroValue136
 t55 := Try.underlying71
 a55 := Try.isAgg71
 z55 := Try.sizeOf71
 v55 := Try.zeroValue71
 t66 := Try.underlying139
 a66 := Try.isAgg139
 z66 := Try.sizeOf139
 v66 := Try.zeroValue139
 t70 := Try.underlying143
 a70 := Try.isAgg143
 z70 := Try.sizeOf143
 v70 := Try.zeroValue143
 t76 := Try.underlying150
 a76 := Try.isAgg150
 z76 := Try.sizeOf150
 v76 := Try.zeroValue150
 t77 := Try.underlying106
 a77 := Try.isAgg106
 z77 := Try.sizeOf106
 v77 := Try.zeroValue106 }
open Go.RowKit Go.Lib Go.Sort in
theorem Try.y5s {α : Type} [Inhabited α] (k : Nat) (aE : ∀ w, (isAgg (Try.y2b.t 24)).run Try.prog w = .ok true w) (zE : ∀ w, (Go.sizeOf (Try.y2b.t 24)).run Try.prog w = .ok k w) (enc : α → List Value) (cf : α → α → Int) (g : Nat) (cb : Array Value) (hO : SWO (ltOf cf)) (blk off cap : Nat) (d0 : Array α) (w0 : World) (eg : ∀ args w, (callFunc g args).run Try.prog w = .ok (.enter g args) w) (hcmp : CmpLays Try.prog g cb enc k cf blk off d0.size w0) (R : RowK enc k w0 blk off d0) :
  ∀ (N a b limit : Nat) (d : Array α) (w : World), b - a < N → d0.size = d.size → SWK enc k w0 blk off d w → a ≤ b → b ≤ d.size → d.size < 4611686018427387904 → limit < 4611686018427387904 → Below (ltOf cf) a b d →
  Calls Try.prog 73 #[.slice (some ⟨blk, off, none⟩) d.size cap, .int .i64 a, .int .i64 b, .int .i64 limit, .func (.func g) #[] cb] w fun e w' => e = .returned (.tuple #[]) ∧ SWK enc k w0 blk off (pdq (ltOf cf) d a b limit true true) w' := AnyQ.pdqsortCmpFunc_all Try.y5f k aE zE enc cf g cb hO blk off cap d0 w0 eg hcmp R
def Try.y2c : Go.Shelf.Ren := ⟨fun | 14 => 90 | 20 => 96 | 21 => 97 | 22 => 98 | 23 => 99 | 24 => 100 | 25 => 101 | 26 => 102 | 27 => 103 | 46 => 105 | 47 => 92 | 48 => 93 | 49 => 106 | 50 => 107 | 15 => 74 | 57 => 108 | 28 => 87 | 29 => 88 | n => n, fun | 24 => 30 | 22 => 77 | 3 => 3 | 25 => 52 | 4 => 4 | 0 => 0 | 46 => 129 | 45 => 128 | 50 => 133 | 66 => 139 | 39 => 120 | 55 => 71 | 70 => 143 | 76 => 150 | 77 => 106 | 53 => 136 | 5 => 5 | 9 => 9 | n => n, fun | n => n⟩
theorem Try.y5g : Go.Proofs.SlLaysF0.n14 Try.prog Try.y2c := {
 mixed := by kernel_rfl
 f14 := ⟨Try.f90.name, by decide, Try.func90.trans (congrArg some (by kernel_rfl))⟩
 f15 := Try.func74.trans (congrArg some (by kernel_rfl))
 f20 := ⟨Try.f96.name, by decide, Try.func96.trans (congrArg some (by kernel_rfl))⟩
 f21 := ⟨Try.f97.name, by decide, Try.func97.trans (congrArg some (by kernel_rfl))⟩
 f22 := ⟨Try.f98.name, by decide, Try.func98.trans (congrArg some (by kernel_rfl))⟩
 f23 := ⟨Try.f99.name, by decide, Try.func99.trans (congrArg some (by kernel_rfl))⟩
 f24 := ⟨Try.f100.name, by decide, Try.func100.trans (congrArg some (by kernel_rfl))⟩
 f25 := ⟨Try.f101.name, by decide, Try.func101.trans (congrArg some (by kernel_rfl))⟩
 f26 := ⟨Try.f102.name, by decide, Try.func102.trans (congrArg some (by kernel_rfl))⟩
 f27 := ⟨Try.f103.name, by decide, Try.func103.trans (congrArg some (by kernel_rfl))⟩
 f28 := Try.func87.trans (congrArg some (by kernel_rfl))
 f29 := Try.func88.trans (congrArg some (by kernel_rfl))
 f46 := ⟨Try.f105.name, by decide, Try.func105.trans (congrArg some (by kernel_rfl))⟩
 f47 := Try.func92.trans (congrArg some (by kernel_rfl))
 f48 := Try.func93.trans (congrArg some (by kernel_rfl))
 f49 := ⟨Try.f106.name, by decide, Try.func106.trans (congrArg some (by kernel_rfl))⟩
 f50 := ⟨Try.f107.name, by decide, Try.func107.trans (congrArg some (by kernel_rfl))⟩
 f57 := ⟨Try.f108.name, by decide, Try.func108.trans (congrArg some (by kernel_rfl))⟩
 t0 := Try.underlying0
 a0 := Try.isAgg0
 z0 := Try.sizeOf0
 v0 := Try.zeroValue0
 t3 := Try.underlying3
 a3 := Try.isAgg3
 z3 := Try.sizeOf3
 v3 := Try.zeroValue3
 t4 := Try.underlying4
 a4 := Try.isAgg4
 z4 := Try.sizeOf4
 v4 := Try.zeroValue4
 t5 := Try.underlying5
 a5 := Try.isAgg5
 z5 := Try.sizeOf5
 v5 := Try.zeroValue5
 t9 := Try.underlying9
 a9 := Try.isAgg9
 z9 := Try.sizeOf9
 v9 := Try.zeroValue9
 t22 := Try.underlying77
 a22 := Try.isAgg77
 z22 := Try.sizeOf77
 v22 := Try.zeroValue77
 t25 := Try.underlying52
 a25 := Try.isAgg52
 z25 := Try.sizeOf52
 v25 := Try.zeroValue52
 t39 := Try.underlying120
 a39 := Try.isAgg120
 z39 := Try.sizeOf120
 v39 := Try.zeroValue120
 t45 := Try.underlying128
 a45 := Try.isAgg128
 z45 := Try.sizeOf128
 v45 := Try.zeroValue128
 t46 := Try.underlying129
 a46 := Try.isAgg129
 z46 := Try.sizeOf129
 v46 := Try.zeroValue129
 t50 := Try.underlying133
 a50 := Try.isAgg133
 z50 := Try.sizeOf133
 v50 := Try.zeroValue133
 t53 := Try.underlying136
 a53 := Try.isAgg136
 z53 := Try.sizeOf136
 v53 := Try.zeroValue136
 t55 := Try.underlying71
 a55 := Try.isAgg71
 z55 := Try.sizeOf71
 v55 := Try.zeroValue71
 t66 := Try.underlying139
 a66 := Try.isAgg139
 z66 := Try.sizeOf139
 v66 := Try.zeroValue139
 t70 := Try.underlying143
 a70 := Try.isAgg143
 z70 := Try.sizeOf143
 v70 := Try.zeroValue143
 t76 := Try.underlying150
 a76 := Try.isAgg150
 z76 := Try.sizeOf150
 v76 := Try.zeroValue150
 t77 := Try.underlying106
 a77 := Try.isAgg106
 z77 := Try.sizeOf106
 v77 := Try.zeroValue106 }
open Go.RowKit Go.Lib Go.Sort in
theorem Try.y5t {α : Type} [Inhabited α] (k : Nat) (aE : ∀ w, (isAgg (Try.y2c.t 24)).run Try.prog w = .ok true w) (zE : ∀ w, (Go.sizeOf (Try.y2c.t 24)).run Try.prog w = .ok k w) (enc : α → List Value) (cf : α → α → Int) (g : Nat) (cb : Array Value) (hO : SWO (ltOf cf)) (blk off cap : Nat) (d0 : Array α) (w0 : World) (eg : ∀ args w, (callFunc g args).run Try.prog w = .ok (.enter g args) w) (hcmp : CmpLays Try.prog g cb enc k cf blk off d0.size w0) (R : RowK enc k w0 blk off d0) :
  ∀ (N a b limit : Nat) (d : Array α) (w : World), b - a < N → d0.size = d.size → SWK enc k w0 blk off d w → a ≤ b → b ≤ d.size → d.size < 4611686018427387904 → limit < 4611686018427387904 → Below (ltOf cf) a b d →
  Calls Try.prog 90 #[.slice (some ⟨blk, off, none⟩) d.size cap, .int .i64 a, .int .i64 b, .int .i64 limit, .func (.func g) #[] cb] w fun e w' => e = .returned (.tuple #[]) ∧ SWK enc k w0 blk off (pdq (ltOf cf) d a b limit true true) w' := AnyQ.pdqsortCmpFunc_all Try.y5g k aE zE enc cf g cb hO blk off cap d0 w0 eg hcmp R
open Go.RowKit Go.Lib Go.Sort in
theorem Try.y5h {α : Type} [Inhabited α] (p : Option Addr) (cap : Nat) (lim : Int) (fv : Value) (w : World) :
  Calls Try.prog 73 #[.slice p 0 cap, .int .i64 0, .int .i64 0, .int .i64 lim, fv] w fun e w' => e = .returned (.tuple #[]) ∧ w' = w := AnyF.pdqsortCmpFunc_none Try.y5f p cap lim fv w
open Go.RowKit Go.Lib Go.Sort in
theorem Try.y5i {α : Type} [Inhabited α] (p : Option Addr) (cap : Nat) (lim : Int) (fv : Value) (w : World) :
  Calls Try.prog 90 #[.slice p 0 cap, .int .i64 0, .int .i64 0, .int .i64 lim, fv] w fun e w' => e = .returned (.tuple #[]) ∧ w' = w := AnyF.pdqsortCmpFunc_none Try.y5g p cap lim fv w
end Go.Proofs

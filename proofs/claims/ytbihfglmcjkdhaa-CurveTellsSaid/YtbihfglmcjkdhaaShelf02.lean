/-
 DERIVED: THE SHELF's CONTRACTS AT THIS DUMP, IN PLAIN WORDS (tools/lay-plain.mjs out of 'TryShelf.lean', which tools/lay-shelf.mjs wrote): THE SAME DECLARATIONS UNDER THE SAME NAMES: 'import', 'namespace', 'open', 'def', 'theorem' AND NOTHING ELSE: no command of the shelf's: FOR A HAND-IN. Each laying: the table of numbers ('.._ren') and one theorem, a field a fact of the dump's own or the kernel's comparison; each contract: ONE APPLICATION.
-/
import Derived.Shelf.Small.Bits
import Derived.Ground.SlsfProg
import Derived.Shelf.SlSortCmp.PdqK
import Derived.Shelf.SlSortCmp.NoneTotal
import Derived.Test.YtbihfglmcjkdhaaProg
set_option linter.all false
namespace Go.Proofs
open Go.Shelf
def Try.lays125_ren : Go.Shelf.Ren := ⟨fun | 125 => 75 | 128 => 90 | 129 => 91 | n => n, fun | 46 => 102 | 3 => 3 | 51 => 118 | 53 => 90 | 4 => 4 | 5 => 5 | 9 => 9 | n => n, fun | n => n⟩
theorem Try.lays125 : Go.Proofs.Lays.n125 Try.prog Try.lays125_ren := {
 mixed := by kernel_rfl
 f125 := Try.func75.trans (congrArg some (by kernel_rfl))
 f128 := Try.func90.trans (congrArg some (by kernel_rfl))
 f129 := Try.func91.trans (congrArg some (by kernel_rfl))
 t3 := Try.underlying3
 a3 := Try.isAgg3
 z3 := Try.sizeOf3
 v3 := Try.zeroValue3
 t4 := Try.underlying4
 a4 := Try.isAgg4
 z4 := Try.sizeOf4
 v4 := Try.zeroValue4
 t5 := Try.underlying5
 a5 := Try.isAgg5
 z5 := Try.sizeOf5
 v5 := Try.zeroValue5
 t9 := Try.underlying9
 a9 := Try.isAgg9
 z9 := Try.sizeOf9
 v9 := Try.zeroValue9
 t46 := Try.underlying102
 a46 := Try.isAgg102
 z46 := Try.sizeOf102
 v46 := Try.zeroValue102
 t51 := Try.underlying118
 a51 := Try.isAgg118
 z51 := Try.sizeOf118
 v51 := Try.zeroValue118
 t53 := Try.underlying90
 a53 := Try.isAgg90
 z53 := Try.sizeOf90
 v53 := Try.zeroValue90 }
theorem Try.bits_Len (x : Int) (w : World) (h0 : 0 ≤ x) (h1 : x ≤ 18446744073709551615) :
  Calls Try.prog 75 #[.int .u64 x] w fun e w' => e = .returned (.int .i64 (Lib.bitLen x.toNat)) ∧ w' = w := Any.bits_Len Try.lays125 x w h0 h1
def Try.laysSlF014_f74_ren : Go.Shelf.Ren := ⟨fun | 14 => 74 | 20 => 82 | 21 => 83 | 22 => 84 | 23 => 85 | 24 => 86 | 25 => 87 | 26 => 88 | 27 => 89 | 46 => 102 | 47 => 103 | 48 => 104 | 49 => 105 | 50 => 106 | 15 => 75 | 57 => 110 | 28 => 90 | 29 => 91 | n => n, fun | 24 => 28 | 22 => 44 | 3 => 3 | 25 => 36 | 4 => 4 | 0 => 0 | 46 => 111 | 45 => 110 | 50 => 115 | 66 => 125 | 39 => 102 | 55 => 90 | 70 => 129 | 76 => 133 | 77 => 95 | 53 => 118 | 5 => 5 | 9 => 9 | n => n, fun | n => n⟩
theorem Try.laysSlF014_f74 : Go.Proofs.SlLaysF0.n14 Try.prog Try.laysSlF014_f74_ren := {
 mixed := by kernel_rfl
 f14 := ⟨Try.f74.name, by decide, Try.func74.trans (congrArg some (by kernel_rfl))⟩
 f15 := Try.func75.trans (congrArg some (by kernel_rfl))
 f20 := ⟨Try.f82.name, by decide, Try.func82.trans (congrArg some (by kernel_rfl))⟩
 f21 := ⟨Try.f83.name, by decide, Try.func83.trans (congrArg some (by kernel_rfl))⟩
 f22 := ⟨Try.f84.name, by decide, Try.func84.trans (congrArg some (by kernel_rfl))⟩
 f23 := ⟨Try.f85.name, by decide, Try.func85.trans (congrArg some (by kernel_rfl))⟩
 f24 := ⟨Try.f86.name, by decide, Try.func86.trans (congrArg some (by kernel_rfl))⟩
 f25 := ⟨Try.f87.name, by decide, Try.func87.trans (congrArg some (by kernel_rfl))⟩
 f26 := ⟨Try.f88.name, by decide, Try.func88.trans (congrArg some (by kernel_rfl))⟩
 f27 := ⟨Try.f89.name, by decide, Try.func89.trans (congrArg some (by kernel_rfl))⟩
 f28 := Try.func90.trans (congrArg some (by kernel_rfl))
 f29 := Try.func91.trans (congrArg some (by kernel_rfl))
 f46 := ⟨Try.f102.name, by decide, Try.func102.trans (congrArg some (by kernel_rfl))⟩
 f47 := Try.func103.trans (congrArg some (by kernel_rfl))
 f48 := Try.func104.trans (congrArg some (by kernel_rfl))
 f49 := ⟨Try.f105.name, by decide, Try.func105.trans (congrArg some (by kernel_rfl))⟩
 f50 := ⟨Try.f106.name, by decide, Try.func106.trans (congrArg some (by kernel_rfl))⟩
 f57 := ⟨Try.f110.name, by decide, Try.func110.trans (congrArg some (by kernel_rfl))⟩
 t0 := Try.underlying0
 a0 := Try.isAgg0
 z0 := Try.sizeOf0
 v0 := Try.zeroValue0
 t3 := Try.underlying3
 a3 := Try.isAgg3
 z3 := Try.sizeOf3
 v3 := Try.zeroValue3
 t4 := Try.underlying4
 a4 := Try.isAgg4
 z4 := Try.sizeOf4
 v4 := Try.zeroValue4
 t5 := Try.underlying5
 a5 := Try.isAgg5
 z5 := Try.sizeOf5
 v5 := Try.zeroValue5
 t9 := Try.underlying9
 a9 := Try.isAgg9
 z9 := Try.sizeOf9
 v9 := Try.zeroValue9
 t22 := Try.underlying44
 a22 := Try.isAgg44
 z22 := Try.sizeOf44
 v22 := Try.zeroValue44
 t25 := Try.underlying36
 a25 := Try.isAgg36
 z25 := Try.sizeOf36
 v25 := Try.zeroValue36
 t39 := Try.underlying102
 a39 := Try.isAgg102
 z39 := Try.sizeOf102
 v39 := Try.zeroValue102
 t45 := Try.underlying110
 a45 := Try.isAgg110
 z45 := Try.sizeOf110
 v45 := Try.zeroValue110
 t46 := Try.underlying111
 a46 := Try.isAgg111
 z46 := Try.sizeOf111
 v46 := Try.zeroValue111
 t50 := Try.underlying115
 a50 := Try.isAgg115
 z50 := Try.sizeOf115
 v50 := Try.zeroValue115
 t53 := Try.underlying118
 a53 := Try.isAgg118
 z53 := Try.sizeOf118
 v53 := Try.zeroValue118
 t55 := Try.underlying90
 a55 := Try.isAgg90
 z55 := Try.sizeOf90
 v55 := Try.zeroValue90
 t66 := Try.underlying125
 a66 := Try.isAgg125
 z66 := Try.sizeOf125
 v66 := Try.zeroValue125
 t70 := Try.underlying129
 a70 := Try.isAgg129
 z70 := Try.sizeOf129
 v70 := Try.zeroValue129
 t76 := Try.underlying133
 a76 := Try.isAgg133
 z76 := Try.sizeOf133
 v76 := Try.zeroValue133
 t77 := Try.underlying95
 a77 := Try.isAgg95
 z77 := Try.sizeOf95
 v77 := Try.zeroValue95 }
open Go.RowKit Go.Lib Go.Sort in
theorem Try.pdqsortCmpFunc_all_f74 {α : Type} [Inhabited α] (k : Nat) (aE : ∀ w, (isAgg (Try.laysSlF014_f74_ren.t 24)).run Try.prog w = .ok true w) (zE : ∀ w, (Go.sizeOf (Try.laysSlF014_f74_ren.t 24)).run Try.prog w = .ok k w) (enc : α → List Value) (cf : α → α → Int) (g : Nat) (cb : Array Value) (hO : SWO (ltOf cf)) (blk off cap : Nat) (d0 : Array α) (w0 : World) (eg : ∀ args w, (callFunc g args).run Try.prog w = .ok (.enter g args) w) (hcmp : CmpLays Try.prog g cb enc k cf blk off d0.size w0) (R : RowK enc k w0 blk off d0) :
  ∀ (N a b limit : Nat) (d : Array α) (w : World), b - a < N → d0.size = d.size → SWK enc k w0 blk off d w → a ≤ b → b ≤ d.size → d.size < 4611686018427387904 → limit < 4611686018427387904 → Below (ltOf cf) a b d →
  Calls Try.prog 74 #[.slice (some ⟨blk, off, none⟩) d.size cap, .int .i64 a, .int .i64 b, .int .i64 limit, .func (.func g) #[] cb] w fun e w' => e = .returned (.tuple #[]) ∧ SWK enc k w0 blk off (pdq (ltOf cf) d a b limit true true) w' := AnyQ.pdqsortCmpFunc_all Try.laysSlF014_f74 k aE zE enc cf g cb hO blk off cap d0 w0 eg hcmp R
def Try.laysSlF014_f81_ren : Go.Shelf.Ren := ⟨fun | 14 => 81 | 20 => 94 | 21 => 95 | 22 => 96 | 23 => 97 | 24 => 98 | 25 => 99 | 26 => 100 | 27 => 101 | 46 => 107 | 47 => 103 | 48 => 104 | 49 => 108 | 50 => 109 | 15 => 75 | 57 => 111 | 28 => 90 | 29 => 91 | n => n, fun | 24 => 42 | 22 => 24 | 3 => 3 | 25 => 70 | 4 => 4 | 0 => 0 | 46 => 111 | 45 => 110 | 50 => 115 | 66 => 125 | 39 => 102 | 55 => 90 | 70 => 129 | 76 => 133 | 77 => 95 | 53 => 118 | 5 => 5 | 9 => 9 | n => n, fun | n => n⟩
theorem Try.laysSlF014_f81 : Go.Proofs.SlLaysF0.n14 Try.prog Try.laysSlF014_f81_ren := {
 mixed := by kernel_rfl
 f14 := ⟨Try.f81.name, by decide, Try.func81.trans (congrArg some (by kernel_rfl))⟩
 f15 := Try.func75.trans (congrArg some (by kernel_rfl))
 f20 := ⟨Try.f94.name, by decide, Try.func94.trans (congrArg some (by kernel_rfl))⟩
 f21 := ⟨Try.f95.name, by decide, Try.func95.trans (congrArg some (by kernel_rfl))⟩
 f22 := ⟨Try.f96.name, by decide, Try.func96.trans (congrArg some (by kernel_rfl))⟩
 f23 := ⟨Try.f97.name, by decide, Try.func97.trans (congrArg some (by kernel_rfl))⟩
 f24 := ⟨Try.f98.name, by decide, Try.func98.trans (congrArg some (by kernel_rfl))⟩
 f25 := ⟨Try.f99.name, by decide, Try.func99.trans (congrArg some (by kernel_rfl))⟩
 f26 := ⟨Try.f100.name, by decide, Try.func100.trans (congrArg some (by kernel_rfl))⟩
 f27 := ⟨Try.f101.name, by decide, Try.func101.trans (congrArg some (by kernel_rfl))⟩
 f28 := Try.func90.trans (congrArg some (by kernel_rfl))
 f29 := Try.func91.trans (congrArg some (by kernel_rfl))
 f46 := ⟨Try.f107.name, by decide, Try.func107.trans (congrArg some (by kernel_rfl))⟩
 f47 := Try.func103.trans (congrArg some (by kernel_rfl))
 f48 := Try.func104.trans (congrArg some (by kernel_rfl))
 f49 := ⟨Try.f108.name, by decide, Try.func108.trans (congrArg some (by kernel_rfl))⟩
 f50 := ⟨Try.f109.name, by decide, Try.func109.trans (congrArg some (by kernel_rfl))⟩
 f57 := ⟨Try.f111.name, by decide, Try.func111.trans (congrArg some (by kernel_rfl))⟩
 t0 := Try.underlying0
 a0 := Try.isAgg0
 z0 := Try.sizeOf0
 v0 := Try.zeroValue0
 t3 := Try.underlying3
 a3 := Try.isAgg3
 z3 := Try.sizeOf3
 v3 := Try.zeroValue3
 t4 := Try.underlying4
 a4 := Try.isAgg4
 z4 := Try.sizeOf4
 v4 := Try.zeroValue4
 t5 := Try.underlying5
 a5 := Try.isAgg5
 z5 := Try.sizeOf5
 v5 := Try.zeroValue5
 t9 := Try.underlying9
 a9 := Try.isAgg9
 z9 := Try.sizeOf9
 v9 := Try.zeroValue9
 t22 := Try.underlying24
 a22 := Try.isAgg24
 z22 := Try.sizeOf24
 v22 := Try.zeroValue24
 t25 := Try.underlying70
 a25 := Try.isAgg70
 z25 := Try.sizeOf70
 v25 := Try.zeroValue70
 t39 := Try.underlying102
 a39 := Try.isAgg102
 z39 := Try.sizeOf102
 v39 := Try.zeroValue102
 t45 := Try.underlying110
 a45 := Try.isAgg110
 z45 := Try.sizeOf110
 v45 := Try.zeroValue110
 t46 := Try.underlying111
 a46 := Try.isAgg111
 z46 := Try.sizeOf111
 v46 := Try.zeroValue111
 t50 := Try.underlying115
 a50 := Try.isAgg115
 z50 := Try.sizeOf115
 v50 := Try.zeroValue115
 t53 := Try.underlying118
 a53 := Try.isAgg118
 z53 := Try.sizeOf118
 v53 := Try.zeroValue118
 t55 := Try.underlying90
 a55 := Try.isAgg90
 z55 := Try.sizeOf90
 v55 := Try.zeroValue90
 t66 := Try.underlying125
 a66 := Try.isAgg125
 z66 := Try.sizeOf125
 v66 := Try.zeroValue125
 t70 := Try.underlying129
 a70 := Try.isAgg129
 z70 := Try.sizeOf129
 v70 := Try.zeroValue129
 t76 := Try.underlying133
 a76 := Try.isAgg133
 z76 := Try.sizeOf133
 v76 := Try.zeroValue133
 t77 := Try.underlying95
 a77 := Try.isAgg95
 z77 := Try.sizeOf95
 v77 := Try.zeroValue95 }
open Go.RowKit Go.Lib Go.Sort in
theorem Try.pdqsortCmpFunc_all_f81 {α : Type} [Inhabited α] (k : Nat) (aE : ∀ w, (isAgg (Try.laysSlF014_f81_ren.t 24)).run Try.prog w = .ok true w) (zE : ∀ w, (Go.sizeOf (Try.laysSlF014_f81_ren.t 24)).run Try.prog w = .ok k w) (enc : α → List Value) (cf : α → α → Int) (g : Nat) (cb : Array Value) (hO : SWO (ltOf cf)) (blk off cap : Nat) (d0 : Array α) (w0 : World) (eg : ∀ args w, (callFunc g args).run Try.prog w = .ok (.enter g args) w) (hcmp : CmpLays Try.prog g cb enc k cf blk off d0.size w0) (R : RowK enc k w0 blk off d0) :
  ∀ (N a b limit : Nat) (d : Array α) (w : World), b - a < N → d0.size = d.size → SWK enc k w0 blk off d w → a ≤ b → b ≤ d.size → d.size < 4611686018427387904 → limit < 4611686018427387904 → Below (ltOf cf) a b d →
  Calls Try.prog 81 #[.slice (some ⟨blk, off, none⟩) d.size cap, .int .i64 a, .int .i64 b, .int .i64 limit, .func (.func g) #[] cb] w fun e w' => e = .returned (.tuple #[]) ∧ SWK enc k w0 blk off (pdq (ltOf cf) d a b limit true true) w' := AnyQ.pdqsortCmpFunc_all Try.laysSlF014_f81 k aE zE enc cf g cb hO blk off cap d0 w0 eg hcmp R
open Go.RowKit Go.Lib Go.Sort in
theorem Try.pdqsortCmpFunc_none_f74 {α : Type} [Inhabited α] (p : Option Addr) (cap : Nat) (lim : Int) (fv : Value) (w : World) :
  Calls Try.prog 74 #[.slice p 0 cap, .int .i64 0, .int .i64 0, .int .i64 lim, fv] w fun e w' => e = .returned (.tuple #[]) ∧ w' = w := AnyF.pdqsortCmpFunc_none Try.laysSlF014_f74 p cap lim fv w
open Go.RowKit Go.Lib Go.Sort in
theorem Try.pdqsortCmpFunc_none_f81 {α : Type} [Inhabited α] (p : Option Addr) (cap : Nat) (lim : Int) (fv : Value) (w : World) :
  Calls Try.prog 81 #[.slice p 0 cap, .int .i64 0, .int .i64 0, .int .i64 lim, fv] w fun e w' => e = .returned (.tuple #[]) ∧ w' = w := AnyF.pdqsortCmpFunc_none Try.laysSlF014_f81 p cap lim fv w
end Go.Proofs

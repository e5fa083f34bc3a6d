/-
 DERIVED: THE SHELF's CONTRACTS AT THIS DUMP, IN PLAIN WORDS (tools/lay-plain.mjs out of 'TryzShelf.lean', which tools/lay-shelf.mjs wrote): THE SAME DECLARATIONS UNDER THE SAME NAMES: 'import', 'namespace', 'open', 'def', 'theorem' AND NOTHING ELSE: no command of the shelf's: FOR A HAND-IN. Each laying: the table of numbers ('.._ren') and one theorem, a field a fact of the dump's own or the kernel's comparison; each contract: ONE APPLICATION.
-/
import Derived.Shelf.Small.Bits
import Derived.Ground.SlsfProg
import Derived.Shelf.SlSortCmp.PdqK
import Derived.Shelf.SlSortCmp.NoneTotal
import Derived.Test.YtakfmdiiehcbdaaGreatProg
set_option linter.all false
namespace Go.Proofs
open Go.Shelf
def Tryz.y9n : Go.Shelf.Ren := ⟨fun | 125 => 98 | 128 => 109 | 129 => 110 | n => n, fun | 46 => 128 | 3 => 3 | 51 => 140 | 53 => 99 | 4 => 4 | 5 => 5 | 9 => 9 | n => n, fun | n => n⟩
theorem Tryz.yaT : Go.Proofs.Lays.n125 Tryz.prog Tryz.y9n := {
 mixed := by kernel_rfl
 f125 := Tryz.func98.trans (congrArg some (by kernel_rfl))
 f128 := Tryz.func109.trans (congrArg some (by kernel_rfl))
 f129 := Tryz.func110.trans (congrArg some (by kernel_rfl))
 t3 := Tryz.underlying3
 a3 := Tryz.isAgg3
 z3 := Tryz.sizeOf3
 v3 := Tryz.zeroValue3
 t4 := Tryz.underlying4
 a4 := Tryz.isAgg4
 z4 := Tryz.sizeOf4
 v4 := Tryz.zeroValue4
 t5 := Tryz.underlying5
 a5 := Tryz.isAgg5
 z5 := Tryz.sizeOf5
 v5 := Tryz.zeroValue5
 t9 := Tryz.underlying9
 a9 := Tryz.isAgg9
 z9 := Tryz.sizeOf9
 v9 := Tryz.zeroValue9
 t46 := Tryz.underlying128
 a46 := Tryz.isAgg128
 z46 := Tryz.sizeOf128
 v46 := Tryz.zeroValue128
 t51 := Tryz.underlying140
 a51 := Tryz.isAgg140
 z51 := Tryz.sizeOf140
 v51 := Tryz.zeroValue140
 t53 := Tryz.underlying99
 a53 := Tryz.isAgg99
 z53 := Tryz.sizeOf99
 v53 := Tryz.zeroValue99 }
theorem Tryz.bits_Len (x : Int) (w : World) (h0 : 0 ≤ x) (h1 : x ≤ 18446744073709551615) :
  Calls Tryz.prog 98 #[.int .u64 x] w fun e w' => e = .returned (.int .i64 (Lib.bitLen x.toNat)) ∧ w' = w := Any.bits_Len Tryz.yaT x w h0 h1
def Tryz.y2n : Go.Shelf.Ren := ⟨fun | 14 => 97 | 20 => 101 | 21 => 102 | 22 => 103 | 23 => 104 | 24 => 105 | 25 => 106 | 26 => 107 | 27 => 108 | 46 => 119 | 47 => 120 | 48 => 121 | 49 => 122 | 50 => 123 | 15 => 98 | 57 => 127 | 28 => 109 | 29 => 110 | n => n, fun | 24 => 40 | 22 => 65 | 3 => 3 | 25 => 62 | 4 => 4 | 0 => 0 | 46 => 133 | 45 => 132 | 50 => 137 | 66 => 147 | 39 => 128 | 55 => 99 | 70 => 151 | 76 => 155 | 77 => 108 | 53 => 140 | 5 => 5 | 9 => 9 | n => n, fun | n => n⟩
theorem Tryz.y6c : Go.Proofs.SlLaysF0.n14 Tryz.prog Tryz.y2n := {
 mixed := by kernel_rfl
 f14 := ⟨Tryz.f97.name, by decide, Tryz.func97.trans (congrArg some (by kernel_rfl))⟩
 f15 := Tryz.func98.trans (congrArg some (by kernel_rfl))
 f20 := ⟨Tryz.f101.name, by decide, Tryz.func101.trans (congrArg some (by kernel_rfl))⟩
 f21 := ⟨Tryz.f102.name, by decide, Tryz.func102.trans (congrArg some (by kernel_rfl))⟩
 f22 := ⟨Tryz.f103.name, by decide, Tryz.func103.trans (congrArg some (by kernel_rfl))⟩
 f23 := ⟨Tryz.f104.name, by decide, Tryz.func104.trans (congrArg some (by kernel_rfl))⟩
 f24 := ⟨Tryz.f105.name, by decide, Tryz.func105.trans (congrArg some (by kernel_rfl))⟩
 f25 := ⟨Tryz.f106.name, by decide, Tryz.func106.trans (congrArg some (by kernel_rfl))⟩
 f26 := ⟨Tryz.f107.name, by decide, Tryz.func107.trans (congrArg some (by kernel_rfl))⟩
 f27 := ⟨Tryz.f108.name, by decide, Tryz.func108.trans (congrArg some (by kernel_rfl))⟩
 f28 := Tryz.func109.trans (congrArg some (by kernel_rfl))
 f29 := Tryz.func110.trans (congrArg some (by kernel_rfl))
 f46 := ⟨Tryz.f119.name, by decide, Tryz.func119.trans (congrArg some (by kernel_rfl))⟩
 f47 := Tryz.func120.trans (congrArg some (by kernel_rfl))
 f48 := Tryz.func121.trans (congrArg some (by kernel_rfl))
 f49 := ⟨Tryz.f122.name, by decide, Tryz.func122.trans (congrArg some (by kernel_rfl))⟩
 f50 := ⟨Tryz.f123.name, by decide, Tryz.func123.trans (congrArg some (by kernel_rfl))⟩
 f57 := ⟨Tryz.f127.name, by decide, Tryz.func127.trans (congrArg some (by kernel_rfl))⟩
 t0 := Tryz.underlying0
 a0 := Tryz.isAgg0
 z0 := Tryz.sizeOf0
 v0 := Tryz.zeroValue0
 t3 := Tryz.underlying3
 a3 := Tryz.isAgg3
 z3 := Tryz.sizeOf3
 v3 := Tryz.zeroValue3
 t4 := Tryz.underlying4
 a4 := Tryz.isAgg4
 z4 := Tryz.sizeOf4
 v4 := Tryz.zeroValue4
 t5 := Tryz.underlying5
 a5 := Tryz.isAgg5
 z5 := Tryz.sizeOf5
 v5 := Tryz.zeroValue5
 t9 := Tryz.underlying9
 a9 := Tryz.isAgg9
 z9 := Tryz.sizeOf9
 v9 := Tryz.zeroValue9
 t22 := Tryz.underlying65
 a22 := Tryz.isAgg65
 z22 := Tryz.sizeOf65
 v22 := Tryz.zeroValue65
 t25 := Tryz.underlying62
 a25 := Tryz.isAgg62
 z25 := Tryz.sizeOf62
 v25 := Tryz.zeroValue62
 t39 := Tryz.underlying128
 a39 := Tryz.isAgg128
 z39 := Tryz.sizeOf128
 v39 := Tryz.zeroValue128
 t45 := Tryz.underlying132
 a45 := Tryz.isAgg132
 z45 := Tryz.sizeOf132
 v45 := Tryz.zeroValue132
 t46 := Tryz.underlying133
 a46 := Tryz.isAgg133
 z46 := Tryz.sizeOf133
 v46 := Tryz.zeroValue133
 t50 := Tryz.underlying137
 a50 := Tryz.isAgg137
 z50 := Tryz.sizeOf137
 v50 := Tryz.zeroValue137
 t53 := Tryz.underlying140
 a53 := Tryz.isAgg140
 z53 := Tryz.sizeOf140
 v53 := Tryz.zeroValue140
 t55 := Tryz.underlying99
 a55 := Tryz.isAgg99
 z55 := Tryz.sizeOf99
 v55 := Tryz.zeroValue99
 t66 := Tryz.underlying147
 a66 := Tryz.isAgg147
 z66 := Tryz.sizeOf147
 v66 := Tryz.zeroValue147
 t70 := Tryz.underlying151
 a70 := Tryz.isAgg151
 z70 := Tryz.sizeOf151
 v70 := Tryz.zeroValue151
 t76 := Tryz.underlying155
 a76 := Tryz.isAgg155
 z76 := Tryz.sizeOf155
 v76 := Tryz.zeroValue155
 t77 := Tryz.underlying108
 a77 := Tryz.isAgg108
 z77 := Tryz.sizeOf108
 v77 := Tryz.zeroValue108 }
open Go.RowKit Go.Lib Go.Sort in
theorem Tryz.y6u {α : Type} [Inhabited α] (k : Nat) (aE : ∀ w, (isAgg (Tryz.y2n.t 24)).run Tryz.prog w = .ok true w) (zE : ∀ w, (Go.sizeOf (Tryz.y2n.t 24)).run Tryz.prog w = .ok k w) (enc : α → List Value) (cf : α → α → Int) (g : Nat) (cb : Array Value) (hO : SWO (ltOf cf)) (blk off cap : Nat) (d0 : Array α) (w0 : World) (eg : ∀ args w, (callFunc g args).run Tryz.prog w = .ok (.enter g args) w) (hcmp : CmpLays Tryz.prog g cb enc k cf blk off d0.size w0) (R : RowK enc k w0 blk off d0) :
  ∀ (N a b limit : Nat) (d : Array α) (w : World), b - a < N → d0.size = d.size → SWK enc k w0 blk off d w → a ≤ b → b ≤ d.size → d.size < 4611686018427387904 → limit < 4611686018427387904 → Below (ltOf cf) a b d →
  Calls Tryz.prog 97 #[.slice (some ⟨blk, off, none⟩) d.size cap, .int .i64 a, .int .i64 b, .int .i64 limit, .func (.func g) #[] cb] w fun e w' => e = .returned (.tuple #[]) ∧ SWK enc k w0 blk off (pdq (ltOf cf) d a b limit true true) w' := AnyQ.pdqsortCmpFunc_all Tryz.y6c k aE zE enc cf g cb hO blk off cap d0 w0 eg hcmp R
def Tryz.y2d : Go.Shelf.Ren := ⟨fun | 14 => 100 | 20 => 111 | 21 => 112 | 22 => 113 | 23 => 114 | 24 => 115 | 25 => 116 | 26 => 117 | 27 => 118 | 46 => 124 | 47 => 120 | 48 => 121 | 49 => 125 | 50 => 126 | 15 => 98 | 57 => 128 | 28 => 109 | 29 => 110 | n => n, fun | 24 => 54 | 22 => 22 | 3 => 3 | 25 => 121 | 4 => 4 | 0 => 0 | 46 => 133 | 45 => 132 | 50 => 137 | 66 => 147 | 39 => 128 | 55 => 99 | 70 => 151 | 76 => 155 | 77 => 108 | 53 => 140 | 5 => 5 | 9 => 9 | n => n, fun | n => n⟩
theorem Tryz.y5Z : Go.Proofs.SlLaysF0.n14 Tryz.prog Tryz.y2d := {
 mixed := by kernel_rfl
 f14 := ⟨Tryz.f100.name, by decide, Tryz.func100.trans (congrArg some (by kernel_rfl))⟩
 f15 := Tryz.func98.trans (congrArg some (by kernel_rfl))
 f20 := ⟨Tryz.f111.name, by decide, Tryz.func111.trans (congrArg some (by kernel_rfl))⟩
 f21 := ⟨Tryz.f112.name, by decide, Tryz.func112.trans (congrArg some (by kernel_rfl))⟩
 f22 := ⟨Tryz.f113.name, by decide, Tryz.func113.trans (congrArg some (by kernel_rfl))⟩
 f23 := ⟨Tryz.f114.name, by decide, Tryz.func114.trans (congrArg some (by kernel_rfl))⟩
 f24 := ⟨Tryz.f115.name, by decide, Tryz.func115.trans (congrArg some (by kernel_rfl))⟩
 f25 := ⟨Tryz.f116.name, by decide, Tryz.func116.trans (congrArg some (by kernel_rfl))⟩
 f26 := ⟨Tryz.f117.name, by decide, Tryz.func117.trans (congrArg some (by kernel_rfl))⟩
 f27 := ⟨Tryz.f118.name, by decide, Tryz.func118.trans (congrArg some (by kernel_rfl))⟩
 f28 := Tryz.func109.trans (congrArg some (by kernel_rfl))
 f29 := Tryz.func110.trans (congrArg some (by kernel_rfl))
 f46 := ⟨Tryz.f124.name, by decide, Tryz.func124.trans (congrArg some (by kernel_rfl))⟩
 f47 := Tryz.func120.trans (congrArg some (by kernel_rfl))
 f48 := Tryz.func121.trans (congrArg some (by kernel_rfl))
 f49 := ⟨Tryz.f125.name, by decide, Tryz.func125.trans (congrArg some (by kernel_rfl))⟩
 f50 := ⟨Tryz.f126.name, by decide, Tryz.func126.trans (congrArg some (by kernel_rfl))⟩
 f57 := ⟨Tryz.f128.name, by decide, Tryz.func128.trans (congrArg some (by kernel_rfl))⟩
 t0 := Tryz.underlying0
 a0 := Tryz.isAgg0
 z0 := Tryz.sizeOf0
 v0 := Tryz.zeroValue0
 t3 := Tryz.underlying3
 a3 := Tryz.isAgg3
 z3 := Tryz.sizeOf3
 v3 := Tryz.zeroValue3
 t4 := Tryz.underlying4
 a4 := Tryz.isAgg4
 z4 := Tryz.sizeOf4
 v4 := Tryz.zeroValue4
 t5 := Tryz.underlying5
 a5 := Tryz.isAgg5
 z5 := Tryz.sizeOf5
 v5 := Tryz.zeroValue5
 t9 := Tryz.underlying9
 a9 := Tryz.isAgg9
 z9 := Tryz.sizeOf9
 v9 := Tryz.zeroValue9
 t22 := Tryz.underlying22
 a22 := Tryz.isAgg22
 z22 := Tryz.sizeOf22
 v22 := Tryz.zeroValue22
 t25 := Tryz.underlying121
 a25 := Tryz.isAgg121
 z25 := Tryz.sizeOf121
 v25 := Tryz.zeroValue121
 t39 := Tryz.underlying128
 a39 := Tryz.isAgg128
 z39 := Tryz.sizeOf128
 v39 := Tryz.zeroValue128
 t45 := Tryz.underlying132
 a45 := Tryz.isAgg132
 z45 := Tryz.sizeOf132
 v45 := Tryz.zeroValue132
 t46 := Tryz.underlying133
 a46 := Tryz.isAgg133
 z46 := Tryz.sizeOf133
 v46 := Tryz.zeroValue133
 t50 := Tryz.underlying137
 a50 := Tryz.isAgg137
 z50 := Tryz.sizeOf137
 v50 := Tryz.zeroValue137
 t53 := Tryz.underlying140
 a53 := Tryz.isAgg140
 z53 := Tryz.sizeOf140
 v53 := Tryz.zeroValue140
 t55 := Tryz.underlying99
 a55 := Tryz.isAgg99
 z55 := Tryz.sizeOf99
 v55 := Tryz.zeroValue99
 t66 := Tryz.underlying147
 a66 := Tryz.isAgg147
 z66 := Tryz.sizeOf147
 v66 := Tryz.zeroValue147
 t70 := Tryz.underlying151
 a70 := Tryz.isAgg151
 z70 := Tryz.sizeOf151
 v70 := Tryz.zeroValue151
 t76 := Tryz.underlying155
 a76 := Tryz.isAgg155
 z76 := Tryz.sizeOf155
 v76 := Tryz.zeroValue155
 t77 := Tryz.underlying108
 a77 := Tryz.isAgg108
 z77 := Tryz.sizeOf108
 v77 := Tryz.zeroValue108 }
open Go.RowKit Go.Lib Go.Sort in
theorem Tryz.y6f {α : Type} [Inhabited α] (k : Nat) (aE : ∀ w, (isAgg (Tryz.y2d.t 24)).run Tryz.prog w = .ok true w) (zE : ∀ w, (Go.sizeOf (Tryz.y2d.t 24)).run Tryz.prog w = .ok k w) (enc : α → List Value) (cf : α → α → Int) (g : Nat) (cb : Array Value) (hO : SWO (ltOf cf)) (blk off cap : Nat) (d0 : Array α) (w0 : World) (eg : ∀ args w, (callFunc g args).run Tryz.prog w = .ok (.enter g args) w) (hcmp : CmpLays Tryz.prog g cb enc k cf blk off d0.size w0) (R : RowK enc k w0 blk off d0) :
  ∀ (N a b limit : Nat) (d : Array α) (w : World), b - a < N → d0.size = d.size → SWK enc k w0 blk off d w → a ≤ b → b ≤ d.size → d.size < 4611686018427387904 → limit < 4611686018427387904 → Below (ltOf cf) a b d →
  Calls Tryz.prog 100 #[.slice (some ⟨blk, off, none⟩) d.size cap, .int .i64 a, .int .i64 b, .int .i64 limit, .func (.func g) #[] cb] w fun e w' => e = .returned (.tuple #[]) ∧ SWK enc k w0 blk off (pdq (ltOf cf) d a b limit true true) w' := AnyQ.pdqsortCmpFunc_all Tryz.y5Z k aE zE enc cf g cb hO blk off cap d0 w0 eg hcmp R
open Go.RowKit Go.Lib Go.Sort in
theorem Tryz.y6g {α : Type} [Inhabited α] (p : Option Addr) (cap : Nat) (lim : Int) (fv : Value) (w : World) :
  Calls Tryz.prog 97 #[.slice p 0 cap, .int .i64 0, .int .i64 0, .int .i64 lim, fv] w fun e w' => e = .returned (.tuple #[]) ∧ w' = w := AnyF.pdqsortCmpFunc_none Tryz.y6c p cap lim fv w
open Go.RowKit Go.Lib Go.Sort in
theorem Tryz.y69 {α : Type} [Inhabited α] (p : Option Addr) (cap : Nat) (lim : Int) (fv : Value) (w : World) :
  Calls Tryz.prog 100 #[.slice p 0 cap, .int .i64 0, .int .i64 0, .int .i64 lim, fv] w fun e w' => e = .returned (.tuple #[]) ∧ w' = w := AnyF.pdqsortCmpFunc_none Tryz.y5Z p cap lim fv w
end Go.Proofs

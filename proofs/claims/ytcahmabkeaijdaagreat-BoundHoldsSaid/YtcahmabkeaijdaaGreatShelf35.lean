/- A part of this claim's proof: models of functions, walks, plain laws. No conditions. -/
import Derived.Shelf.Small.Bits
import Derived.Ground.SlsfProg
import Derived.Shelf.SlSortCmp.PdqK
import Derived.Shelf.SlSortCmp.NoneTotal
import Derived.Test.YtcahmabkeaijdaaGreatProg
set_option linter.all false
/-
 DERIVED: THE SHELF's CONTRACTS AT THIS DUMP, IN PLAIN WORDS (tools/lay-plain.mjs out of 'TryzShelf.lean', which tools/lay-shelf.mjs wrote): THE SAME DECLARATIONS UNDER THE SAME NAMES: 'import', 'namespace', 'open', 'def', 'theorem' AND NOTHING ELSE: no command of the shelf's: FOR A HAND-IN. Each laying: the table of numbers ('.._ren') and one theorem, a field a fact of the dump's own or the kernel's comparison; each contract: ONE APPLICATION.
-/
namespace Go.Proofs
open Go.Shelf
def Tryz.Xl:Go.Shelf.Ren:=⟨fun | 125=>48 | 128=>89 | 129=>90 | n=>n,fun | 46=>142 | 3=>3 | 51=>191 | 53=>193 | 4=>4 | 5=>5 | 9=>9 | n=>n,fun | n=>n⟩
theorem Tryz.Jf:Go.Proofs.Lays.n125 Tryz.prog Tryz.Xl:={
 mixed:=by kernel_rfl
 f125:=Tryz.func48.trans (congrArg some (by kernel_rfl))
 f128:=Tryz.func89.trans (congrArg some (by kernel_rfl))
 f129:=Tryz.func90.trans (congrArg some (by kernel_rfl))
 t3:=Tryz.underlying3
 a3:=Tryz.isAgg3
 z3:=Tryz.sizeOf3
 v3:=Tryz.zeroValue3
 t4:=Tryz.underlying4
 a4:=Tryz.isAgg4
 z4:=Tryz.sizeOf4
 v4:=Tryz.zeroValue4
 t5:=Tryz.underlying5
 a5:=Tryz.isAgg5
 z5:=Tryz.sizeOf5
 v5:=Tryz.zeroValue5
 t9:=Tryz.underlying9
 a9:=Tryz.isAgg9
 z9:=Tryz.sizeOf9
 v9:=Tryz.zeroValue9
 t46:=Tryz.underlying142
 a46:=Tryz.isAgg142
 z46:=Tryz.sizeOf142
 v46:=Tryz.zeroValue142
 t51:=Tryz.underlying191
 a51:=Tryz.isAgg191
 z51:=Tryz.sizeOf191
 v51:=Tryz.zeroValue191
 t53:=Tryz.underlying193
 a53:=Tryz.isAgg193
 z53:=Tryz.sizeOf193
 v53:=Tryz.zeroValue193 }
theorem Tryz.bits_Len(x:Int)(w:World)(h0:0<=x)(h1:x<=18446744073709551615):
  Calls Tryz.prog 48 #[.int .u64 x] w fun e w'=>e = .returned (.int .i64 (Lib.bitLen x.toNat))/\w'=w:=Any.bits_Len Tryz.Jf x w h0 h1
def Tryz.gq:Go.Shelf.Ren:=⟨fun | 14=>47 | 20=>81 | 21=>82 | 22=>83 | 23=>84 | 24=>85 | 25=>86 | 26=>87 | 27=>88 | 46=>113 | 47=>114 | 48=>115 | 49=>116 | 50=>117 | 15=>48 | 57=>157 | 28=>89 | 29=>90 | n=>n,fun | 24=>58 | 22=>35 | 3=>3 | 25=>101 | 4=>4 | 0=>0 | 46=>185 | 45=>184 | 50=>59 | 66=>234 | 39=>142 | 55=>193 | 70=>238 | 76=>270 | 77=>259 | 53=>191 | 5=>5 | 9=>9 | n=>n,fun | n=>n⟩
theorem Tryz.lq:Go.Proofs.SlLaysF0.n14 Tryz.prog Tryz.gq:={
 mixed:=by kernel_rfl
 f14:=⟨Tryz.f47.name,by decide,Tryz.func47.trans (congrArg some (by kernel_rfl))⟩
 f15:=Tryz.func48.trans (congrArg some (by kernel_rfl))
 f20:=⟨Tryz.f81.name,by decide,Tryz.func81.trans (congrArg some (by kernel_rfl))⟩
 f21:=⟨Tryz.f82.name,by decide,Tryz.func82.trans (congrArg some (by kernel_rfl))⟩
 f22:=⟨Tryz.f83.name,by decide,Tryz.func83.trans (congrArg some (by kernel_rfl))⟩
 f23:=⟨Tryz.f84.name,by decide,Tryz.func84.trans (congrArg some (by kernel_rfl))⟩
 f24:=⟨Tryz.f85.name,by decide,Tryz.func85.trans (congrArg some (by kernel_rfl))⟩
 f25:=⟨Tryz.f86.name,by decide,Tryz.func86.trans (congrArg some (by kernel_rfl))⟩
 f26:=⟨Tryz.f87.name,by decide,Tryz.func87.trans (congrArg some (by kernel_rfl))⟩
 f27:=⟨Tryz.f88.name,by decide,Tryz.func88.trans (congrArg some (by kernel_rfl))⟩
 f28:=Tryz.func89.trans (congrArg some (by kernel_rfl))
 f29:=Tryz.func90.trans (congrArg some (by kernel_rfl))
 f46:=⟨Tryz.f113.name,by decide,Tryz.func113.trans (congrArg some (by kernel_rfl))⟩
 f47:=Tryz.func114.trans (congrArg some (by kernel_rfl))
 f48:=Tryz.func115.trans (congrArg some (by kernel_rfl))
 f49:=⟨Tryz.f116.name,by decide,Tryz.func116.trans (congrArg some (by kernel_rfl))⟩
 f50:=⟨Tryz.f117.name,by decide,Tryz.func117.trans (congrArg some (by kernel_rfl))⟩
 f57:=⟨Tryz.f157.name,by decide,Tryz.func157.trans (congrArg some (by kernel_rfl))⟩
 t0:=Tryz.underlying0
 a0:=Tryz.isAgg0
 z0:=Tryz.sizeOf0
 v0:=Tryz.zeroValue0
 t3:=Tryz.underlying3
 a3:=Tryz.isAgg3
 z3:=Tryz.sizeOf3
 v3:=Tryz.zeroValue3
 t4:=Tryz.underlying4
 a4:=Tryz.isAgg4
 z4:=Tryz.sizeOf4
 v4:=Tryz.zeroValue4
 t5:=Tryz.underlying5
 a5:=Tryz.isAgg5
 z5:=Tryz.sizeOf5
 v5:=Tryz.zeroValue5
 t9:=Tryz.underlying9
 a9:=Tryz.isAgg9
 z9:=Tryz.sizeOf9
 v9:=Tryz.zeroValue9
 t22:=Tryz.underlying35
 a22:=Tryz.isAgg35
 z22:=Tryz.sizeOf35
 v22:=Tryz.zeroValue35
 t25:=Tryz.underlying101
 a25:=Tryz.isAgg101
 z25:=Tryz.sizeOf101
 v25:=Tryz.zeroValue101
 t39:=Tryz.underlying142
 a39:=Tryz.isAgg142
 z39:=Tryz.sizeOf142
 v39:=Tryz.zeroValue142
 t45:=Tryz.underlying184
 a45:=Tryz.isAgg184
 z45:=Tryz.sizeOf184
 v45:=Tryz.zeroValue184
 t46:=Tryz.underlying185
 a46:=Tryz.isAgg185
 z46:=Tryz.sizeOf185
 v46:=Tryz.zeroValue185
 t50:=Tryz.underlying59
 a50:=Tryz.isAgg59
 z50:=Tryz.sizeOf59
 v50:=Tryz.zeroValue59
 t53:=Tryz.underlying191
 a53:=Tryz.isAgg191
 z53:=Tryz.sizeOf191
 v53:=Tryz.zeroValue191
 t55:=Tryz.underlying193
 a55:=Tryz.isAgg193
 z55:=Tryz.sizeOf193
 v55:=Tryz.zeroValue193
 t66:=Tryz.underlying234
 a66:=Tryz.isAgg234
 z66:=Tryz.sizeOf234
 v66:=Tryz.zeroValue234
 t70:=Tryz.underlying238
 a70:=Tryz.isAgg238
 z70:=Tryz.sizeOf238
 v70:=Tryz.zeroValue238
 t76:=Tryz.underlying270
 a76:=Tryz.isAgg270
 z76:=Tryz.sizeOf270
 v76:=Tryz.zeroValue270
 t77:=Tryz.underlying259
 a77:=Tryz.isAgg259
 z77:=Tryz.sizeOf259
 v77:=Tryz.zeroValue259 }
open Go.RowKit Go.Lib Go.Sort in
theorem Tryz.ik{α:Type}[Inhabited α](k:Nat)(aE:∀ w,(isAgg (Tryz.gq.t 24)).run Tryz.prog w = .ok true w)(zE:∀ w,(Go.sizeOf (Tryz.gq.t 24)).run Tryz.prog w = .ok k w)(enc:α->List Value)(cf:α->α->Int)(g:Nat)(cb:Array Value)(hO:SWO (ltOf cf))(wr off cap:Nat)(d0:Array α)(w0:World)(eg:∀ args w,(callFunc g args).run Tryz.prog w = .ok (.enter g args) w)(zY:CmpLays Tryz.prog g cb enc k cf wr off d0.size w0)(R:RowK enc k w0 wr off d0):
  ∀(N a b n6:Nat) (d:Array α) (w:World),b-a<N->d0.size=d.size->SWK enc k w0 wr off d w->a<=b->b<=d.size->d.size<4611686018427387904->n6<4611686018427387904->Below (ltOf cf) a b d->
  Calls Tryz.prog 47 #[.slice (some ⟨wr,off,none⟩) d.size cap,.int .i64 a,.int .i64 b,.int .i64 n6,.func (.func g) #[] cb] w fun e w'=>e = .returned (.tuple #[])/\SWK enc k w0 wr off (pdq (ltOf cf) d a b n6 true true) w':=AnyQ.pdqsortCmpFunc_all Tryz.lq k aE zE enc cf g cb hO wr off cap d0 w0 eg zY R
def Tryz.gt:Go.Shelf.Ren:=⟨fun | 14=>92 | 20=>118 | 21=>119 | 22=>120 | 23=>121 | 24=>122 | 25=>123 | 26=>124 | 27=>125 | 46=>158 | 47=>114 | 48=>115 | 49=>159 | 50=>160 | 15=>48 | 57=>175 | 28=>89 | 29=>90 | n=>n,fun | 24=>79 | 22=>36 | 3=>3 | 25=>147 | 4=>4 | 0=>0 | 46=>185 | 45=>184 | 50=>59 | 66=>234 | 39=>142 | 55=>193 | 70=>238 | 76=>270 | 77=>259 | 53=>191 | 5=>5 | 9=>9 | n=>n,fun | n=>n⟩
theorem Tryz.lr:Go.Proofs.SlLaysF0.n14 Tryz.prog Tryz.gt:={
 mixed:=by kernel_rfl
 f14:=⟨Tryz.f92.name,by decide,Tryz.func92.trans (congrArg some (by kernel_rfl))⟩
 f15:=Tryz.func48.trans (congrArg some (by kernel_rfl))
 f20:=⟨Tryz.f118.name,by decide,Tryz.func118.trans (congrArg some (by kernel_rfl))⟩
 f21:=⟨Tryz.f119.name,by decide,Tryz.func119.trans (congrArg some (by kernel_rfl))⟩
 f22:=⟨Tryz.f120.name,by decide,Tryz.func120.trans (congrArg some (by kernel_rfl))⟩
 f23:=⟨Tryz.f121.name,by decide,Tryz.func121.trans (congrArg some (by kernel_rfl))⟩
 f24:=⟨Tryz.f122.name,by decide,Tryz.func122.trans (congrArg some (by kernel_rfl))⟩
 f25:=⟨Tryz.f123.name,by decide,Tryz.func123.trans (congrArg some (by kernel_rfl))⟩
 f26:=⟨Tryz.f124.name,by decide,Tryz.func124.trans (congrArg some (by kernel_rfl))⟩
 f27:=⟨Tryz.f125.name,by decide,Tryz.func125.trans (congrArg some (by kernel_rfl))⟩
 f28:=Tryz.func89.trans (congrArg some (by kernel_rfl))
 f29:=Tryz.func90.trans (congrArg some (by kernel_rfl))
 f46:=⟨Tryz.f158.name,by decide,Tryz.func158.trans (congrArg some (by kernel_rfl))⟩
 f47:=Tryz.func114.trans (congrArg some (by kernel_rfl))
 f48:=Tryz.func115.trans (congrArg some (by kernel_rfl))
 f49:=⟨Tryz.f159.name,by decide,Tryz.func159.trans (congrArg some (by kernel_rfl))⟩
 f50:=⟨Tryz.f160.name,by decide,Tryz.func160.trans (congrArg some (by kernel_rfl))⟩
 f57:=⟨Tryz.f175.name,by decide,Tryz.func175.trans (congrArg some (by kernel_rfl))⟩
 t0:=Tryz.underlying0
 a0:=Tryz.isAgg0
 z0:=Tryz.sizeOf0
 v0:=Tryz.zeroValue0
 t3:=Tryz.underlying3
 a3:=Tryz.isAgg3
 z3:=Tryz.sizeOf3
 v3:=Tryz.zeroValue3
 t4:=Tryz.underlying4
 a4:=Tryz.isAgg4
 z4:=Tryz.sizeOf4
 v4:=Tryz.zeroValue4
 t5:=Tryz.underlying5
 a5:=Tryz.isAgg5
 z5:=Tryz.sizeOf5
 v5:=Tryz.zeroValue5
 t9:=Tryz.underlying9
 a9:=Tryz.isAgg9
 z9:=Tryz.sizeOf9
 v9:=Tryz.zeroValue9
 t22:=Tryz.underlying36
 a22:=Tryz.isAgg36
 z22:=Tryz.sizeOf36
 v22:=Tryz.zeroValue36
 t25:=Tryz.underlying147
 a25:=Tryz.isAgg147
 z25:=Tryz.sizeOf147
 v25:=Tryz.zeroValue147
 t39:=Tryz.underlying142
 a39:=Tryz.isAgg142
 z39:=Tryz.sizeOf142
 v39:=Tryz.zeroValue142
 t45:=Tryz.underlying184
 a45:=Tryz.isAgg184
 z45:=Tryz.sizeOf184
 v45:=Tryz.zeroValue184
 t46:=Tryz.underlying185
 a46:=Tryz.isAgg185
 z46:=Tryz.sizeOf185
 v46:=Tryz.zeroValue185
 t50:=Tryz.underlying59
 a50:=Tryz.isAgg59
 z50:=Tryz.sizeOf59
 v50:=Tryz.zeroValue59
 t53:=Tryz.underlying191
 a53:=Tryz.isAgg191
 z53:=Tryz.sizeOf191
 v53:=Tryz.zeroValue191
 t55:=Tryz.underlying193
 a55:=Tryz.isAgg193
 z55:=Tryz.sizeOf193
 v55:=Tryz.zeroValue193
 t66:=Tryz.underlying234
 a66:=Tryz.isAgg234
 z66:=Tryz.sizeOf234
 v66:=Tryz.zeroValue234
 t70:=Tryz.underlying238
 a70:=Tryz.isAgg238
 z70:=Tryz.sizeOf238
 v70:=Tryz.zeroValue238
 t76:=Tryz.underlying270
 a76:=Tryz.isAgg270
 z76:=Tryz.sizeOf270
 v76:=Tryz.zeroValue270
 t77:=Tryz.underlying259
 a77:=Tryz.isAgg259
 z77:=Tryz.sizeOf259
 v77:=Tryz.zeroValue259 }
open Go.RowKit Go.Lib Go.Sort in
theorem Tryz.il{α:Type}[Inhabited α](k:Nat)(aE:∀ w,(isAgg (Tryz.gt.t 24)).run Tryz.prog w = .ok true w)(zE:∀ w,(Go.sizeOf (Tryz.gt.t 24)).run Tryz.prog w = .ok k w)(enc:α->List Value)(cf:α->α->Int)(g:Nat)(cb:Array Value)(hO:SWO (ltOf cf))(wr off cap:Nat)(d0:Array α)(w0:World)(eg:∀ args w,(callFunc g args).run Tryz.prog w = .ok (.enter g args) w)(zY:CmpLays Tryz.prog g cb enc k cf wr off d0.size w0)(R:RowK enc k w0 wr off d0):
  ∀(N a b n6:Nat) (d:Array α) (w:World),b-a<N->d0.size=d.size->SWK enc k w0 wr off d w->a<=b->b<=d.size->d.size<4611686018427387904->n6<4611686018427387904->Below (ltOf cf) a b d->
  Calls Tryz.prog 92 #[.slice (some ⟨wr,off,none⟩) d.size cap,.int .i64 a,.int .i64 b,.int .i64 n6,.func (.func g) #[] cb] w fun e w'=>e = .returned (.tuple #[])/\SWK enc k w0 wr off (pdq (ltOf cf) d a b n6 true true) w':=AnyQ.pdqsortCmpFunc_all Tryz.lr k aE zE enc cf g cb hO wr off cap d0 w0 eg zY R
def Tryz.kX:Go.Shelf.Ren:=⟨fun | 14=>104 | 20=>133 | 21=>134 | 22=>135 | 23=>136 | 24=>137 | 25=>138 | 26=>139 | 27=>140 | 46=>162 | 47=>114 | 48=>115 | 49=>163 | 50=>164 | 15=>48 | 57=>177 | 28=>89 | 29=>90 | n=>n,fun | 24=>97 | 22=>88 | 3=>3 | 25=>163 | 4=>4 | 0=>0 | 46=>185 | 45=>184 | 50=>59 | 66=>234 | 39=>142 | 55=>193 | 70=>238 | 76=>270 | 77=>259 | 53=>191 | 5=>5 | 9=>9 | n=>n,fun | n=>n⟩
theorem Tryz.oT:Go.Proofs.SlLaysF0.n14 Tryz.prog Tryz.kX:={
 mixed:=by kernel_rfl
 f14:=⟨Tryz.f104.name,by decide,Tryz.func104.trans (congrArg some (by kernel_rfl))⟩
 f15:=Tryz.func48.trans (congrArg some (by kernel_rfl))
 f20:=⟨Tryz.f133.name,by decide,Tryz.func133.trans (congrArg some (by kernel_rfl))⟩
 f21:=⟨Tryz.f134.name,by decide,Tryz.func134.trans (congrArg some (by kernel_rfl))⟩
 f22:=⟨Tryz.f135.name,by decide,Tryz.func135.trans (congrArg some (by kernel_rfl))⟩
 f23:=⟨Tryz.f136.name,by decide,Tryz.func136.trans (congrArg some (by kernel_rfl))⟩
 f24:=⟨Tryz.f137.name,by decide,Tryz.func137.trans (congrArg some (by kernel_rfl))⟩
 f25:=⟨Tryz.f138.name,by decide,Tryz.func138.trans (congrArg some (by kernel_rfl))⟩
 f26:=⟨Tryz.f139.name,by decide,Tryz.func139.trans (congrArg some (by kernel_rfl))⟩
 f27:=⟨Tryz.f140.name,by decide,Tryz.func140.trans (congrArg some (by kernel_rfl))⟩
 f28:=Tryz.func89.trans (congrArg some (by kernel_rfl))
 f29:=Tryz.func90.trans (congrArg some (by kernel_rfl))
 f46:=⟨Tryz.f162.name,by decide,Tryz.func162.trans (congrArg some (by kernel_rfl))⟩
 f47:=Tryz.func114.trans (congrArg some (by kernel_rfl))
 f48:=Tryz.func115.trans (congrArg some (by kernel_rfl))
 f49:=⟨Tryz.f163.name,by decide,Tryz.func163.trans (congrArg some (by kernel_rfl))⟩
 f50:=⟨Tryz.f164.name,by decide,Tryz.func164.trans (congrArg some (by kernel_rfl))⟩
 f57:=⟨Tryz.f177.name,by decide,Tryz.func177.trans (congrArg some (by kernel_rfl))⟩
 t0:=Tryz.underlying0
 a0:=Tryz.isAgg0
 z0:=Tryz.sizeOf0
 v0:=Tryz.zeroValue0
 t3:=Tryz.underlying3
 a3:=Tryz.isAgg3
 z3:=Tryz.sizeOf3
 v3:=Tryz.zeroValue3
 t4:=Tryz.underlying4
 a4:=Tryz.isAgg4
 z4:=Tryz.sizeOf4
 v4:=Tryz.zeroValue4
 t5:=Tryz.underlying5
 a5:=Tryz.isAgg5
 z5:=Tryz.sizeOf5
 v5:=Tryz.zeroValue5
 t9:=Tryz.underlying9
 a9:=Tryz.isAgg9
 z9:=Tryz.sizeOf9
 v9:=Tryz.zeroValue9
 t22:=Tryz.underlying88
 a22:=Tryz.isAgg88
 z22:=Tryz.sizeOf88
 v22:=Tryz.zeroValue88
 t25:=Tryz.underlying163
 a25:=Tryz.isAgg163
 z25:=Tryz.sizeOf163
 v25:=Tryz.zeroValue163
 t39:=Tryz.underlying142
 a39:=Tryz.isAgg142
 z39:=Tryz.sizeOf142
 v39:=Tryz.zeroValue142
 t45:=Tryz.underlying184
 a45:=Tryz.isAgg184
 z45:=Tryz.sizeOf184
 v45:=Tryz.zeroValue184
 t46:=Tryz.underlying185
 a46:=Tryz.isAgg185
 z46:=Tryz.sizeOf185
 v46:=Tryz.zeroValue185
 t50:=Tryz.underlying59
 a50:=Tryz.isAgg59
 z50:=Tryz.sizeOf59
 v50:=Tryz.zeroValue59
 t53:=Tryz.underlying191
 a53:=Tryz.isAgg191
 z53:=Tryz.sizeOf191
 v53:=Tryz.zeroValue191
 t55:=Tryz.underlying193
 a55:=Tryz.isAgg193
 z55:=Tryz.sizeOf193
 v55:=Tryz.zeroValue193
 t66:=Tryz.underlying234
 a66:=Tryz.isAgg234
 z66:=Tryz.sizeOf234
 v66:=Tryz.zeroValue234
 t70:=Tryz.underlying238
 a70:=Tryz.isAgg238
 z70:=Tryz.sizeOf238
 v70:=Tryz.zeroValue238
 t76:=Tryz.underlying270
 a76:=Tryz.isAgg270
 z76:=Tryz.sizeOf270
 v76:=Tryz.zeroValue270
 t77:=Tryz.underlying259
 a77:=Tryz.isAgg259
 z77:=Tryz.sizeOf259
 v77:=Tryz.zeroValue259 }
open Go.RowKit Go.Lib Go.Sort in
theorem Tryz.lD{α:Type}[Inhabited α](k:Nat)(aE:∀ w,(isAgg (Tryz.kX.t 24)).run Tryz.prog w = .ok true w)(zE:∀ w,(Go.sizeOf (Tryz.kX.t 24)).run Tryz.prog w = .ok k w)(enc:α->List Value)(cf:α->α->Int)(g:Nat)(cb:Array Value)(hO:SWO (ltOf cf))(wr off cap:Nat)(d0:Array α)(w0:World)(eg:∀ args w,(callFunc g args).run Tryz.prog w = .ok (.enter g args) w)(zY:CmpLays Tryz.prog g cb enc k cf wr off d0.size w0)(R:RowK enc k w0 wr off d0):
  ∀(N a b n6:Nat) (d:Array α) (w:World),b-a<N->d0.size=d.size->SWK enc k w0 wr off d w->a<=b->b<=d.size->d.size<4611686018427387904->n6<4611686018427387904->Below (ltOf cf) a b d->
  Calls Tryz.prog 104 #[.slice (some ⟨wr,off,none⟩) d.size cap,.int .i64 a,.int .i64 b,.int .i64 n6,.func (.func g) #[] cb] w fun e w'=>e = .returned (.tuple #[])/\SWK enc k w0 wr off (pdq (ltOf cf) d a b n6 true true) w':=AnyQ.pdqsortCmpFunc_all Tryz.oT k aE zE enc cf g cb hO wr off cap d0 w0 eg zY R
def Tryz.kY:Go.Shelf.Ren:=⟨fun | 14=>185 | 20=>188 | 21=>189 | 22=>190 | 23=>191 | 24=>192 | 25=>193 | 26=>194 | 27=>195 | 46=>204 | 47=>114 | 48=>115 | 49=>205 | 50=>206 | 15=>48 | 57=>210 | 28=>89 | 29=>90 | n=>n,fun | 24=>132 | 22=>175 | 3=>3 | 25=>181 | 4=>4 | 0=>0 | 46=>185 | 45=>184 | 50=>59 | 66=>234 | 39=>142 | 55=>193 | 70=>238 | 76=>270 | 77=>259 | 53=>191 | 5=>5 | 9=>9 | n=>n,fun | n=>n⟩
theorem Tryz.oU:Go.Proofs.SlLaysF0.n14 Tryz.prog Tryz.kY:={
 mixed:=by kernel_rfl
 f14:=⟨Tryz.f185.name,by decide,Tryz.func185.trans (congrArg some (by kernel_rfl))⟩
 f15:=Tryz.func48.trans (congrArg some (by kernel_rfl))
 f20:=⟨Tryz.f188.name,by decide,Tryz.func188.trans (congrArg some (by kernel_rfl))⟩
 f21:=⟨Tryz.f189.name,by decide,Tryz.func189.trans (congrArg some (by kernel_rfl))⟩
 f22:=⟨Tryz.f190.name,by decide,Tryz.func190.trans (congrArg some (by kernel_rfl))⟩
 f23:=⟨Tryz.f191.name,by decide,Tryz.func191.trans (congrArg some (by kernel_rfl))⟩
 f24:=⟨Tryz.f192.name,by decide,Tryz.func192.trans (congrArg some (by kernel_rfl))⟩
 f25:=⟨Tryz.f193.name,by decide,Tryz.func193.trans (congrArg some (by kernel_rfl))⟩
 f26:=⟨Tryz.f194.name,by decide,Tryz.func194.trans (congrArg some (by kernel_rfl))⟩
 f27:=⟨Tryz.f195.name,by decide,Tryz.func195.trans (congrArg some (by kernel_rfl))⟩
 f28:=Tryz.func89.trans (congrArg some (by kernel_rfl))
 f29:=Tryz.func90.trans (congrArg some (by kernel_rfl))
 f46:=⟨Tryz.f204.name,by decide,Tryz.func204.trans (congrArg some (by kernel_rfl))⟩
 f47:=Tryz.func114.trans (congrArg some (by kernel_rfl))
 f48:=Tryz.func115.trans (congrArg some (by kernel_rfl))
 f49:=⟨Tryz.f205.name,by decide,Tryz.func205.trans (congrArg some (by kernel_rfl))⟩
 f50:=⟨Tryz.f206.name,by decide,Tryz.func206.trans (congrArg some (by kernel_rfl))⟩
 f57:=⟨Tryz.f210.name,by decide,Tryz.func210.trans (congrArg some (by kernel_rfl))⟩
 t0:=Tryz.underlying0
 a0:=Tryz.isAgg0
 z0:=Tryz.sizeOf0
 v0:=Tryz.zeroValue0
 t3:=Tryz.underlying3
 a3:=Tryz.isAgg3
 z3:=Tryz.sizeOf3
 v3:=Tryz.zeroValue3
 t4:=Tryz.underlying4
 a4:=Tryz.isAgg4
 z4:=Tryz.sizeOf4
 v4:=Tryz.zeroValue4
 t5:=Tryz.underlying5
 a5:=Tryz.isAgg5
 z5:=Tryz.sizeOf5
 v5:=Tryz.zeroValue5
 t9:=Tryz.underlying9
 a9:=Tryz.isAgg9
 z9:=Tryz.sizeOf9
 v9:=Tryz.zeroValue9
 t22:=Tryz.underlying175
 a22:=Tryz.isAgg175
 z22:=Tryz.sizeOf175
 v22:=Tryz.zeroValue175
 t25:=Tryz.underlying181
 a25:=Tryz.isAgg181
 z25:=Tryz.sizeOf181
 v25:=Tryz.zeroValue181
 t39:=Tryz.underlying142
 a39:=Tryz.isAgg142
 z39:=Tryz.sizeOf142
 v39:=Tryz.zeroValue142
 t45:=Tryz.underlying184
 a45:=Tryz.isAgg184
 z45:=Tryz.sizeOf184
 v45:=Tryz.zeroValue184
 t46:=Tryz.underlying185
 a46:=Tryz.isAgg185
 z46:=Tryz.sizeOf185
 v46:=Tryz.zeroValue185
 t50:=Tryz.underlying59
 a50:=Tryz.isAgg59
 z50:=Tryz.sizeOf59
 v50:=Tryz.zeroValue59
 t53:=Tryz.underlying191
 a53:=Tryz.isAgg191
 z53:=Tryz.sizeOf191
 v53:=Tryz.zeroValue191
 t55:=Tryz.underlying193
 a55:=Tryz.isAgg193
 z55:=Tryz.sizeOf193
 v55:=Tryz.zeroValue193
 t66:=Tryz.underlying234
 a66:=Tryz.isAgg234
 z66:=Tryz.sizeOf234
 v66:=Tryz.zeroValue234
 t70:=Tryz.underlying238
 a70:=Tryz.isAgg238
 z70:=Tryz.sizeOf238
 v70:=Tryz.zeroValue238
 t76:=Tryz.underlying270
 a76:=Tryz.isAgg270
 z76:=Tryz.sizeOf270
 v76:=Tryz.zeroValue270
 t77:=Tryz.underlying259
 a77:=Tryz.isAgg259
 z77:=Tryz.sizeOf259
 v77:=Tryz.zeroValue259 }
open Go.RowKit Go.Lib Go.Sort in
theorem Tryz.lE{α:Type}[Inhabited α](k:Nat)(aE:∀ w,(isAgg (Tryz.kY.t 24)).run Tryz.prog w = .ok true w)(zE:∀ w,(Go.sizeOf (Tryz.kY.t 24)).run Tryz.prog w = .ok k w)(enc:α->List Value)(cf:α->α->Int)(g:Nat)(cb:Array Value)(hO:SWO (ltOf cf))(wr off cap:Nat)(d0:Array α)(w0:World)(eg:∀ args w,(callFunc g args).run Tryz.prog w = .ok (.enter g args) w)(zY:CmpLays Tryz.prog g cb enc k cf wr off d0.size w0)(R:RowK enc k w0 wr off d0):
  ∀(N a b n6:Nat) (d:Array α) (w:World),b-a<N->d0.size=d.size->SWK enc k w0 wr off d w->a<=b->b<=d.size->d.size<4611686018427387904->n6<4611686018427387904->Below (ltOf cf) a b d->
  Calls Tryz.prog 185 #[.slice (some ⟨wr,off,none⟩) d.size cap,.int .i64 a,.int .i64 b,.int .i64 n6,.func (.func g) #[] cb] w fun e w'=>e = .returned (.tuple #[])/\SWK enc k w0 wr off (pdq (ltOf cf) d a b n6 true true) w':=AnyQ.pdqsortCmpFunc_all Tryz.oU k aE zE enc cf g cb hO wr off cap d0 w0 eg zY R
def Tryz.kZ:Go.Shelf.Ren:=⟨fun | 14=>187 | 20=>196 | 21=>197 | 22=>198 | 23=>199 | 24=>200 | 25=>201 | 26=>202 | 27=>203 | 46=>207 | 47=>114 | 48=>115 | 49=>208 | 50=>209 | 15=>48 | 57=>211 | 28=>89 | 29=>90 | n=>n,fun | 24=>171 | 22=>172 | 3=>3 | 25=>287 | 4=>4 | 0=>0 | 46=>185 | 45=>184 | 50=>59 | 66=>234 | 39=>142 | 55=>193 | 70=>238 | 76=>270 | 77=>259 | 53=>191 | 5=>5 | 9=>9 | n=>n,fun | n=>n⟩
theorem Tryz.oV:Go.Proofs.SlLaysF0.n14 Tryz.prog Tryz.kZ:={
 mixed:=by kernel_rfl
 f14:=⟨Tryz.f187.name,by decide,Tryz.func187.trans (congrArg some (by kernel_rfl))⟩
 f15:=Tryz.func48.trans (congrArg some (by kernel_rfl))
 f20:=⟨Tryz.f196.name,by decide,Tryz.func196.trans (congrArg some (by kernel_rfl))⟩
 f21:=⟨Tryz.f197.name,by decide,Tryz.func197.trans (congrArg some (by kernel_rfl))⟩
 f22:=⟨Tryz.f198.name,by decide,Tryz.func198.trans (congrArg some (by kernel_rfl))⟩
 f23:=⟨Tryz.f199.name,by decide,Tryz.func199.trans (congrArg some (by kernel_rfl))⟩
 f24:=⟨Tryz.f200.name,by decide,Tryz.func200.trans (congrArg some (by kernel_rfl))⟩
 f25:=⟨Tryz.f201.name,by decide,Tryz.func201.trans (congrArg some (by kernel_rfl))⟩
 f26:=⟨Tryz.f202.name,by decide,Tryz.func202.trans (congrArg some (by kernel_rfl))⟩
 f27:=⟨Tryz.f203.name,by decide,Tryz.func203.trans (congrArg some (by kernel_rfl))⟩
 f28:=Tryz.func89.trans (congrArg some (by kernel_rfl))
 f29:=Tryz.func90.trans (congrArg some (by kernel_rfl))
 f46:=⟨Tryz.f207.name,by decide,Tryz.func207.trans (congrArg some (by kernel_rfl))⟩
 f47:=Tryz.func114.trans (congrArg some (by kernel_rfl))
 f48:=Tryz.func115.trans (congrArg some (by kernel_rfl))
 f49:=⟨Tryz.f208.name,by decide,Tryz.func208.trans (congrArg some (by kernel_rfl))⟩
 f50:=⟨Tryz.f209.name,by decide,Tryz.func209.trans (congrArg some (by kernel_rfl))⟩
 f57:=⟨Tryz.f211.name,by decide,Tryz.func211.trans (congrArg some (by kernel_rfl))⟩
 t0:=Tryz.underlying0
 a0:=Tryz.isAgg0
 z0:=Tryz.sizeOf0
 v0:=Tryz.zeroValue0
 t3:=Tryz.underlying3
 a3:=Tryz.isAgg3
 z3:=Tryz.sizeOf3
 v3:=Tryz.zeroValue3
 t4:=Tryz.underlying4
 a4:=Tryz.isAgg4
 z4:=Tryz.sizeOf4
 v4:=Tryz.zeroValue4
 t5:=Tryz.underlying5
 a5:=Tryz.isAgg5
 z5:=Tryz.sizeOf5
 v5:=Tryz.zeroValue5
 t9:=Tryz.underlying9
 a9:=Tryz.isAgg9
 z9:=Tryz.sizeOf9
 v9:=Tryz.zeroValue9
 t22:=Tryz.underlying172
 a22:=Tryz.isAgg172
 z22:=Tryz.sizeOf172
 v22:=Tryz.zeroValue172
 t25:=Tryz.underlying287
 a25:=Tryz.isAgg287
 z25:=Tryz.sizeOf287
 v25:=Tryz.zeroValue287
 t39:=Tryz.underlying142
 a39:=Tryz.isAgg142
 z39:=Tryz.sizeOf142
 v39:=Tryz.zeroValue142
 t45:=Tryz.underlying184
 a45:=Tryz.isAgg184
 z45:=Tryz.sizeOf184
 v45:=Tryz.zeroValue184
 t46:=Tryz.underlying185
 a46:=Tryz.isAgg185
 z46:=Tryz.sizeOf185
 v46:=Tryz.zeroValue185
 t50:=Tryz.underlying59
 a50:=Tryz.isAgg59
 z50:=Tryz.sizeOf59
 v50:=Tryz.zeroValue59
 t53:=Tryz.underlying191
 a53:=Tryz.isAgg191
 z53:=Tryz.sizeOf191
 v53:=Tryz.zeroValue191
 t55:=Tryz.underlying193
 a55:=Tryz.isAgg193
 z55:=Tryz.sizeOf193
 v55:=Tryz.zeroValue193
 t66:=Tryz.underlying234
 a66:=Tryz.isAgg234
 z66:=Tryz.sizeOf234
 v66:=Tryz.zeroValue234
 t70:=Tryz.underlying238
 a70:=Tryz.isAgg238
 z70:=Tryz.sizeOf238
 v70:=Tryz.zeroValue238
 t76:=Tryz.underlying270
 a76:=Tryz.isAgg270
 z76:=Tryz.sizeOf270
 v76:=Tryz.zeroValue270
 t77:=Tryz.underlying259
 a77:=Tryz.isAgg259
 z77:=Tryz.sizeOf259
 v77:=Tryz.zeroValue259 }
open Go.RowKit Go.Lib Go.Sort in
theorem Tryz.lF{α:Type}[Inhabited α](k:Nat)(aE:∀ w,(isAgg (Tryz.kZ.t 24)).run Tryz.prog w = .ok true w)(zE:∀ w,(Go.sizeOf (Tryz.kZ.t 24)).run Tryz.prog w = .ok k w)(enc:α->List Value)(cf:α->α->Int)(g:Nat)(cb:Array Value)(hO:SWO (ltOf cf))(wr off cap:Nat)(d0:Array α)(w0:World)(eg:∀ args w,(callFunc g args).run Tryz.prog w = .ok (.enter g args) w)(zY:CmpLays Tryz.prog g cb enc k cf wr off d0.size w0)(R:RowK enc k w0 wr off d0):
  ∀(N a b n6:Nat) (d:Array α) (w:World),b-a<N->d0.size=d.size->SWK enc k w0 wr off d w->a<=b->b<=d.size->d.size<4611686018427387904->n6<4611686018427387904->Below (ltOf cf) a b d->
  Calls Tryz.prog 187 #[.slice (some ⟨wr,off,none⟩) d.size cap,.int .i64 a,.int .i64 b,.int .i64 n6,.func (.func g) #[] cb] w fun e w'=>e = .returned (.tuple #[])/\SWK enc k w0 wr off (pdq (ltOf cf) d a b n6 true true) w':=AnyQ.pdqsortCmpFunc_all Tryz.oV k aE zE enc cf g cb hO wr off cap d0 w0 eg zY R
open Go.RowKit Go.Lib Go.Sort in
theorem Tryz.lG{α:Type}[Inhabited α](p:Option Addr)(cap:Nat)(zm:Int)(fv:Value)(w:World):
  Calls Tryz.prog 47 #[.slice p 0 cap,.int .i64 0,.int .i64 0,.int .i64 zm,fv] w fun e w'=>e = .returned (.tuple #[])/\w'=w:=AnyF.pdqsortCmpFunc_none Tryz.lq p cap zm fv w
open Go.RowKit Go.Lib Go.Sort in
theorem Tryz.lH{α:Type}[Inhabited α](p:Option Addr)(cap:Nat)(zm:Int)(fv:Value)(w:World):
  Calls Tryz.prog 92 #[.slice p 0 cap,.int .i64 0,.int .i64 0,.int .i64 zm,fv] w fun e w'=>e = .returned (.tuple #[])/\w'=w:=AnyF.pdqsortCmpFunc_none Tryz.lr p cap zm fv w
open Go.RowKit Go.Lib Go.Sort in
theorem Tryz.li{α:Type}[Inhabited α](p:Option Addr)(cap:Nat)(zm:Int)(fv:Value)(w:World):
  Calls Tryz.prog 104 #[.slice p 0 cap,.int .i64 0,.int .i64 0,.int .i64 zm,fv] w fun e w'=>e = .returned (.tuple #[])/\w'=w:=AnyF.pdqsortCmpFunc_none Tryz.oT p cap zm fv w
open Go.RowKit Go.Lib Go.Sort in
theorem Tryz.ll{α:Type}[Inhabited α](p:Option Addr)(cap:Nat)(zm:Int)(fv:Value)(w:World):
  Calls Tryz.prog 185 #[.slice p 0 cap,.int .i64 0,.int .i64 0,.int .i64 zm,fv] w fun e w'=>e = .returned (.tuple #[])/\w'=w:=AnyF.pdqsortCmpFunc_none Tryz.oU p cap zm fv w
open Go.RowKit Go.Lib Go.Sort in
theorem Tryz.lm{α:Type}[Inhabited α](p:Option Addr)(cap:Nat)(zm:Int)(fv:Value)(w:World):
  Calls Tryz.prog 187 #[.slice p 0 cap,.int .i64 0,.int .i64 0,.int .i64 zm,fv] w fun e w'=>e = .returned (.tuple #[])/\w'=w:=AnyF.pdqsortCmpFunc_none Tryz.oV p cap zm fv w
end Go.Proofs

/- A part of this claim's proof: models of functions, walks, plain laws. No conditions. -/
import Derived.Shelf.Small.Bits
import Derived.Ground.SlsfProg
import Derived.Shelf.SlSortCmp.PdqK
import Derived.Shelf.SlSortCmp.NoneTotal
import Derived.Test.YtaefhckdgfpeaaaGreatProg
set_option linter.all false
/-
 DERIVED: THE SHELF's CONTRACTS AT THIS DUMP, IN PLAIN WORDS (tools/lay-plain.mjs out of 'TryzShelf.lean', which tools/lay-shelf.mjs wrote): THE SAME DECLARATIONS UNDER THE SAME NAMES: 'import', 'namespace', 'open', 'def', 'theorem' AND NOTHING ELSE: no command of the shelf's: FOR A HAND-IN. Each laying: the table of numbers ('.._ren') and one theorem, a field a fact of the dump's own or the kernel's comparison; each contract: ONE APPLICATION.
-/
namespace Go.Proofs
open Go.Shelf
def Tryz.W4:Go.Shelf.Ren:=⟨fun | 125=>93 | 128=>152 | 129=>153 | n=>n,fun | 46=>226 | 3=>3 | 51=>122 | 53=>24 | 4=>4 | 5=>5 | 9=>9 | n=>n,fun | n=>n⟩
theorem Tryz.Jk:Go.Proofs.Lays.n125 Tryz.prog Tryz.W4:={
 mixed:=by kernel_rfl
 f125:=Tryz.func93.trans (congrArg some (by kernel_rfl))
 f128:=Tryz.func152.trans (congrArg some (by kernel_rfl))
 f129:=Tryz.func153.trans (congrArg some (by kernel_rfl))
 t3:=Tryz.underlying3
 a3:=Tryz.isAgg3
 z3:=Tryz.sizeOf3
 v3:=Tryz.zeroValue3
 t4:=Tryz.underlying4
 a4:=Tryz.isAgg4
 z4:=Tryz.sizeOf4
 v4:=Tryz.zeroValue4
 t5:=Tryz.underlying5
 a5:=Tryz.isAgg5
 z5:=Tryz.sizeOf5
 v5:=Tryz.zeroValue5
 t9:=Tryz.underlying9
 a9:=Tryz.isAgg9
 z9:=Tryz.sizeOf9
 v9:=Tryz.zeroValue9
 t46:=Tryz.underlying226
 a46:=Tryz.isAgg226
 z46:=Tryz.sizeOf226
 v46:=Tryz.zeroValue226
 t51:=Tryz.underlying122
 a51:=Tryz.isAgg122
 z51:=Tryz.sizeOf122
 v51:=Tryz.zeroValue122
 t53:=Tryz.underlying24
 a53:=Tryz.isAgg24
 z53:=Tryz.sizeOf24
 v53:=Tryz.zeroValue24 }
theorem Tryz.bits_Len(x:Int)(w:World)(h0:0<=x)(h1:x<=18446744073709551615):
  Calls Tryz.prog 93 #[.int .u64 x] w fun e w'=>e = .returned (.int .i64 (Lib.bitLen x.toNat))/\w'=w:=Any.bits_Len Tryz.Jk x w h0 h1
def Tryz.gb:Go.Shelf.Ren:=⟨fun | 14=>92 | 20=>144 | 21=>145 | 22=>146 | 23=>147 | 24=>148 | 25=>149 | 26=>150 | 27=>151 | 46=>189 | 47=>190 | 48=>191 | 49=>192 | 50=>193 | 15=>93 | 57=>221 | 28=>152 | 29=>153 | n=>n,fun | 24=>152 | 22=>86 | 3=>3 | 25=>158 | 4=>4 | 0=>0 | 46=>291 | 45=>290 | 50=>230 | 66=>348 | 39=>226 | 55=>24 | 70=>352 | 76=>378 | 77=>379 | 53=>122 | 5=>5 | 9=>9 | n=>n,fun | n=>n⟩
theorem Tryz.iQ:Go.Proofs.SlLaysF0.n14 Tryz.prog Tryz.gb:={
 mixed:=by kernel_rfl
 f14:=⟨Tryz.f92.name,by decide,Tryz.func92.trans (congrArg some (by kernel_rfl))⟩
 f15:=Tryz.func93.trans (congrArg some (by kernel_rfl))
 f20:=⟨Tryz.f144.name,by decide,Tryz.func144.trans (congrArg some (by kernel_rfl))⟩
 f21:=⟨Tryz.f145.name,by decide,Tryz.func145.trans (congrArg some (by kernel_rfl))⟩
 f22:=⟨Tryz.f146.name,by decide,Tryz.func146.trans (congrArg some (by kernel_rfl))⟩
 f23:=⟨Tryz.f147.name,by decide,Tryz.func147.trans (congrArg some (by kernel_rfl))⟩
 f24:=⟨Tryz.f148.name,by decide,Tryz.func148.trans (congrArg some (by kernel_rfl))⟩
 f25:=⟨Tryz.f149.name,by decide,Tryz.func149.trans (congrArg some (by kernel_rfl))⟩
 f26:=⟨Tryz.f150.name,by decide,Tryz.func150.trans (congrArg some (by kernel_rfl))⟩
 f27:=⟨Tryz.f151.name,by decide,Tryz.func151.trans (congrArg some (by kernel_rfl))⟩
 f28:=Tryz.func152.trans (congrArg some (by kernel_rfl))
 f29:=Tryz.func153.trans (congrArg some (by kernel_rfl))
 f46:=⟨Tryz.f189.name,by decide,Tryz.func189.trans (congrArg some (by kernel_rfl))⟩
 f47:=Tryz.func190.trans (congrArg some (by kernel_rfl))
 f48:=Tryz.func191.trans (congrArg some (by kernel_rfl))
 f49:=⟨Tryz.f192.name,by decide,Tryz.func192.trans (congrArg some (by kernel_rfl))⟩
 f50:=⟨Tryz.f193.name,by decide,Tryz.func193.trans (congrArg some (by kernel_rfl))⟩
 f57:=⟨Tryz.f221.name,by decide,Tryz.func221.trans (congrArg some (by kernel_rfl))⟩
 t0:=Tryz.underlying0
 a0:=Tryz.isAgg0
 z0:=Tryz.sizeOf0
 v0:=Tryz.zeroValue0
 t3:=Tryz.underlying3
 a3:=Tryz.isAgg3
 z3:=Tryz.sizeOf3
 v3:=Tryz.zeroValue3
 t4:=Tryz.underlying4
 a4:=Tryz.isAgg4
 z4:=Tryz.sizeOf4
 v4:=Tryz.zeroValue4
 t5:=Tryz.underlying5
 a5:=Tryz.isAgg5
 z5:=Tryz.sizeOf5
 v5:=Tryz.zeroValue5
 t9:=Tryz.underlying9
 a9:=Tryz.isAgg9
 z9:=Tryz.sizeOf9
 v9:=Tryz.zeroValue9
 t22:=Tryz.underlying86
 a22:=Tryz.isAgg86
 z22:=Tryz.sizeOf86
 v22:=Tryz.zeroValue86
 t25:=Tryz.underlying158
 a25:=Tryz.isAgg158
 z25:=Tryz.sizeOf158
 v25:=Tryz.zeroValue158
 t39:=Tryz.underlying226
 a39:=Tryz.isAgg226
 z39:=Tryz.sizeOf226
 v39:=Tryz.zeroValue226
 t45:=Tryz.underlying290
 a45:=Tryz.isAgg290
 z45:=Tryz.sizeOf290
 v45:=Tryz.zeroValue290
 t46:=Tryz.underlying291
 a46:=Tryz.isAgg291
 z46:=Tryz.sizeOf291
 v46:=Tryz.zeroValue291
 t50:=Tryz.underlying230
 a50:=Tryz.isAgg230
 z50:=Tryz.sizeOf230
 v50:=Tryz.zeroValue230
 t53:=Tryz.underlying122
 a53:=Tryz.isAgg122
 z53:=Tryz.sizeOf122
 v53:=Tryz.zeroValue122
 t55:=Tryz.underlying24
 a55:=Tryz.isAgg24
 z55:=Tryz.sizeOf24
 v55:=Tryz.zeroValue24
 t66:=Tryz.underlying348
 a66:=Tryz.isAgg348
 z66:=Tryz.sizeOf348
 v66:=Tryz.zeroValue348
 t70:=Tryz.underlying352
 a70:=Tryz.isAgg352
 z70:=Tryz.sizeOf352
 v70:=Tryz.zeroValue352
 t76:=Tryz.underlying378
 a76:=Tryz.isAgg378
 z76:=Tryz.sizeOf378
 v76:=Tryz.zeroValue378
 t77:=Tryz.underlying379
 a77:=Tryz.isAgg379
 z77:=Tryz.sizeOf379
 v77:=Tryz.zeroValue379 }
open Go.RowKit Go.Lib Go.Sort in
theorem Tryz.hJ{α:Type}[Inhabited α](k:Nat)(aE:∀ w,(isAgg (Tryz.gb.t 24)).run Tryz.prog w = .ok true w)(zE:∀ w,(Go.sizeOf (Tryz.gb.t 24)).run Tryz.prog w = .ok k w)(enc:α->List Value)(cf:α->α->Int)(g:Nat)(cb:Array Value)(hO:SWO (ltOf cf))(wA off cap:Nat)(d0:Array α)(w0:World)(eg:∀ args w,(callFunc g args).run Tryz.prog w = .ok (.enter g args) w)(zO:CmpLays Tryz.prog g cb enc k cf wA off d0.size w0)(R:RowK enc k w0 wA off d0):
  ∀(N a b pA:Nat) (d:Array α) (w:World),b-a<N->d0.size=d.size->SWK enc k w0 wA off d w->a<=b->b<=d.size->d.size<4611686018427387904->pA<4611686018427387904->Below (ltOf cf) a b d->
  Calls Tryz.prog 92 #[.slice (some ⟨wA,off,none⟩) d.size cap,.int .i64 a,.int .i64 b,.int .i64 pA,.func (.func g) #[] cb] w fun e w'=>e = .returned (.tuple #[])/\SWK enc k w0 wA off (pdq (ltOf cf) d a b pA true true) w':=AnyQ.pdqsortCmpFunc_all Tryz.iQ k aE zE enc cf g cb hO wA off cap d0 w0 eg zO R
def Tryz.kP:Go.Shelf.Ren:=⟨fun | 14=>155 | 20=>194 | 21=>195 | 22=>196 | 23=>197 | 24=>198 | 25=>199 | 26=>200 | 27=>201 | 46=>222 | 47=>190 | 48=>191 | 49=>223 | 50=>224 | 15=>93 | 57=>253 | 28=>152 | 29=>153 | n=>n,fun | 24=>101 | 22=>87 | 3=>3 | 25=>233 | 4=>4 | 0=>0 | 46=>291 | 45=>290 | 50=>230 | 66=>348 | 39=>226 | 55=>24 | 70=>352 | 76=>378 | 77=>379 | 53=>122 | 5=>5 | 9=>9 | n=>n,fun | n=>n⟩
theorem Tryz.lZ:Go.Proofs.SlLaysF0.n14 Tryz.prog Tryz.kP:={
 mixed:=by kernel_rfl
 f14:=⟨Tryz.f155.name,by decide,Tryz.func155.trans (congrArg some (by kernel_rfl))⟩
 f15:=Tryz.func93.trans (congrArg some (by kernel_rfl))
 f20:=⟨Tryz.f194.name,by decide,Tryz.func194.trans (congrArg some (by kernel_rfl))⟩
 f21:=⟨Tryz.f195.name,by decide,Tryz.func195.trans (congrArg some (by kernel_rfl))⟩
 f22:=⟨Tryz.f196.name,by decide,Tryz.func196.trans (congrArg some (by kernel_rfl))⟩
 f23:=⟨Tryz.f197.name,by decide,Tryz.func197.trans (congrArg some (by kernel_rfl))⟩
 f24:=⟨Tryz.f198.name,by decide,Tryz.func198.trans (congrArg some (by kernel_rfl))⟩
 f25:=⟨Tryz.f199.name,by decide,Tryz.func199.trans (congrArg some (by kernel_rfl))⟩
 f26:=⟨Tryz.f200.name,by decide,Tryz.func200.trans (congrArg some (by kernel_rfl))⟩
 f27:=⟨Tryz.f201.name,by decide,Tryz.func201.trans (congrArg some (by kernel_rfl))⟩
 f28:=Tryz.func152.trans (congrArg some (by kernel_rfl))
 f29:=Tryz.func153.trans (congrArg some (by kernel_rfl))
 f46:=⟨Tryz.f222.name,by decide,Tryz.func222.trans (congrArg some (by kernel_rfl))⟩
 f47:=Tryz.func190.trans (congrArg some (by kernel_rfl))
 f48:=Tryz.func191.trans (congrArg some (by kernel_rfl))
 f49:=⟨Tryz.f223.name,by decide,Tryz.func223.trans (congrArg some (by kernel_rfl))⟩
 f50:=⟨Tryz.f224.name,by decide,Tryz.func224.trans (congrArg some (by kernel_rfl))⟩
 f57:=⟨Tryz.f253.name,by decide,Tryz.func253.trans (congrArg some (by kernel_rfl))⟩
 t0:=Tryz.underlying0
 a0:=Tryz.isAgg0
 z0:=Tryz.sizeOf0
 v0:=Tryz.zeroValue0
 t3:=Tryz.underlying3
 a3:=Tryz.isAgg3
 z3:=Tryz.sizeOf3
 v3:=Tryz.zeroValue3
 t4:=Tryz.underlying4
 a4:=Tryz.isAgg4
 z4:=Tryz.sizeOf4
 v4:=Tryz.zeroValue4
 t5:=Tryz.underlying5
 a5:=Tryz.isAgg5
 z5:=Tryz.sizeOf5
 v5:=Tryz.zeroValue5
 t9:=Tryz.underlying9
 a9:=Tryz.isAgg9
 z9:=Tryz.sizeOf9
 v9:=Tryz.zeroValue9
 t22:=Tryz.underlying87
 a22:=Tryz.isAgg87
 z22:=Tryz.sizeOf87
 v22:=Tryz.zeroValue87
 t25:=Tryz.underlying233
 a25:=Tryz.isAgg233
 z25:=Tryz.sizeOf233
 v25:=Tryz.zeroValue233
 t39:=Tryz.underlying226
 a39:=Tryz.isAgg226
 z39:=Tryz.sizeOf226
 v39:=Tryz.zeroValue226
 t45:=Tryz.underlying290
 a45:=Tryz.isAgg290
 z45:=Tryz.sizeOf290
 v45:=Tryz.zeroValue290
 t46:=Tryz.underlying291
 a46:=Tryz.isAgg291
 z46:=Tryz.sizeOf291
 v46:=Tryz.zeroValue291
 t50:=Tryz.underlying230
 a50:=Tryz.isAgg230
 z50:=Tryz.sizeOf230
 v50:=Tryz.zeroValue230
 t53:=Tryz.underlying122
 a53:=Tryz.isAgg122
 z53:=Tryz.sizeOf122
 v53:=Tryz.zeroValue122
 t55:=Tryz.underlying24
 a55:=Tryz.isAgg24
 z55:=Tryz.sizeOf24
 v55:=Tryz.zeroValue24
 t66:=Tryz.underlying348
 a66:=Tryz.isAgg348
 z66:=Tryz.sizeOf348
 v66:=Tryz.zeroValue348
 t70:=Tryz.underlying352
 a70:=Tryz.isAgg352
 z70:=Tryz.sizeOf352
 v70:=Tryz.zeroValue352
 t76:=Tryz.underlying378
 a76:=Tryz.isAgg378
 z76:=Tryz.sizeOf378
 v76:=Tryz.zeroValue378
 t77:=Tryz.underlying379
 a77:=Tryz.isAgg379
 z77:=Tryz.sizeOf379
 v77:=Tryz.zeroValue379 }
open Go.RowKit Go.Lib Go.Sort in
theorem Tryz.cg{α:Type}[Inhabited α](k:Nat)(aE:∀ w,(isAgg (Tryz.kP.t 24)).run Tryz.prog w = .ok true w)(zE:∀ w,(Go.sizeOf (Tryz.kP.t 24)).run Tryz.prog w = .ok k w)(enc:α->List Value)(cf:α->α->Int)(g:Nat)(cb:Array Value)(hO:SWO (ltOf cf))(wA off cap:Nat)(d0:Array α)(w0:World)(eg:∀ args w,(callFunc g args).run Tryz.prog w = .ok (.enter g args) w)(zO:CmpLays Tryz.prog g cb enc k cf wA off d0.size w0)(R:RowK enc k w0 wA off d0):
  ∀(N a b pA:Nat) (d:Array α) (w:World),b-a<N->d0.size=d.size->SWK enc k w0 wA off d w->a<=b->b<=d.size->d.size<4611686018427387904->pA<4611686018427387904->Below (ltOf cf) a b d->
  Calls Tryz.prog 155 #[.slice (some ⟨wA,off,none⟩) d.size cap,.int .i64 a,.int .i64 b,.int .i64 pA,.func (.func g) #[] cb] w fun e w'=>e = .returned (.tuple #[])/\SWK enc k w0 wA off (pdq (ltOf cf) d a b pA true true) w':=AnyQ.pdqsortCmpFunc_all Tryz.lZ k aE zE enc cf g cb hO wA off cap d0 w0 eg zO R
def Tryz.kQ:Go.Shelf.Ren:=⟨fun | 14=>212 | 20=>229 | 21=>230 | 22=>231 | 23=>232 | 24=>233 | 25=>234 | 26=>235 | 27=>236 | 46=>256 | 47=>190 | 48=>191 | 49=>257 | 50=>258 | 15=>93 | 57=>269 | 28=>152 | 29=>153 | n=>n,fun | 24=>208 | 22=>204 | 3=>3 | 25=>329 | 4=>4 | 0=>0 | 46=>291 | 45=>290 | 50=>230 | 66=>348 | 39=>226 | 55=>24 | 70=>352 | 76=>378 | 77=>379 | 53=>122 | 5=>5 | 9=>9 | n=>n,fun | n=>n⟩
theorem Tryz.ia:Go.Proofs.SlLaysF0.n14 Tryz.prog Tryz.kQ:={
 mixed:=by kernel_rfl
 f14:=⟨Tryz.f212.name,by decide,Tryz.func212.trans (congrArg some (by kernel_rfl))⟩
 f15:=Tryz.func93.trans (congrArg some (by kernel_rfl))
 f20:=⟨Tryz.f229.name,by decide,Tryz.func229.trans (congrArg some (by kernel_rfl))⟩
 f21:=⟨Tryz.f230.name,by decide,Tryz.func230.trans (congrArg some (by kernel_rfl))⟩
 f22:=⟨Tryz.f231.name,by decide,Tryz.func231.trans (congrArg some (by kernel_rfl))⟩
 f23:=⟨Tryz.f232.name,by decide,Tryz.func232.trans (congrArg some (by kernel_rfl))⟩
 f24:=⟨Tryz.f233.name,by decide,Tryz.func233.trans (congrArg some (by kernel_rfl))⟩
 f25:=⟨Tryz.f234.name,by decide,Tryz.func234.trans (congrArg some (by kernel_rfl))⟩
 f26:=⟨Tryz.f235.name,by decide,Tryz.func235.trans (congrArg some (by kernel_rfl))⟩
 f27:=⟨Tryz.f236.name,by decide,Tryz.func236.trans (congrArg some (by kernel_rfl))⟩
 f28:=Tryz.func152.trans (congrArg some (by kernel_rfl))
 f29:=Tryz.func153.trans (congrArg some (by kernel_rfl))
 f46:=⟨Tryz.f256.name,by decide,Tryz.func256.trans (congrArg some (by kernel_rfl))⟩
 f47:=Tryz.func190.trans (congrArg some (by kernel_rfl))
 f48:=Tryz.func191.trans (congrArg some (by kernel_rfl))
 f49:=⟨Tryz.f257.name,by decide,Tryz.func257.trans (congrArg some (by kernel_rfl))⟩
 f50:=⟨Tryz.f258.name,by decide,Tryz.func258.trans (congrArg some (by kernel_rfl))⟩
 f57:=⟨Tryz.f269.name,by decide,Tryz.func269.trans (congrArg some (by kernel_rfl))⟩
 t0:=Tryz.underlying0
 a0:=Tryz.isAgg0
 z0:=Tryz.sizeOf0
 v0:=Tryz.zeroValue0
 t3:=Tryz.underlying3
 a3:=Tryz.isAgg3
 z3:=Tryz.sizeOf3
 v3:=Tryz.zeroValue3
 t4:=Tryz.underlying4
 a4:=Tryz.isAgg4
 z4:=Tryz.sizeOf4
 v4:=Tryz.zeroValue4
 t5:=Tryz.underlying5
 a5:=Tryz.isAgg5
 z5:=Tryz.sizeOf5
 v5:=Tryz.zeroValue5
 t9:=Tryz.underlying9
 a9:=Tryz.isAgg9
 z9:=Tryz.sizeOf9
 v9:=Tryz.zeroValue9
 t22:=Tryz.underlying204
 a22:=Tryz.isAgg204
 z22:=Tryz.sizeOf204
 v22:=Tryz.zeroValue204
 t25:=Tryz.underlying329
 a25:=Tryz.isAgg329
 z25:=Tryz.sizeOf329
 v25:=Tryz.zeroValue329
 t39:=Tryz.underlying226
 a39:=Tryz.isAgg226
 z39:=Tryz.sizeOf226
 v39:=Tryz.zeroValue226
 t45:=Tryz.underlying290
 a45:=Tryz.isAgg290
 z45:=Tryz.sizeOf290
 v45:=Tryz.zeroValue290
 t46:=Tryz.underlying291
 a46:=Tryz.isAgg291
 z46:=Tryz.sizeOf291
 v46:=Tryz.zeroValue291
 t50:=Tryz.underlying230
 a50:=Tryz.isAgg230
 z50:=Tryz.sizeOf230
 v50:=Tryz.zeroValue230
 t53:=Tryz.underlying122
 a53:=Tryz.isAgg122
 z53:=Tryz.sizeOf122
 v53:=Tryz.zeroValue122
 t55:=Tryz.underlying24
 a55:=Tryz.isAgg24
 z55:=Tryz.sizeOf24
 v55:=Tryz.zeroValue24
 t66:=Tryz.underlying348
 a66:=Tryz.isAgg348
 z66:=Tryz.sizeOf348
 v66:=Tryz.zeroValue348
 t70:=Tryz.underlying352
 a70:=Tryz.isAgg352
 z70:=Tryz.sizeOf352
 v70:=Tryz.zeroValue352
 t76:=Tryz.underlying378
 a76:=Tryz.isAgg378
 z76:=Tryz.sizeOf378
 v76:=Tryz.zeroValue378
 t77:=Tryz.underlying379
 a77:=Tryz.isAgg379
 z77:=Tryz.sizeOf379
 v77:=Tryz.zeroValue379 }
open Go.RowKit Go.Lib Go.Sort in
theorem Tryz.cj{α:Type}[Inhabited α](k:Nat)(aE:∀ w,(isAgg (Tryz.kQ.t 24)).run Tryz.prog w = .ok true w)(zE:∀ w,(Go.sizeOf (Tryz.kQ.t 24)).run Tryz.prog w = .ok k w)(enc:α->List Value)(cf:α->α->Int)(g:Nat)(cb:Array Value)(hO:SWO (ltOf cf))(wA off cap:Nat)(d0:Array α)(w0:World)(eg:∀ args w,(callFunc g args).run Tryz.prog w = .ok (.enter g args) w)(zO:CmpLays Tryz.prog g cb enc k cf wA off d0.size w0)(R:RowK enc k w0 wA off d0):
  ∀(N a b pA:Nat) (d:Array α) (w:World),b-a<N->d0.size=d.size->SWK enc k w0 wA off d w->a<=b->b<=d.size->d.size<4611686018427387904->pA<4611686018427387904->Below (ltOf cf) a b d->
  Calls Tryz.prog 212 #[.slice (some ⟨wA,off,none⟩) d.size cap,.int .i64 a,.int .i64 b,.int .i64 pA,.func (.func g) #[] cb] w fun e w'=>e = .returned (.tuple #[])/\SWK enc k w0 wA off (pdq (ltOf cf) d a b pA true true) w':=AnyQ.pdqsortCmpFunc_all Tryz.ia k aE zE enc cf g cb hO wA off cap d0 w0 eg zO R
def Tryz.kR:Go.Shelf.Ren:=⟨fun | 14=>277 | 20=>280 | 21=>281 | 22=>282 | 23=>283 | 24=>284 | 25=>285 | 26=>286 | 27=>287 | 46=>296 | 47=>190 | 48=>191 | 49=>297 | 50=>298 | 15=>93 | 57=>302 | 28=>152 | 29=>153 | n=>n,fun | 24=>276 | 22=>340 | 3=>3 | 25=>346 | 4=>4 | 0=>0 | 46=>291 | 45=>290 | 50=>230 | 66=>348 | 39=>226 | 55=>24 | 70=>352 | 76=>378 | 77=>379 | 53=>122 | 5=>5 | 9=>9 | n=>n,fun | n=>n⟩
theorem Tryz.ib:Go.Proofs.SlLaysF0.n14 Tryz.prog Tryz.kR:={
 mixed:=by kernel_rfl
 f14:=⟨Tryz.f277.name,by decide,Tryz.func277.trans (congrArg some (by kernel_rfl))⟩
 f15:=Tryz.func93.trans (congrArg some (by kernel_rfl))
 f20:=⟨Tryz.f280.name,by decide,Tryz.func280.trans (congrArg some (by kernel_rfl))⟩
 f21:=⟨Tryz.f281.name,by decide,Tryz.func281.trans (congrArg some (by kernel_rfl))⟩
 f22:=⟨Tryz.f282.name,by decide,Tryz.func282.trans (congrArg some (by kernel_rfl))⟩
 f23:=⟨Tryz.f283.name,by decide,Tryz.func283.trans (congrArg some (by kernel_rfl))⟩
 f24:=⟨Tryz.f284.name,by decide,Tryz.func284.trans (congrArg some (by kernel_rfl))⟩
 f25:=⟨Tryz.f285.name,by decide,Tryz.func285.trans (congrArg some (by kernel_rfl))⟩
 f26:=⟨Tryz.f286.name,by decide,Tryz.func286.trans (congrArg some (by kernel_rfl))⟩
 f27:=⟨Tryz.f287.name,by decide,Tryz.func287.trans (congrArg some (by kernel_rfl))⟩
 f28:=Tryz.func152.trans (congrArg some (by kernel_rfl))
 f29:=Tryz.func153.trans (congrArg some (by kernel_rfl))
 f46:=⟨Tryz.f296.name,by decide,Tryz.func296.trans (congrArg some (by kernel_rfl))⟩
 f47:=Tryz.func190.trans (congrArg some (by kernel_rfl))
 f48:=Tryz.func191.trans (congrArg some (by kernel_rfl))
 f49:=⟨Tryz.f297.name,by decide,Tryz.func297.trans (congrArg some (by kernel_rfl))⟩
 f50:=⟨Tryz.f298.name,by decide,Tryz.func298.trans (congrArg some (by kernel_rfl))⟩
 f57:=⟨Tryz.f302.name,by decide,Tryz.func302.trans (congrArg some (by kernel_rfl))⟩
 t0:=Tryz.underlying0
 a0:=Tryz.isAgg0
 z0:=Tryz.sizeOf0
 v0:=Tryz.zeroValue0
 t3:=Tryz.underlying3
 a3:=Tryz.isAgg3
 z3:=Tryz.sizeOf3
 v3:=Tryz.zeroValue3
 t4:=Tryz.underlying4
 a4:=Tryz.isAgg4
 z4:=Tryz.sizeOf4
 v4:=Tryz.zeroValue4
 t5:=Tryz.underlying5
 a5:=Tryz.isAgg5
 z5:=Tryz.sizeOf5
 v5:=Tryz.zeroValue5
 t9:=Tryz.underlying9
 a9:=Tryz.isAgg9
 z9:=Tryz.sizeOf9
 v9:=Tryz.zeroValue9
 t22:=Tryz.underlying340
 a22:=Tryz.isAgg340
 z22:=Tryz.sizeOf340
 v22:=Tryz.zeroValue340
 t25:=Tryz.underlying346
 a25:=Tryz.isAgg346
 z25:=Tryz.sizeOf346
 v25:=Tryz.zeroValue346
 t39:=Tryz.underlying226
 a39:=Tryz.isAgg226
 z39:=Tryz.sizeOf226
 v39:=Tryz.zeroValue226
 t45:=Tryz.underlying290
 a45:=Tryz.isAgg290
 z45:=Tryz.sizeOf290
 v45:=Tryz.zeroValue290
 t46:=Tryz.underlying291
 a46:=Tryz.isAgg291
 z46:=Tryz.sizeOf291
 v46:=Tryz.zeroValue291
 t50:=Tryz.underlying230
 a50:=Tryz.isAgg230
 z50:=Tryz.sizeOf230
 v50:=Tryz.zeroValue230
 t53:=Tryz.underlying122
 a53:=Tryz.isAgg122
 z53:=Tryz.sizeOf122
 v53:=Tryz.zeroValue122
 t55:=Tryz.underlying24
 a55:=Tryz.isAgg24
 z55:=Tryz.sizeOf24
 v55:=Tryz.zeroValue24
 t66:=Tryz.underlying348
 a66:=Tryz.isAgg348
 z66:=Tryz.sizeOf348
 v66:=Tryz.zeroValue348
 t70:=Tryz.underlying352
 a70:=Tryz.isAgg352
 z70:=Tryz.sizeOf352
 v70:=Tryz.zeroValue352
 t76:=Tryz.underlying378
 a76:=Tryz.isAgg378
 z76:=Tryz.sizeOf378
 v76:=Tryz.zeroValue378
 t77:=Tryz.underlying379
 a77:=Tryz.isAgg379
 z77:=Tryz.sizeOf379
 v77:=Tryz.zeroValue379 }
open Go.RowKit Go.Lib Go.Sort in
theorem Tryz.cm{α:Type}[Inhabited α](k:Nat)(aE:∀ w,(isAgg (Tryz.kR.t 24)).run Tryz.prog w = .ok true w)(zE:∀ w,(Go.sizeOf (Tryz.kR.t 24)).run Tryz.prog w = .ok k w)(enc:α->List Value)(cf:α->α->Int)(g:Nat)(cb:Array Value)(hO:SWO (ltOf cf))(wA off cap:Nat)(d0:Array α)(w0:World)(eg:∀ args w,(callFunc g args).run Tryz.prog w = .ok (.enter g args) w)(zO:CmpLays Tryz.prog g cb enc k cf wA off d0.size w0)(R:RowK enc k w0 wA off d0):
  ∀(N a b pA:Nat) (d:Array α) (w:World),b-a<N->d0.size=d.size->SWK enc k w0 wA off d w->a<=b->b<=d.size->d.size<4611686018427387904->pA<4611686018427387904->Below (ltOf cf) a b d->
  Calls Tryz.prog 277 #[.slice (some ⟨wA,off,none⟩) d.size cap,.int .i64 a,.int .i64 b,.int .i64 pA,.func (.func g) #[] cb] w fun e w'=>e = .returned (.tuple #[])/\SWK enc k w0 wA off (pdq (ltOf cf) d a b pA true true) w':=AnyQ.pdqsortCmpFunc_all Tryz.ib k aE zE enc cf g cb hO wA off cap d0 w0 eg zO R
def Tryz.kS:Go.Shelf.Ren:=⟨fun | 14=>279 | 20=>288 | 21=>289 | 22=>290 | 23=>291 | 24=>292 | 25=>293 | 26=>294 | 27=>295 | 46=>299 | 47=>190 | 48=>191 | 49=>300 | 50=>301 | 15=>93 | 57=>303 | 28=>152 | 29=>153 | n=>n,fun | 24=>336 | 22=>337 | 3=>3 | 25=>421 | 4=>4 | 0=>0 | 46=>291 | 45=>290 | 50=>230 | 66=>348 | 39=>226 | 55=>24 | 70=>352 | 76=>378 | 77=>379 | 53=>122 | 5=>5 | 9=>9 | n=>n,fun | n=>n⟩
theorem Tryz.ic:Go.Proofs.SlLaysF0.n14 Tryz.prog Tryz.kS:={
 mixed:=by kernel_rfl
 f14:=⟨Tryz.f279.name,by decide,Tryz.func279.trans (congrArg some (by kernel_rfl))⟩
 f15:=Tryz.func93.trans (congrArg some (by kernel_rfl))
 f20:=⟨Tryz.f288.name,by decide,Tryz.func288.trans (congrArg some (by kernel_rfl))⟩
 f21:=⟨Tryz.f289.name,by decide,Tryz.func289.trans (congrArg some (by kernel_rfl))⟩
 f22:=⟨Tryz.f290.name,by decide,Tryz.func290.trans (congrArg some (by kernel_rfl))⟩
 f23:=⟨Tryz.f291.name,by decide,Tryz.func291.trans (congrArg some (by kernel_rfl))⟩
 f24:=⟨Tryz.f292.name,by decide,Tryz.func292.trans (congrArg some (by kernel_rfl))⟩
 f25:=⟨Tryz.f293.name,by decide,Tryz.func293.trans (congrArg some (by kernel_rfl))⟩
 f26:=⟨Tryz.f294.name,by decide,Tryz.func294.trans (congrArg some (by kernel_rfl))⟩
 f27:=⟨Tryz.f295.name,by decide,Tryz.func295.trans (congrArg some (by kernel_rfl))⟩
 f28:=Tryz.func152.trans (congrArg some (by kernel_rfl))
 f29:=Tryz.func153.trans (congrArg some (by kernel_rfl))
 f46:=⟨Tryz.f299.name,by decide,Tryz.func299.trans (congrArg some (by kernel_rfl))⟩
 f47:=Tryz.func190.trans (congrArg some (by kernel_rfl))
 f48:=Tryz.func191.trans (congrArg some (by kernel_rfl))
 f49:=⟨Tryz.f300.name,by decide,Tryz.func300.trans (congrArg some (by kernel_rfl))⟩
 f50:=⟨Tryz.f301.name,by decide,Tryz.func301.trans (congrArg some (by kernel_rfl))⟩
 f57:=⟨Tryz.f303.name,by decide,Tryz.func303.trans (congrArg some (by kernel_rfl))⟩
 t0:=Tryz.underlying0
 a0:=Tryz.isAgg0
 z0:=Tryz.sizeOf0
 v0:=Tryz.zeroValue0
 t3:=Tryz.underlying3
 a3:=Tryz.isAgg3
 z3:=Tryz.sizeOf3
 v3:=Tryz.zeroValue3
 t4:=Tryz.underlying4
 a4:=Tryz.isAgg4
 z4:=Tryz.sizeOf4
 v4:=Tryz.zeroValue4
 t5:=Tryz.underlying5
 a5:=Tryz.isAgg5
 z5:=Tryz.sizeOf5
 v5:=Tryz.zeroValue5
 t9:=Tryz.underlying9
 a9:=Tryz.isAgg9
 z9:=Tryz.sizeOf9
 v9:=Tryz.zeroValue9
 t22:=Tryz.underlying337
 a22:=Tryz.isAgg337
 z22:=Tryz.sizeOf337
 v22:=Tryz.zeroValue337
 t25:=Tryz.underlying421
 a25:=Tryz.isAgg421
 z25:=Tryz.sizeOf421
 v25:=Tryz.zeroValue421
 t39:=Tryz.underlying226
 a39:=Tryz.isAgg226
 z39:=Tryz.sizeOf226
 v39:=Tryz.zeroValue226
 t45:=Tryz.underlying290
 a45:=Tryz.isAgg290
 z45:=Tryz.sizeOf290
 v45:=Tryz.zeroValue290
 t46:=Tryz.underlying291
 a46:=Tryz.isAgg291
 z46:=Tryz.sizeOf291
 v46:=Tryz.zeroValue291
 t50:=Tryz.underlying230
 a50:=Tryz.isAgg230
 z50:=Tryz.sizeOf230
 v50:=Tryz.zeroValue230
 t53:=Tryz.underlying122
 a53:=Tryz.isAgg122
 z53:=Tryz.sizeOf122
 v53:=Tryz.zeroValue122
 t55:=Tryz.underlying24
 a55:=Tryz.isAgg24
 z55:=Tryz.sizeOf24
 v55:=Tryz.zeroValue24
 t66:=Tryz.underlying348
 a66:=Tryz.isAgg348
 z66:=Tryz.sizeOf348
 v66:=Tryz.zeroValue348
 t70:=Tryz.underlying352
 a70:=Tryz.isAgg352
 z70:=Tryz.sizeOf352
 v70:=Tryz.zeroValue352
 t76:=Tryz.underlying378
 a76:=Tryz.isAgg378
 z76:=Tryz.sizeOf378
 v76:=Tryz.zeroValue378
 t77:=Tryz.underlying379
 a77:=Tryz.isAgg379
 z77:=Tryz.sizeOf379
 v77:=Tryz.zeroValue379 }
open Go.RowKit Go.Lib Go.Sort in
theorem Tryz.cn{α:Type}[Inhabited α](k:Nat)(aE:∀ w,(isAgg (Tryz.kS.t 24)).run Tryz.prog w = .ok true w)(zE:∀ w,(Go.sizeOf (Tryz.kS.t 24)).run Tryz.prog w = .ok k w)(enc:α->List Value)(cf:α->α->Int)(g:Nat)(cb:Array Value)(hO:SWO (ltOf cf))(wA off cap:Nat)(d0:Array α)(w0:World)(eg:∀ args w,(callFunc g args).run Tryz.prog w = .ok (.enter g args) w)(zO:CmpLays Tryz.prog g cb enc k cf wA off d0.size w0)(R:RowK enc k w0 wA off d0):
  ∀(N a b pA:Nat) (d:Array α) (w:World),b-a<N->d0.size=d.size->SWK enc k w0 wA off d w->a<=b->b<=d.size->d.size<4611686018427387904->pA<4611686018427387904->Below (ltOf cf) a b d->
  Calls Tryz.prog 279 #[.slice (some ⟨wA,off,none⟩) d.size cap,.int .i64 a,.int .i64 b,.int .i64 pA,.func (.func g) #[] cb] w fun e w'=>e = .returned (.tuple #[])/\SWK enc k w0 wA off (pdq (ltOf cf) d a b pA true true) w':=AnyQ.pdqsortCmpFunc_all Tryz.ic k aE zE enc cf g cb hO wA off cap d0 w0 eg zO R
open Go.RowKit Go.Lib Go.Sort in
theorem Tryz.co{α:Type}[Inhabited α](p:Option Addr)(cap:Nat)(zi:Int)(fv:Value)(w:World):
  Calls Tryz.prog 92 #[.slice p 0 cap,.int .i64 0,.int .i64 0,.int .i64 zi,fv] w fun e w'=>e = .returned (.tuple #[])/\w'=w:=AnyF.pdqsortCmpFunc_none Tryz.iQ p cap zi fv w
open Go.RowKit Go.Lib Go.Sort in
theorem Tryz.iK{α:Type}[Inhabited α](p:Option Addr)(cap:Nat)(zi:Int)(fv:Value)(w:World):
  Calls Tryz.prog 155 #[.slice p 0 cap,.int .i64 0,.int .i64 0,.int .i64 zi,fv] w fun e w'=>e = .returned (.tuple #[])/\w'=w:=AnyF.pdqsortCmpFunc_none Tryz.lZ p cap zi fv w
open Go.RowKit Go.Lib Go.Sort in
theorem Tryz.iL{α:Type}[Inhabited α](p:Option Addr)(cap:Nat)(zi:Int)(fv:Value)(w:World):
  Calls Tryz.prog 212 #[.slice p 0 cap,.int .i64 0,.int .i64 0,.int .i64 zi,fv] w fun e w'=>e = .returned (.tuple #[])/\w'=w:=AnyF.pdqsortCmpFunc_none Tryz.ia p cap zi fv w
open Go.RowKit Go.Lib Go.Sort in
theorem Tryz.iM{α:Type}[Inhabited α](p:Option Addr)(cap:Nat)(zi:Int)(fv:Value)(w:World):
  Calls Tryz.prog 277 #[.slice p 0 cap,.int .i64 0,.int .i64 0,.int .i64 zi,fv] w fun e w'=>e = .returned (.tuple #[])/\w'=w:=AnyF.pdqsortCmpFunc_none Tryz.ib p cap zi fv w
open Go.RowKit Go.Lib Go.Sort in
theorem Tryz.iN{α:Type}[Inhabited α](p:Option Addr)(cap:Nat)(zi:Int)(fv:Value)(w:World):
  Calls Tryz.prog 279 #[.slice p 0 cap,.int .i64 0,.int .i64 0,.int .i64 zi,fv] w fun e w'=>e = .returned (.tuple #[])/\w'=w:=AnyF.pdqsortCmpFunc_none Tryz.ic p cap zi fv w
end Go.Proofs

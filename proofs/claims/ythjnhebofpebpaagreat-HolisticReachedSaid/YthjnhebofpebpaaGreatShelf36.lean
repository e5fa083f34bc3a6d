/- A part of this claim's proof: models of functions, walks, plain laws. No conditions. -/
import Derived.Shelf.Small.Bits
import Derived.Ground.SlsfProg
import Derived.Shelf.SlSortCmp.PdqK
import Derived.Shelf.SlSortCmp.NoneTotal
import Derived.Test.YthjnhebofpebpaaGreatProg
set_option linter.all false
/-
 DERIVED: THE SHELF's CONTRACTS AT THIS DUMP, IN PLAIN WORDS (tools/lay-plain.mjs out of 'TryzShelf.lean', which tools/lay-shelf.mjs wrote): THE SAME DECLARATIONS UNDER THE SAME NAMES: 'import', 'namespace', 'open', 'def', 'theorem' AND NOTHING ELSE: no command of the shelf's: FOR A HAND-IN. Each laying: the table of numbers ('.._ren') and one theorem, a field a fact of the dump's own or the kernel's comparison; each contract: ONE APPLICATION.
-/
namespace Go.Proofs
open Go.Shelf
def Tryz.YX:Go.Shelf.Ren:=⟨fun | 125=>57 | 128=>108 | 129=>109 | n=>n,fun | 46=>147 | 3=>3 | 51=>210 | 53=>212 | 4=>4 | 5=>5 | 9=>9 | n=>n,fun | n=>n⟩
theorem Tryz.QA:Go.Proofs.Lays.n125 Tryz.prog Tryz.YX:={
 mixed:=by kernel_rfl
 f125:=Tryz.func57.trans (congrArg some (by kernel_rfl))
 f128:=Tryz.func108.trans (congrArg some (by kernel_rfl))
 f129:=Tryz.func109.trans (congrArg some (by kernel_rfl))
 t3:=Tryz.underlying3
 a3:=Tryz.isAgg3
 z3:=Tryz.sizeOf3
 v3:=Tryz.zeroValue3
 t4:=Tryz.underlying4
 a4:=Tryz.isAgg4
 z4:=Tryz.sizeOf4
 v4:=Tryz.zeroValue4
 t5:=Tryz.underlying5
 a5:=Tryz.isAgg5
 z5:=Tryz.sizeOf5
 v5:=Tryz.zeroValue5
 t9:=Tryz.underlying9
 a9:=Tryz.isAgg9
 z9:=Tryz.sizeOf9
 v9:=Tryz.zeroValue9
 t46:=Tryz.underlying147
 a46:=Tryz.isAgg147
 z46:=Tryz.sizeOf147
 v46:=Tryz.zeroValue147
 t51:=Tryz.underlying210
 a51:=Tryz.isAgg210
 z51:=Tryz.sizeOf210
 v51:=Tryz.zeroValue210
 t53:=Tryz.underlying212
 a53:=Tryz.isAgg212
 z53:=Tryz.sizeOf212
 v53:=Tryz.zeroValue212 }
theorem Tryz.bits_Len(x:Int)(w:World)(h0:0<=x)(h1:x<=18446744073709551615):
  Calls Tryz.prog 57 #[.int .u64 x] w fun e w'=>e = .returned (.int .i64 (Lib.bitLen x.toNat))/\w'=w:=Any.bits_Len Tryz.QA x w h0 h1
def Tryz.gL:Go.Shelf.Ren:=⟨fun | 14=>56 | 20=>100 | 21=>101 | 22=>102 | 23=>103 | 24=>104 | 25=>105 | 26=>106 | 27=>107 | 46=>142 | 47=>143 | 48=>144 | 49=>145 | 50=>146 | 15=>57 | 57=>174 | 28=>108 | 29=>109 | n=>n,fun | 24=>37 | 22=>33 | 3=>3 | 25=>98 | 4=>4 | 0=>0 | 46=>204 | 45=>203 | 50=>84 | 66=>261 | 39=>147 | 55=>212 | 70=>265 | 76=>293 | 77=>294 | 53=>210 | 5=>5 | 9=>9 | n=>n,fun | n=>n⟩
theorem Tryz.ll:Go.Proofs.SlLaysF0.n14 Tryz.prog Tryz.gL:={
 mixed:=by kernel_rfl
 f14:=⟨Tryz.f56.name,by decide,Tryz.func56.trans (congrArg some (by kernel_rfl))⟩
 f15:=Tryz.func57.trans (congrArg some (by kernel_rfl))
 f20:=⟨Tryz.f100.name,by decide,Tryz.func100.trans (congrArg some (by kernel_rfl))⟩
 f21:=⟨Tryz.f101.name,by decide,Tryz.func101.trans (congrArg some (by kernel_rfl))⟩
 f22:=⟨Tryz.f102.name,by decide,Tryz.func102.trans (congrArg some (by kernel_rfl))⟩
 f23:=⟨Tryz.f103.name,by decide,Tryz.func103.trans (congrArg some (by kernel_rfl))⟩
 f24:=⟨Tryz.f104.name,by decide,Tryz.func104.trans (congrArg some (by kernel_rfl))⟩
 f25:=⟨Tryz.f105.name,by decide,Tryz.func105.trans (congrArg some (by kernel_rfl))⟩
 f26:=⟨Tryz.f106.name,by decide,Tryz.func106.trans (congrArg some (by kernel_rfl))⟩
 f27:=⟨Tryz.f107.name,by decide,Tryz.func107.trans (congrArg some (by kernel_rfl))⟩
 f28:=Tryz.func108.trans (congrArg some (by kernel_rfl))
 f29:=Tryz.func109.trans (congrArg some (by kernel_rfl))
 f46:=⟨Tryz.f142.name,by decide,Tryz.func142.trans (congrArg some (by kernel_rfl))⟩
 f47:=Tryz.func143.trans (congrArg some (by kernel_rfl))
 f48:=Tryz.func144.trans (congrArg some (by kernel_rfl))
 f49:=⟨Tryz.f145.name,by decide,Tryz.func145.trans (congrArg some (by kernel_rfl))⟩
 f50:=⟨Tryz.f146.name,by decide,Tryz.func146.trans (congrArg some (by kernel_rfl))⟩
 f57:=⟨Tryz.f174.name,by decide,Tryz.func174.trans (congrArg some (by kernel_rfl))⟩
 t0:=Tryz.underlying0
 a0:=Tryz.isAgg0
 z0:=Tryz.sizeOf0
 v0:=Tryz.zeroValue0
 t3:=Tryz.underlying3
 a3:=Tryz.isAgg3
 z3:=Tryz.sizeOf3
 v3:=Tryz.zeroValue3
 t4:=Tryz.underlying4
 a4:=Tryz.isAgg4
 z4:=Tryz.sizeOf4
 v4:=Tryz.zeroValue4
 t5:=Tryz.underlying5
 a5:=Tryz.isAgg5
 z5:=Tryz.sizeOf5
 v5:=Tryz.zeroValue5
 t9:=Tryz.underlying9
 a9:=Tryz.isAgg9
 z9:=Tryz.sizeOf9
 v9:=Tryz.zeroValue9
 t22:=Tryz.underlying33
 a22:=Tryz.isAgg33
 z22:=Tryz.sizeOf33
 v22:=Tryz.zeroValue33
 t25:=Tryz.underlying98
 a25:=Tryz.isAgg98
 z25:=Tryz.sizeOf98
 v25:=Tryz.zeroValue98
 t39:=Tryz.underlying147
 a39:=Tryz.isAgg147
 z39:=Tryz.sizeOf147
 v39:=Tryz.zeroValue147
 t45:=Tryz.underlying203
 a45:=Tryz.isAgg203
 z45:=Tryz.sizeOf203
 v45:=Tryz.zeroValue203
 t46:=Tryz.underlying204
 a46:=Tryz.isAgg204
 z46:=Tryz.sizeOf204
 v46:=Tryz.zeroValue204
 t50:=Tryz.underlying84
 a50:=Tryz.isAgg84
 z50:=Tryz.sizeOf84
 v50:=Tryz.zeroValue84
 t53:=Tryz.underlying210
 a53:=Tryz.isAgg210
 z53:=Tryz.sizeOf210
 v53:=Tryz.zeroValue210
 t55:=Tryz.underlying212
 a55:=Tryz.isAgg212
 z55:=Tryz.sizeOf212
 v55:=Tryz.zeroValue212
 t66:=Tryz.underlying261
 a66:=Tryz.isAgg261
 z66:=Tryz.sizeOf261
 v66:=Tryz.zeroValue261
 t70:=Tryz.underlying265
 a70:=Tryz.isAgg265
 z70:=Tryz.sizeOf265
 v70:=Tryz.zeroValue265
 t76:=Tryz.underlying293
 a76:=Tryz.isAgg293
 z76:=Tryz.sizeOf293
 v76:=Tryz.zeroValue293
 t77:=Tryz.underlying294
 a77:=Tryz.isAgg294
 z77:=Tryz.sizeOf294
 v77:=Tryz.zeroValue294 }
open Go.RowKit Go.Lib Go.Sort in
theorem Tryz.ii{α:Type}[Inhabited α](k:Nat)(aE:∀ w,(isAgg (Tryz.gL.t 24)).run Tryz.prog w = .ok true w)(zE:∀ w,(Go.sizeOf (Tryz.gL.t 24)).run Tryz.prog w = .ok k w)(enc:α->List Value)(cf:α->α->Int)(g:Nat)(cb:Array Value)(hO:SWO (ltOf cf))(wm off cap:Nat)(d0:Array α)(w0:World)(eg:∀ args w,(callFunc g args).run Tryz.prog w = .ok (.enter g args) w)(Ag:CmpLays Tryz.prog g cb enc k cf wm off d0.size w0)(R:RowK enc k w0 wm off d0):
  ∀(N a b kI:Nat) (d:Array α) (w:World),b-a<N->d0.size=d.size->SWK enc k w0 wm off d w->a<=b->b<=d.size->d.size<4611686018427387904->kI<4611686018427387904->Below (ltOf cf) a b d->
  Calls Tryz.prog 56 #[.slice (some ⟨wm,off,none⟩) d.size cap,.int .i64 a,.int .i64 b,.int .i64 kI,.func (.func g) #[] cb] w fun e w'=>e = .returned (.tuple #[])/\SWK enc k w0 wm off (pdq (ltOf cf) d a b kI true true) w':=AnyQ.pdqsortCmpFunc_all Tryz.ll k aE zE enc cf g cb hO wm off cap d0 w0 eg Ag R
def Tryz.gl:Go.Shelf.Ren:=⟨fun | 14=>110 | 20=>147 | 21=>148 | 22=>149 | 23=>150 | 24=>151 | 25=>152 | 26=>153 | 27=>154 | 46=>175 | 47=>143 | 48=>144 | 49=>176 | 50=>177 | 15=>57 | 57=>204 | 28=>108 | 29=>109 | n=>n,fun | 24=>53 | 22=>38 | 3=>3 | 25=>151 | 4=>4 | 0=>0 | 46=>204 | 45=>203 | 50=>84 | 66=>261 | 39=>147 | 55=>212 | 70=>265 | 76=>293 | 77=>294 | 53=>210 | 5=>5 | 9=>9 | n=>n,fun | n=>n⟩
theorem Tryz.oT:Go.Proofs.SlLaysF0.n14 Tryz.prog Tryz.gl:={
 mixed:=by kernel_rfl
 f14:=⟨Tryz.f110.name,by decide,Tryz.func110.trans (congrArg some (by kernel_rfl))⟩
 f15:=Tryz.func57.trans (congrArg some (by kernel_rfl))
 f20:=⟨Tryz.f147.name,by decide,Tryz.func147.trans (congrArg some (by kernel_rfl))⟩
 f21:=⟨Tryz.f148.name,by decide,Tryz.func148.trans (congrArg some (by kernel_rfl))⟩
 f22:=⟨Tryz.f149.name,by decide,Tryz.func149.trans (congrArg some (by kernel_rfl))⟩
 f23:=⟨Tryz.f150.name,by decide,Tryz.func150.trans (congrArg some (by kernel_rfl))⟩
 f24:=⟨Tryz.f151.name,by decide,Tryz.func151.trans (congrArg some (by kernel_rfl))⟩
 f25:=⟨Tryz.f152.name,by decide,Tryz.func152.trans (congrArg some (by kernel_rfl))⟩
 f26:=⟨Tryz.f153.name,by decide,Tryz.func153.trans (congrArg some (by kernel_rfl))⟩
 f27:=⟨Tryz.f154.name,by decide,Tryz.func154.trans (congrArg some (by kernel_rfl))⟩
 f28:=Tryz.func108.trans (congrArg some (by kernel_rfl))
 f29:=Tryz.func109.trans (congrArg some (by kernel_rfl))
 f46:=⟨Tryz.f175.name,by decide,Tryz.func175.trans (congrArg some (by kernel_rfl))⟩
 f47:=Tryz.func143.trans (congrArg some (by kernel_rfl))
 f48:=Tryz.func144.trans (congrArg some (by kernel_rfl))
 f49:=⟨Tryz.f176.name,by decide,Tryz.func176.trans (congrArg some (by kernel_rfl))⟩
 f50:=⟨Tryz.f177.name,by decide,Tryz.func177.trans (congrArg some (by kernel_rfl))⟩
 f57:=⟨Tryz.f204.name,by decide,Tryz.func204.trans (congrArg some (by kernel_rfl))⟩
 t0:=Tryz.underlying0
 a0:=Tryz.isAgg0
 z0:=Tryz.sizeOf0
 v0:=Tryz.zeroValue0
 t3:=Tryz.underlying3
 a3:=Tryz.isAgg3
 z3:=Tryz.sizeOf3
 v3:=Tryz.zeroValue3
 t4:=Tryz.underlying4
 a4:=Tryz.isAgg4
 z4:=Tryz.sizeOf4
 v4:=Tryz.zeroValue4
 t5:=Tryz.underlying5
 a5:=Tryz.isAgg5
 z5:=Tryz.sizeOf5
 v5:=Tryz.zeroValue5
 t9:=Tryz.underlying9
 a9:=Tryz.isAgg9
 z9:=Tryz.sizeOf9
 v9:=Tryz.zeroValue9
 t22:=Tryz.underlying38
 a22:=Tryz.isAgg38
 z22:=Tryz.sizeOf38
 v22:=Tryz.zeroValue38
 t25:=Tryz.underlying151
 a25:=Tryz.isAgg151
 z25:=Tryz.sizeOf151
 v25:=Tryz.zeroValue151
 t39:=Tryz.underlying147
 a39:=Tryz.isAgg147
 z39:=Tryz.sizeOf147
 v39:=Tryz.zeroValue147
 t45:=Tryz.underlying203
 a45:=Tryz.isAgg203
 z45:=Tryz.sizeOf203
 v45:=Tryz.zeroValue203
 t46:=Tryz.underlying204
 a46:=Tryz.isAgg204
 z46:=Tryz.sizeOf204
 v46:=Tryz.zeroValue204
 t50:=Tryz.underlying84
 a50:=Tryz.isAgg84
 z50:=Tryz.sizeOf84
 v50:=Tryz.zeroValue84
 t53:=Tryz.underlying210
 a53:=Tryz.isAgg210
 z53:=Tryz.sizeOf210
 v53:=Tryz.zeroValue210
 t55:=Tryz.underlying212
 a55:=Tryz.isAgg212
 z55:=Tryz.sizeOf212
 v55:=Tryz.zeroValue212
 t66:=Tryz.underlying261
 a66:=Tryz.isAgg261
 z66:=Tryz.sizeOf261
 v66:=Tryz.zeroValue261
 t70:=Tryz.underlying265
 a70:=Tryz.isAgg265
 z70:=Tryz.sizeOf265
 v70:=Tryz.zeroValue265
 t76:=Tryz.underlying293
 a76:=Tryz.isAgg293
 z76:=Tryz.sizeOf293
 v76:=Tryz.zeroValue293
 t77:=Tryz.underlying294
 a77:=Tryz.isAgg294
 z77:=Tryz.sizeOf294
 v77:=Tryz.zeroValue294 }
open Go.RowKit Go.Lib Go.Sort in
theorem Tryz.lD{α:Type}[Inhabited α](k:Nat)(aE:∀ w,(isAgg (Tryz.gl.t 24)).run Tryz.prog w = .ok true w)(zE:∀ w,(Go.sizeOf (Tryz.gl.t 24)).run Tryz.prog w = .ok k w)(enc:α->List Value)(cf:α->α->Int)(g:Nat)(cb:Array Value)(hO:SWO (ltOf cf))(wm off cap:Nat)(d0:Array α)(w0:World)(eg:∀ args w,(callFunc g args).run Tryz.prog w = .ok (.enter g args) w)(Ag:CmpLays Tryz.prog g cb enc k cf wm off d0.size w0)(R:RowK enc k w0 wm off d0):
  ∀(N a b kI:Nat) (d:Array α) (w:World),b-a<N->d0.size=d.size->SWK enc k w0 wm off d w->a<=b->b<=d.size->d.size<4611686018427387904->kI<4611686018427387904->Below (ltOf cf) a b d->
  Calls Tryz.prog 110 #[.slice (some ⟨wm,off,none⟩) d.size cap,.int .i64 a,.int .i64 b,.int .i64 kI,.func (.func g) #[] cb] w fun e w'=>e = .returned (.tuple #[])/\SWK enc k w0 wm off (pdq (ltOf cf) d a b kI true true) w':=AnyQ.pdqsortCmpFunc_all Tryz.oT k aE zE enc cf g cb hO wm off cap d0 w0 eg Ag R
def Tryz.gm:Go.Shelf.Ren:=⟨fun | 14=>158 | 20=>179 | 21=>180 | 22=>181 | 23=>182 | 24=>183 | 25=>184 | 26=>185 | 27=>186 | 46=>205 | 47=>143 | 48=>144 | 49=>206 | 50=>207 | 15=>57 | 57=>219 | 28=>108 | 29=>109 | n=>n,fun | 24=>121 | 22=>112 | 3=>3 | 25=>218 | 4=>4 | 0=>0 | 46=>204 | 45=>203 | 50=>84 | 66=>261 | 39=>147 | 55=>212 | 70=>265 | 76=>293 | 77=>294 | 53=>210 | 5=>5 | 9=>9 | n=>n,fun | n=>n⟩
theorem Tryz.oU:Go.Proofs.SlLaysF0.n14 Tryz.prog Tryz.gm:={
 mixed:=by kernel_rfl
 f14:=⟨Tryz.f158.name,by decide,Tryz.func158.trans (congrArg some (by kernel_rfl))⟩
 f15:=Tryz.func57.trans (congrArg some (by kernel_rfl))
 f20:=⟨Tryz.f179.name,by decide,Tryz.func179.trans (congrArg some (by kernel_rfl))⟩
 f21:=⟨Tryz.f180.name,by decide,Tryz.func180.trans (congrArg some (by kernel_rfl))⟩
 f22:=⟨Tryz.f181.name,by decide,Tryz.func181.trans (congrArg some (by kernel_rfl))⟩
 f23:=⟨Tryz.f182.name,by decide,Tryz.func182.trans (congrArg some (by kernel_rfl))⟩
 f24:=⟨Tryz.f183.name,by decide,Tryz.func183.trans (congrArg some (by kernel_rfl))⟩
 f25:=⟨Tryz.f184.name,by decide,Tryz.func184.trans (congrArg some (by kernel_rfl))⟩
 f26:=⟨Tryz.f185.name,by decide,Tryz.func185.trans (congrArg some (by kernel_rfl))⟩
 f27:=⟨Tryz.f186.name,by decide,Tryz.func186.trans (congrArg some (by kernel_rfl))⟩
 f28:=Tryz.func108.trans (congrArg some (by kernel_rfl))
 f29:=Tryz.func109.trans (congrArg some (by kernel_rfl))
 f46:=⟨Tryz.f205.name,by decide,Tryz.func205.trans (congrArg some (by kernel_rfl))⟩
 f47:=Tryz.func143.trans (congrArg some (by kernel_rfl))
 f48:=Tryz.func144.trans (congrArg some (by kernel_rfl))
 f49:=⟨Tryz.f206.name,by decide,Tryz.func206.trans (congrArg some (by kernel_rfl))⟩
 f50:=⟨Tryz.f207.name,by decide,Tryz.func207.trans (congrArg some (by kernel_rfl))⟩
 f57:=⟨Tryz.f219.name,by decide,Tryz.func219.trans (congrArg some (by kernel_rfl))⟩
 t0:=Tryz.underlying0
 a0:=Tryz.isAgg0
 z0:=Tryz.sizeOf0
 v0:=Tryz.zeroValue0
 t3:=Tryz.underlying3
 a3:=Tryz.isAgg3
 z3:=Tryz.sizeOf3
 v3:=Tryz.zeroValue3
 t4:=Tryz.underlying4
 a4:=Tryz.isAgg4
 z4:=Tryz.sizeOf4
 v4:=Tryz.zeroValue4
 t5:=Tryz.underlying5
 a5:=Tryz.isAgg5
 z5:=Tryz.sizeOf5
 v5:=Tryz.zeroValue5
 t9:=Tryz.underlying9
 a9:=Tryz.isAgg9
 z9:=Tryz.sizeOf9
 v9:=Tryz.zeroValue9
 t22:=Tryz.underlying112
 a22:=Tryz.isAgg112
 z22:=Tryz.sizeOf112
 v22:=Tryz.zeroValue112
 t25:=Tryz.underlying218
 a25:=Tryz.isAgg218
 z25:=Tryz.sizeOf218
 v25:=Tryz.zeroValue218
 t39:=Tryz.underlying147
 a39:=Tryz.isAgg147
 z39:=Tryz.sizeOf147
 v39:=Tryz.zeroValue147
 t45:=Tryz.underlying203
 a45:=Tryz.isAgg203
 z45:=Tryz.sizeOf203
 v45:=Tryz.zeroValue203
 t46:=Tryz.underlying204
 a46:=Tryz.isAgg204
 z46:=Tryz.sizeOf204
 v46:=Tryz.zeroValue204
 t50:=Tryz.underlying84
 a50:=Tryz.isAgg84
 z50:=Tryz.sizeOf84
 v50:=Tryz.zeroValue84
 t53:=Tryz.underlying210
 a53:=Tryz.isAgg210
 z53:=Tryz.sizeOf210
 v53:=Tryz.zeroValue210
 t55:=Tryz.underlying212
 a55:=Tryz.isAgg212
 z55:=Tryz.sizeOf212
 v55:=Tryz.zeroValue212
 t66:=Tryz.underlying261
 a66:=Tryz.isAgg261
 z66:=Tryz.sizeOf261
 v66:=Tryz.zeroValue261
 t70:=Tryz.underlying265
 a70:=Tryz.isAgg265
 z70:=Tryz.sizeOf265
 v70:=Tryz.zeroValue265
 t76:=Tryz.underlying293
 a76:=Tryz.isAgg293
 z76:=Tryz.sizeOf293
 v76:=Tryz.zeroValue293
 t77:=Tryz.underlying294
 a77:=Tryz.isAgg294
 z77:=Tryz.sizeOf294
 v77:=Tryz.zeroValue294 }
open Go.RowKit Go.Lib Go.Sort in
theorem Tryz.lE{α:Type}[Inhabited α](k:Nat)(aE:∀ w,(isAgg (Tryz.gm.t 24)).run Tryz.prog w = .ok true w)(zE:∀ w,(Go.sizeOf (Tryz.gm.t 24)).run Tryz.prog w = .ok k w)(enc:α->List Value)(cf:α->α->Int)(g:Nat)(cb:Array Value)(hO:SWO (ltOf cf))(wm off cap:Nat)(d0:Array α)(w0:World)(eg:∀ args w,(callFunc g args).run Tryz.prog w = .ok (.enter g args) w)(Ag:CmpLays Tryz.prog g cb enc k cf wm off d0.size w0)(R:RowK enc k w0 wm off d0):
  ∀(N a b kI:Nat) (d:Array α) (w:World),b-a<N->d0.size=d.size->SWK enc k w0 wm off d w->a<=b->b<=d.size->d.size<4611686018427387904->kI<4611686018427387904->Below (ltOf cf) a b d->
  Calls Tryz.prog 158 #[.slice (some ⟨wm,off,none⟩) d.size cap,.int .i64 a,.int .i64 b,.int .i64 kI,.func (.func g) #[] cb] w fun e w'=>e = .returned (.tuple #[])/\SWK enc k w0 wm off (pdq (ltOf cf) d a b kI true true) w':=AnyQ.pdqsortCmpFunc_all Tryz.oU k aE zE enc cf g cb hO wm off cap d0 w0 eg Ag R
def Tryz.gn:Go.Shelf.Ren:=⟨fun | 14=>227 | 20=>230 | 21=>231 | 22=>232 | 23=>233 | 24=>234 | 25=>235 | 26=>236 | 27=>237 | 46=>246 | 47=>143 | 48=>144 | 49=>247 | 50=>248 | 15=>57 | 57=>252 | 28=>108 | 29=>109 | n=>n,fun | 24=>175 | 22=>229 | 3=>3 | 25=>235 | 4=>4 | 0=>0 | 46=>204 | 45=>203 | 50=>84 | 66=>261 | 39=>147 | 55=>212 | 70=>265 | 76=>293 | 77=>294 | 53=>210 | 5=>5 | 9=>9 | n=>n,fun | n=>n⟩
theorem Tryz.oV:Go.Proofs.SlLaysF0.n14 Tryz.prog Tryz.gn:={
 mixed:=by kernel_rfl
 f14:=⟨Tryz.f227.name,by decide,Tryz.func227.trans (congrArg some (by kernel_rfl))⟩
 f15:=Tryz.func57.trans (congrArg some (by kernel_rfl))
 f20:=⟨Tryz.f230.name,by decide,Tryz.func230.trans (congrArg some (by kernel_rfl))⟩
 f21:=⟨Tryz.f231.name,by decide,Tryz.func231.trans (congrArg some (by kernel_rfl))⟩
 f22:=⟨Tryz.f232.name,by decide,Tryz.func232.trans (congrArg some (by kernel_rfl))⟩
 f23:=⟨Tryz.f233.name,by decide,Tryz.func233.trans (congrArg some (by kernel_rfl))⟩
 f24:=⟨Tryz.f234.name,by decide,Tryz.func234.trans (congrArg some (by kernel_rfl))⟩
 f25:=⟨Tryz.f235.name,by decide,Tryz.func235.trans (congrArg some (by kernel_rfl))⟩
 f26:=⟨Tryz.f236.name,by decide,Tryz.func236.trans (congrArg some (by kernel_rfl))⟩
 f27:=⟨Tryz.f237.name,by decide,Tryz.func237.trans (congrArg some (by kernel_rfl))⟩
 f28:=Tryz.func108.trans (congrArg some (by kernel_rfl))
 f29:=Tryz.func109.trans (congrArg some (by kernel_rfl))
 f46:=⟨Tryz.f246.name,by decide,Tryz.func246.trans (congrArg some (by kernel_rfl))⟩
 f47:=Tryz.func143.trans (congrArg some (by kernel_rfl))
 f48:=Tryz.func144.trans (congrArg some (by kernel_rfl))
 f49:=⟨Tryz.f247.name,by decide,Tryz.func247.trans (congrArg some (by kernel_rfl))⟩
 f50:=⟨Tryz.f248.name,by decide,Tryz.func248.trans (congrArg some (by kernel_rfl))⟩
 f57:=⟨Tryz.f252.name,by decide,Tryz.func252.trans (congrArg some (by kernel_rfl))⟩
 t0:=Tryz.underlying0
 a0:=Tryz.isAgg0
 z0:=Tryz.sizeOf0
 v0:=Tryz.zeroValue0
 t3:=Tryz.underlying3
 a3:=Tryz.isAgg3
 z3:=Tryz.sizeOf3
 v3:=Tryz.zeroValue3
 t4:=Tryz.underlying4
 a4:=Tryz.isAgg4
 z4:=Tryz.sizeOf4
 v4:=Tryz.zeroValue4
 t5:=Tryz.underlying5
 a5:=Tryz.isAgg5
 z5:=Tryz.sizeOf5
 v5:=Tryz.zeroValue5
 t9:=Tryz.underlying9
 a9:=Tryz.isAgg9
 z9:=Tryz.sizeOf9
 v9:=Tryz.zeroValue9
 t22:=Tryz.underlying229
 a22:=Tryz.isAgg229
 z22:=Tryz.sizeOf229
 v22:=Tryz.zeroValue229
 t25:=Tryz.underlying235
 a25:=Tryz.isAgg235
 z25:=Tryz.sizeOf235
 v25:=Tryz.zeroValue235
 t39:=Tryz.underlying147
 a39:=Tryz.isAgg147
 z39:=Tryz.sizeOf147
 v39:=Tryz.zeroValue147
 t45:=Tryz.underlying203
 a45:=Tryz.isAgg203
 z45:=Tryz.sizeOf203
 v45:=Tryz.zeroValue203
 t46:=Tryz.underlying204
 a46:=Tryz.isAgg204
 z46:=Tryz.sizeOf204
 v46:=Tryz.zeroValue204
 t50:=Tryz.underlying84
 a50:=Tryz.isAgg84
 z50:=Tryz.sizeOf84
 v50:=Tryz.zeroValue84
 t53:=Tryz.underlying210
 a53:=Tryz.isAgg210
 z53:=Tryz.sizeOf210
 v53:=Tryz.zeroValue210
 t55:=Tryz.underlying212
 a55:=Tryz.isAgg212
 z55:=Tryz.sizeOf212
 v55:=Tryz.zeroValue212
 t66:=Tryz.underlying261
 a66:=Tryz.isAgg261
 z66:=Tryz.sizeOf261
 v66:=Tryz.zeroValue261
 t70:=Tryz.underlying265
 a70:=Tryz.isAgg265
 z70:=Tryz.sizeOf265
 v70:=Tryz.zeroValue265
 t76:=Tryz.underlying293
 a76:=Tryz.isAgg293
 z76:=Tryz.sizeOf293
 v76:=Tryz.zeroValue293
 t77:=Tryz.underlying294
 a77:=Tryz.isAgg294
 z77:=Tryz.sizeOf294
 v77:=Tryz.zeroValue294 }
open Go.RowKit Go.Lib Go.Sort in
theorem Tryz.lF{α:Type}[Inhabited α](k:Nat)(aE:∀ w,(isAgg (Tryz.gn.t 24)).run Tryz.prog w = .ok true w)(zE:∀ w,(Go.sizeOf (Tryz.gn.t 24)).run Tryz.prog w = .ok k w)(enc:α->List Value)(cf:α->α->Int)(g:Nat)(cb:Array Value)(hO:SWO (ltOf cf))(wm off cap:Nat)(d0:Array α)(w0:World)(eg:∀ args w,(callFunc g args).run Tryz.prog w = .ok (.enter g args) w)(Ag:CmpLays Tryz.prog g cb enc k cf wm off d0.size w0)(R:RowK enc k w0 wm off d0):
  ∀(N a b kI:Nat) (d:Array α) (w:World),b-a<N->d0.size=d.size->SWK enc k w0 wm off d w->a<=b->b<=d.size->d.size<4611686018427387904->kI<4611686018427387904->Below (ltOf cf) a b d->
  Calls Tryz.prog 227 #[.slice (some ⟨wm,off,none⟩) d.size cap,.int .i64 a,.int .i64 b,.int .i64 kI,.func (.func g) #[] cb] w fun e w'=>e = .returned (.tuple #[])/\SWK enc k w0 wm off (pdq (ltOf cf) d a b kI true true) w':=AnyQ.pdqsortCmpFunc_all Tryz.oV k aE zE enc cf g cb hO wm off cap d0 w0 eg Ag R
def Tryz.go:Go.Shelf.Ren:=⟨fun | 14=>229 | 20=>238 | 21=>239 | 22=>240 | 23=>241 | 24=>242 | 25=>243 | 26=>244 | 27=>245 | 46=>249 | 47=>143 | 48=>144 | 49=>250 | 50=>251 | 15=>57 | 57=>253 | 28=>108 | 29=>109 | n=>n,fun | 24=>225 | 22=>226 | 3=>3 | 25=>329 | 4=>4 | 0=>0 | 46=>204 | 45=>203 | 50=>84 | 66=>261 | 39=>147 | 55=>212 | 70=>265 | 76=>293 | 77=>294 | 53=>210 | 5=>5 | 9=>9 | n=>n,fun | n=>n⟩
theorem Tryz.oW:Go.Proofs.SlLaysF0.n14 Tryz.prog Tryz.go:={
 mixed:=by kernel_rfl
 f14:=⟨Tryz.f229.name,by decide,Tryz.func229.trans (congrArg some (by kernel_rfl))⟩
 f15:=Tryz.func57.trans (congrArg some (by kernel_rfl))
 f20:=⟨Tryz.f238.name,by decide,Tryz.func238.trans (congrArg some (by kernel_rfl))⟩
 f21:=⟨Tryz.f239.name,by decide,Tryz.func239.trans (congrArg some (by kernel_rfl))⟩
 f22:=⟨Tryz.f240.name,by decide,Tryz.func240.trans (congrArg some (by kernel_rfl))⟩
 f23:=⟨Tryz.f241.name,by decide,Tryz.func241.trans (congrArg some (by kernel_rfl))⟩
 f24:=⟨Tryz.f242.name,by decide,Tryz.func242.trans (congrArg some (by kernel_rfl))⟩
 f25:=⟨Tryz.f243.name,by decide,Tryz.func243.trans (congrArg some (by kernel_rfl))⟩
 f26:=⟨Tryz.f244.name,by decide,Tryz.func244.trans (congrArg some (by kernel_rfl))⟩
 f27:=⟨Tryz.f245.name,by decide,Tryz.func245.trans (congrArg some (by kernel_rfl))⟩
 f28:=Tryz.func108.trans (congrArg some (by kernel_rfl))
 f29:=Tryz.func109.trans (congrArg some (by kernel_rfl))
 f46:=⟨Tryz.f249.name,by decide,Tryz.func249.trans (congrArg some (by kernel_rfl))⟩
 f47:=Tryz.func143.trans (congrArg some (by kernel_rfl))
 f48:=Tryz.func144.trans (congrArg some (by kernel_rfl))
 f49:=⟨Tryz.f250.name,by decide,Tryz.func250.trans (congrArg some (by kernel_rfl))⟩
 f50:=⟨Tryz.f251.name,by decide,Tryz.func251.trans (congrArg some (by kernel_rfl))⟩
 f57:=⟨Tryz.f253.name,by decide,Tryz.func253.trans (congrArg some (by kernel_rfl))⟩
 t0:=Tryz.underlying0
 a0:=Tryz.isAgg0
 z0:=Tryz.sizeOf0
 v0:=Tryz.zeroValue0
 t3:=Tryz.underlying3
 a3:=Tryz.isAgg3
 z3:=Tryz.sizeOf3
 v3:=Tryz.zeroValue3
 t4:=Tryz.underlying4
 a4:=Tryz.isAgg4
 z4:=Tryz.sizeOf4
 v4:=Tryz.zeroValue4
 t5:=Tryz.underlying5
 a5:=Tryz.isAgg5
 z5:=Tryz.sizeOf5
 v5:=Tryz.zeroValue5
 t9:=Tryz.underlying9
 a9:=Tryz.isAgg9
 z9:=Tryz.sizeOf9
 v9:=Tryz.zeroValue9
 t22:=Tryz.underlying226
 a22:=Tryz.isAgg226
 z22:=Tryz.sizeOf226
 v22:=Tryz.zeroValue226
 t25:=Tryz.underlying329
 a25:=Tryz.isAgg329
 z25:=Tryz.sizeOf329
 v25:=Tryz.zeroValue329
 t39:=Tryz.underlying147
 a39:=Tryz.isAgg147
 z39:=Tryz.sizeOf147
 v39:=Tryz.zeroValue147
 t45:=Tryz.underlying203
 a45:=Tryz.isAgg203
 z45:=Tryz.sizeOf203
 v45:=Tryz.zeroValue203
 t46:=Tryz.underlying204
 a46:=Tryz.isAgg204
 z46:=Tryz.sizeOf204
 v46:=Tryz.zeroValue204
 t50:=Tryz.underlying84
 a50:=Tryz.isAgg84
 z50:=Tryz.sizeOf84
 v50:=Tryz.zeroValue84
 t53:=Tryz.underlying210
 a53:=Tryz.isAgg210
 z53:=Tryz.sizeOf210
 v53:=Tryz.zeroValue210
 t55:=Tryz.underlying212
 a55:=Tryz.isAgg212
 z55:=Tryz.sizeOf212
 v55:=Tryz.zeroValue212
 t66:=Tryz.underlying261
 a66:=Tryz.isAgg261
 z66:=Tryz.sizeOf261
 v66:=Tryz.zeroValue261
 t70:=Tryz.underlying265
 a70:=Tryz.isAgg265
 z70:=Tryz.sizeOf265
 v70:=Tryz.zeroValue265
 t76:=Tryz.underlying293
 a76:=Tryz.isAgg293
 z76:=Tryz.sizeOf293
 v76:=Tryz.zeroValue293
 t77:=Tryz.underlying294
 a77:=Tryz.isAgg294
 z77:=Tryz.sizeOf294
 v77:=Tryz.zeroValue294 }
open Go.RowKit Go.Lib Go.Sort in
theorem Tryz.lG{α:Type}[Inhabited α](k:Nat)(aE:∀ w,(isAgg (Tryz.go.t 24)).run Tryz.prog w = .ok true w)(zE:∀ w,(Go.sizeOf (Tryz.go.t 24)).run Tryz.prog w = .ok k w)(enc:α->List Value)(cf:α->α->Int)(g:Nat)(cb:Array Value)(hO:SWO (ltOf cf))(wm off cap:Nat)(d0:Array α)(w0:World)(eg:∀ args w,(callFunc g args).run Tryz.prog w = .ok (.enter g args) w)(Ag:CmpLays Tryz.prog g cb enc k cf wm off d0.size w0)(R:RowK enc k w0 wm off d0):
  ∀(N a b kI:Nat) (d:Array α) (w:World),b-a<N->d0.size=d.size->SWK enc k w0 wm off d w->a<=b->b<=d.size->d.size<4611686018427387904->kI<4611686018427387904->Below (ltOf cf) a b d->
  Calls Tryz.prog 229 #[.slice (some ⟨wm,off,none⟩) d.size cap,.int .i64 a,.int .i64 b,.int .i64 kI,.func (.func g) #[] cb] w fun e w'=>e = .returned (.tuple #[])/\SWK enc k w0 wm off (pdq (ltOf cf) d a b kI true true) w':=AnyQ.pdqsortCmpFunc_all Tryz.oW k aE zE enc cf g cb hO wm off cap d0 w0 eg Ag R
open Go.RowKit Go.Lib Go.Sort in
theorem Tryz.lH{α:Type}[Inhabited α](p:Option Addr)(cap:Nat)(zk:Int)(fv:Value)(w:World):
  Calls Tryz.prog 56 #[.slice p 0 cap,.int .i64 0,.int .i64 0,.int .i64 zk,fv] w fun e w'=>e = .returned (.tuple #[])/\w'=w:=AnyF.pdqsortCmpFunc_none Tryz.ll p cap zk fv w
open Go.RowKit Go.Lib Go.Sort in
theorem Tryz.lb{α:Type}[Inhabited α](p:Option Addr)(cap:Nat)(zk:Int)(fv:Value)(w:World):
  Calls Tryz.prog 110 #[.slice p 0 cap,.int .i64 0,.int .i64 0,.int .i64 zk,fv] w fun e w'=>e = .returned (.tuple #[])/\w'=w:=AnyF.pdqsortCmpFunc_none Tryz.oT p cap zk fv w
open Go.RowKit Go.Lib Go.Sort in
theorem Tryz.ld{α:Type}[Inhabited α](p:Option Addr)(cap:Nat)(zk:Int)(fv:Value)(w:World):
  Calls Tryz.prog 158 #[.slice p 0 cap,.int .i64 0,.int .i64 0,.int .i64 zk,fv] w fun e w'=>e = .returned (.tuple #[])/\w'=w:=AnyF.pdqsortCmpFunc_none Tryz.oU p cap zk fv w
open Go.RowKit Go.Lib Go.Sort in
theorem Tryz.lf{α:Type}[Inhabited α](p:Option Addr)(cap:Nat)(zk:Int)(fv:Value)(w:World):
  Calls Tryz.prog 227 #[.slice p 0 cap,.int .i64 0,.int .i64 0,.int .i64 zk,fv] w fun e w'=>e = .returned (.tuple #[])/\w'=w:=AnyF.pdqsortCmpFunc_none Tryz.oV p cap zk fv w
open Go.RowKit Go.Lib Go.Sort in
theorem Tryz.lh{α:Type}[Inhabited α](p:Option Addr)(cap:Nat)(zk:Int)(fv:Value)(w:World):
  Calls Tryz.prog 229 #[.slice p 0 cap,.int .i64 0,.int .i64 0,.int .i64 zk,fv] w fun e w'=>e = .returned (.tuple #[])/\w'=w:=AnyF.pdqsortCmpFunc_none Tryz.oW p cap zk fv w
end Go.Proofs

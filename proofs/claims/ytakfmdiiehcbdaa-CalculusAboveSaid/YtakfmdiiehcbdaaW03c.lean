/- A part of this claim's proof: models of functions, walks, plain laws. No conditions. -/
import Derived.Test.YtakfmdiiehcbdaaW03b
namespace Go.Proofs.Ytakfmdiiehcbdaa
open Go Go.RowKit Sep
set_option linter.all false
set_option maxRecDepth 30000
set_option maxHeartbeats 4000000
def y6w (z1i : z2) (z1j : z2) : Option (z2 × Int) :=
 (y1i z1i).bind fun zh0=>(if !zh0 then some true else (y1i z1j).bind fun zkb=>some (!zkb)).bind fun zfb=>if zfb then some ((⟨0,0⟩ : z2),2) else (y5H z1i z1j).bind fun zdP=>(y20 zdP.1 zdP.2).bind fun zbb=>some (zbb.1,zbb.2)
set_option maxRecDepth 20000 in
theorem yac (Z : Zp)   (z1i : z2) (z1j : z2) (r : z2 × Int) (w₀ : World) (hz : PZ [] w₀ Z)
  (h : y6w z1i z1j = some r) :
  Calls Try.prog 40 #[(.string ⟨#[43]⟩),(.agg #[(.int .i64 z1i.fN),(.int .i64 z1i.fD)]),(.agg #[(.int .i64 z1j.fN),(.int .i64 z1j.fD)])] w₀ fun e w'=>e = .returned (.tuple #[(.agg #[(.int .i64 r.1.fN),(.int .i64 r.1.fD)]),(.int .i64 r.2)]) ∧ Hp [] w₀ w' []:=by
 unfold y6w at h
 refine Calls.yg (vs:=[(.string ⟨#[43]⟩),(.agg #[(.int .i64 z1i.fN),(.int .i64 z1i.fD)]),(.agg #[(.int .i64 z1j.fN),(.int .i64 z1j.fD)])]) (pre:=[]) (env:=[(0,(.string ⟨#[43]⟩)),(1,(.agg #[(.int .i64 z1i.fN),(.int .i64 z1i.fD)])),(2,(.agg #[(.int .i64 z1j.fN),(.int .i64 z1j.fD)]))]) Try.func40 rfl Try.ntmps40 rfl (Hp.nil w₀ _) rfl ?_
 refine WC.b ?_
 refine WC.a ?_
 refine WL.new (dd:=4) rfl rfl rfl (yK (cs:=[(.int .i64 z1i.fN),(.int .i64 z1i.fD)]) rfl rfl) ?_
 intro zV _
 refine WL.new (dd:=5) rfl rfl rfl (yK (cs:=[(.int .i64 z1j.fN),(.int .i64 z1j.fD)]) rfl rfl) ?_
 intro zW _
 refine WL.new (dd:=6) rfl rfl rfl (yh (cs:=[(.int .i64 0),(.int .i64 0)]) yo rfl) ?_
 intro z4p _
 refine WL.a (d:=7) rfl rfl rfl (q_z rfl) ?_
 refine WL.nil ?_
 refine WX.a ?_
 refine WC.b ?_
 refine WC.b ?_
 obtain ⟨zh0,ztR,h⟩:=zb h
 obtain ⟨zfb,zoI,h⟩:=zb h
 refine WC.a ?_
 refine WL.a (d:=9) rfl rfl rfl (y6 (cs:=[(.int .i64 z1i.fN),(.int .i64 z1i.fD)]) y5 rfl rfl (y7 .h2)) ?_
 refine WL.b (dd:=10) rfl rfl rfl (zl (l:=[.tmp 9]) Try.call39 (.cons rfl .nil)) (.nil : Sel [stb z4p 30 [(.int .i64 0),(.int .i64 0)],stb zW 30 [(.int .i64 z1j.fN),(.int .i64 z1j.fD)],stb zV 30 [(.int .i64 z1i.fN),(.int .i64 z1i.fD)]] [] [stb z4p 30 [(.int .i64 0),(.int .i64 0)],stb zW 30 [(.int .i64 z1j.fN),(.int .i64 z1j.fD)],stb zV 30 [(.int .i64 z1i.fN),(.int .i64 z1i.fD)]]) (fun w hw=>by have pz:=(hz.call hw (.nil : Sel [stb z4p 30 [(.int .i64 0),(.int .i64 0)],stb zW 30 [(.int .i64 z1j.fN),(.int .i64 z1j.fD)],stb zV 30 [(.int .i64 z1i.fN),(.int .i64 z1i.fD)]] [] [stb z4p 30 [(.int .i64 0),(.int .i64 0)],stb zW 30 [(.int .i64 z1j.fN),(.int .i64 z1j.fD)],stb zV 30 [(.int .i64 z1i.fN),(.int .i64 z1i.fD)]])); exact y1F (Z:=_)  (z1p:=z1i) (r:=zh0) w pz  ztR) ?_
 refine WL.a (d:=11) rfl rfl rfl (y1n rfl) ?_
 refine WL.a (d:=12) rfl rfl rfl (q_m rfl) ?_
 refine WL.yF True [(0,(.string ⟨#[43]⟩)),(4,(.pointer (some ⟨zV,0,none⟩))),(5,(.pointer (some ⟨zW,0,none⟩))),(6,(.pointer (some ⟨z4p,0,none⟩))),(16,(.bool zfb))] [stb z4p 30 [(.int .i64 0),(.int .i64 0)],stb zW 30 [(.int .i64 z1j.fN),(.int .i64 z1j.fD)],stb zV 30 [(.int .i64 z1i.fN),(.int .i64 z1i.fD)]] 4 ?_ (fun _=>?_)
 ·rcases Bool.eq_false_or_eq_true (!zh0) with hb' | hb'
  ·have zoJ:=hb'; clear hb'
   have zkc:=yj zoI zoJ
   replace zkc:=Option.some.inj zkc
   refine WL.pin (i:=12) rfl zoJ ?_
   refine WL.e rfl rfl rfl ?_
   refine WL.e rfl rfl rfl ?_
   refine WL.e rfl rfl rfl ?_
   refine WL.a (d:=16) rfl rfl rfl (ys rfl rfl) ?_
   exact WL.ya () trivial (.cons rfl (.cons rfl (.cons rfl (.cons rfl (.cons (zt zkc) .nil))))) (.cons .here (.cons .here (.cons .here .nil)))
  ·have zoK:=hb'; clear hb'
   have zfc:=yk zoI zoK
   obtain ⟨zkb,ztS,zfc⟩:=zb zfc
   replace zfc:=Option.some.inj zfc
   refine WL.pin (i:=12) rfl zoK ?_
   refine WL.a (d:=13) rfl rfl rfl (y6 (cs:=[(.int .i64 z1j.fN),(.int .i64 z1j.fD)]) y5 rfl rfl (y7 .h1)) ?_
   refine WL.b (dd:=14) rfl rfl rfl (zl (l:=[.tmp 13]) Try.call39 (.cons rfl .nil)) (.nil : Sel [stb z4p 30 [(.int .i64 0),(.int .i64 0)],stb zW 30 [(.int .i64 z1j.fN),(.int .i64 z1j.fD)],stb zV 30 [(.int .i64 z1i.fN),(.int .i64 z1i.fD)]] [] [stb z4p 30 [(.int .i64 0),(.int .i64 0)],stb zW 30 [(.int .i64 z1j.fN),(.int .i64 z1j.fD)],stb zV 30 [(.int .i64 z1i.fN),(.int .i64 z1i.fD)]]) (fun w hw=>by have pz:=(hz.call hw (.nil : Sel [stb z4p 30 [(.int .i64 0),(.int .i64 0)],stb zW 30 [(.int .i64 z1j.fN),(.int .i64 z1j.fD)],stb zV 30 [(.int .i64 z1i.fN),(.int .i64 z1i.fD)]] [] [stb z4p 30 [(.int .i64 0),(.int .i64 0)],stb zW 30 [(.int .i64 z1j.fN),(.int .i64 z1j.fD)],stb zV 30 [(.int .i64 z1i.fN),(.int .i64 z1i.fD)]])); exact y1F (Z:=_)  (z1p:=z1j) (r:=zkb) w pz  ztS) ?_
   refine WL.a (d:=15) rfl rfl rfl (y1n rfl) ?_
   refine WL.a (d:=16) rfl rfl rfl (yr rfl rfl) ?_
   exact WL.ya () trivial (.cons rfl (.cons rfl (.cons rfl (.cons rfl (.cons (zt zfc) .nil))))) (.cons .here (.cons .here (.cons .here .nil)))
 ·skip
  refine WL.a (d:=17) rfl rfl rfl (q_m rfl) ?_
  refine WL.yF True [(0,(.string ⟨#[43]⟩)),(4,(.pointer (some ⟨zV,0,none⟩))),(5,(.pointer (some ⟨zW,0,none⟩))),(6,(.pointer (some ⟨z4p,0,none⟩))),(25,(.bool zfb))] [stb z4p 30 [(.int .i64 0),(.int .i64 0)],stb zW 30 [(.int .i64 z1j.fN),(.int .i64 z1j.fD)],stb zV 30 [(.int .i64 z1i.fN),(.int .i64 z1i.fD)]] 8 ?_ (fun _=>?_)
  ·rcases Bool.eq_false_or_eq_true zfb with hb' | hb'
   ·have zoL:=hb'; clear hb'
    refine WL.pin (i:=17) rfl zoL ?_
    refine WL.e rfl rfl rfl ?_
    refine WL.e rfl rfl rfl ?_
    refine WL.e rfl rfl rfl ?_
    refine WL.e rfl rfl rfl ?_
    refine WL.e rfl rfl rfl ?_
    refine WL.e rfl rfl rfl ?_
    refine WL.e rfl rfl rfl ?_
    refine WL.a (d:=25) rfl rfl rfl (ys rfl rfl) ?_
    exact WL.ya () trivial (.cons rfl (.cons rfl (.cons rfl (.cons rfl (.cons (zt (Eq.symm zoL)) .nil))))) (.cons .here (.cons .here (.cons .here .nil)))
   ·have zoM:=hb'; clear hb'
    refine WL.pin (i:=17) rfl zoM ?_
    refine WL.a (d:=18) rfl rfl rfl (q_m rfl) ?_
    refine WL.a (d:=19) rfl rfl rfl (y7C (r:=false) (by decide) rfl rfl) ?_
    refine WL.a (d:=20) rfl rfl rfl (q_m rfl) ?_
    refine WL.e rfl rfl rfl ?_
    refine WL.e rfl rfl rfl ?_
    refine WL.e rfl rfl rfl ?_
    refine WL.a (d:=24) rfl rfl rfl (yr rfl rfl) ?_
    refine WL.a (d:=25) rfl rfl rfl (yr rfl rfl) ?_
    exact WL.ya () trivial (.cons rfl (.cons rfl (.cons rfl (.cons rfl (.cons (zt (Eq.symm zoM)) .nil))))) (.cons .here (.cons .here (.cons .here .nil)))
  ·skip
   refine WL.nil ?_
   refine WX.a ?_
   refine WC.cond rfl (fun zkd=>?_) (fun zkd=>?_)
   ·replace h:=yj h zkd
    refine WC.b ?_
    refine WC.a ?_
    refine WL.a (d:=26) rfl rfl rfl (y1j (v:=(.agg #[(.int .i64 0),(.int .i64 0)])) (Eos.parts (l:=[]) .nil []) (fun _=>by kernel_rfl)) ?_
    refine WL.yc rfl rfl (yd (vs:=[(.int .i64 0),(.int .i64 0)]) (ds:=[(.int .i64 0),(.int .i64 0)]) yl rfl rfl rfl rfl (y3 rfl (y3 rfl yf)) .here (Nat.le_of_ble_eq_true rfl) rfl) ?_
    refine WL.a (d:=7) rfl rfl rfl (q_z rfl) ?_
    refine WL.nil ?_
    refine WX.a ?_
    refine WC.ret ?_
    refine WX.y8 ?_
    obtain rfl:=Option.some.inj h
    refine WX.y9 Try.results40 (.agg rfl y5 rfl (y7 .here) (.tmp rfl .nil)) (fun w hw=>?_)
    exact ⟨y1I rfl rfl,hw.sub .nil⟩
   ·replace h:=yk h zkd
    refine WC.skip ?_
    refine WX.a ?_
    refine WC.b ?_
    refine WC.a ?_
    refine WL.new (dd:=27) rfl rfl rfl (y6u Value.string (fun x=>x)) ?_
    intro z7G _
    refine WL.a (d:=28) rfl rfl rfl (y18 (Eos.caps (l:=[.tmp 4,.tmp 5]) (.cons rfl (.cons rfl .nil)))) ?_
    refine WL.yc rfl rfl (y2d (k:=⟨#[43]⟩) (v:=(.func (.func 54) #[] #[(.pointer (some ⟨zV,0,none⟩)),(.pointer (some ⟨zW,0,none⟩))])) y2p Try.underlying105 rfl rfl rfl rfl .here) ?_
    refine WL.a (d:=29) rfl rfl rfl (y18 (Eos.caps (l:=[.tmp 4,.tmp 5]) (.cons rfl (.cons rfl .nil)))) ?_
    refine WL.yc rfl rfl (y2d (k:=⟨#[45]⟩) (v:=(.func (.func 55) #[] #[(.pointer (some ⟨zV,0,none⟩)),(.pointer (some ⟨zW,0,none⟩))])) y2p Try.underlying105 rfl rfl rfl rfl .here) ?_
    refine WL.a (d:=30) rfl rfl rfl (y18 (Eos.caps (l:=[.tmp 4,.tmp 5]) (.cons rfl (.cons rfl .nil)))) ?_
    refine WL.yc rfl rfl (y2d (k:=⟨#[42]⟩) (v:=(.func (.func 56) #[] #[(.pointer (some ⟨zV,0,none⟩)),(.pointer (some ⟨zW,0,none⟩))])) y2p Try.underlying105 rfl rfl rfl rfl .here) ?_
    refine WL.a (d:=31) rfl rfl rfl (y18 (Eos.caps (l:=[.tmp 4,.tmp 5]) (.cons rfl (.cons rfl .nil)))) ?_
    refine WL.yc rfl rfl (y2d (k:=⟨#[47]⟩) (v:=(.func (.func 57) #[] #[(.pointer (some ⟨zV,0,none⟩)),(.pointer (some ⟨zW,0,none⟩))])) y2p Try.underlying105 rfl rfl rfl rfl .here) ?_
    refine WL.a (d:=32) rfl rfl rfl (q_m rfl) ?_
    refine WL.a (d:=8) rfl rfl rfl (q_z rfl) ?_
    refine WL.nil ?_
    refine WX.a ?_
    refine WC.b ?_
    obtain ⟨zdP,ztT,h⟩:=zb h
    obtain ⟨zbb,ztU,h⟩:=zb h
    refine WC.a ?_
    refine WL.a (d:=33) rfl rfl rfl (q_m rfl) ?_
    refine WL.a (d:=34) rfl rfl rfl (q_m rfl) ?_
    refine WL.a (d:=35) rfl rfl rfl (y7B (k:=⟨#[43]⟩) (dflt:=.nilFunc) (r:=(.func (.func 54) #[] #[(.pointer (some ⟨zV,0,none⟩)),(.pointer (some ⟨zW,0,none⟩))])) y2p Try.underlying105 zgk rfl rfl rfl .here (by rfl)) ?_
    refine WL.b (dd:=36) rfl rfl rfl (y2f (l:=[]) Try.call54 rfl .nil) (.nil : Sel [yN z7G Value.string (fun x=>x) [(⟨#[43]⟩,(.func (.func 54) #[] #[(.pointer (some ⟨zV,0,none⟩)),(.pointer (some ⟨zW,0,none⟩))])),(⟨#[45]⟩,(.func (.func 55) #[] #[(.pointer (some ⟨zV,0,none⟩)),(.pointer (some ⟨zW,0,none⟩))])),(⟨#[42]⟩,(.func (.func 56) #[] #[(.pointer (some ⟨zV,0,none⟩)),(.pointer (some ⟨zW,0,none⟩))])),(⟨#[47]⟩,(.func (.func 57) #[] #[(.pointer (some ⟨zV,0,none⟩)),(.pointer (some ⟨zW,0,none⟩))]))],stb z4p 30 [(.int .i64 0),(.int .i64 0)],stb zW 30 [(.int .i64 z1j.fN),(.int .i64 z1j.fD)],stb zV 30 [(.int .i64 z1i.fN),(.int .i64 z1i.fD)]] [] [yN z7G Value.string (fun x=>x) [(⟨#[43]⟩,(.func (.func 54) #[] #[(.pointer (some ⟨zV,0,none⟩)),(.pointer (some ⟨zW,0,none⟩))])),(⟨#[45]⟩,(.func (.func 55) #[] #[(.pointer (some ⟨zV,0,none⟩)),(.pointer (some ⟨zW,0,none⟩))])),(⟨#[42]⟩,(.func (.func 56) #[] #[(.pointer (some ⟨zV,0,none⟩)),(.pointer (some ⟨zW,0,none⟩))])),(⟨#[47]⟩,(.func (.func 57) #[] #[(.pointer (some ⟨zV,0,none⟩)),(.pointer (some ⟨zW,0,none⟩))]))],stb z4p 30 [(.int .i64 0),(.int .i64 0)],stb zW 30 [(.int .i64 z1j.fN),(.int .i64 z1j.fD)],stb zV 30 [(.int .i64 z1i.fN),(.int .i64 z1i.fD)]]) (fun w hw=>by have pz:=(hz.call hw (.nil : Sel [yN z7G Value.string (fun x=>x) [(⟨#[43]⟩,(.func (.func 54) #[] #[(.pointer (some ⟨zV,0,none⟩)),(.pointer (some ⟨zW,0,none⟩))])),(⟨#[45]⟩,(.func (.func 55) #[] #[(.pointer (some ⟨zV,0,none⟩)),(.pointer (some ⟨zW,0,none⟩))])),(⟨#[42]⟩,(.func (.func 56) #[] #[(.pointer (some ⟨zV,0,none⟩)),(.pointer (some ⟨zW,0,none⟩))])),(⟨#[47]⟩,(.func (.func 57) #[] #[(.pointer (some ⟨zV,0,none⟩)),(.pointer (some ⟨zW,0,none⟩))]))],stb z4p 30 [(.int .i64 0),(.int .i64 0)],stb zW 30 [(.int .i64 z1j.fN),(.int .i64 z1j.fD)],stb zV 30 [(.int .i64 z1i.fN),(.int .i64 z1i.fD)]] [] [yN z7G Value.string (fun x=>x) [(⟨#[43]⟩,(.func (.func 54) #[] #[(.pointer (some ⟨zV,0,none⟩)),(.pointer (some ⟨zW,0,none⟩))])),(⟨#[45]⟩,(.func (.func 55) #[] #[(.pointer (some ⟨zV,0,none⟩)),(.pointer (some ⟨zW,0,none⟩))])),(⟨#[42]⟩,(.func (.func 56) #[] #[(.pointer (some ⟨zV,0,none⟩)),(.pointer (some ⟨zW,0,none⟩))])),(⟨#[47]⟩,(.func (.func 57) #[] #[(.pointer (some ⟨zV,0,none⟩)),(.pointer (some ⟨zW,0,none⟩))]))],stb z4p 30 [(.int .i64 0),(.int .i64 0)],stb zW 30 [(.int .i64 z1j.fN),(.int .i64 z1j.fD)],stb zV 30 [(.int .i64 z1i.fN),(.int .i64 z1i.fD)]])).lend hw (.nil : Sel [yN z7G Value.string (fun x=>x) [(⟨#[43]⟩,(.func (.func 54) #[] #[(.pointer (some ⟨zV,0,none⟩)),(.pointer (some ⟨zW,0,none⟩))])),(⟨#[45]⟩,(.func (.func 55) #[] #[(.pointer (some ⟨zV,0,none⟩)),(.pointer (some ⟨zW,0,none⟩))])),(⟨#[42]⟩,(.func (.func 56) #[] #[(.pointer (some ⟨zV,0,none⟩)),(.pointer (some ⟨zW,0,none⟩))])),(⟨#[47]⟩,(.func (.func 57) #[] #[(.pointer (some ⟨zV,0,none⟩)),(.pointer (some ⟨zW,0,none⟩))]))],stb z4p 30 [(.int .i64 0),(.int .i64 0)],stb zW 30 [(.int .i64 z1j.fN),(.int .i64 z1j.fD)],stb zV 30 [(.int .i64 z1i.fN),(.int .i64 z1i.fD)]] [] [yN z7G Value.string (fun x=>x) [(⟨#[43]⟩,(.func (.func 54) #[] #[(.pointer (some ⟨zV,0,none⟩)),(.pointer (some ⟨zW,0,none⟩))])),(⟨#[45]⟩,(.func (.func 55) #[] #[(.pointer (some ⟨zV,0,none⟩)),(.pointer (some ⟨zW,0,none⟩))])),(⟨#[42]⟩,(.func (.func 56) #[] #[(.pointer (some ⟨zV,0,none⟩)),(.pointer (some ⟨zW,0,none⟩))])),(⟨#[47]⟩,(.func (.func 57) #[] #[(.pointer (some ⟨zV,0,none⟩)),(.pointer (some ⟨zW,0,none⟩))]))],stb z4p 30 [(.int .i64 0),(.int .i64 0)],stb zW 30 [(.int .i64 z1j.fN),(.int .i64 z1j.fD)],stb zV 30 [(.int .i64 z1i.fN),(.int .i64 z1i.fD)]]) (B:=[stb zV 30 [(.int .i64 z1i.fN),(.int .i64 z1i.fD)],stb zW 30 [(.int .i64 z1j.fN),(.int .i64 z1j.fD)]]) (fun _ hx'=>((.cons .h3 (.cons .h2 .nil)) : Sel _ [stb zV 30 [(.int .i64 z1i.fN),(.int .i64 z1i.fD)],stb zW 30 [(.int .i64 z1j.fN),(.int .i64 z1j.fD)]] _).mem hx'); exact y9S (Z:=_) (zf9:=⟨zV,0,none⟩) (zfa:=⟨zW,0,none⟩) (zb9:=z1i) (zba:=z1j) (r:=zdP) w pz ((hw.lent (.nil : Sel [yN z7G Value.string (fun x=>x) [(⟨#[43]⟩,(.func (.func 54) #[] #[(.pointer (some ⟨zV,0,none⟩)),(.pointer (some ⟨zW,0,none⟩))])),(⟨#[45]⟩,(.func (.func 55) #[] #[(.pointer (some ⟨zV,0,none⟩)),(.pointer (some ⟨zW,0,none⟩))])),(⟨#[42]⟩,(.func (.func 56) #[] #[(.pointer (some ⟨zV,0,none⟩)),(.pointer (some ⟨zW,0,none⟩))])),(⟨#[47]⟩,(.func (.func 57) #[] #[(.pointer (some ⟨zV,0,none⟩)),(.pointer (some ⟨zW,0,none⟩))]))],stb z4p 30 [(.int .i64 0),(.int .i64 0)],stb zW 30 [(.int .i64 z1j.fN),(.int .i64 z1j.fD)],stb zV 30 [(.int .i64 z1i.fN),(.int .i64 z1i.fD)]] [] [yN z7G Value.string (fun x=>x) [(⟨#[43]⟩,(.func (.func 54) #[] #[(.pointer (some ⟨zV,0,none⟩)),(.pointer (some ⟨zW,0,none⟩))])),(⟨#[45]⟩,(.func (.func 55) #[] #[(.pointer (some ⟨zV,0,none⟩)),(.pointer (some ⟨zW,0,none⟩))])),(⟨#[42]⟩,(.func (.func 56) #[] #[(.pointer (some ⟨zV,0,none⟩)),(.pointer (some ⟨zW,0,none⟩))])),(⟨#[47]⟩,(.func (.func 57) #[] #[(.pointer (some ⟨zV,0,none⟩)),(.pointer (some ⟨zW,0,none⟩))]))],stb z4p 30 [(.int .i64 0),(.int .i64 0)],stb zW 30 [(.int .i64 z1j.fN),(.int .i64 z1j.fD)],stb zV 30 [(.int .i64 z1i.fN),(.int .i64 z1i.fD)]]) (B:=[stb zV 30 [(.int .i64 z1i.fN),(.int .i64 z1i.fD)],stb zW 30 [(.int .i64 z1j.fN),(.int .i64 z1j.fD)]]) (fun _ hx'=>((.cons .h3 (.cons .h2 .nil)) : Sel _ [stb zV 30 [(.int .i64 z1i.fN),(.int .i64 z1i.fD)],stb zW 30 [(.int .i64 z1j.fN),(.int .i64 z1j.fD)]] _).mem hx') (.head _) _).stb) ((hw.lent (.nil : Sel [yN z7G Value.string (fun x=>x) [(⟨#[43]⟩,(.func (.func 54) #[] #[(.pointer (some ⟨zV,0,none⟩)),(.pointer (some ⟨zW,0,none⟩))])),(⟨#[45]⟩,(.func (.func 55) #[] #[(.pointer (some ⟨zV,0,none⟩)),(.pointer (some ⟨zW,0,none⟩))])),(⟨#[42]⟩,(.func (.func 56) #[] #[(.pointer (some ⟨zV,0,none⟩)),(.pointer (some ⟨zW,0,none⟩))])),(⟨#[47]⟩,(.func (.func 57) #[] #[(.pointer (some ⟨zV,0,none⟩)),(.pointer (some ⟨zW,0,none⟩))]))],stb z4p 30 [(.int .i64 0),(.int .i64 0)],stb zW 30 [(.int .i64 z1j.fN),(.int .i64 z1j.fD)],stb zV 30 [(.int .i64 z1i.fN),(.int .i64 z1i.fD)]] [] [yN z7G Value.string (fun x=>x) [(⟨#[43]⟩,(.func (.func 54) #[] #[(.pointer (some ⟨zV,0,none⟩)),(.pointer (some ⟨zW,0,none⟩))])),(⟨#[45]⟩,(.func (.func 55) #[] #[(.pointer (some ⟨zV,0,none⟩)),(.pointer (some ⟨zW,0,none⟩))])),(⟨#[42]⟩,(.func (.func 56) #[] #[(.pointer (some ⟨zV,0,none⟩)),(.pointer (some ⟨zW,0,none⟩))])),(⟨#[47]⟩,(.func (.func 57) #[] #[(.pointer (some ⟨zV,0,none⟩)),(.pointer (some ⟨zW,0,none⟩))]))],stb z4p 30 [(.int .i64 0),(.int .i64 0)],stb zW 30 [(.int .i64 z1j.fN),(.int .i64 z1j.fD)],stb zV 30 [(.int .i64 z1i.fN),(.int .i64 z1i.fD)]]) (B:=[stb zV 30 [(.int .i64 z1i.fN),(.int .i64 z1i.fD)],stb zW 30 [(.int .i64 z1j.fN),(.int .i64 z1j.fD)]]) (fun _ hx'=>((.cons .h3 (.cons .h2 .nil)) : Sel _ [stb zV 30 [(.int .i64 z1i.fN),(.int .i64 z1i.fD)],stb zW 30 [(.int .i64 z1j.fN),(.int .i64 z1j.fD)]] _).mem hx') (.tail _ (.head _)) _).stb) ztT) ?_
    refine WL.a (d:=37) rfl rfl rfl (yb rfl rfl) ?_
    refine WL.a (d:=38) rfl rfl rfl (yb rfl rfl) ?_
    refine WL.b (dd:=39) rfl rfl rfl (zl (l:=[.tmp 37,.tmp 38]) Try.call9 (.cons rfl (.cons rfl .nil))) (.nil : Sel [yN z7G Value.string (fun x=>x) [(⟨#[43]⟩,(.func (.func 54) #[] #[(.pointer (some ⟨zV,0,none⟩)),(.pointer (some ⟨zW,0,none⟩))])),(⟨#[45]⟩,(.func (.func 55) #[] #[(.pointer (some ⟨zV,0,none⟩)),(.pointer (some ⟨zW,0,none⟩))])),(⟨#[42]⟩,(.func (.func 56) #[] #[(.pointer (some ⟨zV,0,none⟩)),(.pointer (some ⟨zW,0,none⟩))])),(⟨#[47]⟩,(.func (.func 57) #[] #[(.pointer (some ⟨zV,0,none⟩)),(.pointer (some ⟨zW,0,none⟩))]))],stb z4p 30 [(.int .i64 0),(.int .i64 0)],stb zW 30 [(.int .i64 z1j.fN),(.int .i64 z1j.fD)],stb zV 30 [(.int .i64 z1i.fN),(.int .i64 z1i.fD)]] [] [yN z7G Value.string (fun x=>x) [(⟨#[43]⟩,(.func (.func 54) #[] #[(.pointer (some ⟨zV,0,none⟩)),(.pointer (some ⟨zW,0,none⟩))])),(⟨#[45]⟩,(.func (.func 55) #[] #[(.pointer (some ⟨zV,0,none⟩)),(.pointer (some ⟨zW,0,none⟩))])),(⟨#[42]⟩,(.func (.func 56) #[] #[(.pointer (some ⟨zV,0,none⟩)),(.pointer (some ⟨zW,0,none⟩))])),(⟨#[47]⟩,(.func (.func 57) #[] #[(.pointer (some ⟨zV,0,none⟩)),(.pointer (some ⟨zW,0,none⟩))]))],stb z4p 30 [(.int .i64 0),(.int .i64 0)],stb zW 30 [(.int .i64 z1j.fN),(.int .i64 z1j.fD)],stb zV 30 [(.int .i64 z1i.fN),(.int .i64 z1i.fD)]]) (fun w hw=>by have pz:=(hz.call hw (.nil : Sel [yN z7G Value.string (fun x=>x) [(⟨#[43]⟩,(.func (.func 54) #[] #[(.pointer (some ⟨zV,0,none⟩)),(.pointer (some ⟨zW,0,none⟩))])),(⟨#[45]⟩,(.func (.func 55) #[] #[(.pointer (some ⟨zV,0,none⟩)),(.pointer (some ⟨zW,0,none⟩))])),(⟨#[42]⟩,(.func (.func 56) #[] #[(.pointer (some ⟨zV,0,none⟩)),(.pointer (some ⟨zW,0,none⟩))])),(⟨#[47]⟩,(.func (.func 57) #[] #[(.pointer (some ⟨zV,0,none⟩)),(.pointer (some ⟨zW,0,none⟩))]))],stb z4p 30 [(.int .i64 0),(.int .i64 0)],stb zW 30 [(.int .i64 z1j.fN),(.int .i64 z1j.fD)],stb zV 30 [(.int .i64 z1i.fN),(.int .i64 z1i.fD)]] [] [yN z7G Value.string (fun x=>x) [(⟨#[43]⟩,(.func (.func 54) #[] #[(.pointer (some ⟨zV,0,none⟩)),(.pointer (some ⟨zW,0,none⟩))])),(⟨#[45]⟩,(.func (.func 55) #[] #[(.pointer (some ⟨zV,0,none⟩)),(.pointer (some ⟨zW,0,none⟩))])),(⟨#[42]⟩,(.func (.func 56) #[] #[(.pointer (some ⟨zV,0,none⟩)),(.pointer (some ⟨zW,0,none⟩))])),(⟨#[47]⟩,(.func (.func 57) #[] #[(.pointer (some ⟨zV,0,none⟩)),(.pointer (some ⟨zW,0,none⟩))]))],stb z4p 30 [(.int .i64 0),(.int .i64 0)],stb zW 30 [(.int .i64 z1j.fN),(.int .i64 z1j.fD)],stb zV 30 [(.int .i64 z1i.fN),(.int .i64 z1i.fD)]])); exact y3k (Z:=_)  (z6E:=zdP.1) (z67:=zdP.2) (r:=zbb) w pz  ztU) ?_
    refine WL.a (d:=40) rfl rfl rfl (yb rfl rfl) ?_
    refine WL.a (d:=41) rfl rfl rfl (yb rfl rfl) ?_
    refine WL.yc rfl rfl (yd (vs:=[(.int .i64 zbb.1.fN),(.int .i64 zbb.1.fD)]) (ds:=[(.int .i64 zbb.1.fN),(.int .i64 zbb.1.fD)]) yl rfl rfl rfl rfl (y3 rfl (y3 rfl yf)) .h1 (Nat.le_of_ble_eq_true rfl) rfl) ?_
    refine WL.a (d:=7) rfl rfl rfl (q_z rfl) ?_
    refine WL.nil ?_
    refine WX.a ?_
    refine WC.ret ?_
    obtain rfl:=Option.some.inj h
    refine WX.y9 Try.results40 (.agg rfl y5 rfl (y7 .here) (.tmp rfl .nil)) (fun w hw=>?_)
    exact ⟨y1I rfl rfl,hw.sub .nil⟩
def y15 (z3F : z2) (z3G : z2) : Option (z2 × Int) :=
 (y6w z3F z3G).bind fun zbc=>some (zbc.1,zbc.2)
set_option maxRecDepth 20000 in
theorem y3n (Z : Zp)   (z3F : z2) (z3G : z2) (r : z2 × Int) (w₀ : World) (hz : PZ [] w₀ Z)
  (h : y15 z3F z3G = some r) :
  Calls Try.prog 19 #[(.agg #[(.int .i64 z3F.fN),(.int .i64 z3F.fD)]),(.agg #[(.int .i64 z3G.fN),(.int .i64 z3G.fD)])] w₀ fun e w'=>e = .returned (.tuple #[(.agg #[(.int .i64 r.1.fN),(.int .i64 r.1.fD)]),(.int .i64 r.2)]) ∧ Hp [] w₀ w' []:=by
 unfold y15 at h
 refine Calls.yg (vs:=[(.agg #[(.int .i64 z3F.fN),(.int .i64 z3F.fD)]),(.agg #[(.int .i64 z3G.fN),(.int .i64 z3G.fD)])]) (pre:=[]) (env:=[(0,(.agg #[(.int .i64 z3F.fN),(.int .i64 z3F.fD)])),(1,(.agg #[(.int .i64 z3G.fN),(.int .i64 z3G.fD)]))]) Try.func19 rfl Try.ntmps19 rfl (Hp.nil w₀ _) rfl ?_
 refine WC.b ?_
 refine WC.a ?_
 refine WL.new (dd:=2) rfl rfl rfl (yK (cs:=[(.int .i64 z3F.fN),(.int .i64 z3F.fD)]) rfl rfl) ?_
 intro zh1 _
 refine WL.new (dd:=3) rfl rfl rfl (yK (cs:=[(.int .i64 z3G.fN),(.int .i64 z3G.fD)]) rfl rfl) ?_
 intro zh2 _
 refine WL.new (dd:=4) rfl rfl rfl (yh (cs:=[(.int .i64 0),(.int .i64 0)]) yo rfl) ?_
 intro zh3 _
 refine WL.a (d:=5) rfl rfl rfl (q_z rfl) ?_
 refine WL.nil ?_
 refine WX.a ?_
 refine WC.b ?_
 obtain ⟨zbc,ztV,h⟩:=zb h
 refine WC.a ?_
 refine WL.a (d:=6) rfl rfl rfl (y6 (cs:=[(.int .i64 z3F.fN),(.int .i64 z3F.fD)]) y5 rfl rfl (y7 .h2)) ?_
 refine WL.a (d:=7) rfl rfl rfl (y6 (cs:=[(.int .i64 z3G.fN),(.int .i64 z3G.fD)]) y5 rfl rfl (y7 .h1)) ?_
 refine WL.b (dd:=8) rfl rfl rfl (zl (l:=[.const (.string ⟨#[43]⟩),.tmp 6,.tmp 7]) Try.call40 (.cons rfl (.cons rfl (.cons rfl .nil)))) (.nil : Sel [stb zh3 30 [(.int .i64 0),(.int .i64 0)],stb zh2 30 [(.int .i64 z3G.fN),(.int .i64 z3G.fD)],stb zh1 30 [(.int .i64 z3F.fN),(.int .i64 z3F.fD)]] [] [stb zh3 30 [(.int .i64 0),(.int .i64 0)],stb zh2 30 [(.int .i64 z3G.fN),(.int .i64 z3G.fD)],stb zh1 30 [(.int .i64 z3F.fN),(.int .i64 z3F.fD)]]) (fun w hw=>by have pz:=(hz.call hw (.nil : Sel [stb zh3 30 [(.int .i64 0),(.int .i64 0)],stb zh2 30 [(.int .i64 z3G.fN),(.int .i64 z3G.fD)],stb zh1 30 [(.int .i64 z3F.fN),(.int .i64 z3F.fD)]] [] [stb zh3 30 [(.int .i64 0),(.int .i64 0)],stb zh2 30 [(.int .i64 z3G.fN),(.int .i64 z3G.fD)],stb zh1 30 [(.int .i64 z3F.fN),(.int .i64 z3F.fD)]])); exact yac (Z:=_)  (z1i:=z3F) (z1j:=z3G) (r:=zbc) w pz  ztV) ?_
 refine WL.a (d:=9) rfl rfl rfl (yb rfl rfl) ?_
 refine WL.a (d:=10) rfl rfl rfl (yb rfl rfl) ?_
 refine WL.yc rfl rfl (yd (vs:=[(.int .i64 zbc.1.fN),(.int .i64 zbc.1.fD)]) (ds:=[(.int .i64 zbc.1.fN),(.int .i64 zbc.1.fD)]) yl rfl rfl rfl rfl (y3 rfl (y3 rfl yf)) .here (Nat.le_of_ble_eq_true rfl) rfl) ?_
 refine WL.a (d:=5) rfl rfl rfl (q_z rfl) ?_
 refine WL.nil ?_
 refine WX.a ?_
 refine WC.ret ?_
 obtain rfl:=Option.some.inj h
 refine WX.y9 Try.results19 (.agg rfl y5 rfl (y7 .here) (.tmp rfl .nil)) (fun w hw=>?_)
 exact ⟨y1I rfl rfl,hw.sub .nil⟩
def y12 (z5j : z2y) (z7X : z2 → z2 → Option (z2 × Int)) (z3a : z2) (z3b : z2) : Option (z2 × z2y) :=
 if decide (z5j.fE ≠ 0) then (y1L).bind fun zcn=>some (zcn,z5j) else (z7X z3a z3b).bind fun z3L=>if decide (z3L.2 ≠ 0) then (y1L).bind fun zco=>some (zco,(⟨z3L.2⟩ : z2y)) else some (z3L.1,(⟨z3L.2⟩ : z2y))
set_option maxRecDepth 20000 in
theorem y1E (Z : Zp)  (z4q : Nat) (z75 : FuncId) (z7H : List Value) (z5j : z2y) (z7X : z2 → z2 → Option (z2 × Int)) (z3a : z2) (z3b : z2) (r : z2 × z2y) (w₀ : World) (hz : PZ (fps [stb z4q 98 [(.int .i64 z5j.fE)]]) w₀ Z)
  (ztW : ∀ args w,(callFunc z75 args).run Try.prog w = .ok (.enter z75 args) w)
  (ztX : ∀ w : World,PZ [] w Z → ∀ (x0 : z2) (x1 : z2) (r : z2 × Int),z7X x0 x1 = some r → Calls Try.prog z75 (([(.agg #[(.int .i64 x0.fN),(.int .i64 x0.fD)]),(.agg #[(.int .i64 x1.fN),(.int .i64 x1.fD)])] : List Value) ++ z7H).toArray w fun e w'=>e = .returned (.tuple #[(.agg #[(.int .i64 r.1.fN),(.int .i64 r.1.fD)]),(.int .i64 r.2)]) ∧ Hp [] w w' [])
  (h : y12 z5j z7X z3a z3b = some r)
  (hown : Hp (fps [stb z4q 98 [(.int .i64 z5j.fE)]]) w₀ w₀ [stb z4q 98 [(.int .i64 z5j.fE)]]) :
  Calls Try.prog 33 #[(.pointer (some ⟨z4q,0,none⟩)),(.func (.func z75) #[] (z7H).toArray),(.agg #[(.int .i64 z3a.fN),(.int .i64 z3a.fD)]),(.agg #[(.int .i64 z3b.fN),(.int .i64 z3b.fD)])] w₀ fun e w'=>e = .returned (.agg #[(.int .i64 r.1.fN),(.int .i64 r.1.fD)]) ∧ Hp (fps [stb z4q 98 [(.int .i64 z5j.fE)]]) w₀ w' [stb z4q 98 [(.int .i64 r.2.fE)]]:=by
 unfold y12 at h
 refine Calls.yg (vs:=[(.pointer (some ⟨z4q,0,none⟩)),(.func (.func z75) #[] (z7H).toArray),(.agg #[(.int .i64 z3a.fN),(.int .i64 z3a.fD)]),(.agg #[(.int .i64 z3b.fN),(.int .i64 z3b.fD)])]) (pre:=[stb z4q 98 [(.int .i64 z5j.fE)]]) (env:=[(0,(.pointer (some ⟨z4q,0,none⟩))),(1,(.func (.func z75) #[] (z7H).toArray)),(2,(.agg #[(.int .i64 z3a.fN),(.int .i64 z3a.fD)])),(3,(.agg #[(.int .i64 z3b.fN),(.int .i64 z3b.fD)]))]) Try.func33 rfl Try.ntmps33 rfl (hown) rfl ?_
 refine WC.b ?_
 refine WC.a ?_
 refine WL.new (dd:=6) rfl rfl rfl (yK (cs:=[(.int .i64 z3a.fN),(.int .i64 z3a.fD)]) rfl rfl) ?_
 intro zbd _
 refine WL.new (dd:=7) rfl rfl rfl (yK (cs:=[(.int .i64 z3b.fN),(.int .i64 z3b.fD)]) rfl rfl) ?_
 intro zbe _
 refine WL.new (dd:=8) rfl rfl rfl (yh (cs:=[(.int .i64 0),(.int .i64 0)]) yo rfl) ?_
 intro zbf _
 refine WL.nil ?_
 refine WX.a ?_
 refine WC.b ?_
 refine WC.b ?_
 refine WC.a ?_
 refine WL.a (d:=11) rfl rfl rfl (q_m rfl) ?_
 refine WL.a (d:=12) rfl rfl rfl (y4c rfl) ?_
 refine WL.a (d:=13) rfl rfl rfl (y4 y3c rfl rfl) ?_
 refine WL.a (d:=14) rfl rfl rfl (ye y2H rfl (yu .h3 rfl)) ?_
 refine WL.a (d:=15) rfl rfl rfl (y2L rfl rfl) ?_
 refine WL.nil ?_
 refine WX.a ?_
 refine WC.cond rfl (fun zke=>?_) (fun zke=>?_)
 ·replace h:=yj h zke
  refine WC.b ?_
  obtain ⟨zcn,ztY,h⟩:=zb h
  refine WC.a ?_
  refine WL.b (dd:=16) rfl rfl rfl (zl (l:=[]) Try.call51 .nil) (.nil : Sel [stb zbf 30 [(.int .i64 0),(.int .i64 0)],stb zbe 30 [(.int .i64 z3b.fN),(.int .i64 z3b.fD)],stb zbd 30 [(.int .i64 z3a.fN),(.int .i64 z3a.fD)],stb z4q 98 [(.int .i64 z5j.fE)]] [] [stb zbf 30 [(.int .i64 0),(.int .i64 0)],stb zbe 30 [(.int .i64 z3b.fN),(.int .i64 z3b.fD)],stb zbd 30 [(.int .i64 z3a.fN),(.int .i64 z3a.fD)],stb z4q 98 [(.int .i64 z5j.fE)]]) (fun w hw=>by have pz:=(hz.call hw (.nil : Sel [stb zbf 30 [(.int .i64 0),(.int .i64 0)],stb zbe 30 [(.int .i64 z3b.fN),(.int .i64 z3b.fD)],stb zbd 30 [(.int .i64 z3a.fN),(.int .i64 z3a.fD)],stb z4q 98 [(.int .i64 z5j.fE)]] [] [stb zbf 30 [(.int .i64 0),(.int .i64 0)],stb zbe 30 [(.int .i64 z3b.fN),(.int .i64 z3b.fD)],stb zbd 30 [(.int .i64 z3a.fN),(.int .i64 z3a.fD)],stb z4q 98 [(.int .i64 z5j.fE)]])); exact y2v (Z:=_)   (r:=zcn) w pz  ztY) ?_
  refine WL.yc rfl rfl (yd (vs:=[(.int .i64 zcn.fN),(.int .i64 zcn.fD)]) (ds:=[(.int .i64 zcn.fN),(.int .i64 zcn.fD)]) yl rfl rfl rfl rfl (y3 rfl (y3 rfl yf)) .here (Nat.le_of_ble_eq_true rfl) rfl) ?_
  refine WL.nil ?_
  refine WX.a ?_
  refine WC.ret ?_
  refine WX.y8 ?_
  obtain rfl:=Option.some.inj h
  refine WX.y9 Try.results33 (.agg rfl y5 rfl (y7 .here) .nil) (fun w hw=>?_)
  exact ⟨yI rfl,hw.sub (.cons .h3 .nil)⟩
 ·replace h:=yk h zke
  refine WC.skip ?_
  refine WX.a ?_
  refine WC.b ?_
  obtain ⟨z3L,ztZ,h⟩:=zb h
  refine WC.a ?_
  refine WL.a (d:=18) rfl rfl rfl (q_m rfl) ?_
  refine WL.a (d:=19) rfl rfl rfl (y6 (cs:=[(.int .i64 z3a.fN),(.int .i64 z3a.fD)]) y5 rfl rfl (y7 .h2)) ?_
  refine WL.a (d:=20) rfl rfl rfl (y6 (cs:=[(.int .i64 z3b.fN),(.int .i64 z3b.fD)]) y5 rfl rfl (y7 .h1)) ?_
  refine WL.b (dd:=21) rfl rfl rfl (y2f (l:=[.tmp 19,.tmp 20]) (f:=z75) (caps:=z7H) ztW rfl (.cons rfl (.cons rfl .nil))) .nil (fun w hw=>ztX w (hz.now hw) z3a z3b z3L  ztZ) ?_
  refine WL.a (d:=17) rfl rfl rfl (q_m rfl) ?_
  refine WL.a (d:=22) rfl rfl rfl (yb rfl rfl) ?_
  refine WL.a (d:=23) rfl rfl rfl (yb rfl rfl) ?_
  refine WL.new (dd:=9) rfl rfl rfl (yh (cs:=[(.int .i64 0),(.int .i64 0)]) yo rfl) ?_
  intro zh4 _
  refine WL.yc rfl rfl (yd (vs:=[(.int .i64 z3L.1.fN),(.int .i64 z3L.1.fD)]) (ds:=[(.int .i64 z3L.1.fN),(.int .i64 z3L.1.fD)]) yl rfl rfl rfl rfl (y3 rfl (y3 rfl yf)) .here (Nat.le_of_ble_eq_true rfl) rfl) ?_
  refine WL.a (d:=10) rfl rfl rfl (q_z rfl) ?_
  refine WL.nil ?_
  refine WX.a ?_
  refine WC.b ?_
  refine WC.b ?_
  refine WC.a ?_
  refine WL.a (d:=24) rfl rfl rfl (q_m rfl) ?_
  refine WL.a (d:=25) rfl rfl rfl (q_m rfl) ?_
  refine WL.a (d:=26) rfl rfl rfl (y4c rfl) ?_
  refine WL.a (d:=27) rfl rfl rfl (y4 y3c rfl rfl) ?_
  refine WL.yc rfl rfl (yd (vs:=[(.int .i64 z3L.2)]) (ds:=[(.int .i64 z3L.2)]) y8o rfl rfl rfl rfl (y3 rfl yf) .h4 (Nat.le_of_ble_eq_true rfl) rfl) ?_
  refine WL.nil ?_
  refine WX.a ?_
  refine WC.b ?_
  refine WC.a ?_
  refine WL.a (d:=28) rfl rfl rfl (q_m rfl) ?_
  refine WL.a (d:=29) rfl rfl rfl (y2L rfl rfl) ?_
  refine WL.nil ?_
  refine WX.a ?_
  refine WC.cond rfl (fun zkf=>?_) (fun zkf=>?_)
  ·replace h:=yj h zkf
   refine WC.b ?_
   obtain ⟨zco,zu0,h⟩:=zb h
   refine WC.a ?_
   refine WL.b (dd:=30) rfl rfl rfl (zl (l:=[]) Try.call51 .nil) (.nil : Sel [stb z4q 98 [(.int .i64 z3L.2)],stb zh4 30 [(.int .i64 z3L.1.fN),(.int .i64 z3L.1.fD)],stb zbf 30 [(.int .i64 0),(.int .i64 0)],stb zbe 30 [(.int .i64 z3b.fN),(.int .i64 z3b.fD)],stb zbd 30 [(.int .i64 z3a.fN),(.int .i64 z3a.fD)]] [] [stb z4q 98 [(.int .i64 z3L.2)],stb zh4 30 [(.int .i64 z3L.1.fN),(.int .i64 z3L.1.fD)],stb zbf 30 [(.int .i64 0),(.int .i64 0)],stb zbe 30 [(.int .i64 z3b.fN),(.int .i64 z3b.fD)],stb zbd 30 [(.int .i64 z3a.fN),(.int .i64 z3a.fD)]]) (fun w hw=>by have pz:=(hz.call hw (.nil : Sel [stb z4q 98 [(.int .i64 z3L.2)],stb zh4 30 [(.int .i64 z3L.1.fN),(.int .i64 z3L.1.fD)],stb zbf 30 [(.int .i64 0),(.int .i64 0)],stb zbe 30 [(.int .i64 z3b.fN),(.int .i64 z3b.fD)],stb zbd 30 [(.int .i64 z3a.fN),(.int .i64 z3a.fD)]] [] [stb z4q 98 [(.int .i64 z3L.2)],stb zh4 30 [(.int .i64 z3L.1.fN),(.int .i64 z3L.1.fD)],stb zbf 30 [(.int .i64 0),(.int .i64 0)],stb zbe 30 [(.int .i64 z3b.fN),(.int .i64 z3b.fD)],stb zbd 30 [(.int .i64 z3a.fN),(.int .i64 z3a.fD)]])); exact y2v (Z:=_)   (r:=zco) w pz  zu0) ?_
   refine WL.yc rfl rfl (yd (vs:=[(.int .i64 zco.fN),(.int .i64 zco.fD)]) (ds:=[(.int .i64 zco.fN),(.int .i64 zco.fD)]) yl rfl rfl rfl rfl (y3 rfl (y3 rfl yf)) .h2 (Nat.le_of_ble_eq_true rfl) rfl) ?_
   refine WL.nil ?_
   refine WX.a ?_
   refine WC.ret ?_
   refine WX.y8 ?_
   obtain rfl:=Option.some.inj h
   refine WX.y9 Try.results33 (.agg rfl y5 rfl (y7 .here) .nil) (fun w hw=>?_)
   exact ⟨yI rfl,hw.sub (.cons .h1 .nil)⟩
  ·replace h:=yk h zkf
   refine WC.skip ?_
   refine WX.a ?_
   refine WC.b ?_
   refine WC.a ?_
   refine WL.a (d:=31) rfl rfl rfl (y6 (cs:=[(.int .i64 z3L.1.fN),(.int .i64 z3L.1.fD)]) y5 rfl rfl (y7 .h1)) ?_
   refine WL.yc rfl rfl (yd (vs:=[(.int .i64 z3L.1.fN),(.int .i64 z3L.1.fD)]) (ds:=[(.int .i64 z3L.1.fN),(.int .i64 z3L.1.fD)]) yl rfl rfl rfl rfl (y3 rfl (y3 rfl yf)) .h2 (Nat.le_of_ble_eq_true rfl) rfl) ?_
   refine WL.nil ?_
   refine WX.a ?_
   refine WC.ret ?_
   obtain rfl:=Option.some.inj h
   refine WX.y9 Try.results33 (.agg rfl y5 rfl (y7 .here) .nil) (fun w hw=>?_)
   exact ⟨yI rfl,hw.sub (.cons .h1 .nil)⟩
def yZ (z21 : List (List z1)) (zan : Int → Int → Int → Option Int) : Nat → Int → Int → Int → Int → Option Int
 | 0,_,_,_,_=>none
 | zkg + 1,z68,z4d,z40,z41=>if decide (z68 < ((z21.length : Nat) : Int)) then chk ((0 : Int) ≤ z68 ∧ z68 < ((z21.length : Nat) : Int)) ((y1f (nth z21 z68)).bind fun z4M=>if decide (z4M.2 ≠ 0) then some z4M.2 else (y1m (nth z21 z68)).bind fun z5k=>(y12 (⟨z4d⟩ : z2y) (fun (y0 : z2) (y1 : z2)=>y15 y0 y1) (⟨z40,z41⟩ : z2) z5k.1).bind fun z8k=>yZ z21 zan zkg (i64 (z68 + 1)) z8k.2.fE z8k.1.fN z8k.1.fD) else zan z4d z40 z41
theorem y4P {n : Nat} {z21 : List (List z1)} {zan : Int → Int → Int → Option Int} {z68 : Int} {z4d : Int} {z40 : Int} {z41 : Int} {r : Int} (h : yZ z21 zan n z68 z4d z40 z41 = some r) : ∃ m,n = m + 1:=by
 cases n with
 | zero=>cases h
 | succ m=>exact ⟨m,rfl⟩
def y2b (z21 : List (List z1)) (zn : zSv) (zfd : List (List z1)) (zcp : zSv) (z2H : List z2) : Option Int :=
 (if decide (((z21.length : Nat) : Int) > 32) then some true else (yP z21 (fun (y0 : List z1)=>yB y0)).bind fun zkh=>some zkh).bind fun zh5=>(if zh5 then some true else (y2K zn).bind fun zki=>some (!zki)).bind fun zkj=>if zkj then some 2 else (y1L).bind fun z9s=>jp3 (fun (z7h : Int) (z7i : Int) (z7j : Int)=>(if decide (z7h = 0) then (yO (⟨z7i,z7j⟩ : z2) zn.fR).bind fun zkk=>some (decide (zkk > 0)) else some false).bind fun zkl=>if zkl then some 6 else some z7h) fun zan=>yZ z21 zan yw 0 0 z9s.fN z9s.fD
set_option maxRecDepth 20000 in
theorem y6p (Z : Zp)  (z2I : Option Addr) (z2J : Nat) (z2U : Addr) (zkm : Option Addr) (zkn : Nat) (z2V : Addr) (z2W : Option Addr) (z2X : Nat) (z21 : List (List z1)) (zn : zSv) (zfd : List (List z1)) (zcp : zSv) (z2H : List z2) (r : Int) (w₀ : World) (hz : PZ [] w₀ Z)
  (zoN : ZS Z 1 (p39 Z) z2I z2J z21)
  (zA4 : ZS Z 1 (p39 Z) zkm zkn zfd)
  (zA5 : ZC Z z2U [(.slice zkm zfd.length zkn)])
  (zA6 : ZC Z z2V [(.int .i64 zcp.fR.fN),(.int .i64 zcp.fR.fD),(.int .i64 zcp.fLatency.fN),(.int .i64 zcp.fLatency.fD)])
  (zA7 : ZS Z 2 (fun r x=>r = e30 x) z2W z2X z2H)
  (h : y2b z21 zn zfd zcp z2H = some r) :
  Calls Try.prog 52 #[(.agg #[(.slice z2I z21.length z2J),(.int .i64 zn.fR.fN),(.int .i64 zn.fR.fD),(.int .i64 zn.fLatency.fN),(.int .i64 zn.fLatency.fD),(.func (.func 32) #[] #[(.pointer (some z2U)),(.pointer (some z2V))]),(.slice z2W z2H.length z2X)])] w₀ fun e w'=>∃ Zn : Zp,e = .returned (.int .i64 r) ∧ True ∧ Hp [] w₀ w' [fz Zn]:=by
 unfold y2b at h
 refine Calls.yg (vs:=[(.agg #[(.slice z2I z21.length z2J),(.int .i64 zn.fR.fN),(.int .i64 zn.fR.fD),(.int .i64 zn.fLatency.fN),(.int .i64 zn.fLatency.fD),(.func (.func 32) #[] #[(.pointer (some z2U)),(.pointer (some z2V))]),(.slice z2W z2H.length z2X)])]) (pre:=[]) (env:=[(0,(.agg #[(.slice z2I z21.length z2J),(.int .i64 zn.fR.fN),(.int .i64 zn.fR.fD),(.int .i64 zn.fLatency.fN),(.int .i64 zn.fLatency.fD),(.func (.func 32) #[] #[(.pointer (some z2U)),(.pointer (some z2V))]),(.slice z2W z2H.length z2X)]))]) Try.func52 rfl Try.ntmps52 rfl (Hp.nil w₀ _) rfl ?_
 refine WC.pool ?_
 refine WC.b ?_
 refine WC.a ?_
 refine WL.new (dd:=1) rfl rfl rfl (yK (cs:=[(.slice z2I z21.length z2J),(.int .i64 zn.fR.fN),(.int .i64 zn.fR.fD),(.int .i64 zn.fLatency.fN),(.int .i64 zn.fLatency.fD),(.func (.func 32) #[] #[(.pointer (some z2U)),(.pointer (some z2V))]),(.slice z2W z2H.length z2X)]) rfl rfl) ?_
 intro z3c _
 refine WL.a (d:=2) rfl rfl rfl (q_z rfl) ?_
 refine WL.nil ?_
 refine WX.a ?_
 refine WC.b ?_
 refine WC.b ?_
 obtain ⟨zh5,zoO,h⟩:=zb h
 obtain ⟨zkj,zoP,h⟩:=zb h
 refine WC.a ?_
 refine WL.a (d:=11) rfl rfl rfl (y4 y4I rfl rfl) ?_
 refine WL.a (d:=12) rfl rfl rfl (ye y3a rfl (yu .here rfl)) ?_
 refine WL.a (d:=13) rfl rfl rfl (y1k Try.underlying26 rfl) ?_
 refine WL.a (d:=14) rfl rfl rfl (y3f rfl rfl) ?_
 refine WL.a (d:=15) rfl rfl rfl (q_m rfl) ?_
 refine WL.yF True [(1,(.pointer (some ⟨z3c,0,none⟩))),(19,(.bool zh5))] [stb z3c 79 [(.slice z2I z21.length z2J),(.int .i64 zn.fR.fN),(.int .i64 zn.fR.fD),(.int .i64 zn.fLatency.fN),(.int .i64 zn.fLatency.fD),(.func (.func 32) #[] #[(.pointer (some z2U)),(.pointer (some z2V))]),(.slice z2W z2H.length z2X)],fz []] 4 ?_ (fun _=>?_)
 ·rcases Bool.eq_false_or_eq_true (decide (((z21.length : Nat) : Int) > 32)) with hb' | hb'
  ·have zoQ:=hb'; clear hb'
   have zko:=yj zoO zoQ
   replace zko:=Option.some.inj zko
   refine WL.pin (i:=15) rfl zoQ ?_
   refine WL.e rfl rfl rfl ?_
   refine WL.e rfl rfl rfl ?_
   refine WL.e rfl rfl rfl ?_
   refine WL.a (d:=19) rfl rfl rfl (ys rfl rfl) ?_
   exact WL.ya () trivial (.cons rfl (.cons (zt zko) .nil)) (.cons .here (.cons .here .nil))
  ·have zoR:=hb'; clear hb'
   have zfe:=yk zoO zoR
   obtain ⟨zkh,zu1,zfe⟩:=zb zfe
   replace zfe:=Option.some.inj zfe
   refine WL.pin (i:=15) rfl zoR ?_
   refine WL.a (d:=16) rfl rfl rfl (y4 y4I rfl rfl) ?_
   refine WL.a (d:=17) rfl rfl rfl (ye y3a rfl (yu .here rfl)) ?_
   refine WL.b (dd:=18) rfl rfl rfl (zl (l:=[.tmp 17,.func 67]) Try.call66 (.cons rfl (.cons rfl .nil))) (.nil : Sel [stb z3c 79 [(.slice z2I z21.length z2J),(.int .i64 zn.fR.fN),(.int .i64 zn.fR.fD),(.int .i64 zn.fLatency.fN),(.int .i64 zn.fLatency.fD),(.func (.func 32) #[] #[(.pointer (some z2U)),(.pointer (some z2V))]),(.slice z2W z2H.length z2X)],fz []] [] [stb z3c 79 [(.slice z2I z21.length z2J),(.int .i64 zn.fR.fN),(.int .i64 zn.fR.fD),(.int .i64 zn.fLatency.fN),(.int .i64 zn.fLatency.fD),(.func (.func 32) #[] #[(.pointer (some z2U)),(.pointer (some z2V))]),(.slice z2W z2H.length z2X)],fz []]) (fun w hw=>by have pz:=(hz.call2 hw (.nil : Sel [stb z3c 79 [(.slice z2I z21.length z2J),(.int .i64 zn.fR.fN),(.int .i64 zn.fR.fD),(.int .i64 zn.fLatency.fN),(.int .i64 zn.fLatency.fD),(.func (.func 32) #[] #[(.pointer (some z2U)),(.pointer (some z2V))]),(.slice z2W z2H.length z2X)],fz []] [] [stb z3c 79 [(.slice z2I z21.length z2J),(.int .i64 zn.fR.fN),(.int .i64 zn.fR.fD),(.int .i64 zn.fLatency.fN),(.int .i64 zn.fLatency.fD),(.func (.func 32) #[] #[(.pointer (some z2U)),(.pointer (some z2V))]),(.slice z2W z2H.length z2X)],fz []]) .h1); exact y2t (Z:=_) (zbZ:=z2I) (zc0:=z2J) (za0:=67) (zc1:=[]) (z9g:=z21) (zbY:=(fun (y0 : List z1)=>yB y0)) (r:=zkh) w pz ((zoN.mono (Zle.left _ _)).weak (fun _ _ h=>yG (Zle.left _ _) h)) Try.call67 (fun w' hz' y0 ga0 gc0 r gh0 hr=>y45 (Z:=_) (zbV:=ga0) (zbW:=gc0) (z9f:=y0) (r:=r) w' hz' gh0 hr) zu1) ?_
   refine WL.a (d:=19) rfl rfl rfl (yr rfl rfl) ?_
   exact WL.ya () trivial (.cons rfl (.cons (zt zfe) .nil)) (.cons .here (.cons .here .nil))
 ·skip
  refine WL.a (d:=20) rfl rfl rfl (q_m rfl) ?_
  refine WL.yF True [(1,(.pointer (some ⟨z3c,0,none⟩))),(25,(.bool zkj))] [stb z3c 79 [(.slice z2I z21.length z2J),(.int .i64 zn.fR.fN),(.int .i64 zn.fR.fD),(.int .i64 zn.fLatency.fN),(.int .i64 zn.fLatency.fD),(.func (.func 32) #[] #[(.pointer (some z2U)),(.pointer (some z2V))]),(.slice z2W z2H.length z2X)],fz []] 5 ?_ (fun _=>?_)
  ·rcases Bool.eq_false_or_eq_true zh5 with hb' | hb'
   ·have zoS:=hb'; clear hb'
    have zkp:=yj zoP zoS
    replace zkp:=Option.some.inj zkp
    refine WL.pin (i:=20) rfl zoS ?_
    refine WL.e rfl rfl rfl ?_
    refine WL.e rfl rfl rfl ?_
    refine WL.e rfl rfl rfl ?_
    refine WL.e rfl rfl rfl ?_
    refine WL.a (d:=25) rfl rfl rfl (ys rfl rfl) ?_
    exact WL.ya () trivial (.cons rfl (.cons (zt zkp) .nil)) (.cons .here (.cons .here .nil))
   ·have zoT:=hb'; clear hb'
    have zff:=yk zoP zoT
    obtain ⟨zki,zu2,zff⟩:=zb zff
    replace zff:=Option.some.inj zff
    refine WL.pin (i:=20) rfl zoT ?_
    refine WL.a (d:=21) rfl rfl rfl (y4 y7F rfl rfl) ?_
    refine WL.a (d:=22) rfl rfl rfl (y6 (cs:=[(.int .i64 zn.fR.fN),(.int .i64 zn.fR.fD),(.int .i64 zn.fLatency.fN),(.int .i64 zn.fLatency.fD)]) y4h rfl rfl (y1T (s:=4) .here rfl)) ?_
    refine WL.b (dd:=23) rfl rfl rfl (zl (l:=[.tmp 22]) Try.call47 (.cons rfl .nil)) (.nil : Sel [stb z3c 79 [(.slice z2I z21.length z2J),(.int .i64 zn.fR.fN),(.int .i64 zn.fR.fD),(.int .i64 zn.fLatency.fN),(.int .i64 zn.fLatency.fD),(.func (.func 32) #[] #[(.pointer (some z2U)),(.pointer (some z2V))]),(.slice z2W z2H.length z2X)],fz []] [] [stb z3c 79 [(.slice z2I z21.length z2J),(.int .i64 zn.fR.fN),(.int .i64 zn.fR.fD),(.int .i64 zn.fLatency.fN),(.int .i64 zn.fLatency.fD),(.func (.func 32) #[] #[(.pointer (some z2U)),(.pointer (some z2V))]),(.slice z2W z2H.length z2X)],fz []]) (fun w hw=>by have pz:=(hz.call2 hw (.nil : Sel [stb z3c 79 [(.slice z2I z21.length z2J),(.int .i64 zn.fR.fN),(.int .i64 zn.fR.fD),(.int .i64 zn.fLatency.fN),(.int .i64 zn.fLatency.fD),(.func (.func 32) #[] #[(.pointer (some z2U)),(.pointer (some z2V))]),(.slice z2W z2H.length z2X)],fz []] [] [stb z3c 79 [(.slice z2I z21.length z2J),(.int .i64 zn.fR.fN),(.int .i64 zn.fR.fD),(.int .i64 zn.fLatency.fN),(.int .i64 zn.fLatency.fD),(.func (.func 32) #[] #[(.pointer (some z2U)),(.pointer (some z2V))]),(.slice z2W z2H.length z2X)],fz []]) .h1); exact y6c (Z:=_)  (z1e:=zn) (r:=zki) w pz  zu2) ?_
    refine WL.a (d:=24) rfl rfl rfl (y1n rfl) ?_
    refine WL.a (d:=25) rfl rfl rfl (yr rfl rfl) ?_
    exact WL.ya () trivial (.cons rfl (.cons (zt zff) .nil)) (.cons .here (.cons .here .nil))
  ·skip
   refine WL.nil ?_
   refine WX.a ?_
   refine WC.cond rfl (fun zkq=>?_) (fun zkq=>?_)
   ·replace h:=yj h zkq
    refine WC.b ?_
    refine WC.a ?_
    refine WL.a (d:=2) rfl rfl rfl (q_z rfl) ?_
    refine WL.nil ?_
    refine WX.a ?_
    refine WC.ret ?_
    refine WX.y8 ?_
    obtain rfl:=Option.some.inj h
    refine WX.y9 Try.results52 (.tmp rfl .nil) (fun w hw=>?_)
    exact ⟨[],yI rfl,trivial,hw.sub (.cons .h1 .nil)⟩
   ·replace h:=yk h zkq
    refine WC.skip ?_
    refine WX.a ?_
    refine WC.b ?_
    refine WC.a ?_
    refine WL.new (dd:=3) rfl rfl rfl (yh (cs:=[(.int .i64 0)]) y6Y rfl) ?_
    intro z3U _
    refine WL.nil ?_
    refine WX.a ?_
    refine WC.b ?_
    obtain ⟨z9s,zu3,h⟩:=zb h
    refine WC.a ?_
    refine WL.b (dd:=26) rfl rfl rfl (zl (l:=[]) Try.call51 .nil) (.nil : Sel [stb z3U 98 [(.int .i64 0)],stb z3c 79 [(.slice z2I z21.length z2J),(.int .i64 zn.fR.fN),(.int .i64 zn.fR.fD),(.int .i64 zn.fLatency.fN),(.int .i64 zn.fLatency.fD),(.func (.func 32) #[] #[(.pointer (some z2U)),(.pointer (some z2V))]),(.slice z2W z2H.length z2X)],fz []] [] [stb z3U 98 [(.int .i64 0)],stb z3c 79 [(.slice z2I z21.length z2J),(.int .i64 zn.fR.fN),(.int .i64 zn.fR.fD),(.int .i64 zn.fLatency.fN),(.int .i64 zn.fLatency.fD),(.func (.func 32) #[] #[(.pointer (some z2U)),(.pointer (some z2V))]),(.slice z2W z2H.length z2X)],fz []]) (fun w hw=>by have pz:=(hz.call2 hw (.nil : Sel [stb z3U 98 [(.int .i64 0)],stb z3c 79 [(.slice z2I z21.length z2J),(.int .i64 zn.fR.fN),(.int .i64 zn.fR.fD),(.int .i64 zn.fLatency.fN),(.int .i64 zn.fLatency.fD),(.func (.func 32) #[] #[(.pointer (some z2U)),(.pointer (some z2V))]),(.slice z2W z2H.length z2X)],fz []] [] [stb z3U 98 [(.int .i64 0)],stb z3c 79 [(.slice z2I z21.length z2J),(.int .i64 zn.fR.fN),(.int .i64 zn.fR.fD),(.int .i64 zn.fLatency.fN),(.int .i64 zn.fLatency.fD),(.func (.func 32) #[] #[(.pointer (some z2U)),(.pointer (some z2V))]),(.slice z2W z2H.length z2X)],fz []]) .h2); exact y2v (Z:=_)   (r:=z9s) w pz  zu3) ?_
    refine WL.new (dd:=4) rfl rfl rfl (yh (cs:=[(.int .i64 0),(.int .i64 0)]) yo rfl) ?_
    intro z52 _
    refine WL.yc rfl rfl (yd (vs:=[(.int .i64 z9s.fN),(.int .i64 z9s.fD)]) (ds:=[(.int .i64 z9s.fN),(.int .i64 z9s.fD)]) yl rfl rfl rfl rfl (y3 rfl (y3 rfl yf)) .here (Nat.le_of_ble_eq_true rfl) rfl) ?_
    refine WL.nil ?_
    refine WX.a ?_
    obtain ⟨zan,zu4,h⟩:=y7Q h
    refine WC.y4T (fun (z7h : Int) (z7i : Int) (z7j : Int) (z8l : Zp)=>(zan z7h z7i z7j = some r) ∧ (Zle (Z ++ []) (Z ++ z8l))) (fun (z7h : Int) (z7i : Int) (z7j : Int) (z8l : Zp)=>[(1,(.pointer (some ⟨z3c,0,none⟩))),(3,(.pointer (some ⟨z3U,0,none⟩))),(4,(.pointer (some ⟨z52,0,none⟩)))]) (fun (z7h : Int) (z7i : Int) (z7j : Int) (z8l : Zp)=>[fz z8l,stb z3c 79 [(.slice z2I z21.length z2J),(.int .i64 zn.fR.fN),(.int .i64 zn.fR.fD),(.int .i64 zn.fLatency.fN),(.int .i64 zn.fLatency.fD),(.func (.func 32) #[] #[(.pointer (some z2U)),(.pointer (some z2V))]),(.slice z2W z2H.length z2X)],stb z3U 98 [(.int .i64 z7h)],stb z52 30 [(.int .i64 z7i),(.int .i64 z7j)]]) ?_ ?_
    ·skip
     refine WC.b ?_
     refine WC.a ?_
     refine WL.a (d:=27) rfl rfl rfl (y4 y4I rfl rfl) ?_
     refine WL.a (d:=28) rfl rfl rfl (ye y3a rfl (yu .h2 rfl)) ?_
     refine WL.a (d:=29) rfl rfl rfl (y1k Try.underlying26 rfl) ?_
     refine WL.a (d:=30) rfl rfl rfl (q_m rfl) ?_
     refine WL.nil ?_
     refine WX.a ?_
     refine WC.block ?_
     refine WC.y4B (fun (zdQ : Nat) (z68 : Int) (z4d : Int) (z40 : Int) (z41 : Int) (z4t : Zp)=>(yZ z21 zan zdQ z68 z4d z40 z41 = some r) ∧ (Zle (Z ++ []) (Z ++ z4t))) (fun (zdQ : Nat) (z68 : Int) (z4d : Int) (z40 : Int) (z41 : Int) (z4t : Zp)=>[(1,(.pointer (some ⟨z3c,0,none⟩))),(3,(.pointer (some ⟨z3U,0,none⟩))),(4,(.pointer (some ⟨z52,0,none⟩))),(28,(.slice z2I z21.length z2J)),(29,(.int .i64 ((z21.length : Nat) : Int))),(30,(.int .i64 z68))]) (fun (zdQ : Nat) (z68 : Int) (z4d : Int) (z40 : Int) (z41 : Int) (z4t : Zp)=>[fz z4t,stb z3c 79 [(.slice z2I z21.length z2J),(.int .i64 zn.fR.fN),(.int .i64 zn.fR.fD),(.int .i64 zn.fLatency.fN),(.int .i64 zn.fLatency.fD),(.func (.func 32) #[] #[(.pointer (some z2U)),(.pointer (some z2V))]),(.slice z2W z2H.length z2X)],stb z3U 98 [(.int .i64 z4d)],stb z52 30 [(.int .i64 z40),(.int .i64 z41)]]) (fun (zdQ : Nat) (z68 : Int) (z4d : Int) (z40 : Int) (z41 : Int) (z4t : Zp)=>zdQ) ⟨yw,0,0,z9s.fN,z9s.fD,[]⟩ ⟨h,(Zle.refl _)⟩ (.cons rfl (.cons rfl (.cons rfl (.cons rfl (.cons rfl (.cons rfl .nil)))))) (.cons .h3 (.cons .h2 (.cons .h1 (.cons .here .nil)))) ?_
     rintro zdQ z68 z4d z40 z41 z4t ⟨h,zh6⟩
     obtain ⟨zkg,rfl⟩:=y4P h
     rw [yZ] at h
     refine WC.b ?_
     refine WC.a ?_
     refine WL.a (d:=31) rfl rfl rfl (y1h rfl rfl) ?_
     refine WL.nil ?_
     refine WX.a ?_
     refine WC.b ?_
     refine WC.cond rfl (fun zkr=>?_) (fun zkr=>?_)
     ·replace h:=yj h zkr
      refine WC.skip ?_
      refine WX.a ?_
      refine WC.b ?_
      refine WC.block ?_
      refine WC.b ?_
      obtain ⟨zu5,h⟩:=yp h
      refine WC.a ?_
      refine WL.znth (dd:=32) rfl rfl (Z:=(Z ++ z4t)) (Pr:=(p39 (Z ++ z4t))) y32 rfl rfl ((zoN.mono ((Zle.left _ _).trans zh6)).weak (fun _ _ h=>yG ((Zle.left _ _).trans zh6) h)) zu5 ?_
      rintro zA8 zA9 zu6 zAa ⟨zoU,zoV,rfl,zoW⟩
      refine WL.a (d:=33) rfl rfl rfl (ye y3b rfl (y3Z (hz.pv2 .here) zu6 rfl)) ?_
      refine WL.a (d:=6) rfl rfl rfl (q_z rfl) ?_
      refine WL.nil ?_
      refine WX.a ?_
      refine WC.b ?_
      refine WC.b ?_
      obtain ⟨z4M,zu7,h⟩:=zb h
      refine WC.a ?_
      refine WL.a (d:=35) rfl rfl rfl (q_m rfl) ?_
      refine WL.y6t (dd:=36) rfl rfl rfl (zl (l:=[.tmp 35]) Try.call68 (.cons rfl .nil)) (.nil : Sel [fz z4t,stb z3c 79 [(.slice z2I z21.length z2J),(.int .i64 zn.fR.fN),(.int .i64 zn.fR.fD),(.int .i64 zn.fLatency.fN),(.int .i64 zn.fLatency.fD),(.func (.func 32) #[] #[(.pointer (some z2U)),(.pointer (some z2V))]),(.slice z2W z2H.length z2X)],stb z3U 98 [(.int .i64 z4d)],stb z52 30 [(.int .i64 z40),(.int .i64 z41)]] [] [fz z4t,stb z3c 79 [(.slice z2I z21.length z2J),(.int .i64 zn.fR.fN),(.int .i64 zn.fR.fD),(.int .i64 zn.fLatency.fN),(.int .i64 zn.fLatency.fD),(.func (.func 32) #[] #[(.pointer (some z2U)),(.pointer (some z2V))]),(.slice z2W z2H.length z2X)],stb z3U 98 [(.int .i64 z4d)],stb z52 30 [(.int .i64 z40),(.int .i64 z41)]]) (fun w hw=>by have pz:=(hz.call2 hw (.nil : Sel [fz z4t,stb z3c 79 [(.slice z2I z21.length z2J),(.int .i64 zn.fR.fN),(.int .i64 zn.fR.fD),(.int .i64 zn.fLatency.fN),(.int .i64 zn.fLatency.fD),(.func (.func 32) #[] #[(.pointer (some z2U)),(.pointer (some z2V))]),(.slice z2W z2H.length z2X)],stb z3U 98 [(.int .i64 z4d)],stb z52 30 [(.int .i64 z40),(.int .i64 z41)]] [] [fz z4t,stb z3c 79 [(.slice z2I z21.length z2J),(.int .i64 zn.fR.fN),(.int .i64 zn.fR.fD),(.int .i64 zn.fLatency.fN),(.int .i64 zn.fLatency.fD),(.func (.func 32) #[] #[(.pointer (some z2U)),(.pointer (some z2V))]),(.slice z2W z2H.length z2X)],stb z3U 98 [(.int .i64 z4d)],stb z52 30 [(.int .i64 z40),(.int .i64 z41)]]) .here); exact y4j (Z:=_) (z9n:=zoU) (z9o:=zoV) (z7E:=(nth z21 z68)) (r:=z4M) w pz zoW zu7) ?_
      rintro z8m z9t z9u _
      refine WL.merge .here .h1 ?_
      refine WL.a (d:=34) rfl rfl rfl (q_m rfl) ?_
      refine WL.a (d:=37) rfl rfl rfl (yb rfl rfl) ?_
      refine WL.a (d:=38) rfl rfl rfl (yb rfl rfl) ?_
      refine WL.a (d:=7) rfl rfl rfl (q_z rfl) ?_
      refine WL.a (d:=8) rfl rfl rfl (q_z rfl) ?_
      refine WL.nil ?_
      refine WX.a ?_
      refine WC.b ?_
      refine WC.a ?_
      refine WL.a (d:=39) rfl rfl rfl (q_m rfl) ?_
      refine WL.a (d:=40) rfl rfl rfl (y2L rfl rfl) ?_
      refine WL.nil ?_
      refine WX.a ?_
      refine WC.cond rfl (fun zks=>?_) (fun zks=>?_)
      ·replace h:=yj h zks
       refine WC.b ?_
       refine WC.a ?_
       refine WL.a (d:=41) rfl rfl rfl (q_m rfl) ?_
       refine WL.a (d:=2) rfl rfl rfl (q_z rfl) ?_
       refine WL.nil ?_
       refine WX.a ?_
       refine WC.ret ?_
       refine WX.y8 ?_
       refine WX.yt ?_
       refine WX.y8 ?_
       refine WX.y8 ?_
       refine WX.yt ?_
       refine WX.y8 ?_
       obtain rfl:=Option.some.inj h
       refine WX.y9 Try.results52 (.tmp rfl .nil) (fun w hw=>?_)
       exact ⟨(z4t ++ z8m),yI rfl,trivial,hw.sub (.cons .here .nil)⟩
      ·replace h:=yk h zks
       refine WC.skip ?_
       refine WX.a ?_
       refine WC.b ?_
       obtain ⟨z5k,zu8,h⟩:=zb h
       refine WC.a ?_
       refine WL.a (d:=43) rfl rfl rfl (q_m rfl) ?_
       refine WL.b (dd:=44) rfl rfl rfl (zl (l:=[.tmp 43]) Try.call21 (.cons rfl .nil)) (.nil : Sel [fz (z4t ++ z8m),row (.slice z9t z4M.1.length z9u) 30 2 (z4M.1.flatMap e30),stb z3c 79 [(.slice z2I z21.length z2J),(.int .i64 zn.fR.fN),(.int .i64 zn.fR.fD),(.int .i64 zn.fLatency.fN),(.int .i64 zn.fLatency.fD),(.func (.func 32) #[] #[(.pointer (some z2U)),(.pointer (some z2V))]),(.slice z2W z2H.length z2X)],stb z3U 98 [(.int .i64 z4d)],stb z52 30 [(.int .i64 z40),(.int .i64 z41)]] [] [fz (z4t ++ z8m),row (.slice z9t z4M.1.length z9u) 30 2 (z4M.1.flatMap e30),stb z3c 79 [(.slice z2I z21.length z2J),(.int .i64 zn.fR.fN),(.int .i64 zn.fR.fD),(.int .i64 zn.fLatency.fN),(.int .i64 zn.fLatency.fD),(.func (.func 32) #[] #[(.pointer (some z2U)),(.pointer (some z2V))]),(.slice z2W z2H.length z2X)],stb z3U 98 [(.int .i64 z4d)],stb z52 30 [(.int .i64 z40),(.int .i64 z41)]]) (fun w hw=>by have pz:=(hz.call2 hw (.nil : Sel [fz (z4t ++ z8m),row (.slice z9t z4M.1.length z9u) 30 2 (z4M.1.flatMap e30),stb z3c 79 [(.slice z2I z21.length z2J),(.int .i64 zn.fR.fN),(.int .i64 zn.fR.fD),(.int .i64 zn.fLatency.fN),(.int .i64 zn.fLatency.fD),(.func (.func 32) #[] #[(.pointer (some z2U)),(.pointer (some z2V))]),(.slice z2W z2H.length z2X)],stb z3U 98 [(.int .i64 z4d)],stb z52 30 [(.int .i64 z40),(.int .i64 z41)]] [] [fz (z4t ++ z8m),row (.slice z9t z4M.1.length z9u) 30 2 (z4M.1.flatMap e30),stb z3c 79 [(.slice z2I z21.length z2J),(.int .i64 zn.fR.fN),(.int .i64 zn.fR.fD),(.int .i64 zn.fLatency.fN),(.int .i64 zn.fLatency.fD),(.func (.func 32) #[] #[(.pointer (some z2U)),(.pointer (some z2V))]),(.slice z2W z2H.length z2X)],stb z3U 98 [(.int .i64 z4d)],stb z52 30 [(.int .i64 z40),(.int .i64 z41)]]) .here); exact y4V (Z:=_) (z9q:=zoU) (z9r:=zoV) (z7F:=(nth z21 z68)) (r:=z5k) w pz (zoW.mono ((Zle.left _ _).trans (Zle.yi _ _ _))) zu8) ?_
       refine WL.a (d:=42) rfl rfl rfl (q_m rfl) ?_
       refine WL.a (d:=45) rfl rfl rfl (yb rfl rfl) ?_
       refine WL.a (d:=46) rfl rfl rfl (yb rfl rfl) ?_
       refine WL.new (dd:=9) rfl rfl rfl (yh (cs:=[(.int .i64 0),(.int .i64 0)]) yo rfl) ?_
       intro zdR _
       refine WL.yc rfl rfl (yd (vs:=[(.int .i64 z5k.1.fN),(.int .i64 z5k.1.fD)]) (ds:=[(.int .i64 z5k.1.fN),(.int .i64 z5k.1.fD)]) yl rfl rfl rfl rfl (y3 rfl (y3 rfl yf)) .here (Nat.le_of_ble_eq_true rfl) rfl) ?_
       refine WL.a (d:=10) rfl rfl rfl (q_z rfl) ?_
       refine WL.nil ?_
       refine WX.a ?_
       obtain ⟨z8k,zu9,h⟩:=zb h
       refine WC.a ?_
       refine WL.a (d:=47) rfl rfl rfl (y6 (cs:=[(.int .i64 z40),(.int .i64 z41)]) y5 rfl rfl (y7 .h5)) ?_
       refine WL.a (d:=48) rfl rfl rfl (y6 (cs:=[(.int .i64 z5k.1.fN),(.int .i64 z5k.1.fD)]) y5 rfl rfl (y7 .here)) ?_
       refine WL.b (dd:=49) rfl rfl rfl (zl (l:=[.tmp 3,.func 19,.tmp 47,.tmp 48]) Try.call33 (.cons rfl (.cons rfl (.cons rfl (.cons rfl .nil))))) ((.cons .h4 .nil) : Sel [stb zdR 30 [(.int .i64 z5k.1.fN),(.int .i64 z5k.1.fD)],fz (z4t ++ z8m),row (.slice z9t z4M.1.length z9u) 30 2 (z4M.1.flatMap e30),stb z3c 79 [(.slice z2I z21.length z2J),(.int .i64 zn.fR.fN),(.int .i64 zn.fR.fD),(.int .i64 zn.fLatency.fN),(.int .i64 zn.fLatency.fD),(.func (.func 32) #[] #[(.pointer (some z2U)),(.pointer (some z2V))]),(.slice z2W z2H.length z2X)],stb z3U 98 [(.int .i64 z4d)],stb z52 30 [(.int .i64 z40),(.int .i64 z41)]] [stb z3U 98 [(.int .i64 z4d)]] [stb zdR 30 [(.int .i64 z5k.1.fN),(.int .i64 z5k.1.fD)],fz (z4t ++ z8m),row (.slice z9t z4M.1.length z9u) 30 2 (z4M.1.flatMap e30),stb z3c 79 [(.slice z2I z21.length z2J),(.int .i64 zn.fR.fN),(.int .i64 zn.fR.fD),(.int .i64 zn.fLatency.fN),(.int .i64 zn.fLatency.fD),(.func (.func 32) #[] #[(.pointer (some z2U)),(.pointer (some z2V))]),(.slice z2W z2H.length z2X)],stb z52 30 [(.int .i64 z40),(.int .i64 z41)]]) (fun w hw=>by have pz:=(hz.call2 hw ((.cons .h4 .nil) : Sel [stb zdR 30 [(.int .i64 z5k.1.fN),(.int .i64 z5k.1.fD)],fz (z4t ++ z8m),row (.slice z9t z4M.1.length z9u) 30 2 (z4M.1.flatMap e30),stb z3c 79 [(.slice z2I z21.length z2J),(.int .i64 zn.fR.fN),(.int .i64 zn.fR.fD),(.int .i64 zn.fLatency.fN),(.int .i64 zn.fLatency.fD),(.func (.func 32) #[] #[(.pointer (some z2U)),(.pointer (some z2V))]),(.slice z2W z2H.length z2X)],stb z3U 98 [(.int .i64 z4d)],stb z52 30 [(.int .i64 z40),(.int .i64 z41)]] [stb z3U 98 [(.int .i64 z4d)]] [stb zdR 30 [(.int .i64 z5k.1.fN),(.int .i64 z5k.1.fD)],fz (z4t ++ z8m),row (.slice z9t z4M.1.length z9u) 30 2 (z4M.1.flatMap e30),stb z3c 79 [(.slice z2I z21.length z2J),(.int .i64 zn.fR.fN),(.int .i64 zn.fR.fD),(.int .i64 zn.fLatency.fN),(.int .i64 zn.fLatency.fD),(.func (.func 32) #[] #[(.pointer (some z2U)),(.pointer (some z2V))]),(.slice z2W z2H.length z2X)],stb z52 30 [(.int .i64 z40),(.int .i64 z41)]]) .h1); exact y1E (Z:=_) (z4q:=z3U) (z75:=19) (z7H:=[]) (z5j:=(⟨z4d⟩ : z2y)) (z7X:=(fun (y0 : z2) (y1 : z2)=>y15 y0 y1)) (z3a:=(⟨z40,z41⟩ : z2)) (z3b:=z5k.1) (r:=z8k) w pz Try.call19 (fun w' hz' y0 y1  r  hr=>y3n (Z:=_)  (z3F:=y0) (z3G:=y1) (r:=r) w' hz'  hr) zu9 (hw.owns ((.cons .h4 .nil) : Sel [stb zdR 30 [(.int .i64 z5k.1.fN),(.int .i64 z5k.1.fD)],fz (z4t ++ z8m),row (.slice z9t z4M.1.length z9u) 30 2 (z4M.1.flatMap e30),stb z3c 79 [(.slice z2I z21.length z2J),(.int .i64 zn.fR.fN),(.int .i64 zn.fR.fD),(.int .i64 zn.fLatency.fN),(.int .i64 zn.fLatency.fD),(.func (.func 32) #[] #[(.pointer (some z2U)),(.pointer (some z2V))]),(.slice z2W z2H.length z2X)],stb z3U 98 [(.int .i64 z4d)],stb z52 30 [(.int .i64 z40),(.int .i64 z41)]] [stb z3U 98 [(.int .i64 z4d)]] [stb zdR 30 [(.int .i64 z5k.1.fN),(.int .i64 z5k.1.fD)],fz (z4t ++ z8m),row (.slice z9t z4M.1.length z9u) 30 2 (z4M.1.flatMap e30),stb z3c 79 [(.slice z2I z21.length z2J),(.int .i64 zn.fR.fN),(.int .i64 zn.fR.fD),(.int .i64 zn.fLatency.fN),(.int .i64 zn.fLatency.fD),(.func (.func 32) #[] #[(.pointer (some z2U)),(.pointer (some z2V))]),(.slice z2W z2H.length z2X)],stb z52 30 [(.int .i64 z40),(.int .i64 z41)]]))) ?_
       refine WL.yc rfl rfl (yd (vs:=[(.int .i64 z8k.1.fN),(.int .i64 z8k.1.fD)]) (ds:=[(.int .i64 z8k.1.fN),(.int .i64 z8k.1.fD)]) yl rfl rfl rfl rfl (y3 rfl (y3 rfl yf)) .h5 (Nat.le_of_ble_eq_true rfl) rfl) ?_
       refine WL.nil ?_
       refine WX.yn ?_
       refine WX.a ?_
       refine WC.a ?_
       refine WL.a (d:=50) rfl rfl rfl (y1d rfl rfl rfl) ?_
       refine WL.a (d:=30) rfl rfl rfl (q_m rfl) ?_
       refine WL.nil ?_
       exact WX.round (G:=Nat × Int × Int × Int × Int × Zp) ⟨zkg,(i64 (z68 + 1)),z8k.2.fE,z8k.1.fN,z8k.1.fD,(z4t ++ z8m)⟩ ⟨h,(zh6.trans ((Zle.left _ _).trans (Zle.yi _ _ _)))⟩ (Nat.lt_succ_self _) (.cons rfl (.cons rfl (.cons rfl (.cons rfl (.cons rfl (.cons rfl .nil)))))) (.cons .h3 (.cons .h4 (.cons .h1 (.cons .here .nil))))
     ·replace h:=yk h zkr
      refine WC.exit ?_
      refine WX.ym ?_
      refine WX.ym ?_
      refine WX.yH ?_
      exact WX.mid (G:=Int × Int × Int × Zp) ⟨z4d,z40,z41,z4t⟩ ⟨h,zh6⟩ (.cons rfl (.cons rfl (.cons rfl .nil))) (.cons .here (.cons .here (.cons .here (.cons .here .nil))))
    ·rintro z7h z7i z7j z8l ⟨h,zAb⟩
     replace h:=(zu4 z7h z7i z7j).symm.trans h
     refine WC.b ?_
     refine WC.b ?_
     obtain ⟨zkl,zoX,h⟩:=zb h
     refine WC.a ?_
     refine WL.a (d:=51) rfl rfl rfl (y4 y3c rfl rfl) ?_
     refine WL.a (d:=52) rfl rfl rfl (ye y2H rfl (yu .h2 rfl)) ?_
     refine WL.a (d:=53) rfl rfl rfl (y3g rfl rfl) ?_
     refine WL.a (d:=54) rfl rfl rfl (q_m rfl) ?_
     refine WL.yF True [(3,(.pointer (some ⟨z3U,0,none⟩))),(61,(.bool zkl))] [fz z8l,stb z3c 79 [(.slice z2I z21.length z2J),(.int .i64 zn.fR.fN),(.int .i64 zn.fR.fD),(.int .i64 zn.fLatency.fN),(.int .i64 zn.fLatency.fD),(.func (.func 32) #[] #[(.pointer (some z2U)),(.pointer (some z2V))]),(.slice z2W z2H.length z2X)],stb z3U 98 [(.int .i64 z7h)],stb z52 30 [(.int .i64 z7i),(.int .i64 z7j)]] 7 ?_ (fun _=>?_)
     ·rcases Bool.eq_false_or_eq_true (decide (z7h = 0)) with hb' | hb'
      ·have zoY:=hb'; clear hb'
       have zfg:=yj zoX zoY
       obtain ⟨zkk,zua,zfg⟩:=zb zfg
       replace zfg:=Option.some.inj zfg
       refine WL.pin (i:=54) rfl zoY ?_
       refine WL.a (d:=55) rfl rfl rfl (y6 (cs:=[(.int .i64 z7i),(.int .i64 z7j)]) y5 rfl rfl (y7 .h3)) ?_
       refine WL.a (d:=56) rfl rfl rfl (y4 y7F rfl rfl) ?_
       refine WL.a (d:=57) rfl rfl rfl (y4 y5X rfl rfl) ?_
       refine WL.a (d:=58) rfl rfl rfl (y6 (cs:=[(.int .i64 zn.fR.fN),(.int .i64 zn.fR.fD)]) y5 rfl rfl (y1T (s:=2) .h1 rfl)) ?_
       refine WL.b (dd:=59) rfl rfl rfl (zl (l:=[.tmp 55,.tmp 58]) Try.call18 (.cons rfl (.cons rfl .nil))) (.nil : Sel [fz z8l,stb z3c 79 [(.slice z2I z21.length z2J),(.int .i64 zn.fR.fN),(.int .i64 zn.fR.fD),(.int .i64 zn.fLatency.fN),(.int .i64 zn.fLatency.fD),(.func (.func 32) #[] #[(.pointer (some z2U)),(.pointer (some z2V))]),(.slice z2W z2H.length z2X)],stb z3U 98 [(.int .i64 z7h)],stb z52 30 [(.int .i64 z7i),(.int .i64 z7j)]] [] [fz z8l,stb z3c 79 [(.slice z2I z21.length z2J),(.int .i64 zn.fR.fN),(.int .i64 zn.fR.fD),(.int .i64 zn.fLatency.fN),(.int .i64 zn.fLatency.fD),(.func (.func 32) #[] #[(.pointer (some z2U)),(.pointer (some z2V))]),(.slice z2W z2H.length z2X)],stb z3U 98 [(.int .i64 z7h)],stb z52 30 [(.int .i64 z7i),(.int .i64 z7j)]]) (fun w hw=>by have pz:=(hz.call2 hw (.nil : Sel [fz z8l,stb z3c 79 [(.slice z2I z21.length z2J),(.int .i64 zn.fR.fN),(.int .i64 zn.fR.fD),(.int .i64 zn.fLatency.fN),(.int .i64 zn.fLatency.fD),(.func (.func 32) #[] #[(.pointer (some z2U)),(.pointer (some z2V))]),(.slice z2W z2H.length z2X)],stb z3U 98 [(.int .i64 z7h)],stb z52 30 [(.int .i64 z7i),(.int .i64 z7j)]] [] [fz z8l,stb z3c 79 [(.slice z2I z21.length z2J),(.int .i64 zn.fR.fN),(.int .i64 zn.fR.fD),(.int .i64 zn.fLatency.fN),(.int .i64 zn.fLatency.fD),(.func (.func 32) #[] #[(.pointer (some z2U)),(.pointer (some z2V))]),(.slice z2W z2H.length z2X)],stb z3U 98 [(.int .i64 z7h)],stb z52 30 [(.int .i64 z7i),(.int .i64 z7j)]]) .here); exact y1Y (Z:=_)  (z2m:=(⟨z7i,z7j⟩ : z2)) (z2n:=zn.fR) (r:=zkk) w pz  zua) ?_
       refine WL.a (d:=60) rfl rfl rfl (y3f rfl rfl) ?_
       refine WL.a (d:=61) rfl rfl rfl (ys rfl rfl) ?_
       exact WL.ya () trivial (.cons rfl (.cons (zt zfg) .nil)) (.cons .here (.cons .here (.cons .here (.cons .here .nil))))
      ·have zoZ:=hb'; clear hb'
       have zkt:=yk zoX zoZ
       replace zkt:=Option.some.inj zkt
       refine WL.pin (i:=54) rfl zoZ ?_
       refine WL.e rfl rfl rfl ?_
       refine WL.e rfl rfl rfl ?_
       refine WL.e rfl rfl rfl ?_
       refine WL.e rfl rfl rfl ?_
       refine WL.e rfl rfl rfl ?_
       refine WL.e rfl rfl rfl ?_
       refine WL.a (d:=61) rfl rfl rfl (yr rfl rfl) ?_
       exact WL.ya () trivial (.cons rfl (.cons (zt zkt) .nil)) (.cons .here (.cons .here (.cons .here (.cons .here .nil))))
     ·skip
      refine WL.nil ?_
      refine WX.a ?_
      refine WC.cond rfl (fun zku=>?_) (fun zku=>?_)
      ·replace h:=yj h zku
       refine WC.b ?_
       refine WC.a ?_
       refine WL.a (d:=2) rfl rfl rfl (q_z rfl) ?_
       refine WL.nil ?_
       refine WX.a ?_
       refine WC.ret ?_
       refine WX.y8 ?_
       obtain rfl:=Option.some.inj h
       refine WX.y9 Try.results52 (.tmp rfl .nil) (fun w hw=>?_)
       exact ⟨z8l,yI rfl,trivial,hw.sub (.cons .here .nil)⟩
      ·replace h:=yk h zku
       refine WC.skip ?_
       refine WX.a ?_
       refine WC.b ?_
       refine WC.a ?_
       refine WL.a (d:=62) rfl rfl rfl (y4 y3c rfl rfl) ?_
       refine WL.a (d:=63) rfl rfl rfl (ye y2H rfl (yu .h2 rfl)) ?_
       refine WL.a (d:=2) rfl rfl rfl (q_z rfl) ?_
       refine WL.nil ?_
       refine WX.a ?_
       refine WC.ret ?_
       obtain rfl:=Option.some.inj h
       refine WX.y9 Try.results52 (.tmp rfl .nil) (fun w hw=>?_)
       exact ⟨z8l,yI rfl,trivial,hw.sub (.cons .here .nil)⟩
def y2x (zao : List (List z1)) (z54 : zSv) (zfh : List (List z1)) (zcq : zSv) (zap : List z2) : Option (Int × Int × Int × Int) :=
 some (z54.fR.fN,z54.fR.fD,z54.fLatency.fN,z54.fLatency.fD)
set_option maxRecDepth 20000 in
theorem y6d (Z : Zp)  (zcr : Option Addr) (zcs : Nat) (zct : Addr) (zkv : Option Addr) (zkw : Nat) (zcu : Addr) (zcv : Option Addr) (zcw : Nat) (zao : List (List z1)) (z54 : zSv) (zfh : List (List z1)) (zcq : zSv) (zap : List z2) (r : Int × Int × Int × Int) (w₀ : World) (hz : PZ [] w₀ Z)
  (zAc : ZS Z 1 (p39 Z) zcr zcs zao)
  (zAd : ZS Z 1 (p39 Z) zkv zkw zfh)
  (zAe : ZC Z zct [(.slice zkv zfh.length zkw)])
  (zAf : ZC Z zcu [(.int .i64 zcq.fR.fN),(.int .i64 zcq.fR.fD),(.int .i64 zcq.fLatency.fN),(.int .i64 zcq.fLatency.fD)])
  (zAg : ZS Z 2 (fun r x=>r = e30 x) zcv zcw zap)
  (h : y2x zao z54 zfh zcq zap = some r) :
  Calls Try.prog 53 #[(.agg #[(.slice zcr zao.length zcs),(.int .i64 z54.fR.fN),(.int .i64 z54.fR.fD),(.int .i64 z54.fLatency.fN),(.int .i64 z54.fLatency.fD),(.func (.func 32) #[] #[(.pointer (some zct)),(.pointer (some zcu))]),(.slice zcv zap.length zcw)])] w₀ fun e w'=>∃ zp0 : Nat,e = .returned (.func (.func 69) #[] #[(.pointer (some ⟨zp0,0,none⟩))]) ∧ True ∧ Hp [] w₀ w' [stb zp0 79 [(.slice zcr zao.length zcs),(.int .i64 r.1),(.int .i64 r.2.1),(.int .i64 r.2.2.1),(.int .i64 r.2.2.2),(.func (.func 32) #[] #[(.pointer (some zct)),(.pointer (some zcu))]),(.slice zcv zap.length zcw)]]:=by
 unfold y2x at h
 refine Calls.yg (vs:=[(.agg #[(.slice zcr zao.length zcs),(.int .i64 z54.fR.fN),(.int .i64 z54.fR.fD),(.int .i64 z54.fLatency.fN),(.int .i64 z54.fLatency.fD),(.func (.func 32) #[] #[(.pointer (some zct)),(.pointer (some zcu))]),(.slice zcv zap.length zcw)])]) (pre:=[]) (env:=[(0,(.agg #[(.slice zcr zao.length zcs),(.int .i64 z54.fR.fN),(.int .i64 z54.fR.fD),(.int .i64 z54.fLatency.fN),(.int .i64 z54.fLatency.fD),(.func (.func 32) #[] #[(.pointer (some zct)),(.pointer (some zcu))]),(.slice zcv zap.length zcw)]))]) Try.func53 rfl Try.ntmps53 rfl (Hp.nil w₀ _) rfl ?_
 refine WC.b ?_
 refine WC.a ?_
 refine WL.new (dd:=1) rfl rfl rfl (yK (cs:=[(.slice zcr zao.length zcs),(.int .i64 z54.fR.fN),(.int .i64 z54.fR.fD),(.int .i64 z54.fLatency.fN),(.int .i64 z54.fLatency.fD),(.func (.func 32) #[] #[(.pointer (some zct)),(.pointer (some zcu))]),(.slice zcv zap.length zcw)]) rfl rfl) ?_
 intro zub _
 refine WL.a (d:=2) rfl rfl rfl (q_z rfl) ?_
 refine WL.nil ?_
 refine WX.a ?_
 refine WC.b ?_
 refine WC.a ?_
 refine WL.a (d:=3) rfl rfl rfl (y18 (Eos.caps (l:=[.tmp 1]) (.cons rfl .nil))) ?_
 refine WL.a (d:=2) rfl rfl rfl (q_z rfl) ?_
 refine WL.nil ?_
 refine WX.a ?_
 refine WC.ret ?_
 obtain rfl:=Option.some.inj h
 refine WX.y9 Try.results53 (.tmp rfl .nil) (fun w hw=>?_)
 exact ⟨zub,yI rfl,trivial,hw.sub (.cons .here .nil)⟩
def y1M (z3d : z2) : Option Int :=
 (y1i z3d).bind fun zkx=>if !zkx then some 0 else chk ((z3d.fD : Int) ≠ 0) (jp1 (fun (zbg : Int)=>some zbg) fun zh7=>chk ((z3d.fD : Int) ≠ 0) (if decide ((Int.tmod z3d.fN z3d.fD) < 0) then zh7 (i64 ((i64 (Int.tdiv z3d.fN z3d.fD)) - 1)) else zh7 (i64 (Int.tdiv z3d.fN z3d.fD))))
set_option maxRecDepth 20000 in
theorem y4x (Z : Zp)   (z3d : z2) (r : Int) (w₀ : World) (hz : PZ [] w₀ Z)
  (h : y1M z3d = some r) :
  Calls Try.prog 70 #[(.agg #[(.int .i64 z3d.fN),(.int .i64 z3d.fD)])] w₀ fun e w'=>e = .returned (.int .i64 r) ∧ Hp [] w₀ w' []:=by
 unfold y1M at h
 refine Calls.yg (vs:=[(.agg #[(.int .i64 z3d.fN),(.int .i64 z3d.fD)])]) (pre:=[]) (env:=[(0,(.agg #[(.int .i64 z3d.fN),(.int .i64 z3d.fD)]))]) Try.func70 rfl Try.ntmps70 rfl (Hp.nil w₀ _) rfl ?_
 refine WC.b ?_
 refine WC.a ?_
 refine WL.new (dd:=1) rfl rfl rfl (yK (cs:=[(.int .i64 z3d.fN),(.int .i64 z3d.fD)]) rfl rfl) ?_
 intro zh8 _
 refine WL.a (d:=2) rfl rfl rfl (q_z rfl) ?_
 refine WL.nil ?_
 refine WX.a ?_
 refine WC.b ?_
 refine WC.b ?_
 obtain ⟨zkx,zuc,h⟩:=zb h
 refine WC.a ?_
 refine WL.a (d:=4) rfl rfl rfl (y6 (cs:=[(.int .i64 z3d.fN),(.int .i64 z3d.fD)]) y5 rfl rfl (y7 .here)) ?_
 refine WL.b (dd:=5) rfl rfl rfl (zl (l:=[.tmp 4]) Try.call39 (.cons rfl .nil)) (.nil : Sel [stb zh8 30 [(.int .i64 z3d.fN),(.int .i64 z3d.fD)]] [] [stb zh8 30 [(.int .i64 z3d.fN),(.int .i64 z3d.fD)]]) (fun w hw=>by have pz:=(hz.call hw (.nil : Sel [stb zh8 30 [(.int .i64 z3d.fN),(.int .i64 z3d.fD)]] [] [stb zh8 30 [(.int .i64 z3d.fN),(.int .i64 z3d.fD)]])); exact y1F (Z:=_)  (z1p:=z3d) (r:=zkx) w pz  zuc) ?_
 refine WL.a (d:=6) rfl rfl rfl (y1n rfl) ?_
 refine WL.nil ?_
 refine WX.a ?_
 refine WC.cond rfl (fun zky=>?_) (fun zky=>?_)
 ·replace h:=yj h zky
  refine WC.b ?_
  refine WC.a ?_
  refine WL.a (d:=2) rfl rfl rfl (q_z rfl) ?_
  refine WL.nil ?_
  refine WX.a ?_
  refine WC.ret ?_
  refine WX.y8 ?_
  obtain rfl:=Option.some.inj h
  refine WX.y9 Try.results70 (.tmp rfl .nil) (fun w hw=>?_)
  exact ⟨yI rfl,hw.sub .nil⟩
 ·replace h:=yk h zky
  refine WC.skip ?_
  refine WX.a ?_
  refine WC.b ?_
  obtain ⟨zud,h⟩:=yp h
  refine WC.a ?_
  refine WL.a (d:=7) rfl rfl rfl (y4 y1J rfl rfl) ?_
  refine WL.a (d:=8) rfl rfl rfl (ye yx rfl (yu .here rfl)) ?_
  refine WL.a (d:=9) rfl rfl rfl (y4 y21 rfl rfl) ?_
  refine WL.a (d:=10) rfl rfl rfl (ye yx rfl (yu .here rfl)) ?_
  refine WL.a (d:=11) rfl rfl rfl (q_quo rfl rfl zud rfl) ?_
  refine WL.a (d:=3) rfl rfl rfl (q_z rfl) ?_
  refine WL.nil ?_
  refine WX.a ?_
  obtain ⟨zh7,zue,h⟩:=y1r h
  refine WC.y4f (fun (zbg : Int)=>(zh7 zbg = some r)) (fun (zbg : Int)=>[(3,(.int .i64 zbg))]) (fun (zbg : Int)=>[]) ?_ ?_
  ·skip
   refine WC.b ?_
   obtain ⟨zuf,h⟩:=yp h
   refine WC.a ?_
   refine WL.a (d:=12) rfl rfl rfl (y4 y1J rfl rfl) ?_
   refine WL.a (d:=13) rfl rfl rfl (ye yx rfl (yu .here rfl)) ?_
   refine WL.a (d:=14) rfl rfl rfl (y4 y21 rfl rfl) ?_
   refine WL.a (d:=15) rfl rfl rfl (ye yx rfl (yu .here rfl)) ?_
   refine WL.a (d:=16) rfl rfl rfl (y6V rfl rfl zuf rfl) ?_
   refine WL.a (d:=17) rfl rfl rfl (y1h rfl rfl) ?_
   refine WL.nil ?_
   refine WX.a ?_
   refine WC.cond rfl (fun zkz=>?_) (fun zkz=>?_)
   ·replace h:=yj h zkz
    refine WC.a ?_
    refine WL.a (d:=18) rfl rfl rfl (q_m rfl) ?_
    refine WL.a (d:=19) rfl rfl rfl (y7y rfl rfl rfl) ?_
    refine WL.a (d:=3) rfl rfl rfl (q_z rfl) ?_
    refine WL.nil ?_
    exact WX.mid (G:=Int) (i64 ((i64 (Int.tdiv z3d.fN z3d.fD)) - 1)) h (.cons rfl .nil) .nil
   ·replace h:=yk h zkz
    refine WC.skip ?_
    exact WX.mid (G:=Int) (i64 (Int.tdiv z3d.fN z3d.fD)) h (.cons rfl .nil) .nil
  ·rintro zbg h
   replace h:=(zue zbg).symm.trans h
   refine WC.b ?_
   refine WC.a ?_
   refine WL.a (d:=20) rfl rfl rfl (q_m rfl) ?_
   refine WL.a (d:=2) rfl rfl rfl (q_z rfl) ?_
   refine WL.nil ?_
   refine WX.a ?_
   refine WC.ret ?_
   obtain rfl:=Option.some.inj h
   refine WX.y9 Try.results70 (.tmp rfl .nil) (fun w hw=>?_)
   exact ⟨yI rfl,hw.sub .nil⟩
def y2a (z32 : z2) : Option Int :=
 (y1i z32).bind fun zkA=>if !zkA then some 0 else (y1M (⟨i64 (0 - z32.fN),z32.fD⟩ : z2)).bind fun zkB=>some (i64 (0 - zkB))
set_option maxRecDepth 20000 in
theorem y5I (Z : Zp)   (z32 : z2) (r : Int) (w₀ : World) (hz : PZ [] w₀ Z)
  (h : y2a z32 = some r) :
  Calls Try.prog 71 #[(.agg #[(.int .i64 z32.fN),(.int .i64 z32.fD)])] w₀ fun e w'=>e = .returned (.int .i64 r) ∧ Hp [] w₀ w' []:=by
 unfold y2a at h
 refine Calls.yg (vs:=[(.agg #[(.int .i64 z32.fN),(.int .i64 z32.fD)])]) (pre:=[]) (env:=[(0,(.agg #[(.int .i64 z32.fN),(.int .i64 z32.fD)]))]) Try.func71 rfl Try.ntmps71 rfl (Hp.nil w₀ _) rfl ?_
 refine WC.b ?_
 refine WC.a ?_
 refine WL.new (dd:=1) rfl rfl rfl (yK (cs:=[(.int .i64 z32.fN),(.int .i64 z32.fD)]) rfl rfl) ?_
 intro zbh _
 refine WL.a (d:=2) rfl rfl rfl (q_z rfl) ?_
 refine WL.nil ?_
 refine WX.a ?_
 refine WC.b ?_
 refine WC.b ?_
 obtain ⟨zkA,zug,h⟩:=zb h
 refine WC.a ?_
 refine WL.a (d:=3) rfl rfl rfl (y6 (cs:=[(.int .i64 z32.fN),(.int .i64 z32.fD)]) y5 rfl rfl (y7 .here)) ?_
 refine WL.b (dd:=4) rfl rfl rfl (zl (l:=[.tmp 3]) Try.call39 (.cons rfl .nil)) (.nil : Sel [stb zbh 30 [(.int .i64 z32.fN),(.int .i64 z32.fD)]] [] [stb zbh 30 [(.int .i64 z32.fN),(.int .i64 z32.fD)]]) (fun w hw=>by have pz:=(hz.call hw (.nil : Sel [stb zbh 30 [(.int .i64 z32.fN),(.int .i64 z32.fD)]] [] [stb zbh 30 [(.int .i64 z32.fN),(.int .i64 z32.fD)]])); exact y1F (Z:=_)  (z1p:=z32) (r:=zkA) w pz  zug) ?_
 refine WL.a (d:=5) rfl rfl rfl (y1n rfl) ?_
 refine WL.nil ?_
 refine WX.a ?_
 refine WC.cond rfl (fun zkC=>?_) (fun zkC=>?_)
 ·replace h:=yj h zkC
  refine WC.b ?_
  refine WC.a ?_
  refine WL.a (d:=2) rfl rfl rfl (q_z rfl) ?_
  refine WL.nil ?_
  refine WX.a ?_
  refine WC.ret ?_
  refine WX.y8 ?_
  obtain rfl:=Option.some.inj h
  refine WX.y9 Try.results71 (.tmp rfl .nil) (fun w hw=>?_)
  exact ⟨yI rfl,hw.sub .nil⟩
 ·replace h:=yk h zkC
  refine WC.skip ?_
  refine WX.a ?_
  refine WC.b ?_
  obtain ⟨zkB,zuh,h⟩:=zb h
  refine WC.a ?_
  refine WL.a (d:=6) rfl rfl rfl (y4 y1J rfl rfl) ?_
  refine WL.a (d:=7) rfl rfl rfl (ye yx rfl (yu .here rfl)) ?_
  refine WL.a (d:=8) rfl rfl rfl (q_neg rfl rfl) ?_
  refine WL.a (d:=9) rfl rfl rfl (y4 y21 rfl rfl) ?_
  refine WL.a (d:=10) rfl rfl rfl (ye yx rfl (yu .here rfl)) ?_
  refine WL.a (d:=11) rfl rfl rfl (y1j (v:=(.agg #[(.int .i64 (i64 (0 - z32.fN))),(.int .i64 z32.fD)])) (Eos.parts (l:=[.tmp 8,.tmp 10]) (.cons rfl (.cons rfl .nil)) [0,1]) (fun _=>by kernel_rfl)) ?_
  refine WL.b (dd:=12) rfl rfl rfl (zl (l:=[.tmp 11]) Try.call70 (.cons rfl .nil)) (.nil : Sel [stb zbh 30 [(.int .i64 z32.fN),(.int .i64 z32.fD)]] [] [stb zbh 30 [(.int .i64 z32.fN),(.int .i64 z32.fD)]]) (fun w hw=>by have pz:=(hz.call hw (.nil : Sel [stb zbh 30 [(.int .i64 z32.fN),(.int .i64 z32.fD)]] [] [stb zbh 30 [(.int .i64 z32.fN),(.int .i64 z32.fD)]])); exact y4x (Z:=_)  (z3d:=(⟨i64 (0 - z32.fN),z32.fD⟩ : z2)) (r:=zkB) w pz  zuh) ?_
  refine WL.a (d:=13) rfl rfl rfl (q_neg rfl rfl) ?_
  refine WL.a (d:=2) rfl rfl rfl (q_z rfl) ?_
  refine WL.nil ?_
  refine WX.a ?_
  refine WC.ret ?_
  obtain rfl:=Option.some.inj h
  refine WX.y9 Try.results71 (.tmp rfl .nil) (fun w hw=>?_)
  exact ⟨yI rfl,hw.sub .nil⟩
def yD (zH : Type) (zJ : List z2 × Int) (z4e : z2 → zH → Option (Bool × zH)) (zaq : zH → Option zH) : Nat → Int → zH → Option zH
 | 0,_,_=>none
 | zkD + 1,z1G,z4N=>if decide (z1G < ((zJ.1.length : Nat) : Int)) then chk ((0 : Int) ≤ z1G ∧ z1G < ((zJ.1.length : Nat) : Int)) ((y1M (⟨((nth zJ.1 z1G).fN),((nth zJ.1 z1G).fD)⟩ : z2)).bind fun zh9=>(y10 zh9).bind fun zha=>(z4e zha z4N).bind fun z69=>(if !z69.1 then some (true,z69.2) else (y2a (⟨((nth zJ.1 z1G).fN),((nth zJ.1 z1G).fD)⟩ : z2)).bind fun zhb=>(y10 zhb).bind fun zhc=>(z4e zhc z69.2).bind fun zfi=>some (!zfi.1,zfi.2)).bind fun zbi=>if zbi.1 then some zbi.2 else yD zH zJ z4e zaq zkD (i64 (z1G + 1)) zbi.2) else zaq z4N
theorem y4q {n : Nat} {zH : Type} {zJ : List z2 × Int} {z4e : z2 → zH → Option (Bool × zH)} {zaq : zH → Option zH} {z1G : Int} {z4N : zH} {r : zH} (h : yD zH zJ z4e zaq n z1G z4N = some r) : ∃ m,n = m + 1:=by
 cases n with
 | zero=>cases h
 | succ m=>exact ⟨m,rfl⟩
def yE (zH : Type) (z4u : List (List z1)) (z4e : z2 → zH → Option (Bool × zH)) (zar : zH → Option zH) : Nat → Int → zH → Option zH
 | 0,_,_=>none
 | zkE + 1,z5C,z6a=>if decide (z5C < ((z4u.length : Nat) : Int)) then jp1 (fun (z9v : zH)=>yE zH z4u z4e zar zkE (i64 (z5C + 1)) z9v) fun zkF=>chk ((0 : Int) ≤ z5C ∧ z5C < ((z4u.length : Nat) : Int)) ((y1f (nth z4u z5C)).bind fun zJ=>jp1 (fun (z9w : zH)=>zkF z9w) fun zaq=>yD zH zJ z4e zaq yw 0 z6a) else zar z6a
theorem y4r {n : Nat} {zH : Type} {z4u : List (List z1)} {z4e : z2 → zH → Option (Bool × zH)} {zar : zH → Option zH} {z5C : Int} {z6a : zH} {r : zH} (h : yE zH z4u z4e zar n z5C z6a = some r) : ∃ m,n = m + 1:=by
 cases n with
 | zero=>cases h
 | succ m=>exact ⟨m,rfl⟩
def yM (zH : Type) (z1x : List z2) (z4e : z2 → zH → Option (Bool × zH)) (zas : zH → Option zH) : Nat → Int → zH → Option zH
 | 0,_,_=>none
 | zkG + 1,z1H,z4O=>if decide (z1H < ((z1x.length : Nat) : Int)) then chk ((0 : Int) ≤ z1H ∧ z1H < ((z1x.length : Nat) : Int)) ((y1M (⟨((nth z1x z1H).fN),((nth z1x z1H).fD)⟩ : z2)).bind fun zhd=>(y10 zhd).bind fun zhe=>(z4e zhe z4O).bind fun z6b=>(if !z6b.1 then some (true,z6b.2) else (y2a (⟨((nth z1x z1H).fN),((nth z1x z1H).fD)⟩ : z2)).bind fun zhf=>(y10 zhf).bind fun zhg=>(z4e zhg z6b.2).bind fun zfj=>some (!zfj.1,zfj.2)).bind fun zbj=>if zbj.1 then some zbj.2 else yM zH z1x z4e zas zkG (i64 (z1H + 1)) zbj.2) else zas z4O
theorem y4s {n : Nat} {zH : Type} {z1x : List z2} {z4e : z2 → zH → Option (Bool × zH)} {zas : zH → Option zH} {z1H : Int} {z4O : zH} {r : zH} (h : yM zH z1x z4e zas n z1H z4O = some r) : ∃ m,n = m + 1:=by
 cases n with
 | zero=>cases h
 | succ m=>exact ⟨m,rfl⟩
def y1V (zH : Type) (z4e : z2 → zH → Option (Bool × zH)) (s0_16993 : zH) (z4u : List (List z1)) (zcx : zSv) (zfk : List (List z1)) (zcy : zSv) (z1x : List z2) : Option zH :=
 (y1L).bind fun zhh=>(z4e zhh s0_16993).bind fun zcz=>if !zcz.1 then some zcz.2 else jp1 (fun (z9x : zH)=>jp1 (fun (zat : zH)=>some zat) fun zas=>yM zH z1x z4e zas yw 0 z9x) fun zar=>yE zH z4u z4e zar yw 0 zcz.2
set_option maxRecDepth 20000 in
theorem y5x (Z : Zp) (zH : Type) (z7Y : Nat) (z2K : Type) (z1I : z2K → zH → Asrt) (z7Z : z2K → zH → Prop) (z7I : z2K) (z8Z : Addr) (zbk : Option Addr) (zbl : Nat) (zkH : Addr) (zkI : Option Addr) (zkJ : Nat) (zkK : Addr) (zfl : Option Addr) (zfm : Nat) (z4e : z2 → zH → Option (Bool × zH)) (s0_16993 : zH) (z4u : List (List z1)) (zcx : zSv) (zfk : List (List z1)) (zcy : zSv) (z1x : List z2) (r : zH) (w₀ : World) (hz : PZ (fps [z1I z7I s0_16993]) w₀ Z)
  (zfn : y7i Try.prog Z z7Y (α:=z2) (σ:=zH) (G:=z2K) (H:=Unit) (fun h x=>[(.agg #[(.int .i64 x.fN),(.int .i64 x.fD)])]) (fun h x=>[]) z4e z1I z7Z)
  (zui : z7Z z7I s0_16993)
  (zuj : ZS Z 1 (p39 Z) zbk zbl z4u)
  (zAh : ZS Z 1 (p39 Z) zkI zkJ zfk)
  (zAi : ZC Z zkH [(.slice zkI zfk.length zkJ)])
  (zAj : ZC Z zkK [(.int .i64 zcy.fR.fN),(.int .i64 zcy.fR.fD),(.int .i64 zcy.fLatency.fN),(.int .i64 zcy.fLatency.fD)])
  (zuk : ZS Z 2 (fun r x=>r = e30 x) zfl zfm z1x)
  (zp1 : ZC Z z8Z [(.slice zbk z4u.length zbl),(.int .i64 zcx.fR.fN),(.int .i64 zcx.fR.fD),(.int .i64 zcx.fLatency.fN),(.int .i64 zcx.fLatency.fD),(.func (.func 32) #[] #[(.pointer (some zkH)),(.pointer (some zkK))]),(.slice zfl z1x.length zfm)])
  (h : y1V zH z4e s0_16993 z4u zcx zfk zcy z1x = some r)
  (hown : Hp (fps [z1I z7I s0_16993]) w₀ w₀ [z1I z7I s0_16993]) :
  Calls Try.prog 69 #[(.func (.yield z7Y) #[] #[]),(.pointer (some z8Z))] w₀ fun e w'=>∃ Zn : Zp,∃ zp2 : z2K,e = .returned (.tuple #[]) ∧ (z7Z zp2 r) ∧ Hp (fps [z1I z7I s0_16993]) w₀ w' [fz Zn,z1I zp2 r]:=by
 unfold y1V at h
 refine Calls.yg (vs:=[(.func (.yield z7Y) #[] #[]),(.pointer (some z8Z))]) (pre:=[z1I z7I s0_16993]) (env:=[(0,(.func (.yield z7Y) #[] #[])),(1,(.pointer (some z8Z)))]) Try.func69 rfl Try.ntmps69 rfl (hown) rfl ?_
 refine WC.pool ?_
 refine WC.b ?_
 refine WC.b ?_
 obtain ⟨zhh,zul,h⟩:=zb h
 obtain ⟨zcz,zum,h⟩:=zb h
 refine WC.a ?_
 refine WL.a (d:=11) rfl rfl rfl (q_m rfl) ?_
 refine WL.b (dd:=12) rfl rfl rfl (zl (l:=[]) Try.call51 .nil) (.nil : Sel [fz [],z1I z7I s0_16993] [] [fz [],z1I z7I s0_16993]) (fun w hw=>by have pz:=(hz.call2 hw (.nil : Sel [fz [],z1I z7I s0_16993] [] [fz [],z1I z7I s0_16993]) .here); exact y2v (Z:=_)   (r:=zhh) w pz  zul) ?_
 refine WL.yield (dd:=13) (x:=zhh) (h:=()) (g:=z7I) (s:=s0_16993) (b:=zcz.1) (s':=zcz.2) zfn rfl rfl rfl (.cons rfl .nil) ((.cons .h1 .nil) : Sel _ [z1I z7I s0_16993] _) zum zui (fun w hw=>hz.call hw ((.cons .h1 .nil) : Sel _ [z1I z7I s0_16993] _)) ?_
 intro zp3 zp4
 refine WL.a (d:=14) rfl rfl rfl (y1n rfl) ?_
 refine WL.nil ?_
 refine WX.a ?_
 refine WC.cond rfl (fun zkL=>?_) (fun zkL=>?_)
 ·replace h:=yj h zkL
  refine WC.ret ?_
  refine WX.y8 ?_
  obtain rfl:=Option.some.inj h
  refine WX.y9 Try.results69 .nil (fun w hw=>?_)
  exact ⟨[],zp3,y5r,zp4,hw.sub (.cons .h1 (.cons .here .nil))⟩
 ·replace h:=yk h zkL
  refine WC.skip ?_
  refine WX.a ?_
  obtain ⟨zar,zun,h⟩:=y1r h
  refine WC.y2M (fun (z9x : zH) (z4f : Zp) (zdS : z2K)=>(zar z9x = some r) ∧ (Zle (Z ++ []) (Z ++ z4f)) ∧ (z7Z zdS z9x)) (fun (z9x : zH) (z4f : Zp) (zdS : z2K)=>[(0,(.func (.yield z7Y) #[] #[])),(1,(.pointer (some z8Z)))]) (fun (z9x : zH) (z4f : Zp) (zdS : z2K)=>[fz z4f,z1I zdS z9x]) ?_ ?_
  ·skip
   refine WC.b ?_
   refine WC.a ?_
   refine WL.a (d:=15) rfl rfl rfl (y4 y4I rfl rfl) ?_
   refine WL.a (d:=16) rfl rfl rfl (ye y3a rfl (y1O (hz.pv2 .h1) (zp1.mono (Zle.left _ _)) rfl)) ?_
   refine WL.a (d:=17) rfl rfl rfl (y1k Try.underlying26 rfl) ?_
   refine WL.a (d:=18) rfl rfl rfl (q_m rfl) ?_
   refine WL.nil ?_
   refine WX.a ?_
   refine WC.block ?_
   refine WC.y64 (fun (zdT : Nat) (z5C : Int) (z6a : zH) (z3q : Zp) (z8n : z2K)=>(yE zH z4u z4e zar zdT z5C z6a = some r) ∧ (Zle (Z ++ []) (Z ++ z3q)) ∧ (z7Z z8n z6a)) (fun (zdT : Nat) (z5C : Int) (z6a : zH) (z3q : Zp) (z8n : z2K)=>[(0,(.func (.yield z7Y) #[] #[])),(1,(.pointer (some z8Z))),(16,(.slice zbk z4u.length zbl)),(17,(.int .i64 ((z4u.length : Nat) : Int))),(18,(.int .i64 z5C))]) (fun (zdT : Nat) (z5C : Int) (z6a : zH) (z3q : Zp) (z8n : z2K)=>[fz z3q,z1I z8n z6a]) (fun (zdT : Nat) (z5C : Int) (z6a : zH) (z3q : Zp) (z8n : z2K)=>zdT) ⟨yw,0,zcz.2,[],zp3⟩ ⟨h,(Zle.refl _),zp4⟩ (.cons rfl (.cons rfl (.cons rfl (.cons rfl (.cons rfl .nil))))) (.cons .h1 (.cons .here .nil)) ?_
   rintro zdT z5C z6a z3q z8n ⟨h,zhi,zp5⟩
   obtain ⟨zkE,rfl⟩:=y4r h
   rw [yE] at h
   refine WC.b ?_
   refine WC.a ?_
   refine WL.a (d:=19) rfl rfl rfl (y1h rfl rfl) ?_
   refine WL.nil ?_
   refine WX.a ?_
   refine WC.b ?_
   refine WC.cond rfl (fun zkM=>?_) (fun zkM=>?_)
   ·replace h:=yj h zkM
    refine WC.skip ?_
    refine WX.a ?_
    obtain ⟨zkF,zuo,h⟩:=y1r h
    refine WC.y2M (fun (z9v : zH) (zdU : Zp) (zdV : z2K)=>(zkF z9v = some r) ∧ (Zle (Z ++ z3q) (Z ++ zdU)) ∧ (z7Z zdV z9v)) (fun (z9v : zH) (zdU : Zp) (zdV : z2K)=>[(0,(.func (.yield z7Y) #[] #[])),(1,(.pointer (some z8Z))),(16,(.slice zbk z4u.length zbl)),(17,(.int .i64 ((z4u.length : Nat) : Int))),(18,(.int .i64 z5C))]) (fun (z9v : zH) (zdU : Zp) (zdV : z2K)=>[fz zdU,z1I zdV z9v]) ?_ ?_
    ·skip
     refine WC.block ?_
     refine WC.b ?_
     obtain ⟨zup,h⟩:=yp h
     refine WC.a ?_
     refine WL.znth (dd:=20) rfl rfl (Z:=(Z ++ z3q)) (Pr:=(p39 (Z ++ z3q))) y32 rfl rfl ((zuj.mono ((Zle.left _ _).trans zhi)).weak (fun _ _ h=>yG ((Zle.left _ _).trans zhi) h)) zup ?_
     rintro zAk zAl zuq zAm ⟨zur,zus,rfl,zut⟩
     refine WL.a (d:=21) rfl rfl rfl (ye y3b rfl (y3Z (hz.pv2 .here) zuq rfl)) ?_
     refine WL.a (d:=4) rfl rfl rfl (q_z rfl) ?_
     refine WL.nil ?_
     refine WX.a ?_
     refine WC.b ?_
     obtain ⟨zJ,zuu,h⟩:=zb h
     refine WC.a ?_
     refine WL.a (d:=23) rfl rfl rfl (q_m rfl) ?_
     refine WL.y6t (dd:=24) rfl rfl rfl (zl (l:=[.tmp 23]) Try.call68 (.cons rfl .nil)) (.nil : Sel [fz z3q,z1I z8n z6a] [] [fz z3q,z1I z8n z6a]) (fun w hw=>by have pz:=(hz.call2 hw (.nil : Sel [fz z3q,z1I z8n z6a] [] [fz z3q,z1I z8n z6a]) .here); exact y4j (Z:=_) (z9n:=zur) (z9o:=zus) (z7E:=(nth z4u z5C)) (r:=zJ) w pz zut zuu) ?_
     rintro z5z zuv zuw _
     refine WL.merge .here .h1 ?_
     refine WL.a (d:=22) rfl rfl rfl (q_m rfl) ?_
     refine WL.a (d:=25) rfl rfl rfl (yb rfl rfl) ?_
     refine WL.a (d:=26) rfl rfl rfl (yb rfl rfl) ?_
     refine WL.a (d:=5) rfl rfl rfl (q_z rfl) ?_
     refine WL.a (d:=6) rfl rfl rfl (q_z rfl) ?_
     refine WL.nil ?_
     refine WX.a ?_
     refine WC.b ?_
     refine WC.a ?_
     refine WL.a (d:=27) rfl rfl rfl (q_m rfl) ?_
     refine WL.a (d:=28) rfl rfl rfl (y1k Try.underlying77 rfl) ?_
     refine WL.a (d:=29) rfl rfl rfl (q_m rfl) ?_
     refine WL.nil ?_
     refine WX.a ?_
     obtain ⟨zaq,zux,h⟩:=y1r h
     refine WC.y5V (fun (z9w : zH) (zdW : z2K)=>(zaq z9w = some r) ∧ (z7Z zdW z9w)) (fun (z9w : zH) (zdW : z2K)=>[(0,(.func (.yield z7Y) #[] #[])),(1,(.pointer (some z8Z))),(16,(.slice zbk z4u.length zbl)),(17,(.int .i64 ((z4u.length : Nat) : Int))),(18,(.int .i64 z5C))]) (fun (z9w : zH) (zdW : z2K)=>[fz (z3q ++ z5z),z1I zdW z9w]) ?_ ?_
     ·skip
      refine WC.block ?_
      refine WC.y4B (fun (zdX : Nat) (z1G : Int) (z4N : zH) (zdY : Option Addr) (z4v : Nat) (z6c : z2K)=>(yD zH zJ z4e zaq zdX z1G z4N = some r) ∧ (z7Z z6c z4N)) (fun (zdX : Nat) (z1G : Int) (z4N : zH) (zdY : Option Addr) (z4v : Nat) (z6c : z2K)=>[(0,(.func (.yield z7Y) #[] #[])),(1,(.pointer (some z8Z))),(16,(.slice zbk z4u.length zbl)),(17,(.int .i64 ((z4u.length : Nat) : Int))),(18,(.int .i64 z5C)),(27,(.slice zdY zJ.1.length z4v)),(28,(.int .i64 ((zJ.1.length : Nat) : Int))),(29,(.int .i64 z1G))]) (fun (zdX : Nat) (z1G : Int) (z4N : zH) (zdY : Option Addr) (z4v : Nat) (z6c : z2K)=>[fz (z3q ++ z5z),row (.slice zdY zJ.1.length z4v) 30 2 (zJ.1.flatMap e30),z1I z6c z4N]) (fun (zdX : Nat) (z1G : Int) (z4N : zH) (zdY : Option Addr) (z4v : Nat) (z6c : z2K)=>zdX) ⟨yw,0,z6a,zuv,zuw,z8n⟩ ⟨h,zp5⟩ (.cons rfl (.cons rfl (.cons rfl (.cons rfl (.cons rfl (.cons rfl (.cons rfl (.cons rfl .nil)))))))) (.cons .here (.cons .here (.cons .here .nil))) ?_
      rintro zdX z1G z4N zdY z4v z6c ⟨h,zp6⟩
      obtain ⟨zkD,rfl⟩:=y4q h
      rw [yD] at h
      refine WC.b ?_
      refine WC.a ?_
      refine WL.a (d:=30) rfl rfl rfl (y1h rfl rfl) ?_
      refine WL.nil ?_
      refine WX.a ?_
      refine WC.b ?_
      refine WC.cond rfl (fun zkN=>?_) (fun zkN=>?_)
      ·replace h:=yj h zkN
       refine WC.skip ?_
       refine WX.a ?_
       refine WC.b ?_
       refine WC.block ?_
       refine WC.b ?_
       obtain ⟨zfo,h⟩:=yp h
       refine WC.a ?_
       refine WL.know (fun w hw=>Hp.y49 .h1 hw (by intro hz'; have:=zfo; rw [hz'] at this; omega)) ?_
       rintro ⟨z5R,rfl⟩
       refine WL.a (d:=31) rfl rfl rfl (y1y y1H rfl rfl zfo.1 zfo.2 y4v) ?_
       refine WL.a (d:=32) rfl rfl rfl (y6 (cs:=(e30 (nth zJ.1 z1G))) y5 rfl rfl (y3v .h1 (y3w (enc:=e30) (l:=zJ.1) (i:=z1G) (sz:=2) (fun _=>rfl) zfo.1 zfo.2))) ?_
       refine WL.new (dd:=8) rfl rfl rfl (yh (cs:=[(.int .i64 0),(.int .i64 0)]) yo rfl) ?_
       intro z6J _
       refine WL.yc rfl rfl (yd (vs:=[(.int .i64 ((nth zJ.1 z1G).fN)),(.int .i64 ((nth zJ.1 z1G).fD))]) (ds:=[(.int .i64 ((nth zJ.1 z1G).fN)),(.int .i64 ((nth zJ.1 z1G).fD))]) yl rfl rfl rfl rfl (y3 rfl (y3 rfl yf)) .here (Nat.le_of_ble_eq_true rfl) rfl) ?_
       refine WL.nil ?_
       refine WX.a ?_
       refine WC.b ?_
       obtain ⟨zh9,zuy,h⟩:=zb h
       obtain ⟨zha,zuz,h⟩:=zb h
       obtain ⟨z69,zuA,h⟩:=zb h
       obtain ⟨zbi,zp7,h⟩:=zb h
       refine WC.a ?_
       refine WL.a (d:=33) rfl rfl rfl (q_m rfl) ?_
       refine WL.a (d:=34) rfl rfl rfl (y6 (cs:=[(.int .i64 ((nth zJ.1 z1G).fN)),(.int .i64 ((nth zJ.1 z1G).fD))]) y5 rfl rfl (y7 .here)) ?_
       refine WL.b (dd:=35) rfl rfl rfl (zl (l:=[.tmp 34]) Try.call70 (.cons rfl .nil)) (.nil : Sel [stb z6J 30 [(.int .i64 ((nth zJ.1 z1G).fN)),(.int .i64 ((nth zJ.1 z1G).fD))],fz (z3q ++ z5z),row (.slice (some ⟨z5R,0,none⟩) zJ.1.length z4v) 30 2 (zJ.1.flatMap e30),z1I z6c z4N] [] [stb z6J 30 [(.int .i64 ((nth zJ.1 z1G).fN)),(.int .i64 ((nth zJ.1 z1G).fD))],fz (z3q ++ z5z),row (.slice (some ⟨z5R,0,none⟩) zJ.1.length z4v) 30 2 (zJ.1.flatMap e30),z1I z6c z4N]) (fun w hw=>by have pz:=(hz.call2 hw (.nil : Sel [stb z6J 30 [(.int .i64 ((nth zJ.1 z1G).fN)),(.int .i64 ((nth zJ.1 z1G).fD))],fz (z3q ++ z5z),row (.slice (some ⟨z5R,0,none⟩) zJ.1.length z4v) 30 2 (zJ.1.flatMap e30),z1I z6c z4N] [] [stb z6J 30 [(.int .i64 ((nth zJ.1 z1G).fN)),(.int .i64 ((nth zJ.1 z1G).fD))],fz (z3q ++ z5z),row (.slice (some ⟨z5R,0,none⟩) zJ.1.length z4v) 30 2 (zJ.1.flatMap e30),z1I z6c z4N]) .h1); exact y4x (Z:=_)  (z3d:=(⟨((nth zJ.1 z1G).fN),((nth zJ.1 z1G).fD)⟩ : z2)) (r:=zh9) w pz  zuy) ?_
       refine WL.b (dd:=36) rfl rfl rfl (zl (l:=[.tmp 35]) Try.call65 (.cons rfl .nil)) (.nil : Sel [stb z6J 30 [(.int .i64 ((nth zJ.1 z1G).fN)),(.int .i64 ((nth zJ.1 z1G).fD))],fz (z3q ++ z5z),row (.slice (some ⟨z5R,0,none⟩) zJ.1.length z4v) 30 2 (zJ.1.flatMap e30),z1I z6c z4N] [] [stb z6J 30 [(.int .i64 ((nth zJ.1 z1G).fN)),(.int .i64 ((nth zJ.1 z1G).fD))],fz (z3q ++ z5z),row (.slice (some ⟨z5R,0,none⟩) zJ.1.length z4v) 30 2 (zJ.1.flatMap e30),z1I z6c z4N]) (fun w hw=>by have pz:=(hz.call2 hw (.nil : Sel [stb z6J 30 [(.int .i64 ((nth zJ.1 z1G).fN)),(.int .i64 ((nth zJ.1 z1G).fD))],fz (z3q ++ z5z),row (.slice (some ⟨z5R,0,none⟩) zJ.1.length z4v) 30 2 (zJ.1.flatMap e30),z1I z6c z4N] [] [stb z6J 30 [(.int .i64 ((nth zJ.1 z1G).fN)),(.int .i64 ((nth zJ.1 z1G).fD))],fz (z3q ++ z5z),row (.slice (some ⟨z5R,0,none⟩) zJ.1.length z4v) 30 2 (zJ.1.flatMap e30),z1I z6c z4N]) .h1); exact y1S (Z:=_)  (z65:=zh9) (r:=zha) w pz  zuz) ?_
       refine WL.yield (dd:=37) (x:=zha) (h:=()) (g:=z6c) (s:=z4N) (b:=z69.1) (s':=z69.2) zfn rfl rfl rfl (.cons rfl .nil) ((.cons .h3 .nil) : Sel _ [z1I z6c z4N] _) zuA zp6 (fun w hw=>hz.call hw ((.cons .h3 .nil) : Sel _ [z1I z6c z4N] _)) ?_
       intro z8o zp8
       refine WL.a (d:=38) rfl rfl rfl (y1n rfl) ?_
       refine WL.a (d:=39) rfl rfl rfl (q_m rfl) ?_
       refine WL.y5R (fun (zcA : z2K)=>z7Z zcA zbi.2) (fun (zcA : z2K)=>[(0,(.func (.yield z7Y) #[] #[])),(1,(.pointer (some z8Z))),(16,(.slice zbk z4u.length zbl)),(17,(.int .i64 ((z4u.length : Nat) : Int))),(18,(.int .i64 z5C)),(27,(.slice (some ⟨z5R,0,none⟩) zJ.1.length z4v)),(28,(.int .i64 ((zJ.1.length : Nat) : Int))),(29,(.int .i64 z1G)),(46,(.bool zbi.1))]) (fun (zcA : z2K)=>[z1I zcA zbi.2,stb z6J 30 [(.int .i64 ((nth zJ.1 z1G).fN)),(.int .i64 ((nth zJ.1 z1G).fD))],fz (z3q ++ z5z),row (.slice (some ⟨z5R,0,none⟩) zJ.1.length z4v) 30 2 (zJ.1.flatMap e30)]) 7 ?_ (fun zcA zp9=>?_)
       ·rcases Bool.eq_false_or_eq_true (!z69.1) with hb' | hb'
        ·have zpa:=hb'; clear hb'
         have zkO:=yj zp7 zpa
         replace zkO:=Option.some.inj zkO
         refine WL.pin (i:=39) rfl zpa ?_
         refine WL.e rfl rfl rfl ?_
         refine WL.e rfl rfl rfl ?_
         refine WL.e rfl rfl rfl ?_
         refine WL.e rfl rfl rfl ?_
         refine WL.e rfl rfl rfl ?_
         refine WL.e rfl rfl rfl ?_
         refine WL.a (d:=46) rfl rfl rfl (ys rfl rfl) ?_
         subst zkO
         exact WL.ya z8o zp8 (.cons rfl (.cons rfl (.cons rfl (.cons rfl (.cons rfl (.cons rfl (.cons rfl (.cons rfl (.cons rfl .nil))))))))) (.cons .here (.cons .here (.cons .here (.cons .here .nil))))
        ·have zpb:=hb'; clear hb'
         have zau:=yk zp7 zpb
         obtain ⟨zhb,zuB,zau⟩:=zb zau
         obtain ⟨zhc,zuC,zau⟩:=zb zau
         obtain ⟨zfi,zuD,zau⟩:=zb zau
         replace zau:=Option.some.inj zau
         refine WL.pin (i:=39) rfl zpb ?_
         refine WL.a (d:=40) rfl rfl rfl (q_m rfl) ?_
         refine WL.a (d:=41) rfl rfl rfl (y6 (cs:=[(.int .i64 ((nth zJ.1 z1G).fN)),(.int .i64 ((nth zJ.1 z1G).fD))]) y5 rfl rfl (y7 .h1)) ?_
         refine WL.b (dd:=42) rfl rfl rfl (zl (l:=[.tmp 41]) Try.call71 (.cons rfl .nil)) (.nil : Sel [z1I z8o z69.2,stb z6J 30 [(.int .i64 ((nth zJ.1 z1G).fN)),(.int .i64 ((nth zJ.1 z1G).fD))],fz (z3q ++ z5z),row (.slice (some ⟨z5R,0,none⟩) zJ.1.length z4v) 30 2 (zJ.1.flatMap e30)] [] [z1I z8o z69.2,stb z6J 30 [(.int .i64 ((nth zJ.1 z1G).fN)),(.int .i64 ((nth zJ.1 z1G).fD))],fz (z3q ++ z5z),row (.slice (some ⟨z5R,0,none⟩) zJ.1.length z4v) 30 2 (zJ.1.flatMap e30)]) (fun w hw=>by have pz:=(hz.call2 hw (.nil : Sel [z1I z8o z69.2,stb z6J 30 [(.int .i64 ((nth zJ.1 z1G).fN)),(.int .i64 ((nth zJ.1 z1G).fD))],fz (z3q ++ z5z),row (.slice (some ⟨z5R,0,none⟩) zJ.1.length z4v) 30 2 (zJ.1.flatMap e30)] [] [z1I z8o z69.2,stb z6J 30 [(.int .i64 ((nth zJ.1 z1G).fN)),(.int .i64 ((nth zJ.1 z1G).fD))],fz (z3q ++ z5z),row (.slice (some ⟨z5R,0,none⟩) zJ.1.length z4v) 30 2 (zJ.1.flatMap e30)]) .h2); exact y5I (Z:=_)  (z32:=(⟨((nth zJ.1 z1G).fN),((nth zJ.1 z1G).fD)⟩ : z2)) (r:=zhb) w pz  zuB) ?_
         refine WL.b (dd:=43) rfl rfl rfl (zl (l:=[.tmp 42]) Try.call65 (.cons rfl .nil)) (.nil : Sel [z1I z8o z69.2,stb z6J 30 [(.int .i64 ((nth zJ.1 z1G).fN)),(.int .i64 ((nth zJ.1 z1G).fD))],fz (z3q ++ z5z),row (.slice (some ⟨z5R,0,none⟩) zJ.1.length z4v) 30 2 (zJ.1.flatMap e30)] [] [z1I z8o z69.2,stb z6J 30 [(.int .i64 ((nth zJ.1 z1G).fN)),(.int .i64 ((nth zJ.1 z1G).fD))],fz (z3q ++ z5z),row (.slice (some ⟨z5R,0,none⟩) zJ.1.length z4v) 30 2 (zJ.1.flatMap e30)]) (fun w hw=>by have pz:=(hz.call2 hw (.nil : Sel [z1I z8o z69.2,stb z6J 30 [(.int .i64 ((nth zJ.1 z1G).fN)),(.int .i64 ((nth zJ.1 z1G).fD))],fz (z3q ++ z5z),row (.slice (some ⟨z5R,0,none⟩) zJ.1.length z4v) 30 2 (zJ.1.flatMap e30)] [] [z1I z8o z69.2,stb z6J 30 [(.int .i64 ((nth zJ.1 z1G).fN)),(.int .i64 ((nth zJ.1 z1G).fD))],fz (z3q ++ z5z),row (.slice (some ⟨z5R,0,none⟩) zJ.1.length z4v) 30 2 (zJ.1.flatMap e30)]) .h2); exact y1S (Z:=_)  (z65:=zhb) (r:=zhc) w pz  zuC) ?_
         refine WL.yield (dd:=44) (x:=zhc) (h:=()) (g:=z8o) (s:=z69.2) (b:=zfi.1) (s':=zfi.2) zfn rfl rfl rfl (.cons rfl .nil) ((.cons .here .nil) : Sel _ [z1I z8o z69.2] _) zuD zp8 (fun w hw=>hz.call hw ((.cons .here .nil) : Sel _ [z1I z8o z69.2] _)) ?_
         intro zuE zuF
         refine WL.a (d:=45) rfl rfl rfl (y1n rfl) ?_
         refine WL.a (d:=46) rfl rfl rfl (yr rfl rfl) ?_
         subst zau
         exact WL.ya zuE zuF (.cons rfl (.cons rfl (.cons rfl (.cons rfl (.cons rfl (.cons rfl (.cons rfl (.cons rfl (.cons rfl .nil))))))))) (.cons .here (.cons .here (.cons .here (.cons .here .nil))))
       ·skip
        refine WL.nil ?_
        refine WX.a ?_
        refine WC.cond rfl (fun zkP=>?_) (fun zkP=>?_)
        ·replace h:=yj h zkP
         refine WC.ret ?_
         refine WX.yt ?_
         refine WX.y8 ?_
         refine WX.y8 ?_
         refine WX.yt ?_
         refine WX.y8 ?_
         refine WX.yt ?_
         refine WX.y8 ?_
         refine WX.y8 ?_
         refine WX.yt ?_
         refine WX.y8 ?_
         obtain rfl:=Option.some.inj h
         refine WX.y9 Try.results69 .nil (fun w hw=>?_)
         exact ⟨(z3q ++ z5z),zcA,y5r,zp9,hw.sub (.cons .h2 (.cons .here .nil))⟩
        ·replace h:=yk h zkP
         refine WC.skip ?_
         refine WX.yn ?_
         refine WX.a ?_
         refine WC.a ?_
         refine WL.a (d:=47) rfl rfl rfl (y1d rfl rfl rfl) ?_
         refine WL.a (d:=29) rfl rfl rfl (q_m rfl) ?_
         refine WL.nil ?_
         exact WX.round (G:=Nat × Int × zH × Option Addr × Nat × z2K) ⟨zkD,(i64 (z1G + 1)),zbi.2,(some ⟨z5R,0,none⟩),z4v,zcA⟩ ⟨h,zp9⟩ (Nat.lt_succ_self _) (.cons rfl (.cons rfl (.cons rfl (.cons rfl (.cons rfl (.cons rfl (.cons rfl (.cons rfl .nil)))))))) (.cons .h2 (.cons .h2 (.cons .here .nil)))
      ·replace h:=yk h zkN
       refine WC.exit ?_
       refine WX.ym ?_
       refine WX.ym ?_
       refine WX.yH ?_
       exact WX.mid (G:=zH × z2K) ⟨z4N,z6c⟩ ⟨h,zp6⟩ (.cons rfl (.cons rfl (.cons rfl (.cons rfl (.cons rfl .nil))))) (.cons .here (.cons .h1 .nil))
     ·rintro z9w zdW ⟨h,zuG⟩
      replace h:=(zux z9w).symm.trans h
      refine WX.yn ?_
      exact WX.mid (G:=zH × Zp × z2K) ⟨z9w,(z3q ++ z5z),zdW⟩ ⟨h,((Zle.left _ _).trans (Zle.yi _ _ _)),zuG⟩ (.cons rfl (.cons rfl (.cons rfl (.cons rfl (.cons rfl .nil))))) (.cons .here (.cons .here .nil))
    ·rintro z9v zdU zdV ⟨h,zuH,zuI⟩
     replace h:=(zuo z9v).symm.trans h
     refine WC.a ?_
     refine WL.a (d:=48) rfl rfl rfl (y1d rfl rfl rfl) ?_
     refine WL.a (d:=18) rfl rfl rfl (q_m rfl) ?_
     refine WL.nil ?_
     exact WX.round (G:=Nat × Int × zH × Zp × z2K) ⟨zkE,(i64 (z5C + 1)),z9v,zdU,zdV⟩ ⟨h,(zhi.trans zuH),zuI⟩ (Nat.lt_succ_self _) (.cons rfl (.cons rfl (.cons rfl (.cons rfl (.cons rfl .nil))))) (.cons .here (.cons .here .nil))
   ·replace h:=yk h zkM
    refine WC.exit ?_
    refine WX.ym ?_
    refine WX.ym ?_
    refine WX.yH ?_
    exact WX.mid (G:=zH × Zp × z2K) ⟨z6a,z3q,z8n⟩ ⟨h,zhi,zp5⟩ (.cons rfl (.cons rfl .nil)) (.cons .here (.cons .here .nil))
  ·rintro z9x z4f zdS ⟨h,zpc,zuJ⟩
   replace h:=(zun z9x).symm.trans h
   refine WC.b ?_
   refine WC.a ?_
   refine WL.a (d:=49) rfl rfl rfl (y4 y9D rfl rfl) ?_
   refine WL.a (d:=50) rfl rfl rfl (ye y3y rfl (y1O (hz.pv2 .here) (zp1.mono ((Zle.left _ _).trans zpc)) rfl)) ?_
   refine WL.a (d:=51) rfl rfl rfl (y1k Try.underlying77 rfl) ?_
   refine WL.a (d:=52) rfl rfl rfl (q_m rfl) ?_
   refine WL.nil ?_
   refine WX.a ?_
   obtain ⟨zas,zuK,h⟩:=y1r h
   refine WC.y5V (fun (zat : zH) (zdZ : z2K)=>(zas zat = some r) ∧ (z7Z zdZ zat)) (fun (zat : zH) (zdZ : z2K)=>[]) (fun (zat : zH) (zdZ : z2K)=>[fz z4f,z1I zdZ zat]) ?_ ?_
   ·skip
    refine WC.block ?_
    refine WC.y48 (fun (ze0 : Nat) (z1H : Int) (z4O : zH) (z6d : z2K)=>(yM zH z1x z4e zas ze0 z1H z4O = some r) ∧ (z7Z z6d z4O)) (fun (ze0 : Nat) (z1H : Int) (z4O : zH) (z6d : z2K)=>[(0,(.func (.yield z7Y) #[] #[])),(50,(.slice zfl z1x.length zfm)),(51,(.int .i64 ((z1x.length : Nat) : Int))),(52,(.int .i64 z1H))]) (fun (ze0 : Nat) (z1H : Int) (z4O : zH) (z6d : z2K)=>[fz z4f,z1I z6d z4O]) (fun (ze0 : Nat) (z1H : Int) (z4O : zH) (z6d : z2K)=>ze0) ⟨yw,0,z9x,zdS⟩ ⟨h,zuJ⟩ (.cons rfl (.cons rfl (.cons rfl (.cons rfl .nil)))) (.cons .here (.cons .here .nil)) ?_
    rintro ze0 z1H z4O z6d ⟨h,zpd⟩
    obtain ⟨zkG,rfl⟩:=y4s h
    rw [yM] at h
    refine WC.b ?_
    refine WC.a ?_
    refine WL.a (d:=53) rfl rfl rfl (y1h rfl rfl) ?_
    refine WL.nil ?_
    refine WX.a ?_
    refine WC.b ?_
    refine WC.cond rfl (fun zkQ=>?_) (fun zkQ=>?_)
    ·replace h:=yj h zkQ
     refine WC.skip ?_
     refine WX.a ?_
     refine WC.b ?_
     refine WC.block ?_
     refine WC.b ?_
     obtain ⟨zuL,h⟩:=yp h
     refine WC.a ?_
     refine WL.znth (dd:=54) rfl rfl (Z:=(Z ++ z4f)) (Pr:=(fun r x=>r = e30 x)) y1H rfl rfl (zuk.mono ((Zle.left _ _).trans zpc)) zuL ?_
     rintro zAn zAo zuM zAp rfl
     refine WL.a (d:=55) rfl rfl rfl (y6 (cs:=[(.int .i64 ((nth z1x z1H).fN)),(.int .i64 ((nth z1x z1H).fD))]) y5 rfl rfl (y2T (hz.pv2 .here) zuM)) ?_
     refine WL.new (dd:=10) rfl rfl rfl (yh (cs:=[(.int .i64 0),(.int .i64 0)]) yo rfl) ?_
     intro z6K _
     refine WL.yc rfl rfl (yd (vs:=[(.int .i64 ((nth z1x z1H).fN)),(.int .i64 ((nth z1x z1H).fD))]) (ds:=[(.int .i64 ((nth z1x z1H).fN)),(.int .i64 ((nth z1x z1H).fD))]) yl rfl rfl rfl rfl (y3 rfl (y3 rfl yf)) .here (Nat.le_of_ble_eq_true rfl) rfl) ?_
     refine WL.nil ?_
     refine WX.a ?_
     refine WC.b ?_
     obtain ⟨zhd,zuN,h⟩:=zb h
     obtain ⟨zhe,zuO,h⟩:=zb h
     obtain ⟨z6b,zuP,h⟩:=zb h
     obtain ⟨zbj,zpe,h⟩:=zb h
     refine WC.a ?_
     refine WL.a (d:=56) rfl rfl rfl (q_m rfl) ?_
     refine WL.a (d:=57) rfl rfl rfl (y6 (cs:=[(.int .i64 ((nth z1x z1H).fN)),(.int .i64 ((nth z1x z1H).fD))]) y5 rfl rfl (y7 .here)) ?_
     refine WL.b (dd:=58) rfl rfl rfl (zl (l:=[.tmp 57]) Try.call70 (.cons rfl .nil)) (.nil : Sel [stb z6K 30 [(.int .i64 ((nth z1x z1H).fN)),(.int .i64 ((nth z1x z1H).fD))],fz z4f,z1I z6d z4O] [] [stb z6K 30 [(.int .i64 ((nth z1x z1H).fN)),(.int .i64 ((nth z1x z1H).fD))],fz z4f,z1I z6d z4O]) (fun w hw=>by have pz:=(hz.call2 hw (.nil : Sel [stb z6K 30 [(.int .i64 ((nth z1x z1H).fN)),(.int .i64 ((nth z1x z1H).fD))],fz z4f,z1I z6d z4O] [] [stb z6K 30 [(.int .i64 ((nth z1x z1H).fN)),(.int .i64 ((nth z1x z1H).fD))],fz z4f,z1I z6d z4O]) .h1); exact y4x (Z:=_)  (z3d:=(⟨((nth z1x z1H).fN),((nth z1x z1H).fD)⟩ : z2)) (r:=zhd) w pz  zuN) ?_
     refine WL.b (dd:=59) rfl rfl rfl (zl (l:=[.tmp 58]) Try.call65 (.cons rfl .nil)) (.nil : Sel [stb z6K 30 [(.int .i64 ((nth z1x z1H).fN)),(.int .i64 ((nth z1x z1H).fD))],fz z4f,z1I z6d z4O] [] [stb z6K 30 [(.int .i64 ((nth z1x z1H).fN)),(.int .i64 ((nth z1x z1H).fD))],fz z4f,z1I z6d z4O]) (fun w hw=>by have pz:=(hz.call2 hw (.nil : Sel [stb z6K 30 [(.int .i64 ((nth z1x z1H).fN)),(.int .i64 ((nth z1x z1H).fD))],fz z4f,z1I z6d z4O] [] [stb z6K 30 [(.int .i64 ((nth z1x z1H).fN)),(.int .i64 ((nth z1x z1H).fD))],fz z4f,z1I z6d z4O]) .h1); exact y1S (Z:=_)  (z65:=zhd) (r:=zhe) w pz  zuO) ?_
     refine WL.yield (dd:=60) (x:=zhe) (h:=()) (g:=z6d) (s:=z4O) (b:=z6b.1) (s':=z6b.2) zfn rfl rfl rfl (.cons rfl .nil) ((.cons .h2 .nil) : Sel _ [z1I z6d z4O] _) zuP zpd (fun w hw=>hz.call hw ((.cons .h2 .nil) : Sel _ [z1I z6d z4O] _)) ?_
     intro z8p zpf
     refine WL.a (d:=61) rfl rfl rfl (y1n rfl) ?_
     refine WL.a (d:=62) rfl rfl rfl (q_m rfl) ?_
     refine WL.y5R (fun (zcB : z2K)=>z7Z zcB zbj.2) (fun (zcB : z2K)=>[(0,(.func (.yield z7Y) #[] #[])),(50,(.slice zfl z1x.length zfm)),(51,(.int .i64 ((z1x.length : Nat) : Int))),(52,(.int .i64 z1H)),(69,(.bool zbj.1))]) (fun (zcB : z2K)=>[z1I zcB zbj.2,stb z6K 30 [(.int .i64 ((nth z1x z1H).fN)),(.int .i64 ((nth z1x z1H).fD))],fz z4f]) 7 ?_ (fun zcB zpg=>?_)
     ·rcases Bool.eq_false_or_eq_true (!z6b.1) with hb' | hb'
      ·have zph:=hb'; clear hb'
       have zkR:=yj zpe zph
       replace zkR:=Option.some.inj zkR
       refine WL.pin (i:=62) rfl zph ?_
       refine WL.e rfl rfl rfl ?_
       refine WL.e rfl rfl rfl ?_
       refine WL.e rfl rfl rfl ?_
       refine WL.e rfl rfl rfl ?_
       refine WL.e rfl rfl rfl ?_
       refine WL.e rfl rfl rfl ?_
       refine WL.a (d:=69) rfl rfl rfl (ys rfl rfl) ?_
       subst zkR
       exact WL.ya z8p zpf (.cons rfl (.cons rfl (.cons rfl (.cons rfl (.cons rfl .nil))))) (.cons .here (.cons .here (.cons .here .nil)))
      ·have zpi:=hb'; clear hb'
       have zav:=yk zpe zpi
       obtain ⟨zhf,zuQ,zav⟩:=zb zav
       obtain ⟨zhg,zuR,zav⟩:=zb zav
       obtain ⟨zfj,zuS,zav⟩:=zb zav
       replace zav:=Option.some.inj zav
       refine WL.pin (i:=62) rfl zpi ?_
       refine WL.a (d:=63) rfl rfl rfl (q_m rfl) ?_
       refine WL.a (d:=64) rfl rfl rfl (y6 (cs:=[(.int .i64 ((nth z1x z1H).fN)),(.int .i64 ((nth z1x z1H).fD))]) y5 rfl rfl (y7 .h1)) ?_
       refine WL.b (dd:=65) rfl rfl rfl (zl (l:=[.tmp 64]) Try.call71 (.cons rfl .nil)) (.nil : Sel [z1I z8p z6b.2,stb z6K 30 [(.int .i64 ((nth z1x z1H).fN)),(.int .i64 ((nth z1x z1H).fD))],fz z4f] [] [z1I z8p z6b.2,stb z6K 30 [(.int .i64 ((nth z1x z1H).fN)),(.int .i64 ((nth z1x z1H).fD))],fz z4f]) (fun w hw=>by have pz:=(hz.call2 hw (.nil : Sel [z1I z8p z6b.2,stb z6K 30 [(.int .i64 ((nth z1x z1H).fN)),(.int .i64 ((nth z1x z1H).fD))],fz z4f] [] [z1I z8p z6b.2,stb z6K 30 [(.int .i64 ((nth z1x z1H).fN)),(.int .i64 ((nth z1x z1H).fD))],fz z4f]) .h2); exact y5I (Z:=_)  (z32:=(⟨((nth z1x z1H).fN),((nth z1x z1H).fD)⟩ : z2)) (r:=zhf) w pz  zuQ) ?_
       refine WL.b (dd:=66) rfl rfl rfl (zl (l:=[.tmp 65]) Try.call65 (.cons rfl .nil)) (.nil : Sel [z1I z8p z6b.2,stb z6K 30 [(.int .i64 ((nth z1x z1H).fN)),(.int .i64 ((nth z1x z1H).fD))],fz z4f] [] [z1I z8p z6b.2,stb z6K 30 [(.int .i64 ((nth z1x z1H).fN)),(.int .i64 ((nth z1x z1H).fD))],fz z4f]) (fun w hw=>by have pz:=(hz.call2 hw (.nil : Sel [z1I z8p z6b.2,stb z6K 30 [(.int .i64 ((nth z1x z1H).fN)),(.int .i64 ((nth z1x z1H).fD))],fz z4f] [] [z1I z8p z6b.2,stb z6K 30 [(.int .i64 ((nth z1x z1H).fN)),(.int .i64 ((nth z1x z1H).fD))],fz z4f]) .h2); exact y1S (Z:=_)  (z65:=zhf) (r:=zhg) w pz  zuR) ?_
       refine WL.yield (dd:=67) (x:=zhg) (h:=()) (g:=z8p) (s:=z6b.2) (b:=zfj.1) (s':=zfj.2) zfn rfl rfl rfl (.cons rfl .nil) ((.cons .here .nil) : Sel _ [z1I z8p z6b.2] _) zuS zpf (fun w hw=>hz.call hw ((.cons .here .nil) : Sel _ [z1I z8p z6b.2] _)) ?_
       intro zuT zuU
       refine WL.a (d:=68) rfl rfl rfl (y1n rfl) ?_
       refine WL.a (d:=69) rfl rfl rfl (yr rfl rfl) ?_
       subst zav
       exact WL.ya zuT zuU (.cons rfl (.cons rfl (.cons rfl (.cons rfl (.cons rfl .nil))))) (.cons .here (.cons .here (.cons .here .nil)))
     ·skip
      refine WL.nil ?_
      refine WX.a ?_
      refine WC.cond rfl (fun zkS=>?_) (fun zkS=>?_)
      ·replace h:=yj h zkS
       refine WC.ret ?_
       refine WX.yt ?_
       refine WX.y8 ?_
       refine WX.y8 ?_
       refine WX.yt ?_
       refine WX.y8 ?_
       obtain rfl:=Option.some.inj h
       refine WX.y9 Try.results69 .nil (fun w hw=>?_)
       exact ⟨z4f,zcB,y5r,zpg,hw.sub (.cons .h2 (.cons .here .nil))⟩
      ·replace h:=yk h zkS
       refine WC.skip ?_
       refine WX.yn ?_
       refine WX.a ?_
       refine WC.a ?_
       refine WL.a (d:=70) rfl rfl rfl (y1d rfl rfl rfl) ?_
       refine WL.a (d:=52) rfl rfl rfl (q_m rfl) ?_
       refine WL.nil ?_
       exact WX.round (G:=Nat × Int × zH × z2K) ⟨zkG,(i64 (z1H + 1)),zbj.2,zcB⟩ ⟨h,zpg⟩ (Nat.lt_succ_self _) (.cons rfl (.cons rfl (.cons rfl (.cons rfl .nil)))) (.cons .h2 (.cons .here .nil))
    ·replace h:=yk h zkQ
     refine WC.exit ?_
     refine WX.ym ?_
     refine WX.ym ?_
     refine WX.yH ?_
     exact WX.mid (G:=zH × z2K) ⟨z4O,z6d⟩ ⟨h,zpd⟩ .nil (.cons .here (.cons .here .nil))
   ·rintro zat zdZ ⟨h,zuV⟩
    replace h:=(zuK zat).symm.trans h
    obtain rfl:=Option.some.inj h
    refine WX.y4u Try.results69 .nil (fun w hw=>?_)
    exact ⟨z4f,zdZ,y5r,zuV,hw.sub (.cons .here (.cons .here .nil))⟩
def y5J (zcC : z2) (zcD : z2) : Option (Int × Int) :=
 some ((i64 (zcC.fN * zcD.fN)),(i64 (zcC.fD * zcD.fD)))
set_option maxRecDepth 20000 in
theorem y9T (Z : Zp)  (zfp : Addr) (zfq : Addr) (zcC : z2) (zcD : z2) (r : Int × Int) (w₀ : World) (hz : PZ [] w₀ Z)
  (zpj : ZC Z zfp [(.int .i64 zcC.fN),(.int .i64 zcC.fD)])
  (zpk : ZC Z zfq [(.int .i64 zcD.fN),(.int .i64 zcD.fD)])
  (h : y5J zcC zcD = some r) :
  Calls Try.prog 56 #[(.pointer (some zfp)),(.pointer (some zfq))] w₀ fun e w'=>e = .returned (.tuple #[(.int .i64 r.1),(.int .i64 r.2)]) ∧ Hp [] w₀ w' []:=by
 unfold y5J at h
 refine Calls.yg (vs:=[(.pointer (some zfp)),(.pointer (some zfq))]) (pre:=[]) (env:=[(0,(.pointer (some zfp))),(1,(.pointer (some zfq)))]) Try.func56 rfl Try.ntmps56 rfl (Hp.nil w₀ _) rfl ?_
 refine WC.b ?_
 refine WC.a ?_
 refine WL.a (d:=2) rfl rfl rfl (q_z rfl) ?_
 refine WL.a (d:=3) rfl rfl rfl (q_z rfl) ?_
 refine WL.nil ?_
 refine WX.a ?_
 refine WC.b ?_
 refine WC.y1e (fun i=>[].contains i) [] rfl ?_
 refine WD.a (i:=0) (d:=4) (by kernel_rfl) rfl (z6 (by kernel_rfl)) (z7 (by kernel_rfl)) rfl rfl rfl (fun _=>y4 y1J rfl rfl) ?_
 refine WD.e (i:=1) (d:=5) (by kernel_rfl) rfl (z6 (by kernel_rfl)) (z7 (by kernel_rfl)) rfl rfl rfl (ye yx rfl (y1O hz.pv zpj rfl)) ?_
 refine WD.a (i:=2) (d:=6) (by kernel_rfl) rfl (z6 (by kernel_rfl)) (z7 (by kernel_rfl)) rfl rfl rfl (fun _=>y4 y1J rfl rfl) ?_
 refine WD.e (i:=3) (d:=7) (by kernel_rfl) rfl (z6 (by kernel_rfl)) (z7 (by kernel_rfl)) rfl rfl rfl (ye yx rfl (y1O hz.pv zpk rfl)) ?_
 refine WD.a (i:=4) (d:=8) (by kernel_rfl) rfl (z6 (by kernel_rfl)) (z7 (by kernel_rfl)) rfl rfl rfl (fun _=>y4d rfl rfl rfl) ?_
 refine WD.a (i:=5) (d:=9) (by kernel_rfl) rfl (z6 (by kernel_rfl)) (z7 (by kernel_rfl)) rfl rfl rfl (fun _=>y4 y21 rfl rfl) ?_
 refine WD.e (i:=6) (d:=10) (by kernel_rfl) rfl (z6 (by kernel_rfl)) (z7 (by kernel_rfl)) rfl rfl rfl (ye yx rfl (y1O hz.pv zpj rfl)) ?_
 refine WD.a (i:=7) (d:=11) (by kernel_rfl) rfl (z6 (by kernel_rfl)) (z7 (by kernel_rfl)) rfl rfl rfl (fun _=>y4 y21 rfl rfl) ?_
 refine WD.e (i:=8) (d:=12) (by kernel_rfl) rfl (z6 (by kernel_rfl)) (z7 (by kernel_rfl)) rfl rfl rfl (ye yx rfl (y1O hz.pv zpk rfl)) ?_
 refine WD.a (i:=9) (d:=13) (by kernel_rfl) rfl (z6 (by kernel_rfl)) (z7 (by kernel_rfl)) rfl rfl rfl (fun _=>y4d rfl rfl rfl) ?_
 refine WD.a (i:=10) (d:=2) (by kernel_rfl) rfl (z6 (by kernel_rfl)) (z7 (by kernel_rfl)) rfl rfl rfl (fun _=>q_z rfl) ?_
 refine WD.a (i:=11) (d:=3) (by kernel_rfl) rfl (z6 (by kernel_rfl)) (z7 (by kernel_rfl)) rfl rfl rfl (fun _=>q_z rfl) ?_
 refine WD.done (by kernel_rfl) ?_
 refine WX.a ?_
 refine WC.ret ?_
 obtain rfl:=Option.some.inj h
 refine WX.y9 Try.results56 (.tmp rfl (.tmp rfl .nil)) (fun w hw=>?_)
 exact ⟨y1I rfl rfl,hw.sub .nil⟩
def y6x (z1k : z2) (z1l : z2) : Option (z2 × Int) :=
 (y1i z1k).bind fun zhj=>(if !zhj then some true else (y1i z1l).bind fun zkT=>some (!zkT)).bind fun zfr=>if zfr then some ((⟨0,0⟩ : z2),2) else (y5J z1k z1l).bind fun ze1=>(y20 ze1.1 ze1.2).bind fun zbm=>some (zbm.1,zbm.2)
set_option maxRecDepth 20000 in
theorem yad (Z : Zp)   (z1k : z2) (z1l : z2) (r : z2 × Int) (w₀ : World) (hz : PZ [] w₀ Z)
  (h : y6x z1k z1l = some r) :
  Calls Try.prog 40 #[(.string ⟨#[42]⟩),(.agg #[(.int .i64 z1k.fN),(.int .i64 z1k.fD)]),(.agg #[(.int .i64 z1l.fN),(.int .i64 z1l.fD)])] w₀ fun e w'=>e = .returned (.tuple #[(.agg #[(.int .i64 r.1.fN),(.int .i64 r.1.fD)]),(.int .i64 r.2)]) ∧ Hp [] w₀ w' []:=by
 unfold y6x at h
 refine Calls.yg (vs:=[(.string ⟨#[42]⟩),(.agg #[(.int .i64 z1k.fN),(.int .i64 z1k.fD)]),(.agg #[(.int .i64 z1l.fN),(.int .i64 z1l.fD)])]) (pre:=[]) (env:=[(0,(.string ⟨#[42]⟩)),(1,(.agg #[(.int .i64 z1k.fN),(.int .i64 z1k.fD)])),(2,(.agg #[(.int .i64 z1l.fN),(.int .i64 z1l.fD)]))]) Try.func40 rfl Try.ntmps40 rfl (Hp.nil w₀ _) rfl ?_
 refine WC.b ?_
 refine WC.a ?_
 refine WL.new (dd:=4) rfl rfl rfl (yK (cs:=[(.int .i64 z1k.fN),(.int .i64 z1k.fD)]) rfl rfl) ?_
 intro zX _
 refine WL.new (dd:=5) rfl rfl rfl (yK (cs:=[(.int .i64 z1l.fN),(.int .i64 z1l.fD)]) rfl rfl) ?_
 intro zY _
 refine WL.new (dd:=6) rfl rfl rfl (yh (cs:=[(.int .i64 0),(.int .i64 0)]) yo rfl) ?_
 intro z4r _
 refine WL.a (d:=7) rfl rfl rfl (q_z rfl) ?_
 refine WL.nil ?_
 refine WX.a ?_
 refine WC.b ?_
 refine WC.b ?_
 obtain ⟨zhj,zuW,h⟩:=zb h
 obtain ⟨zfr,zpl,h⟩:=zb h
 refine WC.a ?_
 refine WL.a (d:=9) rfl rfl rfl (y6 (cs:=[(.int .i64 z1k.fN),(.int .i64 z1k.fD)]) y5 rfl rfl (y7 .h2)) ?_
 refine WL.b (dd:=10) rfl rfl rfl (zl (l:=[.tmp 9]) Try.call39 (.cons rfl .nil)) (.nil : Sel [stb z4r 30 [(.int .i64 0),(.int .i64 0)],stb zY 30 [(.int .i64 z1l.fN),(.int .i64 z1l.fD)],stb zX 30 [(.int .i64 z1k.fN),(.int .i64 z1k.fD)]] [] [stb z4r 30 [(.int .i64 0),(.int .i64 0)],stb zY 30 [(.int .i64 z1l.fN),(.int .i64 z1l.fD)],stb zX 30 [(.int .i64 z1k.fN),(.int .i64 z1k.fD)]]) (fun w hw=>by have pz:=(hz.call hw (.nil : Sel [stb z4r 30 [(.int .i64 0),(.int .i64 0)],stb zY 30 [(.int .i64 z1l.fN),(.int .i64 z1l.fD)],stb zX 30 [(.int .i64 z1k.fN),(.int .i64 z1k.fD)]] [] [stb z4r 30 [(.int .i64 0),(.int .i64 0)],stb zY 30 [(.int .i64 z1l.fN),(.int .i64 z1l.fD)],stb zX 30 [(.int .i64 z1k.fN),(.int .i64 z1k.fD)]])); exact y1F (Z:=_)  (z1p:=z1k) (r:=zhj) w pz  zuW) ?_
 refine WL.a (d:=11) rfl rfl rfl (y1n rfl) ?_
 refine WL.a (d:=12) rfl rfl rfl (q_m rfl) ?_
 refine WL.yF True [(0,(.string ⟨#[42]⟩)),(4,(.pointer (some ⟨zX,0,none⟩))),(5,(.pointer (some ⟨zY,0,none⟩))),(6,(.pointer (some ⟨z4r,0,none⟩))),(16,(.bool zfr))] [stb z4r 30 [(.int .i64 0),(.int .i64 0)],stb zY 30 [(.int .i64 z1l.fN),(.int .i64 z1l.fD)],stb zX 30 [(.int .i64 z1k.fN),(.int .i64 z1k.fD)]] 4 ?_ (fun _=>?_)
 ·rcases Bool.eq_false_or_eq_true (!zhj) with hb' | hb'
  ·have zpm:=hb'; clear hb'
   have zkU:=yj zpl zpm
   replace zkU:=Option.some.inj zkU
   refine WL.pin (i:=12) rfl zpm ?_
   refine WL.e rfl rfl rfl ?_
   refine WL.e rfl rfl rfl ?_
   refine WL.e rfl rfl rfl ?_
   refine WL.a (d:=16) rfl rfl rfl (ys rfl rfl) ?_
   exact WL.ya () trivial (.cons rfl (.cons rfl (.cons rfl (.cons rfl (.cons (zt zkU) .nil))))) (.cons .here (.cons .here (.cons .here .nil)))
  ·have zpn:=hb'; clear hb'
   have zfs:=yk zpl zpn
   obtain ⟨zkT,zuX,zfs⟩:=zb zfs
   replace zfs:=Option.some.inj zfs
   refine WL.pin (i:=12) rfl zpn ?_
   refine WL.a (d:=13) rfl rfl rfl (y6 (cs:=[(.int .i64 z1l.fN),(.int .i64 z1l.fD)]) y5 rfl rfl (y7 .h1)) ?_
   refine WL.b (dd:=14) rfl rfl rfl (zl (l:=[.tmp 13]) Try.call39 (.cons rfl .nil)) (.nil : Sel [stb z4r 30 [(.int .i64 0),(.int .i64 0)],stb zY 30 [(.int .i64 z1l.fN),(.int .i64 z1l.fD)],stb zX 30 [(.int .i64 z1k.fN),(.int .i64 z1k.fD)]] [] [stb z4r 30 [(.int .i64 0),(.int .i64 0)],stb zY 30 [(.int .i64 z1l.fN),(.int .i64 z1l.fD)],stb zX 30 [(.int .i64 z1k.fN),(.int .i64 z1k.fD)]]) (fun w hw=>by have pz:=(hz.call hw (.nil : Sel [stb z4r 30 [(.int .i64 0),(.int .i64 0)],stb zY 30 [(.int .i64 z1l.fN),(.int .i64 z1l.fD)],stb zX 30 [(.int .i64 z1k.fN),(.int .i64 z1k.fD)]] [] [stb z4r 30 [(.int .i64 0),(.int .i64 0)],stb zY 30 [(.int .i64 z1l.fN),(.int .i64 z1l.fD)],stb zX 30 [(.int .i64 z1k.fN),(.int .i64 z1k.fD)]])); exact y1F (Z:=_)  (z1p:=z1l) (r:=zkT) w pz  zuX) ?_
   refine WL.a (d:=15) rfl rfl rfl (y1n rfl) ?_
   refine WL.a (d:=16) rfl rfl rfl (yr rfl rfl) ?_
   exact WL.ya () trivial (.cons rfl (.cons rfl (.cons rfl (.cons rfl (.cons (zt zfs) .nil))))) (.cons .here (.cons .here (.cons .here .nil)))
 ·skip
  refine WL.a (d:=17) rfl rfl rfl (q_m rfl) ?_
  refine WL.yF True [(0,(.string ⟨#[42]⟩)),(4,(.pointer (some ⟨zX,0,none⟩))),(5,(.pointer (some ⟨zY,0,none⟩))),(6,(.pointer (some ⟨z4r,0,none⟩))),(25,(.bool zfr))] [stb z4r 30 [(.int .i64 0),(.int .i64 0)],stb zY 30 [(.int .i64 z1l.fN),(.int .i64 z1l.fD)],stb zX 30 [(.int .i64 z1k.fN),(.int .i64 z1k.fD)]] 8 ?_ (fun _=>?_)
  ·rcases Bool.eq_false_or_eq_true zfr with hb' | hb'
   ·have zpo:=hb'; clear hb'
    refine WL.pin (i:=17) rfl zpo ?_
    refine WL.e rfl rfl rfl ?_
    refine WL.e rfl rfl rfl ?_
    refine WL.e rfl rfl rfl ?_
    refine WL.e rfl rfl rfl ?_
    refine WL.e rfl rfl rfl ?_
    refine WL.e rfl rfl rfl ?_
    refine WL.e rfl rfl rfl ?_
    refine WL.a (d:=25) rfl rfl rfl (ys rfl rfl) ?_
    exact WL.ya () trivial (.cons rfl (.cons rfl (.cons rfl (.cons rfl (.cons (zt (Eq.symm zpo)) .nil))))) (.cons .here (.cons .here (.cons .here .nil)))
   ·have zpp:=hb'; clear hb'
    refine WL.pin (i:=17) rfl zpp ?_
    refine WL.a (d:=18) rfl rfl rfl (q_m rfl) ?_
    refine WL.a (d:=19) rfl rfl rfl (y7C (r:=false) (by decide) rfl rfl) ?_
    refine WL.a (d:=20) rfl rfl rfl (q_m rfl) ?_
    refine WL.e rfl rfl rfl ?_
    refine WL.e rfl rfl rfl ?_
    refine WL.e rfl rfl rfl ?_
    refine WL.a (d:=24) rfl rfl rfl (yr rfl rfl) ?_
    refine WL.a (d:=25) rfl rfl rfl (yr rfl rfl) ?_
    exact WL.ya () trivial (.cons rfl (.cons rfl (.cons rfl (.cons rfl (.cons (zt (Eq.symm zpp)) .nil))))) (.cons .here (.cons .here (.cons .here .nil)))
  ·skip
   refine WL.nil ?_
   refine WX.a ?_
   refine WC.cond rfl (fun zkV=>?_) (fun zkV=>?_)
   ·replace h:=yj h zkV
    refine WC.b ?_
    refine WC.a ?_
    refine WL.a (d:=26) rfl rfl rfl (y1j (v:=(.agg #[(.int .i64 0),(.int .i64 0)])) (Eos.parts (l:=[]) .nil []) (fun _=>by kernel_rfl)) ?_
    refine WL.yc rfl rfl (yd (vs:=[(.int .i64 0),(.int .i64 0)]) (ds:=[(.int .i64 0),(.int .i64 0)]) yl rfl rfl rfl rfl (y3 rfl (y3 rfl yf)) .here (Nat.le_of_ble_eq_true rfl) rfl) ?_
    refine WL.a (d:=7) rfl rfl rfl (q_z rfl) ?_
    refine WL.nil ?_
    refine WX.a ?_
    refine WC.ret ?_
    refine WX.y8 ?_
    obtain rfl:=Option.some.inj h
    refine WX.y9 Try.results40 (.agg rfl y5 rfl (y7 .here) (.tmp rfl .nil)) (fun w hw=>?_)
    exact ⟨y1I rfl rfl,hw.sub .nil⟩
   ·replace h:=yk h zkV
    refine WC.skip ?_
    refine WX.a ?_
    refine WC.b ?_
    refine WC.a ?_
    refine WL.new (dd:=27) rfl rfl rfl (y6u Value.string (fun x=>x)) ?_
    intro z7J _
    refine WL.a (d:=28) rfl rfl rfl (y18 (Eos.caps (l:=[.tmp 4,.tmp 5]) (.cons rfl (.cons rfl .nil)))) ?_
    refine WL.yc rfl rfl (y2d (k:=⟨#[43]⟩) (v:=(.func (.func 54) #[] #[(.pointer (some ⟨zX,0,none⟩)),(.pointer (some ⟨zY,0,none⟩))])) y2p Try.underlying105 rfl rfl rfl rfl .here) ?_
    refine WL.a (d:=29) rfl rfl rfl (y18 (Eos.caps (l:=[.tmp 4,.tmp 5]) (.cons rfl (.cons rfl .nil)))) ?_
    refine WL.yc rfl rfl (y2d (k:=⟨#[45]⟩) (v:=(.func (.func 55) #[] #[(.pointer (some ⟨zX,0,none⟩)),(.pointer (some ⟨zY,0,none⟩))])) y2p Try.underlying105 rfl rfl rfl rfl .here) ?_
    refine WL.a (d:=30) rfl rfl rfl (y18 (Eos.caps (l:=[.tmp 4,.tmp 5]) (.cons rfl (.cons rfl .nil)))) ?_
    refine WL.yc rfl rfl (y2d (k:=⟨#[42]⟩) (v:=(.func (.func 56) #[] #[(.pointer (some ⟨zX,0,none⟩)),(.pointer (some ⟨zY,0,none⟩))])) y2p Try.underlying105 rfl rfl rfl rfl .here) ?_
    refine WL.a (d:=31) rfl rfl rfl (y18 (Eos.caps (l:=[.tmp 4,.tmp 5]) (.cons rfl (.cons rfl .nil)))) ?_
    refine WL.yc rfl rfl (y2d (k:=⟨#[47]⟩) (v:=(.func (.func 57) #[] #[(.pointer (some ⟨zX,0,none⟩)),(.pointer (some ⟨zY,0,none⟩))])) y2p Try.underlying105 rfl rfl rfl rfl .here) ?_
    refine WL.a (d:=32) rfl rfl rfl (q_m rfl) ?_
    refine WL.a (d:=8) rfl rfl rfl (q_z rfl) ?_
    refine WL.nil ?_
    refine WX.a ?_
    refine WC.b ?_
    obtain ⟨ze1,zuY,h⟩:=zb h
    obtain ⟨zbm,zuZ,h⟩:=zb h
    refine WC.a ?_
    refine WL.a (d:=33) rfl rfl rfl (q_m rfl) ?_
    refine WL.a (d:=34) rfl rfl rfl (q_m rfl) ?_
    refine WL.a (d:=35) rfl rfl rfl (y7B (k:=⟨#[42]⟩) (dflt:=.nilFunc) (r:=(.func (.func 56) #[] #[(.pointer (some ⟨zX,0,none⟩)),(.pointer (some ⟨zY,0,none⟩))])) y2p Try.underlying105 zgk rfl rfl rfl .here (by rfl)) ?_
    refine WL.b (dd:=36) rfl rfl rfl (y2f (l:=[]) Try.call56 rfl .nil) (.nil : Sel [yN z7J Value.string (fun x=>x) [(⟨#[43]⟩,(.func (.func 54) #[] #[(.pointer (some ⟨zX,0,none⟩)),(.pointer (some ⟨zY,0,none⟩))])),(⟨#[45]⟩,(.func (.func 55) #[] #[(.pointer (some ⟨zX,0,none⟩)),(.pointer (some ⟨zY,0,none⟩))])),(⟨#[42]⟩,(.func (.func 56) #[] #[(.pointer (some ⟨zX,0,none⟩)),(.pointer (some ⟨zY,0,none⟩))])),(⟨#[47]⟩,(.func (.func 57) #[] #[(.pointer (some ⟨zX,0,none⟩)),(.pointer (some ⟨zY,0,none⟩))]))],stb z4r 30 [(.int .i64 0),(.int .i64 0)],stb zY 30 [(.int .i64 z1l.fN),(.int .i64 z1l.fD)],stb zX 30 [(.int .i64 z1k.fN),(.int .i64 z1k.fD)]] [] [yN z7J Value.string (fun x=>x) [(⟨#[43]⟩,(.func (.func 54) #[] #[(.pointer (some ⟨zX,0,none⟩)),(.pointer (some ⟨zY,0,none⟩))])),(⟨#[45]⟩,(.func (.func 55) #[] #[(.pointer (some ⟨zX,0,none⟩)),(.pointer (some ⟨zY,0,none⟩))])),(⟨#[42]⟩,(.func (.func 56) #[] #[(.pointer (some ⟨zX,0,none⟩)),(.pointer (some ⟨zY,0,none⟩))])),(⟨#[47]⟩,(.func (.func 57) #[] #[(.pointer (some ⟨zX,0,none⟩)),(.pointer (some ⟨zY,0,none⟩))]))],stb z4r 30 [(.int .i64 0),(.int .i64 0)],stb zY 30 [(.int .i64 z1l.fN),(.int .i64 z1l.fD)],stb zX 30 [(.int .i64 z1k.fN),(.int .i64 z1k.fD)]]) (fun w hw=>by have pz:=(hz.call hw (.nil : Sel [yN z7J Value.string (fun x=>x) [(⟨#[43]⟩,(.func (.func 54) #[] #[(.pointer (some ⟨zX,0,none⟩)),(.pointer (some ⟨zY,0,none⟩))])),(⟨#[45]⟩,(.func (.func 55) #[] #[(.pointer (some ⟨zX,0,none⟩)),(.pointer (some ⟨zY,0,none⟩))])),(⟨#[42]⟩,(.func (.func 56) #[] #[(.pointer (some ⟨zX,0,none⟩)),(.pointer (some ⟨zY,0,none⟩))])),(⟨#[47]⟩,(.func (.func 57) #[] #[(.pointer (some ⟨zX,0,none⟩)),(.pointer (some ⟨zY,0,none⟩))]))],stb z4r 30 [(.int .i64 0),(.int .i64 0)],stb zY 30 [(.int .i64 z1l.fN),(.int .i64 z1l.fD)],stb zX 30 [(.int .i64 z1k.fN),(.int .i64 z1k.fD)]] [] [yN z7J Value.string (fun x=>x) [(⟨#[43]⟩,(.func (.func 54) #[] #[(.pointer (some ⟨zX,0,none⟩)),(.pointer (some ⟨zY,0,none⟩))])),(⟨#[45]⟩,(.func (.func 55) #[] #[(.pointer (some ⟨zX,0,none⟩)),(.pointer (some ⟨zY,0,none⟩))])),(⟨#[42]⟩,(.func (.func 56) #[] #[(.pointer (some ⟨zX,0,none⟩)),(.pointer (some ⟨zY,0,none⟩))])),(⟨#[47]⟩,(.func (.func 57) #[] #[(.pointer (some ⟨zX,0,none⟩)),(.pointer (some ⟨zY,0,none⟩))]))],stb z4r 30 [(.int .i64 0),(.int .i64 0)],stb zY 30 [(.int .i64 z1l.fN),(.int .i64 z1l.fD)],stb zX 30 [(.int .i64 z1k.fN),(.int .i64 z1k.fD)]])).lend hw (.nil : Sel [yN z7J Value.string (fun x=>x) [(⟨#[43]⟩,(.func (.func 54) #[] #[(.pointer (some ⟨zX,0,none⟩)),(.pointer (some ⟨zY,0,none⟩))])),(⟨#[45]⟩,(.func (.func 55) #[] #[(.pointer (some ⟨zX,0,none⟩)),(.pointer (some ⟨zY,0,none⟩))])),(⟨#[42]⟩,(.func (.func 56) #[] #[(.pointer (some ⟨zX,0,none⟩)),(.pointer (some ⟨zY,0,none⟩))])),(⟨#[47]⟩,(.func (.func 57) #[] #[(.pointer (some ⟨zX,0,none⟩)),(.pointer (some ⟨zY,0,none⟩))]))],stb z4r 30 [(.int .i64 0),(.int .i64 0)],stb zY 30 [(.int .i64 z1l.fN),(.int .i64 z1l.fD)],stb zX 30 [(.int .i64 z1k.fN),(.int .i64 z1k.fD)]] [] [yN z7J Value.string (fun x=>x) [(⟨#[43]⟩,(.func (.func 54) #[] #[(.pointer (some ⟨zX,0,none⟩)),(.pointer (some ⟨zY,0,none⟩))])),(⟨#[45]⟩,(.func (.func 55) #[] #[(.pointer (some ⟨zX,0,none⟩)),(.pointer (some ⟨zY,0,none⟩))])),(⟨#[42]⟩,(.func (.func 56) #[] #[(.pointer (some ⟨zX,0,none⟩)),(.pointer (some ⟨zY,0,none⟩))])),(⟨#[47]⟩,(.func (.func 57) #[] #[(.pointer (some ⟨zX,0,none⟩)),(.pointer (some ⟨zY,0,none⟩))]))],stb z4r 30 [(.int .i64 0),(.int .i64 0)],stb zY 30 [(.int .i64 z1l.fN),(.int .i64 z1l.fD)],stb zX 30 [(.int .i64 z1k.fN),(.int .i64 z1k.fD)]]) (B:=[stb zX 30 [(.int .i64 z1k.fN),(.int .i64 z1k.fD)],stb zY 30 [(.int .i64 z1l.fN),(.int .i64 z1l.fD)]]) (fun _ hx'=>((.cons .h3 (.cons .h2 .nil)) : Sel _ [stb zX 30 [(.int .i64 z1k.fN),(.int .i64 z1k.fD)],stb zY 30 [(.int .i64 z1l.fN),(.int .i64 z1l.fD)]] _).mem hx'); exact y9T (Z:=_) (zfp:=⟨zX,0,none⟩) (zfq:=⟨zY,0,none⟩) (zcC:=z1k) (zcD:=z1l) (r:=ze1) w pz ((hw.lent (.nil : Sel [yN z7J Value.string (fun x=>x) [(⟨#[43]⟩,(.func (.func 54) #[] #[(.pointer (some ⟨zX,0,none⟩)),(.pointer (some ⟨zY,0,none⟩))])),(⟨#[45]⟩,(.func (.func 55) #[] #[(.pointer (some ⟨zX,0,none⟩)),(.pointer (some ⟨zY,0,none⟩))])),(⟨#[42]⟩,(.func (.func 56) #[] #[(.pointer (some ⟨zX,0,none⟩)),(.pointer (some ⟨zY,0,none⟩))])),(⟨#[47]⟩,(.func (.func 57) #[] #[(.pointer (some ⟨zX,0,none⟩)),(.pointer (some ⟨zY,0,none⟩))]))],stb z4r 30 [(.int .i64 0),(.int .i64 0)],stb zY 30 [(.int .i64 z1l.fN),(.int .i64 z1l.fD)],stb zX 30 [(.int .i64 z1k.fN),(.int .i64 z1k.fD)]] [] [yN z7J Value.string (fun x=>x) [(⟨#[43]⟩,(.func (.func 54) #[] #[(.pointer (some ⟨zX,0,none⟩)),(.pointer (some ⟨zY,0,none⟩))])),(⟨#[45]⟩,(.func (.func 55) #[] #[(.pointer (some ⟨zX,0,none⟩)),(.pointer (some ⟨zY,0,none⟩))])),(⟨#[42]⟩,(.func (.func 56) #[] #[(.pointer (some ⟨zX,0,none⟩)),(.pointer (some ⟨zY,0,none⟩))])),(⟨#[47]⟩,(.func (.func 57) #[] #[(.pointer (some ⟨zX,0,none⟩)),(.pointer (some ⟨zY,0,none⟩))]))],stb z4r 30 [(.int .i64 0),(.int .i64 0)],stb zY 30 [(.int .i64 z1l.fN),(.int .i64 z1l.fD)],stb zX 30 [(.int .i64 z1k.fN),(.int .i64 z1k.fD)]]) (B:=[stb zX 30 [(.int .i64 z1k.fN),(.int .i64 z1k.fD)],stb zY 30 [(.int .i64 z1l.fN),(.int .i64 z1l.fD)]]) (fun _ hx'=>((.cons .h3 (.cons .h2 .nil)) : Sel _ [stb zX 30 [(.int .i64 z1k.fN),(.int .i64 z1k.fD)],stb zY 30 [(.int .i64 z1l.fN),(.int .i64 z1l.fD)]] _).mem hx') (.head _) _).stb) ((hw.lent (.nil : Sel [yN z7J Value.string (fun x=>x) [(⟨#[43]⟩,(.func (.func 54) #[] #[(.pointer (some ⟨zX,0,none⟩)),(.pointer (some ⟨zY,0,none⟩))])),(⟨#[45]⟩,(.func (.func 55) #[] #[(.pointer (some ⟨zX,0,none⟩)),(.pointer (some ⟨zY,0,none⟩))])),(⟨#[42]⟩,(.func (.func 56) #[] #[(.pointer (some ⟨zX,0,none⟩)),(.pointer (some ⟨zY,0,none⟩))])),(⟨#[47]⟩,(.func (.func 57) #[] #[(.pointer (some ⟨zX,0,none⟩)),(.pointer (some ⟨zY,0,none⟩))]))],stb z4r 30 [(.int .i64 0),(.int .i64 0)],stb zY 30 [(.int .i64 z1l.fN),(.int .i64 z1l.fD)],stb zX 30 [(.int .i64 z1k.fN),(.int .i64 z1k.fD)]] [] [yN z7J Value.string (fun x=>x) [(⟨#[43]⟩,(.func (.func 54) #[] #[(.pointer (some ⟨zX,0,none⟩)),(.pointer (some ⟨zY,0,none⟩))])),(⟨#[45]⟩,(.func (.func 55) #[] #[(.pointer (some ⟨zX,0,none⟩)),(.pointer (some ⟨zY,0,none⟩))])),(⟨#[42]⟩,(.func (.func 56) #[] #[(.pointer (some ⟨zX,0,none⟩)),(.pointer (some ⟨zY,0,none⟩))])),(⟨#[47]⟩,(.func (.func 57) #[] #[(.pointer (some ⟨zX,0,none⟩)),(.pointer (some ⟨zY,0,none⟩))]))],stb z4r 30 [(.int .i64 0),(.int .i64 0)],stb zY 30 [(.int .i64 z1l.fN),(.int .i64 z1l.fD)],stb zX 30 [(.int .i64 z1k.fN),(.int .i64 z1k.fD)]]) (B:=[stb zX 30 [(.int .i64 z1k.fN),(.int .i64 z1k.fD)],stb zY 30 [(.int .i64 z1l.fN),(.int .i64 z1l.fD)]]) (fun _ hx'=>((.cons .h3 (.cons .h2 .nil)) : Sel _ [stb zX 30 [(.int .i64 z1k.fN),(.int .i64 z1k.fD)],stb zY 30 [(.int .i64 z1l.fN),(.int .i64 z1l.fD)]] _).mem hx') (.tail _ (.head _)) _).stb) zuY) ?_
    refine WL.a (d:=37) rfl rfl rfl (yb rfl rfl) ?_
    refine WL.a (d:=38) rfl rfl rfl (yb rfl rfl) ?_
    refine WL.b (dd:=39) rfl rfl rfl (zl (l:=[.tmp 37,.tmp 38]) Try.call9 (.cons rfl (.cons rfl .nil))) (.nil : Sel [yN z7J Value.string (fun x=>x) [(⟨#[43]⟩,(.func (.func 54) #[] #[(.pointer (some ⟨zX,0,none⟩)),(.pointer (some ⟨zY,0,none⟩))])),(⟨#[45]⟩,(.func (.func 55) #[] #[(.pointer (some ⟨zX,0,none⟩)),(.pointer (some ⟨zY,0,none⟩))])),(⟨#[42]⟩,(.func (.func 56) #[] #[(.pointer (some ⟨zX,0,none⟩)),(.pointer (some ⟨zY,0,none⟩))])),(⟨#[47]⟩,(.func (.func 57) #[] #[(.pointer (some ⟨zX,0,none⟩)),(.pointer (some ⟨zY,0,none⟩))]))],stb z4r 30 [(.int .i64 0),(.int .i64 0)],stb zY 30 [(.int .i64 z1l.fN),(.int .i64 z1l.fD)],stb zX 30 [(.int .i64 z1k.fN),(.int .i64 z1k.fD)]] [] [yN z7J Value.string (fun x=>x) [(⟨#[43]⟩,(.func (.func 54) #[] #[(.pointer (some ⟨zX,0,none⟩)),(.pointer (some ⟨zY,0,none⟩))])),(⟨#[45]⟩,(.func (.func 55) #[] #[(.pointer (some ⟨zX,0,none⟩)),(.pointer (some ⟨zY,0,none⟩))])),(⟨#[42]⟩,(.func (.func 56) #[] #[(.pointer (some ⟨zX,0,none⟩)),(.pointer (some ⟨zY,0,none⟩))])),(⟨#[47]⟩,(.func (.func 57) #[] #[(.pointer (some ⟨zX,0,none⟩)),(.pointer (some ⟨zY,0,none⟩))]))],stb z4r 30 [(.int .i64 0),(.int .i64 0)],stb zY 30 [(.int .i64 z1l.fN),(.int .i64 z1l.fD)],stb zX 30 [(.int .i64 z1k.fN),(.int .i64 z1k.fD)]]) (fun w hw=>by have pz:=(hz.call hw (.nil : Sel [yN z7J Value.string (fun x=>x) [(⟨#[43]⟩,(.func (.func 54) #[] #[(.pointer (some ⟨zX,0,none⟩)),(.pointer (some ⟨zY,0,none⟩))])),(⟨#[45]⟩,(.func (.func 55) #[] #[(.pointer (some ⟨zX,0,none⟩)),(.pointer (some ⟨zY,0,none⟩))])),(⟨#[42]⟩,(.func (.func 56) #[] #[(.pointer (some ⟨zX,0,none⟩)),(.pointer (some ⟨zY,0,none⟩))])),(⟨#[47]⟩,(.func (.func 57) #[] #[(.pointer (some ⟨zX,0,none⟩)),(.pointer (some ⟨zY,0,none⟩))]))],stb z4r 30 [(.int .i64 0),(.int .i64 0)],stb zY 30 [(.int .i64 z1l.fN),(.int .i64 z1l.fD)],stb zX 30 [(.int .i64 z1k.fN),(.int .i64 z1k.fD)]] [] [yN z7J Value.string (fun x=>x) [(⟨#[43]⟩,(.func (.func 54) #[] #[(.pointer (some ⟨zX,0,none⟩)),(.pointer (some ⟨zY,0,none⟩))])),(⟨#[45]⟩,(.func (.func 55) #[] #[(.pointer (some ⟨zX,0,none⟩)),(.pointer (some ⟨zY,0,none⟩))])),(⟨#[42]⟩,(.func (.func 56) #[] #[(.pointer (some ⟨zX,0,none⟩)),(.pointer (some ⟨zY,0,none⟩))])),(⟨#[47]⟩,(.func (.func 57) #[] #[(.pointer (some ⟨zX,0,none⟩)),(.pointer (some ⟨zY,0,none⟩))]))],stb z4r 30 [(.int .i64 0),(.int .i64 0)],stb zY 30 [(.int .i64 z1l.fN),(.int .i64 z1l.fD)],stb zX 30 [(.int .i64 z1k.fN),(.int .i64 z1k.fD)]])); exact y3k (Z:=_)  (z6E:=ze1.1) (z67:=ze1.2) (r:=zbm) w pz  zuZ) ?_
    refine WL.a (d:=40) rfl rfl rfl (yb rfl rfl) ?_
    refine WL.a (d:=41) rfl rfl rfl (yb rfl rfl) ?_
    refine WL.yc rfl rfl (yd (vs:=[(.int .i64 zbm.1.fN),(.int .i64 zbm.1.fD)]) (ds:=[(.int .i64 zbm.1.fN),(.int .i64 zbm.1.fD)]) yl rfl rfl rfl rfl (y3 rfl (y3 rfl yf)) .h1 (Nat.le_of_ble_eq_true rfl) rfl) ?_
    refine WL.a (d:=7) rfl rfl rfl (q_z rfl) ?_
    refine WL.nil ?_
    refine WX.a ?_
    refine WC.ret ?_
    obtain rfl:=Option.some.inj h
    refine WX.y9 Try.results40 (.agg rfl y5 rfl (y7 .here) (.tmp rfl .nil)) (fun w hw=>?_)
    exact ⟨y1I rfl rfl,hw.sub .nil⟩
def y2B (z4w : z2) (z4x : z2) : Option (z2 × Int) :=
 (y6x z4w z4x).bind fun zbn=>some (zbn.1,zbn.2)
set_option maxRecDepth 20000 in
theorem y7o (Z : Zp)   (z4w : z2) (z4x : z2) (r : z2 × Int) (w₀ : World) (hz : PZ [] w₀ Z)
  (h : y2B z4w z4x = some r) :
  Calls Try.prog 25 #[(.agg #[(.int .i64 z4w.fN),(.int .i64 z4w.fD)]),(.agg #[(.int .i64 z4x.fN),(.int .i64 z4x.fD)])] w₀ fun e w'=>e = .returned (.tuple #[(.agg #[(.int .i64 r.1.fN),(.int .i64 r.1.fD)]),(.int .i64 r.2)]) ∧ Hp [] w₀ w' []:=by
 unfold y2B at h
 refine Calls.yg (vs:=[(.agg #[(.int .i64 z4w.fN),(.int .i64 z4w.fD)]),(.agg #[(.int .i64 z4x.fN),(.int .i64 z4x.fD)])]) (pre:=[]) (env:=[(0,(.agg #[(.int .i64 z4w.fN),(.int .i64 z4w.fD)])),(1,(.agg #[(.int .i64 z4x.fN),(.int .i64 z4x.fD)]))]) Try.func25 rfl Try.ntmps25 rfl (Hp.nil w₀ _) rfl ?_
 refine WC.b ?_
 refine WC.a ?_
 refine WL.new (dd:=2) rfl rfl rfl (yK (cs:=[(.int .i64 z4w.fN),(.int .i64 z4w.fD)]) rfl rfl) ?_
 intro zhk _
 refine WL.new (dd:=3) rfl rfl rfl (yK (cs:=[(.int .i64 z4x.fN),(.int .i64 z4x.fD)]) rfl rfl) ?_
 intro zhl _
 refine WL.new (dd:=4) rfl rfl rfl (yh (cs:=[(.int .i64 0),(.int .i64 0)]) yo rfl) ?_
 intro zhm _
 refine WL.a (d:=5) rfl rfl rfl (q_z rfl) ?_
 refine WL.nil ?_
 refine WX.a ?_
 refine WC.b ?_
 obtain ⟨zbn,zv0,h⟩:=zb h
 refine WC.a ?_
 refine WL.a (d:=6) rfl rfl rfl (y6 (cs:=[(.int .i64 z4w.fN),(.int .i64 z4w.fD)]) y5 rfl rfl (y7 .h2)) ?_
 refine WL.a (d:=7) rfl rfl rfl (y6 (cs:=[(.int .i64 z4x.fN),(.int .i64 z4x.fD)]) y5 rfl rfl (y7 .h1)) ?_
 refine WL.b (dd:=8) rfl rfl rfl (zl (l:=[.const (.string ⟨#[42]⟩),.tmp 6,.tmp 7]) Try.call40 (.cons rfl (.cons rfl (.cons rfl .nil)))) (.nil : Sel [stb zhm 30 [(.int .i64 0),(.int .i64 0)],stb zhl 30 [(.int .i64 z4x.fN),(.int .i64 z4x.fD)],stb zhk 30 [(.int .i64 z4w.fN),(.int .i64 z4w.fD)]] [] [stb zhm 30 [(.int .i64 0),(.int .i64 0)],stb zhl 30 [(.int .i64 z4x.fN),(.int .i64 z4x.fD)],stb zhk 30 [(.int .i64 z4w.fN),(.int .i64 z4w.fD)]]) (fun w hw=>by have pz:=(hz.call hw (.nil : Sel [stb zhm 30 [(.int .i64 0),(.int .i64 0)],stb zhl 30 [(.int .i64 z4x.fN),(.int .i64 z4x.fD)],stb zhk 30 [(.int .i64 z4w.fN),(.int .i64 z4w.fD)]] [] [stb zhm 30 [(.int .i64 0),(.int .i64 0)],stb zhl 30 [(.int .i64 z4x.fN),(.int .i64 z4x.fD)],stb zhk 30 [(.int .i64 z4w.fN),(.int .i64 z4w.fD)]])); exact yad (Z:=_)  (z1k:=z4w) (z1l:=z4x) (r:=zbn) w pz  zv0) ?_
 refine WL.a (d:=9) rfl rfl rfl (yb rfl rfl) ?_
 refine WL.a (d:=10) rfl rfl rfl (yb rfl rfl) ?_
 refine WL.yc rfl rfl (yd (vs:=[(.int .i64 zbn.1.fN),(.int .i64 zbn.1.fD)]) (ds:=[(.int .i64 zbn.1.fN),(.int .i64 zbn.1.fD)]) yl rfl rfl rfl rfl (y3 rfl (y3 rfl yf)) .here (Nat.le_of_ble_eq_true rfl) rfl) ?_
 refine WL.a (d:=5) rfl rfl rfl (q_z rfl) ?_
 refine WL.nil ?_
 refine WX.a ?_
 refine WC.ret ?_
 obtain rfl:=Option.some.inj h
 refine WX.y9 Try.results25 (.agg rfl y5 rfl (y7 .here) (.tmp rfl .nil)) (fun w hw=>?_)
 exact ⟨y1I rfl rfl,hw.sub .nil⟩
def y1q (z78 : z2y) (z1b : z1) (z3e : z2) : Option (z2 × z2y) :=
 (y1l z78 (fun (y0 : z2) (y1 : z2)=>y2B y0 y1) z1b.fR z3e).bind fun z8q=>(y1l z8q.2 (fun (y0 : z2) (y1 : z2)=>y15 y0 y1) z1b.fBurst z8q.1).bind fun zbo=>some (zbo.1,zbo.2)
set_option maxRecDepth 20000 in
theorem y7p (Z : Zp)  (z4P : Nat) (z78 : z2y) (z1b : z1) (z3e : z2) (r : z2 × z2y) (w₀ : World) (hz : PZ (fps [stb z4P 90 [(.int .i64 z78.fE)]]) w₀ Z)
  (h : y1q z78 z1b z3e = some r)
  (hown : Hp (fps [stb z4P 90 [(.int .i64 z78.fE)]]) w₀ w₀ [stb z4P 90 [(.int .i64 z78.fE)]]) :
  Calls Try.prog 45 #[(.pointer (some ⟨z4P,0,none⟩)),(.agg #[(.int .i64 z1b.fBurst.fN),(.int .i64 z1b.fBurst.fD),(.int .i64 z1b.fR.fN),(.int .i64 z1b.fR.fD)]),(.agg #[(.int .i64 z3e.fN),(.int .i64 z3e.fD)])] w₀ fun e w'=>e = .returned (.agg #[(.int .i64 r.1.fN),(.int .i64 r.1.fD)]) ∧ Hp (fps [stb z4P 90 [(.int .i64 z78.fE)]]) w₀ w' [stb z4P 90 [(.int .i64 r.2.fE)]]:=by
 unfold y1q at h
 refine Calls.yg (vs:=[(.pointer (some ⟨z4P,0,none⟩)),(.agg #[(.int .i64 z1b.fBurst.fN),(.int .i64 z1b.fBurst.fD),(.int .i64 z1b.fR.fN),(.int .i64 z1b.fR.fD)]),(.agg #[(.int .i64 z3e.fN),(.int .i64 z3e.fD)])]) (pre:=[stb z4P 90 [(.int .i64 z78.fE)]]) (env:=[(0,(.pointer (some ⟨z4P,0,none⟩))),(1,(.agg #[(.int .i64 z1b.fBurst.fN),(.int .i64 z1b.fBurst.fD),(.int .i64 z1b.fR.fN),(.int .i64 z1b.fR.fD)])),(2,(.agg #[(.int .i64 z3e.fN),(.int .i64 z3e.fD)]))]) Try.func45 rfl Try.ntmps45 rfl (hown) rfl ?_
 refine WC.b ?_
 refine WC.a ?_
 refine WL.new (dd:=4) rfl rfl rfl (yK (cs:=[(.int .i64 z1b.fBurst.fN),(.int .i64 z1b.fBurst.fD),(.int .i64 z1b.fR.fN),(.int .i64 z1b.fR.fD)]) rfl rfl) ?_
 intro z80 _
 refine WL.new (dd:=5) rfl rfl rfl (yK (cs:=[(.int .i64 z3e.fN),(.int .i64 z3e.fD)]) rfl rfl) ?_
 intro z8r _
 refine WL.new (dd:=6) rfl rfl rfl (yh (cs:=[(.int .i64 0),(.int .i64 0)]) yo rfl) ?_
 intro z8s _
 refine WL.nil ?_
 refine WX.a ?_
 refine WC.b ?_
 obtain ⟨z8q,zv1,h⟩:=zb h
 obtain ⟨zbo,zv2,h⟩:=zb h
 refine WC.y1e (fun i=>[7,8,9].contains i) [stb z80 35 [(.int .i64 z1b.fBurst.fN),(.int .i64 z1b.fBurst.fD),(.int .i64 z1b.fR.fN),(.int .i64 z1b.fR.fD)]] rfl ?_
 refine WD.a (i:=0) (d:=7) (by kernel_rfl) rfl (z6 (by kernel_rfl)) (z7 (by kernel_rfl)) rfl rfl rfl (fun _=>q_m rfl) ?_
 refine WD.a (i:=1) (d:=8) (by kernel_rfl) rfl (z6 (by kernel_rfl)) (z7 (by kernel_rfl)) rfl rfl rfl (fun _=>y4 y3W rfl rfl) ?_
 refine WD.y2z (i:=2) (d:=9) (by kernel_rfl) rfl (z6 (by kernel_rfl)) (z7 (by kernel_rfl)) rfl rfl rfl (Sin.of (.cons .h2 .nil)) (y6 (cs:=[(.int .i64 z1b.fBurst.fN),(.int .i64 z1b.fBurst.fD)]) y5 rfl rfl (y1T (s:=2) .here rfl)) ?_
 refine WD.a (i:=3) (d:=10) (by kernel_rfl) rfl (z6 (by kernel_rfl)) (z7 (by kernel_rfl)) rfl rfl rfl (fun _=>q_m rfl) ?_
 refine WD.a (i:=4) (d:=11) (by kernel_rfl) rfl (z6 (by kernel_rfl)) (z7 (by kernel_rfl)) rfl rfl rfl (fun _=>y4 y4J rfl rfl) ?_
 refine WD.e (i:=5) (d:=12) (by kernel_rfl) rfl (z6 (by kernel_rfl)) (z7 (by kernel_rfl)) rfl rfl rfl (y6 (cs:=[(.int .i64 z1b.fR.fN),(.int .i64 z1b.fR.fD)]) y5 rfl rfl (y1T (s:=2) .h2 rfl)) ?_
 refine WD.e (i:=6) (d:=13) (by kernel_rfl) rfl (z6 (by kernel_rfl)) (z7 (by kernel_rfl)) rfl rfl rfl (y6 (cs:=[(.int .i64 z3e.fN),(.int .i64 z3e.fD)]) y5 rfl rfl (y7 .h1)) ?_
 refine WD.call0 (i:=7) (dd:=14) rfl (by kernel_rfl) rfl rfl rfl (.inl ⟨rfl,(Sin.of (.cons .h3 .nil))⟩) (zl (l:=[.tmp 10,.func 25,.tmp 12,.tmp 13]) Try.call58 (.cons rfl (.cons rfl (.cons rfl (.cons rfl .nil))))) ((.cons .h3 .nil) : Sel [stb z8s 30 [(.int .i64 0),(.int .i64 0)],stb z8r 30 [(.int .i64 z3e.fN),(.int .i64 z3e.fD)],stb z80 35 [(.int .i64 z1b.fBurst.fN),(.int .i64 z1b.fBurst.fD),(.int .i64 z1b.fR.fN),(.int .i64 z1b.fR.fD)],stb z4P 90 [(.int .i64 z78.fE)]] [stb z4P 90 [(.int .i64 z78.fE)]] [stb z8s 30 [(.int .i64 0),(.int .i64 0)],stb z8r 30 [(.int .i64 z3e.fN),(.int .i64 z3e.fD)],stb z80 35 [(.int .i64 z1b.fBurst.fN),(.int .i64 z1b.fBurst.fD),(.int .i64 z1b.fR.fN),(.int .i64 z1b.fR.fD)]]) (fun w hw=>by have pz:=(hz.call hw ((.cons .h3 .nil) : Sel [stb z8s 30 [(.int .i64 0),(.int .i64 0)],stb z8r 30 [(.int .i64 z3e.fN),(.int .i64 z3e.fD)],stb z80 35 [(.int .i64 z1b.fBurst.fN),(.int .i64 z1b.fBurst.fD),(.int .i64 z1b.fR.fN),(.int .i64 z1b.fR.fD)],stb z4P 90 [(.int .i64 z78.fE)]] [stb z4P 90 [(.int .i64 z78.fE)]] [stb z8s 30 [(.int .i64 0),(.int .i64 0)],stb z8r 30 [(.int .i64 z3e.fN),(.int .i64 z3e.fD)],stb z80 35 [(.int .i64 z1b.fBurst.fN),(.int .i64 z1b.fBurst.fD),(.int .i64 z1b.fR.fN),(.int .i64 z1b.fR.fD)]])); exact Calls.mono (y3l (Z:=_) (z7B:=z4P) (z8g:=25) (z9m:=[]) (z7A:=z78) (zad:=(fun (y0 : z2) (y1 : z2)=>y2B y0 y1)) (z5L:=z1b.fR) (z5M:=z3e) (r:=z8q) w pz Try.call25 (fun w' hz' y0 y1  r  hr=>y7o (Z:=_)  (z4w:=y0) (z4x:=y1) (r:=r) w' hz'  hr) zv1 (hw.owns ((.cons .h3 .nil) : Sel [stb z8s 30 [(.int .i64 0),(.int .i64 0)],stb z8r 30 [(.int .i64 z3e.fN),(.int .i64 z3e.fD)],stb z80 35 [(.int .i64 z1b.fBurst.fN),(.int .i64 z1b.fBurst.fD),(.int .i64 z1b.fR.fN),(.int .i64 z1b.fR.fD)],stb z4P 90 [(.int .i64 z78.fE)]] [stb z4P 90 [(.int .i64 z78.fE)]] [stb z8s 30 [(.int .i64 0),(.int .i64 0)],stb z8r 30 [(.int .i64 z3e.fN),(.int .i64 z3e.fD)],stb z80 35 [(.int .i64 z1b.fBurst.fN),(.int .i64 z1b.fBurst.fD),(.int .i64 z1b.fR.fN),(.int .i64 z1b.fR.fD)]]))) (fun _ _ h'=>⟨h'.1,trivial,h'.2⟩)) ?_
 intro _
 refine WD.call0 (i:=8) (dd:=15) rfl (by kernel_rfl) rfl rfl rfl (.inl ⟨rfl,(Sin.of (.cons .h3 .nil))⟩) (zl (l:=[.tmp 7,.func 19,.tmp 9,.tmp 14]) Try.call58 (.cons rfl (.cons rfl (.cons rfl (.cons rfl .nil))))) ((.cons .here .nil) : Sel [stb z4P 90 [(.int .i64 z8q.2.fE)],stb z8s 30 [(.int .i64 0),(.int .i64 0)],stb z8r 30 [(.int .i64 z3e.fN),(.int .i64 z3e.fD)],stb z80 35 [(.int .i64 z1b.fBurst.fN),(.int .i64 z1b.fBurst.fD),(.int .i64 z1b.fR.fN),(.int .i64 z1b.fR.fD)]] [stb z4P 90 [(.int .i64 z8q.2.fE)]] [stb z8s 30 [(.int .i64 0),(.int .i64 0)],stb z8r 30 [(.int .i64 z3e.fN),(.int .i64 z3e.fD)],stb z80 35 [(.int .i64 z1b.fBurst.fN),(.int .i64 z1b.fBurst.fD),(.int .i64 z1b.fR.fN),(.int .i64 z1b.fR.fD)]]) (fun w hw=>by have pz:=(hz.call hw ((.cons .here .nil) : Sel [stb z4P 90 [(.int .i64 z8q.2.fE)],stb z8s 30 [(.int .i64 0),(.int .i64 0)],stb z8r 30 [(.int .i64 z3e.fN),(.int .i64 z3e.fD)],stb z80 35 [(.int .i64 z1b.fBurst.fN),(.int .i64 z1b.fBurst.fD),(.int .i64 z1b.fR.fN),(.int .i64 z1b.fR.fD)]] [stb z4P 90 [(.int .i64 z8q.2.fE)]] [stb z8s 30 [(.int .i64 0),(.int .i64 0)],stb z8r 30 [(.int .i64 z3e.fN),(.int .i64 z3e.fD)],stb z80 35 [(.int .i64 z1b.fBurst.fN),(.int .i64 z1b.fBurst.fD),(.int .i64 z1b.fR.fN),(.int .i64 z1b.fR.fD)]])); exact Calls.mono (y3l (Z:=_) (z7B:=z4P) (z8g:=19) (z9m:=[]) (z7A:=z8q.2) (zad:=(fun (y0 : z2) (y1 : z2)=>y15 y0 y1)) (z5L:=z1b.fBurst) (z5M:=z8q.1) (r:=zbo) w pz Try.call19 (fun w' hz' y0 y1  r  hr=>y3n (Z:=_)  (z3F:=y0) (z3G:=y1) (r:=r) w' hz'  hr) zv2 (hw.owns ((.cons .here .nil) : Sel [stb z4P 90 [(.int .i64 z8q.2.fE)],stb z8s 30 [(.int .i64 0),(.int .i64 0)],stb z8r 30 [(.int .i64 z3e.fN),(.int .i64 z3e.fD)],stb z80 35 [(.int .i64 z1b.fBurst.fN),(.int .i64 z1b.fBurst.fD),(.int .i64 z1b.fR.fN),(.int .i64 z1b.fR.fD)]] [stb z4P 90 [(.int .i64 z8q.2.fE)]] [stb z8s 30 [(.int .i64 0),(.int .i64 0)],stb z8r 30 [(.int .i64 z3e.fN),(.int .i64 z3e.fD)],stb z80 35 [(.int .i64 z1b.fBurst.fN),(.int .i64 z1b.fBurst.fD),(.int .i64 z1b.fR.fN),(.int .i64 z1b.fR.fD)]]))) (fun _ _ h'=>⟨h'.1,trivial,h'.2⟩)) ?_
 intro _
 refine WD.y61 (i:=9) rfl (by kernel_rfl) rfl rfl rfl (by kernel_rfl) (yd (vs:=[(.int .i64 zbo.1.fN),(.int .i64 zbo.1.fD)]) (ds:=[(.int .i64 zbo.1.fN),(.int .i64 zbo.1.fD)]) yl rfl rfl rfl rfl (y3 rfl (y3 rfl yf)) .h1 (Nat.le_of_ble_eq_true rfl) rfl) ?_
 refine WD.done (by kernel_rfl) ?_
 refine WX.a ?_
 refine WC.ret ?_
 obtain rfl:=Option.some.inj h
 refine WX.y9 Try.results45 (.agg rfl y5 rfl (y7 .here) .nil) (fun w hw=>?_)
 exact ⟨yI rfl,hw.sub (.cons .h1 .nil)⟩
def yT (z2A : List z2) (z90 : z2 → z2 → Option Int) (zaw : Int → Int → Option z2) : Nat → Int → Int → Int → Option z2
 | 0,_,_,_=>none
 | zkW + 1,z3x,z79,z7a=>if decide (z3x < ((z2A.length : Nat) : Int)) then jp2 (fun (zax : Int) (zay : Int)=>yT z2A z90 zaw zkW (i64 (z3x + 1)) zax zay) fun zhn=>chk ((0 : Int) ≤ z3x ∧ z3x < ((z2A.length : Nat) : Int)) ((z90 (⟨((nth z2A z3x).fN),((nth z2A z3x).fD)⟩ : z2) (⟨z79,z7a⟩ : z2)).bind fun zkX=>if decide (zkX < 0) then chk ((0 : Int) ≤ z3x ∧ z3x < ((z2A.length : Nat) : Int)) (zhn ((nth z2A z3x).fN) ((nth z2A z3x).fD)) else zhn z79 z7a) else zaw z79 z7a
theorem y3K {n : Nat} {z2A : List z2} {z90 : z2 → z2 → Option Int} {zaw : Int → Int → Option z2} {z3x : Int} {z79 : Int} {z7a : Int} {r : z2} (h : yT z2A z90 zaw n z3x z79 z7a = some r) : ∃ m,n = m + 1:=by
 cases n with
 | zero=>cases h
 | succ m=>exact ⟨m,rfl⟩
def y1u (z2A : List z2) (z90 : z2 → z2 → Option Int) : Option z2 :=
 if decide (((z2A.length : Nat) : Int) < 1) then none else chk ((0 : Int) ≤ 0 ∧ 0 < ((z2A.length : Nat) : Int)) (jp2 (fun (z91 : Int) (z92 : Int)=>some (⟨z91,z92⟩ : z2)) fun zaw=>yT z2A z90 zaw yw 1 ((nth z2A 0).fN) ((nth z2A 0).fD))
set_option maxRecDepth 20000 in
theorem y4F (Z : Zp)  (zcE : Option Addr) (zcF : Nat) (z9y : FuncId) (zbp : List Value) (z2A : List z2) (z90 : z2 → z2 → Option Int) (r : z2) (w₀ : World) (hz : PZ [] w₀ Z)
  (zkY : ZS Z 2 (fun r x=>r = e30 x) zcE zcF z2A)
  (zv3 : ∀ args w,(callFunc z9y args).run Try.prog w = .ok (.enter z9y args) w)
  (zv4 : ∀ w : World,PZ [] w Z → ∀ (x0 : z2) (x1 : z2) (r : Int),z90 x0 x1 = some r → Calls Try.prog z9y (([(.agg #[(.int .i64 x0.fN),(.int .i64 x0.fD)]),(.agg #[(.int .i64 x1.fN),(.int .i64 x1.fD)])] : List Value) ++ zbp).toArray w fun e w'=>e = .returned (.int .i64 r) ∧ Hp [] w w' [])
  (h : y1u z2A z90 = some r) :
  Calls Try.prog 46 #[(.slice zcE z2A.length zcF),(.func (.func z9y) #[] (zbp).toArray)] w₀ fun e w'=>e = .returned (.agg #[(.int .i64 r.fN),(.int .i64 r.fD)]) ∧ Hp [] w₀ w' []:=by
 unfold y1u at h
 refine Calls.yg (vs:=[(.slice zcE z2A.length zcF),(.func (.func z9y) #[] (zbp).toArray)]) (pre:=[]) (env:=[(0,(.slice zcE z2A.length zcF)),(1,(.func (.func z9y) #[] (zbp).toArray))]) Try.func46 rfl Try.ntmps46 rfl (Hp.nil w₀ _) rfl ?_
 refine WC.b ?_
 refine WC.a ?_
 refine WL.new (dd:=4) rfl rfl rfl (yh (cs:=[(.int .i64 0),(.int .i64 0)]) yo rfl) ?_
 intro ze2 _
 refine WL.nil ?_
 refine WX.a ?_
 refine WC.b ?_
 refine WC.b ?_
 refine WC.a ?_
 refine WL.a (d:=7) rfl rfl rfl (q_m rfl) ?_
 refine WL.a (d:=8) rfl rfl rfl (y1k Try.underlying77 rfl) ?_
 refine WL.a (d:=9) rfl rfl rfl (y1h rfl rfl) ?_
 refine WL.nil ?_
 refine WX.a ?_
 refine WC.cond rfl (fun zkZ=>?_) (fun zkZ=>?_)
 ·replace h:=yj h zkZ
  cases h
 ·replace h:=yk h zkZ
  refine WC.skip ?_
  refine WX.a ?_
  refine WC.b ?_
  obtain ⟨zv5,h⟩:=yp h
  refine WC.a ?_
  refine WL.a (d:=11) rfl rfl rfl (q_m rfl) ?_
  refine WL.znth (dd:=12) rfl rfl (Z:=Z) (Pr:=(fun r x=>r = e30 x)) y1H rfl rfl zkY zv5 ?_
  rintro zAq zAr zv6 zAs rfl
  refine WL.a (d:=13) rfl rfl rfl (y6 (cs:=[(.int .i64 ((nth z2A 0).fN)),(.int .i64 ((nth z2A 0).fD))]) y5 rfl rfl (y2T hz.pv zv6)) ?_
  refine WL.new (dd:=5) rfl rfl rfl (yh (cs:=[(.int .i64 0),(.int .i64 0)]) yo rfl) ?_
  intro ze3 _
  refine WL.yc rfl rfl (yd (vs:=[(.int .i64 ((nth z2A 0).fN)),(.int .i64 ((nth z2A 0).fD))]) (ds:=[(.int .i64 ((nth z2A 0).fN)),(.int .i64 ((nth z2A 0).fD))]) yl rfl rfl rfl rfl (y3 rfl (y3 rfl yf)) .here (Nat.le_of_ble_eq_true rfl) rfl) ?_
  refine WL.nil ?_
  refine WX.a ?_
  obtain ⟨zaw,zv7,h⟩:=y3F h
  refine WC.y3h (fun (z91 : Int) (z92 : Int)=>(zaw z91 z92 = some r)) (fun (z91 : Int) (z92 : Int)=>[(4,(.pointer (some ⟨ze2,0,none⟩))),(5,(.pointer (some ⟨ze3,0,none⟩)))]) (fun (z91 : Int) (z92 : Int)=>[stb ze2 30 [(.int .i64 0),(.int .i64 0)],stb ze3 30 [(.int .i64 z91),(.int .i64 z92)]]) ?_ ?_
  ·skip
   refine WC.b ?_
   refine WC.a ?_
   refine WL.a (d:=6) rfl rfl rfl (q_z rfl) ?_
   refine WL.nil ?_
   refine WX.a ?_
   refine WC.block ?_
   refine WC.y48 (fun (ze4 : Nat) (z3x : Int) (z79 : Int) (z7a : Int)=>(yT z2A z90 zaw ze4 z3x z79 z7a = some r)) (fun (ze4 : Nat) (z3x : Int) (z79 : Int) (z7a : Int)=>[(0,(.slice zcE z2A.length zcF)),(1,(.func (.func z9y) #[] (zbp).toArray)),(4,(.pointer (some ⟨ze2,0,none⟩))),(5,(.pointer (some ⟨ze3,0,none⟩))),(6,(.int .i64 z3x))]) (fun (ze4 : Nat) (z3x : Int) (z79 : Int) (z7a : Int)=>[stb ze2 30 [(.int .i64 0),(.int .i64 0)],stb ze3 30 [(.int .i64 z79),(.int .i64 z7a)]]) (fun (ze4 : Nat) (z3x : Int) (z79 : Int) (z7a : Int)=>ze4) ⟨yw,1,((nth z2A 0).fN),((nth z2A 0).fD)⟩ h (.cons rfl (.cons rfl (.cons rfl (.cons rfl (.cons rfl .nil))))) (.cons .h1 (.cons .here .nil)) ?_
   rintro ze4 z3x z79 z7a h
   obtain ⟨zkW,rfl⟩:=y3K h
   rw [yT] at h
   refine WC.b ?_
   refine WC.b ?_
   refine WC.a ?_
   refine WL.a (d:=14) rfl rfl rfl (q_m rfl) ?_
   refine WL.a (d:=15) rfl rfl rfl (q_m rfl) ?_
   refine WL.a (d:=16) rfl rfl rfl (y1k Try.underlying77 rfl) ?_
   refine WL.a (d:=17) rfl rfl rfl (y1h rfl rfl) ?_
   refine WL.nil ?_
   refine WX.a ?_
   refine WC.cond rfl (fun zl0=>?_) (fun zl0=>?_)
   ·replace h:=yj h zl0
    refine WC.skip ?_
    refine WX.a ?_
    obtain ⟨zhn,zv8,h⟩:=y3F h
    refine WC.y3h (fun (zax : Int) (zay : Int)=>(zhn zax zay = some r)) (fun (zax : Int) (zay : Int)=>[(0,(.slice zcE z2A.length zcF)),(1,(.func (.func z9y) #[] (zbp).toArray)),(4,(.pointer (some ⟨ze2,0,none⟩))),(5,(.pointer (some ⟨ze3,0,none⟩))),(6,(.int .i64 z3x))]) (fun (zax : Int) (zay : Int)=>[stb ze2 30 [(.int .i64 0),(.int .i64 0)],stb ze3 30 [(.int .i64 zax),(.int .i64 zay)]]) ?_ ?_
    ·skip
     refine WC.block ?_
     refine WC.b ?_
     obtain ⟨zv9,h⟩:=yp h
     obtain ⟨zkX,zva,h⟩:=zb h
     refine WC.y1e (fun i=>[].contains i) [] rfl ?_
     refine WD.a (i:=0) (d:=20) (by kernel_rfl) rfl (z6 (by kernel_rfl)) (z7 (by kernel_rfl)) rfl rfl rfl (fun _=>q_m rfl) ?_
     refine WD.a (i:=1) (d:=21) (by kernel_rfl) rfl (z6 (by kernel_rfl)) (z7 (by kernel_rfl)) rfl rfl rfl (fun _=>q_m rfl) ?_
     refine WD.a (i:=2) (d:=22) (by kernel_rfl) rfl (z6 (by kernel_rfl)) (z7 (by kernel_rfl)) rfl rfl rfl (fun _=>q_m rfl) ?_
     refine WD.znth (j:=3) (dd:=23) (by kernel_rfl) rfl (z6 (by kernel_rfl)) (z7 (by kernel_rfl)) rfl rfl (Z:=Z) (Pr:=(fun r x=>r = e30 x)) y1H rfl rfl zkY zv9 ?_
     rintro zAt zAu zvb zAv rfl
     refine WD.e (i:=4) (d:=24) (by kernel_rfl) rfl (z6 (by kernel_rfl)) (z7 (by kernel_rfl)) rfl rfl rfl (y6 (cs:=[(.int .i64 ((nth z2A z3x).fN)),(.int .i64 ((nth z2A z3x).fD))]) y5 rfl rfl (y2T hz.pv zvb)) ?_
     refine WD.e (i:=5) (d:=25) (by kernel_rfl) rfl (z6 (by kernel_rfl)) (z7 (by kernel_rfl)) rfl rfl rfl (y6 (cs:=[(.int .i64 z79),(.int .i64 z7a)]) y5 rfl rfl (y7 .h1)) ?_
     refine WD.c (i:=6) (d:=26) (by kernel_rfl) rfl (z6 (by kernel_rfl)) (z7 (by kernel_rfl)) rfl rfl rfl (y2f (l:=[.tmp 24,.tmp 25]) (f:=z9y) (caps:=zbp) zv3 rfl (.cons rfl (.cons rfl .nil))) (fun w hw=>zv4 w (hz.now hw) (⟨((nth z2A z3x).fN),((nth z2A z3x).fD)⟩ : z2) (⟨z79,z7a⟩ : z2) zkX  zva) ?_
     refine WD.a (i:=7) (d:=27) (by kernel_rfl) rfl (z6 (by kernel_rfl)) (z7 (by kernel_rfl)) rfl rfl rfl (fun _=>y1h rfl rfl) ?_
     refine WD.done (by kernel_rfl) ?_
     refine WX.a ?_
     refine WC.cond rfl (fun zl1=>?_) (fun zl1=>?_)
     ·replace h:=yj h zl1
      obtain ⟨zvc,h⟩:=yp h
      refine WC.a ?_
      refine WL.a (d:=28) rfl rfl rfl (q_m rfl) ?_
      refine WL.a (d:=29) rfl rfl rfl (q_m rfl) ?_
      refine WL.znth (dd:=30) rfl rfl (Z:=Z) (Pr:=(fun r x=>r = e30 x)) y1H rfl rfl zkY zvc ?_
      rintro zAw zAx zvd zAy rfl
      refine WL.a (d:=31) rfl rfl rfl (y6 (cs:=[(.int .i64 ((nth z2A z3x).fN)),(.int .i64 ((nth z2A z3x).fD))]) y5 rfl rfl (y2T hz.pv zvd)) ?_
      refine WL.yc rfl rfl (yd (vs:=[(.int .i64 ((nth z2A z3x).fN)),(.int .i64 ((nth z2A z3x).fD))]) (ds:=[(.int .i64 ((nth z2A z3x).fN)),(.int .i64 ((nth z2A z3x).fD))]) yl rfl rfl rfl rfl (y3 rfl (y3 rfl yf)) .h1 (Nat.le_of_ble_eq_true rfl) rfl) ?_
      refine WL.nil ?_
      refine WX.yn ?_
      exact WX.mid (G:=Int × Int) ⟨((nth z2A z3x).fN),((nth z2A z3x).fD)⟩ h (.cons rfl (.cons rfl (.cons rfl (.cons rfl (.cons rfl .nil))))) (.cons .h1 (.cons .here .nil))
     ·replace h:=yk h zl1
      refine WC.skip ?_
      refine WX.yn ?_
      exact WX.mid (G:=Int × Int) ⟨z79,z7a⟩ h (.cons rfl (.cons rfl (.cons rfl (.cons rfl (.cons rfl .nil))))) (.cons .here (.cons .here .nil))
    ·rintro zax zay h
     replace h:=(zv8 zax zay).symm.trans h
     refine WC.a ?_
     refine WL.a (d:=18) rfl rfl rfl (q_m rfl) ?_
     refine WL.a (d:=19) rfl rfl rfl (y1d rfl rfl rfl) ?_
     refine WL.a (d:=6) rfl rfl rfl (q_z rfl) ?_
     refine WL.nil ?_
     exact WX.round (G:=Nat × Int × Int × Int) ⟨zkW,(i64 (z3x + 1)),zax,zay⟩ h (Nat.lt_succ_self _) (.cons rfl (.cons rfl (.cons rfl (.cons rfl (.cons rfl .nil))))) (.cons .here (.cons .here .nil))
   ·replace h:=yk h zl0
    refine WC.exit ?_
    refine WX.ym ?_
    refine WX.ym ?_
    refine WX.yH ?_
    exact WX.mid (G:=Int × Int) ⟨z79,z7a⟩ h (.cons rfl (.cons rfl .nil)) (.cons .here (.cons .here .nil))
  ·rintro z91 z92 h
   replace h:=(zv7 z91 z92).symm.trans h
   refine WC.b ?_
   refine WC.a ?_
   refine WL.a (d:=32) rfl rfl rfl (y6 (cs:=[(.int .i64 z91),(.int .i64 z92)]) y5 rfl rfl (y7 .h1)) ?_
   refine WL.yc rfl rfl (yd (vs:=[(.int .i64 z91),(.int .i64 z92)]) (ds:=[(.int .i64 z91),(.int .i64 z92)]) yl rfl rfl rfl rfl (y3 rfl (y3 rfl yf)) .here (Nat.le_of_ble_eq_true rfl) rfl) ?_
   refine WL.nil ?_
   refine WX.a ?_
   refine WC.ret ?_
   obtain rfl:=Option.some.inj h
   refine WX.y9 Try.results46 (.agg rfl y5 rfl (y7 .here) .nil) (fun w hw=>?_)
   exact ⟨yI rfl,hw.sub .nil⟩
def y1W (z1w : List z1) (z2d : z2) (zaz : (List z2) → Int → Option (z2 × Int)) : Nat → (List z2) → Int → Int → Option (z2 × Int)
 | 0,_,_,_=>none
 | zl2 + 1,z3M,z20,z5S=>if decide (z20 < ((z1w.length : Nat) : Int)) then chk ((0 : Int) ≤ z20 ∧ z20 < ((z1w.length : Nat) : Int)) ((y1q (⟨z5S⟩ : z2y) (⟨(⟨(((nth z1w z20).fBurst).fN),(((nth z1w z20).fBurst).fD)⟩ : z2),(⟨(((nth z1w z20).fR).fN),(((nth z1w z20).fR).fD)⟩ : z2)⟩ : z1) z2d).bind fun z9z=>chk ((((z3M ++ ([z9z.1] : List z2)).length : Nat) : Int) * 16 ≤ 140737488355328 ∧ (((z3M ++ ([z9z.1] : List z2)).length : Nat) : Int) ≤ 4611686018427387904) (y1W z1w z2d zaz zl2 (z3M ++ ([z9z.1] : List z2)) (i64 (z20 + 1)) z9z.2.fE)) else zaz z3M z5S
theorem y7q {n : Nat} {z1w : List z1} {z2d : z2} {zaz : (List z2) → Int → Option (z2 × Int)} {z3M : List z2} {z20 : Int} {z5S : Int} {r : z2 × Int} (h : y1W z1w z2d zaz n z3M z20 z5S = some r) : ∃ m,n = m + 1:=by
 cases n with
 | zero=>cases h
 | succ m=>exact ⟨m,rfl⟩
def y2N (z1w : List z1) (z2d : z2) : Option (z2 × Int) :=
 (y2m z1w).bind fun zho=>(if !zho then some true else (y33 z2d).bind fun zl3=>some (!zl3)).bind fun zl4=>if zl4 then some ((⟨0,0⟩ : z2),2) else jp2 (fun (z3r : List z2) (z6e : Int)=>if decide (z6e ≠ 0) then some ((⟨0,0⟩ : z2),z6e) else (y1u z3r (fun (y0 : z2) (y1 : z2)=>yO y0 y1)).bind fun zcG=>some (zcG,0)) fun zaz=>y1W z1w z2d zaz yw ([] : List z2) 0 0
set_option maxRecDepth 20000 in
theorem y5K (Z : Zp)  (z93 : Option Addr) (z94 : Nat) (z1w : List z1) (z2d : z2) (r : z2 × Int) (w₀ : World) (hz : PZ [] w₀ Z)
  (zpq : ZS Z 4 (fun r x=>r = e35 x) z93 z94 z1w)
  (h : y2N z1w z2d = some r) :
  Calls Try.prog 22 #[(.slice z93 z1w.length z94),(.agg #[(.int .i64 z2d.fN),(.int .i64 z2d.fD)])] w₀ fun e w'=>e = .returned (.tuple #[(.agg #[(.int .i64 r.1.fN),(.int .i64 r.1.fD)]),(.int .i64 r.2)]) ∧ Hp [] w₀ w' []:=by
 unfold y2N at h
 refine Calls.yg (vs:=[(.slice z93 z1w.length z94),(.agg #[(.int .i64 z2d.fN),(.int .i64 z2d.fD)])]) (pre:=[]) (env:=[(0,(.slice z93 z1w.length z94)),(1,(.agg #[(.int .i64 z2d.fN),(.int .i64 z2d.fD)]))]) Try.func22 rfl Try.ntmps22 rfl (Hp.nil w₀ _) rfl ?_
 refine WC.b ?_
 refine WC.a ?_
 refine WL.new (dd:=3) rfl rfl rfl (yK (cs:=[(.int .i64 z2d.fN),(.int .i64 z2d.fD)]) rfl rfl) ?_
 intro z6f _
 refine WL.new (dd:=4) rfl rfl rfl (yh (cs:=[(.int .i64 0),(.int .i64 0)]) yo rfl) ?_
 intro z42 _
 refine WL.a (d:=5) rfl rfl rfl (q_z rfl) ?_
 refine WL.nil ?_
 refine WX.a ?_
 refine WC.b ?_
 refine WC.b ?_
 obtain ⟨zho,zve,h⟩:=zb h
 obtain ⟨zl4,zpr,h⟩:=zb h
 refine WC.a ?_
 refine WL.a (d:=10) rfl rfl rfl (q_m rfl) ?_
 refine WL.b (dd:=11) rfl rfl rfl (zl (l:=[.tmp 10]) Try.call30 (.cons rfl .nil)) (.nil : Sel [stb z42 30 [(.int .i64 0),(.int .i64 0)],stb z6f 30 [(.int .i64 z2d.fN),(.int .i64 z2d.fD)]] [] [stb z42 30 [(.int .i64 0),(.int .i64 0)],stb z6f 30 [(.int .i64 z2d.fN),(.int .i64 z2d.fD)]]) (fun w hw=>by have pz:=(hz.call hw (.nil : Sel [stb z42 30 [(.int .i64 0),(.int .i64 0)],stb z6f 30 [(.int .i64 z2d.fN),(.int .i64 z2d.fD)]] [] [stb z42 30 [(.int .i64 0),(.int .i64 0)],stb z6f 30 [(.int .i64 z2d.fN),(.int .i64 z2d.fD)]])); exact y3O (Z:=_) (z8L:=z93) (z8M:=z94) (z5t:=z1w) (r:=zho) w pz zpq zve) ?_
 refine WL.a (d:=12) rfl rfl rfl (y1n rfl) ?_
 refine WL.a (d:=13) rfl rfl rfl (q_m rfl) ?_
 refine WL.yF True [(0,(.slice z93 z1w.length z94)),(3,(.pointer (some ⟨z6f,0,none⟩))),(4,(.pointer (some ⟨z42,0,none⟩))),(17,(.bool zl4))] [stb z42 30 [(.int .i64 0),(.int .i64 0)],stb z6f 30 [(.int .i64 z2d.fN),(.int .i64 z2d.fD)]] 4 ?_ (fun _=>?_)
 ·rcases Bool.eq_false_or_eq_true (!zho) with hb' | hb'
  ·have zps:=hb'; clear hb'
   have zl5:=yj zpr zps
   replace zl5:=Option.some.inj zl5
   refine WL.pin (i:=13) rfl zps ?_
   refine WL.e rfl rfl rfl ?_
   refine WL.e rfl rfl rfl ?_
   refine WL.e rfl rfl rfl ?_
   refine WL.a (d:=17) rfl rfl rfl (ys rfl rfl) ?_
   exact WL.ya () trivial (.cons rfl (.cons rfl (.cons rfl (.cons (zt zl5) .nil)))) (.cons .here (.cons .here .nil))
  ·have zpt:=hb'; clear hb'
   have zft:=yk zpr zpt
   obtain ⟨zl3,zvf,zft⟩:=zb zft
   replace zft:=Option.some.inj zft
   refine WL.pin (i:=13) rfl zpt ?_
   refine WL.a (d:=14) rfl rfl rfl (y6 (cs:=[(.int .i64 z2d.fN),(.int .i64 z2d.fD)]) y5 rfl rfl (y7 .h1)) ?_
   refine WL.b (dd:=15) rfl rfl rfl (zl (l:=[.tmp 14]) Try.call44 (.cons rfl .nil)) (.nil : Sel [stb z42 30 [(.int .i64 0),(.int .i64 0)],stb z6f 30 [(.int .i64 z2d.fN),(.int .i64 z2d.fD)]] [] [stb z42 30 [(.int .i64 0),(.int .i64 0)],stb z6f 30 [(.int .i64 z2d.fN),(.int .i64 z2d.fD)]]) (fun w hw=>by have pz:=(hz.call hw (.nil : Sel [stb z42 30 [(.int .i64 0),(.int .i64 0)],stb z6f 30 [(.int .i64 z2d.fN),(.int .i64 z2d.fD)]] [] [stb z42 30 [(.int .i64 0),(.int .i64 0)],stb z6f 30 [(.int .i64 z2d.fN),(.int .i64 z2d.fD)]])); exact y6b (Z:=_)  (z3Q:=z2d) (r:=zl3) w pz  zvf) ?_
   refine WL.a (d:=16) rfl rfl rfl (y1n rfl) ?_
   refine WL.a (d:=17) rfl rfl rfl (yr rfl rfl) ?_
   exact WL.ya () trivial (.cons rfl (.cons rfl (.cons rfl (.cons (zt zft) .nil)))) (.cons .here (.cons .here .nil))
 ·skip
  refine WL.nil ?_
  refine WX.a ?_
  refine WC.cond rfl (fun zl6=>?_) (fun zl6=>?_)
  ·replace h:=yj h zl6
   refine WC.b ?_
   refine WC.a ?_
   refine WL.a (d:=18) rfl rfl rfl (y1j (v:=(.agg #[(.int .i64 0),(.int .i64 0)])) (Eos.parts (l:=[]) .nil []) (fun _=>by kernel_rfl)) ?_
   refine WL.yc rfl rfl (yd (vs:=[(.int .i64 0),(.int .i64 0)]) (ds:=[(.int .i64 0),(.int .i64 0)]) yl rfl rfl rfl rfl (y3 rfl (y3 rfl yf)) .here (Nat.le_of_ble_eq_true rfl) rfl) ?_
   refine WL.a (d:=5) rfl rfl rfl (q_z rfl) ?_
   refine WL.nil ?_
   refine WX.a ?_
   refine WC.ret ?_
   refine WX.y8 ?_
   obtain rfl:=Option.some.inj h
   refine WX.y9 Try.results22 (.agg rfl y5 rfl (y7 .here) (.tmp rfl .nil)) (fun w hw=>?_)
   exact ⟨y1I rfl rfl,hw.sub .nil⟩
  ·replace h:=yk h zl6
   refine WC.skip ?_
   refine WX.a ?_
   refine WC.b ?_
   refine WC.a ?_
   refine WL.new (dd:=6) rfl rfl rfl (yh (cs:=[(.int .i64 0)]) y93 rfl) ?_
   intro z5D _
   refine WL.nil ?_
   refine WX.a ?_
   refine WC.b ?_
   refine WC.a ?_
   refine WL.a (d:=7) rfl rfl rfl (q_z rfl) ?_
   refine WL.nil ?_
   refine WX.a ?_
   obtain ⟨zaz,zvg,h⟩:=y3F h
   refine WC.y4T (fun (z3r : List z2) (z6e : Int) (z6g : Option Addr) (z6h : Nat)=>(zaz z3r z6e = some r)) (fun (z3r : List z2) (z6e : Int) (z6g : Option Addr) (z6h : Nat)=>[(4,(.pointer (some ⟨z42,0,none⟩))),(6,(.pointer (some ⟨z5D,0,none⟩))),(7,(.slice z6g z3r.length z6h))]) (fun (z3r : List z2) (z6e : Int) (z6g : Option Addr) (z6h : Nat)=>[row (.slice z6g z3r.length z6h) 30 2 (z3r.flatMap e30),stb z42 30 [(.int .i64 0),(.int .i64 0)],stb z5D 90 [(.int .i64 z6e)]]) ?_ ?_
   ·skip
    refine WC.b ?_
    refine WC.a ?_
    refine WL.a (d:=19) rfl rfl rfl (q_m rfl) ?_
    refine WL.a (d:=20) rfl rfl rfl (y1k Try.underlying39 rfl) ?_
    refine WL.a (d:=21) rfl rfl rfl (q_m rfl) ?_
    refine WL.nil ?_
    refine WX.a ?_
    refine WC.block ?_
    refine WC.nilRow 30 2 ?_
    refine WC.y4B (fun (ze5 : Nat) (z3M : List z2) (z20 : Int) (z5S : Int) (z81 : Option Addr) (z82 : Nat)=>(y1W z1w z2d zaz ze5 z3M z20 z5S = some r)) (fun (ze5 : Nat) (z3M : List z2) (z20 : Int) (z5S : Int) (z81 : Option Addr) (z82 : Nat)=>[(3,(.pointer (some ⟨z6f,0,none⟩))),(4,(.pointer (some ⟨z42,0,none⟩))),(6,(.pointer (some ⟨z5D,0,none⟩))),(7,(.slice z81 z3M.length z82)),(19,(.slice z93 z1w.length z94)),(20,(.int .i64 ((z1w.length : Nat) : Int))),(21,(.int .i64 z20))]) (fun (ze5 : Nat) (z3M : List z2) (z20 : Int) (z5S : Int) (z81 : Option Addr) (z82 : Nat)=>[row (.slice z81 z3M.length z82) 30 2 (z3M.flatMap e30),stb z6f 30 [(.int .i64 z2d.fN),(.int .i64 z2d.fD)],stb z42 30 [(.int .i64 0),(.int .i64 0)],stb z5D 90 [(.int .i64 z5S)]]) (fun (ze5 : Nat) (z3M : List z2) (z20 : Int) (z5S : Int) (z81 : Option Addr) (z82 : Nat)=>ze5) ⟨yw,([] : List z2),0,0,none,0⟩ h (.cons rfl (.cons rfl (.cons rfl (.cons rfl (.cons rfl (.cons rfl (.cons rfl .nil))))))) (.cons .here (.cons .h2 (.cons .h1 (.cons .here .nil)))) ?_
    rintro ze5 z3M z20 z5S z81 z82 h
    obtain ⟨zl2,rfl⟩:=y7q h
    rw [y1W] at h
    refine WC.b ?_
    refine WC.a ?_
    refine WL.a (d:=22) rfl rfl rfl (y1h rfl rfl) ?_
    refine WL.nil ?_
    refine WX.a ?_
    refine WC.b ?_
    refine WC.cond rfl (fun zl7=>?_) (fun zl7=>?_)
    ·replace h:=yj h zl7
     refine WC.skip ?_
     refine WX.a ?_
     refine WC.b ?_
     refine WC.block ?_
     refine WC.b ?_
     obtain ⟨zvh,h⟩:=yp h
     refine WC.a ?_
     refine WL.znth (dd:=23) rfl rfl (Z:=Z) (Pr:=(fun r x=>r = e35 x)) y2j rfl rfl zpq zvh ?_
     rintro zAz zAA zvi zAB rfl
     refine WL.a (d:=24) rfl rfl rfl (y6 (cs:=[(.int .i64 (((nth z1w z20).fBurst).fN)),(.int .i64 (((nth z1w z20).fBurst).fD)),(.int .i64 (((nth z1w z20).fR).fN)),(.int .i64 (((nth z1w z20).fR).fD))]) y1D rfl rfl (y2T hz.pv zvi)) ?_
     refine WL.new (dd:=9) rfl rfl rfl (yh (cs:=[(.int .i64 0),(.int .i64 0),(.int .i64 0),(.int .i64 0)]) y3H rfl) ?_
     intro ze6 _
     refine WL.yc rfl rfl (yd (vs:=[(.int .i64 (((nth z1w z20).fBurst).fN)),(.int .i64 (((nth z1w z20).fBurst).fD)),(.int .i64 (((nth z1w z20).fR).fN)),(.int .i64 (((nth z1w z20).fR).fD))]) (ds:=[(.int .i64 (((nth z1w z20).fBurst).fN)),(.int .i64 (((nth z1w z20).fBurst).fD)),(.int .i64 (((nth z1w z20).fR).fN)),(.int .i64 (((nth z1w z20).fR).fD))]) y3V rfl rfl rfl rfl (y3 rfl (y3 rfl (y3 rfl (y3 rfl yf)))) .here (Nat.le_of_ble_eq_true rfl) rfl) ?_
     refine WL.nil ?_
     refine WX.a ?_
     obtain ⟨z9z,zvj,h⟩:=zb h
     obtain ⟨zvk,h⟩:=yp h
     refine WC.a ?_
     refine WL.a (d:=25) rfl rfl rfl (q_m rfl) ?_
     refine WL.a (d:=26) rfl rfl rfl (y6 (cs:=[(.int .i64 (((nth z1w z20).fBurst).fN)),(.int .i64 (((nth z1w z20).fBurst).fD)),(.int .i64 (((nth z1w z20).fR).fN)),(.int .i64 (((nth z1w z20).fR).fD))]) y1D rfl rfl (y7 .here)) ?_
     refine WL.a (d:=27) rfl rfl rfl (y6 (cs:=[(.int .i64 z2d.fN),(.int .i64 z2d.fD)]) y5 rfl rfl (y7 .h2)) ?_
     refine WL.b (dd:=28) rfl rfl rfl (zl (l:=[.tmp 6,.tmp 26,.tmp 27]) Try.call45 (.cons rfl (.cons rfl (.cons rfl .nil)))) ((.cons .h4 .nil) : Sel [stb ze6 35 [(.int .i64 (((nth z1w z20).fBurst).fN)),(.int .i64 (((nth z1w z20).fBurst).fD)),(.int .i64 (((nth z1w z20).fR).fN)),(.int .i64 (((nth z1w z20).fR).fD))],row (.slice z81 z3M.length z82) 30 2 (z3M.flatMap e30),stb z6f 30 [(.int .i64 z2d.fN),(.int .i64 z2d.fD)],stb z42 30 [(.int .i64 0),(.int .i64 0)],stb z5D 90 [(.int .i64 z5S)]] [stb z5D 90 [(.int .i64 z5S)]] [stb ze6 35 [(.int .i64 (((nth z1w z20).fBurst).fN)),(.int .i64 (((nth z1w z20).fBurst).fD)),(.int .i64 (((nth z1w z20).fR).fN)),(.int .i64 (((nth z1w z20).fR).fD))],row (.slice z81 z3M.length z82) 30 2 (z3M.flatMap e30),stb z6f 30 [(.int .i64 z2d.fN),(.int .i64 z2d.fD)],stb z42 30 [(.int .i64 0),(.int .i64 0)]]) (fun w hw=>by have pz:=(hz.call hw ((.cons .h4 .nil) : Sel [stb ze6 35 [(.int .i64 (((nth z1w z20).fBurst).fN)),(.int .i64 (((nth z1w z20).fBurst).fD)),(.int .i64 (((nth z1w z20).fR).fN)),(.int .i64 (((nth z1w z20).fR).fD))],row (.slice z81 z3M.length z82) 30 2 (z3M.flatMap e30),stb z6f 30 [(.int .i64 z2d.fN),(.int .i64 z2d.fD)],stb z42 30 [(.int .i64 0),(.int .i64 0)],stb z5D 90 [(.int .i64 z5S)]] [stb z5D 90 [(.int .i64 z5S)]] [stb ze6 35 [(.int .i64 (((nth z1w z20).fBurst).fN)),(.int .i64 (((nth z1w z20).fBurst).fD)),(.int .i64 (((nth z1w z20).fR).fN)),(.int .i64 (((nth z1w z20).fR).fD))],row (.slice z81 z3M.length z82) 30 2 (z3M.flatMap e30),stb z6f 30 [(.int .i64 z2d.fN),(.int .i64 z2d.fD)],stb z42 30 [(.int .i64 0),(.int .i64 0)]])); exact y7p (Z:=_) (z4P:=z5D) (z78:=(⟨z5S⟩ : z2y)) (z1b:=(⟨(⟨(((nth z1w z20).fBurst).fN),(((nth z1w z20).fBurst).fD)⟩ : z2),(⟨(((nth z1w z20).fR).fN),(((nth z1w z20).fR).fD)⟩ : z2)⟩ : z1)) (z3e:=z2d) (r:=z9z) w pz  zvj (hw.owns ((.cons .h4 .nil) : Sel [stb ze6 35 [(.int .i64 (((nth z1w z20).fBurst).fN)),(.int .i64 (((nth z1w z20).fBurst).fD)),(.int .i64 (((nth z1w z20).fR).fN)),(.int .i64 (((nth z1w z20).fR).fD))],row (.slice z81 z3M.length z82) 30 2 (z3M.flatMap e30),stb z6f 30 [(.int .i64 z2d.fN),(.int .i64 z2d.fD)],stb z42 30 [(.int .i64 0),(.int .i64 0)],stb z5D 90 [(.int .i64 z5S)]] [stb z5D 90 [(.int .i64 z5S)]] [stb ze6 35 [(.int .i64 (((nth z1w z20).fBurst).fN)),(.int .i64 (((nth z1w z20).fBurst).fD)),(.int .i64 (((nth z1w z20).fR).fN)),(.int .i64 (((nth z1w z20).fR).fD))],row (.slice z81 z3M.length z82) 30 2 (z3M.flatMap e30),stb z6f 30 [(.int .i64 z2d.fN),(.int .i64 z2d.fD)],stb z42 30 [(.int .i64 0),(.int .i64 0)]]))) ?_
     refine WL.new (dd:=29) rfl rfl rfl (yU (cs:=([z9z.1] : List z2).flatMap e30) y1H (Eos.parts (l:=[.tmp 28]) (.cons rfl .nil) [0]) (fun _=>by kernel_rfl) rfl (by unfold maxLen; omega)) ?_
     intro zAC _
     refine WL.eff (d:=30) rfl rfl rfl (y5f (enc:=e30) (l1:=z3M) (l2:=([z9z.1] : List z2)) y1H rfl rfl .h3 (fun _=>rfl) rfl rfl (y65 .here) (y5S y86 _) zvk) ?_
     rintro ⟨zvl,zvm⟩ _
     refine WL.a (d:=7) rfl rfl rfl (q_z rfl) ?_
     refine WL.nil ?_
     refine WX.yn ?_
     refine WX.a ?_
     refine WC.a ?_
     refine WL.a (d:=31) rfl rfl rfl (y1d rfl rfl rfl) ?_
     refine WL.a (d:=21) rfl rfl rfl (q_m rfl) ?_
     refine WL.nil ?_
     exact WX.round (G:=Nat × List z2 × Int × Int × Option Addr × Nat) ⟨zl2,(z3M ++ ([z9z.1] : List z2)),(i64 (z20 + 1)),z9z.2.fE,zvl,zvm⟩ h (Nat.lt_succ_self _) (.cons rfl (.cons rfl (.cons rfl (.cons rfl (.cons rfl (.cons rfl (.cons rfl .nil))))))) (.cons .here (.cons .h3 (.cons .h3 (.cons .h1 .nil))))
    ·replace h:=yk h zl7
     refine WC.exit ?_
     refine WX.ym ?_
     refine WX.ym ?_
     refine WX.yH ?_
     exact WX.mid (G:=List z2 × Int × Option Addr × Nat) ⟨z3M,z5S,z81,z82⟩ h (.cons rfl (.cons rfl (.cons rfl .nil))) (.cons .here (.cons .h1 (.cons .h1 .nil)))
   ·rintro z3r z6e z6g z6h h
    replace h:=(zvg z3r z6e).symm.trans h
    refine WC.b ?_
    refine WC.b ?_
    refine WC.a ?_
    refine WL.a (d:=32) rfl rfl rfl (y4 y5Y rfl rfl) ?_
    refine WL.a (d:=33) rfl rfl rfl (ye y2H rfl (yu .h2 rfl)) ?_
    refine WL.a (d:=34) rfl rfl rfl (y2L rfl rfl) ?_
    refine WL.nil ?_
    refine WX.a ?_
    refine WC.cond rfl (fun zl8=>?_) (fun zl8=>?_)
    ·replace h:=yj h zl8
     refine WC.b ?_
     refine WC.y1e (fun i=>[3].contains i) [stbp z5D 90 [(0,(.int .i64 z6e))]] rfl ?_
     refine WD.a (i:=0) (d:=35) (by kernel_rfl) rfl (z6 (by kernel_rfl)) (z7 (by kernel_rfl)) rfl rfl rfl (fun _=>y1j (v:=(.agg #[(.int .i64 0),(.int .i64 0)])) (Eos.parts (l:=[]) .nil []) (fun _=>by kernel_rfl)) ?_
     refine WD.a (i:=1) (d:=36) (by kernel_rfl) rfl (z6 (by kernel_rfl)) (z7 (by kernel_rfl)) rfl rfl rfl (fun _=>y4 y5Y rfl rfl) ?_
     refine WD.y2z (i:=2) (d:=37) (by kernel_rfl) rfl (z6 (by kernel_rfl)) (z7 (by kernel_rfl)) rfl rfl rfl (Sin.wk (.cons .h2 .nil) (.stb (.cons rfl .nil) .nil)) (ye y2H rfl (y7A .here (.head _))) ?_
     refine WD.forced0 (i:=3) rfl (by kernel_rfl) rfl rfl rfl (Sin.wk (.cons .h2 .nil) (.stb (.cons rfl .nil) .nil)) (yd (vs:=[(.int .i64 0),(.int .i64 0)]) (ds:=[(.int .i64 0),(.int .i64 0)]) yl rfl rfl rfl rfl (y3 rfl (y3 rfl yf)) .h1 (Nat.le_of_ble_eq_true rfl) rfl) ?_
     refine WD.a (i:=4) (d:=5) (by kernel_rfl) rfl (z6 (by kernel_rfl)) (z7 (by kernel_rfl)) rfl rfl rfl (fun _=>q_z rfl) ?_
     refine WD.done (by kernel_rfl) ?_
     refine WX.a ?_
     refine WC.ret ?_
     refine WX.y8 ?_
     obtain rfl:=Option.some.inj h
     refine WX.y9 Try.results22 (.agg rfl y5 rfl (y7 .here) (.tmp rfl .nil)) (fun w hw=>?_)
     exact ⟨y1I rfl rfl,hw.sub .nil⟩
    ·replace h:=yk h zl8
     refine WC.skip ?_
     refine WX.a ?_
     refine WC.b ?_
     obtain ⟨zcG,zvn,h⟩:=zb h
     refine WC.a ?_
     refine WL.a (d:=38) rfl rfl rfl (q_m rfl) ?_
     refine WL.b (dd:=39) rfl rfl rfl (zl (l:=[.tmp 38,.func 18]) Try.call46 (.cons rfl (.cons rfl .nil))) (.nil : Sel [row (.slice z6g z3r.length z6h) 30 2 (z3r.flatMap e30),stb z42 30 [(.int .i64 0),(.int .i64 0)],stb z5D 90 [(.int .i64 z6e)]] [] [row (.slice z6g z3r.length z6h) 30 2 (z3r.flatMap e30),stb z42 30 [(.int .i64 0),(.int .i64 0)],stb z5D 90 [(.int .i64 z6e)]]) (fun w hw=>by have pz:=(hz.call hw (.nil : Sel [row (.slice z6g z3r.length z6h) 30 2 (z3r.flatMap e30),stb z42 30 [(.int .i64 0),(.int .i64 0)],stb z5D 90 [(.int .i64 z6e)]] [] [row (.slice z6g z3r.length z6h) 30 2 (z3r.flatMap e30),stb z42 30 [(.int .i64 0),(.int .i64 0)],stb z5D 90 [(.int .i64 z6e)]])).lend hw (.nil : Sel [row (.slice z6g z3r.length z6h) 30 2 (z3r.flatMap e30),stb z42 30 [(.int .i64 0),(.int .i64 0)],stb z5D 90 [(.int .i64 z6e)]] [] [row (.slice z6g z3r.length z6h) 30 2 (z3r.flatMap e30),stb z42 30 [(.int .i64 0),(.int .i64 0)],stb z5D 90 [(.int .i64 z6e)]]) (B:=[row (.slice z6g z3r.length z6h) 30 2 (z3r.flatMap e30)]) (fun _ hx'=>((.cons .here .nil) : Sel _ [row (.slice z6g z3r.length z6h) 30 2 (z3r.flatMap e30)] _).mem hx'); exact y4F (Z:=_) (zcE:=z6g) (zcF:=z6h) (z9y:=18) (zbp:=[]) (z2A:=z3r) (z90:=(fun (y0 : z2) (y1 : z2)=>yO y0 y1)) (r:=zcG) w pz (ZA.row (hw.lent (.nil : Sel [row (.slice z6g z3r.length z6h) 30 2 (z3r.flatMap e30),stb z42 30 [(.int .i64 0),(.int .i64 0)],stb z5D 90 [(.int .i64 z6e)]] [] [row (.slice z6g z3r.length z6h) 30 2 (z3r.flatMap e30),stb z42 30 [(.int .i64 0),(.int .i64 0)],stb z5D 90 [(.int .i64 z6e)]]) (B:=[row (.slice z6g z3r.length z6h) 30 2 (z3r.flatMap e30)]) (fun _ hx'=>((.cons .here .nil) : Sel _ [row (.slice z6g z3r.length z6h) 30 2 (z3r.flatMap e30)] _).mem hx') (.head _) _) (RR.flat (enc:=e30) (fun _=>rfl) _) ⟨w,pz.1⟩) Try.call18 (fun w' hz' y0 y1  r  hr=>y1Y (Z:=_)  (z2m:=y0) (z2n:=y1) (r:=r) w' hz'  hr) zvn) ?_
     refine WL.yc rfl rfl (yd (vs:=[(.int .i64 zcG.fN),(.int .i64 zcG.fD)]) (ds:=[(.int .i64 zcG.fN),(.int .i64 zcG.fD)]) yl rfl rfl rfl rfl (y3 rfl (y3 rfl yf)) .h1 (Nat.le_of_ble_eq_true rfl) rfl) ?_
     refine WL.a (d:=5) rfl rfl rfl (q_z rfl) ?_
     refine WL.nil ?_
     refine WX.a ?_
     refine WC.ret ?_
     obtain rfl:=Option.some.inj h
     refine WX.y9 Try.results22 (.agg rfl y5 rfl (y7 .here) (.tmp rfl .nil)) (fun w hw=>?_)
     exact ⟨y1I rfl rfl,hw.sub .nil⟩
end Go.Proofs.Ytakfmdiiehcbdaa

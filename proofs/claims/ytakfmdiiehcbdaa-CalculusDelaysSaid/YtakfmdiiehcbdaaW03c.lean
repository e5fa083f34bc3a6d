/- A part of this claim's proof: models of functions, walks, plain laws. No conditions. -/
import Derived.Test.YtakfmdiiehcbdaaW03b
namespace Go.Proofs.Ytakfmdiiehcbdaa
open Go Go.RowKit Sep
set_option linter.all false
set_option maxRecDepth 30000
set_option maxHeartbeats 4000000
def y6r (z14 : z7) (z15 : z7) : Option (z7 × Int) :=
 (y1f z14).bind fun zhG=>(if !zhG then some true else (y1f z15).bind fun zl1=>some (!zl1)).bind fun zfN=>if zfN then some ((⟨0,0⟩ : z7),2) else (y5H z14 z15).bind fun zea=>(y2Q zea.1 zea.2).bind fun zby=>some (zby.1,zby.2)
set_option maxRecDepth 20000 in
theorem yao (Z : Zp)   (z14 : z7) (z15 : z7) (r : z7 × Int) (w₀ : World) (hz : PZ [] w₀ Z)
  (h : y6r z14 z15 = some r) :
  Calls Try.prog 40 #[(.string ⟨#[43]⟩),(.agg #[(.int .i64 z14.fN),(.int .i64 z14.fD)]),(.agg #[(.int .i64 z15.fN),(.int .i64 z15.fD)])] w₀ fun e w'=>e = .returned (.tuple #[(.agg #[(.int .i64 r.1.fN),(.int .i64 r.1.fD)]),(.int .i64 r.2)]) ∧ Hp [] w₀ w' []:=by
 unfold y6r at h
 refine Calls.yd (vs:=[(.string ⟨#[43]⟩),(.agg #[(.int .i64 z14.fN),(.int .i64 z14.fD)]),(.agg #[(.int .i64 z15.fN),(.int .i64 z15.fD)])]) (pre:=[]) (env:=[(0,(.string ⟨#[43]⟩)),(1,(.agg #[(.int .i64 z14.fN),(.int .i64 z14.fD)])),(2,(.agg #[(.int .i64 z15.fN),(.int .i64 z15.fD)]))]) Try.func40 rfl Try.ntmps40 rfl (Hp.nil w₀ _) rfl ?_
 refine WC.b ?_
 refine WC.a ?_
 refine WL.new (dd:=4) rfl rfl rfl (yI (cs:=[(.int .i64 z14.fN),(.int .i64 z14.fD)]) rfl rfl) ?_
 intro zJ _
 refine WL.new (dd:=5) rfl rfl rfl (yI (cs:=[(.int .i64 z15.fN),(.int .i64 z15.fD)]) rfl rfl) ?_
 intro zK _
 refine WL.new (dd:=6) rfl rfl rfl (ym (cs:=[(.int .i64 0),(.int .i64 0)]) yt rfl) ?_
 intro z4q _
 refine WL.a (d:=7) rfl rfl rfl (q_z rfl) ?_
 refine WL.nil ?_
 refine WX.a ?_
 refine WC.b ?_
 refine WC.b ?_
 obtain ⟨zhG,zuW,h⟩:=ze h
 obtain ⟨zfN,zpK,h⟩:=ze h
 refine WC.a ?_
 refine WL.a (d:=9) rfl rfl rfl (y4 (cs:=[(.int .i64 z14.fN),(.int .i64 z14.fD)]) y5 rfl rfl (y8 .h2)) ?_
 refine WL.b (dd:=10) rfl rfl rfl (zj (l:=[.tmp 9]) Try.call39 (.cons rfl .nil)) (.nil : Sel [stb z4q 30 [(.int .i64 0),(.int .i64 0)],stb zK 30 [(.int .i64 z15.fN),(.int .i64 z15.fD)],stb zJ 30 [(.int .i64 z14.fN),(.int .i64 z14.fD)]] [] [stb z4q 30 [(.int .i64 0),(.int .i64 0)],stb zK 30 [(.int .i64 z15.fN),(.int .i64 z15.fD)],stb zJ 30 [(.int .i64 z14.fN),(.int .i64 z14.fD)]]) (fun w hw=>by have pz:=(hz.call hw (.nil : Sel [stb z4q 30 [(.int .i64 0),(.int .i64 0)],stb zK 30 [(.int .i64 z15.fN),(.int .i64 z15.fD)],stb zJ 30 [(.int .i64 z14.fN),(.int .i64 z14.fD)]] [] [stb z4q 30 [(.int .i64 0),(.int .i64 0)],stb zK 30 [(.int .i64 z15.fN),(.int .i64 z15.fD)],stb zJ 30 [(.int .i64 z14.fN),(.int .i64 z14.fD)]])); exact y1G (Z:=_)  (z1b:=z14) (r:=zhG) w pz  zuW) ?_
 refine WL.a (d:=11) rfl rfl rfl (y1m rfl) ?_
 refine WL.a (d:=12) rfl rfl rfl (q_m rfl) ?_
 refine WL.yN True [(0,(.string ⟨#[43]⟩)),(4,(.pointer (some ⟨zJ,0,none⟩))),(5,(.pointer (some ⟨zK,0,none⟩))),(6,(.pointer (some ⟨z4q,0,none⟩))),(16,(.bool zfN))] [stb z4q 30 [(.int .i64 0),(.int .i64 0)],stb zK 30 [(.int .i64 z15.fN),(.int .i64 z15.fD)],stb zJ 30 [(.int .i64 z14.fN),(.int .i64 z14.fD)]] 4 ?_ (fun _=>?_)
 ·rcases Bool.eq_false_or_eq_true (!zhG) with hb' | hb'
  ·have zpL:=hb'; clear hb'
   have zl2:=yh zpK zpL
   replace zl2:=Option.some.inj zl2
   refine WL.pin (i:=12) rfl zpL ?_
   refine WL.e rfl rfl rfl ?_
   refine WL.e rfl rfl rfl ?_
   refine WL.e rfl rfl rfl ?_
   refine WL.a (d:=16) rfl rfl rfl (ys rfl rfl) ?_
   exact WL.y9 () trivial (.cons rfl (.cons rfl (.cons rfl (.cons rfl (.cons (zr zl2) .nil))))) (.cons .here (.cons .here (.cons .here .nil)))
  ·have zpM:=hb'; clear hb'
   have zfO:=yi zpK zpM
   obtain ⟨zl1,zuX,zfO⟩:=ze zfO
   replace zfO:=Option.some.inj zfO
   refine WL.pin (i:=12) rfl zpM ?_
   refine WL.a (d:=13) rfl rfl rfl (y4 (cs:=[(.int .i64 z15.fN),(.int .i64 z15.fD)]) y5 rfl rfl (y8 .h1)) ?_
   refine WL.b (dd:=14) rfl rfl rfl (zj (l:=[.tmp 13]) Try.call39 (.cons rfl .nil)) (.nil : Sel [stb z4q 30 [(.int .i64 0),(.int .i64 0)],stb zK 30 [(.int .i64 z15.fN),(.int .i64 z15.fD)],stb zJ 30 [(.int .i64 z14.fN),(.int .i64 z14.fD)]] [] [stb z4q 30 [(.int .i64 0),(.int .i64 0)],stb zK 30 [(.int .i64 z15.fN),(.int .i64 z15.fD)],stb zJ 30 [(.int .i64 z14.fN),(.int .i64 z14.fD)]]) (fun w hw=>by have pz:=(hz.call hw (.nil : Sel [stb z4q 30 [(.int .i64 0),(.int .i64 0)],stb zK 30 [(.int .i64 z15.fN),(.int .i64 z15.fD)],stb zJ 30 [(.int .i64 z14.fN),(.int .i64 z14.fD)]] [] [stb z4q 30 [(.int .i64 0),(.int .i64 0)],stb zK 30 [(.int .i64 z15.fN),(.int .i64 z15.fD)],stb zJ 30 [(.int .i64 z14.fN),(.int .i64 z14.fD)]])); exact y1G (Z:=_)  (z1b:=z15) (r:=zl1) w pz  zuX) ?_
   refine WL.a (d:=15) rfl rfl rfl (y1m rfl) ?_
   refine WL.a (d:=16) rfl rfl rfl (yr rfl rfl) ?_
   exact WL.y9 () trivial (.cons rfl (.cons rfl (.cons rfl (.cons rfl (.cons (zr zfO) .nil))))) (.cons .here (.cons .here (.cons .here .nil)))
 ·skip
  refine WL.a (d:=17) rfl rfl rfl (q_m rfl) ?_
  refine WL.yN True [(0,(.string ⟨#[43]⟩)),(4,(.pointer (some ⟨zJ,0,none⟩))),(5,(.pointer (some ⟨zK,0,none⟩))),(6,(.pointer (some ⟨z4q,0,none⟩))),(25,(.bool zfN))] [stb z4q 30 [(.int .i64 0),(.int .i64 0)],stb zK 30 [(.int .i64 z15.fN),(.int .i64 z15.fD)],stb zJ 30 [(.int .i64 z14.fN),(.int .i64 z14.fD)]] 8 ?_ (fun _=>?_)
  ·rcases Bool.eq_false_or_eq_true zfN with hb' | hb'
   ·have zpN:=hb'; clear hb'
    refine WL.pin (i:=17) rfl zpN ?_
    refine WL.e rfl rfl rfl ?_
    refine WL.e rfl rfl rfl ?_
    refine WL.e rfl rfl rfl ?_
    refine WL.e rfl rfl rfl ?_
    refine WL.e rfl rfl rfl ?_
    refine WL.e rfl rfl rfl ?_
    refine WL.e rfl rfl rfl ?_
    refine WL.a (d:=25) rfl rfl rfl (ys rfl rfl) ?_
    exact WL.y9 () trivial (.cons rfl (.cons rfl (.cons rfl (.cons rfl (.cons (zr (Eq.symm zpN)) .nil))))) (.cons .here (.cons .here (.cons .here .nil)))
   ·have zpO:=hb'; clear hb'
    refine WL.pin (i:=17) rfl zpO ?_
    refine WL.a (d:=18) rfl rfl rfl (q_m rfl) ?_
    refine WL.a (d:=19) rfl rfl rfl (y7y (r:=false) (by decide) rfl rfl) ?_
    refine WL.a (d:=20) rfl rfl rfl (q_m rfl) ?_
    refine WL.e rfl rfl rfl ?_
    refine WL.e rfl rfl rfl ?_
    refine WL.e rfl rfl rfl ?_
    refine WL.a (d:=24) rfl rfl rfl (yr rfl rfl) ?_
    refine WL.a (d:=25) rfl rfl rfl (yr rfl rfl) ?_
    exact WL.y9 () trivial (.cons rfl (.cons rfl (.cons rfl (.cons rfl (.cons (zr (Eq.symm zpO)) .nil))))) (.cons .here (.cons .here (.cons .here .nil)))
  ·skip
   refine WL.nil ?_
   refine WX.a ?_
   refine WC.cond rfl (fun zl3=>?_) (fun zl3=>?_)
   ·replace h:=yh h zl3
    refine WC.b ?_
    refine WC.a ?_
    refine WL.a (d:=26) rfl rfl rfl (y1g (v:=(.agg #[(.int .i64 0),(.int .i64 0)])) (Eos.parts (l:=[]) .nil []) (fun _=>by kernel_rfl)) ?_
    refine WL.yb rfl rfl (yc (vs:=[(.int .i64 0),(.int .i64 0)]) (ds:=[(.int .i64 0),(.int .i64 0)]) yo rfl rfl rfl rfl (y2 rfl (y2 rfl yk)) .here (Nat.le_of_ble_eq_true rfl) rfl) ?_
    refine WL.a (d:=7) rfl rfl rfl (q_z rfl) ?_
    refine WL.nil ?_
    refine WX.a ?_
    refine WC.ret ?_
    refine WX.y6 ?_
    obtain rfl:=Option.some.inj h
    refine WX.y7 Try.results40 (.agg rfl y5 rfl (y8 .here) (.tmp rfl .nil)) (fun w hw=>?_)
    exact ⟨y1M rfl rfl,hw.sub .nil⟩
   ·replace h:=yi h zl3
    refine WC.skip ?_
    refine WX.a ?_
    refine WC.b ?_
    refine WC.a ?_
    refine WL.new (dd:=27) rfl rfl rfl (y6p Value.string (fun x=>x)) ?_
    intro z7M _
    refine WL.a (d:=28) rfl rfl rfl (y1d (Eos.caps (l:=[.tmp 4,.tmp 5]) (.cons rfl (.cons rfl .nil)))) ?_
    refine WL.yb rfl rfl (y2g (k:=⟨#[43]⟩) (v:=(.func (.func 54) #[] #[(.pointer (some ⟨zJ,0,none⟩)),(.pointer (some ⟨zK,0,none⟩))])) y2q Try.underlying105 rfl rfl rfl rfl .here) ?_
    refine WL.a (d:=29) rfl rfl rfl (y1d (Eos.caps (l:=[.tmp 4,.tmp 5]) (.cons rfl (.cons rfl .nil)))) ?_
    refine WL.yb rfl rfl (y2g (k:=⟨#[45]⟩) (v:=(.func (.func 55) #[] #[(.pointer (some ⟨zJ,0,none⟩)),(.pointer (some ⟨zK,0,none⟩))])) y2q Try.underlying105 rfl rfl rfl rfl .here) ?_
    refine WL.a (d:=30) rfl rfl rfl (y1d (Eos.caps (l:=[.tmp 4,.tmp 5]) (.cons rfl (.cons rfl .nil)))) ?_
    refine WL.yb rfl rfl (y2g (k:=⟨#[42]⟩) (v:=(.func (.func 56) #[] #[(.pointer (some ⟨zJ,0,none⟩)),(.pointer (some ⟨zK,0,none⟩))])) y2q Try.underlying105 rfl rfl rfl rfl .here) ?_
    refine WL.a (d:=31) rfl rfl rfl (y1d (Eos.caps (l:=[.tmp 4,.tmp 5]) (.cons rfl (.cons rfl .nil)))) ?_
    refine WL.yb rfl rfl (y2g (k:=⟨#[47]⟩) (v:=(.func (.func 57) #[] #[(.pointer (some ⟨zJ,0,none⟩)),(.pointer (some ⟨zK,0,none⟩))])) y2q Try.underlying105 rfl rfl rfl rfl .here) ?_
    refine WL.a (d:=32) rfl rfl rfl (q_m rfl) ?_
    refine WL.a (d:=8) rfl rfl rfl (q_z rfl) ?_
    refine WL.nil ?_
    refine WX.a ?_
    refine WC.b ?_
    obtain ⟨zea,zuY,h⟩:=ze h
    obtain ⟨zby,zuZ,h⟩:=ze h
    refine WC.a ?_
    refine WL.a (d:=33) rfl rfl rfl (q_m rfl) ?_
    refine WL.a (d:=34) rfl rfl rfl (q_m rfl) ?_
    refine WL.a (d:=35) rfl rfl rfl (y7x (k:=⟨#[43]⟩) (dflt:=.nilFunc) (r:=(.func (.func 54) #[] #[(.pointer (some ⟨zJ,0,none⟩)),(.pointer (some ⟨zK,0,none⟩))])) y2q Try.underlying105 zgZ rfl rfl rfl .here (by rfl)) ?_
    refine WL.b (dd:=36) rfl rfl rfl (y2C (l:=[]) Try.call54 rfl .nil) (.nil : Sel [yK z7M Value.string (fun x=>x) [(⟨#[43]⟩,(.func (.func 54) #[] #[(.pointer (some ⟨zJ,0,none⟩)),(.pointer (some ⟨zK,0,none⟩))])),(⟨#[45]⟩,(.func (.func 55) #[] #[(.pointer (some ⟨zJ,0,none⟩)),(.pointer (some ⟨zK,0,none⟩))])),(⟨#[42]⟩,(.func (.func 56) #[] #[(.pointer (some ⟨zJ,0,none⟩)),(.pointer (some ⟨zK,0,none⟩))])),(⟨#[47]⟩,(.func (.func 57) #[] #[(.pointer (some ⟨zJ,0,none⟩)),(.pointer (some ⟨zK,0,none⟩))]))],stb z4q 30 [(.int .i64 0),(.int .i64 0)],stb zK 30 [(.int .i64 z15.fN),(.int .i64 z15.fD)],stb zJ 30 [(.int .i64 z14.fN),(.int .i64 z14.fD)]] [] [yK z7M Value.string (fun x=>x) [(⟨#[43]⟩,(.func (.func 54) #[] #[(.pointer (some ⟨zJ,0,none⟩)),(.pointer (some ⟨zK,0,none⟩))])),(⟨#[45]⟩,(.func (.func 55) #[] #[(.pointer (some ⟨zJ,0,none⟩)),(.pointer (some ⟨zK,0,none⟩))])),(⟨#[42]⟩,(.func (.func 56) #[] #[(.pointer (some ⟨zJ,0,none⟩)),(.pointer (some ⟨zK,0,none⟩))])),(⟨#[47]⟩,(.func (.func 57) #[] #[(.pointer (some ⟨zJ,0,none⟩)),(.pointer (some ⟨zK,0,none⟩))]))],stb z4q 30 [(.int .i64 0),(.int .i64 0)],stb zK 30 [(.int .i64 z15.fN),(.int .i64 z15.fD)],stb zJ 30 [(.int .i64 z14.fN),(.int .i64 z14.fD)]]) (fun w hw=>by have pz:=(hz.call hw (.nil : Sel [yK z7M Value.string (fun x=>x) [(⟨#[43]⟩,(.func (.func 54) #[] #[(.pointer (some ⟨zJ,0,none⟩)),(.pointer (some ⟨zK,0,none⟩))])),(⟨#[45]⟩,(.func (.func 55) #[] #[(.pointer (some ⟨zJ,0,none⟩)),(.pointer (some ⟨zK,0,none⟩))])),(⟨#[42]⟩,(.func (.func 56) #[] #[(.pointer (some ⟨zJ,0,none⟩)),(.pointer (some ⟨zK,0,none⟩))])),(⟨#[47]⟩,(.func (.func 57) #[] #[(.pointer (some ⟨zJ,0,none⟩)),(.pointer (some ⟨zK,0,none⟩))]))],stb z4q 30 [(.int .i64 0),(.int .i64 0)],stb zK 30 [(.int .i64 z15.fN),(.int .i64 z15.fD)],stb zJ 30 [(.int .i64 z14.fN),(.int .i64 z14.fD)]] [] [yK z7M Value.string (fun x=>x) [(⟨#[43]⟩,(.func (.func 54) #[] #[(.pointer (some ⟨zJ,0,none⟩)),(.pointer (some ⟨zK,0,none⟩))])),(⟨#[45]⟩,(.func (.func 55) #[] #[(.pointer (some ⟨zJ,0,none⟩)),(.pointer (some ⟨zK,0,none⟩))])),(⟨#[42]⟩,(.func (.func 56) #[] #[(.pointer (some ⟨zJ,0,none⟩)),(.pointer (some ⟨zK,0,none⟩))])),(⟨#[47]⟩,(.func (.func 57) #[] #[(.pointer (some ⟨zJ,0,none⟩)),(.pointer (some ⟨zK,0,none⟩))]))],stb z4q 30 [(.int .i64 0),(.int .i64 0)],stb zK 30 [(.int .i64 z15.fN),(.int .i64 z15.fD)],stb zJ 30 [(.int .i64 z14.fN),(.int .i64 z14.fD)]])).lend hw (.nil : Sel [yK z7M Value.string (fun x=>x) [(⟨#[43]⟩,(.func (.func 54) #[] #[(.pointer (some ⟨zJ,0,none⟩)),(.pointer (some ⟨zK,0,none⟩))])),(⟨#[45]⟩,(.func (.func 55) #[] #[(.pointer (some ⟨zJ,0,none⟩)),(.pointer (some ⟨zK,0,none⟩))])),(⟨#[42]⟩,(.func (.func 56) #[] #[(.pointer (some ⟨zJ,0,none⟩)),(.pointer (some ⟨zK,0,none⟩))])),(⟨#[47]⟩,(.func (.func 57) #[] #[(.pointer (some ⟨zJ,0,none⟩)),(.pointer (some ⟨zK,0,none⟩))]))],stb z4q 30 [(.int .i64 0),(.int .i64 0)],stb zK 30 [(.int .i64 z15.fN),(.int .i64 z15.fD)],stb zJ 30 [(.int .i64 z14.fN),(.int .i64 z14.fD)]] [] [yK z7M Value.string (fun x=>x) [(⟨#[43]⟩,(.func (.func 54) #[] #[(.pointer (some ⟨zJ,0,none⟩)),(.pointer (some ⟨zK,0,none⟩))])),(⟨#[45]⟩,(.func (.func 55) #[] #[(.pointer (some ⟨zJ,0,none⟩)),(.pointer (some ⟨zK,0,none⟩))])),(⟨#[42]⟩,(.func (.func 56) #[] #[(.pointer (some ⟨zJ,0,none⟩)),(.pointer (some ⟨zK,0,none⟩))])),(⟨#[47]⟩,(.func (.func 57) #[] #[(.pointer (some ⟨zJ,0,none⟩)),(.pointer (some ⟨zK,0,none⟩))]))],stb z4q 30 [(.int .i64 0),(.int .i64 0)],stb zK 30 [(.int .i64 z15.fN),(.int .i64 z15.fD)],stb zJ 30 [(.int .i64 z14.fN),(.int .i64 z14.fD)]]) (B:=[stb zJ 30 [(.int .i64 z14.fN),(.int .i64 z14.fD)],stb zK 30 [(.int .i64 z15.fN),(.int .i64 z15.fD)]]) (fun _ hx'=>((.cons .h3 (.cons .h2 .nil)) : Sel _ [stb zJ 30 [(.int .i64 z14.fN),(.int .i64 z14.fD)],stb zK 30 [(.int .i64 z15.fN),(.int .i64 z15.fD)]] _).mem hx'); exact ya2 (Z:=_) (zfL:=⟨zJ,0,none⟩) (zfM:=⟨zK,0,none⟩) (zbw:=z14) (zbx:=z15) (r:=zea) w pz ((hw.lent (.nil : Sel [yK z7M Value.string (fun x=>x) [(⟨#[43]⟩,(.func (.func 54) #[] #[(.pointer (some ⟨zJ,0,none⟩)),(.pointer (some ⟨zK,0,none⟩))])),(⟨#[45]⟩,(.func (.func 55) #[] #[(.pointer (some ⟨zJ,0,none⟩)),(.pointer (some ⟨zK,0,none⟩))])),(⟨#[42]⟩,(.func (.func 56) #[] #[(.pointer (some ⟨zJ,0,none⟩)),(.pointer (some ⟨zK,0,none⟩))])),(⟨#[47]⟩,(.func (.func 57) #[] #[(.pointer (some ⟨zJ,0,none⟩)),(.pointer (some ⟨zK,0,none⟩))]))],stb z4q 30 [(.int .i64 0),(.int .i64 0)],stb zK 30 [(.int .i64 z15.fN),(.int .i64 z15.fD)],stb zJ 30 [(.int .i64 z14.fN),(.int .i64 z14.fD)]] [] [yK z7M Value.string (fun x=>x) [(⟨#[43]⟩,(.func (.func 54) #[] #[(.pointer (some ⟨zJ,0,none⟩)),(.pointer (some ⟨zK,0,none⟩))])),(⟨#[45]⟩,(.func (.func 55) #[] #[(.pointer (some ⟨zJ,0,none⟩)),(.pointer (some ⟨zK,0,none⟩))])),(⟨#[42]⟩,(.func (.func 56) #[] #[(.pointer (some ⟨zJ,0,none⟩)),(.pointer (some ⟨zK,0,none⟩))])),(⟨#[47]⟩,(.func (.func 57) #[] #[(.pointer (some ⟨zJ,0,none⟩)),(.pointer (some ⟨zK,0,none⟩))]))],stb z4q 30 [(.int .i64 0),(.int .i64 0)],stb zK 30 [(.int .i64 z15.fN),(.int .i64 z15.fD)],stb zJ 30 [(.int .i64 z14.fN),(.int .i64 z14.fD)]]) (B:=[stb zJ 30 [(.int .i64 z14.fN),(.int .i64 z14.fD)],stb zK 30 [(.int .i64 z15.fN),(.int .i64 z15.fD)]]) (fun _ hx'=>((.cons .h3 (.cons .h2 .nil)) : Sel _ [stb zJ 30 [(.int .i64 z14.fN),(.int .i64 z14.fD)],stb zK 30 [(.int .i64 z15.fN),(.int .i64 z15.fD)]] _).mem hx') (.head _) _).stb) ((hw.lent (.nil : Sel [yK z7M Value.string (fun x=>x) [(⟨#[43]⟩,(.func (.func 54) #[] #[(.pointer (some ⟨zJ,0,none⟩)),(.pointer (some ⟨zK,0,none⟩))])),(⟨#[45]⟩,(.func (.func 55) #[] #[(.pointer (some ⟨zJ,0,none⟩)),(.pointer (some ⟨zK,0,none⟩))])),(⟨#[42]⟩,(.func (.func 56) #[] #[(.pointer (some ⟨zJ,0,none⟩)),(.pointer (some ⟨zK,0,none⟩))])),(⟨#[47]⟩,(.func (.func 57) #[] #[(.pointer (some ⟨zJ,0,none⟩)),(.pointer (some ⟨zK,0,none⟩))]))],stb z4q 30 [(.int .i64 0),(.int .i64 0)],stb zK 30 [(.int .i64 z15.fN),(.int .i64 z15.fD)],stb zJ 30 [(.int .i64 z14.fN),(.int .i64 z14.fD)]] [] [yK z7M Value.string (fun x=>x) [(⟨#[43]⟩,(.func (.func 54) #[] #[(.pointer (some ⟨zJ,0,none⟩)),(.pointer (some ⟨zK,0,none⟩))])),(⟨#[45]⟩,(.func (.func 55) #[] #[(.pointer (some ⟨zJ,0,none⟩)),(.pointer (some ⟨zK,0,none⟩))])),(⟨#[42]⟩,(.func (.func 56) #[] #[(.pointer (some ⟨zJ,0,none⟩)),(.pointer (some ⟨zK,0,none⟩))])),(⟨#[47]⟩,(.func (.func 57) #[] #[(.pointer (some ⟨zJ,0,none⟩)),(.pointer (some ⟨zK,0,none⟩))]))],stb z4q 30 [(.int .i64 0),(.int .i64 0)],stb zK 30 [(.int .i64 z15.fN),(.int .i64 z15.fD)],stb zJ 30 [(.int .i64 z14.fN),(.int .i64 z14.fD)]]) (B:=[stb zJ 30 [(.int .i64 z14.fN),(.int .i64 z14.fD)],stb zK 30 [(.int .i64 z15.fN),(.int .i64 z15.fD)]]) (fun _ hx'=>((.cons .h3 (.cons .h2 .nil)) : Sel _ [stb zJ 30 [(.int .i64 z14.fN),(.int .i64 z14.fD)],stb zK 30 [(.int .i64 z15.fN),(.int .i64 z15.fD)]] _).mem hx') (.tail _ (.head _)) _).stb) zuY) ?_
    refine WL.a (d:=37) rfl rfl rfl (yf rfl rfl) ?_
    refine WL.a (d:=38) rfl rfl rfl (yf rfl rfl) ?_
    refine WL.b (dd:=39) rfl rfl rfl (zj (l:=[.tmp 37,.tmp 38]) Try.call9 (.cons rfl (.cons rfl .nil))) (.nil : Sel [yK z7M Value.string (fun x=>x) [(⟨#[43]⟩,(.func (.func 54) #[] #[(.pointer (some ⟨zJ,0,none⟩)),(.pointer (some ⟨zK,0,none⟩))])),(⟨#[45]⟩,(.func (.func 55) #[] #[(.pointer (some ⟨zJ,0,none⟩)),(.pointer (some ⟨zK,0,none⟩))])),(⟨#[42]⟩,(.func (.func 56) #[] #[(.pointer (some ⟨zJ,0,none⟩)),(.pointer (some ⟨zK,0,none⟩))])),(⟨#[47]⟩,(.func (.func 57) #[] #[(.pointer (some ⟨zJ,0,none⟩)),(.pointer (some ⟨zK,0,none⟩))]))],stb z4q 30 [(.int .i64 0),(.int .i64 0)],stb zK 30 [(.int .i64 z15.fN),(.int .i64 z15.fD)],stb zJ 30 [(.int .i64 z14.fN),(.int .i64 z14.fD)]] [] [yK z7M Value.string (fun x=>x) [(⟨#[43]⟩,(.func (.func 54) #[] #[(.pointer (some ⟨zJ,0,none⟩)),(.pointer (some ⟨zK,0,none⟩))])),(⟨#[45]⟩,(.func (.func 55) #[] #[(.pointer (some ⟨zJ,0,none⟩)),(.pointer (some ⟨zK,0,none⟩))])),(⟨#[42]⟩,(.func (.func 56) #[] #[(.pointer (some ⟨zJ,0,none⟩)),(.pointer (some ⟨zK,0,none⟩))])),(⟨#[47]⟩,(.func (.func 57) #[] #[(.pointer (some ⟨zJ,0,none⟩)),(.pointer (some ⟨zK,0,none⟩))]))],stb z4q 30 [(.int .i64 0),(.int .i64 0)],stb zK 30 [(.int .i64 z15.fN),(.int .i64 z15.fD)],stb zJ 30 [(.int .i64 z14.fN),(.int .i64 z14.fD)]]) (fun w hw=>by have pz:=(hz.call hw (.nil : Sel [yK z7M Value.string (fun x=>x) [(⟨#[43]⟩,(.func (.func 54) #[] #[(.pointer (some ⟨zJ,0,none⟩)),(.pointer (some ⟨zK,0,none⟩))])),(⟨#[45]⟩,(.func (.func 55) #[] #[(.pointer (some ⟨zJ,0,none⟩)),(.pointer (some ⟨zK,0,none⟩))])),(⟨#[42]⟩,(.func (.func 56) #[] #[(.pointer (some ⟨zJ,0,none⟩)),(.pointer (some ⟨zK,0,none⟩))])),(⟨#[47]⟩,(.func (.func 57) #[] #[(.pointer (some ⟨zJ,0,none⟩)),(.pointer (some ⟨zK,0,none⟩))]))],stb z4q 30 [(.int .i64 0),(.int .i64 0)],stb zK 30 [(.int .i64 z15.fN),(.int .i64 z15.fD)],stb zJ 30 [(.int .i64 z14.fN),(.int .i64 z14.fD)]] [] [yK z7M Value.string (fun x=>x) [(⟨#[43]⟩,(.func (.func 54) #[] #[(.pointer (some ⟨zJ,0,none⟩)),(.pointer (some ⟨zK,0,none⟩))])),(⟨#[45]⟩,(.func (.func 55) #[] #[(.pointer (some ⟨zJ,0,none⟩)),(.pointer (some ⟨zK,0,none⟩))])),(⟨#[42]⟩,(.func (.func 56) #[] #[(.pointer (some ⟨zJ,0,none⟩)),(.pointer (some ⟨zK,0,none⟩))])),(⟨#[47]⟩,(.func (.func 57) #[] #[(.pointer (some ⟨zJ,0,none⟩)),(.pointer (some ⟨zK,0,none⟩))]))],stb z4q 30 [(.int .i64 0),(.int .i64 0)],stb zK 30 [(.int .i64 z15.fN),(.int .i64 z15.fD)],stb zJ 30 [(.int .i64 z14.fN),(.int .i64 z14.fD)]])); exact y51 (Z:=_)  (z7F:=zea.1) (z7m:=zea.2) (r:=zby) w pz  zuZ) ?_
    refine WL.a (d:=40) rfl rfl rfl (yf rfl rfl) ?_
    refine WL.a (d:=41) rfl rfl rfl (yf rfl rfl) ?_
    refine WL.yb rfl rfl (yc (vs:=[(.int .i64 zby.1.fN),(.int .i64 zby.1.fD)]) (ds:=[(.int .i64 zby.1.fN),(.int .i64 zby.1.fD)]) yo rfl rfl rfl rfl (y2 rfl (y2 rfl yk)) .h1 (Nat.le_of_ble_eq_true rfl) rfl) ?_
    refine WL.a (d:=7) rfl rfl rfl (q_z rfl) ?_
    refine WL.nil ?_
    refine WX.a ?_
    refine WC.ret ?_
    obtain rfl:=Option.some.inj h
    refine WX.y7 Try.results40 (.agg rfl y5 rfl (y8 .here) (.tmp rfl .nil)) (fun w hw=>?_)
    exact ⟨y1M rfl rfl,hw.sub .nil⟩
def y1l (z3T : z7) (z3U : z7) : Option (z7 × Int) :=
 (y6r z3T z3U).bind fun zbz=>some (zbz.1,zbz.2)
set_option maxRecDepth 20000 in
theorem y4R (Z : Zp)   (z3T : z7) (z3U : z7) (r : z7 × Int) (w₀ : World) (hz : PZ [] w₀ Z)
  (h : y1l z3T z3U = some r) :
  Calls Try.prog 19 #[(.agg #[(.int .i64 z3T.fN),(.int .i64 z3T.fD)]),(.agg #[(.int .i64 z3U.fN),(.int .i64 z3U.fD)])] w₀ fun e w'=>e = .returned (.tuple #[(.agg #[(.int .i64 r.1.fN),(.int .i64 r.1.fD)]),(.int .i64 r.2)]) ∧ Hp [] w₀ w' []:=by
 unfold y1l at h
 refine Calls.yd (vs:=[(.agg #[(.int .i64 z3T.fN),(.int .i64 z3T.fD)]),(.agg #[(.int .i64 z3U.fN),(.int .i64 z3U.fD)])]) (pre:=[]) (env:=[(0,(.agg #[(.int .i64 z3T.fN),(.int .i64 z3T.fD)])),(1,(.agg #[(.int .i64 z3U.fN),(.int .i64 z3U.fD)]))]) Try.func19 rfl Try.ntmps19 rfl (Hp.nil w₀ _) rfl ?_
 refine WC.b ?_
 refine WC.a ?_
 refine WL.new (dd:=2) rfl rfl rfl (yI (cs:=[(.int .i64 z3T.fN),(.int .i64 z3T.fD)]) rfl rfl) ?_
 intro zhH _
 refine WL.new (dd:=3) rfl rfl rfl (yI (cs:=[(.int .i64 z3U.fN),(.int .i64 z3U.fD)]) rfl rfl) ?_
 intro zhI _
 refine WL.new (dd:=4) rfl rfl rfl (ym (cs:=[(.int .i64 0),(.int .i64 0)]) yt rfl) ?_
 intro zhJ _
 refine WL.a (d:=5) rfl rfl rfl (q_z rfl) ?_
 refine WL.nil ?_
 refine WX.a ?_
 refine WC.b ?_
 obtain ⟨zbz,zv0,h⟩:=ze h
 refine WC.a ?_
 refine WL.a (d:=6) rfl rfl rfl (y4 (cs:=[(.int .i64 z3T.fN),(.int .i64 z3T.fD)]) y5 rfl rfl (y8 .h2)) ?_
 refine WL.a (d:=7) rfl rfl rfl (y4 (cs:=[(.int .i64 z3U.fN),(.int .i64 z3U.fD)]) y5 rfl rfl (y8 .h1)) ?_
 refine WL.b (dd:=8) rfl rfl rfl (zj (l:=[.const (.string ⟨#[43]⟩),.tmp 6,.tmp 7]) Try.call40 (.cons rfl (.cons rfl (.cons rfl .nil)))) (.nil : Sel [stb zhJ 30 [(.int .i64 0),(.int .i64 0)],stb zhI 30 [(.int .i64 z3U.fN),(.int .i64 z3U.fD)],stb zhH 30 [(.int .i64 z3T.fN),(.int .i64 z3T.fD)]] [] [stb zhJ 30 [(.int .i64 0),(.int .i64 0)],stb zhI 30 [(.int .i64 z3U.fN),(.int .i64 z3U.fD)],stb zhH 30 [(.int .i64 z3T.fN),(.int .i64 z3T.fD)]]) (fun w hw=>by have pz:=(hz.call hw (.nil : Sel [stb zhJ 30 [(.int .i64 0),(.int .i64 0)],stb zhI 30 [(.int .i64 z3U.fN),(.int .i64 z3U.fD)],stb zhH 30 [(.int .i64 z3T.fN),(.int .i64 z3T.fD)]] [] [stb zhJ 30 [(.int .i64 0),(.int .i64 0)],stb zhI 30 [(.int .i64 z3U.fN),(.int .i64 z3U.fD)],stb zhH 30 [(.int .i64 z3T.fN),(.int .i64 z3T.fD)]])); exact yao (Z:=_)  (z14:=z3T) (z15:=z3U) (r:=zbz) w pz  zv0) ?_
 refine WL.a (d:=9) rfl rfl rfl (yf rfl rfl) ?_
 refine WL.a (d:=10) rfl rfl rfl (yf rfl rfl) ?_
 refine WL.yb rfl rfl (yc (vs:=[(.int .i64 zbz.1.fN),(.int .i64 zbz.1.fD)]) (ds:=[(.int .i64 zbz.1.fN),(.int .i64 zbz.1.fD)]) yo rfl rfl rfl rfl (y2 rfl (y2 rfl yk)) .here (Nat.le_of_ble_eq_true rfl) rfl) ?_
 refine WL.a (d:=5) rfl rfl rfl (q_z rfl) ?_
 refine WL.nil ?_
 refine WX.a ?_
 refine WC.ret ?_
 obtain rfl:=Option.some.inj h
 refine WX.y7 Try.results19 (.agg rfl y5 rfl (y8 .here) (.tmp rfl .nil)) (fun w hw=>?_)
 exact ⟨y1M rfl rfl,hw.sub .nil⟩
def y12 (z5o : z2h) (z85 : z7 → z7 → Option (z7 × Int)) (z2U : z7) (z2V : z7) : Option (z7 × z2h) :=
 if decide (z5o.fE ≠ 0) then (y1L).bind fun zcD=>some (zcD,z5o) else (z85 z2U z2V).bind fun z3G=>if decide (z3G.2 ≠ 0) then (y1L).bind fun zcE=>some (zcE,(⟨z3G.2⟩ : z2h)) else some (z3G.1,(⟨z3G.2⟩ : z2h))
set_option maxRecDepth 20000 in
theorem y1F (Z : Zp)  (z4r : Nat) (z7d : FuncId) (z7N : List Value) (z5o : z2h) (z85 : z7 → z7 → Option (z7 × Int)) (z2U : z7) (z2V : z7) (r : z7 × z2h) (w₀ : World) (hz : PZ (fps [stb z4r 98 [(.int .i64 z5o.fE)]]) w₀ Z)
  (zv1 : ∀ args w,(callFunc z7d args).run Try.prog w = .ok (.enter z7d args) w)
  (zv2 : ∀ w : World,PZ [] w Z → ∀ (x0 : z7) (x1 : z7) (r : z7 × Int),z85 x0 x1 = some r → Calls Try.prog z7d (([(.agg #[(.int .i64 x0.fN),(.int .i64 x0.fD)]),(.agg #[(.int .i64 x1.fN),(.int .i64 x1.fD)])] : List Value) ++ z7N).toArray w fun e w'=>e = .returned (.tuple #[(.agg #[(.int .i64 r.1.fN),(.int .i64 r.1.fD)]),(.int .i64 r.2)]) ∧ Hp [] w w' [])
  (h : y12 z5o z85 z2U z2V = some r)
  (hown : Hp (fps [stb z4r 98 [(.int .i64 z5o.fE)]]) w₀ w₀ [stb z4r 98 [(.int .i64 z5o.fE)]]) :
  Calls Try.prog 33 #[(.pointer (some ⟨z4r,0,none⟩)),(.func (.func z7d) #[] (z7N).toArray),(.agg #[(.int .i64 z2U.fN),(.int .i64 z2U.fD)]),(.agg #[(.int .i64 z2V.fN),(.int .i64 z2V.fD)])] w₀ fun e w'=>e = .returned (.agg #[(.int .i64 r.1.fN),(.int .i64 r.1.fD)]) ∧ Hp (fps [stb z4r 98 [(.int .i64 z5o.fE)]]) w₀ w' [stb z4r 98 [(.int .i64 r.2.fE)]]:=by
 unfold y12 at h
 refine Calls.yd (vs:=[(.pointer (some ⟨z4r,0,none⟩)),(.func (.func z7d) #[] (z7N).toArray),(.agg #[(.int .i64 z2U.fN),(.int .i64 z2U.fD)]),(.agg #[(.int .i64 z2V.fN),(.int .i64 z2V.fD)])]) (pre:=[stb z4r 98 [(.int .i64 z5o.fE)]]) (env:=[(0,(.pointer (some ⟨z4r,0,none⟩))),(1,(.func (.func z7d) #[] (z7N).toArray)),(2,(.agg #[(.int .i64 z2U.fN),(.int .i64 z2U.fD)])),(3,(.agg #[(.int .i64 z2V.fN),(.int .i64 z2V.fD)]))]) Try.func33 rfl Try.ntmps33 rfl (hown) rfl ?_
 refine WC.b ?_
 refine WC.a ?_
 refine WL.new (dd:=6) rfl rfl rfl (yI (cs:=[(.int .i64 z2U.fN),(.int .i64 z2U.fD)]) rfl rfl) ?_
 intro zbA _
 refine WL.new (dd:=7) rfl rfl rfl (yI (cs:=[(.int .i64 z2V.fN),(.int .i64 z2V.fD)]) rfl rfl) ?_
 intro zbB _
 refine WL.new (dd:=8) rfl rfl rfl (ym (cs:=[(.int .i64 0),(.int .i64 0)]) yt rfl) ?_
 intro zbC _
 refine WL.nil ?_
 refine WX.a ?_
 refine WC.b ?_
 refine WC.b ?_
 refine WC.a ?_
 refine WL.a (d:=11) rfl rfl rfl (q_m rfl) ?_
 refine WL.a (d:=12) rfl rfl rfl (y4f rfl) ?_
 refine WL.a (d:=13) rfl rfl rfl (y3 y3g rfl rfl) ?_
 refine WL.a (d:=14) rfl rfl rfl (ya y2K rfl (yv .h3 rfl)) ?_
 refine WL.a (d:=15) rfl rfl rfl (y2G rfl rfl) ?_
 refine WL.nil ?_
 refine WX.a ?_
 refine WC.cond rfl (fun zl4=>?_) (fun zl4=>?_)
 ·replace h:=yh h zl4
  refine WC.b ?_
  obtain ⟨zcD,zv3,h⟩:=ze h
  refine WC.a ?_
  refine WL.b (dd:=16) rfl rfl rfl (zj (l:=[]) Try.call51 .nil) (.nil : Sel [stb zbC 30 [(.int .i64 0),(.int .i64 0)],stb zbB 30 [(.int .i64 z2V.fN),(.int .i64 z2V.fD)],stb zbA 30 [(.int .i64 z2U.fN),(.int .i64 z2U.fD)],stb z4r 98 [(.int .i64 z5o.fE)]] [] [stb zbC 30 [(.int .i64 0),(.int .i64 0)],stb zbB 30 [(.int .i64 z2V.fN),(.int .i64 z2V.fD)],stb zbA 30 [(.int .i64 z2U.fN),(.int .i64 z2U.fD)],stb z4r 98 [(.int .i64 z5o.fE)]]) (fun w hw=>by have pz:=(hz.call hw (.nil : Sel [stb zbC 30 [(.int .i64 0),(.int .i64 0)],stb zbB 30 [(.int .i64 z2V.fN),(.int .i64 z2V.fD)],stb zbA 30 [(.int .i64 z2U.fN),(.int .i64 z2U.fD)],stb z4r 98 [(.int .i64 z5o.fE)]] [] [stb zbC 30 [(.int .i64 0),(.int .i64 0)],stb zbB 30 [(.int .i64 z2V.fN),(.int .i64 z2V.fD)],stb zbA 30 [(.int .i64 z2U.fN),(.int .i64 z2U.fD)],stb z4r 98 [(.int .i64 z5o.fE)]])); exact y2y (Z:=_)   (r:=zcD) w pz  zv3) ?_
  refine WL.yb rfl rfl (yc (vs:=[(.int .i64 zcD.fN),(.int .i64 zcD.fD)]) (ds:=[(.int .i64 zcD.fN),(.int .i64 zcD.fD)]) yo rfl rfl rfl rfl (y2 rfl (y2 rfl yk)) .here (Nat.le_of_ble_eq_true rfl) rfl) ?_
  refine WL.nil ?_
  refine WX.a ?_
  refine WC.ret ?_
  refine WX.y6 ?_
  obtain rfl:=Option.some.inj h
  refine WX.y7 Try.results33 (.agg rfl y5 rfl (y8 .here) .nil) (fun w hw=>?_)
  exact ⟨yD rfl,hw.sub (.cons .h3 .nil)⟩
 ·replace h:=yi h zl4
  refine WC.skip ?_
  refine WX.a ?_
  refine WC.b ?_
  obtain ⟨z3G,zv4,h⟩:=ze h
  refine WC.a ?_
  refine WL.a (d:=18) rfl rfl rfl (q_m rfl) ?_
  refine WL.a (d:=19) rfl rfl rfl (y4 (cs:=[(.int .i64 z2U.fN),(.int .i64 z2U.fD)]) y5 rfl rfl (y8 .h2)) ?_
  refine WL.a (d:=20) rfl rfl rfl (y4 (cs:=[(.int .i64 z2V.fN),(.int .i64 z2V.fD)]) y5 rfl rfl (y8 .h1)) ?_
  refine WL.b (dd:=21) rfl rfl rfl (y2C (l:=[.tmp 19,.tmp 20]) (f:=z7d) (caps:=z7N) zv1 rfl (.cons rfl (.cons rfl .nil))) .nil (fun w hw=>zv2 w (hz.now hw) z2U z2V z3G  zv4) ?_
  refine WL.a (d:=17) rfl rfl rfl (q_m rfl) ?_
  refine WL.a (d:=22) rfl rfl rfl (yf rfl rfl) ?_
  refine WL.a (d:=23) rfl rfl rfl (yf rfl rfl) ?_
  refine WL.new (dd:=9) rfl rfl rfl (ym (cs:=[(.int .i64 0),(.int .i64 0)]) yt rfl) ?_
  intro zhK _
  refine WL.yb rfl rfl (yc (vs:=[(.int .i64 z3G.1.fN),(.int .i64 z3G.1.fD)]) (ds:=[(.int .i64 z3G.1.fN),(.int .i64 z3G.1.fD)]) yo rfl rfl rfl rfl (y2 rfl (y2 rfl yk)) .here (Nat.le_of_ble_eq_true rfl) rfl) ?_
  refine WL.a (d:=10) rfl rfl rfl (q_z rfl) ?_
  refine WL.nil ?_
  refine WX.a ?_
  refine WC.b ?_
  refine WC.b ?_
  refine WC.a ?_
  refine WL.a (d:=24) rfl rfl rfl (q_m rfl) ?_
  refine WL.a (d:=25) rfl rfl rfl (q_m rfl) ?_
  refine WL.a (d:=26) rfl rfl rfl (y4f rfl) ?_
  refine WL.a (d:=27) rfl rfl rfl (y3 y3g rfl rfl) ?_
  refine WL.yb rfl rfl (yc (vs:=[(.int .i64 z3G.2)]) (ds:=[(.int .i64 z3G.2)]) y8g rfl rfl rfl rfl (y2 rfl yk) .h4 (Nat.le_of_ble_eq_true rfl) rfl) ?_
  refine WL.nil ?_
  refine WX.a ?_
  refine WC.b ?_
  refine WC.a ?_
  refine WL.a (d:=28) rfl rfl rfl (q_m rfl) ?_
  refine WL.a (d:=29) rfl rfl rfl (y2G rfl rfl) ?_
  refine WL.nil ?_
  refine WX.a ?_
  refine WC.cond rfl (fun zl5=>?_) (fun zl5=>?_)
  ·replace h:=yh h zl5
   refine WC.b ?_
   obtain ⟨zcE,zv5,h⟩:=ze h
   refine WC.a ?_
   refine WL.b (dd:=30) rfl rfl rfl (zj (l:=[]) Try.call51 .nil) (.nil : Sel [stb z4r 98 [(.int .i64 z3G.2)],stb zhK 30 [(.int .i64 z3G.1.fN),(.int .i64 z3G.1.fD)],stb zbC 30 [(.int .i64 0),(.int .i64 0)],stb zbB 30 [(.int .i64 z2V.fN),(.int .i64 z2V.fD)],stb zbA 30 [(.int .i64 z2U.fN),(.int .i64 z2U.fD)]] [] [stb z4r 98 [(.int .i64 z3G.2)],stb zhK 30 [(.int .i64 z3G.1.fN),(.int .i64 z3G.1.fD)],stb zbC 30 [(.int .i64 0),(.int .i64 0)],stb zbB 30 [(.int .i64 z2V.fN),(.int .i64 z2V.fD)],stb zbA 30 [(.int .i64 z2U.fN),(.int .i64 z2U.fD)]]) (fun w hw=>by have pz:=(hz.call hw (.nil : Sel [stb z4r 98 [(.int .i64 z3G.2)],stb zhK 30 [(.int .i64 z3G.1.fN),(.int .i64 z3G.1.fD)],stb zbC 30 [(.int .i64 0),(.int .i64 0)],stb zbB 30 [(.int .i64 z2V.fN),(.int .i64 z2V.fD)],stb zbA 30 [(.int .i64 z2U.fN),(.int .i64 z2U.fD)]] [] [stb z4r 98 [(.int .i64 z3G.2)],stb zhK 30 [(.int .i64 z3G.1.fN),(.int .i64 z3G.1.fD)],stb zbC 30 [(.int .i64 0),(.int .i64 0)],stb zbB 30 [(.int .i64 z2V.fN),(.int .i64 z2V.fD)],stb zbA 30 [(.int .i64 z2U.fN),(.int .i64 z2U.fD)]])); exact y2y (Z:=_)   (r:=zcE) w pz  zv5) ?_
   refine WL.yb rfl rfl (yc (vs:=[(.int .i64 zcE.fN),(.int .i64 zcE.fD)]) (ds:=[(.int .i64 zcE.fN),(.int .i64 zcE.fD)]) yo rfl rfl rfl rfl (y2 rfl (y2 rfl yk)) .h2 (Nat.le_of_ble_eq_true rfl) rfl) ?_
   refine WL.nil ?_
   refine WX.a ?_
   refine WC.ret ?_
   refine WX.y6 ?_
   obtain rfl:=Option.some.inj h
   refine WX.y7 Try.results33 (.agg rfl y5 rfl (y8 .here) .nil) (fun w hw=>?_)
   exact ⟨yD rfl,hw.sub (.cons .h1 .nil)⟩
  ·replace h:=yi h zl5
   refine WC.skip ?_
   refine WX.a ?_
   refine WC.b ?_
   refine WC.a ?_
   refine WL.a (d:=31) rfl rfl rfl (y4 (cs:=[(.int .i64 z3G.1.fN),(.int .i64 z3G.1.fD)]) y5 rfl rfl (y8 .h1)) ?_
   refine WL.yb rfl rfl (yc (vs:=[(.int .i64 z3G.1.fN),(.int .i64 z3G.1.fD)]) (ds:=[(.int .i64 z3G.1.fN),(.int .i64 z3G.1.fD)]) yo rfl rfl rfl rfl (y2 rfl (y2 rfl yk)) .h2 (Nat.le_of_ble_eq_true rfl) rfl) ?_
   refine WL.nil ?_
   refine WX.a ?_
   refine WC.ret ?_
   obtain rfl:=Option.some.inj h
   refine WX.y7 Try.results33 (.agg rfl y5 rfl (y8 .here) .nil) (fun w hw=>?_)
   exact ⟨yD rfl,hw.sub (.cons .h1 .nil)⟩
def yX (z1Q : List (List z6)) (zav : Int → Int → Int → Option Int) : Nat → Int → Int → Int → Int → Option Int
 | 0,_,_,_,_=>none
 | zl6 + 1,z6h,z4b,z3V,z3W=>if decide (z6h < ((z1Q.length : Nat) : Int)) then chk ((0 : Int) ≤ z6h ∧ z6h < ((z1Q.length : Nat) : Int)) ((y1Z (nth z1Q z6h)).bind fun z4P=>if decide (z4P.2 ≠ 0) then some z4P.2 else (y3b (nth z1Q z6h)).bind fun z5p=>(y12 (⟨z4b⟩ : z2h) (fun (y0 : z7) (y1 : z7)=>y1l y0 y1) (⟨z3V,z3W⟩ : z7) z5p.1).bind fun z8u=>yX z1Q zav zl6 (i64 (z6h + 1)) z8u.2.fE z8u.1.fN z8u.1.fD) else zav z4b z3V z3W
theorem y4W {n : Nat} {z1Q : List (List z6)} {zav : Int → Int → Int → Option Int} {z6h : Int} {z4b : Int} {z3V : Int} {z3W : Int} {r : Int} (h : yX z1Q zav n z6h z4b z3V z3W = some r) : ∃ m,n = m + 1:=by
 cases n with
 | zero=>cases h
 | succ m=>exact ⟨m,rfl⟩
def y2f (z1Q : List (List z6)) (zl : zSv) (zfP : List (List z6)) (zcF : zSv) (z2r : List z7) : Option Int :=
 (if decide (((z1Q.length : Nat) : Int) > 32) then some true else (yM z1Q (fun (y0 : List z6)=>yz y0)).bind fun zl7=>some zl7).bind fun zhL=>(if zhL then some true else (y2N zl).bind fun zl8=>some (!zl8)).bind fun zl9=>if zl9 then some 2 else (y1L).bind fun z9v=>jp3 (fun (z7n : Int) (z7o : Int) (z7p : Int)=>(if decide (z7n = 0) then (yV (⟨z7o,z7p⟩ : z7) zl.fR).bind fun zla=>some (decide (zla > 0)) else some false).bind fun zlb=>if zlb then some 6 else some z7n) fun zav=>yX z1Q zav yu 0 0 z9v.fN z9v.fD
set_option maxRecDepth 20000 in
theorem y6j (Z : Zp)  (z2s : Option Addr) (z2t : Nat) (z2E : Addr) (zlc : Option Addr) (zld : Nat) (z2F : Addr) (z2G : Option Addr) (z2H : Nat) (z1Q : List (List z6)) (zl : zSv) (zfP : List (List z6)) (zcF : zSv) (z2r : List z7) (r : Int) (w₀ : World) (hz : PZ [] w₀ Z)
  (zpP : ZS Z 1 (p39 Z) z2s z2t z1Q)
  (zBh : ZS Z 1 (p39 Z) zlc zld zfP)
  (zBi : ZC Z z2E [(.slice zlc zfP.length zld)])
  (zBj : ZC Z z2F [(.int .i64 zcF.fR.fN),(.int .i64 zcF.fR.fD),(.int .i64 zcF.fLatency.fN),(.int .i64 zcF.fLatency.fD)])
  (zBk : ZS Z 2 (fun r x=>r = e30 x) z2G z2H z2r)
  (h : y2f z1Q zl zfP zcF z2r = some r) :
  Calls Try.prog 52 #[(.agg #[(.slice z2s z1Q.length z2t),(.int .i64 zl.fR.fN),(.int .i64 zl.fR.fD),(.int .i64 zl.fLatency.fN),(.int .i64 zl.fLatency.fD),(.func (.func 32) #[] #[(.pointer (some z2E)),(.pointer (some z2F))]),(.slice z2G z2r.length z2H)])] w₀ fun e w'=>∃ Zn : Zp,e = .returned (.int .i64 r) ∧ True ∧ Hp [] w₀ w' [fz Zn]:=by
 unfold y2f at h
 refine Calls.yd (vs:=[(.agg #[(.slice z2s z1Q.length z2t),(.int .i64 zl.fR.fN),(.int .i64 zl.fR.fD),(.int .i64 zl.fLatency.fN),(.int .i64 zl.fLatency.fD),(.func (.func 32) #[] #[(.pointer (some z2E)),(.pointer (some z2F))]),(.slice z2G z2r.length z2H)])]) (pre:=[]) (env:=[(0,(.agg #[(.slice z2s z1Q.length z2t),(.int .i64 zl.fR.fN),(.int .i64 zl.fR.fD),(.int .i64 zl.fLatency.fN),(.int .i64 zl.fLatency.fD),(.func (.func 32) #[] #[(.pointer (some z2E)),(.pointer (some z2F))]),(.slice z2G z2r.length z2H)]))]) Try.func52 rfl Try.ntmps52 rfl (Hp.nil w₀ _) rfl ?_
 refine WC.pool ?_
 refine WC.b ?_
 refine WC.a ?_
 refine WL.new (dd:=1) rfl rfl rfl (yI (cs:=[(.slice z2s z1Q.length z2t),(.int .i64 zl.fR.fN),(.int .i64 zl.fR.fD),(.int .i64 zl.fLatency.fN),(.int .i64 zl.fLatency.fD),(.func (.func 32) #[] #[(.pointer (some z2E)),(.pointer (some z2F))]),(.slice z2G z2r.length z2H)]) rfl rfl) ?_
 intro z2W _
 refine WL.a (d:=2) rfl rfl rfl (q_z rfl) ?_
 refine WL.nil ?_
 refine WX.a ?_
 refine WC.b ?_
 refine WC.b ?_
 obtain ⟨zhL,zpQ,h⟩:=ze h
 obtain ⟨zl9,zpR,h⟩:=ze h
 refine WC.a ?_
 refine WL.a (d:=11) rfl rfl rfl (y3 y4O rfl rfl) ?_
 refine WL.a (d:=12) rfl rfl rfl (ya y3f rfl (yv .here rfl)) ?_
 refine WL.a (d:=13) rfl rfl rfl (y10 Try.underlying26 rfl) ?_
 refine WL.a (d:=14) rfl rfl rfl (y2F rfl rfl) ?_
 refine WL.a (d:=15) rfl rfl rfl (q_m rfl) ?_
 refine WL.yN True [(1,(.pointer (some ⟨z2W,0,none⟩))),(19,(.bool zhL))] [stb z2W 79 [(.slice z2s z1Q.length z2t),(.int .i64 zl.fR.fN),(.int .i64 zl.fR.fD),(.int .i64 zl.fLatency.fN),(.int .i64 zl.fLatency.fD),(.func (.func 32) #[] #[(.pointer (some z2E)),(.pointer (some z2F))]),(.slice z2G z2r.length z2H)],fz []] 4 ?_ (fun _=>?_)
 ·rcases Bool.eq_false_or_eq_true (decide (((z1Q.length : Nat) : Int) > 32)) with hb' | hb'
  ·have zpS:=hb'; clear hb'
   have zle:=yh zpQ zpS
   replace zle:=Option.some.inj zle
   refine WL.pin (i:=15) rfl zpS ?_
   refine WL.e rfl rfl rfl ?_
   refine WL.e rfl rfl rfl ?_
   refine WL.e rfl rfl rfl ?_
   refine WL.a (d:=19) rfl rfl rfl (ys rfl rfl) ?_
   exact WL.y9 () trivial (.cons rfl (.cons (zr zle) .nil)) (.cons .here (.cons .here .nil))
  ·have zpT:=hb'; clear hb'
   have zfQ:=yi zpQ zpT
   obtain ⟨zl7,zv6,zfQ⟩:=ze zfQ
   replace zfQ:=Option.some.inj zfQ
   refine WL.pin (i:=15) rfl zpT ?_
   refine WL.a (d:=16) rfl rfl rfl (y3 y4O rfl rfl) ?_
   refine WL.a (d:=17) rfl rfl rfl (ya y3f rfl (yv .here rfl)) ?_
   refine WL.b (dd:=18) rfl rfl rfl (zj (l:=[.tmp 17,.func 67]) Try.call66 (.cons rfl (.cons rfl .nil))) (.nil : Sel [stb z2W 79 [(.slice z2s z1Q.length z2t),(.int .i64 zl.fR.fN),(.int .i64 zl.fR.fD),(.int .i64 zl.fLatency.fN),(.int .i64 zl.fLatency.fD),(.func (.func 32) #[] #[(.pointer (some z2E)),(.pointer (some z2F))]),(.slice z2G z2r.length z2H)],fz []] [] [stb z2W 79 [(.slice z2s z1Q.length z2t),(.int .i64 zl.fR.fN),(.int .i64 zl.fR.fD),(.int .i64 zl.fLatency.fN),(.int .i64 zl.fLatency.fD),(.func (.func 32) #[] #[(.pointer (some z2E)),(.pointer (some z2F))]),(.slice z2G z2r.length z2H)],fz []]) (fun w hw=>by have pz:=(hz.call2 hw (.nil : Sel [stb z2W 79 [(.slice z2s z1Q.length z2t),(.int .i64 zl.fR.fN),(.int .i64 zl.fR.fD),(.int .i64 zl.fLatency.fN),(.int .i64 zl.fLatency.fD),(.func (.func 32) #[] #[(.pointer (some z2E)),(.pointer (some z2F))]),(.slice z2G z2r.length z2H)],fz []] [] [stb z2W 79 [(.slice z2s z1Q.length z2t),(.int .i64 zl.fR.fN),(.int .i64 zl.fR.fD),(.int .i64 zl.fLatency.fN),(.int .i64 zl.fLatency.fD),(.func (.func 32) #[] #[(.pointer (some z2E)),(.pointer (some z2F))]),(.slice z2G z2r.length z2H)],fz []]) .h1); exact y2v (Z:=_) (zcf:=z2s) (zcg:=z2t) (za8:=67) (zch:=[]) (z9l:=z1Q) (zce:=(fun (y0 : List z6)=>yz y0)) (r:=zl7) w pz ((zpP.mono (Zle.left _ _)).weak (fun _ _ h=>yL (Zle.left _ _) h)) Try.call67 (fun w' hz' y0 ga0 gc0 r gh0 hr=>y46 (Z:=_) (zcb:=ga0) (zcc:=gc0) (z9k:=y0) (r:=r) w' hz' gh0 hr) zv6) ?_
   refine WL.a (d:=19) rfl rfl rfl (yr rfl rfl) ?_
   exact WL.y9 () trivial (.cons rfl (.cons (zr zfQ) .nil)) (.cons .here (.cons .here .nil))
 ·skip
  refine WL.a (d:=20) rfl rfl rfl (q_m rfl) ?_
  refine WL.yN True [(1,(.pointer (some ⟨z2W,0,none⟩))),(25,(.bool zl9))] [stb z2W 79 [(.slice z2s z1Q.length z2t),(.int .i64 zl.fR.fN),(.int .i64 zl.fR.fD),(.int .i64 zl.fLatency.fN),(.int .i64 zl.fLatency.fD),(.func (.func 32) #[] #[(.pointer (some z2E)),(.pointer (some z2F))]),(.slice z2G z2r.length z2H)],fz []] 5 ?_ (fun _=>?_)
  ·rcases Bool.eq_false_or_eq_true zhL with hb' | hb'
   ·have zpU:=hb'; clear hb'
    have zlf:=yh zpR zpU
    replace zlf:=Option.some.inj zlf
    refine WL.pin (i:=20) rfl zpU ?_
    refine WL.e rfl rfl rfl ?_
    refine WL.e rfl rfl rfl ?_
    refine WL.e rfl rfl rfl ?_
    refine WL.e rfl rfl rfl ?_
    refine WL.a (d:=25) rfl rfl rfl (ys rfl rfl) ?_
    exact WL.y9 () trivial (.cons rfl (.cons (zr zlf) .nil)) (.cons .here (.cons .here .nil))
   ·have zpV:=hb'; clear hb'
    have zfR:=yi zpR zpV
    obtain ⟨zl8,zv7,zfR⟩:=ze zfR
    replace zfR:=Option.some.inj zfR
    refine WL.pin (i:=20) rfl zpV ?_
    refine WL.a (d:=21) rfl rfl rfl (y3 y7B rfl rfl) ?_
    refine WL.a (d:=22) rfl rfl rfl (y4 (cs:=[(.int .i64 zl.fR.fN),(.int .i64 zl.fR.fD),(.int .i64 zl.fLatency.fN),(.int .i64 zl.fLatency.fD)]) y4k rfl rfl (y1U (s:=4) .here rfl)) ?_
    refine WL.b (dd:=23) rfl rfl rfl (zj (l:=[.tmp 22]) Try.call47 (.cons rfl .nil)) (.nil : Sel [stb z2W 79 [(.slice z2s z1Q.length z2t),(.int .i64 zl.fR.fN),(.int .i64 zl.fR.fD),(.int .i64 zl.fLatency.fN),(.int .i64 zl.fLatency.fD),(.func (.func 32) #[] #[(.pointer (some z2E)),(.pointer (some z2F))]),(.slice z2G z2r.length z2H)],fz []] [] [stb z2W 79 [(.slice z2s z1Q.length z2t),(.int .i64 zl.fR.fN),(.int .i64 zl.fR.fD),(.int .i64 zl.fLatency.fN),(.int .i64 zl.fLatency.fD),(.func (.func 32) #[] #[(.pointer (some z2E)),(.pointer (some z2F))]),(.slice z2G z2r.length z2H)],fz []]) (fun w hw=>by have pz:=(hz.call2 hw (.nil : Sel [stb z2W 79 [(.slice z2s z1Q.length z2t),(.int .i64 zl.fR.fN),(.int .i64 zl.fR.fD),(.int .i64 zl.fLatency.fN),(.int .i64 zl.fLatency.fD),(.func (.func 32) #[] #[(.pointer (some z2E)),(.pointer (some z2F))]),(.slice z2G z2r.length z2H)],fz []] [] [stb z2W 79 [(.slice z2s z1Q.length z2t),(.int .i64 zl.fR.fN),(.int .i64 zl.fR.fD),(.int .i64 zl.fLatency.fN),(.int .i64 zl.fLatency.fD),(.func (.func 32) #[] #[(.pointer (some z2E)),(.pointer (some z2F))]),(.slice z2G z2r.length z2H)],fz []]) .h1); exact y68 (Z:=_)  (z10:=zl) (r:=zl8) w pz  zv7) ?_
    refine WL.a (d:=24) rfl rfl rfl (y1m rfl) ?_
    refine WL.a (d:=25) rfl rfl rfl (yr rfl rfl) ?_
    exact WL.y9 () trivial (.cons rfl (.cons (zr zfR) .nil)) (.cons .here (.cons .here .nil))
  ·skip
   refine WL.nil ?_
   refine WX.a ?_
   refine WC.cond rfl (fun zlg=>?_) (fun zlg=>?_)
   ·replace h:=yh h zlg
    refine WC.b ?_
    refine WC.a ?_
    refine WL.a (d:=2) rfl rfl rfl (q_z rfl) ?_
    refine WL.nil ?_
    refine WX.a ?_
    refine WC.ret ?_
    refine WX.y6 ?_
    obtain rfl:=Option.some.inj h
    refine WX.y7 Try.results52 (.tmp rfl .nil) (fun w hw=>?_)
    exact ⟨[],yD rfl,trivial,hw.sub (.cons .h1 .nil)⟩
   ·replace h:=yi h zlg
    refine WC.skip ?_
    refine WX.a ?_
    refine WC.b ?_
    refine WC.a ?_
    refine WL.new (dd:=3) rfl rfl rfl (ym (cs:=[(.int .i64 0)]) y6W rfl) ?_
    intro z3N _
    refine WL.nil ?_
    refine WX.a ?_
    refine WC.b ?_
    obtain ⟨z9v,zv8,h⟩:=ze h
    refine WC.a ?_
    refine WL.b (dd:=26) rfl rfl rfl (zj (l:=[]) Try.call51 .nil) (.nil : Sel [stb z3N 98 [(.int .i64 0)],stb z2W 79 [(.slice z2s z1Q.length z2t),(.int .i64 zl.fR.fN),(.int .i64 zl.fR.fD),(.int .i64 zl.fLatency.fN),(.int .i64 zl.fLatency.fD),(.func (.func 32) #[] #[(.pointer (some z2E)),(.pointer (some z2F))]),(.slice z2G z2r.length z2H)],fz []] [] [stb z3N 98 [(.int .i64 0)],stb z2W 79 [(.slice z2s z1Q.length z2t),(.int .i64 zl.fR.fN),(.int .i64 zl.fR.fD),(.int .i64 zl.fLatency.fN),(.int .i64 zl.fLatency.fD),(.func (.func 32) #[] #[(.pointer (some z2E)),(.pointer (some z2F))]),(.slice z2G z2r.length z2H)],fz []]) (fun w hw=>by have pz:=(hz.call2 hw (.nil : Sel [stb z3N 98 [(.int .i64 0)],stb z2W 79 [(.slice z2s z1Q.length z2t),(.int .i64 zl.fR.fN),(.int .i64 zl.fR.fD),(.int .i64 zl.fLatency.fN),(.int .i64 zl.fLatency.fD),(.func (.func 32) #[] #[(.pointer (some z2E)),(.pointer (some z2F))]),(.slice z2G z2r.length z2H)],fz []] [] [stb z3N 98 [(.int .i64 0)],stb z2W 79 [(.slice z2s z1Q.length z2t),(.int .i64 zl.fR.fN),(.int .i64 zl.fR.fD),(.int .i64 zl.fLatency.fN),(.int .i64 zl.fLatency.fD),(.func (.func 32) #[] #[(.pointer (some z2E)),(.pointer (some z2F))]),(.slice z2G z2r.length z2H)],fz []]) .h2); exact y2y (Z:=_)   (r:=z9v) w pz  zv8) ?_
    refine WL.new (dd:=4) rfl rfl rfl (ym (cs:=[(.int .i64 0),(.int .i64 0)]) yt rfl) ?_
    intro z59 _
    refine WL.yb rfl rfl (yc (vs:=[(.int .i64 z9v.fN),(.int .i64 z9v.fD)]) (ds:=[(.int .i64 z9v.fN),(.int .i64 z9v.fD)]) yo rfl rfl rfl rfl (y2 rfl (y2 rfl yk)) .here (Nat.le_of_ble_eq_true rfl) rfl) ?_
    refine WL.nil ?_
    refine WX.a ?_
    obtain ⟨zav,zv9,h⟩:=y6U h
    refine WC.y4i (fun (z7n : Int) (z7o : Int) (z7p : Int) (z8v : Zp)=>(zav z7n z7o z7p = some r) ∧ (Zle (Z ++ []) (Z ++ z8v))) (fun (z7n : Int) (z7o : Int) (z7p : Int) (z8v : Zp)=>[(1,(.pointer (some ⟨z2W,0,none⟩))),(3,(.pointer (some ⟨z3N,0,none⟩))),(4,(.pointer (some ⟨z59,0,none⟩)))]) (fun (z7n : Int) (z7o : Int) (z7p : Int) (z8v : Zp)=>[fz z8v,stb z2W 79 [(.slice z2s z1Q.length z2t),(.int .i64 zl.fR.fN),(.int .i64 zl.fR.fD),(.int .i64 zl.fLatency.fN),(.int .i64 zl.fLatency.fD),(.func (.func 32) #[] #[(.pointer (some z2E)),(.pointer (some z2F))]),(.slice z2G z2r.length z2H)],stb z3N 98 [(.int .i64 z7n)],stb z59 30 [(.int .i64 z7o),(.int .i64 z7p)]]) ?_ ?_
    ·skip
     refine WC.b ?_
     refine WC.a ?_
     refine WL.a (d:=27) rfl rfl rfl (y3 y4O rfl rfl) ?_
     refine WL.a (d:=28) rfl rfl rfl (ya y3f rfl (yv .h2 rfl)) ?_
     refine WL.a (d:=29) rfl rfl rfl (y10 Try.underlying26 rfl) ?_
     refine WL.a (d:=30) rfl rfl rfl (q_m rfl) ?_
     refine WL.nil ?_
     refine WX.a ?_
     refine WC.block ?_
     refine WC.y3H (fun (zeb : Nat) (z6h : Int) (z4b : Int) (z3V : Int) (z3W : Int) (z4y : Zp)=>(yX z1Q zav zeb z6h z4b z3V z3W = some r) ∧ (Zle (Z ++ []) (Z ++ z4y))) (fun (zeb : Nat) (z6h : Int) (z4b : Int) (z3V : Int) (z3W : Int) (z4y : Zp)=>[(1,(.pointer (some ⟨z2W,0,none⟩))),(3,(.pointer (some ⟨z3N,0,none⟩))),(4,(.pointer (some ⟨z59,0,none⟩))),(28,(.slice z2s z1Q.length z2t)),(29,(.int .i64 ((z1Q.length : Nat) : Int))),(30,(.int .i64 z6h))]) (fun (zeb : Nat) (z6h : Int) (z4b : Int) (z3V : Int) (z3W : Int) (z4y : Zp)=>[fz z4y,stb z2W 79 [(.slice z2s z1Q.length z2t),(.int .i64 zl.fR.fN),(.int .i64 zl.fR.fD),(.int .i64 zl.fLatency.fN),(.int .i64 zl.fLatency.fD),(.func (.func 32) #[] #[(.pointer (some z2E)),(.pointer (some z2F))]),(.slice z2G z2r.length z2H)],stb z3N 98 [(.int .i64 z4b)],stb z59 30 [(.int .i64 z3V),(.int .i64 z3W)]]) (fun (zeb : Nat) (z6h : Int) (z4b : Int) (z3V : Int) (z3W : Int) (z4y : Zp)=>zeb) ⟨yu,0,0,z9v.fN,z9v.fD,[]⟩ ⟨h,(Zle.refl _)⟩ (.cons rfl (.cons rfl (.cons rfl (.cons rfl (.cons rfl (.cons rfl .nil)))))) (.cons .h3 (.cons .h2 (.cons .h1 (.cons .here .nil)))) ?_
     rintro zeb z6h z4b z3V z3W z4y ⟨h,zhM⟩
     obtain ⟨zl6,rfl⟩:=y4W h
     rw [yX] at h
     refine WC.b ?_
     refine WC.a ?_
     refine WL.a (d:=31) rfl rfl rfl (y1c rfl rfl) ?_
     refine WL.nil ?_
     refine WX.a ?_
     refine WC.b ?_
     refine WC.cond rfl (fun zlh=>?_) (fun zlh=>?_)
     ·replace h:=yh h zlh
      refine WC.skip ?_
      refine WX.a ?_
      refine WC.b ?_
      refine WC.block ?_
      refine WC.b ?_
      obtain ⟨zva,h⟩:=yl h
      refine WC.a ?_
      refine WL.znth (dd:=32) rfl rfl (Z:=(Z ++ z4y)) (Pr:=(p39 (Z ++ z4y))) y3Q rfl rfl ((zpP.mono ((Zle.left _ _).trans zhM)).weak (fun _ _ h=>yL ((Zle.left _ _).trans zhM) h)) zva ?_
      rintro zBl zBm zvb zBn ⟨zpW,zpX,rfl,zpY⟩
      refine WL.a (d:=33) rfl rfl rfl (ya y4Q rfl (y4Z (hz.pv2 .here) zvb rfl)) ?_
      refine WL.a (d:=6) rfl rfl rfl (q_z rfl) ?_
      refine WL.nil ?_
      refine WX.a ?_
      refine WC.b ?_
      refine WC.b ?_
      obtain ⟨z4P,zvc,h⟩:=ze h
      refine WC.a ?_
      refine WL.a (d:=35) rfl rfl rfl (q_m rfl) ?_
      refine WL.y6n (dd:=36) rfl rfl rfl (zj (l:=[.tmp 35]) Try.call68 (.cons rfl .nil)) (.nil : Sel [fz z4y,stb z2W 79 [(.slice z2s z1Q.length z2t),(.int .i64 zl.fR.fN),(.int .i64 zl.fR.fD),(.int .i64 zl.fLatency.fN),(.int .i64 zl.fLatency.fD),(.func (.func 32) #[] #[(.pointer (some z2E)),(.pointer (some z2F))]),(.slice z2G z2r.length z2H)],stb z3N 98 [(.int .i64 z4b)],stb z59 30 [(.int .i64 z3V),(.int .i64 z3W)]] [] [fz z4y,stb z2W 79 [(.slice z2s z1Q.length z2t),(.int .i64 zl.fR.fN),(.int .i64 zl.fR.fD),(.int .i64 zl.fLatency.fN),(.int .i64 zl.fLatency.fD),(.func (.func 32) #[] #[(.pointer (some z2E)),(.pointer (some z2F))]),(.slice z2G z2r.length z2H)],stb z3N 98 [(.int .i64 z4b)],stb z59 30 [(.int .i64 z3V),(.int .i64 z3W)]]) (fun w hw=>by have pz:=(hz.call2 hw (.nil : Sel [fz z4y,stb z2W 79 [(.slice z2s z1Q.length z2t),(.int .i64 zl.fR.fN),(.int .i64 zl.fR.fD),(.int .i64 zl.fLatency.fN),(.int .i64 zl.fLatency.fD),(.func (.func 32) #[] #[(.pointer (some z2E)),(.pointer (some z2F))]),(.slice z2G z2r.length z2H)],stb z3N 98 [(.int .i64 z4b)],stb z59 30 [(.int .i64 z3V),(.int .i64 z3W)]] [] [fz z4y,stb z2W 79 [(.slice z2s z1Q.length z2t),(.int .i64 zl.fR.fN),(.int .i64 zl.fR.fD),(.int .i64 zl.fLatency.fN),(.int .i64 zl.fLatency.fD),(.func (.func 32) #[] #[(.pointer (some z2E)),(.pointer (some z2F))]),(.slice z2G z2r.length z2H)],stb z3N 98 [(.int .i64 z4b)],stb z59 30 [(.int .i64 z3V),(.int .i64 z3W)]]) .here); exact y4m (Z:=_) (z9s:=zpW) (z9t:=zpX) (z7L:=(nth z1Q z6h)) (r:=z4P) w pz zpY zvc) ?_
      rintro z8w z9w z9x _
      refine WL.merge .here .h1 ?_
      refine WL.a (d:=34) rfl rfl rfl (q_m rfl) ?_
      refine WL.a (d:=37) rfl rfl rfl (yf rfl rfl) ?_
      refine WL.a (d:=38) rfl rfl rfl (yf rfl rfl) ?_
      refine WL.a (d:=7) rfl rfl rfl (q_z rfl) ?_
      refine WL.a (d:=8) rfl rfl rfl (q_z rfl) ?_
      refine WL.nil ?_
      refine WX.a ?_
      refine WC.b ?_
      refine WC.a ?_
      refine WL.a (d:=39) rfl rfl rfl (q_m rfl) ?_
      refine WL.a (d:=40) rfl rfl rfl (y2G rfl rfl) ?_
      refine WL.nil ?_
      refine WX.a ?_
      refine WC.cond rfl (fun zli=>?_) (fun zli=>?_)
      ·replace h:=yh h zli
       refine WC.b ?_
       refine WC.a ?_
       refine WL.a (d:=41) rfl rfl rfl (q_m rfl) ?_
       refine WL.a (d:=2) rfl rfl rfl (q_z rfl) ?_
       refine WL.nil ?_
       refine WX.a ?_
       refine WC.ret ?_
       refine WX.y6 ?_
       refine WX.yq ?_
       refine WX.y6 ?_
       refine WX.y6 ?_
       refine WX.yq ?_
       refine WX.y6 ?_
       obtain rfl:=Option.some.inj h
       refine WX.y7 Try.results52 (.tmp rfl .nil) (fun w hw=>?_)
       exact ⟨(z4y ++ z8w),yD rfl,trivial,hw.sub (.cons .here .nil)⟩
      ·replace h:=yi h zli
       refine WC.skip ?_
       refine WX.a ?_
       refine WC.b ?_
       obtain ⟨z5p,zvd,h⟩:=ze h
       refine WC.a ?_
       refine WL.a (d:=43) rfl rfl rfl (q_m rfl) ?_
       refine WL.b (dd:=44) rfl rfl rfl (zj (l:=[.tmp 43]) Try.call21 (.cons rfl .nil)) (.nil : Sel [fz (z4y ++ z8w),row (.slice z9w z4P.1.length z9x) 30 2 (z4P.1.flatMap e30),stb z2W 79 [(.slice z2s z1Q.length z2t),(.int .i64 zl.fR.fN),(.int .i64 zl.fR.fD),(.int .i64 zl.fLatency.fN),(.int .i64 zl.fLatency.fD),(.func (.func 32) #[] #[(.pointer (some z2E)),(.pointer (some z2F))]),(.slice z2G z2r.length z2H)],stb z3N 98 [(.int .i64 z4b)],stb z59 30 [(.int .i64 z3V),(.int .i64 z3W)]] [] [fz (z4y ++ z8w),row (.slice z9w z4P.1.length z9x) 30 2 (z4P.1.flatMap e30),stb z2W 79 [(.slice z2s z1Q.length z2t),(.int .i64 zl.fR.fN),(.int .i64 zl.fR.fD),(.int .i64 zl.fLatency.fN),(.int .i64 zl.fLatency.fD),(.func (.func 32) #[] #[(.pointer (some z2E)),(.pointer (some z2F))]),(.slice z2G z2r.length z2H)],stb z3N 98 [(.int .i64 z4b)],stb z59 30 [(.int .i64 z3V),(.int .i64 z3W)]]) (fun w hw=>by have pz:=(hz.call2 hw (.nil : Sel [fz (z4y ++ z8w),row (.slice z9w z4P.1.length z9x) 30 2 (z4P.1.flatMap e30),stb z2W 79 [(.slice z2s z1Q.length z2t),(.int .i64 zl.fR.fN),(.int .i64 zl.fR.fD),(.int .i64 zl.fLatency.fN),(.int .i64 zl.fLatency.fD),(.func (.func 32) #[] #[(.pointer (some z2E)),(.pointer (some z2F))]),(.slice z2G z2r.length z2H)],stb z3N 98 [(.int .i64 z4b)],stb z59 30 [(.int .i64 z3V),(.int .i64 z3W)]] [] [fz (z4y ++ z8w),row (.slice z9w z4P.1.length z9x) 30 2 (z4P.1.flatMap e30),stb z2W 79 [(.slice z2s z1Q.length z2t),(.int .i64 zl.fR.fN),(.int .i64 zl.fR.fD),(.int .i64 zl.fLatency.fN),(.int .i64 zl.fLatency.fD),(.func (.func 32) #[] #[(.pointer (some z2E)),(.pointer (some z2F))]),(.slice z2G z2r.length z2H)],stb z3N 98 [(.int .i64 z4b)],stb z59 30 [(.int .i64 z3V),(.int .i64 z3W)]]) .here); exact y7k (Z:=_) (zbt:=zpW) (zbu:=zpX) (z8t:=(nth z1Q z6h)) (r:=z5p) w pz (zpY.mono ((Zle.left _ _).trans (Zle.yp _ _ _))) zvd) ?_
       refine WL.a (d:=42) rfl rfl rfl (q_m rfl) ?_
       refine WL.a (d:=45) rfl rfl rfl (yf rfl rfl) ?_
       refine WL.a (d:=46) rfl rfl rfl (yf rfl rfl) ?_
       refine WL.new (dd:=9) rfl rfl rfl (ym (cs:=[(.int .i64 0),(.int .i64 0)]) yt rfl) ?_
       intro zec _
       refine WL.yb rfl rfl (yc (vs:=[(.int .i64 z5p.1.fN),(.int .i64 z5p.1.fD)]) (ds:=[(.int .i64 z5p.1.fN),(.int .i64 z5p.1.fD)]) yo rfl rfl rfl rfl (y2 rfl (y2 rfl yk)) .here (Nat.le_of_ble_eq_true rfl) rfl) ?_
       refine WL.a (d:=10) rfl rfl rfl (q_z rfl) ?_
       refine WL.nil ?_
       refine WX.a ?_
       obtain ⟨z8u,zve,h⟩:=ze h
       refine WC.a ?_
       refine WL.a (d:=47) rfl rfl rfl (y4 (cs:=[(.int .i64 z3V),(.int .i64 z3W)]) y5 rfl rfl (y8 .h5)) ?_
       refine WL.a (d:=48) rfl rfl rfl (y4 (cs:=[(.int .i64 z5p.1.fN),(.int .i64 z5p.1.fD)]) y5 rfl rfl (y8 .here)) ?_
       refine WL.b (dd:=49) rfl rfl rfl (zj (l:=[.tmp 3,.func 19,.tmp 47,.tmp 48]) Try.call33 (.cons rfl (.cons rfl (.cons rfl (.cons rfl .nil))))) ((.cons .h4 .nil) : Sel [stb zec 30 [(.int .i64 z5p.1.fN),(.int .i64 z5p.1.fD)],fz (z4y ++ z8w),row (.slice z9w z4P.1.length z9x) 30 2 (z4P.1.flatMap e30),stb z2W 79 [(.slice z2s z1Q.length z2t),(.int .i64 zl.fR.fN),(.int .i64 zl.fR.fD),(.int .i64 zl.fLatency.fN),(.int .i64 zl.fLatency.fD),(.func (.func 32) #[] #[(.pointer (some z2E)),(.pointer (some z2F))]),(.slice z2G z2r.length z2H)],stb z3N 98 [(.int .i64 z4b)],stb z59 30 [(.int .i64 z3V),(.int .i64 z3W)]] [stb z3N 98 [(.int .i64 z4b)]] [stb zec 30 [(.int .i64 z5p.1.fN),(.int .i64 z5p.1.fD)],fz (z4y ++ z8w),row (.slice z9w z4P.1.length z9x) 30 2 (z4P.1.flatMap e30),stb z2W 79 [(.slice z2s z1Q.length z2t),(.int .i64 zl.fR.fN),(.int .i64 zl.fR.fD),(.int .i64 zl.fLatency.fN),(.int .i64 zl.fLatency.fD),(.func (.func 32) #[] #[(.pointer (some z2E)),(.pointer (some z2F))]),(.slice z2G z2r.length z2H)],stb z59 30 [(.int .i64 z3V),(.int .i64 z3W)]]) (fun w hw=>by have pz:=(hz.call2 hw ((.cons .h4 .nil) : Sel [stb zec 30 [(.int .i64 z5p.1.fN),(.int .i64 z5p.1.fD)],fz (z4y ++ z8w),row (.slice z9w z4P.1.length z9x) 30 2 (z4P.1.flatMap e30),stb z2W 79 [(.slice z2s z1Q.length z2t),(.int .i64 zl.fR.fN),(.int .i64 zl.fR.fD),(.int .i64 zl.fLatency.fN),(.int .i64 zl.fLatency.fD),(.func (.func 32) #[] #[(.pointer (some z2E)),(.pointer (some z2F))]),(.slice z2G z2r.length z2H)],stb z3N 98 [(.int .i64 z4b)],stb z59 30 [(.int .i64 z3V),(.int .i64 z3W)]] [stb z3N 98 [(.int .i64 z4b)]] [stb zec 30 [(.int .i64 z5p.1.fN),(.int .i64 z5p.1.fD)],fz (z4y ++ z8w),row (.slice z9w z4P.1.length z9x) 30 2 (z4P.1.flatMap e30),stb z2W 79 [(.slice z2s z1Q.length z2t),(.int .i64 zl.fR.fN),(.int .i64 zl.fR.fD),(.int .i64 zl.fLatency.fN),(.int .i64 zl.fLatency.fD),(.func (.func 32) #[] #[(.pointer (some z2E)),(.pointer (some z2F))]),(.slice z2G z2r.length z2H)],stb z59 30 [(.int .i64 z3V),(.int .i64 z3W)]]) .h1); exact y1F (Z:=_) (z4r:=z3N) (z7d:=19) (z7N:=[]) (z5o:=(⟨z4b⟩ : z2h)) (z85:=(fun (y0 : z7) (y1 : z7)=>y1l y0 y1)) (z2U:=(⟨z3V,z3W⟩ : z7)) (z2V:=z5p.1) (r:=z8u) w pz Try.call19 (fun w' hz' y0 y1  r  hr=>y4R (Z:=_)  (z3T:=y0) (z3U:=y1) (r:=r) w' hz'  hr) zve (hw.owns ((.cons .h4 .nil) : Sel [stb zec 30 [(.int .i64 z5p.1.fN),(.int .i64 z5p.1.fD)],fz (z4y ++ z8w),row (.slice z9w z4P.1.length z9x) 30 2 (z4P.1.flatMap e30),stb z2W 79 [(.slice z2s z1Q.length z2t),(.int .i64 zl.fR.fN),(.int .i64 zl.fR.fD),(.int .i64 zl.fLatency.fN),(.int .i64 zl.fLatency.fD),(.func (.func 32) #[] #[(.pointer (some z2E)),(.pointer (some z2F))]),(.slice z2G z2r.length z2H)],stb z3N 98 [(.int .i64 z4b)],stb z59 30 [(.int .i64 z3V),(.int .i64 z3W)]] [stb z3N 98 [(.int .i64 z4b)]] [stb zec 30 [(.int .i64 z5p.1.fN),(.int .i64 z5p.1.fD)],fz (z4y ++ z8w),row (.slice z9w z4P.1.length z9x) 30 2 (z4P.1.flatMap e30),stb z2W 79 [(.slice z2s z1Q.length z2t),(.int .i64 zl.fR.fN),(.int .i64 zl.fR.fD),(.int .i64 zl.fLatency.fN),(.int .i64 zl.fLatency.fD),(.func (.func 32) #[] #[(.pointer (some z2E)),(.pointer (some z2F))]),(.slice z2G z2r.length z2H)],stb z59 30 [(.int .i64 z3V),(.int .i64 z3W)]]))) ?_
       refine WL.yb rfl rfl (yc (vs:=[(.int .i64 z8u.1.fN),(.int .i64 z8u.1.fD)]) (ds:=[(.int .i64 z8u.1.fN),(.int .i64 z8u.1.fD)]) yo rfl rfl rfl rfl (y2 rfl (y2 rfl yk)) .h5 (Nat.le_of_ble_eq_true rfl) rfl) ?_
       refine WL.nil ?_
       refine WX.yg ?_
       refine WX.a ?_
       refine WC.a ?_
       refine WL.a (d:=50) rfl rfl rfl (yW rfl rfl rfl) ?_
       refine WL.a (d:=30) rfl rfl rfl (q_m rfl) ?_
       refine WL.nil ?_
       exact WX.round (G:=Nat × Int × Int × Int × Int × Zp) ⟨zl6,(i64 (z6h + 1)),z8u.2.fE,z8u.1.fN,z8u.1.fD,(z4y ++ z8w)⟩ ⟨h,(zhM.trans ((Zle.left _ _).trans (Zle.yp _ _ _)))⟩ (Nat.lt_succ_self _) (.cons rfl (.cons rfl (.cons rfl (.cons rfl (.cons rfl (.cons rfl .nil)))))) (.cons .h3 (.cons .h4 (.cons .h1 (.cons .here .nil))))
     ·replace h:=yi h zlh
      refine WC.exit ?_
      refine WX.ye ?_
      refine WX.ye ?_
      refine WX.yx ?_
      exact WX.mid (G:=Int × Int × Int × Zp) ⟨z4b,z3V,z3W,z4y⟩ ⟨h,zhM⟩ (.cons rfl (.cons rfl (.cons rfl .nil))) (.cons .here (.cons .here (.cons .here (.cons .here .nil))))
    ·rintro z7n z7o z7p z8v ⟨h,zBo⟩
     replace h:=(zv9 z7n z7o z7p).symm.trans h
     refine WC.b ?_
     refine WC.b ?_
     obtain ⟨zlb,zpZ,h⟩:=ze h
     refine WC.a ?_
     refine WL.a (d:=51) rfl rfl rfl (y3 y3g rfl rfl) ?_
     refine WL.a (d:=52) rfl rfl rfl (ya y2K rfl (yv .h2 rfl)) ?_
     refine WL.a (d:=53) rfl rfl rfl (y4C rfl rfl) ?_
     refine WL.a (d:=54) rfl rfl rfl (q_m rfl) ?_
     refine WL.yN True [(3,(.pointer (some ⟨z3N,0,none⟩))),(61,(.bool zlb))] [fz z8v,stb z2W 79 [(.slice z2s z1Q.length z2t),(.int .i64 zl.fR.fN),(.int .i64 zl.fR.fD),(.int .i64 zl.fLatency.fN),(.int .i64 zl.fLatency.fD),(.func (.func 32) #[] #[(.pointer (some z2E)),(.pointer (some z2F))]),(.slice z2G z2r.length z2H)],stb z3N 98 [(.int .i64 z7n)],stb z59 30 [(.int .i64 z7o),(.int .i64 z7p)]] 7 ?_ (fun _=>?_)
     ·rcases Bool.eq_false_or_eq_true (decide (z7n = 0)) with hb' | hb'
      ·have zq0:=hb'; clear hb'
       have zfS:=yh zpZ zq0
       obtain ⟨zla,zvf,zfS⟩:=ze zfS
       replace zfS:=Option.some.inj zfS
       refine WL.pin (i:=54) rfl zq0 ?_
       refine WL.a (d:=55) rfl rfl rfl (y4 (cs:=[(.int .i64 z7o),(.int .i64 z7p)]) y5 rfl rfl (y8 .h3)) ?_
       refine WL.a (d:=56) rfl rfl rfl (y3 y7B rfl rfl) ?_
       refine WL.a (d:=57) rfl rfl rfl (y3 y5S rfl rfl) ?_
       refine WL.a (d:=58) rfl rfl rfl (y4 (cs:=[(.int .i64 zl.fR.fN),(.int .i64 zl.fR.fD)]) y5 rfl rfl (y1U (s:=2) .h1 rfl)) ?_
       refine WL.b (dd:=59) rfl rfl rfl (zj (l:=[.tmp 55,.tmp 58]) Try.call18 (.cons rfl (.cons rfl .nil))) (.nil : Sel [fz z8v,stb z2W 79 [(.slice z2s z1Q.length z2t),(.int .i64 zl.fR.fN),(.int .i64 zl.fR.fD),(.int .i64 zl.fLatency.fN),(.int .i64 zl.fLatency.fD),(.func (.func 32) #[] #[(.pointer (some z2E)),(.pointer (some z2F))]),(.slice z2G z2r.length z2H)],stb z3N 98 [(.int .i64 z7n)],stb z59 30 [(.int .i64 z7o),(.int .i64 z7p)]] [] [fz z8v,stb z2W 79 [(.slice z2s z1Q.length z2t),(.int .i64 zl.fR.fN),(.int .i64 zl.fR.fD),(.int .i64 zl.fLatency.fN),(.int .i64 zl.fLatency.fD),(.func (.func 32) #[] #[(.pointer (some z2E)),(.pointer (some z2F))]),(.slice z2G z2r.length z2H)],stb z3N 98 [(.int .i64 z7n)],stb z59 30 [(.int .i64 z7o),(.int .i64 z7p)]]) (fun w hw=>by have pz:=(hz.call2 hw (.nil : Sel [fz z8v,stb z2W 79 [(.slice z2s z1Q.length z2t),(.int .i64 zl.fR.fN),(.int .i64 zl.fR.fD),(.int .i64 zl.fLatency.fN),(.int .i64 zl.fLatency.fD),(.func (.func 32) #[] #[(.pointer (some z2E)),(.pointer (some z2F))]),(.slice z2G z2r.length z2H)],stb z3N 98 [(.int .i64 z7n)],stb z59 30 [(.int .i64 z7o),(.int .i64 z7p)]] [] [fz z8v,stb z2W 79 [(.slice z2s z1Q.length z2t),(.int .i64 zl.fR.fN),(.int .i64 zl.fR.fD),(.int .i64 zl.fLatency.fN),(.int .i64 zl.fLatency.fD),(.func (.func 32) #[] #[(.pointer (some z2E)),(.pointer (some z2F))]),(.slice z2G z2r.length z2H)],stb z3N 98 [(.int .i64 z7n)],stb z59 30 [(.int .i64 z7o),(.int .i64 z7p)]]) .here); exact y26 (Z:=_)  (z29:=(⟨z7o,z7p⟩ : z7)) (z2a:=zl.fR) (r:=zla) w pz  zvf) ?_
       refine WL.a (d:=60) rfl rfl rfl (y2F rfl rfl) ?_
       refine WL.a (d:=61) rfl rfl rfl (ys rfl rfl) ?_
       exact WL.y9 () trivial (.cons rfl (.cons (zr zfS) .nil)) (.cons .here (.cons .here (.cons .here (.cons .here .nil))))
      ·have zq1:=hb'; clear hb'
       have zlj:=yi zpZ zq1
       replace zlj:=Option.some.inj zlj
       refine WL.pin (i:=54) rfl zq1 ?_
       refine WL.e rfl rfl rfl ?_
       refine WL.e rfl rfl rfl ?_
       refine WL.e rfl rfl rfl ?_
       refine WL.e rfl rfl rfl ?_
       refine WL.e rfl rfl rfl ?_
       refine WL.e rfl rfl rfl ?_
       refine WL.a (d:=61) rfl rfl rfl (yr rfl rfl) ?_
       exact WL.y9 () trivial (.cons rfl (.cons (zr zlj) .nil)) (.cons .here (.cons .here (.cons .here (.cons .here .nil))))
     ·skip
      refine WL.nil ?_
      refine WX.a ?_
      refine WC.cond rfl (fun zlk=>?_) (fun zlk=>?_)
      ·replace h:=yh h zlk
       refine WC.b ?_
       refine WC.a ?_
       refine WL.a (d:=2) rfl rfl rfl (q_z rfl) ?_
       refine WL.nil ?_
       refine WX.a ?_
       refine WC.ret ?_
       refine WX.y6 ?_
       obtain rfl:=Option.some.inj h
       refine WX.y7 Try.results52 (.tmp rfl .nil) (fun w hw=>?_)
       exact ⟨z8v,yD rfl,trivial,hw.sub (.cons .here .nil)⟩
      ·replace h:=yi h zlk
       refine WC.skip ?_
       refine WX.a ?_
       refine WC.b ?_
       refine WC.a ?_
       refine WL.a (d:=62) rfl rfl rfl (y3 y3g rfl rfl) ?_
       refine WL.a (d:=63) rfl rfl rfl (ya y2K rfl (yv .h2 rfl)) ?_
       refine WL.a (d:=2) rfl rfl rfl (q_z rfl) ?_
       refine WL.nil ?_
       refine WX.a ?_
       refine WC.ret ?_
       obtain rfl:=Option.some.inj h
       refine WX.y7 Try.results52 (.tmp rfl .nil) (fun w hw=>?_)
       exact ⟨z8v,yD rfl,trivial,hw.sub (.cons .here .nil)⟩
def y2A (zaw : List (List z6)) (z5a : zSv) (zfT : List (List z6)) (zcG : zSv) (zax : List z7) : Option (Int × Int × Int × Int) :=
 some (z5a.fR.fN,z5a.fR.fD,z5a.fLatency.fN,z5a.fLatency.fD)
set_option maxRecDepth 20000 in
theorem y69 (Z : Zp)  (zcH : Option Addr) (zcI : Nat) (zcJ : Addr) (zll : Option Addr) (zlm : Nat) (zcK : Addr) (zcL : Option Addr) (zcM : Nat) (zaw : List (List z6)) (z5a : zSv) (zfT : List (List z6)) (zcG : zSv) (zax : List z7) (r : Int × Int × Int × Int) (w₀ : World) (hz : PZ [] w₀ Z)
  (zBp : ZS Z 1 (p39 Z) zcH zcI zaw)
  (zBq : ZS Z 1 (p39 Z) zll zlm zfT)
  (zBr : ZC Z zcJ [(.slice zll zfT.length zlm)])
  (zBs : ZC Z zcK [(.int .i64 zcG.fR.fN),(.int .i64 zcG.fR.fD),(.int .i64 zcG.fLatency.fN),(.int .i64 zcG.fLatency.fD)])
  (zBt : ZS Z 2 (fun r x=>r = e30 x) zcL zcM zax)
  (h : y2A zaw z5a zfT zcG zax = some r) :
  Calls Try.prog 53 #[(.agg #[(.slice zcH zaw.length zcI),(.int .i64 z5a.fR.fN),(.int .i64 z5a.fR.fD),(.int .i64 z5a.fLatency.fN),(.int .i64 z5a.fLatency.fD),(.func (.func 32) #[] #[(.pointer (some zcJ)),(.pointer (some zcK))]),(.slice zcL zax.length zcM)])] w₀ fun e w'=>∃ zq2 : Nat,e = .returned (.func (.func 69) #[] #[(.pointer (some ⟨zq2,0,none⟩))]) ∧ True ∧ Hp [] w₀ w' [stb zq2 79 [(.slice zcH zaw.length zcI),(.int .i64 r.1),(.int .i64 r.2.1),(.int .i64 r.2.2.1),(.int .i64 r.2.2.2),(.func (.func 32) #[] #[(.pointer (some zcJ)),(.pointer (some zcK))]),(.slice zcL zax.length zcM)]]:=by
 unfold y2A at h
 refine Calls.yd (vs:=[(.agg #[(.slice zcH zaw.length zcI),(.int .i64 z5a.fR.fN),(.int .i64 z5a.fR.fD),(.int .i64 z5a.fLatency.fN),(.int .i64 z5a.fLatency.fD),(.func (.func 32) #[] #[(.pointer (some zcJ)),(.pointer (some zcK))]),(.slice zcL zax.length zcM)])]) (pre:=[]) (env:=[(0,(.agg #[(.slice zcH zaw.length zcI),(.int .i64 z5a.fR.fN),(.int .i64 z5a.fR.fD),(.int .i64 z5a.fLatency.fN),(.int .i64 z5a.fLatency.fD),(.func (.func 32) #[] #[(.pointer (some zcJ)),(.pointer (some zcK))]),(.slice zcL zax.length zcM)]))]) Try.func53 rfl Try.ntmps53 rfl (Hp.nil w₀ _) rfl ?_
 refine WC.b ?_
 refine WC.a ?_
 refine WL.new (dd:=1) rfl rfl rfl (yI (cs:=[(.slice zcH zaw.length zcI),(.int .i64 z5a.fR.fN),(.int .i64 z5a.fR.fD),(.int .i64 z5a.fLatency.fN),(.int .i64 z5a.fLatency.fD),(.func (.func 32) #[] #[(.pointer (some zcJ)),(.pointer (some zcK))]),(.slice zcL zax.length zcM)]) rfl rfl) ?_
 intro zvg _
 refine WL.a (d:=2) rfl rfl rfl (q_z rfl) ?_
 refine WL.nil ?_
 refine WX.a ?_
 refine WC.b ?_
 refine WC.a ?_
 refine WL.a (d:=3) rfl rfl rfl (y1d (Eos.caps (l:=[.tmp 1]) (.cons rfl .nil))) ?_
 refine WL.a (d:=2) rfl rfl rfl (q_z rfl) ?_
 refine WL.nil ?_
 refine WX.a ?_
 refine WC.ret ?_
 obtain rfl:=Option.some.inj h
 refine WX.y7 Try.results53 (.tmp rfl .nil) (fun w hw=>?_)
 exact ⟨zvg,yD rfl,trivial,hw.sub (.cons .here .nil)⟩
def y2R (z2X : z7) : Option Int :=
 (y1f z2X).bind fun zln=>if !zln then some 0 else chk ((z2X.fD : Int) ≠ 0) (jp1 (fun (zbD : Int)=>some zbD) fun zhN=>chk ((z2X.fD : Int) ≠ 0) (if decide ((Int.tmod z2X.fN z2X.fD) < 0) then zhN (i64 ((i64 (Int.tdiv z2X.fN z2X.fD)) - 1)) else zhN (i64 (Int.tdiv z2X.fN z2X.fD))))
set_option maxRecDepth 20000 in
theorem y4B (Z : Zp)   (z2X : z7) (r : Int) (w₀ : World) (hz : PZ [] w₀ Z)
  (h : y2R z2X = some r) :
  Calls Try.prog 70 #[(.agg #[(.int .i64 z2X.fN),(.int .i64 z2X.fD)])] w₀ fun e w'=>e = .returned (.int .i64 r) ∧ Hp [] w₀ w' []:=by
 unfold y2R at h
 refine Calls.yd (vs:=[(.agg #[(.int .i64 z2X.fN),(.int .i64 z2X.fD)])]) (pre:=[]) (env:=[(0,(.agg #[(.int .i64 z2X.fN),(.int .i64 z2X.fD)]))]) Try.func70 rfl Try.ntmps70 rfl (Hp.nil w₀ _) rfl ?_
 refine WC.b ?_
 refine WC.a ?_
 refine WL.new (dd:=1) rfl rfl rfl (yI (cs:=[(.int .i64 z2X.fN),(.int .i64 z2X.fD)]) rfl rfl) ?_
 intro zhO _
 refine WL.a (d:=2) rfl rfl rfl (q_z rfl) ?_
 refine WL.nil ?_
 refine WX.a ?_
 refine WC.b ?_
 refine WC.b ?_
 obtain ⟨zln,zvh,h⟩:=ze h
 refine WC.a ?_
 refine WL.a (d:=4) rfl rfl rfl (y4 (cs:=[(.int .i64 z2X.fN),(.int .i64 z2X.fD)]) y5 rfl rfl (y8 .here)) ?_
 refine WL.b (dd:=5) rfl rfl rfl (zj (l:=[.tmp 4]) Try.call39 (.cons rfl .nil)) (.nil : Sel [stb zhO 30 [(.int .i64 z2X.fN),(.int .i64 z2X.fD)]] [] [stb zhO 30 [(.int .i64 z2X.fN),(.int .i64 z2X.fD)]]) (fun w hw=>by have pz:=(hz.call hw (.nil : Sel [stb zhO 30 [(.int .i64 z2X.fN),(.int .i64 z2X.fD)]] [] [stb zhO 30 [(.int .i64 z2X.fN),(.int .i64 z2X.fD)]])); exact y1G (Z:=_)  (z1b:=z2X) (r:=zln) w pz  zvh) ?_
 refine WL.a (d:=6) rfl rfl rfl (y1m rfl) ?_
 refine WL.nil ?_
 refine WX.a ?_
 refine WC.cond rfl (fun zlo=>?_) (fun zlo=>?_)
 ·replace h:=yh h zlo
  refine WC.b ?_
  refine WC.a ?_
  refine WL.a (d:=2) rfl rfl rfl (q_z rfl) ?_
  refine WL.nil ?_
  refine WX.a ?_
  refine WC.ret ?_
  refine WX.y6 ?_
  obtain rfl:=Option.some.inj h
  refine WX.y7 Try.results70 (.tmp rfl .nil) (fun w hw=>?_)
  exact ⟨yD rfl,hw.sub .nil⟩
 ·replace h:=yi h zlo
  refine WC.skip ?_
  refine WX.a ?_
  refine WC.b ?_
  obtain ⟨zvi,h⟩:=yl h
  refine WC.a ?_
  refine WL.a (d:=7) rfl rfl rfl (y3 y1Q rfl rfl) ?_
  refine WL.a (d:=8) rfl rfl rfl (ya yw rfl (yv .here rfl)) ?_
  refine WL.a (d:=9) rfl rfl rfl (y3 y24 rfl rfl) ?_
  refine WL.a (d:=10) rfl rfl rfl (ya yw rfl (yv .here rfl)) ?_
  refine WL.a (d:=11) rfl rfl rfl (q_quo rfl rfl zvi rfl) ?_
  refine WL.a (d:=3) rfl rfl rfl (q_z rfl) ?_
  refine WL.nil ?_
  refine WX.a ?_
  obtain ⟨zhN,zvj,h⟩:=y1h h
  refine WC.y34 (fun (zbD : Int)=>(zhN zbD = some r)) (fun (zbD : Int)=>[(3,(.int .i64 zbD))]) (fun (zbD : Int)=>[]) ?_ ?_
  ·skip
   refine WC.b ?_
   obtain ⟨zvk,h⟩:=yl h
   refine WC.a ?_
   refine WL.a (d:=12) rfl rfl rfl (y3 y1Q rfl rfl) ?_
   refine WL.a (d:=13) rfl rfl rfl (ya yw rfl (yv .here rfl)) ?_
   refine WL.a (d:=14) rfl rfl rfl (y3 y24 rfl rfl) ?_
   refine WL.a (d:=15) rfl rfl rfl (ya yw rfl (yv .here rfl)) ?_
   refine WL.a (d:=16) rfl rfl rfl (y7t rfl rfl zvk rfl) ?_
   refine WL.a (d:=17) rfl rfl rfl (y1c rfl rfl) ?_
   refine WL.nil ?_
   refine WX.a ?_
   refine WC.cond rfl (fun zlp=>?_) (fun zlp=>?_)
   ·replace h:=yh h zlp
    refine WC.a ?_
    refine WL.a (d:=18) rfl rfl rfl (q_m rfl) ?_
    refine WL.a (d:=19) rfl rfl rfl (y6Q rfl rfl rfl) ?_
    refine WL.a (d:=3) rfl rfl rfl (q_z rfl) ?_
    refine WL.nil ?_
    exact WX.mid (G:=Int) (i64 ((i64 (Int.tdiv z2X.fN z2X.fD)) - 1)) h (.cons rfl .nil) .nil
   ·replace h:=yi h zlp
    refine WC.skip ?_
    exact WX.mid (G:=Int) (i64 (Int.tdiv z2X.fN z2X.fD)) h (.cons rfl .nil) .nil
  ·rintro zbD h
   replace h:=(zvj zbD).symm.trans h
   refine WC.b ?_
   refine WC.a ?_
   refine WL.a (d:=20) rfl rfl rfl (q_m rfl) ?_
   refine WL.a (d:=2) rfl rfl rfl (q_z rfl) ?_
   refine WL.nil ?_
   refine WX.a ?_
   refine WC.ret ?_
   obtain rfl:=Option.some.inj h
   refine WX.y7 Try.results70 (.tmp rfl .nil) (fun w hw=>?_)
   exact ⟨yD rfl,hw.sub .nil⟩
def y3n (z2O : z7) : Option Int :=
 (y1f z2O).bind fun zlq=>if !zlq then some 0 else (y2R (⟨i64 (0 - z2O.fN),z2O.fD⟩ : z7)).bind fun zlr=>some (i64 (0 - zlr))
set_option maxRecDepth 20000 in
theorem y5I (Z : Zp)   (z2O : z7) (r : Int) (w₀ : World) (hz : PZ [] w₀ Z)
  (h : y3n z2O = some r) :
  Calls Try.prog 71 #[(.agg #[(.int .i64 z2O.fN),(.int .i64 z2O.fD)])] w₀ fun e w'=>e = .returned (.int .i64 r) ∧ Hp [] w₀ w' []:=by
 unfold y3n at h
 refine Calls.yd (vs:=[(.agg #[(.int .i64 z2O.fN),(.int .i64 z2O.fD)])]) (pre:=[]) (env:=[(0,(.agg #[(.int .i64 z2O.fN),(.int .i64 z2O.fD)]))]) Try.func71 rfl Try.ntmps71 rfl (Hp.nil w₀ _) rfl ?_
 refine WC.b ?_
 refine WC.a ?_
 refine WL.new (dd:=1) rfl rfl rfl (yI (cs:=[(.int .i64 z2O.fN),(.int .i64 z2O.fD)]) rfl rfl) ?_
 intro zbE _
 refine WL.a (d:=2) rfl rfl rfl (q_z rfl) ?_
 refine WL.nil ?_
 refine WX.a ?_
 refine WC.b ?_
 refine WC.b ?_
 obtain ⟨zlq,zvl,h⟩:=ze h
 refine WC.a ?_
 refine WL.a (d:=3) rfl rfl rfl (y4 (cs:=[(.int .i64 z2O.fN),(.int .i64 z2O.fD)]) y5 rfl rfl (y8 .here)) ?_
 refine WL.b (dd:=4) rfl rfl rfl (zj (l:=[.tmp 3]) Try.call39 (.cons rfl .nil)) (.nil : Sel [stb zbE 30 [(.int .i64 z2O.fN),(.int .i64 z2O.fD)]] [] [stb zbE 30 [(.int .i64 z2O.fN),(.int .i64 z2O.fD)]]) (fun w hw=>by have pz:=(hz.call hw (.nil : Sel [stb zbE 30 [(.int .i64 z2O.fN),(.int .i64 z2O.fD)]] [] [stb zbE 30 [(.int .i64 z2O.fN),(.int .i64 z2O.fD)]])); exact y1G (Z:=_)  (z1b:=z2O) (r:=zlq) w pz  zvl) ?_
 refine WL.a (d:=5) rfl rfl rfl (y1m rfl) ?_
 refine WL.nil ?_
 refine WX.a ?_
 refine WC.cond rfl (fun zls=>?_) (fun zls=>?_)
 ·replace h:=yh h zls
  refine WC.b ?_
  refine WC.a ?_
  refine WL.a (d:=2) rfl rfl rfl (q_z rfl) ?_
  refine WL.nil ?_
  refine WX.a ?_
  refine WC.ret ?_
  refine WX.y6 ?_
  obtain rfl:=Option.some.inj h
  refine WX.y7 Try.results71 (.tmp rfl .nil) (fun w hw=>?_)
  exact ⟨yD rfl,hw.sub .nil⟩
 ·replace h:=yi h zls
  refine WC.skip ?_
  refine WX.a ?_
  refine WC.b ?_
  obtain ⟨zlr,zvm,h⟩:=ze h
  refine WC.a ?_
  refine WL.a (d:=6) rfl rfl rfl (y3 y1Q rfl rfl) ?_
  refine WL.a (d:=7) rfl rfl rfl (ya yw rfl (yv .here rfl)) ?_
  refine WL.a (d:=8) rfl rfl rfl (q_neg rfl rfl) ?_
  refine WL.a (d:=9) rfl rfl rfl (y3 y24 rfl rfl) ?_
  refine WL.a (d:=10) rfl rfl rfl (ya yw rfl (yv .here rfl)) ?_
  refine WL.a (d:=11) rfl rfl rfl (y1g (v:=(.agg #[(.int .i64 (i64 (0 - z2O.fN))),(.int .i64 z2O.fD)])) (Eos.parts (l:=[.tmp 8,.tmp 10]) (.cons rfl (.cons rfl .nil)) [0,1]) (fun _=>by kernel_rfl)) ?_
  refine WL.b (dd:=12) rfl rfl rfl (zj (l:=[.tmp 11]) Try.call70 (.cons rfl .nil)) (.nil : Sel [stb zbE 30 [(.int .i64 z2O.fN),(.int .i64 z2O.fD)]] [] [stb zbE 30 [(.int .i64 z2O.fN),(.int .i64 z2O.fD)]]) (fun w hw=>by have pz:=(hz.call hw (.nil : Sel [stb zbE 30 [(.int .i64 z2O.fN),(.int .i64 z2O.fD)]] [] [stb zbE 30 [(.int .i64 z2O.fN),(.int .i64 z2O.fD)]])); exact y4B (Z:=_)  (z2X:=(⟨i64 (0 - z2O.fN),z2O.fD⟩ : z7)) (r:=zlr) w pz  zvm) ?_
  refine WL.a (d:=13) rfl rfl rfl (q_neg rfl rfl) ?_
  refine WL.a (d:=2) rfl rfl rfl (q_z rfl) ?_
  refine WL.nil ?_
  refine WX.a ?_
  refine WC.ret ?_
  obtain rfl:=Option.some.inj h
  refine WX.y7 Try.results71 (.tmp rfl .nil) (fun w hw=>?_)
  exact ⟨yD rfl,hw.sub .nil⟩
def y1b (zx : Type) (zz : List z7 × Int) (z4c : z7 → zx → Option (Bool × zx)) (zay : zx → Option zx) : Nat → Int → zx → Option zx
 | 0,_,_=>none
 | zlt + 1,z1s,z4Q=>if decide (z1s < ((zz.1.length : Nat) : Int)) then chk ((0 : Int) ≤ z1s ∧ z1s < ((zz.1.length : Nat) : Int)) ((y2R (⟨((nth zz.1 z1s).fN),((nth zz.1 z1s).fD)⟩ : z7)).bind fun zhP=>(y1k zhP).bind fun zhQ=>(z4c zhQ z4Q).bind fun z6i=>(if !z6i.1 then some (true,z6i.2) else (y3n (⟨((nth zz.1 z1s).fN),((nth zz.1 z1s).fD)⟩ : z7)).bind fun zhR=>(y1k zhR).bind fun zhS=>(z4c zhS z6i.2).bind fun zfU=>some (!zfU.1,zfU.2)).bind fun zbF=>if zbF.1 then some zbF.2 else y1b zx zz z4c zay zlt (i64 (z1s + 1)) zbF.2) else zay z4Q
theorem y4v {n : Nat} {zx : Type} {zz : List z7 × Int} {z4c : z7 → zx → Option (Bool × zx)} {zay : zx → Option zx} {z1s : Int} {z4Q : zx} {r : zx} (h : y1b zx zz z4c zay n z1s z4Q = some r) : ∃ m,n = m + 1:=by
 cases n with
 | zero=>cases h
 | succ m=>exact ⟨m,rfl⟩
def yJ (zx : Type) (z4z : List (List z6)) (z4c : z7 → zx → Option (Bool × zx)) (zaz : zx → Option zx) : Nat → Int → zx → Option zx
 | 0,_,_=>none
 | zlu + 1,z5M,z6j=>if decide (z5M < ((z4z.length : Nat) : Int)) then jp1 (fun (z9y : zx)=>yJ zx z4z z4c zaz zlu (i64 (z5M + 1)) z9y) fun zlv=>chk ((0 : Int) ≤ z5M ∧ z5M < ((z4z.length : Nat) : Int)) ((y1Z (nth z4z z5M)).bind fun zz=>jp1 (fun (z9z : zx)=>zlv z9z) fun zay=>y1b zx zz z4c zay yu 0 z6j) else zaz z6j
theorem y4w {n : Nat} {zx : Type} {z4z : List (List z6)} {z4c : z7 → zx → Option (Bool × zx)} {zaz : zx → Option zx} {z5M : Int} {z6j : zx} {r : zx} (h : yJ zx z4z z4c zaz n z5M z6j = some r) : ∃ m,n = m + 1:=by
 cases n with
 | zero=>cases h
 | succ m=>exact ⟨m,rfl⟩
def y1o (zx : Type) (z1j : List z7) (z4c : z7 → zx → Option (Bool × zx)) (zaA : zx → Option zx) : Nat → Int → zx → Option zx
 | 0,_,_=>none
 | zlw + 1,z1t,z4R=>if decide (z1t < ((z1j.length : Nat) : Int)) then chk ((0 : Int) ≤ z1t ∧ z1t < ((z1j.length : Nat) : Int)) ((y2R (⟨((nth z1j z1t).fN),((nth z1j z1t).fD)⟩ : z7)).bind fun zhT=>(y1k zhT).bind fun zhU=>(z4c zhU z4R).bind fun z6k=>(if !z6k.1 then some (true,z6k.2) else (y3n (⟨((nth z1j z1t).fN),((nth z1j z1t).fD)⟩ : z7)).bind fun zhV=>(y1k zhV).bind fun zhW=>(z4c zhW z6k.2).bind fun zfV=>some (!zfV.1,zfV.2)).bind fun zbG=>if zbG.1 then some zbG.2 else y1o zx z1j z4c zaA zlw (i64 (z1t + 1)) zbG.2) else zaA z4R
theorem y4x {n : Nat} {zx : Type} {z1j : List z7} {z4c : z7 → zx → Option (Bool × zx)} {zaA : zx → Option zx} {z1t : Int} {z4R : zx} {r : zx} (h : y1o zx z1j z4c zaA n z1t z4R = some r) : ∃ m,n = m + 1:=by
 cases n with
 | zero=>cases h
 | succ m=>exact ⟨m,rfl⟩
def y1W (zx : Type) (z4c : z7 → zx → Option (Bool × zx)) (s0_16993 : zx) (z4z : List (List z6)) (zcN : zSv) (zfW : List (List z6)) (zcO : zSv) (z1j : List z7) : Option zx :=
 (y1L).bind fun zhX=>(z4c zhX s0_16993).bind fun zcP=>if !zcP.1 then some zcP.2 else jp1 (fun (z9A : zx)=>jp1 (fun (zaB : zx)=>some zaB) fun zaA=>y1o zx z1j z4c zaA yu 0 z9A) fun zaz=>yJ zx z4z z4c zaz yu 0 zcP.2
set_option maxRecDepth 20000 in
theorem y5w (Z : Zp) (zx : Type) (z86 : Nat) (z2u : Type) (z1u : z2u → zx → Asrt) (z87 : z2u → zx → Prop) (z7O : z2u) (z98 : Addr) (zbH : Option Addr) (zbI : Nat) (zlx : Addr) (zly : Option Addr) (zlz : Nat) (zlA : Addr) (zfX : Option Addr) (zfY : Nat) (z4c : z7 → zx → Option (Bool × zx)) (s0_16993 : zx) (z4z : List (List z6)) (zcN : zSv) (zfW : List (List z6)) (zcO : zSv) (z1j : List z7) (r : zx) (w₀ : World) (hz : PZ (fps [z1u z7O s0_16993]) w₀ Z)
  (zfZ : y7e Try.prog Z z86 (α:=z7) (σ:=zx) (G:=z2u) (H:=Unit) (fun h x=>[(.agg #[(.int .i64 x.fN),(.int .i64 x.fD)])]) (fun h x=>[]) z4c z1u z87)
  (zvn : z87 z7O s0_16993)
  (zvo : ZS Z 1 (p39 Z) zbH zbI z4z)
  (zBu : ZS Z 1 (p39 Z) zly zlz zfW)
  (zBv : ZC Z zlx [(.slice zly zfW.length zlz)])
  (zBw : ZC Z zlA [(.int .i64 zcO.fR.fN),(.int .i64 zcO.fR.fD),(.int .i64 zcO.fLatency.fN),(.int .i64 zcO.fLatency.fD)])
  (zvp : ZS Z 2 (fun r x=>r = e30 x) zfX zfY z1j)
  (zq3 : ZC Z z98 [(.slice zbH z4z.length zbI),(.int .i64 zcN.fR.fN),(.int .i64 zcN.fR.fD),(.int .i64 zcN.fLatency.fN),(.int .i64 zcN.fLatency.fD),(.func (.func 32) #[] #[(.pointer (some zlx)),(.pointer (some zlA))]),(.slice zfX z1j.length zfY)])
  (h : y1W zx z4c s0_16993 z4z zcN zfW zcO z1j = some r)
  (hown : Hp (fps [z1u z7O s0_16993]) w₀ w₀ [z1u z7O s0_16993]) :
  Calls Try.prog 69 #[(.func (.yield z86) #[] #[]),(.pointer (some z98))] w₀ fun e w'=>∃ Zn : Zp,∃ zq4 : z2u,e = .returned (.tuple #[]) ∧ (z87 zq4 r) ∧ Hp (fps [z1u z7O s0_16993]) w₀ w' [fz Zn,z1u zq4 r]:=by
 unfold y1W at h
 refine Calls.yd (vs:=[(.func (.yield z86) #[] #[]),(.pointer (some z98))]) (pre:=[z1u z7O s0_16993]) (env:=[(0,(.func (.yield z86) #[] #[])),(1,(.pointer (some z98)))]) Try.func69 rfl Try.ntmps69 rfl (hown) rfl ?_
 refine WC.pool ?_
 refine WC.b ?_
 refine WC.b ?_
 obtain ⟨zhX,zvq,h⟩:=ze h
 obtain ⟨zcP,zvr,h⟩:=ze h
 refine WC.a ?_
 refine WL.a (d:=11) rfl rfl rfl (q_m rfl) ?_
 refine WL.b (dd:=12) rfl rfl rfl (zj (l:=[]) Try.call51 .nil) (.nil : Sel [fz [],z1u z7O s0_16993] [] [fz [],z1u z7O s0_16993]) (fun w hw=>by have pz:=(hz.call2 hw (.nil : Sel [fz [],z1u z7O s0_16993] [] [fz [],z1u z7O s0_16993]) .here); exact y2y (Z:=_)   (r:=zhX) w pz  zvq) ?_
 refine WL.yield (dd:=13) (x:=zhX) (h:=()) (g:=z7O) (s:=s0_16993) (b:=zcP.1) (s':=zcP.2) zfZ rfl rfl rfl (.cons rfl .nil) ((.cons .h1 .nil) : Sel _ [z1u z7O s0_16993] _) zvr zvn (fun w hw=>hz.call hw ((.cons .h1 .nil) : Sel _ [z1u z7O s0_16993] _)) ?_
 intro zq5 zq6
 refine WL.a (d:=14) rfl rfl rfl (y1m rfl) ?_
 refine WL.nil ?_
 refine WX.a ?_
 refine WC.cond rfl (fun zlB=>?_) (fun zlB=>?_)
 ·replace h:=yh h zlB
  refine WC.ret ?_
  refine WX.y6 ?_
  obtain rfl:=Option.some.inj h
  refine WX.y7 Try.results69 .nil (fun w hw=>?_)
  exact ⟨[],zq5,y5s,zq6,hw.sub (.cons .h1 (.cons .here .nil))⟩
 ·replace h:=yi h zlB
  refine WC.skip ?_
  refine WX.a ?_
  obtain ⟨zaz,zvs,h⟩:=y1h h
  refine WC.y2O (fun (z9A : zx) (z4d : Zp) (zed : z2u)=>(zaz z9A = some r) ∧ (Zle (Z ++ []) (Z ++ z4d)) ∧ (z87 zed z9A)) (fun (z9A : zx) (z4d : Zp) (zed : z2u)=>[(0,(.func (.yield z86) #[] #[])),(1,(.pointer (some z98)))]) (fun (z9A : zx) (z4d : Zp) (zed : z2u)=>[fz z4d,z1u zed z9A]) ?_ ?_
  ·skip
   refine WC.b ?_
   refine WC.a ?_
   refine WL.a (d:=15) rfl rfl rfl (y3 y4O rfl rfl) ?_
   refine WL.a (d:=16) rfl rfl rfl (ya y3f rfl (y1J (hz.pv2 .h1) (zq3.mono (Zle.left _ _)) rfl)) ?_
   refine WL.a (d:=17) rfl rfl rfl (y10 Try.underlying26 rfl) ?_
   refine WL.a (d:=18) rfl rfl rfl (q_m rfl) ?_
   refine WL.nil ?_
   refine WX.a ?_
   refine WC.block ?_
   refine WC.y6R (fun (zee : Nat) (z5M : Int) (z6j : zx) (z3f : Zp) (z8x : z2u)=>(yJ zx z4z z4c zaz zee z5M z6j = some r) ∧ (Zle (Z ++ []) (Z ++ z3f)) ∧ (z87 z8x z6j)) (fun (zee : Nat) (z5M : Int) (z6j : zx) (z3f : Zp) (z8x : z2u)=>[(0,(.func (.yield z86) #[] #[])),(1,(.pointer (some z98))),(16,(.slice zbH z4z.length zbI)),(17,(.int .i64 ((z4z.length : Nat) : Int))),(18,(.int .i64 z5M))]) (fun (zee : Nat) (z5M : Int) (z6j : zx) (z3f : Zp) (z8x : z2u)=>[fz z3f,z1u z8x z6j]) (fun (zee : Nat) (z5M : Int) (z6j : zx) (z3f : Zp) (z8x : z2u)=>zee) ⟨yu,0,zcP.2,[],zq5⟩ ⟨h,(Zle.refl _),zq6⟩ (.cons rfl (.cons rfl (.cons rfl (.cons rfl (.cons rfl .nil))))) (.cons .h1 (.cons .here .nil)) ?_
   rintro zee z5M z6j z3f z8x ⟨h,zhY,zq7⟩
   obtain ⟨zlu,rfl⟩:=y4w h
   rw [yJ] at h
   refine WC.b ?_
   refine WC.a ?_
   refine WL.a (d:=19) rfl rfl rfl (y1c rfl rfl) ?_
   refine WL.nil ?_
   refine WX.a ?_
   refine WC.b ?_
   refine WC.cond rfl (fun zlC=>?_) (fun zlC=>?_)
   ·replace h:=yh h zlC
    refine WC.skip ?_
    refine WX.a ?_
    obtain ⟨zlv,zvt,h⟩:=y1h h
    refine WC.y2O (fun (z9y : zx) (zef : Zp) (zeg : z2u)=>(zlv z9y = some r) ∧ (Zle (Z ++ z3f) (Z ++ zef)) ∧ (z87 zeg z9y)) (fun (z9y : zx) (zef : Zp) (zeg : z2u)=>[(0,(.func (.yield z86) #[] #[])),(1,(.pointer (some z98))),(16,(.slice zbH z4z.length zbI)),(17,(.int .i64 ((z4z.length : Nat) : Int))),(18,(.int .i64 z5M))]) (fun (z9y : zx) (zef : Zp) (zeg : z2u)=>[fz zef,z1u zeg z9y]) ?_ ?_
    ·skip
     refine WC.block ?_
     refine WC.b ?_
     obtain ⟨zvu,h⟩:=yl h
     refine WC.a ?_
     refine WL.znth (dd:=20) rfl rfl (Z:=(Z ++ z3f)) (Pr:=(p39 (Z ++ z3f))) y3Q rfl rfl ((zvo.mono ((Zle.left _ _).trans zhY)).weak (fun _ _ h=>yL ((Zle.left _ _).trans zhY) h)) zvu ?_
     rintro zBx zBy zvv zBz ⟨zvw,zvx,rfl,zvy⟩
     refine WL.a (d:=21) rfl rfl rfl (ya y4Q rfl (y4Z (hz.pv2 .here) zvv rfl)) ?_
     refine WL.a (d:=4) rfl rfl rfl (q_z rfl) ?_
     refine WL.nil ?_
     refine WX.a ?_
     refine WC.b ?_
     obtain ⟨zz,zvz,h⟩:=ze h
     refine WC.a ?_
     refine WL.a (d:=23) rfl rfl rfl (q_m rfl) ?_
     refine WL.y6n (dd:=24) rfl rfl rfl (zj (l:=[.tmp 23]) Try.call68 (.cons rfl .nil)) (.nil : Sel [fz z3f,z1u z8x z6j] [] [fz z3f,z1u z8x z6j]) (fun w hw=>by have pz:=(hz.call2 hw (.nil : Sel [fz z3f,z1u z8x z6j] [] [fz z3f,z1u z8x z6j]) .here); exact y4m (Z:=_) (z9s:=zvw) (z9t:=zvx) (z7L:=(nth z4z z5M)) (r:=zz) w pz zvy zvz) ?_
     rintro z5H zvA zvB _
     refine WL.merge .here .h1 ?_
     refine WL.a (d:=22) rfl rfl rfl (q_m rfl) ?_
     refine WL.a (d:=25) rfl rfl rfl (yf rfl rfl) ?_
     refine WL.a (d:=26) rfl rfl rfl (yf rfl rfl) ?_
     refine WL.a (d:=5) rfl rfl rfl (q_z rfl) ?_
     refine WL.a (d:=6) rfl rfl rfl (q_z rfl) ?_
     refine WL.nil ?_
     refine WX.a ?_
     refine WC.b ?_
     refine WC.a ?_
     refine WL.a (d:=27) rfl rfl rfl (q_m rfl) ?_
     refine WL.a (d:=28) rfl rfl rfl (y10 Try.underlying77 rfl) ?_
     refine WL.a (d:=29) rfl rfl rfl (q_m rfl) ?_
     refine WL.nil ?_
     refine WX.a ?_
     obtain ⟨zay,zvC,h⟩:=y1h h
     refine WC.y5P (fun (z9z : zx) (zeh : z2u)=>(zay z9z = some r) ∧ (z87 zeh z9z)) (fun (z9z : zx) (zeh : z2u)=>[(0,(.func (.yield z86) #[] #[])),(1,(.pointer (some z98))),(16,(.slice zbH z4z.length zbI)),(17,(.int .i64 ((z4z.length : Nat) : Int))),(18,(.int .i64 z5M))]) (fun (z9z : zx) (zeh : z2u)=>[fz (z3f ++ z5H),z1u zeh z9z]) ?_ ?_
     ·skip
      refine WC.block ?_
      refine WC.y3H (fun (zei : Nat) (z1s : Int) (z4Q : zx) (zej : Option Addr) (z4A : Nat) (z6l : z2u)=>(y1b zx zz z4c zay zei z1s z4Q = some r) ∧ (z87 z6l z4Q)) (fun (zei : Nat) (z1s : Int) (z4Q : zx) (zej : Option Addr) (z4A : Nat) (z6l : z2u)=>[(0,(.func (.yield z86) #[] #[])),(1,(.pointer (some z98))),(16,(.slice zbH z4z.length zbI)),(17,(.int .i64 ((z4z.length : Nat) : Int))),(18,(.int .i64 z5M)),(27,(.slice zej zz.1.length z4A)),(28,(.int .i64 ((zz.1.length : Nat) : Int))),(29,(.int .i64 z1s))]) (fun (zei : Nat) (z1s : Int) (z4Q : zx) (zej : Option Addr) (z4A : Nat) (z6l : z2u)=>[fz (z3f ++ z5H),row (.slice zej zz.1.length z4A) 30 2 (zz.1.flatMap e30),z1u z6l z4Q]) (fun (zei : Nat) (z1s : Int) (z4Q : zx) (zej : Option Addr) (z4A : Nat) (z6l : z2u)=>zei) ⟨yu,0,z6j,zvA,zvB,z8x⟩ ⟨h,zq7⟩ (.cons rfl (.cons rfl (.cons rfl (.cons rfl (.cons rfl (.cons rfl (.cons rfl (.cons rfl .nil)))))))) (.cons .here (.cons .here (.cons .here .nil))) ?_
      rintro zei z1s z4Q zej z4A z6l ⟨h,zq8⟩
      obtain ⟨zlt,rfl⟩:=y4v h
      rw [y1b] at h
      refine WC.b ?_
      refine WC.a ?_
      refine WL.a (d:=30) rfl rfl rfl (y1c rfl rfl) ?_
      refine WL.nil ?_
      refine WX.a ?_
      refine WC.b ?_
      refine WC.cond rfl (fun zlD=>?_) (fun zlD=>?_)
      ·replace h:=yh h zlD
       refine WC.skip ?_
       refine WX.a ?_
       refine WC.b ?_
       refine WC.block ?_
       refine WC.b ?_
       obtain ⟨zg0,h⟩:=yl h
       refine WC.a ?_
       refine WL.know (fun w hw=>Hp.y3j .h1 hw (by intro hz'; have:=zg0; rw [hz'] at this; omega)) ?_
       rintro ⟨z62,rfl⟩
       refine WL.a (d:=31) rfl rfl rfl (y14 y1K rfl rfl zg0.1 zg0.2 y39) ?_
       refine WL.a (d:=32) rfl rfl rfl (y4 (cs:=(e30 (nth zz.1 z1s))) y5 rfl rfl (y36 .h1 (y2J (enc:=e30) (l:=zz.1) (i:=z1s) (sz:=2) (fun _=>rfl) zg0.1 zg0.2))) ?_
       refine WL.new (dd:=8) rfl rfl rfl (ym (cs:=[(.int .i64 0),(.int .i64 0)]) yt rfl) ?_
       intro z6R _
       refine WL.yb rfl rfl (yc (vs:=[(.int .i64 ((nth zz.1 z1s).fN)),(.int .i64 ((nth zz.1 z1s).fD))]) (ds:=[(.int .i64 ((nth zz.1 z1s).fN)),(.int .i64 ((nth zz.1 z1s).fD))]) yo rfl rfl rfl rfl (y2 rfl (y2 rfl yk)) .here (Nat.le_of_ble_eq_true rfl) rfl) ?_
       refine WL.nil ?_
       refine WX.a ?_
       refine WC.b ?_
       obtain ⟨zhP,zvD,h⟩:=ze h
       obtain ⟨zhQ,zvE,h⟩:=ze h
       obtain ⟨z6i,zvF,h⟩:=ze h
       obtain ⟨zbF,zq9,h⟩:=ze h
       refine WC.a ?_
       refine WL.a (d:=33) rfl rfl rfl (q_m rfl) ?_
       refine WL.a (d:=34) rfl rfl rfl (y4 (cs:=[(.int .i64 ((nth zz.1 z1s).fN)),(.int .i64 ((nth zz.1 z1s).fD))]) y5 rfl rfl (y8 .here)) ?_
       refine WL.b (dd:=35) rfl rfl rfl (zj (l:=[.tmp 34]) Try.call70 (.cons rfl .nil)) (.nil : Sel [stb z6R 30 [(.int .i64 ((nth zz.1 z1s).fN)),(.int .i64 ((nth zz.1 z1s).fD))],fz (z3f ++ z5H),row (.slice (some ⟨z62,0,none⟩) zz.1.length z4A) 30 2 (zz.1.flatMap e30),z1u z6l z4Q] [] [stb z6R 30 [(.int .i64 ((nth zz.1 z1s).fN)),(.int .i64 ((nth zz.1 z1s).fD))],fz (z3f ++ z5H),row (.slice (some ⟨z62,0,none⟩) zz.1.length z4A) 30 2 (zz.1.flatMap e30),z1u z6l z4Q]) (fun w hw=>by have pz:=(hz.call2 hw (.nil : Sel [stb z6R 30 [(.int .i64 ((nth zz.1 z1s).fN)),(.int .i64 ((nth zz.1 z1s).fD))],fz (z3f ++ z5H),row (.slice (some ⟨z62,0,none⟩) zz.1.length z4A) 30 2 (zz.1.flatMap e30),z1u z6l z4Q] [] [stb z6R 30 [(.int .i64 ((nth zz.1 z1s).fN)),(.int .i64 ((nth zz.1 z1s).fD))],fz (z3f ++ z5H),row (.slice (some ⟨z62,0,none⟩) zz.1.length z4A) 30 2 (zz.1.flatMap e30),z1u z6l z4Q]) .h1); exact y4B (Z:=_)  (z2X:=(⟨((nth zz.1 z1s).fN),((nth zz.1 z1s).fD)⟩ : z7)) (r:=zhP) w pz  zvD) ?_
       refine WL.b (dd:=36) rfl rfl rfl (zj (l:=[.tmp 35]) Try.call65 (.cons rfl .nil)) (.nil : Sel [stb z6R 30 [(.int .i64 ((nth zz.1 z1s).fN)),(.int .i64 ((nth zz.1 z1s).fD))],fz (z3f ++ z5H),row (.slice (some ⟨z62,0,none⟩) zz.1.length z4A) 30 2 (zz.1.flatMap e30),z1u z6l z4Q] [] [stb z6R 30 [(.int .i64 ((nth zz.1 z1s).fN)),(.int .i64 ((nth zz.1 z1s).fD))],fz (z3f ++ z5H),row (.slice (some ⟨z62,0,none⟩) zz.1.length z4A) 30 2 (zz.1.flatMap e30),z1u z6l z4Q]) (fun w hw=>by have pz:=(hz.call2 hw (.nil : Sel [stb z6R 30 [(.int .i64 ((nth zz.1 z1s).fN)),(.int .i64 ((nth zz.1 z1s).fD))],fz (z3f ++ z5H),row (.slice (some ⟨z62,0,none⟩) zz.1.length z4A) 30 2 (zz.1.flatMap e30),z1u z6l z4Q] [] [stb z6R 30 [(.int .i64 ((nth zz.1 z1s).fN)),(.int .i64 ((nth zz.1 z1s).fD))],fz (z3f ++ z5H),row (.slice (some ⟨z62,0,none⟩) zz.1.length z4A) 30 2 (zz.1.flatMap e30),z1u z6l z4Q]) .h1); exact y1S (Z:=_)  (z6g:=zhP) (r:=zhQ) w pz  zvE) ?_
       refine WL.yield (dd:=37) (x:=zhQ) (h:=()) (g:=z6l) (s:=z4Q) (b:=z6i.1) (s':=z6i.2) zfZ rfl rfl rfl (.cons rfl .nil) ((.cons .h3 .nil) : Sel _ [z1u z6l z4Q] _) zvF zq8 (fun w hw=>hz.call hw ((.cons .h3 .nil) : Sel _ [z1u z6l z4Q] _)) ?_
       intro z8y zqa
       refine WL.a (d:=38) rfl rfl rfl (y1m rfl) ?_
       refine WL.a (d:=39) rfl rfl rfl (q_m rfl) ?_
       refine WL.y6C (fun (zcQ : z2u)=>z87 zcQ zbF.2) (fun (zcQ : z2u)=>[(0,(.func (.yield z86) #[] #[])),(1,(.pointer (some z98))),(16,(.slice zbH z4z.length zbI)),(17,(.int .i64 ((z4z.length : Nat) : Int))),(18,(.int .i64 z5M)),(27,(.slice (some ⟨z62,0,none⟩) zz.1.length z4A)),(28,(.int .i64 ((zz.1.length : Nat) : Int))),(29,(.int .i64 z1s)),(46,(.bool zbF.1))]) (fun (zcQ : z2u)=>[z1u zcQ zbF.2,stb z6R 30 [(.int .i64 ((nth zz.1 z1s).fN)),(.int .i64 ((nth zz.1 z1s).fD))],fz (z3f ++ z5H),row (.slice (some ⟨z62,0,none⟩) zz.1.length z4A) 30 2 (zz.1.flatMap e30)]) 7 ?_ (fun zcQ zqb=>?_)
       ·rcases Bool.eq_false_or_eq_true (!z6i.1) with hb' | hb'
        ·have zqc:=hb'; clear hb'
         have zlE:=yh zq9 zqc
         replace zlE:=Option.some.inj zlE
         refine WL.pin (i:=39) rfl zqc ?_
         refine WL.e rfl rfl rfl ?_
         refine WL.e rfl rfl rfl ?_
         refine WL.e rfl rfl rfl ?_
         refine WL.e rfl rfl rfl ?_
         refine WL.e rfl rfl rfl ?_
         refine WL.e rfl rfl rfl ?_
         refine WL.a (d:=46) rfl rfl rfl (ys rfl rfl) ?_
         subst zlE
         exact WL.y9 z8y zqa (.cons rfl (.cons rfl (.cons rfl (.cons rfl (.cons rfl (.cons rfl (.cons rfl (.cons rfl (.cons rfl .nil))))))))) (.cons .here (.cons .here (.cons .here (.cons .here .nil))))
        ·have zqd:=hb'; clear hb'
         have zaC:=yi zq9 zqd
         obtain ⟨zhR,zvG,zaC⟩:=ze zaC
         obtain ⟨zhS,zvH,zaC⟩:=ze zaC
         obtain ⟨zfU,zvI,zaC⟩:=ze zaC
         replace zaC:=Option.some.inj zaC
         refine WL.pin (i:=39) rfl zqd ?_
         refine WL.a (d:=40) rfl rfl rfl (q_m rfl) ?_
         refine WL.a (d:=41) rfl rfl rfl (y4 (cs:=[(.int .i64 ((nth zz.1 z1s).fN)),(.int .i64 ((nth zz.1 z1s).fD))]) y5 rfl rfl (y8 .h1)) ?_
         refine WL.b (dd:=42) rfl rfl rfl (zj (l:=[.tmp 41]) Try.call71 (.cons rfl .nil)) (.nil : Sel [z1u z8y z6i.2,stb z6R 30 [(.int .i64 ((nth zz.1 z1s).fN)),(.int .i64 ((nth zz.1 z1s).fD))],fz (z3f ++ z5H),row (.slice (some ⟨z62,0,none⟩) zz.1.length z4A) 30 2 (zz.1.flatMap e30)] [] [z1u z8y z6i.2,stb z6R 30 [(.int .i64 ((nth zz.1 z1s).fN)),(.int .i64 ((nth zz.1 z1s).fD))],fz (z3f ++ z5H),row (.slice (some ⟨z62,0,none⟩) zz.1.length z4A) 30 2 (zz.1.flatMap e30)]) (fun w hw=>by have pz:=(hz.call2 hw (.nil : Sel [z1u z8y z6i.2,stb z6R 30 [(.int .i64 ((nth zz.1 z1s).fN)),(.int .i64 ((nth zz.1 z1s).fD))],fz (z3f ++ z5H),row (.slice (some ⟨z62,0,none⟩) zz.1.length z4A) 30 2 (zz.1.flatMap e30)] [] [z1u z8y z6i.2,stb z6R 30 [(.int .i64 ((nth zz.1 z1s).fN)),(.int .i64 ((nth zz.1 z1s).fD))],fz (z3f ++ z5H),row (.slice (some ⟨z62,0,none⟩) zz.1.length z4A) 30 2 (zz.1.flatMap e30)]) .h2); exact y5I (Z:=_)  (z2O:=(⟨((nth zz.1 z1s).fN),((nth zz.1 z1s).fD)⟩ : z7)) (r:=zhR) w pz  zvG) ?_
         refine WL.b (dd:=43) rfl rfl rfl (zj (l:=[.tmp 42]) Try.call65 (.cons rfl .nil)) (.nil : Sel [z1u z8y z6i.2,stb z6R 30 [(.int .i64 ((nth zz.1 z1s).fN)),(.int .i64 ((nth zz.1 z1s).fD))],fz (z3f ++ z5H),row (.slice (some ⟨z62,0,none⟩) zz.1.length z4A) 30 2 (zz.1.flatMap e30)] [] [z1u z8y z6i.2,stb z6R 30 [(.int .i64 ((nth zz.1 z1s).fN)),(.int .i64 ((nth zz.1 z1s).fD))],fz (z3f ++ z5H),row (.slice (some ⟨z62,0,none⟩) zz.1.length z4A) 30 2 (zz.1.flatMap e30)]) (fun w hw=>by have pz:=(hz.call2 hw (.nil : Sel [z1u z8y z6i.2,stb z6R 30 [(.int .i64 ((nth zz.1 z1s).fN)),(.int .i64 ((nth zz.1 z1s).fD))],fz (z3f ++ z5H),row (.slice (some ⟨z62,0,none⟩) zz.1.length z4A) 30 2 (zz.1.flatMap e30)] [] [z1u z8y z6i.2,stb z6R 30 [(.int .i64 ((nth zz.1 z1s).fN)),(.int .i64 ((nth zz.1 z1s).fD))],fz (z3f ++ z5H),row (.slice (some ⟨z62,0,none⟩) zz.1.length z4A) 30 2 (zz.1.flatMap e30)]) .h2); exact y1S (Z:=_)  (z6g:=zhR) (r:=zhS) w pz  zvH) ?_
         refine WL.yield (dd:=44) (x:=zhS) (h:=()) (g:=z8y) (s:=z6i.2) (b:=zfU.1) (s':=zfU.2) zfZ rfl rfl rfl (.cons rfl .nil) ((.cons .here .nil) : Sel _ [z1u z8y z6i.2] _) zvI zqa (fun w hw=>hz.call hw ((.cons .here .nil) : Sel _ [z1u z8y z6i.2] _)) ?_
         intro zvJ zvK
         refine WL.a (d:=45) rfl rfl rfl (y1m rfl) ?_
         refine WL.a (d:=46) rfl rfl rfl (yr rfl rfl) ?_
         subst zaC
         exact WL.y9 zvJ zvK (.cons rfl (.cons rfl (.cons rfl (.cons rfl (.cons rfl (.cons rfl (.cons rfl (.cons rfl (.cons rfl .nil))))))))) (.cons .here (.cons .here (.cons .here (.cons .here .nil))))
       ·skip
        refine WL.nil ?_
        refine WX.a ?_
        refine WC.cond rfl (fun zlF=>?_) (fun zlF=>?_)
        ·replace h:=yh h zlF
         refine WC.ret ?_
         refine WX.yq ?_
         refine WX.y6 ?_
         refine WX.y6 ?_
         refine WX.yq ?_
         refine WX.y6 ?_
         refine WX.yq ?_
         refine WX.y6 ?_
         refine WX.y6 ?_
         refine WX.yq ?_
         refine WX.y6 ?_
         obtain rfl:=Option.some.inj h
         refine WX.y7 Try.results69 .nil (fun w hw=>?_)
         exact ⟨(z3f ++ z5H),zcQ,y5s,zqb,hw.sub (.cons .h2 (.cons .here .nil))⟩
        ·replace h:=yi h zlF
         refine WC.skip ?_
         refine WX.yg ?_
         refine WX.a ?_
         refine WC.a ?_
         refine WL.a (d:=47) rfl rfl rfl (yW rfl rfl rfl) ?_
         refine WL.a (d:=29) rfl rfl rfl (q_m rfl) ?_
         refine WL.nil ?_
         exact WX.round (G:=Nat × Int × zx × Option Addr × Nat × z2u) ⟨zlt,(i64 (z1s + 1)),zbF.2,(some ⟨z62,0,none⟩),z4A,zcQ⟩ ⟨h,zqb⟩ (Nat.lt_succ_self _) (.cons rfl (.cons rfl (.cons rfl (.cons rfl (.cons rfl (.cons rfl (.cons rfl (.cons rfl .nil)))))))) (.cons .h2 (.cons .h2 (.cons .here .nil)))
      ·replace h:=yi h zlD
       refine WC.exit ?_
       refine WX.ye ?_
       refine WX.ye ?_
       refine WX.yx ?_
       exact WX.mid (G:=zx × z2u) ⟨z4Q,z6l⟩ ⟨h,zq8⟩ (.cons rfl (.cons rfl (.cons rfl (.cons rfl (.cons rfl .nil))))) (.cons .here (.cons .h1 .nil))
     ·rintro z9z zeh ⟨h,zvL⟩
      replace h:=(zvC z9z).symm.trans h
      refine WX.yg ?_
      exact WX.mid (G:=zx × Zp × z2u) ⟨z9z,(z3f ++ z5H),zeh⟩ ⟨h,((Zle.left _ _).trans (Zle.yp _ _ _)),zvL⟩ (.cons rfl (.cons rfl (.cons rfl (.cons rfl (.cons rfl .nil))))) (.cons .here (.cons .here .nil))
    ·rintro z9y zef zeg ⟨h,zvM,zvN⟩
     replace h:=(zvt z9y).symm.trans h
     refine WC.a ?_
     refine WL.a (d:=48) rfl rfl rfl (yW rfl rfl rfl) ?_
     refine WL.a (d:=18) rfl rfl rfl (q_m rfl) ?_
     refine WL.nil ?_
     exact WX.round (G:=Nat × Int × zx × Zp × z2u) ⟨zlu,(i64 (z5M + 1)),z9y,zef,zeg⟩ ⟨h,(zhY.trans zvM),zvN⟩ (Nat.lt_succ_self _) (.cons rfl (.cons rfl (.cons rfl (.cons rfl (.cons rfl .nil))))) (.cons .here (.cons .here .nil))
   ·replace h:=yi h zlC
    refine WC.exit ?_
    refine WX.ye ?_
    refine WX.ye ?_
    refine WX.yx ?_
    exact WX.mid (G:=zx × Zp × z2u) ⟨z6j,z3f,z8x⟩ ⟨h,zhY,zq7⟩ (.cons rfl (.cons rfl .nil)) (.cons .here (.cons .here .nil))
  ·rintro z9A z4d zed ⟨h,zqe,zvO⟩
   replace h:=(zvs z9A).symm.trans h
   refine WC.b ?_
   refine WC.a ?_
   refine WL.a (d:=49) rfl rfl rfl (y3 y9J rfl rfl) ?_
   refine WL.a (d:=50) rfl rfl rfl (ya y3z rfl (y1J (hz.pv2 .here) (zq3.mono ((Zle.left _ _).trans zqe)) rfl)) ?_
   refine WL.a (d:=51) rfl rfl rfl (y10 Try.underlying77 rfl) ?_
   refine WL.a (d:=52) rfl rfl rfl (q_m rfl) ?_
   refine WL.nil ?_
   refine WX.a ?_
   obtain ⟨zaA,zvP,h⟩:=y1h h
   refine WC.y5P (fun (zaB : zx) (zek : z2u)=>(zaA zaB = some r) ∧ (z87 zek zaB)) (fun (zaB : zx) (zek : z2u)=>[]) (fun (zaB : zx) (zek : z2u)=>[fz z4d,z1u zek zaB]) ?_ ?_
   ·skip
    refine WC.block ?_
    refine WC.y49 (fun (zel : Nat) (z1t : Int) (z4R : zx) (z6m : z2u)=>(y1o zx z1j z4c zaA zel z1t z4R = some r) ∧ (z87 z6m z4R)) (fun (zel : Nat) (z1t : Int) (z4R : zx) (z6m : z2u)=>[(0,(.func (.yield z86) #[] #[])),(50,(.slice zfX z1j.length zfY)),(51,(.int .i64 ((z1j.length : Nat) : Int))),(52,(.int .i64 z1t))]) (fun (zel : Nat) (z1t : Int) (z4R : zx) (z6m : z2u)=>[fz z4d,z1u z6m z4R]) (fun (zel : Nat) (z1t : Int) (z4R : zx) (z6m : z2u)=>zel) ⟨yu,0,z9A,zed⟩ ⟨h,zvO⟩ (.cons rfl (.cons rfl (.cons rfl (.cons rfl .nil)))) (.cons .here (.cons .here .nil)) ?_
    rintro zel z1t z4R z6m ⟨h,zqf⟩
    obtain ⟨zlw,rfl⟩:=y4x h
    rw [y1o] at h
    refine WC.b ?_
    refine WC.a ?_
    refine WL.a (d:=53) rfl rfl rfl (y1c rfl rfl) ?_
    refine WL.nil ?_
    refine WX.a ?_
    refine WC.b ?_
    refine WC.cond rfl (fun zlG=>?_) (fun zlG=>?_)
    ·replace h:=yh h zlG
     refine WC.skip ?_
     refine WX.a ?_
     refine WC.b ?_
     refine WC.block ?_
     refine WC.b ?_
     obtain ⟨zvQ,h⟩:=yl h
     refine WC.a ?_
     refine WL.znth (dd:=54) rfl rfl (Z:=(Z ++ z4d)) (Pr:=(fun r x=>r = e30 x)) y1K rfl rfl (zvp.mono ((Zle.left _ _).trans zqe)) zvQ ?_
     rintro zBA zBB zvR zBC rfl
     refine WL.a (d:=55) rfl rfl rfl (y4 (cs:=[(.int .i64 ((nth z1j z1t).fN)),(.int .i64 ((nth z1j z1t).fD))]) y5 rfl rfl (y2P (hz.pv2 .here) zvR)) ?_
     refine WL.new (dd:=10) rfl rfl rfl (ym (cs:=[(.int .i64 0),(.int .i64 0)]) yt rfl) ?_
     intro z6S _
     refine WL.yb rfl rfl (yc (vs:=[(.int .i64 ((nth z1j z1t).fN)),(.int .i64 ((nth z1j z1t).fD))]) (ds:=[(.int .i64 ((nth z1j z1t).fN)),(.int .i64 ((nth z1j z1t).fD))]) yo rfl rfl rfl rfl (y2 rfl (y2 rfl yk)) .here (Nat.le_of_ble_eq_true rfl) rfl) ?_
     refine WL.nil ?_
     refine WX.a ?_
     refine WC.b ?_
     obtain ⟨zhT,zvS,h⟩:=ze h
     obtain ⟨zhU,zvT,h⟩:=ze h
     obtain ⟨z6k,zvU,h⟩:=ze h
     obtain ⟨zbG,zqg,h⟩:=ze h
     refine WC.a ?_
     refine WL.a (d:=56) rfl rfl rfl (q_m rfl) ?_
     refine WL.a (d:=57) rfl rfl rfl (y4 (cs:=[(.int .i64 ((nth z1j z1t).fN)),(.int .i64 ((nth z1j z1t).fD))]) y5 rfl rfl (y8 .here)) ?_
     refine WL.b (dd:=58) rfl rfl rfl (zj (l:=[.tmp 57]) Try.call70 (.cons rfl .nil)) (.nil : Sel [stb z6S 30 [(.int .i64 ((nth z1j z1t).fN)),(.int .i64 ((nth z1j z1t).fD))],fz z4d,z1u z6m z4R] [] [stb z6S 30 [(.int .i64 ((nth z1j z1t).fN)),(.int .i64 ((nth z1j z1t).fD))],fz z4d,z1u z6m z4R]) (fun w hw=>by have pz:=(hz.call2 hw (.nil : Sel [stb z6S 30 [(.int .i64 ((nth z1j z1t).fN)),(.int .i64 ((nth z1j z1t).fD))],fz z4d,z1u z6m z4R] [] [stb z6S 30 [(.int .i64 ((nth z1j z1t).fN)),(.int .i64 ((nth z1j z1t).fD))],fz z4d,z1u z6m z4R]) .h1); exact y4B (Z:=_)  (z2X:=(⟨((nth z1j z1t).fN),((nth z1j z1t).fD)⟩ : z7)) (r:=zhT) w pz  zvS) ?_
     refine WL.b (dd:=59) rfl rfl rfl (zj (l:=[.tmp 58]) Try.call65 (.cons rfl .nil)) (.nil : Sel [stb z6S 30 [(.int .i64 ((nth z1j z1t).fN)),(.int .i64 ((nth z1j z1t).fD))],fz z4d,z1u z6m z4R] [] [stb z6S 30 [(.int .i64 ((nth z1j z1t).fN)),(.int .i64 ((nth z1j z1t).fD))],fz z4d,z1u z6m z4R]) (fun w hw=>by have pz:=(hz.call2 hw (.nil : Sel [stb z6S 30 [(.int .i64 ((nth z1j z1t).fN)),(.int .i64 ((nth z1j z1t).fD))],fz z4d,z1u z6m z4R] [] [stb z6S 30 [(.int .i64 ((nth z1j z1t).fN)),(.int .i64 ((nth z1j z1t).fD))],fz z4d,z1u z6m z4R]) .h1); exact y1S (Z:=_)  (z6g:=zhT) (r:=zhU) w pz  zvT) ?_
     refine WL.yield (dd:=60) (x:=zhU) (h:=()) (g:=z6m) (s:=z4R) (b:=z6k.1) (s':=z6k.2) zfZ rfl rfl rfl (.cons rfl .nil) ((.cons .h2 .nil) : Sel _ [z1u z6m z4R] _) zvU zqf (fun w hw=>hz.call hw ((.cons .h2 .nil) : Sel _ [z1u z6m z4R] _)) ?_
     intro z8z zqh
     refine WL.a (d:=61) rfl rfl rfl (y1m rfl) ?_
     refine WL.a (d:=62) rfl rfl rfl (q_m rfl) ?_
     refine WL.y6C (fun (zcR : z2u)=>z87 zcR zbG.2) (fun (zcR : z2u)=>[(0,(.func (.yield z86) #[] #[])),(50,(.slice zfX z1j.length zfY)),(51,(.int .i64 ((z1j.length : Nat) : Int))),(52,(.int .i64 z1t)),(69,(.bool zbG.1))]) (fun (zcR : z2u)=>[z1u zcR zbG.2,stb z6S 30 [(.int .i64 ((nth z1j z1t).fN)),(.int .i64 ((nth z1j z1t).fD))],fz z4d]) 7 ?_ (fun zcR zqi=>?_)
     ·rcases Bool.eq_false_or_eq_true (!z6k.1) with hb' | hb'
      ·have zqj:=hb'; clear hb'
       have zlH:=yh zqg zqj
       replace zlH:=Option.some.inj zlH
       refine WL.pin (i:=62) rfl zqj ?_
       refine WL.e rfl rfl rfl ?_
       refine WL.e rfl rfl rfl ?_
       refine WL.e rfl rfl rfl ?_
       refine WL.e rfl rfl rfl ?_
       refine WL.e rfl rfl rfl ?_
       refine WL.e rfl rfl rfl ?_
       refine WL.a (d:=69) rfl rfl rfl (ys rfl rfl) ?_
       subst zlH
       exact WL.y9 z8z zqh (.cons rfl (.cons rfl (.cons rfl (.cons rfl (.cons rfl .nil))))) (.cons .here (.cons .here (.cons .here .nil)))
      ·have zqk:=hb'; clear hb'
       have zaD:=yi zqg zqk
       obtain ⟨zhV,zvV,zaD⟩:=ze zaD
       obtain ⟨zhW,zvW,zaD⟩:=ze zaD
       obtain ⟨zfV,zvX,zaD⟩:=ze zaD
       replace zaD:=Option.some.inj zaD
       refine WL.pin (i:=62) rfl zqk ?_
       refine WL.a (d:=63) rfl rfl rfl (q_m rfl) ?_
       refine WL.a (d:=64) rfl rfl rfl (y4 (cs:=[(.int .i64 ((nth z1j z1t).fN)),(.int .i64 ((nth z1j z1t).fD))]) y5 rfl rfl (y8 .h1)) ?_
       refine WL.b (dd:=65) rfl rfl rfl (zj (l:=[.tmp 64]) Try.call71 (.cons rfl .nil)) (.nil : Sel [z1u z8z z6k.2,stb z6S 30 [(.int .i64 ((nth z1j z1t).fN)),(.int .i64 ((nth z1j z1t).fD))],fz z4d] [] [z1u z8z z6k.2,stb z6S 30 [(.int .i64 ((nth z1j z1t).fN)),(.int .i64 ((nth z1j z1t).fD))],fz z4d]) (fun w hw=>by have pz:=(hz.call2 hw (.nil : Sel [z1u z8z z6k.2,stb z6S 30 [(.int .i64 ((nth z1j z1t).fN)),(.int .i64 ((nth z1j z1t).fD))],fz z4d] [] [z1u z8z z6k.2,stb z6S 30 [(.int .i64 ((nth z1j z1t).fN)),(.int .i64 ((nth z1j z1t).fD))],fz z4d]) .h2); exact y5I (Z:=_)  (z2O:=(⟨((nth z1j z1t).fN),((nth z1j z1t).fD)⟩ : z7)) (r:=zhV) w pz  zvV) ?_
       refine WL.b (dd:=66) rfl rfl rfl (zj (l:=[.tmp 65]) Try.call65 (.cons rfl .nil)) (.nil : Sel [z1u z8z z6k.2,stb z6S 30 [(.int .i64 ((nth z1j z1t).fN)),(.int .i64 ((nth z1j z1t).fD))],fz z4d] [] [z1u z8z z6k.2,stb z6S 30 [(.int .i64 ((nth z1j z1t).fN)),(.int .i64 ((nth z1j z1t).fD))],fz z4d]) (fun w hw=>by have pz:=(hz.call2 hw (.nil : Sel [z1u z8z z6k.2,stb z6S 30 [(.int .i64 ((nth z1j z1t).fN)),(.int .i64 ((nth z1j z1t).fD))],fz z4d] [] [z1u z8z z6k.2,stb z6S 30 [(.int .i64 ((nth z1j z1t).fN)),(.int .i64 ((nth z1j z1t).fD))],fz z4d]) .h2); exact y1S (Z:=_)  (z6g:=zhV) (r:=zhW) w pz  zvW) ?_
       refine WL.yield (dd:=67) (x:=zhW) (h:=()) (g:=z8z) (s:=z6k.2) (b:=zfV.1) (s':=zfV.2) zfZ rfl rfl rfl (.cons rfl .nil) ((.cons .here .nil) : Sel _ [z1u z8z z6k.2] _) zvX zqh (fun w hw=>hz.call hw ((.cons .here .nil) : Sel _ [z1u z8z z6k.2] _)) ?_
       intro zvY zvZ
       refine WL.a (d:=68) rfl rfl rfl (y1m rfl) ?_
       refine WL.a (d:=69) rfl rfl rfl (yr rfl rfl) ?_
       subst zaD
       exact WL.y9 zvY zvZ (.cons rfl (.cons rfl (.cons rfl (.cons rfl (.cons rfl .nil))))) (.cons .here (.cons .here (.cons .here .nil)))
     ·skip
      refine WL.nil ?_
      refine WX.a ?_
      refine WC.cond rfl (fun zlI=>?_) (fun zlI=>?_)
      ·replace h:=yh h zlI
       refine WC.ret ?_
       refine WX.yq ?_
       refine WX.y6 ?_
       refine WX.y6 ?_
       refine WX.yq ?_
       refine WX.y6 ?_
       obtain rfl:=Option.some.inj h
       refine WX.y7 Try.results69 .nil (fun w hw=>?_)
       exact ⟨z4d,zcR,y5s,zqi,hw.sub (.cons .h2 (.cons .here .nil))⟩
      ·replace h:=yi h zlI
       refine WC.skip ?_
       refine WX.yg ?_
       refine WX.a ?_
       refine WC.a ?_
       refine WL.a (d:=70) rfl rfl rfl (yW rfl rfl rfl) ?_
       refine WL.a (d:=52) rfl rfl rfl (q_m rfl) ?_
       refine WL.nil ?_
       exact WX.round (G:=Nat × Int × zx × z2u) ⟨zlw,(i64 (z1t + 1)),zbG.2,zcR⟩ ⟨h,zqi⟩ (Nat.lt_succ_self _) (.cons rfl (.cons rfl (.cons rfl (.cons rfl .nil)))) (.cons .h2 (.cons .here .nil))
    ·replace h:=yi h zlG
     refine WC.exit ?_
     refine WX.ye ?_
     refine WX.ye ?_
     refine WX.yx ?_
     exact WX.mid (G:=zx × z2u) ⟨z4R,z6m⟩ ⟨h,zqf⟩ .nil (.cons .here (.cons .here .nil))
   ·rintro zaB zek ⟨h,zw0⟩
    replace h:=(zvP zaB).symm.trans h
    obtain rfl:=Option.some.inj h
    refine WX.y4z Try.results69 .nil (fun w hw=>?_)
    exact ⟨z4d,zek,y5s,zw0,hw.sub (.cons .here (.cons .here .nil))⟩
def y5J (zcS : z7) (zcT : z7) : Option (Int × Int) :=
 some ((i64 (zcS.fN * zcT.fN)),(i64 (zcS.fD * zcT.fD)))
set_option maxRecDepth 20000 in
theorem ya3 (Z : Zp)  (zg1 : Addr) (zg2 : Addr) (zcS : z7) (zcT : z7) (r : Int × Int) (w₀ : World) (hz : PZ [] w₀ Z)
  (zql : ZC Z zg1 [(.int .i64 zcS.fN),(.int .i64 zcS.fD)])
  (zqm : ZC Z zg2 [(.int .i64 zcT.fN),(.int .i64 zcT.fD)])
  (h : y5J zcS zcT = some r) :
  Calls Try.prog 56 #[(.pointer (some zg1)),(.pointer (some zg2))] w₀ fun e w'=>e = .returned (.tuple #[(.int .i64 r.1),(.int .i64 r.2)]) ∧ Hp [] w₀ w' []:=by
 unfold y5J at h
 refine Calls.yd (vs:=[(.pointer (some zg1)),(.pointer (some zg2))]) (pre:=[]) (env:=[(0,(.pointer (some zg1))),(1,(.pointer (some zg2)))]) Try.func56 rfl Try.ntmps56 rfl (Hp.nil w₀ _) rfl ?_
 refine WC.b ?_
 refine WC.a ?_
 refine WL.a (d:=2) rfl rfl rfl (q_z rfl) ?_
 refine WL.a (d:=3) rfl rfl rfl (q_z rfl) ?_
 refine WL.nil ?_
 refine WX.a ?_
 refine WC.b ?_
 refine WC.yY (fun i=>[].contains i) [] rfl ?_
 refine WD.a (i:=0) (d:=4) (by kernel_rfl) rfl (z8 (by kernel_rfl)) (za (by kernel_rfl)) rfl rfl rfl (fun _=>y3 y1Q rfl rfl) ?_
 refine WD.e (i:=1) (d:=5) (by kernel_rfl) rfl (z8 (by kernel_rfl)) (za (by kernel_rfl)) rfl rfl rfl (ya yw rfl (y1J hz.pv zql rfl)) ?_
 refine WD.a (i:=2) (d:=6) (by kernel_rfl) rfl (z8 (by kernel_rfl)) (za (by kernel_rfl)) rfl rfl rfl (fun _=>y3 y1Q rfl rfl) ?_
 refine WD.e (i:=3) (d:=7) (by kernel_rfl) rfl (z8 (by kernel_rfl)) (za (by kernel_rfl)) rfl rfl rfl (ya yw rfl (y1J hz.pv zqm rfl)) ?_
 refine WD.a (i:=4) (d:=8) (by kernel_rfl) rfl (z8 (by kernel_rfl)) (za (by kernel_rfl)) rfl rfl rfl (fun _=>y3t rfl rfl rfl) ?_
 refine WD.a (i:=5) (d:=9) (by kernel_rfl) rfl (z8 (by kernel_rfl)) (za (by kernel_rfl)) rfl rfl rfl (fun _=>y3 y24 rfl rfl) ?_
 refine WD.e (i:=6) (d:=10) (by kernel_rfl) rfl (z8 (by kernel_rfl)) (za (by kernel_rfl)) rfl rfl rfl (ya yw rfl (y1J hz.pv zql rfl)) ?_
 refine WD.a (i:=7) (d:=11) (by kernel_rfl) rfl (z8 (by kernel_rfl)) (za (by kernel_rfl)) rfl rfl rfl (fun _=>y3 y24 rfl rfl) ?_
 refine WD.e (i:=8) (d:=12) (by kernel_rfl) rfl (z8 (by kernel_rfl)) (za (by kernel_rfl)) rfl rfl rfl (ya yw rfl (y1J hz.pv zqm rfl)) ?_
 refine WD.a (i:=9) (d:=13) (by kernel_rfl) rfl (z8 (by kernel_rfl)) (za (by kernel_rfl)) rfl rfl rfl (fun _=>y3t rfl rfl rfl) ?_
 refine WD.a (i:=10) (d:=2) (by kernel_rfl) rfl (z8 (by kernel_rfl)) (za (by kernel_rfl)) rfl rfl rfl (fun _=>q_z rfl) ?_
 refine WD.a (i:=11) (d:=3) (by kernel_rfl) rfl (z8 (by kernel_rfl)) (za (by kernel_rfl)) rfl rfl rfl (fun _=>q_z rfl) ?_
 refine WD.done (by kernel_rfl) ?_
 refine WX.a ?_
 refine WC.ret ?_
 obtain rfl:=Option.some.inj h
 refine WX.y7 Try.results56 (.tmp rfl (.tmp rfl .nil)) (fun w hw=>?_)
 exact ⟨y1M rfl rfl,hw.sub .nil⟩
def y6s (z16 : z7) (z17 : z7) : Option (z7 × Int) :=
 (y1f z16).bind fun zhZ=>(if !zhZ then some true else (y1f z17).bind fun zlJ=>some (!zlJ)).bind fun zg3=>if zg3 then some ((⟨0,0⟩ : z7),2) else (y5J z16 z17).bind fun zem=>(y2Q zem.1 zem.2).bind fun zbJ=>some (zbJ.1,zbJ.2)
set_option maxRecDepth 20000 in
theorem yap (Z : Zp)   (z16 : z7) (z17 : z7) (r : z7 × Int) (w₀ : World) (hz : PZ [] w₀ Z)
  (h : y6s z16 z17 = some r) :
  Calls Try.prog 40 #[(.string ⟨#[42]⟩),(.agg #[(.int .i64 z16.fN),(.int .i64 z16.fD)]),(.agg #[(.int .i64 z17.fN),(.int .i64 z17.fD)])] w₀ fun e w'=>e = .returned (.tuple #[(.agg #[(.int .i64 r.1.fN),(.int .i64 r.1.fD)]),(.int .i64 r.2)]) ∧ Hp [] w₀ w' []:=by
 unfold y6s at h
 refine Calls.yd (vs:=[(.string ⟨#[42]⟩),(.agg #[(.int .i64 z16.fN),(.int .i64 z16.fD)]),(.agg #[(.int .i64 z17.fN),(.int .i64 z17.fD)])]) (pre:=[]) (env:=[(0,(.string ⟨#[42]⟩)),(1,(.agg #[(.int .i64 z16.fN),(.int .i64 z16.fD)])),(2,(.agg #[(.int .i64 z17.fN),(.int .i64 z17.fD)]))]) Try.func40 rfl Try.ntmps40 rfl (Hp.nil w₀ _) rfl ?_
 refine WC.b ?_
 refine WC.a ?_
 refine WL.new (dd:=4) rfl rfl rfl (yI (cs:=[(.int .i64 z16.fN),(.int .i64 z16.fD)]) rfl rfl) ?_
 intro zL _
 refine WL.new (dd:=5) rfl rfl rfl (yI (cs:=[(.int .i64 z17.fN),(.int .i64 z17.fD)]) rfl rfl) ?_
 intro zM _
 refine WL.new (dd:=6) rfl rfl rfl (ym (cs:=[(.int .i64 0),(.int .i64 0)]) yt rfl) ?_
 intro z4s _
 refine WL.a (d:=7) rfl rfl rfl (q_z rfl) ?_
 refine WL.nil ?_
 refine WX.a ?_
 refine WC.b ?_
 refine WC.b ?_
 obtain ⟨zhZ,zw1,h⟩:=ze h
 obtain ⟨zg3,zqn,h⟩:=ze h
 refine WC.a ?_
 refine WL.a (d:=9) rfl rfl rfl (y4 (cs:=[(.int .i64 z16.fN),(.int .i64 z16.fD)]) y5 rfl rfl (y8 .h2)) ?_
 refine WL.b (dd:=10) rfl rfl rfl (zj (l:=[.tmp 9]) Try.call39 (.cons rfl .nil)) (.nil : Sel [stb z4s 30 [(.int .i64 0),(.int .i64 0)],stb zM 30 [(.int .i64 z17.fN),(.int .i64 z17.fD)],stb zL 30 [(.int .i64 z16.fN),(.int .i64 z16.fD)]] [] [stb z4s 30 [(.int .i64 0),(.int .i64 0)],stb zM 30 [(.int .i64 z17.fN),(.int .i64 z17.fD)],stb zL 30 [(.int .i64 z16.fN),(.int .i64 z16.fD)]]) (fun w hw=>by have pz:=(hz.call hw (.nil : Sel [stb z4s 30 [(.int .i64 0),(.int .i64 0)],stb zM 30 [(.int .i64 z17.fN),(.int .i64 z17.fD)],stb zL 30 [(.int .i64 z16.fN),(.int .i64 z16.fD)]] [] [stb z4s 30 [(.int .i64 0),(.int .i64 0)],stb zM 30 [(.int .i64 z17.fN),(.int .i64 z17.fD)],stb zL 30 [(.int .i64 z16.fN),(.int .i64 z16.fD)]])); exact y1G (Z:=_)  (z1b:=z16) (r:=zhZ) w pz  zw1) ?_
 refine WL.a (d:=11) rfl rfl rfl (y1m rfl) ?_
 refine WL.a (d:=12) rfl rfl rfl (q_m rfl) ?_
 refine WL.yN True [(0,(.string ⟨#[42]⟩)),(4,(.pointer (some ⟨zL,0,none⟩))),(5,(.pointer (some ⟨zM,0,none⟩))),(6,(.pointer (some ⟨z4s,0,none⟩))),(16,(.bool zg3))] [stb z4s 30 [(.int .i64 0),(.int .i64 0)],stb zM 30 [(.int .i64 z17.fN),(.int .i64 z17.fD)],stb zL 30 [(.int .i64 z16.fN),(.int .i64 z16.fD)]] 4 ?_ (fun _=>?_)
 ·rcases Bool.eq_false_or_eq_true (!zhZ) with hb' | hb'
  ·have zqo:=hb'; clear hb'
   have zlK:=yh zqn zqo
   replace zlK:=Option.some.inj zlK
   refine WL.pin (i:=12) rfl zqo ?_
   refine WL.e rfl rfl rfl ?_
   refine WL.e rfl rfl rfl ?_
   refine WL.e rfl rfl rfl ?_
   refine WL.a (d:=16) rfl rfl rfl (ys rfl rfl) ?_
   exact WL.y9 () trivial (.cons rfl (.cons rfl (.cons rfl (.cons rfl (.cons (zr zlK) .nil))))) (.cons .here (.cons .here (.cons .here .nil)))
  ·have zqp:=hb'; clear hb'
   have zg4:=yi zqn zqp
   obtain ⟨zlJ,zw2,zg4⟩:=ze zg4
   replace zg4:=Option.some.inj zg4
   refine WL.pin (i:=12) rfl zqp ?_
   refine WL.a (d:=13) rfl rfl rfl (y4 (cs:=[(.int .i64 z17.fN),(.int .i64 z17.fD)]) y5 rfl rfl (y8 .h1)) ?_
   refine WL.b (dd:=14) rfl rfl rfl (zj (l:=[.tmp 13]) Try.call39 (.cons rfl .nil)) (.nil : Sel [stb z4s 30 [(.int .i64 0),(.int .i64 0)],stb zM 30 [(.int .i64 z17.fN),(.int .i64 z17.fD)],stb zL 30 [(.int .i64 z16.fN),(.int .i64 z16.fD)]] [] [stb z4s 30 [(.int .i64 0),(.int .i64 0)],stb zM 30 [(.int .i64 z17.fN),(.int .i64 z17.fD)],stb zL 30 [(.int .i64 z16.fN),(.int .i64 z16.fD)]]) (fun w hw=>by have pz:=(hz.call hw (.nil : Sel [stb z4s 30 [(.int .i64 0),(.int .i64 0)],stb zM 30 [(.int .i64 z17.fN),(.int .i64 z17.fD)],stb zL 30 [(.int .i64 z16.fN),(.int .i64 z16.fD)]] [] [stb z4s 30 [(.int .i64 0),(.int .i64 0)],stb zM 30 [(.int .i64 z17.fN),(.int .i64 z17.fD)],stb zL 30 [(.int .i64 z16.fN),(.int .i64 z16.fD)]])); exact y1G (Z:=_)  (z1b:=z17) (r:=zlJ) w pz  zw2) ?_
   refine WL.a (d:=15) rfl rfl rfl (y1m rfl) ?_
   refine WL.a (d:=16) rfl rfl rfl (yr rfl rfl) ?_
   exact WL.y9 () trivial (.cons rfl (.cons rfl (.cons rfl (.cons rfl (.cons (zr zg4) .nil))))) (.cons .here (.cons .here (.cons .here .nil)))
 ·skip
  refine WL.a (d:=17) rfl rfl rfl (q_m rfl) ?_
  refine WL.yN True [(0,(.string ⟨#[42]⟩)),(4,(.pointer (some ⟨zL,0,none⟩))),(5,(.pointer (some ⟨zM,0,none⟩))),(6,(.pointer (some ⟨z4s,0,none⟩))),(25,(.bool zg3))] [stb z4s 30 [(.int .i64 0),(.int .i64 0)],stb zM 30 [(.int .i64 z17.fN),(.int .i64 z17.fD)],stb zL 30 [(.int .i64 z16.fN),(.int .i64 z16.fD)]] 8 ?_ (fun _=>?_)
  ·rcases Bool.eq_false_or_eq_true zg3 with hb' | hb'
   ·have zqq:=hb'; clear hb'
    refine WL.pin (i:=17) rfl zqq ?_
    refine WL.e rfl rfl rfl ?_
    refine WL.e rfl rfl rfl ?_
    refine WL.e rfl rfl rfl ?_
    refine WL.e rfl rfl rfl ?_
    refine WL.e rfl rfl rfl ?_
    refine WL.e rfl rfl rfl ?_
    refine WL.e rfl rfl rfl ?_
    refine WL.a (d:=25) rfl rfl rfl (ys rfl rfl) ?_
    exact WL.y9 () trivial (.cons rfl (.cons rfl (.cons rfl (.cons rfl (.cons (zr (Eq.symm zqq)) .nil))))) (.cons .here (.cons .here (.cons .here .nil)))
   ·have zqr:=hb'; clear hb'
    refine WL.pin (i:=17) rfl zqr ?_
    refine WL.a (d:=18) rfl rfl rfl (q_m rfl) ?_
    refine WL.a (d:=19) rfl rfl rfl (y7y (r:=false) (by decide) rfl rfl) ?_
    refine WL.a (d:=20) rfl rfl rfl (q_m rfl) ?_
    refine WL.e rfl rfl rfl ?_
    refine WL.e rfl rfl rfl ?_
    refine WL.e rfl rfl rfl ?_
    refine WL.a (d:=24) rfl rfl rfl (yr rfl rfl) ?_
    refine WL.a (d:=25) rfl rfl rfl (yr rfl rfl) ?_
    exact WL.y9 () trivial (.cons rfl (.cons rfl (.cons rfl (.cons rfl (.cons (zr (Eq.symm zqr)) .nil))))) (.cons .here (.cons .here (.cons .here .nil)))
  ·skip
   refine WL.nil ?_
   refine WX.a ?_
   refine WC.cond rfl (fun zlL=>?_) (fun zlL=>?_)
   ·replace h:=yh h zlL
    refine WC.b ?_
    refine WC.a ?_
    refine WL.a (d:=26) rfl rfl rfl (y1g (v:=(.agg #[(.int .i64 0),(.int .i64 0)])) (Eos.parts (l:=[]) .nil []) (fun _=>by kernel_rfl)) ?_
    refine WL.yb rfl rfl (yc (vs:=[(.int .i64 0),(.int .i64 0)]) (ds:=[(.int .i64 0),(.int .i64 0)]) yo rfl rfl rfl rfl (y2 rfl (y2 rfl yk)) .here (Nat.le_of_ble_eq_true rfl) rfl) ?_
    refine WL.a (d:=7) rfl rfl rfl (q_z rfl) ?_
    refine WL.nil ?_
    refine WX.a ?_
    refine WC.ret ?_
    refine WX.y6 ?_
    obtain rfl:=Option.some.inj h
    refine WX.y7 Try.results40 (.agg rfl y5 rfl (y8 .here) (.tmp rfl .nil)) (fun w hw=>?_)
    exact ⟨y1M rfl rfl,hw.sub .nil⟩
   ·replace h:=yi h zlL
    refine WC.skip ?_
    refine WX.a ?_
    refine WC.b ?_
    refine WC.a ?_
    refine WL.new (dd:=27) rfl rfl rfl (y6p Value.string (fun x=>x)) ?_
    intro z7P _
    refine WL.a (d:=28) rfl rfl rfl (y1d (Eos.caps (l:=[.tmp 4,.tmp 5]) (.cons rfl (.cons rfl .nil)))) ?_
    refine WL.yb rfl rfl (y2g (k:=⟨#[43]⟩) (v:=(.func (.func 54) #[] #[(.pointer (some ⟨zL,0,none⟩)),(.pointer (some ⟨zM,0,none⟩))])) y2q Try.underlying105 rfl rfl rfl rfl .here) ?_
    refine WL.a (d:=29) rfl rfl rfl (y1d (Eos.caps (l:=[.tmp 4,.tmp 5]) (.cons rfl (.cons rfl .nil)))) ?_
    refine WL.yb rfl rfl (y2g (k:=⟨#[45]⟩) (v:=(.func (.func 55) #[] #[(.pointer (some ⟨zL,0,none⟩)),(.pointer (some ⟨zM,0,none⟩))])) y2q Try.underlying105 rfl rfl rfl rfl .here) ?_
    refine WL.a (d:=30) rfl rfl rfl (y1d (Eos.caps (l:=[.tmp 4,.tmp 5]) (.cons rfl (.cons rfl .nil)))) ?_
    refine WL.yb rfl rfl (y2g (k:=⟨#[42]⟩) (v:=(.func (.func 56) #[] #[(.pointer (some ⟨zL,0,none⟩)),(.pointer (some ⟨zM,0,none⟩))])) y2q Try.underlying105 rfl rfl rfl rfl .here) ?_
    refine WL.a (d:=31) rfl rfl rfl (y1d (Eos.caps (l:=[.tmp 4,.tmp 5]) (.cons rfl (.cons rfl .nil)))) ?_
    refine WL.yb rfl rfl (y2g (k:=⟨#[47]⟩) (v:=(.func (.func 57) #[] #[(.pointer (some ⟨zL,0,none⟩)),(.pointer (some ⟨zM,0,none⟩))])) y2q Try.underlying105 rfl rfl rfl rfl .here) ?_
    refine WL.a (d:=32) rfl rfl rfl (q_m rfl) ?_
    refine WL.a (d:=8) rfl rfl rfl (q_z rfl) ?_
    refine WL.nil ?_
    refine WX.a ?_
    refine WC.b ?_
    obtain ⟨zem,zw3,h⟩:=ze h
    obtain ⟨zbJ,zw4,h⟩:=ze h
    refine WC.a ?_
    refine WL.a (d:=33) rfl rfl rfl (q_m rfl) ?_
    refine WL.a (d:=34) rfl rfl rfl (q_m rfl) ?_
    refine WL.a (d:=35) rfl rfl rfl (y7x (k:=⟨#[42]⟩) (dflt:=.nilFunc) (r:=(.func (.func 56) #[] #[(.pointer (some ⟨zL,0,none⟩)),(.pointer (some ⟨zM,0,none⟩))])) y2q Try.underlying105 zgZ rfl rfl rfl .here (by rfl)) ?_
    refine WL.b (dd:=36) rfl rfl rfl (y2C (l:=[]) Try.call56 rfl .nil) (.nil : Sel [yK z7P Value.string (fun x=>x) [(⟨#[43]⟩,(.func (.func 54) #[] #[(.pointer (some ⟨zL,0,none⟩)),(.pointer (some ⟨zM,0,none⟩))])),(⟨#[45]⟩,(.func (.func 55) #[] #[(.pointer (some ⟨zL,0,none⟩)),(.pointer (some ⟨zM,0,none⟩))])),(⟨#[42]⟩,(.func (.func 56) #[] #[(.pointer (some ⟨zL,0,none⟩)),(.pointer (some ⟨zM,0,none⟩))])),(⟨#[47]⟩,(.func (.func 57) #[] #[(.pointer (some ⟨zL,0,none⟩)),(.pointer (some ⟨zM,0,none⟩))]))],stb z4s 30 [(.int .i64 0),(.int .i64 0)],stb zM 30 [(.int .i64 z17.fN),(.int .i64 z17.fD)],stb zL 30 [(.int .i64 z16.fN),(.int .i64 z16.fD)]] [] [yK z7P Value.string (fun x=>x) [(⟨#[43]⟩,(.func (.func 54) #[] #[(.pointer (some ⟨zL,0,none⟩)),(.pointer (some ⟨zM,0,none⟩))])),(⟨#[45]⟩,(.func (.func 55) #[] #[(.pointer (some ⟨zL,0,none⟩)),(.pointer (some ⟨zM,0,none⟩))])),(⟨#[42]⟩,(.func (.func 56) #[] #[(.pointer (some ⟨zL,0,none⟩)),(.pointer (some ⟨zM,0,none⟩))])),(⟨#[47]⟩,(.func (.func 57) #[] #[(.pointer (some ⟨zL,0,none⟩)),(.pointer (some ⟨zM,0,none⟩))]))],stb z4s 30 [(.int .i64 0),(.int .i64 0)],stb zM 30 [(.int .i64 z17.fN),(.int .i64 z17.fD)],stb zL 30 [(.int .i64 z16.fN),(.int .i64 z16.fD)]]) (fun w hw=>by have pz:=(hz.call hw (.nil : Sel [yK z7P Value.string (fun x=>x) [(⟨#[43]⟩,(.func (.func 54) #[] #[(.pointer (some ⟨zL,0,none⟩)),(.pointer (some ⟨zM,0,none⟩))])),(⟨#[45]⟩,(.func (.func 55) #[] #[(.pointer (some ⟨zL,0,none⟩)),(.pointer (some ⟨zM,0,none⟩))])),(⟨#[42]⟩,(.func (.func 56) #[] #[(.pointer (some ⟨zL,0,none⟩)),(.pointer (some ⟨zM,0,none⟩))])),(⟨#[47]⟩,(.func (.func 57) #[] #[(.pointer (some ⟨zL,0,none⟩)),(.pointer (some ⟨zM,0,none⟩))]))],stb z4s 30 [(.int .i64 0),(.int .i64 0)],stb zM 30 [(.int .i64 z17.fN),(.int .i64 z17.fD)],stb zL 30 [(.int .i64 z16.fN),(.int .i64 z16.fD)]] [] [yK z7P Value.string (fun x=>x) [(⟨#[43]⟩,(.func (.func 54) #[] #[(.pointer (some ⟨zL,0,none⟩)),(.pointer (some ⟨zM,0,none⟩))])),(⟨#[45]⟩,(.func (.func 55) #[] #[(.pointer (some ⟨zL,0,none⟩)),(.pointer (some ⟨zM,0,none⟩))])),(⟨#[42]⟩,(.func (.func 56) #[] #[(.pointer (some ⟨zL,0,none⟩)),(.pointer (some ⟨zM,0,none⟩))])),(⟨#[47]⟩,(.func (.func 57) #[] #[(.pointer (some ⟨zL,0,none⟩)),(.pointer (some ⟨zM,0,none⟩))]))],stb z4s 30 [(.int .i64 0),(.int .i64 0)],stb zM 30 [(.int .i64 z17.fN),(.int .i64 z17.fD)],stb zL 30 [(.int .i64 z16.fN),(.int .i64 z16.fD)]])).lend hw (.nil : Sel [yK z7P Value.string (fun x=>x) [(⟨#[43]⟩,(.func (.func 54) #[] #[(.pointer (some ⟨zL,0,none⟩)),(.pointer (some ⟨zM,0,none⟩))])),(⟨#[45]⟩,(.func (.func 55) #[] #[(.pointer (some ⟨zL,0,none⟩)),(.pointer (some ⟨zM,0,none⟩))])),(⟨#[42]⟩,(.func (.func 56) #[] #[(.pointer (some ⟨zL,0,none⟩)),(.pointer (some ⟨zM,0,none⟩))])),(⟨#[47]⟩,(.func (.func 57) #[] #[(.pointer (some ⟨zL,0,none⟩)),(.pointer (some ⟨zM,0,none⟩))]))],stb z4s 30 [(.int .i64 0),(.int .i64 0)],stb zM 30 [(.int .i64 z17.fN),(.int .i64 z17.fD)],stb zL 30 [(.int .i64 z16.fN),(.int .i64 z16.fD)]] [] [yK z7P Value.string (fun x=>x) [(⟨#[43]⟩,(.func (.func 54) #[] #[(.pointer (some ⟨zL,0,none⟩)),(.pointer (some ⟨zM,0,none⟩))])),(⟨#[45]⟩,(.func (.func 55) #[] #[(.pointer (some ⟨zL,0,none⟩)),(.pointer (some ⟨zM,0,none⟩))])),(⟨#[42]⟩,(.func (.func 56) #[] #[(.pointer (some ⟨zL,0,none⟩)),(.pointer (some ⟨zM,0,none⟩))])),(⟨#[47]⟩,(.func (.func 57) #[] #[(.pointer (some ⟨zL,0,none⟩)),(.pointer (some ⟨zM,0,none⟩))]))],stb z4s 30 [(.int .i64 0),(.int .i64 0)],stb zM 30 [(.int .i64 z17.fN),(.int .i64 z17.fD)],stb zL 30 [(.int .i64 z16.fN),(.int .i64 z16.fD)]]) (B:=[stb zL 30 [(.int .i64 z16.fN),(.int .i64 z16.fD)],stb zM 30 [(.int .i64 z17.fN),(.int .i64 z17.fD)]]) (fun _ hx'=>((.cons .h3 (.cons .h2 .nil)) : Sel _ [stb zL 30 [(.int .i64 z16.fN),(.int .i64 z16.fD)],stb zM 30 [(.int .i64 z17.fN),(.int .i64 z17.fD)]] _).mem hx'); exact ya3 (Z:=_) (zg1:=⟨zL,0,none⟩) (zg2:=⟨zM,0,none⟩) (zcS:=z16) (zcT:=z17) (r:=zem) w pz ((hw.lent (.nil : Sel [yK z7P Value.string (fun x=>x) [(⟨#[43]⟩,(.func (.func 54) #[] #[(.pointer (some ⟨zL,0,none⟩)),(.pointer (some ⟨zM,0,none⟩))])),(⟨#[45]⟩,(.func (.func 55) #[] #[(.pointer (some ⟨zL,0,none⟩)),(.pointer (some ⟨zM,0,none⟩))])),(⟨#[42]⟩,(.func (.func 56) #[] #[(.pointer (some ⟨zL,0,none⟩)),(.pointer (some ⟨zM,0,none⟩))])),(⟨#[47]⟩,(.func (.func 57) #[] #[(.pointer (some ⟨zL,0,none⟩)),(.pointer (some ⟨zM,0,none⟩))]))],stb z4s 30 [(.int .i64 0),(.int .i64 0)],stb zM 30 [(.int .i64 z17.fN),(.int .i64 z17.fD)],stb zL 30 [(.int .i64 z16.fN),(.int .i64 z16.fD)]] [] [yK z7P Value.string (fun x=>x) [(⟨#[43]⟩,(.func (.func 54) #[] #[(.pointer (some ⟨zL,0,none⟩)),(.pointer (some ⟨zM,0,none⟩))])),(⟨#[45]⟩,(.func (.func 55) #[] #[(.pointer (some ⟨zL,0,none⟩)),(.pointer (some ⟨zM,0,none⟩))])),(⟨#[42]⟩,(.func (.func 56) #[] #[(.pointer (some ⟨zL,0,none⟩)),(.pointer (some ⟨zM,0,none⟩))])),(⟨#[47]⟩,(.func (.func 57) #[] #[(.pointer (some ⟨zL,0,none⟩)),(.pointer (some ⟨zM,0,none⟩))]))],stb z4s 30 [(.int .i64 0),(.int .i64 0)],stb zM 30 [(.int .i64 z17.fN),(.int .i64 z17.fD)],stb zL 30 [(.int .i64 z16.fN),(.int .i64 z16.fD)]]) (B:=[stb zL 30 [(.int .i64 z16.fN),(.int .i64 z16.fD)],stb zM 30 [(.int .i64 z17.fN),(.int .i64 z17.fD)]]) (fun _ hx'=>((.cons .h3 (.cons .h2 .nil)) : Sel _ [stb zL 30 [(.int .i64 z16.fN),(.int .i64 z16.fD)],stb zM 30 [(.int .i64 z17.fN),(.int .i64 z17.fD)]] _).mem hx') (.head _) _).stb) ((hw.lent (.nil : Sel [yK z7P Value.string (fun x=>x) [(⟨#[43]⟩,(.func (.func 54) #[] #[(.pointer (some ⟨zL,0,none⟩)),(.pointer (some ⟨zM,0,none⟩))])),(⟨#[45]⟩,(.func (.func 55) #[] #[(.pointer (some ⟨zL,0,none⟩)),(.pointer (some ⟨zM,0,none⟩))])),(⟨#[42]⟩,(.func (.func 56) #[] #[(.pointer (some ⟨zL,0,none⟩)),(.pointer (some ⟨zM,0,none⟩))])),(⟨#[47]⟩,(.func (.func 57) #[] #[(.pointer (some ⟨zL,0,none⟩)),(.pointer (some ⟨zM,0,none⟩))]))],stb z4s 30 [(.int .i64 0),(.int .i64 0)],stb zM 30 [(.int .i64 z17.fN),(.int .i64 z17.fD)],stb zL 30 [(.int .i64 z16.fN),(.int .i64 z16.fD)]] [] [yK z7P Value.string (fun x=>x) [(⟨#[43]⟩,(.func (.func 54) #[] #[(.pointer (some ⟨zL,0,none⟩)),(.pointer (some ⟨zM,0,none⟩))])),(⟨#[45]⟩,(.func (.func 55) #[] #[(.pointer (some ⟨zL,0,none⟩)),(.pointer (some ⟨zM,0,none⟩))])),(⟨#[42]⟩,(.func (.func 56) #[] #[(.pointer (some ⟨zL,0,none⟩)),(.pointer (some ⟨zM,0,none⟩))])),(⟨#[47]⟩,(.func (.func 57) #[] #[(.pointer (some ⟨zL,0,none⟩)),(.pointer (some ⟨zM,0,none⟩))]))],stb z4s 30 [(.int .i64 0),(.int .i64 0)],stb zM 30 [(.int .i64 z17.fN),(.int .i64 z17.fD)],stb zL 30 [(.int .i64 z16.fN),(.int .i64 z16.fD)]]) (B:=[stb zL 30 [(.int .i64 z16.fN),(.int .i64 z16.fD)],stb zM 30 [(.int .i64 z17.fN),(.int .i64 z17.fD)]]) (fun _ hx'=>((.cons .h3 (.cons .h2 .nil)) : Sel _ [stb zL 30 [(.int .i64 z16.fN),(.int .i64 z16.fD)],stb zM 30 [(.int .i64 z17.fN),(.int .i64 z17.fD)]] _).mem hx') (.tail _ (.head _)) _).stb) zw3) ?_
    refine WL.a (d:=37) rfl rfl rfl (yf rfl rfl) ?_
    refine WL.a (d:=38) rfl rfl rfl (yf rfl rfl) ?_
    refine WL.b (dd:=39) rfl rfl rfl (zj (l:=[.tmp 37,.tmp 38]) Try.call9 (.cons rfl (.cons rfl .nil))) (.nil : Sel [yK z7P Value.string (fun x=>x) [(⟨#[43]⟩,(.func (.func 54) #[] #[(.pointer (some ⟨zL,0,none⟩)),(.pointer (some ⟨zM,0,none⟩))])),(⟨#[45]⟩,(.func (.func 55) #[] #[(.pointer (some ⟨zL,0,none⟩)),(.pointer (some ⟨zM,0,none⟩))])),(⟨#[42]⟩,(.func (.func 56) #[] #[(.pointer (some ⟨zL,0,none⟩)),(.pointer (some ⟨zM,0,none⟩))])),(⟨#[47]⟩,(.func (.func 57) #[] #[(.pointer (some ⟨zL,0,none⟩)),(.pointer (some ⟨zM,0,none⟩))]))],stb z4s 30 [(.int .i64 0),(.int .i64 0)],stb zM 30 [(.int .i64 z17.fN),(.int .i64 z17.fD)],stb zL 30 [(.int .i64 z16.fN),(.int .i64 z16.fD)]] [] [yK z7P Value.string (fun x=>x) [(⟨#[43]⟩,(.func (.func 54) #[] #[(.pointer (some ⟨zL,0,none⟩)),(.pointer (some ⟨zM,0,none⟩))])),(⟨#[45]⟩,(.func (.func 55) #[] #[(.pointer (some ⟨zL,0,none⟩)),(.pointer (some ⟨zM,0,none⟩))])),(⟨#[42]⟩,(.func (.func 56) #[] #[(.pointer (some ⟨zL,0,none⟩)),(.pointer (some ⟨zM,0,none⟩))])),(⟨#[47]⟩,(.func (.func 57) #[] #[(.pointer (some ⟨zL,0,none⟩)),(.pointer (some ⟨zM,0,none⟩))]))],stb z4s 30 [(.int .i64 0),(.int .i64 0)],stb zM 30 [(.int .i64 z17.fN),(.int .i64 z17.fD)],stb zL 30 [(.int .i64 z16.fN),(.int .i64 z16.fD)]]) (fun w hw=>by have pz:=(hz.call hw (.nil : Sel [yK z7P Value.string (fun x=>x) [(⟨#[43]⟩,(.func (.func 54) #[] #[(.pointer (some ⟨zL,0,none⟩)),(.pointer (some ⟨zM,0,none⟩))])),(⟨#[45]⟩,(.func (.func 55) #[] #[(.pointer (some ⟨zL,0,none⟩)),(.pointer (some ⟨zM,0,none⟩))])),(⟨#[42]⟩,(.func (.func 56) #[] #[(.pointer (some ⟨zL,0,none⟩)),(.pointer (some ⟨zM,0,none⟩))])),(⟨#[47]⟩,(.func (.func 57) #[] #[(.pointer (some ⟨zL,0,none⟩)),(.pointer (some ⟨zM,0,none⟩))]))],stb z4s 30 [(.int .i64 0),(.int .i64 0)],stb zM 30 [(.int .i64 z17.fN),(.int .i64 z17.fD)],stb zL 30 [(.int .i64 z16.fN),(.int .i64 z16.fD)]] [] [yK z7P Value.string (fun x=>x) [(⟨#[43]⟩,(.func (.func 54) #[] #[(.pointer (some ⟨zL,0,none⟩)),(.pointer (some ⟨zM,0,none⟩))])),(⟨#[45]⟩,(.func (.func 55) #[] #[(.pointer (some ⟨zL,0,none⟩)),(.pointer (some ⟨zM,0,none⟩))])),(⟨#[42]⟩,(.func (.func 56) #[] #[(.pointer (some ⟨zL,0,none⟩)),(.pointer (some ⟨zM,0,none⟩))])),(⟨#[47]⟩,(.func (.func 57) #[] #[(.pointer (some ⟨zL,0,none⟩)),(.pointer (some ⟨zM,0,none⟩))]))],stb z4s 30 [(.int .i64 0),(.int .i64 0)],stb zM 30 [(.int .i64 z17.fN),(.int .i64 z17.fD)],stb zL 30 [(.int .i64 z16.fN),(.int .i64 z16.fD)]])); exact y51 (Z:=_)  (z7F:=zem.1) (z7m:=zem.2) (r:=zbJ) w pz  zw4) ?_
    refine WL.a (d:=40) rfl rfl rfl (yf rfl rfl) ?_
    refine WL.a (d:=41) rfl rfl rfl (yf rfl rfl) ?_
    refine WL.yb rfl rfl (yc (vs:=[(.int .i64 zbJ.1.fN),(.int .i64 zbJ.1.fD)]) (ds:=[(.int .i64 zbJ.1.fN),(.int .i64 zbJ.1.fD)]) yo rfl rfl rfl rfl (y2 rfl (y2 rfl yk)) .h1 (Nat.le_of_ble_eq_true rfl) rfl) ?_
    refine WL.a (d:=7) rfl rfl rfl (q_z rfl) ?_
    refine WL.nil ?_
    refine WX.a ?_
    refine WC.ret ?_
    obtain rfl:=Option.some.inj h
    refine WX.y7 Try.results40 (.agg rfl y5 rfl (y8 .here) (.tmp rfl .nil)) (fun w hw=>?_)
    exact ⟨y1M rfl rfl,hw.sub .nil⟩
def y3F (z4S : z7) (z4T : z7) : Option (z7 × Int) :=
 (y6s z4S z4T).bind fun zbK=>some (zbK.1,zbK.2)
set_option maxRecDepth 20000 in
theorem y8x (Z : Zp)   (z4S : z7) (z4T : z7) (r : z7 × Int) (w₀ : World) (hz : PZ [] w₀ Z)
  (h : y3F z4S z4T = some r) :
  Calls Try.prog 25 #[(.agg #[(.int .i64 z4S.fN),(.int .i64 z4S.fD)]),(.agg #[(.int .i64 z4T.fN),(.int .i64 z4T.fD)])] w₀ fun e w'=>e = .returned (.tuple #[(.agg #[(.int .i64 r.1.fN),(.int .i64 r.1.fD)]),(.int .i64 r.2)]) ∧ Hp [] w₀ w' []:=by
 unfold y3F at h
 refine Calls.yd (vs:=[(.agg #[(.int .i64 z4S.fN),(.int .i64 z4S.fD)]),(.agg #[(.int .i64 z4T.fN),(.int .i64 z4T.fD)])]) (pre:=[]) (env:=[(0,(.agg #[(.int .i64 z4S.fN),(.int .i64 z4S.fD)])),(1,(.agg #[(.int .i64 z4T.fN),(.int .i64 z4T.fD)]))]) Try.func25 rfl Try.ntmps25 rfl (Hp.nil w₀ _) rfl ?_
 refine WC.b ?_
 refine WC.a ?_
 refine WL.new (dd:=2) rfl rfl rfl (yI (cs:=[(.int .i64 z4S.fN),(.int .i64 z4S.fD)]) rfl rfl) ?_
 intro zi0 _
 refine WL.new (dd:=3) rfl rfl rfl (yI (cs:=[(.int .i64 z4T.fN),(.int .i64 z4T.fD)]) rfl rfl) ?_
 intro zi1 _
 refine WL.new (dd:=4) rfl rfl rfl (ym (cs:=[(.int .i64 0),(.int .i64 0)]) yt rfl) ?_
 intro zi2 _
 refine WL.a (d:=5) rfl rfl rfl (q_z rfl) ?_
 refine WL.nil ?_
 refine WX.a ?_
 refine WC.b ?_
 obtain ⟨zbK,zw5,h⟩:=ze h
 refine WC.a ?_
 refine WL.a (d:=6) rfl rfl rfl (y4 (cs:=[(.int .i64 z4S.fN),(.int .i64 z4S.fD)]) y5 rfl rfl (y8 .h2)) ?_
 refine WL.a (d:=7) rfl rfl rfl (y4 (cs:=[(.int .i64 z4T.fN),(.int .i64 z4T.fD)]) y5 rfl rfl (y8 .h1)) ?_
 refine WL.b (dd:=8) rfl rfl rfl (zj (l:=[.const (.string ⟨#[42]⟩),.tmp 6,.tmp 7]) Try.call40 (.cons rfl (.cons rfl (.cons rfl .nil)))) (.nil : Sel [stb zi2 30 [(.int .i64 0),(.int .i64 0)],stb zi1 30 [(.int .i64 z4T.fN),(.int .i64 z4T.fD)],stb zi0 30 [(.int .i64 z4S.fN),(.int .i64 z4S.fD)]] [] [stb zi2 30 [(.int .i64 0),(.int .i64 0)],stb zi1 30 [(.int .i64 z4T.fN),(.int .i64 z4T.fD)],stb zi0 30 [(.int .i64 z4S.fN),(.int .i64 z4S.fD)]]) (fun w hw=>by have pz:=(hz.call hw (.nil : Sel [stb zi2 30 [(.int .i64 0),(.int .i64 0)],stb zi1 30 [(.int .i64 z4T.fN),(.int .i64 z4T.fD)],stb zi0 30 [(.int .i64 z4S.fN),(.int .i64 z4S.fD)]] [] [stb zi2 30 [(.int .i64 0),(.int .i64 0)],stb zi1 30 [(.int .i64 z4T.fN),(.int .i64 z4T.fD)],stb zi0 30 [(.int .i64 z4S.fN),(.int .i64 z4S.fD)]])); exact yap (Z:=_)  (z16:=z4S) (z17:=z4T) (r:=zbK) w pz  zw5) ?_
 refine WL.a (d:=9) rfl rfl rfl (yf rfl rfl) ?_
 refine WL.a (d:=10) rfl rfl rfl (yf rfl rfl) ?_
 refine WL.yb rfl rfl (yc (vs:=[(.int .i64 zbK.1.fN),(.int .i64 zbK.1.fD)]) (ds:=[(.int .i64 zbK.1.fN),(.int .i64 zbK.1.fD)]) yo rfl rfl rfl rfl (y2 rfl (y2 rfl yk)) .here (Nat.le_of_ble_eq_true rfl) rfl) ?_
 refine WL.a (d:=5) rfl rfl rfl (q_z rfl) ?_
 refine WL.nil ?_
 refine WX.a ?_
 refine WC.ret ?_
 obtain rfl:=Option.some.inj h
 refine WX.y7 Try.results25 (.agg rfl y5 rfl (y8 .here) (.tmp rfl .nil)) (fun w hw=>?_)
 exact ⟨y1M rfl rfl,hw.sub .nil⟩
def y1s (z7e : z2h) (zW : z6) (z2Y : z7) : Option (z7 × z2h) :=
 (y1j z7e (fun (y0 : z7) (y1 : z7)=>y3F y0 y1) zW.fR z2Y).bind fun z8A=>(y1j z8A.2 (fun (y0 : z7) (y1 : z7)=>y1l y0 y1) zW.fB z8A.1).bind fun zbL=>some (zbL.1,zbL.2)
set_option maxRecDepth 20000 in
theorem y7l (Z : Zp)  (z4U : Nat) (z7e : z2h) (zW : z6) (z2Y : z7) (r : z7 × z2h) (w₀ : World) (hz : PZ (fps [stb z4U 90 [(.int .i64 z7e.fE)]]) w₀ Z)
  (h : y1s z7e zW z2Y = some r)
  (hown : Hp (fps [stb z4U 90 [(.int .i64 z7e.fE)]]) w₀ w₀ [stb z4U 90 [(.int .i64 z7e.fE)]]) :
  Calls Try.prog 45 #[(.pointer (some ⟨z4U,0,none⟩)),(.agg #[(.int .i64 zW.fB.fN),(.int .i64 zW.fB.fD),(.int .i64 zW.fR.fN),(.int .i64 zW.fR.fD)]),(.agg #[(.int .i64 z2Y.fN),(.int .i64 z2Y.fD)])] w₀ fun e w'=>e = .returned (.agg #[(.int .i64 r.1.fN),(.int .i64 r.1.fD)]) ∧ Hp (fps [stb z4U 90 [(.int .i64 z7e.fE)]]) w₀ w' [stb z4U 90 [(.int .i64 r.2.fE)]]:=by
 unfold y1s at h
 refine Calls.yd (vs:=[(.pointer (some ⟨z4U,0,none⟩)),(.agg #[(.int .i64 zW.fB.fN),(.int .i64 zW.fB.fD),(.int .i64 zW.fR.fN),(.int .i64 zW.fR.fD)]),(.agg #[(.int .i64 z2Y.fN),(.int .i64 z2Y.fD)])]) (pre:=[stb z4U 90 [(.int .i64 z7e.fE)]]) (env:=[(0,(.pointer (some ⟨z4U,0,none⟩))),(1,(.agg #[(.int .i64 zW.fB.fN),(.int .i64 zW.fB.fD),(.int .i64 zW.fR.fN),(.int .i64 zW.fR.fD)])),(2,(.agg #[(.int .i64 z2Y.fN),(.int .i64 z2Y.fD)]))]) Try.func45 rfl Try.ntmps45 rfl (hown) rfl ?_
 refine WC.b ?_
 refine WC.a ?_
 refine WL.new (dd:=4) rfl rfl rfl (yI (cs:=[(.int .i64 zW.fB.fN),(.int .i64 zW.fB.fD),(.int .i64 zW.fR.fN),(.int .i64 zW.fR.fD)]) rfl rfl) ?_
 intro z88 _
 refine WL.new (dd:=5) rfl rfl rfl (yI (cs:=[(.int .i64 z2Y.fN),(.int .i64 z2Y.fD)]) rfl rfl) ?_
 intro z8B _
 refine WL.new (dd:=6) rfl rfl rfl (ym (cs:=[(.int .i64 0),(.int .i64 0)]) yt rfl) ?_
 intro z8C _
 refine WL.nil ?_
 refine WX.a ?_
 refine WC.b ?_
 obtain ⟨z8A,zw6,h⟩:=ze h
 obtain ⟨zbL,zw7,h⟩:=ze h
 refine WC.yY (fun i=>[7,8,9].contains i) [stb z88 35 [(.int .i64 zW.fB.fN),(.int .i64 zW.fB.fD),(.int .i64 zW.fR.fN),(.int .i64 zW.fR.fD)]] rfl ?_
 refine WD.a (i:=0) (d:=7) (by kernel_rfl) rfl (z8 (by kernel_rfl)) (za (by kernel_rfl)) rfl rfl rfl (fun _=>q_m rfl) ?_
 refine WD.a (i:=1) (d:=8) (by kernel_rfl) rfl (z8 (by kernel_rfl)) (za (by kernel_rfl)) rfl rfl rfl (fun _=>y3 y3Y rfl rfl) ?_
 refine WD.y2B (i:=2) (d:=9) (by kernel_rfl) rfl (z8 (by kernel_rfl)) (za (by kernel_rfl)) rfl rfl rfl (Sin.of (.cons .h2 .nil)) (y4 (cs:=[(.int .i64 zW.fB.fN),(.int .i64 zW.fB.fD)]) y5 rfl rfl (y1U (s:=2) .here rfl)) ?_
 refine WD.a (i:=3) (d:=10) (by kernel_rfl) rfl (z8 (by kernel_rfl)) (za (by kernel_rfl)) rfl rfl rfl (fun _=>q_m rfl) ?_
 refine WD.a (i:=4) (d:=11) (by kernel_rfl) rfl (z8 (by kernel_rfl)) (za (by kernel_rfl)) rfl rfl rfl (fun _=>y3 y4P rfl rfl) ?_
 refine WD.e (i:=5) (d:=12) (by kernel_rfl) rfl (z8 (by kernel_rfl)) (za (by kernel_rfl)) rfl rfl rfl (y4 (cs:=[(.int .i64 zW.fR.fN),(.int .i64 zW.fR.fD)]) y5 rfl rfl (y1U (s:=2) .h2 rfl)) ?_
 refine WD.e (i:=6) (d:=13) (by kernel_rfl) rfl (z8 (by kernel_rfl)) (za (by kernel_rfl)) rfl rfl rfl (y4 (cs:=[(.int .i64 z2Y.fN),(.int .i64 z2Y.fD)]) y5 rfl rfl (y8 .h1)) ?_
 refine WD.call0 (i:=7) (dd:=14) rfl (by kernel_rfl) rfl rfl rfl (.inl ⟨rfl,(Sin.of (.cons .h3 .nil))⟩) (zj (l:=[.tmp 10,.func 25,.tmp 12,.tmp 13]) Try.call58 (.cons rfl (.cons rfl (.cons rfl (.cons rfl .nil))))) ((.cons .h3 .nil) : Sel [stb z8C 30 [(.int .i64 0),(.int .i64 0)],stb z8B 30 [(.int .i64 z2Y.fN),(.int .i64 z2Y.fD)],stb z88 35 [(.int .i64 zW.fB.fN),(.int .i64 zW.fB.fD),(.int .i64 zW.fR.fN),(.int .i64 zW.fR.fD)],stb z4U 90 [(.int .i64 z7e.fE)]] [stb z4U 90 [(.int .i64 z7e.fE)]] [stb z8C 30 [(.int .i64 0),(.int .i64 0)],stb z8B 30 [(.int .i64 z2Y.fN),(.int .i64 z2Y.fD)],stb z88 35 [(.int .i64 zW.fB.fN),(.int .i64 zW.fB.fD),(.int .i64 zW.fR.fN),(.int .i64 zW.fR.fD)]]) (fun w hw=>by have pz:=(hz.call hw ((.cons .h3 .nil) : Sel [stb z8C 30 [(.int .i64 0),(.int .i64 0)],stb z8B 30 [(.int .i64 z2Y.fN),(.int .i64 z2Y.fD)],stb z88 35 [(.int .i64 zW.fB.fN),(.int .i64 zW.fB.fD),(.int .i64 zW.fR.fN),(.int .i64 zW.fR.fD)],stb z4U 90 [(.int .i64 z7e.fE)]] [stb z4U 90 [(.int .i64 z7e.fE)]] [stb z8C 30 [(.int .i64 0),(.int .i64 0)],stb z8B 30 [(.int .i64 z2Y.fN),(.int .i64 z2Y.fD)],stb z88 35 [(.int .i64 zW.fB.fN),(.int .i64 zW.fB.fD),(.int .i64 zW.fR.fN),(.int .i64 zW.fR.fD)]])); exact Calls.mono (y3l (Z:=_) (z7I:=z4U) (z8p:=25) (z9r:=[]) (z7H:=z7e) (zal:=(fun (y0 : z7) (y1 : z7)=>y3F y0 y1)) (z5W:=zW.fR) (z5X:=z2Y) (r:=z8A) w pz Try.call25 (fun w' hz' y0 y1  r  hr=>y8x (Z:=_)  (z4S:=y0) (z4T:=y1) (r:=r) w' hz'  hr) zw6 (hw.owns ((.cons .h3 .nil) : Sel [stb z8C 30 [(.int .i64 0),(.int .i64 0)],stb z8B 30 [(.int .i64 z2Y.fN),(.int .i64 z2Y.fD)],stb z88 35 [(.int .i64 zW.fB.fN),(.int .i64 zW.fB.fD),(.int .i64 zW.fR.fN),(.int .i64 zW.fR.fD)],stb z4U 90 [(.int .i64 z7e.fE)]] [stb z4U 90 [(.int .i64 z7e.fE)]] [stb z8C 30 [(.int .i64 0),(.int .i64 0)],stb z8B 30 [(.int .i64 z2Y.fN),(.int .i64 z2Y.fD)],stb z88 35 [(.int .i64 zW.fB.fN),(.int .i64 zW.fB.fD),(.int .i64 zW.fR.fN),(.int .i64 zW.fR.fD)]]))) (fun _ _ h'=>⟨h'.1,trivial,h'.2⟩)) ?_
 intro _
 refine WD.call0 (i:=8) (dd:=15) rfl (by kernel_rfl) rfl rfl rfl (.inl ⟨rfl,(Sin.of (.cons .h3 .nil))⟩) (zj (l:=[.tmp 7,.func 19,.tmp 9,.tmp 14]) Try.call58 (.cons rfl (.cons rfl (.cons rfl (.cons rfl .nil))))) ((.cons .here .nil) : Sel [stb z4U 90 [(.int .i64 z8A.2.fE)],stb z8C 30 [(.int .i64 0),(.int .i64 0)],stb z8B 30 [(.int .i64 z2Y.fN),(.int .i64 z2Y.fD)],stb z88 35 [(.int .i64 zW.fB.fN),(.int .i64 zW.fB.fD),(.int .i64 zW.fR.fN),(.int .i64 zW.fR.fD)]] [stb z4U 90 [(.int .i64 z8A.2.fE)]] [stb z8C 30 [(.int .i64 0),(.int .i64 0)],stb z8B 30 [(.int .i64 z2Y.fN),(.int .i64 z2Y.fD)],stb z88 35 [(.int .i64 zW.fB.fN),(.int .i64 zW.fB.fD),(.int .i64 zW.fR.fN),(.int .i64 zW.fR.fD)]]) (fun w hw=>by have pz:=(hz.call hw ((.cons .here .nil) : Sel [stb z4U 90 [(.int .i64 z8A.2.fE)],stb z8C 30 [(.int .i64 0),(.int .i64 0)],stb z8B 30 [(.int .i64 z2Y.fN),(.int .i64 z2Y.fD)],stb z88 35 [(.int .i64 zW.fB.fN),(.int .i64 zW.fB.fD),(.int .i64 zW.fR.fN),(.int .i64 zW.fR.fD)]] [stb z4U 90 [(.int .i64 z8A.2.fE)]] [stb z8C 30 [(.int .i64 0),(.int .i64 0)],stb z8B 30 [(.int .i64 z2Y.fN),(.int .i64 z2Y.fD)],stb z88 35 [(.int .i64 zW.fB.fN),(.int .i64 zW.fB.fD),(.int .i64 zW.fR.fN),(.int .i64 zW.fR.fD)]])); exact Calls.mono (y3l (Z:=_) (z7I:=z4U) (z8p:=19) (z9r:=[]) (z7H:=z8A.2) (zal:=(fun (y0 : z7) (y1 : z7)=>y1l y0 y1)) (z5W:=zW.fB) (z5X:=z8A.1) (r:=zbL) w pz Try.call19 (fun w' hz' y0 y1  r  hr=>y4R (Z:=_)  (z3T:=y0) (z3U:=y1) (r:=r) w' hz'  hr) zw7 (hw.owns ((.cons .here .nil) : Sel [stb z4U 90 [(.int .i64 z8A.2.fE)],stb z8C 30 [(.int .i64 0),(.int .i64 0)],stb z8B 30 [(.int .i64 z2Y.fN),(.int .i64 z2Y.fD)],stb z88 35 [(.int .i64 zW.fB.fN),(.int .i64 zW.fB.fD),(.int .i64 zW.fR.fN),(.int .i64 zW.fR.fD)]] [stb z4U 90 [(.int .i64 z8A.2.fE)]] [stb z8C 30 [(.int .i64 0),(.int .i64 0)],stb z8B 30 [(.int .i64 z2Y.fN),(.int .i64 z2Y.fD)],stb z88 35 [(.int .i64 zW.fB.fN),(.int .i64 zW.fB.fD),(.int .i64 zW.fR.fN),(.int .i64 zW.fR.fD)]]))) (fun _ _ h'=>⟨h'.1,trivial,h'.2⟩)) ?_
 intro _
 refine WD.y6P (i:=9) rfl (by kernel_rfl) rfl rfl rfl (by kernel_rfl) (yc (vs:=[(.int .i64 zbL.1.fN),(.int .i64 zbL.1.fD)]) (ds:=[(.int .i64 zbL.1.fN),(.int .i64 zbL.1.fD)]) yo rfl rfl rfl rfl (y2 rfl (y2 rfl yk)) .h1 (Nat.le_of_ble_eq_true rfl) rfl) ?_
 refine WD.done (by kernel_rfl) ?_
 refine WX.a ?_
 refine WC.ret ?_
 obtain rfl:=Option.some.inj h
 refine WX.y7 Try.results45 (.agg rfl y5 rfl (y8 .here) .nil) (fun w hw=>?_)
 exact ⟨yD rfl,hw.sub (.cons .h1 .nil)⟩
def yQ (z2j : List z7) (z99 : z7 → z7 → Option Int) (zaE : Int → Int → Option z7) : Nat → Int → Int → Int → Option z7
 | 0,_,_,_=>none
 | zlM + 1,z3p,z7f,z7g=>if decide (z3p < ((z2j.length : Nat) : Int)) then jp2 (fun (zaF : Int) (zaG : Int)=>yQ z2j z99 zaE zlM (i64 (z3p + 1)) zaF zaG) fun zi3=>chk ((0 : Int) ≤ z3p ∧ z3p < ((z2j.length : Nat) : Int)) ((z99 (⟨((nth z2j z3p).fN),((nth z2j z3p).fD)⟩ : z7) (⟨z7f,z7g⟩ : z7)).bind fun zlN=>if decide (zlN < 0) then chk ((0 : Int) ≤ z3p ∧ z3p < ((z2j.length : Nat) : Int)) (zi3 ((nth z2j z3p).fN) ((nth z2j z3p).fD)) else zi3 z7f z7g) else zaE z7f z7g
theorem y3M {n : Nat} {z2j : List z7} {z99 : z7 → z7 → Option Int} {zaE : Int → Int → Option z7} {z3p : Int} {z7f : Int} {z7g : Int} {r : z7} (h : yQ z2j z99 zaE n z3p z7f z7g = some r) : ∃ m,n = m + 1:=by
 cases n with
 | zero=>cases h
 | succ m=>exact ⟨m,rfl⟩
def y1v (z2j : List z7) (z99 : z7 → z7 → Option Int) : Option z7 :=
 if decide (((z2j.length : Nat) : Int) < 1) then none else chk ((0 : Int) ≤ 0 ∧ 0 < ((z2j.length : Nat) : Int)) (jp2 (fun (z9a : Int) (z9b : Int)=>some (⟨z9a,z9b⟩ : z7)) fun zaE=>yQ z2j z99 zaE yu 1 ((nth z2j 0).fN) ((nth z2j 0).fD))
set_option maxRecDepth 20000 in
theorem y4H (Z : Zp)  (zcU : Option Addr) (zcV : Nat) (z9B : FuncId) (zbM : List Value) (z2j : List z7) (z99 : z7 → z7 → Option Int) (r : z7) (w₀ : World) (hz : PZ [] w₀ Z)
  (zlO : ZS Z 2 (fun r x=>r = e30 x) zcU zcV z2j)
  (zw8 : ∀ args w,(callFunc z9B args).run Try.prog w = .ok (.enter z9B args) w)
  (zw9 : ∀ w : World,PZ [] w Z → ∀ (x0 : z7) (x1 : z7) (r : Int),z99 x0 x1 = some r → Calls Try.prog z9B (([(.agg #[(.int .i64 x0.fN),(.int .i64 x0.fD)]),(.agg #[(.int .i64 x1.fN),(.int .i64 x1.fD)])] : List Value) ++ zbM).toArray w fun e w'=>e = .returned (.int .i64 r) ∧ Hp [] w w' [])
  (h : y1v z2j z99 = some r) :
  Calls Try.prog 46 #[(.slice zcU z2j.length zcV),(.func (.func z9B) #[] (zbM).toArray)] w₀ fun e w'=>e = .returned (.agg #[(.int .i64 r.fN),(.int .i64 r.fD)]) ∧ Hp [] w₀ w' []:=by
 unfold y1v at h
 refine Calls.yd (vs:=[(.slice zcU z2j.length zcV),(.func (.func z9B) #[] (zbM).toArray)]) (pre:=[]) (env:=[(0,(.slice zcU z2j.length zcV)),(1,(.func (.func z9B) #[] (zbM).toArray))]) Try.func46 rfl Try.ntmps46 rfl (Hp.nil w₀ _) rfl ?_
 refine WC.b ?_
 refine WC.a ?_
 refine WL.new (dd:=4) rfl rfl rfl (ym (cs:=[(.int .i64 0),(.int .i64 0)]) yt rfl) ?_
 intro zen _
 refine WL.nil ?_
 refine WX.a ?_
 refine WC.b ?_
 refine WC.b ?_
 refine WC.a ?_
 refine WL.a (d:=7) rfl rfl rfl (q_m rfl) ?_
 refine WL.a (d:=8) rfl rfl rfl (y10 Try.underlying77 rfl) ?_
 refine WL.a (d:=9) rfl rfl rfl (y1c rfl rfl) ?_
 refine WL.nil ?_
 refine WX.a ?_
 refine WC.cond rfl (fun zlP=>?_) (fun zlP=>?_)
 ·replace h:=yh h zlP
  cases h
 ·replace h:=yi h zlP
  refine WC.skip ?_
  refine WX.a ?_
  refine WC.b ?_
  obtain ⟨zwa,h⟩:=yl h
  refine WC.a ?_
  refine WL.a (d:=11) rfl rfl rfl (q_m rfl) ?_
  refine WL.znth (dd:=12) rfl rfl (Z:=Z) (Pr:=(fun r x=>r = e30 x)) y1K rfl rfl zlO zwa ?_
  rintro zBD zBE zwb zBF rfl
  refine WL.a (d:=13) rfl rfl rfl (y4 (cs:=[(.int .i64 ((nth z2j 0).fN)),(.int .i64 ((nth z2j 0).fD))]) y5 rfl rfl (y2P hz.pv zwb)) ?_
  refine WL.new (dd:=5) rfl rfl rfl (ym (cs:=[(.int .i64 0),(.int .i64 0)]) yt rfl) ?_
  intro zeo _
  refine WL.yb rfl rfl (yc (vs:=[(.int .i64 ((nth z2j 0).fN)),(.int .i64 ((nth z2j 0).fD))]) (ds:=[(.int .i64 ((nth z2j 0).fN)),(.int .i64 ((nth z2j 0).fD))]) yo rfl rfl rfl rfl (y2 rfl (y2 rfl yk)) .here (Nat.le_of_ble_eq_true rfl) rfl) ?_
  refine WL.nil ?_
  refine WX.a ?_
  obtain ⟨zaE,zwc,h⟩:=y4b h
  refine WC.y3G (fun (z9a : Int) (z9b : Int)=>(zaE z9a z9b = some r)) (fun (z9a : Int) (z9b : Int)=>[(4,(.pointer (some ⟨zen,0,none⟩))),(5,(.pointer (some ⟨zeo,0,none⟩)))]) (fun (z9a : Int) (z9b : Int)=>[stb zen 30 [(.int .i64 0),(.int .i64 0)],stb zeo 30 [(.int .i64 z9a),(.int .i64 z9b)]]) ?_ ?_
  ·skip
   refine WC.b ?_
   refine WC.a ?_
   refine WL.a (d:=6) rfl rfl rfl (q_z rfl) ?_
   refine WL.nil ?_
   refine WX.a ?_
   refine WC.block ?_
   refine WC.y49 (fun (zep : Nat) (z3p : Int) (z7f : Int) (z7g : Int)=>(yQ z2j z99 zaE zep z3p z7f z7g = some r)) (fun (zep : Nat) (z3p : Int) (z7f : Int) (z7g : Int)=>[(0,(.slice zcU z2j.length zcV)),(1,(.func (.func z9B) #[] (zbM).toArray)),(4,(.pointer (some ⟨zen,0,none⟩))),(5,(.pointer (some ⟨zeo,0,none⟩))),(6,(.int .i64 z3p))]) (fun (zep : Nat) (z3p : Int) (z7f : Int) (z7g : Int)=>[stb zen 30 [(.int .i64 0),(.int .i64 0)],stb zeo 30 [(.int .i64 z7f),(.int .i64 z7g)]]) (fun (zep : Nat) (z3p : Int) (z7f : Int) (z7g : Int)=>zep) ⟨yu,1,((nth z2j 0).fN),((nth z2j 0).fD)⟩ h (.cons rfl (.cons rfl (.cons rfl (.cons rfl (.cons rfl .nil))))) (.cons .h1 (.cons .here .nil)) ?_
   rintro zep z3p z7f z7g h
   obtain ⟨zlM,rfl⟩:=y3M h
   rw [yQ] at h
   refine WC.b ?_
   refine WC.b ?_
   refine WC.a ?_
   refine WL.a (d:=14) rfl rfl rfl (q_m rfl) ?_
   refine WL.a (d:=15) rfl rfl rfl (q_m rfl) ?_
   refine WL.a (d:=16) rfl rfl rfl (y10 Try.underlying77 rfl) ?_
   refine WL.a (d:=17) rfl rfl rfl (y1c rfl rfl) ?_
   refine WL.nil ?_
   refine WX.a ?_
   refine WC.cond rfl (fun zlQ=>?_) (fun zlQ=>?_)
   ·replace h:=yh h zlQ
    refine WC.skip ?_
    refine WX.a ?_
    obtain ⟨zi3,zwd,h⟩:=y4b h
    refine WC.y3G (fun (zaF : Int) (zaG : Int)=>(zi3 zaF zaG = some r)) (fun (zaF : Int) (zaG : Int)=>[(0,(.slice zcU z2j.length zcV)),(1,(.func (.func z9B) #[] (zbM).toArray)),(4,(.pointer (some ⟨zen,0,none⟩))),(5,(.pointer (some ⟨zeo,0,none⟩))),(6,(.int .i64 z3p))]) (fun (zaF : Int) (zaG : Int)=>[stb zen 30 [(.int .i64 0),(.int .i64 0)],stb zeo 30 [(.int .i64 zaF),(.int .i64 zaG)]]) ?_ ?_
    ·skip
     refine WC.block ?_
     refine WC.b ?_
     obtain ⟨zwe,h⟩:=yl h
     obtain ⟨zlN,zwf,h⟩:=ze h
     refine WC.yY (fun i=>[].contains i) [] rfl ?_
     refine WD.a (i:=0) (d:=20) (by kernel_rfl) rfl (z8 (by kernel_rfl)) (za (by kernel_rfl)) rfl rfl rfl (fun _=>q_m rfl) ?_
     refine WD.a (i:=1) (d:=21) (by kernel_rfl) rfl (z8 (by kernel_rfl)) (za (by kernel_rfl)) rfl rfl rfl (fun _=>q_m rfl) ?_
     refine WD.a (i:=2) (d:=22) (by kernel_rfl) rfl (z8 (by kernel_rfl)) (za (by kernel_rfl)) rfl rfl rfl (fun _=>q_m rfl) ?_
     refine WD.znth (j:=3) (dd:=23) (by kernel_rfl) rfl (z8 (by kernel_rfl)) (za (by kernel_rfl)) rfl rfl (Z:=Z) (Pr:=(fun r x=>r = e30 x)) y1K rfl rfl zlO zwe ?_
     rintro zBG zBH zwg zBI rfl
     refine WD.e (i:=4) (d:=24) (by kernel_rfl) rfl (z8 (by kernel_rfl)) (za (by kernel_rfl)) rfl rfl rfl (y4 (cs:=[(.int .i64 ((nth z2j z3p).fN)),(.int .i64 ((nth z2j z3p).fD))]) y5 rfl rfl (y2P hz.pv zwg)) ?_
     refine WD.e (i:=5) (d:=25) (by kernel_rfl) rfl (z8 (by kernel_rfl)) (za (by kernel_rfl)) rfl rfl rfl (y4 (cs:=[(.int .i64 z7f),(.int .i64 z7g)]) y5 rfl rfl (y8 .h1)) ?_
     refine WD.c (i:=6) (d:=26) (by kernel_rfl) rfl (z8 (by kernel_rfl)) (za (by kernel_rfl)) rfl rfl rfl (y2C (l:=[.tmp 24,.tmp 25]) (f:=z9B) (caps:=zbM) zw8 rfl (.cons rfl (.cons rfl .nil))) (fun w hw=>zw9 w (hz.now hw) (⟨((nth z2j z3p).fN),((nth z2j z3p).fD)⟩ : z7) (⟨z7f,z7g⟩ : z7) zlN  zwf) ?_
     refine WD.a (i:=7) (d:=27) (by kernel_rfl) rfl (z8 (by kernel_rfl)) (za (by kernel_rfl)) rfl rfl rfl (fun _=>y1c rfl rfl) ?_
     refine WD.done (by kernel_rfl) ?_
     refine WX.a ?_
     refine WC.cond rfl (fun zlR=>?_) (fun zlR=>?_)
     ·replace h:=yh h zlR
      obtain ⟨zwh,h⟩:=yl h
      refine WC.a ?_
      refine WL.a (d:=28) rfl rfl rfl (q_m rfl) ?_
      refine WL.a (d:=29) rfl rfl rfl (q_m rfl) ?_
      refine WL.znth (dd:=30) rfl rfl (Z:=Z) (Pr:=(fun r x=>r = e30 x)) y1K rfl rfl zlO zwh ?_
      rintro zBJ zBK zwi zBL rfl
      refine WL.a (d:=31) rfl rfl rfl (y4 (cs:=[(.int .i64 ((nth z2j z3p).fN)),(.int .i64 ((nth z2j z3p).fD))]) y5 rfl rfl (y2P hz.pv zwi)) ?_
      refine WL.yb rfl rfl (yc (vs:=[(.int .i64 ((nth z2j z3p).fN)),(.int .i64 ((nth z2j z3p).fD))]) (ds:=[(.int .i64 ((nth z2j z3p).fN)),(.int .i64 ((nth z2j z3p).fD))]) yo rfl rfl rfl rfl (y2 rfl (y2 rfl yk)) .h1 (Nat.le_of_ble_eq_true rfl) rfl) ?_
      refine WL.nil ?_
      refine WX.yg ?_
      exact WX.mid (G:=Int × Int) ⟨((nth z2j z3p).fN),((nth z2j z3p).fD)⟩ h (.cons rfl (.cons rfl (.cons rfl (.cons rfl (.cons rfl .nil))))) (.cons .h1 (.cons .here .nil))
     ·replace h:=yi h zlR
      refine WC.skip ?_
      refine WX.yg ?_
      exact WX.mid (G:=Int × Int) ⟨z7f,z7g⟩ h (.cons rfl (.cons rfl (.cons rfl (.cons rfl (.cons rfl .nil))))) (.cons .here (.cons .here .nil))
    ·rintro zaF zaG h
     replace h:=(zwd zaF zaG).symm.trans h
     refine WC.a ?_
     refine WL.a (d:=18) rfl rfl rfl (q_m rfl) ?_
     refine WL.a (d:=19) rfl rfl rfl (yW rfl rfl rfl) ?_
     refine WL.a (d:=6) rfl rfl rfl (q_z rfl) ?_
     refine WL.nil ?_
     exact WX.round (G:=Nat × Int × Int × Int) ⟨zlM,(i64 (z3p + 1)),zaF,zaG⟩ h (Nat.lt_succ_self _) (.cons rfl (.cons rfl (.cons rfl (.cons rfl (.cons rfl .nil))))) (.cons .here (.cons .here .nil))
   ·replace h:=yi h zlQ
    refine WC.exit ?_
    refine WX.ye ?_
    refine WX.ye ?_
    refine WX.yx ?_
    exact WX.mid (G:=Int × Int) ⟨z7f,z7g⟩ h (.cons rfl (.cons rfl .nil)) (.cons .here (.cons .here .nil))
  ·rintro z9a z9b h
   replace h:=(zwc z9a z9b).symm.trans h
   refine WC.b ?_
   refine WC.a ?_
   refine WL.a (d:=32) rfl rfl rfl (y4 (cs:=[(.int .i64 z9a),(.int .i64 z9b)]) y5 rfl rfl (y8 .h1)) ?_
   refine WL.yb rfl rfl (yc (vs:=[(.int .i64 z9a),(.int .i64 z9b)]) (ds:=[(.int .i64 z9a),(.int .i64 z9b)]) yo rfl rfl rfl rfl (y2 rfl (y2 rfl yk)) .here (Nat.le_of_ble_eq_true rfl) rfl) ?_
   refine WL.nil ?_
   refine WX.a ?_
   refine WC.ret ?_
   obtain rfl:=Option.some.inj h
   refine WX.y7 Try.results46 (.agg rfl y5 rfl (y8 .here) .nil) (fun w hw=>?_)
   exact ⟨yD rfl,hw.sub .nil⟩
def y1X (z1k : List z6) (z20 : z7) (zaH : (List z7) → Int → Option (z7 × Int)) : Nat → (List z7) → Int → Int → Option (z7 × Int)
 | 0,_,_,_=>none
 | zlS + 1,z3H,z1N,z63=>if decide (z1N < ((z1k.length : Nat) : Int)) then chk ((0 : Int) ≤ z1N ∧ z1N < ((z1k.length : Nat) : Int)) ((y1s (⟨z63⟩ : z2h) (⟨(⟨(((nth z1k z1N).fB).fN),(((nth z1k z1N).fB).fD)⟩ : z7),(⟨(((nth z1k z1N).fR).fN),(((nth z1k z1N).fR).fD)⟩ : z7)⟩ : z6) z20).bind fun z9C=>chk ((((z3H ++ ([z9C.1] : List z7)).length : Nat) : Int) * 16 ≤ 140737488355328 ∧ (((z3H ++ ([z9C.1] : List z7)).length : Nat) : Int) ≤ 4611686018427387904) (y1X z1k z20 zaH zlS (z3H ++ ([z9C.1] : List z7)) (i64 (z1N + 1)) z9C.2.fE)) else zaH z3H z63
theorem y7m {n : Nat} {z1k : List z6} {z20 : z7} {zaH : (List z7) → Int → Option (z7 × Int)} {z3H : List z7} {z1N : Int} {z63 : Int} {r : z7 × Int} (h : y1X z1k z20 zaH n z3H z1N z63 = some r) : ∃ m,n = m + 1:=by
 cases n with
 | zero=>cases h
 | succ m=>exact ⟨m,rfl⟩
def y35 (z1k : List z6) (z20 : z7) : Option (z7 × Int) :=
 (y2n z1k).bind fun zi4=>(if !zi4 then some true else (y3a z20).bind fun zlT=>some (!zlT)).bind fun zlU=>if zlU then some ((⟨0,0⟩ : z7),2) else jp2 (fun (z3g : List z7) (z6n : Int)=>if decide (z6n ≠ 0) then some ((⟨0,0⟩ : z7),z6n) else (y1v z3g (fun (y0 : z7) (y1 : z7)=>yV y0 y1)).bind fun zcW=>some (zcW,0)) fun zaH=>y1X z1k z20 zaH yu ([] : List z7) 0 0
set_option maxRecDepth 20000 in
theorem y85 (Z : Zp)  (zaI : Option Addr) (zaJ : Nat) (z1k : List z6) (z20 : z7) (r : z7 × Int) (w₀ : World) (hz : PZ [] w₀ Z)
  (zqs : ZS Z 4 (fun r x=>r = e35 x) zaI zaJ z1k)
  (h : y35 z1k z20 = some r) :
  Calls Try.prog 22 #[(.slice zaI z1k.length zaJ),(.agg #[(.int .i64 z20.fN),(.int .i64 z20.fD)])] w₀ fun e w'=>e = .returned (.tuple #[(.agg #[(.int .i64 r.1.fN),(.int .i64 r.1.fD)]),(.int .i64 r.2)]) ∧ Hp [] w₀ w' []:=by
 unfold y35 at h
 refine Calls.yd (vs:=[(.slice zaI z1k.length zaJ),(.agg #[(.int .i64 z20.fN),(.int .i64 z20.fD)])]) (pre:=[]) (env:=[(0,(.slice zaI z1k.length zaJ)),(1,(.agg #[(.int .i64 z20.fN),(.int .i64 z20.fD)]))]) Try.func22 rfl Try.ntmps22 rfl (Hp.nil w₀ _) rfl ?_
 refine WC.b ?_
 refine WC.a ?_
 refine WL.new (dd:=3) rfl rfl rfl (yI (cs:=[(.int .i64 z20.fN),(.int .i64 z20.fD)]) rfl rfl) ?_
 intro z6o _
 refine WL.new (dd:=4) rfl rfl rfl (ym (cs:=[(.int .i64 0),(.int .i64 0)]) yt rfl) ?_
 intro z3X _
 refine WL.a (d:=5) rfl rfl rfl (q_z rfl) ?_
 refine WL.nil ?_
 refine WX.a ?_
 refine WC.b ?_
 refine WC.b ?_
 obtain ⟨zi4,zwj,h⟩:=ze h
 obtain ⟨zlU,zqt,h⟩:=ze h
 refine WC.a ?_
 refine WL.a (d:=10) rfl rfl rfl (q_m rfl) ?_
 refine WL.b (dd:=11) rfl rfl rfl (zj (l:=[.tmp 10]) Try.call30 (.cons rfl .nil)) (.nil : Sel [stb z3X 30 [(.int .i64 0),(.int .i64 0)],stb z6o 30 [(.int .i64 z20.fN),(.int .i64 z20.fD)]] [] [stb z3X 30 [(.int .i64 0),(.int .i64 0)],stb z6o 30 [(.int .i64 z20.fN),(.int .i64 z20.fD)]]) (fun w hw=>by have pz:=(hz.call hw (.nil : Sel [stb z3X 30 [(.int .i64 0),(.int .i64 0)],stb z6o 30 [(.int .i64 z20.fN),(.int .i64 z20.fD)]] [] [stb z3X 30 [(.int .i64 0),(.int .i64 0)],stb z6o 30 [(.int .i64 z20.fN),(.int .i64 z20.fD)]])); exact y3S (Z:=_) (z8U:=zaI) (z8V:=zaJ) (z5B:=z1k) (r:=zi4) w pz zqs zwj) ?_
 refine WL.a (d:=12) rfl rfl rfl (y1m rfl) ?_
 refine WL.a (d:=13) rfl rfl rfl (q_m rfl) ?_
 refine WL.yN True [(0,(.slice zaI z1k.length zaJ)),(3,(.pointer (some ⟨z6o,0,none⟩))),(4,(.pointer (some ⟨z3X,0,none⟩))),(17,(.bool zlU))] [stb z3X 30 [(.int .i64 0),(.int .i64 0)],stb z6o 30 [(.int .i64 z20.fN),(.int .i64 z20.fD)]] 4 ?_ (fun _=>?_)
 ·rcases Bool.eq_false_or_eq_true (!zi4) with hb' | hb'
  ·have zqu:=hb'; clear hb'
   have zlV:=yh zqt zqu
   replace zlV:=Option.some.inj zlV
   refine WL.pin (i:=13) rfl zqu ?_
   refine WL.e rfl rfl rfl ?_
   refine WL.e rfl rfl rfl ?_
   refine WL.e rfl rfl rfl ?_
   refine WL.a (d:=17) rfl rfl rfl (ys rfl rfl) ?_
   exact WL.y9 () trivial (.cons rfl (.cons rfl (.cons rfl (.cons (zr zlV) .nil)))) (.cons .here (.cons .here .nil))
  ·have zqv:=hb'; clear hb'
   have zg5:=yi zqt zqv
   obtain ⟨zlT,zwk,zg5⟩:=ze zg5
   replace zg5:=Option.some.inj zg5
   refine WL.pin (i:=13) rfl zqv ?_
   refine WL.a (d:=14) rfl rfl rfl (y4 (cs:=[(.int .i64 z20.fN),(.int .i64 z20.fD)]) y5 rfl rfl (y8 .h1)) ?_
   refine WL.b (dd:=15) rfl rfl rfl (zj (l:=[.tmp 14]) Try.call44 (.cons rfl .nil)) (.nil : Sel [stb z3X 30 [(.int .i64 0),(.int .i64 0)],stb z6o 30 [(.int .i64 z20.fN),(.int .i64 z20.fD)]] [] [stb z3X 30 [(.int .i64 0),(.int .i64 0)],stb z6o 30 [(.int .i64 z20.fN),(.int .i64 z20.fD)]]) (fun w hw=>by have pz:=(hz.call hw (.nil : Sel [stb z3X 30 [(.int .i64 0),(.int .i64 0)],stb z6o 30 [(.int .i64 z20.fN),(.int .i64 z20.fD)]] [] [stb z3X 30 [(.int .i64 0),(.int .i64 0)],stb z6o 30 [(.int .i64 z20.fN),(.int .i64 z20.fD)]])); exact y67 (Z:=_)  (z3J:=z20) (r:=zlT) w pz  zwk) ?_
   refine WL.a (d:=16) rfl rfl rfl (y1m rfl) ?_
   refine WL.a (d:=17) rfl rfl rfl (yr rfl rfl) ?_
   exact WL.y9 () trivial (.cons rfl (.cons rfl (.cons rfl (.cons (zr zg5) .nil)))) (.cons .here (.cons .here .nil))
 ·skip
  refine WL.nil ?_
  refine WX.a ?_
  refine WC.cond rfl (fun zlW=>?_) (fun zlW=>?_)
  ·replace h:=yh h zlW
   refine WC.b ?_
   refine WC.a ?_
   refine WL.a (d:=18) rfl rfl rfl (y1g (v:=(.agg #[(.int .i64 0),(.int .i64 0)])) (Eos.parts (l:=[]) .nil []) (fun _=>by kernel_rfl)) ?_
   refine WL.yb rfl rfl (yc (vs:=[(.int .i64 0),(.int .i64 0)]) (ds:=[(.int .i64 0),(.int .i64 0)]) yo rfl rfl rfl rfl (y2 rfl (y2 rfl yk)) .here (Nat.le_of_ble_eq_true rfl) rfl) ?_
   refine WL.a (d:=5) rfl rfl rfl (q_z rfl) ?_
   refine WL.nil ?_
   refine WX.a ?_
   refine WC.ret ?_
   refine WX.y6 ?_
   obtain rfl:=Option.some.inj h
   refine WX.y7 Try.results22 (.agg rfl y5 rfl (y8 .here) (.tmp rfl .nil)) (fun w hw=>?_)
   exact ⟨y1M rfl rfl,hw.sub .nil⟩
  ·replace h:=yi h zlW
   refine WC.skip ?_
   refine WX.a ?_
   refine WC.b ?_
   refine WC.a ?_
   refine WL.new (dd:=6) rfl rfl rfl (ym (cs:=[(.int .i64 0)]) y93 rfl) ?_
   intro z5N _
   refine WL.nil ?_
   refine WX.a ?_
   refine WC.b ?_
   refine WC.a ?_
   refine WL.a (d:=7) rfl rfl rfl (q_z rfl) ?_
   refine WL.nil ?_
   refine WX.a ?_
   obtain ⟨zaH,zwl,h⟩:=y4b h
   refine WC.y4i (fun (z3g : List z7) (z6n : Int) (z6p : Option Addr) (z6q : Nat)=>(zaH z3g z6n = some r)) (fun (z3g : List z7) (z6n : Int) (z6p : Option Addr) (z6q : Nat)=>[(4,(.pointer (some ⟨z3X,0,none⟩))),(6,(.pointer (some ⟨z5N,0,none⟩))),(7,(.slice z6p z3g.length z6q))]) (fun (z3g : List z7) (z6n : Int) (z6p : Option Addr) (z6q : Nat)=>[row (.slice z6p z3g.length z6q) 30 2 (z3g.flatMap e30),stb z3X 30 [(.int .i64 0),(.int .i64 0)],stb z5N 90 [(.int .i64 z6n)]]) ?_ ?_
   ·skip
    refine WC.b ?_
    refine WC.a ?_
    refine WL.a (d:=19) rfl rfl rfl (q_m rfl) ?_
    refine WL.a (d:=20) rfl rfl rfl (y10 Try.underlying39 rfl) ?_
    refine WL.a (d:=21) rfl rfl rfl (q_m rfl) ?_
    refine WL.nil ?_
    refine WX.a ?_
    refine WC.block ?_
    refine WC.nilRow 30 2 ?_
    refine WC.y3H (fun (zeq : Nat) (z3H : List z7) (z1N : Int) (z63 : Int) (z89 : Option Addr) (z8a : Nat)=>(y1X z1k z20 zaH zeq z3H z1N z63 = some r)) (fun (zeq : Nat) (z3H : List z7) (z1N : Int) (z63 : Int) (z89 : Option Addr) (z8a : Nat)=>[(3,(.pointer (some ⟨z6o,0,none⟩))),(4,(.pointer (some ⟨z3X,0,none⟩))),(6,(.pointer (some ⟨z5N,0,none⟩))),(7,(.slice z89 z3H.length z8a)),(19,(.slice zaI z1k.length zaJ)),(20,(.int .i64 ((z1k.length : Nat) : Int))),(21,(.int .i64 z1N))]) (fun (zeq : Nat) (z3H : List z7) (z1N : Int) (z63 : Int) (z89 : Option Addr) (z8a : Nat)=>[row (.slice z89 z3H.length z8a) 30 2 (z3H.flatMap e30),stb z6o 30 [(.int .i64 z20.fN),(.int .i64 z20.fD)],stb z3X 30 [(.int .i64 0),(.int .i64 0)],stb z5N 90 [(.int .i64 z63)]]) (fun (zeq : Nat) (z3H : List z7) (z1N : Int) (z63 : Int) (z89 : Option Addr) (z8a : Nat)=>zeq) ⟨yu,([] : List z7),0,0,none,0⟩ h (.cons rfl (.cons rfl (.cons rfl (.cons rfl (.cons rfl (.cons rfl (.cons rfl .nil))))))) (.cons .here (.cons .h2 (.cons .h1 (.cons .here .nil)))) ?_
    rintro zeq z3H z1N z63 z89 z8a h
    obtain ⟨zlS,rfl⟩:=y7m h
    rw [y1X] at h
    refine WC.b ?_
    refine WC.a ?_
    refine WL.a (d:=22) rfl rfl rfl (y1c rfl rfl) ?_
    refine WL.nil ?_
    refine WX.a ?_
    refine WC.b ?_
    refine WC.cond rfl (fun zlX=>?_) (fun zlX=>?_)
    ·replace h:=yh h zlX
     refine WC.skip ?_
     refine WX.a ?_
     refine WC.b ?_
     refine WC.block ?_
     refine WC.b ?_
     obtain ⟨zwm,h⟩:=yl h
     refine WC.a ?_
     refine WL.znth (dd:=23) rfl rfl (Z:=Z) (Pr:=(fun r x=>r = e35 x)) y2w rfl rfl zqs zwm ?_
     rintro zBM zBN zwn zBO rfl
     refine WL.a (d:=24) rfl rfl rfl (y4 (cs:=[(.int .i64 (((nth z1k z1N).fB).fN)),(.int .i64 (((nth z1k z1N).fB).fD)),(.int .i64 (((nth z1k z1N).fR).fN)),(.int .i64 (((nth z1k z1N).fR).fD))]) y1D rfl rfl (y2P hz.pv zwn)) ?_
     refine WL.new (dd:=9) rfl rfl rfl (ym (cs:=[(.int .i64 0),(.int .i64 0),(.int .i64 0),(.int .i64 0)]) y3J rfl) ?_
     intro zer _
     refine WL.yb rfl rfl (yc (vs:=[(.int .i64 (((nth z1k z1N).fB).fN)),(.int .i64 (((nth z1k z1N).fB).fD)),(.int .i64 (((nth z1k z1N).fR).fN)),(.int .i64 (((nth z1k z1N).fR).fD))]) (ds:=[(.int .i64 (((nth z1k z1N).fB).fN)),(.int .i64 (((nth z1k z1N).fB).fD)),(.int .i64 (((nth z1k z1N).fR).fN)),(.int .i64 (((nth z1k z1N).fR).fD))]) y3X rfl rfl rfl rfl (y2 rfl (y2 rfl (y2 rfl (y2 rfl yk)))) .here (Nat.le_of_ble_eq_true rfl) rfl) ?_
     refine WL.nil ?_
     refine WX.a ?_
     obtain ⟨z9C,zwo,h⟩:=ze h
     obtain ⟨zwp,h⟩:=yl h
     refine WC.a ?_
     refine WL.a (d:=25) rfl rfl rfl (q_m rfl) ?_
     refine WL.a (d:=26) rfl rfl rfl (y4 (cs:=[(.int .i64 (((nth z1k z1N).fB).fN)),(.int .i64 (((nth z1k z1N).fB).fD)),(.int .i64 (((nth z1k z1N).fR).fN)),(.int .i64 (((nth z1k z1N).fR).fD))]) y1D rfl rfl (y8 .here)) ?_
     refine WL.a (d:=27) rfl rfl rfl (y4 (cs:=[(.int .i64 z20.fN),(.int .i64 z20.fD)]) y5 rfl rfl (y8 .h2)) ?_
     refine WL.b (dd:=28) rfl rfl rfl (zj (l:=[.tmp 6,.tmp 26,.tmp 27]) Try.call45 (.cons rfl (.cons rfl (.cons rfl .nil)))) ((.cons .h4 .nil) : Sel [stb zer 35 [(.int .i64 (((nth z1k z1N).fB).fN)),(.int .i64 (((nth z1k z1N).fB).fD)),(.int .i64 (((nth z1k z1N).fR).fN)),(.int .i64 (((nth z1k z1N).fR).fD))],row (.slice z89 z3H.length z8a) 30 2 (z3H.flatMap e30),stb z6o 30 [(.int .i64 z20.fN),(.int .i64 z20.fD)],stb z3X 30 [(.int .i64 0),(.int .i64 0)],stb z5N 90 [(.int .i64 z63)]] [stb z5N 90 [(.int .i64 z63)]] [stb zer 35 [(.int .i64 (((nth z1k z1N).fB).fN)),(.int .i64 (((nth z1k z1N).fB).fD)),(.int .i64 (((nth z1k z1N).fR).fN)),(.int .i64 (((nth z1k z1N).fR).fD))],row (.slice z89 z3H.length z8a) 30 2 (z3H.flatMap e30),stb z6o 30 [(.int .i64 z20.fN),(.int .i64 z20.fD)],stb z3X 30 [(.int .i64 0),(.int .i64 0)]]) (fun w hw=>by have pz:=(hz.call hw ((.cons .h4 .nil) : Sel [stb zer 35 [(.int .i64 (((nth z1k z1N).fB).fN)),(.int .i64 (((nth z1k z1N).fB).fD)),(.int .i64 (((nth z1k z1N).fR).fN)),(.int .i64 (((nth z1k z1N).fR).fD))],row (.slice z89 z3H.length z8a) 30 2 (z3H.flatMap e30),stb z6o 30 [(.int .i64 z20.fN),(.int .i64 z20.fD)],stb z3X 30 [(.int .i64 0),(.int .i64 0)],stb z5N 90 [(.int .i64 z63)]] [stb z5N 90 [(.int .i64 z63)]] [stb zer 35 [(.int .i64 (((nth z1k z1N).fB).fN)),(.int .i64 (((nth z1k z1N).fB).fD)),(.int .i64 (((nth z1k z1N).fR).fN)),(.int .i64 (((nth z1k z1N).fR).fD))],row (.slice z89 z3H.length z8a) 30 2 (z3H.flatMap e30),stb z6o 30 [(.int .i64 z20.fN),(.int .i64 z20.fD)],stb z3X 30 [(.int .i64 0),(.int .i64 0)]])); exact y7l (Z:=_) (z4U:=z5N) (z7e:=(⟨z63⟩ : z2h)) (zW:=(⟨(⟨(((nth z1k z1N).fB).fN),(((nth z1k z1N).fB).fD)⟩ : z7),(⟨(((nth z1k z1N).fR).fN),(((nth z1k z1N).fR).fD)⟩ : z7)⟩ : z6)) (z2Y:=z20) (r:=z9C) w pz  zwo (hw.owns ((.cons .h4 .nil) : Sel [stb zer 35 [(.int .i64 (((nth z1k z1N).fB).fN)),(.int .i64 (((nth z1k z1N).fB).fD)),(.int .i64 (((nth z1k z1N).fR).fN)),(.int .i64 (((nth z1k z1N).fR).fD))],row (.slice z89 z3H.length z8a) 30 2 (z3H.flatMap e30),stb z6o 30 [(.int .i64 z20.fN),(.int .i64 z20.fD)],stb z3X 30 [(.int .i64 0),(.int .i64 0)],stb z5N 90 [(.int .i64 z63)]] [stb z5N 90 [(.int .i64 z63)]] [stb zer 35 [(.int .i64 (((nth z1k z1N).fB).fN)),(.int .i64 (((nth z1k z1N).fB).fD)),(.int .i64 (((nth z1k z1N).fR).fN)),(.int .i64 (((nth z1k z1N).fR).fD))],row (.slice z89 z3H.length z8a) 30 2 (z3H.flatMap e30),stb z6o 30 [(.int .i64 z20.fN),(.int .i64 z20.fD)],stb z3X 30 [(.int .i64 0),(.int .i64 0)]]))) ?_
     refine WL.new (dd:=29) rfl rfl rfl (yB (cs:=([z9C.1] : List z7).flatMap e30) y1K (Eos.parts (l:=[.tmp 28]) (.cons rfl .nil) [0]) (fun _=>by kernel_rfl) rfl (by unfold maxLen; omega)) ?_
     intro zBP _
     refine WL.eff (d:=30) rfl rfl rfl (y4c (enc:=e30) (l1:=z3H) (l2:=([z9C.1] : List z7)) y1K rfl rfl .h3 (fun _=>rfl) rfl rfl (y4a .here) (y4L y81 _) zwp) ?_
     rintro ⟨zwq,zwr⟩ _
     refine WL.a (d:=7) rfl rfl rfl (q_z rfl) ?_
     refine WL.nil ?_
     refine WX.yg ?_
     refine WX.a ?_
     refine WC.a ?_
     refine WL.a (d:=31) rfl rfl rfl (yW rfl rfl rfl) ?_
     refine WL.a (d:=21) rfl rfl rfl (q_m rfl) ?_
     refine WL.nil ?_
     exact WX.round (G:=Nat × List z7 × Int × Int × Option Addr × Nat) ⟨zlS,(z3H ++ ([z9C.1] : List z7)),(i64 (z1N + 1)),z9C.2.fE,zwq,zwr⟩ h (Nat.lt_succ_self _) (.cons rfl (.cons rfl (.cons rfl (.cons rfl (.cons rfl (.cons rfl (.cons rfl .nil))))))) (.cons .here (.cons .h3 (.cons .h3 (.cons .h1 .nil))))
    ·replace h:=yi h zlX
     refine WC.exit ?_
     refine WX.ye ?_
     refine WX.ye ?_
     refine WX.yx ?_
     exact WX.mid (G:=List z7 × Int × Option Addr × Nat) ⟨z3H,z63,z89,z8a⟩ h (.cons rfl (.cons rfl (.cons rfl .nil))) (.cons .here (.cons .h1 (.cons .h1 .nil)))
   ·rintro z3g z6n z6p z6q h
    replace h:=(zwl z3g z6n).symm.trans h
    refine WC.b ?_
    refine WC.b ?_
    refine WC.a ?_
    refine WL.a (d:=32) rfl rfl rfl (y3 y5U rfl rfl) ?_
    refine WL.a (d:=33) rfl rfl rfl (ya y2K rfl (yv .h2 rfl)) ?_
    refine WL.a (d:=34) rfl rfl rfl (y2G rfl rfl) ?_
    refine WL.nil ?_
    refine WX.a ?_
    refine WC.cond rfl (fun zlY=>?_) (fun zlY=>?_)
    ·replace h:=yh h zlY
     refine WC.b ?_
     refine WC.yY (fun i=>[3].contains i) [stbp z5N 90 [(0,(.int .i64 z6n))]] rfl ?_
     refine WD.a (i:=0) (d:=35) (by kernel_rfl) rfl (z8 (by kernel_rfl)) (za (by kernel_rfl)) rfl rfl rfl (fun _=>y1g (v:=(.agg #[(.int .i64 0),(.int .i64 0)])) (Eos.parts (l:=[]) .nil []) (fun _=>by kernel_rfl)) ?_
     refine WD.a (i:=1) (d:=36) (by kernel_rfl) rfl (z8 (by kernel_rfl)) (za (by kernel_rfl)) rfl rfl rfl (fun _=>y3 y5U rfl rfl) ?_
     refine WD.y2B (i:=2) (d:=37) (by kernel_rfl) rfl (z8 (by kernel_rfl)) (za (by kernel_rfl)) rfl rfl rfl (Sin.wk (.cons .h2 .nil) (.stb (.cons rfl .nil) .nil)) (ya y2K rfl (y7w .here (.head _))) ?_
     refine WD.forced0 (i:=3) rfl (by kernel_rfl) rfl rfl rfl (Sin.wk (.cons .h2 .nil) (.stb (.cons rfl .nil) .nil)) (yc (vs:=[(.int .i64 0),(.int .i64 0)]) (ds:=[(.int .i64 0),(.int .i64 0)]) yo rfl rfl rfl rfl (y2 rfl (y2 rfl yk)) .h1 (Nat.le_of_ble_eq_true rfl) rfl) ?_
     refine WD.a (i:=4) (d:=5) (by kernel_rfl) rfl (z8 (by kernel_rfl)) (za (by kernel_rfl)) rfl rfl rfl (fun _=>q_z rfl) ?_
     refine WD.done (by kernel_rfl) ?_
     refine WX.a ?_
     refine WC.ret ?_
     refine WX.y6 ?_
     obtain rfl:=Option.some.inj h
     refine WX.y7 Try.results22 (.agg rfl y5 rfl (y8 .here) (.tmp rfl .nil)) (fun w hw=>?_)
     exact ⟨y1M rfl rfl,hw.sub .nil⟩
    ·replace h:=yi h zlY
     refine WC.skip ?_
     refine WX.a ?_
     refine WC.b ?_
     obtain ⟨zcW,zws,h⟩:=ze h
     refine WC.a ?_
     refine WL.a (d:=38) rfl rfl rfl (q_m rfl) ?_
     refine WL.b (dd:=39) rfl rfl rfl (zj (l:=[.tmp 38,.func 18]) Try.call46 (.cons rfl (.cons rfl .nil))) (.nil : Sel [row (.slice z6p z3g.length z6q) 30 2 (z3g.flatMap e30),stb z3X 30 [(.int .i64 0),(.int .i64 0)],stb z5N 90 [(.int .i64 z6n)]] [] [row (.slice z6p z3g.length z6q) 30 2 (z3g.flatMap e30),stb z3X 30 [(.int .i64 0),(.int .i64 0)],stb z5N 90 [(.int .i64 z6n)]]) (fun w hw=>by have pz:=(hz.call hw (.nil : Sel [row (.slice z6p z3g.length z6q) 30 2 (z3g.flatMap e30),stb z3X 30 [(.int .i64 0),(.int .i64 0)],stb z5N 90 [(.int .i64 z6n)]] [] [row (.slice z6p z3g.length z6q) 30 2 (z3g.flatMap e30),stb z3X 30 [(.int .i64 0),(.int .i64 0)],stb z5N 90 [(.int .i64 z6n)]])).lend hw (.nil : Sel [row (.slice z6p z3g.length z6q) 30 2 (z3g.flatMap e30),stb z3X 30 [(.int .i64 0),(.int .i64 0)],stb z5N 90 [(.int .i64 z6n)]] [] [row (.slice z6p z3g.length z6q) 30 2 (z3g.flatMap e30),stb z3X 30 [(.int .i64 0),(.int .i64 0)],stb z5N 90 [(.int .i64 z6n)]]) (B:=[row (.slice z6p z3g.length z6q) 30 2 (z3g.flatMap e30)]) (fun _ hx'=>((.cons .here .nil) : Sel _ [row (.slice z6p z3g.length z6q) 30 2 (z3g.flatMap e30)] _).mem hx'); exact y4H (Z:=_) (zcU:=z6p) (zcV:=z6q) (z9B:=18) (zbM:=[]) (z2j:=z3g) (z99:=(fun (y0 : z7) (y1 : z7)=>yV y0 y1)) (r:=zcW) w pz (ZA.row (hw.lent (.nil : Sel [row (.slice z6p z3g.length z6q) 30 2 (z3g.flatMap e30),stb z3X 30 [(.int .i64 0),(.int .i64 0)],stb z5N 90 [(.int .i64 z6n)]] [] [row (.slice z6p z3g.length z6q) 30 2 (z3g.flatMap e30),stb z3X 30 [(.int .i64 0),(.int .i64 0)],stb z5N 90 [(.int .i64 z6n)]]) (B:=[row (.slice z6p z3g.length z6q) 30 2 (z3g.flatMap e30)]) (fun _ hx'=>((.cons .here .nil) : Sel _ [row (.slice z6p z3g.length z6q) 30 2 (z3g.flatMap e30)] _).mem hx') (.head _) _) (RR.flat (enc:=e30) (fun _=>rfl) _) ⟨w,pz.1⟩) Try.call18 (fun w' hz' y0 y1  r  hr=>y26 (Z:=_)  (z29:=y0) (z2a:=y1) (r:=r) w' hz'  hr) zws) ?_
     refine WL.yb rfl rfl (yc (vs:=[(.int .i64 zcW.fN),(.int .i64 zcW.fD)]) (ds:=[(.int .i64 zcW.fN),(.int .i64 zcW.fD)]) yo rfl rfl rfl rfl (y2 rfl (y2 rfl yk)) .h1 (Nat.le_of_ble_eq_true rfl) rfl) ?_
     refine WL.a (d:=5) rfl rfl rfl (q_z rfl) ?_
     refine WL.nil ?_
     refine WX.a ?_
     refine WC.ret ?_
     obtain rfl:=Option.some.inj h
     refine WX.y7 Try.results22 (.agg rfl y5 rfl (y8 .here) (.tmp rfl .nil)) (fun w hw=>?_)
     exact ⟨y1M rfl rfl,hw.sub .nil⟩
end Go.Proofs.Ytakfmdiiehcbdaa

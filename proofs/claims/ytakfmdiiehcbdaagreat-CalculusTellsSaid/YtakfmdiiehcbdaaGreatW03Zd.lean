/- A part of this claim's proof: models of functions, walks, plain laws. No conditions. -/
import Derived.Test.YtakfmdiiehcbdaaGreatW03Zc
namespace Go.Proofs.YtakfmdiiehcbdaaGreat
open Go Go.RowKit Sep
set_option linter.all false
set_option maxRecDepth 30000
set_option maxHeartbeats 4000000
def y4i (z3C : List Int) (z47 : List Int) (z8i : Option Bool) : Nat → Int → Option Bool
 | 0,_=>none
 | zmN + 1,z3D=>if decide (z3D < ((z3C.length : Nat) : Int)) then chk ((0 : Int) ≤ z3D ∧ z3D < ((z3C.length : Nat) : Int)) (chk ((0 : Int) ≤ z3D ∧ z3D < ((z47.length : Nat) : Int)) (if decide ((nth z3C z3D) ≠ (nth z47 z3D)) then some false else y4i z3C z47 z8i zmN (i64 (z3D + 1)))) else z8i
theorem y8a {n : Nat} {z3C : List Int} {z47 : List Int} {z8i : Option Bool} {z3D : Int} {r : Bool} (h : y4i z3C z47 z8i n z3D = some r) : ∃ m,n = m + 1:=by
 cases n with
 | zero=>cases h
 | succ m=>exact ⟨m,rfl⟩
def y7e (z3C : List Int) (z47 : List Int) : Option Bool :=
 if decide (((z3C.length : Nat) : Int) ≠ ((z47.length : Nat) : Int)) then some false else jp0 (some true) fun z8i=>y4i z3C z47 z8i yu 0
set_option maxRecDepth 20000 in
theorem yaY (Z : Zp) (zg0 : Option Addr) (zg1 : Nat) (zg2 : Option Addr) (zg3 : Nat) (z3C : List Int) (z47 : List Int) (r : Bool)
  (h : y7e z3C z47 = some r) (w₀ : World) (hz : PZ [] w₀ Z)
  (zCx : ZS Z 1 (fun r x=>r = e3 x) zg0 zg1 z3C)
  (zCy : ZS Z 1 (fun r x=>r = e3 x) zg2 zg3 z47) :
  Calls Tryz.prog 10 #[(.slice zg0 z3C.length zg1),(.slice zg2 z47.length zg3)] w₀ fun e w'=>e = .returned (.bool r) ∧ Hp [] w₀ w' []:=by
 unfold y7e at h
 refine Calls.yg (vs:=[(.slice zg0 z3C.length zg1),(.slice zg2 z47.length zg3)]) (pre:=[]) (env:=[(0,(.slice zg0 z3C.length zg1)),(1,(.slice zg2 z47.length zg3))]) Tryz.func10 rfl Tryz.ntmps10 rfl (Hp.nil w₀ _) rfl ?_
 refine WC.b (WC.a (WL.pu rfl (WL.nil (WX.a (WC.b (WC.b (WC.a (WL.pu rfl ?_))))))))
 refine WL.a (d:=7) rfl rfl rfl (yP Tryz.underlying31 rfl) ?_
 refine WL.pu rfl ?_
 refine WL.a (d:=9) rfl rfl rfl (yP Tryz.underlying31 rfl) ?_
 refine WL.pu rfl (WL.nil (WX.a ?_))
 refine WC.cond rfl (fun zmO=>?_) (fun zmO=>?_)
 ·replace h:=yd h zmO
  refine WC.b (WC.a (WL.pu rfl (WL.nil (WX.a (WC.ret (WX.y6 ?_))))))
  obtain rfl:=Option.some.inj h
  refine WX.y8 Tryz.results10 (.tmp rfl .nil) (fun w hw=>?_)
  exact ⟨yD rfl,hw.sub .nil⟩
 ·replace h:=ye h zmO
  refine WC.skip (WX.a ?_)
  obtain ⟨z8i,zCz,h⟩:=y3H h
  refine WC.y2J ((z8i = some r)) ([]) ([]) ?_ ?_
  ·skip
   refine WC.b (WC.a (WL.pu rfl ?_))
   refine WL.a (d:=12) rfl rfl rfl (yP Tryz.underlying31 rfl) ?_
   refine WL.pu rfl (WL.nil (WX.a (WC.block ?_)))
   refine WC.y35 (fun (zds : Nat) (z3D : Int)=>(y4i z3C z47 z8i zds z3D = some r)) (fun (zds : Nat) (z3D : Int)=>[(0,(.slice zg0 z3C.length zg1)),(1,(.slice zg2 z47.length zg3)),(12,(.int .i64 ((z3C.length : Nat) : Int))),(13,(.int .i64 z3D))]) (fun (zds : Nat) (z3D : Int)=>[]) (fun (zds : Nat) (z3D : Int)=>zds) ⟨yu,0⟩ h (.cons rfl (.cons rfl (.cons rfl (.cons rfl .nil)))) .nil ?_
   rintro zds z3D h
   obtain ⟨zmN,rfl⟩:=y8a h
   rw [y4i] at h
   refine WC.b (WC.a (WL.pu rfl (WL.nil (WX.a (WC.b ?_)))))
   refine WC.cond rfl (fun zmP=>?_) (fun zmP=>?_)
   ·replace h:=yd h zmP
    refine WC.skip (WX.a (WC.b (WC.block (WC.b (WC.a (WL.pu rfl (WL.pu rfl (WL.nil (WX.a (WC.b ?_))))))))))
    obtain ⟨zCA,h⟩:=yj h
    obtain ⟨zCB,h⟩:=yj h
    refine WC.yH (fun i=>[].contains i) [] rfl ?_
    refine WD.a (i:=0) (d:=16) (by kernel_rfl) rfl z6 z7 rfl rfl rfl (fun _=>q_m rfl) ?_
    refine WD.a (i:=1) (d:=17) (by kernel_rfl) rfl z6 z7 rfl rfl rfl (fun _=>q_m rfl) ?_
    refine WD.znth (j:=2) (dd:=18) (by kernel_rfl) rfl z6 z7 rfl rfl (Z:=Z) (Pr:=(fun r x=>r = e3 x)) y8B rfl rfl zCx zCA ?_
    rintro zK6 zK7 zCC zK8 rfl
    refine WD.e (i:=3) (d:=19) (by kernel_rfl) rfl z6 z7 rfl rfl rfl (yc yr rfl (y4X hz.pv zCC rfl)) ?_
    refine WD.a (i:=4) (d:=20) (by kernel_rfl) rfl z6 z7 rfl rfl rfl (fun _=>q_m rfl) ?_
    refine WD.a (i:=5) (d:=21) (by kernel_rfl) rfl z6 z7 rfl rfl rfl (fun _=>q_m rfl) ?_
    refine WD.znth (j:=6) (dd:=22) (by kernel_rfl) rfl z6 z7 rfl rfl (Z:=Z) (Pr:=(fun r x=>r = e3 x)) y8B rfl rfl zCy zCB ?_
    rintro zK9 zKa zCD zKb rfl
    refine WD.e (i:=7) (d:=23) (by kernel_rfl) rfl z6 z7 rfl rfl rfl (yc yr rfl (y4X hz.pv zCD rfl)) ?_
    refine WD.a (i:=8) (d:=24) (by kernel_rfl) rfl z6 z7 rfl rfl rfl (fun _=>q_neq rfl rfl) ?_
    refine WD.done (by kernel_rfl) ?_
    refine WX.a ?_
    refine WC.cond rfl (fun zmQ=>?_) (fun zmQ=>?_)
    ·replace h:=yd h zmQ
     refine WC.b (WC.a (WL.pu rfl (WL.nil (WX.a (WC.ret (WX.yl (WX.y6 (WX.y6 (WX.yl (WX.y6 ?_))))))))))
     obtain rfl:=Option.some.inj h
     refine WX.y8 Tryz.results10 (.tmp rfl .nil) (fun w hw=>?_)
     exact ⟨yD rfl,hw.sub .nil⟩
    ·replace h:=ye h zmQ
     refine WC.skip (WX.yi (WX.a (WC.a (WL.pu rfl (WL.pu rfl (WL.nil ?_))))))
     exact WX.round (G:=Nat × Int) ⟨zmN,(i64 (z3D + 1))⟩ h (Nat.lt_succ_self _) (.cons rfl (.cons rfl (.cons rfl (.cons rfl .nil)))) .nil
   ·replace h:=ye h zmP
    refine WC.exit (WX.yf (WX.yf (WX.yv ?_)))
    exact WX.mid (G:=Unit) () h .nil .nil
  ·rintro  h
   replace h:=zCz.symm.trans h
   refine WC.b (WC.a (WL.pu rfl (WL.nil (WX.a (WC.ret ?_)))))
   obtain rfl:=Option.some.inj h
   refine WX.y8 Tryz.results10 (.tmp rfl .nil) (fun w hw=>?_)
   exact ⟨yD rfl,hw.sub .nil⟩
def y49  : Option Bool :=
 (y1u 100 1).bind fun ztp=>(y1u 1 2).bind fun ztq=>(y3t ztp ztq).bind fun zb=>(y1u 60 1).bind fun ztr=>(y1u 1 4).bind fun zts=>(y3t ztr zts).bind fun zD=>(y1u 1 1).bind fun z1n=>(y1u 16 1).bind fun z1o=>(y2O ([([zb] : List z2),([zD] : List z2)] : List (List z2)) (⟨z1n,z1o⟩ : S41)).bind fun z1t=>(y2Z ([([zb] : List z2),([zD] : List z2)] : List (List z2)) (⟨z1n,z1o⟩ : S41)).bind fun z1u=>chk ((0 : Int) ≤ 0 ∧ 0 < ((([zb] : List z2).length : Nat) : Int)) ((y1u 40 1).bind fun ztt=>(y1u 1 1).bind fun ztu=>(y3t ztt ztu).bind fun zC=>(y2O ([([(⟨(⟨(((nth ([zb] : List z2) 0).fB).fN),(((nth ([zb] : List z2) 0).fB).fD)⟩ : z1),(⟨(((nth ([zb] : List z2) 0).fR).fN),(((nth ([zb] : List z2) 0).fR).fD)⟩ : z1)⟩ : z2),zC] : List z2),([zD] : List z2)] : List (List z2)) (⟨z1n,z1o⟩ : S41)).bind fun z4x=>(y5G ([(⟨0,0,10⟩ : zSt),(⟨3,0,10⟩ : zSt)] : List zSt) 2 5).bind fun z9S=>(y1u 10 1).bind fun ztv=>(y1u 4 1).bind fun ztw=>(y3t ztv ztw).bind fun zmR=>(y42 ([zmR] : List z2) ([(⟨0,0,10⟩ : zSt),(⟨3,0,10⟩ : zSt)] : List zSt)).bind fun z5r=>(y1u 10 1).bind fun ztx=>(y1u 3 1).bind fun zty=>(y3t ztx zty).bind fun zmS=>(y42 ([zmS] : List z2) ([(⟨0,0,10⟩ : zSt),(⟨3,0,10⟩ : zSt)] : List zSt)).bind fun z6t=>(if decide ((i64 ((i64 ((i64 ((i64 ((i64 (z1t.2 + z1u.2)) + z4x.2)) + z9S.2)) + z5r.2)) + z6t.2)) = 0) then (y1u 176 1).bind fun zmT=>some (decide (z1t.1 = zmT)) else some false).bind fun zg4=>(if zg4 then (y1u 172 1).bind fun zmU=>some (decide (z1u.1 = zmU)) else some false).bind fun zg5=>(if zg5 then (y1u 146 1).bind fun zmV=>some (decide (z4x.1 = zmV)) else some false).bind fun zg6=>(if zg6 then (y7e z9S.1 ([25,45] : List Int)).bind fun ztz=>some ztz else some false).bind fun z8j=>some ((z8j && z5r.1) && (!z6t.1)))
set_option maxRecDepth 20000 in
theorem y6I (Z : Zp)  (r : Bool)
  (h : y49 = some r) (w₀ : World) (hz : PZ [] w₀ Z) :
  Calls Tryz.prog 5 #[] w₀ fun e w'=>∃ Zn : Zp,e = .returned (.bool r) ∧ True ∧ Hp [] w₀ w' [fz Zn]:=by
 unfold y49 at h
 refine Calls.yg (vs:=[]) (pre:=[]) (env:=[]) Tryz.func5 rfl Tryz.ntmps5 rfl (Hp.nil w₀ _) rfl ?_
 refine WC.pool (WC.b (WC.a (WL.pu rfl (WL.nil (WX.a (WC.b ?_))))))
 obtain ⟨ztp,zCE,h⟩:=z8 h
 obtain ⟨ztq,zCF,h⟩:=z8 h
 obtain ⟨zb,zCG,h⟩:=z8 h
 obtain ⟨ztr,zCH,h⟩:=z8 h
 obtain ⟨zts,zCI,h⟩:=z8 h
 obtain ⟨zD,zCJ,h⟩:=z8 h
 refine WC.a ?_
 refine WL.b (dd:=17) rfl rfl rfl (za (l:=[.const (.int .i64 100),.const (.int .i64 1)]) Tryz.call20 (.cons rfl (.cons rfl .nil))) .nil (ccz hz .nil .here fun w pz ho=>y1O _ _ _ _ zCE w pz ) ?_
 refine WL.b (dd:=18) rfl rfl rfl (za (l:=[.const (.int .i64 1),.const (.int .i64 2)]) Tryz.call20 (.cons rfl (.cons rfl .nil))) .nil (ccz hz .nil .here fun w pz ho=>y1O _ _ _ _ zCF w pz ) ?_
 refine WL.b (dd:=19) rfl rfl rfl (za (l:=[.tmp 17,.tmp 18]) Tryz.call19 (.cons rfl (.cons rfl .nil))) .nil (ccz hz .nil .here fun w pz ho=>y4s _ _ _ _ zCG w pz ) ?_
 refine WL.new (dd:=20) rfl rfl rfl (yA (cs:=([zb] : List z2).flatMap e54) yS (Eos.parts (l:=[.tmp 19]) (.cons rfl .nil) [0]) (fun _=>by kernel_rfl) rfl (by unfold maxLen; omega)) ?_
 intro zdt _
 refine WL.b (dd:=21) rfl rfl rfl (za (l:=[.const (.int .i64 60),.const (.int .i64 1)]) Tryz.call20 (.cons rfl (.cons rfl .nil))) .nil (ccz hz .nil .h1 fun w pz ho=>y1O _ _ _ _ zCH w pz ) ?_
 refine WL.b (dd:=22) rfl rfl rfl (za (l:=[.const (.int .i64 1),.const (.int .i64 4)]) Tryz.call20 (.cons rfl (.cons rfl .nil))) .nil (ccz hz .nil .h1 fun w pz ho=>y1O _ _ _ _ zCI w pz ) ?_
 refine WL.b (dd:=23) rfl rfl rfl (za (l:=[.tmp 21,.tmp 22]) Tryz.call19 (.cons rfl (.cons rfl .nil))) .nil (ccz hz .nil .h1 fun w pz ho=>y4s _ _ _ _ zCJ w pz ) ?_
 refine WL.new (dd:=24) rfl rfl rfl (yA (cs:=([zD] : List z2).flatMap e54) yS (Eos.parts (l:=[.tmp 23]) (.cons rfl .nil) [0]) (fun _=>by kernel_rfl) rfl (by unfold maxLen; omega)) ?_
 intro z2E _
 refine WL.pu rfl (WL.pu rfl (WL.nil (WX.a (WC.b ?_))))
 obtain ⟨z1n,zCK,h⟩:=z8 h
 obtain ⟨z1o,zCL,h⟩:=z8 h
 refine WC.a ?_
 refine WL.b (dd:=25) rfl rfl rfl (za (l:=[.const (.int .i64 1),.const (.int .i64 1)]) Tryz.call20 (.cons rfl (.cons rfl .nil))) .nil (ccz hz .nil .h2 fun w pz ho=>y1O _ _ _ _ zCK w pz ) ?_
 refine WL.b (dd:=26) rfl rfl rfl (za (l:=[.const (.int .i64 16),.const (.int .i64 1)]) Tryz.call20 (.cons rfl (.cons rfl .nil))) .nil (ccz hz .nil .h2 fun w pz ho=>y1O _ _ _ _ zCL w pz ) ?_
 refine WL.a (d:=27) rfl rfl rfl (yz (v:=(.agg #[(.int .i64 z1n.fN),(.int .i64 z1n.fD),(.int .i64 z1o.fN),(.int .i64 z1o.fD)])) (Eos.parts (l:=[.tmp 25,.tmp 26]) (.cons rfl (.cons rfl .nil)) [0,1]) (fun _=>by kernel_rfl)) ?_
 refine WL.new (dd:=3) rfl rfl rfl (yk (cs:=[(.int .i64 0),(.int .i64 0),(.int .i64 0),(.int .i64 0)]) y76 rfl) ?_
 intro z9T _
 refine WL.yb rfl rfl (ya y4L rfl rfl rfl .here rfl rfl rfl) ?_
 refine WL.nil (WX.a (WC.b ?_))
 obtain ⟨z1t,zCM,h⟩:=z8 h
 refine WC.a (WL.pu rfl (WL.pu rfl ?_))
 refine WL.freezeS (ls:=([zb] : List z2)) .h2 .h2 hz (RR.flat (enc:=e54) (fun _=>rfl) _) ?_
 intro zKc zKd zmW
 refine WL.freezeS (ls:=([zD] : List z2)) .h2 .here hz (RR.flat (enc:=e54) (fun _=>rfl) _) ?_
 intro zCN zmX zic
 have zCO : RR 1 (p23 (Z ++ zCN)) [(.slice (some ⟨zdt,0,none⟩) (([zb] : List z2).length) 1),(.slice (some ⟨z2E,0,none⟩) (([zD] : List z2).length) 1)] ([([zb] : List z2),([zD] : List z2)] : List (List z2)):=(RR.cons (r:=[(.slice (some ⟨zdt,0,none⟩) (([zb] : List z2).length) 1)]) rfl (show p23 _ _ _ from ⟨_,_,rfl,(zmW.mono zmX)⟩) (RR.cons (r:=[(.slice (some ⟨z2E,0,none⟩) (([zD] : List z2).length) 1)]) rfl (show p23 _ _ _ from ⟨_,_,rfl,zic⟩) (RR.nil _ _)))
 refine WL.new (dd:=31) rfl rfl rfl (yA (cs:=[(.slice (some ⟨zdt,0,none⟩) (([zb] : List z2).length) 1),(.slice (some ⟨z2E,0,none⟩) (([zD] : List z2).length) 1)]) y3X (Eos.parts (l:=[.tmp 29,.tmp 30]) (.cons rfl (.cons rfl .nil)) [0,1]) (fun _=>by kernel_rfl) rfl (by unfold maxLen; omega)) ?_
 intro zKe _
 refine WL.a (d:=32) rfl rfl rfl (y9 y15 rfl (y7 .h2) rfl) ?_
 refine WL.freezeS (ls:=([([zb] : List z2),([zD] : List z2)] : List (List z2))) .here .here hz zCO ?_
 intro zCP zdu zmY
 replace zmY:=zmY.weak (fun _ _ h=>yG zdu h)
 refine WL.y2v (dd:=33) rfl rfl rfl (za (l:=[.tmp 31,.tmp 32]) Tryz.call11 (.cons rfl (.cons rfl .nil))) .nil (ccz hz .nil .here fun w pz ho=>y4E _ _ _ _ _ _ zCM w pz zmY) ?_
 rintro zCQ _
 refine WL.merge .here .here ?_
 refine WL.pu rfl (WL.pu rfl (WL.pu rfl ?_))
 refine WL.new (dd:=4) rfl rfl rfl (yk (cs:=[(.int .i64 0),(.int .i64 0)]) yo rfl) ?_
 intro z48 _
 refine WL.yb rfl rfl (ya yh rfl rfl rfl .here rfl rfl rfl) ?_
 refine WL.pu rfl (WL.nil (WX.a (WC.b ?_)))
 obtain ⟨z1u,zCR,h⟩:=z8 h
 refine WC.a (WL.pu rfl (WL.pu rfl ?_))
 have zCS : RR 1 (p23 (Z ++ (zCP ++ zCQ))) [(.slice (some ⟨zdt,0,none⟩) (([zb] : List z2).length) 1),(.slice (some ⟨z2E,0,none⟩) (([zD] : List z2).length) 1)] ([([zb] : List z2),([zD] : List z2)] : List (List z2)):=(RR.cons (r:=[(.slice (some ⟨zdt,0,none⟩) (([zb] : List z2).length) 1)]) rfl (show p23 _ _ _ from ⟨_,_,rfl,(zmW.mono (zmX.trans (zdu.trans ((Zle.left _ _).trans (Zle.yn _ _ _)))))⟩) (RR.cons (r:=[(.slice (some ⟨z2E,0,none⟩) (([zD] : List z2).length) 1)]) rfl (show p23 _ _ _ from ⟨_,_,rfl,(zic.mono (zdu.trans ((Zle.left _ _).trans (Zle.yn _ _ _))))⟩) (RR.nil _ _)))
 refine WL.new (dd:=39) rfl rfl rfl (yA (cs:=[(.slice (some ⟨zdt,0,none⟩) (([zb] : List z2).length) 1),(.slice (some ⟨z2E,0,none⟩) (([zD] : List z2).length) 1)]) y3X (Eos.parts (l:=[.tmp 37,.tmp 38]) (.cons rfl (.cons rfl .nil)) [0,1]) (fun _=>by kernel_rfl) rfl (by unfold maxLen; omega)) ?_
 intro zKf _
 refine WL.a (d:=40) rfl rfl rfl (y9 y15 rfl (y7 .h3) rfl) ?_
 refine WL.freezeS (ls:=([([zb] : List z2),([zD] : List z2)] : List (List z2))) .here .h1 hz zCS ?_
 intro z8k zid zmZ
 replace zmZ:=zmZ.weak (fun _ _ h=>yG zid h)
 refine WL.y2v (dd:=41) rfl rfl rfl (za (l:=[.tmp 39,.tmp 40]) Tryz.call13 (.cons rfl (.cons rfl .nil))) .nil (ccz hz .nil .here fun w pz ho=>y6y _ _ _ _ _ _ zCR w pz zmZ) ?_
 rintro z8l _
 refine WL.merge .here .here ?_
 refine WL.pu rfl (WL.pu rfl (WL.pu rfl ?_))
 refine WL.new (dd:=6) rfl rfl rfl (yk (cs:=[(.int .i64 0),(.int .i64 0)]) yo rfl) ?_
 intro z3Q _
 refine WL.yb rfl rfl (ya yh rfl rfl rfl .here rfl rfl rfl) ?_
 refine WL.pu rfl (WL.nil (WX.a (WC.b ?_)))
 obtain ⟨zCT,h⟩:=yj h
 obtain ⟨ztt,zCU,h⟩:=z8 h
 obtain ⟨ztu,zCV,h⟩:=z8 h
 obtain ⟨zC,zCW,h⟩:=z8 h
 obtain ⟨z4x,ztA,h⟩:=z8 h
 refine WC.yH (fun i=>[15].contains i) [] rfl ?_
 refine WD.a (i:=0) (d:=45) (by kernel_rfl) rfl z6 z7 rfl rfl rfl (fun _=>q_m rfl) ?_
 refine WD.znth (j:=1) (dd:=46) (by kernel_rfl) rfl z6 z7 rfl rfl (Z:=(Z ++ (z8k ++ z8l))) (Pr:=(fun r x=>r = e54 x)) yS rfl rfl (zmW.mono (zmX.trans (zdu.trans ((Zle.left _ _).trans ((Zle.yn _ _ _).trans (zid.trans ((Zle.left _ _).trans (Zle.yn _ _ _)))))))) zCT ?_
 rintro zKg zKh zCX zKi rfl
 refine WD.e (i:=2) (d:=47) (by kernel_rfl) rfl z6 z7 rfl rfl rfl (y9 y1q rfl (y2k (hz.pv2 .h1) zCX) rfl) ?_
 refine WD.c (i:=3) (d:=48) (by kernel_rfl) rfl z6 z7 rfl rfl rfl (za (l:=[.const (.int .i64 40),.const (.int .i64 1)]) Tryz.call20 (.cons rfl (.cons rfl .nil))) (ccz hz .nil .h1 fun w pz ho=>y1O _ _ _ _ zCU w pz ) ?_
 refine WD.c (i:=4) (d:=49) (by kernel_rfl) rfl z6 z7 rfl rfl rfl (za (l:=[.const (.int .i64 1),.const (.int .i64 1)]) Tryz.call20 (.cons rfl (.cons rfl .nil))) (ccz hz .nil .h1 fun w pz ho=>y1O _ _ _ _ zCV w pz ) ?_
 refine WD.c (i:=5) (d:=50) (by kernel_rfl) rfl z6 z7 rfl rfl rfl (za (l:=[.tmp 48,.tmp 49]) Tryz.call19 (.cons rfl (.cons rfl .nil))) (ccz hz .nil .h1 fun w pz ho=>y4s _ _ _ _ zCW w pz ) ?_
 refine WD.a (i:=7) (d:=52) (by kernel_rfl) rfl z6 z7 rfl rfl rfl (fun _=>q_m rfl) ?_
 refine WD.e (i:=9) (d:=54) (by kernel_rfl) rfl z6 z7 rfl rfl rfl (y9 y15 rfl (y7 .h3) rfl) ?_
 refine WD.y83 (fuel':=0) (fun (b6o1_47022 : Nat) (Zn8o1_47022 : Zp) (b8o4_47022 : Nat) (Zn10o1_47022 : Zp) (Zn10o4_47022 : Zp) (b14o1_47022 : Nat)=>[(4,(.pointer (some ⟨z48,0,none⟩))),(5,(.int .i64 z1t.2)),(6,(.pointer (some ⟨z3Q,0,none⟩))),(7,(.int .i64 z1u.2)),(8,(.pointer (some ⟨b14o1_47022,0,none⟩))),(9,(.int .i64 z4x.2))]) (fun (b6o1_47022 : Nat) (Zn8o1_47022 : Zp) (b8o4_47022 : Nat) (Zn10o1_47022 : Zp) (Zn10o4_47022 : Zp) (b14o1_47022 : Nat)=>[stb b14o1_47022 40 [(.int .i64 z4x.1.fN),(.int .i64 z4x.1.fD)],fz (Zn10o1_47022 ++ Zn10o4_47022),stb z3Q 40 [(.int .i64 z1u.1.fN),(.int .i64 z1u.1.fD)],stb z48 40 [(.int .i64 z1t.1.fN),(.int .i64 z1t.1.fD)],stb z9T 42 [(.int .i64 z1n.fN),(.int .i64 z1n.fD),(.int .i64 z1o.fN),(.int .i64 z1o.fD)]]) (fun (b6o1_47022 : Nat) (Zn8o1_47022 : Zp) (b8o4_47022 : Nat) (Zn10o1_47022 : Zp) (Zn10o4_47022 : Zp) (b14o1_47022 : Nat)=>(Zle (Z ++ (z8k ++ z8l)) (Z ++ Zn8o1_47022)) ∧ (ZS (Z ++ Zn8o1_47022) 4 (fun r x=>r = e54 x) (some ⟨b6o1_47022,0,none⟩) 2 ([(⟨(⟨(((nth ([zb] : List z2) 0).fB).fN),(((nth ([zb] : List z2) 0).fB).fD)⟩ : z1),(⟨(((nth ([zb] : List z2) 0).fR).fN),(((nth ([zb] : List z2) 0).fR).fD)⟩ : z1)⟩ : z2),zC] : List z2)) ∧ (RR 1 (p23 (Z ++ Zn8o1_47022)) [(.slice (some ⟨b6o1_47022,0,none⟩) (([(⟨(⟨(((nth ([zb] : List z2) 0).fB).fN),(((nth ([zb] : List z2) 0).fB).fD)⟩ : z1),(⟨(((nth ([zb] : List z2) 0).fR).fN),(((nth ([zb] : List z2) 0).fR).fD)⟩ : z1)⟩ : z2),zC] : List z2).length) 2),(.slice (some ⟨z2E,0,none⟩) (([zD] : List z2).length) 1)] ([([(⟨(⟨(((nth ([zb] : List z2) 0).fB).fN),(((nth ([zb] : List z2) 0).fB).fD)⟩ : z1),(⟨(((nth ([zb] : List z2) 0).fR).fN),(((nth ([zb] : List z2) 0).fR).fD)⟩ : z1)⟩ : z2),zC] : List z2),([zD] : List z2)] : List (List z2))) ∧ (Zle (Z ++ Zn8o1_47022) (Z ++ Zn10o1_47022)) ∧ (ZS (Z ++ Zn10o1_47022) 1 (p23 (Z ++ Zn10o1_47022)) (some ⟨b8o4_47022,0,none⟩) 2 ([([(⟨(⟨(((nth ([zb] : List z2) 0).fB).fN),(((nth ([zb] : List z2) 0).fB).fD)⟩ : z1),(⟨(((nth ([zb] : List z2) 0).fR).fN),(((nth ([zb] : List z2) 0).fR).fD)⟩ : z1)⟩ : z2),zC] : List z2),([zD] : List z2)] : List (List z2)))) (yC 17 [16,15,14,13,12,11,10,8,6,9,7,5,4,3,2,1,0]) ?_ (fun K6o8o10o11o12o13o14o15o16_47022=>?_)
 ·skip
  rintro b6o1_47022 Zn8o1_47022 b8o4_47022 Zn10o1_47022 Zn10o4_47022 b14o1_47022 ⟨hle8o2_47022,hf8o3_47022,rel8o5_47022,hle10o2_47022,hf10o3_47022⟩
  refine WD.done (by kernel_rfl) ?_
  refine WX.a (WC.b (WC.a ?_))
  refine WL.a (d:=58) rfl rfl rfl (yz (v:=(.agg #[(.int .i64 0),(.int .i64 0),(.int .i64 10)])) (Eos.parts (l:=[.const (.int .i64 0),.const (.int .i64 10)]) (.cons rfl (.cons rfl .nil)) [0,2]) (fun _=>by kernel_rfl)) ?_
  refine WL.a (d:=59) rfl rfl rfl (yz (v:=(.agg #[(.int .i64 3),(.int .i64 0),(.int .i64 10)])) (Eos.parts (l:=[.const (.int .i64 3),.const (.int .i64 10)]) (.cons rfl (.cons rfl .nil)) [0,2]) (fun _=>by kernel_rfl)) ?_
  refine WL.new (dd:=60) rfl rfl rfl (yA (cs:=([(⟨0,0,10⟩ : zSt),(⟨3,0,10⟩ : zSt)] : List zSt).flatMap e58) y77 (Eos.parts (l:=[.tmp 58,.tmp 59]) (.cons rfl (.cons rfl .nil)) [0,1]) (fun _=>by kernel_rfl) rfl (by unfold maxLen; omega)) ?_
  intro zKj _
  refine WL.pu rfl (WL.nil (WX.a (WC.b ?_)))
  obtain ⟨z9S,zCY,h⟩:=z8 h
  refine WC.a (WL.pu rfl ?_)
  refine WL.y6s (dd:=63) rfl rfl rfl (za (l:=[.tmp 62,.const (.int .i64 2),.const (.int .i64 5)]) Tryz.call8 (.cons rfl (.cons rfl (.cons rfl .nil)))) .nil (cclz hz .nil .h2 (.cons .here .nil) fun w pz ho la=>y9q _ _ _ _ _ _ _ zCY w pz (ZA.row (la _ (.head _) _) (RR.flat (enc:=e58) (fun _=>rfl) _) ⟨w,pz.1⟩)) ?_
  rintro zn0 zn1 _
  refine WL.pu rfl (WL.pu rfl (WL.pu rfl (WL.pu rfl (WL.pu rfl (WL.nil (WX.a (WC.b ?_)))))))
  obtain ⟨ztv,zCZ,h⟩:=z8 h
  obtain ⟨ztw,zD0,h⟩:=z8 h
  obtain ⟨zmR,zD1,h⟩:=z8 h
  obtain ⟨z5r,zD2,h⟩:=z8 h
  refine WC.a ?_
  refine WL.b (dd:=67) rfl rfl rfl (za (l:=[.const (.int .i64 10),.const (.int .i64 1)]) Tryz.call20 (.cons rfl (.cons rfl .nil))) .nil (ccz hz .nil .h3 fun w pz ho=>y1O _ _ _ _ zCZ w pz ) ?_
  refine WL.b (dd:=68) rfl rfl rfl (za (l:=[.const (.int .i64 4),.const (.int .i64 1)]) Tryz.call20 (.cons rfl (.cons rfl .nil))) .nil (ccz hz .nil .h3 fun w pz ho=>y1O _ _ _ _ zD0 w pz ) ?_
  refine WL.b (dd:=69) rfl rfl rfl (za (l:=[.tmp 67,.tmp 68]) Tryz.call19 (.cons rfl (.cons rfl .nil))) .nil (ccz hz .nil .h3 fun w pz ho=>y4s _ _ _ _ zD1 w pz ) ?_
  refine WL.new (dd:=70) rfl rfl rfl (yA (cs:=([zmR] : List z2).flatMap e54) yS (Eos.parts (l:=[.tmp 69]) (.cons rfl .nil) [0]) (fun _=>by kernel_rfl) rfl (by unfold maxLen; omega)) ?_
  intro zKk _
  refine WL.pu rfl ?_
  refine WL.b (dd:=72) rfl rfl rfl (za (l:=[.tmp 70,.tmp 71]) Tryz.call6 (.cons rfl (.cons rfl .nil))) .nil (cclz hz .nil .h4 (.cons .here (.cons .h1 .nil)) fun w pz ho la=>y6d _ _ _ _ _ _ _ _ zD2 w pz (ZA.row (la _ (.head _) _) (RR.flat (enc:=e54) (fun _=>rfl) _) ⟨w,pz.1⟩) (ZA.row (la _ (.tail _ (.head _)) _) (RR.flat (enc:=e58) (fun _=>rfl) _) ⟨w,pz.1⟩)) ?_
  refine WL.pu rfl (WL.pu rfl (WL.pu rfl (WL.pu rfl (WL.pu rfl (WL.nil (WX.a (WC.b ?_)))))))
  obtain ⟨ztx,zD3,h⟩:=z8 h
  obtain ⟨zty,zD4,h⟩:=z8 h
  obtain ⟨zmS,zD5,h⟩:=z8 h
  obtain ⟨z6t,zD6,h⟩:=z8 h
  refine WC.a ?_
  refine WL.b (dd:=76) rfl rfl rfl (za (l:=[.const (.int .i64 10),.const (.int .i64 1)]) Tryz.call20 (.cons rfl (.cons rfl .nil))) .nil (ccz hz .nil .h4 fun w pz ho=>y1O _ _ _ _ zD3 w pz ) ?_
  refine WL.b (dd:=77) rfl rfl rfl (za (l:=[.const (.int .i64 3),.const (.int .i64 1)]) Tryz.call20 (.cons rfl (.cons rfl .nil))) .nil (ccz hz .nil .h4 fun w pz ho=>y1O _ _ _ _ zD4 w pz ) ?_
  refine WL.b (dd:=78) rfl rfl rfl (za (l:=[.tmp 76,.tmp 77]) Tryz.call19 (.cons rfl (.cons rfl .nil))) .nil (ccz hz .nil .h4 fun w pz ho=>y4s _ _ _ _ zD5 w pz ) ?_
  refine WL.new (dd:=79) rfl rfl rfl (yA (cs:=([zmS] : List z2).flatMap e54) yS (Eos.parts (l:=[.tmp 78]) (.cons rfl .nil) [0]) (fun _=>by kernel_rfl) rfl (by unfold maxLen; omega)) ?_
  intro zKl _
  refine WL.pu rfl ?_
  refine WL.b (dd:=81) rfl rfl rfl (za (l:=[.tmp 79,.tmp 80]) Tryz.call6 (.cons rfl (.cons rfl .nil))) .nil (cclz hz .nil .h5 (.cons .here (.cons .h2 .nil)) fun w pz ho la=>y6d _ _ _ _ _ _ _ _ zD6 w pz (ZA.row (la _ (.head _) _) (RR.flat (enc:=e54) (fun _=>rfl) _) ⟨w,pz.1⟩) (ZA.row (la _ (.tail _ (.head _)) _) (RR.flat (enc:=e58) (fun _=>rfl) _) ⟨w,pz.1⟩)) ?_
  refine WL.pu rfl (WL.pu rfl (WL.pu rfl (WL.pu rfl (WL.pu rfl (WL.nil (WX.a (WC.b ?_)))))))
  obtain ⟨zg4,ztB,h⟩:=z8 h
  obtain ⟨zg5,ztC,h⟩:=z8 h
  obtain ⟨zg6,ztD,h⟩:=z8 h
  obtain ⟨z8j,ztE,h⟩:=z8 h
  refine WC.yH (fun i=>[].contains i) [] rfl ?_
  refine WD.a (i:=0) (d:=84) (by kernel_rfl) rfl z6 z7 rfl rfl rfl (fun _=>q_m rfl) ?_
  refine WD.a (i:=1) (d:=85) (by kernel_rfl) rfl z6 z7 rfl rfl rfl (fun _=>q_m rfl) ?_
  refine WD.a (i:=2) (d:=86) (by kernel_rfl) rfl z6 z7 rfl rfl rfl (fun _=>y80 rfl rfl rfl) ?_
  refine WD.a (i:=3) (d:=87) (by kernel_rfl) rfl z6 z7 rfl rfl rfl (fun _=>q_m rfl) ?_
  refine WD.a (i:=4) (d:=88) (by kernel_rfl) rfl z6 z7 rfl rfl rfl (fun _=>y80 rfl rfl rfl) ?_
  refine WD.a (i:=5) (d:=89) (by kernel_rfl) rfl z6 z7 rfl rfl rfl (fun _=>q_m rfl) ?_
  refine WD.a (i:=6) (d:=90) (by kernel_rfl) rfl z6 z7 rfl rfl rfl (fun _=>y80 rfl rfl rfl) ?_
  refine WD.a (i:=7) (d:=91) (by kernel_rfl) rfl z6 z7 rfl rfl rfl (fun _=>q_m rfl) ?_
  refine WD.a (i:=8) (d:=92) (by kernel_rfl) rfl z6 z7 rfl rfl rfl (fun _=>y80 rfl rfl rfl) ?_
  refine WD.a (i:=9) (d:=93) (by kernel_rfl) rfl z6 z7 rfl rfl rfl (fun _=>q_m rfl) ?_
  refine WD.a (i:=10) (d:=94) (by kernel_rfl) rfl z6 z7 rfl rfl rfl (fun _=>y80 rfl rfl rfl) ?_
  refine WD.a (i:=11) (d:=95) (by kernel_rfl) rfl z6 z7 rfl rfl rfl (fun _=>y6M rfl rfl) ?_
  refine WD.a (i:=12) (d:=96) (by kernel_rfl) rfl z6 z7 rfl rfl rfl (fun _=>q_m rfl) ?_
  refine WD.mid (fuel':=23) [(6,(.pointer (some ⟨z3Q,0,none⟩))),(8,(.pointer (some ⟨b14o1_47022,0,none⟩))),(11,(.slice zn0 z9S.1.length zn1)),(13,(.bool z5r.1)),(15,(.bool z6t.1)),(96,(.bool (decide ((i64 ((i64 ((i64 ((i64 ((i64 (z1t.2 + z1u.2)) + z4x.2)) + z9S.2)) + z5r.2)) + z6t.2)) = 0)))),(100,(.bool zg4))] (yC 40 [16,15,14,13,12,11,10,9,8,7,6,5,4,3,2,1,0]) ?_ (fun ztF=>?_)
  rotate_left
  ·rcases Bool.eq_false_or_eq_true (decide ((i64 ((i64 ((i64 ((i64 ((i64 (z1t.2 + z1u.2)) + z4x.2)) + z9S.2)) + z5r.2)) + z6t.2)) = 0)) with hb' | hb'
   ·have zn2:=hb'; clear hb'
    have zg7:=yd ztB zn2
    obtain ⟨zmT,zD7,zg7⟩:=z8 zg7
    replace zg7:=Option.some.inj zg7
    refine WD.pin (i:=96) rfl zn2 ?_
    refine WD.e (i:=13) (d:=97) (by kernel_rfl) rfl z6 z7 rfl rfl rfl (y9 y5 rfl (y7 .h7) rfl) ?_
    refine WD.c (i:=14) (d:=98) (by kernel_rfl) rfl z6 z7 rfl rfl rfl (za (l:=[.const (.int .i64 176),.const (.int .i64 1)]) Tryz.call20 (.cons rfl (.cons rfl .nil))) (ccz hz .nil .h5 fun w pz ho=>y1O _ _ _ _ zD7 w pz ) ?_
    refine WD.a (i:=15) (d:=99) (by kernel_rfl) rfl z6 z7 rfl rfl rfl (fun _=>y4j (enc:=e40) (a:=z1t.1) (b:=zmT) y6v rfl rfl) ?_
    refine WD.a (i:=16) (d:=100) (by kernel_rfl) rfl z6 z7 rfl rfl rfl (fun _=>y18 rfl rfl) ?_
    refine WD.yt (.cons .here (.cons .here (.cons .here (.cons .here (.cons .here (.cons .here (.cons .here (.cons .here (.cons .here .nil))))))))) ?_ ztF
    exact (.cons rfl (.cons rfl (.cons rfl (.cons rfl (.cons rfl (.cons (zf (Eq.symm zn2)) (.cons (zf zg7) .nil)))))))
   ·have zn3:=hb'; clear hb'
    have zn4:=ye ztB zn3
    replace zn4:=Option.some.inj zn4
    refine WD.pin (i:=96) rfl zn3 ?_
    refine WD.b (i:=13) (d:=97) (by kernel_rfl) rfl z6 z7 rfl rfl rfl ?_
    refine WD.b (i:=14) (d:=98) (by kernel_rfl) rfl z6 z7 rfl rfl rfl ?_
    refine WD.b (i:=15) (d:=99) (by kernel_rfl) rfl z6 z7 rfl rfl rfl ?_
    refine WD.a (i:=16) (d:=100) (by kernel_rfl) rfl z6 z7 rfl rfl rfl (fun _=>y19 rfl rfl) ?_
    refine WD.yt (.cons .here (.cons .here (.cons .here (.cons .here (.cons .here (.cons .here (.cons .here (.cons .here (.cons .here .nil))))))))) ?_ ztF
    exact (.cons rfl (.cons rfl (.cons rfl (.cons rfl (.cons rfl (.cons (zf (Eq.symm zn3)) (.cons (zf zn4) .nil)))))))
  refine WD.d #[true,true,true,true,true,true,true,true,true,true,true,true,true,true,true,true,true,false,false,false,false,false,false,false,false,false,false,false,false,false,false,false,false,false,false,false,false,false,false,false] (by kernel_rfl) ?_
  refine WD.a (i:=17) (d:=101) (by kernel_rfl) rfl z6 z7 rfl rfl rfl (fun _=>q_m rfl) ?_
  refine WD.mid (fuel':=18) [(8,(.pointer (some ⟨b14o1_47022,0,none⟩))),(11,(.slice zn0 z9S.1.length zn1)),(13,(.bool z5r.1)),(15,(.bool z6t.1)),(101,(.bool zg4)),(105,(.bool zg5))] (yC 40 [21,20,19,18,17,16,15,14,13,12,11,10,9,8,7,6,5,4,3,2,1,0]) ?_ (fun ztG=>?_)
  rotate_left
  ·rcases Bool.eq_false_or_eq_true zg4 with hb' | hb'
   ·have zn5:=hb'; clear hb'
    have zg8:=yd ztC zn5
    obtain ⟨zmU,zD8,zg8⟩:=z8 zg8
    replace zg8:=Option.some.inj zg8
    refine WD.pin (i:=101) rfl zn5 ?_
    refine WD.e (i:=18) (d:=102) (by kernel_rfl) rfl z6 z7 rfl rfl rfl (y9 y5 rfl (y7 .h6) rfl) ?_
    refine WD.c (i:=19) (d:=103) (by kernel_rfl) rfl z6 z7 rfl rfl rfl (za (l:=[.const (.int .i64 172),.const (.int .i64 1)]) Tryz.call20 (.cons rfl (.cons rfl .nil))) (ccz hz .nil .h5 fun w pz ho=>y1O _ _ _ _ zD8 w pz ) ?_
    refine WD.a (i:=20) (d:=104) (by kernel_rfl) rfl z6 z7 rfl rfl rfl (fun _=>y4j (enc:=e40) (a:=z1u.1) (b:=zmU) y6v rfl rfl) ?_
    refine WD.a (i:=21) (d:=105) (by kernel_rfl) rfl z6 z7 rfl rfl rfl (fun _=>y18 rfl rfl) ?_
    refine WD.yt (.cons .here (.cons .here (.cons .here (.cons .here (.cons .here (.cons .here (.cons .here (.cons .here (.cons .here .nil))))))))) ?_ ztG
    exact (.cons rfl (.cons rfl (.cons rfl (.cons rfl (.cons (zf (Eq.symm zn5)) (.cons (zf zg8) .nil))))))
   ·have zn6:=hb'; clear hb'
    have zn7:=ye ztC zn6
    replace zn7:=Option.some.inj zn7
    refine WD.pin (i:=101) rfl zn6 ?_
    refine WD.b (i:=18) (d:=102) (by kernel_rfl) rfl z6 z7 rfl rfl rfl ?_
    refine WD.b (i:=19) (d:=103) (by kernel_rfl) rfl z6 z7 rfl rfl rfl ?_
    refine WD.b (i:=20) (d:=104) (by kernel_rfl) rfl z6 z7 rfl rfl rfl ?_
    refine WD.a (i:=21) (d:=105) (by kernel_rfl) rfl z6 z7 rfl rfl rfl (fun _=>y19 rfl rfl) ?_
    refine WD.yt (.cons .here (.cons .here (.cons .here (.cons .here (.cons .here (.cons .here (.cons .here (.cons .here (.cons .here .nil))))))))) ?_ ztG
    exact (.cons rfl (.cons rfl (.cons rfl (.cons rfl (.cons (zf (Eq.symm zn6)) (.cons (zf zn7) .nil))))))
  refine WD.d #[true,true,true,true,true,true,true,true,true,true,true,true,true,true,true,true,true,true,true,true,true,true,false,false,false,false,false,false,false,false,false,false,false,false,false,false,false,false,false,false] (by kernel_rfl) ?_
  refine WD.a (i:=22) (d:=106) (by kernel_rfl) rfl z6 z7 rfl rfl rfl (fun _=>q_m rfl) ?_
  refine WD.mid (fuel':=13) [(11,(.slice zn0 z9S.1.length zn1)),(13,(.bool z5r.1)),(15,(.bool z6t.1)),(106,(.bool zg5)),(110,(.bool zg6))] (yC 40 [26,25,24,23,22,21,20,19,18,17,16,15,14,13,12,11,10,9,8,7,6,5,4,3,2,1,0]) ?_ (fun ztH=>?_)
  rotate_left
  ·rcases Bool.eq_false_or_eq_true zg5 with hb' | hb'
   ·have zn8:=hb'; clear hb'
    have zg9:=yd ztD zn8
    obtain ⟨zmV,zD9,zg9⟩:=z8 zg9
    replace zg9:=Option.some.inj zg9
    refine WD.pin (i:=106) rfl zn8 ?_
    refine WD.e (i:=23) (d:=107) (by kernel_rfl) rfl z6 z7 rfl rfl rfl (y9 y5 rfl (y7 .h4) rfl) ?_
    refine WD.c (i:=24) (d:=108) (by kernel_rfl) rfl z6 z7 rfl rfl rfl (za (l:=[.const (.int .i64 146),.const (.int .i64 1)]) Tryz.call20 (.cons rfl (.cons rfl .nil))) (ccz hz .nil .h5 fun w pz ho=>y1O _ _ _ _ zD9 w pz ) ?_
    refine WD.a (i:=25) (d:=109) (by kernel_rfl) rfl z6 z7 rfl rfl rfl (fun _=>y4j (enc:=e40) (a:=z4x.1) (b:=zmV) y6v rfl rfl) ?_
    refine WD.a (i:=26) (d:=110) (by kernel_rfl) rfl z6 z7 rfl rfl rfl (fun _=>y18 rfl rfl) ?_
    refine WD.yt (.cons .here (.cons .here (.cons .here (.cons .here (.cons .here (.cons .here (.cons .here (.cons .here (.cons .here .nil))))))))) ?_ ztH
    exact (.cons rfl (.cons rfl (.cons rfl (.cons (zf (Eq.symm zn8)) (.cons (zf zg9) .nil)))))
   ·have zn9:=hb'; clear hb'
    have zna:=ye ztD zn9
    replace zna:=Option.some.inj zna
    refine WD.pin (i:=106) rfl zn9 ?_
    refine WD.b (i:=23) (d:=107) (by kernel_rfl) rfl z6 z7 rfl rfl rfl ?_
    refine WD.b (i:=24) (d:=108) (by kernel_rfl) rfl z6 z7 rfl rfl rfl ?_
    refine WD.b (i:=25) (d:=109) (by kernel_rfl) rfl z6 z7 rfl rfl rfl ?_
    refine WD.a (i:=26) (d:=110) (by kernel_rfl) rfl z6 z7 rfl rfl rfl (fun _=>y19 rfl rfl) ?_
    refine WD.yt (.cons .here (.cons .here (.cons .here (.cons .here (.cons .here (.cons .here (.cons .here (.cons .here (.cons .here .nil))))))))) ?_ ztH
    exact (.cons rfl (.cons rfl (.cons rfl (.cons (zf (Eq.symm zn9)) (.cons (zf zna) .nil)))))
  refine WD.d #[true,true,true,true,true,true,true,true,true,true,true,true,true,true,true,true,true,true,true,true,true,true,true,true,true,true,true,false,false,false,false,false,false,false,false,false,false,false,false,false] (by kernel_rfl) ?_
  refine WD.a (i:=27) (d:=111) (by kernel_rfl) rfl z6 z7 rfl rfl rfl (fun _=>q_m rfl) ?_
  refine WD.mid (fuel':=8) [(13,(.bool z5r.1)),(15,(.bool z6t.1)),(111,(.bool zg6)),(115,(.bool z8j))] (yC 40 [31,30,29,28,27,26,25,24,23,22,21,20,19,18,17,16,15,14,13,12,11,10,9,8,7,6,5,4,3,2,1,0]) ?_ (fun ztI=>?_)
  rotate_left
  ·rcases Bool.eq_false_or_eq_true zg6 with hb' | hb'
   ·have znb:=hb'; clear hb'
    have zga:=yd ztE znb
    obtain ⟨ztz,zDa,zga⟩:=z8 zga
    replace zga:=Option.some.inj zga
    refine WD.pin (i:=111) rfl znb ?_
    refine WD.a (i:=28) (d:=112) (by kernel_rfl) rfl z6 z7 rfl rfl rfl (fun _=>q_m rfl) ?_
    refine WD.new (i:=29) (dd:=113) rfl (by kernel_rfl) rfl rfl rfl (yA (cs:=([25,45] : List Int).flatMap e3) y8B (Eos.parts (l:=[.const (.int .i64 25),.const (.int .i64 45)]) (.cons rfl (.cons rfl .nil)) [0,1]) (fun _=>by kernel_rfl) rfl (by unfold maxLen; omega)) (fun h'=>absurd h' (by decide)) ?_
    intro zKm _
    refine WD.c (i:=30) (d:=114) (by kernel_rfl) rfl z6 z7 rfl rfl rfl (za (l:=[.tmp 112,.tmp 113]) Tryz.call10 (.cons rfl (.cons rfl .nil))) (cclz hz .nil .h6 (.cons .h3 (.cons .here .nil)) fun w pz ho la=>yaY _ _ _ _ _ _ _ _ zDa w pz (ZA.row (la _ (.head _) _) (RR.flat (enc:=e3) (fun _=>rfl) _) ⟨w,pz.1⟩) (ZA.row (la _ (.tail _ (.head _)) _) (RR.flat (enc:=e3) (fun _=>rfl) _) ⟨w,pz.1⟩)) ?_
    refine WD.a (i:=31) (d:=115) (by kernel_rfl) rfl z6 z7 rfl rfl rfl (fun _=>y18 rfl rfl) ?_
    refine WD.yt (.cons .h1 (.cons .h1 (.cons .h1 (.cons .h1 (.cons .h1 (.cons .h1 (.cons .h1 (.cons .h1 (.cons .h1 .nil))))))))) ?_ ztI
    exact (.cons rfl (.cons rfl (.cons (zf (Eq.symm znb)) (.cons (zf zga) .nil))))
   ·have znc:=hb'; clear hb'
    have znd:=ye ztE znc
    replace znd:=Option.some.inj znd
    refine WD.pin (i:=111) rfl znc ?_
    refine WD.b (i:=28) (d:=112) (by kernel_rfl) rfl z6 z7 rfl rfl rfl ?_
    refine WD.b (i:=29) (d:=113) (by kernel_rfl) rfl z6 z7 rfl rfl rfl ?_
    refine WD.b (i:=30) (d:=114) (by kernel_rfl) rfl z6 z7 rfl rfl rfl ?_
    refine WD.a (i:=31) (d:=115) (by kernel_rfl) rfl z6 z7 rfl rfl rfl (fun _=>y19 rfl rfl) ?_
    refine WD.yt (.cons .here (.cons .here (.cons .here (.cons .here (.cons .here (.cons .here (.cons .here (.cons .here (.cons .here .nil))))))))) ?_ ztI
    exact (.cons rfl (.cons rfl (.cons (zf (Eq.symm znc)) (.cons (zf znd) .nil))))
  refine WD.d #[true,true,true,true,true,true,true,true,true,true,true,true,true,true,true,true,true,true,true,true,true,true,true,true,true,true,true,true,true,true,true,true,false,false,false,false,false,false,false,false] (by kernel_rfl) ?_
  refine WD.a (i:=32) (d:=116) (by kernel_rfl) rfl z6 z7 rfl rfl rfl (fun _=>q_m rfl) ?_
  refine WD.mid (fuel':=5) [(15,(.bool z6t.1)),(116,(.bool z8j)),(118,(.bool (z8j && z5r.1)))] (yC 40 [34,33,32,31,30,29,28,27,26,25,24,23,22,21,20,19,18,17,16,15,14,13,12,11,10,9,8,7,6,5,4,3,2,1,0]) ?_ (fun ztJ=>?_)
  rotate_left
  ·rcases Bool.eq_false_or_eq_true z8j with hb' | hb'
   ·have zne:=hb'; clear hb'
    refine WD.pin (i:=116) rfl zne ?_
    refine WD.a (i:=33) (d:=117) (by kernel_rfl) rfl z6 z7 rfl rfl rfl (fun _=>q_m rfl) ?_
    refine WD.a (i:=34) (d:=118) (by kernel_rfl) rfl z6 z7 rfl rfl rfl (fun _=>y18 rfl rfl) ?_
    refine WD.yt (.cons .here (.cons .here (.cons .here (.cons .here (.cons .here (.cons .here (.cons .here (.cons .here (.cons .here .nil))))))))) ?_ ztJ
    exact (.cons rfl (.cons (zf (Eq.symm zne)) (.cons (zf (y31 zne)) .nil)))
   ·have znf:=hb'; clear hb'
    refine WD.pin (i:=116) rfl znf ?_
    refine WD.b (i:=33) (d:=117) (by kernel_rfl) rfl z6 z7 rfl rfl rfl ?_
    refine WD.a (i:=34) (d:=118) (by kernel_rfl) rfl z6 z7 rfl rfl rfl (fun _=>y19 rfl rfl) ?_
    refine WD.yt (.cons .here (.cons .here (.cons .here (.cons .here (.cons .here (.cons .here (.cons .here (.cons .here (.cons .here .nil))))))))) ?_ ztJ
    exact (.cons rfl (.cons (zf (Eq.symm znf)) (.cons (zf (y30 znf)) .nil)))
  refine WD.d #[true,true,true,true,true,true,true,true,true,true,true,true,true,true,true,true,true,true,true,true,true,true,true,true,true,true,true,true,true,true,true,true,true,true,true,false,false,false,false,false] (by kernel_rfl) ?_
  refine WD.a (i:=35) (d:=119) (by kernel_rfl) rfl z6 z7 rfl rfl rfl (fun _=>q_m rfl) ?_
  refine WD.mid (fuel':=1) [(119,(.bool (z8j && z5r.1))),(122,(.bool ((z8j && z5r.1) && (!z6t.1))))] (yC 40 [38,37,36,35,34,33,32,31,30,29,28,27,26,25,24,23,22,21,20,19,18,17,16,15,14,13,12,11,10,9,8,7,6,5,4,3,2,1,0]) ?_ (fun ztK=>?_)
  rotate_left
  ·rcases Bool.eq_false_or_eq_true (z8j && z5r.1) with hb' | hb'
   ·have zng:=hb'; clear hb'
    refine WD.pin (i:=119) rfl zng ?_
    refine WD.a (i:=36) (d:=120) (by kernel_rfl) rfl z6 z7 rfl rfl rfl (fun _=>q_m rfl) ?_
    refine WD.a (i:=37) (d:=121) (by kernel_rfl) rfl z6 z7 rfl rfl rfl (fun _=>q_not rfl) ?_
    refine WD.a (i:=38) (d:=122) (by kernel_rfl) rfl z6 z7 rfl rfl rfl (fun _=>y18 rfl rfl) ?_
    refine WD.yt (.cons .here (.cons .here (.cons .here (.cons .here (.cons .here (.cons .here (.cons .here (.cons .here (.cons .here .nil))))))))) ?_ ztK
    exact (.cons (zf (Eq.symm zng)) (.cons (zf (y31 zng)) .nil))
   ·have znh:=hb'; clear hb'
    refine WD.pin (i:=119) rfl znh ?_
    refine WD.b (i:=36) (d:=120) (by kernel_rfl) rfl z6 z7 rfl rfl rfl ?_
    refine WD.b (i:=37) (d:=121) (by kernel_rfl) rfl z6 z7 rfl rfl rfl ?_
    refine WD.a (i:=38) (d:=122) (by kernel_rfl) rfl z6 z7 rfl rfl rfl (fun _=>y19 rfl rfl) ?_
    refine WD.yt (.cons .here (.cons .here (.cons .here (.cons .here (.cons .here (.cons .here (.cons .here (.cons .here (.cons .here .nil))))))))) ?_ ztK
    exact (.cons (zf (Eq.symm znh)) (.cons (zf (y30 znh)) .nil))
  refine WD.d #[true,true,true,true,true,true,true,true,true,true,true,true,true,true,true,true,true,true,true,true,true,true,true,true,true,true,true,true,true,true,true,true,true,true,true,true,true,true,true,false] (by kernel_rfl) ?_
  refine WD.a (i:=39) (d:=0) (by kernel_rfl) rfl z6 z7 rfl rfl rfl (fun _=>q_z rfl) ?_
  refine WD.done (by kernel_rfl) ?_
  refine WX.a (WC.ret ?_)
  obtain rfl:=Option.some.inj h
  refine WX.y8 Tryz.results5 (.tmp rfl .nil) (fun w hw=>?_)
  exact ⟨(Zn10o1_47022 ++ Zn10o4_47022),yD rfl,trivial,hw.sub (.cons .h5 .nil)⟩
 refine WD.y83 (fuel':=2) (fun (b6o1_47022 : Nat) (Zn8o1_47022 : Zp) (b8o4_47022 : Nat) (Zn10o1_47022 : Zp) (Zn10o4_47022 : Zp) (b14o1_47022 : Nat)=>[(4,(.pointer (some ⟨z48,0,none⟩))),(5,(.int .i64 z1t.2)),(6,(.pointer (some ⟨z3Q,0,none⟩))),(7,(.int .i64 z1u.2)),(56,(.agg #[(.int .i64 z4x.1.fN),(.int .i64 z4x.1.fD)])),(57,(.int .i64 z4x.2)),(8,(.pointer (some ⟨b14o1_47022,0,none⟩)))]) (fun (b6o1_47022 : Nat) (Zn8o1_47022 : Zp) (b8o4_47022 : Nat) (Zn10o1_47022 : Zp) (Zn10o4_47022 : Zp) (b14o1_47022 : Nat)=>[stb b14o1_47022 40 [(.int .i64 0),(.int .i64 0)],fz (Zn10o1_47022 ++ Zn10o4_47022),stb z3Q 40 [(.int .i64 z1u.1.fN),(.int .i64 z1u.1.fD)],stb z48 40 [(.int .i64 z1t.1.fN),(.int .i64 z1t.1.fD)],stb z9T 42 [(.int .i64 z1n.fN),(.int .i64 z1n.fD),(.int .i64 z1o.fN),(.int .i64 z1o.fD)]]) (fun (b6o1_47022 : Nat) (Zn8o1_47022 : Zp) (b8o4_47022 : Nat) (Zn10o1_47022 : Zp) (Zn10o4_47022 : Zp) (b14o1_47022 : Nat)=>(Zle (Z ++ (z8k ++ z8l)) (Z ++ Zn8o1_47022)) ∧ (ZS (Z ++ Zn8o1_47022) 4 (fun r x=>r = e54 x) (some ⟨b6o1_47022,0,none⟩) 2 ([(⟨(⟨(((nth ([zb] : List z2) 0).fB).fN),(((nth ([zb] : List z2) 0).fB).fD)⟩ : z1),(⟨(((nth ([zb] : List z2) 0).fR).fN),(((nth ([zb] : List z2) 0).fR).fD)⟩ : z1)⟩ : z2),zC] : List z2)) ∧ (RR 1 (p23 (Z ++ Zn8o1_47022)) [(.slice (some ⟨b6o1_47022,0,none⟩) (([(⟨(⟨(((nth ([zb] : List z2) 0).fB).fN),(((nth ([zb] : List z2) 0).fB).fD)⟩ : z1),(⟨(((nth ([zb] : List z2) 0).fR).fN),(((nth ([zb] : List z2) 0).fR).fD)⟩ : z1)⟩ : z2),zC] : List z2).length) 2),(.slice (some ⟨z2E,0,none⟩) (([zD] : List z2).length) 1)] ([([(⟨(⟨(((nth ([zb] : List z2) 0).fB).fN),(((nth ([zb] : List z2) 0).fB).fD)⟩ : z1),(⟨(((nth ([zb] : List z2) 0).fR).fN),(((nth ([zb] : List z2) 0).fR).fD)⟩ : z1)⟩ : z2),zC] : List z2),([zD] : List z2)] : List (List z2))) ∧ (Zle (Z ++ Zn8o1_47022) (Z ++ Zn10o1_47022)) ∧ (ZS (Z ++ Zn10o1_47022) 1 (p23 (Z ++ Zn10o1_47022)) (some ⟨b8o4_47022,0,none⟩) 2 ([([(⟨(⟨(((nth ([zb] : List z2) 0).fB).fN),(((nth ([zb] : List z2) 0).fB).fD)⟩ : z1),(⟨(((nth ([zb] : List z2) 0).fR).fN),(((nth ([zb] : List z2) 0).fR).fD)⟩ : z1)⟩ : z2),zC] : List z2),([zD] : List z2)] : List (List z2)))) (yC 17 [14,13,12,11,10,8,6,9,7,5,4,3,2,1,0]) ?_ (fun K6o8o10o11o12o13o14_47022=>?_)
 ·skip
  rintro b6o1_47022 Zn8o1_47022 b8o4_47022 Zn10o1_47022 Zn10o4_47022 b14o1_47022 ⟨hle8o2_47022,hf8o3_47022,rel8o5_47022,hle10o2_47022,hf10o3_47022⟩
  refine WD.forced0 (i:=15) rfl (by kernel_rfl) rfl rfl rfl (Sin.of .nil) (ya yh rfl rfl rfl .here rfl rfl rfl) ?_
  refine WD.a (i:=16) (d:=9) (by kernel_rfl) rfl z6 z7 rfl rfl rfl (fun _=>q_z rfl) ?_
  exact WD.yt (.cons .here (.cons .here (.cons .here (.cons .here (.cons .here .nil))))) (.cons rfl (.cons rfl (.cons rfl (.cons rfl (.cons rfl (.cons rfl .nil)))))) (K6o8o10o11o12o13o14o15o16_47022 b6o1_47022 Zn8o1_47022 b8o4_47022 Zn10o1_47022 Zn10o4_47022 b14o1_47022 ⟨hle8o2_47022,hf8o3_47022,rel8o5_47022,hle10o2_47022,hf10o3_47022⟩)
 refine WD.mids5 (fuel':=3) (fun (b6o1_47022 : Nat) (Zn8o1_47022 : Zp) (b8o4_47022 : Nat) (Zn10o1_47022 : Zp) (Zn10o4_47022 : Zp)=>[(4,(.pointer (some ⟨z48,0,none⟩))),(5,(.int .i64 z1t.2)),(6,(.pointer (some ⟨z3Q,0,none⟩))),(7,(.int .i64 z1u.2)),(56,(.agg #[(.int .i64 z4x.1.fN),(.int .i64 z4x.1.fD)])),(57,(.int .i64 z4x.2))]) (fun (b6o1_47022 : Nat) (Zn8o1_47022 : Zp) (b8o4_47022 : Nat) (Zn10o1_47022 : Zp) (Zn10o4_47022 : Zp)=>[fz (Zn10o1_47022 ++ Zn10o4_47022),stb z3Q 40 [(.int .i64 z1u.1.fN),(.int .i64 z1u.1.fD)],stb z48 40 [(.int .i64 z1t.1.fN),(.int .i64 z1t.1.fD)],stb z9T 42 [(.int .i64 z1n.fN),(.int .i64 z1n.fD),(.int .i64 z1o.fN),(.int .i64 z1o.fD)]]) (fun (b6o1_47022 : Nat) (Zn8o1_47022 : Zp) (b8o4_47022 : Nat) (Zn10o1_47022 : Zp) (Zn10o4_47022 : Zp)=>(Zle (Z ++ (z8k ++ z8l)) (Z ++ Zn8o1_47022)) ∧ (ZS (Z ++ Zn8o1_47022) 4 (fun r x=>r = e54 x) (some ⟨b6o1_47022,0,none⟩) 2 ([(⟨(⟨(((nth ([zb] : List z2) 0).fB).fN),(((nth ([zb] : List z2) 0).fB).fD)⟩ : z1),(⟨(((nth ([zb] : List z2) 0).fR).fN),(((nth ([zb] : List z2) 0).fR).fD)⟩ : z1)⟩ : z2),zC] : List z2)) ∧ (RR 1 (p23 (Z ++ Zn8o1_47022)) [(.slice (some ⟨b6o1_47022,0,none⟩) (([(⟨(⟨(((nth ([zb] : List z2) 0).fB).fN),(((nth ([zb] : List z2) 0).fB).fD)⟩ : z1),(⟨(((nth ([zb] : List z2) 0).fR).fN),(((nth ([zb] : List z2) 0).fR).fD)⟩ : z1)⟩ : z2),zC] : List z2).length) 2),(.slice (some ⟨z2E,0,none⟩) (([zD] : List z2).length) 1)] ([([(⟨(⟨(((nth ([zb] : List z2) 0).fB).fN),(((nth ([zb] : List z2) 0).fB).fD)⟩ : z1),(⟨(((nth ([zb] : List z2) 0).fR).fN),(((nth ([zb] : List z2) 0).fR).fD)⟩ : z1)⟩ : z2),zC] : List z2),([zD] : List z2)] : List (List z2))) ∧ (Zle (Z ++ Zn8o1_47022) (Z ++ Zn10o1_47022)) ∧ (ZS (Z ++ Zn10o1_47022) 1 (p23 (Z ++ Zn10o1_47022)) (some ⟨b8o4_47022,0,none⟩) 2 ([([(⟨(⟨(((nth ([zb] : List z2) 0).fB).fN),(((nth ([zb] : List z2) 0).fB).fD)⟩ : z1),(⟨(((nth ([zb] : List z2) 0).fR).fN),(((nth ([zb] : List z2) 0).fR).fD)⟩ : z1)⟩ : z2),zC] : List z2),([zD] : List z2)] : List (List z2)))) (yC 17 [13,12,11,10,8,6,9,7,5,4,3,2,1,0]) ?_ (fun K6o8o10o11o12o13_47022=>?_)
 ·skip
  rintro b6o1_47022 Zn8o1_47022 b8o4_47022 Zn10o1_47022 Zn10o4_47022 ⟨hle8o2_47022,hf8o3_47022,rel8o5_47022,hle10o2_47022,hf10o3_47022⟩
  refine WD.new (i:=14) (dd:=8) rfl (by kernel_rfl) rfl rfl rfl (yk (cs:=[(.int .i64 0),(.int .i64 0)]) yo rfl) (fun h'=>absurd h' (by decide)) ?_
  intro b14o1_47022 _
  exact WD.yt (.cons .here (.cons .here (.cons .here (.cons .here (.cons .here .nil))))) (.cons rfl (.cons rfl (.cons rfl (.cons rfl (.cons rfl (.cons rfl (.cons rfl .nil))))))) (K6o8o10o11o12o13o14_47022 b6o1_47022 Zn8o1_47022 b8o4_47022 Zn10o1_47022 Zn10o4_47022 b14o1_47022 ⟨hle8o2_47022,hf8o3_47022,rel8o5_47022,hle10o2_47022,hf10o3_47022⟩)
 refine WD.y9g (fuel':=6) (fun (b6o1_47022 : Nat) (Zn8o1_47022 : Zp) (b8o4_47022 : Nat) (b14o1_47022 : Nat)=>[(4,(.pointer (some ⟨z48,0,none⟩))),(5,(.int .i64 z1t.2)),(6,(.pointer (some ⟨z3Q,0,none⟩))),(7,(.int .i64 z1u.2)),(54,(.agg #[(.int .i64 z1n.fN),(.int .i64 z1n.fD),(.int .i64 z1o.fN),(.int .i64 z1o.fD)])),(53,(.slice (some ⟨b8o4_47022,0,none⟩) (([([(⟨(⟨(((nth ([zb] : List z2) 0).fB).fN),(((nth ([zb] : List z2) 0).fB).fD)⟩ : z1),(⟨(((nth ([zb] : List z2) 0).fR).fN),(((nth ([zb] : List z2) 0).fR).fD)⟩ : z1)⟩ : z2),zC] : List z2),([zD] : List z2)] : List (List z2)).length) 2)),(8,(.pointer (some ⟨b14o1_47022,0,none⟩)))]) (fun (b6o1_47022 : Nat) (Zn8o1_47022 : Zp) (b8o4_47022 : Nat) (b14o1_47022 : Nat)=>[stb b14o1_47022 40 [(.int .i64 0),(.int .i64 0)],row (.slice (some ⟨b8o4_47022,0,none⟩) (([([(⟨(⟨(((nth ([zb] : List z2) 0).fB).fN),(((nth ([zb] : List z2) 0).fB).fD)⟩ : z1),(⟨(((nth ([zb] : List z2) 0).fR).fN),(((nth ([zb] : List z2) 0).fR).fD)⟩ : z1)⟩ : z2),zC] : List z2),([zD] : List z2)] : List (List z2)).length) 2) 23 1 [(.slice (some ⟨b6o1_47022,0,none⟩) (([(⟨(⟨(((nth ([zb] : List z2) 0).fB).fN),(((nth ([zb] : List z2) 0).fB).fD)⟩ : z1),(⟨(((nth ([zb] : List z2) 0).fR).fN),(((nth ([zb] : List z2) 0).fR).fD)⟩ : z1)⟩ : z2),zC] : List z2).length) 2),(.slice (some ⟨z2E,0,none⟩) (([zD] : List z2).length) 1)],fz Zn8o1_47022,stb z3Q 40 [(.int .i64 z1u.1.fN),(.int .i64 z1u.1.fD)],stb z48 40 [(.int .i64 z1t.1.fN),(.int .i64 z1t.1.fD)],stb z9T 42 [(.int .i64 z1n.fN),(.int .i64 z1n.fD),(.int .i64 z1o.fN),(.int .i64 z1o.fD)]]) (fun (b6o1_47022 : Nat) (Zn8o1_47022 : Zp) (b8o4_47022 : Nat) (b14o1_47022 : Nat)=>(Zle (Z ++ (z8k ++ z8l)) (Z ++ Zn8o1_47022)) ∧ (ZS (Z ++ Zn8o1_47022) 4 (fun r x=>r = e54 x) (some ⟨b6o1_47022,0,none⟩) 2 ([(⟨(⟨(((nth ([zb] : List z2) 0).fB).fN),(((nth ([zb] : List z2) 0).fB).fD)⟩ : z1),(⟨(((nth ([zb] : List z2) 0).fR).fN),(((nth ([zb] : List z2) 0).fR).fD)⟩ : z1)⟩ : z2),zC] : List z2)) ∧ (RR 1 (p23 (Z ++ Zn8o1_47022)) [(.slice (some ⟨b6o1_47022,0,none⟩) (([(⟨(⟨(((nth ([zb] : List z2) 0).fB).fN),(((nth ([zb] : List z2) 0).fB).fD)⟩ : z1),(⟨(((nth ([zb] : List z2) 0).fR).fN),(((nth ([zb] : List z2) 0).fR).fD)⟩ : z1)⟩ : z2),zC] : List z2).length) 2),(.slice (some ⟨z2E,0,none⟩) (([zD] : List z2).length) 1)] ([([(⟨(⟨(((nth ([zb] : List z2) 0).fB).fN),(((nth ([zb] : List z2) 0).fB).fD)⟩ : z1),(⟨(((nth ([zb] : List z2) 0).fR).fN),(((nth ([zb] : List z2) 0).fR).fD)⟩ : z1)⟩ : z2),zC] : List z2),([zD] : List z2)] : List (List z2)))) (yC 17 [14,8,6,9,7,5,4,3,2,1,0]) ?_ (fun K6o8o14_47022=>?_)
 ·skip
  rintro b6o1_47022 Zn8o1_47022 b8o4_47022 b14o1_47022 ⟨hle8o2_47022,hf8o3_47022,rel8o5_47022⟩
  refine WD.freezeS (ls:=([([(⟨(⟨(((nth ([zb] : List z2) 0).fB).fN),(((nth ([zb] : List z2) 0).fB).fD)⟩ : z1),(⟨(((nth ([zb] : List z2) 0).fR).fN),(((nth ([zb] : List z2) 0).fR).fD)⟩ : z1)⟩ : z2),zC] : List z2),([zD] : List z2)] : List (List z2))) .h1 .h1 hz rel8o5_47022 ?_
  intro Zn10o1_47022 hle10o2_47022 hf10o3_47022
  replace hf10o3_47022:=hf10o3_47022.weak (fun _ _ h=>yG hle10o2_47022 h)
  refine WD.call1 (i:=10) (dd:=55) rfl (by kernel_rfl) rfl rfl rfl (.inr rfl) (za (l:=[.tmp 53,.tmp 54]) Tryz.call11 (.cons rfl (.cons rfl .nil))) .nil (ccz hz .nil .here fun w pz ho=>y4E _ _ _ _ _ _ ztA w pz hf10o3_47022) ?_
  rintro Zn10o4_47022 _
  refine WD.merge .here .here ?_
  refine WD.a (i:=11) (d:=44) (by kernel_rfl) rfl z6 z7 rfl rfl rfl (fun _=>q_m rfl) ?_
  refine WD.a (i:=12) (d:=56) (by kernel_rfl) rfl z6 z7 rfl rfl rfl (fun _=>y1L rfl rfl) ?_
  refine WD.a (i:=13) (d:=57) (by kernel_rfl) rfl z6 z7 rfl rfl rfl (fun _=>y1L rfl rfl) ?_
  exact WD.yt (.cons .h1 (.cons .here (.cons .here (.cons .here (.cons .here .nil))))) (.cons rfl (.cons rfl (.cons rfl (.cons rfl (.cons rfl (.cons rfl (.cons rfl .nil))))))) (K6o8o10o11o12o13o14_47022 b6o1_47022 Zn8o1_47022 b8o4_47022 Zn10o1_47022 Zn10o4_47022 b14o1_47022 ⟨hle8o2_47022,hf8o3_47022,rel8o5_47022,hle10o2_47022,hf10o3_47022⟩)
 refine WD.y9f (fuel':=7) (fun (b6o1_47022 : Nat) (Zn8o1_47022 : Zp) (b8o4_47022 : Nat)=>[(4,(.pointer (some ⟨z48,0,none⟩))),(5,(.int .i64 z1t.2)),(6,(.pointer (some ⟨z3Q,0,none⟩))),(7,(.int .i64 z1u.2)),(54,(.agg #[(.int .i64 z1n.fN),(.int .i64 z1n.fD),(.int .i64 z1o.fN),(.int .i64 z1o.fD)])),(53,(.slice (some ⟨b8o4_47022,0,none⟩) (([([(⟨(⟨(((nth ([zb] : List z2) 0).fB).fN),(((nth ([zb] : List z2) 0).fB).fD)⟩ : z1),(⟨(((nth ([zb] : List z2) 0).fR).fN),(((nth ([zb] : List z2) 0).fR).fD)⟩ : z1)⟩ : z2),zC] : List z2),([zD] : List z2)] : List (List z2)).length) 2))]) (fun (b6o1_47022 : Nat) (Zn8o1_47022 : Zp) (b8o4_47022 : Nat)=>[row (.slice (some ⟨b8o4_47022,0,none⟩) (([([(⟨(⟨(((nth ([zb] : List z2) 0).fB).fN),(((nth ([zb] : List z2) 0).fB).fD)⟩ : z1),(⟨(((nth ([zb] : List z2) 0).fR).fN),(((nth ([zb] : List z2) 0).fR).fD)⟩ : z1)⟩ : z2),zC] : List z2),([zD] : List z2)] : List (List z2)).length) 2) 23 1 [(.slice (some ⟨b6o1_47022,0,none⟩) (([(⟨(⟨(((nth ([zb] : List z2) 0).fB).fN),(((nth ([zb] : List z2) 0).fB).fD)⟩ : z1),(⟨(((nth ([zb] : List z2) 0).fR).fN),(((nth ([zb] : List z2) 0).fR).fD)⟩ : z1)⟩ : z2),zC] : List z2).length) 2),(.slice (some ⟨z2E,0,none⟩) (([zD] : List z2).length) 1)],fz Zn8o1_47022,stb z3Q 40 [(.int .i64 z1u.1.fN),(.int .i64 z1u.1.fD)],stb z48 40 [(.int .i64 z1t.1.fN),(.int .i64 z1t.1.fD)],stb z9T 42 [(.int .i64 z1n.fN),(.int .i64 z1n.fD),(.int .i64 z1o.fN),(.int .i64 z1o.fD)]]) (fun (b6o1_47022 : Nat) (Zn8o1_47022 : Zp) (b8o4_47022 : Nat)=>(Zle (Z ++ (z8k ++ z8l)) (Z ++ Zn8o1_47022)) ∧ (ZS (Z ++ Zn8o1_47022) 4 (fun r x=>r = e54 x) (some ⟨b6o1_47022,0,none⟩) 2 ([(⟨(⟨(((nth ([zb] : List z2) 0).fB).fN),(((nth ([zb] : List z2) 0).fB).fD)⟩ : z1),(⟨(((nth ([zb] : List z2) 0).fR).fN),(((nth ([zb] : List z2) 0).fR).fD)⟩ : z1)⟩ : z2),zC] : List z2)) ∧ (RR 1 (p23 (Z ++ Zn8o1_47022)) [(.slice (some ⟨b6o1_47022,0,none⟩) (([(⟨(⟨(((nth ([zb] : List z2) 0).fB).fN),(((nth ([zb] : List z2) 0).fB).fD)⟩ : z1),(⟨(((nth ([zb] : List z2) 0).fR).fN),(((nth ([zb] : List z2) 0).fR).fD)⟩ : z1)⟩ : z2),zC] : List z2).length) 2),(.slice (some ⟨z2E,0,none⟩) (([zD] : List z2).length) 1)] ([([(⟨(⟨(((nth ([zb] : List z2) 0).fB).fN),(((nth ([zb] : List z2) 0).fB).fD)⟩ : z1),(⟨(((nth ([zb] : List z2) 0).fR).fN),(((nth ([zb] : List z2) 0).fR).fD)⟩ : z1)⟩ : z2),zC] : List z2),([zD] : List z2)] : List (List z2)))) (yC 17 [8,6,9,7,5,4,3,2,1,0]) ?_ (fun K6o8_47022=>?_)
 ·skip
  rintro b6o1_47022 Zn8o1_47022 b8o4_47022 ⟨hle8o2_47022,hf8o3_47022,rel8o5_47022⟩
  refine WD.choose [10,14] (by kernel_rfl) rfl ?_
  refine WDo.cons ?_ (WDo.cons ?_ (WDo.nil))
  ·refine WDo.freezeS (ls:=([([(⟨(⟨(((nth ([zb] : List z2) 0).fB).fN),(((nth ([zb] : List z2) 0).fB).fD)⟩ : z1),(⟨(((nth ([zb] : List z2) 0).fR).fN),(((nth ([zb] : List z2) 0).fR).fD)⟩ : z1)⟩ : z2),zC] : List z2),([zD] : List z2)] : List (List z2))) .here .here hz rel8o5_47022 ?_
   intro Zn10o1_47022 hle10o2_47022 hf10o3_47022
   replace hf10o3_47022:=hf10o3_47022.weak (fun _ _ h=>yG hle10o2_47022 h)
   refine WDo.call1 (i:=10) (dd:=55) rfl rfl rfl rfl (.inr rfl) (za (l:=[.tmp 53,.tmp 54]) Tryz.call11 (.cons rfl (.cons rfl .nil))) .nil (ccz hz .nil .here fun w pz ho=>y4E _ _ _ _ _ _ ztA w pz hf10o3_47022) ?_
   rintro Zn10o4_47022 _
   refine WD.merge .here .here ?_
   refine WD.a (i:=11) (d:=44) (by kernel_rfl) rfl z6 z7 rfl rfl rfl (fun _=>q_m rfl) ?_
   refine WD.a (i:=12) (d:=56) (by kernel_rfl) rfl z6 z7 rfl rfl rfl (fun _=>y1L rfl rfl) ?_
   refine WD.a (i:=13) (d:=57) (by kernel_rfl) rfl z6 z7 rfl rfl rfl (fun _=>y1L rfl rfl) ?_
   exact WD.yt (.cons .here (.cons .here (.cons .here (.cons .here .nil)))) (.cons rfl (.cons rfl (.cons rfl (.cons rfl (.cons rfl (.cons rfl .nil)))))) (K6o8o10o11o12o13_47022 b6o1_47022 Zn8o1_47022 b8o4_47022 Zn10o1_47022 Zn10o4_47022 ⟨hle8o2_47022,hf8o3_47022,rel8o5_47022,hle10o2_47022,hf10o3_47022⟩)
  ·refine WDo.new (i:=14) (dd:=8) rfl rfl rfl rfl (yk (cs:=[(.int .i64 0),(.int .i64 0)]) yo rfl) (fun h'=>absurd h' (by decide)) ?_
   intro b14o1_47022 _
   exact WD.yt (.cons .here (.cons .here (.cons .here (.cons .here (.cons .here (.cons .here .nil)))))) (.cons rfl (.cons rfl (.cons rfl (.cons rfl (.cons rfl (.cons rfl (.cons rfl .nil))))))) (K6o8o14_47022 b6o1_47022 Zn8o1_47022 b8o4_47022 b14o1_47022 ⟨hle8o2_47022,hf8o3_47022,rel8o5_47022⟩)
 refine WD.y9e (fuel':=7) (fun (b6o1_47022 : Nat) (b14o1_47022 : Nat)=>[(4,(.pointer (some ⟨z48,0,none⟩))),(5,(.int .i64 z1t.2)),(6,(.pointer (some ⟨z3Q,0,none⟩))),(7,(.int .i64 z1u.2)),(52,(.slice (some ⟨z2E,0,none⟩) (([zD] : List z2).length) 1)),(54,(.agg #[(.int .i64 z1n.fN),(.int .i64 z1n.fD),(.int .i64 z1o.fN),(.int .i64 z1o.fD)])),(51,(.slice (some ⟨b6o1_47022,0,none⟩) (([(⟨(⟨(((nth ([zb] : List z2) 0).fB).fN),(((nth ([zb] : List z2) 0).fB).fD)⟩ : z1),(⟨(((nth ([zb] : List z2) 0).fR).fN),(((nth ([zb] : List z2) 0).fR).fD)⟩ : z1)⟩ : z2),zC] : List z2).length) 2)),(8,(.pointer (some ⟨b14o1_47022,0,none⟩)))]) (fun (b6o1_47022 : Nat) (b14o1_47022 : Nat)=>[stb b14o1_47022 40 [(.int .i64 0),(.int .i64 0)],row (.slice (some ⟨b6o1_47022,0,none⟩) (([(⟨(⟨(((nth ([zb] : List z2) 0).fB).fN),(((nth ([zb] : List z2) 0).fB).fD)⟩ : z1),(⟨(((nth ([zb] : List z2) 0).fR).fN),(((nth ([zb] : List z2) 0).fR).fD)⟩ : z1)⟩ : z2),zC] : List z2).length) 2) 54 4 (([(⟨(⟨(((nth ([zb] : List z2) 0).fB).fN),(((nth ([zb] : List z2) 0).fB).fD)⟩ : z1),(⟨(((nth ([zb] : List z2) 0).fR).fN),(((nth ([zb] : List z2) 0).fR).fD)⟩ : z1)⟩ : z2),zC] : List z2).flatMap e54),stb z3Q 40 [(.int .i64 z1u.1.fN),(.int .i64 z1u.1.fD)],fz (z8k ++ z8l),stb z48 40 [(.int .i64 z1t.1.fN),(.int .i64 z1t.1.fD)],stb z9T 42 [(.int .i64 z1n.fN),(.int .i64 z1n.fD),(.int .i64 z1o.fN),(.int .i64 z1o.fD)]]) (fun (b6o1_47022 : Nat) (b14o1_47022 : Nat)=>True) (yC 17 [14,6,9,7,5,4,3,2,1,0]) ?_ (fun K6o14_47022=>?_)
 ·skip
  rintro b6o1_47022 b14o1_47022 _
  refine WD.freezeS (ls:=([(⟨(⟨(((nth ([zb] : List z2) 0).fB).fN),(((nth ([zb] : List z2) 0).fB).fD)⟩ : z1),(⟨(((nth ([zb] : List z2) 0).fR).fN),(((nth ([zb] : List z2) 0).fR).fD)⟩ : z1)⟩ : z2),zC] : List z2)) .h1 .h2 hz (RR.flat (enc:=e54) (fun _=>rfl) _) ?_
  intro Zn8o1_47022 hle8o2_47022 hf8o3_47022
  have rel8o5_47022 : RR 1 (p23 (Z ++ Zn8o1_47022)) [(.slice (some ⟨b6o1_47022,0,none⟩) (([(⟨(⟨(((nth ([zb] : List z2) 0).fB).fN),(((nth ([zb] : List z2) 0).fB).fD)⟩ : z1),(⟨(((nth ([zb] : List z2) 0).fR).fN),(((nth ([zb] : List z2) 0).fR).fD)⟩ : z1)⟩ : z2),zC] : List z2).length) 2),(.slice (some ⟨z2E,0,none⟩) (([zD] : List z2).length) 1)] ([([(⟨(⟨(((nth ([zb] : List z2) 0).fB).fN),(((nth ([zb] : List z2) 0).fB).fD)⟩ : z1),(⟨(((nth ([zb] : List z2) 0).fR).fN),(((nth ([zb] : List z2) 0).fR).fD)⟩ : z1)⟩ : z2),zC] : List z2),([zD] : List z2)] : List (List z2)):=(RR.cons (r:=[(.slice (some ⟨b6o1_47022,0,none⟩) (([(⟨(⟨(((nth ([zb] : List z2) 0).fB).fN),(((nth ([zb] : List z2) 0).fB).fD)⟩ : z1),(⟨(((nth ([zb] : List z2) 0).fR).fN),(((nth ([zb] : List z2) 0).fR).fD)⟩ : z1)⟩ : z2),zC] : List z2).length) 2)]) rfl (show p23 _ _ _ from ⟨_,_,rfl,hf8o3_47022⟩) (RR.cons (r:=[(.slice (some ⟨z2E,0,none⟩) (([zD] : List z2).length) 1)]) rfl (show p23 _ _ _ from ⟨_,_,rfl,(zic.mono (zdu.trans ((Zle.left _ _).trans ((Zle.yn _ _ _).trans (zid.trans ((Zle.left _ _).trans ((Zle.yn _ _ _).trans hle8o2_47022)))))))⟩) (RR.nil _ _)))
  refine WD.new (i:=8) (dd:=53) rfl (by kernel_rfl) rfl rfl rfl (yA (cs:=[(.slice (some ⟨b6o1_47022,0,none⟩) (([(⟨(⟨(((nth ([zb] : List z2) 0).fB).fN),(((nth ([zb] : List z2) 0).fB).fD)⟩ : z1),(⟨(((nth ([zb] : List z2) 0).fR).fN),(((nth ([zb] : List z2) 0).fR).fD)⟩ : z1)⟩ : z2),zC] : List z2).length) 2),(.slice (some ⟨z2E,0,none⟩) (([zD] : List z2).length) 1)]) y3X (Eos.parts (l:=[.tmp 51,.tmp 52]) (.cons rfl (.cons rfl .nil)) [0,1]) (fun _=>by kernel_rfl) rfl (by unfold maxLen; omega)) (fun h'=>absurd h' (by decide)) ?_
  intro b8o4_47022 _
  exact WD.yt (.cons .h2 (.cons .here (.cons .here (.cons .here (.cons .here (.cons .here .nil)))))) (.cons rfl (.cons rfl (.cons rfl (.cons rfl (.cons rfl (.cons rfl (.cons rfl .nil))))))) (K6o8o14_47022 b6o1_47022 Zn8o1_47022 b8o4_47022 b14o1_47022 ⟨hle8o2_47022,hf8o3_47022,rel8o5_47022⟩)
 refine WD.y5C (fuel':=8) (fun (b6o1_47022 : Nat)=>[(4,(.pointer (some ⟨z48,0,none⟩))),(5,(.int .i64 z1t.2)),(6,(.pointer (some ⟨z3Q,0,none⟩))),(7,(.int .i64 z1u.2)),(52,(.slice (some ⟨z2E,0,none⟩) (([zD] : List z2).length) 1)),(54,(.agg #[(.int .i64 z1n.fN),(.int .i64 z1n.fD),(.int .i64 z1o.fN),(.int .i64 z1o.fD)])),(51,(.slice (some ⟨b6o1_47022,0,none⟩) (([(⟨(⟨(((nth ([zb] : List z2) 0).fB).fN),(((nth ([zb] : List z2) 0).fB).fD)⟩ : z1),(⟨(((nth ([zb] : List z2) 0).fR).fN),(((nth ([zb] : List z2) 0).fR).fD)⟩ : z1)⟩ : z2),zC] : List z2).length) 2))]) (fun (b6o1_47022 : Nat)=>[row (.slice (some ⟨b6o1_47022,0,none⟩) (([(⟨(⟨(((nth ([zb] : List z2) 0).fB).fN),(((nth ([zb] : List z2) 0).fB).fD)⟩ : z1),(⟨(((nth ([zb] : List z2) 0).fR).fN),(((nth ([zb] : List z2) 0).fR).fD)⟩ : z1)⟩ : z2),zC] : List z2).length) 2) 54 4 (([(⟨(⟨(((nth ([zb] : List z2) 0).fB).fN),(((nth ([zb] : List z2) 0).fB).fD)⟩ : z1),(⟨(((nth ([zb] : List z2) 0).fR).fN),(((nth ([zb] : List z2) 0).fR).fD)⟩ : z1)⟩ : z2),zC] : List z2).flatMap e54),stb z3Q 40 [(.int .i64 z1u.1.fN),(.int .i64 z1u.1.fD)],fz (z8k ++ z8l),stb z48 40 [(.int .i64 z1t.1.fN),(.int .i64 z1t.1.fD)],stb z9T 42 [(.int .i64 z1n.fN),(.int .i64 z1n.fD),(.int .i64 z1o.fN),(.int .i64 z1o.fD)]]) (fun (b6o1_47022 : Nat)=>True) (yC 17 [6,9,7,5,4,3,2,1,0]) ?_ (fun K6_47022=>?_)
 ·skip
  rintro b6o1_47022 _
  refine WD.choose [8,14] (by kernel_rfl) rfl ?_
  refine WDo.cons ?_ (WDo.cons ?_ (WDo.nil))
  ·refine WDo.freezeS (ls:=([(⟨(⟨(((nth ([zb] : List z2) 0).fB).fN),(((nth ([zb] : List z2) 0).fB).fD)⟩ : z1),(⟨(((nth ([zb] : List z2) 0).fR).fN),(((nth ([zb] : List z2) 0).fR).fD)⟩ : z1)⟩ : z2),zC] : List z2)) .here .h1 hz (RR.flat (enc:=e54) (fun _=>rfl) _) ?_
   intro Zn8o1_47022 hle8o2_47022 hf8o3_47022
   have rel8o5_47022 : RR 1 (p23 (Z ++ Zn8o1_47022)) [(.slice (some ⟨b6o1_47022,0,none⟩) (([(⟨(⟨(((nth ([zb] : List z2) 0).fB).fN),(((nth ([zb] : List z2) 0).fB).fD)⟩ : z1),(⟨(((nth ([zb] : List z2) 0).fR).fN),(((nth ([zb] : List z2) 0).fR).fD)⟩ : z1)⟩ : z2),zC] : List z2).length) 2),(.slice (some ⟨z2E,0,none⟩) (([zD] : List z2).length) 1)] ([([(⟨(⟨(((nth ([zb] : List z2) 0).fB).fN),(((nth ([zb] : List z2) 0).fB).fD)⟩ : z1),(⟨(((nth ([zb] : List z2) 0).fR).fN),(((nth ([zb] : List z2) 0).fR).fD)⟩ : z1)⟩ : z2),zC] : List z2),([zD] : List z2)] : List (List z2)):=(RR.cons (r:=[(.slice (some ⟨b6o1_47022,0,none⟩) (([(⟨(⟨(((nth ([zb] : List z2) 0).fB).fN),(((nth ([zb] : List z2) 0).fB).fD)⟩ : z1),(⟨(((nth ([zb] : List z2) 0).fR).fN),(((nth ([zb] : List z2) 0).fR).fD)⟩ : z1)⟩ : z2),zC] : List z2).length) 2)]) rfl (show p23 _ _ _ from ⟨_,_,rfl,hf8o3_47022⟩) (RR.cons (r:=[(.slice (some ⟨z2E,0,none⟩) (([zD] : List z2).length) 1)]) rfl (show p23 _ _ _ from ⟨_,_,rfl,(zic.mono (zdu.trans ((Zle.left _ _).trans ((Zle.yn _ _ _).trans (zid.trans ((Zle.left _ _).trans ((Zle.yn _ _ _).trans hle8o2_47022)))))))⟩) (RR.nil _ _)))
   refine WDo.new (i:=8) (dd:=53) rfl rfl rfl rfl (yA (cs:=[(.slice (some ⟨b6o1_47022,0,none⟩) (([(⟨(⟨(((nth ([zb] : List z2) 0).fB).fN),(((nth ([zb] : List z2) 0).fB).fD)⟩ : z1),(⟨(((nth ([zb] : List z2) 0).fR).fN),(((nth ([zb] : List z2) 0).fR).fD)⟩ : z1)⟩ : z2),zC] : List z2).length) 2),(.slice (some ⟨z2E,0,none⟩) (([zD] : List z2).length) 1)]) y3X (Eos.parts (l:=[.tmp 51,.tmp 52]) (.cons rfl (.cons rfl .nil)) [0,1]) (fun _=>by kernel_rfl) rfl (by unfold maxLen; omega)) (fun h'=>absurd h' (by decide)) ?_
   intro b8o4_47022 _
   exact WD.yt (.cons .here (.cons .here (.cons .here (.cons .here (.cons .here .nil))))) (.cons rfl (.cons rfl (.cons rfl (.cons rfl (.cons rfl (.cons rfl .nil)))))) (K6o8_47022 b6o1_47022 Zn8o1_47022 b8o4_47022 ⟨hle8o2_47022,hf8o3_47022,rel8o5_47022⟩)
  ·refine WDo.new (i:=14) (dd:=8) rfl rfl rfl rfl (yk (cs:=[(.int .i64 0),(.int .i64 0)]) yo rfl) (fun h'=>absurd h' (by decide)) ?_
   intro b14o1_47022 _
   exact WD.yt (.cons .here (.cons .here (.cons .here (.cons .here (.cons .here (.cons .here .nil)))))) (.cons rfl (.cons rfl (.cons rfl (.cons rfl (.cons rfl (.cons rfl (.cons rfl (.cons rfl .nil)))))))) (K6o14_47022 b6o1_47022 b14o1_47022 trivial)
 refine WD.y5C (fuel':=8) (fun (b14o1_47022 : Nat)=>[(4,(.pointer (some ⟨z48,0,none⟩))),(5,(.int .i64 z1t.2)),(6,(.pointer (some ⟨z3Q,0,none⟩))),(7,(.int .i64 z1u.2)),(47,(.agg #[(.int .i64 (((nth ([zb] : List z2) 0).fB).fN)),(.int .i64 (((nth ([zb] : List z2) 0).fB).fD)),(.int .i64 (((nth ([zb] : List z2) 0).fR).fN)),(.int .i64 (((nth ([zb] : List z2) 0).fR).fD))])),(50,(.agg #[(.int .i64 zC.fB.fN),(.int .i64 zC.fB.fD),(.int .i64 zC.fR.fN),(.int .i64 zC.fR.fD)])),(52,(.slice (some ⟨z2E,0,none⟩) (([zD] : List z2).length) 1)),(54,(.agg #[(.int .i64 z1n.fN),(.int .i64 z1n.fD),(.int .i64 z1o.fN),(.int .i64 z1o.fD)])),(8,(.pointer (some ⟨b14o1_47022,0,none⟩)))]) (fun (b14o1_47022 : Nat)=>[stb b14o1_47022 40 [(.int .i64 0),(.int .i64 0)],stb z3Q 40 [(.int .i64 z1u.1.fN),(.int .i64 z1u.1.fD)],fz (z8k ++ z8l),stb z48 40 [(.int .i64 z1t.1.fN),(.int .i64 z1t.1.fD)],stb z9T 42 [(.int .i64 z1n.fN),(.int .i64 z1n.fD),(.int .i64 z1o.fN),(.int .i64 z1o.fD)]]) (fun (b14o1_47022 : Nat)=>True) (yC 17 [14,9,7,5,4,3,2,1,0]) ?_ (fun K14_47022=>?_)
 ·skip
  rintro b14o1_47022 _
  refine WD.new (i:=6) (dd:=51) rfl (by kernel_rfl) rfl rfl rfl (yA (cs:=([(⟨(⟨(((nth ([zb] : List z2) 0).fB).fN),(((nth ([zb] : List z2) 0).fB).fD)⟩ : z1),(⟨(((nth ([zb] : List z2) 0).fR).fN),(((nth ([zb] : List z2) 0).fR).fD)⟩ : z1)⟩ : z2),zC] : List z2).flatMap e54) yS (Eos.parts (l:=[.tmp 47,.tmp 50]) (.cons rfl (.cons rfl .nil)) [0,1]) (fun _=>by kernel_rfl) rfl (by unfold maxLen; omega)) (fun h'=>absurd h' (by decide)) ?_
  intro b6o1_47022 _
  exact WD.yt (.cons .h1 (.cons .here (.cons .here (.cons .here (.cons .here (.cons .here .nil)))))) (.cons rfl (.cons rfl (.cons rfl (.cons rfl (.cons rfl (.cons rfl (.cons rfl (.cons rfl .nil)))))))) (K6o14_47022 b6o1_47022 b14o1_47022 trivial)
 refine WD.choose [6,14] (by kernel_rfl) rfl ?_
 refine WDo.cons ?_ (WDo.cons ?_ (WDo.nil))
 ·refine WDo.new (i:=6) (dd:=51) rfl rfl rfl rfl (yA (cs:=([(⟨(⟨(((nth ([zb] : List z2) 0).fB).fN),(((nth ([zb] : List z2) 0).fB).fD)⟩ : z1),(⟨(((nth ([zb] : List z2) 0).fR).fN),(((nth ([zb] : List z2) 0).fR).fD)⟩ : z1)⟩ : z2),zC] : List z2).flatMap e54) yS (Eos.parts (l:=[.tmp 47,.tmp 50]) (.cons rfl (.cons rfl .nil)) [0,1]) (fun _=>by kernel_rfl) rfl (by unfold maxLen; omega)) (fun h'=>absurd h' (by decide)) ?_
  intro b6o1_47022 _
  exact WD.yt (.cons .here (.cons .here (.cons .here (.cons .here (.cons .here .nil))))) (.cons rfl (.cons rfl (.cons rfl (.cons rfl (.cons rfl (.cons rfl (.cons rfl .nil))))))) (K6_47022 b6o1_47022 trivial)
 ·refine WDo.new (i:=14) (dd:=8) rfl rfl rfl rfl (yk (cs:=[(.int .i64 0),(.int .i64 0)]) yo rfl) (fun h'=>absurd h' (by decide)) ?_
  intro b14o1_47022 _
  exact WD.yt (.cons .here (.cons .here (.cons .here (.cons .here (.cons .here .nil))))) (.cons rfl (.cons rfl (.cons rfl (.cons rfl (.cons rfl (.cons rfl (.cons rfl (.cons rfl (.cons rfl .nil))))))))) (K14_47022 b14o1_47022 trivial)
def y3c (z9U : Int) : Option Int :=
 if decide (z9U ≥ 0) then some (u64 z9U) else some (u64 ((u64 (18446744073709551615 - (u64 z9U))) + 1))
set_option maxRecDepth 20000 in
theorem y52 (Z : Zp)  (z9U : Int) (r : Int)
  (h : y3c z9U = some r) (w₀ : World) (hz : PZ [] w₀ Z) :
  Calls Tryz.prog 65 #[(.int .i64 z9U)] w₀ fun e w'=>e = .returned (.int .u64 r) ∧ Hp [] w₀ w' []:=by
 unfold y3c at h
 refine Calls.yg (vs:=[(.int .i64 z9U)]) (pre:=[]) (env:=[(0,(.int .i64 z9U))]) Tryz.func65 rfl Tryz.ntmps65 rfl (Hp.nil w₀ _) rfl ?_
 refine WC.b (WC.a (WL.pu rfl (WL.nil (WX.a (WC.b (WC.b (WC.a (WL.pu rfl (WL.pu rfl (WL.nil (WX.a ?_)))))))))))
 refine WC.cond rfl (fun zni=>?_) (fun zni=>?_)
 ·replace h:=yd h zni
  refine WC.b (WC.a (WL.pu rfl ?_))
  refine WL.a (d:=6) rfl rfl rfl (y4p Tryz.underlying3 Tryz.underlying99 rfl rfl) ?_
  refine WL.pu rfl (WL.nil (WX.a (WC.ret (WX.y6 ?_))))
  obtain rfl:=Option.some.inj h
  refine WX.y8 Tryz.results65 (.tmp rfl .nil) (fun w hw=>?_)
  exact ⟨yD rfl,hw.sub .nil⟩
 ·replace h:=ye h zni
  refine WC.skip (WX.a (WC.b (WC.a (WL.pu rfl ?_))))
  refine WL.a (d:=8) rfl rfl rfl (y4p Tryz.underlying3 Tryz.underlying99 rfl rfl) ?_
  refine WL.pu rfl (WL.pu rfl (WL.pu rfl (WL.nil (WX.a (WC.ret ?_)))))
  obtain rfl:=Option.some.inj h
  refine WX.y8 Tryz.results65 (.tmp rfl .nil) (fun w hw=>?_)
  exact ⟨yD rfl,hw.sub .nil⟩
def y2x : Nat → Int → Int → Option Int
 | 0,_,_=>none
 | ztL + 1,z3q,z2F=>if decide (z2F = 0) then some z3q else chk ((z2F : Int) ≠ 0) (((y2x ztL) z2F (Int.tmod z3q z2F)).bind fun znj=>some znj)
def y6o (z3q : Int) (z2F : Int) : Option Int:=y2x yu z3q z2F
set_option maxRecDepth 20000 in
theorem y9K : ∀ (n : Nat) (Z : Zp)  (z3q : Int) (z2F : Int) (r : Int) (w₀ : World) (hz : PZ [] w₀ Z) (h : y2x n z3q z2F = some r),Calls Tryz.prog 64 #[(.int .u64 z3q),(.int .u64 z2F)] w₀ fun e w'=>e = .returned (.int .u64 r) ∧ Hp [] w₀ w' []:=by
 intro n
 induction n with
 | zero=>intro Z  z3q z2F r w₀ hz  h ; cases h
 | succ ztL ih =>
  intro Z  z3q z2F r w₀ hz  h 
  rw [y2x] at h
  refine Calls.yg (vs:=[(.int .u64 z3q),(.int .u64 z2F)]) (pre:=[]) (env:=[(0,(.int .u64 z3q)),(1,(.int .u64 z2F))]) Tryz.func64 rfl Tryz.ntmps64 rfl (Hp.nil w₀ _) rfl ?_
  refine WC.b (WC.a (WL.pu rfl (WL.nil (WX.a (WC.b (WC.b (WC.a (WL.pu rfl (WL.pu rfl (WL.nil (WX.a ?_)))))))))))
  refine WC.cond rfl (fun znk=>?_) (fun znk=>?_)
  ·replace h:=yd h znk
   refine WC.b (WC.a (WL.pu rfl (WL.pu rfl (WL.nil (WX.a (WC.ret (WX.y6 ?_)))))))
   obtain rfl:=Option.some.inj h
   refine WX.y8 Tryz.results64 (.tmp rfl .nil) (fun w hw=>?_)
   exact ⟨yD rfl,hw.sub .nil⟩
  ·replace h:=ye h znk
   refine WC.skip (WX.a (WC.b ?_))
   obtain ⟨zDb,h⟩:=yj h
   obtain ⟨znj,zDc,h⟩:=z8 h
   refine WC.a (WL.pu rfl (WL.pu rfl (WL.pu rfl ?_)))
   refine WL.a (d:=11) rfl rfl rfl (q_rem rfl rfl zDb rfl) ?_
   refine WL.b (dd:=12) rfl rfl rfl (za (l:=[.tmp 8,.tmp 11]) Tryz.call64 (.cons rfl (.cons rfl .nil))) .nil (cc hz .nil fun w pz ho=>ih (Z:=_)  (z3q:=z2F) (z2F:=(Int.tmod z3q z2F)) (r:=znj) w pz  zDc) ?_
   refine WL.pu rfl (WL.nil (WX.a (WC.ret ?_)))
   obtain rfl:=Option.some.inj h
   refine WX.y8 Tryz.results64 (.tmp rfl .nil) (fun w hw=>?_)
   exact ⟨yD rfl,hw.sub .nil⟩
theorem y97 (Z : Zp)  (z3q : Int) (z2F : Int) (r : Int) (w₀ : World) (hz : PZ [] w₀ Z) (h : y6o z3q z2F = some r) : Calls Tryz.prog 64 #[(.int .u64 z3q),(.int .u64 z2F)] w₀ fun e w'=>e = .returned (.int .u64 r) ∧ Hp [] w₀ w' []:=y9K yu Z  z3q z2F r w₀ hz  h 
def y1R (zF : z1) : Option Bool :=
 (if (((decide (zF.fD ≥ 1)) && (decide (zF.fD ≤ 1073741824))) && (decide (zF.fN ≥ (-1073741824)))) && (decide (zF.fN ≤ 1073741824)) then (y3c zF.fN).bind fun znl=>(y6o znl (u64 zF.fD)).bind fun znm=>some (decide (znm = 1)) else some false).bind fun znn=>some znn
set_option maxRecDepth 20000 in
theorem y3j (Z : Zp)  (zF : z1) (r : Bool)
  (h : y1R zF = some r) (w₀ : World) (hz : PZ [] w₀ Z) :
  Calls Tryz.prog 45 #[(.agg #[(.int .i64 zF.fN),(.int .i64 zF.fD)])] w₀ fun e w'=>e = .returned (.bool r) ∧ Hp [] w₀ w' []:=by
 unfold y1R at h
 refine Calls.yg (vs:=[(.agg #[(.int .i64 zF.fN),(.int .i64 zF.fD)])]) (pre:=[]) (env:=[(0,(.agg #[(.int .i64 zF.fN),(.int .i64 zF.fD)]))]) Tryz.func45 rfl Tryz.ntmps45 rfl (Hp.nil w₀ _) rfl ?_
 refine WC.b (WC.a ?_)
 refine WL.new (dd:=1) rfl rfl rfl (yx (cs:=[(.int .i64 zF.fN),(.int .i64 zF.fD)]) rfl rfl) ?_
 intro zno _
 refine WL.pu rfl (WL.nil (WX.a (WC.b ?_)))
 obtain ⟨znn,ztM,h⟩:=z8 h
 refine WC.yH (fun i=>[].contains i) [] rfl ?_
 refine WD.a (i:=0) (d:=3) (by kernel_rfl) rfl z6 z7 rfl rfl rfl (fun _=>y4 yN rfl rfl) ?_
 refine WD.e (i:=1) (d:=4) (by kernel_rfl) rfl z6 z7 rfl rfl rfl (yc yr rfl (yp .here rfl)) ?_
 refine WD.a (i:=2) (d:=5) (by kernel_rfl) rfl z6 z7 rfl rfl rfl (fun _=>y9z rfl rfl) ?_
 refine WD.a (i:=3) (d:=6) (by kernel_rfl) rfl z6 z7 rfl rfl rfl (fun _=>q_m rfl) ?_
 refine WD.mid (fuel':=21) [(1,(.pointer (some ⟨zno,0,none⟩))),(2,(.bool false)),(6,(.bool (decide (zF.fD ≥ 1)))),(10,(.bool ((decide (zF.fD ≥ 1)) && (decide (zF.fD ≤ 1073741824)))))] (yC 29 [7,6,5,4,3,2,1,0]) ?_ (fun ztN=>?_)
 rotate_left
 ·rcases Bool.eq_false_or_eq_true (decide (zF.fD ≥ 1)) with hb' | hb'
  ·have znp:=hb'; clear hb'
   refine WD.pin (i:=6) rfl znp ?_
   refine WD.a (i:=4) (d:=7) (by kernel_rfl) rfl z6 z7 rfl rfl rfl (fun _=>y4 yN rfl rfl) ?_
   refine WD.e (i:=5) (d:=8) (by kernel_rfl) rfl z6 z7 rfl rfl rfl (yc yr rfl (yp .here rfl)) ?_
   refine WD.a (i:=6) (d:=9) (by kernel_rfl) rfl z6 z7 rfl rfl rfl (fun _=>y82 rfl rfl) ?_
   refine WD.a (i:=7) (d:=10) (by kernel_rfl) rfl z6 z7 rfl rfl rfl (fun _=>y18 rfl rfl) ?_
   refine WD.yt (.cons .here .nil) ?_ ztN
   exact (.cons rfl (.cons rfl (.cons (zf (Eq.symm znp)) (.cons (zf (y31 znp)) .nil))))
  ·have znq:=hb'; clear hb'
   refine WD.pin (i:=6) rfl znq ?_
   refine WD.b (i:=4) (d:=7) (by kernel_rfl) rfl z6 z7 rfl rfl rfl ?_
   refine WD.b (i:=5) (d:=8) (by kernel_rfl) rfl z6 z7 rfl rfl rfl ?_
   refine WD.b (i:=6) (d:=9) (by kernel_rfl) rfl z6 z7 rfl rfl rfl ?_
   refine WD.a (i:=7) (d:=10) (by kernel_rfl) rfl z6 z7 rfl rfl rfl (fun _=>y19 rfl rfl) ?_
   refine WD.yt (.cons .here .nil) ?_ ztN
   exact (.cons rfl (.cons rfl (.cons (zf (Eq.symm znq)) (.cons (zf (y30 znq)) .nil))))
 refine WD.d #[true,true,true,true,true,true,true,true,false,false,false,false,false,false,false,false,false,false,false,false,false,false,false,false,false,false,false,false,false] (by kernel_rfl) ?_
 refine WD.a (i:=8) (d:=11) (by kernel_rfl) rfl z6 z7 rfl rfl rfl (fun _=>q_m rfl) ?_
 refine WD.mid (fuel':=16) [(1,(.pointer (some ⟨zno,0,none⟩))),(2,(.bool false)),(11,(.bool ((decide (zF.fD ≥ 1)) && (decide (zF.fD ≤ 1073741824))))),(15,(.bool (((decide (zF.fD ≥ 1)) && (decide (zF.fD ≤ 1073741824))) && (decide (zF.fN ≥ (-1073741824))))))] (yC 29 [12,11,10,9,8,7,6,5,4,3,2,1,0]) ?_ (fun ztO=>?_)
 rotate_left
 ·rcases Bool.eq_false_or_eq_true ((decide (zF.fD ≥ 1)) && (decide (zF.fD ≤ 1073741824))) with hb' | hb'
  ·have znr:=hb'; clear hb'
   refine WD.pin (i:=11) rfl znr ?_
   refine WD.a (i:=9) (d:=12) (by kernel_rfl) rfl z6 z7 rfl rfl rfl (fun _=>y4 yL rfl rfl) ?_
   refine WD.e (i:=10) (d:=13) (by kernel_rfl) rfl z6 z7 rfl rfl rfl (yc yr rfl (yp .here rfl)) ?_
   refine WD.a (i:=11) (d:=14) (by kernel_rfl) rfl z6 z7 rfl rfl rfl (fun _=>y9z rfl rfl) ?_
   refine WD.a (i:=12) (d:=15) (by kernel_rfl) rfl z6 z7 rfl rfl rfl (fun _=>y18 rfl rfl) ?_
   refine WD.yt (.cons .here .nil) ?_ ztO
   exact (.cons rfl (.cons rfl (.cons (zf (Eq.symm znr)) (.cons (zf (y31 znr)) .nil))))
  ·have zns:=hb'; clear hb'
   refine WD.pin (i:=11) rfl zns ?_
   refine WD.b (i:=9) (d:=12) (by kernel_rfl) rfl z6 z7 rfl rfl rfl ?_
   refine WD.b (i:=10) (d:=13) (by kernel_rfl) rfl z6 z7 rfl rfl rfl ?_
   refine WD.b (i:=11) (d:=14) (by kernel_rfl) rfl z6 z7 rfl rfl rfl ?_
   refine WD.a (i:=12) (d:=15) (by kernel_rfl) rfl z6 z7 rfl rfl rfl (fun _=>y19 rfl rfl) ?_
   refine WD.yt (.cons .here .nil) ?_ ztO
   exact (.cons rfl (.cons rfl (.cons (zf (Eq.symm zns)) (.cons (zf (y30 zns)) .nil))))
 refine WD.d #[true,true,true,true,true,true,true,true,true,true,true,true,true,false,false,false,false,false,false,false,false,false,false,false,false,false,false,false,false] (by kernel_rfl) ?_
 refine WD.a (i:=13) (d:=16) (by kernel_rfl) rfl z6 z7 rfl rfl rfl (fun _=>q_m rfl) ?_
 refine WD.mid (fuel':=11) [(1,(.pointer (some ⟨zno,0,none⟩))),(2,(.bool false)),(16,(.bool (((decide (zF.fD ≥ 1)) && (decide (zF.fD ≤ 1073741824))) && (decide (zF.fN ≥ (-1073741824)))))),(20,(.bool ((((decide (zF.fD ≥ 1)) && (decide (zF.fD ≤ 1073741824))) && (decide (zF.fN ≥ (-1073741824)))) && (decide (zF.fN ≤ 1073741824)))))] (yC 29 [17,16,15,14,13,12,11,10,9,8,7,6,5,4,3,2,1,0]) ?_ (fun ztP=>?_)
 rotate_left
 ·rcases Bool.eq_false_or_eq_true (((decide (zF.fD ≥ 1)) && (decide (zF.fD ≤ 1073741824))) && (decide (zF.fN ≥ (-1073741824)))) with hb' | hb'
  ·have znt:=hb'; clear hb'
   refine WD.pin (i:=16) rfl znt ?_
   refine WD.a (i:=14) (d:=17) (by kernel_rfl) rfl z6 z7 rfl rfl rfl (fun _=>y4 yL rfl rfl) ?_
   refine WD.e (i:=15) (d:=18) (by kernel_rfl) rfl z6 z7 rfl rfl rfl (yc yr rfl (yp .here rfl)) ?_
   refine WD.a (i:=16) (d:=19) (by kernel_rfl) rfl z6 z7 rfl rfl rfl (fun _=>y82 rfl rfl) ?_
   refine WD.a (i:=17) (d:=20) (by kernel_rfl) rfl z6 z7 rfl rfl rfl (fun _=>y18 rfl rfl) ?_
   refine WD.yt (.cons .here .nil) ?_ ztP
   exact (.cons rfl (.cons rfl (.cons (zf (Eq.symm znt)) (.cons (zf (y31 znt)) .nil))))
  ·have znu:=hb'; clear hb'
   refine WD.pin (i:=16) rfl znu ?_
   refine WD.b (i:=14) (d:=17) (by kernel_rfl) rfl z6 z7 rfl rfl rfl ?_
   refine WD.b (i:=15) (d:=18) (by kernel_rfl) rfl z6 z7 rfl rfl rfl ?_
   refine WD.b (i:=16) (d:=19) (by kernel_rfl) rfl z6 z7 rfl rfl rfl ?_
   refine WD.a (i:=17) (d:=20) (by kernel_rfl) rfl z6 z7 rfl rfl rfl (fun _=>y19 rfl rfl) ?_
   refine WD.yt (.cons .here .nil) ?_ ztP
   exact (.cons rfl (.cons rfl (.cons (zf (Eq.symm znu)) (.cons (zf (y30 znu)) .nil))))
 refine WD.d #[true,true,true,true,true,true,true,true,true,true,true,true,true,true,true,true,true,true,false,false,false,false,false,false,false,false,false,false,false] (by kernel_rfl) ?_
 refine WD.a (i:=18) (d:=21) (by kernel_rfl) rfl z6 z7 rfl rfl rfl (fun _=>q_m rfl) ?_
 refine WD.mid (fuel':=1) [(2,(.bool false)),(21,(.bool ((((decide (zF.fD ≥ 1)) && (decide (zF.fD ≤ 1073741824))) && (decide (zF.fN ≥ (-1073741824)))) && (decide (zF.fN ≤ 1073741824))))),(30,(.bool znn))] (yC 29 [27,26,25,24,23,22,21,20,19,18,17,16,15,14,13,12,11,10,9,8,7,6,5,4,3,2,1,0]) ?_ (fun ztQ=>?_)
 rotate_left
 ·rcases Bool.eq_false_or_eq_true ((((decide (zF.fD ≥ 1)) && (decide (zF.fD ≤ 1073741824))) && (decide (zF.fN ≥ (-1073741824)))) && (decide (zF.fN ≤ 1073741824))) with hb' | hb'
  ·have znv:=hb'; clear hb'
   have zbw:=yd ztM znv
   obtain ⟨znl,zDd,zbw⟩:=z8 zbw
   obtain ⟨znm,zDe,zbw⟩:=z8 zbw
   replace zbw:=Option.some.inj zbw
   refine WD.pin (i:=21) rfl znv ?_
   refine WD.a (i:=19) (d:=22) (by kernel_rfl) rfl z6 z7 rfl rfl rfl (fun _=>y4 yL rfl rfl) ?_
   refine WD.e (i:=20) (d:=23) (by kernel_rfl) rfl z6 z7 rfl rfl rfl (yc yr rfl (yp .here rfl)) ?_
   refine WD.c (i:=21) (d:=24) (by kernel_rfl) rfl z6 z7 rfl rfl rfl (za (l:=[.tmp 23]) Tryz.call65 (.cons rfl .nil)) (cc hz .nil fun w pz ho=>y52 _ _ _ zDd w pz ) ?_
   refine WD.a (i:=22) (d:=25) (by kernel_rfl) rfl z6 z7 rfl rfl rfl (fun _=>y4 yN rfl rfl) ?_
   refine WD.e (i:=23) (d:=26) (by kernel_rfl) rfl z6 z7 rfl rfl rfl (yc yr rfl (yp .here rfl)) ?_
   refine WD.a (i:=24) (d:=27) (by kernel_rfl) rfl z6 z7 rfl rfl rfl (fun _=>y4p Tryz.underlying3 Tryz.underlying99 rfl rfl) ?_
   refine WD.c (i:=25) (d:=28) (by kernel_rfl) rfl z6 z7 rfl rfl rfl (za (l:=[.tmp 24,.tmp 27]) Tryz.call64 (.cons rfl (.cons rfl .nil))) (cc hz .nil fun w pz ho=>y97 (Z:=_)  (z3q:=znl) (z2F:=(u64 zF.fD)) (r:=znm) w pz  zDe) ?_
   refine WD.a (i:=26) (d:=29) (by kernel_rfl) rfl z6 z7 rfl rfl rfl (fun _=>y6M rfl rfl) ?_
   refine WD.a (i:=27) (d:=30) (by kernel_rfl) rfl z6 z7 rfl rfl rfl (fun _=>y18 rfl rfl) ?_
   refine WD.yt (.cons .here .nil) ?_ ztQ
   exact (.cons rfl (.cons (zf (Eq.symm znv)) (.cons (zf zbw) .nil)))
  ·have znw:=hb'; clear hb'
   have znx:=ye ztM znw
   replace znx:=Option.some.inj znx
   refine WD.pin (i:=21) rfl znw ?_
   refine WD.b (i:=19) (d:=22) (by kernel_rfl) rfl z6 z7 rfl rfl rfl ?_
   refine WD.b (i:=20) (d:=23) (by kernel_rfl) rfl z6 z7 rfl rfl rfl ?_
   refine WD.b (i:=21) (d:=24) (by kernel_rfl) rfl z6 z7 rfl rfl rfl ?_
   refine WD.b (i:=22) (d:=25) (by kernel_rfl) rfl z6 z7 rfl rfl rfl ?_
   refine WD.b (i:=23) (d:=26) (by kernel_rfl) rfl z6 z7 rfl rfl rfl ?_
   refine WD.b (i:=24) (d:=27) (by kernel_rfl) rfl z6 z7 rfl rfl rfl ?_
   refine WD.b (i:=25) (d:=28) (by kernel_rfl) rfl z6 z7 rfl rfl rfl ?_
   refine WD.b (i:=26) (d:=29) (by kernel_rfl) rfl z6 z7 rfl rfl rfl ?_
   refine WD.a (i:=27) (d:=30) (by kernel_rfl) rfl z6 z7 rfl rfl rfl (fun _=>y19 rfl rfl) ?_
   refine WD.yt (.cons .here .nil) ?_ ztQ
   exact (.cons rfl (.cons (zf (Eq.symm znw)) (.cons (zf znx) .nil)))
 refine WD.d #[true,true,true,true,true,true,true,true,true,true,true,true,true,true,true,true,true,true,true,true,true,true,true,true,true,true,true,true,false] (by kernel_rfl) ?_
 refine WD.a (i:=28) (d:=2) (by kernel_rfl) rfl z6 z7 rfl rfl rfl (fun _=>q_z rfl) ?_
 refine WD.done (by kernel_rfl) ?_
 refine WX.a (WC.ret ?_)
 obtain rfl:=Option.some.inj h
 refine WX.y8 Tryz.results45 (.tmp rfl .nil) (fun w hw=>?_)
 exact ⟨yD rfl,hw.sub .nil⟩
def y2G (z5s : z1) : Option Bool :=
 (y1R z5s).bind fun zny=>some (zny && (decide (z5s.fN ≥ 0)))
set_option maxRecDepth 20000 in
theorem y65 (Z : Zp)  (z5s : z1) (r : Bool)
  (h : y2G z5s = some r) (w₀ : World) (hz : PZ [] w₀ Z) :
  Calls Tryz.prog 46 #[(.agg #[(.int .i64 z5s.fN),(.int .i64 z5s.fD)])] w₀ fun e w'=>e = .returned (.bool r) ∧ Hp [] w₀ w' []:=by
 unfold y2G at h
 refine Calls.yg (vs:=[(.agg #[(.int .i64 z5s.fN),(.int .i64 z5s.fD)])]) (pre:=[]) (env:=[(0,(.agg #[(.int .i64 z5s.fN),(.int .i64 z5s.fD)]))]) Tryz.func46 rfl Tryz.ntmps46 rfl (Hp.nil w₀ _) rfl ?_
 refine WC.b (WC.a ?_)
 refine WL.new (dd:=1) rfl rfl rfl (yx (cs:=[(.int .i64 z5s.fN),(.int .i64 z5s.fD)]) rfl rfl) ?_
 intro zKn _
 refine WL.pu rfl (WL.nil (WX.a (WC.b ?_)))
 obtain ⟨zny,zDf,h⟩:=z8 h
 refine WC.a ?_
 refine WL.a (d:=3) rfl rfl rfl (y9 y5 rfl (y7 .here) rfl) ?_
 refine WL.b (dd:=4) rfl rfl rfl (za (l:=[.tmp 3]) Tryz.call45 (.cons rfl .nil)) .nil (cc hz .nil fun w pz ho=>y3j _ _ _ zDf w pz ) ?_
 refine WL.pu rfl ?_
 refine WL.seg true 3 5 (B:=zny && (decide (z5s.fN ≥ 0))) rfl rfl rfl rfl rfl rfl (fun h=>(y30 h).symm) (fun _ zDg=>?_) ?_
 ·skip
  refine WL.a (d:=6) rfl rfl rfl (y4 yL rfl rfl) ?_
  refine WL.a (d:=7) rfl rfl rfl (yc yr rfl (yp .here rfl)) ?_
  refine WL.pu rfl (WL.pu rfl ?_)
  exact WL.yw (y31 zDg) rfl rfl .all
 refine WL.pu rfl (WL.nil (WX.a (WC.ret ?_)))
 obtain rfl:=Option.some.inj h
 refine WX.y8 Tryz.results46 (.tmp rfl .nil) (fun w hw=>?_)
 exact ⟨yD rfl,hw.sub .nil⟩
def y2P (z1G : List z2) (z8m : Option Bool) : Nat → Int → Option Bool
 | 0,_=>none
 | znz + 1,z2a=>if decide (z2a < ((z1G.length : Nat) : Int)) then chk ((0 : Int) ≤ z2a ∧ z2a < ((z1G.length : Nat) : Int)) ((y2G (⟨(((nth z1G z2a).fB).fN),(((nth z1G z2a).fB).fD)⟩ : z1)).bind fun ztR=>(if !ztR then some true else chk ((0 : Int) ≤ z2a ∧ z2a < ((z1G.length : Nat) : Int)) ((y2G (⟨(((nth z1G z2a).fR).fN),(((nth z1G z2a).fR).fD)⟩ : z1)).bind fun ztS=>some (!ztS))).bind fun znA=>if znA then some false else y2P z1G z8m znz (i64 (z2a + 1))) else z8m
theorem y7M {n : Nat} {z1G : List z2} {z8m : Option Bool} {z2a : Int} {r : Bool} (h : y2P z1G z8m n z2a = some r) : ∃ m,n = m + 1:=by
 cases n with
 | zero=>cases h
 | succ m=>exact ⟨m,rfl⟩
def y3k (z1G : List z2) : Option Bool :=
 if (decide (((z1G.length : Nat) : Int) < 1)) || (decide (((z1G.length : Nat) : Int) > 32)) then some false else jp0 (some true) fun z8m=>y2P z1G z8m yu 0
set_option maxRecDepth 20000 in
theorem y5y (Z : Zp) (zgb : Option Addr) (zgc : Nat) (z1G : List z2) (r : Bool)
  (h : y3k z1G = some r) (w₀ : World) (hz : PZ [] w₀ Z)
  (ztT : ZS Z 4 (fun r x=>r = e54 x) zgb zgc z1G) :
  Calls Tryz.prog 25 #[(.slice zgb z1G.length zgc)] w₀ fun e w'=>e = .returned (.bool r) ∧ Hp [] w₀ w' []:=by
 unfold y3k at h
 refine Calls.yg (vs:=[(.slice zgb z1G.length zgc)]) (pre:=[]) (env:=[(0,(.slice zgb z1G.length zgc))]) Tryz.func25 rfl Tryz.ntmps25 rfl (Hp.nil w₀ _) rfl ?_
 refine WC.b (WC.a (WL.pu rfl (WL.nil (WX.a (WC.b (WC.b (WC.a (WL.pu rfl ?_))))))))
 refine WL.a (d:=5) rfl rfl rfl (yP Tryz.underlying23 rfl) ?_
 refine WL.pu rfl (WL.pu rfl ?_)
 refine WL.seg false 3 7 (B:=(decide (((z1G.length : Nat) : Int) < 1)) || (decide (((z1G.length : Nat) : Int) > 32))) rfl rfl rfl rfl rfl rfl (fun h=>(y5m h).symm) (fun _ zDh=>?_) ?_
 ·skip
  refine WL.pu rfl ?_
  refine WL.a (d:=9) rfl rfl rfl (yP Tryz.underlying23 rfl) ?_
  refine WL.pu rfl (WL.pu rfl ?_)
  exact WL.yw (y5n zDh) rfl rfl .all
 refine WL.nil (WX.a ?_)
 refine WC.cond rfl (fun znB=>?_) (fun znB=>?_)
 ·replace h:=yd h znB
  refine WC.b (WC.a (WL.pu rfl (WL.nil (WX.a (WC.ret (WX.y6 ?_))))))
  obtain rfl:=Option.some.inj h
  refine WX.y8 Tryz.results25 (.tmp rfl .nil) (fun w hw=>?_)
  exact ⟨yD rfl,hw.sub .nil⟩
 ·replace h:=ye h znB
  refine WC.skip (WX.a ?_)
  obtain ⟨z8m,zDi,h⟩:=y3H h
  refine WC.y2J ((z8m = some r)) ([]) ([]) ?_ ?_
  ·skip
   refine WC.b (WC.a (WL.pu rfl (WL.nil (WX.a (WC.block ?_)))))
   refine WC.y35 (fun (zdv : Nat) (z2a : Int)=>(y2P z1G z8m zdv z2a = some r)) (fun (zdv : Nat) (z2a : Int)=>[(0,(.slice zgb z1G.length zgc)),(3,(.int .i64 z2a))]) (fun (zdv : Nat) (z2a : Int)=>[]) (fun (zdv : Nat) (z2a : Int)=>zdv) ⟨yu,0⟩ h (.cons rfl (.cons rfl .nil)) .nil ?_
   rintro zdv z2a h
   obtain ⟨znz,rfl⟩:=y7M h
   rw [y2P] at h
   refine WC.b (WC.b (WC.a (WL.pu rfl (WL.pu rfl ?_))))
   refine WL.a (d:=14) rfl rfl rfl (yP Tryz.underlying23 rfl) ?_
   refine WL.pu rfl (WL.nil (WX.a ?_))
   refine WC.cond rfl (fun znC=>?_) (fun znC=>?_)
   ·replace h:=yd h znC
    refine WC.skip (WX.a (WC.b (WC.block (WC.b ?_))))
    obtain ⟨zDj,h⟩:=yj h
    obtain ⟨ztR,zDk,h⟩:=z8 h
    obtain ⟨znA,ztU,h⟩:=z8 h
    refine WC.a (WL.pu rfl (WL.pu rfl ?_))
    refine WL.znth (dd:=20) rfl rfl (Z:=Z) (Pr:=(fun r x=>r = e54 x)) yS rfl rfl ztT zDj ?_
    rintro zKo zKp zDl zKq rfl
    refine WL.a (d:=21) rfl rfl rfl (y4 y2B rfl rfl) ?_
    refine WL.a (d:=22) rfl rfl rfl (ys (cs:=[(.int .i64 (((nth z1G z2a).fB).fN)),(.int .i64 (((nth z1G z2a).fB).fD))]) y5 rfl rfl (y3q (off:=0) (s:=2) hz.pv zDl rfl)) ?_
    refine WL.b (dd:=23) rfl rfl rfl (za (l:=[.tmp 22]) Tryz.call46 (.cons rfl .nil)) .nil (cc hz .nil fun w pz ho=>y65 _ _ _ zDk w pz ) ?_
    refine WL.pu rfl (WL.pu rfl ?_)
    refine WL.seg false 7 25 (B:=znA) rfl rfl rfl rfl rfl rfl (fun h=>(Option.some.inj (yd ztU h)).symm) (fun _ zDm=>?_) ?_
    ·skip
     have zbx:=ye ztU zDm
     obtain ⟨zDn,zbx⟩:=yj zbx
     obtain ⟨ztS,zDo,zbx⟩:=z8 zbx
     replace zbx:=Option.some.inj zbx
     refine WL.pu rfl (WL.pu rfl ?_)
     refine WL.znth (dd:=28) rfl rfl (Z:=Z) (Pr:=(fun r x=>r = e54 x)) yS rfl rfl ztT zDn ?_
     rintro zKr zKs zDp zKt rfl
     refine WL.a (d:=29) rfl rfl rfl (y4 y2T rfl rfl) ?_
     refine WL.a (d:=30) rfl rfl rfl (ys (cs:=[(.int .i64 (((nth z1G z2a).fR).fN)),(.int .i64 (((nth z1G z2a).fR).fD))]) y5 rfl rfl (y3q (off:=2) (s:=2) hz.pv zDp rfl)) ?_
     refine WL.b (dd:=31) rfl rfl rfl (za (l:=[.tmp 30]) Tryz.call46 (.cons rfl .nil)) .nil (cc hz .nil fun w pz ho=>y65 _ _ _ zDo w pz ) ?_
     refine WL.pu rfl (WL.pu rfl ?_)
     exact WL.yw zbx rfl rfl .all
    refine WL.nil (WX.a ?_)
    refine WC.cond rfl (fun znD=>?_) (fun znD=>?_)
    ·replace h:=yd h znD
     refine WC.b (WC.a (WL.pu rfl (WL.nil (WX.a (WC.ret (WX.yl (WX.y6 (WX.y6 (WX.yl (WX.y6 ?_))))))))))
     obtain rfl:=Option.some.inj h
     refine WX.y8 Tryz.results25 (.tmp rfl .nil) (fun w hw=>?_)
     exact ⟨yD rfl,hw.sub .nil⟩
    ·replace h:=ye h znD
     refine WC.skip (WX.yi (WX.a (WC.a (WL.pu rfl (WL.pu rfl (WL.pu rfl (WL.nil ?_)))))))
     exact WX.round (G:=Nat × Int) ⟨znz,(i64 (z2a + 1))⟩ h (Nat.lt_succ_self _) (.cons rfl (.cons rfl .nil)) .nil
   ·replace h:=ye h znC
    refine WC.exit (WX.yf (WX.yf (WX.yv ?_)))
    exact WX.mid (G:=Unit) () h .nil .nil
  ·rintro  h
   replace h:=zDi.symm.trans h
   refine WC.b (WC.a (WL.pu rfl (WL.nil (WX.a (WC.ret ?_)))))
   obtain rfl:=Option.some.inj h
   refine WX.y8 Tryz.results25 (.tmp rfl .nil) (fun w hw=>?_)
   exact ⟨yD rfl,hw.sub .nil⟩
def y3A (z5t : Int) (z4P : Int) : Option (z1 × Int) :=
 if decide (z4P = 0) then some ((⟨0,0⟩ : z1),2) else (y3c z5t).bind fun znE=>(y3c z4P).bind fun znF=>(y6o znE znF).bind fun z4y=>(y3c z5t).bind fun zby=>chk ((z4y : Int) ≠ 0) ((y3c z4P).bind fun zbz=>if (decide ((u64 (Int.tdiv zby z4y)) > 1073741824)) || (decide ((u64 (Int.tdiv zbz z4y)) > 1073741824)) then some ((⟨0,0⟩ : z1),3) else if ((decide (z5t < 0)) && (decide (z4P > 0))) || ((decide (z5t > 0)) && (decide (z4P < 0))) then some ((⟨i64 (0 - (i64 (u64 (Int.tdiv zby z4y)))),i64 (u64 (Int.tdiv zbz z4y))⟩ : z1),0) else some ((⟨i64 (u64 (Int.tdiv zby z4y)),i64 (u64 (Int.tdiv zbz z4y))⟩ : z1),0))
set_option maxRecDepth 20000 in
theorem y66 (Z : Zp)  (z5t : Int) (z4P : Int) (r : z1 × Int)
  (h : y3A z5t z4P = some r) (w₀ : World) (hz : PZ [] w₀ Z) :
  Calls Tryz.prog 61 #[(.int .i64 z5t),(.int .i64 z4P)] w₀ fun e w'=>e = .returned (.tuple #[(.agg #[(.int .i64 r.1.fN),(.int .i64 r.1.fD)]),(.int .i64 r.2)]) ∧ Hp [] w₀ w' []:=by
 unfold y3A at h
 refine Calls.yg (vs:=[(.int .i64 z5t),(.int .i64 z4P)]) (pre:=[]) (env:=[(0,(.int .i64 z5t)),(1,(.int .i64 z4P))]) Tryz.func61 rfl Tryz.ntmps61 rfl (Hp.nil w₀ _) rfl ?_
 refine WC.b (WC.a ?_)
 refine WL.new (dd:=4) rfl rfl rfl (yk (cs:=[(.int .i64 0),(.int .i64 0)]) yo rfl) ?_
 intro zKu _
 refine WL.pu rfl (WL.nil (WX.a (WC.b (WC.b (WC.a (WL.pu rfl (WL.pu rfl (WL.nil (WX.a ?_)))))))))
 refine WC.cond rfl (fun znG=>?_) (fun znG=>?_)
 ·replace h:=yd h znG
  refine WC.b (WC.a ?_)
  refine WL.a (d:=11) rfl rfl rfl (yz (v:=(.agg #[(.int .i64 0),(.int .i64 0)])) (Eos.parts (l:=[]) .nil []) (fun _=>by kernel_rfl)) ?_
  refine WL.yb rfl rfl (ya yh rfl rfl rfl .here rfl rfl rfl) ?_
  refine WL.pu rfl (WL.nil (WX.a (WC.ret (WX.y6 ?_))))
  obtain rfl:=Option.some.inj h
  refine WX.y8 Tryz.results61 (.agg rfl y5 rfl (y7 .here) (.tmp rfl .nil)) (fun w hw=>?_)
  exact ⟨yF rfl rfl,hw.sub .nil⟩
 ·replace h:=ye h znG
  refine WC.skip (WX.a (WC.b ?_))
  obtain ⟨znE,zDq,h⟩:=z8 h
  obtain ⟨znF,zDr,h⟩:=z8 h
  obtain ⟨z4y,zDs,h⟩:=z8 h
  refine WC.a (WL.pu rfl ?_)
  refine WL.b (dd:=13) rfl rfl rfl (za (l:=[.tmp 12]) Tryz.call65 (.cons rfl .nil)) .nil (cc hz .nil fun w pz ho=>y52 _ _ _ zDq w pz ) ?_
  refine WL.pu rfl ?_
  refine WL.b (dd:=15) rfl rfl rfl (za (l:=[.tmp 14]) Tryz.call65 (.cons rfl .nil)) .nil (cc hz .nil fun w pz ho=>y52 _ _ _ zDr w pz ) ?_
  refine WL.b (dd:=16) rfl rfl rfl (za (l:=[.tmp 13,.tmp 15]) Tryz.call64 (.cons rfl (.cons rfl .nil))) .nil (cc hz .nil fun w pz ho=>y97 (Z:=_)  (z3q:=znE) (z2F:=znF) (r:=z4y) w pz  zDs) ?_
  refine WL.pu rfl (WL.nil (WX.a (WC.b ?_)))
  obtain ⟨zby,zDt,h⟩:=z8 h
  obtain ⟨ztV,h⟩:=yj h
  obtain ⟨zbz,zDu,h⟩:=z8 h
  refine WC.yH (fun i=>[].contains i) [] rfl ?_
  refine WD.a (i:=0) (d:=17) (by kernel_rfl) rfl z6 z7 rfl rfl rfl (fun _=>q_m rfl) ?_
  refine WD.c (i:=1) (d:=18) (by kernel_rfl) rfl z6 z7 rfl rfl rfl (za (l:=[.tmp 17]) Tryz.call65 (.cons rfl .nil)) (cc hz .nil fun w pz ho=>y52 _ _ _ zDt w pz ) ?_
  refine WD.a (i:=2) (d:=19) (by kernel_rfl) rfl z6 z7 rfl rfl rfl (fun _=>q_m rfl) ?_
  refine WD.a (i:=3) (d:=20) (by kernel_rfl) rfl z6 z7 rfl rfl rfl (fun _=>y81 rfl rfl ztV rfl) ?_
  refine WD.a (i:=4) (d:=21) (by kernel_rfl) rfl z6 z7 rfl rfl rfl (fun _=>q_m rfl) ?_
  refine WD.c (i:=5) (d:=22) (by kernel_rfl) rfl z6 z7 rfl rfl rfl (za (l:=[.tmp 21]) Tryz.call65 (.cons rfl .nil)) (cc hz .nil fun w pz ho=>y52 _ _ _ zDu w pz ) ?_
  refine WD.a (i:=6) (d:=23) (by kernel_rfl) rfl z6 z7 rfl rfl rfl (fun _=>q_m rfl) ?_
  refine WD.a (i:=7) (d:=24) (by kernel_rfl) rfl z6 z7 rfl rfl rfl (fun _=>y81 rfl rfl ztV rfl) ?_
  refine WD.a (i:=8) (d:=7) (by kernel_rfl) rfl z6 z7 rfl rfl rfl (fun _=>q_z rfl) ?_
  refine WD.a (i:=9) (d:=8) (by kernel_rfl) rfl z6 z7 rfl rfl rfl (fun _=>q_z rfl) ?_
  refine WD.done (by kernel_rfl) ?_
  refine WX.a (WC.b (WC.b (WC.a (WL.pu rfl (WL.pu rfl (WL.pu rfl ?_))))))
  refine WL.seg false 2 27 (B:=(decide ((u64 (Int.tdiv zby z4y)) > 1073741824)) || (decide ((u64 (Int.tdiv zbz z4y)) > 1073741824))) rfl rfl rfl rfl rfl rfl (fun h=>(y5m h).symm) (fun _ zDv=>?_) ?_
  ·skip
   refine WL.pu rfl (WL.pu rfl (WL.pu rfl ?_))
   exact WL.yw (y5n zDv) rfl rfl .all
  refine WL.nil (WX.a ?_)
  refine WC.cond rfl (fun znH=>?_) (fun znH=>?_)
  ·replace h:=yd h znH
   refine WC.b (WC.a ?_)
   refine WL.a (d:=31) rfl rfl rfl (yz (v:=(.agg #[(.int .i64 0),(.int .i64 0)])) (Eos.parts (l:=[]) .nil []) (fun _=>by kernel_rfl)) ?_
   refine WL.yb rfl rfl (ya yh rfl rfl rfl .here rfl rfl rfl) ?_
   refine WL.pu rfl (WL.nil (WX.a (WC.ret (WX.y6 ?_))))
   obtain rfl:=Option.some.inj h
   refine WX.y8 Tryz.results61 (.agg rfl y5 rfl (y7 .here) (.tmp rfl .nil)) (fun w hw=>?_)
   exact ⟨yF rfl rfl,hw.sub .nil⟩
  ·replace h:=ye h znH
   refine WC.skip (WX.a (WC.b (WC.b (WC.a (WL.pu rfl (WL.pu rfl (WL.pu rfl ?_)))))))
   refine WL.seg true 2 34 (B:=(decide (z5t < 0)) && (decide (z4P > 0))) rfl rfl rfl rfl rfl rfl (fun h=>(y30 h).symm) (fun _ zDw=>?_) ?_
   ·skip
    refine WL.pu rfl (WL.pu rfl (WL.pu rfl ?_))
    exact WL.yw (y31 zDw) rfl rfl .all
   refine WL.pu rfl ?_
   refine WL.seg false 6 38 (B:=((decide (z5t < 0)) && (decide (z4P > 0))) || ((decide (z5t > 0)) && (decide (z4P < 0)))) rfl rfl rfl rfl rfl rfl (fun h=>(y5m h).symm) (fun _ zDx=>?_) ?_
   ·skip
    refine WL.pu rfl (WL.pu rfl (WL.pu rfl ?_))
    refine WL.seg true 2 41 (B:=(decide (z5t > 0)) && (decide (z4P < 0))) rfl rfl rfl rfl rfl rfl (fun h=>(y30 h).symm) (fun _ zDy=>?_) ?_
    ·skip
     refine WL.pu rfl (WL.pu rfl (WL.pu rfl ?_))
     exact WL.yw (y31 zDy) rfl rfl .all
    refine WL.pu rfl ?_
    exact WL.yw (y5n zDx) rfl rfl .all
   refine WL.nil (WX.a ?_)
   refine WC.cond rfl (fun znI=>?_) (fun znI=>?_)
   ·replace h:=yd h znI
    refine WC.b (WC.a (WL.pu rfl ?_))
    refine WL.a (d:=47) rfl rfl rfl (y4p Tryz.underlying99 Tryz.underlying3 rfl rfl) ?_
    refine WL.a (d:=48) rfl rfl rfl (y9A rfl rfl) ?_
    refine WL.pu rfl ?_
    refine WL.a (d:=50) rfl rfl rfl (y4p Tryz.underlying99 Tryz.underlying3 rfl rfl) ?_
    refine WL.a (d:=51) rfl rfl rfl (yz (v:=(.agg #[(.int .i64 (i64 (0 - (i64 (u64 (Int.tdiv zby z4y)))))),(.int .i64 (i64 (u64 (Int.tdiv zbz z4y))))])) (Eos.parts (l:=[.tmp 48,.tmp 50]) (.cons rfl (.cons rfl .nil)) [0,1]) (fun _=>by kernel_rfl)) ?_
    refine WL.yb rfl rfl (ya yh rfl rfl rfl .here rfl rfl rfl) ?_
    refine WL.pu rfl (WL.nil (WX.a (WC.ret (WX.y6 ?_))))
    obtain rfl:=Option.some.inj h
    refine WX.y8 Tryz.results61 (.agg rfl y5 rfl (y7 .here) (.tmp rfl .nil)) (fun w hw=>?_)
    exact ⟨yF rfl rfl,hw.sub .nil⟩
   ·replace h:=ye h znI
    refine WC.skip (WX.a (WC.b (WC.a (WL.pu rfl ?_))))
    refine WL.a (d:=53) rfl rfl rfl (y4p Tryz.underlying99 Tryz.underlying3 rfl rfl) ?_
    refine WL.pu rfl ?_
    refine WL.a (d:=55) rfl rfl rfl (y4p Tryz.underlying99 Tryz.underlying3 rfl rfl) ?_
    refine WL.a (d:=56) rfl rfl rfl (yz (v:=(.agg #[(.int .i64 (i64 (u64 (Int.tdiv zby z4y)))),(.int .i64 (i64 (u64 (Int.tdiv zbz z4y))))])) (Eos.parts (l:=[.tmp 53,.tmp 55]) (.cons rfl (.cons rfl .nil)) [0,1]) (fun _=>by kernel_rfl)) ?_
    refine WL.yb rfl rfl (ya yh rfl rfl rfl .here rfl rfl rfl) ?_
    refine WL.pu rfl (WL.nil (WX.a (WC.ret ?_)))
    obtain rfl:=Option.some.inj h
    refine WX.y8 Tryz.results61 (.agg rfl y5 rfl (y7 .here) (.tmp rfl .nil)) (fun w hw=>?_)
    exact ⟨yF rfl rfl,hw.sub .nil⟩
def yB (z6u : Int) (z2Y : z1) (z2b : z1) : Option (z1 × Int) :=
 (y1R z2Y).bind fun ztW=>(if !ztW then some true else (y1R z2b).bind fun ztX=>some (!ztX)).bind fun zie=>if zie || ((decide (z6u = 3)) && (decide (z2b.fN = 0))) then some ((⟨0,0⟩ : z1),2) else if decide (z6u = 0) then (y3A (i64 ((i64 (z2Y.fN * z2b.fD)) + (i64 (z2b.fN * z2Y.fD)))) (i64 (z2Y.fD * z2b.fD))).bind fun znJ=>some (znJ.1,znJ.2) else if decide (z6u = 1) then (y3A (i64 ((i64 (z2Y.fN * z2b.fD)) - (i64 (z2b.fN * z2Y.fD)))) (i64 (z2Y.fD * z2b.fD))).bind fun znK=>some (znK.1,znK.2) else if decide (z6u = 2) then (y3A (i64 (z2Y.fN * z2b.fN)) (i64 (z2Y.fD * z2b.fD))).bind fun znL=>some (znL.1,znL.2) else (y3A (i64 (z2Y.fN * z2b.fD)) (i64 (z2Y.fD * z2b.fN))).bind fun znM=>some (znM.1,znM.2)
set_option maxRecDepth 20000 in
theorem y29 (Z : Zp)  (z6u : Int) (z2Y : z1) (z2b : z1) (r : z1 × Int)
  (h : yB z6u z2Y z2b = some r) (w₀ : World) (hz : PZ [] w₀ Z) :
  Calls Tryz.prog 43 #[(.int .i64 z6u),(.agg #[(.int .i64 z2Y.fN),(.int .i64 z2Y.fD)]),(.agg #[(.int .i64 z2b.fN),(.int .i64 z2b.fD)])] w₀ fun e w'=>e = .returned (.tuple #[(.agg #[(.int .i64 r.1.fN),(.int .i64 r.1.fD)]),(.int .i64 r.2)]) ∧ Hp [] w₀ w' []:=by
 unfold yB at h
 refine Calls.yg (vs:=[(.int .i64 z6u),(.agg #[(.int .i64 z2Y.fN),(.int .i64 z2Y.fD)]),(.agg #[(.int .i64 z2b.fN),(.int .i64 z2b.fD)])]) (pre:=[]) (env:=[(0,(.int .i64 z6u)),(1,(.agg #[(.int .i64 z2Y.fN),(.int .i64 z2Y.fD)])),(2,(.agg #[(.int .i64 z2b.fN),(.int .i64 z2b.fD)]))]) Tryz.func43 rfl Tryz.ntmps43 rfl (Hp.nil w₀ _) rfl ?_
 refine WC.b (WC.a ?_)
 refine WL.new (dd:=4) rfl rfl rfl (yx (cs:=[(.int .i64 z2Y.fN),(.int .i64 z2Y.fD)]) rfl rfl) ?_
 intro zKv _
 refine WL.new (dd:=5) rfl rfl rfl (yx (cs:=[(.int .i64 z2b.fN),(.int .i64 z2b.fD)]) rfl rfl) ?_
 intro zKw _
 refine WL.new (dd:=6) rfl rfl rfl (yk (cs:=[(.int .i64 0),(.int .i64 0)]) yo rfl) ?_
 intro zKx _
 refine WL.pu rfl (WL.nil (WX.a (WC.b (WC.b ?_))))
 obtain ⟨ztW,zDz,h⟩:=z8 h
 obtain ⟨zie,ztY,h⟩:=z8 h
 refine WC.a ?_
 refine WL.a (d:=8) rfl rfl rfl (y9 y5 rfl (y7 .h2) rfl) ?_
 refine WL.b (dd:=9) rfl rfl rfl (za (l:=[.tmp 8]) Tryz.call45 (.cons rfl .nil)) .nil (cc hz .nil fun w pz ho=>y3j _ _ _ zDz w pz ) ?_
 refine WL.pu rfl (WL.pu rfl ?_)
 refine WL.seg false 3 11 (B:=zie) rfl rfl rfl rfl rfl rfl (fun h=>(Option.some.inj (yd ztY h)).symm) (fun _ zDA=>?_) ?_
 ·skip
  have zgd:=ye ztY zDA
  obtain ⟨ztX,zDB,zgd⟩:=z8 zgd
  replace zgd:=Option.some.inj zgd
  refine WL.a (d:=12) rfl rfl rfl (y9 y5 rfl (y7 .h1) rfl) ?_
  refine WL.b (dd:=13) rfl rfl rfl (za (l:=[.tmp 12]) Tryz.call45 (.cons rfl .nil)) .nil (cc hz .nil fun w pz ho=>y3j _ _ _ zDB w pz ) ?_
  refine WL.pu rfl (WL.pu rfl ?_)
  exact WL.yw zgd rfl rfl .all
 refine WL.pu rfl ?_
 refine WL.seg false 7 16 (B:=zie || ((decide (z6u = 3)) && (decide (z2b.fN = 0)))) rfl rfl rfl rfl rfl rfl (fun h=>(y5m h).symm) (fun _ zDC=>?_) ?_
 ·skip
  refine WL.pu rfl (WL.pu rfl (WL.pu rfl ?_))
  refine WL.seg true 3 19 (B:=(decide (z6u = 3)) && (decide (z2b.fN = 0))) rfl rfl rfl rfl rfl rfl (fun h=>(y30 h).symm) (fun _ zDD=>?_) ?_
  ·skip
   refine WL.a (d:=20) rfl rfl rfl (y4 yL rfl rfl) ?_
   refine WL.a (d:=21) rfl rfl rfl (yc yr rfl (yp .h1 rfl)) ?_
   refine WL.pu rfl (WL.pu rfl ?_)
   exact WL.yw (y31 zDD) rfl rfl .all
  refine WL.pu rfl ?_
  exact WL.yw (y5n zDC) rfl rfl .all
 refine WL.nil (WX.a ?_)
 refine WC.cond rfl (fun znN=>?_) (fun znN=>?_)
 ·replace h:=yd h znN
  refine WC.b (WC.a ?_)
  refine WL.a (d:=25) rfl rfl rfl (yz (v:=(.agg #[(.int .i64 0),(.int .i64 0)])) (Eos.parts (l:=[]) .nil []) (fun _=>by kernel_rfl)) ?_
  refine WL.yb rfl rfl (ya yh rfl rfl rfl .here rfl rfl rfl) ?_
  refine WL.pu rfl (WL.nil (WX.a (WC.ret (WX.y6 ?_))))
  obtain rfl:=Option.some.inj h
  refine WX.y8 Tryz.results43 (.agg rfl y5 rfl (y7 .here) (.tmp rfl .nil)) (fun w hw=>?_)
  exact ⟨yF rfl rfl,hw.sub .nil⟩
 ·replace h:=ye h znN
  refine WC.skip (WX.a (WC.b (WC.b (WC.a (WL.pu rfl (WL.nil (WX.a (WC.block (WC.b (WC.a (WL.pu rfl (WL.pu rfl (WL.nil (WX.a ?_))))))))))))))
  refine WC.cond rfl (fun znO=>?_) (fun znO=>?_)
  ·replace h:=yd h znO
   refine WC.b ?_
   obtain ⟨znJ,zDE,h⟩:=z8 h
   refine WC.a ?_
   refine WL.a (d:=29) rfl rfl rfl (y4 yL rfl rfl) ?_
   refine WL.a (d:=30) rfl rfl rfl (yc yr rfl (yp .h2 rfl)) ?_
   refine WL.a (d:=31) rfl rfl rfl (y4 yN rfl rfl) ?_
   refine WL.a (d:=32) rfl rfl rfl (yc yr rfl (yp .h1 rfl)) ?_
   refine WL.pu rfl ?_
   refine WL.a (d:=34) rfl rfl rfl (y4 yL rfl rfl) ?_
   refine WL.a (d:=35) rfl rfl rfl (yc yr rfl (yp .h1 rfl)) ?_
   refine WL.a (d:=36) rfl rfl rfl (y4 yN rfl rfl) ?_
   refine WL.a (d:=37) rfl rfl rfl (yc yr rfl (yp .h2 rfl)) ?_
   refine WL.pu rfl (WL.pu rfl ?_)
   refine WL.a (d:=40) rfl rfl rfl (y4 yN rfl rfl) ?_
   refine WL.a (d:=41) rfl rfl rfl (yc yr rfl (yp .h2 rfl)) ?_
   refine WL.a (d:=42) rfl rfl rfl (y4 yN rfl rfl) ?_
   refine WL.a (d:=43) rfl rfl rfl (yc yr rfl (yp .h1 rfl)) ?_
   refine WL.pu rfl ?_
   refine WL.b (dd:=45) rfl rfl rfl (za (l:=[.tmp 39,.tmp 44]) Tryz.call61 (.cons rfl (.cons rfl .nil))) .nil (cc hz .nil fun w pz ho=>y66 _ _ _ _ zDE w pz ) ?_
   refine WL.pu rfl (WL.pu rfl ?_)
   refine WL.yb rfl rfl (ya yh rfl rfl rfl .here rfl rfl rfl) ?_
   refine WL.pu rfl (WL.nil (WX.a (WC.ret (WX.yl (WX.y6 ?_)))))
   obtain rfl:=Option.some.inj h
   refine WX.y8 Tryz.results43 (.agg rfl y5 rfl (y7 .here) (.tmp rfl .nil)) (fun w hw=>?_)
   exact ⟨yF rfl rfl,hw.sub .nil⟩
  ·replace h:=ye h znO
   refine WC.b (WC.a (WL.pu rfl (WL.pu rfl (WL.nil (WX.a ?_)))))
   refine WC.cond rfl (fun znP=>?_) (fun znP=>?_)
   ·replace h:=yd h znP
    refine WC.b ?_
    obtain ⟨znK,zDF,h⟩:=z8 h
    refine WC.a ?_
    refine WL.a (d:=50) rfl rfl rfl (y4 yL rfl rfl) ?_
    refine WL.a (d:=51) rfl rfl rfl (yc yr rfl (yp .h2 rfl)) ?_
    refine WL.a (d:=52) rfl rfl rfl (y4 yN rfl rfl) ?_
    refine WL.a (d:=53) rfl rfl rfl (yc yr rfl (yp .h1 rfl)) ?_
    refine WL.pu rfl ?_
    refine WL.a (d:=55) rfl rfl rfl (y4 yL rfl rfl) ?_
    refine WL.a (d:=56) rfl rfl rfl (yc yr rfl (yp .h1 rfl)) ?_
    refine WL.a (d:=57) rfl rfl rfl (y4 yN rfl rfl) ?_
    refine WL.a (d:=58) rfl rfl rfl (yc yr rfl (yp .h2 rfl)) ?_
    refine WL.pu rfl (WL.pu rfl ?_)
    refine WL.a (d:=61) rfl rfl rfl (y4 yN rfl rfl) ?_
    refine WL.a (d:=62) rfl rfl rfl (yc yr rfl (yp .h2 rfl)) ?_
    refine WL.a (d:=63) rfl rfl rfl (y4 yN rfl rfl) ?_
    refine WL.a (d:=64) rfl rfl rfl (yc yr rfl (yp .h1 rfl)) ?_
    refine WL.pu rfl ?_
    refine WL.b (dd:=66) rfl rfl rfl (za (l:=[.tmp 60,.tmp 65]) Tryz.call61 (.cons rfl (.cons rfl .nil))) .nil (cc hz .nil fun w pz ho=>y66 _ _ _ _ zDF w pz ) ?_
    refine WL.pu rfl (WL.pu rfl ?_)
    refine WL.yb rfl rfl (ya yh rfl rfl rfl .here rfl rfl rfl) ?_
    refine WL.pu rfl (WL.nil (WX.a (WC.ret (WX.yl (WX.y6 ?_)))))
    obtain rfl:=Option.some.inj h
    refine WX.y8 Tryz.results43 (.agg rfl y5 rfl (y7 .here) (.tmp rfl .nil)) (fun w hw=>?_)
    exact ⟨yF rfl rfl,hw.sub .nil⟩
   ·replace h:=ye h znP
    refine WC.b (WC.a (WL.pu rfl (WL.pu rfl (WL.nil (WX.a ?_)))))
    refine WC.cond rfl (fun znQ=>?_) (fun znQ=>?_)
    ·replace h:=yd h znQ
     refine WC.b ?_
     obtain ⟨znL,zDG,h⟩:=z8 h
     refine WC.a ?_
     refine WL.a (d:=71) rfl rfl rfl (y4 yL rfl rfl) ?_
     refine WL.a (d:=72) rfl rfl rfl (yc yr rfl (yp .h2 rfl)) ?_
     refine WL.a (d:=73) rfl rfl rfl (y4 yL rfl rfl) ?_
     refine WL.a (d:=74) rfl rfl rfl (yc yr rfl (yp .h1 rfl)) ?_
     refine WL.pu rfl ?_
     refine WL.a (d:=76) rfl rfl rfl (y4 yN rfl rfl) ?_
     refine WL.a (d:=77) rfl rfl rfl (yc yr rfl (yp .h2 rfl)) ?_
     refine WL.a (d:=78) rfl rfl rfl (y4 yN rfl rfl) ?_
     refine WL.a (d:=79) rfl rfl rfl (yc yr rfl (yp .h1 rfl)) ?_
     refine WL.pu rfl ?_
     refine WL.b (dd:=81) rfl rfl rfl (za (l:=[.tmp 75,.tmp 80]) Tryz.call61 (.cons rfl (.cons rfl .nil))) .nil (cc hz .nil fun w pz ho=>y66 _ _ _ _ zDG w pz ) ?_
     refine WL.pu rfl (WL.pu rfl ?_)
     refine WL.yb rfl rfl (ya yh rfl rfl rfl .here rfl rfl rfl) ?_
     refine WL.pu rfl (WL.nil (WX.a (WC.ret (WX.yl (WX.y6 ?_)))))
     obtain rfl:=Option.some.inj h
     refine WX.y8 Tryz.results43 (.agg rfl y5 rfl (y7 .here) (.tmp rfl .nil)) (fun w hw=>?_)
     exact ⟨yF rfl rfl,hw.sub .nil⟩
    ·replace h:=ye h znQ
     refine WC.skip (WX.yi (WX.a (WC.b ?_)))
     obtain ⟨znM,zDH,h⟩:=z8 h
     refine WC.a ?_
     refine WL.a (d:=84) rfl rfl rfl (y4 yL rfl rfl) ?_
     refine WL.a (d:=85) rfl rfl rfl (yc yr rfl (yp .h2 rfl)) ?_
     refine WL.a (d:=86) rfl rfl rfl (y4 yN rfl rfl) ?_
     refine WL.a (d:=87) rfl rfl rfl (yc yr rfl (yp .h1 rfl)) ?_
     refine WL.pu rfl ?_
     refine WL.a (d:=89) rfl rfl rfl (y4 yN rfl rfl) ?_
     refine WL.a (d:=90) rfl rfl rfl (yc yr rfl (yp .h2 rfl)) ?_
     refine WL.a (d:=91) rfl rfl rfl (y4 yL rfl rfl) ?_
     refine WL.a (d:=92) rfl rfl rfl (yc yr rfl (yp .h1 rfl)) ?_
     refine WL.pu rfl ?_
     refine WL.b (dd:=94) rfl rfl rfl (za (l:=[.tmp 88,.tmp 93]) Tryz.call61 (.cons rfl (.cons rfl .nil))) .nil (cc hz .nil fun w pz ho=>y66 _ _ _ _ zDH w pz ) ?_
     refine WL.pu rfl (WL.pu rfl ?_)
     refine WL.yb rfl rfl (ya yh rfl rfl rfl .here rfl rfl rfl) ?_
     refine WL.pu rfl (WL.nil (WX.a (WC.ret ?_)))
     obtain rfl:=Option.some.inj h
     refine WX.y8 Tryz.results43 (.agg rfl y5 rfl (y7 .here) (.tmp rfl .nil)) (fun w hw=>?_)
     exact ⟨yF rfl rfl,hw.sub .nil⟩
def y4a (z2c : z2) (z6v : z1) : Option (z1 × Int) :=
 (yB 2 z2c.fR z6v).bind fun zif=>if decide (zif.2 ≠ 0) then some ((⟨0,0⟩ : z1),zif.2) else (yB 0 z2c.fB zif.1).bind fun znR=>some (znR.1,znR.2)
set_option maxRecDepth 20000 in
theorem yaC (Z : Zp)  (z2c : z2) (z6v : z1) (r : z1 × Int)
  (h : y4a z2c z6v = some r) (w₀ : World) (hz : PZ [] w₀ Z) :
  Calls Tryz.prog 51 #[(.agg #[(.int .i64 z2c.fB.fN),(.int .i64 z2c.fB.fD),(.int .i64 z2c.fR.fN),(.int .i64 z2c.fR.fD)]),(.agg #[(.int .i64 z6v.fN),(.int .i64 z6v.fD)])] w₀ fun e w'=>e = .returned (.tuple #[(.agg #[(.int .i64 r.1.fN),(.int .i64 r.1.fD)]),(.int .i64 r.2)]) ∧ Hp [] w₀ w' []:=by
 unfold y4a at h
 refine Calls.yg (vs:=[(.agg #[(.int .i64 z2c.fB.fN),(.int .i64 z2c.fB.fD),(.int .i64 z2c.fR.fN),(.int .i64 z2c.fR.fD)]),(.agg #[(.int .i64 z6v.fN),(.int .i64 z6v.fD)])]) (pre:=[]) (env:=[(0,(.agg #[(.int .i64 z2c.fB.fN),(.int .i64 z2c.fB.fD),(.int .i64 z2c.fR.fN),(.int .i64 z2c.fR.fD)])),(1,(.agg #[(.int .i64 z6v.fN),(.int .i64 z6v.fD)]))]) Tryz.func51 rfl Tryz.ntmps51 rfl (Hp.nil w₀ _) rfl ?_
 refine WC.b (WC.a ?_)
 refine WL.new (dd:=2) rfl rfl rfl (yx (cs:=[(.int .i64 z2c.fB.fN),(.int .i64 z2c.fB.fD),(.int .i64 z2c.fR.fN),(.int .i64 z2c.fR.fD)]) rfl rfl) ?_
 intro zKy _
 refine WL.new (dd:=3) rfl rfl rfl (yx (cs:=[(.int .i64 z6v.fN),(.int .i64 z6v.fD)]) rfl rfl) ?_
 intro zKz _
 refine WL.new (dd:=4) rfl rfl rfl (yk (cs:=[(.int .i64 0),(.int .i64 0)]) yo rfl) ?_
 intro zKA _
 refine WL.pu rfl (WL.nil (WX.a (WC.b ?_)))
 obtain ⟨zif,zDI,h⟩:=z8 h
 refine WC.a ?_
 refine WL.a (d:=9) rfl rfl rfl (y4 y2T rfl rfl) ?_
 refine WL.a (d:=10) rfl rfl rfl (ys (cs:=[(.int .i64 z2c.fR.fN),(.int .i64 z2c.fR.fD)]) y5 rfl rfl (yW (s:=2) .h2 rfl)) ?_
 refine WL.a (d:=11) rfl rfl rfl (y9 y5 rfl (y7 .h1) rfl) ?_
 refine WL.b (dd:=12) rfl rfl rfl (za (l:=[.const (.int .i64 2),.tmp 10,.tmp 11]) Tryz.call43 (.cons rfl (.cons rfl (.cons rfl .nil)))) .nil (cc hz .nil fun w pz ho=>y29 _ _ _ _ _ zDI w pz ) ?_
 refine WL.pu rfl (WL.pu rfl (WL.pu rfl ?_))
 refine WL.new (dd:=6) rfl rfl rfl (yk (cs:=[(.int .i64 0),(.int .i64 0)]) yo rfl) ?_
 intro zKB _
 refine WL.yb rfl rfl (ya yh rfl rfl rfl .here rfl rfl rfl) ?_
 refine WL.pu rfl (WL.nil (WX.a (WC.b (WC.b (WC.a (WL.pu rfl (WL.pu rfl (WL.nil (WX.a ?_)))))))))
 refine WC.cond rfl (fun znS=>?_) (fun znS=>?_)
 ·replace h:=yd h znS
  refine WC.b (WC.a ?_)
  refine WL.a (d:=17) rfl rfl rfl (yz (v:=(.agg #[(.int .i64 0),(.int .i64 0)])) (Eos.parts (l:=[]) .nil []) (fun _=>by kernel_rfl)) ?_
  refine WL.pu rfl ?_
  refine WL.yb rfl rfl (ya yh rfl rfl rfl .h1 rfl rfl rfl) ?_
  refine WL.pu rfl (WL.nil (WX.a (WC.ret (WX.y6 ?_))))
  obtain rfl:=Option.some.inj h
  refine WX.y8 Tryz.results51 (.agg rfl y5 rfl (y7 .here) (.tmp rfl .nil)) (fun w hw=>?_)
  exact ⟨yF rfl rfl,hw.sub .nil⟩
 ·replace h:=ye h znS
  refine WC.skip (WX.a (WC.b ?_))
  obtain ⟨znR,zDJ,h⟩:=z8 h
  refine WC.a ?_
  refine WL.a (d:=19) rfl rfl rfl (y4 y2B rfl rfl) ?_
  refine WL.a (d:=20) rfl rfl rfl (ys (cs:=[(.int .i64 z2c.fB.fN),(.int .i64 z2c.fB.fD)]) y5 rfl rfl (yW (s:=2) .h3 rfl)) ?_
  refine WL.a (d:=21) rfl rfl rfl (y9 y5 rfl (y7 .here) rfl) ?_
  refine WL.b (dd:=22) rfl rfl rfl (za (l:=[.const (.int .i64 0),.tmp 20,.tmp 21]) Tryz.call43 (.cons rfl (.cons rfl (.cons rfl .nil)))) .nil (cc hz .nil fun w pz ho=>y29 _ _ _ _ _ zDJ w pz ) ?_
  refine WL.pu rfl (WL.pu rfl ?_)
  refine WL.yb rfl rfl (ya yh rfl rfl rfl .h1 rfl rfl rfl) ?_
  refine WL.pu rfl (WL.nil (WX.a (WC.ret ?_)))
  obtain rfl:=Option.some.inj h
  refine WX.y8 Tryz.results51 (.agg rfl y5 rfl (y7 .here) (.tmp rfl .nil)) (fun w hw=>?_)
  exact ⟨yF rfl rfl,hw.sub .nil⟩
def yE (z3R : z1) (z3S : z1) : Option Int :=
 (y1R z3R).bind fun ztZ=>(if !ztZ then some true else (y1R z3S).bind fun zu0=>some (!zu0)).bind fun zig=>if zig || (decide ((i64 (z3R.fN * z3S.fD)) = (i64 (z3S.fN * z3R.fD)))) then some 0 else if decide ((i64 (z3R.fN * z3S.fD)) < (i64 (z3S.fN * z3R.fD))) then some (-1) else some 1
set_option maxRecDepth 20000 in
theorem y2H (Z : Zp)  (z3R : z1) (z3S : z1) (r : Int)
  (h : yE z3R z3S = some r) (w₀ : World) (hz : PZ [] w₀ Z) :
  Calls Tryz.prog 28 #[(.agg #[(.int .i64 z3R.fN),(.int .i64 z3R.fD)]),(.agg #[(.int .i64 z3S.fN),(.int .i64 z3S.fD)])] w₀ fun e w'=>e = .returned (.int .i64 r) ∧ Hp [] w₀ w' []:=by
 unfold yE at h
 refine Calls.yg (vs:=[(.agg #[(.int .i64 z3R.fN),(.int .i64 z3R.fD)]),(.agg #[(.int .i64 z3S.fN),(.int .i64 z3S.fD)])]) (pre:=[]) (env:=[(0,(.agg #[(.int .i64 z3R.fN),(.int .i64 z3R.fD)])),(1,(.agg #[(.int .i64 z3S.fN),(.int .i64 z3S.fD)]))]) Tryz.func28 rfl Tryz.ntmps28 rfl (Hp.nil w₀ _) rfl ?_
 refine WC.b (WC.a ?_)
 refine WL.new (dd:=2) rfl rfl rfl (yx (cs:=[(.int .i64 z3R.fN),(.int .i64 z3R.fD)]) rfl rfl) ?_
 intro zKC _
 refine WL.new (dd:=3) rfl rfl rfl (yx (cs:=[(.int .i64 z3S.fN),(.int .i64 z3S.fD)]) rfl rfl) ?_
 intro zKD _
 refine WL.pu rfl (WL.nil (WX.a (WC.b (WC.b ?_))))
 obtain ⟨ztZ,zDK,h⟩:=z8 h
 obtain ⟨zig,zu1,h⟩:=z8 h
 refine WC.a ?_
 refine WL.a (d:=5) rfl rfl rfl (y9 y5 rfl (y7 .h1) rfl) ?_
 refine WL.b (dd:=6) rfl rfl rfl (za (l:=[.tmp 5]) Tryz.call45 (.cons rfl .nil)) .nil (cc hz .nil fun w pz ho=>y3j _ _ _ zDK w pz ) ?_
 refine WL.pu rfl (WL.pu rfl ?_)
 refine WL.seg false 3 8 (B:=zig) rfl rfl rfl rfl rfl rfl (fun h=>(Option.some.inj (yd zu1 h)).symm) (fun _ zDL=>?_) ?_
 ·skip
  have zge:=ye zu1 zDL
  obtain ⟨zu0,zDM,zge⟩:=z8 zge
  replace zge:=Option.some.inj zge
  refine WL.a (d:=9) rfl rfl rfl (y9 y5 rfl (y7 .here) rfl) ?_
  refine WL.b (dd:=10) rfl rfl rfl (za (l:=[.tmp 9]) Tryz.call45 (.cons rfl .nil)) .nil (cc hz .nil fun w pz ho=>y3j _ _ _ zDM w pz ) ?_
  refine WL.pu rfl (WL.pu rfl ?_)
  exact WL.yw zge rfl rfl .all
 refine WL.pu rfl ?_
 refine WL.seg false 11 13 (B:=zig || (decide ((i64 (z3R.fN * z3S.fD)) = (i64 (z3S.fN * z3R.fD))))) rfl rfl rfl rfl rfl rfl (fun h=>(y5m h).symm) (fun _ zDN=>?_) ?_
 ·skip
  refine WL.a (d:=14) rfl rfl rfl (y4 yL rfl rfl) ?_
  refine WL.a (d:=15) rfl rfl rfl (yc yr rfl (yp .h1 rfl)) ?_
  refine WL.a (d:=16) rfl rfl rfl (y4 yN rfl rfl) ?_
  refine WL.a (d:=17) rfl rfl rfl (yc yr rfl (yp .here rfl)) ?_
  refine WL.pu rfl ?_
  refine WL.a (d:=19) rfl rfl rfl (y4 yL rfl rfl) ?_
  refine WL.a (d:=20) rfl rfl rfl (yc yr rfl (yp .here rfl)) ?_
  refine WL.a (d:=21) rfl rfl rfl (y4 yN rfl rfl) ?_
  refine WL.a (d:=22) rfl rfl rfl (yc yr rfl (yp .h1 rfl)) ?_
  refine WL.pu rfl (WL.pu rfl (WL.pu rfl ?_))
  exact WL.yw (y5n zDN) rfl rfl .all
 refine WL.nil (WX.a ?_)
 refine WC.cond rfl (fun znT=>?_) (fun znT=>?_)
 ·replace h:=yd h znT
  refine WC.b (WC.a (WL.pu rfl (WL.nil (WX.a (WC.ret (WX.y6 ?_))))))
  obtain rfl:=Option.some.inj h
  refine WX.y8 Tryz.results28 (.tmp rfl .nil) (fun w hw=>?_)
  exact ⟨yD rfl,hw.sub .nil⟩
 ·replace h:=ye h znT
  refine WC.skip (WX.a (WC.b (WC.b (WC.a ?_))))
  refine WL.a (d:=26) rfl rfl rfl (y4 yL rfl rfl) ?_
  refine WL.a (d:=27) rfl rfl rfl (yc yr rfl (yp .h1 rfl)) ?_
  refine WL.a (d:=28) rfl rfl rfl (y4 yN rfl rfl) ?_
  refine WL.a (d:=29) rfl rfl rfl (yc yr rfl (yp .here rfl)) ?_
  refine WL.pu rfl ?_
  refine WL.a (d:=31) rfl rfl rfl (y4 yL rfl rfl) ?_
  refine WL.a (d:=32) rfl rfl rfl (yc yr rfl (yp .here rfl)) ?_
  refine WL.a (d:=33) rfl rfl rfl (y4 yN rfl rfl) ?_
  refine WL.a (d:=34) rfl rfl rfl (yc yr rfl (yp .h1 rfl)) ?_
  refine WL.pu rfl (WL.pu rfl (WL.nil (WX.a ?_)))
  refine WC.cond rfl (fun znU=>?_) (fun znU=>?_)
  ·replace h:=yd h znU
   refine WC.b (WC.a (WL.pu rfl (WL.nil (WX.a (WC.ret (WX.y6 ?_))))))
   obtain rfl:=Option.some.inj h
   refine WX.y8 Tryz.results28 (.tmp rfl .nil) (fun w hw=>?_)
   exact ⟨yD rfl,hw.sub .nil⟩
  ·replace h:=ye h znU
   refine WC.skip (WX.a (WC.b (WC.a (WL.pu rfl (WL.nil (WX.a (WC.ret ?_)))))))
   obtain rfl:=Option.some.inj h
   refine WX.y8 Tryz.results28 (.tmp rfl .nil) (fun w hw=>?_)
   exact ⟨yD rfl,hw.sub .nil⟩
def y3l (z2Z : List z2) (z2G : z1) (z8n : Int → Int → Option (z1 × Int)) : Nat → Int → Int → Int → Option (z1 × Int)
 | 0,_,_,_=>none
 | znV + 1,z3a,z4Q,z4R=>if decide (z3a < ((z2Z.length : Nat) : Int)) then jp2 (fun (z8o : Int) (z8p : Int)=>y3l z2Z z2G z8n znV (i64 (z3a + 1)) z8o z8p) fun zih=>chk ((0 : Int) ≤ z3a ∧ z3a < ((z2Z.length : Nat) : Int)) ((y4a (⟨(⟨(((nth z2Z z3a).fB).fN),(((nth z2Z z3a).fB).fD)⟩ : z1),(⟨(((nth z2Z z3a).fR).fN),(((nth z2Z z3a).fR).fD)⟩ : z1)⟩ : z2) z2G).bind fun z9V=>if decide (z9V.2 ≠ 0) then some ((⟨0,0⟩ : z1),z9V.2) else (if decide (z3a = 0) then some true else (yE z9V.1 (⟨z4Q,z4R⟩ : z1)).bind fun zu2=>some (decide (zu2 < 0))).bind fun znW=>if znW then zih z9V.1.fN z9V.1.fD else zih z4Q z4R) else z8n z4Q z4R
theorem y8G {n : Nat} {z2Z : List z2} {z2G : z1} {z8n : Int → Int → Option (z1 × Int)} {z3a : Int} {z4Q : Int} {z4R : Int} {r : z1 × Int} (h : y3l z2Z z2G z8n n z3a z4Q z4R = some r) : ∃ m,n = m + 1:=by
 cases n with
 | zero=>cases h
 | succ m=>exact ⟨m,rfl⟩
def y5h (z2Z : List z2) (z2G : z1) : Option (z1 × Int) :=
 (y3k z2Z).bind fun zu3=>(if !zu3 then some true else (y2G z2G).bind fun zu4=>some (!zu4)).bind fun znX=>if znX then some ((⟨0,0⟩ : z1),2) else jp2 (fun (z9W : Int) (z9X : Int)=>some ((⟨z9W,z9X⟩ : z1),0)) fun z8n=>y3l z2Z z2G z8n yu 0 0 0
set_option maxRecDepth 20000 in
theorem yc4 (Z : Zp) (zdw : Option Addr) (zdx : Nat) (z2Z : List z2) (z2G : z1) (r : z1 × Int)
  (h : y5h z2Z z2G = some r) (w₀ : World) (hz : PZ [] w₀ Z)
  (zu5 : ZS Z 4 (fun r x=>r = e54 x) zdw zdx z2Z) :
  Calls Tryz.prog 27 #[(.slice zdw z2Z.length zdx),(.agg #[(.int .i64 z2G.fN),(.int .i64 z2G.fD)])] w₀ fun e w'=>e = .returned (.tuple #[(.agg #[(.int .i64 r.1.fN),(.int .i64 r.1.fD)]),(.int .i64 r.2)]) ∧ Hp [] w₀ w' []:=by
 unfold y5h at h
 refine Calls.yg (vs:=[(.slice zdw z2Z.length zdx),(.agg #[(.int .i64 z2G.fN),(.int .i64 z2G.fD)])]) (pre:=[]) (env:=[(0,(.slice zdw z2Z.length zdx)),(1,(.agg #[(.int .i64 z2G.fN),(.int .i64 z2G.fD)]))]) Tryz.func27 rfl Tryz.ntmps27 rfl (Hp.nil w₀ _) rfl ?_
 refine WC.b (WC.a ?_)
 refine WL.new (dd:=3) rfl rfl rfl (yx (cs:=[(.int .i64 z2G.fN),(.int .i64 z2G.fD)]) rfl rfl) ?_
 intro zii _
 refine WL.new (dd:=4) rfl rfl rfl (yk (cs:=[(.int .i64 0),(.int .i64 0)]) yo rfl) ?_
 intro zdy _
 refine WL.pu rfl (WL.nil (WX.a (WC.b (WC.b ?_))))
 obtain ⟨zu3,zDO,h⟩:=z8 h
 obtain ⟨znX,zu6,h⟩:=z8 h
 refine WC.a (WL.pu rfl ?_)
 refine WL.b (dd:=11) rfl rfl rfl (za (l:=[.tmp 10]) Tryz.call25 (.cons rfl .nil)) .nil (cc hz .nil fun w pz ho=>y5y _ _ _ _ _ zDO w pz zu5) ?_
 refine WL.pu rfl (WL.pu rfl ?_)
 refine WL.seg false 3 13 (B:=znX) rfl rfl rfl rfl rfl rfl (fun h=>(Option.some.inj (yd zu6 h)).symm) (fun _ zDP=>?_) ?_
 ·skip
  have zgf:=ye zu6 zDP
  obtain ⟨zu4,zDQ,zgf⟩:=z8 zgf
  replace zgf:=Option.some.inj zgf
  refine WL.a (d:=14) rfl rfl rfl (y9 y5 rfl (y7 .h1) rfl) ?_
  refine WL.b (dd:=15) rfl rfl rfl (za (l:=[.tmp 14]) Tryz.call46 (.cons rfl .nil)) .nil (cc hz .nil fun w pz ho=>y65 _ _ _ zDQ w pz ) ?_
  refine WL.pu rfl (WL.pu rfl ?_)
  exact WL.yw zgf rfl rfl .all
 refine WL.nil (WX.a ?_)
 refine WC.cond rfl (fun znY=>?_) (fun znY=>?_)
 ·replace h:=yd h znY
  refine WC.b (WC.a ?_)
  refine WL.a (d:=18) rfl rfl rfl (yz (v:=(.agg #[(.int .i64 0),(.int .i64 0)])) (Eos.parts (l:=[]) .nil []) (fun _=>by kernel_rfl)) ?_
  refine WL.yb rfl rfl (ya yh rfl rfl rfl .here rfl rfl rfl) ?_
  refine WL.pu rfl (WL.nil (WX.a (WC.ret (WX.y6 ?_))))
  obtain rfl:=Option.some.inj h
  refine WX.y8 Tryz.results27 (.agg rfl y5 rfl (y7 .here) (.tmp rfl .nil)) (fun w hw=>?_)
  exact ⟨yF rfl rfl,hw.sub .nil⟩
 ·replace h:=ye h znY
  refine WC.skip (WX.a (WC.b (WC.a ?_)))
  refine WL.new (dd:=6) rfl rfl rfl (yk (cs:=[(.int .i64 0),(.int .i64 0)]) yo rfl) ?_
  intro zdz _
  refine WL.nil (WX.a ?_)
  obtain ⟨z8n,zDR,h⟩:=y2b h
  refine WC.y28 (fun (z9W : Int) (z9X : Int)=>(z8n z9W z9X = some r)) (fun (z9W : Int) (z9X : Int)=>[(4,(.pointer (some ⟨zdy,0,none⟩))),(6,(.pointer (some ⟨zdz,0,none⟩)))]) (fun (z9W : Int) (z9X : Int)=>[stb zdy 40 [(.int .i64 0),(.int .i64 0)],stb zdz 40 [(.int .i64 z9W),(.int .i64 z9X)]]) ?_ ?_
  ·skip
   refine WC.b (WC.a (WL.pu rfl (WL.nil (WX.a (WC.block ?_)))))
   refine WC.y36 (fun (zdA : Nat) (z3a : Int) (z4Q : Int) (z4R : Int)=>(y3l z2Z z2G z8n zdA z3a z4Q z4R = some r)) (fun (zdA : Nat) (z3a : Int) (z4Q : Int) (z4R : Int)=>[(0,(.slice zdw z2Z.length zdx)),(3,(.pointer (some ⟨zii,0,none⟩))),(4,(.pointer (some ⟨zdy,0,none⟩))),(6,(.pointer (some ⟨zdz,0,none⟩))),(7,(.int .i64 z3a))]) (fun (zdA : Nat) (z3a : Int) (z4Q : Int) (z4R : Int)=>[stb zii 40 [(.int .i64 z2G.fN),(.int .i64 z2G.fD)],stb zdy 40 [(.int .i64 0),(.int .i64 0)],stb zdz 40 [(.int .i64 z4Q),(.int .i64 z4R)]]) (fun (zdA : Nat) (z3a : Int) (z4Q : Int) (z4R : Int)=>zdA) ⟨yu,0,0,0⟩ h (.cons rfl (.cons rfl (.cons rfl (.cons rfl (.cons rfl .nil))))) (.cons .h2 (.cons .h1 (.cons .here .nil))) ?_
   rintro zdA z3a z4Q z4R h
   obtain ⟨znV,rfl⟩:=y8G h
   rw [y3l] at h
   refine WC.b (WC.b (WC.a (WL.pu rfl (WL.pu rfl ?_))))
   refine WL.a (d:=21) rfl rfl rfl (yP Tryz.underlying23 rfl) ?_
   refine WL.pu rfl (WL.nil (WX.a ?_))
   refine WC.cond rfl (fun znZ=>?_) (fun znZ=>?_)
   ·replace h:=yd h znZ
    refine WC.skip (WX.a ?_)
    obtain ⟨zih,zDS,h⟩:=y2b h
    refine WC.y28 (fun (z8o : Int) (z8p : Int)=>(zih z8o z8p = some r)) (fun (z8o : Int) (z8p : Int)=>[(0,(.slice zdw z2Z.length zdx)),(3,(.pointer (some ⟨zii,0,none⟩))),(4,(.pointer (some ⟨zdy,0,none⟩))),(6,(.pointer (some ⟨zdz,0,none⟩))),(7,(.int .i64 z3a))]) (fun (z8o : Int) (z8p : Int)=>[stb zii 40 [(.int .i64 z2G.fN),(.int .i64 z2G.fD)],stb zdy 40 [(.int .i64 0),(.int .i64 0)],stb zdz 40 [(.int .i64 z8o),(.int .i64 z8p)]]) ?_ ?_
    ·skip
     refine WC.block (WC.b ?_)
     obtain ⟨zDT,h⟩:=yj h
     obtain ⟨z9V,zDU,h⟩:=z8 h
     refine WC.yH (fun i=>[10].contains i) [] rfl ?_
     refine WD.a (i:=0) (d:=26) (by kernel_rfl) rfl z6 z7 rfl rfl rfl (fun _=>q_m rfl) ?_
     refine WD.a (i:=1) (d:=27) (by kernel_rfl) rfl z6 z7 rfl rfl rfl (fun _=>q_m rfl) ?_
     refine WD.znth (j:=2) (dd:=28) (by kernel_rfl) rfl z6 z7 rfl rfl (Z:=Z) (Pr:=(fun r x=>r = e54 x)) yS rfl rfl zu5 zDT ?_
     rintro zKE zKF zDV zKG rfl
     refine WD.e (i:=3) (d:=29) (by kernel_rfl) rfl z6 z7 rfl rfl rfl (y9 y1q rfl (y2k hz.pv zDV) rfl) ?_
     refine WD.e (i:=4) (d:=30) (by kernel_rfl) rfl z6 z7 rfl rfl rfl (y9 y5 rfl (y7 .here) rfl) ?_
     refine WD.c (i:=5) (d:=31) (by kernel_rfl) rfl z6 z7 rfl rfl rfl (za (l:=[.tmp 29,.tmp 30]) Tryz.call51 (.cons rfl (.cons rfl .nil))) (cc hz .nil fun w pz ho=>yaC _ _ _ _ zDU w pz ) ?_
     refine WD.a (i:=6) (d:=25) (by kernel_rfl) rfl z6 z7 rfl rfl rfl (fun _=>q_m rfl) ?_
     refine WD.a (i:=7) (d:=32) (by kernel_rfl) rfl z6 z7 rfl rfl rfl (fun _=>y1L rfl rfl) ?_
     refine WD.a (i:=8) (d:=33) (by kernel_rfl) rfl z6 z7 rfl rfl rfl (fun _=>y1L rfl rfl) ?_
     refine WD.new (i:=9) (dd:=8) rfl (by kernel_rfl) rfl rfl rfl (yk (cs:=[(.int .i64 0),(.int .i64 0)]) yo rfl) (fun h'=>absurd h' (by decide)) ?_
     intro zKH _
     refine WD.forced0 (i:=10) rfl (by kernel_rfl) rfl rfl rfl (Sin.of .nil) (ya yh rfl rfl rfl .here rfl rfl rfl) ?_
     refine WD.a (i:=11) (d:=9) (by kernel_rfl) rfl z6 z7 rfl rfl rfl (fun _=>q_z rfl) ?_
     refine WD.done (by kernel_rfl) ?_
     refine WX.a (WC.b (WC.b (WC.a (WL.pu rfl (WL.pu rfl (WL.nil (WX.a ?_)))))))
     refine WC.cond rfl (fun zo0=>?_) (fun zo0=>?_)
     ·replace h:=yd h zo0
      refine WC.b (WC.a ?_)
      refine WL.a (d:=36) rfl rfl rfl (yz (v:=(.agg #[(.int .i64 0),(.int .i64 0)])) (Eos.parts (l:=[]) .nil []) (fun _=>by kernel_rfl)) ?_
      refine WL.pu rfl ?_
      refine WL.yb rfl rfl (ya yh rfl rfl rfl .h2 rfl rfl rfl) ?_
      refine WL.pu rfl (WL.nil (WX.a (WC.ret (WX.y6 (WX.yl (WX.y6 (WX.y6 (WX.yl (WX.y6 ?_)))))))))
      obtain rfl:=Option.some.inj h
      refine WX.y8 Tryz.results27 (.agg rfl y5 rfl (y7 .here) (.tmp rfl .nil)) (fun w hw=>?_)
      exact ⟨yF rfl rfl,hw.sub .nil⟩
     ·replace h:=ye h zo0
      refine WC.skip (WX.a (WC.b ?_))
      obtain ⟨znW,zu7,h⟩:=z8 h
      refine WC.a (WL.pu rfl (WL.pu rfl (WL.pu rfl ?_)))
      refine WL.seg false 4 40 (B:=znW) rfl rfl rfl rfl rfl rfl (fun h=>(Option.some.inj (yd zu7 h)).symm) (fun _ zDW=>?_) ?_
      ·skip
       have zgg:=ye zu7 zDW
       obtain ⟨zu2,zDX,zgg⟩:=z8 zgg
       replace zgg:=Option.some.inj zgg
       refine WL.a (d:=41) rfl rfl rfl (y9 y5 rfl (y7 .here) rfl) ?_
       refine WL.a (d:=42) rfl rfl rfl (y9 y5 rfl (y7 .h3) rfl) ?_
       refine WL.b (dd:=43) rfl rfl rfl (za (l:=[.tmp 41,.tmp 42]) Tryz.call28 (.cons rfl (.cons rfl .nil))) .nil (cc hz .nil fun w pz ho=>y2H _ _ _ _ zDX w pz ) ?_
       refine WL.pu rfl (WL.pu rfl ?_)
       exact WL.yw zgg rfl rfl .all
      refine WL.nil (WX.a ?_)
      refine WC.cond rfl (fun zo1=>?_) (fun zo1=>?_)
      ·replace h:=yd h zo1
       refine WC.a ?_
       refine WL.a (d:=46) rfl rfl rfl (y9 y5 rfl (y7 .here) rfl) ?_
       refine WL.yb rfl rfl (ya yh rfl rfl rfl .h3 rfl rfl rfl) ?_
       refine WL.nil (WX.yi ?_)
       exact WX.mid (G:=Int × Int) ⟨z9V.1.fN,z9V.1.fD⟩ h (.cons rfl (.cons rfl (.cons rfl (.cons rfl (.cons rfl .nil))))) (.cons .h2 (.cons .h2 (.cons .here .nil)))
      ·replace h:=ye h zo1
       refine WC.skip (WX.yi ?_)
       exact WX.mid (G:=Int × Int) ⟨z4Q,z4R⟩ h (.cons rfl (.cons rfl (.cons rfl (.cons rfl (.cons rfl .nil))))) (.cons .h1 (.cons .h1 (.cons .h1 .nil)))
    ·rintro z8o z8p h
     replace h:=(zDS z8o z8p).symm.trans h
     refine WC.a (WL.pu rfl (WL.pu rfl (WL.pu rfl (WL.nil ?_))))
     exact WX.round (G:=Nat × Int × Int × Int) ⟨znV,(i64 (z3a + 1)),z8o,z8p⟩ h (Nat.lt_succ_self _) (.cons rfl (.cons rfl (.cons rfl (.cons rfl (.cons rfl .nil))))) (.cons .here (.cons .here (.cons .here .nil)))
   ·replace h:=ye h znZ
    refine WC.exit (WX.yf (WX.yf (WX.yv ?_)))
    exact WX.mid (G:=Int × Int) ⟨z4Q,z4R⟩ h (.cons rfl (.cons rfl .nil)) (.cons .h1 (.cons .h1 .nil))
  ·rintro z9W z9X h
   replace h:=(zDR z9W z9X).symm.trans h
   refine WC.b (WC.a ?_)
   refine WL.a (d:=47) rfl rfl rfl (y9 y5 rfl (y7 .h1) rfl) ?_
   refine WL.yb rfl rfl (ya yh rfl rfl rfl .here rfl rfl rfl) ?_
   refine WL.pu rfl (WL.nil (WX.a (WC.ret ?_)))
   obtain rfl:=Option.some.inj h
   refine WX.y8 Tryz.results27 (.agg rfl y5 rfl (y7 .here) (.tmp rfl .nil)) (fun w hw=>?_)
   exact ⟨yF rfl rfl,hw.sub .nil⟩
end Go.Proofs.YtakfmdiiehcbdaaGreat

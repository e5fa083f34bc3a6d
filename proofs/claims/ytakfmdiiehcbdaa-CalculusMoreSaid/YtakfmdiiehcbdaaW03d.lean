/- A part of this claim's proof: models of functions, walks, plain laws. No conditions. -/
import Derived.Test.YtakfmdiiehcbdaaW03c
namespace Go.Proofs.Ytakfmdiiehcbdaa
open Go Go.RowKit Sep
set_option linter.all false
set_option maxRecDepth 30000
set_option maxHeartbeats 4000000
def y4o  : Option Bool :=
  (y1a 100 1).bind fun znC=>(y1a 1 2).bind fun znD=>(y2C znC znD).bind fun zd=>(y1a 60 1).bind fun znE=>(y1a 1 4).bind fun znF=>(y2C znE znF).bind fun zG=>(y1a 1 1).bind fun z1i=>(y1a 16 1).bind fun z1j=>(yL ([([zd] : List z1),([zG] : List z1)] : List (List z1)) (⟨z1i,z1j⟩ : zSv)).bind fun z1r=>(yC ([([zd] : List z1),([zG] : List z1)] : List (List z1)) (⟨z1i,z1j⟩ : zSv)).bind fun z1s=>chk ((0 : Int) ≤ 0 ∧ 0 < ((([zd] : List z1).length : Nat) : Int)) ((y1a 40 1).bind fun znG=>(y1a 1 1).bind fun znH=>(y2C znG znH).bind fun zF=>(yL ([([(⟨(⟨(((nth ([zd] : List z1) 0).fB).fN),(((nth ([zd] : List z1) 0).fB).fD)⟩ : z2),(⟨(((nth ([zd] : List z1) 0).fR).fN),(((nth ([zd] : List z1) 0).fR).fD)⟩ : z2)⟩ : z1),zF] : List z1),([zG] : List z1)] : List (List z1)) (⟨z1i,z1j⟩ : zSv)).bind fun z3R=>(y4u ([(⟨0,0,10⟩ : zSt),(⟨3,0,10⟩ : zSt)] : List zSt) 2 5).bind fun z8l=>(y1a 10 1).bind fun znI=>(y1a 4 1).bind fun znJ=>(y2C znI znJ).bind fun zjq=>(y2Z ([zjq] : List z1) ([(⟨0,0,10⟩ : zSt),(⟨3,0,10⟩ : zSt)] : List zSt)).bind fun z4v=>(y1a 10 1).bind fun znK=>(y1a 3 1).bind fun znL=>(y2C znK znL).bind fun zjr=>(y2Z ([zjr] : List z1) ([(⟨0,0,10⟩ : zSt),(⟨3,0,10⟩ : zSt)] : List zSt)).bind fun z5t=>(if decide ((i64 ((i64 ((i64 ((i64 ((i64 (z1r.2 + z1s.2)) + z3R.2)) + z8l.2)) + z4v.2)) + z5t.2)) = 0) then (y1a 176 1).bind fun zjs=>some (decide (z1r.1 = zjs)) else some false).bind fun zdn=>(if zdn then (y1a 172 1).bind fun zjt=>some (decide (z1s.1 = zjt)) else some false).bind fun zdo=>(if zdo then (y1a 146 1).bind fun zju=>some (decide (z3R.1 = zju)) else some false).bind fun zdp=>(if zdp then (y6c z8l.1 ([25,45] : List Int)).bind fun znM=>some znM else some false).bind fun z7e=>some ((z7e && z4v.1) && (!z5t.1)))
set_option maxRecDepth 20000 in
theorem y9a (Z : Zp)  (r : Bool)
     (h : y4o = some r) (w₀ : World) (hz : PZ [] w₀ Z) :
    Calls Try.prog 17 #[] w₀ fun e w'=>∃ Zn : Zp,e = .returned (.bool r) ∧ True ∧ Hp [] w₀ w' [fz Zn]:=by
  unfold y4o at h
  refine Calls.yc (vs:=[]) (pre:=[]) (env:=[]) Try.func17 rfl Try.ntmps17 rfl (Hp.nil w₀ _) rfl ?_
  refine WC.pool (WC.b (WC.a (WL.pu rfl (WL.nil (WX.a (WC.b ?_))))))
  obtain ⟨znC,zvS,h⟩:=z8 h
  obtain ⟨znD,zvT,h⟩:=z8 h
  obtain ⟨zd,zvU,h⟩:=z8 h
  obtain ⟨znE,zvV,h⟩:=z8 h
  obtain ⟨znF,zvW,h⟩:=z8 h
  obtain ⟨zG,zvX,h⟩:=z8 h
  refine WC.a ?_
  refine WL.b (dd:=17) rfl rfl rfl (ze (l:=[.const (.int .i64 100),.const (.int .i64 1)]) Try.call11 (.cons rfl (.cons rfl .nil))) .nil (ccz hz .nil .here fun w pz ho=>y1k _ _ _ _ zvS w pz ) ?_
  refine WL.b (dd:=18) rfl rfl rfl (ze (l:=[.const (.int .i64 1),.const (.int .i64 2)]) Try.call11 (.cons rfl (.cons rfl .nil))) .nil (ccz hz .nil .here fun w pz ho=>y1k _ _ _ _ zvT w pz ) ?_
  refine WL.b (dd:=19) rfl rfl rfl (ze (l:=[.tmp 17,.tmp 18]) Try.call10 (.cons rfl (.cons rfl .nil))) .nil (ccz hz .nil .here fun w pz ho=>y3t _ _ _ _ zvU w pz ) ?_
  refine WL.new (dd:=20) rfl rfl rfl (yp (cs:=([zd] : List z1).flatMap e35) y2d (Eos.parts (l:=[.tmp 19]) (.cons rfl .nil) [0]) (fun _=>by kernel_rfl) rfl (by unfold maxLen; omega)) ?_
  intro zbv _
  refine WL.b (dd:=21) rfl rfl rfl (ze (l:=[.const (.int .i64 60),.const (.int .i64 1)]) Try.call11 (.cons rfl (.cons rfl .nil))) .nil (ccz hz .nil .h1 fun w pz ho=>y1k _ _ _ _ zvV w pz ) ?_
  refine WL.b (dd:=22) rfl rfl rfl (ze (l:=[.const (.int .i64 1),.const (.int .i64 4)]) Try.call11 (.cons rfl (.cons rfl .nil))) .nil (ccz hz .nil .h1 fun w pz ho=>y1k _ _ _ _ zvW w pz ) ?_
  refine WL.b (dd:=23) rfl rfl rfl (ze (l:=[.tmp 21,.tmp 22]) Try.call10 (.cons rfl (.cons rfl .nil))) .nil (ccz hz .nil .h1 fun w pz ho=>y3t _ _ _ _ zvX w pz ) ?_
  refine WL.new (dd:=24) rfl rfl rfl (yp (cs:=([zG] : List z1).flatMap e35) y2d (Eos.parts (l:=[.tmp 23]) (.cons rfl .nil) [0]) (fun _=>by kernel_rfl) rfl (by unfold maxLen; omega)) ?_
  intro z2i _
  refine WL.pu rfl (WL.pu rfl (WL.nil (WX.a (WC.b ?_))))
  obtain ⟨z1i,zvY,h⟩:=z8 h
  obtain ⟨z1j,zvZ,h⟩:=z8 h
  refine WC.a ?_
  refine WL.b (dd:=25) rfl rfl rfl (ze (l:=[.const (.int .i64 1),.const (.int .i64 1)]) Try.call11 (.cons rfl (.cons rfl .nil))) .nil (ccz hz .nil .h2 fun w pz ho=>y1k _ _ _ _ zvY w pz ) ?_
  refine WL.b (dd:=26) rfl rfl rfl (ze (l:=[.const (.int .i64 16),.const (.int .i64 1)]) Try.call11 (.cons rfl (.cons rfl .nil))) .nil (ccz hz .nil .h2 fun w pz ho=>y1k _ _ _ _ zvZ w pz ) ?_
  refine WL.a (d:=27) rfl rfl rfl (yV (v:=(.agg #[(.int .i64 z1i.fN),(.int .i64 z1i.fD),(.int .i64 z1j.fN),(.int .i64 z1j.fD)])) (Eos.parts (l:=[.tmp 25,.tmp 26]) (.cons rfl (.cons rfl .nil)) [0,1]) (fun _=>by kernel_rfl)) ?_
  refine WL.new (dd:=3) rfl rfl rfl (yh (cs:=[(.int .i64 0),(.int .i64 0),(.int .i64 0),(.int .i64 0)]) y51 rfl) ?_
  intro z8m _
  refine WL.ya rfl rfl (y9 y7K rfl rfl rfl .here rfl rfl rfl) ?_
  refine WL.nil (WX.a (WC.b ?_))
  obtain ⟨z1r,zw0,h⟩:=z8 h
  refine WC.a (WL.pu rfl (WL.pu rfl ?_))
  refine WL.freezeS (ls:=([zd] : List z1)) .h2 .h2 hz (RR.flat (enc:=e35) (fun _=>rfl) _) ?_
  intro zAM zAN zjv
  refine WL.freezeS (ls:=([zG] : List z1)) .h2 .here hz (RR.flat (enc:=e35) (fun _=>rfl) _) ?_
  intro zw1 zjw zfj
  have zw2 : RR 1 (p39 (Z ++ zw1)) [(.slice (some ⟨zbv,0,none⟩) (([zd] : List z1).length) 1),(.slice (some ⟨z2i,0,none⟩) (([zG] : List z1).length) 1)] ([([zd] : List z1),([zG] : List z1)] : List (List z1)):=(RR.cons (r:=[(.slice (some ⟨zbv,0,none⟩) (([zd] : List z1).length) 1)]) rfl (show p39 _ _ _ from ⟨_,_,rfl,(zjv.mono zjw)⟩) (RR.cons (r:=[(.slice (some ⟨z2i,0,none⟩) (([zG] : List z1).length) 1)]) rfl (show p39 _ _ _ from ⟨_,_,rfl,zfj⟩) (RR.nil _ _)))
  refine WL.new (dd:=31) rfl rfl rfl (yp (cs:=[(.slice (some ⟨zbv,0,none⟩) (([zd] : List z1).length) 1),(.slice (some ⟨z2i,0,none⟩) (([zG] : List z1).length) 1)]) y2x (Eos.parts (l:=[.tmp 29,.tmp 30]) (.cons rfl (.cons rfl .nil)) [0,1]) (fun _=>by kernel_rfl) rfl (by unfold maxLen; omega)) ?_
  intro zAO _
  refine WL.a (d:=32) rfl rfl rfl (y7 y24 rfl (y6 .h2) rfl) ?_
  refine WL.freezeS (ls:=([([zd] : List z1),([zG] : List z1)] : List (List z1))) .here .here hz zw2 ?_
  intro zw3 zbw zjx
  replace zjx:=zjx.weak (fun _ _ h=>yo zbw h)
  refine WL.y2l (dd:=33) rfl rfl rfl (ze (l:=[.tmp 31,.tmp 32]) Try.call15 (.cons rfl (.cons rfl .nil))) .nil (ccz hz .nil .here fun w pz ho=>y2X _ _ _ _ _ _ zw0 w pz zjx) ?_
  rintro zw4 _
  refine WL.merge .here .here ?_
  refine WL.pu rfl (WL.pu rfl (WL.pu rfl ?_))
  refine WL.new (dd:=4) rfl rfl rfl (yh (cs:=[(.int .i64 0),(.int .i64 0)]) ym rfl) ?_
  intro z3v _
  refine WL.ya rfl rfl (y9 yj rfl rfl rfl .here rfl rfl rfl) ?_
  refine WL.pu rfl (WL.nil (WX.a (WC.b ?_)))
  obtain ⟨z1s,zw5,h⟩:=z8 h
  refine WC.a (WL.pu rfl (WL.pu rfl ?_))
  have zw6 : RR 1 (p39 (Z ++ (zw3 ++ zw4))) [(.slice (some ⟨zbv,0,none⟩) (([zd] : List z1).length) 1),(.slice (some ⟨z2i,0,none⟩) (([zG] : List z1).length) 1)] ([([zd] : List z1),([zG] : List z1)] : List (List z1)):=(RR.cons (r:=[(.slice (some ⟨zbv,0,none⟩) (([zd] : List z1).length) 1)]) rfl (show p39 _ _ _ from ⟨_,_,rfl,(zjv.mono (zjw.trans (zbw.trans ((Zle.left _ _).trans (Zle.yi _ _ _)))))⟩) (RR.cons (r:=[(.slice (some ⟨z2i,0,none⟩) (([zG] : List z1).length) 1)]) rfl (show p39 _ _ _ from ⟨_,_,rfl,(zfj.mono (zbw.trans ((Zle.left _ _).trans (Zle.yi _ _ _))))⟩) (RR.nil _ _)))
  refine WL.new (dd:=39) rfl rfl rfl (yp (cs:=[(.slice (some ⟨zbv,0,none⟩) (([zd] : List z1).length) 1),(.slice (some ⟨z2i,0,none⟩) (([zG] : List z1).length) 1)]) y2x (Eos.parts (l:=[.tmp 37,.tmp 38]) (.cons rfl (.cons rfl .nil)) [0,1]) (fun _=>by kernel_rfl) rfl (by unfold maxLen; omega)) ?_
  intro zAP _
  refine WL.a (d:=40) rfl rfl rfl (y7 y24 rfl (y6 .h3) rfl) ?_
  refine WL.freezeS (ls:=([([zd] : List z1),([zG] : List z1)] : List (List z1))) .here .h1 hz zw6 ?_
  intro z7f zfk zjy
  replace zjy:=zjy.weak (fun _ _ h=>yo zfk h)
  refine WL.y2l (dd:=41) rfl rfl rfl (ze (l:=[.tmp 39,.tmp 40]) Try.call16 (.cons rfl (.cons rfl .nil))) .nil (ccz hz .nil .here fun w pz ho=>y41 _ _ _ _ _ _ zw5 w pz zjy) ?_
  rintro z7g _
  refine WL.merge .here .here ?_
  refine WL.pu rfl (WL.pu rfl (WL.pu rfl ?_))
  refine WL.new (dd:=6) rfl rfl rfl (yh (cs:=[(.int .i64 0),(.int .i64 0)]) ym rfl) ?_
  intro z3g _
  refine WL.ya rfl rfl (y9 yj rfl rfl rfl .here rfl rfl rfl) ?_
  refine WL.pu rfl (WL.nil (WX.a (WC.b ?_)))
  obtain ⟨zw7,h⟩:=yk h
  obtain ⟨znG,zw8,h⟩:=z8 h
  obtain ⟨znH,zw9,h⟩:=z8 h
  obtain ⟨zF,zwa,h⟩:=z8 h
  obtain ⟨z3R,znN,h⟩:=z8 h
  refine WC.y1g (fun i=>[15].contains i) [] rfl ?_
  refine WD.a (i:=0) (d:=45) (by kernel_rfl) rfl (z6 (by kernel_rfl)) (z7 (by kernel_rfl)) rfl rfl rfl (fun _=>q_m rfl) ?_
  refine WD.znth (j:=1) (dd:=46) (by kernel_rfl) rfl (z6 (by kernel_rfl)) (z7 (by kernel_rfl)) rfl rfl (Z:=(Z ++ (z7f ++ z7g))) (Pr:=(fun r x=>r = e35 x)) y2d rfl rfl (zjv.mono (zjw.trans (zbw.trans ((Zle.left _ _).trans ((Zle.yi _ _ _).trans (zfk.trans ((Zle.left _ _).trans (Zle.yi _ _ _)))))))) zw7 ?_
  rintro zAQ zAR zwb zAS rfl
  refine WD.e (i:=2) (d:=47) (by kernel_rfl) rfl (z6 (by kernel_rfl)) (z7 (by kernel_rfl)) rfl rfl rfl (y7 y1x rfl (y2R (hz.pv2 .h1) zwb) rfl) ?_
  refine WD.c (i:=3) (d:=48) (by kernel_rfl) rfl (z6 (by kernel_rfl)) (z7 (by kernel_rfl)) rfl rfl rfl (ze (l:=[.const (.int .i64 40),.const (.int .i64 1)]) Try.call11 (.cons rfl (.cons rfl .nil))) (ccz hz .nil .h1 fun w pz ho=>y1k _ _ _ _ zw8 w pz ) ?_
  refine WD.c (i:=4) (d:=49) (by kernel_rfl) rfl (z6 (by kernel_rfl)) (z7 (by kernel_rfl)) rfl rfl rfl (ze (l:=[.const (.int .i64 1),.const (.int .i64 1)]) Try.call11 (.cons rfl (.cons rfl .nil))) (ccz hz .nil .h1 fun w pz ho=>y1k _ _ _ _ zw9 w pz ) ?_
  refine WD.c (i:=5) (d:=50) (by kernel_rfl) rfl (z6 (by kernel_rfl)) (z7 (by kernel_rfl)) rfl rfl rfl (ze (l:=[.tmp 48,.tmp 49]) Try.call10 (.cons rfl (.cons rfl .nil))) (ccz hz .nil .h1 fun w pz ho=>y3t _ _ _ _ zwa w pz ) ?_
  refine WD.a (i:=7) (d:=52) (by kernel_rfl) rfl (z6 (by kernel_rfl)) (z7 (by kernel_rfl)) rfl rfl rfl (fun _=>q_m rfl) ?_
  refine WD.e (i:=9) (d:=54) (by kernel_rfl) rfl (z6 (by kernel_rfl)) (z7 (by kernel_rfl)) rfl rfl rfl (y7 y24 rfl (y6 .h3) rfl) ?_
  refine WD.y9j (fuel':=0) (fun (b6o1_48714 : Nat) (Zn8o1_48714 : Zp) (b8o4_48714 : Nat) (Zn10o1_48714 : Zp) (Zn10o4_48714 : Zp) (b14o1_48714 : Nat)=>[(4,(.pointer (some ⟨z3v,0,none⟩))),(5,(.int .i64 z1r.2)),(6,(.pointer (some ⟨z3g,0,none⟩))),(7,(.int .i64 z1s.2)),(8,(.pointer (some ⟨b14o1_48714,0,none⟩))),(9,(.int .i64 z3R.2))]) (fun (b6o1_48714 : Nat) (Zn8o1_48714 : Zp) (b8o4_48714 : Nat) (Zn10o1_48714 : Zp) (Zn10o4_48714 : Zp) (b14o1_48714 : Nat)=>[stb b14o1_48714 30 [(.int .i64 z3R.1.fN),(.int .i64 z3R.1.fD)],fz (Zn10o1_48714 ++ Zn10o4_48714),stb z3g 30 [(.int .i64 z1s.1.fN),(.int .i64 z1s.1.fD)],stb z3v 30 [(.int .i64 z1r.1.fN),(.int .i64 z1r.1.fD)],stb z8m 43 [(.int .i64 z1i.fN),(.int .i64 z1i.fD),(.int .i64 z1j.fN),(.int .i64 z1j.fD)]]) (fun (b6o1_48714 : Nat) (Zn8o1_48714 : Zp) (b8o4_48714 : Nat) (Zn10o1_48714 : Zp) (Zn10o4_48714 : Zp) (b14o1_48714 : Nat)=>(Zle (Z ++ (z7f ++ z7g)) (Z ++ Zn8o1_48714)) ∧ (ZS (Z ++ Zn8o1_48714) 4 (fun r x=>r = e35 x) (some ⟨b6o1_48714,0,none⟩) 2 ([(⟨(⟨(((nth ([zd] : List z1) 0).fB).fN),(((nth ([zd] : List z1) 0).fB).fD)⟩ : z2),(⟨(((nth ([zd] : List z1) 0).fR).fN),(((nth ([zd] : List z1) 0).fR).fD)⟩ : z2)⟩ : z1),zF] : List z1)) ∧ (RR 1 (p39 (Z ++ Zn8o1_48714)) [(.slice (some ⟨b6o1_48714,0,none⟩) (([(⟨(⟨(((nth ([zd] : List z1) 0).fB).fN),(((nth ([zd] : List z1) 0).fB).fD)⟩ : z2),(⟨(((nth ([zd] : List z1) 0).fR).fN),(((nth ([zd] : List z1) 0).fR).fD)⟩ : z2)⟩ : z1),zF] : List z1).length) 2),(.slice (some ⟨z2i,0,none⟩) (([zG] : List z1).length) 1)] ([([(⟨(⟨(((nth ([zd] : List z1) 0).fB).fN),(((nth ([zd] : List z1) 0).fB).fD)⟩ : z2),(⟨(((nth ([zd] : List z1) 0).fR).fN),(((nth ([zd] : List z1) 0).fR).fD)⟩ : z2)⟩ : z1),zF] : List z1),([zG] : List z1)] : List (List z1))) ∧ (Zle (Z ++ Zn8o1_48714) (Z ++ Zn10o1_48714)) ∧ (ZS (Z ++ Zn10o1_48714) 1 (p39 (Z ++ Zn10o1_48714)) (some ⟨b8o4_48714,0,none⟩) 2 ([([(⟨(⟨(((nth ([zd] : List z1) 0).fB).fN),(((nth ([zd] : List z1) 0).fB).fD)⟩ : z2),(⟨(((nth ([zd] : List z1) 0).fR).fN),(((nth ([zd] : List z1) 0).fR).fD)⟩ : z2)⟩ : z1),zF] : List z1),([zG] : List z1)] : List (List z1)))) (y1h 17 [16,15,14,13,12,11,10,8,6,9,7,5,4,3,2,1,0]) ?_ (fun K6o8o10o11o12o13o14o15o16_48714=>?_)
  · skip
    rintro b6o1_48714 Zn8o1_48714 b8o4_48714 Zn10o1_48714 Zn10o4_48714 b14o1_48714 ⟨hle8o2_48714,hf8o3_48714,rel8o5_48714,hle10o2_48714,hf10o3_48714⟩
    refine WD.done (by kernel_rfl) ?_
    refine WX.a (WC.b (WC.a ?_))
    refine WL.a (d:=58) rfl rfl rfl (yV (v:=(.agg #[(.int .i64 0),(.int .i64 0),(.int .i64 10)])) (Eos.parts (l:=[.const (.int .i64 0),.const (.int .i64 10)]) (.cons rfl (.cons rfl .nil)) [0,2]) (fun _=>by kernel_rfl)) ?_
    refine WL.a (d:=59) rfl rfl rfl (yV (v:=(.agg #[(.int .i64 3),(.int .i64 0),(.int .i64 10)])) (Eos.parts (l:=[.const (.int .i64 3),.const (.int .i64 10)]) (.cons rfl (.cons rfl .nil)) [0,2]) (fun _=>by kernel_rfl)) ?_
    refine WL.new (dd:=60) rfl rfl rfl (yp (cs:=([(⟨0,0,10⟩ : zSt),(⟨3,0,10⟩ : zSt)] : List zSt).flatMap e51) y64 (Eos.parts (l:=[.tmp 58,.tmp 59]) (.cons rfl (.cons rfl .nil)) [0,1]) (fun _=>by kernel_rfl) rfl (by unfold maxLen; omega)) ?_
    intro zAT _
    refine WL.pu rfl (WL.nil (WX.a (WC.b ?_)))
    obtain ⟨z8l,zwc,h⟩:=z8 h
    refine WC.a (WL.pu rfl ?_)
    refine WL.y5c (dd:=63) rfl rfl rfl (ze (l:=[.tmp 62,.const (.int .i64 2),.const (.int .i64 5)]) Try.call14 (.cons rfl (.cons rfl (.cons rfl .nil)))) .nil (cclz hz .nil .h2 (.cons .here .nil) fun w pz ho la=>y8a _ _ _ _ _ _ _ zwc w pz (ZA.row (la _ (.head _) _) (RR.flat (enc:=e51) (fun _=>rfl) _) ⟨w,pz.1⟩)) ?_
    rintro zjz zjA _
    refine WL.pu rfl (WL.pu rfl (WL.pu rfl (WL.pu rfl (WL.pu rfl (WL.nil (WX.a (WC.b ?_)))))))
    obtain ⟨znI,zwd,h⟩:=z8 h
    obtain ⟨znJ,zwe,h⟩:=z8 h
    obtain ⟨zjq,zwf,h⟩:=z8 h
    obtain ⟨z4v,zwg,h⟩:=z8 h
    refine WC.a ?_
    refine WL.b (dd:=67) rfl rfl rfl (ze (l:=[.const (.int .i64 10),.const (.int .i64 1)]) Try.call11 (.cons rfl (.cons rfl .nil))) .nil (ccz hz .nil .h3 fun w pz ho=>y1k _ _ _ _ zwd w pz ) ?_
    refine WL.b (dd:=68) rfl rfl rfl (ze (l:=[.const (.int .i64 4),.const (.int .i64 1)]) Try.call11 (.cons rfl (.cons rfl .nil))) .nil (ccz hz .nil .h3 fun w pz ho=>y1k _ _ _ _ zwe w pz ) ?_
    refine WL.b (dd:=69) rfl rfl rfl (ze (l:=[.tmp 67,.tmp 68]) Try.call10 (.cons rfl (.cons rfl .nil))) .nil (ccz hz .nil .h3 fun w pz ho=>y3t _ _ _ _ zwf w pz ) ?_
    refine WL.new (dd:=70) rfl rfl rfl (yp (cs:=([zjq] : List z1).flatMap e35) y2d (Eos.parts (l:=[.tmp 69]) (.cons rfl .nil) [0]) (fun _=>by kernel_rfl) rfl (by unfold maxLen; omega)) ?_
    intro zAU _
    refine WL.pu rfl ?_
    refine WL.b (dd:=72) rfl rfl rfl (ze (l:=[.tmp 70,.tmp 71]) Try.call12 (.cons rfl (.cons rfl .nil))) .nil (cclz hz .nil .h4 (.cons .here (.cons .h1 .nil)) fun w pz ho la=>y4U _ _ _ _ _ _ _ _ zwg w pz (ZA.row (la _ (.head _) _) (RR.flat (enc:=e35) (fun _=>rfl) _) ⟨w,pz.1⟩) (ZA.row (la _ (.tail _ (.head _)) _) (RR.flat (enc:=e51) (fun _=>rfl) _) ⟨w,pz.1⟩)) ?_
    refine WL.pu rfl (WL.pu rfl (WL.pu rfl (WL.pu rfl (WL.pu rfl (WL.nil (WX.a (WC.b ?_)))))))
    obtain ⟨znK,zwh,h⟩:=z8 h
    obtain ⟨znL,zwi,h⟩:=z8 h
    obtain ⟨zjr,zwj,h⟩:=z8 h
    obtain ⟨z5t,zwk,h⟩:=z8 h
    refine WC.a ?_
    refine WL.b (dd:=76) rfl rfl rfl (ze (l:=[.const (.int .i64 10),.const (.int .i64 1)]) Try.call11 (.cons rfl (.cons rfl .nil))) .nil (ccz hz .nil .h4 fun w pz ho=>y1k _ _ _ _ zwh w pz ) ?_
    refine WL.b (dd:=77) rfl rfl rfl (ze (l:=[.const (.int .i64 3),.const (.int .i64 1)]) Try.call11 (.cons rfl (.cons rfl .nil))) .nil (ccz hz .nil .h4 fun w pz ho=>y1k _ _ _ _ zwi w pz ) ?_
    refine WL.b (dd:=78) rfl rfl rfl (ze (l:=[.tmp 76,.tmp 77]) Try.call10 (.cons rfl (.cons rfl .nil))) .nil (ccz hz .nil .h4 fun w pz ho=>y3t _ _ _ _ zwj w pz ) ?_
    refine WL.new (dd:=79) rfl rfl rfl (yp (cs:=([zjr] : List z1).flatMap e35) y2d (Eos.parts (l:=[.tmp 78]) (.cons rfl .nil) [0]) (fun _=>by kernel_rfl) rfl (by unfold maxLen; omega)) ?_
    intro zAV _
    refine WL.pu rfl ?_
    refine WL.b (dd:=81) rfl rfl rfl (ze (l:=[.tmp 79,.tmp 80]) Try.call12 (.cons rfl (.cons rfl .nil))) .nil (cclz hz .nil .h5 (.cons .here (.cons .h2 .nil)) fun w pz ho la=>y4U _ _ _ _ _ _ _ _ zwk w pz (ZA.row (la _ (.head _) _) (RR.flat (enc:=e35) (fun _=>rfl) _) ⟨w,pz.1⟩) (ZA.row (la _ (.tail _ (.head _)) _) (RR.flat (enc:=e51) (fun _=>rfl) _) ⟨w,pz.1⟩)) ?_
    refine WL.pu rfl (WL.pu rfl (WL.pu rfl (WL.pu rfl (WL.pu rfl (WL.nil (WX.a (WC.b ?_)))))))
    obtain ⟨zdn,znO,h⟩:=z8 h
    obtain ⟨zdo,znP,h⟩:=z8 h
    obtain ⟨zdp,znQ,h⟩:=z8 h
    obtain ⟨z7e,znR,h⟩:=z8 h
    refine WC.y1g (fun i=>[].contains i) [] rfl ?_
    refine WD.a (i:=0) (d:=84) (by kernel_rfl) rfl (z6 (by kernel_rfl)) (z7 (by kernel_rfl)) rfl rfl rfl (fun _=>q_m rfl) ?_
    refine WD.a (i:=1) (d:=85) (by kernel_rfl) rfl (z6 (by kernel_rfl)) (z7 (by kernel_rfl)) rfl rfl rfl (fun _=>q_m rfl) ?_
    refine WD.a (i:=2) (d:=86) (by kernel_rfl) rfl (z6 (by kernel_rfl)) (z7 (by kernel_rfl)) rfl rfl rfl (fun _=>y5y rfl rfl rfl) ?_
    refine WD.a (i:=3) (d:=87) (by kernel_rfl) rfl (z6 (by kernel_rfl)) (z7 (by kernel_rfl)) rfl rfl rfl (fun _=>q_m rfl) ?_
    refine WD.a (i:=4) (d:=88) (by kernel_rfl) rfl (z6 (by kernel_rfl)) (z7 (by kernel_rfl)) rfl rfl rfl (fun _=>y5y rfl rfl rfl) ?_
    refine WD.a (i:=5) (d:=89) (by kernel_rfl) rfl (z6 (by kernel_rfl)) (z7 (by kernel_rfl)) rfl rfl rfl (fun _=>q_m rfl) ?_
    refine WD.a (i:=6) (d:=90) (by kernel_rfl) rfl (z6 (by kernel_rfl)) (z7 (by kernel_rfl)) rfl rfl rfl (fun _=>y5y rfl rfl rfl) ?_
    refine WD.a (i:=7) (d:=91) (by kernel_rfl) rfl (z6 (by kernel_rfl)) (z7 (by kernel_rfl)) rfl rfl rfl (fun _=>q_m rfl) ?_
    refine WD.a (i:=8) (d:=92) (by kernel_rfl) rfl (z6 (by kernel_rfl)) (z7 (by kernel_rfl)) rfl rfl rfl (fun _=>y5y rfl rfl rfl) ?_
    refine WD.a (i:=9) (d:=93) (by kernel_rfl) rfl (z6 (by kernel_rfl)) (z7 (by kernel_rfl)) rfl rfl rfl (fun _=>q_m rfl) ?_
    refine WD.a (i:=10) (d:=94) (by kernel_rfl) rfl (z6 (by kernel_rfl)) (z7 (by kernel_rfl)) rfl rfl rfl (fun _=>y5y rfl rfl rfl) ?_
    refine WD.a (i:=11) (d:=95) (by kernel_rfl) rfl (z6 (by kernel_rfl)) (z7 (by kernel_rfl)) rfl rfl rfl (fun _=>y8j rfl rfl) ?_
    refine WD.a (i:=12) (d:=96) (by kernel_rfl) rfl (z6 (by kernel_rfl)) (z7 (by kernel_rfl)) rfl rfl rfl (fun _=>q_m rfl) ?_
    refine WD.mid (fuel':=23) [(6,(.pointer (some ⟨z3g,0,none⟩))),(8,(.pointer (some ⟨b14o1_48714,0,none⟩))),(11,(.slice zjz z8l.1.length zjA)),(13,(.bool z4v.1)),(15,(.bool z5t.1)),(96,(.bool (decide ((i64 ((i64 ((i64 ((i64 ((i64 (z1r.2 + z1s.2)) + z3R.2)) + z8l.2)) + z4v.2)) + z5t.2)) = 0)))),(100,(.bool zdn))] (y1h 40 [16,15,14,13,12,11,10,9,8,7,6,5,4,3,2,1,0]) ?_ (fun znS=>?_)
    rotate_left
    · rcases Bool.eq_false_or_eq_true (decide ((i64 ((i64 ((i64 ((i64 ((i64 (z1r.2 + z1s.2)) + z3R.2)) + z8l.2)) + z4v.2)) + z5t.2)) = 0)) with hb' | hb'
      · have zjB:=hb'; clear hb'
        have zdq:=ye znO zjB
        obtain ⟨zjs,zwl,zdq⟩:=z8 zdq
        replace zdq:=Option.some.inj zdq
        refine WD.pin (i:=96) rfl zjB ?_
        refine WD.e (i:=13) (d:=97) (by kernel_rfl) rfl (z6 (by kernel_rfl)) (z7 (by kernel_rfl)) rfl rfl rfl (y7 y4 rfl (y6 .h7) rfl) ?_
        refine WD.c (i:=14) (d:=98) (by kernel_rfl) rfl (z6 (by kernel_rfl)) (z7 (by kernel_rfl)) rfl rfl rfl (ze (l:=[.const (.int .i64 176),.const (.int .i64 1)]) Try.call11 (.cons rfl (.cons rfl .nil))) (ccz hz .nil .h5 fun w pz ho=>y1k _ _ _ _ zwl w pz ) ?_
        refine WD.a (i:=15) (d:=99) (by kernel_rfl) rfl (z6 (by kernel_rfl)) (z7 (by kernel_rfl)) rfl rfl rfl (fun _=>y62 (enc:=e30) (a:=z1r.1) (b:=zjs) y7r rfl rfl) ?_
        refine WD.a (i:=16) (d:=100) (by kernel_rfl) rfl (z6 (by kernel_rfl)) (z7 (by kernel_rfl)) rfl rfl rfl (fun _=>y22 rfl rfl) ?_
        refine WD.yA (.cons .here (.cons .here (.cons .here (.cons .here (.cons .here (.cons .here (.cons .here (.cons .here (.cons .here .nil))))))))) ?_ znS
        exact (.cons rfl (.cons rfl (.cons rfl (.cons rfl (.cons rfl (.cons (zn (Eq.symm zjB)) (.cons (zn zdq) .nil)))))))
      · have zjC:=hb'; clear hb'
        have zjD:=yf znO zjC
        replace zjD:=Option.some.inj zjD
        refine WD.pin (i:=96) rfl zjC ?_
        refine WD.b (i:=13) (d:=97) (by kernel_rfl) rfl (z6 (by kernel_rfl)) (z7 (by kernel_rfl)) rfl rfl rfl ?_
        refine WD.b (i:=14) (d:=98) (by kernel_rfl) rfl (z6 (by kernel_rfl)) (z7 (by kernel_rfl)) rfl rfl rfl ?_
        refine WD.b (i:=15) (d:=99) (by kernel_rfl) rfl (z6 (by kernel_rfl)) (z7 (by kernel_rfl)) rfl rfl rfl ?_
        refine WD.a (i:=16) (d:=100) (by kernel_rfl) rfl (z6 (by kernel_rfl)) (z7 (by kernel_rfl)) rfl rfl rfl (fun _=>y23 rfl rfl) ?_
        refine WD.yA (.cons .here (.cons .here (.cons .here (.cons .here (.cons .here (.cons .here (.cons .here (.cons .here (.cons .here .nil))))))))) ?_ znS
        exact (.cons rfl (.cons rfl (.cons rfl (.cons rfl (.cons rfl (.cons (zn (Eq.symm zjC)) (.cons (zn zjD) .nil)))))))
    refine WD.d #[true,true,true,true,true,true,true,true,true,true,true,true,true,true,true,true,true,false,false,false,false,false,false,false,false,false,false,false,false,false,false,false,false,false,false,false,false,false,false,false] (by kernel_rfl) ?_
    refine WD.a (i:=17) (d:=101) (by kernel_rfl) rfl (z6 (by kernel_rfl)) (z7 (by kernel_rfl)) rfl rfl rfl (fun _=>q_m rfl) ?_
    refine WD.mid (fuel':=18) [(8,(.pointer (some ⟨b14o1_48714,0,none⟩))),(11,(.slice zjz z8l.1.length zjA)),(13,(.bool z4v.1)),(15,(.bool z5t.1)),(101,(.bool zdn)),(105,(.bool zdo))] (y1h 40 [21,20,19,18,17,16,15,14,13,12,11,10,9,8,7,6,5,4,3,2,1,0]) ?_ (fun znT=>?_)
    rotate_left
    · rcases Bool.eq_false_or_eq_true zdn with hb' | hb'
      · have zjE:=hb'; clear hb'
        have zdr:=ye znP zjE
        obtain ⟨zjt,zwm,zdr⟩:=z8 zdr
        replace zdr:=Option.some.inj zdr
        refine WD.pin (i:=101) rfl zjE ?_
        refine WD.e (i:=18) (d:=102) (by kernel_rfl) rfl (z6 (by kernel_rfl)) (z7 (by kernel_rfl)) rfl rfl rfl (y7 y4 rfl (y6 .h6) rfl) ?_
        refine WD.c (i:=19) (d:=103) (by kernel_rfl) rfl (z6 (by kernel_rfl)) (z7 (by kernel_rfl)) rfl rfl rfl (ze (l:=[.const (.int .i64 172),.const (.int .i64 1)]) Try.call11 (.cons rfl (.cons rfl .nil))) (ccz hz .nil .h5 fun w pz ho=>y1k _ _ _ _ zwm w pz ) ?_
        refine WD.a (i:=20) (d:=104) (by kernel_rfl) rfl (z6 (by kernel_rfl)) (z7 (by kernel_rfl)) rfl rfl rfl (fun _=>y62 (enc:=e30) (a:=z1s.1) (b:=zjt) y7r rfl rfl) ?_
        refine WD.a (i:=21) (d:=105) (by kernel_rfl) rfl (z6 (by kernel_rfl)) (z7 (by kernel_rfl)) rfl rfl rfl (fun _=>y22 rfl rfl) ?_
        refine WD.yA (.cons .here (.cons .here (.cons .here (.cons .here (.cons .here (.cons .here (.cons .here (.cons .here (.cons .here .nil))))))))) ?_ znT
        exact (.cons rfl (.cons rfl (.cons rfl (.cons rfl (.cons (zn (Eq.symm zjE)) (.cons (zn zdr) .nil))))))
      · have zjF:=hb'; clear hb'
        have zjG:=yf znP zjF
        replace zjG:=Option.some.inj zjG
        refine WD.pin (i:=101) rfl zjF ?_
        refine WD.b (i:=18) (d:=102) (by kernel_rfl) rfl (z6 (by kernel_rfl)) (z7 (by kernel_rfl)) rfl rfl rfl ?_
        refine WD.b (i:=19) (d:=103) (by kernel_rfl) rfl (z6 (by kernel_rfl)) (z7 (by kernel_rfl)) rfl rfl rfl ?_
        refine WD.b (i:=20) (d:=104) (by kernel_rfl) rfl (z6 (by kernel_rfl)) (z7 (by kernel_rfl)) rfl rfl rfl ?_
        refine WD.a (i:=21) (d:=105) (by kernel_rfl) rfl (z6 (by kernel_rfl)) (z7 (by kernel_rfl)) rfl rfl rfl (fun _=>y23 rfl rfl) ?_
        refine WD.yA (.cons .here (.cons .here (.cons .here (.cons .here (.cons .here (.cons .here (.cons .here (.cons .here (.cons .here .nil))))))))) ?_ znT
        exact (.cons rfl (.cons rfl (.cons rfl (.cons rfl (.cons (zn (Eq.symm zjF)) (.cons (zn zjG) .nil))))))
    refine WD.d #[true,true,true,true,true,true,true,true,true,true,true,true,true,true,true,true,true,true,true,true,true,true,false,false,false,false,false,false,false,false,false,false,false,false,false,false,false,false,false,false] (by kernel_rfl) ?_
    refine WD.a (i:=22) (d:=106) (by kernel_rfl) rfl (z6 (by kernel_rfl)) (z7 (by kernel_rfl)) rfl rfl rfl (fun _=>q_m rfl) ?_
    refine WD.mid (fuel':=13) [(11,(.slice zjz z8l.1.length zjA)),(13,(.bool z4v.1)),(15,(.bool z5t.1)),(106,(.bool zdo)),(110,(.bool zdp))] (y1h 40 [26,25,24,23,22,21,20,19,18,17,16,15,14,13,12,11,10,9,8,7,6,5,4,3,2,1,0]) ?_ (fun znU=>?_)
    rotate_left
    · rcases Bool.eq_false_or_eq_true zdo with hb' | hb'
      · have zjH:=hb'; clear hb'
        have zds:=ye znQ zjH
        obtain ⟨zju,zwn,zds⟩:=z8 zds
        replace zds:=Option.some.inj zds
        refine WD.pin (i:=106) rfl zjH ?_
        refine WD.e (i:=23) (d:=107) (by kernel_rfl) rfl (z6 (by kernel_rfl)) (z7 (by kernel_rfl)) rfl rfl rfl (y7 y4 rfl (y6 .h4) rfl) ?_
        refine WD.c (i:=24) (d:=108) (by kernel_rfl) rfl (z6 (by kernel_rfl)) (z7 (by kernel_rfl)) rfl rfl rfl (ze (l:=[.const (.int .i64 146),.const (.int .i64 1)]) Try.call11 (.cons rfl (.cons rfl .nil))) (ccz hz .nil .h5 fun w pz ho=>y1k _ _ _ _ zwn w pz ) ?_
        refine WD.a (i:=25) (d:=109) (by kernel_rfl) rfl (z6 (by kernel_rfl)) (z7 (by kernel_rfl)) rfl rfl rfl (fun _=>y62 (enc:=e30) (a:=z3R.1) (b:=zju) y7r rfl rfl) ?_
        refine WD.a (i:=26) (d:=110) (by kernel_rfl) rfl (z6 (by kernel_rfl)) (z7 (by kernel_rfl)) rfl rfl rfl (fun _=>y22 rfl rfl) ?_
        refine WD.yA (.cons .here (.cons .here (.cons .here (.cons .here (.cons .here (.cons .here (.cons .here (.cons .here (.cons .here .nil))))))))) ?_ znU
        exact (.cons rfl (.cons rfl (.cons rfl (.cons (zn (Eq.symm zjH)) (.cons (zn zds) .nil)))))
      · have zjI:=hb'; clear hb'
        have zjJ:=yf znQ zjI
        replace zjJ:=Option.some.inj zjJ
        refine WD.pin (i:=106) rfl zjI ?_
        refine WD.b (i:=23) (d:=107) (by kernel_rfl) rfl (z6 (by kernel_rfl)) (z7 (by kernel_rfl)) rfl rfl rfl ?_
        refine WD.b (i:=24) (d:=108) (by kernel_rfl) rfl (z6 (by kernel_rfl)) (z7 (by kernel_rfl)) rfl rfl rfl ?_
        refine WD.b (i:=25) (d:=109) (by kernel_rfl) rfl (z6 (by kernel_rfl)) (z7 (by kernel_rfl)) rfl rfl rfl ?_
        refine WD.a (i:=26) (d:=110) (by kernel_rfl) rfl (z6 (by kernel_rfl)) (z7 (by kernel_rfl)) rfl rfl rfl (fun _=>y23 rfl rfl) ?_
        refine WD.yA (.cons .here (.cons .here (.cons .here (.cons .here (.cons .here (.cons .here (.cons .here (.cons .here (.cons .here .nil))))))))) ?_ znU
        exact (.cons rfl (.cons rfl (.cons rfl (.cons (zn (Eq.symm zjI)) (.cons (zn zjJ) .nil)))))
    refine WD.d #[true,true,true,true,true,true,true,true,true,true,true,true,true,true,true,true,true,true,true,true,true,true,true,true,true,true,true,false,false,false,false,false,false,false,false,false,false,false,false,false] (by kernel_rfl) ?_
    refine WD.a (i:=27) (d:=111) (by kernel_rfl) rfl (z6 (by kernel_rfl)) (z7 (by kernel_rfl)) rfl rfl rfl (fun _=>q_m rfl) ?_
    refine WD.mid (fuel':=8) [(13,(.bool z4v.1)),(15,(.bool z5t.1)),(111,(.bool zdp)),(115,(.bool z7e))] (y1h 40 [31,30,29,28,27,26,25,24,23,22,21,20,19,18,17,16,15,14,13,12,11,10,9,8,7,6,5,4,3,2,1,0]) ?_ (fun znV=>?_)
    rotate_left
    · rcases Bool.eq_false_or_eq_true zdp with hb' | hb'
      · have zjK:=hb'; clear hb'
        have zdt:=ye znR zjK
        obtain ⟨znM,zwo,zdt⟩:=z8 zdt
        replace zdt:=Option.some.inj zdt
        refine WD.pin (i:=111) rfl zjK ?_
        refine WD.a (i:=28) (d:=112) (by kernel_rfl) rfl (z6 (by kernel_rfl)) (z7 (by kernel_rfl)) rfl rfl rfl (fun _=>q_m rfl) ?_
        refine WD.new (i:=29) (dd:=113) rfl (by kernel_rfl) rfl rfl rfl (yp (cs:=([25,45] : List Int).flatMap e3) y7q (Eos.parts (l:=[.const (.int .i64 25),.const (.int .i64 45)]) (.cons rfl (.cons rfl .nil)) [0,1]) (fun _=>by kernel_rfl) rfl (by unfold maxLen; omega)) (fun h'=>absurd h' (by decide)) ?_
        intro zAW _
        refine WD.c (i:=30) (d:=114) (by kernel_rfl) rfl (z6 (by kernel_rfl)) (z7 (by kernel_rfl)) rfl rfl rfl (ze (l:=[.tmp 112,.tmp 113]) Try.call38 (.cons rfl (.cons rfl .nil))) (cclz hz .nil .h6 (.cons .h3 (.cons .here .nil)) fun w pz ho la=>y9y _ _ _ _ _ _ _ _ zwo w pz (ZA.row (la _ (.head _) _) (RR.flat (enc:=e3) (fun _=>rfl) _) ⟨w,pz.1⟩) (ZA.row (la _ (.tail _ (.head _)) _) (RR.flat (enc:=e3) (fun _=>rfl) _) ⟨w,pz.1⟩)) ?_
        refine WD.a (i:=31) (d:=115) (by kernel_rfl) rfl (z6 (by kernel_rfl)) (z7 (by kernel_rfl)) rfl rfl rfl (fun _=>y22 rfl rfl) ?_
        refine WD.yA (.cons .h1 (.cons .h1 (.cons .h1 (.cons .h1 (.cons .h1 (.cons .h1 (.cons .h1 (.cons .h1 (.cons .h1 .nil))))))))) ?_ znV
        exact (.cons rfl (.cons rfl (.cons (zn (Eq.symm zjK)) (.cons (zn zdt) .nil))))
      · have zjL:=hb'; clear hb'
        have zjM:=yf znR zjL
        replace zjM:=Option.some.inj zjM
        refine WD.pin (i:=111) rfl zjL ?_
        refine WD.b (i:=28) (d:=112) (by kernel_rfl) rfl (z6 (by kernel_rfl)) (z7 (by kernel_rfl)) rfl rfl rfl ?_
        refine WD.b (i:=29) (d:=113) (by kernel_rfl) rfl (z6 (by kernel_rfl)) (z7 (by kernel_rfl)) rfl rfl rfl ?_
        refine WD.b (i:=30) (d:=114) (by kernel_rfl) rfl (z6 (by kernel_rfl)) (z7 (by kernel_rfl)) rfl rfl rfl ?_
        refine WD.a (i:=31) (d:=115) (by kernel_rfl) rfl (z6 (by kernel_rfl)) (z7 (by kernel_rfl)) rfl rfl rfl (fun _=>y23 rfl rfl) ?_
        refine WD.yA (.cons .here (.cons .here (.cons .here (.cons .here (.cons .here (.cons .here (.cons .here (.cons .here (.cons .here .nil))))))))) ?_ znV
        exact (.cons rfl (.cons rfl (.cons (zn (Eq.symm zjL)) (.cons (zn zjM) .nil))))
    refine WD.d #[true,true,true,true,true,true,true,true,true,true,true,true,true,true,true,true,true,true,true,true,true,true,true,true,true,true,true,true,true,true,true,true,false,false,false,false,false,false,false,false] (by kernel_rfl) ?_
    refine WD.a (i:=32) (d:=116) (by kernel_rfl) rfl (z6 (by kernel_rfl)) (z7 (by kernel_rfl)) rfl rfl rfl (fun _=>q_m rfl) ?_
    refine WD.mid (fuel':=5) [(15,(.bool z5t.1)),(116,(.bool z7e)),(118,(.bool (z7e && z4v.1)))] (y1h 40 [34,33,32,31,30,29,28,27,26,25,24,23,22,21,20,19,18,17,16,15,14,13,12,11,10,9,8,7,6,5,4,3,2,1,0]) ?_ (fun znW=>?_)
    rotate_left
    · rcases Bool.eq_false_or_eq_true z7e with hb' | hb'
      · have zjN:=hb'; clear hb'
        refine WD.pin (i:=116) rfl zjN ?_
        refine WD.a (i:=33) (d:=117) (by kernel_rfl) rfl (z6 (by kernel_rfl)) (z7 (by kernel_rfl)) rfl rfl rfl (fun _=>q_m rfl) ?_
        refine WD.a (i:=34) (d:=118) (by kernel_rfl) rfl (z6 (by kernel_rfl)) (z7 (by kernel_rfl)) rfl rfl rfl (fun _=>y22 rfl rfl) ?_
        refine WD.yA (.cons .here (.cons .here (.cons .here (.cons .here (.cons .here (.cons .here (.cons .here (.cons .here (.cons .here .nil))))))))) ?_ znW
        exact (.cons rfl (.cons (zn (Eq.symm zjN)) (.cons (zn (y39 zjN)) .nil)))
      · have zjO:=hb'; clear hb'
        refine WD.pin (i:=116) rfl zjO ?_
        refine WD.b (i:=33) (d:=117) (by kernel_rfl) rfl (z6 (by kernel_rfl)) (z7 (by kernel_rfl)) rfl rfl rfl ?_
        refine WD.a (i:=34) (d:=118) (by kernel_rfl) rfl (z6 (by kernel_rfl)) (z7 (by kernel_rfl)) rfl rfl rfl (fun _=>y23 rfl rfl) ?_
        refine WD.yA (.cons .here (.cons .here (.cons .here (.cons .here (.cons .here (.cons .here (.cons .here (.cons .here (.cons .here .nil))))))))) ?_ znW
        exact (.cons rfl (.cons (zn (Eq.symm zjO)) (.cons (zn (y38 zjO)) .nil)))
    refine WD.d #[true,true,true,true,true,true,true,true,true,true,true,true,true,true,true,true,true,true,true,true,true,true,true,true,true,true,true,true,true,true,true,true,true,true,true,false,false,false,false,false] (by kernel_rfl) ?_
    refine WD.a (i:=35) (d:=119) (by kernel_rfl) rfl (z6 (by kernel_rfl)) (z7 (by kernel_rfl)) rfl rfl rfl (fun _=>q_m rfl) ?_
    refine WD.mid (fuel':=1) [(119,(.bool (z7e && z4v.1))),(122,(.bool ((z7e && z4v.1) && (!z5t.1))))] (y1h 40 [38,37,36,35,34,33,32,31,30,29,28,27,26,25,24,23,22,21,20,19,18,17,16,15,14,13,12,11,10,9,8,7,6,5,4,3,2,1,0]) ?_ (fun znX=>?_)
    rotate_left
    · rcases Bool.eq_false_or_eq_true (z7e && z4v.1) with hb' | hb'
      · have zjP:=hb'; clear hb'
        refine WD.pin (i:=119) rfl zjP ?_
        refine WD.a (i:=36) (d:=120) (by kernel_rfl) rfl (z6 (by kernel_rfl)) (z7 (by kernel_rfl)) rfl rfl rfl (fun _=>q_m rfl) ?_
        refine WD.a (i:=37) (d:=121) (by kernel_rfl) rfl (z6 (by kernel_rfl)) (z7 (by kernel_rfl)) rfl rfl rfl (fun _=>q_not rfl) ?_
        refine WD.a (i:=38) (d:=122) (by kernel_rfl) rfl (z6 (by kernel_rfl)) (z7 (by kernel_rfl)) rfl rfl rfl (fun _=>y22 rfl rfl) ?_
        refine WD.yA (.cons .here (.cons .here (.cons .here (.cons .here (.cons .here (.cons .here (.cons .here (.cons .here (.cons .here .nil))))))))) ?_ znX
        exact (.cons (zn (Eq.symm zjP)) (.cons (zn (y39 zjP)) .nil))
      · have zjQ:=hb'; clear hb'
        refine WD.pin (i:=119) rfl zjQ ?_
        refine WD.b (i:=36) (d:=120) (by kernel_rfl) rfl (z6 (by kernel_rfl)) (z7 (by kernel_rfl)) rfl rfl rfl ?_
        refine WD.b (i:=37) (d:=121) (by kernel_rfl) rfl (z6 (by kernel_rfl)) (z7 (by kernel_rfl)) rfl rfl rfl ?_
        refine WD.a (i:=38) (d:=122) (by kernel_rfl) rfl (z6 (by kernel_rfl)) (z7 (by kernel_rfl)) rfl rfl rfl (fun _=>y23 rfl rfl) ?_
        refine WD.yA (.cons .here (.cons .here (.cons .here (.cons .here (.cons .here (.cons .here (.cons .here (.cons .here (.cons .here .nil))))))))) ?_ znX
        exact (.cons (zn (Eq.symm zjQ)) (.cons (zn (y38 zjQ)) .nil))
    refine WD.d #[true,true,true,true,true,true,true,true,true,true,true,true,true,true,true,true,true,true,true,true,true,true,true,true,true,true,true,true,true,true,true,true,true,true,true,true,true,true,true,false] (by kernel_rfl) ?_
    refine WD.a (i:=39) (d:=0) (by kernel_rfl) rfl (z6 (by kernel_rfl)) (z7 (by kernel_rfl)) rfl rfl rfl (fun _=>q_z rfl) ?_
    refine WD.done (by kernel_rfl) ?_
    refine WX.a (WC.ret ?_)
    obtain rfl:=Option.some.inj h
    refine WX.y8 Try.results17 (.tmp rfl .nil) (fun w hw=>?_)
    exact ⟨(Zn10o1_48714 ++ Zn10o4_48714),yG rfl,trivial,hw.sub (.cons .h5 .nil)⟩
  refine WD.y9j (fuel':=2) (fun (b6o1_48714 : Nat) (Zn8o1_48714 : Zp) (b8o4_48714 : Nat) (Zn10o1_48714 : Zp) (Zn10o4_48714 : Zp) (b14o1_48714 : Nat)=>[(4,(.pointer (some ⟨z3v,0,none⟩))),(5,(.int .i64 z1r.2)),(6,(.pointer (some ⟨z3g,0,none⟩))),(7,(.int .i64 z1s.2)),(56,(.agg #[(.int .i64 z3R.1.fN),(.int .i64 z3R.1.fD)])),(57,(.int .i64 z3R.2)),(8,(.pointer (some ⟨b14o1_48714,0,none⟩)))]) (fun (b6o1_48714 : Nat) (Zn8o1_48714 : Zp) (b8o4_48714 : Nat) (Zn10o1_48714 : Zp) (Zn10o4_48714 : Zp) (b14o1_48714 : Nat)=>[stb b14o1_48714 30 [(.int .i64 0),(.int .i64 0)],fz (Zn10o1_48714 ++ Zn10o4_48714),stb z3g 30 [(.int .i64 z1s.1.fN),(.int .i64 z1s.1.fD)],stb z3v 30 [(.int .i64 z1r.1.fN),(.int .i64 z1r.1.fD)],stb z8m 43 [(.int .i64 z1i.fN),(.int .i64 z1i.fD),(.int .i64 z1j.fN),(.int .i64 z1j.fD)]]) (fun (b6o1_48714 : Nat) (Zn8o1_48714 : Zp) (b8o4_48714 : Nat) (Zn10o1_48714 : Zp) (Zn10o4_48714 : Zp) (b14o1_48714 : Nat)=>(Zle (Z ++ (z7f ++ z7g)) (Z ++ Zn8o1_48714)) ∧ (ZS (Z ++ Zn8o1_48714) 4 (fun r x=>r = e35 x) (some ⟨b6o1_48714,0,none⟩) 2 ([(⟨(⟨(((nth ([zd] : List z1) 0).fB).fN),(((nth ([zd] : List z1) 0).fB).fD)⟩ : z2),(⟨(((nth ([zd] : List z1) 0).fR).fN),(((nth ([zd] : List z1) 0).fR).fD)⟩ : z2)⟩ : z1),zF] : List z1)) ∧ (RR 1 (p39 (Z ++ Zn8o1_48714)) [(.slice (some ⟨b6o1_48714,0,none⟩) (([(⟨(⟨(((nth ([zd] : List z1) 0).fB).fN),(((nth ([zd] : List z1) 0).fB).fD)⟩ : z2),(⟨(((nth ([zd] : List z1) 0).fR).fN),(((nth ([zd] : List z1) 0).fR).fD)⟩ : z2)⟩ : z1),zF] : List z1).length) 2),(.slice (some ⟨z2i,0,none⟩) (([zG] : List z1).length) 1)] ([([(⟨(⟨(((nth ([zd] : List z1) 0).fB).fN),(((nth ([zd] : List z1) 0).fB).fD)⟩ : z2),(⟨(((nth ([zd] : List z1) 0).fR).fN),(((nth ([zd] : List z1) 0).fR).fD)⟩ : z2)⟩ : z1),zF] : List z1),([zG] : List z1)] : List (List z1))) ∧ (Zle (Z ++ Zn8o1_48714) (Z ++ Zn10o1_48714)) ∧ (ZS (Z ++ Zn10o1_48714) 1 (p39 (Z ++ Zn10o1_48714)) (some ⟨b8o4_48714,0,none⟩) 2 ([([(⟨(⟨(((nth ([zd] : List z1) 0).fB).fN),(((nth ([zd] : List z1) 0).fB).fD)⟩ : z2),(⟨(((nth ([zd] : List z1) 0).fR).fN),(((nth ([zd] : List z1) 0).fR).fD)⟩ : z2)⟩ : z1),zF] : List z1),([zG] : List z1)] : List (List z1)))) (y1h 17 [14,13,12,11,10,8,6,9,7,5,4,3,2,1,0]) ?_ (fun K6o8o10o11o12o13o14_48714=>?_)
  · skip
    rintro b6o1_48714 Zn8o1_48714 b8o4_48714 Zn10o1_48714 Zn10o4_48714 b14o1_48714 ⟨hle8o2_48714,hf8o3_48714,rel8o5_48714,hle10o2_48714,hf10o3_48714⟩
    refine WD.forced0 (i:=15) rfl (by kernel_rfl) rfl rfl rfl (Sin.of .nil) (y9 yj rfl rfl rfl .here rfl rfl rfl) ?_
    refine WD.a (i:=16) (d:=9) (by kernel_rfl) rfl (z6 (by kernel_rfl)) (z7 (by kernel_rfl)) rfl rfl rfl (fun _=>q_z rfl) ?_
    exact WD.yA (.cons .here (.cons .here (.cons .here (.cons .here (.cons .here .nil))))) (.cons rfl (.cons rfl (.cons rfl (.cons rfl (.cons rfl (.cons rfl .nil)))))) (K6o8o10o11o12o13o14o15o16_48714 b6o1_48714 Zn8o1_48714 b8o4_48714 Zn10o1_48714 Zn10o4_48714 b14o1_48714 ⟨hle8o2_48714,hf8o3_48714,rel8o5_48714,hle10o2_48714,hf10o3_48714⟩)
  refine WD.mids5 (fuel':=3) (fun (b6o1_48714 : Nat) (Zn8o1_48714 : Zp) (b8o4_48714 : Nat) (Zn10o1_48714 : Zp) (Zn10o4_48714 : Zp)=>[(4,(.pointer (some ⟨z3v,0,none⟩))),(5,(.int .i64 z1r.2)),(6,(.pointer (some ⟨z3g,0,none⟩))),(7,(.int .i64 z1s.2)),(56,(.agg #[(.int .i64 z3R.1.fN),(.int .i64 z3R.1.fD)])),(57,(.int .i64 z3R.2))]) (fun (b6o1_48714 : Nat) (Zn8o1_48714 : Zp) (b8o4_48714 : Nat) (Zn10o1_48714 : Zp) (Zn10o4_48714 : Zp)=>[fz (Zn10o1_48714 ++ Zn10o4_48714),stb z3g 30 [(.int .i64 z1s.1.fN),(.int .i64 z1s.1.fD)],stb z3v 30 [(.int .i64 z1r.1.fN),(.int .i64 z1r.1.fD)],stb z8m 43 [(.int .i64 z1i.fN),(.int .i64 z1i.fD),(.int .i64 z1j.fN),(.int .i64 z1j.fD)]]) (fun (b6o1_48714 : Nat) (Zn8o1_48714 : Zp) (b8o4_48714 : Nat) (Zn10o1_48714 : Zp) (Zn10o4_48714 : Zp)=>(Zle (Z ++ (z7f ++ z7g)) (Z ++ Zn8o1_48714)) ∧ (ZS (Z ++ Zn8o1_48714) 4 (fun r x=>r = e35 x) (some ⟨b6o1_48714,0,none⟩) 2 ([(⟨(⟨(((nth ([zd] : List z1) 0).fB).fN),(((nth ([zd] : List z1) 0).fB).fD)⟩ : z2),(⟨(((nth ([zd] : List z1) 0).fR).fN),(((nth ([zd] : List z1) 0).fR).fD)⟩ : z2)⟩ : z1),zF] : List z1)) ∧ (RR 1 (p39 (Z ++ Zn8o1_48714)) [(.slice (some ⟨b6o1_48714,0,none⟩) (([(⟨(⟨(((nth ([zd] : List z1) 0).fB).fN),(((nth ([zd] : List z1) 0).fB).fD)⟩ : z2),(⟨(((nth ([zd] : List z1) 0).fR).fN),(((nth ([zd] : List z1) 0).fR).fD)⟩ : z2)⟩ : z1),zF] : List z1).length) 2),(.slice (some ⟨z2i,0,none⟩) (([zG] : List z1).length) 1)] ([([(⟨(⟨(((nth ([zd] : List z1) 0).fB).fN),(((nth ([zd] : List z1) 0).fB).fD)⟩ : z2),(⟨(((nth ([zd] : List z1) 0).fR).fN),(((nth ([zd] : List z1) 0).fR).fD)⟩ : z2)⟩ : z1),zF] : List z1),([zG] : List z1)] : List (List z1))) ∧ (Zle (Z ++ Zn8o1_48714) (Z ++ Zn10o1_48714)) ∧ (ZS (Z ++ Zn10o1_48714) 1 (p39 (Z ++ Zn10o1_48714)) (some ⟨b8o4_48714,0,none⟩) 2 ([([(⟨(⟨(((nth ([zd] : List z1) 0).fB).fN),(((nth ([zd] : List z1) 0).fB).fD)⟩ : z2),(⟨(((nth ([zd] : List z1) 0).fR).fN),(((nth ([zd] : List z1) 0).fR).fD)⟩ : z2)⟩ : z1),zF] : List z1),([zG] : List z1)] : List (List z1)))) (y1h 17 [13,12,11,10,8,6,9,7,5,4,3,2,1,0]) ?_ (fun K6o8o10o11o12o13_48714=>?_)
  · skip
    rintro b6o1_48714 Zn8o1_48714 b8o4_48714 Zn10o1_48714 Zn10o4_48714 ⟨hle8o2_48714,hf8o3_48714,rel8o5_48714,hle10o2_48714,hf10o3_48714⟩
    refine WD.new (i:=14) (dd:=8) rfl (by kernel_rfl) rfl rfl rfl (yh (cs:=[(.int .i64 0),(.int .i64 0)]) ym rfl) (fun h'=>absurd h' (by decide)) ?_
    intro b14o1_48714 _
    exact WD.yA (.cons .here (.cons .here (.cons .here (.cons .here (.cons .here .nil))))) (.cons rfl (.cons rfl (.cons rfl (.cons rfl (.cons rfl (.cons rfl (.cons rfl .nil))))))) (K6o8o10o11o12o13o14_48714 b6o1_48714 Zn8o1_48714 b8o4_48714 Zn10o1_48714 Zn10o4_48714 b14o1_48714 ⟨hle8o2_48714,hf8o3_48714,rel8o5_48714,hle10o2_48714,hf10o3_48714⟩)
  refine WD.mids4 (fuel':=6) (fun (b6o1_48714 : Nat) (Zn8o1_48714 : Zp) (b8o4_48714 : Nat) (b14o1_48714 : Nat)=>[(4,(.pointer (some ⟨z3v,0,none⟩))),(5,(.int .i64 z1r.2)),(6,(.pointer (some ⟨z3g,0,none⟩))),(7,(.int .i64 z1s.2)),(54,(.agg #[(.int .i64 z1i.fN),(.int .i64 z1i.fD),(.int .i64 z1j.fN),(.int .i64 z1j.fD)])),(53,(.slice (some ⟨b8o4_48714,0,none⟩) (([([(⟨(⟨(((nth ([zd] : List z1) 0).fB).fN),(((nth ([zd] : List z1) 0).fB).fD)⟩ : z2),(⟨(((nth ([zd] : List z1) 0).fR).fN),(((nth ([zd] : List z1) 0).fR).fD)⟩ : z2)⟩ : z1),zF] : List z1),([zG] : List z1)] : List (List z1)).length) 2)),(8,(.pointer (some ⟨b14o1_48714,0,none⟩)))]) (fun (b6o1_48714 : Nat) (Zn8o1_48714 : Zp) (b8o4_48714 : Nat) (b14o1_48714 : Nat)=>[stb b14o1_48714 30 [(.int .i64 0),(.int .i64 0)],row (.slice (some ⟨b8o4_48714,0,none⟩) (([([(⟨(⟨(((nth ([zd] : List z1) 0).fB).fN),(((nth ([zd] : List z1) 0).fB).fD)⟩ : z2),(⟨(((nth ([zd] : List z1) 0).fR).fN),(((nth ([zd] : List z1) 0).fR).fD)⟩ : z2)⟩ : z1),zF] : List z1),([zG] : List z1)] : List (List z1)).length) 2) 39 1 [(.slice (some ⟨b6o1_48714,0,none⟩) (([(⟨(⟨(((nth ([zd] : List z1) 0).fB).fN),(((nth ([zd] : List z1) 0).fB).fD)⟩ : z2),(⟨(((nth ([zd] : List z1) 0).fR).fN),(((nth ([zd] : List z1) 0).fR).fD)⟩ : z2)⟩ : z1),zF] : List z1).length) 2),(.slice (some ⟨z2i,0,none⟩) (([zG] : List z1).length) 1)],fz Zn8o1_48714,stb z3g 30 [(.int .i64 z1s.1.fN),(.int .i64 z1s.1.fD)],stb z3v 30 [(.int .i64 z1r.1.fN),(.int .i64 z1r.1.fD)],stb z8m 43 [(.int .i64 z1i.fN),(.int .i64 z1i.fD),(.int .i64 z1j.fN),(.int .i64 z1j.fD)]]) (fun (b6o1_48714 : Nat) (Zn8o1_48714 : Zp) (b8o4_48714 : Nat) (b14o1_48714 : Nat)=>(Zle (Z ++ (z7f ++ z7g)) (Z ++ Zn8o1_48714)) ∧ (ZS (Z ++ Zn8o1_48714) 4 (fun r x=>r = e35 x) (some ⟨b6o1_48714,0,none⟩) 2 ([(⟨(⟨(((nth ([zd] : List z1) 0).fB).fN),(((nth ([zd] : List z1) 0).fB).fD)⟩ : z2),(⟨(((nth ([zd] : List z1) 0).fR).fN),(((nth ([zd] : List z1) 0).fR).fD)⟩ : z2)⟩ : z1),zF] : List z1)) ∧ (RR 1 (p39 (Z ++ Zn8o1_48714)) [(.slice (some ⟨b6o1_48714,0,none⟩) (([(⟨(⟨(((nth ([zd] : List z1) 0).fB).fN),(((nth ([zd] : List z1) 0).fB).fD)⟩ : z2),(⟨(((nth ([zd] : List z1) 0).fR).fN),(((nth ([zd] : List z1) 0).fR).fD)⟩ : z2)⟩ : z1),zF] : List z1).length) 2),(.slice (some ⟨z2i,0,none⟩) (([zG] : List z1).length) 1)] ([([(⟨(⟨(((nth ([zd] : List z1) 0).fB).fN),(((nth ([zd] : List z1) 0).fB).fD)⟩ : z2),(⟨(((nth ([zd] : List z1) 0).fR).fN),(((nth ([zd] : List z1) 0).fR).fD)⟩ : z2)⟩ : z1),zF] : List z1),([zG] : List z1)] : List (List z1)))) (y1h 17 [14,8,6,9,7,5,4,3,2,1,0]) ?_ (fun K6o8o14_48714=>?_)
  · skip
    rintro b6o1_48714 Zn8o1_48714 b8o4_48714 b14o1_48714 ⟨hle8o2_48714,hf8o3_48714,rel8o5_48714⟩
    refine WD.freezeS (ls:=([([(⟨(⟨(((nth ([zd] : List z1) 0).fB).fN),(((nth ([zd] : List z1) 0).fB).fD)⟩ : z2),(⟨(((nth ([zd] : List z1) 0).fR).fN),(((nth ([zd] : List z1) 0).fR).fD)⟩ : z2)⟩ : z1),zF] : List z1),([zG] : List z1)] : List (List z1))) .h1 .h1 hz rel8o5_48714 ?_
    intro Zn10o1_48714 hle10o2_48714 hf10o3_48714
    replace hf10o3_48714:=hf10o3_48714.weak (fun _ _ h=>yo hle10o2_48714 h)
    refine WD.call1 (i:=10) (dd:=55) rfl (by kernel_rfl) rfl rfl rfl (.inr rfl) (ze (l:=[.tmp 53,.tmp 54]) Try.call15 (.cons rfl (.cons rfl .nil))) .nil (ccz hz .nil .here fun w pz ho=>y2X _ _ _ _ _ _ znN w pz hf10o3_48714) ?_
    rintro Zn10o4_48714 _
    refine WD.merge .here .here ?_
    refine WD.a (i:=11) (d:=44) (by kernel_rfl) rfl (z6 (by kernel_rfl)) (z7 (by kernel_rfl)) rfl rfl rfl (fun _=>q_m rfl) ?_
    refine WD.a (i:=12) (d:=56) (by kernel_rfl) rfl (z6 (by kernel_rfl)) (z7 (by kernel_rfl)) rfl rfl rfl (fun _=>y3X rfl rfl) ?_
    refine WD.a (i:=13) (d:=57) (by kernel_rfl) rfl (z6 (by kernel_rfl)) (z7 (by kernel_rfl)) rfl rfl rfl (fun _=>y3X rfl rfl) ?_
    exact WD.yA (.cons .h1 (.cons .here (.cons .here (.cons .here (.cons .here .nil))))) (.cons rfl (.cons rfl (.cons rfl (.cons rfl (.cons rfl (.cons rfl (.cons rfl .nil))))))) (K6o8o10o11o12o13o14_48714 b6o1_48714 Zn8o1_48714 b8o4_48714 Zn10o1_48714 Zn10o4_48714 b14o1_48714 ⟨hle8o2_48714,hf8o3_48714,rel8o5_48714,hle10o2_48714,hf10o3_48714⟩)
  refine WD.mids3 (fuel':=7) (fun (b6o1_48714 : Nat) (Zn8o1_48714 : Zp) (b8o4_48714 : Nat)=>[(4,(.pointer (some ⟨z3v,0,none⟩))),(5,(.int .i64 z1r.2)),(6,(.pointer (some ⟨z3g,0,none⟩))),(7,(.int .i64 z1s.2)),(54,(.agg #[(.int .i64 z1i.fN),(.int .i64 z1i.fD),(.int .i64 z1j.fN),(.int .i64 z1j.fD)])),(53,(.slice (some ⟨b8o4_48714,0,none⟩) (([([(⟨(⟨(((nth ([zd] : List z1) 0).fB).fN),(((nth ([zd] : List z1) 0).fB).fD)⟩ : z2),(⟨(((nth ([zd] : List z1) 0).fR).fN),(((nth ([zd] : List z1) 0).fR).fD)⟩ : z2)⟩ : z1),zF] : List z1),([zG] : List z1)] : List (List z1)).length) 2))]) (fun (b6o1_48714 : Nat) (Zn8o1_48714 : Zp) (b8o4_48714 : Nat)=>[row (.slice (some ⟨b8o4_48714,0,none⟩) (([([(⟨(⟨(((nth ([zd] : List z1) 0).fB).fN),(((nth ([zd] : List z1) 0).fB).fD)⟩ : z2),(⟨(((nth ([zd] : List z1) 0).fR).fN),(((nth ([zd] : List z1) 0).fR).fD)⟩ : z2)⟩ : z1),zF] : List z1),([zG] : List z1)] : List (List z1)).length) 2) 39 1 [(.slice (some ⟨b6o1_48714,0,none⟩) (([(⟨(⟨(((nth ([zd] : List z1) 0).fB).fN),(((nth ([zd] : List z1) 0).fB).fD)⟩ : z2),(⟨(((nth ([zd] : List z1) 0).fR).fN),(((nth ([zd] : List z1) 0).fR).fD)⟩ : z2)⟩ : z1),zF] : List z1).length) 2),(.slice (some ⟨z2i,0,none⟩) (([zG] : List z1).length) 1)],fz Zn8o1_48714,stb z3g 30 [(.int .i64 z1s.1.fN),(.int .i64 z1s.1.fD)],stb z3v 30 [(.int .i64 z1r.1.fN),(.int .i64 z1r.1.fD)],stb z8m 43 [(.int .i64 z1i.fN),(.int .i64 z1i.fD),(.int .i64 z1j.fN),(.int .i64 z1j.fD)]]) (fun (b6o1_48714 : Nat) (Zn8o1_48714 : Zp) (b8o4_48714 : Nat)=>(Zle (Z ++ (z7f ++ z7g)) (Z ++ Zn8o1_48714)) ∧ (ZS (Z ++ Zn8o1_48714) 4 (fun r x=>r = e35 x) (some ⟨b6o1_48714,0,none⟩) 2 ([(⟨(⟨(((nth ([zd] : List z1) 0).fB).fN),(((nth ([zd] : List z1) 0).fB).fD)⟩ : z2),(⟨(((nth ([zd] : List z1) 0).fR).fN),(((nth ([zd] : List z1) 0).fR).fD)⟩ : z2)⟩ : z1),zF] : List z1)) ∧ (RR 1 (p39 (Z ++ Zn8o1_48714)) [(.slice (some ⟨b6o1_48714,0,none⟩) (([(⟨(⟨(((nth ([zd] : List z1) 0).fB).fN),(((nth ([zd] : List z1) 0).fB).fD)⟩ : z2),(⟨(((nth ([zd] : List z1) 0).fR).fN),(((nth ([zd] : List z1) 0).fR).fD)⟩ : z2)⟩ : z1),zF] : List z1).length) 2),(.slice (some ⟨z2i,0,none⟩) (([zG] : List z1).length) 1)] ([([(⟨(⟨(((nth ([zd] : List z1) 0).fB).fN),(((nth ([zd] : List z1) 0).fB).fD)⟩ : z2),(⟨(((nth ([zd] : List z1) 0).fR).fN),(((nth ([zd] : List z1) 0).fR).fD)⟩ : z2)⟩ : z1),zF] : List z1),([zG] : List z1)] : List (List z1)))) (y1h 17 [8,6,9,7,5,4,3,2,1,0]) ?_ (fun K6o8_48714=>?_)
  · skip
    rintro b6o1_48714 Zn8o1_48714 b8o4_48714 ⟨hle8o2_48714,hf8o3_48714,rel8o5_48714⟩
    refine WD.choose [10,14] (by kernel_rfl) rfl ?_
    refine WDo.cons ?_ (WDo.cons ?_ (WDo.nil))
    · refine WDo.freezeS (ls:=([([(⟨(⟨(((nth ([zd] : List z1) 0).fB).fN),(((nth ([zd] : List z1) 0).fB).fD)⟩ : z2),(⟨(((nth ([zd] : List z1) 0).fR).fN),(((nth ([zd] : List z1) 0).fR).fD)⟩ : z2)⟩ : z1),zF] : List z1),([zG] : List z1)] : List (List z1))) .here .here hz rel8o5_48714 ?_
      intro Zn10o1_48714 hle10o2_48714 hf10o3_48714
      replace hf10o3_48714:=hf10o3_48714.weak (fun _ _ h=>yo hle10o2_48714 h)
      refine WDo.call1 (i:=10) (dd:=55) rfl rfl rfl rfl (.inr rfl) (ze (l:=[.tmp 53,.tmp 54]) Try.call15 (.cons rfl (.cons rfl .nil))) .nil (ccz hz .nil .here fun w pz ho=>y2X _ _ _ _ _ _ znN w pz hf10o3_48714) ?_
      rintro Zn10o4_48714 _
      refine WD.merge .here .here ?_
      refine WD.a (i:=11) (d:=44) (by kernel_rfl) rfl (z6 (by kernel_rfl)) (z7 (by kernel_rfl)) rfl rfl rfl (fun _=>q_m rfl) ?_
      refine WD.a (i:=12) (d:=56) (by kernel_rfl) rfl (z6 (by kernel_rfl)) (z7 (by kernel_rfl)) rfl rfl rfl (fun _=>y3X rfl rfl) ?_
      refine WD.a (i:=13) (d:=57) (by kernel_rfl) rfl (z6 (by kernel_rfl)) (z7 (by kernel_rfl)) rfl rfl rfl (fun _=>y3X rfl rfl) ?_
      exact WD.yA (.cons .here (.cons .here (.cons .here (.cons .here .nil)))) (.cons rfl (.cons rfl (.cons rfl (.cons rfl (.cons rfl (.cons rfl .nil)))))) (K6o8o10o11o12o13_48714 b6o1_48714 Zn8o1_48714 b8o4_48714 Zn10o1_48714 Zn10o4_48714 ⟨hle8o2_48714,hf8o3_48714,rel8o5_48714,hle10o2_48714,hf10o3_48714⟩)
    · refine WDo.new (i:=14) (dd:=8) rfl rfl rfl rfl (yh (cs:=[(.int .i64 0),(.int .i64 0)]) ym rfl) (fun h'=>absurd h' (by decide)) ?_
      intro b14o1_48714 _
      exact WD.yA (.cons .here (.cons .here (.cons .here (.cons .here (.cons .here (.cons .here .nil)))))) (.cons rfl (.cons rfl (.cons rfl (.cons rfl (.cons rfl (.cons rfl (.cons rfl .nil))))))) (K6o8o14_48714 b6o1_48714 Zn8o1_48714 b8o4_48714 b14o1_48714 ⟨hle8o2_48714,hf8o3_48714,rel8o5_48714⟩)
  refine WD.y6X (fuel':=7) (fun (b6o1_48714 : Nat) (b14o1_48714 : Nat)=>[(4,(.pointer (some ⟨z3v,0,none⟩))),(5,(.int .i64 z1r.2)),(6,(.pointer (some ⟨z3g,0,none⟩))),(7,(.int .i64 z1s.2)),(52,(.slice (some ⟨z2i,0,none⟩) (([zG] : List z1).length) 1)),(54,(.agg #[(.int .i64 z1i.fN),(.int .i64 z1i.fD),(.int .i64 z1j.fN),(.int .i64 z1j.fD)])),(51,(.slice (some ⟨b6o1_48714,0,none⟩) (([(⟨(⟨(((nth ([zd] : List z1) 0).fB).fN),(((nth ([zd] : List z1) 0).fB).fD)⟩ : z2),(⟨(((nth ([zd] : List z1) 0).fR).fN),(((nth ([zd] : List z1) 0).fR).fD)⟩ : z2)⟩ : z1),zF] : List z1).length) 2)),(8,(.pointer (some ⟨b14o1_48714,0,none⟩)))]) (fun (b6o1_48714 : Nat) (b14o1_48714 : Nat)=>[stb b14o1_48714 30 [(.int .i64 0),(.int .i64 0)],row (.slice (some ⟨b6o1_48714,0,none⟩) (([(⟨(⟨(((nth ([zd] : List z1) 0).fB).fN),(((nth ([zd] : List z1) 0).fB).fD)⟩ : z2),(⟨(((nth ([zd] : List z1) 0).fR).fN),(((nth ([zd] : List z1) 0).fR).fD)⟩ : z2)⟩ : z1),zF] : List z1).length) 2) 35 4 (([(⟨(⟨(((nth ([zd] : List z1) 0).fB).fN),(((nth ([zd] : List z1) 0).fB).fD)⟩ : z2),(⟨(((nth ([zd] : List z1) 0).fR).fN),(((nth ([zd] : List z1) 0).fR).fD)⟩ : z2)⟩ : z1),zF] : List z1).flatMap e35),stb z3g 30 [(.int .i64 z1s.1.fN),(.int .i64 z1s.1.fD)],fz (z7f ++ z7g),stb z3v 30 [(.int .i64 z1r.1.fN),(.int .i64 z1r.1.fD)],stb z8m 43 [(.int .i64 z1i.fN),(.int .i64 z1i.fD),(.int .i64 z1j.fN),(.int .i64 z1j.fD)]]) (fun (b6o1_48714 : Nat) (b14o1_48714 : Nat)=>True) (y1h 17 [14,6,9,7,5,4,3,2,1,0]) ?_ (fun K6o14_48714=>?_)
  · skip
    rintro b6o1_48714 b14o1_48714 _
    refine WD.freezeS (ls:=([(⟨(⟨(((nth ([zd] : List z1) 0).fB).fN),(((nth ([zd] : List z1) 0).fB).fD)⟩ : z2),(⟨(((nth ([zd] : List z1) 0).fR).fN),(((nth ([zd] : List z1) 0).fR).fD)⟩ : z2)⟩ : z1),zF] : List z1)) .h1 .h2 hz (RR.flat (enc:=e35) (fun _=>rfl) _) ?_
    intro Zn8o1_48714 hle8o2_48714 hf8o3_48714
    have rel8o5_48714 : RR 1 (p39 (Z ++ Zn8o1_48714)) [(.slice (some ⟨b6o1_48714,0,none⟩) (([(⟨(⟨(((nth ([zd] : List z1) 0).fB).fN),(((nth ([zd] : List z1) 0).fB).fD)⟩ : z2),(⟨(((nth ([zd] : List z1) 0).fR).fN),(((nth ([zd] : List z1) 0).fR).fD)⟩ : z2)⟩ : z1),zF] : List z1).length) 2),(.slice (some ⟨z2i,0,none⟩) (([zG] : List z1).length) 1)] ([([(⟨(⟨(((nth ([zd] : List z1) 0).fB).fN),(((nth ([zd] : List z1) 0).fB).fD)⟩ : z2),(⟨(((nth ([zd] : List z1) 0).fR).fN),(((nth ([zd] : List z1) 0).fR).fD)⟩ : z2)⟩ : z1),zF] : List z1),([zG] : List z1)] : List (List z1)):=(RR.cons (r:=[(.slice (some ⟨b6o1_48714,0,none⟩) (([(⟨(⟨(((nth ([zd] : List z1) 0).fB).fN),(((nth ([zd] : List z1) 0).fB).fD)⟩ : z2),(⟨(((nth ([zd] : List z1) 0).fR).fN),(((nth ([zd] : List z1) 0).fR).fD)⟩ : z2)⟩ : z1),zF] : List z1).length) 2)]) rfl (show p39 _ _ _ from ⟨_,_,rfl,hf8o3_48714⟩) (RR.cons (r:=[(.slice (some ⟨z2i,0,none⟩) (([zG] : List z1).length) 1)]) rfl (show p39 _ _ _ from ⟨_,_,rfl,(zfj.mono (zbw.trans ((Zle.left _ _).trans ((Zle.yi _ _ _).trans (zfk.trans ((Zle.left _ _).trans ((Zle.yi _ _ _).trans hle8o2_48714)))))))⟩) (RR.nil _ _)))
    refine WD.new (i:=8) (dd:=53) rfl (by kernel_rfl) rfl rfl rfl (yp (cs:=[(.slice (some ⟨b6o1_48714,0,none⟩) (([(⟨(⟨(((nth ([zd] : List z1) 0).fB).fN),(((nth ([zd] : List z1) 0).fB).fD)⟩ : z2),(⟨(((nth ([zd] : List z1) 0).fR).fN),(((nth ([zd] : List z1) 0).fR).fD)⟩ : z2)⟩ : z1),zF] : List z1).length) 2),(.slice (some ⟨z2i,0,none⟩) (([zG] : List z1).length) 1)]) y2x (Eos.parts (l:=[.tmp 51,.tmp 52]) (.cons rfl (.cons rfl .nil)) [0,1]) (fun _=>by kernel_rfl) rfl (by unfold maxLen; omega)) (fun h'=>absurd h' (by decide)) ?_
    intro b8o4_48714 _
    exact WD.yA (.cons .h2 (.cons .here (.cons .here (.cons .here (.cons .here (.cons .here .nil)))))) (.cons rfl (.cons rfl (.cons rfl (.cons rfl (.cons rfl (.cons rfl (.cons rfl .nil))))))) (K6o8o14_48714 b6o1_48714 Zn8o1_48714 b8o4_48714 b14o1_48714 ⟨hle8o2_48714,hf8o3_48714,rel8o5_48714⟩)
  refine WD.y6W (fuel':=8) (fun (b6o1_48714 : Nat)=>[(4,(.pointer (some ⟨z3v,0,none⟩))),(5,(.int .i64 z1r.2)),(6,(.pointer (some ⟨z3g,0,none⟩))),(7,(.int .i64 z1s.2)),(52,(.slice (some ⟨z2i,0,none⟩) (([zG] : List z1).length) 1)),(54,(.agg #[(.int .i64 z1i.fN),(.int .i64 z1i.fD),(.int .i64 z1j.fN),(.int .i64 z1j.fD)])),(51,(.slice (some ⟨b6o1_48714,0,none⟩) (([(⟨(⟨(((nth ([zd] : List z1) 0).fB).fN),(((nth ([zd] : List z1) 0).fB).fD)⟩ : z2),(⟨(((nth ([zd] : List z1) 0).fR).fN),(((nth ([zd] : List z1) 0).fR).fD)⟩ : z2)⟩ : z1),zF] : List z1).length) 2))]) (fun (b6o1_48714 : Nat)=>[row (.slice (some ⟨b6o1_48714,0,none⟩) (([(⟨(⟨(((nth ([zd] : List z1) 0).fB).fN),(((nth ([zd] : List z1) 0).fB).fD)⟩ : z2),(⟨(((nth ([zd] : List z1) 0).fR).fN),(((nth ([zd] : List z1) 0).fR).fD)⟩ : z2)⟩ : z1),zF] : List z1).length) 2) 35 4 (([(⟨(⟨(((nth ([zd] : List z1) 0).fB).fN),(((nth ([zd] : List z1) 0).fB).fD)⟩ : z2),(⟨(((nth ([zd] : List z1) 0).fR).fN),(((nth ([zd] : List z1) 0).fR).fD)⟩ : z2)⟩ : z1),zF] : List z1).flatMap e35),stb z3g 30 [(.int .i64 z1s.1.fN),(.int .i64 z1s.1.fD)],fz (z7f ++ z7g),stb z3v 30 [(.int .i64 z1r.1.fN),(.int .i64 z1r.1.fD)],stb z8m 43 [(.int .i64 z1i.fN),(.int .i64 z1i.fD),(.int .i64 z1j.fN),(.int .i64 z1j.fD)]]) (fun (b6o1_48714 : Nat)=>True) (y1h 17 [6,9,7,5,4,3,2,1,0]) ?_ (fun K6_48714=>?_)
  · skip
    rintro b6o1_48714 _
    refine WD.choose [8,14] (by kernel_rfl) rfl ?_
    refine WDo.cons ?_ (WDo.cons ?_ (WDo.nil))
    · refine WDo.freezeS (ls:=([(⟨(⟨(((nth ([zd] : List z1) 0).fB).fN),(((nth ([zd] : List z1) 0).fB).fD)⟩ : z2),(⟨(((nth ([zd] : List z1) 0).fR).fN),(((nth ([zd] : List z1) 0).fR).fD)⟩ : z2)⟩ : z1),zF] : List z1)) .here .h1 hz (RR.flat (enc:=e35) (fun _=>rfl) _) ?_
      intro Zn8o1_48714 hle8o2_48714 hf8o3_48714
      have rel8o5_48714 : RR 1 (p39 (Z ++ Zn8o1_48714)) [(.slice (some ⟨b6o1_48714,0,none⟩) (([(⟨(⟨(((nth ([zd] : List z1) 0).fB).fN),(((nth ([zd] : List z1) 0).fB).fD)⟩ : z2),(⟨(((nth ([zd] : List z1) 0).fR).fN),(((nth ([zd] : List z1) 0).fR).fD)⟩ : z2)⟩ : z1),zF] : List z1).length) 2),(.slice (some ⟨z2i,0,none⟩) (([zG] : List z1).length) 1)] ([([(⟨(⟨(((nth ([zd] : List z1) 0).fB).fN),(((nth ([zd] : List z1) 0).fB).fD)⟩ : z2),(⟨(((nth ([zd] : List z1) 0).fR).fN),(((nth ([zd] : List z1) 0).fR).fD)⟩ : z2)⟩ : z1),zF] : List z1),([zG] : List z1)] : List (List z1)):=(RR.cons (r:=[(.slice (some ⟨b6o1_48714,0,none⟩) (([(⟨(⟨(((nth ([zd] : List z1) 0).fB).fN),(((nth ([zd] : List z1) 0).fB).fD)⟩ : z2),(⟨(((nth ([zd] : List z1) 0).fR).fN),(((nth ([zd] : List z1) 0).fR).fD)⟩ : z2)⟩ : z1),zF] : List z1).length) 2)]) rfl (show p39 _ _ _ from ⟨_,_,rfl,hf8o3_48714⟩) (RR.cons (r:=[(.slice (some ⟨z2i,0,none⟩) (([zG] : List z1).length) 1)]) rfl (show p39 _ _ _ from ⟨_,_,rfl,(zfj.mono (zbw.trans ((Zle.left _ _).trans ((Zle.yi _ _ _).trans (zfk.trans ((Zle.left _ _).trans ((Zle.yi _ _ _).trans hle8o2_48714)))))))⟩) (RR.nil _ _)))
      refine WDo.new (i:=8) (dd:=53) rfl rfl rfl rfl (yp (cs:=[(.slice (some ⟨b6o1_48714,0,none⟩) (([(⟨(⟨(((nth ([zd] : List z1) 0).fB).fN),(((nth ([zd] : List z1) 0).fB).fD)⟩ : z2),(⟨(((nth ([zd] : List z1) 0).fR).fN),(((nth ([zd] : List z1) 0).fR).fD)⟩ : z2)⟩ : z1),zF] : List z1).length) 2),(.slice (some ⟨z2i,0,none⟩) (([zG] : List z1).length) 1)]) y2x (Eos.parts (l:=[.tmp 51,.tmp 52]) (.cons rfl (.cons rfl .nil)) [0,1]) (fun _=>by kernel_rfl) rfl (by unfold maxLen; omega)) (fun h'=>absurd h' (by decide)) ?_
      intro b8o4_48714 _
      exact WD.yA (.cons .here (.cons .here (.cons .here (.cons .here (.cons .here .nil))))) (.cons rfl (.cons rfl (.cons rfl (.cons rfl (.cons rfl (.cons rfl .nil)))))) (K6o8_48714 b6o1_48714 Zn8o1_48714 b8o4_48714 ⟨hle8o2_48714,hf8o3_48714,rel8o5_48714⟩)
    · refine WDo.new (i:=14) (dd:=8) rfl rfl rfl rfl (yh (cs:=[(.int .i64 0),(.int .i64 0)]) ym rfl) (fun h'=>absurd h' (by decide)) ?_
      intro b14o1_48714 _
      exact WD.yA (.cons .here (.cons .here (.cons .here (.cons .here (.cons .here (.cons .here .nil)))))) (.cons rfl (.cons rfl (.cons rfl (.cons rfl (.cons rfl (.cons rfl (.cons rfl (.cons rfl .nil)))))))) (K6o14_48714 b6o1_48714 b14o1_48714 trivial)
  refine WD.y6W (fuel':=8) (fun (b14o1_48714 : Nat)=>[(4,(.pointer (some ⟨z3v,0,none⟩))),(5,(.int .i64 z1r.2)),(6,(.pointer (some ⟨z3g,0,none⟩))),(7,(.int .i64 z1s.2)),(47,(.agg #[(.int .i64 (((nth ([zd] : List z1) 0).fB).fN)),(.int .i64 (((nth ([zd] : List z1) 0).fB).fD)),(.int .i64 (((nth ([zd] : List z1) 0).fR).fN)),(.int .i64 (((nth ([zd] : List z1) 0).fR).fD))])),(50,(.agg #[(.int .i64 zF.fB.fN),(.int .i64 zF.fB.fD),(.int .i64 zF.fR.fN),(.int .i64 zF.fR.fD)])),(52,(.slice (some ⟨z2i,0,none⟩) (([zG] : List z1).length) 1)),(54,(.agg #[(.int .i64 z1i.fN),(.int .i64 z1i.fD),(.int .i64 z1j.fN),(.int .i64 z1j.fD)])),(8,(.pointer (some ⟨b14o1_48714,0,none⟩)))]) (fun (b14o1_48714 : Nat)=>[stb b14o1_48714 30 [(.int .i64 0),(.int .i64 0)],stb z3g 30 [(.int .i64 z1s.1.fN),(.int .i64 z1s.1.fD)],fz (z7f ++ z7g),stb z3v 30 [(.int .i64 z1r.1.fN),(.int .i64 z1r.1.fD)],stb z8m 43 [(.int .i64 z1i.fN),(.int .i64 z1i.fD),(.int .i64 z1j.fN),(.int .i64 z1j.fD)]]) (fun (b14o1_48714 : Nat)=>True) (y1h 17 [14,9,7,5,4,3,2,1,0]) ?_ (fun K14_48714=>?_)
  · skip
    rintro b14o1_48714 _
    refine WD.new (i:=6) (dd:=51) rfl (by kernel_rfl) rfl rfl rfl (yp (cs:=([(⟨(⟨(((nth ([zd] : List z1) 0).fB).fN),(((nth ([zd] : List z1) 0).fB).fD)⟩ : z2),(⟨(((nth ([zd] : List z1) 0).fR).fN),(((nth ([zd] : List z1) 0).fR).fD)⟩ : z2)⟩ : z1),zF] : List z1).flatMap e35) y2d (Eos.parts (l:=[.tmp 47,.tmp 50]) (.cons rfl (.cons rfl .nil)) [0,1]) (fun _=>by kernel_rfl) rfl (by unfold maxLen; omega)) (fun h'=>absurd h' (by decide)) ?_
    intro b6o1_48714 _
    exact WD.yA (.cons .h1 (.cons .here (.cons .here (.cons .here (.cons .here (.cons .here .nil)))))) (.cons rfl (.cons rfl (.cons rfl (.cons rfl (.cons rfl (.cons rfl (.cons rfl (.cons rfl .nil)))))))) (K6o14_48714 b6o1_48714 b14o1_48714 trivial)
  refine WD.choose [6,14] (by kernel_rfl) rfl ?_
  refine WDo.cons ?_ (WDo.cons ?_ (WDo.nil))
  · refine WDo.new (i:=6) (dd:=51) rfl rfl rfl rfl (yp (cs:=([(⟨(⟨(((nth ([zd] : List z1) 0).fB).fN),(((nth ([zd] : List z1) 0).fB).fD)⟩ : z2),(⟨(((nth ([zd] : List z1) 0).fR).fN),(((nth ([zd] : List z1) 0).fR).fD)⟩ : z2)⟩ : z1),zF] : List z1).flatMap e35) y2d (Eos.parts (l:=[.tmp 47,.tmp 50]) (.cons rfl (.cons rfl .nil)) [0,1]) (fun _=>by kernel_rfl) rfl (by unfold maxLen; omega)) (fun h'=>absurd h' (by decide)) ?_
    intro b6o1_48714 _
    exact WD.yA (.cons .here (.cons .here (.cons .here (.cons .here (.cons .here .nil))))) (.cons rfl (.cons rfl (.cons rfl (.cons rfl (.cons rfl (.cons rfl (.cons rfl .nil))))))) (K6_48714 b6o1_48714 trivial)
  · refine WDo.new (i:=14) (dd:=8) rfl rfl rfl rfl (yh (cs:=[(.int .i64 0),(.int .i64 0)]) ym rfl) (fun h'=>absurd h' (by decide)) ?_
    intro b14o1_48714 _
    exact WD.yA (.cons .here (.cons .here (.cons .here (.cons .here (.cons .here .nil))))) (.cons rfl (.cons rfl (.cons rfl (.cons rfl (.cons rfl (.cons rfl (.cons rfl (.cons rfl (.cons rfl .nil))))))))) (K14_48714 b14o1_48714 trivial)
def y4l (z9E : Int) (z9F : Int) : Option z2 :=
  some (⟨z9E,z9F⟩ : z2)
set_option maxRecDepth 20000 in
theorem y7X (Z : Zp)  (z9E : Int) (z9F : Int) (r : z2)
     (h : y4l z9E z9F = some r) (w₀ : World) (hz : PZ [] w₀ Z) :
    Calls Try.prog 41 #[(.int .i64 z9E),(.int .i64 z9F)] w₀ fun e w'=>e = .returned (.agg #[(.int .i64 r.fN),(.int .i64 r.fD)]) ∧ Hp [] w₀ w' []:=by
  unfold y4l at h
  refine Calls.yc (vs:=[(.int .i64 z9E),(.int .i64 z9F)]) (pre:=[]) (env:=[(0,(.int .i64 z9E)),(1,(.int .i64 z9F))]) Try.func41 rfl Try.ntmps41 rfl (Hp.nil w₀ _) rfl ?_
  refine WC.b (WC.a ?_)
  refine WL.new (dd:=4) rfl rfl rfl (yh (cs:=[(.int .i64 0),(.int .i64 0)]) ym rfl) ?_
  intro zAX _
  refine WL.nil (WX.a (WC.b (WC.a (WL.pu rfl (WL.pu rfl ?_)))))
  refine WL.a (d:=7) rfl rfl rfl (yV (v:=(.agg #[(.int .i64 z9E),(.int .i64 z9F)])) (Eos.parts (l:=[.tmp 5,.tmp 6]) (.cons rfl (.cons rfl .nil)) [0,1]) (fun _=>by kernel_rfl)) ?_
  refine WL.ya rfl rfl (y9 yj rfl rfl rfl .here rfl rfl rfl) ?_
  refine WL.nil (WX.a (WC.ret ?_))
  obtain rfl:=Option.some.inj h
  refine WX.y8 Try.results41 (.agg rfl y4 rfl (y6 .here) .nil) (fun w hw=>?_)
  exact ⟨yG rfl,hw.sub .nil⟩
def y2h (z2V : List Int) (z7h : (List z1) → Option (List z1)) : Nat → (List z1) → Int → Option (List z1)
  | 0,_,_=>none
  | zjR + 1,z2I,z2W=>if (decide ((i64 (z2W + 1)) < ((z2V.length : Nat) : Int))) && (decide (((z2I.length : Nat) : Int) < 4)) then chk ((0 : Int) ≤ z2W ∧ z2W < ((z2V.length : Nat) : Int)) ((y1U (Int.tmod (i64 (nth z2V z2W)) 101) 1).bind fun z7i=>chk ((0 : Int) ≤ (i64 (z2W + 1)) ∧ (i64 (z2W + 1)) < ((z2V.length : Nat) : Int)) ((y1U (Int.tmod (i64 (nth z2V (i64 (z2W + 1)))) 41) 8).bind fun z7j=>chk ((((z2I ++ ([(⟨z7i.1,z7j.1⟩ : z1)] : List z1)).length : Nat) : Int) * 32 ≤ 140737488355328 ∧ (((z2I ++ ([(⟨z7i.1,z7j.1⟩ : z1)] : List z1)).length : Nat) : Int) ≤ 4611686018427387904) (y2h z2V z7h zjR (z2I ++ ([(⟨z7i.1,z7j.1⟩ : z1)] : List z1)) (i64 (z2W + 2))))) else z7h z2I
theorem y6O {n : Nat} {z2V : List Int} {z7h : (List z1) → Option (List z1)} {z2I : List z1} {z2W : Int} {r : List z1} (h : y2h z2V z7h n z2I z2W = some r) : ∃ m,n = m + 1:=by
  cases n with
  | zero=>cases h
  | succ m=>exact ⟨m,rfl⟩
def y34 (z2V : List Int) : Option (List z1) :=
  jp1 (fun (z4W : List z1)=>jp1 (fun (z60 : List z1)=>some z60) fun zfl=>if decide (((z4W.length : Nat) : Int) = 0) then (y4l 7 1).bind fun zbx=>(y4l 1 8).bind fun zby=>zfl ([(⟨zbx,zby⟩ : z1)] : List z1) else zfl z4W) fun z7h=>y2h z2V z7h ys ([] : List z1) 0
set_option maxRecDepth 20000 in
theorem y7c (Z : Zp) (zdu : Option Addr) (zdv : Nat) (z2V : List Int) (r : List z1)
     (h : y34 z2V = some r) (w₀ : World) (hz : PZ [] w₀ Z)
     (znY : ZS Z 1 (fun r x=>r = e5 x) zdu zdv z2V) :
    Calls Try.prog 20 #[(.slice zdu z2V.length zdv)] w₀ fun e w'=>∃ znZ : Option Addr,∃ zo0 : Nat,e = .returned (.slice znZ r.length zo0) ∧ True ∧ Hp [] w₀ w' [row (.slice znZ r.length zo0) 35 4 (r.flatMap e35)]:=by
  unfold y34 at h
  refine Calls.yc (vs:=[(.slice zdu z2V.length zdv)]) (pre:=[]) (env:=[(0,(.slice zdu z2V.length zdv))]) Try.func20 rfl Try.ntmps20 rfl (Hp.nil w₀ _) rfl ?_
  refine WC.b (WC.a (WL.pu rfl (WL.nil (WX.a (WC.b (WC.a (WL.pu rfl (WL.nil (WX.a ?_)))))))))
  obtain ⟨z7h,zwp,h⟩:=y1n h
  refine WC.y2G (fun (z4W : List z1) (zbz : Option Addr) (zbA : Nat)=>(z7h z4W = some r)) (fun (z4W : List z1) (zbz : Option Addr) (zbA : Nat)=>[(3,(.slice zbz z4W.length zbA))]) (fun (z4W : List z1) (zbz : Option Addr) (zbA : Nat)=>[row (.slice zbz z4W.length zbA) 35 4 (z4W.flatMap e35)]) ?_ ?_
  · skip
    refine WC.b (WC.a (WL.pu rfl (WL.nil (WX.a (WC.block ?_)))))
    refine WC.nilRow 35 4 ?_
    refine WC.y4r (fun (zbB : Nat) (z2I : List z1) (z2W : Int) (z9G : Option Addr) (z9H : Nat)=>(y2h z2V z7h zbB z2I z2W = some r)) (fun (zbB : Nat) (z2I : List z1) (z2W : Int) (z9G : Option Addr) (z9H : Nat)=>[(0,(.slice zdu z2V.length zdv)),(3,(.slice z9G z2I.length z9H)),(4,(.int .i64 z2W))]) (fun (zbB : Nat) (z2I : List z1) (z2W : Int) (z9G : Option Addr) (z9H : Nat)=>[row (.slice z9G z2I.length z9H) 35 4 (z2I.flatMap e35)]) (fun (zbB : Nat) (z2I : List z1) (z2W : Int) (z9G : Option Addr) (z9H : Nat)=>zbB) ⟨ys,([] : List z1),0,none,0⟩ h (.cons rfl (.cons rfl (.cons rfl .nil))) (.cons .here .nil) ?_
    rintro zbB z2I z2W z9G z9H h
    obtain ⟨zjR,rfl⟩:=y6O h
    rw [y2h] at h
    refine WC.b (WC.b (WC.a (WL.pu rfl (WL.pu rfl (WL.pu rfl ?_)))))
    refine WL.a (d:=12) rfl rfl rfl (y1c Try.underlying22 rfl) ?_
    refine WL.pu rfl (WL.pu rfl ?_)
    refine WL.seg true 3 14 (B:=(decide ((i64 (z2W + 1)) < ((z2V.length : Nat) : Int))) && (decide (((z2I.length : Nat) : Int) < 4))) rfl rfl rfl rfl rfl rfl (fun h=>(y38 h).symm) (fun _ zwq=>?_) ?_
    · skip
      refine WL.pu rfl ?_
      refine WL.a (d:=16) rfl rfl rfl (y1c Try.underlying39 rfl) ?_
      refine WL.pu rfl (WL.pu rfl ?_)
      exact WL.yy (y39 zwq) rfl rfl .all
    refine WL.nil (WX.a ?_)
    refine WC.cond rfl (fun zjS=>?_) (fun zjS=>?_)
    · replace h:=ye h zjS
      refine WC.skip (WX.a (WC.b (WC.block (WC.b ?_))))
      obtain ⟨zwr,h⟩:=yk h
      obtain ⟨z7i,zws,h⟩:=z8 h
      refine WC.a (WL.pu rfl (WL.pu rfl ?_))
      refine WL.znth (dd:=24) rfl rfl (Z:=Z) (Pr:=(fun r x=>r = e5 x)) elT_22 rfl rfl znY zwr ?_
      rintro zAY zAZ zwt zB0 rfl
      refine WL.a (d:=25) rfl rfl rfl (yb oneT_5 rfl (y4P hz.pv zwt rfl)) ?_
      refine WL.a (d:=26) rfl rfl rfl (y36 Try.underlying5 Try.underlying3 rfl rfl) ?_
      refine WL.a (d:=27) rfl rfl rfl (y6U rfl rfl (by decide) rfl) ?_
      refine WL.b (dd:=28) rfl rfl rfl (ze (l:=[.tmp 27,.const (.int .i64 1)]) Try.call9 (.cons rfl (.cons rfl .nil))) .nil (cc hz .nil fun w pz ho=>y3e _ _ _ _ zws w pz ) ?_
      refine WL.pu rfl (WL.pu rfl (WL.pu rfl ?_))
      refine WL.new (dd:=5) rfl rfl rfl (yh (cs:=[(.int .i64 0),(.int .i64 0)]) ym rfl) ?_
      intro zB1 _
      refine WL.ya rfl rfl (y9 yj rfl rfl rfl .here rfl rfl rfl) ?_
      refine WL.pu rfl (WL.nil (WX.a (WC.b ?_)))
      obtain ⟨zwu,h⟩:=yk h
      obtain ⟨z7j,zwv,h⟩:=z8 h
      refine WC.a (WL.pu rfl (WL.pu rfl (WL.pu rfl ?_)))
      refine WL.znth (dd:=35) rfl rfl (Z:=Z) (Pr:=(fun r x=>r = e5 x)) elT_22 rfl rfl znY zwu ?_
      rintro zB2 zB3 zww zB4 rfl
      refine WL.a (d:=36) rfl rfl rfl (yb oneT_5 rfl (y4P hz.pv zww rfl)) ?_
      refine WL.a (d:=37) rfl rfl rfl (y36 Try.underlying5 Try.underlying3 rfl rfl) ?_
      refine WL.a (d:=38) rfl rfl rfl (y6U rfl rfl (by decide) rfl) ?_
      refine WL.b (dd:=39) rfl rfl rfl (ze (l:=[.tmp 38,.const (.int .i64 8)]) Try.call9 (.cons rfl (.cons rfl .nil))) .nil (cc hz .nil fun w pz ho=>y3e _ _ _ _ zwv w pz ) ?_
      refine WL.pu rfl (WL.pu rfl (WL.pu rfl ?_))
      refine WL.new (dd:=7) rfl rfl rfl (yh (cs:=[(.int .i64 0),(.int .i64 0)]) ym rfl) ?_
      intro zB5 _
      refine WL.ya rfl rfl (y9 yj rfl rfl rfl .here rfl rfl rfl) ?_
      refine WL.pu rfl (WL.nil (WX.a ?_))
      obtain ⟨zwx,h⟩:=yk h
      refine WC.a (WL.pu rfl ?_)
      refine WL.a (d:=43) rfl rfl rfl (y7 y4 rfl (y6 .h1) rfl) ?_
      refine WL.a (d:=44) rfl rfl rfl (y7 y4 rfl (y6 .here) rfl) ?_
      refine WL.a (d:=45) rfl rfl rfl (yV (v:=(.agg #[(.int .i64 z7i.1.fN),(.int .i64 z7i.1.fD),(.int .i64 z7j.1.fN),(.int .i64 z7j.1.fD)])) (Eos.parts (l:=[.tmp 43,.tmp 44]) (.cons rfl (.cons rfl .nil)) [0,1]) (fun _=>by kernel_rfl)) ?_
      refine WL.new (dd:=46) rfl rfl rfl (yp (cs:=([(⟨z7i.1,z7j.1⟩ : z1)] : List z1).flatMap e35) y2d (Eos.parts (l:=[.tmp 45]) (.cons rfl .nil) [0]) (fun _=>by kernel_rfl) rfl (by unfold maxLen; omega)) ?_
      intro zB6 _
      refine WL.eff (d:=47) rfl rfl rfl (y5d (enc:=e35) (l1:=z2I) (l2:=([(⟨z7i.1,z7j.1⟩ : z1)] : List z1)) y2d rfl rfl .h3 (fun _=>rfl) rfl rfl (y61 .here) (y5O y9r _) zwx) ?_
      rintro ⟨zwy,zwz⟩ _
      refine WL.pu rfl (WL.nil (WX.yg (WX.a (WC.a (WL.pu rfl (WL.pu rfl (WL.pu rfl (WL.nil ?_))))))))
      exact WX.round (G:=Nat × List z1 × Int × Option Addr × Nat) ⟨zjR,(z2I ++ ([(⟨z7i.1,z7j.1⟩ : z1)] : List z1)),(i64 (z2W + 2)),zwy,zwz⟩ h (Nat.lt_succ_self _) (.cons rfl (.cons rfl (.cons rfl .nil))) (.cons .here .nil)
    · replace h:=yf h zjS
      refine WC.exit (WX.yd (WX.yd (WX.yt ?_)))
      exact WX.mid (G:=List z1 × Option Addr × Nat) ⟨z2I,z9G,z9H⟩ h (.cons rfl .nil) (.cons .here .nil)
  · rintro z4W zbz zbA h
    replace h:=(zwp z4W).symm.trans h
    obtain ⟨zfl,zwA,h⟩:=y1n h
    refine WC.y2G (fun (z60 : List z1) (zbC : Option Addr) (zbD : Nat)=>(zfl z60 = some r)) (fun (z60 : List z1) (zbC : Option Addr) (zbD : Nat)=>[(3,(.slice zbC z60.length zbD))]) (fun (z60 : List z1) (zbC : Option Addr) (zbD : Nat)=>[row (.slice zbC z60.length zbD) 35 4 (z60.flatMap e35)]) ?_ ?_
    · skip
      refine WC.b (WC.a (WL.pu rfl ?_))
      refine WL.a (d:=49) rfl rfl rfl (y1c Try.underlying39 rfl) ?_
      refine WL.pu rfl (WL.nil (WX.a ?_))
      refine WC.cond rfl (fun zjT=>?_) (fun zjT=>?_)
      · replace h:=ye h zjT
        obtain ⟨zbx,zwB,h⟩:=z8 h
        obtain ⟨zby,zwC,h⟩:=z8 h
        refine WC.a ?_
        refine WL.b (dd:=51) rfl rfl rfl (ze (l:=[.const (.int .i64 7),.const (.int .i64 1)]) Try.call41 (.cons rfl (.cons rfl .nil))) .nil (cc hz .nil fun w pz ho=>y7X _ _ _ _ zwB w pz ) ?_
        refine WL.b (dd:=52) rfl rfl rfl (ze (l:=[.const (.int .i64 1),.const (.int .i64 8)]) Try.call41 (.cons rfl (.cons rfl .nil))) .nil (cc hz .nil fun w pz ho=>y7X _ _ _ _ zwC w pz ) ?_
        refine WL.a (d:=53) rfl rfl rfl (yV (v:=(.agg #[(.int .i64 zbx.fN),(.int .i64 zbx.fD),(.int .i64 zby.fN),(.int .i64 zby.fD)])) (Eos.parts (l:=[.tmp 51,.tmp 52]) (.cons rfl (.cons rfl .nil)) [0,1]) (fun _=>by kernel_rfl)) ?_
        refine WL.new (dd:=54) rfl rfl rfl (yp (cs:=([(⟨zbx,zby⟩ : z1)] : List z1).flatMap e35) y2d (Eos.parts (l:=[.tmp 53]) (.cons rfl .nil) [0]) (fun _=>by kernel_rfl) rfl (by unfold maxLen; omega)) ?_
        intro zwD _
        refine WL.pu rfl (WL.nil ?_)
        exact WX.mid (G:=List z1 × Option Addr × Nat) ⟨([(⟨zbx,zby⟩ : z1)] : List z1),(some ⟨zwD,0,none⟩),1⟩ h (.cons rfl .nil) (.cons .here .nil)
      · replace h:=yf h zjT
        refine WC.skip ?_
        exact WX.mid (G:=List z1 × Option Addr × Nat) ⟨z4W,zbz,zbA⟩ h (.cons rfl .nil) (.cons .here .nil)
    · rintro z60 zbC zbD h
      replace h:=(zwA z60).symm.trans h
      refine WC.b (WC.a (WL.pu rfl (WL.pu rfl (WL.nil (WX.a (WC.ret ?_))))))
      obtain rfl:=Option.some.inj h
      refine WX.y8 Try.results20 (.tmp rfl .nil) (fun w hw=>?_)
      exact ⟨zbC,zbD,yG rfl,trivial,hw.sub (.cons .here .nil)⟩
end Go.Proofs.Ytakfmdiiehcbdaa

/- A part of this claim's proof: models of functions, walks, plain laws. No conditions. -/
import Derived.Test.YtakfmdiiehcbdaaW03b
namespace Go.Proofs.Ytakfmdiiehcbdaa
open Go Go.RowKit Sep
set_option linter.all false
set_option maxRecDepth 30000
set_option maxHeartbeats 4000000
def y15 (z4k : List (List z1)) (z3L : zSv) (z6T : z2) (z2D : List z2) (zeU : Int) : Option (Bool × (Nat × List z2 × Int)) :=
  (y2K (⟨zeU⟩ : zX) z6T z4k z3L).bind fun z4l=>(if decide (((z2D.length : Nat) : Int) = 0) then some true else chk ((0 : Int) ≤ 0 ∧ 0 < ((z2D.length : Nat) : Int)) ((yQ z4l.1 (⟨((nth z2D 0).fN),((nth z2D 0).fD)⟩ : z2)).bind fun zmH=>some (decide (zmH > 0)))).bind fun zia=>if zia then some (true,(0,([z4l.1] : List z2),z4l.2.fE)) else some (true,(0,z2D,z4l.2.fE))
def y2O (zK : List (List z1)) (zk : zSv) (z4k : List (List z1)) (z3L : zSv) (zL : List z2) : Option (z2 × Int) :=
  (y28 zK zk z4k z3L zL).bind fun zcM=>if decide (zcM ≠ 0) then some ((⟨0,0⟩ : z2),zcM) else jp2 (fun (z5Q : Int) (z3Z : List z2)=>if decide (z5Q ≠ 0) then some ((⟨0,0⟩ : z2),z5Q) else chk ((0 : Int) ≤ 0 ∧ 0 < ((z3Z.length : Nat) : Int)) (some ((⟨((nth z3Z 0).fN),((nth z3Z 0).fD)⟩ : z2),0))) fun zib=>(y2v zK zk z4k z3L zL).bind fun zs=>(y1O (Nat × List z2 × Int) (fun (x : z2) (s : Nat × List z2 × Int)=>chk (s.1 = 0) (y15 z4k z3L x s.2.1 s.2.2)) (0,([] : List z2),0) zK (⟨(⟨zs.1,zs.2.1⟩ : z2),(⟨zs.2.2.1,zs.2.2.2⟩ : z2)⟩ : zSv) z4k z3L zL).bind fun z2Q=>zib z2Q.2.2 z2Q.2.1
set_option maxRecDepth 20000 in
theorem y6N (Z : Zp) (zY : Option Addr) (zZ : Nat) (zT : Addr) (zic : Option Addr) (zid : Nat) (zU : Addr) (z10 : Option Addr) (z11 : Nat) (zK : List (List z1)) (zk : zSv) (z4k : List (List z1)) (z3L : zSv) (zL : List z2) (r : z2 × Int)
     (h : y2O zK zk z4k z3L zL = some r) (w₀ : World) (hz : PZ [] w₀ Z)
     (zie : ZS Z 1 (p39 Z) zY zZ zK)
     (zeV : ZS Z 1 (p39 Z) zic zid z4k)
     (zeW : ZC Z zT [(.slice zic z4k.length zid)])
     (zeX : ZC Z zU [(.int .i64 z3L.fR.fN),(.int .i64 z3L.fR.fD),(.int .i64 z3L.fLatency.fN),(.int .i64 z3L.fLatency.fD)])
     (zif : ZS Z 2 (fun r x=>r = e30 x) z10 z11 zL) :
    Calls Try.prog 36 #[(.agg #[(.slice zY zK.length zZ),(.int .i64 zk.fR.fN),(.int .i64 zk.fR.fD),(.int .i64 zk.fLatency.fN),(.int .i64 zk.fLatency.fD),(.func (.func 32) #[] #[(.pointer (some zT)),(.pointer (some zU))]),(.slice z10 zL.length z11)])] w₀ fun e w'=>∃ Zn : Zp,e = .returned (.tuple #[(.agg #[(.int .i64 r.1.fN),(.int .i64 r.1.fD)]),(.int .i64 r.2)]) ∧ True ∧ Hp [] w₀ w' [fz Zn]:=by
  unfold y2O at h
  refine Calls.y6D (vs:=[(.agg #[(.slice zY zK.length zZ),(.int .i64 zk.fR.fN),(.int .i64 zk.fR.fD),(.int .i64 zk.fLatency.fN),(.int .i64 zk.fLatency.fD),(.func (.func 32) #[] #[(.pointer (some zT)),(.pointer (some zU))]),(.slice z10 zL.length z11)])]) (pre:=[]) (env:=[(0,(.agg #[(.slice zY zK.length zZ),(.int .i64 zk.fR.fN),(.int .i64 zk.fR.fD),(.int .i64 zk.fLatency.fN),(.int .i64 zk.fLatency.fD),(.func (.func 32) #[] #[(.pointer (some zT)),(.pointer (some zU))]),(.slice z10 zL.length z11)]))]) Try.func36 rfl Try.ntmps36 rfl (Hp.nil w₀ _) rfl ?_
  refine WC.pool (WC.b (WC.a ?_))
  refine WL.new (dd:=1) rfl rfl rfl (yI (cs:=[(.slice zY zK.length zZ),(.int .i64 zk.fR.fN),(.int .i64 zk.fR.fD),(.int .i64 zk.fLatency.fN),(.int .i64 zk.fLatency.fD),(.func (.func 32) #[] #[(.pointer (some zT)),(.pointer (some zU))]),(.slice z10 zL.length z11)]) rfl rfl) ?_
  intro z2y _
  refine WL.new (dd:=2) rfl rfl rfl (yh (cs:=[(.int .i64 0),(.int .i64 0)]) ym rfl) ?_
  intro z2E _
  refine WL.pu rfl (WL.nil (WX.a (WC.b (WC.b ?_))))
  obtain ⟨zcM,ztN,h⟩:=z8 h
  refine WC.a ?_
  refine WL.a (d:=9) rfl rfl rfl (y7 y5R rfl (y6 .h1) rfl) ?_
  refine WL.y2l (dd:=10) rfl rfl rfl (ze (l:=[.tmp 9]) Try.call52 (.cons rfl .nil)) .nil (ccz hz .nil .h2 fun w pz ho=>y6o _ _ _ _ _ _ _ _ _ _ _ _ _ _ _ ztN w pz ((zie.mono (Zle.left _ _)).weak (fun _ _ h=>yo (Zle.left _ _) h)) ((zeV.mono (Zle.left _ _)).weak (fun _ _ h=>yo (Zle.left _ _) h)) (zeW.mono (Zle.left _ _)) (zeX.mono (Zle.left _ _)) (zif.mono (Zle.left _ _))) ?_
  rintro z3M _
  refine WL.merge .here .h2 ?_
  refine WL.pu rfl (WL.nil (WX.a (WC.b (WC.a (WL.pu rfl (WL.pu rfl (WL.nil (WX.a ?_))))))))
  refine WC.cond rfl (fun zig=>?_) (fun zig=>?_)
  · replace h:=ye h zig
    refine WC.b (WC.a ?_)
    refine WL.a (d:=13) rfl rfl rfl (yV (v:=(.agg #[(.int .i64 0),(.int .i64 0)])) (Eos.parts (l:=[]) .nil []) (fun _=>by kernel_rfl)) ?_
    refine WL.pu rfl ?_
    refine WL.ya rfl rfl (y9 yj rfl rfl rfl .h1 rfl rfl rfl) ?_
    refine WL.pu rfl (WL.nil (WX.a (WC.ret (WX.y5 ?_))))
    obtain rfl:=Option.some.inj h
    refine WX.y7n Try.results36 (.agg rfl y4 rfl (y6 .here) (.tmp rfl .nil)) (fun w hw=>?_)
    exact ⟨([] ++ z3M),y1H rfl rfl,trivial,hw.sub (.cons .h1 .nil)⟩
  · replace h:=yf h zig
    refine WC.skip (WX.a (WC.b (WC.a ?_)))
    refine WL.new (dd:=5) rfl rfl rfl (yh (cs:=[(.int .i64 0)]) y70 rfl) ?_
    intro z1Z _
    refine WL.nil (WX.a (WC.b (WC.a ?_)))
    refine WL.new (dd:=6) rfl rfl rfl (yh (cs:=[(.slice none 0 0)]) y89 rfl) ?_
    intro z2f _
    refine WL.nil (WX.a ?_)
    obtain ⟨zib,ztO,h⟩:=y3B h
    refine WC.y6E (fun (zcN : Nat) (z5Q : Int) (z3Z : List z2) (z9k : Zp) (zcO : Option Addr) (zcP : Nat)=>(zib z5Q z3Z = some r) ∧ (Zle (Z ++ ([] ++ z3M)) (Z ++ z9k))) (fun (zcN : Nat) (z5Q : Int) (z3Z : List z2) (z9k : Zp) (zcO : Option Addr) (zcP : Nat)=>[(2,(.pointer (some ⟨z2E,0,none⟩))),(5,(.pointer (some ⟨z1Z,0,none⟩))),(6,(.pointer (some ⟨z2f,0,none⟩)))]) (fun (zcN : Nat) (z5Q : Int) (z3Z : List z2) (z9k : Zp) (zcO : Option Addr) (zcP : Nat)=>[fz z9k,stb z2E 30 [(.int .i64 0),(.int .i64 0)],stb z1Z 98 [(.int .i64 z5Q)],stb z2f 77 [(.slice zcO z3Z.length zcP)],row (.slice zcO z3Z.length zcP) 30 2 (z3Z.flatMap e30),dfr zcN]) ?_ ?_
    · skip
      refine WC.b ?_
      obtain ⟨zs,ztP,h⟩:=z8 h
      refine WC.a ?_
      refine WL.a (d:=15) rfl rfl rfl (y7 y5R rfl (y6 .h4) rfl) ?_
      refine WL.y2l (dd:=16) rfl rfl rfl (ze (l:=[.tmp 15]) Try.call53 (.cons rfl .nil)) .nil (ccz hz .nil .h2 fun w pz ho=>y6a _ _ _ _ _ _ _ _ _ _ _ _ _ _ _ ztP w pz ((zie.mono ((Zle.left _ _).trans ((Zle.left _ _).trans (Zle.yi _ _ _)))).weak (fun _ _ h=>yo ((Zle.left _ _).trans ((Zle.left _ _).trans (Zle.yi _ _ _))) h)) ((zeV.mono ((Zle.left _ _).trans ((Zle.left _ _).trans (Zle.yi _ _ _)))).weak (fun _ _ h=>yo ((Zle.left _ _).trans ((Zle.left _ _).trans (Zle.yi _ _ _))) h)) (zeW.mono ((Zle.left _ _).trans ((Zle.left _ _).trans (Zle.yi _ _ _)))) (zeX.mono ((Zle.left _ _).trans ((Zle.left _ _).trans (Zle.yi _ _ _)))) (zif.mono ((Zle.left _ _).trans ((Zle.left _ _).trans (Zle.yi _ _ _))))) ?_
      rintro z31 _
      refine WL.nil (WX.a (WC.block (WC.pool ?_)))
      refine WC.drop (.cons .here (.cons .h1 (.cons .h1 (.cons .h2 (.cons .h2 (.cons .here (.cons .here .nil))))))) ?_
      refine WC.nilRow 30 2 ?_
      refine WC.rangeFunc (f:=69) (caps:=[(.pointer (some ⟨z31,0,none⟩))]) rfl Try.call69 ?_
      intro zzM zzN z2R z40 z3e zeY ztQ ztR w hw
      have hw1:=hw.selAll ((.cons .h3 (.cons .h3 (.cons .h2 (.cons .h2 (.cons .h2 (.cons .h2 (.cons .here .nil))))))) : Sel _ [fz [],stb z2f 77 [(.slice none (([] : List z2).length) 0)],row (.slice none (([] : List z2).length) 0) 30 2 (([] : List z2).flatMap e30),stb z1Z 98 [(.int .i64 0)],stb z2E 30 [(.int .i64 0),(.int .i64 0)],stb z2y 79 [(.slice zY zK.length zZ),(.int .i64 zk.fR.fN),(.int .i64 zk.fR.fD),(.int .i64 zk.fLatency.fN),(.int .i64 zk.fLatency.fD),(.func (.func 32) #[] #[(.pointer (some zT)),(.pointer (some zU))]),(.slice z10 zL.length z11)],blk z2R (z3e .ready none)] _)
      have pz:=(hz.call2 hw1 ((.cons .here .nil) : Sel [y1v [fz [],stb z2f 77 [(.slice none (([] : List z2).length) 0)],row (.slice none (([] : List z2).length) 0) 30 2 (([] : List z2).flatMap e30),stb z1Z 98 [(.int .i64 0)],stb z2E 30 [(.int .i64 0),(.int .i64 0)],stb z2y 79 [(.slice zY zK.length zZ),(.int .i64 zk.fR.fN),(.int .i64 zk.fR.fD),(.int .i64 zk.fLatency.fN),(.int .i64 zk.fLatency.fD),(.func (.func 32) #[] #[(.pointer (some zT)),(.pointer (some zU))]),(.slice z10 zL.length z11)],blk z2R (z3e .ready none)],dfr z40,stb z31 79 [(.slice zY zK.length zZ),(.int .i64 zs.1),(.int .i64 zs.2.1),(.int .i64 zs.2.2.1),(.int .i64 zs.2.2.2),(.func (.func 32) #[] #[(.pointer (some zT)),(.pointer (some zU))]),(.slice z10 zL.length z11)],fz ([] ++ z3M)] [y1v [fz [],stb z2f 77 [(.slice none (([] : List z2).length) 0)],row (.slice none (([] : List z2).length) 0) 30 2 (([] : List z2).flatMap e30),stb z1Z 98 [(.int .i64 0)],stb z2E 30 [(.int .i64 0),(.int .i64 0)],stb z2y 79 [(.slice zY zK.length zZ),(.int .i64 zk.fR.fN),(.int .i64 zk.fR.fD),(.int .i64 zk.fLatency.fN),(.int .i64 zk.fLatency.fD),(.func (.func 32) #[] #[(.pointer (some zT)),(.pointer (some zU))]),(.slice z10 zL.length z11)],blk z2R (z3e .ready none)]] [dfr z40,stb z31 79 [(.slice zY zK.length zZ),(.int .i64 zs.1),(.int .i64 zs.2.1),(.int .i64 zs.2.2.1),(.int .i64 zs.2.2.2),(.func (.func 32) #[] #[(.pointer (some zT)),(.pointer (some zU))]),(.slice z10 zL.length z11)],fz ([] ++ z3M)]) .h2).lend hw1 ((.cons .here .nil) : Sel [y1v [fz [],stb z2f 77 [(.slice none (([] : List z2).length) 0)],row (.slice none (([] : List z2).length) 0) 30 2 (([] : List z2).flatMap e30),stb z1Z 98 [(.int .i64 0)],stb z2E 30 [(.int .i64 0),(.int .i64 0)],stb z2y 79 [(.slice zY zK.length zZ),(.int .i64 zk.fR.fN),(.int .i64 zk.fR.fD),(.int .i64 zk.fLatency.fN),(.int .i64 zk.fLatency.fD),(.func (.func 32) #[] #[(.pointer (some zT)),(.pointer (some zU))]),(.slice z10 zL.length z11)],blk z2R (z3e .ready none)],dfr z40,stb z31 79 [(.slice zY zK.length zZ),(.int .i64 zs.1),(.int .i64 zs.2.1),(.int .i64 zs.2.2.1),(.int .i64 zs.2.2.2),(.func (.func 32) #[] #[(.pointer (some zT)),(.pointer (some zU))]),(.slice z10 zL.length z11)],fz ([] ++ z3M)] [y1v [fz [],stb z2f 77 [(.slice none (([] : List z2).length) 0)],row (.slice none (([] : List z2).length) 0) 30 2 (([] : List z2).flatMap e30),stb z1Z 98 [(.int .i64 0)],stb z2E 30 [(.int .i64 0),(.int .i64 0)],stb z2y 79 [(.slice zY zK.length zZ),(.int .i64 zk.fR.fN),(.int .i64 zk.fR.fD),(.int .i64 zk.fLatency.fN),(.int .i64 zk.fLatency.fD),(.func (.func 32) #[] #[(.pointer (some zT)),(.pointer (some zU))]),(.slice z10 zL.length z11)],blk z2R (z3e .ready none)]] [dfr z40,stb z31 79 [(.slice zY zK.length zZ),(.int .i64 zs.1),(.int .i64 zs.2.1),(.int .i64 zs.2.2.1),(.int .i64 zs.2.2.2),(.func (.func 32) #[] #[(.pointer (some zT)),(.pointer (some zU))]),(.slice z10 zL.length z11)],fz ([] ++ z3M)]) (B:=[stb z31 79 [(.slice zY zK.length zZ),(.int .i64 zs.1),(.int .i64 zs.2.1),(.int .i64 zs.2.2.1),(.int .i64 zs.2.2.2),(.func (.func 32) #[] #[(.pointer (some zT)),(.pointer (some zU))]),(.slice z10 zL.length z11)]]) (fun _ hx'=>((.cons .h1 .nil) : Sel _ [stb z31 79 [(.slice zY zK.length zZ),(.int .i64 zs.1),(.int .i64 zs.2.1),(.int .i64 zs.2.2.1),(.int .i64 zs.2.2.2),(.func (.func 32) #[] #[(.pointer (some zT)),(.pointer (some zU))]),(.slice z10 zL.length z11)]] _).mem hx')
      obtain ⟨z2Q,ztS,h⟩:=z8 h
      refine Calls.mono (y5u (Z:=_) (z4g:=z2R) (zR:=(Option Addr × Nat)) (z1A:=(fun (g : Option Addr × Nat) (s : Nat × List z2 × Int)=>y1v ([fz [],stb z2f 77 [(.slice g.1 s.2.1.length g.2)],row (.slice g.1 s.2.1.length g.2) 30 2 (s.2.1.flatMap e30),stb z1Z 98 [(.int .i64 s.2.2)],stb z2E 30 [(.int .i64 0),(.int .i64 0)],stb z2y 79 [(.slice zY zK.length zZ),(.int .i64 zk.fR.fN),(.int .i64 zk.fR.fD),(.int .i64 zk.fLatency.fN),(.int .i64 zk.fLatency.fD),(.func (.func 32) #[] #[(.pointer (some zT)),(.pointer (some zU))]),(.slice z10 zL.length z11)]] ++ [blk z2R (z3e (rdy (pcs [] s.1)) (pcs [] s.1))]))) (z4h:=(fun (g : Option Addr × Nat) (s : Nat × List z2 × Int)=>True)) (z5K:=(none,0)) (z5i:=⟨z31,0,none⟩) (z7S:=zY) (z7T:=zZ) (zhz:=zT) (zhA:=zic) (zhB:=zid) (zhC:=zU) (zcw:=z10) (zcx:=z11) (zg:=(Nat × List z2 × Int)) (z1z:=(fun (x : z2) (s : Nat × List z2 × Int)=>chk (s.1 = 0) (y15 z4k z3L x s.2.1 s.2.2))) (s0_16781:=(0,([] : List z2),0)) (z1P:=zK) (z9c:=(⟨(⟨zs.1,zs.2.1⟩ : z2),(⟨zs.2.2.1,zs.2.2.2⟩ : z2)⟩ : zSv)) (zcv:=z4k) (z9d:=z3L) (z1Y:=zL) (r:=z2Q) w pz ?_ trivial ((((zie.mono ((Zle.left _ _).trans ((Zle.left _ _).trans (Zle.yi _ _ _)))).weak (fun _ _ h=>yo ((Zle.left _ _).trans ((Zle.left _ _).trans (Zle.yi _ _ _))) h)).mono (Zle.left _ _)).weak (fun _ _ h=>yo (Zle.left _ _) h)) ((((zeV.mono ((Zle.left _ _).trans ((Zle.left _ _).trans (Zle.yi _ _ _)))).weak (fun _ _ h=>yo ((Zle.left _ _).trans ((Zle.left _ _).trans (Zle.yi _ _ _))) h)).mono (Zle.left _ _)).weak (fun _ _ h=>yo (Zle.left _ _) h)) ((zeW.mono ((Zle.left _ _).trans ((Zle.left _ _).trans (Zle.yi _ _ _)))).mono (Zle.left _ _)) ((zeX.mono ((Zle.left _ _).trans ((Zle.left _ _).trans (Zle.yi _ _ _)))).mono (Zle.left _ _)) ((zif.mono ((Zle.left _ _).trans ((Zle.left _ _).trans (Zle.yi _ _ _)))).mono (Zle.left _ _)) ((hw1.lent ((.cons .here .nil) : Sel [y1v [fz [],stb z2f 77 [(.slice none (([] : List z2).length) 0)],row (.slice none (([] : List z2).length) 0) 30 2 (([] : List z2).flatMap e30),stb z1Z 98 [(.int .i64 0)],stb z2E 30 [(.int .i64 0),(.int .i64 0)],stb z2y 79 [(.slice zY zK.length zZ),(.int .i64 zk.fR.fN),(.int .i64 zk.fR.fD),(.int .i64 zk.fLatency.fN),(.int .i64 zk.fLatency.fD),(.func (.func 32) #[] #[(.pointer (some zT)),(.pointer (some zU))]),(.slice z10 zL.length z11)],blk z2R (z3e .ready none)],dfr z40,stb z31 79 [(.slice zY zK.length zZ),(.int .i64 zs.1),(.int .i64 zs.2.1),(.int .i64 zs.2.2.1),(.int .i64 zs.2.2.2),(.func (.func 32) #[] #[(.pointer (some zT)),(.pointer (some zU))]),(.slice z10 zL.length z11)],fz ([] ++ z3M)] [y1v [fz [],stb z2f 77 [(.slice none (([] : List z2).length) 0)],row (.slice none (([] : List z2).length) 0) 30 2 (([] : List z2).flatMap e30),stb z1Z 98 [(.int .i64 0)],stb z2E 30 [(.int .i64 0),(.int .i64 0)],stb z2y 79 [(.slice zY zK.length zZ),(.int .i64 zk.fR.fN),(.int .i64 zk.fR.fD),(.int .i64 zk.fLatency.fN),(.int .i64 zk.fLatency.fD),(.func (.func 32) #[] #[(.pointer (some zT)),(.pointer (some zU))]),(.slice z10 zL.length z11)],blk z2R (z3e .ready none)]] [dfr z40,stb z31 79 [(.slice zY zK.length zZ),(.int .i64 zs.1),(.int .i64 zs.2.1),(.int .i64 zs.2.2.1),(.int .i64 zs.2.2.2),(.func (.func 32) #[] #[(.pointer (some zT)),(.pointer (some zU))]),(.slice z10 zL.length z11)],fz ([] ++ z3M)]) (B:=[stb z31 79 [(.slice zY zK.length zZ),(.int .i64 zs.1),(.int .i64 zs.2.1),(.int .i64 zs.2.2.1),(.int .i64 zs.2.2.2),(.func (.func 32) #[] #[(.pointer (some zT)),(.pointer (some zU))]),(.slice z10 zL.length z11)]]) (fun _ hx'=>((.cons .h1 .nil) : Sel _ [stb z31 79 [(.slice zY zK.length zZ),(.int .i64 zs.1),(.int .i64 zs.2.1),(.int .i64 zs.2.2.1),(.int .i64 zs.2.2.2),(.func (.func 32) #[] #[(.pointer (some zT)),(.pointer (some zU))]),(.slice z10 zL.length z11)]] _).mem hx') (.head _) _).stb) ztS (hw1.owns ((.cons .here .nil) : Sel [y1v [fz [],stb z2f 77 [(.slice none (([] : List z2).length) 0)],row (.slice none (([] : List z2).length) 0) 30 2 (([] : List z2).flatMap e30),stb z1Z 98 [(.int .i64 0)],stb z2E 30 [(.int .i64 0),(.int .i64 0)],stb z2y 79 [(.slice zY zK.length zZ),(.int .i64 zk.fR.fN),(.int .i64 zk.fR.fD),(.int .i64 zk.fLatency.fN),(.int .i64 zk.fLatency.fD),(.func (.func 32) #[] #[(.pointer (some zT)),(.pointer (some zU))]),(.slice z10 zL.length z11)],blk z2R (z3e .ready none)],dfr z40,stb z31 79 [(.slice zY zK.length zZ),(.int .i64 zs.1),(.int .i64 zs.2.1),(.int .i64 zs.2.2.1),(.int .i64 zs.2.2.2),(.func (.func 32) #[] #[(.pointer (some zT)),(.pointer (some zU))]),(.slice z10 zL.length z11)],fz ([] ++ z3M)] [y1v [fz [],stb z2f 77 [(.slice none (([] : List z2).length) 0)],row (.slice none (([] : List z2).length) 0) 30 2 (([] : List z2).flatMap e30),stb z1Z 98 [(.int .i64 0)],stb z2E 30 [(.int .i64 0),(.int .i64 0)],stb z2y 79 [(.slice zY zK.length zZ),(.int .i64 zk.fR.fN),(.int .i64 zk.fR.fD),(.int .i64 zk.fLatency.fN),(.int .i64 zk.fLatency.fD),(.func (.func 32) #[] #[(.pointer (some zT)),(.pointer (some zU))]),(.slice z10 zL.length z11)],blk z2R (z3e .ready none)]] [dfr z40,stb z31 79 [(.slice zY zK.length zZ),(.int .i64 zs.1),(.int .i64 zs.2.1),(.int .i64 zs.2.2.1),(.int .i64 zs.2.2.2),(.func (.func 32) #[] #[(.pointer (some zT)),(.pointer (some zU))]),(.slice z10 zL.length z11)],fz ([] ++ z3M)]))) ?_
      · skip
        refine y7m (LI:=(fun (g : Option Addr × Nat) (s : Nat × List z2 × Int)=>[fz [],stb z2f 77 [(.slice g.1 s.2.1.length g.2)],row (.slice g.1 s.2.1.length g.2) 30 2 (s.2.1.flatMap e30),stb z1Z 98 [(.int .i64 s.2.2)],stb z2E 30 [(.int .i64 0),(.int .i64 0)],stb z2y 79 [(.slice zY zK.length zZ),(.int .i64 zk.fR.fN),(.int .i64 zk.fR.fD),(.int .i64 zk.fLatency.fN),(.int .i64 zk.fLatency.fD),(.func (.func 32) #[] #[(.pointer (some zT)),(.pointer (some zU))]),(.slice z10 zL.length z11)]])) (pc:=(fun (s : Nat × List z2 × Int)=>pcs [] s.1)) zeY ztQ ztR (fun _ _=>rfl) (by decide) ?_
        rintro z6T _ ⟨zb5,zb6⟩ ⟨ztT,z2D,zeU⟩ ztU ztV Fb wb zmI _ hz
        replace hz:=hz.left
        letI : Rnd:=inR z2R
        obtain ⟨hp0,z4m⟩:=yk zmI
        replace hp0 : ztT = 0:=hp0; subst hp0; clear zmI
        replace z4m : y15 z4k z3L z6T z2D zeU = some (ztU,ztV):=z4m
        unfold y15 at z4m
        refine WC.restr (env':=[(1,(.pointer (some ⟨z2y,0,none⟩))),(12,(.bool (decide (zcM ≠ 0)))),(5,(.pointer (some ⟨z1Z,0,none⟩))),(6,(.pointer (some ⟨z2f,0,none⟩))),(17,(.agg #[(.int .i64 z6T.fN),(.int .i64 z6T.fD)]))]) (.cons rfl (.cons rfl (.cons rfl (.cons rfl (.cons rfl .nil))))) ?_
        refine WC.eqL (L':=[fz [],stb z2f 77 [(.slice zb5 z2D.length zb6)],row (.slice zb5 z2D.length zb6) 30 2 (z2D.flatMap e30),stb z1Z 98 [(.int .i64 zeU)],stb z2E 30 [(.int .i64 0),(.int .i64 0)],stb z2y 79 [(.slice zY zK.length zZ),(.int .i64 zk.fR.fN),(.int .i64 zk.fR.fD),(.int .i64 zk.fLatency.fN),(.int .i64 zk.fLatency.fD),(.func (.func 32) #[] #[(.pointer (some zT)),(.pointer (some zU))]),(.slice z10 zL.length z11)],blk z2R (z3e .ready none)]) rfl ?_
        refine WC.a ?_
        refine WL.new (dd:=7) rfl rfl rfl (yh (cs:=[(.int .i64 0),(.int .i64 0)]) ym rfl) ?_
        intro ztW _
        refine WL.ya rfl rfl (y9 yj rfl rfl rfl .here rfl rfl rfl) ?_
        refine WL.nil ?_
        refine WX.y84 zeY .h7 ?_
        refine WC.block (WC.b ?_)
        obtain ⟨z4l,ztX,z4m⟩:=z8 z4m
        refine WC.a ?_
        refine WL.a (d:=18) rfl rfl rfl (y3 y7L rfl rfl) ?_
        refine WL.a (d:=19) rfl rfl rfl (yb ya7 rfl (yq .h7 rfl)) ?_
        refine WL.a (d:=20) rfl rfl rfl (y7 y4 rfl (y6 .h1) rfl) ?_
        refine WL.b (dd:=21) rfl rfl rfl (y1R (l:=[.tmp 5,.tmp 20]) Try.call32 rfl (.cons rfl (.cons rfl .nil))) (.cons .h5 .nil) (ccz hz (.cons .h5 .nil) .h2 fun w pz ho=>y7v _ _ _ _ _ _ _ _ _ _ _ ztX w pz ((zeV.mono ((Zle.left _ _).trans ((Zle.left _ _).trans ((Zle.yi _ _ _).trans (Zle.left _ _))))).weak (fun _ _ h=>yo ((Zle.left _ _).trans ((Zle.left _ _).trans ((Zle.yi _ _ _).trans (Zle.left _ _)))) h)) (zeW.mono ((Zle.left _ _).trans ((Zle.left _ _).trans ((Zle.yi _ _ _).trans (Zle.left _ _))))) (zeX.mono ((Zle.left _ _).trans ((Zle.left _ _).trans ((Zle.yi _ _ _).trans (Zle.left _ _))))) ho) ?_
        refine WL.new (dd:=8) rfl rfl rfl (yh (cs:=[(.int .i64 0),(.int .i64 0)]) ym rfl) ?_
        intro ztY _
        refine WL.ya rfl rfl (y9 yj rfl rfl rfl .here rfl rfl rfl) ?_
        refine WL.nil (WX.a (WC.b ?_))
        obtain ⟨zia,zmJ,z4m⟩:=z8 z4m
        refine WC.y1g (fun i=>[].contains i) [] rfl ?_
        refine WD.e (i:=0) (d:=22) (by kernel_rfl) rfl (z6 (by kernel_rfl)) (z7 (by kernel_rfl)) rfl rfl rfl (yb y3s rfl (yq .h5 rfl)) ?_
        refine WD.a (i:=1) (d:=23) (by kernel_rfl) rfl (z6 (by kernel_rfl)) (z7 (by kernel_rfl)) rfl rfl rfl (fun _=>y1c Try.underlying77 rfl) ?_
        refine WD.a (i:=2) (d:=24) (by kernel_rfl) rfl (z6 (by kernel_rfl)) (z7 (by kernel_rfl)) rfl rfl rfl (fun _=>y8j rfl rfl) ?_
        refine WD.a (i:=3) (d:=25) (by kernel_rfl) rfl (z6 (by kernel_rfl)) (z7 (by kernel_rfl)) rfl rfl rfl (fun _=>q_m rfl) ?_
        refine WD.mid (fuel':=0) [(1,(.pointer (some ⟨z2y,0,none⟩))),(12,(.bool (decide (zcM ≠ 0)))),(5,(.pointer (some ⟨z1Z,0,none⟩))),(6,(.pointer (some ⟨z2f,0,none⟩))),(17,(.agg #[(.int .i64 z6T.fN),(.int .i64 z6T.fD)])),(7,(.pointer (some ⟨ztW,0,none⟩))),(18,(.pointer (some ⟨z2y,5,none⟩))),(19,(.func (.func 32) #[] #[(.pointer (some zT)),(.pointer (some zU))])),(20,(.agg #[(.int .i64 z6T.fN),(.int .i64 z6T.fD)])),(21,(.agg #[(.int .i64 z4l.1.fN),(.int .i64 z4l.1.fD)])),(8,(.pointer (some ⟨ztY,0,none⟩))),(22,(.slice zb5 z2D.length zb6)),(23,(.int .i64 ((z2D.length : Nat) : Int))),(24,(.bool (decide (((z2D.length : Nat) : Int) = 0)))),(25,(.bool (decide (((z2D.length : Nat) : Int) = 0)))),(32,(.bool zia))] (y1h 11 [10,9,8,7,6,5,4,3,2,1,0]) ?_ (fun zmK=>?_)
        rotate_left
        · rcases Bool.eq_false_or_eq_true (decide (((z2D.length : Nat) : Int) = 0)) with hb' | hb'
          · have zih:=hb'; clear hb'
            have zii:=ye zmJ zih
            replace zii:=Option.some.inj zii
            refine WD.pin (i:=25) rfl zih ?_
            refine WD.b (i:=4) (d:=26) (by kernel_rfl) rfl (z6 (by kernel_rfl)) (z7 (by kernel_rfl)) rfl rfl rfl ?_
            refine WD.b (i:=5) (d:=27) (by kernel_rfl) rfl (z6 (by kernel_rfl)) (z7 (by kernel_rfl)) rfl rfl rfl ?_
            refine WD.b (i:=6) (d:=28) (by kernel_rfl) rfl (z6 (by kernel_rfl)) (z7 (by kernel_rfl)) rfl rfl rfl ?_
            refine WD.b (i:=7) (d:=29) (by kernel_rfl) rfl (z6 (by kernel_rfl)) (z7 (by kernel_rfl)) rfl rfl rfl ?_
            refine WD.b (i:=8) (d:=30) (by kernel_rfl) rfl (z6 (by kernel_rfl)) (z7 (by kernel_rfl)) rfl rfl rfl ?_
            refine WD.b (i:=9) (d:=31) (by kernel_rfl) rfl (z6 (by kernel_rfl)) (z7 (by kernel_rfl)) rfl rfl rfl ?_
            refine WD.a (i:=10) (d:=32) (by kernel_rfl) rfl (z6 (by kernel_rfl)) (z7 (by kernel_rfl)) rfl rfl rfl (fun _=>y22 rfl rfl) ?_
            refine WD.yA (.cons .here (.cons .here (.cons .here (.cons .here (.cons .here (.cons .here (.cons .here (.cons .here (.cons .here .nil))))))))) ?_ zmK
            exact (.cons rfl (.cons rfl (.cons rfl (.cons rfl (.cons rfl (.cons rfl (.cons rfl (.cons rfl (.cons rfl (.cons rfl (.cons rfl (.cons rfl (.cons rfl (.cons rfl (.cons (zn (Eq.symm zih)) (.cons (zn zii) .nil))))))))))))))))
          · have zij:=hb'; clear hb'
            have z9l:=yf zmJ zij
            obtain ⟨zcQ,z9l⟩:=yk z9l
            obtain ⟨zmH,ztZ,z9l⟩:=z8 z9l
            replace z9l:=Option.some.inj z9l
            refine WD.pin (i:=25) rfl zij ?_
            refine WD.e (i:=4) (d:=26) (by kernel_rfl) rfl (z6 (by kernel_rfl)) (z7 (by kernel_rfl)) rfl rfl rfl (y7 y4 rfl (y6 .here) rfl) ?_
            refine WD.e (i:=5) (d:=27) (by kernel_rfl) rfl (z6 (by kernel_rfl)) (z7 (by kernel_rfl)) rfl rfl rfl (yb y3s rfl (yq .h5 rfl)) ?_
            refine WD.know (fun w hw=>Hp.y3Z .h6 hw (by intro hz'; have:=zcQ; rw [hz'] at this; omega)) ?_
            rintro ⟨zzO,rfl⟩
            refine WD.a (i:=6) (d:=28) (by kernel_rfl) rfl (z6 (by kernel_rfl)) (z7 (by kernel_rfl)) rfl rfl rfl (fun _=>y19 y1B rfl rfl zcQ.1 zcQ.2 y3b) ?_
            refine WD.e (i:=7) (d:=29) (by kernel_rfl) rfl (z6 (by kernel_rfl)) (z7 (by kernel_rfl)) rfl rfl rfl (yv (cs:=(e30 (nth z2D 0))) y4 rfl rfl (y2T .h6 (y3q (enc:=e30) (l:=z2D) (i:=0) (sz:=2) (fun _=>rfl) zcQ.1 zcQ.2))) ?_
            refine WD.c (i:=8) (d:=30) (by kernel_rfl) rfl (z6 (by kernel_rfl)) (z7 (by kernel_rfl)) rfl rfl rfl (ze (l:=[.tmp 26,.tmp 29]) Try.call18 (.cons rfl (.cons rfl .nil))) (ccz hz .nil .h4 fun w pz ho=>y1Y _ _ _ _ ztZ w pz ) ?_
            refine WD.a (i:=9) (d:=31) (by kernel_rfl) rfl (z6 (by kernel_rfl)) (z7 (by kernel_rfl)) rfl rfl rfl (fun _=>y6V rfl rfl) ?_
            refine WD.a (i:=10) (d:=32) (by kernel_rfl) rfl (z6 (by kernel_rfl)) (z7 (by kernel_rfl)) rfl rfl rfl (fun _=>y23 rfl rfl) ?_
            refine WD.yA (.cons .here (.cons .here (.cons .here (.cons .here (.cons .here (.cons .here (.cons .here (.cons .here (.cons .here .nil))))))))) ?_ zmK
            exact (.cons rfl (.cons rfl (.cons rfl (.cons rfl (.cons rfl (.cons rfl (.cons rfl (.cons rfl (.cons rfl (.cons rfl (.cons rfl (.cons rfl (.cons rfl (.cons rfl (.cons (zn (Eq.symm zij)) (.cons (zn z9l) .nil))))))))))))))))
        refine WD.done (by kernel_rfl) ?_
        refine WX.a ?_
        refine WC.cond rfl (fun zik=>?_) (fun zik=>?_)
        · replace z4m:=ye z4m zik
          refine WC.a ?_
          refine WL.a (d:=33) rfl rfl rfl (y7 y4 rfl (y6 .here) rfl) ?_
          refine WL.new (dd:=34) rfl rfl rfl (yp (cs:=([z4l.1] : List z2).flatMap e30) y1B (Eos.parts (l:=[.tmp 33]) (.cons rfl .nil) [0]) (fun _=>by kernel_rfl) rfl (by unfold maxLen; omega)) ?_
          intro zil _
          refine WL.ya rfl rfl (y9 y8K rfl rfl rfl .h6 rfl rfl rfl) ?_
          refine WL.nil (WX.yg ?_)
          obtain ⟨rfl,rfl⟩:=y6M z4m
          exact WX.y46 zeY .h4 (fun w' hw'=>⟨((some ⟨zil,0,none⟩),1),rfl,trivial,(hw'.selAll ((.cons .h6 (.cons .h1 (.cons .h1 (.cons .h2 (.cons .h4 (.cons .h4 (.cons .here .nil))))))) : Sel _ [fz [],stb z2f 77 [(.slice (some ⟨zil,0,none⟩) (([z4l.1] : List z2).length) 1)],row (.slice (some ⟨zil,0,none⟩) (([z4l.1] : List z2).length) 1) 30 2 (([z4l.1] : List z2).flatMap e30),stb z1Z 98 [(.int .i64 z4l.2.fE)],stb z2E 30 [(.int .i64 0),(.int .i64 0)],stb z2y 79 [(.slice zY zK.length zZ),(.int .i64 zk.fR.fN),(.int .i64 zk.fR.fD),(.int .i64 zk.fLatency.fN),(.int .i64 zk.fLatency.fD),(.func (.func 32) #[] #[(.pointer (some zT)),(.pointer (some zU))]),(.slice z10 zL.length z11)],blk z2R (z3e .ready none)] _)).sub (.cons .here .nil)⟩)
        · replace z4m:=yf z4m zik
          refine WC.skip (WX.yg ?_)
          obtain ⟨rfl,rfl⟩:=y6M z4m
          exact WX.y46 zeY .h2 (fun w' hw'=>⟨(zb5,zb6),rfl,trivial,(hw'.selAll ((.cons .h4 (.cons .h4 (.cons .h4 (.cons .h2 (.cons .h3 (.cons .h3 (.cons .here .nil))))))) : Sel _ [fz [],stb z2f 77 [(.slice zb5 z2D.length zb6)],row (.slice zb5 z2D.length zb6) 30 2 (z2D.flatMap e30),stb z1Z 98 [(.int .i64 z4l.2.fE)],stb z2E 30 [(.int .i64 0),(.int .i64 0)],stb z2y 79 [(.slice zY zK.length zZ),(.int .i64 zk.fR.fN),(.int .i64 zk.fR.fD),(.int .i64 zk.fLatency.fN),(.int .i64 zk.fLatency.fD),(.func (.func 32) #[] #[(.pointer (some zT)),(.pointer (some zU))]),(.slice z10 zL.length z11)],blk z2R (z3e .ready none)] _)).sub (.cons .here .nil)⟩)
      · skip
        rintro _ w' ⟨zu0,⟨zcR,zcS⟩,rfl,_,hp⟩
        have hp1:=hw1.call ((.cons .here .nil) : Sel [y1v [fz [],stb z2f 77 [(.slice none (([] : List z2).length) 0)],row (.slice none (([] : List z2).length) 0) 30 2 (([] : List z2).flatMap e30),stb z1Z 98 [(.int .i64 0)],stb z2E 30 [(.int .i64 0),(.int .i64 0)],stb z2y 79 [(.slice zY zK.length zZ),(.int .i64 zk.fR.fN),(.int .i64 zk.fR.fD),(.int .i64 zk.fLatency.fN),(.int .i64 zk.fLatency.fD),(.func (.func 32) #[] #[(.pointer (some zT)),(.pointer (some zU))]),(.slice z10 zL.length z11)],blk z2R (z3e .ready none)],dfr z40,stb z31 79 [(.slice zY zK.length zZ),(.int .i64 zs.1),(.int .i64 zs.2.1),(.int .i64 zs.2.2.1),(.int .i64 zs.2.2.2),(.func (.func 32) #[] #[(.pointer (some zT)),(.pointer (some zU))]),(.slice z10 zL.length z11)],fz ([] ++ z3M)] [y1v [fz [],stb z2f 77 [(.slice none (([] : List z2).length) 0)],row (.slice none (([] : List z2).length) 0) 30 2 (([] : List z2).flatMap e30),stb z1Z 98 [(.int .i64 0)],stb z2E 30 [(.int .i64 0),(.int .i64 0)],stb z2y 79 [(.slice zY zK.length zZ),(.int .i64 zk.fR.fN),(.int .i64 zk.fR.fD),(.int .i64 zk.fLatency.fN),(.int .i64 zk.fLatency.fD),(.func (.func 32) #[] #[(.pointer (some zT)),(.pointer (some zU))]),(.slice z10 zL.length z11)],blk z2R (z3e .ready none)]] [dfr z40,stb z31 79 [(.slice zY zK.length zZ),(.int .i64 zs.1),(.int .i64 zs.2.1),(.int .i64 zs.2.2.1),(.int .i64 zs.2.2.2),(.func (.func 32) #[] #[(.pointer (some zT)),(.pointer (some zU))]),(.slice z10 zL.length z11)],fz ([] ++ z3M)]) hp
        have hp2 : Hp _ _ w' [fz [],stb z2f 77 [(.slice zcR z2Q.2.1.length zcS)],row (.slice zcR z2Q.2.1.length zcS) 30 2 (z2Q.2.1.flatMap e30),stb z1Z 98 [(.int .i64 z2Q.2.2)],stb z2E 30 [(.int .i64 0),(.int .i64 0)],stb z2y 79 [(.slice zY zK.length zZ),(.int .i64 zk.fR.fN),(.int .i64 zk.fR.fD),(.int .i64 zk.fLatency.fN),(.int .i64 zk.fLatency.fD),(.func (.func 32) #[] #[(.pointer (some zT)),(.pointer (some zU))]),(.slice z10 zL.length z11)],blk z2R (z3e (rdy (pcs [] z2Q.1)) (pcs [] z2Q.1)),fz zu0,dfr z40,stb z31 79 [(.slice zY zK.length zZ),(.int .i64 zs.1),(.int .i64 zs.2.1),(.int .i64 zs.2.2.1),(.int .i64 zs.2.2.2),(.func (.func 32) #[] #[(.pointer (some zT)),(.pointer (some zU))]),(.slice z10 zL.length z11)],fz ([] ++ z3M)]:=hp1.pickAll .h1
        refine ⟨_,pcs [] z2Q.1,_,rfl,(hp2.sub ((.cons .h6 (.cons .here (.cons .here (.cons .here (.cons .here (.cons .here (.cons .here (.cons .h1 (.cons .h1 (.cons .h1 .nil)))))))))) : Sel _ [blk z2R (z3e (rdy (pcs [] z2Q.1)) (pcs [] z2Q.1)),fz [],stb z2f 77 [(.slice zcR z2Q.2.1.length zcS)],row (.slice zcR z2Q.2.1.length zcS) 30 2 (z2Q.2.1.flatMap e30),stb z1Z 98 [(.int .i64 z2Q.2.2)],stb z2E 30 [(.int .i64 0),(.int .i64 0)],stb z2y 79 [(.slice zY zK.length zZ),(.int .i64 zk.fR.fN),(.int .i64 zk.fR.fD),(.int .i64 zk.fLatency.fN),(.int .i64 zk.fLatency.fD),(.func (.func 32) #[] #[(.pointer (some zT)),(.pointer (some zU))]),(.slice z10 zL.length z11)],dfr z40,stb z31 79 [(.slice zY zK.length zZ),(.int .i64 zs.1),(.int .i64 zs.2.1),(.int .i64 zs.2.2.1),(.int .i64 zs.2.2.2),(.func (.func 32) #[] #[(.pointer (some zT)),(.pointer (some zU))]),(.slice z10 zL.length z11)],fz ([] ++ z3M)] _)),?_⟩
        clear hp hp1 hp2 pz hw hw1
        refine wjN ?_
        letI : Rnd:=aft z40
        refine WX.merge .here .h7 ?_
        refine WX.yg ?_
        exact WX.midR (D:=fun (g : Nat × Int × List z2 × Zp × Option Addr × Nat)=>g.1) (G:=Nat × Int × List z2 × Zp × Option Addr × Nat) ⟨z40,z2Q.2.2,z2Q.2.1,(([] ++ z3M) ++ []),zcR,zcS⟩ ⟨h,((Zle.left _ _).trans (Zle.yi _ _ _))⟩ (.cons rfl (.cons rfl (.cons rfl .nil))) (.cons .here (.cons .h3 (.cons .h2 (.cons .here (.cons .here (.cons .h1 .nil))))))
    · rintro zcN z5Q z3Z z9k zcO zcP ⟨h,zzP⟩
      replace h:=(ztO z5Q z3Z).symm.trans h
      letI : Rnd:=aft zcN
      refine WC.b (WC.b (WC.a ?_))
      refine WL.a (d:=35) rfl rfl rfl (y3 y33 rfl rfl) ?_
      refine WL.a (d:=36) rfl rfl rfl (yb y2B rfl (yq .h2 rfl)) ?_
      refine WL.pu rfl (WL.nil (WX.a ?_))
      refine WC.cond rfl (fun zim=>?_) (fun zim=>?_)
      · replace h:=ye h zim
        refine WC.b ?_
        refine WC.y1g (fun i=>[3].contains i) [stbp z1Z 98 [(0,(.int .i64 z5Q))]] rfl ?_
        refine WD.a (i:=0) (d:=38) (by kernel_rfl) rfl (z6 (by kernel_rfl)) (z7 (by kernel_rfl)) rfl rfl rfl (fun _=>yV (v:=(.agg #[(.int .i64 0),(.int .i64 0)])) (Eos.parts (l:=[]) .nil []) (fun _=>by kernel_rfl)) ?_
        refine WD.a (i:=1) (d:=39) (by kernel_rfl) rfl (z6 (by kernel_rfl)) (z7 (by kernel_rfl)) rfl rfl rfl (fun _=>y3 y33 rfl rfl) ?_
        refine WD.y2k (i:=2) (d:=40) (by kernel_rfl) rfl (z6 (by kernel_rfl)) (z7 (by kernel_rfl)) rfl rfl rfl (Sin.wk (.cons .h2 .nil) (.stb (.cons rfl .nil) .nil)) (yb y2B rfl (y7G .here (.head _))) ?_
        refine WD.forced0 (i:=3) rfl (by kernel_rfl) rfl rfl rfl (Sin.wk (.cons .h2 .nil) (.stb (.cons rfl .nil) .nil)) (y9 yj rfl rfl rfl .h1 rfl rfl rfl) ?_
        refine WD.a (i:=4) (d:=3) (by kernel_rfl) rfl (z6 (by kernel_rfl)) (z7 (by kernel_rfl)) rfl rfl rfl (fun _=>q_z rfl) ?_
        refine WD.done (by kernel_rfl) ?_
        refine WX.a (WC.ret (WX.y5 ?_))
        obtain rfl:=Option.some.inj h
        refine WX.y4B .h5 Try.results36 (.agg rfl y4 rfl (y6 .h1) (.tmp rfl .nil)) (fun w hw=>?_)
        exact ⟨z9k,y1H rfl rfl,trivial,hw.sub (.cons .h2 .nil)⟩
      · replace h:=yf h zim
        refine WC.skip (WX.a (WC.b ?_))
        obtain ⟨zcT,h⟩:=yk h
        refine WC.a ?_
        refine WL.a (d:=41) rfl rfl rfl (yb y3s rfl (yq .h3 rfl)) ?_
        refine WL.know (fun w hw=>Hp.y3Z .h4 hw (by intro hz'; have:=zcT; rw [hz'] at this; omega)) ?_
        rintro ⟨zzQ,rfl⟩
        refine WL.a (d:=42) rfl rfl rfl (y19 y1B rfl rfl zcT.1 zcT.2 y3b) ?_
        refine WL.a (d:=43) rfl rfl rfl (yv (cs:=(e30 (nth z3Z 0))) y4 rfl rfl (y2T .h4 (y3q (enc:=e30) (l:=z3Z) (i:=0) (sz:=2) (fun _=>rfl) zcT.1 zcT.2))) ?_
        refine WL.ya rfl rfl (y9 yj rfl rfl rfl .h1 rfl rfl rfl) ?_
        refine WL.pu rfl (WL.nil (WX.a (WC.ret ?_)))
        obtain rfl:=Option.some.inj h
        refine WX.y4B .h5 Try.results36 (.agg rfl y4 rfl (y6 .h1) (.tmp rfl .nil)) (fun w hw=>?_)
        exact ⟨z9k,y1H rfl rfl,trivial,hw.sub (.cons .h2 .nil)⟩
def yL (z5o : List (List z1)) (z1y : zSv) : Option (z2 × Int) :=
  (y2O z5o z1y z5o z1y []).bind fun zin=>some (zin.1,zin.2)
set_option maxRecDepth 20000 in
theorem y2X (Z : Zp) (z9m : Option Addr) (z9n : Nat) (z5o : List (List z1)) (z1y : zSv) (r : z2 × Int)
     (h : yL z5o z1y = some r) (w₀ : World) (hz : PZ [] w₀ Z)
     (zmL : ZS Z 1 (p39 Z) z9m z9n z5o) :
    Calls Try.prog 15 #[(.slice z9m z5o.length z9n),(.agg #[(.int .i64 z1y.fR.fN),(.int .i64 z1y.fR.fD),(.int .i64 z1y.fLatency.fN),(.int .i64 z1y.fLatency.fD)])] w₀ fun e w'=>∃ Zn : Zp,e = .returned (.tuple #[(.agg #[(.int .i64 r.1.fN),(.int .i64 r.1.fD)]),(.int .i64 r.2)]) ∧ True ∧ Hp [] w₀ w' [fz Zn]:=by
  unfold yL at h
  refine Calls.yc (vs:=[(.slice z9m z5o.length z9n),(.agg #[(.int .i64 z1y.fR.fN),(.int .i64 z1y.fR.fD),(.int .i64 z1y.fLatency.fN),(.int .i64 z1y.fLatency.fD)])]) (pre:=[]) (env:=[(0,(.slice z9m z5o.length z9n)),(1,(.agg #[(.int .i64 z1y.fR.fN),(.int .i64 z1y.fR.fD),(.int .i64 z1y.fLatency.fN),(.int .i64 z1y.fLatency.fD)]))]) Try.func15 rfl Try.ntmps15 rfl (Hp.nil w₀ _) rfl ?_
  refine WC.pool (WC.b (WC.a ?_))
  refine WL.new (dd:=2) rfl rfl rfl (yI (cs:=[(.slice z9m z5o.length z9n)]) rfl rfl) ?_
  intro zu1 _
  refine WL.new (dd:=3) rfl rfl rfl (yI (cs:=[(.int .i64 z1y.fR.fN),(.int .i64 z1y.fR.fD),(.int .i64 z1y.fLatency.fN),(.int .i64 z1y.fLatency.fD)]) rfl rfl) ?_
  intro zu2 _
  refine WL.new (dd:=4) rfl rfl rfl (yh (cs:=[(.int .i64 0),(.int .i64 0)]) ym rfl) ?_
  intro zzR _
  refine WL.pu rfl (WL.nil (WX.a (WC.b (WC.a ?_))))
  refine WL.a (d:=7) rfl rfl rfl (yb y2L rfl (yq .h2 rfl)) ?_
  refine WL.a (d:=8) rfl rfl rfl (y7 y24 rfl (y6 .h1) rfl) ?_
  refine WL.a (d:=9) rfl rfl rfl (yV (v:=(.agg #[(.slice z9m z5o.length z9n),(.int .i64 z1y.fR.fN),(.int .i64 z1y.fR.fD),(.int .i64 z1y.fLatency.fN),(.int .i64 z1y.fLatency.fD),.nilFunc,(.slice none 0 0)])) (Eos.parts (l:=[.tmp 7,.tmp 8]) (.cons rfl (.cons rfl .nil)) [0,1]) (fun _=>by kernel_rfl)) ?_
  refine WL.new (dd:=6) rfl rfl rfl (yh (cs:=[(.slice none 0 0),(.int .i64 0),(.int .i64 0),(.int .i64 0),(.int .i64 0),.nilFunc,(.slice none 0 0)]) y9t rfl) ?_
  intro zzS _
  refine WL.ya rfl rfl (y9 ya4 rfl rfl rfl .here rfl rfl rfl) ?_
  refine WL.nil (WX.a (WC.b (WC.a ?_)))
  refine WL.a (d:=10) rfl rfl rfl (y1b (Eos.caps (l:=[.tmp 2,.tmp 3]) (.cons rfl (.cons rfl .nil)))) ?_
  refine WL.a (d:=11) rfl rfl rfl (y3 y7L rfl rfl) ?_
  refine WL.ya rfl rfl (y63 (ds:=[(.slice z9m z5o.length z9n),(.int .i64 z1y.fR.fN),(.int .i64 z1y.fR.fD),(.int .i64 z1y.fLatency.fN),(.int .i64 z1y.fLatency.fD),(.func (.func 32) #[] #[(.pointer (some ⟨zu1,0,none⟩)),(.pointer (some ⟨zu2,0,none⟩))]),(.slice none 0 0)]) ya5 rfl rfl rfl rfl rfl .here rfl rfl) ?_
  refine WL.nil (WX.a (WC.b ?_))
  obtain ⟨zin,zu3,h⟩:=z8 h
  refine WC.a ?_
  refine WL.a (d:=12) rfl rfl rfl (y7 y5R rfl (y6 .here) rfl) ?_
  refine WL.freezeC (Z:=Z) .h3 .h3 ?_
  intro zzT zeZ zu4
  refine WL.freezeC (Z:=Z) .h3 .here ?_
  intro zu5 zcU zu6
  refine WL.y2l (dd:=13) rfl rfl rfl (ze (l:=[.tmp 12]) Try.call36 (.cons rfl .nil)) .nil (ccz hz .nil .here fun w pz ho=>y6N _ _ _ _ _ _ _ _ _ _ _ _ _ _ _ zu3 w pz ((zmL.mono ((Zle.left _ _).trans (zeZ.trans zcU))).weak (fun _ _ h=>yo ((Zle.left _ _).trans (zeZ.trans zcU)) h)) ((zmL.mono ((Zle.left _ _).trans (zeZ.trans zcU))).weak (fun _ _ h=>yo ((Zle.left _ _).trans (zeZ.trans zcU)) h)) (zu4.mono zcU) zu6 (ZS.nil _ _ _)) ?_
  rintro zu7 _
  refine WL.merge .here .here ?_
  refine WL.pu rfl (WL.pu rfl ?_)
  refine WL.ya rfl rfl (y9 yj rfl rfl rfl .h2 rfl rfl rfl) ?_
  refine WL.pu rfl (WL.nil (WX.a (WC.ret ?_)))
  obtain rfl:=Option.some.inj h
  refine WX.y8 Try.results15 (.agg rfl y4 rfl (y6 .here) (.tmp rfl .nil)) (fun w hw=>?_)
  exact ⟨(zu5 ++ zu7),y1H rfl rfl,trivial,hw.sub (.cons .h1 .nil)⟩
def y13 (z20 : List (List z1)) (z6U : Int → Int → Int → Option Int) : Nat → Int → Int → Int → Int → Option Int
  | 0,_,_,_,_=>none
  | zio + 1,z3r,z4S,z4T,z4U=>if decide (z3r < ((z20.length : Nat) : Int)) then chk ((0 : Int) ≤ z3r ∧ z3r < ((z20.length : Nat) : Int)) ((yB (nth z20 z3r)).bind fun ziq=>if decide (ziq.2 ≠ 0) then some ziq.2 else (y2J (nth z20 z3r)).bind fun zmM=>(y10 (⟨z4S⟩ : zX) (fun (y0 : z2) (y1 : z2)=>y1C y0 y1) (⟨z4T,z4U⟩ : z2) zmM.1).bind fun z9o=>y13 z20 z6U zio (i64 (z3r + 1)) z9o.2.fE z9o.1.fN z9o.1.fD) else z6U z4S z4T z4U
theorem y4x {n : Nat} {z20 : List (List z1)} {z6U : Int → Int → Int → Option Int} {z3r : Int} {z4S : Int} {z4T : Int} {z4U : Int} {r : Int} (h : y13 z20 z6U n z3r z4S z4T z4U = some r) : ∃ m,n = m + 1:=by
  cases n with
  | zero=>cases h
  | succ m=>exact ⟨m,rfl⟩
def y21 (z20 : List (List z1)) (z1f : zSv) (zf0 : List (List z1)) (zb7 : zSv) (z6V : List z2) : Option Int :=
  (if decide (((z20.length : Nat) : Int) > 32) then some true else (yM z20 (fun (y0 : List z1)=>yx y0)).bind fun zmN=>some zmN).bind fun zir=>(if zir then some true else (y2E z1f).bind fun zmO=>some (!zmO)).bind fun zis=>if zis then some 2 else (y1E).bind fun zcV=>jp3 (fun (z6W : Int) (z84 : Int) (z85 : Int)=>(if decide (z6W = 0) then (yQ (⟨z84,z85⟩ : z2) z1f.fR).bind fun zmP=>some (decide (zmP > 0)) else some false).bind fun zit=>if zit then some 6 else some z6W) fun z6U=>y13 z20 z6U ys 0 0 zcV.fN zcV.fD
set_option maxRecDepth 20000 in
theorem y6b (Z : Zp) (z86 : Option Addr) (z87 : Nat) (z9p : Addr) (zmQ : Option Addr) (zmR : Nat) (z9q : Addr) (z9r : Option Addr) (z9s : Nat) (z20 : List (List z1)) (z1f : zSv) (zf0 : List (List z1)) (zb7 : zSv) (z6V : List z2) (r : Int)
     (h : y21 z20 z1f zf0 zb7 z6V = some r) (w₀ : World) (hz : PZ [] w₀ Z)
     (zmS : ZS Z 1 (p39 Z) z86 z87 z20)
     (zzU : ZS Z 1 (p39 Z) zmQ zmR zf0)
     (zzV : ZC Z z9p [(.slice zmQ zf0.length zmR)])
     (zzW : ZC Z z9q [(.int .i64 zb7.fR.fN),(.int .i64 zb7.fR.fD),(.int .i64 zb7.fLatency.fN),(.int .i64 zb7.fLatency.fD)])
     (zzX : ZS Z 2 (fun r x=>r = e30 x) z9r z9s z6V) :
    Calls Try.prog 52 #[(.agg #[(.slice z86 z20.length z87),(.int .i64 z1f.fR.fN),(.int .i64 z1f.fR.fD),(.int .i64 z1f.fLatency.fN),(.int .i64 z1f.fLatency.fD),(.func (.func 37) #[] #[(.pointer (some z9p)),(.pointer (some z9q))]),(.slice z9r z6V.length z9s)])] w₀ fun e w'=>∃ Zn : Zp,e = .returned (.int .i64 r) ∧ True ∧ Hp [] w₀ w' [fz Zn]:=by
  unfold y21 at h
  refine Calls.yc (vs:=[(.agg #[(.slice z86 z20.length z87),(.int .i64 z1f.fR.fN),(.int .i64 z1f.fR.fD),(.int .i64 z1f.fLatency.fN),(.int .i64 z1f.fLatency.fD),(.func (.func 37) #[] #[(.pointer (some z9p)),(.pointer (some z9q))]),(.slice z9r z6V.length z9s)])]) (pre:=[]) (env:=[(0,(.agg #[(.slice z86 z20.length z87),(.int .i64 z1f.fR.fN),(.int .i64 z1f.fR.fD),(.int .i64 z1f.fLatency.fN),(.int .i64 z1f.fLatency.fD),(.func (.func 37) #[] #[(.pointer (some z9p)),(.pointer (some z9q))]),(.slice z9r z6V.length z9s)]))]) Try.func52 rfl Try.ntmps52 rfl (Hp.nil w₀ _) rfl ?_
  refine WC.pool (WC.b (WC.a ?_))
  refine WL.new (dd:=1) rfl rfl rfl (yI (cs:=[(.slice z86 z20.length z87),(.int .i64 z1f.fR.fN),(.int .i64 z1f.fR.fD),(.int .i64 z1f.fLatency.fN),(.int .i64 z1f.fLatency.fD),(.func (.func 37) #[] #[(.pointer (some z9p)),(.pointer (some z9q))]),(.slice z9r z6V.length z9s)]) rfl rfl) ?_
  intro zf1 _
  refine WL.pu rfl (WL.nil (WX.a (WC.b (WC.b ?_))))
  obtain ⟨zir,zmT,h⟩:=z8 h
  obtain ⟨zis,zmU,h⟩:=z8 h
  refine WC.a ?_
  refine WL.a (d:=11) rfl rfl rfl (y3 y4C rfl rfl) ?_
  refine WL.a (d:=12) rfl rfl rfl (yb y2L rfl (yq .here rfl)) ?_
  refine WL.a (d:=13) rfl rfl rfl (y1c Try.underlying26 rfl) ?_
  refine WL.pu rfl (WL.pu rfl ?_)
  refine WL.seg false 3 15 (B:=zir) rfl rfl rfl rfl rfl rfl (fun h=>(Option.some.inj (ye zmT h)).symm) (fun _ zu8=>?_) ?_
  · skip
    have zcW:=yf zmT zu8
    obtain ⟨zmN,zu9,zcW⟩:=z8 zcW
    replace zcW:=Option.some.inj zcW
    refine WL.a (d:=16) rfl rfl rfl (y3 y4C rfl rfl) ?_
    refine WL.a (d:=17) rfl rfl rfl (yb y2L rfl (yq .here rfl)) ?_
    refine WL.b (dd:=18) rfl rfl rfl (ze (l:=[.tmp 17,.func 67]) Try.call66 (.cons rfl (.cons rfl .nil))) .nil (ccz hz .nil .h1 fun w pz ho=>y2q _ _ _ (z6c:=67) (z8J:=[]) _ (z8I:=(fun (y0 : List z1)=>yx y0)) _ zu9 w pz ((zmS.mono (Zle.left _ _)).weak (fun _ _ h=>yo (Zle.left _ _) h)) Try.call67 (fun w' hz' y0 ga0 gc0 r gh0 hr=>y3U _ _ _ _ _ hr w' hz' gh0)) ?_
    refine WL.pu rfl ?_
    exact WL.yy zcW rfl rfl .all
  refine WL.pu rfl ?_
  refine WL.seg false 4 20 (B:=zis) rfl rfl rfl rfl rfl rfl (fun h=>(Option.some.inj (ye zmU h)).symm) (fun _ zua=>?_) ?_
  · skip
    have zcX:=yf zmU zua
    obtain ⟨zmO,zub,zcX⟩:=z8 zcX
    replace zcX:=Option.some.inj zcX
    refine WL.a (d:=21) rfl rfl rfl (y3 y7M rfl rfl) ?_
    refine WL.a (d:=22) rfl rfl rfl (yv (cs:=[(.int .i64 z1f.fR.fN),(.int .i64 z1f.fR.fD),(.int .i64 z1f.fLatency.fN),(.int .i64 z1f.fLatency.fD)]) y24 rfl rfl (y1D (s:=4) .here rfl)) ?_
    refine WL.b (dd:=23) rfl rfl rfl (ze (l:=[.tmp 22]) Try.call47 (.cons rfl .nil)) .nil (ccz hz .nil .h1 fun w pz ho=>y69 _ _ _ zub w pz ) ?_
    refine WL.pu rfl (WL.pu rfl ?_)
    exact WL.yy zcX rfl rfl .all
  refine WL.nil (WX.a ?_)
  refine WC.cond rfl (fun ziu=>?_) (fun ziu=>?_)
  · replace h:=ye h ziu
    refine WC.b (WC.a (WL.pu rfl (WL.nil (WX.a (WC.ret (WX.y5 ?_))))))
    obtain rfl:=Option.some.inj h
    refine WX.y8 Try.results52 (.tmp rfl .nil) (fun w hw=>?_)
    exact ⟨[],yG rfl,trivial,hw.sub (.cons .h1 .nil)⟩
  · replace h:=yf h ziu
    refine WC.skip (WX.a (WC.b (WC.a ?_)))
    refine WL.new (dd:=3) rfl rfl rfl (yh (cs:=[(.int .i64 0)]) y70 rfl) ?_
    intro zf2 _
    refine WL.nil (WX.a (WC.b ?_))
    obtain ⟨zcV,zuc,h⟩:=z8 h
    refine WC.a ?_
    refine WL.b (dd:=26) rfl rfl rfl (ze (l:=[]) Try.call51 .nil) .nil (ccz hz .nil .h2 fun w pz ho=>y2t _ _ zuc w pz ) ?_
    refine WL.new (dd:=4) rfl rfl rfl (yh (cs:=[(.int .i64 0),(.int .i64 0)]) ym rfl) ?_
    intro zf3 _
    refine WL.ya rfl rfl (y9 yj rfl rfl rfl .here rfl rfl rfl) ?_
    refine WL.nil (WX.a ?_)
    obtain ⟨z6U,zud,h⟩:=y83 h
    refine WC.y4O (fun (z6W : Int) (z84 : Int) (z85 : Int) (z9t : Zp)=>(z6U z6W z84 z85 = some r) ∧ (Zle (Z ++ []) (Z ++ z9t))) (fun (z6W : Int) (z84 : Int) (z85 : Int) (z9t : Zp)=>[(1,(.pointer (some ⟨zf1,0,none⟩))),(3,(.pointer (some ⟨zf2,0,none⟩))),(4,(.pointer (some ⟨zf3,0,none⟩)))]) (fun (z6W : Int) (z84 : Int) (z85 : Int) (z9t : Zp)=>[fz z9t,stb zf1 79 [(.slice z86 z20.length z87),(.int .i64 z1f.fR.fN),(.int .i64 z1f.fR.fD),(.int .i64 z1f.fLatency.fN),(.int .i64 z1f.fLatency.fD),(.func (.func 37) #[] #[(.pointer (some z9p)),(.pointer (some z9q))]),(.slice z9r z6V.length z9s)],stb zf2 98 [(.int .i64 z6W)],stb zf3 30 [(.int .i64 z84),(.int .i64 z85)]]) ?_ ?_
    · skip
      refine WC.b (WC.a ?_)
      refine WL.a (d:=27) rfl rfl rfl (y3 y4C rfl rfl) ?_
      refine WL.a (d:=28) rfl rfl rfl (yb y2L rfl (yq .h2 rfl)) ?_
      refine WL.a (d:=29) rfl rfl rfl (y1c Try.underlying26 rfl) ?_
      refine WL.pu rfl (WL.nil (WX.a (WC.block ?_)))
      refine WC.y4s (fun (zb8 : Nat) (z3r : Int) (z4S : Int) (z4T : Int) (z4U : Int) (z5p : Zp)=>(y13 z20 z6U zb8 z3r z4S z4T z4U = some r) ∧ (Zle (Z ++ []) (Z ++ z5p))) (fun (zb8 : Nat) (z3r : Int) (z4S : Int) (z4T : Int) (z4U : Int) (z5p : Zp)=>[(1,(.pointer (some ⟨zf1,0,none⟩))),(3,(.pointer (some ⟨zf2,0,none⟩))),(4,(.pointer (some ⟨zf3,0,none⟩))),(28,(.slice z86 z20.length z87)),(29,(.int .i64 ((z20.length : Nat) : Int))),(30,(.int .i64 z3r))]) (fun (zb8 : Nat) (z3r : Int) (z4S : Int) (z4T : Int) (z4U : Int) (z5p : Zp)=>[fz z5p,stb zf1 79 [(.slice z86 z20.length z87),(.int .i64 z1f.fR.fN),(.int .i64 z1f.fR.fD),(.int .i64 z1f.fLatency.fN),(.int .i64 z1f.fLatency.fD),(.func (.func 37) #[] #[(.pointer (some z9p)),(.pointer (some z9q))]),(.slice z9r z6V.length z9s)],stb zf2 98 [(.int .i64 z4S)],stb zf3 30 [(.int .i64 z4T),(.int .i64 z4U)]]) (fun (zb8 : Nat) (z3r : Int) (z4S : Int) (z4T : Int) (z4U : Int) (z5p : Zp)=>zb8) ⟨ys,0,0,zcV.fN,zcV.fD,[]⟩ ⟨h,(Zle.refl _)⟩ (.cons rfl (.cons rfl (.cons rfl (.cons rfl (.cons rfl (.cons rfl .nil)))))) (.cons .h3 (.cons .h2 (.cons .h1 (.cons .here .nil)))) ?_
      rintro zb8 z3r z4S z4T z4U z5p ⟨h,zf4⟩
      obtain ⟨zio,rfl⟩:=y4x h
      rw [y13] at h
      refine WC.b (WC.a (WL.pu rfl (WL.nil (WX.a (WC.b ?_)))))
      refine WC.cond rfl (fun ziv=>?_) (fun ziv=>?_)
      · replace h:=ye h ziv
        refine WC.skip (WX.a (WC.b (WC.block (WC.b ?_))))
        obtain ⟨zue,h⟩:=yk h
        refine WC.a ?_
        refine WL.znth (dd:=32) rfl rfl (Z:=(Z ++ z5p)) (Pr:=(p39 (Z ++ z5p))) y2x rfl rfl ((zmS.mono ((Zle.left _ _).trans zf4)).weak (fun _ _ h=>yo ((Zle.left _ _).trans zf4) h)) zue ?_
        rintro zzY zzZ zuf zA0 ⟨zA1,zA2,rfl,zmV⟩
        refine WL.a (d:=33) rfl rfl rfl (yb y4E rfl (y4P (hz.pv2 .here) zuf rfl)) ?_
        refine WL.pu rfl (WL.nil (WX.a (WC.b (WC.b ?_))))
        obtain ⟨ziq,zug,h⟩:=z8 h
        refine WC.a (WL.pu rfl ?_)
        refine WL.y6s (dd:=36) rfl rfl rfl (ze (l:=[.tmp 35]) Try.call68 (.cons rfl .nil)) .nil (ccz hz .nil .here fun w pz ho=>y48 _ _ _ _ _ zug w pz zmV) ?_
        rintro zmW zA3 zA4 _
        refine WL.merge .here .h1 ?_
        refine WL.pu rfl (WL.pu rfl (WL.pu rfl (WL.pu rfl (WL.pu rfl (WL.nil (WX.a (WC.b (WC.a (WL.pu rfl (WL.pu rfl (WL.nil (WX.a ?_))))))))))))
        refine WC.cond rfl (fun ziw=>?_) (fun ziw=>?_)
        · replace h:=ye h ziw
          refine WC.b (WC.a (WL.pu rfl (WL.pu rfl (WL.nil (WX.a (WC.ret (WX.y5 (WX.yl (WX.y5 (WX.y5 (WX.yl (WX.y5 ?_))))))))))))
          obtain rfl:=Option.some.inj h
          refine WX.y8 Try.results52 (.tmp rfl .nil) (fun w hw=>?_)
          exact ⟨(z5p ++ zmW),yG rfl,trivial,hw.sub (.cons .here .nil)⟩
        · replace h:=yf h ziw
          refine WC.skip (WX.a (WC.b ?_))
          obtain ⟨zmM,zuh,h⟩:=z8 h
          refine WC.a (WL.pu rfl ?_)
          refine WL.b (dd:=44) rfl rfl rfl (ze (l:=[.tmp 43]) Try.call21 (.cons rfl .nil)) .nil (ccz hz .nil .here fun w pz ho=>y7s _ _ _ _ _ zuh w pz (zmV.mono ((Zle.left _ _).trans (Zle.yi _ _ _)))) ?_
          refine WL.pu rfl (WL.pu rfl (WL.pu rfl ?_))
          refine WL.new (dd:=9) rfl rfl rfl (yh (cs:=[(.int .i64 0),(.int .i64 0)]) ym rfl) ?_
          intro zA5 _
          refine WL.ya rfl rfl (y9 yj rfl rfl rfl .here rfl rfl rfl) ?_
          refine WL.pu rfl (WL.nil (WX.a ?_))
          obtain ⟨z9o,zui,h⟩:=z8 h
          refine WC.a ?_
          refine WL.a (d:=47) rfl rfl rfl (y7 y4 rfl (y6 .h5) rfl) ?_
          refine WL.a (d:=48) rfl rfl rfl (y7 y4 rfl (y6 .here) rfl) ?_
          refine WL.b (dd:=49) rfl rfl rfl (ze (l:=[.tmp 3,.func 19,.tmp 47,.tmp 48]) Try.call33 (.cons rfl (.cons rfl (.cons rfl (.cons rfl .nil))))) (.cons .h4 .nil) (ccz hz (.cons .h4 .nil) .h1 fun w pz ho=>y1z _ _ (z3m:=19) (z3U:=[]) _ (z4f:=(fun (y0 : z2) (y1 : z2)=>y1C y0 y1)) _ _ _ zui w pz Try.call19 (fun w' hz' y0 y1  r  hr=>y5k _ _ _ _ hr w' hz' ) ho) ?_
          refine WL.ya rfl rfl (y9 yj rfl rfl rfl .h5 rfl rfl rfl) ?_
          refine WL.nil (WX.yg (WX.a (WC.a (WL.pu rfl (WL.pu rfl (WL.nil ?_))))))
          exact WX.round (G:=Nat × Int × Int × Int × Int × Zp) ⟨zio,(i64 (z3r + 1)),z9o.2.fE,z9o.1.fN,z9o.1.fD,(z5p ++ zmW)⟩ ⟨h,(zf4.trans ((Zle.left _ _).trans (Zle.yi _ _ _)))⟩ (Nat.lt_succ_self _) (.cons rfl (.cons rfl (.cons rfl (.cons rfl (.cons rfl (.cons rfl .nil)))))) (.cons .h3 (.cons .h4 (.cons .h1 (.cons .here .nil))))
      · replace h:=yf h ziv
        refine WC.exit (WX.yd (WX.yd (WX.yt ?_)))
        exact WX.mid (G:=Int × Int × Int × Zp) ⟨z4S,z4T,z4U,z5p⟩ ⟨h,zf4⟩ (.cons rfl (.cons rfl (.cons rfl .nil))) (.cons .here (.cons .here (.cons .here (.cons .here .nil))))
    · rintro z6W z84 z85 z9t ⟨h,zA6⟩
      replace h:=(zud z6W z84 z85).symm.trans h
      refine WC.b (WC.b ?_)
      obtain ⟨zit,zmX,h⟩:=z8 h
      refine WC.a ?_
      refine WL.a (d:=51) rfl rfl rfl (y3 y33 rfl rfl) ?_
      refine WL.a (d:=52) rfl rfl rfl (yb y2B rfl (yq .h2 rfl)) ?_
      refine WL.pu rfl (WL.pu rfl ?_)
      refine WL.seg true 6 54 (B:=zit) rfl rfl rfl rfl rfl rfl (fun h=>(Option.some.inj (yf zmX h)).symm) (fun _ zuj=>?_) ?_
      · skip
        have zcY:=ye zmX zuj
        obtain ⟨zmP,zuk,zcY⟩:=z8 zcY
        replace zcY:=Option.some.inj zcY
        refine WL.a (d:=55) rfl rfl rfl (y7 y4 rfl (y6 .h3) rfl) ?_
        refine WL.a (d:=56) rfl rfl rfl (y3 y7M rfl rfl) ?_
        refine WL.a (d:=57) rfl rfl rfl (y3 y52 rfl rfl) ?_
        refine WL.a (d:=58) rfl rfl rfl (yv (cs:=[(.int .i64 z1f.fR.fN),(.int .i64 z1f.fR.fD)]) y4 rfl rfl (y1D (s:=2) .h1 rfl)) ?_
        refine WL.b (dd:=59) rfl rfl rfl (ze (l:=[.tmp 55,.tmp 58]) Try.call18 (.cons rfl (.cons rfl .nil))) .nil (ccz hz .nil .here fun w pz ho=>y1Y _ _ _ _ zuk w pz ) ?_
        refine WL.pu rfl (WL.pu rfl ?_)
        exact WL.yy zcY rfl rfl .all
      refine WL.nil (WX.a ?_)
      refine WC.cond rfl (fun zix=>?_) (fun zix=>?_)
      · replace h:=ye h zix
        refine WC.b (WC.a (WL.pu rfl (WL.nil (WX.a (WC.ret (WX.y5 ?_))))))
        obtain rfl:=Option.some.inj h
        refine WX.y8 Try.results52 (.tmp rfl .nil) (fun w hw=>?_)
        exact ⟨z9t,yG rfl,trivial,hw.sub (.cons .here .nil)⟩
      · replace h:=yf h zix
        refine WC.skip (WX.a (WC.b (WC.a ?_)))
        refine WL.a (d:=62) rfl rfl rfl (y3 y33 rfl rfl) ?_
        refine WL.a (d:=63) rfl rfl rfl (yb y2B rfl (yq .h2 rfl)) ?_
        refine WL.pu rfl (WL.nil (WX.a (WC.ret ?_)))
        obtain rfl:=Option.some.inj h
        refine WX.y8 Try.results52 (.tmp rfl .nil) (fun w hw=>?_)
        exact ⟨z9t,yG rfl,trivial,hw.sub (.cons .here .nil)⟩
def y2o (z88 : List (List z1)) (z2g : zSv) (zf5 : List (List z1)) (zb9 : zSv) (z89 : List z2) : Option (Int × Int × Int × Int) :=
  some (z2g.fR.fN,z2g.fR.fD,z2g.fLatency.fN,z2g.fLatency.fD)
set_option maxRecDepth 20000 in
theorem y5I (Z : Zp) (zba : Option Addr) (zbb : Nat) (zbc : Addr) (zmY : Option Addr) (zmZ : Nat) (zbd : Addr) (zbe : Option Addr) (zbf : Nat) (z88 : List (List z1)) (z2g : zSv) (zf5 : List (List z1)) (zb9 : zSv) (z89 : List z2) (r : Int × Int × Int × Int)
     (h : y2o z88 z2g zf5 zb9 z89 = some r) (w₀ : World) (hz : PZ [] w₀ Z)
     (zA7 : ZS Z 1 (p39 Z) zba zbb z88)
     (zA8 : ZS Z 1 (p39 Z) zmY zmZ zf5)
     (zA9 : ZC Z zbc [(.slice zmY zf5.length zmZ)])
     (zAa : ZC Z zbd [(.int .i64 zb9.fR.fN),(.int .i64 zb9.fR.fD),(.int .i64 zb9.fLatency.fN),(.int .i64 zb9.fLatency.fD)])
     (zAb : ZS Z 2 (fun r x=>r = e30 x) zbe zbf z89) :
    Calls Try.prog 53 #[(.agg #[(.slice zba z88.length zbb),(.int .i64 z2g.fR.fN),(.int .i64 z2g.fR.fD),(.int .i64 z2g.fLatency.fN),(.int .i64 z2g.fLatency.fD),(.func (.func 37) #[] #[(.pointer (some zbc)),(.pointer (some zbd))]),(.slice zbe z89.length zbf)])] w₀ fun e w'=>∃ zn0 : Nat,e = .returned (.func (.func 69) #[] #[(.pointer (some ⟨zn0,0,none⟩))]) ∧ True ∧ Hp [] w₀ w' [stb zn0 79 [(.slice zba z88.length zbb),(.int .i64 r.1),(.int .i64 r.2.1),(.int .i64 r.2.2.1),(.int .i64 r.2.2.2),(.func (.func 37) #[] #[(.pointer (some zbc)),(.pointer (some zbd))]),(.slice zbe z89.length zbf)]]:=by
  unfold y2o at h
  refine Calls.yc (vs:=[(.agg #[(.slice zba z88.length zbb),(.int .i64 z2g.fR.fN),(.int .i64 z2g.fR.fD),(.int .i64 z2g.fLatency.fN),(.int .i64 z2g.fLatency.fD),(.func (.func 37) #[] #[(.pointer (some zbc)),(.pointer (some zbd))]),(.slice zbe z89.length zbf)])]) (pre:=[]) (env:=[(0,(.agg #[(.slice zba z88.length zbb),(.int .i64 z2g.fR.fN),(.int .i64 z2g.fR.fD),(.int .i64 z2g.fLatency.fN),(.int .i64 z2g.fLatency.fD),(.func (.func 37) #[] #[(.pointer (some zbc)),(.pointer (some zbd))]),(.slice zbe z89.length zbf)]))]) Try.func53 rfl Try.ntmps53 rfl (Hp.nil w₀ _) rfl ?_
  refine WC.b (WC.a ?_)
  refine WL.new (dd:=1) rfl rfl rfl (yI (cs:=[(.slice zba z88.length zbb),(.int .i64 z2g.fR.fN),(.int .i64 z2g.fR.fD),(.int .i64 z2g.fLatency.fN),(.int .i64 z2g.fLatency.fD),(.func (.func 37) #[] #[(.pointer (some zbc)),(.pointer (some zbd))]),(.slice zbe z89.length zbf)]) rfl rfl) ?_
  intro zul _
  refine WL.pu rfl (WL.nil (WX.a (WC.b (WC.a ?_))))
  refine WL.a (d:=3) rfl rfl rfl (y1b (Eos.caps (l:=[.tmp 1]) (.cons rfl .nil))) ?_
  refine WL.pu rfl (WL.nil (WX.a (WC.ret ?_)))
  obtain rfl:=Option.some.inj h
  refine WX.y8 Try.results53 (.tmp rfl .nil) (fun w hw=>?_)
  exact ⟨zul,yG rfl,trivial,hw.sub (.cons .here .nil)⟩
def yD (zh : Type) (z1K : List z2 × Int) (z1B : z2 → zh → Option (Bool × zh)) (z6X : zh → Option zh) : Nat → Int → zh → Option zh
  | 0,_,_=>none
  | ziy + 1,z21,z3s=>if decide (z21 < ((z1K.1.length : Nat) : Int)) then chk ((0 : Int) ≤ z21 ∧ z21 < ((z1K.1.length : Nat) : Int)) ((y1F (⟨((nth z1K.1 z21).fN),((nth z1K.1 z21).fD)⟩ : z2)).bind fun zn1=>(yW zn1).bind fun ziz=>(z1B ziz z3s).bind fun z5R=>(if !z5R.1 then some (true,z5R.2) else (y27 (⟨((nth z1K.1 z21).fN),((nth z1K.1 z21).fD)⟩ : z2)).bind fun zn2=>(yW zn2).bind fun ziA=>(z1B ziA z5R.2).bind fun zcZ=>some (!zcZ.1,zcZ.2)).bind fun z8a=>if z8a.1 then some z8a.2 else yD zh z1K z1B z6X ziy (i64 (z21 + 1)) z8a.2) else z6X z3s
theorem y49 {n : Nat} {zh : Type} {z1K : List z2 × Int} {z1B : z2 → zh → Option (Bool × zh)} {z6X : zh → Option zh} {z21 : Int} {z3s : zh} {r : zh} (h : yD zh z1K z1B z6X n z21 z3s = some r) : ∃ m,n = m + 1:=by
  cases n with
  | zero=>cases h
  | succ m=>exact ⟨m,rfl⟩
def yR (zh : Type) (z1Q : List (List z1)) (z1B : z2 → zh → Option (Bool × zh)) (z6Y : zh → Option zh) : Nat → Int → zh → Option zh
  | 0,_,_=>none
  | ziB + 1,z2S,z41=>if decide (z2S < ((z1Q.length : Nat) : Int)) then jp1 (fun (z5S : zh)=>yR zh z1Q z1B z6Y ziB (i64 (z2S + 1)) z5S) fun ziC=>chk ((0 : Int) ≤ z2S ∧ z2S < ((z1Q.length : Nat) : Int)) ((yB (nth z1Q z2S)).bind fun z1K=>jp1 (fun (z5T : zh)=>ziC z5T) fun z6X=>yD zh z1K z1B z6X ys 0 z41) else z6Y z41
theorem y4a {n : Nat} {zh : Type} {z1Q : List (List z1)} {z1B : z2 → zh → Option (Bool × zh)} {z6Y : zh → Option zh} {z2S : Int} {z41 : zh} {r : zh} (h : yR zh z1Q z1B z6Y n z2S z41 = some r) : ∃ m,n = m + 1:=by
  cases n with
  | zero=>cases h
  | succ m=>exact ⟨m,rfl⟩
def yE (zh : Type) (z23 : List z2) (z1B : z2 → zh → Option (Bool × zh)) (z6Z : zh → Option zh) : Nat → Int → zh → Option zh
  | 0,_,_=>none
  | ziD + 1,z2z,z3t=>if decide (z2z < ((z23.length : Nat) : Int)) then chk ((0 : Int) ≤ z2z ∧ z2z < ((z23.length : Nat) : Int)) ((y1F (⟨((nth z23 z2z).fN),((nth z23 z2z).fD)⟩ : z2)).bind fun zn3=>(yW zn3).bind fun ziE=>(z1B ziE z3t).bind fun z5U=>(if !z5U.1 then some (true,z5U.2) else (y27 (⟨((nth z23 z2z).fN),((nth z23 z2z).fD)⟩ : z2)).bind fun zn4=>(yW zn4).bind fun ziF=>(z1B ziF z5U.2).bind fun zd0=>some (!zd0.1,zd0.2)).bind fun z8b=>if z8b.1 then some z8b.2 else yE zh z23 z1B z6Z ziD (i64 (z2z + 1)) z8b.2) else z6Z z3t
theorem y4b {n : Nat} {zh : Type} {z23 : List z2} {z1B : z2 → zh → Option (Bool × zh)} {z6Z : zh → Option zh} {z2z : Int} {z3t : zh} {r : zh} (h : yE zh z23 z1B z6Z n z2z z3t = some r) : ∃ m,n = m + 1:=by
  cases n with
  | zero=>cases h
  | succ m=>exact ⟨m,rfl⟩
def y1J (zh : Type) (z1B : z2 → zh → Option (Bool × zh)) (s0_29980 : zh) (z1Q : List (List z1)) (z9u : zSv) (zd1 : List (List z1)) (z9v : zSv) (z23 : List z2) : Option zh :=
  (y1E).bind fun ziG=>(z1B ziG s0_29980).bind fun z9w=>if !z9w.1 then some z9w.2 else jp1 (fun (z5V : zh)=>jp1 (fun (z71 : zh)=>some z71) fun z6Z=>yE zh z23 z1B z6Z ys 0 z5V) fun z6Y=>yR zh z1Q z1B z6Y ys 0 z9w.2
set_option maxRecDepth 20000 in
theorem y5l (Z : Zp) (zh : Type) (z4n : Nat) (zS : Type) (z1C : zS → zh → Asrt) (z4o : zS → zh → Prop) (z5W : zS) (z5q : Addr) (z8c : Option Addr) (z8d : Nat) (ziH : Addr) (ziI : Option Addr) (ziJ : Nat) (ziK : Addr) (zd2 : Option Addr) (zd3 : Nat) (z1B : z2 → zh → Option (Bool × zh)) (s0_29980 : zh) (z1Q : List (List z1)) (z9u : zSv) (zd1 : List (List z1)) (z9v : zSv) (z23 : List z2) (r : zh) (w₀ : World) (hz : PZ (fps [z1C z5W s0_29980]) w₀ Z)
     (zd4 : y7l Try.prog Z z4n (α:=z2) (σ:=zh) (G:=zS) (H:=Unit) (fun h x=>[(.agg #[(.int .i64 x.fN),(.int .i64 x.fD)])]) (fun h x=>[]) z1B z1C z4o)
     (zum : z4o z5W s0_29980)
     (zun : ZS Z 1 (p39 Z) z8c z8d z1Q)
     (zAc : ZS Z 1 (p39 Z) ziI ziJ zd1)
     (zAd : ZC Z ziH [(.slice ziI zd1.length ziJ)])
     (zAe : ZC Z ziK [(.int .i64 z9v.fR.fN),(.int .i64 z9v.fR.fD),(.int .i64 z9v.fLatency.fN),(.int .i64 z9v.fLatency.fD)])
     (zuo : ZS Z 2 (fun r x=>r = e30 x) zd2 zd3 z23)
     (zn5 : ZC Z z5q [(.slice z8c z1Q.length z8d),(.int .i64 z9u.fR.fN),(.int .i64 z9u.fR.fD),(.int .i64 z9u.fLatency.fN),(.int .i64 z9u.fLatency.fD),(.func (.func 37) #[] #[(.pointer (some ziH)),(.pointer (some ziK))]),(.slice zd2 z23.length zd3)])
     (h : y1J zh z1B s0_29980 z1Q z9u zd1 z9v z23 = some r)
    (hown : Hp (fps [z1C z5W s0_29980]) w₀ w₀ [z1C z5W s0_29980]) :
    Calls Try.prog 69 #[(.func (.yield z4n) #[] #[]),(.pointer (some z5q))] w₀ fun e w'=>∃ Zn : Zp,∃ zn6 : zS,e = .returned (.tuple #[]) ∧ (z4o zn6 r) ∧ Hp (fps [z1C z5W s0_29980]) w₀ w' [fz Zn,z1C zn6 r]:=by
  unfold y1J at h
  refine Calls.yc (vs:=[(.func (.yield z4n) #[] #[]),(.pointer (some z5q))]) (pre:=[z1C z5W s0_29980]) (env:=[(0,(.func (.yield z4n) #[] #[])),(1,(.pointer (some z5q)))]) Try.func69 rfl Try.ntmps69 rfl (hown) rfl ?_
  refine WC.pool (WC.b (WC.b ?_))
  obtain ⟨ziG,zup,h⟩:=z8 h
  obtain ⟨z9w,zuq,h⟩:=z8 h
  refine WC.a (WL.pu rfl ?_)
  refine WL.b (dd:=12) rfl rfl rfl (ze (l:=[]) Try.call51 .nil) .nil (ccz hz .nil .here fun w pz ho=>y2t _ _ zup w pz ) ?_
  refine WL.yield (dd:=13) (x:=ziG) (h:=()) (g:=z5W) (s:=s0_29980) (b:=z9w.1) (s':=z9w.2) zd4 rfl rfl rfl (.cons rfl .nil) ((.cons .h1 .nil) : Sel _ [z1C z5W s0_29980] _) zuq zum (fun w hw=>hz.call hw ((.cons .h1 .nil) : Sel _ [z1C z5W s0_29980] _)) ?_
  intro zn7 zn8
  refine WL.pu rfl (WL.nil (WX.a ?_))
  refine WC.cond rfl (fun ziL=>?_) (fun ziL=>?_)
  · replace h:=ye h ziL
    refine WC.ret (WX.y5 ?_)
    obtain rfl:=Option.some.inj h
    refine WX.y8 Try.results69 .nil (fun w hw=>?_)
    exact ⟨[],zn7,y5p,zn8,hw.sub (.cons .h1 (.cons .here .nil))⟩
  · replace h:=yf h ziL
    refine WC.skip (WX.a ?_)
    obtain ⟨z6Y,zur,h⟩:=y1n h
    refine WC.y2G (fun (z5V : zh) (z5r : Zp) (zbg : zS)=>(z6Y z5V = some r) ∧ (Zle (Z ++ []) (Z ++ z5r)) ∧ (z4o zbg z5V)) (fun (z5V : zh) (z5r : Zp) (zbg : zS)=>[(0,(.func (.yield z4n) #[] #[])),(1,(.pointer (some z5q)))]) (fun (z5V : zh) (z5r : Zp) (zbg : zS)=>[fz z5r,z1C zbg z5V]) ?_ ?_
    · skip
      refine WC.b (WC.a ?_)
      refine WL.a (d:=15) rfl rfl rfl (y3 y4C rfl rfl) ?_
      refine WL.a (d:=16) rfl rfl rfl (yb y2L rfl (y1I (hz.pv2 .h1) (zn5.mono (Zle.left _ _)) rfl)) ?_
      refine WL.a (d:=17) rfl rfl rfl (y1c Try.underlying26 rfl) ?_
      refine WL.pu rfl (WL.nil (WX.a (WC.block ?_)))
      refine WC.y4r (fun (zbh : Nat) (z2S : Int) (z41 : zh) (z3N : Zp) (z8e : zS)=>(yR zh z1Q z1B z6Y zbh z2S z41 = some r) ∧ (Zle (Z ++ []) (Z ++ z3N)) ∧ (z4o z8e z41)) (fun (zbh : Nat) (z2S : Int) (z41 : zh) (z3N : Zp) (z8e : zS)=>[(0,(.func (.yield z4n) #[] #[])),(1,(.pointer (some z5q))),(16,(.slice z8c z1Q.length z8d)),(17,(.int .i64 ((z1Q.length : Nat) : Int))),(18,(.int .i64 z2S))]) (fun (zbh : Nat) (z2S : Int) (z41 : zh) (z3N : Zp) (z8e : zS)=>[fz z3N,z1C z8e z41]) (fun (zbh : Nat) (z2S : Int) (z41 : zh) (z3N : Zp) (z8e : zS)=>zbh) ⟨ys,0,z9w.2,[],zn7⟩ ⟨h,(Zle.refl _),zn8⟩ (.cons rfl (.cons rfl (.cons rfl (.cons rfl (.cons rfl .nil))))) (.cons .h1 (.cons .here .nil)) ?_
      rintro zbh z2S z41 z3N z8e ⟨h,zf6,zn9⟩
      obtain ⟨ziB,rfl⟩:=y4a h
      rw [yR] at h
      refine WC.b (WC.a (WL.pu rfl (WL.nil (WX.a (WC.b ?_)))))
      refine WC.cond rfl (fun ziM=>?_) (fun ziM=>?_)
      · replace h:=ye h ziM
        refine WC.skip (WX.a ?_)
        obtain ⟨ziC,zus,h⟩:=y1n h
        refine WC.y2G (fun (z5S : zh) (zbi : Zp) (zbj : zS)=>(ziC z5S = some r) ∧ (Zle (Z ++ z3N) (Z ++ zbi)) ∧ (z4o zbj z5S)) (fun (z5S : zh) (zbi : Zp) (zbj : zS)=>[(0,(.func (.yield z4n) #[] #[])),(1,(.pointer (some z5q))),(16,(.slice z8c z1Q.length z8d)),(17,(.int .i64 ((z1Q.length : Nat) : Int))),(18,(.int .i64 z2S))]) (fun (z5S : zh) (zbi : Zp) (zbj : zS)=>[fz zbi,z1C zbj z5S]) ?_ ?_
        · skip
          refine WC.block (WC.b ?_)
          obtain ⟨zut,h⟩:=yk h
          refine WC.a ?_
          refine WL.znth (dd:=20) rfl rfl (Z:=(Z ++ z3N)) (Pr:=(p39 (Z ++ z3N))) y2x rfl rfl ((zun.mono ((Zle.left _ _).trans zf6)).weak (fun _ _ h=>yo ((Zle.left _ _).trans zf6) h)) zut ?_
          rintro zAf zAg zuu zAh ⟨zAi,zAj,rfl,zuv⟩
          refine WL.a (d:=21) rfl rfl rfl (yb y4E rfl (y4P (hz.pv2 .here) zuu rfl)) ?_
          refine WL.pu rfl (WL.nil (WX.a (WC.b ?_)))
          obtain ⟨z1K,zuw,h⟩:=z8 h
          refine WC.a (WL.pu rfl ?_)
          refine WL.y6s (dd:=24) rfl rfl rfl (ze (l:=[.tmp 23]) Try.call68 (.cons rfl .nil)) .nil (ccz hz .nil .here fun w pz ho=>y48 _ _ _ _ _ zuw w pz zuv) ?_
          rintro zd5 zux zuy _
          refine WL.merge .here .h1 ?_
          refine WL.pu rfl (WL.pu rfl (WL.pu rfl (WL.pu rfl (WL.pu rfl (WL.nil (WX.a (WC.b (WC.a (WL.pu rfl ?_)))))))))
          refine WL.a (d:=28) rfl rfl rfl (y1c Try.underlying77 rfl) ?_
          refine WL.pu rfl (WL.nil (WX.a ?_))
          obtain ⟨z6X,zuz,h⟩:=y1n h
          refine WC.y5Q (fun (z5T : zh) (zbk : zS)=>(z6X z5T = some r) ∧ (z4o zbk z5T)) (fun (z5T : zh) (zbk : zS)=>[(0,(.func (.yield z4n) #[] #[])),(1,(.pointer (some z5q))),(16,(.slice z8c z1Q.length z8d)),(17,(.int .i64 ((z1Q.length : Nat) : Int))),(18,(.int .i64 z2S))]) (fun (z5T : zh) (zbk : zS)=>[fz (z3N ++ zd5),z1C zbk z5T]) ?_ ?_
          · skip
            refine WC.block ?_
            refine WC.y4s (fun (zbl : Nat) (z21 : Int) (z3s : zh) (zbm : Option Addr) (z72 : Nat) (z5X : zS)=>(yD zh z1K z1B z6X zbl z21 z3s = some r) ∧ (z4o z5X z3s)) (fun (zbl : Nat) (z21 : Int) (z3s : zh) (zbm : Option Addr) (z72 : Nat) (z5X : zS)=>[(0,(.func (.yield z4n) #[] #[])),(1,(.pointer (some z5q))),(16,(.slice z8c z1Q.length z8d)),(17,(.int .i64 ((z1Q.length : Nat) : Int))),(18,(.int .i64 z2S)),(27,(.slice zbm z1K.1.length z72)),(28,(.int .i64 ((z1K.1.length : Nat) : Int))),(29,(.int .i64 z21))]) (fun (zbl : Nat) (z21 : Int) (z3s : zh) (zbm : Option Addr) (z72 : Nat) (z5X : zS)=>[fz (z3N ++ zd5),row (.slice zbm z1K.1.length z72) 30 2 (z1K.1.flatMap e30),z1C z5X z3s]) (fun (zbl : Nat) (z21 : Int) (z3s : zh) (zbm : Option Addr) (z72 : Nat) (z5X : zS)=>zbl) ⟨ys,0,z41,zux,zuy,z8e⟩ ⟨h,zn9⟩ (.cons rfl (.cons rfl (.cons rfl (.cons rfl (.cons rfl (.cons rfl (.cons rfl (.cons rfl .nil)))))))) (.cons .here (.cons .here (.cons .here .nil))) ?_
            rintro zbl z21 z3s zbm z72 z5X ⟨h,zna⟩
            obtain ⟨ziy,rfl⟩:=y49 h
            rw [yD] at h
            refine WC.b (WC.a (WL.pu rfl (WL.nil (WX.a (WC.b ?_)))))
            refine WC.cond rfl (fun ziN=>?_) (fun ziN=>?_)
            · replace h:=ye h ziN
              refine WC.skip (WX.a (WC.b (WC.block (WC.b ?_))))
              obtain ⟨zd6,h⟩:=yk h
              refine WC.a ?_
              refine WL.know (fun w hw=>Hp.y3Z .h1 hw (by intro hz'; have:=zd6; rw [hz'] at this; omega)) ?_
              rintro ⟨ziO,rfl⟩
              refine WL.a (d:=31) rfl rfl rfl (y19 y1B rfl rfl zd6.1 zd6.2 y3b) ?_
              refine WL.a (d:=32) rfl rfl rfl (yv (cs:=(e30 (nth z1K.1 z21))) y4 rfl rfl (y2T .h1 (y3q (enc:=e30) (l:=z1K.1) (i:=z21) (sz:=2) (fun _=>rfl) zd6.1 zd6.2))) ?_
              refine WL.new (dd:=8) rfl rfl rfl (yh (cs:=[(.int .i64 0),(.int .i64 0)]) ym rfl) ?_
              intro zuA _
              refine WL.ya rfl rfl (y9 yj rfl rfl rfl .here rfl rfl rfl) ?_
              refine WL.nil (WX.a (WC.b ?_))
              obtain ⟨zn1,zuB,h⟩:=z8 h
              obtain ⟨ziz,zuC,h⟩:=z8 h
              obtain ⟨z5R,zuD,h⟩:=z8 h
              obtain ⟨z8a,znb,h⟩:=z8 h
              refine WC.a (WL.pu rfl ?_)
              refine WL.a (d:=34) rfl rfl rfl (y7 y4 rfl (y6 .here) rfl) ?_
              refine WL.b (dd:=35) rfl rfl rfl (ze (l:=[.tmp 34]) Try.call70 (.cons rfl .nil)) .nil (ccz hz .nil .h1 fun w pz ho=>y4k _ _ _ zuB w pz ) ?_
              refine WL.b (dd:=36) rfl rfl rfl (ze (l:=[.tmp 35]) Try.call65 (.cons rfl .nil)) .nil (ccz hz .nil .h1 fun w pz ho=>y1M _ _ _ zuC w pz ) ?_
              refine WL.yield (dd:=37) (x:=ziz) (h:=()) (g:=z5X) (s:=z3s) (b:=z5R.1) (s':=z5R.2) zd4 rfl rfl rfl (.cons rfl .nil) ((.cons .h3 .nil) : Sel _ [z1C z5X z3s] _) zuD zna (fun w hw=>hz.call hw ((.cons .h3 .nil) : Sel _ [z1C z5X z3s] _)) ?_
              intro zf7 znc
              refine WL.pu rfl (WL.pu rfl ?_)
              refine WL.y7D (fun (z9x : zS)=>z4o z9x z8a.2) (fun (z9x : zS)=>[(0,(.func (.yield z4n) #[] #[])),(1,(.pointer (some z5q))),(16,(.slice z8c z1Q.length z8d)),(17,(.int .i64 ((z1Q.length : Nat) : Int))),(18,(.int .i64 z2S)),(27,(.slice (some ⟨ziO,0,none⟩) z1K.1.length z72)),(28,(.int .i64 ((z1K.1.length : Nat) : Int))),(29,(.int .i64 z21)),(46,(.bool z8a.1))]) (fun (z9x : zS)=>[z1C z9x z8a.2,stb zuA 30 [(.int .i64 ((nth z1K.1 z21).fN)),(.int .i64 ((nth z1K.1 z21).fD))],fz (z3N ++ zd5),row (.slice (some ⟨ziO,0,none⟩) z1K.1.length z72) 30 2 (z1K.1.flatMap e30)]) 7 ?_ (fun z9x znd=>?_)
              · rcases Bool.eq_false_or_eq_true (!z5R.1) with hb' | hb'
                · have zne:=hb'; clear hb'
                  have ziP:=ye znb zne
                  replace ziP:=Option.some.inj ziP
                  refine WL.pin (i:=39) rfl zne ?_
                  refine WL.e rfl rfl rfl (WL.e rfl rfl rfl (WL.e rfl rfl rfl (WL.e rfl rfl rfl (WL.e rfl rfl rfl (WL.e rfl rfl rfl (WL.pu rfl ?_))))))
                  subst ziP
                  exact WL.yF zf7 znc (.cons rfl (.cons rfl (.cons rfl (.cons rfl (.cons rfl (.cons rfl (.cons rfl (.cons rfl (.cons rfl .nil))))))))) (.cons .here (.cons .here (.cons .here (.cons .here .nil))))
                · have znf:=hb'; clear hb'
                  have z73:=yf znb znf
                  obtain ⟨zn2,zuE,z73⟩:=z8 z73
                  obtain ⟨ziA,zuF,z73⟩:=z8 z73
                  obtain ⟨zcZ,zuG,z73⟩:=z8 z73
                  replace z73:=Option.some.inj z73
                  refine WL.pin (i:=39) rfl znf ?_
                  refine WL.pu rfl ?_
                  refine WL.a (d:=41) rfl rfl rfl (y7 y4 rfl (y6 .h1) rfl) ?_
                  refine WL.b (dd:=42) rfl rfl rfl (ze (l:=[.tmp 41]) Try.call71 (.cons rfl .nil)) .nil (ccz hz .nil .h2 fun w pz ho=>y5G _ _ _ zuE w pz ) ?_
                  refine WL.b (dd:=43) rfl rfl rfl (ze (l:=[.tmp 42]) Try.call65 (.cons rfl .nil)) .nil (ccz hz .nil .h2 fun w pz ho=>y1M _ _ _ zuF w pz ) ?_
                  refine WL.yield (dd:=44) (x:=ziA) (h:=()) (g:=zf7) (s:=z5R.2) (b:=zcZ.1) (s':=zcZ.2) zd4 rfl rfl rfl (.cons rfl .nil) ((.cons .here .nil) : Sel _ [z1C zf7 z5R.2] _) zuG znc (fun w hw=>hz.call hw ((.cons .here .nil) : Sel _ [z1C zf7 z5R.2] _)) ?_
                  intro zuH zuI
                  refine WL.pu rfl (WL.pu rfl ?_)
                  subst z73
                  exact WL.yF zuH zuI (.cons rfl (.cons rfl (.cons rfl (.cons rfl (.cons rfl (.cons rfl (.cons rfl (.cons rfl (.cons rfl .nil))))))))) (.cons .here (.cons .here (.cons .here (.cons .here .nil))))
              · skip
                refine WL.nil (WX.a ?_)
                refine WC.cond rfl (fun ziQ=>?_) (fun ziQ=>?_)
                · replace h:=ye h ziQ
                  refine WC.ret (WX.yl (WX.y5 (WX.y5 (WX.yl (WX.y5 (WX.yl (WX.y5 (WX.y5 (WX.yl (WX.y5 ?_))))))))))
                  obtain rfl:=Option.some.inj h
                  refine WX.y8 Try.results69 .nil (fun w hw=>?_)
                  exact ⟨(z3N ++ zd5),z9x,y5p,znd,hw.sub (.cons .h2 (.cons .here .nil))⟩
                · replace h:=yf h ziQ
                  refine WC.skip (WX.yg (WX.a (WC.a (WL.pu rfl (WL.pu rfl (WL.nil ?_))))))
                  exact WX.round (G:=Nat × Int × zh × Option Addr × Nat × zS) ⟨ziy,(i64 (z21 + 1)),z8a.2,(some ⟨ziO,0,none⟩),z72,z9x⟩ ⟨h,znd⟩ (Nat.lt_succ_self _) (.cons rfl (.cons rfl (.cons rfl (.cons rfl (.cons rfl (.cons rfl (.cons rfl (.cons rfl .nil)))))))) (.cons .h2 (.cons .h2 (.cons .here .nil)))
            · replace h:=yf h ziN
              refine WC.exit (WX.yd (WX.yd (WX.yt ?_)))
              exact WX.mid (G:=zh × zS) ⟨z3s,z5X⟩ ⟨h,zna⟩ (.cons rfl (.cons rfl (.cons rfl (.cons rfl (.cons rfl .nil))))) (.cons .here (.cons .h1 .nil))
          · rintro z5T zbk ⟨h,zuJ⟩
            replace h:=(zuz z5T).symm.trans h
            refine WX.yg ?_
            exact WX.mid (G:=zh × Zp × zS) ⟨z5T,(z3N ++ zd5),zbk⟩ ⟨h,((Zle.left _ _).trans (Zle.yi _ _ _)),zuJ⟩ (.cons rfl (.cons rfl (.cons rfl (.cons rfl (.cons rfl .nil))))) (.cons .here (.cons .here .nil))
        · rintro z5S zbi zbj ⟨h,zuK,zuL⟩
          replace h:=(zus z5S).symm.trans h
          refine WC.a (WL.pu rfl (WL.pu rfl (WL.nil ?_)))
          exact WX.round (G:=Nat × Int × zh × Zp × zS) ⟨ziB,(i64 (z2S + 1)),z5S,zbi,zbj⟩ ⟨h,(zf6.trans zuK),zuL⟩ (Nat.lt_succ_self _) (.cons rfl (.cons rfl (.cons rfl (.cons rfl (.cons rfl .nil))))) (.cons .here (.cons .here .nil))
      · replace h:=yf h ziM
        refine WC.exit (WX.yd (WX.yd (WX.yt ?_)))
        exact WX.mid (G:=zh × Zp × zS) ⟨z41,z3N,z8e⟩ ⟨h,zf6,zn9⟩ (.cons rfl (.cons rfl .nil)) (.cons .here (.cons .here .nil))
    · rintro z5V z5r zbg ⟨h,zng,zuM⟩
      replace h:=(zur z5V).symm.trans h
      refine WC.b (WC.a ?_)
      refine WL.a (d:=49) rfl rfl rfl (y3 ya6 rfl rfl) ?_
      refine WL.a (d:=50) rfl rfl rfl (yb y3s rfl (y1I (hz.pv2 .here) (zn5.mono ((Zle.left _ _).trans zng)) rfl)) ?_
      refine WL.a (d:=51) rfl rfl rfl (y1c Try.underlying77 rfl) ?_
      refine WL.pu rfl (WL.nil (WX.a ?_))
      obtain ⟨z6Z,zuN,h⟩:=y1n h
      refine WC.y5Q (fun (z71 : zh) (zbn : zS)=>(z6Z z71 = some r) ∧ (z4o zbn z71)) (fun (z71 : zh) (zbn : zS)=>[]) (fun (z71 : zh) (zbn : zS)=>[fz z5r,z1C zbn z71]) ?_ ?_
      · skip
        refine WC.block ?_
        refine WC.y3Y (fun (zbo : Nat) (z2z : Int) (z3t : zh) (z5Y : zS)=>(yE zh z23 z1B z6Z zbo z2z z3t = some r) ∧ (z4o z5Y z3t)) (fun (zbo : Nat) (z2z : Int) (z3t : zh) (z5Y : zS)=>[(0,(.func (.yield z4n) #[] #[])),(50,(.slice zd2 z23.length zd3)),(51,(.int .i64 ((z23.length : Nat) : Int))),(52,(.int .i64 z2z))]) (fun (zbo : Nat) (z2z : Int) (z3t : zh) (z5Y : zS)=>[fz z5r,z1C z5Y z3t]) (fun (zbo : Nat) (z2z : Int) (z3t : zh) (z5Y : zS)=>zbo) ⟨ys,0,z5V,zbg⟩ ⟨h,zuM⟩ (.cons rfl (.cons rfl (.cons rfl (.cons rfl .nil)))) (.cons .here (.cons .here .nil)) ?_
        rintro zbo z2z z3t z5Y ⟨h,znh⟩
        obtain ⟨ziD,rfl⟩:=y4b h
        rw [yE] at h
        refine WC.b (WC.a (WL.pu rfl (WL.nil (WX.a (WC.b ?_)))))
        refine WC.cond rfl (fun ziR=>?_) (fun ziR=>?_)
        · replace h:=ye h ziR
          refine WC.skip (WX.a (WC.b (WC.block (WC.b ?_))))
          obtain ⟨zuO,h⟩:=yk h
          refine WC.a ?_
          refine WL.znth (dd:=54) rfl rfl (Z:=(Z ++ z5r)) (Pr:=(fun r x=>r = e30 x)) y1B rfl rfl (zuo.mono ((Zle.left _ _).trans zng)) zuO ?_
          rintro zAk zAl zuP zAm rfl
          refine WL.a (d:=55) rfl rfl rfl (y7 y4 rfl (y2R (hz.pv2 .here) zuP) rfl) ?_
          refine WL.new (dd:=10) rfl rfl rfl (yh (cs:=[(.int .i64 0),(.int .i64 0)]) ym rfl) ?_
          intro zuQ _
          refine WL.ya rfl rfl (y9 yj rfl rfl rfl .here rfl rfl rfl) ?_
          refine WL.nil (WX.a (WC.b ?_))
          obtain ⟨zn3,zuR,h⟩:=z8 h
          obtain ⟨ziE,zuS,h⟩:=z8 h
          obtain ⟨z5U,zuT,h⟩:=z8 h
          obtain ⟨z8b,zni,h⟩:=z8 h
          refine WC.a (WL.pu rfl ?_)
          refine WL.a (d:=57) rfl rfl rfl (y7 y4 rfl (y6 .here) rfl) ?_
          refine WL.b (dd:=58) rfl rfl rfl (ze (l:=[.tmp 57]) Try.call70 (.cons rfl .nil)) .nil (ccz hz .nil .h1 fun w pz ho=>y4k _ _ _ zuR w pz ) ?_
          refine WL.b (dd:=59) rfl rfl rfl (ze (l:=[.tmp 58]) Try.call65 (.cons rfl .nil)) .nil (ccz hz .nil .h1 fun w pz ho=>y1M _ _ _ zuS w pz ) ?_
          refine WL.yield (dd:=60) (x:=ziE) (h:=()) (g:=z5Y) (s:=z3t) (b:=z5U.1) (s':=z5U.2) zd4 rfl rfl rfl (.cons rfl .nil) ((.cons .h2 .nil) : Sel _ [z1C z5Y z3t] _) zuT znh (fun w hw=>hz.call hw ((.cons .h2 .nil) : Sel _ [z1C z5Y z3t] _)) ?_
          intro zf8 znj
          refine WL.pu rfl (WL.pu rfl ?_)
          refine WL.y7D (fun (z9y : zS)=>z4o z9y z8b.2) (fun (z9y : zS)=>[(0,(.func (.yield z4n) #[] #[])),(50,(.slice zd2 z23.length zd3)),(51,(.int .i64 ((z23.length : Nat) : Int))),(52,(.int .i64 z2z)),(69,(.bool z8b.1))]) (fun (z9y : zS)=>[z1C z9y z8b.2,stb zuQ 30 [(.int .i64 ((nth z23 z2z).fN)),(.int .i64 ((nth z23 z2z).fD))],fz z5r]) 7 ?_ (fun z9y znk=>?_)
          · rcases Bool.eq_false_or_eq_true (!z5U.1) with hb' | hb'
            · have znl:=hb'; clear hb'
              have ziS:=ye zni znl
              replace ziS:=Option.some.inj ziS
              refine WL.pin (i:=62) rfl znl ?_
              refine WL.e rfl rfl rfl (WL.e rfl rfl rfl (WL.e rfl rfl rfl (WL.e rfl rfl rfl (WL.e rfl rfl rfl (WL.e rfl rfl rfl (WL.pu rfl ?_))))))
              subst ziS
              exact WL.yF zf8 znj (.cons rfl (.cons rfl (.cons rfl (.cons rfl (.cons rfl .nil))))) (.cons .here (.cons .here (.cons .here .nil)))
            · have znm:=hb'; clear hb'
              have z74:=yf zni znm
              obtain ⟨zn4,zuU,z74⟩:=z8 z74
              obtain ⟨ziF,zuV,z74⟩:=z8 z74
              obtain ⟨zd0,zuW,z74⟩:=z8 z74
              replace z74:=Option.some.inj z74
              refine WL.pin (i:=62) rfl znm ?_
              refine WL.pu rfl ?_
              refine WL.a (d:=64) rfl rfl rfl (y7 y4 rfl (y6 .h1) rfl) ?_
              refine WL.b (dd:=65) rfl rfl rfl (ze (l:=[.tmp 64]) Try.call71 (.cons rfl .nil)) .nil (ccz hz .nil .h2 fun w pz ho=>y5G _ _ _ zuU w pz ) ?_
              refine WL.b (dd:=66) rfl rfl rfl (ze (l:=[.tmp 65]) Try.call65 (.cons rfl .nil)) .nil (ccz hz .nil .h2 fun w pz ho=>y1M _ _ _ zuV w pz ) ?_
              refine WL.yield (dd:=67) (x:=ziF) (h:=()) (g:=zf8) (s:=z5U.2) (b:=zd0.1) (s':=zd0.2) zd4 rfl rfl rfl (.cons rfl .nil) ((.cons .here .nil) : Sel _ [z1C zf8 z5U.2] _) zuW znj (fun w hw=>hz.call hw ((.cons .here .nil) : Sel _ [z1C zf8 z5U.2] _)) ?_
              intro zuX zuY
              refine WL.pu rfl (WL.pu rfl ?_)
              subst z74
              exact WL.yF zuX zuY (.cons rfl (.cons rfl (.cons rfl (.cons rfl (.cons rfl .nil))))) (.cons .here (.cons .here (.cons .here .nil)))
          · skip
            refine WL.nil (WX.a ?_)
            refine WC.cond rfl (fun ziT=>?_) (fun ziT=>?_)
            · replace h:=ye h ziT
              refine WC.ret (WX.yl (WX.y5 (WX.y5 (WX.yl (WX.y5 ?_)))))
              obtain rfl:=Option.some.inj h
              refine WX.y8 Try.results69 .nil (fun w hw=>?_)
              exact ⟨z5r,z9y,y5p,znk,hw.sub (.cons .h2 (.cons .here .nil))⟩
            · replace h:=yf h ziT
              refine WC.skip (WX.yg (WX.a (WC.a (WL.pu rfl (WL.pu rfl (WL.nil ?_))))))
              exact WX.round (G:=Nat × Int × zh × zS) ⟨ziD,(i64 (z2z + 1)),z8b.2,z9y⟩ ⟨h,znk⟩ (Nat.lt_succ_self _) (.cons rfl (.cons rfl (.cons rfl (.cons rfl .nil)))) (.cons .h2 (.cons .here .nil))
        · replace h:=yf h ziR
          refine WC.exit (WX.yd (WX.yd (WX.yt ?_)))
          exact WX.mid (G:=zh × zS) ⟨z3t,z5Y⟩ ⟨h,znh⟩ .nil (.cons .here (.cons .here .nil))
      · rintro z71 zbn ⟨h,zuZ⟩
        replace h:=(zuN z71).symm.trans h
        obtain rfl:=Option.some.inj h
        refine WX.y4i Try.results69 .nil (fun w hw=>?_)
        exact ⟨z5r,zbn,y5p,zuZ,hw.sub (.cons .here (.cons .here .nil))⟩
def y2w (z8f : zX) (z4p : z2) (zd7 : List (List z1)) (z3O : zSv) : Option (z2 × zX) :=
  (y1X z8f zd7 z4p).bind fun z9z=>(yQ z4p z3O.fLatency).bind fun znn=>if decide (znn ≤ 0) then some (z9z.1,z9z.2) else (y10 z9z.2 (fun (y0 : z2) (y1 : z2)=>y1y y0 y1) z4p z3O.fLatency).bind fun ziU=>(y10 ziU.2 (fun (y0 : z2) (y1 : z2)=>y3h y0 y1) z3O.fR ziU.1).bind fun ziV=>(y10 ziV.2 (fun (y0 : z2) (y1 : z2)=>y1y y0 y1) z9z.1 ziV.1).bind fun ziW=>some (ziW.1,ziW.2)
set_option maxRecDepth 20000 in
theorem y73 (Z : Zp) (z75 : Nat) (zf9 : Addr) (zno : Option Addr) (znp : Nat) (zfa : Addr) (z8f : zX) (z4p : z2) (zd7 : List (List z1)) (z3O : zSv) (r : z2 × zX)
     (h : y2w z8f z4p zd7 z3O = some r) (w₀ : World) (hz : PZ (fps [stb z75 98 [(.int .i64 z8f.fE)]]) w₀ Z)
     (zv0 : ZS Z 1 (p39 Z) zno znp zd7)
     (zv1 : ZC Z zf9 [(.slice zno zd7.length znp)])
     (ziX : ZC Z zfa [(.int .i64 z3O.fR.fN),(.int .i64 z3O.fR.fD),(.int .i64 z3O.fLatency.fN),(.int .i64 z3O.fLatency.fD)])
    (hown : Hp (fps [stb z75 98 [(.int .i64 z8f.fE)]]) w₀ w₀ [stb z75 98 [(.int .i64 z8f.fE)]]) :
    Calls Try.prog 37 #[(.pointer (some ⟨z75,0,none⟩)),(.agg #[(.int .i64 z4p.fN),(.int .i64 z4p.fD)]),(.pointer (some zf9)),(.pointer (some zfa))] w₀ fun e w'=>e = .returned (.agg #[(.int .i64 r.1.fN),(.int .i64 r.1.fD)]) ∧ Hp (fps [stb z75 98 [(.int .i64 z8f.fE)]]) w₀ w' [stb z75 98 [(.int .i64 r.2.fE)]]:=by
  unfold y2w at h
  refine Calls.yc (vs:=[(.pointer (some ⟨z75,0,none⟩)),(.agg #[(.int .i64 z4p.fN),(.int .i64 z4p.fD)]),(.pointer (some zf9)),(.pointer (some zfa))]) (pre:=[stb z75 98 [(.int .i64 z8f.fE)]]) (env:=[(0,(.pointer (some ⟨z75,0,none⟩))),(1,(.agg #[(.int .i64 z4p.fN),(.int .i64 z4p.fD)])),(2,(.pointer (some zf9))),(3,(.pointer (some zfa)))]) Try.func37 rfl Try.ntmps37 rfl (hown) rfl ?_
  refine WC.b (WC.a ?_)
  refine WL.new (dd:=5) rfl rfl rfl (yI (cs:=[(.int .i64 z4p.fN),(.int .i64 z4p.fD)]) rfl rfl) ?_
  intro zAn _
  refine WL.new (dd:=6) rfl rfl rfl (yh (cs:=[(.int .i64 0),(.int .i64 0)]) ym rfl) ?_
  intro zAo _
  refine WL.nil (WX.a (WC.b ?_))
  obtain ⟨z9z,zv2,h⟩:=z8 h
  refine WC.a (WL.pu rfl ?_)
  refine WL.a (d:=9) rfl rfl rfl (yb y2L rfl (y4P hz.pv zv1 rfl)) ?_
  refine WL.a (d:=10) rfl rfl rfl (y7 y4 rfl (y6 .h1) rfl) ?_
  refine WL.b (dd:=11) rfl rfl rfl (ze (l:=[.tmp 8,.tmp 9,.tmp 10]) Try.call35 (.cons rfl (.cons rfl (.cons rfl .nil)))) (.cons .h2 .nil) (cc hz (.cons .h2 .nil) fun w pz ho=>y4F _ _ _ _ _ _ _ _ zv2 w pz zv0 ho) ?_
  refine WL.new (dd:=7) rfl rfl rfl (yh (cs:=[(.int .i64 0),(.int .i64 0)]) ym rfl) ?_
  intro zv3 _
  refine WL.ya rfl rfl (y9 yj rfl rfl rfl .here rfl rfl rfl) ?_
  refine WL.nil (WX.a (WC.b (WC.b ?_)))
  obtain ⟨znn,zv4,h⟩:=z8 h
  refine WC.a ?_
  refine WL.a (d:=12) rfl rfl rfl (y7 y4 rfl (y6 .h3) rfl) ?_
  refine WL.a (d:=13) rfl rfl rfl (y3 y53 rfl rfl) ?_
  refine WL.a (d:=14) rfl rfl rfl (yv (cs:=[(.int .i64 z3O.fLatency.fN),(.int .i64 z3O.fLatency.fD)]) y4 rfl rfl (y6L (off:=2) (s:=2) hz.pv ziX rfl)) ?_
  refine WL.b (dd:=15) rfl rfl rfl (ze (l:=[.tmp 12,.tmp 14]) Try.call18 (.cons rfl (.cons rfl .nil))) .nil (cc hz .nil fun w pz ho=>y1Y _ _ _ _ zv4 w pz ) ?_
  refine WL.pu rfl (WL.nil (WX.a ?_))
  refine WC.cond rfl (fun ziY=>?_) (fun ziY=>?_)
  · replace h:=ye h ziY
    refine WC.b (WC.a ?_)
    refine WL.a (d:=17) rfl rfl rfl (y7 y4 rfl (y6 .here) rfl) ?_
    refine WL.ya rfl rfl (y9 yj rfl rfl rfl .h2 rfl rfl rfl) ?_
    refine WL.nil (WX.a (WC.ret (WX.y5 ?_)))
    obtain rfl:=Option.some.inj h
    refine WX.y8 Try.results37 (.agg rfl y4 rfl (y6 .here) .nil) (fun w hw=>?_)
    exact ⟨yG rfl,hw.sub (.cons .h2 .nil)⟩
  · replace h:=yf h ziY
    refine WC.skip (WX.a (WC.b ?_))
    obtain ⟨ziU,zv5,h⟩:=z8 h
    obtain ⟨ziV,zv6,h⟩:=z8 h
    obtain ⟨ziW,zv7,h⟩:=z8 h
    refine WC.y1g (fun i=>[9,10,11,12].contains i) [stb zv3 30 [(.int .i64 z9z.1.fN),(.int .i64 z9z.1.fD)]] rfl ?_
    refine WD.a (i:=0) (d:=18) (by kernel_rfl) rfl (z6 (by kernel_rfl)) (z7 (by kernel_rfl)) rfl rfl rfl (fun _=>q_m rfl) ?_
    refine WD.y2k (i:=1) (d:=19) (by kernel_rfl) rfl (z6 (by kernel_rfl)) (z7 (by kernel_rfl)) rfl rfl rfl (Sin.of (.cons .here .nil)) (y7 y4 rfl (y6 .here) rfl) ?_
    refine WD.a (i:=2) (d:=20) (by kernel_rfl) rfl (z6 (by kernel_rfl)) (z7 (by kernel_rfl)) rfl rfl rfl (fun _=>q_m rfl) ?_
    refine WD.a (i:=3) (d:=21) (by kernel_rfl) rfl (z6 (by kernel_rfl)) (z7 (by kernel_rfl)) rfl rfl rfl (fun _=>y3 y52 rfl rfl) ?_
    refine WD.y2k (i:=4) (d:=22) (by kernel_rfl) rfl (z6 (by kernel_rfl)) (z7 (by kernel_rfl)) rfl rfl rfl (Sin.of (.cons .here .nil)) (yv (cs:=[(.int .i64 z3O.fR.fN),(.int .i64 z3O.fR.fD)]) y4 rfl rfl (y6L (off:=0) (s:=2) hz.pv ziX rfl)) ?_
    refine WD.a (i:=5) (d:=23) (by kernel_rfl) rfl (z6 (by kernel_rfl)) (z7 (by kernel_rfl)) rfl rfl rfl (fun _=>q_m rfl) ?_
    refine WD.e (i:=6) (d:=24) (by kernel_rfl) rfl (z6 (by kernel_rfl)) (z7 (by kernel_rfl)) rfl rfl rfl (y7 y4 rfl (y6 .h3) rfl) ?_
    refine WD.a (i:=7) (d:=25) (by kernel_rfl) rfl (z6 (by kernel_rfl)) (z7 (by kernel_rfl)) rfl rfl rfl (fun _=>y3 y53 rfl rfl) ?_
    refine WD.e (i:=8) (d:=26) (by kernel_rfl) rfl (z6 (by kernel_rfl)) (z7 (by kernel_rfl)) rfl rfl rfl (yv (cs:=[(.int .i64 z3O.fLatency.fN),(.int .i64 z3O.fLatency.fD)]) y4 rfl rfl (y6L (off:=2) (s:=2) hz.pv ziX rfl)) ?_
    refine WD.call0 (i:=9) (dd:=27) rfl (by kernel_rfl) rfl rfl rfl (.inl ⟨rfl,(Sin.of (.cons .h1 .nil))⟩) (ze (l:=[.tmp 23,.func 24,.tmp 24,.tmp 26]) Try.call33 (.cons rfl (.cons rfl (.cons rfl (.cons rfl .nil))))) (.cons .h1 .nil) (cc hz (.cons .h1 .nil) fun w pz ho=>Calls.mono (y1z _ _ (z3m:=24) (z3U:=[]) _ (z4f:=(fun (y0 : z2) (y1 : z2)=>y1y y0 y1)) _ _ _ zv5 w pz Try.call24 (fun w' hz' y0 y1  r  hr=>y5j _ _ _ _ hr w' hz' ) ho) (fun _ _ h'=>⟨h'.1,trivial,h'.2⟩)) ?_
    intro _
    refine WD.call0 (i:=10) (dd:=28) rfl (by kernel_rfl) rfl rfl rfl (.inl ⟨rfl,(Sin.of (.cons .h1 .nil))⟩) (ze (l:=[.tmp 20,.func 25,.tmp 22,.tmp 27]) Try.call33 (.cons rfl (.cons rfl (.cons rfl (.cons rfl .nil))))) (.cons .here .nil) (cc hz (.cons .here .nil) fun w pz ho=>Calls.mono (y1z _ _ (z3m:=25) (z3U:=[]) _ (z4f:=(fun (y0 : z2) (y1 : z2)=>y3h y0 y1)) _ _ _ zv6 w pz Try.call25 (fun w' hz' y0 y1  r  hr=>y92 _ _ _ _ hr w' hz' ) ho) (fun _ _ h'=>⟨h'.1,trivial,h'.2⟩)) ?_
    intro _
    refine WD.call0 (i:=11) (dd:=29) rfl (by kernel_rfl) rfl rfl rfl (.inl ⟨rfl,(Sin.of (.cons .h1 .nil))⟩) (ze (l:=[.tmp 18,.func 24,.tmp 19,.tmp 28]) Try.call33 (.cons rfl (.cons rfl (.cons rfl (.cons rfl .nil))))) (.cons .here .nil) (cc hz (.cons .here .nil) fun w pz ho=>Calls.mono (y1z _ _ (z3m:=24) (z3U:=[]) _ (z4f:=(fun (y0 : z2) (y1 : z2)=>y1y y0 y1)) _ _ _ zv7 w pz Try.call24 (fun w' hz' y0 y1  r  hr=>y5j _ _ _ _ hr w' hz' ) ho) (fun _ _ h'=>⟨h'.1,trivial,h'.2⟩)) ?_
    intro _
    refine WD.y4V (i:=12) rfl (by kernel_rfl) rfl rfl rfl (by kernel_rfl) (y9 yj rfl rfl rfl .h2 rfl rfl rfl) ?_
    refine WD.done (by kernel_rfl) ?_
    refine WX.a (WC.ret ?_)
    obtain rfl:=Option.some.inj h
    refine WX.y8 Try.results37 (.agg rfl y4 rfl (y6 .here) .nil) (fun w hw=>?_)
    exact ⟨yG rfl,hw.sub (.cons .h1 .nil)⟩
def y11 (z4q : List (List z1)) (z3P : zSv) (z78 : z2) (z2F : List z2) (zfb : Int) : Option (Bool × (Nat × List z2 × Int)) :=
  (y2w (⟨zfb⟩ : zX) z78 z4q z3P).bind fun z4r=>(if decide (((z2F.length : Nat) : Int) = 0) then some true else chk ((0 : Int) ≤ 0 ∧ 0 < ((z2F.length : Nat) : Int)) ((yQ z4r.1 (⟨((nth z2F 0).fN),((nth z2F 0).fD)⟩ : z2)).bind fun znq=>some (decide (znq > 0)))).bind fun ziZ=>if ziZ then some (true,(0,([z4r.1] : List z2),z4r.2.fE)) else some (true,(0,z2F,z4r.2.fE))
def y2H (zM : List (List z1)) (zl : zSv) (z4q : List (List z1)) (z3P : zSv) (zN : List z2) : Option (z2 × Int) :=
  (y21 zM zl z4q z3P zN).bind fun zd8=>if decide (zd8 ≠ 0) then some ((⟨0,0⟩ : z2),zd8) else jp2 (fun (z5Z : Int) (z42 : List z2)=>if decide (z5Z ≠ 0) then some ((⟨0,0⟩ : z2),z5Z) else chk ((0 : Int) ≤ 0 ∧ 0 < ((z42.length : Nat) : Int)) (some ((⟨((nth z42 0).fN),((nth z42 0).fD)⟩ : z2),0))) fun zj0=>(y2o zM zl z4q z3P zN).bind fun zt=>(y1J (Nat × List z2 × Int) (fun (x : z2) (s : Nat × List z2 × Int)=>chk (s.1 = 0) (y11 z4q z3P x s.2.1 s.2.2)) (0,([] : List z2),0) zM (⟨(⟨zt.1,zt.2.1⟩ : z2),(⟨zt.2.2.1,zt.2.2.2⟩ : z2)⟩ : zSv) z4q z3P zN).bind fun z2T=>zj0 z2T.2.2 z2T.2.1
set_option maxRecDepth 20000 in
theorem y6F (Z : Zp) (z12 : Option Addr) (z13 : Nat) (zV : Addr) (zj1 : Option Addr) (zj2 : Nat) (zW : Addr) (z14 : Option Addr) (z15 : Nat) (zM : List (List z1)) (zl : zSv) (z4q : List (List z1)) (z3P : zSv) (zN : List z2) (r : z2 × Int)
     (h : y2H zM zl z4q z3P zN = some r) (w₀ : World) (hz : PZ [] w₀ Z)
     (zj3 : ZS Z 1 (p39 Z) z12 z13 zM)
     (zfc : ZS Z 1 (p39 Z) zj1 zj2 z4q)
     (zfd : ZC Z zV [(.slice zj1 z4q.length zj2)])
     (zfe : ZC Z zW [(.int .i64 z3P.fR.fN),(.int .i64 z3P.fR.fD),(.int .i64 z3P.fLatency.fN),(.int .i64 z3P.fLatency.fD)])
     (zj4 : ZS Z 2 (fun r x=>r = e30 x) z14 z15 zN) :
    Calls Try.prog 36 #[(.agg #[(.slice z12 zM.length z13),(.int .i64 zl.fR.fN),(.int .i64 zl.fR.fD),(.int .i64 zl.fLatency.fN),(.int .i64 zl.fLatency.fD),(.func (.func 37) #[] #[(.pointer (some zV)),(.pointer (some zW))]),(.slice z14 zN.length z15)])] w₀ fun e w'=>∃ Zn : Zp,e = .returned (.tuple #[(.agg #[(.int .i64 r.1.fN),(.int .i64 r.1.fD)]),(.int .i64 r.2)]) ∧ True ∧ Hp [] w₀ w' [fz Zn]:=by
  unfold y2H at h
  refine Calls.y6D (vs:=[(.agg #[(.slice z12 zM.length z13),(.int .i64 zl.fR.fN),(.int .i64 zl.fR.fD),(.int .i64 zl.fLatency.fN),(.int .i64 zl.fLatency.fD),(.func (.func 37) #[] #[(.pointer (some zV)),(.pointer (some zW))]),(.slice z14 zN.length z15)])]) (pre:=[]) (env:=[(0,(.agg #[(.slice z12 zM.length z13),(.int .i64 zl.fR.fN),(.int .i64 zl.fR.fD),(.int .i64 zl.fLatency.fN),(.int .i64 zl.fLatency.fD),(.func (.func 37) #[] #[(.pointer (some zV)),(.pointer (some zW))]),(.slice z14 zN.length z15)]))]) Try.func36 rfl Try.ntmps36 rfl (Hp.nil w₀ _) rfl ?_
  refine WC.pool (WC.b (WC.a ?_))
  refine WL.new (dd:=1) rfl rfl rfl (yI (cs:=[(.slice z12 zM.length z13),(.int .i64 zl.fR.fN),(.int .i64 zl.fR.fD),(.int .i64 zl.fLatency.fN),(.int .i64 zl.fLatency.fD),(.func (.func 37) #[] #[(.pointer (some zV)),(.pointer (some zW))]),(.slice z14 zN.length z15)]) rfl rfl) ?_
  intro z2A _
  refine WL.new (dd:=2) rfl rfl rfl (yh (cs:=[(.int .i64 0),(.int .i64 0)]) ym rfl) ?_
  intro z2G _
  refine WL.pu rfl (WL.nil (WX.a (WC.b (WC.b ?_))))
  obtain ⟨zd8,zv8,h⟩:=z8 h
  refine WC.a ?_
  refine WL.a (d:=9) rfl rfl rfl (y7 y5R rfl (y6 .h1) rfl) ?_
  refine WL.y2l (dd:=10) rfl rfl rfl (ze (l:=[.tmp 9]) Try.call52 (.cons rfl .nil)) .nil (ccz hz .nil .h2 fun w pz ho=>y6b _ _ _ _ _ _ _ _ _ _ _ _ _ _ _ zv8 w pz ((zj3.mono (Zle.left _ _)).weak (fun _ _ h=>yo (Zle.left _ _) h)) ((zfc.mono (Zle.left _ _)).weak (fun _ _ h=>yo (Zle.left _ _) h)) (zfd.mono (Zle.left _ _)) (zfe.mono (Zle.left _ _)) (zj4.mono (Zle.left _ _))) ?_
  rintro z3Q _
  refine WL.merge .here .h2 ?_
  refine WL.pu rfl (WL.nil (WX.a (WC.b (WC.a (WL.pu rfl (WL.pu rfl (WL.nil (WX.a ?_))))))))
  refine WC.cond rfl (fun zj5=>?_) (fun zj5=>?_)
  · replace h:=ye h zj5
    refine WC.b (WC.a ?_)
    refine WL.a (d:=13) rfl rfl rfl (yV (v:=(.agg #[(.int .i64 0),(.int .i64 0)])) (Eos.parts (l:=[]) .nil []) (fun _=>by kernel_rfl)) ?_
    refine WL.pu rfl ?_
    refine WL.ya rfl rfl (y9 yj rfl rfl rfl .h1 rfl rfl rfl) ?_
    refine WL.pu rfl (WL.nil (WX.a (WC.ret (WX.y5 ?_))))
    obtain rfl:=Option.some.inj h
    refine WX.y7n Try.results36 (.agg rfl y4 rfl (y6 .here) (.tmp rfl .nil)) (fun w hw=>?_)
    exact ⟨([] ++ z3Q),y1H rfl rfl,trivial,hw.sub (.cons .h1 .nil)⟩
  · replace h:=yf h zj5
    refine WC.skip (WX.a (WC.b (WC.a ?_)))
    refine WL.new (dd:=5) rfl rfl rfl (yh (cs:=[(.int .i64 0)]) y70 rfl) ?_
    intro z24 _
    refine WL.nil (WX.a (WC.b (WC.a ?_)))
    refine WL.new (dd:=6) rfl rfl rfl (yh (cs:=[(.slice none 0 0)]) y89 rfl) ?_
    intro z2h _
    refine WL.nil (WX.a ?_)
    obtain ⟨zj0,zv9,h⟩:=y3B h
    refine WC.y6E (fun (zd9 : Nat) (z5Z : Int) (z42 : List z2) (z9A : Zp) (zda : Option Addr) (zdb : Nat)=>(zj0 z5Z z42 = some r) ∧ (Zle (Z ++ ([] ++ z3Q)) (Z ++ z9A))) (fun (zd9 : Nat) (z5Z : Int) (z42 : List z2) (z9A : Zp) (zda : Option Addr) (zdb : Nat)=>[(2,(.pointer (some ⟨z2G,0,none⟩))),(5,(.pointer (some ⟨z24,0,none⟩))),(6,(.pointer (some ⟨z2h,0,none⟩)))]) (fun (zd9 : Nat) (z5Z : Int) (z42 : List z2) (z9A : Zp) (zda : Option Addr) (zdb : Nat)=>[fz z9A,stb z2G 30 [(.int .i64 0),(.int .i64 0)],stb z24 98 [(.int .i64 z5Z)],stb z2h 77 [(.slice zda z42.length zdb)],row (.slice zda z42.length zdb) 30 2 (z42.flatMap e30),dfr zd9]) ?_ ?_
    · skip
      refine WC.b ?_
      obtain ⟨zt,zva,h⟩:=z8 h
      refine WC.a ?_
      refine WL.a (d:=15) rfl rfl rfl (y7 y5R rfl (y6 .h4) rfl) ?_
      refine WL.y2l (dd:=16) rfl rfl rfl (ze (l:=[.tmp 15]) Try.call53 (.cons rfl .nil)) .nil (ccz hz .nil .h2 fun w pz ho=>y5I _ _ _ _ _ _ _ _ _ _ _ _ _ _ _ zva w pz ((zj3.mono ((Zle.left _ _).trans ((Zle.left _ _).trans (Zle.yi _ _ _)))).weak (fun _ _ h=>yo ((Zle.left _ _).trans ((Zle.left _ _).trans (Zle.yi _ _ _))) h)) ((zfc.mono ((Zle.left _ _).trans ((Zle.left _ _).trans (Zle.yi _ _ _)))).weak (fun _ _ h=>yo ((Zle.left _ _).trans ((Zle.left _ _).trans (Zle.yi _ _ _))) h)) (zfd.mono ((Zle.left _ _).trans ((Zle.left _ _).trans (Zle.yi _ _ _)))) (zfe.mono ((Zle.left _ _).trans ((Zle.left _ _).trans (Zle.yi _ _ _)))) (zj4.mono ((Zle.left _ _).trans ((Zle.left _ _).trans (Zle.yi _ _ _))))) ?_
      rintro z32 _
      refine WL.nil (WX.a (WC.block (WC.pool ?_)))
      refine WC.drop (.cons .here (.cons .h1 (.cons .h1 (.cons .h2 (.cons .h2 (.cons .here (.cons .here .nil))))))) ?_
      refine WC.nilRow 30 2 ?_
      refine WC.rangeFunc (f:=69) (caps:=[(.pointer (some ⟨z32,0,none⟩))]) rfl Try.call69 ?_
      intro zAp zAq z2U z43 z3f zff zvb zvc w hw
      have hw1:=hw.selAll ((.cons .h3 (.cons .h3 (.cons .h2 (.cons .h2 (.cons .h2 (.cons .h2 (.cons .here .nil))))))) : Sel _ [fz [],stb z2h 77 [(.slice none (([] : List z2).length) 0)],row (.slice none (([] : List z2).length) 0) 30 2 (([] : List z2).flatMap e30),stb z24 98 [(.int .i64 0)],stb z2G 30 [(.int .i64 0),(.int .i64 0)],stb z2A 79 [(.slice z12 zM.length z13),(.int .i64 zl.fR.fN),(.int .i64 zl.fR.fD),(.int .i64 zl.fLatency.fN),(.int .i64 zl.fLatency.fD),(.func (.func 37) #[] #[(.pointer (some zV)),(.pointer (some zW))]),(.slice z14 zN.length z15)],blk z2U (z3f .ready none)] _)
      have pz:=(hz.call2 hw1 ((.cons .here .nil) : Sel [y1v [fz [],stb z2h 77 [(.slice none (([] : List z2).length) 0)],row (.slice none (([] : List z2).length) 0) 30 2 (([] : List z2).flatMap e30),stb z24 98 [(.int .i64 0)],stb z2G 30 [(.int .i64 0),(.int .i64 0)],stb z2A 79 [(.slice z12 zM.length z13),(.int .i64 zl.fR.fN),(.int .i64 zl.fR.fD),(.int .i64 zl.fLatency.fN),(.int .i64 zl.fLatency.fD),(.func (.func 37) #[] #[(.pointer (some zV)),(.pointer (some zW))]),(.slice z14 zN.length z15)],blk z2U (z3f .ready none)],dfr z43,stb z32 79 [(.slice z12 zM.length z13),(.int .i64 zt.1),(.int .i64 zt.2.1),(.int .i64 zt.2.2.1),(.int .i64 zt.2.2.2),(.func (.func 37) #[] #[(.pointer (some zV)),(.pointer (some zW))]),(.slice z14 zN.length z15)],fz ([] ++ z3Q)] [y1v [fz [],stb z2h 77 [(.slice none (([] : List z2).length) 0)],row (.slice none (([] : List z2).length) 0) 30 2 (([] : List z2).flatMap e30),stb z24 98 [(.int .i64 0)],stb z2G 30 [(.int .i64 0),(.int .i64 0)],stb z2A 79 [(.slice z12 zM.length z13),(.int .i64 zl.fR.fN),(.int .i64 zl.fR.fD),(.int .i64 zl.fLatency.fN),(.int .i64 zl.fLatency.fD),(.func (.func 37) #[] #[(.pointer (some zV)),(.pointer (some zW))]),(.slice z14 zN.length z15)],blk z2U (z3f .ready none)]] [dfr z43,stb z32 79 [(.slice z12 zM.length z13),(.int .i64 zt.1),(.int .i64 zt.2.1),(.int .i64 zt.2.2.1),(.int .i64 zt.2.2.2),(.func (.func 37) #[] #[(.pointer (some zV)),(.pointer (some zW))]),(.slice z14 zN.length z15)],fz ([] ++ z3Q)]) .h2).lend hw1 ((.cons .here .nil) : Sel [y1v [fz [],stb z2h 77 [(.slice none (([] : List z2).length) 0)],row (.slice none (([] : List z2).length) 0) 30 2 (([] : List z2).flatMap e30),stb z24 98 [(.int .i64 0)],stb z2G 30 [(.int .i64 0),(.int .i64 0)],stb z2A 79 [(.slice z12 zM.length z13),(.int .i64 zl.fR.fN),(.int .i64 zl.fR.fD),(.int .i64 zl.fLatency.fN),(.int .i64 zl.fLatency.fD),(.func (.func 37) #[] #[(.pointer (some zV)),(.pointer (some zW))]),(.slice z14 zN.length z15)],blk z2U (z3f .ready none)],dfr z43,stb z32 79 [(.slice z12 zM.length z13),(.int .i64 zt.1),(.int .i64 zt.2.1),(.int .i64 zt.2.2.1),(.int .i64 zt.2.2.2),(.func (.func 37) #[] #[(.pointer (some zV)),(.pointer (some zW))]),(.slice z14 zN.length z15)],fz ([] ++ z3Q)] [y1v [fz [],stb z2h 77 [(.slice none (([] : List z2).length) 0)],row (.slice none (([] : List z2).length) 0) 30 2 (([] : List z2).flatMap e30),stb z24 98 [(.int .i64 0)],stb z2G 30 [(.int .i64 0),(.int .i64 0)],stb z2A 79 [(.slice z12 zM.length z13),(.int .i64 zl.fR.fN),(.int .i64 zl.fR.fD),(.int .i64 zl.fLatency.fN),(.int .i64 zl.fLatency.fD),(.func (.func 37) #[] #[(.pointer (some zV)),(.pointer (some zW))]),(.slice z14 zN.length z15)],blk z2U (z3f .ready none)]] [dfr z43,stb z32 79 [(.slice z12 zM.length z13),(.int .i64 zt.1),(.int .i64 zt.2.1),(.int .i64 zt.2.2.1),(.int .i64 zt.2.2.2),(.func (.func 37) #[] #[(.pointer (some zV)),(.pointer (some zW))]),(.slice z14 zN.length z15)],fz ([] ++ z3Q)]) (B:=[stb z32 79 [(.slice z12 zM.length z13),(.int .i64 zt.1),(.int .i64 zt.2.1),(.int .i64 zt.2.2.1),(.int .i64 zt.2.2.2),(.func (.func 37) #[] #[(.pointer (some zV)),(.pointer (some zW))]),(.slice z14 zN.length z15)]]) (fun _ hx'=>((.cons .h1 .nil) : Sel _ [stb z32 79 [(.slice z12 zM.length z13),(.int .i64 zt.1),(.int .i64 zt.2.1),(.int .i64 zt.2.2.1),(.int .i64 zt.2.2.2),(.func (.func 37) #[] #[(.pointer (some zV)),(.pointer (some zW))]),(.slice z14 zN.length z15)]] _).mem hx')
      obtain ⟨z2T,zvd,h⟩:=z8 h
      refine Calls.mono (y5l (Z:=_) (z4n:=z2U) (zS:=(Option Addr × Nat)) (z1C:=(fun (g : Option Addr × Nat) (s : Nat × List z2 × Int)=>y1v ([fz [],stb z2h 77 [(.slice g.1 s.2.1.length g.2)],row (.slice g.1 s.2.1.length g.2) 30 2 (s.2.1.flatMap e30),stb z24 98 [(.int .i64 s.2.2)],stb z2G 30 [(.int .i64 0),(.int .i64 0)],stb z2A 79 [(.slice z12 zM.length z13),(.int .i64 zl.fR.fN),(.int .i64 zl.fR.fD),(.int .i64 zl.fLatency.fN),(.int .i64 zl.fLatency.fD),(.func (.func 37) #[] #[(.pointer (some zV)),(.pointer (some zW))]),(.slice z14 zN.length z15)]] ++ [blk z2U (z3f (rdy (pcs [] s.1)) (pcs [] s.1))]))) (z4o:=(fun (g : Option Addr × Nat) (s : Nat × List z2 × Int)=>True)) (z5W:=(none,0)) (z5q:=⟨z32,0,none⟩) (z8c:=z12) (z8d:=z13) (ziH:=zV) (ziI:=zj1) (ziJ:=zj2) (ziK:=zW) (zd2:=z14) (zd3:=z15) (zh:=(Nat × List z2 × Int)) (z1B:=(fun (x : z2) (s : Nat × List z2 × Int)=>chk (s.1 = 0) (y11 z4q z3P x s.2.1 s.2.2))) (s0_29980:=(0,([] : List z2),0)) (z1Q:=zM) (z9u:=(⟨(⟨zt.1,zt.2.1⟩ : z2),(⟨zt.2.2.1,zt.2.2.2⟩ : z2)⟩ : zSv)) (zd1:=z4q) (z9v:=z3P) (z23:=zN) (r:=z2T) w pz ?_ trivial ((((zj3.mono ((Zle.left _ _).trans ((Zle.left _ _).trans (Zle.yi _ _ _)))).weak (fun _ _ h=>yo ((Zle.left _ _).trans ((Zle.left _ _).trans (Zle.yi _ _ _))) h)).mono (Zle.left _ _)).weak (fun _ _ h=>yo (Zle.left _ _) h)) ((((zfc.mono ((Zle.left _ _).trans ((Zle.left _ _).trans (Zle.yi _ _ _)))).weak (fun _ _ h=>yo ((Zle.left _ _).trans ((Zle.left _ _).trans (Zle.yi _ _ _))) h)).mono (Zle.left _ _)).weak (fun _ _ h=>yo (Zle.left _ _) h)) ((zfd.mono ((Zle.left _ _).trans ((Zle.left _ _).trans (Zle.yi _ _ _)))).mono (Zle.left _ _)) ((zfe.mono ((Zle.left _ _).trans ((Zle.left _ _).trans (Zle.yi _ _ _)))).mono (Zle.left _ _)) ((zj4.mono ((Zle.left _ _).trans ((Zle.left _ _).trans (Zle.yi _ _ _)))).mono (Zle.left _ _)) ((hw1.lent ((.cons .here .nil) : Sel [y1v [fz [],stb z2h 77 [(.slice none (([] : List z2).length) 0)],row (.slice none (([] : List z2).length) 0) 30 2 (([] : List z2).flatMap e30),stb z24 98 [(.int .i64 0)],stb z2G 30 [(.int .i64 0),(.int .i64 0)],stb z2A 79 [(.slice z12 zM.length z13),(.int .i64 zl.fR.fN),(.int .i64 zl.fR.fD),(.int .i64 zl.fLatency.fN),(.int .i64 zl.fLatency.fD),(.func (.func 37) #[] #[(.pointer (some zV)),(.pointer (some zW))]),(.slice z14 zN.length z15)],blk z2U (z3f .ready none)],dfr z43,stb z32 79 [(.slice z12 zM.length z13),(.int .i64 zt.1),(.int .i64 zt.2.1),(.int .i64 zt.2.2.1),(.int .i64 zt.2.2.2),(.func (.func 37) #[] #[(.pointer (some zV)),(.pointer (some zW))]),(.slice z14 zN.length z15)],fz ([] ++ z3Q)] [y1v [fz [],stb z2h 77 [(.slice none (([] : List z2).length) 0)],row (.slice none (([] : List z2).length) 0) 30 2 (([] : List z2).flatMap e30),stb z24 98 [(.int .i64 0)],stb z2G 30 [(.int .i64 0),(.int .i64 0)],stb z2A 79 [(.slice z12 zM.length z13),(.int .i64 zl.fR.fN),(.int .i64 zl.fR.fD),(.int .i64 zl.fLatency.fN),(.int .i64 zl.fLatency.fD),(.func (.func 37) #[] #[(.pointer (some zV)),(.pointer (some zW))]),(.slice z14 zN.length z15)],blk z2U (z3f .ready none)]] [dfr z43,stb z32 79 [(.slice z12 zM.length z13),(.int .i64 zt.1),(.int .i64 zt.2.1),(.int .i64 zt.2.2.1),(.int .i64 zt.2.2.2),(.func (.func 37) #[] #[(.pointer (some zV)),(.pointer (some zW))]),(.slice z14 zN.length z15)],fz ([] ++ z3Q)]) (B:=[stb z32 79 [(.slice z12 zM.length z13),(.int .i64 zt.1),(.int .i64 zt.2.1),(.int .i64 zt.2.2.1),(.int .i64 zt.2.2.2),(.func (.func 37) #[] #[(.pointer (some zV)),(.pointer (some zW))]),(.slice z14 zN.length z15)]]) (fun _ hx'=>((.cons .h1 .nil) : Sel _ [stb z32 79 [(.slice z12 zM.length z13),(.int .i64 zt.1),(.int .i64 zt.2.1),(.int .i64 zt.2.2.1),(.int .i64 zt.2.2.2),(.func (.func 37) #[] #[(.pointer (some zV)),(.pointer (some zW))]),(.slice z14 zN.length z15)]] _).mem hx') (.head _) _).stb) zvd (hw1.owns ((.cons .here .nil) : Sel [y1v [fz [],stb z2h 77 [(.slice none (([] : List z2).length) 0)],row (.slice none (([] : List z2).length) 0) 30 2 (([] : List z2).flatMap e30),stb z24 98 [(.int .i64 0)],stb z2G 30 [(.int .i64 0),(.int .i64 0)],stb z2A 79 [(.slice z12 zM.length z13),(.int .i64 zl.fR.fN),(.int .i64 zl.fR.fD),(.int .i64 zl.fLatency.fN),(.int .i64 zl.fLatency.fD),(.func (.func 37) #[] #[(.pointer (some zV)),(.pointer (some zW))]),(.slice z14 zN.length z15)],blk z2U (z3f .ready none)],dfr z43,stb z32 79 [(.slice z12 zM.length z13),(.int .i64 zt.1),(.int .i64 zt.2.1),(.int .i64 zt.2.2.1),(.int .i64 zt.2.2.2),(.func (.func 37) #[] #[(.pointer (some zV)),(.pointer (some zW))]),(.slice z14 zN.length z15)],fz ([] ++ z3Q)] [y1v [fz [],stb z2h 77 [(.slice none (([] : List z2).length) 0)],row (.slice none (([] : List z2).length) 0) 30 2 (([] : List z2).flatMap e30),stb z24 98 [(.int .i64 0)],stb z2G 30 [(.int .i64 0),(.int .i64 0)],stb z2A 79 [(.slice z12 zM.length z13),(.int .i64 zl.fR.fN),(.int .i64 zl.fR.fD),(.int .i64 zl.fLatency.fN),(.int .i64 zl.fLatency.fD),(.func (.func 37) #[] #[(.pointer (some zV)),(.pointer (some zW))]),(.slice z14 zN.length z15)],blk z2U (z3f .ready none)]] [dfr z43,stb z32 79 [(.slice z12 zM.length z13),(.int .i64 zt.1),(.int .i64 zt.2.1),(.int .i64 zt.2.2.1),(.int .i64 zt.2.2.2),(.func (.func 37) #[] #[(.pointer (some zV)),(.pointer (some zW))]),(.slice z14 zN.length z15)],fz ([] ++ z3Q)]))) ?_
      · skip
        refine y7m (LI:=(fun (g : Option Addr × Nat) (s : Nat × List z2 × Int)=>[fz [],stb z2h 77 [(.slice g.1 s.2.1.length g.2)],row (.slice g.1 s.2.1.length g.2) 30 2 (s.2.1.flatMap e30),stb z24 98 [(.int .i64 s.2.2)],stb z2G 30 [(.int .i64 0),(.int .i64 0)],stb z2A 79 [(.slice z12 zM.length z13),(.int .i64 zl.fR.fN),(.int .i64 zl.fR.fD),(.int .i64 zl.fLatency.fN),(.int .i64 zl.fLatency.fD),(.func (.func 37) #[] #[(.pointer (some zV)),(.pointer (some zW))]),(.slice z14 zN.length z15)]])) (pc:=(fun (s : Nat × List z2 × Int)=>pcs [] s.1)) zff zvb zvc (fun _ _=>rfl) (by decide) ?_
        rintro z78 _ ⟨zbp,zbq⟩ ⟨zve,z2F,zfb⟩ zvf zvg Fb wb znr _ hz
        replace hz:=hz.left
        letI : Rnd:=inR z2U
        obtain ⟨hp0,z4s⟩:=yk znr
        replace hp0 : zve = 0:=hp0; subst hp0; clear znr
        replace z4s : y11 z4q z3P z78 z2F zfb = some (zvf,zvg):=z4s
        unfold y11 at z4s
        refine WC.restr (env':=[(1,(.pointer (some ⟨z2A,0,none⟩))),(12,(.bool (decide (zd8 ≠ 0)))),(5,(.pointer (some ⟨z24,0,none⟩))),(6,(.pointer (some ⟨z2h,0,none⟩))),(17,(.agg #[(.int .i64 z78.fN),(.int .i64 z78.fD)]))]) (.cons rfl (.cons rfl (.cons rfl (.cons rfl (.cons rfl .nil))))) ?_
        refine WC.eqL (L':=[fz [],stb z2h 77 [(.slice zbp z2F.length zbq)],row (.slice zbp z2F.length zbq) 30 2 (z2F.flatMap e30),stb z24 98 [(.int .i64 zfb)],stb z2G 30 [(.int .i64 0),(.int .i64 0)],stb z2A 79 [(.slice z12 zM.length z13),(.int .i64 zl.fR.fN),(.int .i64 zl.fR.fD),(.int .i64 zl.fLatency.fN),(.int .i64 zl.fLatency.fD),(.func (.func 37) #[] #[(.pointer (some zV)),(.pointer (some zW))]),(.slice z14 zN.length z15)],blk z2U (z3f .ready none)]) rfl ?_
        refine WC.a ?_
        refine WL.new (dd:=7) rfl rfl rfl (yh (cs:=[(.int .i64 0),(.int .i64 0)]) ym rfl) ?_
        intro zvh _
        refine WL.ya rfl rfl (y9 yj rfl rfl rfl .here rfl rfl rfl) ?_
        refine WL.nil ?_
        refine WX.y84 zff .h7 ?_
        refine WC.block (WC.b ?_)
        obtain ⟨z4r,zvi,z4s⟩:=z8 z4s
        refine WC.a ?_
        refine WL.a (d:=18) rfl rfl rfl (y3 y7L rfl rfl) ?_
        refine WL.a (d:=19) rfl rfl rfl (yb ya7 rfl (yq .h7 rfl)) ?_
        refine WL.a (d:=20) rfl rfl rfl (y7 y4 rfl (y6 .h1) rfl) ?_
        refine WL.b (dd:=21) rfl rfl rfl (y1R (l:=[.tmp 5,.tmp 20]) Try.call37 rfl (.cons rfl (.cons rfl .nil))) (.cons .h5 .nil) (ccz hz (.cons .h5 .nil) .h2 fun w pz ho=>y73 _ _ _ _ _ _ _ _ _ _ _ zvi w pz ((zfc.mono ((Zle.left _ _).trans ((Zle.left _ _).trans ((Zle.yi _ _ _).trans (Zle.left _ _))))).weak (fun _ _ h=>yo ((Zle.left _ _).trans ((Zle.left _ _).trans ((Zle.yi _ _ _).trans (Zle.left _ _)))) h)) (zfd.mono ((Zle.left _ _).trans ((Zle.left _ _).trans ((Zle.yi _ _ _).trans (Zle.left _ _))))) (zfe.mono ((Zle.left _ _).trans ((Zle.left _ _).trans ((Zle.yi _ _ _).trans (Zle.left _ _))))) ho) ?_
        refine WL.new (dd:=8) rfl rfl rfl (yh (cs:=[(.int .i64 0),(.int .i64 0)]) ym rfl) ?_
        intro zvj _
        refine WL.ya rfl rfl (y9 yj rfl rfl rfl .here rfl rfl rfl) ?_
        refine WL.nil (WX.a (WC.b ?_))
        obtain ⟨ziZ,zns,z4s⟩:=z8 z4s
        refine WC.y1g (fun i=>[].contains i) [] rfl ?_
        refine WD.e (i:=0) (d:=22) (by kernel_rfl) rfl (z6 (by kernel_rfl)) (z7 (by kernel_rfl)) rfl rfl rfl (yb y3s rfl (yq .h5 rfl)) ?_
        refine WD.a (i:=1) (d:=23) (by kernel_rfl) rfl (z6 (by kernel_rfl)) (z7 (by kernel_rfl)) rfl rfl rfl (fun _=>y1c Try.underlying77 rfl) ?_
        refine WD.a (i:=2) (d:=24) (by kernel_rfl) rfl (z6 (by kernel_rfl)) (z7 (by kernel_rfl)) rfl rfl rfl (fun _=>y8j rfl rfl) ?_
        refine WD.a (i:=3) (d:=25) (by kernel_rfl) rfl (z6 (by kernel_rfl)) (z7 (by kernel_rfl)) rfl rfl rfl (fun _=>q_m rfl) ?_
        refine WD.mid (fuel':=0) [(1,(.pointer (some ⟨z2A,0,none⟩))),(12,(.bool (decide (zd8 ≠ 0)))),(5,(.pointer (some ⟨z24,0,none⟩))),(6,(.pointer (some ⟨z2h,0,none⟩))),(17,(.agg #[(.int .i64 z78.fN),(.int .i64 z78.fD)])),(7,(.pointer (some ⟨zvh,0,none⟩))),(18,(.pointer (some ⟨z2A,5,none⟩))),(19,(.func (.func 37) #[] #[(.pointer (some zV)),(.pointer (some zW))])),(20,(.agg #[(.int .i64 z78.fN),(.int .i64 z78.fD)])),(21,(.agg #[(.int .i64 z4r.1.fN),(.int .i64 z4r.1.fD)])),(8,(.pointer (some ⟨zvj,0,none⟩))),(22,(.slice zbp z2F.length zbq)),(23,(.int .i64 ((z2F.length : Nat) : Int))),(24,(.bool (decide (((z2F.length : Nat) : Int) = 0)))),(25,(.bool (decide (((z2F.length : Nat) : Int) = 0)))),(32,(.bool ziZ))] (y1h 11 [10,9,8,7,6,5,4,3,2,1,0]) ?_ (fun znt=>?_)
        rotate_left
        · rcases Bool.eq_false_or_eq_true (decide (((z2F.length : Nat) : Int) = 0)) with hb' | hb'
          · have zj6:=hb'; clear hb'
            have zj7:=ye zns zj6
            replace zj7:=Option.some.inj zj7
            refine WD.pin (i:=25) rfl zj6 ?_
            refine WD.b (i:=4) (d:=26) (by kernel_rfl) rfl (z6 (by kernel_rfl)) (z7 (by kernel_rfl)) rfl rfl rfl ?_
            refine WD.b (i:=5) (d:=27) (by kernel_rfl) rfl (z6 (by kernel_rfl)) (z7 (by kernel_rfl)) rfl rfl rfl ?_
            refine WD.b (i:=6) (d:=28) (by kernel_rfl) rfl (z6 (by kernel_rfl)) (z7 (by kernel_rfl)) rfl rfl rfl ?_
            refine WD.b (i:=7) (d:=29) (by kernel_rfl) rfl (z6 (by kernel_rfl)) (z7 (by kernel_rfl)) rfl rfl rfl ?_
            refine WD.b (i:=8) (d:=30) (by kernel_rfl) rfl (z6 (by kernel_rfl)) (z7 (by kernel_rfl)) rfl rfl rfl ?_
            refine WD.b (i:=9) (d:=31) (by kernel_rfl) rfl (z6 (by kernel_rfl)) (z7 (by kernel_rfl)) rfl rfl rfl ?_
            refine WD.a (i:=10) (d:=32) (by kernel_rfl) rfl (z6 (by kernel_rfl)) (z7 (by kernel_rfl)) rfl rfl rfl (fun _=>y22 rfl rfl) ?_
            refine WD.yA (.cons .here (.cons .here (.cons .here (.cons .here (.cons .here (.cons .here (.cons .here (.cons .here (.cons .here .nil))))))))) ?_ znt
            exact (.cons rfl (.cons rfl (.cons rfl (.cons rfl (.cons rfl (.cons rfl (.cons rfl (.cons rfl (.cons rfl (.cons rfl (.cons rfl (.cons rfl (.cons rfl (.cons rfl (.cons (zn (Eq.symm zj6)) (.cons (zn zj7) .nil))))))))))))))))
          · have zj8:=hb'; clear hb'
            have z9B:=yf zns zj8
            obtain ⟨zdc,z9B⟩:=yk z9B
            obtain ⟨znq,zvk,z9B⟩:=z8 z9B
            replace z9B:=Option.some.inj z9B
            refine WD.pin (i:=25) rfl zj8 ?_
            refine WD.e (i:=4) (d:=26) (by kernel_rfl) rfl (z6 (by kernel_rfl)) (z7 (by kernel_rfl)) rfl rfl rfl (y7 y4 rfl (y6 .here) rfl) ?_
            refine WD.e (i:=5) (d:=27) (by kernel_rfl) rfl (z6 (by kernel_rfl)) (z7 (by kernel_rfl)) rfl rfl rfl (yb y3s rfl (yq .h5 rfl)) ?_
            refine WD.know (fun w hw=>Hp.y3Z .h6 hw (by intro hz'; have:=zdc; rw [hz'] at this; omega)) ?_
            rintro ⟨zAr,rfl⟩
            refine WD.a (i:=6) (d:=28) (by kernel_rfl) rfl (z6 (by kernel_rfl)) (z7 (by kernel_rfl)) rfl rfl rfl (fun _=>y19 y1B rfl rfl zdc.1 zdc.2 y3b) ?_
            refine WD.e (i:=7) (d:=29) (by kernel_rfl) rfl (z6 (by kernel_rfl)) (z7 (by kernel_rfl)) rfl rfl rfl (yv (cs:=(e30 (nth z2F 0))) y4 rfl rfl (y2T .h6 (y3q (enc:=e30) (l:=z2F) (i:=0) (sz:=2) (fun _=>rfl) zdc.1 zdc.2))) ?_
            refine WD.c (i:=8) (d:=30) (by kernel_rfl) rfl (z6 (by kernel_rfl)) (z7 (by kernel_rfl)) rfl rfl rfl (ze (l:=[.tmp 26,.tmp 29]) Try.call18 (.cons rfl (.cons rfl .nil))) (ccz hz .nil .h4 fun w pz ho=>y1Y _ _ _ _ zvk w pz ) ?_
            refine WD.a (i:=9) (d:=31) (by kernel_rfl) rfl (z6 (by kernel_rfl)) (z7 (by kernel_rfl)) rfl rfl rfl (fun _=>y6V rfl rfl) ?_
            refine WD.a (i:=10) (d:=32) (by kernel_rfl) rfl (z6 (by kernel_rfl)) (z7 (by kernel_rfl)) rfl rfl rfl (fun _=>y23 rfl rfl) ?_
            refine WD.yA (.cons .here (.cons .here (.cons .here (.cons .here (.cons .here (.cons .here (.cons .here (.cons .here (.cons .here .nil))))))))) ?_ znt
            exact (.cons rfl (.cons rfl (.cons rfl (.cons rfl (.cons rfl (.cons rfl (.cons rfl (.cons rfl (.cons rfl (.cons rfl (.cons rfl (.cons rfl (.cons rfl (.cons rfl (.cons (zn (Eq.symm zj8)) (.cons (zn z9B) .nil))))))))))))))))
        refine WD.done (by kernel_rfl) ?_
        refine WX.a ?_
        refine WC.cond rfl (fun zj9=>?_) (fun zj9=>?_)
        · replace z4s:=ye z4s zj9
          refine WC.a ?_
          refine WL.a (d:=33) rfl rfl rfl (y7 y4 rfl (y6 .here) rfl) ?_
          refine WL.new (dd:=34) rfl rfl rfl (yp (cs:=([z4r.1] : List z2).flatMap e30) y1B (Eos.parts (l:=[.tmp 33]) (.cons rfl .nil) [0]) (fun _=>by kernel_rfl) rfl (by unfold maxLen; omega)) ?_
          intro zja _
          refine WL.ya rfl rfl (y9 y8K rfl rfl rfl .h6 rfl rfl rfl) ?_
          refine WL.nil (WX.yg ?_)
          obtain ⟨rfl,rfl⟩:=y6M z4s
          exact WX.y46 zff .h4 (fun w' hw'=>⟨((some ⟨zja,0,none⟩),1),rfl,trivial,(hw'.selAll ((.cons .h6 (.cons .h1 (.cons .h1 (.cons .h2 (.cons .h4 (.cons .h4 (.cons .here .nil))))))) : Sel _ [fz [],stb z2h 77 [(.slice (some ⟨zja,0,none⟩) (([z4r.1] : List z2).length) 1)],row (.slice (some ⟨zja,0,none⟩) (([z4r.1] : List z2).length) 1) 30 2 (([z4r.1] : List z2).flatMap e30),stb z24 98 [(.int .i64 z4r.2.fE)],stb z2G 30 [(.int .i64 0),(.int .i64 0)],stb z2A 79 [(.slice z12 zM.length z13),(.int .i64 zl.fR.fN),(.int .i64 zl.fR.fD),(.int .i64 zl.fLatency.fN),(.int .i64 zl.fLatency.fD),(.func (.func 37) #[] #[(.pointer (some zV)),(.pointer (some zW))]),(.slice z14 zN.length z15)],blk z2U (z3f .ready none)] _)).sub (.cons .here .nil)⟩)
        · replace z4s:=yf z4s zj9
          refine WC.skip (WX.yg ?_)
          obtain ⟨rfl,rfl⟩:=y6M z4s
          exact WX.y46 zff .h2 (fun w' hw'=>⟨(zbp,zbq),rfl,trivial,(hw'.selAll ((.cons .h4 (.cons .h4 (.cons .h4 (.cons .h2 (.cons .h3 (.cons .h3 (.cons .here .nil))))))) : Sel _ [fz [],stb z2h 77 [(.slice zbp z2F.length zbq)],row (.slice zbp z2F.length zbq) 30 2 (z2F.flatMap e30),stb z24 98 [(.int .i64 z4r.2.fE)],stb z2G 30 [(.int .i64 0),(.int .i64 0)],stb z2A 79 [(.slice z12 zM.length z13),(.int .i64 zl.fR.fN),(.int .i64 zl.fR.fD),(.int .i64 zl.fLatency.fN),(.int .i64 zl.fLatency.fD),(.func (.func 37) #[] #[(.pointer (some zV)),(.pointer (some zW))]),(.slice z14 zN.length z15)],blk z2U (z3f .ready none)] _)).sub (.cons .here .nil)⟩)
      · skip
        rintro _ w' ⟨zvl,⟨zdd,zde⟩,rfl,_,hp⟩
        have hp1:=hw1.call ((.cons .here .nil) : Sel [y1v [fz [],stb z2h 77 [(.slice none (([] : List z2).length) 0)],row (.slice none (([] : List z2).length) 0) 30 2 (([] : List z2).flatMap e30),stb z24 98 [(.int .i64 0)],stb z2G 30 [(.int .i64 0),(.int .i64 0)],stb z2A 79 [(.slice z12 zM.length z13),(.int .i64 zl.fR.fN),(.int .i64 zl.fR.fD),(.int .i64 zl.fLatency.fN),(.int .i64 zl.fLatency.fD),(.func (.func 37) #[] #[(.pointer (some zV)),(.pointer (some zW))]),(.slice z14 zN.length z15)],blk z2U (z3f .ready none)],dfr z43,stb z32 79 [(.slice z12 zM.length z13),(.int .i64 zt.1),(.int .i64 zt.2.1),(.int .i64 zt.2.2.1),(.int .i64 zt.2.2.2),(.func (.func 37) #[] #[(.pointer (some zV)),(.pointer (some zW))]),(.slice z14 zN.length z15)],fz ([] ++ z3Q)] [y1v [fz [],stb z2h 77 [(.slice none (([] : List z2).length) 0)],row (.slice none (([] : List z2).length) 0) 30 2 (([] : List z2).flatMap e30),stb z24 98 [(.int .i64 0)],stb z2G 30 [(.int .i64 0),(.int .i64 0)],stb z2A 79 [(.slice z12 zM.length z13),(.int .i64 zl.fR.fN),(.int .i64 zl.fR.fD),(.int .i64 zl.fLatency.fN),(.int .i64 zl.fLatency.fD),(.func (.func 37) #[] #[(.pointer (some zV)),(.pointer (some zW))]),(.slice z14 zN.length z15)],blk z2U (z3f .ready none)]] [dfr z43,stb z32 79 [(.slice z12 zM.length z13),(.int .i64 zt.1),(.int .i64 zt.2.1),(.int .i64 zt.2.2.1),(.int .i64 zt.2.2.2),(.func (.func 37) #[] #[(.pointer (some zV)),(.pointer (some zW))]),(.slice z14 zN.length z15)],fz ([] ++ z3Q)]) hp
        have hp2 : Hp _ _ w' [fz [],stb z2h 77 [(.slice zdd z2T.2.1.length zde)],row (.slice zdd z2T.2.1.length zde) 30 2 (z2T.2.1.flatMap e30),stb z24 98 [(.int .i64 z2T.2.2)],stb z2G 30 [(.int .i64 0),(.int .i64 0)],stb z2A 79 [(.slice z12 zM.length z13),(.int .i64 zl.fR.fN),(.int .i64 zl.fR.fD),(.int .i64 zl.fLatency.fN),(.int .i64 zl.fLatency.fD),(.func (.func 37) #[] #[(.pointer (some zV)),(.pointer (some zW))]),(.slice z14 zN.length z15)],blk z2U (z3f (rdy (pcs [] z2T.1)) (pcs [] z2T.1)),fz zvl,dfr z43,stb z32 79 [(.slice z12 zM.length z13),(.int .i64 zt.1),(.int .i64 zt.2.1),(.int .i64 zt.2.2.1),(.int .i64 zt.2.2.2),(.func (.func 37) #[] #[(.pointer (some zV)),(.pointer (some zW))]),(.slice z14 zN.length z15)],fz ([] ++ z3Q)]:=hp1.pickAll .h1
        refine ⟨_,pcs [] z2T.1,_,rfl,(hp2.sub ((.cons .h6 (.cons .here (.cons .here (.cons .here (.cons .here (.cons .here (.cons .here (.cons .h1 (.cons .h1 (.cons .h1 .nil)))))))))) : Sel _ [blk z2U (z3f (rdy (pcs [] z2T.1)) (pcs [] z2T.1)),fz [],stb z2h 77 [(.slice zdd z2T.2.1.length zde)],row (.slice zdd z2T.2.1.length zde) 30 2 (z2T.2.1.flatMap e30),stb z24 98 [(.int .i64 z2T.2.2)],stb z2G 30 [(.int .i64 0),(.int .i64 0)],stb z2A 79 [(.slice z12 zM.length z13),(.int .i64 zl.fR.fN),(.int .i64 zl.fR.fD),(.int .i64 zl.fLatency.fN),(.int .i64 zl.fLatency.fD),(.func (.func 37) #[] #[(.pointer (some zV)),(.pointer (some zW))]),(.slice z14 zN.length z15)],dfr z43,stb z32 79 [(.slice z12 zM.length z13),(.int .i64 zt.1),(.int .i64 zt.2.1),(.int .i64 zt.2.2.1),(.int .i64 zt.2.2.2),(.func (.func 37) #[] #[(.pointer (some zV)),(.pointer (some zW))]),(.slice z14 zN.length z15)],fz ([] ++ z3Q)] _)),?_⟩
        clear hp hp1 hp2 pz hw hw1
        refine wjN ?_
        letI : Rnd:=aft z43
        refine WX.merge .here .h7 ?_
        refine WX.yg ?_
        exact WX.midR (D:=fun (g : Nat × Int × List z2 × Zp × Option Addr × Nat)=>g.1) (G:=Nat × Int × List z2 × Zp × Option Addr × Nat) ⟨z43,z2T.2.2,z2T.2.1,(([] ++ z3Q) ++ []),zdd,zde⟩ ⟨h,((Zle.left _ _).trans (Zle.yi _ _ _))⟩ (.cons rfl (.cons rfl (.cons rfl .nil))) (.cons .here (.cons .h3 (.cons .h2 (.cons .here (.cons .here (.cons .h1 .nil))))))
    · rintro zd9 z5Z z42 z9A zda zdb ⟨h,zAs⟩
      replace h:=(zv9 z5Z z42).symm.trans h
      letI : Rnd:=aft zd9
      refine WC.b (WC.b (WC.a ?_))
      refine WL.a (d:=35) rfl rfl rfl (y3 y33 rfl rfl) ?_
      refine WL.a (d:=36) rfl rfl rfl (yb y2B rfl (yq .h2 rfl)) ?_
      refine WL.pu rfl (WL.nil (WX.a ?_))
      refine WC.cond rfl (fun zjb=>?_) (fun zjb=>?_)
      · replace h:=ye h zjb
        refine WC.b ?_
        refine WC.y1g (fun i=>[3].contains i) [stbp z24 98 [(0,(.int .i64 z5Z))]] rfl ?_
        refine WD.a (i:=0) (d:=38) (by kernel_rfl) rfl (z6 (by kernel_rfl)) (z7 (by kernel_rfl)) rfl rfl rfl (fun _=>yV (v:=(.agg #[(.int .i64 0),(.int .i64 0)])) (Eos.parts (l:=[]) .nil []) (fun _=>by kernel_rfl)) ?_
        refine WD.a (i:=1) (d:=39) (by kernel_rfl) rfl (z6 (by kernel_rfl)) (z7 (by kernel_rfl)) rfl rfl rfl (fun _=>y3 y33 rfl rfl) ?_
        refine WD.y2k (i:=2) (d:=40) (by kernel_rfl) rfl (z6 (by kernel_rfl)) (z7 (by kernel_rfl)) rfl rfl rfl (Sin.wk (.cons .h2 .nil) (.stb (.cons rfl .nil) .nil)) (yb y2B rfl (y7G .here (.head _))) ?_
        refine WD.forced0 (i:=3) rfl (by kernel_rfl) rfl rfl rfl (Sin.wk (.cons .h2 .nil) (.stb (.cons rfl .nil) .nil)) (y9 yj rfl rfl rfl .h1 rfl rfl rfl) ?_
        refine WD.a (i:=4) (d:=3) (by kernel_rfl) rfl (z6 (by kernel_rfl)) (z7 (by kernel_rfl)) rfl rfl rfl (fun _=>q_z rfl) ?_
        refine WD.done (by kernel_rfl) ?_
        refine WX.a (WC.ret (WX.y5 ?_))
        obtain rfl:=Option.some.inj h
        refine WX.y4B .h5 Try.results36 (.agg rfl y4 rfl (y6 .h1) (.tmp rfl .nil)) (fun w hw=>?_)
        exact ⟨z9A,y1H rfl rfl,trivial,hw.sub (.cons .h2 .nil)⟩
      · replace h:=yf h zjb
        refine WC.skip (WX.a (WC.b ?_))
        obtain ⟨zdf,h⟩:=yk h
        refine WC.a ?_
        refine WL.a (d:=41) rfl rfl rfl (yb y3s rfl (yq .h3 rfl)) ?_
        refine WL.know (fun w hw=>Hp.y3Z .h4 hw (by intro hz'; have:=zdf; rw [hz'] at this; omega)) ?_
        rintro ⟨zAt,rfl⟩
        refine WL.a (d:=42) rfl rfl rfl (y19 y1B rfl rfl zdf.1 zdf.2 y3b) ?_
        refine WL.a (d:=43) rfl rfl rfl (yv (cs:=(e30 (nth z42 0))) y4 rfl rfl (y2T .h4 (y3q (enc:=e30) (l:=z42) (i:=0) (sz:=2) (fun _=>rfl) zdf.1 zdf.2))) ?_
        refine WL.ya rfl rfl (y9 yj rfl rfl rfl .h1 rfl rfl rfl) ?_
        refine WL.pu rfl (WL.nil (WX.a (WC.ret ?_)))
        obtain rfl:=Option.some.inj h
        refine WX.y4B .h5 Try.results36 (.agg rfl y4 rfl (y6 .h1) (.tmp rfl .nil)) (fun w hw=>?_)
        exact ⟨z9A,y1H rfl rfl,trivial,hw.sub (.cons .h2 .nil)⟩
def yC (z5s : List (List z1)) (z1d : zSv) : Option (z2 × Int) :=
  (y2H z5s z1d z5s z1d ([z1d.fLatency] : List z2)).bind fun zjc=>some (zjc.1,zjc.2)
set_option maxRecDepth 20000 in
theorem y41 (Z : Zp) (z9C : Option Addr) (z9D : Nat) (z5s : List (List z1)) (z1d : zSv) (r : z2 × Int)
     (h : yC z5s z1d = some r) (w₀ : World) (hz : PZ [] w₀ Z)
     (znu : ZS Z 1 (p39 Z) z9C z9D z5s) :
    Calls Try.prog 16 #[(.slice z9C z5s.length z9D),(.agg #[(.int .i64 z1d.fR.fN),(.int .i64 z1d.fR.fD),(.int .i64 z1d.fLatency.fN),(.int .i64 z1d.fLatency.fD)])] w₀ fun e w'=>∃ Zn : Zp,e = .returned (.tuple #[(.agg #[(.int .i64 r.1.fN),(.int .i64 r.1.fD)]),(.int .i64 r.2)]) ∧ True ∧ Hp [] w₀ w' [fz Zn]:=by
  unfold yC at h
  refine Calls.yc (vs:=[(.slice z9C z5s.length z9D),(.agg #[(.int .i64 z1d.fR.fN),(.int .i64 z1d.fR.fD),(.int .i64 z1d.fLatency.fN),(.int .i64 z1d.fLatency.fD)])]) (pre:=[]) (env:=[(0,(.slice z9C z5s.length z9D)),(1,(.agg #[(.int .i64 z1d.fR.fN),(.int .i64 z1d.fR.fD),(.int .i64 z1d.fLatency.fN),(.int .i64 z1d.fLatency.fD)]))]) Try.func16 rfl Try.ntmps16 rfl (Hp.nil w₀ _) rfl ?_
  refine WC.pool (WC.b (WC.a ?_))
  refine WL.new (dd:=2) rfl rfl rfl (yI (cs:=[(.slice z9C z5s.length z9D)]) rfl rfl) ?_
  intro zvm _
  refine WL.new (dd:=3) rfl rfl rfl (yI (cs:=[(.int .i64 z1d.fR.fN),(.int .i64 z1d.fR.fD),(.int .i64 z1d.fLatency.fN),(.int .i64 z1d.fLatency.fD)]) rfl rfl) ?_
  intro zvn _
  refine WL.new (dd:=4) rfl rfl rfl (yh (cs:=[(.int .i64 0),(.int .i64 0)]) ym rfl) ?_
  intro zAu _
  refine WL.pu rfl (WL.nil (WX.a (WC.b (WC.a ?_))))
  refine WL.a (d:=7) rfl rfl rfl (yb y2L rfl (yq .h2 rfl)) ?_
  refine WL.a (d:=8) rfl rfl rfl (y7 y24 rfl (y6 .h1) rfl) ?_
  refine WL.a (d:=9) rfl rfl rfl (y3 y53 rfl rfl) ?_
  refine WL.a (d:=10) rfl rfl rfl (yv (cs:=[(.int .i64 z1d.fLatency.fN),(.int .i64 z1d.fLatency.fD)]) y4 rfl rfl (y1D (s:=2) .h1 rfl)) ?_
  refine WL.new (dd:=11) rfl rfl rfl (yp (cs:=([z1d.fLatency] : List z2).flatMap e30) y1B (Eos.parts (l:=[.tmp 10]) (.cons rfl .nil) [0]) (fun _=>by kernel_rfl) rfl (by unfold maxLen; omega)) ?_
  intro znv _
  refine WL.a (d:=12) rfl rfl rfl (yV (v:=(.agg #[(.slice z9C z5s.length z9D),(.int .i64 z1d.fR.fN),(.int .i64 z1d.fR.fD),(.int .i64 z1d.fLatency.fN),(.int .i64 z1d.fLatency.fD),.nilFunc,(.slice (some ⟨znv,0,none⟩) (([z1d.fLatency] : List z2).length) 1)])) (Eos.parts (l:=[.tmp 7,.tmp 8,.tmp 11]) (.cons rfl (.cons rfl (.cons rfl .nil))) [0,1,3]) (fun _=>by kernel_rfl)) ?_
  refine WL.new (dd:=6) rfl rfl rfl (yh (cs:=[(.slice none 0 0),(.int .i64 0),(.int .i64 0),(.int .i64 0),(.int .i64 0),.nilFunc,(.slice none 0 0)]) y9t rfl) ?_
  intro zAv _
  refine WL.ya rfl rfl (y9 ya4 rfl rfl rfl .here rfl rfl rfl) ?_
  refine WL.nil (WX.a (WC.b (WC.a ?_)))
  refine WL.a (d:=13) rfl rfl rfl (y1b (Eos.caps (l:=[.tmp 2,.tmp 3]) (.cons rfl (.cons rfl .nil)))) ?_
  refine WL.a (d:=14) rfl rfl rfl (y3 y7L rfl rfl) ?_
  refine WL.ya rfl rfl (y63 (ds:=[(.slice z9C z5s.length z9D),(.int .i64 z1d.fR.fN),(.int .i64 z1d.fR.fD),(.int .i64 z1d.fLatency.fN),(.int .i64 z1d.fLatency.fD),(.func (.func 37) #[] #[(.pointer (some ⟨zvm,0,none⟩)),(.pointer (some ⟨zvn,0,none⟩))]),(.slice (some ⟨znv,0,none⟩) (([z1d.fLatency] : List z2).length) 1)]) ya5 rfl rfl rfl rfl rfl .here rfl rfl) ?_
  refine WL.nil (WX.a (WC.b ?_))
  obtain ⟨zjc,zvo,h⟩:=z8 h
  refine WC.a ?_
  refine WL.a (d:=15) rfl rfl rfl (y7 y5R rfl (y6 .here) rfl) ?_
  refine WL.freezeC (Z:=Z) .h4 .h4 ?_
  intro zAw zfg zvp
  refine WL.freezeC (Z:=Z) .h4 .here ?_
  intro zAx zdg zvq
  refine WL.freezeS (ls:=([z1d.fLatency] : List z2)) .h2 .here hz (RR.flat (enc:=e30) (fun _=>rfl) _) ?_
  intro zvr zbr zvs
  refine WL.y2l (dd:=16) rfl rfl rfl (ze (l:=[.tmp 15]) Try.call36 (.cons rfl .nil)) .nil (ccz hz .nil .here fun w pz ho=>y6F _ _ _ _ _ _ _ _ _ _ _ _ _ _ _ zvo w pz ((znu.mono ((Zle.left _ _).trans (zfg.trans (zdg.trans zbr)))).weak (fun _ _ h=>yo ((Zle.left _ _).trans (zfg.trans (zdg.trans zbr))) h)) ((znu.mono ((Zle.left _ _).trans (zfg.trans (zdg.trans zbr)))).weak (fun _ _ h=>yo ((Zle.left _ _).trans (zfg.trans (zdg.trans zbr))) h)) (zvp.mono (zdg.trans zbr)) (zvq.mono zbr) zvs) ?_
  rintro zvt _
  refine WL.merge .here .here ?_
  refine WL.pu rfl (WL.pu rfl ?_)
  refine WL.ya rfl rfl (y9 yj rfl rfl rfl .h2 rfl rfl rfl) ?_
  refine WL.pu rfl (WL.nil (WX.a (WC.ret ?_)))
  obtain rfl:=Option.some.inj h
  refine WX.y8 Try.results16 (.agg rfl y4 rfl (y6 .here) (.tmp rfl .nil)) (fun w hw=>?_)
  exact ⟨(zvr ++ zvt),y1H rfl rfl,trivial,hw.sub (.cons .h1 .nil)⟩
def y2e (zO : List zSt) (z17 : Int) (z1R : List z1) (z79 : Bool → Option (Bool × Int)) : Nat → Bool → Int → Int → Option (Bool × Int)
  | 0,_,_,_=>none
  | zjd + 1,z4V,z4t,z2H=>if decide (z2H < (((zO.drop (z17 : Int).toNat).length : Nat) : Int)) then chk ((0 : Int) ≤ z2H ∧ z2H < (((zO.drop (z17 : Int).toNat).length : Nat) : Int)) (chk ((0 : Int) ≤ z17 ∧ z17 < ((zO.length : Nat) : Int)) ((y3i z1R (⟨i64 (((nth (zO.drop (z17 : Int).toNat) z2H).fTime) - ((nth zO z17).fTime)),1⟩ : z2)).bind fun zfh=>if decide (zfh.2 ≠ 0) then some (false,zfh.2) else (if z4V then (yQ (⟨i64 (z4t + ((nth (zO.drop (z17 : Int).toNat) z2H).fSize)),1⟩ : z2) zfh.1).bind fun znw=>some (decide (znw ≤ 0)) else some false).bind fun zfi=>y2e zO z17 z1R z79 zjd zfi (i64 (z4t + ((nth (zO.drop (z17 : Int).toNat) z2H).fSize))) (i64 (z2H + 1)))) else z79 z4V
theorem y5m {n : Nat} {zO : List zSt} {z17 : Int} {z1R : List z1} {z79 : Bool → Option (Bool × Int)} {z4V : Bool} {z4t : Int} {z2H : Int} {r : Bool × Int} (h : y2e zO z17 z1R z79 n z4V z4t z2H = some r) : ∃ m,n = m + 1:=by
  cases n with
  | zero=>cases h
  | succ m=>exact ⟨m,rfl⟩
def y2f (zO : List zSt) (z1R : List z1) (z7a : Bool → Option (Bool × Int)) : Nat → Bool → Int → Option (Bool × Int)
  | 0,_,_=>none
  | zje + 1,z4u,z17=>if decide (z17 < ((zO.length : Nat) : Int)) then jp1 (fun (z7b : Bool)=>y2f zO z1R z7a zje z7b (i64 (z17 + 1))) fun zjf=>chk ((0 : Int) ≤ z17 ∧ (z17 : Int) ≤ (zO.length : Int) ∧ (zO.length : Int) ≤ ((zO.length : Nat) : Int)) (jp1 (fun (z7c : Bool)=>zjf z7c) fun z79=>y2e zO z17 z1R z79 ys z4u 0 0) else z7a z4u
theorem y5n {n : Nat} {zO : List zSt} {z1R : List z1} {z7a : Bool → Option (Bool × Int)} {z4u : Bool} {z17 : Int} {r : Bool × Int} (h : y2f zO z1R z7a n z4u z17 = some r) : ∃ m,n = m + 1:=by
  cases n with
  | zero=>cases h
  | succ m=>exact ⟨m,rfl⟩
def y2Z (z1R : List z1) (zO : List zSt) : Option (Bool × Int) :=
  (y2g z1R).bind fun znx=>(if !znx then some true else (y3n zO).bind fun zny=>some (!zny)).bind fun zjg=>if zjg then some (false,2) else jp1 (fun (z8g : Bool)=>some (z8g,0)) fun z7a=>y2f zO z1R z7a ys true 0
set_option maxRecDepth 20000 in
theorem y4U (Z : Zp) (z8h : Option Addr) (z8i : Nat) (z8j : Option Addr) (z8k : Nat) (z1R : List z1) (zO : List zSt) (r : Bool × Int)
     (h : y2Z z1R zO = some r) (w₀ : World) (hz : PZ [] w₀ Z)
     (znz : ZS Z 4 (fun r x=>r = e35 x) z8h z8i z1R)
     (zjh : ZS Z 3 (fun r x=>r = e51 x) z8j z8k zO) :
    Calls Try.prog 12 #[(.slice z8h z1R.length z8i),(.slice z8j zO.length z8k)] w₀ fun e w'=>e = .returned (.tuple #[(.bool r.1),(.int .i64 r.2)]) ∧ Hp [] w₀ w' []:=by
  unfold y2Z at h
  refine Calls.yc (vs:=[(.slice z8h z1R.length z8i),(.slice z8j zO.length z8k)]) (pre:=[]) (env:=[(0,(.slice z8h z1R.length z8i)),(1,(.slice z8j zO.length z8k))]) Try.func12 rfl Try.ntmps12 rfl (Hp.nil w₀ _) rfl ?_
  refine WC.b (WC.a (WL.pu rfl (WL.pu rfl (WL.nil (WX.a (WC.b (WC.b ?_)))))))
  obtain ⟨znx,zvu,h⟩:=z8 h
  obtain ⟨zjg,znA,h⟩:=z8 h
  refine WC.a (WL.pu rfl ?_)
  refine WL.b (dd:=14) rfl rfl rfl (ze (l:=[.tmp 13]) Try.call30 (.cons rfl .nil)) .nil (cc hz .nil fun w pz ho=>y3J _ _ _ _ _ zvu w pz znz) ?_
  refine WL.pu rfl (WL.pu rfl ?_)
  refine WL.seg false 3 16 (B:=zjg) rfl rfl rfl rfl rfl rfl (fun h=>(Option.some.inj (ye znA h)).symm) (fun _ zvv=>?_) ?_
  · skip
    have zdh:=yf znA zvv
    obtain ⟨zny,zvw,zdh⟩:=z8 zdh
    replace zdh:=Option.some.inj zdh
    refine WL.pu rfl ?_
    refine WL.b (dd:=18) rfl rfl rfl (ze (l:=[.tmp 17]) Try.call31 (.cons rfl .nil)) .nil (cc hz .nil fun w pz ho=>y5x _ _ _ _ _ zvw w pz zjh) ?_
    refine WL.pu rfl (WL.pu rfl ?_)
    exact WL.yy zdh rfl rfl .all
  refine WL.nil (WX.a ?_)
  refine WC.cond rfl (fun zji=>?_) (fun zji=>?_)
  · replace h:=ye h zji
    refine WC.b (WC.a (WL.pu rfl (WL.pu rfl (WL.nil (WX.a (WC.ret (WX.y5 ?_)))))))
    obtain rfl:=Option.some.inj h
    refine WX.y8 Try.results12 (.tmp rfl (.tmp rfl .nil)) (fun w hw=>?_)
    exact ⟨y1H rfl rfl,hw.sub .nil⟩
  · replace h:=yf h zji
    refine WC.skip (WX.a (WC.b (WC.a (WL.pu rfl (WL.nil (WX.a ?_))))))
    obtain ⟨z7a,zvx,h⟩:=y1n h
    refine WC.y3a (fun (z8g : Bool)=>(z7a z8g = some r)) (fun (z8g : Bool)=>[(6,(.bool z8g))]) (fun (z8g : Bool)=>[]) ?_ ?_
    · skip
      refine WC.b (WC.a (WL.pu rfl ?_))
      refine WL.a (d:=22) rfl rfl rfl (y1c Try.underlying24 rfl) ?_
      refine WL.pu rfl (WL.nil (WX.a (WC.block ?_)))
      refine WC.y9i (fun (zbs : Nat) (z4u : Bool) (z17 : Int)=>(y2f zO z1R z7a zbs z4u z17 = some r)) (fun (zbs : Nat) (z4u : Bool) (z17 : Int)=>[(0,(.slice z8h z1R.length z8i)),(1,(.slice z8j zO.length z8k)),(6,(.bool z4u)),(22,(.int .i64 ((zO.length : Nat) : Int))),(23,(.int .i64 z17))]) (fun (zbs : Nat) (z4u : Bool) (z17 : Int)=>[]) (fun (zbs : Nat) (z4u : Bool) (z17 : Int)=>zbs) ⟨ys,true,0⟩ h (.cons rfl (.cons rfl (.cons rfl (.cons rfl (.cons rfl .nil))))) .nil ?_
      rintro zbs z4u z17 h
      obtain ⟨zje,rfl⟩:=y5n h
      rw [y2f] at h
      refine WC.b (WC.a (WL.pu rfl (WL.nil (WX.a (WC.b ?_)))))
      refine WC.cond rfl (fun zjj=>?_) (fun zjj=>?_)
      · replace h:=ye h zjj
        refine WC.skip (WX.a ?_)
        obtain ⟨zjf,zvy,h⟩:=y1n h
        refine WC.y3a (fun (z7b : Bool)=>(zjf z7b = some r)) (fun (z7b : Bool)=>[(0,(.slice z8h z1R.length z8i)),(1,(.slice z8j zO.length z8k)),(6,(.bool z7b)),(22,(.int .i64 ((zO.length : Nat) : Int))),(23,(.int .i64 z17))]) (fun (z7b : Bool)=>[]) ?_ ?_
        · skip
          refine WC.block (WC.b (WC.a (WL.pu rfl (WL.pu rfl (WL.nil (WX.a (WC.b (WC.a (WL.pu rfl (WL.nil (WX.a (WC.b ?_))))))))))))
          obtain ⟨zvz,h⟩:=yk h
          refine WC.a (WL.pu rfl (WL.pu rfl ?_))
          refine WL.zsub (dd:=28) rfl rfl (Z:=Z) (Pr:=(fun r x=>r = e51 x)) y64 rfl zjh (ixo rfl) ixn rfl rfl zvz (by rw [Int.toNat_natCast,List.take_length]) ?_
          rintro zvA zvB zvC
          refine WL.a (d:=29) rfl rfl rfl (y1c Try.underlying24 rfl) ?_
          refine WL.pu rfl (WL.nil (WX.a ?_))
          obtain ⟨z79,zvD,h⟩:=y1n h
          refine WC.y8F (fun (z7c : Bool)=>(z79 z7c = some r)) (fun (z7c : Bool)=>[(0,(.slice z8h z1R.length z8i)),(1,(.slice z8j zO.length z8k)),(6,(.bool z7c)),(22,(.int .i64 ((zO.length : Nat) : Int))),(23,(.int .i64 z17))]) (fun (z7c : Bool)=>[]) ?_ ?_
          · skip
            refine WC.block ?_
            refine WC.y3Y (fun (zbt : Nat) (z4V : Bool) (z4t : Int) (z2H : Int)=>(y2e zO z17 z1R z79 zbt z4V z4t z2H = some r)) (fun (zbt : Nat) (z4V : Bool) (z4t : Int) (z2H : Int)=>[(0,(.slice z8h z1R.length z8i)),(1,(.slice z8j zO.length z8k)),(6,(.bool z4V)),(7,(.int .i64 z17)),(8,(.int .i64 z4t)),(22,(.int .i64 ((zO.length : Nat) : Int))),(23,(.int .i64 z17)),(28,(.slice zvA ((zO.drop (z17 : Int).toNat).length) zvB)),(29,(.int .i64 (((zO.drop (z17 : Int).toNat).length : Nat) : Int))),(30,(.int .i64 z2H))]) (fun (zbt : Nat) (z4V : Bool) (z4t : Int) (z2H : Int)=>[]) (fun (zbt : Nat) (z4V : Bool) (z4t : Int) (z2H : Int)=>zbt) ⟨ys,z4u,0,0⟩ h (.cons rfl (.cons rfl (.cons rfl (.cons rfl (.cons rfl (.cons rfl (.cons rfl (.cons rfl (.cons rfl (.cons rfl .nil)))))))))) .nil ?_
            rintro zbt z4V z4t z2H h
            obtain ⟨zjd,rfl⟩:=y5m h
            rw [y2e] at h
            refine WC.b (WC.a (WL.pu rfl (WL.nil (WX.a (WC.b ?_)))))
            refine WC.cond rfl (fun zjk=>?_) (fun zjk=>?_)
            · replace h:=ye h zjk
              refine WC.skip (WX.a (WC.b (WC.block (WC.b ?_))))
              obtain ⟨zvE,h⟩:=yk h
              refine WC.a ?_
              refine WL.znth (dd:=32) rfl rfl (Z:=Z) (Pr:=(fun r x=>r = e51 x)) y64 rfl rfl zvC zvE ?_
              rintro zAy zAz zvF zAA rfl
              refine WL.a (d:=33) rfl rfl rfl (y7 y8H rfl (y2R hz.pv zvF) rfl) ?_
              refine WL.new (dd:=10) rfl rfl rfl (yh (cs:=[(.int .i64 0),(.int .i64 0),(.int .i64 0)]) y88 rfl) ?_
              intro zAB _
              refine WL.ya rfl rfl (y9 y8I rfl rfl rfl .here rfl rfl rfl) ?_
              refine WL.nil (WX.a (WC.b (WC.a (WL.pu rfl ?_))))
              refine WL.a (d:=35) rfl rfl rfl (y3 y7J rfl rfl) ?_
              refine WL.a (d:=36) rfl rfl rfl (yb yu rfl (yq .here rfl)) ?_
              refine WL.pu rfl (WL.pu rfl (WL.nil (WX.a (WC.b ?_))))
              obtain ⟨zvG,h⟩:=yk h
              obtain ⟨zfh,zvH,h⟩:=z8 h
              refine WC.y1g (fun i=>[15].contains i) [] rfl ?_
              refine WD.a (i:=0) (d:=39) (by kernel_rfl) rfl (z6 (by kernel_rfl)) (z7 (by kernel_rfl)) rfl rfl rfl (fun _=>q_m rfl) ?_
              refine WD.a (i:=1) (d:=40) (by kernel_rfl) rfl (z6 (by kernel_rfl)) (z7 (by kernel_rfl)) rfl rfl rfl (fun _=>y3 y50 rfl rfl) ?_
              refine WD.e (i:=2) (d:=41) (by kernel_rfl) rfl (z6 (by kernel_rfl)) (z7 (by kernel_rfl)) rfl rfl rfl (yb yu rfl (yq .here rfl)) ?_
              refine WD.a (i:=3) (d:=42) (by kernel_rfl) rfl (z6 (by kernel_rfl)) (z7 (by kernel_rfl)) rfl rfl rfl (fun _=>q_m rfl) ?_
              refine WD.a (i:=4) (d:=43) (by kernel_rfl) rfl (z6 (by kernel_rfl)) (z7 (by kernel_rfl)) rfl rfl rfl (fun _=>q_m rfl) ?_
              refine WD.znth (j:=5) (dd:=44) (by kernel_rfl) rfl (z6 (by kernel_rfl)) (z7 (by kernel_rfl)) rfl rfl (Z:=Z) (Pr:=(fun r x=>r = e51 x)) y64 rfl rfl zjh zvG ?_
              rintro zAC zAD zvI zAE rfl
              refine WD.a (i:=6) (d:=45) (by kernel_rfl) rfl (z6 (by kernel_rfl)) (z7 (by kernel_rfl)) rfl rfl rfl (fun _=>y3 y50 rfl rfl) ?_
              refine WD.e (i:=7) (d:=46) (by kernel_rfl) rfl (z6 (by kernel_rfl)) (z7 (by kernel_rfl)) rfl rfl rfl (yb yu rfl (y1I hz.pv zvI rfl)) ?_
              refine WD.a (i:=8) (d:=47) (by kernel_rfl) rfl (z6 (by kernel_rfl)) (z7 (by kernel_rfl)) rfl rfl rfl (fun _=>y7C rfl rfl rfl) ?_
              refine WD.a (i:=9) (d:=48) (by kernel_rfl) rfl (z6 (by kernel_rfl)) (z7 (by kernel_rfl)) rfl rfl rfl (fun _=>yV (v:=(.agg #[(.int .i64 (i64 (((nth (zO.drop (z17 : Int).toNat) z2H).fTime) - ((nth zO z17).fTime)))),(.int .i64 1)])) (Eos.parts (l:=[.tmp 47,.const (.int .i64 1)]) (.cons rfl (.cons rfl .nil)) [0,1]) (fun _=>by kernel_rfl)) ?_
              refine WD.c (i:=10) (d:=49) (by kernel_rfl) rfl (z6 (by kernel_rfl)) (z7 (by kernel_rfl)) rfl rfl rfl (ze (l:=[.tmp 39,.tmp 48]) Try.call22 (.cons rfl (.cons rfl .nil))) (cc hz .nil fun w pz ho=>y8s _ _ _ _ _ _ zvH w pz znz) ?_
              refine WD.a (i:=11) (d:=38) (by kernel_rfl) rfl (z6 (by kernel_rfl)) (z7 (by kernel_rfl)) rfl rfl rfl (fun _=>q_m rfl) ?_
              refine WD.a (i:=12) (d:=50) (by kernel_rfl) rfl (z6 (by kernel_rfl)) (z7 (by kernel_rfl)) rfl rfl rfl (fun _=>y3X rfl rfl) ?_
              refine WD.a (i:=13) (d:=51) (by kernel_rfl) rfl (z6 (by kernel_rfl)) (z7 (by kernel_rfl)) rfl rfl rfl (fun _=>y3X rfl rfl) ?_
              refine WD.new (i:=14) (dd:=11) rfl (by kernel_rfl) rfl rfl rfl (yh (cs:=[(.int .i64 0),(.int .i64 0)]) ym rfl) (fun h'=>absurd h' (by decide)) ?_
              intro zAF _
              refine WD.forced0 (i:=15) rfl (by kernel_rfl) rfl rfl rfl (Sin.of .nil) (y9 yj rfl rfl rfl .here rfl rfl rfl) ?_
              refine WD.a (i:=16) (d:=12) (by kernel_rfl) rfl (z6 (by kernel_rfl)) (z7 (by kernel_rfl)) rfl rfl rfl (fun _=>q_z rfl) ?_
              refine WD.done (by kernel_rfl) ?_
              refine WX.a (WC.b (WC.b (WC.a (WL.pu rfl (WL.pu rfl (WL.nil (WX.a ?_)))))))
              refine WC.cond rfl (fun zjl=>?_) (fun zjl=>?_)
              · replace h:=ye h zjl
                refine WC.b (WC.a (WL.pu rfl (WL.pu rfl (WL.pu rfl (WL.nil (WX.a (WC.ret (WX.y5 (WX.yl (WX.y5 (WX.y5 (WX.yl (WX.y5 (WX.yl (WX.y5 ?_)))))))))))))))
                refine WX.y5 (WX.yl (WX.y5 ?_))
                obtain rfl:=Option.some.inj h
                refine WX.y8 Try.results12 (.tmp rfl (.tmp rfl .nil)) (fun w hw=>?_)
                exact ⟨y1H rfl rfl,hw.sub .nil⟩
              · replace h:=yf h zjl
                refine WC.skip (WX.a ?_)
                obtain ⟨zfi,znB,h⟩:=z8 h
                refine WC.a (WL.pu rfl (WL.pu rfl ?_))
                refine WL.seg true 5 56 (B:=zfi) rfl rfl rfl rfl rfl rfl (fun h=>(Option.some.inj (yf znB h)).symm) (fun _ zvJ=>?_) ?_
                · skip
                  have zdi:=ye znB zvJ
                  obtain ⟨znw,zvK,zdi⟩:=z8 zdi
                  replace zdi:=Option.some.inj zdi
                  refine WL.pu rfl ?_
                  refine WL.a (d:=58) rfl rfl rfl (yV (v:=(.agg #[(.int .i64 (i64 (z4t + ((nth (zO.drop (z17 : Int).toNat) z2H).fSize)))),(.int .i64 1)])) (Eos.parts (l:=[.tmp 57,.const (.int .i64 1)]) (.cons rfl (.cons rfl .nil)) [0,1]) (fun _=>by kernel_rfl)) ?_
                  refine WL.a (d:=59) rfl rfl rfl (y7 y4 rfl (y6 .here) rfl) ?_
                  refine WL.b (dd:=60) rfl rfl rfl (ze (l:=[.tmp 58,.tmp 59]) Try.call18 (.cons rfl (.cons rfl .nil))) .nil (cc hz .nil fun w pz ho=>y1Y _ _ _ _ zvK w pz ) ?_
                  refine WL.pu rfl (WL.pu rfl ?_)
                  exact WL.yy zdi rfl rfl .all
                refine WL.pu rfl (WL.nil (WX.yg (WX.a (WC.a (WL.pu rfl (WL.pu rfl (WL.nil ?_)))))))
                exact WX.round (G:=Nat × Bool × Int × Int) ⟨zjd,zfi,(i64 (z4t + ((nth (zO.drop (z17 : Int).toNat) z2H).fSize))),(i64 (z2H + 1))⟩ h (Nat.lt_succ_self _) (.cons rfl (.cons rfl (.cons rfl (.cons rfl (.cons rfl (.cons rfl (.cons rfl (.cons rfl (.cons rfl (.cons rfl .nil)))))))))) .nil
            · replace h:=yf h zjk
              refine WC.exit (WX.yd (WX.yd (WX.yt ?_)))
              exact WX.mid (G:=Bool) z4V h (.cons rfl (.cons rfl (.cons rfl (.cons rfl (.cons rfl .nil))))) .nil
          · rintro z7c h
            replace h:=(zvD z7c).symm.trans h
            refine WX.yg ?_
            exact WX.mid (G:=Bool) z7c h (.cons rfl (.cons rfl (.cons rfl (.cons rfl (.cons rfl .nil))))) .nil
        · rintro z7b h
          replace h:=(zvy z7b).symm.trans h
          refine WC.a (WL.pu rfl (WL.pu rfl (WL.nil ?_)))
          exact WX.round (G:=Nat × Bool × Int) ⟨zje,z7b,(i64 (z17 + 1))⟩ h (Nat.lt_succ_self _) (.cons rfl (.cons rfl (.cons rfl (.cons rfl (.cons rfl .nil))))) .nil
      · replace h:=yf h zjj
        refine WC.exit (WX.yd (WX.yd (WX.yt ?_)))
        exact WX.mid (G:=Bool) z4u h (.cons rfl .nil) .nil
    · rintro z8g h
      replace h:=(zvx z8g).symm.trans h
      refine WC.b (WC.a (WL.pu rfl (WL.pu rfl (WL.pu rfl (WL.nil (WX.a (WC.ret ?_)))))))
      obtain rfl:=Option.some.inj h
      refine WX.y8 Try.results12 (.tmp rfl (.tmp rfl .nil)) (fun w hw=>?_)
      exact ⟨y1H rfl rfl,hw.sub .nil⟩
def y3j (z33 : List Int) (z3u : List Int) (z7d : Option Bool) : Nat → Int → Option Bool
  | 0,_=>none
  | zjm + 1,z34=>if decide (z34 < ((z33.length : Nat) : Int)) then chk ((0 : Int) ≤ z34 ∧ z34 < ((z33.length : Nat) : Int)) (chk ((0 : Int) ≤ z34 ∧ z34 < ((z3u.length : Nat) : Int)) (if decide ((nth z33 z34) ≠ (nth z3u z34)) then some false else y3j z33 z3u z7d zjm (i64 (z34 + 1)))) else z7d
theorem y74 {n : Nat} {z33 : List Int} {z3u : List Int} {z7d : Option Bool} {z34 : Int} {r : Bool} (h : y3j z33 z3u z7d n z34 = some r) : ∃ m,n = m + 1:=by
  cases n with
  | zero=>cases h
  | succ m=>exact ⟨m,rfl⟩
def y6c (z33 : List Int) (z3u : List Int) : Option Bool :=
  if decide (((z33.length : Nat) : Int) ≠ ((z3u.length : Nat) : Int)) then some false else jp0 (some true) fun z7d=>y3j z33 z3u z7d ys 0
set_option maxRecDepth 20000 in
theorem y9y (Z : Zp) (zdj : Option Addr) (zdk : Nat) (zdl : Option Addr) (zdm : Nat) (z33 : List Int) (z3u : List Int) (r : Bool)
     (h : y6c z33 z3u = some r) (w₀ : World) (hz : PZ [] w₀ Z)
     (zvL : ZS Z 1 (fun r x=>r = e3 x) zdj zdk z33)
     (zvM : ZS Z 1 (fun r x=>r = e3 x) zdl zdm z3u) :
    Calls Try.prog 38 #[(.slice zdj z33.length zdk),(.slice zdl z3u.length zdm)] w₀ fun e w'=>e = .returned (.bool r) ∧ Hp [] w₀ w' []:=by
  unfold y6c at h
  refine Calls.yc (vs:=[(.slice zdj z33.length zdk),(.slice zdl z3u.length zdm)]) (pre:=[]) (env:=[(0,(.slice zdj z33.length zdk)),(1,(.slice zdl z3u.length zdm))]) Try.func38 rfl Try.ntmps38 rfl (Hp.nil w₀ _) rfl ?_
  refine WC.b (WC.a (WL.pu rfl (WL.nil (WX.a (WC.b (WC.b (WC.a (WL.pu rfl ?_))))))))
  refine WL.a (d:=7) rfl rfl rfl (y1c Try.underlying45 rfl) ?_
  refine WL.pu rfl ?_
  refine WL.a (d:=9) rfl rfl rfl (y1c Try.underlying45 rfl) ?_
  refine WL.pu rfl (WL.nil (WX.a ?_))
  refine WC.cond rfl (fun zjn=>?_) (fun zjn=>?_)
  · replace h:=ye h zjn
    refine WC.b (WC.a (WL.pu rfl (WL.nil (WX.a (WC.ret (WX.y5 ?_))))))
    obtain rfl:=Option.some.inj h
    refine WX.y8 Try.results38 (.tmp rfl .nil) (fun w hw=>?_)
    exact ⟨yG rfl,hw.sub .nil⟩
  · replace h:=yf h zjn
    refine WC.skip (WX.a ?_)
    obtain ⟨z7d,zvN,h⟩:=y2V h
    refine WC.y4N ((z7d = some r)) ([]) ([]) ?_ ?_
    · skip
      refine WC.b (WC.a (WL.pu rfl ?_))
      refine WL.a (d:=12) rfl rfl rfl (y1c Try.underlying45 rfl) ?_
      refine WL.pu rfl (WL.nil (WX.a (WC.block ?_)))
      refine WC.y60 (fun (zbu : Nat) (z34 : Int)=>(y3j z33 z3u z7d zbu z34 = some r)) (fun (zbu : Nat) (z34 : Int)=>[(0,(.slice zdj z33.length zdk)),(1,(.slice zdl z3u.length zdm)),(12,(.int .i64 ((z33.length : Nat) : Int))),(13,(.int .i64 z34))]) (fun (zbu : Nat) (z34 : Int)=>[]) (fun (zbu : Nat) (z34 : Int)=>zbu) ⟨ys,0⟩ h (.cons rfl (.cons rfl (.cons rfl (.cons rfl .nil)))) .nil ?_
      rintro zbu z34 h
      obtain ⟨zjm,rfl⟩:=y74 h
      rw [y3j] at h
      refine WC.b (WC.a (WL.pu rfl (WL.nil (WX.a (WC.b ?_)))))
      refine WC.cond rfl (fun zjo=>?_) (fun zjo=>?_)
      · replace h:=ye h zjo
        refine WC.skip (WX.a (WC.b (WC.block (WC.b (WC.a (WL.pu rfl (WL.pu rfl (WL.nil (WX.a (WC.b ?_))))))))))
        obtain ⟨zvO,h⟩:=yk h
        obtain ⟨zvP,h⟩:=yk h
        refine WC.y1g (fun i=>[].contains i) [] rfl ?_
        refine WD.a (i:=0) (d:=16) (by kernel_rfl) rfl (z6 (by kernel_rfl)) (z7 (by kernel_rfl)) rfl rfl rfl (fun _=>q_m rfl) ?_
        refine WD.a (i:=1) (d:=17) (by kernel_rfl) rfl (z6 (by kernel_rfl)) (z7 (by kernel_rfl)) rfl rfl rfl (fun _=>q_m rfl) ?_
        refine WD.znth (j:=2) (dd:=18) (by kernel_rfl) rfl (z6 (by kernel_rfl)) (z7 (by kernel_rfl)) rfl rfl (Z:=Z) (Pr:=(fun r x=>r = e3 x)) y7q rfl rfl zvL zvO ?_
        rintro zAG zAH zvQ zAI rfl
        refine WD.e (i:=3) (d:=19) (by kernel_rfl) rfl (z6 (by kernel_rfl)) (z7 (by kernel_rfl)) rfl rfl rfl (yb yu rfl (y4P hz.pv zvQ rfl)) ?_
        refine WD.a (i:=4) (d:=20) (by kernel_rfl) rfl (z6 (by kernel_rfl)) (z7 (by kernel_rfl)) rfl rfl rfl (fun _=>q_m rfl) ?_
        refine WD.a (i:=5) (d:=21) (by kernel_rfl) rfl (z6 (by kernel_rfl)) (z7 (by kernel_rfl)) rfl rfl rfl (fun _=>q_m rfl) ?_
        refine WD.znth (j:=6) (dd:=22) (by kernel_rfl) rfl (z6 (by kernel_rfl)) (z7 (by kernel_rfl)) rfl rfl (Z:=Z) (Pr:=(fun r x=>r = e3 x)) y7q rfl rfl zvM zvP ?_
        rintro zAJ zAK zvR zAL rfl
        refine WD.e (i:=7) (d:=23) (by kernel_rfl) rfl (z6 (by kernel_rfl)) (z7 (by kernel_rfl)) rfl rfl rfl (yb yu rfl (y4P hz.pv zvR rfl)) ?_
        refine WD.a (i:=8) (d:=24) (by kernel_rfl) rfl (z6 (by kernel_rfl)) (z7 (by kernel_rfl)) rfl rfl rfl (fun _=>q_neq rfl rfl) ?_
        refine WD.done (by kernel_rfl) ?_
        refine WX.a ?_
        refine WC.cond rfl (fun zjp=>?_) (fun zjp=>?_)
        · replace h:=ye h zjp
          refine WC.b (WC.a (WL.pu rfl (WL.nil (WX.a (WC.ret (WX.yl (WX.y5 (WX.y5 (WX.yl (WX.y5 ?_))))))))))
          obtain rfl:=Option.some.inj h
          refine WX.y8 Try.results38 (.tmp rfl .nil) (fun w hw=>?_)
          exact ⟨yG rfl,hw.sub .nil⟩
        · replace h:=yf h zjp
          refine WC.skip (WX.yg (WX.a (WC.a (WL.pu rfl (WL.pu rfl (WL.nil ?_))))))
          exact WX.round (G:=Nat × Int) ⟨zjm,(i64 (z34 + 1))⟩ h (Nat.lt_succ_self _) (.cons rfl (.cons rfl (.cons rfl (.cons rfl .nil)))) .nil
      · replace h:=yf h zjo
        refine WC.exit (WX.yd (WX.yd (WX.yt ?_)))
        exact WX.mid (G:=Unit) () h .nil .nil
    · rintro  h
      replace h:=zvN.symm.trans h
      refine WC.b (WC.a (WL.pu rfl (WL.nil (WX.a (WC.ret ?_)))))
      obtain rfl:=Option.some.inj h
      refine WX.y8 Try.results38 (.tmp rfl .nil) (fun w hw=>?_)
      exact ⟨yG rfl,hw.sub .nil⟩
end Go.Proofs.Ytakfmdiiehcbdaa

/- A part of this claim's proof: models of functions, walks, plain laws. No conditions. -/
import Derived.Test.YtakfmdiiehcbdaaGreatW03Za
namespace Go.Proofs.YtakfmdiiehcbdaaGreat
open Go Go.RowKit Sep
set_option linter.all false
set_option maxRecDepth 30000
set_option maxHeartbeats 4000000
def y1e  (z1d : z2 × z2) (z3K : List z1) (zcj : Int) : Option (Bool × (Nat × List z1 × Int)) :=
 (yM z1d.1.fB z1d.2.fB).bind fun zr9=>if decide (zr9 < 0) then (y1r (⟨zcj⟩ : zV) (fun (y0 : z1) (y1 : z1)=>y1v y0 y1) z1d.2.fB z1d.1.fB).bind fun zk4=>(y1r zk4.2 (fun (y0 : z1) (y1 : z1)=>y1v y0 y1) z1d.1.fR z1d.2.fR).bind fun zk5=>(y1r zk5.2 (fun (y0 : z1) (y1 : z1)=>y2g y0 y1) zk4.1 zk5.1).bind fun z6d=>chk ((((z3K ++ ([z6d.1] : List z1)).length : Nat) : Int) * 16 ≤ 140737488355328 ∧ (((z3K ++ ([z6d.1] : List z1)).length : Nat) : Int) ≤ 4611686018427387904) (some (true,(0,(z3K ++ ([z6d.1] : List z1)),z6d.2.fE))) else some (true,(0,z3K,zcj))
def y1k (z9a : List z2) : Option (List z1 × Int) :=
 (y2K z9a).bind fun zk6=>if !zk6 then some (([] : List z1),2) else (y51 z9a).bind fun zhf=>jp2 (fun (z7z : Int) (z6F : List z1)=>if decide (z7z ≠ 0) then some (([] : List z1),z7z) else (y1w z6F (fun (y0 : z1) (y1 : z1)=>yM y0 y1)).bind fun zk7=>(y1A zk7).bind fun zra=>some (zra,0)) fun zk8=>(y4H zhf zhf).bind fun zH=>(y3D (Nat × List z1 × Int) (fun (x : z2 × z2) (s : Nat × List z1 × Int)=>chk (s.1 = 0) (y1e x s.2.1 s.2.2)) (0,([] : List z1),0) zH.1 zH.2).bind fun z3g=>zk8 z3g.2.2 z3g.2.1
set_option maxRecDepth 20000 in
theorem y5d (Z : Zp) (zhg : Option Addr) (zhh : Nat) (z9a : List z2) (r : List z1 × Int)
  (h : y1k z9a = some r) (w₀ : World) (hz : PZ [] w₀ Z)
  (zrb : ZS Z 4 (fun r x=>r = e54 x) zhg zhh z9a) :
  Calls Tryz.prog 76 #[(.slice zhg z9a.length zhh)] w₀ fun e w'=>∃ Zn : Zp,∃ zrc : Option Addr,∃ zrd : Nat,e = .returned (.tuple #[(.slice zrc r.1.length zrd),(.int .i64 r.2)]) ∧ True ∧ Hp [] w₀ w' [fz Zn,row (.slice zrc r.1.length zrd) 40 2 (r.1.flatMap e40)]:=by
 unfold y1k at h
 refine Calls.y7t (vs:=[(.slice zhg z9a.length zhh)]) (pre:=[]) (env:=[(0,(.slice zhg z9a.length zhh))]) Tryz.func76 rfl Tryz.ntmps76 rfl (Hp.nil w₀ _) rfl ?_
 refine WC.pool (WC.b (WC.a (WL.pu rfl (WL.pu rfl (WL.nil (WX.a (WC.b (WC.b ?_))))))))
 obtain ⟨zk6,zxM,h⟩:=z8 h
 refine WC.a (WL.pu rfl ?_)
 refine WL.b (dd:=10) rfl rfl rfl (za (l:=[.tmp 9]) Tryz.call21 (.cons rfl .nil)) .nil (ccz hz .nil .here fun w pz ho=>y4G _ _ _ _ _ zxM w pz (zrb.mono (Zle.left _ _))) ?_
 refine WL.pu rfl (WL.nil (WX.a ?_))
 refine WC.cond rfl (fun zk9=>?_) (fun zk9=>?_)
 ·replace h:=yd h zk9
  refine WC.b (WC.a (WL.pu rfl (WL.pu rfl (WL.nil (WX.a (WC.ret (WX.y6 ?_)))))))
  refine WX.nilRow 40 2 ?_
  obtain rfl:=Option.some.inj h
  refine WX.y8y Tryz.results76 (.tmp rfl (.tmp rfl .nil)) (fun w hw=>?_)
  exact ⟨[],none,0,yF rfl rfl,trivial,hw.sub (.cons .h1 (.cons .here .nil))⟩
 ·replace h:=ye h zk9
  refine WC.skip (WX.a (WC.b (WC.a ?_)))
  refine WL.new (dd:=4) rfl rfl rfl (yk (cs:=[(.int .i64 0)]) yaV rfl) ?_
  intro z2h _
  refine WL.nil (WX.a (WC.b (WC.a ?_)))
  refine WL.new (dd:=5) rfl rfl rfl (yk (cs:=[(.slice none 0 0)]) y9o rfl) ?_
  intro z26 _
  refine WL.nil (WX.a (WC.b ?_))
  obtain ⟨zhf,zxN,h⟩:=z8 h
  refine WC.a (WL.pu rfl ?_)
  refine WL.y6s (dd:=13) rfl rfl rfl (za (l:=[.tmp 12]) Tryz.call84 (.cons rfl .nil)) .nil (ccz hz .nil .h2 fun w pz ho=>yaX _ _ _ _ _ zxN w pz (zrb.mono (Zle.left _ _))) ?_
  rintro zHE zHF _
  refine WL.pu rfl (WL.nil (WX.a ?_))
  obtain ⟨zk8,zxO,h⟩:=y2b h
  refine WC.y7u (fun (zeY : Nat) (z7z : Int) (z6F : List z1) (zaT : Zp) (zck : Option Addr) (zcl : Nat)=>(zk8 z7z z6F = some r) ∧ (Zle (Z ++ []) (Z ++ zaT))) (fun (zeY : Nat) (z7z : Int) (z6F : List z1) (zaT : Zp) (zck : Option Addr) (zcl : Nat)=>[(4,(.pointer (some ⟨z2h,0,none⟩))),(5,(.pointer (some ⟨z26,0,none⟩)))]) (fun (zeY : Nat) (z7z : Int) (z6F : List z1) (zaT : Zp) (zck : Option Addr) (zcl : Nat)=>[fz zaT,stb z2h 83 [(.int .i64 z7z)],stb z26 65 [(.slice zck z6F.length zcl)],row (.slice zck z6F.length zcl) 40 2 (z6F.flatMap e40),dfr zeY]) ?_ ?_
  ·skip
   refine WC.b ?_
   refine WC.freezeS (ls:=zhf) .here .h2 hz (RR.flat (enc:=e54) (fun _=>rfl) _) ?_
   intro z4i zxP zre
   obtain ⟨zH,zxQ,h⟩:=z8 h
   refine WC.a (WL.pu rfl (WL.pu rfl ?_))
   refine WL.ycg (dd:=16) rfl rfl rfl (za (l:=[.tmp 14,.tmp 15]) Tryz.call85 (.cons rfl (.cons rfl .nil))) .nil (ccz hz .nil .here fun w pz ho=>yaB _ _ _ _ _ _ _ _ zxQ w pz zre zre) ?_
   rintro z2y z2z z2L z2M z2N z2O ⟨zxR,zxS⟩
   refine WL.nil (WX.a (WC.block (WC.pool ?_)))
   refine WC.drop (.cons .here (.cons .h3 (.cons .h3 (.cons .here (.cons .here (.cons .here .nil)))))) ?_
   refine WC.nilRow 40 2 ?_
   refine WC.rangeFunc (f:=96) (caps:=[(.pointer (some ⟨z2y,0,none⟩)),(.pointer (some ⟨z2z,0,none⟩))]) rfl Tryz.call96 ?_
   intro zHG zHH z2P z3W z3h zhi zxT zxU w hw
   have hw1:=hw.selAll ((.cons .h3 (.cons .h3 (.cons .h2 (.cons .h2 (.cons .here .nil))))) : Sel _ [fz [],stb z26 65 [(.slice none (([] : List z1).length) 0)],row (.slice none (([] : List z1).length) 0) 40 2 (([] : List z1).flatMap e40),stb z2h 83 [(.int .i64 0)],blk z2P (z3h .ready none)] _)
   have pz:=(hz.call2 hw1 ((.cons .here .nil) : Sel [y1J [fz [],stb z26 65 [(.slice none (([] : List z1).length) 0)],row (.slice none (([] : List z1).length) 0) 40 2 (([] : List z1).flatMap e40),stb z2h 83 [(.int .i64 0)],blk z2P (z3h .ready none)],dfr z3W,stb z2y 23 [(.slice z2L zH.1.length z2M)],stb z2z 23 [(.slice z2N zH.2.length z2O)],fz z4i] [y1J [fz [],stb z26 65 [(.slice none (([] : List z1).length) 0)],row (.slice none (([] : List z1).length) 0) 40 2 (([] : List z1).flatMap e40),stb z2h 83 [(.int .i64 0)],blk z2P (z3h .ready none)]] [dfr z3W,stb z2y 23 [(.slice z2L zH.1.length z2M)],stb z2z 23 [(.slice z2N zH.2.length z2O)],fz z4i]) .h3).lend hw1 ((.cons .here .nil) : Sel [y1J [fz [],stb z26 65 [(.slice none (([] : List z1).length) 0)],row (.slice none (([] : List z1).length) 0) 40 2 (([] : List z1).flatMap e40),stb z2h 83 [(.int .i64 0)],blk z2P (z3h .ready none)],dfr z3W,stb z2y 23 [(.slice z2L zH.1.length z2M)],stb z2z 23 [(.slice z2N zH.2.length z2O)],fz z4i] [y1J [fz [],stb z26 65 [(.slice none (([] : List z1).length) 0)],row (.slice none (([] : List z1).length) 0) 40 2 (([] : List z1).flatMap e40),stb z2h 83 [(.int .i64 0)],blk z2P (z3h .ready none)]] [dfr z3W,stb z2y 23 [(.slice z2L zH.1.length z2M)],stb z2z 23 [(.slice z2N zH.2.length z2O)],fz z4i]) (B:=[stb z2y 23 [(.slice z2L zH.1.length z2M)],stb z2z 23 [(.slice z2N zH.2.length z2O)]]) (fun _ hx'=>((.cons .h1 (.cons .h1 .nil)) : Sel _ [stb z2y 23 [(.slice z2L zH.1.length z2M)],stb z2z 23 [(.slice z2N zH.2.length z2O)]] _).mem hx')
   obtain ⟨z3g,zxV,h⟩:=z8 h
   refine Calls.mono (y9I (Z:=_) (z7q:=z2P) (z1C:=(Option Addr × Nat)) (z4h:=(fun (g : Option Addr × Nat) (s : Nat × List z1 × Int)=>y1J ([fz [],stb z26 65 [(.slice g.1 s.2.1.length g.2)],row (.slice g.1 s.2.1.length g.2) 40 2 (s.2.1.flatMap e40),stb z2h 83 [(.int .i64 s.2.2)]] ++ [blk z2P (z3h (rdy (pcs [] s.1)) (pcs [] s.1))]))) (z7r:=(fun (g : Option Addr × Nat) (s : Nat × List z1 × Int)=>True)) (z94:=(none,0)) (zeN:=⟨z2y,0,none⟩) (zaK:=z2L) (zaL:=z2M) (z7s:=⟨z2z,0,none⟩) (zgX:=z2N) (zgY:=z2O) (zo:=(Nat × List z1 × Int)) (z3I:=(fun (x : z2 × z2) (s : Nat × List z1 × Int)=>chk (s.1 = 0) (y1e x s.2.1 s.2.2))) (s0_2366:=(0,([] : List z1),0)) (z14:=zH.1) (z1x:=zH.2) (r:=z3g) w pz ?_ trivial (zxR.mono (Zle.left _ _)) ((hw1.lent ((.cons .here .nil) : Sel [y1J [fz [],stb z26 65 [(.slice none (([] : List z1).length) 0)],row (.slice none (([] : List z1).length) 0) 40 2 (([] : List z1).flatMap e40),stb z2h 83 [(.int .i64 0)],blk z2P (z3h .ready none)],dfr z3W,stb z2y 23 [(.slice z2L zH.1.length z2M)],stb z2z 23 [(.slice z2N zH.2.length z2O)],fz z4i] [y1J [fz [],stb z26 65 [(.slice none (([] : List z1).length) 0)],row (.slice none (([] : List z1).length) 0) 40 2 (([] : List z1).flatMap e40),stb z2h 83 [(.int .i64 0)],blk z2P (z3h .ready none)]] [dfr z3W,stb z2y 23 [(.slice z2L zH.1.length z2M)],stb z2z 23 [(.slice z2N zH.2.length z2O)],fz z4i]) (B:=[stb z2y 23 [(.slice z2L zH.1.length z2M)],stb z2z 23 [(.slice z2N zH.2.length z2O)]]) (fun _ hx'=>((.cons .h1 (.cons .h1 .nil)) : Sel _ [stb z2y 23 [(.slice z2L zH.1.length z2M)],stb z2z 23 [(.slice z2N zH.2.length z2O)]] _).mem hx') (.head _) _).stb) (zxS.mono (Zle.left _ _)) ((hw1.lent ((.cons .here .nil) : Sel [y1J [fz [],stb z26 65 [(.slice none (([] : List z1).length) 0)],row (.slice none (([] : List z1).length) 0) 40 2 (([] : List z1).flatMap e40),stb z2h 83 [(.int .i64 0)],blk z2P (z3h .ready none)],dfr z3W,stb z2y 23 [(.slice z2L zH.1.length z2M)],stb z2z 23 [(.slice z2N zH.2.length z2O)],fz z4i] [y1J [fz [],stb z26 65 [(.slice none (([] : List z1).length) 0)],row (.slice none (([] : List z1).length) 0) 40 2 (([] : List z1).flatMap e40),stb z2h 83 [(.int .i64 0)],blk z2P (z3h .ready none)]] [dfr z3W,stb z2y 23 [(.slice z2L zH.1.length z2M)],stb z2z 23 [(.slice z2N zH.2.length z2O)],fz z4i]) (B:=[stb z2y 23 [(.slice z2L zH.1.length z2M)],stb z2z 23 [(.slice z2N zH.2.length z2O)]]) (fun _ hx'=>((.cons .h1 (.cons .h1 .nil)) : Sel _ [stb z2y 23 [(.slice z2L zH.1.length z2M)],stb z2z 23 [(.slice z2N zH.2.length z2O)]] _).mem hx') (.tail _ (.head _)) _).stb) zxV (hw1.owns ((.cons .here .nil) : Sel [y1J [fz [],stb z26 65 [(.slice none (([] : List z1).length) 0)],row (.slice none (([] : List z1).length) 0) 40 2 (([] : List z1).flatMap e40),stb z2h 83 [(.int .i64 0)],blk z2P (z3h .ready none)],dfr z3W,stb z2y 23 [(.slice z2L zH.1.length z2M)],stb z2z 23 [(.slice z2N zH.2.length z2O)],fz z4i] [y1J [fz [],stb z26 65 [(.slice none (([] : List z1).length) 0)],row (.slice none (([] : List z1).length) 0) 40 2 (([] : List z1).flatMap e40),stb z2h 83 [(.int .i64 0)],blk z2P (z3h .ready none)]] [dfr z3W,stb z2y 23 [(.slice z2L zH.1.length z2M)],stb z2z 23 [(.slice z2N zH.2.length z2O)],fz z4i]))) ?_
   ·skip
    refine y8x (LI:=(fun (g : Option Addr × Nat) (s : Nat × List z1 × Int)=>[fz [],stb z26 65 [(.slice g.1 s.2.1.length g.2)],row (.slice g.1 s.2.1.length g.2) 40 2 (s.2.1.flatMap e40),stb z2h 83 [(.int .i64 s.2.2)]])) (pc:=(fun (s : Nat × List z1 × Int)=>pcs [] s.1)) zhi zxT zxU (fun _ _=>rfl) (by decide) ?_
    rintro z1d _ ⟨zcm,zcn⟩ ⟨zxW,z3K,zcj⟩ zxX zxY Fb wb zrf _ hz
    replace hz:=hz.left
    letI : Rnd:=inR z2P
    obtain ⟨hp0,z3i⟩:=yj zrf
    replace hp0 : zxW = 0:=hp0; subst hp0; clear zrf
    replace z3i : y1e z1d z3K zcj = some (zxX,zxY):=z3i
    unfold y1e at z3i
    refine WC.restr (env':=[(11,(.bool (!zk6))),(4,(.pointer (some ⟨z2h,0,none⟩))),(5,(.pointer (some ⟨z26,0,none⟩))),(17,(.agg #[(.int .i64 z1d.1.fB.fN),(.int .i64 z1d.1.fB.fD),(.int .i64 z1d.1.fR.fN),(.int .i64 z1d.1.fR.fD)])),(18,(.agg #[(.int .i64 z1d.2.fB.fN),(.int .i64 z1d.2.fB.fD),(.int .i64 z1d.2.fR.fN),(.int .i64 z1d.2.fR.fD)]))]) (.cons rfl (.cons rfl (.cons rfl (.cons rfl (.cons rfl .nil))))) ?_
    refine WC.eqL (L':=[fz [],stb z26 65 [(.slice zcm z3K.length zcn)],row (.slice zcm z3K.length zcn) 40 2 (z3K.flatMap e40),stb z2h 83 [(.int .i64 zcj)],blk z2P (z3h .ready none)]) rfl ?_
    refine WC.b (WC.a ?_)
    refine WL.new (dd:=7) rfl rfl rfl (yk (cs:=[(.int .i64 0),(.int .i64 0),(.int .i64 0),(.int .i64 0)]) y4A rfl) ?_
    intro zxZ _
    refine WL.yb rfl rfl (ya y4K rfl rfl rfl .here rfl rfl rfl) ?_
    refine WL.nil (WX.a (WC.a ?_))
    refine WL.new (dd:=8) rfl rfl rfl (yk (cs:=[(.int .i64 0),(.int .i64 0),(.int .i64 0),(.int .i64 0)]) y4A rfl) ?_
    intro zy0 _
    refine WL.yb rfl rfl (ya y4K rfl rfl rfl .here rfl rfl rfl) ?_
    refine WL.nil ?_
    refine WX.y9i zhi .h6 ?_
    refine WC.block (WC.b ?_)
    obtain ⟨zr9,zy1,z3i⟩:=z8 z3i
    refine WC.a ?_
    refine WL.a (d:=19) rfl rfl rfl (y4 y2B rfl rfl) ?_
    refine WL.a (d:=20) rfl rfl rfl (ys (cs:=[(.int .i64 z1d.1.fB.fN),(.int .i64 z1d.1.fB.fD)]) y5 rfl rfl (yW (s:=2) .h2 rfl)) ?_
    refine WL.a (d:=21) rfl rfl rfl (y4 y2B rfl rfl) ?_
    refine WL.a (d:=22) rfl rfl rfl (ys (cs:=[(.int .i64 z1d.2.fB.fN),(.int .i64 z1d.2.fB.fD)]) y5 rfl rfl (yW (s:=2) .h1 rfl)) ?_
    refine WL.b (dd:=23) rfl rfl rfl (za (l:=[.tmp 20,.tmp 22]) Tryz.call24 (.cons rfl (.cons rfl .nil))) .nil (ccz hz .nil .h3 fun w pz ho=>y2w _ _ _ _ zy1 w pz ) ?_
    refine WL.pu rfl (WL.nil (WX.a ?_))
    refine WC.cond rfl (fun zka=>?_) (fun zka=>?_)
    ·replace z3i:=yd z3i zka
     obtain ⟨zk4,zy2,z3i⟩:=z8 z3i
     obtain ⟨zk5,zy3,z3i⟩:=z8 z3i
     obtain ⟨z6d,zy4,z3i⟩:=z8 z3i
     obtain ⟨zy5,z3i⟩:=yj z3i
     refine WC.yH (fun i=>[5,10,11,13,14].contains i) [stbp z26 65 [(0,(.slice zcm z3K.length zcn))],stb zxZ 54 [(.int .i64 z1d.1.fB.fN),(.int .i64 z1d.1.fB.fD),(.int .i64 z1d.1.fR.fN),(.int .i64 z1d.1.fR.fD)],stb zy0 54 [(.int .i64 z1d.2.fB.fN),(.int .i64 z1d.2.fB.fD),(.int .i64 z1d.2.fR.fN),(.int .i64 z1d.2.fR.fD)]] rfl ?_
     refine WD.y2u (i:=0) (d:=25) (by kernel_rfl) rfl z6 z7 rfl rfl rfl (Sin.wk (.cons .h4 (.cons .h2 (.cons .h1 .nil))) (.stb (.cons rfl .nil) (.same (.same .nil)))) (yc y4r rfl (y8P .here (.head _))) ?_
     refine WD.a (i:=1) (d:=26) (by kernel_rfl) rfl z6 z7 rfl rfl rfl (fun _=>y4 y2B rfl rfl) ?_
     refine WD.e (i:=2) (d:=27) (by kernel_rfl) rfl z6 z7 rfl rfl rfl (ys (cs:=[(.int .i64 z1d.2.fB.fN),(.int .i64 z1d.2.fB.fD)]) y5 rfl rfl (yW (s:=2) .h1 rfl)) ?_
     refine WD.a (i:=3) (d:=28) (by kernel_rfl) rfl z6 z7 rfl rfl rfl (fun _=>y4 y2B rfl rfl) ?_
     refine WD.e (i:=4) (d:=29) (by kernel_rfl) rfl z6 z7 rfl rfl rfl (ys (cs:=[(.int .i64 z1d.1.fB.fN),(.int .i64 z1d.1.fB.fD)]) y5 rfl rfl (yW (s:=2) .h2 rfl)) ?_
     refine WD.a (i:=6) (d:=31) (by kernel_rfl) rfl z6 z7 rfl rfl rfl (fun _=>y4 y2T rfl rfl) ?_
     refine WD.y2u (i:=7) (d:=32) (by kernel_rfl) rfl z6 z7 rfl rfl rfl (Sin.wk (.cons .h4 (.cons .h2 (.cons .h1 .nil))) (.stb (.cons rfl .nil) (.same (.same .nil)))) (ys (cs:=[(.int .i64 z1d.1.fR.fN),(.int .i64 z1d.1.fR.fD)]) y5 rfl rfl (yW (s:=2) .h1 rfl)) ?_
     refine WD.a (i:=8) (d:=33) (by kernel_rfl) rfl z6 z7 rfl rfl rfl (fun _=>y4 y2T rfl rfl) ?_
     refine WD.y2u (i:=9) (d:=34) (by kernel_rfl) rfl z6 z7 rfl rfl rfl (Sin.wk (.cons .h4 (.cons .h2 (.cons .h1 .nil))) (.stb (.cons rfl .nil) (.same (.same .nil)))) (ys (cs:=[(.int .i64 z1d.2.fR.fN),(.int .i64 z1d.2.fR.fD)]) y5 rfl rfl (yW (s:=2) .h2 rfl)) ?_
     refine WD.call0 (i:=5) (dd:=30) rfl (by kernel_rfl) rfl rfl rfl (.inl ⟨rfl,(Sin.wk (.cons .h5 (.cons .h3 (.cons .h2 .nil))) (.stb (.cons rfl .nil) (.same (.same .nil))))⟩) (za (l:=[.tmp 4,.func 32,.tmp 27,.tmp 29]) Tryz.call67 (.cons rfl (.cons rfl (.cons rfl (.cons rfl .nil))))) (.cons .h6 .nil) (ccz hz (.cons .h6 .nil) .h3 fun w pz ho=>Calls.mono (y4g _ _ (z5A:=32) (z6E:=[]) _ (z7u:=(fun (y0 : z1) (y1 : z1)=>y1v y0 y1)) _ _ _ zy2 w pz Tryz.call32 (fun w' hz' y0 y1  r  hr=>y6w _ _ _ _ hr w' hz' ) ho) (fun _ _ h'=>⟨h'.1,trivial,h'.2⟩)) ?_
     intro _
     refine WD.call0 (i:=10) (dd:=35) rfl (by kernel_rfl) rfl rfl rfl (.inl ⟨rfl,(Sin.wk (.cons .h5 (.cons .h3 (.cons .h2 .nil))) (.stb (.cons rfl .nil) (.same (.same .nil))))⟩) (za (l:=[.tmp 4,.func 32,.tmp 32,.tmp 34]) Tryz.call67 (.cons rfl (.cons rfl (.cons rfl (.cons rfl .nil))))) (.cons .here .nil) (ccz hz (.cons .here .nil) .h3 fun w pz ho=>Calls.mono (y4g _ _ (z5A:=32) (z6E:=[]) _ (z7u:=(fun (y0 : z1) (y1 : z1)=>y1v y0 y1)) _ _ _ zy3 w pz Tryz.call32 (fun w' hz' y0 y1  r  hr=>y6w _ _ _ _ hr w' hz' ) ho) (fun _ _ h'=>⟨h'.1,trivial,h'.2⟩)) ?_
     intro _
     refine WD.call0 (i:=11) (dd:=36) rfl (by kernel_rfl) rfl rfl rfl (.inl ⟨rfl,(Sin.wk (.cons .h5 (.cons .h3 (.cons .h2 .nil))) (.stb (.cons rfl .nil) (.same (.same .nil))))⟩) (za (l:=[.tmp 4,.func 33,.tmp 30,.tmp 35]) Tryz.call67 (.cons rfl (.cons rfl (.cons rfl (.cons rfl .nil))))) (.cons .here .nil) (ccz hz (.cons .here .nil) .h3 fun w pz ho=>Calls.mono (y4g _ _ (z5A:=33) (z6E:=[]) _ (z7u:=(fun (y0 : z1) (y1 : z1)=>y2g y0 y1)) _ _ _ zy4 w pz Tryz.call33 (fun w' hz' y0 y1  r  hr=>yal _ _ _ _ hr w' hz' ) ho) (fun _ _ h'=>⟨h'.1,trivial,h'.2⟩)) ?_
     intro _
     refine WD.new (i:=12) (dd:=37) rfl (by kernel_rfl) rfl rfl rfl (yA (cs:=([z6d.1] : List z1).flatMap e40) yK (Eos.parts (l:=[.tmp 36]) (.cons rfl .nil) [0]) (fun _=>by kernel_rfl) rfl (by unfold maxLen; omega)) (fun h'=>absurd h' (by decide)) ?_
     intro zHI _
     refine WD.old (i:=13) (dd:=38) rfl (by kernel_rfl) rfl rfl rfl rfl (fun _=>(Sin.wk (.cons .h7 (.cons .h5 (.cons .h4 .nil))) (.stb (.cons rfl .nil) (.same (.same .nil))))) (y2c (enc:=e40) (l1:=z3K) (l2:=([z6d.1] : List z1)) yK rfl rfl .h7 (fun _=>rfl) rfl rfl (y4z .here) (y3g y50 _) zy5) ?_
     rintro ⟨zkb,zkc⟩ _
     refine WD.y7Z (i:=14) rfl (by kernel_rfl) rfl rfl rfl (by kernel_rfl) (ya ya2 rfl rfl rfl .h7 rfl rfl rfl) ?_
     refine WD.done (by kernel_rfl) ?_
     refine WX.yi ?_
     obtain ⟨rfl,rfl⟩:=y7I z3i
     exact WX.y5b zhi .h4 (fun w' hw'=>⟨(zkb,zkc),rfl,trivial,(hw'.selAll ((.cons .h7 (.cons .h1 (.cons .h1 (.cons .h2 (.cons .here .nil))))) : Sel _ [fz [],stb z26 65 [(.slice zkb ((z3K ++ ([z6d.1] : List z1)).length) zkc)],row (.slice zkb ((z3K ++ ([z6d.1] : List z1)).length) zkc) 40 2 ((z3K ++ ([z6d.1] : List z1)).flatMap e40),stb z2h 83 [(.int .i64 z6d.2.fE)],blk z2P (z3h .ready none)] _)).sub (.cons .here .nil)⟩)
    ·replace z3i:=ye z3i zka
     refine WC.skip (WX.yi ?_)
     obtain ⟨rfl,rfl⟩:=y7I z3i
     exact WX.y5b zhi .here (fun w' hw'=>⟨(zcm,zcn),rfl,trivial,(hw'.selAll ((.cons .h3 (.cons .h3 (.cons .h3 (.cons .h3 (.cons .here .nil))))) : Sel _ [fz [],stb z26 65 [(.slice zcm z3K.length zcn)],row (.slice zcm z3K.length zcn) 40 2 (z3K.flatMap e40),stb z2h 83 [(.int .i64 zcj)],blk z2P (z3h .ready none)] _)).sub (.cons .here .nil)⟩)
   ·skip
    rintro _ w' ⟨⟨zeZ,zf0⟩,rfl,_,hp⟩
    have hp1:=hw1.call ((.cons .here .nil) : Sel [y1J [fz [],stb z26 65 [(.slice none (([] : List z1).length) 0)],row (.slice none (([] : List z1).length) 0) 40 2 (([] : List z1).flatMap e40),stb z2h 83 [(.int .i64 0)],blk z2P (z3h .ready none)],dfr z3W,stb z2y 23 [(.slice z2L zH.1.length z2M)],stb z2z 23 [(.slice z2N zH.2.length z2O)],fz z4i] [y1J [fz [],stb z26 65 [(.slice none (([] : List z1).length) 0)],row (.slice none (([] : List z1).length) 0) 40 2 (([] : List z1).flatMap e40),stb z2h 83 [(.int .i64 0)],blk z2P (z3h .ready none)]] [dfr z3W,stb z2y 23 [(.slice z2L zH.1.length z2M)],stb z2z 23 [(.slice z2N zH.2.length z2O)],fz z4i]) hp
    have hp2 : Hp _ _ w' [fz [],stb z26 65 [(.slice zeZ z3g.2.1.length zf0)],row (.slice zeZ z3g.2.1.length zf0) 40 2 (z3g.2.1.flatMap e40),stb z2h 83 [(.int .i64 z3g.2.2)],blk z2P (z3h (rdy (pcs [] z3g.1)) (pcs [] z3g.1)),dfr z3W,stb z2y 23 [(.slice z2L zH.1.length z2M)],stb z2z 23 [(.slice z2N zH.2.length z2O)],fz z4i]:=hp1.pickAll .here
    refine ⟨_,pcs [] z3g.1,_,rfl,(hp2.sub ((.cons .h4 (.cons .here (.cons .here (.cons .here (.cons .here (.cons .here (.cons .here (.cons .here (.cons .here .nil))))))))) : Sel _ [blk z2P (z3h (rdy (pcs [] z3g.1)) (pcs [] z3g.1)),fz [],stb z26 65 [(.slice zeZ z3g.2.1.length zf0)],row (.slice zeZ z3g.2.1.length zf0) 40 2 (z3g.2.1.flatMap e40),stb z2h 83 [(.int .i64 z3g.2.2)],dfr z3W,stb z2y 23 [(.slice z2L zH.1.length z2M)],stb z2z 23 [(.slice z2N zH.2.length z2O)],fz z4i] _)),?_⟩
    clear hp hp1 hp2 pz hw hw1
    refine wjN ?_
    letI : Rnd:=aft z3W
    refine WX.merge .here .h6 ?_
    refine WX.yi ?_
    exact WX.midR (D:=fun (g : Nat × Int × List z1 × Zp × Option Addr × Nat)=>g.1) (G:=Nat × Int × List z1 × Zp × Option Addr × Nat) ⟨z3W,z3g.2.2,z3g.2.1,(z4i ++ []),zeZ,zf0⟩ ⟨h,(zxP.trans ((Zle.left _ _).trans (Zle.yn _ _ _)))⟩ (.cons rfl (.cons rfl .nil)) (.cons .here (.cons .h2 (.cons .here (.cons .here (.cons .here .nil)))))
  ·rintro zeY z7z z6F zaT zck zcl ⟨h,zHJ⟩
   replace h:=(zxO z7z z6F).symm.trans h
   letI : Rnd:=aft zeY
   refine WC.b (WC.b (WC.a ?_))
   refine WL.a (d:=39) rfl rfl rfl (y4 y71 rfl rfl) ?_
   refine WL.a (d:=40) rfl rfl rfl (yc y3s rfl (yp .h1 rfl)) ?_
   refine WL.pu rfl (WL.nil (WX.a ?_))
   refine WC.cond rfl (fun zkd=>?_) (fun zkd=>?_)
   ·replace h:=yd h zkd
    refine WC.b ?_
    refine WC.yH (fun i=>[].contains i) [] rfl ?_
    refine WD.a (i:=0) (d:=42) (by kernel_rfl) rfl z6 z7 rfl rfl rfl (fun _=>y4 y71 rfl rfl) ?_
    refine WD.e (i:=1) (d:=43) (by kernel_rfl) rfl z6 z7 rfl rfl rfl (yc y3s rfl (yp .h1 rfl)) ?_
    refine WD.a (i:=2) (d:=2) (by kernel_rfl) rfl z6 z7 rfl rfl rfl (fun _=>q_z rfl) ?_
    refine WD.a (i:=3) (d:=3) (by kernel_rfl) rfl z6 z7 rfl rfl rfl (fun _=>q_z rfl) ?_
    refine WD.done (by kernel_rfl) ?_
    refine WX.a (WC.ret (WX.y6 ?_))
    refine WX.nilRow 40 2 ?_
    obtain rfl:=Option.some.inj h
    refine WX.y5J .h5 Tryz.results76 (.tmp rfl (.tmp rfl .nil)) (fun w hw=>?_)
    exact ⟨zaT,none,0,yF rfl rfl,trivial,hw.sub (.cons .h2 (.cons .h1 .nil))⟩
   ·replace h:=ye h zkd
    refine WC.skip (WX.a (WC.b ?_))
    obtain ⟨zk7,zy6,h⟩:=z8 h
    refine WC.a ?_
    refine WL.a (d:=44) rfl rfl rfl (yc y4r rfl (yp .h2 rfl)) ?_
    refine WL.y7r (dd:=45) rfl rfl rfl (za (l:=[.tmp 44,.func 24]) Tryz.call86 (.cons rfl (.cons rfl .nil))) (.cons .h3 .nil) (ccz hz (.cons .h3 .nil) .here fun w pz ho=>y5u _ _ _ (z99:=24) (zce:=[]) _ (zcd:=(fun (y0 : z1) (y1 : z1)=>yM y0 y1)) _ zy6 w pz Tryz.call24 (fun w' hz' y0 y1  r  hr=>y2w _ _ _ _ hr w' hz' ) ho) ?_
    rintro  zy7
    refine WL.restb (cs':=[(.slice zck zk7.length zcl)]) .h3 (by rw [zy7]) ?_
    refine WL.nil (WX.a (WC.b ?_))
    obtain ⟨zra,zy8,h⟩:=z8 h
    refine WC.a ?_
    refine WL.a (d:=46) rfl rfl rfl (yc y4r rfl (yp .here rfl)) ?_
    refine WL.y6s (dd:=47) rfl rfl rfl (za (l:=[.tmp 46]) Tryz.call87 (.cons rfl .nil)) (.cons .h1 .nil) (ccz hz (.cons .h1 .nil) .h1 fun w pz ho=>y5E _ _ _ _ _ zy8 w pz  ho) ?_
    rintro zy9 zya _
    refine WL.pu rfl (WL.pu rfl (WL.nil (WX.a (WC.ret ?_))))
    obtain rfl:=Option.some.inj h
    refine WX.y5J .h4 Tryz.results76 (.tmp rfl (.tmp rfl .nil)) (fun w hw=>?_)
    exact ⟨zaT,zy9,zya,yF rfl rfl,trivial,hw.sub (.cons .h3 (.cons .h1 .nil))⟩
def y2m (z2Q : z2) (z2R : z2) : Option Int :=
 (yM z2Q.fR z2R.fR).bind fun zrg=>some zrg
set_option maxRecDepth 20000 in
theorem ya7 (Z : Zp)  (z2Q : z2) (z2R : z2) (r : Int)
  (h : y2m z2Q z2R = some r) (w₀ : World) (hz : PZ [] w₀ Z) :
  Calls Tryz.prog 89 #[(.agg #[(.int .i64 z2Q.fB.fN),(.int .i64 z2Q.fB.fD),(.int .i64 z2Q.fR.fN),(.int .i64 z2Q.fR.fD)]),(.agg #[(.int .i64 z2R.fB.fN),(.int .i64 z2R.fB.fD),(.int .i64 z2R.fR.fN),(.int .i64 z2R.fR.fD)])] w₀ fun e w'=>e = .returned (.int .i64 r) ∧ Hp [] w₀ w' []:=by
 unfold y2m at h
 refine Calls.yg (vs:=[(.agg #[(.int .i64 z2Q.fB.fN),(.int .i64 z2Q.fB.fD),(.int .i64 z2Q.fR.fN),(.int .i64 z2Q.fR.fD)]),(.agg #[(.int .i64 z2R.fB.fN),(.int .i64 z2R.fB.fD),(.int .i64 z2R.fR.fN),(.int .i64 z2R.fR.fD)])]) (pre:=[]) (env:=[(0,(.agg #[(.int .i64 z2Q.fB.fN),(.int .i64 z2Q.fB.fD),(.int .i64 z2Q.fR.fN),(.int .i64 z2Q.fR.fD)])),(1,(.agg #[(.int .i64 z2R.fB.fN),(.int .i64 z2R.fB.fD),(.int .i64 z2R.fR.fN),(.int .i64 z2R.fR.fD)]))]) Tryz.func89 rfl Tryz.ntmps89 rfl (Hp.nil w₀ _) rfl ?_
 refine WC.b (WC.a ?_)
 refine WL.new (dd:=2) rfl rfl rfl (yx (cs:=[(.int .i64 z2Q.fB.fN),(.int .i64 z2Q.fB.fD),(.int .i64 z2Q.fR.fN),(.int .i64 z2Q.fR.fD)]) rfl rfl) ?_
 intro zHK _
 refine WL.new (dd:=3) rfl rfl rfl (yx (cs:=[(.int .i64 z2R.fB.fN),(.int .i64 z2R.fB.fD),(.int .i64 z2R.fR.fN),(.int .i64 z2R.fR.fD)]) rfl rfl) ?_
 intro zHL _
 refine WL.pu rfl (WL.nil (WX.a (WC.b ?_)))
 obtain ⟨zrg,zyb,h⟩:=z8 h
 refine WC.a ?_
 refine WL.a (d:=5) rfl rfl rfl (y4 y2T rfl rfl) ?_
 refine WL.a (d:=6) rfl rfl rfl (ys (cs:=[(.int .i64 z2Q.fR.fN),(.int .i64 z2Q.fR.fD)]) y5 rfl rfl (yW (s:=2) .h1 rfl)) ?_
 refine WL.a (d:=7) rfl rfl rfl (y4 y2T rfl rfl) ?_
 refine WL.a (d:=8) rfl rfl rfl (ys (cs:=[(.int .i64 z2R.fR.fN),(.int .i64 z2R.fR.fD)]) y5 rfl rfl (yW (s:=2) .here rfl)) ?_
 refine WL.b (dd:=9) rfl rfl rfl (za (l:=[.tmp 6,.tmp 8]) Tryz.call24 (.cons rfl (.cons rfl .nil))) .nil (cc hz .nil fun w pz ho=>y2w _ _ _ _ zyb w pz ) ?_
 refine WL.pu rfl (WL.nil (WX.a (WC.ret ?_)))
 obtain rfl:=Option.some.inj h
 refine WX.y8 Tryz.results89 (.tmp rfl .nil) (fun w hw=>?_)
 exact ⟨yD rfl,hw.sub .nil⟩
def yJ (zN : List z2) (z6e : z2 → z2 → Option Int) (z7A : Int → Int → Int → Int → Option z2) : Nat → Int → Int → Int → Int → Int → Option z2
 | 0,_,_,_,_,_=>none
 | zke + 1,z1k,z4j,z4k,z4l,z4m=>if decide (z1k < ((zN.length : Nat) : Int)) then jp4 (fun (z7B : Int) (z7C : Int) (z7D : Int) (z7E : Int)=>yJ zN z6e z7A zke (i64 (z1k + 1)) z7B z7C z7D z7E) fun zhj=>chk ((0 : Int) ≤ z1k ∧ z1k < ((zN.length : Nat) : Int)) ((z6e (⟨(⟨(((nth zN z1k).fB).fN),(((nth zN z1k).fB).fD)⟩ : z1),(⟨(((nth zN z1k).fR).fN),(((nth zN z1k).fR).fD)⟩ : z1)⟩ : z2) (⟨(⟨z4j,z4k⟩ : z1),(⟨z4l,z4m⟩ : z1)⟩ : z2)).bind fun zkf=>if decide (zkf < 0) then chk ((0 : Int) ≤ z1k ∧ z1k < ((zN.length : Nat) : Int)) (zhj (((nth zN z1k).fB).fN) (((nth zN z1k).fB).fD) (((nth zN z1k).fR).fN) (((nth zN z1k).fR).fD)) else zhj z4j z4k z4l z4m) else z7A z4j z4k z4l z4m
theorem y4h {n : Nat} {zN : List z2} {z6e : z2 → z2 → Option Int} {z7A : Int → Int → Int → Int → Option z2} {z1k : Int} {z4j : Int} {z4k : Int} {z4l : Int} {z4m : Int} {r : z2} (h : yJ zN z6e z7A n z1k z4j z4k z4l z4m = some r) : ∃ m,n = m + 1:=by
 cases n with
 | zero=>cases h
 | succ m=>exact ⟨m,rfl⟩
def y1l (zN : List z2) (z6e : z2 → z2 → Option Int) : Option z2 :=
 if decide (((zN.length : Nat) : Int) < 1) then none else chk ((0 : Int) ≤ 0 ∧ 0 < ((zN.length : Nat) : Int)) (jp4 (fun (z9b : Int) (z9c : Int) (z9d : Int) (z9e : Int)=>some (⟨(⟨z9b,z9c⟩ : z1),(⟨z9d,z9e⟩ : z1)⟩ : z2)) fun z7A=>yJ zN z6e z7A yu 1 (((nth zN 0).fB).fN) (((nth zN 0).fB).fD) (((nth zN 0).fR).fN) (((nth zN 0).fR).fD))
set_option maxRecDepth 20000 in
theorem y4T (Z : Zp) (zco : Option Addr) (zcp : Nat) (z6G : FuncId) (z9f : List Value) (zN : List z2) (z6e : z2 → z2 → Option Int) (r : z2)
  (h : y1l zN z6e = some r) (w₀ : World) (hz : PZ [] w₀ Z)
  (zkg : ZS Z 4 (fun r x=>r = e54 x) zco zcp zN)
  (zyc : ∀ args w,(callFunc z6G args).run Tryz.prog w = .ok (.enter z6G args) w)
  (zyd : ∀ w : World,PZ [] w Z → ∀ (x0 : z2) (x1 : z2) (r : Int),z6e x0 x1 = some r → Calls Tryz.prog z6G (([(.agg #[(.int .i64 x0.fB.fN),(.int .i64 x0.fB.fD),(.int .i64 x0.fR.fN),(.int .i64 x0.fR.fD)]),(.agg #[(.int .i64 x1.fB.fN),(.int .i64 x1.fB.fD),(.int .i64 x1.fR.fN),(.int .i64 x1.fR.fD)])] : List Value) ++ z9f).toArray w fun e w'=>e = .returned (.int .i64 r) ∧ Hp [] w w' []) :
  Calls Tryz.prog 88 #[(.slice zco zN.length zcp),(.func (.func z6G) #[] (z9f).toArray)] w₀ fun e w'=>e = .returned (.agg #[(.int .i64 r.fB.fN),(.int .i64 r.fB.fD),(.int .i64 r.fR.fN),(.int .i64 r.fR.fD)]) ∧ Hp [] w₀ w' []:=by
 unfold y1l at h
 refine Calls.yg (vs:=[(.slice zco zN.length zcp),(.func (.func z6G) #[] (z9f).toArray)]) (pre:=[]) (env:=[(0,(.slice zco zN.length zcp)),(1,(.func (.func z6G) #[] (z9f).toArray))]) Tryz.func88 rfl Tryz.ntmps88 rfl (Hp.nil w₀ _) rfl ?_
 refine WC.b (WC.a ?_)
 refine WL.new (dd:=4) rfl rfl rfl (yk (cs:=[(.int .i64 0),(.int .i64 0),(.int .i64 0),(.int .i64 0)]) y4A rfl) ?_
 intro zcq _
 refine WL.nil (WX.a (WC.b (WC.b (WC.a (WL.pu rfl ?_)))))
 refine WL.a (d:=8) rfl rfl rfl (yP Tryz.underlying23 rfl) ?_
 refine WL.pu rfl (WL.nil (WX.a ?_))
 refine WC.cond rfl (fun zkh=>?_) (fun zkh=>?_)
 ·replace h:=yd h zkh
  cases h
 ·replace h:=ye h zkh
  refine WC.skip (WX.a (WC.b ?_))
  obtain ⟨zye,h⟩:=yj h
  refine WC.a (WL.pu rfl ?_)
  refine WL.znth (dd:=12) rfl rfl (Z:=Z) (Pr:=(fun r x=>r = e54 x)) yS rfl rfl zkg zye ?_
  rintro zHM zHN zyf zHO rfl
  refine WL.a (d:=13) rfl rfl rfl (y9 y1q rfl (y2k hz.pv zyf) rfl) ?_
  refine WL.new (dd:=5) rfl rfl rfl (yk (cs:=[(.int .i64 0),(.int .i64 0),(.int .i64 0),(.int .i64 0)]) y4A rfl) ?_
  intro zcr _
  refine WL.yb rfl rfl (ya y4K rfl rfl rfl .here rfl rfl rfl) ?_
  refine WL.nil (WX.a ?_)
  obtain ⟨z7A,zyg,h⟩:=y86 h
  refine WC.y3P (fun (z9b : Int) (z9c : Int) (z9d : Int) (z9e : Int)=>(z7A z9b z9c z9d z9e = some r)) (fun (z9b : Int) (z9c : Int) (z9d : Int) (z9e : Int)=>[(4,(.pointer (some ⟨zcq,0,none⟩))),(5,(.pointer (some ⟨zcr,0,none⟩)))]) (fun (z9b : Int) (z9c : Int) (z9d : Int) (z9e : Int)=>[stb zcq 54 [(.int .i64 0),(.int .i64 0),(.int .i64 0),(.int .i64 0)],stb zcr 54 [(.int .i64 z9b),(.int .i64 z9c),(.int .i64 z9d),(.int .i64 z9e)]]) ?_ ?_
  ·skip
   refine WC.b (WC.a (WL.pu rfl (WL.nil (WX.a (WC.block ?_)))))
   refine WC.y4V (fun (zcs : Nat) (z1k : Int) (z4j : Int) (z4k : Int) (z4l : Int) (z4m : Int)=>(yJ zN z6e z7A zcs z1k z4j z4k z4l z4m = some r)) (fun (zcs : Nat) (z1k : Int) (z4j : Int) (z4k : Int) (z4l : Int) (z4m : Int)=>[(0,(.slice zco zN.length zcp)),(1,(.func (.func z6G) #[] (z9f).toArray)),(4,(.pointer (some ⟨zcq,0,none⟩))),(5,(.pointer (some ⟨zcr,0,none⟩))),(6,(.int .i64 z1k))]) (fun (zcs : Nat) (z1k : Int) (z4j : Int) (z4k : Int) (z4l : Int) (z4m : Int)=>[stb zcq 54 [(.int .i64 0),(.int .i64 0),(.int .i64 0),(.int .i64 0)],stb zcr 54 [(.int .i64 z4j),(.int .i64 z4k),(.int .i64 z4l),(.int .i64 z4m)]]) (fun (zcs : Nat) (z1k : Int) (z4j : Int) (z4k : Int) (z4l : Int) (z4m : Int)=>zcs) ⟨yu,1,(((nth zN 0).fB).fN),(((nth zN 0).fB).fD),(((nth zN 0).fR).fN),(((nth zN 0).fR).fD)⟩ h (.cons rfl (.cons rfl (.cons rfl (.cons rfl (.cons rfl .nil))))) (.cons .h1 (.cons .here .nil)) ?_
   rintro zcs z1k z4j z4k z4l z4m h
   obtain ⟨zke,rfl⟩:=y4h h
   rw [yJ] at h
   refine WC.b (WC.b (WC.a (WL.pu rfl (WL.pu rfl ?_))))
   refine WL.a (d:=16) rfl rfl rfl (yP Tryz.underlying23 rfl) ?_
   refine WL.pu rfl (WL.nil (WX.a ?_))
   refine WC.cond rfl (fun zki=>?_) (fun zki=>?_)
   ·replace h:=yd h zki
    refine WC.skip (WX.a ?_)
    obtain ⟨zhj,zyh,h⟩:=y86 h
    refine WC.y3P (fun (z7B : Int) (z7C : Int) (z7D : Int) (z7E : Int)=>(zhj z7B z7C z7D z7E = some r)) (fun (z7B : Int) (z7C : Int) (z7D : Int) (z7E : Int)=>[(0,(.slice zco zN.length zcp)),(1,(.func (.func z6G) #[] (z9f).toArray)),(4,(.pointer (some ⟨zcq,0,none⟩))),(5,(.pointer (some ⟨zcr,0,none⟩))),(6,(.int .i64 z1k))]) (fun (z7B : Int) (z7C : Int) (z7D : Int) (z7E : Int)=>[stb zcq 54 [(.int .i64 0),(.int .i64 0),(.int .i64 0),(.int .i64 0)],stb zcr 54 [(.int .i64 z7B),(.int .i64 z7C),(.int .i64 z7D),(.int .i64 z7E)]]) ?_ ?_
    ·skip
     refine WC.block (WC.b ?_)
     obtain ⟨zyi,h⟩:=yj h
     obtain ⟨zkf,zyj,h⟩:=z8 h
     refine WC.yH (fun i=>[].contains i) [] rfl ?_
     refine WD.a (i:=0) (d:=20) (by kernel_rfl) rfl z6 z7 rfl rfl rfl (fun _=>q_m rfl) ?_
     refine WD.a (i:=1) (d:=21) (by kernel_rfl) rfl z6 z7 rfl rfl rfl (fun _=>q_m rfl) ?_
     refine WD.a (i:=2) (d:=22) (by kernel_rfl) rfl z6 z7 rfl rfl rfl (fun _=>q_m rfl) ?_
     refine WD.znth (j:=3) (dd:=23) (by kernel_rfl) rfl z6 z7 rfl rfl (Z:=Z) (Pr:=(fun r x=>r = e54 x)) yS rfl rfl zkg zyi ?_
     rintro zHP zHQ zyk zHR rfl
     refine WD.e (i:=4) (d:=24) (by kernel_rfl) rfl z6 z7 rfl rfl rfl (y9 y1q rfl (y2k hz.pv zyk) rfl) ?_
     refine WD.e (i:=5) (d:=25) (by kernel_rfl) rfl z6 z7 rfl rfl rfl (y9 y1q rfl (y7 .h1) rfl) ?_
     refine WD.c (i:=6) (d:=26) (by kernel_rfl) rfl z6 z7 rfl rfl rfl (y3i (l:=[.tmp 24,.tmp 25]) (f:=z6G) (caps:=z9f) zyc rfl (.cons rfl (.cons rfl .nil))) (fun w hw=>zyd w (hz.now hw) (⟨(⟨(((nth zN z1k).fB).fN),(((nth zN z1k).fB).fD)⟩ : z1),(⟨(((nth zN z1k).fR).fN),(((nth zN z1k).fR).fD)⟩ : z1)⟩ : z2) (⟨(⟨z4j,z4k⟩ : z1),(⟨z4l,z4m⟩ : z1)⟩ : z2) zkf  zyj) ?_
     refine WD.a (i:=7) (d:=27) (by kernel_rfl) rfl z6 z7 rfl rfl rfl (fun _=>y8M rfl rfl) ?_
     refine WD.done (by kernel_rfl) ?_
     refine WX.a ?_
     refine WC.cond rfl (fun zkj=>?_) (fun zkj=>?_)
     ·replace h:=yd h zkj
      obtain ⟨zyl,h⟩:=yj h
      refine WC.a (WL.pu rfl (WL.pu rfl ?_))
      refine WL.znth (dd:=30) rfl rfl (Z:=Z) (Pr:=(fun r x=>r = e54 x)) yS rfl rfl zkg zyl ?_
      rintro zHS zHT zym zHU rfl
      refine WL.a (d:=31) rfl rfl rfl (y9 y1q rfl (y2k hz.pv zym) rfl) ?_
      refine WL.yb rfl rfl (ya y4K rfl rfl rfl .h1 rfl rfl rfl) ?_
      refine WL.nil (WX.yi ?_)
      exact WX.mid (G:=Int × Int × Int × Int) ⟨(((nth zN z1k).fB).fN),(((nth zN z1k).fB).fD),(((nth zN z1k).fR).fN),(((nth zN z1k).fR).fD)⟩ h (.cons rfl (.cons rfl (.cons rfl (.cons rfl (.cons rfl .nil))))) (.cons .h1 (.cons .here .nil))
     ·replace h:=ye h zkj
      refine WC.skip (WX.yi ?_)
      exact WX.mid (G:=Int × Int × Int × Int) ⟨z4j,z4k,z4l,z4m⟩ h (.cons rfl (.cons rfl (.cons rfl (.cons rfl (.cons rfl .nil))))) (.cons .here (.cons .here .nil))
    ·rintro z7B z7C z7D z7E h
     replace h:=(zyh z7B z7C z7D z7E).symm.trans h
     refine WC.a (WL.pu rfl (WL.pu rfl (WL.pu rfl (WL.nil ?_))))
     exact WX.round (G:=Nat × Int × Int × Int × Int × Int) ⟨zke,(i64 (z1k + 1)),z7B,z7C,z7D,z7E⟩ h (Nat.lt_succ_self _) (.cons rfl (.cons rfl (.cons rfl (.cons rfl (.cons rfl .nil))))) (.cons .here (.cons .here .nil))
   ·replace h:=ye h zki
    refine WC.exit (WX.yf (WX.yf (WX.yv ?_)))
    exact WX.mid (G:=Int × Int × Int × Int) ⟨z4j,z4k,z4l,z4m⟩ h (.cons rfl (.cons rfl .nil)) (.cons .here (.cons .here .nil))
  ·rintro z9b z9c z9d z9e h
   replace h:=(zyg z9b z9c z9d z9e).symm.trans h
   refine WC.b (WC.a ?_)
   refine WL.a (d:=32) rfl rfl rfl (y9 y1q rfl (y7 .h1) rfl) ?_
   refine WL.yb rfl rfl (ya y4K rfl rfl rfl .here rfl rfl rfl) ?_
   refine WL.nil (WX.a (WC.ret ?_))
   obtain rfl:=Option.some.inj h
   refine WX.y8 Tryz.results88 (.agg rfl y1q rfl (y7 .here) .nil) (fun w hw=>?_)
   exact ⟨yD rfl,hw.sub .nil⟩
def y2C (z9g : List z2) : Option (z1 × Int) :=
 (y2K z9g).bind fun zrh=>if !zrh then some ((⟨0,0⟩ : z1),2) else (y1l z9g (fun (y0 : z2) (y1 : z2)=>y2m y0 y1)).bind fun zhk=>some (zhk.fR,0)
set_option maxRecDepth 20000 in
theorem y8C (Z : Zp) (zhl : Option Addr) (zhm : Nat) (z9g : List z2) (r : z1 × Int)
  (h : y2C z9g = some r) (w₀ : World) (hz : PZ [] w₀ Z)
  (zri : ZS Z 4 (fun r x=>r = e54 x) zhl zhm z9g) :
  Calls Tryz.prog 77 #[(.slice zhl z9g.length zhm)] w₀ fun e w'=>e = .returned (.tuple #[(.agg #[(.int .i64 r.1.fN),(.int .i64 r.1.fD)]),(.int .i64 r.2)]) ∧ Hp [] w₀ w' []:=by
 unfold y2C at h
 refine Calls.yg (vs:=[(.slice zhl z9g.length zhm)]) (pre:=[]) (env:=[(0,(.slice zhl z9g.length zhm))]) Tryz.func77 rfl Tryz.ntmps77 rfl (Hp.nil w₀ _) rfl ?_
 refine WC.b (WC.a ?_)
 refine WL.new (dd:=2) rfl rfl rfl (yk (cs:=[(.int .i64 0),(.int .i64 0)]) yo rfl) ?_
 intro zHV _
 refine WL.pu rfl (WL.nil (WX.a (WC.b (WC.b ?_))))
 obtain ⟨zrh,zyn,h⟩:=z8 h
 refine WC.a (WL.pu rfl ?_)
 refine WL.b (dd:=5) rfl rfl rfl (za (l:=[.tmp 4]) Tryz.call21 (.cons rfl .nil)) .nil (cc hz .nil fun w pz ho=>y4G _ _ _ _ _ zyn w pz zri) ?_
 refine WL.pu rfl (WL.nil (WX.a ?_))
 refine WC.cond rfl (fun zkk=>?_) (fun zkk=>?_)
 ·replace h:=yd h zkk
  refine WC.b (WC.a ?_)
  refine WL.a (d:=7) rfl rfl rfl (yz (v:=(.agg #[(.int .i64 0),(.int .i64 0)])) (Eos.parts (l:=[]) .nil []) (fun _=>by kernel_rfl)) ?_
  refine WL.yb rfl rfl (ya yh rfl rfl rfl .here rfl rfl rfl) ?_
  refine WL.pu rfl (WL.nil (WX.a (WC.ret (WX.y6 ?_))))
  obtain rfl:=Option.some.inj h
  refine WX.y8 Tryz.results77 (.agg rfl y5 rfl (y7 .here) (.tmp rfl .nil)) (fun w hw=>?_)
  exact ⟨yF rfl rfl,hw.sub .nil⟩
 ·replace h:=ye h zkk
  refine WC.skip (WX.a (WC.b ?_))
  obtain ⟨zhk,zyo,h⟩:=z8 h
  refine WC.a (WL.pu rfl ?_)
  refine WL.b (dd:=9) rfl rfl rfl (za (l:=[.tmp 8,.func 89]) Tryz.call88 (.cons rfl (.cons rfl .nil))) .nil (cc hz .nil fun w pz ho=>y4T _ _ _ (z6G:=89) (z9f:=[]) _ (z6e:=(fun (y0 : z2) (y1 : z2)=>y2m y0 y1)) _ zyo w pz zri Tryz.call89 (fun w' hz' y0 y1  r  hr=>ya7 _ _ _ _ hr w' hz' )) ?_
  refine WL.a (d:=10) rfl rfl rfl (q_fieldA (cs':=#[(.int .i64 zhk.fR.fN),(.int .i64 zhk.fR.fD)]) yco y5 rfl rfl) ?_
  refine WL.yb rfl rfl (ya yh rfl rfl rfl .here rfl rfl rfl) ?_
  refine WL.pu rfl (WL.nil (WX.a (WC.ret ?_)))
  obtain rfl:=Option.some.inj h
  refine WX.y8 Tryz.results77 (.agg rfl y5 rfl (y7 .here) (.tmp rfl .nil)) (fun w hw=>?_)
  exact ⟨yF rfl rfl,hw.sub .nil⟩
def y63 (zaU : z1) (zaV : z1) : Option (Int × Int) :=
 some ((i64 ((i64 (zaU.fN * zaV.fD)) + (i64 (zaV.fN * zaU.fD)))),(i64 (zaU.fD * zaV.fD)))
set_option maxRecDepth 20000 in
theorem yc2 (Z : Zp) (zhn : Addr) (zho : Addr) (zaU : z1) (zaV : z1) (r : Int × Int)
  (h : y63 zaU zaV = some r) (w₀ : World) (hz : PZ [] w₀ Z)
  (zkl : ZC Z zhn [(.int .i64 zaU.fN),(.int .i64 zaU.fD)])
  (zkm : ZC Z zho [(.int .i64 zaV.fN),(.int .i64 zaV.fD)]) :
  Calls Tryz.prog 69 #[(.pointer (some zhn)),(.pointer (some zho))] w₀ fun e w'=>e = .returned (.tuple #[(.int .i64 r.1),(.int .i64 r.2)]) ∧ Hp [] w₀ w' []:=by
 unfold y63 at h
 refine Calls.yg (vs:=[(.pointer (some zhn)),(.pointer (some zho))]) (pre:=[]) (env:=[(0,(.pointer (some zhn))),(1,(.pointer (some zho)))]) Tryz.func69 rfl Tryz.ntmps69 rfl (Hp.nil w₀ _) rfl ?_
 refine WC.b (WC.a (WL.pu rfl (WL.pu rfl (WL.nil (WX.a (WC.b ?_))))))
 refine WC.yH (fun i=>[].contains i) [] rfl ?_
 refine WD.a (i:=0) (d:=4) (by kernel_rfl) rfl z6 z7 rfl rfl rfl (fun _=>y4 yL rfl rfl) ?_
 refine WD.e (i:=1) (d:=5) (by kernel_rfl) rfl z6 z7 rfl rfl rfl (yc yr rfl (y1V hz.pv zkl rfl)) ?_
 refine WD.a (i:=2) (d:=6) (by kernel_rfl) rfl z6 z7 rfl rfl rfl (fun _=>y4 yN rfl rfl) ?_
 refine WD.e (i:=3) (d:=7) (by kernel_rfl) rfl z6 z7 rfl rfl rfl (yc yr rfl (y1V hz.pv zkm rfl)) ?_
 refine WD.a (i:=4) (d:=8) (by kernel_rfl) rfl z6 z7 rfl rfl rfl (fun _=>y58 rfl rfl rfl) ?_
 refine WD.a (i:=5) (d:=9) (by kernel_rfl) rfl z6 z7 rfl rfl rfl (fun _=>y4 yL rfl rfl) ?_
 refine WD.e (i:=6) (d:=10) (by kernel_rfl) rfl z6 z7 rfl rfl rfl (yc yr rfl (y1V hz.pv zkm rfl)) ?_
 refine WD.a (i:=7) (d:=11) (by kernel_rfl) rfl z6 z7 rfl rfl rfl (fun _=>y4 yN rfl rfl) ?_
 refine WD.e (i:=8) (d:=12) (by kernel_rfl) rfl z6 z7 rfl rfl rfl (yc yr rfl (y1V hz.pv zkl rfl)) ?_
 refine WD.a (i:=9) (d:=13) (by kernel_rfl) rfl z6 z7 rfl rfl rfl (fun _=>y58 rfl rfl rfl) ?_
 refine WD.a (i:=10) (d:=14) (by kernel_rfl) rfl z6 z7 rfl rfl rfl (fun _=>y80 rfl rfl rfl) ?_
 refine WD.a (i:=11) (d:=15) (by kernel_rfl) rfl z6 z7 rfl rfl rfl (fun _=>y4 yN rfl rfl) ?_
 refine WD.e (i:=12) (d:=16) (by kernel_rfl) rfl z6 z7 rfl rfl rfl (yc yr rfl (y1V hz.pv zkl rfl)) ?_
 refine WD.a (i:=13) (d:=17) (by kernel_rfl) rfl z6 z7 rfl rfl rfl (fun _=>y4 yN rfl rfl) ?_
 refine WD.e (i:=14) (d:=18) (by kernel_rfl) rfl z6 z7 rfl rfl rfl (yc yr rfl (y1V hz.pv zkm rfl)) ?_
 refine WD.a (i:=15) (d:=19) (by kernel_rfl) rfl z6 z7 rfl rfl rfl (fun _=>y58 rfl rfl rfl) ?_
 refine WD.a (i:=16) (d:=2) (by kernel_rfl) rfl z6 z7 rfl rfl rfl (fun _=>q_z rfl) ?_
 refine WD.a (i:=17) (d:=3) (by kernel_rfl) rfl z6 z7 rfl rfl rfl (fun _=>q_z rfl) ?_
 refine WD.done (by kernel_rfl) ?_
 refine WX.a (WC.ret ?_)
 obtain rfl:=Option.some.inj h
 refine WX.y8 Tryz.results69 (.tmp rfl (.tmp rfl .nil)) (fun w hw=>?_)
 exact ⟨yF rfl rfl,hw.sub .nil⟩
def y5M (z5E : z1) (z5F : z1) : Option (z1 × Int) :=
 (y1m z5E).bind fun zrj=>(if !zrj then some true else (y1m z5F).bind fun zrk=>some (!zrk)).bind fun zhp=>if zhp then some ((⟨0,0⟩ : z1),2) else (y63 z5E z5F).bind fun zkn=>(y3Q zkn.1 zkn.2).bind fun zko=>some (zko.1,zko.2)
set_option maxRecDepth 20000 in
theorem ycq (Z : Zp)  (z5E : z1) (z5F : z1) (r : z1 × Int)
  (h : y5M z5E z5F = some r) (w₀ : World) (hz : PZ [] w₀ Z) :
  Calls Tryz.prog 53 #[(.string ⟨#[43]⟩),(.agg #[(.int .i64 z5E.fN),(.int .i64 z5E.fD)]),(.agg #[(.int .i64 z5F.fN),(.int .i64 z5F.fD)])] w₀ fun e w'=>e = .returned (.tuple #[(.agg #[(.int .i64 r.1.fN),(.int .i64 r.1.fD)]),(.int .i64 r.2)]) ∧ Hp [] w₀ w' []:=by
 unfold y5M at h
 refine Calls.yg (vs:=[(.string ⟨#[43]⟩),(.agg #[(.int .i64 z5E.fN),(.int .i64 z5E.fD)]),(.agg #[(.int .i64 z5F.fN),(.int .i64 z5F.fD)])]) (pre:=[]) (env:=[(0,(.string ⟨#[43]⟩)),(1,(.agg #[(.int .i64 z5E.fN),(.int .i64 z5E.fD)])),(2,(.agg #[(.int .i64 z5F.fN),(.int .i64 z5F.fD)]))]) Tryz.func53 rfl Tryz.ntmps53 rfl (Hp.nil w₀ _) rfl ?_
 refine WC.b (WC.a ?_)
 refine WL.new (dd:=4) rfl rfl rfl (yx (cs:=[(.int .i64 z5E.fN),(.int .i64 z5E.fD)]) rfl rfl) ?_
 intro zf1 _
 refine WL.new (dd:=5) rfl rfl rfl (yx (cs:=[(.int .i64 z5F.fN),(.int .i64 z5F.fD)]) rfl rfl) ?_
 intro zf2 _
 refine WL.new (dd:=6) rfl rfl rfl (yk (cs:=[(.int .i64 0),(.int .i64 0)]) yo rfl) ?_
 intro zHW _
 refine WL.pu rfl (WL.nil (WX.a (WC.b (WC.b ?_))))
 obtain ⟨zrj,zyp,h⟩:=z8 h
 obtain ⟨zhp,zrl,h⟩:=z8 h
 refine WC.a ?_
 refine WL.a (d:=9) rfl rfl rfl (y9 y5 rfl (y7 .h2) rfl) ?_
 refine WL.b (dd:=10) rfl rfl rfl (za (l:=[.tmp 9]) Tryz.call44 (.cons rfl .nil)) .nil (cc hz .nil fun w pz ho=>y1P _ _ _ zyp w pz ) ?_
 refine WL.pu rfl (WL.pu rfl ?_)
 refine WL.seg false 3 12 (B:=zhp) rfl rfl rfl rfl rfl rfl (fun h=>(Option.some.inj (yd zrl h)).symm) (fun _ zyq=>?_) ?_
 ·skip
  have zf3:=ye zrl zyq
  obtain ⟨zrk,zyr,zf3⟩:=z8 zf3
  replace zf3:=Option.some.inj zf3
  refine WL.a (d:=13) rfl rfl rfl (y9 y5 rfl (y7 .h1) rfl) ?_
  refine WL.b (dd:=14) rfl rfl rfl (za (l:=[.tmp 13]) Tryz.call44 (.cons rfl .nil)) .nil (cc hz .nil fun w pz ho=>y1P _ _ _ zyr w pz ) ?_
  refine WL.pu rfl (WL.pu rfl ?_)
  exact WL.yw zf3 rfl rfl .all
 refine WL.pu rfl ?_
 refine WL.seg false 7 17 (B:=zhp) rfl rfl rfl rfl rfl rfl (fun h=>h) (fun _ zys=>?_) ?_
 ·skip
  refine WL.pu rfl ?_
  refine WL.a (d:=19) rfl rfl rfl (y8R (r:=false) (by decide) rfl rfl) ?_
  refine WL.pu rfl (WL.e rfl rfl rfl (WL.e rfl rfl rfl (WL.e rfl rfl rfl (WL.pu rfl (WL.pu rfl ?_)))))
  exact WL.yw (Eq.symm zys) rfl rfl .all
 refine WL.nil (WX.a ?_)
 refine WC.cond rfl (fun zkp=>?_) (fun zkp=>?_)
 ·replace h:=yd h zkp
  refine WC.b (WC.a ?_)
  refine WL.a (d:=26) rfl rfl rfl (yz (v:=(.agg #[(.int .i64 0),(.int .i64 0)])) (Eos.parts (l:=[]) .nil []) (fun _=>by kernel_rfl)) ?_
  refine WL.yb rfl rfl (ya yh rfl rfl rfl .here rfl rfl rfl) ?_
  refine WL.pu rfl (WL.nil (WX.a (WC.ret (WX.y6 ?_))))
  obtain rfl:=Option.some.inj h
  refine WX.y8 Tryz.results53 (.agg rfl y5 rfl (y7 .here) (.tmp rfl .nil)) (fun w hw=>?_)
  exact ⟨yF rfl rfl,hw.sub .nil⟩
 ·replace h:=ye h zkp
  refine WC.skip (WX.a (WC.b (WC.a ?_)))
  refine WL.new (dd:=27) rfl rfl rfl (y7s Value.string (fun x=>x)) ?_
  intro zHX _
  refine WL.a (d:=28) rfl rfl rfl (y1i (Eos.caps (l:=[.tmp 4,.tmp 5]) (.cons rfl (.cons rfl .nil)))) ?_
  refine WL.yb rfl rfl (y2r (k:=⟨#[43]⟩) (v:=(.func (.func 69) #[] #[(.pointer (some ⟨zf1,0,none⟩)),(.pointer (some ⟨zf2,0,none⟩))])) y2V Tryz.underlying106 rfl rfl rfl rfl .here) ?_
  refine WL.a (d:=29) rfl rfl rfl (y1i (Eos.caps (l:=[.tmp 4,.tmp 5]) (.cons rfl (.cons rfl .nil)))) ?_
  refine WL.yb rfl rfl (y2r (k:=⟨#[45]⟩) (v:=(.func (.func 70) #[] #[(.pointer (some ⟨zf1,0,none⟩)),(.pointer (some ⟨zf2,0,none⟩))])) y2V Tryz.underlying106 rfl rfl rfl rfl .here) ?_
  refine WL.a (d:=30) rfl rfl rfl (y1i (Eos.caps (l:=[.tmp 4,.tmp 5]) (.cons rfl (.cons rfl .nil)))) ?_
  refine WL.yb rfl rfl (y2r (k:=⟨#[42]⟩) (v:=(.func (.func 71) #[] #[(.pointer (some ⟨zf1,0,none⟩)),(.pointer (some ⟨zf2,0,none⟩))])) y2V Tryz.underlying106 rfl rfl rfl rfl .here) ?_
  refine WL.a (d:=31) rfl rfl rfl (y1i (Eos.caps (l:=[.tmp 4,.tmp 5]) (.cons rfl (.cons rfl .nil)))) ?_
  refine WL.yb rfl rfl (y2r (k:=⟨#[47]⟩) (v:=(.func (.func 72) #[] #[(.pointer (some ⟨zf1,0,none⟩)),(.pointer (some ⟨zf2,0,none⟩))])) y2V Tryz.underlying106 rfl rfl rfl rfl .here) ?_
  refine WL.pu rfl (WL.pu rfl (WL.nil (WX.a (WC.b ?_))))
  obtain ⟨zkn,zyt,h⟩:=z8 h
  obtain ⟨zko,zyu,h⟩:=z8 h
  refine WC.a (WL.pu rfl (WL.pu rfl ?_))
  refine WL.a (d:=35) rfl rfl rfl (y8Q (k:=⟨#[43]⟩) (dflt:=.nilFunc) (r:=(.func (.func 69) #[] #[(.pointer (some ⟨zf1,0,none⟩)),(.pointer (some ⟨zf2,0,none⟩))])) y2V Tryz.underlying106 zgH rfl rfl rfl .here (by rfl)) ?_
  refine WL.b (dd:=36) rfl rfl rfl (y3i (l:=[]) Tryz.call69 rfl .nil) .nil (ccl hz .nil (.cons .h3 (.cons .h2 .nil)) fun w pz ho la=>yc2 _ _ _ _ _ _ zyt w pz ((la _ (.head _) _).stb) ((la _ (.tail _ (.head _)) _).stb)) ?_
  refine WL.pu rfl (WL.pu rfl ?_)
  refine WL.b (dd:=39) rfl rfl rfl (za (l:=[.tmp 37,.tmp 38]) Tryz.call73 (.cons rfl (.cons rfl .nil))) .nil (cc hz .nil fun w pz ho=>y6P _ _ _ _ zyu w pz ) ?_
  refine WL.pu rfl (WL.pu rfl ?_)
  refine WL.yb rfl rfl (ya yh rfl rfl rfl .h1 rfl rfl rfl) ?_
  refine WL.pu rfl (WL.nil (WX.a (WC.ret ?_)))
  obtain rfl:=Option.some.inj h
  refine WX.y8 Tryz.results53 (.agg rfl y5 rfl (y7 .here) (.tmp rfl .nil)) (fun w hw=>?_)
  exact ⟨yF rfl rfl,hw.sub .nil⟩
def y1o (z6f : z1) (z6g : z1) : Option (z1 × Int) :=
 (y5M z6f z6g).bind fun zkq=>some (zkq.1,zkq.2)
set_option maxRecDepth 20000 in
theorem y5N (Z : Zp)  (z6f : z1) (z6g : z1) (r : z1 × Int)
  (h : y1o z6f z6g = some r) (w₀ : World) (hz : PZ [] w₀ Z) :
  Calls Tryz.prog 31 #[(.agg #[(.int .i64 z6f.fN),(.int .i64 z6f.fD)]),(.agg #[(.int .i64 z6g.fN),(.int .i64 z6g.fD)])] w₀ fun e w'=>e = .returned (.tuple #[(.agg #[(.int .i64 r.1.fN),(.int .i64 r.1.fD)]),(.int .i64 r.2)]) ∧ Hp [] w₀ w' []:=by
 unfold y1o at h
 refine Calls.yg (vs:=[(.agg #[(.int .i64 z6f.fN),(.int .i64 z6f.fD)]),(.agg #[(.int .i64 z6g.fN),(.int .i64 z6g.fD)])]) (pre:=[]) (env:=[(0,(.agg #[(.int .i64 z6f.fN),(.int .i64 z6f.fD)])),(1,(.agg #[(.int .i64 z6g.fN),(.int .i64 z6g.fD)]))]) Tryz.func31 rfl Tryz.ntmps31 rfl (Hp.nil w₀ _) rfl ?_
 refine WC.b (WC.a ?_)
 refine WL.new (dd:=2) rfl rfl rfl (yx (cs:=[(.int .i64 z6f.fN),(.int .i64 z6f.fD)]) rfl rfl) ?_
 intro zHY _
 refine WL.new (dd:=3) rfl rfl rfl (yx (cs:=[(.int .i64 z6g.fN),(.int .i64 z6g.fD)]) rfl rfl) ?_
 intro zHZ _
 refine WL.new (dd:=4) rfl rfl rfl (yk (cs:=[(.int .i64 0),(.int .i64 0)]) yo rfl) ?_
 intro zI0 _
 refine WL.pu rfl (WL.nil (WX.a (WC.b ?_)))
 obtain ⟨zkq,zyv,h⟩:=z8 h
 refine WC.a ?_
 refine WL.a (d:=6) rfl rfl rfl (y9 y5 rfl (y7 .h2) rfl) ?_
 refine WL.a (d:=7) rfl rfl rfl (y9 y5 rfl (y7 .h1) rfl) ?_
 refine WL.b (dd:=8) rfl rfl rfl (za (l:=[.const (.string ⟨#[43]⟩),.tmp 6,.tmp 7]) Tryz.call53 (.cons rfl (.cons rfl (.cons rfl .nil)))) .nil (cc hz .nil fun w pz ho=>ycq _ _ _ _ zyv w pz ) ?_
 refine WL.pu rfl (WL.pu rfl ?_)
 refine WL.yb rfl rfl (ya yh rfl rfl rfl .here rfl rfl rfl) ?_
 refine WL.pu rfl (WL.nil (WX.a (WC.ret ?_)))
 obtain rfl:=Option.some.inj h
 refine WX.y8 Tryz.results31 (.agg rfl y5 rfl (y7 .here) (.tmp rfl .nil)) (fun w hw=>?_)
 exact ⟨yF rfl rfl,hw.sub .nil⟩
def yO (z7F : zV) (z5b : z1 → z1 → Option (z1 × Int)) (z5G : z1) (z5H : z1) : Option (z1 × zV) :=
 if decide (z7F.fE ≠ 0) then (y1U).bind fun zrm=>some (zrm,z7F) else (z5b z5G z5H).bind fun zct=>if decide (zct.2 ≠ 0) then (y1U).bind fun zrn=>some (zrn,(⟨zct.2⟩ : zV)) else some (zct.1,(⟨zct.2⟩ : zV))
set_option maxRecDepth 20000 in
theorem y1M (Z : Zp) (z7G : Nat) (z3X : FuncId) (z4F : List Value) (z7F : zV) (z5b : z1 → z1 → Option (z1 × Int)) (z5G : z1) (z5H : z1) (r : z1 × zV)
  (h : yO z7F z5b z5G z5H = some r) (w₀ : World) (hz : PZ (fps [stb z7G 87 [(.int .i64 z7F.fE)]]) w₀ Z)
  (zyw : ∀ args w,(callFunc z3X args).run Tryz.prog w = .ok (.enter z3X args) w)
  (zyx : ∀ w : World,PZ [] w Z → ∀ (x0 : z1) (x1 : z1) (r : z1 × Int),z5b x0 x1 = some r → Calls Tryz.prog z3X (([(.agg #[(.int .i64 x0.fN),(.int .i64 x0.fD)]),(.agg #[(.int .i64 x1.fN),(.int .i64 x1.fD)])] : List Value) ++ z4F).toArray w fun e w'=>e = .returned (.tuple #[(.agg #[(.int .i64 r.1.fN),(.int .i64 r.1.fD)]),(.int .i64 r.2)]) ∧ Hp [] w w' [])
  (hown : Hp (fps [stb z7G 87 [(.int .i64 z7F.fE)]]) w₀ w₀ [stb z7G 87 [(.int .i64 z7F.fE)]]) :
  Calls Tryz.prog 30 #[(.pointer (some ⟨z7G,0,none⟩)),(.func (.func z3X) #[] (z4F).toArray),(.agg #[(.int .i64 z5G.fN),(.int .i64 z5G.fD)]),(.agg #[(.int .i64 z5H.fN),(.int .i64 z5H.fD)])] w₀ fun e w'=>e = .returned (.agg #[(.int .i64 r.1.fN),(.int .i64 r.1.fD)]) ∧ Hp (fps [stb z7G 87 [(.int .i64 z7F.fE)]]) w₀ w' [stb z7G 87 [(.int .i64 r.2.fE)]]:=by
 unfold yO at h
 refine Calls.yg (vs:=[(.pointer (some ⟨z7G,0,none⟩)),(.func (.func z3X) #[] (z4F).toArray),(.agg #[(.int .i64 z5G.fN),(.int .i64 z5G.fD)]),(.agg #[(.int .i64 z5H.fN),(.int .i64 z5H.fD)])]) (pre:=[stb z7G 87 [(.int .i64 z7F.fE)]]) (env:=[(0,(.pointer (some ⟨z7G,0,none⟩))),(1,(.func (.func z3X) #[] (z4F).toArray)),(2,(.agg #[(.int .i64 z5G.fN),(.int .i64 z5G.fD)])),(3,(.agg #[(.int .i64 z5H.fN),(.int .i64 z5H.fD)]))]) Tryz.func30 rfl Tryz.ntmps30 rfl (hown) rfl ?_
 refine WC.b (WC.a ?_)
 refine WL.new (dd:=6) rfl rfl rfl (yx (cs:=[(.int .i64 z5G.fN),(.int .i64 z5G.fD)]) rfl rfl) ?_
 intro zI1 _
 refine WL.new (dd:=7) rfl rfl rfl (yx (cs:=[(.int .i64 z5H.fN),(.int .i64 z5H.fD)]) rfl rfl) ?_
 intro zI2 _
 refine WL.new (dd:=8) rfl rfl rfl (yk (cs:=[(.int .i64 0),(.int .i64 0)]) yo rfl) ?_
 intro zI3 _
 refine WL.nil (WX.a (WC.b (WC.b (WC.a (WL.pu rfl ?_)))))
 refine WL.a (d:=12) rfl rfl rfl (y57 rfl) ?_
 refine WL.a (d:=13) rfl rfl rfl (y4 y48 rfl rfl) ?_
 refine WL.a (d:=14) rfl rfl rfl (yc y3s rfl (yp .h3 rfl)) ?_
 refine WL.pu rfl (WL.nil (WX.a ?_))
 refine WC.cond rfl (fun zkr=>?_) (fun zkr=>?_)
 ·replace h:=yd h zkr
  refine WC.b ?_
  obtain ⟨zrm,zyy,h⟩:=z8 h
  refine WC.a ?_
  refine WL.b (dd:=16) rfl rfl rfl (za (l:=[]) Tryz.call52 .nil) .nil (cc hz .nil fun w pz ho=>y37 _ _ zyy w pz ) ?_
  refine WL.yb rfl rfl (ya yh rfl rfl rfl .here rfl rfl rfl) ?_
  refine WL.nil (WX.a (WC.ret (WX.y6 ?_)))
  obtain rfl:=Option.some.inj h
  refine WX.y8 Tryz.results30 (.agg rfl y5 rfl (y7 .here) .nil) (fun w hw=>?_)
  exact ⟨yD rfl,hw.sub (.cons .h3 .nil)⟩
 ·replace h:=ye h zkr
  refine WC.skip (WX.a (WC.b ?_))
  obtain ⟨zct,zyz,h⟩:=z8 h
  refine WC.a (WL.pu rfl ?_)
  refine WL.a (d:=19) rfl rfl rfl (y9 y5 rfl (y7 .h2) rfl) ?_
  refine WL.a (d:=20) rfl rfl rfl (y9 y5 rfl (y7 .h1) rfl) ?_
  refine WL.b (dd:=21) rfl rfl rfl (y3i (l:=[.tmp 19,.tmp 20]) (f:=z3X) (caps:=z4F) zyw rfl (.cons rfl (.cons rfl .nil))) .nil (fun w hw=>zyx w (hz.now hw) z5G z5H zct  zyz) ?_
  refine WL.pu rfl (WL.pu rfl (WL.pu rfl ?_))
  refine WL.new (dd:=9) rfl rfl rfl (yk (cs:=[(.int .i64 0),(.int .i64 0)]) yo rfl) ?_
  intro zI4 _
  refine WL.yb rfl rfl (ya yh rfl rfl rfl .here rfl rfl rfl) ?_
  refine WL.pu rfl (WL.nil (WX.a (WC.b (WC.b (WC.a (WL.pu rfl (WL.pu rfl ?_)))))))
  refine WL.a (d:=26) rfl rfl rfl (y57 rfl) ?_
  refine WL.a (d:=27) rfl rfl rfl (y4 y48 rfl rfl) ?_
  refine WL.yb rfl rfl (ya ya1 rfl rfl rfl .h4 rfl rfl rfl) ?_
  refine WL.nil (WX.a (WC.b (WC.a (WL.pu rfl (WL.pu rfl (WL.nil (WX.a ?_)))))))
  refine WC.cond rfl (fun zks=>?_) (fun zks=>?_)
  ·replace h:=yd h zks
   refine WC.b ?_
   obtain ⟨zrn,zyA,h⟩:=z8 h
   refine WC.a ?_
   refine WL.b (dd:=30) rfl rfl rfl (za (l:=[]) Tryz.call52 .nil) .nil (cc hz .nil fun w pz ho=>y37 _ _ zyA w pz ) ?_
   refine WL.yb rfl rfl (ya yh rfl rfl rfl .h2 rfl rfl rfl) ?_
   refine WL.nil (WX.a (WC.ret (WX.y6 ?_)))
   obtain rfl:=Option.some.inj h
   refine WX.y8 Tryz.results30 (.agg rfl y5 rfl (y7 .here) .nil) (fun w hw=>?_)
   exact ⟨yD rfl,hw.sub (.cons .h1 .nil)⟩
  ·replace h:=ye h zks
   refine WC.skip (WX.a (WC.b (WC.a ?_)))
   refine WL.a (d:=31) rfl rfl rfl (y9 y5 rfl (y7 .h1) rfl) ?_
   refine WL.yb rfl rfl (ya yh rfl rfl rfl .h2 rfl rfl rfl) ?_
   refine WL.nil (WX.a (WC.ret ?_))
   obtain rfl:=Option.some.inj h
   refine WX.y8 Tryz.results30 (.agg rfl y5 rfl (y7 .here) .nil) (fun w hw=>?_)
   exact ⟨yD rfl,hw.sub (.cons .h1 .nil)⟩
def y1t (z2i : List (List z2)) (z7H : Int → Int → Int → Option Int) : Nat → Int → Int → Int → Int → Option Int
 | 0,_,_,_,_=>none
 | zkt + 1,z3Y,z5I,z5J,z5K=>if decide (z3Y < ((z2i.length : Nat) : Int)) then chk ((0 : Int) ≤ z3Y ∧ z3Y < ((z2i.length : Nat) : Int)) ((y1k (nth z2i z3Y)).bind fun zku=>if decide (zku.2 ≠ 0) then some zku.2 else (y2C (nth z2i z3Y)).bind fun zro=>(yO (⟨z5I⟩ : zV) (fun (y0 : z1) (y1 : z1)=>y1o y0 y1) (⟨z5J,z5K⟩ : z1) zro.1).bind fun zaW=>y1t z2i z7H zkt (i64 (z3Y + 1)) zaW.2.fE zaW.1.fN zaW.1.fD) else z7H z5I z5J z5K
theorem y5V {n : Nat} {z2i : List (List z2)} {z7H : Int → Int → Int → Option Int} {z3Y : Int} {z5I : Int} {z5J : Int} {z5K : Int} {r : Int} (h : y1t z2i z7H n z3Y z5I z5J z5K = some r) : ∃ m,n = m + 1:=by
 cases n with
 | zero=>cases h
 | succ m=>exact ⟨m,rfl⟩
def y2o (z2i : List (List z2)) (z1h : S41) (zhq : List (List z2)) (zcu : S41) (z7I : List z1) : Option Int :=
 (if decide (((z2i.length : Nat) : Int) > 32) then some true else (yV z2i (fun (y0 : List z2)=>y17 y0)).bind fun zrp=>some zrp).bind fun zkv=>(if zkv then some true else (y1Y z1h).bind fun zrq=>some (!zrq)).bind fun zkw=>if zkw then some 2 else (y1U).bind fun zf4=>jp3 (fun (z7J : Int) (z9h : Int) (z9i : Int)=>(if decide (z7J = 0) then (yM (⟨z9h,z9i⟩ : z1) z1h.fR).bind fun zrr=>some (decide (zrr > 0)) else some false).bind fun zkx=>if zkx then some 6 else some z7J) fun z7H=>y1t z2i z7H yu 0 0 zf4.fN zf4.fD
set_option maxRecDepth 20000 in
theorem y7o (Z : Zp) (z9j : Option Addr) (z9k : Nat) (zaX : Addr) (zrs : Option Addr) (zrt : Nat) (zaY : Addr) (zaZ : Option Addr) (zb0 : Nat) (z2i : List (List z2)) (z1h : S41) (zhq : List (List z2)) (zcu : S41) (z7I : List z1) (r : Int)
  (h : y2o z2i z1h zhq zcu z7I = some r) (w₀ : World) (hz : PZ [] w₀ Z)
  (zru : ZS Z 1 (p23 Z) z9j z9k z2i)
  (zI5 : ZS Z 1 (p23 Z) zrs zrt zhq)
  (zI6 : ZC Z zaX [(.slice zrs zhq.length zrt)])
  (zI7 : ZC Z zaY [(.int .i64 zcu.fR.fN),(.int .i64 zcu.fR.fD),(.int .i64 zcu.fL.fN),(.int .i64 zcu.fL.fD)])
  (zI8 : ZS Z 2 (fun r x=>r = e40 x) zaZ zb0 z7I) :
  Calls Tryz.prog 54 #[(.agg #[(.slice z9j z2i.length z9k),(.int .i64 z1h.fR.fN),(.int .i64 z1h.fR.fD),(.int .i64 z1h.fL.fN),(.int .i64 z1h.fL.fD),(.func (.func 29) #[] #[(.pointer (some zaX)),(.pointer (some zaY))]),(.slice zaZ z7I.length zb0)])] w₀ fun e w'=>∃ Zn : Zp,e = .returned (.int .i64 r) ∧ True ∧ Hp [] w₀ w' [fz Zn]:=by
 unfold y2o at h
 refine Calls.yg (vs:=[(.agg #[(.slice z9j z2i.length z9k),(.int .i64 z1h.fR.fN),(.int .i64 z1h.fR.fD),(.int .i64 z1h.fL.fN),(.int .i64 z1h.fL.fD),(.func (.func 29) #[] #[(.pointer (some zaX)),(.pointer (some zaY))]),(.slice zaZ z7I.length zb0)])]) (pre:=[]) (env:=[(0,(.agg #[(.slice z9j z2i.length z9k),(.int .i64 z1h.fR.fN),(.int .i64 z1h.fR.fD),(.int .i64 z1h.fL.fN),(.int .i64 z1h.fL.fD),(.func (.func 29) #[] #[(.pointer (some zaX)),(.pointer (some zaY))]),(.slice zaZ z7I.length zb0)]))]) Tryz.func54 rfl Tryz.ntmps54 rfl (Hp.nil w₀ _) rfl ?_
 refine WC.pool (WC.b (WC.a ?_))
 refine WL.new (dd:=1) rfl rfl rfl (yx (cs:=[(.slice z9j z2i.length z9k),(.int .i64 z1h.fR.fN),(.int .i64 z1h.fR.fD),(.int .i64 z1h.fL.fN),(.int .i64 z1h.fL.fD),(.func (.func 29) #[] #[(.pointer (some zaX)),(.pointer (some zaY))]),(.slice zaZ z7I.length zb0)]) rfl rfl) ?_
 intro zhr _
 refine WL.pu rfl (WL.nil (WX.a (WC.b (WC.b ?_))))
 obtain ⟨zkv,zrv,h⟩:=z8 h
 obtain ⟨zkw,zrw,h⟩:=z8 h
 refine WC.a ?_
 refine WL.a (d:=11) rfl rfl rfl (y4 y5K rfl rfl) ?_
 refine WL.a (d:=12) rfl rfl rfl (yc y47 rfl (yp .here rfl)) ?_
 refine WL.a (d:=13) rfl rfl rfl (yP Tryz.underlying38 rfl) ?_
 refine WL.pu rfl (WL.pu rfl ?_)
 refine WL.seg false 3 15 (B:=zkv) rfl rfl rfl rfl rfl rfl (fun h=>(Option.some.inj (yd zrv h)).symm) (fun _ zyB=>?_) ?_
 ·skip
  have zf5:=ye zrv zyB
  obtain ⟨zrp,zyC,zf5⟩:=z8 zf5
  replace zf5:=Option.some.inj zf5
  refine WL.a (d:=16) rfl rfl rfl (y4 y5K rfl rfl) ?_
  refine WL.a (d:=17) rfl rfl rfl (yc y47 rfl (yp .here rfl)) ?_
  refine WL.b (dd:=18) rfl rfl rfl (za (l:=[.tmp 17,.func 75]) Tryz.call74 (.cons rfl (.cons rfl .nil))) .nil (ccz hz .nil .h1 fun w pz ho=>y34 _ _ _ (z7j:=75) (zaA:=[]) _ (zaz:=(fun (y0 : List z2)=>y17 y0)) _ zyC w pz ((zru.mono (Zle.left _ _)).weak (fun _ _ h=>yG (Zle.left _ _) h)) Tryz.call75 (fun w' hz' y0 ga0 gc0 r gh0 hr=>y4S _ _ _ _ _ hr w' hz' gh0)) ?_
  refine WL.pu rfl ?_
  exact WL.yw zf5 rfl rfl .all
 refine WL.pu rfl ?_
 refine WL.seg false 4 20 (B:=zkw) rfl rfl rfl rfl rfl rfl (fun h=>(Option.some.inj (yd zrw h)).symm) (fun _ zyD=>?_) ?_
 ·skip
  have zf6:=ye zrw zyD
  obtain ⟨zrq,zyE,zf6⟩:=z8 zf6
  replace zf6:=Option.some.inj zf6
  refine WL.a (d:=21) rfl rfl rfl (y4 y8T rfl rfl) ?_
  refine WL.a (d:=22) rfl rfl rfl (ys (cs:=[(.int .i64 z1h.fR.fN),(.int .i64 z1h.fR.fD),(.int .i64 z1h.fL.fN),(.int .i64 z1h.fL.fD)]) y15 rfl rfl (yW (s:=4) .here rfl)) ?_
  refine WL.b (dd:=23) rfl rfl rfl (za (l:=[.tmp 22]) Tryz.call17 (.cons rfl .nil)) .nil (ccz hz .nil .h1 fun w pz ho=>y3Z _ _ _ zyE w pz ) ?_
  refine WL.pu rfl (WL.pu rfl ?_)
  exact WL.yw zf6 rfl rfl .all
 refine WL.nil (WX.a ?_)
 refine WC.cond rfl (fun zky=>?_) (fun zky=>?_)
 ·replace h:=yd h zky
  refine WC.b (WC.a (WL.pu rfl (WL.nil (WX.a (WC.ret (WX.y6 ?_))))))
  obtain rfl:=Option.some.inj h
  refine WX.y8 Tryz.results54 (.tmp rfl .nil) (fun w hw=>?_)
  exact ⟨[],yD rfl,trivial,hw.sub (.cons .h1 .nil)⟩
 ·replace h:=ye h zky
  refine WC.skip (WX.a (WC.b (WC.a ?_)))
  refine WL.new (dd:=3) rfl rfl rfl (yk (cs:=[(.int .i64 0)]) y87 rfl) ?_
  intro zhs _
  refine WL.nil (WX.a (WC.b ?_))
  obtain ⟨zf4,zyF,h⟩:=z8 h
  refine WC.a ?_
  refine WL.b (dd:=26) rfl rfl rfl (za (l:=[]) Tryz.call52 .nil) .nil (ccz hz .nil .h2 fun w pz ho=>y37 _ _ zyF w pz ) ?_
  refine WL.new (dd:=4) rfl rfl rfl (yk (cs:=[(.int .i64 0),(.int .i64 0)]) yo rfl) ?_
  intro zht _
  refine WL.yb rfl rfl (ya yh rfl rfl rfl .here rfl rfl rfl) ?_
  refine WL.nil (WX.a ?_)
  obtain ⟨z7H,zyG,h⟩:=y9h h
  refine WC.y3P (fun (z7J : Int) (z9h : Int) (z9i : Int) (zb1 : Zp)=>(z7H z7J z9h z9i = some r) ∧ (Zle (Z ++ []) (Z ++ zb1))) (fun (z7J : Int) (z9h : Int) (z9i : Int) (zb1 : Zp)=>[(1,(.pointer (some ⟨zhr,0,none⟩))),(3,(.pointer (some ⟨zhs,0,none⟩))),(4,(.pointer (some ⟨zht,0,none⟩)))]) (fun (z7J : Int) (z9h : Int) (z9i : Int) (zb1 : Zp)=>[fz zb1,stb zhr 67 [(.slice z9j z2i.length z9k),(.int .i64 z1h.fR.fN),(.int .i64 z1h.fR.fD),(.int .i64 z1h.fL.fN),(.int .i64 z1h.fL.fD),(.func (.func 29) #[] #[(.pointer (some zaX)),(.pointer (some zaY))]),(.slice zaZ z7I.length zb0)],stb zhs 87 [(.int .i64 z7J)],stb zht 40 [(.int .i64 z9h),(.int .i64 z9i)]]) ?_ ?_
  ·skip
   refine WC.b (WC.a ?_)
   refine WL.a (d:=27) rfl rfl rfl (y4 y5K rfl rfl) ?_
   refine WL.a (d:=28) rfl rfl rfl (yc y47 rfl (yp .h2 rfl)) ?_
   refine WL.a (d:=29) rfl rfl rfl (yP Tryz.underlying38 rfl) ?_
   refine WL.pu rfl (WL.nil (WX.a (WC.block ?_)))
   refine WC.y4V (fun (zcv : Nat) (z3Y : Int) (z5I : Int) (z5J : Int) (z5K : Int) (z6h : Zp)=>(y1t z2i z7H zcv z3Y z5I z5J z5K = some r) ∧ (Zle (Z ++ []) (Z ++ z6h))) (fun (zcv : Nat) (z3Y : Int) (z5I : Int) (z5J : Int) (z5K : Int) (z6h : Zp)=>[(1,(.pointer (some ⟨zhr,0,none⟩))),(3,(.pointer (some ⟨zhs,0,none⟩))),(4,(.pointer (some ⟨zht,0,none⟩))),(28,(.slice z9j z2i.length z9k)),(29,(.int .i64 ((z2i.length : Nat) : Int))),(30,(.int .i64 z3Y))]) (fun (zcv : Nat) (z3Y : Int) (z5I : Int) (z5J : Int) (z5K : Int) (z6h : Zp)=>[fz z6h,stb zhr 67 [(.slice z9j z2i.length z9k),(.int .i64 z1h.fR.fN),(.int .i64 z1h.fR.fD),(.int .i64 z1h.fL.fN),(.int .i64 z1h.fL.fD),(.func (.func 29) #[] #[(.pointer (some zaX)),(.pointer (some zaY))]),(.slice zaZ z7I.length zb0)],stb zhs 87 [(.int .i64 z5I)],stb zht 40 [(.int .i64 z5J),(.int .i64 z5K)]]) (fun (zcv : Nat) (z3Y : Int) (z5I : Int) (z5J : Int) (z5K : Int) (z6h : Zp)=>zcv) ⟨yu,0,0,zf4.fN,zf4.fD,[]⟩ ⟨h,(Zle.refl _)⟩ (.cons rfl (.cons rfl (.cons rfl (.cons rfl (.cons rfl (.cons rfl .nil)))))) (.cons .h3 (.cons .h2 (.cons .h1 (.cons .here .nil)))) ?_
   rintro zcv z3Y z5I z5J z5K z6h ⟨h,zhu⟩
   obtain ⟨zkt,rfl⟩:=y5V h
   rw [y1t] at h
   refine WC.b (WC.a (WL.pu rfl (WL.nil (WX.a (WC.b ?_)))))
   refine WC.cond rfl (fun zkz=>?_) (fun zkz=>?_)
   ·replace h:=yd h zkz
    refine WC.skip (WX.a (WC.b (WC.block (WC.b ?_))))
    obtain ⟨zyH,h⟩:=yj h
    refine WC.a ?_
    refine WL.znth (dd:=32) rfl rfl (Z:=(Z ++ z6h)) (Pr:=(p23 (Z ++ z6h))) y3X rfl rfl ((zru.mono ((Zle.left _ _).trans zhu)).weak (fun _ _ h=>yG ((Zle.left _ _).trans zhu) h)) zyH ?_
    rintro zI9 zIa zyI zIb ⟨zIc,zId,rfl,zrx⟩
    refine WL.a (d:=33) rfl rfl rfl (yc y3S rfl (y4X (hz.pv2 .here) zyI rfl)) ?_
    refine WL.pu rfl (WL.nil (WX.a (WC.b (WC.b ?_))))
    obtain ⟨zku,zyJ,h⟩:=z8 h
    refine WC.a (WL.pu rfl ?_)
    refine WL.y4e (dd:=36) rfl rfl rfl (za (l:=[.tmp 35]) Tryz.call76 (.cons rfl .nil)) .nil (ccz hz .nil .here fun w pz ho=>y5d _ _ _ _ _ zyJ w pz zrx) ?_
    rintro zry zIe zIf _
    refine WL.merge .here .h1 ?_
    refine WL.pu rfl (WL.pu rfl (WL.pu rfl (WL.pu rfl (WL.pu rfl (WL.nil (WX.a (WC.b (WC.a (WL.pu rfl (WL.pu rfl (WL.nil (WX.a ?_))))))))))))
    refine WC.cond rfl (fun zkA=>?_) (fun zkA=>?_)
    ·replace h:=yd h zkA
     refine WC.b (WC.a (WL.pu rfl (WL.pu rfl (WL.nil (WX.a (WC.ret (WX.y6 (WX.yl (WX.y6 (WX.y6 (WX.yl (WX.y6 ?_))))))))))))
     obtain rfl:=Option.some.inj h
     refine WX.y8 Tryz.results54 (.tmp rfl .nil) (fun w hw=>?_)
     exact ⟨(z6h ++ zry),yD rfl,trivial,hw.sub (.cons .here .nil)⟩
    ·replace h:=ye h zkA
     refine WC.skip (WX.a (WC.b ?_))
     obtain ⟨zro,zyK,h⟩:=z8 h
     refine WC.a (WL.pu rfl ?_)
     refine WL.b (dd:=44) rfl rfl rfl (za (l:=[.tmp 43]) Tryz.call77 (.cons rfl .nil)) .nil (ccz hz .nil .here fun w pz ho=>y8C _ _ _ _ _ zyK w pz (zrx.mono ((Zle.left _ _).trans (Zle.yn _ _ _)))) ?_
     refine WL.pu rfl (WL.pu rfl (WL.pu rfl ?_))
     refine WL.new (dd:=9) rfl rfl rfl (yk (cs:=[(.int .i64 0),(.int .i64 0)]) yo rfl) ?_
     intro zIg _
     refine WL.yb rfl rfl (ya yh rfl rfl rfl .here rfl rfl rfl) ?_
     refine WL.pu rfl (WL.nil (WX.a ?_))
     obtain ⟨zaW,zyL,h⟩:=z8 h
     refine WC.a ?_
     refine WL.a (d:=47) rfl rfl rfl (y9 y5 rfl (y7 .h5) rfl) ?_
     refine WL.a (d:=48) rfl rfl rfl (y9 y5 rfl (y7 .here) rfl) ?_
     refine WL.b (dd:=49) rfl rfl rfl (za (l:=[.tmp 3,.func 31,.tmp 47,.tmp 48]) Tryz.call30 (.cons rfl (.cons rfl (.cons rfl (.cons rfl .nil))))) (.cons .h4 .nil) (ccz hz (.cons .h4 .nil) .h1 fun w pz ho=>y1M _ _ (z3X:=31) (z4F:=[]) _ (z5b:=(fun (y0 : z1) (y1 : z1)=>y1o y0 y1)) _ _ _ zyL w pz Tryz.call31 (fun w' hz' y0 y1  r  hr=>y5N _ _ _ _ hr w' hz' ) ho) ?_
     refine WL.yb rfl rfl (ya yh rfl rfl rfl .h5 rfl rfl rfl) ?_
     refine WL.nil (WX.yi (WX.a (WC.a (WL.pu rfl (WL.pu rfl (WL.nil ?_))))))
     exact WX.round (G:=Nat × Int × Int × Int × Int × Zp) ⟨zkt,(i64 (z3Y + 1)),zaW.2.fE,zaW.1.fN,zaW.1.fD,(z6h ++ zry)⟩ ⟨h,(zhu.trans ((Zle.left _ _).trans (Zle.yn _ _ _)))⟩ (Nat.lt_succ_self _) (.cons rfl (.cons rfl (.cons rfl (.cons rfl (.cons rfl (.cons rfl .nil)))))) (.cons .h3 (.cons .h4 (.cons .h1 (.cons .here .nil))))
   ·replace h:=ye h zkz
    refine WC.exit (WX.yf (WX.yf (WX.yv ?_)))
    exact WX.mid (G:=Int × Int × Int × Zp) ⟨z5I,z5J,z5K,z6h⟩ ⟨h,zhu⟩ (.cons rfl (.cons rfl (.cons rfl .nil))) (.cons .here (.cons .here (.cons .here (.cons .here .nil))))
  ·rintro z7J z9h z9i zb1 ⟨h,zIh⟩
   replace h:=(zyG z7J z9h z9i).symm.trans h
   refine WC.b (WC.b ?_)
   obtain ⟨zkx,zrz,h⟩:=z8 h
   refine WC.a ?_
   refine WL.a (d:=51) rfl rfl rfl (y4 y48 rfl rfl) ?_
   refine WL.a (d:=52) rfl rfl rfl (yc y3s rfl (yp .h2 rfl)) ?_
   refine WL.pu rfl (WL.pu rfl ?_)
   refine WL.seg true 6 54 (B:=zkx) rfl rfl rfl rfl rfl rfl (fun h=>(Option.some.inj (ye zrz h)).symm) (fun _ zyM=>?_) ?_
   ·skip
    have zf7:=yd zrz zyM
    obtain ⟨zrr,zyN,zf7⟩:=z8 zf7
    replace zf7:=Option.some.inj zf7
    refine WL.a (d:=55) rfl rfl rfl (y9 y5 rfl (y7 .h3) rfl) ?_
    refine WL.a (d:=56) rfl rfl rfl (y4 y8T rfl rfl) ?_
    refine WL.a (d:=57) rfl rfl rfl (y4 y2U rfl rfl) ?_
    refine WL.a (d:=58) rfl rfl rfl (ys (cs:=[(.int .i64 z1h.fR.fN),(.int .i64 z1h.fR.fD)]) y5 rfl rfl (yW (s:=2) .h1 rfl)) ?_
    refine WL.b (dd:=59) rfl rfl rfl (za (l:=[.tmp 55,.tmp 58]) Tryz.call24 (.cons rfl (.cons rfl .nil))) .nil (ccz hz .nil .here fun w pz ho=>y2w _ _ _ _ zyN w pz ) ?_
    refine WL.pu rfl (WL.pu rfl ?_)
    exact WL.yw zf7 rfl rfl .all
   refine WL.nil (WX.a ?_)
   refine WC.cond rfl (fun zkB=>?_) (fun zkB=>?_)
   ·replace h:=yd h zkB
    refine WC.b (WC.a (WL.pu rfl (WL.nil (WX.a (WC.ret (WX.y6 ?_))))))
    obtain rfl:=Option.some.inj h
    refine WX.y8 Tryz.results54 (.tmp rfl .nil) (fun w hw=>?_)
    exact ⟨zb1,yD rfl,trivial,hw.sub (.cons .here .nil)⟩
   ·replace h:=ye h zkB
    refine WC.skip (WX.a (WC.b (WC.a ?_)))
    refine WL.a (d:=62) rfl rfl rfl (y4 y48 rfl rfl) ?_
    refine WL.a (d:=63) rfl rfl rfl (yc y3s rfl (yp .h2 rfl)) ?_
    refine WL.pu rfl (WL.nil (WX.a (WC.ret ?_)))
    obtain rfl:=Option.some.inj h
    refine WX.y8 Tryz.results54 (.tmp rfl .nil) (fun w hw=>?_)
    exact ⟨zb1,yD rfl,trivial,hw.sub (.cons .here .nil)⟩
def y39 (z9l : List (List z2)) (z2A : S41) (zhv : List (List z2)) (zcw : S41) (z9m : List z1) : Option (Int × Int × Int × Int) :=
 some (z2A.fR.fN,z2A.fR.fD,z2A.fL.fN,z2A.fL.fD)
set_option maxRecDepth 20000 in
theorem y7b (Z : Zp) (zcx : Option Addr) (zcy : Nat) (zcz : Addr) (zrA : Option Addr) (zrB : Nat) (zcA : Addr) (zcB : Option Addr) (zcC : Nat) (z9l : List (List z2)) (z2A : S41) (zhv : List (List z2)) (zcw : S41) (z9m : List z1) (r : Int × Int × Int × Int)
  (h : y39 z9l z2A zhv zcw z9m = some r) (w₀ : World) (hz : PZ [] w₀ Z)
  (zIi : ZS Z 1 (p23 Z) zcx zcy z9l)
  (zIj : ZS Z 1 (p23 Z) zrA zrB zhv)
  (zIk : ZC Z zcz [(.slice zrA zhv.length zrB)])
  (zIl : ZC Z zcA [(.int .i64 zcw.fR.fN),(.int .i64 zcw.fR.fD),(.int .i64 zcw.fL.fN),(.int .i64 zcw.fL.fD)])
  (zIm : ZS Z 2 (fun r x=>r = e40 x) zcB zcC z9m) :
  Calls Tryz.prog 55 #[(.agg #[(.slice zcx z9l.length zcy),(.int .i64 z2A.fR.fN),(.int .i64 z2A.fR.fD),(.int .i64 z2A.fL.fN),(.int .i64 z2A.fL.fD),(.func (.func 29) #[] #[(.pointer (some zcz)),(.pointer (some zcA))]),(.slice zcB z9m.length zcC)])] w₀ fun e w'=>∃ zrC : Nat,e = .returned (.func (.func 78) #[] #[(.pointer (some ⟨zrC,0,none⟩))]) ∧ True ∧ Hp [] w₀ w' [stb zrC 67 [(.slice zcx z9l.length zcy),(.int .i64 r.1),(.int .i64 r.2.1),(.int .i64 r.2.2.1),(.int .i64 r.2.2.2),(.func (.func 29) #[] #[(.pointer (some zcz)),(.pointer (some zcA))]),(.slice zcB z9m.length zcC)]]:=by
 unfold y39 at h
 refine Calls.yg (vs:=[(.agg #[(.slice zcx z9l.length zcy),(.int .i64 z2A.fR.fN),(.int .i64 z2A.fR.fD),(.int .i64 z2A.fL.fN),(.int .i64 z2A.fL.fD),(.func (.func 29) #[] #[(.pointer (some zcz)),(.pointer (some zcA))]),(.slice zcB z9m.length zcC)])]) (pre:=[]) (env:=[(0,(.agg #[(.slice zcx z9l.length zcy),(.int .i64 z2A.fR.fN),(.int .i64 z2A.fR.fD),(.int .i64 z2A.fL.fN),(.int .i64 z2A.fL.fD),(.func (.func 29) #[] #[(.pointer (some zcz)),(.pointer (some zcA))]),(.slice zcB z9m.length zcC)]))]) Tryz.func55 rfl Tryz.ntmps55 rfl (Hp.nil w₀ _) rfl ?_
 refine WC.b (WC.a ?_)
 refine WL.new (dd:=1) rfl rfl rfl (yx (cs:=[(.slice zcx z9l.length zcy),(.int .i64 z2A.fR.fN),(.int .i64 z2A.fR.fD),(.int .i64 z2A.fL.fN),(.int .i64 z2A.fL.fD),(.func (.func 29) #[] #[(.pointer (some zcz)),(.pointer (some zcA))]),(.slice zcB z9m.length zcC)]) rfl rfl) ?_
 intro zyO _
 refine WL.pu rfl (WL.nil (WX.a (WC.b (WC.a ?_))))
 refine WL.a (d:=3) rfl rfl rfl (y1i (Eos.caps (l:=[.tmp 1]) (.cons rfl .nil))) ?_
 refine WL.pu rfl (WL.nil (WX.a (WC.ret ?_)))
 obtain rfl:=Option.some.inj h
 refine WX.y8 Tryz.results55 (.tmp rfl .nil) (fun w hw=>?_)
 exact ⟨zyO,yD rfl,trivial,hw.sub (.cons .here .nil)⟩
def y1s (z2j : z1) : Option Int :=
 (y1m z2j).bind fun zrD=>if !zrD then some 0 else chk ((z2j.fD : Int) ≠ 0) (jp1 (fun (z9n : Int)=>some z9n) fun zhw=>chk ((z2j.fD : Int) ≠ 0) (if decide ((Int.tmod z2j.fN z2j.fD) < 0) then zhw (i64 ((i64 (Int.tdiv z2j.fN z2j.fD)) - 1)) else zhw (i64 (Int.tdiv z2j.fN z2j.fD))))
set_option maxRecDepth 20000 in
theorem y5v (Z : Zp)  (z2j : z1) (r : Int)
  (h : y1s z2j = some r) (w₀ : World) (hz : PZ [] w₀ Z) :
  Calls Tryz.prog 79 #[(.agg #[(.int .i64 z2j.fN),(.int .i64 z2j.fD)])] w₀ fun e w'=>e = .returned (.int .i64 r) ∧ Hp [] w₀ w' []:=by
 unfold y1s at h
 refine Calls.yg (vs:=[(.agg #[(.int .i64 z2j.fN),(.int .i64 z2j.fD)])]) (pre:=[]) (env:=[(0,(.agg #[(.int .i64 z2j.fN),(.int .i64 z2j.fD)]))]) Tryz.func79 rfl Tryz.ntmps79 rfl (Hp.nil w₀ _) rfl ?_
 refine WC.b (WC.a ?_)
 refine WL.new (dd:=1) rfl rfl rfl (yx (cs:=[(.int .i64 z2j.fN),(.int .i64 z2j.fD)]) rfl rfl) ?_
 intro zIn _
 refine WL.pu rfl (WL.nil (WX.a (WC.b (WC.b ?_))))
 obtain ⟨zrD,zyP,h⟩:=z8 h
 refine WC.a ?_
 refine WL.a (d:=4) rfl rfl rfl (y9 y5 rfl (y7 .here) rfl) ?_
 refine WL.b (dd:=5) rfl rfl rfl (za (l:=[.tmp 4]) Tryz.call44 (.cons rfl .nil)) .nil (cc hz .nil fun w pz ho=>y1P _ _ _ zyP w pz ) ?_
 refine WL.pu rfl (WL.nil (WX.a ?_))
 refine WC.cond rfl (fun zkC=>?_) (fun zkC=>?_)
 ·replace h:=yd h zkC
  refine WC.b (WC.a (WL.pu rfl (WL.nil (WX.a (WC.ret (WX.y6 ?_))))))
  obtain rfl:=Option.some.inj h
  refine WX.y8 Tryz.results79 (.tmp rfl .nil) (fun w hw=>?_)
  exact ⟨yD rfl,hw.sub .nil⟩
 ·replace h:=ye h zkC
  refine WC.skip (WX.a (WC.b ?_))
  obtain ⟨zyQ,h⟩:=yj h
  refine WC.a ?_
  refine WL.a (d:=7) rfl rfl rfl (y4 yL rfl rfl) ?_
  refine WL.a (d:=8) rfl rfl rfl (yc yr rfl (yp .here rfl)) ?_
  refine WL.a (d:=9) rfl rfl rfl (y4 yN rfl rfl) ?_
  refine WL.a (d:=10) rfl rfl rfl (yc yr rfl (yp .here rfl)) ?_
  refine WL.a (d:=11) rfl rfl rfl (y81 rfl rfl zyQ rfl) ?_
  refine WL.pu rfl (WL.nil (WX.a ?_))
  obtain ⟨zhw,zyR,h⟩:=y12 h
  refine WC.y3w (fun (z9n : Int)=>(zhw z9n = some r)) (fun (z9n : Int)=>[(3,(.int .i64 z9n))]) (fun (z9n : Int)=>[]) ?_ ?_
  ·skip
   refine WC.b ?_
   obtain ⟨zyS,h⟩:=yj h
   refine WC.a ?_
   refine WL.a (d:=12) rfl rfl rfl (y4 yL rfl rfl) ?_
   refine WL.a (d:=13) rfl rfl rfl (yc yr rfl (yp .here rfl)) ?_
   refine WL.a (d:=14) rfl rfl rfl (y4 yN rfl rfl) ?_
   refine WL.a (d:=15) rfl rfl rfl (yc yr rfl (yp .here rfl)) ?_
   refine WL.a (d:=16) rfl rfl rfl (q_rem rfl rfl zyS rfl) ?_
   refine WL.pu rfl (WL.nil (WX.a ?_))
   refine WC.cond rfl (fun zkD=>?_) (fun zkD=>?_)
   ·replace h:=yd h zkD
    refine WC.a (WL.pu rfl (WL.pu rfl (WL.pu rfl (WL.nil ?_))))
    exact WX.mid (G:=Int) (i64 ((i64 (Int.tdiv z2j.fN z2j.fD)) - 1)) h (.cons rfl .nil) .nil
   ·replace h:=ye h zkD
    refine WC.skip ?_
    exact WX.mid (G:=Int) (i64 (Int.tdiv z2j.fN z2j.fD)) h (.cons rfl .nil) .nil
  ·rintro z9n h
   replace h:=(zyR z9n).symm.trans h
   refine WC.b (WC.a (WL.pu rfl (WL.pu rfl (WL.nil (WX.a (WC.ret ?_))))))
   obtain rfl:=Option.some.inj h
   refine WX.y8 Tryz.results79 (.tmp rfl .nil) (fun w hw=>?_)
   exact ⟨yD rfl,hw.sub .nil⟩
def y1N (z4n : z1) : Option Int :=
 (y1m z4n).bind fun zrE=>if !zrE then some 0 else (y1s (⟨i64 (0 - z4n.fN),z4n.fD⟩ : z1)).bind fun zrF=>some (i64 (0 - zrF))
set_option maxRecDepth 20000 in
theorem y6Q (Z : Zp)  (z4n : z1) (r : Int)
  (h : y1N z4n = some r) (w₀ : World) (hz : PZ [] w₀ Z) :
  Calls Tryz.prog 80 #[(.agg #[(.int .i64 z4n.fN),(.int .i64 z4n.fD)])] w₀ fun e w'=>e = .returned (.int .i64 r) ∧ Hp [] w₀ w' []:=by
 unfold y1N at h
 refine Calls.yg (vs:=[(.agg #[(.int .i64 z4n.fN),(.int .i64 z4n.fD)])]) (pre:=[]) (env:=[(0,(.agg #[(.int .i64 z4n.fN),(.int .i64 z4n.fD)]))]) Tryz.func80 rfl Tryz.ntmps80 rfl (Hp.nil w₀ _) rfl ?_
 refine WC.b (WC.a ?_)
 refine WL.new (dd:=1) rfl rfl rfl (yx (cs:=[(.int .i64 z4n.fN),(.int .i64 z4n.fD)]) rfl rfl) ?_
 intro zIo _
 refine WL.pu rfl (WL.nil (WX.a (WC.b (WC.b ?_))))
 obtain ⟨zrE,zyT,h⟩:=z8 h
 refine WC.a ?_
 refine WL.a (d:=3) rfl rfl rfl (y9 y5 rfl (y7 .here) rfl) ?_
 refine WL.b (dd:=4) rfl rfl rfl (za (l:=[.tmp 3]) Tryz.call44 (.cons rfl .nil)) .nil (cc hz .nil fun w pz ho=>y1P _ _ _ zyT w pz ) ?_
 refine WL.pu rfl (WL.nil (WX.a ?_))
 refine WC.cond rfl (fun zkE=>?_) (fun zkE=>?_)
 ·replace h:=yd h zkE
  refine WC.b (WC.a (WL.pu rfl (WL.nil (WX.a (WC.ret (WX.y6 ?_))))))
  obtain rfl:=Option.some.inj h
  refine WX.y8 Tryz.results80 (.tmp rfl .nil) (fun w hw=>?_)
  exact ⟨yD rfl,hw.sub .nil⟩
 ·replace h:=ye h zkE
  refine WC.skip (WX.a (WC.b ?_))
  obtain ⟨zrF,zyU,h⟩:=z8 h
  refine WC.a ?_
  refine WL.a (d:=6) rfl rfl rfl (y4 yL rfl rfl) ?_
  refine WL.a (d:=7) rfl rfl rfl (yc yr rfl (yp .here rfl)) ?_
  refine WL.a (d:=8) rfl rfl rfl (y9A rfl rfl) ?_
  refine WL.a (d:=9) rfl rfl rfl (y4 yN rfl rfl) ?_
  refine WL.a (d:=10) rfl rfl rfl (yc yr rfl (yp .here rfl)) ?_
  refine WL.a (d:=11) rfl rfl rfl (yz (v:=(.agg #[(.int .i64 (i64 (0 - z4n.fN))),(.int .i64 z4n.fD)])) (Eos.parts (l:=[.tmp 8,.tmp 10]) (.cons rfl (.cons rfl .nil)) [0,1]) (fun _=>by kernel_rfl)) ?_
  refine WL.b (dd:=12) rfl rfl rfl (za (l:=[.tmp 11]) Tryz.call79 (.cons rfl .nil)) .nil (cc hz .nil fun w pz ho=>y5v _ _ _ zyU w pz ) ?_
  refine WL.a (d:=13) rfl rfl rfl (y9A rfl rfl) ?_
  refine WL.pu rfl (WL.nil (WX.a (WC.ret ?_)))
  obtain rfl:=Option.some.inj h
  refine WX.y8 Tryz.results80 (.tmp rfl .nil) (fun w hw=>?_)
  exact ⟨yD rfl,hw.sub .nil⟩
def y1f (zg : Type) (z1W : List z1 × Int) (z1H : z1 → zg → Option (Bool × zg)) (z7K : zg → Option zg) : Nat → Int → zg → Option zg
 | 0,_,_=>none
 | zkF + 1,z2k,z3Z=>if decide (z2k < ((z1W.1.length : Nat) : Int)) then chk ((0 : Int) ≤ z2k ∧ z2k < ((z1W.1.length : Nat) : Int)) ((y1s (⟨((nth z1W.1 z2k).fN),((nth z1W.1 z2k).fD)⟩ : z1)).bind fun zrG=>(y13 zrG).bind fun zkG=>(z1H zkG z3Z).bind fun z6H=>(if !z6H.1 then some (true,z6H.2) else (y1N (⟨((nth z1W.1 z2k).fN),((nth z1W.1 z2k).fD)⟩ : z1)).bind fun zrH=>(y13 zrH).bind fun zkH=>(z1H zkH z6H.2).bind fun zf8=>some (!zf8.1,zf8.2)).bind fun z9o=>if z9o.1 then some z9o.2 else y1f zg z1W z1H z7K zkF (i64 (z2k + 1)) z9o.2) else z7K z3Z
theorem y5p {n : Nat} {zg : Type} {z1W : List z1 × Int} {z1H : z1 → zg → Option (Bool × zg)} {z7K : zg → Option zg} {z2k : Int} {z3Z : zg} {r : zg} (h : y1f zg z1W z1H z7K n z2k z3Z = some r) : ∃ m,n = m + 1:=by
 cases n with
 | zero=>cases h
 | succ m=>exact ⟨m,rfl⟩
def y1g (zg : Type) (z27 : List (List z2)) (z1H : z1 → zg → Option (Bool × zg)) (z7L : zg → Option zg) : Nat → Int → zg → Option zg
 | 0,_,_=>none
 | zkI + 1,z3j,z4G=>if decide (z3j < ((z27.length : Nat) : Int)) then jp1 (fun (z6I : zg)=>y1g zg z27 z1H z7L zkI (i64 (z3j + 1)) z6I) fun zkJ=>chk ((0 : Int) ≤ z3j ∧ z3j < ((z27.length : Nat) : Int)) ((y1k (nth z27 z3j)).bind fun z1W=>jp1 (fun (z6J : zg)=>zkJ z6J) fun z7K=>y1f zg z1W z1H z7K yu 0 z4G) else z7L z4G
theorem y5q {n : Nat} {zg : Type} {z27 : List (List z2)} {z1H : z1 → zg → Option (Bool × zg)} {z7L : zg → Option zg} {z3j : Int} {z4G : zg} {r : zg} (h : y1g zg z27 z1H z7L n z3j z4G = some r) : ∃ m,n = m + 1:=by
 cases n with
 | zero=>cases h
 | succ m=>exact ⟨m,rfl⟩
def y1h (zg : Type) (z2l : List z1) (z1H : z1 → zg → Option (Bool × zg)) (z7M : zg → Option zg) : Nat → Int → zg → Option zg
 | 0,_,_=>none
 | zkK + 1,z2S,z40=>if decide (z2S < ((z2l.length : Nat) : Int)) then chk ((0 : Int) ≤ z2S ∧ z2S < ((z2l.length : Nat) : Int)) ((y1s (⟨((nth z2l z2S).fN),((nth z2l z2S).fD)⟩ : z1)).bind fun zrI=>(y13 zrI).bind fun zkL=>(z1H zkL z40).bind fun z6K=>(if !z6K.1 then some (true,z6K.2) else (y1N (⟨((nth z2l z2S).fN),((nth z2l z2S).fD)⟩ : z1)).bind fun zrJ=>(y13 zrJ).bind fun zkM=>(z1H zkM z6K.2).bind fun zf9=>some (!zf9.1,zf9.2)).bind fun z9p=>if z9p.1 then some z9p.2 else y1h zg z2l z1H z7M zkK (i64 (z2S + 1)) z9p.2) else z7M z40
theorem y5r {n : Nat} {zg : Type} {z2l : List z1} {z1H : z1 → zg → Option (Bool × zg)} {z7M : zg → Option zg} {z2S : Int} {z40 : zg} {r : zg} (h : y1h zg z2l z1H z7M n z2S z40 = some r) : ∃ m,n = m + 1:=by
 cases n with
 | zero=>cases h
 | succ m=>exact ⟨m,rfl⟩
def y23 (zg : Type) (z1H : z1 → zg → Option (Bool × zg)) (s0_13922 : zg) (z27 : List (List z2)) (zb2 : S41) (zfa : List (List z2)) (zb3 : S41) (z2l : List z1) : Option zg :=
 (y1U).bind fun zkN=>(z1H zkN s0_13922).bind fun zb4=>if !zb4.1 then some zb4.2 else jp1 (fun (z6L : zg)=>jp1 (fun (z7N : zg)=>some z7N) fun z7M=>y1h zg z2l z1H z7M yu 0 z6L) fun z7L=>y1g zg z27 z1H z7L yu 0 zb4.2
set_option maxRecDepth 20000 in
theorem y6H (Z : Zp) (zg : Type) (z5c : Nat) (zO : Type) (z1I : zO → zg → Asrt) (z5d : zO → zg → Prop) (z6M : zO) (z6i : Addr) (z9q : Option Addr) (z9r : Nat) (zkO : Addr) (zkP : Option Addr) (zkQ : Nat) (zkR : Addr) (zfb : Option Addr) (zfc : Nat) (z1H : z1 → zg → Option (Bool × zg)) (s0_13922 : zg) (z27 : List (List z2)) (zb2 : S41) (zfa : List (List z2)) (zb3 : S41) (z2l : List z1) (r : zg) (w₀ : World) (hz : PZ (fps [z1I z6M s0_13922]) w₀ Z)
  (zfd : y8w Tryz.prog Z z5c (α:=z1) (σ:=zg) (G:=zO) (H:=Unit) (fun h x=>[(.agg #[(.int .i64 x.fN),(.int .i64 x.fD)])]) (fun h x=>[]) z1H z1I z5d)
  (zyV : z5d z6M s0_13922)
  (zyW : ZS Z 1 (p23 Z) z9q z9r z27)
  (zIp : ZS Z 1 (p23 Z) zkP zkQ zfa)
  (zIq : ZC Z zkO [(.slice zkP zfa.length zkQ)])
  (zIr : ZC Z zkR [(.int .i64 zb3.fR.fN),(.int .i64 zb3.fR.fD),(.int .i64 zb3.fL.fN),(.int .i64 zb3.fL.fD)])
  (zyX : ZS Z 2 (fun r x=>r = e40 x) zfb zfc z2l)
  (zrK : ZC Z z6i [(.slice z9q z27.length z9r),(.int .i64 zb2.fR.fN),(.int .i64 zb2.fR.fD),(.int .i64 zb2.fL.fN),(.int .i64 zb2.fL.fD),(.func (.func 29) #[] #[(.pointer (some zkO)),(.pointer (some zkR))]),(.slice zfb z2l.length zfc)])
  (h : y23 zg z1H s0_13922 z27 zb2 zfa zb3 z2l = some r)
  (hown : Hp (fps [z1I z6M s0_13922]) w₀ w₀ [z1I z6M s0_13922]) :
  Calls Tryz.prog 78 #[(.func (.yield z5c) #[] #[]),(.pointer (some z6i))] w₀ fun e w'=>∃ Zn : Zp,∃ zrL : zO,e = .returned (.tuple #[]) ∧ (z5d zrL r) ∧ Hp (fps [z1I z6M s0_13922]) w₀ w' [fz Zn,z1I zrL r]:=by
 unfold y23 at h
 refine Calls.yg (vs:=[(.func (.yield z5c) #[] #[]),(.pointer (some z6i))]) (pre:=[z1I z6M s0_13922]) (env:=[(0,(.func (.yield z5c) #[] #[])),(1,(.pointer (some z6i)))]) Tryz.func78 rfl Tryz.ntmps78 rfl (hown) rfl ?_
 refine WC.pool (WC.b (WC.b ?_))
 obtain ⟨zkN,zyY,h⟩:=z8 h
 obtain ⟨zb4,zyZ,h⟩:=z8 h
 refine WC.a (WL.pu rfl ?_)
 refine WL.b (dd:=12) rfl rfl rfl (za (l:=[]) Tryz.call52 .nil) .nil (ccz hz .nil .here fun w pz ho=>y37 _ _ zyY w pz ) ?_
 refine WL.yield (dd:=13) (x:=zkN) (h:=()) (g:=z6M) (s:=s0_13922) (b:=zb4.1) (s':=zb4.2) zfd rfl rfl rfl (.cons rfl .nil) ((.cons .h1 .nil) : Sel _ [z1I z6M s0_13922] _) zyZ zyV (fun w hw=>hz.call hw ((.cons .h1 .nil) : Sel _ [z1I z6M s0_13922] _)) ?_
 intro zrM zrN
 refine WL.pu rfl (WL.nil (WX.a ?_))
 refine WC.cond rfl (fun zkS=>?_) (fun zkS=>?_)
 ·replace h:=yd h zkS
  refine WC.ret (WX.y6 ?_)
  obtain rfl:=Option.some.inj h
  refine WX.y8 Tryz.results78 .nil (fun w hw=>?_)
  exact ⟨[],zrM,y6E,zrN,hw.sub (.cons .h1 (.cons .here .nil))⟩
 ·replace h:=ye h zkS
  refine WC.skip (WX.a ?_)
  obtain ⟨z7L,zz0,h⟩:=y12 h
  refine WC.y3O (fun (z6L : zg) (z6j : Zp) (zcD : zO)=>(z7L z6L = some r) ∧ (Zle (Z ++ []) (Z ++ z6j)) ∧ (z5d zcD z6L)) (fun (z6L : zg) (z6j : Zp) (zcD : zO)=>[(0,(.func (.yield z5c) #[] #[])),(1,(.pointer (some z6i)))]) (fun (z6L : zg) (z6j : Zp) (zcD : zO)=>[fz z6j,z1I zcD z6L]) ?_ ?_
  ·skip
   refine WC.b (WC.a ?_)
   refine WL.a (d:=15) rfl rfl rfl (y4 y5K rfl rfl) ?_
   refine WL.a (d:=16) rfl rfl rfl (yc y47 rfl (y1V (hz.pv2 .h1) (zrK.mono (Zle.left _ _)) rfl)) ?_
   refine WL.a (d:=17) rfl rfl rfl (yP Tryz.underlying38 rfl) ?_
   refine WL.pu rfl (WL.nil (WX.a (WC.block ?_)))
   refine WC.y75 (fun (zcE : Nat) (z3j : Int) (z4G : zg) (z4o : Zp) (z9s : zO)=>(y1g zg z27 z1H z7L zcE z3j z4G = some r) ∧ (Zle (Z ++ []) (Z ++ z4o)) ∧ (z5d z9s z4G)) (fun (zcE : Nat) (z3j : Int) (z4G : zg) (z4o : Zp) (z9s : zO)=>[(0,(.func (.yield z5c) #[] #[])),(1,(.pointer (some z6i))),(16,(.slice z9q z27.length z9r)),(17,(.int .i64 ((z27.length : Nat) : Int))),(18,(.int .i64 z3j))]) (fun (zcE : Nat) (z3j : Int) (z4G : zg) (z4o : Zp) (z9s : zO)=>[fz z4o,z1I z9s z4G]) (fun (zcE : Nat) (z3j : Int) (z4G : zg) (z4o : Zp) (z9s : zO)=>zcE) ⟨yu,0,zb4.2,[],zrM⟩ ⟨h,(Zle.refl _),zrN⟩ (.cons rfl (.cons rfl (.cons rfl (.cons rfl (.cons rfl .nil))))) (.cons .h1 (.cons .here .nil)) ?_
   rintro zcE z3j z4G z4o z9s ⟨h,zhx,zrO⟩
   obtain ⟨zkI,rfl⟩:=y5q h
   rw [y1g] at h
   refine WC.b (WC.a (WL.pu rfl (WL.nil (WX.a (WC.b ?_)))))
   refine WC.cond rfl (fun zkT=>?_) (fun zkT=>?_)
   ·replace h:=yd h zkT
    refine WC.skip (WX.a ?_)
    obtain ⟨zkJ,zz1,h⟩:=y12 h
    refine WC.y3O (fun (z6I : zg) (zcF : Zp) (zcG : zO)=>(zkJ z6I = some r) ∧ (Zle (Z ++ z4o) (Z ++ zcF)) ∧ (z5d zcG z6I)) (fun (z6I : zg) (zcF : Zp) (zcG : zO)=>[(0,(.func (.yield z5c) #[] #[])),(1,(.pointer (some z6i))),(16,(.slice z9q z27.length z9r)),(17,(.int .i64 ((z27.length : Nat) : Int))),(18,(.int .i64 z3j))]) (fun (z6I : zg) (zcF : Zp) (zcG : zO)=>[fz zcF,z1I zcG z6I]) ?_ ?_
    ·skip
     refine WC.block (WC.b ?_)
     obtain ⟨zz2,h⟩:=yj h
     refine WC.a ?_
     refine WL.znth (dd:=20) rfl rfl (Z:=(Z ++ z4o)) (Pr:=(p23 (Z ++ z4o))) y3X rfl rfl ((zyW.mono ((Zle.left _ _).trans zhx)).weak (fun _ _ h=>yG ((Zle.left _ _).trans zhx) h)) zz2 ?_
     rintro zIs zIt zz3 zIu ⟨zIv,zIw,rfl,zz4⟩
     refine WL.a (d:=21) rfl rfl rfl (yc y3S rfl (y4X (hz.pv2 .here) zz3 rfl)) ?_
     refine WL.pu rfl (WL.nil (WX.a (WC.b ?_)))
     obtain ⟨z1W,zz5,h⟩:=z8 h
     refine WC.a (WL.pu rfl ?_)
     refine WL.y4e (dd:=24) rfl rfl rfl (za (l:=[.tmp 23]) Tryz.call76 (.cons rfl .nil)) .nil (ccz hz .nil .here fun w pz ho=>y5d _ _ _ _ _ zz5 w pz zz4) ?_
     rintro zfe zrP zhy _
     refine WL.merge .here .h1 ?_
     refine WL.pu rfl (WL.pu rfl (WL.pu rfl (WL.pu rfl (WL.pu rfl (WL.nil (WX.a (WC.b (WC.a (WL.pu rfl ?_)))))))))
     refine WL.a (d:=28) rfl rfl rfl (yP Tryz.underlying65 rfl) ?_
     refine WL.pu rfl (WL.nil (WX.a ?_))
     obtain ⟨z7K,zz6,h⟩:=y12 h
     refine WC.y6Z (fun (z6J : zg) (zcH : zO)=>(z7K z6J = some r) ∧ (z5d zcH z6J)) (fun (z6J : zg) (zcH : zO)=>[(0,(.func (.yield z5c) #[] #[])),(1,(.pointer (some z6i))),(16,(.slice z9q z27.length z9r)),(17,(.int .i64 ((z27.length : Nat) : Int))),(18,(.int .i64 z3j))]) (fun (z6J : zg) (zcH : zO)=>[fz (z4o ++ zfe),z1I zcH z6J]) ?_ ?_
     ·skip
      refine WC.block ?_
      refine WC.y36 (fun (zcI : Nat) (z2k : Int) (z3Z : zg) (z6N : zO)=>(y1f zg z1W z1H z7K zcI z2k z3Z = some r) ∧ (z5d z6N z3Z)) (fun (zcI : Nat) (z2k : Int) (z3Z : zg) (z6N : zO)=>[(0,(.func (.yield z5c) #[] #[])),(1,(.pointer (some z6i))),(16,(.slice z9q z27.length z9r)),(17,(.int .i64 ((z27.length : Nat) : Int))),(18,(.int .i64 z3j)),(27,(.slice zrP z1W.1.length zhy)),(28,(.int .i64 ((z1W.1.length : Nat) : Int))),(29,(.int .i64 z2k))]) (fun (zcI : Nat) (z2k : Int) (z3Z : zg) (z6N : zO)=>[fz (z4o ++ zfe),row (.slice zrP z1W.1.length zhy) 40 2 (z1W.1.flatMap e40),z1I z6N z3Z]) (fun (zcI : Nat) (z2k : Int) (z3Z : zg) (z6N : zO)=>zcI) ⟨yu,0,z4G,z9s⟩ ⟨h,zrO⟩ (.cons rfl (.cons rfl (.cons rfl (.cons rfl (.cons rfl (.cons rfl (.cons rfl (.cons rfl .nil)))))))) (.cons .here (.cons .here (.cons .here .nil))) ?_
      rintro zcI z2k z3Z z6N ⟨h,zrQ⟩
      obtain ⟨zkF,rfl⟩:=y5p h
      rw [y1f] at h
      refine WC.b (WC.a (WL.pu rfl (WL.nil (WX.a (WC.b ?_)))))
      refine WC.cond rfl (fun zkU=>?_) (fun zkU=>?_)
      ·replace h:=yd h zkU
       refine WC.skip (WX.a (WC.b (WC.block (WC.b ?_))))
       obtain ⟨zff,h⟩:=yj h
       refine WC.a ?_
       refine WL.know (fun w hw=>Hp.y3y .h1 hw (by intro hz'; have:=zff; rw [hz'] at this; omega)) ?_
       rintro ⟨zrR,rfl⟩
       refine WL.a (d:=31) rfl rfl rfl (y11 yK rfl rfl zff.1 zff.2 y3x) ?_
       refine WL.a (d:=32) rfl rfl rfl (ys (cs:=(e40 (nth z1W.1 z2k))) y5 rfl rfl (y3B .h1 (y2A (enc:=e40) (l:=z1W.1) (i:=z2k) (sz:=2) (fun _=>rfl) zff.1 zff.2))) ?_
       refine WL.new (dd:=8) rfl rfl rfl (yk (cs:=[(.int .i64 0),(.int .i64 0)]) yo rfl) ?_
       intro zz7 _
       refine WL.yb rfl rfl (ya yh rfl rfl rfl .here rfl rfl rfl) ?_
       refine WL.nil (WX.a (WC.b ?_))
       obtain ⟨zrG,zz8,h⟩:=z8 h
       obtain ⟨zkG,zz9,h⟩:=z8 h
       obtain ⟨z6H,zza,h⟩:=z8 h
       obtain ⟨z9o,zrS,h⟩:=z8 h
       refine WC.a (WL.pu rfl ?_)
       refine WL.a (d:=34) rfl rfl rfl (y9 y5 rfl (y7 .here) rfl) ?_
       refine WL.b (dd:=35) rfl rfl rfl (za (l:=[.tmp 34]) Tryz.call79 (.cons rfl .nil)) .nil (ccz hz .nil .h1 fun w pz ho=>y5v _ _ _ zz8 w pz ) ?_
       refine WL.b (dd:=36) rfl rfl rfl (za (l:=[.tmp 35]) Tryz.call68 (.cons rfl .nil)) .nil (ccz hz .nil .h1 fun w pz ho=>y1Z _ _ _ zz9 w pz ) ?_
       refine WL.yield (dd:=37) (x:=zkG) (h:=()) (g:=z6N) (s:=z3Z) (b:=z6H.1) (s':=z6H.2) zfd rfl rfl rfl (.cons rfl .nil) ((.cons .h3 .nil) : Sel _ [z1I z6N z3Z] _) zza zrQ (fun w hw=>hz.call hw ((.cons .h3 .nil) : Sel _ [z1I z6N z3Z] _)) ?_
       intro zhz zrT
       refine WL.pu rfl (WL.pu rfl ?_)
       refine WL.y8N (fun (zb5 : zO)=>z5d zb5 z9o.2) (fun (zb5 : zO)=>[(0,(.func (.yield z5c) #[] #[])),(1,(.pointer (some z6i))),(16,(.slice z9q z27.length z9r)),(17,(.int .i64 ((z27.length : Nat) : Int))),(18,(.int .i64 z3j)),(27,(.slice (some ⟨zrR,0,none⟩) z1W.1.length zhy)),(28,(.int .i64 ((z1W.1.length : Nat) : Int))),(29,(.int .i64 z2k)),(46,(.bool z9o.1))]) (fun (zb5 : zO)=>[z1I zb5 z9o.2,stb zz7 40 [(.int .i64 ((nth z1W.1 z2k).fN)),(.int .i64 ((nth z1W.1 z2k).fD))],fz (z4o ++ zfe),row (.slice (some ⟨zrR,0,none⟩) z1W.1.length zhy) 40 2 (z1W.1.flatMap e40)]) 7 ?_ (fun zb5 zrU=>?_)
       ·rcases Bool.eq_false_or_eq_true (!z6H.1) with hb' | hb'
        ·have zrV:=hb'; clear hb'
         have zkV:=yd zrS zrV
         replace zkV:=Option.some.inj zkV
         refine WL.pin (i:=39) rfl zrV ?_
         refine WL.e rfl rfl rfl (WL.e rfl rfl rfl (WL.e rfl rfl rfl (WL.e rfl rfl rfl (WL.e rfl rfl rfl (WL.e rfl rfl rfl (WL.pu rfl ?_))))))
         subst zkV
         exact WL.y4x zhz zrT (.cons rfl (.cons rfl (.cons rfl (.cons rfl (.cons rfl (.cons rfl (.cons rfl (.cons rfl (.cons rfl .nil))))))))) (.cons .here (.cons .here (.cons .here (.cons .here .nil))))
        ·have zrW:=hb'; clear hb'
         have z7O:=ye zrS zrW
         obtain ⟨zrH,zzb,z7O⟩:=z8 z7O
         obtain ⟨zkH,zzc,z7O⟩:=z8 z7O
         obtain ⟨zf8,zzd,z7O⟩:=z8 z7O
         replace z7O:=Option.some.inj z7O
         refine WL.pin (i:=39) rfl zrW ?_
         refine WL.pu rfl ?_
         refine WL.a (d:=41) rfl rfl rfl (y9 y5 rfl (y7 .h1) rfl) ?_
         refine WL.b (dd:=42) rfl rfl rfl (za (l:=[.tmp 41]) Tryz.call80 (.cons rfl .nil)) .nil (ccz hz .nil .h2 fun w pz ho=>y6Q _ _ _ zzb w pz ) ?_
         refine WL.b (dd:=43) rfl rfl rfl (za (l:=[.tmp 42]) Tryz.call68 (.cons rfl .nil)) .nil (ccz hz .nil .h2 fun w pz ho=>y1Z _ _ _ zzc w pz ) ?_
         refine WL.yield (dd:=44) (x:=zkH) (h:=()) (g:=zhz) (s:=z6H.2) (b:=zf8.1) (s':=zf8.2) zfd rfl rfl rfl (.cons rfl .nil) ((.cons .here .nil) : Sel _ [z1I zhz z6H.2] _) zzd zrT (fun w hw=>hz.call hw ((.cons .here .nil) : Sel _ [z1I zhz z6H.2] _)) ?_
         intro zze zzf
         refine WL.pu rfl (WL.pu rfl ?_)
         subst z7O
         exact WL.y4x zze zzf (.cons rfl (.cons rfl (.cons rfl (.cons rfl (.cons rfl (.cons rfl (.cons rfl (.cons rfl (.cons rfl .nil))))))))) (.cons .here (.cons .here (.cons .here (.cons .here .nil))))
       ·skip
        refine WL.nil (WX.a ?_)
        refine WC.cond rfl (fun zkW=>?_) (fun zkW=>?_)
        ·replace h:=yd h zkW
         refine WC.ret (WX.yl (WX.y6 (WX.y6 (WX.yl (WX.y6 (WX.yl (WX.y6 (WX.y6 (WX.yl (WX.y6 ?_))))))))))
         obtain rfl:=Option.some.inj h
         refine WX.y8 Tryz.results78 .nil (fun w hw=>?_)
         exact ⟨(z4o ++ zfe),zb5,y6E,zrU,hw.sub (.cons .h2 (.cons .here .nil))⟩
        ·replace h:=ye h zkW
         refine WC.skip (WX.yi (WX.a (WC.a (WL.pu rfl (WL.pu rfl (WL.nil ?_))))))
         exact WX.round (G:=Nat × Int × zg × zO) ⟨zkF,(i64 (z2k + 1)),z9o.2,zb5⟩ ⟨h,zrU⟩ (Nat.lt_succ_self _) (.cons rfl (.cons rfl (.cons rfl (.cons rfl (.cons rfl (.cons rfl (.cons rfl (.cons rfl .nil)))))))) (.cons .h2 (.cons .h2 (.cons .here .nil)))
      ·replace h:=ye h zkU
       refine WC.exit (WX.yf (WX.yf (WX.yv ?_)))
       exact WX.mid (G:=zg × zO) ⟨z3Z,z6N⟩ ⟨h,zrQ⟩ (.cons rfl (.cons rfl (.cons rfl (.cons rfl (.cons rfl .nil))))) (.cons .here (.cons .h1 .nil))
     ·rintro z6J zcH ⟨h,zzg⟩
      replace h:=(zz6 z6J).symm.trans h
      refine WX.yi ?_
      exact WX.mid (G:=zg × Zp × zO) ⟨z6J,(z4o ++ zfe),zcH⟩ ⟨h,((Zle.left _ _).trans (Zle.yn _ _ _)),zzg⟩ (.cons rfl (.cons rfl (.cons rfl (.cons rfl (.cons rfl .nil))))) (.cons .here (.cons .here .nil))
    ·rintro z6I zcF zcG ⟨h,zzh,zzi⟩
     replace h:=(zz1 z6I).symm.trans h
     refine WC.a (WL.pu rfl (WL.pu rfl (WL.nil ?_)))
     exact WX.round (G:=Nat × Int × zg × Zp × zO) ⟨zkI,(i64 (z3j + 1)),z6I,zcF,zcG⟩ ⟨h,(zhx.trans zzh),zzi⟩ (Nat.lt_succ_self _) (.cons rfl (.cons rfl (.cons rfl (.cons rfl (.cons rfl .nil))))) (.cons .here (.cons .here .nil))
   ·replace h:=ye h zkT
    refine WC.exit (WX.yf (WX.yf (WX.yv ?_)))
    exact WX.mid (G:=zg × Zp × zO) ⟨z4G,z4o,z9s⟩ ⟨h,zhx,zrO⟩ (.cons rfl (.cons rfl .nil)) (.cons .here (.cons .here .nil))
  ·rintro z6L z6j zcD ⟨h,zrX,zzj⟩
   replace h:=(zz0 z6L).symm.trans h
   refine WC.b (WC.a ?_)
   refine WL.a (d:=49) rfl rfl rfl (y4 ybH rfl rfl) ?_
   refine WL.a (d:=50) rfl rfl rfl (yc y4r rfl (y1V (hz.pv2 .here) (zrK.mono ((Zle.left _ _).trans zrX)) rfl)) ?_
   refine WL.a (d:=51) rfl rfl rfl (yP Tryz.underlying65 rfl) ?_
   refine WL.pu rfl (WL.nil (WX.a ?_))
   obtain ⟨z7M,zzk,h⟩:=y12 h
   refine WC.y6Z (fun (z7N : zg) (zcJ : zO)=>(z7M z7N = some r) ∧ (z5d zcJ z7N)) (fun (z7N : zg) (zcJ : zO)=>[]) (fun (z7N : zg) (zcJ : zO)=>[fz z6j,z1I zcJ z7N]) ?_ ?_
   ·skip
    refine WC.block ?_
    refine WC.y36 (fun (zcK : Nat) (z2S : Int) (z40 : zg) (z6O : zO)=>(y1h zg z2l z1H z7M zcK z2S z40 = some r) ∧ (z5d z6O z40)) (fun (zcK : Nat) (z2S : Int) (z40 : zg) (z6O : zO)=>[(0,(.func (.yield z5c) #[] #[])),(50,(.slice zfb z2l.length zfc)),(51,(.int .i64 ((z2l.length : Nat) : Int))),(52,(.int .i64 z2S))]) (fun (zcK : Nat) (z2S : Int) (z40 : zg) (z6O : zO)=>[fz z6j,z1I z6O z40]) (fun (zcK : Nat) (z2S : Int) (z40 : zg) (z6O : zO)=>zcK) ⟨yu,0,z6L,zcD⟩ ⟨h,zzj⟩ (.cons rfl (.cons rfl (.cons rfl (.cons rfl .nil)))) (.cons .here (.cons .here .nil)) ?_
    rintro zcK z2S z40 z6O ⟨h,zrY⟩
    obtain ⟨zkK,rfl⟩:=y5r h
    rw [y1h] at h
    refine WC.b (WC.a (WL.pu rfl (WL.nil (WX.a (WC.b ?_)))))
    refine WC.cond rfl (fun zkX=>?_) (fun zkX=>?_)
    ·replace h:=yd h zkX
     refine WC.skip (WX.a (WC.b (WC.block (WC.b ?_))))
     obtain ⟨zzl,h⟩:=yj h
     refine WC.a ?_
     refine WL.znth (dd:=54) rfl rfl (Z:=(Z ++ z6j)) (Pr:=(fun r x=>r = e40 x)) yK rfl rfl (zyX.mono ((Zle.left _ _).trans zrX)) zzl ?_
     rintro zIx zIy zzm zIz rfl
     refine WL.a (d:=55) rfl rfl rfl (y9 y5 rfl (y2k (hz.pv2 .here) zzm) rfl) ?_
     refine WL.new (dd:=10) rfl rfl rfl (yk (cs:=[(.int .i64 0),(.int .i64 0)]) yo rfl) ?_
     intro zzn _
     refine WL.yb rfl rfl (ya yh rfl rfl rfl .here rfl rfl rfl) ?_
     refine WL.nil (WX.a (WC.b ?_))
     obtain ⟨zrI,zzo,h⟩:=z8 h
     obtain ⟨zkL,zzp,h⟩:=z8 h
     obtain ⟨z6K,zzq,h⟩:=z8 h
     obtain ⟨z9p,zrZ,h⟩:=z8 h
     refine WC.a (WL.pu rfl ?_)
     refine WL.a (d:=57) rfl rfl rfl (y9 y5 rfl (y7 .here) rfl) ?_
     refine WL.b (dd:=58) rfl rfl rfl (za (l:=[.tmp 57]) Tryz.call79 (.cons rfl .nil)) .nil (ccz hz .nil .h1 fun w pz ho=>y5v _ _ _ zzo w pz ) ?_
     refine WL.b (dd:=59) rfl rfl rfl (za (l:=[.tmp 58]) Tryz.call68 (.cons rfl .nil)) .nil (ccz hz .nil .h1 fun w pz ho=>y1Z _ _ _ zzp w pz ) ?_
     refine WL.yield (dd:=60) (x:=zkL) (h:=()) (g:=z6O) (s:=z40) (b:=z6K.1) (s':=z6K.2) zfd rfl rfl rfl (.cons rfl .nil) ((.cons .h2 .nil) : Sel _ [z1I z6O z40] _) zzq zrY (fun w hw=>hz.call hw ((.cons .h2 .nil) : Sel _ [z1I z6O z40] _)) ?_
     intro zhA zs0
     refine WL.pu rfl (WL.pu rfl ?_)
     refine WL.y8N (fun (zb6 : zO)=>z5d zb6 z9p.2) (fun (zb6 : zO)=>[(0,(.func (.yield z5c) #[] #[])),(50,(.slice zfb z2l.length zfc)),(51,(.int .i64 ((z2l.length : Nat) : Int))),(52,(.int .i64 z2S)),(69,(.bool z9p.1))]) (fun (zb6 : zO)=>[z1I zb6 z9p.2,stb zzn 40 [(.int .i64 ((nth z2l z2S).fN)),(.int .i64 ((nth z2l z2S).fD))],fz z6j]) 7 ?_ (fun zb6 zs1=>?_)
     ·rcases Bool.eq_false_or_eq_true (!z6K.1) with hb' | hb'
      ·have zs2:=hb'; clear hb'
       have zkY:=yd zrZ zs2
       replace zkY:=Option.some.inj zkY
       refine WL.pin (i:=62) rfl zs2 ?_
       refine WL.e rfl rfl rfl (WL.e rfl rfl rfl (WL.e rfl rfl rfl (WL.e rfl rfl rfl (WL.e rfl rfl rfl (WL.e rfl rfl rfl (WL.pu rfl ?_))))))
       subst zkY
       exact WL.y4x zhA zs0 (.cons rfl (.cons rfl (.cons rfl (.cons rfl (.cons rfl .nil))))) (.cons .here (.cons .here (.cons .here .nil)))
      ·have zs3:=hb'; clear hb'
       have z7P:=ye zrZ zs3
       obtain ⟨zrJ,zzr,z7P⟩:=z8 z7P
       obtain ⟨zkM,zzs,z7P⟩:=z8 z7P
       obtain ⟨zf9,zzt,z7P⟩:=z8 z7P
       replace z7P:=Option.some.inj z7P
       refine WL.pin (i:=62) rfl zs3 ?_
       refine WL.pu rfl ?_
       refine WL.a (d:=64) rfl rfl rfl (y9 y5 rfl (y7 .h1) rfl) ?_
       refine WL.b (dd:=65) rfl rfl rfl (za (l:=[.tmp 64]) Tryz.call80 (.cons rfl .nil)) .nil (ccz hz .nil .h2 fun w pz ho=>y6Q _ _ _ zzr w pz ) ?_
       refine WL.b (dd:=66) rfl rfl rfl (za (l:=[.tmp 65]) Tryz.call68 (.cons rfl .nil)) .nil (ccz hz .nil .h2 fun w pz ho=>y1Z _ _ _ zzs w pz ) ?_
       refine WL.yield (dd:=67) (x:=zkM) (h:=()) (g:=zhA) (s:=z6K.2) (b:=zf9.1) (s':=zf9.2) zfd rfl rfl rfl (.cons rfl .nil) ((.cons .here .nil) : Sel _ [z1I zhA z6K.2] _) zzt zs0 (fun w hw=>hz.call hw ((.cons .here .nil) : Sel _ [z1I zhA z6K.2] _)) ?_
       intro zzu zzv
       refine WL.pu rfl (WL.pu rfl ?_)
       subst z7P
       exact WL.y4x zzu zzv (.cons rfl (.cons rfl (.cons rfl (.cons rfl (.cons rfl .nil))))) (.cons .here (.cons .here (.cons .here .nil)))
     ·skip
      refine WL.nil (WX.a ?_)
      refine WC.cond rfl (fun zkZ=>?_) (fun zkZ=>?_)
      ·replace h:=yd h zkZ
       refine WC.ret (WX.yl (WX.y6 (WX.y6 (WX.yl (WX.y6 ?_)))))
       obtain rfl:=Option.some.inj h
       refine WX.y8 Tryz.results78 .nil (fun w hw=>?_)
       exact ⟨z6j,zb6,y6E,zs1,hw.sub (.cons .h2 (.cons .here .nil))⟩
      ·replace h:=ye h zkZ
       refine WC.skip (WX.yi (WX.a (WC.a (WL.pu rfl (WL.pu rfl (WL.nil ?_))))))
       exact WX.round (G:=Nat × Int × zg × zO) ⟨zkK,(i64 (z2S + 1)),z9p.2,zb6⟩ ⟨h,zs1⟩ (Nat.lt_succ_self _) (.cons rfl (.cons rfl (.cons rfl (.cons rfl .nil)))) (.cons .h2 (.cons .here .nil))
    ·replace h:=ye h zkX
     refine WC.exit (WX.yf (WX.yf (WX.yv ?_)))
     exact WX.mid (G:=zg × zO) ⟨z40,z6O⟩ ⟨h,zrY⟩ .nil (.cons .here (.cons .here .nil))
   ·rintro z7N zcJ ⟨h,zzw⟩
    replace h:=(zzk z7N).symm.trans h
    obtain rfl:=Option.some.inj h
    refine WX.y5t Tryz.results78 .nil (fun w hw=>?_)
    exact ⟨z6j,zcJ,y6E,zzw,hw.sub (.cons .here (.cons .here .nil))⟩
def y64 (zcL : z1) (zcM : z1) : Option (Int × Int) :=
 some ((i64 (zcL.fN * zcM.fN)),(i64 (zcL.fD * zcM.fD)))
set_option maxRecDepth 20000 in
theorem yc3 (Z : Zp) (zhB : Addr) (zhC : Addr) (zcL : z1) (zcM : z1) (r : Int × Int)
  (h : y64 zcL zcM = some r) (w₀ : World) (hz : PZ [] w₀ Z)
  (zs4 : ZC Z zhB [(.int .i64 zcL.fN),(.int .i64 zcL.fD)])
  (zs5 : ZC Z zhC [(.int .i64 zcM.fN),(.int .i64 zcM.fD)]) :
  Calls Tryz.prog 71 #[(.pointer (some zhB)),(.pointer (some zhC))] w₀ fun e w'=>e = .returned (.tuple #[(.int .i64 r.1),(.int .i64 r.2)]) ∧ Hp [] w₀ w' []:=by
 unfold y64 at h
 refine Calls.yg (vs:=[(.pointer (some zhB)),(.pointer (some zhC))]) (pre:=[]) (env:=[(0,(.pointer (some zhB))),(1,(.pointer (some zhC)))]) Tryz.func71 rfl Tryz.ntmps71 rfl (Hp.nil w₀ _) rfl ?_
 refine WC.b (WC.a (WL.pu rfl (WL.pu rfl (WL.nil (WX.a (WC.b ?_))))))
 refine WC.yH (fun i=>[].contains i) [] rfl ?_
 refine WD.a (i:=0) (d:=4) (by kernel_rfl) rfl z6 z7 rfl rfl rfl (fun _=>y4 yL rfl rfl) ?_
 refine WD.e (i:=1) (d:=5) (by kernel_rfl) rfl z6 z7 rfl rfl rfl (yc yr rfl (y1V hz.pv zs4 rfl)) ?_
 refine WD.a (i:=2) (d:=6) (by kernel_rfl) rfl z6 z7 rfl rfl rfl (fun _=>y4 yL rfl rfl) ?_
 refine WD.e (i:=3) (d:=7) (by kernel_rfl) rfl z6 z7 rfl rfl rfl (yc yr rfl (y1V hz.pv zs5 rfl)) ?_
 refine WD.a (i:=4) (d:=8) (by kernel_rfl) rfl z6 z7 rfl rfl rfl (fun _=>y58 rfl rfl rfl) ?_
 refine WD.a (i:=5) (d:=9) (by kernel_rfl) rfl z6 z7 rfl rfl rfl (fun _=>y4 yN rfl rfl) ?_
 refine WD.e (i:=6) (d:=10) (by kernel_rfl) rfl z6 z7 rfl rfl rfl (yc yr rfl (y1V hz.pv zs4 rfl)) ?_
 refine WD.a (i:=7) (d:=11) (by kernel_rfl) rfl z6 z7 rfl rfl rfl (fun _=>y4 yN rfl rfl) ?_
 refine WD.e (i:=8) (d:=12) (by kernel_rfl) rfl z6 z7 rfl rfl rfl (yc yr rfl (y1V hz.pv zs5 rfl)) ?_
 refine WD.a (i:=9) (d:=13) (by kernel_rfl) rfl z6 z7 rfl rfl rfl (fun _=>y58 rfl rfl rfl) ?_
 refine WD.a (i:=10) (d:=2) (by kernel_rfl) rfl z6 z7 rfl rfl rfl (fun _=>q_z rfl) ?_
 refine WD.a (i:=11) (d:=3) (by kernel_rfl) rfl z6 z7 rfl rfl rfl (fun _=>q_z rfl) ?_
 refine WD.done (by kernel_rfl) ?_
 refine WX.a (WC.ret ?_)
 obtain rfl:=Option.some.inj h
 refine WX.y8 Tryz.results71 (.tmp rfl (.tmp rfl .nil)) (fun w hw=>?_)
 exact ⟨yF rfl rfl,hw.sub .nil⟩
def y5O (z5L : z1) (z5M : z1) : Option (z1 × Int) :=
 (y1m z5L).bind fun zs6=>(if !zs6 then some true else (y1m z5M).bind fun zs7=>some (!zs7)).bind fun zhD=>if zhD then some ((⟨0,0⟩ : z1),2) else (y64 z5L z5M).bind fun zl0=>(y3Q zl0.1 zl0.2).bind fun zl1=>some (zl1.1,zl1.2)
set_option maxRecDepth 20000 in
theorem ycr (Z : Zp)  (z5L : z1) (z5M : z1) (r : z1 × Int)
  (h : y5O z5L z5M = some r) (w₀ : World) (hz : PZ [] w₀ Z) :
  Calls Tryz.prog 53 #[(.string ⟨#[42]⟩),(.agg #[(.int .i64 z5L.fN),(.int .i64 z5L.fD)]),(.agg #[(.int .i64 z5M.fN),(.int .i64 z5M.fD)])] w₀ fun e w'=>e = .returned (.tuple #[(.agg #[(.int .i64 r.1.fN),(.int .i64 r.1.fD)]),(.int .i64 r.2)]) ∧ Hp [] w₀ w' []:=by
 unfold y5O at h
 refine Calls.yg (vs:=[(.string ⟨#[42]⟩),(.agg #[(.int .i64 z5L.fN),(.int .i64 z5L.fD)]),(.agg #[(.int .i64 z5M.fN),(.int .i64 z5M.fD)])]) (pre:=[]) (env:=[(0,(.string ⟨#[42]⟩)),(1,(.agg #[(.int .i64 z5L.fN),(.int .i64 z5L.fD)])),(2,(.agg #[(.int .i64 z5M.fN),(.int .i64 z5M.fD)]))]) Tryz.func53 rfl Tryz.ntmps53 rfl (Hp.nil w₀ _) rfl ?_
 refine WC.b (WC.a ?_)
 refine WL.new (dd:=4) rfl rfl rfl (yx (cs:=[(.int .i64 z5L.fN),(.int .i64 z5L.fD)]) rfl rfl) ?_
 intro zfg _
 refine WL.new (dd:=5) rfl rfl rfl (yx (cs:=[(.int .i64 z5M.fN),(.int .i64 z5M.fD)]) rfl rfl) ?_
 intro zfh _
 refine WL.new (dd:=6) rfl rfl rfl (yk (cs:=[(.int .i64 0),(.int .i64 0)]) yo rfl) ?_
 intro zIA _
 refine WL.pu rfl (WL.nil (WX.a (WC.b (WC.b ?_))))
 obtain ⟨zs6,zzx,h⟩:=z8 h
 obtain ⟨zhD,zs8,h⟩:=z8 h
 refine WC.a ?_
 refine WL.a (d:=9) rfl rfl rfl (y9 y5 rfl (y7 .h2) rfl) ?_
 refine WL.b (dd:=10) rfl rfl rfl (za (l:=[.tmp 9]) Tryz.call44 (.cons rfl .nil)) .nil (cc hz .nil fun w pz ho=>y1P _ _ _ zzx w pz ) ?_
 refine WL.pu rfl (WL.pu rfl ?_)
 refine WL.seg false 3 12 (B:=zhD) rfl rfl rfl rfl rfl rfl (fun h=>(Option.some.inj (yd zs8 h)).symm) (fun _ zzy=>?_) ?_
 ·skip
  have zfi:=ye zs8 zzy
  obtain ⟨zs7,zzz,zfi⟩:=z8 zfi
  replace zfi:=Option.some.inj zfi
  refine WL.a (d:=13) rfl rfl rfl (y9 y5 rfl (y7 .h1) rfl) ?_
  refine WL.b (dd:=14) rfl rfl rfl (za (l:=[.tmp 13]) Tryz.call44 (.cons rfl .nil)) .nil (cc hz .nil fun w pz ho=>y1P _ _ _ zzz w pz ) ?_
  refine WL.pu rfl (WL.pu rfl ?_)
  exact WL.yw zfi rfl rfl .all
 refine WL.pu rfl ?_
 refine WL.seg false 7 17 (B:=zhD) rfl rfl rfl rfl rfl rfl (fun h=>h) (fun _ zzA=>?_) ?_
 ·skip
  refine WL.pu rfl ?_
  refine WL.a (d:=19) rfl rfl rfl (y8R (r:=false) (by decide) rfl rfl) ?_
  refine WL.pu rfl (WL.e rfl rfl rfl (WL.e rfl rfl rfl (WL.e rfl rfl rfl (WL.pu rfl (WL.pu rfl ?_)))))
  exact WL.yw (Eq.symm zzA) rfl rfl .all
 refine WL.nil (WX.a ?_)
 refine WC.cond rfl (fun zl2=>?_) (fun zl2=>?_)
 ·replace h:=yd h zl2
  refine WC.b (WC.a ?_)
  refine WL.a (d:=26) rfl rfl rfl (yz (v:=(.agg #[(.int .i64 0),(.int .i64 0)])) (Eos.parts (l:=[]) .nil []) (fun _=>by kernel_rfl)) ?_
  refine WL.yb rfl rfl (ya yh rfl rfl rfl .here rfl rfl rfl) ?_
  refine WL.pu rfl (WL.nil (WX.a (WC.ret (WX.y6 ?_))))
  obtain rfl:=Option.some.inj h
  refine WX.y8 Tryz.results53 (.agg rfl y5 rfl (y7 .here) (.tmp rfl .nil)) (fun w hw=>?_)
  exact ⟨yF rfl rfl,hw.sub .nil⟩
 ·replace h:=ye h zl2
  refine WC.skip (WX.a (WC.b (WC.a ?_)))
  refine WL.new (dd:=27) rfl rfl rfl (y7s Value.string (fun x=>x)) ?_
  intro zIB _
  refine WL.a (d:=28) rfl rfl rfl (y1i (Eos.caps (l:=[.tmp 4,.tmp 5]) (.cons rfl (.cons rfl .nil)))) ?_
  refine WL.yb rfl rfl (y2r (k:=⟨#[43]⟩) (v:=(.func (.func 69) #[] #[(.pointer (some ⟨zfg,0,none⟩)),(.pointer (some ⟨zfh,0,none⟩))])) y2V Tryz.underlying106 rfl rfl rfl rfl .here) ?_
  refine WL.a (d:=29) rfl rfl rfl (y1i (Eos.caps (l:=[.tmp 4,.tmp 5]) (.cons rfl (.cons rfl .nil)))) ?_
  refine WL.yb rfl rfl (y2r (k:=⟨#[45]⟩) (v:=(.func (.func 70) #[] #[(.pointer (some ⟨zfg,0,none⟩)),(.pointer (some ⟨zfh,0,none⟩))])) y2V Tryz.underlying106 rfl rfl rfl rfl .here) ?_
  refine WL.a (d:=30) rfl rfl rfl (y1i (Eos.caps (l:=[.tmp 4,.tmp 5]) (.cons rfl (.cons rfl .nil)))) ?_
  refine WL.yb rfl rfl (y2r (k:=⟨#[42]⟩) (v:=(.func (.func 71) #[] #[(.pointer (some ⟨zfg,0,none⟩)),(.pointer (some ⟨zfh,0,none⟩))])) y2V Tryz.underlying106 rfl rfl rfl rfl .here) ?_
  refine WL.a (d:=31) rfl rfl rfl (y1i (Eos.caps (l:=[.tmp 4,.tmp 5]) (.cons rfl (.cons rfl .nil)))) ?_
  refine WL.yb rfl rfl (y2r (k:=⟨#[47]⟩) (v:=(.func (.func 72) #[] #[(.pointer (some ⟨zfg,0,none⟩)),(.pointer (some ⟨zfh,0,none⟩))])) y2V Tryz.underlying106 rfl rfl rfl rfl .here) ?_
  refine WL.pu rfl (WL.pu rfl (WL.nil (WX.a (WC.b ?_))))
  obtain ⟨zl0,zzB,h⟩:=z8 h
  obtain ⟨zl1,zzC,h⟩:=z8 h
  refine WC.a (WL.pu rfl (WL.pu rfl ?_))
  refine WL.a (d:=35) rfl rfl rfl (y8Q (k:=⟨#[42]⟩) (dflt:=.nilFunc) (r:=(.func (.func 71) #[] #[(.pointer (some ⟨zfg,0,none⟩)),(.pointer (some ⟨zfh,0,none⟩))])) y2V Tryz.underlying106 zgH rfl rfl rfl .here (by rfl)) ?_
  refine WL.b (dd:=36) rfl rfl rfl (y3i (l:=[]) Tryz.call71 rfl .nil) .nil (ccl hz .nil (.cons .h3 (.cons .h2 .nil)) fun w pz ho la=>yc3 _ _ _ _ _ _ zzB w pz ((la _ (.head _) _).stb) ((la _ (.tail _ (.head _)) _).stb)) ?_
  refine WL.pu rfl (WL.pu rfl ?_)
  refine WL.b (dd:=39) rfl rfl rfl (za (l:=[.tmp 37,.tmp 38]) Tryz.call73 (.cons rfl (.cons rfl .nil))) .nil (cc hz .nil fun w pz ho=>y6P _ _ _ _ zzC w pz ) ?_
  refine WL.pu rfl (WL.pu rfl ?_)
  refine WL.yb rfl rfl (ya yh rfl rfl rfl .h1 rfl rfl rfl) ?_
  refine WL.pu rfl (WL.nil (WX.a (WC.ret ?_)))
  obtain rfl:=Option.some.inj h
  refine WX.y8 Tryz.results53 (.agg rfl y5 rfl (y7 .here) (.tmp rfl .nil)) (fun w hw=>?_)
  exact ⟨yF rfl rfl,hw.sub .nil⟩
def y2X (z6k : z1) (z6l : z1) : Option (z1 × Int) :=
 (y5O z6k z6l).bind fun zl3=>some (zl3.1,zl3.2)
set_option maxRecDepth 20000 in
theorem yam (Z : Zp)  (z6k : z1) (z6l : z1) (r : z1 × Int)
  (h : y2X z6k z6l = some r) (w₀ : World) (hz : PZ [] w₀ Z) :
  Calls Tryz.prog 39 #[(.agg #[(.int .i64 z6k.fN),(.int .i64 z6k.fD)]),(.agg #[(.int .i64 z6l.fN),(.int .i64 z6l.fD)])] w₀ fun e w'=>e = .returned (.tuple #[(.agg #[(.int .i64 r.1.fN),(.int .i64 r.1.fD)]),(.int .i64 r.2)]) ∧ Hp [] w₀ w' []:=by
 unfold y2X at h
 refine Calls.yg (vs:=[(.agg #[(.int .i64 z6k.fN),(.int .i64 z6k.fD)]),(.agg #[(.int .i64 z6l.fN),(.int .i64 z6l.fD)])]) (pre:=[]) (env:=[(0,(.agg #[(.int .i64 z6k.fN),(.int .i64 z6k.fD)])),(1,(.agg #[(.int .i64 z6l.fN),(.int .i64 z6l.fD)]))]) Tryz.func39 rfl Tryz.ntmps39 rfl (Hp.nil w₀ _) rfl ?_
 refine WC.b (WC.a ?_)
 refine WL.new (dd:=2) rfl rfl rfl (yx (cs:=[(.int .i64 z6k.fN),(.int .i64 z6k.fD)]) rfl rfl) ?_
 intro zIC _
 refine WL.new (dd:=3) rfl rfl rfl (yx (cs:=[(.int .i64 z6l.fN),(.int .i64 z6l.fD)]) rfl rfl) ?_
 intro zID _
 refine WL.new (dd:=4) rfl rfl rfl (yk (cs:=[(.int .i64 0),(.int .i64 0)]) yo rfl) ?_
 intro zIE _
 refine WL.pu rfl (WL.nil (WX.a (WC.b ?_)))
 obtain ⟨zl3,zzD,h⟩:=z8 h
 refine WC.a ?_
 refine WL.a (d:=6) rfl rfl rfl (y9 y5 rfl (y7 .h2) rfl) ?_
 refine WL.a (d:=7) rfl rfl rfl (y9 y5 rfl (y7 .h1) rfl) ?_
 refine WL.b (dd:=8) rfl rfl rfl (za (l:=[.const (.string ⟨#[42]⟩),.tmp 6,.tmp 7]) Tryz.call53 (.cons rfl (.cons rfl (.cons rfl .nil)))) .nil (cc hz .nil fun w pz ho=>ycr _ _ _ _ zzD w pz ) ?_
 refine WL.pu rfl (WL.pu rfl ?_)
 refine WL.yb rfl rfl (ya yh rfl rfl rfl .here rfl rfl rfl) ?_
 refine WL.pu rfl (WL.nil (WX.a (WC.ret ?_)))
 obtain rfl:=Option.some.inj h
 refine WX.y8 Tryz.results39 (.agg rfl y5 rfl (y7 .here) (.tmp rfl .nil)) (fun w hw=>?_)
 exact ⟨yF rfl rfl,hw.sub .nil⟩
def y1x (z9t : zV) (z1E : z2) (z6m : z1) : Option (z1 × zV) :=
 (y1r z9t (fun (y0 : z1) (y1 : z1)=>y2X y0 y1) z1E.fR z6m).bind fun zl4=>(y1r zl4.2 (fun (y0 : z1) (y1 : z1)=>y1o y0 y1) z1E.fB zl4.1).bind fun zl5=>some (zl5.1,zl5.2)
set_option maxRecDepth 20000 in
theorem y8D (Z : Zp) (z7Q : Nat) (z9t : zV) (z1E : z2) (z6m : z1) (r : z1 × zV)
  (h : y1x z9t z1E z6m = some r) (w₀ : World) (hz : PZ (fps [stb z7Q 83 [(.int .i64 z9t.fE)]]) w₀ Z)
  (hown : Hp (fps [stb z7Q 83 [(.int .i64 z9t.fE)]]) w₀ w₀ [stb z7Q 83 [(.int .i64 z9t.fE)]]) :
  Calls Tryz.prog 50 #[(.pointer (some ⟨z7Q,0,none⟩)),(.agg #[(.int .i64 z1E.fB.fN),(.int .i64 z1E.fB.fD),(.int .i64 z1E.fR.fN),(.int .i64 z1E.fR.fD)]),(.agg #[(.int .i64 z6m.fN),(.int .i64 z6m.fD)])] w₀ fun e w'=>e = .returned (.agg #[(.int .i64 r.1.fN),(.int .i64 r.1.fD)]) ∧ Hp (fps [stb z7Q 83 [(.int .i64 z9t.fE)]]) w₀ w' [stb z7Q 83 [(.int .i64 r.2.fE)]]:=by
 unfold y1x at h
 refine Calls.yg (vs:=[(.pointer (some ⟨z7Q,0,none⟩)),(.agg #[(.int .i64 z1E.fB.fN),(.int .i64 z1E.fB.fD),(.int .i64 z1E.fR.fN),(.int .i64 z1E.fR.fD)]),(.agg #[(.int .i64 z6m.fN),(.int .i64 z6m.fD)])]) (pre:=[stb z7Q 83 [(.int .i64 z9t.fE)]]) (env:=[(0,(.pointer (some ⟨z7Q,0,none⟩))),(1,(.agg #[(.int .i64 z1E.fB.fN),(.int .i64 z1E.fB.fD),(.int .i64 z1E.fR.fN),(.int .i64 z1E.fR.fD)])),(2,(.agg #[(.int .i64 z6m.fN),(.int .i64 z6m.fD)]))]) Tryz.func50 rfl Tryz.ntmps50 rfl (hown) rfl ?_
 refine WC.b (WC.a ?_)
 refine WL.new (dd:=4) rfl rfl rfl (yx (cs:=[(.int .i64 z1E.fB.fN),(.int .i64 z1E.fB.fD),(.int .i64 z1E.fR.fN),(.int .i64 z1E.fR.fD)]) rfl rfl) ?_
 intro zzE _
 refine WL.new (dd:=5) rfl rfl rfl (yx (cs:=[(.int .i64 z6m.fN),(.int .i64 z6m.fD)]) rfl rfl) ?_
 intro zIF _
 refine WL.new (dd:=6) rfl rfl rfl (yk (cs:=[(.int .i64 0),(.int .i64 0)]) yo rfl) ?_
 intro zIG _
 refine WL.nil (WX.a (WC.b ?_))
 obtain ⟨zl4,zzF,h⟩:=z8 h
 obtain ⟨zl5,zzG,h⟩:=z8 h
 refine WC.yH (fun i=>[7,8,9].contains i) [stb zzE 54 [(.int .i64 z1E.fB.fN),(.int .i64 z1E.fB.fD),(.int .i64 z1E.fR.fN),(.int .i64 z1E.fR.fD)]] rfl ?_
 refine WD.a (i:=0) (d:=7) (by kernel_rfl) rfl z6 z7 rfl rfl rfl (fun _=>q_m rfl) ?_
 refine WD.a (i:=1) (d:=8) (by kernel_rfl) rfl z6 z7 rfl rfl rfl (fun _=>y4 y2B rfl rfl) ?_
 refine WD.y2u (i:=2) (d:=9) (by kernel_rfl) rfl z6 z7 rfl rfl rfl (Sin.of (.cons .h2 .nil)) (ys (cs:=[(.int .i64 z1E.fB.fN),(.int .i64 z1E.fB.fD)]) y5 rfl rfl (yW (s:=2) .here rfl)) ?_
 refine WD.a (i:=3) (d:=10) (by kernel_rfl) rfl z6 z7 rfl rfl rfl (fun _=>q_m rfl) ?_
 refine WD.a (i:=4) (d:=11) (by kernel_rfl) rfl z6 z7 rfl rfl rfl (fun _=>y4 y2T rfl rfl) ?_
 refine WD.e (i:=5) (d:=12) (by kernel_rfl) rfl z6 z7 rfl rfl rfl (ys (cs:=[(.int .i64 z1E.fR.fN),(.int .i64 z1E.fR.fD)]) y5 rfl rfl (yW (s:=2) .h2 rfl)) ?_
 refine WD.e (i:=6) (d:=13) (by kernel_rfl) rfl z6 z7 rfl rfl rfl (y9 y5 rfl (y7 .h1) rfl) ?_
 refine WD.call0 (i:=7) (dd:=14) rfl (by kernel_rfl) rfl rfl rfl (.inl ⟨rfl,(Sin.of (.cons .h3 .nil))⟩) (za (l:=[.tmp 10,.func 39,.tmp 12,.tmp 13]) Tryz.call67 (.cons rfl (.cons rfl (.cons rfl (.cons rfl .nil))))) (.cons .h3 .nil) (cc hz (.cons .h3 .nil) fun w pz ho=>Calls.mono (y4g _ _ (z5A:=39) (z6E:=[]) _ (z7u:=(fun (y0 : z1) (y1 : z1)=>y2X y0 y1)) _ _ _ zzF w pz Tryz.call39 (fun w' hz' y0 y1  r  hr=>yam _ _ _ _ hr w' hz' ) ho) (fun _ _ h'=>⟨h'.1,trivial,h'.2⟩)) ?_
 intro _
 refine WD.call0 (i:=8) (dd:=15) rfl (by kernel_rfl) rfl rfl rfl (.inl ⟨rfl,(Sin.of (.cons .h3 .nil))⟩) (za (l:=[.tmp 7,.func 31,.tmp 9,.tmp 14]) Tryz.call67 (.cons rfl (.cons rfl (.cons rfl (.cons rfl .nil))))) (.cons .here .nil) (cc hz (.cons .here .nil) fun w pz ho=>Calls.mono (y4g _ _ (z5A:=31) (z6E:=[]) _ (z7u:=(fun (y0 : z1) (y1 : z1)=>y1o y0 y1)) _ _ _ zzG w pz Tryz.call31 (fun w' hz' y0 y1  r  hr=>y5N _ _ _ _ hr w' hz' ) ho) (fun _ _ h'=>⟨h'.1,trivial,h'.2⟩)) ?_
 intro _
 refine WD.y7Z (i:=9) rfl (by kernel_rfl) rfl rfl rfl (by kernel_rfl) (ya yh rfl rfl rfl .h1 rfl rfl rfl) ?_
 refine WD.done (by kernel_rfl) ?_
 refine WX.a (WC.ret ?_)
 obtain rfl:=Option.some.inj h
 refine WX.y8 Tryz.results50 (.agg rfl y5 rfl (y7 .here) .nil) (fun w hw=>?_)
 exact ⟨yD rfl,hw.sub (.cons .h1 .nil)⟩
def yy (z1p : List z1) (z5N : z1 → z1 → Option Int) (z7R : Int → Int → Option z1) : Nat → Int → Int → Int → Option z1
 | 0,_,_,_=>none
 | zl6 + 1,z1X,z4p,z4q=>if decide (z1X < ((z1p.length : Nat) : Int)) then jp2 (fun (z7S : Int) (z7T : Int)=>yy z1p z5N z7R zl6 (i64 (z1X + 1)) z7S z7T) fun zhE=>chk ((0 : Int) ≤ z1X ∧ z1X < ((z1p.length : Nat) : Int)) ((z5N (⟨((nth z1p z1X).fN),((nth z1p z1X).fD)⟩ : z1) (⟨z4p,z4q⟩ : z1)).bind fun zl7=>if decide (zl7 < 0) then chk ((0 : Int) ≤ z1X ∧ z1X < ((z1p.length : Nat) : Int)) (zhE ((nth z1p z1X).fN) ((nth z1p z1X).fD)) else zhE z4p z4q) else z7R z4p z4q
theorem y4D {n : Nat} {z1p : List z1} {z5N : z1 → z1 → Option Int} {z7R : Int → Int → Option z1} {z1X : Int} {z4p : Int} {z4q : Int} {r : z1} (h : yy z1p z5N z7R n z1X z4p z4q = some r) : ∃ m,n = m + 1:=by
 cases n with
 | zero=>cases h
 | succ m=>exact ⟨m,rfl⟩
def y14 (z1p : List z1) (z5N : z1 → z1 → Option Int) : Option z1 :=
 if decide (((z1p.length : Nat) : Int) < 1) then none else chk ((0 : Int) ≤ 0 ∧ 0 < ((z1p.length : Nat) : Int)) (jp2 (fun (z9u : Int) (z9v : Int)=>some (⟨z9u,z9v⟩ : z1)) fun z7R=>yy z1p z5N z7R yu 1 ((nth z1p 0).fN) ((nth z1p 0).fD))
set_option maxRecDepth 20000 in
theorem y40 (Z : Zp) (zcN : Option Addr) (zcO : Nat) (z6n : FuncId) (z7U : List Value) (z1p : List z1) (z5N : z1 → z1 → Option Int) (r : z1)
  (h : y14 z1p z5N = some r) (w₀ : World) (hz : PZ [] w₀ Z)
  (zl8 : ZS Z 2 (fun r x=>r = e40 x) zcN zcO z1p)
  (zzH : ∀ args w,(callFunc z6n args).run Tryz.prog w = .ok (.enter z6n args) w)
  (zzI : ∀ w : World,PZ [] w Z → ∀ (x0 : z1) (x1 : z1) (r : Int),z5N x0 x1 = some r → Calls Tryz.prog z6n (([(.agg #[(.int .i64 x0.fN),(.int .i64 x0.fD)]),(.agg #[(.int .i64 x1.fN),(.int .i64 x1.fD)])] : List Value) ++ z7U).toArray w fun e w'=>e = .returned (.int .i64 r) ∧ Hp [] w w' []) :
  Calls Tryz.prog 42 #[(.slice zcN z1p.length zcO),(.func (.func z6n) #[] (z7U).toArray)] w₀ fun e w'=>e = .returned (.agg #[(.int .i64 r.fN),(.int .i64 r.fD)]) ∧ Hp [] w₀ w' []:=by
 unfold y14 at h
 refine Calls.yg (vs:=[(.slice zcN z1p.length zcO),(.func (.func z6n) #[] (z7U).toArray)]) (pre:=[]) (env:=[(0,(.slice zcN z1p.length zcO)),(1,(.func (.func z6n) #[] (z7U).toArray))]) Tryz.func42 rfl Tryz.ntmps42 rfl (Hp.nil w₀ _) rfl ?_
 refine WC.b (WC.a ?_)
 refine WL.new (dd:=4) rfl rfl rfl (yk (cs:=[(.int .i64 0),(.int .i64 0)]) yo rfl) ?_
 intro zcP _
 refine WL.nil (WX.a (WC.b (WC.b (WC.a (WL.pu rfl ?_)))))
 refine WL.a (d:=8) rfl rfl rfl (yP Tryz.underlying65 rfl) ?_
 refine WL.pu rfl (WL.nil (WX.a ?_))
 refine WC.cond rfl (fun zl9=>?_) (fun zl9=>?_)
 ·replace h:=yd h zl9
  cases h
 ·replace h:=ye h zl9
  refine WC.skip (WX.a (WC.b ?_))
  obtain ⟨zzJ,h⟩:=yj h
  refine WC.a (WL.pu rfl ?_)
  refine WL.znth (dd:=12) rfl rfl (Z:=Z) (Pr:=(fun r x=>r = e40 x)) yK rfl rfl zl8 zzJ ?_
  rintro zIH zII zzK zIJ rfl
  refine WL.a (d:=13) rfl rfl rfl (y9 y5 rfl (y2k hz.pv zzK) rfl) ?_
  refine WL.new (dd:=5) rfl rfl rfl (yk (cs:=[(.int .i64 0),(.int .i64 0)]) yo rfl) ?_
  intro zcQ _
  refine WL.yb rfl rfl (ya yh rfl rfl rfl .here rfl rfl rfl) ?_
  refine WL.nil (WX.a ?_)
  obtain ⟨z7R,zzL,h⟩:=y2b h
  refine WC.y28 (fun (z9u : Int) (z9v : Int)=>(z7R z9u z9v = some r)) (fun (z9u : Int) (z9v : Int)=>[(4,(.pointer (some ⟨zcP,0,none⟩))),(5,(.pointer (some ⟨zcQ,0,none⟩)))]) (fun (z9u : Int) (z9v : Int)=>[stb zcP 40 [(.int .i64 0),(.int .i64 0)],stb zcQ 40 [(.int .i64 z9u),(.int .i64 z9v)]]) ?_ ?_
  ·skip
   refine WC.b (WC.a (WL.pu rfl (WL.nil (WX.a (WC.block ?_)))))
   refine WC.y36 (fun (zcR : Nat) (z1X : Int) (z4p : Int) (z4q : Int)=>(yy z1p z5N z7R zcR z1X z4p z4q = some r)) (fun (zcR : Nat) (z1X : Int) (z4p : Int) (z4q : Int)=>[(0,(.slice zcN z1p.length zcO)),(1,(.func (.func z6n) #[] (z7U).toArray)),(4,(.pointer (some ⟨zcP,0,none⟩))),(5,(.pointer (some ⟨zcQ,0,none⟩))),(6,(.int .i64 z1X))]) (fun (zcR : Nat) (z1X : Int) (z4p : Int) (z4q : Int)=>[stb zcP 40 [(.int .i64 0),(.int .i64 0)],stb zcQ 40 [(.int .i64 z4p),(.int .i64 z4q)]]) (fun (zcR : Nat) (z1X : Int) (z4p : Int) (z4q : Int)=>zcR) ⟨yu,1,((nth z1p 0).fN),((nth z1p 0).fD)⟩ h (.cons rfl (.cons rfl (.cons rfl (.cons rfl (.cons rfl .nil))))) (.cons .h1 (.cons .here .nil)) ?_
   rintro zcR z1X z4p z4q h
   obtain ⟨zl6,rfl⟩:=y4D h
   rw [yy] at h
   refine WC.b (WC.b (WC.a (WL.pu rfl (WL.pu rfl ?_))))
   refine WL.a (d:=16) rfl rfl rfl (yP Tryz.underlying65 rfl) ?_
   refine WL.pu rfl (WL.nil (WX.a ?_))
   refine WC.cond rfl (fun zla=>?_) (fun zla=>?_)
   ·replace h:=yd h zla
    refine WC.skip (WX.a ?_)
    obtain ⟨zhE,zzM,h⟩:=y2b h
    refine WC.y28 (fun (z7S : Int) (z7T : Int)=>(zhE z7S z7T = some r)) (fun (z7S : Int) (z7T : Int)=>[(0,(.slice zcN z1p.length zcO)),(1,(.func (.func z6n) #[] (z7U).toArray)),(4,(.pointer (some ⟨zcP,0,none⟩))),(5,(.pointer (some ⟨zcQ,0,none⟩))),(6,(.int .i64 z1X))]) (fun (z7S : Int) (z7T : Int)=>[stb zcP 40 [(.int .i64 0),(.int .i64 0)],stb zcQ 40 [(.int .i64 z7S),(.int .i64 z7T)]]) ?_ ?_
    ·skip
     refine WC.block (WC.b ?_)
     obtain ⟨zzN,h⟩:=yj h
     obtain ⟨zl7,zzO,h⟩:=z8 h
     refine WC.yH (fun i=>[].contains i) [] rfl ?_
     refine WD.a (i:=0) (d:=20) (by kernel_rfl) rfl z6 z7 rfl rfl rfl (fun _=>q_m rfl) ?_
     refine WD.a (i:=1) (d:=21) (by kernel_rfl) rfl z6 z7 rfl rfl rfl (fun _=>q_m rfl) ?_
     refine WD.a (i:=2) (d:=22) (by kernel_rfl) rfl z6 z7 rfl rfl rfl (fun _=>q_m rfl) ?_
     refine WD.znth (j:=3) (dd:=23) (by kernel_rfl) rfl z6 z7 rfl rfl (Z:=Z) (Pr:=(fun r x=>r = e40 x)) yK rfl rfl zl8 zzN ?_
     rintro zIK zIL zzP zIM rfl
     refine WD.e (i:=4) (d:=24) (by kernel_rfl) rfl z6 z7 rfl rfl rfl (y9 y5 rfl (y2k hz.pv zzP) rfl) ?_
     refine WD.e (i:=5) (d:=25) (by kernel_rfl) rfl z6 z7 rfl rfl rfl (y9 y5 rfl (y7 .h1) rfl) ?_
     refine WD.c (i:=6) (d:=26) (by kernel_rfl) rfl z6 z7 rfl rfl rfl (y3i (l:=[.tmp 24,.tmp 25]) (f:=z6n) (caps:=z7U) zzH rfl (.cons rfl (.cons rfl .nil))) (fun w hw=>zzI w (hz.now hw) (⟨((nth z1p z1X).fN),((nth z1p z1X).fD)⟩ : z1) (⟨z4p,z4q⟩ : z1) zl7  zzO) ?_
     refine WD.a (i:=7) (d:=27) (by kernel_rfl) rfl z6 z7 rfl rfl rfl (fun _=>y8M rfl rfl) ?_
     refine WD.done (by kernel_rfl) ?_
     refine WX.a ?_
     refine WC.cond rfl (fun zlb=>?_) (fun zlb=>?_)
     ·replace h:=yd h zlb
      obtain ⟨zzQ,h⟩:=yj h
      refine WC.a (WL.pu rfl (WL.pu rfl ?_))
      refine WL.znth (dd:=30) rfl rfl (Z:=Z) (Pr:=(fun r x=>r = e40 x)) yK rfl rfl zl8 zzQ ?_
      rintro zIN zIO zzR zIP rfl
      refine WL.a (d:=31) rfl rfl rfl (y9 y5 rfl (y2k hz.pv zzR) rfl) ?_
      refine WL.yb rfl rfl (ya yh rfl rfl rfl .h1 rfl rfl rfl) ?_
      refine WL.nil (WX.yi ?_)
      exact WX.mid (G:=Int × Int) ⟨((nth z1p z1X).fN),((nth z1p z1X).fD)⟩ h (.cons rfl (.cons rfl (.cons rfl (.cons rfl (.cons rfl .nil))))) (.cons .h1 (.cons .here .nil))
     ·replace h:=ye h zlb
      refine WC.skip (WX.yi ?_)
      exact WX.mid (G:=Int × Int) ⟨z4p,z4q⟩ h (.cons rfl (.cons rfl (.cons rfl (.cons rfl (.cons rfl .nil))))) (.cons .here (.cons .here .nil))
    ·rintro z7S z7T h
     replace h:=(zzM z7S z7T).symm.trans h
     refine WC.a (WL.pu rfl (WL.pu rfl (WL.pu rfl (WL.nil ?_))))
     exact WX.round (G:=Nat × Int × Int × Int) ⟨zl6,(i64 (z1X + 1)),z7S,z7T⟩ h (Nat.lt_succ_self _) (.cons rfl (.cons rfl (.cons rfl (.cons rfl (.cons rfl .nil))))) (.cons .here (.cons .here .nil))
   ·replace h:=ye h zla
    refine WC.exit (WX.yf (WX.yf (WX.yv ?_)))
    exact WX.mid (G:=Int × Int) ⟨z4p,z4q⟩ h (.cons rfl (.cons rfl .nil)) (.cons .here (.cons .here .nil))
  ·rintro z9u z9v h
   replace h:=(zzL z9u z9v).symm.trans h
   refine WC.b (WC.a ?_)
   refine WL.a (d:=32) rfl rfl rfl (y9 y5 rfl (y7 .h1) rfl) ?_
   refine WL.yb rfl rfl (ya yh rfl rfl rfl .here rfl rfl rfl) ?_
   refine WL.nil (WX.a (WC.ret ?_))
   obtain rfl:=Option.some.inj h
   refine WX.y8 Tryz.results42 (.agg rfl y5 rfl (y7 .here) .nil) (fun w hw=>?_)
   exact ⟨yD rfl,hw.sub .nil⟩
def y24 (z2T : List z2) (z33 : z1) (z7V : (List z1) → Int → Option (z1 × Int)) : Nat → (List z1) → Int → Int → Option (z1 × Int)
 | 0,_,_,_=>none
 | zlc + 1,z3x,z3y,z5O=>if decide (z3y < ((z2T.length : Nat) : Int)) then chk ((0 : Int) ≤ z3y ∧ z3y < ((z2T.length : Nat) : Int)) ((y1x (⟨z5O⟩ : zV) (⟨(⟨(((nth z2T z3y).fB).fN),(((nth z2T z3y).fB).fD)⟩ : z1),(⟨(((nth z2T z3y).fR).fN),(((nth z2T z3y).fR).fD)⟩ : z1)⟩ : z2) z33).bind fun z7W=>chk ((((z3x ++ ([z7W.1] : List z1)).length : Nat) : Int) * 16 ≤ 140737488355328 ∧ (((z3x ++ ([z7W.1] : List z1)).length : Nat) : Int) ≤ 4611686018427387904) (y24 z2T z33 z7V zlc (z3x ++ ([z7W.1] : List z1)) (i64 (z3y + 1)) z7W.2.fE)) else z7V z3x z5O
theorem y8E {n : Nat} {z2T : List z2} {z33 : z1} {z7V : (List z1) → Int → Option (z1 × Int)} {z3x : List z1} {z3y : Int} {z5O : Int} {r : z1 × Int} (h : y24 z2T z33 z7V n z3x z3y z5O = some r) : ∃ m,n = m + 1:=by
 cases n with
 | zero=>cases h
 | succ m=>exact ⟨m,rfl⟩
def y2L (z2T : List z2) (z33 : z1) : Option (z1 × Int) :=
 (y2K z2T).bind fun zs9=>(if !zs9 then some true else (y3Y z33).bind fun zsa=>some (!zsa)).bind fun zld=>if zld then some ((⟨0,0⟩ : z1),2) else jp2 (fun (z6P : List z1) (z6Q : Int)=>if decide (z6Q ≠ 0) then some ((⟨0,0⟩ : z1),z6Q) else (y14 z6P (fun (y0 : z1) (y1 : z1)=>yM y0 y1)).bind fun zsb=>some (zsb,0)) fun z7V=>y24 z2T z33 z7V yu ([] : List z1) 0 0
set_option maxRecDepth 20000 in
theorem y9J (Z : Zp) (zfj : Option Addr) (zfk : Nat) (z2T : List z2) (z33 : z1) (r : z1 × Int)
  (h : y2L z2T z33 = some r) (w₀ : World) (hz : PZ [] w₀ Z)
  (zsc : ZS Z 4 (fun r x=>r = e54 x) zfj zfk z2T) :
  Calls Tryz.prog 23 #[(.slice zfj z2T.length zfk),(.agg #[(.int .i64 z33.fN),(.int .i64 z33.fD)])] w₀ fun e w'=>e = .returned (.tuple #[(.agg #[(.int .i64 r.1.fN),(.int .i64 r.1.fD)]),(.int .i64 r.2)]) ∧ Hp [] w₀ w' []:=by
 unfold y2L at h
 refine Calls.yg (vs:=[(.slice zfj z2T.length zfk),(.agg #[(.int .i64 z33.fN),(.int .i64 z33.fD)])]) (pre:=[]) (env:=[(0,(.slice zfj z2T.length zfk)),(1,(.agg #[(.int .i64 z33.fN),(.int .i64 z33.fD)]))]) Tryz.func23 rfl Tryz.ntmps23 rfl (Hp.nil w₀ _) rfl ?_
 refine WC.b (WC.a ?_)
 refine WL.new (dd:=3) rfl rfl rfl (yx (cs:=[(.int .i64 z33.fN),(.int .i64 z33.fD)]) rfl rfl) ?_
 intro zsd _
 refine WL.new (dd:=4) rfl rfl rfl (yk (cs:=[(.int .i64 0),(.int .i64 0)]) yo rfl) ?_
 intro zhF _
 refine WL.pu rfl (WL.nil (WX.a (WC.b (WC.b ?_))))
 obtain ⟨zs9,zzS,h⟩:=z8 h
 obtain ⟨zld,zse,h⟩:=z8 h
 refine WC.a (WL.pu rfl ?_)
 refine WL.b (dd:=11) rfl rfl rfl (za (l:=[.tmp 10]) Tryz.call21 (.cons rfl .nil)) .nil (cc hz .nil fun w pz ho=>y4G _ _ _ _ _ zzS w pz zsc) ?_
 refine WL.pu rfl (WL.pu rfl ?_)
 refine WL.seg false 3 13 (B:=zld) rfl rfl rfl rfl rfl rfl (fun h=>(Option.some.inj (yd zse h)).symm) (fun _ zzT=>?_) ?_
 ·skip
  have zfl:=ye zse zzT
  obtain ⟨zsa,zzU,zfl⟩:=z8 zfl
  replace zfl:=Option.some.inj zfl
  refine WL.a (d:=14) rfl rfl rfl (y9 y5 rfl (y7 .h1) rfl) ?_
  refine WL.b (dd:=15) rfl rfl rfl (za (l:=[.tmp 14]) Tryz.call49 (.cons rfl .nil)) .nil (cc hz .nil fun w pz ho=>y7a _ _ _ zzU w pz ) ?_
  refine WL.pu rfl (WL.pu rfl ?_)
  exact WL.yw zfl rfl rfl .all
 refine WL.nil (WX.a ?_)
 refine WC.cond rfl (fun zle=>?_) (fun zle=>?_)
 ·replace h:=yd h zle
  refine WC.b (WC.a ?_)
  refine WL.a (d:=18) rfl rfl rfl (yz (v:=(.agg #[(.int .i64 0),(.int .i64 0)])) (Eos.parts (l:=[]) .nil []) (fun _=>by kernel_rfl)) ?_
  refine WL.yb rfl rfl (ya yh rfl rfl rfl .here rfl rfl rfl) ?_
  refine WL.pu rfl (WL.nil (WX.a (WC.ret (WX.y6 ?_))))
  obtain rfl:=Option.some.inj h
  refine WX.y8 Tryz.results23 (.agg rfl y5 rfl (y7 .here) (.tmp rfl .nil)) (fun w hw=>?_)
  exact ⟨yF rfl rfl,hw.sub .nil⟩
 ·replace h:=ye h zle
  refine WC.skip (WX.a (WC.b (WC.a ?_)))
  refine WL.new (dd:=6) rfl rfl rfl (yk (cs:=[(.int .i64 0)]) yaV rfl) ?_
  intro zfm _
  refine WL.nil (WX.a (WC.b (WC.a (WL.pu rfl (WL.nil (WX.a ?_))))))
  obtain ⟨z7V,zzV,h⟩:=y2b h
  refine WC.y3P (fun (z6P : List z1) (z6Q : Int) (zfn : Option Addr) (zfo : Nat)=>(z7V z6P z6Q = some r)) (fun (z6P : List z1) (z6Q : Int) (zfn : Option Addr) (zfo : Nat)=>[(4,(.pointer (some ⟨zhF,0,none⟩))),(6,(.pointer (some ⟨zfm,0,none⟩))),(7,(.slice zfn z6P.length zfo))]) (fun (z6P : List z1) (z6Q : Int) (zfn : Option Addr) (zfo : Nat)=>[row (.slice zfn z6P.length zfo) 40 2 (z6P.flatMap e40),stb zhF 40 [(.int .i64 0),(.int .i64 0)],stb zfm 83 [(.int .i64 z6Q)]]) ?_ ?_
  ·skip
   refine WC.b (WC.a (WL.pu rfl ?_))
   refine WL.a (d:=20) rfl rfl rfl (yP Tryz.underlying23 rfl) ?_
   refine WL.pu rfl (WL.nil (WX.a (WC.block ?_)))
   refine WC.nilRow 40 2 ?_
   refine WC.y4V (fun (zcS : Nat) (z3x : List z1) (z3y : Int) (z5O : Int) (zb7 : Option Addr) (zb8 : Nat)=>(y24 z2T z33 z7V zcS z3x z3y z5O = some r)) (fun (zcS : Nat) (z3x : List z1) (z3y : Int) (z5O : Int) (zb7 : Option Addr) (zb8 : Nat)=>[(3,(.pointer (some ⟨zsd,0,none⟩))),(4,(.pointer (some ⟨zhF,0,none⟩))),(6,(.pointer (some ⟨zfm,0,none⟩))),(7,(.slice zb7 z3x.length zb8)),(19,(.slice zfj z2T.length zfk)),(20,(.int .i64 ((z2T.length : Nat) : Int))),(21,(.int .i64 z3y))]) (fun (zcS : Nat) (z3x : List z1) (z3y : Int) (z5O : Int) (zb7 : Option Addr) (zb8 : Nat)=>[row (.slice zb7 z3x.length zb8) 40 2 (z3x.flatMap e40),stb zsd 40 [(.int .i64 z33.fN),(.int .i64 z33.fD)],stb zhF 40 [(.int .i64 0),(.int .i64 0)],stb zfm 83 [(.int .i64 z5O)]]) (fun (zcS : Nat) (z3x : List z1) (z3y : Int) (z5O : Int) (zb7 : Option Addr) (zb8 : Nat)=>zcS) ⟨yu,([] : List z1),0,0,none,0⟩ h (.cons rfl (.cons rfl (.cons rfl (.cons rfl (.cons rfl (.cons rfl (.cons rfl .nil))))))) (.cons .here (.cons .h2 (.cons .h1 (.cons .here .nil)))) ?_
   rintro zcS z3x z3y z5O zb7 zb8 h
   obtain ⟨zlc,rfl⟩:=y8E h
   rw [y24] at h
   refine WC.b (WC.a (WL.pu rfl (WL.nil (WX.a (WC.b ?_)))))
   refine WC.cond rfl (fun zlf=>?_) (fun zlf=>?_)
   ·replace h:=yd h zlf
    refine WC.skip (WX.a (WC.b (WC.block (WC.b ?_))))
    obtain ⟨zzW,h⟩:=yj h
    refine WC.a ?_
    refine WL.znth (dd:=23) rfl rfl (Z:=Z) (Pr:=(fun r x=>r = e54 x)) yS rfl rfl zsc zzW ?_
    rintro zIQ zIR zzX zIS rfl
    refine WL.a (d:=24) rfl rfl rfl (y9 y1q rfl (y2k hz.pv zzX) rfl) ?_
    refine WL.new (dd:=9) rfl rfl rfl (yk (cs:=[(.int .i64 0),(.int .i64 0),(.int .i64 0),(.int .i64 0)]) y4A rfl) ?_
    intro zIT _
    refine WL.yb rfl rfl (ya y4K rfl rfl rfl .here rfl rfl rfl) ?_
    refine WL.nil (WX.a ?_)
    obtain ⟨z7W,zzY,h⟩:=z8 h
    obtain ⟨zzZ,h⟩:=yj h
    refine WC.a (WL.pu rfl ?_)
    refine WL.a (d:=26) rfl rfl rfl (y9 y1q rfl (y7 .here) rfl) ?_
    refine WL.a (d:=27) rfl rfl rfl (y9 y5 rfl (y7 .h2) rfl) ?_
    refine WL.b (dd:=28) rfl rfl rfl (za (l:=[.tmp 6,.tmp 26,.tmp 27]) Tryz.call50 (.cons rfl (.cons rfl (.cons rfl .nil)))) (.cons .h4 .nil) (cc hz (.cons .h4 .nil) fun w pz ho=>y8D _ _ _ _ _ _ zzY w pz  ho) ?_
    refine WL.new (dd:=29) rfl rfl rfl (yA (cs:=([z7W.1] : List z1).flatMap e40) yK (Eos.parts (l:=[.tmp 28]) (.cons rfl .nil) [0]) (fun _=>by kernel_rfl) rfl (by unfold maxLen; omega)) ?_
    intro zIU _
    refine WL.eff (d:=30) rfl rfl rfl (y2c (enc:=e40) (l1:=z3x) (l2:=([z7W.1] : List z1)) yK rfl rfl .h3 (fun _=>rfl) rfl rfl (y4z .here) (y3g y50 _) zzZ) ?_
    rintro ⟨zA0,zA1⟩ _
    refine WL.pu rfl (WL.nil (WX.yi (WX.a (WC.a (WL.pu rfl (WL.pu rfl (WL.nil ?_)))))))
    exact WX.round (G:=Nat × List z1 × Int × Int × Option Addr × Nat) ⟨zlc,(z3x ++ ([z7W.1] : List z1)),(i64 (z3y + 1)),z7W.2.fE,zA0,zA1⟩ h (Nat.lt_succ_self _) (.cons rfl (.cons rfl (.cons rfl (.cons rfl (.cons rfl (.cons rfl (.cons rfl .nil))))))) (.cons .here (.cons .h3 (.cons .h3 (.cons .h1 .nil))))
   ·replace h:=ye h zlf
    refine WC.exit (WX.yf (WX.yf (WX.yv ?_)))
    exact WX.mid (G:=List z1 × Int × Option Addr × Nat) ⟨z3x,z5O,zb7,zb8⟩ h (.cons rfl (.cons rfl (.cons rfl .nil))) (.cons .here (.cons .h1 (.cons .h1 .nil)))
  ·rintro z6P z6Q zfn zfo h
   replace h:=(zzV z6P z6Q).symm.trans h
   refine WC.b (WC.b (WC.a ?_))
   refine WL.a (d:=32) rfl rfl rfl (y4 y71 rfl rfl) ?_
   refine WL.a (d:=33) rfl rfl rfl (yc y3s rfl (yp .h2 rfl)) ?_
   refine WL.pu rfl (WL.nil (WX.a ?_))
   refine WC.cond rfl (fun zlg=>?_) (fun zlg=>?_)
   ·replace h:=yd h zlg
    refine WC.b ?_
    refine WC.yH (fun i=>[3].contains i) [stbp zfm 83 [(0,(.int .i64 z6Q))]] rfl ?_
    refine WD.a (i:=0) (d:=35) (by kernel_rfl) rfl z6 z7 rfl rfl rfl (fun _=>yz (v:=(.agg #[(.int .i64 0),(.int .i64 0)])) (Eos.parts (l:=[]) .nil []) (fun _=>by kernel_rfl)) ?_
    refine WD.a (i:=1) (d:=36) (by kernel_rfl) rfl z6 z7 rfl rfl rfl (fun _=>y4 y71 rfl rfl) ?_
    refine WD.y2u (i:=2) (d:=37) (by kernel_rfl) rfl z6 z7 rfl rfl rfl (Sin.wk (.cons .h2 .nil) (.stb (.cons rfl .nil) .nil)) (yc y3s rfl (y8P .here (.head _))) ?_
    refine WD.forced0 (i:=3) rfl (by kernel_rfl) rfl rfl rfl (Sin.wk (.cons .h2 .nil) (.stb (.cons rfl .nil) .nil)) (ya yh rfl rfl rfl .h1 rfl rfl rfl) ?_
    refine WD.a (i:=4) (d:=5) (by kernel_rfl) rfl z6 z7 rfl rfl rfl (fun _=>q_z rfl) ?_
    refine WD.done (by kernel_rfl) ?_
    refine WX.a (WC.ret (WX.y6 ?_))
    obtain rfl:=Option.some.inj h
    refine WX.y8 Tryz.results23 (.agg rfl y5 rfl (y7 .here) (.tmp rfl .nil)) (fun w hw=>?_)
    exact ⟨yF rfl rfl,hw.sub .nil⟩
   ·replace h:=ye h zlg
    refine WC.skip (WX.a (WC.b ?_))
    obtain ⟨zsb,zA2,h⟩:=z8 h
    refine WC.a (WL.pu rfl ?_)
    refine WL.b (dd:=39) rfl rfl rfl (za (l:=[.tmp 38,.func 24]) Tryz.call42 (.cons rfl (.cons rfl .nil))) .nil (ccl hz .nil (.cons .here .nil) fun w pz ho la=>y40 _ _ _ (z6n:=24) (z7U:=[]) _ (z5N:=(fun (y0 : z1) (y1 : z1)=>yM y0 y1)) _ zA2 w pz (ZA.row (la _ (.head _) _) (RR.flat (enc:=e40) (fun _=>rfl) _) ⟨w,pz.1⟩) Tryz.call24 (fun w' hz' y0 y1  r  hr=>y2w _ _ _ _ hr w' hz' )) ?_
    refine WL.yb rfl rfl (ya yh rfl rfl rfl .h1 rfl rfl rfl) ?_
    refine WL.pu rfl (WL.nil (WX.a (WC.ret ?_)))
    obtain rfl:=Option.some.inj h
    refine WX.y8 Tryz.results23 (.agg rfl y5 rfl (y7 .here) (.tmp rfl .nil)) (fun w hw=>?_)
    exact ⟨yF rfl rfl,hw.sub .nil⟩
def y1B (z3k : List (List z2)) (z2U : z1) (z7X : Int → Int → Int → Option (z1 × zV)) : Nat → Int → Int → Int → Int → Option (z1 × zV)
 | 0,_,_,_,_=>none
 | zlh + 1,z41,z4H,z5e,z5f=>if decide (z41 < ((z3k.length : Nat) : Int)) then chk ((0 : Int) ≤ z41 ∧ z41 < ((z3k.length : Nat) : Int)) ((y2L (nth z3k z41) z2U).bind fun zcT=>jp1 (fun (z9w : Int)=>(yO (⟨z9w⟩ : zV) (fun (y0 : z1) (y1 : z1)=>y1o y0 y1) (⟨z5e,z5f⟩ : z1) zcT.1).bind fun zb9=>y1B z3k z2U z7X zlh (i64 (z41 + 1)) zb9.2.fE zb9.1.fN zb9.1.fD) fun zhG=>if decide (z4H = 0) then zhG zcT.2 else zhG z4H) else z7X z5e z5f z4H
theorem y6a {n : Nat} {z3k : List (List z2)} {z2U : z1} {z7X : Int → Int → Int → Option (z1 × zV)} {z41 : Int} {z4H : Int} {z5e : Int} {z5f : Int} {r : z1 × zV} (h : y1B z3k z2U z7X n z41 z4H z5e z5f = some r) : ∃ m,n = m + 1:=by
 cases n with
 | zero=>cases h
 | succ m=>exact ⟨m,rfl⟩
def y2a (z7Y : zV) (z3k : List (List z2)) (z2U : z1) : Option (z1 × zV) :=
 (y1U).bind fun zfp=>jp3 (fun (z9x : Int) (z9y : Int) (z9z : Int)=>some ((⟨z9x,z9y⟩ : z1),(⟨z9z⟩ : zV))) fun z7X=>y1B z3k z2U z7X yu 0 z7Y.fE zfp.fN zfp.fD
set_option maxRecDepth 20000 in
theorem y5P (Z : Zp) (z4I : Nat) (zcU : Option Addr) (zcV : Nat) (z7Y : zV) (z3k : List (List z2)) (z2U : z1) (r : z1 × zV)
  (h : y2a z7Y z3k z2U = some r) (w₀ : World) (hz : PZ (fps [stb z4I 87 [(.int .i64 z7Y.fE)]]) w₀ Z)
  (zA3 : ZS Z 1 (p23 Z) zcU zcV z3k)
  (hown : Hp (fps [stb z4I 87 [(.int .i64 z7Y.fE)]]) w₀ w₀ [stb z4I 87 [(.int .i64 z7Y.fE)]]) :
  Calls Tryz.prog 34 #[(.pointer (some ⟨z4I,0,none⟩)),(.slice zcU z3k.length zcV),(.agg #[(.int .i64 z2U.fN),(.int .i64 z2U.fD)])] w₀ fun e w'=>e = .returned (.agg #[(.int .i64 r.1.fN),(.int .i64 r.1.fD)]) ∧ Hp (fps [stb z4I 87 [(.int .i64 z7Y.fE)]]) w₀ w' [stb z4I 87 [(.int .i64 r.2.fE)]]:=by
 unfold y2a at h
 refine Calls.yg (vs:=[(.pointer (some ⟨z4I,0,none⟩)),(.slice zcU z3k.length zcV),(.agg #[(.int .i64 z2U.fN),(.int .i64 z2U.fD)])]) (pre:=[stb z4I 87 [(.int .i64 z7Y.fE)]]) (env:=[(0,(.pointer (some ⟨z4I,0,none⟩))),(1,(.slice zcU z3k.length zcV)),(2,(.agg #[(.int .i64 z2U.fN),(.int .i64 z2U.fD)]))]) Tryz.func34 rfl Tryz.ntmps34 rfl (hown) rfl ?_
 refine WC.b (WC.a ?_)
 refine WL.new (dd:=5) rfl rfl rfl (yx (cs:=[(.int .i64 z2U.fN),(.int .i64 z2U.fD)]) rfl rfl) ?_
 intro zhH _
 refine WL.new (dd:=6) rfl rfl rfl (yk (cs:=[(.int .i64 0),(.int .i64 0)]) yo rfl) ?_
 intro zcW _
 refine WL.nil (WX.a (WC.b ?_))
 obtain ⟨zfp,zA4,h⟩:=z8 h
 refine WC.a ?_
 refine WL.b (dd:=12) rfl rfl rfl (za (l:=[]) Tryz.call52 .nil) .nil (cc hz .nil fun w pz ho=>y37 _ _ zA4 w pz ) ?_
 refine WL.new (dd:=7) rfl rfl rfl (yk (cs:=[(.int .i64 0),(.int .i64 0)]) yo rfl) ?_
 intro zcX _
 refine WL.yb rfl rfl (ya yh rfl rfl rfl .here rfl rfl rfl) ?_
 refine WL.nil (WX.a ?_)
 obtain ⟨z7X,zA5,h⟩:=y9h h
 refine WC.y3O (fun (z9x : Int) (z9y : Int) (z9z : Int)=>(z7X z9x z9y z9z = some r)) (fun (z9x : Int) (z9y : Int) (z9z : Int)=>[(6,(.pointer (some ⟨zcW,0,none⟩))),(7,(.pointer (some ⟨zcX,0,none⟩)))]) (fun (z9x : Int) (z9y : Int) (z9z : Int)=>[stb zcW 40 [(.int .i64 0),(.int .i64 0)],stb zcX 40 [(.int .i64 z9x),(.int .i64 z9y)],stb z4I 87 [(.int .i64 z9z)]]) ?_ ?_
 ·skip
  refine WC.b (WC.a (WL.pu rfl ?_))
  refine WL.a (d:=14) rfl rfl rfl (yP Tryz.underlying38 rfl) ?_
  refine WL.pu rfl (WL.nil (WX.a (WC.block ?_)))
  refine WC.y75 (fun (zcY : Nat) (z41 : Int) (z4H : Int) (z5e : Int) (z5f : Int)=>(y1B z3k z2U z7X zcY z41 z4H z5e z5f = some r)) (fun (zcY : Nat) (z41 : Int) (z4H : Int) (z5e : Int) (z5f : Int)=>[(0,(.pointer (some ⟨z4I,0,none⟩))),(5,(.pointer (some ⟨zhH,0,none⟩))),(6,(.pointer (some ⟨zcW,0,none⟩))),(7,(.pointer (some ⟨zcX,0,none⟩))),(13,(.slice zcU z3k.length zcV)),(14,(.int .i64 ((z3k.length : Nat) : Int))),(15,(.int .i64 z41))]) (fun (zcY : Nat) (z41 : Int) (z4H : Int) (z5e : Int) (z5f : Int)=>[stb z4I 87 [(.int .i64 z4H)],stb zhH 40 [(.int .i64 z2U.fN),(.int .i64 z2U.fD)],stb zcW 40 [(.int .i64 0),(.int .i64 0)],stb zcX 40 [(.int .i64 z5e),(.int .i64 z5f)]]) (fun (zcY : Nat) (z41 : Int) (z4H : Int) (z5e : Int) (z5f : Int)=>zcY) ⟨yu,0,z7Y.fE,zfp.fN,zfp.fD⟩ h (.cons rfl (.cons rfl (.cons rfl (.cons rfl (.cons rfl (.cons rfl (.cons rfl .nil))))))) (.cons .h3 (.cons .h2 (.cons .h1 (.cons .here .nil)))) ?_
  rintro zcY z41 z4H z5e z5f h
  obtain ⟨zlh,rfl⟩:=y6a h
  rw [y1B] at h
  refine WC.b (WC.a (WL.pu rfl (WL.nil (WX.a (WC.b ?_)))))
  refine WC.cond rfl (fun zli=>?_) (fun zli=>?_)
  ·replace h:=yd h zli
   refine WC.skip (WX.a (WC.b (WC.block (WC.b ?_))))
   obtain ⟨zA6,h⟩:=yj h
   refine WC.a ?_
   refine WL.znth (dd:=17) rfl rfl (Z:=Z) (Pr:=(p23 Z)) y3X rfl rfl zA3 zA6 ?_
   rintro zIV zIW zA7 zIX ⟨zIY,zIZ,rfl,zA8⟩
   refine WL.a (d:=18) rfl rfl rfl (yc y3S rfl (y4X hz.pv zA7 rfl)) ?_
   refine WL.pu rfl (WL.nil (WX.a (WC.b ?_)))
   obtain ⟨zcT,zA9,h⟩:=z8 h
   refine WC.a (WL.pu rfl ?_)
   refine WL.a (d:=21) rfl rfl rfl (y9 y5 rfl (y7 .h1) rfl) ?_
   refine WL.b (dd:=22) rfl rfl rfl (za (l:=[.tmp 20,.tmp 21]) Tryz.call23 (.cons rfl (.cons rfl .nil))) .nil (cc hz .nil fun w pz ho=>y9J _ _ _ _ _ _ zA9 w pz zA8) ?_
   refine WL.pu rfl (WL.pu rfl (WL.pu rfl ?_))
   refine WL.new (dd:=10) rfl rfl rfl (yk (cs:=[(.int .i64 0),(.int .i64 0)]) yo rfl) ?_
   intro zsf _
   refine WL.yb rfl rfl (ya yh rfl rfl rfl .here rfl rfl rfl) ?_
   refine WL.pu rfl (WL.nil (WX.a ?_))
   obtain ⟨zhG,zAa,h⟩:=y12 h
   refine WC.y3w (fun (z9w : Int)=>(zhG z9w = some r)) (fun (z9w : Int)=>[(0,(.pointer (some ⟨z4I,0,none⟩))),(5,(.pointer (some ⟨zhH,0,none⟩))),(6,(.pointer (some ⟨zcW,0,none⟩))),(7,(.pointer (some ⟨zcX,0,none⟩))),(10,(.pointer (some ⟨zsf,0,none⟩))),(13,(.slice zcU z3k.length zcV)),(14,(.int .i64 ((z3k.length : Nat) : Int))),(15,(.int .i64 z41))]) (fun (z9w : Int)=>[stb z4I 87 [(.int .i64 z9w)],stb zhH 40 [(.int .i64 z2U.fN),(.int .i64 z2U.fD)],stb zcW 40 [(.int .i64 0),(.int .i64 0)],stb zcX 40 [(.int .i64 z5e),(.int .i64 z5f)],stb zsf 40 [(.int .i64 zcT.1.fN),(.int .i64 zcT.1.fD)]]) ?_ ?_
   ·skip
    refine WC.b (WC.a (WL.pu rfl ?_))
    refine WL.a (d:=26) rfl rfl rfl (y57 rfl) ?_
    refine WL.a (d:=27) rfl rfl rfl (y4 y48 rfl rfl) ?_
    refine WL.a (d:=28) rfl rfl rfl (yc y3s rfl (yp .h1 rfl)) ?_
    refine WL.pu rfl (WL.nil (WX.a ?_))
    refine WC.cond rfl (fun zlj=>?_) (fun zlj=>?_)
    ·replace h:=yd h zlj
     refine WC.a (WL.pu rfl (WL.pu rfl ?_))
     refine WL.a (d:=32) rfl rfl rfl (y57 rfl) ?_
     refine WL.a (d:=33) rfl rfl rfl (y4 y48 rfl rfl) ?_
     refine WL.yb rfl rfl (ya ya1 rfl rfl rfl .h1 rfl rfl rfl) ?_
     refine WL.nil ?_
     exact WX.mid (G:=Int) zcT.2 h (.cons rfl (.cons rfl (.cons rfl (.cons rfl (.cons rfl (.cons rfl (.cons rfl (.cons rfl .nil)))))))) (.cons .here (.cons .h1 (.cons .h1 (.cons .h1 (.cons .here .nil)))))
    ·replace h:=ye h zlj
     refine WC.skip ?_
     exact WX.mid (G:=Int) z4H h (.cons rfl (.cons rfl (.cons rfl (.cons rfl (.cons rfl (.cons rfl (.cons rfl (.cons rfl .nil)))))))) (.cons .h1 (.cons .h1 (.cons .h1 (.cons .h1 (.cons .here .nil)))))
   ·rintro z9w h
    replace h:=(zAa z9w).symm.trans h
    obtain ⟨zb9,zAb,h⟩:=z8 h
    refine WC.a (WL.pu rfl ?_)
    refine WL.a (d:=35) rfl rfl rfl (y9 y5 rfl (y7 .h3) rfl) ?_
    refine WL.a (d:=36) rfl rfl rfl (y9 y5 rfl (y7 .h4) rfl) ?_
    refine WL.b (dd:=37) rfl rfl rfl (za (l:=[.tmp 34,.func 31,.tmp 35,.tmp 36]) Tryz.call30 (.cons rfl (.cons rfl (.cons rfl (.cons rfl .nil))))) (.cons .here .nil) (cc hz (.cons .here .nil) fun w pz ho=>y1M _ _ (z3X:=31) (z4F:=[]) _ (z5b:=(fun (y0 : z1) (y1 : z1)=>y1o y0 y1)) _ _ _ zAb w pz Tryz.call31 (fun w' hz' y0 y1  r  hr=>y5N _ _ _ _ hr w' hz' ) ho) ?_
    refine WL.yb rfl rfl (ya yh rfl rfl rfl .h3 rfl rfl rfl) ?_
    refine WL.nil (WX.yi (WX.a (WC.a (WL.pu rfl (WL.pu rfl (WL.nil ?_))))))
    exact WX.round (G:=Nat × Int × Int × Int × Int) ⟨zlh,(i64 (z41 + 1)),zb9.2.fE,zb9.1.fN,zb9.1.fD⟩ h (Nat.lt_succ_self _) (.cons rfl (.cons rfl (.cons rfl (.cons rfl (.cons rfl (.cons rfl (.cons rfl .nil))))))) (.cons .h1 (.cons .h1 (.cons .h1 (.cons .here .nil))))
  ·replace h:=ye h zli
   refine WC.exit (WX.yf (WX.yf (WX.yv ?_)))
   exact WX.mid (G:=Int × Int × Int) ⟨z5e,z5f,z4H⟩ h (.cons rfl (.cons rfl .nil)) (.cons .h2 (.cons .h2 (.cons .here .nil)))
 ·rintro z9x z9y z9z h
  replace h:=(zA5 z9x z9y z9z).symm.trans h
  refine WC.b (WC.a ?_)
  refine WL.a (d:=39) rfl rfl rfl (y9 y5 rfl (y7 .h1) rfl) ?_
  refine WL.yb rfl rfl (ya yh rfl rfl rfl .here rfl rfl rfl) ?_
  refine WL.nil (WX.a (WC.ret ?_))
  obtain rfl:=Option.some.inj h
  refine WX.y8 Tryz.results34 (.agg rfl y5 rfl (y7 .here) .nil) (fun w hw=>?_)
  exact ⟨yD rfl,hw.sub (.cons .h2 .nil)⟩
def y3z (z9A : zV) (z4J : z1) (zfq : List (List z2)) (z5P : S41) : Option (z1 × zV) :=
 (y2a z9A zfq z4J).bind fun zlk=>(yO zlk.2 (fun (y0 : z1) (y1 : z1)=>y2g y0 y1) zlk.1 z5P.fR).bind fun zll=>(yO zll.2 (fun (y0 : z1) (y1 : z1)=>y1v y0 y1) zll.1 z4J).bind fun zlm=>(yO zlm.2 (fun (y0 : z1) (y1 : z1)=>y1o y0 y1) zlm.1 z5P.fL).bind fun zln=>some (zln.1,zln.2)
set_option maxRecDepth 20000 in
theorem y8F (Z : Zp) (z7Z : Nat) (zhI : Addr) (zsg : Option Addr) (zsh : Nat) (zhJ : Addr) (z9A : zV) (z4J : z1) (zfq : List (List z2)) (z5P : S41) (r : z1 × zV)
  (h : y3z z9A z4J zfq z5P = some r) (w₀ : World) (hz : PZ (fps [stb z7Z 87 [(.int .i64 z9A.fE)]]) w₀ Z)
  (zAc : ZS Z 1 (p23 Z) zsg zsh zfq)
  (zAd : ZC Z zhI [(.slice zsg zfq.length zsh)])
  (zsi : ZC Z zhJ [(.int .i64 z5P.fR.fN),(.int .i64 z5P.fR.fD),(.int .i64 z5P.fL.fN),(.int .i64 z5P.fL.fD)])
  (hown : Hp (fps [stb z7Z 87 [(.int .i64 z9A.fE)]]) w₀ w₀ [stb z7Z 87 [(.int .i64 z9A.fE)]]) :
  Calls Tryz.prog 29 #[(.pointer (some ⟨z7Z,0,none⟩)),(.agg #[(.int .i64 z4J.fN),(.int .i64 z4J.fD)]),(.pointer (some zhI)),(.pointer (some zhJ))] w₀ fun e w'=>e = .returned (.agg #[(.int .i64 r.1.fN),(.int .i64 r.1.fD)]) ∧ Hp (fps [stb z7Z 87 [(.int .i64 z9A.fE)]]) w₀ w' [stb z7Z 87 [(.int .i64 r.2.fE)]]:=by
 unfold y3z at h
 refine Calls.yg (vs:=[(.pointer (some ⟨z7Z,0,none⟩)),(.agg #[(.int .i64 z4J.fN),(.int .i64 z4J.fD)]),(.pointer (some zhI)),(.pointer (some zhJ))]) (pre:=[stb z7Z 87 [(.int .i64 z9A.fE)]]) (env:=[(0,(.pointer (some ⟨z7Z,0,none⟩))),(1,(.agg #[(.int .i64 z4J.fN),(.int .i64 z4J.fD)])),(2,(.pointer (some zhI))),(3,(.pointer (some zhJ)))]) Tryz.func29 rfl Tryz.ntmps29 rfl (hown) rfl ?_
 refine WC.b (WC.a ?_)
 refine WL.new (dd:=5) rfl rfl rfl (yx (cs:=[(.int .i64 z4J.fN),(.int .i64 z4J.fD)]) rfl rfl) ?_
 intro zAe _
 refine WL.new (dd:=6) rfl rfl rfl (yk (cs:=[(.int .i64 0),(.int .i64 0)]) yo rfl) ?_
 intro zJ0 _
 refine WL.nil (WX.a (WC.b ?_))
 obtain ⟨zlk,zAf,h⟩:=z8 h
 obtain ⟨zll,zAg,h⟩:=z8 h
 obtain ⟨zlm,zAh,h⟩:=z8 h
 obtain ⟨zln,zAi,h⟩:=z8 h
 refine WC.yH (fun i=>[6,9,11,14,15].contains i) [stb zAe 40 [(.int .i64 z4J.fN),(.int .i64 z4J.fD)]] rfl ?_
 refine WD.a (i:=0) (d:=7) (by kernel_rfl) rfl z6 z7 rfl rfl rfl (fun _=>q_m rfl) ?_
 refine WD.a (i:=1) (d:=8) (by kernel_rfl) rfl z6 z7 rfl rfl rfl (fun _=>q_m rfl) ?_
 refine WD.a (i:=2) (d:=9) (by kernel_rfl) rfl z6 z7 rfl rfl rfl (fun _=>q_m rfl) ?_
 refine WD.a (i:=3) (d:=10) (by kernel_rfl) rfl z6 z7 rfl rfl rfl (fun _=>q_m rfl) ?_
 refine WD.e (i:=4) (d:=11) (by kernel_rfl) rfl z6 z7 rfl rfl rfl (yc y47 rfl (y4X hz.pv zAd rfl)) ?_
 refine WD.e (i:=5) (d:=12) (by kernel_rfl) rfl z6 z7 rfl rfl rfl (y9 y5 rfl (y7 .h1) rfl) ?_
 refine WD.a (i:=7) (d:=14) (by kernel_rfl) rfl z6 z7 rfl rfl rfl (fun _=>y4 y2U rfl rfl) ?_
 refine WD.y2u (i:=8) (d:=15) (by kernel_rfl) rfl z6 z7 rfl rfl rfl (Sin.of (.cons .h1 .nil)) (ys (cs:=[(.int .i64 z5P.fR.fN),(.int .i64 z5P.fR.fD)]) y5 rfl rfl (y3q (off:=0) (s:=2) hz.pv zsi rfl)) ?_
 refine WD.y2u (i:=10) (d:=17) (by kernel_rfl) rfl z6 z7 rfl rfl rfl (Sin.of (.cons .h1 .nil)) (y9 y5 rfl (y7 .here) rfl) ?_
 refine WD.a (i:=12) (d:=19) (by kernel_rfl) rfl z6 z7 rfl rfl rfl (fun _=>y4 y3r rfl rfl) ?_
 refine WD.y2u (i:=13) (d:=20) (by kernel_rfl) rfl z6 z7 rfl rfl rfl (Sin.of (.cons .h1 .nil)) (ys (cs:=[(.int .i64 z5P.fL.fN),(.int .i64 z5P.fL.fD)]) y5 rfl rfl (y3q (off:=2) (s:=2) hz.pv zsi rfl)) ?_
 refine WD.call0 (i:=6) (dd:=13) rfl (by kernel_rfl) rfl rfl rfl (.inl ⟨rfl,(Sin.of (.cons .h2 .nil))⟩) (za (l:=[.tmp 10,.tmp 11,.tmp 12]) Tryz.call34 (.cons rfl (.cons rfl (.cons rfl .nil)))) (.cons .h2 .nil) (cc hz (.cons .h2 .nil) fun w pz ho=>Calls.mono (y5P _ _ _ _ _ _ _ _ zAf w pz zAc ho) (fun _ _ h'=>⟨h'.1,trivial,h'.2⟩)) ?_
 intro _
 refine WD.call0 (i:=9) (dd:=16) rfl (by kernel_rfl) rfl rfl rfl (.inl ⟨rfl,(Sin.of (.cons .h2 .nil))⟩) (za (l:=[.tmp 9,.func 33,.tmp 13,.tmp 15]) Tryz.call30 (.cons rfl (.cons rfl (.cons rfl (.cons rfl .nil))))) (.cons .here .nil) (cc hz (.cons .here .nil) fun w pz ho=>Calls.mono (y1M _ _ (z3X:=33) (z4F:=[]) _ (z5b:=(fun (y0 : z1) (y1 : z1)=>y2g y0 y1)) _ _ _ zAg w pz Tryz.call33 (fun w' hz' y0 y1  r  hr=>yal _ _ _ _ hr w' hz' ) ho) (fun _ _ h'=>⟨h'.1,trivial,h'.2⟩)) ?_
 intro _
 refine WD.call0 (i:=11) (dd:=18) rfl (by kernel_rfl) rfl rfl rfl (.inl ⟨rfl,(Sin.of (.cons .h2 .nil))⟩) (za (l:=[.tmp 8,.func 32,.tmp 16,.tmp 17]) Tryz.call30 (.cons rfl (.cons rfl (.cons rfl (.cons rfl .nil))))) (.cons .here .nil) (cc hz (.cons .here .nil) fun w pz ho=>Calls.mono (y1M _ _ (z3X:=32) (z4F:=[]) _ (z5b:=(fun (y0 : z1) (y1 : z1)=>y1v y0 y1)) _ _ _ zAh w pz Tryz.call32 (fun w' hz' y0 y1  r  hr=>y6w _ _ _ _ hr w' hz' ) ho) (fun _ _ h'=>⟨h'.1,trivial,h'.2⟩)) ?_
 intro _
 refine WD.call0 (i:=14) (dd:=21) rfl (by kernel_rfl) rfl rfl rfl (.inl ⟨rfl,(Sin.of (.cons .h2 .nil))⟩) (za (l:=[.tmp 7,.func 31,.tmp 18,.tmp 20]) Tryz.call30 (.cons rfl (.cons rfl (.cons rfl (.cons rfl .nil))))) (.cons .here .nil) (cc hz (.cons .here .nil) fun w pz ho=>Calls.mono (y1M _ _ (z3X:=31) (z4F:=[]) _ (z5b:=(fun (y0 : z1) (y1 : z1)=>y1o y0 y1)) _ _ _ zAi w pz Tryz.call31 (fun w' hz' y0 y1  r  hr=>y5N _ _ _ _ hr w' hz' ) ho) (fun _ _ h'=>⟨h'.1,trivial,h'.2⟩)) ?_
 intro _
 refine WD.y7Z (i:=15) rfl (by kernel_rfl) rfl rfl rfl (by kernel_rfl) (ya yh rfl rfl rfl .h1 rfl rfl rfl) ?_
 refine WD.done (by kernel_rfl) ?_
 refine WX.a (WC.ret ?_)
 obtain rfl:=Option.some.inj h
 refine WX.y8 Tryz.results29 (.agg rfl y5 rfl (y7 .here) .nil) (fun w hw=>?_)
 exact ⟨yD rfl,hw.sub (.cons .h1 .nil)⟩
end Go.Proofs.YtakfmdiiehcbdaaGreat

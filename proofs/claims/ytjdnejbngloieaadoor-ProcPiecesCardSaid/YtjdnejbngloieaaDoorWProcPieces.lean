/- A part of this claim's proof: models of functions, walks, plain laws. No conditions. -/
import Derived.Test.YtjdnejbngloieaaDoorW26e
namespace Go.Proofs.YtjdnejbngloieaaDoor
open Go Go.RowKit Sep
set_option linter.all false
set_option maxRecDepth 30000
set_option maxHeartbeats 4000000
def y2p (z6x : List Sapi_Ins) (z2c : Sproc_State) (z4O : List Int) (z4e : Int) (z81 : Int) : Option Bool :=
 (y3q).bind fun zkT=>if !zkT then some false else if (decide (((z6x.length : Nat) : Int) > 200)) || (decide (((z4O.length : Nat) : Int) > 2000)) then some true else (y2Y z6x z2c z4O (i64 (Int.tmod z4e 101))).bind fun z41=>(y2Y z6x z2c z4O (i64 ((i64 (Int.tmod z4e 101)) + (i64 (Int.tmod z81 101))))).bind fun z4k=>if ((decide (((z41.2.2.1.length : Nat) : Int) ≠ ((z4O.length : Nat) : Int))) || (decide (z41.2.2.2 > (i64 (Int.tmod z4e 101))))) || (decide (z4k.2.2.2 > (i64 ((i64 (Int.tmod z4e 101)) + (i64 (Int.tmod z81 101)))))) then some false else if decide (z41.2.1.fKind ≠ 0) then (if decide (z41.1 = z4k.1) then (y13 z41.2.1 z4k.2.1).bind fun zkU=>some zkU else some false).bind fun zhb=>(if zhb then (y1w z41.2.2.1 z4k.2.2.1).bind fun zkV=>some zkV else some false).bind fun zf1=>some (zf1 && (decide (z41.2.2.2 = z4k.2.2.2))) else (y2Y z6x z41.1 z41.2.2.1 (i64 (Int.tmod z81 101))).bind fun zbl=>(if (decide (z41.2.2.2 = (i64 (Int.tmod z4e 101)))) && (decide (zbl.1 = z4k.1)) then (y13 z4k.2.1 zbl.2.1).bind fun zkW=>some zkW else some false).bind fun zhc=>(if zhc then (y1w zbl.2.2.1 z4k.2.2.1).bind fun zkX=>some zkX else some false).bind fun zf2=>some (zf2 && (decide (zbl.2.2.2 = (i64 (z4k.2.2.2 - (i64 (Int.tmod z4e 101)))))))
set_option maxRecDepth 20000 in
theorem y5V (Z : Zp) (zei : Option Addr) (zej : Nat) (zek : Option Addr) (zel : Nat) (z6x : List Sapi_Ins) (z2c : Sproc_State) (z4O : List Int) (z4e : Int) (z81 : Int) (r : Bool)
  (h : y2p z6x z2c z4O z4e z81 = some r) (w₀ : World) (hz : PZ [] w₀ Z)
  (hG0 : ZC Z ⟨0,0,none⟩ y60)
  (hG1 : ZS Z 1 (p74 Z) (some ⟨1,0,none⟩) 26 y19)
  (zhd : ZS Z 4 (fun r x=>r = e33 x) zei zej z6x)
  (zkY : ZS Z 1 (fun r x=>r = e5 x) zek zel z4O) :
  Calls Tryd.prog 8 #[(.slice zei z6x.length zej),(.agg #[(.int .i64 z2c.fPc),(.int .i64 z2c.fLeft),(.int .u8 z2c.fRegs.a0),(.int .u8 z2c.fRegs.a1),(.int .u8 z2c.fRegs.a2),(.int .u8 z2c.fRegs.a3)]),(.slice zek z4O.length zel),(.int .u8 z4e),(.int .u8 z81)] w₀ fun e w'=>∃ Zn : Zp,e = .returned (.bool r) ∧ True ∧ Hp [] w₀ w' [fz Zn]:=by
 unfold y2p at h
 refine Calls.y8 (vs:=[(.slice zei z6x.length zej),(.agg #[(.int .i64 z2c.fPc),(.int .i64 z2c.fLeft),(.int .u8 z2c.fRegs.a0),(.int .u8 z2c.fRegs.a1),(.int .u8 z2c.fRegs.a2),(.int .u8 z2c.fRegs.a3)]),(.slice zek z4O.length zel),(.int .u8 z4e),(.int .u8 z81)]) (pre:=[]) (env:=[(0,(.slice zei z6x.length zej)),(1,(.agg #[(.int .i64 z2c.fPc),(.int .i64 z2c.fLeft),(.int .u8 z2c.fRegs.a0),(.int .u8 z2c.fRegs.a1),(.int .u8 z2c.fRegs.a2),(.int .u8 z2c.fRegs.a3)])),(2,(.slice zek z4O.length zel)),(3,(.int .u8 z4e)),(4,(.int .u8 z81))]) Tryd.func8 rfl Tryd.ntmps8 rfl (Hp.nil w₀ _) rfl ?_
 refine WC.pool (WC.b (WC.a ?_))
 refine WL.new (dd:=6) rfl rfl rfl (y3p (cs:=[(.int .i64 z2c.fPc),(.int .i64 z2c.fLeft),(.int .u8 z2c.fRegs.a0),(.int .u8 z2c.fRegs.a1),(.int .u8 z2c.fRegs.a2),(.int .u8 z2c.fRegs.a3)]) rfl rfl) ?_
 intro zxS _
 refine WL.pu rfl (WL.nil (WX.a (WC.b (WC.b ?_))))
 obtain ⟨zkT,zwj,h⟩:=zb h
 refine WC.a ?_
 refine WL.y7M (dd:=25) rfl rfl rfl (zk (l:=[]) Tryd.call9 .nil) .nil (ccz hz .nil .h1 fun w pz ho=>y6R _ _ zwj w pz (hG0.mono (Zle.left _ _)) ((hG1.mono (Zle.left _ _)).weak (fun _ _ h=>y10 (Zle.left _ _) h))) ?_
 rintro zem _
 refine WL.merge .here .h1 ?_
 refine WL.pu rfl (WL.nil (WX.a ?_))
 refine WC.cond rfl (fun zhe=>?_) (fun zhe=>?_)
 ·replace h:=ym h zhe
  refine WC.b (WC.a (WL.pu rfl (WL.nil (WX.a (WC.ret (WX.yh ?_))))))
  obtain rfl:=Option.some.inj h
  refine WX.yi Tryd.results8 (.tmp rfl .nil) (fun w hw=>?_)
  exact ⟨([] ++ zem),y1a rfl,trivial,hw.sub (.cons .here .nil)⟩
 ·replace h:=yn h zhe
  refine WC.skip (WX.a (WC.b (WC.b (WC.a (WL.pu rfl ?_)))))
  refine WL.a (d:=28) rfl rfl rfl (y1L Tryd.underlying22 rfl) ?_
  refine WL.pu rfl (WL.pu rfl ?_)
  refine WL.seg false 3 30 (B:=(decide (((z6x.length : Nat) : Int) > 200)) || (decide (((z4O.length : Nat) : Int) > 2000))) rfl rfl rfl rfl rfl rfl (fun h=>(or_l h).symm) (fun _ zwk=>?_) ?_
  ·skip
   refine WL.pu rfl ?_
   refine WL.a (d:=32) rfl rfl rfl (y1L Tryd.underlying35 rfl) ?_
   refine WL.pu rfl (WL.pu rfl ?_)
   exact WL.yD (or_r zwk) rfl rfl .all
  refine WL.nil (WX.a ?_)
  refine WC.cond rfl (fun zhf=>?_) (fun zhf=>?_)
  ·replace h:=ym h zhf
   refine WC.b (WC.a (WL.pu rfl (WL.nil (WX.a (WC.ret (WX.yh ?_))))))
   obtain rfl:=Option.some.inj h
   refine WX.yi Tryd.results8 (.tmp rfl .nil) (fun w hw=>?_)
   exact ⟨([] ++ zem),y1a rfl,trivial,hw.sub (.cons .here .nil)⟩
  ·replace h:=yn h zhf
   refine WC.skip (WX.a (WC.b (WC.a (WL.pu rfl ?_))))
   refine WL.a (d:=36) rfl rfl rfl (q_rem rfl rfl (by decide) rfl) ?_
   refine WL.a (d:=37) rfl rfl rfl (y2Z Tryd.underlying5 Tryd.underlying3 rfl rfl) ?_
   refine WL.pu rfl ?_
   refine WL.a (d:=39) rfl rfl rfl (q_rem rfl rfl (by decide) rfl) ?_
   refine WL.a (d:=40) rfl rfl rfl (y2Z Tryd.underlying5 Tryd.underlying3 rfl rfl) ?_
   refine WL.pu rfl (WL.pu rfl (WL.nil (WX.a (WC.b ?_))))
   obtain ⟨z41,zwl,h⟩:=zb h
   refine WC.a (WL.pu rfl ?_)
   refine WL.a (d:=43) rfl rfl rfl (yE yQ rfl (yz .h1) rfl) ?_
   refine WL.pu rfl (WL.pu rfl ?_)
   refine WL.yv (dd:=46) rfl rfl rfl (zk (l:=[.tmp 42,.tmp 43,.tmp 44,.tmp 45]) Tryd.call21 (.cons rfl (.cons rfl (.cons rfl (.cons rfl .nil))))) .nil (ccz hz .nil .here fun w pz ho=>y5y _ _ _ _ _ _ _ _ _ _ zwl w pz (hG0.mono ((Zle.left _ _).trans ((Zle.left _ _).trans (Zle.y7 _ _ _)))) ((hG1.mono ((Zle.left _ _).trans ((Zle.left _ _).trans (Zle.y7 _ _ _)))).weak (fun _ _ h=>y10 ((Zle.left _ _).trans ((Zle.left _ _).trans (Zle.y7 _ _ _))) h)) (zhd.mono ((Zle.left _ _).trans ((Zle.left _ _).trans (Zle.y7 _ _ _)))) (zkY.mono ((Zle.left _ _).trans ((Zle.left _ _).trans (Zle.y7 _ _ _))))) ?_
   rintro zxT zxU zxV zxW _
   refine WL.pu rfl (WL.pu rfl (WL.pu rfl (WL.pu rfl (WL.pu rfl ?_))))
   refine WL.new (dd:=13) rfl rfl rfl (yA (cs:=[(.int .i64 0),(.int .i64 0),(.int .u8 0),(.int .u8 0),(.int .u8 0),(.int .u8 0)]) y1i rfl) ?_
   intro zxX _
   refine WL.new (dd:=14) rfl rfl rfl (yA (cs:=[(.int .u8 0),(.int .i64 0),(.int .i64 0),(.slice none 0 0)]) y1o rfl) ?_
   intro zxY _
   refine WL.yf rfl rfl (yt y1l rfl rfl rfl .h1 rfl rfl rfl) ?_
   refine WL.yf rfl rfl (yt yV rfl rfl rfl .h1 rfl rfl rfl) ?_
   refine WL.pu rfl (WL.pu rfl (WL.nil (WX.a (WC.b ?_))))
   obtain ⟨z4k,zwm,h⟩:=zb h
   refine WC.a (WL.pu rfl ?_)
   refine WL.a (d:=53) rfl rfl rfl (yE yQ rfl (yz .h5) rfl) ?_
   refine WL.pu rfl (WL.pu rfl (WL.pu rfl (WL.pu rfl ?_)))
   refine WL.yv (dd:=58) rfl rfl rfl (zk (l:=[.tmp 52,.tmp 53,.tmp 54,.tmp 57]) Tryd.call21 (.cons rfl (.cons rfl (.cons rfl (.cons rfl .nil))))) .nil (ccz hz .nil .h4 fun w pz ho=>y5y _ _ _ _ _ _ _ _ _ _ zwm w pz (hG0.mono ((Zle.left _ _).trans ((Zle.left _ _).trans (Zle.y7 _ _ _)))) ((hG1.mono ((Zle.left _ _).trans ((Zle.left _ _).trans (Zle.y7 _ _ _)))).weak (fun _ _ h=>y10 ((Zle.left _ _).trans ((Zle.left _ _).trans (Zle.y7 _ _ _))) h)) (zhd.mono ((Zle.left _ _).trans ((Zle.left _ _).trans (Zle.y7 _ _ _)))) (zkY.mono ((Zle.left _ _).trans ((Zle.left _ _).trans (Zle.y7 _ _ _))))) ?_
   rintro zxZ zy0 zy1 zy2 _
   refine WL.pu rfl (WL.pu rfl (WL.pu rfl (WL.pu rfl (WL.pu rfl ?_))))
   refine WL.new (dd:=17) rfl rfl rfl (yA (cs:=[(.int .i64 0),(.int .i64 0),(.int .u8 0),(.int .u8 0),(.int .u8 0),(.int .u8 0)]) y1i rfl) ?_
   intro zy3 _
   refine WL.new (dd:=18) rfl rfl rfl (yA (cs:=[(.int .u8 0),(.int .i64 0),(.int .i64 0),(.slice none 0 0)]) y1o rfl) ?_
   intro zy4 _
   refine WL.yf rfl rfl (yt y1l rfl rfl rfl .h1 rfl rfl rfl) ?_
   refine WL.yf rfl rfl (yt yV rfl rfl rfl .h1 rfl rfl rfl) ?_
   refine WL.pu rfl (WL.pu rfl (WL.nil (WX.a (WC.b (WC.b (WC.a (WL.pu rfl ?_)))))))
   refine WL.a (d:=64) rfl rfl rfl (y1L Tryd.underlying35 rfl) ?_
   refine WL.pu rfl ?_
   refine WL.a (d:=66) rfl rfl rfl (y1L Tryd.underlying35 rfl) ?_
   refine WL.pu rfl (WL.pu rfl ?_)
   refine WL.seg false 3 68 (B:=(decide (((z41.2.2.1.length : Nat) : Int) ≠ ((z4O.length : Nat) : Int))) || (decide (z41.2.2.2 > (i64 (Int.tmod z4e 101))))) rfl rfl rfl rfl rfl rfl (fun h=>(or_l h).symm) (fun _ zwn=>?_) ?_
   ·skip
    refine WL.pu rfl (WL.pu rfl (WL.pu rfl (WL.pu rfl ?_)))
    exact WL.yD (or_r zwn) rfl rfl .all
   refine WL.pu rfl ?_
   refine WL.seg false 5 73 (B:=((decide (((z41.2.2.1.length : Nat) : Int) ≠ ((z4O.length : Nat) : Int))) || (decide (z41.2.2.2 > (i64 (Int.tmod z4e 101))))) || (decide (z4k.2.2.2 > (i64 ((i64 (Int.tmod z4e 101)) + (i64 (Int.tmod z81 101))))))) rfl rfl rfl rfl rfl rfl (fun h=>(or_l h).symm) (fun _ zwo=>?_) ?_
   ·skip
    refine WL.pu rfl (WL.pu rfl (WL.pu rfl (WL.pu rfl (WL.pu rfl (WL.pu rfl ?_)))))
    exact WL.yD (or_r zwo) rfl rfl .all
   refine WL.nil (WX.a ?_)
   refine WC.cond rfl (fun zhg=>?_) (fun zhg=>?_)
   ·replace h:=ym h zhg
    refine WC.b (WC.a (WL.pu rfl (WL.nil (WX.a (WC.ret (WX.yh ?_))))))
    obtain rfl:=Option.some.inj h
    refine WX.yi Tryd.results8 (.tmp rfl .nil) (fun w hw=>?_)
    exact ⟨([] ++ zem),y1a rfl,trivial,hw.sub (.cons (.there .h7) .nil)⟩
   ·replace h:=yn h zhg
    refine WC.skip (WX.a (WC.b (WC.b (WC.a ?_))))
    refine WL.a (d:=80) rfl rfl rfl (y4 y4T rfl rfl) ?_
    refine WL.a (d:=81) rfl rfl rfl (y5 yC rfl (yb .h4 rfl)) ?_
    refine WL.pu rfl (WL.nil (WX.a ?_))
    refine WC.cond rfl (fun zhh=>?_) (fun zhh=>?_)
    ·replace h:=ym h zhh
     refine WC.b ?_
     obtain ⟨zhb,zkZ,h⟩:=zb h
     obtain ⟨zf1,zl0,h⟩:=zb h
     refine WC.a ?_
     refine WL.a (d:=83) rfl rfl rfl (yE yQ rfl (yz .h5) rfl) ?_
     refine WL.a (d:=84) rfl rfl rfl (yE yQ rfl (yz .h1) rfl) ?_
     refine WL.a (d:=85) rfl rfl rfl (y71 (enc:=e39) (a:=z41.1) (b:=z4k.1) y79 rfl rfl) ?_
     refine WL.pu rfl ?_
     refine WL.seg true 3 86 (B:=zhb) rfl rfl rfl rfl rfl rfl (fun h=>(Option.some.inj (yn zkZ h)).symm) (fun _ zwp=>?_) ?_
     ·skip
      have zen:=ym zkZ zwp
      obtain ⟨zkU,zwq,zen⟩:=zb zen
      replace zen:=Option.some.inj zen
      refine WL.a (d:=87) rfl rfl rfl (yE y1q rfl (yz .h4) rfl) ?_
      refine WL.a (d:=88) rfl rfl rfl (yE y1q rfl (yz .here) rfl) ?_
      refine WL.b (dd:=89) rfl rfl rfl (zk (l:=[.tmp 87,.tmp 88]) Tryd.call19 (.cons rfl (.cons rfl .nil))) .nil (y2c hz .nil (.there .h7) (.cons .h6 (.cons .h2 .nil)) fun w pz ho la=>y22 _ _ _ _ _ _ _ _ zwq w pz (ZA.row (la _ (.head _) _) (RR.yI (enc:=e5) (fun _=>rfl) _) ⟨w,pz.1⟩) (ZA.row (la _ (.tail _ (.head _)) _) (RR.yI (enc:=e5) (fun _=>rfl) _) ⟨w,pz.1⟩)) ?_
      refine WL.pu rfl ?_
      exact WL.yD zen rfl rfl .all
     refine WL.pu rfl ?_
     refine WL.seg true 3 91 (B:=zf1) rfl rfl rfl rfl rfl rfl (fun h=>(Option.some.inj (yn zl0 h)).symm) (fun _ zwr=>?_) ?_
     ·skip
      have zeo:=ym zl0 zwr
      obtain ⟨zkV,zws,zeo⟩:=zb zeo
      replace zeo:=Option.some.inj zeo
      refine WL.pu rfl (WL.pu rfl ?_)
      refine WL.b (dd:=94) rfl rfl rfl (zk (l:=[.tmp 92,.tmp 93]) Tryd.call22 (.cons rfl (.cons rfl .nil))) .nil (y2c hz .nil (.there .h7) (.cons .h7 (.cons .h3 .nil)) fun w pz ho la=>y3K _ _ _ _ _ _ _ _ zws w pz (ZA.row (la _ (.head _) _) (RR.yI (enc:=e5) (fun _=>rfl) _) ⟨w,pz.1⟩) (ZA.row (la _ (.tail _ (.head _)) _) (RR.yI (enc:=e5) (fun _=>rfl) _) ⟨w,pz.1⟩)) ?_
      refine WL.pu rfl ?_
      exact WL.yD zeo rfl rfl .all
     refine WL.pu rfl ?_
     refine WL.seg true 3 96 (B:=zf1 && (decide (z41.2.2.2 = z4k.2.2.2))) rfl rfl rfl rfl rfl rfl (fun h=>(y3D h).symm) (fun _ zwt=>?_) ?_
     ·skip
      refine WL.pu rfl (WL.pu rfl (WL.pu rfl (WL.pu rfl ?_)))
      exact WL.yD (y3E zwt) rfl rfl .all
     refine WL.pu rfl (WL.nil (WX.a (WC.ret (WX.yh ?_))))
     obtain rfl:=Option.some.inj h
     refine WX.yi Tryd.results8 (.tmp rfl .nil) (fun w hw=>?_)
     exact ⟨([] ++ zem),y1a rfl,trivial,hw.sub (.cons (.there .h7) .nil)⟩
    ·replace h:=yn h zhh
     refine WC.skip (WX.a (WC.b ?_))
     obtain ⟨zbl,zwu,h⟩:=zb h
     refine WC.a (WL.pu rfl ?_)
     refine WL.a (d:=103) rfl rfl rfl (yE yQ rfl (yz .h5) rfl) ?_
     refine WL.pu rfl (WL.pu rfl ?_)
     refine WL.yv (dd:=106) rfl rfl rfl (zk (l:=[.tmp 102,.tmp 103,.tmp 104,.tmp 105]) Tryd.call21 (.cons rfl (.cons rfl (.cons rfl (.cons rfl .nil))))) .nil (y2c hz .nil (.there .h7) (.cons .h7 .nil) fun w pz ho la=>y5y _ _ _ _ _ _ _ _ _ _ zwu w pz ((hG0.mono ((Zle.left _ _).trans ((Zle.left _ _).trans (Zle.y7 _ _ _)))).mono (Zle.left _ _)) ((((hG1.mono ((Zle.left _ _).trans ((Zle.left _ _).trans (Zle.y7 _ _ _)))).weak (fun _ _ h=>y10 ((Zle.left _ _).trans ((Zle.left _ _).trans (Zle.y7 _ _ _))) h)).mono (Zle.left _ _)).weak (fun _ _ h=>y10 (Zle.left _ _) h)) ((zhd.mono ((Zle.left _ _).trans ((Zle.left _ _).trans (Zle.y7 _ _ _)))).mono (Zle.left _ _)) (ZA.row (la _ (.head _) _) (RR.yI (enc:=e5) (fun _=>rfl) _) ⟨w,pz.1⟩)) ?_
     rintro zy5 zy6 zy7 zy8 _
     refine WL.pu rfl (WL.pu rfl (WL.pu rfl (WL.pu rfl (WL.pu rfl ?_))))
     refine WL.new (dd:=21) rfl rfl rfl (yA (cs:=[(.int .i64 0),(.int .i64 0),(.int .u8 0),(.int .u8 0),(.int .u8 0),(.int .u8 0)]) y1i rfl) ?_
     intro zy9 _
     refine WL.new (dd:=22) rfl rfl rfl (yA (cs:=[(.int .u8 0),(.int .i64 0),(.int .i64 0),(.slice none 0 0)]) y1o rfl) ?_
     intro zya _
     refine WL.yf rfl rfl (yt y1l rfl rfl rfl .h1 rfl rfl rfl) ?_
     refine WL.yf rfl rfl (yt yV rfl rfl rfl .h1 rfl rfl rfl) ?_
     refine WL.pu rfl (WL.pu rfl (WL.nil (WX.a (WC.b ?_))))
     obtain ⟨zhc,zl1,h⟩:=zb h
     obtain ⟨zf2,zl2,h⟩:=zb h
     refine WC.a (WL.pu rfl (WL.pu rfl (WL.pu rfl (WL.pu rfl ?_))))
     refine WL.seg true 3 114 (B:=(decide (z41.2.2.2 = (i64 (Int.tmod z4e 101)))) && (decide (zbl.1 = z4k.1))) rfl rfl rfl rfl rfl rfl (fun h=>(y3D h).symm) (fun _ zwv=>?_) ?_
     ·skip
      refine WL.a (d:=115) rfl rfl rfl (yE yQ rfl (yz .h1) rfl) ?_
      refine WL.a (d:=116) rfl rfl rfl (yE yQ rfl (yz .h5) rfl) ?_
      refine WL.a (d:=117) rfl rfl rfl (y71 (enc:=e39) (a:=zbl.1) (b:=z4k.1) y79 rfl rfl) ?_
      refine WL.pu rfl ?_
      exact WL.yD (y3E zwv) rfl rfl .all
     refine WL.pu rfl ?_
     refine WL.seg true 3 119 (B:=zhc) rfl rfl rfl rfl rfl rfl (fun h=>(Option.some.inj (yn zl1 h)).symm) (fun _ zww=>?_) ?_
     ·skip
      have zep:=ym zl1 zww
      obtain ⟨zkW,zwx,zep⟩:=zb zep
      replace zep:=Option.some.inj zep
      refine WL.a (d:=120) rfl rfl rfl (yE y1q rfl (yz .h4) rfl) ?_
      refine WL.a (d:=121) rfl rfl rfl (yE y1q rfl (yz .here) rfl) ?_
      refine WL.b (dd:=122) rfl rfl rfl (zk (l:=[.tmp 120,.tmp 121]) Tryd.call19 (.cons rfl (.cons rfl .nil))) .nil (y2c hz .nil (.there (.there (.there (.there (.there .h7))))) (.cons .h6 (.cons .h2 .nil)) fun w pz ho la=>y22 _ _ _ _ _ _ _ _ zwx w pz (ZA.row (la _ (.head _) _) (RR.yI (enc:=e5) (fun _=>rfl) _) ⟨w,pz.1⟩) (ZA.row (la _ (.tail _ (.head _)) _) (RR.yI (enc:=e5) (fun _=>rfl) _) ⟨w,pz.1⟩)) ?_
      refine WL.pu rfl ?_
      exact WL.yD zep rfl rfl .all
     refine WL.pu rfl ?_
     refine WL.seg true 3 124 (B:=zf2) rfl rfl rfl rfl rfl rfl (fun h=>(Option.some.inj (yn zl2 h)).symm) (fun _ zwy=>?_) ?_
     ·skip
      have zeq:=ym zl2 zwy
      obtain ⟨zkX,zwz,zeq⟩:=zb zeq
      replace zeq:=Option.some.inj zeq
      refine WL.pu rfl (WL.pu rfl ?_)
      refine WL.b (dd:=127) rfl rfl rfl (zk (l:=[.tmp 125,.tmp 126]) Tryd.call22 (.cons rfl (.cons rfl .nil))) .nil (y2c hz .nil (.there (.there (.there (.there (.there .h7))))) (.cons .h3 (.cons .h6 .nil)) fun w pz ho la=>y3K _ _ _ _ _ _ _ _ zwz w pz (ZA.row (la _ (.head _) _) (RR.yI (enc:=e5) (fun _=>rfl) _) ⟨w,pz.1⟩) (ZA.row (la _ (.tail _ (.head _)) _) (RR.yI (enc:=e5) (fun _=>rfl) _) ⟨w,pz.1⟩)) ?_
      refine WL.pu rfl ?_
      exact WL.yD zeq rfl rfl .all
     refine WL.pu rfl ?_
     refine WL.seg true 5 129 (B:=zf2 && (decide (zbl.2.2.2 = (i64 (z4k.2.2.2 - (i64 (Int.tmod z4e 101))))))) rfl rfl rfl rfl rfl rfl (fun h=>(y3D h).symm) (fun _ zwA=>?_) ?_
     ·skip
      refine WL.pu rfl (WL.pu rfl (WL.pu rfl (WL.pu rfl (WL.pu rfl (WL.pu rfl ?_)))))
      exact WL.yD (y3E zwA) rfl rfl .all
     refine WL.pu rfl (WL.nil (WX.a (WC.ret ?_)))
     obtain rfl:=Option.some.inj h
     refine WX.yi Tryd.results8 (.tmp rfl .nil) (fun w hw=>?_)
     exact ⟨([] ++ zem),y1a rfl,trivial,hw.sub (.cons (.there (.there (.there (.there (.there .h7))))) .nil)⟩
end Go.Proofs.YtjdnejbngloieaaDoor

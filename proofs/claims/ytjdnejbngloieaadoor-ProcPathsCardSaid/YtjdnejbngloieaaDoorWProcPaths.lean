/- A part of this claim's proof: models of functions, walks, plain laws. No conditions. -/
import Derived.Test.YtjdnejbngloieaaDoorW26pd
namespace Go.Proofs.YtjdnejbngloieaaDoor
open Go Go.RowKit Sep
set_option linter.all false
set_option maxRecDepth 30000
set_option maxHeartbeats 4000000
def y2g (z2Z : List Sapi_Ins) (z6w : Int) : Option Bool :=
 if decide (((z2Z.length : Nat) : Int) > 24) then (y2M).bind fun zgK=>some zgK else (y4V z2Z).bind fun zgL=>(y2O z2Z z6w).bind fun zgM=>(if zgM then (y2z z2Z z2Z).bind fun zgN=>some zgN else some false).bind fun za3=>(if za3 then (y2M).bind fun zgO=>some zgO else some false).bind fun zd3=>some zd3
set_option maxRecDepth 20000 in
theorem y5X (Z : Zp) (z8h : Option Addr) (z8i : Nat) (z2Z : List Sapi_Ins) (z6w : Int) (r : Bool)
  (h : y2g z2Z z6w = some r) (w₀ : World) (hz : PZ [] w₀ Z)
  (hG0 : ZC Z ⟨0,0,none⟩ tabG0)
  (hG1 : ZS Z 1 (p74 Z) (some ⟨1,0,none⟩) 26 y18)
  (zgP : ZS Z 4 (fun r x=>r = e33 x) z8h z8i z2Z) :
  Calls Tryd.prog 3 #[(.slice z8h z2Z.length z8i),(.int .i64 z6w)] w₀ fun e w'=>∃ Zn : Zp,e = .returned (.bool r) ∧ True ∧ Hp [] w₀ w' [fz Zn]:=by
 unfold y2g at h
 refine Calls.ya (vs:=[(.slice z8h z2Z.length z8i),(.int .i64 z6w)]) (pre:=[]) (env:=[(0,(.slice z8h z2Z.length z8i)),(1,(.int .i64 z6w))]) Tryd.func3 rfl Tryd.ntmps3 rfl (Hp.nil w₀ _) rfl ?_
 refine WC.pool (WC.b (WC.a (WL.pu rfl (WL.nil (WX.a (WC.b (WC.b (WC.a (WL.pu rfl ?_)))))))))
 refine WL.a (d:=7) rfl rfl rfl (yH Tryd.underlying22 rfl) ?_
 refine WL.pu rfl (WL.nil (WX.a ?_))
 refine WC.cond rfl (fun zd4=>?_) (fun zd4=>?_)
 ·replace h:=yc h zd4
  refine WC.b ?_
  obtain ⟨zgK,zru,h⟩:=zd h
  refine WC.a ?_
  refine WL.y6E (dd:=9) rfl rfl rfl (zm (l:=[]) Tryd.call9 .nil) .nil (ccz hz .nil .here fun w pz ho=>y5o _ _ zru w pz (hG0.mono (Zle.left _ _)) ((hG1.mono (Zle.left _ _)).weak (fun _ _ h=>y13 (Zle.left _ _) h))) ?_
  rintro zrv _
  refine WL.merge .here .here ?_
  refine WL.pu rfl (WL.nil (WX.a (WC.ret (WX.y7 ?_))))
  obtain rfl:=Option.some.inj h
  refine WX.y8 Tryd.results3 (.tmp rfl .nil) (fun w hw=>?_)
  exact ⟨([] ++ zrv),yx rfl,trivial,hw.sub (.cons .here .nil)⟩
 ·replace h:=yd h zd4
  refine WC.skip (WX.a (WC.b ?_))
  obtain ⟨zgL,zrw,h⟩:=zd h
  refine WC.a (WL.pu rfl ?_)
  refine WL.y3O (dd:=11) rfl rfl rfl (zm (l:=[.tmp 10]) Tryd.call10 (.cons rfl .nil)) .nil (ccz hz .nil .here fun w pz ho=>w_LentV (Z:=_) (ao:=z8h) (cap:=z8i) (l:=z2Z) (r:=zgL) w pz (zgP.mono (Zle.left _ _)) zrw) ?_
  rintro zd5 ztF ztG ⟨zgQ,zrx⟩
  refine WL.merge .here .here ?_
  refine WL.pu rfl (WL.nil (WX.a (WC.b ?_)))
  obtain ⟨zgM,zry,h⟩:=zd h
  obtain ⟨za3,zgR,h⟩:=zd h
  obtain ⟨zd3,zgS,h⟩:=zd h
  refine WC.a (WL.pu rfl (WL.pu rfl ?_))
  refine WL.b (dd:=14) rfl rfl rfl (zm (l:=[.tmp 12,.tmp 13]) Tryd.call11 (.cons rfl (.cons rfl .nil))) .nil (ccz hz .nil .here fun w pz ho=>y6T _ _ _ _ _ _ zry w pz ((hG1.mono ((Zle.left _ _).trans ((Zle.left _ _).trans (Zle.y5 _ _ _)))).weak (fun _ _ h=>y13 ((Zle.left _ _).trans ((Zle.left _ _).trans (Zle.y5 _ _ _))) h)) (zgQ.mono (Zle.y5 _ _ _))) ?_
  refine WL.pu rfl ?_
  refine WL.seg true 3 15 (B:=za3) rfl rfl rfl rfl rfl rfl (fun h=>(Option.some.inj (yd zgR h)).symm) (fun _ zrz=>?_) ?_
  ·skip
   have z97:=yc zgR zrz
   obtain ⟨zgN,zrA,z97⟩:=zd z97
   replace z97:=Option.some.inj z97
   refine WL.pu rfl (WL.pu rfl ?_)
   refine WL.b (dd:=18) rfl rfl rfl (zm (l:=[.tmp 16,.tmp 17]) Tryd.call12 (.cons rfl (.cons rfl .nil))) .nil (ccz hz .nil .here fun w pz ho=>y6A _ _ _ _ _ _ _ _ zrA w pz (zgQ.mono (Zle.y5 _ _ _)) (zgP.mono ((Zle.left _ _).trans ((Zle.left _ _).trans (Zle.y5 _ _ _)))) (zrx.mono (Zle.y5 _ _ _))) ?_
   refine WL.pu rfl ?_
   exact WL.ys z97 rfl rfl .all
  refine WL.pu rfl ?_
  refine WL.cut1 (fun (z8j : Zp)=>Zle (Z ++ ([] ++ zd5)) (Z ++ z8j)) (fun (z8j : Zp)=>[(4,(.bool false)),(22,(.bool zd3))]) (fun (z8j : Zp)=>[fz z8j]) 2 ?_ (fun z8j ztH=>?_)
  ·rcases Bool.eq_false_or_eq_true za3 with hb' | hb'
   ·have zgT:=hb'; clear hb'
    have z98:=yc zgS zgT
    obtain ⟨zgO,zrB,z98⟩:=zd z98
    replace z98:=Option.some.inj z98
    refine WL.pin (i:=20) rfl zgT ?_
    refine WL.y6E (dd:=21) rfl rfl rfl (zm (l:=[]) Tryd.call9 .nil) .nil (ccz hz .nil .here fun w pz ho=>y5o _ _ zrB w pz (hG0.mono ((Zle.left _ _).trans ((Zle.left _ _).trans (Zle.y5 _ _ _)))) ((hG1.mono ((Zle.left _ _).trans ((Zle.left _ _).trans (Zle.y5 _ _ _)))).weak (fun _ _ h=>y13 ((Zle.left _ _).trans ((Zle.left _ _).trans (Zle.y5 _ _ _))) h))) ?_
    rintro zrC _
    refine WL.merge .here .here ?_
    refine WL.pu rfl ?_
    exact WL.y6D (G:=Zp) (([] ++ zd5) ++ zrC) ((Zle.left _ _).trans (Zle.y5 _ _ _)) (.cons rfl (.cons (z2R z98) .nil)) (.cons .here .nil)
   ·have zgU:=hb'; clear hb'
    have zd6:=yd zgS zgU
    replace zd6:=Option.some.inj zd6
    refine WL.pin (i:=20) rfl zgU ?_
    refine WL.e rfl rfl rfl (WL.pu rfl ?_)
    exact WL.y6D (G:=Zp) ([] ++ zd5) (Zle.refl _) (.cons rfl (.cons (z2R zd6) .nil)) (.cons .here .nil)
  ·skip
   refine WL.pu rfl (WL.nil (WX.a (WC.ret ?_)))
   obtain rfl:=Option.some.inj h
   refine WX.y8 Tryd.results3 (.tmp rfl .nil) (fun w hw=>?_)
   exact ⟨z8j,yx rfl,trivial,hw.sub (.cons .here .nil)⟩
end Go.Proofs.YtjdnejbngloieaaDoor

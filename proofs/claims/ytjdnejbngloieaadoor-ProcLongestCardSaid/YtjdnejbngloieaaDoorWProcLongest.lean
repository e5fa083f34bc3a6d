/- A part of this claim's proof: models of functions, walks, plain laws. No conditions. -/
import Derived.Test.YtjdnejbngloieaaDoorW26e
namespace Go.Proofs.YtjdnejbngloieaaDoor
open Go Go.RowKit Sep
set_option linter.all false
set_option maxRecDepth 30000
set_option maxHeartbeats 4000000
def y2l (z5r : List Sapi_Ins) (z9M : Int) (z2O : S34) (z88 : List Int) (zbv : List Int) : Option Bool :=
 (y3C).bind fun zlb=>if !zlb then some false else if (decide (((z5r.length : Nat) : Int) > 24)) || (decide (((z88.length : Nat) : Int) > 5000)) then some true else (y1x z5r z9M).bind fun zce=>if !zce.2 then some (decide (zce.1 = 0)) else if decide (zce.1 > 60000) then (y2i z5r).bind fun zlc=>some zlc else (y3R z5r (⟨z9M,0,z2O⟩ : Sproc_State) z88 zbv zce.1).bind fun zdF=>(y2i z5r).bind fun zfd=>some ((zfd && (decide (zdF ≥ 0))) && (decide (zdF ≤ zce.1)))
set_option maxRecDepth 20000 in
theorem y5M (Z : Zp) (zer : Option Addr) (zes : Nat) (zet : Option Addr) (zeu : Nat) (zev : Option Addr) (zew : Nat) (z5r : List Sapi_Ins) (z9M : Int) (z2O : S34) (z88 : List Int) (zbv : List Int) (r : Bool)
  (h : y2l z5r z9M z2O z88 zbv = some r) (w₀ : World) (hz : PZ [] w₀ Z)
  (hG0 : ZC Z ⟨0,0,none⟩ y67)
  (hG1 : ZS Z 1 (p74 Z) (some ⟨1,0,none⟩) 26 y17)
  (zfe : ZS Z 4 (fun r x=>r = e33 x) zer zes z5r)
  (zwF : ZS Z 1 (fun r x=>r = e5 x) zet zeu z88)
  (zwG : ZS Z 1 (fun r x=>r = e5 x) zev zew zbv) :
  Calls Tryd.prog 7 #[(.slice zer z5r.length zes),(.int .i64 z9M),(.agg #[(.int .u8 z2O.a0),(.int .u8 z2O.a1),(.int .u8 z2O.a2),(.int .u8 z2O.a3)]),(.slice zet z88.length zeu),(.slice zev zbv.length zew)] w₀ fun e w'=>∃ Zn : Zp,e = .returned (.bool r) ∧ True ∧ Hp [] w₀ w' [fz Zn]:=by
 unfold y2l at h
 refine Calls.y8 (vs:=[(.slice zer z5r.length zes),(.int .i64 z9M),(.agg #[(.int .u8 z2O.a0),(.int .u8 z2O.a1),(.int .u8 z2O.a2),(.int .u8 z2O.a3)]),(.slice zet z88.length zeu),(.slice zev zbv.length zew)]) (pre:=[]) (env:=[(0,(.slice zer z5r.length zes)),(1,(.int .i64 z9M)),(2,(.agg #[(.int .u8 z2O.a0),(.int .u8 z2O.a1),(.int .u8 z2O.a2),(.int .u8 z2O.a3)])),(3,(.slice zet z88.length zeu)),(4,(.slice zev zbv.length zew))]) Tryd.func7 rfl Tryd.ntmps7 rfl (Hp.nil w₀ _) rfl ?_
 refine WC.pool (WC.b (WC.a ?_))
 refine WL.new (dd:=7) rfl rfl rfl (y3m (cs:=[(.int .u8 z2O.a0),(.int .u8 z2O.a1),(.int .u8 z2O.a2),(.int .u8 z2O.a3)]) rfl rfl) ?_
 intro zyc _
 refine WL.pu rfl (WL.nil (WX.a (WC.b (WC.b ?_))))
 obtain ⟨zlb,zwH,h⟩:=zd h
 refine WC.a ?_
 refine WL.y81 (dd:=14) rfl rfl rfl (zl (l:=[]) Tryd.call9 .nil) .nil (ccz hz .nil .h1 fun w pz ho=>y75 _ _ zwH w pz (hG0.mono (Zle.left _ _)) ((hG1.mono (Zle.left _ _)).weak (fun _ _ h=>y12 (Zle.left _ _) h))) ?_
 rintro zex _
 refine WL.merge .here .h1 ?_
 refine WL.pu rfl (WL.nil (WX.a ?_))
 refine WC.cond rfl (fun zhx=>?_) (fun zhx=>?_)
 ·replace h:=yl h zhx
  refine WC.b (WC.a (WL.pu rfl (WL.nil (WX.a (WC.ret (WX.yf ?_))))))
  obtain rfl:=Option.some.inj h
  refine WX.yh Tryd.results7 (.tmp rfl .nil) (fun w hw=>?_)
  exact ⟨([] ++ zex),y1a rfl,trivial,hw.sub (.cons .here .nil)⟩
 ·replace h:=ym h zhx
  refine WC.skip (WX.a (WC.b (WC.b (WC.a (WL.pu rfl ?_)))))
  refine WL.a (d:=17) rfl rfl rfl (y1s Tryd.underlying22 rfl) ?_
  refine WL.pu rfl (WL.pu rfl ?_)
  refine WL.seg false 3 19 (B:=(decide (((z5r.length : Nat) : Int) > 24)) || (decide (((z88.length : Nat) : Int) > 5000))) rfl rfl rfl rfl rfl rfl (fun h=>(or_l h).symm) (fun _ zwI=>?_) ?_
  ·skip
   refine WL.pu rfl ?_
   refine WL.a (d:=21) rfl rfl rfl (y1s Tryd.underlying35 rfl) ?_
   refine WL.pu rfl (WL.pu rfl ?_)
   exact WL.yN (or_r zwI) rfl rfl .all
  refine WL.nil (WX.a ?_)
  refine WC.cond rfl (fun zhy=>?_) (fun zhy=>?_)
  ·replace h:=yl h zhy
   refine WC.b (WC.a (WL.pu rfl (WL.nil (WX.a (WC.ret (WX.yf ?_))))))
   obtain rfl:=Option.some.inj h
   refine WX.yh Tryd.results7 (.tmp rfl .nil) (fun w hw=>?_)
   exact ⟨([] ++ zex),y1a rfl,trivial,hw.sub (.cons .here .nil)⟩
  ·replace h:=ym h zhy
   refine WC.skip (WX.a (WC.b ?_))
   obtain ⟨zce,zwJ,h⟩:=zd h
   refine WC.a (WL.pu rfl (WL.pu rfl ?_))
   refine WL.b (dd:=27) rfl rfl rfl (zl (l:=[.tmp 25,.tmp 26]) Tryd.call13 (.cons rfl (.cons rfl .nil))) .nil (ccz hz .nil .here fun w pz ho=>y3r _ _ _ _ _ _ zwJ w pz ((hG1.mono ((Zle.left _ _).trans ((Zle.left _ _).trans (Zle.y7 _ _ _)))).weak (fun _ _ h=>y12 ((Zle.left _ _).trans ((Zle.left _ _).trans (Zle.y7 _ _ _))) h)) (zfe.mono ((Zle.left _ _).trans ((Zle.left _ _).trans (Zle.y7 _ _ _))))) ?_
   refine WL.pu rfl (WL.pu rfl (WL.pu rfl (WL.pu rfl (WL.pu rfl (WL.nil (WX.a (WC.b (WC.b (WC.a (WL.pu rfl (WL.pu rfl (WL.nil (WX.a ?_)))))))))))))
   refine WC.cond rfl (fun zhz=>?_) (fun zhz=>?_)
   ·replace h:=yl h zhz
    refine WC.b (WC.a (WL.pu rfl (WL.pu rfl (WL.pu rfl (WL.nil (WX.a (WC.ret (WX.yf ?_))))))))
    obtain rfl:=Option.some.inj h
    refine WX.yh Tryd.results7 (.tmp rfl .nil) (fun w hw=>?_)
    exact ⟨([] ++ zex),y1a rfl,trivial,hw.sub (.cons .here .nil)⟩
   ·replace h:=ym h zhz
    refine WC.skip (WX.a (WC.b (WC.b (WC.a (WL.pu rfl (WL.pu rfl (WL.nil (WX.a ?_))))))))
    refine WC.cond rfl (fun zhA=>?_) (fun zhA=>?_)
    ·replace h:=yl h zhA
     refine WC.b ?_
     obtain ⟨zlc,zwK,h⟩:=zd h
     refine WC.a (WL.pu rfl ?_)
     refine WL.b (dd:=37) rfl rfl rfl (zl (l:=[.tmp 36]) Tryd.call14 (.cons rfl .nil)) .nil (ccz hz .nil .here fun w pz ho=>y4h _ _ _ _ _ zwK w pz ((hG1.mono ((Zle.left _ _).trans ((Zle.left _ _).trans (Zle.y7 _ _ _)))).weak (fun _ _ h=>y12 ((Zle.left _ _).trans ((Zle.left _ _).trans (Zle.y7 _ _ _))) h)) (zfe.mono ((Zle.left _ _).trans ((Zle.left _ _).trans (Zle.y7 _ _ _))))) ?_
     refine WL.pu rfl (WL.nil (WX.a (WC.ret (WX.yf ?_))))
     obtain rfl:=Option.some.inj h
     refine WX.yh Tryd.results7 (.tmp rfl .nil) (fun w hw=>?_)
     exact ⟨([] ++ zex),y1a rfl,trivial,hw.sub (.cons .here .nil)⟩
    ·replace h:=ym h zhA
     refine WC.skip (WX.a (WC.b ?_))
     obtain ⟨zdF,zwL,h⟩:=zd h
     refine WC.a (WL.pu rfl (WL.pu rfl ?_))
     refine WL.a (d:=40) rfl rfl rfl (yV aggT_34 rfl (yJ .h1) rfl) ?_
     refine WL.a (d:=41) rfl rfl rfl (yR (v:=(.agg #[(.int .i64 z9M),(.int .i64 0),(.int .u8 z2O.a0),(.int .u8 z2O.a1),(.int .u8 z2O.a2),(.int .u8 z2O.a3)])) (Eos.parts (l:=[.tmp 39,.tmp 40]) (.cons rfl (.cons rfl .nil)) [0,2]) (fun _=>by kernel_rfl)) ?_
     refine WL.pu rfl (WL.pu rfl (WL.pu rfl ?_))
     refine WL.b (dd:=45) rfl rfl rfl (zl (l:=[.tmp 38,.tmp 41,.tmp 42,.tmp 43,.tmp 44]) Tryd.call20 (.cons rfl (.cons rfl (.cons rfl (.cons rfl (.cons rfl .nil)))))) .nil (ccz hz .nil .here fun w pz ho=>y7n _ _ _ _ _ _ _ _ _ _ _ _ _ zwL w pz (hG0.mono ((Zle.left _ _).trans ((Zle.left _ _).trans (Zle.y7 _ _ _)))) ((hG1.mono ((Zle.left _ _).trans ((Zle.left _ _).trans (Zle.y7 _ _ _)))).weak (fun _ _ h=>y12 ((Zle.left _ _).trans ((Zle.left _ _).trans (Zle.y7 _ _ _))) h)) (zfe.mono ((Zle.left _ _).trans ((Zle.left _ _).trans (Zle.y7 _ _ _)))) (zwF.mono ((Zle.left _ _).trans ((Zle.left _ _).trans (Zle.y7 _ _ _)))) (zwG.mono ((Zle.left _ _).trans ((Zle.left _ _).trans (Zle.y7 _ _ _))))) ?_
     refine WL.pu rfl (WL.nil (WX.a (WC.b ?_)))
     obtain ⟨zfd,zwM,h⟩:=zd h
     refine WC.a (WL.pu rfl ?_)
     refine WL.b (dd:=47) rfl rfl rfl (zl (l:=[.tmp 46]) Tryd.call14 (.cons rfl .nil)) .nil (ccz hz .nil .here fun w pz ho=>y4h _ _ _ _ _ zwM w pz ((hG1.mono ((Zle.left _ _).trans ((Zle.left _ _).trans (Zle.y7 _ _ _)))).weak (fun _ _ h=>y12 ((Zle.left _ _).trans ((Zle.left _ _).trans (Zle.y7 _ _ _))) h)) (zfe.mono ((Zle.left _ _).trans ((Zle.left _ _).trans (Zle.y7 _ _ _))))) ?_
     refine WL.pu rfl ?_
     refine WL.seg true 2 48 (B:=zfd && (decide (zdF ≥ 0))) rfl rfl rfl rfl rfl rfl (fun h=>(y3A h).symm) (fun _ zwN=>?_) ?_
     ·skip
      refine WL.pu rfl (WL.pu rfl (WL.pu rfl ?_))
      exact WL.yN (y3B zwN) rfl rfl .all
     refine WL.pu rfl ?_
     refine WL.seg true 3 52 (B:=(zfd && (decide (zdF ≥ 0))) && (decide (zdF ≤ zce.1))) rfl rfl rfl rfl rfl rfl (fun h=>(y3A h).symm) (fun _ zwO=>?_) ?_
     ·skip
      refine WL.pu rfl (WL.pu rfl (WL.pu rfl (WL.pu rfl ?_)))
      exact WL.yN (y3B zwO) rfl rfl .all
     refine WL.pu rfl (WL.nil (WX.a (WC.ret ?_)))
     obtain rfl:=Option.some.inj h
     refine WX.yh Tryd.results7 (.tmp rfl .nil) (fun w hw=>?_)
     exact ⟨([] ++ zex),y1a rfl,trivial,hw.sub (.cons .here .nil)⟩
end Go.Proofs.YtjdnejbngloieaaDoor

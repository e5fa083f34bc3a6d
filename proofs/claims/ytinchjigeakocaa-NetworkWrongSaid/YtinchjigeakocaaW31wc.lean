/- A part of this claim's proof: models of functions, walks, plain laws. No conditions. -/
import Derived.Test.YtinchjigeakocaaW31wb
namespace Go.Proofs.Ytinchjigeakocaa
open Go Go.RowKit Sep
set_option linter.all false
set_option maxRecDepth 30000
set_option maxHeartbeats 4000000
def yQ (z48 : Sport_frame → Option Bool) (z7K : (List Sport_frame) → Int → Option (List Sport_frame)) : Nat → (List Sport_frame) → Int → Int → Option (List Sport_frame)
 | 0,_,_,_=>none
 | zj6 + 1,zS,z2f,z11=>if decide (z11 < ((zS.length : Nat) : Int)) then jp2 (fun (z4L : List Sport_frame) (z7L : Int)=>yQ z48 z7K zj6 z4L z7L (i64 (z11 + 1))) fun zg4=>chk ((0 : Int) ≤ z11 ∧ z11 < ((zS.length : Nat) : Int)) ((z48 (⟨((nth zS z11).fSize),((nth zS z11).fFin)⟩ : Sport_frame)).bind fun zj7=>if !zj7 then chk ((0 : Int) ≤ z2f ∧ z2f < ((zS.length : Nat) : Int)) (zg4 (zS.set (z2f : Int).toNat (⟨((nth zS z11).fSize),((nth zS z11).fFin)⟩ : Sport_frame)) (i64 (z2f + 1))) else zg4 zS z2f) else z7K zS z2f
theorem y2I {n : Nat} {z48 : Sport_frame → Option Bool} {z7K : (List Sport_frame) → Int → Option (List Sport_frame)} {zS : List Sport_frame} {z2f : Int} {z11 : Int} {r : List Sport_frame} (h : yQ z48 z7K n zS z2f z11 = some r) : ∃ m,n = m + 1:=by
 cases n with
 | zero=>cases h
 | succ m=>exact ⟨m,rfl⟩
def y1B (z2g : List Sport_frame) (z48 : Sport_frame → Option Bool) : Option (List Sport_frame) :=
 (y1G z2g z48).bind fun zbt=>if decide (zbt = (-1)) then some z2g else jp2 (fun (z2h : List Sport_frame) (z2i : Int)=>chk ((0 : Int) ≤ z2i ∧ z2i ≤ ((z2h.length : Nat) : Int)) (chk ((0 : Int) ≤ z2i ∧ z2i ≤ (((z2h.take (z2i : Int).toNat ++ List.replicate (z2h.length - (z2i : Int).toNat) ((⟨0,0⟩ : Sport_frame) : Sport_frame)).length : Nat) : Int)) (some ((z2h.take (z2i : Int).toNat ++ List.replicate (z2h.length - (z2i : Int).toNat) ((⟨0,0⟩ : Sport_frame) : Sport_frame)).take (z2i : Int).toNat)))) fun z7K=>yQ z48 z7K yP z2g zbt (i64 (zbt + 1))
set_option maxRecDepth 20000 in
theorem y3m (Z : Zp) (z3h : Option Addr) (z2S : Nat) (z5x : FuncId) (z7M : List Value) (z2g : List Sport_frame) (z48 : Sport_frame → Option Bool) (r : List Sport_frame)
  (h : y1B z2g z48 = some r) (w₀ : World) (hz : PZ (fps [row (.slice z3h z2g.length z2S) 146 2 (z2g.flatMap y1P)]) w₀ Z)
  (zog : ∀ args w,(callFunc z5x args).run Try.prog w = .ok (.enter z5x args) w)
  (zoh : ∀ w : World,PZ [] w Z → ∀ (x0 : Sport_frame) (r : Bool),z48 x0 = some r → Calls Try.prog z5x (([(.agg #[(.int .i64 x0.fSize),(.int .i64 x0.fFin)])] : List Value) ++ z7M).toArray w fun e w'=>e = .returned (.bool r) ∧ Hp [] w w' [])
  (hown : Hp (fps [row (.slice z3h z2g.length z2S) 146 2 (z2g.flatMap y1P)]) w₀ w₀ [row (.slice z3h z2g.length z2S) 146 2 (z2g.flatMap y1P)]) :
  Calls Try.prog 54 #[(.slice z3h z2g.length z2S),(.func (.func z5x) #[] (z7M).toArray)] w₀ fun e w'=>∃ zoi : Option Addr,∃ zoj : Nat,e = .returned (.slice zoi r.length zoj) ∧ True ∧ Hp (fps [row (.slice z3h z2g.length z2S) 146 2 (z2g.flatMap y1P)]) w₀ w' [row (.slice zoi r.length zoj) 146 2 (r.flatMap y1P)]:=by
 unfold y1B at h
 refine Calls.yo (vs:=[(.slice z3h z2g.length z2S),(.func (.func z5x) #[] (z7M).toArray)]) (pre:=[row (.slice z3h z2g.length z2S) 146 2 (z2g.flatMap y1P)]) (env:=[(0,(.slice z3h z2g.length z2S)),(1,(.func (.func z5x) #[] (z7M).toArray))]) Try.func54 rfl Try.ntmps54 rfl (hown) rfl ?_
 refine WC.b (WC.a (WL.pu rfl (WL.nil (WX.a (WC.b ?_)))))
 obtain ⟨zbt,zuR,h⟩:=z8 h
 refine WC.a (WL.pu rfl (WL.pu rfl ?_))
 refine WL.b (dd:=10) rfl rfl rfl (zt (l:=[.tmp 8,.tmp 9]) Try.call63 (.cons rfl (.cons rfl .nil))) .nil (ccl hz .nil (.cons .here .nil) fun w pz ho la=>y3x _ _ _ (z7J:=z5x) (z9V:=z7M) _ (z5w:=z48) _ zuR w pz (ZA.row (la _ (.head _) _) (RR.yE (enc:=y1P) (fun _=>rfl) _) ⟨w,pz.1⟩) zog (fun w' hz'=>zoh w' (hz'.le (Zle.left _ _)))) ?_
 refine WL.pu rfl (WL.nil (WX.a (WC.b (WC.b (WC.a (WL.pu rfl (WL.pu rfl (WL.nil (WX.a ?_)))))))))
 refine WC.cond rfl (fun zj8=>?_) (fun zj8=>?_)
 ·replace h:=yg h zj8
  refine WC.b (WC.a (WL.pu rfl (WL.pu rfl (WL.nil (WX.a (WC.ret (WX.yn ?_)))))))
  obtain rfl:=Option.some.inj h
  refine WX.yj Try.results54 (.tmp rfl .nil) (fun w hw=>?_)
  exact ⟨z3h,z2S,yL rfl,trivial,hw.sub (.cons .here .nil)⟩
 ·replace h:=yh h zj8
  refine WC.skip (WX.a ?_)
  obtain ⟨z7K,zuS,h⟩:=y34 h
  refine WC.y2v (fun (z2h : List Sport_frame) (z2i : Int)=>(z7K z2h z2i = some r) ∧ (z2h.length = z2g.length)) (fun (z2h : List Sport_frame) (z2i : Int)=>[(0,(.slice z3h z2h.length z2S)),(5,(.int .i64 z2i))]) (fun (z2h : List Sport_frame) (z2i : Int)=>[row (.slice z3h z2h.length z2S) 146 2 (z2h.flatMap y1P)]) ?_ ?_
  ·skip
   refine WC.b (WC.a (WL.pu rfl (WL.pu rfl (WL.pu rfl (WL.nil (WX.a (WC.block ?_)))))))
   refine WC.y5E (fun (zbu : Nat) (zS : List Sport_frame) (z2f : Int) (z11 : Int)=>(yQ z48 z7K zbu zS z2f z11 = some r) ∧ (zS.length = z2g.length)) (fun (zbu : Nat) (zS : List Sport_frame) (z2f : Int) (z11 : Int)=>[(0,(.slice z3h zS.length z2S)),(1,(.func (.func z5x) #[] (z7M).toArray)),(5,(.int .i64 z2f)),(6,(.int .i64 z11))]) (fun (zbu : Nat) (zS : List Sport_frame) (z2f : Int) (z11 : Int)=>[row (.slice z3h zS.length z2S) 146 2 (zS.flatMap y1P)]) (fun (zbu : Nat) (zS : List Sport_frame) (z2f : Int) (z11 : Int)=>zbu) ⟨yP,z2g,zbt,(i64 (zbt + 1))⟩ ⟨h,rfl⟩ (.cons rfl (.cons rfl (.cons rfl (.cons rfl .nil)))) (.cons .here .nil) ?_
   rintro zbu zS z2f z11 ⟨h,zj9⟩
   obtain ⟨zj6,rfl⟩:=y2I h
   rw [yQ] at h
   refine WC.b (WC.b (WC.a (WL.pu rfl (WL.pu rfl ?_))))
   refine WL.a (d:=18) rfl rfl rfl (yz Try.underlying141 rfl) ?_
   refine WL.pu rfl (WL.nil (WX.a ?_))
   refine WC.cond rfl (fun zja=>?_) (fun zja=>?_)
   ·replace h:=yg h zja
    refine WC.skip (WX.a ?_)
    obtain ⟨zg4,zuT,h⟩:=y34 h
    refine WC.y2v (fun (z4L : List Sport_frame) (z7L : Int)=>(zg4 z4L z7L = some r) ∧ (z4L.length = z2g.length)) (fun (z4L : List Sport_frame) (z7L : Int)=>[(0,(.slice z3h z4L.length z2S)),(1,(.func (.func z5x) #[] (z7M).toArray)),(5,(.int .i64 z7L)),(6,(.int .i64 z11))]) (fun (z4L : List Sport_frame) (z7L : Int)=>[row (.slice z3h z4L.length z2S) 146 2 (z4L.flatMap y1P)]) ?_ ?_
    ·skip
     refine WC.block (WC.b ?_)
     obtain ⟨zeh,h⟩:=ye h
     refine WC.a (WL.pu rfl (WL.pu rfl ?_))
     refine WL.know (fun w hw=>Hp.y15 .here hw (by intro hz'; have:=zeh; rw [hz'] at this; omega)) ?_
     rintro ⟨zol,rfl⟩
     refine WL.a (d:=24) rfl rfl rfl (ym z79 rfl rfl zeh.1 zeh.2 yM) ?_
     refine WL.a (d:=25) rfl rfl rfl (y1y (cs:=(y1P (nth zS z11))) zan rfl rfl (y1K .here (y1A (enc:=y1P) (l:=zS) (i:=z11) (sz:=2) (fun _=>rfl) zeh.1 zeh.2))) ?_
     refine WL.new (dd:=7) rfl rfl rfl (y2m (cs:=[(.int .i64 0),(.int .i64 0)]) zhm rfl) ?_
     intro zCN _
     refine WL.y10 rfl rfl (y1W zhn rfl rfl rfl .here rfl rfl rfl) ?_
     refine WL.nil (WX.a (WC.b ?_))
     obtain ⟨zj7,zuU,h⟩:=z8 h
     refine WC.a (WL.pu rfl ?_)
     refine WL.a (d:=27) rfl rfl rfl (yu zan rfl (yJ .here) rfl) ?_
     refine WL.b (dd:=28) rfl rfl rfl (y3s (l:=[.tmp 27]) (f:=z5x) (caps:=z7M) zog rfl (.cons rfl .nil)) .nil (fun w hw=>zoh w (hz.now hw) (⟨((nth zS z11).fSize),((nth zS z11).fFin)⟩ : Sport_frame) zj7  zuU) ?_
     refine WL.pu rfl (WL.nil (WX.a ?_))
     refine WC.cond rfl (fun zjb=>?_) (fun zjb=>?_)
     ·replace h:=yg h zjb
      refine WC.b ?_
      obtain ⟨zbv,h⟩:=ye h
      refine WC.a (WL.pu rfl (WL.pu rfl ?_))
      refine WL.a (d:=32) rfl rfl rfl (yu zan rfl (yJ .here) rfl) ?_
      refine WL.a (d:=33) rfl rfl rfl (ym z79 rfl rfl zbv.1 zbv.2 yM) ?_
      refine WL.y10 rfl rfl (y12 (vs:=[(.int .i64 ((nth zS z11).fSize)),(.int .i64 ((nth zS z11).fFin))]) (ds:=(zS.set (z2f : Int).toNat (⟨((nth zS z11).fSize),((nth zS z11).fFin)⟩ : Sport_frame)).flatMap y1P) zhn rfl rfl rfl rfl (ocB rfl) .h1 (y2e (enc:=y1P) (sz:=2) (k:=0) (fun _=>rfl) zbv.1 zbv.2 (by decide)) (y2d (enc:=y1P) (l:=zS) (sz:=2) (vs:=[(.int .i64 ((nth zS z11).fSize)),(.int .i64 ((nth zS z11).fFin))]) (y:=(⟨((nth zS z11).fSize),((nth zS z11).fFin)⟩ : Sport_frame)) (k:=0) (fun _=>rfl) zbv.1 zbv.2 rfl (Nat.le_of_ble_eq_true rfl))) ?_
      refine WL.relen .here (u:=(.slice (some ⟨zol,0,none⟩) ((zS.set (z2f : Int).toNat (⟨((nth zS z11).fSize),((nth zS z11).fFin)⟩ : Sport_frame)).length) z2S)) (yR (List.length_set).symm) ?_
      refine WL.repin (i:=0) rfl (u:=(.slice (some ⟨zol,0,none⟩) ((zS.set (z2f : Int).toNat (⟨((nth zS z11).fSize),((nth zS z11).fFin)⟩ : Sport_frame)).length) z2S)) (yR (List.length_set).symm) ?_
      refine WL.nil (WX.a (WC.a (WL.pu rfl (WL.pu rfl (WL.pu rfl (WL.nil (WX.yf ?_)))))))
      exact WX.mid (G:=List Sport_frame × Int) ⟨(zS.set (z2f : Int).toNat (⟨((nth zS z11).fSize),((nth zS z11).fFin)⟩ : Sport_frame)),(i64 (z2f + 1))⟩ ⟨h,((List.length_set).trans zj9)⟩ (.cons rfl (.cons rfl (.cons rfl (.cons rfl .nil)))) (.cons .here .nil)
     ·replace h:=yh h zjb
      refine WC.skip (WX.yf ?_)
      exact WX.mid (G:=List Sport_frame × Int) ⟨zS,z2f⟩ ⟨h,zj9⟩ (.cons rfl (.cons rfl (.cons rfl (.cons rfl .nil)))) (.cons .h1 .nil)
    ·rintro z4L z7L ⟨h,zuV⟩
     replace h:=(zuT z4L z7L).symm.trans h
     refine WC.a (WL.pu rfl (WL.pu rfl (WL.pu rfl (WL.nil ?_))))
     exact WX.round (G:=Nat × List Sport_frame × Int × Int) ⟨zj6,z4L,z7L,(i64 (z11 + 1))⟩ ⟨h,zuV⟩ (Nat.lt_succ_self _) (.cons rfl (.cons rfl (.cons rfl (.cons rfl .nil)))) (.cons .here .nil)
   ·replace h:=yh h zja
    refine WC.exit (WX.yk (WX.yk (WX.yC ?_)))
    exact WX.mid (G:=List Sport_frame × Int) ⟨zS,z2f⟩ ⟨h,zj9⟩ (.cons rfl (.cons rfl .nil)) (.cons .here .nil)
  ·rintro z2h z2i ⟨h,zCO⟩
   replace h:=(zuS z2h z2i).symm.trans h
   refine WC.b ?_
   obtain ⟨zg5,h⟩:=ye h
   refine WC.a (WL.pu rfl (WL.pu rfl ?_))
   refine WL.y8n (dd:=38) rfl rfl z79 rfl rfl .here zg5 ?_
   intro zCP zCQ zuW
   refine WL.y10 rfl rfl (y7u (enc:=y1P) (z0:=((⟨0,0⟩ : Sport_frame) : Sport_frame)) (l:=z2h) z79 zhm rfl zuW zg5 (fun _=>rfl) (by decide) rfl y7Y .here) ?_
   refine WL.relen .here (u:=(.slice z3h ((z2h.take (z2i : Int).toNat ++ List.replicate (z2h.length - (z2i : Int).toNat) ((⟨0,0⟩ : Sport_frame) : Sport_frame)).length) z2S)) (yR (y63 zg5).symm) ?_
   refine WL.repin (i:=0) rfl (u:=(.slice z3h ((z2h.take (z2i : Int).toNat ++ List.replicate (z2h.length - (z2i : Int).toNat) ((⟨0,0⟩ : Sport_frame) : Sport_frame)).length) z2S)) (yR (y63 zg5).symm) ?_
   refine WL.nil (WX.a (WC.b ?_))
   obtain ⟨zuX,h⟩:=ye h
   refine WC.a (WL.pu rfl (WL.pu rfl ?_))
   refine WL.y64 (dd:=41) (enc:=y1P) (ls:=z2h.take (z2i : Int).toNat ++ List.replicate (z2h.length - (z2i : Int).toNat) ((⟨0,0⟩ : Sport_frame) : Sport_frame)) rfl rfl z79 rfl rfl .here (fun _=>rfl) zuX ?_
   intro zuY zuZ
   refine WL.pu rfl (WL.nil (WX.a (WC.ret ?_)))
   obtain rfl:=Option.some.inj h
   refine WX.yj Try.results54 (.tmp rfl .nil) (fun w hw=>?_)
   exact ⟨zuY,zuZ,yL rfl,trivial,hw.sub (.cons .here .nil)⟩
def y30 (z5y : Sport_frame) (zg6 : Int) : Option Bool :=
 some (decide (z5y.fFin > zg6))
set_option maxRecDepth 20000 in
theorem y6a (Z : Zp) (zg7 : Addr) (z5y : Sport_frame) (zg6 : Int) (r : Bool)
  (h : y30 z5y zg6 = some r) (w₀ : World) (hz : PZ [] w₀ Z)
  (zv0 : ZC Z zg7 [(.int .i64 zg6)]) :
  Calls Try.prog 65 #[(.agg #[(.int .i64 z5y.fSize),(.int .i64 z5y.fFin)]),(.pointer (some zg7))] w₀ fun e w'=>e = .returned (.bool r) ∧ Hp [] w₀ w' []:=by
 unfold y30 at h
 refine Calls.yo (vs:=[(.agg #[(.int .i64 z5y.fSize),(.int .i64 z5y.fFin)]),(.pointer (some zg7))]) (pre:=[]) (env:=[(0,(.agg #[(.int .i64 z5y.fSize),(.int .i64 z5y.fFin)])),(1,(.pointer (some zg7)))]) Try.func65 rfl Try.ntmps65 rfl (Hp.nil w₀ _) rfl ?_
 refine WC.b (WC.a ?_)
 refine WL.new (dd:=2) rfl rfl rfl (y25 (cs:=[(.int .i64 z5y.fSize),(.int .i64 z5y.fFin)]) rfl rfl) ?_
 intro zCR _
 refine WL.pu rfl (WL.nil (WX.a (WC.b (WC.a ?_))))
 refine WL.a (d:=4) rfl rfl rfl (ya y7H rfl rfl) ?_
 refine WL.a (d:=5) rfl rfl rfl (yb yl rfl (yd .here rfl)) ?_
 refine WL.a (d:=6) rfl rfl rfl (yb yl rfl (rd_z hz.pv zv0 rfl)) ?_
 refine WL.pu rfl (WL.pu rfl (WL.nil (WX.a (WC.ret ?_))))
 obtain rfl:=Option.some.inj h
 refine WX.yj Try.results65 (.tmp rfl .nil) (fun w hw=>?_)
 exact ⟨yL rfl,hw.sub .nil⟩
def y2q (z1x : Sport_Port) (z5z : Sport_frame → Option Bool) (z7N : Int → Option Int) : Nat → Int → Int → Option Int
 | 0,_,_=>none
 | zjc + 1,z3J,z2o=>if decide (z2o < ((z1x.fFrames.length : Nat) : Int)) then jp1 (fun (z7O : Int)=>y2q z1x z5z z7N zjc z7O (i64 (z2o + 1))) fun zg8=>chk ((0 : Int) ≤ z2o ∧ z2o < ((z1x.fFrames.length : Nat) : Int)) ((z5z (⟨((nth z1x.fFrames z2o).fSize),((nth z1x.fFrames z2o).fFin)⟩ : Sport_frame)).bind fun zjd=>if zjd then zg8 (i64 (z3J + ((nth z1x.fFrames z2o).fSize))) else zg8 z3J) else z7N z3J
theorem y4Z {n : Nat} {z1x : Sport_Port} {z5z : Sport_frame → Option Bool} {z7N : Int → Option Int} {z3J : Int} {z2o : Int} {r : Int} (h : y2q z1x z5z z7N n z3J z2o = some r) : ∃ m,n = m + 1:=by
 cases n with
 | zero=>cases h
 | succ m=>exact ⟨m,rfl⟩
def y4l (z1x : Sport_Port) (z5z : Sport_frame → Option Bool) : Option Int :=
 jp1 (fun (z8H : Int)=>some z8H) fun z7N=>y2q z1x z5z z7N yP 0 0
set_option maxRecDepth 20000 in
theorem y6N (Z : Zp) (zg9 : Addr) (zga : Option Addr) (zgb : Nat) (z6M : FuncId) (z8I : List Value) (z1x : Sport_Port) (z5z : Sport_frame → Option Bool) (r : Int)
  (h : y4l z1x z5z = some r) (w₀ : World) (hz : PZ [] w₀ Z)
  (zv1 : ZS Z 2 (fun r x=>r = y1P x) zga zgb z1x.fFrames)
  (zv2 : ZC Z zg9 [(.int .i64 z1x.fNumbers.fSlow),(.int .i64 z1x.fNumbers.fDelay),(.int .i64 z1x.fNumbers.fStore),(.int .i64 z1x.fNow),(.int .i64 z1x.fLast),(.slice zga z1x.fFrames.length zgb)])
  (zv3 : ∀ args w,(callFunc z6M args).run Try.prog w = .ok (.enter z6M args) w)
  (zv4 : ∀ w : World,PZ [] w Z → ∀ (x0 : Sport_frame) (r : Bool),z5z x0 = some r → Calls Try.prog z6M (([(.agg #[(.int .i64 x0.fSize),(.int .i64 x0.fFin)])] : List Value) ++ z8I).toArray w fun e w'=>e = .returned (.bool r) ∧ Hp [] w w' []) :
  Calls Try.prog 64 #[(.pointer (some zg9)),(.func (.func z6M) #[] (z8I).toArray)] w₀ fun e w'=>e = .returned (.int .i64 r) ∧ Hp [] w₀ w' []:=by
 unfold y4l at h
 refine Calls.yo (vs:=[(.pointer (some zg9)),(.func (.func z6M) #[] (z8I).toArray)]) (pre:=[]) (env:=[(0,(.pointer (some zg9))),(1,(.func (.func z6M) #[] (z8I).toArray))]) Try.func64 rfl Try.ntmps64 rfl (Hp.nil w₀ _) rfl ?_
 refine WC.b (WC.a (WL.pu rfl (WL.nil (WX.a (WC.b (WC.a (WL.pu rfl (WL.nil (WX.a ?_)))))))))
 obtain ⟨z7N,zv5,h⟩:=yO h
 refine WC.y1Q (fun (z8H : Int)=>(z7N z8H = some r)) (fun (z8H : Int)=>[(5,(.int .i64 z8H))]) (fun (z8H : Int)=>[]) ?_ ?_
 ·skip
  refine WC.b (WC.a (WL.pu rfl ?_))
  refine WL.a (d:=9) rfl rfl rfl (yv rfl) ?_
  refine WL.a (d:=10) rfl rfl rfl (ya y4U rfl rfl) ?_
  refine WL.a (d:=11) rfl rfl rfl (yb zhl rfl (y22 hz.pv zv2 rfl)) ?_
  refine WL.a (d:=12) rfl rfl rfl (yz Try.underlying141 rfl) ?_
  refine WL.pu rfl (WL.nil (WX.a (WC.block ?_)))
  refine WC.y2c (fun (zbw : Nat) (z3J : Int) (z2o : Int)=>(y2q z1x z5z z7N zbw z3J z2o = some r)) (fun (zbw : Nat) (z3J : Int) (z2o : Int)=>[(1,(.func (.func z6M) #[] (z8I).toArray)),(5,(.int .i64 z3J)),(11,(.slice zga z1x.fFrames.length zgb)),(12,(.int .i64 ((z1x.fFrames.length : Nat) : Int))),(13,(.int .i64 z2o))]) (fun (zbw : Nat) (z3J : Int) (z2o : Int)=>[]) (fun (zbw : Nat) (z3J : Int) (z2o : Int)=>zbw) ⟨yP,0,0⟩ h (.cons rfl (.cons rfl (.cons rfl (.cons rfl (.cons rfl .nil))))) .nil ?_
  rintro zbw z3J z2o h
  obtain ⟨zjc,rfl⟩:=y4Z h
  rw [y2q] at h
  refine WC.b (WC.a (WL.pu rfl (WL.nil (WX.a (WC.b ?_)))))
  refine WC.cond rfl (fun zje=>?_) (fun zje=>?_)
  ·replace h:=yg h zje
   refine WC.skip (WX.a ?_)
   obtain ⟨zg8,zv6,h⟩:=yO h
   refine WC.y1Q (fun (z7O : Int)=>(zg8 z7O = some r)) (fun (z7O : Int)=>[(1,(.func (.func z6M) #[] (z8I).toArray)),(5,(.int .i64 z7O)),(11,(.slice zga z1x.fFrames.length zgb)),(12,(.int .i64 ((z1x.fFrames.length : Nat) : Int))),(13,(.int .i64 z2o))]) (fun (z7O : Int)=>[]) ?_ ?_
   ·skip
    refine WC.block (WC.b ?_)
    obtain ⟨zv7,h⟩:=ye h
    refine WC.a ?_
    refine WL.znth (dd:=15) rfl rfl (Z:=Z) (Pr:=(fun r x=>r = y1P x)) z79 rfl rfl zv1 zv7 ?_
    rintro zCS zCT zv8 zCU rfl
    refine WL.a (d:=16) rfl rfl rfl (yu zan rfl (y3H hz.pv zv8) rfl) ?_
    refine WL.new (dd:=7) rfl rfl rfl (y2m (cs:=[(.int .i64 0),(.int .i64 0)]) zhm rfl) ?_
    intro zCV _
    refine WL.y10 rfl rfl (y1W zhn rfl rfl rfl .here rfl rfl rfl) ?_
    refine WL.nil (WX.a (WC.b ?_))
    obtain ⟨zjd,zv9,h⟩:=z8 h
    refine WC.a (WL.pu rfl ?_)
    refine WL.a (d:=18) rfl rfl rfl (yu zan rfl (yJ .here) rfl) ?_
    refine WL.b (dd:=19) rfl rfl rfl (y3s (l:=[.tmp 18]) (f:=z6M) (caps:=z8I) zv3 rfl (.cons rfl .nil)) .nil (fun w hw=>zv4 w (hz.now hw) (⟨((nth z1x.fFrames z2o).fSize),((nth z1x.fFrames z2o).fFin)⟩ : Sport_frame) zjd  zv9) ?_
    refine WL.nil (WX.a ?_)
    refine WC.cond rfl (fun zjf=>?_) (fun zjf=>?_)
    ·replace h:=yg h zjf
     refine WC.a (WL.pu rfl ?_)
     refine WL.a (d:=21) rfl rfl rfl (ya fo_146_0 rfl rfl) ?_
     refine WL.a (d:=22) rfl rfl rfl (yb yl rfl (yd .here rfl)) ?_
     refine WL.pu rfl (WL.pu rfl (WL.nil (WX.yf ?_)))
     exact WX.mid (G:=Int) (i64 (z3J + ((nth z1x.fFrames z2o).fSize))) h (.cons rfl (.cons rfl (.cons rfl (.cons rfl (.cons rfl .nil))))) .nil
    ·replace h:=yh h zjf
     refine WC.skip (WX.yf ?_)
     exact WX.mid (G:=Int) z3J h (.cons rfl (.cons rfl (.cons rfl (.cons rfl (.cons rfl .nil))))) .nil
   ·rintro z7O h
    replace h:=(zv6 z7O).symm.trans h
    refine WC.a (WL.pu rfl (WL.pu rfl (WL.nil ?_)))
    exact WX.round (G:=Nat × Int × Int) ⟨zjc,z7O,(i64 (z2o + 1))⟩ h (Nat.lt_succ_self _) (.cons rfl (.cons rfl (.cons rfl (.cons rfl (.cons rfl .nil))))) .nil
  ·replace h:=yh h zje
   refine WC.exit (WX.yk (WX.yk (WX.yC ?_)))
   exact WX.mid (G:=Int) z3J h (.cons rfl .nil) .nil
 ·rintro z8H h
  replace h:=(zv5 z8H).symm.trans h
  refine WC.b (WC.a (WL.pu rfl (WL.pu rfl (WL.nil (WX.a (WC.ret ?_))))))
  obtain rfl:=Option.some.inj h
  refine WX.yj Try.results64 (.tmp rfl .nil) (fun w hw=>?_)
  exact ⟨yL rfl,hw.sub .nil⟩
def y46 (z49 : Sport_Port) (z8J : Int) : Option Int :=
 (y3w z49).bind fun zom=>if zom then some 0 else (y4l z49 (fun (y0 : Sport_frame)=>y30 y0 (max z8J z49.fNow))).bind fun zon=>some zon
set_option maxRecDepth 20000 in
theorem y6z (Z : Zp) (zgc : Addr) (zoo : Option Addr) (zop : Nat) (z49 : Sport_Port) (z8J : Int) (r : Int)
  (h : y46 z49 z8J = some r) (w₀ : World) (hz : PZ [] w₀ Z)
  (zoq : ZS Z 2 (fun r x=>r = y1P x) zoo zop z49.fFrames)
  (zjg : ZC Z zgc [(.int .i64 z49.fNumbers.fSlow),(.int .i64 z49.fNumbers.fDelay),(.int .i64 z49.fNumbers.fStore),(.int .i64 z49.fNow),(.int .i64 z49.fLast),(.slice zoo z49.fFrames.length zop)]) :
  Calls Try.prog 56 #[(.pointer (some zgc)),(.int .i64 z8J)] w₀ fun e w'=>e = .returned (.int .i64 r) ∧ Hp [] w₀ w' []:=by
 unfold y46 at h
 refine Calls.yo (vs:=[(.pointer (some zgc)),(.int .i64 z8J)]) (pre:=[]) (env:=[(0,(.pointer (some zgc))),(1,(.int .i64 z8J))]) Try.func56 rfl Try.ntmps56 rfl (Hp.nil w₀ _) rfl ?_
 refine WC.b (WC.a ?_)
 refine WL.new (dd:=3) rfl rfl rfl (y25 (cs:=[(.int .i64 z8J)]) rfl rfl) ?_
 intro zva _
 refine WL.pu rfl (WL.nil (WX.a (WC.b (WC.b ?_))))
 obtain ⟨zom,zvb,h⟩:=z8 h
 refine WC.a (WL.pu rfl ?_)
 refine WL.b (dd:=6) rfl rfl rfl (zt (l:=[.tmp 5]) Try.call53 (.cons rfl .nil)) .nil (cc hz .nil fun w pz ho=>y4W _ _ _ _ _ _ zvb w pz zoq zjg) ?_
 refine WL.nil (WX.a ?_)
 refine WC.cond rfl (fun zjh=>?_) (fun zjh=>?_)
 ·replace h:=yg h zjh
  refine WC.b (WC.a (WL.pu rfl (WL.nil (WX.a (WC.ret (WX.yn ?_))))))
  obtain rfl:=Option.some.inj h
  refine WX.yj Try.results56 (.tmp rfl .nil) (fun w hw=>?_)
  exact ⟨yL rfl,hw.sub .nil⟩
 ·replace h:=yh h zjh
  refine WC.skip (WX.a (WC.b ?_))
  refine WC.yV (fun i=>[6].contains i) [] rfl ?_
  refine WD.e (i:=0) (d:=7) (by kernel_rfl) rfl z2 z3 rfl rfl rfl (yb yl rfl (yd .here rfl)) ?_
  refine WD.a (i:=1) (d:=8) (by kernel_rfl) rfl z2 z3 rfl rfl rfl (fun _=>q_m rfl) ?_
  refine WD.a (i:=2) (d:=9) (by kernel_rfl) rfl z2 z3 rfl rfl rfl (fun _=>yv rfl) ?_
  refine WD.a (i:=3) (d:=10) (by kernel_rfl) rfl z2 z3 rfl rfl rfl (fun _=>ya y6w rfl rfl) ?_
  refine WD.e (i:=4) (d:=11) (by kernel_rfl) rfl z2 z3 rfl rfl rfl (yb yl rfl (y22 hz.pv zjg rfl)) ?_
  refine WD.a (i:=5) (d:=12) (by kernel_rfl) rfl z2 z3 rfl rfl rfl (fun _=>q_max rfl rfl rfl) ?_
  refine WD.y2J (i:=6) rfl (by kernel_rfl) rfl rfl rfl (by kernel_rfl) (y1W y5q rfl rfl rfl .here rfl rfl rfl) ?_
  refine WD.done (by kernel_rfl) ?_
  refine WX.a (WC.b ?_)
  obtain ⟨zon,zvc,h⟩:=z8 h
  refine WC.a (WL.pu rfl ?_)
  refine WL.a (d:=14) rfl rfl rfl (y5D (Eos.caps (l:=[.tmp 3]) (.cons rfl .nil))) ?_
  refine WL.b (dd:=15) rfl rfl rfl (zt (l:=[.tmp 13,.tmp 14]) Try.call64 (.cons rfl (.cons rfl .nil))) .nil (ccl hz .nil (.cons .here .nil) fun w pz ho la=>y6N _ _ _ _ (z6M:=65) (z8I:=[(.pointer (some ⟨zva,0,none⟩))]) _ (z5z:=(fun (y0 : Sport_frame)=>y30 y0 (max z8J z49.fNow))) _ zvc w pz (zoq.mono (Zle.left _ _)) (zjg.mono (Zle.left _ _)) Try.call65 (fun w' hz' y0  r  hr=>y6a _ _ _ _ _ hr w' hz' ((la _ (.head _) _).stb))) ?_
  refine WL.pu rfl (WL.nil (WX.a (WC.ret ?_)))
  obtain rfl:=Option.some.inj h
  refine WX.yj Try.results56 (.tmp rfl .nil) (fun w hw=>?_)
  exact ⟨yL rfl,hw.sub .nil⟩
def y4m (zj : Sport_Port) (zZ : Int) (zI : Int) : Option (Int × Int × Sport_Port) :=
 (y3w zj).bind fun z8K=>if z8K then some (0,1,zj) else if (((decide (zI < 1)) || (decide (zI > 72))) || (decide (zZ < zj.fNow))) || (decide (zZ > 1073741824)) then some (0,2,zj) else (y1B zj.fFrames (fun (y0 : Sport_frame)=>y3b y0 zZ)).bind fun z6N=>(y46 (⟨zj.fNumbers,zZ,zj.fLast,z6N⟩ : Sport_Port) zZ).bind fun zor=>if decide ((i64 (zor + zI)) > zj.fNumbers.fStore) then some (0,4,(⟨zj.fNumbers,zZ,zj.fLast,z6N⟩ : Sport_Port)) else chk ((((z6N ++ ([(⟨zI,i64 ((max (i64 (zZ + zj.fNumbers.fDelay)) zj.fLast) + (i64 (zI * zj.fNumbers.fSlow)))⟩ : Sport_frame)] : List Sport_frame)).length : Nat) : Int) * 16 ≤ 140737488355328 ∧ (((z6N ++ ([(⟨zI,i64 ((max (i64 (zZ + zj.fNumbers.fDelay)) zj.fLast) + (i64 (zI * zj.fNumbers.fSlow)))⟩ : Sport_frame)] : List Sport_frame)).length : Nat) : Int) ≤ 4611686018427387904) (some ((i64 ((max (i64 (zZ + zj.fNumbers.fDelay)) zj.fLast) + (i64 (zI * zj.fNumbers.fSlow)))),0,(⟨zj.fNumbers,zZ,i64 ((max (i64 (zZ + zj.fNumbers.fDelay)) zj.fLast) + (i64 (zI * zj.fNumbers.fSlow))),z6N ++ ([(⟨zI,i64 ((max (i64 (zZ + zj.fNumbers.fDelay)) zj.fLast) + (i64 (zI * zj.fNumbers.fSlow)))⟩ : Sport_frame)] : List Sport_frame)⟩ : Sport_Port)))
set_option maxRecDepth 20000 in
theorem y6O (Z : Zp) (z3K : Nat) (z4a : Option Addr) (z4b : Nat) (zj : Sport_Port) (zZ : Int) (zI : Int) (r : Int × Int × Sport_Port)
  (h : y4m zj zZ zI = some r) (w₀ : World) (hz : PZ (fps [stb z3K 143 [(.int .i64 zj.fNumbers.fSlow),(.int .i64 zj.fNumbers.fDelay),(.int .i64 zj.fNumbers.fStore),(.int .i64 zj.fNow),(.int .i64 zj.fLast),(.slice z4a zj.fFrames.length z4b)],row (.slice z4a zj.fFrames.length z4b) 146 2 (zj.fFrames.flatMap y1P)]) w₀ Z)
  (hown : Hp (fps [stb z3K 143 [(.int .i64 zj.fNumbers.fSlow),(.int .i64 zj.fNumbers.fDelay),(.int .i64 zj.fNumbers.fStore),(.int .i64 zj.fNow),(.int .i64 zj.fLast),(.slice z4a zj.fFrames.length z4b)],row (.slice z4a zj.fFrames.length z4b) 146 2 (zj.fFrames.flatMap y1P)]) w₀ w₀ [stb z3K 143 [(.int .i64 zj.fNumbers.fSlow),(.int .i64 zj.fNumbers.fDelay),(.int .i64 zj.fNumbers.fStore),(.int .i64 zj.fNow),(.int .i64 zj.fLast),(.slice z4a zj.fFrames.length z4b)],row (.slice z4a zj.fFrames.length z4b) 146 2 (zj.fFrames.flatMap y1P)]) :
  Calls Try.prog 41 #[(.pointer (some ⟨z3K,0,none⟩)),(.int .i64 zZ),(.int .i64 zI)] w₀ fun e w'=>∃ zos : Option Addr,∃ zot : Nat,e = .returned (.tuple #[(.int .i64 r.1),(.int .i64 r.2.1)]) ∧ True ∧ Hp (fps [stb z3K 143 [(.int .i64 zj.fNumbers.fSlow),(.int .i64 zj.fNumbers.fDelay),(.int .i64 zj.fNumbers.fStore),(.int .i64 zj.fNow),(.int .i64 zj.fLast),(.slice z4a zj.fFrames.length z4b)],row (.slice z4a zj.fFrames.length z4b) 146 2 (zj.fFrames.flatMap y1P)]) w₀ w' [stb z3K 143 [(.int .i64 r.2.2.fNumbers.fSlow),(.int .i64 r.2.2.fNumbers.fDelay),(.int .i64 r.2.2.fNumbers.fStore),(.int .i64 r.2.2.fNow),(.int .i64 r.2.2.fLast),(.slice zos r.2.2.fFrames.length zot)],row (.slice zos r.2.2.fFrames.length zot) 146 2 (r.2.2.fFrames.flatMap y1P)]:=by
 unfold y4m at h
 refine Calls.yo (vs:=[(.pointer (some ⟨z3K,0,none⟩)),(.int .i64 zZ),(.int .i64 zI)]) (pre:=[stb z3K 143 [(.int .i64 zj.fNumbers.fSlow),(.int .i64 zj.fNumbers.fDelay),(.int .i64 zj.fNumbers.fStore),(.int .i64 zj.fNow),(.int .i64 zj.fLast),(.slice z4a zj.fFrames.length z4b)],row (.slice z4a zj.fFrames.length z4b) 146 2 (zj.fFrames.flatMap y1P)]) (env:=[(0,(.pointer (some ⟨z3K,0,none⟩))),(1,(.int .i64 zZ)),(2,(.int .i64 zI))]) Try.func41 rfl Try.ntmps41 rfl (hown) rfl ?_
 refine WC.b (WC.a ?_)
 refine WL.new (dd:=4) rfl rfl rfl (y25 (cs:=[(.int .i64 zZ)]) rfl rfl) ?_
 intro zgd _
 refine WL.pu rfl (WL.pu rfl (WL.nil (WX.a (WC.b (WC.block (WC.b ?_))))))
 obtain ⟨z8K,zvd,h⟩:=z8 h
 refine WC.a (WL.pu rfl ?_)
 refine WL.b (dd:=10) rfl rfl rfl (zt (l:=[.tmp 9]) Try.call53 (.cons rfl .nil)) .nil (ccl hz .nil (.cons .h1 (.cons .h1 .nil)) fun w pz ho la=>y4W _ _ _ _ _ _ zvd w pz (ZA.row (la _ (.tail _ (.head _)) _) (RR.yE (enc:=y1P) (fun _=>rfl) _) ⟨w,pz.1⟩) ((la _ (.head _) _).stb)) ?_
 refine WL.pu rfl (WL.nil (WX.a ?_))
 refine WC.cond rfl (fun zji=>?_) (fun zji=>?_)
 ·replace h:=yg h zji
  refine WC.b (WC.a (WL.pu rfl (WL.pu rfl (WL.nil (WX.a (WC.ret (WX.yG (WX.yn ?_))))))))
  obtain rfl:=Option.some.inj h
  refine WX.yj Try.results41 (.tmp rfl (.tmp rfl .nil)) (fun w hw=>?_)
  exact ⟨z4a,z4b,ret2 rfl rfl,trivial,hw.sub (.cons .h1 (.cons .h1 .nil))⟩
 ·replace h:=yh h zji
  refine WC.b ?_
  refine WC.yV (fun i=>[].contains i) [] rfl ?_
  refine WD.a (i:=0) (d:=12) (by kernel_rfl) rfl z2 z3 rfl rfl rfl (fun _=>q_m rfl) ?_
  refine WD.a (i:=1) (d:=13) (by kernel_rfl) rfl z2 z3 rfl rfl rfl (fun _=>y39 rfl rfl) ?_
  refine WD.a (i:=2) (d:=14) (by kernel_rfl) rfl z2 z3 rfl rfl rfl (fun _=>q_m rfl) ?_
  refine WD.mid (fuel':=13) [(0,(.pointer (some ⟨z3K,0,none⟩))),(1,(.int .i64 zZ)),(2,(.int .i64 zI)),(4,(.pointer (some ⟨zgd,0,none⟩))),(6,(.int .i64 0)),(7,(.int .i64 0)),(9,(.pointer (some ⟨z3K,0,none⟩))),(10,(.bool z8K)),(8,(.bool z8K)),(12,(.int .i64 zI)),(13,(.bool (decide (zI < 1)))),(14,(.bool (decide (zI < 1)))),(17,(.bool ((decide (zI < 1)) || (decide (zI > 72)))))] (y1z 19 [5,4,3,2,1,0]) ?_ (fun zou=>?_)
  rotate_left
  ·rcases Bool.eq_false_or_eq_true (decide (zI < 1)) with hb' | hb'
   ·have zjj:=hb'; clear hb'
    refine WD.pin (i:=14) rfl zjj ?_
    refine WD.b (i:=3) (d:=15) (by kernel_rfl) rfl z2 z3 rfl rfl rfl ?_
    refine WD.b (i:=4) (d:=16) (by kernel_rfl) rfl z2 z3 rfl rfl rfl ?_
    refine WD.a (i:=5) (d:=17) (by kernel_rfl) rfl z2 z3 rfl rfl rfl (fun _=>y1s rfl rfl) ?_
    refine WD.yN (.cons .here (.cons .here (.cons .here .nil))) ?_ zou
    exact (.cons rfl (.cons rfl (.cons rfl (.cons rfl (.cons rfl (.cons rfl (.cons rfl (.cons rfl (.cons rfl (.cons rfl (.cons rfl (.cons (zi (Eq.symm zjj)) (.cons (zi (y20 zjj)) .nil)))))))))))))
   ·have zjk:=hb'; clear hb'
    refine WD.pin (i:=14) rfl zjk ?_
    refine WD.a (i:=3) (d:=15) (by kernel_rfl) rfl z2 z3 rfl rfl rfl (fun _=>q_m rfl) ?_
    refine WD.a (i:=4) (d:=16) (by kernel_rfl) rfl z2 z3 rfl rfl rfl (fun _=>y3t rfl rfl) ?_
    refine WD.a (i:=5) (d:=17) (by kernel_rfl) rfl z2 z3 rfl rfl rfl (fun _=>y1t rfl rfl) ?_
    refine WD.yN (.cons .here (.cons .here (.cons .here .nil))) ?_ zou
    exact (.cons rfl (.cons rfl (.cons rfl (.cons rfl (.cons rfl (.cons rfl (.cons rfl (.cons rfl (.cons rfl (.cons rfl (.cons rfl (.cons (zi (Eq.symm zjk)) (.cons (zi (y21 zjk)) .nil)))))))))))))
  refine WD.a (i:=6) (d:=18) (by kernel_rfl) rfl z2 z3 rfl rfl rfl (fun _=>q_m rfl) ?_
  refine WD.mid (fuel':=5) [(0,(.pointer (some ⟨z3K,0,none⟩))),(1,(.int .i64 zZ)),(2,(.int .i64 zI)),(4,(.pointer (some ⟨zgd,0,none⟩))),(6,(.int .i64 0)),(7,(.int .i64 0)),(9,(.pointer (some ⟨z3K,0,none⟩))),(10,(.bool z8K)),(8,(.bool z8K)),(12,(.int .i64 zI)),(13,(.bool (decide (zI < 1)))),(14,(.bool (decide (zI < 1)))),(17,(.bool ((decide (zI < 1)) || (decide (zI > 72))))),(18,(.bool ((decide (zI < 1)) || (decide (zI > 72))))),(25,(.bool (((decide (zI < 1)) || (decide (zI > 72))) || (decide (zZ < zj.fNow)))))] (y1z 19 [13,12,11,10,9,8,7,6,5,4,3,2,1,0]) ?_ (fun zov=>?_)
  rotate_left
  ·rcases Bool.eq_false_or_eq_true ((decide (zI < 1)) || (decide (zI > 72))) with hb' | hb'
   ·have zjl:=hb'; clear hb'
    refine WD.pin (i:=18) rfl zjl ?_
    refine WD.b (i:=7) (d:=19) (by kernel_rfl) rfl z2 z3 rfl rfl rfl ?_
    refine WD.b (i:=8) (d:=20) (by kernel_rfl) rfl z2 z3 rfl rfl rfl ?_
    refine WD.b (i:=9) (d:=21) (by kernel_rfl) rfl z2 z3 rfl rfl rfl ?_
    refine WD.b (i:=10) (d:=22) (by kernel_rfl) rfl z2 z3 rfl rfl rfl ?_
    refine WD.b (i:=11) (d:=23) (by kernel_rfl) rfl z2 z3 rfl rfl rfl ?_
    refine WD.b (i:=12) (d:=24) (by kernel_rfl) rfl z2 z3 rfl rfl rfl ?_
    refine WD.a (i:=13) (d:=25) (by kernel_rfl) rfl z2 z3 rfl rfl rfl (fun _=>y1s rfl rfl) ?_
    refine WD.yN (.cons .here (.cons .here (.cons .here .nil))) ?_ zov
    exact (.cons rfl (.cons rfl (.cons rfl (.cons rfl (.cons rfl (.cons rfl (.cons rfl (.cons rfl (.cons rfl (.cons rfl (.cons rfl (.cons rfl (.cons rfl (.cons (zi (Eq.symm zjl)) (.cons (zi (y20 zjl)) .nil)))))))))))))))
   ·have zjm:=hb'; clear hb'
    refine WD.pin (i:=18) rfl zjm ?_
    refine WD.e (i:=7) (d:=19) (by kernel_rfl) rfl z2 z3 rfl rfl rfl (yb yl rfl (yd .here rfl)) ?_
    refine WD.a (i:=8) (d:=20) (by kernel_rfl) rfl z2 z3 rfl rfl rfl (fun _=>q_m rfl) ?_
    refine WD.a (i:=9) (d:=21) (by kernel_rfl) rfl z2 z3 rfl rfl rfl (fun _=>yv rfl) ?_
    refine WD.a (i:=10) (d:=22) (by kernel_rfl) rfl z2 z3 rfl rfl rfl (fun _=>ya y6w rfl rfl) ?_
    refine WD.e (i:=11) (d:=23) (by kernel_rfl) rfl z2 z3 rfl rfl rfl (yb yl rfl (yd .h1 rfl)) ?_
    refine WD.a (i:=12) (d:=24) (by kernel_rfl) rfl z2 z3 rfl rfl rfl (fun _=>y39 rfl rfl) ?_
    refine WD.a (i:=13) (d:=25) (by kernel_rfl) rfl z2 z3 rfl rfl rfl (fun _=>y1t rfl rfl) ?_
    refine WD.yN (.cons .here (.cons .here (.cons .here .nil))) ?_ zov
    exact (.cons rfl (.cons rfl (.cons rfl (.cons rfl (.cons rfl (.cons rfl (.cons rfl (.cons rfl (.cons rfl (.cons rfl (.cons rfl (.cons rfl (.cons rfl (.cons (zi (Eq.symm zjm)) (.cons (zi (y21 zjm)) .nil)))))))))))))))
  refine WD.a (i:=14) (d:=26) (by kernel_rfl) rfl z2 z3 rfl rfl rfl (fun _=>q_m rfl) ?_
  refine WD.mid (fuel':=1) [(0,(.pointer (some ⟨z3K,0,none⟩))),(1,(.int .i64 zZ)),(2,(.int .i64 zI)),(4,(.pointer (some ⟨zgd,0,none⟩))),(6,(.int .i64 0)),(7,(.int .i64 0)),(9,(.pointer (some ⟨z3K,0,none⟩))),(10,(.bool z8K)),(8,(.bool z8K)),(12,(.int .i64 zI)),(13,(.bool (decide (zI < 1)))),(14,(.bool (decide (zI < 1)))),(17,(.bool ((decide (zI < 1)) || (decide (zI > 72))))),(18,(.bool ((decide (zI < 1)) || (decide (zI > 72))))),(25,(.bool (((decide (zI < 1)) || (decide (zI > 72))) || (decide (zZ < zj.fNow))))),(26,(.bool (((decide (zI < 1)) || (decide (zI > 72))) || (decide (zZ < zj.fNow))))),(29,(.bool ((((decide (zI < 1)) || (decide (zI > 72))) || (decide (zZ < zj.fNow))) || (decide (zZ > 1073741824)))))] (y1z 19 [17,16,15,14,13,12,11,10,9,8,7,6,5,4,3,2,1,0]) ?_ (fun zow=>?_)
  rotate_left
  ·rcases Bool.eq_false_or_eq_true (((decide (zI < 1)) || (decide (zI > 72))) || (decide (zZ < zj.fNow))) with hb' | hb'
   ·have zjn:=hb'; clear hb'
    refine WD.pin (i:=26) rfl zjn ?_
    refine WD.b (i:=15) (d:=27) (by kernel_rfl) rfl z2 z3 rfl rfl rfl ?_
    refine WD.b (i:=16) (d:=28) (by kernel_rfl) rfl z2 z3 rfl rfl rfl ?_
    refine WD.a (i:=17) (d:=29) (by kernel_rfl) rfl z2 z3 rfl rfl rfl (fun _=>y1s rfl rfl) ?_
    refine WD.yN (.cons .here (.cons .here (.cons .here .nil))) ?_ zow
    exact (.cons rfl (.cons rfl (.cons rfl (.cons rfl (.cons rfl (.cons rfl (.cons rfl (.cons rfl (.cons rfl (.cons rfl (.cons rfl (.cons rfl (.cons rfl (.cons rfl (.cons rfl (.cons (zi (Eq.symm zjn)) (.cons (zi (y20 zjn)) .nil)))))))))))))))))
   ·have zjo:=hb'; clear hb'
    refine WD.pin (i:=26) rfl zjo ?_
    refine WD.e (i:=15) (d:=27) (by kernel_rfl) rfl z2 z3 rfl rfl rfl (yb yl rfl (yd .here rfl)) ?_
    refine WD.a (i:=16) (d:=28) (by kernel_rfl) rfl z2 z3 rfl rfl rfl (fun _=>y3t rfl rfl) ?_
    refine WD.a (i:=17) (d:=29) (by kernel_rfl) rfl z2 z3 rfl rfl rfl (fun _=>y1t rfl rfl) ?_
    refine WD.yN (.cons .here (.cons .here (.cons .here .nil))) ?_ zow
    exact (.cons rfl (.cons rfl (.cons rfl (.cons rfl (.cons rfl (.cons rfl (.cons rfl (.cons rfl (.cons rfl (.cons rfl (.cons rfl (.cons rfl (.cons rfl (.cons rfl (.cons rfl (.cons (zi (Eq.symm zjo)) (.cons (zi (y21 zjo)) .nil)))))))))))))))))
  refine WD.a (i:=18) (d:=11) (by kernel_rfl) rfl z2 z3 rfl rfl rfl (fun _=>q_z rfl) ?_
  refine WD.done (by kernel_rfl) ?_
  refine WX.a ?_
  refine WC.cond rfl (fun zjp=>?_) (fun zjp=>?_)
  ·replace h:=yg h zjp
   refine WC.b (WC.a (WL.pu rfl (WL.pu rfl (WL.nil (WX.a (WC.ret (WX.yG (WX.yn ?_))))))))
   obtain rfl:=Option.some.inj h
   refine WX.yj Try.results41 (.tmp rfl (.tmp rfl .nil)) (fun w hw=>?_)
   exact ⟨z4a,z4b,ret2 rfl rfl,trivial,hw.sub (.cons .h1 (.cons .h1 .nil))⟩
  ·replace h:=yh h zjp
   refine WC.skip (WX.yf (WX.a (WC.b (WC.a (WL.pu rfl ?_)))))
   refine WL.a (d:=31) rfl rfl rfl (yb yl rfl (yd .here rfl)) ?_
   refine WL.a (d:=32) rfl rfl rfl (yv rfl) ?_
   refine WL.a (d:=33) rfl rfl rfl (ya y6w rfl rfl) ?_
   refine WL.y10 rfl rfl (y3Q (ds:=[(.int .i64 zj.fNumbers.fSlow),(.int .i64 zj.fNumbers.fDelay),(.int .i64 zj.fNumbers.fStore),(.int .i64 zZ),(.int .i64 zj.fLast),(.slice z4a zj.fFrames.length z4b)]) y5q rfl rfl rfl rfl rfl .h1 rfl rfl) ?_
   refine WL.nil (WX.a (WC.b ?_))
   obtain ⟨z6N,zve,h⟩:=z8 h
   refine WC.a (WL.pu rfl (WL.pu rfl ?_))
   refine WL.a (d:=36) rfl rfl rfl (yv rfl) ?_
   refine WL.a (d:=37) rfl rfl rfl (ya y4U rfl rfl) ?_
   refine WL.a (d:=38) rfl rfl rfl (yb zhl rfl (yd .here rfl)) ?_
   refine WL.a (d:=39) rfl rfl rfl (y5D (Eos.caps (l:=[.tmp 4]) (.cons rfl .nil))) ?_
   refine WL.y4C (dd:=40) rfl rfl rfl (zt (l:=[.tmp 38,.tmp 39]) Try.call54 (.cons rfl (.cons rfl .nil))) (.cons .h2 .nil) (ccl hz (.cons .h2 .nil) (.cons .h1 .nil) fun w pz ho la=>y3m _ _ _ (z5x:=55) (z7M:=[(.pointer (some ⟨zgd,0,none⟩))]) _ (z48:=(fun (y0 : Sport_frame)=>y3b y0 zZ)) _ zve w pz Try.call55 (fun w' hz' y0  r  hr=>y6l _ _ _ _ _ hr w' hz' ((la _ (.head _) _).stb)) ho) ?_
   rintro zjq zjr _
   refine WL.a (d:=41) rfl rfl rfl (yv rfl) ?_
   refine WL.a (d:=42) rfl rfl rfl (ya y4U rfl rfl) ?_
   refine WL.y10 rfl rfl (y3Q (ds:=[(.int .i64 zj.fNumbers.fSlow),(.int .i64 zj.fNumbers.fDelay),(.int .i64 zj.fNumbers.fStore),(.int .i64 zZ),(.int .i64 zj.fLast),(.slice zjq z6N.length zjr)]) zlG rfl rfl rfl rfl rfl .h1 rfl rfl) ?_
   refine WL.nil (WX.a (WC.b (WC.b ?_)))
   obtain ⟨zor,zvf,h⟩:=z8 h
   refine WC.yV (fun i=>[].contains i) [] rfl ?_
   refine WD.a (i:=0) (d:=43) (by kernel_rfl) rfl z2 z3 rfl rfl rfl (fun _=>q_m rfl) ?_
   refine WD.e (i:=1) (d:=44) (by kernel_rfl) rfl z2 z3 rfl rfl rfl (yb yl rfl (yd .h2 rfl)) ?_
   refine WD.c (i:=2) (d:=45) (by kernel_rfl) rfl z2 z3 rfl rfl rfl (zt (l:=[.tmp 43,.tmp 44]) Try.call56 (.cons rfl (.cons rfl .nil))) (ccl hz .nil (.cons .here (.cons .here .nil)) fun w pz ho la=>y6z _ _ _ _ _ _ _ zvf w pz (ZA.row (la _ (.tail _ (.head _)) _) (RR.yE (enc:=y1P) (fun _=>rfl) _) ⟨w,pz.1⟩) ((la _ (.head _) _).stb)) ?_
   refine WD.a (i:=3) (d:=46) (by kernel_rfl) rfl z2 z3 rfl rfl rfl (fun _=>q_m rfl) ?_
   refine WD.a (i:=4) (d:=47) (by kernel_rfl) rfl z2 z3 rfl rfl rfl (fun _=>y4x rfl rfl rfl) ?_
   refine WD.a (i:=5) (d:=48) (by kernel_rfl) rfl z2 z3 rfl rfl rfl (fun _=>q_m rfl) ?_
   refine WD.a (i:=6) (d:=49) (by kernel_rfl) rfl z2 z3 rfl rfl rfl (fun _=>yv rfl) ?_
   refine WD.a (i:=7) (d:=50) (by kernel_rfl) rfl z2 z3 rfl rfl rfl (fun _=>ya y5K rfl rfl) ?_
   refine WD.a (i:=8) (d:=51) (by kernel_rfl) rfl z2 z3 rfl rfl rfl (fun _=>ya fo_140_2 rfl rfl) ?_
   refine WD.e (i:=9) (d:=52) (by kernel_rfl) rfl z2 z3 rfl rfl rfl (yb yl rfl (yd .here rfl)) ?_
   refine WD.a (i:=10) (d:=53) (by kernel_rfl) rfl z2 z3 rfl rfl rfl (fun _=>y3t rfl rfl) ?_
   refine WD.done (by kernel_rfl) ?_
   refine WX.a ?_
   refine WC.cond rfl (fun zjs=>?_) (fun zjs=>?_)
   ·replace h:=yg h zjs
    refine WC.b (WC.a (WL.pu rfl (WL.pu rfl (WL.nil (WX.a (WC.ret (WX.yn ?_)))))))
    obtain rfl:=Option.some.inj h
    refine WX.yj Try.results41 (.tmp rfl (.tmp rfl .nil)) (fun w hw=>?_)
    exact ⟨zjq,zjr,ret2 rfl rfl,trivial,hw.sub (.cons .here (.cons .here .nil))⟩
   ·replace h:=yh h zjs
    refine WC.skip (WX.a (WC.b ?_))
    refine WC.yV (fun i=>[23].contains i) [] rfl ?_
    refine WD.a (i:=0) (d:=54) (by kernel_rfl) rfl z2 z3 rfl rfl rfl (fun _=>q_m rfl) ?_
    refine WD.e (i:=1) (d:=55) (by kernel_rfl) rfl z2 z3 rfl rfl rfl (yb yl rfl (yd .h2 rfl)) ?_
    refine WD.a (i:=2) (d:=56) (by kernel_rfl) rfl z2 z3 rfl rfl rfl (fun _=>q_m rfl) ?_
    refine WD.a (i:=3) (d:=57) (by kernel_rfl) rfl z2 z3 rfl rfl rfl (fun _=>yv rfl) ?_
    refine WD.a (i:=4) (d:=58) (by kernel_rfl) rfl z2 z3 rfl rfl rfl (fun _=>ya y5K rfl rfl) ?_
    refine WD.a (i:=5) (d:=59) (by kernel_rfl) rfl z2 z3 rfl rfl rfl (fun _=>ya fo_140_1 rfl rfl) ?_
    refine WD.e (i:=6) (d:=60) (by kernel_rfl) rfl z2 z3 rfl rfl rfl (yb yl rfl (yd .here rfl)) ?_
    refine WD.a (i:=7) (d:=61) (by kernel_rfl) rfl z2 z3 rfl rfl rfl (fun _=>y4x rfl rfl rfl) ?_
    refine WD.a (i:=8) (d:=62) (by kernel_rfl) rfl z2 z3 rfl rfl rfl (fun _=>q_m rfl) ?_
    refine WD.a (i:=9) (d:=63) (by kernel_rfl) rfl z2 z3 rfl rfl rfl (fun _=>yv rfl) ?_
    refine WD.a (i:=10) (d:=64) (by kernel_rfl) rfl z2 z3 rfl rfl rfl (fun _=>ya y5L rfl rfl) ?_
    refine WD.e (i:=11) (d:=65) (by kernel_rfl) rfl z2 z3 rfl rfl rfl (yb yl rfl (yd .here rfl)) ?_
    refine WD.a (i:=12) (d:=66) (by kernel_rfl) rfl z2 z3 rfl rfl rfl (fun _=>q_max rfl rfl rfl) ?_
    refine WD.a (i:=13) (d:=67) (by kernel_rfl) rfl z2 z3 rfl rfl rfl (fun _=>q_m rfl) ?_
    refine WD.a (i:=14) (d:=68) (by kernel_rfl) rfl z2 z3 rfl rfl rfl (fun _=>q_m rfl) ?_
    refine WD.a (i:=15) (d:=69) (by kernel_rfl) rfl z2 z3 rfl rfl rfl (fun _=>yv rfl) ?_
    refine WD.a (i:=16) (d:=70) (by kernel_rfl) rfl z2 z3 rfl rfl rfl (fun _=>ya y5K rfl rfl) ?_
    refine WD.a (i:=17) (d:=71) (by kernel_rfl) rfl z2 z3 rfl rfl rfl (fun _=>ya y7G rfl rfl) ?_
    refine WD.e (i:=18) (d:=72) (by kernel_rfl) rfl z2 z3 rfl rfl rfl (yb yl rfl (yd .here rfl)) ?_
    refine WD.a (i:=19) (d:=73) (by kernel_rfl) rfl z2 z3 rfl rfl rfl (fun _=>q_mul rfl rfl rfl) ?_
    refine WD.a (i:=20) (d:=74) (by kernel_rfl) rfl z2 z3 rfl rfl rfl (fun _=>y4x rfl rfl rfl) ?_
    refine WD.a (i:=21) (d:=75) (by kernel_rfl) rfl z2 z3 rfl rfl rfl (fun _=>yv rfl) ?_
    refine WD.a (i:=22) (d:=76) (by kernel_rfl) rfl z2 z3 rfl rfl rfl (fun _=>ya y5L rfl rfl) ?_
    refine WD.y2J (i:=23) rfl (by kernel_rfl) rfl rfl rfl (by kernel_rfl) (y3Q (ds:=[(.int .i64 zj.fNumbers.fSlow),(.int .i64 zj.fNumbers.fDelay),(.int .i64 zj.fNumbers.fStore),(.int .i64 zZ),(.int .i64 (i64 ((max (i64 (zZ + zj.fNumbers.fDelay)) zj.fLast) + (i64 (zI * zj.fNumbers.fSlow))))),(.slice zjq z6N.length zjr)]) y5q rfl rfl rfl rfl rfl .here rfl rfl) ?_
    refine WD.done (by kernel_rfl) ?_
    refine WX.a (WC.b ?_)
    obtain ⟨zvg,h⟩:=ye h
    refine WC.yV (fun i=>[12,15].contains i) [] rfl ?_
    refine WD.a (i:=0) (d:=77) (by kernel_rfl) rfl z2 z3 rfl rfl rfl (fun _=>q_m rfl) ?_
    refine WD.a (i:=1) (d:=78) (by kernel_rfl) rfl z2 z3 rfl rfl rfl (fun _=>q_m rfl) ?_
    refine WD.a (i:=2) (d:=79) (by kernel_rfl) rfl z2 z3 rfl rfl rfl (fun _=>yv rfl) ?_
    refine WD.a (i:=3) (d:=80) (by kernel_rfl) rfl z2 z3 rfl rfl rfl (fun _=>ya y4U rfl rfl) ?_
    refine WD.e (i:=4) (d:=81) (by kernel_rfl) rfl z2 z3 rfl rfl rfl (yb zhl rfl (yd .here rfl)) ?_
    refine WD.a (i:=5) (d:=82) (by kernel_rfl) rfl z2 z3 rfl rfl rfl (fun _=>q_m rfl) ?_
    refine WD.a (i:=6) (d:=83) (by kernel_rfl) rfl z2 z3 rfl rfl rfl (fun _=>q_m rfl) ?_
    refine WD.a (i:=7) (d:=84) (by kernel_rfl) rfl z2 z3 rfl rfl rfl (fun _=>yv rfl) ?_
    refine WD.a (i:=8) (d:=85) (by kernel_rfl) rfl z2 z3 rfl rfl rfl (fun _=>ya y5L rfl rfl) ?_
    refine WD.e (i:=9) (d:=86) (by kernel_rfl) rfl z2 z3 rfl rfl rfl (yb yl rfl (yd .here rfl)) ?_
    refine WD.a (i:=10) (d:=87) (by kernel_rfl) rfl z2 z3 rfl rfl rfl (fun _=>y1l (v:=(.agg #[(.int .i64 zI),(.int .i64 (i64 ((max (i64 (zZ + zj.fNumbers.fDelay)) zj.fLast) + (i64 (zI * zj.fNumbers.fSlow)))))])) (Eos.parts (l:=[.tmp 82,.tmp 86]) (.cons rfl (.cons rfl .nil)) [0,1]) (fun _=>by kernel_rfl)) ?_
    refine WD.new (i:=11) (dd:=88) rfl (by kernel_rfl) rfl rfl rfl (yF (cs:=([(⟨zI,i64 ((max (i64 (zZ + zj.fNumbers.fDelay)) zj.fLast) + (i64 (zI * zj.fNumbers.fSlow)))⟩ : Sport_frame)] : List Sport_frame).flatMap y1P) z79 (Eos.parts (l:=[.tmp 87]) (.cons rfl .nil) [0]) (fun _=>by kernel_rfl) rfl (by unfold maxLen; omega)) (fun h'=>absurd h' (by decide)) ?_
    intro zCW _
    refine WD.old (i:=12) (dd:=89) rfl (by kernel_rfl) rfl rfl rfl rfl (fun _=>(Sin.of .nil)) (y2B (enc:=y1P) (l1:=z6N) (l2:=([(⟨zI,i64 ((max (i64 (zZ + zj.fNumbers.fDelay)) zj.fLast) + (i64 (zI * zj.fNumbers.fSlow)))⟩ : Sport_frame)] : List Sport_frame)) z79 rfl rfl .h2 (fun _=>rfl) rfl rfl (y3O .here) (y3c y7Y _) zvg) ?_
    rintro ⟨zox,zoy⟩ _
    refine WD.a (i:=13) (d:=90) (by kernel_rfl) rfl z2 z3 rfl rfl rfl (fun _=>yv rfl) ?_
    refine WD.a (i:=14) (d:=91) (by kernel_rfl) rfl z2 z3 rfl rfl rfl (fun _=>ya y4U rfl rfl) ?_
    refine WD.y2J (i:=15) rfl (by kernel_rfl) rfl rfl rfl (by kernel_rfl) (y3Q (ds:=[(.int .i64 zj.fNumbers.fSlow),(.int .i64 zj.fNumbers.fDelay),(.int .i64 zj.fNumbers.fStore),(.int .i64 zZ),(.int .i64 (i64 ((max (i64 (zZ + zj.fNumbers.fDelay)) zj.fLast) + (i64 (zI * zj.fNumbers.fSlow))))),(.slice zox ((z6N ++ ([(⟨zI,i64 ((max (i64 (zZ + zj.fNumbers.fDelay)) zj.fLast) + (i64 (zI * zj.fNumbers.fSlow)))⟩ : Sport_frame)] : List Sport_frame)).length) zoy)]) zlG rfl rfl rfl rfl rfl .h2 rfl rfl) ?_
    refine WD.done (by kernel_rfl) ?_
    refine WX.a (WC.b (WC.a (WL.pu rfl ?_)))
    refine WL.a (d:=93) rfl rfl rfl (yv rfl) ?_
    refine WL.a (d:=94) rfl rfl rfl (ya y5L rfl rfl) ?_
    refine WL.a (d:=95) rfl rfl rfl (yb yl rfl (yd .here rfl)) ?_
    refine WL.pu rfl (WL.pu rfl (WL.nil (WX.a (WC.ret ?_))))
    obtain rfl:=Option.some.inj h
    refine WX.yj Try.results41 (.tmp rfl (.tmp rfl .nil)) (fun w hw=>?_)
    exact ⟨zox,zoy,ret2 rfl rfl,trivial,hw.sub (.cons .here (.cons .here .nil))⟩
def y3S (zo : Sapi_Config) (z3w : List (List Sapi_Hop)) (z2T : List zSt) (zge : List (Snetwork_exit × Sport_Port)) (z34 : List Snetwork_event) (z19 : List Sapi_Come) (z16 : List Sapi_Come) : Option (List Snetwork_event × List Sapi_Come × List Sapi_Come × (List (Snetwork_exit × Sport_Port))) :=
 (y3i z34).bind fun z9=>(y45 zo z3w z2T zge z9.2 z19 z16 z9.1.fHop).bind fun z2U=>chk ((0 : Int) ≤ z9.1.fSent ∧ z9.1.fSent < ((z2T.length : Nat) : Int)) (chk (y3d z2U (⟨z9.1.fHop.fNode,z9.1.fHop.fLink⟩ : Snetwork_exit) = true) ((y4m (⟨(⟨(((yB z2U (⟨z9.1.fHop.fNode,z9.1.fHop.fLink⟩ : Snetwork_exit) default).fNumbers).fSlow),(((yB z2U (⟨z9.1.fHop.fNode,z9.1.fHop.fLink⟩ : Snetwork_exit) default).fNumbers).fDelay),(((yB z2U (⟨z9.1.fHop.fNode,z9.1.fHop.fLink⟩ : Snetwork_exit) default).fNumbers).fStore)⟩ : Sport_numbers),((yB z2U (⟨z9.1.fHop.fNode,z9.1.fHop.fLink⟩ : Snetwork_exit) default).fNow),((yB z2U (⟨z9.1.fHop.fNode,z9.1.fHop.fLink⟩ : Snetwork_exit) default).fLast),((yB z2U (⟨z9.1.fHop.fNode,z9.1.fHop.fLink⟩ : Snetwork_exit) default).fFrames)⟩ : Sport_Port) z9.1.fTime ((nth z2T z9.1.fSent).fSize)).bind fun z2j=>if decide (z2j.2.1 ≠ 0) then chk ((((z16 ++ ([(⟨z9.1.fSent,z9.1.fHop.fNode,z9.1.fTime⟩ : Sapi_Come)] : List Sapi_Come)).length : Nat) : Int) * 24 ≤ 140737488355328 ∧ (((z16 ++ ([(⟨z9.1.fSent,z9.1.fHop.fNode,z9.1.fTime⟩ : Sapi_Come)] : List Sapi_Come)).length : Nat) : Int) ≤ 4611686018427387904) (some (z9.2,z19,(z16 ++ ([(⟨z9.1.fSent,z9.1.fHop.fNode,z9.1.fTime⟩ : Sapi_Come)] : List Sapi_Come)),(y1g z2U (⟨z9.1.fHop.fNode,z9.1.fHop.fLink⟩ : Snetwork_exit) z2j.2.2))) else jp1 (fun (z5A : List Sapi_Come)=>(y2R zo z3w z2T (y1g z2U (⟨z9.1.fHop.fNode,z9.1.fHop.fLink⟩ : Snetwork_exit) z2j.2.2) z9.2 z5A z16 z9.1.fHop.fNext z2j.1 z9.1.fHop.fLink z9.1.fSent).bind fun zoz=>some (zoz,z5A,z16,(y1g z2U (⟨z9.1.fHop.fNode,z9.1.fHop.fLink⟩ : Snetwork_exit) z2j.2.2))) fun zgf=>if decide (z9.1.fHop.fNext < ((zo.fModules.length : Nat) : Int)) then chk ((((z19 ++ ([(⟨z9.1.fSent,z9.1.fHop.fNext,z2j.1⟩ : Sapi_Come)] : List Sapi_Come)).length : Nat) : Int) * 24 ≤ 140737488355328 ∧ (((z19 ++ ([(⟨z9.1.fSent,z9.1.fHop.fNext,z2j.1⟩ : Sapi_Come)] : List Sapi_Come)).length : Nat) : Int) ≤ 4611686018427387904) (zgf (z19 ++ ([(⟨z9.1.fSent,z9.1.fHop.fNext,z2j.1⟩ : Sapi_Come)] : List Sapi_Come))) else zgf z19))
set_option maxRecDepth 20000 in
theorem y6b (Z : Zp) (z3Z : Nat) (z4M : Option Addr) (z4N : Nat) (z4O : Option Addr) (z4P : Nat) (z4Q : Option Addr) (z4R : Nat) (z4S : Option Addr) (z4T : Nat) (z4U : Option Addr) (z4V : Nat) (z4W : Option Addr) (z4X : Nat) (z4Y : Option Addr) (z4Z : Nat) (z50 : Option Addr) (z51 : Nat) (z52 : Option Addr) (z53 : Nat) (z4c : Option Addr) (z4d : Nat) (z2F : Nat) (z5B : List (Snetwork_exit × ((Nat × (Option Addr × Nat)) × Sport_Port))) (z6O : Option Addr) (z6P : Nat) (z3i : Option Addr) (z3j : Nat) (z35 : Option Addr) (z36 : Nat) (zo : Sapi_Config) (z3w : List (List Sapi_Hop)) (z2T : List zSt) (zge : List (Snetwork_exit × Sport_Port)) (z34 : List Snetwork_event) (z19 : List Sapi_Come) (z16 : List Sapi_Come) (r : List Snetwork_event × List Sapi_Come × List Sapi_Come × (List (Snetwork_exit × Sport_Port)))
  (h : y3S zo z3w z2T zge z34 z19 z16 = some r) (w₀ : World) (hz : PZ (fps [stb z3Z 81 [(.slice z4M zo.fModules.length z4N),(.slice z4O zo.fChannels.length z4P),(.slice z4Q zo.fSwitches.length z4R),(.slice z4S zo.fLinks.length z4T),(.slice z4U zo.fVLs.length z4V),(.slice z4W zo.fHealth.length z4X),(.slice z4Y zo.fCauses.length z4Z),(.slice z50 zo.fVersions.length z51),(.slice z52 z3w.length z53),(.slice z4c z2T.length z4d),(.map (some z2F)),(.slice z6O z34.length z6P),(.slice z3i z19.length z3j),(.slice z35 z16.length z36)],y1e z2F (fun x=>Value.agg (y1I x).toArray) Value.pointer (y1o z5B),y1m z13 z5B,row (.slice z6O z34.length z6P) 113 7 (z34.flatMap yx),row (.slice z3i z19.length z3j) 50 3 (z19.flatMap e50),row (.slice z35 z16.length z36) 50 3 (z16.flatMap e50)]) w₀ Z)
  (zoA : ZS Z 4 (y2h Z) z4M z4N zo.fModules)
  (zoB : ZS Z 4 (y2x Z) z4O z4P zo.fChannels)
  (zoC : ZS Z 4 (fun r x=>r = e64 x) z4Q z4R zo.fSwitches)
  (zoD : ZS Z 4 (fun r x=>r = e62 x) z4S z4T zo.fLinks)
  (zoE : ZS Z 7 (y2p Z) z4U z4V zo.fVLs)
  (zoF : ZS Z 5 (fun r x=>r = y2K x) z4W z4X zo.fHealth)
  (zoG : ZS Z 3 (y2y Z) z4Y z4Z zo.fCauses)
  (zoH : ZS Z 4 (fun r x=>r = y2L x) z50 z51 zo.fVersions)
  (zoI : ZS Z 1 (p55 Z) z52 z53 z3w)
  (zjt : ZS Z 3 (fun r x=>r = e53 x) z4c z4d z2T)
  (zvh : dat z5B = zge)
  (hown : Hp (fps [stb z3Z 81 [(.slice z4M zo.fModules.length z4N),(.slice z4O zo.fChannels.length z4P),(.slice z4Q zo.fSwitches.length z4R),(.slice z4S zo.fLinks.length z4T),(.slice z4U zo.fVLs.length z4V),(.slice z4W zo.fHealth.length z4X),(.slice z4Y zo.fCauses.length z4Z),(.slice z50 zo.fVersions.length z51),(.slice z52 z3w.length z53),(.slice z4c z2T.length z4d),(.map (some z2F)),(.slice z6O z34.length z6P),(.slice z3i z19.length z3j),(.slice z35 z16.length z36)],y1e z2F (fun x=>Value.agg (y1I x).toArray) Value.pointer (y1o z5B),y1m z13 z5B,row (.slice z6O z34.length z6P) 113 7 (z34.flatMap yx),row (.slice z3i z19.length z3j) 50 3 (z19.flatMap e50),row (.slice z35 z16.length z36) 50 3 (z16.flatMap e50)]) w₀ w₀ [stb z3Z 81 [(.slice z4M zo.fModules.length z4N),(.slice z4O zo.fChannels.length z4P),(.slice z4Q zo.fSwitches.length z4R),(.slice z4S zo.fLinks.length z4T),(.slice z4U zo.fVLs.length z4V),(.slice z4W zo.fHealth.length z4X),(.slice z4Y zo.fCauses.length z4Z),(.slice z50 zo.fVersions.length z51),(.slice z52 z3w.length z53),(.slice z4c z2T.length z4d),(.map (some z2F)),(.slice z6O z34.length z6P),(.slice z3i z19.length z3j),(.slice z35 z16.length z36)],y1e z2F (fun x=>Value.agg (y1I x).toArray) Value.pointer (y1o z5B),y1m z13 z5B,row (.slice z6O z34.length z6P) 113 7 (z34.flatMap yx),row (.slice z3i z19.length z3j) 50 3 (z19.flatMap e50),row (.slice z35 z16.length z36) 50 3 (z16.flatMap e50)]) :
  Calls Try.prog 26 #[(.pointer (some ⟨z3Z,0,none⟩))] w₀ fun e w'=>∃ zoJ : Option Addr,∃ zoK : Nat,∃ zoL : Option Addr,∃ zoM : Nat,∃ zoN : Option Addr,∃ zoO : Nat,∃ zju : List (Snetwork_exit × ((Nat × (Option Addr × Nat)) × Sport_Port)),e = .returned (.tuple #[]) ∧ (dat zju = r.2.2.2) ∧ Hp (fps [stb z3Z 81 [(.slice z4M zo.fModules.length z4N),(.slice z4O zo.fChannels.length z4P),(.slice z4Q zo.fSwitches.length z4R),(.slice z4S zo.fLinks.length z4T),(.slice z4U zo.fVLs.length z4V),(.slice z4W zo.fHealth.length z4X),(.slice z4Y zo.fCauses.length z4Z),(.slice z50 zo.fVersions.length z51),(.slice z52 z3w.length z53),(.slice z4c z2T.length z4d),(.map (some z2F)),(.slice z6O z34.length z6P),(.slice z3i z19.length z3j),(.slice z35 z16.length z36)],y1e z2F (fun x=>Value.agg (y1I x).toArray) Value.pointer (y1o z5B),y1m z13 z5B,row (.slice z6O z34.length z6P) 113 7 (z34.flatMap yx),row (.slice z3i z19.length z3j) 50 3 (z19.flatMap e50),row (.slice z35 z16.length z36) 50 3 (z16.flatMap e50)]) w₀ w' [stb z3Z 81 [(.slice z4M zo.fModules.length z4N),(.slice z4O zo.fChannels.length z4P),(.slice z4Q zo.fSwitches.length z4R),(.slice z4S zo.fLinks.length z4T),(.slice z4U zo.fVLs.length z4V),(.slice z4W zo.fHealth.length z4X),(.slice z4Y zo.fCauses.length z4Z),(.slice z50 zo.fVersions.length z51),(.slice z52 z3w.length z53),(.slice z4c z2T.length z4d),(.map (some z2F)),(.slice zoJ r.1.length zoK),(.slice zoL r.2.1.length zoM),(.slice zoN r.2.2.1.length zoO)],row (.slice zoJ r.1.length zoK) 113 7 (r.1.flatMap yx),row (.slice zoL r.2.1.length zoM) 50 3 (r.2.1.flatMap e50),row (.slice zoN r.2.2.1.length zoO) 50 3 (r.2.2.1.flatMap e50),y1e z2F (fun x=>Value.agg (y1I x).toArray) Value.pointer (y1o zju),y1m z13 zju]:=by
 unfold y3S at h
 refine Calls.yo (vs:=[(.pointer (some ⟨z3Z,0,none⟩))]) (pre:=[stb z3Z 81 [(.slice z4M zo.fModules.length z4N),(.slice z4O zo.fChannels.length z4P),(.slice z4Q zo.fSwitches.length z4R),(.slice z4S zo.fLinks.length z4T),(.slice z4U zo.fVLs.length z4V),(.slice z4W zo.fHealth.length z4X),(.slice z4Y zo.fCauses.length z4Z),(.slice z50 zo.fVersions.length z51),(.slice z52 z3w.length z53),(.slice z4c z2T.length z4d),(.map (some z2F)),(.slice z6O z34.length z6P),(.slice z3i z19.length z3j),(.slice z35 z16.length z36)],y1e z2F (fun x=>Value.agg (y1I x).toArray) Value.pointer (y1o z5B),y1m z13 z5B,row (.slice z6O z34.length z6P) 113 7 (z34.flatMap yx),row (.slice z3i z19.length z3j) 50 3 (z19.flatMap e50),row (.slice z35 z16.length z36) 50 3 (z16.flatMap e50)]) (env:=[(0,(.pointer (some ⟨z3Z,0,none⟩)))]) Try.func26 rfl Try.ntmps26 rfl (hown) rfl ?_
 refine WC.b ?_
 obtain ⟨z9,zvi,h⟩:=z8 h
 refine WC.a (WL.pu rfl ?_)
 refine WL.a (d:=6) rfl rfl rfl (yv rfl) ?_
 refine WL.a (d:=7) rfl rfl rfl (ya y70 rfl rfl) ?_
 refine WL.a (d:=8) rfl rfl rfl (y52 Try.underlying111 rfl rfl) ?_
 refine WL.y4C (dd:=9) rfl rfl rfl (zt (l:=[.tmp 8]) Try.call39 (.cons rfl .nil)) (.cons .here (.cons .h2 .nil)) (cc hz (.cons .here (.cons .h2 .nil)) fun w pz ho=>y5v _ _ _ _ _ _ _ _ _ _ _ _ _ _ _ _ _ _ _ zvi w pz  ho) ?_
 rintro z7P z7Q _
 refine WL.a (d:=10) rfl rfl rfl (y7A Try.underlying113 rfl rfl) ?_
 refine WL.new (dd:=2) rfl rfl rfl (y2m (cs:=[(.int .i64 0),(.int .i64 0),(.int .i64 0),(.int .i64 0),(.int .i64 0),(.int .i64 0),(.int .i64 0)]) zlE rfl) ?_
 intro zei _
 refine WL.y10 rfl rfl (y1W zfh rfl rfl rfl .here rfl rfl rfl) ?_
 refine WL.nil (WX.a (WC.b ?_))
 obtain ⟨z2U,zvj,h⟩:=z8 h
 obtain ⟨zvk,h⟩:=ye h
 obtain ⟨zoP,h⟩:=ye h
 obtain ⟨z2j,zvl,h⟩:=z8 h
 refine WC.yV (fun i=>[3,15].contains i) [stbp zei 113 [(0,(.int .i64 z9.1.fTime)),(3,(.int .i64 z9.1.fSent))],stbp z3Z 81 [(9,(.slice z4c z2T.length z4d))]] rfl ?_
 refine WD.a (i:=0) (d:=12) (by kernel_rfl) rfl z2 z3 rfl rfl rfl (fun _=>q_m rfl) ?_
 refine WD.a (i:=1) (d:=13) (by kernel_rfl) rfl z2 z3 rfl rfl rfl (fun _=>ya y4v rfl rfl) ?_
 refine WD.e (i:=2) (d:=14) (by kernel_rfl) rfl z2 z3 rfl rfl rfl (y1y (cs:=[(.int .i64 z9.1.fHop.fNode),(.int .i64 z9.1.fHop.fNext),(.int .i64 z9.1.fHop.fLink)]) y5l rfl rfl (rd_sub (s:=3) .here rfl)) ?_
 refine WD.a (i:=4) (d:=16) (by kernel_rfl) rfl z2 z3 rfl rfl rfl (fun _=>ya y5J rfl rfl) ?_
 refine WD.stable (i:=5) (d:=17) (by kernel_rfl) rfl z2 z3 rfl rfl rfl (Sin.wk (.cons .here (.cons .here .nil)) (.stb (.cons rfl (.cons rfl .nil)) (.stb (.cons rfl .nil) .nil))) (yb yl rfl (y6g .here (.head _))) ?_
 refine WD.a (i:=6) (d:=18) (by kernel_rfl) rfl z2 z3 rfl rfl rfl (fun _=>q_m rfl) ?_
 refine WD.a (i:=7) (d:=19) (by kernel_rfl) rfl z2 z3 rfl rfl rfl (fun _=>yv rfl) ?_
 refine WD.a (i:=8) (d:=20) (by kernel_rfl) rfl z2 z3 rfl rfl rfl (fun _=>ya y80 rfl rfl) ?_
 refine WD.stable (i:=9) (d:=21) (by kernel_rfl) rfl z2 z3 rfl rfl rfl (Sin.wk (.cons .here (.cons .here .nil)) (.stb (.cons rfl (.cons rfl .nil)) (.stb (.cons rfl .nil) .nil))) (yb y81 rfl (y6g .h1 (.head _))) ?_
 refine WD.a (i:=10) (d:=22) (by kernel_rfl) rfl z2 z3 rfl rfl rfl (fun _=>ya y4u rfl rfl) ?_
 refine WD.stable (i:=11) (d:=23) (by kernel_rfl) rfl z2 z3 rfl rfl rfl (Sin.wk (.cons .here (.cons .here .nil)) (.stb (.cons rfl (.cons rfl .nil)) (.stb (.cons rfl .nil) .nil))) (yb yl rfl (y6g .here (.tail _ (.head _)))) ?_
 refine WD.znth (j:=12) (dd:=24) (by kernel_rfl) rfl z2 z3 rfl rfl (Z:=Z) (Pr:=(fun r x=>r = e53 x)) y2u rfl rfl zjt zvk ?_
 rintro zCX zCY zvm zCZ rfl
 refine WD.a (i:=13) (d:=25) (by kernel_rfl) rfl z2 z3 rfl rfl rfl (fun _=>ya y5o rfl rfl) ?_
 refine WD.stable (i:=14) (d:=26) (by kernel_rfl) rfl z2 z3 rfl rfl rfl (Sin.wk (.cons .here (.cons .here .nil)) (.stb (.cons rfl (.cons rfl .nil)) (.stb (.cons rfl .nil) .nil))) (yb yl rfl (y22 hz.pv zvm rfl)) ?_
 refine WD.call1 (i:=3) (dd:=15) rfl (by kernel_rfl) rfl rfl rfl (.inl ⟨rfl,fun _=>(Sin.wk (.cons .h2 (.cons .h2 .nil)) (.stb (.cons rfl (.cons rfl .nil)) (.stb (.cons rfl .nil) .nil)))⟩) (zt (l:=[.tmp 12,.tmp 14]) Try.call40 (.cons rfl (.cons rfl .nil))) (.cons .h3 (.cons .h3 .nil)) (ccl hz (.cons .h3 (.cons .h3 .nil)) (.cons .h1 (.cons .h1 (.cons .h1 (.cons .h1 .nil)))) fun w pz ho la=>y6y _ _ _ _ _ _ _ _ _ _ _ _ _ _ _ _ _ _ _ _ _ _ _ _ _ _ _ _ _ _ _ _ _ _ _ _ _ _ _ zvj w pz ((zoA.mono (Zle.left _ _)).weak (fun _ _ h=>yq (Zle.left _ _) h)) ((zoB.mono (Zle.left _ _)).weak (fun _ _ h=>ys (Zle.left _ _) h)) (zoC.mono (Zle.left _ _)) (zoD.mono (Zle.left _ _)) ((zoE.mono (Zle.left _ _)).weak (fun _ _ h=>yr (Zle.left _ _) h)) (zoF.mono (Zle.left _ _)) ((zoG.mono (Zle.left _ _)).weak (fun _ _ h=>yt (Zle.left _ _) h)) (zoH.mono (Zle.left _ _)) ((zoI.mono (Zle.left _ _)).weak (fun _ _ h=>yH (Zle.left _ _) h)) (zjt.mono (Zle.left _ _)) zvh (ZA.row (la _ (.tail _ (.head _)) _) (RR.yE (enc:=yx) (fun _=>rfl) _) ⟨w,pz.1⟩) (ZA.row (la _ (.tail _ (.tail _ (.head _))) _) (RR.yE (enc:=e50) (fun _=>rfl) _) ⟨w,pz.1⟩) (ZA.row (la _ (.tail _ (.tail _ (.tail _ (.head _)))) _) (RR.yE (enc:=e50) (fun _=>rfl) _) ⟨w,pz.1⟩) ((la _ (.head _) _).stb) ho) ?_
 rintro z7R zej
 refine WD.gh (fun _=>Hp.y7P zej zoP .h1 (fun g=>stb g.1 143 [(.int .i64 (((yB z2U (⟨z9.1.fHop.fNode,z9.1.fHop.fLink⟩ : Snetwork_exit) default).fNumbers).fSlow)),(.int .i64 (((yB z2U (⟨z9.1.fHop.fNode,z9.1.fHop.fLink⟩ : Snetwork_exit) default).fNumbers).fDelay)),(.int .i64 (((yB z2U (⟨z9.1.fHop.fNode,z9.1.fHop.fLink⟩ : Snetwork_exit) default).fNumbers).fStore)),(.int .i64 ((yB z2U (⟨z9.1.fHop.fNode,z9.1.fHop.fLink⟩ : Snetwork_exit) default).fNow)),(.int .i64 ((yB z2U (⟨z9.1.fHop.fNode,z9.1.fHop.fLink⟩ : Snetwork_exit) default).fLast)),(.slice g.2.1 (((yB z2U (⟨z9.1.fHop.fNode,z9.1.fHop.fLink⟩ : Snetwork_exit) default).fFrames).length) g.2.2)] :: row (.slice g.2.1 (((yB z2U (⟨z9.1.fHop.fNode,z9.1.fHop.fLink⟩ : Snetwork_exit) default).fFrames).length) g.2.2) 146 2 (((yB z2U (⟨z9.1.fHop.fNode,z9.1.fHop.fLink⟩ : Snetwork_exit) default).fFrames).flatMap y1P) :: [y1m z13 (y40 (⟨z9.1.fHop.fNode,z9.1.fHop.fLink⟩ : Snetwork_exit) z7R),y1e z2F (fun x=>Value.agg (y1I x).toArray) Value.pointer (y1o z7R),stb zei 113 [(.int .i64 z9.1.fTime),(.int .i64 z9.1.fIn_),(.int .i64 z9.1.fVl),(.int .i64 z9.1.fSent),(.int .i64 z9.1.fHop.fNode),(.int .i64 z9.1.fHop.fNext),(.int .i64 z9.1.fHop.fLink)],stb z3Z 81 [(.slice z4M zo.fModules.length z4N),(.slice z4O zo.fChannels.length z4P),(.slice z4Q zo.fSwitches.length z4R),(.slice z4S zo.fLinks.length z4T),(.slice z4U zo.fVLs.length z4V),(.slice z4W zo.fHealth.length z4X),(.slice z4Y zo.fCauses.length z4Z),(.slice z50 zo.fVersions.length z51),(.slice z52 z3w.length z53),(.slice z4c z2T.length z4d),(.map (some z2F)),(.slice z7P z9.2.length z7Q),(.slice z3i z19.length z3j),(.slice z35 z16.length z36)],row (.slice z7P z9.2.length z7Q) 113 7 (z9.2.flatMap yx),row (.slice z3i z19.length z3j) 50 3 (z19.flatMap e50),row (.slice z35 z16.length z36) 50 3 (z16.flatMap e50)]) (fun _=>rfl)) ?_
 rintro ⟨z8L,zD0,zD1⟩ zoQ
 refine WD.repin (i:=15) rfl (u:=(.pointer (some ⟨z8L,0,none⟩))) (congrArg Value.pointer zoQ) ?_
 refine WD.call2 (i:=15) (dd:=27) rfl (by kernel_rfl) rfl rfl rfl (.inl ⟨rfl,fun _ _=>(Sin.wk (.cons .h4 (.cons .h4 .nil)) (.stb (.cons rfl (.cons rfl .nil)) (.stb (.cons rfl .nil) .nil)))⟩) (zt (l:=[.tmp 15,.tmp 17,.tmp 26]) Try.call41 (.cons rfl (.cons rfl (.cons rfl .nil)))) (.cons .here (.cons .here .nil)) (cc hz (.cons .here (.cons .here .nil)) fun w pz ho=>y6O _ _ _ _ _ _ _ _ zvl w pz  ho) ?_
 rintro z9W z9X _
 refine WD.ghL (fun _ h=>Hp.objsClose (els:=z13) (lg:=z7R) (k:=(⟨z9.1.fHop.fNode,z9.1.fHop.fLink⟩ : Snetwork_exit)) (b:=z8L) (g:=(z9W,z9X)) (x:=z2j.2.2) (.cons .here (.cons .here (.cons .here .nil))) h) ?_
 refine WD.ghL (M:=[y1e z2F (fun x=>Value.agg (y1I x).toArray) Value.pointer (y1o (y1g z7R (⟨z9.1.fHop.fNode,z9.1.fHop.fLink⟩ : Snetwork_exit) ((z8L,(z9W,z9X)),z2j.2.2))),y1m z13 (y1g z7R (⟨z9.1.fHop.fNode,z9.1.fHop.fLink⟩ : Snetwork_exit) ((z8L,(z9W,z9X)),z2j.2.2)),stb zei 113 [(.int .i64 z9.1.fTime),(.int .i64 z9.1.fIn_),(.int .i64 z9.1.fVl),(.int .i64 z9.1.fSent),(.int .i64 z9.1.fHop.fNode),(.int .i64 z9.1.fHop.fNext),(.int .i64 z9.1.fHop.fLink)],stb z3Z 81 [(.slice z4M zo.fModules.length z4N),(.slice z4O zo.fChannels.length z4P),(.slice z4Q zo.fSwitches.length z4R),(.slice z4S zo.fLinks.length z4T),(.slice z4U zo.fVLs.length z4V),(.slice z4W zo.fHealth.length z4X),(.slice z4Y zo.fCauses.length z4Z),(.slice z50 zo.fVersions.length z51),(.slice z52 z3w.length z53),(.slice z4c z2T.length z4d),(.map (some z2F)),(.slice z7P z9.2.length z7Q),(.slice z3i z19.length z3j),(.slice z35 z16.length z36)],row (.slice z7P z9.2.length z7Q) 113 7 (z9.2.flatMap yx),row (.slice z3i z19.length z3j) 50 3 (z19.flatMap e50),row (.slice z35 z16.length z36) 50 3 (z16.flatMap e50)]) (fun _ h=>Hp.y7z .h1 (y8e zej zoP zoQ _ _) h) ?_
 refine WD.a (i:=16) (d:=11) (by kernel_rfl) rfl z2 z3 rfl rfl rfl (fun _=>q_m rfl) ?_
 refine WD.a (i:=17) (d:=28) (by kernel_rfl) rfl z2 z3 rfl rfl rfl (fun _=>y4A rfl rfl) ?_
 refine WD.a (i:=18) (d:=29) (by kernel_rfl) rfl z2 z3 rfl rfl rfl (fun _=>y4A rfl rfl) ?_
 refine WD.a (i:=19) (d:=3) (by kernel_rfl) rfl z2 z3 rfl rfl rfl (fun _=>q_z rfl) ?_
 refine WD.a (i:=20) (d:=4) (by kernel_rfl) rfl z2 z3 rfl rfl rfl (fun _=>q_z rfl) ?_
 refine WD.done (by kernel_rfl) ?_
 refine WX.a (WC.b (WC.b (WC.a (WL.pu rfl (WL.pu rfl (WL.nil (WX.a ?_)))))))
 refine WC.cond rfl (fun zjv=>?_) (fun zjv=>?_)
 ·replace h:=yg h zjv
  refine WC.b ?_
  obtain ⟨zvn,h⟩:=ye h
  refine WC.yV (fun i=>[14,17].contains i) [] rfl ?_
  refine WD.a (i:=0) (d:=32) (by kernel_rfl) rfl z2 z3 rfl rfl rfl (fun _=>q_m rfl) ?_
  refine WD.a (i:=1) (d:=33) (by kernel_rfl) rfl z2 z3 rfl rfl rfl (fun _=>q_m rfl) ?_
  refine WD.a (i:=2) (d:=34) (by kernel_rfl) rfl z2 z3 rfl rfl rfl (fun _=>yv rfl) ?_
  refine WD.a (i:=3) (d:=35) (by kernel_rfl) rfl z2 z3 rfl rfl rfl (fun _=>ya y73 rfl rfl) ?_
  refine WD.e (i:=4) (d:=36) (by kernel_rfl) rfl z2 z3 rfl rfl rfl (yb y6i rfl (yd .h3 rfl)) ?_
  refine WD.a (i:=5) (d:=37) (by kernel_rfl) rfl z2 z3 rfl rfl rfl (fun _=>ya y4u rfl rfl) ?_
  refine WD.e (i:=6) (d:=38) (by kernel_rfl) rfl z2 z3 rfl rfl rfl (yb yl rfl (yd .h2 rfl)) ?_
  refine WD.a (i:=7) (d:=39) (by kernel_rfl) rfl z2 z3 rfl rfl rfl (fun _=>ya y4v rfl rfl) ?_
  refine WD.a (i:=8) (d:=40) (by kernel_rfl) rfl z2 z3 rfl rfl rfl (fun _=>ya y2F rfl rfl) ?_
  refine WD.e (i:=9) (d:=41) (by kernel_rfl) rfl z2 z3 rfl rfl rfl (yb yl rfl (yd .h2 rfl)) ?_
  refine WD.a (i:=10) (d:=42) (by kernel_rfl) rfl z2 z3 rfl rfl rfl (fun _=>ya y5J rfl rfl) ?_
  refine WD.e (i:=11) (d:=43) (by kernel_rfl) rfl z2 z3 rfl rfl rfl (yb yl rfl (yd .h2 rfl)) ?_
  refine WD.a (i:=12) (d:=44) (by kernel_rfl) rfl z2 z3 rfl rfl rfl (fun _=>y1l (v:=(.agg #[(.int .i64 z9.1.fSent),(.int .i64 z9.1.fHop.fNode),(.int .i64 z9.1.fTime)])) (Eos.parts (l:=[.tmp 38,.tmp 41,.tmp 43]) (.cons rfl (.cons rfl (.cons rfl .nil))) [0,1,2]) (fun _=>by kernel_rfl)) ?_
  refine WD.new (i:=13) (dd:=45) rfl (by kernel_rfl) rfl rfl rfl (yF (cs:=([(⟨z9.1.fSent,z9.1.fHop.fNode,z9.1.fTime⟩ : Sapi_Come)] : List Sapi_Come).flatMap e50) y19 (Eos.parts (l:=[.tmp 44]) (.cons rfl .nil) [0]) (fun _=>by kernel_rfl) rfl (by unfold maxLen; omega)) (fun h'=>absurd h' (by decide)) ?_
  intro zD2 _
  refine WD.old (i:=14) (dd:=46) rfl (by kernel_rfl) rfl rfl rfl rfl (fun _=>(Sin.of .nil)) (y2B (enc:=e50) (l1:=z16) (l2:=([(⟨z9.1.fSent,z9.1.fHop.fNode,z9.1.fTime⟩ : Sapi_Come)] : List Sapi_Come)) y19 rfl rfl .h7 (fun _=>rfl) rfl rfl (y3O .here) (y3c e50_oc _) zvn) ?_
  rintro ⟨zoR,zoS⟩ _
  refine WD.a (i:=15) (d:=47) (by kernel_rfl) rfl z2 z3 rfl rfl rfl (fun _=>yv rfl) ?_
  refine WD.a (i:=16) (d:=48) (by kernel_rfl) rfl z2 z3 rfl rfl rfl (fun _=>ya y73 rfl rfl) ?_
  refine WD.y2J (i:=17) rfl (by kernel_rfl) rfl rfl rfl (by kernel_rfl) (y3Q (ds:=[(.slice z4M zo.fModules.length z4N),(.slice z4O zo.fChannels.length z4P),(.slice z4Q zo.fSwitches.length z4R),(.slice z4S zo.fLinks.length z4T),(.slice z4U zo.fVLs.length z4V),(.slice z4W zo.fHealth.length z4X),(.slice z4Y zo.fCauses.length z4Z),(.slice z50 zo.fVersions.length z51),(.slice z52 z3w.length z53),(.slice z4c z2T.length z4d),(.map (some z2F)),(.slice z7P z9.2.length z7Q),(.slice z3i z19.length z3j),(.slice zoR ((z16 ++ ([(⟨z9.1.fSent,z9.1.fHop.fNode,z9.1.fTime⟩ : Sapi_Come)] : List Sapi_Come)).length) zoS)]) y83 rfl rfl rfl rfl rfl .h5 rfl rfl) ?_
  refine WD.done (by kernel_rfl) ?_
  refine WX.a (WC.ret (WX.yn ?_))
  obtain rfl:=Option.some.inj h
  refine WX.yj Try.results26 .nil (fun w hw=>?_)
  exact ⟨z7P,z7Q,z3i,z3j,zoR,zoS,(y1g z7R (⟨z9.1.fHop.fNode,z9.1.fHop.fLink⟩ : Snetwork_exit) ((z8L,(z9W,z9X)),z2j.2.2)),y3Z,(y5H zej _ _ _),hw.sub (.cons .here (.cons .h5 (.cons .h5 (.cons .here (.cons .h1 (.cons .h1 .nil))))))⟩
 ·replace h:=yh h zjv
  refine WC.skip (WX.a ?_)
  obtain ⟨zgf,zvo,h⟩:=yO h
  refine WC.y1U (fun (z5A : List Sapi_Come) (zbx : Option Addr) (zby : Nat)=>(zgf z5A = some r)) (fun (z5A : List Sapi_Come) (zbx : Option Addr) (zby : Nat)=>[(0,(.pointer (some ⟨z3Z,0,none⟩))),(2,(.pointer (some ⟨zei,0,none⟩))),(3,(.int .i64 z2j.1))]) (fun (z5A : List Sapi_Come) (zbx : Option Addr) (zby : Nat)=>[row (.slice z7P z9.2.length z7Q) 113 7 (z9.2.flatMap yx),row (.slice zbx z5A.length zby) 50 3 (z5A.flatMap e50),row (.slice z35 z16.length z36) 50 3 (z16.flatMap e50),stb z3Z 81 [(.slice z4M zo.fModules.length z4N),(.slice z4O zo.fChannels.length z4P),(.slice z4Q zo.fSwitches.length z4R),(.slice z4S zo.fLinks.length z4T),(.slice z4U zo.fVLs.length z4V),(.slice z4W zo.fHealth.length z4X),(.slice z4Y zo.fCauses.length z4Z),(.slice z50 zo.fVersions.length z51),(.slice z52 z3w.length z53),(.slice z4c z2T.length z4d),(.map (some z2F)),(.slice z7P z9.2.length z7Q),(.slice zbx z5A.length zby),(.slice z35 z16.length z36)],stb zei 113 [(.int .i64 z9.1.fTime),(.int .i64 z9.1.fIn_),(.int .i64 z9.1.fVl),(.int .i64 z9.1.fSent),(.int .i64 z9.1.fHop.fNode),(.int .i64 z9.1.fHop.fNext),(.int .i64 z9.1.fHop.fLink)],y1e z2F (fun x=>Value.agg (y1I x).toArray) Value.pointer (y1o (y1g z7R (⟨z9.1.fHop.fNode,z9.1.fHop.fLink⟩ : Snetwork_exit) ((z8L,(z9W,z9X)),z2j.2.2))),y1m z13 (y1g z7R (⟨z9.1.fHop.fNode,z9.1.fHop.fLink⟩ : Snetwork_exit) ((z8L,(z9W,z9X)),z2j.2.2))]) ?_ ?_
  ·skip
   refine WC.b ?_
   refine WC.yV (fun i=>[].contains i) [] rfl ?_
   refine WD.a (i:=0) (d:=49) (by kernel_rfl) rfl z2 z3 rfl rfl rfl (fun _=>ya y4v rfl rfl) ?_
   refine WD.a (i:=1) (d:=50) (by kernel_rfl) rfl z2 z3 rfl rfl rfl (fun _=>ya y4t rfl rfl) ?_
   refine WD.e (i:=2) (d:=51) (by kernel_rfl) rfl z2 z3 rfl rfl rfl (yb yl rfl (yd .h2 rfl)) ?_
   refine WD.a (i:=3) (d:=52) (by kernel_rfl) rfl z2 z3 rfl rfl rfl (fun _=>q_m rfl) ?_
   refine WD.a (i:=4) (d:=53) (by kernel_rfl) rfl z2 z3 rfl rfl rfl (fun _=>yv rfl) ?_
   refine WD.a (i:=5) (d:=54) (by kernel_rfl) rfl z2 z3 rfl rfl rfl (fun _=>ya y5p rfl rfl) ?_
   refine WD.a (i:=6) (d:=55) (by kernel_rfl) rfl z2 z3 rfl rfl rfl (fun _=>ya y3V rfl rfl) ?_
   refine WD.e (i:=7) (d:=56) (by kernel_rfl) rfl z2 z3 rfl rfl rfl (yb y3W rfl (yd .h3 rfl)) ?_
   refine WD.a (i:=8) (d:=57) (by kernel_rfl) rfl z2 z3 rfl rfl rfl (fun _=>yz Try.underlying22 rfl) ?_
   refine WD.a (i:=9) (d:=58) (by kernel_rfl) rfl z2 z3 rfl rfl rfl (fun _=>y39 rfl rfl) ?_
   refine WD.done (by kernel_rfl) ?_
   refine WX.a ?_
   refine WC.cond rfl (fun zjw=>?_) (fun zjw=>?_)
   ·replace h:=yg h zjw
    obtain ⟨zvp,h⟩:=ye h
    refine WC.yV (fun i=>[13,16].contains i) [] rfl ?_
    refine WD.a (i:=0) (d:=59) (by kernel_rfl) rfl z2 z3 rfl rfl rfl (fun _=>q_m rfl) ?_
    refine WD.a (i:=1) (d:=60) (by kernel_rfl) rfl z2 z3 rfl rfl rfl (fun _=>q_m rfl) ?_
    refine WD.a (i:=2) (d:=61) (by kernel_rfl) rfl z2 z3 rfl rfl rfl (fun _=>yv rfl) ?_
    refine WD.a (i:=3) (d:=62) (by kernel_rfl) rfl z2 z3 rfl rfl rfl (fun _=>ya y74 rfl rfl) ?_
    refine WD.e (i:=4) (d:=63) (by kernel_rfl) rfl z2 z3 rfl rfl rfl (yb y6i rfl (yd .h3 rfl)) ?_
    refine WD.a (i:=5) (d:=64) (by kernel_rfl) rfl z2 z3 rfl rfl rfl (fun _=>ya y4u rfl rfl) ?_
    refine WD.e (i:=6) (d:=65) (by kernel_rfl) rfl z2 z3 rfl rfl rfl (yb yl rfl (yd .h2 rfl)) ?_
    refine WD.a (i:=7) (d:=66) (by kernel_rfl) rfl z2 z3 rfl rfl rfl (fun _=>ya y4v rfl rfl) ?_
    refine WD.a (i:=8) (d:=67) (by kernel_rfl) rfl z2 z3 rfl rfl rfl (fun _=>ya y4t rfl rfl) ?_
    refine WD.e (i:=9) (d:=68) (by kernel_rfl) rfl z2 z3 rfl rfl rfl (yb yl rfl (yd .h2 rfl)) ?_
    refine WD.a (i:=10) (d:=69) (by kernel_rfl) rfl z2 z3 rfl rfl rfl (fun _=>q_m rfl) ?_
    refine WD.a (i:=11) (d:=70) (by kernel_rfl) rfl z2 z3 rfl rfl rfl (fun _=>y1l (v:=(.agg #[(.int .i64 z9.1.fSent),(.int .i64 z9.1.fHop.fNext),(.int .i64 z2j.1)])) (Eos.parts (l:=[.tmp 65,.tmp 68,.tmp 69]) (.cons rfl (.cons rfl (.cons rfl .nil))) [0,1,2]) (fun _=>by kernel_rfl)) ?_
    refine WD.new (i:=12) (dd:=71) rfl (by kernel_rfl) rfl rfl rfl (yF (cs:=([(⟨z9.1.fSent,z9.1.fHop.fNext,z2j.1⟩ : Sapi_Come)] : List Sapi_Come).flatMap e50) y19 (Eos.parts (l:=[.tmp 70]) (.cons rfl .nil) [0]) (fun _=>by kernel_rfl) rfl (by unfold maxLen; omega)) (fun h'=>absurd h' (by decide)) ?_
    intro zD3 _
    refine WD.old (i:=13) (dd:=72) rfl (by kernel_rfl) rfl rfl rfl rfl (fun _=>(Sin.of .nil)) (y2B (enc:=e50) (l1:=z19) (l2:=([(⟨z9.1.fSent,z9.1.fHop.fNext,z2j.1⟩ : Sapi_Come)] : List Sapi_Come)) y19 rfl rfl .h6 (fun _=>rfl) rfl rfl (y3O .here) (y3c e50_oc _) zvp) ?_
    rintro ⟨zoT,zoU⟩ _
    refine WD.a (i:=14) (d:=73) (by kernel_rfl) rfl z2 z3 rfl rfl rfl (fun _=>yv rfl) ?_
    refine WD.a (i:=15) (d:=74) (by kernel_rfl) rfl z2 z3 rfl rfl rfl (fun _=>ya y74 rfl rfl) ?_
    refine WD.y2J (i:=16) rfl (by kernel_rfl) rfl rfl rfl (by kernel_rfl) (y3Q (ds:=[(.slice z4M zo.fModules.length z4N),(.slice z4O zo.fChannels.length z4P),(.slice z4Q zo.fSwitches.length z4R),(.slice z4S zo.fLinks.length z4T),(.slice z4U zo.fVLs.length z4V),(.slice z4W zo.fHealth.length z4X),(.slice z4Y zo.fCauses.length z4Z),(.slice z50 zo.fVersions.length z51),(.slice z52 z3w.length z53),(.slice z4c z2T.length z4d),(.map (some z2F)),(.slice z7P z9.2.length z7Q),(.slice zoT ((z19 ++ ([(⟨z9.1.fSent,z9.1.fHop.fNext,z2j.1⟩ : Sapi_Come)] : List Sapi_Come)).length) zoU),(.slice z35 z16.length z36)]) y83 rfl rfl rfl rfl rfl .h5 rfl rfl) ?_
    refine WD.done (by kernel_rfl) ?_
    exact WX.mid (G:=List Sapi_Come × Option Addr × Nat) ⟨(z19 ++ ([(⟨z9.1.fSent,z9.1.fHop.fNext,z2j.1⟩ : Sapi_Come)] : List Sapi_Come)),zoT,zoU⟩ h (.cons rfl (.cons rfl (.cons rfl .nil))) (.cons .h6 (.cons .h1 (.cons .h5 (.cons .here (.cons .h3 (.cons .h1 (.cons .h1 .nil)))))))
   ·replace h:=yh h zjw
    refine WC.skip ?_
    exact WX.mid (G:=List Sapi_Come × Option Addr × Nat) ⟨z19,z3i,z3j⟩ h (.cons rfl (.cons rfl (.cons rfl .nil))) (.cons .h4 (.cons .h4 (.cons .h4 (.cons .h3 (.cons .h2 (.cons .here (.cons .here .nil)))))))
  ·rintro z5A zbx zby h
   replace h:=(zvo z5A).symm.trans h
   obtain ⟨zoz,zvq,h⟩:=z8 h
   refine WC.a (WL.pu rfl ?_)
   refine WL.a (d:=76) rfl rfl rfl (ya y4v rfl rfl) ?_
   refine WL.a (d:=77) rfl rfl rfl (ya y4t rfl rfl) ?_
   refine WL.a (d:=78) rfl rfl rfl (yb yl rfl (yd .h4 rfl)) ?_
   refine WL.pu rfl ?_
   refine WL.a (d:=80) rfl rfl rfl (ya y4v rfl rfl) ?_
   refine WL.a (d:=81) rfl rfl rfl (ya y5n rfl rfl) ?_
   refine WL.a (d:=82) rfl rfl rfl (yb yl rfl (yd .h4 rfl)) ?_
   refine WL.a (d:=83) rfl rfl rfl (ya y4u rfl rfl) ?_
   refine WL.a (d:=84) rfl rfl rfl (yb yl rfl (yd .h4 rfl)) ?_
   refine WL.y4C (dd:=85) rfl rfl rfl (zt (l:=[.tmp 75,.tmp 78,.tmp 79,.tmp 82,.tmp 84]) Try.call25 (.cons rfl (.cons rfl (.cons rfl (.cons rfl (.cons rfl .nil)))))) (.cons .h3 (.cons .h4 (.cons .h4 (.cons .here .nil)))) (ccl hz (.cons .h3 (.cons .h4 (.cons .h4 (.cons .here .nil)))) (.cons .here (.cons .here .nil)) fun w pz ho la=>y4q _ _ _ _ _ _ _ _ _ _ _ _ _ _ _ _ _ _ _ _ _ _ _ _ _ _ _ _ _ _ _ _ _ _ _ _ _ _ _ _ _ _ zvq w pz ((zoA.mono (Zle.left _ _)).weak (fun _ _ h=>yq (Zle.left _ _) h)) ((zoB.mono (Zle.left _ _)).weak (fun _ _ h=>ys (Zle.left _ _) h)) (zoC.mono (Zle.left _ _)) (zoD.mono (Zle.left _ _)) ((zoE.mono (Zle.left _ _)).weak (fun _ _ h=>yr (Zle.left _ _) h)) (zoF.mono (Zle.left _ _)) ((zoG.mono (Zle.left _ _)).weak (fun _ _ h=>yt (Zle.left _ _) h)) (zoH.mono (Zle.left _ _)) ((zoI.mono (Zle.left _ _)).weak (fun _ _ h=>yH (Zle.left _ _) h)) (zjt.mono (Zle.left _ _)) (y5H zej _ _ _) (ZA.row (la _ (.head _) _) (RR.yE (enc:=e50) (fun _=>rfl) _) ⟨w,pz.1⟩) (ZA.row (la _ (.tail _ (.head _)) _) (RR.yE (enc:=e50) (fun _=>rfl) _) ⟨w,pz.1⟩) ho) ?_
   rintro zvr zvs _
   refine WL.nil ?_
   obtain rfl:=Option.some.inj h
   refine WX.y1L Try.results26 .nil (fun w hw=>?_)
   exact ⟨zvr,zvs,zbx,zby,z35,z36,(y1g z7R (⟨z9.1.fHop.fNode,z9.1.fHop.fLink⟩ : Snetwork_exit) ((z8L,(z9W,z9X)),z2j.2.2)),y3Z,(y5H zej _ _ _),hw.sub (.cons .here (.cons .here (.cons .h2 (.cons .h2 (.cons .here (.cons .here .nil))))))⟩
def y31 (z3k : Sapi_Come) (z3l : Sapi_Come) : Option Int :=
 (y1w z3k.fTime z3l.fTime).bind fun zjx=>(y1w z3k.fSent z3l.fSent).bind fun zjy=>(y1w z3k.fNode z3l.fNode).bind fun zjz=>(y4j ([zjx,zjy,zjz] : List Int)).bind fun zoV=>some zoV
set_option maxRecDepth 20000 in
theorem y6c (Z : Zp)  (z3k : Sapi_Come) (z3l : Sapi_Come) (r : Int)
  (h : y31 z3k z3l = some r) (w₀ : World) (hz : PZ [] w₀ Z) :
  Calls Try.prog 43 #[(.agg #[(.int .i64 z3k.fSent),(.int .i64 z3k.fNode),(.int .i64 z3k.fTime)]),(.agg #[(.int .i64 z3l.fSent),(.int .i64 z3l.fNode),(.int .i64 z3l.fTime)])] w₀ fun e w'=>e = .returned (.int .i64 r) ∧ Hp [] w₀ w' []:=by
 unfold y31 at h
 refine Calls.yo (vs:=[(.agg #[(.int .i64 z3k.fSent),(.int .i64 z3k.fNode),(.int .i64 z3k.fTime)]),(.agg #[(.int .i64 z3l.fSent),(.int .i64 z3l.fNode),(.int .i64 z3l.fTime)])]) (pre:=[]) (env:=[(0,(.agg #[(.int .i64 z3k.fSent),(.int .i64 z3k.fNode),(.int .i64 z3k.fTime)])),(1,(.agg #[(.int .i64 z3l.fSent),(.int .i64 z3l.fNode),(.int .i64 z3l.fTime)]))]) Try.func43 rfl Try.ntmps43 rfl (Hp.nil w₀ _) rfl ?_
 refine WC.b (WC.a ?_)
 refine WL.new (dd:=2) rfl rfl rfl (y25 (cs:=[(.int .i64 z3k.fSent),(.int .i64 z3k.fNode),(.int .i64 z3k.fTime)]) rfl rfl) ?_
 intro zD4 _
 refine WL.new (dd:=3) rfl rfl rfl (y25 (cs:=[(.int .i64 z3l.fSent),(.int .i64 z3l.fNode),(.int .i64 z3l.fTime)]) rfl rfl) ?_
 intro zD5 _
 refine WL.pu rfl (WL.nil (WX.a (WC.b ?_)))
 obtain ⟨zjx,zvt,h⟩:=z8 h
 obtain ⟨zjy,zvu,h⟩:=z8 h
 obtain ⟨zjz,zvv,h⟩:=z8 h
 obtain ⟨zoV,zvw,h⟩:=z8 h
 refine WC.yV (fun i=>[].contains i) [] rfl ?_
 refine WD.a (i:=0) (d:=5) (by kernel_rfl) rfl z2 z3 rfl rfl rfl (fun _=>ya y84 rfl rfl) ?_
 refine WD.e (i:=1) (d:=6) (by kernel_rfl) rfl z2 z3 rfl rfl rfl (yb yl rfl (yd .h1 rfl)) ?_
 refine WD.a (i:=2) (d:=7) (by kernel_rfl) rfl z2 z3 rfl rfl rfl (fun _=>ya y84 rfl rfl) ?_
 refine WD.e (i:=3) (d:=8) (by kernel_rfl) rfl z2 z3 rfl rfl rfl (yb yl rfl (yd .here rfl)) ?_
 refine WD.c (i:=4) (d:=9) (by kernel_rfl) rfl z2 z3 rfl rfl rfl (zt (l:=[.tmp 6,.tmp 8]) Try.call45 (.cons rfl (.cons rfl .nil))) (cc hz .nil fun w pz ho=>y1X _ _ _ _ zvt w pz ) ?_
 refine WD.a (i:=5) (d:=10) (by kernel_rfl) rfl z2 z3 rfl rfl rfl (fun _=>ya y85 rfl rfl) ?_
 refine WD.e (i:=6) (d:=11) (by kernel_rfl) rfl z2 z3 rfl rfl rfl (yb yl rfl (yd .h1 rfl)) ?_
 refine WD.a (i:=7) (d:=12) (by kernel_rfl) rfl z2 z3 rfl rfl rfl (fun _=>ya y85 rfl rfl) ?_
 refine WD.e (i:=8) (d:=13) (by kernel_rfl) rfl z2 z3 rfl rfl rfl (yb yl rfl (yd .here rfl)) ?_
 refine WD.c (i:=9) (d:=14) (by kernel_rfl) rfl z2 z3 rfl rfl rfl (zt (l:=[.tmp 11,.tmp 13]) Try.call45 (.cons rfl (.cons rfl .nil))) (cc hz .nil fun w pz ho=>y1X _ _ _ _ zvu w pz ) ?_
 refine WD.a (i:=10) (d:=15) (by kernel_rfl) rfl z2 z3 rfl rfl rfl (fun _=>ya y86 rfl rfl) ?_
 refine WD.e (i:=11) (d:=16) (by kernel_rfl) rfl z2 z3 rfl rfl rfl (yb yl rfl (yd .h1 rfl)) ?_
 refine WD.a (i:=12) (d:=17) (by kernel_rfl) rfl z2 z3 rfl rfl rfl (fun _=>ya y86 rfl rfl) ?_
 refine WD.e (i:=13) (d:=18) (by kernel_rfl) rfl z2 z3 rfl rfl rfl (yb yl rfl (yd .here rfl)) ?_
 refine WD.c (i:=14) (d:=19) (by kernel_rfl) rfl z2 z3 rfl rfl rfl (zt (l:=[.tmp 16,.tmp 18]) Try.call45 (.cons rfl (.cons rfl .nil))) (cc hz .nil fun w pz ho=>y1X _ _ _ _ zvv w pz ) ?_
 refine WD.new (i:=15) (dd:=20) rfl (by kernel_rfl) rfl rfl rfl (yF (cs:=([zjx,zjy,zjz] : List Int).flatMap e3) y68 (Eos.parts (l:=[.tmp 9,.tmp 14,.tmp 19]) (.cons rfl (.cons rfl (.cons rfl .nil))) [0,1,2]) (fun _=>by kernel_rfl) rfl (by unfold maxLen; omega)) (fun h'=>absurd h' (by decide)) ?_
 intro zD6 _
 refine WD.c (i:=16) (d:=21) (by kernel_rfl) rfl z2 z3 rfl rfl rfl (zt (l:=[.tmp 20]) Try.call44 (.cons rfl .nil)) (ccl hz .nil (.cons .here .nil) fun w pz ho la=>y69 _ _ _ _ _ zvw w pz (ZA.row (la _ (.head _) _) (RR.yE (enc:=e3) (fun _=>rfl) _) ⟨w,pz.1⟩)) ?_
 refine WD.a (i:=17) (d:=4) (by kernel_rfl) rfl z2 z3 rfl rfl rfl (fun _=>q_z rfl) ?_
 refine WD.done (by kernel_rfl) ?_
 refine WX.a (WC.ret ?_)
 obtain rfl:=Option.some.inj h
 refine WX.yj Try.results43 (.tmp rfl .nil) (fun w hw=>?_)
 exact ⟨yL rfl,hw.sub .nil⟩
def yY (z1m : Int) (z37 : Sapi_Come → Sapi_Come → Option Int) (z7S : (List Sapi_Come) → Option (List Sapi_Come)) : Nat → (List Sapi_Come) → Int → Option (List Sapi_Come)
 | 0,_,_=>none
 | zjA + 1,zh,za=>(if decide (za > z1m) then chk ((0 : Int) ≤ za ∧ za < ((zh.length : Nat) : Int)) (chk ((0 : Int) ≤ (i64 (za - 1)) ∧ (i64 (za - 1)) < ((zh.length : Nat) : Int)) ((z37 (⟨((nth zh za).fSent),((nth zh za).fNode),((nth zh za).fTime)⟩ : Sapi_Come) (⟨((nth zh (i64 (za - 1))).fSent),((nth zh (i64 (za - 1))).fNode),((nth zh (i64 (za - 1))).fTime)⟩ : Sapi_Come)).bind fun zjB=>some (decide (zjB < 0)))) else some false).bind fun zjC=>if zjC then chk ((0 : Int) ≤ (i64 (za - 1)) ∧ (i64 (za - 1)) < ((zh.length : Nat) : Int)) (chk ((0 : Int) ≤ za ∧ za < ((zh.length : Nat) : Int)) (chk ((0 : Int) ≤ (i64 (za - 1)) ∧ (i64 (za - 1)) < (((zh.set (za : Int).toNat (⟨((nth zh (i64 (za - 1))).fSent),((nth zh (i64 (za - 1))).fNode),((nth zh (i64 (za - 1))).fTime)⟩ : Sapi_Come)).length : Nat) : Int)) (yY z1m z37 z7S zjA ((zh.set (za : Int).toNat (⟨((nth zh (i64 (za - 1))).fSent),((nth zh (i64 (za - 1))).fNode),((nth zh (i64 (za - 1))).fTime)⟩ : Sapi_Come)).set ((i64 (za - 1)) : Int).toNat (⟨((nth zh za).fSent),((nth zh za).fNode),((nth zh za).fTime)⟩ : Sapi_Come)) (i64 (za - 1))))) else z7S zh
theorem y2T {n : Nat} {z1m : Int} {z37 : Sapi_Come → Sapi_Come → Option Int} {z7S : (List Sapi_Come) → Option (List Sapi_Come)} {zh : List Sapi_Come} {za : Int} {r : List Sapi_Come} (h : yY z1m z37 z7S n zh za = some r) : ∃ m,n = m + 1:=by
 cases n with
 | zero=>cases h
 | succ m=>exact ⟨m,rfl⟩
def yZ (z3m : Int) (z1m : Int) (z37 : Sapi_Come → Sapi_Come → Option Int) (z7T : (List Sapi_Come) → Option (List Sapi_Come)) : Nat → (List Sapi_Come) → Int → Option (List Sapi_Come)
 | 0,_,_=>none
 | zjD + 1,z3x,z38=>if decide (z38 < z3m) then jp1 (fun (z54 : List Sapi_Come)=>yZ z3m z1m z37 z7T zjD z54 (i64 (z38 + 1))) fun zjE=>jp1 (fun (z55 : List Sapi_Come)=>zjE z55) fun z7S=>yY z1m z37 z7S yP z3x z38 else z7T z3x
theorem y2U {n : Nat} {z3m : Int} {z1m : Int} {z37 : Sapi_Come → Sapi_Come → Option Int} {z7T : (List Sapi_Come) → Option (List Sapi_Come)} {z3x : List Sapi_Come} {z38 : Int} {r : List Sapi_Come} (h : yZ z3m z1m z37 z7T n z3x z38 = some r) : ∃ m,n = m + 1:=by
 cases n with
 | zero=>cases h
 | succ m=>exact ⟨m,rfl⟩
def y1q (z27 : List Sapi_Come) (z1m : Int) (z3m : Int) (z37 : Sapi_Come → Sapi_Come → Option Int) : Option (List Sapi_Come) :=
 jp1 (fun (z6Q : List Sapi_Come)=>some z6Q) fun z7T=>yZ z3m z1m z37 z7T yP z27 (i64 (z1m + 1))
set_option maxRecDepth 20000 in
theorem y2j (Z : Zp) (z2V : Option Addr) (z1W : Nat) (z40 : FuncId) (z56 : List Value) (z27 : List Sapi_Come) (z1m : Int) (z3m : Int) (z37 : Sapi_Come → Sapi_Come → Option Int) (r : List Sapi_Come)
  (h : y1q z27 z1m z3m z37 = some r) (w₀ : World) (hz : PZ (fps [row (.slice z2V z27.length z1W) 50 3 (z27.flatMap e50)]) w₀ Z)
  (zvx : ∀ args w,(callFunc z40 args).run Try.prog w = .ok (.enter z40 args) w)
  (zvy : ∀ w : World,PZ [] w Z → ∀ (x0 : Sapi_Come) (x1 : Sapi_Come) (r : Int),z37 x0 x1 = some r → Calls Try.prog z40 (([(.agg #[(.int .i64 x0.fSent),(.int .i64 x0.fNode),(.int .i64 x0.fTime)]),(.agg #[(.int .i64 x1.fSent),(.int .i64 x1.fNode),(.int .i64 x1.fTime)])] : List Value) ++ z56).toArray w fun e w'=>e = .returned (.int .i64 r) ∧ Hp [] w w' [])
  (hown : Hp (fps [row (.slice z2V z27.length z1W) 50 3 (z27.flatMap e50)]) w₀ w₀ [row (.slice z2V z27.length z1W) 50 3 (z27.flatMap e50)]) :
  Calls Try.prog 66 #[(.slice z2V z27.length z1W),(.int .i64 z1m),(.int .i64 z3m),(.func (.func z40) #[] (z56).toArray)] w₀ fun e w'=>e = .returned (.tuple #[]) ∧ (r.length = z27.length) ∧ Hp (fps [row (.slice z2V z27.length z1W) 50 3 (z27.flatMap e50)]) w₀ w' [row (.slice z2V r.length z1W) 50 3 (r.flatMap e50)]:=by
 unfold y1q at h
 refine Calls.yo (vs:=[(.slice z2V z27.length z1W),(.int .i64 z1m),(.int .i64 z3m),(.func (.func z40) #[] (z56).toArray)]) (pre:=[row (.slice z2V z27.length z1W) 50 3 (z27.flatMap e50)]) (env:=[(0,(.slice z2V z27.length z1W)),(1,(.int .i64 z1m)),(2,(.int .i64 z3m)),(3,(.func (.func z40) #[] (z56).toArray))]) Try.func66 rfl Try.ntmps66 rfl (hown) rfl ?_
 refine WC.b (WC.a (WL.pu rfl (WL.pu rfl (WL.pu rfl (WL.nil (WX.a ?_))))))
 obtain ⟨z7T,zvz,h⟩:=yO h
 refine WC.y4J (fun (z6Q : List Sapi_Come)=>(z7T z6Q = some r) ∧ (z6Q.length = z27.length)) (fun (z6Q : List Sapi_Come)=>[]) (fun (z6Q : List Sapi_Come)=>[row (.slice z2V z6Q.length z1W) 50 3 (z6Q.flatMap e50)]) ?_ ?_
 ·skip
  refine WC.block ?_
  refine WC.y2c (fun (zbz : Nat) (z3x : List Sapi_Come) (z38 : Int)=>(yZ z3m z1m z37 z7T zbz z3x z38 = some r) ∧ (z3x.length = z27.length)) (fun (zbz : Nat) (z3x : List Sapi_Come) (z38 : Int)=>[(0,(.slice z2V z3x.length z1W)),(1,(.int .i64 z1m)),(2,(.int .i64 z3m)),(3,(.func (.func z40) #[] (z56).toArray)),(8,(.int .i64 z38))]) (fun (zbz : Nat) (z3x : List Sapi_Come) (z38 : Int)=>[row (.slice z2V z3x.length z1W) 50 3 (z3x.flatMap e50)]) (fun (zbz : Nat) (z3x : List Sapi_Come) (z38 : Int)=>zbz) ⟨yP,z27,(i64 (z1m + 1))⟩ ⟨h,rfl⟩ (.cons rfl (.cons rfl (.cons rfl (.cons rfl (.cons rfl .nil))))) (.cons .here .nil) ?_
  rintro zbz z3x z38 ⟨h,zoW⟩
  obtain ⟨zjD,rfl⟩:=y2U h
  rw [yZ] at h
  refine WC.b (WC.b (WC.a (WL.pu rfl (WL.pu rfl (WL.pu rfl (WL.nil (WX.a ?_)))))))
  refine WC.cond rfl (fun zjF=>?_) (fun zjF=>?_)
  ·replace h:=yg h zjF
   refine WC.skip (WX.a ?_)
   obtain ⟨zjE,zvA,h⟩:=yO h
   refine WC.y1Q (fun (z54 : List Sapi_Come)=>(zjE z54 = some r) ∧ (z54.length = z27.length)) (fun (z54 : List Sapi_Come)=>[(0,(.slice z2V z54.length z1W)),(1,(.int .i64 z1m)),(2,(.int .i64 z3m)),(3,(.func (.func z40) #[] (z56).toArray)),(8,(.int .i64 z38))]) (fun (z54 : List Sapi_Come)=>[row (.slice z2V z54.length z1W) 50 3 (z54.flatMap e50)]) ?_ ?_
   ·skip
    refine WC.block (WC.b (WC.a (WL.pu rfl (WL.pu rfl (WL.nil (WX.a ?_))))))
    obtain ⟨z7S,zvB,h⟩:=yO h
    refine WC.y4J (fun (z55 : List Sapi_Come)=>(z7S z55 = some r) ∧ (z55.length = z27.length)) (fun (z55 : List Sapi_Come)=>[(0,(.slice z2V z55.length z1W)),(1,(.int .i64 z1m)),(2,(.int .i64 z3m)),(3,(.func (.func z40) #[] (z56).toArray)),(8,(.int .i64 z38))]) (fun (z55 : List Sapi_Come)=>[row (.slice z2V z55.length z1W) 50 3 (z55.flatMap e50)]) ?_ ?_
    ·skip
     refine WC.block ?_
     refine WC.y2c (fun (zbA : Nat) (zh : List Sapi_Come) (za : Int)=>(yY z1m z37 z7S zbA zh za = some r) ∧ (zh.length = z27.length)) (fun (zbA : Nat) (zh : List Sapi_Come) (za : Int)=>[(0,(.slice z2V zh.length z1W)),(1,(.int .i64 z1m)),(2,(.int .i64 z3m)),(3,(.func (.func z40) #[] (z56).toArray)),(8,(.int .i64 z38)),(9,(.int .i64 za))]) (fun (zbA : Nat) (zh : List Sapi_Come) (za : Int)=>[row (.slice z2V zh.length z1W) 50 3 (zh.flatMap e50)]) (fun (zbA : Nat) (zh : List Sapi_Come) (za : Int)=>zbA) ⟨yP,z3x,z38⟩ ⟨h,zoW⟩ (.cons rfl (.cons rfl (.cons rfl (.cons rfl (.cons rfl (.cons rfl .nil)))))) (.cons .here .nil) ?_
     rintro zbA zh za ⟨h,zoX⟩
     obtain ⟨zjA,rfl⟩:=y2T h
     rw [yY] at h
     refine WC.b (WC.b ?_)
     obtain ⟨zjC,zoY,h⟩:=z8 h
     refine WC.yV (fun i=>[].contains i) [] rfl ?_
     refine WD.a (i:=0) (d:=18) (by kernel_rfl) rfl z2 z3 rfl rfl rfl (fun _=>q_m rfl) ?_
     refine WD.a (i:=1) (d:=19) (by kernel_rfl) rfl z2 z3 rfl rfl rfl (fun _=>q_m rfl) ?_
     refine WD.a (i:=2) (d:=20) (by kernel_rfl) rfl z2 z3 rfl rfl rfl (fun _=>y3t rfl rfl) ?_
     refine WD.a (i:=3) (d:=21) (by kernel_rfl) rfl z2 z3 rfl rfl rfl (fun _=>q_m rfl) ?_
     refine WD.mid (fuel':=0) [(0,(.slice z2V zh.length z1W)),(1,(.int .i64 z1m)),(2,(.int .i64 z3m)),(3,(.func (.func z40) #[] (z56).toArray)),(8,(.int .i64 z38)),(9,(.int .i64 za)),(18,(.int .i64 za)),(19,(.int .i64 z1m)),(20,(.bool (decide (za > z1m)))),(21,(.bool (decide (za > z1m)))),(34,(.bool zjC))] (y1z 17 [16,15,14,13,12,11,10,9,8,7,6,5,4,3,2,1,0]) ?_ (fun zoZ=>?_)
     rotate_left
     ·rcases Bool.eq_false_or_eq_true (decide (za > z1m)) with hb' | hb'
      ·have zjG:=hb'; clear hb'
       have z7U:=yg zoY zjG
       obtain ⟨zek,z7U⟩:=ye z7U
       obtain ⟨zgg,z7U⟩:=ye z7U
       obtain ⟨zjB,zvC,z7U⟩:=z8 z7U
       replace z7U:=Option.some.inj z7U
       refine WD.pin (i:=21) rfl zjG ?_
       refine WD.a (i:=4) (d:=22) (by kernel_rfl) rfl z2 z3 rfl rfl rfl (fun _=>q_m rfl) ?_
       refine WD.a (i:=5) (d:=23) (by kernel_rfl) rfl z2 z3 rfl rfl rfl (fun _=>q_m rfl) ?_
       refine WD.a (i:=6) (d:=24) (by kernel_rfl) rfl z2 z3 rfl rfl rfl (fun _=>q_m rfl) ?_
       refine WD.know (fun w hw=>Hp.y15 .here hw (by intro hz'; have:=zek; rw [hz'] at this; omega)) ?_
       rintro ⟨zD7,rfl⟩
       refine WD.a (i:=7) (d:=25) (by kernel_rfl) rfl z2 z3 rfl rfl rfl (fun _=>ym y19 rfl rfl zek.1 zek.2 yM) ?_
       refine WD.e (i:=8) (d:=26) (by kernel_rfl) rfl z2 z3 rfl rfl rfl (y1y (cs:=(e50 (nth zh za))) y1Z rfl rfl (y1K .here (y1A (enc:=e50) (l:=zh) (i:=za) (sz:=3) (fun _=>rfl) zek.1 zek.2))) ?_
       refine WD.a (i:=9) (d:=27) (by kernel_rfl) rfl z2 z3 rfl rfl rfl (fun _=>q_m rfl) ?_
       refine WD.a (i:=10) (d:=28) (by kernel_rfl) rfl z2 z3 rfl rfl rfl (fun _=>q_m rfl) ?_
       refine WD.a (i:=11) (d:=29) (by kernel_rfl) rfl z2 z3 rfl rfl rfl (fun _=>y4y rfl rfl rfl) ?_
       refine WD.a (i:=12) (d:=30) (by kernel_rfl) rfl z2 z3 rfl rfl rfl (fun _=>ym y19 rfl rfl zgg.1 zgg.2 yM) ?_
       refine WD.e (i:=13) (d:=31) (by kernel_rfl) rfl z2 z3 rfl rfl rfl (y1y (cs:=(e50 (nth zh (i64 (za - 1))))) y1Z rfl rfl (y1K .here (y1A (enc:=e50) (l:=zh) (i:=i64 (za - 1)) (sz:=3) (fun _=>rfl) zgg.1 zgg.2))) ?_
       refine WD.c (i:=14) (d:=32) (by kernel_rfl) rfl z2 z3 rfl rfl rfl (y3s (l:=[.tmp 26,.tmp 31]) (f:=z40) (caps:=z56) zvx rfl (.cons rfl (.cons rfl .nil))) (fun w hw=>zvy w (hz.now hw) (⟨((nth zh za).fSent),((nth zh za).fNode),((nth zh za).fTime)⟩ : Sapi_Come) (⟨((nth zh (i64 (za - 1))).fSent),((nth zh (i64 (za - 1))).fNode),((nth zh (i64 (za - 1))).fTime)⟩ : Sapi_Come) zjB  zvC) ?_
       refine WD.a (i:=15) (d:=33) (by kernel_rfl) rfl z2 z3 rfl rfl rfl (fun _=>y39 rfl rfl) ?_
       refine WD.a (i:=16) (d:=34) (by kernel_rfl) rfl z2 z3 rfl rfl rfl (fun _=>y1s rfl rfl) ?_
       refine WD.yN (.cons .here .nil) ?_ zoZ
       exact (.cons rfl (.cons rfl (.cons rfl (.cons rfl (.cons rfl (.cons rfl (.cons rfl (.cons rfl (.cons rfl (.cons (zi (Eq.symm zjG)) (.cons (zi z7U) .nil)))))))))))
      ·have zjH:=hb'; clear hb'
       have zjI:=yh zoY zjH
       replace zjI:=Option.some.inj zjI
       refine WD.pin (i:=21) rfl zjH ?_
       refine WD.b (i:=4) (d:=22) (by kernel_rfl) rfl z2 z3 rfl rfl rfl ?_
       refine WD.b (i:=5) (d:=23) (by kernel_rfl) rfl z2 z3 rfl rfl rfl ?_
       refine WD.b (i:=6) (d:=24) (by kernel_rfl) rfl z2 z3 rfl rfl rfl ?_
       refine WD.b (i:=7) (d:=25) (by kernel_rfl) rfl z2 z3 rfl rfl rfl ?_
       refine WD.b (i:=8) (d:=26) (by kernel_rfl) rfl z2 z3 rfl rfl rfl ?_
       refine WD.b (i:=9) (d:=27) (by kernel_rfl) rfl z2 z3 rfl rfl rfl ?_
       refine WD.b (i:=10) (d:=28) (by kernel_rfl) rfl z2 z3 rfl rfl rfl ?_
       refine WD.b (i:=11) (d:=29) (by kernel_rfl) rfl z2 z3 rfl rfl rfl ?_
       refine WD.b (i:=12) (d:=30) (by kernel_rfl) rfl z2 z3 rfl rfl rfl ?_
       refine WD.b (i:=13) (d:=31) (by kernel_rfl) rfl z2 z3 rfl rfl rfl ?_
       refine WD.b (i:=14) (d:=32) (by kernel_rfl) rfl z2 z3 rfl rfl rfl ?_
       refine WD.b (i:=15) (d:=33) (by kernel_rfl) rfl z2 z3 rfl rfl rfl ?_
       refine WD.a (i:=16) (d:=34) (by kernel_rfl) rfl z2 z3 rfl rfl rfl (fun _=>y1t rfl rfl) ?_
       refine WD.yN (.cons .here .nil) ?_ zoZ
       exact (.cons rfl (.cons rfl (.cons rfl (.cons rfl (.cons rfl (.cons rfl (.cons rfl (.cons rfl (.cons rfl (.cons (zi (Eq.symm zjH)) (.cons (zi zjI) .nil)))))))))))
     refine WD.done (by kernel_rfl) ?_
     refine WX.a ?_
     refine WC.cond rfl (fun zjJ=>?_) (fun zjJ=>?_)
     ·replace h:=yg h zjJ
      refine WC.skip (WX.a (WC.b (WC.block ?_)))
      obtain ⟨zel,h⟩:=ye h
      obtain ⟨z6R,h⟩:=ye h
      obtain ⟨zbB,h⟩:=ye h
      refine WC.yV (fun i=>[15,17].contains i) [] rfl ?_
      refine WD.a (i:=0) (d:=37) (by kernel_rfl) rfl z2 z3 rfl rfl rfl (fun _=>q_m rfl) ?_
      refine WD.a (i:=1) (d:=38) (by kernel_rfl) rfl z2 z3 rfl rfl rfl (fun _=>q_m rfl) ?_
      refine WD.a (i:=2) (d:=39) (by kernel_rfl) rfl z2 z3 rfl rfl rfl (fun _=>q_m rfl) ?_
      refine WD.a (i:=3) (d:=40) (by kernel_rfl) rfl z2 z3 rfl rfl rfl (fun _=>q_m rfl) ?_
      refine WD.a (i:=4) (d:=41) (by kernel_rfl) rfl z2 z3 rfl rfl rfl (fun _=>y4y rfl rfl rfl) ?_
      refine WD.a (i:=5) (d:=42) (by kernel_rfl) rfl z2 z3 rfl rfl rfl (fun _=>q_m rfl) ?_
      refine WD.a (i:=6) (d:=43) (by kernel_rfl) rfl z2 z3 rfl rfl rfl (fun _=>q_m rfl) ?_
      refine WD.a (i:=7) (d:=44) (by kernel_rfl) rfl z2 z3 rfl rfl rfl (fun _=>y4y rfl rfl rfl) ?_
      refine WD.know (fun w hw=>Hp.y15 .here hw (by intro hz'; have:=zel; rw [hz'] at this; omega)) ?_
      rintro ⟨zem,rfl⟩
      refine WD.a (i:=8) (d:=45) (by kernel_rfl) rfl z2 z3 rfl rfl rfl (fun _=>ym y19 rfl rfl zel.1 zel.2 yM) ?_
      refine WD.e (i:=9) (d:=46) (by kernel_rfl) rfl z2 z3 rfl rfl rfl (y1y (cs:=(e50 (nth zh (i64 (za - 1))))) y1Z rfl rfl (y1K .here (y1A (enc:=e50) (l:=zh) (i:=i64 (za - 1)) (sz:=3) (fun _=>rfl) zel.1 zel.2))) ?_
      refine WD.a (i:=10) (d:=47) (by kernel_rfl) rfl z2 z3 rfl rfl rfl (fun _=>q_m rfl) ?_
      refine WD.a (i:=11) (d:=48) (by kernel_rfl) rfl z2 z3 rfl rfl rfl (fun _=>q_m rfl) ?_
      refine WD.a (i:=12) (d:=49) (by kernel_rfl) rfl z2 z3 rfl rfl rfl (fun _=>ym y19 rfl rfl z6R.1 z6R.2 yM) ?_
      refine WD.e (i:=13) (d:=50) (by kernel_rfl) rfl z2 z3 rfl rfl rfl (y1y (cs:=(e50 (nth zh za))) y1Z rfl rfl (y1K .here (y1A (enc:=e50) (l:=zh) (i:=za) (sz:=3) (fun _=>rfl) z6R.1 z6R.2))) ?_
      refine WD.a (i:=14) (d:=51) (by kernel_rfl) rfl z2 z3 rfl rfl rfl (fun _=>ym y19 rfl rfl z6R.1 z6R.2 yM) ?_
      refine WD.forced0 (i:=15) rfl (by kernel_rfl) rfl rfl rfl (Sin.of .nil) (y12 (vs:=[(.int .i64 ((nth zh (i64 (za - 1))).fSent)),(.int .i64 ((nth zh (i64 (za - 1))).fNode)),(.int .i64 ((nth zh (i64 (za - 1))).fTime))]) (ds:=(zh.set (za : Int).toNat (⟨((nth zh (i64 (za - 1))).fSent),((nth zh (i64 (za - 1))).fNode),((nth zh (i64 (za - 1))).fTime)⟩ : Sapi_Come)).flatMap e50) y48 rfl rfl rfl rfl (ocB rfl) .here (y2e (enc:=e50) (sz:=3) (k:=0) (fun _=>rfl) z6R.1 z6R.2 (by decide)) (y2d (enc:=e50) (l:=zh) (sz:=3) (vs:=[(.int .i64 ((nth zh (i64 (za - 1))).fSent)),(.int .i64 ((nth zh (i64 (za - 1))).fNode)),(.int .i64 ((nth zh (i64 (za - 1))).fTime))]) (y:=(⟨((nth zh (i64 (za - 1))).fSent),((nth zh (i64 (za - 1))).fNode),((nth zh (i64 (za - 1))).fTime)⟩ : Sapi_Come)) (k:=0) (fun _=>rfl) z6R.1 z6R.2 rfl (Nat.le_of_ble_eq_true rfl))) ?_
      refine WD.relen .here (u:=(.slice (some ⟨zem,0,none⟩) ((zh.set (za : Int).toNat (⟨((nth zh (i64 (za - 1))).fSent),((nth zh (i64 (za - 1))).fNode),((nth zh (i64 (za - 1))).fTime)⟩ : Sapi_Come)).length) z1W)) (yR (List.length_set).symm) ?_
      refine WD.repin (i:=0) rfl (u:=(.slice (some ⟨zem,0,none⟩) ((zh.set (za : Int).toNat (⟨((nth zh (i64 (za - 1))).fSent),((nth zh (i64 (za - 1))).fNode),((nth zh (i64 (za - 1))).fTime)⟩ : Sapi_Come)).length) z1W)) (yR (List.length_set).symm) ?_
      refine WD.repin (i:=39) rfl (u:=(.slice (some ⟨zem,0,none⟩) ((zh.set (za : Int).toNat (⟨((nth zh (i64 (za - 1))).fSent),((nth zh (i64 (za - 1))).fNode),((nth zh (i64 (za - 1))).fTime)⟩ : Sapi_Come)).length) z1W)) (yR (List.length_set).symm) ?_
      refine WD.a (i:=16) (d:=52) (by kernel_rfl) rfl z2 z3 rfl rfl rfl (fun _=>ym y19 rfl rfl zbB.1 zbB.2 yM) ?_
      refine WD.y2J (i:=17) rfl (by kernel_rfl) rfl rfl rfl (by kernel_rfl) (y12 (vs:=[(.int .i64 ((nth zh za).fSent)),(.int .i64 ((nth zh za).fNode)),(.int .i64 ((nth zh za).fTime))]) (ds:=((zh.set (za : Int).toNat (⟨((nth zh (i64 (za - 1))).fSent),((nth zh (i64 (za - 1))).fNode),((nth zh (i64 (za - 1))).fTime)⟩ : Sapi_Come)).set ((i64 (za - 1)) : Int).toNat (⟨((nth zh za).fSent),((nth zh za).fNode),((nth zh za).fTime)⟩ : Sapi_Come)).flatMap e50) y48 rfl rfl rfl rfl (ocB rfl) .here (y2e (enc:=e50) (sz:=3) (k:=0) (fun _=>rfl) zbB.1 zbB.2 (by decide)) (y2d (enc:=e50) (l:=zh.set (za : Int).toNat (⟨((nth zh (i64 (za - 1))).fSent),((nth zh (i64 (za - 1))).fNode),((nth zh (i64 (za - 1))).fTime)⟩ : Sapi_Come)) (sz:=3) (vs:=[(.int .i64 ((nth zh za).fSent)),(.int .i64 ((nth zh za).fNode)),(.int .i64 ((nth zh za).fTime))]) (y:=(⟨((nth zh za).fSent),((nth zh za).fNode),((nth zh za).fTime)⟩ : Sapi_Come)) (k:=0) (fun _=>rfl) zbB.1 zbB.2 rfl (Nat.le_of_ble_eq_true rfl))) ?_
      refine WD.relen .here (u:=(.slice (some ⟨zem,0,none⟩) (((zh.set (za : Int).toNat (⟨((nth zh (i64 (za - 1))).fSent),((nth zh (i64 (za - 1))).fNode),((nth zh (i64 (za - 1))).fTime)⟩ : Sapi_Come)).set ((i64 (za - 1)) : Int).toNat (⟨((nth zh za).fSent),((nth zh za).fNode),((nth zh za).fTime)⟩ : Sapi_Come)).length) z1W)) (yR (List.length_set).symm) ?_
      refine WD.repin (i:=0) rfl (u:=(.slice (some ⟨zem,0,none⟩) (((zh.set (za : Int).toNat (⟨((nth zh (i64 (za - 1))).fSent),((nth zh (i64 (za - 1))).fNode),((nth zh (i64 (za - 1))).fTime)⟩ : Sapi_Come)).set ((i64 (za - 1)) : Int).toNat (⟨((nth zh za).fSent),((nth zh za).fNode),((nth zh za).fTime)⟩ : Sapi_Come)).length) z1W)) (yR (List.length_set).symm) ?_
      refine WD.done (by kernel_rfl) ?_
      refine WX.yf (WX.a (WC.a (WL.pu rfl (WL.pu rfl (WL.pu rfl (WL.nil ?_))))))
      exact WX.round (G:=Nat × List Sapi_Come × Int) ⟨zjA,((zh.set (za : Int).toNat (⟨((nth zh (i64 (za - 1))).fSent),((nth zh (i64 (za - 1))).fNode),((nth zh (i64 (za - 1))).fTime)⟩ : Sapi_Come)).set ((i64 (za - 1)) : Int).toNat (⟨((nth zh za).fSent),((nth zh za).fNode),((nth zh za).fTime)⟩ : Sapi_Come)),(i64 (za - 1))⟩ ⟨h,((List.length_set).trans ((List.length_set).trans zoX))⟩ (Nat.lt_succ_self _) (.cons rfl (.cons rfl (.cons rfl (.cons rfl (.cons rfl (.cons rfl .nil)))))) (.cons .here .nil)
     ·replace h:=yh h zjJ
      refine WC.exit (WX.yk (WX.yk (WX.yC ?_)))
      exact WX.mid (G:=List Sapi_Come) zh ⟨h,zoX⟩ (.cons rfl (.cons rfl (.cons rfl (.cons rfl (.cons rfl .nil))))) (.cons .here .nil)
    ·rintro z55 ⟨h,zvD⟩
     replace h:=(zvB z55).symm.trans h
     refine WX.yf ?_
     exact WX.mid (G:=List Sapi_Come) z55 ⟨h,zvD⟩ (.cons rfl (.cons rfl (.cons rfl (.cons rfl (.cons rfl .nil))))) (.cons .here .nil)
   ·rintro z54 ⟨h,zvE⟩
    replace h:=(zvA z54).symm.trans h
    refine WC.a (WL.pu rfl (WL.pu rfl (WL.pu rfl (WL.nil ?_))))
    exact WX.round (G:=Nat × List Sapi_Come × Int) ⟨zjD,z54,(i64 (z38 + 1))⟩ ⟨h,zvE⟩ (Nat.lt_succ_self _) (.cons rfl (.cons rfl (.cons rfl (.cons rfl (.cons rfl .nil))))) (.cons .here .nil)
  ·replace h:=yh h zjF
   refine WC.exit (WX.yk (WX.yk (WX.yC ?_)))
   exact WX.mid (G:=List Sapi_Come) z3x ⟨h,zoW⟩ .nil (.cons .here .nil)
 ·rintro z6Q ⟨h,zvF⟩
  replace h:=(zvz z6Q).symm.trans h
  obtain rfl:=Option.some.inj h
  refine WX.y1L Try.results66 .nil (fun w hw=>?_)
  exact ⟨y3Z,zvF,hw.sub (.cons .here .nil)⟩
def y16 (z4e : Int) (zG : Int) (zP : Int) (z7V : (List Sapi_Come) → Option (List Sapi_Come)) : Nat → (List Sapi_Come) → Int → Option (List Sapi_Come)
 | 0,_,_=>none
 | zjK + 1,zq,zk=>if decide (zk < z4e) then chk ((0 : Int) ≤ (i64 (zG + zk)) ∧ (i64 (zG + zk)) < ((zq.length : Nat) : Int)) (chk ((0 : Int) ≤ (i64 (zP + zk)) ∧ (i64 (zP + zk)) < ((zq.length : Nat) : Int)) (chk ((0 : Int) ≤ (i64 (zG + zk)) ∧ (i64 (zG + zk)) < (((zq.set ((i64 (zP + zk)) : Int).toNat (⟨((nth zq (i64 (zG + zk))).fSent),((nth zq (i64 (zG + zk))).fNode),((nth zq (i64 (zG + zk))).fTime)⟩ : Sapi_Come)).length : Nat) : Int)) (y16 z4e zG zP z7V zjK ((zq.set ((i64 (zP + zk)) : Int).toNat (⟨((nth zq (i64 (zG + zk))).fSent),((nth zq (i64 (zG + zk))).fNode),((nth zq (i64 (zG + zk))).fTime)⟩ : Sapi_Come)).set ((i64 (zG + zk)) : Int).toNat (⟨((nth zq (i64 (zP + zk))).fSent),((nth zq (i64 (zP + zk))).fNode),((nth zq (i64 (zP + zk))).fTime)⟩ : Sapi_Come)) (i64 (zk + 1))))) else z7V zq
theorem y3j {n : Nat} {z4e : Int} {zG : Int} {zP : Int} {z7V : (List Sapi_Come) → Option (List Sapi_Come)} {zq : List Sapi_Come} {zk : Int} {r : List Sapi_Come} (h : y16 z4e zG zP z7V n zq zk = some r) : ∃ m,n = m + 1:=by
 cases n with
 | zero=>cases h
 | succ m=>exact ⟨m,rfl⟩
def y1h (z2G : List Sapi_Come) (zP : Int) (zG : Int) (z4e : Int) (zbC : Sapi_Come → Sapi_Come → Option Int) : Option (List Sapi_Come) :=
 jp1 (fun (z6S : List Sapi_Come)=>some z6S) fun z7V=>y16 z4e zG zP z7V yP z2G 0
set_option maxRecDepth 20000 in
theorem y1Y (Z : Zp) (z57 : Option Addr) (z3n : Nat) (z7W : FuncId) (z9Y : List Value) (z2G : List Sapi_Come) (zP : Int) (zG : Int) (z4e : Int) (zbC : Sapi_Come → Sapi_Come → Option Int) (r : List Sapi_Come)
  (h : y1h z2G zP zG z4e zbC = some r) (w₀ : World) (hz : PZ (fps [row (.slice z57 z2G.length z3n) 50 3 (z2G.flatMap e50)]) w₀ Z)
  (zD8 : ∀ args w,(callFunc z7W args).run Try.prog w = .ok (.enter z7W args) w)
  (zD9 : ∀ w : World,PZ [] w Z → ∀ (x0 : Sapi_Come) (x1 : Sapi_Come) (r : Int),zbC x0 x1 = some r → Calls Try.prog z7W (([(.agg #[(.int .i64 x0.fSent),(.int .i64 x0.fNode),(.int .i64 x0.fTime)]),(.agg #[(.int .i64 x1.fSent),(.int .i64 x1.fNode),(.int .i64 x1.fTime)])] : List Value) ++ z9Y).toArray w fun e w'=>e = .returned (.int .i64 r) ∧ Hp [] w w' [])
  (hown : Hp (fps [row (.slice z57 z2G.length z3n) 50 3 (z2G.flatMap e50)]) w₀ w₀ [row (.slice z57 z2G.length z3n) 50 3 (z2G.flatMap e50)]) :
  Calls Try.prog 69 #[(.slice z57 z2G.length z3n),(.int .i64 zP),(.int .i64 zG),(.int .i64 z4e),(.func (.func z7W) #[] (z9Y).toArray)] w₀ fun e w'=>e = .returned (.tuple #[]) ∧ (r.length = z2G.length) ∧ Hp (fps [row (.slice z57 z2G.length z3n) 50 3 (z2G.flatMap e50)]) w₀ w' [row (.slice z57 r.length z3n) 50 3 (r.flatMap e50)]:=by
 unfold y1h at h
 refine Calls.yo (vs:=[(.slice z57 z2G.length z3n),(.int .i64 zP),(.int .i64 zG),(.int .i64 z4e),(.func (.func z7W) #[] (z9Y).toArray)]) (pre:=[row (.slice z57 z2G.length z3n) 50 3 (z2G.flatMap e50)]) (env:=[(0,(.slice z57 z2G.length z3n)),(1,(.int .i64 zP)),(2,(.int .i64 zG)),(3,(.int .i64 z4e)),(4,(.func (.func z7W) #[] (z9Y).toArray))]) Try.func69 rfl Try.ntmps69 rfl (hown) rfl ?_
 refine WC.b (WC.a (WL.pu rfl (WL.nil (WX.a ?_))))
 obtain ⟨z7V,zvG,h⟩:=yO h
 refine WC.y4J (fun (z6S : List Sapi_Come)=>(z7V z6S = some r) ∧ (z6S.length = z2G.length)) (fun (z6S : List Sapi_Come)=>[]) (fun (z6S : List Sapi_Come)=>[row (.slice z57 z6S.length z3n) 50 3 (z6S.flatMap e50)]) ?_ ?_
 ·skip
  refine WC.block ?_
  refine WC.y2c (fun (zbD : Nat) (zq : List Sapi_Come) (zk : Int)=>(y16 z4e zG zP z7V zbD zq zk = some r) ∧ (zq.length = z2G.length)) (fun (zbD : Nat) (zq : List Sapi_Come) (zk : Int)=>[(0,(.slice z57 zq.length z3n)),(1,(.int .i64 zP)),(2,(.int .i64 zG)),(3,(.int .i64 z4e)),(10,(.int .i64 zk))]) (fun (zbD : Nat) (zq : List Sapi_Come) (zk : Int)=>[row (.slice z57 zq.length z3n) 50 3 (zq.flatMap e50)]) (fun (zbD : Nat) (zq : List Sapi_Come) (zk : Int)=>zbD) ⟨yP,z2G,0⟩ ⟨h,rfl⟩ (.cons rfl (.cons rfl (.cons rfl (.cons rfl (.cons rfl .nil))))) (.cons .here .nil) ?_
  rintro zbD zq zk ⟨h,zp0⟩
  obtain ⟨zjK,rfl⟩:=y3j h
  rw [y16] at h
  refine WC.b (WC.b (WC.a (WL.pu rfl (WL.pu rfl (WL.pu rfl (WL.nil (WX.a ?_)))))))
  refine WC.cond rfl (fun zjL=>?_) (fun zjL=>?_)
  ·replace h:=yg h zjL
   refine WC.skip (WX.a (WC.b (WC.block ?_)))
   obtain ⟨zen,h⟩:=ye h
   obtain ⟨z6T,h⟩:=ye h
   obtain ⟨zbE,h⟩:=ye h
   refine WC.yV (fun i=>[21,23].contains i) [] rfl ?_
   refine WD.a (i:=0) (d:=16) (by kernel_rfl) rfl z2 z3 rfl rfl rfl (fun _=>q_m rfl) ?_
   refine WD.a (i:=1) (d:=17) (by kernel_rfl) rfl z2 z3 rfl rfl rfl (fun _=>q_m rfl) ?_
   refine WD.a (i:=2) (d:=18) (by kernel_rfl) rfl z2 z3 rfl rfl rfl (fun _=>q_m rfl) ?_
   refine WD.a (i:=3) (d:=19) (by kernel_rfl) rfl z2 z3 rfl rfl rfl (fun _=>y4x rfl rfl rfl) ?_
   refine WD.a (i:=4) (d:=20) (by kernel_rfl) rfl z2 z3 rfl rfl rfl (fun _=>q_m rfl) ?_
   refine WD.a (i:=5) (d:=21) (by kernel_rfl) rfl z2 z3 rfl rfl rfl (fun _=>q_m rfl) ?_
   refine WD.a (i:=6) (d:=22) (by kernel_rfl) rfl z2 z3 rfl rfl rfl (fun _=>q_m rfl) ?_
   refine WD.a (i:=7) (d:=23) (by kernel_rfl) rfl z2 z3 rfl rfl rfl (fun _=>y4x rfl rfl rfl) ?_
   refine WD.a (i:=8) (d:=24) (by kernel_rfl) rfl z2 z3 rfl rfl rfl (fun _=>q_m rfl) ?_
   refine WD.a (i:=9) (d:=25) (by kernel_rfl) rfl z2 z3 rfl rfl rfl (fun _=>q_m rfl) ?_
   refine WD.a (i:=10) (d:=26) (by kernel_rfl) rfl z2 z3 rfl rfl rfl (fun _=>q_m rfl) ?_
   refine WD.a (i:=11) (d:=27) (by kernel_rfl) rfl z2 z3 rfl rfl rfl (fun _=>y4x rfl rfl rfl) ?_
   refine WD.know (fun w hw=>Hp.y15 .here hw (by intro hz'; have:=zen; rw [hz'] at this; omega)) ?_
   rintro ⟨zeo,rfl⟩
   refine WD.a (i:=12) (d:=28) (by kernel_rfl) rfl z2 z3 rfl rfl rfl (fun _=>ym y19 rfl rfl zen.1 zen.2 yM) ?_
   refine WD.e (i:=13) (d:=29) (by kernel_rfl) rfl z2 z3 rfl rfl rfl (y1y (cs:=(e50 (nth zq (i64 (zG + zk))))) y1Z rfl rfl (y1K .here (y1A (enc:=e50) (l:=zq) (i:=i64 (zG + zk)) (sz:=3) (fun _=>rfl) zen.1 zen.2))) ?_
   refine WD.a (i:=14) (d:=30) (by kernel_rfl) rfl z2 z3 rfl rfl rfl (fun _=>q_m rfl) ?_
   refine WD.a (i:=15) (d:=31) (by kernel_rfl) rfl z2 z3 rfl rfl rfl (fun _=>q_m rfl) ?_
   refine WD.a (i:=16) (d:=32) (by kernel_rfl) rfl z2 z3 rfl rfl rfl (fun _=>q_m rfl) ?_
   refine WD.a (i:=17) (d:=33) (by kernel_rfl) rfl z2 z3 rfl rfl rfl (fun _=>y4x rfl rfl rfl) ?_
   refine WD.a (i:=18) (d:=34) (by kernel_rfl) rfl z2 z3 rfl rfl rfl (fun _=>ym y19 rfl rfl z6T.1 z6T.2 yM) ?_
   refine WD.e (i:=19) (d:=35) (by kernel_rfl) rfl z2 z3 rfl rfl rfl (y1y (cs:=(e50 (nth zq (i64 (zP + zk))))) y1Z rfl rfl (y1K .here (y1A (enc:=e50) (l:=zq) (i:=i64 (zP + zk)) (sz:=3) (fun _=>rfl) z6T.1 z6T.2))) ?_
   refine WD.a (i:=20) (d:=36) (by kernel_rfl) rfl z2 z3 rfl rfl rfl (fun _=>ym y19 rfl rfl z6T.1 z6T.2 yM) ?_
   refine WD.forced0 (i:=21) rfl (by kernel_rfl) rfl rfl rfl (Sin.of .nil) (y12 (vs:=[(.int .i64 ((nth zq (i64 (zG + zk))).fSent)),(.int .i64 ((nth zq (i64 (zG + zk))).fNode)),(.int .i64 ((nth zq (i64 (zG + zk))).fTime))]) (ds:=(zq.set ((i64 (zP + zk)) : Int).toNat (⟨((nth zq (i64 (zG + zk))).fSent),((nth zq (i64 (zG + zk))).fNode),((nth zq (i64 (zG + zk))).fTime)⟩ : Sapi_Come)).flatMap e50) y48 rfl rfl rfl rfl (ocB rfl) .here (y2e (enc:=e50) (sz:=3) (k:=0) (fun _=>rfl) z6T.1 z6T.2 (by decide)) (y2d (enc:=e50) (l:=zq) (sz:=3) (vs:=[(.int .i64 ((nth zq (i64 (zG + zk))).fSent)),(.int .i64 ((nth zq (i64 (zG + zk))).fNode)),(.int .i64 ((nth zq (i64 (zG + zk))).fTime))]) (y:=(⟨((nth zq (i64 (zG + zk))).fSent),((nth zq (i64 (zG + zk))).fNode),((nth zq (i64 (zG + zk))).fTime)⟩ : Sapi_Come)) (k:=0) (fun _=>rfl) z6T.1 z6T.2 rfl (Nat.le_of_ble_eq_true rfl))) ?_
   refine WD.relen .here (u:=(.slice (some ⟨zeo,0,none⟩) ((zq.set ((i64 (zP + zk)) : Int).toNat (⟨((nth zq (i64 (zG + zk))).fSent),((nth zq (i64 (zG + zk))).fNode),((nth zq (i64 (zG + zk))).fTime)⟩ : Sapi_Come)).length) z3n)) (yR (List.length_set).symm) ?_
   refine WD.repin (i:=0) rfl (u:=(.slice (some ⟨zeo,0,none⟩) ((zq.set ((i64 (zP + zk)) : Int).toNat (⟨((nth zq (i64 (zG + zk))).fSent),((nth zq (i64 (zG + zk))).fNode),((nth zq (i64 (zG + zk))).fTime)⟩ : Sapi_Come)).length) z3n)) (yR (List.length_set).symm) ?_
   refine WD.repin (i:=20) rfl (u:=(.slice (some ⟨zeo,0,none⟩) ((zq.set ((i64 (zP + zk)) : Int).toNat (⟨((nth zq (i64 (zG + zk))).fSent),((nth zq (i64 (zG + zk))).fNode),((nth zq (i64 (zG + zk))).fTime)⟩ : Sapi_Come)).length) z3n)) (yR (List.length_set).symm) ?_
   refine WD.a (i:=22) (d:=37) (by kernel_rfl) rfl z2 z3 rfl rfl rfl (fun _=>ym y19 rfl rfl zbE.1 zbE.2 yM) ?_
   refine WD.y2J (i:=23) rfl (by kernel_rfl) rfl rfl rfl (by kernel_rfl) (y12 (vs:=[(.int .i64 ((nth zq (i64 (zP + zk))).fSent)),(.int .i64 ((nth zq (i64 (zP + zk))).fNode)),(.int .i64 ((nth zq (i64 (zP + zk))).fTime))]) (ds:=((zq.set ((i64 (zP + zk)) : Int).toNat (⟨((nth zq (i64 (zG + zk))).fSent),((nth zq (i64 (zG + zk))).fNode),((nth zq (i64 (zG + zk))).fTime)⟩ : Sapi_Come)).set ((i64 (zG + zk)) : Int).toNat (⟨((nth zq (i64 (zP + zk))).fSent),((nth zq (i64 (zP + zk))).fNode),((nth zq (i64 (zP + zk))).fTime)⟩ : Sapi_Come)).flatMap e50) y48 rfl rfl rfl rfl (ocB rfl) .here (y2e (enc:=e50) (sz:=3) (k:=0) (fun _=>rfl) zbE.1 zbE.2 (by decide)) (y2d (enc:=e50) (l:=zq.set ((i64 (zP + zk)) : Int).toNat (⟨((nth zq (i64 (zG + zk))).fSent),((nth zq (i64 (zG + zk))).fNode),((nth zq (i64 (zG + zk))).fTime)⟩ : Sapi_Come)) (sz:=3) (vs:=[(.int .i64 ((nth zq (i64 (zP + zk))).fSent)),(.int .i64 ((nth zq (i64 (zP + zk))).fNode)),(.int .i64 ((nth zq (i64 (zP + zk))).fTime))]) (y:=(⟨((nth zq (i64 (zP + zk))).fSent),((nth zq (i64 (zP + zk))).fNode),((nth zq (i64 (zP + zk))).fTime)⟩ : Sapi_Come)) (k:=0) (fun _=>rfl) zbE.1 zbE.2 rfl (Nat.le_of_ble_eq_true rfl))) ?_
   refine WD.relen .here (u:=(.slice (some ⟨zeo,0,none⟩) (((zq.set ((i64 (zP + zk)) : Int).toNat (⟨((nth zq (i64 (zG + zk))).fSent),((nth zq (i64 (zG + zk))).fNode),((nth zq (i64 (zG + zk))).fTime)⟩ : Sapi_Come)).set ((i64 (zG + zk)) : Int).toNat (⟨((nth zq (i64 (zP + zk))).fSent),((nth zq (i64 (zP + zk))).fNode),((nth zq (i64 (zP + zk))).fTime)⟩ : Sapi_Come)).length) z3n)) (yR (List.length_set).symm) ?_
   refine WD.repin (i:=0) rfl (u:=(.slice (some ⟨zeo,0,none⟩) (((zq.set ((i64 (zP + zk)) : Int).toNat (⟨((nth zq (i64 (zG + zk))).fSent),((nth zq (i64 (zG + zk))).fNode),((nth zq (i64 (zG + zk))).fTime)⟩ : Sapi_Come)).set ((i64 (zG + zk)) : Int).toNat (⟨((nth zq (i64 (zP + zk))).fSent),((nth zq (i64 (zP + zk))).fNode),((nth zq (i64 (zP + zk))).fTime)⟩ : Sapi_Come)).length) z3n)) (yR (List.length_set).symm) ?_
   refine WD.done (by kernel_rfl) ?_
   refine WX.yf (WX.a (WC.a (WL.pu rfl (WL.pu rfl (WL.pu rfl (WL.nil ?_))))))
   exact WX.round (G:=Nat × List Sapi_Come × Int) ⟨zjK,((zq.set ((i64 (zP + zk)) : Int).toNat (⟨((nth zq (i64 (zG + zk))).fSent),((nth zq (i64 (zG + zk))).fNode),((nth zq (i64 (zG + zk))).fTime)⟩ : Sapi_Come)).set ((i64 (zG + zk)) : Int).toNat (⟨((nth zq (i64 (zP + zk))).fSent),((nth zq (i64 (zP + zk))).fNode),((nth zq (i64 (zP + zk))).fTime)⟩ : Sapi_Come)),(i64 (zk + 1))⟩ ⟨h,((List.length_set).trans ((List.length_set).trans zp0))⟩ (Nat.lt_succ_self _) (.cons rfl (.cons rfl (.cons rfl (.cons rfl (.cons rfl .nil))))) (.cons .here .nil)
  ·replace h:=yh h zjL
   refine WC.exit (WX.yk (WX.yk (WX.yC ?_)))
   exact WX.mid (G:=List Sapi_Come) zq ⟨h,zp0⟩ .nil (.cons .here .nil)
 ·rintro z6S ⟨h,zvH⟩
  replace h:=(zvG z6S).symm.trans h
  obtain rfl:=Option.some.inj h
  refine WX.y1L Try.results69 .nil (fun w hw=>?_)
  exact ⟨y3Z,zvH,hw.sub (.cons .here .nil)⟩
def y13 (z1X : Int) (z3o : Sapi_Come → Sapi_Come → Option Int) (z6U : (List Sapi_Come) → Int → Option (List Sapi_Come)) : Nat → (List Sapi_Come) → Int → Int → Option (List Sapi_Come)
 | 0,_,_,_=>none
 | zep + 1,z3y,z28,z2W=>if decide (z28 ≠ z2W) then if decide (z28 > z2W) then (y1h z3y (i64 (z1X - z28)) z1X z2W z3o).bind fun zgh=>y13 z1X z3o z6U zep zgh (i64 (z28 - z2W)) z2W else (y1h z3y (i64 (z1X - z28)) (i64 ((i64 (z1X + z2W)) - z28)) z28 z3o).bind fun zgi=>y13 z1X z3o z6U zep zgi z28 (i64 (z2W - z28)) else z6U z3y z28
theorem y3A {n : Nat} {z1X : Int} {z3o : Sapi_Come → Sapi_Come → Option Int} {z6U : (List Sapi_Come) → Int → Option (List Sapi_Come)} {z3y : List Sapi_Come} {z28 : Int} {z2W : Int} {r : List Sapi_Come} (h : y13 z1X z3o z6U n z3y z28 z2W = some r) : ∃ m,n = m + 1:=by
 cases n with
 | zero=>cases h
 | succ m=>exact ⟨m,rfl⟩
def y29 (z2H : List Sapi_Come) (z9Z : Int) (z1X : Int) (za0 : Int) (z3o : Sapi_Come → Sapi_Come → Option Int) : Option (List Sapi_Come) :=
 jp2 (fun (z5C : List Sapi_Come) (z7X : Int)=>(y1h z5C (i64 (z1X - z7X)) z1X z7X z3o).bind fun zjM=>some zjM) fun z6U=>y13 z1X z3o z6U yP z2H (i64 (z1X - z9Z)) (i64 (za0 - z1X))
set_option maxRecDepth 20000 in
theorem y49 (Z : Zp) (z3z : Option Addr) (z3A : Nat) (z58 : FuncId) (z6V : List Value) (z2H : List Sapi_Come) (z9Z : Int) (z1X : Int) (za0 : Int) (z3o : Sapi_Come → Sapi_Come → Option Int) (r : List Sapi_Come)
  (h : y29 z2H z9Z z1X za0 z3o = some r) (w₀ : World) (hz : PZ (fps [row (.slice z3z z2H.length z3A) 50 3 (z2H.flatMap e50)]) w₀ Z)
  (zjN : ∀ args w,(callFunc z58 args).run Try.prog w = .ok (.enter z58 args) w)
  (zjO : ∀ w : World,PZ [] w Z → ∀ (x0 : Sapi_Come) (x1 : Sapi_Come) (r : Int),z3o x0 x1 = some r → Calls Try.prog z58 (([(.agg #[(.int .i64 x0.fSent),(.int .i64 x0.fNode),(.int .i64 x0.fTime)]),(.agg #[(.int .i64 x1.fSent),(.int .i64 x1.fNode),(.int .i64 x1.fTime)])] : List Value) ++ z6V).toArray w fun e w'=>e = .returned (.int .i64 r) ∧ Hp [] w w' [])
  (hown : Hp (fps [row (.slice z3z z2H.length z3A) 50 3 (z2H.flatMap e50)]) w₀ w₀ [row (.slice z3z z2H.length z3A) 50 3 (z2H.flatMap e50)]) :
  Calls Try.prog 68 #[(.slice z3z z2H.length z3A),(.int .i64 z9Z),(.int .i64 z1X),(.int .i64 za0),(.func (.func z58) #[] (z6V).toArray)] w₀ fun e w'=>e = .returned (.tuple #[]) ∧ (r.length = z2H.length) ∧ Hp (fps [row (.slice z3z z2H.length z3A) 50 3 (z2H.flatMap e50)]) w₀ w' [row (.slice z3z r.length z3A) 50 3 (r.flatMap e50)]:=by
 unfold y29 at h
 refine Calls.yo (vs:=[(.slice z3z z2H.length z3A),(.int .i64 z9Z),(.int .i64 z1X),(.int .i64 za0),(.func (.func z58) #[] (z6V).toArray)]) (pre:=[row (.slice z3z z2H.length z3A) 50 3 (z2H.flatMap e50)]) (env:=[(0,(.slice z3z z2H.length z3A)),(1,(.int .i64 z9Z)),(2,(.int .i64 z1X)),(3,(.int .i64 za0)),(4,(.func (.func z58) #[] (z6V).toArray))]) Try.func68 rfl Try.ntmps68 rfl (hown) rfl ?_
 refine WC.b (WC.a (WL.pu rfl (WL.pu rfl (WL.pu rfl (WL.pu rfl (WL.nil (WX.a (WC.b (WC.a (WL.pu rfl (WL.pu rfl (WL.pu rfl (WL.pu rfl (WL.nil (WX.a ?_)))))))))))))))
 obtain ⟨z6U,zvI,h⟩:=y34 h
 refine WC.y2v (fun (z5C : List Sapi_Come) (z7X : Int)=>(z6U z5C z7X = some r) ∧ (z5C.length = z2H.length)) (fun (z5C : List Sapi_Come) (z7X : Int)=>[(0,(.slice z3z z5C.length z3A)),(2,(.int .i64 z1X)),(4,(.func (.func z58) #[] (z6V).toArray)),(10,(.int .i64 z7X))]) (fun (z5C : List Sapi_Come) (z7X : Int)=>[row (.slice z3z z5C.length z3A) 50 3 (z5C.flatMap e50)]) ?_ ?_
 ·skip
  refine WC.block ?_
  refine WC.y5E (fun (zbF : Nat) (z3y : List Sapi_Come) (z28 : Int) (z2W : Int)=>(y13 z1X z3o z6U zbF z3y z28 z2W = some r) ∧ (z3y.length = z2H.length)) (fun (zbF : Nat) (z3y : List Sapi_Come) (z28 : Int) (z2W : Int)=>[(0,(.slice z3z z3y.length z3A)),(2,(.int .i64 z1X)),(4,(.func (.func z58) #[] (z6V).toArray)),(10,(.int .i64 z28)),(11,(.int .i64 z2W))]) (fun (zbF : Nat) (z3y : List Sapi_Come) (z28 : Int) (z2W : Int)=>[row (.slice z3z z3y.length z3A) 50 3 (z3y.flatMap e50)]) (fun (zbF : Nat) (z3y : List Sapi_Come) (z28 : Int) (z2W : Int)=>zbF) ⟨yP,z2H,(i64 (z1X - z9Z)),(i64 (za0 - z1X))⟩ ⟨h,rfl⟩ (.cons rfl (.cons rfl (.cons rfl (.cons rfl (.cons rfl .nil))))) (.cons .here .nil) ?_
  rintro zbF z3y z28 z2W ⟨h,zjP⟩
  obtain ⟨zep,rfl⟩:=y3A h
  rw [y13] at h
  refine WC.b (WC.b (WC.a (WL.pu rfl (WL.pu rfl (WL.pu rfl (WL.nil (WX.a ?_)))))))
  refine WC.cond rfl (fun zjQ=>?_) (fun zjQ=>?_)
  ·replace h:=yg h zjQ
   refine WC.skip (WX.a (WC.block (WC.b (WC.a (WL.pu rfl (WL.pu rfl (WL.pu rfl (WL.nil (WX.a ?_)))))))))
   refine WC.cond rfl (fun zjR=>?_) (fun zjR=>?_)
   ·replace h:=yg h zjR
    refine WC.b ?_
    obtain ⟨zgh,zvJ,h⟩:=z8 h
    refine WC.a (WL.pu rfl (WL.pu rfl (WL.pu rfl (WL.pu rfl (WL.pu rfl (WL.pu rfl (WL.pu rfl ?_)))))))
    refine WL.y1D (dd:=31) rfl rfl rfl (zt (l:=[.tmp 24,.tmp 27,.tmp 28,.tmp 29,.tmp 30]) Try.call69 (.cons rfl (.cons rfl (.cons rfl (.cons rfl (.cons rfl .nil)))))) (.cons .here .nil) (cc hz (.cons .here .nil) fun w pz ho=>y1Y _ _ _ (z7W:=z58) (z9Y:=z6V) _ _ _ _ (zbC:=z3o) _ zvJ w pz zjN zjO ho) ?_
    rintro  zp1
    refine WL.repin (i:=0) rfl (u:=(.slice z3z zgh.length z3A)) (yR zp1.symm) ?_
    refine WL.nil (WX.a (WC.a (WL.pu rfl (WL.pu rfl (WL.pu rfl (WL.pu rfl (WL.nil (WX.yf ?_))))))))
    exact WX.round (G:=Nat × List Sapi_Come × Int × Int) ⟨zep,zgh,(i64 (z28 - z2W)),z2W⟩ ⟨h,(zp1.trans zjP)⟩ (Nat.lt_succ_self _) (.cons rfl (.cons rfl (.cons rfl (.cons rfl (.cons rfl .nil))))) (.cons .here .nil)
   ·replace h:=yh h zjR
    refine WC.b ?_
    obtain ⟨zgi,zvK,h⟩:=z8 h
    refine WC.a (WL.pu rfl (WL.pu rfl (WL.pu rfl (WL.pu rfl (WL.pu rfl (WL.pu rfl (WL.pu rfl (WL.pu rfl (WL.pu rfl (WL.pu rfl (WL.pu rfl ?_)))))))))))
    refine WL.y1D (dd:=46) rfl rfl rfl (zt (l:=[.tmp 35,.tmp 38,.tmp 43,.tmp 44,.tmp 45]) Try.call69 (.cons rfl (.cons rfl (.cons rfl (.cons rfl (.cons rfl .nil)))))) (.cons .here .nil) (cc hz (.cons .here .nil) fun w pz ho=>y1Y _ _ _ (z7W:=z58) (z9Y:=z6V) _ _ _ _ (zbC:=z3o) _ zvK w pz zjN zjO ho) ?_
    rintro  zp2
    refine WL.repin (i:=0) rfl (u:=(.slice z3z zgi.length z3A)) (yR zp2.symm) ?_
    refine WL.nil (WX.a (WC.a (WL.pu rfl (WL.pu rfl (WL.pu rfl (WL.pu rfl (WL.nil (WX.yf ?_))))))))
    exact WX.round (G:=Nat × List Sapi_Come × Int × Int) ⟨zep,zgi,z28,(i64 (z2W - z28))⟩ ⟨h,(zp2.trans zjP)⟩ (Nat.lt_succ_self _) (.cons rfl (.cons rfl (.cons rfl (.cons rfl (.cons rfl .nil))))) (.cons .here .nil)
  ·replace h:=yh h zjQ
   refine WC.exit (WX.yk (WX.yk (WX.yC ?_)))
   exact WX.mid (G:=List Sapi_Come × Int) ⟨z3y,z28⟩ ⟨h,zjP⟩ (.cons rfl (.cons rfl (.cons rfl (.cons rfl .nil)))) (.cons .here .nil)
 ·rintro z5C z7X ⟨h,zvL⟩
  replace h:=(zvI z5C z7X).symm.trans h
  obtain ⟨zjM,zvM,h⟩:=z8 h
  refine WC.a (WL.pu rfl (WL.pu rfl (WL.pu rfl (WL.pu rfl (WL.pu rfl (WL.pu rfl (WL.pu rfl ?_)))))))
  refine WL.y1D (dd:=57) rfl rfl rfl (zt (l:=[.tmp 50,.tmp 53,.tmp 54,.tmp 55,.tmp 56]) Try.call69 (.cons rfl (.cons rfl (.cons rfl (.cons rfl (.cons rfl .nil)))))) (.cons .here .nil) (cc hz (.cons .here .nil) fun w pz ho=>y1Y _ _ _ (z7W:=z58) (z9Y:=z6V) _ _ _ _ (zbC:=z3o) _ zvM w pz zjN zjO ho) ?_
  rintro  zp3
  refine WL.repin (i:=0) rfl (u:=(.slice z3z zjM.length z3A)) (yR zp3.symm) ?_
  refine WL.nil ?_
  obtain rfl:=Option.some.inj h
  refine WX.y1L Try.results68 .nil (fun w hw=>?_)
  exact ⟨y3Z,(zp3.trans zvL),hw.sub (.cons .here .nil)⟩
end Go.Proofs.Ytinchjigeakocaa

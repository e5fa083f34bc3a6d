/- A part of this claim's proof: models of functions, walks, plain laws. No conditions. -/
import Derived.Test.YtinchjigeakocaaW31ab
namespace Go.Proofs.Ytinchjigeakocaa
open Go Go.RowKit Sep
set_option linter.all false
set_option maxRecDepth 30000
set_option maxHeartbeats 4000000
def yF (z4g : Sport_frame → Option Bool) (z7J : (List Sport_frame) → Int → Option (List Sport_frame)) : Nat → (List Sport_frame) → Int → Int → Option (List Sport_frame)
 | 0,_,_,_=>none
 | ziD + 1,zY,z2k,z1b=>if decide (z1b < ((zY.length : Nat) : Int)) then jp2 (fun (z4W : List Sport_frame) (z7K : Int)=>yF z4g z7J ziD z4W z7K (i64 (z1b + 1))) fun zfN=>chk ((0 : Int) ≤ z1b ∧ z1b < ((zY.length : Nat) : Int)) ((z4g (⟨((nth zY z1b).fSize),((nth zY z1b).fFin)⟩ : Sport_frame)).bind fun ziE=>if !ziE then chk ((0 : Int) ≤ z2k ∧ z2k < ((zY.length : Nat) : Int)) (zfN (zY.set (z2k : Int).toNat (⟨((nth zY z1b).fSize),((nth zY z1b).fFin)⟩ : Sport_frame)) (i64 (z2k + 1))) else zfN zY z2k) else z7J zY z2k
theorem y3c {n : Nat} {z4g : Sport_frame → Option Bool} {z7J : (List Sport_frame) → Int → Option (List Sport_frame)} {zY : List Sport_frame} {z2k : Int} {z1b : Int} {r : List Sport_frame} (h : yF z4g z7J n zY z2k z1b = some r) : ∃ m,n = m + 1:=by
 cases n with
 | zero=>cases h
 | succ m=>exact ⟨m,rfl⟩
def yU (z2l : List Sport_frame) (z4g : Sport_frame → Option Bool) : Option (List Sport_frame) :=
 (yW z2l z4g).bind fun zbv=>if decide (zbv = (-1)) then some z2l else jp2 (fun (z2m : List Sport_frame) (z2n : Int)=>chk ((0 : Int) ≤ z2n ∧ z2n ≤ ((z2m.length : Nat) : Int)) (chk ((0 : Int) ≤ z2n ∧ z2n ≤ (((z2m.take (z2n : Int).toNat ++ List.replicate (z2m.length - (z2n : Int).toNat) ((⟨0,0⟩ : Sport_frame) : Sport_frame)).length : Nat) : Int)) (some ((z2m.take (z2n : Int).toNat ++ List.replicate (z2m.length - (z2n : Int).toNat) ((⟨0,0⟩ : Sport_frame) : Sport_frame)).take (z2n : Int).toNat)))) fun z7J=>yF z4g z7J ys z2l zbv (i64 (zbv + 1))
set_option maxRecDepth 20000 in
theorem y3P (Z : Zp) (z3i : Option Addr) (z2Q : Nat) (z5z : FuncId) (z7L : List Value) (z2l : List Sport_frame) (z4g : Sport_frame → Option Bool) (r : List Sport_frame)
  (h : yU z2l z4g = some r) (w₀ : World) (hz : PZ (fps [row (.slice z3i z2l.length z2Q) 146 2 (z2l.flatMap y27)]) w₀ Z)
  (znA : ∀ args w,(callFunc z5z args).run Try.prog w = .ok (.enter z5z args) w)
  (znB : ∀ w : World,PZ [] w Z → ∀ (x0 : Sport_frame) (r : Bool),z4g x0 = some r → Calls Try.prog z5z (([(.agg #[(.int .i64 x0.fSize),(.int .i64 x0.fFin)])] : List Value) ++ z7L).toArray w fun e w'=>e = .returned (.bool r) ∧ Hp [] w w' [])
  (hown : Hp (fps [row (.slice z3i z2l.length z2Q) 146 2 (z2l.flatMap y27)]) w₀ w₀ [row (.slice z3i z2l.length z2Q) 146 2 (z2l.flatMap y27)]) :
  Calls Try.prog 54 #[(.slice z3i z2l.length z2Q),(.func (.func z5z) #[] (z7L).toArray)] w₀ fun e w'=>∃ znC : Option Addr,∃ znD : Nat,e = .returned (.slice znC r.length znD) ∧ True ∧ Hp (fps [row (.slice z3i z2l.length z2Q) 146 2 (z2l.flatMap y27)]) w₀ w' [row (.slice znC r.length znD) 146 2 (r.flatMap y27)]:=by
 unfold yU at h
 refine Calls.yo (vs:=[(.slice z3i z2l.length z2Q),(.func (.func z5z) #[] (z7L).toArray)]) (pre:=[row (.slice z3i z2l.length z2Q) 146 2 (z2l.flatMap y27)]) (env:=[(0,(.slice z3i z2l.length z2Q)),(1,(.func (.func z5z) #[] (z7L).toArray))]) Try.func54 rfl Try.ntmps54 rfl (hown) rfl ?_
 refine WC.b (WC.a (WL.pu rfl (WL.nil (WX.a (WC.b ?_)))))
 obtain ⟨zbv,zsN,h⟩:=zn h
 refine WC.a (WL.pu rfl (WL.pu rfl ?_))
 refine WL.b (dd:=10) rfl rfl rfl (zE (l:=[.tmp 8,.tmp 9]) Try.call63 (.cons rfl (.cons rfl .nil))) .nil (ccl hz .nil (.cons .here .nil) fun w pz ho la=>y40 _ _ _ (z7I:=z5z) (za7:=z7L) _ (z5y:=z4g) _ zsN w pz (ZA.row (la _ (.head _) _) (RR.y16 (enc:=y27) (fun _=>rfl) _) ⟨w,pz.1⟩) znA (fun w' hz'=>znB w' (hz'.le (Zle.left _ _)))) ?_
 refine WL.pu rfl (WL.nil (WX.a (WC.b (WC.b (WC.a (WL.pu rfl (WL.pu rfl (WL.nil (WX.a ?_)))))))))
 refine WC.cond rfl (fun ziF=>?_) (fun ziF=>?_)
 ·replace h:=yk h ziF
  refine WC.b (WC.a (WL.pu rfl (WL.pu rfl (WL.nil (WX.a (WC.ret (WX.ye ?_)))))))
  obtain rfl:=Option.some.inj h
  refine WX.yj Try.results54 (.tmp rfl .nil) (fun w hw=>?_)
  exact ⟨z3i,z2Q,y10 rfl,trivial,hw.sub (.cons .here .nil)⟩
 ·replace h:=yl h ziF
  refine WC.skip (WX.a ?_)
  obtain ⟨z7J,zsO,h⟩:=y2i h
  refine WC.y2q (fun (z2m : List Sport_frame) (z2n : Int)=>(z7J z2m z2n = some r) ∧ (z2m.length = z2l.length)) (fun (z2m : List Sport_frame) (z2n : Int)=>[(0,(.slice z3i z2m.length z2Q)),(5,(.int .i64 z2n))]) (fun (z2m : List Sport_frame) (z2n : Int)=>[row (.slice z3i z2m.length z2Q) 146 2 (z2m.flatMap y27)]) ?_ ?_
  ·skip
   refine WC.b (WC.a (WL.pu rfl (WL.pu rfl (WL.pu rfl (WL.nil (WX.a (WC.block ?_)))))))
   refine WC.y4C (fun (zbw : Nat) (zY : List Sport_frame) (z2k : Int) (z1b : Int)=>(yF z4g z7J zbw zY z2k z1b = some r) ∧ (zY.length = z2l.length)) (fun (zbw : Nat) (zY : List Sport_frame) (z2k : Int) (z1b : Int)=>[(0,(.slice z3i zY.length z2Q)),(1,(.func (.func z5z) #[] (z7L).toArray)),(5,(.int .i64 z2k)),(6,(.int .i64 z1b))]) (fun (zbw : Nat) (zY : List Sport_frame) (z2k : Int) (z1b : Int)=>[row (.slice z3i zY.length z2Q) 146 2 (zY.flatMap y27)]) (fun (zbw : Nat) (zY : List Sport_frame) (z2k : Int) (z1b : Int)=>zbw) ⟨ys,z2l,zbv,(i64 (zbv + 1))⟩ ⟨h,rfl⟩ (.cons rfl (.cons rfl (.cons rfl (.cons rfl .nil)))) (.cons .here .nil) ?_
   rintro zbw zY z2k z1b ⟨h,ziG⟩
   obtain ⟨ziD,rfl⟩:=y3c h
   rw [yF] at h
   refine WC.b (WC.b (WC.a (WL.pu rfl (WL.pu rfl ?_))))
   refine WL.a (d:=18) rfl rfl rfl (yZ Try.underlying141 rfl) ?_
   refine WL.pu rfl (WL.nil (WX.a ?_))
   refine WC.cond rfl (fun ziH=>?_) (fun ziH=>?_)
   ·replace h:=yk h ziH
    refine WC.skip (WX.a ?_)
    obtain ⟨zfN,zsP,h⟩:=y2i h
    refine WC.y2q (fun (z4W : List Sport_frame) (z7K : Int)=>(zfN z4W z7K = some r) ∧ (z4W.length = z2l.length)) (fun (z4W : List Sport_frame) (z7K : Int)=>[(0,(.slice z3i z4W.length z2Q)),(1,(.func (.func z5z) #[] (z7L).toArray)),(5,(.int .i64 z7K)),(6,(.int .i64 z1b))]) (fun (z4W : List Sport_frame) (z7K : Int)=>[row (.slice z3i z4W.length z2Q) 146 2 (z4W.flatMap y27)]) ?_ ?_
    ·skip
     refine WC.block (WC.b ?_)
     obtain ⟨zed,h⟩:=yi h
     refine WC.a (WL.pu rfl (WL.pu rfl ?_))
     refine WL.know (fun w hw=>Hp.y2G .here hw (by intro hz'; have:=zed; rw [hz'] at this; omega)) ?_
     rintro ⟨znE,rfl⟩
     refine WL.a (d:=24) rfl rfl rfl (yu z78 rfl rfl zed.1 zed.2 y1f) ?_
     refine WL.a (d:=25) rfl rfl rfl (y1L (cs:=(y27 (nth zY z1b))) zap rfl rfl (y1X .here (y1S (enc:=y27) (l:=zY) (i:=z1b) (sz:=2) (fun _=>rfl) zed.1 zed.2))) ?_
     refine WL.new (dd:=7) rfl rfl rfl (y1Y (cs:=[(.int .i64 0),(.int .i64 0)]) zgT rfl) ?_
     intro zz5 _
     refine WL.y1g rfl rfl (y1A zgU rfl rfl rfl .here rfl rfl rfl) ?_
     refine WL.nil (WX.a (WC.b ?_))
     obtain ⟨ziE,zsQ,h⟩:=zn h
     refine WC.a (WL.pu rfl ?_)
     refine WL.a (d:=27) rfl rfl rfl (yD zap rfl (y1h .here) rfl) ?_
     refine WL.b (dd:=28) rfl rfl rfl (y3V (l:=[.tmp 27]) (f:=z5z) (caps:=z7L) znA rfl (.cons rfl .nil)) .nil (fun w hw=>znB w (hz.now hw) (⟨((nth zY z1b).fSize),((nth zY z1b).fFin)⟩ : Sport_frame) ziE  zsQ) ?_
     refine WL.pu rfl (WL.nil (WX.a ?_))
     refine WC.cond rfl (fun ziI=>?_) (fun ziI=>?_)
     ·replace h:=yk h ziI
      refine WC.b ?_
      obtain ⟨zbx,h⟩:=yi h
      refine WC.a (WL.pu rfl (WL.pu rfl ?_))
      refine WL.a (d:=32) rfl rfl rfl (yD zap rfl (y1h .here) rfl) ?_
      refine WL.a (d:=33) rfl rfl rfl (yu z78 rfl rfl zbx.1 zbx.2 y1f) ?_
      refine WL.y1g rfl rfl (y2y (vs:=[(.int .i64 ((nth zY z1b).fSize)),(.int .i64 ((nth zY z1b).fFin))]) (ds:=(zY.set (z2k : Int).toNat (⟨((nth zY z1b).fSize),((nth zY z1b).fFin)⟩ : Sport_frame)).flatMap y27) zgU rfl rfl rfl rfl (ocB rfl) .h1 (y3f (enc:=y27) (sz:=2) (k:=0) (fun _=>rfl) zbx.1 zbx.2 (by decide)) (y3e (enc:=y27) (l:=zY) (sz:=2) (vs:=[(.int .i64 ((nth zY z1b).fSize)),(.int .i64 ((nth zY z1b).fFin))]) (y:=(⟨((nth zY z1b).fSize),((nth zY z1b).fFin)⟩ : Sport_frame)) (k:=0) (fun _=>rfl) zbx.1 zbx.2 rfl (Nat.le_of_ble_eq_true rfl))) ?_
      refine WL.relen .here (u:=(.slice (some ⟨znE,0,none⟩) ((zY.set (z2k : Int).toNat (⟨((nth zY z1b).fSize),((nth zY z1b).fFin)⟩ : Sport_frame)).length) z2Q)) (y1P (List.length_set).symm) ?_
      refine WL.repin (i:=0) rfl (u:=(.slice (some ⟨znE,0,none⟩) ((zY.set (z2k : Int).toNat (⟨((nth zY z1b).fSize),((nth zY z1b).fFin)⟩ : Sport_frame)).length) z2Q)) (y1P (List.length_set).symm) ?_
      refine WL.nil (WX.a (WC.a (WL.pu rfl (WL.pu rfl (WL.pu rfl (WL.nil (WX.yg ?_)))))))
      exact WX.mid (G:=List Sport_frame × Int) ⟨(zY.set (z2k : Int).toNat (⟨((nth zY z1b).fSize),((nth zY z1b).fFin)⟩ : Sport_frame)),(i64 (z2k + 1))⟩ ⟨h,((List.length_set).trans ziG)⟩ (.cons rfl (.cons rfl (.cons rfl (.cons rfl .nil)))) (.cons .here .nil)
     ·replace h:=yl h ziI
      refine WC.skip (WX.yg ?_)
      exact WX.mid (G:=List Sport_frame × Int) ⟨zY,z2k⟩ ⟨h,ziG⟩ (.cons rfl (.cons rfl (.cons rfl (.cons rfl .nil)))) (.cons .h1 .nil)
    ·rintro z4W z7K ⟨h,zsR⟩
     replace h:=(zsP z4W z7K).symm.trans h
     refine WC.a (WL.pu rfl (WL.pu rfl (WL.pu rfl (WL.nil ?_))))
     exact WX.round (G:=Nat × List Sport_frame × Int × Int) ⟨ziD,z4W,z7K,(i64 (z1b + 1))⟩ ⟨h,zsR⟩ (Nat.lt_succ_self _) (.cons rfl (.cons rfl (.cons rfl (.cons rfl .nil)))) (.cons .here .nil)
   ·replace h:=yl h ziH
    refine WC.exit (WX.yc (WX.yc (WX.yt ?_)))
    exact WX.mid (G:=List Sport_frame × Int) ⟨zY,z2k⟩ ⟨h,ziG⟩ (.cons rfl (.cons rfl .nil)) (.cons .here .nil)
  ·rintro z2m z2n ⟨h,zz6⟩
   replace h:=(zsO z2m z2n).symm.trans h
   refine WC.b ?_
   obtain ⟨zfO,h⟩:=yi h
   refine WC.a (WL.pu rfl (WL.pu rfl ?_))
   refine WL.yai (dd:=38) rfl rfl z78 rfl rfl .here zfO ?_
   intro zz7 zz8 zsS
   refine WL.y1g rfl rfl (y8Y (enc:=y27) (z0:=((⟨0,0⟩ : Sport_frame) : Sport_frame)) (l:=z2m) z78 zgT rfl zsS zfO (fun _=>rfl) (by decide) rfl y9L .here) ?_
   refine WL.relen .here (u:=(.slice z3i ((z2m.take (z2n : Int).toNat ++ List.replicate (z2m.length - (z2n : Int).toNat) ((⟨0,0⟩ : Sport_frame) : Sport_frame)).length) z2Q)) (y1P (y70 zfO).symm) ?_
   refine WL.repin (i:=0) rfl (u:=(.slice z3i ((z2m.take (z2n : Int).toNat ++ List.replicate (z2m.length - (z2n : Int).toNat) ((⟨0,0⟩ : Sport_frame) : Sport_frame)).length) z2Q)) (y1P (y70 zfO).symm) ?_
   refine WL.nil (WX.a (WC.b ?_))
   obtain ⟨zsT,h⟩:=yi h
   refine WC.a (WL.pu rfl (WL.pu rfl ?_))
   refine WL.y71 (dd:=41) (enc:=y27) (ls:=z2m.take (z2n : Int).toNat ++ List.replicate (z2m.length - (z2n : Int).toNat) ((⟨0,0⟩ : Sport_frame) : Sport_frame)) rfl rfl z78 rfl rfl .here (fun _=>rfl) zsT ?_
   intro zsU zsV
   refine WL.pu rfl (WL.nil (WX.a (WC.ret ?_)))
   obtain rfl:=Option.some.inj h
   refine WX.yj Try.results54 (.tmp rfl .nil) (fun w hw=>?_)
   exact ⟨zsU,zsV,y10 rfl,trivial,hw.sub (.cons .here .nil)⟩
def y2v (z5A : Sport_frame) (zfP : Int) : Option Bool :=
 some (decide (z5A.fFin > zfP))
set_option maxRecDepth 20000 in
theorem y78 (Z : Zp) (zfQ : Addr) (z5A : Sport_frame) (zfP : Int) (r : Bool)
  (h : y2v z5A zfP = some r) (w₀ : World) (hz : PZ [] w₀ Z)
  (zsW : ZC Z zfQ [(.int .i64 zfP)]) :
  Calls Try.prog 65 #[(.agg #[(.int .i64 z5A.fSize),(.int .i64 z5A.fFin)]),(.pointer (some zfQ))] w₀ fun e w'=>e = .returned (.bool r) ∧ Hp [] w₀ w' []:=by
 unfold y2v at h
 refine Calls.yo (vs:=[(.agg #[(.int .i64 z5A.fSize),(.int .i64 z5A.fFin)]),(.pointer (some zfQ))]) (pre:=[]) (env:=[(0,(.agg #[(.int .i64 z5A.fSize),(.int .i64 z5A.fFin)])),(1,(.pointer (some zfQ)))]) Try.func65 rfl Try.ntmps65 rfl (Hp.nil w₀ _) rfl ?_
 refine WC.b (WC.a ?_)
 refine WL.new (dd:=2) rfl rfl rfl (y2p (cs:=[(.int .i64 z5A.fSize),(.int .i64 z5A.fFin)]) rfl rfl) ?_
 intro zz9 _
 refine WL.pu rfl (WL.nil (WX.a (WC.b (WC.a ?_))))
 refine WL.a (d:=4) rfl rfl rfl (ya y9d rfl rfl) ?_
 refine WL.a (d:=5) rfl rfl rfl (yb yh rfl (yd .here rfl)) ?_
 refine WL.a (d:=6) rfl rfl rfl (yb yh rfl (rd_z hz.pv zsW rfl)) ?_
 refine WL.pu rfl (WL.pu rfl (WL.nil (WX.a (WC.ret ?_))))
 obtain rfl:=Option.some.inj h
 refine WX.yj Try.results65 (.tmp rfl .nil) (fun w hw=>?_)
 exact ⟨y10 rfl,hw.sub .nil⟩
def y2e (z1J : Sport_Port) (z5B : Sport_frame → Option Bool) (z7M : Int → Option Int) : Nat → Int → Int → Option Int
 | 0,_,_=>none
 | ziJ + 1,z3M,z2t=>if decide (z2t < ((z1J.fFrames.length : Nat) : Int)) then jp1 (fun (z7N : Int)=>y2e z1J z5B z7M ziJ z7N (i64 (z2t + 1))) fun zfR=>chk ((0 : Int) ≤ z2t ∧ z2t < ((z1J.fFrames.length : Nat) : Int)) ((z5B (⟨((nth z1J.fFrames z2t).fSize),((nth z1J.fFrames z2t).fFin)⟩ : Sport_frame)).bind fun ziK=>if ziK then zfR (i64 (z3M + ((nth z1J.fFrames z2t).fSize))) else zfR z3M) else z7M z3M
theorem y5H {n : Nat} {z1J : Sport_Port} {z5B : Sport_frame → Option Bool} {z7M : Int → Option Int} {z3M : Int} {z2t : Int} {r : Int} (h : y2e z1J z5B z7M n z3M z2t = some r) : ∃ m,n = m + 1:=by
 cases n with
 | zero=>cases h
 | succ m=>exact ⟨m,rfl⟩
def y2Y (z1J : Sport_Port) (z5B : Sport_frame → Option Bool) : Option Int :=
 jp1 (fun (z8N : Int)=>some z8N) fun z7M=>y2e z1J z5B z7M ys 0 0
set_option maxRecDepth 20000 in
theorem y80 (Z : Zp) (zfS : Addr) (zfT : Option Addr) (zfU : Nat) (z6H : FuncId) (z8O : List Value) (z1J : Sport_Port) (z5B : Sport_frame → Option Bool) (r : Int)
  (h : y2Y z1J z5B = some r) (w₀ : World) (hz : PZ [] w₀ Z)
  (zsX : ZS Z 2 (fun r x=>r = y27 x) zfT zfU z1J.fFrames)
  (zsY : ZC Z zfS [(.int .i64 z1J.fNumbers.fSlow),(.int .i64 z1J.fNumbers.fDelay),(.int .i64 z1J.fNumbers.fStore),(.int .i64 z1J.fNow),(.int .i64 z1J.fLast),(.slice zfT z1J.fFrames.length zfU)])
  (zsZ : ∀ args w,(callFunc z6H args).run Try.prog w = .ok (.enter z6H args) w)
  (zt0 : ∀ w : World,PZ [] w Z → ∀ (x0 : Sport_frame) (r : Bool),z5B x0 = some r → Calls Try.prog z6H (([(.agg #[(.int .i64 x0.fSize),(.int .i64 x0.fFin)])] : List Value) ++ z8O).toArray w fun e w'=>e = .returned (.bool r) ∧ Hp [] w w' []) :
  Calls Try.prog 64 #[(.pointer (some zfS)),(.func (.func z6H) #[] (z8O).toArray)] w₀ fun e w'=>e = .returned (.int .i64 r) ∧ Hp [] w₀ w' []:=by
 unfold y2Y at h
 refine Calls.yo (vs:=[(.pointer (some zfS)),(.func (.func z6H) #[] (z8O).toArray)]) (pre:=[]) (env:=[(0,(.pointer (some zfS))),(1,(.func (.func z6H) #[] (z8O).toArray))]) Try.func64 rfl Try.ntmps64 rfl (Hp.nil w₀ _) rfl ?_
 refine WC.b (WC.a (WL.pu rfl (WL.nil (WX.a (WC.b (WC.a (WL.pu rfl (WL.nil (WX.a ?_)))))))))
 obtain ⟨z7M,zt1,h⟩:=y1b h
 refine WC.y1K (fun (z8N : Int)=>(z7M z8N = some r)) (fun (z8N : Int)=>[(5,(.int .i64 z8N))]) (fun (z8N : Int)=>[]) ?_ ?_
 ·skip
  refine WC.b (WC.a (WL.pu rfl ?_))
  refine WL.a (d:=9) rfl rfl rfl (yw rfl) ?_
  refine WL.a (d:=10) rfl rfl rfl (ya y5y rfl rfl) ?_
  refine WL.a (d:=11) rfl rfl rfl (yb zgS rfl (y2h hz.pv zsY rfl)) ?_
  refine WL.a (d:=12) rfl rfl rfl (yZ Try.underlying141 rfl) ?_
  refine WL.pu rfl (WL.nil (WX.a (WC.block ?_)))
  refine WC.y2r (fun (zby : Nat) (z3M : Int) (z2t : Int)=>(y2e z1J z5B z7M zby z3M z2t = some r)) (fun (zby : Nat) (z3M : Int) (z2t : Int)=>[(1,(.func (.func z6H) #[] (z8O).toArray)),(5,(.int .i64 z3M)),(11,(.slice zfT z1J.fFrames.length zfU)),(12,(.int .i64 ((z1J.fFrames.length : Nat) : Int))),(13,(.int .i64 z2t))]) (fun (zby : Nat) (z3M : Int) (z2t : Int)=>[]) (fun (zby : Nat) (z3M : Int) (z2t : Int)=>zby) ⟨ys,0,0⟩ h (.cons rfl (.cons rfl (.cons rfl (.cons rfl (.cons rfl .nil))))) .nil ?_
  rintro zby z3M z2t h
  obtain ⟨ziJ,rfl⟩:=y5H h
  rw [y2e] at h
  refine WC.b (WC.a (WL.pu rfl (WL.nil (WX.a (WC.b ?_)))))
  refine WC.cond rfl (fun ziL=>?_) (fun ziL=>?_)
  ·replace h:=yk h ziL
   refine WC.skip (WX.a ?_)
   obtain ⟨zfR,zt2,h⟩:=y1b h
   refine WC.y1K (fun (z7N : Int)=>(zfR z7N = some r)) (fun (z7N : Int)=>[(1,(.func (.func z6H) #[] (z8O).toArray)),(5,(.int .i64 z7N)),(11,(.slice zfT z1J.fFrames.length zfU)),(12,(.int .i64 ((z1J.fFrames.length : Nat) : Int))),(13,(.int .i64 z2t))]) (fun (z7N : Int)=>[]) ?_ ?_
   ·skip
    refine WC.block (WC.b ?_)
    obtain ⟨zt3,h⟩:=yi h
    refine WC.a ?_
    refine WL.znth (dd:=15) rfl rfl (Z:=Z) (Pr:=(fun r x=>r = y27 x)) z78 rfl rfl zsX zt3 ?_
    rintro zza zzb zt4 zzc rfl
    refine WL.a (d:=16) rfl rfl rfl (yD zap rfl (y3p hz.pv zt4) rfl) ?_
    refine WL.new (dd:=7) rfl rfl rfl (y1Y (cs:=[(.int .i64 0),(.int .i64 0)]) zgT rfl) ?_
    intro zzd _
    refine WL.y1g rfl rfl (y1A zgU rfl rfl rfl .here rfl rfl rfl) ?_
    refine WL.nil (WX.a (WC.b ?_))
    obtain ⟨ziK,zt5,h⟩:=zn h
    refine WC.a (WL.pu rfl ?_)
    refine WL.a (d:=18) rfl rfl rfl (yD zap rfl (y1h .here) rfl) ?_
    refine WL.b (dd:=19) rfl rfl rfl (y3V (l:=[.tmp 18]) (f:=z6H) (caps:=z8O) zsZ rfl (.cons rfl .nil)) .nil (fun w hw=>zt0 w (hz.now hw) (⟨((nth z1J.fFrames z2t).fSize),((nth z1J.fFrames z2t).fFin)⟩ : Sport_frame) ziK  zt5) ?_
    refine WL.nil (WX.a ?_)
    refine WC.cond rfl (fun ziM=>?_) (fun ziM=>?_)
    ·replace h:=yk h ziM
     refine WC.a (WL.pu rfl ?_)
     refine WL.a (d:=21) rfl rfl rfl (ya fo_146_0 rfl rfl) ?_
     refine WL.a (d:=22) rfl rfl rfl (yb yh rfl (yd .here rfl)) ?_
     refine WL.pu rfl (WL.pu rfl (WL.nil (WX.yg ?_)))
     exact WX.mid (G:=Int) (i64 (z3M + ((nth z1J.fFrames z2t).fSize))) h (.cons rfl (.cons rfl (.cons rfl (.cons rfl (.cons rfl .nil))))) .nil
    ·replace h:=yl h ziM
     refine WC.skip (WX.yg ?_)
     exact WX.mid (G:=Int) z3M h (.cons rfl (.cons rfl (.cons rfl (.cons rfl (.cons rfl .nil))))) .nil
   ·rintro z7N h
    replace h:=(zt2 z7N).symm.trans h
    refine WC.a (WL.pu rfl (WL.pu rfl (WL.nil ?_)))
    exact WX.round (G:=Nat × Int × Int) ⟨ziJ,z7N,(i64 (z2t + 1))⟩ h (Nat.lt_succ_self _) (.cons rfl (.cons rfl (.cons rfl (.cons rfl (.cons rfl .nil))))) .nil
  ·replace h:=yl h ziL
   refine WC.exit (WX.yc (WX.yc (WX.yt ?_)))
   exact WX.mid (G:=Int) z3M h (.cons rfl .nil) .nil
 ·rintro z8N h
  replace h:=(zt1 z8N).symm.trans h
  refine WC.b (WC.a (WL.pu rfl (WL.pu rfl (WL.nil (WX.a (WC.ret ?_))))))
  obtain rfl:=Option.some.inj h
  refine WX.yj Try.results64 (.tmp rfl .nil) (fun w hw=>?_)
  exact ⟨y10 rfl,hw.sub .nil⟩
def y41 (z4h : Sport_Port) (z8P : Int) : Option Int :=
 (y2O z4h).bind fun znF=>if znF then some 0 else (y2Y z4h (fun (y0 : Sport_frame)=>y2v y0 (max z8P z4h.fNow))).bind fun znG=>some znG
set_option maxRecDepth 20000 in
theorem y7B (Z : Zp) (zfV : Addr) (znH : Option Addr) (znI : Nat) (z4h : Sport_Port) (z8P : Int) (r : Int)
  (h : y41 z4h z8P = some r) (w₀ : World) (hz : PZ [] w₀ Z)
  (znJ : ZS Z 2 (fun r x=>r = y27 x) znH znI z4h.fFrames)
  (ziN : ZC Z zfV [(.int .i64 z4h.fNumbers.fSlow),(.int .i64 z4h.fNumbers.fDelay),(.int .i64 z4h.fNumbers.fStore),(.int .i64 z4h.fNow),(.int .i64 z4h.fLast),(.slice znH z4h.fFrames.length znI)]) :
  Calls Try.prog 56 #[(.pointer (some zfV)),(.int .i64 z8P)] w₀ fun e w'=>e = .returned (.int .i64 r) ∧ Hp [] w₀ w' []:=by
 unfold y41 at h
 refine Calls.yo (vs:=[(.pointer (some zfV)),(.int .i64 z8P)]) (pre:=[]) (env:=[(0,(.pointer (some zfV))),(1,(.int .i64 z8P))]) Try.func56 rfl Try.ntmps56 rfl (Hp.nil w₀ _) rfl ?_
 refine WC.b (WC.a ?_)
 refine WL.new (dd:=3) rfl rfl rfl (y2p (cs:=[(.int .i64 z8P)]) rfl rfl) ?_
 intro zt6 _
 refine WL.pu rfl (WL.nil (WX.a (WC.b (WC.b ?_))))
 obtain ⟨znF,zt7,h⟩:=zn h
 refine WC.a (WL.pu rfl ?_)
 refine WL.b (dd:=6) rfl rfl rfl (zE (l:=[.tmp 5]) Try.call53 (.cons rfl .nil)) .nil (cc hz .nil fun w pz ho=>y5A _ _ _ _ _ _ zt7 w pz znJ ziN) ?_
 refine WL.nil (WX.a ?_)
 refine WC.cond rfl (fun ziO=>?_) (fun ziO=>?_)
 ·replace h:=yk h ziO
  refine WC.b (WC.a (WL.pu rfl (WL.nil (WX.a (WC.ret (WX.ye ?_))))))
  obtain rfl:=Option.some.inj h
  refine WX.yj Try.results56 (.tmp rfl .nil) (fun w hw=>?_)
  exact ⟨y10 rfl,hw.sub .nil⟩
 ·replace h:=yl h ziO
  refine WC.skip (WX.a (WC.b ?_))
  refine WC.y12 (fun i=>[6].contains i) [] rfl ?_
  refine WD.e (i:=0) (d:=7) (by kernel_rfl) rfl z2 z3 rfl rfl rfl (yb yh rfl (yd .here rfl)) ?_
  refine WD.a (i:=1) (d:=8) (by kernel_rfl) rfl z2 z3 rfl rfl rfl (fun _=>q_m rfl) ?_
  refine WD.a (i:=2) (d:=9) (by kernel_rfl) rfl z2 z3 rfl rfl rfl (fun _=>yw rfl) ?_
  refine WD.a (i:=3) (d:=10) (by kernel_rfl) rfl z2 z3 rfl rfl rfl (fun _=>ya y7y rfl rfl) ?_
  refine WD.e (i:=4) (d:=11) (by kernel_rfl) rfl z2 z3 rfl rfl rfl (yb yh rfl (y2h hz.pv ziN rfl)) ?_
  refine WD.a (i:=5) (d:=12) (by kernel_rfl) rfl z2 z3 rfl rfl rfl (fun _=>q_max rfl rfl rfl) ?_
  refine WD.y2L (i:=6) rfl (by kernel_rfl) rfl rfl rfl (by kernel_rfl) (y1A y7W rfl rfl rfl .here rfl rfl rfl) ?_
  refine WD.done (by kernel_rfl) ?_
  refine WX.a (WC.b ?_)
  obtain ⟨znG,zt8,h⟩:=zn h
  refine WC.a (WL.pu rfl ?_)
  refine WL.a (d:=14) rfl rfl rfl (y6p (Eos.caps (l:=[.tmp 3]) (.cons rfl .nil))) ?_
  refine WL.b (dd:=15) rfl rfl rfl (zE (l:=[.tmp 13,.tmp 14]) Try.call64 (.cons rfl (.cons rfl .nil))) .nil (ccl hz .nil (.cons .here .nil) fun w pz ho la=>y80 _ _ _ _ (z6H:=65) (z8O:=[(.pointer (some ⟨zt6,0,none⟩))]) _ (z5B:=(fun (y0 : Sport_frame)=>y2v y0 (max z8P z4h.fNow))) _ zt8 w pz (znJ.mono (Zle.left _ _)) (ziN.mono (Zle.left _ _)) Try.call65 (fun w' hz' y0  r  hr=>y78 _ _ _ _ _ hr w' hz' ((la _ (.head _) _).stb))) ?_
  refine WL.pu rfl (WL.nil (WX.a (WC.ret ?_)))
  obtain rfl:=Option.some.inj h
  refine WX.yj Try.results56 (.tmp rfl .nil) (fun w hw=>?_)
  exact ⟨y10 rfl,hw.sub .nil⟩
def y2B (zh : Sport_Port) (z19 : Int) (zM : Int) : Option (Int × Int × Sport_Port) :=
 (y2O zh).bind fun z8Q=>if z8Q then some (0,1,zh) else if (((decide (zM < 1)) || (decide (zM > 72))) || (decide (z19 < zh.fNow))) || (decide (z19 > 1073741824)) then some (0,2,zh) else (yU zh.fFrames (fun (y0 : Sport_frame)=>y2F y0 z19)).bind fun z6I=>(y41 (⟨zh.fNumbers,z19,zh.fLast,z6I⟩ : Sport_Port) z19).bind fun znK=>if decide ((i64 (znK + zM)) > zh.fNumbers.fStore) then some (0,4,(⟨zh.fNumbers,z19,zh.fLast,z6I⟩ : Sport_Port)) else chk ((((z6I ++ ([(⟨zM,i64 ((max (i64 (z19 + zh.fNumbers.fDelay)) zh.fLast) + (i64 (zM * zh.fNumbers.fSlow)))⟩ : Sport_frame)] : List Sport_frame)).length : Nat) : Int) * 16 ≤ 140737488355328 ∧ (((z6I ++ ([(⟨zM,i64 ((max (i64 (z19 + zh.fNumbers.fDelay)) zh.fLast) + (i64 (zM * zh.fNumbers.fSlow)))⟩ : Sport_frame)] : List Sport_frame)).length : Nat) : Int) ≤ 4611686018427387904) (some ((i64 ((max (i64 (z19 + zh.fNumbers.fDelay)) zh.fLast) + (i64 (zM * zh.fNumbers.fSlow)))),0,(⟨zh.fNumbers,z19,i64 ((max (i64 (z19 + zh.fNumbers.fDelay)) zh.fLast) + (i64 (zM * zh.fNumbers.fSlow))),z6I ++ ([(⟨zM,i64 ((max (i64 (z19 + zh.fNumbers.fDelay)) zh.fLast) + (i64 (zM * zh.fNumbers.fSlow)))⟩ : Sport_frame)] : List Sport_frame)⟩ : Sport_Port)))
set_option maxRecDepth 20000 in
theorem y81 (Z : Zp) (z3N : Nat) (z4i : Option Addr) (z4j : Nat) (zh : Sport_Port) (z19 : Int) (zM : Int) (r : Int × Int × Sport_Port)
  (h : y2B zh z19 zM = some r) (w₀ : World) (hz : PZ (fps [stb z3N 143 [(.int .i64 zh.fNumbers.fSlow),(.int .i64 zh.fNumbers.fDelay),(.int .i64 zh.fNumbers.fStore),(.int .i64 zh.fNow),(.int .i64 zh.fLast),(.slice z4i zh.fFrames.length z4j)],row (.slice z4i zh.fFrames.length z4j) 146 2 (zh.fFrames.flatMap y27)]) w₀ Z)
  (hown : Hp (fps [stb z3N 143 [(.int .i64 zh.fNumbers.fSlow),(.int .i64 zh.fNumbers.fDelay),(.int .i64 zh.fNumbers.fStore),(.int .i64 zh.fNow),(.int .i64 zh.fLast),(.slice z4i zh.fFrames.length z4j)],row (.slice z4i zh.fFrames.length z4j) 146 2 (zh.fFrames.flatMap y27)]) w₀ w₀ [stb z3N 143 [(.int .i64 zh.fNumbers.fSlow),(.int .i64 zh.fNumbers.fDelay),(.int .i64 zh.fNumbers.fStore),(.int .i64 zh.fNow),(.int .i64 zh.fLast),(.slice z4i zh.fFrames.length z4j)],row (.slice z4i zh.fFrames.length z4j) 146 2 (zh.fFrames.flatMap y27)]) :
  Calls Try.prog 41 #[(.pointer (some ⟨z3N,0,none⟩)),(.int .i64 z19),(.int .i64 zM)] w₀ fun e w'=>∃ znL : Option Addr,∃ znM : Nat,e = .returned (.tuple #[(.int .i64 r.1),(.int .i64 r.2.1)]) ∧ True ∧ Hp (fps [stb z3N 143 [(.int .i64 zh.fNumbers.fSlow),(.int .i64 zh.fNumbers.fDelay),(.int .i64 zh.fNumbers.fStore),(.int .i64 zh.fNow),(.int .i64 zh.fLast),(.slice z4i zh.fFrames.length z4j)],row (.slice z4i zh.fFrames.length z4j) 146 2 (zh.fFrames.flatMap y27)]) w₀ w' [stb z3N 143 [(.int .i64 r.2.2.fNumbers.fSlow),(.int .i64 r.2.2.fNumbers.fDelay),(.int .i64 r.2.2.fNumbers.fStore),(.int .i64 r.2.2.fNow),(.int .i64 r.2.2.fLast),(.slice znL r.2.2.fFrames.length znM)],row (.slice znL r.2.2.fFrames.length znM) 146 2 (r.2.2.fFrames.flatMap y27)]:=by
 unfold y2B at h
 refine Calls.yo (vs:=[(.pointer (some ⟨z3N,0,none⟩)),(.int .i64 z19),(.int .i64 zM)]) (pre:=[stb z3N 143 [(.int .i64 zh.fNumbers.fSlow),(.int .i64 zh.fNumbers.fDelay),(.int .i64 zh.fNumbers.fStore),(.int .i64 zh.fNow),(.int .i64 zh.fLast),(.slice z4i zh.fFrames.length z4j)],row (.slice z4i zh.fFrames.length z4j) 146 2 (zh.fFrames.flatMap y27)]) (env:=[(0,(.pointer (some ⟨z3N,0,none⟩))),(1,(.int .i64 z19)),(2,(.int .i64 zM))]) Try.func41 rfl Try.ntmps41 rfl (hown) rfl ?_
 refine WC.b (WC.a ?_)
 refine WL.new (dd:=4) rfl rfl rfl (y2p (cs:=[(.int .i64 z19)]) rfl rfl) ?_
 intro zfW _
 refine WL.pu rfl (WL.pu rfl (WL.nil (WX.a (WC.b (WC.block (WC.b ?_))))))
 obtain ⟨z8Q,zt9,h⟩:=zn h
 refine WC.a (WL.pu rfl ?_)
 refine WL.b (dd:=10) rfl rfl rfl (zE (l:=[.tmp 9]) Try.call53 (.cons rfl .nil)) .nil (ccl hz .nil (.cons .h1 (.cons .h1 .nil)) fun w pz ho la=>y5A _ _ _ _ _ _ zt9 w pz (ZA.row (la _ (.tail _ (.head _)) _) (RR.y16 (enc:=y27) (fun _=>rfl) _) ⟨w,pz.1⟩) ((la _ (.head _) _).stb)) ?_
 refine WL.pu rfl (WL.nil (WX.a ?_))
 refine WC.cond rfl (fun ziP=>?_) (fun ziP=>?_)
 ·replace h:=yk h ziP
  refine WC.b (WC.a (WL.pu rfl (WL.pu rfl (WL.nil (WX.a (WC.ret (WX.yr (WX.ye ?_))))))))
  obtain rfl:=Option.some.inj h
  refine WX.yj Try.results41 (.tmp rfl (.tmp rfl .nil)) (fun w hw=>?_)
  exact ⟨z4i,z4j,ret2 rfl rfl,trivial,hw.sub (.cons .h1 (.cons .h1 .nil))⟩
 ·replace h:=yl h ziP
  refine WC.b ?_
  refine WC.y12 (fun i=>[].contains i) [] rfl ?_
  refine WD.a (i:=0) (d:=12) (by kernel_rfl) rfl z2 z3 rfl rfl rfl (fun _=>q_m rfl) ?_
  refine WD.a (i:=1) (d:=13) (by kernel_rfl) rfl z2 z3 rfl rfl rfl (fun _=>y3B rfl rfl) ?_
  refine WD.a (i:=2) (d:=14) (by kernel_rfl) rfl z2 z3 rfl rfl rfl (fun _=>q_m rfl) ?_
  refine WD.mid (fuel':=13) [(0,(.pointer (some ⟨z3N,0,none⟩))),(1,(.int .i64 z19)),(2,(.int .i64 zM)),(4,(.pointer (some ⟨zfW,0,none⟩))),(6,(.int .i64 0)),(7,(.int .i64 0)),(9,(.pointer (some ⟨z3N,0,none⟩))),(10,(.bool z8Q)),(8,(.bool z8Q)),(12,(.int .i64 zM)),(13,(.bool (decide (zM < 1)))),(14,(.bool (decide (zM < 1)))),(17,(.bool ((decide (zM < 1)) || (decide (zM > 72)))))] (y1M 19 [5,4,3,2,1,0]) ?_ (fun znN=>?_)
  rotate_left
  ·rcases Bool.eq_false_or_eq_true (decide (zM < 1)) with hb' | hb'
   ·have ziQ:=hb'; clear hb'
    refine WD.pin (i:=14) rfl ziQ ?_
    refine WD.b (i:=3) (d:=15) (by kernel_rfl) rfl z2 z3 rfl rfl rfl ?_
    refine WD.b (i:=4) (d:=16) (by kernel_rfl) rfl z2 z3 rfl rfl rfl ?_
    refine WD.a (i:=5) (d:=17) (by kernel_rfl) rfl z2 z3 rfl rfl rfl (fun _=>y1D rfl rfl) ?_
    refine WD.yV (.cons .here (.cons .here (.cons .here .nil))) ?_ znN
    exact (.cons rfl (.cons rfl (.cons rfl (.cons rfl (.cons rfl (.cons rfl (.cons rfl (.cons rfl (.cons rfl (.cons rfl (.cons rfl (.cons (zu (Eq.symm ziQ)) (.cons (zu (y2m ziQ)) .nil)))))))))))))
   ·have ziR:=hb'; clear hb'
    refine WD.pin (i:=14) rfl ziR ?_
    refine WD.a (i:=3) (d:=15) (by kernel_rfl) rfl z2 z3 rfl rfl rfl (fun _=>q_m rfl) ?_
    refine WD.a (i:=4) (d:=16) (by kernel_rfl) rfl z2 z3 rfl rfl rfl (fun _=>y3X rfl rfl) ?_
    refine WD.a (i:=5) (d:=17) (by kernel_rfl) rfl z2 z3 rfl rfl rfl (fun _=>y1E rfl rfl) ?_
    refine WD.yV (.cons .here (.cons .here (.cons .here .nil))) ?_ znN
    exact (.cons rfl (.cons rfl (.cons rfl (.cons rfl (.cons rfl (.cons rfl (.cons rfl (.cons rfl (.cons rfl (.cons rfl (.cons rfl (.cons (zu (Eq.symm ziR)) (.cons (zu (y2n ziR)) .nil)))))))))))))
  refine WD.a (i:=6) (d:=18) (by kernel_rfl) rfl z2 z3 rfl rfl rfl (fun _=>q_m rfl) ?_
  refine WD.mid (fuel':=5) [(0,(.pointer (some ⟨z3N,0,none⟩))),(1,(.int .i64 z19)),(2,(.int .i64 zM)),(4,(.pointer (some ⟨zfW,0,none⟩))),(6,(.int .i64 0)),(7,(.int .i64 0)),(9,(.pointer (some ⟨z3N,0,none⟩))),(10,(.bool z8Q)),(8,(.bool z8Q)),(12,(.int .i64 zM)),(13,(.bool (decide (zM < 1)))),(14,(.bool (decide (zM < 1)))),(17,(.bool ((decide (zM < 1)) || (decide (zM > 72))))),(18,(.bool ((decide (zM < 1)) || (decide (zM > 72))))),(25,(.bool (((decide (zM < 1)) || (decide (zM > 72))) || (decide (z19 < zh.fNow)))))] (y1M 19 [13,12,11,10,9,8,7,6,5,4,3,2,1,0]) ?_ (fun znO=>?_)
  rotate_left
  ·rcases Bool.eq_false_or_eq_true ((decide (zM < 1)) || (decide (zM > 72))) with hb' | hb'
   ·have ziS:=hb'; clear hb'
    refine WD.pin (i:=18) rfl ziS ?_
    refine WD.b (i:=7) (d:=19) (by kernel_rfl) rfl z2 z3 rfl rfl rfl ?_
    refine WD.b (i:=8) (d:=20) (by kernel_rfl) rfl z2 z3 rfl rfl rfl ?_
    refine WD.b (i:=9) (d:=21) (by kernel_rfl) rfl z2 z3 rfl rfl rfl ?_
    refine WD.b (i:=10) (d:=22) (by kernel_rfl) rfl z2 z3 rfl rfl rfl ?_
    refine WD.b (i:=11) (d:=23) (by kernel_rfl) rfl z2 z3 rfl rfl rfl ?_
    refine WD.b (i:=12) (d:=24) (by kernel_rfl) rfl z2 z3 rfl rfl rfl ?_
    refine WD.a (i:=13) (d:=25) (by kernel_rfl) rfl z2 z3 rfl rfl rfl (fun _=>y1D rfl rfl) ?_
    refine WD.yV (.cons .here (.cons .here (.cons .here .nil))) ?_ znO
    exact (.cons rfl (.cons rfl (.cons rfl (.cons rfl (.cons rfl (.cons rfl (.cons rfl (.cons rfl (.cons rfl (.cons rfl (.cons rfl (.cons rfl (.cons rfl (.cons (zu (Eq.symm ziS)) (.cons (zu (y2m ziS)) .nil)))))))))))))))
   ·have ziT:=hb'; clear hb'
    refine WD.pin (i:=18) rfl ziT ?_
    refine WD.e (i:=7) (d:=19) (by kernel_rfl) rfl z2 z3 rfl rfl rfl (yb yh rfl (yd .here rfl)) ?_
    refine WD.a (i:=8) (d:=20) (by kernel_rfl) rfl z2 z3 rfl rfl rfl (fun _=>q_m rfl) ?_
    refine WD.a (i:=9) (d:=21) (by kernel_rfl) rfl z2 z3 rfl rfl rfl (fun _=>yw rfl) ?_
    refine WD.a (i:=10) (d:=22) (by kernel_rfl) rfl z2 z3 rfl rfl rfl (fun _=>ya y7y rfl rfl) ?_
    refine WD.e (i:=11) (d:=23) (by kernel_rfl) rfl z2 z3 rfl rfl rfl (yb yh rfl (yd .h1 rfl)) ?_
    refine WD.a (i:=12) (d:=24) (by kernel_rfl) rfl z2 z3 rfl rfl rfl (fun _=>y3B rfl rfl) ?_
    refine WD.a (i:=13) (d:=25) (by kernel_rfl) rfl z2 z3 rfl rfl rfl (fun _=>y1E rfl rfl) ?_
    refine WD.yV (.cons .here (.cons .here (.cons .here .nil))) ?_ znO
    exact (.cons rfl (.cons rfl (.cons rfl (.cons rfl (.cons rfl (.cons rfl (.cons rfl (.cons rfl (.cons rfl (.cons rfl (.cons rfl (.cons rfl (.cons rfl (.cons (zu (Eq.symm ziT)) (.cons (zu (y2n ziT)) .nil)))))))))))))))
  refine WD.a (i:=14) (d:=26) (by kernel_rfl) rfl z2 z3 rfl rfl rfl (fun _=>q_m rfl) ?_
  refine WD.mid (fuel':=1) [(0,(.pointer (some ⟨z3N,0,none⟩))),(1,(.int .i64 z19)),(2,(.int .i64 zM)),(4,(.pointer (some ⟨zfW,0,none⟩))),(6,(.int .i64 0)),(7,(.int .i64 0)),(9,(.pointer (some ⟨z3N,0,none⟩))),(10,(.bool z8Q)),(8,(.bool z8Q)),(12,(.int .i64 zM)),(13,(.bool (decide (zM < 1)))),(14,(.bool (decide (zM < 1)))),(17,(.bool ((decide (zM < 1)) || (decide (zM > 72))))),(18,(.bool ((decide (zM < 1)) || (decide (zM > 72))))),(25,(.bool (((decide (zM < 1)) || (decide (zM > 72))) || (decide (z19 < zh.fNow))))),(26,(.bool (((decide (zM < 1)) || (decide (zM > 72))) || (decide (z19 < zh.fNow))))),(29,(.bool ((((decide (zM < 1)) || (decide (zM > 72))) || (decide (z19 < zh.fNow))) || (decide (z19 > 1073741824)))))] (y1M 19 [17,16,15,14,13,12,11,10,9,8,7,6,5,4,3,2,1,0]) ?_ (fun znP=>?_)
  rotate_left
  ·rcases Bool.eq_false_or_eq_true (((decide (zM < 1)) || (decide (zM > 72))) || (decide (z19 < zh.fNow))) with hb' | hb'
   ·have ziU:=hb'; clear hb'
    refine WD.pin (i:=26) rfl ziU ?_
    refine WD.b (i:=15) (d:=27) (by kernel_rfl) rfl z2 z3 rfl rfl rfl ?_
    refine WD.b (i:=16) (d:=28) (by kernel_rfl) rfl z2 z3 rfl rfl rfl ?_
    refine WD.a (i:=17) (d:=29) (by kernel_rfl) rfl z2 z3 rfl rfl rfl (fun _=>y1D rfl rfl) ?_
    refine WD.yV (.cons .here (.cons .here (.cons .here .nil))) ?_ znP
    exact (.cons rfl (.cons rfl (.cons rfl (.cons rfl (.cons rfl (.cons rfl (.cons rfl (.cons rfl (.cons rfl (.cons rfl (.cons rfl (.cons rfl (.cons rfl (.cons rfl (.cons rfl (.cons (zu (Eq.symm ziU)) (.cons (zu (y2m ziU)) .nil)))))))))))))))))
   ·have ziV:=hb'; clear hb'
    refine WD.pin (i:=26) rfl ziV ?_
    refine WD.e (i:=15) (d:=27) (by kernel_rfl) rfl z2 z3 rfl rfl rfl (yb yh rfl (yd .here rfl)) ?_
    refine WD.a (i:=16) (d:=28) (by kernel_rfl) rfl z2 z3 rfl rfl rfl (fun _=>y3X rfl rfl) ?_
    refine WD.a (i:=17) (d:=29) (by kernel_rfl) rfl z2 z3 rfl rfl rfl (fun _=>y1E rfl rfl) ?_
    refine WD.yV (.cons .here (.cons .here (.cons .here .nil))) ?_ znP
    exact (.cons rfl (.cons rfl (.cons rfl (.cons rfl (.cons rfl (.cons rfl (.cons rfl (.cons rfl (.cons rfl (.cons rfl (.cons rfl (.cons rfl (.cons rfl (.cons rfl (.cons rfl (.cons (zu (Eq.symm ziV)) (.cons (zu (y2n ziV)) .nil)))))))))))))))))
  refine WD.a (i:=18) (d:=11) (by kernel_rfl) rfl z2 z3 rfl rfl rfl (fun _=>q_z rfl) ?_
  refine WD.done (by kernel_rfl) ?_
  refine WX.a ?_
  refine WC.cond rfl (fun ziW=>?_) (fun ziW=>?_)
  ·replace h:=yk h ziW
   refine WC.b (WC.a (WL.pu rfl (WL.pu rfl (WL.nil (WX.a (WC.ret (WX.yr (WX.ye ?_))))))))
   obtain rfl:=Option.some.inj h
   refine WX.yj Try.results41 (.tmp rfl (.tmp rfl .nil)) (fun w hw=>?_)
   exact ⟨z4i,z4j,ret2 rfl rfl,trivial,hw.sub (.cons .h1 (.cons .h1 .nil))⟩
  ·replace h:=yl h ziW
   refine WC.skip (WX.yg (WX.a (WC.b (WC.a (WL.pu rfl ?_)))))
   refine WL.a (d:=31) rfl rfl rfl (yb yh rfl (yd .here rfl)) ?_
   refine WL.a (d:=32) rfl rfl rfl (yw rfl) ?_
   refine WL.a (d:=33) rfl rfl rfl (ya y7y rfl rfl) ?_
   refine WL.y1g rfl rfl (y3Z (ds:=[(.int .i64 zh.fNumbers.fSlow),(.int .i64 zh.fNumbers.fDelay),(.int .i64 zh.fNumbers.fStore),(.int .i64 z19),(.int .i64 zh.fLast),(.slice z4i zh.fFrames.length z4j)]) y7W rfl rfl rfl rfl rfl .h1 rfl rfl) ?_
   refine WL.nil (WX.a (WC.b ?_))
   obtain ⟨z6I,zta,h⟩:=zn h
   refine WC.a (WL.pu rfl (WL.pu rfl ?_))
   refine WL.a (d:=36) rfl rfl rfl (yw rfl) ?_
   refine WL.a (d:=37) rfl rfl rfl (ya y5y rfl rfl) ?_
   refine WL.a (d:=38) rfl rfl rfl (yb zgS rfl (yd .here rfl)) ?_
   refine WL.a (d:=39) rfl rfl rfl (y6p (Eos.caps (l:=[.tmp 4]) (.cons rfl .nil))) ?_
   refine WL.y54 (dd:=40) rfl rfl rfl (zE (l:=[.tmp 38,.tmp 39]) Try.call54 (.cons rfl (.cons rfl .nil))) (.cons .h2 .nil) (ccl hz (.cons .h2 .nil) (.cons .h1 .nil) fun w pz ho la=>y3P _ _ _ (z5z:=55) (z7L:=[(.pointer (some ⟨zfW,0,none⟩))]) _ (z4g:=(fun (y0 : Sport_frame)=>y2F y0 z19)) _ zta w pz Try.call55 (fun w' hz' y0  r  hr=>y7l _ _ _ _ _ hr w' hz' ((la _ (.head _) _).stb)) ho) ?_
   rintro ziX ziY _
   refine WL.a (d:=41) rfl rfl rfl (yw rfl) ?_
   refine WL.a (d:=42) rfl rfl rfl (ya y5y rfl rfl) ?_
   refine WL.y1g rfl rfl (y3Z (ds:=[(.int .i64 zh.fNumbers.fSlow),(.int .i64 zh.fNumbers.fDelay),(.int .i64 zh.fNumbers.fStore),(.int .i64 z19),(.int .i64 zh.fLast),(.slice ziX z6I.length ziY)]) zl0 rfl rfl rfl rfl rfl .h1 rfl rfl) ?_
   refine WL.nil (WX.a (WC.b (WC.b ?_)))
   obtain ⟨znK,ztb,h⟩:=zn h
   refine WC.y12 (fun i=>[].contains i) [] rfl ?_
   refine WD.a (i:=0) (d:=43) (by kernel_rfl) rfl z2 z3 rfl rfl rfl (fun _=>q_m rfl) ?_
   refine WD.e (i:=1) (d:=44) (by kernel_rfl) rfl z2 z3 rfl rfl rfl (yb yh rfl (yd .h2 rfl)) ?_
   refine WD.c (i:=2) (d:=45) (by kernel_rfl) rfl z2 z3 rfl rfl rfl (zE (l:=[.tmp 43,.tmp 44]) Try.call56 (.cons rfl (.cons rfl .nil))) (ccl hz .nil (.cons .here (.cons .here .nil)) fun w pz ho la=>y7B _ _ _ _ _ _ _ ztb w pz (ZA.row (la _ (.tail _ (.head _)) _) (RR.y16 (enc:=y27) (fun _=>rfl) _) ⟨w,pz.1⟩) ((la _ (.head _) _).stb)) ?_
   refine WD.a (i:=3) (d:=46) (by kernel_rfl) rfl z2 z3 rfl rfl rfl (fun _=>q_m rfl) ?_
   refine WD.a (i:=4) (d:=47) (by kernel_rfl) rfl z2 z3 rfl rfl rfl (fun _=>y4z rfl rfl rfl) ?_
   refine WD.a (i:=5) (d:=48) (by kernel_rfl) rfl z2 z3 rfl rfl rfl (fun _=>q_m rfl) ?_
   refine WD.a (i:=6) (d:=49) (by kernel_rfl) rfl z2 z3 rfl rfl rfl (fun _=>yw rfl) ?_
   refine WD.a (i:=7) (d:=50) (by kernel_rfl) rfl z2 z3 rfl rfl rfl (fun _=>ya y6y rfl rfl) ?_
   refine WD.a (i:=8) (d:=51) (by kernel_rfl) rfl z2 z3 rfl rfl rfl (fun _=>ya fo_140_2 rfl rfl) ?_
   refine WD.e (i:=9) (d:=52) (by kernel_rfl) rfl z2 z3 rfl rfl rfl (yb yh rfl (yd .here rfl)) ?_
   refine WD.a (i:=10) (d:=53) (by kernel_rfl) rfl z2 z3 rfl rfl rfl (fun _=>y3X rfl rfl) ?_
   refine WD.done (by kernel_rfl) ?_
   refine WX.a ?_
   refine WC.cond rfl (fun ziZ=>?_) (fun ziZ=>?_)
   ·replace h:=yk h ziZ
    refine WC.b (WC.a (WL.pu rfl (WL.pu rfl (WL.nil (WX.a (WC.ret (WX.ye ?_)))))))
    obtain rfl:=Option.some.inj h
    refine WX.yj Try.results41 (.tmp rfl (.tmp rfl .nil)) (fun w hw=>?_)
    exact ⟨ziX,ziY,ret2 rfl rfl,trivial,hw.sub (.cons .here (.cons .here .nil))⟩
   ·replace h:=yl h ziZ
    refine WC.skip (WX.a (WC.b ?_))
    refine WC.y12 (fun i=>[23].contains i) [] rfl ?_
    refine WD.a (i:=0) (d:=54) (by kernel_rfl) rfl z2 z3 rfl rfl rfl (fun _=>q_m rfl) ?_
    refine WD.e (i:=1) (d:=55) (by kernel_rfl) rfl z2 z3 rfl rfl rfl (yb yh rfl (yd .h2 rfl)) ?_
    refine WD.a (i:=2) (d:=56) (by kernel_rfl) rfl z2 z3 rfl rfl rfl (fun _=>q_m rfl) ?_
    refine WD.a (i:=3) (d:=57) (by kernel_rfl) rfl z2 z3 rfl rfl rfl (fun _=>yw rfl) ?_
    refine WD.a (i:=4) (d:=58) (by kernel_rfl) rfl z2 z3 rfl rfl rfl (fun _=>ya y6y rfl rfl) ?_
    refine WD.a (i:=5) (d:=59) (by kernel_rfl) rfl z2 z3 rfl rfl rfl (fun _=>ya fo_140_1 rfl rfl) ?_
    refine WD.e (i:=6) (d:=60) (by kernel_rfl) rfl z2 z3 rfl rfl rfl (yb yh rfl (yd .here rfl)) ?_
    refine WD.a (i:=7) (d:=61) (by kernel_rfl) rfl z2 z3 rfl rfl rfl (fun _=>y4z rfl rfl rfl) ?_
    refine WD.a (i:=8) (d:=62) (by kernel_rfl) rfl z2 z3 rfl rfl rfl (fun _=>q_m rfl) ?_
    refine WD.a (i:=9) (d:=63) (by kernel_rfl) rfl z2 z3 rfl rfl rfl (fun _=>yw rfl) ?_
    refine WD.a (i:=10) (d:=64) (by kernel_rfl) rfl z2 z3 rfl rfl rfl (fun _=>ya y6z rfl rfl) ?_
    refine WD.e (i:=11) (d:=65) (by kernel_rfl) rfl z2 z3 rfl rfl rfl (yb yh rfl (yd .here rfl)) ?_
    refine WD.a (i:=12) (d:=66) (by kernel_rfl) rfl z2 z3 rfl rfl rfl (fun _=>q_max rfl rfl rfl) ?_
    refine WD.a (i:=13) (d:=67) (by kernel_rfl) rfl z2 z3 rfl rfl rfl (fun _=>q_m rfl) ?_
    refine WD.a (i:=14) (d:=68) (by kernel_rfl) rfl z2 z3 rfl rfl rfl (fun _=>q_m rfl) ?_
    refine WD.a (i:=15) (d:=69) (by kernel_rfl) rfl z2 z3 rfl rfl rfl (fun _=>yw rfl) ?_
    refine WD.a (i:=16) (d:=70) (by kernel_rfl) rfl z2 z3 rfl rfl rfl (fun _=>ya y6y rfl rfl) ?_
    refine WD.a (i:=17) (d:=71) (by kernel_rfl) rfl z2 z3 rfl rfl rfl (fun _=>ya y9c rfl rfl) ?_
    refine WD.e (i:=18) (d:=72) (by kernel_rfl) rfl z2 z3 rfl rfl rfl (yb yh rfl (yd .here rfl)) ?_
    refine WD.a (i:=19) (d:=73) (by kernel_rfl) rfl z2 z3 rfl rfl rfl (fun _=>q_mul rfl rfl rfl) ?_
    refine WD.a (i:=20) (d:=74) (by kernel_rfl) rfl z2 z3 rfl rfl rfl (fun _=>y4z rfl rfl rfl) ?_
    refine WD.a (i:=21) (d:=75) (by kernel_rfl) rfl z2 z3 rfl rfl rfl (fun _=>yw rfl) ?_
    refine WD.a (i:=22) (d:=76) (by kernel_rfl) rfl z2 z3 rfl rfl rfl (fun _=>ya y6z rfl rfl) ?_
    refine WD.y2L (i:=23) rfl (by kernel_rfl) rfl rfl rfl (by kernel_rfl) (y3Z (ds:=[(.int .i64 zh.fNumbers.fSlow),(.int .i64 zh.fNumbers.fDelay),(.int .i64 zh.fNumbers.fStore),(.int .i64 z19),(.int .i64 (i64 ((max (i64 (z19 + zh.fNumbers.fDelay)) zh.fLast) + (i64 (zM * zh.fNumbers.fSlow))))),(.slice ziX z6I.length ziY)]) y7W rfl rfl rfl rfl rfl .here rfl rfl) ?_
    refine WD.done (by kernel_rfl) ?_
    refine WX.a (WC.b ?_)
    obtain ⟨ztc,h⟩:=yi h
    refine WC.y12 (fun i=>[12,15].contains i) [] rfl ?_
    refine WD.a (i:=0) (d:=77) (by kernel_rfl) rfl z2 z3 rfl rfl rfl (fun _=>q_m rfl) ?_
    refine WD.a (i:=1) (d:=78) (by kernel_rfl) rfl z2 z3 rfl rfl rfl (fun _=>q_m rfl) ?_
    refine WD.a (i:=2) (d:=79) (by kernel_rfl) rfl z2 z3 rfl rfl rfl (fun _=>yw rfl) ?_
    refine WD.a (i:=3) (d:=80) (by kernel_rfl) rfl z2 z3 rfl rfl rfl (fun _=>ya y5y rfl rfl) ?_
    refine WD.e (i:=4) (d:=81) (by kernel_rfl) rfl z2 z3 rfl rfl rfl (yb zgS rfl (yd .here rfl)) ?_
    refine WD.a (i:=5) (d:=82) (by kernel_rfl) rfl z2 z3 rfl rfl rfl (fun _=>q_m rfl) ?_
    refine WD.a (i:=6) (d:=83) (by kernel_rfl) rfl z2 z3 rfl rfl rfl (fun _=>q_m rfl) ?_
    refine WD.a (i:=7) (d:=84) (by kernel_rfl) rfl z2 z3 rfl rfl rfl (fun _=>yw rfl) ?_
    refine WD.a (i:=8) (d:=85) (by kernel_rfl) rfl z2 z3 rfl rfl rfl (fun _=>ya y6z rfl rfl) ?_
    refine WD.e (i:=9) (d:=86) (by kernel_rfl) rfl z2 z3 rfl rfl rfl (yb yh rfl (yd .here rfl)) ?_
    refine WD.a (i:=10) (d:=87) (by kernel_rfl) rfl z2 z3 rfl rfl rfl (fun _=>y1l (v:=(.agg #[(.int .i64 zM),(.int .i64 (i64 ((max (i64 (z19 + zh.fNumbers.fDelay)) zh.fLast) + (i64 (zM * zh.fNumbers.fSlow)))))])) (Eos.parts (l:=[.tmp 82,.tmp 86]) (.cons rfl (.cons rfl .nil)) [0,1]) (fun _=>by kernel_rfl)) ?_
    refine WD.new (i:=11) (dd:=88) rfl (by kernel_rfl) rfl rfl rfl (yS (cs:=([(⟨zM,i64 ((max (i64 (z19 + zh.fNumbers.fDelay)) zh.fLast) + (i64 (zM * zh.fNumbers.fSlow)))⟩ : Sport_frame)] : List Sport_frame).flatMap y27) z78 (Eos.parts (l:=[.tmp 87]) (.cons rfl .nil) [0]) (fun _=>by kernel_rfl) rfl (by unfold maxLen; omega)) (fun h'=>absurd h' (by decide)) ?_
    intro zze _
    refine WD.old (i:=12) (dd:=89) rfl (by kernel_rfl) rfl rfl rfl rfl (fun _=>(Sin.of .nil)) (y3W (enc:=y27) (l1:=z6I) (l2:=([(⟨zM,i64 ((max (i64 (z19 + zh.fNumbers.fDelay)) zh.fLast) + (i64 (zM * zh.fNumbers.fSlow)))⟩ : Sport_frame)] : List Sport_frame)) z78 rfl rfl .h2 (fun _=>rfl) rfl rfl (y4i .here) (y4p y9L _) ztc) ?_
    rintro ⟨znQ,znR⟩ _
    refine WD.a (i:=13) (d:=90) (by kernel_rfl) rfl z2 z3 rfl rfl rfl (fun _=>yw rfl) ?_
    refine WD.a (i:=14) (d:=91) (by kernel_rfl) rfl z2 z3 rfl rfl rfl (fun _=>ya y5y rfl rfl) ?_
    refine WD.y2L (i:=15) rfl (by kernel_rfl) rfl rfl rfl (by kernel_rfl) (y3Z (ds:=[(.int .i64 zh.fNumbers.fSlow),(.int .i64 zh.fNumbers.fDelay),(.int .i64 zh.fNumbers.fStore),(.int .i64 z19),(.int .i64 (i64 ((max (i64 (z19 + zh.fNumbers.fDelay)) zh.fLast) + (i64 (zM * zh.fNumbers.fSlow))))),(.slice znQ ((z6I ++ ([(⟨zM,i64 ((max (i64 (z19 + zh.fNumbers.fDelay)) zh.fLast) + (i64 (zM * zh.fNumbers.fSlow)))⟩ : Sport_frame)] : List Sport_frame)).length) znR)]) zl0 rfl rfl rfl rfl rfl .h2 rfl rfl) ?_
    refine WD.done (by kernel_rfl) ?_
    refine WX.a (WC.b (WC.a (WL.pu rfl ?_)))
    refine WL.a (d:=93) rfl rfl rfl (yw rfl) ?_
    refine WL.a (d:=94) rfl rfl rfl (ya y6z rfl rfl) ?_
    refine WL.a (d:=95) rfl rfl rfl (yb yh rfl (yd .here rfl)) ?_
    refine WL.pu rfl (WL.pu rfl (WL.nil (WX.a (WC.ret ?_))))
    obtain rfl:=Option.some.inj h
    refine WX.yj Try.results41 (.tmp rfl (.tmp rfl .nil)) (fun w hw=>?_)
    exact ⟨znQ,znR,ret2 rfl rfl,trivial,hw.sub (.cons .here (.cons .here .nil))⟩
def y2T (zo : Sapi_Config) (z3y : List (List Sapi_Hop)) (z2R : List zSt) (zfX : List (Snetwork_exit × Sport_Port)) (z33 : List Snetwork_event) (z1l : List Sapi_Come) (z1i : List Sapi_Come) : Option (List Snetwork_event × List Sapi_Come × List Sapi_Come × (List (Snetwork_exit × Sport_Port))) :=
 (y2u z33).bind fun z7=>(y3j zo z3y z2R zfX z7.2 z1l z1i z7.1.fHop).bind fun z2S=>chk ((0 : Int) ≤ z7.1.fSent ∧ z7.1.fSent < ((z2R.length : Nat) : Int)) (chk (y2b z2S (⟨z7.1.fHop.fNode,z7.1.fHop.fLink⟩ : Snetwork_exit) = true) ((y2B (⟨(⟨(((yp z2S (⟨z7.1.fHop.fNode,z7.1.fHop.fLink⟩ : Snetwork_exit) default).fNumbers).fSlow),(((yp z2S (⟨z7.1.fHop.fNode,z7.1.fHop.fLink⟩ : Snetwork_exit) default).fNumbers).fDelay),(((yp z2S (⟨z7.1.fHop.fNode,z7.1.fHop.fLink⟩ : Snetwork_exit) default).fNumbers).fStore)⟩ : Sport_numbers),((yp z2S (⟨z7.1.fHop.fNode,z7.1.fHop.fLink⟩ : Snetwork_exit) default).fNow),((yp z2S (⟨z7.1.fHop.fNode,z7.1.fHop.fLink⟩ : Snetwork_exit) default).fLast),((yp z2S (⟨z7.1.fHop.fNode,z7.1.fHop.fLink⟩ : Snetwork_exit) default).fFrames)⟩ : Sport_Port) z7.1.fTime ((nth z2R z7.1.fSent).fSize)).bind fun z2o=>if decide (z2o.2.1 ≠ 0) then chk ((((z1i ++ ([(⟨z7.1.fSent,z7.1.fHop.fNode,z7.1.fTime⟩ : Sapi_Come)] : List Sapi_Come)).length : Nat) : Int) * 24 ≤ 140737488355328 ∧ (((z1i ++ ([(⟨z7.1.fSent,z7.1.fHop.fNode,z7.1.fTime⟩ : Sapi_Come)] : List Sapi_Come)).length : Nat) : Int) ≤ 4611686018427387904) (some (z7.2,z1l,(z1i ++ ([(⟨z7.1.fSent,z7.1.fHop.fNode,z7.1.fTime⟩ : Sapi_Come)] : List Sapi_Come)),(yE z2S (⟨z7.1.fHop.fNode,z7.1.fHop.fLink⟩ : Snetwork_exit) z2o.2.2))) else jp1 (fun (z5C : List Sapi_Come)=>(y2l zo z3y z2R (yE z2S (⟨z7.1.fHop.fNode,z7.1.fHop.fLink⟩ : Snetwork_exit) z2o.2.2) z7.2 z5C z1i z7.1.fHop.fNext z2o.1 z7.1.fHop.fLink z7.1.fSent).bind fun znS=>some (znS,z5C,z1i,(yE z2S (⟨z7.1.fHop.fNode,z7.1.fHop.fLink⟩ : Snetwork_exit) z2o.2.2))) fun zfY=>if decide (z7.1.fHop.fNext < ((zo.fModules.length : Nat) : Int)) then chk ((((z1l ++ ([(⟨z7.1.fSent,z7.1.fHop.fNext,z2o.1⟩ : Sapi_Come)] : List Sapi_Come)).length : Nat) : Int) * 24 ≤ 140737488355328 ∧ (((z1l ++ ([(⟨z7.1.fSent,z7.1.fHop.fNext,z2o.1⟩ : Sapi_Come)] : List Sapi_Come)).length : Nat) : Int) ≤ 4611686018427387904) (zfY (z1l ++ ([(⟨z7.1.fSent,z7.1.fHop.fNext,z2o.1⟩ : Sapi_Come)] : List Sapi_Come))) else zfY z1l))
set_option maxRecDepth 20000 in
theorem y79 (Z : Zp) (z45 : Nat) (z4X : Option Addr) (z4Y : Nat) (z4Z : Option Addr) (z50 : Nat) (z51 : Option Addr) (z52 : Nat) (z53 : Option Addr) (z54 : Nat) (z55 : Option Addr) (z56 : Nat) (z57 : Option Addr) (z58 : Nat) (z59 : Option Addr) (z5a : Nat) (z5b : Option Addr) (z5c : Nat) (z5d : Option Addr) (z5e : Nat) (z4k : Option Addr) (z4l : Nat) (z2A : Nat) (z5D : List (Snetwork_exit × ((Nat × (Option Addr × Nat)) × Sport_Port))) (z6J : Option Addr) (z6K : Nat) (z3j : Option Addr) (z3k : Nat) (z34 : Option Addr) (z35 : Nat) (zo : Sapi_Config) (z3y : List (List Sapi_Hop)) (z2R : List zSt) (zfX : List (Snetwork_exit × Sport_Port)) (z33 : List Snetwork_event) (z1l : List Sapi_Come) (z1i : List Sapi_Come) (r : List Snetwork_event × List Sapi_Come × List Sapi_Come × (List (Snetwork_exit × Sport_Port)))
  (h : y2T zo z3y z2R zfX z33 z1l z1i = some r) (w₀ : World) (hz : PZ (fps [stb z45 81 [(.slice z4X zo.fModules.length z4Y),(.slice z4Z zo.fChannels.length z50),(.slice z51 zo.fSwitches.length z52),(.slice z53 zo.fLinks.length z54),(.slice z55 zo.fVLs.length z56),(.slice z57 zo.fHealth.length z58),(.slice z59 zo.fCauses.length z5a),(.slice z5b zo.fVersions.length z5c),(.slice z5d z3y.length z5e),(.slice z4k z2R.length z4l),(.map (some z2A)),(.slice z6J z33.length z6K),(.slice z3j z1l.length z3k),(.slice z34 z1i.length z35)],yI z2A (fun x=>Value.agg (y1V x).toArray) Value.pointer (y1o z5D),y1n z1e z5D,row (.slice z6J z33.length z6K) 113 7 (z33.flatMap yA),row (.slice z3j z1l.length z3k) 50 3 (z1l.flatMap e50),row (.slice z34 z1i.length z35) 50 3 (z1i.flatMap e50)]) w₀ Z)
  (znT : ZS Z 4 (y2I Z) z4X z4Y zo.fModules)
  (znU : ZS Z 4 (y31 Z) z4Z z50 zo.fChannels)
  (znV : ZS Z 4 (fun r x=>r = e64 x) z51 z52 zo.fSwitches)
  (znW : ZS Z 4 (fun r x=>r = e62 x) z53 z54 zo.fLinks)
  (znX : ZS Z 7 (y2S Z) z55 z56 zo.fVLs)
  (znY : ZS Z 5 (fun r x=>r = y3g x) z57 z58 zo.fHealth)
  (znZ : ZS Z 3 (y32 Z) z59 z5a zo.fCauses)
  (zo0 : ZS Z 4 (fun r x=>r = y3h x) z5b z5c zo.fVersions)
  (zo1 : ZS Z 1 (p55 Z) z5d z5e z3y)
  (zj0 : ZS Z 3 (fun r x=>r = e53 x) z4k z4l z2R)
  (ztd : dat z5D = zfX)
  (hown : Hp (fps [stb z45 81 [(.slice z4X zo.fModules.length z4Y),(.slice z4Z zo.fChannels.length z50),(.slice z51 zo.fSwitches.length z52),(.slice z53 zo.fLinks.length z54),(.slice z55 zo.fVLs.length z56),(.slice z57 zo.fHealth.length z58),(.slice z59 zo.fCauses.length z5a),(.slice z5b zo.fVersions.length z5c),(.slice z5d z3y.length z5e),(.slice z4k z2R.length z4l),(.map (some z2A)),(.slice z6J z33.length z6K),(.slice z3j z1l.length z3k),(.slice z34 z1i.length z35)],yI z2A (fun x=>Value.agg (y1V x).toArray) Value.pointer (y1o z5D),y1n z1e z5D,row (.slice z6J z33.length z6K) 113 7 (z33.flatMap yA),row (.slice z3j z1l.length z3k) 50 3 (z1l.flatMap e50),row (.slice z34 z1i.length z35) 50 3 (z1i.flatMap e50)]) w₀ w₀ [stb z45 81 [(.slice z4X zo.fModules.length z4Y),(.slice z4Z zo.fChannels.length z50),(.slice z51 zo.fSwitches.length z52),(.slice z53 zo.fLinks.length z54),(.slice z55 zo.fVLs.length z56),(.slice z57 zo.fHealth.length z58),(.slice z59 zo.fCauses.length z5a),(.slice z5b zo.fVersions.length z5c),(.slice z5d z3y.length z5e),(.slice z4k z2R.length z4l),(.map (some z2A)),(.slice z6J z33.length z6K),(.slice z3j z1l.length z3k),(.slice z34 z1i.length z35)],yI z2A (fun x=>Value.agg (y1V x).toArray) Value.pointer (y1o z5D),y1n z1e z5D,row (.slice z6J z33.length z6K) 113 7 (z33.flatMap yA),row (.slice z3j z1l.length z3k) 50 3 (z1l.flatMap e50),row (.slice z34 z1i.length z35) 50 3 (z1i.flatMap e50)]) :
  Calls Try.prog 26 #[(.pointer (some ⟨z45,0,none⟩))] w₀ fun e w'=>∃ zo2 : Option Addr,∃ zo3 : Nat,∃ zo4 : Option Addr,∃ zo5 : Nat,∃ zo6 : Option Addr,∃ zo7 : Nat,∃ zj1 : List (Snetwork_exit × ((Nat × (Option Addr × Nat)) × Sport_Port)),e = .returned (.tuple #[]) ∧ (dat zj1 = r.2.2.2) ∧ Hp (fps [stb z45 81 [(.slice z4X zo.fModules.length z4Y),(.slice z4Z zo.fChannels.length z50),(.slice z51 zo.fSwitches.length z52),(.slice z53 zo.fLinks.length z54),(.slice z55 zo.fVLs.length z56),(.slice z57 zo.fHealth.length z58),(.slice z59 zo.fCauses.length z5a),(.slice z5b zo.fVersions.length z5c),(.slice z5d z3y.length z5e),(.slice z4k z2R.length z4l),(.map (some z2A)),(.slice z6J z33.length z6K),(.slice z3j z1l.length z3k),(.slice z34 z1i.length z35)],yI z2A (fun x=>Value.agg (y1V x).toArray) Value.pointer (y1o z5D),y1n z1e z5D,row (.slice z6J z33.length z6K) 113 7 (z33.flatMap yA),row (.slice z3j z1l.length z3k) 50 3 (z1l.flatMap e50),row (.slice z34 z1i.length z35) 50 3 (z1i.flatMap e50)]) w₀ w' [stb z45 81 [(.slice z4X zo.fModules.length z4Y),(.slice z4Z zo.fChannels.length z50),(.slice z51 zo.fSwitches.length z52),(.slice z53 zo.fLinks.length z54),(.slice z55 zo.fVLs.length z56),(.slice z57 zo.fHealth.length z58),(.slice z59 zo.fCauses.length z5a),(.slice z5b zo.fVersions.length z5c),(.slice z5d z3y.length z5e),(.slice z4k z2R.length z4l),(.map (some z2A)),(.slice zo2 r.1.length zo3),(.slice zo4 r.2.1.length zo5),(.slice zo6 r.2.2.1.length zo7)],row (.slice zo2 r.1.length zo3) 113 7 (r.1.flatMap yA),row (.slice zo4 r.2.1.length zo5) 50 3 (r.2.1.flatMap e50),row (.slice zo6 r.2.2.1.length zo7) 50 3 (r.2.2.1.flatMap e50),yI z2A (fun x=>Value.agg (y1V x).toArray) Value.pointer (y1o zj1),y1n z1e zj1]:=by
 unfold y2T at h
 refine Calls.yo (vs:=[(.pointer (some ⟨z45,0,none⟩))]) (pre:=[stb z45 81 [(.slice z4X zo.fModules.length z4Y),(.slice z4Z zo.fChannels.length z50),(.slice z51 zo.fSwitches.length z52),(.slice z53 zo.fLinks.length z54),(.slice z55 zo.fVLs.length z56),(.slice z57 zo.fHealth.length z58),(.slice z59 zo.fCauses.length z5a),(.slice z5b zo.fVersions.length z5c),(.slice z5d z3y.length z5e),(.slice z4k z2R.length z4l),(.map (some z2A)),(.slice z6J z33.length z6K),(.slice z3j z1l.length z3k),(.slice z34 z1i.length z35)],yI z2A (fun x=>Value.agg (y1V x).toArray) Value.pointer (y1o z5D),y1n z1e z5D,row (.slice z6J z33.length z6K) 113 7 (z33.flatMap yA),row (.slice z3j z1l.length z3k) 50 3 (z1l.flatMap e50),row (.slice z34 z1i.length z35) 50 3 (z1i.flatMap e50)]) (env:=[(0,(.pointer (some ⟨z45,0,none⟩)))]) Try.func26 rfl Try.ntmps26 rfl (hown) rfl ?_
 refine WC.b ?_
 obtain ⟨z7,zte,h⟩:=zn h
 refine WC.a (WL.pu rfl ?_)
 refine WL.a (d:=6) rfl rfl rfl (yw rfl) ?_
 refine WL.a (d:=7) rfl rfl rfl (ya y8j rfl rfl) ?_
 refine WL.a (d:=8) rfl rfl rfl (y5N Try.underlying111 rfl rfl) ?_
 refine WL.y54 (dd:=9) rfl rfl rfl (zE (l:=[.tmp 8]) Try.call39 (.cons rfl .nil)) (.cons .here (.cons .h2 .nil)) (cc hz (.cons .here (.cons .h2 .nil)) fun w pz ho=>y6i _ _ _ _ _ _ _ _ _ _ _ _ _ _ _ _ _ _ _ zte w pz  ho) ?_
 rintro z7O z7P _
 refine WL.a (d:=10) rfl rfl rfl (y95 Try.underlying113 rfl rfl) ?_
 refine WL.new (dd:=2) rfl rfl rfl (y1Y (cs:=[(.int .i64 0),(.int .i64 0),(.int .i64 0),(.int .i64 0),(.int .i64 0),(.int .i64 0),(.int .i64 0)]) zkY rfl) ?_
 intro zee _
 refine WL.y1g rfl rfl (y1A zf0 rfl rfl rfl .here rfl rfl rfl) ?_
 refine WL.nil (WX.a (WC.b ?_))
 obtain ⟨z2S,ztf,h⟩:=zn h
 obtain ⟨ztg,h⟩:=yi h
 obtain ⟨zo8,h⟩:=yi h
 obtain ⟨z2o,zth,h⟩:=zn h
 refine WC.y12 (fun i=>[3,15].contains i) [stbp zee 113 [(0,(.int .i64 z7.1.fTime)),(3,(.int .i64 z7.1.fSent))],stbp z45 81 [(9,(.slice z4k z2R.length z4l))]] rfl ?_
 refine WD.a (i:=0) (d:=12) (by kernel_rfl) rfl z2 z3 rfl rfl rfl (fun _=>q_m rfl) ?_
 refine WD.a (i:=1) (d:=13) (by kernel_rfl) rfl z2 z3 rfl rfl rfl (fun _=>ya y4X rfl rfl) ?_
 refine WD.e (i:=2) (d:=14) (by kernel_rfl) rfl z2 z3 rfl rfl rfl (y1L (cs:=[(.int .i64 z7.1.fHop.fNode),(.int .i64 z7.1.fHop.fNext),(.int .i64 z7.1.fHop.fLink)]) y68 rfl rfl (rd_sub (s:=3) .here rfl)) ?_
 refine WD.a (i:=4) (d:=16) (by kernel_rfl) rfl z2 z3 rfl rfl rfl (fun _=>ya y6x rfl rfl) ?_
 refine WD.stable (i:=5) (d:=17) (by kernel_rfl) rfl z2 z3 rfl rfl rfl (Sin.wk (.cons .here (.cons .here .nil)) (.stb (.cons rfl (.cons rfl .nil)) (.stb (.cons rfl .nil) .nil))) (yb yh rfl (y7d .here (.head _))) ?_
 refine WD.a (i:=6) (d:=18) (by kernel_rfl) rfl z2 z3 rfl rfl rfl (fun _=>q_m rfl) ?_
 refine WD.a (i:=7) (d:=19) (by kernel_rfl) rfl z2 z3 rfl rfl rfl (fun _=>yw rfl) ?_
 refine WD.a (i:=8) (d:=20) (by kernel_rfl) rfl z2 z3 rfl rfl rfl (fun _=>ya y9M rfl rfl) ?_
 refine WD.stable (i:=9) (d:=21) (by kernel_rfl) rfl z2 z3 rfl rfl rfl (Sin.wk (.cons .here (.cons .here .nil)) (.stb (.cons rfl (.cons rfl .nil)) (.stb (.cons rfl .nil) .nil))) (yb y9N rfl (y7d .h1 (.head _))) ?_
 refine WD.a (i:=10) (d:=22) (by kernel_rfl) rfl z2 z3 rfl rfl rfl (fun _=>ya y4W rfl rfl) ?_
 refine WD.stable (i:=11) (d:=23) (by kernel_rfl) rfl z2 z3 rfl rfl rfl (Sin.wk (.cons .here (.cons .here .nil)) (.stb (.cons rfl (.cons rfl .nil)) (.stb (.cons rfl .nil) .nil))) (yb yh rfl (y7d .here (.tail _ (.head _)))) ?_
 refine WD.znth (j:=12) (dd:=24) (by kernel_rfl) rfl z2 z3 rfl rfl (Z:=Z) (Pr:=(fun r x=>r = e53 x)) y43 rfl rfl zj0 ztg ?_
 rintro zzf zzg zti zzh rfl
 refine WD.a (i:=13) (d:=25) (by kernel_rfl) rfl z2 z3 rfl rfl rfl (fun _=>ya y6b rfl rfl) ?_
 refine WD.stable (i:=14) (d:=26) (by kernel_rfl) rfl z2 z3 rfl rfl rfl (Sin.wk (.cons .here (.cons .here .nil)) (.stb (.cons rfl (.cons rfl .nil)) (.stb (.cons rfl .nil) .nil))) (yb yh rfl (y2h hz.pv zti rfl)) ?_
 refine WD.call1 (i:=3) (dd:=15) rfl (by kernel_rfl) rfl rfl rfl (.inl ⟨rfl,fun _=>(Sin.wk (.cons .h2 (.cons .h2 .nil)) (.stb (.cons rfl (.cons rfl .nil)) (.stb (.cons rfl .nil) .nil)))⟩) (zE (l:=[.tmp 12,.tmp 14]) Try.call40 (.cons rfl (.cons rfl .nil))) (.cons .h3 (.cons .h3 .nil)) (ccl hz (.cons .h3 (.cons .h3 .nil)) (.cons .h1 (.cons .h1 (.cons .h1 (.cons .h1 .nil)))) fun w pz ho la=>y7A _ _ _ _ _ _ _ _ _ _ _ _ _ _ _ _ _ _ _ _ _ _ _ _ _ _ _ _ _ _ _ _ _ _ _ _ _ _ _ ztf w pz ((znT.mono (Zle.left _ _)).weak (fun _ _ h=>y23 (Zle.left _ _) h)) ((znU.mono (Zle.left _ _)).weak (fun _ _ h=>y2c (Zle.left _ _) h)) (znV.mono (Zle.left _ _)) (znW.mono (Zle.left _ _)) ((znX.mono (Zle.left _ _)).weak (fun _ _ h=>y24 (Zle.left _ _) h)) (znY.mono (Zle.left _ _)) ((znZ.mono (Zle.left _ _)).weak (fun _ _ h=>y2d (Zle.left _ _) h)) (zo0.mono (Zle.left _ _)) ((zo1.mono (Zle.left _ _)).weak (fun _ _ h=>y3A (Zle.left _ _) h)) (zj0.mono (Zle.left _ _)) ztd (ZA.row (la _ (.tail _ (.head _)) _) (RR.y16 (enc:=yA) (fun _=>rfl) _) ⟨w,pz.1⟩) (ZA.row (la _ (.tail _ (.tail _ (.head _))) _) (RR.y16 (enc:=e50) (fun _=>rfl) _) ⟨w,pz.1⟩) (ZA.row (la _ (.tail _ (.tail _ (.tail _ (.head _)))) _) (RR.y16 (enc:=e50) (fun _=>rfl) _) ⟨w,pz.1⟩) ((la _ (.head _) _).stb) ho) ?_
 rintro z7Q zef
 refine WD.gh (fun _=>Hp.y9x zef zo8 .h1 (fun g=>stb g.1 143 [(.int .i64 (((yp z2S (⟨z7.1.fHop.fNode,z7.1.fHop.fLink⟩ : Snetwork_exit) default).fNumbers).fSlow)),(.int .i64 (((yp z2S (⟨z7.1.fHop.fNode,z7.1.fHop.fLink⟩ : Snetwork_exit) default).fNumbers).fDelay)),(.int .i64 (((yp z2S (⟨z7.1.fHop.fNode,z7.1.fHop.fLink⟩ : Snetwork_exit) default).fNumbers).fStore)),(.int .i64 ((yp z2S (⟨z7.1.fHop.fNode,z7.1.fHop.fLink⟩ : Snetwork_exit) default).fNow)),(.int .i64 ((yp z2S (⟨z7.1.fHop.fNode,z7.1.fHop.fLink⟩ : Snetwork_exit) default).fLast)),(.slice g.2.1 (((yp z2S (⟨z7.1.fHop.fNode,z7.1.fHop.fLink⟩ : Snetwork_exit) default).fFrames).length) g.2.2)] :: row (.slice g.2.1 (((yp z2S (⟨z7.1.fHop.fNode,z7.1.fHop.fLink⟩ : Snetwork_exit) default).fFrames).length) g.2.2) 146 2 (((yp z2S (⟨z7.1.fHop.fNode,z7.1.fHop.fLink⟩ : Snetwork_exit) default).fFrames).flatMap y27) :: [y1n z1e (y4v (⟨z7.1.fHop.fNode,z7.1.fHop.fLink⟩ : Snetwork_exit) z7Q),yI z2A (fun x=>Value.agg (y1V x).toArray) Value.pointer (y1o z7Q),stb zee 113 [(.int .i64 z7.1.fTime),(.int .i64 z7.1.fIn_),(.int .i64 z7.1.fVl),(.int .i64 z7.1.fSent),(.int .i64 z7.1.fHop.fNode),(.int .i64 z7.1.fHop.fNext),(.int .i64 z7.1.fHop.fLink)],stb z45 81 [(.slice z4X zo.fModules.length z4Y),(.slice z4Z zo.fChannels.length z50),(.slice z51 zo.fSwitches.length z52),(.slice z53 zo.fLinks.length z54),(.slice z55 zo.fVLs.length z56),(.slice z57 zo.fHealth.length z58),(.slice z59 zo.fCauses.length z5a),(.slice z5b zo.fVersions.length z5c),(.slice z5d z3y.length z5e),(.slice z4k z2R.length z4l),(.map (some z2A)),(.slice z7O z7.2.length z7P),(.slice z3j z1l.length z3k),(.slice z34 z1i.length z35)],row (.slice z7O z7.2.length z7P) 113 7 (z7.2.flatMap yA),row (.slice z3j z1l.length z3k) 50 3 (z1l.flatMap e50),row (.slice z34 z1i.length z35) 50 3 (z1i.flatMap e50)]) (fun _=>rfl)) ?_
 rintro ⟨z8R,zzi,zzj⟩ zo9
 refine WD.repin (i:=15) rfl (u:=(.pointer (some ⟨z8R,0,none⟩))) (congrArg Value.pointer zo9) ?_
 refine WD.call2 (i:=15) (dd:=27) rfl (by kernel_rfl) rfl rfl rfl (.inl ⟨rfl,fun _ _=>(Sin.wk (.cons .h4 (.cons .h4 .nil)) (.stb (.cons rfl (.cons rfl .nil)) (.stb (.cons rfl .nil) .nil)))⟩) (zE (l:=[.tmp 15,.tmp 17,.tmp 26]) Try.call41 (.cons rfl (.cons rfl (.cons rfl .nil)))) (.cons .here (.cons .here .nil)) (cc hz (.cons .here (.cons .here .nil)) fun w pz ho=>y81 _ _ _ _ _ _ _ _ zth w pz  ho) ?_
 rintro za8 za9 _
 refine WD.ghL (fun _ h=>Hp.objsClose (els:=z1e) (lg:=z7Q) (k:=(⟨z7.1.fHop.fNode,z7.1.fHop.fLink⟩ : Snetwork_exit)) (b:=z8R) (g:=(za8,za9)) (x:=z2o.2.2) (.cons .here (.cons .here (.cons .here .nil))) h) ?_
 refine WD.ghL (M:=[yI z2A (fun x=>Value.agg (y1V x).toArray) Value.pointer (y1o (yE z7Q (⟨z7.1.fHop.fNode,z7.1.fHop.fLink⟩ : Snetwork_exit) ((z8R,(za8,za9)),z2o.2.2))),y1n z1e (yE z7Q (⟨z7.1.fHop.fNode,z7.1.fHop.fLink⟩ : Snetwork_exit) ((z8R,(za8,za9)),z2o.2.2)),stb zee 113 [(.int .i64 z7.1.fTime),(.int .i64 z7.1.fIn_),(.int .i64 z7.1.fVl),(.int .i64 z7.1.fSent),(.int .i64 z7.1.fHop.fNode),(.int .i64 z7.1.fHop.fNext),(.int .i64 z7.1.fHop.fLink)],stb z45 81 [(.slice z4X zo.fModules.length z4Y),(.slice z4Z zo.fChannels.length z50),(.slice z51 zo.fSwitches.length z52),(.slice z53 zo.fLinks.length z54),(.slice z55 zo.fVLs.length z56),(.slice z57 zo.fHealth.length z58),(.slice z59 zo.fCauses.length z5a),(.slice z5b zo.fVersions.length z5c),(.slice z5d z3y.length z5e),(.slice z4k z2R.length z4l),(.map (some z2A)),(.slice z7O z7.2.length z7P),(.slice z3j z1l.length z3k),(.slice z34 z1i.length z35)],row (.slice z7O z7.2.length z7P) 113 7 (z7.2.flatMap yA),row (.slice z3j z1l.length z3k) 50 3 (z1l.flatMap e50),row (.slice z34 z1i.length z35) 50 3 (z1i.flatMap e50)]) (fun _ h=>Hp.y94 .h1 (yaa zef zo8 zo9 _ _) h) ?_
 refine WD.a (i:=16) (d:=11) (by kernel_rfl) rfl z2 z3 rfl rfl rfl (fun _=>q_m rfl) ?_
 refine WD.a (i:=17) (d:=28) (by kernel_rfl) rfl z2 z3 rfl rfl rfl (fun _=>y4e rfl rfl) ?_
 refine WD.a (i:=18) (d:=29) (by kernel_rfl) rfl z2 z3 rfl rfl rfl (fun _=>y4e rfl rfl) ?_
 refine WD.a (i:=19) (d:=3) (by kernel_rfl) rfl z2 z3 rfl rfl rfl (fun _=>q_z rfl) ?_
 refine WD.a (i:=20) (d:=4) (by kernel_rfl) rfl z2 z3 rfl rfl rfl (fun _=>q_z rfl) ?_
 refine WD.done (by kernel_rfl) ?_
 refine WX.a (WC.b (WC.b (WC.a (WL.pu rfl (WL.pu rfl (WL.nil (WX.a ?_)))))))
 refine WC.cond rfl (fun zj2=>?_) (fun zj2=>?_)
 ·replace h:=yk h zj2
  refine WC.b ?_
  obtain ⟨ztj,h⟩:=yi h
  refine WC.y12 (fun i=>[14,17].contains i) [] rfl ?_
  refine WD.a (i:=0) (d:=32) (by kernel_rfl) rfl z2 z3 rfl rfl rfl (fun _=>q_m rfl) ?_
  refine WD.a (i:=1) (d:=33) (by kernel_rfl) rfl z2 z3 rfl rfl rfl (fun _=>q_m rfl) ?_
  refine WD.a (i:=2) (d:=34) (by kernel_rfl) rfl z2 z3 rfl rfl rfl (fun _=>yw rfl) ?_
  refine WD.a (i:=3) (d:=35) (by kernel_rfl) rfl z2 z3 rfl rfl rfl (fun _=>ya y8m rfl rfl) ?_
  refine WD.e (i:=4) (d:=36) (by kernel_rfl) rfl z2 z3 rfl rfl rfl (yb y5m rfl (yd .h3 rfl)) ?_
  refine WD.a (i:=5) (d:=37) (by kernel_rfl) rfl z2 z3 rfl rfl rfl (fun _=>ya y4W rfl rfl) ?_
  refine WD.e (i:=6) (d:=38) (by kernel_rfl) rfl z2 z3 rfl rfl rfl (yb yh rfl (yd .h2 rfl)) ?_
  refine WD.a (i:=7) (d:=39) (by kernel_rfl) rfl z2 z3 rfl rfl rfl (fun _=>ya y4X rfl rfl) ?_
  refine WD.a (i:=8) (d:=40) (by kernel_rfl) rfl z2 z3 rfl rfl rfl (fun _=>ya y39 rfl rfl) ?_
  refine WD.e (i:=9) (d:=41) (by kernel_rfl) rfl z2 z3 rfl rfl rfl (yb yh rfl (yd .h2 rfl)) ?_
  refine WD.a (i:=10) (d:=42) (by kernel_rfl) rfl z2 z3 rfl rfl rfl (fun _=>ya y6x rfl rfl) ?_
  refine WD.e (i:=11) (d:=43) (by kernel_rfl) rfl z2 z3 rfl rfl rfl (yb yh rfl (yd .h2 rfl)) ?_
  refine WD.a (i:=12) (d:=44) (by kernel_rfl) rfl z2 z3 rfl rfl rfl (fun _=>y1l (v:=(.agg #[(.int .i64 z7.1.fSent),(.int .i64 z7.1.fHop.fNode),(.int .i64 z7.1.fTime)])) (Eos.parts (l:=[.tmp 38,.tmp 41,.tmp 43]) (.cons rfl (.cons rfl (.cons rfl .nil))) [0,1,2]) (fun _=>by kernel_rfl)) ?_
  refine WD.new (i:=13) (dd:=45) rfl (by kernel_rfl) rfl rfl rfl (yS (cs:=([(⟨z7.1.fSent,z7.1.fHop.fNode,z7.1.fTime⟩ : Sapi_Come)] : List Sapi_Come).flatMap e50) y14 (Eos.parts (l:=[.tmp 44]) (.cons rfl .nil) [0]) (fun _=>by kernel_rfl) rfl (by unfold maxLen; omega)) (fun h'=>absurd h' (by decide)) ?_
  intro zzk _
  refine WD.old (i:=14) (dd:=46) rfl (by kernel_rfl) rfl rfl rfl rfl (fun _=>(Sin.of .nil)) (y3W (enc:=e50) (l1:=z1i) (l2:=([(⟨z7.1.fSent,z7.1.fHop.fNode,z7.1.fTime⟩ : Sapi_Come)] : List Sapi_Come)) y14 rfl rfl .h7 (fun _=>rfl) rfl rfl (y4i .here) (y4p y7U _) ztj) ?_
  rintro ⟨zoa,zob⟩ _
  refine WD.a (i:=15) (d:=47) (by kernel_rfl) rfl z2 z3 rfl rfl rfl (fun _=>yw rfl) ?_
  refine WD.a (i:=16) (d:=48) (by kernel_rfl) rfl z2 z3 rfl rfl rfl (fun _=>ya y8m rfl rfl) ?_
  refine WD.y2L (i:=17) rfl (by kernel_rfl) rfl rfl rfl (by kernel_rfl) (y3Z (ds:=[(.slice z4X zo.fModules.length z4Y),(.slice z4Z zo.fChannels.length z50),(.slice z51 zo.fSwitches.length z52),(.slice z53 zo.fLinks.length z54),(.slice z55 zo.fVLs.length z56),(.slice z57 zo.fHealth.length z58),(.slice z59 zo.fCauses.length z5a),(.slice z5b zo.fVersions.length z5c),(.slice z5d z3y.length z5e),(.slice z4k z2R.length z4l),(.map (some z2A)),(.slice z7O z7.2.length z7P),(.slice z3j z1l.length z3k),(.slice zoa ((z1i ++ ([(⟨z7.1.fSent,z7.1.fHop.fNode,z7.1.fTime⟩ : Sapi_Come)] : List Sapi_Come)).length) zob)]) y9P rfl rfl rfl rfl rfl .h5 rfl rfl) ?_
  refine WD.done (by kernel_rfl) ?_
  refine WX.a (WC.ret (WX.ye ?_))
  obtain rfl:=Option.some.inj h
  refine WX.yj Try.results26 .nil (fun w hw=>?_)
  exact ⟨z7O,z7P,z3j,z3k,zoa,zob,(yE z7Q (⟨z7.1.fHop.fNode,z7.1.fHop.fLink⟩ : Snetwork_exit) ((z8R,(za8,za9)),z2o.2.2)),y4u,(y6u zef _ _ _),hw.sub (.cons .here (.cons .h5 (.cons .h5 (.cons .here (.cons .h1 (.cons .h1 .nil))))))⟩
 ·replace h:=yl h zj2
  refine WC.skip (WX.a ?_)
  obtain ⟨zfY,ztk,h⟩:=y1b h
  refine WC.y3Y (fun (z5C : List Sapi_Come) (zbz : Option Addr) (zbA : Nat)=>(zfY z5C = some r)) (fun (z5C : List Sapi_Come) (zbz : Option Addr) (zbA : Nat)=>[(0,(.pointer (some ⟨z45,0,none⟩))),(2,(.pointer (some ⟨zee,0,none⟩))),(3,(.int .i64 z2o.1))]) (fun (z5C : List Sapi_Come) (zbz : Option Addr) (zbA : Nat)=>[row (.slice z7O z7.2.length z7P) 113 7 (z7.2.flatMap yA),row (.slice zbz z5C.length zbA) 50 3 (z5C.flatMap e50),row (.slice z34 z1i.length z35) 50 3 (z1i.flatMap e50),stb z45 81 [(.slice z4X zo.fModules.length z4Y),(.slice z4Z zo.fChannels.length z50),(.slice z51 zo.fSwitches.length z52),(.slice z53 zo.fLinks.length z54),(.slice z55 zo.fVLs.length z56),(.slice z57 zo.fHealth.length z58),(.slice z59 zo.fCauses.length z5a),(.slice z5b zo.fVersions.length z5c),(.slice z5d z3y.length z5e),(.slice z4k z2R.length z4l),(.map (some z2A)),(.slice z7O z7.2.length z7P),(.slice zbz z5C.length zbA),(.slice z34 z1i.length z35)],stb zee 113 [(.int .i64 z7.1.fTime),(.int .i64 z7.1.fIn_),(.int .i64 z7.1.fVl),(.int .i64 z7.1.fSent),(.int .i64 z7.1.fHop.fNode),(.int .i64 z7.1.fHop.fNext),(.int .i64 z7.1.fHop.fLink)],yI z2A (fun x=>Value.agg (y1V x).toArray) Value.pointer (y1o (yE z7Q (⟨z7.1.fHop.fNode,z7.1.fHop.fLink⟩ : Snetwork_exit) ((z8R,(za8,za9)),z2o.2.2))),y1n z1e (yE z7Q (⟨z7.1.fHop.fNode,z7.1.fHop.fLink⟩ : Snetwork_exit) ((z8R,(za8,za9)),z2o.2.2))]) ?_ ?_
  ·skip
   refine WC.b ?_
   refine WC.y12 (fun i=>[].contains i) [] rfl ?_
   refine WD.a (i:=0) (d:=49) (by kernel_rfl) rfl z2 z3 rfl rfl rfl (fun _=>ya y4X rfl rfl) ?_
   refine WD.a (i:=1) (d:=50) (by kernel_rfl) rfl z2 z3 rfl rfl rfl (fun _=>ya y5j rfl rfl) ?_
   refine WD.e (i:=2) (d:=51) (by kernel_rfl) rfl z2 z3 rfl rfl rfl (yb yh rfl (yd .h2 rfl)) ?_
   refine WD.a (i:=3) (d:=52) (by kernel_rfl) rfl z2 z3 rfl rfl rfl (fun _=>q_m rfl) ?_
   refine WD.a (i:=4) (d:=53) (by kernel_rfl) rfl z2 z3 rfl rfl rfl (fun _=>yw rfl) ?_
   refine WD.a (i:=5) (d:=54) (by kernel_rfl) rfl z2 z3 rfl rfl rfl (fun _=>ya y6c rfl rfl) ?_
   refine WD.a (i:=6) (d:=55) (by kernel_rfl) rfl z2 z3 rfl rfl rfl (fun _=>ya y4q rfl rfl) ?_
   refine WD.e (i:=7) (d:=56) (by kernel_rfl) rfl z2 z3 rfl rfl rfl (yb y4r rfl (yd .h3 rfl)) ?_
   refine WD.a (i:=8) (d:=57) (by kernel_rfl) rfl z2 z3 rfl rfl rfl (fun _=>yZ Try.underlying22 rfl) ?_
   refine WD.a (i:=9) (d:=58) (by kernel_rfl) rfl z2 z3 rfl rfl rfl (fun _=>y3B rfl rfl) ?_
   refine WD.done (by kernel_rfl) ?_
   refine WX.a ?_
   refine WC.cond rfl (fun zj3=>?_) (fun zj3=>?_)
   ·replace h:=yk h zj3
    obtain ⟨ztl,h⟩:=yi h
    refine WC.y12 (fun i=>[13,16].contains i) [] rfl ?_
    refine WD.a (i:=0) (d:=59) (by kernel_rfl) rfl z2 z3 rfl rfl rfl (fun _=>q_m rfl) ?_
    refine WD.a (i:=1) (d:=60) (by kernel_rfl) rfl z2 z3 rfl rfl rfl (fun _=>q_m rfl) ?_
    refine WD.a (i:=2) (d:=61) (by kernel_rfl) rfl z2 z3 rfl rfl rfl (fun _=>yw rfl) ?_
    refine WD.a (i:=3) (d:=62) (by kernel_rfl) rfl z2 z3 rfl rfl rfl (fun _=>ya y8n rfl rfl) ?_
    refine WD.e (i:=4) (d:=63) (by kernel_rfl) rfl z2 z3 rfl rfl rfl (yb y5m rfl (yd .h3 rfl)) ?_
    refine WD.a (i:=5) (d:=64) (by kernel_rfl) rfl z2 z3 rfl rfl rfl (fun _=>ya y4W rfl rfl) ?_
    refine WD.e (i:=6) (d:=65) (by kernel_rfl) rfl z2 z3 rfl rfl rfl (yb yh rfl (yd .h2 rfl)) ?_
    refine WD.a (i:=7) (d:=66) (by kernel_rfl) rfl z2 z3 rfl rfl rfl (fun _=>ya y4X rfl rfl) ?_
    refine WD.a (i:=8) (d:=67) (by kernel_rfl) rfl z2 z3 rfl rfl rfl (fun _=>ya y5j rfl rfl) ?_
    refine WD.e (i:=9) (d:=68) (by kernel_rfl) rfl z2 z3 rfl rfl rfl (yb yh rfl (yd .h2 rfl)) ?_
    refine WD.a (i:=10) (d:=69) (by kernel_rfl) rfl z2 z3 rfl rfl rfl (fun _=>q_m rfl) ?_
    refine WD.a (i:=11) (d:=70) (by kernel_rfl) rfl z2 z3 rfl rfl rfl (fun _=>y1l (v:=(.agg #[(.int .i64 z7.1.fSent),(.int .i64 z7.1.fHop.fNext),(.int .i64 z2o.1)])) (Eos.parts (l:=[.tmp 65,.tmp 68,.tmp 69]) (.cons rfl (.cons rfl (.cons rfl .nil))) [0,1,2]) (fun _=>by kernel_rfl)) ?_
    refine WD.new (i:=12) (dd:=71) rfl (by kernel_rfl) rfl rfl rfl (yS (cs:=([(⟨z7.1.fSent,z7.1.fHop.fNext,z2o.1⟩ : Sapi_Come)] : List Sapi_Come).flatMap e50) y14 (Eos.parts (l:=[.tmp 70]) (.cons rfl .nil) [0]) (fun _=>by kernel_rfl) rfl (by unfold maxLen; omega)) (fun h'=>absurd h' (by decide)) ?_
    intro zzl _
    refine WD.old (i:=13) (dd:=72) rfl (by kernel_rfl) rfl rfl rfl rfl (fun _=>(Sin.of .nil)) (y3W (enc:=e50) (l1:=z1l) (l2:=([(⟨z7.1.fSent,z7.1.fHop.fNext,z2o.1⟩ : Sapi_Come)] : List Sapi_Come)) y14 rfl rfl .h6 (fun _=>rfl) rfl rfl (y4i .here) (y4p y7U _) ztl) ?_
    rintro ⟨zoc,zod⟩ _
    refine WD.a (i:=14) (d:=73) (by kernel_rfl) rfl z2 z3 rfl rfl rfl (fun _=>yw rfl) ?_
    refine WD.a (i:=15) (d:=74) (by kernel_rfl) rfl z2 z3 rfl rfl rfl (fun _=>ya y8n rfl rfl) ?_
    refine WD.y2L (i:=16) rfl (by kernel_rfl) rfl rfl rfl (by kernel_rfl) (y3Z (ds:=[(.slice z4X zo.fModules.length z4Y),(.slice z4Z zo.fChannels.length z50),(.slice z51 zo.fSwitches.length z52),(.slice z53 zo.fLinks.length z54),(.slice z55 zo.fVLs.length z56),(.slice z57 zo.fHealth.length z58),(.slice z59 zo.fCauses.length z5a),(.slice z5b zo.fVersions.length z5c),(.slice z5d z3y.length z5e),(.slice z4k z2R.length z4l),(.map (some z2A)),(.slice z7O z7.2.length z7P),(.slice zoc ((z1l ++ ([(⟨z7.1.fSent,z7.1.fHop.fNext,z2o.1⟩ : Sapi_Come)] : List Sapi_Come)).length) zod),(.slice z34 z1i.length z35)]) y9P rfl rfl rfl rfl rfl .h5 rfl rfl) ?_
    refine WD.done (by kernel_rfl) ?_
    exact WX.mid (G:=List Sapi_Come × Option Addr × Nat) ⟨(z1l ++ ([(⟨z7.1.fSent,z7.1.fHop.fNext,z2o.1⟩ : Sapi_Come)] : List Sapi_Come)),zoc,zod⟩ h (.cons rfl (.cons rfl (.cons rfl .nil))) (.cons .h6 (.cons .h1 (.cons .h5 (.cons .here (.cons .h3 (.cons .h1 (.cons .h1 .nil)))))))
   ·replace h:=yl h zj3
    refine WC.skip ?_
    exact WX.mid (G:=List Sapi_Come × Option Addr × Nat) ⟨z1l,z3j,z3k⟩ h (.cons rfl (.cons rfl (.cons rfl .nil))) (.cons .h4 (.cons .h4 (.cons .h4 (.cons .h3 (.cons .h2 (.cons .here (.cons .here .nil)))))))
  ·rintro z5C zbz zbA h
   replace h:=(ztk z5C).symm.trans h
   obtain ⟨znS,ztm,h⟩:=zn h
   refine WC.a (WL.pu rfl ?_)
   refine WL.a (d:=76) rfl rfl rfl (ya y4X rfl rfl) ?_
   refine WL.a (d:=77) rfl rfl rfl (ya y5j rfl rfl) ?_
   refine WL.a (d:=78) rfl rfl rfl (yb yh rfl (yd .h4 rfl)) ?_
   refine WL.pu rfl ?_
   refine WL.a (d:=80) rfl rfl rfl (ya y4X rfl rfl) ?_
   refine WL.a (d:=81) rfl rfl rfl (ya y5k rfl rfl) ?_
   refine WL.a (d:=82) rfl rfl rfl (yb yh rfl (yd .h4 rfl)) ?_
   refine WL.a (d:=83) rfl rfl rfl (ya y4W rfl rfl) ?_
   refine WL.a (d:=84) rfl rfl rfl (yb yh rfl (yd .h4 rfl)) ?_
   refine WL.y54 (dd:=85) rfl rfl rfl (zE (l:=[.tmp 75,.tmp 78,.tmp 79,.tmp 82,.tmp 84]) Try.call25 (.cons rfl (.cons rfl (.cons rfl (.cons rfl (.cons rfl .nil)))))) (.cons .h3 (.cons .h4 (.cons .h4 (.cons .here .nil)))) (ccl hz (.cons .h3 (.cons .h4 (.cons .h4 (.cons .here .nil)))) (.cons .here (.cons .here .nil)) fun w pz ho la=>y4V _ _ _ _ _ _ _ _ _ _ _ _ _ _ _ _ _ _ _ _ _ _ _ _ _ _ _ _ _ _ _ _ _ _ _ _ _ _ _ _ _ _ ztm w pz ((znT.mono (Zle.left _ _)).weak (fun _ _ h=>y23 (Zle.left _ _) h)) ((znU.mono (Zle.left _ _)).weak (fun _ _ h=>y2c (Zle.left _ _) h)) (znV.mono (Zle.left _ _)) (znW.mono (Zle.left _ _)) ((znX.mono (Zle.left _ _)).weak (fun _ _ h=>y24 (Zle.left _ _) h)) (znY.mono (Zle.left _ _)) ((znZ.mono (Zle.left _ _)).weak (fun _ _ h=>y2d (Zle.left _ _) h)) (zo0.mono (Zle.left _ _)) ((zo1.mono (Zle.left _ _)).weak (fun _ _ h=>y3A (Zle.left _ _) h)) (zj0.mono (Zle.left _ _)) (y6u zef _ _ _) (ZA.row (la _ (.head _) _) (RR.y16 (enc:=e50) (fun _=>rfl) _) ⟨w,pz.1⟩) (ZA.row (la _ (.tail _ (.head _)) _) (RR.y16 (enc:=e50) (fun _=>rfl) _) ⟨w,pz.1⟩) ho) ?_
   rintro ztn zto _
   refine WL.nil ?_
   obtain rfl:=Option.some.inj h
   refine WX.y1Z Try.results26 .nil (fun w hw=>?_)
   exact ⟨ztn,zto,zbz,zbA,z34,z35,(yE z7Q (⟨z7.1.fHop.fNode,z7.1.fHop.fLink⟩ : Snetwork_exit) ((z8R,(za8,za9)),z2o.2.2)),y4u,(y6u zef _ _ _),hw.sub (.cons .here (.cons .here (.cons .h2 (.cons .h2 (.cons .here (.cons .here .nil))))))⟩
def y2w (z3l : Sapi_Come) (z3m : Sapi_Come) : Option Int :=
 (y1k z3l.fTime z3m.fTime).bind fun zj4=>(y1k z3l.fSent z3m.fSent).bind fun zj5=>(y1k z3l.fNode z3m.fNode).bind fun zj6=>(y3J ([zj4,zj5,zj6] : List Int)).bind fun zoe=>some zoe
set_option maxRecDepth 20000 in
theorem y7a (Z : Zp)  (z3l : Sapi_Come) (z3m : Sapi_Come) (r : Int)
  (h : y2w z3l z3m = some r) (w₀ : World) (hz : PZ [] w₀ Z) :
  Calls Try.prog 43 #[(.agg #[(.int .i64 z3l.fSent),(.int .i64 z3l.fNode),(.int .i64 z3l.fTime)]),(.agg #[(.int .i64 z3m.fSent),(.int .i64 z3m.fNode),(.int .i64 z3m.fTime)])] w₀ fun e w'=>e = .returned (.int .i64 r) ∧ Hp [] w₀ w' []:=by
 unfold y2w at h
 refine Calls.yo (vs:=[(.agg #[(.int .i64 z3l.fSent),(.int .i64 z3l.fNode),(.int .i64 z3l.fTime)]),(.agg #[(.int .i64 z3m.fSent),(.int .i64 z3m.fNode),(.int .i64 z3m.fTime)])]) (pre:=[]) (env:=[(0,(.agg #[(.int .i64 z3l.fSent),(.int .i64 z3l.fNode),(.int .i64 z3l.fTime)])),(1,(.agg #[(.int .i64 z3m.fSent),(.int .i64 z3m.fNode),(.int .i64 z3m.fTime)]))]) Try.func43 rfl Try.ntmps43 rfl (Hp.nil w₀ _) rfl ?_
 refine WC.b (WC.a ?_)
 refine WL.new (dd:=2) rfl rfl rfl (y2p (cs:=[(.int .i64 z3l.fSent),(.int .i64 z3l.fNode),(.int .i64 z3l.fTime)]) rfl rfl) ?_
 intro zzm _
 refine WL.new (dd:=3) rfl rfl rfl (y2p (cs:=[(.int .i64 z3m.fSent),(.int .i64 z3m.fNode),(.int .i64 z3m.fTime)]) rfl rfl) ?_
 intro zzn _
 refine WL.pu rfl (WL.nil (WX.a (WC.b ?_)))
 obtain ⟨zj4,ztp,h⟩:=zn h
 obtain ⟨zj5,ztq,h⟩:=zn h
 obtain ⟨zj6,ztr,h⟩:=zn h
 obtain ⟨zoe,zts,h⟩:=zn h
 refine WC.y12 (fun i=>[].contains i) [] rfl ?_
 refine WD.a (i:=0) (d:=5) (by kernel_rfl) rfl z2 z3 rfl rfl rfl (fun _=>ya y9Q rfl rfl) ?_
 refine WD.e (i:=1) (d:=6) (by kernel_rfl) rfl z2 z3 rfl rfl rfl (yb yh rfl (yd .h1 rfl)) ?_
 refine WD.a (i:=2) (d:=7) (by kernel_rfl) rfl z2 z3 rfl rfl rfl (fun _=>ya y9Q rfl rfl) ?_
 refine WD.e (i:=3) (d:=8) (by kernel_rfl) rfl z2 z3 rfl rfl rfl (yb yh rfl (yd .here rfl)) ?_
 refine WD.c (i:=4) (d:=9) (by kernel_rfl) rfl z2 z3 rfl rfl rfl (zE (l:=[.tmp 6,.tmp 8]) Try.call45 (.cons rfl (.cons rfl .nil))) (cc hz .nil fun w pz ho=>y2j _ _ _ _ ztp w pz ) ?_
 refine WD.a (i:=5) (d:=10) (by kernel_rfl) rfl z2 z3 rfl rfl rfl (fun _=>ya y4Y rfl rfl) ?_
 refine WD.e (i:=6) (d:=11) (by kernel_rfl) rfl z2 z3 rfl rfl rfl (yb yh rfl (yd .h1 rfl)) ?_
 refine WD.a (i:=7) (d:=12) (by kernel_rfl) rfl z2 z3 rfl rfl rfl (fun _=>ya y4Y rfl rfl) ?_
 refine WD.e (i:=8) (d:=13) (by kernel_rfl) rfl z2 z3 rfl rfl rfl (yb yh rfl (yd .here rfl)) ?_
 refine WD.c (i:=9) (d:=14) (by kernel_rfl) rfl z2 z3 rfl rfl rfl (zE (l:=[.tmp 11,.tmp 13]) Try.call45 (.cons rfl (.cons rfl .nil))) (cc hz .nil fun w pz ho=>y2j _ _ _ _ ztq w pz ) ?_
 refine WD.a (i:=10) (d:=15) (by kernel_rfl) rfl z2 z3 rfl rfl rfl (fun _=>ya y9R rfl rfl) ?_
 refine WD.e (i:=11) (d:=16) (by kernel_rfl) rfl z2 z3 rfl rfl rfl (yb yh rfl (yd .h1 rfl)) ?_
 refine WD.a (i:=12) (d:=17) (by kernel_rfl) rfl z2 z3 rfl rfl rfl (fun _=>ya y9R rfl rfl) ?_
 refine WD.e (i:=13) (d:=18) (by kernel_rfl) rfl z2 z3 rfl rfl rfl (yb yh rfl (yd .here rfl)) ?_
 refine WD.c (i:=14) (d:=19) (by kernel_rfl) rfl z2 z3 rfl rfl rfl (zE (l:=[.tmp 16,.tmp 18]) Try.call45 (.cons rfl (.cons rfl .nil))) (cc hz .nil fun w pz ho=>y2j _ _ _ _ ztr w pz ) ?_
 refine WD.new (i:=15) (dd:=20) rfl (by kernel_rfl) rfl rfl rfl (yS (cs:=([zj4,zj5,zj6] : List Int).flatMap e3) y56 (Eos.parts (l:=[.tmp 9,.tmp 14,.tmp 19]) (.cons rfl (.cons rfl (.cons rfl .nil))) [0,1,2]) (fun _=>by kernel_rfl) rfl (by unfold maxLen; omega)) (fun h'=>absurd h' (by decide)) ?_
 intro zzo _
 refine WD.c (i:=16) (d:=21) (by kernel_rfl) rfl z2 z3 rfl rfl rfl (zE (l:=[.tmp 20]) Try.call44 (.cons rfl .nil)) (ccl hz .nil (.cons .here .nil) fun w pz ho la=>y77 _ _ _ _ _ zts w pz (ZA.row (la _ (.head _) _) (RR.y16 (enc:=e3) (fun _=>rfl) _) ⟨w,pz.1⟩)) ?_
 refine WD.a (i:=17) (d:=4) (by kernel_rfl) rfl z2 z3 rfl rfl rfl (fun _=>q_z rfl) ?_
 refine WD.done (by kernel_rfl) ?_
 refine WX.a (WC.ret ?_)
 obtain rfl:=Option.some.inj h
 refine WX.yj Try.results43 (.tmp rfl .nil) (fun w hw=>?_)
 exact ⟨y10 rfl,hw.sub .nil⟩
def yJ (z1z : Int) (z36 : Sapi_Come → Sapi_Come → Option Int) (z7R : (List Sapi_Come) → Option (List Sapi_Come)) : Nat → (List Sapi_Come) → Int → Option (List Sapi_Come)
 | 0,_,_=>none
 | zj7 + 1,zf,z8=>(if decide (z8 > z1z) then chk ((0 : Int) ≤ z8 ∧ z8 < ((zf.length : Nat) : Int)) (chk ((0 : Int) ≤ (i64 (z8 - 1)) ∧ (i64 (z8 - 1)) < ((zf.length : Nat) : Int)) ((z36 (⟨((nth zf z8).fSent),((nth zf z8).fNode),((nth zf z8).fTime)⟩ : Sapi_Come) (⟨((nth zf (i64 (z8 - 1))).fSent),((nth zf (i64 (z8 - 1))).fNode),((nth zf (i64 (z8 - 1))).fTime)⟩ : Sapi_Come)).bind fun zj8=>some (decide (zj8 < 0)))) else some false).bind fun zj9=>if zj9 then chk ((0 : Int) ≤ (i64 (z8 - 1)) ∧ (i64 (z8 - 1)) < ((zf.length : Nat) : Int)) (chk ((0 : Int) ≤ z8 ∧ z8 < ((zf.length : Nat) : Int)) (chk ((0 : Int) ≤ (i64 (z8 - 1)) ∧ (i64 (z8 - 1)) < (((zf.set (z8 : Int).toNat (⟨((nth zf (i64 (z8 - 1))).fSent),((nth zf (i64 (z8 - 1))).fNode),((nth zf (i64 (z8 - 1))).fTime)⟩ : Sapi_Come)).length : Nat) : Int)) (yJ z1z z36 z7R zj7 ((zf.set (z8 : Int).toNat (⟨((nth zf (i64 (z8 - 1))).fSent),((nth zf (i64 (z8 - 1))).fNode),((nth zf (i64 (z8 - 1))).fTime)⟩ : Sapi_Come)).set ((i64 (z8 - 1)) : Int).toNat (⟨((nth zf z8).fSent),((nth zf z8).fNode),((nth zf z8).fTime)⟩ : Sapi_Come)) (i64 (z8 - 1))))) else z7R zf
theorem y3r {n : Nat} {z1z : Int} {z36 : Sapi_Come → Sapi_Come → Option Int} {z7R : (List Sapi_Come) → Option (List Sapi_Come)} {zf : List Sapi_Come} {z8 : Int} {r : List Sapi_Come} (h : yJ z1z z36 z7R n zf z8 = some r) : ∃ m,n = m + 1:=by
 cases n with
 | zero=>cases h
 | succ m=>exact ⟨m,rfl⟩
def yy (z3n : Int) (z1z : Int) (z36 : Sapi_Come → Sapi_Come → Option Int) (z7S : (List Sapi_Come) → Option (List Sapi_Come)) : Nat → (List Sapi_Come) → Int → Option (List Sapi_Come)
 | 0,_,_=>none
 | zja + 1,z3z,z37=>if decide (z37 < z3n) then jp1 (fun (z5f : List Sapi_Come)=>yy z3n z1z z36 z7S zja z5f (i64 (z37 + 1))) fun zjb=>jp1 (fun (z5g : List Sapi_Come)=>zjb z5g) fun z7R=>yJ z1z z36 z7R ys z3z z37 else z7S z3z
theorem y3s {n : Nat} {z3n : Int} {z1z : Int} {z36 : Sapi_Come → Sapi_Come → Option Int} {z7S : (List Sapi_Come) → Option (List Sapi_Come)} {z3z : List Sapi_Come} {z37 : Int} {r : List Sapi_Come} (h : yy z3n z1z z36 z7S n z3z z37 = some r) : ∃ m,n = m + 1:=by
 cases n with
 | zero=>cases h
 | succ m=>exact ⟨m,rfl⟩
def yQ (z2c : List Sapi_Come) (z1z : Int) (z3n : Int) (z36 : Sapi_Come → Sapi_Come → Option Int) : Option (List Sapi_Come) :=
 jp1 (fun (z6L : List Sapi_Come)=>some z6L) fun z7S=>yy z3n z1z z36 z7S ys z2c (i64 (z1z + 1))
set_option maxRecDepth 20000 in
theorem y2J (Z : Zp) (z2T : Option Addr) (z26 : Nat) (z46 : FuncId) (z5h : List Value) (z2c : List Sapi_Come) (z1z : Int) (z3n : Int) (z36 : Sapi_Come → Sapi_Come → Option Int) (r : List Sapi_Come)
  (h : yQ z2c z1z z3n z36 = some r) (w₀ : World) (hz : PZ (fps [row (.slice z2T z2c.length z26) 50 3 (z2c.flatMap e50)]) w₀ Z)
  (ztt : ∀ args w,(callFunc z46 args).run Try.prog w = .ok (.enter z46 args) w)
  (ztu : ∀ w : World,PZ [] w Z → ∀ (x0 : Sapi_Come) (x1 : Sapi_Come) (r : Int),z36 x0 x1 = some r → Calls Try.prog z46 (([(.agg #[(.int .i64 x0.fSent),(.int .i64 x0.fNode),(.int .i64 x0.fTime)]),(.agg #[(.int .i64 x1.fSent),(.int .i64 x1.fNode),(.int .i64 x1.fTime)])] : List Value) ++ z5h).toArray w fun e w'=>e = .returned (.int .i64 r) ∧ Hp [] w w' [])
  (hown : Hp (fps [row (.slice z2T z2c.length z26) 50 3 (z2c.flatMap e50)]) w₀ w₀ [row (.slice z2T z2c.length z26) 50 3 (z2c.flatMap e50)]) :
  Calls Try.prog 66 #[(.slice z2T z2c.length z26),(.int .i64 z1z),(.int .i64 z3n),(.func (.func z46) #[] (z5h).toArray)] w₀ fun e w'=>e = .returned (.tuple #[]) ∧ (r.length = z2c.length) ∧ Hp (fps [row (.slice z2T z2c.length z26) 50 3 (z2c.flatMap e50)]) w₀ w' [row (.slice z2T r.length z26) 50 3 (r.flatMap e50)]:=by
 unfold yQ at h
 refine Calls.yo (vs:=[(.slice z2T z2c.length z26),(.int .i64 z1z),(.int .i64 z3n),(.func (.func z46) #[] (z5h).toArray)]) (pre:=[row (.slice z2T z2c.length z26) 50 3 (z2c.flatMap e50)]) (env:=[(0,(.slice z2T z2c.length z26)),(1,(.int .i64 z1z)),(2,(.int .i64 z3n)),(3,(.func (.func z46) #[] (z5h).toArray))]) Try.func66 rfl Try.ntmps66 rfl (hown) rfl ?_
 refine WC.b (WC.a (WL.pu rfl (WL.pu rfl (WL.pu rfl (WL.nil (WX.a ?_))))))
 obtain ⟨z7S,ztv,h⟩:=y1b h
 refine WC.y5g (fun (z6L : List Sapi_Come)=>(z7S z6L = some r) ∧ (z6L.length = z2c.length)) (fun (z6L : List Sapi_Come)=>[]) (fun (z6L : List Sapi_Come)=>[row (.slice z2T z6L.length z26) 50 3 (z6L.flatMap e50)]) ?_ ?_
 ·skip
  refine WC.block ?_
  refine WC.y2r (fun (zbB : Nat) (z3z : List Sapi_Come) (z37 : Int)=>(yy z3n z1z z36 z7S zbB z3z z37 = some r) ∧ (z3z.length = z2c.length)) (fun (zbB : Nat) (z3z : List Sapi_Come) (z37 : Int)=>[(0,(.slice z2T z3z.length z26)),(1,(.int .i64 z1z)),(2,(.int .i64 z3n)),(3,(.func (.func z46) #[] (z5h).toArray)),(8,(.int .i64 z37))]) (fun (zbB : Nat) (z3z : List Sapi_Come) (z37 : Int)=>[row (.slice z2T z3z.length z26) 50 3 (z3z.flatMap e50)]) (fun (zbB : Nat) (z3z : List Sapi_Come) (z37 : Int)=>zbB) ⟨ys,z2c,(i64 (z1z + 1))⟩ ⟨h,rfl⟩ (.cons rfl (.cons rfl (.cons rfl (.cons rfl (.cons rfl .nil))))) (.cons .here .nil) ?_
  rintro zbB z3z z37 ⟨h,zof⟩
  obtain ⟨zja,rfl⟩:=y3s h
  rw [yy] at h
  refine WC.b (WC.b (WC.a (WL.pu rfl (WL.pu rfl (WL.pu rfl (WL.nil (WX.a ?_)))))))
  refine WC.cond rfl (fun zjc=>?_) (fun zjc=>?_)
  ·replace h:=yk h zjc
   refine WC.skip (WX.a ?_)
   obtain ⟨zjb,ztw,h⟩:=y1b h
   refine WC.y1K (fun (z5f : List Sapi_Come)=>(zjb z5f = some r) ∧ (z5f.length = z2c.length)) (fun (z5f : List Sapi_Come)=>[(0,(.slice z2T z5f.length z26)),(1,(.int .i64 z1z)),(2,(.int .i64 z3n)),(3,(.func (.func z46) #[] (z5h).toArray)),(8,(.int .i64 z37))]) (fun (z5f : List Sapi_Come)=>[row (.slice z2T z5f.length z26) 50 3 (z5f.flatMap e50)]) ?_ ?_
   ·skip
    refine WC.block (WC.b (WC.a (WL.pu rfl (WL.pu rfl (WL.nil (WX.a ?_))))))
    obtain ⟨z7R,ztx,h⟩:=y1b h
    refine WC.y5g (fun (z5g : List Sapi_Come)=>(z7R z5g = some r) ∧ (z5g.length = z2c.length)) (fun (z5g : List Sapi_Come)=>[(0,(.slice z2T z5g.length z26)),(1,(.int .i64 z1z)),(2,(.int .i64 z3n)),(3,(.func (.func z46) #[] (z5h).toArray)),(8,(.int .i64 z37))]) (fun (z5g : List Sapi_Come)=>[row (.slice z2T z5g.length z26) 50 3 (z5g.flatMap e50)]) ?_ ?_
    ·skip
     refine WC.block ?_
     refine WC.y2r (fun (zbC : Nat) (zf : List Sapi_Come) (z8 : Int)=>(yJ z1z z36 z7R zbC zf z8 = some r) ∧ (zf.length = z2c.length)) (fun (zbC : Nat) (zf : List Sapi_Come) (z8 : Int)=>[(0,(.slice z2T zf.length z26)),(1,(.int .i64 z1z)),(2,(.int .i64 z3n)),(3,(.func (.func z46) #[] (z5h).toArray)),(8,(.int .i64 z37)),(9,(.int .i64 z8))]) (fun (zbC : Nat) (zf : List Sapi_Come) (z8 : Int)=>[row (.slice z2T zf.length z26) 50 3 (zf.flatMap e50)]) (fun (zbC : Nat) (zf : List Sapi_Come) (z8 : Int)=>zbC) ⟨ys,z3z,z37⟩ ⟨h,zof⟩ (.cons rfl (.cons rfl (.cons rfl (.cons rfl (.cons rfl (.cons rfl .nil)))))) (.cons .here .nil) ?_
     rintro zbC zf z8 ⟨h,zog⟩
     obtain ⟨zj7,rfl⟩:=y3r h
     rw [yJ] at h
     refine WC.b (WC.b ?_)
     obtain ⟨zj9,zoh,h⟩:=zn h
     refine WC.y12 (fun i=>[].contains i) [] rfl ?_
     refine WD.a (i:=0) (d:=18) (by kernel_rfl) rfl z2 z3 rfl rfl rfl (fun _=>q_m rfl) ?_
     refine WD.a (i:=1) (d:=19) (by kernel_rfl) rfl z2 z3 rfl rfl rfl (fun _=>q_m rfl) ?_
     refine WD.a (i:=2) (d:=20) (by kernel_rfl) rfl z2 z3 rfl rfl rfl (fun _=>y3X rfl rfl) ?_
     refine WD.a (i:=3) (d:=21) (by kernel_rfl) rfl z2 z3 rfl rfl rfl (fun _=>q_m rfl) ?_
     refine WD.mid (fuel':=0) [(0,(.slice z2T zf.length z26)),(1,(.int .i64 z1z)),(2,(.int .i64 z3n)),(3,(.func (.func z46) #[] (z5h).toArray)),(8,(.int .i64 z37)),(9,(.int .i64 z8)),(18,(.int .i64 z8)),(19,(.int .i64 z1z)),(20,(.bool (decide (z8 > z1z)))),(21,(.bool (decide (z8 > z1z)))),(34,(.bool zj9))] (y1M 17 [16,15,14,13,12,11,10,9,8,7,6,5,4,3,2,1,0]) ?_ (fun zoi=>?_)
     rotate_left
     ·rcases Bool.eq_false_or_eq_true (decide (z8 > z1z)) with hb' | hb'
      ·have zjd:=hb'; clear hb'
       have z7T:=yk zoh zjd
       obtain ⟨zeg,z7T⟩:=yi z7T
       obtain ⟨zfZ,z7T⟩:=yi z7T
       obtain ⟨zj8,zty,z7T⟩:=zn z7T
       replace z7T:=Option.some.inj z7T
       refine WD.pin (i:=21) rfl zjd ?_
       refine WD.a (i:=4) (d:=22) (by kernel_rfl) rfl z2 z3 rfl rfl rfl (fun _=>q_m rfl) ?_
       refine WD.a (i:=5) (d:=23) (by kernel_rfl) rfl z2 z3 rfl rfl rfl (fun _=>q_m rfl) ?_
       refine WD.a (i:=6) (d:=24) (by kernel_rfl) rfl z2 z3 rfl rfl rfl (fun _=>q_m rfl) ?_
       refine WD.know (fun w hw=>Hp.y2G .here hw (by intro hz'; have:=zeg; rw [hz'] at this; omega)) ?_
       rintro ⟨zzp,rfl⟩
       refine WD.a (i:=7) (d:=25) (by kernel_rfl) rfl z2 z3 rfl rfl rfl (fun _=>yu y14 rfl rfl zeg.1 zeg.2 y1f) ?_
       refine WD.e (i:=8) (d:=26) (by kernel_rfl) rfl z2 z3 rfl rfl rfl (y1L (cs:=(e50 (nth zf z8))) y1T rfl rfl (y1X .here (y1S (enc:=e50) (l:=zf) (i:=z8) (sz:=3) (fun _=>rfl) zeg.1 zeg.2))) ?_
       refine WD.a (i:=9) (d:=27) (by kernel_rfl) rfl z2 z3 rfl rfl rfl (fun _=>q_m rfl) ?_
       refine WD.a (i:=10) (d:=28) (by kernel_rfl) rfl z2 z3 rfl rfl rfl (fun _=>q_m rfl) ?_
       refine WD.a (i:=11) (d:=29) (by kernel_rfl) rfl z2 z3 rfl rfl rfl (fun _=>y52 rfl rfl rfl) ?_
       refine WD.a (i:=12) (d:=30) (by kernel_rfl) rfl z2 z3 rfl rfl rfl (fun _=>yu y14 rfl rfl zfZ.1 zfZ.2 y1f) ?_
       refine WD.e (i:=13) (d:=31) (by kernel_rfl) rfl z2 z3 rfl rfl rfl (y1L (cs:=(e50 (nth zf (i64 (z8 - 1))))) y1T rfl rfl (y1X .here (y1S (enc:=e50) (l:=zf) (i:=i64 (z8 - 1)) (sz:=3) (fun _=>rfl) zfZ.1 zfZ.2))) ?_
       refine WD.c (i:=14) (d:=32) (by kernel_rfl) rfl z2 z3 rfl rfl rfl (y3V (l:=[.tmp 26,.tmp 31]) (f:=z46) (caps:=z5h) ztt rfl (.cons rfl (.cons rfl .nil))) (fun w hw=>ztu w (hz.now hw) (⟨((nth zf z8).fSent),((nth zf z8).fNode),((nth zf z8).fTime)⟩ : Sapi_Come) (⟨((nth zf (i64 (z8 - 1))).fSent),((nth zf (i64 (z8 - 1))).fNode),((nth zf (i64 (z8 - 1))).fTime)⟩ : Sapi_Come) zj8  zty) ?_
       refine WD.a (i:=15) (d:=33) (by kernel_rfl) rfl z2 z3 rfl rfl rfl (fun _=>y3B rfl rfl) ?_
       refine WD.a (i:=16) (d:=34) (by kernel_rfl) rfl z2 z3 rfl rfl rfl (fun _=>y1D rfl rfl) ?_
       refine WD.yV (.cons .here .nil) ?_ zoi
       exact (.cons rfl (.cons rfl (.cons rfl (.cons rfl (.cons rfl (.cons rfl (.cons rfl (.cons rfl (.cons rfl (.cons (zu (Eq.symm zjd)) (.cons (zu z7T) .nil)))))))))))
      ·have zje:=hb'; clear hb'
       have zjf:=yl zoh zje
       replace zjf:=Option.some.inj zjf
       refine WD.pin (i:=21) rfl zje ?_
       refine WD.b (i:=4) (d:=22) (by kernel_rfl) rfl z2 z3 rfl rfl rfl ?_
       refine WD.b (i:=5) (d:=23) (by kernel_rfl) rfl z2 z3 rfl rfl rfl ?_
       refine WD.b (i:=6) (d:=24) (by kernel_rfl) rfl z2 z3 rfl rfl rfl ?_
       refine WD.b (i:=7) (d:=25) (by kernel_rfl) rfl z2 z3 rfl rfl rfl ?_
       refine WD.b (i:=8) (d:=26) (by kernel_rfl) rfl z2 z3 rfl rfl rfl ?_
       refine WD.b (i:=9) (d:=27) (by kernel_rfl) rfl z2 z3 rfl rfl rfl ?_
       refine WD.b (i:=10) (d:=28) (by kernel_rfl) rfl z2 z3 rfl rfl rfl ?_
       refine WD.b (i:=11) (d:=29) (by kernel_rfl) rfl z2 z3 rfl rfl rfl ?_
       refine WD.b (i:=12) (d:=30) (by kernel_rfl) rfl z2 z3 rfl rfl rfl ?_
       refine WD.b (i:=13) (d:=31) (by kernel_rfl) rfl z2 z3 rfl rfl rfl ?_
       refine WD.b (i:=14) (d:=32) (by kernel_rfl) rfl z2 z3 rfl rfl rfl ?_
       refine WD.b (i:=15) (d:=33) (by kernel_rfl) rfl z2 z3 rfl rfl rfl ?_
       refine WD.a (i:=16) (d:=34) (by kernel_rfl) rfl z2 z3 rfl rfl rfl (fun _=>y1E rfl rfl) ?_
       refine WD.yV (.cons .here .nil) ?_ zoi
       exact (.cons rfl (.cons rfl (.cons rfl (.cons rfl (.cons rfl (.cons rfl (.cons rfl (.cons rfl (.cons rfl (.cons (zu (Eq.symm zje)) (.cons (zu zjf) .nil)))))))))))
     refine WD.done (by kernel_rfl) ?_
     refine WX.a ?_
     refine WC.cond rfl (fun zjg=>?_) (fun zjg=>?_)
     ·replace h:=yk h zjg
      refine WC.skip (WX.a (WC.b (WC.block ?_)))
      obtain ⟨zeh,h⟩:=yi h
      obtain ⟨z6M,h⟩:=yi h
      obtain ⟨zbD,h⟩:=yi h
      refine WC.y12 (fun i=>[15,17].contains i) [] rfl ?_
      refine WD.a (i:=0) (d:=37) (by kernel_rfl) rfl z2 z3 rfl rfl rfl (fun _=>q_m rfl) ?_
      refine WD.a (i:=1) (d:=38) (by kernel_rfl) rfl z2 z3 rfl rfl rfl (fun _=>q_m rfl) ?_
      refine WD.a (i:=2) (d:=39) (by kernel_rfl) rfl z2 z3 rfl rfl rfl (fun _=>q_m rfl) ?_
      refine WD.a (i:=3) (d:=40) (by kernel_rfl) rfl z2 z3 rfl rfl rfl (fun _=>q_m rfl) ?_
      refine WD.a (i:=4) (d:=41) (by kernel_rfl) rfl z2 z3 rfl rfl rfl (fun _=>y52 rfl rfl rfl) ?_
      refine WD.a (i:=5) (d:=42) (by kernel_rfl) rfl z2 z3 rfl rfl rfl (fun _=>q_m rfl) ?_
      refine WD.a (i:=6) (d:=43) (by kernel_rfl) rfl z2 z3 rfl rfl rfl (fun _=>q_m rfl) ?_
      refine WD.a (i:=7) (d:=44) (by kernel_rfl) rfl z2 z3 rfl rfl rfl (fun _=>y52 rfl rfl rfl) ?_
      refine WD.know (fun w hw=>Hp.y2G .here hw (by intro hz'; have:=zeh; rw [hz'] at this; omega)) ?_
      rintro ⟨zei,rfl⟩
      refine WD.a (i:=8) (d:=45) (by kernel_rfl) rfl z2 z3 rfl rfl rfl (fun _=>yu y14 rfl rfl zeh.1 zeh.2 y1f) ?_
      refine WD.e (i:=9) (d:=46) (by kernel_rfl) rfl z2 z3 rfl rfl rfl (y1L (cs:=(e50 (nth zf (i64 (z8 - 1))))) y1T rfl rfl (y1X .here (y1S (enc:=e50) (l:=zf) (i:=i64 (z8 - 1)) (sz:=3) (fun _=>rfl) zeh.1 zeh.2))) ?_
      refine WD.a (i:=10) (d:=47) (by kernel_rfl) rfl z2 z3 rfl rfl rfl (fun _=>q_m rfl) ?_
      refine WD.a (i:=11) (d:=48) (by kernel_rfl) rfl z2 z3 rfl rfl rfl (fun _=>q_m rfl) ?_
      refine WD.a (i:=12) (d:=49) (by kernel_rfl) rfl z2 z3 rfl rfl rfl (fun _=>yu y14 rfl rfl z6M.1 z6M.2 y1f) ?_
      refine WD.e (i:=13) (d:=50) (by kernel_rfl) rfl z2 z3 rfl rfl rfl (y1L (cs:=(e50 (nth zf z8))) y1T rfl rfl (y1X .here (y1S (enc:=e50) (l:=zf) (i:=z8) (sz:=3) (fun _=>rfl) z6M.1 z6M.2))) ?_
      refine WD.a (i:=14) (d:=51) (by kernel_rfl) rfl z2 z3 rfl rfl rfl (fun _=>yu y14 rfl rfl z6M.1 z6M.2 y1f) ?_
      refine WD.forced0 (i:=15) rfl (by kernel_rfl) rfl rfl rfl (Sin.of .nil) (y2y (vs:=[(.int .i64 ((nth zf (i64 (z8 - 1))).fSent)),(.int .i64 ((nth zf (i64 (z8 - 1))).fNode)),(.int .i64 ((nth zf (i64 (z8 - 1))).fTime))]) (ds:=(zf.set (z8 : Int).toNat (⟨((nth zf (i64 (z8 - 1))).fSent),((nth zf (i64 (z8 - 1))).fNode),((nth zf (i64 (z8 - 1))).fTime)⟩ : Sapi_Come)).flatMap e50) y49 rfl rfl rfl rfl (ocB rfl) .here (y3f (enc:=e50) (sz:=3) (k:=0) (fun _=>rfl) z6M.1 z6M.2 (by decide)) (y3e (enc:=e50) (l:=zf) (sz:=3) (vs:=[(.int .i64 ((nth zf (i64 (z8 - 1))).fSent)),(.int .i64 ((nth zf (i64 (z8 - 1))).fNode)),(.int .i64 ((nth zf (i64 (z8 - 1))).fTime))]) (y:=(⟨((nth zf (i64 (z8 - 1))).fSent),((nth zf (i64 (z8 - 1))).fNode),((nth zf (i64 (z8 - 1))).fTime)⟩ : Sapi_Come)) (k:=0) (fun _=>rfl) z6M.1 z6M.2 rfl (Nat.le_of_ble_eq_true rfl))) ?_
      refine WD.relen .here (u:=(.slice (some ⟨zei,0,none⟩) ((zf.set (z8 : Int).toNat (⟨((nth zf (i64 (z8 - 1))).fSent),((nth zf (i64 (z8 - 1))).fNode),((nth zf (i64 (z8 - 1))).fTime)⟩ : Sapi_Come)).length) z26)) (y1P (List.length_set).symm) ?_
      refine WD.repin (i:=0) rfl (u:=(.slice (some ⟨zei,0,none⟩) ((zf.set (z8 : Int).toNat (⟨((nth zf (i64 (z8 - 1))).fSent),((nth zf (i64 (z8 - 1))).fNode),((nth zf (i64 (z8 - 1))).fTime)⟩ : Sapi_Come)).length) z26)) (y1P (List.length_set).symm) ?_
      refine WD.repin (i:=39) rfl (u:=(.slice (some ⟨zei,0,none⟩) ((zf.set (z8 : Int).toNat (⟨((nth zf (i64 (z8 - 1))).fSent),((nth zf (i64 (z8 - 1))).fNode),((nth zf (i64 (z8 - 1))).fTime)⟩ : Sapi_Come)).length) z26)) (y1P (List.length_set).symm) ?_
      refine WD.a (i:=16) (d:=52) (by kernel_rfl) rfl z2 z3 rfl rfl rfl (fun _=>yu y14 rfl rfl zbD.1 zbD.2 y1f) ?_
      refine WD.y2L (i:=17) rfl (by kernel_rfl) rfl rfl rfl (by kernel_rfl) (y2y (vs:=[(.int .i64 ((nth zf z8).fSent)),(.int .i64 ((nth zf z8).fNode)),(.int .i64 ((nth zf z8).fTime))]) (ds:=((zf.set (z8 : Int).toNat (⟨((nth zf (i64 (z8 - 1))).fSent),((nth zf (i64 (z8 - 1))).fNode),((nth zf (i64 (z8 - 1))).fTime)⟩ : Sapi_Come)).set ((i64 (z8 - 1)) : Int).toNat (⟨((nth zf z8).fSent),((nth zf z8).fNode),((nth zf z8).fTime)⟩ : Sapi_Come)).flatMap e50) y49 rfl rfl rfl rfl (ocB rfl) .here (y3f (enc:=e50) (sz:=3) (k:=0) (fun _=>rfl) zbD.1 zbD.2 (by decide)) (y3e (enc:=e50) (l:=zf.set (z8 : Int).toNat (⟨((nth zf (i64 (z8 - 1))).fSent),((nth zf (i64 (z8 - 1))).fNode),((nth zf (i64 (z8 - 1))).fTime)⟩ : Sapi_Come)) (sz:=3) (vs:=[(.int .i64 ((nth zf z8).fSent)),(.int .i64 ((nth zf z8).fNode)),(.int .i64 ((nth zf z8).fTime))]) (y:=(⟨((nth zf z8).fSent),((nth zf z8).fNode),((nth zf z8).fTime)⟩ : Sapi_Come)) (k:=0) (fun _=>rfl) zbD.1 zbD.2 rfl (Nat.le_of_ble_eq_true rfl))) ?_
      refine WD.relen .here (u:=(.slice (some ⟨zei,0,none⟩) (((zf.set (z8 : Int).toNat (⟨((nth zf (i64 (z8 - 1))).fSent),((nth zf (i64 (z8 - 1))).fNode),((nth zf (i64 (z8 - 1))).fTime)⟩ : Sapi_Come)).set ((i64 (z8 - 1)) : Int).toNat (⟨((nth zf z8).fSent),((nth zf z8).fNode),((nth zf z8).fTime)⟩ : Sapi_Come)).length) z26)) (y1P (List.length_set).symm) ?_
      refine WD.repin (i:=0) rfl (u:=(.slice (some ⟨zei,0,none⟩) (((zf.set (z8 : Int).toNat (⟨((nth zf (i64 (z8 - 1))).fSent),((nth zf (i64 (z8 - 1))).fNode),((nth zf (i64 (z8 - 1))).fTime)⟩ : Sapi_Come)).set ((i64 (z8 - 1)) : Int).toNat (⟨((nth zf z8).fSent),((nth zf z8).fNode),((nth zf z8).fTime)⟩ : Sapi_Come)).length) z26)) (y1P (List.length_set).symm) ?_
      refine WD.done (by kernel_rfl) ?_
      refine WX.yg (WX.a (WC.a (WL.pu rfl (WL.pu rfl (WL.pu rfl (WL.nil ?_))))))
      exact WX.round (G:=Nat × List Sapi_Come × Int) ⟨zj7,((zf.set (z8 : Int).toNat (⟨((nth zf (i64 (z8 - 1))).fSent),((nth zf (i64 (z8 - 1))).fNode),((nth zf (i64 (z8 - 1))).fTime)⟩ : Sapi_Come)).set ((i64 (z8 - 1)) : Int).toNat (⟨((nth zf z8).fSent),((nth zf z8).fNode),((nth zf z8).fTime)⟩ : Sapi_Come)),(i64 (z8 - 1))⟩ ⟨h,((List.length_set).trans ((List.length_set).trans zog))⟩ (Nat.lt_succ_self _) (.cons rfl (.cons rfl (.cons rfl (.cons rfl (.cons rfl (.cons rfl .nil)))))) (.cons .here .nil)
     ·replace h:=yl h zjg
      refine WC.exit (WX.yc (WX.yc (WX.yt ?_)))
      exact WX.mid (G:=List Sapi_Come) zf ⟨h,zog⟩ (.cons rfl (.cons rfl (.cons rfl (.cons rfl (.cons rfl .nil))))) (.cons .here .nil)
    ·rintro z5g ⟨h,ztz⟩
     replace h:=(ztx z5g).symm.trans h
     refine WX.yg ?_
     exact WX.mid (G:=List Sapi_Come) z5g ⟨h,ztz⟩ (.cons rfl (.cons rfl (.cons rfl (.cons rfl (.cons rfl .nil))))) (.cons .here .nil)
   ·rintro z5f ⟨h,ztA⟩
    replace h:=(ztw z5f).symm.trans h
    refine WC.a (WL.pu rfl (WL.pu rfl (WL.pu rfl (WL.nil ?_))))
    exact WX.round (G:=Nat × List Sapi_Come × Int) ⟨zja,z5f,(i64 (z37 + 1))⟩ ⟨h,ztA⟩ (Nat.lt_succ_self _) (.cons rfl (.cons rfl (.cons rfl (.cons rfl (.cons rfl .nil))))) (.cons .here .nil)
  ·replace h:=yl h zjc
   refine WC.exit (WX.yc (WX.yc (WX.yt ?_)))
   exact WX.mid (G:=List Sapi_Come) z3z ⟨h,zof⟩ .nil (.cons .here .nil)
 ·rintro z6L ⟨h,ztB⟩
  replace h:=(ztv z6L).symm.trans h
  obtain rfl:=Option.some.inj h
  refine WX.y1Z Try.results66 .nil (fun w hw=>?_)
  exact ⟨y4u,ztB,hw.sub (.cons .here .nil)⟩
def yG (z4m : Int) (zK : Int) (zV : Int) (z7U : (List Sapi_Come) → Option (List Sapi_Come)) : Nat → (List Sapi_Come) → Int → Option (List Sapi_Come)
 | 0,_,_=>none
 | zjh + 1,zr,zj=>if decide (zj < z4m) then chk ((0 : Int) ≤ (i64 (zK + zj)) ∧ (i64 (zK + zj)) < ((zr.length : Nat) : Int)) (chk ((0 : Int) ≤ (i64 (zV + zj)) ∧ (i64 (zV + zj)) < ((zr.length : Nat) : Int)) (chk ((0 : Int) ≤ (i64 (zK + zj)) ∧ (i64 (zK + zj)) < (((zr.set ((i64 (zV + zj)) : Int).toNat (⟨((nth zr (i64 (zK + zj))).fSent),((nth zr (i64 (zK + zj))).fNode),((nth zr (i64 (zK + zj))).fTime)⟩ : Sapi_Come)).length : Nat) : Int)) (yG z4m zK zV z7U zjh ((zr.set ((i64 (zV + zj)) : Int).toNat (⟨((nth zr (i64 (zK + zj))).fSent),((nth zr (i64 (zK + zj))).fNode),((nth zr (i64 (zK + zj))).fTime)⟩ : Sapi_Come)).set ((i64 (zK + zj)) : Int).toNat (⟨((nth zr (i64 (zV + zj))).fSent),((nth zr (i64 (zV + zj))).fNode),((nth zr (i64 (zV + zj))).fTime)⟩ : Sapi_Come)) (i64 (zj + 1))))) else z7U zr
theorem y3M {n : Nat} {z4m : Int} {zK : Int} {zV : Int} {z7U : (List Sapi_Come) → Option (List Sapi_Come)} {zr : List Sapi_Come} {zj : Int} {r : List Sapi_Come} (h : yG z4m zK zV z7U n zr zj = some r) : ∃ m,n = m + 1:=by
 cases n with
 | zero=>cases h
 | succ m=>exact ⟨m,rfl⟩
def yX (z2B : List Sapi_Come) (zV : Int) (zK : Int) (z4m : Int) (zbE : Sapi_Come → Sapi_Come → Option Int) : Option (List Sapi_Come) :=
 jp1 (fun (z6N : List Sapi_Come)=>some z6N) fun z7U=>yG z4m zK zV z7U ys z2B 0
set_option maxRecDepth 20000 in
theorem y2k (Z : Zp) (z5i : Option Addr) (z3o : Nat) (z7V : FuncId) (zaa : List Value) (z2B : List Sapi_Come) (zV : Int) (zK : Int) (z4m : Int) (zbE : Sapi_Come → Sapi_Come → Option Int) (r : List Sapi_Come)
  (h : yX z2B zV zK z4m zbE = some r) (w₀ : World) (hz : PZ (fps [row (.slice z5i z2B.length z3o) 50 3 (z2B.flatMap e50)]) w₀ Z)
  (zzq : ∀ args w,(callFunc z7V args).run Try.prog w = .ok (.enter z7V args) w)
  (zzr : ∀ w : World,PZ [] w Z → ∀ (x0 : Sapi_Come) (x1 : Sapi_Come) (r : Int),zbE x0 x1 = some r → Calls Try.prog z7V (([(.agg #[(.int .i64 x0.fSent),(.int .i64 x0.fNode),(.int .i64 x0.fTime)]),(.agg #[(.int .i64 x1.fSent),(.int .i64 x1.fNode),(.int .i64 x1.fTime)])] : List Value) ++ zaa).toArray w fun e w'=>e = .returned (.int .i64 r) ∧ Hp [] w w' [])
  (hown : Hp (fps [row (.slice z5i z2B.length z3o) 50 3 (z2B.flatMap e50)]) w₀ w₀ [row (.slice z5i z2B.length z3o) 50 3 (z2B.flatMap e50)]) :
  Calls Try.prog 69 #[(.slice z5i z2B.length z3o),(.int .i64 zV),(.int .i64 zK),(.int .i64 z4m),(.func (.func z7V) #[] (zaa).toArray)] w₀ fun e w'=>e = .returned (.tuple #[]) ∧ (r.length = z2B.length) ∧ Hp (fps [row (.slice z5i z2B.length z3o) 50 3 (z2B.flatMap e50)]) w₀ w' [row (.slice z5i r.length z3o) 50 3 (r.flatMap e50)]:=by
 unfold yX at h
 refine Calls.yo (vs:=[(.slice z5i z2B.length z3o),(.int .i64 zV),(.int .i64 zK),(.int .i64 z4m),(.func (.func z7V) #[] (zaa).toArray)]) (pre:=[row (.slice z5i z2B.length z3o) 50 3 (z2B.flatMap e50)]) (env:=[(0,(.slice z5i z2B.length z3o)),(1,(.int .i64 zV)),(2,(.int .i64 zK)),(3,(.int .i64 z4m)),(4,(.func (.func z7V) #[] (zaa).toArray))]) Try.func69 rfl Try.ntmps69 rfl (hown) rfl ?_
 refine WC.b (WC.a (WL.pu rfl (WL.nil (WX.a ?_))))
 obtain ⟨z7U,ztC,h⟩:=y1b h
 refine WC.y5g (fun (z6N : List Sapi_Come)=>(z7U z6N = some r) ∧ (z6N.length = z2B.length)) (fun (z6N : List Sapi_Come)=>[]) (fun (z6N : List Sapi_Come)=>[row (.slice z5i z6N.length z3o) 50 3 (z6N.flatMap e50)]) ?_ ?_
 ·skip
  refine WC.block ?_
  refine WC.y2r (fun (zbF : Nat) (zr : List Sapi_Come) (zj : Int)=>(yG z4m zK zV z7U zbF zr zj = some r) ∧ (zr.length = z2B.length)) (fun (zbF : Nat) (zr : List Sapi_Come) (zj : Int)=>[(0,(.slice z5i zr.length z3o)),(1,(.int .i64 zV)),(2,(.int .i64 zK)),(3,(.int .i64 z4m)),(10,(.int .i64 zj))]) (fun (zbF : Nat) (zr : List Sapi_Come) (zj : Int)=>[row (.slice z5i zr.length z3o) 50 3 (zr.flatMap e50)]) (fun (zbF : Nat) (zr : List Sapi_Come) (zj : Int)=>zbF) ⟨ys,z2B,0⟩ ⟨h,rfl⟩ (.cons rfl (.cons rfl (.cons rfl (.cons rfl (.cons rfl .nil))))) (.cons .here .nil) ?_
  rintro zbF zr zj ⟨h,zoj⟩
  obtain ⟨zjh,rfl⟩:=y3M h
  rw [yG] at h
  refine WC.b (WC.b (WC.a (WL.pu rfl (WL.pu rfl (WL.pu rfl (WL.nil (WX.a ?_)))))))
  refine WC.cond rfl (fun zji=>?_) (fun zji=>?_)
  ·replace h:=yk h zji
   refine WC.skip (WX.a (WC.b (WC.block ?_)))
   obtain ⟨zej,h⟩:=yi h
   obtain ⟨z6O,h⟩:=yi h
   obtain ⟨zbG,h⟩:=yi h
   refine WC.y12 (fun i=>[21,23].contains i) [] rfl ?_
   refine WD.a (i:=0) (d:=16) (by kernel_rfl) rfl z2 z3 rfl rfl rfl (fun _=>q_m rfl) ?_
   refine WD.a (i:=1) (d:=17) (by kernel_rfl) rfl z2 z3 rfl rfl rfl (fun _=>q_m rfl) ?_
   refine WD.a (i:=2) (d:=18) (by kernel_rfl) rfl z2 z3 rfl rfl rfl (fun _=>q_m rfl) ?_
   refine WD.a (i:=3) (d:=19) (by kernel_rfl) rfl z2 z3 rfl rfl rfl (fun _=>y4z rfl rfl rfl) ?_
   refine WD.a (i:=4) (d:=20) (by kernel_rfl) rfl z2 z3 rfl rfl rfl (fun _=>q_m rfl) ?_
   refine WD.a (i:=5) (d:=21) (by kernel_rfl) rfl z2 z3 rfl rfl rfl (fun _=>q_m rfl) ?_
   refine WD.a (i:=6) (d:=22) (by kernel_rfl) rfl z2 z3 rfl rfl rfl (fun _=>q_m rfl) ?_
   refine WD.a (i:=7) (d:=23) (by kernel_rfl) rfl z2 z3 rfl rfl rfl (fun _=>y4z rfl rfl rfl) ?_
   refine WD.a (i:=8) (d:=24) (by kernel_rfl) rfl z2 z3 rfl rfl rfl (fun _=>q_m rfl) ?_
   refine WD.a (i:=9) (d:=25) (by kernel_rfl) rfl z2 z3 rfl rfl rfl (fun _=>q_m rfl) ?_
   refine WD.a (i:=10) (d:=26) (by kernel_rfl) rfl z2 z3 rfl rfl rfl (fun _=>q_m rfl) ?_
   refine WD.a (i:=11) (d:=27) (by kernel_rfl) rfl z2 z3 rfl rfl rfl (fun _=>y4z rfl rfl rfl) ?_
   refine WD.know (fun w hw=>Hp.y2G .here hw (by intro hz'; have:=zej; rw [hz'] at this; omega)) ?_
   rintro ⟨zek,rfl⟩
   refine WD.a (i:=12) (d:=28) (by kernel_rfl) rfl z2 z3 rfl rfl rfl (fun _=>yu y14 rfl rfl zej.1 zej.2 y1f) ?_
   refine WD.e (i:=13) (d:=29) (by kernel_rfl) rfl z2 z3 rfl rfl rfl (y1L (cs:=(e50 (nth zr (i64 (zK + zj))))) y1T rfl rfl (y1X .here (y1S (enc:=e50) (l:=zr) (i:=i64 (zK + zj)) (sz:=3) (fun _=>rfl) zej.1 zej.2))) ?_
   refine WD.a (i:=14) (d:=30) (by kernel_rfl) rfl z2 z3 rfl rfl rfl (fun _=>q_m rfl) ?_
   refine WD.a (i:=15) (d:=31) (by kernel_rfl) rfl z2 z3 rfl rfl rfl (fun _=>q_m rfl) ?_
   refine WD.a (i:=16) (d:=32) (by kernel_rfl) rfl z2 z3 rfl rfl rfl (fun _=>q_m rfl) ?_
   refine WD.a (i:=17) (d:=33) (by kernel_rfl) rfl z2 z3 rfl rfl rfl (fun _=>y4z rfl rfl rfl) ?_
   refine WD.a (i:=18) (d:=34) (by kernel_rfl) rfl z2 z3 rfl rfl rfl (fun _=>yu y14 rfl rfl z6O.1 z6O.2 y1f) ?_
   refine WD.e (i:=19) (d:=35) (by kernel_rfl) rfl z2 z3 rfl rfl rfl (y1L (cs:=(e50 (nth zr (i64 (zV + zj))))) y1T rfl rfl (y1X .here (y1S (enc:=e50) (l:=zr) (i:=i64 (zV + zj)) (sz:=3) (fun _=>rfl) z6O.1 z6O.2))) ?_
   refine WD.a (i:=20) (d:=36) (by kernel_rfl) rfl z2 z3 rfl rfl rfl (fun _=>yu y14 rfl rfl z6O.1 z6O.2 y1f) ?_
   refine WD.forced0 (i:=21) rfl (by kernel_rfl) rfl rfl rfl (Sin.of .nil) (y2y (vs:=[(.int .i64 ((nth zr (i64 (zK + zj))).fSent)),(.int .i64 ((nth zr (i64 (zK + zj))).fNode)),(.int .i64 ((nth zr (i64 (zK + zj))).fTime))]) (ds:=(zr.set ((i64 (zV + zj)) : Int).toNat (⟨((nth zr (i64 (zK + zj))).fSent),((nth zr (i64 (zK + zj))).fNode),((nth zr (i64 (zK + zj))).fTime)⟩ : Sapi_Come)).flatMap e50) y49 rfl rfl rfl rfl (ocB rfl) .here (y3f (enc:=e50) (sz:=3) (k:=0) (fun _=>rfl) z6O.1 z6O.2 (by decide)) (y3e (enc:=e50) (l:=zr) (sz:=3) (vs:=[(.int .i64 ((nth zr (i64 (zK + zj))).fSent)),(.int .i64 ((nth zr (i64 (zK + zj))).fNode)),(.int .i64 ((nth zr (i64 (zK + zj))).fTime))]) (y:=(⟨((nth zr (i64 (zK + zj))).fSent),((nth zr (i64 (zK + zj))).fNode),((nth zr (i64 (zK + zj))).fTime)⟩ : Sapi_Come)) (k:=0) (fun _=>rfl) z6O.1 z6O.2 rfl (Nat.le_of_ble_eq_true rfl))) ?_
   refine WD.relen .here (u:=(.slice (some ⟨zek,0,none⟩) ((zr.set ((i64 (zV + zj)) : Int).toNat (⟨((nth zr (i64 (zK + zj))).fSent),((nth zr (i64 (zK + zj))).fNode),((nth zr (i64 (zK + zj))).fTime)⟩ : Sapi_Come)).length) z3o)) (y1P (List.length_set).symm) ?_
   refine WD.repin (i:=0) rfl (u:=(.slice (some ⟨zek,0,none⟩) ((zr.set ((i64 (zV + zj)) : Int).toNat (⟨((nth zr (i64 (zK + zj))).fSent),((nth zr (i64 (zK + zj))).fNode),((nth zr (i64 (zK + zj))).fTime)⟩ : Sapi_Come)).length) z3o)) (y1P (List.length_set).symm) ?_
   refine WD.repin (i:=20) rfl (u:=(.slice (some ⟨zek,0,none⟩) ((zr.set ((i64 (zV + zj)) : Int).toNat (⟨((nth zr (i64 (zK + zj))).fSent),((nth zr (i64 (zK + zj))).fNode),((nth zr (i64 (zK + zj))).fTime)⟩ : Sapi_Come)).length) z3o)) (y1P (List.length_set).symm) ?_
   refine WD.a (i:=22) (d:=37) (by kernel_rfl) rfl z2 z3 rfl rfl rfl (fun _=>yu y14 rfl rfl zbG.1 zbG.2 y1f) ?_
   refine WD.y2L (i:=23) rfl (by kernel_rfl) rfl rfl rfl (by kernel_rfl) (y2y (vs:=[(.int .i64 ((nth zr (i64 (zV + zj))).fSent)),(.int .i64 ((nth zr (i64 (zV + zj))).fNode)),(.int .i64 ((nth zr (i64 (zV + zj))).fTime))]) (ds:=((zr.set ((i64 (zV + zj)) : Int).toNat (⟨((nth zr (i64 (zK + zj))).fSent),((nth zr (i64 (zK + zj))).fNode),((nth zr (i64 (zK + zj))).fTime)⟩ : Sapi_Come)).set ((i64 (zK + zj)) : Int).toNat (⟨((nth zr (i64 (zV + zj))).fSent),((nth zr (i64 (zV + zj))).fNode),((nth zr (i64 (zV + zj))).fTime)⟩ : Sapi_Come)).flatMap e50) y49 rfl rfl rfl rfl (ocB rfl) .here (y3f (enc:=e50) (sz:=3) (k:=0) (fun _=>rfl) zbG.1 zbG.2 (by decide)) (y3e (enc:=e50) (l:=zr.set ((i64 (zV + zj)) : Int).toNat (⟨((nth zr (i64 (zK + zj))).fSent),((nth zr (i64 (zK + zj))).fNode),((nth zr (i64 (zK + zj))).fTime)⟩ : Sapi_Come)) (sz:=3) (vs:=[(.int .i64 ((nth zr (i64 (zV + zj))).fSent)),(.int .i64 ((nth zr (i64 (zV + zj))).fNode)),(.int .i64 ((nth zr (i64 (zV + zj))).fTime))]) (y:=(⟨((nth zr (i64 (zV + zj))).fSent),((nth zr (i64 (zV + zj))).fNode),((nth zr (i64 (zV + zj))).fTime)⟩ : Sapi_Come)) (k:=0) (fun _=>rfl) zbG.1 zbG.2 rfl (Nat.le_of_ble_eq_true rfl))) ?_
   refine WD.relen .here (u:=(.slice (some ⟨zek,0,none⟩) (((zr.set ((i64 (zV + zj)) : Int).toNat (⟨((nth zr (i64 (zK + zj))).fSent),((nth zr (i64 (zK + zj))).fNode),((nth zr (i64 (zK + zj))).fTime)⟩ : Sapi_Come)).set ((i64 (zK + zj)) : Int).toNat (⟨((nth zr (i64 (zV + zj))).fSent),((nth zr (i64 (zV + zj))).fNode),((nth zr (i64 (zV + zj))).fTime)⟩ : Sapi_Come)).length) z3o)) (y1P (List.length_set).symm) ?_
   refine WD.repin (i:=0) rfl (u:=(.slice (some ⟨zek,0,none⟩) (((zr.set ((i64 (zV + zj)) : Int).toNat (⟨((nth zr (i64 (zK + zj))).fSent),((nth zr (i64 (zK + zj))).fNode),((nth zr (i64 (zK + zj))).fTime)⟩ : Sapi_Come)).set ((i64 (zK + zj)) : Int).toNat (⟨((nth zr (i64 (zV + zj))).fSent),((nth zr (i64 (zV + zj))).fNode),((nth zr (i64 (zV + zj))).fTime)⟩ : Sapi_Come)).length) z3o)) (y1P (List.length_set).symm) ?_
   refine WD.done (by kernel_rfl) ?_
   refine WX.yg (WX.a (WC.a (WL.pu rfl (WL.pu rfl (WL.pu rfl (WL.nil ?_))))))
   exact WX.round (G:=Nat × List Sapi_Come × Int) ⟨zjh,((zr.set ((i64 (zV + zj)) : Int).toNat (⟨((nth zr (i64 (zK + zj))).fSent),((nth zr (i64 (zK + zj))).fNode),((nth zr (i64 (zK + zj))).fTime)⟩ : Sapi_Come)).set ((i64 (zK + zj)) : Int).toNat (⟨((nth zr (i64 (zV + zj))).fSent),((nth zr (i64 (zV + zj))).fNode),((nth zr (i64 (zV + zj))).fTime)⟩ : Sapi_Come)),(i64 (zj + 1))⟩ ⟨h,((List.length_set).trans ((List.length_set).trans zoj))⟩ (Nat.lt_succ_self _) (.cons rfl (.cons rfl (.cons rfl (.cons rfl (.cons rfl .nil))))) (.cons .here .nil)
  ·replace h:=yl h zji
   refine WC.exit (WX.yc (WX.yc (WX.yt ?_)))
   exact WX.mid (G:=List Sapi_Come) zr ⟨h,zoj⟩ .nil (.cons .here .nil)
 ·rintro z6N ⟨h,ztD⟩
  replace h:=(ztC z6N).symm.trans h
  obtain rfl:=Option.some.inj h
  refine WX.y1Z Try.results69 .nil (fun w hw=>?_)
  exact ⟨y4u,ztD,hw.sub (.cons .here .nil)⟩
def yN (z27 : Int) (z3p : Sapi_Come → Sapi_Come → Option Int) (z6P : (List Sapi_Come) → Int → Option (List Sapi_Come)) : Nat → (List Sapi_Come) → Int → Int → Option (List Sapi_Come)
 | 0,_,_,_=>none
 | zel + 1,z3A,z2d,z2U=>if decide (z2d ≠ z2U) then if decide (z2d > z2U) then (yX z3A (i64 (z27 - z2d)) z27 z2U z3p).bind fun zg0=>yN z27 z3p z6P zel zg0 (i64 (z2d - z2U)) z2U else (yX z3A (i64 (z27 - z2d)) (i64 ((i64 (z27 + z2U)) - z2d)) z2d z3p).bind fun zg1=>yN z27 z3p z6P zel zg1 z2d (i64 (z2U - z2d)) else z6P z3A z2d
theorem y44 {n : Nat} {z27 : Int} {z3p : Sapi_Come → Sapi_Come → Option Int} {z6P : (List Sapi_Come) → Int → Option (List Sapi_Come)} {z3A : List Sapi_Come} {z2d : Int} {z2U : Int} {r : List Sapi_Come} (h : yN z27 z3p z6P n z3A z2d z2U = some r) : ∃ m,n = m + 1:=by
 cases n with
 | zero=>cases h
 | succ m=>exact ⟨m,rfl⟩
def y1z (z2C : List Sapi_Come) (zab : Int) (z27 : Int) (zac : Int) (z3p : Sapi_Come → Sapi_Come → Option Int) : Option (List Sapi_Come) :=
 jp2 (fun (z5E : List Sapi_Come) (z7W : Int)=>(yX z5E (i64 (z27 - z7W)) z27 z7W z3p).bind fun zjj=>some zjj) fun z6P=>yN z27 z3p z6P ys z2C (i64 (z27 - zab)) (i64 (zac - z27))
set_option maxRecDepth 20000 in
theorem y4G (Z : Zp) (z3B : Option Addr) (z3C : Nat) (z5j : FuncId) (z6Q : List Value) (z2C : List Sapi_Come) (zab : Int) (z27 : Int) (zac : Int) (z3p : Sapi_Come → Sapi_Come → Option Int) (r : List Sapi_Come)
  (h : y1z z2C zab z27 zac z3p = some r) (w₀ : World) (hz : PZ (fps [row (.slice z3B z2C.length z3C) 50 3 (z2C.flatMap e50)]) w₀ Z)
  (zjk : ∀ args w,(callFunc z5j args).run Try.prog w = .ok (.enter z5j args) w)
  (zjl : ∀ w : World,PZ [] w Z → ∀ (x0 : Sapi_Come) (x1 : Sapi_Come) (r : Int),z3p x0 x1 = some r → Calls Try.prog z5j (([(.agg #[(.int .i64 x0.fSent),(.int .i64 x0.fNode),(.int .i64 x0.fTime)]),(.agg #[(.int .i64 x1.fSent),(.int .i64 x1.fNode),(.int .i64 x1.fTime)])] : List Value) ++ z6Q).toArray w fun e w'=>e = .returned (.int .i64 r) ∧ Hp [] w w' [])
  (hown : Hp (fps [row (.slice z3B z2C.length z3C) 50 3 (z2C.flatMap e50)]) w₀ w₀ [row (.slice z3B z2C.length z3C) 50 3 (z2C.flatMap e50)]) :
  Calls Try.prog 68 #[(.slice z3B z2C.length z3C),(.int .i64 zab),(.int .i64 z27),(.int .i64 zac),(.func (.func z5j) #[] (z6Q).toArray)] w₀ fun e w'=>e = .returned (.tuple #[]) ∧ (r.length = z2C.length) ∧ Hp (fps [row (.slice z3B z2C.length z3C) 50 3 (z2C.flatMap e50)]) w₀ w' [row (.slice z3B r.length z3C) 50 3 (r.flatMap e50)]:=by
 unfold y1z at h
 refine Calls.yo (vs:=[(.slice z3B z2C.length z3C),(.int .i64 zab),(.int .i64 z27),(.int .i64 zac),(.func (.func z5j) #[] (z6Q).toArray)]) (pre:=[row (.slice z3B z2C.length z3C) 50 3 (z2C.flatMap e50)]) (env:=[(0,(.slice z3B z2C.length z3C)),(1,(.int .i64 zab)),(2,(.int .i64 z27)),(3,(.int .i64 zac)),(4,(.func (.func z5j) #[] (z6Q).toArray))]) Try.func68 rfl Try.ntmps68 rfl (hown) rfl ?_
 refine WC.b (WC.a (WL.pu rfl (WL.pu rfl (WL.pu rfl (WL.pu rfl (WL.nil (WX.a (WC.b (WC.a (WL.pu rfl (WL.pu rfl (WL.pu rfl (WL.pu rfl (WL.nil (WX.a ?_)))))))))))))))
 obtain ⟨z6P,ztE,h⟩:=y2i h
 refine WC.y2q (fun (z5E : List Sapi_Come) (z7W : Int)=>(z6P z5E z7W = some r) ∧ (z5E.length = z2C.length)) (fun (z5E : List Sapi_Come) (z7W : Int)=>[(0,(.slice z3B z5E.length z3C)),(2,(.int .i64 z27)),(4,(.func (.func z5j) #[] (z6Q).toArray)),(10,(.int .i64 z7W))]) (fun (z5E : List Sapi_Come) (z7W : Int)=>[row (.slice z3B z5E.length z3C) 50 3 (z5E.flatMap e50)]) ?_ ?_
 ·skip
  refine WC.block ?_
  refine WC.y4C (fun (zbH : Nat) (z3A : List Sapi_Come) (z2d : Int) (z2U : Int)=>(yN z27 z3p z6P zbH z3A z2d z2U = some r) ∧ (z3A.length = z2C.length)) (fun (zbH : Nat) (z3A : List Sapi_Come) (z2d : Int) (z2U : Int)=>[(0,(.slice z3B z3A.length z3C)),(2,(.int .i64 z27)),(4,(.func (.func z5j) #[] (z6Q).toArray)),(10,(.int .i64 z2d)),(11,(.int .i64 z2U))]) (fun (zbH : Nat) (z3A : List Sapi_Come) (z2d : Int) (z2U : Int)=>[row (.slice z3B z3A.length z3C) 50 3 (z3A.flatMap e50)]) (fun (zbH : Nat) (z3A : List Sapi_Come) (z2d : Int) (z2U : Int)=>zbH) ⟨ys,z2C,(i64 (z27 - zab)),(i64 (zac - z27))⟩ ⟨h,rfl⟩ (.cons rfl (.cons rfl (.cons rfl (.cons rfl (.cons rfl .nil))))) (.cons .here .nil) ?_
  rintro zbH z3A z2d z2U ⟨h,zjm⟩
  obtain ⟨zel,rfl⟩:=y44 h
  rw [yN] at h
  refine WC.b (WC.b (WC.a (WL.pu rfl (WL.pu rfl (WL.pu rfl (WL.nil (WX.a ?_)))))))
  refine WC.cond rfl (fun zjn=>?_) (fun zjn=>?_)
  ·replace h:=yk h zjn
   refine WC.skip (WX.a (WC.block (WC.b (WC.a (WL.pu rfl (WL.pu rfl (WL.pu rfl (WL.nil (WX.a ?_)))))))))
   refine WC.cond rfl (fun zjo=>?_) (fun zjo=>?_)
   ·replace h:=yk h zjo
    refine WC.b ?_
    obtain ⟨zg0,ztF,h⟩:=zn h
    refine WC.a (WL.pu rfl (WL.pu rfl (WL.pu rfl (WL.pu rfl (WL.pu rfl (WL.pu rfl (WL.pu rfl ?_)))))))
    refine WL.y1Q (dd:=31) rfl rfl rfl (zE (l:=[.tmp 24,.tmp 27,.tmp 28,.tmp 29,.tmp 30]) Try.call69 (.cons rfl (.cons rfl (.cons rfl (.cons rfl (.cons rfl .nil)))))) (.cons .here .nil) (cc hz (.cons .here .nil) fun w pz ho=>y2k _ _ _ (z7V:=z5j) (zaa:=z6Q) _ _ _ _ (zbE:=z3p) _ ztF w pz zjk zjl ho) ?_
    rintro  zol
    refine WL.repin (i:=0) rfl (u:=(.slice z3B zg0.length z3C)) (y1P zol.symm) ?_
    refine WL.nil (WX.a (WC.a (WL.pu rfl (WL.pu rfl (WL.pu rfl (WL.pu rfl (WL.nil (WX.yg ?_))))))))
    exact WX.round (G:=Nat × List Sapi_Come × Int × Int) ⟨zel,zg0,(i64 (z2d - z2U)),z2U⟩ ⟨h,(zol.trans zjm)⟩ (Nat.lt_succ_self _) (.cons rfl (.cons rfl (.cons rfl (.cons rfl (.cons rfl .nil))))) (.cons .here .nil)
   ·replace h:=yl h zjo
    refine WC.b ?_
    obtain ⟨zg1,ztG,h⟩:=zn h
    refine WC.a (WL.pu rfl (WL.pu rfl (WL.pu rfl (WL.pu rfl (WL.pu rfl (WL.pu rfl (WL.pu rfl (WL.pu rfl (WL.pu rfl (WL.pu rfl (WL.pu rfl ?_)))))))))))
    refine WL.y1Q (dd:=46) rfl rfl rfl (zE (l:=[.tmp 35,.tmp 38,.tmp 43,.tmp 44,.tmp 45]) Try.call69 (.cons rfl (.cons rfl (.cons rfl (.cons rfl (.cons rfl .nil)))))) (.cons .here .nil) (cc hz (.cons .here .nil) fun w pz ho=>y2k _ _ _ (z7V:=z5j) (zaa:=z6Q) _ _ _ _ (zbE:=z3p) _ ztG w pz zjk zjl ho) ?_
    rintro  zom
    refine WL.repin (i:=0) rfl (u:=(.slice z3B zg1.length z3C)) (y1P zom.symm) ?_
    refine WL.nil (WX.a (WC.a (WL.pu rfl (WL.pu rfl (WL.pu rfl (WL.pu rfl (WL.nil (WX.yg ?_))))))))
    exact WX.round (G:=Nat × List Sapi_Come × Int × Int) ⟨zel,zg1,z2d,(i64 (z2U - z2d))⟩ ⟨h,(zom.trans zjm)⟩ (Nat.lt_succ_self _) (.cons rfl (.cons rfl (.cons rfl (.cons rfl (.cons rfl .nil))))) (.cons .here .nil)
  ·replace h:=yl h zjn
   refine WC.exit (WX.yc (WX.yc (WX.yt ?_)))
   exact WX.mid (G:=List Sapi_Come × Int) ⟨z3A,z2d⟩ ⟨h,zjm⟩ (.cons rfl (.cons rfl (.cons rfl (.cons rfl .nil)))) (.cons .here .nil)
 ·rintro z5E z7W ⟨h,ztH⟩
  replace h:=(ztE z5E z7W).symm.trans h
  obtain ⟨zjj,ztI,h⟩:=zn h
  refine WC.a (WL.pu rfl (WL.pu rfl (WL.pu rfl (WL.pu rfl (WL.pu rfl (WL.pu rfl (WL.pu rfl ?_)))))))
  refine WL.y1Q (dd:=57) rfl rfl rfl (zE (l:=[.tmp 50,.tmp 53,.tmp 54,.tmp 55,.tmp 56]) Try.call69 (.cons rfl (.cons rfl (.cons rfl (.cons rfl (.cons rfl .nil)))))) (.cons .here .nil) (cc hz (.cons .here .nil) fun w pz ho=>y2k _ _ _ (z7V:=z5j) (zaa:=z6Q) _ _ _ _ (zbE:=z3p) _ ztI w pz zjk zjl ho) ?_
  rintro  zon
  refine WL.repin (i:=0) rfl (u:=(.slice z3B zjj.length z3C)) (y1P zon.symm) ?_
  refine WL.nil ?_
  obtain rfl:=Option.some.inj h
  refine WX.y1Z Try.results68 .nil (fun w hw=>?_)
  exact ⟨y4u,(zon.trans ztH),hw.sub (.cons .here .nil)⟩
end Go.Proofs.Ytinchjigeakocaa

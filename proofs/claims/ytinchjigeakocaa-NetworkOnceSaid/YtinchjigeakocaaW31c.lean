/- A part of this claim's proof: models of functions, walks, plain laws. No conditions. -/
import Derived.Test.YtinchjigeakocaaW31b
namespace Go.Proofs.Ytinchjigeakocaa
open Go Go.RowKit Sep
set_option linter.all false
set_option maxRecDepth 30000
set_option maxHeartbeats 4000000
def yE (z45 : Sport_frame → Option Bool) (z7x : (List Sport_frame) → Int → Option (List Sport_frame)) : Nat → (List Sport_frame) → Int → Int → Option (List Sport_frame)
 | 0,_,_,_=>none
 | zik + 1,zX,z1Y,z16=>if decide (z16 < ((zX.length : Nat) : Int)) then jp2 (fun (z4L : List Sport_frame) (z7y : Int)=>yE z45 z7x zik z4L z7y (i64 (z16 + 1))) fun zfx=>chk ((0 : Int) ≤ z16 ∧ z16 < ((zX.length : Nat) : Int)) ((z45 (⟨((nth zX z16).fSize),((nth zX z16).fFin)⟩ : Sport_frame)).bind fun zil=>if !zil then chk ((0 : Int) ≤ z1Y ∧ z1Y < ((zX.length : Nat) : Int)) (zfx (zX.set (z1Y : Int).toNat (⟨((nth zX z16).fSize),((nth zX z16).fFin)⟩ : Sport_frame)) (i64 (z1Y + 1))) else zfx zX z1Y) else z7x zX z1Y
theorem y38 {n : Nat} {z45 : Sport_frame → Option Bool} {z7x : (List Sport_frame) → Int → Option (List Sport_frame)} {zX : List Sport_frame} {z1Y : Int} {z16 : Int} {r : List Sport_frame} (h : yE z45 z7x n zX z1Y z16 = some r) : ∃ m,n = m + 1:=by
 cases n with
 | zero=>cases h
 | succ m=>exact ⟨m,rfl⟩
def yV (z1Z : List Sport_frame) (z45 : Sport_frame → Option Bool) : Option (List Sport_frame) :=
 (yX z1Z z45).bind fun zbn=>if decide (zbn = (-1)) then some z1Z else jp2 (fun (z20 : List Sport_frame) (z21 : Int)=>chk ((0 : Int) ≤ z21 ∧ z21 ≤ ((z20.length : Nat) : Int)) (chk ((0 : Int) ≤ z21 ∧ z21 ≤ (((z20.take (z21 : Int).toNat ++ List.replicate (z20.length - (z21 : Int).toNat) ((⟨0,0⟩ : Sport_frame) : Sport_frame)).length : Nat) : Int)) (some ((z20.take (z21 : Int).toNat ++ List.replicate (z20.length - (z21 : Int).toNat) ((⟨0,0⟩ : Sport_frame) : Sport_frame)).take (z21 : Int).toNat)))) fun z7x=>yE z45 z7x yt z1Z zbn (i64 (zbn + 1))
set_option maxRecDepth 20000 in
theorem y3F (Z : Zp) (z3a : Option Addr) (z2u : Nat) (z5q : FuncId) (z7z : List Value) (z1Z : List Sport_frame) (z45 : Sport_frame → Option Bool) (r : List Sport_frame)
  (h : yV z1Z z45 = some r) (w₀ : World) (hz : PZ (fps [row (.slice z3a z1Z.length z2u) 146 2 (z1Z.flatMap y20)]) w₀ Z)
  (znh : ∀ args w,(callFunc z5q args).run Try.prog w = .ok (.enter z5q args) w)
  (zni : ∀ w : World,PZ [] w Z → ∀ (x0 : Sport_frame) (r : Bool),z45 x0 = some r → Calls Try.prog z5q (([(.agg #[(.int .i64 x0.fSize),(.int .i64 x0.fFin)])] : List Value) ++ z7z).toArray w fun e w'=>e = .returned (.bool r) ∧ Hp [] w w' [])
  (hown : Hp (fps [row (.slice z3a z1Z.length z2u) 146 2 (z1Z.flatMap y20)]) w₀ w₀ [row (.slice z3a z1Z.length z2u) 146 2 (z1Z.flatMap y20)]) :
  Calls Try.prog 54 #[(.slice z3a z1Z.length z2u),(.func (.func z5q) #[] (z7z).toArray)] w₀ fun e w'=>∃ znj : Option Addr,∃ znk : Nat,e = .returned (.slice znj r.length znk) ∧ True ∧ Hp (fps [row (.slice z3a z1Z.length z2u) 146 2 (z1Z.flatMap y20)]) w₀ w' [row (.slice znj r.length znk) 146 2 (r.flatMap y20)]:=by
 unfold yV at h
 refine Calls.yo (vs:=[(.slice z3a z1Z.length z2u),(.func (.func z5q) #[] (z7z).toArray)]) (pre:=[row (.slice z3a z1Z.length z2u) 146 2 (z1Z.flatMap y20)]) (env:=[(0,(.slice z3a z1Z.length z2u)),(1,(.func (.func z5q) #[] (z7z).toArray))]) Try.func54 rfl Try.ntmps54 rfl (hown) rfl ?_
 refine WC.b (WC.a (WL.pu rfl (WL.nil (WX.a (WC.b ?_)))))
 obtain ⟨zbn,zss,h⟩:=zn h
 refine WC.a (WL.pu rfl (WL.pu rfl ?_))
 refine WL.b (dd:=10) rfl rfl rfl (zF (l:=[.tmp 8,.tmp 9]) Try.call63 (.cons rfl (.cons rfl .nil))) .nil (ccl hz .nil (.cons .here .nil) fun w pz ho la=>y3O _ _ _ (z7w:=z5q) (z9K:=z7z) _ (z5p:=z45) _ zss w pz (ZA.row (la _ (.head _) _) (RR.y1q (enc:=y20) (fun _=>rfl) _) ⟨w,pz.1⟩) znh (fun w' hz'=>zni w' (hz'.le (Zle.left _ _)))) ?_
 refine WL.pu rfl (WL.nil (WX.a (WC.b (WC.b (WC.a (WL.pu rfl (WL.pu rfl (WL.nil (WX.a ?_)))))))))
 refine WC.cond rfl (fun zim=>?_) (fun zim=>?_)
 ·replace h:=yl h zim
  refine WC.b (WC.a (WL.pu rfl (WL.pu rfl (WL.nil (WX.a (WC.ret (WX.yf ?_)))))))
  obtain rfl:=Option.some.inj h
  refine WX.yi Try.results54 (.tmp rfl .nil) (fun w hw=>?_)
  exact ⟨z3a,z2u,y12 rfl,trivial,hw.sub (.cons .here .nil)⟩
 ·replace h:=ym h zim
  refine WC.skip (WX.a ?_)
  obtain ⟨z7x,zst,h⟩:=y3c h
  refine WC.y2v (fun (z20 : List Sport_frame) (z21 : Int)=>(z7x z20 z21 = some r) ∧ (z20.length = z1Z.length)) (fun (z20 : List Sport_frame) (z21 : Int)=>[(0,(.slice z3a z20.length z2u)),(5,(.int .i64 z21))]) (fun (z20 : List Sport_frame) (z21 : Int)=>[row (.slice z3a z20.length z2u) 146 2 (z20.flatMap y20)]) ?_ ?_
  ·skip
   refine WC.b (WC.a (WL.pu rfl (WL.pu rfl (WL.pu rfl (WL.nil (WX.a (WC.block ?_)))))))
   refine WC.y5j (fun (zbo : Nat) (zX : List Sport_frame) (z1Y : Int) (z16 : Int)=>(yE z45 z7x zbo zX z1Y z16 = some r) ∧ (zX.length = z1Z.length)) (fun (zbo : Nat) (zX : List Sport_frame) (z1Y : Int) (z16 : Int)=>[(0,(.slice z3a zX.length z2u)),(1,(.func (.func z5q) #[] (z7z).toArray)),(5,(.int .i64 z1Y)),(6,(.int .i64 z16))]) (fun (zbo : Nat) (zX : List Sport_frame) (z1Y : Int) (z16 : Int)=>[row (.slice z3a zX.length z2u) 146 2 (zX.flatMap y20)]) (fun (zbo : Nat) (zX : List Sport_frame) (z1Y : Int) (z16 : Int)=>zbo) ⟨yt,z1Z,zbn,(i64 (zbn + 1))⟩ ⟨h,rfl⟩ (.cons rfl (.cons rfl (.cons rfl (.cons rfl .nil)))) (.cons .here .nil) ?_
   rintro zbo zX z1Y z16 ⟨h,zin⟩
   obtain ⟨zik,rfl⟩:=y38 h
   rw [yE] at h
   refine WC.b (WC.b (WC.a (WL.pu rfl (WL.pu rfl ?_))))
   refine WL.a (d:=18) rfl rfl rfl (yW Try.underlying141 rfl) ?_
   refine WL.pu rfl (WL.nil (WX.a ?_))
   refine WC.cond rfl (fun zio=>?_) (fun zio=>?_)
   ·replace h:=yl h zio
    refine WC.skip (WX.a ?_)
    obtain ⟨zfx,zsu,h⟩:=y3c h
    refine WC.y2v (fun (z4L : List Sport_frame) (z7y : Int)=>(zfx z4L z7y = some r) ∧ (z4L.length = z1Z.length)) (fun (z4L : List Sport_frame) (z7y : Int)=>[(0,(.slice z3a z4L.length z2u)),(1,(.func (.func z5q) #[] (z7z).toArray)),(5,(.int .i64 z7y)),(6,(.int .i64 z16))]) (fun (z4L : List Sport_frame) (z7y : Int)=>[row (.slice z3a z4L.length z2u) 146 2 (z4L.flatMap y20)]) ?_ ?_
    ·skip
     refine WC.block (WC.b ?_)
     obtain ⟨ze4,h⟩:=yj h
     refine WC.a (WL.pu rfl (WL.pu rfl ?_))
     refine WL.know (fun w hw=>Hp.y2i .here hw (by intro hz'; have:=ze4; rw [hz'] at this; omega)) ?_
     rintro ⟨znl,rfl⟩
     refine WL.a (d:=24) rfl rfl rfl (yr z6W rfl rfl ze4.1 ze4.2 y1b) ?_
     refine WL.a (d:=25) rfl rfl rfl (y1H (cs:=(y20 (nth zX z16))) zah rfl rfl (y1P .here (y1I (enc:=y20) (l:=zX) (i:=z16) (sz:=2) (fun _=>rfl) ze4.1 ze4.2))) ?_
     refine WL.new (dd:=7) rfl rfl rfl (y2d (cs:=[(.int .i64 0),(.int .i64 0)]) zgB rfl) ?_
     intro zy9 _
     refine WL.y1u rfl rfl (y1K zgC rfl rfl rfl .here rfl rfl rfl) ?_
     refine WL.nil (WX.a (WC.b ?_))
     obtain ⟨zil,zsv,h⟩:=zn h
     refine WC.a (WL.pu rfl ?_)
     refine WL.a (d:=27) rfl rfl rfl (yN zah rfl (y1x .here) rfl) ?_
     refine WL.b (dd:=28) rfl rfl rfl (y3L (l:=[.tmp 27]) (f:=z5q) (caps:=z7z) znh rfl (.cons rfl .nil)) .nil (fun w hw=>zni w (hz.now hw) (⟨((nth zX z16).fSize),((nth zX z16).fFin)⟩ : Sport_frame) zil  zsv) ?_
     refine WL.pu rfl (WL.nil (WX.a ?_))
     refine WC.cond rfl (fun ziq=>?_) (fun ziq=>?_)
     ·replace h:=yl h ziq
      refine WC.b ?_
      obtain ⟨zbp,h⟩:=yj h
      refine WC.a (WL.pu rfl (WL.pu rfl ?_))
      refine WL.a (d:=32) rfl rfl rfl (yN zah rfl (y1x .here) rfl) ?_
      refine WL.a (d:=33) rfl rfl rfl (yr z6W rfl rfl zbp.1 zbp.2 y1b) ?_
      refine WL.y1u rfl rfl (y2t (vs:=[(.int .i64 ((nth zX z16).fSize)),(.int .i64 ((nth zX z16).fFin))]) (ds:=(zX.set (z1Y : Int).toNat (⟨((nth zX z16).fSize),((nth zX z16).fFin)⟩ : Sport_frame)).flatMap y20) zgC rfl rfl rfl rfl (ocB rfl) .h1 (y3d (enc:=y20) (sz:=2) (k:=0) (fun _=>rfl) zbp.1 zbp.2 (by decide)) (y3b (enc:=y20) (l:=zX) (sz:=2) (vs:=[(.int .i64 ((nth zX z16).fSize)),(.int .i64 ((nth zX z16).fFin))]) (y:=(⟨((nth zX z16).fSize),((nth zX z16).fFin)⟩ : Sport_frame)) (k:=0) (fun _=>rfl) zbp.1 zbp.2 rfl (Nat.le_of_ble_eq_true rfl))) ?_
      refine WL.relen .here (u:=(.slice (some ⟨znl,0,none⟩) ((zX.set (z1Y : Int).toNat (⟨((nth zX z16).fSize),((nth zX z16).fFin)⟩ : Sport_frame)).length) z2u)) (y1M (List.length_set).symm) ?_
      refine WL.repin (i:=0) rfl (u:=(.slice (some ⟨znl,0,none⟩) ((zX.set (z1Y : Int).toNat (⟨((nth zX z16).fSize),((nth zX z16).fFin)⟩ : Sport_frame)).length) z2u)) (y1M (List.length_set).symm) ?_
      refine WL.nil (WX.a (WC.a (WL.pu rfl (WL.pu rfl (WL.pu rfl (WL.nil (WX.yh ?_)))))))
      exact WX.mid (G:=List Sport_frame × Int) ⟨(zX.set (z1Y : Int).toNat (⟨((nth zX z16).fSize),((nth zX z16).fFin)⟩ : Sport_frame)),(i64 (z1Y + 1))⟩ ⟨h,((List.length_set).trans zin)⟩ (.cons rfl (.cons rfl (.cons rfl (.cons rfl .nil)))) (.cons .here .nil)
     ·replace h:=ym h ziq
      refine WC.skip (WX.yh ?_)
      exact WX.mid (G:=List Sport_frame × Int) ⟨zX,z1Y⟩ ⟨h,zin⟩ (.cons rfl (.cons rfl (.cons rfl (.cons rfl .nil)))) (.cons .h1 .nil)
    ·rintro z4L z7y ⟨h,zsw⟩
     replace h:=(zsu z4L z7y).symm.trans h
     refine WC.a (WL.pu rfl (WL.pu rfl (WL.pu rfl (WL.nil ?_))))
     exact WX.round (G:=Nat × List Sport_frame × Int × Int) ⟨zik,z4L,z7y,(i64 (z16 + 1))⟩ ⟨h,zsw⟩ (Nat.lt_succ_self _) (.cons rfl (.cons rfl (.cons rfl (.cons rfl .nil)))) (.cons .here .nil)
   ·replace h:=ym h zio
    refine WC.exit (WX.yd (WX.yd (WX.yy ?_)))
    exact WX.mid (G:=List Sport_frame × Int) ⟨zX,z1Y⟩ ⟨h,zin⟩ (.cons rfl (.cons rfl .nil)) (.cons .here .nil)
  ·rintro z20 z21 ⟨h,zya⟩
   replace h:=(zst z20 z21).symm.trans h
   refine WC.b ?_
   obtain ⟨zfy,h⟩:=yj h
   refine WC.a (WL.pu rfl (WL.pu rfl ?_))
   refine WL.y9V (dd:=38) rfl rfl z6W rfl rfl .here zfy ?_
   intro zyb zyc zsx
   refine WL.y1u rfl rfl (y8F (enc:=y20) (z0:=((⟨0,0⟩ : Sport_frame) : Sport_frame)) (l:=z20) z6W zgB rfl zsx zfy (fun _=>rfl) (by decide) rfl y9s .here) ?_
   refine WL.relen .here (u:=(.slice z3a ((z20.take (z21 : Int).toNat ++ List.replicate (z20.length - (z21 : Int).toNat) ((⟨0,0⟩ : Sport_frame) : Sport_frame)).length) z2u)) (y1M (y6I zfy).symm) ?_
   refine WL.repin (i:=0) rfl (u:=(.slice z3a ((z20.take (z21 : Int).toNat ++ List.replicate (z20.length - (z21 : Int).toNat) ((⟨0,0⟩ : Sport_frame) : Sport_frame)).length) z2u)) (y1M (y6I zfy).symm) ?_
   refine WL.nil (WX.a (WC.b ?_))
   obtain ⟨zsy,h⟩:=yj h
   refine WC.a (WL.pu rfl (WL.pu rfl ?_))
   refine WL.y6J (dd:=41) (enc:=y20) (ls:=z20.take (z21 : Int).toNat ++ List.replicate (z20.length - (z21 : Int).toNat) ((⟨0,0⟩ : Sport_frame) : Sport_frame)) rfl rfl z6W rfl rfl .here (fun _=>rfl) zsy ?_
   intro zsz zsA
   refine WL.pu rfl (WL.nil (WX.a (WC.ret ?_)))
   obtain rfl:=Option.some.inj h
   refine WX.yi Try.results54 (.tmp rfl .nil) (fun w hw=>?_)
   exact ⟨zsz,zsA,y12 rfl,trivial,hw.sub (.cons .here .nil)⟩
def y2q (z5r : Sport_frame) (zfz : Int) : Option Bool :=
 some (decide (z5r.fFin > zfz))
set_option maxRecDepth 20000 in
theorem y6R (Z : Zp) (zfA : Addr) (z5r : Sport_frame) (zfz : Int) (r : Bool)
  (h : y2q z5r zfz = some r) (w₀ : World) (hz : PZ [] w₀ Z)
  (zsB : ZC Z zfA [(.int .i64 zfz)]) :
  Calls Try.prog 65 #[(.agg #[(.int .i64 z5r.fSize),(.int .i64 z5r.fFin)]),(.pointer (some zfA))] w₀ fun e w'=>e = .returned (.bool r) ∧ Hp [] w₀ w' []:=by
 unfold y2q at h
 refine Calls.yo (vs:=[(.agg #[(.int .i64 z5r.fSize),(.int .i64 z5r.fFin)]),(.pointer (some zfA))]) (pre:=[]) (env:=[(0,(.agg #[(.int .i64 z5r.fSize),(.int .i64 z5r.fFin)])),(1,(.pointer (some zfA)))]) Try.func65 rfl Try.ntmps65 rfl (Hp.nil w₀ _) rfl ?_
 refine WC.b (WC.a ?_)
 refine WL.new (dd:=2) rfl rfl rfl (y2h (cs:=[(.int .i64 z5r.fSize),(.int .i64 z5r.fFin)]) rfl rfl) ?_
 intro zyd _
 refine WL.pu rfl (WL.nil (WX.a (WC.b (WC.a ?_))))
 refine WL.a (d:=4) rfl rfl rfl (ya y8V rfl rfl) ?_
 refine WL.a (d:=5) rfl rfl rfl (yb yg rfl (yc .here rfl)) ?_
 refine WL.a (d:=6) rfl rfl rfl (yb yg rfl (rd_z hz.pv zsB rfl)) ?_
 refine WL.pu rfl (WL.pu rfl (WL.nil (WX.a (WC.ret ?_))))
 obtain rfl:=Option.some.inj h
 refine WX.yi Try.results65 (.tmp rfl .nil) (fun w hw=>?_)
 exact ⟨y12 rfl,hw.sub .nil⟩
def y2b (z1C : Sport_Port) (z5s : Sport_frame → Option Bool) (z7A : Int → Option Int) : Nat → Int → Int → Option Int
 | 0,_,_=>none
 | zir + 1,z3F,z28=>if decide (z28 < ((z1C.fFrames.length : Nat) : Int)) then jp1 (fun (z7B : Int)=>y2b z1C z5s z7A zir z7B (i64 (z28 + 1))) fun zfB=>chk ((0 : Int) ≤ z28 ∧ z28 < ((z1C.fFrames.length : Nat) : Int)) ((z5s (⟨((nth z1C.fFrames z28).fSize),((nth z1C.fFrames z28).fFin)⟩ : Sport_frame)).bind fun zis=>if zis then zfB (i64 (z3F + ((nth z1C.fFrames z28).fSize))) else zfB z3F) else z7A z3F
theorem y5x {n : Nat} {z1C : Sport_Port} {z5s : Sport_frame → Option Bool} {z7A : Int → Option Int} {z3F : Int} {z28 : Int} {r : Int} (h : y2b z1C z5s z7A n z3F z28 = some r) : ∃ m,n = m + 1:=by
 cases n with
 | zero=>cases h
 | succ m=>exact ⟨m,rfl⟩
def y2R (z1C : Sport_Port) (z5s : Sport_frame → Option Bool) : Option Int :=
 jp1 (fun (z8u : Int)=>some z8u) fun z7A=>y2b z1C z5s z7A yt 0 0
set_option maxRecDepth 20000 in
theorem y7F (Z : Zp) (zfC : Addr) (zfD : Option Addr) (zfE : Nat) (z6x : FuncId) (z8v : List Value) (z1C : Sport_Port) (z5s : Sport_frame → Option Bool) (r : Int)
  (h : y2R z1C z5s = some r) (w₀ : World) (hz : PZ [] w₀ Z)
  (zsC : ZS Z 2 (fun r x=>r = y20 x) zfD zfE z1C.fFrames)
  (zsD : ZC Z zfC [(.int .i64 z1C.fNumbers.fSlow),(.int .i64 z1C.fNumbers.fDelay),(.int .i64 z1C.fNumbers.fStore),(.int .i64 z1C.fNow),(.int .i64 z1C.fLast),(.slice zfD z1C.fFrames.length zfE)])
  (zsE : ∀ args w,(callFunc z6x args).run Try.prog w = .ok (.enter z6x args) w)
  (zsF : ∀ w : World,PZ [] w Z → ∀ (x0 : Sport_frame) (r : Bool),z5s x0 = some r → Calls Try.prog z6x (([(.agg #[(.int .i64 x0.fSize),(.int .i64 x0.fFin)])] : List Value) ++ z8v).toArray w fun e w'=>e = .returned (.bool r) ∧ Hp [] w w' []) :
  Calls Try.prog 64 #[(.pointer (some zfC)),(.func (.func z6x) #[] (z8v).toArray)] w₀ fun e w'=>e = .returned (.int .i64 r) ∧ Hp [] w₀ w' []:=by
 unfold y2R at h
 refine Calls.yo (vs:=[(.pointer (some zfC)),(.func (.func z6x) #[] (z8v).toArray)]) (pre:=[]) (env:=[(0,(.pointer (some zfC))),(1,(.func (.func z6x) #[] (z8v).toArray))]) Try.func64 rfl Try.ntmps64 rfl (Hp.nil w₀ _) rfl ?_
 refine WC.b (WC.a (WL.pu rfl (WL.nil (WX.a (WC.b (WC.a (WL.pu rfl (WL.nil (WX.a ?_)))))))))
 obtain ⟨z7A,zsG,h⟩:=yZ h
 refine WC.y1l (fun (z8u : Int)=>(z7A z8u = some r)) (fun (z8u : Int)=>[(5,(.int .i64 z8u))]) (fun (z8u : Int)=>[]) ?_ ?_
 ·skip
  refine WC.b (WC.a (WL.pu rfl ?_))
  refine WL.a (d:=9) rfl rfl rfl (yv rfl) ?_
  refine WL.a (d:=10) rfl rfl rfl (ya y5o rfl rfl) ?_
  refine WL.a (d:=11) rfl rfl rfl (yb zgA rfl (y21 hz.pv zsD rfl)) ?_
  refine WL.a (d:=12) rfl rfl rfl (yW Try.underlying141 rfl) ?_
  refine WL.pu rfl (WL.nil (WX.a (WC.block ?_)))
  refine WC.y26 (fun (zbq : Nat) (z3F : Int) (z28 : Int)=>(y2b z1C z5s z7A zbq z3F z28 = some r)) (fun (zbq : Nat) (z3F : Int) (z28 : Int)=>[(1,(.func (.func z6x) #[] (z8v).toArray)),(5,(.int .i64 z3F)),(11,(.slice zfD z1C.fFrames.length zfE)),(12,(.int .i64 ((z1C.fFrames.length : Nat) : Int))),(13,(.int .i64 z28))]) (fun (zbq : Nat) (z3F : Int) (z28 : Int)=>[]) (fun (zbq : Nat) (z3F : Int) (z28 : Int)=>zbq) ⟨yt,0,0⟩ h (.cons rfl (.cons rfl (.cons rfl (.cons rfl (.cons rfl .nil))))) .nil ?_
  rintro zbq z3F z28 h
  obtain ⟨zir,rfl⟩:=y5x h
  rw [y2b] at h
  refine WC.b (WC.a (WL.pu rfl (WL.nil (WX.a (WC.b ?_)))))
  refine WC.cond rfl (fun zit=>?_) (fun zit=>?_)
  ·replace h:=yl h zit
   refine WC.skip (WX.a ?_)
   obtain ⟨zfB,zsH,h⟩:=yZ h
   refine WC.y1l (fun (z7B : Int)=>(zfB z7B = some r)) (fun (z7B : Int)=>[(1,(.func (.func z6x) #[] (z8v).toArray)),(5,(.int .i64 z7B)),(11,(.slice zfD z1C.fFrames.length zfE)),(12,(.int .i64 ((z1C.fFrames.length : Nat) : Int))),(13,(.int .i64 z28))]) (fun (z7B : Int)=>[]) ?_ ?_
   ·skip
    refine WC.block (WC.b ?_)
    obtain ⟨zsI,h⟩:=yj h
    refine WC.a ?_
    refine WL.znth (dd:=15) rfl rfl (Z:=Z) (Pr:=(fun r x=>r = y20 x)) z6W rfl rfl zsC zsI ?_
    rintro zye zyf zsJ zyg rfl
    refine WL.a (d:=16) rfl rfl rfl (yN zah rfl (y3u hz.pv zsJ) rfl) ?_
    refine WL.new (dd:=7) rfl rfl rfl (y2d (cs:=[(.int .i64 0),(.int .i64 0)]) zgB rfl) ?_
    intro zyh _
    refine WL.y1u rfl rfl (y1K zgC rfl rfl rfl .here rfl rfl rfl) ?_
    refine WL.nil (WX.a (WC.b ?_))
    obtain ⟨zis,zsK,h⟩:=zn h
    refine WC.a (WL.pu rfl ?_)
    refine WL.a (d:=18) rfl rfl rfl (yN zah rfl (y1x .here) rfl) ?_
    refine WL.b (dd:=19) rfl rfl rfl (y3L (l:=[.tmp 18]) (f:=z6x) (caps:=z8v) zsE rfl (.cons rfl .nil)) .nil (fun w hw=>zsF w (hz.now hw) (⟨((nth z1C.fFrames z28).fSize),((nth z1C.fFrames z28).fFin)⟩ : Sport_frame) zis  zsK) ?_
    refine WL.nil (WX.a ?_)
    refine WC.cond rfl (fun ziu=>?_) (fun ziu=>?_)
    ·replace h:=yl h ziu
     refine WC.a (WL.pu rfl ?_)
     refine WL.a (d:=21) rfl rfl rfl (ya fo_146_0 rfl rfl) ?_
     refine WL.a (d:=22) rfl rfl rfl (yb yg rfl (yc .here rfl)) ?_
     refine WL.pu rfl (WL.pu rfl (WL.nil (WX.yh ?_)))
     exact WX.mid (G:=Int) (i64 (z3F + ((nth z1C.fFrames z28).fSize))) h (.cons rfl (.cons rfl (.cons rfl (.cons rfl (.cons rfl .nil))))) .nil
    ·replace h:=ym h ziu
     refine WC.skip (WX.yh ?_)
     exact WX.mid (G:=Int) z3F h (.cons rfl (.cons rfl (.cons rfl (.cons rfl (.cons rfl .nil))))) .nil
   ·rintro z7B h
    replace h:=(zsH z7B).symm.trans h
    refine WC.a (WL.pu rfl (WL.pu rfl (WL.nil ?_)))
    exact WX.round (G:=Nat × Int × Int) ⟨zir,z7B,(i64 (z28 + 1))⟩ h (Nat.lt_succ_self _) (.cons rfl (.cons rfl (.cons rfl (.cons rfl (.cons rfl .nil))))) .nil
  ·replace h:=ym h zit
   refine WC.exit (WX.yd (WX.yd (WX.yy ?_)))
   exact WX.mid (G:=Int) z3F h (.cons rfl .nil) .nil
 ·rintro z8u h
  replace h:=(zsG z8u).symm.trans h
  refine WC.b (WC.a (WL.pu rfl (WL.pu rfl (WL.nil (WX.a (WC.ret ?_))))))
  obtain rfl:=Option.some.inj h
  refine WX.yi Try.results64 (.tmp rfl .nil) (fun w hw=>?_)
  exact ⟨y12 rfl,hw.sub .nil⟩
def y3P (z46 : Sport_Port) (z8w : Int) : Option Int :=
 (y2H z46).bind fun znm=>if znm then some 0 else (y2R z46 (fun (y0 : Sport_frame)=>y2q y0 (max z8w z46.fNow))).bind fun znn=>some znn
set_option maxRecDepth 20000 in
theorem y7m (Z : Zp) (zfF : Addr) (zno : Option Addr) (znp : Nat) (z46 : Sport_Port) (z8w : Int) (r : Int)
  (h : y3P z46 z8w = some r) (w₀ : World) (hz : PZ [] w₀ Z)
  (znq : ZS Z 2 (fun r x=>r = y20 x) zno znp z46.fFrames)
  (ziv : ZC Z zfF [(.int .i64 z46.fNumbers.fSlow),(.int .i64 z46.fNumbers.fDelay),(.int .i64 z46.fNumbers.fStore),(.int .i64 z46.fNow),(.int .i64 z46.fLast),(.slice zno z46.fFrames.length znp)]) :
  Calls Try.prog 56 #[(.pointer (some zfF)),(.int .i64 z8w)] w₀ fun e w'=>e = .returned (.int .i64 r) ∧ Hp [] w₀ w' []:=by
 unfold y3P at h
 refine Calls.yo (vs:=[(.pointer (some zfF)),(.int .i64 z8w)]) (pre:=[]) (env:=[(0,(.pointer (some zfF))),(1,(.int .i64 z8w))]) Try.func56 rfl Try.ntmps56 rfl (Hp.nil w₀ _) rfl ?_
 refine WC.b (WC.a ?_)
 refine WL.new (dd:=3) rfl rfl rfl (y2h (cs:=[(.int .i64 z8w)]) rfl rfl) ?_
 intro zsL _
 refine WL.pu rfl (WL.nil (WX.a (WC.b (WC.b ?_))))
 obtain ⟨znm,zsM,h⟩:=zn h
 refine WC.a (WL.pu rfl ?_)
 refine WL.b (dd:=6) rfl rfl rfl (zF (l:=[.tmp 5]) Try.call53 (.cons rfl .nil)) .nil (cc hz .nil fun w pz ho=>y5q _ _ _ _ _ _ zsM w pz znq ziv) ?_
 refine WL.nil (WX.a ?_)
 refine WC.cond rfl (fun ziw=>?_) (fun ziw=>?_)
 ·replace h:=yl h ziw
  refine WC.b (WC.a (WL.pu rfl (WL.nil (WX.a (WC.ret (WX.yf ?_))))))
  obtain rfl:=Option.some.inj h
  refine WX.yi Try.results56 (.tmp rfl .nil) (fun w hw=>?_)
  exact ⟨y12 rfl,hw.sub .nil⟩
 ·replace h:=ym h ziw
  refine WC.skip (WX.a (WC.b ?_))
  refine WC.yY (fun i=>[6].contains i) [] rfl ?_
  refine WD.e (i:=0) (d:=7) (by kernel_rfl) rfl (z2 (by kernel_rfl)) (z3 (by kernel_rfl)) rfl rfl rfl (yb yg rfl (yc .here rfl)) ?_
  refine WD.a (i:=1) (d:=8) (by kernel_rfl) rfl (z2 (by kernel_rfl)) (z3 (by kernel_rfl)) rfl rfl rfl (fun _=>q_m rfl) ?_
  refine WD.a (i:=2) (d:=9) (by kernel_rfl) rfl (z2 (by kernel_rfl)) (z3 (by kernel_rfl)) rfl rfl rfl (fun _=>yv rfl) ?_
  refine WD.a (i:=3) (d:=10) (by kernel_rfl) rfl (z2 (by kernel_rfl)) (z3 (by kernel_rfl)) rfl rfl rfl (fun _=>ya y7j rfl rfl) ?_
  refine WD.e (i:=4) (d:=11) (by kernel_rfl) rfl (z2 (by kernel_rfl)) (z3 (by kernel_rfl)) rfl rfl rfl (yb yg rfl (y21 hz.pv ziv rfl)) ?_
  refine WD.a (i:=5) (d:=12) (by kernel_rfl) rfl (z2 (by kernel_rfl)) (z3 (by kernel_rfl)) rfl rfl rfl (fun _=>q_max rfl rfl rfl) ?_
  refine WD.y2D (i:=6) rfl (by kernel_rfl) rfl rfl rfl (by kernel_rfl) (y1K y8U rfl rfl rfl .here rfl rfl rfl) ?_
  refine WD.done (by kernel_rfl) ?_
  refine WX.a (WC.b ?_)
  obtain ⟨znn,zsN,h⟩:=zn h
  refine WC.a (WL.pu rfl ?_)
  refine WL.a (d:=14) rfl rfl rfl (y6c (Eos.caps (l:=[.tmp 3]) (.cons rfl .nil))) ?_
  refine WL.b (dd:=15) rfl rfl rfl (zF (l:=[.tmp 13,.tmp 14]) Try.call64 (.cons rfl (.cons rfl .nil))) .nil (ccl hz .nil (.cons .here .nil) fun w pz ho la=>y7F _ _ _ _ (z6x:=65) (z8v:=[(.pointer (some ⟨zsL,0,none⟩))]) _ (z5s:=(fun (y0 : Sport_frame)=>y2q y0 (max z8w z46.fNow))) _ zsN w pz (znq.mono (Zle.left _ _)) (ziv.mono (Zle.left _ _)) Try.call65 (fun w' hz' y0  r  hr=>y6R _ _ _ _ _ hr w' hz' ((la _ (.head _) _).stb))) ?_
  refine WL.pu rfl (WL.nil (WX.a (WC.ret ?_)))
  obtain rfl:=Option.some.inj h
  refine WX.yi Try.results56 (.tmp rfl .nil) (fun w hw=>?_)
  exact ⟨y12 rfl,hw.sub .nil⟩
def y2z (zh : Sport_Port) (z14 : Int) (zM : Int) : Option (Int × Int × Sport_Port) :=
 (y2H zh).bind fun z8x=>if z8x then some (0,1,zh) else if (((decide (zM < 1)) || (decide (zM > 72))) || (decide (z14 < zh.fNow))) || (decide (z14 > 1073741824)) then some (0,2,zh) else (yV zh.fFrames (fun (y0 : Sport_frame)=>y2A y0 z14)).bind fun z6y=>(y3P (⟨zh.fNumbers,z14,zh.fLast,z6y⟩ : Sport_Port) z14).bind fun znr=>if decide ((i64 (znr + zM)) > zh.fNumbers.fStore) then some (0,4,(⟨zh.fNumbers,z14,zh.fLast,z6y⟩ : Sport_Port)) else chk ((((z6y ++ ([(⟨zM,i64 ((max (i64 (z14 + zh.fNumbers.fDelay)) zh.fLast) + (i64 (zM * zh.fNumbers.fSlow)))⟩ : Sport_frame)] : List Sport_frame)).length : Nat) : Int) * 16 ≤ 140737488355328 ∧ (((z6y ++ ([(⟨zM,i64 ((max (i64 (z14 + zh.fNumbers.fDelay)) zh.fLast) + (i64 (zM * zh.fNumbers.fSlow)))⟩ : Sport_frame)] : List Sport_frame)).length : Nat) : Int) ≤ 4611686018427387904) (some ((i64 ((max (i64 (z14 + zh.fNumbers.fDelay)) zh.fLast) + (i64 (zM * zh.fNumbers.fSlow)))),0,(⟨zh.fNumbers,z14,i64 ((max (i64 (z14 + zh.fNumbers.fDelay)) zh.fLast) + (i64 (zM * zh.fNumbers.fSlow))),z6y ++ ([(⟨zM,i64 ((max (i64 (z14 + zh.fNumbers.fDelay)) zh.fLast) + (i64 (zM * zh.fNumbers.fSlow)))⟩ : Sport_frame)] : List Sport_frame)⟩ : Sport_Port)))
set_option maxRecDepth 20000 in
theorem y7G (Z : Zp) (z3G : Nat) (z47 : Option Addr) (z48 : Nat) (zh : Sport_Port) (z14 : Int) (zM : Int) (r : Int × Int × Sport_Port)
  (h : y2z zh z14 zM = some r) (w₀ : World) (hz : PZ (fps [stb z3G 143 [(.int .i64 zh.fNumbers.fSlow),(.int .i64 zh.fNumbers.fDelay),(.int .i64 zh.fNumbers.fStore),(.int .i64 zh.fNow),(.int .i64 zh.fLast),(.slice z47 zh.fFrames.length z48)],row (.slice z47 zh.fFrames.length z48) 146 2 (zh.fFrames.flatMap y20)]) w₀ Z)
  (hown : Hp (fps [stb z3G 143 [(.int .i64 zh.fNumbers.fSlow),(.int .i64 zh.fNumbers.fDelay),(.int .i64 zh.fNumbers.fStore),(.int .i64 zh.fNow),(.int .i64 zh.fLast),(.slice z47 zh.fFrames.length z48)],row (.slice z47 zh.fFrames.length z48) 146 2 (zh.fFrames.flatMap y20)]) w₀ w₀ [stb z3G 143 [(.int .i64 zh.fNumbers.fSlow),(.int .i64 zh.fNumbers.fDelay),(.int .i64 zh.fNumbers.fStore),(.int .i64 zh.fNow),(.int .i64 zh.fLast),(.slice z47 zh.fFrames.length z48)],row (.slice z47 zh.fFrames.length z48) 146 2 (zh.fFrames.flatMap y20)]) :
  Calls Try.prog 41 #[(.pointer (some ⟨z3G,0,none⟩)),(.int .i64 z14),(.int .i64 zM)] w₀ fun e w'=>∃ zns : Option Addr,∃ znt : Nat,e = .returned (.tuple #[(.int .i64 r.1),(.int .i64 r.2.1)]) ∧ True ∧ Hp (fps [stb z3G 143 [(.int .i64 zh.fNumbers.fSlow),(.int .i64 zh.fNumbers.fDelay),(.int .i64 zh.fNumbers.fStore),(.int .i64 zh.fNow),(.int .i64 zh.fLast),(.slice z47 zh.fFrames.length z48)],row (.slice z47 zh.fFrames.length z48) 146 2 (zh.fFrames.flatMap y20)]) w₀ w' [stb z3G 143 [(.int .i64 r.2.2.fNumbers.fSlow),(.int .i64 r.2.2.fNumbers.fDelay),(.int .i64 r.2.2.fNumbers.fStore),(.int .i64 r.2.2.fNow),(.int .i64 r.2.2.fLast),(.slice zns r.2.2.fFrames.length znt)],row (.slice zns r.2.2.fFrames.length znt) 146 2 (r.2.2.fFrames.flatMap y20)]:=by
 unfold y2z at h
 refine Calls.yo (vs:=[(.pointer (some ⟨z3G,0,none⟩)),(.int .i64 z14),(.int .i64 zM)]) (pre:=[stb z3G 143 [(.int .i64 zh.fNumbers.fSlow),(.int .i64 zh.fNumbers.fDelay),(.int .i64 zh.fNumbers.fStore),(.int .i64 zh.fNow),(.int .i64 zh.fLast),(.slice z47 zh.fFrames.length z48)],row (.slice z47 zh.fFrames.length z48) 146 2 (zh.fFrames.flatMap y20)]) (env:=[(0,(.pointer (some ⟨z3G,0,none⟩))),(1,(.int .i64 z14)),(2,(.int .i64 zM))]) Try.func41 rfl Try.ntmps41 rfl (hown) rfl ?_
 refine WC.b (WC.a ?_)
 refine WL.new (dd:=4) rfl rfl rfl (y2h (cs:=[(.int .i64 z14)]) rfl rfl) ?_
 intro zfG _
 refine WL.pu rfl (WL.pu rfl (WL.nil (WX.a (WC.b (WC.block (WC.b ?_))))))
 obtain ⟨z8x,zsO,h⟩:=zn h
 refine WC.a (WL.pu rfl ?_)
 refine WL.b (dd:=10) rfl rfl rfl (zF (l:=[.tmp 9]) Try.call53 (.cons rfl .nil)) .nil (ccl hz .nil (.cons .h1 (.cons .h1 .nil)) fun w pz ho la=>y5q _ _ _ _ _ _ zsO w pz (ZA.row (la _ (.tail _ (.head _)) _) (RR.y1q (enc:=y20) (fun _=>rfl) _) ⟨w,pz.1⟩) ((la _ (.head _) _).stb)) ?_
 refine WL.pu rfl (WL.nil (WX.a ?_))
 refine WC.cond rfl (fun zix=>?_) (fun zix=>?_)
 ·replace h:=yl h zix
  refine WC.b (WC.a (WL.pu rfl (WL.pu rfl (WL.nil (WX.a (WC.ret (WX.yz (WX.yf ?_))))))))
  obtain rfl:=Option.some.inj h
  refine WX.yi Try.results41 (.tmp rfl (.tmp rfl .nil)) (fun w hw=>?_)
  exact ⟨z47,z48,ret2 rfl rfl,trivial,hw.sub (.cons .h1 (.cons .h1 .nil))⟩
 ·replace h:=ym h zix
  refine WC.b ?_
  refine WC.yY (fun i=>[].contains i) [] rfl ?_
  refine WD.a (i:=0) (d:=12) (by kernel_rfl) rfl (z2 (by kernel_rfl)) (z3 (by kernel_rfl)) rfl rfl rfl (fun _=>q_m rfl) ?_
  refine WD.a (i:=1) (d:=13) (by kernel_rfl) rfl (z2 (by kernel_rfl)) (z3 (by kernel_rfl)) rfl rfl rfl (fun _=>y3i rfl rfl) ?_
  refine WD.a (i:=2) (d:=14) (by kernel_rfl) rfl (z2 (by kernel_rfl)) (z3 (by kernel_rfl)) rfl rfl rfl (fun _=>q_m rfl) ?_
  refine WD.mid (fuel':=13) [(0,(.pointer (some ⟨z3G,0,none⟩))),(1,(.int .i64 z14)),(2,(.int .i64 zM)),(4,(.pointer (some ⟨zfG,0,none⟩))),(6,(.int .i64 0)),(7,(.int .i64 0)),(9,(.pointer (some ⟨z3G,0,none⟩))),(10,(.bool z8x)),(8,(.bool z8x)),(12,(.int .i64 zM)),(13,(.bool (decide (zM < 1)))),(14,(.bool (decide (zM < 1)))),(17,(.bool ((decide (zM < 1)) || (decide (zM > 72)))))] (y1C 19 [5,4,3,2,1,0]) ?_ (fun znu=>?_)
  rotate_left
  ·rcases Bool.eq_false_or_eq_true (decide (zM < 1)) with hb' | hb'
   ·have ziy:=hb'; clear hb'
    refine WD.pin (i:=14) rfl ziy ?_
    refine WD.b (i:=3) (d:=15) (by kernel_rfl) rfl (z2 (by kernel_rfl)) (z3 (by kernel_rfl)) rfl rfl rfl ?_
    refine WD.b (i:=4) (d:=16) (by kernel_rfl) rfl (z2 (by kernel_rfl)) (z3 (by kernel_rfl)) rfl rfl rfl ?_
    refine WD.a (i:=5) (d:=17) (by kernel_rfl) rfl (z2 (by kernel_rfl)) (z3 (by kernel_rfl)) rfl rfl rfl (fun _=>y1o rfl rfl) ?_
    refine WD.yO (.cons .here (.cons .here (.cons .here .nil))) ?_ znu
    exact (.cons rfl (.cons rfl (.cons rfl (.cons rfl (.cons rfl (.cons rfl (.cons rfl (.cons rfl (.cons rfl (.cons rfl (.cons rfl (.cons (zm (Eq.symm ziy)) (.cons (zm (y24 ziy)) .nil)))))))))))))
   ·have ziz:=hb'; clear hb'
    refine WD.pin (i:=14) rfl ziz ?_
    refine WD.a (i:=3) (d:=15) (by kernel_rfl) rfl (z2 (by kernel_rfl)) (z3 (by kernel_rfl)) rfl rfl rfl (fun _=>q_m rfl) ?_
    refine WD.a (i:=4) (d:=16) (by kernel_rfl) rfl (z2 (by kernel_rfl)) (z3 (by kernel_rfl)) rfl rfl rfl (fun _=>y3M rfl rfl) ?_
    refine WD.a (i:=5) (d:=17) (by kernel_rfl) rfl (z2 (by kernel_rfl)) (z3 (by kernel_rfl)) rfl rfl rfl (fun _=>y1p rfl rfl) ?_
    refine WD.yO (.cons .here (.cons .here (.cons .here .nil))) ?_ znu
    exact (.cons rfl (.cons rfl (.cons rfl (.cons rfl (.cons rfl (.cons rfl (.cons rfl (.cons rfl (.cons rfl (.cons rfl (.cons rfl (.cons (zm (Eq.symm ziz)) (.cons (zm (y25 ziz)) .nil)))))))))))))
  refine WD.a (i:=6) (d:=18) (by kernel_rfl) rfl (z2 (by kernel_rfl)) (z3 (by kernel_rfl)) rfl rfl rfl (fun _=>q_m rfl) ?_
  refine WD.mid (fuel':=5) [(0,(.pointer (some ⟨z3G,0,none⟩))),(1,(.int .i64 z14)),(2,(.int .i64 zM)),(4,(.pointer (some ⟨zfG,0,none⟩))),(6,(.int .i64 0)),(7,(.int .i64 0)),(9,(.pointer (some ⟨z3G,0,none⟩))),(10,(.bool z8x)),(8,(.bool z8x)),(12,(.int .i64 zM)),(13,(.bool (decide (zM < 1)))),(14,(.bool (decide (zM < 1)))),(17,(.bool ((decide (zM < 1)) || (decide (zM > 72))))),(18,(.bool ((decide (zM < 1)) || (decide (zM > 72))))),(25,(.bool (((decide (zM < 1)) || (decide (zM > 72))) || (decide (z14 < zh.fNow)))))] (y1C 19 [13,12,11,10,9,8,7,6,5,4,3,2,1,0]) ?_ (fun znv=>?_)
  rotate_left
  ·rcases Bool.eq_false_or_eq_true ((decide (zM < 1)) || (decide (zM > 72))) with hb' | hb'
   ·have ziA:=hb'; clear hb'
    refine WD.pin (i:=18) rfl ziA ?_
    refine WD.b (i:=7) (d:=19) (by kernel_rfl) rfl (z2 (by kernel_rfl)) (z3 (by kernel_rfl)) rfl rfl rfl ?_
    refine WD.b (i:=8) (d:=20) (by kernel_rfl) rfl (z2 (by kernel_rfl)) (z3 (by kernel_rfl)) rfl rfl rfl ?_
    refine WD.b (i:=9) (d:=21) (by kernel_rfl) rfl (z2 (by kernel_rfl)) (z3 (by kernel_rfl)) rfl rfl rfl ?_
    refine WD.b (i:=10) (d:=22) (by kernel_rfl) rfl (z2 (by kernel_rfl)) (z3 (by kernel_rfl)) rfl rfl rfl ?_
    refine WD.b (i:=11) (d:=23) (by kernel_rfl) rfl (z2 (by kernel_rfl)) (z3 (by kernel_rfl)) rfl rfl rfl ?_
    refine WD.b (i:=12) (d:=24) (by kernel_rfl) rfl (z2 (by kernel_rfl)) (z3 (by kernel_rfl)) rfl rfl rfl ?_
    refine WD.a (i:=13) (d:=25) (by kernel_rfl) rfl (z2 (by kernel_rfl)) (z3 (by kernel_rfl)) rfl rfl rfl (fun _=>y1o rfl rfl) ?_
    refine WD.yO (.cons .here (.cons .here (.cons .here .nil))) ?_ znv
    exact (.cons rfl (.cons rfl (.cons rfl (.cons rfl (.cons rfl (.cons rfl (.cons rfl (.cons rfl (.cons rfl (.cons rfl (.cons rfl (.cons rfl (.cons rfl (.cons (zm (Eq.symm ziA)) (.cons (zm (y24 ziA)) .nil)))))))))))))))
   ·have ziB:=hb'; clear hb'
    refine WD.pin (i:=18) rfl ziB ?_
    refine WD.e (i:=7) (d:=19) (by kernel_rfl) rfl (z2 (by kernel_rfl)) (z3 (by kernel_rfl)) rfl rfl rfl (yb yg rfl (yc .here rfl)) ?_
    refine WD.a (i:=8) (d:=20) (by kernel_rfl) rfl (z2 (by kernel_rfl)) (z3 (by kernel_rfl)) rfl rfl rfl (fun _=>q_m rfl) ?_
    refine WD.a (i:=9) (d:=21) (by kernel_rfl) rfl (z2 (by kernel_rfl)) (z3 (by kernel_rfl)) rfl rfl rfl (fun _=>yv rfl) ?_
    refine WD.a (i:=10) (d:=22) (by kernel_rfl) rfl (z2 (by kernel_rfl)) (z3 (by kernel_rfl)) rfl rfl rfl (fun _=>ya y7j rfl rfl) ?_
    refine WD.e (i:=11) (d:=23) (by kernel_rfl) rfl (z2 (by kernel_rfl)) (z3 (by kernel_rfl)) rfl rfl rfl (yb yg rfl (yc .h1 rfl)) ?_
    refine WD.a (i:=12) (d:=24) (by kernel_rfl) rfl (z2 (by kernel_rfl)) (z3 (by kernel_rfl)) rfl rfl rfl (fun _=>y3i rfl rfl) ?_
    refine WD.a (i:=13) (d:=25) (by kernel_rfl) rfl (z2 (by kernel_rfl)) (z3 (by kernel_rfl)) rfl rfl rfl (fun _=>y1p rfl rfl) ?_
    refine WD.yO (.cons .here (.cons .here (.cons .here .nil))) ?_ znv
    exact (.cons rfl (.cons rfl (.cons rfl (.cons rfl (.cons rfl (.cons rfl (.cons rfl (.cons rfl (.cons rfl (.cons rfl (.cons rfl (.cons rfl (.cons rfl (.cons (zm (Eq.symm ziB)) (.cons (zm (y25 ziB)) .nil)))))))))))))))
  refine WD.a (i:=14) (d:=26) (by kernel_rfl) rfl (z2 (by kernel_rfl)) (z3 (by kernel_rfl)) rfl rfl rfl (fun _=>q_m rfl) ?_
  refine WD.mid (fuel':=1) [(0,(.pointer (some ⟨z3G,0,none⟩))),(1,(.int .i64 z14)),(2,(.int .i64 zM)),(4,(.pointer (some ⟨zfG,0,none⟩))),(6,(.int .i64 0)),(7,(.int .i64 0)),(9,(.pointer (some ⟨z3G,0,none⟩))),(10,(.bool z8x)),(8,(.bool z8x)),(12,(.int .i64 zM)),(13,(.bool (decide (zM < 1)))),(14,(.bool (decide (zM < 1)))),(17,(.bool ((decide (zM < 1)) || (decide (zM > 72))))),(18,(.bool ((decide (zM < 1)) || (decide (zM > 72))))),(25,(.bool (((decide (zM < 1)) || (decide (zM > 72))) || (decide (z14 < zh.fNow))))),(26,(.bool (((decide (zM < 1)) || (decide (zM > 72))) || (decide (z14 < zh.fNow))))),(29,(.bool ((((decide (zM < 1)) || (decide (zM > 72))) || (decide (z14 < zh.fNow))) || (decide (z14 > 1073741824)))))] (y1C 19 [17,16,15,14,13,12,11,10,9,8,7,6,5,4,3,2,1,0]) ?_ (fun znw=>?_)
  rotate_left
  ·rcases Bool.eq_false_or_eq_true (((decide (zM < 1)) || (decide (zM > 72))) || (decide (z14 < zh.fNow))) with hb' | hb'
   ·have ziC:=hb'; clear hb'
    refine WD.pin (i:=26) rfl ziC ?_
    refine WD.b (i:=15) (d:=27) (by kernel_rfl) rfl (z2 (by kernel_rfl)) (z3 (by kernel_rfl)) rfl rfl rfl ?_
    refine WD.b (i:=16) (d:=28) (by kernel_rfl) rfl (z2 (by kernel_rfl)) (z3 (by kernel_rfl)) rfl rfl rfl ?_
    refine WD.a (i:=17) (d:=29) (by kernel_rfl) rfl (z2 (by kernel_rfl)) (z3 (by kernel_rfl)) rfl rfl rfl (fun _=>y1o rfl rfl) ?_
    refine WD.yO (.cons .here (.cons .here (.cons .here .nil))) ?_ znw
    exact (.cons rfl (.cons rfl (.cons rfl (.cons rfl (.cons rfl (.cons rfl (.cons rfl (.cons rfl (.cons rfl (.cons rfl (.cons rfl (.cons rfl (.cons rfl (.cons rfl (.cons rfl (.cons (zm (Eq.symm ziC)) (.cons (zm (y24 ziC)) .nil)))))))))))))))))
   ·have ziD:=hb'; clear hb'
    refine WD.pin (i:=26) rfl ziD ?_
    refine WD.e (i:=15) (d:=27) (by kernel_rfl) rfl (z2 (by kernel_rfl)) (z3 (by kernel_rfl)) rfl rfl rfl (yb yg rfl (yc .here rfl)) ?_
    refine WD.a (i:=16) (d:=28) (by kernel_rfl) rfl (z2 (by kernel_rfl)) (z3 (by kernel_rfl)) rfl rfl rfl (fun _=>y3M rfl rfl) ?_
    refine WD.a (i:=17) (d:=29) (by kernel_rfl) rfl (z2 (by kernel_rfl)) (z3 (by kernel_rfl)) rfl rfl rfl (fun _=>y1p rfl rfl) ?_
    refine WD.yO (.cons .here (.cons .here (.cons .here .nil))) ?_ znw
    exact (.cons rfl (.cons rfl (.cons rfl (.cons rfl (.cons rfl (.cons rfl (.cons rfl (.cons rfl (.cons rfl (.cons rfl (.cons rfl (.cons rfl (.cons rfl (.cons rfl (.cons rfl (.cons (zm (Eq.symm ziD)) (.cons (zm (y25 ziD)) .nil)))))))))))))))))
  refine WD.a (i:=18) (d:=11) (by kernel_rfl) rfl (z2 (by kernel_rfl)) (z3 (by kernel_rfl)) rfl rfl rfl (fun _=>q_z rfl) ?_
  refine WD.done (by kernel_rfl) ?_
  refine WX.a ?_
  refine WC.cond rfl (fun ziE=>?_) (fun ziE=>?_)
  ·replace h:=yl h ziE
   refine WC.b (WC.a (WL.pu rfl (WL.pu rfl (WL.nil (WX.a (WC.ret (WX.yz (WX.yf ?_))))))))
   obtain rfl:=Option.some.inj h
   refine WX.yi Try.results41 (.tmp rfl (.tmp rfl .nil)) (fun w hw=>?_)
   exact ⟨z47,z48,ret2 rfl rfl,trivial,hw.sub (.cons .h1 (.cons .h1 .nil))⟩
  ·replace h:=ym h ziE
   refine WC.skip (WX.yh (WX.a (WC.b (WC.a (WL.pu rfl ?_)))))
   refine WL.a (d:=31) rfl rfl rfl (yb yg rfl (yc .here rfl)) ?_
   refine WL.a (d:=32) rfl rfl rfl (yv rfl) ?_
   refine WL.a (d:=33) rfl rfl rfl (ya y7j rfl rfl) ?_
   refine WL.y1u rfl rfl (y4b (ds:=[(.int .i64 zh.fNumbers.fSlow),(.int .i64 zh.fNumbers.fDelay),(.int .i64 zh.fNumbers.fStore),(.int .i64 z14),(.int .i64 zh.fLast),(.slice z47 zh.fFrames.length z48)]) y8U rfl rfl rfl rfl rfl .h1 rfl rfl) ?_
   refine WL.nil (WX.a (WC.b ?_))
   obtain ⟨z6y,zsP,h⟩:=zn h
   refine WC.a (WL.pu rfl (WL.pu rfl ?_))
   refine WL.a (d:=36) rfl rfl rfl (yv rfl) ?_
   refine WL.a (d:=37) rfl rfl rfl (ya y5o rfl rfl) ?_
   refine WL.a (d:=38) rfl rfl rfl (yb zgA rfl (yc .here rfl)) ?_
   refine WL.a (d:=39) rfl rfl rfl (y6c (Eos.caps (l:=[.tmp 4]) (.cons rfl .nil))) ?_
   refine WL.y4w (dd:=40) rfl rfl rfl (zF (l:=[.tmp 38,.tmp 39]) Try.call54 (.cons rfl (.cons rfl .nil))) (.cons .h2 .nil) (ccl hz (.cons .h2 .nil) (.cons .h1 .nil) fun w pz ho la=>y3F _ _ _ (z5q:=55) (z7z:=[(.pointer (some ⟨zfG,0,none⟩))]) _ (z45:=(fun (y0 : Sport_frame)=>y2A y0 z14)) _ zsP w pz Try.call55 (fun w' hz' y0  r  hr=>y78 _ _ _ _ _ hr w' hz' ((la _ (.head _) _).stb)) ho) ?_
   rintro ziF ziG _
   refine WL.a (d:=41) rfl rfl rfl (yv rfl) ?_
   refine WL.a (d:=42) rfl rfl rfl (ya y5o rfl rfl) ?_
   refine WL.y1u rfl rfl (y4b (ds:=[(.int .i64 zh.fNumbers.fSlow),(.int .i64 zh.fNumbers.fDelay),(.int .i64 zh.fNumbers.fStore),(.int .i64 z14),(.int .i64 zh.fLast),(.slice ziF z6y.length ziG)]) zkH rfl rfl rfl rfl rfl .h1 rfl rfl) ?_
   refine WL.nil (WX.a (WC.b (WC.b ?_)))
   obtain ⟨znr,zsQ,h⟩:=zn h
   refine WC.yY (fun i=>[].contains i) [] rfl ?_
   refine WD.a (i:=0) (d:=43) (by kernel_rfl) rfl (z2 (by kernel_rfl)) (z3 (by kernel_rfl)) rfl rfl rfl (fun _=>q_m rfl) ?_
   refine WD.e (i:=1) (d:=44) (by kernel_rfl) rfl (z2 (by kernel_rfl)) (z3 (by kernel_rfl)) rfl rfl rfl (yb yg rfl (yc .h2 rfl)) ?_
   refine WD.c (i:=2) (d:=45) (by kernel_rfl) rfl (z2 (by kernel_rfl)) (z3 (by kernel_rfl)) rfl rfl rfl (zF (l:=[.tmp 43,.tmp 44]) Try.call56 (.cons rfl (.cons rfl .nil))) (ccl hz .nil (.cons .here (.cons .here .nil)) fun w pz ho la=>y7m _ _ _ _ _ _ _ zsQ w pz (ZA.row (la _ (.tail _ (.head _)) _) (RR.y1q (enc:=y20) (fun _=>rfl) _) ⟨w,pz.1⟩) ((la _ (.head _) _).stb)) ?_
   refine WD.a (i:=3) (d:=46) (by kernel_rfl) rfl (z2 (by kernel_rfl)) (z3 (by kernel_rfl)) rfl rfl rfl (fun _=>q_m rfl) ?_
   refine WD.a (i:=4) (d:=47) (by kernel_rfl) rfl (z2 (by kernel_rfl)) (z3 (by kernel_rfl)) rfl rfl rfl (fun _=>y4s rfl rfl rfl) ?_
   refine WD.a (i:=5) (d:=48) (by kernel_rfl) rfl (z2 (by kernel_rfl)) (z3 (by kernel_rfl)) rfl rfl rfl (fun _=>q_m rfl) ?_
   refine WD.a (i:=6) (d:=49) (by kernel_rfl) rfl (z2 (by kernel_rfl)) (z3 (by kernel_rfl)) rfl rfl rfl (fun _=>yv rfl) ?_
   refine WD.a (i:=7) (d:=50) (by kernel_rfl) rfl (z2 (by kernel_rfl)) (z3 (by kernel_rfl)) rfl rfl rfl (fun _=>ya y6l rfl rfl) ?_
   refine WD.a (i:=8) (d:=51) (by kernel_rfl) rfl (z2 (by kernel_rfl)) (z3 (by kernel_rfl)) rfl rfl rfl (fun _=>ya fo_140_2 rfl rfl) ?_
   refine WD.e (i:=9) (d:=52) (by kernel_rfl) rfl (z2 (by kernel_rfl)) (z3 (by kernel_rfl)) rfl rfl rfl (yb yg rfl (yc .here rfl)) ?_
   refine WD.a (i:=10) (d:=53) (by kernel_rfl) rfl (z2 (by kernel_rfl)) (z3 (by kernel_rfl)) rfl rfl rfl (fun _=>y3M rfl rfl) ?_
   refine WD.done (by kernel_rfl) ?_
   refine WX.a ?_
   refine WC.cond rfl (fun ziH=>?_) (fun ziH=>?_)
   ·replace h:=yl h ziH
    refine WC.b (WC.a (WL.pu rfl (WL.pu rfl (WL.nil (WX.a (WC.ret (WX.yf ?_)))))))
    obtain rfl:=Option.some.inj h
    refine WX.yi Try.results41 (.tmp rfl (.tmp rfl .nil)) (fun w hw=>?_)
    exact ⟨ziF,ziG,ret2 rfl rfl,trivial,hw.sub (.cons .here (.cons .here .nil))⟩
   ·replace h:=ym h ziH
    refine WC.skip (WX.a (WC.b ?_))
    refine WC.yY (fun i=>[23].contains i) [] rfl ?_
    refine WD.a (i:=0) (d:=54) (by kernel_rfl) rfl (z2 (by kernel_rfl)) (z3 (by kernel_rfl)) rfl rfl rfl (fun _=>q_m rfl) ?_
    refine WD.e (i:=1) (d:=55) (by kernel_rfl) rfl (z2 (by kernel_rfl)) (z3 (by kernel_rfl)) rfl rfl rfl (yb yg rfl (yc .h2 rfl)) ?_
    refine WD.a (i:=2) (d:=56) (by kernel_rfl) rfl (z2 (by kernel_rfl)) (z3 (by kernel_rfl)) rfl rfl rfl (fun _=>q_m rfl) ?_
    refine WD.a (i:=3) (d:=57) (by kernel_rfl) rfl (z2 (by kernel_rfl)) (z3 (by kernel_rfl)) rfl rfl rfl (fun _=>yv rfl) ?_
    refine WD.a (i:=4) (d:=58) (by kernel_rfl) rfl (z2 (by kernel_rfl)) (z3 (by kernel_rfl)) rfl rfl rfl (fun _=>ya y6l rfl rfl) ?_
    refine WD.a (i:=5) (d:=59) (by kernel_rfl) rfl (z2 (by kernel_rfl)) (z3 (by kernel_rfl)) rfl rfl rfl (fun _=>ya fo_140_1 rfl rfl) ?_
    refine WD.e (i:=6) (d:=60) (by kernel_rfl) rfl (z2 (by kernel_rfl)) (z3 (by kernel_rfl)) rfl rfl rfl (yb yg rfl (yc .here rfl)) ?_
    refine WD.a (i:=7) (d:=61) (by kernel_rfl) rfl (z2 (by kernel_rfl)) (z3 (by kernel_rfl)) rfl rfl rfl (fun _=>y4s rfl rfl rfl) ?_
    refine WD.a (i:=8) (d:=62) (by kernel_rfl) rfl (z2 (by kernel_rfl)) (z3 (by kernel_rfl)) rfl rfl rfl (fun _=>q_m rfl) ?_
    refine WD.a (i:=9) (d:=63) (by kernel_rfl) rfl (z2 (by kernel_rfl)) (z3 (by kernel_rfl)) rfl rfl rfl (fun _=>yv rfl) ?_
    refine WD.a (i:=10) (d:=64) (by kernel_rfl) rfl (z2 (by kernel_rfl)) (z3 (by kernel_rfl)) rfl rfl rfl (fun _=>ya y6m rfl rfl) ?_
    refine WD.e (i:=11) (d:=65) (by kernel_rfl) rfl (z2 (by kernel_rfl)) (z3 (by kernel_rfl)) rfl rfl rfl (yb yg rfl (yc .here rfl)) ?_
    refine WD.a (i:=12) (d:=66) (by kernel_rfl) rfl (z2 (by kernel_rfl)) (z3 (by kernel_rfl)) rfl rfl rfl (fun _=>q_max rfl rfl rfl) ?_
    refine WD.a (i:=13) (d:=67) (by kernel_rfl) rfl (z2 (by kernel_rfl)) (z3 (by kernel_rfl)) rfl rfl rfl (fun _=>q_m rfl) ?_
    refine WD.a (i:=14) (d:=68) (by kernel_rfl) rfl (z2 (by kernel_rfl)) (z3 (by kernel_rfl)) rfl rfl rfl (fun _=>q_m rfl) ?_
    refine WD.a (i:=15) (d:=69) (by kernel_rfl) rfl (z2 (by kernel_rfl)) (z3 (by kernel_rfl)) rfl rfl rfl (fun _=>yv rfl) ?_
    refine WD.a (i:=16) (d:=70) (by kernel_rfl) rfl (z2 (by kernel_rfl)) (z3 (by kernel_rfl)) rfl rfl rfl (fun _=>ya y6l rfl rfl) ?_
    refine WD.a (i:=17) (d:=71) (by kernel_rfl) rfl (z2 (by kernel_rfl)) (z3 (by kernel_rfl)) rfl rfl rfl (fun _=>ya y8T rfl rfl) ?_
    refine WD.e (i:=18) (d:=72) (by kernel_rfl) rfl (z2 (by kernel_rfl)) (z3 (by kernel_rfl)) rfl rfl rfl (yb yg rfl (yc .here rfl)) ?_
    refine WD.a (i:=19) (d:=73) (by kernel_rfl) rfl (z2 (by kernel_rfl)) (z3 (by kernel_rfl)) rfl rfl rfl (fun _=>q_mul rfl rfl rfl) ?_
    refine WD.a (i:=20) (d:=74) (by kernel_rfl) rfl (z2 (by kernel_rfl)) (z3 (by kernel_rfl)) rfl rfl rfl (fun _=>y4s rfl rfl rfl) ?_
    refine WD.a (i:=21) (d:=75) (by kernel_rfl) rfl (z2 (by kernel_rfl)) (z3 (by kernel_rfl)) rfl rfl rfl (fun _=>yv rfl) ?_
    refine WD.a (i:=22) (d:=76) (by kernel_rfl) rfl (z2 (by kernel_rfl)) (z3 (by kernel_rfl)) rfl rfl rfl (fun _=>ya y6m rfl rfl) ?_
    refine WD.y2D (i:=23) rfl (by kernel_rfl) rfl rfl rfl (by kernel_rfl) (y4b (ds:=[(.int .i64 zh.fNumbers.fSlow),(.int .i64 zh.fNumbers.fDelay),(.int .i64 zh.fNumbers.fStore),(.int .i64 z14),(.int .i64 (i64 ((max (i64 (z14 + zh.fNumbers.fDelay)) zh.fLast) + (i64 (zM * zh.fNumbers.fSlow))))),(.slice ziF z6y.length ziG)]) y8U rfl rfl rfl rfl rfl .here rfl rfl) ?_
    refine WD.done (by kernel_rfl) ?_
    refine WX.a (WC.b ?_)
    obtain ⟨zsR,h⟩:=yj h
    refine WC.yY (fun i=>[12,15].contains i) [] rfl ?_
    refine WD.a (i:=0) (d:=77) (by kernel_rfl) rfl (z2 (by kernel_rfl)) (z3 (by kernel_rfl)) rfl rfl rfl (fun _=>q_m rfl) ?_
    refine WD.a (i:=1) (d:=78) (by kernel_rfl) rfl (z2 (by kernel_rfl)) (z3 (by kernel_rfl)) rfl rfl rfl (fun _=>q_m rfl) ?_
    refine WD.a (i:=2) (d:=79) (by kernel_rfl) rfl (z2 (by kernel_rfl)) (z3 (by kernel_rfl)) rfl rfl rfl (fun _=>yv rfl) ?_
    refine WD.a (i:=3) (d:=80) (by kernel_rfl) rfl (z2 (by kernel_rfl)) (z3 (by kernel_rfl)) rfl rfl rfl (fun _=>ya y5o rfl rfl) ?_
    refine WD.e (i:=4) (d:=81) (by kernel_rfl) rfl (z2 (by kernel_rfl)) (z3 (by kernel_rfl)) rfl rfl rfl (yb zgA rfl (yc .here rfl)) ?_
    refine WD.a (i:=5) (d:=82) (by kernel_rfl) rfl (z2 (by kernel_rfl)) (z3 (by kernel_rfl)) rfl rfl rfl (fun _=>q_m rfl) ?_
    refine WD.a (i:=6) (d:=83) (by kernel_rfl) rfl (z2 (by kernel_rfl)) (z3 (by kernel_rfl)) rfl rfl rfl (fun _=>q_m rfl) ?_
    refine WD.a (i:=7) (d:=84) (by kernel_rfl) rfl (z2 (by kernel_rfl)) (z3 (by kernel_rfl)) rfl rfl rfl (fun _=>yv rfl) ?_
    refine WD.a (i:=8) (d:=85) (by kernel_rfl) rfl (z2 (by kernel_rfl)) (z3 (by kernel_rfl)) rfl rfl rfl (fun _=>ya y6m rfl rfl) ?_
    refine WD.e (i:=9) (d:=86) (by kernel_rfl) rfl (z2 (by kernel_rfl)) (z3 (by kernel_rfl)) rfl rfl rfl (yb yg rfl (yc .here rfl)) ?_
    refine WD.a (i:=10) (d:=87) (by kernel_rfl) rfl (z2 (by kernel_rfl)) (z3 (by kernel_rfl)) rfl rfl rfl (fun _=>y1j (v:=(.agg #[(.int .i64 zM),(.int .i64 (i64 ((max (i64 (z14 + zh.fNumbers.fDelay)) zh.fLast) + (i64 (zM * zh.fNumbers.fSlow)))))])) (Eos.parts (l:=[.tmp 82,.tmp 86]) (.cons rfl (.cons rfl .nil)) [0,1]) (fun _=>by kernel_rfl)) ?_
    refine WD.new (i:=11) (dd:=88) rfl (by kernel_rfl) rfl rfl rfl (y18 (cs:=([(⟨zM,i64 ((max (i64 (z14 + zh.fNumbers.fDelay)) zh.fLast) + (i64 (zM * zh.fNumbers.fSlow)))⟩ : Sport_frame)] : List Sport_frame).flatMap y20) z6W (Eos.parts (l:=[.tmp 87]) (.cons rfl .nil) [0]) (fun _=>by kernel_rfl) rfl (by unfold maxLen; omega)) (fun h'=>absurd h' (by decide)) ?_
    intro zyi _
    refine WD.old (i:=12) (dd:=89) rfl (by kernel_rfl) rfl rfl rfl rfl (fun _=>(Sin.of .nil)) (y4V (enc:=y20) (l1:=z6y) (l2:=([(⟨zM,i64 ((max (i64 (z14 + zh.fNumbers.fDelay)) zh.fLast) + (i64 (zM * zh.fNumbers.fSlow)))⟩ : Sport_frame)] : List Sport_frame)) z6W rfl rfl .h2 (fun _=>rfl) rfl rfl (y5k .here) (y58 y9s _) zsR) ?_
    rintro ⟨znx,zny⟩ _
    refine WD.a (i:=13) (d:=90) (by kernel_rfl) rfl (z2 (by kernel_rfl)) (z3 (by kernel_rfl)) rfl rfl rfl (fun _=>yv rfl) ?_
    refine WD.a (i:=14) (d:=91) (by kernel_rfl) rfl (z2 (by kernel_rfl)) (z3 (by kernel_rfl)) rfl rfl rfl (fun _=>ya y5o rfl rfl) ?_
    refine WD.y2D (i:=15) rfl (by kernel_rfl) rfl rfl rfl (by kernel_rfl) (y4b (ds:=[(.int .i64 zh.fNumbers.fSlow),(.int .i64 zh.fNumbers.fDelay),(.int .i64 zh.fNumbers.fStore),(.int .i64 z14),(.int .i64 (i64 ((max (i64 (z14 + zh.fNumbers.fDelay)) zh.fLast) + (i64 (zM * zh.fNumbers.fSlow))))),(.slice znx ((z6y ++ ([(⟨zM,i64 ((max (i64 (z14 + zh.fNumbers.fDelay)) zh.fLast) + (i64 (zM * zh.fNumbers.fSlow)))⟩ : Sport_frame)] : List Sport_frame)).length) zny)]) zkH rfl rfl rfl rfl rfl .h2 rfl rfl) ?_
    refine WD.done (by kernel_rfl) ?_
    refine WX.a (WC.b (WC.a (WL.pu rfl ?_)))
    refine WL.a (d:=93) rfl rfl rfl (yv rfl) ?_
    refine WL.a (d:=94) rfl rfl rfl (ya y6m rfl rfl) ?_
    refine WL.a (d:=95) rfl rfl rfl (yb yg rfl (yc .here rfl)) ?_
    refine WL.pu rfl (WL.pu rfl (WL.nil (WX.a (WC.ret ?_))))
    obtain rfl:=Option.some.inj h
    refine WX.yi Try.results41 (.tmp rfl (.tmp rfl .nil)) (fun w hw=>?_)
    exact ⟨znx,zny,ret2 rfl rfl,trivial,hw.sub (.cons .here (.cons .here .nil))⟩
def y2N (zo : Sapi_Config) (z3s : List (List Sapi_Hop)) (z2v : List zSt) (zfH : List (Snetwork_exit × Sport_Port)) (z2H : List Snetwork_event) (z1g : List Sapi_Come) (z1c : List Sapi_Come) : Option (List Snetwork_event × List Sapi_Come × List Sapi_Come × (List (Snetwork_exit × Sport_Port))) :=
 (y2p z2H).bind fun z8=>(y3f zo z3s z2v zfH z8.2 z1g z1c z8.1.fHop).bind fun z2w=>chk ((0 : Int) ≤ z8.1.fSent ∧ z8.1.fSent < ((z2v.length : Nat) : Int)) (chk (y28 z2w (⟨z8.1.fHop.fNode,z8.1.fHop.fLink⟩ : Snetwork_exit) = true) ((y2z (⟨(⟨(((yk z2w (⟨z8.1.fHop.fNode,z8.1.fHop.fLink⟩ : Snetwork_exit) default).fNumbers).fSlow),(((yk z2w (⟨z8.1.fHop.fNode,z8.1.fHop.fLink⟩ : Snetwork_exit) default).fNumbers).fDelay),(((yk z2w (⟨z8.1.fHop.fNode,z8.1.fHop.fLink⟩ : Snetwork_exit) default).fNumbers).fStore)⟩ : Sport_numbers),((yk z2w (⟨z8.1.fHop.fNode,z8.1.fHop.fLink⟩ : Snetwork_exit) default).fNow),((yk z2w (⟨z8.1.fHop.fNode,z8.1.fHop.fLink⟩ : Snetwork_exit) default).fLast),((yk z2w (⟨z8.1.fHop.fNode,z8.1.fHop.fLink⟩ : Snetwork_exit) default).fFrames)⟩ : Sport_Port) z8.1.fTime ((nth z2v z8.1.fSent).fSize)).bind fun z22=>if decide (z22.2.1 ≠ 0) then chk ((((z1c ++ ([(⟨z8.1.fSent,z8.1.fHop.fNode,z8.1.fTime⟩ : Sapi_Come)] : List Sapi_Come)).length : Nat) : Int) * 24 ≤ 140737488355328 ∧ (((z1c ++ ([(⟨z8.1.fSent,z8.1.fHop.fNode,z8.1.fTime⟩ : Sapi_Come)] : List Sapi_Come)).length : Nat) : Int) ≤ 4611686018427387904) (some (z8.2,z1g,(z1c ++ ([(⟨z8.1.fSent,z8.1.fHop.fNode,z8.1.fTime⟩ : Sapi_Come)] : List Sapi_Come)),(yI z2w (⟨z8.1.fHop.fNode,z8.1.fHop.fLink⟩ : Snetwork_exit) z22.2.2))) else jp1 (fun (z5t : List Sapi_Come)=>(y2l zo z3s z2v (yI z2w (⟨z8.1.fHop.fNode,z8.1.fHop.fLink⟩ : Snetwork_exit) z22.2.2) z8.2 z5t z1c z8.1.fHop.fNext z22.1 z8.1.fHop.fLink z8.1.fSent).bind fun znz=>some (znz,z5t,z1c,(yI z2w (⟨z8.1.fHop.fNode,z8.1.fHop.fLink⟩ : Snetwork_exit) z22.2.2))) fun zfI=>if decide (z8.1.fHop.fNext < ((zo.fModules.length : Nat) : Int)) then chk ((((z1g ++ ([(⟨z8.1.fSent,z8.1.fHop.fNext,z22.1⟩ : Sapi_Come)] : List Sapi_Come)).length : Nat) : Int) * 24 ≤ 140737488355328 ∧ (((z1g ++ ([(⟨z8.1.fSent,z8.1.fHop.fNext,z22.1⟩ : Sapi_Come)] : List Sapi_Come)).length : Nat) : Int) ≤ 4611686018427387904) (zfI (z1g ++ ([(⟨z8.1.fSent,z8.1.fHop.fNext,z22.1⟩ : Sapi_Come)] : List Sapi_Come))) else zfI z1g))
set_option maxRecDepth 20000 in
theorem y6S (Z : Zp) (z3W : Nat) (z4M : Option Addr) (z4N : Nat) (z4O : Option Addr) (z4P : Nat) (z4Q : Option Addr) (z4R : Nat) (z4S : Option Addr) (z4T : Nat) (z4U : Option Addr) (z4V : Nat) (z4W : Option Addr) (z4X : Nat) (z4Y : Option Addr) (z4Z : Nat) (z50 : Option Addr) (z51 : Nat) (z52 : Option Addr) (z53 : Nat) (z49 : Option Addr) (z4a : Nat) (z2g : Nat) (z5u : List (Snetwork_exit × ((Nat × (Option Addr × Nat)) × Sport_Port))) (z6z : Option Addr) (z6A : Nat) (z3b : Option Addr) (z3c : Nat) (z2I : Option Addr) (z2J : Nat) (zo : Sapi_Config) (z3s : List (List Sapi_Hop)) (z2v : List zSt) (zfH : List (Snetwork_exit × Sport_Port)) (z2H : List Snetwork_event) (z1g : List Sapi_Come) (z1c : List Sapi_Come) (r : List Snetwork_event × List Sapi_Come × List Sapi_Come × (List (Snetwork_exit × Sport_Port)))
  (h : y2N zo z3s z2v zfH z2H z1g z1c = some r) (w₀ : World) (hz : PZ (fps [stb z3W 81 [(.slice z4M zo.fModules.length z4N),(.slice z4O zo.fChannels.length z4P),(.slice z4Q zo.fSwitches.length z4R),(.slice z4S zo.fLinks.length z4T),(.slice z4U zo.fVLs.length z4V),(.slice z4W zo.fHealth.length z4X),(.slice z4Y zo.fCauses.length z4Z),(.slice z50 zo.fVersions.length z51),(.slice z52 z3s.length z53),(.slice z49 z2v.length z4a),(.map (some z2g)),(.slice z6z z2H.length z6A),(.slice z3b z1g.length z3c),(.slice z2I z1c.length z2J)],yF z2g (fun x=>Value.agg (y1S x).toArray) Value.pointer (y1s z5u),y1r z19 z5u,row (.slice z6z z2H.length z6A) 113 7 (z2H.flatMap yA),row (.slice z3b z1g.length z3c) 50 3 (z1g.flatMap e50),row (.slice z2I z1c.length z2J) 50 3 (z1c.flatMap e50)]) w₀ Z)
  (znA : ZS Z 4 (y2w Z) z4M z4N zo.fModules)
  (znB : ZS Z 4 (y2S Z) z4O z4P zo.fChannels)
  (znC : ZS Z 4 (fun r x=>r = e64 x) z4Q z4R zo.fSwitches)
  (znD : ZS Z 4 (fun r x=>r = e62 x) z4S z4T zo.fLinks)
  (znE : ZS Z 7 (y2F Z) z4U z4V zo.fVLs)
  (znF : ZS Z 5 (fun r x=>r = y2Y x) z4W z4X zo.fHealth)
  (znG : ZS Z 3 (y2T Z) z4Y z4Z zo.fCauses)
  (znH : ZS Z 4 (fun r x=>r = y2Z x) z50 z51 zo.fVersions)
  (znI : ZS Z 1 (p55 Z) z52 z53 z3s)
  (ziI : ZS Z 3 (fun r x=>r = e53 x) z49 z4a z2v)
  (zsS : dat z5u = zfH)
  (hown : Hp (fps [stb z3W 81 [(.slice z4M zo.fModules.length z4N),(.slice z4O zo.fChannels.length z4P),(.slice z4Q zo.fSwitches.length z4R),(.slice z4S zo.fLinks.length z4T),(.slice z4U zo.fVLs.length z4V),(.slice z4W zo.fHealth.length z4X),(.slice z4Y zo.fCauses.length z4Z),(.slice z50 zo.fVersions.length z51),(.slice z52 z3s.length z53),(.slice z49 z2v.length z4a),(.map (some z2g)),(.slice z6z z2H.length z6A),(.slice z3b z1g.length z3c),(.slice z2I z1c.length z2J)],yF z2g (fun x=>Value.agg (y1S x).toArray) Value.pointer (y1s z5u),y1r z19 z5u,row (.slice z6z z2H.length z6A) 113 7 (z2H.flatMap yA),row (.slice z3b z1g.length z3c) 50 3 (z1g.flatMap e50),row (.slice z2I z1c.length z2J) 50 3 (z1c.flatMap e50)]) w₀ w₀ [stb z3W 81 [(.slice z4M zo.fModules.length z4N),(.slice z4O zo.fChannels.length z4P),(.slice z4Q zo.fSwitches.length z4R),(.slice z4S zo.fLinks.length z4T),(.slice z4U zo.fVLs.length z4V),(.slice z4W zo.fHealth.length z4X),(.slice z4Y zo.fCauses.length z4Z),(.slice z50 zo.fVersions.length z51),(.slice z52 z3s.length z53),(.slice z49 z2v.length z4a),(.map (some z2g)),(.slice z6z z2H.length z6A),(.slice z3b z1g.length z3c),(.slice z2I z1c.length z2J)],yF z2g (fun x=>Value.agg (y1S x).toArray) Value.pointer (y1s z5u),y1r z19 z5u,row (.slice z6z z2H.length z6A) 113 7 (z2H.flatMap yA),row (.slice z3b z1g.length z3c) 50 3 (z1g.flatMap e50),row (.slice z2I z1c.length z2J) 50 3 (z1c.flatMap e50)]) :
  Calls Try.prog 26 #[(.pointer (some ⟨z3W,0,none⟩))] w₀ fun e w'=>∃ znJ : Option Addr,∃ znK : Nat,∃ znL : Option Addr,∃ znM : Nat,∃ znN : Option Addr,∃ znO : Nat,∃ ziJ : List (Snetwork_exit × ((Nat × (Option Addr × Nat)) × Sport_Port)),e = .returned (.tuple #[]) ∧ (dat ziJ = r.2.2.2) ∧ Hp (fps [stb z3W 81 [(.slice z4M zo.fModules.length z4N),(.slice z4O zo.fChannels.length z4P),(.slice z4Q zo.fSwitches.length z4R),(.slice z4S zo.fLinks.length z4T),(.slice z4U zo.fVLs.length z4V),(.slice z4W zo.fHealth.length z4X),(.slice z4Y zo.fCauses.length z4Z),(.slice z50 zo.fVersions.length z51),(.slice z52 z3s.length z53),(.slice z49 z2v.length z4a),(.map (some z2g)),(.slice z6z z2H.length z6A),(.slice z3b z1g.length z3c),(.slice z2I z1c.length z2J)],yF z2g (fun x=>Value.agg (y1S x).toArray) Value.pointer (y1s z5u),y1r z19 z5u,row (.slice z6z z2H.length z6A) 113 7 (z2H.flatMap yA),row (.slice z3b z1g.length z3c) 50 3 (z1g.flatMap e50),row (.slice z2I z1c.length z2J) 50 3 (z1c.flatMap e50)]) w₀ w' [stb z3W 81 [(.slice z4M zo.fModules.length z4N),(.slice z4O zo.fChannels.length z4P),(.slice z4Q zo.fSwitches.length z4R),(.slice z4S zo.fLinks.length z4T),(.slice z4U zo.fVLs.length z4V),(.slice z4W zo.fHealth.length z4X),(.slice z4Y zo.fCauses.length z4Z),(.slice z50 zo.fVersions.length z51),(.slice z52 z3s.length z53),(.slice z49 z2v.length z4a),(.map (some z2g)),(.slice znJ r.1.length znK),(.slice znL r.2.1.length znM),(.slice znN r.2.2.1.length znO)],row (.slice znJ r.1.length znK) 113 7 (r.1.flatMap yA),row (.slice znL r.2.1.length znM) 50 3 (r.2.1.flatMap e50),row (.slice znN r.2.2.1.length znO) 50 3 (r.2.2.1.flatMap e50),yF z2g (fun x=>Value.agg (y1S x).toArray) Value.pointer (y1s ziJ),y1r z19 ziJ]:=by
 unfold y2N at h
 refine Calls.yo (vs:=[(.pointer (some ⟨z3W,0,none⟩))]) (pre:=[stb z3W 81 [(.slice z4M zo.fModules.length z4N),(.slice z4O zo.fChannels.length z4P),(.slice z4Q zo.fSwitches.length z4R),(.slice z4S zo.fLinks.length z4T),(.slice z4U zo.fVLs.length z4V),(.slice z4W zo.fHealth.length z4X),(.slice z4Y zo.fCauses.length z4Z),(.slice z50 zo.fVersions.length z51),(.slice z52 z3s.length z53),(.slice z49 z2v.length z4a),(.map (some z2g)),(.slice z6z z2H.length z6A),(.slice z3b z1g.length z3c),(.slice z2I z1c.length z2J)],yF z2g (fun x=>Value.agg (y1S x).toArray) Value.pointer (y1s z5u),y1r z19 z5u,row (.slice z6z z2H.length z6A) 113 7 (z2H.flatMap yA),row (.slice z3b z1g.length z3c) 50 3 (z1g.flatMap e50),row (.slice z2I z1c.length z2J) 50 3 (z1c.flatMap e50)]) (env:=[(0,(.pointer (some ⟨z3W,0,none⟩)))]) Try.func26 rfl Try.ntmps26 rfl (hown) rfl ?_
 refine WC.b ?_
 obtain ⟨z8,zsT,h⟩:=zn h
 refine WC.a (WL.pu rfl ?_)
 refine WL.a (d:=6) rfl rfl rfl (yv rfl) ?_
 refine WL.a (d:=7) rfl rfl rfl (ya y7Y rfl rfl) ?_
 refine WL.a (d:=8) rfl rfl rfl (y5D Try.underlying111 rfl rfl) ?_
 refine WL.y4w (dd:=9) rfl rfl rfl (zF (l:=[.tmp 8]) Try.call39 (.cons rfl .nil)) (.cons .here (.cons .h2 .nil)) (cc hz (.cons .here (.cons .h2 .nil)) fun w pz ho=>y65 _ _ _ _ _ _ _ _ _ _ _ _ _ _ _ _ _ _ _ zsT w pz  ho) ?_
 rintro z7C z7D _
 refine WL.a (d:=10) rfl rfl rfl (y8M Try.underlying113 rfl rfl) ?_
 refine WL.new (dd:=2) rfl rfl rfl (y2d (cs:=[(.int .i64 0),(.int .i64 0),(.int .i64 0),(.int .i64 0),(.int .i64 0),(.int .i64 0),(.int .i64 0)]) zkF rfl) ?_
 intro ze5 _
 refine WL.y1u rfl rfl (y1K zeK rfl rfl rfl .here rfl rfl rfl) ?_
 refine WL.nil (WX.a (WC.b ?_))
 obtain ⟨z2w,zsU,h⟩:=zn h
 obtain ⟨zsV,h⟩:=yj h
 obtain ⟨znP,h⟩:=yj h
 obtain ⟨z22,zsW,h⟩:=zn h
 refine WC.yY (fun i=>[3,15].contains i) [stbp ze5 113 [(0,(.int .i64 z8.1.fTime)),(3,(.int .i64 z8.1.fSent))],stbp z3W 81 [(9,(.slice z49 z2v.length z4a))]] rfl ?_
 refine WD.a (i:=0) (d:=12) (by kernel_rfl) rfl (z2 (by kernel_rfl)) (z3 (by kernel_rfl)) rfl rfl rfl (fun _=>q_m rfl) ?_
 refine WD.a (i:=1) (d:=13) (by kernel_rfl) rfl (z2 (by kernel_rfl)) (z3 (by kernel_rfl)) rfl rfl rfl (fun _=>ya y4N rfl rfl) ?_
 refine WD.e (i:=2) (d:=14) (by kernel_rfl) rfl (z2 (by kernel_rfl)) (z3 (by kernel_rfl)) rfl rfl rfl (y1H (cs:=[(.int .i64 z8.1.fHop.fNode),(.int .i64 z8.1.fHop.fNext),(.int .i64 z8.1.fHop.fLink)]) y5X rfl rfl (rd_sub (s:=3) .here rfl)) ?_
 refine WD.a (i:=4) (d:=16) (by kernel_rfl) rfl (z2 (by kernel_rfl)) (z3 (by kernel_rfl)) rfl rfl rfl (fun _=>ya y6k rfl rfl) ?_
 refine WD.stable (i:=5) (d:=17) (by kernel_rfl) rfl (z2 (by kernel_rfl)) (z3 (by kernel_rfl)) rfl rfl rfl (Sin.wk (.cons .here (.cons .here .nil)) (.stb (.cons rfl (.cons rfl .nil)) (.stb (.cons rfl .nil) .nil))) (yb yg rfl (y6X .here (.head _))) ?_
 refine WD.a (i:=6) (d:=18) (by kernel_rfl) rfl (z2 (by kernel_rfl)) (z3 (by kernel_rfl)) rfl rfl rfl (fun _=>q_m rfl) ?_
 refine WD.a (i:=7) (d:=19) (by kernel_rfl) rfl (z2 (by kernel_rfl)) (z3 (by kernel_rfl)) rfl rfl rfl (fun _=>yv rfl) ?_
 refine WD.a (i:=8) (d:=20) (by kernel_rfl) rfl (z2 (by kernel_rfl)) (z3 (by kernel_rfl)) rfl rfl rfl (fun _=>ya y9t rfl rfl) ?_
 refine WD.stable (i:=9) (d:=21) (by kernel_rfl) rfl (z2 (by kernel_rfl)) (z3 (by kernel_rfl)) rfl rfl rfl (Sin.wk (.cons .here (.cons .here .nil)) (.stb (.cons rfl (.cons rfl .nil)) (.stb (.cons rfl .nil) .nil))) (yb y9u rfl (y6X .h1 (.head _))) ?_
 refine WD.a (i:=10) (d:=22) (by kernel_rfl) rfl (z2 (by kernel_rfl)) (z3 (by kernel_rfl)) rfl rfl rfl (fun _=>ya y4M rfl rfl) ?_
 refine WD.stable (i:=11) (d:=23) (by kernel_rfl) rfl (z2 (by kernel_rfl)) (z3 (by kernel_rfl)) rfl rfl rfl (Sin.wk (.cons .here (.cons .here .nil)) (.stb (.cons rfl (.cons rfl .nil)) (.stb (.cons rfl .nil) .nil))) (yb yg rfl (y6X .here (.tail _ (.head _)))) ?_
 refine WD.znth (j:=12) (dd:=24) (by kernel_rfl) rfl (z2 (by kernel_rfl)) (z3 (by kernel_rfl)) rfl rfl (Z:=Z) (Pr:=(fun r x=>r = e53 x)) y4p rfl rfl ziI zsV ?_
 rintro zyj zyk zsX zyl rfl
 refine WD.a (i:=13) (d:=25) (by kernel_rfl) rfl (z2 (by kernel_rfl)) (z3 (by kernel_rfl)) rfl rfl rfl (fun _=>ya y5Z rfl rfl) ?_
 refine WD.stable (i:=14) (d:=26) (by kernel_rfl) rfl (z2 (by kernel_rfl)) (z3 (by kernel_rfl)) rfl rfl rfl (Sin.wk (.cons .here (.cons .here .nil)) (.stb (.cons rfl (.cons rfl .nil)) (.stb (.cons rfl .nil) .nil))) (yb yg rfl (y21 hz.pv zsX rfl)) ?_
 refine WD.call1 (i:=3) (dd:=15) rfl (by kernel_rfl) rfl rfl rfl (.inl ⟨rfl,fun _=>(Sin.wk (.cons .h2 (.cons .h2 .nil)) (.stb (.cons rfl (.cons rfl .nil)) (.stb (.cons rfl .nil) .nil)))⟩) (zF (l:=[.tmp 12,.tmp 14]) Try.call40 (.cons rfl (.cons rfl .nil))) (.cons .h3 (.cons .h3 .nil)) (ccl hz (.cons .h3 (.cons .h3 .nil)) (.cons .h1 (.cons .h1 (.cons .h1 (.cons .h1 .nil)))) fun w pz ho la=>y7l _ _ _ _ _ _ _ _ _ _ _ _ _ _ _ _ _ _ _ _ _ _ _ _ _ _ _ _ _ _ _ _ _ _ _ _ _ _ _ zsU w pz ((znA.mono (Zle.left _ _)).weak (fun _ _ h=>y29 (Zle.left _ _) h)) ((znB.mono (Zle.left _ _)).weak (fun _ _ h=>y2j (Zle.left _ _) h)) (znC.mono (Zle.left _ _)) (znD.mono (Zle.left _ _)) ((znE.mono (Zle.left _ _)).weak (fun _ _ h=>y2a (Zle.left _ _) h)) (znF.mono (Zle.left _ _)) ((znG.mono (Zle.left _ _)).weak (fun _ _ h=>y2k (Zle.left _ _) h)) (znH.mono (Zle.left _ _)) ((znI.mono (Zle.left _ _)).weak (fun _ _ h=>y4c (Zle.left _ _) h)) (ziI.mono (Zle.left _ _)) zsS (ZA.row (la _ (.tail _ (.head _)) _) (RR.y1q (enc:=yA) (fun _=>rfl) _) ⟨w,pz.1⟩) (ZA.row (la _ (.tail _ (.tail _ (.head _))) _) (RR.y1q (enc:=e50) (fun _=>rfl) _) ⟨w,pz.1⟩) (ZA.row (la _ (.tail _ (.tail _ (.tail _ (.head _)))) _) (RR.y1q (enc:=e50) (fun _=>rfl) _) ⟨w,pz.1⟩) ((la _ (.head _) _).stb) ho) ?_
 rintro z7E ze6
 refine WD.gh (fun _=>Hp.y9g ze6 znP .h1 (fun g=>stb g.1 143 [(.int .i64 (((yk z2w (⟨z8.1.fHop.fNode,z8.1.fHop.fLink⟩ : Snetwork_exit) default).fNumbers).fSlow)),(.int .i64 (((yk z2w (⟨z8.1.fHop.fNode,z8.1.fHop.fLink⟩ : Snetwork_exit) default).fNumbers).fDelay)),(.int .i64 (((yk z2w (⟨z8.1.fHop.fNode,z8.1.fHop.fLink⟩ : Snetwork_exit) default).fNumbers).fStore)),(.int .i64 ((yk z2w (⟨z8.1.fHop.fNode,z8.1.fHop.fLink⟩ : Snetwork_exit) default).fNow)),(.int .i64 ((yk z2w (⟨z8.1.fHop.fNode,z8.1.fHop.fLink⟩ : Snetwork_exit) default).fLast)),(.slice g.2.1 (((yk z2w (⟨z8.1.fHop.fNode,z8.1.fHop.fLink⟩ : Snetwork_exit) default).fFrames).length) g.2.2)] :: row (.slice g.2.1 (((yk z2w (⟨z8.1.fHop.fNode,z8.1.fHop.fLink⟩ : Snetwork_exit) default).fFrames).length) g.2.2) 146 2 (((yk z2w (⟨z8.1.fHop.fNode,z8.1.fHop.fLink⟩ : Snetwork_exit) default).fFrames).flatMap y20) :: [y1r z19 (y4o (⟨z8.1.fHop.fNode,z8.1.fHop.fLink⟩ : Snetwork_exit) z7E),yF z2g (fun x=>Value.agg (y1S x).toArray) Value.pointer (y1s z7E),stb ze5 113 [(.int .i64 z8.1.fTime),(.int .i64 z8.1.fIn_),(.int .i64 z8.1.fVl),(.int .i64 z8.1.fSent),(.int .i64 z8.1.fHop.fNode),(.int .i64 z8.1.fHop.fNext),(.int .i64 z8.1.fHop.fLink)],stb z3W 81 [(.slice z4M zo.fModules.length z4N),(.slice z4O zo.fChannels.length z4P),(.slice z4Q zo.fSwitches.length z4R),(.slice z4S zo.fLinks.length z4T),(.slice z4U zo.fVLs.length z4V),(.slice z4W zo.fHealth.length z4X),(.slice z4Y zo.fCauses.length z4Z),(.slice z50 zo.fVersions.length z51),(.slice z52 z3s.length z53),(.slice z49 z2v.length z4a),(.map (some z2g)),(.slice z7C z8.2.length z7D),(.slice z3b z1g.length z3c),(.slice z2I z1c.length z2J)],row (.slice z7C z8.2.length z7D) 113 7 (z8.2.flatMap yA),row (.slice z3b z1g.length z3c) 50 3 (z1g.flatMap e50),row (.slice z2I z1c.length z2J) 50 3 (z1c.flatMap e50)]) (fun _=>rfl)) ?_
 rintro ⟨z8y,zym,zyn⟩ znQ
 refine WD.repin (i:=15) rfl (u:=(.pointer (some ⟨z8y,0,none⟩))) (congrArg Value.pointer znQ) ?_
 refine WD.call2 (i:=15) (dd:=27) rfl (by kernel_rfl) rfl rfl rfl (.inl ⟨rfl,fun _ _=>(Sin.wk (.cons .h4 (.cons .h4 .nil)) (.stb (.cons rfl (.cons rfl .nil)) (.stb (.cons rfl .nil) .nil)))⟩) (zF (l:=[.tmp 15,.tmp 17,.tmp 26]) Try.call41 (.cons rfl (.cons rfl (.cons rfl .nil)))) (.cons .here (.cons .here .nil)) (cc hz (.cons .here (.cons .here .nil)) fun w pz ho=>y7G _ _ _ _ _ _ _ _ zsW w pz  ho) ?_
 rintro z9L z9M _
 refine WD.ghL (fun _ h=>Hp.objsClose (els:=z19) (lg:=z7E) (k:=(⟨z8.1.fHop.fNode,z8.1.fHop.fLink⟩ : Snetwork_exit)) (b:=z8y) (g:=(z9L,z9M)) (x:=z22.2.2) (.cons .here (.cons .here (.cons .here .nil))) h) ?_
 refine WD.ghL (M:=[yF z2g (fun x=>Value.agg (y1S x).toArray) Value.pointer (y1s (yI z7E (⟨z8.1.fHop.fNode,z8.1.fHop.fLink⟩ : Snetwork_exit) ((z8y,(z9L,z9M)),z22.2.2))),y1r z19 (yI z7E (⟨z8.1.fHop.fNode,z8.1.fHop.fLink⟩ : Snetwork_exit) ((z8y,(z9L,z9M)),z22.2.2)),stb ze5 113 [(.int .i64 z8.1.fTime),(.int .i64 z8.1.fIn_),(.int .i64 z8.1.fVl),(.int .i64 z8.1.fSent),(.int .i64 z8.1.fHop.fNode),(.int .i64 z8.1.fHop.fNext),(.int .i64 z8.1.fHop.fLink)],stb z3W 81 [(.slice z4M zo.fModules.length z4N),(.slice z4O zo.fChannels.length z4P),(.slice z4Q zo.fSwitches.length z4R),(.slice z4S zo.fLinks.length z4T),(.slice z4U zo.fVLs.length z4V),(.slice z4W zo.fHealth.length z4X),(.slice z4Y zo.fCauses.length z4Z),(.slice z50 zo.fVersions.length z51),(.slice z52 z3s.length z53),(.slice z49 z2v.length z4a),(.map (some z2g)),(.slice z7C z8.2.length z7D),(.slice z3b z1g.length z3c),(.slice z2I z1c.length z2J)],row (.slice z7C z8.2.length z7D) 113 7 (z8.2.flatMap yA),row (.slice z3b z1g.length z3c) 50 3 (z1g.flatMap e50),row (.slice z2I z1c.length z2J) 50 3 (z1c.flatMap e50)]) (fun _ h=>Hp.y8L .h1 (y9L ze6 znP znQ _ _) h) ?_
 refine WD.a (i:=16) (d:=11) (by kernel_rfl) rfl (z2 (by kernel_rfl)) (z3 (by kernel_rfl)) rfl rfl rfl (fun _=>q_m rfl) ?_
 refine WD.a (i:=17) (d:=28) (by kernel_rfl) rfl (z2 (by kernel_rfl)) (z3 (by kernel_rfl)) rfl rfl rfl (fun _=>y47 rfl rfl) ?_
 refine WD.a (i:=18) (d:=29) (by kernel_rfl) rfl (z2 (by kernel_rfl)) (z3 (by kernel_rfl)) rfl rfl rfl (fun _=>y47 rfl rfl) ?_
 refine WD.a (i:=19) (d:=3) (by kernel_rfl) rfl (z2 (by kernel_rfl)) (z3 (by kernel_rfl)) rfl rfl rfl (fun _=>q_z rfl) ?_
 refine WD.a (i:=20) (d:=4) (by kernel_rfl) rfl (z2 (by kernel_rfl)) (z3 (by kernel_rfl)) rfl rfl rfl (fun _=>q_z rfl) ?_
 refine WD.done (by kernel_rfl) ?_
 refine WX.a (WC.b (WC.b (WC.a (WL.pu rfl (WL.pu rfl (WL.nil (WX.a ?_)))))))
 refine WC.cond rfl (fun ziK=>?_) (fun ziK=>?_)
 ·replace h:=yl h ziK
  refine WC.b ?_
  obtain ⟨zsY,h⟩:=yj h
  refine WC.yY (fun i=>[14,17].contains i) [] rfl ?_
  refine WD.a (i:=0) (d:=32) (by kernel_rfl) rfl (z2 (by kernel_rfl)) (z3 (by kernel_rfl)) rfl rfl rfl (fun _=>q_m rfl) ?_
  refine WD.a (i:=1) (d:=33) (by kernel_rfl) rfl (z2 (by kernel_rfl)) (z3 (by kernel_rfl)) rfl rfl rfl (fun _=>q_m rfl) ?_
  refine WD.a (i:=2) (d:=34) (by kernel_rfl) rfl (z2 (by kernel_rfl)) (z3 (by kernel_rfl)) rfl rfl rfl (fun _=>yv rfl) ?_
  refine WD.a (i:=3) (d:=35) (by kernel_rfl) rfl (z2 (by kernel_rfl)) (z3 (by kernel_rfl)) rfl rfl rfl (fun _=>ya y81 rfl rfl) ?_
  refine WD.e (i:=4) (d:=36) (by kernel_rfl) rfl (z2 (by kernel_rfl)) (z3 (by kernel_rfl)) rfl rfl rfl (yb y75 rfl (yc .h3 rfl)) ?_
  refine WD.a (i:=5) (d:=37) (by kernel_rfl) rfl (z2 (by kernel_rfl)) (z3 (by kernel_rfl)) rfl rfl rfl (fun _=>ya y4M rfl rfl) ?_
  refine WD.e (i:=6) (d:=38) (by kernel_rfl) rfl (z2 (by kernel_rfl)) (z3 (by kernel_rfl)) rfl rfl rfl (yb yg rfl (yc .h2 rfl)) ?_
  refine WD.a (i:=7) (d:=39) (by kernel_rfl) rfl (z2 (by kernel_rfl)) (z3 (by kernel_rfl)) rfl rfl rfl (fun _=>ya y4N rfl rfl) ?_
  refine WD.a (i:=8) (d:=40) (by kernel_rfl) rfl (z2 (by kernel_rfl)) (z3 (by kernel_rfl)) rfl rfl rfl (fun _=>ya y3n rfl rfl) ?_
  refine WD.e (i:=9) (d:=41) (by kernel_rfl) rfl (z2 (by kernel_rfl)) (z3 (by kernel_rfl)) rfl rfl rfl (yb yg rfl (yc .h2 rfl)) ?_
  refine WD.a (i:=10) (d:=42) (by kernel_rfl) rfl (z2 (by kernel_rfl)) (z3 (by kernel_rfl)) rfl rfl rfl (fun _=>ya y6k rfl rfl) ?_
  refine WD.e (i:=11) (d:=43) (by kernel_rfl) rfl (z2 (by kernel_rfl)) (z3 (by kernel_rfl)) rfl rfl rfl (yb yg rfl (yc .h2 rfl)) ?_
  refine WD.a (i:=12) (d:=44) (by kernel_rfl) rfl (z2 (by kernel_rfl)) (z3 (by kernel_rfl)) rfl rfl rfl (fun _=>y1j (v:=(.agg #[(.int .i64 z8.1.fSent),(.int .i64 z8.1.fHop.fNode),(.int .i64 z8.1.fTime)])) (Eos.parts (l:=[.tmp 38,.tmp 41,.tmp 43]) (.cons rfl (.cons rfl (.cons rfl .nil))) [0,1,2]) (fun _=>by kernel_rfl)) ?_
  refine WD.new (i:=13) (dd:=45) rfl (by kernel_rfl) rfl rfl rfl (y18 (cs:=([(⟨z8.1.fSent,z8.1.fHop.fNode,z8.1.fTime⟩ : Sapi_Come)] : List Sapi_Come).flatMap e50) y19 (Eos.parts (l:=[.tmp 44]) (.cons rfl .nil) [0]) (fun _=>by kernel_rfl) rfl (by unfold maxLen; omega)) (fun h'=>absurd h' (by decide)) ?_
  intro zyo _
  refine WD.old (i:=14) (dd:=46) rfl (by kernel_rfl) rfl rfl rfl rfl (fun _=>(Sin.of .nil)) (y4V (enc:=e50) (l1:=z1c) (l2:=([(⟨z8.1.fSent,z8.1.fHop.fNode,z8.1.fTime⟩ : Sapi_Come)] : List Sapi_Come)) y19 rfl rfl .h7 (fun _=>rfl) rfl rfl (y5k .here) (y58 e50_oc _) zsY) ?_
  rintro ⟨znR,znS⟩ _
  refine WD.a (i:=15) (d:=47) (by kernel_rfl) rfl (z2 (by kernel_rfl)) (z3 (by kernel_rfl)) rfl rfl rfl (fun _=>yv rfl) ?_
  refine WD.a (i:=16) (d:=48) (by kernel_rfl) rfl (z2 (by kernel_rfl)) (z3 (by kernel_rfl)) rfl rfl rfl (fun _=>ya y81 rfl rfl) ?_
  refine WD.y2D (i:=17) rfl (by kernel_rfl) rfl rfl rfl (by kernel_rfl) (y4b (ds:=[(.slice z4M zo.fModules.length z4N),(.slice z4O zo.fChannels.length z4P),(.slice z4Q zo.fSwitches.length z4R),(.slice z4S zo.fLinks.length z4T),(.slice z4U zo.fVLs.length z4V),(.slice z4W zo.fHealth.length z4X),(.slice z4Y zo.fCauses.length z4Z),(.slice z50 zo.fVersions.length z51),(.slice z52 z3s.length z53),(.slice z49 z2v.length z4a),(.map (some z2g)),(.slice z7C z8.2.length z7D),(.slice z3b z1g.length z3c),(.slice znR ((z1c ++ ([(⟨z8.1.fSent,z8.1.fHop.fNode,z8.1.fTime⟩ : Sapi_Come)] : List Sapi_Come)).length) znS)]) y9w rfl rfl rfl rfl rfl .h5 rfl rfl) ?_
  refine WD.done (by kernel_rfl) ?_
  refine WX.a (WC.ret (WX.yf ?_))
  obtain rfl:=Option.some.inj h
  refine WX.yi Try.results26 .nil (fun w hw=>?_)
  exact ⟨z7C,z7D,z3b,z3c,znR,znS,(yI z7E (⟨z8.1.fHop.fNode,z8.1.fHop.fLink⟩ : Snetwork_exit) ((z8y,(z9L,z9M)),z22.2.2)),y4n,(y6h ze6 _ _ _),hw.sub (.cons .here (.cons .h5 (.cons .h5 (.cons .here (.cons .h1 (.cons .h1 .nil))))))⟩
 ·replace h:=ym h ziK
  refine WC.skip (WX.a ?_)
  obtain ⟨zfI,zsZ,h⟩:=yZ h
  refine WC.y4j (fun (z5t : List Sapi_Come) (zbr : Option Addr) (zbs : Nat)=>(zfI z5t = some r)) (fun (z5t : List Sapi_Come) (zbr : Option Addr) (zbs : Nat)=>[(0,(.pointer (some ⟨z3W,0,none⟩))),(2,(.pointer (some ⟨ze5,0,none⟩))),(3,(.int .i64 z22.1))]) (fun (z5t : List Sapi_Come) (zbr : Option Addr) (zbs : Nat)=>[row (.slice z7C z8.2.length z7D) 113 7 (z8.2.flatMap yA),row (.slice zbr z5t.length zbs) 50 3 (z5t.flatMap e50),row (.slice z2I z1c.length z2J) 50 3 (z1c.flatMap e50),stb z3W 81 [(.slice z4M zo.fModules.length z4N),(.slice z4O zo.fChannels.length z4P),(.slice z4Q zo.fSwitches.length z4R),(.slice z4S zo.fLinks.length z4T),(.slice z4U zo.fVLs.length z4V),(.slice z4W zo.fHealth.length z4X),(.slice z4Y zo.fCauses.length z4Z),(.slice z50 zo.fVersions.length z51),(.slice z52 z3s.length z53),(.slice z49 z2v.length z4a),(.map (some z2g)),(.slice z7C z8.2.length z7D),(.slice zbr z5t.length zbs),(.slice z2I z1c.length z2J)],stb ze5 113 [(.int .i64 z8.1.fTime),(.int .i64 z8.1.fIn_),(.int .i64 z8.1.fVl),(.int .i64 z8.1.fSent),(.int .i64 z8.1.fHop.fNode),(.int .i64 z8.1.fHop.fNext),(.int .i64 z8.1.fHop.fLink)],yF z2g (fun x=>Value.agg (y1S x).toArray) Value.pointer (y1s (yI z7E (⟨z8.1.fHop.fNode,z8.1.fHop.fLink⟩ : Snetwork_exit) ((z8y,(z9L,z9M)),z22.2.2))),y1r z19 (yI z7E (⟨z8.1.fHop.fNode,z8.1.fHop.fLink⟩ : Snetwork_exit) ((z8y,(z9L,z9M)),z22.2.2))]) ?_ ?_
  ·skip
   refine WC.b ?_
   refine WC.yY (fun i=>[].contains i) [] rfl ?_
   refine WD.a (i:=0) (d:=49) (by kernel_rfl) rfl (z2 (by kernel_rfl)) (z3 (by kernel_rfl)) rfl rfl rfl (fun _=>ya y4N rfl rfl) ?_
   refine WD.a (i:=1) (d:=50) (by kernel_rfl) rfl (z2 (by kernel_rfl)) (z3 (by kernel_rfl)) rfl rfl rfl (fun _=>ya y4k rfl rfl) ?_
   refine WD.e (i:=2) (d:=51) (by kernel_rfl) rfl (z2 (by kernel_rfl)) (z3 (by kernel_rfl)) rfl rfl rfl (yb yg rfl (yc .h2 rfl)) ?_
   refine WD.a (i:=3) (d:=52) (by kernel_rfl) rfl (z2 (by kernel_rfl)) (z3 (by kernel_rfl)) rfl rfl rfl (fun _=>q_m rfl) ?_
   refine WD.a (i:=4) (d:=53) (by kernel_rfl) rfl (z2 (by kernel_rfl)) (z3 (by kernel_rfl)) rfl rfl rfl (fun _=>yv rfl) ?_
   refine WD.a (i:=5) (d:=54) (by kernel_rfl) rfl (z2 (by kernel_rfl)) (z3 (by kernel_rfl)) rfl rfl rfl (fun _=>ya y60 rfl rfl) ?_
   refine WD.a (i:=6) (d:=55) (by kernel_rfl) rfl (z2 (by kernel_rfl)) (z3 (by kernel_rfl)) rfl rfl rfl (fun _=>ya y3X rfl rfl) ?_
   refine WD.e (i:=7) (d:=56) (by kernel_rfl) rfl (z2 (by kernel_rfl)) (z3 (by kernel_rfl)) rfl rfl rfl (yb y3Y rfl (yc .h3 rfl)) ?_
   refine WD.a (i:=8) (d:=57) (by kernel_rfl) rfl (z2 (by kernel_rfl)) (z3 (by kernel_rfl)) rfl rfl rfl (fun _=>yW Try.underlying22 rfl) ?_
   refine WD.a (i:=9) (d:=58) (by kernel_rfl) rfl (z2 (by kernel_rfl)) (z3 (by kernel_rfl)) rfl rfl rfl (fun _=>y3i rfl rfl) ?_
   refine WD.done (by kernel_rfl) ?_
   refine WX.a ?_
   refine WC.cond rfl (fun ziL=>?_) (fun ziL=>?_)
   ·replace h:=yl h ziL
    obtain ⟨zt0,h⟩:=yj h
    refine WC.yY (fun i=>[13,16].contains i) [] rfl ?_
    refine WD.a (i:=0) (d:=59) (by kernel_rfl) rfl (z2 (by kernel_rfl)) (z3 (by kernel_rfl)) rfl rfl rfl (fun _=>q_m rfl) ?_
    refine WD.a (i:=1) (d:=60) (by kernel_rfl) rfl (z2 (by kernel_rfl)) (z3 (by kernel_rfl)) rfl rfl rfl (fun _=>q_m rfl) ?_
    refine WD.a (i:=2) (d:=61) (by kernel_rfl) rfl (z2 (by kernel_rfl)) (z3 (by kernel_rfl)) rfl rfl rfl (fun _=>yv rfl) ?_
    refine WD.a (i:=3) (d:=62) (by kernel_rfl) rfl (z2 (by kernel_rfl)) (z3 (by kernel_rfl)) rfl rfl rfl (fun _=>ya y82 rfl rfl) ?_
    refine WD.e (i:=4) (d:=63) (by kernel_rfl) rfl (z2 (by kernel_rfl)) (z3 (by kernel_rfl)) rfl rfl rfl (yb y75 rfl (yc .h3 rfl)) ?_
    refine WD.a (i:=5) (d:=64) (by kernel_rfl) rfl (z2 (by kernel_rfl)) (z3 (by kernel_rfl)) rfl rfl rfl (fun _=>ya y4M rfl rfl) ?_
    refine WD.e (i:=6) (d:=65) (by kernel_rfl) rfl (z2 (by kernel_rfl)) (z3 (by kernel_rfl)) rfl rfl rfl (yb yg rfl (yc .h2 rfl)) ?_
    refine WD.a (i:=7) (d:=66) (by kernel_rfl) rfl (z2 (by kernel_rfl)) (z3 (by kernel_rfl)) rfl rfl rfl (fun _=>ya y4N rfl rfl) ?_
    refine WD.a (i:=8) (d:=67) (by kernel_rfl) rfl (z2 (by kernel_rfl)) (z3 (by kernel_rfl)) rfl rfl rfl (fun _=>ya y4k rfl rfl) ?_
    refine WD.e (i:=9) (d:=68) (by kernel_rfl) rfl (z2 (by kernel_rfl)) (z3 (by kernel_rfl)) rfl rfl rfl (yb yg rfl (yc .h2 rfl)) ?_
    refine WD.a (i:=10) (d:=69) (by kernel_rfl) rfl (z2 (by kernel_rfl)) (z3 (by kernel_rfl)) rfl rfl rfl (fun _=>q_m rfl) ?_
    refine WD.a (i:=11) (d:=70) (by kernel_rfl) rfl (z2 (by kernel_rfl)) (z3 (by kernel_rfl)) rfl rfl rfl (fun _=>y1j (v:=(.agg #[(.int .i64 z8.1.fSent),(.int .i64 z8.1.fHop.fNext),(.int .i64 z22.1)])) (Eos.parts (l:=[.tmp 65,.tmp 68,.tmp 69]) (.cons rfl (.cons rfl (.cons rfl .nil))) [0,1,2]) (fun _=>by kernel_rfl)) ?_
    refine WD.new (i:=12) (dd:=71) rfl (by kernel_rfl) rfl rfl rfl (y18 (cs:=([(⟨z8.1.fSent,z8.1.fHop.fNext,z22.1⟩ : Sapi_Come)] : List Sapi_Come).flatMap e50) y19 (Eos.parts (l:=[.tmp 70]) (.cons rfl .nil) [0]) (fun _=>by kernel_rfl) rfl (by unfold maxLen; omega)) (fun h'=>absurd h' (by decide)) ?_
    intro zyp _
    refine WD.old (i:=13) (dd:=72) rfl (by kernel_rfl) rfl rfl rfl rfl (fun _=>(Sin.of .nil)) (y4V (enc:=e50) (l1:=z1g) (l2:=([(⟨z8.1.fSent,z8.1.fHop.fNext,z22.1⟩ : Sapi_Come)] : List Sapi_Come)) y19 rfl rfl .h6 (fun _=>rfl) rfl rfl (y5k .here) (y58 e50_oc _) zt0) ?_
    rintro ⟨znT,znU⟩ _
    refine WD.a (i:=14) (d:=73) (by kernel_rfl) rfl (z2 (by kernel_rfl)) (z3 (by kernel_rfl)) rfl rfl rfl (fun _=>yv rfl) ?_
    refine WD.a (i:=15) (d:=74) (by kernel_rfl) rfl (z2 (by kernel_rfl)) (z3 (by kernel_rfl)) rfl rfl rfl (fun _=>ya y82 rfl rfl) ?_
    refine WD.y2D (i:=16) rfl (by kernel_rfl) rfl rfl rfl (by kernel_rfl) (y4b (ds:=[(.slice z4M zo.fModules.length z4N),(.slice z4O zo.fChannels.length z4P),(.slice z4Q zo.fSwitches.length z4R),(.slice z4S zo.fLinks.length z4T),(.slice z4U zo.fVLs.length z4V),(.slice z4W zo.fHealth.length z4X),(.slice z4Y zo.fCauses.length z4Z),(.slice z50 zo.fVersions.length z51),(.slice z52 z3s.length z53),(.slice z49 z2v.length z4a),(.map (some z2g)),(.slice z7C z8.2.length z7D),(.slice znT ((z1g ++ ([(⟨z8.1.fSent,z8.1.fHop.fNext,z22.1⟩ : Sapi_Come)] : List Sapi_Come)).length) znU),(.slice z2I z1c.length z2J)]) y9w rfl rfl rfl rfl rfl .h5 rfl rfl) ?_
    refine WD.done (by kernel_rfl) ?_
    exact WX.mid (G:=List Sapi_Come × Option Addr × Nat) ⟨(z1g ++ ([(⟨z8.1.fSent,z8.1.fHop.fNext,z22.1⟩ : Sapi_Come)] : List Sapi_Come)),znT,znU⟩ h (.cons rfl (.cons rfl (.cons rfl .nil))) (.cons .h6 (.cons .h1 (.cons .h5 (.cons .here (.cons .h3 (.cons .h1 (.cons .h1 .nil)))))))
   ·replace h:=ym h ziL
    refine WC.skip ?_
    exact WX.mid (G:=List Sapi_Come × Option Addr × Nat) ⟨z1g,z3b,z3c⟩ h (.cons rfl (.cons rfl (.cons rfl .nil))) (.cons .h4 (.cons .h4 (.cons .h4 (.cons .h3 (.cons .h2 (.cons .here (.cons .here .nil)))))))
  ·rintro z5t zbr zbs h
   replace h:=(zsZ z5t).symm.trans h
   obtain ⟨znz,zt1,h⟩:=zn h
   refine WC.a (WL.pu rfl ?_)
   refine WL.a (d:=76) rfl rfl rfl (ya y4N rfl rfl) ?_
   refine WL.a (d:=77) rfl rfl rfl (ya y4k rfl rfl) ?_
   refine WL.a (d:=78) rfl rfl rfl (yb yg rfl (yc .h4 rfl)) ?_
   refine WL.pu rfl ?_
   refine WL.a (d:=80) rfl rfl rfl (ya y4N rfl rfl) ?_
   refine WL.a (d:=81) rfl rfl rfl (ya y72 rfl rfl) ?_
   refine WL.a (d:=82) rfl rfl rfl (yb yg rfl (yc .h4 rfl)) ?_
   refine WL.a (d:=83) rfl rfl rfl (ya y4M rfl rfl) ?_
   refine WL.a (d:=84) rfl rfl rfl (yb yg rfl (yc .h4 rfl)) ?_
   refine WL.y4w (dd:=85) rfl rfl rfl (zF (l:=[.tmp 75,.tmp 78,.tmp 79,.tmp 82,.tmp 84]) Try.call25 (.cons rfl (.cons rfl (.cons rfl (.cons rfl (.cons rfl .nil)))))) (.cons .h3 (.cons .h4 (.cons .h4 (.cons .here .nil)))) (ccl hz (.cons .h3 (.cons .h4 (.cons .h4 (.cons .here .nil)))) (.cons .here (.cons .here .nil)) fun w pz ho la=>y4I _ _ _ _ _ _ _ _ _ _ _ _ _ _ _ _ _ _ _ _ _ _ _ _ _ _ _ _ _ _ _ _ _ _ _ _ _ _ _ _ _ _ zt1 w pz ((znA.mono (Zle.left _ _)).weak (fun _ _ h=>y29 (Zle.left _ _) h)) ((znB.mono (Zle.left _ _)).weak (fun _ _ h=>y2j (Zle.left _ _) h)) (znC.mono (Zle.left _ _)) (znD.mono (Zle.left _ _)) ((znE.mono (Zle.left _ _)).weak (fun _ _ h=>y2a (Zle.left _ _) h)) (znF.mono (Zle.left _ _)) ((znG.mono (Zle.left _ _)).weak (fun _ _ h=>y2k (Zle.left _ _) h)) (znH.mono (Zle.left _ _)) ((znI.mono (Zle.left _ _)).weak (fun _ _ h=>y4c (Zle.left _ _) h)) (ziI.mono (Zle.left _ _)) (y6h ze6 _ _ _) (ZA.row (la _ (.head _) _) (RR.y1q (enc:=e50) (fun _=>rfl) _) ⟨w,pz.1⟩) (ZA.row (la _ (.tail _ (.head _)) _) (RR.y1q (enc:=e50) (fun _=>rfl) _) ⟨w,pz.1⟩) ho) ?_
   rintro zt2 zt3 _
   refine WL.nil ?_
   obtain rfl:=Option.some.inj h
   refine WX.y1U Try.results26 .nil (fun w hw=>?_)
   exact ⟨zt2,zt3,zbr,zbs,z2I,z2J,(yI z7E (⟨z8.1.fHop.fNode,z8.1.fHop.fLink⟩ : Snetwork_exit) ((z8y,(z9L,z9M)),z22.2.2)),y4n,(y6h ze6 _ _ _),hw.sub (.cons .here (.cons .here (.cons .h2 (.cons .h2 (.cons .here (.cons .here .nil))))))⟩
def y2r (z3d : Sapi_Come) (z3e : Sapi_Come) : Option Int :=
 (y1h z3d.fTime z3e.fTime).bind fun ziM=>(y1h z3d.fSent z3e.fSent).bind fun ziN=>(y1h z3d.fNode z3e.fNode).bind fun ziO=>(y3z ([ziM,ziN,ziO] : List Int)).bind fun znV=>some znV
set_option maxRecDepth 20000 in
theorem y6T (Z : Zp)  (z3d : Sapi_Come) (z3e : Sapi_Come) (r : Int)
  (h : y2r z3d z3e = some r) (w₀ : World) (hz : PZ [] w₀ Z) :
  Calls Try.prog 43 #[(.agg #[(.int .i64 z3d.fSent),(.int .i64 z3d.fNode),(.int .i64 z3d.fTime)]),(.agg #[(.int .i64 z3e.fSent),(.int .i64 z3e.fNode),(.int .i64 z3e.fTime)])] w₀ fun e w'=>e = .returned (.int .i64 r) ∧ Hp [] w₀ w' []:=by
 unfold y2r at h
 refine Calls.yo (vs:=[(.agg #[(.int .i64 z3d.fSent),(.int .i64 z3d.fNode),(.int .i64 z3d.fTime)]),(.agg #[(.int .i64 z3e.fSent),(.int .i64 z3e.fNode),(.int .i64 z3e.fTime)])]) (pre:=[]) (env:=[(0,(.agg #[(.int .i64 z3d.fSent),(.int .i64 z3d.fNode),(.int .i64 z3d.fTime)])),(1,(.agg #[(.int .i64 z3e.fSent),(.int .i64 z3e.fNode),(.int .i64 z3e.fTime)]))]) Try.func43 rfl Try.ntmps43 rfl (Hp.nil w₀ _) rfl ?_
 refine WC.b (WC.a ?_)
 refine WL.new (dd:=2) rfl rfl rfl (y2h (cs:=[(.int .i64 z3d.fSent),(.int .i64 z3d.fNode),(.int .i64 z3d.fTime)]) rfl rfl) ?_
 intro zyq _
 refine WL.new (dd:=3) rfl rfl rfl (y2h (cs:=[(.int .i64 z3e.fSent),(.int .i64 z3e.fNode),(.int .i64 z3e.fTime)]) rfl rfl) ?_
 intro zyr _
 refine WL.pu rfl (WL.nil (WX.a (WC.b ?_)))
 obtain ⟨ziM,zt4,h⟩:=zn h
 obtain ⟨ziN,zt5,h⟩:=zn h
 obtain ⟨ziO,zt6,h⟩:=zn h
 obtain ⟨znV,zt7,h⟩:=zn h
 refine WC.yY (fun i=>[].contains i) [] rfl ?_
 refine WD.a (i:=0) (d:=5) (by kernel_rfl) rfl (z2 (by kernel_rfl)) (z3 (by kernel_rfl)) rfl rfl rfl (fun _=>ya y83 rfl rfl) ?_
 refine WD.e (i:=1) (d:=6) (by kernel_rfl) rfl (z2 (by kernel_rfl)) (z3 (by kernel_rfl)) rfl rfl rfl (yb yg rfl (yc .h1 rfl)) ?_
 refine WD.a (i:=2) (d:=7) (by kernel_rfl) rfl (z2 (by kernel_rfl)) (z3 (by kernel_rfl)) rfl rfl rfl (fun _=>ya y83 rfl rfl) ?_
 refine WD.e (i:=3) (d:=8) (by kernel_rfl) rfl (z2 (by kernel_rfl)) (z3 (by kernel_rfl)) rfl rfl rfl (yb yg rfl (yc .here rfl)) ?_
 refine WD.c (i:=4) (d:=9) (by kernel_rfl) rfl (z2 (by kernel_rfl)) (z3 (by kernel_rfl)) rfl rfl rfl (zF (l:=[.tmp 6,.tmp 8]) Try.call45 (.cons rfl (.cons rfl .nil))) (cc hz .nil fun w pz ho=>y2f _ _ _ _ zt4 w pz ) ?_
 refine WD.a (i:=5) (d:=10) (by kernel_rfl) rfl (z2 (by kernel_rfl)) (z3 (by kernel_rfl)) rfl rfl rfl (fun _=>ya y4l rfl rfl) ?_
 refine WD.e (i:=6) (d:=11) (by kernel_rfl) rfl (z2 (by kernel_rfl)) (z3 (by kernel_rfl)) rfl rfl rfl (yb yg rfl (yc .h1 rfl)) ?_
 refine WD.a (i:=7) (d:=12) (by kernel_rfl) rfl (z2 (by kernel_rfl)) (z3 (by kernel_rfl)) rfl rfl rfl (fun _=>ya y4l rfl rfl) ?_
 refine WD.e (i:=8) (d:=13) (by kernel_rfl) rfl (z2 (by kernel_rfl)) (z3 (by kernel_rfl)) rfl rfl rfl (yb yg rfl (yc .here rfl)) ?_
 refine WD.c (i:=9) (d:=14) (by kernel_rfl) rfl (z2 (by kernel_rfl)) (z3 (by kernel_rfl)) rfl rfl rfl (zF (l:=[.tmp 11,.tmp 13]) Try.call45 (.cons rfl (.cons rfl .nil))) (cc hz .nil fun w pz ho=>y2f _ _ _ _ zt5 w pz ) ?_
 refine WD.a (i:=10) (d:=15) (by kernel_rfl) rfl (z2 (by kernel_rfl)) (z3 (by kernel_rfl)) rfl rfl rfl (fun _=>ya y76 rfl rfl) ?_
 refine WD.e (i:=11) (d:=16) (by kernel_rfl) rfl (z2 (by kernel_rfl)) (z3 (by kernel_rfl)) rfl rfl rfl (yb yg rfl (yc .h1 rfl)) ?_
 refine WD.a (i:=12) (d:=17) (by kernel_rfl) rfl (z2 (by kernel_rfl)) (z3 (by kernel_rfl)) rfl rfl rfl (fun _=>ya y76 rfl rfl) ?_
 refine WD.e (i:=13) (d:=18) (by kernel_rfl) rfl (z2 (by kernel_rfl)) (z3 (by kernel_rfl)) rfl rfl rfl (yb yg rfl (yc .here rfl)) ?_
 refine WD.c (i:=14) (d:=19) (by kernel_rfl) rfl (z2 (by kernel_rfl)) (z3 (by kernel_rfl)) rfl rfl rfl (zF (l:=[.tmp 16,.tmp 18]) Try.call45 (.cons rfl (.cons rfl .nil))) (cc hz .nil fun w pz ho=>y2f _ _ _ _ zt6 w pz ) ?_
 refine WD.new (i:=15) (dd:=20) rfl (by kernel_rfl) rfl rfl rfl (y18 (cs:=([ziM,ziN,ziO] : List Int).flatMap e3) y4Y (Eos.parts (l:=[.tmp 9,.tmp 14,.tmp 19]) (.cons rfl (.cons rfl (.cons rfl .nil))) [0,1,2]) (fun _=>by kernel_rfl) rfl (by unfold maxLen; omega)) (fun h'=>absurd h' (by decide)) ?_
 intro zys _
 refine WD.c (i:=16) (d:=21) (by kernel_rfl) rfl (z2 (by kernel_rfl)) (z3 (by kernel_rfl)) rfl rfl rfl (zF (l:=[.tmp 20]) Try.call44 (.cons rfl .nil)) (ccl hz .nil (.cons .here .nil) fun w pz ho la=>y6Q _ _ _ _ _ zt7 w pz (ZA.row (la _ (.head _) _) (RR.y1q (enc:=e3) (fun _=>rfl) _) ⟨w,pz.1⟩)) ?_
 refine WD.a (i:=17) (d:=4) (by kernel_rfl) rfl (z2 (by kernel_rfl)) (z3 (by kernel_rfl)) rfl rfl rfl (fun _=>q_z rfl) ?_
 refine WD.done (by kernel_rfl) ?_
 refine WX.a (WC.ret ?_)
 obtain rfl:=Option.some.inj h
 refine WX.yi Try.results43 (.tmp rfl .nil) (fun w hw=>?_)
 exact ⟨y12 rfl,hw.sub .nil⟩
def yJ (z1u : Int) (z2K : Sapi_Come → Sapi_Come → Option Int) (z7F : (List Sapi_Come) → Option (List Sapi_Come)) : Nat → (List Sapi_Come) → Int → Option (List Sapi_Come)
 | 0,_,_=>none
 | ziP + 1,zg,z9=>(if decide (z9 > z1u) then chk ((0 : Int) ≤ z9 ∧ z9 < ((zg.length : Nat) : Int)) (chk ((0 : Int) ≤ (i64 (z9 - 1)) ∧ (i64 (z9 - 1)) < ((zg.length : Nat) : Int)) ((z2K (⟨((nth zg z9).fSent),((nth zg z9).fNode),((nth zg z9).fTime)⟩ : Sapi_Come) (⟨((nth zg (i64 (z9 - 1))).fSent),((nth zg (i64 (z9 - 1))).fNode),((nth zg (i64 (z9 - 1))).fTime)⟩ : Sapi_Come)).bind fun ziQ=>some (decide (ziQ < 0)))) else some false).bind fun ziR=>if ziR then chk ((0 : Int) ≤ (i64 (z9 - 1)) ∧ (i64 (z9 - 1)) < ((zg.length : Nat) : Int)) (chk ((0 : Int) ≤ z9 ∧ z9 < ((zg.length : Nat) : Int)) (chk ((0 : Int) ≤ (i64 (z9 - 1)) ∧ (i64 (z9 - 1)) < (((zg.set (z9 : Int).toNat (⟨((nth zg (i64 (z9 - 1))).fSent),((nth zg (i64 (z9 - 1))).fNode),((nth zg (i64 (z9 - 1))).fTime)⟩ : Sapi_Come)).length : Nat) : Int)) (yJ z1u z2K z7F ziP ((zg.set (z9 : Int).toNat (⟨((nth zg (i64 (z9 - 1))).fSent),((nth zg (i64 (z9 - 1))).fNode),((nth zg (i64 (z9 - 1))).fTime)⟩ : Sapi_Come)).set ((i64 (z9 - 1)) : Int).toNat (⟨((nth zg z9).fSent),((nth zg z9).fNode),((nth zg z9).fTime)⟩ : Sapi_Come)) (i64 (z9 - 1))))) else z7F zg
theorem y3l {n : Nat} {z1u : Int} {z2K : Sapi_Come → Sapi_Come → Option Int} {z7F : (List Sapi_Come) → Option (List Sapi_Come)} {zg : List Sapi_Come} {z9 : Int} {r : List Sapi_Come} (h : yJ z1u z2K z7F n zg z9 = some r) : ∃ m,n = m + 1:=by
 cases n with
 | zero=>cases h
 | succ m=>exact ⟨m,rfl⟩
def yx (z3f : Int) (z1u : Int) (z2K : Sapi_Come → Sapi_Come → Option Int) (z7G : (List Sapi_Come) → Option (List Sapi_Come)) : Nat → (List Sapi_Come) → Int → Option (List Sapi_Come)
 | 0,_,_=>none
 | ziS + 1,z3t,z2L=>if decide (z2L < z3f) then jp1 (fun (z54 : List Sapi_Come)=>yx z3f z1u z2K z7G ziS z54 (i64 (z2L + 1))) fun ziT=>jp1 (fun (z55 : List Sapi_Come)=>ziT z55) fun z7F=>yJ z1u z2K z7F yt z3t z2L else z7G z3t
theorem y3m {n : Nat} {z3f : Int} {z1u : Int} {z2K : Sapi_Come → Sapi_Come → Option Int} {z7G : (List Sapi_Come) → Option (List Sapi_Come)} {z3t : List Sapi_Come} {z2L : Int} {r : List Sapi_Come} (h : yx z3f z1u z2K z7G n z3t z2L = some r) : ∃ m,n = m + 1:=by
 cases n with
 | zero=>cases h
 | succ m=>exact ⟨m,rfl⟩
def yS (z1Q : List Sapi_Come) (z1u : Int) (z3f : Int) (z2K : Sapi_Come → Sapi_Come → Option Int) : Option (List Sapi_Come) :=
 jp1 (fun (z6B : List Sapi_Come)=>some z6B) fun z7G=>yx z3f z1u z2K z7G yt z1Q (i64 (z1u + 1))
set_option maxRecDepth 20000 in
theorem y2B (Z : Zp) (z2x : Option Addr) (z1N : Nat) (z3X : FuncId) (z56 : List Value) (z1Q : List Sapi_Come) (z1u : Int) (z3f : Int) (z2K : Sapi_Come → Sapi_Come → Option Int) (r : List Sapi_Come)
  (h : yS z1Q z1u z3f z2K = some r) (w₀ : World) (hz : PZ (fps [row (.slice z2x z1Q.length z1N) 50 3 (z1Q.flatMap e50)]) w₀ Z)
  (zt8 : ∀ args w,(callFunc z3X args).run Try.prog w = .ok (.enter z3X args) w)
  (zt9 : ∀ w : World,PZ [] w Z → ∀ (x0 : Sapi_Come) (x1 : Sapi_Come) (r : Int),z2K x0 x1 = some r → Calls Try.prog z3X (([(.agg #[(.int .i64 x0.fSent),(.int .i64 x0.fNode),(.int .i64 x0.fTime)]),(.agg #[(.int .i64 x1.fSent),(.int .i64 x1.fNode),(.int .i64 x1.fTime)])] : List Value) ++ z56).toArray w fun e w'=>e = .returned (.int .i64 r) ∧ Hp [] w w' [])
  (hown : Hp (fps [row (.slice z2x z1Q.length z1N) 50 3 (z1Q.flatMap e50)]) w₀ w₀ [row (.slice z2x z1Q.length z1N) 50 3 (z1Q.flatMap e50)]) :
  Calls Try.prog 66 #[(.slice z2x z1Q.length z1N),(.int .i64 z1u),(.int .i64 z3f),(.func (.func z3X) #[] (z56).toArray)] w₀ fun e w'=>e = .returned (.tuple #[]) ∧ (r.length = z1Q.length) ∧ Hp (fps [row (.slice z2x z1Q.length z1N) 50 3 (z1Q.flatMap e50)]) w₀ w' [row (.slice z2x r.length z1N) 50 3 (r.flatMap e50)]:=by
 unfold yS at h
 refine Calls.yo (vs:=[(.slice z2x z1Q.length z1N),(.int .i64 z1u),(.int .i64 z3f),(.func (.func z3X) #[] (z56).toArray)]) (pre:=[row (.slice z2x z1Q.length z1N) 50 3 (z1Q.flatMap e50)]) (env:=[(0,(.slice z2x z1Q.length z1N)),(1,(.int .i64 z1u)),(2,(.int .i64 z3f)),(3,(.func (.func z3X) #[] (z56).toArray))]) Try.func66 rfl Try.ntmps66 rfl (hown) rfl ?_
 refine WC.b (WC.a (WL.pu rfl (WL.pu rfl (WL.pu rfl (WL.nil (WX.a ?_))))))
 obtain ⟨z7G,zta,h⟩:=yZ h
 refine WC.y4K (fun (z6B : List Sapi_Come)=>(z7G z6B = some r) ∧ (z6B.length = z1Q.length)) (fun (z6B : List Sapi_Come)=>[]) (fun (z6B : List Sapi_Come)=>[row (.slice z2x z6B.length z1N) 50 3 (z6B.flatMap e50)]) ?_ ?_
 ·skip
  refine WC.block ?_
  refine WC.y26 (fun (zbt : Nat) (z3t : List Sapi_Come) (z2L : Int)=>(yx z3f z1u z2K z7G zbt z3t z2L = some r) ∧ (z3t.length = z1Q.length)) (fun (zbt : Nat) (z3t : List Sapi_Come) (z2L : Int)=>[(0,(.slice z2x z3t.length z1N)),(1,(.int .i64 z1u)),(2,(.int .i64 z3f)),(3,(.func (.func z3X) #[] (z56).toArray)),(8,(.int .i64 z2L))]) (fun (zbt : Nat) (z3t : List Sapi_Come) (z2L : Int)=>[row (.slice z2x z3t.length z1N) 50 3 (z3t.flatMap e50)]) (fun (zbt : Nat) (z3t : List Sapi_Come) (z2L : Int)=>zbt) ⟨yt,z1Q,(i64 (z1u + 1))⟩ ⟨h,rfl⟩ (.cons rfl (.cons rfl (.cons rfl (.cons rfl (.cons rfl .nil))))) (.cons .here .nil) ?_
  rintro zbt z3t z2L ⟨h,znW⟩
  obtain ⟨ziS,rfl⟩:=y3m h
  rw [yx] at h
  refine WC.b (WC.b (WC.a (WL.pu rfl (WL.pu rfl (WL.pu rfl (WL.nil (WX.a ?_)))))))
  refine WC.cond rfl (fun ziU=>?_) (fun ziU=>?_)
  ·replace h:=yl h ziU
   refine WC.skip (WX.a ?_)
   obtain ⟨ziT,ztb,h⟩:=yZ h
   refine WC.y1l (fun (z54 : List Sapi_Come)=>(ziT z54 = some r) ∧ (z54.length = z1Q.length)) (fun (z54 : List Sapi_Come)=>[(0,(.slice z2x z54.length z1N)),(1,(.int .i64 z1u)),(2,(.int .i64 z3f)),(3,(.func (.func z3X) #[] (z56).toArray)),(8,(.int .i64 z2L))]) (fun (z54 : List Sapi_Come)=>[row (.slice z2x z54.length z1N) 50 3 (z54.flatMap e50)]) ?_ ?_
   ·skip
    refine WC.block (WC.b (WC.a (WL.pu rfl (WL.pu rfl (WL.nil (WX.a ?_))))))
    obtain ⟨z7F,ztc,h⟩:=yZ h
    refine WC.y4K (fun (z55 : List Sapi_Come)=>(z7F z55 = some r) ∧ (z55.length = z1Q.length)) (fun (z55 : List Sapi_Come)=>[(0,(.slice z2x z55.length z1N)),(1,(.int .i64 z1u)),(2,(.int .i64 z3f)),(3,(.func (.func z3X) #[] (z56).toArray)),(8,(.int .i64 z2L))]) (fun (z55 : List Sapi_Come)=>[row (.slice z2x z55.length z1N) 50 3 (z55.flatMap e50)]) ?_ ?_
    ·skip
     refine WC.block ?_
     refine WC.y26 (fun (zbu : Nat) (zg : List Sapi_Come) (z9 : Int)=>(yJ z1u z2K z7F zbu zg z9 = some r) ∧ (zg.length = z1Q.length)) (fun (zbu : Nat) (zg : List Sapi_Come) (z9 : Int)=>[(0,(.slice z2x zg.length z1N)),(1,(.int .i64 z1u)),(2,(.int .i64 z3f)),(3,(.func (.func z3X) #[] (z56).toArray)),(8,(.int .i64 z2L)),(9,(.int .i64 z9))]) (fun (zbu : Nat) (zg : List Sapi_Come) (z9 : Int)=>[row (.slice z2x zg.length z1N) 50 3 (zg.flatMap e50)]) (fun (zbu : Nat) (zg : List Sapi_Come) (z9 : Int)=>zbu) ⟨yt,z3t,z2L⟩ ⟨h,znW⟩ (.cons rfl (.cons rfl (.cons rfl (.cons rfl (.cons rfl (.cons rfl .nil)))))) (.cons .here .nil) ?_
     rintro zbu zg z9 ⟨h,znX⟩
     obtain ⟨ziP,rfl⟩:=y3l h
     rw [yJ] at h
     refine WC.b (WC.b ?_)
     obtain ⟨ziR,znY,h⟩:=zn h
     refine WC.yY (fun i=>[].contains i) [] rfl ?_
     refine WD.a (i:=0) (d:=18) (by kernel_rfl) rfl (z2 (by kernel_rfl)) (z3 (by kernel_rfl)) rfl rfl rfl (fun _=>q_m rfl) ?_
     refine WD.a (i:=1) (d:=19) (by kernel_rfl) rfl (z2 (by kernel_rfl)) (z3 (by kernel_rfl)) rfl rfl rfl (fun _=>q_m rfl) ?_
     refine WD.a (i:=2) (d:=20) (by kernel_rfl) rfl (z2 (by kernel_rfl)) (z3 (by kernel_rfl)) rfl rfl rfl (fun _=>y3M rfl rfl) ?_
     refine WD.a (i:=3) (d:=21) (by kernel_rfl) rfl (z2 (by kernel_rfl)) (z3 (by kernel_rfl)) rfl rfl rfl (fun _=>q_m rfl) ?_
     refine WD.mid (fuel':=0) [(0,(.slice z2x zg.length z1N)),(1,(.int .i64 z1u)),(2,(.int .i64 z3f)),(3,(.func (.func z3X) #[] (z56).toArray)),(8,(.int .i64 z2L)),(9,(.int .i64 z9)),(18,(.int .i64 z9)),(19,(.int .i64 z1u)),(20,(.bool (decide (z9 > z1u)))),(21,(.bool (decide (z9 > z1u)))),(34,(.bool ziR))] (y1C 17 [16,15,14,13,12,11,10,9,8,7,6,5,4,3,2,1,0]) ?_ (fun znZ=>?_)
     rotate_left
     ·rcases Bool.eq_false_or_eq_true (decide (z9 > z1u)) with hb' | hb'
      ·have ziV:=hb'; clear hb'
       have z7H:=yl znY ziV
       obtain ⟨ze7,z7H⟩:=yj z7H
       obtain ⟨zfJ,z7H⟩:=yj z7H
       obtain ⟨ziQ,ztd,z7H⟩:=zn z7H
       replace z7H:=Option.some.inj z7H
       refine WD.pin (i:=21) rfl ziV ?_
       refine WD.a (i:=4) (d:=22) (by kernel_rfl) rfl (z2 (by kernel_rfl)) (z3 (by kernel_rfl)) rfl rfl rfl (fun _=>q_m rfl) ?_
       refine WD.a (i:=5) (d:=23) (by kernel_rfl) rfl (z2 (by kernel_rfl)) (z3 (by kernel_rfl)) rfl rfl rfl (fun _=>q_m rfl) ?_
       refine WD.a (i:=6) (d:=24) (by kernel_rfl) rfl (z2 (by kernel_rfl)) (z3 (by kernel_rfl)) rfl rfl rfl (fun _=>q_m rfl) ?_
       refine WD.know (fun w hw=>Hp.y2i .here hw (by intro hz'; have:=ze7; rw [hz'] at this; omega)) ?_
       rintro ⟨zyt,rfl⟩
       refine WD.a (i:=7) (d:=25) (by kernel_rfl) rfl (z2 (by kernel_rfl)) (z3 (by kernel_rfl)) rfl rfl rfl (fun _=>yr y19 rfl rfl ze7.1 ze7.2 y1b) ?_
       refine WD.e (i:=8) (d:=26) (by kernel_rfl) rfl (z2 (by kernel_rfl)) (z3 (by kernel_rfl)) rfl rfl rfl (y1H (cs:=(e50 (nth zg z9))) y23 rfl rfl (y1P .here (y1I (enc:=e50) (l:=zg) (i:=z9) (sz:=3) (fun _=>rfl) ze7.1 ze7.2))) ?_
       refine WD.a (i:=9) (d:=27) (by kernel_rfl) rfl (z2 (by kernel_rfl)) (z3 (by kernel_rfl)) rfl rfl rfl (fun _=>q_m rfl) ?_
       refine WD.a (i:=10) (d:=28) (by kernel_rfl) rfl (z2 (by kernel_rfl)) (z3 (by kernel_rfl)) rfl rfl rfl (fun _=>q_m rfl) ?_
       refine WD.a (i:=11) (d:=29) (by kernel_rfl) rfl (z2 (by kernel_rfl)) (z3 (by kernel_rfl)) rfl rfl rfl (fun _=>y4S rfl rfl rfl) ?_
       refine WD.a (i:=12) (d:=30) (by kernel_rfl) rfl (z2 (by kernel_rfl)) (z3 (by kernel_rfl)) rfl rfl rfl (fun _=>yr y19 rfl rfl zfJ.1 zfJ.2 y1b) ?_
       refine WD.e (i:=13) (d:=31) (by kernel_rfl) rfl (z2 (by kernel_rfl)) (z3 (by kernel_rfl)) rfl rfl rfl (y1H (cs:=(e50 (nth zg (i64 (z9 - 1))))) y23 rfl rfl (y1P .here (y1I (enc:=e50) (l:=zg) (i:=i64 (z9 - 1)) (sz:=3) (fun _=>rfl) zfJ.1 zfJ.2))) ?_
       refine WD.c (i:=14) (d:=32) (by kernel_rfl) rfl (z2 (by kernel_rfl)) (z3 (by kernel_rfl)) rfl rfl rfl (y3L (l:=[.tmp 26,.tmp 31]) (f:=z3X) (caps:=z56) zt8 rfl (.cons rfl (.cons rfl .nil))) (fun w hw=>zt9 w (hz.now hw) (⟨((nth zg z9).fSent),((nth zg z9).fNode),((nth zg z9).fTime)⟩ : Sapi_Come) (⟨((nth zg (i64 (z9 - 1))).fSent),((nth zg (i64 (z9 - 1))).fNode),((nth zg (i64 (z9 - 1))).fTime)⟩ : Sapi_Come) ziQ  ztd) ?_
       refine WD.a (i:=15) (d:=33) (by kernel_rfl) rfl (z2 (by kernel_rfl)) (z3 (by kernel_rfl)) rfl rfl rfl (fun _=>y3i rfl rfl) ?_
       refine WD.a (i:=16) (d:=34) (by kernel_rfl) rfl (z2 (by kernel_rfl)) (z3 (by kernel_rfl)) rfl rfl rfl (fun _=>y1o rfl rfl) ?_
       refine WD.yO (.cons .here .nil) ?_ znZ
       exact (.cons rfl (.cons rfl (.cons rfl (.cons rfl (.cons rfl (.cons rfl (.cons rfl (.cons rfl (.cons rfl (.cons (zm (Eq.symm ziV)) (.cons (zm z7H) .nil)))))))))))
      ·have ziW:=hb'; clear hb'
       have ziX:=ym znY ziW
       replace ziX:=Option.some.inj ziX
       refine WD.pin (i:=21) rfl ziW ?_
       refine WD.b (i:=4) (d:=22) (by kernel_rfl) rfl (z2 (by kernel_rfl)) (z3 (by kernel_rfl)) rfl rfl rfl ?_
       refine WD.b (i:=5) (d:=23) (by kernel_rfl) rfl (z2 (by kernel_rfl)) (z3 (by kernel_rfl)) rfl rfl rfl ?_
       refine WD.b (i:=6) (d:=24) (by kernel_rfl) rfl (z2 (by kernel_rfl)) (z3 (by kernel_rfl)) rfl rfl rfl ?_
       refine WD.b (i:=7) (d:=25) (by kernel_rfl) rfl (z2 (by kernel_rfl)) (z3 (by kernel_rfl)) rfl rfl rfl ?_
       refine WD.b (i:=8) (d:=26) (by kernel_rfl) rfl (z2 (by kernel_rfl)) (z3 (by kernel_rfl)) rfl rfl rfl ?_
       refine WD.b (i:=9) (d:=27) (by kernel_rfl) rfl (z2 (by kernel_rfl)) (z3 (by kernel_rfl)) rfl rfl rfl ?_
       refine WD.b (i:=10) (d:=28) (by kernel_rfl) rfl (z2 (by kernel_rfl)) (z3 (by kernel_rfl)) rfl rfl rfl ?_
       refine WD.b (i:=11) (d:=29) (by kernel_rfl) rfl (z2 (by kernel_rfl)) (z3 (by kernel_rfl)) rfl rfl rfl ?_
       refine WD.b (i:=12) (d:=30) (by kernel_rfl) rfl (z2 (by kernel_rfl)) (z3 (by kernel_rfl)) rfl rfl rfl ?_
       refine WD.b (i:=13) (d:=31) (by kernel_rfl) rfl (z2 (by kernel_rfl)) (z3 (by kernel_rfl)) rfl rfl rfl ?_
       refine WD.b (i:=14) (d:=32) (by kernel_rfl) rfl (z2 (by kernel_rfl)) (z3 (by kernel_rfl)) rfl rfl rfl ?_
       refine WD.b (i:=15) (d:=33) (by kernel_rfl) rfl (z2 (by kernel_rfl)) (z3 (by kernel_rfl)) rfl rfl rfl ?_
       refine WD.a (i:=16) (d:=34) (by kernel_rfl) rfl (z2 (by kernel_rfl)) (z3 (by kernel_rfl)) rfl rfl rfl (fun _=>y1p rfl rfl) ?_
       refine WD.yO (.cons .here .nil) ?_ znZ
       exact (.cons rfl (.cons rfl (.cons rfl (.cons rfl (.cons rfl (.cons rfl (.cons rfl (.cons rfl (.cons rfl (.cons (zm (Eq.symm ziW)) (.cons (zm ziX) .nil)))))))))))
     refine WD.done (by kernel_rfl) ?_
     refine WX.a ?_
     refine WC.cond rfl (fun ziY=>?_) (fun ziY=>?_)
     ·replace h:=yl h ziY
      refine WC.skip (WX.a (WC.b (WC.block ?_)))
      obtain ⟨ze8,h⟩:=yj h
      obtain ⟨z6C,h⟩:=yj h
      obtain ⟨zbv,h⟩:=yj h
      refine WC.yY (fun i=>[15,17].contains i) [] rfl ?_
      refine WD.a (i:=0) (d:=37) (by kernel_rfl) rfl (z2 (by kernel_rfl)) (z3 (by kernel_rfl)) rfl rfl rfl (fun _=>q_m rfl) ?_
      refine WD.a (i:=1) (d:=38) (by kernel_rfl) rfl (z2 (by kernel_rfl)) (z3 (by kernel_rfl)) rfl rfl rfl (fun _=>q_m rfl) ?_
      refine WD.a (i:=2) (d:=39) (by kernel_rfl) rfl (z2 (by kernel_rfl)) (z3 (by kernel_rfl)) rfl rfl rfl (fun _=>q_m rfl) ?_
      refine WD.a (i:=3) (d:=40) (by kernel_rfl) rfl (z2 (by kernel_rfl)) (z3 (by kernel_rfl)) rfl rfl rfl (fun _=>q_m rfl) ?_
      refine WD.a (i:=4) (d:=41) (by kernel_rfl) rfl (z2 (by kernel_rfl)) (z3 (by kernel_rfl)) rfl rfl rfl (fun _=>y4S rfl rfl rfl) ?_
      refine WD.a (i:=5) (d:=42) (by kernel_rfl) rfl (z2 (by kernel_rfl)) (z3 (by kernel_rfl)) rfl rfl rfl (fun _=>q_m rfl) ?_
      refine WD.a (i:=6) (d:=43) (by kernel_rfl) rfl (z2 (by kernel_rfl)) (z3 (by kernel_rfl)) rfl rfl rfl (fun _=>q_m rfl) ?_
      refine WD.a (i:=7) (d:=44) (by kernel_rfl) rfl (z2 (by kernel_rfl)) (z3 (by kernel_rfl)) rfl rfl rfl (fun _=>y4S rfl rfl rfl) ?_
      refine WD.know (fun w hw=>Hp.y2i .here hw (by intro hz'; have:=ze8; rw [hz'] at this; omega)) ?_
      rintro ⟨ze9,rfl⟩
      refine WD.a (i:=8) (d:=45) (by kernel_rfl) rfl (z2 (by kernel_rfl)) (z3 (by kernel_rfl)) rfl rfl rfl (fun _=>yr y19 rfl rfl ze8.1 ze8.2 y1b) ?_
      refine WD.e (i:=9) (d:=46) (by kernel_rfl) rfl (z2 (by kernel_rfl)) (z3 (by kernel_rfl)) rfl rfl rfl (y1H (cs:=(e50 (nth zg (i64 (z9 - 1))))) y23 rfl rfl (y1P .here (y1I (enc:=e50) (l:=zg) (i:=i64 (z9 - 1)) (sz:=3) (fun _=>rfl) ze8.1 ze8.2))) ?_
      refine WD.a (i:=10) (d:=47) (by kernel_rfl) rfl (z2 (by kernel_rfl)) (z3 (by kernel_rfl)) rfl rfl rfl (fun _=>q_m rfl) ?_
      refine WD.a (i:=11) (d:=48) (by kernel_rfl) rfl (z2 (by kernel_rfl)) (z3 (by kernel_rfl)) rfl rfl rfl (fun _=>q_m rfl) ?_
      refine WD.a (i:=12) (d:=49) (by kernel_rfl) rfl (z2 (by kernel_rfl)) (z3 (by kernel_rfl)) rfl rfl rfl (fun _=>yr y19 rfl rfl z6C.1 z6C.2 y1b) ?_
      refine WD.e (i:=13) (d:=50) (by kernel_rfl) rfl (z2 (by kernel_rfl)) (z3 (by kernel_rfl)) rfl rfl rfl (y1H (cs:=(e50 (nth zg z9))) y23 rfl rfl (y1P .here (y1I (enc:=e50) (l:=zg) (i:=z9) (sz:=3) (fun _=>rfl) z6C.1 z6C.2))) ?_
      refine WD.a (i:=14) (d:=51) (by kernel_rfl) rfl (z2 (by kernel_rfl)) (z3 (by kernel_rfl)) rfl rfl rfl (fun _=>yr y19 rfl rfl z6C.1 z6C.2 y1b) ?_
      refine WD.forced0 (i:=15) rfl (by kernel_rfl) rfl rfl rfl (Sin.of .nil) (y2t (vs:=[(.int .i64 ((nth zg (i64 (z9 - 1))).fSent)),(.int .i64 ((nth zg (i64 (z9 - 1))).fNode)),(.int .i64 ((nth zg (i64 (z9 - 1))).fTime))]) (ds:=(zg.set (z9 : Int).toNat (⟨((nth zg (i64 (z9 - 1))).fSent),((nth zg (i64 (z9 - 1))).fNode),((nth zg (i64 (z9 - 1))).fTime)⟩ : Sapi_Come)).flatMap e50) y41 rfl rfl rfl rfl (ocB rfl) .here (y3d (enc:=e50) (sz:=3) (k:=0) (fun _=>rfl) z6C.1 z6C.2 (by decide)) (y3b (enc:=e50) (l:=zg) (sz:=3) (vs:=[(.int .i64 ((nth zg (i64 (z9 - 1))).fSent)),(.int .i64 ((nth zg (i64 (z9 - 1))).fNode)),(.int .i64 ((nth zg (i64 (z9 - 1))).fTime))]) (y:=(⟨((nth zg (i64 (z9 - 1))).fSent),((nth zg (i64 (z9 - 1))).fNode),((nth zg (i64 (z9 - 1))).fTime)⟩ : Sapi_Come)) (k:=0) (fun _=>rfl) z6C.1 z6C.2 rfl (Nat.le_of_ble_eq_true rfl))) ?_
      refine WD.relen .here (u:=(.slice (some ⟨ze9,0,none⟩) ((zg.set (z9 : Int).toNat (⟨((nth zg (i64 (z9 - 1))).fSent),((nth zg (i64 (z9 - 1))).fNode),((nth zg (i64 (z9 - 1))).fTime)⟩ : Sapi_Come)).length) z1N)) (y1M (List.length_set).symm) ?_
      refine WD.repin (i:=0) rfl (u:=(.slice (some ⟨ze9,0,none⟩) ((zg.set (z9 : Int).toNat (⟨((nth zg (i64 (z9 - 1))).fSent),((nth zg (i64 (z9 - 1))).fNode),((nth zg (i64 (z9 - 1))).fTime)⟩ : Sapi_Come)).length) z1N)) (y1M (List.length_set).symm) ?_
      refine WD.repin (i:=39) rfl (u:=(.slice (some ⟨ze9,0,none⟩) ((zg.set (z9 : Int).toNat (⟨((nth zg (i64 (z9 - 1))).fSent),((nth zg (i64 (z9 - 1))).fNode),((nth zg (i64 (z9 - 1))).fTime)⟩ : Sapi_Come)).length) z1N)) (y1M (List.length_set).symm) ?_
      refine WD.a (i:=16) (d:=52) (by kernel_rfl) rfl (z2 (by kernel_rfl)) (z3 (by kernel_rfl)) rfl rfl rfl (fun _=>yr y19 rfl rfl zbv.1 zbv.2 y1b) ?_
      refine WD.y2D (i:=17) rfl (by kernel_rfl) rfl rfl rfl (by kernel_rfl) (y2t (vs:=[(.int .i64 ((nth zg z9).fSent)),(.int .i64 ((nth zg z9).fNode)),(.int .i64 ((nth zg z9).fTime))]) (ds:=((zg.set (z9 : Int).toNat (⟨((nth zg (i64 (z9 - 1))).fSent),((nth zg (i64 (z9 - 1))).fNode),((nth zg (i64 (z9 - 1))).fTime)⟩ : Sapi_Come)).set ((i64 (z9 - 1)) : Int).toNat (⟨((nth zg z9).fSent),((nth zg z9).fNode),((nth zg z9).fTime)⟩ : Sapi_Come)).flatMap e50) y41 rfl rfl rfl rfl (ocB rfl) .here (y3d (enc:=e50) (sz:=3) (k:=0) (fun _=>rfl) zbv.1 zbv.2 (by decide)) (y3b (enc:=e50) (l:=zg.set (z9 : Int).toNat (⟨((nth zg (i64 (z9 - 1))).fSent),((nth zg (i64 (z9 - 1))).fNode),((nth zg (i64 (z9 - 1))).fTime)⟩ : Sapi_Come)) (sz:=3) (vs:=[(.int .i64 ((nth zg z9).fSent)),(.int .i64 ((nth zg z9).fNode)),(.int .i64 ((nth zg z9).fTime))]) (y:=(⟨((nth zg z9).fSent),((nth zg z9).fNode),((nth zg z9).fTime)⟩ : Sapi_Come)) (k:=0) (fun _=>rfl) zbv.1 zbv.2 rfl (Nat.le_of_ble_eq_true rfl))) ?_
      refine WD.relen .here (u:=(.slice (some ⟨ze9,0,none⟩) (((zg.set (z9 : Int).toNat (⟨((nth zg (i64 (z9 - 1))).fSent),((nth zg (i64 (z9 - 1))).fNode),((nth zg (i64 (z9 - 1))).fTime)⟩ : Sapi_Come)).set ((i64 (z9 - 1)) : Int).toNat (⟨((nth zg z9).fSent),((nth zg z9).fNode),((nth zg z9).fTime)⟩ : Sapi_Come)).length) z1N)) (y1M (List.length_set).symm) ?_
      refine WD.repin (i:=0) rfl (u:=(.slice (some ⟨ze9,0,none⟩) (((zg.set (z9 : Int).toNat (⟨((nth zg (i64 (z9 - 1))).fSent),((nth zg (i64 (z9 - 1))).fNode),((nth zg (i64 (z9 - 1))).fTime)⟩ : Sapi_Come)).set ((i64 (z9 - 1)) : Int).toNat (⟨((nth zg z9).fSent),((nth zg z9).fNode),((nth zg z9).fTime)⟩ : Sapi_Come)).length) z1N)) (y1M (List.length_set).symm) ?_
      refine WD.done (by kernel_rfl) ?_
      refine WX.yh (WX.a (WC.a (WL.pu rfl (WL.pu rfl (WL.pu rfl (WL.nil ?_))))))
      exact WX.round (G:=Nat × List Sapi_Come × Int) ⟨ziP,((zg.set (z9 : Int).toNat (⟨((nth zg (i64 (z9 - 1))).fSent),((nth zg (i64 (z9 - 1))).fNode),((nth zg (i64 (z9 - 1))).fTime)⟩ : Sapi_Come)).set ((i64 (z9 - 1)) : Int).toNat (⟨((nth zg z9).fSent),((nth zg z9).fNode),((nth zg z9).fTime)⟩ : Sapi_Come)),(i64 (z9 - 1))⟩ ⟨h,((List.length_set).trans ((List.length_set).trans znX))⟩ (Nat.lt_succ_self _) (.cons rfl (.cons rfl (.cons rfl (.cons rfl (.cons rfl (.cons rfl .nil)))))) (.cons .here .nil)
     ·replace h:=ym h ziY
      refine WC.exit (WX.yd (WX.yd (WX.yy ?_)))
      exact WX.mid (G:=List Sapi_Come) zg ⟨h,znX⟩ (.cons rfl (.cons rfl (.cons rfl (.cons rfl (.cons rfl .nil))))) (.cons .here .nil)
    ·rintro z55 ⟨h,zte⟩
     replace h:=(ztc z55).symm.trans h
     refine WX.yh ?_
     exact WX.mid (G:=List Sapi_Come) z55 ⟨h,zte⟩ (.cons rfl (.cons rfl (.cons rfl (.cons rfl (.cons rfl .nil))))) (.cons .here .nil)
   ·rintro z54 ⟨h,ztf⟩
    replace h:=(ztb z54).symm.trans h
    refine WC.a (WL.pu rfl (WL.pu rfl (WL.pu rfl (WL.nil ?_))))
    exact WX.round (G:=Nat × List Sapi_Come × Int) ⟨ziS,z54,(i64 (z2L + 1))⟩ ⟨h,ztf⟩ (Nat.lt_succ_self _) (.cons rfl (.cons rfl (.cons rfl (.cons rfl (.cons rfl .nil))))) (.cons .here .nil)
  ·replace h:=ym h ziU
   refine WC.exit (WX.yd (WX.yd (WX.yy ?_)))
   exact WX.mid (G:=List Sapi_Come) z3t ⟨h,znW⟩ .nil (.cons .here .nil)
 ·rintro z6B ⟨h,ztg⟩
  replace h:=(zta z6B).symm.trans h
  obtain rfl:=Option.some.inj h
  refine WX.y1U Try.results66 .nil (fun w hw=>?_)
  exact ⟨y4n,ztg,hw.sub (.cons .here .nil)⟩
def yG (z4b : Int) (zJ : Int) (zT : Int) (z7I : (List Sapi_Come) → Option (List Sapi_Come)) : Nat → (List Sapi_Come) → Int → Option (List Sapi_Come)
 | 0,_,_=>none
 | ziZ + 1,zq,zi=>if decide (zi < z4b) then chk ((0 : Int) ≤ (i64 (zJ + zi)) ∧ (i64 (zJ + zi)) < ((zq.length : Nat) : Int)) (chk ((0 : Int) ≤ (i64 (zT + zi)) ∧ (i64 (zT + zi)) < ((zq.length : Nat) : Int)) (chk ((0 : Int) ≤ (i64 (zJ + zi)) ∧ (i64 (zJ + zi)) < (((zq.set ((i64 (zT + zi)) : Int).toNat (⟨((nth zq (i64 (zJ + zi))).fSent),((nth zq (i64 (zJ + zi))).fNode),((nth zq (i64 (zJ + zi))).fTime)⟩ : Sapi_Come)).length : Nat) : Int)) (yG z4b zJ zT z7I ziZ ((zq.set ((i64 (zT + zi)) : Int).toNat (⟨((nth zq (i64 (zJ + zi))).fSent),((nth zq (i64 (zJ + zi))).fNode),((nth zq (i64 (zJ + zi))).fTime)⟩ : Sapi_Come)).set ((i64 (zJ + zi)) : Int).toNat (⟨((nth zq (i64 (zT + zi))).fSent),((nth zq (i64 (zT + zi))).fNode),((nth zq (i64 (zT + zi))).fTime)⟩ : Sapi_Come)) (i64 (zi + 1))))) else z7I zq
theorem y3C {n : Nat} {z4b : Int} {zJ : Int} {zT : Int} {z7I : (List Sapi_Come) → Option (List Sapi_Come)} {zq : List Sapi_Come} {zi : Int} {r : List Sapi_Come} (h : yG z4b zJ zT z7I n zq zi = some r) : ∃ m,n = m + 1:=by
 cases n with
 | zero=>cases h
 | succ m=>exact ⟨m,rfl⟩
def y10 (z2h : List Sapi_Come) (zT : Int) (zJ : Int) (z4b : Int) (zbw : Sapi_Come → Sapi_Come → Option Int) : Option (List Sapi_Come) :=
 jp1 (fun (z6D : List Sapi_Come)=>some z6D) fun z7I=>yG z4b zJ zT z7I yt z2h 0
set_option maxRecDepth 20000 in
theorem y2g (Z : Zp) (z57 : Option Addr) (z3g : Nat) (z7J : FuncId) (z9N : List Value) (z2h : List Sapi_Come) (zT : Int) (zJ : Int) (z4b : Int) (zbw : Sapi_Come → Sapi_Come → Option Int) (r : List Sapi_Come)
  (h : y10 z2h zT zJ z4b zbw = some r) (w₀ : World) (hz : PZ (fps [row (.slice z57 z2h.length z3g) 50 3 (z2h.flatMap e50)]) w₀ Z)
  (zyu : ∀ args w,(callFunc z7J args).run Try.prog w = .ok (.enter z7J args) w)
  (zyv : ∀ w : World,PZ [] w Z → ∀ (x0 : Sapi_Come) (x1 : Sapi_Come) (r : Int),zbw x0 x1 = some r → Calls Try.prog z7J (([(.agg #[(.int .i64 x0.fSent),(.int .i64 x0.fNode),(.int .i64 x0.fTime)]),(.agg #[(.int .i64 x1.fSent),(.int .i64 x1.fNode),(.int .i64 x1.fTime)])] : List Value) ++ z9N).toArray w fun e w'=>e = .returned (.int .i64 r) ∧ Hp [] w w' [])
  (hown : Hp (fps [row (.slice z57 z2h.length z3g) 50 3 (z2h.flatMap e50)]) w₀ w₀ [row (.slice z57 z2h.length z3g) 50 3 (z2h.flatMap e50)]) :
  Calls Try.prog 69 #[(.slice z57 z2h.length z3g),(.int .i64 zT),(.int .i64 zJ),(.int .i64 z4b),(.func (.func z7J) #[] (z9N).toArray)] w₀ fun e w'=>e = .returned (.tuple #[]) ∧ (r.length = z2h.length) ∧ Hp (fps [row (.slice z57 z2h.length z3g) 50 3 (z2h.flatMap e50)]) w₀ w' [row (.slice z57 r.length z3g) 50 3 (r.flatMap e50)]:=by
 unfold y10 at h
 refine Calls.yo (vs:=[(.slice z57 z2h.length z3g),(.int .i64 zT),(.int .i64 zJ),(.int .i64 z4b),(.func (.func z7J) #[] (z9N).toArray)]) (pre:=[row (.slice z57 z2h.length z3g) 50 3 (z2h.flatMap e50)]) (env:=[(0,(.slice z57 z2h.length z3g)),(1,(.int .i64 zT)),(2,(.int .i64 zJ)),(3,(.int .i64 z4b)),(4,(.func (.func z7J) #[] (z9N).toArray))]) Try.func69 rfl Try.ntmps69 rfl (hown) rfl ?_
 refine WC.b (WC.a (WL.pu rfl (WL.nil (WX.a ?_))))
 obtain ⟨z7I,zth,h⟩:=yZ h
 refine WC.y4K (fun (z6D : List Sapi_Come)=>(z7I z6D = some r) ∧ (z6D.length = z2h.length)) (fun (z6D : List Sapi_Come)=>[]) (fun (z6D : List Sapi_Come)=>[row (.slice z57 z6D.length z3g) 50 3 (z6D.flatMap e50)]) ?_ ?_
 ·skip
  refine WC.block ?_
  refine WC.y26 (fun (zbx : Nat) (zq : List Sapi_Come) (zi : Int)=>(yG z4b zJ zT z7I zbx zq zi = some r) ∧ (zq.length = z2h.length)) (fun (zbx : Nat) (zq : List Sapi_Come) (zi : Int)=>[(0,(.slice z57 zq.length z3g)),(1,(.int .i64 zT)),(2,(.int .i64 zJ)),(3,(.int .i64 z4b)),(10,(.int .i64 zi))]) (fun (zbx : Nat) (zq : List Sapi_Come) (zi : Int)=>[row (.slice z57 zq.length z3g) 50 3 (zq.flatMap e50)]) (fun (zbx : Nat) (zq : List Sapi_Come) (zi : Int)=>zbx) ⟨yt,z2h,0⟩ ⟨h,rfl⟩ (.cons rfl (.cons rfl (.cons rfl (.cons rfl (.cons rfl .nil))))) (.cons .here .nil) ?_
  rintro zbx zq zi ⟨h,zo0⟩
  obtain ⟨ziZ,rfl⟩:=y3C h
  rw [yG] at h
  refine WC.b (WC.b (WC.a (WL.pu rfl (WL.pu rfl (WL.pu rfl (WL.nil (WX.a ?_)))))))
  refine WC.cond rfl (fun zj0=>?_) (fun zj0=>?_)
  ·replace h:=yl h zj0
   refine WC.skip (WX.a (WC.b (WC.block ?_)))
   obtain ⟨zea,h⟩:=yj h
   obtain ⟨z6E,h⟩:=yj h
   obtain ⟨zby,h⟩:=yj h
   refine WC.yY (fun i=>[21,23].contains i) [] rfl ?_
   refine WD.a (i:=0) (d:=16) (by kernel_rfl) rfl (z2 (by kernel_rfl)) (z3 (by kernel_rfl)) rfl rfl rfl (fun _=>q_m rfl) ?_
   refine WD.a (i:=1) (d:=17) (by kernel_rfl) rfl (z2 (by kernel_rfl)) (z3 (by kernel_rfl)) rfl rfl rfl (fun _=>q_m rfl) ?_
   refine WD.a (i:=2) (d:=18) (by kernel_rfl) rfl (z2 (by kernel_rfl)) (z3 (by kernel_rfl)) rfl rfl rfl (fun _=>q_m rfl) ?_
   refine WD.a (i:=3) (d:=19) (by kernel_rfl) rfl (z2 (by kernel_rfl)) (z3 (by kernel_rfl)) rfl rfl rfl (fun _=>y4s rfl rfl rfl) ?_
   refine WD.a (i:=4) (d:=20) (by kernel_rfl) rfl (z2 (by kernel_rfl)) (z3 (by kernel_rfl)) rfl rfl rfl (fun _=>q_m rfl) ?_
   refine WD.a (i:=5) (d:=21) (by kernel_rfl) rfl (z2 (by kernel_rfl)) (z3 (by kernel_rfl)) rfl rfl rfl (fun _=>q_m rfl) ?_
   refine WD.a (i:=6) (d:=22) (by kernel_rfl) rfl (z2 (by kernel_rfl)) (z3 (by kernel_rfl)) rfl rfl rfl (fun _=>q_m rfl) ?_
   refine WD.a (i:=7) (d:=23) (by kernel_rfl) rfl (z2 (by kernel_rfl)) (z3 (by kernel_rfl)) rfl rfl rfl (fun _=>y4s rfl rfl rfl) ?_
   refine WD.a (i:=8) (d:=24) (by kernel_rfl) rfl (z2 (by kernel_rfl)) (z3 (by kernel_rfl)) rfl rfl rfl (fun _=>q_m rfl) ?_
   refine WD.a (i:=9) (d:=25) (by kernel_rfl) rfl (z2 (by kernel_rfl)) (z3 (by kernel_rfl)) rfl rfl rfl (fun _=>q_m rfl) ?_
   refine WD.a (i:=10) (d:=26) (by kernel_rfl) rfl (z2 (by kernel_rfl)) (z3 (by kernel_rfl)) rfl rfl rfl (fun _=>q_m rfl) ?_
   refine WD.a (i:=11) (d:=27) (by kernel_rfl) rfl (z2 (by kernel_rfl)) (z3 (by kernel_rfl)) rfl rfl rfl (fun _=>y4s rfl rfl rfl) ?_
   refine WD.know (fun w hw=>Hp.y2i .here hw (by intro hz'; have:=zea; rw [hz'] at this; omega)) ?_
   rintro ⟨zeb,rfl⟩
   refine WD.a (i:=12) (d:=28) (by kernel_rfl) rfl (z2 (by kernel_rfl)) (z3 (by kernel_rfl)) rfl rfl rfl (fun _=>yr y19 rfl rfl zea.1 zea.2 y1b) ?_
   refine WD.e (i:=13) (d:=29) (by kernel_rfl) rfl (z2 (by kernel_rfl)) (z3 (by kernel_rfl)) rfl rfl rfl (y1H (cs:=(e50 (nth zq (i64 (zJ + zi))))) y23 rfl rfl (y1P .here (y1I (enc:=e50) (l:=zq) (i:=i64 (zJ + zi)) (sz:=3) (fun _=>rfl) zea.1 zea.2))) ?_
   refine WD.a (i:=14) (d:=30) (by kernel_rfl) rfl (z2 (by kernel_rfl)) (z3 (by kernel_rfl)) rfl rfl rfl (fun _=>q_m rfl) ?_
   refine WD.a (i:=15) (d:=31) (by kernel_rfl) rfl (z2 (by kernel_rfl)) (z3 (by kernel_rfl)) rfl rfl rfl (fun _=>q_m rfl) ?_
   refine WD.a (i:=16) (d:=32) (by kernel_rfl) rfl (z2 (by kernel_rfl)) (z3 (by kernel_rfl)) rfl rfl rfl (fun _=>q_m rfl) ?_
   refine WD.a (i:=17) (d:=33) (by kernel_rfl) rfl (z2 (by kernel_rfl)) (z3 (by kernel_rfl)) rfl rfl rfl (fun _=>y4s rfl rfl rfl) ?_
   refine WD.a (i:=18) (d:=34) (by kernel_rfl) rfl (z2 (by kernel_rfl)) (z3 (by kernel_rfl)) rfl rfl rfl (fun _=>yr y19 rfl rfl z6E.1 z6E.2 y1b) ?_
   refine WD.e (i:=19) (d:=35) (by kernel_rfl) rfl (z2 (by kernel_rfl)) (z3 (by kernel_rfl)) rfl rfl rfl (y1H (cs:=(e50 (nth zq (i64 (zT + zi))))) y23 rfl rfl (y1P .here (y1I (enc:=e50) (l:=zq) (i:=i64 (zT + zi)) (sz:=3) (fun _=>rfl) z6E.1 z6E.2))) ?_
   refine WD.a (i:=20) (d:=36) (by kernel_rfl) rfl (z2 (by kernel_rfl)) (z3 (by kernel_rfl)) rfl rfl rfl (fun _=>yr y19 rfl rfl z6E.1 z6E.2 y1b) ?_
   refine WD.forced0 (i:=21) rfl (by kernel_rfl) rfl rfl rfl (Sin.of .nil) (y2t (vs:=[(.int .i64 ((nth zq (i64 (zJ + zi))).fSent)),(.int .i64 ((nth zq (i64 (zJ + zi))).fNode)),(.int .i64 ((nth zq (i64 (zJ + zi))).fTime))]) (ds:=(zq.set ((i64 (zT + zi)) : Int).toNat (⟨((nth zq (i64 (zJ + zi))).fSent),((nth zq (i64 (zJ + zi))).fNode),((nth zq (i64 (zJ + zi))).fTime)⟩ : Sapi_Come)).flatMap e50) y41 rfl rfl rfl rfl (ocB rfl) .here (y3d (enc:=e50) (sz:=3) (k:=0) (fun _=>rfl) z6E.1 z6E.2 (by decide)) (y3b (enc:=e50) (l:=zq) (sz:=3) (vs:=[(.int .i64 ((nth zq (i64 (zJ + zi))).fSent)),(.int .i64 ((nth zq (i64 (zJ + zi))).fNode)),(.int .i64 ((nth zq (i64 (zJ + zi))).fTime))]) (y:=(⟨((nth zq (i64 (zJ + zi))).fSent),((nth zq (i64 (zJ + zi))).fNode),((nth zq (i64 (zJ + zi))).fTime)⟩ : Sapi_Come)) (k:=0) (fun _=>rfl) z6E.1 z6E.2 rfl (Nat.le_of_ble_eq_true rfl))) ?_
   refine WD.relen .here (u:=(.slice (some ⟨zeb,0,none⟩) ((zq.set ((i64 (zT + zi)) : Int).toNat (⟨((nth zq (i64 (zJ + zi))).fSent),((nth zq (i64 (zJ + zi))).fNode),((nth zq (i64 (zJ + zi))).fTime)⟩ : Sapi_Come)).length) z3g)) (y1M (List.length_set).symm) ?_
   refine WD.repin (i:=0) rfl (u:=(.slice (some ⟨zeb,0,none⟩) ((zq.set ((i64 (zT + zi)) : Int).toNat (⟨((nth zq (i64 (zJ + zi))).fSent),((nth zq (i64 (zJ + zi))).fNode),((nth zq (i64 (zJ + zi))).fTime)⟩ : Sapi_Come)).length) z3g)) (y1M (List.length_set).symm) ?_
   refine WD.repin (i:=20) rfl (u:=(.slice (some ⟨zeb,0,none⟩) ((zq.set ((i64 (zT + zi)) : Int).toNat (⟨((nth zq (i64 (zJ + zi))).fSent),((nth zq (i64 (zJ + zi))).fNode),((nth zq (i64 (zJ + zi))).fTime)⟩ : Sapi_Come)).length) z3g)) (y1M (List.length_set).symm) ?_
   refine WD.a (i:=22) (d:=37) (by kernel_rfl) rfl (z2 (by kernel_rfl)) (z3 (by kernel_rfl)) rfl rfl rfl (fun _=>yr y19 rfl rfl zby.1 zby.2 y1b) ?_
   refine WD.y2D (i:=23) rfl (by kernel_rfl) rfl rfl rfl (by kernel_rfl) (y2t (vs:=[(.int .i64 ((nth zq (i64 (zT + zi))).fSent)),(.int .i64 ((nth zq (i64 (zT + zi))).fNode)),(.int .i64 ((nth zq (i64 (zT + zi))).fTime))]) (ds:=((zq.set ((i64 (zT + zi)) : Int).toNat (⟨((nth zq (i64 (zJ + zi))).fSent),((nth zq (i64 (zJ + zi))).fNode),((nth zq (i64 (zJ + zi))).fTime)⟩ : Sapi_Come)).set ((i64 (zJ + zi)) : Int).toNat (⟨((nth zq (i64 (zT + zi))).fSent),((nth zq (i64 (zT + zi))).fNode),((nth zq (i64 (zT + zi))).fTime)⟩ : Sapi_Come)).flatMap e50) y41 rfl rfl rfl rfl (ocB rfl) .here (y3d (enc:=e50) (sz:=3) (k:=0) (fun _=>rfl) zby.1 zby.2 (by decide)) (y3b (enc:=e50) (l:=zq.set ((i64 (zT + zi)) : Int).toNat (⟨((nth zq (i64 (zJ + zi))).fSent),((nth zq (i64 (zJ + zi))).fNode),((nth zq (i64 (zJ + zi))).fTime)⟩ : Sapi_Come)) (sz:=3) (vs:=[(.int .i64 ((nth zq (i64 (zT + zi))).fSent)),(.int .i64 ((nth zq (i64 (zT + zi))).fNode)),(.int .i64 ((nth zq (i64 (zT + zi))).fTime))]) (y:=(⟨((nth zq (i64 (zT + zi))).fSent),((nth zq (i64 (zT + zi))).fNode),((nth zq (i64 (zT + zi))).fTime)⟩ : Sapi_Come)) (k:=0) (fun _=>rfl) zby.1 zby.2 rfl (Nat.le_of_ble_eq_true rfl))) ?_
   refine WD.relen .here (u:=(.slice (some ⟨zeb,0,none⟩) (((zq.set ((i64 (zT + zi)) : Int).toNat (⟨((nth zq (i64 (zJ + zi))).fSent),((nth zq (i64 (zJ + zi))).fNode),((nth zq (i64 (zJ + zi))).fTime)⟩ : Sapi_Come)).set ((i64 (zJ + zi)) : Int).toNat (⟨((nth zq (i64 (zT + zi))).fSent),((nth zq (i64 (zT + zi))).fNode),((nth zq (i64 (zT + zi))).fTime)⟩ : Sapi_Come)).length) z3g)) (y1M (List.length_set).symm) ?_
   refine WD.repin (i:=0) rfl (u:=(.slice (some ⟨zeb,0,none⟩) (((zq.set ((i64 (zT + zi)) : Int).toNat (⟨((nth zq (i64 (zJ + zi))).fSent),((nth zq (i64 (zJ + zi))).fNode),((nth zq (i64 (zJ + zi))).fTime)⟩ : Sapi_Come)).set ((i64 (zJ + zi)) : Int).toNat (⟨((nth zq (i64 (zT + zi))).fSent),((nth zq (i64 (zT + zi))).fNode),((nth zq (i64 (zT + zi))).fTime)⟩ : Sapi_Come)).length) z3g)) (y1M (List.length_set).symm) ?_
   refine WD.done (by kernel_rfl) ?_
   refine WX.yh (WX.a (WC.a (WL.pu rfl (WL.pu rfl (WL.pu rfl (WL.nil ?_))))))
   exact WX.round (G:=Nat × List Sapi_Come × Int) ⟨ziZ,((zq.set ((i64 (zT + zi)) : Int).toNat (⟨((nth zq (i64 (zJ + zi))).fSent),((nth zq (i64 (zJ + zi))).fNode),((nth zq (i64 (zJ + zi))).fTime)⟩ : Sapi_Come)).set ((i64 (zJ + zi)) : Int).toNat (⟨((nth zq (i64 (zT + zi))).fSent),((nth zq (i64 (zT + zi))).fNode),((nth zq (i64 (zT + zi))).fTime)⟩ : Sapi_Come)),(i64 (zi + 1))⟩ ⟨h,((List.length_set).trans ((List.length_set).trans zo0))⟩ (Nat.lt_succ_self _) (.cons rfl (.cons rfl (.cons rfl (.cons rfl (.cons rfl .nil))))) (.cons .here .nil)
  ·replace h:=ym h zj0
   refine WC.exit (WX.yd (WX.yd (WX.yy ?_)))
   exact WX.mid (G:=List Sapi_Come) zq ⟨h,zo0⟩ .nil (.cons .here .nil)
 ·rintro z6D ⟨h,zti⟩
  replace h:=(zth z6D).symm.trans h
  obtain rfl:=Option.some.inj h
  refine WX.y1U Try.results69 .nil (fun w hw=>?_)
  exact ⟨y4n,zti,hw.sub (.cons .here .nil)⟩
def yP (z1O : Int) (z3h : Sapi_Come → Sapi_Come → Option Int) (z6F : (List Sapi_Come) → Int → Option (List Sapi_Come)) : Nat → (List Sapi_Come) → Int → Int → Option (List Sapi_Come)
 | 0,_,_,_=>none
 | zec + 1,z3u,z1R,z2y=>if decide (z1R ≠ z2y) then if decide (z1R > z2y) then (y10 z3u (i64 (z1O - z1R)) z1O z2y z3h).bind fun zfK=>yP z1O z3h z6F zec zfK (i64 (z1R - z2y)) z2y else (y10 z3u (i64 (z1O - z1R)) (i64 ((i64 (z1O + z2y)) - z1R)) z1R z3h).bind fun zfL=>yP z1O z3h z6F zec zfL z1R (i64 (z2y - z1R)) else z6F z3u z1R
theorem y3S {n : Nat} {z1O : Int} {z3h : Sapi_Come → Sapi_Come → Option Int} {z6F : (List Sapi_Come) → Int → Option (List Sapi_Come)} {z3u : List Sapi_Come} {z1R : Int} {z2y : Int} {r : List Sapi_Come} (h : yP z1O z3h z6F n z3u z1R z2y = some r) : ∃ m,n = m + 1:=by
 cases n with
 | zero=>cases h
 | succ m=>exact ⟨m,rfl⟩
def y1y (z2i : List Sapi_Come) (z9O : Int) (z1O : Int) (z9P : Int) (z3h : Sapi_Come → Sapi_Come → Option Int) : Option (List Sapi_Come) :=
 jp2 (fun (z5v : List Sapi_Come) (z7K : Int)=>(y10 z5v (i64 (z1O - z7K)) z1O z7K z3h).bind fun zj1=>some zj1) fun z6F=>yP z1O z3h z6F yt z2i (i64 (z1O - z9O)) (i64 (z9P - z1O))
set_option maxRecDepth 20000 in
theorem y4x (Z : Zp) (z3v : Option Addr) (z3w : Nat) (z58 : FuncId) (z6G : List Value) (z2i : List Sapi_Come) (z9O : Int) (z1O : Int) (z9P : Int) (z3h : Sapi_Come → Sapi_Come → Option Int) (r : List Sapi_Come)
  (h : y1y z2i z9O z1O z9P z3h = some r) (w₀ : World) (hz : PZ (fps [row (.slice z3v z2i.length z3w) 50 3 (z2i.flatMap e50)]) w₀ Z)
  (zj2 : ∀ args w,(callFunc z58 args).run Try.prog w = .ok (.enter z58 args) w)
  (zj3 : ∀ w : World,PZ [] w Z → ∀ (x0 : Sapi_Come) (x1 : Sapi_Come) (r : Int),z3h x0 x1 = some r → Calls Try.prog z58 (([(.agg #[(.int .i64 x0.fSent),(.int .i64 x0.fNode),(.int .i64 x0.fTime)]),(.agg #[(.int .i64 x1.fSent),(.int .i64 x1.fNode),(.int .i64 x1.fTime)])] : List Value) ++ z6G).toArray w fun e w'=>e = .returned (.int .i64 r) ∧ Hp [] w w' [])
  (hown : Hp (fps [row (.slice z3v z2i.length z3w) 50 3 (z2i.flatMap e50)]) w₀ w₀ [row (.slice z3v z2i.length z3w) 50 3 (z2i.flatMap e50)]) :
  Calls Try.prog 68 #[(.slice z3v z2i.length z3w),(.int .i64 z9O),(.int .i64 z1O),(.int .i64 z9P),(.func (.func z58) #[] (z6G).toArray)] w₀ fun e w'=>e = .returned (.tuple #[]) ∧ (r.length = z2i.length) ∧ Hp (fps [row (.slice z3v z2i.length z3w) 50 3 (z2i.flatMap e50)]) w₀ w' [row (.slice z3v r.length z3w) 50 3 (r.flatMap e50)]:=by
 unfold y1y at h
 refine Calls.yo (vs:=[(.slice z3v z2i.length z3w),(.int .i64 z9O),(.int .i64 z1O),(.int .i64 z9P),(.func (.func z58) #[] (z6G).toArray)]) (pre:=[row (.slice z3v z2i.length z3w) 50 3 (z2i.flatMap e50)]) (env:=[(0,(.slice z3v z2i.length z3w)),(1,(.int .i64 z9O)),(2,(.int .i64 z1O)),(3,(.int .i64 z9P)),(4,(.func (.func z58) #[] (z6G).toArray))]) Try.func68 rfl Try.ntmps68 rfl (hown) rfl ?_
 refine WC.b (WC.a (WL.pu rfl (WL.pu rfl (WL.pu rfl (WL.pu rfl (WL.nil (WX.a (WC.b (WC.a (WL.pu rfl (WL.pu rfl (WL.pu rfl (WL.pu rfl (WL.nil (WX.a ?_)))))))))))))))
 obtain ⟨z6F,ztj,h⟩:=y3c h
 refine WC.y2v (fun (z5v : List Sapi_Come) (z7K : Int)=>(z6F z5v z7K = some r) ∧ (z5v.length = z2i.length)) (fun (z5v : List Sapi_Come) (z7K : Int)=>[(0,(.slice z3v z5v.length z3w)),(2,(.int .i64 z1O)),(4,(.func (.func z58) #[] (z6G).toArray)),(10,(.int .i64 z7K))]) (fun (z5v : List Sapi_Come) (z7K : Int)=>[row (.slice z3v z5v.length z3w) 50 3 (z5v.flatMap e50)]) ?_ ?_
 ·skip
  refine WC.block ?_
  refine WC.y5j (fun (zbz : Nat) (z3u : List Sapi_Come) (z1R : Int) (z2y : Int)=>(yP z1O z3h z6F zbz z3u z1R z2y = some r) ∧ (z3u.length = z2i.length)) (fun (zbz : Nat) (z3u : List Sapi_Come) (z1R : Int) (z2y : Int)=>[(0,(.slice z3v z3u.length z3w)),(2,(.int .i64 z1O)),(4,(.func (.func z58) #[] (z6G).toArray)),(10,(.int .i64 z1R)),(11,(.int .i64 z2y))]) (fun (zbz : Nat) (z3u : List Sapi_Come) (z1R : Int) (z2y : Int)=>[row (.slice z3v z3u.length z3w) 50 3 (z3u.flatMap e50)]) (fun (zbz : Nat) (z3u : List Sapi_Come) (z1R : Int) (z2y : Int)=>zbz) ⟨yt,z2i,(i64 (z1O - z9O)),(i64 (z9P - z1O))⟩ ⟨h,rfl⟩ (.cons rfl (.cons rfl (.cons rfl (.cons rfl (.cons rfl .nil))))) (.cons .here .nil) ?_
  rintro zbz z3u z1R z2y ⟨h,zj4⟩
  obtain ⟨zec,rfl⟩:=y3S h
  rw [yP] at h
  refine WC.b (WC.b (WC.a (WL.pu rfl (WL.pu rfl (WL.pu rfl (WL.nil (WX.a ?_)))))))
  refine WC.cond rfl (fun zj5=>?_) (fun zj5=>?_)
  ·replace h:=yl h zj5
   refine WC.skip (WX.a (WC.block (WC.b (WC.a (WL.pu rfl (WL.pu rfl (WL.pu rfl (WL.nil (WX.a ?_)))))))))
   refine WC.cond rfl (fun zj6=>?_) (fun zj6=>?_)
   ·replace h:=yl h zj6
    refine WC.b ?_
    obtain ⟨zfK,ztk,h⟩:=zn h
    refine WC.a (WL.pu rfl (WL.pu rfl (WL.pu rfl (WL.pu rfl (WL.pu rfl (WL.pu rfl (WL.pu rfl ?_)))))))
    refine WL.y1N (dd:=31) rfl rfl rfl (zF (l:=[.tmp 24,.tmp 27,.tmp 28,.tmp 29,.tmp 30]) Try.call69 (.cons rfl (.cons rfl (.cons rfl (.cons rfl (.cons rfl .nil)))))) (.cons .here .nil) (cc hz (.cons .here .nil) fun w pz ho=>y2g _ _ _ (z7J:=z58) (z9N:=z6G) _ _ _ _ (zbw:=z3h) _ ztk w pz zj2 zj3 ho) ?_
    rintro  zo1
    refine WL.repin (i:=0) rfl (u:=(.slice z3v zfK.length z3w)) (y1M zo1.symm) ?_
    refine WL.nil (WX.a (WC.a (WL.pu rfl (WL.pu rfl (WL.pu rfl (WL.pu rfl (WL.nil (WX.yh ?_))))))))
    exact WX.round (G:=Nat × List Sapi_Come × Int × Int) ⟨zec,zfK,(i64 (z1R - z2y)),z2y⟩ ⟨h,(zo1.trans zj4)⟩ (Nat.lt_succ_self _) (.cons rfl (.cons rfl (.cons rfl (.cons rfl (.cons rfl .nil))))) (.cons .here .nil)
   ·replace h:=ym h zj6
    refine WC.b ?_
    obtain ⟨zfL,ztl,h⟩:=zn h
    refine WC.a (WL.pu rfl (WL.pu rfl (WL.pu rfl (WL.pu rfl (WL.pu rfl (WL.pu rfl (WL.pu rfl (WL.pu rfl (WL.pu rfl (WL.pu rfl (WL.pu rfl ?_)))))))))))
    refine WL.y1N (dd:=46) rfl rfl rfl (zF (l:=[.tmp 35,.tmp 38,.tmp 43,.tmp 44,.tmp 45]) Try.call69 (.cons rfl (.cons rfl (.cons rfl (.cons rfl (.cons rfl .nil)))))) (.cons .here .nil) (cc hz (.cons .here .nil) fun w pz ho=>y2g _ _ _ (z7J:=z58) (z9N:=z6G) _ _ _ _ (zbw:=z3h) _ ztl w pz zj2 zj3 ho) ?_
    rintro  zo2
    refine WL.repin (i:=0) rfl (u:=(.slice z3v zfL.length z3w)) (y1M zo2.symm) ?_
    refine WL.nil (WX.a (WC.a (WL.pu rfl (WL.pu rfl (WL.pu rfl (WL.pu rfl (WL.nil (WX.yh ?_))))))))
    exact WX.round (G:=Nat × List Sapi_Come × Int × Int) ⟨zec,zfL,z1R,(i64 (z2y - z1R))⟩ ⟨h,(zo2.trans zj4)⟩ (Nat.lt_succ_self _) (.cons rfl (.cons rfl (.cons rfl (.cons rfl (.cons rfl .nil))))) (.cons .here .nil)
  ·replace h:=ym h zj5
   refine WC.exit (WX.yd (WX.yd (WX.yy ?_)))
   exact WX.mid (G:=List Sapi_Come × Int) ⟨z3u,z1R⟩ ⟨h,zj4⟩ (.cons rfl (.cons rfl (.cons rfl (.cons rfl .nil)))) (.cons .here .nil)
 ·rintro z5v z7K ⟨h,ztm⟩
  replace h:=(ztj z5v z7K).symm.trans h
  obtain ⟨zj1,ztn,h⟩:=zn h
  refine WC.a (WL.pu rfl (WL.pu rfl (WL.pu rfl (WL.pu rfl (WL.pu rfl (WL.pu rfl (WL.pu rfl ?_)))))))
  refine WL.y1N (dd:=57) rfl rfl rfl (zF (l:=[.tmp 50,.tmp 53,.tmp 54,.tmp 55,.tmp 56]) Try.call69 (.cons rfl (.cons rfl (.cons rfl (.cons rfl (.cons rfl .nil)))))) (.cons .here .nil) (cc hz (.cons .here .nil) fun w pz ho=>y2g _ _ _ (z7J:=z58) (z9N:=z6G) _ _ _ _ (zbw:=z3h) _ ztn w pz zj2 zj3 ho) ?_
  rintro  zo3
  refine WL.repin (i:=0) rfl (u:=(.slice z3v zj1.length z3w)) (y1M zo3.symm) ?_
  refine WL.nil ?_
  obtain rfl:=Option.some.inj h
  refine WX.y1U Try.results68 .nil (fun w hw=>?_)
  exact ⟨y4n,(zo3.trans ztm),hw.sub (.cons .here .nil)⟩
end Go.Proofs.Ytinchjigeakocaa

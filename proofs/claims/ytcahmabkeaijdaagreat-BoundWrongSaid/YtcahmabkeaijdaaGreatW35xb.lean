/- A part of this claim's proof: models of functions, walks, plain laws. No conditions. -/
import Derived.Test.YtcahmabkeaijdaaGreatW35xa
set_option linter.all false
namespace Go.Proofs.YtcahmabkeaijdaaGreat
open Go Go.RowKit Sep
set_option maxRecDepth 30000
set_option maxHeartbeats 4000000
def y3o (z19 : List (List Sapi_Hop)) (z1m : Int) (z9q : (List Sbound_place) → Option (List Sbound_place)) : Nat → (List Sbound_place) → Int → Option (List Sbound_place)
 | 0,_,_=>none
 | zqC + 1,z2N,z2O=>if decide (z2O < (((nth z19 z1m).length : Nat) : Int)) then jp1 (fun (z7v : List Sbound_place)=>y3o z19 z1m z9q zqC z7v (i64 (z2O + 1))) fun zm9=>chk ((0 : Int) ≤ z2O ∧ z2O < (((nth z19 z1m).length : Nat) : Int)) ((y3Y (⟨((nth (nth z19 z1m) z2O).fNode),((nth (nth z19 z1m) z2O).fNext),((nth (nth z19 z1m) z2O).fLink)⟩ : Sapi_Hop)).bind fun zys=>(y1r z2N zys).bind fun zyt=>if !zyt then (y3Y (⟨((nth (nth z19 z1m) z2O).fNode),((nth (nth z19 z1m) z2O).fNext),((nth (nth z19 z1m) z2O).fLink)⟩ : Sapi_Hop)).bind fun zdt=>chk ((((z2N ++ ([zdt] : List Sbound_place)).length : Nat) : Int) * 16 ≤ 140737488355328 ∧ (((z2N ++ ([zdt] : List Sbound_place)).length : Nat) : Int) ≤ 4611686018427387904) (zm9 (z2N ++ ([zdt] : List Sbound_place))) else zm9 z2N) else z9q z2N
theorem y9m {n : Nat} {z19 : List (List Sapi_Hop)} {z1m : Int} {z9q : (List Sbound_place) → Option (List Sbound_place)} {z2N : List Sbound_place} {z2O : Int} {r : List Sbound_place} (h : y3o z19 z1m z9q n z2N z2O = some r) : ∃ m,n = m + 1:=by
 cases n with
 | zero=>cases h
 | succ m=>exact ⟨m,rfl⟩
def y3p (z19 : List (List Sapi_Hop)) (z9r : (List Sbound_place) → Option (List Sbound_place)) : Nat → (List Sbound_place) → Int → Option (List Sbound_place)
 | 0,_,_=>none
 | zqD + 1,z57,z1m=>if decide (z1m < ((z19.length : Nat) : Int)) then jp1 (fun (z7w : List Sbound_place)=>y3p z19 z9r zqD z7w (i64 (z1m + 1))) fun zqE=>chk ((0 : Int) ≤ z1m ∧ z1m < ((z19.length : Nat) : Int)) (jp1 (fun (z7x : List Sbound_place)=>zqE z7x) fun z9q=>y3o z19 z1m z9q yz z57 0) else z9r z57
theorem y9n {n : Nat} {z19 : List (List Sapi_Hop)} {z9r : (List Sbound_place) → Option (List Sbound_place)} {z57 : List Sbound_place} {z1m : Int} {r : List Sbound_place} (h : y3p z19 z9r n z57 z1m = some r) : ∃ m,n = m + 1:=by
 cases n with
 | zero=>cases h
 | succ m=>exact ⟨m,rfl⟩
def y5K (z19 : List (List Sapi_Hop)) : Option (List Sbound_place) :=
 jp1 (fun (z84 : List Sbound_place)=>(y1s z84 (fun (y0 : Sbound_place) (y1 : Sbound_place)=>y1j y0 y1)).bind fun zqF=>some zqF) fun z9r=>y3p z19 z9r yz ([] : List Sbound_place) 0
theorem ycA (Z : Zp) (zdu : Option Addr) (zdv : Nat) (z19 : List (List Sapi_Hop)) (r : List Sbound_place)
  (h : y5K z19 = some r) (w₀ : World) (hz : PZ [] w₀ Z)
  (zH0 : ZS Z 1 (p48 Z) zdu zdv z19) :
  Calls Tryz.prog 35 #[(.slice zdu z19.length zdv)] w₀ fun e w'=>∃ zyu : Option Addr,∃ zyv : Nat,e = .returned (.slice zyu r.length zyv) ∧ True ∧ Hp [] w₀ w' [row (.slice zyu r.length zyv) 97 2 (r.flatMap e97)]:=by
 unfold y5K at h
 refine Calls.on1 Tryz.func35 Tryz.ntmps35 ?_
 refine WC.b (WC.a (WL.pu rfl (WL.nil (WX.a (WC.b (WC.a (WL.pu rfl (WL.nil (WX.a ?_)))))))))
 obtain ⟨z9r,zH1,h⟩:=y1d h
 refine WC.y2u (fun (z84 : List Sbound_place) (zdw : Option Addr) (zdx : Nat)=>(z9r z84 = some r)) (fun z84 zdw zdx=>[(3,(.slice zdw z84.length zdx))]) (fun z84 zdw zdx=>[row (.slice zdw z84.length zdx) 97 2 (z84.flatMap e97)]) ?_ ?_
 ·skip
  refine WC.b (WC.a (WL.pu rfl (WL.qA 9 (yG Tryz.underlying32 rfl) (WL.pu rfl (WL.nil (WX.a (WC.block (WC.nilRow 97 2 (WC.y5V (fun (zfE : Nat) (z57 : List Sbound_place) (z1m : Int) (zbh : Option Addr) (zbi : Nat)=>(y3p z19 z9r zfE z57 z1m = some r)) (fun zfE z57 z1m zbh zbi=>[(3,(.slice zbh z57.length zbi)),(8,(.slice zdu z19.length zdv)),(9,(.int .i64 ((z19.length : Nat) : Int))),(10,(.int .i64 z1m))]) (fun zfE z57 z1m zbh zbi=>[row (.slice zbh z57.length zbi) 97 2 (z57.flatMap e97)]) (fun zfE z57 z1m zbh zbi=>zfE) ⟨yz,([] : List Sbound_place),0,none,0⟩ h (.r4 rfl rfl rfl rfl) (.cons .here .nil) ?_)))))))))
  rintro zfE z57 z1m zbh zbi h
  obtain ⟨zqD,rfl⟩:=y9n h
  rw [y3p] at h
  refine WC.b (WC.a (WL.pu rfl (WL.nil (WX.a (WC.b (WC.cond rfl (fun zqG=>?_) (fun zqG=>?_)))))))
  ·replace h:=yo h zqG
   refine WC.skip (WX.a ?_)
   obtain ⟨zqE,zH2,h⟩:=y1d h
   refine WC.y2u (fun (z7w : List Sbound_place) (zfF : Option Addr) (zfG : Nat)=>(zqE z7w = some r)) (fun z7w zfF zfG=>[(3,(.slice zfF z7w.length zfG)),(8,(.slice zdu z19.length zdv)),(9,(.int .i64 ((z19.length : Nat) : Int))),(10,(.int .i64 z1m))]) (fun z7w zfF zfG=>[row (.slice zfF z7w.length zfG) 97 2 (z7w.flatMap e97)]) ?_ ?_
   ·skip
    refine WC.block (WC.b ?_)
    obtain ⟨zH3,h⟩:=yn h
    refine WC.a (WL.znth (dd:=12) rfl rfl (Z:=Z) (Pr:=(p48 Z)) y6z rfl rfl zH0 zH3 ?_)
    rintro zUg zUh zH4 zUi ⟨zyw,zyx,rfl,zH5⟩
    refine WL.qA 13 (yc y6P rfl (y57 hz.pv zH4 rfl)) (WL.pu rfl (WL.nil (WX.a (WC.b (WC.a (WL.pu rfl (WL.qA 15 (yG Tryz.underlying48 rfl) (WL.pu rfl (WL.nil (WX.a ?_))))))))))
    obtain ⟨z9q,zH6,h⟩:=y1d h
    refine WC.mid3 (fun (z7x : List Sbound_place) (zfH : Option Addr) (zfI : Nat)=>(z9q z7x = some r)) (fun z7x zfH zfI=>[(3,(.slice zfH z7x.length zfI)),(8,(.slice zdu z19.length zdv)),(9,(.int .i64 ((z19.length : Nat) : Int))),(10,(.int .i64 z1m))]) (fun z7x zfH zfI=>[row (.slice zfH z7x.length zfI) 97 2 (z7x.flatMap e97)]) ?_ ?_
    ·skip
     refine WC.block (WC.y5V (fun (zfJ : Nat) (z2N : List Sbound_place) (z2O : Int) (zbj : Option Addr) (zbk : Nat)=>(y3o z19 z1m z9q zfJ z2N z2O = some r)) (fun zfJ z2N z2O zbj zbk=>[(3,(.slice zbj z2N.length zbk)),(8,(.slice zdu z19.length zdv)),(9,(.int .i64 ((z19.length : Nat) : Int))),(10,(.int .i64 z1m)),(14,(.slice zyw ((nth z19 z1m).length) zyx)),(15,(.int .i64 (((nth z19 z1m).length : Nat) : Int))),(16,(.int .i64 z2O))]) (fun zfJ z2N z2O zbj zbk=>[row (.slice zbj z2N.length zbk) 97 2 (z2N.flatMap e97)]) (fun zfJ z2N z2O zbj zbk=>zfJ) ⟨yz,z57,0,zbh,zbi⟩ h (.r7 rfl rfl rfl rfl rfl rfl rfl) (.cons .here .nil) ?_)
     rintro zfJ z2N z2O zbj zbk h
     obtain ⟨zqC,rfl⟩:=y9m h
     rw [y3o] at h
     refine WC.b (WC.a (WL.pu rfl (WL.nil (WX.a (WC.b (WC.cond rfl (fun zqH=>?_) (fun zqH=>?_)))))))
     ·replace h:=yo h zqH
      refine WC.skip (WX.a ?_)
      obtain ⟨zm9,zH7,h⟩:=y1d h
      refine WC.y2u (fun (z7v : List Sbound_place) (zfK : Option Addr) (zfL : Nat)=>(zm9 z7v = some r)) (fun z7v zfK zfL=>[(3,(.slice zfK z7v.length zfL)),(8,(.slice zdu z19.length zdv)),(9,(.int .i64 ((z19.length : Nat) : Int))),(10,(.int .i64 z1m)),(14,(.slice zyw ((nth z19 z1m).length) zyx)),(15,(.int .i64 (((nth z19 z1m).length : Nat) : Int))),(16,(.int .i64 z2O))]) (fun z7v zfK zfL=>[row (.slice zfK z7v.length zfL) 97 2 (z7v.flatMap e97)]) ?_ ?_
      ·skip
       refine WC.block (WC.b ?_)
       obtain ⟨zH8,h⟩:=yn h
       refine WC.a (WL.znth (dd:=18) rfl rfl (Z:=Z) (Pr:=(fun r x=>r = e62 x)) y5H rfl rfl zH5 zH8 ?_)
       rintro zUj zUk zH9 zUl rfl
       refine WL.qA 19 (yf y3H rfl (y2v hz.pv zH9) rfl) (WL.nA 7 (yw (cs:=[(.int .i64 0),(.int .i64 0),(.int .i64 0)]) y6B rfl) ?_)
       intro zUm _
       refine WL.yj rfl rfl (yl y6Q rfl rfl rfl .here rfl rfl rfl) (WL.nil (WX.a (WC.b ?_)))
       obtain ⟨zys,zHa,h⟩:=z6 h
       obtain ⟨zyt,zHb,h⟩:=z6 h
       refine WC.a (WL.pu rfl (WL.qA 21 (yf y3H rfl (yh .here) rfl) (WL.cA 22 (z8 Tryz.call40 (.cons rfl .nil)) .nil (cc hz .nil fun w pz ho=>y5l _ _ _ zHa w pz ) (WL.cA 23 (z8 Tryz.call63 (.r2 rfl rfl)) .nil (ccl hz .nil (.cons .h1 .nil) fun w pz ho la=>y5Q _ _ _ _ _ _ zHb w pz (ZA.row (la _ (.head _) _) (RR.flat (enc:=e97) (fun _=>rfl) _) ⟨w,pz.1⟩)) (WL.pu rfl (WL.nil (WX.a (WC.cond rfl (fun zqI=>?_) (fun zqI=>?_)))))))))
       ·replace h:=yo h zqI
        obtain ⟨zdt,zHc,h⟩:=z6 h
        obtain ⟨zHd,h⟩:=yn h
        refine WC.a (WL.pu rfl (WL.qA 26 (yf y3H rfl (yh .here) rfl) (WL.cA 27 (z8 Tryz.call40 (.cons rfl .nil)) .nil (cc hz .nil fun w pz ho=>y5l _ _ _ zHc w pz ) (WL.nA 28 (yN (cs:=([zdt] : List Sbound_place).flatMap e97) y5i (Eos.parts (l:=[.tmp 27]) (.cons rfl .nil) [0]) (fun _=>by kernel_rfl) rfl (by unfold maxLen; omega)) ?_))))
        intro zUn _
        refine WL.fA 29 (y4S (enc:=e97) (l1:=z2N) (l2:=([zdt] : List Sbound_place)) y5i rfl rfl .h2 (fun _=>rfl) rfl rfl (y3C .here) (y5d yaP _) zHd) ?_
        rintro ⟨zHe,zHf⟩ _
        refine WL.pu rfl (WL.nil (WX.yk ?_))
        exact WX.mid ⟨(z2N ++ ([zdt] : List Sbound_place)),zHe,zHf⟩ h (.r7 rfl rfl rfl rfl rfl rfl rfl) (.cons .here .nil)
       ·replace h:=yp h zqI
        refine WC.skip (WX.yk ?_)
        exact WX.mid ⟨z2N,zbj,zbk⟩ h (.r7 rfl rfl rfl rfl rfl rfl rfl) (.cons .h1 .nil)
      ·rintro z7v zfK zfL h
       replace h:=(zH7 z7v).symm.trans h
       refine WC.a (WL.pu rfl (WL.pu rfl (WL.nil ?_)))
       exact WX.round ⟨zqC,z7v,(i64 (z2O + 1)),zfK,zfL⟩ h (Nat.lt_succ_self _) (.r7 rfl rfl rfl rfl rfl rfl rfl) (.cons .here .nil)
     ·replace h:=yp h zqH
      refine WC.exit (WX.yg (WX.yg (WX.yA ?_)))
      exact WX.mid ⟨z2N,zbj,zbk⟩ h (.r4 rfl rfl rfl rfl) (.cons .here .nil)
    ·rintro z7x zfH zfI h
     replace h:=(zH6 z7x).symm.trans h
     refine WX.yk ?_
     exact WX.mid ⟨z7x,zfH,zfI⟩ h (.r4 rfl rfl rfl rfl) (.cons .here .nil)
   ·rintro z7w zfF zfG h
    replace h:=(zH2 z7w).symm.trans h
    refine WC.a (WL.pu rfl (WL.pu rfl (WL.nil ?_)))
    exact WX.round ⟨zqD,z7w,(i64 (z1m + 1)),zfF,zfG⟩ h (Nat.lt_succ_self _) (.r4 rfl rfl rfl rfl) (.cons .here .nil)
  ·replace h:=yp h zqG
   refine WC.exit (WX.yg (WX.yg (WX.yA ?_)))
   exact WX.mid ⟨z57,zbh,zbi⟩ h (.cons rfl .nil) (.cons .here .nil)
 ·rintro z84 zdw zdx h
  replace h:=(zH1 z84).symm.trans h
  refine WC.b ?_
  obtain ⟨zqF,zHg,h⟩:=z6 h
  refine WC.a (WL.pu rfl (WL.y4R (dd:=33) rfl rfl rfl (z8 Tryz.call64 (.r2 rfl rfl)) (.cons .here .nil) (cc hz (.cons .here .nil) fun w pz ho=>y5R _ _ _ (zfD:=25) (zm8:=[]) _ (zfC:=(fun (y0 : Sbound_place) (y1 : Sbound_place)=>y1j y0 y1)) _ zHg w pz Tryz.call25 (fun w' hz' y0 y1  r  hr=>y7F _ _ _ _ hr w' hz' ) ho) ?_))
  rintro  zHh
  refine WL.repin (i:=3) rfl (u:=(.slice zdw zqF.length zdx)) (y5W zHh.symm) (WL.nil (WX.a (WC.b (WC.a (WL.pu rfl (WL.pu rfl (WL.nil (WX.a (WC.ret ?_)))))))))
  obtain rfl:=Option.some.inj h
  refine WX.ye Tryz.results35 (.tmp rfl .nil) (fun w hw=>?_)
  exact ⟨zdw,zdx,yC rfl,trivial,hw.sub (.cons .here .nil)⟩
def y5L (z9s : Sapi_Hop) (zma : Int) : Option Bool :=
 some (decide (z9s.fNext = zma))
theorem ycB (Z : Zp) (zyy : Addr) (z9s : Sapi_Hop) (zma : Int) (r : Bool)
  (h : y5L z9s zma = some r) (w₀ : World) (hz : PZ [] w₀ Z)
  (zHi : ZC Z zyy [(.int .i64 zma)]) :
  Calls Tryz.prog 66 #[(.agg #[(.int .i64 z9s.fNode),(.int .i64 z9s.fNext),(.int .i64 z9s.fLink)]),(.pointer (some zyy))] w₀ fun e w'=>e = .returned (.bool r) ∧ Hp [] w₀ w' []:=by
 unfold y5L at h
 refine Calls.yJ Tryz.func66 Tryz.ntmps66 ?_
 refine WC.b (WC.a (WL.nA 2 (yH (cs:=[(.int .i64 z9s.fNode),(.int .i64 z9s.fNext),(.int .i64 z9s.fLink)]) rfl rfl) ?_))
 intro zUo _
 refine WL.pu rfl (WL.nil (WX.a (WC.b (WC.a (WL.qA 4 (ya y5I rfl rfl) (WL.qA 5 (yc yx rfl (ym .here rfl)) (WL.qA 6 (yc yx rfl (y57 hz.pv zHi rfl)) (WL.pu rfl (WL.pu rfl (WL.nil (WX.a (WC.ret ?_))))))))))))
 obtain rfl:=Option.some.inj h
 refine WX.ye Tryz.results66 (.tmp rfl .nil) (fun w hw=>?_)
 exact ⟨yC rfl,hw.sub .nil⟩
def yS (z3a : List Sapi_Hop) (z6G : Sapi_Hop → Option Bool) (z9t : Option Int) : Nat → Int → Option Int
 | 0,_=>none
 | zqJ + 1,z2P=>if decide (z2P < ((z3a.length : Nat) : Int)) then chk ((0 : Int) ≤ z2P ∧ z2P < ((z3a.length : Nat) : Int)) ((z6G (⟨((nth z3a z2P).fNode),((nth z3a z2P).fNext),((nth z3a z2P).fLink)⟩ : Sapi_Hop)).bind fun zqK=>if zqK then some z2P else yS z3a z6G z9t zqJ (i64 (z2P + 1))) else z9t
theorem y5B {n : Nat} {z3a : List Sapi_Hop} {z6G : Sapi_Hop → Option Bool} {z9t : Option Int} {z2P : Int} {r : Int} (h : yS z3a z6G z9t n z2P = some r) : ∃ m,n = m + 1:=by
 cases n with
 | zero=>cases h
 | succ m=>exact ⟨m,rfl⟩
def y15 (z3a : List Sapi_Hop) (z6G : Sapi_Hop → Option Bool) : Option Int :=
 jp0 (some (-1)) fun z9t=>yS z3a z6G z9t yz 0
theorem y4r (Z : Zp) (zqL : Option Addr) (zqM : Nat) (zbl : FuncId) (zfM : List Value) (z3a : List Sapi_Hop) (z6G : Sapi_Hop → Option Bool) (r : Int)
  (h : y15 z3a z6G = some r) (w₀ : World) (hz : PZ [] w₀ Z)
  (zHj : ZS Z 3 (fun r x=>r = e62 x) zqL zqM z3a)
  (zHk : ∀ args w,(callFunc zbl args).run Tryz.prog w = .ok (.enter zbl args) w)
  (zHl : ∀ w : World,PZ [] w Z → ∀ (x0 : Sapi_Hop) (r : Bool),z6G x0 = some r → Calls Tryz.prog zbl (([(.agg #[(.int .i64 x0.fNode),(.int .i64 x0.fNext),(.int .i64 x0.fLink)])] : List Value) ++ zfM).toArray w fun e w'=>e = .returned (.bool r) ∧ Hp [] w w' []) :
  Calls Tryz.prog 65 #[(.slice zqL z3a.length zqM),(.func (.func zbl) #[] (zfM).toArray)] w₀ fun e w'=>e = .returned (.int .i64 r) ∧ Hp [] w₀ w' []:=by
 unfold y15 at h
 refine Calls.yJ Tryz.func65 Tryz.ntmps65 ?_
 refine WC.b (WC.a (WL.pu rfl (WL.nil (WX.a ?_))))
 obtain ⟨z9t,zHm,h⟩:=y2y h
 refine WC.y1P ((z9t = some r)) ([]) ([]) ?_ ?_
 ·skip
  refine WC.b (WC.a (WL.pu rfl (WL.qA 7 (yG Tryz.underlying48 rfl) (WL.pu rfl (WL.nil (WX.a (WC.block (WC.y2V (fun (zfN : Nat) (z2P : Int)=>(yS z3a z6G z9t zfN z2P = some r)) (fun zfN z2P=>[(0,(.slice zqL z3a.length zqM)),(1,(.func (.func zbl) #[] (zfM).toArray)),(7,(.int .i64 ((z3a.length : Nat) : Int))),(8,(.int .i64 z2P))]) (fun zfN z2P=>[]) (fun zfN z2P=>zfN) ⟨yz,0⟩ h (.r4 rfl rfl rfl rfl) .nil ?_))))))))
  rintro zfN z2P h
  obtain ⟨zqJ,rfl⟩:=y5B h
  rw [yS] at h
  refine WC.b (WC.a (WL.pu rfl (WL.nil (WX.a (WC.b (WC.cond rfl (fun zqN=>?_) (fun zqN=>?_)))))))
  ·replace h:=yo h zqN
   refine WC.skip (WX.a (WC.b (WC.block (WC.b (WC.a (WL.pu rfl (WL.pu rfl (WL.nil (WX.a (WC.b ?_))))))))))
   obtain ⟨zHn,h⟩:=yn h
   obtain ⟨zqK,zHo,h⟩:=z6 h
   refine WC.a (WL.pu rfl (WL.pu rfl (WL.pu rfl (WL.znth (dd:=14) rfl rfl (Z:=Z) (Pr:=(fun r x=>r = e62 x)) y5H rfl rfl zHj zHn ?_))))
   rintro zUp zUq zHp zUr rfl
   refine WL.qA 15 (yf y3H rfl (y2v hz.pv zHp) rfl) (WL.cA 16 (y2t (l:=[.tmp 15]) (f:=zbl) (caps:=zfM) zHk rfl (.cons rfl .nil)) .nil (fun w hw=>zHl w (hz.now hw) (⟨((nth z3a z2P).fNode),((nth z3a z2P).fNext),((nth z3a z2P).fLink)⟩ : Sapi_Hop) zqK  zHo) (WL.nil (WX.a (WC.cond rfl (fun zqO=>?_) (fun zqO=>?_)))))
   ·replace h:=yo h zqO
    refine WC.b (WC.a (WL.pu rfl (WL.pu rfl (WL.nil (WX.a (WC.ret (WX.yt (WX.yd (WX.yd (WX.yt (WX.yd ?_)))))))))))
    obtain rfl:=Option.some.inj h
    refine WX.ye Tryz.results65 (.tmp rfl .nil) (fun w hw=>?_)
    exact ⟨yC rfl,hw.sub .nil⟩
   ·replace h:=yp h zqO
    refine WC.skip (WX.yk (WX.a (WC.a (WL.pu rfl (WL.pu rfl (WL.nil ?_))))))
    exact WX.round ⟨zqJ,(i64 (z2P + 1))⟩ h (Nat.lt_succ_self _) (.r4 rfl rfl rfl rfl) .nil
  ·replace h:=yp h zqN
   refine WC.exit (WX.yg (WX.yg (WX.yA ?_)))
   exact WX.mid () h .nil .nil
 ·rintro  h
  replace h:=zHm.symm.trans h
  refine WC.b (WC.a (WL.pu rfl (WL.nil (WX.a (WC.ret ?_)))))
  obtain rfl:=Option.some.inj h
  refine WX.ye Tryz.results65 (.tmp rfl .nil) (fun w hw=>?_)
  exact ⟨yC rfl,hw.sub .nil⟩
def y51 (z9u : List Sapi_Hop) (zfO : Int) : Option (Sapi_Hop × Bool) :=
 (y15 z9u (fun (y0 : Sapi_Hop)=>y5L y0 zfO)).bind fun zdy=>if decide (zdy < 0) then some ((⟨0,0,0⟩ : Sapi_Hop),false) else chk ((0 : Int) ≤ zdy ∧ zdy < ((z9u.length : Nat) : Int)) (some ((⟨((nth z9u zdy).fNode),((nth z9u zdy).fNext),((nth z9u zdy).fLink)⟩ : Sapi_Hop),true))
theorem y8P (Z : Zp) (zyz : Option Addr) (zyA : Nat) (z9u : List Sapi_Hop) (zfO : Int) (r : Sapi_Hop × Bool)
  (h : y51 z9u zfO = some r) (w₀ : World) (hz : PZ [] w₀ Z)
  (zyB : ZS Z 3 (fun r x=>r = e62 x) zyz zyA z9u) :
  Calls Tryz.prog 39 #[(.slice zyz z9u.length zyA),(.int .i64 zfO)] w₀ fun e w'=>e = .returned (.tuple #[(.agg #[(.int .i64 r.1.fNode),(.int .i64 r.1.fNext),(.int .i64 r.1.fLink)]),(.bool r.2)]) ∧ Hp [] w₀ w' []:=by
 unfold y51 at h
 refine Calls.yJ Tryz.func39 Tryz.ntmps39 ?_
 refine WC.b (WC.a (WL.nA 3 (yH (cs:=[(.int .i64 zfO)]) rfl rfl) ?_))
 intro zHq _
 refine WL.nA 4 (yw (cs:=[(.int .i64 0),(.int .i64 0),(.int .i64 0)]) y6B rfl) ?_
 intro zUs _
 refine WL.pu rfl (WL.nil (WX.a (WC.b ?_)))
 obtain ⟨zdy,zHr,h⟩:=z6 h
 refine WC.a (WL.pu rfl (WL.qA 8 (y17 (Eos.caps (l:=[.tmp 3]) (.cons rfl .nil))) (WL.cA 9 (z8 Tryz.call65 (.r2 rfl rfl)) .nil (ccl hz .nil (.cons .h1 .nil) fun w pz ho la=>y4r _ _ _ (zbl:=66) (zfM:=[(.pointer (some ⟨zHq,0,none⟩))]) _ (z6G:=(fun (y0 : Sapi_Hop)=>y5L y0 zfO)) _ zHr w pz (zyB.mono (Zle.left _ _)) Tryz.call66 (fun w' hz' y0  r  hr=>ycB _ _ _ _ _ hr w' hz' ((la _ (.head _) _).stb))) (WL.pu rfl (WL.nil (WX.a (WC.b (WC.b (WC.a (WL.pu rfl (WL.pu rfl (WL.nil (WX.a (WC.cond rfl (fun zqP=>?_) (fun zqP=>?_)))))))))))))))
 ·replace h:=yo h zqP
  refine WC.b (WC.a (WL.qA 12 (yI (v:=(.agg #[(.int .i64 0),(.int .i64 0),(.int .i64 0)])) (Eos.parts (l:=[]) .nil []) (fun _=>by kernel_rfl)) (WL.yj rfl rfl (yl y6Q rfl rfl rfl .here rfl rfl rfl) (WL.pu rfl (WL.nil (WX.a (WC.ret (WX.yd ?_))))))))
  obtain rfl:=Option.some.inj h
  refine WX.ye Tryz.results39 (.agg rfl y3H rfl (yh .here) (.tmp rfl .nil)) (fun w hw=>?_)
  exact ⟨y1Z rfl rfl,hw.sub .nil⟩
 ·replace h:=yp h zqP
  refine WC.skip (WX.a (WC.b ?_))
  obtain ⟨zHs,h⟩:=yn h
  refine WC.a (WL.pu rfl (WL.pu rfl (WL.znth (dd:=15) rfl rfl (Z:=Z) (Pr:=(fun r x=>r = e62 x)) y5H rfl rfl zyB zHs ?_)))
  rintro zUt zUu zHt zUv rfl
  refine WL.qA 16 (yf y3H rfl (y2v hz.pv zHt) rfl) (WL.yj rfl rfl (yl y6Q rfl rfl rfl .here rfl rfl rfl) (WL.pu rfl (WL.nil (WX.a (WC.ret ?_)))))
  obtain rfl:=Option.some.inj h
  refine WX.ye Tryz.results39 (.agg rfl y3H rfl (yh .here) (.tmp rfl .nil)) (fun w hw=>?_)
  exact ⟨y1Z rfl rfl,hw.sub .nil⟩
def y4F (z29 : Sapi_Hop) (zdz : List Sapi_Hop) (z3o : Sbound_place) (zbm : List (Sbound_place × Int)) : Option Bool :=
 (y51 zdz z29.fNode).bind fun z1t=>(y3Y z29).bind fun z4J=>(if (decide (z4J = z3o)) && z1t.2 then (y3Y z1t.1).bind fun zqQ=>some (decide ((yq zbm zqQ 0) = 0)) else some false).bind fun zqR=>some zqR
theorem ybl (Z : Zp) (zmb : Addr) (zmc : Option Addr) (zmd : Nat) (zme : Addr) (zmf : Addr) (zfP : Nat) (z29 : Sapi_Hop) (zdz : List Sapi_Hop) (z3o : Sbound_place) (zbm : List (Sbound_place × Int)) (r : Bool)
  (h : y4F z29 zdz z3o zbm = some r) (w₀ : World) (hz : PZ (fps [yy zfP (fun x=>Value.agg (e97 x).toArray) (Value.int .i64) zbm]) w₀ Z)
  (zHu : ZS Z 3 (fun r x=>r = e62 x) zmc zmd zdz)
  (zHv : ZC Z zmb [(.slice zmc zdz.length zmd)])
  (zHw : ZC Z zme [(.int .i64 z3o.fNode),(.int .i64 z3o.fLink)])
  (zHx : ZC Z zmf [(.map (some zfP))])
  (hown : Hp (fps [yy zfP (fun x=>Value.agg (e97 x).toArray) (Value.int .i64) zbm]) w₀ w₀ [yy zfP (fun x=>Value.agg (e97 x).toArray) (Value.int .i64) zbm]) :
  Calls Tryz.prog 38 #[(.agg #[(.int .i64 z29.fNode),(.int .i64 z29.fNext),(.int .i64 z29.fLink)]),(.pointer (some zmb)),(.pointer (some zme)),(.pointer (some zmf))] w₀ fun e w'=>e = .returned (.bool r) ∧ Hp (fps [yy zfP (fun x=>Value.agg (e97 x).toArray) (Value.int .i64) zbm]) w₀ w' [yy zfP (fun x=>Value.agg (e97 x).toArray) (Value.int .i64) zbm]:=by
 unfold y4F at h
 refine Calls.oh4 Tryz.func38 Tryz.ntmps38 hown ?_
 refine WC.b (WC.a (WL.nA 4 (yH (cs:=[(.int .i64 z29.fNode),(.int .i64 z29.fNext),(.int .i64 z29.fLink)]) rfl rfl) ?_))
 intro zmg _
 refine WL.pu rfl (WL.nil (WX.a (WC.b ?_)))
 obtain ⟨z1t,zHy,h⟩:=z6 h
 refine WC.a (WL.qA 9 (yc y6P rfl (y57 hz.pv zHv rfl)) (WL.qA 10 (ya y4U rfl rfl) (WL.qA 11 (yc yx rfl (ym .here rfl)) (WL.cA 12 (z8 Tryz.call39 (.r2 rfl rfl)) .nil (cc hz .nil fun w pz ho=>y8P _ _ _ _ _ _ zHy w pz zHu) (WL.pu rfl (WL.pu rfl (WL.pu rfl (WL.nA 6 (yw (cs:=[(.int .i64 0),(.int .i64 0),(.int .i64 0)]) y6B rfl) ?_))))))))
 intro zyC _
 refine WL.yj rfl rfl (yl y6Q rfl rfl rfl .here rfl rfl rfl) (WL.pu rfl (WL.nil (WX.a (WC.b ?_))))
 obtain ⟨z4J,zHz,h⟩:=z6 h
 obtain ⟨zqR,zyD,h⟩:=z6 h
 refine WC.yO (fun i=>[].contains i) [] rfl (WD.qA 0 15 rfl (yf y3H rfl (yh .h1) rfl) (WD.eA 1 16 rfl (z8 Tryz.call40 (.cons rfl .nil)) (cc hz .nil fun w pz ho=>y5l _ _ _ zHz w pz ) (WD.qA 2 17 rfl (yf y3I rfl (y2v hz.pv zHw) rfl) (WD.pA 3 18 rfl (fun _=>y7g (enc:=e97) (a:=z4J) (b:=z3o) yc4 rfl rfl) (WD.pA 4 19 rfl (fun _=>q_m rfl) (WD.mid (fuel':=8) [(0,(.agg #[(.int .i64 z29.fNode),(.int .i64 z29.fNext),(.int .i64 z29.fLink)])),(1,(.pointer (some zmb))),(2,(.pointer (some zme))),(3,(.pointer (some zmf))),(4,(.pointer (some ⟨zmg,0,none⟩))),(5,(.bool false)),(9,(.slice zmc zdz.length zmd)),(10,(.pointer (some ⟨zmg,0,none⟩))),(11,(.int .i64 z29.fNode)),(12,(.tuple #[(.agg #[(.int .i64 z1t.1.fNode),(.int .i64 z1t.1.fNext),(.int .i64 z1t.1.fLink)]),(.bool z1t.2)])),(8,(.tuple #[(.agg #[(.int .i64 z1t.1.fNode),(.int .i64 z1t.1.fNext),(.int .i64 z1t.1.fLink)]),(.bool z1t.2)])),(13,(.agg #[(.int .i64 z1t.1.fNode),(.int .i64 z1t.1.fNext),(.int .i64 z1t.1.fLink)])),(14,(.bool z1t.2)),(6,(.pointer (some ⟨zyC,0,none⟩))),(7,(.bool z1t.2)),(15,(.agg #[(.int .i64 z29.fNode),(.int .i64 z29.fNext),(.int .i64 z29.fLink)])),(16,(.agg #[(.int .i64 z4J.fNode),(.int .i64 z4J.fLink)])),(17,(.agg #[(.int .i64 z3o.fNode),(.int .i64 z3o.fLink)])),(18,(.bool (decide (z4J = z3o)))),(19,(.bool (decide (z4J = z3o)))),(21,(.bool ((decide (z4J = z3o)) && z1t.2)))] (y4h 15 [6,5,4,3,2,1,0]) ?_ (fun zyE=>?_)))))))
 rotate_left
 ·rcases Bool.eq_false_or_eq_true (decide (z4J = z3o)) with hb' | hb'
  ·have zqS:=hb'; clear hb'
   refine WD.pin (i:=19) rfl zqS (WD.pA 5 20 rfl (fun _=>q_m rfl) (WD.pA 6 21 rfl (fun _=>y3E rfl rfl) (WD.reL (.s3 .here .here .here) ?_ zyE)))
   exact (.cons rfl (.cons rfl (.cons rfl (.cons rfl (.cons rfl (.cons rfl (.cons rfl (.cons rfl (.cons rfl (.cons rfl (.cons rfl (.cons rfl (.cons rfl (.cons rfl (.cons rfl (.cons rfl (.cons rfl (.cons rfl (.cons rfl (.cons (zB (Eq.symm zqS)) (.cons (zB (y2P zqS)) .nil)))))))))))))))))))))
  ·have zqT:=hb'; clear hb'
   refine WD.pin (i:=19) rfl zqT (WD.kA 5 20 rfl (WD.pA 6 21 rfl (fun _=>y3F rfl rfl) (WD.reL (.s3 .here .here .here) ?_ zyE)))
   exact (.cons rfl (.cons rfl (.cons rfl (.cons rfl (.cons rfl (.cons rfl (.cons rfl (.cons rfl (.cons rfl (.cons rfl (.cons rfl (.cons rfl (.cons rfl (.cons rfl (.cons rfl (.cons rfl (.cons rfl (.cons rfl (.cons rfl (.cons (zB (Eq.symm zqT)) (.cons (zB (y2O zqT)) .nil)))))))))))))))))))))
 refine WD.pA 7 22 rfl (fun _=>q_m rfl) (WD.mid (fuel':=1) [(0,(.agg #[(.int .i64 z29.fNode),(.int .i64 z29.fNext),(.int .i64 z29.fLink)])),(1,(.pointer (some zmb))),(2,(.pointer (some zme))),(3,(.pointer (some zmf))),(4,(.pointer (some ⟨zmg,0,none⟩))),(5,(.bool false)),(9,(.slice zmc zdz.length zmd)),(10,(.pointer (some ⟨zmg,0,none⟩))),(11,(.int .i64 z29.fNode)),(12,(.tuple #[(.agg #[(.int .i64 z1t.1.fNode),(.int .i64 z1t.1.fNext),(.int .i64 z1t.1.fLink)]),(.bool z1t.2)])),(8,(.tuple #[(.agg #[(.int .i64 z1t.1.fNode),(.int .i64 z1t.1.fNext),(.int .i64 z1t.1.fLink)]),(.bool z1t.2)])),(13,(.agg #[(.int .i64 z1t.1.fNode),(.int .i64 z1t.1.fNext),(.int .i64 z1t.1.fLink)])),(14,(.bool z1t.2)),(6,(.pointer (some ⟨zyC,0,none⟩))),(7,(.bool z1t.2)),(15,(.agg #[(.int .i64 z29.fNode),(.int .i64 z29.fNext),(.int .i64 z29.fLink)])),(16,(.agg #[(.int .i64 z4J.fNode),(.int .i64 z4J.fLink)])),(17,(.agg #[(.int .i64 z3o.fNode),(.int .i64 z3o.fLink)])),(18,(.bool (decide (z4J = z3o)))),(19,(.bool (decide (z4J = z3o)))),(21,(.bool ((decide (z4J = z3o)) && z1t.2))),(22,(.bool ((decide (z4J = z3o)) && z1t.2))),(28,(.bool zqR))] (y4h 15 [13,12,11,10,9,8,7,6,5,4,3,2,1,0]) ?_ (fun zyF=>?_))
 rotate_left
 ·rcases Bool.eq_false_or_eq_true ((decide (z4J = z3o)) && z1t.2) with hb' | hb'
  ·have zqU:=hb'; clear hb'
   have zj7:=yo zyD zqU
   obtain ⟨zqQ,zHA,zj7⟩:=z6 zj7
   replace zj7:=Option.some.inj zj7
   refine WD.pin (i:=22) rfl zqU (WD.qA 8 23 rfl (yc y9C rfl (y57 hz.pv zHx rfl)) (WD.qA 9 24 rfl (yf y3H rfl (yh .here) rfl) (WD.eA 10 25 rfl (z8 Tryz.call40 (.cons rfl .nil)) (cc hz .nil fun w pz ho=>y5l _ _ _ zHA w pz ) (WD.qA 11 26 rfl (y3m (k:=zqQ) (dflt:=(0 : Int)) y7s Tryz.underlying93 y4V rfl rfl rfl .h2) (WD.pA 12 27 rfl (fun _=>y9T rfl rfl) (WD.pA 13 28 rfl (fun _=>y3E rfl rfl) (WD.reL (.s3 .here .here .here) ?_ zyF)))))))
   exact (.cons rfl (.cons rfl (.cons rfl (.cons rfl (.cons rfl (.cons rfl (.cons rfl (.cons rfl (.cons rfl (.cons rfl (.cons rfl (.cons rfl (.cons rfl (.cons rfl (.cons rfl (.cons rfl (.cons rfl (.cons rfl (.cons rfl (.cons rfl (.cons rfl (.cons (zB (Eq.symm zqU)) (.cons (zB zj7) .nil)))))))))))))))))))))))
  ·have zqV:=hb'; clear hb'
   have zqW:=yp zyD zqV
   replace zqW:=Option.some.inj zqW
   refine WD.pin (i:=22) rfl zqV (WD.kA 8 23 rfl (WD.kA 9 24 rfl (WD.kA 10 25 rfl (WD.kA 11 26 rfl (WD.kA 12 27 rfl (WD.pA 13 28 rfl (fun _=>y3F rfl rfl) (WD.reL (.s3 .here .here .here) ?_ zyF)))))))
   exact (.cons rfl (.cons rfl (.cons rfl (.cons rfl (.cons rfl (.cons rfl (.cons rfl (.cons rfl (.cons rfl (.cons rfl (.cons rfl (.cons rfl (.cons rfl (.cons rfl (.cons rfl (.cons rfl (.cons rfl (.cons rfl (.cons rfl (.cons rfl (.cons rfl (.cons (zB (Eq.symm zqV)) (.cons (zB zqW) .nil)))))))))))))))))))))))
 refine WD.pA 14 5 rfl (fun _=>q_z rfl) (WD.done (by kernel_rfl) (WX.a (WC.ret ?_)))
 obtain rfl:=Option.some.inj h
 refine WX.ye Tryz.results38 (.tmp rfl .nil) (fun w hw=>?_)
 exact ⟨yC rfl,hw.sub (.cons .h2 .nil)⟩
def yR (z4a : List Sapi_Hop) (z7y : List Sapi_Hop) (z7z : Sbound_place) (z4K : List (Sbound_place × Int)) (z9v : Option Int) : Nat → Int → Option Int
 | 0,_=>none
 | zqX + 1,z3K=>if decide (z3K < ((z4a.length : Nat) : Int)) then chk ((0 : Int) ≤ z3K ∧ z3K < ((z4a.length : Nat) : Int)) ((y4F (⟨((nth z4a z3K).fNode),((nth z4a z3K).fNext),((nth z4a z3K).fLink)⟩ : Sapi_Hop) z7y z7z z4K).bind fun zyG=>if zyG then some z3K else yR z4a z7y z7z z4K z9v zqX (i64 (z3K + 1))) else z9v
theorem y5n {n : Nat} {z4a : List Sapi_Hop} {z7y : List Sapi_Hop} {z7z : Sbound_place} {z4K : List (Sbound_place × Int)} {z9v : Option Int} {z3K : Int} {r : Int} (h : yR z4a z7y z7z z4K z9v n z3K = some r) : ∃ m,n = m + 1:=by
 cases n with
 | zero=>cases h
 | succ m=>exact ⟨m,rfl⟩
def y2e (z4a : List Sapi_Hop) (z7y : List Sapi_Hop) (z7z : Sbound_place) (z4K : List (Sbound_place × Int)) : Option Int :=
 jp0 (some (-1)) fun z9v=>yR z4a z7y z7z z4K z9v yz 0
theorem y6q (Z : Zp) (zqY : Option Addr) (zqZ : Nat) (zr0 : Addr) (zyH : Option Addr) (zyI : Nat) (zr1 : Addr) (zr2 : Addr) (zbn : Nat) (z4a : List Sapi_Hop) (z7y : List Sapi_Hop) (z7z : Sbound_place) (z4K : List (Sbound_place × Int)) (r : Int)
  (h : y2e z4a z7y z7z z4K = some r) (w₀ : World) (hz : PZ (fps [yy zbn (fun x=>Value.agg (e97 x).toArray) (Value.int .i64) z4K]) w₀ Z)
  (zHB : ZS Z 3 (fun r x=>r = e62 x) zqY zqZ z4a)
  (zHC : ZS Z 3 (fun r x=>r = e62 x) zyH zyI z7y)
  (zHD : ZC Z zr0 [(.slice zyH z7y.length zyI)])
  (zHE : ZC Z zr1 [(.int .i64 z7z.fNode),(.int .i64 z7z.fLink)])
  (zHF : ZC Z zr2 [(.map (some zbn))])
  (hown : Hp (fps [yy zbn (fun x=>Value.agg (e97 x).toArray) (Value.int .i64) z4K]) w₀ w₀ [yy zbn (fun x=>Value.agg (e97 x).toArray) (Value.int .i64) z4K]) :
  Calls Tryz.prog 65 #[(.slice zqY z4a.length zqZ),(.func (.func 38) #[] #[(.pointer (some zr0)),(.pointer (some zr1)),(.pointer (some zr2))])] w₀ fun e w'=>e = .returned (.int .i64 r) ∧ Hp (fps [yy zbn (fun x=>Value.agg (e97 x).toArray) (Value.int .i64) z4K]) w₀ w' [yy zbn (fun x=>Value.agg (e97 x).toArray) (Value.int .i64) z4K]:=by
 unfold y2e at h
 refine Calls.oh2 Tryz.func65 Tryz.ntmps65 hown ?_
 refine WC.b (WC.a (WL.pu rfl (WL.nil (WX.a ?_))))
 obtain ⟨z9v,zHG,h⟩:=y2y h
 refine WC.y1P ((z9v = some r)) ([]) ([yy zbn (fun x=>Value.agg (e97 x).toArray) (Value.int .i64) z4K]) ?_ ?_
 ·skip
  refine WC.b (WC.a (WL.pu rfl (WL.qA 7 (yG Tryz.underlying48 rfl) (WL.pu rfl (WL.nil (WX.a (WC.block (WC.y2V (fun (zfQ : Nat) (z3K : Int)=>(yR z4a z7y z7z z4K z9v zfQ z3K = some r)) (fun zfQ z3K=>[(0,(.slice zqY z4a.length zqZ)),(1,(.func (.func 38) #[] #[(.pointer (some zr0)),(.pointer (some zr1)),(.pointer (some zr2))])),(7,(.int .i64 ((z4a.length : Nat) : Int))),(8,(.int .i64 z3K))]) (fun zfQ z3K=>[yy zbn (fun x=>Value.agg (e97 x).toArray) (Value.int .i64) z4K]) (fun zfQ z3K=>zfQ) ⟨yz,0⟩ h (.r4 rfl rfl rfl rfl) (.cons .here .nil) ?_))))))))
  rintro zfQ z3K h
  obtain ⟨zqX,rfl⟩:=y5n h
  rw [yR] at h
  refine WC.b (WC.a (WL.pu rfl (WL.nil (WX.a (WC.b (WC.cond rfl (fun zr3=>?_) (fun zr3=>?_)))))))
  ·replace h:=yo h zr3
   refine WC.skip (WX.a (WC.b (WC.block (WC.b (WC.a (WL.pu rfl (WL.pu rfl (WL.nil (WX.a (WC.b ?_))))))))))
   obtain ⟨zHH,h⟩:=yn h
   obtain ⟨zyG,zHI,h⟩:=z6 h
   refine WC.a (WL.pu rfl (WL.pu rfl (WL.pu rfl (WL.znth (dd:=14) rfl rfl (Z:=Z) (Pr:=(fun r x=>r = e62 x)) y5H rfl rfl zHB zHH ?_))))
   rintro zUw zUx zHJ zUy rfl
   refine WL.qA 15 (yf y3H rfl (y2v hz.pv zHJ) rfl) (WL.cA 16 (y2t (l:=[.tmp 15]) Tryz.call38 rfl (.cons rfl .nil)) (.cons .here .nil) (cc hz (.cons .here .nil) fun w pz ho=>ybl _ _ _ _ _ _ _ _ _ _ _ _ zHI w pz zHC zHD zHE zHF ho) (WL.nil (WX.a (WC.cond rfl (fun zr4=>?_) (fun zr4=>?_)))))
   ·replace h:=yo h zr4
    refine WC.b (WC.a (WL.pu rfl (WL.pu rfl (WL.nil (WX.a (WC.ret (WX.yt (WX.yd (WX.yd (WX.yt (WX.yd ?_)))))))))))
    obtain rfl:=Option.some.inj h
    refine WX.ye Tryz.results65 (.tmp rfl .nil) (fun w hw=>?_)
    exact ⟨yC rfl,hw.sub (.cons .here .nil)⟩
   ·replace h:=yp h zr4
    refine WC.skip (WX.yk (WX.a (WC.a (WL.pu rfl (WL.pu rfl (WL.nil ?_))))))
    exact WX.round ⟨zqX,(i64 (z3K + 1))⟩ h (Nat.lt_succ_self _) (.r4 rfl rfl rfl rfl) (.cons .here .nil)
  ·replace h:=yp h zr3
   refine WC.exit (WX.yg (WX.yg (WX.yA ?_)))
   exact WX.mid () h .nil (.cons .here .nil)
 ·rintro  h
  replace h:=zHG.symm.trans h
  refine WC.b (WC.a (WL.pu rfl (WL.nil (WX.a (WC.ret ?_)))))
  obtain rfl:=Option.some.inj h
  refine WX.ye Tryz.results65 (.tmp rfl .nil) (fun w hw=>?_)
  exact ⟨yC rfl,hw.sub (.cons .here .nil)⟩
def y21 (zj8 : List Sapi_Hop) (zj9 : List Sapi_Hop) (zja : Sbound_place) (zbo : List (Sbound_place × Int)) : Option Bool :=
 (y2e zj8 zj9 zja zbo).bind fun zyJ=>some (decide (zyJ ≥ 0))
theorem y67 (Z : Zp) (zyK : Option Addr) (zyL : Nat) (zyM : Addr) (zyN : Option Addr) (zyO : Nat) (zyP : Addr) (zyQ : Addr) (zfR : Nat) (zj8 : List Sapi_Hop) (zj9 : List Sapi_Hop) (zja : Sbound_place) (zbo : List (Sbound_place × Int)) (r : Bool)
  (h : y21 zj8 zj9 zja zbo = some r) (w₀ : World) (hz : PZ (fps [yy zfR (fun x=>Value.agg (e97 x).toArray) (Value.int .i64) zbo]) w₀ Z)
  (zHK : ZS Z 3 (fun r x=>r = e62 x) zyK zyL zj8)
  (zHL : ZS Z 3 (fun r x=>r = e62 x) zyN zyO zj9)
  (zHM : ZC Z zyM [(.slice zyN zj9.length zyO)])
  (zHN : ZC Z zyP [(.int .i64 zja.fNode),(.int .i64 zja.fLink)])
  (zHO : ZC Z zyQ [(.map (some zfR))])
  (hown : Hp (fps [yy zfR (fun x=>Value.agg (e97 x).toArray) (Value.int .i64) zbo]) w₀ w₀ [yy zfR (fun x=>Value.agg (e97 x).toArray) (Value.int .i64) zbo]) :
  Calls Tryz.prog 37 #[(.slice zyK zj8.length zyL),(.func (.func 38) #[] #[(.pointer (some zyM)),(.pointer (some zyP)),(.pointer (some zyQ))])] w₀ fun e w'=>e = .returned (.bool r) ∧ Hp (fps [yy zfR (fun x=>Value.agg (e97 x).toArray) (Value.int .i64) zbo]) w₀ w' [yy zfR (fun x=>Value.agg (e97 x).toArray) (Value.int .i64) zbo]:=by
 unfold y21 at h
 refine Calls.oh2 Tryz.func37 Tryz.ntmps37 hown ?_
 refine WC.b (WC.a (WL.pu rfl (WL.nil (WX.a (WC.b ?_)))))
 obtain ⟨zyJ,zHP,h⟩:=z6 h
 refine WC.a (WL.pu rfl (WL.pu rfl (WL.cA 7 (z8 Tryz.call65 (.r2 rfl rfl)) (.cons .here .nil) (cc hz (.cons .here .nil) fun w pz ho=>y6q _ _ _ _ _ _ _ _ _ _ _ _ _ _ zHP w pz zHK zHL zHM zHN zHO ho) (WL.pu rfl (WL.pu rfl (WL.nil (WX.a (WC.ret ?_))))))))
 obtain rfl:=Option.some.inj h
 refine WX.ye Tryz.results37 (.tmp rfl .nil) (fun w hw=>?_)
 exact ⟨yC rfl,hw.sub (.cons .here .nil)⟩
def y5o (zdA : List Sapi_Hop) (zjb : Sbound_place) (zbp : List (Sbound_place × Int)) : Option Bool :=
 (y21 zdA zdA zjb zbp).bind fun zyR=>some zyR
theorem yc7 (Z : Zp) (zr5 : Option Addr) (zr6 : Nat) (zyS : Addr) (zyT : Addr) (zfS : Nat) (zdA : List Sapi_Hop) (zjb : Sbound_place) (zbp : List (Sbound_place × Int)) (r : Bool)
  (h : y5o zdA zjb zbp = some r) (w₀ : World) (hz : PZ (fps [yy zfS (fun x=>Value.agg (e97 x).toArray) (Value.int .i64) zbp]) w₀ Z)
  (zyU : ZS Z 3 (fun r x=>r = e62 x) zr5 zr6 zdA)
  (zHQ : ZC Z zyS [(.int .i64 zjb.fNode),(.int .i64 zjb.fLink)])
  (zHR : ZC Z zyT [(.map (some zfS))])
  (hown : Hp (fps [yy zfS (fun x=>Value.agg (e97 x).toArray) (Value.int .i64) zbp]) w₀ w₀ [yy zfS (fun x=>Value.agg (e97 x).toArray) (Value.int .i64) zbp]) :
  Calls Tryz.prog 36 #[(.slice zr5 zdA.length zr6),(.pointer (some zyS)),(.pointer (some zyT))] w₀ fun e w'=>e = .returned (.bool r) ∧ Hp (fps [yy zfS (fun x=>Value.agg (e97 x).toArray) (Value.int .i64) zbp]) w₀ w' [yy zfS (fun x=>Value.agg (e97 x).toArray) (Value.int .i64) zbp]:=by
 unfold y5o at h
 refine Calls.oh3 Tryz.func36 Tryz.ntmps36 hown ?_
 refine WC.b (WC.a (WL.nA 3 (yH (cs:=[(.slice zr5 zdA.length zr6)]) rfl rfl) ?_))
 intro zUz _
 refine WL.pu rfl (WL.nil (WX.a (WC.b ?_)))
 obtain ⟨zyR,zHS,h⟩:=z6 h
 refine WC.a (WL.qA 5 (yc y6P rfl (ym .here rfl)) (WL.qA 6 (y17 (Eos.caps (l:=[.tmp 3,.tmp 1,.tmp 2]) (.r3 rfl rfl rfl))) (WL.cA 7 (z8 Tryz.call37 (.r2 rfl rfl)) (.cons .h1 .nil) (ccl hz (.cons .h1 .nil) (.cons .here .nil) fun w pz ho la=>y67 _ _ _ _ _ _ _ _ _ _ _ _ _ _ zHS w pz (zyU.mono (Zle.left _ _)) (zyU.mono (Zle.left _ _)) ((la _ (.head _) _).stb) (zHQ.mono (Zle.left _ _)) (zHR.mono (Zle.left _ _)) ho) (WL.pu rfl (WL.nil (WX.a (WC.ret ?_)))))))
 obtain rfl:=Option.some.inj h
 refine WX.ye Tryz.results36 (.tmp rfl .nil) (fun w hw=>?_)
 exact ⟨yC rfl,hw.sub (.cons .here .nil)⟩
def yM (z58 : List (List Sapi_Hop)) (z7A : Sbound_place) (z4L : List (Sbound_place × Int)) (z9w : Option Int) : Nat → Int → Option Int
 | 0,_=>none
 | zr7 + 1,z4M=>if decide (z4M < ((z58.length : Nat) : Int)) then chk ((0 : Int) ≤ z4M ∧ z4M < ((z58.length : Nat) : Int)) ((y5o (nth z58 z4M) z7A z4L).bind fun zyV=>if zyV then some z4M else yM z58 z7A z4L z9w zr7 (i64 (z4M + 1))) else z9w
theorem y55 {n : Nat} {z58 : List (List Sapi_Hop)} {z7A : Sbound_place} {z4L : List (Sbound_place × Int)} {z9w : Option Int} {z4M : Int} {r : Int} (h : yM z58 z7A z4L z9w n z4M = some r) : ∃ m,n = m + 1:=by
 cases n with
 | zero=>cases h
 | succ m=>exact ⟨m,rfl⟩
def y22 (z58 : List (List Sapi_Hop)) (z7A : Sbound_place) (z4L : List (Sbound_place × Int)) : Option Int :=
 jp0 (some (-1)) fun z9w=>yM z58 z7A z4L z9w yz 0
theorem y68 (Z : Zp) (zr8 : Option Addr) (zr9 : Nat) (zra : Addr) (zrb : Addr) (zbq : Nat) (z58 : List (List Sapi_Hop)) (z7A : Sbound_place) (z4L : List (Sbound_place × Int)) (r : Int)
  (h : y22 z58 z7A z4L = some r) (w₀ : World) (hz : PZ (fps [yy zbq (fun x=>Value.agg (e97 x).toArray) (Value.int .i64) z4L]) w₀ Z)
  (zHT : ZS Z 1 (p48 Z) zr8 zr9 z58)
  (zHU : ZC Z zra [(.int .i64 z7A.fNode),(.int .i64 z7A.fLink)])
  (zHV : ZC Z zrb [(.map (some zbq))])
  (hown : Hp (fps [yy zbq (fun x=>Value.agg (e97 x).toArray) (Value.int .i64) z4L]) w₀ w₀ [yy zbq (fun x=>Value.agg (e97 x).toArray) (Value.int .i64) z4L]) :
  Calls Tryz.prog 55 #[(.slice zr8 z58.length zr9),(.func (.func 36) #[] #[(.pointer (some zra)),(.pointer (some zrb))])] w₀ fun e w'=>e = .returned (.int .i64 r) ∧ Hp (fps [yy zbq (fun x=>Value.agg (e97 x).toArray) (Value.int .i64) z4L]) w₀ w' [yy zbq (fun x=>Value.agg (e97 x).toArray) (Value.int .i64) z4L]:=by
 unfold y22 at h
 refine Calls.oh2 Tryz.func55 Tryz.ntmps55 hown ?_
 refine WC.b (WC.a (WL.pu rfl (WL.nil (WX.a ?_))))
 obtain ⟨z9w,zHW,h⟩:=y2y h
 refine WC.y1P ((z9w = some r)) ([]) ([yy zbq (fun x=>Value.agg (e97 x).toArray) (Value.int .i64) z4L]) ?_ ?_
 ·skip
  refine WC.b (WC.a (WL.pu rfl (WL.qA 7 (yG Tryz.underlying32 rfl) (WL.pu rfl (WL.nil (WX.a (WC.block (WC.y2V (fun (zfT : Nat) (z4M : Int)=>(yM z58 z7A z4L z9w zfT z4M = some r)) (fun zfT z4M=>[(0,(.slice zr8 z58.length zr9)),(1,(.func (.func 36) #[] #[(.pointer (some zra)),(.pointer (some zrb))])),(7,(.int .i64 ((z58.length : Nat) : Int))),(8,(.int .i64 z4M))]) (fun zfT z4M=>[yy zbq (fun x=>Value.agg (e97 x).toArray) (Value.int .i64) z4L]) (fun zfT z4M=>zfT) ⟨yz,0⟩ h (.r4 rfl rfl rfl rfl) (.cons .here .nil) ?_))))))))
  rintro zfT z4M h
  obtain ⟨zr7,rfl⟩:=y55 h
  rw [yM] at h
  refine WC.b (WC.a (WL.pu rfl (WL.nil (WX.a (WC.b (WC.cond rfl (fun zrc=>?_) (fun zrc=>?_)))))))
  ·replace h:=yo h zrc
   refine WC.skip (WX.a (WC.b (WC.block (WC.b (WC.a (WL.pu rfl (WL.pu rfl (WL.nil (WX.a (WC.b ?_))))))))))
   obtain ⟨zHX,h⟩:=yn h
   obtain ⟨zyV,zHY,h⟩:=z6 h
   refine WC.a (WL.pu rfl (WL.pu rfl (WL.pu rfl (WL.znth (dd:=14) rfl rfl (Z:=Z) (Pr:=(p48 Z)) y6z rfl rfl zHT zHX ?_))))
   rintro zUA zUB zHZ zUC ⟨zUD,zUE,rfl,zI0⟩
   refine WL.qA 15 (yc y6P rfl (y57 hz.pv zHZ rfl)) (WL.cA 16 (y2t (l:=[.tmp 15]) Tryz.call36 rfl (.cons rfl .nil)) (.cons .here .nil) (cc hz (.cons .here .nil) fun w pz ho=>yc7 _ _ _ _ _ _ _ _ _ _ zHY w pz zI0 zHU zHV ho) (WL.nil (WX.a (WC.cond rfl (fun zrd=>?_) (fun zrd=>?_)))))
   ·replace h:=yo h zrd
    refine WC.b (WC.a (WL.pu rfl (WL.pu rfl (WL.nil (WX.a (WC.ret (WX.yt (WX.yd (WX.yd (WX.yt (WX.yd ?_)))))))))))
    obtain rfl:=Option.some.inj h
    refine WX.ye Tryz.results55 (.tmp rfl .nil) (fun w hw=>?_)
    exact ⟨yC rfl,hw.sub (.cons .here .nil)⟩
   ·replace h:=yp h zrd
    refine WC.skip (WX.yk (WX.a (WC.a (WL.pu rfl (WL.pu rfl (WL.nil ?_))))))
    exact WX.round ⟨zr7,(i64 (z4M + 1))⟩ h (Nat.lt_succ_self _) (.r4 rfl rfl rfl rfl) (.cons .here .nil)
  ·replace h:=yp h zrc
   refine WC.exit (WX.yg (WX.yg (WX.yA ?_)))
   exact WX.mid () h .nil (.cons .here .nil)
 ·rintro  h
  replace h:=zHW.symm.trans h
  refine WC.b (WC.a (WL.pu rfl (WL.nil (WX.a (WC.ret ?_)))))
  obtain rfl:=Option.some.inj h
  refine WX.ye Tryz.results55 (.tmp rfl .nil) (fun w hw=>?_)
  exact ⟨yC rfl,hw.sub (.cons .here .nil)⟩
def y1o (zjc : List (List Sapi_Hop)) (zjd : Sbound_place) (zbr : List (Sbound_place × Int)) : Option Bool :=
 (y22 zjc zjd zbr).bind fun zyW=>some (decide (zyW ≥ 0))
theorem y5M (Z : Zp) (zyX : Option Addr) (zyY : Nat) (zyZ : Addr) (zz0 : Addr) (zfU : Nat) (zjc : List (List Sapi_Hop)) (zjd : Sbound_place) (zbr : List (Sbound_place × Int)) (r : Bool)
  (h : y1o zjc zjd zbr = some r) (w₀ : World) (hz : PZ (fps [yy zfU (fun x=>Value.agg (e97 x).toArray) (Value.int .i64) zbr]) w₀ Z)
  (zI1 : ZS Z 1 (p48 Z) zyX zyY zjc)
  (zI2 : ZC Z zyZ [(.int .i64 zjd.fNode),(.int .i64 zjd.fLink)])
  (zI3 : ZC Z zz0 [(.map (some zfU))])
  (hown : Hp (fps [yy zfU (fun x=>Value.agg (e97 x).toArray) (Value.int .i64) zbr]) w₀ w₀ [yy zfU (fun x=>Value.agg (e97 x).toArray) (Value.int .i64) zbr]) :
  Calls Tryz.prog 27 #[(.slice zyX zjc.length zyY),(.func (.func 36) #[] #[(.pointer (some zyZ)),(.pointer (some zz0))])] w₀ fun e w'=>e = .returned (.bool r) ∧ Hp (fps [yy zfU (fun x=>Value.agg (e97 x).toArray) (Value.int .i64) zbr]) w₀ w' [yy zfU (fun x=>Value.agg (e97 x).toArray) (Value.int .i64) zbr]:=by
 unfold y1o at h
 refine Calls.oh2 Tryz.func27 Tryz.ntmps27 hown ?_
 refine WC.b (WC.a (WL.pu rfl (WL.nil (WX.a (WC.b ?_)))))
 obtain ⟨zyW,zI4,h⟩:=z6 h
 refine WC.a (WL.pu rfl (WL.pu rfl (WL.cA 7 (z8 Tryz.call55 (.r2 rfl rfl)) (.cons .here .nil) (cc hz (.cons .here .nil) fun w pz ho=>y68 _ _ _ _ _ _ _ _ _ _ zI4 w pz zI1 zI2 zI3 ho) (WL.pu rfl (WL.pu rfl (WL.nil (WX.a (WC.ret ?_))))))))
 obtain rfl:=Option.some.inj h
 refine WX.ye Tryz.results27 (.tmp rfl .nil) (fun w hw=>?_)
 exact ⟨yC rfl,hw.sub (.cons .here .nil)⟩
def y7H (l : List Sbound_place) (i j : Int) : Option (List Sbound_place):=chk (((0 : Int) ≤ i ∧ i ≤ j ∧ j ≤ l.length) ∧ l.length * 16 ≤ 140737488355328) (some (l.take i.toNat ++ l.drop j.toNat))
theorem yc8 (Z : Zp) (ao : Option Addr) (cap : Nat) (l : List Sbound_place) (i j : Int) (r : List Sbound_place) (w₀ : World) (hz : PZ (fps [row (.slice ao l.length cap) 97 2 (l.flatMap e97)]) w₀ Z) (h : y7H l i j = some r) (hown : Hp (fps [row (.slice ao l.length cap) 97 2 (l.flatMap e97)]) w₀ w₀ [row (.slice ao l.length cap) 97 2 (l.flatMap e97)]) :
  Calls Tryz.prog 41 #[.slice ao l.length cap,.int .i64 i,.int .i64 j] w₀ fun e w'=>∃ aor : Option Addr,∃ capr : Nat,e = .returned (.slice aor r.length capr) ∧ True ∧ Hp (fps [row (.slice ao l.length cap) 97 2 (l.flatMap e97)]) w₀ w' [row (.slice aor r.length capr) 97 2 (r.flatMap e97)]:=by
 obtain ⟨⟨c1,c2⟩,h⟩:=yn h
 obtain rfl:=Option.some.inj h
 clear h
 refine Calls.oh3 Tryz.func41 Tryz.ntmps41 hown ?_
 refine WC.b (WC.a (WL.pu rfl (WL.nil (WX.a (WC.b (WC.a (WL.pu rfl (WL.pu rfl (WL.pu rfl (WL.pu rfl (WL.qA 12 (yG Tryz.underlying88 rfl) (WL.know (fun w h=>h.rowShape .here) fun hs=>?_))))))))))))
 obtain ⟨hs1,hs2,hs3,_⟩:=hs
 refine WL.qA 13 (q_slice3 y5i rfl rfl rfl rfl (by omega) (by omega) (by omega) (by omega)) (WL.nil (WX.a (WC.b (WC.b (WC.a (WL.pu rfl (WL.pu rfl (WL.pu rfl (WL.nil (WX.a (WC.cond rfl (fun hb=>?_) (fun hb=>?_))))))))))))
 ·have e : i = j:=by simpa using hb
  refine WC.b (WC.a (WL.pu rfl (WL.pu rfl (WL.nil (WX.a (WC.ret (WX.yd (WX.ye Tryz.results41 (.tmp rfl .nil) (fun w hw=>?_)))))))))
  have e2 : l.take i.toNat ++ l.drop j.toNat = l:=by subst e; exact List.take_append_drop _ _
  rw [e2]; exact ⟨ao,cap,yC rfl,trivial,hw.sub (.cons .here .nil)⟩
 ·have hne : i < j:=by
   have : i ≠ j:=by simpa using hb
   omega
  clear hb
  refine WC.skip (WX.a (WC.b (WC.a (WL.pu rfl (WL.qA 19 (yG Tryz.underlying88 rfl) (WL.pu rfl (WL.nil (WX.a (WC.b (WC.know (fun w hw=>Hp.y2j .here hw (by omega)) ?_))))))))))
  rintro ⟨b,rfl⟩
  have hlen : (l.take i.toNat ++ l.drop j.toNat).length = i.toNat + (l.length - j.toNat):=by rw [List.length_append,List.length_take,List.length_drop]; omega
  refine WC.yO (fun i=>[6].contains i) [] rfl (WD.pA 0 20 rfl (fun _=>q_m rfl) (WD.pA 1 21 rfl (fun _=>q_m rfl) (WD.pA 2 22 rfl (fun _=>y6K (lo:=0) (hi:=i.toNat) (lv:=none) (hv:=some (.int .i64 i)) y5i rfl (fun _ _ _=>rfl) (fun a w h=>by rw [Option.map_some,h.eval rfl]) rfl (by show i = _; omega) (by omega) (by omega) (by simp)) (WD.repin (i:=22) rfl (u:=.slice (some ⟨b,0,none⟩) i.toNat cap) (by split <;> simp [Addr.add]) (WD.pA 3 23 rfl (fun _=>q_m rfl) (WD.pA 4 24 rfl (fun _=>q_m rfl) (WD.pA 5 25 rfl (fun _=>y6K (lo:=j.toNat) (hi:=l.length) (lv:=some (.int .i64 j)) (hv:=none) y5i rfl (fun a w h=>by rw [Option.map_some,h.eval rfl]) (fun _ _ _=>rfl) (by show j = _; omega) rfl (by omega) (by omega) (fun _=>hs2)) (WD.old (i:=6) (dd:=26) rfl (by kernel_rfl) rfl rfl rfl rfl (fun _=>Sin.of .nil) (yeU (i:=i.toNat) (j:=j.toNat) (m:=l.length) (cs:=l.flatMap e97) y5i rfl rfl (fun hk=>if_neg (by omega)) .here (by omega) (by omega) (y5d yaP _) (by omega)) ?_))))))))
  intro tl _
  refine WD.pA 7 0 rfl (fun _=>q_z rfl) (WD.done (by kernel_rfl) (WX.a (WC.b (WC.a (WL.pu rfl (WL.pu rfl (WL.qA 29 (yG Tryz.underlying88 rfl) (WL.pu rfl (WL.qA 31 (y6K (lo:=i.toNat + (l.length - j.toNat)) (hi:=l.length) (lv:=some (.int .i64 ((i.toNat + (l.length - j.toNat) : Nat) : Int))) (hv:=some (.int .i64 ((l.length : Nat) : Int))) y5i rfl (fun a w h=>by rw [Option.map_some,h.eval rfl]) (fun a w h=>by rw [Option.map_some,h.eval rfl]) rfl rfl (by omega) (by omega) (by simp)) (WL.yj rfl rfl (ybp (i:=i.toNat + (l.length - j.toNat)) y5i y8N rfl rfl (by omega) (yer (enc:=e97) (sz:=2) (z0:=((⟨0,0⟩ : Sbound_place) : Sbound_place)) (fun _=>rfl) (by decide) rfl yaP) .here rfl) (WL.nil (WX.a (WC.b (WC.a (WL.pu rfl (WL.pu rfl (WL.nil (WX.a (WC.ret (WX.ye Tryz.results41 (.tmp rfl .nil) (fun w hw=>?_)))))))))))))))))))))
  rw [hlen]
  refine ⟨some ⟨b,0,none⟩,cap,yC rfl,trivial,?_⟩
  have h5:=Hp.rowShort (m:=l.length) (i:=i.toNat + (l.length - j.toNat)) (R:=[]) .here (by omega) hw
  have e1 : (l.flatMap e97).take (i.toNat * 2) = (l.take i.toNat).flatMap e97:=y99 (enc:=e97) (sz:=2) (fun _=>rfl) l i.toNat (by omega)
  have e2 : (l.flatMap e97).drop (j.toNat * 2) = (l.drop j.toNat).flatMap e97:=yay (enc:=e97) (sz:=2) (fun _=>rfl) l j.toNat (by omega)
  have e3 : ((l.take i.toNat ++ l.drop j.toNat).flatMap e97).length = (i.toNat + (l.length - j.toNat)) * 2:=by rw [y6x (sz:=2) (fun _=>rfl),hlen]
  rw [e1,e2,← List.flatMap_append,← e3,List.take_left,List.take_left] at h5
  exact h5.sub (.cons .here .nil)
def y39 (zz : List Sbound_place) (z2Q : List (List Sapi_Hop)) (z2m : List (Sbound_place × Int)) (z1M : List Sbound_place) (z9x : (List Sbound_place) → (List Sbound_place) → (List (Sbound_place × Int)) → Option (List Sbound_place × Int)) (z9y : Option (List Sbound_place × Int)) : Nat → Int → Option (List Sbound_place × Int)
 | 0,_=>none
 | zre + 1,zJ=>if decide (zJ < ((zz.length : Nat) : Int)) then chk ((0 : Int) ≤ zJ ∧ zJ < ((zz.length : Nat) : Int)) ((y1o z2Q (⟨((nth zz zJ).fNode),((nth zz zJ).fLink)⟩ : Sbound_place) z2m).bind fun zz1=>if !zz1 then chk ((((z1M ++ ([(⟨((nth zz zJ).fNode),((nth zz zJ).fLink)⟩ : Sbound_place)] : List Sbound_place)).length : Nat) : Int) * 16 ≤ 140737488355328 ∧ (((z1M ++ ([(⟨((nth zz zJ).fNode),((nth zz zJ).fLink)⟩ : Sbound_place)] : List Sbound_place)).length : Nat) : Int) ≤ 4611686018427387904) ((y7H zz zJ (i64 (zJ + 1))).bind fun zmh=>z9x zmh (z1M ++ ([(⟨((nth zz zJ).fNode),((nth zz zJ).fLink)⟩ : Sbound_place)] : List Sbound_place)) (yL z2m (⟨((nth zz zJ).fNode),((nth zz zJ).fLink)⟩ : Sbound_place) (i64 ((yq z2m (⟨((nth zz zJ).fNode),((nth zz zJ).fLink)⟩ : Sbound_place) 0) + 1)))) else y39 zz z2Q z2m z1M z9x z9y zre (i64 (zJ + 1))) else z9y
theorem y9I {n : Nat} {zz : List Sbound_place} {z2Q : List (List Sapi_Hop)} {z2m : List (Sbound_place × Int)} {z1M : List Sbound_place} {z9x : (List Sbound_place) → (List Sbound_place) → (List (Sbound_place × Int)) → Option (List Sbound_place × Int)} {z9y : Option (List Sbound_place × Int)} {zJ : Int} {r : List Sbound_place × Int} (h : y39 zz z2Q z2m z1M z9x z9y n zJ = some r) : ∃ m,n = m + 1:=by
 cases n with
 | zero=>cases h
 | succ m=>exact ⟨m,rfl⟩
def y3a (z2Q : List (List Sapi_Hop)) (z9z : (List Sbound_place) → Option (List Sbound_place × Int)) : Nat → (List Sbound_place) → (List Sbound_place) → (List (Sbound_place × Int)) → Option (List Sbound_place × Int)
 | 0,_,_,_=>none
 | zrf + 1,zz,z1M,z2m=>if decide (((zz.length : Nat) : Int) > 0) then jp3 (fun (z7B : List Sbound_place) (z7C : List Sbound_place) (z9A : List (Sbound_place × Int))=>y3a z2Q z9z zrf z7B z7C z9A) fun z9x=>jp0 (some (([] : List Sbound_place),351)) fun z9y=>y39 zz z2Q z2m z1M z9x z9y yz 0 else z9z z1M
theorem y9J {n : Nat} {z2Q : List (List Sapi_Hop)} {z9z : (List Sbound_place) → Option (List Sbound_place × Int)} {zz : List Sbound_place} {z1M : List Sbound_place} {z2m : List (Sbound_place × Int)} {r : List Sbound_place × Int} (h : y3a z2Q z9z n zz z1M z2m = some r) : ∃ m,n = m + 1:=by
 cases n with
 | zero=>cases h
 | succ m=>exact ⟨m,rfl⟩
def y4B (z2Q : List (List Sapi_Hop)) : Option (List Sbound_place × Int) :=
 (y5K z2Q).bind fun zrg=>jp1 (fun (z85 : List Sbound_place)=>some (z85,0)) fun z9z=>y3a z2Q z9z yz zrg ([] : List Sbound_place) ([] : List (Sbound_place × Int))
theorem yap (Z : Zp) (zje : Option Addr) (zjf : Nat) (z2Q : List (List Sapi_Hop)) (r : List Sbound_place × Int)
  (h : y4B z2Q = some r) (w₀ : World) (hz : PZ [] w₀ Z)
  (zz2 : ZS Z 1 (p48 Z) zje zjf z2Q) :
  Calls Tryz.prog 21 #[(.slice zje z2Q.length zjf)] w₀ fun e w'=>∃ zz3 : Option Addr,∃ zz4 : Nat,e = .returned (.tuple #[(.slice zz3 r.1.length zz4),(.int .i64 r.2)]) ∧ True ∧ Hp [] w₀ w' [row (.slice zz3 r.1.length zz4) 97 2 (r.1.flatMap e97)]:=by
 unfold y4B at h
 refine Calls.on1 Tryz.func21 Tryz.ntmps21 ?_
 refine WC.b (WC.a (WL.pu rfl (WL.pu rfl (WL.nil (WX.a (WC.scope (WC.b ?_)))))))
 obtain ⟨zrg,zI5,h⟩:=z6 h
 refine WC.a (WL.pu rfl (WL.y4b (dd:=11) rfl rfl rfl (z8 Tryz.call35 (.cons rfl .nil)) .nil (cc hz .nil fun w pz ho=>ycA _ _ _ _ _ zI5 w pz zz2) ?_))
 rintro zI6 zI7 _
 refine WL.pu rfl (WL.nil (WX.a (WC.b (WC.a (WL.nA 12 (y4o (fun x=>Value.agg (e97 x).toArray) (Value.int .i64)) ?_)))))
 intro zdB _
 refine WL.nA 5 (yw (cs:=[(.map none)]) zeroT_93 rfl) ?_
 intro zfV _
 refine WL.yj rfl rfl (yl sizT_93 rfl rfl rfl .here rfl rfl rfl) (WL.nil (WX.a (WC.b (WC.a (WL.pu rfl (WL.nil (WX.a (WC.b (WC.label (WX.a ?_))))))))))
 obtain ⟨z9z,zI8,h⟩:=y1d h
 refine WC.y2u (fun (z85 : List Sbound_place) (zfW : Option Addr) (zfX : Nat)=>(z9z z85 = some r)) (fun z85 zfW zfX=>[(6,(.slice zfW z85.length zfX))]) (fun z85 zfW zfX=>[row (.slice zfW z85.length zfX) 97 2 (z85.flatMap e97)]) ?_ ?_
 ·skip
  refine WC.block (WC.nilRow 97 2 (WC.y9W (fun (zfY : Nat) (zz : List Sbound_place) (z1M : List Sbound_place) (z2m : List (Sbound_place × Int)) (z9B : Option Addr) (z86 : Nat) (z9C : Option Addr) (z9D : Nat)=>(y3a z2Q z9z zfY zz z1M z2m = some r)) (fun zfY zz z1M z2m z9B z86 z9C z9D=>[(0,(.slice zje z2Q.length zjf)),(4,(.slice z9B zz.length z86)),(5,(.pointer (some ⟨zfV,0,none⟩))),(6,(.slice z9C z1M.length z9D))]) (fun zfY zz z1M z2m z9B z86 z9C z9D=>[row (.slice z9B zz.length z86) 97 2 (zz.flatMap e97),row (.slice z9C z1M.length z9D) 97 2 (z1M.flatMap e97),stb zfV 93 [(.map (some zdB))],yy zdB (fun x=>Value.agg (e97 x).toArray) (Value.int .i64) z2m]) (fun zfY zz z1M z2m z9B z86 z9C z9D=>zfY) ⟨yz,zrg,([] : List Sbound_place),([] : List (Sbound_place × Int)),zI6,zI7,none,0⟩ h (.r4 rfl rfl rfl rfl) (.s4 .h3 .here .here .here) ?_))
  rintro zfY zz z1M z2m z9B z86 z9C z9D h
  obtain ⟨zrf,rfl⟩:=y9J h
  rw [y3a] at h
  refine WC.b (WC.b (WC.a (WL.pu rfl (WL.qA 14 (yG Tryz.underlying88 rfl) (WL.pu rfl (WL.nil (WX.a (WC.cond rfl (fun zrh=>?_) (fun zrh=>?_)))))))))
  ·replace h:=yo h zrh
   refine WC.skip (WX.a ?_)
   obtain ⟨z9x,zI9,h⟩:=y9Z h
   refine WC.mid7 (fun (z7B : List Sbound_place) (z7C : List Sbound_place) (z9A : List (Sbound_place × Int)) (zfZ : Option Addr) (zg0 : Nat) (zg1 : Option Addr) (zg2 : Nat)=>(z9x z7B z7C z9A = some r)) (fun z7B z7C z9A zfZ zg0 zg1 zg2=>[(0,(.slice zje z2Q.length zjf)),(4,(.slice zfZ z7B.length zg0)),(5,(.pointer (some ⟨zfV,0,none⟩))),(6,(.slice zg1 z7C.length zg2))]) (fun z7B z7C z9A zfZ zg0 zg1 zg2=>[row (.slice zfZ z7B.length zg0) 97 2 (z7B.flatMap e97),row (.slice zg1 z7C.length zg2) 97 2 (z7C.flatMap e97),stb zfV 93 [(.map (some zdB))],yy zdB (fun x=>Value.agg (e97 x).toArray) (Value.int .i64) z9A]) ?_ ?_
   ·skip
    refine WC.block ?_
    obtain ⟨z9y,zIa,h⟩:=y2y h
    refine WC.y1P ((z9y = some r)) ([]) ([]) ?_ ?_
    ·skip
     refine WC.b (WC.a (WL.pu rfl (WL.qA 17 (yG Tryz.underlying88 rfl) (WL.pu rfl (WL.nil (WX.a (WC.block (WC.y2V (fun (zg3 : Nat) (zJ : Int)=>(y39 zz z2Q z2m z1M z9x z9y zg3 zJ = some r)) (fun zg3 zJ=>[(0,(.slice zje z2Q.length zjf)),(4,(.slice z9B zz.length z86)),(5,(.pointer (some ⟨zfV,0,none⟩))),(6,(.slice z9C z1M.length z9D)),(16,(.slice z9B zz.length z86)),(17,(.int .i64 ((zz.length : Nat) : Int))),(18,(.int .i64 zJ))]) (fun zg3 zJ=>[row (.slice z9B zz.length z86) 97 2 (zz.flatMap e97),row (.slice z9C z1M.length z9D) 97 2 (z1M.flatMap e97),stb zfV 93 [(.map (some zdB))],yy zdB (fun x=>Value.agg (e97 x).toArray) (Value.int .i64) z2m]) (fun zg3 zJ=>zg3) ⟨yz,0⟩ h (.r7 rfl rfl rfl rfl rfl rfl rfl) (.s4 .here .here .here .here) ?_))))))))
     rintro zg3 zJ h
     obtain ⟨zre,rfl⟩:=y9I h
     rw [y39] at h
     refine WC.b (WC.a (WL.pu rfl (WL.nil (WX.a (WC.b (WC.cond rfl (fun zri=>?_) (fun zri=>?_)))))))
     ·replace h:=yo h zri
      refine WC.skip (WX.a (WC.b (WC.block (WC.b ?_))))
      obtain ⟨zjg,h⟩:=yn h
      refine WC.a (WL.pu rfl (WL.know (fun w hw=>Hp.y2j .here hw (by intro hz'; have:=zjg; rw [hz'] at this; omega)) ?_))
      rintro ⟨zIb,rfl⟩
      refine WL.qA 21 (yV y5i rfl rfl zjg.1 zjg.2 y32) (WL.qA 22 (yT (cs:=(e97 (nth zz zJ))) y3I rfl rfl (y49 .here (y3y (enc:=e97) (l:=zz) (i:=zJ) (sz:=2) (fun _=>rfl) zjg.1 zjg.2))) (WL.nA 8 (yw (cs:=[(.int .i64 0),(.int .i64 0)]) y8N rfl) ?_))
      intro zUF _
      refine WL.pu rfl (WL.yj rfl rfl (yl yba rfl rfl rfl .here rfl rfl rfl) (WL.nil (WX.a (WC.b ?_))))
      obtain ⟨zz1,zIc,h⟩:=z6 h
      refine WC.a (WL.pu rfl (WL.qA 24 (y17 (Eos.caps (l:=[.tmp 8,.tmp 5]) (.r2 rfl rfl))) (WL.cA 25 (z8 Tryz.call27 (.r2 rfl rfl)) (.cons .h4 .nil) (ccl hz (.cons .h4 .nil) (.s2 .here .h2) fun w pz ho la=>y5M _ _ _ _ _ _ _ _ _ _ zIc w pz ((zz2.mono (Zle.left _ _)).weak (fun _ _ h=>y1e (Zle.left _ _) h)) ((la _ (.head _) _).stb) ((la _ (.tail _ (.head _)) _).stb) ho) (WL.pu rfl (WL.pu rfl (WL.nil (WX.a (WC.b (WC.a (WL.pu rfl (WL.nil (WX.a (WC.cond rfl (fun zrj=>?_) (fun zrj=>?_))))))))))))))
      ·replace h:=yo h zrj
       refine WC.b (WC.yO (fun i=>[4,6].contains i) [yc0 zdB (fun x=>Value.agg (e97 x).toArray) (Value.int .i64) (⟨((nth zz zJ).fNode),((nth zz zJ).fLink)⟩ : Sbound_place) (0 : Int) (yq z2m (⟨((nth zz zJ).fNode),((nth zz zJ).fLink)⟩ : Sbound_place) 0)] rfl (WD.qA 0 28 rfl (yc y9C rfl (ym .h4 rfl)) (WD.qA 1 29 rfl (yf y3I rfl (yh .h1) rfl) (WD.sA 2 30 rfl (Sin.wk (.cons .here .nil) (.any rfl (fun _ h=>y6y h) .nil)) (ycX (k:=(⟨((nth zz zJ).fNode),((nth zz zJ).fLink)⟩ : Sbound_place)) (dflt:=(0 : Int)) y7s Tryz.underlying93 y4V rfl rfl rfl .here) (WD.pA 3 31 rfl (fun _=>ybS rfl rfl rfl) (WD.oldQ (i:=4) (dd:=32) rfl (by kernel_rfl) rfl rfl rfl rfl (yeQ (k:=(⟨((nth zz zJ).fNode),((nth zz zJ).fLink)⟩ : Sbound_place)) (dflt:=(0 : Int)) y7s Tryz.underlying93 y4V rfl rfl rfl .here) (fun _=>(Sin.wk (.cons .here .nil) (.any rfl (fun _ h=>yfq h) .nil))) ?_))))))
       rintro zUG _
       refine WD.pA 5 33 rfl (fun _=>y7m rfl rfl) (WD.y3l (i:=6) rfl (by kernel_rfl) rfl rfl rfl (by kernel_rfl) (yde (k:=(⟨((nth zz zJ).fNode),((nth zz zJ).fLink)⟩ : Sbound_place)) (v:=i64 ((yq z2m (⟨((nth zz zJ).fNode),((nth zz zJ).fLink)⟩ : Sbound_place) 0) + 1)) rfl rfl rfl rfl .here) (WD.done (by kernel_rfl) (WX.a (WC.b ?_))))
       obtain ⟨zId,h⟩:=yn h
       refine WC.a (WL.pu rfl (WL.qA 35 (yf y3I rfl (yh .h1) rfl) (WL.nA 36 (yN (cs:=([(⟨((nth zz zJ).fNode),((nth zz zJ).fLink)⟩ : Sbound_place)] : List Sbound_place).flatMap e97) y5i (Eos.parts (l:=[.tmp 35]) (.cons rfl .nil) [0]) (fun _=>by kernel_rfl) rfl (by unfold maxLen; omega)) ?_)))
       intro zUH _
       refine WL.fA 37 (y4S (enc:=e97) (l1:=z1M) (l2:=([(⟨((nth zz zJ).fNode),((nth zz zJ).fLink)⟩ : Sbound_place)] : List Sbound_place)) y5i rfl rfl .h4 (fun _=>rfl) rfl rfl (y3C .here) (y5d yaP _) zId) ?_
       rintro ⟨zIe,zIf⟩ _
       refine WL.pu rfl (WL.nil (WX.a (WC.b ?_)))
       obtain ⟨zmh,zIg,h⟩:=z6 h
       refine WC.a (WL.pu rfl (WL.pu rfl (WL.pu rfl (WL.pu rfl (WL.y4b (dd:=42) rfl rfl rfl (z8 Tryz.call41 (.r3 rfl rfl rfl)) (.cons .h4 .nil) (cc hz (.cons .h4 .nil) fun w pz ho=>yc8 (Z:=_) (ao:=(some ⟨zIb,0,none⟩)) (cap:=z86) (l:=zz) (i:=zJ) (j:=(i64 (zJ + 1))) (r:=zmh) w pz  zIg ho) ?_)))))
       rintro zIh zIi _
       refine WL.pu rfl (WL.nil (WX.a (WC.exit (WX.yav rfl (WX.yg (WX.yg (WX.yav rfl (WX.yg (WX.yA ?_)))))))))
       exact WX.mid ⟨zmh,(z1M ++ ([(⟨((nth zz zJ).fNode),((nth zz zJ).fLink)⟩ : Sbound_place)] : List Sbound_place)),(yL z2m (⟨((nth zz zJ).fNode),((nth zz zJ).fLink)⟩ : Sbound_place) (i64 ((yq z2m (⟨((nth zz zJ).fNode),((nth zz zJ).fLink)⟩ : Sbound_place) 0) + 1))),zIh,zIi,zIe,zIf⟩ h (.r4 rfl rfl rfl rfl) (.s4 .here .here .h3 .h1)
      ·replace h:=yp h zrj
       refine WC.skip (WX.yk (WX.a (WC.a (WL.pu rfl (WL.pu rfl (WL.nil ?_))))))
       exact WX.round ⟨zre,(i64 (zJ + 1))⟩ h (Nat.lt_succ_self _) (.r7 rfl rfl rfl rfl rfl rfl rfl) (.s4 .h2 .h2 .h2 .here)
     ·replace h:=yp h zri
      refine WC.exit (WX.yg (WX.yg (WX.yA ?_)))
      exact WX.mid () h .nil .nil
    ·rintro  h
     replace h:=zIa.symm.trans h
     refine WC.b (WC.a (WL.pu rfl (WL.pu rfl (WL.nil (WX.a (WC.ret (WX.yt (WX.yd (WX.yd (WX.yt (WX.yd (WX.ybu (WX.nilRow 97 2 ?_)))))))))))))
     obtain rfl:=Option.some.inj h
     refine WX.ye Tryz.results21 (.tmp rfl (.tmp rfl .nil)) (fun w hw=>?_)
     exact ⟨none,0,y1Z rfl rfl,trivial,hw.sub (.cons .here .nil)⟩
   ·rintro z7B z7C z9A zfZ zg0 zg1 zg2 h
    replace h:=(zI9 z7B z7C z9A).symm.trans h
    exact WX.round ⟨zrf,z7B,z7C,z9A,zfZ,zg0,zg1,zg2⟩ h (Nat.lt_succ_self _) (.r4 rfl rfl rfl rfl) (.s4 .here .here .here .here)
  ·replace h:=yp h zrh
   refine WC.exit (WX.yg (WX.yg (WX.yA ?_)))
   exact WX.mid ⟨z1M,z9C,z9D⟩ h (.cons rfl .nil) (.cons .h1 .nil)
 ·rintro z85 zfW zfX h
  replace h:=(zI8 z85).symm.trans h
  refine WC.b (WC.a (WL.pu rfl (WL.pu rfl (WL.pu rfl (WL.nil (WX.a (WC.ret (WX.ybu ?_))))))))
  obtain rfl:=Option.some.inj h
  refine WX.ye Tryz.results21 (.tmp rfl (.tmp rfl .nil)) (fun w hw=>?_)
  exact ⟨zfW,zfX,y1Z rfl rfl,trivial,hw.sub (.cons .here .nil)⟩
def y3L (z9E : Sapi_Hop) (zg4 : Sbound_place) : Option Bool :=
 (y3Y z9E).bind fun zrk=>some (decide (zrk = zg4))
theorem y9K (Z : Zp) (zz5 : Addr) (z9E : Sapi_Hop) (zg4 : Sbound_place) (r : Bool)
  (h : y3L z9E zg4 = some r) (w₀ : World) (hz : PZ [] w₀ Z)
  (zIj : ZC Z zz5 [(.int .i64 zg4.fNode),(.int .i64 zg4.fLink)]) :
  Calls Tryz.prog 67 #[(.agg #[(.int .i64 z9E.fNode),(.int .i64 z9E.fNext),(.int .i64 z9E.fLink)]),(.pointer (some zz5))] w₀ fun e w'=>e = .returned (.bool r) ∧ Hp [] w₀ w' []:=by
 unfold y3L at h
 refine Calls.yJ Tryz.func67 Tryz.ntmps67 ?_
 refine WC.b (WC.a (WL.nA 2 (yH (cs:=[(.int .i64 z9E.fNode),(.int .i64 z9E.fNext),(.int .i64 z9E.fLink)]) rfl rfl) ?_))
 intro zUI _
 refine WL.pu rfl (WL.nil (WX.a (WC.b ?_)))
 obtain ⟨zrk,zIk,h⟩:=z6 h
 refine WC.yO (fun i=>[].contains i) [] rfl (WD.qA 0 4 rfl (yf y3H rfl (yh .here) rfl) (WD.eA 1 5 rfl (z8 Tryz.call40 (.cons rfl .nil)) (cc hz .nil fun w pz ho=>y5l _ _ _ zIk w pz ) (WD.qA 2 6 rfl (yf y3I rfl (y2v hz.pv zIj) rfl) (WD.pA 3 7 rfl (fun _=>y7g (enc:=e97) (a:=zrk) (b:=zg4) yc4 rfl rfl) (WD.pA 4 3 rfl (fun _=>q_z rfl) (WD.done (by kernel_rfl) (WX.a (WC.ret ?_))))))))
 obtain rfl:=Option.some.inj h
 refine WX.ye Tryz.results67 (.tmp rfl .nil) (fun w hw=>?_)
 exact ⟨yC rfl,hw.sub .nil⟩
def y18 (zjh : List Sapi_Hop) (zg5 : Sapi_Hop → Option Bool) : Option Bool :=
 (y15 zjh zg5).bind fun zz6=>some (decide (zz6 ≥ 0))
theorem y5Y (Z : Zp) (zz7 : Option Addr) (zz8 : Nat) (zg6 : FuncId) (zmi : List Value) (zjh : List Sapi_Hop) (zg5 : Sapi_Hop → Option Bool) (r : Bool)
  (h : y18 zjh zg5 = some r) (w₀ : World) (hz : PZ [] w₀ Z)
  (zIl : ZS Z 3 (fun r x=>r = e62 x) zz7 zz8 zjh)
  (zIm : ∀ args w,(callFunc zg6 args).run Tryz.prog w = .ok (.enter zg6 args) w)
  (zIn : ∀ w : World,PZ [] w Z → ∀ (x0 : Sapi_Hop) (r : Bool),zg5 x0 = some r → Calls Tryz.prog zg6 (([(.agg #[(.int .i64 x0.fNode),(.int .i64 x0.fNext),(.int .i64 x0.fLink)])] : List Value) ++ zmi).toArray w fun e w'=>e = .returned (.bool r) ∧ Hp [] w w' []) :
  Calls Tryz.prog 37 #[(.slice zz7 zjh.length zz8),(.func (.func zg6) #[] (zmi).toArray)] w₀ fun e w'=>e = .returned (.bool r) ∧ Hp [] w₀ w' []:=by
 unfold y18 at h
 refine Calls.yJ Tryz.func37 Tryz.ntmps37 ?_
 refine WC.b (WC.a (WL.pu rfl (WL.nil (WX.a (WC.b ?_)))))
 obtain ⟨zz6,zIo,h⟩:=z6 h
 refine WC.a (WL.pu rfl (WL.pu rfl (WL.cA 7 (z8 Tryz.call65 (.r2 rfl rfl)) .nil (cc hz .nil fun w pz ho=>y4r _ _ _ (zbl:=zg6) (zfM:=zmi) _ (z6G:=zg5) _ zIo w pz zIl zIm zIn) (WL.pu rfl (WL.pu rfl (WL.nil (WX.a (WC.ret ?_))))))))
 obtain rfl:=Option.some.inj h
 refine WX.ye Tryz.results37 (.tmp rfl .nil) (fun w hw=>?_)
 exact ⟨yC rfl,hw.sub .nil⟩
def y2i (zji : Int) : Option z1 :=
 some (⟨zji,1⟩ : z1)
theorem y4C (Z : Zp)  (zji : Int) (r : z1)
  (h : y2i zji = some r) (w₀ : World) (hz : PZ [] w₀ Z) :
  Calls Tryz.prog 43 #[(.int .i64 zji)] w₀ fun e w'=>e = .returned (.agg #[(.int .i64 r.fN),(.int .i64 r.fD)]) ∧ Hp [] w₀ w' []:=by
 unfold y2i at h
 refine Calls.on1 Tryz.func43 Tryz.ntmps43 ?_
 refine WC.b (WC.a (WL.nA 2 (yw (cs:=[(.int .i64 0),(.int .i64 0)]) zH rfl) ?_))
 intro zUJ _
 refine WL.nil (WX.a (WC.b (WC.a (WL.pu rfl (WL.qA 4 (yI (v:=(.agg #[(.int .i64 zji),(.int .i64 1)])) (Eos.parts (l:=[.tmp 3,.const (.int .i64 1)]) (.r2 rfl rfl) [0,1]) (fun _=>by kernel_rfl)) (WL.yj rfl rfl (yl zq rfl rfl rfl .here rfl rfl rfl) (WL.nil (WX.a (WC.ret ?_)))))))))
 obtain rfl:=Option.some.inj h
 refine WX.ye Tryz.results43 (.agg rfl zb rfl (yh .here) .nil) (fun w hw=>?_)
 exact ⟨yC rfl,hw.sub .nil⟩
def y5p (zg7 : Int) : Option Int :=
 if decide (zg7 < 0) then some (u64 ((u64 (i64 (0 - (i64 (zg7 + 1))))) + 1)) else some (u64 zg7)
theorem y8u (Z : Zp)  (zg7 : Int) (r : Int)
  (h : y5p zg7 = some r) (w₀ : World) (hz : PZ [] w₀ Z) :
  Calls Tryz.prog 112 #[(.int .i64 zg7)] w₀ fun e w'=>e = .returned (.int .u64 r) ∧ Hp [] w₀ w' []:=by
 unfold y5p at h
 refine Calls.on1 Tryz.func112 Tryz.ntmps112 ?_
 refine WC.b (WC.a (WL.pu rfl (WL.nil (WX.a (WC.b (WC.b (WC.a (WL.pu rfl (WL.pu rfl (WL.nil (WX.a (WC.cond rfl (fun zrl=>?_) (fun zrl=>?_)))))))))))))
 ·replace h:=yo h zrl
  refine WC.b (WC.a (WL.pu rfl (WL.pu rfl (WL.qA 7 (q_neg rfl rfl) (WL.qA 8 (y77 Tryz.underlying3 Tryz.underlying193 rfl rfl) (WL.pu rfl (WL.pu rfl (WL.nil (WX.a (WC.ret (WX.yd ?_)))))))))))
  obtain rfl:=Option.some.inj h
  refine WX.ye Tryz.results112 (.tmp rfl .nil) (fun w hw=>?_)
  exact ⟨yC rfl,hw.sub .nil⟩
 ·replace h:=yp h zrl
  refine WC.skip (WX.a (WC.b (WC.a (WL.pu rfl (WL.qA 11 (y77 Tryz.underlying3 Tryz.underlying193 rfl rfl) (WL.pu rfl (WL.nil (WX.a (WC.ret ?_)))))))))
  obtain rfl:=Option.some.inj h
  refine WX.ye Tryz.results112 (.tmp rfl .nil) (fun w hw=>?_)
  exact ⟨yC rfl,hw.sub .nil⟩
def y28 (z9F : Int → Option Int) : Nat → Int → Int → Option Int
 | 0,_,_=>none
 | zrm + 1,z5W,z59=>if decide (z59 ≠ 0) then chk ((z59 : Int) ≠ 0) (y28 z9F zrm z59 (Int.tmod z5W z59)) else z9F z5W
theorem y8Q {n : Nat} {z9F : Int → Option Int} {z5W : Int} {z59 : Int} {r : Int} (h : y28 z9F n z5W z59 = some r) : ∃ m,n = m + 1:=by
 cases n with
 | zero=>cases h
 | succ m=>exact ⟨m,rfl⟩
def y4j (zjj : Int) (zjk : Int) : Option Int :=
 jp1 (fun (zbs : Int)=>some zbs) fun z9F=>y28 z9F yz zjj zjk
theorem y8R (Z : Zp)  (zjj : Int) (zjk : Int) (r : Int)
  (h : y4j zjj zjk = some r) (w₀ : World) (hz : PZ [] w₀ Z) :
  Calls Tryz.prog 111 #[(.int .u64 zjj),(.int .u64 zjk)] w₀ fun e w'=>e = .returned (.int .u64 r) ∧ Hp [] w₀ w' []:=by
 unfold y4j at h
 refine Calls.yJ Tryz.func111 Tryz.ntmps111 ?_
 refine WC.b (WC.a (WL.pu rfl (WL.nil (WX.a ?_))))
 obtain ⟨z9F,zIp,h⟩:=y1d h
 refine WC.y4m (fun (zbs : Int)=>(z9F zbs = some r)) (fun zbs=>[(0,(.int .u64 zbs))]) (fun zbs=>[]) ?_ ?_
 ·skip
  refine WC.block (WC.y9U (fun (zg8 : Nat) (z5W : Int) (z59 : Int)=>(y28 z9F zg8 z5W z59 = some r)) (fun zg8 z5W z59=>[(0,(.int .u64 z5W)),(1,(.int .u64 z59))]) (fun zg8 z5W z59=>[]) (fun zg8 z5W z59=>zg8) ⟨yz,zjj,zjk⟩ h (.r2 rfl rfl) .nil ?_)
  rintro zg8 z5W z59 h
  obtain ⟨zrm,rfl⟩:=y8Q h
  rw [y28] at h
  refine WC.b (WC.b (WC.a (WL.pu rfl (WL.pu rfl (WL.nil (WX.a (WC.cond rfl (fun zrn=>?_) (fun zrn=>?_))))))))
  ·replace h:=yo h zrn
   refine WC.skip (WX.a (WC.block ?_))
   obtain ⟨zIq,h⟩:=yn h
   refine WC.yO (fun i=>[].contains i) [] rfl (WD.pA 0 7 rfl (fun _=>q_m rfl) (WD.pA 1 8 rfl (fun _=>q_m rfl) (WD.pA 2 9 rfl (fun _=>q_m rfl) (WD.pA 3 10 rfl (fun _=>q_rem rfl rfl zIq rfl) (WD.pA 4 0 rfl (fun _=>q_z rfl) (WD.pA 5 1 rfl (fun _=>q_z rfl) (WD.done (by kernel_rfl) (WX.yk ?_))))))))
   exact WX.round ⟨zrm,z59,(Int.tmod z5W z59)⟩ h (Nat.lt_succ_self _) (.r2 rfl rfl) .nil
  ·replace h:=yp h zrn
   refine WC.exit (WX.yg (WX.yg (WX.yA ?_)))
   exact WX.mid z5W h (.cons rfl .nil) .nil
 ·rintro zbs h
  replace h:=(zIp zbs).symm.trans h
  refine WC.b (WC.a (WL.pu rfl (WL.pu rfl (WL.nil (WX.a (WC.ret ?_))))))
  obtain rfl:=Option.some.inj h
  refine WX.ye Tryz.results111 (.tmp rfl .nil) (fun w hw=>?_)
  exact ⟨yC rfl,hw.sub .nil⟩
def y4O (zjl : Int) (zg9 : Int) : Option (z1 × Int) :=
 if decide (zg9 = 0) then some ((⟨0,0⟩ : z1),2) else (y5p zjl).bind fun z87=>(y5p zg9).bind fun zbt=>(y4j z87 zbt).bind fun z4N=>chk ((z4N : Int) ≠ 0) (if (decide ((u64 (Int.tdiv z87 z4N)) > 1073741824)) || (decide ((u64 (Int.tdiv zbt z4N)) > 1073741824)) then some ((⟨0,0⟩ : z1),3) else jp1 (fun (zbu : Int)=>some ((⟨zbu,i64 (u64 (Int.tdiv zbt z4N))⟩ : z1),0)) fun zmj=>if (decide (zjl < 0)) != (decide (zg9 < 0)) then zmj (i64 (0 - (i64 (u64 (Int.tdiv z87 z4N))))) else zmj (i64 (u64 (Int.tdiv z87 z4N))))
theorem y7I (Z : Zp)  (zjl : Int) (zg9 : Int) (r : z1 × Int)
  (h : y4O zjl zg9 = some r) (w₀ : World) (hz : PZ [] w₀ Z) :
  Calls Tryz.prog 106 #[(.int .i64 zjl),(.int .i64 zg9)] w₀ fun e w'=>e = .returned (.tuple #[(.agg #[(.int .i64 r.1.fN),(.int .i64 r.1.fD)]),(.int .i64 r.2)]) ∧ Hp [] w₀ w' []:=by
 unfold y4O at h
 refine Calls.yJ Tryz.func106 Tryz.ntmps106 ?_
 refine WC.b (WC.a (WL.nA 4 (yw (cs:=[(.int .i64 0),(.int .i64 0)]) zH rfl) ?_))
 intro zz9 _
 refine WL.pu rfl (WL.nil (WX.a (WC.b (WC.b (WC.a (WL.pu rfl (WL.pu rfl (WL.nil (WX.a (WC.cond rfl (fun zro=>?_) (fun zro=>?_)))))))))))
 ·replace h:=yo h zro
  refine WC.b (WC.a (WL.qA 12 (yI (v:=(.agg #[(.int .i64 0),(.int .i64 0)])) (Eos.parts (l:=[]) .nil []) (fun _=>by kernel_rfl)) (WL.yj rfl rfl (yl zq rfl rfl rfl .here rfl rfl rfl) (WL.pu rfl (WL.nil (WX.a (WC.ret (WX.yd ?_))))))))
  obtain rfl:=Option.some.inj h
  refine WX.ye Tryz.results106 (.agg rfl zb rfl (yh .here) (.tmp rfl .nil)) (fun w hw=>?_)
  exact ⟨y1Z rfl rfl,hw.sub .nil⟩
 ·replace h:=yp h zro
  refine WC.skip (WX.a (WC.b ?_))
  obtain ⟨z87,zIr,h⟩:=z6 h
  obtain ⟨zbt,zIs,h⟩:=z6 h
  refine WC.a (WL.pu rfl (WL.cA 14 (z8 Tryz.call112 (.cons rfl .nil)) .nil (cc hz .nil fun w pz ho=>y8u _ _ _ zIr w pz ) (WL.pu rfl (WL.cA 16 (z8 Tryz.call112 (.cons rfl .nil)) .nil (cc hz .nil fun w pz ho=>y8u _ _ _ zIs w pz ) (WL.pu rfl (WL.pu rfl (WL.nil (WX.a (WC.b ?_)))))))))
  obtain ⟨z4N,zIt,h⟩:=z6 h
  refine WC.a (WL.pu rfl (WL.pu rfl (WL.cA 19 (z8 Tryz.call111 (.r2 rfl rfl)) .nil (cc hz .nil fun w pz ho=>y8R _ _ _ _ zIt w pz ) (WL.pu rfl (WL.nil (WX.a (WC.b ?_)))))))
  obtain ⟨zza,h⟩:=yn h
  refine WC.yO (fun i=>[].contains i) [] rfl (WD.pA 0 20 rfl (fun _=>q_m rfl) (WD.pA 1 21 rfl (fun _=>q_m rfl) (WD.pA 2 22 rfl (fun _=>q_quo rfl rfl zza rfl) (WD.pA 3 23 rfl (fun _=>q_m rfl) (WD.pA 4 24 rfl (fun _=>q_m rfl) (WD.pA 5 25 rfl (fun _=>q_quo rfl rfl zza rfl) (WD.pA 6 6 rfl (fun _=>q_z rfl) (WD.pA 7 7 rfl (fun _=>q_z rfl) (WD.done (by kernel_rfl) (WX.a (WC.b (WC.b (WC.a (WL.pu rfl (WL.pu rfl (WL.pu rfl (WL.seg false 2 28 (B:=(decide ((u64 (Int.tdiv z87 z4N)) > 1073741824)) || (decide ((u64 (Int.tdiv zbt z4N)) > 1073741824))) rfl rfl rfl rfl rfl rfl (fun h=>(y6v h).symm) (fun _ zIu=>?_) ?_)))))))))))))))))
  ·skip
   refine WL.pu rfl (WL.pu rfl (WL.pu rfl ?_))
   exact WL.yB (y6w zIu) rfl rfl .all
  refine WL.nil (WX.a (WC.cond rfl (fun zrp=>?_) (fun zrp=>?_)))
  ·replace h:=yo h zrp
   refine WC.b (WC.a (WL.qA 32 (yI (v:=(.agg #[(.int .i64 0),(.int .i64 0)])) (Eos.parts (l:=[]) .nil []) (fun _=>by kernel_rfl)) (WL.yj rfl rfl (yl zq rfl rfl rfl .here rfl rfl rfl) (WL.pu rfl (WL.nil (WX.a (WC.ret (WX.yd ?_))))))))
   obtain rfl:=Option.some.inj h
   refine WX.ye Tryz.results106 (.agg rfl zb rfl (yh .here) (.tmp rfl .nil)) (fun w hw=>?_)
   exact ⟨y1Z rfl rfl,hw.sub .nil⟩
  ·replace h:=yp h zrp
   refine WC.skip (WX.a (WC.b (WC.a (WL.pu rfl (WL.qA 34 (y77 Tryz.underlying193 Tryz.underlying3 rfl rfl) (WL.pu rfl (WL.qA 36 (y77 Tryz.underlying193 Tryz.underlying3 rfl rfl) (WL.qA 37 (yI (v:=(.agg #[(.int .i64 (i64 (u64 (Int.tdiv z87 z4N)))),(.int .i64 (i64 (u64 (Int.tdiv zbt z4N))))])) (Eos.parts (l:=[.tmp 34,.tmp 36]) (.r2 rfl rfl) [0,1]) (fun _=>by kernel_rfl)) (WL.nA 9 (yw (cs:=[(.int .i64 0),(.int .i64 0)]) zH rfl) ?_)))))))))
   intro zzb _
   refine WL.yj rfl rfl (yl zq rfl rfl rfl .here rfl rfl rfl) (WL.nil (WX.a ?_))
   obtain ⟨zmj,zIv,h⟩:=y1d h
   refine WC.y4m (fun (zbu : Int)=>(zmj zbu = some r)) (fun zbu=>[(4,(.pointer (some ⟨zz9,0,none⟩))),(9,(.pointer (some ⟨zzb,0,none⟩)))]) (fun zbu=>[stb zz9 132 [(.int .i64 0),(.int .i64 0)],stb zzb 132 [(.int .i64 zbu),(.int .i64 (i64 (u64 (Int.tdiv zbt z4N))))]]) ?_ ?_
   ·skip
    refine WC.b (WC.a (WL.pu rfl (WL.pu rfl (WL.pu rfl (WL.pu rfl (WL.qA 42 (q_bneq Tryz.underlying4 rfl rfl) (WL.nil (WX.a (WC.cond rfl (fun zrq=>?_) (fun zrq=>?_))))))))))
    ·replace h:=yo h zrq
     refine WC.a (WL.qA 43 (ya y2f rfl rfl) (WL.qA 44 (yc yx rfl (ym .here rfl)) (WL.qA 45 (q_neg rfl rfl) (WL.qA 46 (ya y2f rfl rfl) (WL.yj rfl rfl (y4y (ds:=[(.int .i64 (i64 (0 - (i64 (u64 (Int.tdiv z87 z4N)))))),(.int .i64 (i64 (u64 (Int.tdiv zbt z4N))))]) y8O rfl rfl rfl rfl rfl .here rfl rfl) (WL.nil ?_))))))
     exact WX.mid (i64 (0 - (i64 (u64 (Int.tdiv z87 z4N))))) h (.r2 rfl rfl) (.s2 .h1 .here)
    ·replace h:=yp h zrq
     refine WC.skip ?_
     exact WX.mid (i64 (u64 (Int.tdiv z87 z4N))) h (.r2 rfl rfl) (.s2 .h1 .here)
   ·rintro zbu h
    replace h:=(zIv zbu).symm.trans h
    refine WC.b (WC.a (WL.qA 47 (yf zb rfl (yh .h1) rfl) (WL.yj rfl rfl (yl zq rfl rfl rfl .here rfl rfl rfl) (WL.pu rfl (WL.nil (WX.a (WC.ret ?_)))))))
    obtain rfl:=Option.some.inj h
    refine WX.ye Tryz.results106 (.agg rfl zb rfl (yh .here) (.tmp rfl .nil)) (fun w hw=>?_)
    exact ⟨y1Z rfl rfl,hw.sub .nil⟩
def y3q (z2R : Sapi_Config) (zmk : List (List Sapi_Hop)) (zdC : List (Sbound_flow × z1)) (zdD : List (Sbound_place × Int)) (zrr : Int) (zdE : Int) : Option z1 :=
 chk ((0 : Int) ≤ zdE ∧ zdE < ((z2R.fVLs.length : Nat) : Int)) ((y4O ((nth z2R.fVLs zdE).fMax) ((nth z2R.fVLs zdE).fBag)).bind fun zzc=>some zzc.1)
theorem y72 (Z : Zp) (zzd : Addr) (zze : Option Addr) (zzf : Nat) (zzg : Option Addr) (zzh : Nat) (zzi : Option Addr) (zzj : Nat) (zzk : Option Addr) (zzl : Nat) (zzm : Option Addr) (zzn : Nat) (zzo : Option Addr) (zzp : Nat) (zzq : Option Addr) (zzr : Nat) (zzs : Option Addr) (zzt : Nat) (zzu : Option Addr) (zzv : Nat) (zga : Nat) (zgb : Nat) (z2R : Sapi_Config) (zmk : List (List Sapi_Hop)) (zdC : List (Sbound_flow × z1)) (zdD : List (Sbound_place × Int)) (zrr : Int) (zdE : Int) (r : z1)
  (h : y3q z2R zmk zdC zdD zrr zdE = some r) (w₀ : World) (hz : PZ (fps [yy zga (fun x=>Value.agg (y2k x).toArray) (fun x=>Value.agg (yu x).toArray) zdC,yy zgb (fun x=>Value.agg (e97 x).toArray) (Value.int .i64) zdD]) w₀ Z)
  (zUK : ZS Z 4 (y4e Z) zze zzf z2R.fModules)
  (zUL : ZS Z 4 (y4M Z) zzg zzh z2R.fChannels)
  (zUM : ZS Z 4 (fun r x=>r = e66 x) zzi zzj z2R.fSwitches)
  (zUN : ZS Z 4 (fun r x=>r = e64 x) zzk zzl z2R.fLinks)
  (zzw : ZS Z 7 (p46 Z) zzm zzn z2R.fVLs)
  (zUO : ZS Z 5 (fun r x=>r = y4Z x) zzo zzp z2R.fHealth)
  (zUP : ZS Z 3 (y4N Z) zzq zzr z2R.fCauses)
  (zUQ : ZS Z 4 (fun r x=>r = y50 x) zzs zzt z2R.fVersions)
  (zUR : ZS Z 1 (p48 Z) zzu zzv zmk)
  (zzx : ZC Z zzd [(.slice zze z2R.fModules.length zzf),(.slice zzg z2R.fChannels.length zzh),(.slice zzi z2R.fSwitches.length zzj),(.slice zzk z2R.fLinks.length zzl),(.slice zzm z2R.fVLs.length zzn),(.slice zzo z2R.fHealth.length zzp),(.slice zzq z2R.fCauses.length zzr),(.slice zzs z2R.fVersions.length zzt),(.slice zzu zmk.length zzv),(.map (some zga)),(.map (some zgb)),(.int .i64 zrr)])
  (hown : Hp (fps [yy zga (fun x=>Value.agg (y2k x).toArray) (fun x=>Value.agg (yu x).toArray) zdC,yy zgb (fun x=>Value.agg (e97 x).toArray) (Value.int .i64) zdD]) w₀ w₀ [yy zga (fun x=>Value.agg (y2k x).toArray) (fun x=>Value.agg (yu x).toArray) zdC,yy zgb (fun x=>Value.agg (e97 x).toArray) (Value.int .i64) zdD]) :
  Calls Tryz.prog 71 #[(.pointer (some zzd)),(.int .i64 zdE)] w₀ fun e w'=>e = .returned (.agg #[(.int .i64 r.fN),(.int .i64 r.fD)]) ∧ Hp (fps [yy zga (fun x=>Value.agg (y2k x).toArray) (fun x=>Value.agg (yu x).toArray) zdC,yy zgb (fun x=>Value.agg (e97 x).toArray) (Value.int .i64) zdD]) w₀ w' [yy zga (fun x=>Value.agg (y2k x).toArray) (fun x=>Value.agg (yu x).toArray) zdC,yy zgb (fun x=>Value.agg (e97 x).toArray) (Value.int .i64) zdD]:=by
 unfold y3q at h
 refine Calls.oh2 Tryz.func71 Tryz.ntmps71 hown ?_
 refine WC.b (WC.a (WL.nA 4 (yw (cs:=[(.int .i64 0),(.int .i64 0)]) zH rfl) ?_))
 intro zUS _
 refine WL.nil (WX.a (WC.b ?_))
 obtain ⟨zzy,h⟩:=yn h
 obtain ⟨zzc,zIw,h⟩:=z6 h
 refine WC.yO (fun i=>[23].contains i) [] rfl (WD.pA 0 8 rfl (fun _=>q_m rfl) (WD.pA 1 9 rfl (fun _=>y13 rfl) (WD.pA 2 10 rfl (fun _=>ya y6d rfl rfl) (WD.pA 3 11 rfl (fun _=>ya y2R rfl rfl) (WD.qA 4 12 rfl (yc y3z rfl (y1k hz.pv zzx rfl)) (WD.pA 5 13 rfl (fun _=>q_m rfl) (WD.znth (j:=6) (dd:=14) (by kernel_rfl) rfl z2j z2k rfl rfl (Z:=Z) (Pr:=(p46 Z)) y4q rfl rfl zzw zzy ?_)))))))
 rintro zUT zUU zIx zUV ⟨zUW,zUX,rfl,zUY⟩
 refine WD.pA 7 15 rfl (fun _=>ya y6R rfl rfl) (WD.qA 8 16 rfl (yc yx rfl (y1k hz.pv zIx rfl)) (WD.pA 9 17 rfl (fun _=>q_m rfl) (WD.pA 10 18 rfl (fun _=>y13 rfl) (WD.pA 11 19 rfl (fun _=>ya y6d rfl rfl) (WD.pA 12 20 rfl (fun _=>ya y2R rfl rfl) (WD.qA 13 21 rfl (yc y3z rfl (y1k hz.pv zzx rfl)) (WD.pA 14 22 rfl (fun _=>q_m rfl) (WD.znth (j:=15) (dd:=23) (by kernel_rfl) rfl z2j z2k rfl rfl (Z:=Z) (Pr:=(p46 Z)) y4q rfl rfl zzw zzy ?_))))))))
 rintro zUZ zV0 zIy zV1 ⟨zV2,zV3,rfl,zV4⟩
 refine WD.pA 16 24 rfl (fun _=>ya y9A rfl rfl) (WD.qA 17 25 rfl (yc yx rfl (y1k hz.pv zIy rfl)) (WD.eA 18 26 rfl (z8 Tryz.call106 (.r2 rfl rfl)) (cc hz .nil fun w pz ho=>y7I _ _ _ _ zIw w pz ) (WD.pA 19 7 rfl (fun _=>q_m rfl) (WD.pA 20 27 rfl (fun _=>y7m rfl rfl) (WD.pA 21 28 rfl (fun _=>y7m rfl rfl) (WD.new (i:=22) (dd:=5) rfl (by kernel_rfl) rfl rfl rfl (yw (cs:=[(.int .i64 0),(.int .i64 0)]) zH rfl) (fun h'=>absurd h' (by decide)) ?_))))))
 intro zV5 _
 refine WD.forced0 (i:=23) rfl (by kernel_rfl) rfl rfl rfl (Sin.of .nil) (yl zq rfl rfl rfl .here rfl rfl rfl) (WD.pA 24 6 rfl (fun _=>q_z rfl) (WD.done (by kernel_rfl) (WX.a (WC.b (WC.a (WL.qA 29 (yf zb rfl (yh .here) rfl) (WL.yj rfl rfl (yl zq rfl rfl rfl .h1 rfl rfl rfl) (WL.nil (WX.a (WC.ret ?_))))))))))
 obtain rfl:=Option.some.inj h
 refine WX.ye Tryz.results71 (.agg rfl zb rfl (yh .here) .nil) (fun w hw=>?_)
 exact ⟨yC rfl,hw.sub (.s2 .h2 .h2)⟩
def y1L (z12 : z1) : Option Bool :=
 (if (((decide (z12.fD ≥ 1)) && (decide (z12.fD ≤ 1073741824))) && (decide (z12.fN ≥ (-1073741824)))) && (decide (z12.fN ≤ 1073741824)) then (y5p z12.fN).bind fun zzz=>(y5p z12.fD).bind fun zzA=>(y4j zzz zzA).bind fun zzB=>some (decide (zzB = 1)) else some false).bind fun zrs=>some zrs
theorem y2n (Z : Zp)  (z12 : z1) (r : Bool)
  (h : y1L z12 = some r) (w₀ : World) (hz : PZ [] w₀ Z) :
  Calls Tryz.prog 80 #[(.agg #[(.int .i64 z12.fN),(.int .i64 z12.fD)])] w₀ fun e w'=>e = .returned (.bool r) ∧ Hp [] w₀ w' []:=by
 unfold y1L at h
 refine Calls.on1 Tryz.func80 Tryz.ntmps80 ?_
 refine WC.b (WC.a (WL.nA 1 (yH (cs:=[(.int .i64 z12.fN),(.int .i64 z12.fD)]) rfl rfl) ?_))
 intro zrt _
 refine WL.pu rfl (WL.nil (WX.a (WC.b ?_)))
 obtain ⟨zrs,zzC,h⟩:=z6 h
 refine WC.yO (fun i=>[].contains i) [] rfl (WD.pA 0 3 rfl (fun _=>ya y2A rfl rfl) (WD.qA 1 4 rfl (yc yx rfl (ym .here rfl)) (WD.pA 2 5 rfl (fun _=>q_geq rfl rfl) (WD.pA 3 6 rfl (fun _=>q_m rfl) (WD.mid (fuel':=21) [(1,(.pointer (some ⟨zrt,0,none⟩))),(2,(.bool false)),(6,(.bool (decide (z12.fD ≥ 1)))),(10,(.bool ((decide (z12.fD ≥ 1)) && (decide (z12.fD ≤ 1073741824)))))] (y4h 29 [7,6,5,4,3,2,1,0]) ?_ (fun zzD=>?_))))))
 rotate_left
 ·rcases Bool.eq_false_or_eq_true (decide (z12.fD ≥ 1)) with hb' | hb'
  ·have zru:=hb'; clear hb'
   refine WD.pin (i:=6) rfl zru (WD.pA 4 7 rfl (fun _=>ya y2A rfl rfl) (WD.qA 5 8 rfl (yc yx rfl (ym .here rfl)) (WD.pA 6 9 rfl (fun _=>q_leq rfl rfl) (WD.pA 7 10 rfl (fun _=>y3E rfl rfl) (WD.reL (.cons .here .nil) ?_ zzD)))))
   exact (.cons rfl (.cons rfl (.cons (zB (Eq.symm zru)) (.cons (zB (y2P zru)) .nil))))
  ·have zrv:=hb'; clear hb'
   refine WD.pin (i:=6) rfl zrv (WD.kA 4 7 rfl (WD.kA 5 8 rfl (WD.kA 6 9 rfl (WD.pA 7 10 rfl (fun _=>y3F rfl rfl) (WD.reL (.cons .here .nil) ?_ zzD)))))
   exact (.cons rfl (.cons rfl (.cons (zB (Eq.symm zrv)) (.cons (zB (y2O zrv)) .nil))))
 refine WD.d #[true,true,true,true,true,true,true,true,false,false,false,false,false,false,false,false,false,false,false,false,false,false,false,false,false,false,false,false,false] (by kernel_rfl) (WD.pA 8 11 rfl (fun _=>q_m rfl) (WD.mid (fuel':=16) [(1,(.pointer (some ⟨zrt,0,none⟩))),(2,(.bool false)),(11,(.bool ((decide (z12.fD ≥ 1)) && (decide (z12.fD ≤ 1073741824))))),(15,(.bool (((decide (z12.fD ≥ 1)) && (decide (z12.fD ≤ 1073741824))) && (decide (z12.fN ≥ (-1073741824))))))] (y4h 29 [12,11,10,9,8,7,6,5,4,3,2,1,0]) ?_ (fun zzE=>?_)))
 rotate_left
 ·rcases Bool.eq_false_or_eq_true ((decide (z12.fD ≥ 1)) && (decide (z12.fD ≤ 1073741824))) with hb' | hb'
  ·have zrw:=hb'; clear hb'
   refine WD.pin (i:=11) rfl zrw (WD.pA 9 12 rfl (fun _=>ya y2f rfl rfl) (WD.qA 10 13 rfl (yc yx rfl (ym .here rfl)) (WD.pA 11 14 rfl (fun _=>q_geq rfl rfl) (WD.pA 12 15 rfl (fun _=>y3E rfl rfl) (WD.reL (.cons .here .nil) ?_ zzE)))))
   exact (.cons rfl (.cons rfl (.cons (zB (Eq.symm zrw)) (.cons (zB (y2P zrw)) .nil))))
  ·have zrx:=hb'; clear hb'
   refine WD.pin (i:=11) rfl zrx (WD.kA 9 12 rfl (WD.kA 10 13 rfl (WD.kA 11 14 rfl (WD.pA 12 15 rfl (fun _=>y3F rfl rfl) (WD.reL (.cons .here .nil) ?_ zzE)))))
   exact (.cons rfl (.cons rfl (.cons (zB (Eq.symm zrx)) (.cons (zB (y2O zrx)) .nil))))
 refine WD.d #[true,true,true,true,true,true,true,true,true,true,true,true,true,false,false,false,false,false,false,false,false,false,false,false,false,false,false,false,false] (by kernel_rfl) (WD.pA 13 16 rfl (fun _=>q_m rfl) (WD.mid (fuel':=11) [(1,(.pointer (some ⟨zrt,0,none⟩))),(2,(.bool false)),(16,(.bool (((decide (z12.fD ≥ 1)) && (decide (z12.fD ≤ 1073741824))) && (decide (z12.fN ≥ (-1073741824)))))),(20,(.bool ((((decide (z12.fD ≥ 1)) && (decide (z12.fD ≤ 1073741824))) && (decide (z12.fN ≥ (-1073741824)))) && (decide (z12.fN ≤ 1073741824)))))] (y4h 29 [17,16,15,14,13,12,11,10,9,8,7,6,5,4,3,2,1,0]) ?_ (fun zzF=>?_)))
 rotate_left
 ·rcases Bool.eq_false_or_eq_true (((decide (z12.fD ≥ 1)) && (decide (z12.fD ≤ 1073741824))) && (decide (z12.fN ≥ (-1073741824)))) with hb' | hb'
  ·have zry:=hb'; clear hb'
   refine WD.pin (i:=16) rfl zry (WD.pA 14 17 rfl (fun _=>ya y2f rfl rfl) (WD.qA 15 18 rfl (yc yx rfl (ym .here rfl)) (WD.pA 16 19 rfl (fun _=>q_leq rfl rfl) (WD.pA 17 20 rfl (fun _=>y3E rfl rfl) (WD.reL (.cons .here .nil) ?_ zzF)))))
   exact (.cons rfl (.cons rfl (.cons (zB (Eq.symm zry)) (.cons (zB (y2P zry)) .nil))))
  ·have zrz:=hb'; clear hb'
   refine WD.pin (i:=16) rfl zrz (WD.kA 14 17 rfl (WD.kA 15 18 rfl (WD.kA 16 19 rfl (WD.pA 17 20 rfl (fun _=>y3F rfl rfl) (WD.reL (.cons .here .nil) ?_ zzF)))))
   exact (.cons rfl (.cons rfl (.cons (zB (Eq.symm zrz)) (.cons (zB (y2O zrz)) .nil))))
 refine WD.d #[true,true,true,true,true,true,true,true,true,true,true,true,true,true,true,true,true,true,false,false,false,false,false,false,false,false,false,false,false] (by kernel_rfl) (WD.pA 18 21 rfl (fun _=>q_m rfl) (WD.mid (fuel':=1) [(2,(.bool false)),(21,(.bool ((((decide (z12.fD ≥ 1)) && (decide (z12.fD ≤ 1073741824))) && (decide (z12.fN ≥ (-1073741824)))) && (decide (z12.fN ≤ 1073741824))))),(30,(.bool zrs))] (y4h 29 [27,26,25,24,23,22,21,20,19,18,17,16,15,14,13,12,11,10,9,8,7,6,5,4,3,2,1,0]) ?_ (fun zzG=>?_)))
 rotate_left
 ·rcases Bool.eq_false_or_eq_true ((((decide (z12.fD ≥ 1)) && (decide (z12.fD ≤ 1073741824))) && (decide (z12.fN ≥ (-1073741824)))) && (decide (z12.fN ≤ 1073741824))) with hb' | hb'
  ·have zrA:=hb'; clear hb'
   have z9G:=yo zzC zrA
   obtain ⟨zzz,zIz,z9G⟩:=z6 z9G
   obtain ⟨zzA,zIA,z9G⟩:=z6 z9G
   obtain ⟨zzB,zIB,z9G⟩:=z6 z9G
   replace z9G:=Option.some.inj z9G
   refine WD.pin (i:=21) rfl zrA (WD.pA 19 22 rfl (fun _=>ya y2f rfl rfl) (WD.qA 20 23 rfl (yc yx rfl (ym .here rfl)) (WD.eA 21 24 rfl (z8 Tryz.call112 (.cons rfl .nil)) (cc hz .nil fun w pz ho=>y8u _ _ _ zIz w pz ) (WD.pA 22 25 rfl (fun _=>ya y2A rfl rfl) (WD.qA 23 26 rfl (yc yx rfl (ym .here rfl)) (WD.eA 24 27 rfl (z8 Tryz.call112 (.cons rfl .nil)) (cc hz .nil fun w pz ho=>y8u _ _ _ zIA w pz ) (WD.eA 25 28 rfl (z8 Tryz.call111 (.r2 rfl rfl)) (cc hz .nil fun w pz ho=>y8R _ _ _ _ zIB w pz ) (WD.pA 26 29 rfl (fun _=>y9T rfl rfl) (WD.pA 27 30 rfl (fun _=>y3E rfl rfl) (WD.reL (.cons .here .nil) ?_ zzG))))))))))
   exact (.cons rfl (.cons (zB (Eq.symm zrA)) (.cons (zB z9G) .nil)))
  ·have zrB:=hb'; clear hb'
   have zrC:=yp zzC zrB
   replace zrC:=Option.some.inj zrC
   refine WD.pin (i:=21) rfl zrB (WD.kA 19 22 rfl (WD.kA 20 23 rfl (WD.kA 21 24 rfl (WD.kA 22 25 rfl (WD.kA 23 26 rfl (WD.kA 24 27 rfl (WD.kA 25 28 rfl (WD.kA 26 29 rfl (WD.pA 27 30 rfl (fun _=>y3F rfl rfl) (WD.reL (.cons .here .nil) ?_ zzG))))))))))
   exact (.cons rfl (.cons (zB (Eq.symm zrB)) (.cons (zB zrC) .nil)))
 refine WD.d #[true,true,true,true,true,true,true,true,true,true,true,true,true,true,true,true,true,true,true,true,true,true,true,true,true,true,true,true,false] (by kernel_rfl) (WD.pA 28 2 rfl (fun _=>q_z rfl) (WD.done (by kernel_rfl) (WX.a (WC.ret ?_))))
 obtain rfl:=Option.some.inj h
 refine WX.ye Tryz.results80 (.tmp rfl .nil) (fun w hw=>?_)
 exact ⟨yC rfl,hw.sub .nil⟩
def y8v (zgc : z1) (zgd : z1) : Option (Int × Int) :=
 some ((i64 (zgc.fN * zgd.fN)),(i64 (zgc.fD * zgd.fD)))
theorem yeW (Z : Zp) (zzH : Addr) (zzI : Addr) (zgc : z1) (zgd : z1) (r : Int × Int)
  (h : y8v zgc zgd = some r) (w₀ : World) (hz : PZ [] w₀ Z)
  (zzJ : ZC Z zzH [(.int .i64 zgc.fN),(.int .i64 zgc.fD)])
  (zzK : ZC Z zzI [(.int .i64 zgd.fN),(.int .i64 zgd.fD)]) :
  Calls Tryz.prog 143 #[(.pointer (some zzH)),(.pointer (some zzI))] w₀ fun e w'=>e = .returned (.tuple #[(.int .i64 r.1),(.int .i64 r.2)]) ∧ Hp [] w₀ w' []:=by
 unfold y8v at h
 refine Calls.yJ Tryz.func143 Tryz.ntmps143 ?_
 refine WC.b (WC.a (WL.pu rfl (WL.pu rfl (WL.nil (WX.a (WC.b (WC.yO (fun i=>[].contains i) [] rfl (WD.pA 0 4 rfl (fun _=>ya y2f rfl rfl) (WD.qA 1 5 rfl (yc yx rfl (y1k hz.pv zzJ rfl)) (WD.pA 2 6 rfl (fun _=>ya y2f rfl rfl) (WD.qA 3 7 rfl (yc yx rfl (y1k hz.pv zzK rfl)) (WD.pA 4 8 rfl (fun _=>y6H rfl rfl rfl) (WD.pA 5 9 rfl (fun _=>ya y2A rfl rfl) (WD.qA 6 10 rfl (yc yx rfl (y1k hz.pv zzJ rfl)) (WD.pA 7 11 rfl (fun _=>ya y2A rfl rfl) (WD.qA 8 12 rfl (yc yx rfl (y1k hz.pv zzK rfl)) (WD.pA 9 13 rfl (fun _=>y6H rfl rfl rfl) (WD.pA 10 2 rfl (fun _=>q_z rfl) (WD.pA 11 3 rfl (fun _=>q_z rfl) (WD.done (by kernel_rfl) (WX.a (WC.ret ?_))))))))))))))))))))))
 obtain rfl:=Option.some.inj h
 refine WX.ye Tryz.results143 (.tmp rfl (.tmp rfl .nil)) (fun w hw=>?_)
 exact ⟨y1Z rfl rfl,hw.sub .nil⟩
def y8S (zbv : z1) (zbw : z1) : Option (z1 × Int) :=
 (y1L zbv).bind fun zzL=>(if !zzL then some true else (y1L zbw).bind fun zzM=>some (!zzM)).bind fun zml=>if zml then some ((⟨0,0⟩ : z1),2) else (y8v zbv zbw).bind fun zrD=>(y4O zrD.1 zrD.2).bind fun zrE=>some (zrE.1,zrE.2)
theorem w_rat_do (Z : Zp)  (zbv : z1) (zbw : z1) (r : z1 × Int)
  (h : y8S zbv zbw = some r) (w₀ : World) (hz : PZ [] w₀ Z) :
  Calls Tryz.prog 105 #[(.string ⟨#[42]⟩),(.agg #[(.int .i64 zbv.fN),(.int .i64 zbv.fD)]),(.agg #[(.int .i64 zbw.fN),(.int .i64 zbw.fD)])] w₀ fun e w'=>e = .returned (.tuple #[(.agg #[(.int .i64 r.1.fN),(.int .i64 r.1.fD)]),(.int .i64 r.2)]) ∧ Hp [] w₀ w' []:=by
 unfold y8S at h
 refine Calls.on3 Tryz.func105 Tryz.ntmps105 ?_
 refine WC.b (WC.a (WL.nA 4 (yH (cs:=[(.int .i64 zbv.fN),(.int .i64 zbv.fD)]) rfl rfl) ?_))
 intro zjm _
 refine WL.nA 5 (yH (cs:=[(.int .i64 zbw.fN),(.int .i64 zbw.fD)]) rfl rfl) ?_
 intro zjn _
 refine WL.nA 6 (yw (cs:=[(.int .i64 0),(.int .i64 0)]) zH rfl) ?_
 intro zV6 _
 refine WL.pu rfl (WL.nil (WX.a (WC.b (WC.b ?_))))
 obtain ⟨zzL,zIC,h⟩:=z6 h
 obtain ⟨zml,zzN,h⟩:=z6 h
 refine WC.a (WL.qA 9 (yf zb rfl (yh .h2) rfl) (WL.cA 10 (z8 Tryz.call80 (.cons rfl .nil)) .nil (cc hz .nil fun w pz ho=>y2n _ _ _ zIC w pz ) (WL.pu rfl (WL.pu rfl (WL.seg false 3 12 (B:=zml) rfl rfl rfl rfl rfl rfl (fun h=>(Option.some.inj (yo zzN h)).symm) (fun _ zID=>?_) ?_)))))
 ·skip
  have zjo:=yp zzN zID
  obtain ⟨zzM,zIE,zjo⟩:=z6 zjo
  replace zjo:=Option.some.inj zjo
  refine WL.qA 13 (yf zb rfl (yh .h1) rfl) (WL.cA 14 (z8 Tryz.call80 (.cons rfl .nil)) .nil (cc hz .nil fun w pz ho=>y2n _ _ _ zIE w pz ) (WL.pu rfl (WL.pu rfl ?_)))
  exact WL.yB zjo rfl rfl .all
 refine WL.pu rfl (WL.seg false 7 17 (B:=zml) rfl rfl rfl rfl rfl rfl (fun h=>h) (fun _ zIF=>?_) ?_)
 ·skip
  refine WL.pu rfl (WL.qA 19 (yb6 (r:=false) (by decide) rfl rfl) (WL.pu rfl (WL.e rfl rfl rfl (WL.e rfl rfl rfl (WL.e rfl rfl rfl (WL.pu rfl (WL.pu rfl ?_)))))))
  exact WL.yB (Eq.symm zIF) rfl rfl .all
 refine WL.nil (WX.a (WC.cond rfl (fun zrF=>?_) (fun zrF=>?_)))
 ·replace h:=yo h zrF
  refine WC.b (WC.a (WL.qA 26 (yI (v:=(.agg #[(.int .i64 0),(.int .i64 0)])) (Eos.parts (l:=[]) .nil []) (fun _=>by kernel_rfl)) (WL.yj rfl rfl (yl zq rfl rfl rfl .here rfl rfl rfl) (WL.pu rfl (WL.nil (WX.a (WC.ret (WX.yd ?_))))))))
  obtain rfl:=Option.some.inj h
  refine WX.ye Tryz.results105 (.agg rfl zb rfl (yh .here) (.tmp rfl .nil)) (fun w hw=>?_)
  exact ⟨y1Z rfl rfl,hw.sub .nil⟩
 ·replace h:=yp h zrF
  refine WC.skip (WX.a (WC.b (WC.a (WL.nA 27 (y4o Value.string (fun x=>x)) ?_))))
  intro zV7 _
  refine WL.qA 28 (y17 (Eos.caps (l:=[.tmp 4,.tmp 5]) (.r2 rfl rfl))) (WL.yj rfl rfl (y3n (k:=⟨#[43]⟩) (v:=(.func (.func 141) #[] #[(.pointer (some ⟨zjm,0,none⟩)),(.pointer (some ⟨zjn,0,none⟩))])) y3J Tryz.underlying258 rfl rfl rfl rfl .here) (WL.qA 29 (y17 (Eos.caps (l:=[.tmp 4,.tmp 5]) (.r2 rfl rfl))) (WL.yj rfl rfl (y3n (k:=⟨#[45]⟩) (v:=(.func (.func 142) #[] #[(.pointer (some ⟨zjm,0,none⟩)),(.pointer (some ⟨zjn,0,none⟩))])) y3J Tryz.underlying258 rfl rfl rfl rfl .here) (WL.qA 30 (y17 (Eos.caps (l:=[.tmp 4,.tmp 5]) (.r2 rfl rfl))) (WL.yj rfl rfl (y3n (k:=⟨#[42]⟩) (v:=(.func (.func 143) #[] #[(.pointer (some ⟨zjm,0,none⟩)),(.pointer (some ⟨zjn,0,none⟩))])) y3J Tryz.underlying258 rfl rfl rfl rfl .here) (WL.qA 31 (y17 (Eos.caps (l:=[.tmp 4,.tmp 5]) (.r2 rfl rfl))) (WL.yj rfl rfl (y3n (k:=⟨#[47]⟩) (v:=(.func (.func 144) #[] #[(.pointer (some ⟨zjm,0,none⟩)),(.pointer (some ⟨zjn,0,none⟩))])) y3J Tryz.underlying258 rfl rfl rfl rfl .here) (WL.pu rfl (WL.pu rfl (WL.nil (WX.a (WC.b ?_))))))))))))
  obtain ⟨zrD,zIG,h⟩:=z6 h
  obtain ⟨zrE,zIH,h⟩:=z6 h
  refine WC.a (WL.pu rfl (WL.pu rfl (WL.qA 35 (yb5 (k:=⟨#[42]⟩) (dflt:=.nilFunc) (r:=(.func (.func 143) #[] #[(.pointer (some ⟨zjm,0,none⟩)),(.pointer (some ⟨zjn,0,none⟩))])) y3J Tryz.underlying258 zlz rfl rfl rfl .here (by rfl)) (WL.cA 36 (y2t (l:=[]) Tryz.call143 rfl .nil) .nil (ccl hz .nil (.s2 .h3 .h2) fun w pz ho la=>yeW _ _ _ _ _ _ zIG w pz ((la _ (.head _) _).stb) ((la _ (.tail _ (.head _)) _).stb)) (WL.pu rfl (WL.pu rfl (WL.cA 39 (z8 Tryz.call106 (.r2 rfl rfl)) .nil (cc hz .nil fun w pz ho=>y7I _ _ _ _ zIH w pz ) (WL.pu rfl (WL.pu rfl (WL.yj rfl rfl (yl zq rfl rfl rfl .h1 rfl rfl rfl) (WL.pu rfl (WL.nil (WX.a (WC.ret ?_))))))))))))))
  obtain rfl:=Option.some.inj h
  refine WX.ye Tryz.results105 (.agg rfl zb rfl (yh .here) (.tmp rfl .nil)) (fun w hw=>?_)
  exact ⟨y1Z rfl rfl,hw.sub .nil⟩
def y3b (zdF : z1) (zdG : z1) : Option (z1 × Int) :=
 (y8S zdF zdG).bind fun zrG=>some (zrG.1,zrG.2)
theorem yaQ (Z : Zp)  (zdF : z1) (zdG : z1) (r : z1 × Int)
  (h : y3b zdF zdG = some r) (w₀ : World) (hz : PZ [] w₀ Z) :
  Calls Tryz.prog 70 #[(.agg #[(.int .i64 zdF.fN),(.int .i64 zdF.fD)]),(.agg #[(.int .i64 zdG.fN),(.int .i64 zdG.fD)])] w₀ fun e w'=>e = .returned (.tuple #[(.agg #[(.int .i64 r.1.fN),(.int .i64 r.1.fD)]),(.int .i64 r.2)]) ∧ Hp [] w₀ w' []:=by
 unfold y3b at h
 refine Calls.yJ Tryz.func70 Tryz.ntmps70 ?_
 refine WC.b (WC.a (WL.nA 2 (yH (cs:=[(.int .i64 zdF.fN),(.int .i64 zdF.fD)]) rfl rfl) ?_))
 intro zV8 _
 refine WL.nA 3 (yH (cs:=[(.int .i64 zdG.fN),(.int .i64 zdG.fD)]) rfl rfl) ?_
 intro zV9 _
 refine WL.nA 4 (yw (cs:=[(.int .i64 0),(.int .i64 0)]) zH rfl) ?_
 intro zVa _
 refine WL.pu rfl (WL.nil (WX.a (WC.b ?_)))
 obtain ⟨zrG,zII,h⟩:=z6 h
 refine WC.a (WL.qA 6 (yf zb rfl (yh .h2) rfl) (WL.qA 7 (yf zb rfl (yh .h1) rfl) (WL.cA 8 (z8 Tryz.call105 (.r3 rfl rfl rfl)) .nil (cc hz .nil fun w pz ho=>w_rat_do _ _ _ _ zII w pz ) (WL.pu rfl (WL.pu rfl (WL.yj rfl rfl (yl zq rfl rfl rfl .here rfl rfl rfl) (WL.pu rfl (WL.nil (WX.a (WC.ret ?_))))))))))
 obtain rfl:=Option.some.inj h
 refine WX.ye Tryz.results70 (.agg rfl zb rfl (yh .here) (.tmp rfl .nil)) (fun w hw=>?_)
 exact ⟨y1Z rfl rfl,hw.sub .nil⟩
def y3v (zw : Sapi_Config) (z88 : List (List Sapi_Hop)) (zbx : List (Sbound_flow × z1)) (zby : List (Sbound_place × Int)) (z9H : Int) (zbz : z1 → z1 → Option (z1 × Int)) (zbA : z1) (zbB : z1) : Option (z1 × Int) :=
 (zbz zbA zbB).bind fun z89=>jp1 (fun (z9I : Int)=>if decide (z89.2 ≠ 0) then (y2i 0).bind fun zzO=>some (zzO,z9I) else some (z89.1,z9I)) fun zmm=>if decide (z9H = 0) then zmm z89.2 else zmm z9H
theorem y6o (Z : Zp) (zdH : Nat) (zbC : Option Addr) (zbD : Nat) (zbE : Option Addr) (zbF : Nat) (zbG : Option Addr) (zbH : Nat) (zbI : Option Addr) (zbJ : Nat) (zbK : Option Addr) (zbL : Nat) (zbM : Option Addr) (zbN : Nat) (zbO : Option Addr) (zbP : Nat) (zbQ : Option Addr) (zbR : Nat) (zbS : Option Addr) (zbT : Nat) (z5X : Nat) (z5Y : Nat) (z9J : FuncId) (zdI : List Value) (zw : Sapi_Config) (z88 : List (List Sapi_Hop)) (zbx : List (Sbound_flow × z1)) (zby : List (Sbound_place × Int)) (z9H : Int) (zbz : z1 → z1 → Option (z1 × Int)) (zbA : z1) (zbB : z1) (r : z1 × Int)
  (h : y3v zw z88 zbx zby z9H zbz zbA zbB = some r) (w₀ : World) (hz : PZ (fps [stb zdH 95 [(.slice zbC zw.fModules.length zbD),(.slice zbE zw.fChannels.length zbF),(.slice zbG zw.fSwitches.length zbH),(.slice zbI zw.fLinks.length zbJ),(.slice zbK zw.fVLs.length zbL),(.slice zbM zw.fHealth.length zbN),(.slice zbO zw.fCauses.length zbP),(.slice zbQ zw.fVersions.length zbR),(.slice zbS z88.length zbT),(.map (some z5X)),(.map (some z5Y)),(.int .i64 z9H)],yy z5X (fun x=>Value.agg (y2k x).toArray) (fun x=>Value.agg (yu x).toArray) zbx,yy z5Y (fun x=>Value.agg (e97 x).toArray) (Value.int .i64) zby]) w₀ Z)
  (zVb : ZS Z 4 (y4e Z) zbC zbD zw.fModules)
  (zVc : ZS Z 4 (y4M Z) zbE zbF zw.fChannels)
  (zVd : ZS Z 4 (fun r x=>r = e66 x) zbG zbH zw.fSwitches)
  (zVe : ZS Z 4 (fun r x=>r = e64 x) zbI zbJ zw.fLinks)
  (zVf : ZS Z 7 (p46 Z) zbK zbL zw.fVLs)
  (zVg : ZS Z 5 (fun r x=>r = y4Z x) zbM zbN zw.fHealth)
  (zVh : ZS Z 3 (y4N Z) zbO zbP zw.fCauses)
  (zVi : ZS Z 4 (fun r x=>r = y50 x) zbQ zbR zw.fVersions)
  (zVj : ZS Z 1 (p48 Z) zbS zbT z88)
  (zIJ : ∀ args w,(callFunc z9J args).run Tryz.prog w = .ok (.enter z9J args) w)
  (zIK : ∀ w : World,PZ [] w Z → ∀ (x0 : z1) (x1 : z1) (r : z1 × Int),zbz x0 x1 = some r → Calls Tryz.prog z9J (([(.agg #[(.int .i64 x0.fN),(.int .i64 x0.fD)]),(.agg #[(.int .i64 x1.fN),(.int .i64 x1.fD)])] : List Value) ++ zdI).toArray w fun e w'=>e = .returned (.tuple #[(.agg #[(.int .i64 r.1.fN),(.int .i64 r.1.fD)]),(.int .i64 r.2)]) ∧ Hp [] w w' [])
  (hown : Hp (fps [stb zdH 95 [(.slice zbC zw.fModules.length zbD),(.slice zbE zw.fChannels.length zbF),(.slice zbG zw.fSwitches.length zbH),(.slice zbI zw.fLinks.length zbJ),(.slice zbK zw.fVLs.length zbL),(.slice zbM zw.fHealth.length zbN),(.slice zbO zw.fCauses.length zbP),(.slice zbQ zw.fVersions.length zbR),(.slice zbS z88.length zbT),(.map (some z5X)),(.map (some z5Y)),(.int .i64 z9H)],yy z5X (fun x=>Value.agg (y2k x).toArray) (fun x=>Value.agg (yu x).toArray) zbx,yy z5Y (fun x=>Value.agg (e97 x).toArray) (Value.int .i64) zby]) w₀ w₀ [stb zdH 95 [(.slice zbC zw.fModules.length zbD),(.slice zbE zw.fChannels.length zbF),(.slice zbG zw.fSwitches.length zbH),(.slice zbI zw.fLinks.length zbJ),(.slice zbK zw.fVLs.length zbL),(.slice zbM zw.fHealth.length zbN),(.slice zbO zw.fCauses.length zbP),(.slice zbQ zw.fVersions.length zbR),(.slice zbS z88.length zbT),(.map (some z5X)),(.map (some z5Y)),(.int .i64 z9H)],yy z5X (fun x=>Value.agg (y2k x).toArray) (fun x=>Value.agg (yu x).toArray) zbx,yy z5Y (fun x=>Value.agg (e97 x).toArray) (Value.int .i64) zby]) :
  Calls Tryz.prog 68 #[(.pointer (some ⟨zdH,0,none⟩)),(.func (.func z9J) #[] (zdI).toArray),(.agg #[(.int .i64 zbA.fN),(.int .i64 zbA.fD)]),(.agg #[(.int .i64 zbB.fN),(.int .i64 zbB.fD)])] w₀ fun e w'=>e = .returned (.agg #[(.int .i64 r.1.fN),(.int .i64 r.1.fD)]) ∧ Hp (fps [stb zdH 95 [(.slice zbC zw.fModules.length zbD),(.slice zbE zw.fChannels.length zbF),(.slice zbG zw.fSwitches.length zbH),(.slice zbI zw.fLinks.length zbJ),(.slice zbK zw.fVLs.length zbL),(.slice zbM zw.fHealth.length zbN),(.slice zbO zw.fCauses.length zbP),(.slice zbQ zw.fVersions.length zbR),(.slice zbS z88.length zbT),(.map (some z5X)),(.map (some z5Y)),(.int .i64 z9H)],yy z5X (fun x=>Value.agg (y2k x).toArray) (fun x=>Value.agg (yu x).toArray) zbx,yy z5Y (fun x=>Value.agg (e97 x).toArray) (Value.int .i64) zby]) w₀ w' [stb zdH 95 [(.slice zbC zw.fModules.length zbD),(.slice zbE zw.fChannels.length zbF),(.slice zbG zw.fSwitches.length zbH),(.slice zbI zw.fLinks.length zbJ),(.slice zbK zw.fVLs.length zbL),(.slice zbM zw.fHealth.length zbN),(.slice zbO zw.fCauses.length zbP),(.slice zbQ zw.fVersions.length zbR),(.slice zbS z88.length zbT),(.map (some z5X)),(.map (some z5Y)),(.int .i64 r.2)],yy z5X (fun x=>Value.agg (y2k x).toArray) (fun x=>Value.agg (yu x).toArray) zbx,yy z5Y (fun x=>Value.agg (e97 x).toArray) (Value.int .i64) zby]:=by
 unfold y3v at h
 refine Calls.oh4 Tryz.func68 Tryz.ntmps68 hown ?_
 refine WC.b (WC.a (WL.nA 6 (yH (cs:=[(.int .i64 zbA.fN),(.int .i64 zbA.fD)]) rfl rfl) ?_))
 intro zVk _
 refine WL.nA 7 (yH (cs:=[(.int .i64 zbB.fN),(.int .i64 zbB.fD)]) rfl rfl) ?_
 intro zVl _
 refine WL.nA 8 (yw (cs:=[(.int .i64 0),(.int .i64 0)]) zH rfl) ?_
 intro zzP _
 refine WL.nil (WX.a (WC.b ?_))
 obtain ⟨z89,zIL,h⟩:=z6 h
 refine WC.a (WL.pu rfl (WL.qA 13 (yf zb rfl (yh .h2) rfl) (WL.qA 14 (yf zb rfl (yh .h1) rfl) (WL.cA 15 (y2t (l:=[.tmp 13,.tmp 14]) (f:=z9J) (caps:=zdI) zIJ rfl (.r2 rfl rfl)) .nil (fun w hw=>zIK w (hz.now hw) zbA zbB z89  zIL) (WL.pu rfl (WL.pu rfl (WL.pu rfl (WL.nA 9 (yw (cs:=[(.int .i64 0),(.int .i64 0)]) zH rfl) ?_))))))))
 intro zzQ _
 refine WL.yj rfl rfl (yl zq rfl rfl rfl .here rfl rfl rfl) (WL.pu rfl (WL.nil (WX.a ?_)))
 obtain ⟨zmm,zIM,h⟩:=y1d h
 refine WC.y4m (fun (z9I : Int)=>(zmm z9I = some r)) (fun z9I=>[(8,(.pointer (some ⟨zzP,0,none⟩))),(9,(.pointer (some ⟨zzQ,0,none⟩))),(10,(.int .i64 z89.2))]) (fun z9I=>[stb zzP 132 [(.int .i64 0),(.int .i64 0)],stb zzQ 132 [(.int .i64 z89.1.fN),(.int .i64 z89.1.fD)],stb zdH 95 [(.slice zbC zw.fModules.length zbD),(.slice zbE zw.fChannels.length zbF),(.slice zbG zw.fSwitches.length zbH),(.slice zbI zw.fLinks.length zbJ),(.slice zbK zw.fVLs.length zbL),(.slice zbM zw.fHealth.length zbN),(.slice zbO zw.fCauses.length zbP),(.slice zbQ zw.fVersions.length zbR),(.slice zbS z88.length zbT),(.map (some z5X)),(.map (some z5Y)),(.int .i64 z9I)],yy z5X (fun x=>Value.agg (y2k x).toArray) (fun x=>Value.agg (yu x).toArray) zbx,yy z5Y (fun x=>Value.agg (e97 x).toArray) (Value.int .i64) zby]) ?_ ?_
 ·skip
  refine WC.b (WC.a (WL.pu rfl (WL.qA 19 (y13 rfl) (WL.qA 20 (ya y8I rfl rfl) (WL.qA 21 (yc y2Z rfl (ym .h4 rfl)) (WL.pu rfl (WL.nil (WX.a (WC.cond rfl (fun zrH=>?_) (fun zrH=>?_))))))))))
  ·replace h:=yo h zrH
   refine WC.a (WL.pu rfl (WL.pu rfl (WL.qA 25 (y13 rfl) (WL.qA 26 (ya y8I rfl rfl) (WL.yj rfl rfl (y4y (ds:=[(.slice zbC zw.fModules.length zbD),(.slice zbE zw.fChannels.length zbF),(.slice zbG zw.fSwitches.length zbH),(.slice zbI zw.fLinks.length zbJ),(.slice zbK zw.fVLs.length zbL),(.slice zbM zw.fHealth.length zbN),(.slice zbO zw.fCauses.length zbP),(.slice zbQ zw.fVersions.length zbR),(.slice zbS z88.length zbT),(.map (some z5X)),(.map (some z5Y)),(.int .i64 z89.2)]) y9D rfl rfl rfl rfl rfl .h4 rfl rfl) (WL.nil ?_))))))
   exact WX.mid z89.2 h (.r3 rfl rfl rfl) (.s5 .h2 .h1 .here .h2 .h2)
  ·replace h:=yp h zrH
   refine WC.skip ?_
   exact WX.mid z9H h (.r3 rfl rfl rfl) (.s5 .h1 .here .h2 .h2 .h2)
 ·rintro z9I h
  replace h:=(zIM z9I).symm.trans h
  refine WC.b (WC.b (WC.a (WL.pu rfl (WL.pu rfl (WL.nil (WX.a (WC.cond rfl (fun zrI=>?_) (fun zrI=>?_))))))))
  ·replace h:=yo h zrI
   refine WC.b ?_
   obtain ⟨zzO,zIN,h⟩:=z6 h
   refine WC.a (WL.cA 29 (z8 Tryz.call43 (.cons rfl .nil)) .nil (cc hz .nil fun w pz ho=>y4C _ _ _ zIN w pz ) (WL.yj rfl rfl (yl zq rfl rfl rfl .here rfl rfl rfl) (WL.nil (WX.a (WC.ret (WX.yd ?_))))))
   obtain rfl:=Option.some.inj h
   refine WX.ye Tryz.results68 (.agg rfl zb rfl (yh .here) .nil) (fun w hw=>?_)
   exact ⟨yC rfl,hw.sub (.s3 .h2 .h2 .h2)⟩
  ·replace h:=yp h zrI
   refine WC.skip (WX.a (WC.b (WC.a (WL.qA 30 (yf zb rfl (yh .h1) rfl) (WL.yj rfl rfl (yl zq rfl rfl rfl .here rfl rfl rfl) (WL.nil (WX.a (WC.ret ?_))))))))
   obtain rfl:=Option.some.inj h
   refine WX.ye Tryz.results68 (.agg rfl zb rfl (yh .here) .nil) (fun w hw=>?_)
   exact ⟨yC rfl,hw.sub (.s3 .h2 .h2 .h2)⟩
def y8w (zdJ : z1) (zdK : z1) : Option (Int × Int) :=
 some ((i64 ((i64 (zdJ.fN * zdK.fD)) + (i64 (zdK.fN * zdJ.fD)))),(i64 (zdJ.fD * zdK.fD)))
theorem yeX (Z : Zp) (zzR : Addr) (zzS : Addr) (zdJ : z1) (zdK : z1) (r : Int × Int)
  (h : y8w zdJ zdK = some r) (w₀ : World) (hz : PZ [] w₀ Z)
  (zrJ : ZC Z zzR [(.int .i64 zdJ.fN),(.int .i64 zdJ.fD)])
  (zrK : ZC Z zzS [(.int .i64 zdK.fN),(.int .i64 zdK.fD)]) :
  Calls Tryz.prog 141 #[(.pointer (some zzR)),(.pointer (some zzS))] w₀ fun e w'=>e = .returned (.tuple #[(.int .i64 r.1),(.int .i64 r.2)]) ∧ Hp [] w₀ w' []:=by
 unfold y8w at h
 refine Calls.yJ Tryz.func141 Tryz.ntmps141 ?_
 refine WC.b (WC.a (WL.pu rfl (WL.pu rfl (WL.nil (WX.a (WC.b (WC.yO (fun i=>[].contains i) [] rfl (WD.pA 0 4 rfl (fun _=>ya y2f rfl rfl) (WD.qA 1 5 rfl (yc yx rfl (y1k hz.pv zrJ rfl)) (WD.pA 2 6 rfl (fun _=>ya y2A rfl rfl) (WD.qA 3 7 rfl (yc yx rfl (y1k hz.pv zrK rfl)) (WD.pA 4 8 rfl (fun _=>y6H rfl rfl rfl) (WD.pA 5 9 rfl (fun _=>ya y2f rfl rfl) (WD.qA 6 10 rfl (yc yx rfl (y1k hz.pv zrK rfl)) (WD.pA 7 11 rfl (fun _=>ya y2A rfl rfl) (WD.qA 8 12 rfl (yc yx rfl (y1k hz.pv zrJ rfl)) (WD.pA 9 13 rfl (fun _=>y6H rfl rfl rfl) (WD.pA 10 14 rfl (fun _=>ybS rfl rfl rfl) (WD.pA 11 15 rfl (fun _=>ya y2A rfl rfl) (WD.qA 12 16 rfl (yc yx rfl (y1k hz.pv zrJ rfl)) (WD.pA 13 17 rfl (fun _=>ya y2A rfl rfl) (WD.qA 14 18 rfl (yc yx rfl (y1k hz.pv zrK rfl)) (WD.pA 15 19 rfl (fun _=>y6H rfl rfl rfl) (WD.pA 16 2 rfl (fun _=>q_z rfl) (WD.pA 17 3 rfl (fun _=>q_z rfl) (WD.done (by kernel_rfl) (WX.a (WC.ret ?_))))))))))))))))))))))))))))
 obtain rfl:=Option.some.inj h
 refine WX.ye Tryz.results141 (.tmp rfl (.tmp rfl .nil)) (fun w hw=>?_)
 exact ⟨y1Z rfl rfl,hw.sub .nil⟩
def y88 (zbU : z1) (zbV : z1) : Option (z1 × Int) :=
 (y1L zbU).bind fun zzT=>(if !zzT then some true else (y1L zbV).bind fun zzU=>some (!zzU)).bind fun zmn=>if zmn then some ((⟨0,0⟩ : z1),2) else (y8w zbU zbV).bind fun zrL=>(y4O zrL.1 zrL.2).bind fun zrM=>some (zrM.1,zrM.2)
theorem yft (Z : Zp)  (zbU : z1) (zbV : z1) (r : z1 × Int)
  (h : y88 zbU zbV = some r) (w₀ : World) (hz : PZ [] w₀ Z) :
  Calls Tryz.prog 105 #[(.string ⟨#[43]⟩),(.agg #[(.int .i64 zbU.fN),(.int .i64 zbU.fD)]),(.agg #[(.int .i64 zbV.fN),(.int .i64 zbV.fD)])] w₀ fun e w'=>e = .returned (.tuple #[(.agg #[(.int .i64 r.1.fN),(.int .i64 r.1.fD)]),(.int .i64 r.2)]) ∧ Hp [] w₀ w' []:=by
 unfold y88 at h
 refine Calls.on3 Tryz.func105 Tryz.ntmps105 ?_
 refine WC.b (WC.a (WL.nA 4 (yH (cs:=[(.int .i64 zbU.fN),(.int .i64 zbU.fD)]) rfl rfl) ?_))
 intro zjp _
 refine WL.nA 5 (yH (cs:=[(.int .i64 zbV.fN),(.int .i64 zbV.fD)]) rfl rfl) ?_
 intro zjq _
 refine WL.nA 6 (yw (cs:=[(.int .i64 0),(.int .i64 0)]) zH rfl) ?_
 intro zVm _
 refine WL.pu rfl (WL.nil (WX.a (WC.b (WC.b ?_))))
 obtain ⟨zzT,zIO,h⟩:=z6 h
 obtain ⟨zmn,zzV,h⟩:=z6 h
 refine WC.a (WL.qA 9 (yf zb rfl (yh .h2) rfl) (WL.cA 10 (z8 Tryz.call80 (.cons rfl .nil)) .nil (cc hz .nil fun w pz ho=>y2n _ _ _ zIO w pz ) (WL.pu rfl (WL.pu rfl (WL.seg false 3 12 (B:=zmn) rfl rfl rfl rfl rfl rfl (fun h=>(Option.some.inj (yo zzV h)).symm) (fun _ zIP=>?_) ?_)))))
 ·skip
  have zjr:=yp zzV zIP
  obtain ⟨zzU,zIQ,zjr⟩:=z6 zjr
  replace zjr:=Option.some.inj zjr
  refine WL.qA 13 (yf zb rfl (yh .h1) rfl) (WL.cA 14 (z8 Tryz.call80 (.cons rfl .nil)) .nil (cc hz .nil fun w pz ho=>y2n _ _ _ zIQ w pz ) (WL.pu rfl (WL.pu rfl ?_)))
  exact WL.yB zjr rfl rfl .all
 refine WL.pu rfl (WL.seg false 7 17 (B:=zmn) rfl rfl rfl rfl rfl rfl (fun h=>h) (fun _ zIR=>?_) ?_)
 ·skip
  refine WL.pu rfl (WL.qA 19 (yb6 (r:=false) (by decide) rfl rfl) (WL.pu rfl (WL.e rfl rfl rfl (WL.e rfl rfl rfl (WL.e rfl rfl rfl (WL.pu rfl (WL.pu rfl ?_)))))))
  exact WL.yB (Eq.symm zIR) rfl rfl .all
 refine WL.nil (WX.a (WC.cond rfl (fun zrN=>?_) (fun zrN=>?_)))
 ·replace h:=yo h zrN
  refine WC.b (WC.a (WL.qA 26 (yI (v:=(.agg #[(.int .i64 0),(.int .i64 0)])) (Eos.parts (l:=[]) .nil []) (fun _=>by kernel_rfl)) (WL.yj rfl rfl (yl zq rfl rfl rfl .here rfl rfl rfl) (WL.pu rfl (WL.nil (WX.a (WC.ret (WX.yd ?_))))))))
  obtain rfl:=Option.some.inj h
  refine WX.ye Tryz.results105 (.agg rfl zb rfl (yh .here) (.tmp rfl .nil)) (fun w hw=>?_)
  exact ⟨y1Z rfl rfl,hw.sub .nil⟩
 ·replace h:=yp h zrN
  refine WC.skip (WX.a (WC.b (WC.a (WL.nA 27 (y4o Value.string (fun x=>x)) ?_))))
  intro zVn _
  refine WL.qA 28 (y17 (Eos.caps (l:=[.tmp 4,.tmp 5]) (.r2 rfl rfl))) (WL.yj rfl rfl (y3n (k:=⟨#[43]⟩) (v:=(.func (.func 141) #[] #[(.pointer (some ⟨zjp,0,none⟩)),(.pointer (some ⟨zjq,0,none⟩))])) y3J Tryz.underlying258 rfl rfl rfl rfl .here) (WL.qA 29 (y17 (Eos.caps (l:=[.tmp 4,.tmp 5]) (.r2 rfl rfl))) (WL.yj rfl rfl (y3n (k:=⟨#[45]⟩) (v:=(.func (.func 142) #[] #[(.pointer (some ⟨zjp,0,none⟩)),(.pointer (some ⟨zjq,0,none⟩))])) y3J Tryz.underlying258 rfl rfl rfl rfl .here) (WL.qA 30 (y17 (Eos.caps (l:=[.tmp 4,.tmp 5]) (.r2 rfl rfl))) (WL.yj rfl rfl (y3n (k:=⟨#[42]⟩) (v:=(.func (.func 143) #[] #[(.pointer (some ⟨zjp,0,none⟩)),(.pointer (some ⟨zjq,0,none⟩))])) y3J Tryz.underlying258 rfl rfl rfl rfl .here) (WL.qA 31 (y17 (Eos.caps (l:=[.tmp 4,.tmp 5]) (.r2 rfl rfl))) (WL.yj rfl rfl (y3n (k:=⟨#[47]⟩) (v:=(.func (.func 144) #[] #[(.pointer (some ⟨zjp,0,none⟩)),(.pointer (some ⟨zjq,0,none⟩))])) y3J Tryz.underlying258 rfl rfl rfl rfl .here) (WL.pu rfl (WL.pu rfl (WL.nil (WX.a (WC.b ?_))))))))))))
  obtain ⟨zrL,zIS,h⟩:=z6 h
  obtain ⟨zrM,zIT,h⟩:=z6 h
  refine WC.a (WL.pu rfl (WL.pu rfl (WL.qA 35 (yb5 (k:=⟨#[43]⟩) (dflt:=.nilFunc) (r:=(.func (.func 141) #[] #[(.pointer (some ⟨zjp,0,none⟩)),(.pointer (some ⟨zjq,0,none⟩))])) y3J Tryz.underlying258 zlz rfl rfl rfl .here (by rfl)) (WL.cA 36 (y2t (l:=[]) Tryz.call141 rfl .nil) .nil (ccl hz .nil (.s2 .h3 .h2) fun w pz ho la=>yeX _ _ _ _ _ _ zIS w pz ((la _ (.head _) _).stb) ((la _ (.tail _ (.head _)) _).stb)) (WL.pu rfl (WL.pu rfl (WL.cA 39 (z8 Tryz.call106 (.r2 rfl rfl)) .nil (cc hz .nil fun w pz ho=>y7I _ _ _ _ zIT w pz ) (WL.pu rfl (WL.pu rfl (WL.yj rfl rfl (yl zq rfl rfl rfl .h1 rfl rfl rfl) (WL.pu rfl (WL.nil (WX.a (WC.ret ?_))))))))))))))
  obtain rfl:=Option.some.inj h
  refine WX.ye Tryz.results105 (.agg rfl zb rfl (yh .here) (.tmp rfl .nil)) (fun w hw=>?_)
  exact ⟨y1Z rfl rfl,hw.sub .nil⟩
def y1c (zdL : z1) (zdM : z1) : Option (z1 × Int) :=
 (y88 zdL zdM).bind fun zrO=>some (zrO.1,zrO.2)
theorem y5T (Z : Zp)  (zdL : z1) (zdM : z1) (r : z1 × Int)
  (h : y1c zdL zdM = some r) (w₀ : World) (hz : PZ [] w₀ Z) :
  Calls Tryz.prog 69 #[(.agg #[(.int .i64 zdL.fN),(.int .i64 zdL.fD)]),(.agg #[(.int .i64 zdM.fN),(.int .i64 zdM.fD)])] w₀ fun e w'=>e = .returned (.tuple #[(.agg #[(.int .i64 r.1.fN),(.int .i64 r.1.fD)]),(.int .i64 r.2)]) ∧ Hp [] w₀ w' []:=by
 unfold y1c at h
 refine Calls.yJ Tryz.func69 Tryz.ntmps69 ?_
 refine WC.b (WC.a (WL.nA 2 (yH (cs:=[(.int .i64 zdL.fN),(.int .i64 zdL.fD)]) rfl rfl) ?_))
 intro zVo _
 refine WL.nA 3 (yH (cs:=[(.int .i64 zdM.fN),(.int .i64 zdM.fD)]) rfl rfl) ?_
 intro zVp _
 refine WL.nA 4 (yw (cs:=[(.int .i64 0),(.int .i64 0)]) zH rfl) ?_
 intro zVq _
 refine WL.pu rfl (WL.nil (WX.a (WC.b ?_)))
 obtain ⟨zrO,zIU,h⟩:=z6 h
 refine WC.a (WL.qA 6 (yf zb rfl (yh .h2) rfl) (WL.qA 7 (yf zb rfl (yh .h1) rfl) (WL.cA 8 (z8 Tryz.call105 (.r3 rfl rfl rfl)) .nil (cc hz .nil fun w pz ho=>yft _ _ _ _ zIU w pz ) (WL.pu rfl (WL.pu rfl (WL.yj rfl rfl (yl zq rfl rfl rfl .here rfl rfl rfl) (WL.pu rfl (WL.nil (WX.a (WC.ret ?_))))))))))
 obtain rfl:=Option.some.inj h
 refine WX.ye Tryz.results69 (.agg rfl zb rfl (yh .here) (.tmp rfl .nil)) (fun w hw=>?_)
 exact ⟨y1Z rfl rfl,hw.sub .nil⟩
end Go.Proofs.YtcahmabkeaijdaaGreat

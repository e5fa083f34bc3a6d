/- A part of this claim's proof: models of functions, walks, plain laws. No conditions. -/
import Derived.Test.YtcahmabkeaijdaaGreatW35of
namespace Go.Proofs.YtcahmabkeaijdaaGreat
open Go Go.RowKit Sep
set_option linter.all false
set_option maxRecDepth 30000
set_option maxHeartbeats 4000000
def y1U (ze : List Sapi_PortBound × Int) (zbn : (List (S60 × Int)) → Option Bool) : Nat → Int → (List (S60 × Int)) → Option Bool
 | 0,_,_=>none
 | zxh + 1,z1J,z6j=>if decide (z1J < ((ze.1.length : Nat) : Int)) then chk ((0 : Int) ≤ z1J ∧ z1J < ((ze.1.length : Nat) : Int)) (if y2w z6j (⟨((nth ze.1 z1J).fNode),((nth ze.1 z1J).fLink)⟩ : S60) then some false else y1U ze zbn zxh (i64 (z1J + 1)) (yG z6j (⟨((nth ze.1 z1J).fNode),((nth ze.1 z1J).fLink)⟩ : S60) z1J)) else zbn z6j
theorem y7X {n : Nat} {ze : List Sapi_PortBound × Int} {zbn : (List (S60 × Int)) → Option Bool} {z1J : Int} {z6j : List (S60 × Int)} {r : Bool} (h : y1U ze zbn n z1J z6j = some r) : ∃ m,n = m + 1:=by
 cases n with
 | zero=>cases h
 | succ m=>exact ⟨m,rfl⟩
def y1V (z2 : List (List Sapi_Hop)) (z1D : Int) (zbo : (List (S60 × Int)) → Option Bool) : Nat → Int → (List (S60 × Int)) → Option Bool
 | 0,_,_=>none
 | zxi + 1,z3a,z6M=>if decide (z3a < (((nth z2 z1D).length : Nat) : Int)) then chk ((0 : Int) ≤ z3a ∧ z3a < (((nth z2 z1D).length : Nat) : Int)) (y1V z2 z1D zbo zxi (i64 (z3a + 1)) (yG z6M (⟨((nth (nth z2 z1D) z3a).fNode),((nth (nth z2 z1D) z3a).fLink)⟩ : S60) 1)) else zbo z6M
theorem y7Y {n : Nat} {z2 : List (List Sapi_Hop)} {z1D : Int} {zbo : (List (S60 × Int)) → Option Bool} {z3a : Int} {z6M : List (S60 × Int)} {r : Bool} (h : y1V z2 z1D zbo n z3a z6M = some r) : ∃ m,n = m + 1:=by
 cases n with
 | zero=>cases h
 | succ m=>exact ⟨m,rfl⟩
def y1W (z2 : List (List Sapi_Hop)) (zbp : (List (S60 × Int)) → Option Bool) : Nat → Int → (List (S60 × Int)) → Option Bool
 | 0,_,_=>none
 | zxj + 1,z1D,z6N=>if decide (z1D < ((z2.length : Nat) : Int)) then jp1 (fun (zbq : List (S60 × Int))=>y1W z2 zbp zxj (i64 (z1D + 1)) zbq) fun zxk=>chk ((0 : Int) ≤ z1D ∧ z1D < ((z2.length : Nat) : Int)) (jp1 (fun (zbr : List (S60 × Int))=>zxk zbr) fun zbo=>y1V z2 z1D zbo yB 0 z6N) else zbp z6N
theorem y7Z {n : Nat} {z2 : List (List Sapi_Hop)} {zbp : (List (S60 × Int)) → Option Bool} {z1D : Int} {z6N : List (S60 × Int)} {r : Bool} (h : y1W z2 zbp n z1D z6N = some r) : ∃ m,n = m + 1:=by
 cases n with
 | zero=>cases h
 | succ m=>exact ⟨m,rfl⟩
def y1X (z2 : List (List Sapi_Hop)) (z8 : Int) (zi : Int) (zbs : Bool → Bool → (List (S60 × Int)) → Option Bool) : Nat → Bool → Bool → Int → (List (S60 × Int)) → Option Bool
 | 0,_,_,_,_=>none
 | zxl + 1,z2l,z3I,zl,z1b=>if decide (zl < (((nth z2 z8).length : Nat) : Int)) then jp3 (fun (zbt : Bool) (zbu : Bool) (zbv : List (S60 × Int))=>y1X z2 z8 zi zbs zxl zbt zbu (i64 (zl + 1)) zbv) fun zoQ=>chk ((0 : Int) ≤ zl ∧ zl < (((nth z2 z8).length : Nat) : Int)) (if (decide (((nth (nth z2 z8) zl).fNext) = ((nth (nth z2 z8) zi).fNode))) && (decide ((yp z1b (⟨((nth (nth z2 z8) zi).fNode),((nth (nth z2 z8) zi).fLink)⟩ : S60) 0) ≤ (yp z1b (⟨((nth (nth z2 z8) zl).fNode),((nth (nth z2 z8) zl).fLink)⟩ : S60) 0))) then zoQ (z2l || (decide ((yp (yG z1b (⟨((nth (nth z2 z8) zi).fNode),((nth (nth z2 z8) zi).fLink)⟩ : S60) (i64 ((yp z1b (⟨((nth (nth z2 z8) zl).fNode),((nth (nth z2 z8) zl).fLink)⟩ : S60) 0) + 1))) (⟨((nth (nth z2 z8) zi).fNode),((nth (nth z2 z8) zi).fLink)⟩ : S60) 0) > (((yG z1b (⟨((nth (nth z2 z8) zi).fNode),((nth (nth z2 z8) zi).fLink)⟩ : S60) (i64 ((yp z1b (⟨((nth (nth z2 z8) zl).fNode),((nth (nth z2 z8) zl).fLink)⟩ : S60) 0) + 1))).length : Nat) : Int)))) true (yG z1b (⟨((nth (nth z2 z8) zi).fNode),((nth (nth z2 z8) zi).fLink)⟩ : S60) (i64 ((yp z1b (⟨((nth (nth z2 z8) zl).fNode),((nth (nth z2 z8) zl).fLink)⟩ : S60) 0) + 1))) else zoQ z2l z3I z1b) else zbs z2l z3I z1b
theorem y80 {n : Nat} {z2 : List (List Sapi_Hop)} {z8 : Int} {zi : Int} {zbs : Bool → Bool → (List (S60 × Int)) → Option Bool} {z2l : Bool} {z3I : Bool} {zl : Int} {z1b : List (S60 × Int)} {r : Bool} (h : y1X z2 z8 zi zbs n z2l z3I zl z1b = some r) : ∃ m,n = m + 1:=by
 cases n with
 | zero=>cases h
 | succ m=>exact ⟨m,rfl⟩
def y1Y (z2 : List (List Sapi_Hop)) (z8 : Int) (zbw : Bool → Bool → (List (S60 × Int)) → Option Bool) : Nat → Bool → Bool → Int → (List (S60 × Int)) → Option Bool
 | 0,_,_,_,_=>none
 | zxm + 1,z6O,z6P,zi,z6Q=>if decide (zi < (((nth z2 z8).length : Nat) : Int)) then jp3 (fun (zbx : Bool) (zby : Bool) (zbz : List (S60 × Int))=>y1Y z2 z8 zbw zxm zbx zby (i64 (zi + 1)) zbz) fun zxn=>chk ((0 : Int) ≤ zi ∧ zi < (((nth z2 z8).length : Nat) : Int)) (jp3 (fun (zbA : Bool) (zbB : Bool) (zbC : List (S60 × Int))=>zxn zbA zbB zbC) fun zbs=>y1X z2 z8 zi zbs yB z6O z6P 0 z6Q) else zbw z6O z6P z6Q
theorem y81 {n : Nat} {z2 : List (List Sapi_Hop)} {z8 : Int} {zbw : Bool → Bool → (List (S60 × Int)) → Option Bool} {z6O : Bool} {z6P : Bool} {zi : Int} {z6Q : List (S60 × Int)} {r : Bool} (h : y1Y z2 z8 zbw n z6O z6P zi z6Q = some r) : ∃ m,n = m + 1:=by
 cases n with
 | zero=>cases h
 | succ m=>exact ⟨m,rfl⟩
def y1Z (z2 : List (List Sapi_Hop)) (zbD : Bool → Bool → (List (S60 × Int)) → Option Bool) : Nat → Bool → Bool → Int → (List (S60 × Int)) → Option Bool
 | 0,_,_,_,_=>none
 | zxo + 1,z6R,z6S,z8,z6T=>if decide (z8 < ((z2.length : Nat) : Int)) then jp3 (fun (zbE : Bool) (zbF : Bool) (zbG : List (S60 × Int))=>y1Z z2 zbD zxo zbE zbF (i64 (z8 + 1)) zbG) fun zxp=>chk ((0 : Int) ≤ z8 ∧ z8 < ((z2.length : Nat) : Int)) (jp3 (fun (zbH : Bool) (zbI : Bool) (zbJ : List (S60 × Int))=>zxp zbH zbI zbJ) fun zbw=>y1Y z2 z8 zbw yB z6R z6S 0 z6T) else zbD z6R z6S z6T
theorem y82 {n : Nat} {z2 : List (List Sapi_Hop)} {zbD : Bool → Bool → (List (S60 × Int)) → Option Bool} {z6R : Bool} {z6S : Bool} {z8 : Int} {z6T : List (S60 × Int)} {r : Bool} (h : y1Z z2 zbD n z6R z6S z8 z6T = some r) : ∃ m,n = m + 1:=by
 cases n with
 | zero=>cases h
 | succ m=>exact ⟨m,rfl⟩
def y1e (z2 : List (List Sapi_Hop)) (zbK : Bool → (List (S60 × Int)) → Option Bool) : Nat → Bool → Bool → (List (S60 × Int)) → Option Bool
 | 0,_,_,_=>none
 | zxq + 1,z5V,z8l,z6U=>if z8l && (!z5V) then jp3 (fun (zbL : Bool) (zbM : Bool) (zbN : List (S60 × Int))=>y1e z2 zbK zxq zbL zbM zbN) fun zxr=>jp3 (fun (zbO : Bool) (zbP : Bool) (zbQ : List (S60 × Int))=>zxr zbO zbP zbQ) fun zbD=>y1Z z2 zbD yB z5V false 0 z6U else zbK z5V z6U
theorem y83 {n : Nat} {z2 : List (List Sapi_Hop)} {zbK : Bool → (List (S60 × Int)) → Option Bool} {z5V : Bool} {z8l : Bool} {z6U : List (S60 × Int)} {r : Bool} (h : y1e z2 zbK n z5V z8l z6U = some r) : ∃ m,n = m + 1:=by
 cases n with
 | zero=>cases h
 | succ m=>exact ⟨m,rfl⟩
def y20 (z2 : List (List Sapi_Hop)) (zo : Int) (z1j : Int) (zJ : List (S60 × Int)) (zbR : Option Bool) : Nat → Int → Option Bool
 | 0,_=>none
 | zxs + 1,z1K=>if decide (z1K < (((nth z2 zo).length : Nat) : Int)) then chk ((0 : Int) ≤ z1K ∧ z1K < (((nth z2 zo).length : Nat) : Int)) (if (decide (((nth (nth z2 zo) z1K).fNext) = ((nth (nth z2 zo) z1j).fNode))) && (decide ((yp zJ (⟨((nth (nth z2 zo) z1K).fNode),((nth (nth z2 zo) z1K).fLink)⟩ : S60) 0) ≥ (yp zJ (⟨((nth (nth z2 zo) z1j).fNode),((nth (nth z2 zo) z1j).fLink)⟩ : S60) 0))) then some false else y20 z2 zo z1j zJ zbR zxs (i64 (z1K + 1))) else zbR
theorem y84 {n : Nat} {z2 : List (List Sapi_Hop)} {zo : Int} {z1j : Int} {zJ : List (S60 × Int)} {zbR : Option Bool} {z1K : Int} {r : Bool} (h : y20 z2 zo z1j zJ zbR n z1K = some r) : ∃ m,n = m + 1:=by
 cases n with
 | zero=>cases h
 | succ m=>exact ⟨m,rfl⟩
def y21 (z2 : List (List Sapi_Hop)) (zo : Int) (zJ : List (S60 × Int)) (zbS : Option Bool) : Nat → Int → Option Bool
 | 0,_=>none
 | zxt + 1,z1j=>if decide (z1j < (((nth z2 zo).length : Nat) : Int)) then jp0 (y21 z2 zo zJ zbS zxt (i64 (z1j + 1))) fun zxu=>chk ((0 : Int) ≤ z1j ∧ z1j < (((nth z2 zo).length : Nat) : Int)) (jp0 (zxu) fun zbR=>y20 z2 zo z1j zJ zbR yB 0) else zbS
theorem y85 {n : Nat} {z2 : List (List Sapi_Hop)} {zo : Int} {zJ : List (S60 × Int)} {zbS : Option Bool} {z1j : Int} {r : Bool} (h : y21 z2 zo zJ zbS n z1j = some r) : ∃ m,n = m + 1:=by
 cases n with
 | zero=>cases h
 | succ m=>exact ⟨m,rfl⟩
def y22 (z2 : List (List Sapi_Hop)) (zJ : List (S60 × Int)) (zbT : Option Bool) : Nat → Int → Option Bool
 | 0,_=>none
 | zxv + 1,zo=>if decide (zo < ((z2.length : Nat) : Int)) then jp0 (y22 z2 zJ zbT zxv (i64 (zo + 1))) fun zxw=>chk ((0 : Int) ≤ zo ∧ zo < ((z2.length : Nat) : Int)) (jp0 (zxw) fun zbS=>y21 z2 zo zJ zbS yB 0) else zbT
theorem y86 {n : Nat} {z2 : List (List Sapi_Hop)} {zJ : List (S60 × Int)} {zbT : Option Bool} {zo : Int} {r : Bool} (h : y22 z2 zJ zbT n zo = some r) : ∃ m,n = m + 1:=by
 cases n with
 | zero=>cases h
 | succ m=>exact ⟨m,rfl⟩
def y4Z (z1W : Sapi_Config) (zj0 : Int) (z2 : List (List Sapi_Hop)) : Option Bool :=
 (y6M z1W z2).bind fun zFk=>(if !zFk then some true else (y3n z1W zj0 z2).bind fun zFl=>some (!zFl)).bind fun zxx=>if zxx then (y4E).bind fun zFm=>some zFm else (y40 z1W zj0 z2).bind fun ze=>jp1 (fun (zJ : List (S60 × Int))=>jp1 (fun (zbU : List (S60 × Int))=>jp2 (fun (zdZ : Bool) (z9v : List (S60 × Int))=>if zdZ then (if (decide (ze.2 = 351)) && (decide (((ze.1.length : Nat) : Int) = 0)) then (y4E).bind fun zFn=>some zFn else some false).bind fun zxy=>some zxy else if (decide (ze.2 ≠ 0)) || (decide (((ze.1.length : Nat) : Int) ≠ ((z9v.length : Nat) : Int))) then some false else jp0 ((y4E).bind fun zFo=>some zFo) fun zbT=>y22 z2 zJ zbT yB 0) fun zbK=>y1e z2 zbK yB false true zbU) fun zbp=>y1W z2 zbp yB 0 ([] : List (S60 × Int))) fun zbn=>y1U ze zbn yB 0 ([] : List (S60 × Int))
set_option maxRecDepth 20000 in
theorem yaE (Z : Zp) (zoR : Option Addr) (zoS : Nat) (zoT : Option Addr) (zoU : Nat) (zoV : Option Addr) (zoW : Nat) (zoX : Option Addr) (zoY : Nat) (zoZ : Option Addr) (zp0 : Nat) (zp1 : Option Addr) (zp2 : Nat) (zp3 : Option Addr) (zp4 : Nat) (zp5 : Option Addr) (zp6 : Nat) (zM : Option Addr) (zN : Nat) (z1W : Sapi_Config) (zj0 : Int) (z2 : List (List Sapi_Hop)) (r : Bool)
  (h : y4Z z1W zj0 z2 = some r) (w₀ : World) (hz : PZ [] w₀ Z)
  (zxz : ZS Z 4 (y3y Z) zoR zoS z1W.fModules)
  (zxA : ZS Z 4 (y49 Z) zoT zoU z1W.fChannels)
  (zxB : ZS Z 4 (fun r x=>r = e66 x) zoV zoW z1W.fSwitches)
  (zxC : ZS Z 4 (fun r x=>r = e64 x) zoX zoY z1W.fLinks)
  (zxD : ZS Z 7 (p46 Z) zoZ zp0 z1W.fVLs)
  (zxE : ZS Z 5 (fun r x=>r = y4m x) zp1 zp2 z1W.fHealth)
  (zxF : ZS Z 3 (y4a Z) zp3 zp4 z1W.fCauses)
  (zxG : ZS Z 4 (fun r x=>r = y4n x) zp5 zp6 z1W.fVersions)
  (zj1 : ZS Z 1 (p48 Z) zM zN z2) :
  Calls Tryz.prog 4 #[(.agg #[(.slice zoR z1W.fModules.length zoS),(.slice zoT z1W.fChannels.length zoU),(.slice zoV z1W.fSwitches.length zoW),(.slice zoX z1W.fLinks.length zoY),(.slice zoZ z1W.fVLs.length zp0),(.slice zp1 z1W.fHealth.length zp2),(.slice zp3 z1W.fCauses.length zp4),(.slice zp5 z1W.fVersions.length zp6)]),(.int .i64 zj0),(.slice zM z2.length zN)] w₀ fun e w'=>∃ Zn : Zp,e = .returned (.bool r) ∧ True ∧ Hp [] w₀ w' [fz Zn]:=by
 unfold y4Z at h
 refine Calls.on3 Tryz.func4 Tryz.ntmps4 ?_
 refine WC.pool (WC.b (WC.a ?_))
 refine WL.nA 3 (yH (cs:=[(.slice zoR z1W.fModules.length zoS),(.slice zoT z1W.fChannels.length zoU),(.slice zoV z1W.fSwitches.length zoW),(.slice zoX z1W.fLinks.length zoY),(.slice zoZ z1W.fVLs.length zp0),(.slice zp1 z1W.fHealth.length zp2),(.slice zp3 z1W.fCauses.length zp4),(.slice zp5 z1W.fVersions.length zp6)]) rfl rfl) ?_
 intro z11t _
 refine WL.pu rfl (WL.nil (WX.a (WC.b (WC.b ?_))))
 obtain ⟨zFk,zTf,h⟩:=z7 h
 obtain ⟨zxx,zFp,h⟩:=z7 h
 refine WC.a ?_
 refine WL.qA 35 (yg y2B rfl (yh .here) rfl) ?_
 refine WL.pu rfl ?_
 refine WL.cA 37 (za (l:=[.tmp 35,.tmp 36]) Tryz.call8 (.cons rfl (.cons rfl .nil))) .nil (ccz hz .nil .h1 fun w pz ho=>ycZ _ _ _ _ _ _ _ _ _ _ _ _ _ _ _ _ _ _ _ _ _ _ zTf w pz ((zxz.mono (Zle.left _ _)).weak (fun _ _ h=>y1d (Zle.left _ _) h)) ((zxA.mono (Zle.left _ _)).weak (fun _ _ h=>y1m (Zle.left _ _) h)) (zxB.mono (Zle.left _ _)) (zxC.mono (Zle.left _ _)) ((zxD.mono (Zle.left _ _)).weak (fun _ _ h=>y16 (Zle.left _ _) h)) (zxE.mono (Zle.left _ _)) ((zxF.mono (Zle.left _ _)).weak (fun _ _ h=>y1n (Zle.left _ _) h)) (zxG.mono (Zle.left _ _)) ((zj1.mono (Zle.left _ _)).weak (fun _ _ h=>y1i (Zle.left _ _) h))) ?_
 refine WL.pu rfl (WL.pu rfl ?_)
 refine WL.seg false 5 39 (B:=zxx) rfl rfl rfl rfl rfl rfl (fun h=>(Option.some.inj (yn zFp h)).symm) (fun _ zTg=>?_) ?_
 ·skip
  have zm1:=yo zFp zTg
  obtain ⟨zFl,zTh,zm1⟩:=z7 zm1
  replace zm1:=Option.some.inj zm1
  refine WL.qA 40 (yg y2B rfl (yh .here) rfl) ?_
  refine WL.pu rfl (WL.pu rfl ?_)
  refine WL.cA 43 (za (l:=[.tmp 40,.tmp 41,.tmp 42]) Tryz.call12 (.cons rfl (.cons rfl (.cons rfl .nil)))) .nil (ccz hz .nil .h1 fun w pz ho=>y7l _ _ _ _ _ _ _ _ _ _ _ _ _ _ _ _ _ _ _ _ _ _ _ zTh w pz ((zxz.mono (Zle.left _ _)).weak (fun _ _ h=>y1d (Zle.left _ _) h)) ((zxA.mono (Zle.left _ _)).weak (fun _ _ h=>y1m (Zle.left _ _) h)) (zxB.mono (Zle.left _ _)) (zxC.mono (Zle.left _ _)) ((zxD.mono (Zle.left _ _)).weak (fun _ _ h=>y16 (Zle.left _ _) h)) (zxE.mono (Zle.left _ _)) ((zxF.mono (Zle.left _ _)).weak (fun _ _ h=>y1n (Zle.left _ _) h)) (zxG.mono (Zle.left _ _)) ((zj1.mono (Zle.left _ _)).weak (fun _ _ h=>y1i (Zle.left _ _) h))) ?_
  refine WL.pu rfl (WL.pu rfl ?_)
  exact WL.yC zm1 rfl rfl .all
 refine WL.nil (WX.a ?_)
 refine WC.cond rfl (fun zxH=>?_) (fun zxH=>?_)
 ·replace h:=yn h zxH
  refine WC.b ?_
  obtain ⟨zFm,zTi,h⟩:=z7 h
  refine WC.a ?_
  refine WL.y3I (dd:=46) rfl rfl rfl (za (l:=[]) Tryz.call9 .nil) .nil (ccz hz .nil .h1 fun w pz ho=>y8c _ _ zTi w pz ) ?_
  rintro zTj _
  refine WL.merge .here .h1 ?_
  refine WL.pu rfl (WL.nil (WX.a (WC.ret (WX.yd ?_))))
  obtain rfl:=Option.some.inj h
  refine WX.ye Tryz.results4 (.tmp rfl .nil) (fun w hw=>?_)
  exact ⟨([] ++ zTj),yD rfl,trivial,hw.sub (.cons .here .nil)⟩
 ·replace h:=yo h zxH
  refine WC.skip (WX.a (WC.b ?_))
  obtain ⟨ze,zTk,h⟩:=z7 h
  refine WC.a ?_
  refine WL.qA 48 (yg y2B rfl (yh .here) rfl) ?_
  refine WL.pu rfl (WL.pu rfl ?_)
  refine WL.y4F (dd:=51) rfl rfl rfl (za (l:=[.tmp 48,.tmp 49,.tmp 50]) Tryz.call13 (.cons rfl (.cons rfl (.cons rfl .nil)))) .nil (ccz hz .nil .h1 fun w pz ho=>ya3 _ _ _ _ _ _ _ _ _ _ _ _ _ _ _ _ _ _ _ _ _ _ _ zTk w pz ((zxz.mono (Zle.left _ _)).weak (fun _ _ h=>y1d (Zle.left _ _) h)) ((zxA.mono (Zle.left _ _)).weak (fun _ _ h=>y1m (Zle.left _ _) h)) (zxB.mono (Zle.left _ _)) (zxC.mono (Zle.left _ _)) ((zxD.mono (Zle.left _ _)).weak (fun _ _ h=>y16 (Zle.left _ _) h)) (zxE.mono (Zle.left _ _)) ((zxF.mono (Zle.left _ _)).weak (fun _ _ h=>y1n (Zle.left _ _) h)) (zxG.mono (Zle.left _ _)) ((zj1.mono (Zle.left _ _)).weak (fun _ _ h=>y1i (Zle.left _ _) h))) ?_
  rintro zT zU _
  refine WL.pu rfl (WL.pu rfl (WL.pu rfl (WL.pu rfl (WL.pu rfl (WL.nil (WX.a (WC.b (WC.a ?_))))))))
  refine WL.nA 54 (y3e (fun x=>Value.agg (e60 x).toArray) (Value.int .i64)) ?_
  intro zD _
  refine WL.pu rfl (WL.nil (WX.a ?_))
  obtain ⟨zbn,zTl,h⟩:=yU h
  refine WC.y2P (fun (zJ : List (S60 × Int))=>(zbn zJ = some r)) (fun zJ=>[(2,(.slice zM z2.length zN)),(7,(.slice zT ze.1.length zU)),(8,(.int .i64 ze.2)),(9,(.map (some zD)))]) (fun zJ=>[fz [],row (.slice zT ze.1.length zU) 58 4 (ze.1.flatMap e58),yr zD (fun x=>Value.agg (e60 x).toArray) (Value.int .i64) zJ]) ?_ ?_
  ·skip
   refine WC.b (WC.a (WL.pu rfl ?_))
   refine WL.qA 56 (yE Tryz.underlying35 rfl) ?_
   refine WL.pu rfl (WL.nil (WX.a (WC.block ?_)))
   refine WC.y6R (fun (zj2 : Nat) (z1J : Int) (z6j : List (S60 × Int))=>(y1U ze zbn zj2 z1J z6j = some r)) (fun zj2 z1J z6j=>[(2,(.slice zM z2.length zN)),(7,(.slice zT ze.1.length zU)),(8,(.int .i64 ze.2)),(9,(.map (some zD))),(55,(.slice zT ze.1.length zU)),(56,(.int .i64 ((ze.1.length : Nat) : Int))),(57,(.int .i64 z1J))]) (fun zj2 z1J z6j=>[fz [],row (.slice zT ze.1.length zU) 58 4 (ze.1.flatMap e58),yr zD (fun x=>Value.agg (e60 x).toArray) (Value.int .i64) z6j]) (fun zj2 z1J z6j=>zj2) ⟨yB,0,([] : List (S60 × Int))⟩ h (.cons rfl (.cons rfl (.cons rfl (.cons rfl (.cons rfl (.cons rfl (.cons rfl .nil))))))) (.cons .h3 (.cons .h1 (.cons .here .nil))) ?_
   rintro zj2 z1J z6j h
   obtain ⟨zxh,rfl⟩:=y7X h
   rw [y1U] at h
   refine WC.b (WC.a (WL.pu rfl (WL.nil (WX.a (WC.b ?_)))))
   refine WC.cond rfl (fun zxI=>?_) (fun zxI=>?_)
   ·replace h:=yn h zxI
    refine WC.skip (WX.a (WC.b (WC.block (WC.b ?_))))
    obtain ⟨zm2,h⟩:=yq h
    refine WC.a (WL.pu rfl ?_)
    refine WL.know (fun w hw=>Hp.y2H .h1 hw (by intro hz'; have:=zm2; rw [hz'] at this; omega)) ?_
    rintro ⟨z11u,rfl⟩
    refine WL.qA 60 (yY y5f rfl rfl zm2.1 zm2.2 y3z) ?_
    refine WL.qA 61 (yQ (cs:=(e58 (nth ze.1 z1J))) y8r rfl rfl (y3d .h1 (y2Q (enc:=e58) (l:=ze.1) (i:=z1J) (sz:=4) (fun _=>rfl) zm2.1 zm2.2))) ?_
    refine WL.nA 11 (yv (cs:=[(.int .i64 0),(.int .i64 0),(.int .i64 0),(.int .i64 0)]) ycE rfl) ?_
    intro z11v _
    refine WL.pu rfl ?_
    refine WL.ym rfl rfl (yl ydb rfl rfl rfl .here rfl rfl rfl) ?_
    refine WL.nil (WX.a (WC.b (WC.b (WC.a (WL.pu rfl ?_)))))
    refine WL.qA 64 (ya y9h rfl rfl) ?_
    refine WL.qA 65 (yc yt rfl (yk .here rfl)) ?_
    refine WL.qA 66 (ya y9i rfl rfl) ?_
    refine WL.qA 67 (yc yt rfl (yk .here rfl)) ?_
    refine WL.qA 68 (yI (v:=(.agg #[(.int .i64 ((nth ze.1 z1J).fNode)),(.int .i64 ((nth ze.1 z1J).fLink))])) (Eos.parts (l:=[.tmp 65,.tmp 67]) (.cons rfl (.cons rfl .nil)) [0,1]) (fun _=>by kernel_rfl)) ?_
    refine WL.qA 69 (yc3 (k:=(⟨((nth ze.1 z1J).fNode),((nth ze.1 z1J).fLink)⟩ : S60)) (dflt:=(0 : Int)) y5N Tryz.underlying56 y2D rfl rfl rfl .h3) ?_
    refine WL.pu rfl (WL.pu rfl (WL.pu rfl (WL.pu rfl (WL.pu rfl (WL.nil (WX.a (WC.b (WC.a (WL.pu rfl (WL.nil (WX.a ?_)))))))))))
    refine WC.cond rfl (fun zxJ=>?_) (fun zxJ=>?_)
    ·replace h:=yn h zxJ
     refine WC.b (WC.a (WL.pu rfl (WL.nil (WX.a (WC.ret (WX.yd (WX.ys (WX.yd (WX.yd (WX.ys (WX.yd ?_)))))))))))
     obtain rfl:=Option.some.inj h
     refine WX.ye Tryz.results4 (.tmp rfl .nil) (fun w hw=>?_)
     exact ⟨[],yD rfl,trivial,hw.sub (.cons .h1 .nil)⟩
    ·replace h:=yo h zxJ
     refine WC.skip (WX.a (WC.a (WL.pu rfl ?_)))
     refine WL.qA 74 (ya y9h rfl rfl) ?_
     refine WL.qA 75 (yc yt rfl (yk .here rfl)) ?_
     refine WL.qA 76 (ya y9i rfl rfl) ?_
     refine WL.qA 77 (yc yt rfl (yk .here rfl)) ?_
     refine WL.qA 78 (yI (v:=(.agg #[(.int .i64 ((nth ze.1 z1J).fNode)),(.int .i64 ((nth ze.1 z1J).fLink))])) (Eos.parts (l:=[.tmp 75,.tmp 77]) (.cons rfl (.cons rfl .nil)) [0,1]) (fun _=>by kernel_rfl)) ?_
     refine WL.pu rfl ?_
     refine WL.ym rfl rfl (y3m (k:=(⟨((nth ze.1 z1J).fNode),((nth ze.1 z1J).fLink)⟩ : S60)) (v:=z1J) y5N Tryz.underlying56 rfl rfl rfl rfl .h3) ?_
     refine WL.nil (WX.yj (WX.a (WC.a (WL.pu rfl (WL.pu rfl (WL.nil ?_))))))
     exact WX.round (G:=Nat × Int × (List (S60 × Int))) ⟨zxh,(i64 (z1J + 1)),(yG z6j (⟨((nth ze.1 z1J).fNode),((nth ze.1 z1J).fLink)⟩ : S60) z1J)⟩ h (Nat.lt_succ_self _) (.cons rfl (.cons rfl (.cons rfl (.cons rfl (.cons rfl (.cons rfl (.cons rfl .nil))))))) (.cons .h2 (.cons .h2 (.cons .here .nil)))
   ·replace h:=yo h zxI
    refine WC.exit (WX.yf (WX.yf (WX.yz ?_)))
    exact WX.mid (G:=(List (S60 × Int))) z6j h (.cons rfl (.cons rfl (.cons rfl (.cons rfl .nil)))) (.cons .here (.cons .here (.cons .here .nil)))
  ·rintro zJ h
   replace h:=(zTl zJ).symm.trans h
   refine WC.b (WC.a ?_)
   refine WL.nA 81 (y3e (fun x=>Value.agg (e60 x).toArray) (Value.int .i64)) ?_
   intro zX _
   refine WL.pu rfl (WL.nil (WX.a ?_))
   obtain ⟨zbp,zTm,h⟩:=yU h
   refine WC.y2P (fun (zbU : List (S60 × Int))=>(zbp zbU = some r)) (fun zbU=>[(2,(.slice zM z2.length zN)),(7,(.slice zT ze.1.length zU)),(8,(.int .i64 ze.2)),(9,(.map (some zD))),(14,(.map (some zX)))]) (fun zbU=>[fz [],row (.slice zT ze.1.length zU) 58 4 (ze.1.flatMap e58),yr zD (fun x=>Value.agg (e60 x).toArray) (Value.int .i64) zJ,yr zX (fun x=>Value.agg (e60 x).toArray) (Value.int .i64) zbU]) ?_ ?_
   ·skip
    refine WC.b (WC.a (WL.pu rfl ?_))
    refine WL.qA 83 (yE Tryz.underlying32 rfl) ?_
    refine WL.pu rfl (WL.nil (WX.a (WC.block ?_)))
    refine WC.y6R (fun (zj3 : Nat) (z1D : Int) (z6N : List (S60 × Int))=>(y1W z2 zbp zj3 z1D z6N = some r)) (fun zj3 z1D z6N=>[(2,(.slice zM z2.length zN)),(7,(.slice zT ze.1.length zU)),(8,(.int .i64 ze.2)),(9,(.map (some zD))),(14,(.map (some zX))),(82,(.slice zM z2.length zN)),(83,(.int .i64 ((z2.length : Nat) : Int))),(84,(.int .i64 z1D))]) (fun zj3 z1D z6N=>[fz [],row (.slice zT ze.1.length zU) 58 4 (ze.1.flatMap e58),yr zD (fun x=>Value.agg (e60 x).toArray) (Value.int .i64) zJ,yr zX (fun x=>Value.agg (e60 x).toArray) (Value.int .i64) z6N]) (fun zj3 z1D z6N=>zj3) ⟨yB,0,([] : List (S60 × Int))⟩ h (.cons rfl (.cons rfl (.cons rfl (.cons rfl (.cons rfl (.cons rfl (.cons rfl (.cons rfl .nil)))))))) (.cons .h1 (.cons .h1 (.cons .h1 (.cons .here .nil)))) ?_
    rintro zj3 z1D z6N h
    obtain ⟨zxj,rfl⟩:=y7Z h
    rw [y1W] at h
    refine WC.b (WC.a (WL.pu rfl (WL.nil (WX.a (WC.b ?_)))))
    refine WC.cond rfl (fun zxK=>?_) (fun zxK=>?_)
    ·replace h:=yn h zxK
     refine WC.skip (WX.a ?_)
     obtain ⟨zxk,zTn,h⟩:=yU h
     refine WC.y2P (fun (zbq : List (S60 × Int))=>(zxk zbq = some r)) (fun zbq=>[(2,(.slice zM z2.length zN)),(7,(.slice zT ze.1.length zU)),(8,(.int .i64 ze.2)),(9,(.map (some zD))),(14,(.map (some zX))),(82,(.slice zM z2.length zN)),(83,(.int .i64 ((z2.length : Nat) : Int))),(84,(.int .i64 z1D))]) (fun zbq=>[fz [],row (.slice zT ze.1.length zU) 58 4 (ze.1.flatMap e58),yr zD (fun x=>Value.agg (e60 x).toArray) (Value.int .i64) zJ,yr zX (fun x=>Value.agg (e60 x).toArray) (Value.int .i64) zbq]) ?_ ?_
     ·skip
      refine WC.block (WC.b ?_)
      obtain ⟨zTo,h⟩:=yq h
      refine WC.a ?_
      refine WL.znth (dd:=86) rfl rfl (Z:=(Z ++ [])) (Pr:=(p48 (Z ++ []))) y6L rfl rfl ((zj1.mono (Zle.left _ _)).weak (fun _ _ h=>y1i (Zle.left _ _) h)) zTo ?_
      rintro z11w z11x zTp z11y ⟨zTq,zTr,rfl,zTs⟩
      refine WL.qA 87 (yc y5e rfl (y48 (hz.pv2 .here) zTp rfl)) ?_
      refine WL.pu rfl (WL.nil (WX.a (WC.b (WC.a (WL.pu rfl ?_)))))
      refine WL.qA 89 (yE Tryz.underlying48 rfl) ?_
      refine WL.pu rfl (WL.nil (WX.a ?_))
      obtain ⟨zbo,zTt,h⟩:=yU h
      refine WC.mid1 (fun (zbr : List (S60 × Int))=>(zbo zbr = some r)) (fun zbr=>[(2,(.slice zM z2.length zN)),(7,(.slice zT ze.1.length zU)),(8,(.int .i64 ze.2)),(9,(.map (some zD))),(14,(.map (some zX))),(82,(.slice zM z2.length zN)),(83,(.int .i64 ((z2.length : Nat) : Int))),(84,(.int .i64 z1D))]) (fun zbr=>[fz [],row (.slice zT ze.1.length zU) 58 4 (ze.1.flatMap e58),yr zD (fun x=>Value.agg (e60 x).toArray) (Value.int .i64) zJ,yr zX (fun x=>Value.agg (e60 x).toArray) (Value.int .i64) zbr]) ?_ ?_
      ·skip
       refine WC.block ?_
       refine WC.y6R (fun (zj4 : Nat) (z3a : Int) (z6M : List (S60 × Int))=>(y1V z2 z1D zbo zj4 z3a z6M = some r)) (fun zj4 z3a z6M=>[(2,(.slice zM z2.length zN)),(7,(.slice zT ze.1.length zU)),(8,(.int .i64 ze.2)),(9,(.map (some zD))),(14,(.map (some zX))),(82,(.slice zM z2.length zN)),(83,(.int .i64 ((z2.length : Nat) : Int))),(84,(.int .i64 z1D)),(88,(.slice zTq ((nth z2 z1D).length) zTr)),(89,(.int .i64 (((nth z2 z1D).length : Nat) : Int))),(90,(.int .i64 z3a))]) (fun zj4 z3a z6M=>[fz [],row (.slice zT ze.1.length zU) 58 4 (ze.1.flatMap e58),yr zD (fun x=>Value.agg (e60 x).toArray) (Value.int .i64) zJ,yr zX (fun x=>Value.agg (e60 x).toArray) (Value.int .i64) z6M]) (fun zj4 z3a z6M=>zj4) ⟨yB,0,z6N⟩ h (.cons rfl (.cons rfl (.cons rfl (.cons rfl (.cons rfl (.cons rfl (.cons rfl (.cons rfl (.cons rfl (.cons rfl (.cons rfl .nil))))))))))) (.cons .here (.cons .here (.cons .here (.cons .here .nil)))) ?_
       rintro zj4 z3a z6M h
       obtain ⟨zxi,rfl⟩:=y7Y h
       rw [y1V] at h
       refine WC.b (WC.a (WL.pu rfl (WL.nil (WX.a (WC.b ?_)))))
       refine WC.cond rfl (fun zxL=>?_) (fun zxL=>?_)
       ·replace h:=yn h zxL
        refine WC.skip (WX.a (WC.b (WC.block (WC.b ?_))))
        obtain ⟨zTu,h⟩:=yq h
        refine WC.a ?_
        refine WL.znth (dd:=92) rfl rfl (Z:=(Z ++ [])) (Pr:=(fun r x=>r = e62 x)) y3J rfl rfl zTs zTu ?_
        rintro z11z z11A zTv z11B rfl
        refine WL.qA 93 (yg y2g rfl (y1A (hz.pv2 .here) zTv) rfl) ?_
        refine WL.nA 18 (yv (cs:=[(.int .i64 0),(.int .i64 0),(.int .i64 0)]) y3E rfl) ?_
        intro z11C _
        refine WL.ym rfl rfl (yl y3Q rfl rfl rfl .here rfl rfl rfl) ?_
        refine WL.nil (WX.a (WC.a (WL.pu rfl ?_)))
        refine WL.qA 95 (ya y2C rfl rfl) ?_
        refine WL.qA 96 (yc yt rfl (yk .here rfl)) ?_
        refine WL.qA 97 (ya y6n rfl rfl) ?_
        refine WL.qA 98 (yc yt rfl (yk .here rfl)) ?_
        refine WL.qA 99 (yI (v:=(.agg #[(.int .i64 ((nth (nth z2 z1D) z3a).fNode)),(.int .i64 ((nth (nth z2 z1D) z3a).fLink))])) (Eos.parts (l:=[.tmp 96,.tmp 98]) (.cons rfl (.cons rfl .nil)) [0,1]) (fun _=>by kernel_rfl)) ?_
        refine WL.ym rfl rfl (y3m (k:=(⟨((nth (nth z2 z1D) z3a).fNode),((nth (nth z2 z1D) z3a).fLink)⟩ : S60)) (v:=1) y5N Tryz.underlying56 rfl rfl rfl rfl .h4) ?_
        refine WL.nil (WX.yj (WX.a (WC.a (WL.pu rfl (WL.pu rfl (WL.nil ?_))))))
        exact WX.round (G:=Nat × Int × (List (S60 × Int))) ⟨zxi,(i64 (z3a + 1)),(yG z6M (⟨((nth (nth z2 z1D) z3a).fNode),((nth (nth z2 z1D) z3a).fLink)⟩ : S60) 1)⟩ h (Nat.lt_succ_self _) (.cons rfl (.cons rfl (.cons rfl (.cons rfl (.cons rfl (.cons rfl (.cons rfl (.cons rfl (.cons rfl (.cons rfl (.cons rfl .nil))))))))))) (.cons .h2 (.cons .h2 (.cons .h2 (.cons .here .nil))))
       ·replace h:=yo h zxL
        refine WC.exit (WX.yf (WX.yf (WX.yz ?_)))
        exact WX.mid (G:=(List (S60 × Int))) z6M h (.cons rfl (.cons rfl (.cons rfl (.cons rfl (.cons rfl (.cons rfl (.cons rfl (.cons rfl .nil)))))))) (.cons .here (.cons .here (.cons .here (.cons .here .nil))))
      ·rintro zbr h
       replace h:=(zTt zbr).symm.trans h
       refine WX.yj ?_
       exact WX.mid (G:=(List (S60 × Int))) zbr h (.cons rfl (.cons rfl (.cons rfl (.cons rfl (.cons rfl (.cons rfl (.cons rfl (.cons rfl .nil)))))))) (.cons .here (.cons .here (.cons .here (.cons .here .nil))))
     ·rintro zbq h
      replace h:=(zTn zbq).symm.trans h
      refine WC.a (WL.pu rfl (WL.pu rfl (WL.nil ?_)))
      exact WX.round (G:=Nat × Int × (List (S60 × Int))) ⟨zxj,(i64 (z1D + 1)),zbq⟩ h (Nat.lt_succ_self _) (.cons rfl (.cons rfl (.cons rfl (.cons rfl (.cons rfl (.cons rfl (.cons rfl (.cons rfl .nil)))))))) (.cons .here (.cons .here (.cons .here (.cons .here .nil))))
    ·replace h:=yo h zxK
     refine WC.exit (WX.yf (WX.yf (WX.yz ?_)))
     exact WX.mid (G:=(List (S60 × Int))) z6N h (.cons rfl (.cons rfl (.cons rfl (.cons rfl (.cons rfl .nil))))) (.cons .here (.cons .here (.cons .here (.cons .here .nil))))
   ·rintro zbU h
    replace h:=(zTm zbU).symm.trans h
    refine WC.b (WC.a (WL.pu rfl (WL.nil (WX.a ?_))))
    obtain ⟨zbK,zTw,h⟩:=y3D h
    refine WC.y6i (fun (zdZ : Bool) (z9v : List (S60 × Int))=>(zbK zdZ z9v = some r)) (fun zdZ z9v=>[(2,(.slice zM z2.length zN)),(7,(.slice zT ze.1.length zU)),(8,(.int .i64 ze.2)),(9,(.map (some zD))),(14,(.map (some zX))),(19,(.bool zdZ))]) (fun zdZ z9v=>[fz [],row (.slice zT ze.1.length zU) 58 4 (ze.1.flatMap e58),yr zD (fun x=>Value.agg (e60 x).toArray) (Value.int .i64) zJ,yr zX (fun x=>Value.agg (e60 x).toArray) (Value.int .i64) z9v]) ?_ ?_
    ·skip
     refine WC.b (WC.a (WL.pu rfl (WL.nil (WX.a (WC.block ?_)))))
     refine WC.y5t (fun (zj5 : Nat) (z5V : Bool) (z8l : Bool) (z6U : List (S60 × Int))=>(y1e z2 zbK zj5 z5V z8l z6U = some r)) (fun zj5 z5V z8l z6U=>[(2,(.slice zM z2.length zN)),(7,(.slice zT ze.1.length zU)),(8,(.int .i64 ze.2)),(9,(.map (some zD))),(14,(.map (some zX))),(19,(.bool z5V)),(20,(.bool z8l))]) (fun zj5 z5V z8l z6U=>[fz [],row (.slice zT ze.1.length zU) 58 4 (ze.1.flatMap e58),yr zD (fun x=>Value.agg (e60 x).toArray) (Value.int .i64) zJ,yr zX (fun x=>Value.agg (e60 x).toArray) (Value.int .i64) z6U]) (fun zj5 z5V z8l z6U=>zj5) ⟨yB,false,true,zbU⟩ h (.cons rfl (.cons rfl (.cons rfl (.cons rfl (.cons rfl (.cons rfl (.cons rfl .nil))))))) (.cons .here (.cons .here (.cons .here (.cons .here .nil)))) ?_
     rintro zj5 z5V z8l z6U h
     obtain ⟨zxq,rfl⟩:=y83 h
     rw [y1e] at h
     refine WC.b (WC.b (WC.a (WL.pu rfl (WL.pu rfl ?_))))
     refine WL.seg true 2 103 (B:=z8l && (!z5V)) rfl rfl rfl rfl rfl rfl (fun h=>(y2b h).symm) (fun _ zTx=>?_) ?_
     ·skip
      refine WL.pu rfl (WL.pu rfl (WL.pu rfl ?_))
      exact WL.yC (y2c zTx) rfl rfl .all
     refine WL.nil (WX.a ?_)
     refine WC.cond rfl (fun zxM=>?_) (fun zxM=>?_)
     ·replace h:=yn h zxM
      refine WC.skip (WX.a ?_)
      obtain ⟨zxr,zTy,h⟩:=y4l h
      refine WC.y99 (fun (zbL : Bool) (zbM : Bool) (zbN : List (S60 × Int))=>(zxr zbL zbM zbN = some r)) (fun zbL zbM zbN=>[(2,(.slice zM z2.length zN)),(7,(.slice zT ze.1.length zU)),(8,(.int .i64 ze.2)),(9,(.map (some zD))),(14,(.map (some zX))),(19,(.bool zbL)),(20,(.bool zbM))]) (fun zbL zbM zbN=>[fz [],row (.slice zT ze.1.length zU) 58 4 (ze.1.flatMap e58),yr zD (fun x=>Value.agg (e60 x).toArray) (Value.int .i64) zJ,yr zX (fun x=>Value.agg (e60 x).toArray) (Value.int .i64) zbN]) ?_ ?_
      ·skip
       refine WC.block (WC.b (WC.a (WL.pu rfl (WL.nil (WX.a (WC.b (WC.a (WL.pu rfl ?_))))))))
       refine WL.qA 108 (yE Tryz.underlying32 rfl) ?_
       refine WL.pu rfl (WL.nil (WX.a ?_))
       obtain ⟨zbD,zTz,h⟩:=y4l h
       refine WC.y99 (fun (zbO : Bool) (zbP : Bool) (zbQ : List (S60 × Int))=>(zbD zbO zbP zbQ = some r)) (fun zbO zbP zbQ=>[(2,(.slice zM z2.length zN)),(7,(.slice zT ze.1.length zU)),(8,(.int .i64 ze.2)),(9,(.map (some zD))),(14,(.map (some zX))),(19,(.bool zbO)),(20,(.bool zbP))]) (fun zbO zbP zbQ=>[fz [],row (.slice zT ze.1.length zU) 58 4 (ze.1.flatMap e58),yr zD (fun x=>Value.agg (e60 x).toArray) (Value.int .i64) zJ,yr zX (fun x=>Value.agg (e60 x).toArray) (Value.int .i64) zbQ]) ?_ ?_
       ·skip
        refine WC.block ?_
        refine WC.y4k (fun (zj6 : Nat) (z6R : Bool) (z6S : Bool) (z8 : Int) (z6T : List (S60 × Int))=>(y1Z z2 zbD zj6 z6R z6S z8 z6T = some r)) (fun zj6 z6R z6S z8 z6T=>[(2,(.slice zM z2.length zN)),(7,(.slice zT ze.1.length zU)),(8,(.int .i64 ze.2)),(9,(.map (some zD))),(14,(.map (some zX))),(19,(.bool z6R)),(20,(.bool z6S)),(107,(.slice zM z2.length zN)),(108,(.int .i64 ((z2.length : Nat) : Int))),(109,(.int .i64 z8))]) (fun zj6 z6R z6S z8 z6T=>[fz [],row (.slice zT ze.1.length zU) 58 4 (ze.1.flatMap e58),yr zD (fun x=>Value.agg (e60 x).toArray) (Value.int .i64) zJ,yr zX (fun x=>Value.agg (e60 x).toArray) (Value.int .i64) z6T]) (fun zj6 z6R z6S z8 z6T=>zj6) ⟨yB,z5V,false,0,z6U⟩ h (.cons rfl (.cons rfl (.cons rfl (.cons rfl (.cons rfl (.cons rfl (.cons rfl (.cons rfl (.cons rfl (.cons rfl .nil)))))))))) (.cons .here (.cons .here (.cons .here (.cons .here .nil)))) ?_
        rintro zj6 z6R z6S z8 z6T h
        obtain ⟨zxo,rfl⟩:=y82 h
        rw [y1Z] at h
        refine WC.b (WC.a (WL.pu rfl (WL.nil (WX.a (WC.b ?_)))))
        refine WC.cond rfl (fun zxN=>?_) (fun zxN=>?_)
        ·replace h:=yn h zxN
         refine WC.skip (WX.a ?_)
         obtain ⟨zxp,zTA,h⟩:=y4l h
         refine WC.y1x (fun (zbE : Bool) (zbF : Bool) (zbG : List (S60 × Int))=>(zxp zbE zbF zbG = some r)) (fun zbE zbF zbG=>[(2,(.slice zM z2.length zN)),(7,(.slice zT ze.1.length zU)),(8,(.int .i64 ze.2)),(9,(.map (some zD))),(14,(.map (some zX))),(19,(.bool zbE)),(20,(.bool zbF)),(107,(.slice zM z2.length zN)),(108,(.int .i64 ((z2.length : Nat) : Int))),(109,(.int .i64 z8))]) (fun zbE zbF zbG=>[fz [],row (.slice zT ze.1.length zU) 58 4 (ze.1.flatMap e58),yr zD (fun x=>Value.agg (e60 x).toArray) (Value.int .i64) zJ,yr zX (fun x=>Value.agg (e60 x).toArray) (Value.int .i64) zbG]) ?_ ?_
         ·skip
          refine WC.block (WC.b ?_)
          obtain ⟨zTB,h⟩:=yq h
          refine WC.a ?_
          refine WL.znth (dd:=111) rfl rfl (Z:=(Z ++ [])) (Pr:=(p48 (Z ++ []))) y6L rfl rfl ((zj1.mono (Zle.left _ _)).weak (fun _ _ h=>y1i (Zle.left _ _) h)) zTB ?_
          rintro z11D z11E zTC z11F ⟨z1L,z1M,rfl,zFq⟩
          refine WL.qA 112 (yc y5e rfl (y48 (hz.pv2 .here) zTC rfl)) ?_
          refine WL.pu rfl (WL.nil (WX.a (WC.b (WC.a (WL.pu rfl ?_)))))
          refine WL.qA 114 (yE Tryz.underlying48 rfl) ?_
          refine WL.pu rfl (WL.nil (WX.a ?_))
          obtain ⟨zbw,zTD,h⟩:=y4l h
          refine WC.y99 (fun (zbH : Bool) (zbI : Bool) (zbJ : List (S60 × Int))=>(zbw zbH zbI zbJ = some r)) (fun zbH zbI zbJ=>[(2,(.slice zM z2.length zN)),(7,(.slice zT ze.1.length zU)),(8,(.int .i64 ze.2)),(9,(.map (some zD))),(14,(.map (some zX))),(19,(.bool zbH)),(20,(.bool zbI)),(107,(.slice zM z2.length zN)),(108,(.int .i64 ((z2.length : Nat) : Int))),(109,(.int .i64 z8))]) (fun zbH zbI zbJ=>[fz [],row (.slice zT ze.1.length zU) 58 4 (ze.1.flatMap e58),yr zD (fun x=>Value.agg (e60 x).toArray) (Value.int .i64) zJ,yr zX (fun x=>Value.agg (e60 x).toArray) (Value.int .i64) zbJ]) ?_ ?_
          ·skip
           refine WC.block ?_
           refine WC.y4k (fun (zj7 : Nat) (z6O : Bool) (z6P : Bool) (zi : Int) (z6Q : List (S60 × Int))=>(y1Y z2 z8 zbw zj7 z6O z6P zi z6Q = some r)) (fun zj7 z6O z6P zi z6Q=>[(2,(.slice zM z2.length zN)),(7,(.slice zT ze.1.length zU)),(8,(.int .i64 ze.2)),(9,(.map (some zD))),(14,(.map (some zX))),(19,(.bool z6O)),(20,(.bool z6P)),(22,(.slice z1L ((nth z2 z8).length) z1M)),(107,(.slice zM z2.length zN)),(108,(.int .i64 ((z2.length : Nat) : Int))),(109,(.int .i64 z8)),(113,(.slice z1L ((nth z2 z8).length) z1M)),(114,(.int .i64 (((nth z2 z8).length : Nat) : Int))),(115,(.int .i64 zi))]) (fun zj7 z6O z6P zi z6Q=>[fz [],row (.slice zT ze.1.length zU) 58 4 (ze.1.flatMap e58),yr zD (fun x=>Value.agg (e60 x).toArray) (Value.int .i64) zJ,yr zX (fun x=>Value.agg (e60 x).toArray) (Value.int .i64) z6Q]) (fun zj7 z6O z6P zi z6Q=>zj7) ⟨yB,z6R,z6S,0,z6T⟩ h (.cons rfl (.cons rfl (.cons rfl (.cons rfl (.cons rfl (.cons rfl (.cons rfl (.cons rfl (.cons rfl (.cons rfl (.cons rfl (.cons rfl (.cons rfl (.cons rfl .nil)))))))))))))) (.cons .here (.cons .here (.cons .here (.cons .here .nil)))) ?_
           rintro zj7 z6O z6P zi z6Q h
           obtain ⟨zxm,rfl⟩:=y81 h
           rw [y1Y] at h
           refine WC.b (WC.a (WL.pu rfl (WL.nil (WX.a (WC.b ?_)))))
           refine WC.cond rfl (fun zxO=>?_) (fun zxO=>?_)
           ·replace h:=yn h zxO
            refine WC.skip (WX.a ?_)
            obtain ⟨zxn,zTE,h⟩:=y4l h
            refine WC.y1x (fun (zbx : Bool) (zby : Bool) (zbz : List (S60 × Int))=>(zxn zbx zby zbz = some r)) (fun zbx zby zbz=>[(2,(.slice zM z2.length zN)),(7,(.slice zT ze.1.length zU)),(8,(.int .i64 ze.2)),(9,(.map (some zD))),(14,(.map (some zX))),(19,(.bool zbx)),(20,(.bool zby)),(22,(.slice z1L ((nth z2 z8).length) z1M)),(107,(.slice zM z2.length zN)),(108,(.int .i64 ((z2.length : Nat) : Int))),(109,(.int .i64 z8)),(113,(.slice z1L ((nth z2 z8).length) z1M)),(114,(.int .i64 (((nth z2 z8).length : Nat) : Int))),(115,(.int .i64 zi))]) (fun zbx zby zbz=>[fz [],row (.slice zT ze.1.length zU) 58 4 (ze.1.flatMap e58),yr zD (fun x=>Value.agg (e60 x).toArray) (Value.int .i64) zJ,yr zX (fun x=>Value.agg (e60 x).toArray) (Value.int .i64) zbz]) ?_ ?_
            ·skip
             refine WC.block (WC.b ?_)
             obtain ⟨zTF,h⟩:=yq h
             refine WC.a ?_
             refine WL.znth (dd:=117) rfl rfl (Z:=(Z ++ [])) (Pr:=(fun r x=>r = e62 x)) y3J rfl rfl zFq zTF ?_
             rintro z11G z11H zTG z11I rfl
             refine WL.qA 118 (yg y2g rfl (y1A (hz.pv2 .here) zTG) rfl) ?_
             refine WL.nA 24 (yv (cs:=[(.int .i64 0),(.int .i64 0),(.int .i64 0)]) y3E rfl) ?_
             intro z41 _
             refine WL.ym rfl rfl (yl y3Q rfl rfl rfl .here rfl rfl rfl) ?_
             refine WL.nil (WX.a (WC.b (WC.a (WL.pu rfl ?_))))
             refine WL.qA 120 (yE Tryz.underlying48 rfl) ?_
             refine WL.pu rfl (WL.nil (WX.a ?_))
             obtain ⟨zbs,zTH,h⟩:=y4l h
             refine WC.y99 (fun (zbA : Bool) (zbB : Bool) (zbC : List (S60 × Int))=>(zbs zbA zbB zbC = some r)) (fun zbA zbB zbC=>[(2,(.slice zM z2.length zN)),(7,(.slice zT ze.1.length zU)),(8,(.int .i64 ze.2)),(9,(.map (some zD))),(14,(.map (some zX))),(19,(.bool zbA)),(20,(.bool zbB)),(22,(.slice z1L ((nth z2 z8).length) z1M)),(107,(.slice zM z2.length zN)),(108,(.int .i64 ((z2.length : Nat) : Int))),(109,(.int .i64 z8)),(113,(.slice z1L ((nth z2 z8).length) z1M)),(114,(.int .i64 (((nth z2 z8).length : Nat) : Int))),(115,(.int .i64 zi))]) (fun zbA zbB zbC=>[fz [],row (.slice zT ze.1.length zU) 58 4 (ze.1.flatMap e58),yr zD (fun x=>Value.agg (e60 x).toArray) (Value.int .i64) zJ,yr zX (fun x=>Value.agg (e60 x).toArray) (Value.int .i64) zbC]) ?_ ?_
             ·skip
              refine WC.block ?_
              refine WC.y4k (fun (zj8 : Nat) (z2l : Bool) (z3I : Bool) (zl : Int) (z1b : List (S60 × Int))=>(y1X z2 z8 zi zbs zj8 z2l z3I zl z1b = some r)) (fun zj8 z2l z3I zl z1b=>[(2,(.slice zM z2.length zN)),(7,(.slice zT ze.1.length zU)),(8,(.int .i64 ze.2)),(9,(.map (some zD))),(14,(.map (some zX))),(19,(.bool z2l)),(20,(.bool z3I)),(22,(.slice z1L ((nth z2 z8).length) z1M)),(24,(.pointer (some ⟨z41,0,none⟩))),(107,(.slice zM z2.length zN)),(108,(.int .i64 ((z2.length : Nat) : Int))),(109,(.int .i64 z8)),(113,(.slice z1L ((nth z2 z8).length) z1M)),(114,(.int .i64 (((nth z2 z8).length : Nat) : Int))),(115,(.int .i64 zi)),(119,(.slice z1L ((nth z2 z8).length) z1M)),(120,(.int .i64 (((nth z2 z8).length : Nat) : Int))),(121,(.int .i64 zl))]) (fun zj8 z2l z3I zl z1b=>[fz [],row (.slice zT ze.1.length zU) 58 4 (ze.1.flatMap e58),yr zD (fun x=>Value.agg (e60 x).toArray) (Value.int .i64) zJ,yr zX (fun x=>Value.agg (e60 x).toArray) (Value.int .i64) z1b,stb z41 62 [(.int .i64 ((nth (nth z2 z8) zi).fNode)),(.int .i64 ((nth (nth z2 z8) zi).fNext)),(.int .i64 ((nth (nth z2 z8) zi).fLink))]]) (fun zj8 z2l z3I zl z1b=>zj8) ⟨yB,z6O,z6P,0,z6Q⟩ h (.cons rfl (.cons rfl (.cons rfl (.cons rfl (.cons rfl (.cons rfl (.cons rfl (.cons rfl (.cons rfl (.cons rfl (.cons rfl (.cons rfl (.cons rfl (.cons rfl (.cons rfl (.cons rfl (.cons rfl (.cons rfl .nil)))))))))))))))))) (.cons .h1 (.cons .h1 (.cons .h1 (.cons .h1 (.cons .here .nil))))) ?_
              rintro zj8 z2l z3I zl z1b h
              obtain ⟨zxl,rfl⟩:=y80 h
              rw [y1X] at h
              refine WC.b (WC.a (WL.pu rfl (WL.nil (WX.a (WC.b ?_)))))
              refine WC.cond rfl (fun zxP=>?_) (fun zxP=>?_)
              ·replace h:=yn h zxP
               refine WC.skip (WX.a ?_)
               obtain ⟨zoQ,zTI,h⟩:=y4l h
               refine WC.y1x (fun (zbt : Bool) (zbu : Bool) (zbv : List (S60 × Int))=>(zoQ zbt zbu zbv = some r)) (fun zbt zbu zbv=>[(2,(.slice zM z2.length zN)),(7,(.slice zT ze.1.length zU)),(8,(.int .i64 ze.2)),(9,(.map (some zD))),(14,(.map (some zX))),(19,(.bool zbt)),(20,(.bool zbu)),(22,(.slice z1L ((nth z2 z8).length) z1M)),(24,(.pointer (some ⟨z41,0,none⟩))),(107,(.slice zM z2.length zN)),(108,(.int .i64 ((z2.length : Nat) : Int))),(109,(.int .i64 z8)),(113,(.slice z1L ((nth z2 z8).length) z1M)),(114,(.int .i64 (((nth z2 z8).length : Nat) : Int))),(115,(.int .i64 zi)),(119,(.slice z1L ((nth z2 z8).length) z1M)),(120,(.int .i64 (((nth z2 z8).length : Nat) : Int))),(121,(.int .i64 zl))]) (fun zbt zbu zbv=>[fz [],row (.slice zT ze.1.length zU) 58 4 (ze.1.flatMap e58),yr zD (fun x=>Value.agg (e60 x).toArray) (Value.int .i64) zJ,yr zX (fun x=>Value.agg (e60 x).toArray) (Value.int .i64) zbv,stb z41 62 [(.int .i64 ((nth (nth z2 z8) zi).fNode)),(.int .i64 ((nth (nth z2 z8) zi).fNext)),(.int .i64 ((nth (nth z2 z8) zi).fLink))]]) ?_ ?_
               ·skip
                refine WC.block (WC.b ?_)
                obtain ⟨zTJ,h⟩:=yq h
                refine WC.a ?_
                refine WL.znth (dd:=123) rfl rfl (Z:=(Z ++ [])) (Pr:=(fun r x=>r = e62 x)) y3J rfl rfl zFq zTJ ?_
                rintro z11J z11K zTK z11L rfl
                refine WL.qA 124 (yg y2g rfl (y1A (hz.pv2 .here) zTK) rfl) ?_
                refine WL.nA 26 (yv (cs:=[(.int .i64 0),(.int .i64 0),(.int .i64 0)]) y3E rfl) ?_
                intro z6k _
                refine WL.ym rfl rfl (yl y3Q rfl rfl rfl .here rfl rfl rfl) ?_
                refine WL.nil (WX.a (WC.b ?_))
                refine WC.yL (fun i=>[12,13].contains i) [y6D z41 62 [(0,(.int .i64 ((nth (nth z2 z8) zi).fNode))),(2,(.int .i64 ((nth (nth z2 z8) zi).fLink)))]] rfl ?_
                refine WD.pA 0 125 rfl (fun _=>ya y2C rfl rfl) ?_
                refine WD.qA 1 126 rfl (yc yt rfl (yk .here rfl)) ?_
                refine WD.pA 2 127 rfl (fun _=>ya y6n rfl rfl) ?_
                refine WD.qA 3 128 rfl (yc yt rfl (yk .here rfl)) ?_
                refine WD.pA 4 129 rfl (fun _=>yI (v:=(.agg #[(.int .i64 ((nth (nth z2 z8) zl).fNode)),(.int .i64 ((nth (nth z2 z8) zl).fLink))])) (Eos.parts (l:=[.tmp 126,.tmp 128]) (.cons rfl (.cons rfl .nil)) [0,1]) (fun _=>by kernel_rfl)) ?_
                refine WD.pA 5 130 rfl (fun _=>ya y2C rfl rfl) ?_
                refine WD.sA 6 131 rfl (Sin.wk (.cons .h5 .nil) (.stb (.cons rfl (.cons rfl .nil)) .nil)) (yc yt rfl (y4g .here (.head _))) ?_
                refine WD.pA 7 132 rfl (fun _=>ya y6n rfl rfl) ?_
                refine WD.sA 8 133 rfl (Sin.wk (.cons .h5 .nil) (.stb (.cons rfl (.cons rfl .nil)) .nil)) (yc yt rfl (y4g .here (.tail _ (.head _)))) ?_
                refine WD.pA 9 134 rfl (fun _=>yI (v:=(.agg #[(.int .i64 ((nth (nth z2 z8) zi).fNode)),(.int .i64 ((nth (nth z2 z8) zi).fLink))])) (Eos.parts (l:=[.tmp 131,.tmp 133]) (.cons rfl (.cons rfl .nil)) [0,1]) (fun _=>by kernel_rfl)) ?_
                refine WD.yb5 (fuel':=0) (fun (b10o1_454431 : Nat) (b11o1_454431 : Nat)=>[(2,(.slice zM z2.length zN)),(7,(.slice zT ze.1.length zU)),(8,(.int .i64 ze.2)),(9,(.map (some zD))),(14,(.map (some zX))),(19,(.bool z2l)),(20,(.bool z3I)),(22,(.slice z1L ((nth z2 z8).length) z1M)),(24,(.pointer (some ⟨z41,0,none⟩))),(107,(.slice zM z2.length zN)),(108,(.int .i64 ((z2.length : Nat) : Int))),(109,(.int .i64 z8)),(113,(.slice z1L ((nth z2 z8).length) z1M)),(114,(.int .i64 (((nth z2 z8).length : Nat) : Int))),(115,(.int .i64 zi)),(119,(.slice z1L ((nth z2 z8).length) z1M)),(120,(.int .i64 (((nth z2 z8).length : Nat) : Int))),(121,(.int .i64 zl)),(26,(.pointer (some ⟨z6k,0,none⟩))),(27,(.pointer (some ⟨b10o1_454431,0,none⟩))),(28,(.pointer (some ⟨b11o1_454431,0,none⟩)))]) (fun (b10o1_454431 : Nat) (b11o1_454431 : Nat)=>[stb b11o1_454431 60 [(.int .i64 ((nth (nth z2 z8) zi).fNode)),(.int .i64 ((nth (nth z2 z8) zi).fLink))],stb b10o1_454431 60 [(.int .i64 ((nth (nth z2 z8) zl).fNode)),(.int .i64 ((nth (nth z2 z8) zl).fLink))],stb z6k 62 [(.int .i64 ((nth (nth z2 z8) zl).fNode)),(.int .i64 ((nth (nth z2 z8) zl).fNext)),(.int .i64 ((nth (nth z2 z8) zl).fLink))],fz [],row (.slice zT ze.1.length zU) 58 4 (ze.1.flatMap e58),yr zD (fun x=>Value.agg (e60 x).toArray) (Value.int .i64) zJ,yr zX (fun x=>Value.agg (e60 x).toArray) (Value.int .i64) z1b,stb z41 62 [(.int .i64 ((nth (nth z2 z8) zi).fNode)),(.int .i64 ((nth (nth z2 z8) zi).fNext)),(.int .i64 ((nth (nth z2 z8) zi).fLink))]]) (fun (b10o1_454431 : Nat) (b11o1_454431 : Nat)=>True) (y29 14 [13,12,11,10,9,8,7,6,5,4,3,2,1,0]) ?_ (fun K10o11o12o13_454431=>?_)
                ·skip
                 rintro b10o1_454431 b11o1_454431 _
                 refine WD.done (by kernel_rfl) ?_
                 refine WX.a (WC.b ?_)
                 refine WC.yL (fun i=>[].contains i) [] rfl ?_
                 refine WD.pA 0 135 rfl (fun _=>ya y4h rfl rfl) ?_
                 refine WD.qA 1 136 rfl (yc yt rfl (yk .h2 rfl)) ?_
                 refine WD.pA 2 137 rfl (fun _=>ya y2C rfl rfl) ?_
                 refine WD.qA 3 138 rfl (yc yt rfl (yk .h7 rfl)) ?_
                 refine WD.pA 4 139 rfl (fun _=>y8e rfl rfl) ?_
                 refine WD.pA 5 140 rfl (fun _=>q_m rfl) ?_
                 refine WD.mid (fuel':=0) [(2,(.slice zM z2.length zN)),(7,(.slice zT ze.1.length zU)),(8,(.int .i64 ze.2)),(9,(.map (some zD))),(14,(.map (some zX))),(19,(.bool z2l)),(20,(.bool z3I)),(22,(.slice z1L ((nth z2 z8).length) z1M)),(24,(.pointer (some ⟨z41,0,none⟩))),(107,(.slice zM z2.length zN)),(108,(.int .i64 ((z2.length : Nat) : Int))),(109,(.int .i64 z8)),(113,(.slice z1L ((nth z2 z8).length) z1M)),(114,(.int .i64 (((nth z2 z8).length : Nat) : Int))),(115,(.int .i64 zi)),(119,(.slice z1L ((nth z2 z8).length) z1M)),(120,(.int .i64 (((nth z2 z8).length : Nat) : Int))),(121,(.int .i64 zl)),(26,(.pointer (some ⟨z6k,0,none⟩))),(27,(.pointer (some ⟨b10o1_454431,0,none⟩))),(28,(.pointer (some ⟨b11o1_454431,0,none⟩))),(135,(.pointer (some ⟨z6k,1,none⟩))),(136,(.int .i64 ((nth (nth z2 z8) zl).fNext))),(137,(.pointer (some ⟨z41,0,none⟩))),(138,(.int .i64 ((nth (nth z2 z8) zi).fNode))),(139,(.bool (decide (((nth (nth z2 z8) zl).fNext) = ((nth (nth z2 z8) zi).fNode))))),(140,(.bool (decide (((nth (nth z2 z8) zl).fNext) = ((nth (nth z2 z8) zi).fNode))))),(148,(.bool ((decide (((nth (nth z2 z8) zl).fNext) = ((nth (nth z2 z8) zi).fNode))) && (decide ((yp z1b (⟨((nth (nth z2 z8) zi).fNode),((nth (nth z2 z8) zi).fLink)⟩ : S60) 0) ≤ (yp z1b (⟨((nth (nth z2 z8) zl).fNode),((nth (nth z2 z8) zl).fLink)⟩ : S60) 0))))))] (y29 14 [13,12,11,10,9,8,7,6,5,4,3,2,1,0]) ?_ (fun zFr=>?_)
                 rotate_left
                 ·rcases Bool.eq_false_or_eq_true (decide (((nth (nth z2 z8) zl).fNext) = ((nth (nth z2 z8) zi).fNode))) with hb' | hb'
                  ·have zxQ:=hb'; clear hb'
                   refine WD.pin (i:=140) rfl zxQ ?_
                   refine WD.pA 6 141 rfl (fun _=>q_m rfl) ?_
                   refine WD.qA 7 142 rfl (yg y9l rfl (yh .here) rfl) ?_
                   refine WD.qA 8 143 rfl (y1J (k:=(⟨((nth (nth z2 z8) zi).fNode),((nth (nth z2 z8) zi).fLink)⟩ : S60)) (dflt:=(0 : Int)) y5N Tryz.underlying56 y2D rfl rfl rfl .h6) ?_
                   refine WD.pA 9 144 rfl (fun _=>q_m rfl) ?_
                   refine WD.qA 10 145 rfl (yg y9l rfl (yh .h1) rfl) ?_
                   refine WD.qA 11 146 rfl (y1J (k:=(⟨((nth (nth z2 z8) zl).fNode),((nth (nth z2 z8) zl).fLink)⟩ : S60)) (dflt:=(0 : Int)) y5N Tryz.underlying56 y2D rfl rfl rfl .h6) ?_
                   refine WD.pA 12 147 rfl (fun _=>q_leq rfl rfl) ?_
                   refine WD.pA 13 148 rfl (fun _=>y2y rfl rfl) ?_
                   refine WD.reL (.cons .here (.cons .here (.cons .here (.cons .here (.cons .here (.cons .here (.cons .here (.cons .here .nil)))))))) ?_ zFr
                   exact (.cons rfl (.cons rfl (.cons rfl (.cons rfl (.cons rfl (.cons rfl (.cons rfl (.cons rfl (.cons rfl (.cons rfl (.cons rfl (.cons rfl (.cons rfl (.cons rfl (.cons rfl (.cons rfl (.cons rfl (.cons rfl (.cons rfl (.cons rfl (.cons rfl (.cons rfl (.cons rfl (.cons rfl (.cons rfl (.cons rfl (.cons (zx (Eq.symm zxQ)) (.cons (zx (y2c zxQ)) .nil))))))))))))))))))))))))))))
                  ·have zxR:=hb'; clear hb'
                   refine WD.pin (i:=140) rfl zxR ?_
                   refine WD.kA 6 141 rfl ?_
                   refine WD.kA 7 142 rfl ?_
                   refine WD.kA 8 143 rfl ?_
                   refine WD.kA 9 144 rfl ?_
                   refine WD.kA 10 145 rfl ?_
                   refine WD.kA 11 146 rfl ?_
                   refine WD.kA 12 147 rfl ?_
                   refine WD.pA 13 148 rfl (fun _=>y2z rfl rfl) ?_
                   refine WD.reL (.cons .here (.cons .here (.cons .here (.cons .here (.cons .here (.cons .here (.cons .here (.cons .here .nil)))))))) ?_ zFr
                   exact (.cons rfl (.cons rfl (.cons rfl (.cons rfl (.cons rfl (.cons rfl (.cons rfl (.cons rfl (.cons rfl (.cons rfl (.cons rfl (.cons rfl (.cons rfl (.cons rfl (.cons rfl (.cons rfl (.cons rfl (.cons rfl (.cons rfl (.cons rfl (.cons rfl (.cons rfl (.cons rfl (.cons rfl (.cons rfl (.cons rfl (.cons (zx (Eq.symm zxR)) (.cons (zx (y2b zxR)) .nil))))))))))))))))))))))))))))
                 refine WD.done (by kernel_rfl) ?_
                 refine WX.a ?_
                 refine WC.cond rfl (fun zxS=>?_) (fun zxS=>?_)
                 ·replace h:=yn h zxS
                  refine WC.b ?_
                  refine WC.yL (fun i=>[6].contains i) [] rfl ?_
                  refine WD.pA 0 149 rfl (fun _=>q_m rfl) ?_
                  refine WD.qA 1 150 rfl (yg y9l rfl (yh .here) rfl) ?_
                  refine WD.pA 2 151 rfl (fun _=>q_m rfl) ?_
                  refine WD.qA 3 152 rfl (yg y9l rfl (yh .h1) rfl) ?_
                  refine WD.qA 4 153 rfl (y1J (k:=(⟨((nth (nth z2 z8) zl).fNode),((nth (nth z2 z8) zl).fLink)⟩ : S60)) (dflt:=(0 : Int)) y5N Tryz.underlying56 y2D rfl rfl rfl .h6) ?_
                  refine WD.pA 5 154 rfl (fun _=>yaF rfl rfl rfl) ?_
                  refine WD.y2F (i:=6) rfl (by kernel_rfl) rfl rfl rfl (by kernel_rfl) (y3m (k:=(⟨((nth (nth z2 z8) zi).fNode),((nth (nth z2 z8) zi).fLink)⟩ : S60)) (v:=i64 ((yp z1b (⟨((nth (nth z2 z8) zl).fNode),((nth (nth z2 z8) zl).fLink)⟩ : S60) 0) + 1)) y5N Tryz.underlying56 rfl rfl rfl rfl .h6) ?_
                  refine WD.done (by kernel_rfl) ?_
                  refine WX.a ?_
                  refine WC.yL (fun i=>[].contains i) [] rfl ?_
                  refine WD.pA 0 155 rfl (fun _=>q_m rfl) ?_
                  refine WD.pA 1 156 rfl (fun _=>q_m rfl) ?_
                  refine WD.mid (fuel':=2) [(2,(.slice zM z2.length zN)),(7,(.slice zT ze.1.length zU)),(8,(.int .i64 ze.2)),(9,(.map (some zD))),(14,(.map (some zX))),(19,(.bool z2l)),(20,(.bool z3I)),(22,(.slice z1L ((nth z2 z8).length) z1M)),(24,(.pointer (some ⟨z41,0,none⟩))),(107,(.slice zM z2.length zN)),(108,(.int .i64 ((z2.length : Nat) : Int))),(109,(.int .i64 z8)),(113,(.slice z1L ((nth z2 z8).length) z1M)),(114,(.int .i64 (((nth z2 z8).length : Nat) : Int))),(115,(.int .i64 zi)),(119,(.slice z1L ((nth z2 z8).length) z1M)),(120,(.int .i64 (((nth z2 z8).length : Nat) : Int))),(121,(.int .i64 zl)),(26,(.pointer (some ⟨z6k,0,none⟩))),(27,(.pointer (some ⟨b10o1_454431,0,none⟩))),(28,(.pointer (some ⟨b11o1_454431,0,none⟩))),(135,(.pointer (some ⟨z6k,1,none⟩))),(136,(.int .i64 ((nth (nth z2 z8) zl).fNext))),(137,(.pointer (some ⟨z41,0,none⟩))),(138,(.int .i64 ((nth (nth z2 z8) zi).fNode))),(139,(.bool (decide (((nth (nth z2 z8) zl).fNext) = ((nth (nth z2 z8) zi).fNode))))),(140,(.bool (decide (((nth (nth z2 z8) zl).fNext) = ((nth (nth z2 z8) zi).fNode))))),(148,(.bool ((decide (((nth (nth z2 z8) zl).fNext) = ((nth (nth z2 z8) zi).fNode))) && (decide ((yp z1b (⟨((nth (nth z2 z8) zi).fNode),((nth (nth z2 z8) zi).fLink)⟩ : S60) 0) ≤ (yp z1b (⟨((nth (nth z2 z8) zl).fNode),((nth (nth z2 z8) zl).fLink)⟩ : S60) 0)))))),(149,(.map (some zX))),(150,(.agg #[(.int .i64 ((nth (nth z2 z8) zi).fNode)),(.int .i64 ((nth (nth z2 z8) zi).fLink))])),(151,(.map (some zX))),(152,(.agg #[(.int .i64 ((nth (nth z2 z8) zl).fNode)),(.int .i64 ((nth (nth z2 z8) zl).fLink))])),(153,(.int .i64 (yp z1b (⟨((nth (nth z2 z8) zl).fNode),((nth (nth z2 z8) zl).fLink)⟩ : S60) 0))),(154,(.int .i64 (i64 ((yp z1b (⟨((nth (nth z2 z8) zl).fNode),((nth (nth z2 z8) zl).fLink)⟩ : S60) 0) + 1)))),(155,(.bool z2l)),(156,(.bool z2l)),(163,(.bool (z2l || (decide ((yp (yG z1b (⟨((nth (nth z2 z8) zi).fNode),((nth (nth z2 z8) zi).fLink)⟩ : S60) (i64 ((yp z1b (⟨((nth (nth z2 z8) zl).fNode),((nth (nth z2 z8) zl).fLink)⟩ : S60) 0) + 1))) (⟨((nth (nth z2 z8) zi).fNode),((nth (nth z2 z8) zi).fLink)⟩ : S60) 0) > (((yG z1b (⟨((nth (nth z2 z8) zi).fNode),((nth (nth z2 z8) zi).fLink)⟩ : S60) (i64 ((yp z1b (⟨((nth (nth z2 z8) zl).fNode),((nth (nth z2 z8) zl).fLink)⟩ : S60) 0) + 1))).length : Nat) : Int))))))] (y29 11 [8,7,6,5,4,3,2,1,0]) ?_ (fun zFs=>?_)
                  rotate_left
                  ·rcases Bool.eq_false_or_eq_true z2l with hb' | hb'
                   ·have zxT:=hb'; clear hb'
                    refine WD.pin (i:=156) rfl zxT ?_
                    refine WD.kA 2 157 rfl ?_
                    refine WD.kA 3 158 rfl ?_
                    refine WD.kA 4 159 rfl ?_
                    refine WD.kA 5 160 rfl ?_
                    refine WD.kA 6 161 rfl ?_
                    refine WD.kA 7 162 rfl ?_
                    refine WD.pA 8 163 rfl (fun _=>y2y rfl rfl) ?_
                    refine WD.reL (.cons .here (.cons .here (.cons .here (.cons .here (.cons .here (.cons .here (.cons .here (.cons .here .nil)))))))) ?_ zFs
                    exact (.cons rfl (.cons rfl (.cons rfl (.cons rfl (.cons rfl (.cons rfl (.cons rfl (.cons rfl (.cons rfl (.cons rfl (.cons rfl (.cons rfl (.cons rfl (.cons rfl (.cons rfl (.cons rfl (.cons rfl (.cons rfl (.cons rfl (.cons rfl (.cons rfl (.cons rfl (.cons rfl (.cons rfl (.cons rfl (.cons rfl (.cons rfl (.cons rfl (.cons rfl (.cons rfl (.cons rfl (.cons rfl (.cons rfl (.cons rfl (.cons rfl (.cons (zx (Eq.symm zxT)) (.cons (zx (y67 zxT)) .nil)))))))))))))))))))))))))))))))))))))
                   ·have zxU:=hb'; clear hb'
                    refine WD.pin (i:=156) rfl zxU ?_
                    refine WD.pA 2 157 rfl (fun _=>q_m rfl) ?_
                    refine WD.qA 3 158 rfl (yg y9l rfl (yh .h1) rfl) ?_
                    refine WD.qA 4 159 rfl (y1J (k:=(⟨((nth (nth z2 z8) zi).fNode),((nth (nth z2 z8) zi).fLink)⟩ : S60)) (dflt:=(0 : Int)) y5N Tryz.underlying56 y2D rfl rfl rfl .here) ?_
                    refine WD.pA 5 160 rfl (fun _=>q_m rfl) ?_
                    refine WD.qA 6 161 rfl (q_lenM Tryz.underlying56 rfl .here) ?_
                    refine WD.pA 7 162 rfl (fun _=>yaG rfl rfl) ?_
                    refine WD.pA 8 163 rfl (fun _=>y2z rfl rfl) ?_
                    refine WD.reL (.cons .here (.cons .here (.cons .here (.cons .here (.cons .here (.cons .here (.cons .here (.cons .here .nil)))))))) ?_ zFs
                    exact (.cons rfl (.cons rfl (.cons rfl (.cons rfl (.cons rfl (.cons rfl (.cons rfl (.cons rfl (.cons rfl (.cons rfl (.cons rfl (.cons rfl (.cons rfl (.cons rfl (.cons rfl (.cons rfl (.cons rfl (.cons rfl (.cons rfl (.cons rfl (.cons rfl (.cons rfl (.cons rfl (.cons rfl (.cons rfl (.cons rfl (.cons rfl (.cons rfl (.cons rfl (.cons rfl (.cons rfl (.cons rfl (.cons rfl (.cons rfl (.cons rfl (.cons (zx (Eq.symm zxU)) (.cons (zx (y68 zxU)) .nil)))))))))))))))))))))))))))))))))))))
                  refine WD.pA 9 20 rfl (fun _=>q_z rfl) ?_
                  refine WD.pA 10 19 rfl (fun _=>q_z rfl) ?_
                  refine WD.done (by kernel_rfl) ?_
                  refine WX.yj ?_
                  exact WX.mid (G:=Bool × Bool × (List (S60 × Int))) ⟨(z2l || (decide ((yp (yG z1b (⟨((nth (nth z2 z8) zi).fNode),((nth (nth z2 z8) zi).fLink)⟩ : S60) (i64 ((yp z1b (⟨((nth (nth z2 z8) zl).fNode),((nth (nth z2 z8) zl).fLink)⟩ : S60) 0) + 1))) (⟨((nth (nth z2 z8) zi).fNode),((nth (nth z2 z8) zi).fLink)⟩ : S60) 0) > (((yG z1b (⟨((nth (nth z2 z8) zi).fNode),((nth (nth z2 z8) zi).fLink)⟩ : S60) (i64 ((yp z1b (⟨((nth (nth z2 z8) zl).fNode),((nth (nth z2 z8) zl).fLink)⟩ : S60) 0) + 1))).length : Nat) : Int)))),true,(yG z1b (⟨((nth (nth z2 z8) zi).fNode),((nth (nth z2 z8) zi).fLink)⟩ : S60) (i64 ((yp z1b (⟨((nth (nth z2 z8) zl).fNode),((nth (nth z2 z8) zl).fLink)⟩ : S60) 0) + 1)))⟩ h (.cons rfl (.cons rfl (.cons rfl (.cons rfl (.cons rfl (.cons rfl (.cons rfl (.cons rfl (.cons rfl (.cons rfl (.cons rfl (.cons rfl (.cons rfl (.cons rfl (.cons rfl (.cons rfl (.cons rfl (.cons rfl .nil)))))))))))))))))) (.cons .h4 (.cons .h4 (.cons .h4 (.cons .here (.cons .h3 .nil)))))
                 ·replace h:=yo h zxS
                  refine WC.skip (WX.yj ?_)
                  exact WX.mid (G:=Bool × Bool × (List (S60 × Int))) ⟨z2l,z3I,z1b⟩ h (.cons rfl (.cons rfl (.cons rfl (.cons rfl (.cons rfl (.cons rfl (.cons rfl (.cons rfl (.cons rfl (.cons rfl (.cons rfl (.cons rfl (.cons rfl (.cons rfl (.cons rfl (.cons rfl (.cons rfl (.cons rfl .nil)))))))))))))))))) (.cons .h3 (.cons .h3 (.cons .h3 (.cons .h3 (.cons .h3 .nil)))))
                refine WD.yb5 (fuel':=1) (fun (b10o1_454431 : Nat) (b11o1_454431 : Nat)=>[(2,(.slice zM z2.length zN)),(7,(.slice zT ze.1.length zU)),(8,(.int .i64 ze.2)),(9,(.map (some zD))),(14,(.map (some zX))),(19,(.bool z2l)),(20,(.bool z3I)),(22,(.slice z1L ((nth z2 z8).length) z1M)),(24,(.pointer (some ⟨z41,0,none⟩))),(107,(.slice zM z2.length zN)),(108,(.int .i64 ((z2.length : Nat) : Int))),(109,(.int .i64 z8)),(113,(.slice z1L ((nth z2 z8).length) z1M)),(114,(.int .i64 (((nth z2 z8).length : Nat) : Int))),(115,(.int .i64 zi)),(119,(.slice z1L ((nth z2 z8).length) z1M)),(120,(.int .i64 (((nth z2 z8).length : Nat) : Int))),(121,(.int .i64 zl)),(26,(.pointer (some ⟨z6k,0,none⟩))),(134,(.agg #[(.int .i64 ((nth (nth z2 z8) zi).fNode)),(.int .i64 ((nth (nth z2 z8) zi).fLink))])),(27,(.pointer (some ⟨b10o1_454431,0,none⟩))),(28,(.pointer (some ⟨b11o1_454431,0,none⟩)))]) (fun (b10o1_454431 : Nat) (b11o1_454431 : Nat)=>[stb b10o1_454431 60 [(.int .i64 ((nth (nth z2 z8) zl).fNode)),(.int .i64 ((nth (nth z2 z8) zl).fLink))],stb b11o1_454431 60 [(.int .i64 0),(.int .i64 0)],stb z6k 62 [(.int .i64 ((nth (nth z2 z8) zl).fNode)),(.int .i64 ((nth (nth z2 z8) zl).fNext)),(.int .i64 ((nth (nth z2 z8) zl).fLink))],fz [],row (.slice zT ze.1.length zU) 58 4 (ze.1.flatMap e58),yr zD (fun x=>Value.agg (e60 x).toArray) (Value.int .i64) zJ,yr zX (fun x=>Value.agg (e60 x).toArray) (Value.int .i64) z1b,stb z41 62 [(.int .i64 ((nth (nth z2 z8) zi).fNode)),(.int .i64 ((nth (nth z2 z8) zi).fNext)),(.int .i64 ((nth (nth z2 z8) zi).fLink))]]) (fun (b10o1_454431 : Nat) (b11o1_454431 : Nat)=>True) (y29 14 [12,11,10,9,8,7,6,5,4,3,2,1,0]) ?_ (fun K10o11o12_454431=>?_)
                ·skip
                 rintro b10o1_454431 b11o1_454431 _
                 refine WD.y2F (i:=13) rfl (by kernel_rfl) rfl rfl rfl (by kernel_rfl) (yl yde rfl rfl rfl .h1 rfl rfl rfl) ?_
                 exact WD.reL (.cons .here (.cons .here (.cons .here (.cons .here (.cons .here (.cons .here (.cons .here (.cons .here .nil)))))))) (.cons rfl (.cons rfl (.cons rfl (.cons rfl (.cons rfl (.cons rfl (.cons rfl (.cons rfl (.cons rfl (.cons rfl (.cons rfl (.cons rfl (.cons rfl (.cons rfl (.cons rfl (.cons rfl (.cons rfl (.cons rfl (.cons rfl (.cons rfl (.cons rfl .nil))))))))))))))))))))) (K10o11o12o13_454431 b10o1_454431 b11o1_454431 trivial)
                refine WD.yb5 (fuel':=2) (fun (b10o1_454431 : Nat) (b11o1_454431 : Nat)=>[(2,(.slice zM z2.length zN)),(7,(.slice zT ze.1.length zU)),(8,(.int .i64 ze.2)),(9,(.map (some zD))),(14,(.map (some zX))),(19,(.bool z2l)),(20,(.bool z3I)),(22,(.slice z1L ((nth z2 z8).length) z1M)),(24,(.pointer (some ⟨z41,0,none⟩))),(107,(.slice zM z2.length zN)),(108,(.int .i64 ((z2.length : Nat) : Int))),(109,(.int .i64 z8)),(113,(.slice z1L ((nth z2 z8).length) z1M)),(114,(.int .i64 (((nth z2 z8).length : Nat) : Int))),(115,(.int .i64 zi)),(119,(.slice z1L ((nth z2 z8).length) z1M)),(120,(.int .i64 (((nth z2 z8).length : Nat) : Int))),(121,(.int .i64 zl)),(26,(.pointer (some ⟨z6k,0,none⟩))),(129,(.agg #[(.int .i64 ((nth (nth z2 z8) zl).fNode)),(.int .i64 ((nth (nth z2 z8) zl).fLink))])),(134,(.agg #[(.int .i64 ((nth (nth z2 z8) zi).fNode)),(.int .i64 ((nth (nth z2 z8) zi).fLink))])),(27,(.pointer (some ⟨b10o1_454431,0,none⟩))),(28,(.pointer (some ⟨b11o1_454431,0,none⟩)))]) (fun (b10o1_454431 : Nat) (b11o1_454431 : Nat)=>[stb b11o1_454431 60 [(.int .i64 0),(.int .i64 0)],stb b10o1_454431 60 [(.int .i64 0),(.int .i64 0)],stb z6k 62 [(.int .i64 ((nth (nth z2 z8) zl).fNode)),(.int .i64 ((nth (nth z2 z8) zl).fNext)),(.int .i64 ((nth (nth z2 z8) zl).fLink))],fz [],row (.slice zT ze.1.length zU) 58 4 (ze.1.flatMap e58),yr zD (fun x=>Value.agg (e60 x).toArray) (Value.int .i64) zJ,yr zX (fun x=>Value.agg (e60 x).toArray) (Value.int .i64) z1b,stb z41 62 [(.int .i64 ((nth (nth z2 z8) zi).fNode)),(.int .i64 ((nth (nth z2 z8) zi).fNext)),(.int .i64 ((nth (nth z2 z8) zi).fLink))]]) (fun (b10o1_454431 : Nat) (b11o1_454431 : Nat)=>True) (y29 14 [11,10,9,8,7,6,5,4,3,2,1,0]) ?_ (fun K10o11_454431=>?_)
                ·skip
                 rintro b10o1_454431 b11o1_454431 _
                 refine WD.forced0 (i:=12) rfl (by kernel_rfl) rfl rfl rfl (Sin.wk (.cons .h7 .nil) (.stb (.cons rfl (.cons rfl .nil)) .nil)) (yl yde rfl rfl rfl .h1 rfl rfl rfl) ?_
                 exact WD.reL (.cons .here (.cons .here (.cons .here (.cons .here (.cons .here (.cons .here (.cons .here (.cons .here .nil)))))))) (.cons rfl (.cons rfl (.cons rfl (.cons rfl (.cons rfl (.cons rfl (.cons rfl (.cons rfl (.cons rfl (.cons rfl (.cons rfl (.cons rfl (.cons rfl (.cons rfl (.cons rfl (.cons rfl (.cons rfl (.cons rfl (.cons rfl (.cons rfl (.cons rfl (.cons rfl .nil)))))))))))))))))))))) (K10o11o12_454431 b10o1_454431 b11o1_454431 trivial)
                refine WD.ycr (fuel':=3) (fun (b10o1_454431 : Nat)=>[(2,(.slice zM z2.length zN)),(7,(.slice zT ze.1.length zU)),(8,(.int .i64 ze.2)),(9,(.map (some zD))),(14,(.map (some zX))),(19,(.bool z2l)),(20,(.bool z3I)),(22,(.slice z1L ((nth z2 z8).length) z1M)),(24,(.pointer (some ⟨z41,0,none⟩))),(107,(.slice zM z2.length zN)),(108,(.int .i64 ((z2.length : Nat) : Int))),(109,(.int .i64 z8)),(113,(.slice z1L ((nth z2 z8).length) z1M)),(114,(.int .i64 (((nth z2 z8).length : Nat) : Int))),(115,(.int .i64 zi)),(119,(.slice z1L ((nth z2 z8).length) z1M)),(120,(.int .i64 (((nth z2 z8).length : Nat) : Int))),(121,(.int .i64 zl)),(26,(.pointer (some ⟨z6k,0,none⟩))),(129,(.agg #[(.int .i64 ((nth (nth z2 z8) zl).fNode)),(.int .i64 ((nth (nth z2 z8) zl).fLink))])),(134,(.agg #[(.int .i64 ((nth (nth z2 z8) zi).fNode)),(.int .i64 ((nth (nth z2 z8) zi).fLink))])),(27,(.pointer (some ⟨b10o1_454431,0,none⟩)))]) (fun (b10o1_454431 : Nat)=>[stb b10o1_454431 60 [(.int .i64 0),(.int .i64 0)],stb z6k 62 [(.int .i64 ((nth (nth z2 z8) zl).fNode)),(.int .i64 ((nth (nth z2 z8) zl).fNext)),(.int .i64 ((nth (nth z2 z8) zl).fLink))],fz [],row (.slice zT ze.1.length zU) 58 4 (ze.1.flatMap e58),yr zD (fun x=>Value.agg (e60 x).toArray) (Value.int .i64) zJ,yr zX (fun x=>Value.agg (e60 x).toArray) (Value.int .i64) z1b,stb z41 62 [(.int .i64 ((nth (nth z2 z8) zi).fNode)),(.int .i64 ((nth (nth z2 z8) zi).fNext)),(.int .i64 ((nth (nth z2 z8) zi).fLink))]]) (fun (b10o1_454431 : Nat)=>True) (y29 14 [10,9,8,7,6,5,4,3,2,1,0]) ?_ (fun K10_454431=>?_)
                ·skip
                 rintro b10o1_454431 _
                 refine WD.new (i:=11) (dd:=28) rfl (by kernel_rfl) rfl rfl rfl (yv (cs:=[(.int .i64 0),(.int .i64 0)]) y9E rfl) (fun h'=>absurd h' (by decide)) ?_
                 intro b11o1_454431 _
                 exact WD.reL (.cons .here (.cons .here (.cons .here (.cons .here (.cons .here (.cons .here (.cons .here (.cons .here .nil)))))))) (.cons rfl (.cons rfl (.cons rfl (.cons rfl (.cons rfl (.cons rfl (.cons rfl (.cons rfl (.cons rfl (.cons rfl (.cons rfl (.cons rfl (.cons rfl (.cons rfl (.cons rfl (.cons rfl (.cons rfl (.cons rfl (.cons rfl (.cons rfl (.cons rfl (.cons rfl (.cons rfl .nil))))))))))))))))))))))) (K10o11_454431 b10o1_454431 b11o1_454431 trivial)
                refine WD.ycr (fuel':=3) (fun (b11o1_454431 : Nat)=>[(2,(.slice zM z2.length zN)),(7,(.slice zT ze.1.length zU)),(8,(.int .i64 ze.2)),(9,(.map (some zD))),(14,(.map (some zX))),(19,(.bool z2l)),(20,(.bool z3I)),(22,(.slice z1L ((nth z2 z8).length) z1M)),(24,(.pointer (some ⟨z41,0,none⟩))),(107,(.slice zM z2.length zN)),(108,(.int .i64 ((z2.length : Nat) : Int))),(109,(.int .i64 z8)),(113,(.slice z1L ((nth z2 z8).length) z1M)),(114,(.int .i64 (((nth z2 z8).length : Nat) : Int))),(115,(.int .i64 zi)),(119,(.slice z1L ((nth z2 z8).length) z1M)),(120,(.int .i64 (((nth z2 z8).length : Nat) : Int))),(121,(.int .i64 zl)),(26,(.pointer (some ⟨z6k,0,none⟩))),(129,(.agg #[(.int .i64 ((nth (nth z2 z8) zl).fNode)),(.int .i64 ((nth (nth z2 z8) zl).fLink))])),(134,(.agg #[(.int .i64 ((nth (nth z2 z8) zi).fNode)),(.int .i64 ((nth (nth z2 z8) zi).fLink))])),(28,(.pointer (some ⟨b11o1_454431,0,none⟩)))]) (fun (b11o1_454431 : Nat)=>[stb b11o1_454431 60 [(.int .i64 0),(.int .i64 0)],stb z6k 62 [(.int .i64 ((nth (nth z2 z8) zl).fNode)),(.int .i64 ((nth (nth z2 z8) zl).fNext)),(.int .i64 ((nth (nth z2 z8) zl).fLink))],fz [],row (.slice zT ze.1.length zU) 58 4 (ze.1.flatMap e58),yr zD (fun x=>Value.agg (e60 x).toArray) (Value.int .i64) zJ,yr zX (fun x=>Value.agg (e60 x).toArray) (Value.int .i64) z1b,stb z41 62 [(.int .i64 ((nth (nth z2 z8) zi).fNode)),(.int .i64 ((nth (nth z2 z8) zi).fNext)),(.int .i64 ((nth (nth z2 z8) zi).fLink))]]) (fun (b11o1_454431 : Nat)=>True) (y29 14 [11,9,8,7,6,5,4,3,2,1,0]) ?_ (fun K11_454431=>?_)
                ·skip
                 rintro b11o1_454431 _
                 refine WD.new (i:=10) (dd:=27) rfl (by kernel_rfl) rfl rfl rfl (yv (cs:=[(.int .i64 0),(.int .i64 0)]) y9E rfl) (fun h'=>absurd h' (by decide)) ?_
                 intro b10o1_454431 _
                 exact WD.reL (.cons .h1 (.cons .here (.cons .here (.cons .here (.cons .here (.cons .here (.cons .here (.cons .here .nil)))))))) (.cons rfl (.cons rfl (.cons rfl (.cons rfl (.cons rfl (.cons rfl (.cons rfl (.cons rfl (.cons rfl (.cons rfl (.cons rfl (.cons rfl (.cons rfl (.cons rfl (.cons rfl (.cons rfl (.cons rfl (.cons rfl (.cons rfl (.cons rfl (.cons rfl (.cons rfl (.cons rfl .nil))))))))))))))))))))))) (K10o11_454431 b10o1_454431 b11o1_454431 trivial)
                refine WD.choose [10,11] (by kernel_rfl) rfl ?_
                refine WDo.cons ?_ (WDo.cons ?_ (WDo.nil))
                ·refine WDo.new (i:=10) (dd:=27) rfl rfl rfl rfl (yv (cs:=[(.int .i64 0),(.int .i64 0)]) y9E rfl) (fun h'=>absurd h' (by decide)) ?_
                 intro b10o1_454431 _
                 exact WD.reL (.cons .here (.cons .here (.cons .here (.cons .here (.cons .here (.cons .here (.cons .here .nil))))))) (.cons rfl (.cons rfl (.cons rfl (.cons rfl (.cons rfl (.cons rfl (.cons rfl (.cons rfl (.cons rfl (.cons rfl (.cons rfl (.cons rfl (.cons rfl (.cons rfl (.cons rfl (.cons rfl (.cons rfl (.cons rfl (.cons rfl (.cons rfl (.cons rfl (.cons rfl .nil)))))))))))))))))))))) (K10_454431 b10o1_454431 trivial)
                ·refine WDo.new (i:=11) (dd:=28) rfl rfl rfl rfl (yv (cs:=[(.int .i64 0),(.int .i64 0)]) y9E rfl) (fun h'=>absurd h' (by decide)) ?_
                 intro b11o1_454431 _
                 exact WD.reL (.cons .here (.cons .here (.cons .here (.cons .here (.cons .here (.cons .here (.cons .here .nil))))))) (.cons rfl (.cons rfl (.cons rfl (.cons rfl (.cons rfl (.cons rfl (.cons rfl (.cons rfl (.cons rfl (.cons rfl (.cons rfl (.cons rfl (.cons rfl (.cons rfl (.cons rfl (.cons rfl (.cons rfl (.cons rfl (.cons rfl (.cons rfl (.cons rfl (.cons rfl .nil)))))))))))))))))))))) (K11_454431 b11o1_454431 trivial)
               ·rintro zbt zbu zbv h
                replace h:=(zTI zbt zbu zbv).symm.trans h
                refine WC.a (WL.pu rfl (WL.pu rfl (WL.nil ?_)))
                exact WX.round (G:=Nat × Bool × Bool × Int × (List (S60 × Int))) ⟨zxl,zbt,zbu,(i64 (zl + 1)),zbv⟩ h (Nat.lt_succ_self _) (.cons rfl (.cons rfl (.cons rfl (.cons rfl (.cons rfl (.cons rfl (.cons rfl (.cons rfl (.cons rfl (.cons rfl (.cons rfl (.cons rfl (.cons rfl (.cons rfl (.cons rfl (.cons rfl (.cons rfl (.cons rfl .nil)))))))))))))))))) (.cons .here (.cons .here (.cons .here (.cons .here (.cons .here .nil)))))
              ·replace h:=yo h zxP
               refine WC.exit (WX.yf (WX.yf (WX.yz ?_)))
               exact WX.mid (G:=Bool × Bool × (List (S60 × Int))) ⟨z2l,z3I,z1b⟩ h (.cons rfl (.cons rfl (.cons rfl (.cons rfl (.cons rfl (.cons rfl (.cons rfl (.cons rfl (.cons rfl (.cons rfl (.cons rfl (.cons rfl (.cons rfl (.cons rfl .nil)))))))))))))) (.cons .here (.cons .here (.cons .here (.cons .here .nil))))
             ·rintro zbA zbB zbC h
              replace h:=(zTH zbA zbB zbC).symm.trans h
              refine WX.yj ?_
              exact WX.mid (G:=Bool × Bool × (List (S60 × Int))) ⟨zbA,zbB,zbC⟩ h (.cons rfl (.cons rfl (.cons rfl (.cons rfl (.cons rfl (.cons rfl (.cons rfl (.cons rfl (.cons rfl (.cons rfl (.cons rfl (.cons rfl (.cons rfl (.cons rfl .nil)))))))))))))) (.cons .here (.cons .here (.cons .here (.cons .here .nil))))
            ·rintro zbx zby zbz h
             replace h:=(zTE zbx zby zbz).symm.trans h
             refine WC.a (WL.pu rfl (WL.pu rfl (WL.nil ?_)))
             exact WX.round (G:=Nat × Bool × Bool × Int × (List (S60 × Int))) ⟨zxm,zbx,zby,(i64 (zi + 1)),zbz⟩ h (Nat.lt_succ_self _) (.cons rfl (.cons rfl (.cons rfl (.cons rfl (.cons rfl (.cons rfl (.cons rfl (.cons rfl (.cons rfl (.cons rfl (.cons rfl (.cons rfl (.cons rfl (.cons rfl .nil)))))))))))))) (.cons .here (.cons .here (.cons .here (.cons .here .nil))))
           ·replace h:=yo h zxO
            refine WC.exit (WX.yf (WX.yf (WX.yz ?_)))
            exact WX.mid (G:=Bool × Bool × (List (S60 × Int))) ⟨z6O,z6P,z6Q⟩ h (.cons rfl (.cons rfl (.cons rfl (.cons rfl (.cons rfl (.cons rfl (.cons rfl (.cons rfl (.cons rfl (.cons rfl .nil)))))))))) (.cons .here (.cons .here (.cons .here (.cons .here .nil))))
          ·rintro zbH zbI zbJ h
           replace h:=(zTD zbH zbI zbJ).symm.trans h
           refine WX.yj ?_
           exact WX.mid (G:=Bool × Bool × (List (S60 × Int))) ⟨zbH,zbI,zbJ⟩ h (.cons rfl (.cons rfl (.cons rfl (.cons rfl (.cons rfl (.cons rfl (.cons rfl (.cons rfl (.cons rfl (.cons rfl .nil)))))))))) (.cons .here (.cons .here (.cons .here (.cons .here .nil))))
         ·rintro zbE zbF zbG h
          replace h:=(zTA zbE zbF zbG).symm.trans h
          refine WC.a (WL.pu rfl (WL.pu rfl (WL.nil ?_)))
          exact WX.round (G:=Nat × Bool × Bool × Int × (List (S60 × Int))) ⟨zxo,zbE,zbF,(i64 (z8 + 1)),zbG⟩ h (Nat.lt_succ_self _) (.cons rfl (.cons rfl (.cons rfl (.cons rfl (.cons rfl (.cons rfl (.cons rfl (.cons rfl (.cons rfl (.cons rfl .nil)))))))))) (.cons .here (.cons .here (.cons .here (.cons .here .nil))))
        ·replace h:=yo h zxN
         refine WC.exit (WX.yf (WX.yf (WX.yz ?_)))
         exact WX.mid (G:=Bool × Bool × (List (S60 × Int))) ⟨z6R,z6S,z6T⟩ h (.cons rfl (.cons rfl (.cons rfl (.cons rfl (.cons rfl (.cons rfl (.cons rfl .nil))))))) (.cons .here (.cons .here (.cons .here (.cons .here .nil))))
       ·rintro zbO zbP zbQ h
        replace h:=(zTz zbO zbP zbQ).symm.trans h
        refine WX.yj ?_
        exact WX.mid (G:=Bool × Bool × (List (S60 × Int))) ⟨zbO,zbP,zbQ⟩ h (.cons rfl (.cons rfl (.cons rfl (.cons rfl (.cons rfl (.cons rfl (.cons rfl .nil))))))) (.cons .here (.cons .here (.cons .here (.cons .here .nil))))
      ·rintro zbL zbM zbN h
       replace h:=(zTy zbL zbM zbN).symm.trans h
       exact WX.round (G:=Nat × Bool × Bool × (List (S60 × Int))) ⟨zxq,zbL,zbM,zbN⟩ h (Nat.lt_succ_self _) (.cons rfl (.cons rfl (.cons rfl (.cons rfl (.cons rfl (.cons rfl (.cons rfl .nil))))))) (.cons .here (.cons .here (.cons .here (.cons .here .nil))))
     ·replace h:=yo h zxM
      refine WC.exit (WX.yf (WX.yf (WX.yz ?_)))
      exact WX.mid (G:=Bool × (List (S60 × Int))) ⟨z5V,z6U⟩ h (.cons rfl (.cons rfl (.cons rfl (.cons rfl (.cons rfl (.cons rfl .nil)))))) (.cons .here (.cons .here (.cons .here (.cons .here .nil))))
    ·rintro zdZ z9v h
     replace h:=(zTw zdZ z9v).symm.trans h
     refine WC.b (WC.b (WC.a (WL.pu rfl (WL.nil (WX.a ?_)))))
     refine WC.cond rfl (fun zxV=>?_) (fun zxV=>?_)
     ·replace h:=yn h zxV
      refine WC.b ?_
      obtain ⟨zxy,zFt,h⟩:=z7 h
      refine WC.a (WL.pu rfl (WL.pu rfl (WL.pu rfl ?_)))
      refine WL.seg true 3 170 (B:=(decide (ze.2 = 351)) && (decide (((ze.1.length : Nat) : Int) = 0))) rfl rfl rfl rfl rfl rfl (fun h=>(y2b h).symm) (fun _ zTL=>?_) ?_
      ·skip
       refine WL.pu rfl ?_
       refine WL.qA 172 (yE Tryz.underlying35 rfl) ?_
       refine WL.pu rfl (WL.pu rfl ?_)
       exact WL.yC (y2c zTL) rfl rfl .all
      refine WL.pu rfl ?_
      refine WL.y96 (fun (zj9 : Zp)=>Zle (Z ++ []) (Z ++ zj9)) (fun (zj9 : Zp)=>[(177,(.bool zxy))]) (fun (zj9 : Zp)=>[fz zj9,row (.slice zT ze.1.length zU) 58 4 (ze.1.flatMap e58),yr zD (fun x=>Value.agg (e60 x).toArray) (Value.int .i64) zJ,yr zX (fun x=>Value.agg (e60 x).toArray) (Value.int .i64) z9v]) 2 ?_ (fun zj9 z11M=>?_)
      ·rcases Bool.eq_false_or_eq_true ((decide (ze.2 = 351)) && (decide (((ze.1.length : Nat) : Int) = 0))) with hb' | hb'
       ·have zFu:=hb'; clear hb'
        have zm3:=yn zFt zFu
        obtain ⟨zFn,zTM,zm3⟩:=z7 zm3
        replace zm3:=Option.some.inj zm3
        refine WL.pin (i:=175) rfl zFu ?_
        refine WL.y3I (dd:=176) rfl rfl rfl (za (l:=[]) Tryz.call9 .nil) .nil (ccz hz .nil .here fun w pz ho=>y8c _ _ zTM w pz ) ?_
        rintro zTN _
        refine WL.merge .here .here ?_
        refine WL.pu rfl ?_
        exact WL.y4d (G:=Zp) ([] ++ zTN) ((Zle.left _ _).trans (Zle.yu _ _ _)) (.cons (zx zm3) .nil) (.cons .here (.cons .here (.cons .here (.cons .here .nil))))
       ·have zFv:=hb'; clear hb'
        have zxW:=yo zFt zFv
        replace zxW:=Option.some.inj zxW
        refine WL.pin (i:=175) rfl zFv ?_
        refine WL.e rfl rfl rfl (WL.pu rfl ?_)
        exact WL.y4d (G:=Zp) [] (Zle.refl _) (.cons (zx zxW) .nil) (.cons .here (.cons .here (.cons .here (.cons .here .nil))))
      ·skip
       refine WL.pu rfl (WL.nil (WX.a (WC.ret (WX.yd ?_))))
       obtain rfl:=Option.some.inj h
       refine WX.ye Tryz.results4 (.tmp rfl .nil) (fun w hw=>?_)
       exact ⟨zj9,yD rfl,trivial,hw.sub (.cons .here .nil)⟩
     ·replace h:=yo h zxV
      refine WC.skip (WX.a (WC.b (WC.b (WC.a (WL.pu rfl (WL.pu rfl (WL.pu rfl ?_)))))))
      refine WL.seg false 5 180 (B:=(decide (ze.2 ≠ 0)) || (decide (((ze.1.length : Nat) : Int) ≠ ((z9v.length : Nat) : Int)))) rfl rfl rfl rfl rfl rfl (fun h=>(y67 h).symm) (fun _ zTO=>?_) ?_
      ·skip
       refine WL.pu rfl ?_
       refine WL.qA 182 (yE Tryz.underlying35 rfl) ?_
       refine WL.pu rfl ?_
       refine WL.qA 184 (q_lenM Tryz.underlying56 rfl .h3) ?_
       refine WL.pu rfl (WL.pu rfl ?_)
       exact WL.yC (y68 zTO) rfl rfl .all
      refine WL.nil (WX.a ?_)
      refine WC.cond rfl (fun zxX=>?_) (fun zxX=>?_)
      ·replace h:=yn h zxX
       refine WC.b (WC.a (WL.pu rfl (WL.nil (WX.a (WC.ret (WX.yd ?_))))))
       obtain rfl:=Option.some.inj h
       refine WX.ye Tryz.results4 (.tmp rfl .nil) (fun w hw=>?_)
       exact ⟨[],yD rfl,trivial,hw.sub (.cons .here .nil)⟩
      ·replace h:=yo h zxX
       refine WC.skip (WX.a ?_)
       obtain ⟨zbT,zTP,h⟩:=y1u h
       refine WC.y1g ((zbT = some r)) ([]) ([fz []]) ?_ ?_
       ·skip
        refine WC.b (WC.a (WL.pu rfl ?_))
        refine WL.qA 188 (yE Tryz.underlying32 rfl) ?_
        refine WL.pu rfl (WL.nil (WX.a (WC.block ?_)))
        refine WC.y1S (fun (zja : Nat) (zo : Int)=>(y22 z2 zJ zbT zja zo = some r)) (fun zja zo=>[(9,(.map (some zD))),(187,(.slice zM z2.length zN)),(188,(.int .i64 ((z2.length : Nat) : Int))),(189,(.int .i64 zo))]) (fun zja zo=>[fz [],yr zD (fun x=>Value.agg (e60 x).toArray) (Value.int .i64) zJ]) (fun zja zo=>zja) ⟨yB,0⟩ h (.cons rfl (.cons rfl (.cons rfl (.cons rfl .nil)))) (.cons .here (.cons .h1 .nil)) ?_
        rintro zja zo h
        obtain ⟨zxv,rfl⟩:=y86 h
        rw [y22] at h
        refine WC.b (WC.a (WL.pu rfl (WL.nil (WX.a (WC.b ?_)))))
        refine WC.cond rfl (fun zxY=>?_) (fun zxY=>?_)
        ·replace h:=yn h zxY
         refine WC.skip (WX.a ?_)
         obtain ⟨zxw,zTQ,h⟩:=y1u h
         refine WC.y1g ((zxw = some r)) ([(9,(.map (some zD))),(187,(.slice zM z2.length zN)),(188,(.int .i64 ((z2.length : Nat) : Int))),(189,(.int .i64 zo))]) ([fz [],yr zD (fun x=>Value.agg (e60 x).toArray) (Value.int .i64) zJ]) ?_ ?_
         ·skip
          refine WC.block (WC.b ?_)
          obtain ⟨zTR,h⟩:=yq h
          refine WC.a ?_
          refine WL.znth (dd:=191) rfl rfl (Z:=(Z ++ [])) (Pr:=(p48 (Z ++ []))) y6L rfl rfl ((zj1.mono (Zle.left _ _)).weak (fun _ _ h=>y1i (Zle.left _ _) h)) zTR ?_
          rintro z11N z11O zTS z11P ⟨z7F,z7G,rfl,zFw⟩
          refine WL.qA 192 (yc y5e rfl (y48 (hz.pv2 .here) zTS rfl)) ?_
          refine WL.pu rfl (WL.nil (WX.a (WC.b (WC.a (WL.pu rfl ?_)))))
          refine WL.qA 194 (yE Tryz.underlying48 rfl) ?_
          refine WL.pu rfl (WL.nil (WX.a ?_))
          obtain ⟨zbS,zTT,h⟩:=y1u h
          refine WC.yd6 ((zbS = some r)) ([(9,(.map (some zD))),(187,(.slice zM z2.length zN)),(188,(.int .i64 ((z2.length : Nat) : Int))),(189,(.int .i64 zo))]) ([fz [],yr zD (fun x=>Value.agg (e60 x).toArray) (Value.int .i64) zJ]) ?_ ?_
          ·skip
           refine WC.block ?_
           refine WC.y1S (fun (zjb : Nat) (z1j : Int)=>(y21 z2 zo zJ zbS zjb z1j = some r)) (fun zjb z1j=>[(9,(.map (some zD))),(30,(.slice z7F ((nth z2 zo).length) z7G)),(187,(.slice zM z2.length zN)),(188,(.int .i64 ((z2.length : Nat) : Int))),(189,(.int .i64 zo)),(193,(.slice z7F ((nth z2 zo).length) z7G)),(194,(.int .i64 (((nth z2 zo).length : Nat) : Int))),(195,(.int .i64 z1j))]) (fun zjb z1j=>[fz [],yr zD (fun x=>Value.agg (e60 x).toArray) (Value.int .i64) zJ]) (fun zjb z1j=>zjb) ⟨yB,0⟩ h (.cons rfl (.cons rfl (.cons rfl (.cons rfl (.cons rfl (.cons rfl (.cons rfl (.cons rfl .nil)))))))) (.cons .here (.cons .here .nil)) ?_
           rintro zjb z1j h
           obtain ⟨zxt,rfl⟩:=y85 h
           rw [y21] at h
           refine WC.b (WC.a (WL.pu rfl (WL.nil (WX.a (WC.b ?_)))))
           refine WC.cond rfl (fun zxZ=>?_) (fun zxZ=>?_)
           ·replace h:=yn h zxZ
            refine WC.skip (WX.a ?_)
            obtain ⟨zxu,zTU,h⟩:=y1u h
            refine WC.y1g ((zxu = some r)) ([(9,(.map (some zD))),(30,(.slice z7F ((nth z2 zo).length) z7G)),(187,(.slice zM z2.length zN)),(188,(.int .i64 ((z2.length : Nat) : Int))),(189,(.int .i64 zo)),(193,(.slice z7F ((nth z2 zo).length) z7G)),(194,(.int .i64 (((nth z2 zo).length : Nat) : Int))),(195,(.int .i64 z1j))]) ([fz [],yr zD (fun x=>Value.agg (e60 x).toArray) (Value.int .i64) zJ]) ?_ ?_
            ·skip
             refine WC.block (WC.b ?_)
             obtain ⟨zTV,h⟩:=yq h
             refine WC.a ?_
             refine WL.znth (dd:=197) rfl rfl (Z:=(Z ++ [])) (Pr:=(fun r x=>r = e62 x)) y3J rfl rfl zFw zTV ?_
             rintro z11Q z11R zTW z11S rfl
             refine WL.qA 198 (yg y2g rfl (y1A (hz.pv2 .here) zTW) rfl) ?_
             refine WL.nA 32 (yv (cs:=[(.int .i64 0),(.int .i64 0),(.int .i64 0)]) y3E rfl) ?_
             intro zp7 _
             refine WL.ym rfl rfl (yl y3Q rfl rfl rfl .here rfl rfl rfl) ?_
             refine WL.nil (WX.a (WC.b (WC.a (WL.pu rfl ?_))))
             refine WL.qA 200 (yE Tryz.underlying48 rfl) ?_
             refine WL.pu rfl (WL.nil (WX.a ?_))
             obtain ⟨zbR,zTX,h⟩:=y1u h
             refine WC.yd6 ((zbR = some r)) ([(9,(.map (some zD))),(30,(.slice z7F ((nth z2 zo).length) z7G)),(187,(.slice zM z2.length zN)),(188,(.int .i64 ((z2.length : Nat) : Int))),(189,(.int .i64 zo)),(193,(.slice z7F ((nth z2 zo).length) z7G)),(194,(.int .i64 (((nth z2 zo).length : Nat) : Int))),(195,(.int .i64 z1j))]) ([fz [],yr zD (fun x=>Value.agg (e60 x).toArray) (Value.int .i64) zJ]) ?_ ?_
             ·skip
              refine WC.block ?_
              refine WC.y1S (fun (zjc : Nat) (z1K : Int)=>(y20 z2 zo z1j zJ zbR zjc z1K = some r)) (fun zjc z1K=>[(9,(.map (some zD))),(30,(.slice z7F ((nth z2 zo).length) z7G)),(32,(.pointer (some ⟨zp7,0,none⟩))),(187,(.slice zM z2.length zN)),(188,(.int .i64 ((z2.length : Nat) : Int))),(189,(.int .i64 zo)),(193,(.slice z7F ((nth z2 zo).length) z7G)),(194,(.int .i64 (((nth z2 zo).length : Nat) : Int))),(195,(.int .i64 z1j)),(199,(.slice z7F ((nth z2 zo).length) z7G)),(200,(.int .i64 (((nth z2 zo).length : Nat) : Int))),(201,(.int .i64 z1K))]) (fun zjc z1K=>[fz [],yr zD (fun x=>Value.agg (e60 x).toArray) (Value.int .i64) zJ,stb zp7 62 [(.int .i64 ((nth (nth z2 zo) z1j).fNode)),(.int .i64 ((nth (nth z2 zo) z1j).fNext)),(.int .i64 ((nth (nth z2 zo) z1j).fLink))]]) (fun zjc z1K=>zjc) ⟨yB,0⟩ h (.cons rfl (.cons rfl (.cons rfl (.cons rfl (.cons rfl (.cons rfl (.cons rfl (.cons rfl (.cons rfl (.cons rfl (.cons rfl (.cons rfl .nil)))))))))))) (.cons .h1 (.cons .h1 (.cons .here .nil))) ?_
              rintro zjc z1K h
              obtain ⟨zxs,rfl⟩:=y84 h
              rw [y20] at h
              refine WC.b (WC.a (WL.pu rfl (WL.nil (WX.a (WC.b ?_)))))
              refine WC.cond rfl (fun zy0=>?_) (fun zy0=>?_)
              ·replace h:=yn h zy0
               refine WC.skip (WX.a (WC.b (WC.block (WC.b ?_))))
               obtain ⟨zTY,h⟩:=yq h
               refine WC.a ?_
               refine WL.znth (dd:=203) rfl rfl (Z:=(Z ++ [])) (Pr:=(fun r x=>r = e62 x)) y3J rfl rfl zFw zTY ?_
               rintro zTZ z11T zU0 z11U rfl
               refine WL.qA 204 (yg y2g rfl (y1A (hz.pv2 .here) zU0) rfl) ?_
               refine WL.nA 34 (yv (cs:=[(.int .i64 0),(.int .i64 0),(.int .i64 0)]) y3E rfl) ?_
               intro zFx _
               refine WL.ym rfl rfl (yl y3Q rfl rfl rfl .here rfl rfl rfl) ?_
               refine WL.nil (WX.a (WC.b ?_))
               refine WC.yL (fun i=>[].contains i) [] rfl ?_
               refine WD.pA 0 205 rfl (fun _=>ya y4h rfl rfl) ?_
               refine WD.qA 1 206 rfl (yc yt rfl (yk .here rfl)) ?_
               refine WD.pA 2 207 rfl (fun _=>ya y2C rfl rfl) ?_
               refine WD.qA 3 208 rfl (yc yt rfl (yk .h3 rfl)) ?_
               refine WD.pA 4 209 rfl (fun _=>y8e rfl rfl) ?_
               refine WD.pA 5 210 rfl (fun _=>q_m rfl) ?_
               refine WD.mid (fuel':=0) [(9,(.map (some zD))),(30,(.slice z7F ((nth z2 zo).length) z7G)),(32,(.pointer (some ⟨zp7,0,none⟩))),(187,(.slice zM z2.length zN)),(188,(.int .i64 ((z2.length : Nat) : Int))),(189,(.int .i64 zo)),(193,(.slice z7F ((nth z2 zo).length) z7G)),(194,(.int .i64 (((nth z2 zo).length : Nat) : Int))),(195,(.int .i64 z1j)),(199,(.slice z7F ((nth z2 zo).length) z7G)),(200,(.int .i64 (((nth z2 zo).length : Nat) : Int))),(201,(.int .i64 z1K)),(202,(.bool (decide (z1K < (((nth z2 zo).length : Nat) : Int))))),(203,(.pointer (some zTZ))),(204,(.agg #[(.int .i64 ((nth (nth z2 zo) z1K).fNode)),(.int .i64 ((nth (nth z2 zo) z1K).fNext)),(.int .i64 ((nth (nth z2 zo) z1K).fLink))])),(34,(.pointer (some ⟨zFx,0,none⟩))),(205,(.pointer (some ⟨zFx,1,none⟩))),(206,(.int .i64 ((nth (nth z2 zo) z1K).fNext))),(207,(.pointer (some ⟨zp7,0,none⟩))),(208,(.int .i64 ((nth (nth z2 zo) z1j).fNode))),(209,(.bool (decide (((nth (nth z2 zo) z1K).fNext) = ((nth (nth z2 zo) z1j).fNode))))),(210,(.bool (decide (((nth (nth z2 zo) z1K).fNext) = ((nth (nth z2 zo) z1j).fNode))))),(226,(.bool ((decide (((nth (nth z2 zo) z1K).fNext) = ((nth (nth z2 zo) z1j).fNode))) && (decide ((yp zJ (⟨((nth (nth z2 zo) z1K).fNode),((nth (nth z2 zo) z1K).fLink)⟩ : S60) 0) ≥ (yp zJ (⟨((nth (nth z2 zo) z1j).fNode),((nth (nth z2 zo) z1j).fLink)⟩ : S60) 0))))))] (y29 22 [21,20,19,18,17,16,15,14,13,12,11,10,9,8,7,6,5,4,3,2,1,0]) ?_ (fun zFy=>?_)
               rotate_left
               ·rcases Bool.eq_false_or_eq_true (decide (((nth (nth z2 zo) z1K).fNext) = ((nth (nth z2 zo) z1j).fNode))) with hb' | hb'
                ·have zy1:=hb'; clear hb'
                 refine WD.pin (i:=210) rfl zy1 ?_
                 refine WD.pA 6 211 rfl (fun _=>q_m rfl) ?_
                 refine WD.pA 7 212 rfl (fun _=>ya y2C rfl rfl) ?_
                 refine WD.qA 8 213 rfl (yc yt rfl (yk .here rfl)) ?_
                 refine WD.pA 9 214 rfl (fun _=>ya y6n rfl rfl) ?_
                 refine WD.qA 10 215 rfl (yc yt rfl (yk .here rfl)) ?_
                 refine WD.pA 11 216 rfl (fun _=>yI (v:=(.agg #[(.int .i64 ((nth (nth z2 zo) z1K).fNode)),(.int .i64 ((nth (nth z2 zo) z1K).fLink))])) (Eos.parts (l:=[.tmp 213,.tmp 215]) (.cons rfl (.cons rfl .nil)) [0,1]) (fun _=>by kernel_rfl)) ?_
                 refine WD.qA 12 217 rfl (y1J (k:=(⟨((nth (nth z2 zo) z1K).fNode),((nth (nth z2 zo) z1K).fLink)⟩ : S60)) (dflt:=(0 : Int)) y5N Tryz.underlying56 y2D rfl rfl rfl .h2) ?_
                 refine WD.pA 13 218 rfl (fun _=>q_m rfl) ?_
                 refine WD.pA 14 219 rfl (fun _=>ya y2C rfl rfl) ?_
                 refine WD.qA 15 220 rfl (yc yt rfl (yk .h3 rfl)) ?_
                 refine WD.pA 16 221 rfl (fun _=>ya y6n rfl rfl) ?_
                 refine WD.qA 17 222 rfl (yc yt rfl (yk .h3 rfl)) ?_
                 refine WD.pA 18 223 rfl (fun _=>yI (v:=(.agg #[(.int .i64 ((nth (nth z2 zo) z1j).fNode)),(.int .i64 ((nth (nth z2 zo) z1j).fLink))])) (Eos.parts (l:=[.tmp 220,.tmp 222]) (.cons rfl (.cons rfl .nil)) [0,1]) (fun _=>by kernel_rfl)) ?_
                 refine WD.qA 19 224 rfl (y1J (k:=(⟨((nth (nth z2 zo) z1j).fNode),((nth (nth z2 zo) z1j).fLink)⟩ : S60)) (dflt:=(0 : Int)) y5N Tryz.underlying56 y2D rfl rfl rfl .h2) ?_
                 refine WD.pA 20 225 rfl (fun _=>q_geq rfl rfl) ?_
                 refine WD.pA 21 226 rfl (fun _=>y2y rfl rfl) ?_
                 refine WD.reL (.cons .here (.cons .here (.cons .here (.cons .here .nil)))) ?_ zFy
                 exact (.cons rfl (.cons rfl (.cons rfl (.cons rfl (.cons rfl (.cons rfl (.cons rfl (.cons rfl (.cons rfl (.cons rfl (.cons rfl (.cons rfl (.cons rfl (.cons rfl (.cons rfl (.cons rfl (.cons rfl (.cons rfl (.cons rfl (.cons rfl (.cons rfl (.cons (zx (Eq.symm zy1)) (.cons (zx (y2c zy1)) .nil)))))))))))))))))))))))
                ·have zy2:=hb'; clear hb'
                 refine WD.pin (i:=210) rfl zy2 ?_
                 refine WD.kA 6 211 rfl ?_
                 refine WD.kA 7 212 rfl ?_
                 refine WD.kA 8 213 rfl ?_
                 refine WD.kA 9 214 rfl ?_
                 refine WD.kA 10 215 rfl ?_
                 refine WD.kA 11 216 rfl ?_
                 refine WD.kA 12 217 rfl ?_
                 refine WD.kA 13 218 rfl ?_
                 refine WD.kA 14 219 rfl ?_
                 refine WD.kA 15 220 rfl ?_
                 refine WD.kA 16 221 rfl ?_
                 refine WD.kA 17 222 rfl ?_
                 refine WD.kA 18 223 rfl ?_
                 refine WD.kA 19 224 rfl ?_
                 refine WD.kA 20 225 rfl ?_
                 refine WD.pA 21 226 rfl (fun _=>y2z rfl rfl) ?_
                 refine WD.reL (.cons .here (.cons .here (.cons .here (.cons .here .nil)))) ?_ zFy
                 exact (.cons rfl (.cons rfl (.cons rfl (.cons rfl (.cons rfl (.cons rfl (.cons rfl (.cons rfl (.cons rfl (.cons rfl (.cons rfl (.cons rfl (.cons rfl (.cons rfl (.cons rfl (.cons rfl (.cons rfl (.cons rfl (.cons rfl (.cons rfl (.cons rfl (.cons (zx (Eq.symm zy2)) (.cons (zx (y2b zy2)) .nil)))))))))))))))))))))))
               refine WD.done (by kernel_rfl) ?_
               refine WX.a ?_
               refine WC.cond rfl (fun zy3=>?_) (fun zy3=>?_)
               ·replace h:=yn h zy3
                refine WC.b (WC.a (WL.pu rfl (WL.nil (WX.a (WC.ret (WX.ys (WX.yd (WX.yd (WX.ys (WX.yd (WX.ys (WX.yd (WX.yd (WX.ys (WX.yd ?_)))))))))))))))
                refine WX.ys (WX.yd (WX.yd (WX.ys (WX.yd ?_))))
                obtain rfl:=Option.some.inj h
                refine WX.ye Tryz.results4 (.tmp rfl .nil) (fun w hw=>?_)
                exact ⟨[],yD rfl,trivial,hw.sub (.cons .h1 .nil)⟩
               ·replace h:=yo h zy3
                refine WC.skip (WX.yj (WX.a (WC.a (WL.pu rfl (WL.pu rfl (WL.nil ?_))))))
                exact WX.round (G:=Nat × Int) ⟨zxs,(i64 (z1K + 1))⟩ h (Nat.lt_succ_self _) (.cons rfl (.cons rfl (.cons rfl (.cons rfl (.cons rfl (.cons rfl (.cons rfl (.cons rfl (.cons rfl (.cons rfl (.cons rfl (.cons rfl .nil)))))))))))) (.cons .h1 (.cons .h1 (.cons .h1 .nil)))
              ·replace h:=yo h zy0
               refine WC.exit (WX.yf (WX.yf (WX.yz ?_)))
               exact WX.mid (G:=Unit) () h (.cons rfl (.cons rfl (.cons rfl (.cons rfl (.cons rfl (.cons rfl (.cons rfl (.cons rfl .nil)))))))) (.cons .here (.cons .here .nil))
             ·rintro  h
              replace h:=zTX.symm.trans h
              refine WX.yj ?_
              exact WX.mid (G:=Unit) () h (.cons rfl (.cons rfl (.cons rfl (.cons rfl (.cons rfl (.cons rfl (.cons rfl (.cons rfl .nil)))))))) (.cons .here (.cons .here .nil))
            ·rintro  h
             replace h:=zTU.symm.trans h
             refine WC.a (WL.pu rfl (WL.pu rfl (WL.nil ?_)))
             exact WX.round (G:=Nat × Int) ⟨zxt,(i64 (z1j + 1))⟩ h (Nat.lt_succ_self _) (.cons rfl (.cons rfl (.cons rfl (.cons rfl (.cons rfl (.cons rfl (.cons rfl (.cons rfl .nil)))))))) (.cons .here (.cons .here .nil))
           ·replace h:=yo h zxZ
            refine WC.exit (WX.yf (WX.yf (WX.yz ?_)))
            exact WX.mid (G:=Unit) () h (.cons rfl (.cons rfl (.cons rfl (.cons rfl .nil)))) (.cons .here (.cons .here .nil))
          ·rintro  h
           replace h:=zTT.symm.trans h
           refine WX.yj ?_
           exact WX.mid (G:=Unit) () h (.cons rfl (.cons rfl (.cons rfl (.cons rfl .nil)))) (.cons .here (.cons .here .nil))
         ·rintro  h
          replace h:=zTQ.symm.trans h
          refine WC.a (WL.pu rfl (WL.pu rfl (WL.nil ?_)))
          exact WX.round (G:=Nat × Int) ⟨zxv,(i64 (zo + 1))⟩ h (Nat.lt_succ_self _) (.cons rfl (.cons rfl (.cons rfl (.cons rfl .nil)))) (.cons .here (.cons .here .nil))
        ·replace h:=yo h zxY
         refine WC.exit (WX.yf (WX.yf (WX.yz ?_)))
         exact WX.mid (G:=Unit) () h .nil (.cons .here .nil)
       ·rintro  h
        replace h:=zTP.symm.trans h
        refine WC.b ?_
        obtain ⟨zFo,zU1,h⟩:=z7 h
        refine WC.a ?_
        refine WL.y3I (dd:=230) rfl rfl rfl (za (l:=[]) Tryz.call9 .nil) .nil (ccz hz .nil .here fun w pz ho=>y8c _ _ zU1 w pz ) ?_
        rintro zU2 _
        refine WL.merge .here .here ?_
        refine WL.pu rfl (WL.nil (WX.a (WC.ret ?_)))
        obtain rfl:=Option.some.inj h
        refine WX.ye Tryz.results4 (.tmp rfl .nil) (fun w hw=>?_)
        exact ⟨([] ++ zU2),yD rfl,trivial,hw.sub (.cons .here .nil)⟩
end Go.Proofs.YtcahmabkeaijdaaGreat

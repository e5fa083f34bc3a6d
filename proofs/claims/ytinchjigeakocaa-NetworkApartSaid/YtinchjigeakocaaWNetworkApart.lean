/- A part of this claim's proof: models of functions, walks, plain laws. No conditions. -/
import Derived.Test.YtinchjigeakocaaW31ad
namespace Go.Proofs.Ytinchjigeakocaa
open Go Go.RowKit Sep
set_option linter.all false
set_option maxRecDepth 30000
set_option maxHeartbeats 4000000
def y1p (zg : List (List Sapi_Hop)) (zD : Int) (zJ : Int) (z8a : (List (S51 × Int)) → (List (S51 × Int)) → Option Bool) : Nat → Int → (List (S51 × Int)) → (List (S51 × Int)) → Option Bool
 | 0,_,_,_=>none
 | zkm + 1,zP,z2V,z2W=>if decide (zP < (((nth zg zD).length : Nat) : Int)) then jp2 (fun (z8b : List (S51 × Int)) (z8c : List (S51 × Int))=>y1p zg zD zJ z8a zkm (i64 (zP + 1)) z8b z8c) fun zgI=>chk ((0 : Int) ≤ zP ∧ zP < (((nth zg zD).length : Nat) : Int)) (chk ((0 : Int) ≤ zD) (if decide ((bits .and .u16 (zJ / 2 ^ min (zD : Int).toNat 16) 1) = 1) then zgI (yE z2V (⟨((nth (nth zg zD) zP).fNode),((nth (nth zg zD) zP).fLink)⟩ : S51) (i64 ((yp z2V (⟨((nth (nth zg zD) zP).fNode),((nth (nth zg zD) zP).fLink)⟩ : S51) 0) + 1))) z2W else zgI z2V (yE z2W (⟨((nth (nth zg zD) zP).fNode),((nth (nth zg zD) zP).fLink)⟩ : S51) (i64 ((yp z2W (⟨((nth (nth zg zD) zP).fNode),((nth (nth zg zD) zP).fLink)⟩ : S51) 0) + 1))))) else z8a z2V z2W
theorem y4O {n : Nat} {zg : List (List Sapi_Hop)} {zD : Int} {zJ : Int} {z8a : (List (S51 × Int)) → (List (S51 × Int)) → Option Bool} {zP : Int} {z2V : List (S51 × Int)} {z2W : List (S51 × Int)} {r : Bool} (h : y1p zg zD zJ z8a n zP z2V z2W = some r) : ∃ m,n = m + 1:=by
 cases n with
 | zero=>cases h
 | succ m=>exact ⟨m,rfl⟩
def y1C (zg : List (List Sapi_Hop)) (zJ : Int) (z8d : (List (S51 × Int)) → (List (S51 × Int)) → Option Bool) : Nat → Int → (List (S51 × Int)) → (List (S51 × Int)) → Option Bool
 | 0,_,_,_=>none
 | zkn + 1,zD,z4J,z4K=>if decide (zD < ((zg.length : Nat) : Int)) then jp2 (fun (z8e : List (S51 × Int)) (z8f : List (S51 × Int))=>y1C zg zJ z8d zkn (i64 (zD + 1)) z8e z8f) fun zko=>chk ((0 : Int) ≤ zD ∧ zD < ((zg.length : Nat) : Int)) (jp2 (fun (z8g : List (S51 × Int)) (z8h : List (S51 × Int))=>zko z8g z8h) fun z8a=>y1p zg zD zJ z8a ys 0 z4J z4K) else z8d z4J z4K
theorem y50 {n : Nat} {zg : List (List Sapi_Hop)} {zJ : Int} {z8d : (List (S51 × Int)) → (List (S51 × Int)) → Option Bool} {zD : Int} {z4J : List (S51 × Int)} {z4K : List (S51 × Int)} {r : Bool} (h : y1C zg zJ z8d n zD z4J z4K = some r) : ∃ m,n = m + 1:=by
 cases n with
 | zero=>cases h
 | succ m=>exact ⟨m,rfl⟩
def y1q (z8i : Option Bool) (z3U : List (S51 × Int)) : Nat → (List (S51 × Int)) → Option Bool
 | 0,_=>none
 | zkp + 1,z74=>y7R z74 (z8i) (fun (zgJ : S51 × Int) (zkq : List (S51 × Int))=>if decide ((yp z3U zgJ.1 0) > 0) then (y3t).bind fun zp6=>some zp6 else y1q z8i z3U zkp zkq)
theorem y4P {n : Nat} {z8i : Option Bool} {z3U : List (S51 × Int)} {z74 : List (S51 × Int)} {r : Bool} (h : y1q z8i z3U n z74 = some r) : ∃ m,n = m + 1:=by
 cases n with
 | zero=>cases h
 | succ m=>exact ⟨m,rfl⟩
def y1r (zB : List zSt) (zJ : Int) (zS : Int) (z8j : (List zSt) → (List Int) → Option Bool) : Nat → (List zSt) → (List Int) → Int → Option Bool
 | 0,_,_,_=>none
 | zkr + 1,z2D,z2E,z16=>if decide (z16 < ((zB.length : Nat) : Int)) then jp2 (fun (z5R : List zSt) (z5S : List Int)=>y1r zB zJ zS z8j zkr z5R z5S (i64 (z16 + 1))) fun zgK=>chk ((0 : Int) ≤ z16 ∧ z16 < ((zB.length : Nat) : Int)) (chk ((0 : Int) ≤ ((nth zB z16).fVL)) (if decide ((i64 (bits .and .u16 (zJ / 2 ^ min (((nth zB z16).fVL) : Int).toNat 16) 1)) = zS) then chk ((((z2D ++ ([(⟨((nth zB z16).fTime),((nth zB z16).fVL),((nth zB z16).fSize)⟩ : zSt)] : List zSt)).length : Nat) : Int) * 24 ≤ 140737488355328 ∧ (((z2D ++ ([(⟨((nth zB z16).fTime),((nth zB z16).fVL),((nth zB z16).fSize)⟩ : zSt)] : List zSt)).length : Nat) : Int) ≤ 4611686018427387904) (chk ((((z2E ++ ([z16] : List Int)).length : Nat) : Int) * 8 ≤ 140737488355328 ∧ (((z2E ++ ([z16] : List Int)).length : Nat) : Int) ≤ 4611686018427387904) (zgK (z2D ++ ([(⟨((nth zB z16).fTime),((nth zB z16).fVL),((nth zB z16).fSize)⟩ : zSt)] : List zSt)) (z2E ++ ([z16] : List Int)))) else zgK z2D z2E)) else z8j z2D z2E
theorem y4Q {n : Nat} {zB : List zSt} {zJ : Int} {zS : Int} {z8j : (List zSt) → (List Int) → Option Bool} {z2D : List zSt} {z2E : List Int} {z16 : Int} {r : Bool} (h : y1r zB zJ zS z8j n z2D z2E z16 = some r) : ∃ m,n = m + 1:=by
 cases n with
 | zero=>cases h
 | succ m=>exact ⟨m,rfl⟩
def y1s (zi : List S67) (zp : Int) (zB : List zSt) (zJ : Int) (zS : Int) (z8k : (List Sapi_Come) → Option Bool) : Nat → (List Sapi_Come) → Int → Option Bool
 | 0,_,_=>none
 | zks + 1,z2F,z1d=>if decide (z1d < ((((nth zi zp).fAll).length : Nat) : Int)) then jp1 (fun (z5T : List Sapi_Come)=>y1s zi zp zB zJ zS z8k zks z5T (i64 (z1d + 1))) fun zgL=>chk ((0 : Int) ≤ z1d ∧ z1d < ((((nth zi zp).fAll).length : Nat) : Int)) (chk ((0 : Int) ≤ ((nth ((nth zi zp).fAll) z1d).fSent) ∧ ((nth ((nth zi zp).fAll) z1d).fSent) < ((zB.length : Nat) : Int)) (chk ((0 : Int) ≤ ((nth zB ((nth ((nth zi zp).fAll) z1d).fSent)).fVL)) (if decide ((i64 (bits .and .u16 (zJ / 2 ^ min (((nth zB ((nth ((nth zi zp).fAll) z1d).fSent)).fVL) : Int).toNat 16) 1)) = zS) then chk ((((z2F ++ ([(⟨((nth ((nth zi zp).fAll) z1d).fSent),((nth ((nth zi zp).fAll) z1d).fNode),((nth ((nth zi zp).fAll) z1d).fTime)⟩ : Sapi_Come)] : List Sapi_Come)).length : Nat) : Int) * 24 ≤ 140737488355328 ∧ (((z2F ++ ([(⟨((nth ((nth zi zp).fAll) z1d).fSent),((nth ((nth zi zp).fAll) z1d).fNode),((nth ((nth zi zp).fAll) z1d).fTime)⟩ : Sapi_Come)] : List Sapi_Come)).length : Nat) : Int) ≤ 4611686018427387904) (zgL (z2F ++ ([(⟨((nth ((nth zi zp).fAll) z1d).fSent),((nth ((nth zi zp).fAll) z1d).fNode),((nth ((nth zi zp).fAll) z1d).fTime)⟩ : Sapi_Come)] : List Sapi_Come))) else zgL z2F))) else z8k z2F
theorem y4R {n : Nat} {zi : List S67} {zp : Int} {zB : List zSt} {zJ : Int} {zS : Int} {z8k : (List Sapi_Come) → Option Bool} {z2F : List Sapi_Come} {z1d : Int} {r : Bool} (h : y1s zi zp zB zJ zS z8k n z2F z1d = some r) : ∃ m,n = m + 1:=by
 cases n with
 | zero=>cases h
 | succ m=>exact ⟨m,rfl⟩
def y1t (zi : List S67) (zp : Int) (zT : List Int) (z8l : (List Sapi_Come) → Option Bool) : Nat → (List Sapi_Come) → Int → Option Bool
 | 0,_,_=>none
 | zkt + 1,z3b,z13=>if decide (z13 < ((((nth zi zp).fOwn).length : Nat) : Int)) then chk ((0 : Int) ≤ z13 ∧ z13 < ((((nth zi zp).fOwn).length : Nat) : Int)) (if (decide (((nth ((nth zi zp).fOwn) z13).fSent) < 0)) || (decide (((nth ((nth zi zp).fOwn) z13).fSent) ≥ ((zT.length : Nat) : Int))) then some false else chk ((0 : Int) ≤ ((nth ((nth zi zp).fOwn) z13).fSent) ∧ ((nth ((nth zi zp).fOwn) z13).fSent) < ((zT.length : Nat) : Int)) (chk ((((z3b ++ ([(⟨(nth zT ((nth ((nth zi zp).fOwn) z13).fSent)),((nth ((nth zi zp).fOwn) z13).fNode),((nth ((nth zi zp).fOwn) z13).fTime)⟩ : Sapi_Come)] : List Sapi_Come)).length : Nat) : Int) * 24 ≤ 140737488355328 ∧ (((z3b ++ ([(⟨(nth zT ((nth ((nth zi zp).fOwn) z13).fSent)),((nth ((nth zi zp).fOwn) z13).fNode),((nth ((nth zi zp).fOwn) z13).fTime)⟩ : Sapi_Come)] : List Sapi_Come)).length : Nat) : Int) ≤ 4611686018427387904) (y1t zi zp zT z8l zkt (z3b ++ ([(⟨(nth zT ((nth ((nth zi zp).fOwn) z13).fSent)),((nth ((nth zi zp).fOwn) z13).fNode),((nth ((nth zi zp).fOwn) z13).fTime)⟩ : Sapi_Come)] : List Sapi_Come)) (i64 (z13 + 1))))) else z8l z3b
theorem y4S {n : Nat} {zi : List S67} {zp : Int} {zT : List Int} {z8l : (List Sapi_Come) → Option Bool} {z3b : List Sapi_Come} {z13 : Int} {r : Bool} (h : y1t zi zp zT z8l n z3b z13 = some r) : ∃ m,n = m + 1:=by
 cases n with
 | zero=>cases h
 | succ m=>exact ⟨m,rfl⟩
def y1u (zZ : List Sapi_Come) (z14 : List Sapi_Come × List Sapi_Come × Int) (z10 : List Sapi_Come) (zT : List Int) (zB : List zSt) (zJ : Int) (zS : Int) (z8m : Option Bool) : Nat → (List S67) → Int → Option Bool
 | 0,_,_=>none
 | zku + 1,zi,zp=>if decide (zp < ((([(⟨zZ,z14.1⟩ : S67),(⟨z10,z14.2.1⟩ : S67)] : List S67).length : Nat) : Int)) then jp0 (y1u zZ z14 z10 zT zB zJ zS z8m zku zi (i64 (zp + 1))) fun zkv=>chk ((0 : Int) ≤ zp ∧ zp < ((zi.length : Nat) : Int)) (jp1 (fun (z3I : List Sapi_Come)=>jp1 (fun (z75 : List Sapi_Come)=>(y3l z3I z75).bind fun zp7=>if !zp7 then some false else zkv) fun z8l=>y1t zi zp zT z8l ys ([] : List Sapi_Come) 0) fun z8k=>y1s zi zp zB zJ zS z8k ys ([] : List Sapi_Come) 0) else z8m
theorem y4T {n : Nat} {zZ : List Sapi_Come} {z14 : List Sapi_Come × List Sapi_Come × Int} {z10 : List Sapi_Come} {zT : List Int} {zB : List zSt} {zJ : Int} {zS : Int} {z8m : Option Bool} {zi : List S67} {zp : Int} {r : Bool} (h : y1u zZ z14 z10 zT zB zJ zS z8m n zi zp = some r) : ∃ m,n = m + 1:=by
 cases n with
 | zero=>cases h
 | succ m=>exact ⟨m,rfl⟩
def y1v (z4 : Sapi_Config) (z1h : Int) (zg : List (List Sapi_Hop)) (zB : List zSt) (zJ : Int) (z8n : Option Bool) : Nat → (List Sapi_Come) → (List Sapi_Come) → Int → Option Bool
 | 0,_,_,_=>none
 | zkw + 1,zZ,z10,zS=>if decide (zS < 2) then jp0 (y1v z4 z1h zg zB zJ z8n zkw zZ z10 (i64 (zS + 1))) fun zkx=>jp2 (fun (z76 : List zSt) (zT : List Int)=>(y2H z4 z1h zg z76).bind fun z14=>if decide (z14.2.2 ≠ 0) then some false else jp0 (zkx) fun z8m=>y1u zZ z14 z10 zT zB zJ zS z8m ys ([(⟨zZ,z14.1⟩ : S67),(⟨z10,z14.2.1⟩ : S67)] : List S67) 0) fun z8j=>y1r zB zJ zS z8j ys ([] : List zSt) ([] : List Int) 0 else z8n
theorem y4U {n : Nat} {z4 : Sapi_Config} {z1h : Int} {zg : List (List Sapi_Hop)} {zB : List zSt} {zJ : Int} {z8n : Option Bool} {zZ : List Sapi_Come} {z10 : List Sapi_Come} {zS : Int} {r : Bool} (h : y1v z4 z1h zg zB zJ z8n n zZ z10 zS = some r) : ∃ m,n = m + 1:=by
 cases n with
 | zero=>cases h
 | succ m=>exact ⟨m,rfl⟩
def y35 (z4 : Sapi_Config) (z1h : Int) (zg : List (List Sapi_Hop)) (zB : List zSt) (zJ : Int) : Option Bool :=
 (y4l z4 z1h zg zB).bind fun zp8=>if !zp8 then (y3t).bind fun zp9=>some zp9 else jp2 (fun (z77 : List (S51 × Int)) (z3U : List (S51 × Int))=>jp0 ((y2H z4 z1h zg zB).bind fun z8X=>if decide (z8X.2.2 ≠ 0) then some false else jp0 ((y3t).bind fun zpa=>some zpa) fun z8n=>y1v z4 z1h zg zB zJ z8n ys z8X.1 z8X.2.1 0) fun z8i=>y1q z8i z3U ys z77) fun z8d=>y1C zg zJ z8d ys 0 ([] : List (S51 × Int)) ([] : List (S51 × Int))
set_option maxRecDepth 20000 in
theorem y6J (Z : Zp) (z1K : Option Addr) (z1L : Nat) (z1M : Option Addr) (z1N : Nat) (z1O : Option Addr) (z1P : Nat) (z1Q : Option Addr) (z1R : Nat) (z1S : Option Addr) (z1T : Nat) (z1U : Option Addr) (z1V : Nat) (z1W : Option Addr) (z1X : Nat) (z1Y : Option Addr) (z1Z : Nat) (z1t : Option Addr) (z1u : Nat) (z1G : Option Addr) (z1H : Nat) (z4 : Sapi_Config) (z1h : Int) (zg : List (List Sapi_Hop)) (zB : List zSt) (zJ : Int) (r : Bool)
  (h : y35 z4 z1h zg zB zJ = some r) (w₀ : World) (hz : PZ [] w₀ Z)
  (zky : ZS Z 4 (y2I Z) z1K z1L z4.fModules)
  (zkz : ZS Z 4 (y31 Z) z1M z1N z4.fChannels)
  (zkA : ZS Z 4 (fun r x=>r = e64 x) z1O z1P z4.fSwitches)
  (zkB : ZS Z 4 (fun r x=>r = e62 x) z1Q z1R z4.fLinks)
  (zkC : ZS Z 7 (y2S Z) z1S z1T z4.fVLs)
  (zkD : ZS Z 5 (fun r x=>r = y3g x) z1U z1V z4.fHealth)
  (zkE : ZS Z 3 (y32 Z) z1W z1X z4.fCauses)
  (zkF : ZS Z 4 (fun r x=>r = y3h x) z1Y z1Z z4.fVersions)
  (zgM : ZS Z 1 (p55 Z) z1t z1u zg)
  (zgN : ZS Z 3 (fun r x=>r = e53 x) z1G z1H zB) :
  Calls Try.prog 6 #[(.agg #[(.slice z1K z4.fModules.length z1L),(.slice z1M z4.fChannels.length z1N),(.slice z1O z4.fSwitches.length z1P),(.slice z1Q z4.fLinks.length z1R),(.slice z1S z4.fVLs.length z1T),(.slice z1U z4.fHealth.length z1V),(.slice z1W z4.fCauses.length z1X),(.slice z1Y z4.fVersions.length z1Z)]),(.int .i64 z1h),(.slice z1t zg.length z1u),(.slice z1G zB.length z1H),(.int .u16 zJ)] w₀ fun e w'=>∃ Zn : Zp,e = .returned (.bool r) ∧ True ∧ Hp [] w₀ w' [fz Zn]:=by
 unfold y35 at h
 refine Calls.yo (vs:=[(.agg #[(.slice z1K z4.fModules.length z1L),(.slice z1M z4.fChannels.length z1N),(.slice z1O z4.fSwitches.length z1P),(.slice z1Q z4.fLinks.length z1R),(.slice z1S z4.fVLs.length z1T),(.slice z1U z4.fHealth.length z1V),(.slice z1W z4.fCauses.length z1X),(.slice z1Y z4.fVersions.length z1Z)]),(.int .i64 z1h),(.slice z1t zg.length z1u),(.slice z1G zB.length z1H),(.int .u16 zJ)]) (pre:=[]) (env:=[(0,(.agg #[(.slice z1K z4.fModules.length z1L),(.slice z1M z4.fChannels.length z1N),(.slice z1O z4.fSwitches.length z1P),(.slice z1Q z4.fLinks.length z1R),(.slice z1S z4.fVLs.length z1T),(.slice z1U z4.fHealth.length z1V),(.slice z1W z4.fCauses.length z1X),(.slice z1Y z4.fVersions.length z1Z)])),(1,(.int .i64 z1h)),(2,(.slice z1t zg.length z1u)),(3,(.slice z1G zB.length z1H)),(4,(.int .u16 zJ))]) Try.func6 rfl Try.ntmps6 rfl (Hp.nil w₀ _) rfl ?_
 refine WC.pool (WC.b (WC.a ?_))
 refine WL.new (dd:=5) rfl rfl rfl (y2p (cs:=[(.slice z1K z4.fModules.length z1L),(.slice z1M z4.fChannels.length z1N),(.slice z1O z4.fSwitches.length z1P),(.slice z1Q z4.fLinks.length z1R),(.slice z1S z4.fVLs.length z1T),(.slice z1U z4.fHealth.length z1V),(.slice z1W z4.fCauses.length z1X),(.slice z1Y z4.fVersions.length z1Z)]) rfl rfl) ?_
 intro z15 _
 refine WL.pu rfl (WL.nil (WX.a (WC.b (WC.b ?_))))
 obtain ⟨zp8,zvk,h⟩:=zn h
 refine WC.a ?_
 refine WL.a (d:=37) rfl rfl rfl (yD y1N rfl (y1h .here) rfl) ?_
 refine WL.pu rfl (WL.pu rfl (WL.pu rfl ?_))
 refine WL.b (dd:=41) rfl rfl rfl (zE (l:=[.tmp 37,.tmp 38,.tmp 39,.tmp 40]) Try.call20 (.cons rfl (.cons rfl (.cons rfl (.cons rfl .nil))))) .nil (ccz hz .nil .h1 fun w pz ho=>y9f _ _ _ _ _ _ _ _ _ _ _ _ _ _ _ _ _ _ _ _ _ _ _ _ _ _ zvk w pz ((zky.mono (Zle.left _ _)).weak (fun _ _ h=>y23 (Zle.left _ _) h)) ((zkz.mono (Zle.left _ _)).weak (fun _ _ h=>y2c (Zle.left _ _) h)) (zkA.mono (Zle.left _ _)) (zkB.mono (Zle.left _ _)) ((zkC.mono (Zle.left _ _)).weak (fun _ _ h=>y24 (Zle.left _ _) h)) (zkD.mono (Zle.left _ _)) ((zkE.mono (Zle.left _ _)).weak (fun _ _ h=>y2d (Zle.left _ _) h)) (zkF.mono (Zle.left _ _)) ((zgM.mono (Zle.left _ _)).weak (fun _ _ h=>y3A (Zle.left _ _) h)) (zgN.mono (Zle.left _ _))) ?_
 refine WL.pu rfl (WL.nil (WX.a ?_))
 refine WC.cond rfl (fun zkG=>?_) (fun zkG=>?_)
 ·replace h:=yk h zkG
  refine WC.b ?_
  obtain ⟨zp9,zvl,h⟩:=zn h
  refine WC.a ?_
  refine WL.y6V (dd:=43) rfl rfl rfl (zE (l:=[]) Try.call11 .nil) .nil (ccz hz .nil .h1 fun w pz ho=>y5a _ _ zvl w pz ) ?_
  rintro zvm _
  refine WL.merge .here .h1 ?_
  refine WL.pu rfl (WL.nil (WX.a (WC.ret (WX.ye ?_))))
  obtain rfl:=Option.some.inj h
  refine WX.yj Try.results6 (.tmp rfl .nil) (fun w hw=>?_)
  exact ⟨([] ++ zvm),y10 rfl,trivial,hw.sub (.cons .here .nil)⟩
 ·replace h:=yl h zkG
  refine WC.skip (WX.a (WC.b (WC.a ?_)))
  refine WL.new (dd:=44) rfl rfl rfl (y5M (fun x=>Value.agg (e51 x).toArray) (Value.int .i64)) ?_
  intro z4b _
  refine WL.new (dd:=45) rfl rfl rfl (y5M (fun x=>Value.agg (e51 x).toArray) (Value.int .i64)) ?_
  intro z3V _
  refine WL.pu rfl (WL.pu rfl (WL.nil (WX.a ?_)))
  obtain ⟨z8d,zvn,h⟩:=y2i h
  refine WC.y2q (fun (z77 : List (S51 × Int)) (z3U : List (S51 × Int))=>(z8d z77 z3U = some r)) (fun (z77 : List (S51 × Int)) (z3U : List (S51 × Int))=>[(1,(.int .i64 z1h)),(2,(.slice z1t zg.length z1u)),(3,(.slice z1G zB.length z1H)),(4,(.int .u16 zJ)),(5,(.pointer (some ⟨z15,0,none⟩))),(11,(.map (some z4b))),(12,(.map (some z3V)))]) (fun (z77 : List (S51 × Int)) (z3U : List (S51 × Int))=>[fz [],stb z15 31 [(.slice z1K z4.fModules.length z1L),(.slice z1M z4.fChannels.length z1N),(.slice z1O z4.fSwitches.length z1P),(.slice z1Q z4.fLinks.length z1R),(.slice z1S z4.fVLs.length z1T),(.slice z1U z4.fHealth.length z1V),(.slice z1W z4.fCauses.length z1X),(.slice z1Y z4.fVersions.length z1Z)],yI z4b (fun x=>Value.agg (e51 x).toArray) (Value.int .i64) z77,yI z3V (fun x=>Value.agg (e51 x).toArray) (Value.int .i64) z3U]) ?_ ?_
  ·skip
   refine WC.b (WC.a (WL.pu rfl ?_))
   refine WL.a (d:=47) rfl rfl rfl (yZ Try.underlying32 rfl) ?_
   refine WL.pu rfl (WL.nil (WX.a (WC.block ?_)))
   refine WC.y4C (fun (zcd : Nat) (zD : Int) (z4J : List (S51 × Int)) (z4K : List (S51 × Int))=>(y1C zg zJ z8d zcd zD z4J z4K = some r)) (fun (zcd : Nat) (zD : Int) (z4J : List (S51 × Int)) (z4K : List (S51 × Int))=>[(1,(.int .i64 z1h)),(2,(.slice z1t zg.length z1u)),(3,(.slice z1G zB.length z1H)),(4,(.int .u16 zJ)),(5,(.pointer (some ⟨z15,0,none⟩))),(11,(.map (some z4b))),(12,(.map (some z3V))),(46,(.slice z1t zg.length z1u)),(47,(.int .i64 ((zg.length : Nat) : Int))),(48,(.int .i64 zD))]) (fun (zcd : Nat) (zD : Int) (z4J : List (S51 × Int)) (z4K : List (S51 × Int))=>[fz [],stb z15 31 [(.slice z1K z4.fModules.length z1L),(.slice z1M z4.fChannels.length z1N),(.slice z1O z4.fSwitches.length z1P),(.slice z1Q z4.fLinks.length z1R),(.slice z1S z4.fVLs.length z1T),(.slice z1U z4.fHealth.length z1V),(.slice z1W z4.fCauses.length z1X),(.slice z1Y z4.fVersions.length z1Z)],yI z4b (fun x=>Value.agg (e51 x).toArray) (Value.int .i64) z4J,yI z3V (fun x=>Value.agg (e51 x).toArray) (Value.int .i64) z4K]) (fun (zcd : Nat) (zD : Int) (z4J : List (S51 × Int)) (z4K : List (S51 × Int))=>zcd) ⟨ys,0,([] : List (S51 × Int)),([] : List (S51 × Int))⟩ h (.cons rfl (.cons rfl (.cons rfl (.cons rfl (.cons rfl (.cons rfl (.cons rfl (.cons rfl (.cons rfl (.cons rfl .nil)))))))))) (.cons .h3 (.cons .h2 (.cons .h1 (.cons .here .nil)))) ?_
   rintro zcd zD z4J z4K h
   obtain ⟨zkn,rfl⟩:=y50 h
   rw [y1C] at h
   refine WC.b (WC.a (WL.pu rfl (WL.nil (WX.a (WC.b ?_)))))
   refine WC.cond rfl (fun zkH=>?_) (fun zkH=>?_)
   ·replace h:=yk h zkH
    refine WC.skip (WX.a ?_)
    obtain ⟨zko,zvo,h⟩:=y2i h
    refine WC.y2q (fun (z8e : List (S51 × Int)) (z8f : List (S51 × Int))=>(zko z8e z8f = some r)) (fun (z8e : List (S51 × Int)) (z8f : List (S51 × Int))=>[(1,(.int .i64 z1h)),(2,(.slice z1t zg.length z1u)),(3,(.slice z1G zB.length z1H)),(4,(.int .u16 zJ)),(5,(.pointer (some ⟨z15,0,none⟩))),(11,(.map (some z4b))),(12,(.map (some z3V))),(46,(.slice z1t zg.length z1u)),(47,(.int .i64 ((zg.length : Nat) : Int))),(48,(.int .i64 zD))]) (fun (z8e : List (S51 × Int)) (z8f : List (S51 × Int))=>[fz [],stb z15 31 [(.slice z1K z4.fModules.length z1L),(.slice z1M z4.fChannels.length z1N),(.slice z1O z4.fSwitches.length z1P),(.slice z1Q z4.fLinks.length z1R),(.slice z1S z4.fVLs.length z1T),(.slice z1U z4.fHealth.length z1V),(.slice z1W z4.fCauses.length z1X),(.slice z1Y z4.fVersions.length z1Z)],yI z4b (fun x=>Value.agg (e51 x).toArray) (Value.int .i64) z8e,yI z3V (fun x=>Value.agg (e51 x).toArray) (Value.int .i64) z8f]) ?_ ?_
    ·skip
     refine WC.block (WC.b ?_)
     obtain ⟨zvp,h⟩:=yi h
     refine WC.a (WL.pu rfl ?_)
     refine WL.znth (dd:=51) rfl rfl (Z:=(Z ++ [])) (Pr:=(p55 (Z ++ []))) y65 rfl rfl ((zgM.mono (Zle.left _ _)).weak (fun _ _ h=>y3A (Zle.left _ _) h)) zvp ?_
     rintro zzU zzV zvq zzW ⟨zpb,zpc,rfl,zvr⟩
     refine WL.a (d:=52) rfl rfl rfl (yb y66 rfl (rd_z (hz.pv2 .here) zvq rfl)) ?_
     refine WL.pu rfl (WL.pu rfl (WL.nil (WX.a (WC.b (WC.a (WL.pu rfl ?_))))))
     refine WL.a (d:=54) rfl rfl rfl (yZ Try.underlying55 rfl) ?_
     refine WL.pu rfl (WL.nil (WX.a ?_))
     obtain ⟨z8a,zvs,h⟩:=y2i h
     refine WC.mid2 (fun (z8g : List (S51 × Int)) (z8h : List (S51 × Int))=>(z8a z8g z8h = some r)) (fun (z8g : List (S51 × Int)) (z8h : List (S51 × Int))=>[(1,(.int .i64 z1h)),(2,(.slice z1t zg.length z1u)),(3,(.slice z1G zB.length z1H)),(4,(.int .u16 zJ)),(5,(.pointer (some ⟨z15,0,none⟩))),(11,(.map (some z4b))),(12,(.map (some z3V))),(46,(.slice z1t zg.length z1u)),(47,(.int .i64 ((zg.length : Nat) : Int))),(48,(.int .i64 zD))]) (fun (z8g : List (S51 × Int)) (z8h : List (S51 × Int))=>[fz [],stb z15 31 [(.slice z1K z4.fModules.length z1L),(.slice z1M z4.fChannels.length z1N),(.slice z1O z4.fSwitches.length z1P),(.slice z1Q z4.fLinks.length z1R),(.slice z1S z4.fVLs.length z1T),(.slice z1U z4.fHealth.length z1V),(.slice z1W z4.fCauses.length z1X),(.slice z1Y z4.fVersions.length z1Z)],yI z4b (fun x=>Value.agg (e51 x).toArray) (Value.int .i64) z8g,yI z3V (fun x=>Value.agg (e51 x).toArray) (Value.int .i64) z8h]) ?_ ?_
     ·skip
      refine WC.block ?_
      refine WC.y4C (fun (zce : Nat) (zP : Int) (z2V : List (S51 × Int)) (z2W : List (S51 × Int))=>(y1p zg zD zJ z8a zce zP z2V z2W = some r)) (fun (zce : Nat) (zP : Int) (z2V : List (S51 × Int)) (z2W : List (S51 × Int))=>[(1,(.int .i64 z1h)),(2,(.slice z1t zg.length z1u)),(3,(.slice z1G zB.length z1H)),(4,(.int .u16 zJ)),(5,(.pointer (some ⟨z15,0,none⟩))),(11,(.map (some z4b))),(12,(.map (some z3V))),(13,(.int .i64 zD)),(46,(.slice z1t zg.length z1u)),(47,(.int .i64 ((zg.length : Nat) : Int))),(48,(.int .i64 zD)),(53,(.slice zpb ((nth zg zD).length) zpc)),(54,(.int .i64 (((nth zg zD).length : Nat) : Int))),(55,(.int .i64 zP))]) (fun (zce : Nat) (zP : Int) (z2V : List (S51 × Int)) (z2W : List (S51 × Int))=>[fz [],stb z15 31 [(.slice z1K z4.fModules.length z1L),(.slice z1M z4.fChannels.length z1N),(.slice z1O z4.fSwitches.length z1P),(.slice z1Q z4.fLinks.length z1R),(.slice z1S z4.fVLs.length z1T),(.slice z1U z4.fHealth.length z1V),(.slice z1W z4.fCauses.length z1X),(.slice z1Y z4.fVersions.length z1Z)],yI z4b (fun x=>Value.agg (e51 x).toArray) (Value.int .i64) z2V,yI z3V (fun x=>Value.agg (e51 x).toArray) (Value.int .i64) z2W]) (fun (zce : Nat) (zP : Int) (z2V : List (S51 × Int)) (z2W : List (S51 × Int))=>zce) ⟨ys,0,z4J,z4K⟩ h (.cons rfl (.cons rfl (.cons rfl (.cons rfl (.cons rfl (.cons rfl (.cons rfl (.cons rfl (.cons rfl (.cons rfl (.cons rfl (.cons rfl (.cons rfl (.cons rfl .nil)))))))))))))) (.cons .here (.cons .here (.cons .here (.cons .here .nil)))) ?_
      rintro zce zP z2V z2W h
      obtain ⟨zkm,rfl⟩:=y4O h
      rw [y1p] at h
      refine WC.b (WC.a (WL.pu rfl (WL.nil (WX.a (WC.b ?_)))))
      refine WC.cond rfl (fun zkI=>?_) (fun zkI=>?_)
      ·replace h:=yk h zkI
       refine WC.skip (WX.a ?_)
       obtain ⟨zgI,zvt,h⟩:=y2i h
       refine WC.y2q (fun (z8b : List (S51 × Int)) (z8c : List (S51 × Int))=>(zgI z8b z8c = some r)) (fun (z8b : List (S51 × Int)) (z8c : List (S51 × Int))=>[(1,(.int .i64 z1h)),(2,(.slice z1t zg.length z1u)),(3,(.slice z1G zB.length z1H)),(4,(.int .u16 zJ)),(5,(.pointer (some ⟨z15,0,none⟩))),(11,(.map (some z4b))),(12,(.map (some z3V))),(13,(.int .i64 zD)),(46,(.slice z1t zg.length z1u)),(47,(.int .i64 ((zg.length : Nat) : Int))),(48,(.int .i64 zD)),(53,(.slice zpb ((nth zg zD).length) zpc)),(54,(.int .i64 (((nth zg zD).length : Nat) : Int))),(55,(.int .i64 zP))]) (fun (z8b : List (S51 × Int)) (z8c : List (S51 × Int))=>[fz [],stb z15 31 [(.slice z1K z4.fModules.length z1L),(.slice z1M z4.fChannels.length z1N),(.slice z1O z4.fSwitches.length z1P),(.slice z1Q z4.fLinks.length z1R),(.slice z1S z4.fVLs.length z1T),(.slice z1U z4.fHealth.length z1V),(.slice z1W z4.fCauses.length z1X),(.slice z1Y z4.fVersions.length z1Z)],yI z4b (fun x=>Value.agg (e51 x).toArray) (Value.int .i64) z8b,yI z3V (fun x=>Value.agg (e51 x).toArray) (Value.int .i64) z8c]) ?_ ?_
       ·skip
        refine WC.block (WC.b ?_)
        obtain ⟨zvu,h⟩:=yi h
        refine WC.a ?_
        refine WL.znth (dd:=57) rfl rfl (Z:=(Z ++ [])) (Pr:=(fun r x=>r = e59 x)) y67 rfl rfl zvr zvu ?_
        rintro zzX zzY zvv zzZ rfl
        refine WL.a (d:=58) rfl rfl rfl (yD y68 rfl (y3p (hz.pv2 .here) zvv) rfl) ?_
        refine WL.new (dd:=16) rfl rfl rfl (y1Y (cs:=[(.int .i64 0),(.int .i64 0),(.int .i64 0)]) y7w rfl) ?_
        intro zA0 _
        refine WL.y1g rfl rfl (y1A y8e rfl rfl rfl .here rfl rfl rfl) ?_
        refine WL.nil (WX.a (WC.b ?_))
        obtain ⟨zvw,h⟩:=yi h
        refine WC.a (WL.pu rfl (WL.pu rfl ?_))
        refine WL.a (d:=61) rfl rfl rfl (y6o rfl rfl zvw rfl) ?_
        refine WL.a (d:=62) rfl rfl rfl (q_and rfl rfl rfl) ?_
        refine WL.pu rfl (WL.nil (WX.a ?_))
        refine WC.cond rfl (fun zkJ=>?_) (fun zkJ=>?_)
        ·replace h:=yk h zkJ
         refine WC.y12 (fun i=>[8,10].contains i) [y7Q z4b (fun x=>Value.agg (e51 x).toArray) (Value.int .i64) (⟨((nth (nth zg zD) zP).fNode),((nth (nth zg zD) zP).fLink)⟩ : S51) (0 : Int) (yp z2V (⟨((nth (nth zg zD) zP).fNode),((nth (nth zg zD) zP).fLink)⟩ : S51) 0)] rfl ?_
         refine WD.a (i:=0) (d:=64) (by kernel_rfl) rfl z2 z3 rfl rfl rfl (fun _=>q_m rfl) ?_
         refine WD.a (i:=1) (d:=65) (by kernel_rfl) rfl z2 z3 rfl rfl rfl (fun _=>ya y39 rfl rfl) ?_
         refine WD.e (i:=2) (d:=66) (by kernel_rfl) rfl z2 z3 rfl rfl rfl (yb yh rfl (yd .here rfl)) ?_
         refine WD.a (i:=3) (d:=67) (by kernel_rfl) rfl z2 z3 rfl rfl rfl (fun _=>ya y5k rfl rfl) ?_
         refine WD.e (i:=4) (d:=68) (by kernel_rfl) rfl z2 z3 rfl rfl rfl (yb yh rfl (yd .here rfl)) ?_
         refine WD.a (i:=5) (d:=69) (by kernel_rfl) rfl z2 z3 rfl rfl rfl (fun _=>y1l (v:=(.agg #[(.int .i64 ((nth (nth zg zD) zP).fNode)),(.int .i64 ((nth (nth zg zD) zP).fLink))])) (Eos.parts (l:=[.tmp 66,.tmp 68]) (.cons rfl (.cons rfl .nil)) [0,1]) (fun _=>by kernel_rfl)) ?_
         refine WD.stable (i:=6) (d:=70) (by kernel_rfl) rfl z2 z3 rfl rfl rfl (Sin.wk (.cons .h3 .nil) (.any rfl (fun _ h=>y97 h) .nil)) (y8F (k:=(⟨((nth (nth zg zD) zP).fNode),((nth (nth zg zD) zP).fLink)⟩ : S51)) (dflt:=(0 : Int)) y6d Try.underlying48 y4s rfl rfl rfl .here) ?_
         refine WD.a (i:=7) (d:=71) (by kernel_rfl) rfl z2 z3 rfl rfl rfl (fun _=>y4z rfl rfl rfl) ?_
         refine WD.y9K (i:=8) (dd:=72) rfl (by kernel_rfl) rfl rfl rfl rfl (y7P (k:=(⟨((nth (nth zg zD) zP).fNode),((nth (nth zg zD) zP).fLink)⟩ : S51)) (dflt:=(0 : Int)) y6d Try.underlying48 y4s rfl rfl rfl .h3) (fun _=>(Sin.wk (.cons .here .nil) (.any rfl (fun _ h=>y8E h) .nil))) ?_
         rintro zA1 _
         refine WD.a (i:=9) (d:=73) (by kernel_rfl) rfl z2 z3 rfl rfl rfl (fun _=>y4e rfl rfl) ?_
         refine WD.y2L (i:=10) rfl (by kernel_rfl) rfl rfl rfl (by kernel_rfl) (y6P (k:=(⟨((nth (nth zg zD) zP).fNode),((nth (nth zg zD) zP).fLink)⟩ : S51)) (v:=i64 ((yp z2V (⟨((nth (nth zg zD) zP).fNode),((nth (nth zg zD) zP).fLink)⟩ : S51) 0) + 1)) rfl rfl rfl rfl .here) ?_
         refine WD.done (by kernel_rfl) ?_
         refine WX.yg ?_
         exact WX.mid (G:=(List (S51 × Int)) × (List (S51 × Int))) ⟨(yE z2V (⟨((nth (nth zg zD) zP).fNode),((nth (nth zg zD) zP).fLink)⟩ : S51) (i64 ((yp z2V (⟨((nth (nth zg zD) zP).fNode),((nth (nth zg zD) zP).fLink)⟩ : S51) 0) + 1))),z2W⟩ h (.cons rfl (.cons rfl (.cons rfl (.cons rfl (.cons rfl (.cons rfl (.cons rfl (.cons rfl (.cons rfl (.cons rfl (.cons rfl (.cons rfl (.cons rfl (.cons rfl .nil)))))))))))))) (.cons .h2 (.cons .h2 (.cons .here (.cons .h1 .nil))))
        ·replace h:=yl h zkJ
         refine WC.y12 (fun i=>[8,10].contains i) [y7Q z3V (fun x=>Value.agg (e51 x).toArray) (Value.int .i64) (⟨((nth (nth zg zD) zP).fNode),((nth (nth zg zD) zP).fLink)⟩ : S51) (0 : Int) (yp z2W (⟨((nth (nth zg zD) zP).fNode),((nth (nth zg zD) zP).fLink)⟩ : S51) 0)] rfl ?_
         refine WD.a (i:=0) (d:=74) (by kernel_rfl) rfl z2 z3 rfl rfl rfl (fun _=>q_m rfl) ?_
         refine WD.a (i:=1) (d:=75) (by kernel_rfl) rfl z2 z3 rfl rfl rfl (fun _=>ya y39 rfl rfl) ?_
         refine WD.e (i:=2) (d:=76) (by kernel_rfl) rfl z2 z3 rfl rfl rfl (yb yh rfl (yd .here rfl)) ?_
         refine WD.a (i:=3) (d:=77) (by kernel_rfl) rfl z2 z3 rfl rfl rfl (fun _=>ya y5k rfl rfl) ?_
         refine WD.e (i:=4) (d:=78) (by kernel_rfl) rfl z2 z3 rfl rfl rfl (yb yh rfl (yd .here rfl)) ?_
         refine WD.a (i:=5) (d:=79) (by kernel_rfl) rfl z2 z3 rfl rfl rfl (fun _=>y1l (v:=(.agg #[(.int .i64 ((nth (nth zg zD) zP).fNode)),(.int .i64 ((nth (nth zg zD) zP).fLink))])) (Eos.parts (l:=[.tmp 76,.tmp 78]) (.cons rfl (.cons rfl .nil)) [0,1]) (fun _=>by kernel_rfl)) ?_
         refine WD.stable (i:=6) (d:=80) (by kernel_rfl) rfl z2 z3 rfl rfl rfl (Sin.wk (.cons .h4 .nil) (.any rfl (fun _ h=>y97 h) .nil)) (y8F (k:=(⟨((nth (nth zg zD) zP).fNode),((nth (nth zg zD) zP).fLink)⟩ : S51)) (dflt:=(0 : Int)) y6d Try.underlying48 y4s rfl rfl rfl .here) ?_
         refine WD.a (i:=7) (d:=81) (by kernel_rfl) rfl z2 z3 rfl rfl rfl (fun _=>y4z rfl rfl rfl) ?_
         refine WD.y9K (i:=8) (dd:=82) rfl (by kernel_rfl) rfl rfl rfl rfl (y7P (k:=(⟨((nth (nth zg zD) zP).fNode),((nth (nth zg zD) zP).fLink)⟩ : S51)) (dflt:=(0 : Int)) y6d Try.underlying48 y4s rfl rfl rfl .h4) (fun _=>(Sin.wk (.cons .here .nil) (.any rfl (fun _ h=>y8E h) .nil))) ?_
         rintro zA2 _
         refine WD.a (i:=9) (d:=83) (by kernel_rfl) rfl z2 z3 rfl rfl rfl (fun _=>y4e rfl rfl) ?_
         refine WD.y2L (i:=10) rfl (by kernel_rfl) rfl rfl rfl (by kernel_rfl) (y6P (k:=(⟨((nth (nth zg zD) zP).fNode),((nth (nth zg zD) zP).fLink)⟩ : S51)) (v:=i64 ((yp z2W (⟨((nth (nth zg zD) zP).fNode),((nth (nth zg zD) zP).fLink)⟩ : S51) 0) + 1)) rfl rfl rfl rfl .here) ?_
         refine WD.done (by kernel_rfl) ?_
         refine WX.yg ?_
         exact WX.mid (G:=(List (S51 × Int)) × (List (S51 × Int))) ⟨z2V,(yE z2W (⟨((nth (nth zg zD) zP).fNode),((nth (nth zg zD) zP).fLink)⟩ : S51) (i64 ((yp z2W (⟨((nth (nth zg zD) zP).fNode),((nth (nth zg zD) zP).fLink)⟩ : S51) 0) + 1)))⟩ h (.cons rfl (.cons rfl (.cons rfl (.cons rfl (.cons rfl (.cons rfl (.cons rfl (.cons rfl (.cons rfl (.cons rfl (.cons rfl (.cons rfl (.cons rfl (.cons rfl .nil)))))))))))))) (.cons .h2 (.cons .h2 (.cons .h2 (.cons .here .nil))))
       ·rintro z8b z8c h
        replace h:=(zvt z8b z8c).symm.trans h
        refine WC.a (WL.pu rfl (WL.pu rfl (WL.nil ?_)))
        exact WX.round (G:=Nat × Int × (List (S51 × Int)) × (List (S51 × Int))) ⟨zkm,(i64 (zP + 1)),z8b,z8c⟩ h (Nat.lt_succ_self _) (.cons rfl (.cons rfl (.cons rfl (.cons rfl (.cons rfl (.cons rfl (.cons rfl (.cons rfl (.cons rfl (.cons rfl (.cons rfl (.cons rfl (.cons rfl (.cons rfl .nil)))))))))))))) (.cons .here (.cons .here (.cons .here (.cons .here .nil))))
      ·replace h:=yl h zkI
       refine WC.exit (WX.yc (WX.yc (WX.yt ?_)))
       exact WX.mid (G:=(List (S51 × Int)) × (List (S51 × Int))) ⟨z2V,z2W⟩ h (.cons rfl (.cons rfl (.cons rfl (.cons rfl (.cons rfl (.cons rfl (.cons rfl (.cons rfl (.cons rfl (.cons rfl .nil)))))))))) (.cons .here (.cons .here (.cons .here (.cons .here .nil))))
     ·rintro z8g z8h h
      replace h:=(zvs z8g z8h).symm.trans h
      refine WX.yg ?_
      exact WX.mid (G:=(List (S51 × Int)) × (List (S51 × Int))) ⟨z8g,z8h⟩ h (.cons rfl (.cons rfl (.cons rfl (.cons rfl (.cons rfl (.cons rfl (.cons rfl (.cons rfl (.cons rfl (.cons rfl .nil)))))))))) (.cons .here (.cons .here (.cons .here (.cons .here .nil))))
    ·rintro z8e z8f h
     replace h:=(zvo z8e z8f).symm.trans h
     refine WC.a (WL.pu rfl (WL.pu rfl (WL.nil ?_)))
     exact WX.round (G:=Nat × Int × (List (S51 × Int)) × (List (S51 × Int))) ⟨zkn,(i64 (zD + 1)),z8e,z8f⟩ h (Nat.lt_succ_self _) (.cons rfl (.cons rfl (.cons rfl (.cons rfl (.cons rfl (.cons rfl (.cons rfl (.cons rfl (.cons rfl (.cons rfl .nil)))))))))) (.cons .here (.cons .here (.cons .here (.cons .here .nil))))
   ·replace h:=yl h zkH
    refine WC.exit (WX.yc (WX.yc (WX.yt ?_)))
    exact WX.mid (G:=(List (S51 × Int)) × (List (S51 × Int))) ⟨z4J,z4K⟩ h (.cons rfl (.cons rfl (.cons rfl (.cons rfl (.cons rfl (.cons rfl (.cons rfl .nil))))))) (.cons .here (.cons .here (.cons .here (.cons .here .nil))))
  ·rintro z77 z3U h
   replace h:=(zvn z77 z3U).symm.trans h
   obtain ⟨z8i,zvx,h⟩:=y29 h
   refine WC.y2f ((z8i = some r)) ([(1,(.int .i64 z1h)),(2,(.slice z1t zg.length z1u)),(3,(.slice z1G zB.length z1H)),(4,(.int .u16 zJ)),(5,(.pointer (some ⟨z15,0,none⟩)))]) ([fz [],stb z15 31 [(.slice z1K z4.fModules.length z1L),(.slice z1M z4.fChannels.length z1N),(.slice z1O z4.fSwitches.length z1P),(.slice z1Q z4.fLinks.length z1R),(.slice z1S z4.fVLs.length z1T),(.slice z1U z4.fHealth.length z1V),(.slice z1W z4.fCauses.length z1X),(.slice z1Y z4.fVersions.length z1Z)]]) ?_ ?_
   ·skip
    refine WC.b (WC.a (WL.pu rfl ?_))
    refine WL.eff (d:=87) rfl rfl rfl (e_range Try.underlying48 rfl .h2) ?_
    rintro zpd _
    refine WL.nil (WX.a (WC.block ?_))
    refine WC.y2r (fun (zcf : Nat) (z74 : List (S51 × Int)) (zeN : Option (S51 × Int))=>(y1q z8i z3U zcf z74 = some r)) (fun (zcf : Nat) (z74 : List (S51 × Int)) (zeN : Option (S51 × Int))=>[(1,(.int .i64 z1h)),(2,(.slice z1t zg.length z1u)),(3,(.slice z1G zB.length z1H)),(4,(.int .u16 zJ)),(5,(.pointer (some ⟨z15,0,none⟩))),(12,(.map (some z3V))),(87,(.pointer (some ⟨zpd,0,none⟩)))]) (fun (zcf : Nat) (z74 : List (S51 × Int)) (zeN : Option (S51 × Int))=>[fz [],stb z15 31 [(.slice z1K z4.fModules.length z1L),(.slice z1M z4.fChannels.length z1N),(.slice z1O z4.fSwitches.length z1P),(.slice z1Q z4.fLinks.length z1R),(.slice z1S z4.fVLs.length z1T),(.slice z1U z4.fHealth.length z1V),(.slice z1W z4.fCauses.length z1X),(.slice z1Y z4.fVersions.length z1Z)],yI z3V (fun x=>Value.agg (e51 x).toArray) (Value.int .i64) z3U,y3H zpd z4b (fun x=>Value.agg (e51 x).toArray) (Value.int .i64) z77 z74 zeN]) (fun (zcf : Nat) (z74 : List (S51 × Int)) (zeN : Option (S51 × Int))=>zcf) ⟨ys,z77,none⟩ h (.cons rfl (.cons rfl (.cons rfl (.cons rfl (.cons rfl (.cons rfl (.cons rfl .nil))))))) (.cons .h1 (.cons .h1 (.cons .h1 (.cons .here .nil)))) ?_
    rintro zcf z74 zeN h
    obtain ⟨zkp,rfl⟩:=y4P h
    rw [y1q] at h
    refine WC.b (WC.a ?_)
    refine WL.nextM rfl rfl rfl .h3 (fun zvy=>?_) (fun zA3 zgJ zkq zvz zvA=>?_)
    ·replace h:=(y7S h).1 zvy
     refine WL.pu rfl (WL.nil (WX.a (WC.b ?_)))
     refine WC.cond rfl (fun h'=>(by cases h')) (fun h'=>?_)
     clear h'
     refine WC.exit (WX.yc (WX.yc (WX.yt ?_)))
     exact WX.mid (G:=Unit) () h (.cons rfl (.cons rfl (.cons rfl (.cons rfl (.cons rfl .nil))))) (.cons .h1 (.cons .h1 .nil))
    ·replace h:=(y7S h).2 _ _ _ zvz zvA
     refine WL.pu rfl (WL.nil (WX.a (WC.b ?_)))
     refine WC.cond rfl (fun h'=>?_) (fun h'=>(by cases h'))
     clear h'
     refine WC.skip (WX.a (WC.block (WC.b (WC.a ?_))))
     refine WL.a (d:=90) rfl rfl rfl (e_entry rfl .here) ?_
     refine WL.pu rfl ?_
     refine WL.new (dd:=17) rfl rfl rfl (y1Y (cs:=[(.int .i64 0),(.int .i64 0)]) zeroT_51 rfl) ?_
     intro zA4 _
     refine WL.y1g rfl rfl (y1A sizT_51 rfl rfl rfl .here rfl rfl rfl) ?_
     refine WL.nil (WX.a (WC.b (WC.a (WL.pu rfl ?_))))
     refine WL.a (d:=93) rfl rfl rfl (yD aggT_51 rfl (y1h .here) rfl) ?_
     refine WL.a (d:=94) rfl rfl rfl (y4j (k:=zgJ.1) (dflt:=(0 : Int)) y6d Try.underlying48 y4s rfl rfl rfl .h4) ?_
     refine WL.pu rfl (WL.nil (WX.a ?_))
     refine WC.cond rfl (fun zkK=>?_) (fun zkK=>?_)
     ·replace h:=yk h zkK
      refine WC.b ?_
      obtain ⟨zp6,zvB,h⟩:=zn h
      refine WC.a ?_
      refine WL.y6V (dd:=96) rfl rfl rfl (zE (l:=[]) Try.call11 .nil) .nil (ccz hz .nil .h2 fun w pz ho=>y5a _ _ zvB w pz ) ?_
      rintro zvC _
      refine WL.merge .here .h2 ?_
      refine WL.pu rfl (WL.nil (WX.a (WC.ret (WX.yr (WX.ye (WX.yr (WX.ye ?_)))))))
      obtain rfl:=Option.some.inj h
      refine WX.yj Try.results6 (.tmp rfl .nil) (fun w hw=>?_)
      exact ⟨([] ++ zvC),y10 rfl,trivial,hw.sub (.cons .here .nil)⟩
     ·replace h:=yl h zkK
      refine WC.skip (WX.yg ?_)
      exact WX.round (G:=Nat × (List (S51 × Int)) × (Option (S51 × Int))) ⟨zkp,zkq,(some zgJ)⟩ h (Nat.lt_succ_self _) (.cons rfl (.cons rfl (.cons rfl (.cons rfl (.cons rfl (.cons rfl (.cons rfl .nil))))))) (.cons .h2 (.cons .h2 (.cons .h2 (.cons .h1 .nil))))
   ·rintro  h
    replace h:=zvx.symm.trans h
    refine WC.b ?_
    obtain ⟨z8X,zvD,h⟩:=zn h
    refine WC.a ?_
    refine WL.a (d:=98) rfl rfl rfl (yD y1N rfl (y1h .h1) rfl) ?_
    refine WL.pu rfl (WL.pu rfl (WL.pu rfl ?_))
    refine WL.y6W (dd:=102) rfl rfl rfl (zE (l:=[.tmp 98,.tmp 99,.tmp 100,.tmp 101]) Try.call12 (.cons rfl (.cons rfl (.cons rfl (.cons rfl .nil))))) .nil (ccz hz .nil .here fun w pz ho=>y59 _ _ _ _ _ _ _ _ _ _ _ _ _ _ _ _ _ _ _ _ _ _ _ _ _ _ zvD w pz ((zky.mono (Zle.left _ _)).weak (fun _ _ h=>y23 (Zle.left _ _) h)) ((zkz.mono (Zle.left _ _)).weak (fun _ _ h=>y2c (Zle.left _ _) h)) (zkA.mono (Zle.left _ _)) (zkB.mono (Zle.left _ _)) ((zkC.mono (Zle.left _ _)).weak (fun _ _ h=>y24 (Zle.left _ _) h)) (zkD.mono (Zle.left _ _)) ((zkE.mono (Zle.left _ _)).weak (fun _ _ h=>y2d (Zle.left _ _) h)) (zkF.mono (Zle.left _ _)) ((zgM.mono (Zle.left _ _)).weak (fun _ _ h=>y3A (Zle.left _ _) h)) (zgN.mono (Zle.left _ _))) ?_
    rintro zvE zvF zvG zvH _
    refine WL.pu rfl (WL.pu rfl (WL.pu rfl (WL.pu rfl (WL.pu rfl (WL.pu rfl (WL.pu rfl (WL.nil (WX.a (WC.b (WC.b (WC.a (WL.pu rfl (WL.pu rfl (WL.nil (WX.a ?_)))))))))))))))
    refine WC.cond rfl (fun zkL=>?_) (fun zkL=>?_)
    ·replace h:=yk h zkL
     refine WC.b (WC.a (WL.pu rfl (WL.nil (WX.a (WC.ret (WX.ye ?_))))))
     obtain rfl:=Option.some.inj h
     refine WX.yj Try.results6 (.tmp rfl .nil) (fun w hw=>?_)
     exact ⟨[],y10 rfl,trivial,hw.sub (.cons .h2 .nil)⟩
    ·replace h:=yl h zkL
     refine WC.skip (WX.a ?_)
     obtain ⟨z8n,zvI,h⟩:=y29 h
     refine WC.y1K (fun (zcg : Zp)=>(z8n = some r) ∧ (Zle (Z ++ []) (Z ++ zcg))) (fun (zcg : Zp)=>[]) (fun (zcg : Zp)=>[fz zcg]) ?_ ?_
     ·skip
      refine WC.b (WC.a (WL.pu rfl (WL.nil (WX.a (WC.block ?_)))))
      refine WC.freezeS (ls:=z8X.1) .here .h1 hz (RR.y16 (enc:=e50) (fun _=>rfl) _) ?_
      intro zA5 zvJ zvK
      refine WC.freezeS (ls:=z8X.2.1) .h1 .here hz (RR.y16 (enc:=e50) (fun _=>rfl) _) ?_
      intro zvL zpe zvM
      refine WC.loop9 (fun (zch : Nat) (zZ : List Sapi_Come) (z10 : List Sapi_Come) (zS : Int) (z3W : Zp) (z28 : Option Addr) (z29 : Nat) (z2a : Option Addr) (z2b : Nat)=>(y1v z4 z1h zg zB zJ z8n zch zZ z10 zS = some r) ∧ (Zle (Z ++ []) (Z ++ z3W)) ∧ (ZS (Z ++ z3W) 3 (fun r x=>r = e50 x) z28 z29 zZ) ∧ (ZS (Z ++ z3W) 3 (fun r x=>r = e50 x) z2a z2b z10)) (fun (zch : Nat) (zZ : List Sapi_Come) (z10 : List Sapi_Come) (zS : Int) (z3W : Zp) (z28 : Option Addr) (z29 : Nat) (z2a : Option Addr) (z2b : Nat)=>[(1,(.int .i64 z1h)),(2,(.slice z1t zg.length z1u)),(3,(.slice z1G zB.length z1H)),(4,(.int .u16 zJ)),(5,(.pointer (some ⟨z15,0,none⟩))),(18,(.slice z28 zZ.length z29)),(19,(.slice z2a z10.length z2b)),(108,(.int .i64 zS))]) (fun (zch : Nat) (zZ : List Sapi_Come) (z10 : List Sapi_Come) (zS : Int) (z3W : Zp) (z28 : Option Addr) (z29 : Nat) (z2a : Option Addr) (z2b : Nat)=>[fz z3W,stb z15 31 [(.slice z1K z4.fModules.length z1L),(.slice z1M z4.fChannels.length z1N),(.slice z1O z4.fSwitches.length z1P),(.slice z1Q z4.fLinks.length z1R),(.slice z1S z4.fVLs.length z1T),(.slice z1U z4.fHealth.length z1V),(.slice z1W z4.fCauses.length z1X),(.slice z1Y z4.fVersions.length z1Z)]]) (fun (zch : Nat) (zZ : List Sapi_Come) (z10 : List Sapi_Come) (zS : Int) (z3W : Zp) (z28 : Option Addr) (z29 : Nat) (z2a : Option Addr) (z2b : Nat)=>zch) ⟨ys,z8X.1,z8X.2.1,0,zvL,zvE,zvF,zvG,zvH⟩ ⟨h,(zvJ.trans zpe),(zvK.mono zpe),zvM⟩ (.cons rfl (.cons rfl (.cons rfl (.cons rfl (.cons rfl (.cons rfl (.cons rfl (.cons rfl .nil)))))))) (.cons .here (.cons .here .nil)) ?_
      rintro zch zZ z10 zS z3W z28 z29 z2a z2b ⟨h,z3c,zpf,zpg⟩
      obtain ⟨zkw,rfl⟩:=y4U h
      rw [y1v] at h
      refine WC.b (WC.a (WL.pu rfl (WL.nil (WX.a (WC.b ?_)))))
      refine WC.cond rfl (fun zkM=>?_) (fun zkM=>?_)
      ·replace h:=yk h zkM
       refine WC.skip (WX.a ?_)
       obtain ⟨zkx,zvN,h⟩:=y29 h
       refine WC.y1K (fun (zci : Zp)=>(zkx = some r) ∧ (Zle (Z ++ z3W) (Z ++ zci))) (fun (zci : Zp)=>[(1,(.int .i64 z1h)),(2,(.slice z1t zg.length z1u)),(3,(.slice z1G zB.length z1H)),(4,(.int .u16 zJ)),(5,(.pointer (some ⟨z15,0,none⟩))),(18,(.slice z28 zZ.length z29)),(19,(.slice z2a z10.length z2b)),(108,(.int .i64 zS))]) (fun (zci : Zp)=>[fz zci,stb z15 31 [(.slice z1K z4.fModules.length z1L),(.slice z1M z4.fChannels.length z1N),(.slice z1O z4.fSwitches.length z1P),(.slice z1Q z4.fLinks.length z1R),(.slice z1S z4.fVLs.length z1T),(.slice z1U z4.fHealth.length z1V),(.slice z1W z4.fCauses.length z1X),(.slice z1Y z4.fVersions.length z1Z)]]) ?_ ?_
       ·skip
        refine WC.block (WC.b (WC.a (WL.pu rfl (WL.pu rfl (WL.nil (WX.a (WC.b (WC.a (WL.pu rfl (WL.nil (WX.a (WC.b (WC.a (WL.pu rfl (WL.nil ?_)))))))))))))))
        refine WX.a ?_
        obtain ⟨z8j,zvO,h⟩:=y2i h
        refine WC.y5d (fun (z76 : List zSt) (zT : List Int) (zeO : Option Addr) (zeP : Nat) (z2X : Option Addr) (z2Y : Nat)=>(z8j z76 zT = some r)) (fun (z76 : List zSt) (zT : List Int) (zeO : Option Addr) (zeP : Nat) (z2X : Option Addr) (z2Y : Nat)=>[(1,(.int .i64 z1h)),(2,(.slice z1t zg.length z1u)),(3,(.slice z1G zB.length z1H)),(4,(.int .u16 zJ)),(5,(.pointer (some ⟨z15,0,none⟩))),(18,(.slice z28 zZ.length z29)),(19,(.slice z2a z10.length z2b)),(21,(.int .i64 zS)),(22,(.slice zeO z76.length zeP)),(23,(.slice z2X zT.length z2Y)),(108,(.int .i64 zS))]) (fun (z76 : List zSt) (zT : List Int) (zeO : Option Addr) (zeP : Nat) (z2X : Option Addr) (z2Y : Nat)=>[fz z3W,row (.slice zeO z76.length zeP) 53 3 (z76.flatMap e53),row (.slice z2X zT.length z2Y) 3 1 (zT.flatMap e3),stb z15 31 [(.slice z1K z4.fModules.length z1L),(.slice z1M z4.fChannels.length z1N),(.slice z1O z4.fSwitches.length z1P),(.slice z1Q z4.fLinks.length z1R),(.slice z1S z4.fVLs.length z1T),(.slice z1U z4.fHealth.length z1V),(.slice z1W z4.fCauses.length z1X),(.slice z1Y z4.fVersions.length z1Z)]]) ?_ ?_
        ·skip
         refine WC.b (WC.a (WL.pu rfl ?_))
         refine WL.a (d:=112) rfl rfl rfl (yZ Try.underlying33 rfl) ?_
         refine WL.pu rfl (WL.nil (WX.a (WC.block ?_)))
         refine WC.nilRow 53 3 ?_
         refine WC.nilRow 3 1 ?_
         refine WC.loop8 (fun (zcj : Nat) (z2D : List zSt) (z2E : List Int) (z16 : Int) (z8Y : Option Addr) (z8Z : Nat) (z90 : Option Addr) (z91 : Nat)=>(y1r zB zJ zS z8j zcj z2D z2E z16 = some r)) (fun (zcj : Nat) (z2D : List zSt) (z2E : List Int) (z16 : Int) (z8Y : Option Addr) (z8Z : Nat) (z90 : Option Addr) (z91 : Nat)=>[(1,(.int .i64 z1h)),(2,(.slice z1t zg.length z1u)),(3,(.slice z1G zB.length z1H)),(4,(.int .u16 zJ)),(5,(.pointer (some ⟨z15,0,none⟩))),(18,(.slice z28 zZ.length z29)),(19,(.slice z2a z10.length z2b)),(21,(.int .i64 zS)),(22,(.slice z8Y z2D.length z8Z)),(23,(.slice z90 z2E.length z91)),(108,(.int .i64 zS)),(111,(.slice z1G zB.length z1H)),(112,(.int .i64 ((zB.length : Nat) : Int))),(113,(.int .i64 z16))]) (fun (zcj : Nat) (z2D : List zSt) (z2E : List Int) (z16 : Int) (z8Y : Option Addr) (z8Z : Nat) (z90 : Option Addr) (z91 : Nat)=>[fz z3W,row (.slice z8Y z2D.length z8Z) 53 3 (z2D.flatMap e53),row (.slice z90 z2E.length z91) 3 1 (z2E.flatMap e3),stb z15 31 [(.slice z1K z4.fModules.length z1L),(.slice z1M z4.fChannels.length z1N),(.slice z1O z4.fSwitches.length z1P),(.slice z1Q z4.fLinks.length z1R),(.slice z1S z4.fVLs.length z1T),(.slice z1U z4.fHealth.length z1V),(.slice z1W z4.fCauses.length z1X),(.slice z1Y z4.fVersions.length z1Z)]]) (fun (zcj : Nat) (z2D : List zSt) (z2E : List Int) (z16 : Int) (z8Y : Option Addr) (z8Z : Nat) (z90 : Option Addr) (z91 : Nat)=>zcj) ⟨ys,([] : List zSt),([] : List Int),0,none,0,none,0⟩ h (.cons rfl (.cons rfl (.cons rfl (.cons rfl (.cons rfl (.cons rfl (.cons rfl (.cons rfl (.cons rfl (.cons rfl (.cons rfl (.cons rfl (.cons rfl (.cons rfl .nil)))))))))))))) (.cons .h2 (.cons .h1 (.cons .here (.cons .here .nil)))) ?_
         rintro zcj z2D z2E z16 z8Y z8Z z90 z91 h
         obtain ⟨zkr,rfl⟩:=y4Q h
         rw [y1r] at h
         refine WC.b (WC.a (WL.pu rfl (WL.nil (WX.a (WC.b ?_)))))
         refine WC.cond rfl (fun zkN=>?_) (fun zkN=>?_)
         ·replace h:=yk h zkN
          refine WC.skip (WX.a ?_)
          obtain ⟨zgK,zvP,h⟩:=y2i h
          refine WC.y5d (fun (z5R : List zSt) (z5S : List Int) (zck : Option Addr) (zcl : Nat) (zcm : Option Addr) (zcn : Nat)=>(zgK z5R z5S = some r)) (fun (z5R : List zSt) (z5S : List Int) (zck : Option Addr) (zcl : Nat) (zcm : Option Addr) (zcn : Nat)=>[(1,(.int .i64 z1h)),(2,(.slice z1t zg.length z1u)),(3,(.slice z1G zB.length z1H)),(4,(.int .u16 zJ)),(5,(.pointer (some ⟨z15,0,none⟩))),(18,(.slice z28 zZ.length z29)),(19,(.slice z2a z10.length z2b)),(21,(.int .i64 zS)),(22,(.slice zck z5R.length zcl)),(23,(.slice zcm z5S.length zcn)),(108,(.int .i64 zS)),(111,(.slice z1G zB.length z1H)),(112,(.int .i64 ((zB.length : Nat) : Int))),(113,(.int .i64 z16))]) (fun (z5R : List zSt) (z5S : List Int) (zck : Option Addr) (zcl : Nat) (zcm : Option Addr) (zcn : Nat)=>[fz z3W,row (.slice zck z5R.length zcl) 53 3 (z5R.flatMap e53),row (.slice zcm z5S.length zcn) 3 1 (z5S.flatMap e3),stb z15 31 [(.slice z1K z4.fModules.length z1L),(.slice z1M z4.fChannels.length z1N),(.slice z1O z4.fSwitches.length z1P),(.slice z1Q z4.fLinks.length z1R),(.slice z1S z4.fVLs.length z1T),(.slice z1U z4.fHealth.length z1V),(.slice z1W z4.fCauses.length z1X),(.slice z1Y z4.fVersions.length z1Z)]]) ?_ ?_
          ·skip
           refine WC.block (WC.b ?_)
           obtain ⟨zvQ,h⟩:=yi h
           refine WC.a (WL.pu rfl ?_)
           refine WL.znth (dd:=116) rfl rfl (Z:=(Z ++ z3W)) (Pr:=(fun r x=>r = e53 x)) y43 rfl rfl (zgN.mono ((Zle.left _ _).trans z3c)) zvQ ?_
           rintro zA6 zA7 zvR zA8 rfl
           refine WL.a (d:=117) rfl rfl rfl (yD y6a rfl (y3p (hz.pv2 .here) zvR) rfl) ?_
           refine WL.new (dd:=25) rfl rfl rfl (y1Y (cs:=[(.int .i64 0),(.int .i64 0),(.int .i64 0)]) y6w rfl) ?_
           intro zA9 _
           refine WL.pu rfl ?_
           refine WL.y1g rfl rfl (y1A y7i rfl rfl rfl .here rfl rfl rfl) ?_
           refine WL.nil (WX.a (WC.b ?_))
           obtain ⟨zvS,h⟩:=yi h
           refine WC.a (WL.pu rfl ?_)
           refine WL.a (d:=119) rfl rfl rfl (ya y4E rfl rfl) ?_
           refine WL.a (d:=120) rfl rfl rfl (yb yh rfl (yd .here rfl)) ?_
           refine WL.a (d:=121) rfl rfl rfl (y6o rfl rfl zvS rfl) ?_
           refine WL.a (d:=122) rfl rfl rfl (q_and rfl rfl rfl) ?_
           refine WL.a (d:=123) rfl rfl rfl (y4w Try.underlying66 Try.underlying3 rfl rfl) ?_
           refine WL.pu rfl (WL.pu rfl (WL.nil (WX.a ?_)))
           refine WC.cond rfl (fun zkO=>?_) (fun zkO=>?_)
           ·replace h:=yk h zkO
            obtain ⟨zvT,h⟩:=yi h
            obtain ⟨zvU,h⟩:=yi h
            refine WC.a (WL.pu rfl ?_)
            refine WL.a (d:=127) rfl rfl rfl (yD y6a rfl (y1h .here) rfl) ?_
            refine WL.new (dd:=128) rfl rfl rfl (yS (cs:=([(⟨((nth zB z16).fTime),((nth zB z16).fVL),((nth zB z16).fSize)⟩ : zSt)] : List zSt).flatMap e53) y43 (Eos.parts (l:=[.tmp 127]) (.cons rfl .nil) [0]) (fun _=>by kernel_rfl) rfl (by unfold maxLen; omega)) ?_
            intro zAa _
            refine WL.eff (d:=129) rfl rfl rfl (y3W (enc:=e53) (l1:=z2D) (l2:=([(⟨((nth zB z16).fTime),((nth zB z16).fVL),((nth zB z16).fSize)⟩ : zSt)] : List zSt)) y43 rfl rfl .h3 (fun _=>rfl) rfl rfl (y4i .here) (y4p e53_oc _) zvT) ?_
            rintro ⟨zvV,zvW⟩ _
            refine WL.pu rfl (WL.pu rfl ?_)
            refine WL.new (dd:=132) rfl rfl rfl (yS (cs:=([z16] : List Int).flatMap e3) y56 (Eos.parts (l:=[.tmp 131]) (.cons rfl .nil) [0]) (fun _=>by kernel_rfl) rfl (by unfold maxLen; omega)) ?_
            intro zAb _
            refine WL.eff (d:=133) rfl rfl rfl (y3W (enc:=e3) (l1:=z2E) (l2:=([z16] : List Int)) y56 rfl rfl .h5 (fun _=>rfl) rfl rfl (y4i .here) (y4p e3_oc _) zvU) ?_
            rintro ⟨zvX,zvY⟩ _
            refine WL.pu rfl (WL.pu rfl (WL.nil (WX.yg ?_)))
            exact WX.mid (G:=List zSt × List Int × Option Addr × Nat × Option Addr × Nat) ⟨(z2D ++ ([(⟨((nth zB z16).fTime),((nth zB z16).fVL),((nth zB z16).fSize)⟩ : zSt)] : List zSt)),(z2E ++ ([z16] : List Int)),zvV,zvW,zvX,zvY⟩ h (.cons rfl (.cons rfl (.cons rfl (.cons rfl (.cons rfl (.cons rfl (.cons rfl (.cons rfl (.cons rfl (.cons rfl (.cons rfl (.cons rfl (.cons rfl (.cons rfl .nil)))))))))))))) (.cons .h5 (.cons .h2 (.cons .here (.cons .h3 .nil))))
           ·replace h:=yl h zkO
            refine WC.skip (WX.yg ?_)
            exact WX.mid (G:=List zSt × List Int × Option Addr × Nat × Option Addr × Nat) ⟨z2D,z2E,z8Y,z8Z,z90,z91⟩ h (.cons rfl (.cons rfl (.cons rfl (.cons rfl (.cons rfl (.cons rfl (.cons rfl (.cons rfl (.cons rfl (.cons rfl (.cons rfl (.cons rfl (.cons rfl (.cons rfl .nil)))))))))))))) (.cons .h1 (.cons .h1 (.cons .h1 (.cons .h1 .nil))))
          ·rintro z5R z5S zck zcl zcm zcn h
           replace h:=(zvP z5R z5S).symm.trans h
           refine WC.a (WL.pu rfl (WL.pu rfl (WL.nil ?_)))
           exact WX.round (G:=Nat × List zSt × List Int × Int × Option Addr × Nat × Option Addr × Nat) ⟨zkr,z5R,z5S,(i64 (z16 + 1)),zck,zcl,zcm,zcn⟩ h (Nat.lt_succ_self _) (.cons rfl (.cons rfl (.cons rfl (.cons rfl (.cons rfl (.cons rfl (.cons rfl (.cons rfl (.cons rfl (.cons rfl (.cons rfl (.cons rfl (.cons rfl (.cons rfl .nil)))))))))))))) (.cons .here (.cons .here (.cons .here (.cons .here .nil))))
         ·replace h:=yl h zkN
          refine WC.exit (WX.yc (WX.yc (WX.yt ?_)))
          exact WX.mid (G:=List zSt × List Int × Option Addr × Nat × Option Addr × Nat) ⟨z2D,z2E,z8Y,z8Z,z90,z91⟩ h (.cons rfl (.cons rfl (.cons rfl (.cons rfl (.cons rfl (.cons rfl (.cons rfl (.cons rfl (.cons rfl (.cons rfl (.cons rfl .nil))))))))))) (.cons .here (.cons .here (.cons .here (.cons .here .nil))))
        ·rintro z76 zT zeO zeP z2X z2Y h
         replace h:=(zvO z76 zT).symm.trans h
         refine WC.b ?_
         obtain ⟨z14,zvZ,h⟩:=zn h
         refine WC.a ?_
         refine WL.a (d:=136) rfl rfl rfl (yD y1N rfl (y1h .h3) rfl) ?_
         refine WL.pu rfl (WL.pu rfl (WL.pu rfl ?_))
         refine WL.y6W (dd:=140) rfl rfl rfl (zE (l:=[.tmp 136,.tmp 137,.tmp 138,.tmp 139]) Try.call12 (.cons rfl (.cons rfl (.cons rfl (.cons rfl .nil))))) .nil (cclz hz .nil .here (.cons .h1 .nil) fun w pz ho la=>y59 _ _ _ _ _ _ _ _ _ _ _ _ _ _ _ _ _ _ _ _ _ _ _ _ _ _ zvZ w pz ((((zky.mono ((Zle.left _ _).trans z3c)).weak (fun _ _ h=>y23 ((Zle.left _ _).trans z3c) h)).mono (Zle.left _ _)).weak (fun _ _ h=>y23 (Zle.left _ _) h)) ((((zkz.mono ((Zle.left _ _).trans z3c)).weak (fun _ _ h=>y2c ((Zle.left _ _).trans z3c) h)).mono (Zle.left _ _)).weak (fun _ _ h=>y2c (Zle.left _ _) h)) ((zkA.mono ((Zle.left _ _).trans z3c)).mono (Zle.left _ _)) ((zkB.mono ((Zle.left _ _).trans z3c)).mono (Zle.left _ _)) ((((zkC.mono ((Zle.left _ _).trans z3c)).weak (fun _ _ h=>y24 ((Zle.left _ _).trans z3c) h)).mono (Zle.left _ _)).weak (fun _ _ h=>y24 (Zle.left _ _) h)) ((zkD.mono ((Zle.left _ _).trans z3c)).mono (Zle.left _ _)) ((((zkE.mono ((Zle.left _ _).trans z3c)).weak (fun _ _ h=>y2d ((Zle.left _ _).trans z3c) h)).mono (Zle.left _ _)).weak (fun _ _ h=>y2d (Zle.left _ _) h)) ((zkF.mono ((Zle.left _ _).trans z3c)).mono (Zle.left _ _)) ((((zgM.mono ((Zle.left _ _).trans z3c)).weak (fun _ _ h=>y3A ((Zle.left _ _).trans z3c) h)).mono (Zle.left _ _)).weak (fun _ _ h=>y3A (Zle.left _ _) h)) (ZA.row (la _ (.head _) _) (RR.y16 (enc:=e53) (fun _=>rfl) _) ⟨w,pz.1⟩)) ?_
         rintro zeQ zeR zeS zeT _
         refine WL.pu rfl (WL.pu rfl (WL.pu rfl (WL.pu rfl (WL.pu rfl (WL.pu rfl (WL.pu rfl (WL.nil (WX.a (WC.b (WC.b (WC.a (WL.pu rfl (WL.pu rfl (WL.nil (WX.a ?_)))))))))))))))
         refine WC.cond rfl (fun zkP=>?_) (fun zkP=>?_)
         ·replace h:=yk h zkP
          refine WC.b (WC.a (WL.pu rfl (WL.nil (WX.a (WC.ret (WX.ye (WX.yr (WX.ye (WX.ye (WX.yr (WX.ye ?_)))))))))))
          obtain rfl:=Option.some.inj h
          refine WX.yj Try.results6 (.tmp rfl .nil) (fun w hw=>?_)
          exact ⟨z3W,y10 rfl,trivial,hw.sub (.cons .h2 .nil)⟩
         ·replace h:=yl h zkP
          refine WC.skip (WX.a (WC.b (WC.a (WL.pu rfl (WL.pu rfl ?_)))))
          refine WL.a (d:=148) rfl rfl rfl (y1l (v:=(.agg #[(.slice z28 zZ.length z29),(.slice zeQ z14.1.length zeR)])) (Eos.parts (l:=[.tmp 146,.tmp 147]) (.cons rfl (.cons rfl .nil)) [0,1]) (fun _=>by kernel_rfl)) ?_
          refine WL.pu rfl (WL.pu rfl ?_)
          refine WL.a (d:=151) rfl rfl rfl (y1l (v:=(.agg #[(.slice z2a z10.length z2b),(.slice zeS z14.2.1.length zeT)])) (Eos.parts (l:=[.tmp 149,.tmp 150]) (.cons rfl (.cons rfl .nil)) [0,1]) (fun _=>by kernel_rfl)) ?_
          refine WL.freezeS (ls:=z14.1) .here .h1 hz (RR.y16 (enc:=e50) (fun _=>rfl) _) ?_
          intro zAc zgO zw0
          refine WL.freezeS (ls:=z14.2.1) .h1 .here hz (RR.y16 (enc:=e50) (fun _=>rfl) _) ?_
          intro z3r zeU zw1
          have zw2 : RR 2 (p67 (Z ++ z3r)) [(.slice z28 zZ.length z29),(.slice zeQ z14.1.length zeR),(.slice z2a z10.length z2b),(.slice zeS z14.2.1.length zeT)] ([(⟨zZ,z14.1⟩ : S67),(⟨z10,z14.2.1⟩ : S67)] : List S67):=(RR.cons (r:=[(.slice z28 zZ.length z29),(.slice zeQ z14.1.length zeR)]) rfl (show p67 _ _ _ from ⟨_,_,_,_,rfl,(zpf.mono (zgO.trans zeU)),(zw0.mono zeU)⟩) (RR.cons (r:=[(.slice z2a z10.length z2b),(.slice zeS z14.2.1.length zeT)]) rfl (show p67 _ _ _ from ⟨_,_,_,_,rfl,(zpg.mono (zgO.trans zeU)),zw1⟩) (RR.nil _ _)))
          refine WL.new (dd:=152) rfl rfl rfl (yS (cs:=[(.slice z28 zZ.length z29),(.slice zeQ z14.1.length zeR),(.slice z2a z10.length z2b),(.slice zeS z14.2.1.length zeT)]) elT_68 (Eos.parts (l:=[.tmp 148,.tmp 151]) (.cons rfl (.cons rfl .nil)) [0,1]) (fun _=>by kernel_rfl) rfl (by unfold maxLen; omega)) ?_
          intro z4c _
          refine WL.a (d:=153) rfl rfl rfl (yZ Try.underlying68 rfl) ?_
          refine WL.pu rfl (WL.nil (WX.a ?_))
          obtain ⟨z8m,zw3,h⟩:=y29 h
          refine WC.mid0 ((z8m = some r)) ([(1,(.int .i64 z1h)),(2,(.slice z1t zg.length z1u)),(3,(.slice z1G zB.length z1H)),(4,(.int .u16 zJ)),(5,(.pointer (some ⟨z15,0,none⟩))),(18,(.slice z28 zZ.length z29)),(19,(.slice z2a z10.length z2b)),(108,(.int .i64 zS))]) ([fz z3r,stb z15 31 [(.slice z1K z4.fModules.length z1L),(.slice z1M z4.fChannels.length z1N),(.slice z1O z4.fSwitches.length z1P),(.slice z1Q z4.fLinks.length z1R),(.slice z1S z4.fVLs.length z1T),(.slice z1U z4.fHealth.length z1V),(.slice z1W z4.fCauses.length z1X),(.slice z1Y z4.fVersions.length z1Z)]]) ?_ ?_
          ·skip
           refine WC.block ?_
           refine WC.y4C (fun (zco : Nat) (zi : List S67) (zp : Int) (z4L : List Value)=>(y1u zZ z14 z10 zT zB zJ zS z8m zco zi zp = some r) ∧ (RR 2 (p67 (Z ++ z3r)) z4L zi)) (fun (zco : Nat) (zi : List S67) (zp : Int) (z4L : List Value)=>[(1,(.int .i64 z1h)),(2,(.slice z1t zg.length z1u)),(3,(.slice z1G zB.length z1H)),(4,(.int .u16 zJ)),(5,(.pointer (some ⟨z15,0,none⟩))),(18,(.slice z28 zZ.length z29)),(19,(.slice z2a z10.length z2b)),(21,(.int .i64 zS)),(23,(.slice z2X zT.length z2Y)),(108,(.int .i64 zS)),(152,(.slice (some ⟨z4c,0,none⟩) zi.length 2)),(153,(.int .i64 ((([(⟨zZ,z14.1⟩ : S67),(⟨z10,z14.2.1⟩ : S67)] : List S67).length : Nat) : Int))),(154,(.int .i64 zp))]) (fun (zco : Nat) (zi : List S67) (zp : Int) (z4L : List Value)=>[fz z3r,row (.slice z2X zT.length z2Y) 3 1 (zT.flatMap e3),row (.slice (some ⟨z4c,0,none⟩) zi.length 2) 67 2 z4L,stb z15 31 [(.slice z1K z4.fModules.length z1L),(.slice z1M z4.fChannels.length z1N),(.slice z1O z4.fSwitches.length z1P),(.slice z1Q z4.fLinks.length z1R),(.slice z1S z4.fVLs.length z1T),(.slice z1U z4.fHealth.length z1V),(.slice z1W z4.fCauses.length z1X),(.slice z1Y z4.fVersions.length z1Z)]]) (fun (zco : Nat) (zi : List S67) (zp : Int) (z4L : List Value)=>zco) ⟨ys,([(⟨zZ,z14.1⟩ : S67),(⟨z10,z14.2.1⟩ : S67)] : List S67),0,[(.slice z28 zZ.length z29),(.slice zeQ z14.1.length zeR),(.slice z2a z10.length z2b),(.slice zeS z14.2.1.length zeT)]⟩ ⟨h,zw2⟩ (.cons rfl (.cons rfl (.cons rfl (.cons rfl (.cons rfl (.cons rfl (.cons rfl (.cons rfl (.cons rfl (.cons rfl (.cons rfl (.cons rfl (.cons rfl .nil))))))))))))) (.cons .h1 (.cons .h2 (.cons .here (.cons .h1 .nil)))) ?_
           rintro zco zi zp z4L ⟨h,zph⟩
           obtain ⟨zku,rfl⟩:=y4T h
           rw [y1u] at h
           refine WC.b (WC.a (WL.pu rfl (WL.nil (WX.a (WC.b ?_)))))
           refine WC.cond rfl (fun zkQ=>?_) (fun zkQ=>?_)
           ·replace h:=yk h zkQ
            refine WC.skip (WX.a ?_)
            obtain ⟨zkv,zw4,h⟩:=y29 h
            refine WC.y2f ((zkv = some r)) ([(1,(.int .i64 z1h)),(2,(.slice z1t zg.length z1u)),(3,(.slice z1G zB.length z1H)),(4,(.int .u16 zJ)),(5,(.pointer (some ⟨z15,0,none⟩))),(18,(.slice z28 zZ.length z29)),(19,(.slice z2a z10.length z2b)),(21,(.int .i64 zS)),(23,(.slice z2X zT.length z2Y)),(108,(.int .i64 zS)),(152,(.slice (some ⟨z4c,0,none⟩) zi.length 2)),(153,(.int .i64 ((([(⟨zZ,z14.1⟩ : S67),(⟨z10,z14.2.1⟩ : S67)] : List S67).length : Nat) : Int))),(154,(.int .i64 zp))]) ([fz z3r,row (.slice z2X zT.length z2Y) 3 1 (zT.flatMap e3),row (.slice (some ⟨z4c,0,none⟩) zi.length 2) 67 2 z4L,stb z15 31 [(.slice z1K z4.fModules.length z1L),(.slice z1M z4.fChannels.length z1N),(.slice z1O z4.fSwitches.length z1P),(.slice z1Q z4.fLinks.length z1R),(.slice z1S z4.fVLs.length z1T),(.slice z1U z4.fHealth.length z1V),(.slice z1W z4.fCauses.length z1X),(.slice z1Y z4.fVersions.length z1Z)]]) ?_ ?_
            ·skip
             refine WC.block (WC.b ?_)
             obtain ⟨zgP,h⟩:=yi h
             refine WC.a ?_
             obtain ⟨zAd,zAe,zAf,zw5,⟨zcp,zcq,zeV,zeW,rfl,zw6,zw7⟩⟩:=RR.elem (Pr:=(p67 (Z ++ z3r))) zph zgP.1 zgP.2
             refine WL.a (d:=156) rfl rfl rfl (yu elT_68 rfl rfl zgP.1 zgP.2 y1f) ?_
             refine WL.a (d:=157) rfl rfl rfl (y1L (cs:=[(.slice zcp (((nth zi zp).fAll).length) zcq),(.slice zeV (((nth zi zp).fOwn).length) zeW)]) aggT_67 rfl rfl (y1X .h2 (drop_rd zw5))) ?_
             refine WL.new (dd:=30) rfl rfl rfl (y1Y (cs:=[(.slice none 0 0),(.slice none 0 0)]) zeroT_67 rfl) ?_
             intro zcr _
             refine WL.y1g rfl rfl (y1A sizT_67 rfl rfl rfl .here rfl rfl rfl) ?_
             refine WL.nil (WX.a (WC.b (WC.a (WL.pu rfl (WL.nil (WX.a ?_))))))
             obtain ⟨z8k,zw8,h⟩:=y1b h
             refine WC.y3Y (fun (z3I : List Sapi_Come) (z8o : Option Addr) (z8p : Nat)=>(z8k z3I = some r)) (fun (z3I : List Sapi_Come) (z8o : Option Addr) (z8p : Nat)=>[(1,(.int .i64 z1h)),(2,(.slice z1t zg.length z1u)),(3,(.slice z1G zB.length z1H)),(4,(.int .u16 zJ)),(5,(.pointer (some ⟨z15,0,none⟩))),(18,(.slice z28 zZ.length z29)),(19,(.slice z2a z10.length z2b)),(21,(.int .i64 zS)),(23,(.slice z2X zT.length z2Y)),(30,(.pointer (some ⟨zcr,0,none⟩))),(31,(.slice z8o z3I.length z8p)),(108,(.int .i64 zS)),(152,(.slice (some ⟨z4c,0,none⟩) zi.length 2)),(153,(.int .i64 ((([(⟨zZ,z14.1⟩ : S67),(⟨z10,z14.2.1⟩ : S67)] : List S67).length : Nat) : Int))),(154,(.int .i64 zp))]) (fun (z3I : List Sapi_Come) (z8o : Option Addr) (z8p : Nat)=>[fz z3r,row (.slice z2X zT.length z2Y) 3 1 (zT.flatMap e3),row (.slice z8o z3I.length z8p) 50 3 (z3I.flatMap e50),row (.slice (some ⟨z4c,0,none⟩) zi.length 2) 67 2 z4L,stb z15 31 [(.slice z1K z4.fModules.length z1L),(.slice z1M z4.fChannels.length z1N),(.slice z1O z4.fSwitches.length z1P),(.slice z1Q z4.fLinks.length z1R),(.slice z1S z4.fVLs.length z1T),(.slice z1U z4.fHealth.length z1V),(.slice z1W z4.fCauses.length z1X),(.slice z1Y z4.fVersions.length z1Z)],stb zcr 67 [(.slice zcp (((nth zi zp).fAll).length) zcq),(.slice zeV (((nth zi zp).fOwn).length) zeW)]]) ?_ ?_
             ·skip
              refine WC.b (WC.a ?_)
              refine WL.a (d:=158) rfl rfl rfl (ya fo_67_0 rfl rfl) ?_
              refine WL.a (d:=159) rfl rfl rfl (yb y5m rfl (yd .here rfl)) ?_
              refine WL.a (d:=160) rfl rfl rfl (yZ Try.underlying36 rfl) ?_
              refine WL.pu rfl (WL.nil (WX.a (WC.block ?_)))
              refine WC.nilRow 50 3 ?_
              refine WC.y6q (fun (zcs : Nat) (z2F : List Sapi_Come) (z1d : Int) (z92 : Option Addr) (z93 : Nat)=>(y1s zi zp zB zJ zS z8k zcs z2F z1d = some r)) (fun (zcs : Nat) (z2F : List Sapi_Come) (z1d : Int) (z92 : Option Addr) (z93 : Nat)=>[(1,(.int .i64 z1h)),(2,(.slice z1t zg.length z1u)),(3,(.slice z1G zB.length z1H)),(4,(.int .u16 zJ)),(5,(.pointer (some ⟨z15,0,none⟩))),(18,(.slice z28 zZ.length z29)),(19,(.slice z2a z10.length z2b)),(21,(.int .i64 zS)),(23,(.slice z2X zT.length z2Y)),(30,(.pointer (some ⟨zcr,0,none⟩))),(31,(.slice z92 z2F.length z93)),(108,(.int .i64 zS)),(152,(.slice (some ⟨z4c,0,none⟩) zi.length 2)),(153,(.int .i64 ((([(⟨zZ,z14.1⟩ : S67),(⟨z10,z14.2.1⟩ : S67)] : List S67).length : Nat) : Int))),(154,(.int .i64 zp)),(159,(.slice zcp (((nth zi zp).fAll).length) zcq)),(160,(.int .i64 ((((nth zi zp).fAll).length : Nat) : Int))),(161,(.int .i64 z1d))]) (fun (zcs : Nat) (z2F : List Sapi_Come) (z1d : Int) (z92 : Option Addr) (z93 : Nat)=>[fz z3r,row (.slice z2X zT.length z2Y) 3 1 (zT.flatMap e3),row (.slice z92 z2F.length z93) 50 3 (z2F.flatMap e50),row (.slice (some ⟨z4c,0,none⟩) zi.length 2) 67 2 z4L,stb z15 31 [(.slice z1K z4.fModules.length z1L),(.slice z1M z4.fChannels.length z1N),(.slice z1O z4.fSwitches.length z1P),(.slice z1Q z4.fLinks.length z1R),(.slice z1S z4.fVLs.length z1T),(.slice z1U z4.fHealth.length z1V),(.slice z1W z4.fCauses.length z1X),(.slice z1Y z4.fVersions.length z1Z)],stb zcr 67 [(.slice zcp (((nth zi zp).fAll).length) zcq),(.slice zeV (((nth zi zp).fOwn).length) zeW)]]) (fun (zcs : Nat) (z2F : List Sapi_Come) (z1d : Int) (z92 : Option Addr) (z93 : Nat)=>zcs) ⟨ys,([] : List Sapi_Come),0,none,0⟩ h (.cons rfl (.cons rfl (.cons rfl (.cons rfl (.cons rfl (.cons rfl (.cons rfl (.cons rfl (.cons rfl (.cons rfl (.cons rfl (.cons rfl (.cons rfl (.cons rfl (.cons rfl (.cons rfl (.cons rfl (.cons rfl .nil)))))))))))))))))) (.cons .h2 (.cons .h2 (.cons .here (.cons .h1 (.cons .h1 (.cons .here .nil)))))) ?_
              rintro zcs z2F z1d z92 z93 h
              obtain ⟨zks,rfl⟩:=y4R h
              rw [y1s] at h
              refine WC.b (WC.a (WL.pu rfl (WL.nil (WX.a (WC.b ?_)))))
              refine WC.cond rfl (fun zkR=>?_) (fun zkR=>?_)
              ·replace h:=yk h zkR
               refine WC.skip (WX.a ?_)
               obtain ⟨zgL,zw9,h⟩:=y1b h
               refine WC.y3Y (fun (z5T : List Sapi_Come) (zct : Option Addr) (zcu : Nat)=>(zgL z5T = some r)) (fun (z5T : List Sapi_Come) (zct : Option Addr) (zcu : Nat)=>[(1,(.int .i64 z1h)),(2,(.slice z1t zg.length z1u)),(3,(.slice z1G zB.length z1H)),(4,(.int .u16 zJ)),(5,(.pointer (some ⟨z15,0,none⟩))),(18,(.slice z28 zZ.length z29)),(19,(.slice z2a z10.length z2b)),(21,(.int .i64 zS)),(23,(.slice z2X zT.length z2Y)),(30,(.pointer (some ⟨zcr,0,none⟩))),(31,(.slice zct z5T.length zcu)),(108,(.int .i64 zS)),(152,(.slice (some ⟨z4c,0,none⟩) zi.length 2)),(153,(.int .i64 ((([(⟨zZ,z14.1⟩ : S67),(⟨z10,z14.2.1⟩ : S67)] : List S67).length : Nat) : Int))),(154,(.int .i64 zp)),(159,(.slice zcp (((nth zi zp).fAll).length) zcq)),(160,(.int .i64 ((((nth zi zp).fAll).length : Nat) : Int))),(161,(.int .i64 z1d))]) (fun (z5T : List Sapi_Come) (zct : Option Addr) (zcu : Nat)=>[fz z3r,row (.slice z2X zT.length z2Y) 3 1 (zT.flatMap e3),row (.slice zct z5T.length zcu) 50 3 (z5T.flatMap e50),row (.slice (some ⟨z4c,0,none⟩) zi.length 2) 67 2 z4L,stb z15 31 [(.slice z1K z4.fModules.length z1L),(.slice z1M z4.fChannels.length z1N),(.slice z1O z4.fSwitches.length z1P),(.slice z1Q z4.fLinks.length z1R),(.slice z1S z4.fVLs.length z1T),(.slice z1U z4.fHealth.length z1V),(.slice z1W z4.fCauses.length z1X),(.slice z1Y z4.fVersions.length z1Z)],stb zcr 67 [(.slice zcp (((nth zi zp).fAll).length) zcq),(.slice zeV (((nth zi zp).fOwn).length) zeW)]]) ?_ ?_
               ·skip
                refine WC.block (WC.b ?_)
                obtain ⟨zwa,h⟩:=yi h
                refine WC.a ?_
                refine WL.znth (dd:=163) rfl rfl (Z:=(Z ++ z3r)) (Pr:=(fun r x=>r = e50 x)) y14 rfl rfl zw6 zwa ?_
                rintro zAg zAh zwb zAi rfl
                refine WL.a (d:=164) rfl rfl rfl (yD y1T rfl (y3p (hz.pv2 .here) zwb) rfl) ?_
                refine WL.new (dd:=33) rfl rfl rfl (y1Y (cs:=[(.int .i64 0),(.int .i64 0),(.int .i64 0)]) y9e rfl) ?_
                intro zAj _
                refine WL.y1g rfl rfl (y1A y49 rfl rfl rfl .here rfl rfl rfl) ?_
                refine WL.nil (WX.a (WC.b ?_))
                obtain ⟨zwc,h⟩:=yi h
                obtain ⟨zwd,h⟩:=yi h
                refine WC.a (WL.pu rfl (WL.pu rfl ?_))
                refine WL.a (d:=167) rfl rfl rfl (ya y4Y rfl rfl) ?_
                refine WL.a (d:=168) rfl rfl rfl (yb yh rfl (yd .here rfl)) ?_
                refine WL.znth (dd:=169) rfl rfl (Z:=(Z ++ z3r)) (Pr:=(fun r x=>r = e53 x)) y43 rfl rfl (zgN.mono ((Zle.left _ _).trans (z3c.trans (zgO.trans zeU)))) zwc ?_
                rintro zAk zAl zwe zAm rfl
                refine WL.a (d:=170) rfl rfl rfl (ya y4E rfl rfl) ?_
                refine WL.a (d:=171) rfl rfl rfl (yb yh rfl (y2h (hz.pv2 .h1) zwe rfl)) ?_
                refine WL.a (d:=172) rfl rfl rfl (y6o rfl rfl zwd rfl) ?_
                refine WL.a (d:=173) rfl rfl rfl (q_and rfl rfl rfl) ?_
                refine WL.a (d:=174) rfl rfl rfl (y4w Try.underlying66 Try.underlying3 rfl rfl) ?_
                refine WL.pu rfl (WL.pu rfl (WL.nil (WX.a ?_)))
                refine WC.cond rfl (fun zkS=>?_) (fun zkS=>?_)
                ·replace h:=yk h zkS
                 obtain ⟨zwf,h⟩:=yi h
                 refine WC.a (WL.pu rfl ?_)
                 refine WL.a (d:=178) rfl rfl rfl (yD y1T rfl (y1h .here) rfl) ?_
                 refine WL.new (dd:=179) rfl rfl rfl (yS (cs:=([(⟨((nth ((nth zi zp).fAll) z1d).fSent),((nth ((nth zi zp).fAll) z1d).fNode),((nth ((nth zi zp).fAll) z1d).fTime)⟩ : Sapi_Come)] : List Sapi_Come).flatMap e50) y14 (Eos.parts (l:=[.tmp 178]) (.cons rfl .nil) [0]) (fun _=>by kernel_rfl) rfl (by unfold maxLen; omega)) ?_
                 intro zAn _
                 refine WL.eff (d:=180) rfl rfl rfl (y3W (enc:=e50) (l1:=z2F) (l2:=([(⟨((nth ((nth zi zp).fAll) z1d).fSent),((nth ((nth zi zp).fAll) z1d).fNode),((nth ((nth zi zp).fAll) z1d).fTime)⟩ : Sapi_Come)] : List Sapi_Come)) y14 rfl rfl .h4 (fun _=>rfl) rfl rfl (y4i .here) (y4p y7U _) zwf) ?_
                 rintro ⟨zwg,zwh⟩ _
                 refine WL.pu rfl (WL.nil (WX.yg ?_))
                 exact WX.mid (G:=List Sapi_Come × Option Addr × Nat) ⟨(z2F ++ ([(⟨((nth ((nth zi zp).fAll) z1d).fSent),((nth ((nth zi zp).fAll) z1d).fNode),((nth ((nth zi zp).fAll) z1d).fTime)⟩ : Sapi_Come)] : List Sapi_Come)),zwg,zwh⟩ h (.cons rfl (.cons rfl (.cons rfl (.cons rfl (.cons rfl (.cons rfl (.cons rfl (.cons rfl (.cons rfl (.cons rfl (.cons rfl (.cons rfl (.cons rfl (.cons rfl (.cons rfl (.cons rfl (.cons rfl (.cons rfl .nil)))))))))))))))))) (.cons .h3 (.cons .h3 (.cons .here (.cons .h2 (.cons .h2 (.cons .h2 .nil))))))
                ·replace h:=yl h zkS
                 refine WC.skip (WX.yg ?_)
                 exact WX.mid (G:=List Sapi_Come × Option Addr × Nat) ⟨z2F,z92,z93⟩ h (.cons rfl (.cons rfl (.cons rfl (.cons rfl (.cons rfl (.cons rfl (.cons rfl (.cons rfl (.cons rfl (.cons rfl (.cons rfl (.cons rfl (.cons rfl (.cons rfl (.cons rfl (.cons rfl (.cons rfl (.cons rfl .nil)))))))))))))))))) (.cons .h1 (.cons .h1 (.cons .h1 (.cons .h1 (.cons .h1 (.cons .h1 .nil))))))
               ·rintro z5T zct zcu h
                replace h:=(zw9 z5T).symm.trans h
                refine WC.a (WL.pu rfl (WL.pu rfl (WL.nil ?_)))
                exact WX.round (G:=Nat × List Sapi_Come × Int × Option Addr × Nat) ⟨zks,z5T,(i64 (z1d + 1)),zct,zcu⟩ h (Nat.lt_succ_self _) (.cons rfl (.cons rfl (.cons rfl (.cons rfl (.cons rfl (.cons rfl (.cons rfl (.cons rfl (.cons rfl (.cons rfl (.cons rfl (.cons rfl (.cons rfl (.cons rfl (.cons rfl (.cons rfl (.cons rfl (.cons rfl .nil)))))))))))))))))) (.cons .here (.cons .here (.cons .here (.cons .here (.cons .here (.cons .here .nil))))))
              ·replace h:=yl h zkR
               refine WC.exit (WX.yc (WX.yc (WX.yt ?_)))
               exact WX.mid (G:=List Sapi_Come × Option Addr × Nat) ⟨z2F,z92,z93⟩ h (.cons rfl (.cons rfl (.cons rfl (.cons rfl (.cons rfl (.cons rfl (.cons rfl (.cons rfl (.cons rfl (.cons rfl (.cons rfl (.cons rfl (.cons rfl (.cons rfl (.cons rfl .nil))))))))))))))) (.cons .here (.cons .here (.cons .here (.cons .here (.cons .here (.cons .here .nil))))))
             ·rintro z3I z8o z8p h
              replace h:=(zw8 z3I).symm.trans h
              refine WC.b (WC.a (WL.pu rfl (WL.nil (WX.a ?_))))
              obtain ⟨z8l,zwi,h⟩:=y1b h
              refine WC.y3Y (fun (z75 : List Sapi_Come) (zeX : Option Addr) (zeY : Nat)=>(z8l z75 = some r)) (fun (z75 : List Sapi_Come) (zeX : Option Addr) (zeY : Nat)=>[(1,(.int .i64 z1h)),(2,(.slice z1t zg.length z1u)),(3,(.slice z1G zB.length z1H)),(4,(.int .u16 zJ)),(5,(.pointer (some ⟨z15,0,none⟩))),(18,(.slice z28 zZ.length z29)),(19,(.slice z2a z10.length z2b)),(21,(.int .i64 zS)),(23,(.slice z2X zT.length z2Y)),(31,(.slice z8o z3I.length z8p)),(34,(.slice zeX z75.length zeY)),(108,(.int .i64 zS)),(152,(.slice (some ⟨z4c,0,none⟩) zi.length 2)),(153,(.int .i64 ((([(⟨zZ,z14.1⟩ : S67),(⟨z10,z14.2.1⟩ : S67)] : List S67).length : Nat) : Int))),(154,(.int .i64 zp))]) (fun (z75 : List Sapi_Come) (zeX : Option Addr) (zeY : Nat)=>[fz z3r,row (.slice z2X zT.length z2Y) 3 1 (zT.flatMap e3),row (.slice z8o z3I.length z8p) 50 3 (z3I.flatMap e50),row (.slice zeX z75.length zeY) 50 3 (z75.flatMap e50),row (.slice (some ⟨z4c,0,none⟩) zi.length 2) 67 2 z4L,stb z15 31 [(.slice z1K z4.fModules.length z1L),(.slice z1M z4.fChannels.length z1N),(.slice z1O z4.fSwitches.length z1P),(.slice z1Q z4.fLinks.length z1R),(.slice z1S z4.fVLs.length z1T),(.slice z1U z4.fHealth.length z1V),(.slice z1W z4.fCauses.length z1X),(.slice z1Y z4.fVersions.length z1Z)]]) ?_ ?_
              ·skip
               refine WC.b (WC.a ?_)
               refine WL.a (d:=182) rfl rfl rfl (ya fo_67_1 rfl rfl) ?_
               refine WL.a (d:=183) rfl rfl rfl (yb y5m rfl (yd .h5 rfl)) ?_
               refine WL.a (d:=184) rfl rfl rfl (yZ Try.underlying36 rfl) ?_
               refine WL.pu rfl (WL.nil (WX.a (WC.block ?_)))
               refine WC.nilRow 50 3 ?_
               refine WC.y6q (fun (zcv : Nat) (z3b : List Sapi_Come) (z13 : Int) (zam : Option Addr) (zan : Nat)=>(y1t zi zp zT z8l zcv z3b z13 = some r)) (fun (zcv : Nat) (z3b : List Sapi_Come) (z13 : Int) (zam : Option Addr) (zan : Nat)=>[(1,(.int .i64 z1h)),(2,(.slice z1t zg.length z1u)),(3,(.slice z1G zB.length z1H)),(4,(.int .u16 zJ)),(5,(.pointer (some ⟨z15,0,none⟩))),(18,(.slice z28 zZ.length z29)),(19,(.slice z2a z10.length z2b)),(21,(.int .i64 zS)),(23,(.slice z2X zT.length z2Y)),(31,(.slice z8o z3I.length z8p)),(34,(.slice zam z3b.length zan)),(108,(.int .i64 zS)),(152,(.slice (some ⟨z4c,0,none⟩) zi.length 2)),(153,(.int .i64 ((([(⟨zZ,z14.1⟩ : S67),(⟨z10,z14.2.1⟩ : S67)] : List S67).length : Nat) : Int))),(154,(.int .i64 zp)),(183,(.slice zeV (((nth zi zp).fOwn).length) zeW)),(184,(.int .i64 ((((nth zi zp).fOwn).length : Nat) : Int))),(185,(.int .i64 z13))]) (fun (zcv : Nat) (z3b : List Sapi_Come) (z13 : Int) (zam : Option Addr) (zan : Nat)=>[fz z3r,row (.slice z2X zT.length z2Y) 3 1 (zT.flatMap e3),row (.slice z8o z3I.length z8p) 50 3 (z3I.flatMap e50),row (.slice zam z3b.length zan) 50 3 (z3b.flatMap e50),row (.slice (some ⟨z4c,0,none⟩) zi.length 2) 67 2 z4L,stb z15 31 [(.slice z1K z4.fModules.length z1L),(.slice z1M z4.fChannels.length z1N),(.slice z1O z4.fSwitches.length z1P),(.slice z1Q z4.fLinks.length z1R),(.slice z1S z4.fVLs.length z1T),(.slice z1U z4.fHealth.length z1V),(.slice z1W z4.fCauses.length z1X),(.slice z1Y z4.fVersions.length z1Z)]]) (fun (zcv : Nat) (z3b : List Sapi_Come) (z13 : Int) (zam : Option Addr) (zan : Nat)=>zcv) ⟨ys,([] : List Sapi_Come),0,none,0⟩ h (.cons rfl (.cons rfl (.cons rfl (.cons rfl (.cons rfl (.cons rfl (.cons rfl (.cons rfl (.cons rfl (.cons rfl (.cons rfl (.cons rfl (.cons rfl (.cons rfl (.cons rfl (.cons rfl (.cons rfl (.cons rfl .nil)))))))))))))))))) (.cons .h1 (.cons .h1 (.cons .h1 (.cons .here (.cons .here (.cons .here .nil)))))) ?_
               rintro zcv z3b z13 zam zan h
               obtain ⟨zkt,rfl⟩:=y4S h
               rw [y1t] at h
               refine WC.b (WC.a (WL.pu rfl (WL.nil (WX.a (WC.b ?_)))))
               refine WC.cond rfl (fun zkT=>?_) (fun zkT=>?_)
               ·replace h:=yk h zkT
                refine WC.skip (WX.a (WC.b (WC.block (WC.b ?_))))
                obtain ⟨zwj,h⟩:=yi h
                refine WC.a ?_
                refine WL.znth (dd:=187) rfl rfl (Z:=(Z ++ z3r)) (Pr:=(fun r x=>r = e50 x)) y14 rfl rfl zw7 zwj ?_
                rintro zAo zAp zwk zAq rfl
                refine WL.a (d:=188) rfl rfl rfl (yD y1T rfl (y3p (hz.pv2 .here) zwk) rfl) ?_
                refine WL.new (dd:=36) rfl rfl rfl (y1Y (cs:=[(.int .i64 0),(.int .i64 0),(.int .i64 0)]) y9e rfl) ?_
                intro zAr _
                refine WL.y1g rfl rfl (y1A y49 rfl rfl rfl .here rfl rfl rfl) ?_
                refine WL.nil (WX.a (WC.b (WC.b (WC.a ?_))))
                refine WL.a (d:=189) rfl rfl rfl (ya y4Y rfl rfl) ?_
                refine WL.a (d:=190) rfl rfl rfl (yb yh rfl (yd .here rfl)) ?_
                refine WL.pu rfl (WL.pu rfl ?_)
                refine WL.seg false 5 192 (B:=(decide (((nth ((nth zi zp).fOwn) z13).fSent) < 0)) || (decide (((nth ((nth zi zp).fOwn) z13).fSent) ≥ ((zT.length : Nat) : Int)))) rfl rfl rfl rfl rfl rfl (fun h=>(y2m h).symm) (fun _ zwl=>?_) ?_
                ·skip
                 refine WL.a (d:=193) rfl rfl rfl (ya y4Y rfl rfl) ?_
                 refine WL.a (d:=194) rfl rfl rfl (yb yh rfl (yd .here rfl)) ?_
                 refine WL.pu rfl ?_
                 refine WL.a (d:=196) rfl rfl rfl (yZ Try.underlying56 rfl) ?_
                 refine WL.pu rfl (WL.pu rfl ?_)
                 exact WL.yz (y2n zwl) rfl rfl .all
                refine WL.nil (WX.a ?_)
                refine WC.cond rfl (fun zkU=>?_) (fun zkU=>?_)
                ·replace h:=yk h zkU
                 refine WC.b (WC.a (WL.pu rfl (WL.nil (WX.a (WC.ret (WX.ye (WX.yr (WX.ye (WX.ye (WX.yr (WX.ye (WX.yr (WX.ye (WX.ye (WX.yr ?_)))))))))))))))
                 refine WX.ye (WX.yr (WX.ye (WX.ye (WX.yr (WX.ye ?_)))))
                 obtain rfl:=Option.some.inj h
                 refine WX.yj Try.results6 (.tmp rfl .nil) (fun w hw=>?_)
                 exact ⟨z3r,y10 rfl,trivial,hw.sub (.cons .h1 .nil)⟩
                ·replace h:=yl h zkU
                 refine WC.skip (WX.a (WC.b ?_))
                 obtain ⟨zeZ,h⟩:=yi h
                 refine WC.a (WL.pu rfl ?_)
                 refine WL.a (d:=200) rfl rfl rfl (ya y4Y rfl rfl) ?_
                 refine WL.a (d:=201) rfl rfl rfl (yb yh rfl (yd .here rfl)) ?_
                 refine WL.know (fun w hw=>Hp.y2G .h2 hw (by intro hz'; have:=zeZ; rw [hz'] at this; omega)) ?_
                 rintro ⟨zAs,rfl⟩
                 refine WL.a (d:=202) rfl rfl rfl (yu y56 rfl rfl zeZ.1 zeZ.2 y1f) ?_
                 refine WL.a (d:=203) rfl rfl rfl (yb yh rfl (y8X .h2 ((y1S (enc:=e3) (l:=zT) (i:=((nth ((nth zi zp).fOwn) z13).fSent)) (sz:=1) (fun _=>rfl) zeZ.1 zeZ.2) 0 _ rfl))) ?_
                 refine WL.a (d:=204) rfl rfl rfl (ya y4Y rfl rfl) ?_
                 refine WL.y1g rfl rfl (y3Z (ds:=[(.int .i64 (nth zT ((nth ((nth zi zp).fOwn) z13).fSent))),(.int .i64 ((nth ((nth zi zp).fOwn) z13).fNode)),(.int .i64 ((nth ((nth zi zp).fOwn) z13).fTime))]) y7W rfl rfl rfl rfl rfl .here rfl rfl) ?_
                 refine WL.nil (WX.a ?_)
                 obtain ⟨zwm,h⟩:=yi h
                 refine WC.a (WL.pu rfl ?_)
                 refine WL.a (d:=206) rfl rfl rfl (yD y1T rfl (y1h .here) rfl) ?_
                 refine WL.new (dd:=207) rfl rfl rfl (yS (cs:=([(⟨(nth zT ((nth ((nth zi zp).fOwn) z13).fSent)),((nth ((nth zi zp).fOwn) z13).fNode),((nth ((nth zi zp).fOwn) z13).fTime)⟩ : Sapi_Come)] : List Sapi_Come).flatMap e50) y14 (Eos.parts (l:=[.tmp 206]) (.cons rfl .nil) [0]) (fun _=>by kernel_rfl) rfl (by unfold maxLen; omega)) ?_
                 intro zAt _
                 refine WL.eff (d:=208) rfl rfl rfl (y3W (enc:=e50) (l1:=z3b) (l2:=([(⟨(nth zT ((nth ((nth zi zp).fOwn) z13).fSent)),((nth ((nth zi zp).fOwn) z13).fNode),((nth ((nth zi zp).fOwn) z13).fTime)⟩ : Sapi_Come)] : List Sapi_Come)) y14 rfl rfl .h5 (fun _=>rfl) rfl rfl (y4i .here) (y4p y7U _) zwm) ?_
                 rintro ⟨zwn,zwo⟩ _
                 refine WL.pu rfl (WL.nil (WX.yg (WX.a (WC.a (WL.pu rfl (WL.pu rfl (WL.nil ?_)))))))
                 exact WX.round (G:=Nat × List Sapi_Come × Int × Option Addr × Nat) ⟨zkt,(z3b ++ ([(⟨(nth zT ((nth ((nth zi zp).fOwn) z13).fSent)),((nth ((nth zi zp).fOwn) z13).fNode),((nth ((nth zi zp).fOwn) z13).fTime)⟩ : Sapi_Come)] : List Sapi_Come)),(i64 (z13 + 1)),zwn,zwo⟩ h (Nat.lt_succ_self _) (.cons rfl (.cons rfl (.cons rfl (.cons rfl (.cons rfl (.cons rfl (.cons rfl (.cons rfl (.cons rfl (.cons rfl (.cons rfl (.cons rfl (.cons rfl (.cons rfl (.cons rfl (.cons rfl (.cons rfl (.cons rfl .nil)))))))))))))))))) (.cons .h3 (.cons .h3 (.cons .h3 (.cons .here (.cons .h2 (.cons .h2 .nil))))))
               ·replace h:=yl h zkT
                refine WC.exit (WX.yc (WX.yc (WX.yt ?_)))
                exact WX.mid (G:=List Sapi_Come × Option Addr × Nat) ⟨z3b,zam,zan⟩ h (.cons rfl (.cons rfl (.cons rfl (.cons rfl (.cons rfl (.cons rfl (.cons rfl (.cons rfl (.cons rfl (.cons rfl (.cons rfl (.cons rfl (.cons rfl (.cons rfl (.cons rfl .nil))))))))))))))) (.cons .here (.cons .here (.cons .here (.cons .here (.cons .here (.cons .here .nil))))))
              ·rintro z75 zeX zeY h
               replace h:=(zwi z75).symm.trans h
               refine WC.b ?_
               obtain ⟨zp7,zwp,h⟩:=zn h
               refine WC.a (WL.pu rfl (WL.pu rfl ?_))
               refine WL.b (dd:=212) rfl rfl rfl (zE (l:=[.tmp 210,.tmp 211]) Try.call14 (.cons rfl (.cons rfl .nil))) .nil (cclz hz .nil .here (.cons .h2 (.cons .h2 .nil)) fun w pz ho la=>y5C _ _ _ _ _ _ _ _ zwp w pz (ZA.row (la _ (.head _) _) (RR.y16 (enc:=e50) (fun _=>rfl) _) ⟨w,pz.1⟩) (ZA.row (la _ (.tail _ (.head _)) _) (RR.y16 (enc:=e50) (fun _=>rfl) _) ⟨w,pz.1⟩)) ?_
               refine WL.pu rfl (WL.nil (WX.a ?_))
               refine WC.cond rfl (fun zkV=>?_) (fun zkV=>?_)
               ·replace h:=yk h zkV
                refine WC.b (WC.a (WL.pu rfl (WL.nil (WX.a (WC.ret (WX.yr (WX.ye (WX.ye (WX.yr (WX.ye (WX.yr (WX.ye (WX.ye (WX.yr (WX.ye ?_)))))))))))))))
                obtain rfl:=Option.some.inj h
                refine WX.yj Try.results6 (.tmp rfl .nil) (fun w hw=>?_)
                exact ⟨z3r,y10 rfl,trivial,hw.sub (.cons .here .nil)⟩
               ·replace h:=yl h zkV
                refine WC.skip (WX.yg ?_)
                exact WX.mid (G:=Unit) () h (.cons rfl (.cons rfl (.cons rfl (.cons rfl (.cons rfl (.cons rfl (.cons rfl (.cons rfl (.cons rfl (.cons rfl (.cons rfl (.cons rfl (.cons rfl .nil))))))))))))) (.cons .here (.cons .here (.cons .h2 (.cons .h2 .nil))))
            ·rintro  h
             replace h:=zw4.symm.trans h
             refine WC.a (WL.pu rfl (WL.pu rfl (WL.nil ?_)))
             exact WX.round (G:=Nat × List S67 × Int × List Value) ⟨zku,zi,(i64 (zp + 1)),z4L⟩ ⟨h,zph⟩ (Nat.lt_succ_self _) (.cons rfl (.cons rfl (.cons rfl (.cons rfl (.cons rfl (.cons rfl (.cons rfl (.cons rfl (.cons rfl (.cons rfl (.cons rfl (.cons rfl (.cons rfl .nil))))))))))))) (.cons .here (.cons .here (.cons .here (.cons .here .nil))))
           ·replace h:=yl h zkQ
            refine WC.exit (WX.yc (WX.yc (WX.yt ?_)))
            exact WX.mid (G:=Unit) () h (.cons rfl (.cons rfl (.cons rfl (.cons rfl (.cons rfl (.cons rfl (.cons rfl (.cons rfl .nil)))))))) (.cons .here (.cons .h2 .nil))
          ·rintro  h
           replace h:=zw3.symm.trans h
           refine WX.yg ?_
           exact WX.mid (G:=Zp) z3r ⟨h,(zgO.trans zeU)⟩ (.cons rfl (.cons rfl (.cons rfl (.cons rfl (.cons rfl (.cons rfl (.cons rfl (.cons rfl .nil)))))))) (.cons .here (.cons .here .nil))
       ·rintro zci ⟨h,zkW⟩
        replace h:=zvN.symm.trans h
        refine WC.a (WL.pu rfl (WL.pu rfl (WL.nil ?_)))
        exact WX.round (G:=Nat × List Sapi_Come × List Sapi_Come × Int × Zp × Option Addr × Nat × Option Addr × Nat) ⟨zkw,zZ,z10,(i64 (zS + 1)),zci,z28,z29,z2a,z2b⟩ ⟨h,(z3c.trans zkW),(zpf.mono zkW),(zpg.mono zkW)⟩ (Nat.lt_succ_self _) (.cons rfl (.cons rfl (.cons rfl (.cons rfl (.cons rfl (.cons rfl (.cons rfl (.cons rfl .nil)))))))) (.cons .here (.cons .here .nil))
      ·replace h:=yl h zkM
       refine WC.exit (WX.yc (WX.yc (WX.yt ?_)))
       exact WX.mid (G:=Zp) z3W ⟨h,z3c⟩ .nil (.cons .here .nil)
     ·rintro zcg ⟨h,zAu⟩
      replace h:=zvI.symm.trans h
      refine WC.b ?_
      obtain ⟨zpa,zwq,h⟩:=zn h
      refine WC.a ?_
      refine WL.y6V (dd:=216) rfl rfl rfl (zE (l:=[]) Try.call11 .nil) .nil (ccz hz .nil .here fun w pz ho=>y5a _ _ zwq w pz ) ?_
      rintro zwr _
      refine WL.merge .here .here ?_
      refine WL.pu rfl (WL.nil (WX.a (WC.ret ?_)))
      obtain rfl:=Option.some.inj h
      refine WX.yj Try.results6 (.tmp rfl .nil) (fun w hw=>?_)
      exact ⟨(zcg ++ zwr),y10 rfl,trivial,hw.sub (.cons .here .nil)⟩
end Go.Proofs.Ytinchjigeakocaa

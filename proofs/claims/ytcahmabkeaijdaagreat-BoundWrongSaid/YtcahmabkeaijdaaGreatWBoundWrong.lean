/- A part of this claim's proof: models of functions, walks, plain laws. No conditions. -/
import Derived.Test.YtcahmabkeaijdaaGreatW35xf
set_option linter.all false
namespace Go.Proofs.YtcahmabkeaijdaaGreat
open Go Go.RowKit Sep
set_option maxRecDepth 30000
set_option maxHeartbeats 4000000
def y2D (z1j : List (List Sapi_Hop)) (zb3 : Bool → (List Sapi_VL) → Option Bool) : Nat → Bool → Int → (List Sapi_VL) → Option Bool
 | 0,_,_,_=>none
 | zwn + 1,z5R,z4D,z5v=>if decide (z4D < ((z1j.length : Nat) : Int)) then chk ((0 : Int) ≤ z4D ∧ z4D < ((z1j.length : Nat) : Int)) (y2D z1j zb3 zwn (z5R && (decide ((((nth z1j z4D).length : Nat) : Int) = 0))) (i64 (z4D + 1)) z5v) else zb3 z5R z5v
theorem y8p {n : Nat} {z1j : List (List Sapi_Hop)} {zb3 : Bool → (List Sapi_VL) → Option Bool} {z5R : Bool} {z4D : Int} {z5v : List Sapi_VL} {r : Bool} (h : y2D z1j zb3 n z5R z4D z5v = some r) : ∃ m,n = m + 1:=by
 cases n with
 | zero=>cases h
 | succ m=>exact ⟨m,rfl⟩
def y3P (zb4 : (List (List Sapi_Hop)) → (List Sapi_VL) → Option Bool) : Nat → (List (List Sapi_Hop)) → Int → (List Sapi_VL) → Option Bool
 | 0,_,_,_=>none
 | zwo + 1,z3G,z7j,z3l=>if decide (z7j < 2) then chk ((((z3l ++ ([(⟨⟨#[]⟩,(⟨⟨#[]⟩,⟨#[]⟩,⟨#[]⟩⟩ : Sapi_Ref),100,51,[]⟩ : Sapi_VL)] : List Sapi_VL)).length : Nat) : Int) * 104 ≤ 140737488355328 ∧ (((z3l ++ ([(⟨⟨#[]⟩,(⟨⟨#[]⟩,⟨#[]⟩,⟨#[]⟩⟩ : Sapi_Ref),100,51,[]⟩ : Sapi_VL)] : List Sapi_VL)).length : Nat) : Int) ≤ 4611686018427387904) (chk ((((z3G ++ ([([(⟨0,2,0⟩ : Sapi_Hop),(⟨2,1,1⟩ : Sapi_Hop)] : List Sapi_Hop)] : List (List Sapi_Hop))).length : Nat) : Int) * 24 ≤ 140737488355328 ∧ (((z3G ++ ([([(⟨0,2,0⟩ : Sapi_Hop),(⟨2,1,1⟩ : Sapi_Hop)] : List Sapi_Hop)] : List (List Sapi_Hop))).length : Nat) : Int) ≤ 4611686018427387904) (y3P zb4 zwo (z3G ++ ([([(⟨0,2,0⟩ : Sapi_Hop),(⟨2,1,1⟩ : Sapi_Hop)] : List Sapi_Hop)] : List (List Sapi_Hop))) (i64 (z7j + 1)) (z3l ++ ([(⟨⟨#[]⟩,(⟨⟨#[]⟩,⟨#[]⟩,⟨#[]⟩⟩ : Sapi_Ref),100,51,[]⟩ : Sapi_VL)] : List Sapi_VL)))) else zb4 z3G z3l
theorem y8q {n : Nat} {zb4 : (List (List Sapi_Hop)) → (List Sapi_VL) → Option Bool} {z3G : List (List Sapi_Hop)} {z7j : Int} {z3l : List Sapi_VL} {r : Bool} (h : y3P zb4 n z3G z7j z3l = some r) : ∃ m,n = m + 1:=by
 cases n with
 | zero=>cases h
 | succ m=>exact ⟨m,rfl⟩
def y5x (z7 : Sapi_Config) (z38 : Int) (z1j : List (List Sapi_Hop)) (zk : Int) (z9a : Int) : Option Bool :=
 (y78 z7 z1j).bind fun zwp=>if (!zwp) || (decide (((z7.fVLs.length : Nat) : Int) = 0)) then (y4D).bind fun zE6=>some zE6 else (y23 z7 z38 z1j).bind fun zE7=>if decide (zE7.2 ≠ 0) then (y4D).bind fun zE8=>some zE8 else chk ((((z7.fVLs.length : Nat) : Int) : Int) ≠ 0) (chk ((((([] : List Sapi_VL) ++ z7.fVLs).length : Nat) : Int) * 104 ≤ 140737488355328 ∧ (((([] : List Sapi_VL) ++ z7.fVLs).length : Nat) : Int) ≤ 4611686018427387904) (jp4 (fun (zdg : Int) (zb5 : List (List Sapi_Hop)) (zb6 : Int) (z9b : List Sapi_VL)=>(y23 ({z7 with fVLs:=z9b} : Sapi_Config) zdg zb5).bind fun zf5=>if (decide (zf5.2 ≠ zb6)) || (decide ((i64 (((zf5.1.fPorts.length : Nat) : Int) + ((zf5.1.fEnds.length : Nat) : Int))) ≠ 0)) then some false else (y6n).bind fun zP=>jp2 (fun (z7Z : List (List Sapi_Hop)) (z42 : List Sapi_VL)=>(y23 ({zP.1 with fVLs:=z42} : Sapi_Config) 0 z7Z).bind fun zwq=>chk ((0 : Int) ≤ 0 ∧ 0 < ((z42.length : Nat) : Int)) ((y23 ({zP.1 with fVLs:=z42.set (0 : Int).toNat ({(nth z42 0) with fMax:=49} : Sapi_VL)} : Sapi_Config) 0 z7Z).bind fun zwr=>(if (decide (zwq.2 = 352)) && (decide (zwr.2 = 0)) then (y4D).bind fun zE9=>some zE9 else some false).bind fun zws=>some zws)) fun zb4=>y3P zb4 yz ([] : List (List Sapi_Hop)) 0 ([] : List Sapi_VL)) fun zb7=>if decide ((Int.tmod z9a 6) = 0) then chk ((0 : Int) ≤ (Int.tmod (i64 zk) ((z7.fVLs.length : Nat) : Int)) ∧ (Int.tmod (i64 zk) ((z7.fVLs.length : Nat) : Int)) < (((([] : List Sapi_VL) ++ z7.fVLs).length : Nat) : Int)) (zb7 z38 z1j 350 ((([] : List Sapi_VL) ++ z7.fVLs).set ((Int.tmod (i64 zk) ((z7.fVLs.length : Nat) : Int)) : Int).toNat ({(nth (([] : List Sapi_VL) ++ z7.fVLs) (Int.tmod (i64 zk) ((z7.fVLs.length : Nat) : Int))) with fBag:=150} : Sapi_VL))) else if decide ((Int.tmod z9a 6) = 1) then chk ((0 : Int) ≤ (Int.tmod (i64 zk) ((z7.fVLs.length : Nat) : Int)) ∧ (Int.tmod (i64 zk) ((z7.fVLs.length : Nat) : Int)) < (((([] : List Sapi_VL) ++ z7.fVLs).length : Nat) : Int)) (zb7 z38 z1j 350 ((([] : List Sapi_VL) ++ z7.fVLs).set ((Int.tmod (i64 zk) ((z7.fVLs.length : Nat) : Int)) : Int).toNat ({(nth (([] : List Sapi_VL) ++ z7.fVLs) (Int.tmod (i64 zk) ((z7.fVLs.length : Nat) : Int))) with fBag:=25600} : Sapi_VL))) else if decide ((Int.tmod z9a 6) = 2) then chk ((0 : Int) ≤ (Int.tmod (i64 zk) ((z7.fVLs.length : Nat) : Int)) ∧ (Int.tmod (i64 zk) ((z7.fVLs.length : Nat) : Int)) < (((([] : List Sapi_VL) ++ z7.fVLs).length : Nat) : Int)) (zb7 z38 z1j 350 ((([] : List Sapi_VL) ++ z7.fVLs).set ((Int.tmod (i64 zk) ((z7.fVLs.length : Nat) : Int)) : Int).toNat ({(nth (([] : List Sapi_VL) ++ z7.fVLs) (Int.tmod (i64 zk) ((z7.fVLs.length : Nat) : Int))) with fMax:=0} : Sapi_VL))) else if decide ((Int.tmod z9a 6) = 3) then chk ((0 : Int) ≤ (Int.tmod (i64 zk) ((z7.fVLs.length : Nat) : Int)) ∧ (Int.tmod (i64 zk) ((z7.fVLs.length : Nat) : Int)) < (((([] : List Sapi_VL) ++ z7.fVLs).length : Nat) : Int)) (chk ((0 : Int) ≤ (Int.tmod (i64 zk) ((z7.fVLs.length : Nat) : Int)) ∧ (Int.tmod (i64 zk) ((z7.fVLs.length : Nat) : Int)) < ((((([] : List Sapi_VL) ++ z7.fVLs).set ((Int.tmod (i64 zk) ((z7.fVLs.length : Nat) : Int)) : Int).toNat ({(nth (([] : List Sapi_VL) ++ z7.fVLs) (Int.tmod (i64 zk) ((z7.fVLs.length : Nat) : Int))) with fMax:=73} : Sapi_VL)).length : Nat) : Int)) (zb7 z38 z1j 350 (((([] : List Sapi_VL) ++ z7.fVLs).set ((Int.tmod (i64 zk) ((z7.fVLs.length : Nat) : Int)) : Int).toNat ({(nth (([] : List Sapi_VL) ++ z7.fVLs) (Int.tmod (i64 zk) ((z7.fVLs.length : Nat) : Int))) with fMax:=73} : Sapi_VL)).set ((Int.tmod (i64 zk) ((z7.fVLs.length : Nat) : Int)) : Int).toNat ({(nth ((([] : List Sapi_VL) ++ z7.fVLs).set ((Int.tmod (i64 zk) ((z7.fVLs.length : Nat) : Int)) : Int).toNat ({(nth (([] : List Sapi_VL) ++ z7.fVLs) (Int.tmod (i64 zk) ((z7.fVLs.length : Nat) : Int))) with fMax:=73} : Sapi_VL)) (Int.tmod (i64 zk) ((z7.fVLs.length : Nat) : Int))) with fBag:=0} : Sapi_VL)))) else if decide ((Int.tmod z9a 6) = 4) then chk ((0 : Int) ≤ 1 ∧ (1 : Int) ≤ (z1j.length : Int) ∧ (z1j.length : Int) ≤ ((z1j.length : Nat) : Int)) (zb7 z38 (z1j.drop (1 : Int).toNat) 310 (([] : List Sapi_VL) ++ z7.fVLs)) else if decide ((Int.tmod z9a 6) = 5) then jp2 (fun (zdh : Bool) (z80 : List Sapi_VL)=>if zdh then (y4D).bind fun zEa=>some zEa else zb7 (i64 (1 - z38)) z1j 310 z80) fun zb3=>y2D z1j zb3 yz true 0 (([] : List Sapi_VL) ++ z7.fVLs) else zb7 z38 z1j 350 (([] : List Sapi_VL) ++ z7.fVLs)))
theorem yb2 (Z : Zp) (z6m : Option Addr) (z6n : Nat) (z6o : Option Addr) (z6p : Nat) (z6q : Option Addr) (z6r : Nat) (z6s : Option Addr) (z6t : Nat) (zo9 : Option Addr) (zoa : Nat) (z6u : Option Addr) (z6v : Nat) (z6w : Option Addr) (z6x : Nat) (z6y : Option Addr) (z6z : Nat) (z7k : Option Addr) (z7l : Nat) (z7 : Sapi_Config) (z38 : Int) (z1j : List (List Sapi_Hop)) (zk : Int) (z9a : Int) (r : Bool)
  (h : y5x z7 z38 z1j zk z9a = some r) (w₀ : World) (hz : PZ [] w₀ Z)
  (zwt : ZS Z 4 (y4e Z) z6m z6n z7.fModules)
  (zwu : ZS Z 4 (y4M Z) z6o z6p z7.fChannels)
  (zwv : ZS Z 4 (fun r x=>r = e66 x) z6q z6r z7.fSwitches)
  (zww : ZS Z 4 (fun r x=>r = e64 x) z6s z6t z7.fLinks)
  (zwx : ZS Z 7 (p46 Z) zo9 zoa z7.fVLs)
  (zwy : ZS Z 5 (fun r x=>r = y4Z x) z6u z6v z7.fHealth)
  (zwz : ZS Z 3 (y4N Z) z6w z6x z7.fCauses)
  (zwA : ZS Z 4 (fun r x=>r = y50 x) z6y z6z z7.fVersions)
  (z9c : ZS Z 1 (p48 Z) z7k z7l z1j) :
  Calls Tryz.prog 6 #[(.agg #[(.slice z6m z7.fModules.length z6n),(.slice z6o z7.fChannels.length z6p),(.slice z6q z7.fSwitches.length z6r),(.slice z6s z7.fLinks.length z6t),(.slice zo9 z7.fVLs.length zoa),(.slice z6u z7.fHealth.length z6v),(.slice z6w z7.fCauses.length z6x),(.slice z6y z7.fVersions.length z6z)]),(.int .i64 z38),(.slice z7k z1j.length z7l),(.int .u8 zk),(.int .u8 z9a)] w₀ fun e w'=>e = .returned (.bool r) ∧ Hp [] w₀ w' []:=by
 unfold y5x at h
 refine Calls.on5 Tryz.func6 Tryz.ntmps6 ?_
 refine WC.pool (WC.b (WC.a (WL.nA 5 (yH (cs:=[(.slice z6m z7.fModules.length z6n),(.slice z6o z7.fChannels.length z6p),(.slice z6q z7.fSwitches.length z6r),(.slice z6s z7.fLinks.length z6t),(.slice zo9 z7.fVLs.length zoa),(.slice z6u z7.fHealth.length z6v),(.slice z6w z7.fCauses.length z6x),(.slice z6y z7.fVersions.length z6z)]) rfl rfl) ?_)))
 intro z106 _
 refine WL.pu rfl (WL.nil (WX.a (WC.b (WC.b ?_))))
 obtain ⟨zwp,zRS,h⟩:=z6 h
 refine WC.a (WL.qA 27 (yf y2z rfl (yh .here) rfl) (WL.pu rfl (WL.cA 29 (z8 Tryz.call8 (.r2 rfl rfl)) .nil (ccz hz .nil .h1 fun w pz ho=>yed _ _ _ _ _ _ _ _ _ _ _ _ _ _ _ _ _ _ _ _ _ _ zRS w pz ((zwt.mono (Zle.left _ _)).weak (fun _ _ h=>y1t (Zle.left _ _) h)) ((zwu.mono (Zle.left _ _)).weak (fun _ _ h=>y1A (Zle.left _ _) h)) (zwv.mono (Zle.left _ _)) (zww.mono (Zle.left _ _)) ((zwx.mono (Zle.left _ _)).weak (fun _ _ h=>y1C (Zle.left _ _) h)) (zwy.mono (Zle.left _ _)) ((zwz.mono (Zle.left _ _)).weak (fun _ _ h=>y1B (Zle.left _ _) h)) (zwA.mono (Zle.left _ _)) ((z9c.mono (Zle.left _ _)).weak (fun _ _ h=>y1e (Zle.left _ _) h))) (WL.pu rfl (WL.pu rfl (WL.seg false 4 31 (B:=(!zwp) || (decide (((z7.fVLs.length : Nat) : Int) = 0))) rfl rfl rfl rfl rfl rfl (fun h=>(y6v h).symm) (fun _ zRT=>?_) ?_))))))
 ·skip
  refine WL.qA 32 (ya y2R rfl rfl) (WL.qA 33 (yc y3z rfl (ym .here rfl)) (WL.qA 34 (yG Tryz.underlying26 rfl) (WL.pu rfl (WL.pu rfl ?_))))
  exact WL.yB (y6w zRT) rfl rfl .all
 refine WL.nil (WX.a (WC.cond rfl (fun zwB=>?_) (fun zwB=>?_)))
 ·replace h:=yo h zwB
  refine WC.b ?_
  obtain ⟨zE6,zRU,h⟩:=z6 h
  refine WC.a (WL.cA 37 (z8 Tryz.call9 .nil) .nil (ccz hz .nil .h1 fun w pz ho=>y7e _ _ zRU w pz ) (WL.pu rfl (WL.nil (WX.a (WC.ret (WX.yd ?_))))))
  obtain rfl:=Option.some.inj h
  refine WX.ye Tryz.results6 (.tmp rfl .nil) (fun w hw=>?_)
  exact ⟨yC rfl,hw.sub .nil⟩
 ·replace h:=yp h zwB
  refine WC.skip (WX.a (WC.b (WC.b ?_)))
  obtain ⟨zE7,zRV,h⟩:=z6 h
  refine WC.a (WL.qA 39 (yf y2z rfl (yh .here) rfl) (WL.pu rfl (WL.pu rfl (WL.y7n (dd:=42) rfl rfl rfl (z8 Tryz.call10 (.r3 rfl rfl rfl)) .nil (ccz hz .nil .h1 fun w pz ho=>y5t _ _ _ _ _ _ _ _ _ _ _ _ _ _ _ _ _ _ _ _ _ _ _ zRV w pz ((zwt.mono (Zle.left _ _)).weak (fun _ _ h=>y1t (Zle.left _ _) h)) ((zwu.mono (Zle.left _ _)).weak (fun _ _ h=>y1A (Zle.left _ _) h)) (zwv.mono (Zle.left _ _)) (zww.mono (Zle.left _ _)) ((zwx.mono (Zle.left _ _)).weak (fun _ _ h=>y1C (Zle.left _ _) h)) (zwy.mono (Zle.left _ _)) ((zwz.mono (Zle.left _ _)).weak (fun _ _ h=>y1B (Zle.left _ _) h)) (zwA.mono (Zle.left _ _)) ((z9c.mono (Zle.left _ _)).weak (fun _ _ h=>y1e (Zle.left _ _) h))) ?_))))
  rintro z107 z108 z109 z10a _
  refine WL.pu rfl (WL.pu rfl (WL.pu rfl (WL.nA 11 (yw (cs:=[(.slice none 0 0),(.slice none 0 0)]) y6A rfl) ?_)))
  intro z10b _
  refine WL.yj rfl rfl (yl y5J rfl rfl rfl .here rfl rfl rfl) (WL.pu rfl (WL.nil (WX.a (WC.b (WC.a (WL.pu rfl (WL.pu rfl (WL.nil (WX.a (WC.cond rfl (fun zwC=>?_) (fun zwC=>?_)))))))))))
  ·replace h:=yo h zwC
   refine WC.b ?_
   obtain ⟨zE8,zRW,h⟩:=z6 h
   refine WC.a (WL.cA 47 (z8 Tryz.call9 .nil) .nil (ccz hz .nil .h4 fun w pz ho=>y7e _ _ zRW w pz ) (WL.pu rfl (WL.nil (WX.a (WC.ret (WX.yd ?_))))))
   obtain rfl:=Option.some.inj h
   refine WX.ye Tryz.results6 (.tmp rfl .nil) (fun w hw=>?_)
   exact ⟨yC rfl,hw.sub .nil⟩
  ·replace h:=yp h zwC
   refine WC.skip (WX.a (WC.b ?_))
   obtain ⟨zRX,h⟩:=yn h
   refine WC.a (WL.pu rfl (WL.qA 49 (y77 Tryz.underlying5 Tryz.underlying3 rfl rfl) (WL.qA 50 (ya y2R rfl rfl) (WL.qA 51 (yc y3z rfl (ym .h3 rfl)) (WL.qA 52 (yG Tryz.underlying26 rfl) (WL.qA 53 (q_rem rfl rfl zRX rfl) (WL.pu rfl (WL.nil (WX.a (WC.b (WC.a (WL.qA 54 (yf y2z rfl (yh .h3) rfl) (WL.nA 14 (yw (cs:=[(.slice none 0 0),(.slice none 0 0),(.slice none 0 0),(.slice none 0 0),(.slice none 0 0),(.slice none 0 0),(.slice none 0 0),(.slice none 0 0)]) y8M rfl) ?_)))))))))))))
   intro zf6 _
   refine WL.yj rfl rfl (yl y9z rfl rfl rfl .here rfl rfl rfl) (WL.nil (WX.a (WC.b ?_)))
   obtain ⟨zRY,h⟩:=yn h
   refine WC.a ?_
   have zRZ : RR 7 (p46 (Z ++ [])) [] ([] : List Sapi_VL):=(RR.nil _ _)
   refine WL.nA 55 (yN (cs:=[]) y4q (Eos.parts (l:=[]) .nil []) (fun _=>by kernel_rfl) rfl (by unfold maxLen; omega)) ?_
   intro z10c _
   refine WL.qA 56 (ya y2R rfl rfl) (WL.qA 57 (yc y3z rfl (ym .h5 rfl)) ?_)
   obtain ⟨z5S,zwD,zS0⟩:=ZS.news ((zwx.mono (Zle.left _ _)).weak (fun _ _ h=>y1C (Zle.left _ _) h))
   have z81 : RR 7 (p46 (Z ++ [])) ([] ++ z5S) (([] : List Sapi_VL) ++ z7.fVLs):=RR.app zRZ zwD
   refine WL.fA 58 (y7o (l1:=([] : List Sapi_VL)) (l2:=z7.fVLs) (news:=z5S) (Pr:=(p46 (Z ++ []))) y4q rfl rfl .here zwD (zS0 _ _ _ (hz.pv2 .h6)) (RR.oc zwD (fun _ _ h=>p46_oc h)) zRY) ?_
   rintro ⟨zdi,z3H⟩ _
   refine WL.qA 59 (ya y2R rfl rfl) (WL.yj rfl rfl (y4y (ds:=[(.slice z6m z7.fModules.length z6n),(.slice z6o z7.fChannels.length z6p),(.slice z6q z7.fSwitches.length z6r),(.slice z6s z7.fLinks.length z6t),(.slice zdi ((([] : List Sapi_VL) ++ z7.fVLs).length) z3H),(.slice z6u z7.fHealth.length z6v),(.slice z6w z7.fCauses.length z6x),(.slice z6y z7.fVersions.length z6z)]) ycy rfl rfl rfl rfl rfl .h1 rfl rfl) (WL.nil (WX.a (WC.b (WC.a (WL.pu rfl (WL.nil (WX.a ?_))))))))
   obtain ⟨zb7,zS1,h⟩:=ybB h
   refine WC.yeK (fun (zdg : Int) (zb5 : List (List Sapi_Hop)) (zb6 : Int) (z9b : List Sapi_VL) (zli : Option Addr) (zlj : Nat) (zlk : List Value)=>(zb7 zdg zb5 zb6 z9b = some r) ∧ (ZS (Z ++ []) 1 (p48 (Z ++ [])) zli zlj zb5) ∧ (RR 7 (p46 (Z ++ [])) zlk z9b)) (fun zdg zb5 zb6 z9b zli zlj zlk=>[(1,(.int .i64 zdg)),(2,(.slice zli zb5.length zlj)),(14,(.pointer (some ⟨zf6,0,none⟩))),(15,(.int .i64 zb6))]) (fun zdg zb5 zb6 z9b zli zlj zlk=>[fz [],stb zf6 31 [(.slice z6m z7.fModules.length z6n),(.slice z6o z7.fChannels.length z6p),(.slice z6q z7.fSwitches.length z6r),(.slice z6s z7.fLinks.length z6t),(.slice zdi z9b.length z3H),(.slice z6u z7.fHealth.length z6v),(.slice z6w z7.fCauses.length z6x),(.slice z6y z7.fVersions.length z6z)],row (.slice zdi z9b.length z3H) 46 7 zlk]) ?_ ?_
   ·skip
    refine WC.b (WC.a (WL.pu rfl (WL.qA 61 (q_rem rfl rfl (by decide) rfl) (WL.nil (WX.a (WC.block (WC.b (WC.a (WL.pu rfl (WL.pu rfl (WL.nil (WX.a (WC.cond rfl (fun zwE=>?_) (fun zwE=>?_))))))))))))))
    ·replace h:=yo h zwE
     obtain ⟨zf7,h⟩:=yn h
     refine WC.a (WL.qA 64 (ya y2R rfl rfl) (WL.qA 65 (yc y3z rfl (ym .here rfl)) (WL.pu rfl (WL.know (fun w hw=>Hp.y2j .h1 hw (by intro hz'; have:=zf7; rw [hz'] at this; omega)) ?_))))
     rintro ⟨zEb,rfl⟩
     obtain ⟨z10d,z10e,z10f,zS2,⟨z10g,z10h,rfl,zS3⟩⟩:=RR.elem (Pr:=(p46 (Z ++ []))) z81 zf7.1 zf7.2
     refine WL.qA 67 (yV y4q rfl rfl zf7.1 zf7.2 y32) (WL.qA 68 (ya y9A rfl (Addr.add_lit _ _ _)) ?_)
     obtain ⟨zS4,zS5⟩:=RR.store (Pr:=(p46 (Z ++ []))) (vs:=[(.int .i64 150)]) (k:=4) (y:=({(nth (([] : List Sapi_VL) ++ z7.fVLs) (Int.tmod (i64 zk) ((z7.fVLs.length : Nat) : Int))) with fBag:=150} : Sapi_VL)) z81 zf7.1 zf7.2 zS2 rfl (Nat.le_of_ble_eq_true rfl) (show p46 _ _ _ from ⟨_,_,rfl,zS3⟩)
     refine WL.yj rfl rfl (y5U (vs:=[(.int .i64 150)]) (ds:=y3A ([] ++ z5S) (((Int.tmod (i64 zk) ((z7.fVLs.length : Nat) : Int)) : Int).toNat * 7 + 4) [(.int .i64 150)]) y8O rfl rfl rfl rfl (y6J rfl y7z) .h1 zS5 rfl) (WL.relen .here (u:=(.slice (some ⟨zEb,0,none⟩) (((([] : List Sapi_VL) ++ z7.fVLs).set ((Int.tmod (i64 zk) ((z7.fVLs.length : Nat) : Int)) : Int).toNat ({(nth (([] : List Sapi_VL) ++ z7.fVLs) (Int.tmod (i64 zk) ((z7.fVLs.length : Nat) : Int))) with fBag:=150} : Sapi_VL)).length) z3H)) (y5W (List.length_set).symm) (WL.restb (cs':=[(.slice z6m z7.fModules.length z6n),(.slice z6o z7.fChannels.length z6p),(.slice z6q z7.fSwitches.length z6r),(.slice z6s z7.fLinks.length z6t),(.slice (some ⟨zEb,0,none⟩) (((([] : List Sapi_VL) ++ z7.fVLs).set ((Int.tmod (i64 zk) ((z7.fVLs.length : Nat) : Int)) : Int).toNat ({(nth (([] : List Sapi_VL) ++ z7.fVLs) (Int.tmod (i64 zk) ((z7.fVLs.length : Nat) : Int))) with fBag:=150} : Sapi_VL)).length) z3H),(.slice z6u z7.fHealth.length z6v),(.slice z6w z7.fCauses.length z6x),(.slice z6y z7.fVersions.length z6z)]) .h1 (by simp only [List.length_set]) (WL.nil (WX.yk ?_))))
     exact WX.mid ⟨z38,z1j,350,((([] : List Sapi_VL) ++ z7.fVLs).set ((Int.tmod (i64 zk) ((z7.fVLs.length : Nat) : Int)) : Int).toNat ({(nth (([] : List Sapi_VL) ++ z7.fVLs) (Int.tmod (i64 zk) ((z7.fVLs.length : Nat) : Int))) with fBag:=150} : Sapi_VL)),z7k,z7l,(y3A ([] ++ z5S) (((Int.tmod (i64 zk) ((z7.fVLs.length : Nat) : Int)) : Int).toNat * 7 + 4) [(.int .i64 150)])⟩ ⟨h,((z9c.mono (Zle.left _ _)).weak (fun _ _ h=>y1e (Zle.left _ _) h)),zS4⟩ (.r4 rfl rfl rfl rfl) (.s3 .h6 .here .here)
    ·replace h:=yp h zwE
     refine WC.b (WC.a (WL.pu rfl (WL.pu rfl (WL.nil (WX.a (WC.cond rfl (fun zwF=>?_) (fun zwF=>?_)))))))
     ·replace h:=yo h zwF
      obtain ⟨zf8,h⟩:=yn h
      refine WC.a (WL.qA 71 (ya y2R rfl rfl) (WL.qA 72 (yc y3z rfl (ym .here rfl)) (WL.pu rfl (WL.know (fun w hw=>Hp.y2j .h1 hw (by intro hz'; have:=zf8; rw [hz'] at this; omega)) ?_))))
      rintro ⟨zEc,rfl⟩
      obtain ⟨z10i,z10j,z10k,zS6,⟨z10l,z10m,rfl,zS7⟩⟩:=RR.elem (Pr:=(p46 (Z ++ []))) z81 zf8.1 zf8.2
      refine WL.qA 74 (yV y4q rfl rfl zf8.1 zf8.2 y32) (WL.qA 75 (ya y9A rfl (Addr.add_lit _ _ _)) ?_)
      obtain ⟨zS8,zS9⟩:=RR.store (Pr:=(p46 (Z ++ []))) (vs:=[(.int .i64 25600)]) (k:=4) (y:=({(nth (([] : List Sapi_VL) ++ z7.fVLs) (Int.tmod (i64 zk) ((z7.fVLs.length : Nat) : Int))) with fBag:=25600} : Sapi_VL)) z81 zf8.1 zf8.2 zS6 rfl (Nat.le_of_ble_eq_true rfl) (show p46 _ _ _ from ⟨_,_,rfl,zS7⟩)
      refine WL.yj rfl rfl (y5U (vs:=[(.int .i64 25600)]) (ds:=y3A ([] ++ z5S) (((Int.tmod (i64 zk) ((z7.fVLs.length : Nat) : Int)) : Int).toNat * 7 + 4) [(.int .i64 25600)]) y8O rfl rfl rfl rfl (y6J rfl y7z) .h1 zS9 rfl) (WL.relen .here (u:=(.slice (some ⟨zEc,0,none⟩) (((([] : List Sapi_VL) ++ z7.fVLs).set ((Int.tmod (i64 zk) ((z7.fVLs.length : Nat) : Int)) : Int).toNat ({(nth (([] : List Sapi_VL) ++ z7.fVLs) (Int.tmod (i64 zk) ((z7.fVLs.length : Nat) : Int))) with fBag:=25600} : Sapi_VL)).length) z3H)) (y5W (List.length_set).symm) (WL.restb (cs':=[(.slice z6m z7.fModules.length z6n),(.slice z6o z7.fChannels.length z6p),(.slice z6q z7.fSwitches.length z6r),(.slice z6s z7.fLinks.length z6t),(.slice (some ⟨zEc,0,none⟩) (((([] : List Sapi_VL) ++ z7.fVLs).set ((Int.tmod (i64 zk) ((z7.fVLs.length : Nat) : Int)) : Int).toNat ({(nth (([] : List Sapi_VL) ++ z7.fVLs) (Int.tmod (i64 zk) ((z7.fVLs.length : Nat) : Int))) with fBag:=25600} : Sapi_VL)).length) z3H),(.slice z6u z7.fHealth.length z6v),(.slice z6w z7.fCauses.length z6x),(.slice z6y z7.fVersions.length z6z)]) .h1 (by simp only [List.length_set]) (WL.nil (WX.yk ?_))))
      exact WX.mid ⟨z38,z1j,350,((([] : List Sapi_VL) ++ z7.fVLs).set ((Int.tmod (i64 zk) ((z7.fVLs.length : Nat) : Int)) : Int).toNat ({(nth (([] : List Sapi_VL) ++ z7.fVLs) (Int.tmod (i64 zk) ((z7.fVLs.length : Nat) : Int))) with fBag:=25600} : Sapi_VL)),z7k,z7l,(y3A ([] ++ z5S) (((Int.tmod (i64 zk) ((z7.fVLs.length : Nat) : Int)) : Int).toNat * 7 + 4) [(.int .i64 25600)])⟩ ⟨h,((z9c.mono (Zle.left _ _)).weak (fun _ _ h=>y1e (Zle.left _ _) h)),zS8⟩ (.r4 rfl rfl rfl rfl) (.s3 .h6 .here .here)
     ·replace h:=yp h zwF
      refine WC.b (WC.a (WL.pu rfl (WL.pu rfl (WL.nil (WX.a (WC.cond rfl (fun zwG=>?_) (fun zwG=>?_)))))))
      ·replace h:=yo h zwG
       obtain ⟨zf9,h⟩:=yn h
       refine WC.a (WL.qA 78 (ya y2R rfl rfl) (WL.qA 79 (yc y3z rfl (ym .here rfl)) (WL.pu rfl (WL.know (fun w hw=>Hp.y2j .h1 hw (by intro hz'; have:=zf9; rw [hz'] at this; omega)) ?_))))
       rintro ⟨zEd,rfl⟩
       obtain ⟨z10n,z10o,z10p,zSa,⟨z10q,z10r,rfl,zSb⟩⟩:=RR.elem (Pr:=(p46 (Z ++ []))) z81 zf9.1 zf9.2
       refine WL.qA 81 (yV y4q rfl rfl zf9.1 zf9.2 y32) (WL.qA 82 (ya y6R rfl (Addr.add_lit _ _ _)) ?_)
       obtain ⟨zSc,zSd⟩:=RR.store (Pr:=(p46 (Z ++ []))) (vs:=[(.int .i64 0)]) (k:=5) (y:=({(nth (([] : List Sapi_VL) ++ z7.fVLs) (Int.tmod (i64 zk) ((z7.fVLs.length : Nat) : Int))) with fMax:=0} : Sapi_VL)) z81 zf9.1 zf9.2 zSa rfl (Nat.le_of_ble_eq_true rfl) (show p46 _ _ _ from ⟨_,_,rfl,zSb⟩)
       refine WL.yj rfl rfl (y5U (vs:=[(.int .i64 0)]) (ds:=y3A ([] ++ z5S) (((Int.tmod (i64 zk) ((z7.fVLs.length : Nat) : Int)) : Int).toNat * 7 + 5) [(.int .i64 0)]) y8O rfl rfl rfl rfl (y6J rfl y7z) .h1 zSd rfl) (WL.relen .here (u:=(.slice (some ⟨zEd,0,none⟩) (((([] : List Sapi_VL) ++ z7.fVLs).set ((Int.tmod (i64 zk) ((z7.fVLs.length : Nat) : Int)) : Int).toNat ({(nth (([] : List Sapi_VL) ++ z7.fVLs) (Int.tmod (i64 zk) ((z7.fVLs.length : Nat) : Int))) with fMax:=0} : Sapi_VL)).length) z3H)) (y5W (List.length_set).symm) (WL.restb (cs':=[(.slice z6m z7.fModules.length z6n),(.slice z6o z7.fChannels.length z6p),(.slice z6q z7.fSwitches.length z6r),(.slice z6s z7.fLinks.length z6t),(.slice (some ⟨zEd,0,none⟩) (((([] : List Sapi_VL) ++ z7.fVLs).set ((Int.tmod (i64 zk) ((z7.fVLs.length : Nat) : Int)) : Int).toNat ({(nth (([] : List Sapi_VL) ++ z7.fVLs) (Int.tmod (i64 zk) ((z7.fVLs.length : Nat) : Int))) with fMax:=0} : Sapi_VL)).length) z3H),(.slice z6u z7.fHealth.length z6v),(.slice z6w z7.fCauses.length z6x),(.slice z6y z7.fVersions.length z6z)]) .h1 (by simp only [List.length_set]) (WL.nil (WX.yk ?_))))
       exact WX.mid ⟨z38,z1j,350,((([] : List Sapi_VL) ++ z7.fVLs).set ((Int.tmod (i64 zk) ((z7.fVLs.length : Nat) : Int)) : Int).toNat ({(nth (([] : List Sapi_VL) ++ z7.fVLs) (Int.tmod (i64 zk) ((z7.fVLs.length : Nat) : Int))) with fMax:=0} : Sapi_VL)),z7k,z7l,(y3A ([] ++ z5S) (((Int.tmod (i64 zk) ((z7.fVLs.length : Nat) : Int)) : Int).toNat * 7 + 5) [(.int .i64 0)])⟩ ⟨h,((z9c.mono (Zle.left _ _)).weak (fun _ _ h=>y1e (Zle.left _ _) h)),zSc⟩ (.r4 rfl rfl rfl rfl) (.s3 .h6 .here .here)
      ·replace h:=yp h zwG
       refine WC.b (WC.a (WL.pu rfl (WL.pu rfl (WL.nil (WX.a (WC.cond rfl (fun zwH=>?_) (fun zwH=>?_)))))))
       ·replace h:=yo h zwH
        obtain ⟨zfa,h⟩:=yn h
        obtain ⟨zit,h⟩:=yn h
        refine WC.yO (fun i=>[8,11].contains i) [y71 zf6 31 [(4,(.slice zdi ((([] : List Sapi_VL) ++ z7.fVLs).length) z3H))]] rfl (WD.pA 0 85 rfl (fun _=>ya y2R rfl rfl) (WD.qA 1 86 rfl (yc y3z rfl (ym .here rfl)) (WD.pA 2 87 rfl (fun _=>q_m rfl) (WD.pA 3 88 rfl (fun _=>ya y2R rfl rfl) (WD.sA 4 89 rfl (Sin.wk (.cons .here .nil) (.stb (.cons rfl .nil) .nil)) (yc y3z rfl (y5e .here (.head _))) (WD.pA 5 90 rfl (fun _=>q_m rfl) (WD.know (fun w hw=>Hp.y2j .h1 hw (by intro hz'; have:=zfa; rw [hz'] at this; omega)) ?_)))))))
        rintro ⟨zll,rfl⟩
        obtain ⟨z10s,z10t,z10u,zSe,⟨z10v,z10w,rfl,zSf⟩⟩:=RR.elem (Pr:=(p46 (Z ++ []))) z81 zfa.1 zfa.2
        refine WD.pA 6 91 rfl (fun _=>yV y4q rfl rfl zfa.1 zfa.2 y32) (WD.pA 7 92 rfl (fun _=>ya y6R rfl (Addr.add_lit _ _ _)) ?_)
        obtain ⟨zEe,zSg⟩:=RR.store (Pr:=(p46 (Z ++ []))) (vs:=[(.int .i64 73)]) (k:=5) (y:=({(nth (([] : List Sapi_VL) ++ z7.fVLs) (Int.tmod (i64 zk) ((z7.fVLs.length : Nat) : Int))) with fMax:=73} : Sapi_VL)) z81 zfa.1 zfa.2 zSe rfl (Nat.le_of_ble_eq_true rfl) (show p46 _ _ _ from ⟨_,_,rfl,zSf⟩)
        refine WD.forced0 (i:=8) rfl (by kernel_rfl) rfl rfl rfl (Sin.wk (.cons .h1 .nil) (.stb (.cons rfl .nil) .nil)) (y5U (vs:=[(.int .i64 73)]) (ds:=y3A ([] ++ z5S) (((Int.tmod (i64 zk) ((z7.fVLs.length : Nat) : Int)) : Int).toNat * 7 + 5) [(.int .i64 73)]) y8O rfl rfl rfl rfl (y6J rfl y7z) .h1 zSg rfl) (WD.relen .here (u:=(.slice (some ⟨zll,0,none⟩) (((([] : List Sapi_VL) ++ z7.fVLs).set ((Int.tmod (i64 zk) ((z7.fVLs.length : Nat) : Int)) : Int).toNat ({(nth (([] : List Sapi_VL) ++ z7.fVLs) (Int.tmod (i64 zk) ((z7.fVLs.length : Nat) : Int))) with fMax:=73} : Sapi_VL)).length) z3H)) (y5W (List.length_set).symm) (WD.repin (i:=89) rfl (u:=(.slice (some ⟨zll,0,none⟩) (((([] : List Sapi_VL) ++ z7.fVLs).set ((Int.tmod (i64 zk) ((z7.fVLs.length : Nat) : Int)) : Int).toNat ({(nth (([] : List Sapi_VL) ++ z7.fVLs) (Int.tmod (i64 zk) ((z7.fVLs.length : Nat) : Int))) with fMax:=73} : Sapi_VL)).length) z3H)) (y5W (List.length_set).symm) (WD.restb (cs':=[(.slice z6m z7.fModules.length z6n),(.slice z6o z7.fChannels.length z6p),(.slice z6q z7.fSwitches.length z6r),(.slice z6s z7.fLinks.length z6t),(.slice (some ⟨zll,0,none⟩) (((([] : List Sapi_VL) ++ z7.fVLs).set ((Int.tmod (i64 zk) ((z7.fVLs.length : Nat) : Int)) : Int).toNat ({(nth (([] : List Sapi_VL) ++ z7.fVLs) (Int.tmod (i64 zk) ((z7.fVLs.length : Nat) : Int))) with fMax:=73} : Sapi_VL)).length) z3H),(.slice z6u z7.fHealth.length z6v),(.slice z6w z7.fCauses.length z6x),(.slice z6y z7.fVersions.length z6z)]) .h1 (by simp only [List.length_set]) ?_)))
        obtain ⟨z10x,z10y,z10z,zSh,⟨z10A,z10B,rfl,zSi⟩⟩:=RR.elem (Pr:=(p46 (Z ++ []))) zEe zit.1 zit.2
        refine WD.pA 9 93 rfl (fun _=>yV y4q rfl rfl zit.1 zit.2 y32) (WD.pA 10 94 rfl (fun _=>ya y9A rfl (Addr.add_lit _ _ _)) ?_)
        obtain ⟨zSj,zSk⟩:=RR.store (Pr:=(p46 (Z ++ []))) (vs:=[(.int .i64 0)]) (k:=4) (y:=({(nth ((([] : List Sapi_VL) ++ z7.fVLs).set ((Int.tmod (i64 zk) ((z7.fVLs.length : Nat) : Int)) : Int).toNat ({(nth (([] : List Sapi_VL) ++ z7.fVLs) (Int.tmod (i64 zk) ((z7.fVLs.length : Nat) : Int))) with fMax:=73} : Sapi_VL)) (Int.tmod (i64 zk) ((z7.fVLs.length : Nat) : Int))) with fBag:=0} : Sapi_VL)) zEe zit.1 zit.2 zSh rfl (Nat.le_of_ble_eq_true rfl) (show p46 _ _ _ from ⟨_,_,rfl,zSi⟩)
        refine WD.y3l (i:=11) rfl (by kernel_rfl) rfl rfl rfl (by kernel_rfl) (y5U (vs:=[(.int .i64 0)]) (ds:=y3A (y3A ([] ++ z5S) (((Int.tmod (i64 zk) ((z7.fVLs.length : Nat) : Int)) : Int).toNat * 7 + 5) [(.int .i64 73)]) (((Int.tmod (i64 zk) ((z7.fVLs.length : Nat) : Int)) : Int).toNat * 7 + 4) [(.int .i64 0)]) y8O rfl rfl rfl rfl (y6J rfl y7z) .h1 zSk rfl) (WD.relen .here (u:=(.slice (some ⟨zll,0,none⟩) ((((([] : List Sapi_VL) ++ z7.fVLs).set ((Int.tmod (i64 zk) ((z7.fVLs.length : Nat) : Int)) : Int).toNat ({(nth (([] : List Sapi_VL) ++ z7.fVLs) (Int.tmod (i64 zk) ((z7.fVLs.length : Nat) : Int))) with fMax:=73} : Sapi_VL)).set ((Int.tmod (i64 zk) ((z7.fVLs.length : Nat) : Int)) : Int).toNat ({(nth ((([] : List Sapi_VL) ++ z7.fVLs).set ((Int.tmod (i64 zk) ((z7.fVLs.length : Nat) : Int)) : Int).toNat ({(nth (([] : List Sapi_VL) ++ z7.fVLs) (Int.tmod (i64 zk) ((z7.fVLs.length : Nat) : Int))) with fMax:=73} : Sapi_VL)) (Int.tmod (i64 zk) ((z7.fVLs.length : Nat) : Int))) with fBag:=0} : Sapi_VL)).length) z3H)) (y5W (List.length_set).symm) (WD.restb (cs':=[(.slice z6m z7.fModules.length z6n),(.slice z6o z7.fChannels.length z6p),(.slice z6q z7.fSwitches.length z6r),(.slice z6s z7.fLinks.length z6t),(.slice (some ⟨zll,0,none⟩) ((((([] : List Sapi_VL) ++ z7.fVLs).set ((Int.tmod (i64 zk) ((z7.fVLs.length : Nat) : Int)) : Int).toNat ({(nth (([] : List Sapi_VL) ++ z7.fVLs) (Int.tmod (i64 zk) ((z7.fVLs.length : Nat) : Int))) with fMax:=73} : Sapi_VL)).set ((Int.tmod (i64 zk) ((z7.fVLs.length : Nat) : Int)) : Int).toNat ({(nth ((([] : List Sapi_VL) ++ z7.fVLs).set ((Int.tmod (i64 zk) ((z7.fVLs.length : Nat) : Int)) : Int).toNat ({(nth (([] : List Sapi_VL) ++ z7.fVLs) (Int.tmod (i64 zk) ((z7.fVLs.length : Nat) : Int))) with fMax:=73} : Sapi_VL)) (Int.tmod (i64 zk) ((z7.fVLs.length : Nat) : Int))) with fBag:=0} : Sapi_VL)).length) z3H),(.slice z6u z7.fHealth.length z6v),(.slice z6w z7.fCauses.length z6x),(.slice z6y z7.fVersions.length z6z)]) .h1 (by simp only [List.length_set]) (WD.done (by kernel_rfl) (WX.yk ?_))))
        exact WX.mid ⟨z38,z1j,350,(((([] : List Sapi_VL) ++ z7.fVLs).set ((Int.tmod (i64 zk) ((z7.fVLs.length : Nat) : Int)) : Int).toNat ({(nth (([] : List Sapi_VL) ++ z7.fVLs) (Int.tmod (i64 zk) ((z7.fVLs.length : Nat) : Int))) with fMax:=73} : Sapi_VL)).set ((Int.tmod (i64 zk) ((z7.fVLs.length : Nat) : Int)) : Int).toNat ({(nth ((([] : List Sapi_VL) ++ z7.fVLs).set ((Int.tmod (i64 zk) ((z7.fVLs.length : Nat) : Int)) : Int).toNat ({(nth (([] : List Sapi_VL) ++ z7.fVLs) (Int.tmod (i64 zk) ((z7.fVLs.length : Nat) : Int))) with fMax:=73} : Sapi_VL)) (Int.tmod (i64 zk) ((z7.fVLs.length : Nat) : Int))) with fBag:=0} : Sapi_VL)),z7k,z7l,(y3A (y3A ([] ++ z5S) (((Int.tmod (i64 zk) ((z7.fVLs.length : Nat) : Int)) : Int).toNat * 7 + 5) [(.int .i64 73)]) (((Int.tmod (i64 zk) ((z7.fVLs.length : Nat) : Int)) : Int).toNat * 7 + 4) [(.int .i64 0)])⟩ ⟨h,((z9c.mono (Zle.left _ _)).weak (fun _ _ h=>y1e (Zle.left _ _) h)),zSj⟩ (.r4 rfl rfl rfl rfl) (.s3 .h6 .here .here)
       ·replace h:=yp h zwH
        refine WC.b (WC.a (WL.pu rfl (WL.pu rfl (WL.nil (WX.a (WC.cond rfl (fun zwI=>?_) (fun zwI=>?_)))))))
        ·replace h:=yo h zwI
         obtain ⟨zSl,h⟩:=yn h
         refine WC.a (WL.pu rfl (WL.zsub (dd:=98) rfl rfl (Z:=(Z ++ [])) (Pr:=(p48 (Z ++ []))) y6z rfl ((z9c.mono (Zle.left _ _)).weak (fun _ _ h=>y1e (Zle.left _ _) h)) (ixo rfl) ixn rfl rfl zSl (by rw [Int.toNat_natCast,List.take_length]) ?_))
         rintro zSm zSn zSo
         refine WL.pu rfl (WL.pu rfl (WL.nil (WX.yk ?_)))
         exact WX.mid ⟨z38,(z1j.drop (1 : Int).toNat),310,(([] : List Sapi_VL) ++ z7.fVLs),zSm,zSn,([] ++ z5S)⟩ ⟨h,zSo,z81⟩ (.r4 rfl rfl rfl rfl) (.s3 .h6 .here .here)
        ·replace h:=yp h zwI
         refine WC.b (WC.a (WL.pu rfl (WL.pu rfl (WL.nil (WX.a (WC.cond rfl (fun zwJ=>?_) (fun zwJ=>?_)))))))
         ·replace h:=yo h zwJ
          refine WC.b (WC.a (WL.pu rfl (WL.pu rfl (WL.pu rfl (WL.pu rfl (WL.nil (WX.a (WC.b (WC.a (WL.pu rfl (WL.nil (WX.a ?_))))))))))))
          obtain ⟨zb3,zSp,h⟩:=y3W h
          refine WC.y2u (fun (zdh : Bool) (z80 : List Sapi_VL) (ziu : List Value)=>(zb3 zdh z80 = some r) ∧ (RR 7 (p46 (Z ++ [])) ziu z80)) (fun zdh z80 ziu=>[(1,(.int .i64 (i64 (1 - z38)))),(2,(.slice z7k z1j.length z7l)),(14,(.pointer (some ⟨zf6,0,none⟩))),(15,(.int .i64 310)),(16,(.bool zdh))]) (fun zdh z80 ziu=>[fz [],stb zf6 31 [(.slice z6m z7.fModules.length z6n),(.slice z6o z7.fChannels.length z6p),(.slice z6q z7.fSwitches.length z6r),(.slice z6s z7.fLinks.length z6t),(.slice zdi z80.length z3H),(.slice z6u z7.fHealth.length z6v),(.slice z6w z7.fCauses.length z6x),(.slice z6y z7.fVersions.length z6z)],row (.slice zdi z80.length z3H) 46 7 ziu]) ?_ ?_
          ·skip
           refine WC.b (WC.a (WL.pu rfl (WL.qA 104 (yG Tryz.underlying32 rfl) (WL.pu rfl (WL.nil (WX.a (WC.block (WC.y5V (fun (ziv : Nat) (z5R : Bool) (z4D : Int) (z5v : List Sapi_VL) (zdj : List Value)=>(y2D z1j zb3 ziv z5R z4D z5v = some r) ∧ (RR 7 (p46 (Z ++ [])) zdj z5v)) (fun ziv z5R z4D z5v zdj=>[(1,(.int .i64 (i64 (1 - z38)))),(2,(.slice z7k z1j.length z7l)),(14,(.pointer (some ⟨zf6,0,none⟩))),(15,(.int .i64 310)),(16,(.bool z5R)),(103,(.slice z7k z1j.length z7l)),(104,(.int .i64 ((z1j.length : Nat) : Int))),(105,(.int .i64 z4D))]) (fun ziv z5R z4D z5v zdj=>[fz [],stb zf6 31 [(.slice z6m z7.fModules.length z6n),(.slice z6o z7.fChannels.length z6p),(.slice z6q z7.fSwitches.length z6r),(.slice z6s z7.fLinks.length z6t),(.slice zdi z5v.length z3H),(.slice z6u z7.fHealth.length z6v),(.slice z6w z7.fCauses.length z6x),(.slice z6y z7.fVersions.length z6z)],row (.slice zdi z5v.length z3H) 46 7 zdj]) (fun ziv z5R z4D z5v zdj=>ziv) ⟨yz,true,0,(([] : List Sapi_VL) ++ z7.fVLs),([] ++ z5S)⟩ ⟨h,z81⟩ (.r8 rfl rfl rfl rfl rfl rfl rfl rfl) (.s3 .h6 .here .here) ?_))))))))
           rintro ziv z5R z4D z5v zdj ⟨h,zEf⟩
           obtain ⟨zwn,rfl⟩:=y8p h
           rw [y2D] at h
           refine WC.b (WC.a (WL.pu rfl (WL.nil (WX.a (WC.b (WC.cond rfl (fun zwK=>?_) (fun zwK=>?_)))))))
           ·replace h:=yo h zwK
            refine WC.skip (WX.a (WC.b (WC.block (WC.b ?_))))
            obtain ⟨zSq,h⟩:=yn h
            refine WC.a (WL.znth (dd:=107) rfl rfl (Z:=(Z ++ [])) (Pr:=(p48 (Z ++ []))) y6z rfl rfl ((z9c.mono (Zle.left _ _)).weak (fun _ _ h=>y1e (Zle.left _ _) h)) zSq ?_)
            rintro z10C z10D zSr z10E ⟨z10F,z10G,rfl,z10H⟩
            refine WL.qA 108 (yc y6P rfl (y57 (hz.pv2 .here) zSr rfl)) (WL.pu rfl (WL.nil (WX.a (WC.a (WL.pu rfl (WL.pu rfl (WL.seg true 3 110 (B:=z5R && (decide ((((nth z1j z4D).length : Nat) : Int) = 0))) rfl rfl rfl rfl rfl rfl (fun h=>(y2O h).symm) (fun _ zSs=>?_) ?_)))))))
            ·skip
             refine WL.pu rfl (WL.qA 112 (yG Tryz.underlying48 rfl) (WL.pu rfl (WL.pu rfl ?_)))
             exact WL.yB (y2P zSs) rfl rfl .all
            refine WL.pu rfl (WL.nil (WX.yk (WX.a (WC.a (WL.pu rfl (WL.pu rfl (WL.nil ?_)))))))
            exact WX.round ⟨zwn,(z5R && (decide ((((nth z1j z4D).length : Nat) : Int) = 0))),(i64 (z4D + 1)),z5v,zdj⟩ ⟨h,zEf⟩ (Nat.lt_succ_self _) (.r8 rfl rfl rfl rfl rfl rfl rfl rfl) (.s3 .here .here .here)
           ·replace h:=yp h zwK
            refine WC.exit (WX.yg (WX.yg (WX.yA ?_)))
            exact WX.mid ⟨z5R,z5v,zdj⟩ ⟨h,zEf⟩ (.r5 rfl rfl rfl rfl rfl) (.s3 .here .here .here)
          ·rintro zdh z80 ziu ⟨h,zSt⟩
           replace h:=(zSp zdh z80).symm.trans h
           refine WC.b (WC.a (WL.pu rfl (WL.nil (WX.a (WC.cond rfl (fun zwL=>?_) (fun zwL=>?_))))))
           ·replace h:=yo h zwL
            refine WC.b ?_
            obtain ⟨zEa,zSu,h⟩:=z6 h
            refine WC.a (WL.cA 117 (z8 Tryz.call9 .nil) .nil (ccz hz .nil .here fun w pz ho=>y7e _ _ zSu w pz ) (WL.pu rfl (WL.nil (WX.a (WC.ret (WX.yt (WX.yd ?_)))))))
            obtain rfl:=Option.some.inj h
            refine WX.ye Tryz.results6 (.tmp rfl .nil) (fun w hw=>?_)
            exact ⟨yC rfl,hw.sub .nil⟩
           ·replace h:=yp h zwL
            refine WC.skip (WX.yk ?_)
            exact WX.mid ⟨(i64 (1 - z38)),z1j,310,z80,z7k,z7l,ziu⟩ ⟨h,((z9c.mono (Zle.left _ _)).weak (fun _ _ h=>y1e (Zle.left _ _) h)),zSt⟩ (.r4 rfl rfl rfl rfl) (.s3 .here .here .here)
         ·replace h:=yp h zwJ
          refine WC.skip (WX.yk ?_)
          exact WX.mid ⟨z38,z1j,350,(([] : List Sapi_VL) ++ z7.fVLs),z7k,z7l,([] ++ z5S)⟩ ⟨h,((z9c.mono (Zle.left _ _)).weak (fun _ _ h=>y1e (Zle.left _ _) h)),z81⟩ (.r4 rfl rfl rfl rfl) (.s3 .h6 .here .here)
   ·rintro zdg zb5 zb6 z9b zli zlj zlk ⟨h,zSv,zSw⟩
    replace h:=(zS1 zdg zb5 zb6 z9b).symm.trans h
    refine WC.b ?_
    obtain ⟨zf5,zSx,h⟩:=z6 h
    refine WC.a (WL.qA 119 (yf y2z rfl (yh .h1) rfl) (WL.pu rfl (WL.pu rfl (WL.y7n (dd:=122) rfl rfl rfl (z8 Tryz.call10 (.r3 rfl rfl rfl)) .nil (y8k hz .nil .here (.cons .h2 .nil) fun w pz ho la=>y5t _ _ _ _ _ _ _ _ _ _ _ _ _ _ _ _ _ _ _ _ _ _ _ zSx w pz ((((zwt.mono (Zle.left _ _)).weak (fun _ _ h=>y1t (Zle.left _ _) h)).mono (Zle.left _ _)).weak (fun _ _ h=>y1t (Zle.left _ _) h)) ((((zwu.mono (Zle.left _ _)).weak (fun _ _ h=>y1A (Zle.left _ _) h)).mono (Zle.left _ _)).weak (fun _ _ h=>y1A (Zle.left _ _) h)) ((zwv.mono (Zle.left _ _)).mono (Zle.left _ _)) ((zww.mono (Zle.left _ _)).mono (Zle.left _ _)) (ZA.row (la _ (.head _) _) (zSw.weak (fun _ _ h=>y1C (Zle.left _ _) h)) ⟨w,pz.1⟩) ((zwy.mono (Zle.left _ _)).mono (Zle.left _ _)) ((((zwz.mono (Zle.left _ _)).weak (fun _ _ h=>y1B (Zle.left _ _) h)).mono (Zle.left _ _)).weak (fun _ _ h=>y1B (Zle.left _ _) h)) ((zwA.mono (Zle.left _ _)).mono (Zle.left _ _)) ((zSv.mono (Zle.left _ _)).weak (fun _ _ h=>y1e (Zle.left _ _) h))) ?_))))
    rintro z10I z10J z10K z10L _
    refine WL.pu rfl (WL.pu rfl (WL.pu rfl (WL.nA 19 (yw (cs:=[(.slice none 0 0),(.slice none 0 0)]) y6A rfl) ?_)))
    intro z10M _
    refine WL.yj rfl rfl (yl y5J rfl rfl rfl .here rfl rfl rfl) (WL.pu rfl (WL.nil (WX.a (WC.b (WC.b (WC.a (WL.pu rfl (WL.pu rfl (WL.pu rfl (WL.pu rfl (WL.seg false 8 128 (B:=(decide (zf5.2 ≠ zb6)) || (decide ((i64 (((zf5.1.fPorts.length : Nat) : Int) + ((zf5.1.fEnds.length : Nat) : Int))) ≠ 0))) rfl rfl rfl rfl rfl rfl (fun h=>(y6v h).symm) (fun _ zSy=>?_) ?_)))))))))))
    ·skip
     refine WL.qA 129 (ya y6c rfl rfl) (WL.qA 130 (yc y6S rfl (ym .here rfl)) (WL.qA 131 (yG Tryz.underlying35 rfl) (WL.qA 132 (ya y7Y rfl rfl) (WL.qA 133 (yc y8J rfl (ym .here rfl)) (WL.qA 134 (yG Tryz.underlying36 rfl) (WL.pu rfl (WL.pu rfl (WL.pu rfl ?_))))))))
     exact WL.yB (y6w zSy) rfl rfl .all
    refine WL.nil (WX.a (WC.cond rfl (fun zwM=>?_) (fun zwM=>?_)))
    ·replace h:=yo h zwM
     refine WC.b (WC.a (WL.pu rfl (WL.nil (WX.a (WC.ret (WX.yd ?_))))))
     obtain rfl:=Option.some.inj h
     refine WX.ye Tryz.results6 (.tmp rfl .nil) (fun w hw=>?_)
     exact ⟨yC rfl,hw.sub .nil⟩
    ·replace h:=yp h zwM
     refine WC.skip (WX.a (WC.b ?_))
     obtain ⟨zP,zSz,h⟩:=z6 h
     refine WC.a (WL.ybZ (dd:=139) rfl rfl rfl (z8 Tryz.call14 .nil) .nil (ccz hz .nil .h3 fun w pz ho=>y9c _ _ zSz w pz ) ?_)
     rintro zwN zfb zfc zEg zlm zln zfd zfe zff zfg z10N z10O z10P zlo zlp zlq zlr zls zlt z10Q z10R z10S ⟨zEh,zEi,z10T,zEj,zEk,zEl,z10U⟩
     refine WL.merge .here (.there .h7) (WL.pu rfl (WL.pu rfl (WL.pu rfl (WL.nA 21 (yw (cs:=[(.slice none 0 0),(.slice none 0 0),(.slice none 0 0),(.slice none 0 0),(.slice none 0 0),(.slice none 0 0),(.slice none 0 0),(.slice none 0 0)]) y8M rfl) ?_))))
     intro zob _
     refine WL.yj rfl rfl (yl y9z rfl rfl rfl .here rfl rfl rfl) (WL.pu rfl (WL.nil (WX.a (WC.b (WC.a (WL.qA 142 (ya y2R rfl rfl) (WL.yj rfl rfl (y4y (ds:=[(.slice zfb zP.1.fModules.length zfc),(.slice zlm zP.1.fChannels.length zln),(.slice zfd zP.1.fSwitches.length zfe),(.slice zff zP.1.fLinks.length zfg),(.slice none 0 0),(.slice zlo zP.1.fHealth.length zlp),(.slice zlq zP.1.fCauses.length zlr),(.slice zls zP.1.fVersions.length zlt)]) ycy rfl rfl rfl rfl rfl .here rfl rfl) (WL.pu rfl (WL.nil (WX.a ?_))))))))))
     obtain ⟨zb4,zSA,h⟩:=y3W h
     refine WC.yeL (fun (z7Z : List (List Sapi_Hop)) (z42 : List Sapi_VL) (zb8 : Zp) (zlu : Option Addr) (zlv : Nat) (zlw : List Value) (zlx : Option Addr) (zfh : Nat) (ziw : List Value)=>(zb4 z7Z z42 = some r) ∧ (Zle (Z ++ ([] ++ zwN)) (Z ++ zb8)) ∧ (RR 1 (p48 (Z ++ zb8)) zlw z7Z) ∧ (RR 7 (p46 (Z ++ zb8)) ziw z42)) (fun z7Z z42 zb8 zlu zlv zlw zlx zfh ziw=>[(21,(.pointer (some ⟨zob,0,none⟩))),(22,(.slice zlu z7Z.length zlv))]) (fun z7Z z42 zb8 zlu zlv zlw zlx zfh ziw=>[fz zb8,row (.slice zlu z7Z.length zlv) 48 1 zlw,stb zob 31 [(.slice zfb zP.1.fModules.length zfc),(.slice zlm zP.1.fChannels.length zln),(.slice zfd zP.1.fSwitches.length zfe),(.slice zff zP.1.fLinks.length zfg),(.slice zlx z42.length zfh),(.slice zlo zP.1.fHealth.length zlp),(.slice zlq zP.1.fCauses.length zlr),(.slice zls zP.1.fVersions.length zlt)],row (.slice zfb zP.1.fModules.length zfc) 108 4 zEg,row (.slice zfd zP.1.fSwitches.length zfe) 66 4 (zP.1.fSwitches.flatMap e66),row (.slice zff zP.1.fLinks.length zfg) 64 4 (zP.1.fLinks.flatMap e64),row (.slice zlx z42.length zfh) 46 7 ziw]) ?_ ?_
     ·skip
      refine WC.b (WC.a (WL.pu rfl (WL.nil (WX.a (WC.block (WC.nilRow 48 1 (WC.nilRow 46 7 (WC.yff (fun (zix : Nat) (z3G : List (List Sapi_Hop)) (z7j : Int) (z3l : List Sapi_VL) (z7m : Zp) (zfi : Option Addr) (zfj : Nat) (zb9 : List Value) (zfk : Option Addr) (zfl : Nat) (zba : List Value)=>(y3P zb4 zix z3G z7j z3l = some r) ∧ (Zle (Z ++ ([] ++ zwN)) (Z ++ z7m)) ∧ (RR 1 (p48 (Z ++ z7m)) zb9 z3G) ∧ (RR 7 (p46 (Z ++ z7m)) zba z3l)) (fun zix z3G z7j z3l z7m zfi zfj zb9 zfk zfl zba=>[(21,(.pointer (some ⟨zob,0,none⟩))),(22,(.slice zfi z3G.length zfj)),(143,(.int .i64 z7j))]) (fun zix z3G z7j z3l z7m zfi zfj zb9 zfk zfl zba=>[fz z7m,row (.slice zfi z3G.length zfj) 48 1 zb9,stb zob 31 [(.slice zfb zP.1.fModules.length zfc),(.slice zlm zP.1.fChannels.length zln),(.slice zfd zP.1.fSwitches.length zfe),(.slice zff zP.1.fLinks.length zfg),(.slice zfk z3l.length zfl),(.slice zlo zP.1.fHealth.length zlp),(.slice zlq zP.1.fCauses.length zlr),(.slice zls zP.1.fVersions.length zlt)],row (.slice zfb zP.1.fModules.length zfc) 108 4 zEg,row (.slice zfd zP.1.fSwitches.length zfe) 66 4 (zP.1.fSwitches.flatMap e66),row (.slice zff zP.1.fLinks.length zfg) 64 4 (zP.1.fLinks.flatMap e64),row (.slice zfk z3l.length zfl) 46 7 zba]) (fun zix z3G z7j z3l z7m zfi zfj zb9 zfk zfl zba=>zix) ⟨yz,([] : List (List Sapi_Hop)),0,([] : List Sapi_VL),([] ++ zwN),none,0,[],none,0,[]⟩ ⟨h,(Zle.refl _),(RR.nil _ _),(RR.nil _ _)⟩ (.r3 rfl rfl rfl) (.s7 .h3 .h1 .h1 .h1 .h1 .h1 .here) ?_))))))))
      rintro zix z3G z7j z3l z7m zfi zfj zb9 zfk zfl zba ⟨h,zEm,zEn,zEo⟩
      obtain ⟨zwo,rfl⟩:=y8q h
      rw [y3P] at h
      refine WC.b (WC.a (WL.pu rfl (WL.nil (WX.a (WC.b (WC.cond rfl (fun zwO=>?_) (fun zwO=>?_)))))))
      ·replace h:=yo h zwO
       refine WC.skip (WX.a (WC.b (WC.block (WC.b ?_))))
       obtain ⟨zSB,h⟩:=yn h
       refine WC.a (WL.qA 145 (ya y2R rfl rfl) (WL.qA 146 (yc y3z rfl (ym .h2 rfl)) (WL.qA 147 (yI (v:=(.agg #[(.string ⟨#[]⟩),(.string ⟨#[]⟩),(.string ⟨#[]⟩),(.string ⟨#[]⟩),(.int .i64 100),(.int .i64 51),(.slice none 0 0)])) (Eos.parts (l:=[.const (.int .i64 100),.const (.int .i64 51)]) (.r2 rfl rfl) [2,3]) (fun _=>by kernel_rfl)) ?_)))
       have zEp : RR 7 (p46 (Z ++ z7m)) [(.string ⟨#[]⟩),(.string ⟨#[]⟩),(.string ⟨#[]⟩),(.string ⟨#[]⟩),(.int .i64 100),(.int .i64 51),(.slice none 0 0)] ([(⟨⟨#[]⟩,(⟨⟨#[]⟩,⟨#[]⟩,⟨#[]⟩⟩ : Sapi_Ref),100,51,[]⟩ : Sapi_VL)] : List Sapi_VL):=(RR.cons (r:=[(.string ⟨#[]⟩),(.string ⟨#[]⟩),(.string ⟨#[]⟩),(.string ⟨#[]⟩),(.int .i64 100),(.int .i64 51),(.slice none 0 0)]) rfl (show p46 _ _ _ from ⟨_,_,rfl,(ZS.nil _ _ _)⟩) (RR.nil _ _))
       refine WL.nA 148 (yN (cs:=[(.string ⟨#[]⟩),(.string ⟨#[]⟩),(.string ⟨#[]⟩),(.string ⟨#[]⟩),(.int .i64 100),(.int .i64 51),(.slice none 0 0)]) y4q (Eos.parts (l:=[.tmp 147]) (.cons rfl .nil) [0]) (fun _=>by kernel_rfl) rfl (by unfold maxLen; omega)) ?_
       intro z10V _
       have zSC : RR 7 (p46 (Z ++ z7m)) (zba ++ [(.string ⟨#[]⟩),(.string ⟨#[]⟩),(.string ⟨#[]⟩),(.string ⟨#[]⟩),(.int .i64 100),(.int .i64 51),(.slice none 0 0)]) (z3l ++ ([(⟨⟨#[]⟩,(⟨⟨#[]⟩,⟨#[]⟩,⟨#[]⟩⟩ : Sapi_Ref),100,51,[]⟩ : Sapi_VL)] : List Sapi_VL)):=RR.app zEo zEp
       refine WL.fA 149 (y7o (l1:=z3l) (l2:=([(⟨⟨#[]⟩,(⟨⟨#[]⟩,⟨#[]⟩,⟨#[]⟩⟩ : Sapi_Ref),100,51,[]⟩ : Sapi_VL)] : List Sapi_VL)) (news:=[(.string ⟨#[]⟩),(.string ⟨#[]⟩),(.string ⟨#[]⟩),(.string ⟨#[]⟩),(.int .i64 100),(.int .i64 51),(.slice none 0 0)]) (Pr:=(p46 (Z ++ z7m))) y4q rfl rfl .h7 zEp (y3C .here) (ocB rfl) zSB) ?_
       rintro ⟨zEq,zEr⟩ _
       refine WL.qA 150 (ya y2R rfl rfl) (WL.yj rfl rfl (y4y (ds:=[(.slice zfb zP.1.fModules.length zfc),(.slice zlm zP.1.fChannels.length zln),(.slice zfd zP.1.fSwitches.length zfe),(.slice zff zP.1.fLinks.length zfg),(.slice zEq ((z3l ++ ([(⟨⟨#[]⟩,(⟨⟨#[]⟩,⟨#[]⟩,⟨#[]⟩⟩ : Sapi_Ref),100,51,[]⟩ : Sapi_VL)] : List Sapi_VL)).length) zEr),(.slice zlo zP.1.fHealth.length zlp),(.slice zlq zP.1.fCauses.length zlr),(.slice zls zP.1.fVersions.length zlt)]) ycy rfl rfl rfl rfl rfl .h4 rfl rfl) (WL.nil (WX.a ?_)))
       obtain ⟨zSD,h⟩:=yn h
       refine WC.a (WL.pu rfl (WL.qA 152 (yI (v:=(.agg #[(.int .i64 0),(.int .i64 2),(.int .i64 0)])) (Eos.parts (l:=[.const (.int .i64 0),.const (.int .i64 2),.const (.int .i64 0)]) (.r3 rfl rfl rfl) [0,1,2]) (fun _=>by kernel_rfl)) (WL.qA 153 (yI (v:=(.agg #[(.int .i64 2),(.int .i64 1),(.int .i64 1)])) (Eos.parts (l:=[.const (.int .i64 2),.const (.int .i64 1),.const (.int .i64 1)]) (.r3 rfl rfl rfl) [0,1,2]) (fun _=>by kernel_rfl)) (WL.nA 154 (yN (cs:=([(⟨0,2,0⟩ : Sapi_Hop),(⟨2,1,1⟩ : Sapi_Hop)] : List Sapi_Hop).flatMap e62) y5H (Eos.parts (l:=[.tmp 152,.tmp 153]) (.r2 rfl rfl) [0,1]) (fun _=>by kernel_rfl) rfl (by unfold maxLen; omega)) ?_))))
       intro ziy _
       refine WL.freezeS (ls:=([(⟨0,2,0⟩ : Sapi_Hop),(⟨2,1,1⟩ : Sapi_Hop)] : List Sapi_Hop)) .here .h3 hz (RR.flat (enc:=e62) (fun _=>rfl) _) ?_
       intro zoc zwP zSE
       have zEs : RR 1 (p48 (Z ++ zoc)) [(.slice (some ⟨ziy,0,none⟩) (([(⟨0,2,0⟩ : Sapi_Hop),(⟨2,1,1⟩ : Sapi_Hop)] : List Sapi_Hop).length) 2)] ([([(⟨0,2,0⟩ : Sapi_Hop),(⟨2,1,1⟩ : Sapi_Hop)] : List Sapi_Hop)] : List (List Sapi_Hop)):=(RR.cons (r:=[(.slice (some ⟨ziy,0,none⟩) (([(⟨0,2,0⟩ : Sapi_Hop),(⟨2,1,1⟩ : Sapi_Hop)] : List Sapi_Hop).length) 2)]) rfl (show p48 _ _ _ from ⟨_,_,rfl,zSE⟩) (RR.nil _ _))
       refine WL.nA 155 (yN (cs:=[(.slice (some ⟨ziy,0,none⟩) (([(⟨0,2,0⟩ : Sapi_Hop),(⟨2,1,1⟩ : Sapi_Hop)] : List Sapi_Hop).length) 2)]) y6z (Eos.parts (l:=[.tmp 154]) (.cons rfl .nil) [0]) (fun _=>by kernel_rfl) rfl (by unfold maxLen; omega)) ?_
       intro z10W _
       have zSF : RR 1 (p48 (Z ++ zoc)) (zb9 ++ [(.slice (some ⟨ziy,0,none⟩) (([(⟨0,2,0⟩ : Sapi_Hop),(⟨2,1,1⟩ : Sapi_Hop)] : List Sapi_Hop).length) 2)]) (z3G ++ ([([(⟨0,2,0⟩ : Sapi_Hop),(⟨2,1,1⟩ : Sapi_Hop)] : List Sapi_Hop)] : List (List Sapi_Hop))):=RR.app (zEn.weak (fun _ _ h=>y1e zwP h)) zEs
       refine WL.fA 156 (y7o (l1:=z3G) (l2:=([([(⟨0,2,0⟩ : Sapi_Hop),(⟨2,1,1⟩ : Sapi_Hop)] : List Sapi_Hop)] : List (List Sapi_Hop))) (news:=[(.slice (some ⟨ziy,0,none⟩) (([(⟨0,2,0⟩ : Sapi_Hop),(⟨2,1,1⟩ : Sapi_Hop)] : List Sapi_Hop).length) 2)]) (Pr:=(p48 (Z ++ zoc))) y6z rfl rfl .h5 zEs (y3C .here) (y6J rfl y7z) zSD) ?_
       rintro ⟨zSG,zSH⟩ _
       refine WL.pu rfl (WL.nil (WX.yk (WX.a (WC.a (WL.pu rfl (WL.pu rfl (WL.nil ?_)))))))
       exact WX.round ⟨zwo,(z3G ++ ([([(⟨0,2,0⟩ : Sapi_Hop),(⟨2,1,1⟩ : Sapi_Hop)] : List Sapi_Hop)] : List (List Sapi_Hop))),(i64 (z7j + 1)),(z3l ++ ([(⟨⟨#[]⟩,(⟨⟨#[]⟩,⟨#[]⟩,⟨#[]⟩⟩ : Sapi_Ref),100,51,[]⟩ : Sapi_VL)] : List Sapi_VL)),zoc,zSG,zSH,(zb9 ++ [(.slice (some ⟨ziy,0,none⟩) (([(⟨0,2,0⟩ : Sapi_Hop),(⟨2,1,1⟩ : Sapi_Hop)] : List Sapi_Hop).length) 2)]),zEq,zEr,(zba ++ [(.string ⟨#[]⟩),(.string ⟨#[]⟩),(.string ⟨#[]⟩),(.string ⟨#[]⟩),(.int .i64 100),(.int .i64 51),(.slice none 0 0)])⟩ ⟨h,(zEm.trans zwP),zSF,(zSC.weak (fun _ _ h=>y1C zwP h))⟩ (Nat.lt_succ_self _) (.r3 rfl rfl rfl) (.s7 .h2 .here .h1 .h3 .h3 .h3 .h1)
      ·replace h:=yp h zwO
       refine WC.exit (WX.yg (WX.yg (WX.yA ?_)))
       exact WX.mid ⟨z3G,z3l,z7m,zfi,zfj,zb9,zfk,zfl,zba⟩ ⟨h,zEm,zEn,zEo⟩ (.r2 rfl rfl) (.s7 .here .here .here .here .here .here .here)
     ·rintro z7Z z42 zb8 zlu zlv zlw zlx zfh ziw ⟨h,z5T,zEt,zwQ⟩
      replace h:=(zSA z7Z z42).symm.trans h
      refine WC.b ?_
      obtain ⟨zwq,zSI,h⟩:=z6 h
      refine WC.a (WL.qA 159 (yf y2z rfl (yh .h2) rfl) (WL.pu rfl (WL.y7n (dd:=161) rfl rfl rfl (z8 Tryz.call10 (.r3 rfl rfl rfl)) .nil (y8k hz .nil .here (.s5 .h3 .h3 .h3 .h3 .h1) fun w pz ho la=>y5t _ _ _ _ _ _ _ _ _ _ _ _ _ _ _ _ _ _ _ _ _ _ _ zSI w pz (ZA.row (la _ (.head _) _) ((zEh.weak (fun _ _ h=>y1t ((Zle.yU _ _ _).trans z5T) h)).weak (fun _ _ h=>y1t (Zle.left _ _) h)) ⟨w,pz.1⟩) ((((zEi.mono ((Zle.yU _ _ _).trans z5T)).weak (fun _ _ h=>y1A ((Zle.yU _ _ _).trans z5T) h)).mono (Zle.left _ _)).weak (fun _ _ h=>y1A (Zle.left _ _) h)) (ZA.row (la _ (.tail _ (.head _)) _) (RR.flat (enc:=e66) (fun _=>rfl) _) ⟨w,pz.1⟩) (ZA.row (la _ (.tail _ (.tail _ (.head _))) _) (RR.flat (enc:=e64) (fun _=>rfl) _) ⟨w,pz.1⟩) (ZA.row (la _ (.tail _ (.tail _ (.tail _ (.head _)))) _) (zwQ.weak (fun _ _ h=>y1C (Zle.left _ _) h)) ⟨w,pz.1⟩) ((zEj.mono ((Zle.yU _ _ _).trans z5T)).mono (Zle.left _ _)) ((((zEk.mono ((Zle.yU _ _ _).trans z5T)).weak (fun _ _ h=>y1B ((Zle.yU _ _ _).trans z5T) h)).mono (Zle.left _ _)).weak (fun _ _ h=>y1B (Zle.left _ _) h)) ((zEl.mono ((Zle.yU _ _ _).trans z5T)).mono (Zle.left _ _)) (ZA.row (la _ (.tail _ (.tail _ (.tail _ (.tail _ (.head _))))) _) (zEt.weak (fun _ _ h=>y1e (Zle.left _ _) h)) ⟨w,pz.1⟩)) ?_)))
      rintro z10X z10Y z10Z z110 _
      refine WL.pu rfl (WL.pu rfl (WL.pu rfl (WL.nA 23 (yw (cs:=[(.slice none 0 0),(.slice none 0 0)]) y6A rfl) ?_)))
      intro z111 _
      refine WL.yj rfl rfl (yl y5J rfl rfl rfl .here rfl rfl rfl) (WL.pu rfl (WL.nil (WX.a (WC.b ?_))))
      obtain ⟨zfm,h⟩:=yn h
      refine WC.a (WL.qA 164 (ya y2R rfl rfl) (WL.qA 165 (yc y3z rfl (ym .h5 rfl)) (WL.know (fun w hw=>Hp.y2j (.there (.there .h7)) hw (by intro hz'; have:=zfm; rw [hz'] at this; omega)) ?_)))
      rintro ⟨zEu,rfl⟩
      obtain ⟨z112,z113,z114,zSJ,⟨z115,z116,rfl,zSK⟩⟩:=RR.elem (Pr:=(p46 (Z ++ zb8))) zwQ zfm.1 zfm.2
      refine WL.qA 166 (yV y4q rfl rfl zfm.1 zfm.2 y32) (WL.qA 167 (ya y6R rfl (Addr.add_lit _ _ _)) ?_)
      obtain ⟨zSL,zSM⟩:=RR.store (Pr:=(p46 (Z ++ zb8))) (vs:=[(.int .i64 49)]) (k:=5) (y:=({(nth z42 0) with fMax:=49} : Sapi_VL)) zwQ zfm.1 zfm.2 zSJ rfl (Nat.le_of_ble_eq_true rfl) (show p46 _ _ _ from ⟨_,_,rfl,zSK⟩)
      refine WL.yj rfl rfl (y5U (vs:=[(.int .i64 49)]) (ds:=y3A ziw ((0 : Int).toNat * 7 + 5) [(.int .i64 49)]) y8O rfl rfl rfl rfl (y6J rfl y7z) (.there (.there .h7)) zSM rfl) (WL.relen .here (u:=(.slice (some ⟨zEu,0,none⟩) ((z42.set (0 : Int).toNat ({(nth z42 0) with fMax:=49} : Sapi_VL)).length) zfh)) (y5W (List.length_set).symm) (WL.restb (cs':=[(.slice zfb zP.1.fModules.length zfc),(.slice zlm zP.1.fChannels.length zln),(.slice zfd zP.1.fSwitches.length zfe),(.slice zff zP.1.fLinks.length zfg),(.slice (some ⟨zEu,0,none⟩) ((z42.set (0 : Int).toNat ({(nth z42 0) with fMax:=49} : Sapi_VL)).length) zfh),(.slice zlo zP.1.fHealth.length zlp),(.slice zlq zP.1.fCauses.length zlr),(.slice zls zP.1.fVersions.length zlt)]) .h6 (by simp only [List.length_set]) (WL.nil (WX.a (WC.b ?_)))))
      obtain ⟨zwr,zSN,h⟩:=z6 h
      refine WC.a (WL.qA 169 (yf y2z rfl (yh .here) rfl) (WL.pu rfl (WL.y7n (dd:=171) rfl rfl rfl (z8 Tryz.call10 (.r3 rfl rfl rfl)) .nil (y8k hz .nil .h5 (.s5 .h7 .h7 .h7 .h1 .h5) fun w pz ho la=>y5t _ _ _ _ _ _ _ _ _ _ _ _ _ _ _ _ _ _ _ _ _ _ _ zSN w pz (ZA.row (la _ (.head _) _) ((zEh.weak (fun _ _ h=>y1t ((Zle.yU _ _ _).trans z5T) h)).weak (fun _ _ h=>y1t (Zle.left _ _) h)) ⟨w,pz.1⟩) ((((zEi.mono ((Zle.yU _ _ _).trans z5T)).weak (fun _ _ h=>y1A ((Zle.yU _ _ _).trans z5T) h)).mono (Zle.left _ _)).weak (fun _ _ h=>y1A (Zle.left _ _) h)) (ZA.row (la _ (.tail _ (.head _)) _) (RR.flat (enc:=e66) (fun _=>rfl) _) ⟨w,pz.1⟩) (ZA.row (la _ (.tail _ (.tail _ (.head _))) _) (RR.flat (enc:=e64) (fun _=>rfl) _) ⟨w,pz.1⟩) (ZA.row (la _ (.tail _ (.tail _ (.tail _ (.head _)))) _) (zSL.weak (fun _ _ h=>y1C (Zle.left _ _) h)) ⟨w,pz.1⟩) ((zEj.mono ((Zle.yU _ _ _).trans z5T)).mono (Zle.left _ _)) ((((zEk.mono ((Zle.yU _ _ _).trans z5T)).weak (fun _ _ h=>y1B ((Zle.yU _ _ _).trans z5T) h)).mono (Zle.left _ _)).weak (fun _ _ h=>y1B (Zle.left _ _) h)) ((zEl.mono ((Zle.yU _ _ _).trans z5T)).mono (Zle.left _ _)) (ZA.row (la _ (.tail _ (.tail _ (.tail _ (.tail _ (.head _))))) _) (zEt.weak (fun _ _ h=>y1e (Zle.left _ _) h)) ⟨w,pz.1⟩)) ?_)))
      rintro z117 z118 z119 z11a _
      refine WL.pu rfl (WL.pu rfl (WL.pu rfl (WL.nA 25 (yw (cs:=[(.slice none 0 0),(.slice none 0 0)]) y6A rfl) ?_)))
      intro z11b _
      refine WL.yj rfl rfl (yl y5J rfl rfl rfl .here rfl rfl rfl) (WL.pu rfl (WL.nil (WX.a (WC.b ?_))))
      obtain ⟨zws,zEv,h⟩:=z6 h
      refine WC.a (WL.pu rfl (WL.pu rfl (WL.pu rfl (WL.seg true 2 176 (B:=(decide (zwq.2 = 352)) && (decide (zwr.2 = 0))) rfl rfl rfl rfl rfl rfl (fun h=>(y2O h).symm) (fun _ zSO=>?_) ?_))))
      ·skip
       refine WL.pu rfl (WL.pu rfl (WL.pu rfl ?_))
       exact WL.yB (y2P zSO) rfl rfl .all
      refine WL.pu rfl (WL.seg true 1 180 (B:=zws) rfl rfl rfl rfl rfl rfl (fun h=>(Option.some.inj (yp zEv h)).symm) (fun _ zSP=>?_) ?_)
      ·skip
       have zly:=yo zEv zSP
       obtain ⟨zE9,zSQ,zly⟩:=z6 zly
       replace zly:=Option.some.inj zly
       refine WL.cA 181 (z8 Tryz.call9 .nil) .nil (ccz hz .nil (.there .h7) fun w pz ho=>y7e _ _ zSQ w pz ) (WL.pu rfl ?_)
       exact WL.yB zly rfl rfl .all
      refine WL.pu rfl (WL.nil (WX.a (WC.ret ?_)))
      obtain rfl:=Option.some.inj h
      refine WX.ye Tryz.results6 (.tmp rfl .nil) (fun w hw=>?_)
      exact ⟨yC rfl,hw.sub .nil⟩
end Go.Proofs.YtcahmabkeaijdaaGreat

/- A part of this claim's proof: models of functions, walks, plain laws. No conditions. -/
import Derived.Test.YtcahmabkeaijdaaGreatW35xf
set_option linter.all false
namespace Go.Proofs.YtcahmabkeaijdaaGreat
open Go Go.RowKit Sep
set_option maxRecDepth 30000
set_option maxHeartbeats 4000000
def y25 (zd : Sapi_Config) (zaA : Int → Option Bool) : Nat → Int → Int → Option Bool
 | 0,_,_=>none
 | zvB + 1,z5t,z41=>if decide (z41 < ((zd.fLinks.length : Nat) : Int)) then chk ((0 : Int) ≤ z41 ∧ z41 < ((zd.fLinks.length : Nat) : Int)) (if (decide (z5t ≠ 0)) && (decide (((nth zd.fLinks z41).fSlow) ≠ z5t)) then (y4y).bind fun zDa=>some zDa else y25 zd zaA zvB ((nth zd.fLinks z41).fSlow) (i64 (z41 + 1))) else zaA z5t
theorem y8q {n : Nat} {zd : Sapi_Config} {zaA : Int → Option Bool} {z5t : Int} {z41 : Int} {r : Bool} (h : y25 zd zaA n z5t z41 = some r) : ∃ m,n = m + 1:=by
 cases n with
 | zero=>cases h
 | succ m=>exact ⟨m,rfl⟩
def y2y (z11 : S37 × Int) (z1r : Int) (zd : Sapi_Config) (z3G : Int) (zaB : Option Bool) : Nat → Int → Option Bool
 | 0,_=>none
 | zvC + 1,z1S=>if decide (z1S < ((z11.1.fPorts.length : Nat) : Int)) then chk ((0 : Int) ≤ z1S ∧ z1S < ((z11.1.fPorts.length : Nat) : Int)) (chk ((0 : Int) ≤ (Int.tmod (i64 z1r) ((zd.fVLs.length : Nat) : Int)) ∧ (Int.tmod (i64 z1r) ((zd.fVLs.length : Nat) : Int)) < ((zd.fVLs.length : Nat) : Int)) (jp1 (fun (zcK : Int)=>if decide (((nth z11.1.fPorts z1S).fDelay) ≠ zcK) then some false else y2y z11 z1r zd z3G zaB zvC (i64 (z1S + 1))) fun znj=>if decide ((i64 (((nth z11.1.fPorts z1S).fNode) - ((zd.fModules.length : Nat) : Int))) ≥ 0) then chk ((0 : Int) ≤ (i64 (((nth z11.1.fPorts z1S).fNode) - ((zd.fModules.length : Nat) : Int))) ∧ (i64 (((nth z11.1.fPorts z1S).fNode) - ((zd.fModules.length : Nat) : Int))) < ((zd.fSwitches.length : Nat) : Int)) (znj (i64 ((i64 (((nth zd.fVLs (Int.tmod (i64 z1r) ((zd.fVLs.length : Nat) : Int))).fMax) * z3G)) + ((nth zd.fSwitches (i64 (((nth z11.1.fPorts z1S).fNode) - ((zd.fModules.length : Nat) : Int)))).fDelay)))) else znj (i64 (((nth zd.fVLs (Int.tmod (i64 z1r) ((zd.fVLs.length : Nat) : Int))).fMax) * z3G)))) else zaB
theorem y8r {n : Nat} {z11 : S37 × Int} {z1r : Int} {zd : Sapi_Config} {z3G : Int} {zaB : Option Bool} {z1S : Int} {r : Bool} (h : y2y z11 z1r zd z3G zaB n z1S = some r) : ∃ m,n = m + 1:=by
 cases n with
 | zero=>cases h
 | succ m=>exact ⟨m,rfl⟩
def y5s (zd : Sapi_Config) (zhQ : Int) (z1H : List (List Sapi_Hop)) (z1r : Int) : Option Bool :=
 (y74 zd z1H).bind fun zDb=>(if !zDb then some true else (y3T zd zhQ z1H).bind fun zDc=>some (!zDc)).bind fun znk=>if znk || (decide (((zd.fVLs.length : Nat) : Int) = 0)) then (y4y).bind fun zDd=>some zDd else chk ((((zd.fVLs.length : Nat) : Int) : Int) ≠ 0) (chk ((0 : Int) ≤ ((z1H.length : Nat) : Int) ∧ (((z1H.length : Nat) : Int) : Int) ≤ ((z1H.length : Nat) : Int) ∧ (((z1H.length : Nat) : Int) : Int) * 24 ≤ 140737488355328 ∧ (((z1H.length : Nat) : Int) : Int) ≤ 4611686018427387904) (chk ((0 : Int) ≤ (Int.tmod (i64 z1r) ((zd.fVLs.length : Nat) : Int)) ∧ (Int.tmod (i64 z1r) ((zd.fVLs.length : Nat) : Int)) < ((z1H.length : Nat) : Int)) (chk ((0 : Int) ≤ (Int.tmod (i64 z1r) ((zd.fVLs.length : Nat) : Int)) ∧ (Int.tmod (i64 z1r) ((zd.fVLs.length : Nat) : Int)) < (((List.replicate (((z1H.length : Nat) : Int) : Int).toNat ([] : List Sapi_Hop)).length : Nat) : Int)) ((y4s zd zhQ ((List.replicate (((z1H.length : Nat) : Int) : Int).toNat ([] : List Sapi_Hop)).set ((Int.tmod (i64 z1r) ((zd.fVLs.length : Nat) : Int)) : Int).toNat (nth z1H (Int.tmod (i64 z1r) ((zd.fVLs.length : Nat) : Int))))).bind fun z11=>if decide (z11.2 ≠ 0) then (y4y).bind fun zDe=>some zDe else jp1 (fun (z3G : Int)=>jp0 ((y4y).bind fun zDf=>some zDf) fun zaB=>y2y z11 z1r zd z3G zaB yz 0) fun zaA=>y25 zd zaA yz 0 0))))
theorem yb1 (Z : Zp) (zcL : Option Addr) (zcM : Nat) (zcN : Option Addr) (zcO : Nat) (zcP : Option Addr) (zcQ : Nat) (zaC : Option Addr) (zaD : Nat) (zcR : Option Addr) (zcS : Nat) (zcT : Option Addr) (zcU : Nat) (zcV : Option Addr) (zcW : Nat) (zcX : Option Addr) (zcY : Nat) (zvD : Option Addr) (zvE : Nat) (zd : Sapi_Config) (zhQ : Int) (z1H : List (List Sapi_Hop)) (z1r : Int) (r : Bool)
  (h : y5s zd zhQ z1H z1r = some r) (w₀ : World) (hz : PZ [] w₀ Z)
  (zvF : ZS Z 4 (y48 Z) zcL zcM zd.fModules)
  (zvG : ZS Z 4 (y4H Z) zcN zcO zd.fChannels)
  (znl : ZS Z 4 (fun r x=>r = e66 x) zcP zcQ zd.fSwitches)
  (znm : ZS Z 4 (fun r x=>r = e64 x) zaC zaD zd.fLinks)
  (znn : ZS Z 7 (p46 Z) zcR zcS zd.fVLs)
  (zvH : ZS Z 5 (fun r x=>r = y4U x) zcT zcU zd.fHealth)
  (zvI : ZS Z 3 (y4I Z) zcV zcW zd.fCauses)
  (zvJ : ZS Z 4 (fun r x=>r = y4V x) zcX zcY zd.fVersions)
  (zvK : ZS Z 1 (p48 Z) zvD zvE z1H) :
  Calls Tryz.prog 5 #[(.agg #[(.slice zcL zd.fModules.length zcM),(.slice zcN zd.fChannels.length zcO),(.slice zcP zd.fSwitches.length zcQ),(.slice zaC zd.fLinks.length zaD),(.slice zcR zd.fVLs.length zcS),(.slice zcT zd.fHealth.length zcU),(.slice zcV zd.fCauses.length zcW),(.slice zcX zd.fVersions.length zcY)]),(.int .i64 zhQ),(.slice zvD z1H.length zvE),(.int .u8 z1r)] w₀ fun e w'=>e = .returned (.bool r) ∧ Hp [] w₀ w' []:=by
 unfold y5s at h
 refine Calls.on4 Tryz.func5 Tryz.ntmps5 ?_
 refine WC.b (WC.a (WL.nA 4 (yH (cs:=[(.slice zcL zd.fModules.length zcM),(.slice zcN zd.fChannels.length zcO),(.slice zcP zd.fSwitches.length zcQ),(.slice zaC zd.fLinks.length zaD),(.slice zcR zd.fVLs.length zcS),(.slice zcT zd.fHealth.length zcU),(.slice zcV zd.fCauses.length zcW),(.slice zcX zd.fVersions.length zcY)]) rfl rfl) ?_))
 intro zcZ _
 refine WL.pu rfl (WL.nil (WX.a (WC.b (WC.b ?_))))
 obtain ⟨zDb,zQG,h⟩:=z7 h
 obtain ⟨znk,zDg,h⟩:=z7 h
 refine WC.a (WL.qA 20 (yf y2X rfl (yh .here) rfl) (WL.pu rfl (WL.cA 22 (z8 Tryz.call8 (.r2 rfl rfl)) .nil (cc hz .nil fun w pz ho=>yev _ _ _ _ _ _ _ _ _ _ _ _ _ _ _ _ _ _ _ _ _ _ zQG w pz zvF zvG znl znm znn zvH zvI zvJ zvK) (WL.pu rfl (WL.pu rfl (WL.seg false 5 24 (B:=znk) rfl rfl rfl rfl rfl rfl (fun h=>(Option.some.inj (yo zDg h)).symm) (fun _ zQH=>?_) ?_))))))
 ·skip
  have zkF:=yp zDg zQH
  obtain ⟨zDc,zQI,zkF⟩:=z7 zkF
  replace zkF:=Option.some.inj zkF
  refine WL.qA 25 (yf y2X rfl (yh .here) rfl) (WL.pu rfl (WL.pu rfl (WL.cA 28 (z8 Tryz.call12 (.r3 rfl rfl rfl)) .nil (cc hz .nil fun w pz ho=>y7B _ _ _ _ _ _ _ _ _ _ _ _ _ _ _ _ _ _ _ _ _ _ _ zQI w pz zvF zvG znl znm znn zvH zvI zvJ zvK) (WL.pu rfl (WL.pu rfl ?_)))))
  exact WL.yB zkF rfl rfl .all
 refine WL.pu rfl (WL.seg false 4 31 (B:=znk || (decide (((zd.fVLs.length : Nat) : Int) = 0))) rfl rfl rfl rfl rfl rfl (fun h=>(y6V h).symm) (fun _ zQJ=>?_) ?_)
 ·skip
  refine WL.qA 32 (ya y5D rfl rfl) (WL.qA 33 (yc y5E rfl (yj .here rfl)) (WL.qA 34 (yG Tryz.underlying26 rfl) (WL.pu rfl (WL.pu rfl ?_))))
  exact WL.yB (y6W zQJ) rfl rfl .all
 refine WL.nil (WX.a (WC.cond rfl (fun zvL=>?_) (fun zvL=>?_)))
 ·replace h:=yo h zvL
  refine WC.b ?_
  obtain ⟨zDd,zQK,h⟩:=z7 h
  refine WC.a (WL.cA 37 (z8 Tryz.call9 .nil) .nil (cc hz .nil fun w pz ho=>y79 _ _ zQK w pz ) (WL.pu rfl (WL.nil (WX.a (WC.ret (WX.yd ?_))))))
  obtain rfl:=Option.some.inj h
  refine WX.ye Tryz.results5 (.tmp rfl .nil) (fun w hw=>?_)
  exact ⟨yC rfl,hw.sub .nil⟩
 ·replace h:=yp h zvL
  refine WC.skip (WX.a (WC.b ?_))
  obtain ⟨zQL,h⟩:=ym h
  refine WC.a (WL.pu rfl (WL.qA 39 (y72 Tryz.underlying5 Tryz.underlying3 rfl rfl) (WL.qA 40 (ya y5D rfl rfl) (WL.qA 41 (yc y5E rfl (yj .here rfl)) (WL.qA 42 (yG Tryz.underlying26 rfl) (WL.qA 43 (q_rem rfl rfl zQL rfl) (WL.pu rfl (WL.nil (WX.a (WC.b ?_))))))))))
  obtain ⟨zQM,h⟩:=ym h
  refine WC.a (WL.pu rfl (WL.qA 45 (yG Tryz.underlying32 rfl) ?_))
  have zDh : RR 1 (p48 Z) (List.replicate (((z1H.length : Nat) : Int) : Int).toNat [(.slice none 0 0)]).flatten (List.replicate (((z1H.length : Nat) : Int) : Int).toNat ([] : List Sapi_Hop)):=RR.yeJ rfl (show p48 _ _ _ from ⟨none,0,rfl,(ZS.nil _ _ _)⟩) _
  refine WL.nA 46 (yeq (r:=[(.slice none 0 0)]) (z0:=([] : List Sapi_Hop)) y73 zeroT_48 rfl rfl rfl rfl zQM) ?_
  intro zDi _
  refine WL.pu rfl (WL.nil (WX.a (WC.b ?_)))
  obtain ⟨zQN,h⟩:=ym h
  obtain ⟨zhR,h⟩:=ym h
  refine WC.a (WL.pu rfl (WL.pu rfl (WL.pu rfl (WL.pu rfl (WL.znth (dd:=51) rfl rfl (Z:=Z) (Pr:=(p48 Z)) y73 rfl rfl zvK zQN ?_)))))
  rintro zYm zYn zQO zYo ⟨zvM,zvN,rfl,zQP⟩
  refine WL.qA 52 (yc y6H rfl (y53 hz.pv zQO rfl)) ?_
  obtain ⟨zYp,zYq,zYr,zQQ,⟨zYs,zYt,rfl,zYu⟩⟩:=RR.elem (Pr:=(p48 Z)) zDh zhR.1 zhR.2
  refine WL.qA 53 (y17 y73 rfl rfl zhR.1 zhR.2 y3S) ?_
  obtain ⟨zQR,zQS⟩:=RR.store (Pr:=(p48 Z)) (vs:=[(.slice zvM ((nth z1H (Int.tmod (i64 z1r) ((zd.fVLs.length : Nat) : Int))).length) zvN)]) (k:=0) (y:=(nth z1H (Int.tmod (i64 z1r) ((zd.fVLs.length : Nat) : Int)))) zDh zhR.1 zhR.2 zQQ rfl (Nat.le_of_ble_eq_true rfl) (show p48 _ _ _ from ⟨_,_,rfl,zQP⟩)
  refine WL.yl rfl rfl (yc0 (vs:=[(.slice zvM ((nth z1H (Int.tmod (i64 z1r) ((zd.fVLs.length : Nat) : Int))).length) zvN)]) (ds:=y5t ((List.replicate (((z1H.length : Nat) : Int) : Int).toNat [(.slice none 0 0)]).flatten) (((Int.tmod (i64 z1r) ((zd.fVLs.length : Nat) : Int)) : Int).toNat * 1 + 0) [(.slice zvM ((nth z1H (Int.tmod (i64 z1r) ((zd.fVLs.length : Nat) : Int))).length) zvN)]) sizT_48 rfl rfl rfl rfl (ycv rfl ydx) .here zQS rfl) (WL.relen .here (u:=(.slice (some ⟨zDi,0,none⟩) (((List.replicate (((z1H.length : Nat) : Int) : Int).toNat ([] : List Sapi_Hop)).set ((Int.tmod (i64 z1r) ((zd.fVLs.length : Nat) : Int)) : Int).toNat (nth z1H (Int.tmod (i64 z1r) ((zd.fVLs.length : Nat) : Int)))).length) ((((z1H.length : Nat) : Int) : Int).toNat))) (y7u (List.length_set).symm) (WL.repin (i:=10) rfl (u:=(.slice (some ⟨zDi,0,none⟩) (((List.replicate (((z1H.length : Nat) : Int) : Int).toNat ([] : List Sapi_Hop)).set ((Int.tmod (i64 z1r) ((zd.fVLs.length : Nat) : Int)) : Int).toNat (nth z1H (Int.tmod (i64 z1r) ((zd.fVLs.length : Nat) : Int)))).length) ((((z1H.length : Nat) : Int) : Int).toNat))) (y7u (List.length_set).symm) (WL.nil (WX.a (WC.b ?_)))))
  obtain ⟨z11,zQT,h⟩:=z7 h
  refine WC.a (WL.qA 55 (yf y2X rfl (yh .h1) rfl) (WL.pu rfl (WL.pu rfl (WL.yat (dd:=58) rfl rfl rfl (z8 Tryz.call10 (.r3 rfl rfl rfl)) .nil (ccl hz .nil (.cons .here .nil) fun w pz ho la=>y9i _ _ _ _ _ _ _ _ _ _ _ _ _ _ _ _ _ _ _ _ _ _ _ zQT w pz ((zvF.mono (Zle.left _ _)).weak (fun _ _ h=>y2d (Zle.left _ _) h)) ((zvG.mono (Zle.left _ _)).weak (fun _ _ h=>y2r (Zle.left _ _) h)) (znl.mono (Zle.left _ _)) (znm.mono (Zle.left _ _)) ((znn.mono (Zle.left _ _)).weak (fun _ _ h=>y29 (Zle.left _ _) h)) (zvH.mono (Zle.left _ _)) ((zvI.mono (Zle.left _ _)).weak (fun _ _ h=>y2s (Zle.left _ _) h)) (zvJ.mono (Zle.left _ _)) (ZA.row (la _ (.head _) _) (zQR.weak (fun _ _ h=>y2v (Zle.left _ _) h)) ⟨w,pz.1⟩)) ?_))))
  rintro zkG zkH zno znp _
  refine WL.pu rfl (WL.pu rfl (WL.pu rfl (WL.nA 11 (yx (cs:=[(.slice none 0 0),(.slice none 0 0)]) y8P rfl) ?_)))
  intro znq _
  refine WL.yl rfl rfl (yk y7m rfl rfl rfl .here rfl rfl rfl) (WL.pu rfl (WL.nil (WX.a (WC.b (WC.b (WC.a (WL.pu rfl (WL.pu rfl (WL.nil (WX.a (WC.cond rfl (fun zvO=>?_) (fun zvO=>?_))))))))))))
  ·replace h:=yo h zvO
   refine WC.b ?_
   obtain ⟨zDe,zQU,h⟩:=z7 h
   refine WC.a (WL.cA 63 (z8 Tryz.call9 .nil) .nil (cc hz .nil fun w pz ho=>y79 _ _ zQU w pz ) (WL.pu rfl (WL.nil (WX.a (WC.ret (WX.yd ?_))))))
   obtain rfl:=Option.some.inj h
   refine WX.ye Tryz.results5 (.tmp rfl .nil) (fun w hw=>?_)
   exact ⟨yC rfl,hw.sub .nil⟩
  ·replace h:=yp h zvO
   refine WC.skip (WX.a (WC.b (WC.a (WL.pu rfl (WL.nil (WX.a ?_))))))
   obtain ⟨zaA,zQV,h⟩:=y14 h
   refine WC.y3z (fun (z3G : Int)=>(zaA z3G = some r)) (fun z3G=>[(4,(.pointer (some ⟨zcZ,0,none⟩))),(9,(.int .i64 (Int.tmod (i64 z1r) ((zd.fVLs.length : Nat) : Int)))),(11,(.pointer (some ⟨znq,0,none⟩))),(13,(.int .i64 z3G))]) (fun z3G=>[stb zcZ 31 [(.slice zcL zd.fModules.length zcM),(.slice zcN zd.fChannels.length zcO),(.slice zcP zd.fSwitches.length zcQ),(.slice zaC zd.fLinks.length zaD),(.slice zcR zd.fVLs.length zcS),(.slice zcT zd.fHealth.length zcU),(.slice zcV zd.fCauses.length zcW),(.slice zcX zd.fVersions.length zcY)],stb znq 38 [(.slice zkG z11.1.fPorts.length zkH),(.slice zno z11.1.fEnds.length znp)],row (.slice zkG z11.1.fPorts.length zkH) 58 4 (z11.1.fPorts.flatMap e58),row (.slice zno z11.1.fEnds.length znp) 79 3 (z11.1.fEnds.flatMap e79)]) ?_ ?_
   ·skip
    refine WC.b (WC.a (WL.qA 64 (ya y7T rfl rfl) (WL.qA 65 (yc y7U rfl (yj .h4 rfl)) (WL.qA 66 (yG Tryz.underlying25 rfl) (WL.pu rfl (WL.nil (WX.a (WC.block (WC.y8O (fun (zhS : Nat) (z5t : Int) (z41 : Int)=>(y25 zd zaA zhS z5t z41 = some r)) (fun zhS z5t z41=>[(4,(.pointer (some ⟨zcZ,0,none⟩))),(9,(.int .i64 (Int.tmod (i64 z1r) ((zd.fVLs.length : Nat) : Int)))),(11,(.pointer (some ⟨znq,0,none⟩))),(13,(.int .i64 z5t)),(65,(.slice zaC zd.fLinks.length zaD)),(66,(.int .i64 ((zd.fLinks.length : Nat) : Int))),(67,(.int .i64 z41))]) (fun zhS z5t z41=>[stb zcZ 31 [(.slice zcL zd.fModules.length zcM),(.slice zcN zd.fChannels.length zcO),(.slice zcP zd.fSwitches.length zcQ),(.slice zaC zd.fLinks.length zaD),(.slice zcR zd.fVLs.length zcS),(.slice zcT zd.fHealth.length zcU),(.slice zcV zd.fCauses.length zcW),(.slice zcX zd.fVersions.length zcY)],stb znq 38 [(.slice zkG z11.1.fPorts.length zkH),(.slice zno z11.1.fEnds.length znp)],row (.slice zkG z11.1.fPorts.length zkH) 58 4 (z11.1.fPorts.flatMap e58),row (.slice zno z11.1.fEnds.length znp) 79 3 (z11.1.fEnds.flatMap e79)]) (fun zhS z5t z41=>zhS) ⟨yz,0,0⟩ h (.r7 rfl rfl rfl rfl rfl rfl rfl) (.s4 .h4 .here .here .here) ?_)))))))))
    rintro zhS z5t z41 h
    obtain ⟨zvB,rfl⟩:=y8q h
    rw [y25] at h
    refine WC.b (WC.a (WL.pu rfl (WL.nil (WX.a (WC.b (WC.cond rfl (fun zvP=>?_) (fun zvP=>?_)))))))
    ·replace h:=yo h zvP
     refine WC.skip (WX.a (WC.b (WC.block (WC.b ?_))))
     obtain ⟨zQW,h⟩:=ym h
     refine WC.a (WL.znth (dd:=69) rfl rfl (Z:=Z) (Pr:=(fun r x=>r = e64 x)) yaO rfl rfl znm zQW ?_)
     rintro zYv zYw zQX zYx rfl
     refine WL.qA 70 (yf yeM rfl (y2o hz.pv zQX) rfl) (WL.nA 15 (yx (cs:=[(.string ⟨#[]⟩),(.string ⟨#[]⟩),(.int .i64 0),(.int .i64 0)]) ydL rfl) ?_)
     intro zYy _
     refine WL.yl rfl rfl (yk yeN rfl rfl rfl .here rfl rfl rfl) (WL.nil (WX.a (WC.b (WC.b (WC.a (WL.pu rfl (WL.pu rfl (WL.pu rfl (WL.seg true 4 73 (B:=(decide (z5t ≠ 0)) && (decide (((nth zd.fLinks z41).fSlow) ≠ z5t))) rfl rfl rfl rfl rfl rfl (fun h=>(y2T h).symm) (fun _ zQY=>?_) ?_)))))))))
     ·skip
      refine WL.qA 74 (ya y8I rfl rfl) (WL.qA 75 (yc yw rfl (yj .here rfl)) (WL.pu rfl (WL.pu rfl (WL.pu rfl ?_))))
      exact WL.yB (y2U zQY) rfl rfl .all
     refine WL.nil (WX.a (WC.cond rfl (fun zvQ=>?_) (fun zvQ=>?_)))
     ·replace h:=yo h zvQ
      refine WC.b ?_
      obtain ⟨zDa,zQZ,h⟩:=z7 h
      refine WC.a (WL.cA 79 (z8 Tryz.call9 .nil) .nil (cc hz .nil fun w pz ho=>y79 _ _ zQZ w pz ) (WL.pu rfl (WL.nil (WX.a (WC.ret (WX.yd (WX.yt (WX.yd (WX.yd (WX.yt (WX.yd ?_)))))))))))
      obtain rfl:=Option.some.inj h
      refine WX.ye Tryz.results5 (.tmp rfl .nil) (fun w hw=>?_)
      exact ⟨yC rfl,hw.sub .nil⟩
     ·replace h:=yp h zvQ
      refine WC.skip (WX.a (WC.a (WL.qA 80 (ya y8I rfl rfl) (WL.qA 81 (yc yw rfl (yj .here rfl)) (WL.pu rfl (WL.nil (WX.yq (WX.a (WC.a (WL.pu rfl (WL.pu rfl (WL.nil ?_))))))))))))
      exact WX.round ⟨zvB,((nth zd.fLinks z41).fSlow),(i64 (z41 + 1))⟩ h (Nat.lt_succ_self _) (.r7 rfl rfl rfl rfl rfl rfl rfl) (.s4 .h1 .h1 .h1 .h1)
    ·replace h:=yp h zvP
     refine WC.exit (WX.yg (WX.yg (WX.yA ?_)))
     exact WX.mid z5t h (.r4 rfl rfl rfl rfl) (.s4 .here .here .here .here)
   ·rintro z3G h
    replace h:=(zQV z3G).symm.trans h
    obtain ⟨zaB,zR0,h⟩:=y2i h
    refine WC.y1G ((zaB = some r)) ([]) ([]) ?_ ?_
    ·skip
     refine WC.b (WC.a (WL.qA 83 (ya y69 rfl rfl) (WL.qA 84 (yc y6J rfl (yj .h1 rfl)) (WL.qA 85 (yG Tryz.underlying35 rfl) (WL.pu rfl (WL.nil (WX.a (WC.block (WC.y4T (fun (zhT : Nat) (z1S : Int) (zhU : Option Addr) (zaE : Nat)=>(y2y z11 z1r zd z3G zaB zhT z1S = some r)) (fun zhT z1S zhU zaE=>[(4,(.pointer (some ⟨zcZ,0,none⟩))),(9,(.int .i64 (Int.tmod (i64 z1r) ((zd.fVLs.length : Nat) : Int)))),(13,(.int .i64 z3G)),(84,(.slice zhU z11.1.fPorts.length zaE)),(85,(.int .i64 ((z11.1.fPorts.length : Nat) : Int))),(86,(.int .i64 z1S))]) (fun zhT z1S zhU zaE=>[row (.slice zhU z11.1.fPorts.length zaE) 58 4 (z11.1.fPorts.flatMap e58),stb zcZ 31 [(.slice zcL zd.fModules.length zcM),(.slice zcN zd.fChannels.length zcO),(.slice zcP zd.fSwitches.length zcQ),(.slice zaC zd.fLinks.length zaD),(.slice zcR zd.fVLs.length zcS),(.slice zcT zd.fHealth.length zcU),(.slice zcV zd.fCauses.length zcW),(.slice zcX zd.fVersions.length zcY)]]) (fun zhT z1S zhU zaE=>zhT) ⟨yz,0,zkG,zkH⟩ h (.r6 rfl rfl rfl rfl rfl rfl) (.s2 .h2 .here) ?_)))))))))
     rintro zhT z1S zhU zaE h
     obtain ⟨zvC,rfl⟩:=y8r h
     rw [y2y] at h
     refine WC.b (WC.a (WL.pu rfl (WL.nil (WX.a (WC.b (WC.cond rfl (fun zvR=>?_) (fun zvR=>?_)))))))
     ·replace h:=yo h zvR
      refine WC.skip (WX.a (WC.b (WC.block (WC.b ?_))))
      obtain ⟨zkI,h⟩:=ym h
      refine WC.a (WL.know (fun w hw=>Hp.y31 .here hw (by intro hz'; have:=zkI; rw [hz'] at this; omega)) ?_)
      rintro ⟨zvS,rfl⟩
      refine WL.qA 88 (y17 y5G rfl rfl zkI.1 zkI.2 y3S) (WL.qA 89 (yR (cs:=(e58 (nth z11.1.fPorts z1S))) y8L rfl rfl (y3F .here (y3e (enc:=e58) (l:=z11.1.fPorts) (i:=z1S) (sz:=4) (fun _=>rfl) zkI.1 zkI.2))) (WL.nA 17 (yx (cs:=[(.int .i64 0),(.int .i64 0),(.int .i64 0),(.int .i64 0)]) ydM rfl) ?_))
      intro zDj _
      refine WL.yl rfl rfl (yk yeQ rfl rfl rfl .here rfl rfl rfl) (WL.nil (WX.a (WC.b ?_)))
      obtain ⟨zR1,h⟩:=ym h
      refine WC.a (WL.qA 90 (ya y5D rfl rfl) (WL.qA 91 (yc y5E rfl (yj .h2 rfl)) (WL.pu rfl (WL.znth (dd:=93) rfl rfl (Z:=Z) (Pr:=(p46 Z)) y89 rfl rfl znn zR1 ?_))))
      rintro zYz zYA zR2 zYB ⟨zYC,zYD,rfl,zYE⟩
      refine WL.qA 94 (ya y7V rfl rfl) (WL.qA 95 (yc yw rfl (y1e hz.pv zR2 rfl)) (WL.pu rfl (WL.pu rfl (WL.pu rfl (WL.nil (WX.a ?_))))))
      obtain ⟨znj,zR3,h⟩:=y14 h
      refine WC.y3z (fun (zcK : Int)=>(znj zcK = some r)) (fun zcK=>[(4,(.pointer (some ⟨zcZ,0,none⟩))),(9,(.int .i64 (Int.tmod (i64 z1r) ((zd.fVLs.length : Nat) : Int)))),(13,(.int .i64 z3G)),(17,(.pointer (some ⟨zDj,0,none⟩))),(18,(.int .i64 zcK)),(84,(.slice (some ⟨zvS,0,none⟩) z11.1.fPorts.length zaE)),(85,(.int .i64 ((z11.1.fPorts.length : Nat) : Int))),(86,(.int .i64 z1S))]) (fun zcK=>[row (.slice (some ⟨zvS,0,none⟩) z11.1.fPorts.length zaE) 58 4 (z11.1.fPorts.flatMap e58),stb zcZ 31 [(.slice zcL zd.fModules.length zcM),(.slice zcN zd.fChannels.length zcO),(.slice zcP zd.fSwitches.length zcQ),(.slice zaC zd.fLinks.length zaD),(.slice zcR zd.fVLs.length zcS),(.slice zcT zd.fHealth.length zcU),(.slice zcV zd.fCauses.length zcW),(.slice zcX zd.fVersions.length zcY)],stb zDj 58 [(.int .i64 ((nth z11.1.fPorts z1S).fNode)),(.int .i64 ((nth z11.1.fPorts z1S).fLink)),(.int .i64 ((nth z11.1.fPorts z1S).fDelay)),(.int .i64 ((nth z11.1.fPorts z1S).fStore))]]) ?_ ?_
      ·skip
       refine WC.b (WC.a (WL.qA 98 (ya ybb rfl rfl) (WL.qA 99 (yc yw rfl (yj .here rfl)) (WL.qA 100 (ya y67 rfl rfl) (WL.qA 101 (yc y68 rfl (yj .h2 rfl)) (WL.qA 102 (yG Tryz.underlying22 rfl) (WL.pu rfl (WL.pu rfl (WL.nil (WX.a (WC.b (WC.a (WL.pu rfl (WL.pu rfl (WL.nil (WX.a (WC.cond rfl (fun zvT=>?_) (fun zvT=>?_))))))))))))))))))
       ·replace h:=yo h zvT
        obtain ⟨zR4,h⟩:=ym h
        refine WC.a (WL.pu rfl (WL.qA 107 (ya y8G rfl rfl) (WL.qA 108 (yc y8H rfl (yj .h2 rfl)) (WL.pu rfl (WL.znth (dd:=110) rfl rfl (Z:=Z) (Pr:=(fun r x=>r = e66 x)) yaN rfl rfl znl zR4 ?_)))))
        rintro zYF zYG zR5 zYH rfl
        refine WL.qA 111 (ya yb9 rfl rfl) (WL.qA 112 (yc yw rfl (y1e hz.pv zR5 rfl)) (WL.pu rfl (WL.pu rfl (WL.nil ?_))))
        exact WX.mid (i64 ((i64 (((nth zd.fVLs (Int.tmod (i64 z1r) ((zd.fVLs.length : Nat) : Int))).fMax) * z3G)) + ((nth zd.fSwitches (i64 (((nth z11.1.fPorts z1S).fNode) - ((zd.fModules.length : Nat) : Int)))).fDelay))) h (.r8 rfl rfl rfl rfl rfl rfl rfl rfl) (.s3 .h1 .h1 .here)
       ·replace h:=yp h zvT
        refine WC.skip ?_
        exact WX.mid (i64 (((nth zd.fVLs (Int.tmod (i64 z1r) ((zd.fVLs.length : Nat) : Int))).fMax) * z3G)) h (.r8 rfl rfl rfl rfl rfl rfl rfl rfl) (.s3 .h1 .h1 .here)
      ·rintro zcK h
       replace h:=(zR3 zcK).symm.trans h
       refine WC.b (WC.a (WL.qA 114 (ya yeR rfl rfl) (WL.qA 115 (yc yw rfl (yj .h2 rfl)) (WL.pu rfl (WL.pu rfl (WL.nil (WX.a (WC.cond rfl (fun zvU=>?_) (fun zvU=>?_)))))))))
       ·replace h:=yo h zvU
        refine WC.b (WC.a (WL.pu rfl (WL.nil (WX.a (WC.ret (WX.yt (WX.yd (WX.yd (WX.yt (WX.yd ?_))))))))))
        obtain rfl:=Option.some.inj h
        refine WX.ye Tryz.results5 (.tmp rfl .nil) (fun w hw=>?_)
        exact ⟨yC rfl,hw.sub .nil⟩
       ·replace h:=yp h zvU
        refine WC.skip (WX.yq (WX.a (WC.a (WL.pu rfl (WL.pu rfl (WL.nil ?_))))))
        exact WX.round ⟨zvC,(i64 (z1S + 1)),(some ⟨zvS,0,none⟩),zaE⟩ h (Nat.lt_succ_self _) (.r6 rfl rfl rfl rfl rfl rfl) (.s2 .here .here)
     ·replace h:=yp h zvR
      refine WC.exit (WX.yg (WX.yg (WX.yA ?_)))
      exact WX.mid () h .nil .nil
    ·rintro  h
     replace h:=zR0.symm.trans h
     refine WC.b ?_
     obtain ⟨zDf,zR6,h⟩:=z7 h
     refine WC.a (WL.cA 119 (z8 Tryz.call9 .nil) .nil (cc hz .nil fun w pz ho=>y79 _ _ zR6 w pz ) (WL.pu rfl (WL.nil (WX.a (WC.ret ?_)))))
     obtain rfl:=Option.some.inj h
     refine WX.ye Tryz.results5 (.tmp rfl .nil) (fun w hw=>?_)
     exact ⟨yC rfl,hw.sub .nil⟩
end Go.Proofs.YtcahmabkeaijdaaGreat

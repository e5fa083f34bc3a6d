/- A part of this claim's proof: models of functions, walks, plain laws. No conditions. -/
import Derived.Test.YtcahmabkeaijdaaGreatW35xb
set_option linter.all false
namespace Go.Proofs.YtcahmabkeaijdaaGreat
open Go Go.RowKit Sep
set_option maxRecDepth 30000
set_option maxHeartbeats 4000000
def y2o (zK : List (List Sapi_Hop)) (zD : Sbound_place) (za : Sapi_Config) (z10 : List (Sbound_place × Int)) (z9K : (List (List z2)) → Int → Int → (List (Int × List Int)) → (List (Sbound_flow × z1)) → Option (List (List z2) × Int × Int × (List (Sbound_flow × z1)))) : Nat → (List (List z2)) → Int → Int → Int → (List (Int × List Int)) → (List (Sbound_flow × z1)) → Option (List (List z2) × Int × Int × (List (Sbound_flow × z1)))
 | 0,_,_,_,_,_,_=>none
 | zrP + 1,z2a,z4O,zL,z3L,z1N,z2b=>if decide (zL < ((zK.length : Nat) : Int)) then jp5 (fun (z7D : List (List z2)) (z9L : Int) (z9M : Int) (z9N : List (Int × List Int)) (z9O : List (Sbound_flow × z1))=>y2o zK zD za z10 z9K zrP z7D z9L (i64 (zL + 1)) z9M z9N z9O) fun zmo=>chk ((0 : Int) ≤ zL ∧ zL < ((zK.length : Nat) : Int)) ((y18 (nth zK zL) (fun (y0 : Sapi_Hop)=>y3L y0 zD)).bind fun zzW=>if !zzW then zmo z2a z4O z3L z1N z2b else chk ((0 : Int) ≤ zL ∧ zL < ((za.fVLs.length : Nat) : Int)) (chk ((0 : Int) ≤ zL ∧ zL < ((za.fVLs.length : Nat) : Int)) ((y2i ((nth za.fVLs zL).fMax)).bind fun z2c=>jp5 (fun (z7E : List (List z2)) (z9P : Int) (z9Q : List (Int × List Int)) (z8a : Int) (z8b : Int)=>zmo z7E (max z4O ((nth za.fVLs zL).fMax)) z9P z9Q (yL z2b (⟨zL,zD⟩ : Sbound_flow) (⟨z8a,z8b⟩ : z1))) fun zmp=>(y51 (nth zK zL) zD.fNode).bind fun z1B=>if z1B.2 then (y3Y z1B.1).bind fun zbW=>(y3q za zK z2b z10 z3L zL).bind fun zzX=>(y3Y z1B.1).bind fun zrQ=>(y2i (yq z10 zrQ 0)).bind fun zzY=>(y3v za zK z2b z10 z3L (fun (y0 : z1) (y1 : z1)=>y3b y0 y1) zzX zzY).bind fun zrR=>(y3v za zK z2b z10 zrR.2 (fun (y0 : z1) (y1 : z1)=>y1c y0 y1) (⟨((yq z2b (⟨zL,zbW⟩ : Sbound_flow) (⟨0,0⟩ : z1)).fN),((yq z2b (⟨zL,zbW⟩ : Sbound_flow) (⟨0,0⟩ : z1)).fD)⟩ : z1) zrR.1).bind fun z8c=>chk (((((yq z1N z1B.1.fLink []) ++ ([zL] : List Int)).length : Nat) : Int) * 8 ≤ 140737488355328 ∧ ((((yq z1N z1B.1.fLink []) ++ ([zL] : List Int)).length : Nat) : Int) ≤ 4611686018427387904) (zmp z2a z8c.2 (yL z1N z1B.1.fLink ((yq z1N z1B.1.fLink []) ++ ([zL] : List Int))) z8c.1.fN z8c.1.fD) else (y3q za zK z2b z10 z3L zL).bind fun z3M=>chk ((((z2a ++ ([([(⟨z2c,z3M⟩ : z2)] : List z2)] : List (List z2))).length : Nat) : Int) * 24 ≤ 140737488355328 ∧ (((z2a ++ ([([(⟨z2c,z3M⟩ : z2)] : List z2)] : List (List z2))).length : Nat) : Int) ≤ 4611686018427387904) (zmp (z2a ++ ([([(⟨z2c,z3M⟩ : z2)] : List z2)] : List (List z2))) z3L z1N z2c.fN z2c.fD)))) else z9K z2a z4O z3L z1N z2b
theorem y89 {n : Nat} {zK : List (List Sapi_Hop)} {zD : Sbound_place} {za : Sapi_Config} {z10 : List (Sbound_place × Int)} {z9K : (List (List z2)) → Int → Int → (List (Int × List Int)) → (List (Sbound_flow × z1)) → Option (List (List z2) × Int × Int × (List (Sbound_flow × z1)))} {z2a : List (List z2)} {z4O : Int} {zL : Int} {z3L : Int} {z1N : List (Int × List Int)} {z2b : List (Sbound_flow × z1)} {r : List (List z2) × Int × Int × (List (Sbound_flow × z1))} (h : y2o zK zD za z10 z9K n z2a z4O zL z3L z1N z2b = some r) : ∃ m,n = m + 1:=by
 cases n with
 | zero=>cases h
 | succ m=>exact ⟨m,rfl⟩
def y2p (z1k : List (Int × List Int)) (zx : Int) (za : Sapi_Config) (zK : List (List Sapi_Hop)) (z1C : List (Sbound_flow × z1)) (z10 : List (Sbound_place × Int)) (zD : Sbound_place) (z9R : Int → Int → Int → Int → Int → Int → Option (List (List z2) × Int × Int × (List (Sbound_flow × z1)))) : Nat → Int → Int → Int → Int → Int → Int → Int → Option (List (List z2) × Int × Int × (List (Sbound_flow × z1)))
 | 0,_,_,_,_,_,_,_=>none
 | zrS + 1,z5Z,z2d,z6H,z60,z61,z5a,z5b=>if decide (z2d < (((yq z1k zx []).length : Nat) : Int)) then chk ((0 : Int) ≤ z2d ∧ z2d < (((yq z1k zx []).length : Nat) : Int)) ((y3v za zK z1C z10 z6H (fun (y0 : z1) (y1 : z1)=>y1c y0 y1) (⟨z60,z61⟩ : z1) (⟨((yq z1C (⟨(nth (yq z1k zx []) z2d),zD⟩ : Sbound_flow) (⟨0,0⟩ : z1)).fN),((yq z1C (⟨(nth (yq z1k zx []) z2d),zD⟩ : Sbound_flow) (⟨0,0⟩ : z1)).fD)⟩ : z1)).bind fun z7F=>(y3q za zK z1C z10 z7F.2 (nth (yq z1k zx []) z2d)).bind fun zzZ=>(y3v za zK z1C z10 z7F.2 (fun (y0 : z1) (y1 : z1)=>y1c y0 y1) (⟨z5a,z5b⟩ : z1) zzZ).bind fun z9S=>chk ((0 : Int) ≤ (nth (yq z1k zx []) z2d) ∧ (nth (yq z1k zx []) z2d) < ((za.fVLs.length : Nat) : Int)) (y2p z1k zx za zK z1C z10 zD z9R zrS (max z5Z ((nth za.fVLs (nth (yq z1k zx []) z2d)).fMax)) (i64 (z2d + 1)) z9S.2 z7F.1.fN z7F.1.fD z9S.1.fN z9S.1.fD)) else z9R z5Z z6H z60 z61 z5a z5b
theorem y8a {n : Nat} {z1k : List (Int × List Int)} {zx : Int} {za : Sapi_Config} {zK : List (List Sapi_Hop)} {z1C : List (Sbound_flow × z1)} {z10 : List (Sbound_place × Int)} {zD : Sbound_place} {z9R : Int → Int → Int → Int → Int → Int → Option (List (List z2) × Int × Int × (List (Sbound_flow × z1)))} {z5Z : Int} {z2d : Int} {z6H : Int} {z60 : Int} {z61 : Int} {z5a : Int} {z5b : Int} {r : List (List z2) × Int × Int × (List (Sbound_flow × z1))} (h : y2p z1k zx za zK z1C z10 zD z9R n z5Z z2d z6H z60 z61 z5a z5b = some r) : ∃ m,n = m + 1:=by
 cases n with
 | zero=>cases h
 | succ m=>exact ⟨m,rfl⟩
def y2q (za : Sapi_Config) (z1k : List (Int × List Int)) (zK : List (List Sapi_Hop)) (z1C : List (Sbound_flow × z1)) (z10 : List (Sbound_place × Int)) (zD : Sbound_place) (z9T : (List (List z2)) → Int → Option (List (List z2) × Int × Int × (List (Sbound_flow × z1)))) : Nat → (List (List z2)) → Int → Int → Option (List (List z2) × Int × Int × (List (Sbound_flow × z1)))
 | 0,_,_,_=>none
 | zrT + 1,z1Z,zx,z5c=>if decide (zx < ((za.fLinks.length : Nat) : Int)) then jp2 (fun (z7G : List (List z2)) (z9U : Int)=>y2q za z1k zK z1C z10 zD z9T zrT z7G (i64 (zx + 1)) z9U) fun zmq=>if decide ((((yq z1k zx []).length : Nat) : Int) = 0) then zmq z1Z z5c else (y2i 0).bind fun zdN=>(y2i 0).bind fun zdO=>jp6 (fun (zbX : Int) (z9V : Int) (z2y : Int) (z2z : Int) (z2A : Int) (z2B : Int)=>(y2i zbX).bind fun z3N=>chk ((0 : Int) ≤ zx ∧ zx < ((za.fLinks.length : Nat) : Int)) (chk ((((z1Z ++ ([([(⟨(⟨z2y,z2z⟩ : z1),(⟨z2A,z2B⟩ : z1)⟩ : z2),(⟨z3N,(⟨1,((nth za.fLinks zx).fSlow)⟩ : z1)⟩ : z2)] : List z2)] : List (List z2))).length : Nat) : Int) * 24 ≤ 140737488355328 ∧ (((z1Z ++ ([([(⟨(⟨z2y,z2z⟩ : z1),(⟨z2A,z2B⟩ : z1)⟩ : z2),(⟨z3N,(⟨1,((nth za.fLinks zx).fSlow)⟩ : z1)⟩ : z2)] : List z2)] : List (List z2))).length : Nat) : Int) ≤ 4611686018427387904) (zmq (z1Z ++ ([([(⟨(⟨z2y,z2z⟩ : z1),(⟨z2A,z2B⟩ : z1)⟩ : z2),(⟨z3N,(⟨1,((nth za.fLinks zx).fSlow)⟩ : z1)⟩ : z2)] : List z2)] : List (List z2))) z9V))) fun z9R=>y2p z1k zx za zK z1C z10 zD z9R yz 0 0 z5c zdN.fN zdN.fD zdO.fN zdO.fD else z9T z1Z z5c
theorem y8b {n : Nat} {za : Sapi_Config} {z1k : List (Int × List Int)} {zK : List (List Sapi_Hop)} {z1C : List (Sbound_flow × z1)} {z10 : List (Sbound_place × Int)} {zD : Sbound_place} {z9T : (List (List z2)) → Int → Option (List (List z2) × Int × Int × (List (Sbound_flow × z1)))} {z1Z : List (List z2)} {zx : Int} {z5c : Int} {r : List (List z2) × Int × Int × (List (Sbound_flow × z1))} (h : y2q za z1k zK z1C z10 zD z9T n z1Z zx z5c = some r) : ∃ m,n = m + 1:=by
 cases n with
 | zero=>cases h
 | succ m=>exact ⟨m,rfl⟩
def y4f (za : Sapi_Config) (zK : List (List Sapi_Hop)) (z9W : List (Sbound_flow × z1)) (z10 : List (Sbound_place × Int)) (z9X : Int) (zD : Sbound_place) : Option (List (List z2) × Int × Int × (List (Sbound_flow × z1))) :=
 jp5 (fun (z2e : List (List z2)) (z62 : Int) (z9Y : Int) (z1k : List (Int × List Int)) (z1C : List (Sbound_flow × z1))=>jp2 (fun (z5y : List (List z2)) (zbY : Int)=>chk ((((z2e ++ z5y).length : Nat) : Int) * 24 ≤ 140737488355328 ∧ (((z2e ++ z5y).length : Nat) : Int) ≤ 4611686018427387904) (some ((z2e ++ z5y),z62,zbY,z1C))) fun z9T=>y2q za z1k zK z1C z10 zD z9T yz ([] : List (List z2)) 0 z9Y) fun z9K=>y2o zK zD za z10 z9K yz ([] : List (List z2)) 0 0 z9X ([] : List (Int × List Int)) z9W
theorem yau (Z : Zp) (z1S : Nat) (z4b : Option Addr) (z4c : Nat) (z4d : Option Addr) (z4e : Nat) (z4f : Option Addr) (z4g : Nat) (z4h : Option Addr) (z4i : Nat) (z4j : Option Addr) (z4k : Nat) (z4l : Option Addr) (z4m : Nat) (z4n : Option Addr) (z4o : Nat) (z4p : Option Addr) (z4q : Nat) (z3b : Option Addr) (z3c : Nat) (z1s : Nat) (z1u : Nat) (za : Sapi_Config) (zK : List (List Sapi_Hop)) (z9W : List (Sbound_flow × z1)) (z10 : List (Sbound_place × Int)) (z9X : Int) (zD : Sbound_place) (r : List (List z2) × Int × Int × (List (Sbound_flow × z1)))
  (h : y4f za zK z9W z10 z9X zD = some r) (w₀ : World) (hz : PZ (fps [stb z1S 95 [(.slice z4b za.fModules.length z4c),(.slice z4d za.fChannels.length z4e),(.slice z4f za.fSwitches.length z4g),(.slice z4h za.fLinks.length z4i),(.slice z4j za.fVLs.length z4k),(.slice z4l za.fHealth.length z4m),(.slice z4n za.fCauses.length z4o),(.slice z4p za.fVersions.length z4q),(.slice z3b zK.length z3c),(.map (some z1s)),(.map (some z1u)),(.int .i64 z9X)],yy z1s (fun x=>Value.agg (y2k x).toArray) (fun x=>Value.agg (yu x).toArray) z9W,yy z1u (fun x=>Value.agg (e97 x).toArray) (Value.int .i64) z10]) w₀ Z)
  (zdP : ZS Z 4 (y4e Z) z4b z4c za.fModules)
  (zdQ : ZS Z 4 (y4M Z) z4d z4e za.fChannels)
  (zdR : ZS Z 4 (fun r x=>r = e66 x) z4f z4g za.fSwitches)
  (zbZ : ZS Z 4 (fun r x=>r = e64 x) z4h z4i za.fLinks)
  (z8d : ZS Z 7 (p46 Z) z4j z4k za.fVLs)
  (zdS : ZS Z 5 (fun r x=>r = y4Z x) z4l z4m za.fHealth)
  (zdT : ZS Z 3 (y4N Z) z4n z4o za.fCauses)
  (zdU : ZS Z 4 (fun r x=>r = y50 x) z4p z4q za.fVersions)
  (zc0 : ZS Z 1 (p48 Z) z3b z3c zK)
  (hown : Hp (fps [stb z1S 95 [(.slice z4b za.fModules.length z4c),(.slice z4d za.fChannels.length z4e),(.slice z4f za.fSwitches.length z4g),(.slice z4h za.fLinks.length z4i),(.slice z4j za.fVLs.length z4k),(.slice z4l za.fHealth.length z4m),(.slice z4n za.fCauses.length z4o),(.slice z4p za.fVersions.length z4q),(.slice z3b zK.length z3c),(.map (some z1s)),(.map (some z1u)),(.int .i64 z9X)],yy z1s (fun x=>Value.agg (y2k x).toArray) (fun x=>Value.agg (yu x).toArray) z9W,yy z1u (fun x=>Value.agg (e97 x).toArray) (Value.int .i64) z10]) w₀ w₀ [stb z1S 95 [(.slice z4b za.fModules.length z4c),(.slice z4d za.fChannels.length z4e),(.slice z4f za.fSwitches.length z4g),(.slice z4h za.fLinks.length z4i),(.slice z4j za.fVLs.length z4k),(.slice z4l za.fHealth.length z4m),(.slice z4n za.fCauses.length z4o),(.slice z4p za.fVersions.length z4q),(.slice z3b zK.length z3c),(.map (some z1s)),(.map (some z1u)),(.int .i64 z9X)],yy z1s (fun x=>Value.agg (y2k x).toArray) (fun x=>Value.agg (yu x).toArray) z9W,yy z1u (fun x=>Value.agg (e97 x).toArray) (Value.int .i64) z10]) :
  Calls Tryz.prog 42 #[(.pointer (some ⟨z1S,0,none⟩)),(.agg #[(.int .i64 zD.fNode),(.int .i64 zD.fLink)])] w₀ fun e w'=>∃ Zn : Zp,∃ zA0 : Option Addr,∃ zA1 : Nat,∃ zA2 : List Value,e = .returned (.tuple #[(.slice zA0 r.1.length zA1),(.int .i64 r.2.1)]) ∧ (RR 1 (y1T (Z ++ Zn)) zA2 r.1) ∧ Hp (fps [stb z1S 95 [(.slice z4b za.fModules.length z4c),(.slice z4d za.fChannels.length z4e),(.slice z4f za.fSwitches.length z4g),(.slice z4h za.fLinks.length z4i),(.slice z4j za.fVLs.length z4k),(.slice z4l za.fHealth.length z4m),(.slice z4n za.fCauses.length z4o),(.slice z4p za.fVersions.length z4q),(.slice z3b zK.length z3c),(.map (some z1s)),(.map (some z1u)),(.int .i64 z9X)],yy z1s (fun x=>Value.agg (y2k x).toArray) (fun x=>Value.agg (yu x).toArray) z9W,yy z1u (fun x=>Value.agg (e97 x).toArray) (Value.int .i64) z10]) w₀ w' [fz Zn,row (.slice zA0 r.1.length zA1) 173 1 zA2,stb z1S 95 [(.slice z4b za.fModules.length z4c),(.slice z4d za.fChannels.length z4e),(.slice z4f za.fSwitches.length z4g),(.slice z4h za.fLinks.length z4i),(.slice z4j za.fVLs.length z4k),(.slice z4l za.fHealth.length z4m),(.slice z4n za.fCauses.length z4o),(.slice z4p za.fVersions.length z4q),(.slice z3b zK.length z3c),(.map (some z1s)),(.map (some z1u)),(.int .i64 r.2.2.1)],yy z1s (fun x=>Value.agg (y2k x).toArray) (fun x=>Value.agg (yu x).toArray) r.2.2.2,yy z1u (fun x=>Value.agg (e97 x).toArray) (Value.int .i64) z10]:=by
 unfold y4f at h
 refine Calls.oh2 Tryz.func42 Tryz.ntmps42 hown ?_
 refine WC.pool (WC.b (WC.a (WL.nA 3 (yH (cs:=[(.int .i64 zD.fNode),(.int .i64 zD.fLink)]) rfl rfl) ?_)))
 intro z3p _
 refine WL.pu rfl (WL.pu rfl (WL.nil (WX.a (WC.b (WC.a (WL.pu rfl (WL.pu rfl (WL.nil (WX.a (WC.b (WC.a (WL.nA 20 (y4o (Value.int .i64) (slv (α:=Int))) ?_))))))))))))
 intro z3O _
 refine WL.ghL (M:=[y58 (y59 3 1 e3) ([] : List (Int × ((Nat × (Option Addr × Nat)) × List Int))),yy z3O (Value.int .i64) slv (y6g ([] : List (Int × ((Nat × (Option Addr × Nat)) × List Int)))),stb z3p 97 [(.int .i64 zD.fNode),(.int .i64 zD.fLink)],fz [],stb z1S 95 [(.slice z4b za.fModules.length z4c),(.slice z4d za.fChannels.length z4e),(.slice z4f za.fSwitches.length z4g),(.slice z4h za.fLinks.length z4i),(.slice z4j za.fVLs.length z4k),(.slice z4l za.fHealth.length z4m),(.slice z4n za.fCauses.length z4o),(.slice z4p za.fVersions.length z4q),(.slice z3b zK.length z3c),(.map (some z1s)),(.map (some z1u)),(.int .i64 z9X)],yy z1s (fun x=>Value.agg (y2k x).toArray) (fun x=>Value.agg (yu x).toArray) z9W,yy z1u (fun x=>Value.agg (e97 x).toArray) (Value.int .i64) z10]) (fun _ h=>Hp.yeP (y59 3 1 e3) h) (WL.pu rfl (WL.nil (WX.a (WC.b (WC.a (WL.pu rfl (WL.nil (WX.a ?_))))))))
 obtain ⟨z9K,zIV,h⟩:=ybC h
 refine WC.y9j (fun (z2e : List (List z2)) (z62 : Int) (z9Y : Int) (z1k : List (Int × List Int)) (z1C : List (Sbound_flow × z1)) (z9Z : Zp) (z5d : Option Addr) (z5e : Nat) (z6I : List Value) (z5z : List (Int × ((Nat × (Option Addr × Nat)) × List Int)))=>(z9K z2e z62 z9Y z1k z1C = some r) ∧ (Zle (Z ++ []) (Z ++ z9Z)) ∧ (RR 1 (y1T (Z ++ z9Z)) z6I z2e) ∧ (dat z5z = z1k)) (fun z2e z62 z9Y z1k z1C z9Z z5d z5e z6I z5z=>[(0,(.pointer (some ⟨z1S,0,none⟩))),(3,(.pointer (some ⟨z3p,0,none⟩))),(6,(.slice z5d z2e.length z5e)),(7,(.slice none 0 0)),(8,(.map (some z3O))),(9,(.int .i64 z62))]) (fun z2e z62 z9Y z1k z1C z9Z z5d z5e z6I z5z=>[fz z9Z,row (.slice z5d z2e.length z5e) 173 1 z6I,stb z1S 95 [(.slice z4b za.fModules.length z4c),(.slice z4d za.fChannels.length z4e),(.slice z4f za.fSwitches.length z4g),(.slice z4h za.fLinks.length z4i),(.slice z4j za.fVLs.length z4k),(.slice z4l za.fHealth.length z4m),(.slice z4n za.fCauses.length z4o),(.slice z4p za.fVersions.length z4q),(.slice z3b zK.length z3c),(.map (some z1s)),(.map (some z1u)),(.int .i64 z9Y)],stb z3p 97 [(.int .i64 zD.fNode),(.int .i64 zD.fLink)],yy z3O (Value.int .i64) slv (y6g z5z),y58 (y59 3 1 e3) z5z,yy z1s (fun x=>Value.agg (y2k x).toArray) (fun x=>Value.agg (yu x).toArray) z1C,yy z1u (fun x=>Value.agg (e97 x).toArray) (Value.int .i64) z10]) ?_ ?_
 ·skip
  refine WC.b (WC.a (WL.pu rfl (WL.qA 22 (y13 rfl) (WL.qA 23 (ya fo_95_1 rfl rfl) (WL.qA 24 (yc oneT_32 rfl (ym .h4 rfl)) (WL.qA 25 (yG Tryz.underlying32 rfl) (WL.pu rfl (WL.nil (WX.a (WC.block (WC.nilRow 173 1 (WC.yfg (fun (zge : Nat) (z2a : List (List z2)) (z4O : Int) (zL : Int) (z3L : Int) (z1N : List (Int × List Int)) (z2b : List (Sbound_flow × z1)) (z3q : Zp) (z8e : Option Addr) (z8f : Nat) (z6J : List Value) (z63 : List (Int × ((Nat × (Option Addr × Nat)) × List Int)))=>(y2o zK zD za z10 z9K zge z2a z4O zL z3L z1N z2b = some r) ∧ (Zle (Z ++ []) (Z ++ z3q)) ∧ (RR 1 (y1T (Z ++ z3q)) z6J z2a) ∧ (dat z63 = z1N)) (fun zge z2a z4O zL z3L z1N z2b z3q z8e z8f z6J z63=>[(0,(.pointer (some ⟨z1S,0,none⟩))),(3,(.pointer (some ⟨z3p,0,none⟩))),(6,(.slice z8e z2a.length z8f)),(7,(.slice none 0 0)),(8,(.map (some z3O))),(9,(.int .i64 z4O)),(24,(.slice z3b zK.length z3c)),(25,(.int .i64 ((zK.length : Nat) : Int))),(26,(.int .i64 zL))]) (fun zge z2a z4O zL z3L z1N z2b z3q z8e z8f z6J z63=>[fz z3q,row (.slice z8e z2a.length z8f) 173 1 z6J,stb z1S 95 [(.slice z4b za.fModules.length z4c),(.slice z4d za.fChannels.length z4e),(.slice z4f za.fSwitches.length z4g),(.slice z4h za.fLinks.length z4i),(.slice z4j za.fVLs.length z4k),(.slice z4l za.fHealth.length z4m),(.slice z4n za.fCauses.length z4o),(.slice z4p za.fVersions.length z4q),(.slice z3b zK.length z3c),(.map (some z1s)),(.map (some z1u)),(.int .i64 z3L)],stb z3p 97 [(.int .i64 zD.fNode),(.int .i64 zD.fLink)],yy z3O (Value.int .i64) slv (y6g z63),y58 (y59 3 1 e3) z63,yy z1s (fun x=>Value.agg (y2k x).toArray) (fun x=>Value.agg (yu x).toArray) z2b,yy z1u (fun x=>Value.agg (e97 x).toArray) (Value.int .i64) z10]) (fun zge z2a z4O zL z3L z1N z2b z3q z8e z8f z6J z63=>zge) ⟨yz,([] : List (List z2)),0,0,z9X,([] : List (Int × List Int)),z9W,[],none,0,[],([] : List (Int × ((Nat × (Option Addr × Nat)) × List Int)))⟩ ⟨h,(Zle.refl _),(RR.nil _ _),rfl⟩ (.r9 rfl rfl rfl rfl rfl rfl rfl rfl rfl) (.s8 .h4 .here .h3 .h2 .h1 .here .here .here) ?_))))))))))))
  rintro zge z2a z4O zL z3L z1N z2b z3q z8e z8f z6J z63 ⟨h,zy,zmr,zjs⟩
  obtain ⟨zrP,rfl⟩:=y89 h
  rw [y2o] at h
  refine WC.b (WC.a (WL.pu rfl (WL.nil (WX.a (WC.b (WC.cond rfl (fun zrU=>?_) (fun zrU=>?_)))))))
  ·replace h:=yo h zrU
   refine WC.skip (WX.a ?_)
   obtain ⟨zmo,zIW,h⟩:=ybC h
   refine WC.y9j (fun (z7D : List (List z2)) (z9L : Int) (z9M : Int) (z9N : List (Int × List Int)) (z9O : List (Sbound_flow × z1)) (zdV : Zp) (zgf : Option Addr) (zgg : Nat) (zgh : List Value) (zdW : List (Int × ((Nat × (Option Addr × Nat)) × List Int)))=>(zmo z7D z9L z9M z9N z9O = some r) ∧ (Zle (Z ++ z3q) (Z ++ zdV)) ∧ (RR 1 (y1T (Z ++ zdV)) zgh z7D) ∧ (dat zdW = z9N)) (fun z7D z9L z9M z9N z9O zdV zgf zgg zgh zdW=>[(0,(.pointer (some ⟨z1S,0,none⟩))),(3,(.pointer (some ⟨z3p,0,none⟩))),(6,(.slice zgf z7D.length zgg)),(7,(.slice none 0 0)),(8,(.map (some z3O))),(9,(.int .i64 z9L)),(24,(.slice z3b zK.length z3c)),(25,(.int .i64 ((zK.length : Nat) : Int))),(26,(.int .i64 zL))]) (fun z7D z9L z9M z9N z9O zdV zgf zgg zgh zdW=>[fz zdV,row (.slice zgf z7D.length zgg) 173 1 zgh,stb z1S 95 [(.slice z4b za.fModules.length z4c),(.slice z4d za.fChannels.length z4e),(.slice z4f za.fSwitches.length z4g),(.slice z4h za.fLinks.length z4i),(.slice z4j za.fVLs.length z4k),(.slice z4l za.fHealth.length z4m),(.slice z4n za.fCauses.length z4o),(.slice z4p za.fVersions.length z4q),(.slice z3b zK.length z3c),(.map (some z1s)),(.map (some z1u)),(.int .i64 z9M)],stb z3p 97 [(.int .i64 zD.fNode),(.int .i64 zD.fLink)],yy z3O (Value.int .i64) slv (y6g zdW),y58 (y59 3 1 e3) zdW,yy z1s (fun x=>Value.agg (y2k x).toArray) (fun x=>Value.agg (yu x).toArray) z9O,yy z1u (fun x=>Value.agg (e97 x).toArray) (Value.int .i64) z10]) ?_ ?_
   ·skip
    refine WC.block (WC.b ?_)
    obtain ⟨zIX,h⟩:=yn h
    refine WC.a (WL.pu rfl (WL.znth (dd:=29) rfl rfl (Z:=(Z ++ z3q)) (Pr:=(p48 (Z ++ z3q))) y6z rfl rfl ((zc0.mono ((Zle.left _ _).trans zy)).weak (fun _ _ h=>y1e ((Zle.left _ _).trans zy) h)) zIX ?_))
    rintro zVr zVs zIY zVt ⟨zVu,zVv,rfl,zA3⟩
    refine WL.qA 30 (yc y6P rfl (y57 (hz.pv2 .here) zIY rfl)) (WL.pu rfl (WL.pu rfl (WL.nil (WX.a (WC.b (WC.b ?_))))))
    obtain ⟨zzW,zIZ,h⟩:=z6 h
    refine WC.a (WL.pu rfl (WL.qA 32 (y17 (Eos.caps (l:=[.tmp 3]) (.cons rfl .nil))) (WL.cA 33 (z8 Tryz.call37 (.r2 rfl rfl)) .nil (y8k hz .nil .here (.cons .h3 .nil) fun w pz ho la=>y5Y _ _ _ (zg6:=67) (zmi:=[(.pointer (some ⟨z3p,0,none⟩))]) _ (zg5:=(fun (y0 : Sapi_Hop)=>y3L y0 zD)) _ zIZ w pz (zA3.mono (Zle.left _ _)) Tryz.call67 (fun w' hz' y0  r  hr=>y9K _ _ _ _ _ hr w' hz' ((la _ (.head _) _).stb))) (WL.pu rfl (WL.nil (WX.a (WC.cond rfl (fun zrV=>?_) (fun zrV=>?_))))))))
    ·replace h:=yo h zrV
     refine WC.exit (WX.yg (WX.yA ?_))
     exact WX.mid ⟨z2a,z4O,z3L,z1N,z2b,z3q,z8e,z8f,z6J,z63⟩ ⟨h,(Zle.refl _),zmr,zjs⟩ (.r9 rfl rfl rfl rfl rfl rfl rfl rfl rfl) (.s8 .here .here .here .here .here .here .here .here)
    ·replace h:=yp h zrV
     refine WC.skip (WX.a (WC.b ?_))
     obtain ⟨zJ0,h⟩:=yn h
     refine WC.a (WL.pu rfl (WL.pu rfl (WL.qA 37 (y13 rfl) (WL.qA 38 (ya y6d rfl rfl) (WL.qA 39 (ya y2R rfl rfl) (WL.qA 40 (yc y3z rfl (ym .h2 rfl)) (WL.pu rfl (WL.znth (dd:=42) rfl rfl (Z:=(Z ++ z3q)) (Pr:=(p46 (Z ++ z3q))) y4q rfl rfl ((z8d.mono ((Zle.left _ _).trans zy)).weak (fun _ _ h=>y1C ((Zle.left _ _).trans zy) h)) zJ0 ?_))))))))
     rintro zVw zVx zJ1 zVy ⟨zVz,zVA,rfl,zVB⟩
     refine WL.qA 43 (ya y6R rfl rfl) (WL.qA 44 (yc yx rfl (y1k (hz.pv2 .here) zJ1 rfl)) (WL.qA 45 (q_max rfl rfl rfl) (WL.pu rfl (WL.nil (WX.a (WC.b ?_))))))
     obtain ⟨zJ2,h⟩:=yn h
     obtain ⟨z2c,zJ3,h⟩:=z6 h
     refine WC.a (WL.pu rfl (WL.qA 47 (y13 rfl) (WL.qA 48 (ya y6d rfl rfl) (WL.qA 49 (ya y2R rfl rfl) (WL.qA 50 (yc y3z rfl (ym .h2 rfl)) (WL.pu rfl (WL.znth (dd:=52) rfl rfl (Z:=(Z ++ z3q)) (Pr:=(p46 (Z ++ z3q))) y4q rfl rfl ((z8d.mono ((Zle.left _ _).trans zy)).weak (fun _ _ h=>y1C ((Zle.left _ _).trans zy) h)) zJ2 ?_)))))))
     rintro zVC zVD zJ4 zVE ⟨zVF,zVG,rfl,zVH⟩
     refine WL.qA 53 (ya y6R rfl rfl) (WL.qA 54 (yc yx rfl (y1k (hz.pv2 .here) zJ4 rfl)) (WL.cA 55 (z8 Tryz.call43 (.cons rfl .nil)) .nil (ccz hz .nil .here fun w pz ho=>y4C _ _ _ zJ3 w pz ) (WL.nA 12 (yw (cs:=[(.int .i64 0),(.int .i64 0)]) zH rfl) ?_)))
     intro zms _
     refine WL.yj rfl rfl (yl zq rfl rfl rfl .here rfl rfl rfl) (WL.nil (WX.a ?_))
     obtain ⟨zmp,zJ5,h⟩:=ybC h
     refine WC.y9j (fun (z7E : List (List z2)) (z9P : Int) (z9Q : List (Int × List Int)) (z8a : Int) (z8b : Int) (zdX : Zp) (zgi : Option Addr) (zgj : Nat) (zgk : List Value) (zdY : List (Int × ((Nat × (Option Addr × Nat)) × List Int)))=>(zmp z7E z9P z9Q z8a z8b = some r) ∧ (Zle (Z ++ z3q) (Z ++ zdX)) ∧ (RR 1 (y1T (Z ++ zdX)) zgk z7E) ∧ (dat zdY = z9Q)) (fun z7E z9P z9Q z8a z8b zdX zgi zgj zgk zdY=>[(0,(.pointer (some ⟨z1S,0,none⟩))),(3,(.pointer (some ⟨z3p,0,none⟩))),(6,(.slice zgi z7E.length zgj)),(7,(.slice none 0 0)),(8,(.map (some z3O))),(9,(.int .i64 (max z4O ((nth za.fVLs zL).fMax)))),(10,(.int .i64 zL)),(12,(.pointer (some ⟨zms,0,none⟩))),(24,(.slice z3b zK.length z3c)),(25,(.int .i64 ((zK.length : Nat) : Int))),(26,(.int .i64 zL))]) (fun z7E z9P z9Q z8a z8b zdX zgi zgj zgk zdY=>[fz zdX,row (.slice zgi z7E.length zgj) 173 1 zgk,stb z1S 95 [(.slice z4b za.fModules.length z4c),(.slice z4d za.fChannels.length z4e),(.slice z4f za.fSwitches.length z4g),(.slice z4h za.fLinks.length z4i),(.slice z4j za.fVLs.length z4k),(.slice z4l za.fHealth.length z4m),(.slice z4n za.fCauses.length z4o),(.slice z4p za.fVersions.length z4q),(.slice z3b zK.length z3c),(.map (some z1s)),(.map (some z1u)),(.int .i64 z9P)],stb z3p 97 [(.int .i64 zD.fNode),(.int .i64 zD.fLink)],yy z3O (Value.int .i64) slv (y6g zdY),y58 (y59 3 1 e3) zdY,stb zms 132 [(.int .i64 z8a),(.int .i64 z8b)],yy z1s (fun x=>Value.agg (y2k x).toArray) (fun x=>Value.agg (yu x).toArray) z2b,yy z1u (fun x=>Value.agg (e97 x).toArray) (Value.int .i64) z10]) ?_ ?_
     ·skip
      refine WC.b ?_
      obtain ⟨z1B,zJ6,h⟩:=z6 h
      refine WC.a (WL.pu rfl (WL.qA 58 (ya y8H rfl rfl) (WL.qA 59 (yc yx rfl (ym .h4 rfl)) (WL.cA 60 (z8 Tryz.call39 (.r2 rfl rfl)) .nil (ccz hz .nil .h1 fun w pz ho=>y8P _ _ _ _ _ _ zJ6 w pz zA3) (WL.pu rfl (WL.pu rfl (WL.pu rfl (WL.nA 13 (yw (cs:=[(.int .i64 0),(.int .i64 0),(.int .i64 0)]) y6B rfl) ?_))))))))
      intro zrW _
      refine WL.yj rfl rfl (yl y6Q rfl rfl rfl .here rfl rfl rfl) (WL.pu rfl (WL.nil (WX.a (WC.b (WC.a (WL.pu rfl (WL.nil (WX.a (WC.cond rfl (fun zrX=>?_) (fun zrX=>?_))))))))))
      ·replace h:=yo h zrX
       refine WC.b ?_
       obtain ⟨zbW,zJ7,h⟩:=z6 h
       obtain ⟨zzX,zJ8,h⟩:=z6 h
       obtain ⟨zrQ,zJ9,h⟩:=z6 h
       obtain ⟨zzY,zJa,h⟩:=z6 h
       obtain ⟨zrR,zJb,h⟩:=z6 h
       obtain ⟨z8c,zJc,h⟩:=z6 h
       refine WC.yO (fun i=>[13,22,23,24].contains i) [y71 z1S 95 [(9,(.map (some z1s))),(10,(.map (some z1u)))],yc0 z1s (fun x=>Value.agg (y2k x).toArray) (fun x=>Value.agg (yu x).toArray) (⟨zL,zbW⟩ : Sbound_flow) ((⟨0,0⟩ : z1) : z1) (yq z2b (⟨zL,zbW⟩ : Sbound_flow) (⟨0,0⟩ : z1)),stb zrW 62 [(.int .i64 z1B.1.fNode),(.int .i64 z1B.1.fNext),(.int .i64 z1B.1.fLink)]] rfl (WD.pA 0 64 rfl (fun _=>q_m rfl) (WD.pA 1 65 rfl (fun _=>q_m rfl) (WD.pA 2 66 rfl (fun _=>y13 rfl) (WD.pA 3 67 rfl (fun _=>ya yct rfl rfl) (WD.sA 4 68 rfl (Sin.wk (.s3 .h4 .h7 .here) (.stb (.cons rfl (.cons rfl .nil)) (.any rfl (fun _ h=>y6y h) (.same .nil)))) (yc ycu rfl (y5e .here (.head _))) (WD.pA 5 69 rfl (fun _=>q_m rfl) (WD.qA 6 70 rfl (yf y3H rfl (yh .here) rfl) (WD.eA 7 71 rfl (z8 Tryz.call40 (.cons rfl .nil)) (ccz hz .nil .h2 fun w pz ho=>y5l _ _ _ zJ7 w pz ) (WD.pA 8 72 rfl (fun _=>yI (v:=(.agg #[(.int .i64 zL),(.int .i64 zbW.fNode),(.int .i64 zbW.fLink)])) (Eos.parts (l:=[.tmp 69,.tmp 71]) (.r2 rfl rfl) [0,1]) (fun _=>by kernel_rfl)) (WD.sA 9 73 rfl (Sin.wk (.s3 .h4 .h7 .here) (.stb (.cons rfl (.cons rfl .nil)) (.any rfl (fun _ h=>y6y h) (.same .nil)))) (ycX (k:=(⟨zL,zbW⟩ : Sbound_flow)) (dflt:=((⟨0,0⟩ : z1) : z1)) zod Tryz.underlying92 zH rfl rfl rfl .h1) (WD.pA 10 74 rfl (fun _=>q_m rfl) (WD.pA 11 75 rfl (fun _=>q_m rfl) (WD.pA 12 76 rfl (fun _=>q_m rfl) (WD.pA 14 78 rfl (fun _=>q_m rfl) (WD.pA 15 79 rfl (fun _=>y13 rfl) (WD.pA 16 80 rfl (fun _=>ya ycv rfl rfl) (WD.sA 17 81 rfl (Sin.wk (.s3 .h4 .h7 .here) (.stb (.cons rfl (.cons rfl .nil)) (.any rfl (fun _ h=>y6y h) (.same .nil)))) (yc y9C rfl (y5e .here (.tail _ (.head _)))) (WD.sA 18 82 rfl (Sin.wk (.s3 .h4 .h7 .here) (.stb (.cons rfl (.cons rfl .nil)) (.any rfl (fun _ h=>y6y h) (.same .nil)))) (yf y3H rfl (yh .h2) rfl) (WD.call0 (i:=13) (dd:=77) rfl (by kernel_rfl) rfl rfl rfl (.inl ⟨rfl,(by exact (Sin.wk (.s3 .h6 .here .h1) (.stb (.cons rfl (.cons rfl .nil)) (.any rfl (fun _ h=>y6y h) (.same .nil)))))⟩) (z8 Tryz.call71 (.r2 rfl rfl)) (.s2 (.there .h7) (.there .h7)) (y8k hz (.s2 (.there .h7) (.there .h7)) .h2 (.cons .h4 .nil) fun w pz ho la=>Calls.mono (y72 _ _ _ _ _ _ _ _ _ _ _ _ _ _ _ _ _ _ _ _ _ _ _ _ _ _ _ _ _ zJ8 w pz ((((zdP.mono ((Zle.left _ _).trans zy)).weak (fun _ _ h=>y1t ((Zle.left _ _).trans zy) h)).mono (Zle.left _ _)).weak (fun _ _ h=>y1t (Zle.left _ _) h)) ((((zdQ.mono ((Zle.left _ _).trans zy)).weak (fun _ _ h=>y1A ((Zle.left _ _).trans zy) h)).mono (Zle.left _ _)).weak (fun _ _ h=>y1A (Zle.left _ _) h)) ((zdR.mono ((Zle.left _ _).trans zy)).mono (Zle.left _ _)) ((zbZ.mono ((Zle.left _ _).trans zy)).mono (Zle.left _ _)) ((((z8d.mono ((Zle.left _ _).trans zy)).weak (fun _ _ h=>y1C ((Zle.left _ _).trans zy) h)).mono (Zle.left _ _)).weak (fun _ _ h=>y1C (Zle.left _ _) h)) ((zdS.mono ((Zle.left _ _).trans zy)).mono (Zle.left _ _)) ((((zdT.mono ((Zle.left _ _).trans zy)).weak (fun _ _ h=>y1B ((Zle.left _ _).trans zy) h)).mono (Zle.left _ _)).weak (fun _ _ h=>y1B (Zle.left _ _) h)) ((zdU.mono ((Zle.left _ _).trans zy)).mono (Zle.left _ _)) ((((zc0.mono ((Zle.left _ _).trans zy)).weak (fun _ _ h=>y1e ((Zle.left _ _).trans zy) h)).mono (Zle.left _ _)).weak (fun _ _ h=>y1e (Zle.left _ _) h)) ((la _ (.head _) _).stb) ho) (fun _ _ h'=>⟨h'.1,trivial,h'.2⟩)) ?_)))))))))))))))))))
       intro _
       refine WD.eA 19 83 rfl (z8 Tryz.call40 (.cons rfl .nil)) (ccz hz .nil .h4 fun w pz ho=>y5l _ _ _ zJ9 w pz ) (WD.qA 20 84 rfl (y3m (k:=zrQ) (dflt:=(0 : Int)) y7s Tryz.underlying93 y4V rfl rfl rfl .h1) (WD.eA 21 85 rfl (z8 Tryz.call43 (.cons rfl .nil)) (ccz hz .nil .h4 fun w pz ho=>y4C _ _ _ zJa w pz ) (WD.call0 (i:=22) (dd:=86) rfl (by kernel_rfl) rfl rfl rfl (.inl ⟨rfl,(by exact (Sin.wk (.s3 .here .here .h1) (.stb (.cons rfl (.cons rfl .nil)) (.any rfl (fun _ h=>y6y h) (.same .nil)))))⟩) (z8 Tryz.call68 (.r4 rfl rfl rfl rfl)) (.s3 .h6 .here .here) (ccz hz (.s3 .h6 .here .here) .h2 fun w pz ho=>Calls.mono (y6o _ _ _ _ _ _ _ _ _ _ _ _ _ _ _ _ _ _ _ _ _ _ (z9J:=70) (zdI:=[]) _ _ _ _ _ (zbz:=(fun (y0 : z1) (y1 : z1)=>y3b y0 y1)) _ _ _ zJb w pz ((zdP.mono ((Zle.left _ _).trans zy)).weak (fun _ _ h=>y1t ((Zle.left _ _).trans zy) h)) ((zdQ.mono ((Zle.left _ _).trans zy)).weak (fun _ _ h=>y1A ((Zle.left _ _).trans zy) h)) (zdR.mono ((Zle.left _ _).trans zy)) (zbZ.mono ((Zle.left _ _).trans zy)) ((z8d.mono ((Zle.left _ _).trans zy)).weak (fun _ _ h=>y1C ((Zle.left _ _).trans zy) h)) (zdS.mono ((Zle.left _ _).trans zy)) ((zdT.mono ((Zle.left _ _).trans zy)).weak (fun _ _ h=>y1B ((Zle.left _ _).trans zy) h)) (zdU.mono ((Zle.left _ _).trans zy)) ((zc0.mono ((Zle.left _ _).trans zy)).weak (fun _ _ h=>y1e ((Zle.left _ _).trans zy) h)) Tryz.call70 (fun w' hz' y0 y1  r  hr=>yaQ _ _ _ _ hr w' hz' ) ho) (fun _ _ h'=>⟨h'.1,trivial,h'.2⟩)) ?_)))
       intro _
       refine WD.call0 (i:=23) (dd:=87) rfl (by kernel_rfl) rfl rfl rfl (.inl ⟨rfl,(by exact (Sin.wk (.s3 .here .here .h1) (.stb (.cons rfl (.cons rfl .nil)) (.any rfl (fun _ h=>y6y h) (.same .nil)))))⟩) (z8 Tryz.call68 (.r4 rfl rfl rfl rfl)) (.s3 .here .here .here) (ccz hz (.s3 .here .here .here) .h2 fun w pz ho=>Calls.mono (y6o _ _ _ _ _ _ _ _ _ _ _ _ _ _ _ _ _ _ _ _ _ _ (z9J:=69) (zdI:=[]) _ _ _ _ _ (zbz:=(fun (y0 : z1) (y1 : z1)=>y1c y0 y1)) _ _ _ zJc w pz ((zdP.mono ((Zle.left _ _).trans zy)).weak (fun _ _ h=>y1t ((Zle.left _ _).trans zy) h)) ((zdQ.mono ((Zle.left _ _).trans zy)).weak (fun _ _ h=>y1A ((Zle.left _ _).trans zy) h)) (zdR.mono ((Zle.left _ _).trans zy)) (zbZ.mono ((Zle.left _ _).trans zy)) ((z8d.mono ((Zle.left _ _).trans zy)).weak (fun _ _ h=>y1C ((Zle.left _ _).trans zy) h)) (zdS.mono ((Zle.left _ _).trans zy)) ((zdT.mono ((Zle.left _ _).trans zy)).weak (fun _ _ h=>y1B ((Zle.left _ _).trans zy) h)) (zdU.mono ((Zle.left _ _).trans zy)) ((zc0.mono ((Zle.left _ _).trans zy)).weak (fun _ _ h=>y1e ((Zle.left _ _).trans zy) h)) Tryz.call69 (fun w' hz' y0 y1  r  hr=>y5T _ _ _ _ hr w' hz' ) ho) (fun _ _ h'=>⟨h'.1,trivial,h'.2⟩)) ?_
       intro _
       refine WD.y3l (i:=24) rfl (by kernel_rfl) rfl rfl rfl (by kernel_rfl) (yl zq rfl rfl rfl .h4 rfl rfl rfl) (WD.done (by kernel_rfl) (WX.a ?_))
       obtain ⟨zJd,h⟩:=yn h
       refine WC.yO (fun i=>[9,10].contains i) [y71 zrW 62 [(2,(.int .i64 z1B.1.fLink))]] rfl (WD.pA 0 88 rfl (fun _=>q_m rfl) (WD.pA 1 89 rfl (fun _=>ya yb8 rfl rfl) (WD.sA 2 90 rfl (Sin.wk (.cons .h4 .nil) (.stb (.cons rfl .nil) .nil)) (yc yx rfl (y5e .here (.head _))) (WD.pA 3 91 rfl (fun _=>q_m rfl) (WD.pA 4 92 rfl (fun _=>ya yb8 rfl rfl) (WD.qA 5 93 rfl (yc yx rfl (ym .h4 rfl)) (WD.qA 6 94 rfl (y3m (k:=z1B.1.fLink) (dflt:=(((none,0),[]) : (Option Addr × Nat) × List Int)) y5h Tryz.underlying165 zoe rfl rfl rfl (.there .h7)) (WD.gh (fun _ h=>Hp.yaO z1B.1.fLink zjs (.there (.there .h7)) h) ?_))))))))
       rintro ⟨zJe,zJf⟩ zJg
       refine WD.repin (i:=94) rfl (u:=(.slice zJe ((yq z1N z1B.1.fLink []).length) zJf)) (congrArg slv zJg) (WD.pA 7 95 rfl (fun _=>q_m rfl) (WD.new (i:=8) (dd:=96) rfl (by kernel_rfl) rfl rfl rfl (yN (cs:=([zL] : List Int).flatMap e3) ziz (Eos.parts (l:=[.tmp 95]) (.cons rfl .nil) [0]) (fun _=>by kernel_rfl) rfl (by unfold maxLen; omega)) (fun h'=>absurd h' (by decide)) ?_))
       intro zJh _
       refine WD.old (i:=9) (dd:=97) rfl (by kernel_rfl) rfl rfl rfl rfl (fun _=>(Sin.wk (.cons .h7 .nil) (.stb (.cons rfl .nil) .nil))) (y4S (enc:=e3) (l1:=yq z1N z1B.1.fLink []) (l2:=([zL] : List Int)) ziz rfl rfl .h1 (fun _=>rfl) rfl rfl (y3C .here) (y5d e3_oc _) zJd) ?_
       rintro ⟨zmt,zmu⟩ _
       refine WD.y3l (i:=10) rfl (by kernel_rfl) rfl rfl rfl (by kernel_rfl) (y5z (k:=z1B.1.fLink) (v:=(((zmt,zmu),(yq z1N z1B.1.fLink []) ++ ([zL] : List Int)) : (Option Addr × Nat) × List Int)) y5h Tryz.underlying165 rfl rfl rfl rfl (.there (.there (.there (.there .h7))))) (WD.ghL (fun _ h=>Hp.yeS (k:=z1B.1.fLink) (.s2 .h1 .h2) h) (WD.ghL (M:=[yy z3O (Value.int .i64) slv (y6g (yL z63 z1B.1.fLink ((0,(zmt,zmu)),(yq z1N z1B.1.fLink []) ++ ([zL] : List Int)))),y58 (y59 3 1 e3) (yL z63 z1B.1.fLink ((0,(zmt,zmu)),(yq z1N z1B.1.fLink []) ++ ([zL] : List Int))),row (.slice (some ⟨zJh,0,none⟩) (([zL] : List Int).length) 1) 3 1 (([zL] : List Int).flatMap e3),stb zms 132 [(.int .i64 z8c.1.fN),(.int .i64 z8c.1.fD)],stb z1S 95 [(.slice z4b za.fModules.length z4c),(.slice z4d za.fChannels.length z4e),(.slice z4f za.fSwitches.length z4g),(.slice z4h za.fLinks.length z4i),(.slice z4j za.fVLs.length z4k),(.slice z4l za.fHealth.length z4m),(.slice z4n za.fCauses.length z4o),(.slice z4p za.fVersions.length z4q),(.slice z3b zK.length z3c),(.map (some z1s)),(.map (some z1u)),(.int .i64 z8c.2)],yy z1s (fun x=>Value.agg (y2k x).toArray) (fun x=>Value.agg (yu x).toArray) z2b,yy z1u (fun x=>Value.agg (e97 x).toArray) (Value.int .i64) z10,stb zrW 62 [(.int .i64 z1B.1.fNode),(.int .i64 z1B.1.fNext),(.int .i64 z1B.1.fLink)],fz z3q,row (.slice z8e z2a.length z8f) 173 1 z6J,stb z3p 97 [(.int .i64 zD.fNode),(.int .i64 zD.fLink)]]) (fun _ h=>Hp.reMap .h1 (ycY _ _ _ _).symm h) (WD.done (by kernel_rfl) ?_)))
       exact WX.mid ⟨z2a,z8c.2,(yL z1N z1B.1.fLink ((yq z1N z1B.1.fLink []) ++ ([zL] : List Int))),z8c.1.fN,z8c.1.fD,z3q,z8e,z8f,z6J,(yL z63 z1B.1.fLink ((0,(zmt,zmu)),(yq z1N z1B.1.fLink []) ++ ([zL] : List Int)))⟩ ⟨h,(Zle.refl _),zmr,(dat_mput zjs _ _ _)⟩ (.r11 rfl rfl rfl rfl rfl rfl rfl rfl rfl rfl rfl) (.s9 (.there .h7) (.there .h7) .h4 .h7 .here .here .h1 .h1 .h1)
      ·replace h:=yp h zrX
       obtain ⟨z3M,zJi,h⟩:=z6 h
       obtain ⟨zJj,h⟩:=yn h
       refine WC.yO (fun i=>[4,8].contains i) [stb zms 132 [(.int .i64 z2c.fN),(.int .i64 z2c.fD)]] rfl (WD.pA 0 98 rfl (fun _=>q_m rfl) (WD.sA 1 99 rfl (Sin.of (.cons .h1 .nil)) (yf zb rfl (yh .here) rfl) (WD.pA 2 100 rfl (fun _=>q_m rfl) (WD.pA 3 101 rfl (fun _=>q_m rfl) (WD.call0 (i:=4) (dd:=102) rfl (by kernel_rfl) rfl rfl rfl (.inl ⟨rfl,(Sin.of (.cons .h3 .nil))⟩) (z8 Tryz.call71 (.r2 rfl rfl)) (.s2 (.there .h7) (.there .h7)) (y8k hz (.s2 (.there .h7) (.there .h7)) .h2 (.cons .h4 .nil) fun w pz ho la=>Calls.mono (y72 _ _ _ _ _ _ _ _ _ _ _ _ _ _ _ _ _ _ _ _ _ _ _ _ _ _ _ _ _ zJi w pz ((((zdP.mono ((Zle.left _ _).trans zy)).weak (fun _ _ h=>y1t ((Zle.left _ _).trans zy) h)).mono (Zle.left _ _)).weak (fun _ _ h=>y1t (Zle.left _ _) h)) ((((zdQ.mono ((Zle.left _ _).trans zy)).weak (fun _ _ h=>y1A ((Zle.left _ _).trans zy) h)).mono (Zle.left _ _)).weak (fun _ _ h=>y1A (Zle.left _ _) h)) ((zdR.mono ((Zle.left _ _).trans zy)).mono (Zle.left _ _)) ((zbZ.mono ((Zle.left _ _).trans zy)).mono (Zle.left _ _)) ((((z8d.mono ((Zle.left _ _).trans zy)).weak (fun _ _ h=>y1C ((Zle.left _ _).trans zy) h)).mono (Zle.left _ _)).weak (fun _ _ h=>y1C (Zle.left _ _) h)) ((zdS.mono ((Zle.left _ _).trans zy)).mono (Zle.left _ _)) ((((zdT.mono ((Zle.left _ _).trans zy)).weak (fun _ _ h=>y1B ((Zle.left _ _).trans zy) h)).mono (Zle.left _ _)).weak (fun _ _ h=>y1B (Zle.left _ _) h)) ((zdU.mono ((Zle.left _ _).trans zy)).mono (Zle.left _ _)) ((((zc0.mono ((Zle.left _ _).trans zy)).weak (fun _ _ h=>y1e ((Zle.left _ _).trans zy) h)).mono (Zle.left _ _)).weak (fun _ _ h=>y1e (Zle.left _ _) h)) ((la _ (.head _) _).stb) ho) (fun _ _ h'=>⟨h'.1,trivial,h'.2⟩)) ?_)))))
       intro _
       refine WD.pA 5 103 rfl (fun _=>yI (v:=(.agg #[(.int .i64 z2c.fN),(.int .i64 z2c.fD),(.int .i64 z3M.fN),(.int .i64 z3M.fD)])) (Eos.parts (l:=[.tmp 99,.tmp 102]) (.r2 rfl rfl) [0,1]) (fun _=>by kernel_rfl)) (WD.new (i:=6) (dd:=104) rfl (by kernel_rfl) rfl rfl rfl (yN (cs:=([(⟨z2c,z3M⟩ : z2)] : List z2).flatMap y1D) z5U (Eos.parts (l:=[.tmp 103]) (.cons rfl .nil) [0]) (fun _=>by kernel_rfl) rfl (by unfold maxLen; omega)) (fun h'=>absurd h' (by decide)) ?_)
       intro zgl _
       refine WD.freezeS (ls:=([(⟨z2c,z3M⟩ : z2)] : List z2)) .here .h4 hz (RR.flat (enc:=y1D) (fun _=>rfl) _) ?_
       intro zmv zA4 zJk
       have zA5 : RR 1 (y1T (Z ++ zmv)) [(.slice (some ⟨zgl,0,none⟩) (([(⟨z2c,z3M⟩ : z2)] : List z2).length) 1)] ([([(⟨z2c,z3M⟩ : z2)] : List z2)] : List (List z2)):=(RR.cons (r:=[(.slice (some ⟨zgl,0,none⟩) (([(⟨z2c,z3M⟩ : z2)] : List z2).length) 1)]) rfl (show y1T _ _ _ from ⟨_,_,rfl,zJk⟩) (RR.nil _ _))
       refine WD.new (i:=7) (dd:=105) rfl (by kernel_rfl) rfl rfl rfl (yN (cs:=[(.slice (some ⟨zgl,0,none⟩) (([(⟨z2c,z3M⟩ : z2)] : List z2).length) 1)]) z7n (Eos.parts (l:=[.tmp 104]) (.cons rfl .nil) [0]) (fun _=>by kernel_rfl) rfl (by unfold maxLen; omega)) (fun h'=>absurd h' (by decide)) ?_
       intro zVI _
       have zJl : RR 1 (y1T (Z ++ zmv)) (z6J ++ [(.slice (some ⟨zgl,0,none⟩) (([(⟨z2c,z3M⟩ : z2)] : List z2).length) 1)]) (z2a ++ ([([(⟨z2c,z3M⟩ : z2)] : List z2)] : List (List z2))):=RR.app (zmr.weak (fun _ _ h=>y38 zA4 h)) zA5
       refine WD.old (i:=8) (dd:=106) rfl (by kernel_rfl) rfl rfl rfl rfl (fun _=>(Sin.of (.cons .h6 .nil))) (y7o (l1:=z2a) (l2:=([([(⟨z2c,z3M⟩ : z2)] : List z2)] : List (List z2))) (news:=[(.slice (some ⟨zgl,0,none⟩) (([(⟨z2c,z3M⟩ : z2)] : List z2).length) 1)]) (Pr:=(y1T (Z ++ zmv))) z7n rfl rfl .h6 zA5 (y3C .here) (y6J rfl y7z) zJj) ?_
       rintro ⟨zJm,zJn⟩ _
       refine WD.pA 9 6 rfl (fun _=>q_z rfl) (WD.done (by kernel_rfl) ?_)
       exact WX.mid ⟨(z2a ++ ([([(⟨z2c,z3M⟩ : z2)] : List z2)] : List (List z2))),z3L,z1N,z2c.fN,z2c.fD,zmv,zJm,zJn,(z6J ++ [(.slice (some ⟨zgl,0,none⟩) (([(⟨z2c,z3M⟩ : z2)] : List z2).length) 1)]),z63⟩ ⟨h,zA4,zJl,zjs⟩ (.r11 rfl rfl rfl rfl rfl rfl rfl rfl rfl rfl rfl) (.s9 .h2 .here .h5 .h5 .h5 .h5 .h4 .h1 .h1)
     ·rintro z7E z9P z9Q z8a z8b zdX zgi zgj zgk zdY ⟨h,zJo,zJp,zJq⟩
      replace h:=(zJ5 z7E z9P z9Q z8a z8b).symm.trans h
      refine WC.yO (fun i=>[8].contains i) [] rfl (WD.pA 0 107 rfl (fun _=>q_m rfl) (WD.pA 1 108 rfl (fun _=>y13 rfl) (WD.pA 2 109 rfl (fun _=>ya yct rfl rfl) (WD.qA 3 110 rfl (yc ycu rfl (ym .h2 rfl)) (WD.pA 4 111 rfl (fun _=>q_m rfl) (WD.qA 5 112 rfl (yf y3I rfl (yh .h3) rfl) (WD.pA 6 113 rfl (fun _=>yI (v:=(.agg #[(.int .i64 zL),(.int .i64 zD.fNode),(.int .i64 zD.fLink)])) (Eos.parts (l:=[.tmp 111,.tmp 112]) (.r2 rfl rfl) [0,1]) (fun _=>by kernel_rfl)) (WD.qA 7 114 rfl (yf zb rfl (yh .h6) rfl) (WD.y3l (i:=8) rfl (by kernel_rfl) rfl rfl rfl (by kernel_rfl) (y5z (k:=(⟨zL,zD⟩ : Sbound_flow)) (v:=(⟨z8a,z8b⟩ : z1)) zod Tryz.underlying92 rfl rfl rfl rfl .h7) (WD.done (by kernel_rfl) (WX.yk ?_)))))))))))
      exact WX.mid ⟨z7E,(max z4O ((nth za.fVLs zL).fMax)),z9P,z9Q,(yL z2b (⟨zL,zD⟩ : Sbound_flow) (⟨z8a,z8b⟩ : z1)),zdX,zgi,zgj,zgk,zdY⟩ ⟨h,zJo,zJp,zJq⟩ (.r9 rfl rfl rfl rfl rfl rfl rfl rfl rfl) (.s8 .h1 .h1 .h1 .h1 .h1 .h1 .here .h1)
   ·rintro z7D z9L z9M z9N z9O zdV zgf zgg zgh zdW ⟨h,zJr,zJs,zJt⟩
    replace h:=(zIW z7D z9L z9M z9N z9O).symm.trans h
    refine WC.a (WL.pu rfl (WL.pu rfl (WL.nil ?_)))
    exact WX.round ⟨zrP,z7D,z9L,(i64 (zL + 1)),z9M,z9N,z9O,zdV,zgf,zgg,zgh,zdW⟩ ⟨h,(zy.trans zJr),zJs,zJt⟩ (Nat.lt_succ_self _) (.r9 rfl rfl rfl rfl rfl rfl rfl rfl rfl) (.s8 .here .here .here .here .here .here .here .here)
  ·replace h:=yp h zrU
   refine WC.exit (WX.yg (WX.yg (WX.yA ?_)))
   exact WX.mid ⟨z2a,z4O,z3L,z1N,z2b,z3q,z8e,z8f,z6J,z63⟩ ⟨h,zy,zmr,zjs⟩ (.r6 rfl rfl rfl rfl rfl rfl) (.s8 .here .here .here .here .here .here .here .here)
 ·rintro z2e z62 z9Y z1k z1C z9Z z5d z5e z6I z5z ⟨h,zU,zJu,zmw⟩
  replace h:=(zIV z2e z62 z9Y z1k z1C).symm.trans h
  obtain ⟨z9T,zJv,h⟩:=y3W h
  refine WC.y9V (fun (z5y : List (List z2)) (zbY : Int) (za0 : Zp) (zjt : Option Addr) (zju : Nat) (zc1 : List Value)=>(z9T z5y zbY = some r) ∧ (Zle (Z ++ z9Z) (Z ++ za0)) ∧ (RR 1 (y1T (Z ++ za0)) zc1 z5y)) (fun z5y zbY za0 zjt zju zc1=>[(6,(.slice z5d z2e.length z5e)),(7,(.slice zjt z5y.length zju)),(9,(.int .i64 z62))]) (fun z5y zbY za0 zjt zju zc1=>[fz za0,row (.slice z5d z2e.length z5e) 173 1 z6I,row (.slice zjt z5y.length zju) 173 1 zc1,stb z1S 95 [(.slice z4b za.fModules.length z4c),(.slice z4d za.fChannels.length z4e),(.slice z4f za.fSwitches.length z4g),(.slice z4h za.fLinks.length z4i),(.slice z4j za.fVLs.length z4k),(.slice z4l za.fHealth.length z4m),(.slice z4n za.fCauses.length z4o),(.slice z4p za.fVersions.length z4q),(.slice z3b zK.length z3c),(.map (some z1s)),(.map (some z1u)),(.int .i64 zbY)],yy z1s (fun x=>Value.agg (y2k x).toArray) (fun x=>Value.agg (yu x).toArray) z1C,yy z1u (fun x=>Value.agg (e97 x).toArray) (Value.int .i64) z10]) ?_ ?_
  ·skip
   refine WC.b (WC.a (WL.pu rfl (WL.qA 117 (y13 rfl) (WL.qA 118 (ya y6d rfl rfl) (WL.qA 119 (ya y8F rfl rfl) (WL.qA 120 (yc y8G rfl (ym .h2 rfl)) (WL.qA 121 (yG Tryz.underlying25 rfl) (WL.pu rfl (WL.nil (WX.a (WC.block (WC.nilRow 173 1 (WC.y9W (fun (zgm : Nat) (z1Z : List (List z2)) (zx : Int) (z5c : Int) (z5f : Zp) (z6K : Option Addr) (z6L : Nat) (z6M : List Value)=>(y2q za z1k zK z1C z10 zD z9T zgm z1Z zx z5c = some r) ∧ (Zle (Z ++ z9Z) (Z ++ z5f)) ∧ (RR 1 (y1T (Z ++ z5f)) z6M z1Z)) (fun zgm z1Z zx z5c z5f z6K z6L z6M=>[(0,(.pointer (some ⟨z1S,0,none⟩))),(3,(.pointer (some ⟨z3p,0,none⟩))),(6,(.slice z5d z2e.length z5e)),(7,(.slice z6K z1Z.length z6L)),(8,(.map (some z3O))),(9,(.int .i64 z62)),(121,(.int .i64 ((za.fLinks.length : Nat) : Int))),(122,(.int .i64 zx))]) (fun zgm z1Z zx z5c z5f z6K z6L z6M=>[fz z5f,row (.slice z5d z2e.length z5e) 173 1 z6I,row (.slice z6K z1Z.length z6L) 173 1 z6M,stb z1S 95 [(.slice z4b za.fModules.length z4c),(.slice z4d za.fChannels.length z4e),(.slice z4f za.fSwitches.length z4g),(.slice z4h za.fLinks.length z4i),(.slice z4j za.fVLs.length z4k),(.slice z4l za.fHealth.length z4m),(.slice z4n za.fCauses.length z4o),(.slice z4p za.fVersions.length z4q),(.slice z3b zK.length z3c),(.map (some z1s)),(.map (some z1u)),(.int .i64 z5c)],stb z3p 97 [(.int .i64 zD.fNode),(.int .i64 zD.fLink)],yy z3O (Value.int .i64) slv (y6g z5z),y58 (y59 3 1 e3) z5z,yy z1s (fun x=>Value.agg (y2k x).toArray) (fun x=>Value.agg (yu x).toArray) z1C,yy z1u (fun x=>Value.agg (e97 x).toArray) (Value.int .i64) z10]) (fun zgm z1Z zx z5c z5f z6K z6L z6M=>zgm) ⟨yz,([] : List (List z2)),0,z9Y,z9Z,none,0,[]⟩ ⟨h,(Zle.refl _),(RR.nil _ _)⟩ (.r8 rfl rfl rfl rfl rfl rfl rfl rfl) (.s9 .h1 .h1 .here .here .here .here .here .here .here) ?_)))))))))))))
   rintro zgm z1Z zx z5c z5f z6K z6L z6M ⟨h,zQ,zrY⟩
   obtain ⟨zrT,rfl⟩:=y8b h
   rw [y2q] at h
   refine WC.b (WC.a (WL.pu rfl (WL.nil (WX.a (WC.b (WC.cond rfl (fun zrZ=>?_) (fun zrZ=>?_)))))))
   ·replace h:=yo h zrZ
    refine WC.skip (WX.a ?_)
    obtain ⟨zmq,zJw,h⟩:=y3W h
    refine WC.y9V (fun (z7G : List (List z2)) (z9U : Int) (zdZ : Zp) (zgn : Option Addr) (zgo : Nat) (zgp : List Value)=>(zmq z7G z9U = some r) ∧ (Zle (Z ++ z5f) (Z ++ zdZ)) ∧ (RR 1 (y1T (Z ++ zdZ)) zgp z7G)) (fun z7G z9U zdZ zgn zgo zgp=>[(0,(.pointer (some ⟨z1S,0,none⟩))),(3,(.pointer (some ⟨z3p,0,none⟩))),(6,(.slice z5d z2e.length z5e)),(7,(.slice zgn z7G.length zgo)),(8,(.map (some z3O))),(9,(.int .i64 z62)),(121,(.int .i64 ((za.fLinks.length : Nat) : Int))),(122,(.int .i64 zx))]) (fun z7G z9U zdZ zgn zgo zgp=>[fz zdZ,row (.slice z5d z2e.length z5e) 173 1 z6I,row (.slice zgn z7G.length zgo) 173 1 zgp,stb z1S 95 [(.slice z4b za.fModules.length z4c),(.slice z4d za.fChannels.length z4e),(.slice z4f za.fSwitches.length z4g),(.slice z4h za.fLinks.length z4i),(.slice z4j za.fVLs.length z4k),(.slice z4l za.fHealth.length z4m),(.slice z4n za.fCauses.length z4o),(.slice z4p za.fVersions.length z4q),(.slice z3b zK.length z3c),(.map (some z1s)),(.map (some z1u)),(.int .i64 z9U)],stb z3p 97 [(.int .i64 zD.fNode),(.int .i64 zD.fLink)],yy z3O (Value.int .i64) slv (y6g z5z),y58 (y59 3 1 e3) z5z,yy z1s (fun x=>Value.agg (y2k x).toArray) (fun x=>Value.agg (yu x).toArray) z1C,yy z1u (fun x=>Value.agg (e97 x).toArray) (Value.int .i64) z10]) ?_ ?_
    ·skip
     refine WC.block (WC.b (WC.a (WL.pu rfl (WL.pu rfl (WL.nil (WX.a (WC.b (WC.b (WC.a (WL.pu rfl (WL.pu rfl (WL.qA 127 (y3m (k:=zx) (dflt:=(((none,0),[]) : (Option Addr × Nat) × List Int)) y5h Tryz.underlying165 zoe rfl rfl rfl .h5) (WL.gh (fun _ h=>Hp.yaO zx zmw .h6 h) ?_)))))))))))))
     rintro ⟨zJx,zJy⟩ zA6
     refine WL.repin (i:=127) rfl (u:=(.slice zJx ((yq z1k zx []).length) zJy)) (congrArg slv zA6) (WL.qA 128 (yG Tryz.underlying109 rfl) (WL.pu rfl (WL.ghL (fun _ h=>Hp.ycZ zmw zA6 (.s2 .here .here) h) (WL.nil (WX.a (WC.cond rfl (fun zs0=>?_) (fun zs0=>?_)))))))
     ·replace h:=yo h zs0
      refine WC.exit (WX.yg (WX.yA ?_))
      exact WX.mid ⟨z1Z,z5c,z5f,z6K,z6L,z6M⟩ ⟨h,(Zle.refl _),zrY⟩ (.r8 rfl rfl rfl rfl rfl rfl rfl rfl) (.s9 .h1 .h1 .h1 .h1 .h1 .h1 .here .here .here)
     ·replace h:=yp h zs0
      refine WC.skip (WX.a (WC.b ?_))
      obtain ⟨zdN,zJz,h⟩:=z6 h
      obtain ⟨zdO,zJA,h⟩:=z6 h
      refine WC.a (WL.cA 130 (z8 Tryz.call43 (.cons rfl .nil)) .nil (ccz hz .nil .h1 fun w pz ho=>y4C _ _ _ zJz w pz ) (WL.cA 131 (z8 Tryz.call43 (.cons rfl .nil)) .nil (ccz hz .nil .h1 fun w pz ho=>y4C _ _ _ zJA w pz ) (WL.qA 132 (yI (v:=(.agg #[(.int .i64 zdN.fN),(.int .i64 zdN.fD),(.int .i64 zdO.fN),(.int .i64 zdO.fD)])) (Eos.parts (l:=[.tmp 130,.tmp 131]) (.r2 rfl rfl) [0,1]) (fun _=>by kernel_rfl)) (WL.nA 16 (yw (cs:=[(.int .i64 0),(.int .i64 0),(.int .i64 0),(.int .i64 0)]) z9d rfl) ?_))))
      intro zjv _
      refine WL.yj rfl rfl (yl z82 rfl rfl rfl .here rfl rfl rfl) (WL.nil (WX.a (WC.b (WC.a (WL.pu rfl (WL.nil (WX.a ?_)))))))
      obtain ⟨z9R,zJB,h⟩:=jp6_elim h
      refine WC.y9V (fun (zbX : Int) (z9V : Int) (z2y : Int) (z2z : Int) (z2A : Int) (z2B : Int)=>(z9R zbX z9V z2y z2z z2A z2B = some r)) (fun zbX z9V z2y z2z z2A z2B=>[(0,(.pointer (some ⟨z1S,0,none⟩))),(3,(.pointer (some ⟨z3p,0,none⟩))),(6,(.slice z5d z2e.length z5e)),(7,(.slice z6K z1Z.length z6L)),(8,(.map (some z3O))),(9,(.int .i64 z62)),(15,(.int .i64 zx)),(16,(.pointer (some ⟨zjv,0,none⟩))),(17,(.int .i64 zbX)),(121,(.int .i64 ((za.fLinks.length : Nat) : Int))),(122,(.int .i64 zx))]) (fun zbX z9V z2y z2z z2A z2B=>[fz z5f,row (.slice z5d z2e.length z5e) 173 1 z6I,row (.slice z6K z1Z.length z6L) 173 1 z6M,stb z1S 95 [(.slice z4b za.fModules.length z4c),(.slice z4d za.fChannels.length z4e),(.slice z4f za.fSwitches.length z4g),(.slice z4h za.fLinks.length z4i),(.slice z4j za.fVLs.length z4k),(.slice z4l za.fHealth.length z4m),(.slice z4n za.fCauses.length z4o),(.slice z4p za.fVersions.length z4q),(.slice z3b zK.length z3c),(.map (some z1s)),(.map (some z1u)),(.int .i64 z9V)],stb z3p 97 [(.int .i64 zD.fNode),(.int .i64 zD.fLink)],yy z3O (Value.int .i64) slv (y6g z5z),y58 (y59 3 1 e3) z5z,stb zjv 171 [(.int .i64 z2y),(.int .i64 z2z),(.int .i64 z2A),(.int .i64 z2B)],yy z1s (fun x=>Value.agg (y2k x).toArray) (fun x=>Value.agg (yu x).toArray) z1C,yy z1u (fun x=>Value.agg (e97 x).toArray) (Value.int .i64) z10]) ?_ ?_
      ·skip
       refine WC.b (WC.a (WL.pu rfl (WL.pu rfl (WL.qA 135 (y3m (k:=zx) (dflt:=(((none,0),[]) : (Option Addr × Nat) × List Int)) y5h Tryz.underlying165 zoe rfl rfl rfl .h7) (WL.gh (fun _ h=>Hp.yaO zx zmw .h1 h) ?_)))))
       rintro ⟨zs1,zs2⟩ zA7
       refine WL.repin (i:=135) rfl (u:=(.slice zs1 ((yq z1k zx []).length) zs2)) (congrArg slv zA7) (WL.qA 136 (yG Tryz.underlying109 rfl) (WL.pu rfl (WL.nil (WX.a (WC.block (WC.y9W (fun (zgq : Nat) (z5Z : Int) (z2d : Int) (z6H : Int) (z60 : Int) (z61 : Int) (z5a : Int) (z5b : Int)=>(y2p z1k zx za zK z1C z10 zD z9R zgq z5Z z2d z6H z60 z61 z5a z5b = some r)) (fun zgq z5Z z2d z6H z60 z61 z5a z5b=>[(0,(.pointer (some ⟨z1S,0,none⟩))),(3,(.pointer (some ⟨z3p,0,none⟩))),(6,(.slice z5d z2e.length z5e)),(7,(.slice z6K z1Z.length z6L)),(8,(.map (some z3O))),(9,(.int .i64 z62)),(15,(.int .i64 zx)),(16,(.pointer (some ⟨zjv,0,none⟩))),(17,(.int .i64 z5Z)),(121,(.int .i64 ((za.fLinks.length : Nat) : Int))),(122,(.int .i64 zx)),(135,(.slice zs1 ((yq z1k zx []).length) zs2)),(136,(.int .i64 (((yq z1k zx []).length : Nat) : Int))),(137,(.int .i64 z2d))]) (fun zgq z5Z z2d z6H z60 z61 z5a z5b=>[fz z5f,row (.slice z5d z2e.length z5e) 173 1 z6I,row (.slice z6K z1Z.length z6L) 173 1 z6M,row (.slice zs1 ((yq z1k zx []).length) zs2) 3 1 ((yq z1k zx []).flatMap e3),stb z1S 95 [(.slice z4b za.fModules.length z4c),(.slice z4d za.fChannels.length z4e),(.slice z4f za.fSwitches.length z4g),(.slice z4h za.fLinks.length z4i),(.slice z4j za.fVLs.length z4k),(.slice z4l za.fHealth.length z4m),(.slice z4n za.fCauses.length z4o),(.slice z4p za.fVersions.length z4q),(.slice z3b zK.length z3c),(.map (some z1s)),(.map (some z1u)),(.int .i64 z6H)],stb z3p 97 [(.int .i64 zD.fNode),(.int .i64 zD.fLink)],yy z3O (Value.int .i64) slv (y6g z5z),y58 (y59 3 1 e3) (y7B zx z5z),stb zjv 171 [(.int .i64 z60),(.int .i64 z61),(.int .i64 z5a),(.int .i64 z5b)],yy z1s (fun x=>Value.agg (y2k x).toArray) (fun x=>Value.agg (yu x).toArray) z1C,yy z1u (fun x=>Value.agg (e97 x).toArray) (Value.int .i64) z10]) (fun zgq z5Z z2d z6H z60 z61 z5a z5b=>zgq) ⟨yz,0,0,z5c,zdN.fN,zdN.fD,zdO.fN,zdO.fD⟩ h (.r14 rfl rfl rfl rfl rfl rfl rfl rfl rfl rfl rfl rfl rfl rfl) (.s11 .h3 .h3 .h3 .here .h2 .h2 .h2 .here .here .here .here) ?_))))))
       rintro zgq z5Z z2d z6H z60 z61 z5a z5b h
       obtain ⟨zrS,rfl⟩:=y8a h
       rw [y2p] at h
       refine WC.b (WC.a (WL.pu rfl (WL.nil (WX.a (WC.b (WC.cond rfl (fun zs3=>?_) (fun zs3=>?_)))))))
       ·replace h:=yo h zs3
        refine WC.skip (WX.a (WC.b (WC.block (WC.b ?_))))
        obtain ⟨zjw,h⟩:=yn h
        refine WC.a (WL.know (fun w hw=>Hp.y2j .h3 hw (by intro hz'; have:=zjw; rw [hz'] at this; omega)) ?_)
        rintro ⟨zVJ,rfl⟩
        refine WL.qA 139 (yV ziz rfl rfl zjw.1 zjw.2 y32) (WL.qA 140 (yc yx rfl (ydm .h3 ((y3y (enc:=e3) (l:=yq z1k zx []) (i:=z2d) (sz:=1) (fun _=>rfl) zjw.1 zjw.2) 0 _ rfl))) (WL.pu rfl (WL.nil (WX.a (WC.b ?_)))))
        obtain ⟨z7F,zJC,h⟩:=z6 h
        obtain ⟨zzZ,zJD,h⟩:=z6 h
        obtain ⟨z9S,zJE,h⟩:=z6 h
        refine WC.yO (fun i=>[11,17,18,20,22].contains i) [y71 zjv 171 [(2,(.int .i64 z5a)),(3,(.int .i64 z5b))]] rfl (WD.pA 0 141 rfl (fun _=>q_m rfl) (WD.pA 1 142 rfl (fun _=>ya y4z rfl rfl) (WD.qA 2 143 rfl (yT (cs:=[(.int .i64 z60),(.int .i64 z61)]) zb rfl rfl (y31 (s:=2) (.there .h7) rfl)) (WD.pA 3 144 rfl (fun _=>q_m rfl) (WD.pA 4 145 rfl (fun _=>y13 rfl) (WD.pA 5 146 rfl (fun _=>ya yct rfl rfl) (WD.qA 6 147 rfl (yc ycu rfl (ym .h4 rfl)) (WD.pA 7 148 rfl (fun _=>q_m rfl) (WD.qA 8 149 rfl (yf y3I rfl (yh .h5) rfl) (WD.pA 9 150 rfl (fun _=>yI (v:=(.agg #[(.int .i64 (nth (yq z1k zx []) z2d)),(.int .i64 zD.fNode),(.int .i64 zD.fLink)])) (Eos.parts (l:=[.tmp 148,.tmp 149]) (.r2 rfl rfl) [0,1]) (fun _=>by kernel_rfl)) (WD.qA 10 151 rfl (y3m (k:=(⟨(nth (yq z1k zx []) z2d),zD⟩ : Sbound_flow)) (dflt:=((⟨0,0⟩ : z1) : z1)) zod Tryz.underlying92 zH rfl rfl rfl (.there (.there .h7))) (WD.pA 12 153 rfl (fun _=>q_m rfl) (WD.pA 13 154 rfl (fun _=>ya y5A rfl rfl) (WD.sA 14 155 rfl (Sin.wk (.cons (.there .h7) .nil) (.stb (.cons rfl (.cons rfl .nil)) .nil)) (yT (cs:=[(.int .i64 z5a),(.int .i64 z5b)]) zb rfl rfl (ya3 .here ((.head _)) ((.tail _ (.head _))))) (WD.pA 15 156 rfl (fun _=>q_m rfl) (WD.pA 16 157 rfl (fun _=>q_m rfl) (WD.call0 (i:=11) (dd:=152) rfl (by kernel_rfl) rfl rfl rfl (.inl ⟨rfl,(Sin.wk (.cons (.there (.there (.there .h7))) .nil) (.stb (.cons rfl (.cons rfl .nil)) .nil))⟩) (z8 Tryz.call68 (.r4 rfl rfl rfl rfl)) (.s3 .h4 (.there .h7) (.there .h7)) (ccz hz (.s3 .h4 (.there .h7) (.there .h7)) .here fun w pz ho=>Calls.mono (y6o _ _ _ _ _ _ _ _ _ _ _ _ _ _ _ _ _ _ _ _ _ _ (z9J:=69) (zdI:=[]) _ _ _ _ _ (zbz:=(fun (y0 : z1) (y1 : z1)=>y1c y0 y1)) _ _ _ zJC w pz ((zdP.mono ((Zle.left _ _).trans (zU.trans zQ))).weak (fun _ _ h=>y1t ((Zle.left _ _).trans (zU.trans zQ)) h)) ((zdQ.mono ((Zle.left _ _).trans (zU.trans zQ))).weak (fun _ _ h=>y1A ((Zle.left _ _).trans (zU.trans zQ)) h)) (zdR.mono ((Zle.left _ _).trans (zU.trans zQ))) (zbZ.mono ((Zle.left _ _).trans (zU.trans zQ))) ((z8d.mono ((Zle.left _ _).trans (zU.trans zQ))).weak (fun _ _ h=>y1C ((Zle.left _ _).trans (zU.trans zQ)) h)) (zdS.mono ((Zle.left _ _).trans (zU.trans zQ))) ((zdT.mono ((Zle.left _ _).trans (zU.trans zQ))).weak (fun _ _ h=>y1B ((Zle.left _ _).trans (zU.trans zQ)) h)) (zdU.mono ((Zle.left _ _).trans (zU.trans zQ))) ((zc0.mono ((Zle.left _ _).trans (zU.trans zQ))).weak (fun _ _ h=>y1e ((Zle.left _ _).trans (zU.trans zQ)) h)) Tryz.call69 (fun w' hz' y0 y1  r  hr=>y5T _ _ _ _ hr w' hz' ) ho) (fun _ _ h'=>⟨h'.1,trivial,h'.2⟩)) ?_)))))))))))))))))
        intro _
        refine WD.pA 19 160 rfl (fun _=>ya y4z rfl rfl) (WD.call0 (i:=17) (dd:=158) rfl (by kernel_rfl) rfl rfl rfl (.inl ⟨rfl,(Sin.wk (.cons (.there (.there (.there .h7))) .nil) (.stb (.cons rfl (.cons rfl .nil)) .nil))⟩) (z8 Tryz.call71 (.r2 rfl rfl)) (.s2 .h1 .h1) (y8k hz (.s2 .h1 .h1) .h1 (.cons .here .nil) fun w pz ho la=>Calls.mono (y72 _ _ _ _ _ _ _ _ _ _ _ _ _ _ _ _ _ _ _ _ _ _ _ _ _ _ _ _ _ zJD w pz ((((zdP.mono ((Zle.left _ _).trans (zU.trans zQ))).weak (fun _ _ h=>y1t ((Zle.left _ _).trans (zU.trans zQ)) h)).mono (Zle.left _ _)).weak (fun _ _ h=>y1t (Zle.left _ _) h)) ((((zdQ.mono ((Zle.left _ _).trans (zU.trans zQ))).weak (fun _ _ h=>y1A ((Zle.left _ _).trans (zU.trans zQ)) h)).mono (Zle.left _ _)).weak (fun _ _ h=>y1A (Zle.left _ _) h)) ((zdR.mono ((Zle.left _ _).trans (zU.trans zQ))).mono (Zle.left _ _)) ((zbZ.mono ((Zle.left _ _).trans (zU.trans zQ))).mono (Zle.left _ _)) ((((z8d.mono ((Zle.left _ _).trans (zU.trans zQ))).weak (fun _ _ h=>y1C ((Zle.left _ _).trans (zU.trans zQ)) h)).mono (Zle.left _ _)).weak (fun _ _ h=>y1C (Zle.left _ _) h)) ((zdS.mono ((Zle.left _ _).trans (zU.trans zQ))).mono (Zle.left _ _)) ((((zdT.mono ((Zle.left _ _).trans (zU.trans zQ))).weak (fun _ _ h=>y1B ((Zle.left _ _).trans (zU.trans zQ)) h)).mono (Zle.left _ _)).weak (fun _ _ h=>y1B (Zle.left _ _) h)) ((zdU.mono ((Zle.left _ _).trans (zU.trans zQ))).mono (Zle.left _ _)) ((((zc0.mono ((Zle.left _ _).trans (zU.trans zQ))).weak (fun _ _ h=>y1e ((Zle.left _ _).trans (zU.trans zQ)) h)).mono (Zle.left _ _)).weak (fun _ _ h=>y1e (Zle.left _ _) h)) ((la _ (.head _) _).stb) ho) (fun _ _ h'=>⟨h'.1,trivial,h'.2⟩)) ?_)
        intro _
        refine WD.call0 (i:=18) (dd:=159) rfl (by kernel_rfl) rfl rfl rfl (.inl ⟨rfl,(Sin.wk (.cons (.there (.there (.there .h7))) .nil) (.stb (.cons rfl (.cons rfl .nil)) .nil))⟩) (z8 Tryz.call68 (.r4 rfl rfl rfl rfl)) (.s3 .h2 .here .here) (ccz hz (.s3 .h2 .here .here) .here fun w pz ho=>Calls.mono (y6o _ _ _ _ _ _ _ _ _ _ _ _ _ _ _ _ _ _ _ _ _ _ (z9J:=69) (zdI:=[]) _ _ _ _ _ (zbz:=(fun (y0 : z1) (y1 : z1)=>y1c y0 y1)) _ _ _ zJE w pz ((zdP.mono ((Zle.left _ _).trans (zU.trans zQ))).weak (fun _ _ h=>y1t ((Zle.left _ _).trans (zU.trans zQ)) h)) ((zdQ.mono ((Zle.left _ _).trans (zU.trans zQ))).weak (fun _ _ h=>y1A ((Zle.left _ _).trans (zU.trans zQ)) h)) (zdR.mono ((Zle.left _ _).trans (zU.trans zQ))) (zbZ.mono ((Zle.left _ _).trans (zU.trans zQ))) ((z8d.mono ((Zle.left _ _).trans (zU.trans zQ))).weak (fun _ _ h=>y1C ((Zle.left _ _).trans (zU.trans zQ)) h)) (zdS.mono ((Zle.left _ _).trans (zU.trans zQ))) ((zdT.mono ((Zle.left _ _).trans (zU.trans zQ))).weak (fun _ _ h=>y1B ((Zle.left _ _).trans (zU.trans zQ)) h)) (zdU.mono ((Zle.left _ _).trans (zU.trans zQ))) ((zc0.mono ((Zle.left _ _).trans (zU.trans zQ))).weak (fun _ _ h=>y1e ((Zle.left _ _).trans (zU.trans zQ)) h)) Tryz.call69 (fun w' hz' y0 y1  r  hr=>y5T _ _ _ _ hr w' hz' ) ho) (fun _ _ h'=>⟨h'.1,trivial,h'.2⟩)) ?_
        intro _
        refine WD.yeT (i:=20) rfl (by kernel_rfl) rfl rfl rfl (Sin.wk (.cons .here .nil) (.stb (.cons rfl (.cons rfl .nil)) .nil)) (y4y (ds:=[(.int .i64 z7F.1.fN),(.int .i64 z7F.1.fD),(.int .i64 z5a),(.int .i64 z5b)]) zq rfl rfl rfl rfl rfl (.there (.there (.there .h7))) rfl rfl) (WD.pA 21 161 rfl (fun _=>ya y5A rfl rfl) (WD.y3l (i:=22) rfl (by kernel_rfl) rfl rfl rfl (by kernel_rfl) (y4y (ds:=[(.int .i64 z7F.1.fN),(.int .i64 z7F.1.fD),(.int .i64 z9S.1.fN),(.int .i64 z9S.1.fD)]) zq rfl rfl rfl rfl rfl .here rfl rfl) (WD.done (by kernel_rfl) (WX.a ?_))))
        obtain ⟨zJF,h⟩:=yn h
        refine WC.a (WL.pu rfl (WL.pu rfl (WL.qA 164 (y13 rfl) (WL.qA 165 (ya y6d rfl rfl) (WL.qA 166 (ya y2R rfl rfl) (WL.qA 167 (yc y3z rfl (ym .h1 rfl)) (WL.pu rfl (WL.znth (dd:=169) rfl rfl (Z:=(Z ++ z5f)) (Pr:=(p46 (Z ++ z5f))) y4q rfl rfl ((z8d.mono ((Zle.left _ _).trans (zU.trans zQ))).weak (fun _ _ h=>y1C ((Zle.left _ _).trans (zU.trans zQ)) h)) zJF ?_))))))))
        rintro zVK zVL zJG zVM ⟨zVN,zVO,rfl,zVP⟩
        refine WL.qA 170 (ya y6R rfl rfl) (WL.qA 171 (yc yx rfl (y1k (hz.pv2 .h4) zJG rfl)) (WL.qA 172 (q_max rfl rfl rfl) (WL.pu rfl (WL.nil (WX.yk (WX.a (WC.a (WL.pu rfl (WL.pu rfl (WL.nil ?_))))))))))
        exact WX.round ⟨zrS,(max z5Z ((nth za.fVLs (nth (yq z1k zx []) z2d)).fMax)),(i64 (z2d + 1)),z9S.2,z7F.1.fN,z7F.1.fD,z9S.1.fN,z9S.1.fD⟩ h (Nat.lt_succ_self _) (.r14 rfl rfl rfl rfl rfl rfl rfl rfl rfl rfl rfl rfl rfl rfl) (.s11 .h4 .h4 .h4 .h4 .h1 .h3 .h3 .h3 .here .here .here)
       ·replace h:=yp h zs3
        refine WC.exit (WX.yg (WX.yg (WX.yA (WX.ghL (fun _ h=>Hp.ycZ zmw zA7 (.s2 .h3 .h6) h) ?_))))
        exact WX.mid ⟨z5Z,z6H,z60,z61,z5a,z5b⟩ h (.r11 rfl rfl rfl rfl rfl rfl rfl rfl rfl rfl rfl) (.s10 .h1 .h1 .h1 .h1 .h1 .h1 .here .here .here .here)
      ·rintro zbX z9V z2y z2z z2A z2B h
       replace h:=(zJB zbX z9V z2y z2z z2A z2B).symm.trans h
       obtain ⟨z3N,zJH,h⟩:=z6 h
       obtain ⟨zJI,h⟩:=yn h
       obtain ⟨zJJ,h⟩:=yn h
       refine WC.yO (fun i=>[17].contains i) [] rfl (WD.pA 0 174 rfl (fun _=>q_m rfl) (WD.qA 1 175 rfl (yf z28 rfl (yh .h7) rfl) (WD.pA 2 176 rfl (fun _=>q_m rfl) (WD.eA 3 177 rfl (z8 Tryz.call43 (.cons rfl .nil)) (ccz hz .nil .here fun w pz ho=>y4C _ _ _ zJH w pz ) (WD.pA 4 178 rfl (fun _=>q_m rfl) (WD.pA 5 179 rfl (fun _=>y13 rfl) (WD.pA 6 180 rfl (fun _=>ya y6d rfl rfl) (WD.pA 7 181 rfl (fun _=>ya y8F rfl rfl) (WD.qA 8 182 rfl (yc y8G rfl (ym .h3 rfl)) (WD.pA 9 183 rfl (fun _=>q_m rfl) (WD.znth (j:=10) (dd:=184) (by kernel_rfl) rfl z2j z2k rfl rfl (Z:=(Z ++ z5f)) (Pr:=(fun r x=>r = e64 x)) yc2 rfl rfl (zbZ.mono ((Zle.left _ _).trans (zU.trans zQ))) zJI ?_)))))))))))
       rintro zVQ zVR zJK zVS rfl
       refine WD.pA 11 185 rfl (fun _=>ya yb9 rfl rfl) (WD.qA 12 186 rfl (yc yx rfl (y1k (hz.pv2 .here) zJK rfl)) (WD.pA 13 187 rfl (fun _=>yI (v:=(.agg #[(.int .i64 1),(.int .i64 ((nth za.fLinks zx).fSlow))])) (Eos.parts (l:=[.const (.int .i64 1),.tmp 186]) (.r2 rfl rfl) [0,1]) (fun _=>by kernel_rfl)) (WD.pA 14 188 rfl (fun _=>yI (v:=(.agg #[(.int .i64 z3N.fN),(.int .i64 z3N.fD),(.int .i64 1),(.int .i64 ((nth za.fLinks zx).fSlow))])) (Eos.parts (l:=[.tmp 177,.tmp 187]) (.r2 rfl rfl) [0,1]) (fun _=>by kernel_rfl)) (WD.new (i:=15) (dd:=189) rfl (by kernel_rfl) rfl rfl rfl (yN (cs:=([(⟨(⟨z2y,z2z⟩ : z1),(⟨z2A,z2B⟩ : z1)⟩ : z2),(⟨z3N,(⟨1,((nth za.fLinks zx).fSlow)⟩ : z1)⟩ : z2)] : List z2).flatMap y1D) z5U (Eos.parts (l:=[.tmp 175,.tmp 188]) (.r2 rfl rfl) [0,1]) (fun _=>by kernel_rfl) rfl (by unfold maxLen; omega)) (fun h'=>absurd h' (by decide)) ?_))))
       intro zgr _
       refine WD.freezeS (ls:=([(⟨(⟨z2y,z2z⟩ : z1),(⟨z2A,z2B⟩ : z1)⟩ : z2),(⟨z3N,(⟨1,((nth za.fLinks zx).fSlow)⟩ : z1)⟩ : z2)] : List z2)) .here .here hz (RR.flat (enc:=y1D) (fun _=>rfl) _) ?_
       intro zmx zA8 zJL
       have zA9 : RR 1 (y1T (Z ++ zmx)) [(.slice (some ⟨zgr,0,none⟩) (([(⟨(⟨z2y,z2z⟩ : z1),(⟨z2A,z2B⟩ : z1)⟩ : z2),(⟨z3N,(⟨1,((nth za.fLinks zx).fSlow)⟩ : z1)⟩ : z2)] : List z2).length) 2)] ([([(⟨(⟨z2y,z2z⟩ : z1),(⟨z2A,z2B⟩ : z1)⟩ : z2),(⟨z3N,(⟨1,((nth za.fLinks zx).fSlow)⟩ : z1)⟩ : z2)] : List z2)] : List (List z2)):=(RR.cons (r:=[(.slice (some ⟨zgr,0,none⟩) (([(⟨(⟨z2y,z2z⟩ : z1),(⟨z2A,z2B⟩ : z1)⟩ : z2),(⟨z3N,(⟨1,((nth za.fLinks zx).fSlow)⟩ : z1)⟩ : z2)] : List z2).length) 2)]) rfl (show y1T _ _ _ from ⟨_,_,rfl,zJL⟩) (RR.nil _ _))
       refine WD.new (i:=16) (dd:=190) rfl (by kernel_rfl) rfl rfl rfl (yN (cs:=[(.slice (some ⟨zgr,0,none⟩) (([(⟨(⟨z2y,z2z⟩ : z1),(⟨z2A,z2B⟩ : z1)⟩ : z2),(⟨z3N,(⟨1,((nth za.fLinks zx).fSlow)⟩ : z1)⟩ : z2)] : List z2).length) 2)]) z7n (Eos.parts (l:=[.tmp 189]) (.cons rfl .nil) [0]) (fun _=>by kernel_rfl) rfl (by unfold maxLen; omega)) (fun h'=>absurd h' (by decide)) ?_
       intro zVT _
       have zJM : RR 1 (y1T (Z ++ zmx)) (z6M ++ [(.slice (some ⟨zgr,0,none⟩) (([(⟨(⟨z2y,z2z⟩ : z1),(⟨z2A,z2B⟩ : z1)⟩ : z2),(⟨z3N,(⟨1,((nth za.fLinks zx).fSlow)⟩ : z1)⟩ : z2)] : List z2).length) 2)]) (z1Z ++ ([([(⟨(⟨z2y,z2z⟩ : z1),(⟨z2A,z2B⟩ : z1)⟩ : z2),(⟨z3N,(⟨1,((nth za.fLinks zx).fSlow)⟩ : z1)⟩ : z2)] : List z2)] : List (List z2))):=RR.app (zrY.weak (fun _ _ h=>y38 zA8 h)) zA9
       refine WD.old (i:=17) (dd:=191) rfl (by kernel_rfl) rfl rfl rfl rfl (fun _=>(Sin.of .nil)) (y7o (l1:=z1Z) (l2:=([([(⟨(⟨z2y,z2z⟩ : z1),(⟨z2A,z2B⟩ : z1)⟩ : z2),(⟨z3N,(⟨1,((nth za.fLinks zx).fSlow)⟩ : z1)⟩ : z2)] : List z2)] : List (List z2))) (news:=[(.slice (some ⟨zgr,0,none⟩) (([(⟨(⟨z2y,z2z⟩ : z1),(⟨z2A,z2B⟩ : z1)⟩ : z2),(⟨z3N,(⟨1,((nth za.fLinks zx).fSlow)⟩ : z1)⟩ : z2)] : List z2).length) 2)]) (Pr:=(y1T (Z ++ zmx))) z7n rfl rfl .h3 zA9 (y3C .here) (y6J rfl y7z) zJJ) ?_
       rintro ⟨zJN,zJO⟩ _
       refine WD.pA 18 7 rfl (fun _=>q_z rfl) (WD.done (by kernel_rfl) (WX.yk ?_))
       exact WX.mid ⟨(z1Z ++ ([([(⟨(⟨z2y,z2z⟩ : z1),(⟨z2A,z2B⟩ : z1)⟩ : z2),(⟨z3N,(⟨1,((nth za.fLinks zx).fSlow)⟩ : z1)⟩ : z2)] : List z2)] : List (List z2))),z9V,zmx,zJN,zJO,(z6M ++ [(.slice (some ⟨zgr,0,none⟩) (([(⟨(⟨z2y,z2z⟩ : z1),(⟨z2A,z2B⟩ : z1)⟩ : z2),(⟨z3N,(⟨1,((nth za.fLinks zx).fSlow)⟩ : z1)⟩ : z2)] : List z2).length) 2)])⟩ ⟨h,zA8,zJM⟩ (.r8 rfl rfl rfl rfl rfl rfl rfl rfl) (.s9 .h2 .h2 .here .h1 .h1 .h1 .h1 .h2 .h2)
    ·rintro z7G z9U zdZ zgn zgo zgp ⟨h,zJP,zJQ⟩
     replace h:=(zJw z7G z9U).symm.trans h
     refine WC.a (WL.pu rfl (WL.pu rfl (WL.nil ?_)))
     exact WX.round ⟨zrT,z7G,(i64 (zx + 1)),z9U,zdZ,zgn,zgo,zgp⟩ ⟨h,(zQ.trans zJP),zJQ⟩ (Nat.lt_succ_self _) (.r8 rfl rfl rfl rfl rfl rfl rfl rfl) (.s9 .here .here .here .here .here .here .here .here .here)
   ·replace h:=yp h zrZ
    refine WC.exit (WX.yg (WX.yg (WX.yA ?_)))
    exact WX.mid ⟨z1Z,z5c,z5f,z6K,z6L,z6M⟩ ⟨h,zQ,zrY⟩ (.r3 rfl rfl rfl) (.s6 .here .here .here .here .h3 .h3)
  ·rintro z5y zbY za0 zjt zju zc1 ⟨h,zJR,zs4⟩
   replace h:=(zJv z5y zbY).symm.trans h
   refine WC.b ?_
   obtain ⟨zJS,h⟩:=yn h
   refine WC.a (WL.pu rfl (WL.pu rfl ?_))
   have zJT : RR 1 (y1T (Z ++ za0)) (z6I ++ zc1) (z2e ++ z5y):=RR.app (zJu.weak (fun _ _ h=>y38 zJR h)) zs4
   refine WL.fA 195 (y7o (l1:=z2e) (l2:=z5y) (news:=zc1) (Pr:=(y1T (Z ++ za0))) z7n rfl rfl .h1 zs4 (y3C .h2) (RR.oc zs4 (fun _ _ h=>p173_oc h)) zJS) ?_
   rintro ⟨zJU,zJV⟩ _
   refine WL.pu rfl (WL.pu rfl (WL.pu rfl (WL.nil (WX.a (WC.ret ?_)))))
   obtain rfl:=Option.some.inj h
   refine WX.ye Tryz.results42 (.tmp rfl (.tmp rfl .nil)) (fun w hw=>?_)
   exact ⟨za0,zJU,zJV,(z6I ++ zc1),y1Z rfl rfl,zJT,hw.sub (.s5 .h1 .here .h1 .h1 .h1)⟩
def y52 (za1 : z1) : Option Bool :=
 (y1L za1).bind fun zs5=>some (zs5 && (decide (za1.fN ≥ 0)))
theorem y8T (Z : Zp)  (za1 : z1) (r : Bool)
  (h : y52 za1 = some r) (w₀ : World) (hz : PZ [] w₀ Z) :
  Calls Tryz.prog 147 #[(.agg #[(.int .i64 za1.fN),(.int .i64 za1.fD)])] w₀ fun e w'=>e = .returned (.bool r) ∧ Hp [] w₀ w' []:=by
 unfold y52 at h
 refine Calls.on1 Tryz.func147 Tryz.ntmps147 ?_
 refine WC.b (WC.a (WL.nA 1 (yH (cs:=[(.int .i64 za1.fN),(.int .i64 za1.fD)]) rfl rfl) ?_))
 intro zVU _
 refine WL.pu rfl (WL.nil (WX.a (WC.b ?_)))
 obtain ⟨zs5,zJW,h⟩:=z6 h
 refine WC.a (WL.qA 3 (yf zb rfl (yh .here) rfl) (WL.cA 4 (z8 Tryz.call80 (.cons rfl .nil)) .nil (cc hz .nil fun w pz ho=>y2n _ _ _ zJW w pz ) (WL.pu rfl (WL.seg true 3 5 (B:=zs5 && (decide (za1.fN ≥ 0))) rfl rfl rfl rfl rfl rfl (fun h=>(y2O h).symm) (fun _ zJX=>?_) ?_))))
 ·skip
  refine WL.qA 6 (ya y2f rfl rfl) (WL.qA 7 (yc yx rfl (ym .here rfl)) (WL.pu rfl (WL.pu rfl ?_)))
  exact WL.yB (y2P zJX) rfl rfl .all
 refine WL.pu rfl (WL.nil (WX.a (WC.ret ?_)))
 obtain rfl:=Option.some.inj h
 refine WX.ye Tryz.results147 (.tmp rfl .nil) (fun w hw=>?_)
 exact ⟨yC rfl,hw.sub .nil⟩
def y4w (z4P : z2) : Option Bool :=
 (y52 z4P.fBurst).bind fun zAa=>(if !zAa then some true else (y52 z4P.fRate).bind fun zAb=>some (!zAb)).bind fun zs6=>some zs6
theorem yc9 (Z : Zp)  (z4P : z2) (r : Bool)
  (h : y4w z4P = some r) (w₀ : World) (hz : PZ [] w₀ Z) :
  Calls Tryz.prog 166 #[(.agg #[(.int .i64 z4P.fBurst.fN),(.int .i64 z4P.fBurst.fD),(.int .i64 z4P.fRate.fN),(.int .i64 z4P.fRate.fD)])] w₀ fun e w'=>e = .returned (.bool r) ∧ Hp [] w₀ w' []:=by
 unfold y4w at h
 refine Calls.on1 Tryz.func166 Tryz.ntmps166 ?_
 refine WC.b (WC.a (WL.nA 1 (yH (cs:=[(.int .i64 z4P.fBurst.fN),(.int .i64 z4P.fBurst.fD),(.int .i64 z4P.fRate.fN),(.int .i64 z4P.fRate.fD)]) rfl rfl) ?_))
 intro zVV _
 refine WL.pu rfl (WL.nil (WX.a (WC.b ?_)))
 obtain ⟨zAa,zJY,h⟩:=z6 h
 obtain ⟨zs6,zAc,h⟩:=z6 h
 refine WC.a (WL.qA 3 (ya y4z rfl rfl) (WL.qA 4 (yT (cs:=[(.int .i64 z4P.fBurst.fN),(.int .i64 z4P.fBurst.fD)]) zb rfl rfl (y31 (s:=2) .here rfl)) (WL.cA 5 (z8 Tryz.call147 (.cons rfl .nil)) .nil (cc hz .nil fun w pz ho=>y8T _ _ _ zJY w pz ) (WL.pu rfl (WL.pu rfl (WL.seg false 4 7 (B:=zs6) rfl rfl rfl rfl rfl rfl (fun h=>(Option.some.inj (yo zAc h)).symm) (fun _ zJZ=>?_) ?_))))))
 ·skip
  have zjx:=yp zAc zJZ
  obtain ⟨zAb,zK0,zjx⟩:=z6 zjx
  replace zjx:=Option.some.inj zjx
  refine WL.qA 8 (ya y5A rfl rfl) (WL.qA 9 (yT (cs:=[(.int .i64 z4P.fRate.fN),(.int .i64 z4P.fRate.fD)]) zb rfl rfl (y31 (s:=2) .here rfl)) (WL.cA 10 (z8 Tryz.call147 (.cons rfl .nil)) .nil (cc hz .nil fun w pz ho=>y8T _ _ _ zK0 w pz ) (WL.pu rfl (WL.pu rfl ?_))))
  exact WL.yB zjx rfl rfl .all
 refine WL.pu rfl (WL.nil (WX.a (WC.ret ?_)))
 obtain rfl:=Option.some.inj h
 refine WX.ye Tryz.results166 (.tmp rfl .nil) (fun w hw=>?_)
 exact ⟨yC rfl,hw.sub .nil⟩
def y14 (z2C : List z2) (z7H : z2 → Option Bool) (za2 : Option Int) : Nat → Int → Option Int
 | 0,_=>none
 | zs7 + 1,z2n=>if decide (z2n < ((z2C.length : Nat) : Int)) then chk ((0 : Int) ≤ z2n ∧ z2n < ((z2C.length : Nat) : Int)) ((z7H (⟨(⟨(((nth z2C z2n).fBurst).fN),(((nth z2C z2n).fBurst).fD)⟩ : z1),(⟨(((nth z2C z2n).fRate).fN),(((nth z2C z2n).fRate).fD)⟩ : z1)⟩ : z2)).bind fun zs8=>if zs8 then some z2n else y14 z2C z7H za2 zs7 (i64 (z2n + 1))) else za2
theorem y56 {n : Nat} {z2C : List z2} {z7H : z2 → Option Bool} {za2 : Option Int} {z2n : Int} {r : Int} (h : y14 z2C z7H za2 n z2n = some r) : ∃ m,n = m + 1:=by
 cases n with
 | zero=>cases h
 | succ m=>exact ⟨m,rfl⟩
def y2L (z2C : List z2) (z7H : z2 → Option Bool) : Option Int :=
 jp0 (some (-1)) fun za2=>y14 z2C z7H za2 yz 0
theorem y69 (Z : Zp) (zs9 : Option Addr) (zsa : Nat) (ze0 : FuncId) (zjy : List Value) (z2C : List z2) (z7H : z2 → Option Bool) (r : Int)
  (h : y2L z2C z7H = some r) (w₀ : World) (hz : PZ [] w₀ Z)
  (zK1 : ZS Z 4 (fun r x=>r = y1D x) zs9 zsa z2C)
  (zK2 : ∀ args w,(callFunc ze0 args).run Tryz.prog w = .ok (.enter ze0 args) w)
  (zK3 : ∀ w : World,PZ [] w Z → ∀ (x0 : z2) (r : Bool),z7H x0 = some r → Calls Tryz.prog ze0 (([(.agg #[(.int .i64 x0.fBurst.fN),(.int .i64 x0.fBurst.fD),(.int .i64 x0.fRate.fN),(.int .i64 x0.fRate.fD)])] : List Value) ++ zjy).toArray w fun e w'=>e = .returned (.bool r) ∧ Hp [] w w' []) :
  Calls Tryz.prog 178 #[(.slice zs9 z2C.length zsa),(.func (.func ze0) #[] (zjy).toArray)] w₀ fun e w'=>e = .returned (.int .i64 r) ∧ Hp [] w₀ w' []:=by
 unfold y2L at h
 refine Calls.yJ Tryz.func178 Tryz.ntmps178 ?_
 refine WC.b (WC.a (WL.pu rfl (WL.nil (WX.a ?_))))
 obtain ⟨za2,zK4,h⟩:=y2y h
 refine WC.y1P ((za2 = some r)) ([]) ([]) ?_ ?_
 ·skip
  refine WC.b (WC.a (WL.pu rfl (WL.qA 7 (yG Tryz.underlying173 rfl) (WL.pu rfl (WL.nil (WX.a (WC.block (WC.y2V (fun (zgs : Nat) (z2n : Int)=>(y14 z2C z7H za2 zgs z2n = some r)) (fun zgs z2n=>[(0,(.slice zs9 z2C.length zsa)),(1,(.func (.func ze0) #[] (zjy).toArray)),(7,(.int .i64 ((z2C.length : Nat) : Int))),(8,(.int .i64 z2n))]) (fun zgs z2n=>[]) (fun zgs z2n=>zgs) ⟨yz,0⟩ h (.r4 rfl rfl rfl rfl) .nil ?_))))))))
  rintro zgs z2n h
  obtain ⟨zs7,rfl⟩:=y56 h
  rw [y14] at h
  refine WC.b (WC.a (WL.pu rfl (WL.nil (WX.a (WC.b (WC.cond rfl (fun zsb=>?_) (fun zsb=>?_)))))))
  ·replace h:=yo h zsb
   refine WC.skip (WX.a (WC.b (WC.block (WC.b (WC.a (WL.pu rfl (WL.pu rfl (WL.nil (WX.a (WC.b ?_))))))))))
   obtain ⟨zK5,h⟩:=yn h
   obtain ⟨zs8,zK6,h⟩:=z6 h
   refine WC.a (WL.pu rfl (WL.pu rfl (WL.pu rfl (WL.znth (dd:=14) rfl rfl (Z:=Z) (Pr:=(fun r x=>r = y1D x)) z5U rfl rfl zK1 zK5 ?_))))
   rintro zVW zVX zK7 zVY rfl
   refine WL.qA 15 (yf z28 rfl (y2v hz.pv zK7) rfl) (WL.cA 16 (y2t (l:=[.tmp 15]) (f:=ze0) (caps:=zjy) zK2 rfl (.cons rfl .nil)) .nil (fun w hw=>zK3 w (hz.now hw) (⟨(⟨(((nth z2C z2n).fBurst).fN),(((nth z2C z2n).fBurst).fD)⟩ : z1),(⟨(((nth z2C z2n).fRate).fN),(((nth z2C z2n).fRate).fD)⟩ : z1)⟩ : z2) zs8  zK6) (WL.nil (WX.a (WC.cond rfl (fun zsc=>?_) (fun zsc=>?_)))))
   ·replace h:=yo h zsc
    refine WC.b (WC.a (WL.pu rfl (WL.pu rfl (WL.nil (WX.a (WC.ret (WX.yt (WX.yd (WX.yd (WX.yt (WX.yd ?_)))))))))))
    obtain rfl:=Option.some.inj h
    refine WX.ye Tryz.results178 (.tmp rfl .nil) (fun w hw=>?_)
    exact ⟨yC rfl,hw.sub .nil⟩
   ·replace h:=yp h zsc
    refine WC.skip (WX.yk (WX.a (WC.a (WL.pu rfl (WL.pu rfl (WL.nil ?_))))))
    exact WX.round ⟨zs7,(i64 (z2n + 1))⟩ h (Nat.lt_succ_self _) (.r4 rfl rfl rfl rfl) .nil
  ·replace h:=yp h zsb
   refine WC.exit (WX.yg (WX.yg (WX.yA ?_)))
   exact WX.mid () h .nil .nil
 ·rintro  h
  replace h:=zK4.symm.trans h
  refine WC.b (WC.a (WL.pu rfl (WL.nil (WX.a (WC.ret ?_)))))
  obtain rfl:=Option.some.inj h
  refine WX.ye Tryz.results178 (.tmp rfl .nil) (fun w hw=>?_)
  exact ⟨yC rfl,hw.sub .nil⟩
def y1p (zjz : List z2) (ze1 : z2 → Option Bool) : Option Bool :=
 (y2L zjz ze1).bind fun zAd=>some (decide (zAd ≥ 0))
theorem y3M (Z : Zp) (zAe : Option Addr) (zAf : Nat) (ze2 : FuncId) (zjA : List Value) (zjz : List z2) (ze1 : z2 → Option Bool) (r : Bool)
  (h : y1p zjz ze1 = some r) (w₀ : World) (hz : PZ [] w₀ Z)
  (zK8 : ZS Z 4 (fun r x=>r = y1D x) zAe zAf zjz)
  (zK9 : ∀ args w,(callFunc ze2 args).run Tryz.prog w = .ok (.enter ze2 args) w)
  (zKa : ∀ w : World,PZ [] w Z → ∀ (x0 : z2) (r : Bool),ze1 x0 = some r → Calls Tryz.prog ze2 (([(.agg #[(.int .i64 x0.fBurst.fN),(.int .i64 x0.fBurst.fD),(.int .i64 x0.fRate.fN),(.int .i64 x0.fRate.fD)])] : List Value) ++ zjA).toArray w fun e w'=>e = .returned (.bool r) ∧ Hp [] w w' []) :
  Calls Tryz.prog 165 #[(.slice zAe zjz.length zAf),(.func (.func ze2) #[] (zjA).toArray)] w₀ fun e w'=>e = .returned (.bool r) ∧ Hp [] w₀ w' []:=by
 unfold y1p at h
 refine Calls.yJ Tryz.func165 Tryz.ntmps165 ?_
 refine WC.b (WC.a (WL.pu rfl (WL.nil (WX.a (WC.b ?_)))))
 obtain ⟨zAd,zKb,h⟩:=z6 h
 refine WC.a (WL.pu rfl (WL.pu rfl (WL.cA 7 (z8 Tryz.call178 (.r2 rfl rfl)) .nil (cc hz .nil fun w pz ho=>y69 _ _ _ (ze0:=ze2) (zjy:=zjA) _ (z7H:=ze1) _ zKb w pz zK8 zK9 zKa) (WL.pu rfl (WL.pu rfl (WL.nil (WX.a (WC.ret ?_))))))))
 obtain rfl:=Option.some.inj h
 refine WX.ye Tryz.results165 (.tmp rfl .nil) (fun w hw=>?_)
 exact ⟨yC rfl,hw.sub .nil⟩
def y4c (za3 : List z2) : Option Bool :=
 (if (decide (((za3.length : Nat) : Int) ≥ 1)) && (decide (((za3.length : Nat) : Int) ≤ 32)) then (y1p za3 (fun (y0 : z2)=>y4w y0)).bind fun zAg=>some (!zAg) else some false).bind fun zsd=>some zsd
theorem y7d (Z : Zp) (zAh : Option Addr) (zAi : Nat) (za3 : List z2) (r : Bool)
  (h : y4c za3 = some r) (w₀ : World) (hz : PZ [] w₀ Z)
  (zKc : ZS Z 4 (fun r x=>r = y1D x) zAh zAi za3) :
  Calls Tryz.prog 146 #[(.slice zAh za3.length zAi)] w₀ fun e w'=>e = .returned (.bool r) ∧ Hp [] w₀ w' []:=by
 unfold y4c at h
 refine Calls.on1 Tryz.func146 Tryz.ntmps146 ?_
 refine WC.b (WC.a (WL.pu rfl (WL.nil (WX.a (WC.b ?_)))))
 obtain ⟨zsd,zAj,h⟩:=z6 h
 refine WC.a (WL.pu rfl (WL.qA 4 (yG Tryz.underlying173 rfl) (WL.pu rfl (WL.pu rfl (WL.seg true 3 6 (B:=(decide (((za3.length : Nat) : Int) ≥ 1)) && (decide (((za3.length : Nat) : Int) ≤ 32))) rfl rfl rfl rfl rfl rfl (fun h=>(y2O h).symm) (fun _ zKd=>?_) ?_)))))
 ·skip
  refine WL.pu rfl (WL.qA 8 (yG Tryz.underlying173 rfl) (WL.pu rfl (WL.pu rfl ?_)))
  exact WL.yB (y2P zKd) rfl rfl .all
 refine WL.pu rfl (WL.seg true 3 11 (B:=zsd) rfl rfl rfl rfl rfl rfl (fun h=>(Option.some.inj (yp zAj h)).symm) (fun _ zKe=>?_) ?_)
 ·skip
  have zjB:=yo zAj zKe
  obtain ⟨zAg,zKf,zjB⟩:=z6 zjB
  replace zjB:=Option.some.inj zjB
  refine WL.pu rfl (WL.cA 13 (z8 Tryz.call165 (.r2 rfl rfl)) .nil (cc hz .nil fun w pz ho=>y3M _ _ _ (ze2:=166) (zjA:=[]) _ (ze1:=(fun (y0 : z2)=>y4w y0)) _ zKf w pz zKc Tryz.call166 (fun w' hz' y0  r  hr=>yc9 _ _ _ hr w' hz' )) (WL.pu rfl (WL.pu rfl ?_)))
  exact WL.yB zjB rfl rfl .all
 refine WL.pu rfl (WL.nil (WX.a (WC.ret ?_)))
 obtain rfl:=Option.some.inj h
 refine WX.ye Tryz.results146 (.tmp rfl .nil) (fun w hw=>?_)
 exact ⟨yC rfl,hw.sub .nil⟩
def y1q (zjC : List z2) : Option Bool :=
 (y4c zjC).bind fun zAk=>some (!zAk)
theorem y6p (Z : Zp) (zAl : Option Addr) (zAm : Nat) (zjC : List z2) (r : Bool)
  (h : y1q zjC = some r) (w₀ : World) (hz : PZ [] w₀ Z)
  (zKg : ZS Z 4 (fun r x=>r = y1D x) zAl zAm zjC) :
  Calls Tryz.prog 151 #[(.slice zAl zjC.length zAm)] w₀ fun e w'=>e = .returned (.bool r) ∧ Hp [] w₀ w' []:=by
 unfold y1q at h
 refine Calls.on1 Tryz.func151 Tryz.ntmps151 ?_
 refine WC.b (WC.a (WL.pu rfl (WL.nil (WX.a (WC.b ?_)))))
 obtain ⟨zAk,zKh,h⟩:=z6 h
 refine WC.a (WL.pu rfl (WL.cA 4 (z8 Tryz.call146 (.cons rfl .nil)) .nil (cc hz .nil fun w pz ho=>y7d _ _ _ _ _ zKh w pz zKg) (WL.pu rfl (WL.pu rfl (WL.nil (WX.a (WC.ret ?_)))))))
 obtain rfl:=Option.some.inj h
 refine WX.ye Tryz.results151 (.tmp rfl .nil) (fun w hw=>?_)
 exact ⟨yC rfl,hw.sub .nil⟩
def yY (z4Q : List (List z2)) (z7I : (List z2) → Option Bool) (za4 : Option Int) : Nat → Int → Option Int
 | 0,_=>none
 | zse + 1,z4r=>if decide (z4r < ((z4Q.length : Nat) : Int)) then chk ((0 : Int) ≤ z4r ∧ z4r < ((z4Q.length : Nat) : Int)) ((z7I (nth z4Q z4r)).bind fun zsf=>if zsf then some z4r else yY z4Q z7I za4 zse (i64 (z4r + 1))) else za4
theorem y5c {n : Nat} {z4Q : List (List z2)} {z7I : (List z2) → Option Bool} {za4 : Option Int} {z4r : Int} {r : Int} (h : yY z4Q z7I za4 n z4r = some r) : ∃ m,n = m + 1:=by
 cases n with
 | zero=>cases h
 | succ m=>exact ⟨m,rfl⟩
def y29 (z4Q : List (List z2)) (z7I : (List z2) → Option Bool) : Option Int :=
 jp0 (some (-1)) fun za4=>yY z4Q z7I za4 yz 0
theorem y6j (Z : Zp) (zsg : Option Addr) (zsh : Nat) (ze3 : FuncId) (zjD : List Value) (z4Q : List (List z2)) (z7I : (List z2) → Option Bool) (r : Int)
  (h : y29 z4Q z7I = some r) (w₀ : World) (hz : PZ [] w₀ Z)
  (zKi : ZS Z 1 (y1T Z) zsg zsh z4Q)
  (zKj : ∀ args w,(callFunc ze3 args).run Tryz.prog w = .ok (.enter ze3 args) w)
  (zKk : ∀ w : World,PZ [] w Z → ∀ (x0 : List z2) (ao0 : Option Addr) (cap0 : Nat) (r : Bool),ZS Z 4 (fun r x=>r = y1D x) ao0 cap0 x0 → z7I x0 = some r → Calls Tryz.prog ze3 (([(.slice ao0 x0.length cap0)] : List Value) ++ zjD).toArray w fun e w'=>e = .returned (.bool r) ∧ Hp [] w w' []) :
  Calls Tryz.prog 168 #[(.slice zsg z4Q.length zsh),(.func (.func ze3) #[] (zjD).toArray)] w₀ fun e w'=>e = .returned (.int .i64 r) ∧ Hp [] w₀ w' []:=by
 unfold y29 at h
 refine Calls.yJ Tryz.func168 Tryz.ntmps168 ?_
 refine WC.b (WC.a (WL.pu rfl (WL.nil (WX.a ?_))))
 obtain ⟨za4,zKl,h⟩:=y2y h
 refine WC.y1P ((za4 = some r)) ([]) ([]) ?_ ?_
 ·skip
  refine WC.b (WC.a (WL.pu rfl (WL.qA 7 (yG Tryz.underlying128 rfl) (WL.pu rfl (WL.nil (WX.a (WC.block (WC.y2V (fun (zgt : Nat) (z4r : Int)=>(yY z4Q z7I za4 zgt z4r = some r)) (fun zgt z4r=>[(0,(.slice zsg z4Q.length zsh)),(1,(.func (.func ze3) #[] (zjD).toArray)),(7,(.int .i64 ((z4Q.length : Nat) : Int))),(8,(.int .i64 z4r))]) (fun zgt z4r=>[]) (fun zgt z4r=>zgt) ⟨yz,0⟩ h (.r4 rfl rfl rfl rfl) .nil ?_))))))))
  rintro zgt z4r h
  obtain ⟨zse,rfl⟩:=y5c h
  rw [yY] at h
  refine WC.b (WC.a (WL.pu rfl (WL.nil (WX.a (WC.b (WC.cond rfl (fun zsi=>?_) (fun zsi=>?_)))))))
  ·replace h:=yo h zsi
   refine WC.skip (WX.a (WC.b (WC.block (WC.b (WC.a (WL.pu rfl (WL.pu rfl (WL.nil (WX.a (WC.b ?_))))))))))
   obtain ⟨zKm,h⟩:=yn h
   obtain ⟨zsf,zKn,h⟩:=z6 h
   refine WC.a (WL.pu rfl (WL.pu rfl (WL.pu rfl (WL.znth (dd:=14) rfl rfl (Z:=Z) (Pr:=(y1T Z)) z7n rfl rfl zKi zKm ?_))))
   rintro zVZ zW0 zKo zW1 ⟨zKp,zKq,rfl,zKr⟩
   refine WL.qA 15 (yc zbb rfl (y57 hz.pv zKo rfl)) (WL.cA 16 (y2t (l:=[.tmp 15]) (f:=ze3) (caps:=zjD) zKj rfl (.cons rfl .nil)) .nil (fun w hw=>zKk w (hz.now hw) (nth z4Q z4r) zKp zKq zsf zKr zKn) (WL.nil (WX.a (WC.cond rfl (fun zsj=>?_) (fun zsj=>?_)))))
   ·replace h:=yo h zsj
    refine WC.b (WC.a (WL.pu rfl (WL.pu rfl (WL.nil (WX.a (WC.ret (WX.yt (WX.yd (WX.yd (WX.yt (WX.yd ?_)))))))))))
    obtain rfl:=Option.some.inj h
    refine WX.ye Tryz.results168 (.tmp rfl .nil) (fun w hw=>?_)
    exact ⟨yC rfl,hw.sub .nil⟩
   ·replace h:=yp h zsj
    refine WC.skip (WX.yk (WX.a (WC.a (WL.pu rfl (WL.pu rfl (WL.nil ?_))))))
    exact WX.round ⟨zse,(i64 (z4r + 1))⟩ h (Nat.lt_succ_self _) (.r4 rfl rfl rfl rfl) .nil
  ·replace h:=yp h zsi
   refine WC.exit (WX.yg (WX.yg (WX.yA ?_)))
   exact WX.mid () h .nil .nil
 ·rintro  h
  replace h:=zKl.symm.trans h
  refine WC.b (WC.a (WL.pu rfl (WL.nil (WX.a (WC.ret ?_)))))
  obtain rfl:=Option.some.inj h
  refine WX.ye Tryz.results168 (.tmp rfl .nil) (fun w hw=>?_)
  exact ⟨yC rfl,hw.sub .nil⟩
def y16 (zjE : List (List z2)) (ze4 : (List z2) → Option Bool) : Option Bool :=
 (y29 zjE ze4).bind fun zAn=>some (decide (zAn ≥ 0))
theorem y3U (Z : Zp) (zAo : Option Addr) (zAp : Nat) (ze5 : FuncId) (zjF : List Value) (zjE : List (List z2)) (ze4 : (List z2) → Option Bool) (r : Bool)
  (h : y16 zjE ze4 = some r) (w₀ : World) (hz : PZ [] w₀ Z)
  (zKs : ZS Z 1 (y1T Z) zAo zAp zjE)
  (zKt : ∀ args w,(callFunc ze5 args).run Tryz.prog w = .ok (.enter ze5 args) w)
  (zKu : ∀ w : World,PZ [] w Z → ∀ (x0 : List z2) (ao0 : Option Addr) (cap0 : Nat) (r : Bool),ZS Z 4 (fun r x=>r = y1D x) ao0 cap0 x0 → ze4 x0 = some r → Calls Tryz.prog ze5 (([(.slice ao0 x0.length cap0)] : List Value) ++ zjF).toArray w fun e w'=>e = .returned (.bool r) ∧ Hp [] w w' []) :
  Calls Tryz.prog 150 #[(.slice zAo zjE.length zAp),(.func (.func ze5) #[] (zjF).toArray)] w₀ fun e w'=>e = .returned (.bool r) ∧ Hp [] w₀ w' []:=by
 unfold y16 at h
 refine Calls.yJ Tryz.func150 Tryz.ntmps150 ?_
 refine WC.b (WC.a (WL.pu rfl (WL.nil (WX.a (WC.b ?_)))))
 obtain ⟨zAn,zKv,h⟩:=z6 h
 refine WC.a (WL.pu rfl (WL.pu rfl (WL.cA 7 (z8 Tryz.call168 (.r2 rfl rfl)) .nil (cc hz .nil fun w pz ho=>y6j _ _ _ (ze3:=ze5) (zjD:=zjF) _ (z7I:=ze4) _ zKv w pz zKs zKt zKu) (WL.pu rfl (WL.pu rfl (WL.nil (WX.a (WC.ret ?_))))))))
 obtain rfl:=Option.some.inj h
 refine WX.ye Tryz.results150 (.tmp rfl .nil) (fun w hw=>?_)
 exact ⟨yC rfl,hw.sub .nil⟩
def y4k (z3d : zSv) : Option Bool :=
 (y1L z3d.fRate).bind fun zsk=>(if zsk && (decide (z3d.fRate.fN > 0)) then (y1L z3d.fL).bind fun zAq=>some zAq else some false).bind fun zmy=>some (zmy && (decide (z3d.fL.fN ≥ 0)))
theorem y8U (Z : Zp)  (z3d : zSv) (r : Bool)
  (h : y4k z3d = some r) (w₀ : World) (hz : PZ [] w₀ Z) :
  Calls Tryz.prog 152 #[(.agg #[(.int .i64 z3d.fRate.fN),(.int .i64 z3d.fRate.fD),(.int .i64 z3d.fL.fN),(.int .i64 z3d.fL.fD)])] w₀ fun e w'=>e = .returned (.bool r) ∧ Hp [] w₀ w' []:=by
 unfold y4k at h
 refine Calls.on1 Tryz.func152 Tryz.ntmps152 ?_
 refine WC.b (WC.a (WL.nA 1 (yH (cs:=[(.int .i64 z3d.fRate.fN),(.int .i64 z3d.fRate.fD),(.int .i64 z3d.fL.fN),(.int .i64 z3d.fL.fD)]) rfl rfl) ?_))
 intro zW2 _
 refine WL.pu rfl (WL.nil (WX.a (WC.b ?_)))
 obtain ⟨zsk,zKw,h⟩:=z6 h
 obtain ⟨zmy,zAr,h⟩:=z6 h
 refine WC.a (WL.qA 3 (ya y7V rfl rfl) (WL.qA 4 (yT (cs:=[(.int .i64 z3d.fRate.fN),(.int .i64 z3d.fRate.fD)]) zb rfl rfl (y31 (s:=2) .here rfl)) (WL.cA 5 (z8 Tryz.call80 (.cons rfl .nil)) .nil (cc hz .nil fun w pz ho=>y2n _ _ _ zKw w pz ) (WL.pu rfl (WL.seg true 4 6 (B:=zsk && (decide (z3d.fRate.fN > 0))) rfl rfl rfl rfl rfl rfl (fun h=>(y2O h).symm) (fun _ zKx=>?_) ?_)))))
 ·skip
  refine WL.qA 7 (ya y7V rfl rfl) (WL.qA 8 (ya y2f rfl rfl) (WL.qA 9 (yc yx rfl (ym .here rfl)) (WL.pu rfl (WL.pu rfl ?_))))
  exact WL.yB (y2P zKx) rfl rfl .all
 refine WL.pu rfl (WL.seg true 3 12 (B:=zmy) rfl rfl rfl rfl rfl rfl (fun h=>(Option.some.inj (yp zAr h)).symm) (fun _ zKy=>?_) ?_)
 ·skip
  have zjG:=yo zAr zKy
  obtain ⟨zAq,zKz,zjG⟩:=z6 zjG
  replace zjG:=Option.some.inj zjG
  refine WL.qA 13 (ya y7W rfl rfl) (WL.qA 14 (yT (cs:=[(.int .i64 z3d.fL.fN),(.int .i64 z3d.fL.fD)]) zb rfl rfl (y31 (s:=2) .here rfl)) (WL.cA 15 (z8 Tryz.call80 (.cons rfl .nil)) .nil (cc hz .nil fun w pz ho=>y2n _ _ _ zKz w pz ) (WL.pu rfl ?_)))
  exact WL.yB zjG rfl rfl .all
 refine WL.pu rfl (WL.seg true 4 17 (B:=zmy && (decide (z3d.fL.fN ≥ 0))) rfl rfl rfl rfl rfl rfl (fun h=>(y2O h).symm) (fun _ zKA=>?_) ?_)
 ·skip
  refine WL.qA 18 (ya y7W rfl rfl) (WL.qA 19 (ya y2f rfl rfl) (WL.qA 20 (yc yx rfl (ym .here rfl)) (WL.pu rfl (WL.pu rfl ?_))))
  exact WL.yB (y2P zKA) rfl rfl .all
 refine WL.pu rfl (WL.nil (WX.a (WC.ret ?_)))
 obtain rfl:=Option.some.inj h
 refine WX.ye Tryz.results152 (.tmp rfl .nil) (fun w hw=>?_)
 exact ⟨yC rfl,hw.sub .nil⟩
def y1l (zjH : Int) : Option z1 :=
 some (⟨zjH,1⟩ : z1)
theorem y2J (Z : Zp)  (zjH : Int) (r : z1)
  (h : y1l zjH = some r) (w₀ : World) (hz : PZ [] w₀ Z) :
  Calls Tryz.prog 145 #[(.int .i64 zjH)] w₀ fun e w'=>e = .returned (.agg #[(.int .i64 r.fN),(.int .i64 r.fD)]) ∧ Hp [] w₀ w' []:=by
 unfold y1l at h
 refine Calls.on1 Tryz.func145 Tryz.ntmps145 ?_
 refine WC.b (WC.a (WL.nA 2 (yw (cs:=[(.int .i64 0),(.int .i64 0)]) zH rfl) ?_))
 intro zW3 _
 refine WL.nil (WX.a (WC.b (WC.a (WL.pu rfl (WL.qA 4 (yI (v:=(.agg #[(.int .i64 zjH),(.int .i64 1)])) (Eos.parts (l:=[.tmp 3,.const (.int .i64 1)]) (.r2 rfl rfl) [0,1]) (fun _=>by kernel_rfl)) (WL.yj rfl rfl (yl zq rfl rfl rfl .here rfl rfl rfl) (WL.nil (WX.a (WC.ret ?_)))))))))
 obtain rfl:=Option.some.inj h
 refine WX.ye Tryz.results145 (.agg rfl zb rfl (yh .here) .nil) (fun w hw=>?_)
 exact ⟨yC rfl,hw.sub .nil⟩
def y2E  : Option z1 :=
 (y1l 0).bind fun zAs=>some zAs
theorem y41 (Z : Zp)  (r : z1)
  (h : y2E = some r) (w₀ : World) (hz : PZ [] w₀ Z) :
  Calls Tryz.prog 107 #[] w₀ fun e w'=>e = .returned (.agg #[(.int .i64 r.fN),(.int .i64 r.fD)]) ∧ Hp [] w₀ w' []:=by
 unfold y2E at h
 refine Calls.on0 Tryz.func107 Tryz.ntmps107 ?_
 refine WC.b (WC.a (WL.nA 0 (yw (cs:=[(.int .i64 0),(.int .i64 0)]) zH rfl) ?_))
 intro zW4 _
 refine WL.nil (WX.a (WC.b ?_))
 obtain ⟨zAs,zKB,h⟩:=z6 h
 refine WC.a (WL.cA 1 (z8 Tryz.call145 (.cons rfl .nil)) .nil (cc hz .nil fun w pz ho=>y2J _ _ _ zKB w pz ) (WL.yj rfl rfl (yl zq rfl rfl rfl .here rfl rfl rfl) (WL.nil (WX.a (WC.ret ?_)))))
 obtain rfl:=Option.some.inj h
 refine WX.ye Tryz.results107 (.agg rfl zb rfl (yh .here) .nil) (fun w hw=>?_)
 exact ⟨yC rfl,hw.sub .nil⟩
def y1g (z2D : List z2) (z2E : z2) (za5 : Option Int) : Nat → Int → Option Int
 | 0,_=>none
 | zsl + 1,z2o=>if decide (z2o < ((z2D.length : Nat) : Int)) then chk ((0 : Int) ≤ z2o ∧ z2o < ((z2D.length : Nat) : Int)) (if decide (z2E = (⟨(⟨(((nth z2D z2o).fBurst).fN),(((nth z2D z2o).fBurst).fD)⟩ : z1),(⟨(((nth z2D z2o).fRate).fN),(((nth z2D z2o).fRate).fD)⟩ : z1)⟩ : z2)) then some z2o else y1g z2D z2E za5 zsl (i64 (z2o + 1))) else za5
theorem y5D {n : Nat} {z2D : List z2} {z2E : z2} {za5 : Option Int} {z2o : Int} {r : Int} (h : y1g z2D z2E za5 n z2o = some r) : ∃ m,n = m + 1:=by
 cases n with
 | zero=>cases h
 | succ m=>exact ⟨m,rfl⟩
def y3g (z2D : List z2) (z2E : z2) : Option Int :=
 jp0 (some (-1)) fun za5=>y1g z2D z2E za5 yz 0
theorem y6V (Z : Zp) (zsm : Option Addr) (zsn : Nat) (z2D : List z2) (z2E : z2) (r : Int)
  (h : y3g z2D z2E = some r) (w₀ : World) (hz : PZ [] w₀ Z)
  (zKC : ZS Z 4 (fun r x=>r = y1D x) zsm zsn z2D) :
  Calls Tryz.prog 186 #[(.slice zsm z2D.length zsn),(.agg #[(.int .i64 z2E.fBurst.fN),(.int .i64 z2E.fBurst.fD),(.int .i64 z2E.fRate.fN),(.int .i64 z2E.fRate.fD)])] w₀ fun e w'=>e = .returned (.int .i64 r) ∧ Hp [] w₀ w' []:=by
 unfold y3g at h
 refine Calls.yJ Tryz.func186 Tryz.ntmps186 ?_
 refine WC.b (WC.a (WL.nA 3 (yH (cs:=[(.int .i64 z2E.fBurst.fN),(.int .i64 z2E.fBurst.fD),(.int .i64 z2E.fRate.fN),(.int .i64 z2E.fRate.fD)]) rfl rfl) ?_))
 intro zAt _
 refine WL.pu rfl (WL.nil (WX.a ?_))
 obtain ⟨za5,zKD,h⟩:=y2y h
 refine WC.y1P ((za5 = some r)) ([]) ([]) ?_ ?_
 ·skip
  refine WC.b (WC.a (WL.pu rfl (WL.qA 7 (yG Tryz.underlying173 rfl) (WL.pu rfl (WL.nil (WX.a (WC.block (WC.y2V (fun (zgu : Nat) (z2o : Int)=>(y1g z2D z2E za5 zgu z2o = some r)) (fun zgu z2o=>[(0,(.slice zsm z2D.length zsn)),(3,(.pointer (some ⟨zAt,0,none⟩))),(7,(.int .i64 ((z2D.length : Nat) : Int))),(8,(.int .i64 z2o))]) (fun zgu z2o=>[stb zAt 171 [(.int .i64 z2E.fBurst.fN),(.int .i64 z2E.fBurst.fD),(.int .i64 z2E.fRate.fN),(.int .i64 z2E.fRate.fD)]]) (fun zgu z2o=>zgu) ⟨yz,0⟩ h (.r4 rfl rfl rfl rfl) (.cons .here .nil) ?_))))))))
  rintro zgu z2o h
  obtain ⟨zsl,rfl⟩:=y5D h
  rw [y1g] at h
  refine WC.b (WC.a (WL.pu rfl (WL.nil (WX.a (WC.b (WC.cond rfl (fun zso=>?_) (fun zso=>?_)))))))
  ·replace h:=yo h zso
   refine WC.skip (WX.a (WC.b (WC.block (WC.b (WC.a (WL.pu rfl (WL.pu rfl (WL.nil (WX.a (WC.b ?_))))))))))
   obtain ⟨zKE,h⟩:=yn h
   refine WC.yO (fun i=>[].contains i) [] rfl (WD.qA 0 11 rfl (yf z28 rfl (yh .here) rfl) (WD.pA 1 12 rfl (fun _=>q_m rfl) (WD.pA 2 13 rfl (fun _=>q_m rfl) (WD.znth (j:=3) (dd:=14) (by kernel_rfl) rfl z2j z2k rfl rfl (Z:=Z) (Pr:=(fun r x=>r = y1D x)) z5U rfl rfl zKC zKE ?_))))
   rintro zW5 zW6 zKF zW7 rfl
   refine WD.qA 4 15 rfl (yf z28 rfl (y2v hz.pv zKF) rfl) (WD.pA 5 16 rfl (fun _=>y7g (enc:=y1D) (a:=z2E) (b:=(⟨(⟨(((nth z2D z2o).fBurst).fN),(((nth z2D z2o).fBurst).fD)⟩ : z1),(⟨(((nth z2D z2o).fRate).fN),(((nth z2D z2o).fRate).fD)⟩ : z1)⟩ : z2)) zwV rfl rfl) (WD.done (by kernel_rfl) (WX.a (WC.cond rfl (fun zsp=>?_) (fun zsp=>?_)))))
   ·replace h:=yo h zsp
    refine WC.b (WC.a (WL.pu rfl (WL.pu rfl (WL.nil (WX.a (WC.ret (WX.yt (WX.yd (WX.yd (WX.yt (WX.yd ?_)))))))))))
    obtain rfl:=Option.some.inj h
    refine WX.ye Tryz.results186 (.tmp rfl .nil) (fun w hw=>?_)
    exact ⟨yC rfl,hw.sub .nil⟩
   ·replace h:=yp h zsp
    refine WC.skip (WX.yk (WX.a (WC.a (WL.pu rfl (WL.pu rfl (WL.nil ?_))))))
    exact WX.round ⟨zsl,(i64 (z2o + 1))⟩ h (Nat.lt_succ_self _) (.r4 rfl rfl rfl rfl) (.cons .here .nil)
  ·replace h:=yp h zso
   refine WC.exit (WX.yg (WX.yg (WX.yA ?_)))
   exact WX.mid () h .nil .nil
 ·rintro  h
  replace h:=zKD.symm.trans h
  refine WC.b (WC.a (WL.pu rfl (WL.nil (WX.a (WC.ret ?_)))))
  obtain rfl:=Option.some.inj h
  refine WX.ye Tryz.results186 (.tmp rfl .nil) (fun w hw=>?_)
  exact ⟨yC rfl,hw.sub .nil⟩
def y2a (zjI : List z2) (z7J : z2) : Option Bool :=
 (y3g zjI z7J).bind fun zAu=>some (decide (zAu ≥ 0))
theorem y6k (Z : Zp) (zAv : Option Addr) (zAw : Nat) (zjI : List z2) (z7J : z2) (r : Bool)
  (h : y2a zjI z7J = some r) (w₀ : World) (hz : PZ [] w₀ Z)
  (zKG : ZS Z 4 (fun r x=>r = y1D x) zAv zAw zjI) :
  Calls Tryz.prog 179 #[(.slice zAv zjI.length zAw),(.agg #[(.int .i64 z7J.fBurst.fN),(.int .i64 z7J.fBurst.fD),(.int .i64 z7J.fRate.fN),(.int .i64 z7J.fRate.fD)])] w₀ fun e w'=>e = .returned (.bool r) ∧ Hp [] w₀ w' []:=by
 unfold y2a at h
 refine Calls.yJ Tryz.func179 Tryz.ntmps179 ?_
 refine WC.b (WC.a (WL.nA 3 (yH (cs:=[(.int .i64 z7J.fBurst.fN),(.int .i64 z7J.fBurst.fD),(.int .i64 z7J.fRate.fN),(.int .i64 z7J.fRate.fD)]) rfl rfl) ?_))
 intro zW8 _
 refine WL.pu rfl (WL.nil (WX.a (WC.b ?_)))
 obtain ⟨zAu,zKH,h⟩:=z6 h
 refine WC.a (WL.pu rfl (WL.qA 6 (yf z28 rfl (yh .here) rfl) (WL.cA 7 (z8 Tryz.call186 (.r2 rfl rfl)) .nil (cc hz .nil fun w pz ho=>y6V _ _ _ _ _ _ zKH w pz zKG) (WL.pu rfl (WL.pu rfl (WL.nil (WX.a (WC.ret ?_))))))))
 obtain rfl:=Option.some.inj h
 refine WX.ye Tryz.results179 (.tmp rfl .nil) (fun w hw=>?_)
 exact ⟨yC rfl,hw.sub .nil⟩
def y1i (z7K : z1) (z7L : z1) : Option Int :=
 (y1L z7K).bind fun zAx=>(if !zAx then some true else (y1L z7L).bind fun zAy=>some (!zAy)).bind fun zsq=>if zsq then some 0 else if decide ((i64 (z7K.fN * z7L.fD)) < (i64 (z7L.fN * z7K.fD))) then some (-1) else if decide ((i64 (z7K.fN * z7L.fD)) > (i64 (z7L.fN * z7K.fD))) then some 1 else some 0
theorem y4d (Z : Zp)  (z7K : z1) (z7L : z1) (r : Int)
  (h : y1i z7K z7L = some r) (w₀ : World) (hz : PZ [] w₀ Z) :
  Calls Tryz.prog 79 #[(.agg #[(.int .i64 z7K.fN),(.int .i64 z7K.fD)]),(.agg #[(.int .i64 z7L.fN),(.int .i64 z7L.fD)])] w₀ fun e w'=>e = .returned (.int .i64 r) ∧ Hp [] w₀ w' []:=by
 unfold y1i at h
 refine Calls.yJ Tryz.func79 Tryz.ntmps79 ?_
 refine WC.b (WC.a (WL.nA 2 (yH (cs:=[(.int .i64 z7K.fN),(.int .i64 z7K.fD)]) rfl rfl) ?_))
 intro zW9 _
 refine WL.nA 3 (yH (cs:=[(.int .i64 z7L.fN),(.int .i64 z7L.fD)]) rfl rfl) ?_
 intro zWa _
 refine WL.pu rfl (WL.nil (WX.a (WC.b (WC.b ?_))))
 obtain ⟨zAx,zKI,h⟩:=z6 h
 obtain ⟨zsq,zAz,h⟩:=z6 h
 refine WC.a (WL.qA 7 (yf zb rfl (yh .h1) rfl) (WL.cA 8 (z8 Tryz.call80 (.cons rfl .nil)) .nil (cc hz .nil fun w pz ho=>y2n _ _ _ zKI w pz ) (WL.pu rfl (WL.pu rfl (WL.seg false 3 10 (B:=zsq) rfl rfl rfl rfl rfl rfl (fun h=>(Option.some.inj (yo zAz h)).symm) (fun _ zKJ=>?_) ?_)))))
 ·skip
  have zjJ:=yp zAz zKJ
  obtain ⟨zAy,zKK,zjJ⟩:=z6 zjJ
  replace zjJ:=Option.some.inj zjJ
  refine WL.qA 11 (yf zb rfl (yh .here) rfl) (WL.cA 12 (z8 Tryz.call80 (.cons rfl .nil)) .nil (cc hz .nil fun w pz ho=>y2n _ _ _ zKK w pz ) (WL.pu rfl (WL.pu rfl ?_)))
  exact WL.yB zjJ rfl rfl .all
 refine WL.nil (WX.a (WC.cond rfl (fun zsr=>?_) (fun zsr=>?_)))
 ·replace h:=yo h zsr
  refine WC.b (WC.a (WL.pu rfl (WL.nil (WX.a (WC.ret (WX.yd ?_))))))
  obtain rfl:=Option.some.inj h
  refine WX.ye Tryz.results79 (.tmp rfl .nil) (fun w hw=>?_)
  exact ⟨yC rfl,hw.sub .nil⟩
 ·replace h:=yp h zsr
  refine WC.skip (WX.a (WC.b (WC.b (WC.yO (fun i=>[].contains i) [] rfl (WD.pA 0 15 rfl (fun _=>ya y2f rfl rfl) (WD.qA 1 16 rfl (yc yx rfl (ym .h1 rfl)) (WD.pA 2 17 rfl (fun _=>ya y2A rfl rfl) (WD.qA 3 18 rfl (yc yx rfl (ym .here rfl)) (WD.pA 4 19 rfl (fun _=>y6H rfl rfl rfl) (WD.pA 5 20 rfl (fun _=>ya y2f rfl rfl) (WD.qA 6 21 rfl (yc yx rfl (ym .here rfl)) (WD.pA 7 22 rfl (fun _=>ya y2A rfl rfl) (WD.qA 8 23 rfl (yc yx rfl (ym .h1 rfl)) (WD.pA 9 24 rfl (fun _=>y6H rfl rfl rfl) (WD.pA 10 5 rfl (fun _=>q_z rfl) (WD.pA 11 6 rfl (fun _=>q_z rfl) (WD.done (by kernel_rfl) (WX.a (WC.block (WC.b (WC.a (WL.pu rfl (WL.pu rfl (WL.pu rfl (WL.pu rfl (WL.nil (WX.a (WC.cond rfl (fun zss=>?_) (fun zss=>?_)))))))))))))))))))))))))))))
  ·replace h:=yo h zss
   refine WC.b (WC.a (WL.pu rfl (WL.nil (WX.a (WC.ret (WX.yt (WX.yd ?_)))))))
   obtain rfl:=Option.some.inj h
   refine WX.ye Tryz.results79 (.tmp rfl .nil) (fun w hw=>?_)
   exact ⟨yC rfl,hw.sub .nil⟩
  ·replace h:=yp h zss
   refine WC.b (WC.a (WL.pu rfl (WL.pu rfl (WL.pu rfl (WL.pu rfl (WL.nil (WX.a (WC.cond rfl (fun zst=>?_) (fun zst=>?_)))))))))
   ·replace h:=yo h zst
    refine WC.b (WC.a (WL.pu rfl (WL.nil (WX.a (WC.ret (WX.yt (WX.yd ?_)))))))
    obtain rfl:=Option.some.inj h
    refine WX.ye Tryz.results79 (.tmp rfl .nil) (fun w hw=>?_)
    exact ⟨yC rfl,hw.sub .nil⟩
   ·replace h:=yp h zst
    refine WC.skip (WX.yk (WX.a (WC.b (WC.a (WL.pu rfl (WL.nil (WX.a (WC.ret ?_))))))))
    obtain rfl:=Option.some.inj h
    refine WX.ye Tryz.results79 (.tmp rfl .nil) (fun w hw=>?_)
    exact ⟨yC rfl,hw.sub .nil⟩
def y4G (z3P : z2) (z3Q : z2) : Option Bool :=
 (if decide (z3P ≠ z3Q) then (y1i z3P.fBurst z3Q.fBurst).bind fun zAA=>some (decide (zAA ≤ 0)) else some false).bind fun zsu=>(if zsu then (y1i z3P.fRate z3Q.fRate).bind fun zAB=>some (decide (zAB ≤ 0)) else some false).bind fun zsv=>some zsv
theorem ybm (Z : Zp)  (z3P : z2) (z3Q : z2) (r : Bool)
  (h : y4G z3P z3Q = some r) (w₀ : World) (hz : PZ [] w₀ Z) :
  Calls Tryz.prog 181 #[(.agg #[(.int .i64 z3P.fBurst.fN),(.int .i64 z3P.fBurst.fD),(.int .i64 z3P.fRate.fN),(.int .i64 z3P.fRate.fD)]),(.agg #[(.int .i64 z3Q.fBurst.fN),(.int .i64 z3Q.fBurst.fD),(.int .i64 z3Q.fRate.fN),(.int .i64 z3Q.fRate.fD)])] w₀ fun e w'=>e = .returned (.bool r) ∧ Hp [] w₀ w' []:=by
 unfold y4G at h
 refine Calls.yJ Tryz.func181 Tryz.ntmps181 ?_
 refine WC.b (WC.a (WL.nA 2 (yH (cs:=[(.int .i64 z3P.fBurst.fN),(.int .i64 z3P.fBurst.fD),(.int .i64 z3P.fRate.fN),(.int .i64 z3P.fRate.fD)]) rfl rfl) ?_))
 intro zWb _
 refine WL.nA 3 (yH (cs:=[(.int .i64 z3Q.fBurst.fN),(.int .i64 z3Q.fBurst.fD),(.int .i64 z3Q.fRate.fN),(.int .i64 z3Q.fRate.fD)]) rfl rfl) ?_
 intro zWc _
 refine WL.pu rfl (WL.nil (WX.a (WC.b ?_)))
 obtain ⟨zsu,zAC,h⟩:=z6 h
 obtain ⟨zsv,zAD,h⟩:=z6 h
 refine WC.a (WL.qA 5 (yf z28 rfl (yh .h1) rfl) (WL.qA 6 (yf z28 rfl (yh .here) rfl) (WL.qA 7 (ya0 (enc:=y1D) (a:=z3P) (b:=z3Q) zwV rfl rfl) (WL.pu rfl (WL.seg true 6 8 (B:=zsu) rfl rfl rfl rfl rfl rfl (fun h=>(Option.some.inj (yp zAC h)).symm) (fun _ zKL=>?_) ?_)))))
 ·skip
  have zjK:=yo zAC zKL
  obtain ⟨zAA,zKM,zjK⟩:=z6 zjK
  replace zjK:=Option.some.inj zjK
  refine WL.qA 9 (ya y4z rfl rfl) (WL.qA 10 (yT (cs:=[(.int .i64 z3P.fBurst.fN),(.int .i64 z3P.fBurst.fD)]) zb rfl rfl (y31 (s:=2) .h1 rfl)) (WL.qA 11 (ya y4z rfl rfl) (WL.qA 12 (yT (cs:=[(.int .i64 z3Q.fBurst.fN),(.int .i64 z3Q.fBurst.fD)]) zb rfl rfl (y31 (s:=2) .here rfl)) (WL.cA 13 (z8 Tryz.call79 (.r2 rfl rfl)) .nil (cc hz .nil fun w pz ho=>y4d _ _ _ _ zKM w pz ) (WL.pu rfl (WL.pu rfl ?_))))))
  exact WL.yB zjK rfl rfl .all
 refine WL.pu rfl (WL.seg true 6 16 (B:=zsv) rfl rfl rfl rfl rfl rfl (fun h=>(Option.some.inj (yp zAD h)).symm) (fun _ zKN=>?_) ?_)
 ·skip
  have zjL:=yo zAD zKN
  obtain ⟨zAB,zKO,zjL⟩:=z6 zjL
  replace zjL:=Option.some.inj zjL
  refine WL.qA 17 (ya y5A rfl rfl) (WL.qA 18 (yT (cs:=[(.int .i64 z3P.fRate.fN),(.int .i64 z3P.fRate.fD)]) zb rfl rfl (y31 (s:=2) .h1 rfl)) (WL.qA 19 (ya y5A rfl rfl) (WL.qA 20 (yT (cs:=[(.int .i64 z3Q.fRate.fN),(.int .i64 z3Q.fRate.fD)]) zb rfl rfl (y31 (s:=2) .here rfl)) (WL.cA 21 (z8 Tryz.call79 (.r2 rfl rfl)) .nil (cc hz .nil fun w pz ho=>y4d _ _ _ _ zKO w pz ) (WL.pu rfl (WL.pu rfl ?_))))))
  exact WL.yB zjL rfl rfl .all
 refine WL.pu rfl (WL.nil (WX.a (WC.ret ?_)))
 obtain rfl:=Option.some.inj h
 refine WX.ye Tryz.results181 (.tmp rfl .nil) (fun w hw=>?_)
 exact ⟨yC rfl,hw.sub .nil⟩
def y4X (z7M : z2) (ze6 : z2) : Option Bool :=
 (y4G z7M ze6).bind fun zAE=>some zAE
theorem ycC (Z : Zp) (zAF : Addr) (z7M : z2) (ze6 : z2) (r : Bool)
  (h : y4X z7M ze6 = some r) (w₀ : World) (hz : PZ [] w₀ Z)
  (zKP : ZC Z zAF [(.int .i64 ze6.fBurst.fN),(.int .i64 ze6.fBurst.fD),(.int .i64 ze6.fRate.fN),(.int .i64 ze6.fRate.fD)]) :
  Calls Tryz.prog 180 #[(.agg #[(.int .i64 z7M.fBurst.fN),(.int .i64 z7M.fBurst.fD),(.int .i64 z7M.fRate.fN),(.int .i64 z7M.fRate.fD)]),(.pointer (some zAF))] w₀ fun e w'=>e = .returned (.bool r) ∧ Hp [] w₀ w' []:=by
 unfold y4X at h
 refine Calls.yJ Tryz.func180 Tryz.ntmps180 ?_
 refine WC.b (WC.a (WL.nA 2 (yH (cs:=[(.int .i64 z7M.fBurst.fN),(.int .i64 z7M.fBurst.fD),(.int .i64 z7M.fRate.fN),(.int .i64 z7M.fRate.fD)]) rfl rfl) ?_))
 intro zWd _
 refine WL.pu rfl (WL.nil (WX.a (WC.b ?_)))
 obtain ⟨zAE,zKQ,h⟩:=z6 h
 refine WC.a (WL.qA 4 (yf z28 rfl (yh .here) rfl) (WL.qA 5 (yf z28 rfl (y2v hz.pv zKP) rfl) (WL.cA 6 (z8 Tryz.call181 (.r2 rfl rfl)) .nil (cc hz .nil fun w pz ho=>ybm _ _ _ _ zKQ w pz ) (WL.pu rfl (WL.nil (WX.a (WC.ret ?_)))))))
 obtain rfl:=Option.some.inj h
 refine WX.ye Tryz.results180 (.tmp rfl .nil) (fun w hw=>?_)
 exact ⟨yC rfl,hw.sub .nil⟩
def y5N (z64 : z2) (z65 : z2) : Option Int :=
 (y1i z64.fBurst z65.fBurst).bind fun zAG=>some zAG
theorem ycD (Z : Zp)  (z64 : z2) (z65 : z2) (r : Int)
  (h : y5N z64 z65 = some r) (w₀ : World) (hz : PZ [] w₀ Z) :
  Calls Tryz.prog 183 #[(.agg #[(.int .i64 z64.fBurst.fN),(.int .i64 z64.fBurst.fD),(.int .i64 z64.fRate.fN),(.int .i64 z64.fRate.fD)]),(.agg #[(.int .i64 z65.fBurst.fN),(.int .i64 z65.fBurst.fD),(.int .i64 z65.fRate.fN),(.int .i64 z65.fRate.fD)])] w₀ fun e w'=>e = .returned (.int .i64 r) ∧ Hp [] w₀ w' []:=by
 unfold y5N at h
 refine Calls.yJ Tryz.func183 Tryz.ntmps183 ?_
 refine WC.b (WC.a (WL.nA 2 (yH (cs:=[(.int .i64 z64.fBurst.fN),(.int .i64 z64.fBurst.fD),(.int .i64 z64.fRate.fN),(.int .i64 z64.fRate.fD)]) rfl rfl) ?_))
 intro zWe _
 refine WL.nA 3 (yH (cs:=[(.int .i64 z65.fBurst.fN),(.int .i64 z65.fBurst.fD),(.int .i64 z65.fRate.fN),(.int .i64 z65.fRate.fD)]) rfl rfl) ?_
 intro zWf _
 refine WL.pu rfl (WL.nil (WX.a (WC.b ?_)))
 obtain ⟨zAG,zKR,h⟩:=z6 h
 refine WC.a (WL.qA 5 (ya y4z rfl rfl) (WL.qA 6 (yT (cs:=[(.int .i64 z64.fBurst.fN),(.int .i64 z64.fBurst.fD)]) zb rfl rfl (y31 (s:=2) .h1 rfl)) (WL.qA 7 (ya y4z rfl rfl) (WL.qA 8 (yT (cs:=[(.int .i64 z65.fBurst.fN),(.int .i64 z65.fBurst.fD)]) zb rfl rfl (y31 (s:=2) .here rfl)) (WL.cA 9 (z8 Tryz.call79 (.r2 rfl rfl)) .nil (cc hz .nil fun w pz ho=>y4d _ _ _ _ zKR w pz ) (WL.pu rfl (WL.nil (WX.a (WC.ret ?_)))))))))
 obtain rfl:=Option.some.inj h
 refine WX.ye Tryz.results183 (.tmp rfl .nil) (fun w hw=>?_)
 exact ⟨yC rfl,hw.sub .nil⟩
theorem zKS : ∀ w,(isAgg (Tryz.y37.t 24)).run Tryz.prog w = .ok true w:=fun _=>by kernel_rfl
theorem zKT : ∀ w,(Go.sizeOf (Tryz.y37.t 24)).run Tryz.prog w = .ok 4 w:=fun _=>by kernel_rfl
def y3r (z4s : List z2) (zjM : Int) (zjN : Int) (zgv : Int) (ze7 : z2 → z2 → Option Int) : Option (List z2):=chk ((zjM = 0 ∧ zjN = ((z4s.length : Nat) : Int)) ∧ (0 ≤ zgv ∧ zgv < 4611686018427387904 ∧ z4s.length < 4611686018427387904)) (chk (y7h ze7 (yZ ze7 z4s) = true) (some (yZ ze7 z4s)))
theorem y73 (Z : Zp) (ze8 : Option Addr) (ze9 : Nat) (zjO : FuncId) (zsw : List Value) (z4s : List z2) (zjM : Int) (zjN : Int) (zgv : Int) (ze7 : z2 → z2 → Option Int) (r : List z2) (w₀ : World) (hz : PZ (fps [row (.slice ze8 z4s.length ze9) 171 4 (z4s.flatMap y1D)]) w₀ Z)
  (zKU : ∀ args w,(callFunc zjO args).run Tryz.prog w = .ok (.enter zjO args) w)
  (zKV : ∀ w : World,PZ [] w Z → ∀ (x0 : z2) (x1 : z2) (r : Int),ze7 x0 x1 = some r → Calls Tryz.prog zjO (([(.agg #[(.int .i64 x0.fBurst.fN),(.int .i64 x0.fBurst.fD),(.int .i64 x0.fRate.fN),(.int .i64 x0.fRate.fD)]),(.agg #[(.int .i64 x1.fBurst.fN),(.int .i64 x1.fBurst.fD),(.int .i64 x1.fRate.fN),(.int .i64 x1.fRate.fD)])] : List Value) ++ zsw).toArray w fun e w'=>e = .returned (.int .i64 r) ∧ Hp [] w w' [])
  (h : y3r z4s zjM zjN zgv ze7 = some r) (hown : Hp (fps [row (.slice ze8 z4s.length ze9) 171 4 (z4s.flatMap y1D)]) w₀ w₀ [row (.slice ze8 z4s.length ze9) 171 4 (z4s.flatMap y1D)]) :
  Calls Tryz.prog 187 #[(.slice ze8 z4s.length ze9),(.int .i64 zjM),(.int .i64 zjN),(.int .i64 zgv),(.func (.func zjO) #[] (zsw).toArray)] w₀ fun e w'=>e = .returned (.tuple #[]) ∧ (r.length = z4s.length) ∧ Hp (fps [row (.slice ze8 z4s.length ze9) 171 4 (z4s.flatMap y1D)]) w₀ w' [row (.slice ze8 r.length ze9) 171 4 (r.flatMap y1D)]:=by
 obtain ⟨h0,h⟩:=yn h
 obtain ⟨h1,h⟩:=yn h
 have hr:=(Option.some.inj h).symm
 exact y84 (P:=Tryz.prog) (f:=187) (e:=171) (k:=4) (enc:=y1D) (fun _=>rfl) (by decide) yeu (fun β _ enc cf g cb hO blk off cap d0 w0 eg hC R=>Tryz.y7S 4 zKS zKT enc cf g cb hO blk off cap d0 w0 eg hC R) (Tryz.y7L (α:=Unit)) hz zKU zKV h0 h1 hr hown
def y1h (z3R : List z2) (zgw : z2 → z2 → Option Int) : Option (List z2) :=
 (y40 (u64 ((z3R.length : Nat) : Int))).bind fun zmz=>(y3r z3R 0 ((z3R.length : Nat) : Int) zmz zgw).bind fun zmA=>some zmA
theorem y6l (Z : Zp) (zc2 : Option Addr) (zc3 : Nat) (zgx : FuncId) (zmB : List Value) (z3R : List z2) (zgw : z2 → z2 → Option Int) (r : List z2)
  (h : y1h z3R zgw = some r) (w₀ : World) (hz : PZ (fps [row (.slice zc2 z3R.length zc3) 171 4 (z3R.flatMap y1D)]) w₀ Z)
  (zKW : ∀ args w,(callFunc zgx args).run Tryz.prog w = .ok (.enter zgx args) w)
  (zKX : ∀ w : World,PZ [] w Z → ∀ (x0 : z2) (x1 : z2) (r : Int),zgw x0 x1 = some r → Calls Tryz.prog zgx (([(.agg #[(.int .i64 x0.fBurst.fN),(.int .i64 x0.fBurst.fD),(.int .i64 x0.fRate.fN),(.int .i64 x0.fRate.fD)]),(.agg #[(.int .i64 x1.fBurst.fN),(.int .i64 x1.fBurst.fD),(.int .i64 x1.fRate.fN),(.int .i64 x1.fRate.fD)])] : List Value) ++ zmB).toArray w fun e w'=>e = .returned (.int .i64 r) ∧ Hp [] w w' [])
  (hown : Hp (fps [row (.slice zc2 z3R.length zc3) 171 4 (z3R.flatMap y1D)]) w₀ w₀ [row (.slice zc2 z3R.length zc3) 171 4 (z3R.flatMap y1D)]) :
  Calls Tryz.prog 182 #[(.slice zc2 z3R.length zc3),(.func (.func zgx) #[] (zmB).toArray)] w₀ fun e w'=>e = .returned (.tuple #[]) ∧ (r.length = z3R.length) ∧ Hp (fps [row (.slice zc2 z3R.length zc3) 171 4 (z3R.flatMap y1D)]) w₀ w' [row (.slice zc2 r.length zc3) 171 4 (r.flatMap y1D)]:=by
 unfold y1h at h
 refine Calls.oh2 Tryz.func182 Tryz.ntmps182 hown ?_
 refine WC.b (WC.a (WL.pu rfl (WL.qA 6 (yG Tryz.underlying173 rfl) (WL.pu rfl (WL.nil (WX.a ?_))))))
 obtain ⟨zmz,zKY,h⟩:=z6 h
 obtain ⟨zmA,zKZ,h⟩:=z6 h
 refine WC.a (WL.pu rfl (WL.pu rfl (WL.pu rfl (WL.qA 10 (y77 Tryz.underlying3 Tryz.underlying142 rfl rfl) (WL.cA 11 (z8 Tryz.call48 (.cons rfl .nil)) .nil (cc hz .nil fun w pz ho=>y7G (Z:=_)  (z6F:=(u64 ((z3R.length : Nat) : Int))) (r:=zmz) w pz  zKY) (WL.pu rfl (WL.y4R (dd:=13) rfl rfl rfl (z8 Tryz.call187 (.r5 rfl rfl rfl rfl rfl)) (.cons .here .nil) (cc hz (.cons .here .nil) fun w pz ho=>y73 (Z:=_) (ze8:=zc2) (ze9:=zc3) (zjO:=zgx) (zsw:=zmB) (z4s:=z3R) (zjM:=0) (zjN:=((z3R.length : Nat) : Int)) (zgv:=zmz) (ze7:=zgw) (r:=zmA) w pz zKW zKX zKZ ho) ?_)))))))
 rintro  zAH
 refine WL.repin (i:=0) rfl (u:=(.slice zc2 zmA.length zc3)) (y5W zAH.symm) (WL.nil ?_)
 obtain rfl:=Option.some.inj h
 refine WX.y4Q Tryz.results182 .nil (fun w hw=>?_)
 exact ⟨y7f,(zAH.trans rfl),hw.sub (.cons .here .nil)⟩
def y42 (zG : List z2) (za6 : (List z2) → Option (List z2)) : Nat → (List z2) → Int → Option (List z2)
 | 0,_,_=>none
 | zsx + 1,z2S,zM=>if decide (zM < ((zG.length : Nat) : Int)) then jp1 (fun (z7N : List z2)=>y42 zG za6 zsx z7N (i64 (zM + 1))) fun zmC=>chk ((0 : Int) ≤ zM ∧ zM < ((zG.length : Nat) : Int)) ((y2a z2S (⟨(⟨(((nth zG zM).fBurst).fN),(((nth zG zM).fBurst).fD)⟩ : z1),(⟨(((nth zG zM).fRate).fN),(((nth zG zM).fRate).fD)⟩ : z1)⟩ : z2)).bind fun zAI=>(if !zAI then (y1p zG (fun (y0 : z2)=>y4X y0 (⟨(⟨(((nth zG zM).fBurst).fN),(((nth zG zM).fBurst).fD)⟩ : z1),(⟨(((nth zG zM).fRate).fN),(((nth zG zM).fRate).fD)⟩ : z1)⟩ : z2))).bind fun zAJ=>some (!zAJ) else some false).bind fun zsy=>if zsy then chk ((((z2S ++ ([(⟨(⟨(((nth zG zM).fBurst).fN),(((nth zG zM).fBurst).fD)⟩ : z1),(⟨(((nth zG zM).fRate).fN),(((nth zG zM).fRate).fD)⟩ : z1)⟩ : z2)] : List z2)).length : Nat) : Int) * 32 ≤ 140737488355328 ∧ (((z2S ++ ([(⟨(⟨(((nth zG zM).fBurst).fN),(((nth zG zM).fBurst).fD)⟩ : z1),(⟨(((nth zG zM).fRate).fN),(((nth zG zM).fRate).fD)⟩ : z1)⟩ : z2)] : List z2)).length : Nat) : Int) ≤ 4611686018427387904) (zmC (z2S ++ ([(⟨(⟨(((nth zG zM).fBurst).fN),(((nth zG zM).fBurst).fD)⟩ : z1),(⟨(((nth zG zM).fRate).fN),(((nth zG zM).fRate).fD)⟩ : z1)⟩ : z2)] : List z2))) else zmC z2S) else za6 z2S
theorem ya7 {n : Nat} {zG : List z2} {za6 : (List z2) → Option (List z2)} {z2S : List z2} {zM : Int} {r : List z2} (h : y42 zG za6 n z2S zM = some r) : ∃ m,n = m + 1:=by
 cases n with
 | zero=>cases h
 | succ m=>exact ⟨m,rfl⟩
def y6E (zG : List z2) : Option (List z2) :=
 jp1 (fun (z8g : List z2)=>(y1h z8g (fun (y0 : z2) (y1 : z2)=>y5N y0 y1)).bind fun zsz=>some zsz) fun za6=>y42 zG za6 yz ([] : List z2) 0
theorem ydD (Z : Zp) (zgy : Option Addr) (zgz : Nat) (zG : List z2) (r : List z2)
  (h : y6E zG = some r) (w₀ : World) (hz : PZ [] w₀ Z)
  (zAK : ZS Z 4 (fun r x=>r = y1D x) zgy zgz zG) :
  Calls Tryz.prog 169 #[(.slice zgy zG.length zgz)] w₀ fun e w'=>∃ zAL : Option Addr,∃ zAM : Nat,e = .returned (.slice zAL r.length zAM) ∧ True ∧ Hp [] w₀ w' [row (.slice zAL r.length zAM) 171 4 (r.flatMap y1D)]:=by
 unfold y6E at h
 refine Calls.on1 Tryz.func169 Tryz.ntmps169 ?_
 refine WC.b (WC.a (WL.pu rfl (WL.nil (WX.a (WC.b (WC.a (WL.pu rfl (WL.nil (WX.a ?_)))))))))
 obtain ⟨za6,zL0,h⟩:=y1d h
 refine WC.y2u (fun (z8g : List z2) (zea : Option Addr) (zeb : Nat)=>(za6 z8g = some r)) (fun z8g zea zeb=>[(3,(.slice zea z8g.length zeb))]) (fun z8g zea zeb=>[row (.slice zea z8g.length zeb) 171 4 (z8g.flatMap y1D)]) ?_ ?_
 ·skip
  refine WC.b (WC.a (WL.pu rfl (WL.qA 7 (yG Tryz.underlying173 rfl) (WL.pu rfl (WL.nil (WX.a (WC.block (WC.nilRow 171 4 (WC.y5V (fun (zgA : Nat) (z2S : List z2) (zM : Int) (zc4 : Option Addr) (zc5 : Nat)=>(y42 zG za6 zgA z2S zM = some r)) (fun zgA z2S zM zc4 zc5=>[(0,(.slice zgy zG.length zgz)),(3,(.slice zc4 z2S.length zc5)),(6,(.slice zgy zG.length zgz)),(7,(.int .i64 ((zG.length : Nat) : Int))),(8,(.int .i64 zM))]) (fun zgA z2S zM zc4 zc5=>[row (.slice zc4 z2S.length zc5) 171 4 (z2S.flatMap y1D)]) (fun zgA z2S zM zc4 zc5=>zgA) ⟨yz,([] : List z2),0,none,0⟩ h (.r5 rfl rfl rfl rfl rfl) (.cons .here .nil) ?_)))))))))
  rintro zgA z2S zM zc4 zc5 h
  obtain ⟨zsx,rfl⟩:=ya7 h
  rw [y42] at h
  refine WC.b (WC.a (WL.pu rfl (WL.nil (WX.a (WC.b (WC.cond rfl (fun zsA=>?_) (fun zsA=>?_)))))))
  ·replace h:=yo h zsA
   refine WC.skip (WX.a ?_)
   obtain ⟨zmC,zL1,h⟩:=y1d h
   refine WC.y2u (fun (z7N : List z2) (zgB : Option Addr) (zgC : Nat)=>(zmC z7N = some r)) (fun z7N zgB zgC=>[(0,(.slice zgy zG.length zgz)),(3,(.slice zgB z7N.length zgC)),(6,(.slice zgy zG.length zgz)),(7,(.int .i64 ((zG.length : Nat) : Int))),(8,(.int .i64 zM))]) (fun z7N zgB zgC=>[row (.slice zgB z7N.length zgC) 171 4 (z7N.flatMap y1D)]) ?_ ?_
   ·skip
    refine WC.block (WC.b ?_)
    obtain ⟨zL2,h⟩:=yn h
    refine WC.a (WL.znth (dd:=10) rfl rfl (Z:=Z) (Pr:=(fun r x=>r = y1D x)) z5U rfl rfl zAK zL2 ?_)
    rintro zWg zWh zL3 zWi rfl
    refine WL.qA 11 (yf z28 rfl (y2v hz.pv zL3) rfl) (WL.nA 5 (yw (cs:=[(.int .i64 0),(.int .i64 0),(.int .i64 0),(.int .i64 0)]) z9d rfl) ?_)
    intro zL4 _
    refine WL.yj rfl rfl (yl z82 rfl rfl rfl .here rfl rfl rfl) (WL.nil (WX.a (WC.b ?_)))
    obtain ⟨zAI,zL5,h⟩:=z6 h
    obtain ⟨zsy,zAN,h⟩:=z6 h
    refine WC.a (WL.pu rfl (WL.qA 13 (yf z28 rfl (yh .here) rfl) (WL.cA 14 (z8 Tryz.call179 (.r2 rfl rfl)) .nil (ccl hz .nil (.cons .h1 .nil) fun w pz ho la=>y6k _ _ _ _ _ _ zL5 w pz (ZA.row (la _ (.head _) _) (RR.flat (enc:=y1D) (fun _=>rfl) _) ⟨w,pz.1⟩)) (WL.pu rfl (WL.pu rfl (WL.seg true 4 16 (B:=zsy) rfl rfl rfl rfl rfl rfl (fun h=>(Option.some.inj (yp zAN h)).symm) (fun _ zL6=>?_) ?_))))))
    ·skip
     have zjP:=yo zAN zL6
     obtain ⟨zAJ,zL7,zjP⟩:=z6 zjP
     replace zjP:=Option.some.inj zjP
     refine WL.pu rfl (WL.qA 18 (y17 (Eos.caps (l:=[.tmp 5]) (.cons rfl .nil))) (WL.cA 19 (z8 Tryz.call165 (.r2 rfl rfl)) .nil (ccl hz .nil (.cons .here .nil) fun w pz ho la=>y3M _ _ _ (ze2:=180) (zjA:=[(.pointer (some ⟨zL4,0,none⟩))]) _ (ze1:=(fun (y0 : z2)=>y4X y0 (⟨(⟨(((nth zG zM).fBurst).fN),(((nth zG zM).fBurst).fD)⟩ : z1),(⟨(((nth zG zM).fRate).fN),(((nth zG zM).fRate).fD)⟩ : z1)⟩ : z2))) _ zL7 w pz (zAK.mono (Zle.left _ _)) Tryz.call180 (fun w' hz' y0  r  hr=>ycC _ _ _ _ _ hr w' hz' ((la _ (.head _) _).stb))) (WL.pu rfl (WL.pu rfl ?_))))
     exact WL.yB zjP rfl rfl .all
    refine WL.nil (WX.a (WC.cond rfl (fun zsB=>?_) (fun zsB=>?_)))
    ·replace h:=yo h zsB
     obtain ⟨zL8,h⟩:=yn h
     refine WC.a (WL.pu rfl (WL.qA 23 (yf z28 rfl (yh .here) rfl) (WL.nA 24 (yN (cs:=([(⟨(⟨(((nth zG zM).fBurst).fN),(((nth zG zM).fBurst).fD)⟩ : z1),(⟨(((nth zG zM).fRate).fN),(((nth zG zM).fRate).fD)⟩ : z1)⟩ : z2)] : List z2).flatMap y1D) z5U (Eos.parts (l:=[.tmp 23]) (.cons rfl .nil) [0]) (fun _=>by kernel_rfl) rfl (by unfold maxLen; omega)) ?_)))
     intro zWj _
     refine WL.fA 25 (y4S (enc:=y1D) (l1:=z2S) (l2:=([(⟨(⟨(((nth zG zM).fBurst).fN),(((nth zG zM).fBurst).fD)⟩ : z1),(⟨(((nth zG zM).fRate).fN),(((nth zG zM).fRate).fD)⟩ : z1)⟩ : z2)] : List z2)) z5U rfl rfl .h2 (fun _=>rfl) rfl rfl (y3C .here) (y5d yeu _) zL8) ?_
     rintro ⟨zL9,zLa⟩ _
     refine WL.pu rfl (WL.nil (WX.yk ?_))
     exact WX.mid ⟨(z2S ++ ([(⟨(⟨(((nth zG zM).fBurst).fN),(((nth zG zM).fBurst).fD)⟩ : z1),(⟨(((nth zG zM).fRate).fN),(((nth zG zM).fRate).fD)⟩ : z1)⟩ : z2)] : List z2)),zL9,zLa⟩ h (.r5 rfl rfl rfl rfl rfl) (.cons .here .nil)
    ·replace h:=yp h zsB
     refine WC.skip (WX.yk ?_)
     exact WX.mid ⟨z2S,zc4,zc5⟩ h (.r5 rfl rfl rfl rfl rfl) (.cons .h1 .nil)
   ·rintro z7N zgB zgC h
    replace h:=(zL1 z7N).symm.trans h
    refine WC.a (WL.pu rfl (WL.pu rfl (WL.nil ?_)))
    exact WX.round ⟨zsx,z7N,(i64 (zM + 1)),zgB,zgC⟩ h (Nat.lt_succ_self _) (.r5 rfl rfl rfl rfl rfl) (.cons .here .nil)
  ·replace h:=yp h zsA
   refine WC.exit (WX.yg (WX.yg (WX.yA ?_)))
   exact WX.mid ⟨z2S,zc4,zc5⟩ h (.cons rfl .nil) (.cons .here .nil)
 ·rintro z8g zea zeb h
  replace h:=(zL0 z8g).symm.trans h
  refine WC.b ?_
  obtain ⟨zsz,zLb,h⟩:=z6 h
  refine WC.a (WL.pu rfl (WL.y4R (dd:=28) rfl rfl rfl (z8 Tryz.call182 (.r2 rfl rfl)) (.cons .here .nil) (cc hz (.cons .here .nil) fun w pz ho=>y6l _ _ _ (zgx:=183) (zmB:=[]) _ (zgw:=(fun (y0 : z2) (y1 : z2)=>y5N y0 y1)) _ zLb w pz Tryz.call183 (fun w' hz' y0 y1  r  hr=>ycD _ _ _ _ hr w' hz' ) ho) ?_))
  rintro  zLc
  refine WL.repin (i:=3) rfl (u:=(.slice zea zsz.length zeb)) (y5W zLc.symm) (WL.nil (WX.a (WC.b (WC.a (WL.pu rfl (WL.pu rfl (WL.nil (WX.a (WC.ret ?_)))))))))
  obtain rfl:=Option.some.inj h
  refine WX.ye Tryz.results169 (.tmp rfl .nil) (fun w hw=>?_)
  exact ⟨zea,zeb,yC rfl,trivial,hw.sub (.cons .here .nil)⟩
def y6a (zgD : List z2) (zgE : List z2) : Option (List z2 × List z2) :=
 some (zgD,zgE)
theorem ydg (Z : Zp) (zmD : Option Addr) (zmE : Nat) (zmF : Option Addr) (zmG : Nat) (zgD : List z2) (zgE : List z2) (r : List z2 × List z2)
  (h : y6a zgD zgE = some r) (w₀ : World) (hz : PZ [] w₀ Z)
  (zLd : ZS Z 4 (fun r x=>r = y1D x) zmD zmE zgD)
  (zLe : ZS Z 4 (fun r x=>r = y1D x) zmF zmG zgE) :
  Calls Tryz.prog 170 #[(.slice zmD zgD.length zmE),(.slice zmF zgE.length zmG)] w₀ fun e w'=>∃ zAO : Nat,∃ zAP : Nat,∃ zAQ : Option Addr,∃ zAR : Nat,∃ zAS : Option Addr,∃ zAT : Nat,e = .returned (.func (.func 184) #[] #[(.pointer (some ⟨zAO,0,none⟩)),(.pointer (some ⟨zAP,0,none⟩))]) ∧ ((ZS Z 4 (fun r x=>r = y1D x) zAQ zAR r.1) ∧ (ZS Z 4 (fun r x=>r = y1D x) zAS zAT r.2)) ∧ Hp [] w₀ w' [stb zAO 173 [(.slice zAQ r.1.length zAR)],stb zAP 173 [(.slice zAS r.2.length zAT)]]:=by
 unfold y6a at h
 refine Calls.yJ Tryz.func170 Tryz.ntmps170 ?_
 refine WC.b (WC.a (WL.nA 2 (yH (cs:=[(.slice zmD zgD.length zmE)]) rfl rfl) ?_))
 intro zLf _
 refine WL.nA 3 (yH (cs:=[(.slice zmF zgE.length zmG)]) rfl rfl) ?_
 intro zLg _
 refine WL.pu rfl (WL.nil (WX.a (WC.b (WC.a (WL.qA 5 (y17 (Eos.caps (l:=[.tmp 2,.tmp 3]) (.r2 rfl rfl))) (WL.pu rfl (WL.nil (WX.a (WC.ret ?_)))))))))
 obtain rfl:=Option.some.inj h
 refine WX.ye Tryz.results170 (.tmp rfl .nil) (fun w hw=>?_)
 exact ⟨zLf,zLg,zmD,zmE,zmF,zmG,yC rfl,⟨zLd,zLe⟩,hw.sub (.s2 .h1 .here)⟩
def y3c (zC : Type) (z1F : List z2) (z4t : (z2 × z2) → zC → Option (Bool × zC)) (z1i : List z2) (z1p : Int) (za7 : zC → Option zC) : Nat → Int → zC → Option zC
 | 0,_,_=>none
 | zsC + 1,z2F,z4R=>if decide (z2F < ((z1F.length : Nat) : Int)) then chk ((0 : Int) ≤ z2F ∧ z2F < ((z1F.length : Nat) : Int)) ((z4t ((⟨(⟨(((nth z1i z1p).fBurst).fN),(((nth z1i z1p).fBurst).fD)⟩ : z1),(⟨(((nth z1i z1p).fRate).fN),(((nth z1i z1p).fRate).fD)⟩ : z1)⟩ : z2),(⟨(⟨(((nth z1F z2F).fBurst).fN),(((nth z1F z2F).fBurst).fD)⟩ : z1),(⟨(((nth z1F z2F).fRate).fN),(((nth z1F z2F).fRate).fD)⟩ : z1)⟩ : z2)) z4R).bind fun zec=>if !zec.1 then some zec.2 else y3c zC z1F z4t z1i z1p za7 zsC (i64 (z2F + 1)) zec.2) else za7 z4R
theorem y94 {n : Nat} {zC : Type} {z1F : List z2} {z4t : (z2 × z2) → zC → Option (Bool × zC)} {z1i : List z2} {z1p : Int} {za7 : zC → Option zC} {z2F : Int} {z4R : zC} {r : zC} (h : y3c zC z1F z4t z1i z1p za7 n z2F z4R = some r) : ∃ m,n = m + 1:=by
 cases n with
 | zero=>cases h
 | succ m=>exact ⟨m,rfl⟩
def y3d (zC : Type) (z1i : List z2) (z1F : List z2) (z4t : (z2 × z2) → zC → Option (Bool × zC)) (za8 : zC → Option zC) : Nat → Int → zC → Option zC
 | 0,_,_=>none
 | zsD + 1,z1p,z5A=>if decide (z1p < ((z1i.length : Nat) : Int)) then jp1 (fun (z8h : zC)=>y3d zC z1i z1F z4t za8 zsD (i64 (z1p + 1)) z8h) fun zsE=>chk ((0 : Int) ≤ z1p ∧ z1p < ((z1i.length : Nat) : Int)) (jp1 (fun (z8i : zC)=>zsE z8i) fun za7=>y3c zC z1F z4t z1i z1p za7 yz 0 z5A) else za8 z5A
theorem y95 {n : Nat} {zC : Type} {z1i : List z2} {z1F : List z2} {z4t : (z2 × z2) → zC → Option (Bool × zC)} {za8 : zC → Option zC} {z1p : Int} {z5A : zC} {r : zC} (h : y3d zC z1i z1F z4t za8 n z1p z5A = some r) : ∃ m,n = m + 1:=by
 cases n with
 | zero=>cases h
 | succ m=>exact ⟨m,rfl⟩
def y4x (zC : Type) (z4t : (z2 × z2) → zC → Option (Bool × zC)) (s0_32953 : zC) (z1i : List z2) (z1F : List z2) : Option zC :=
 jp1 (fun (za9 : zC)=>some za9) fun za8=>y3d zC z1i z1F z4t za8 yz 0 s0_32953
theorem yca (Z : Zp) (zC : Type) (zed : Nat) (z7O : Type) (z5B : z7O → zC → Asrt) (zaa : z7O → zC → Prop) (zee : z7O) (zsF : Addr) (zef : Option Addr) (zeg : Nat) (zeh : Addr) (zmH : Option Addr) (zmI : Nat) (z4t : (z2 × z2) → zC → Option (Bool × zC)) (s0_32953 : zC) (z1i : List z2) (z1F : List z2) (r : zC) (w₀ : World) (hz : PZ (fps [z5B zee s0_32953]) w₀ Z)
  (zLh : yaC Tryz.prog Z zed (α:=z2 × z2) (σ:=zC) (G:=z7O) (H:=Unit) (fun h x=>[(.agg #[(.int .i64 x.1.fBurst.fN),(.int .i64 x.1.fBurst.fD),(.int .i64 x.1.fRate.fN),(.int .i64 x.1.fRate.fD)]),(.agg #[(.int .i64 x.2.fBurst.fN),(.int .i64 x.2.fBurst.fD),(.int .i64 x.2.fRate.fN),(.int .i64 x.2.fRate.fD)])]) (fun h x=>[]) z4t z5B zaa)
  (zLi : zaa zee s0_32953)
  (zLj : ZS Z 4 (fun r x=>r = y1D x) zef zeg z1i)
  (zLk : ZC Z zsF [(.slice zef z1i.length zeg)])
  (zLl : ZS Z 4 (fun r x=>r = y1D x) zmH zmI z1F)
  (zLm : ZC Z zeh [(.slice zmH z1F.length zmI)])
  (h : y4x zC z4t s0_32953 z1i z1F = some r)
  (hown : Hp (fps [z5B zee s0_32953]) w₀ w₀ [z5B zee s0_32953]) :
  Calls Tryz.prog 184 #[(.func (.yield zed) #[] #[]),(.pointer (some zsF)),(.pointer (some zeh))] w₀ fun e w'=>∃ zAU : z7O,e = .returned (.tuple #[]) ∧ (zaa zAU r) ∧ Hp (fps [z5B zee s0_32953]) w₀ w' [z5B zAU r]:=by
 unfold y4x at h
 refine Calls.oh3 Tryz.func184 Tryz.ntmps184 hown ?_
 refine WC.b (WC.a (WL.qA 8 (yc zbb rfl (y57 hz.pv zLk rfl)) (WL.qA 9 (yG Tryz.underlying173 rfl) (WL.pu rfl (WL.nil (WX.a ?_))))))
 obtain ⟨za8,zLn,h⟩:=y1d h
 refine WC.y8E (fun (za9 : zC) (zgF : z7O)=>(za8 za9 = some r) ∧ (zaa zgF za9)) (fun za9 zgF=>[]) (fun za9 zgF=>[z5B zgF za9]) ?_ ?_
 ·skip
  refine WC.block (WC.y5y (fun (zgG : Nat) (z1p : Int) (z5A : zC) (zc6 : z7O)=>(y3d zC z1i z1F z4t za8 zgG z1p z5A = some r) ∧ (zaa zc6 z5A)) (fun zgG z1p z5A zc6=>[(0,(.func (.yield zed) #[] #[])),(2,(.pointer (some zeh))),(8,(.slice zef z1i.length zeg)),(9,(.int .i64 ((z1i.length : Nat) : Int))),(10,(.int .i64 z1p))]) (fun zgG z1p z5A zc6=>[z5B zc6 z5A]) (fun zgG z1p z5A zc6=>zgG) ⟨yz,0,s0_32953,zee⟩ ⟨h,zLi⟩ (.r5 rfl rfl rfl rfl rfl) (.cons .here .nil) ?_)
  rintro zgG z1p z5A zc6 ⟨h,zAV⟩
  obtain ⟨zsD,rfl⟩:=y95 h
  rw [y3d] at h
  refine WC.b (WC.a (WL.pu rfl (WL.nil (WX.a (WC.b (WC.cond rfl (fun zsG=>?_) (fun zsG=>?_)))))))
  ·replace h:=yo h zsG
   refine WC.skip (WX.a ?_)
   obtain ⟨zsE,zLo,h⟩:=y1d h
   refine WC.y4L (fun (z8h : zC) (zgH : z7O)=>(zsE z8h = some r) ∧ (zaa zgH z8h)) (fun z8h zgH=>[(0,(.func (.yield zed) #[] #[])),(2,(.pointer (some zeh))),(8,(.slice zef z1i.length zeg)),(9,(.int .i64 ((z1i.length : Nat) : Int))),(10,(.int .i64 z1p))]) (fun z8h zgH=>[z5B zgH z8h]) ?_ ?_
   ·skip
    refine WC.block (WC.b ?_)
    obtain ⟨zLp,h⟩:=yn h
    refine WC.a (WL.znth (dd:=12) rfl rfl (Z:=Z) (Pr:=(fun r x=>r = y1D x)) z5U rfl rfl zLj zLp ?_)
    rintro zWk zWl zLq zWm rfl
    refine WL.qA 13 (yf z28 rfl (y2v hz.pv zLq) rfl) (WL.nA 5 (yw (cs:=[(.int .i64 0),(.int .i64 0),(.int .i64 0),(.int .i64 0)]) z9d rfl) ?_)
    intro zAW _
    refine WL.yj rfl rfl (yl z82 rfl rfl rfl .here rfl rfl rfl) (WL.nil (WX.a (WC.b (WC.a (WL.qA 14 (yc zbb rfl (y57 hz.pv zLm rfl)) (WL.qA 15 (yG Tryz.underlying173 rfl) (WL.pu rfl (WL.nil (WX.a ?_)))))))))
    obtain ⟨za7,zLr,h⟩:=y1d h
    refine WC.y8E (fun (z8i : zC) (zgI : z7O)=>(za7 z8i = some r) ∧ (zaa zgI z8i)) (fun z8i zgI=>[(0,(.func (.yield zed) #[] #[])),(2,(.pointer (some zeh))),(8,(.slice zef z1i.length zeg)),(9,(.int .i64 ((z1i.length : Nat) : Int))),(10,(.int .i64 z1p))]) (fun z8i zgI=>[z5B zgI z8i]) ?_ ?_
    ·skip
     refine WC.block (WC.y5y (fun (zgJ : Nat) (z2F : Int) (z4R : zC) (z8j : z7O)=>(y3c zC z1F z4t z1i z1p za7 zgJ z2F z4R = some r) ∧ (zaa z8j z4R)) (fun zgJ z2F z4R z8j=>[(0,(.func (.yield zed) #[] #[])),(2,(.pointer (some zeh))),(5,(.pointer (some ⟨zAW,0,none⟩))),(8,(.slice zef z1i.length zeg)),(9,(.int .i64 ((z1i.length : Nat) : Int))),(10,(.int .i64 z1p)),(14,(.slice zmH z1F.length zmI)),(15,(.int .i64 ((z1F.length : Nat) : Int))),(16,(.int .i64 z2F))]) (fun zgJ z2F z4R z8j=>[stb zAW 171 [(.int .i64 (((nth z1i z1p).fBurst).fN)),(.int .i64 (((nth z1i z1p).fBurst).fD)),(.int .i64 (((nth z1i z1p).fRate).fN)),(.int .i64 (((nth z1i z1p).fRate).fD))],z5B z8j z4R]) (fun zgJ z2F z4R z8j=>zgJ) ⟨yz,0,z5A,zc6⟩ ⟨h,zAV⟩ (.r9 rfl rfl rfl rfl rfl rfl rfl rfl rfl) (.s2 .here .here) ?_)
     rintro zgJ z2F z4R z8j ⟨h,zAX⟩
     obtain ⟨zsC,rfl⟩:=y94 h
     rw [y3c] at h
     refine WC.b (WC.a (WL.pu rfl (WL.nil (WX.a (WC.b (WC.cond rfl (fun zsH=>?_) (fun zsH=>?_)))))))
     ·replace h:=yo h zsH
      refine WC.skip (WX.a (WC.b (WC.block (WC.b ?_))))
      obtain ⟨zLs,h⟩:=yn h
      refine WC.a (WL.znth (dd:=18) rfl rfl (Z:=Z) (Pr:=(fun r x=>r = y1D x)) z5U rfl rfl zLl zLs ?_)
      rintro zWn zWo zLt zWp rfl
      refine WL.qA 19 (yf z28 rfl (y2v hz.pv zLt) rfl) (WL.nA 7 (yw (cs:=[(.int .i64 0),(.int .i64 0),(.int .i64 0),(.int .i64 0)]) z9d rfl) ?_)
      intro zWq _
      refine WL.yj rfl rfl (yl z82 rfl rfl rfl .here rfl rfl rfl) (WL.nil (WX.a (WC.b ?_)))
      obtain ⟨zec,zLu,h⟩:=z6 h
      refine WC.a (WL.pu rfl (WL.qA 21 (yf z28 rfl (yh .h1) rfl) (WL.qA 22 (yf z28 rfl (yh .here) rfl) (WL.yield (dd:=23) (x:=((⟨(⟨(((nth z1i z1p).fBurst).fN),(((nth z1i z1p).fBurst).fD)⟩ : z1),(⟨(((nth z1i z1p).fRate).fN),(((nth z1i z1p).fRate).fD)⟩ : z1)⟩ : z2),(⟨(⟨(((nth z1F z2F).fBurst).fN),(((nth z1F z2F).fBurst).fD)⟩ : z1),(⟨(((nth z1F z2F).fRate).fN),(((nth z1F z2F).fRate).fD)⟩ : z1)⟩ : z2))) (h:=()) (g:=z8j) (s:=z4R) (b:=zec.1) (s':=zec.2) zLh rfl rfl rfl (.r2 rfl rfl) ((.cons .h2 .nil) : Sel _ [z5B z8j z4R] _) zLu zAX (fun w hw=>hz.call hw ((.cons .h2 .nil) : Sel _ [z5B z8j z4R] _)) ?_))))
      intro zAY zAZ
      refine WL.pu rfl (WL.nil (WX.a (WC.cond rfl (fun zsI=>?_) (fun zsI=>?_))))
      ·replace h:=yo h zsI
       refine WC.ret (WX.yt (WX.yd (WX.yd (WX.yt (WX.yd (WX.yt (WX.yd (WX.yd (WX.yt (WX.yd ?_))))))))))
       obtain rfl:=Option.some.inj h
       refine WX.ye Tryz.results184 .nil (fun w hw=>?_)
       exact ⟨zAY,y7f,zAZ,hw.sub (.cons .here .nil)⟩
      ·replace h:=yp h zsI
       refine WC.skip (WX.yk (WX.a (WC.a (WL.pu rfl (WL.pu rfl (WL.nil ?_))))))
       exact WX.round ⟨zsC,(i64 (z2F + 1)),zec.2,zAY⟩ ⟨h,zAZ⟩ (Nat.lt_succ_self _) (.r9 rfl rfl rfl rfl rfl rfl rfl rfl rfl) (.s2 .h2 .here)
     ·replace h:=yp h zsH
      refine WC.exit (WX.yg (WX.yg (WX.yA ?_)))
      exact WX.mid ⟨z4R,z8j⟩ ⟨h,zAX⟩ (.r5 rfl rfl rfl rfl rfl) (.cons .h1 .nil)
    ·rintro z8i zgI ⟨h,zLv⟩
     replace h:=(zLr z8i).symm.trans h
     refine WX.yk ?_
     exact WX.mid ⟨z8i,zgI⟩ ⟨h,zLv⟩ (.r5 rfl rfl rfl rfl rfl) (.cons .here .nil)
   ·rintro z8h zgH ⟨h,zLw⟩
    replace h:=(zLo z8h).symm.trans h
    refine WC.a (WL.pu rfl (WL.pu rfl (WL.nil ?_)))
    exact WX.round ⟨zsD,(i64 (z1p + 1)),z8h,zgH⟩ ⟨h,zLw⟩ (Nat.lt_succ_self _) (.r5 rfl rfl rfl rfl rfl) (.cons .here .nil)
  ·replace h:=yp h zsG
   refine WC.exit (WX.yg (WX.yg (WX.yA ?_)))
   exact WX.mid ⟨z5A,zc6⟩ ⟨h,zAV⟩ .nil (.cons .here .nil)
 ·rintro za9 zgF ⟨h,zLx⟩
  replace h:=(zLn za9).symm.trans h
  obtain rfl:=Option.some.inj h
  refine WX.y4Q Tryz.results184 .nil (fun w hw=>?_)
  exact ⟨zgF,y7f,zLx,hw.sub (.cons .here .nil)⟩
def y8x (zei : z1) (zej : z1) : Option (Int × Int) :=
 some ((i64 ((i64 (zei.fN * zej.fD)) - (i64 (zej.fN * zei.fD)))),(i64 (zei.fD * zej.fD)))
theorem yeY (Z : Zp) (zB0 : Addr) (zB1 : Addr) (zei : z1) (zej : z1) (r : Int × Int)
  (h : y8x zei zej = some r) (w₀ : World) (hz : PZ [] w₀ Z)
  (zsJ : ZC Z zB0 [(.int .i64 zei.fN),(.int .i64 zei.fD)])
  (zsK : ZC Z zB1 [(.int .i64 zej.fN),(.int .i64 zej.fD)]) :
  Calls Tryz.prog 142 #[(.pointer (some zB0)),(.pointer (some zB1))] w₀ fun e w'=>e = .returned (.tuple #[(.int .i64 r.1),(.int .i64 r.2)]) ∧ Hp [] w₀ w' []:=by
 unfold y8x at h
 refine Calls.yJ Tryz.func142 Tryz.ntmps142 ?_
 refine WC.b (WC.a (WL.pu rfl (WL.pu rfl (WL.nil (WX.a (WC.b (WC.yO (fun i=>[].contains i) [] rfl (WD.pA 0 4 rfl (fun _=>ya y2f rfl rfl) (WD.qA 1 5 rfl (yc yx rfl (y1k hz.pv zsJ rfl)) (WD.pA 2 6 rfl (fun _=>ya y2A rfl rfl) (WD.qA 3 7 rfl (yc yx rfl (y1k hz.pv zsK rfl)) (WD.pA 4 8 rfl (fun _=>y6H rfl rfl rfl) (WD.pA 5 9 rfl (fun _=>ya y2f rfl rfl) (WD.qA 6 10 rfl (yc yx rfl (y1k hz.pv zsK rfl)) (WD.pA 7 11 rfl (fun _=>ya y2A rfl rfl) (WD.qA 8 12 rfl (yc yx rfl (y1k hz.pv zsJ rfl)) (WD.pA 9 13 rfl (fun _=>y6H rfl rfl rfl) (WD.pA 10 14 rfl (fun _=>ybT rfl rfl rfl) (WD.pA 11 15 rfl (fun _=>ya y2A rfl rfl) (WD.qA 12 16 rfl (yc yx rfl (y1k hz.pv zsJ rfl)) (WD.pA 13 17 rfl (fun _=>ya y2A rfl rfl) (WD.qA 14 18 rfl (yc yx rfl (y1k hz.pv zsK rfl)) (WD.pA 15 19 rfl (fun _=>y6H rfl rfl rfl) (WD.pA 16 2 rfl (fun _=>q_z rfl) (WD.pA 17 3 rfl (fun _=>q_z rfl) (WD.done (by kernel_rfl) (WX.a (WC.ret ?_))))))))))))))))))))))))))))
 obtain rfl:=Option.some.inj h
 refine WX.ye Tryz.results142 (.tmp rfl (.tmp rfl .nil)) (fun w hw=>?_)
 exact ⟨y1Z rfl rfl,hw.sub .nil⟩
def y8c (zc7 : z1) (zc8 : z1) : Option (z1 × Int) :=
 (y1L zc7).bind fun zB2=>(if !zB2 then some true else (y1L zc8).bind fun zB3=>some (!zB3)).bind fun zmJ=>if zmJ then some ((⟨0,0⟩ : z1),2) else (y8x zc7 zc8).bind fun zsL=>(y4O zsL.1 zsL.2).bind fun zsM=>some (zsM.1,zsM.2)
theorem yfu (Z : Zp)  (zc7 : z1) (zc8 : z1) (r : z1 × Int)
  (h : y8c zc7 zc8 = some r) (w₀ : World) (hz : PZ [] w₀ Z) :
  Calls Tryz.prog 105 #[(.string ⟨#[45]⟩),(.agg #[(.int .i64 zc7.fN),(.int .i64 zc7.fD)]),(.agg #[(.int .i64 zc8.fN),(.int .i64 zc8.fD)])] w₀ fun e w'=>e = .returned (.tuple #[(.agg #[(.int .i64 r.1.fN),(.int .i64 r.1.fD)]),(.int .i64 r.2)]) ∧ Hp [] w₀ w' []:=by
 unfold y8c at h
 refine Calls.on3 Tryz.func105 Tryz.ntmps105 ?_
 refine WC.b (WC.a (WL.nA 4 (yH (cs:=[(.int .i64 zc7.fN),(.int .i64 zc7.fD)]) rfl rfl) ?_))
 intro zjQ _
 refine WL.nA 5 (yH (cs:=[(.int .i64 zc8.fN),(.int .i64 zc8.fD)]) rfl rfl) ?_
 intro zjR _
 refine WL.nA 6 (yw (cs:=[(.int .i64 0),(.int .i64 0)]) zH rfl) ?_
 intro zWr _
 refine WL.pu rfl (WL.nil (WX.a (WC.b (WC.b ?_))))
 obtain ⟨zB2,zLy,h⟩:=z6 h
 obtain ⟨zmJ,zB4,h⟩:=z6 h
 refine WC.a (WL.qA 9 (yf zb rfl (yh .h2) rfl) (WL.cA 10 (z8 Tryz.call80 (.cons rfl .nil)) .nil (cc hz .nil fun w pz ho=>y2n _ _ _ zLy w pz ) (WL.pu rfl (WL.pu rfl (WL.seg false 3 12 (B:=zmJ) rfl rfl rfl rfl rfl rfl (fun h=>(Option.some.inj (yo zB4 h)).symm) (fun _ zLz=>?_) ?_)))))
 ·skip
  have zjS:=yp zB4 zLz
  obtain ⟨zB3,zLA,zjS⟩:=z6 zjS
  replace zjS:=Option.some.inj zjS
  refine WL.qA 13 (yf zb rfl (yh .h1) rfl) (WL.cA 14 (z8 Tryz.call80 (.cons rfl .nil)) .nil (cc hz .nil fun w pz ho=>y2n _ _ _ zLA w pz ) (WL.pu rfl (WL.pu rfl ?_)))
  exact WL.yB zjS rfl rfl .all
 refine WL.pu rfl (WL.seg false 7 17 (B:=zmJ) rfl rfl rfl rfl rfl rfl (fun h=>h) (fun _ zLB=>?_) ?_)
 ·skip
  refine WL.pu rfl (WL.qA 19 (yb6 (r:=false) (by decide) rfl rfl) (WL.pu rfl (WL.e rfl rfl rfl (WL.e rfl rfl rfl (WL.e rfl rfl rfl (WL.pu rfl (WL.pu rfl ?_)))))))
  exact WL.yB (Eq.symm zLB) rfl rfl .all
 refine WL.nil (WX.a (WC.cond rfl (fun zsN=>?_) (fun zsN=>?_)))
 ·replace h:=yo h zsN
  refine WC.b (WC.a (WL.qA 26 (yI (v:=(.agg #[(.int .i64 0),(.int .i64 0)])) (Eos.parts (l:=[]) .nil []) (fun _=>by kernel_rfl)) (WL.yj rfl rfl (yl zq rfl rfl rfl .here rfl rfl rfl) (WL.pu rfl (WL.nil (WX.a (WC.ret (WX.yd ?_))))))))
  obtain rfl:=Option.some.inj h
  refine WX.ye Tryz.results105 (.agg rfl zb rfl (yh .here) (.tmp rfl .nil)) (fun w hw=>?_)
  exact ⟨y1Z rfl rfl,hw.sub .nil⟩
 ·replace h:=yp h zsN
  refine WC.skip (WX.a (WC.b (WC.a (WL.nA 27 (y4o Value.string (fun x=>x)) ?_))))
  intro zWs _
  refine WL.qA 28 (y17 (Eos.caps (l:=[.tmp 4,.tmp 5]) (.r2 rfl rfl))) (WL.yj rfl rfl (y3n (k:=⟨#[43]⟩) (v:=(.func (.func 141) #[] #[(.pointer (some ⟨zjQ,0,none⟩)),(.pointer (some ⟨zjR,0,none⟩))])) y3J Tryz.underlying258 rfl rfl rfl rfl .here) (WL.qA 29 (y17 (Eos.caps (l:=[.tmp 4,.tmp 5]) (.r2 rfl rfl))) (WL.yj rfl rfl (y3n (k:=⟨#[45]⟩) (v:=(.func (.func 142) #[] #[(.pointer (some ⟨zjQ,0,none⟩)),(.pointer (some ⟨zjR,0,none⟩))])) y3J Tryz.underlying258 rfl rfl rfl rfl .here) (WL.qA 30 (y17 (Eos.caps (l:=[.tmp 4,.tmp 5]) (.r2 rfl rfl))) (WL.yj rfl rfl (y3n (k:=⟨#[42]⟩) (v:=(.func (.func 143) #[] #[(.pointer (some ⟨zjQ,0,none⟩)),(.pointer (some ⟨zjR,0,none⟩))])) y3J Tryz.underlying258 rfl rfl rfl rfl .here) (WL.qA 31 (y17 (Eos.caps (l:=[.tmp 4,.tmp 5]) (.r2 rfl rfl))) (WL.yj rfl rfl (y3n (k:=⟨#[47]⟩) (v:=(.func (.func 144) #[] #[(.pointer (some ⟨zjQ,0,none⟩)),(.pointer (some ⟨zjR,0,none⟩))])) y3J Tryz.underlying258 rfl rfl rfl rfl .here) (WL.pu rfl (WL.pu rfl (WL.nil (WX.a (WC.b ?_))))))))))))
  obtain ⟨zsL,zLC,h⟩:=z6 h
  obtain ⟨zsM,zLD,h⟩:=z6 h
  refine WC.a (WL.pu rfl (WL.pu rfl (WL.qA 35 (yb5 (k:=⟨#[45]⟩) (dflt:=.nilFunc) (r:=(.func (.func 142) #[] #[(.pointer (some ⟨zjQ,0,none⟩)),(.pointer (some ⟨zjR,0,none⟩))])) y3J Tryz.underlying258 zlz rfl rfl rfl .here (by rfl)) (WL.cA 36 (y2t (l:=[]) Tryz.call142 rfl .nil) .nil (ccl hz .nil (.s2 .h3 .h2) fun w pz ho la=>yeY _ _ _ _ _ _ zLC w pz ((la _ (.head _) _).stb) ((la _ (.tail _ (.head _)) _).stb)) (WL.pu rfl (WL.pu rfl (WL.cA 39 (z8 Tryz.call106 (.r2 rfl rfl)) .nil (cc hz .nil fun w pz ho=>y7I _ _ _ _ zLD w pz ) (WL.pu rfl (WL.pu rfl (WL.yj rfl rfl (yl zq rfl rfl rfl .h1 rfl rfl rfl) (WL.pu rfl (WL.nil (WX.a (WC.ret ?_))))))))))))))
  obtain rfl:=Option.some.inj h
  refine WX.ye Tryz.results105 (.agg rfl zb rfl (yh .here) (.tmp rfl .nil)) (fun w hw=>?_)
  exact ⟨y1Z rfl rfl,hw.sub .nil⟩
def y2b (zek : z1) (zel : z1) : Option (z1 × Int) :=
 (y8c zek zel).bind fun zsO=>some (zsO.1,zsO.2)
theorem y8d (Z : Zp)  (zek : z1) (zel : z1) (r : z1 × Int)
  (h : y2b zek zel = some r) (w₀ : World) (hz : PZ [] w₀ Z) :
  Calls Tryz.prog 74 #[(.agg #[(.int .i64 zek.fN),(.int .i64 zek.fD)]),(.agg #[(.int .i64 zel.fN),(.int .i64 zel.fD)])] w₀ fun e w'=>e = .returned (.tuple #[(.agg #[(.int .i64 r.1.fN),(.int .i64 r.1.fD)]),(.int .i64 r.2)]) ∧ Hp [] w₀ w' []:=by
 unfold y2b at h
 refine Calls.yJ Tryz.func74 Tryz.ntmps74 ?_
 refine WC.b (WC.a (WL.nA 2 (yH (cs:=[(.int .i64 zek.fN),(.int .i64 zek.fD)]) rfl rfl) ?_))
 intro zWt _
 refine WL.nA 3 (yH (cs:=[(.int .i64 zel.fN),(.int .i64 zel.fD)]) rfl rfl) ?_
 intro zWu _
 refine WL.nA 4 (yw (cs:=[(.int .i64 0),(.int .i64 0)]) zH rfl) ?_
 intro zWv _
 refine WL.pu rfl (WL.nil (WX.a (WC.b ?_)))
 obtain ⟨zsO,zLE,h⟩:=z6 h
 refine WC.a (WL.qA 6 (yf zb rfl (yh .h2) rfl) (WL.qA 7 (yf zb rfl (yh .h1) rfl) (WL.cA 8 (z8 Tryz.call105 (.r3 rfl rfl rfl)) .nil (cc hz .nil fun w pz ho=>yfu _ _ _ _ zLE w pz ) (WL.pu rfl (WL.pu rfl (WL.yj rfl rfl (yl zq rfl rfl rfl .here rfl rfl rfl) (WL.pu rfl (WL.nil (WX.a (WC.ret ?_))))))))))
 obtain rfl:=Option.some.inj h
 refine WX.ye Tryz.results74 (.agg rfl zb rfl (yh .here) (.tmp rfl .nil)) (fun w hw=>?_)
 exact ⟨y1Z rfl rfl,hw.sub .nil⟩
end Go.Proofs.YtcahmabkeaijdaaGreat

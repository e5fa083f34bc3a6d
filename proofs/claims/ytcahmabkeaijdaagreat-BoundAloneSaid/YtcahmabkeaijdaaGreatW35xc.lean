/- A part of this claim's proof: models of functions, walks, plain laws. No conditions. -/
import Derived.Test.YtcahmabkeaijdaaGreatW35xb
set_option linter.all false
namespace Go.Proofs.YtcahmabkeaijdaaGreat
open Go Go.RowKit Sep
set_option maxRecDepth 30000
set_option maxHeartbeats 4000000
def y2k (zK : List (List Sapi_Hop)) (zD : Sbound_place) (za : Sapi_Config) (zZ : List (Sbound_place × Int)) (z9h : (List (List z6)) → Int → Int → (List (Int × List Int)) → (List (Sbound_flow × z2)) → Option (List (List z6) × Int × Int × (List (Sbound_flow × z2)))) : Nat → (List (List z6)) → Int → Int → Int → (List (Int × List Int)) → (List (Sbound_flow × z2)) → Option (List (List z6) × Int × Int × (List (Sbound_flow × z2)))
 | 0,_,_,_,_,_,_=>none
 | zr3 + 1,z2c,z4M,zL,z3K,z1O,z2d=>if decide (zL < ((zK.length : Nat) : Int)) then jp5 (fun (z7g : List (List z6)) (z9i : Int) (z9j : Int) (z9k : List (Int × List Int)) (z9l : List (Sbound_flow × z2))=>y2k zK zD za zZ z9h zr3 z7g z9i (i64 (zL + 1)) z9j z9k z9l) fun zly=>chk ((0 : Int) ≤ zL ∧ zL < ((zK.length : Nat) : Int)) ((y19 (nth zK zL) (fun (y0 : Sapi_Hop)=>y3J y0 zD)).bind fun zz0=>if !zz0 then zly z2c z4M z3K z1O z2d else chk ((0 : Int) ≤ zL ∧ zL < ((za.fVLs.length : Nat) : Int)) (chk ((0 : Int) ≤ zL ∧ zL < ((za.fVLs.length : Nat) : Int)) ((y2c ((nth za.fVLs zL).fMax)).bind fun z2e=>jp5 (fun (z7h : List (List z6)) (z9m : Int) (z9n : List (Int × List Int)) (z7K : Int) (z7L : Int)=>zly z7h (max z4M ((nth za.fVLs zL).fMax)) z9m z9n (yJ z2d (⟨zL,zD⟩ : Sbound_flow) (⟨z7K,z7L⟩ : z2))) fun zlz=>(y4W (nth zK zL) zD.fNode).bind fun z1B=>if z1B.2 then (y3U z1B.1).bind fun zbq=>(y3p za zK z2d zZ z3K zL).bind fun zz1=>(y3U z1B.1).bind fun zr4=>(y2c (yn zZ zr4 0)).bind fun zz2=>(y3u za zK z2d zZ z3K (fun (y0 : z2) (y1 : z2)=>y3a y0 y1) zz1 zz2).bind fun zr5=>(y3u za zK z2d zZ zr5.2 (fun (y0 : z2) (y1 : z2)=>y1d y0 y1) (⟨((yn z2d (⟨zL,zbq⟩ : Sbound_flow) (⟨0,0⟩ : z2)).fN),((yn z2d (⟨zL,zbq⟩ : Sbound_flow) (⟨0,0⟩ : z2)).fD)⟩ : z2) zr5.1).bind fun z7M=>chk (((((yn z1O z1B.1.fLink []) ++ ([zL] : List Int)).length : Nat) : Int) * 8 ≤ 140737488355328 ∧ ((((yn z1O z1B.1.fLink []) ++ ([zL] : List Int)).length : Nat) : Int) ≤ 4611686018427387904) (zlz z2c z7M.2 (yJ z1O z1B.1.fLink ((yn z1O z1B.1.fLink []) ++ ([zL] : List Int))) z7M.1.fN z7M.1.fD) else (y3p za zK z2d zZ z3K zL).bind fun z3L=>chk ((((z2c ++ ([([(⟨z2e,z3L⟩ : z6)] : List z6)] : List (List z6))).length : Nat) : Int) * 24 ≤ 140737488355328 ∧ (((z2c ++ ([([(⟨z2e,z3L⟩ : z6)] : List z6)] : List (List z6))).length : Nat) : Int) ≤ 4611686018427387904) (zlz (z2c ++ ([([(⟨z2e,z3L⟩ : z6)] : List z6)] : List (List z6))) z3K z1O z2e.fN z2e.fD)))) else z9h z2c z4M z3K z1O z2d
theorem y8b {n : Nat} {zK : List (List Sapi_Hop)} {zD : Sbound_place} {za : Sapi_Config} {zZ : List (Sbound_place × Int)} {z9h : (List (List z6)) → Int → Int → (List (Int × List Int)) → (List (Sbound_flow × z2)) → Option (List (List z6) × Int × Int × (List (Sbound_flow × z2)))} {z2c : List (List z6)} {z4M : Int} {zL : Int} {z3K : Int} {z1O : List (Int × List Int)} {z2d : List (Sbound_flow × z2)} {r : List (List z6) × Int × Int × (List (Sbound_flow × z2))} (h : y2k zK zD za zZ z9h n z2c z4M zL z3K z1O z2d = some r) : ∃ m,n = m + 1:=by
 cases n with
 | zero=>cases h
 | succ m=>exact ⟨m,rfl⟩
def y2l (z1j : List (Int × List Int)) (zx : Int) (za : Sapi_Config) (zK : List (List Sapi_Hop)) (z1C : List (Sbound_flow × z2)) (zZ : List (Sbound_place × Int)) (zD : Sbound_place) (z9o : Int → Int → Int → Int → Int → Int → Option (List (List z6) × Int × Int × (List (Sbound_flow × z2)))) : Nat → Int → Int → Int → Int → Int → Int → Int → Option (List (List z6) × Int × Int × (List (Sbound_flow × z2)))
 | 0,_,_,_,_,_,_,_=>none
 | zr6 + 1,z5U,z2f,z6o,z5V,z5W,z58,z59=>if decide (z2f < (((yn z1j zx []).length : Nat) : Int)) then chk ((0 : Int) ≤ z2f ∧ z2f < (((yn z1j zx []).length : Nat) : Int)) ((y3u za zK z1C zZ z6o (fun (y0 : z2) (y1 : z2)=>y1d y0 y1) (⟨z5V,z5W⟩ : z2) (⟨((yn z1C (⟨(nth (yn z1j zx []) z2f),zD⟩ : Sbound_flow) (⟨0,0⟩ : z2)).fN),((yn z1C (⟨(nth (yn z1j zx []) z2f),zD⟩ : Sbound_flow) (⟨0,0⟩ : z2)).fD)⟩ : z2)).bind fun z7i=>(y3p za zK z1C zZ z7i.2 (nth (yn z1j zx []) z2f)).bind fun zz3=>(y3u za zK z1C zZ z7i.2 (fun (y0 : z2) (y1 : z2)=>y1d y0 y1) (⟨z58,z59⟩ : z2) zz3).bind fun z9p=>chk ((0 : Int) ≤ (nth (yn z1j zx []) z2f) ∧ (nth (yn z1j zx []) z2f) < ((za.fVLs.length : Nat) : Int)) (y2l z1j zx za zK z1C zZ zD z9o zr6 (max z5U ((nth za.fVLs (nth (yn z1j zx []) z2f)).fMax)) (i64 (z2f + 1)) z9p.2 z7i.1.fN z7i.1.fD z9p.1.fN z9p.1.fD)) else z9o z5U z6o z5V z5W z58 z59
theorem y8c {n : Nat} {z1j : List (Int × List Int)} {zx : Int} {za : Sapi_Config} {zK : List (List Sapi_Hop)} {z1C : List (Sbound_flow × z2)} {zZ : List (Sbound_place × Int)} {zD : Sbound_place} {z9o : Int → Int → Int → Int → Int → Int → Option (List (List z6) × Int × Int × (List (Sbound_flow × z2)))} {z5U : Int} {z2f : Int} {z6o : Int} {z5V : Int} {z5W : Int} {z58 : Int} {z59 : Int} {r : List (List z6) × Int × Int × (List (Sbound_flow × z2))} (h : y2l z1j zx za zK z1C zZ zD z9o n z5U z2f z6o z5V z5W z58 z59 = some r) : ∃ m,n = m + 1:=by
 cases n with
 | zero=>cases h
 | succ m=>exact ⟨m,rfl⟩
def y2m (za : Sapi_Config) (z1j : List (Int × List Int)) (zK : List (List Sapi_Hop)) (z1C : List (Sbound_flow × z2)) (zZ : List (Sbound_place × Int)) (zD : Sbound_place) (z9q : (List (List z6)) → Int → Option (List (List z6) × Int × Int × (List (Sbound_flow × z2)))) : Nat → (List (List z6)) → Int → Int → Option (List (List z6) × Int × Int × (List (Sbound_flow × z2)))
 | 0,_,_,_=>none
 | zr7 + 1,z21,zx,z5a=>if decide (zx < ((za.fLinks.length : Nat) : Int)) then jp2 (fun (z7j : List (List z6)) (z9r : Int)=>y2m za z1j zK z1C zZ zD z9q zr7 z7j (i64 (zx + 1)) z9r) fun zlA=>if decide ((((yn z1j zx []).length : Nat) : Int) = 0) then zlA z21 z5a else (y2c 0).bind fun zdt=>(y2c 0).bind fun zdu=>jp6 (fun (zbr : Int) (z9s : Int) (z2A : Int) (z2B : Int) (z2C : Int) (z2D : Int)=>(y2c zbr).bind fun z3M=>chk ((0 : Int) ≤ zx ∧ zx < ((za.fLinks.length : Nat) : Int)) (chk ((((z21 ++ ([([(⟨(⟨z2A,z2B⟩ : z2),(⟨z2C,z2D⟩ : z2)⟩ : z6),(⟨z3M,(⟨1,((nth za.fLinks zx).fSlow)⟩ : z2)⟩ : z6)] : List z6)] : List (List z6))).length : Nat) : Int) * 24 ≤ 140737488355328 ∧ (((z21 ++ ([([(⟨(⟨z2A,z2B⟩ : z2),(⟨z2C,z2D⟩ : z2)⟩ : z6),(⟨z3M,(⟨1,((nth za.fLinks zx).fSlow)⟩ : z2)⟩ : z6)] : List z6)] : List (List z6))).length : Nat) : Int) ≤ 4611686018427387904) (zlA (z21 ++ ([([(⟨(⟨z2A,z2B⟩ : z2),(⟨z2C,z2D⟩ : z2)⟩ : z6),(⟨z3M,(⟨1,((nth za.fLinks zx).fSlow)⟩ : z2)⟩ : z6)] : List z6)] : List (List z6))) z9s))) fun z9o=>y2l z1j zx za zK z1C zZ zD z9o yz 0 0 z5a zdt.fN zdt.fD zdu.fN zdu.fD else z9q z21 z5a
theorem y8d {n : Nat} {za : Sapi_Config} {z1j : List (Int × List Int)} {zK : List (List Sapi_Hop)} {z1C : List (Sbound_flow × z2)} {zZ : List (Sbound_place × Int)} {zD : Sbound_place} {z9q : (List (List z6)) → Int → Option (List (List z6) × Int × Int × (List (Sbound_flow × z2)))} {z21 : List (List z6)} {zx : Int} {z5a : Int} {r : List (List z6) × Int × Int × (List (Sbound_flow × z2))} (h : y2m za z1j zK z1C zZ zD z9q n z21 zx z5a = some r) : ∃ m,n = m + 1:=by
 cases n with
 | zero=>cases h
 | succ m=>exact ⟨m,rfl⟩
def y4a (za : Sapi_Config) (zK : List (List Sapi_Hop)) (z9t : List (Sbound_flow × z2)) (zZ : List (Sbound_place × Int)) (z9u : Int) (zD : Sbound_place) : Option (List (List z6) × Int × Int × (List (Sbound_flow × z2))) :=
 jp5 (fun (z2g : List (List z6)) (z5X : Int) (z9v : Int) (z1j : List (Int × List Int)) (z1C : List (Sbound_flow × z2))=>jp2 (fun (z5w : List (List z6)) (zbs : Int)=>chk ((((z2g ++ z5w).length : Nat) : Int) * 24 ≤ 140737488355328 ∧ (((z2g ++ z5w).length : Nat) : Int) ≤ 4611686018427387904) (some ((z2g ++ z5w),z5X,zbs,z1C))) fun z9q=>y2m za z1j zK z1C zZ zD z9q yz ([] : List (List z6)) 0 z9v) fun z9h=>y2k zK zD za zZ z9h yz ([] : List (List z6)) 0 0 z9u ([] : List (Int × List Int)) z9t
theorem yap (Z : Zp) (z1U : Nat) (z4a : Option Addr) (z4b : Nat) (z4c : Option Addr) (z4d : Nat) (z4e : Option Addr) (z4f : Nat) (z4g : Option Addr) (z4h : Nat) (z4i : Option Addr) (z4j : Nat) (z4k : Option Addr) (z4l : Nat) (z4m : Option Addr) (z4n : Nat) (z4o : Option Addr) (z4p : Nat) (z3c : Option Addr) (z3d : Nat) (z1s : Nat) (z1u : Nat) (za : Sapi_Config) (zK : List (List Sapi_Hop)) (z9t : List (Sbound_flow × z2)) (zZ : List (Sbound_place × Int)) (z9u : Int) (zD : Sbound_place) (r : List (List z6) × Int × Int × (List (Sbound_flow × z2)))
  (h : y4a za zK z9t zZ z9u zD = some r) (w₀ : World) (hz : PZ (fps [stb z1U 95 [(.slice z4a za.fModules.length z4b),(.slice z4c za.fChannels.length z4d),(.slice z4e za.fSwitches.length z4f),(.slice z4g za.fLinks.length z4h),(.slice z4i za.fVLs.length z4j),(.slice z4k za.fHealth.length z4l),(.slice z4m za.fCauses.length z4n),(.slice z4o za.fVersions.length z4p),(.slice z3c zK.length z3d),(.map (some z1s)),(.map (some z1u)),(.int .i64 z9u)],yy z1s (fun x=>Value.agg (y2e x).toArray) (fun x=>Value.agg (yu x).toArray) z9t,yy z1u (fun x=>Value.agg (e97 x).toArray) (Value.int .i64) zZ]) w₀ Z)
  (zdv : ZS Z 4 (y48 Z) z4a z4b za.fModules)
  (zdw : ZS Z 4 (y4H Z) z4c z4d za.fChannels)
  (zdx : ZS Z 4 (fun r x=>r = e66 x) z4e z4f za.fSwitches)
  (zbt : ZS Z 4 (fun r x=>r = e64 x) z4g z4h za.fLinks)
  (z7N : ZS Z 7 (p46 Z) z4i z4j za.fVLs)
  (zdy : ZS Z 5 (fun r x=>r = y4U x) z4k z4l za.fHealth)
  (zdz : ZS Z 3 (y4I Z) z4m z4n za.fCauses)
  (zdA : ZS Z 4 (fun r x=>r = y4V x) z4o z4p za.fVersions)
  (zbu : ZS Z 1 (p48 Z) z3c z3d zK)
  (hown : Hp (fps [stb z1U 95 [(.slice z4a za.fModules.length z4b),(.slice z4c za.fChannels.length z4d),(.slice z4e za.fSwitches.length z4f),(.slice z4g za.fLinks.length z4h),(.slice z4i za.fVLs.length z4j),(.slice z4k za.fHealth.length z4l),(.slice z4m za.fCauses.length z4n),(.slice z4o za.fVersions.length z4p),(.slice z3c zK.length z3d),(.map (some z1s)),(.map (some z1u)),(.int .i64 z9u)],yy z1s (fun x=>Value.agg (y2e x).toArray) (fun x=>Value.agg (yu x).toArray) z9t,yy z1u (fun x=>Value.agg (e97 x).toArray) (Value.int .i64) zZ]) w₀ w₀ [stb z1U 95 [(.slice z4a za.fModules.length z4b),(.slice z4c za.fChannels.length z4d),(.slice z4e za.fSwitches.length z4f),(.slice z4g za.fLinks.length z4h),(.slice z4i za.fVLs.length z4j),(.slice z4k za.fHealth.length z4l),(.slice z4m za.fCauses.length z4n),(.slice z4o za.fVersions.length z4p),(.slice z3c zK.length z3d),(.map (some z1s)),(.map (some z1u)),(.int .i64 z9u)],yy z1s (fun x=>Value.agg (y2e x).toArray) (fun x=>Value.agg (yu x).toArray) z9t,yy z1u (fun x=>Value.agg (e97 x).toArray) (Value.int .i64) zZ]) :
  Calls Tryz.prog 42 #[(.pointer (some ⟨z1U,0,none⟩)),(.agg #[(.int .i64 zD.fNode),(.int .i64 zD.fLink)])] w₀ fun e w'=>∃ Zn : Zp,∃ zz4 : Option Addr,∃ zz5 : Nat,∃ zz6 : List Value,e = .returned (.tuple #[(.slice zz4 r.1.length zz5),(.int .i64 r.2.1)]) ∧ (RR 1 (y1P (Z ++ Zn)) zz6 r.1) ∧ Hp (fps [stb z1U 95 [(.slice z4a za.fModules.length z4b),(.slice z4c za.fChannels.length z4d),(.slice z4e za.fSwitches.length z4f),(.slice z4g za.fLinks.length z4h),(.slice z4i za.fVLs.length z4j),(.slice z4k za.fHealth.length z4l),(.slice z4m za.fCauses.length z4n),(.slice z4o za.fVersions.length z4p),(.slice z3c zK.length z3d),(.map (some z1s)),(.map (some z1u)),(.int .i64 z9u)],yy z1s (fun x=>Value.agg (y2e x).toArray) (fun x=>Value.agg (yu x).toArray) z9t,yy z1u (fun x=>Value.agg (e97 x).toArray) (Value.int .i64) zZ]) w₀ w' [fz Zn,row (.slice zz4 r.1.length zz5) 173 1 zz6,stb z1U 95 [(.slice z4a za.fModules.length z4b),(.slice z4c za.fChannels.length z4d),(.slice z4e za.fSwitches.length z4f),(.slice z4g za.fLinks.length z4h),(.slice z4i za.fVLs.length z4j),(.slice z4k za.fHealth.length z4l),(.slice z4m za.fCauses.length z4n),(.slice z4o za.fVersions.length z4p),(.slice z3c zK.length z3d),(.map (some z1s)),(.map (some z1u)),(.int .i64 r.2.2.1)],yy z1s (fun x=>Value.agg (y2e x).toArray) (fun x=>Value.agg (yu x).toArray) r.2.2.2,yy z1u (fun x=>Value.agg (e97 x).toArray) (Value.int .i64) zZ]:=by
 unfold y4a at h
 refine Calls.oh2 Tryz.func42 Tryz.ntmps42 hown ?_
 refine WC.pool (WC.b (WC.a (WL.nA 3 (yH (cs:=[(.int .i64 zD.fNode),(.int .i64 zD.fLink)]) rfl rfl) ?_)))
 intro z3p _
 refine WL.pu rfl (WL.pu rfl (WL.nil (WX.a (WC.b (WC.a (WL.pu rfl (WL.pu rfl (WL.nil (WX.a (WC.b (WC.a (WL.nA 20 (y4j (Value.int .i64) (slv (α:=Int))) ?_))))))))))))
 intro z3N _
 refine WL.ghL (M:=[y54 (y55 3 1 e3) ([] : List (Int × ((Nat × (Option Addr × Nat)) × List Int))),yy z3N (Value.int .i64) slv (y6d ([] : List (Int × ((Nat × (Option Addr × Nat)) × List Int)))),stb z3p 97 [(.int .i64 zD.fNode),(.int .i64 zD.fLink)],fz [],stb z1U 95 [(.slice z4a za.fModules.length z4b),(.slice z4c za.fChannels.length z4d),(.slice z4e za.fSwitches.length z4f),(.slice z4g za.fLinks.length z4h),(.slice z4i za.fVLs.length z4j),(.slice z4k za.fHealth.length z4l),(.slice z4m za.fCauses.length z4n),(.slice z4o za.fVersions.length z4p),(.slice z3c zK.length z3d),(.map (some z1s)),(.map (some z1u)),(.int .i64 z9u)],yy z1s (fun x=>Value.agg (y2e x).toArray) (fun x=>Value.agg (yu x).toArray) z9t,yy z1u (fun x=>Value.agg (e97 x).toArray) (Value.int .i64) zZ]) (fun _ h=>Hp.yfh (y55 3 1 e3) h) (WL.pu rfl (WL.nil (WX.a (WC.b (WC.a (WL.pu rfl (WL.nil (WX.a ?_))))))))
 obtain ⟨z9h,zHJ,h⟩:=ybE h
 refine WC.y9l (fun (z2g : List (List z6)) (z5X : Int) (z9v : Int) (z1j : List (Int × List Int)) (z1C : List (Sbound_flow × z2)) (z9w : Zp) (z5b : Option Addr) (z5c : Nat) (z6p : List Value) (z5x : List (Int × ((Nat × (Option Addr × Nat)) × List Int)))=>(z9h z2g z5X z9v z1j z1C = some r) ∧ (Zle (Z ++ []) (Z ++ z9w)) ∧ (RR 1 (y1P (Z ++ z9w)) z6p z2g) ∧ (dat z5x = z1j)) (fun z2g z5X z9v z1j z1C z9w z5b z5c z6p z5x=>[(0,(.pointer (some ⟨z1U,0,none⟩))),(3,(.pointer (some ⟨z3p,0,none⟩))),(6,(.slice z5b z2g.length z5c)),(7,(.slice none 0 0)),(8,(.map (some z3N))),(9,(.int .i64 z5X))]) (fun z2g z5X z9v z1j z1C z9w z5b z5c z6p z5x=>[fz z9w,row (.slice z5b z2g.length z5c) 173 1 z6p,stb z1U 95 [(.slice z4a za.fModules.length z4b),(.slice z4c za.fChannels.length z4d),(.slice z4e za.fSwitches.length z4f),(.slice z4g za.fLinks.length z4h),(.slice z4i za.fVLs.length z4j),(.slice z4k za.fHealth.length z4l),(.slice z4m za.fCauses.length z4n),(.slice z4o za.fVersions.length z4p),(.slice z3c zK.length z3d),(.map (some z1s)),(.map (some z1u)),(.int .i64 z9v)],stb z3p 97 [(.int .i64 zD.fNode),(.int .i64 zD.fLink)],yy z3N (Value.int .i64) slv (y6d z5x),y54 (y55 3 1 e3) z5x,yy z1s (fun x=>Value.agg (y2e x).toArray) (fun x=>Value.agg (yu x).toArray) z1C,yy z1u (fun x=>Value.agg (e97 x).toArray) (Value.int .i64) zZ]) ?_ ?_
 ·skip
  refine WC.b (WC.a (WL.pu rfl (WL.qA 22 (y11 rfl) (WL.qA 23 (ya fo_95_1 rfl rfl) (WL.qA 24 (yc oneT_32 rfl (yj .h4 rfl)) (WL.qA 25 (yG Tryz.underlying32 rfl) (WL.pu rfl (WL.nil (WX.a (WC.block (WC.nilRow 173 1 (WC.yfG (fun (zfC : Nat) (z2c : List (List z6)) (z4M : Int) (zL : Int) (z3K : Int) (z1O : List (Int × List Int)) (z2d : List (Sbound_flow × z2)) (z3q : Zp) (z7O : Option Addr) (z7P : Nat) (z6q : List Value) (z5Y : List (Int × ((Nat × (Option Addr × Nat)) × List Int)))=>(y2k zK zD za zZ z9h zfC z2c z4M zL z3K z1O z2d = some r) ∧ (Zle (Z ++ []) (Z ++ z3q)) ∧ (RR 1 (y1P (Z ++ z3q)) z6q z2c) ∧ (dat z5Y = z1O)) (fun zfC z2c z4M zL z3K z1O z2d z3q z7O z7P z6q z5Y=>[(0,(.pointer (some ⟨z1U,0,none⟩))),(3,(.pointer (some ⟨z3p,0,none⟩))),(6,(.slice z7O z2c.length z7P)),(7,(.slice none 0 0)),(8,(.map (some z3N))),(9,(.int .i64 z4M)),(24,(.slice z3c zK.length z3d)),(25,(.int .i64 ((zK.length : Nat) : Int))),(26,(.int .i64 zL))]) (fun zfC z2c z4M zL z3K z1O z2d z3q z7O z7P z6q z5Y=>[fz z3q,row (.slice z7O z2c.length z7P) 173 1 z6q,stb z1U 95 [(.slice z4a za.fModules.length z4b),(.slice z4c za.fChannels.length z4d),(.slice z4e za.fSwitches.length z4f),(.slice z4g za.fLinks.length z4h),(.slice z4i za.fVLs.length z4j),(.slice z4k za.fHealth.length z4l),(.slice z4m za.fCauses.length z4n),(.slice z4o za.fVersions.length z4p),(.slice z3c zK.length z3d),(.map (some z1s)),(.map (some z1u)),(.int .i64 z3K)],stb z3p 97 [(.int .i64 zD.fNode),(.int .i64 zD.fLink)],yy z3N (Value.int .i64) slv (y6d z5Y),y54 (y55 3 1 e3) z5Y,yy z1s (fun x=>Value.agg (y2e x).toArray) (fun x=>Value.agg (yu x).toArray) z2d,yy z1u (fun x=>Value.agg (e97 x).toArray) (Value.int .i64) zZ]) (fun zfC z2c z4M zL z3K z1O z2d z3q z7O z7P z6q z5Y=>zfC) ⟨yz,([] : List (List z6)),0,0,z9u,([] : List (Int × List Int)),z9t,[],none,0,[],([] : List (Int × ((Nat × (Option Addr × Nat)) × List Int)))⟩ ⟨h,(Zle.refl _),(RR.nil _ _),rfl⟩ (.r9 rfl rfl rfl rfl rfl rfl rfl rfl rfl) (.s8 .h4 .here .h3 .h2 .h1 .here .here .here) ?_))))))))))))
  rintro zfC z2c z4M zL z3K z1O z2d z3q z7O z7P z6q z5Y ⟨h,zy,zlB,ziP⟩
  obtain ⟨zr3,rfl⟩:=y8b h
  rw [y2k] at h
  refine WC.b (WC.a (WL.pu rfl (WL.nil (WX.a (WC.b (WC.cond rfl (fun zr8=>?_) (fun zr8=>?_)))))))
  ·replace h:=yo h zr8
   refine WC.skip (WX.a ?_)
   obtain ⟨zly,zHK,h⟩:=ybE h
   refine WC.y9l (fun (z7g : List (List z6)) (z9i : Int) (z9j : Int) (z9k : List (Int × List Int)) (z9l : List (Sbound_flow × z2)) (zdB : Zp) (zfD : Option Addr) (zfE : Nat) (zfF : List Value) (zdC : List (Int × ((Nat × (Option Addr × Nat)) × List Int)))=>(zly z7g z9i z9j z9k z9l = some r) ∧ (Zle (Z ++ z3q) (Z ++ zdB)) ∧ (RR 1 (y1P (Z ++ zdB)) zfF z7g) ∧ (dat zdC = z9k)) (fun z7g z9i z9j z9k z9l zdB zfD zfE zfF zdC=>[(0,(.pointer (some ⟨z1U,0,none⟩))),(3,(.pointer (some ⟨z3p,0,none⟩))),(6,(.slice zfD z7g.length zfE)),(7,(.slice none 0 0)),(8,(.map (some z3N))),(9,(.int .i64 z9i)),(24,(.slice z3c zK.length z3d)),(25,(.int .i64 ((zK.length : Nat) : Int))),(26,(.int .i64 zL))]) (fun z7g z9i z9j z9k z9l zdB zfD zfE zfF zdC=>[fz zdB,row (.slice zfD z7g.length zfE) 173 1 zfF,stb z1U 95 [(.slice z4a za.fModules.length z4b),(.slice z4c za.fChannels.length z4d),(.slice z4e za.fSwitches.length z4f),(.slice z4g za.fLinks.length z4h),(.slice z4i za.fVLs.length z4j),(.slice z4k za.fHealth.length z4l),(.slice z4m za.fCauses.length z4n),(.slice z4o za.fVersions.length z4p),(.slice z3c zK.length z3d),(.map (some z1s)),(.map (some z1u)),(.int .i64 z9j)],stb z3p 97 [(.int .i64 zD.fNode),(.int .i64 zD.fLink)],yy z3N (Value.int .i64) slv (y6d zdC),y54 (y55 3 1 e3) zdC,yy z1s (fun x=>Value.agg (y2e x).toArray) (fun x=>Value.agg (yu x).toArray) z9l,yy z1u (fun x=>Value.agg (e97 x).toArray) (Value.int .i64) zZ]) ?_ ?_
   ·skip
    refine WC.block (WC.b ?_)
    obtain ⟨zHL,h⟩:=ym h
    refine WC.a (WL.pu rfl (WL.znth (dd:=29) rfl rfl (Z:=(Z ++ z3q)) (Pr:=(p48 (Z ++ z3q))) y73 rfl rfl ((zbu.mono ((Zle.left _ _).trans zy)).weak (fun _ _ h=>y2v ((Zle.left _ _).trans zy) h)) zHL ?_))
    rintro zTH zTI zHM zTJ ⟨zTK,zTL,rfl,zz7⟩
    refine WL.qA 30 (yc y6H rfl (y53 (hz.pv2 .here) zHM rfl)) (WL.pu rfl (WL.pu rfl (WL.nil (WX.a (WC.b (WC.b ?_))))))
    obtain ⟨zz0,zHN,h⟩:=z7 h
    refine WC.a (WL.pu rfl (WL.qA 32 (y18 (Eos.caps (l:=[.tmp 3]) (.cons rfl .nil))) (WL.cA 33 (z8 Tryz.call37 (.r2 rfl rfl)) .nil (cclz hz .nil .here (.cons .h3 .nil) fun w pz ho la=>y5V _ _ _ (zfu:=67) (zls:=[(.pointer (some ⟨z3p,0,none⟩))]) _ (zft:=(fun (y0 : Sapi_Hop)=>y3J y0 zD)) _ zHN w pz (zz7.mono (Zle.left _ _)) Tryz.call67 (fun w' hz' y0  r  hr=>y9H _ _ _ _ _ hr w' hz' ((la _ (.head _) _).stb))) (WL.pu rfl (WL.nil (WX.a (WC.cond rfl (fun zr9=>?_) (fun zr9=>?_))))))))
    ·replace h:=yo h zr9
     refine WC.exit (WX.yg (WX.yA ?_))
     exact WX.mid ⟨z2c,z4M,z3K,z1O,z2d,z3q,z7O,z7P,z6q,z5Y⟩ ⟨h,(Zle.refl _),zlB,ziP⟩ (.r9 rfl rfl rfl rfl rfl rfl rfl rfl rfl) (.s8 .here .here .here .here .here .here .here .here)
    ·replace h:=yp h zr9
     refine WC.skip (WX.a (WC.b ?_))
     obtain ⟨zHO,h⟩:=ym h
     refine WC.a (WL.pu rfl (WL.pu rfl (WL.qA 37 (y11 rfl) (WL.qA 38 (ya y6a rfl rfl) (WL.qA 39 (ya y5D rfl rfl) (WL.qA 40 (yc y5E rfl (yj .h2 rfl)) (WL.pu rfl (WL.znth (dd:=42) rfl rfl (Z:=(Z ++ z3q)) (Pr:=(p46 (Z ++ z3q))) y89 rfl rfl ((z7N.mono ((Zle.left _ _).trans zy)).weak (fun _ _ h=>y29 ((Zle.left _ _).trans zy) h)) zHO ?_))))))))
     rintro zTM zTN zHP zTO ⟨zTP,zTQ,rfl,zTR⟩
     refine WL.qA 43 (ya y7V rfl rfl) (WL.qA 44 (yc yw rfl (y1e (hz.pv2 .here) zHP rfl)) (WL.qA 45 (q_max rfl rfl rfl) (WL.pu rfl (WL.nil (WX.a (WC.b ?_))))))
     obtain ⟨zHQ,h⟩:=ym h
     obtain ⟨z2e,zHR,h⟩:=z7 h
     refine WC.a (WL.pu rfl (WL.qA 47 (y11 rfl) (WL.qA 48 (ya y6a rfl rfl) (WL.qA 49 (ya y5D rfl rfl) (WL.qA 50 (yc y5E rfl (yj .h2 rfl)) (WL.pu rfl (WL.znth (dd:=52) rfl rfl (Z:=(Z ++ z3q)) (Pr:=(p46 (Z ++ z3q))) y89 rfl rfl ((z7N.mono ((Zle.left _ _).trans zy)).weak (fun _ _ h=>y29 ((Zle.left _ _).trans zy) h)) zHQ ?_)))))))
     rintro zTS zTT zHS zTU ⟨zTV,zTW,rfl,zTX⟩
     refine WL.qA 53 (ya y7V rfl rfl) (WL.qA 54 (yc yw rfl (y1e (hz.pv2 .here) zHS rfl)) (WL.cA 55 (z8 Tryz.call43 (.cons rfl .nil)) .nil (ccz hz .nil .here fun w pz ho=>y4x _ _ _ zHR w pz ) (WL.nA 12 (yx (cs:=[(.int .i64 0),(.int .i64 0)]) zH rfl) ?_)))
     intro zlC _
     refine WL.yl rfl rfl (yk zq rfl rfl rfl .here rfl rfl rfl) (WL.nil (WX.a ?_))
     obtain ⟨zlz,zHT,h⟩:=ybE h
     refine WC.y9l (fun (z7h : List (List z6)) (z9m : Int) (z9n : List (Int × List Int)) (z7K : Int) (z7L : Int) (zdD : Zp) (zfG : Option Addr) (zfH : Nat) (zfI : List Value) (zdE : List (Int × ((Nat × (Option Addr × Nat)) × List Int)))=>(zlz z7h z9m z9n z7K z7L = some r) ∧ (Zle (Z ++ z3q) (Z ++ zdD)) ∧ (RR 1 (y1P (Z ++ zdD)) zfI z7h) ∧ (dat zdE = z9n)) (fun z7h z9m z9n z7K z7L zdD zfG zfH zfI zdE=>[(0,(.pointer (some ⟨z1U,0,none⟩))),(3,(.pointer (some ⟨z3p,0,none⟩))),(6,(.slice zfG z7h.length zfH)),(7,(.slice none 0 0)),(8,(.map (some z3N))),(9,(.int .i64 (max z4M ((nth za.fVLs zL).fMax)))),(10,(.int .i64 zL)),(12,(.pointer (some ⟨zlC,0,none⟩))),(24,(.slice z3c zK.length z3d)),(25,(.int .i64 ((zK.length : Nat) : Int))),(26,(.int .i64 zL))]) (fun z7h z9m z9n z7K z7L zdD zfG zfH zfI zdE=>[fz zdD,row (.slice zfG z7h.length zfH) 173 1 zfI,stb z1U 95 [(.slice z4a za.fModules.length z4b),(.slice z4c za.fChannels.length z4d),(.slice z4e za.fSwitches.length z4f),(.slice z4g za.fLinks.length z4h),(.slice z4i za.fVLs.length z4j),(.slice z4k za.fHealth.length z4l),(.slice z4m za.fCauses.length z4n),(.slice z4o za.fVersions.length z4p),(.slice z3c zK.length z3d),(.map (some z1s)),(.map (some z1u)),(.int .i64 z9m)],stb z3p 97 [(.int .i64 zD.fNode),(.int .i64 zD.fLink)],yy z3N (Value.int .i64) slv (y6d zdE),y54 (y55 3 1 e3) zdE,stb zlC 132 [(.int .i64 z7K),(.int .i64 z7L)],yy z1s (fun x=>Value.agg (y2e x).toArray) (fun x=>Value.agg (yu x).toArray) z2d,yy z1u (fun x=>Value.agg (e97 x).toArray) (Value.int .i64) zZ]) ?_ ?_
     ·skip
      refine WC.b ?_
      obtain ⟨z1B,zHU,h⟩:=z7 h
      refine WC.a (WL.pu rfl (WL.qA 58 (ya y8J rfl rfl) (WL.qA 59 (yc yw rfl (yj .h4 rfl)) (WL.cA 60 (z8 Tryz.call39 (.r2 rfl rfl)) .nil (ccz hz .nil .h1 fun w pz ho=>y8R _ _ _ _ _ _ zHU w pz zz7) (WL.pu rfl (WL.pu rfl (WL.pu rfl (WL.nA 13 (yx (cs:=[(.int .i64 0),(.int .i64 0),(.int .i64 0)]) y6v rfl) ?_))))))))
      intro zra _
      refine WL.yl rfl rfl (yk y6I rfl rfl rfl .here rfl rfl rfl) (WL.pu rfl (WL.nil (WX.a (WC.b (WC.a (WL.pu rfl (WL.nil (WX.a (WC.cond rfl (fun zrb=>?_) (fun zrb=>?_))))))))))
      ·replace h:=yo h zrb
       refine WC.b ?_
       obtain ⟨zbq,zHV,h⟩:=z7 h
       obtain ⟨zz1,zHW,h⟩:=z7 h
       obtain ⟨zr4,zHX,h⟩:=z7 h
       obtain ⟨zz2,zHY,h⟩:=z7 h
       obtain ⟨zr5,zHZ,h⟩:=z7 h
       obtain ⟨z7M,zI0,h⟩:=z7 h
       refine WC.yP (fun i=>[13,22,23,24].contains i) [y7c z1U 95 [(9,(.map (some z1s))),(10,(.map (some z1u)))],yc5 z1s (fun x=>Value.agg (y2e x).toArray) (fun x=>Value.agg (yu x).toArray) (⟨zL,zbq⟩ : Sbound_flow) ((⟨0,0⟩ : z2) : z2) (yn z2d (⟨zL,zbq⟩ : Sbound_flow) (⟨0,0⟩ : z2)),stb zra 62 [(.int .i64 z1B.1.fNode),(.int .i64 z1B.1.fNext),(.int .i64 z1B.1.fLink)]] rfl (WD.pA 0 64 rfl (fun _=>q_m rfl) (WD.pA 1 65 rfl (fun _=>q_m rfl) (WD.pA 2 66 rfl (fun _=>y11 rfl) (WD.pA 3 67 rfl (fun _=>ya ycA rfl rfl) (WD.sA 4 68 rfl (Sin.wk (.s3 .h4 .h7 .here) (.stb (.cons rfl (.cons rfl .nil)) (.any rfl (fun _ h=>y6u h) (.same .nil)))) (yc ycB rfl (y5C .here (.head _))) (WD.pA 5 69 rfl (fun _=>q_m rfl) (WD.qA 6 70 rfl (yf y3G rfl (yh .here) rfl) (WD.eA 7 71 rfl (z8 Tryz.call40 (.cons rfl .nil)) (ccz hz .nil .h2 fun w pz ho=>y5i _ _ _ zHV w pz ) (WD.pA 8 72 rfl (fun _=>yL (v:=(.agg #[(.int .i64 zL),(.int .i64 zbq.fNode),(.int .i64 zbq.fLink)])) (Eos.parts (l:=[.tmp 69,.tmp 71]) (.r2 rfl rfl) [0,1]) (fun _=>by kernel_rfl)) (WD.sA 9 73 rfl (Sin.wk (.s3 .h4 .h7 .here) (.stb (.cons rfl (.cons rfl .nil)) (.any rfl (fun _ h=>y6u h) (.same .nil)))) (yd3 (k:=(⟨zL,zbq⟩ : Sbound_flow)) (dflt:=((⟨0,0⟩ : z2) : z2)) znr Tryz.underlying92 zH rfl rfl rfl .h1) (WD.pA 10 74 rfl (fun _=>q_m rfl) (WD.pA 11 75 rfl (fun _=>q_m rfl) (WD.pA 12 76 rfl (fun _=>q_m rfl) (WD.pA 14 78 rfl (fun _=>q_m rfl) (WD.pA 15 79 rfl (fun _=>y11 rfl) (WD.pA 16 80 rfl (fun _=>ya ycC rfl rfl) (WD.sA 17 81 rfl (Sin.wk (.s3 .h4 .h7 .here) (.stb (.cons rfl (.cons rfl .nil)) (.any rfl (fun _ h=>y6u h) (.same .nil)))) (yc y9z rfl (y5C .here (.tail _ (.head _)))) (WD.sA 18 82 rfl (Sin.wk (.s3 .h4 .h7 .here) (.stb (.cons rfl (.cons rfl .nil)) (.any rfl (fun _ h=>y6u h) (.same .nil)))) (yf y3G rfl (yh .h2) rfl) (WD.call0 (i:=13) (dd:=77) rfl (by kernel_rfl) rfl rfl rfl (.inl ⟨rfl,(by exact (Sin.wk (.s3 .h6 .here .h1) (.stb (.cons rfl (.cons rfl .nil)) (.any rfl (fun _ h=>y6u h) (.same .nil)))))⟩) (z8 Tryz.call71 (.r2 rfl rfl)) (.s2 (.there .h7) (.there .h7)) (cclz hz (.s2 (.there .h7) (.there .h7)) .h2 (.cons .h4 .nil) fun w pz ho la=>Calls.mono (y6X _ _ _ _ _ _ _ _ _ _ _ _ _ _ _ _ _ _ _ _ _ _ _ _ _ _ _ _ _ zHW w pz ((((zdv.mono ((Zle.left _ _).trans zy)).weak (fun _ _ h=>y2d ((Zle.left _ _).trans zy) h)).mono (Zle.left _ _)).weak (fun _ _ h=>y2d (Zle.left _ _) h)) ((((zdw.mono ((Zle.left _ _).trans zy)).weak (fun _ _ h=>y2r ((Zle.left _ _).trans zy) h)).mono (Zle.left _ _)).weak (fun _ _ h=>y2r (Zle.left _ _) h)) ((zdx.mono ((Zle.left _ _).trans zy)).mono (Zle.left _ _)) ((zbt.mono ((Zle.left _ _).trans zy)).mono (Zle.left _ _)) ((((z7N.mono ((Zle.left _ _).trans zy)).weak (fun _ _ h=>y29 ((Zle.left _ _).trans zy) h)).mono (Zle.left _ _)).weak (fun _ _ h=>y29 (Zle.left _ _) h)) ((zdy.mono ((Zle.left _ _).trans zy)).mono (Zle.left _ _)) ((((zdz.mono ((Zle.left _ _).trans zy)).weak (fun _ _ h=>y2s ((Zle.left _ _).trans zy) h)).mono (Zle.left _ _)).weak (fun _ _ h=>y2s (Zle.left _ _) h)) ((zdA.mono ((Zle.left _ _).trans zy)).mono (Zle.left _ _)) ((((zbu.mono ((Zle.left _ _).trans zy)).weak (fun _ _ h=>y2v ((Zle.left _ _).trans zy) h)).mono (Zle.left _ _)).weak (fun _ _ h=>y2v (Zle.left _ _) h)) ((la _ (.head _) _).stb) ho) (fun _ _ h'=>⟨h'.1,trivial,h'.2⟩)) ?_)))))))))))))))))))
       intro _
       refine WD.eA 19 83 rfl (z8 Tryz.call40 (.cons rfl .nil)) (ccz hz .nil .h4 fun w pz ho=>y5i _ _ _ zHX w pz ) (WD.qA 20 84 rfl (y3l (k:=zr4) (dflt:=(0 : Int)) y7o Tryz.underlying93 y4P rfl rfl rfl .h1) (WD.eA 21 85 rfl (z8 Tryz.call43 (.cons rfl .nil)) (ccz hz .nil .h4 fun w pz ho=>y4x _ _ _ zHY w pz ) (WD.call0 (i:=22) (dd:=86) rfl (by kernel_rfl) rfl rfl rfl (.inl ⟨rfl,(by exact (Sin.wk (.s3 .here .here .h1) (.stb (.cons rfl (.cons rfl .nil)) (.any rfl (fun _ h=>y6u h) (.same .nil)))))⟩) (z8 Tryz.call68 (.r4 rfl rfl rfl rfl)) (.s3 .h6 .here .here) (ccz hz (.s3 .h6 .here .here) .h2 fun w pz ho=>Calls.mono (y6k _ _ _ _ _ _ _ _ _ _ _ _ _ _ _ _ _ _ _ _ _ _ (z9g:=70) (zdo:=[]) _ _ _ _ _ (zb3:=(fun (y0 : z2) (y1 : z2)=>y3a y0 y1)) _ _ _ zHZ w pz ((zdv.mono ((Zle.left _ _).trans zy)).weak (fun _ _ h=>y2d ((Zle.left _ _).trans zy) h)) ((zdw.mono ((Zle.left _ _).trans zy)).weak (fun _ _ h=>y2r ((Zle.left _ _).trans zy) h)) (zdx.mono ((Zle.left _ _).trans zy)) (zbt.mono ((Zle.left _ _).trans zy)) ((z7N.mono ((Zle.left _ _).trans zy)).weak (fun _ _ h=>y29 ((Zle.left _ _).trans zy) h)) (zdy.mono ((Zle.left _ _).trans zy)) ((zdz.mono ((Zle.left _ _).trans zy)).weak (fun _ _ h=>y2s ((Zle.left _ _).trans zy) h)) (zdA.mono ((Zle.left _ _).trans zy)) ((zbu.mono ((Zle.left _ _).trans zy)).weak (fun _ _ h=>y2v ((Zle.left _ _).trans zy) h)) Tryz.call70 (fun w' hz' y0 y1  r  hr=>yaP _ _ _ _ hr w' hz' ) ho) (fun _ _ h'=>⟨h'.1,trivial,h'.2⟩)) ?_)))
       intro _
       refine WD.call0 (i:=23) (dd:=87) rfl (by kernel_rfl) rfl rfl rfl (.inl ⟨rfl,(by exact (Sin.wk (.s3 .here .here .h1) (.stb (.cons rfl (.cons rfl .nil)) (.any rfl (fun _ h=>y6u h) (.same .nil)))))⟩) (z8 Tryz.call68 (.r4 rfl rfl rfl rfl)) (.s3 .here .here .here) (ccz hz (.s3 .here .here .here) .h2 fun w pz ho=>Calls.mono (y6k _ _ _ _ _ _ _ _ _ _ _ _ _ _ _ _ _ _ _ _ _ _ (z9g:=69) (zdo:=[]) _ _ _ _ _ (zb3:=(fun (y0 : z2) (y1 : z2)=>y1d y0 y1)) _ _ _ zI0 w pz ((zdv.mono ((Zle.left _ _).trans zy)).weak (fun _ _ h=>y2d ((Zle.left _ _).trans zy) h)) ((zdw.mono ((Zle.left _ _).trans zy)).weak (fun _ _ h=>y2r ((Zle.left _ _).trans zy) h)) (zdx.mono ((Zle.left _ _).trans zy)) (zbt.mono ((Zle.left _ _).trans zy)) ((z7N.mono ((Zle.left _ _).trans zy)).weak (fun _ _ h=>y29 ((Zle.left _ _).trans zy) h)) (zdy.mono ((Zle.left _ _).trans zy)) ((zdz.mono ((Zle.left _ _).trans zy)).weak (fun _ _ h=>y2s ((Zle.left _ _).trans zy) h)) (zdA.mono ((Zle.left _ _).trans zy)) ((zbu.mono ((Zle.left _ _).trans zy)).weak (fun _ _ h=>y2v ((Zle.left _ _).trans zy) h)) Tryz.call69 (fun w' hz' y0 y1  r  hr=>y5S _ _ _ _ hr w' hz' ) ho) (fun _ _ h'=>⟨h'.1,trivial,h'.2⟩)) ?_
       intro _
       refine WD.y3A (i:=24) rfl (by kernel_rfl) rfl rfl rfl (by kernel_rfl) (yk zq rfl rfl rfl .h4 rfl rfl rfl) (WD.done (by kernel_rfl) (WX.a ?_))
       obtain ⟨zI1,h⟩:=ym h
       refine WC.yP (fun i=>[9,10].contains i) [y7c zra 62 [(2,(.int .i64 z1B.1.fLink))]] rfl (WD.pA 0 88 rfl (fun _=>q_m rfl) (WD.pA 1 89 rfl (fun _=>ya yb8 rfl rfl) (WD.sA 2 90 rfl (Sin.wk (.cons .h4 .nil) (.stb (.cons rfl .nil) .nil)) (yc yw rfl (y5C .here (.head _))) (WD.pA 3 91 rfl (fun _=>q_m rfl) (WD.pA 4 92 rfl (fun _=>ya yb8 rfl rfl) (WD.qA 5 93 rfl (yc yw rfl (yj .h4 rfl)) (WD.qA 6 94 rfl (y3l (k:=z1B.1.fLink) (dflt:=(((none,0),[]) : (Option Addr × Nat) × List Int)) y5e Tryz.underlying165 zns rfl rfl rfl (.there .h7)) (WD.gh (fun _ h=>Hp.yaL z1B.1.fLink ziP (.there (.there .h7)) h) ?_))))))))
       rintro ⟨zI2,zI3⟩ zI4
       refine WD.repin (i:=94) rfl (u:=(.slice zI2 ((yn z1O z1B.1.fLink []).length) zI3)) (congrArg slv zI4) (WD.pA 7 95 rfl (fun _=>q_m rfl) (WD.new (i:=8) (dd:=96) rfl (by kernel_rfl) rfl rfl rfl (yX (cs:=([zL] : List Int).flatMap e3) zhV (Eos.parts (l:=[.tmp 95]) (.cons rfl .nil) [0]) (fun _=>by kernel_rfl) rfl (by unfold maxLen; omega)) (fun h'=>absurd h' (by decide)) ?_))
       intro zI5 _
       refine WD.old (i:=9) (dd:=97) rfl (by kernel_rfl) rfl rfl rfl rfl (fun _=>(Sin.wk (.cons .h7 .nil) (.stb (.cons rfl .nil) .nil))) (y4M (enc:=e3) (l1:=yn z1O z1B.1.fLink []) (l2:=([zL] : List Int)) zhV rfl rfl .h1 (fun _=>rfl) rfl rfl (y4d .here) (y5a e3_oc _) zI1) ?_
       rintro ⟨zlD,zlE⟩ _
       refine WD.y3A (i:=10) rfl (by kernel_rfl) rfl rfl rfl (by kernel_rfl) (y5u (k:=z1B.1.fLink) (v:=(((zlD,zlE),(yn z1O z1B.1.fLink []) ++ ([zL] : List Int)) : (Option Addr × Nat) × List Int)) y5e Tryz.underlying165 rfl rfl rfl rfl (.there (.there (.there (.there .h7))))) (WD.ghL (fun _ h=>Hp.yfk (k:=z1B.1.fLink) (.s2 .h1 .h2) h) (WD.ghL (M:=[yy z3N (Value.int .i64) slv (y6d (yJ z5Y z1B.1.fLink ((0,(zlD,zlE)),(yn z1O z1B.1.fLink []) ++ ([zL] : List Int)))),y54 (y55 3 1 e3) (yJ z5Y z1B.1.fLink ((0,(zlD,zlE)),(yn z1O z1B.1.fLink []) ++ ([zL] : List Int))),row (.slice (some ⟨zI5,0,none⟩) (([zL] : List Int).length) 1) 3 1 (([zL] : List Int).flatMap e3),stb zlC 132 [(.int .i64 z7M.1.fN),(.int .i64 z7M.1.fD)],stb z1U 95 [(.slice z4a za.fModules.length z4b),(.slice z4c za.fChannels.length z4d),(.slice z4e za.fSwitches.length z4f),(.slice z4g za.fLinks.length z4h),(.slice z4i za.fVLs.length z4j),(.slice z4k za.fHealth.length z4l),(.slice z4m za.fCauses.length z4n),(.slice z4o za.fVersions.length z4p),(.slice z3c zK.length z3d),(.map (some z1s)),(.map (some z1u)),(.int .i64 z7M.2)],yy z1s (fun x=>Value.agg (y2e x).toArray) (fun x=>Value.agg (yu x).toArray) z2d,yy z1u (fun x=>Value.agg (e97 x).toArray) (Value.int .i64) zZ,stb zra 62 [(.int .i64 z1B.1.fNode),(.int .i64 z1B.1.fNext),(.int .i64 z1B.1.fLink)],fz z3q,row (.slice z7O z2c.length z7P) 173 1 z6q,stb z3p 97 [(.int .i64 zD.fNode),(.int .i64 zD.fLink)]]) (fun _ h=>Hp.reMap .h1 (yd4 _ _ _ _).symm h) (WD.done (by kernel_rfl) ?_)))
       exact WX.mid ⟨z2c,z7M.2,(yJ z1O z1B.1.fLink ((yn z1O z1B.1.fLink []) ++ ([zL] : List Int))),z7M.1.fN,z7M.1.fD,z3q,z7O,z7P,z6q,(yJ z5Y z1B.1.fLink ((0,(zlD,zlE)),(yn z1O z1B.1.fLink []) ++ ([zL] : List Int)))⟩ ⟨h,(Zle.refl _),zlB,(dat_mput ziP _ _ _)⟩ (.r11 rfl rfl rfl rfl rfl rfl rfl rfl rfl rfl rfl) (.s9 (.there .h7) (.there .h7) .h4 .h7 .here .here .h1 .h1 .h1)
      ·replace h:=yp h zrb
       obtain ⟨z3L,zI6,h⟩:=z7 h
       obtain ⟨zI7,h⟩:=ym h
       refine WC.yP (fun i=>[4,8].contains i) [stb zlC 132 [(.int .i64 z2e.fN),(.int .i64 z2e.fD)]] rfl (WD.pA 0 98 rfl (fun _=>q_m rfl) (WD.sA 1 99 rfl (Sin.of (.cons .h1 .nil)) (yf zb rfl (yh .here) rfl) (WD.pA 2 100 rfl (fun _=>q_m rfl) (WD.pA 3 101 rfl (fun _=>q_m rfl) (WD.call0 (i:=4) (dd:=102) rfl (by kernel_rfl) rfl rfl rfl (.inl ⟨rfl,(Sin.of (.cons .h3 .nil))⟩) (z8 Tryz.call71 (.r2 rfl rfl)) (.s2 (.there .h7) (.there .h7)) (cclz hz (.s2 (.there .h7) (.there .h7)) .h2 (.cons .h4 .nil) fun w pz ho la=>Calls.mono (y6X _ _ _ _ _ _ _ _ _ _ _ _ _ _ _ _ _ _ _ _ _ _ _ _ _ _ _ _ _ zI6 w pz ((((zdv.mono ((Zle.left _ _).trans zy)).weak (fun _ _ h=>y2d ((Zle.left _ _).trans zy) h)).mono (Zle.left _ _)).weak (fun _ _ h=>y2d (Zle.left _ _) h)) ((((zdw.mono ((Zle.left _ _).trans zy)).weak (fun _ _ h=>y2r ((Zle.left _ _).trans zy) h)).mono (Zle.left _ _)).weak (fun _ _ h=>y2r (Zle.left _ _) h)) ((zdx.mono ((Zle.left _ _).trans zy)).mono (Zle.left _ _)) ((zbt.mono ((Zle.left _ _).trans zy)).mono (Zle.left _ _)) ((((z7N.mono ((Zle.left _ _).trans zy)).weak (fun _ _ h=>y29 ((Zle.left _ _).trans zy) h)).mono (Zle.left _ _)).weak (fun _ _ h=>y29 (Zle.left _ _) h)) ((zdy.mono ((Zle.left _ _).trans zy)).mono (Zle.left _ _)) ((((zdz.mono ((Zle.left _ _).trans zy)).weak (fun _ _ h=>y2s ((Zle.left _ _).trans zy) h)).mono (Zle.left _ _)).weak (fun _ _ h=>y2s (Zle.left _ _) h)) ((zdA.mono ((Zle.left _ _).trans zy)).mono (Zle.left _ _)) ((((zbu.mono ((Zle.left _ _).trans zy)).weak (fun _ _ h=>y2v ((Zle.left _ _).trans zy) h)).mono (Zle.left _ _)).weak (fun _ _ h=>y2v (Zle.left _ _) h)) ((la _ (.head _) _).stb) ho) (fun _ _ h'=>⟨h'.1,trivial,h'.2⟩)) ?_)))))
       intro _
       refine WD.pA 5 103 rfl (fun _=>yL (v:=(.agg #[(.int .i64 z2e.fN),(.int .i64 z2e.fD),(.int .i64 z3L.fN),(.int .i64 z3L.fD)])) (Eos.parts (l:=[.tmp 99,.tmp 102]) (.r2 rfl rfl) [0,1]) (fun _=>by kernel_rfl)) (WD.new (i:=6) (dd:=104) rfl (by kernel_rfl) rfl rfl rfl (yX (cs:=([(⟨z2e,z3L⟩ : z6)] : List z6).flatMap y1x) z5P (Eos.parts (l:=[.tmp 103]) (.cons rfl .nil) [0]) (fun _=>by kernel_rfl) rfl (by unfold maxLen; omega)) (fun h'=>absurd h' (by decide)) ?_)
       intro zfJ _
       refine WD.freezeS (ls:=([(⟨z2e,z3L⟩ : z6)] : List z6)) .here .h4 hz (RR.flat (enc:=y1x) (fun _=>rfl) _) ?_
       intro zlF zz8 zI8
       have zz9 : RR 1 (y1P (Z ++ zlF)) [(.slice (some ⟨zfJ,0,none⟩) (([(⟨z2e,z3L⟩ : z6)] : List z6).length) 1)] ([([(⟨z2e,z3L⟩ : z6)] : List z6)] : List (List z6)):=(RR.cons (r:=[(.slice (some ⟨zfJ,0,none⟩) (([(⟨z2e,z3L⟩ : z6)] : List z6).length) 1)]) rfl (show y1P _ _ _ from ⟨_,_,rfl,zI8⟩) (RR.nil _ _))
       refine WD.new (i:=7) (dd:=105) rfl (by kernel_rfl) rfl rfl rfl (yX (cs:=[(.slice (some ⟨zfJ,0,none⟩) (([(⟨z2e,z3L⟩ : z6)] : List z6).length) 1)]) z6X (Eos.parts (l:=[.tmp 104]) (.cons rfl .nil) [0]) (fun _=>by kernel_rfl) rfl (by unfold maxLen; omega)) (fun h'=>absurd h' (by decide)) ?_
       intro zTY _
       have zI9 : RR 1 (y1P (Z ++ zlF)) (z6q ++ [(.slice (some ⟨zfJ,0,none⟩) (([(⟨z2e,z3L⟩ : z6)] : List z6).length) 1)]) (z2c ++ ([([(⟨z2e,z3L⟩ : z6)] : List z6)] : List (List z6))):=RR.app (zlB.weak (fun _ _ h=>y37 zz8 h)) zz9
       refine WD.old (i:=8) (dd:=106) rfl (by kernel_rfl) rfl rfl rfl rfl (fun _=>(Sin.of (.cons .h6 .nil))) (yax (l1:=z2c) (l2:=([([(⟨z2e,z3L⟩ : z6)] : List z6)] : List (List z6))) (news:=[(.slice (some ⟨zfJ,0,none⟩) (([(⟨z2e,z3L⟩ : z6)] : List z6).length) 1)]) (Pr:=(y1P (Z ++ zlF))) z6X rfl rfl .h6 zz9 (y4d .here) (ycv rfl ydx) zI7) ?_
       rintro ⟨zIa,zIb⟩ _
       refine WD.pA 9 6 rfl (fun _=>q_z rfl) (WD.done (by kernel_rfl) ?_)
       exact WX.mid ⟨(z2c ++ ([([(⟨z2e,z3L⟩ : z6)] : List z6)] : List (List z6))),z3K,z1O,z2e.fN,z2e.fD,zlF,zIa,zIb,(z6q ++ [(.slice (some ⟨zfJ,0,none⟩) (([(⟨z2e,z3L⟩ : z6)] : List z6).length) 1)]),z5Y⟩ ⟨h,zz8,zI9,ziP⟩ (.r11 rfl rfl rfl rfl rfl rfl rfl rfl rfl rfl rfl) (.s9 .h2 .here .h5 .h5 .h5 .h5 .h4 .h1 .h1)
     ·rintro z7h z9m z9n z7K z7L zdD zfG zfH zfI zdE ⟨h,zIc,zId,zIe⟩
      replace h:=(zHT z7h z9m z9n z7K z7L).symm.trans h
      refine WC.yP (fun i=>[8].contains i) [] rfl (WD.pA 0 107 rfl (fun _=>q_m rfl) (WD.pA 1 108 rfl (fun _=>y11 rfl) (WD.pA 2 109 rfl (fun _=>ya ycA rfl rfl) (WD.qA 3 110 rfl (yc ycB rfl (yj .h2 rfl)) (WD.pA 4 111 rfl (fun _=>q_m rfl) (WD.qA 5 112 rfl (yf y3H rfl (yh .h3) rfl) (WD.pA 6 113 rfl (fun _=>yL (v:=(.agg #[(.int .i64 zL),(.int .i64 zD.fNode),(.int .i64 zD.fLink)])) (Eos.parts (l:=[.tmp 111,.tmp 112]) (.r2 rfl rfl) [0,1]) (fun _=>by kernel_rfl)) (WD.qA 7 114 rfl (yf zb rfl (yh .h6) rfl) (WD.y3A (i:=8) rfl (by kernel_rfl) rfl rfl rfl (by kernel_rfl) (y5u (k:=(⟨zL,zD⟩ : Sbound_flow)) (v:=(⟨z7K,z7L⟩ : z2)) znr Tryz.underlying92 rfl rfl rfl rfl .h7) (WD.done (by kernel_rfl) (WX.yq ?_)))))))))))
      exact WX.mid ⟨z7h,(max z4M ((nth za.fVLs zL).fMax)),z9m,z9n,(yJ z2d (⟨zL,zD⟩ : Sbound_flow) (⟨z7K,z7L⟩ : z2)),zdD,zfG,zfH,zfI,zdE⟩ ⟨h,zIc,zId,zIe⟩ (.r9 rfl rfl rfl rfl rfl rfl rfl rfl rfl) (.s8 .h1 .h1 .h1 .h1 .h1 .h1 .here .h1)
   ·rintro z7g z9i z9j z9k z9l zdB zfD zfE zfF zdC ⟨h,zIf,zIg,zIh⟩
    replace h:=(zHK z7g z9i z9j z9k z9l).symm.trans h
    refine WC.a (WL.pu rfl (WL.pu rfl (WL.nil ?_)))
    exact WX.round ⟨zr3,z7g,z9i,(i64 (zL + 1)),z9j,z9k,z9l,zdB,zfD,zfE,zfF,zdC⟩ ⟨h,(zy.trans zIf),zIg,zIh⟩ (Nat.lt_succ_self _) (.r9 rfl rfl rfl rfl rfl rfl rfl rfl rfl) (.s8 .here .here .here .here .here .here .here .here)
  ·replace h:=yp h zr8
   refine WC.exit (WX.yg (WX.yg (WX.yA ?_)))
   exact WX.mid ⟨z2c,z4M,z3K,z1O,z2d,z3q,z7O,z7P,z6q,z5Y⟩ ⟨h,zy,zlB,ziP⟩ (.r6 rfl rfl rfl rfl rfl rfl) (.s8 .here .here .here .here .here .here .here .here)
 ·rintro z2g z5X z9v z1j z1C z9w z5b z5c z6p z5x ⟨h,zT,zIi,zlG⟩
  replace h:=(zHJ z2g z5X z9v z1j z1C).symm.trans h
  obtain ⟨z9q,zIj,h⟩:=y4t h
  refine WC.y9Q (fun (z5w : List (List z6)) (zbs : Int) (z9x : Zp) (ziQ : Option Addr) (ziR : Nat) (zbv : List Value)=>(z9q z5w zbs = some r) ∧ (Zle (Z ++ z9w) (Z ++ z9x)) ∧ (RR 1 (y1P (Z ++ z9x)) zbv z5w)) (fun z5w zbs z9x ziQ ziR zbv=>[(6,(.slice z5b z2g.length z5c)),(7,(.slice ziQ z5w.length ziR)),(9,(.int .i64 z5X))]) (fun z5w zbs z9x ziQ ziR zbv=>[fz z9x,row (.slice z5b z2g.length z5c) 173 1 z6p,row (.slice ziQ z5w.length ziR) 173 1 zbv,stb z1U 95 [(.slice z4a za.fModules.length z4b),(.slice z4c za.fChannels.length z4d),(.slice z4e za.fSwitches.length z4f),(.slice z4g za.fLinks.length z4h),(.slice z4i za.fVLs.length z4j),(.slice z4k za.fHealth.length z4l),(.slice z4m za.fCauses.length z4n),(.slice z4o za.fVersions.length z4p),(.slice z3c zK.length z3d),(.map (some z1s)),(.map (some z1u)),(.int .i64 zbs)],yy z1s (fun x=>Value.agg (y2e x).toArray) (fun x=>Value.agg (yu x).toArray) z1C,yy z1u (fun x=>Value.agg (e97 x).toArray) (Value.int .i64) zZ]) ?_ ?_
  ·skip
   refine WC.b (WC.a (WL.pu rfl (WL.qA 117 (y11 rfl) (WL.qA 118 (ya y6a rfl rfl) (WL.qA 119 (ya y7T rfl rfl) (WL.qA 120 (yc y7U rfl (yj .h2 rfl)) (WL.qA 121 (yG Tryz.underlying25 rfl) (WL.pu rfl (WL.nil (WX.a (WC.block (WC.nilRow 173 1 (WC.y9R (fun (zfK : Nat) (z21 : List (List z6)) (zx : Int) (z5a : Int) (z5d : Zp) (z6r : Option Addr) (z6s : Nat) (z6t : List Value)=>(y2m za z1j zK z1C zZ zD z9q zfK z21 zx z5a = some r) ∧ (Zle (Z ++ z9w) (Z ++ z5d)) ∧ (RR 1 (y1P (Z ++ z5d)) z6t z21)) (fun zfK z21 zx z5a z5d z6r z6s z6t=>[(0,(.pointer (some ⟨z1U,0,none⟩))),(3,(.pointer (some ⟨z3p,0,none⟩))),(6,(.slice z5b z2g.length z5c)),(7,(.slice z6r z21.length z6s)),(8,(.map (some z3N))),(9,(.int .i64 z5X)),(121,(.int .i64 ((za.fLinks.length : Nat) : Int))),(122,(.int .i64 zx))]) (fun zfK z21 zx z5a z5d z6r z6s z6t=>[fz z5d,row (.slice z5b z2g.length z5c) 173 1 z6p,row (.slice z6r z21.length z6s) 173 1 z6t,stb z1U 95 [(.slice z4a za.fModules.length z4b),(.slice z4c za.fChannels.length z4d),(.slice z4e za.fSwitches.length z4f),(.slice z4g za.fLinks.length z4h),(.slice z4i za.fVLs.length z4j),(.slice z4k za.fHealth.length z4l),(.slice z4m za.fCauses.length z4n),(.slice z4o za.fVersions.length z4p),(.slice z3c zK.length z3d),(.map (some z1s)),(.map (some z1u)),(.int .i64 z5a)],stb z3p 97 [(.int .i64 zD.fNode),(.int .i64 zD.fLink)],yy z3N (Value.int .i64) slv (y6d z5x),y54 (y55 3 1 e3) z5x,yy z1s (fun x=>Value.agg (y2e x).toArray) (fun x=>Value.agg (yu x).toArray) z1C,yy z1u (fun x=>Value.agg (e97 x).toArray) (Value.int .i64) zZ]) (fun zfK z21 zx z5a z5d z6r z6s z6t=>zfK) ⟨yz,([] : List (List z6)),0,z9v,z9w,none,0,[]⟩ ⟨h,(Zle.refl _),(RR.nil _ _)⟩ (.r8 rfl rfl rfl rfl rfl rfl rfl rfl) (.s9 .h1 .h1 .here .here .here .here .here .here .here) ?_)))))))))))))
   rintro zfK z21 zx z5a z5d z6r z6s z6t ⟨h,zP,zrc⟩
   obtain ⟨zr7,rfl⟩:=y8d h
   rw [y2m] at h
   refine WC.b (WC.a (WL.pu rfl (WL.nil (WX.a (WC.b (WC.cond rfl (fun zrd=>?_) (fun zrd=>?_)))))))
   ·replace h:=yo h zrd
    refine WC.skip (WX.a ?_)
    obtain ⟨zlA,zIk,h⟩:=y4t h
    refine WC.y9Q (fun (z7j : List (List z6)) (z9r : Int) (zdF : Zp) (zfL : Option Addr) (zfM : Nat) (zfN : List Value)=>(zlA z7j z9r = some r) ∧ (Zle (Z ++ z5d) (Z ++ zdF)) ∧ (RR 1 (y1P (Z ++ zdF)) zfN z7j)) (fun z7j z9r zdF zfL zfM zfN=>[(0,(.pointer (some ⟨z1U,0,none⟩))),(3,(.pointer (some ⟨z3p,0,none⟩))),(6,(.slice z5b z2g.length z5c)),(7,(.slice zfL z7j.length zfM)),(8,(.map (some z3N))),(9,(.int .i64 z5X)),(121,(.int .i64 ((za.fLinks.length : Nat) : Int))),(122,(.int .i64 zx))]) (fun z7j z9r zdF zfL zfM zfN=>[fz zdF,row (.slice z5b z2g.length z5c) 173 1 z6p,row (.slice zfL z7j.length zfM) 173 1 zfN,stb z1U 95 [(.slice z4a za.fModules.length z4b),(.slice z4c za.fChannels.length z4d),(.slice z4e za.fSwitches.length z4f),(.slice z4g za.fLinks.length z4h),(.slice z4i za.fVLs.length z4j),(.slice z4k za.fHealth.length z4l),(.slice z4m za.fCauses.length z4n),(.slice z4o za.fVersions.length z4p),(.slice z3c zK.length z3d),(.map (some z1s)),(.map (some z1u)),(.int .i64 z9r)],stb z3p 97 [(.int .i64 zD.fNode),(.int .i64 zD.fLink)],yy z3N (Value.int .i64) slv (y6d z5x),y54 (y55 3 1 e3) z5x,yy z1s (fun x=>Value.agg (y2e x).toArray) (fun x=>Value.agg (yu x).toArray) z1C,yy z1u (fun x=>Value.agg (e97 x).toArray) (Value.int .i64) zZ]) ?_ ?_
    ·skip
     refine WC.block (WC.b (WC.a (WL.pu rfl (WL.pu rfl (WL.nil (WX.a (WC.b (WC.b (WC.a (WL.pu rfl (WL.pu rfl (WL.qA 127 (y3l (k:=zx) (dflt:=(((none,0),[]) : (Option Addr × Nat) × List Int)) y5e Tryz.underlying165 zns rfl rfl rfl .h5) (WL.gh (fun _ h=>Hp.yaL zx zlG .h6 h) ?_)))))))))))))
     rintro ⟨zIl,zIm⟩ zza
     refine WL.repin (i:=127) rfl (u:=(.slice zIl ((yn z1j zx []).length) zIm)) (congrArg slv zza) (WL.qA 128 (yG Tryz.underlying109 rfl) (WL.pu rfl (WL.ghL (fun _ h=>Hp.yd5 zlG zza (.s2 .here .here) h) (WL.nil (WX.a (WC.cond rfl (fun zre=>?_) (fun zre=>?_)))))))
     ·replace h:=yo h zre
      refine WC.exit (WX.yg (WX.yA ?_))
      exact WX.mid ⟨z21,z5a,z5d,z6r,z6s,z6t⟩ ⟨h,(Zle.refl _),zrc⟩ (.r8 rfl rfl rfl rfl rfl rfl rfl rfl) (.s9 .h1 .h1 .h1 .h1 .h1 .h1 .here .here .here)
     ·replace h:=yp h zre
      refine WC.skip (WX.a (WC.b ?_))
      obtain ⟨zdt,zIn,h⟩:=z7 h
      obtain ⟨zdu,zIo,h⟩:=z7 h
      refine WC.a (WL.cA 130 (z8 Tryz.call43 (.cons rfl .nil)) .nil (ccz hz .nil .h1 fun w pz ho=>y4x _ _ _ zIn w pz ) (WL.cA 131 (z8 Tryz.call43 (.cons rfl .nil)) .nil (ccz hz .nil .h1 fun w pz ho=>y4x _ _ _ zIo w pz ) (WL.qA 132 (yL (v:=(.agg #[(.int .i64 zdt.fN),(.int .i64 zdt.fD),(.int .i64 zdu.fN),(.int .i64 zdu.fD)])) (Eos.parts (l:=[.tmp 130,.tmp 131]) (.r2 rfl rfl) [0,1]) (fun _=>by kernel_rfl)) (WL.nA 16 (yx (cs:=[(.int .i64 0),(.int .i64 0),(.int .i64 0),(.int .i64 0)]) z8K rfl) ?_))))
      intro ziS _
      refine WL.yl rfl rfl (yk z7C rfl rfl rfl .here rfl rfl rfl) (WL.nil (WX.a (WC.b (WC.a (WL.pu rfl (WL.nil (WX.a ?_)))))))
      obtain ⟨z9o,zIp,h⟩:=jp6_elim h
      refine WC.y9Q (fun (zbr : Int) (z9s : Int) (z2A : Int) (z2B : Int) (z2C : Int) (z2D : Int)=>(z9o zbr z9s z2A z2B z2C z2D = some r)) (fun zbr z9s z2A z2B z2C z2D=>[(0,(.pointer (some ⟨z1U,0,none⟩))),(3,(.pointer (some ⟨z3p,0,none⟩))),(6,(.slice z5b z2g.length z5c)),(7,(.slice z6r z21.length z6s)),(8,(.map (some z3N))),(9,(.int .i64 z5X)),(15,(.int .i64 zx)),(16,(.pointer (some ⟨ziS,0,none⟩))),(17,(.int .i64 zbr)),(121,(.int .i64 ((za.fLinks.length : Nat) : Int))),(122,(.int .i64 zx))]) (fun zbr z9s z2A z2B z2C z2D=>[fz z5d,row (.slice z5b z2g.length z5c) 173 1 z6p,row (.slice z6r z21.length z6s) 173 1 z6t,stb z1U 95 [(.slice z4a za.fModules.length z4b),(.slice z4c za.fChannels.length z4d),(.slice z4e za.fSwitches.length z4f),(.slice z4g za.fLinks.length z4h),(.slice z4i za.fVLs.length z4j),(.slice z4k za.fHealth.length z4l),(.slice z4m za.fCauses.length z4n),(.slice z4o za.fVersions.length z4p),(.slice z3c zK.length z3d),(.map (some z1s)),(.map (some z1u)),(.int .i64 z9s)],stb z3p 97 [(.int .i64 zD.fNode),(.int .i64 zD.fLink)],yy z3N (Value.int .i64) slv (y6d z5x),y54 (y55 3 1 e3) z5x,stb ziS 171 [(.int .i64 z2A),(.int .i64 z2B),(.int .i64 z2C),(.int .i64 z2D)],yy z1s (fun x=>Value.agg (y2e x).toArray) (fun x=>Value.agg (yu x).toArray) z1C,yy z1u (fun x=>Value.agg (e97 x).toArray) (Value.int .i64) zZ]) ?_ ?_
      ·skip
       refine WC.b (WC.a (WL.pu rfl (WL.pu rfl (WL.qA 135 (y3l (k:=zx) (dflt:=(((none,0),[]) : (Option Addr × Nat) × List Int)) y5e Tryz.underlying165 zns rfl rfl rfl .h7) (WL.gh (fun _ h=>Hp.yaL zx zlG .h1 h) ?_)))))
       rintro ⟨zrf,zrg⟩ zzb
       refine WL.repin (i:=135) rfl (u:=(.slice zrf ((yn z1j zx []).length) zrg)) (congrArg slv zzb) (WL.qA 136 (yG Tryz.underlying109 rfl) (WL.pu rfl (WL.nil (WX.a (WC.block (WC.y9R (fun (zfO : Nat) (z5U : Int) (z2f : Int) (z6o : Int) (z5V : Int) (z5W : Int) (z58 : Int) (z59 : Int)=>(y2l z1j zx za zK z1C zZ zD z9o zfO z5U z2f z6o z5V z5W z58 z59 = some r)) (fun zfO z5U z2f z6o z5V z5W z58 z59=>[(0,(.pointer (some ⟨z1U,0,none⟩))),(3,(.pointer (some ⟨z3p,0,none⟩))),(6,(.slice z5b z2g.length z5c)),(7,(.slice z6r z21.length z6s)),(8,(.map (some z3N))),(9,(.int .i64 z5X)),(15,(.int .i64 zx)),(16,(.pointer (some ⟨ziS,0,none⟩))),(17,(.int .i64 z5U)),(121,(.int .i64 ((za.fLinks.length : Nat) : Int))),(122,(.int .i64 zx)),(135,(.slice zrf ((yn z1j zx []).length) zrg)),(136,(.int .i64 (((yn z1j zx []).length : Nat) : Int))),(137,(.int .i64 z2f))]) (fun zfO z5U z2f z6o z5V z5W z58 z59=>[fz z5d,row (.slice z5b z2g.length z5c) 173 1 z6p,row (.slice z6r z21.length z6s) 173 1 z6t,row (.slice zrf ((yn z1j zx []).length) zrg) 3 1 ((yn z1j zx []).flatMap e3),stb z1U 95 [(.slice z4a za.fModules.length z4b),(.slice z4c za.fChannels.length z4d),(.slice z4e za.fSwitches.length z4f),(.slice z4g za.fLinks.length z4h),(.slice z4i za.fVLs.length z4j),(.slice z4k za.fHealth.length z4l),(.slice z4m za.fCauses.length z4n),(.slice z4o za.fVersions.length z4p),(.slice z3c zK.length z3d),(.map (some z1s)),(.map (some z1u)),(.int .i64 z6o)],stb z3p 97 [(.int .i64 zD.fNode),(.int .i64 zD.fLink)],yy z3N (Value.int .i64) slv (y6d z5x),y54 (y55 3 1 e3) (y7w zx z5x),stb ziS 171 [(.int .i64 z5V),(.int .i64 z5W),(.int .i64 z58),(.int .i64 z59)],yy z1s (fun x=>Value.agg (y2e x).toArray) (fun x=>Value.agg (yu x).toArray) z1C,yy z1u (fun x=>Value.agg (e97 x).toArray) (Value.int .i64) zZ]) (fun zfO z5U z2f z6o z5V z5W z58 z59=>zfO) ⟨yz,0,0,z5a,zdt.fN,zdt.fD,zdu.fN,zdu.fD⟩ h (.r14 rfl rfl rfl rfl rfl rfl rfl rfl rfl rfl rfl rfl rfl rfl) (.s11 .h3 .h3 .h3 .here .h2 .h2 .h2 .here .here .here .here) ?_))))))
       rintro zfO z5U z2f z6o z5V z5W z58 z59 h
       obtain ⟨zr6,rfl⟩:=y8c h
       rw [y2l] at h
       refine WC.b (WC.a (WL.pu rfl (WL.nil (WX.a (WC.b (WC.cond rfl (fun zrh=>?_) (fun zrh=>?_)))))))
       ·replace h:=yo h zrh
        refine WC.skip (WX.a (WC.b (WC.block (WC.b ?_))))
        obtain ⟨ziT,h⟩:=ym h
        refine WC.a (WL.know (fun w hw=>Hp.y31 .h3 hw (by intro hz'; have:=ziT; rw [hz'] at this; omega)) ?_)
        rintro ⟨zTZ,rfl⟩
        refine WL.qA 139 (y17 zhV rfl rfl ziT.1 ziT.2 y3S) (WL.qA 140 (yc yw rfl (ydv .h3 ((y3e (enc:=e3) (l:=yn z1j zx []) (i:=z2f) (sz:=1) (fun _=>rfl) ziT.1 ziT.2) 0 _ rfl))) (WL.pu rfl (WL.nil (WX.a (WC.b ?_)))))
        obtain ⟨z7i,zIq,h⟩:=z7 h
        obtain ⟨zz3,zIr,h⟩:=z7 h
        obtain ⟨z9p,zIs,h⟩:=z7 h
        refine WC.yP (fun i=>[11,17,18,20,22].contains i) [y7c ziS 171 [(2,(.int .i64 z58)),(3,(.int .i64 z59))]] rfl (WD.pA 0 141 rfl (fun _=>q_m rfl) (WD.pA 1 142 rfl (fun _=>ya y4u rfl rfl) (WD.qA 2 143 rfl (yR (cs:=[(.int .i64 z5V),(.int .i64 z5W)]) zb rfl rfl (y30 (s:=2) (.there .h7) rfl)) (WD.pA 3 144 rfl (fun _=>q_m rfl) (WD.pA 4 145 rfl (fun _=>y11 rfl) (WD.pA 5 146 rfl (fun _=>ya ycA rfl rfl) (WD.qA 6 147 rfl (yc ycB rfl (yj .h4 rfl)) (WD.pA 7 148 rfl (fun _=>q_m rfl) (WD.qA 8 149 rfl (yf y3H rfl (yh .h5) rfl) (WD.pA 9 150 rfl (fun _=>yL (v:=(.agg #[(.int .i64 (nth (yn z1j zx []) z2f)),(.int .i64 zD.fNode),(.int .i64 zD.fLink)])) (Eos.parts (l:=[.tmp 148,.tmp 149]) (.r2 rfl rfl) [0,1]) (fun _=>by kernel_rfl)) (WD.qA 10 151 rfl (y3l (k:=(⟨(nth (yn z1j zx []) z2f),zD⟩ : Sbound_flow)) (dflt:=((⟨0,0⟩ : z2) : z2)) znr Tryz.underlying92 zH rfl rfl rfl (.there (.there .h7))) (WD.pA 12 153 rfl (fun _=>q_m rfl) (WD.pA 13 154 rfl (fun _=>ya y5v rfl rfl) (WD.sA 14 155 rfl (Sin.wk (.cons (.there .h7) .nil) (.stb (.cons rfl (.cons rfl .nil)) .nil)) (yR (cs:=[(.int .i64 z58),(.int .i64 z59)]) zb rfl rfl (y9Y .here ((.head _)) ((.tail _ (.head _))))) (WD.pA 15 156 rfl (fun _=>q_m rfl) (WD.pA 16 157 rfl (fun _=>q_m rfl) (WD.call0 (i:=11) (dd:=152) rfl (by kernel_rfl) rfl rfl rfl (.inl ⟨rfl,(Sin.wk (.cons (.there (.there (.there .h7))) .nil) (.stb (.cons rfl (.cons rfl .nil)) .nil))⟩) (z8 Tryz.call68 (.r4 rfl rfl rfl rfl)) (.s3 .h4 (.there .h7) (.there .h7)) (ccz hz (.s3 .h4 (.there .h7) (.there .h7)) .here fun w pz ho=>Calls.mono (y6k _ _ _ _ _ _ _ _ _ _ _ _ _ _ _ _ _ _ _ _ _ _ (z9g:=69) (zdo:=[]) _ _ _ _ _ (zb3:=(fun (y0 : z2) (y1 : z2)=>y1d y0 y1)) _ _ _ zIq w pz ((zdv.mono ((Zle.left _ _).trans (zT.trans zP))).weak (fun _ _ h=>y2d ((Zle.left _ _).trans (zT.trans zP)) h)) ((zdw.mono ((Zle.left _ _).trans (zT.trans zP))).weak (fun _ _ h=>y2r ((Zle.left _ _).trans (zT.trans zP)) h)) (zdx.mono ((Zle.left _ _).trans (zT.trans zP))) (zbt.mono ((Zle.left _ _).trans (zT.trans zP))) ((z7N.mono ((Zle.left _ _).trans (zT.trans zP))).weak (fun _ _ h=>y29 ((Zle.left _ _).trans (zT.trans zP)) h)) (zdy.mono ((Zle.left _ _).trans (zT.trans zP))) ((zdz.mono ((Zle.left _ _).trans (zT.trans zP))).weak (fun _ _ h=>y2s ((Zle.left _ _).trans (zT.trans zP)) h)) (zdA.mono ((Zle.left _ _).trans (zT.trans zP))) ((zbu.mono ((Zle.left _ _).trans (zT.trans zP))).weak (fun _ _ h=>y2v ((Zle.left _ _).trans (zT.trans zP)) h)) Tryz.call69 (fun w' hz' y0 y1  r  hr=>y5S _ _ _ _ hr w' hz' ) ho) (fun _ _ h'=>⟨h'.1,trivial,h'.2⟩)) ?_)))))))))))))))))
        intro _
        refine WD.pA 19 160 rfl (fun _=>ya y4u rfl rfl) (WD.call0 (i:=17) (dd:=158) rfl (by kernel_rfl) rfl rfl rfl (.inl ⟨rfl,(Sin.wk (.cons (.there (.there (.there .h7))) .nil) (.stb (.cons rfl (.cons rfl .nil)) .nil))⟩) (z8 Tryz.call71 (.r2 rfl rfl)) (.s2 .h1 .h1) (cclz hz (.s2 .h1 .h1) .h1 (.cons .here .nil) fun w pz ho la=>Calls.mono (y6X _ _ _ _ _ _ _ _ _ _ _ _ _ _ _ _ _ _ _ _ _ _ _ _ _ _ _ _ _ zIr w pz ((((zdv.mono ((Zle.left _ _).trans (zT.trans zP))).weak (fun _ _ h=>y2d ((Zle.left _ _).trans (zT.trans zP)) h)).mono (Zle.left _ _)).weak (fun _ _ h=>y2d (Zle.left _ _) h)) ((((zdw.mono ((Zle.left _ _).trans (zT.trans zP))).weak (fun _ _ h=>y2r ((Zle.left _ _).trans (zT.trans zP)) h)).mono (Zle.left _ _)).weak (fun _ _ h=>y2r (Zle.left _ _) h)) ((zdx.mono ((Zle.left _ _).trans (zT.trans zP))).mono (Zle.left _ _)) ((zbt.mono ((Zle.left _ _).trans (zT.trans zP))).mono (Zle.left _ _)) ((((z7N.mono ((Zle.left _ _).trans (zT.trans zP))).weak (fun _ _ h=>y29 ((Zle.left _ _).trans (zT.trans zP)) h)).mono (Zle.left _ _)).weak (fun _ _ h=>y29 (Zle.left _ _) h)) ((zdy.mono ((Zle.left _ _).trans (zT.trans zP))).mono (Zle.left _ _)) ((((zdz.mono ((Zle.left _ _).trans (zT.trans zP))).weak (fun _ _ h=>y2s ((Zle.left _ _).trans (zT.trans zP)) h)).mono (Zle.left _ _)).weak (fun _ _ h=>y2s (Zle.left _ _) h)) ((zdA.mono ((Zle.left _ _).trans (zT.trans zP))).mono (Zle.left _ _)) ((((zbu.mono ((Zle.left _ _).trans (zT.trans zP))).weak (fun _ _ h=>y2v ((Zle.left _ _).trans (zT.trans zP)) h)).mono (Zle.left _ _)).weak (fun _ _ h=>y2v (Zle.left _ _) h)) ((la _ (.head _) _).stb) ho) (fun _ _ h'=>⟨h'.1,trivial,h'.2⟩)) ?_)
        intro _
        refine WD.call0 (i:=18) (dd:=159) rfl (by kernel_rfl) rfl rfl rfl (.inl ⟨rfl,(Sin.wk (.cons (.there (.there (.there .h7))) .nil) (.stb (.cons rfl (.cons rfl .nil)) .nil))⟩) (z8 Tryz.call68 (.r4 rfl rfl rfl rfl)) (.s3 .h2 .here .here) (ccz hz (.s3 .h2 .here .here) .here fun w pz ho=>Calls.mono (y6k _ _ _ _ _ _ _ _ _ _ _ _ _ _ _ _ _ _ _ _ _ _ (z9g:=69) (zdo:=[]) _ _ _ _ _ (zb3:=(fun (y0 : z2) (y1 : z2)=>y1d y0 y1)) _ _ _ zIs w pz ((zdv.mono ((Zle.left _ _).trans (zT.trans zP))).weak (fun _ _ h=>y2d ((Zle.left _ _).trans (zT.trans zP)) h)) ((zdw.mono ((Zle.left _ _).trans (zT.trans zP))).weak (fun _ _ h=>y2r ((Zle.left _ _).trans (zT.trans zP)) h)) (zdx.mono ((Zle.left _ _).trans (zT.trans zP))) (zbt.mono ((Zle.left _ _).trans (zT.trans zP))) ((z7N.mono ((Zle.left _ _).trans (zT.trans zP))).weak (fun _ _ h=>y29 ((Zle.left _ _).trans (zT.trans zP)) h)) (zdy.mono ((Zle.left _ _).trans (zT.trans zP))) ((zdz.mono ((Zle.left _ _).trans (zT.trans zP))).weak (fun _ _ h=>y2s ((Zle.left _ _).trans (zT.trans zP)) h)) (zdA.mono ((Zle.left _ _).trans (zT.trans zP))) ((zbu.mono ((Zle.left _ _).trans (zT.trans zP))).weak (fun _ _ h=>y2v ((Zle.left _ _).trans (zT.trans zP)) h)) Tryz.call69 (fun w' hz' y0 y1  r  hr=>y5S _ _ _ _ hr w' hz' ) ho) (fun _ _ h'=>⟨h'.1,trivial,h'.2⟩)) ?_
        intro _
        refine WD.yfl (i:=20) rfl (by kernel_rfl) rfl rfl rfl (Sin.wk (.cons .here .nil) (.stb (.cons rfl (.cons rfl .nil)) .nil)) (y5T (ds:=[(.int .i64 z7i.1.fN),(.int .i64 z7i.1.fD),(.int .i64 z58),(.int .i64 z59)]) zq rfl rfl rfl rfl rfl (.there (.there (.there .h7))) rfl rfl) (WD.pA 21 161 rfl (fun _=>ya y5v rfl rfl) (WD.y3A (i:=22) rfl (by kernel_rfl) rfl rfl rfl (by kernel_rfl) (y5T (ds:=[(.int .i64 z7i.1.fN),(.int .i64 z7i.1.fD),(.int .i64 z9p.1.fN),(.int .i64 z9p.1.fD)]) zq rfl rfl rfl rfl rfl .here rfl rfl) (WD.done (by kernel_rfl) (WX.a ?_))))
        obtain ⟨zIt,h⟩:=ym h
        refine WC.a (WL.pu rfl (WL.pu rfl (WL.qA 164 (y11 rfl) (WL.qA 165 (ya y6a rfl rfl) (WL.qA 166 (ya y5D rfl rfl) (WL.qA 167 (yc y5E rfl (yj .h1 rfl)) (WL.pu rfl (WL.znth (dd:=169) rfl rfl (Z:=(Z ++ z5d)) (Pr:=(p46 (Z ++ z5d))) y89 rfl rfl ((z7N.mono ((Zle.left _ _).trans (zT.trans zP))).weak (fun _ _ h=>y29 ((Zle.left _ _).trans (zT.trans zP)) h)) zIt ?_))))))))
        rintro zU0 zU1 zIu zU2 ⟨zU3,zU4,rfl,zU5⟩
        refine WL.qA 170 (ya y7V rfl rfl) (WL.qA 171 (yc yw rfl (y1e (hz.pv2 .h4) zIu rfl)) (WL.qA 172 (q_max rfl rfl rfl) (WL.pu rfl (WL.nil (WX.yq (WX.a (WC.a (WL.pu rfl (WL.pu rfl (WL.nil ?_))))))))))
        exact WX.round ⟨zr6,(max z5U ((nth za.fVLs (nth (yn z1j zx []) z2f)).fMax)),(i64 (z2f + 1)),z9p.2,z7i.1.fN,z7i.1.fD,z9p.1.fN,z9p.1.fD⟩ h (Nat.lt_succ_self _) (.r14 rfl rfl rfl rfl rfl rfl rfl rfl rfl rfl rfl rfl rfl rfl) (.s11 .h4 .h4 .h4 .h4 .h1 .h3 .h3 .h3 .here .here .here)
       ·replace h:=yp h zrh
        refine WC.exit (WX.yg (WX.yg (WX.yA (WX.ghL (fun _ h=>Hp.yd5 zlG zzb (.s2 .h3 .h6) h) ?_))))
        exact WX.mid ⟨z5U,z6o,z5V,z5W,z58,z59⟩ h (.r11 rfl rfl rfl rfl rfl rfl rfl rfl rfl rfl rfl) (.s10 .h1 .h1 .h1 .h1 .h1 .h1 .here .here .here .here)
      ·rintro zbr z9s z2A z2B z2C z2D h
       replace h:=(zIp zbr z9s z2A z2B z2C z2D).symm.trans h
       obtain ⟨z3M,zIv,h⟩:=z7 h
       obtain ⟨zIw,h⟩:=ym h
       obtain ⟨zIx,h⟩:=ym h
       refine WC.yP (fun i=>[17].contains i) [] rfl (WD.pA 0 174 rfl (fun _=>q_m rfl) (WD.qA 1 175 rfl (yf z2a rfl (yh .h7) rfl) (WD.pA 2 176 rfl (fun _=>q_m rfl) (WD.eA 3 177 rfl (z8 Tryz.call43 (.cons rfl .nil)) (ccz hz .nil .here fun w pz ho=>y4x _ _ _ zIv w pz ) (WD.pA 4 178 rfl (fun _=>q_m rfl) (WD.pA 5 179 rfl (fun _=>y11 rfl) (WD.pA 6 180 rfl (fun _=>ya y6a rfl rfl) (WD.pA 7 181 rfl (fun _=>ya y7T rfl rfl) (WD.qA 8 182 rfl (yc y7U rfl (yj .h3 rfl)) (WD.pA 9 183 rfl (fun _=>q_m rfl) (WD.znth (j:=10) (dd:=184) (by kernel_rfl) rfl z2l z2m rfl rfl (Z:=(Z ++ z5d)) (Pr:=(fun r x=>r = e64 x)) yaO rfl rfl (zbt.mono ((Zle.left _ _).trans (zT.trans zP))) zIw ?_)))))))))))
       rintro zU6 zU7 zIy zU8 rfl
       refine WD.pA 11 185 rfl (fun _=>ya y8I rfl rfl) (WD.qA 12 186 rfl (yc yw rfl (y1e (hz.pv2 .here) zIy rfl)) (WD.pA 13 187 rfl (fun _=>yL (v:=(.agg #[(.int .i64 1),(.int .i64 ((nth za.fLinks zx).fSlow))])) (Eos.parts (l:=[.const (.int .i64 1),.tmp 186]) (.r2 rfl rfl) [0,1]) (fun _=>by kernel_rfl)) (WD.pA 14 188 rfl (fun _=>yL (v:=(.agg #[(.int .i64 z3M.fN),(.int .i64 z3M.fD),(.int .i64 1),(.int .i64 ((nth za.fLinks zx).fSlow))])) (Eos.parts (l:=[.tmp 177,.tmp 187]) (.r2 rfl rfl) [0,1]) (fun _=>by kernel_rfl)) (WD.new (i:=15) (dd:=189) rfl (by kernel_rfl) rfl rfl rfl (yX (cs:=([(⟨(⟨z2A,z2B⟩ : z2),(⟨z2C,z2D⟩ : z2)⟩ : z6),(⟨z3M,(⟨1,((nth za.fLinks zx).fSlow)⟩ : z2)⟩ : z6)] : List z6).flatMap y1x) z5P (Eos.parts (l:=[.tmp 175,.tmp 188]) (.r2 rfl rfl) [0,1]) (fun _=>by kernel_rfl) rfl (by unfold maxLen; omega)) (fun h'=>absurd h' (by decide)) ?_))))
       intro zfP _
       refine WD.freezeS (ls:=([(⟨(⟨z2A,z2B⟩ : z2),(⟨z2C,z2D⟩ : z2)⟩ : z6),(⟨z3M,(⟨1,((nth za.fLinks zx).fSlow)⟩ : z2)⟩ : z6)] : List z6)) .here .here hz (RR.flat (enc:=y1x) (fun _=>rfl) _) ?_
       intro zlH zzc zIz
       have zzd : RR 1 (y1P (Z ++ zlH)) [(.slice (some ⟨zfP,0,none⟩) (([(⟨(⟨z2A,z2B⟩ : z2),(⟨z2C,z2D⟩ : z2)⟩ : z6),(⟨z3M,(⟨1,((nth za.fLinks zx).fSlow)⟩ : z2)⟩ : z6)] : List z6).length) 2)] ([([(⟨(⟨z2A,z2B⟩ : z2),(⟨z2C,z2D⟩ : z2)⟩ : z6),(⟨z3M,(⟨1,((nth za.fLinks zx).fSlow)⟩ : z2)⟩ : z6)] : List z6)] : List (List z6)):=(RR.cons (r:=[(.slice (some ⟨zfP,0,none⟩) (([(⟨(⟨z2A,z2B⟩ : z2),(⟨z2C,z2D⟩ : z2)⟩ : z6),(⟨z3M,(⟨1,((nth za.fLinks zx).fSlow)⟩ : z2)⟩ : z6)] : List z6).length) 2)]) rfl (show y1P _ _ _ from ⟨_,_,rfl,zIz⟩) (RR.nil _ _))
       refine WD.new (i:=16) (dd:=190) rfl (by kernel_rfl) rfl rfl rfl (yX (cs:=[(.slice (some ⟨zfP,0,none⟩) (([(⟨(⟨z2A,z2B⟩ : z2),(⟨z2C,z2D⟩ : z2)⟩ : z6),(⟨z3M,(⟨1,((nth za.fLinks zx).fSlow)⟩ : z2)⟩ : z6)] : List z6).length) 2)]) z6X (Eos.parts (l:=[.tmp 189]) (.cons rfl .nil) [0]) (fun _=>by kernel_rfl) rfl (by unfold maxLen; omega)) (fun h'=>absurd h' (by decide)) ?_
       intro zU9 _
       have zIA : RR 1 (y1P (Z ++ zlH)) (z6t ++ [(.slice (some ⟨zfP,0,none⟩) (([(⟨(⟨z2A,z2B⟩ : z2),(⟨z2C,z2D⟩ : z2)⟩ : z6),(⟨z3M,(⟨1,((nth za.fLinks zx).fSlow)⟩ : z2)⟩ : z6)] : List z6).length) 2)]) (z21 ++ ([([(⟨(⟨z2A,z2B⟩ : z2),(⟨z2C,z2D⟩ : z2)⟩ : z6),(⟨z3M,(⟨1,((nth za.fLinks zx).fSlow)⟩ : z2)⟩ : z6)] : List z6)] : List (List z6))):=RR.app (zrc.weak (fun _ _ h=>y37 zzc h)) zzd
       refine WD.old (i:=17) (dd:=191) rfl (by kernel_rfl) rfl rfl rfl rfl (fun _=>(Sin.of .nil)) (yax (l1:=z21) (l2:=([([(⟨(⟨z2A,z2B⟩ : z2),(⟨z2C,z2D⟩ : z2)⟩ : z6),(⟨z3M,(⟨1,((nth za.fLinks zx).fSlow)⟩ : z2)⟩ : z6)] : List z6)] : List (List z6))) (news:=[(.slice (some ⟨zfP,0,none⟩) (([(⟨(⟨z2A,z2B⟩ : z2),(⟨z2C,z2D⟩ : z2)⟩ : z6),(⟨z3M,(⟨1,((nth za.fLinks zx).fSlow)⟩ : z2)⟩ : z6)] : List z6).length) 2)]) (Pr:=(y1P (Z ++ zlH))) z6X rfl rfl .h3 zzd (y4d .here) (ycv rfl ydx) zIx) ?_
       rintro ⟨zIB,zIC⟩ _
       refine WD.pA 18 7 rfl (fun _=>q_z rfl) (WD.done (by kernel_rfl) (WX.yq ?_))
       exact WX.mid ⟨(z21 ++ ([([(⟨(⟨z2A,z2B⟩ : z2),(⟨z2C,z2D⟩ : z2)⟩ : z6),(⟨z3M,(⟨1,((nth za.fLinks zx).fSlow)⟩ : z2)⟩ : z6)] : List z6)] : List (List z6))),z9s,zlH,zIB,zIC,(z6t ++ [(.slice (some ⟨zfP,0,none⟩) (([(⟨(⟨z2A,z2B⟩ : z2),(⟨z2C,z2D⟩ : z2)⟩ : z6),(⟨z3M,(⟨1,((nth za.fLinks zx).fSlow)⟩ : z2)⟩ : z6)] : List z6).length) 2)])⟩ ⟨h,zzc,zIA⟩ (.r8 rfl rfl rfl rfl rfl rfl rfl rfl) (.s9 .h2 .h2 .here .h1 .h1 .h1 .h1 .h2 .h2)
    ·rintro z7j z9r zdF zfL zfM zfN ⟨h,zID,zIE⟩
     replace h:=(zIk z7j z9r).symm.trans h
     refine WC.a (WL.pu rfl (WL.pu rfl (WL.nil ?_)))
     exact WX.round ⟨zr7,z7j,(i64 (zx + 1)),z9r,zdF,zfL,zfM,zfN⟩ ⟨h,(zP.trans zID),zIE⟩ (Nat.lt_succ_self _) (.r8 rfl rfl rfl rfl rfl rfl rfl rfl) (.s9 .here .here .here .here .here .here .here .here .here)
   ·replace h:=yp h zrd
    refine WC.exit (WX.yg (WX.yg (WX.yA ?_)))
    exact WX.mid ⟨z21,z5a,z5d,z6r,z6s,z6t⟩ ⟨h,zP,zrc⟩ (.r3 rfl rfl rfl) (.s6 .here .here .here .here .h3 .h3)
  ·rintro z5w zbs z9x ziQ ziR zbv ⟨h,zIF,zri⟩
   replace h:=(zIj z5w zbs).symm.trans h
   refine WC.b ?_
   obtain ⟨zIG,h⟩:=ym h
   refine WC.a (WL.pu rfl (WL.pu rfl ?_))
   have zIH : RR 1 (y1P (Z ++ z9x)) (z6p ++ zbv) (z2g ++ z5w):=RR.app (zIi.weak (fun _ _ h=>y37 zIF h)) zri
   refine WL.fA 195 (yax (l1:=z2g) (l2:=z5w) (news:=zbv) (Pr:=(y1P (Z ++ z9x))) z6X rfl rfl .h1 zri (y4d .h2) (RR.oc zri (fun _ _ h=>p173_oc h)) zIG) ?_
   rintro ⟨zII,zIJ⟩ _
   refine WL.pu rfl (WL.pu rfl (WL.pu rfl (WL.nil (WX.a (WC.ret ?_)))))
   obtain rfl:=Option.some.inj h
   refine WX.ye Tryz.results42 (.tmp rfl (.tmp rfl .nil)) (fun w hw=>?_)
   exact ⟨z9x,zII,zIJ,(z6p ++ zbv),y1U rfl rfl,zIH,hw.sub (.s5 .h1 .here .h1 .h1 .h1)⟩
def y4X (z9y : z2) : Option Bool :=
 (y1H z9y).bind fun zrj=>some (zrj && (decide (z9y.fN ≥ 0)))
theorem y8V (Z : Zp)  (z9y : z2) (r : Bool)
  (h : y4X z9y = some r) (w₀ : World) (hz : PZ [] w₀ Z) :
  Calls Tryz.prog 147 #[(.agg #[(.int .i64 z9y.fN),(.int .i64 z9y.fD)])] w₀ fun e w'=>e = .returned (.bool r) ∧ Hp [] w₀ w' []:=by
 unfold y4X at h
 refine Calls.on1 Tryz.func147 Tryz.ntmps147 ?_
 refine WC.b (WC.a (WL.nA 1 (yH (cs:=[(.int .i64 z9y.fN),(.int .i64 z9y.fD)]) rfl rfl) ?_))
 intro zUa _
 refine WL.pu rfl (WL.nil (WX.a (WC.b ?_)))
 obtain ⟨zrj,zIK,h⟩:=z7 h
 refine WC.a (WL.qA 3 (yf zb rfl (yh .here) rfl) (WL.cA 4 (z8 Tryz.call80 (.cons rfl .nil)) .nil (cc hz .nil fun w pz ho=>y2j _ _ _ zIK w pz ) (WL.pu rfl (WL.seg true 3 5 (B:=zrj && (decide (z9y.fN ≥ 0))) rfl rfl rfl rfl rfl rfl (fun h=>(y2T h).symm) (fun _ zIL=>?_) ?_))))
 ·skip
  refine WL.qA 6 (ya y2a rfl rfl) (WL.qA 7 (yc yw rfl (yj .here rfl)) (WL.pu rfl (WL.pu rfl ?_)))
  exact WL.yB (y2U zIL) rfl rfl .all
 refine WL.pu rfl (WL.nil (WX.a (WC.ret ?_)))
 obtain rfl:=Option.some.inj h
 refine WX.ye Tryz.results147 (.tmp rfl .nil) (fun w hw=>?_)
 exact ⟨yC rfl,hw.sub .nil⟩
def y4q (z4N : z6) : Option Bool :=
 (y4X z4N.fBurst).bind fun zze=>(if !zze then some true else (y4X z4N.fRate).bind fun zzf=>some (!zzf)).bind fun zrk=>some zrk
theorem ycd (Z : Zp)  (z4N : z6) (r : Bool)
  (h : y4q z4N = some r) (w₀ : World) (hz : PZ [] w₀ Z) :
  Calls Tryz.prog 166 #[(.agg #[(.int .i64 z4N.fBurst.fN),(.int .i64 z4N.fBurst.fD),(.int .i64 z4N.fRate.fN),(.int .i64 z4N.fRate.fD)])] w₀ fun e w'=>e = .returned (.bool r) ∧ Hp [] w₀ w' []:=by
 unfold y4q at h
 refine Calls.on1 Tryz.func166 Tryz.ntmps166 ?_
 refine WC.b (WC.a (WL.nA 1 (yH (cs:=[(.int .i64 z4N.fBurst.fN),(.int .i64 z4N.fBurst.fD),(.int .i64 z4N.fRate.fN),(.int .i64 z4N.fRate.fD)]) rfl rfl) ?_))
 intro zUb _
 refine WL.pu rfl (WL.nil (WX.a (WC.b ?_)))
 obtain ⟨zze,zIM,h⟩:=z7 h
 obtain ⟨zrk,zzg,h⟩:=z7 h
 refine WC.a (WL.qA 3 (ya y4u rfl rfl) (WL.qA 4 (yR (cs:=[(.int .i64 z4N.fBurst.fN),(.int .i64 z4N.fBurst.fD)]) zb rfl rfl (y30 (s:=2) .here rfl)) (WL.cA 5 (z8 Tryz.call147 (.cons rfl .nil)) .nil (cc hz .nil fun w pz ho=>y8V _ _ _ zIM w pz ) (WL.pu rfl (WL.pu rfl (WL.seg false 4 7 (B:=zrk) rfl rfl rfl rfl rfl rfl (fun h=>(Option.some.inj (yo zzg h)).symm) (fun _ zIN=>?_) ?_))))))
 ·skip
  have ziU:=yp zzg zIN
  obtain ⟨zzf,zIO,ziU⟩:=z7 ziU
  replace ziU:=Option.some.inj ziU
  refine WL.qA 8 (ya y5v rfl rfl) (WL.qA 9 (yR (cs:=[(.int .i64 z4N.fRate.fN),(.int .i64 z4N.fRate.fD)]) zb rfl rfl (y30 (s:=2) .here rfl)) (WL.cA 10 (z8 Tryz.call147 (.cons rfl .nil)) .nil (cc hz .nil fun w pz ho=>y8V _ _ _ zIO w pz ) (WL.pu rfl (WL.pu rfl ?_))))
  exact WL.yB ziU rfl rfl .all
 refine WL.pu rfl (WL.nil (WX.a (WC.ret ?_)))
 obtain rfl:=Option.some.inj h
 refine WX.ye Tryz.results166 (.tmp rfl .nil) (fun w hw=>?_)
 exact ⟨yC rfl,hw.sub .nil⟩
def y12 (z2E : List z6) (z7k : z6 → Option Bool) (z9z : Option Int) : Nat → Int → Option Int
 | 0,_=>none
 | zrl + 1,z2p=>if decide (z2p < ((z2E.length : Nat) : Int)) then chk ((0 : Int) ≤ z2p ∧ z2p < ((z2E.length : Nat) : Int)) ((z7k (⟨(⟨(((nth z2E z2p).fBurst).fN),(((nth z2E z2p).fBurst).fD)⟩ : z2),(⟨(((nth z2E z2p).fRate).fN),(((nth z2E z2p).fRate).fD)⟩ : z2)⟩ : z6)).bind fun zrm=>if zrm then some z2p else y12 z2E z7k z9z zrl (i64 (z2p + 1))) else z9z
theorem y52 {n : Nat} {z2E : List z6} {z7k : z6 → Option Bool} {z9z : Option Int} {z2p : Int} {r : Int} (h : y12 z2E z7k z9z n z2p = some r) : ∃ m,n = m + 1:=by
 cases n with
 | zero=>cases h
 | succ m=>exact ⟨m,rfl⟩
def y2K (z2E : List z6) (z7k : z6 → Option Bool) : Option Int :=
 jp0 (some (-1)) fun z9z=>y12 z2E z7k z9z yz 0
theorem y64 (Z : Zp) (zrn : Option Addr) (zro : Nat) (zdG : FuncId) (ziV : List Value) (z2E : List z6) (z7k : z6 → Option Bool) (r : Int)
  (h : y2K z2E z7k = some r) (w₀ : World) (hz : PZ [] w₀ Z)
  (zIP : ZS Z 4 (fun r x=>r = y1x x) zrn zro z2E)
  (zIQ : ∀ args w,(callFunc zdG args).run Tryz.prog w = .ok (.enter zdG args) w)
  (zIR : ∀ w : World,PZ [] w Z → ∀ (x0 : z6) (r : Bool),z7k x0 = some r → Calls Tryz.prog zdG (([(.agg #[(.int .i64 x0.fBurst.fN),(.int .i64 x0.fBurst.fD),(.int .i64 x0.fRate.fN),(.int .i64 x0.fRate.fD)])] : List Value) ++ ziV).toArray w fun e w'=>e = .returned (.bool r) ∧ Hp [] w w' []) :
  Calls Tryz.prog 178 #[(.slice zrn z2E.length zro),(.func (.func zdG) #[] (ziV).toArray)] w₀ fun e w'=>e = .returned (.int .i64 r) ∧ Hp [] w₀ w' []:=by
 unfold y2K at h
 refine Calls.yI Tryz.func178 Tryz.ntmps178 ?_
 refine WC.b (WC.a (WL.pu rfl (WL.nil (WX.a ?_))))
 obtain ⟨z9z,zIS,h⟩:=y2i h
 refine WC.y1G ((z9z = some r)) ([]) ([]) ?_ ?_
 ·skip
  refine WC.b (WC.a (WL.pu rfl (WL.qA 7 (yG Tryz.underlying173 rfl) (WL.pu rfl (WL.nil (WX.a (WC.block (WC.y2S (fun (zfQ : Nat) (z2p : Int)=>(y12 z2E z7k z9z zfQ z2p = some r)) (fun zfQ z2p=>[(0,(.slice zrn z2E.length zro)),(1,(.func (.func zdG) #[] (ziV).toArray)),(7,(.int .i64 ((z2E.length : Nat) : Int))),(8,(.int .i64 z2p))]) (fun zfQ z2p=>[]) (fun zfQ z2p=>zfQ) ⟨yz,0⟩ h (.r4 rfl rfl rfl rfl) .nil ?_))))))))
  rintro zfQ z2p h
  obtain ⟨zrl,rfl⟩:=y52 h
  rw [y12] at h
  refine WC.b (WC.a (WL.pu rfl (WL.nil (WX.a (WC.b (WC.cond rfl (fun zrp=>?_) (fun zrp=>?_)))))))
  ·replace h:=yo h zrp
   refine WC.skip (WX.a (WC.b (WC.block (WC.b (WC.a (WL.pu rfl (WL.pu rfl (WL.nil (WX.a (WC.b ?_))))))))))
   obtain ⟨zIT,h⟩:=ym h
   obtain ⟨zrm,zIU,h⟩:=z7 h
   refine WC.a (WL.pu rfl (WL.pu rfl (WL.pu rfl (WL.znth (dd:=14) rfl rfl (Z:=Z) (Pr:=(fun r x=>r = y1x x)) z5P rfl rfl zIP zIT ?_))))
   rintro zUc zUd zIV zUe rfl
   refine WL.qA 15 (yf z2a rfl (y2o hz.pv zIV) rfl) (WL.cA 16 (y2q (l:=[.tmp 15]) (f:=zdG) (caps:=ziV) zIQ rfl (.cons rfl .nil)) .nil (fun w hw=>zIR w (hz.now hw) (⟨(⟨(((nth z2E z2p).fBurst).fN),(((nth z2E z2p).fBurst).fD)⟩ : z2),(⟨(((nth z2E z2p).fRate).fN),(((nth z2E z2p).fRate).fD)⟩ : z2)⟩ : z6) zrm  zIU) (WL.nil (WX.a (WC.cond rfl (fun zrq=>?_) (fun zrq=>?_)))))
   ·replace h:=yo h zrq
    refine WC.b (WC.a (WL.pu rfl (WL.pu rfl (WL.nil (WX.a (WC.ret (WX.yt (WX.yd (WX.yd (WX.yt (WX.yd ?_)))))))))))
    obtain rfl:=Option.some.inj h
    refine WX.ye Tryz.results178 (.tmp rfl .nil) (fun w hw=>?_)
    exact ⟨yC rfl,hw.sub .nil⟩
   ·replace h:=yp h zrq
    refine WC.skip (WX.yq (WX.a (WC.a (WL.pu rfl (WL.pu rfl (WL.nil ?_))))))
    exact WX.round ⟨zrl,(i64 (z2p + 1))⟩ h (Nat.lt_succ_self _) (.r4 rfl rfl rfl rfl) .nil
  ·replace h:=yp h zrp
   refine WC.exit (WX.yg (WX.yg (WX.yA ?_)))
   exact WX.mid () h .nil .nil
 ·rintro  h
  replace h:=zIS.symm.trans h
  refine WC.b (WC.a (WL.pu rfl (WL.nil (WX.a (WC.ret ?_)))))
  obtain rfl:=Option.some.inj h
  refine WX.ye Tryz.results178 (.tmp rfl .nil) (fun w hw=>?_)
  exact ⟨yC rfl,hw.sub .nil⟩
def y1o (ziW : List z6) (zdH : z6 → Option Bool) : Option Bool :=
 (y2K ziW zdH).bind fun zzh=>some (decide (zzh ≥ 0))
theorem y3K (Z : Zp) (zzi : Option Addr) (zzj : Nat) (zdI : FuncId) (ziX : List Value) (ziW : List z6) (zdH : z6 → Option Bool) (r : Bool)
  (h : y1o ziW zdH = some r) (w₀ : World) (hz : PZ [] w₀ Z)
  (zIW : ZS Z 4 (fun r x=>r = y1x x) zzi zzj ziW)
  (zIX : ∀ args w,(callFunc zdI args).run Tryz.prog w = .ok (.enter zdI args) w)
  (zIY : ∀ w : World,PZ [] w Z → ∀ (x0 : z6) (r : Bool),zdH x0 = some r → Calls Tryz.prog zdI (([(.agg #[(.int .i64 x0.fBurst.fN),(.int .i64 x0.fBurst.fD),(.int .i64 x0.fRate.fN),(.int .i64 x0.fRate.fD)])] : List Value) ++ ziX).toArray w fun e w'=>e = .returned (.bool r) ∧ Hp [] w w' []) :
  Calls Tryz.prog 165 #[(.slice zzi ziW.length zzj),(.func (.func zdI) #[] (ziX).toArray)] w₀ fun e w'=>e = .returned (.bool r) ∧ Hp [] w₀ w' []:=by
 unfold y1o at h
 refine Calls.yI Tryz.func165 Tryz.ntmps165 ?_
 refine WC.b (WC.a (WL.pu rfl (WL.nil (WX.a (WC.b ?_)))))
 obtain ⟨zzh,zIZ,h⟩:=z7 h
 refine WC.a (WL.pu rfl (WL.pu rfl (WL.cA 7 (z8 Tryz.call178 (.r2 rfl rfl)) .nil (cc hz .nil fun w pz ho=>y64 _ _ _ (zdG:=zdI) (ziV:=ziX) _ (z7k:=zdH) _ zIZ w pz zIW zIX zIY) (WL.pu rfl (WL.pu rfl (WL.nil (WX.a (WC.ret ?_))))))))
 obtain rfl:=Option.some.inj h
 refine WX.ye Tryz.results165 (.tmp rfl .nil) (fun w hw=>?_)
 exact ⟨yC rfl,hw.sub .nil⟩
def y46 (z9A : List z6) : Option Bool :=
 (if (decide (((z9A.length : Nat) : Int) ≥ 1)) && (decide (((z9A.length : Nat) : Int) ≤ 32)) then (y1o z9A (fun (y0 : z6)=>y4q y0)).bind fun zzk=>some (!zzk) else some false).bind fun zrr=>some zrr
theorem y78 (Z : Zp) (zzl : Option Addr) (zzm : Nat) (z9A : List z6) (r : Bool)
  (h : y46 z9A = some r) (w₀ : World) (hz : PZ [] w₀ Z)
  (zJ0 : ZS Z 4 (fun r x=>r = y1x x) zzl zzm z9A) :
  Calls Tryz.prog 146 #[(.slice zzl z9A.length zzm)] w₀ fun e w'=>e = .returned (.bool r) ∧ Hp [] w₀ w' []:=by
 unfold y46 at h
 refine Calls.on1 Tryz.func146 Tryz.ntmps146 ?_
 refine WC.b (WC.a (WL.pu rfl (WL.nil (WX.a (WC.b ?_)))))
 obtain ⟨zrr,zzn,h⟩:=z7 h
 refine WC.a (WL.pu rfl (WL.qA 4 (yG Tryz.underlying173 rfl) (WL.pu rfl (WL.pu rfl (WL.seg true 3 6 (B:=(decide (((z9A.length : Nat) : Int) ≥ 1)) && (decide (((z9A.length : Nat) : Int) ≤ 32))) rfl rfl rfl rfl rfl rfl (fun h=>(y2T h).symm) (fun _ zJ1=>?_) ?_)))))
 ·skip
  refine WL.pu rfl (WL.qA 8 (yG Tryz.underlying173 rfl) (WL.pu rfl (WL.pu rfl ?_)))
  exact WL.yB (y2U zJ1) rfl rfl .all
 refine WL.pu rfl (WL.seg true 3 11 (B:=zrr) rfl rfl rfl rfl rfl rfl (fun h=>(Option.some.inj (yp zzn h)).symm) (fun _ zJ2=>?_) ?_)
 ·skip
  have ziY:=yo zzn zJ2
  obtain ⟨zzk,zJ3,ziY⟩:=z7 ziY
  replace ziY:=Option.some.inj ziY
  refine WL.pu rfl (WL.cA 13 (z8 Tryz.call165 (.r2 rfl rfl)) .nil (cc hz .nil fun w pz ho=>y3K _ _ _ (zdI:=166) (ziX:=[]) _ (zdH:=(fun (y0 : z6)=>y4q y0)) _ zJ3 w pz zJ0 Tryz.call166 (fun w' hz' y0  r  hr=>ycd _ _ _ hr w' hz' )) (WL.pu rfl (WL.pu rfl ?_)))
  exact WL.yB ziY rfl rfl .all
 refine WL.pu rfl (WL.nil (WX.a (WC.ret ?_)))
 obtain rfl:=Option.some.inj h
 refine WX.ye Tryz.results146 (.tmp rfl .nil) (fun w hw=>?_)
 exact ⟨yC rfl,hw.sub .nil⟩
def y1p (ziZ : List z6) : Option Bool :=
 (y46 ziZ).bind fun zzo=>some (!zzo)
theorem y6l (Z : Zp) (zzp : Option Addr) (zzq : Nat) (ziZ : List z6) (r : Bool)
  (h : y1p ziZ = some r) (w₀ : World) (hz : PZ [] w₀ Z)
  (zJ4 : ZS Z 4 (fun r x=>r = y1x x) zzp zzq ziZ) :
  Calls Tryz.prog 151 #[(.slice zzp ziZ.length zzq)] w₀ fun e w'=>e = .returned (.bool r) ∧ Hp [] w₀ w' []:=by
 unfold y1p at h
 refine Calls.on1 Tryz.func151 Tryz.ntmps151 ?_
 refine WC.b (WC.a (WL.pu rfl (WL.nil (WX.a (WC.b ?_)))))
 obtain ⟨zzo,zJ5,h⟩:=z7 h
 refine WC.a (WL.pu rfl (WL.cA 4 (z8 Tryz.call146 (.cons rfl .nil)) .nil (cc hz .nil fun w pz ho=>y78 _ _ _ _ _ zJ5 w pz zJ4) (WL.pu rfl (WL.pu rfl (WL.nil (WX.a (WC.ret ?_)))))))
 obtain rfl:=Option.some.inj h
 refine WX.ye Tryz.results151 (.tmp rfl .nil) (fun w hw=>?_)
 exact ⟨yC rfl,hw.sub .nil⟩
def yW (z4O : List (List z6)) (z7l : (List z6) → Option Bool) (z9B : Option Int) : Nat → Int → Option Int
 | 0,_=>none
 | zrs + 1,z4q=>if decide (z4q < ((z4O.length : Nat) : Int)) then chk ((0 : Int) ≤ z4q ∧ z4q < ((z4O.length : Nat) : Int)) ((z7l (nth z4O z4q)).bind fun zrt=>if zrt then some z4q else yW z4O z7l z9B zrs (i64 (z4q + 1))) else z9B
theorem y58 {n : Nat} {z4O : List (List z6)} {z7l : (List z6) → Option Bool} {z9B : Option Int} {z4q : Int} {r : Int} (h : yW z4O z7l z9B n z4q = some r) : ∃ m,n = m + 1:=by
 cases n with
 | zero=>cases h
 | succ m=>exact ⟨m,rfl⟩
def y22 (z4O : List (List z6)) (z7l : (List z6) → Option Bool) : Option Int :=
 jp0 (some (-1)) fun z9B=>yW z4O z7l z9B yz 0
theorem y6g (Z : Zp) (zru : Option Addr) (zrv : Nat) (zdJ : FuncId) (zj0 : List Value) (z4O : List (List z6)) (z7l : (List z6) → Option Bool) (r : Int)
  (h : y22 z4O z7l = some r) (w₀ : World) (hz : PZ [] w₀ Z)
  (zJ6 : ZS Z 1 (y1P Z) zru zrv z4O)
  (zJ7 : ∀ args w,(callFunc zdJ args).run Tryz.prog w = .ok (.enter zdJ args) w)
  (zJ8 : ∀ w : World,PZ [] w Z → ∀ (x0 : List z6) (ao0 : Option Addr) (cap0 : Nat) (r : Bool),ZS Z 4 (fun r x=>r = y1x x) ao0 cap0 x0 → z7l x0 = some r → Calls Tryz.prog zdJ (([(.slice ao0 x0.length cap0)] : List Value) ++ zj0).toArray w fun e w'=>e = .returned (.bool r) ∧ Hp [] w w' []) :
  Calls Tryz.prog 168 #[(.slice zru z4O.length zrv),(.func (.func zdJ) #[] (zj0).toArray)] w₀ fun e w'=>e = .returned (.int .i64 r) ∧ Hp [] w₀ w' []:=by
 unfold y22 at h
 refine Calls.yI Tryz.func168 Tryz.ntmps168 ?_
 refine WC.b (WC.a (WL.pu rfl (WL.nil (WX.a ?_))))
 obtain ⟨z9B,zJ9,h⟩:=y2i h
 refine WC.y1G ((z9B = some r)) ([]) ([]) ?_ ?_
 ·skip
  refine WC.b (WC.a (WL.pu rfl (WL.qA 7 (yG Tryz.underlying128 rfl) (WL.pu rfl (WL.nil (WX.a (WC.block (WC.y2S (fun (zfR : Nat) (z4q : Int)=>(yW z4O z7l z9B zfR z4q = some r)) (fun zfR z4q=>[(0,(.slice zru z4O.length zrv)),(1,(.func (.func zdJ) #[] (zj0).toArray)),(7,(.int .i64 ((z4O.length : Nat) : Int))),(8,(.int .i64 z4q))]) (fun zfR z4q=>[]) (fun zfR z4q=>zfR) ⟨yz,0⟩ h (.r4 rfl rfl rfl rfl) .nil ?_))))))))
  rintro zfR z4q h
  obtain ⟨zrs,rfl⟩:=y58 h
  rw [yW] at h
  refine WC.b (WC.a (WL.pu rfl (WL.nil (WX.a (WC.b (WC.cond rfl (fun zrw=>?_) (fun zrw=>?_)))))))
  ·replace h:=yo h zrw
   refine WC.skip (WX.a (WC.b (WC.block (WC.b (WC.a (WL.pu rfl (WL.pu rfl (WL.nil (WX.a (WC.b ?_))))))))))
   obtain ⟨zJa,h⟩:=ym h
   obtain ⟨zrt,zJb,h⟩:=z7 h
   refine WC.a (WL.pu rfl (WL.pu rfl (WL.pu rfl (WL.znth (dd:=14) rfl rfl (Z:=Z) (Pr:=(y1P Z)) z6X rfl rfl zJ6 zJa ?_))))
   rintro zUf zUg zJc zUh ⟨zJd,zJe,rfl,zJf⟩
   refine WL.qA 15 (yc zaF rfl (y53 hz.pv zJc rfl)) (WL.cA 16 (y2q (l:=[.tmp 15]) (f:=zdJ) (caps:=zj0) zJ7 rfl (.cons rfl .nil)) .nil (fun w hw=>zJ8 w (hz.now hw) (nth z4O z4q) zJd zJe zrt zJf zJb) (WL.nil (WX.a (WC.cond rfl (fun zrx=>?_) (fun zrx=>?_)))))
   ·replace h:=yo h zrx
    refine WC.b (WC.a (WL.pu rfl (WL.pu rfl (WL.nil (WX.a (WC.ret (WX.yt (WX.yd (WX.yd (WX.yt (WX.yd ?_)))))))))))
    obtain rfl:=Option.some.inj h
    refine WX.ye Tryz.results168 (.tmp rfl .nil) (fun w hw=>?_)
    exact ⟨yC rfl,hw.sub .nil⟩
   ·replace h:=yp h zrx
    refine WC.skip (WX.yq (WX.a (WC.a (WL.pu rfl (WL.pu rfl (WL.nil ?_))))))
    exact WX.round ⟨zrs,(i64 (z4q + 1))⟩ h (Nat.lt_succ_self _) (.r4 rfl rfl rfl rfl) .nil
  ·replace h:=yp h zrw
   refine WC.exit (WX.yg (WX.yg (WX.yA ?_)))
   exact WX.mid () h .nil .nil
 ·rintro  h
  replace h:=zJ9.symm.trans h
  refine WC.b (WC.a (WL.pu rfl (WL.nil (WX.a (WC.ret ?_)))))
  obtain rfl:=Option.some.inj h
  refine WX.ye Tryz.results168 (.tmp rfl .nil) (fun w hw=>?_)
  exact ⟨yC rfl,hw.sub .nil⟩
def y16 (zj1 : List (List z6)) (zdK : (List z6) → Option Bool) : Option Bool :=
 (y22 zj1 zdK).bind fun zzr=>some (decide (zzr ≥ 0))
theorem y3R (Z : Zp) (zzs : Option Addr) (zzt : Nat) (zdL : FuncId) (zj2 : List Value) (zj1 : List (List z6)) (zdK : (List z6) → Option Bool) (r : Bool)
  (h : y16 zj1 zdK = some r) (w₀ : World) (hz : PZ [] w₀ Z)
  (zJg : ZS Z 1 (y1P Z) zzs zzt zj1)
  (zJh : ∀ args w,(callFunc zdL args).run Tryz.prog w = .ok (.enter zdL args) w)
  (zJi : ∀ w : World,PZ [] w Z → ∀ (x0 : List z6) (ao0 : Option Addr) (cap0 : Nat) (r : Bool),ZS Z 4 (fun r x=>r = y1x x) ao0 cap0 x0 → zdK x0 = some r → Calls Tryz.prog zdL (([(.slice ao0 x0.length cap0)] : List Value) ++ zj2).toArray w fun e w'=>e = .returned (.bool r) ∧ Hp [] w w' []) :
  Calls Tryz.prog 150 #[(.slice zzs zj1.length zzt),(.func (.func zdL) #[] (zj2).toArray)] w₀ fun e w'=>e = .returned (.bool r) ∧ Hp [] w₀ w' []:=by
 unfold y16 at h
 refine Calls.yI Tryz.func150 Tryz.ntmps150 ?_
 refine WC.b (WC.a (WL.pu rfl (WL.nil (WX.a (WC.b ?_)))))
 obtain ⟨zzr,zJj,h⟩:=z7 h
 refine WC.a (WL.pu rfl (WL.pu rfl (WL.cA 7 (z8 Tryz.call168 (.r2 rfl rfl)) .nil (cc hz .nil fun w pz ho=>y6g _ _ _ (zdJ:=zdL) (zj0:=zj2) _ (z7l:=zdK) _ zJj w pz zJg zJh zJi) (WL.pu rfl (WL.pu rfl (WL.nil (WX.a (WC.ret ?_))))))))
 obtain rfl:=Option.some.inj h
 refine WX.ye Tryz.results150 (.tmp rfl .nil) (fun w hw=>?_)
 exact ⟨yC rfl,hw.sub .nil⟩
def y4g (z3e : zSv) : Option Bool :=
 (y1H z3e.fRate).bind fun zry=>(if zry && (decide (z3e.fRate.fN > 0)) then (y1H z3e.fL).bind fun zzu=>some zzu else some false).bind fun zlI=>some (zlI && (decide (z3e.fL.fN ≥ 0)))
theorem y8W (Z : Zp)  (z3e : zSv) (r : Bool)
  (h : y4g z3e = some r) (w₀ : World) (hz : PZ [] w₀ Z) :
  Calls Tryz.prog 152 #[(.agg #[(.int .i64 z3e.fRate.fN),(.int .i64 z3e.fRate.fD),(.int .i64 z3e.fL.fN),(.int .i64 z3e.fL.fD)])] w₀ fun e w'=>e = .returned (.bool r) ∧ Hp [] w₀ w' []:=by
 unfold y4g at h
 refine Calls.on1 Tryz.func152 Tryz.ntmps152 ?_
 refine WC.b (WC.a (WL.nA 1 (yH (cs:=[(.int .i64 z3e.fRate.fN),(.int .i64 z3e.fRate.fD),(.int .i64 z3e.fL.fN),(.int .i64 z3e.fL.fD)]) rfl rfl) ?_))
 intro zUi _
 refine WL.pu rfl (WL.nil (WX.a (WC.b ?_)))
 obtain ⟨zry,zJk,h⟩:=z7 h
 obtain ⟨zlI,zzv,h⟩:=z7 h
 refine WC.a (WL.qA 3 (ya y7W rfl rfl) (WL.qA 4 (yR (cs:=[(.int .i64 z3e.fRate.fN),(.int .i64 z3e.fRate.fD)]) zb rfl rfl (y30 (s:=2) .here rfl)) (WL.cA 5 (z8 Tryz.call80 (.cons rfl .nil)) .nil (cc hz .nil fun w pz ho=>y2j _ _ _ zJk w pz ) (WL.pu rfl (WL.seg true 4 6 (B:=zry && (decide (z3e.fRate.fN > 0))) rfl rfl rfl rfl rfl rfl (fun h=>(y2T h).symm) (fun _ zJl=>?_) ?_)))))
 ·skip
  refine WL.qA 7 (ya y7W rfl rfl) (WL.qA 8 (ya y2a rfl rfl) (WL.qA 9 (yc yw rfl (yj .here rfl)) (WL.pu rfl (WL.pu rfl ?_))))
  exact WL.yB (y2U zJl) rfl rfl .all
 refine WL.pu rfl (WL.seg true 3 12 (B:=zlI) rfl rfl rfl rfl rfl rfl (fun h=>(Option.some.inj (yp zzv h)).symm) (fun _ zJm=>?_) ?_)
 ·skip
  have zj3:=yo zzv zJm
  obtain ⟨zzu,zJn,zj3⟩:=z7 zj3
  replace zj3:=Option.some.inj zj3
  refine WL.qA 13 (ya y7X rfl rfl) (WL.qA 14 (yR (cs:=[(.int .i64 z3e.fL.fN),(.int .i64 z3e.fL.fD)]) zb rfl rfl (y30 (s:=2) .here rfl)) (WL.cA 15 (z8 Tryz.call80 (.cons rfl .nil)) .nil (cc hz .nil fun w pz ho=>y2j _ _ _ zJn w pz ) (WL.pu rfl ?_)))
  exact WL.yB zj3 rfl rfl .all
 refine WL.pu rfl (WL.seg true 4 17 (B:=zlI && (decide (z3e.fL.fN ≥ 0))) rfl rfl rfl rfl rfl rfl (fun h=>(y2T h).symm) (fun _ zJo=>?_) ?_)
 ·skip
  refine WL.qA 18 (ya y7X rfl rfl) (WL.qA 19 (ya y2a rfl rfl) (WL.qA 20 (yc yw rfl (yj .here rfl)) (WL.pu rfl (WL.pu rfl ?_))))
  exact WL.yB (y2U zJo) rfl rfl .all
 refine WL.pu rfl (WL.nil (WX.a (WC.ret ?_)))
 obtain rfl:=Option.some.inj h
 refine WX.ye Tryz.results152 (.tmp rfl .nil) (fun w hw=>?_)
 exact ⟨yC rfl,hw.sub .nil⟩
def y1k (zj4 : Int) : Option z2 :=
 some (⟨zj4,1⟩ : z2)
theorem y2H (Z : Zp)  (zj4 : Int) (r : z2)
  (h : y1k zj4 = some r) (w₀ : World) (hz : PZ [] w₀ Z) :
  Calls Tryz.prog 145 #[(.int .i64 zj4)] w₀ fun e w'=>e = .returned (.agg #[(.int .i64 r.fN),(.int .i64 r.fD)]) ∧ Hp [] w₀ w' []:=by
 unfold y1k at h
 refine Calls.on1 Tryz.func145 Tryz.ntmps145 ?_
 refine WC.b (WC.a (WL.nA 2 (yx (cs:=[(.int .i64 0),(.int .i64 0)]) zH rfl) ?_))
 intro zUj _
 refine WL.nil (WX.a (WC.b (WC.a (WL.pu rfl (WL.qA 4 (yL (v:=(.agg #[(.int .i64 zj4),(.int .i64 1)])) (Eos.parts (l:=[.tmp 3,.const (.int .i64 1)]) (.r2 rfl rfl) [0,1]) (fun _=>by kernel_rfl)) (WL.yl rfl rfl (yk zq rfl rfl rfl .here rfl rfl rfl) (WL.nil (WX.a (WC.ret ?_)))))))))
 obtain rfl:=Option.some.inj h
 refine WX.ye Tryz.results145 (.agg rfl zb rfl (yh .here) .nil) (fun w hw=>?_)
 exact ⟨yC rfl,hw.sub .nil⟩
def y2z  : Option z2 :=
 (y1k 0).bind fun zzw=>some zzw
theorem y3X (Z : Zp)  (r : z2)
  (h : y2z = some r) (w₀ : World) (hz : PZ [] w₀ Z) :
  Calls Tryz.prog 107 #[] w₀ fun e w'=>e = .returned (.agg #[(.int .i64 r.fN),(.int .i64 r.fD)]) ∧ Hp [] w₀ w' []:=by
 unfold y2z at h
 refine Calls.on0 Tryz.func107 Tryz.ntmps107 ?_
 refine WC.b (WC.a (WL.nA 0 (yx (cs:=[(.int .i64 0),(.int .i64 0)]) zH rfl) ?_))
 intro zUk _
 refine WL.nil (WX.a (WC.b ?_))
 obtain ⟨zzw,zJp,h⟩:=z7 h
 refine WC.a (WL.cA 1 (z8 Tryz.call145 (.cons rfl .nil)) .nil (cc hz .nil fun w pz ho=>y2H _ _ _ zJp w pz ) (WL.yl rfl rfl (yk zq rfl rfl rfl .here rfl rfl rfl) (WL.nil (WX.a (WC.ret ?_)))))
 obtain rfl:=Option.some.inj h
 refine WX.ye Tryz.results107 (.agg rfl zb rfl (yh .here) .nil) (fun w hw=>?_)
 exact ⟨yC rfl,hw.sub .nil⟩
def y1g (z2F : List z6) (z2G : z6) (z9C : Option Int) : Nat → Int → Option Int
 | 0,_=>none
 | zrz + 1,z2q=>if decide (z2q < ((z2F.length : Nat) : Int)) then chk ((0 : Int) ≤ z2q ∧ z2q < ((z2F.length : Nat) : Int)) (if decide (z2G = (⟨(⟨(((nth z2F z2q).fBurst).fN),(((nth z2F z2q).fBurst).fD)⟩ : z2),(⟨(((nth z2F z2q).fRate).fN),(((nth z2F z2q).fRate).fD)⟩ : z2)⟩ : z6)) then some z2q else y1g z2F z2G z9C zrz (i64 (z2q + 1))) else z9C
theorem y5y {n : Nat} {z2F : List z6} {z2G : z6} {z9C : Option Int} {z2q : Int} {r : Int} (h : y1g z2F z2G z9C n z2q = some r) : ∃ m,n = m + 1:=by
 cases n with
 | zero=>cases h
 | succ m=>exact ⟨m,rfl⟩
def y3g (z2F : List z6) (z2G : z6) : Option Int :=
 jp0 (some (-1)) fun z9C=>y1g z2F z2G z9C yz 0
theorem y6M (Z : Zp) (zrA : Option Addr) (zrB : Nat) (z2F : List z6) (z2G : z6) (r : Int)
  (h : y3g z2F z2G = some r) (w₀ : World) (hz : PZ [] w₀ Z)
  (zJq : ZS Z 4 (fun r x=>r = y1x x) zrA zrB z2F) :
  Calls Tryz.prog 186 #[(.slice zrA z2F.length zrB),(.agg #[(.int .i64 z2G.fBurst.fN),(.int .i64 z2G.fBurst.fD),(.int .i64 z2G.fRate.fN),(.int .i64 z2G.fRate.fD)])] w₀ fun e w'=>e = .returned (.int .i64 r) ∧ Hp [] w₀ w' []:=by
 unfold y3g at h
 refine Calls.yI Tryz.func186 Tryz.ntmps186 ?_
 refine WC.b (WC.a (WL.nA 3 (yH (cs:=[(.int .i64 z2G.fBurst.fN),(.int .i64 z2G.fBurst.fD),(.int .i64 z2G.fRate.fN),(.int .i64 z2G.fRate.fD)]) rfl rfl) ?_))
 intro zzx _
 refine WL.pu rfl (WL.nil (WX.a ?_))
 obtain ⟨z9C,zJr,h⟩:=y2i h
 refine WC.y1G ((z9C = some r)) ([]) ([]) ?_ ?_
 ·skip
  refine WC.b (WC.a (WL.pu rfl (WL.qA 7 (yG Tryz.underlying173 rfl) (WL.pu rfl (WL.nil (WX.a (WC.block (WC.y2S (fun (zfS : Nat) (z2q : Int)=>(y1g z2F z2G z9C zfS z2q = some r)) (fun zfS z2q=>[(0,(.slice zrA z2F.length zrB)),(3,(.pointer (some ⟨zzx,0,none⟩))),(7,(.int .i64 ((z2F.length : Nat) : Int))),(8,(.int .i64 z2q))]) (fun zfS z2q=>[stb zzx 171 [(.int .i64 z2G.fBurst.fN),(.int .i64 z2G.fBurst.fD),(.int .i64 z2G.fRate.fN),(.int .i64 z2G.fRate.fD)]]) (fun zfS z2q=>zfS) ⟨yz,0⟩ h (.r4 rfl rfl rfl rfl) (.cons .here .nil) ?_))))))))
  rintro zfS z2q h
  obtain ⟨zrz,rfl⟩:=y5y h
  rw [y1g] at h
  refine WC.b (WC.a (WL.pu rfl (WL.nil (WX.a (WC.b (WC.cond rfl (fun zrC=>?_) (fun zrC=>?_)))))))
  ·replace h:=yo h zrC
   refine WC.skip (WX.a (WC.b (WC.block (WC.b (WC.a (WL.pu rfl (WL.pu rfl (WL.nil (WX.a (WC.b ?_))))))))))
   obtain ⟨zJs,h⟩:=ym h
   refine WC.yP (fun i=>[].contains i) [] rfl (WD.qA 0 11 rfl (yf z2a rfl (yh .here) rfl) (WD.pA 1 12 rfl (fun _=>q_m rfl) (WD.pA 2 13 rfl (fun _=>q_m rfl) (WD.znth (j:=3) (dd:=14) (by kernel_rfl) rfl z2l z2m rfl rfl (Z:=Z) (Pr:=(fun r x=>r = y1x x)) z5P rfl rfl zJq zJs ?_))))
   rintro zUl zUm zJt zUn rfl
   refine WD.qA 4 15 rfl (yf z2a rfl (y2o hz.pv zJt) rfl) (WD.pA 5 16 rfl (fun _=>y7b (enc:=y1x) (a:=z2G) (b:=(⟨(⟨(((nth z2F z2q).fBurst).fN),(((nth z2F z2q).fBurst).fD)⟩ : z2),(⟨(((nth z2F z2q).fRate).fN),(((nth z2F z2q).fRate).fD)⟩ : z2)⟩ : z6)) zvZ rfl rfl) (WD.done (by kernel_rfl) (WX.a (WC.cond rfl (fun zrD=>?_) (fun zrD=>?_)))))
   ·replace h:=yo h zrD
    refine WC.b (WC.a (WL.pu rfl (WL.pu rfl (WL.nil (WX.a (WC.ret (WX.yt (WX.yd (WX.yd (WX.yt (WX.yd ?_)))))))))))
    obtain rfl:=Option.some.inj h
    refine WX.ye Tryz.results186 (.tmp rfl .nil) (fun w hw=>?_)
    exact ⟨yC rfl,hw.sub .nil⟩
   ·replace h:=yp h zrD
    refine WC.skip (WX.yq (WX.a (WC.a (WL.pu rfl (WL.pu rfl (WL.nil ?_))))))
    exact WX.round ⟨zrz,(i64 (z2q + 1))⟩ h (Nat.lt_succ_self _) (.r4 rfl rfl rfl rfl) (.cons .here .nil)
  ·replace h:=yp h zrC
   refine WC.exit (WX.yg (WX.yg (WX.yA ?_)))
   exact WX.mid () h .nil .nil
 ·rintro  h
  replace h:=zJr.symm.trans h
  refine WC.b (WC.a (WL.pu rfl (WL.nil (WX.a (WC.ret ?_)))))
  obtain rfl:=Option.some.inj h
  refine WX.ye Tryz.results186 (.tmp rfl .nil) (fun w hw=>?_)
  exact ⟨yC rfl,hw.sub .nil⟩
def y23 (zj5 : List z6) (z7m : z6) : Option Bool :=
 (y3g zj5 z7m).bind fun zzy=>some (decide (zzy ≥ 0))
theorem y6h (Z : Zp) (zzz : Option Addr) (zzA : Nat) (zj5 : List z6) (z7m : z6) (r : Bool)
  (h : y23 zj5 z7m = some r) (w₀ : World) (hz : PZ [] w₀ Z)
  (zJu : ZS Z 4 (fun r x=>r = y1x x) zzz zzA zj5) :
  Calls Tryz.prog 179 #[(.slice zzz zj5.length zzA),(.agg #[(.int .i64 z7m.fBurst.fN),(.int .i64 z7m.fBurst.fD),(.int .i64 z7m.fRate.fN),(.int .i64 z7m.fRate.fD)])] w₀ fun e w'=>e = .returned (.bool r) ∧ Hp [] w₀ w' []:=by
 unfold y23 at h
 refine Calls.yI Tryz.func179 Tryz.ntmps179 ?_
 refine WC.b (WC.a (WL.nA 3 (yH (cs:=[(.int .i64 z7m.fBurst.fN),(.int .i64 z7m.fBurst.fD),(.int .i64 z7m.fRate.fN),(.int .i64 z7m.fRate.fD)]) rfl rfl) ?_))
 intro zUo _
 refine WL.pu rfl (WL.nil (WX.a (WC.b ?_)))
 obtain ⟨zzy,zJv,h⟩:=z7 h
 refine WC.a (WL.pu rfl (WL.qA 6 (yf z2a rfl (yh .here) rfl) (WL.cA 7 (z8 Tryz.call186 (.r2 rfl rfl)) .nil (cc hz .nil fun w pz ho=>y6M _ _ _ _ _ _ zJv w pz zJu) (WL.pu rfl (WL.pu rfl (WL.nil (WX.a (WC.ret ?_))))))))
 obtain rfl:=Option.some.inj h
 refine WX.ye Tryz.results179 (.tmp rfl .nil) (fun w hw=>?_)
 exact ⟨yC rfl,hw.sub .nil⟩
def y1i (z7n : z2) (z7o : z2) : Option Int :=
 (y1H z7n).bind fun zzB=>(if !zzB then some true else (y1H z7o).bind fun zzC=>some (!zzC)).bind fun zrE=>if zrE then some 0 else if decide ((i64 (z7n.fN * z7o.fD)) < (i64 (z7o.fN * z7n.fD))) then some (-1) else if decide ((i64 (z7n.fN * z7o.fD)) > (i64 (z7o.fN * z7n.fD))) then some 1 else some 0
theorem y47 (Z : Zp)  (z7n : z2) (z7o : z2) (r : Int)
  (h : y1i z7n z7o = some r) (w₀ : World) (hz : PZ [] w₀ Z) :
  Calls Tryz.prog 79 #[(.agg #[(.int .i64 z7n.fN),(.int .i64 z7n.fD)]),(.agg #[(.int .i64 z7o.fN),(.int .i64 z7o.fD)])] w₀ fun e w'=>e = .returned (.int .i64 r) ∧ Hp [] w₀ w' []:=by
 unfold y1i at h
 refine Calls.yI Tryz.func79 Tryz.ntmps79 ?_
 refine WC.b (WC.a (WL.nA 2 (yH (cs:=[(.int .i64 z7n.fN),(.int .i64 z7n.fD)]) rfl rfl) ?_))
 intro zUp _
 refine WL.nA 3 (yH (cs:=[(.int .i64 z7o.fN),(.int .i64 z7o.fD)]) rfl rfl) ?_
 intro zUq _
 refine WL.pu rfl (WL.nil (WX.a (WC.b (WC.b ?_))))
 obtain ⟨zzB,zJw,h⟩:=z7 h
 obtain ⟨zrE,zzD,h⟩:=z7 h
 refine WC.a (WL.qA 7 (yf zb rfl (yh .h1) rfl) (WL.cA 8 (z8 Tryz.call80 (.cons rfl .nil)) .nil (cc hz .nil fun w pz ho=>y2j _ _ _ zJw w pz ) (WL.pu rfl (WL.pu rfl (WL.seg false 3 10 (B:=zrE) rfl rfl rfl rfl rfl rfl (fun h=>(Option.some.inj (yo zzD h)).symm) (fun _ zJx=>?_) ?_)))))
 ·skip
  have zj6:=yp zzD zJx
  obtain ⟨zzC,zJy,zj6⟩:=z7 zj6
  replace zj6:=Option.some.inj zj6
  refine WL.qA 11 (yf zb rfl (yh .here) rfl) (WL.cA 12 (z8 Tryz.call80 (.cons rfl .nil)) .nil (cc hz .nil fun w pz ho=>y2j _ _ _ zJy w pz ) (WL.pu rfl (WL.pu rfl ?_)))
  exact WL.yB zj6 rfl rfl .all
 refine WL.nil (WX.a (WC.cond rfl (fun zrF=>?_) (fun zrF=>?_)))
 ·replace h:=yo h zrF
  refine WC.b (WC.a (WL.pu rfl (WL.nil (WX.a (WC.ret (WX.yd ?_))))))
  obtain rfl:=Option.some.inj h
  refine WX.ye Tryz.results79 (.tmp rfl .nil) (fun w hw=>?_)
  exact ⟨yC rfl,hw.sub .nil⟩
 ·replace h:=yp h zrF
  refine WC.skip (WX.a (WC.b (WC.b (WC.yP (fun i=>[].contains i) [] rfl (WD.pA 0 15 rfl (fun _=>ya y2a rfl rfl) (WD.qA 1 16 rfl (yc yw rfl (yj .h1 rfl)) (WD.pA 2 17 rfl (fun _=>ya y2w rfl rfl) (WD.qA 3 18 rfl (yc yw rfl (yj .here rfl)) (WD.pA 4 19 rfl (fun _=>y6B rfl rfl rfl) (WD.pA 5 20 rfl (fun _=>ya y2a rfl rfl) (WD.qA 6 21 rfl (yc yw rfl (yj .here rfl)) (WD.pA 7 22 rfl (fun _=>ya y2w rfl rfl) (WD.qA 8 23 rfl (yc yw rfl (yj .h1 rfl)) (WD.pA 9 24 rfl (fun _=>y6B rfl rfl rfl) (WD.pA 10 5 rfl (fun _=>q_z rfl) (WD.pA 11 6 rfl (fun _=>q_z rfl) (WD.done (by kernel_rfl) (WX.a (WC.block (WC.b (WC.a (WL.pu rfl (WL.pu rfl (WL.pu rfl (WL.pu rfl (WL.nil (WX.a (WC.cond rfl (fun zrG=>?_) (fun zrG=>?_)))))))))))))))))))))))))))))
  ·replace h:=yo h zrG
   refine WC.b (WC.a (WL.pu rfl (WL.nil (WX.a (WC.ret (WX.yt (WX.yd ?_)))))))
   obtain rfl:=Option.some.inj h
   refine WX.ye Tryz.results79 (.tmp rfl .nil) (fun w hw=>?_)
   exact ⟨yC rfl,hw.sub .nil⟩
  ·replace h:=yp h zrG
   refine WC.b (WC.a (WL.pu rfl (WL.pu rfl (WL.pu rfl (WL.pu rfl (WL.nil (WX.a (WC.cond rfl (fun zrH=>?_) (fun zrH=>?_)))))))))
   ·replace h:=yo h zrH
    refine WC.b (WC.a (WL.pu rfl (WL.nil (WX.a (WC.ret (WX.yt (WX.yd ?_)))))))
    obtain rfl:=Option.some.inj h
    refine WX.ye Tryz.results79 (.tmp rfl .nil) (fun w hw=>?_)
    exact ⟨yC rfl,hw.sub .nil⟩
   ·replace h:=yp h zrH
    refine WC.skip (WX.yq (WX.a (WC.b (WC.a (WL.pu rfl (WL.nil (WX.a (WC.ret ?_))))))))
    obtain rfl:=Option.some.inj h
    refine WX.ye Tryz.results79 (.tmp rfl .nil) (fun w hw=>?_)
    exact ⟨yC rfl,hw.sub .nil⟩
def y4C (z3O : z6) (z3P : z6) : Option Bool :=
 (if decide (z3O ≠ z3P) then (y1i z3O.fBurst z3P.fBurst).bind fun zzE=>some (decide (zzE ≤ 0)) else some false).bind fun zrI=>(if zrI then (y1i z3O.fRate z3P.fRate).bind fun zzF=>some (decide (zzF ≤ 0)) else some false).bind fun zrJ=>some zrJ
theorem ybo (Z : Zp)  (z3O : z6) (z3P : z6) (r : Bool)
  (h : y4C z3O z3P = some r) (w₀ : World) (hz : PZ [] w₀ Z) :
  Calls Tryz.prog 181 #[(.agg #[(.int .i64 z3O.fBurst.fN),(.int .i64 z3O.fBurst.fD),(.int .i64 z3O.fRate.fN),(.int .i64 z3O.fRate.fD)]),(.agg #[(.int .i64 z3P.fBurst.fN),(.int .i64 z3P.fBurst.fD),(.int .i64 z3P.fRate.fN),(.int .i64 z3P.fRate.fD)])] w₀ fun e w'=>e = .returned (.bool r) ∧ Hp [] w₀ w' []:=by
 unfold y4C at h
 refine Calls.yI Tryz.func181 Tryz.ntmps181 ?_
 refine WC.b (WC.a (WL.nA 2 (yH (cs:=[(.int .i64 z3O.fBurst.fN),(.int .i64 z3O.fBurst.fD),(.int .i64 z3O.fRate.fN),(.int .i64 z3O.fRate.fD)]) rfl rfl) ?_))
 intro zUr _
 refine WL.nA 3 (yH (cs:=[(.int .i64 z3P.fBurst.fN),(.int .i64 z3P.fBurst.fD),(.int .i64 z3P.fRate.fN),(.int .i64 z3P.fRate.fD)]) rfl rfl) ?_
 intro zUs _
 refine WL.pu rfl (WL.nil (WX.a (WC.b ?_)))
 obtain ⟨zrI,zzG,h⟩:=z7 h
 obtain ⟨zrJ,zzH,h⟩:=z7 h
 refine WC.a (WL.qA 5 (yf z2a rfl (yh .h1) rfl) (WL.qA 6 (yf z2a rfl (yh .here) rfl) (WL.qA 7 (y9V (enc:=y1x) (a:=z3O) (b:=z3P) zvZ rfl rfl) (WL.pu rfl (WL.seg true 6 8 (B:=zrI) rfl rfl rfl rfl rfl rfl (fun h=>(Option.some.inj (yp zzG h)).symm) (fun _ zJz=>?_) ?_)))))
 ·skip
  have zj7:=yo zzG zJz
  obtain ⟨zzE,zJA,zj7⟩:=z7 zj7
  replace zj7:=Option.some.inj zj7
  refine WL.qA 9 (ya y4u rfl rfl) (WL.qA 10 (yR (cs:=[(.int .i64 z3O.fBurst.fN),(.int .i64 z3O.fBurst.fD)]) zb rfl rfl (y30 (s:=2) .h1 rfl)) (WL.qA 11 (ya y4u rfl rfl) (WL.qA 12 (yR (cs:=[(.int .i64 z3P.fBurst.fN),(.int .i64 z3P.fBurst.fD)]) zb rfl rfl (y30 (s:=2) .here rfl)) (WL.cA 13 (z8 Tryz.call79 (.r2 rfl rfl)) .nil (cc hz .nil fun w pz ho=>y47 _ _ _ _ zJA w pz ) (WL.pu rfl (WL.pu rfl ?_))))))
  exact WL.yB zj7 rfl rfl .all
 refine WL.pu rfl (WL.seg true 6 16 (B:=zrJ) rfl rfl rfl rfl rfl rfl (fun h=>(Option.some.inj (yp zzH h)).symm) (fun _ zJB=>?_) ?_)
 ·skip
  have zj8:=yo zzH zJB
  obtain ⟨zzF,zJC,zj8⟩:=z7 zj8
  replace zj8:=Option.some.inj zj8
  refine WL.qA 17 (ya y5v rfl rfl) (WL.qA 18 (yR (cs:=[(.int .i64 z3O.fRate.fN),(.int .i64 z3O.fRate.fD)]) zb rfl rfl (y30 (s:=2) .h1 rfl)) (WL.qA 19 (ya y5v rfl rfl) (WL.qA 20 (yR (cs:=[(.int .i64 z3P.fRate.fN),(.int .i64 z3P.fRate.fD)]) zb rfl rfl (y30 (s:=2) .here rfl)) (WL.cA 21 (z8 Tryz.call79 (.r2 rfl rfl)) .nil (cc hz .nil fun w pz ho=>y47 _ _ _ _ zJC w pz ) (WL.pu rfl (WL.pu rfl ?_))))))
  exact WL.yB zj8 rfl rfl .all
 refine WL.pu rfl (WL.nil (WX.a (WC.ret ?_)))
 obtain rfl:=Option.some.inj h
 refine WX.ye Tryz.results181 (.tmp rfl .nil) (fun w hw=>?_)
 exact ⟨yC rfl,hw.sub .nil⟩
def y4R (z7p : z6) (zdM : z6) : Option Bool :=
 (y4C z7p zdM).bind fun zzI=>some zzI
theorem ycH (Z : Zp) (zzJ : Addr) (z7p : z6) (zdM : z6) (r : Bool)
  (h : y4R z7p zdM = some r) (w₀ : World) (hz : PZ [] w₀ Z)
  (zJD : ZC Z zzJ [(.int .i64 zdM.fBurst.fN),(.int .i64 zdM.fBurst.fD),(.int .i64 zdM.fRate.fN),(.int .i64 zdM.fRate.fD)]) :
  Calls Tryz.prog 180 #[(.agg #[(.int .i64 z7p.fBurst.fN),(.int .i64 z7p.fBurst.fD),(.int .i64 z7p.fRate.fN),(.int .i64 z7p.fRate.fD)]),(.pointer (some zzJ))] w₀ fun e w'=>e = .returned (.bool r) ∧ Hp [] w₀ w' []:=by
 unfold y4R at h
 refine Calls.yI Tryz.func180 Tryz.ntmps180 ?_
 refine WC.b (WC.a (WL.nA 2 (yH (cs:=[(.int .i64 z7p.fBurst.fN),(.int .i64 z7p.fBurst.fD),(.int .i64 z7p.fRate.fN),(.int .i64 z7p.fRate.fD)]) rfl rfl) ?_))
 intro zUt _
 refine WL.pu rfl (WL.nil (WX.a (WC.b ?_)))
 obtain ⟨zzI,zJE,h⟩:=z7 h
 refine WC.a (WL.qA 4 (yf z2a rfl (yh .here) rfl) (WL.qA 5 (yf z2a rfl (y2o hz.pv zJD) rfl) (WL.cA 6 (z8 Tryz.call181 (.r2 rfl rfl)) .nil (cc hz .nil fun w pz ho=>ybo _ _ _ _ zJE w pz ) (WL.pu rfl (WL.nil (WX.a (WC.ret ?_)))))))
 obtain rfl:=Option.some.inj h
 refine WX.ye Tryz.results180 (.tmp rfl .nil) (fun w hw=>?_)
 exact ⟨yC rfl,hw.sub .nil⟩
def y5L (z5Z : z6) (z60 : z6) : Option Int :=
 (y1i z5Z.fBurst z60.fBurst).bind fun zzK=>some zzK
theorem ycI (Z : Zp)  (z5Z : z6) (z60 : z6) (r : Int)
  (h : y5L z5Z z60 = some r) (w₀ : World) (hz : PZ [] w₀ Z) :
  Calls Tryz.prog 183 #[(.agg #[(.int .i64 z5Z.fBurst.fN),(.int .i64 z5Z.fBurst.fD),(.int .i64 z5Z.fRate.fN),(.int .i64 z5Z.fRate.fD)]),(.agg #[(.int .i64 z60.fBurst.fN),(.int .i64 z60.fBurst.fD),(.int .i64 z60.fRate.fN),(.int .i64 z60.fRate.fD)])] w₀ fun e w'=>e = .returned (.int .i64 r) ∧ Hp [] w₀ w' []:=by
 unfold y5L at h
 refine Calls.yI Tryz.func183 Tryz.ntmps183 ?_
 refine WC.b (WC.a (WL.nA 2 (yH (cs:=[(.int .i64 z5Z.fBurst.fN),(.int .i64 z5Z.fBurst.fD),(.int .i64 z5Z.fRate.fN),(.int .i64 z5Z.fRate.fD)]) rfl rfl) ?_))
 intro zUu _
 refine WL.nA 3 (yH (cs:=[(.int .i64 z60.fBurst.fN),(.int .i64 z60.fBurst.fD),(.int .i64 z60.fRate.fN),(.int .i64 z60.fRate.fD)]) rfl rfl) ?_
 intro zUv _
 refine WL.pu rfl (WL.nil (WX.a (WC.b ?_)))
 obtain ⟨zzK,zJF,h⟩:=z7 h
 refine WC.a (WL.qA 5 (ya y4u rfl rfl) (WL.qA 6 (yR (cs:=[(.int .i64 z5Z.fBurst.fN),(.int .i64 z5Z.fBurst.fD)]) zb rfl rfl (y30 (s:=2) .h1 rfl)) (WL.qA 7 (ya y4u rfl rfl) (WL.qA 8 (yR (cs:=[(.int .i64 z60.fBurst.fN),(.int .i64 z60.fBurst.fD)]) zb rfl rfl (y30 (s:=2) .here rfl)) (WL.cA 9 (z8 Tryz.call79 (.r2 rfl rfl)) .nil (cc hz .nil fun w pz ho=>y47 _ _ _ _ zJF w pz ) (WL.pu rfl (WL.nil (WX.a (WC.ret ?_)))))))))
 obtain rfl:=Option.some.inj h
 refine WX.ye Tryz.results183 (.tmp rfl .nil) (fun w hw=>?_)
 exact ⟨yC rfl,hw.sub .nil⟩
theorem zJG : ∀ w,(isAgg (Tryz.y36.t 24)).run Tryz.prog w = .ok true w:=fun _=>by kernel_rfl
theorem zJH : ∀ w,(Go.sizeOf (Tryz.y36.t 24)).run Tryz.prog w = .ok 4 w:=fun _=>by kernel_rfl
def y3q (z4r : List z6) (zj9 : Int) (zja : Int) (zfT : Int) (zdN : z6 → z6 → Option Int) : Option (List z6):=chk ((zj9 = 0 ∧ zja = ((z4r.length : Nat) : Int)) ∧ (0 ≤ zfT ∧ zfT < 4611686018427387904 ∧ z4r.length < 4611686018427387904)) (chk (y7d zdN (yS zdN z4r) = true) (some (yS zdN z4r)))
theorem y6Y (Z : Zp) (zdO : Option Addr) (zdP : Nat) (zjb : FuncId) (zrK : List Value) (z4r : List z6) (zj9 : Int) (zja : Int) (zfT : Int) (zdN : z6 → z6 → Option Int) (r : List z6) (w₀ : World) (hz : PZ (fps [row (.slice zdO z4r.length zdP) 171 4 (z4r.flatMap y1x)]) w₀ Z)
  (zJI : ∀ args w,(callFunc zjb args).run Tryz.prog w = .ok (.enter zjb args) w)
  (zJJ : ∀ w : World,PZ [] w Z → ∀ (x0 : z6) (x1 : z6) (r : Int),zdN x0 x1 = some r → Calls Tryz.prog zjb (([(.agg #[(.int .i64 x0.fBurst.fN),(.int .i64 x0.fBurst.fD),(.int .i64 x0.fRate.fN),(.int .i64 x0.fRate.fD)]),(.agg #[(.int .i64 x1.fBurst.fN),(.int .i64 x1.fBurst.fD),(.int .i64 x1.fRate.fN),(.int .i64 x1.fRate.fD)])] : List Value) ++ zrK).toArray w fun e w'=>e = .returned (.int .i64 r) ∧ Hp [] w w' [])
  (h : y3q z4r zj9 zja zfT zdN = some r) (hown : Hp (fps [row (.slice zdO z4r.length zdP) 171 4 (z4r.flatMap y1x)]) w₀ w₀ [row (.slice zdO z4r.length zdP) 171 4 (z4r.flatMap y1x)]) :
  Calls Tryz.prog 187 #[(.slice zdO z4r.length zdP),(.int .i64 zj9),(.int .i64 zja),(.int .i64 zfT),(.func (.func zjb) #[] (zrK).toArray)] w₀ fun e w'=>e = .returned (.tuple #[]) ∧ (r.length = z4r.length) ∧ Hp (fps [row (.slice zdO z4r.length zdP) 171 4 (z4r.flatMap y1x)]) w₀ w' [row (.slice zdO r.length zdP) 171 4 (r.flatMap y1x)]:=by
 obtain ⟨h0,h⟩:=ym h
 obtain ⟨h1,h⟩:=ym h
 have hr:=(Option.some.inj h).symm
 exact y85 (P:=Tryz.prog) (f:=187) (e:=171) (k:=4) (enc:=y1x) (fun _=>rfl) (by decide) yeL (fun β _ enc cf g cb hO blk off cap d0 w0 eg hC R=>Tryz.y7Q 4 zJG zJH enc cf g cb hO blk off cap d0 w0 eg hC R) (Tryz.y7J (α:=Unit)) hz zJI zJJ h0 h1 hr hown
def y1h (z3Q : List z6) (zfU : z6 → z6 → Option Int) : Option (List z6) :=
 (y3W (u64 ((z3Q.length : Nat) : Int))).bind fun zlJ=>(y3q z3Q 0 ((z3Q.length : Nat) : Int) zlJ zfU).bind fun zlK=>some zlK
theorem y6i (Z : Zp) (zbw : Option Addr) (zbx : Nat) (zfV : FuncId) (zlL : List Value) (z3Q : List z6) (zfU : z6 → z6 → Option Int) (r : List z6)
  (h : y1h z3Q zfU = some r) (w₀ : World) (hz : PZ (fps [row (.slice zbw z3Q.length zbx) 171 4 (z3Q.flatMap y1x)]) w₀ Z)
  (zJK : ∀ args w,(callFunc zfV args).run Tryz.prog w = .ok (.enter zfV args) w)
  (zJL : ∀ w : World,PZ [] w Z → ∀ (x0 : z6) (x1 : z6) (r : Int),zfU x0 x1 = some r → Calls Tryz.prog zfV (([(.agg #[(.int .i64 x0.fBurst.fN),(.int .i64 x0.fBurst.fD),(.int .i64 x0.fRate.fN),(.int .i64 x0.fRate.fD)]),(.agg #[(.int .i64 x1.fBurst.fN),(.int .i64 x1.fBurst.fD),(.int .i64 x1.fRate.fN),(.int .i64 x1.fRate.fD)])] : List Value) ++ zlL).toArray w fun e w'=>e = .returned (.int .i64 r) ∧ Hp [] w w' [])
  (hown : Hp (fps [row (.slice zbw z3Q.length zbx) 171 4 (z3Q.flatMap y1x)]) w₀ w₀ [row (.slice zbw z3Q.length zbx) 171 4 (z3Q.flatMap y1x)]) :
  Calls Tryz.prog 182 #[(.slice zbw z3Q.length zbx),(.func (.func zfV) #[] (zlL).toArray)] w₀ fun e w'=>e = .returned (.tuple #[]) ∧ (r.length = z3Q.length) ∧ Hp (fps [row (.slice zbw z3Q.length zbx) 171 4 (z3Q.flatMap y1x)]) w₀ w' [row (.slice zbw r.length zbx) 171 4 (r.flatMap y1x)]:=by
 unfold y1h at h
 refine Calls.oh2 Tryz.func182 Tryz.ntmps182 hown ?_
 refine WC.b (WC.a (WL.pu rfl (WL.qA 6 (yG Tryz.underlying173 rfl) (WL.pu rfl (WL.nil (WX.a ?_))))))
 obtain ⟨zlJ,zJM,h⟩:=z7 h
 obtain ⟨zlK,zJN,h⟩:=z7 h
 refine WC.a (WL.pu rfl (WL.pu rfl (WL.pu rfl (WL.qA 10 (y72 Tryz.underlying3 Tryz.underlying142 rfl rfl) (WL.cA 11 (z8 Tryz.call48 (.cons rfl .nil)) .nil (cc hz .nil fun w pz ho=>y7D (Z:=_)  (z6m:=(u64 ((z3Q.length : Nat) : Int))) (r:=zlJ) w pz  zJM) (WL.pu rfl (WL.y4L (dd:=13) rfl rfl rfl (z8 Tryz.call187 (.r5 rfl rfl rfl rfl rfl)) (.cons .here .nil) (cc hz (.cons .here .nil) fun w pz ho=>y6Y (Z:=_) (zdO:=zbw) (zdP:=zbx) (zjb:=zfV) (zrK:=zlL) (z4r:=z3Q) (zj9:=0) (zja:=((z3Q.length : Nat) : Int)) (zfT:=zlJ) (zdN:=zfU) (r:=zlK) w pz zJK zJL zJN ho) ?_)))))))
 rintro  zzL
 refine WL.repin (i:=0) rfl (u:=(.slice zbw zlK.length zbx)) (y7u zzL.symm) (WL.nil ?_)
 obtain rfl:=Option.some.inj h
 refine WX.y4K Tryz.results182 .nil (fun w hw=>?_)
 exact ⟨y7a,(zzL.trans rfl),hw.sub (.cons .here .nil)⟩
def y3Y (zG : List z6) (z9D : (List z6) → Option (List z6)) : Nat → (List z6) → Int → Option (List z6)
 | 0,_,_=>none
 | zrL + 1,z2U,zM=>if decide (zM < ((zG.length : Nat) : Int)) then jp1 (fun (z7q : List z6)=>y3Y zG z9D zrL z7q (i64 (zM + 1))) fun zlM=>chk ((0 : Int) ≤ zM ∧ zM < ((zG.length : Nat) : Int)) ((y23 z2U (⟨(⟨(((nth zG zM).fBurst).fN),(((nth zG zM).fBurst).fD)⟩ : z2),(⟨(((nth zG zM).fRate).fN),(((nth zG zM).fRate).fD)⟩ : z2)⟩ : z6)).bind fun zzM=>(if !zzM then (y1o zG (fun (y0 : z6)=>y4R y0 (⟨(⟨(((nth zG zM).fBurst).fN),(((nth zG zM).fBurst).fD)⟩ : z2),(⟨(((nth zG zM).fRate).fN),(((nth zG zM).fRate).fD)⟩ : z2)⟩ : z6))).bind fun zzN=>some (!zzN) else some false).bind fun zrM=>if zrM then chk ((((z2U ++ ([(⟨(⟨(((nth zG zM).fBurst).fN),(((nth zG zM).fBurst).fD)⟩ : z2),(⟨(((nth zG zM).fRate).fN),(((nth zG zM).fRate).fD)⟩ : z2)⟩ : z6)] : List z6)).length : Nat) : Int) * 32 ≤ 140737488355328 ∧ (((z2U ++ ([(⟨(⟨(((nth zG zM).fBurst).fN),(((nth zG zM).fBurst).fD)⟩ : z2),(⟨(((nth zG zM).fRate).fN),(((nth zG zM).fRate).fD)⟩ : z2)⟩ : z6)] : List z6)).length : Nat) : Int) ≤ 4611686018427387904) (zlM (z2U ++ ([(⟨(⟨(((nth zG zM).fBurst).fN),(((nth zG zM).fBurst).fD)⟩ : z2),(⟨(((nth zG zM).fRate).fN),(((nth zG zM).fRate).fD)⟩ : z2)⟩ : z6)] : List z6))) else zlM z2U) else z9D z2U
theorem ya2 {n : Nat} {zG : List z6} {z9D : (List z6) → Option (List z6)} {z2U : List z6} {zM : Int} {r : List z6} (h : y3Y zG z9D n z2U zM = some r) : ∃ m,n = m + 1:=by
 cases n with
 | zero=>cases h
 | succ m=>exact ⟨m,rfl⟩
def y6y (zG : List z6) : Option (List z6) :=
 jp1 (fun (z7Q : List z6)=>(y1h z7Q (fun (y0 : z6) (y1 : z6)=>y5L y0 y1)).bind fun zrN=>some zrN) fun z9D=>y3Y zG z9D yz ([] : List z6) 0
theorem ydQ (Z : Zp) (zfW : Option Addr) (zfX : Nat) (zG : List z6) (r : List z6)
  (h : y6y zG = some r) (w₀ : World) (hz : PZ [] w₀ Z)
  (zzO : ZS Z 4 (fun r x=>r = y1x x) zfW zfX zG) :
  Calls Tryz.prog 169 #[(.slice zfW zG.length zfX)] w₀ fun e w'=>∃ zzP : Option Addr,∃ zzQ : Nat,e = .returned (.slice zzP r.length zzQ) ∧ True ∧ Hp [] w₀ w' [row (.slice zzP r.length zzQ) 171 4 (r.flatMap y1x)]:=by
 unfold y6y at h
 refine Calls.on1 Tryz.func169 Tryz.ntmps169 ?_
 refine WC.b (WC.a (WL.pu rfl (WL.nil (WX.a (WC.b (WC.a (WL.pu rfl (WL.nil (WX.a ?_)))))))))
 obtain ⟨z9D,zJO,h⟩:=y14 h
 refine WC.y2F (fun (z7Q : List z6) (zdQ : Option Addr) (zdR : Nat)=>(z9D z7Q = some r)) (fun z7Q zdQ zdR=>[(3,(.slice zdQ z7Q.length zdR))]) (fun z7Q zdQ zdR=>[row (.slice zdQ z7Q.length zdR) 171 4 (z7Q.flatMap y1x)]) ?_ ?_
 ·skip
  refine WC.b (WC.a (WL.pu rfl (WL.qA 7 (yG Tryz.underlying173 rfl) (WL.pu rfl (WL.nil (WX.a (WC.block (WC.nilRow 171 4 (WC.y6s (fun (zfY : Nat) (z2U : List z6) (zM : Int) (zby : Option Addr) (zbz : Nat)=>(y3Y zG z9D zfY z2U zM = some r)) (fun zfY z2U zM zby zbz=>[(0,(.slice zfW zG.length zfX)),(3,(.slice zby z2U.length zbz)),(6,(.slice zfW zG.length zfX)),(7,(.int .i64 ((zG.length : Nat) : Int))),(8,(.int .i64 zM))]) (fun zfY z2U zM zby zbz=>[row (.slice zby z2U.length zbz) 171 4 (z2U.flatMap y1x)]) (fun zfY z2U zM zby zbz=>zfY) ⟨yz,([] : List z6),0,none,0⟩ h (.r5 rfl rfl rfl rfl rfl) (.cons .here .nil) ?_)))))))))
  rintro zfY z2U zM zby zbz h
  obtain ⟨zrL,rfl⟩:=ya2 h
  rw [y3Y] at h
  refine WC.b (WC.a (WL.pu rfl (WL.nil (WX.a (WC.b (WC.cond rfl (fun zrO=>?_) (fun zrO=>?_)))))))
  ·replace h:=yo h zrO
   refine WC.skip (WX.a ?_)
   obtain ⟨zlM,zJP,h⟩:=y14 h
   refine WC.y2F (fun (z7q : List z6) (zfZ : Option Addr) (zg0 : Nat)=>(zlM z7q = some r)) (fun z7q zfZ zg0=>[(0,(.slice zfW zG.length zfX)),(3,(.slice zfZ z7q.length zg0)),(6,(.slice zfW zG.length zfX)),(7,(.int .i64 ((zG.length : Nat) : Int))),(8,(.int .i64 zM))]) (fun z7q zfZ zg0=>[row (.slice zfZ z7q.length zg0) 171 4 (z7q.flatMap y1x)]) ?_ ?_
   ·skip
    refine WC.block (WC.b ?_)
    obtain ⟨zJQ,h⟩:=ym h
    refine WC.a (WL.znth (dd:=10) rfl rfl (Z:=Z) (Pr:=(fun r x=>r = y1x x)) z5P rfl rfl zzO zJQ ?_)
    rintro zUw zUx zJR zUy rfl
    refine WL.qA 11 (yf z2a rfl (y2o hz.pv zJR) rfl) (WL.nA 5 (yx (cs:=[(.int .i64 0),(.int .i64 0),(.int .i64 0),(.int .i64 0)]) z8K rfl) ?_)
    intro zJS _
    refine WL.yl rfl rfl (yk z7C rfl rfl rfl .here rfl rfl rfl) (WL.nil (WX.a (WC.b ?_)))
    obtain ⟨zzM,zJT,h⟩:=z7 h
    obtain ⟨zrM,zzR,h⟩:=z7 h
    refine WC.a (WL.pu rfl (WL.qA 13 (yf z2a rfl (yh .here) rfl) (WL.cA 14 (z8 Tryz.call179 (.r2 rfl rfl)) .nil (ccl hz .nil (.cons .h1 .nil) fun w pz ho la=>y6h _ _ _ _ _ _ zJT w pz (ZA.row (la _ (.head _) _) (RR.flat (enc:=y1x) (fun _=>rfl) _) ⟨w,pz.1⟩)) (WL.pu rfl (WL.pu rfl (WL.seg true 4 16 (B:=zrM) rfl rfl rfl rfl rfl rfl (fun h=>(Option.some.inj (yp zzR h)).symm) (fun _ zJU=>?_) ?_))))))
    ·skip
     have zjc:=yo zzR zJU
     obtain ⟨zzN,zJV,zjc⟩:=z7 zjc
     replace zjc:=Option.some.inj zjc
     refine WL.pu rfl (WL.qA 18 (y18 (Eos.caps (l:=[.tmp 5]) (.cons rfl .nil))) (WL.cA 19 (z8 Tryz.call165 (.r2 rfl rfl)) .nil (ccl hz .nil (.cons .here .nil) fun w pz ho la=>y3K _ _ _ (zdI:=180) (ziX:=[(.pointer (some ⟨zJS,0,none⟩))]) _ (zdH:=(fun (y0 : z6)=>y4R y0 (⟨(⟨(((nth zG zM).fBurst).fN),(((nth zG zM).fBurst).fD)⟩ : z2),(⟨(((nth zG zM).fRate).fN),(((nth zG zM).fRate).fD)⟩ : z2)⟩ : z6))) _ zJV w pz (zzO.mono (Zle.left _ _)) Tryz.call180 (fun w' hz' y0  r  hr=>ycH _ _ _ _ _ hr w' hz' ((la _ (.head _) _).stb))) (WL.pu rfl (WL.pu rfl ?_))))
     exact WL.yB zjc rfl rfl .all
    refine WL.nil (WX.a (WC.cond rfl (fun zrP=>?_) (fun zrP=>?_)))
    ·replace h:=yo h zrP
     obtain ⟨zJW,h⟩:=ym h
     refine WC.a (WL.pu rfl (WL.qA 23 (yf z2a rfl (yh .here) rfl) (WL.nA 24 (yX (cs:=([(⟨(⟨(((nth zG zM).fBurst).fN),(((nth zG zM).fBurst).fD)⟩ : z2),(⟨(((nth zG zM).fRate).fN),(((nth zG zM).fRate).fD)⟩ : z2)⟩ : z6)] : List z6).flatMap y1x) z5P (Eos.parts (l:=[.tmp 23]) (.cons rfl .nil) [0]) (fun _=>by kernel_rfl) rfl (by unfold maxLen; omega)) ?_)))
     intro zUz _
     refine WL.fA 25 (y4M (enc:=y1x) (l1:=z2U) (l2:=([(⟨(⟨(((nth zG zM).fBurst).fN),(((nth zG zM).fBurst).fD)⟩ : z2),(⟨(((nth zG zM).fRate).fN),(((nth zG zM).fRate).fD)⟩ : z2)⟩ : z6)] : List z6)) z5P rfl rfl .h2 (fun _=>rfl) rfl rfl (y4d .here) (y5a yeL _) zJW) ?_
     rintro ⟨zJX,zJY⟩ _
     refine WL.pu rfl (WL.nil (WX.yq ?_))
     exact WX.mid ⟨(z2U ++ ([(⟨(⟨(((nth zG zM).fBurst).fN),(((nth zG zM).fBurst).fD)⟩ : z2),(⟨(((nth zG zM).fRate).fN),(((nth zG zM).fRate).fD)⟩ : z2)⟩ : z6)] : List z6)),zJX,zJY⟩ h (.r5 rfl rfl rfl rfl rfl) (.cons .here .nil)
    ·replace h:=yp h zrP
     refine WC.skip (WX.yq ?_)
     exact WX.mid ⟨z2U,zby,zbz⟩ h (.r5 rfl rfl rfl rfl rfl) (.cons .h1 .nil)
   ·rintro z7q zfZ zg0 h
    replace h:=(zJP z7q).symm.trans h
    refine WC.a (WL.pu rfl (WL.pu rfl (WL.nil ?_)))
    exact WX.round ⟨zrL,z7q,(i64 (zM + 1)),zfZ,zg0⟩ h (Nat.lt_succ_self _) (.r5 rfl rfl rfl rfl rfl) (.cons .here .nil)
  ·replace h:=yp h zrO
   refine WC.exit (WX.yg (WX.yg (WX.yA ?_)))
   exact WX.mid ⟨z2U,zby,zbz⟩ h (.cons rfl .nil) (.cons .here .nil)
 ·rintro z7Q zdQ zdR h
  replace h:=(zJO z7Q).symm.trans h
  refine WC.b ?_
  obtain ⟨zrN,zJZ,h⟩:=z7 h
  refine WC.a (WL.pu rfl (WL.y4L (dd:=28) rfl rfl rfl (z8 Tryz.call182 (.r2 rfl rfl)) (.cons .here .nil) (cc hz (.cons .here .nil) fun w pz ho=>y6i _ _ _ (zfV:=183) (zlL:=[]) _ (zfU:=(fun (y0 : z6) (y1 : z6)=>y5L y0 y1)) _ zJZ w pz Tryz.call183 (fun w' hz' y0 y1  r  hr=>ycI _ _ _ _ hr w' hz' ) ho) ?_))
  rintro  zK0
  refine WL.repin (i:=3) rfl (u:=(.slice zdQ zrN.length zdR)) (y7u zK0.symm) (WL.nil (WX.a (WC.b (WC.a (WL.pu rfl (WL.pu rfl (WL.nil (WX.a (WC.ret ?_)))))))))
  obtain rfl:=Option.some.inj h
  refine WX.ye Tryz.results169 (.tmp rfl .nil) (fun w hw=>?_)
  exact ⟨zdQ,zdR,yC rfl,trivial,hw.sub (.cons .here .nil)⟩
def y65 (zg1 : List z6) (zg2 : List z6) : Option (List z6 × List z6) :=
 some (zg1,zg2)
theorem ydp (Z : Zp) (zlN : Option Addr) (zlO : Nat) (zlP : Option Addr) (zlQ : Nat) (zg1 : List z6) (zg2 : List z6) (r : List z6 × List z6)
  (h : y65 zg1 zg2 = some r) (w₀ : World) (hz : PZ [] w₀ Z)
  (zK1 : ZS Z 4 (fun r x=>r = y1x x) zlN zlO zg1)
  (zK2 : ZS Z 4 (fun r x=>r = y1x x) zlP zlQ zg2) :
  Calls Tryz.prog 170 #[(.slice zlN zg1.length zlO),(.slice zlP zg2.length zlQ)] w₀ fun e w'=>∃ zzS : Nat,∃ zzT : Nat,∃ zzU : Option Addr,∃ zzV : Nat,∃ zzW : Option Addr,∃ zzX : Nat,e = .returned (.func (.func 184) #[] #[(.pointer (some ⟨zzS,0,none⟩)),(.pointer (some ⟨zzT,0,none⟩))]) ∧ ((ZS Z 4 (fun r x=>r = y1x x) zzU zzV r.1) ∧ (ZS Z 4 (fun r x=>r = y1x x) zzW zzX r.2)) ∧ Hp [] w₀ w' [stb zzS 173 [(.slice zzU r.1.length zzV)],stb zzT 173 [(.slice zzW r.2.length zzX)]]:=by
 unfold y65 at h
 refine Calls.yI Tryz.func170 Tryz.ntmps170 ?_
 refine WC.b (WC.a (WL.nA 2 (yH (cs:=[(.slice zlN zg1.length zlO)]) rfl rfl) ?_))
 intro zK3 _
 refine WL.nA 3 (yH (cs:=[(.slice zlP zg2.length zlQ)]) rfl rfl) ?_
 intro zK4 _
 refine WL.pu rfl (WL.nil (WX.a (WC.b (WC.a (WL.qA 5 (y18 (Eos.caps (l:=[.tmp 2,.tmp 3]) (.r2 rfl rfl))) (WL.pu rfl (WL.nil (WX.a (WC.ret ?_)))))))))
 obtain rfl:=Option.some.inj h
 refine WX.ye Tryz.results170 (.tmp rfl .nil) (fun w hw=>?_)
 exact ⟨zK3,zK4,zlN,zlO,zlP,zlQ,yC rfl,⟨zK1,zK2⟩,hw.sub (.s2 .h1 .here)⟩
def y3b (zC : Type) (z1F : List z6) (z4s : (z6 × z6) → zC → Option (Bool × zC)) (z1i : List z6) (z1o : Int) (z9E : zC → Option zC) : Nat → Int → zC → Option zC
 | 0,_,_=>none
 | zrQ + 1,z2H,z4P=>if decide (z2H < ((z1F.length : Nat) : Int)) then chk ((0 : Int) ≤ z2H ∧ z2H < ((z1F.length : Nat) : Int)) ((z4s ((⟨(⟨(((nth z1i z1o).fBurst).fN),(((nth z1i z1o).fBurst).fD)⟩ : z2),(⟨(((nth z1i z1o).fRate).fN),(((nth z1i z1o).fRate).fD)⟩ : z2)⟩ : z6),(⟨(⟨(((nth z1F z2H).fBurst).fN),(((nth z1F z2H).fBurst).fD)⟩ : z2),(⟨(((nth z1F z2H).fRate).fN),(((nth z1F z2H).fRate).fD)⟩ : z2)⟩ : z6)) z4P).bind fun zdS=>if !zdS.1 then some zdS.2 else y3b zC z1F z4s z1i z1o z9E zrQ (i64 (z2H + 1)) zdS.2) else z9E z4P
theorem y98 {n : Nat} {zC : Type} {z1F : List z6} {z4s : (z6 × z6) → zC → Option (Bool × zC)} {z1i : List z6} {z1o : Int} {z9E : zC → Option zC} {z2H : Int} {z4P : zC} {r : zC} (h : y3b zC z1F z4s z1i z1o z9E n z2H z4P = some r) : ∃ m,n = m + 1:=by
 cases n with
 | zero=>cases h
 | succ m=>exact ⟨m,rfl⟩
def y3c (zC : Type) (z1i : List z6) (z1F : List z6) (z4s : (z6 × z6) → zC → Option (Bool × zC)) (z9F : zC → Option zC) : Nat → Int → zC → Option zC
 | 0,_,_=>none
 | zrR + 1,z1o,z5y=>if decide (z1o < ((z1i.length : Nat) : Int)) then jp1 (fun (z7R : zC)=>y3c zC z1i z1F z4s z9F zrR (i64 (z1o + 1)) z7R) fun zrS=>chk ((0 : Int) ≤ z1o ∧ z1o < ((z1i.length : Nat) : Int)) (jp1 (fun (z7S : zC)=>zrS z7S) fun z9E=>y3b zC z1F z4s z1i z1o z9E yz 0 z5y) else z9F z5y
theorem y99 {n : Nat} {zC : Type} {z1i : List z6} {z1F : List z6} {z4s : (z6 × z6) → zC → Option (Bool × zC)} {z9F : zC → Option zC} {z1o : Int} {z5y : zC} {r : zC} (h : y3c zC z1i z1F z4s z9F n z1o z5y = some r) : ∃ m,n = m + 1:=by
 cases n with
 | zero=>cases h
 | succ m=>exact ⟨m,rfl⟩
def y4r (zC : Type) (z4s : (z6 × z6) → zC → Option (Bool × zC)) (s0_32953 : zC) (z1i : List z6) (z1F : List z6) : Option zC :=
 jp1 (fun (z9G : zC)=>some z9G) fun z9F=>y3c zC z1i z1F z4s z9F yz 0 s0_32953
theorem yce (Z : Zp) (zC : Type) (zdT : Nat) (z7r : Type) (z5z : z7r → zC → Asrt) (z9H : z7r → zC → Prop) (zdU : z7r) (zrT : Addr) (zdV : Option Addr) (zdW : Nat) (zdX : Addr) (zlR : Option Addr) (zlS : Nat) (z4s : (z6 × z6) → zC → Option (Bool × zC)) (s0_32953 : zC) (z1i : List z6) (z1F : List z6) (r : zC) (w₀ : World) (hz : PZ (fps [z5z zdU s0_32953]) w₀ Z)
  (zK5 : yaz Tryz.prog Z zdT (α:=z6 × z6) (σ:=zC) (G:=z7r) (H:=Unit) (fun h x=>[(.agg #[(.int .i64 x.1.fBurst.fN),(.int .i64 x.1.fBurst.fD),(.int .i64 x.1.fRate.fN),(.int .i64 x.1.fRate.fD)]),(.agg #[(.int .i64 x.2.fBurst.fN),(.int .i64 x.2.fBurst.fD),(.int .i64 x.2.fRate.fN),(.int .i64 x.2.fRate.fD)])]) (fun h x=>[]) z4s z5z z9H)
  (zK6 : z9H zdU s0_32953)
  (zK7 : ZS Z 4 (fun r x=>r = y1x x) zdV zdW z1i)
  (zK8 : ZC Z zrT [(.slice zdV z1i.length zdW)])
  (zK9 : ZS Z 4 (fun r x=>r = y1x x) zlR zlS z1F)
  (zKa : ZC Z zdX [(.slice zlR z1F.length zlS)])
  (h : y4r zC z4s s0_32953 z1i z1F = some r)
  (hown : Hp (fps [z5z zdU s0_32953]) w₀ w₀ [z5z zdU s0_32953]) :
  Calls Tryz.prog 184 #[(.func (.yield zdT) #[] #[]),(.pointer (some zrT)),(.pointer (some zdX))] w₀ fun e w'=>∃ zzY : z7r,e = .returned (.tuple #[]) ∧ (z9H zzY r) ∧ Hp (fps [z5z zdU s0_32953]) w₀ w' [z5z zzY r]:=by
 unfold y4r at h
 refine Calls.oh3 Tryz.func184 Tryz.ntmps184 hown ?_
 refine WC.b (WC.a (WL.qA 8 (yc zaF rfl (y53 hz.pv zK8 rfl)) (WL.qA 9 (yG Tryz.underlying173 rfl) (WL.pu rfl (WL.nil (WX.a ?_))))))
 obtain ⟨z9F,zKb,h⟩:=y14 h
 refine WC.y8F (fun (z9G : zC) (zg3 : z7r)=>(z9F z9G = some r) ∧ (z9H zg3 z9G)) (fun z9G zg3=>[]) (fun z9G zg3=>[z5z zg3 z9G]) ?_ ?_
 ·skip
  refine WC.block (WC.y4T (fun (zg4 : Nat) (z1o : Int) (z5y : zC) (zbA : z7r)=>(y3c zC z1i z1F z4s z9F zg4 z1o z5y = some r) ∧ (z9H zbA z5y)) (fun zg4 z1o z5y zbA=>[(0,(.func (.yield zdT) #[] #[])),(2,(.pointer (some zdX))),(8,(.slice zdV z1i.length zdW)),(9,(.int .i64 ((z1i.length : Nat) : Int))),(10,(.int .i64 z1o))]) (fun zg4 z1o z5y zbA=>[z5z zbA z5y]) (fun zg4 z1o z5y zbA=>zg4) ⟨yz,0,s0_32953,zdU⟩ ⟨h,zK6⟩ (.r5 rfl rfl rfl rfl rfl) (.cons .here .nil) ?_)
  rintro zg4 z1o z5y zbA ⟨h,zzZ⟩
  obtain ⟨zrR,rfl⟩:=y99 h
  rw [y3c] at h
  refine WC.b (WC.a (WL.pu rfl (WL.nil (WX.a (WC.b (WC.cond rfl (fun zrU=>?_) (fun zrU=>?_)))))))
  ·replace h:=yo h zrU
   refine WC.skip (WX.a ?_)
   obtain ⟨zrS,zKc,h⟩:=y14 h
   refine WC.y4G (fun (z7R : zC) (zg5 : z7r)=>(zrS z7R = some r) ∧ (z9H zg5 z7R)) (fun z7R zg5=>[(0,(.func (.yield zdT) #[] #[])),(2,(.pointer (some zdX))),(8,(.slice zdV z1i.length zdW)),(9,(.int .i64 ((z1i.length : Nat) : Int))),(10,(.int .i64 z1o))]) (fun z7R zg5=>[z5z zg5 z7R]) ?_ ?_
   ·skip
    refine WC.block (WC.b ?_)
    obtain ⟨zKd,h⟩:=ym h
    refine WC.a (WL.znth (dd:=12) rfl rfl (Z:=Z) (Pr:=(fun r x=>r = y1x x)) z5P rfl rfl zK7 zKd ?_)
    rintro zUA zUB zKe zUC rfl
    refine WL.qA 13 (yf z2a rfl (y2o hz.pv zKe) rfl) (WL.nA 5 (yx (cs:=[(.int .i64 0),(.int .i64 0),(.int .i64 0),(.int .i64 0)]) z8K rfl) ?_)
    intro zA0 _
    refine WL.yl rfl rfl (yk z7C rfl rfl rfl .here rfl rfl rfl) (WL.nil (WX.a (WC.b (WC.a (WL.qA 14 (yc zaF rfl (y53 hz.pv zKa rfl)) (WL.qA 15 (yG Tryz.underlying173 rfl) (WL.pu rfl (WL.nil (WX.a ?_)))))))))
    obtain ⟨z9E,zKf,h⟩:=y14 h
    refine WC.y8F (fun (z7S : zC) (zg6 : z7r)=>(z9E z7S = some r) ∧ (z9H zg6 z7S)) (fun z7S zg6=>[(0,(.func (.yield zdT) #[] #[])),(2,(.pointer (some zdX))),(8,(.slice zdV z1i.length zdW)),(9,(.int .i64 ((z1i.length : Nat) : Int))),(10,(.int .i64 z1o))]) (fun z7S zg6=>[z5z zg6 z7S]) ?_ ?_
    ·skip
     refine WC.block (WC.y4T (fun (zg7 : Nat) (z2H : Int) (z4P : zC) (z7T : z7r)=>(y3b zC z1F z4s z1i z1o z9E zg7 z2H z4P = some r) ∧ (z9H z7T z4P)) (fun zg7 z2H z4P z7T=>[(0,(.func (.yield zdT) #[] #[])),(2,(.pointer (some zdX))),(5,(.pointer (some ⟨zA0,0,none⟩))),(8,(.slice zdV z1i.length zdW)),(9,(.int .i64 ((z1i.length : Nat) : Int))),(10,(.int .i64 z1o)),(14,(.slice zlR z1F.length zlS)),(15,(.int .i64 ((z1F.length : Nat) : Int))),(16,(.int .i64 z2H))]) (fun zg7 z2H z4P z7T=>[stb zA0 171 [(.int .i64 (((nth z1i z1o).fBurst).fN)),(.int .i64 (((nth z1i z1o).fBurst).fD)),(.int .i64 (((nth z1i z1o).fRate).fN)),(.int .i64 (((nth z1i z1o).fRate).fD))],z5z z7T z4P]) (fun zg7 z2H z4P z7T=>zg7) ⟨yz,0,z5y,zbA⟩ ⟨h,zzZ⟩ (.r9 rfl rfl rfl rfl rfl rfl rfl rfl rfl) (.s2 .here .here) ?_)
     rintro zg7 z2H z4P z7T ⟨h,zA1⟩
     obtain ⟨zrQ,rfl⟩:=y98 h
     rw [y3b] at h
     refine WC.b (WC.a (WL.pu rfl (WL.nil (WX.a (WC.b (WC.cond rfl (fun zrV=>?_) (fun zrV=>?_)))))))
     ·replace h:=yo h zrV
      refine WC.skip (WX.a (WC.b (WC.block (WC.b ?_))))
      obtain ⟨zKg,h⟩:=ym h
      refine WC.a (WL.znth (dd:=18) rfl rfl (Z:=Z) (Pr:=(fun r x=>r = y1x x)) z5P rfl rfl zK9 zKg ?_)
      rintro zUD zUE zKh zUF rfl
      refine WL.qA 19 (yf z2a rfl (y2o hz.pv zKh) rfl) (WL.nA 7 (yx (cs:=[(.int .i64 0),(.int .i64 0),(.int .i64 0),(.int .i64 0)]) z8K rfl) ?_)
      intro zUG _
      refine WL.yl rfl rfl (yk z7C rfl rfl rfl .here rfl rfl rfl) (WL.nil (WX.a (WC.b ?_)))
      obtain ⟨zdS,zKi,h⟩:=z7 h
      refine WC.a (WL.pu rfl (WL.qA 21 (yf z2a rfl (yh .h1) rfl) (WL.qA 22 (yf z2a rfl (yh .here) rfl) (WL.yield (dd:=23) (x:=((⟨(⟨(((nth z1i z1o).fBurst).fN),(((nth z1i z1o).fBurst).fD)⟩ : z2),(⟨(((nth z1i z1o).fRate).fN),(((nth z1i z1o).fRate).fD)⟩ : z2)⟩ : z6),(⟨(⟨(((nth z1F z2H).fBurst).fN),(((nth z1F z2H).fBurst).fD)⟩ : z2),(⟨(((nth z1F z2H).fRate).fN),(((nth z1F z2H).fRate).fD)⟩ : z2)⟩ : z6))) (h:=()) (g:=z7T) (s:=z4P) (b:=zdS.1) (s':=zdS.2) zK5 rfl rfl rfl (.r2 rfl rfl) ((.cons .h2 .nil) : Sel _ [z5z z7T z4P] _) zKi zA1 (fun w hw=>hz.call hw ((.cons .h2 .nil) : Sel _ [z5z z7T z4P] _)) ?_))))
      intro zA2 zA3
      refine WL.pu rfl (WL.nil (WX.a (WC.cond rfl (fun zrW=>?_) (fun zrW=>?_))))
      ·replace h:=yo h zrW
       refine WC.ret (WX.yt (WX.yd (WX.yd (WX.yt (WX.yd (WX.yt (WX.yd (WX.yd (WX.yt (WX.yd ?_))))))))))
       obtain rfl:=Option.some.inj h
       refine WX.ye Tryz.results184 .nil (fun w hw=>?_)
       exact ⟨zA2,y7a,zA3,hw.sub (.cons .here .nil)⟩
      ·replace h:=yp h zrW
       refine WC.skip (WX.yq (WX.a (WC.a (WL.pu rfl (WL.pu rfl (WL.nil ?_))))))
       exact WX.round ⟨zrQ,(i64 (z2H + 1)),zdS.2,zA2⟩ ⟨h,zA3⟩ (Nat.lt_succ_self _) (.r9 rfl rfl rfl rfl rfl rfl rfl rfl rfl) (.s2 .h2 .here)
     ·replace h:=yp h zrV
      refine WC.exit (WX.yg (WX.yg (WX.yA ?_)))
      exact WX.mid ⟨z4P,z7T⟩ ⟨h,zA1⟩ (.r5 rfl rfl rfl rfl rfl) (.cons .h1 .nil)
    ·rintro z7S zg6 ⟨h,zKj⟩
     replace h:=(zKf z7S).symm.trans h
     refine WX.yq ?_
     exact WX.mid ⟨z7S,zg6⟩ ⟨h,zKj⟩ (.r5 rfl rfl rfl rfl rfl) (.cons .here .nil)
   ·rintro z7R zg5 ⟨h,zKk⟩
    replace h:=(zKc z7R).symm.trans h
    refine WC.a (WL.pu rfl (WL.pu rfl (WL.nil ?_)))
    exact WX.round ⟨zrR,(i64 (z1o + 1)),z7R,zg5⟩ ⟨h,zKk⟩ (Nat.lt_succ_self _) (.r5 rfl rfl rfl rfl rfl) (.cons .here .nil)
  ·replace h:=yp h zrU
   refine WC.exit (WX.yg (WX.yg (WX.yA ?_)))
   exact WX.mid ⟨z5y,zbA⟩ ⟨h,zzZ⟩ .nil (.cons .here .nil)
 ·rintro z9G zg3 ⟨h,zKl⟩
  replace h:=(zKb z9G).symm.trans h
  obtain rfl:=Option.some.inj h
  refine WX.y4K Tryz.results184 .nil (fun w hw=>?_)
  exact ⟨zg3,y7a,zKl,hw.sub (.cons .here .nil)⟩
def y8y (zdY : z2) (zdZ : z2) : Option (Int × Int) :=
 some ((i64 ((i64 (zdY.fN * zdZ.fD)) - (i64 (zdZ.fN * zdY.fD)))),(i64 (zdY.fD * zdZ.fD)))
theorem yfq (Z : Zp) (zA4 : Addr) (zA5 : Addr) (zdY : z2) (zdZ : z2) (r : Int × Int)
  (h : y8y zdY zdZ = some r) (w₀ : World) (hz : PZ [] w₀ Z)
  (zrX : ZC Z zA4 [(.int .i64 zdY.fN),(.int .i64 zdY.fD)])
  (zrY : ZC Z zA5 [(.int .i64 zdZ.fN),(.int .i64 zdZ.fD)]) :
  Calls Tryz.prog 142 #[(.pointer (some zA4)),(.pointer (some zA5))] w₀ fun e w'=>e = .returned (.tuple #[(.int .i64 r.1),(.int .i64 r.2)]) ∧ Hp [] w₀ w' []:=by
 unfold y8y at h
 refine Calls.yI Tryz.func142 Tryz.ntmps142 ?_
 refine WC.b (WC.a (WL.pu rfl (WL.pu rfl (WL.nil (WX.a (WC.b (WC.yP (fun i=>[].contains i) [] rfl (WD.pA 0 4 rfl (fun _=>ya y2a rfl rfl) (WD.qA 1 5 rfl (yc yw rfl (y1e hz.pv zrX rfl)) (WD.pA 2 6 rfl (fun _=>ya y2w rfl rfl) (WD.qA 3 7 rfl (yc yw rfl (y1e hz.pv zrY rfl)) (WD.pA 4 8 rfl (fun _=>y6B rfl rfl rfl) (WD.pA 5 9 rfl (fun _=>ya y2a rfl rfl) (WD.qA 6 10 rfl (yc yw rfl (y1e hz.pv zrY rfl)) (WD.pA 7 11 rfl (fun _=>ya y2w rfl rfl) (WD.qA 8 12 rfl (yc yw rfl (y1e hz.pv zrX rfl)) (WD.pA 9 13 rfl (fun _=>y6B rfl rfl rfl) (WD.pA 10 14 rfl (fun _=>ybY rfl rfl rfl) (WD.pA 11 15 rfl (fun _=>ya y2w rfl rfl) (WD.qA 12 16 rfl (yc yw rfl (y1e hz.pv zrX rfl)) (WD.pA 13 17 rfl (fun _=>ya y2w rfl rfl) (WD.qA 14 18 rfl (yc yw rfl (y1e hz.pv zrY rfl)) (WD.pA 15 19 rfl (fun _=>y6B rfl rfl rfl) (WD.pA 16 2 rfl (fun _=>q_z rfl) (WD.pA 17 3 rfl (fun _=>q_z rfl) (WD.done (by kernel_rfl) (WX.a (WC.ret ?_))))))))))))))))))))))))))))
 obtain rfl:=Option.some.inj h
 refine WX.ye Tryz.results142 (.tmp rfl (.tmp rfl .nil)) (fun w hw=>?_)
 exact ⟨y1U rfl rfl,hw.sub .nil⟩
def y8e (zbB : z2) (zbC : z2) : Option (z2 × Int) :=
 (y1H zbB).bind fun zA6=>(if !zA6 then some true else (y1H zbC).bind fun zA7=>some (!zA7)).bind fun zlT=>if zlT then some ((⟨0,0⟩ : z2),2) else (y8y zbB zbC).bind fun zrZ=>(y4J zrZ.1 zrZ.2).bind fun zs0=>some (zs0.1,zs0.2)
theorem yfW (Z : Zp)  (zbB : z2) (zbC : z2) (r : z2 × Int)
  (h : y8e zbB zbC = some r) (w₀ : World) (hz : PZ [] w₀ Z) :
  Calls Tryz.prog 105 #[(.string ⟨#[45]⟩),(.agg #[(.int .i64 zbB.fN),(.int .i64 zbB.fD)]),(.agg #[(.int .i64 zbC.fN),(.int .i64 zbC.fD)])] w₀ fun e w'=>e = .returned (.tuple #[(.agg #[(.int .i64 r.1.fN),(.int .i64 r.1.fD)]),(.int .i64 r.2)]) ∧ Hp [] w₀ w' []:=by
 unfold y8e at h
 refine Calls.on3 Tryz.func105 Tryz.ntmps105 ?_
 refine WC.b (WC.a (WL.nA 4 (yH (cs:=[(.int .i64 zbB.fN),(.int .i64 zbB.fD)]) rfl rfl) ?_))
 intro zjd _
 refine WL.nA 5 (yH (cs:=[(.int .i64 zbC.fN),(.int .i64 zbC.fD)]) rfl rfl) ?_
 intro zje _
 refine WL.nA 6 (yx (cs:=[(.int .i64 0),(.int .i64 0)]) zH rfl) ?_
 intro zUH _
 refine WL.pu rfl (WL.nil (WX.a (WC.b (WC.b ?_))))
 obtain ⟨zA6,zKm,h⟩:=z7 h
 obtain ⟨zlT,zA8,h⟩:=z7 h
 refine WC.a (WL.qA 9 (yf zb rfl (yh .h2) rfl) (WL.cA 10 (z8 Tryz.call80 (.cons rfl .nil)) .nil (cc hz .nil fun w pz ho=>y2j _ _ _ zKm w pz ) (WL.pu rfl (WL.pu rfl (WL.seg false 3 12 (B:=zlT) rfl rfl rfl rfl rfl rfl (fun h=>(Option.some.inj (yo zA8 h)).symm) (fun _ zKn=>?_) ?_)))))
 ·skip
  have zjf:=yp zA8 zKn
  obtain ⟨zA7,zKo,zjf⟩:=z7 zjf
  replace zjf:=Option.some.inj zjf
  refine WL.qA 13 (yf zb rfl (yh .h1) rfl) (WL.cA 14 (z8 Tryz.call80 (.cons rfl .nil)) .nil (cc hz .nil fun w pz ho=>y2j _ _ _ zKo w pz ) (WL.pu rfl (WL.pu rfl ?_)))
  exact WL.yB zjf rfl rfl .all
 refine WL.pu rfl (WL.seg false 7 17 (B:=zlT) rfl rfl rfl rfl rfl rfl (fun h=>h) (fun _ zKp=>?_) ?_)
 ·skip
  refine WL.pu rfl (WL.qA 19 (yb6 (r:=false) (by decide) rfl rfl) (WL.pu rfl (WL.e rfl rfl rfl (WL.e rfl rfl rfl (WL.e rfl rfl rfl (WL.pu rfl (WL.pu rfl ?_)))))))
  exact WL.yB (Eq.symm zKp) rfl rfl .all
 refine WL.nil (WX.a (WC.cond rfl (fun zs1=>?_) (fun zs1=>?_)))
 ·replace h:=yo h zs1
  refine WC.b (WC.a (WL.qA 26 (yL (v:=(.agg #[(.int .i64 0),(.int .i64 0)])) (Eos.parts (l:=[]) .nil []) (fun _=>by kernel_rfl)) (WL.yl rfl rfl (yk zq rfl rfl rfl .here rfl rfl rfl) (WL.pu rfl (WL.nil (WX.a (WC.ret (WX.yd ?_))))))))
  obtain rfl:=Option.some.inj h
  refine WX.ye Tryz.results105 (.agg rfl zb rfl (yh .here) (.tmp rfl .nil)) (fun w hw=>?_)
  exact ⟨y1U rfl rfl,hw.sub .nil⟩
 ·replace h:=yp h zs1
  refine WC.skip (WX.a (WC.b (WC.a (WL.nA 27 (y4j Value.string (fun x=>x)) ?_))))
  intro zUI _
  refine WL.qA 28 (y18 (Eos.caps (l:=[.tmp 4,.tmp 5]) (.r2 rfl rfl))) (WL.yl rfl rfl (y3m (k:=⟨#[43]⟩) (v:=(.func (.func 141) #[] #[(.pointer (some ⟨zjd,0,none⟩)),(.pointer (some ⟨zje,0,none⟩))])) y3I Tryz.underlying258 rfl rfl rfl rfl .here) (WL.qA 29 (y18 (Eos.caps (l:=[.tmp 4,.tmp 5]) (.r2 rfl rfl))) (WL.yl rfl rfl (y3m (k:=⟨#[45]⟩) (v:=(.func (.func 142) #[] #[(.pointer (some ⟨zjd,0,none⟩)),(.pointer (some ⟨zje,0,none⟩))])) y3I Tryz.underlying258 rfl rfl rfl rfl .here) (WL.qA 30 (y18 (Eos.caps (l:=[.tmp 4,.tmp 5]) (.r2 rfl rfl))) (WL.yl rfl rfl (y3m (k:=⟨#[42]⟩) (v:=(.func (.func 143) #[] #[(.pointer (some ⟨zjd,0,none⟩)),(.pointer (some ⟨zje,0,none⟩))])) y3I Tryz.underlying258 rfl rfl rfl rfl .here) (WL.qA 31 (y18 (Eos.caps (l:=[.tmp 4,.tmp 5]) (.r2 rfl rfl))) (WL.yl rfl rfl (y3m (k:=⟨#[47]⟩) (v:=(.func (.func 144) #[] #[(.pointer (some ⟨zjd,0,none⟩)),(.pointer (some ⟨zje,0,none⟩))])) y3I Tryz.underlying258 rfl rfl rfl rfl .here) (WL.pu rfl (WL.pu rfl (WL.nil (WX.a (WC.b ?_))))))))))))
  obtain ⟨zrZ,zKq,h⟩:=z7 h
  obtain ⟨zs0,zKr,h⟩:=z7 h
  refine WC.a (WL.pu rfl (WL.pu rfl (WL.qA 35 (yb5 (k:=⟨#[45]⟩) (dflt:=.nilFunc) (r:=(.func (.func 142) #[] #[(.pointer (some ⟨zjd,0,none⟩)),(.pointer (some ⟨zje,0,none⟩))])) y3I Tryz.underlying258 zkJ rfl rfl rfl .here (by rfl)) (WL.cA 36 (y2q (l:=[]) Tryz.call142 rfl .nil) .nil (ccl hz .nil (.s2 .h3 .h2) fun w pz ho la=>yfq _ _ _ _ _ _ zKq w pz ((la _ (.head _) _).stb) ((la _ (.tail _ (.head _)) _).stb)) (WL.pu rfl (WL.pu rfl (WL.cA 39 (z8 Tryz.call106 (.r2 rfl rfl)) .nil (cc hz .nil fun w pz ho=>y7F _ _ _ _ zKr w pz ) (WL.pu rfl (WL.pu rfl (WL.yl rfl rfl (yk zq rfl rfl rfl .h1 rfl rfl rfl) (WL.pu rfl (WL.nil (WX.a (WC.ret ?_))))))))))))))
  obtain rfl:=Option.some.inj h
  refine WX.ye Tryz.results105 (.agg rfl zb rfl (yh .here) (.tmp rfl .nil)) (fun w hw=>?_)
  exact ⟨y1U rfl rfl,hw.sub .nil⟩
def y24 (ze0 : z2) (ze1 : z2) : Option (z2 × Int) :=
 (y8e ze0 ze1).bind fun zs2=>some (zs2.1,zs2.2)
theorem y8f (Z : Zp)  (ze0 : z2) (ze1 : z2) (r : z2 × Int)
  (h : y24 ze0 ze1 = some r) (w₀ : World) (hz : PZ [] w₀ Z) :
  Calls Tryz.prog 74 #[(.agg #[(.int .i64 ze0.fN),(.int .i64 ze0.fD)]),(.agg #[(.int .i64 ze1.fN),(.int .i64 ze1.fD)])] w₀ fun e w'=>e = .returned (.tuple #[(.agg #[(.int .i64 r.1.fN),(.int .i64 r.1.fD)]),(.int .i64 r.2)]) ∧ Hp [] w₀ w' []:=by
 unfold y24 at h
 refine Calls.yI Tryz.func74 Tryz.ntmps74 ?_
 refine WC.b (WC.a (WL.nA 2 (yH (cs:=[(.int .i64 ze0.fN),(.int .i64 ze0.fD)]) rfl rfl) ?_))
 intro zUJ _
 refine WL.nA 3 (yH (cs:=[(.int .i64 ze1.fN),(.int .i64 ze1.fD)]) rfl rfl) ?_
 intro zUK _
 refine WL.nA 4 (yx (cs:=[(.int .i64 0),(.int .i64 0)]) zH rfl) ?_
 intro zUL _
 refine WL.pu rfl (WL.nil (WX.a (WC.b ?_)))
 obtain ⟨zs2,zKs,h⟩:=z7 h
 refine WC.a (WL.qA 6 (yf zb rfl (yh .h2) rfl) (WL.qA 7 (yf zb rfl (yh .h1) rfl) (WL.cA 8 (z8 Tryz.call105 (.r3 rfl rfl rfl)) .nil (cc hz .nil fun w pz ho=>yfW _ _ _ _ zKs w pz ) (WL.pu rfl (WL.pu rfl (WL.yl rfl rfl (yk zq rfl rfl rfl .here rfl rfl rfl) (WL.pu rfl (WL.nil (WX.a (WC.ret ?_))))))))))
 obtain rfl:=Option.some.inj h
 refine WX.ye Tryz.results74 (.agg rfl zb rfl (yh .here) (.tmp rfl .nil)) (fun w hw=>?_)
 exact ⟨y1U rfl rfl,hw.sub .nil⟩
end Go.Proofs.YtcahmabkeaijdaaGreat

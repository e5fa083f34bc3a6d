/- A part of this claim's proof: models of functions, walks, plain laws. No conditions. -/
import Derived.Test.YtcahmabkeaijdaaGreatW35ob
namespace Go.Proofs.YtcahmabkeaijdaaGreat
open Go Go.RowKit Sep
set_option linter.all false
set_option maxRecDepth 30000
set_option maxHeartbeats 4000000
def y31 (zS : List (List Sapi_Hop)) (zK : Sbound_place) (zb : Sapi_Config) (z1a : List (Sbound_place × Int)) (za3 : (List (List z6)) → Int → Int → (List (Int × List Int)) → (List (Sbound_flow × z1)) → Option (List (List z6) × Int × Int × (List (Sbound_flow × z1)))) : Nat → (List (List z6)) → Int → Int → Int → (List (Int × List Int)) → (List (Sbound_flow × z1)) → Option (List (List z6) × Int × Int × (List (Sbound_flow × z1)))
 | 0,_,_,_,_,_,_=>none
 | zsJ + 1,z2w,z5b,zV,z47,z28,z2x=>if decide (zV < ((zS.length : Nat) : Int)) then jp5 (fun (z7X : List (List z6)) (za4 : Int) (za5 : Int) (za6 : List (Int × List Int)) (za7 : List (Sbound_flow × z1))=>y31 zS zK zb z1a za3 zsJ z7X za4 (i64 (zV + 1)) za5 za6 za7) fun zmT=>chk ((0 : Int) ≤ zV ∧ zV < ((zS.length : Nat) : Int)) ((y2j (nth zS zV) (fun (y0 : Sapi_Hop)=>y3S y0 zK)).bind fun zB9=>if !zB9 then zmT z2w z5b z47 z28 z2x else chk ((0 : Int) ≤ zV ∧ zV < ((zb.fVLs.length : Nat) : Int)) (chk ((0 : Int) ≤ zV ∧ zV < ((zb.fVLs.length : Nat) : Int)) ((y36 ((nth zb.fVLs zV).fMax)).bind fun z2y=>jp5 (fun (z7Y : List (List z6)) (za8 : Int) (za9 : List (Int × List Int)) (z8u : Int) (z8v : Int)=>zmT z7Y (max z5b ((nth zb.fVLs zV).fMax)) za8 za9 (yG z2x (⟨zV,zK⟩ : Sbound_flow) (⟨z8u,z8v⟩ : z1))) fun zmU=>(y4o (nth zS zV) zK.fNode).bind fun z1S=>if z1S.2 then (y3o z1S.1).bind fun zcG=>(y43 zb zS z2x z1a z47 zV).bind fun zBa=>(y3o z1S.1).bind fun zsK=>(y36 (yp z1a zsK 0)).bind fun zBb=>(y3T zb zS z2x z1a z47 (fun (y0 : z1) (y1 : z1)=>y5p y0 y1) zBa zBb).bind fun zsL=>(y3T zb zS z2x z1a zsL.2 (fun (y0 : z1) (y1 : z1)=>y28 y0 y1) (⟨((yp z2x (⟨zV,zcG⟩ : Sbound_flow) (⟨0,0⟩ : z1)).fN),((yp z2x (⟨zV,zcG⟩ : Sbound_flow) (⟨0,0⟩ : z1)).fD)⟩ : z1) zsL.1).bind fun z8w=>chk (((((yp z28 z1S.1.fLink []) ++ ([zV] : List Int)).length : Nat) : Int) * 8 ≤ 140737488355328 ∧ ((((yp z28 z1S.1.fLink []) ++ ([zV] : List Int)).length : Nat) : Int) ≤ 4611686018427387904) (zmU z2w z8w.2 (yG z28 z1S.1.fLink ((yp z28 z1S.1.fLink []) ++ ([zV] : List Int))) z8w.1.fN z8w.1.fD) else (y43 zb zS z2x z1a z47 zV).bind fun z48=>chk ((((z2w ++ ([([(⟨z2y,z48⟩ : z6)] : List z6)] : List (List z6))).length : Nat) : Int) * 24 ≤ 140737488355328 ∧ (((z2w ++ ([([(⟨z2y,z48⟩ : z6)] : List z6)] : List (List z6))).length : Nat) : Int) ≤ 4611686018427387904) (zmU (z2w ++ ([([(⟨z2y,z48⟩ : z6)] : List z6)] : List (List z6))) z47 z28 z2y.fN z2y.fD)))) else za3 z2w z5b z47 z28 z2x
theorem y7S {n : Nat} {zS : List (List Sapi_Hop)} {zK : Sbound_place} {zb : Sapi_Config} {z1a : List (Sbound_place × Int)} {za3 : (List (List z6)) → Int → Int → (List (Int × List Int)) → (List (Sbound_flow × z1)) → Option (List (List z6) × Int × Int × (List (Sbound_flow × z1)))} {z2w : List (List z6)} {z5b : Int} {zV : Int} {z47 : Int} {z28 : List (Int × List Int)} {z2x : List (Sbound_flow × z1)} {r : List (List z6) × Int × Int × (List (Sbound_flow × z1))} (h : y31 zS zK zb z1a za3 n z2w z5b zV z47 z28 z2x = some r) : ∃ m,n = m + 1:=by
 cases n with
 | zero=>cases h
 | succ m=>exact ⟨m,rfl⟩
def y32 (z1w : List (Int × List Int)) (zC : Int) (zb : Sapi_Config) (zS : List (List Sapi_Hop)) (z1T : List (Sbound_flow × z1)) (z1a : List (Sbound_place × Int)) (zK : Sbound_place) (zaa : Int → Int → Int → Int → Int → Int → Option (List (List z6) × Int × Int × (List (Sbound_flow × z1)))) : Nat → Int → Int → Int → Int → Int → Int → Int → Option (List (List z6) × Int × Int × (List (Sbound_flow × z1)))
 | 0,_,_,_,_,_,_,_=>none
 | zsM + 1,z6q,z2z,z73,z6r,z6s,z5v,z5w=>if decide (z2z < (((yp z1w zC []).length : Nat) : Int)) then chk ((0 : Int) ≤ z2z ∧ z2z < (((yp z1w zC []).length : Nat) : Int)) ((y3T zb zS z1T z1a z73 (fun (y0 : z1) (y1 : z1)=>y28 y0 y1) (⟨z6r,z6s⟩ : z1) (⟨((yp z1T (⟨(nth (yp z1w zC []) z2z),zK⟩ : Sbound_flow) (⟨0,0⟩ : z1)).fN),((yp z1T (⟨(nth (yp z1w zC []) z2z),zK⟩ : Sbound_flow) (⟨0,0⟩ : z1)).fD)⟩ : z1)).bind fun z7Z=>(y43 zb zS z1T z1a z7Z.2 (nth (yp z1w zC []) z2z)).bind fun zBc=>(y3T zb zS z1T z1a z7Z.2 (fun (y0 : z1) (y1 : z1)=>y28 y0 y1) (⟨z5v,z5w⟩ : z1) zBc).bind fun zab=>chk ((0 : Int) ≤ (nth (yp z1w zC []) z2z) ∧ (nth (yp z1w zC []) z2z) < ((zb.fVLs.length : Nat) : Int)) (y32 z1w zC zb zS z1T z1a zK zaa zsM (max z6q ((nth zb.fVLs (nth (yp z1w zC []) z2z)).fMax)) (i64 (z2z + 1)) zab.2 z7Z.1.fN z7Z.1.fD zab.1.fN zab.1.fD)) else zaa z6q z73 z6r z6s z5v z5w
theorem y7T {n : Nat} {z1w : List (Int × List Int)} {zC : Int} {zb : Sapi_Config} {zS : List (List Sapi_Hop)} {z1T : List (Sbound_flow × z1)} {z1a : List (Sbound_place × Int)} {zK : Sbound_place} {zaa : Int → Int → Int → Int → Int → Int → Option (List (List z6) × Int × Int × (List (Sbound_flow × z1)))} {z6q : Int} {z2z : Int} {z73 : Int} {z6r : Int} {z6s : Int} {z5v : Int} {z5w : Int} {r : List (List z6) × Int × Int × (List (Sbound_flow × z1))} (h : y32 z1w zC zb zS z1T z1a zK zaa n z6q z2z z73 z6r z6s z5v z5w = some r) : ∃ m,n = m + 1:=by
 cases n with
 | zero=>cases h
 | succ m=>exact ⟨m,rfl⟩
def y33 (zb : Sapi_Config) (z1w : List (Int × List Int)) (zS : List (List Sapi_Hop)) (z1T : List (Sbound_flow × z1)) (z1a : List (Sbound_place × Int)) (zK : Sbound_place) (zac : (List (List z6)) → Int → Option (List (List z6) × Int × Int × (List (Sbound_flow × z1)))) : Nat → (List (List z6)) → Int → Int → Option (List (List z6) × Int × Int × (List (Sbound_flow × z1)))
 | 0,_,_,_=>none
 | zsN + 1,z2m,zC,z5x=>if decide (zC < ((zb.fLinks.length : Nat) : Int)) then jp2 (fun (z80 : List (List z6)) (zad : Int)=>y33 zb z1w zS z1T z1a zK zac zsN z80 (i64 (zC + 1)) zad) fun zmV=>if decide ((((yp z1w zC []).length : Nat) : Int) = 0) then zmV z2m z5x else (y36 0).bind fun zet=>(y36 0).bind fun zeu=>jp6 (fun (zcH : Int) (zae : Int) (z2T : Int) (z2U : Int) (z2V : Int) (z2W : Int)=>(y36 zcH).bind fun z49=>chk ((0 : Int) ≤ zC ∧ zC < ((zb.fLinks.length : Nat) : Int)) (chk ((((z2m ++ ([([(⟨(⟨z2T,z2U⟩ : z1),(⟨z2V,z2W⟩ : z1)⟩ : z6),(⟨z49,(⟨1,((nth zb.fLinks zC).fSlow)⟩ : z1)⟩ : z6)] : List z6)] : List (List z6))).length : Nat) : Int) * 24 ≤ 140737488355328 ∧ (((z2m ++ ([([(⟨(⟨z2T,z2U⟩ : z1),(⟨z2V,z2W⟩ : z1)⟩ : z6),(⟨z49,(⟨1,((nth zb.fLinks zC).fSlow)⟩ : z1)⟩ : z6)] : List z6)] : List (List z6))).length : Nat) : Int) ≤ 4611686018427387904) (zmV (z2m ++ ([([(⟨(⟨z2T,z2U⟩ : z1),(⟨z2V,z2W⟩ : z1)⟩ : z6),(⟨z49,(⟨1,((nth zb.fLinks zC).fSlow)⟩ : z1)⟩ : z6)] : List z6)] : List (List z6))) zae))) fun zaa=>y32 z1w zC zb zS z1T z1a zK zaa yB 0 0 z5x zet.fN zet.fD zeu.fN zeu.fD else zac z2m z5x
theorem y7U {n : Nat} {zb : Sapi_Config} {z1w : List (Int × List Int)} {zS : List (List Sapi_Hop)} {z1T : List (Sbound_flow × z1)} {z1a : List (Sbound_place × Int)} {zK : Sbound_place} {zac : (List (List z6)) → Int → Option (List (List z6) × Int × Int × (List (Sbound_flow × z1)))} {z2m : List (List z6)} {zC : Int} {z5x : Int} {r : List (List z6) × Int × Int × (List (Sbound_flow × z1))} (h : y33 zb z1w zS z1T z1a zK zac n z2m zC z5x = some r) : ∃ m,n = m + 1:=by
 cases n with
 | zero=>cases h
 | succ m=>exact ⟨m,rfl⟩
def y5R (zb : Sapi_Config) (zS : List (List Sapi_Hop)) (zaf : List (Sbound_flow × z1)) (z1a : List (Sbound_place × Int)) (zag : Int) (zK : Sbound_place) : Option (List (List z6) × Int × Int × (List (Sbound_flow × z1))) :=
 jp5 (fun (z2A : List (List z6)) (z6t : Int) (zah : Int) (z1w : List (Int × List Int)) (z1T : List (Sbound_flow × z1))=>jp2 (fun (z5Y : List (List z6)) (zcI : Int)=>chk ((((z2A ++ z5Y).length : Nat) : Int) * 24 ≤ 140737488355328 ∧ (((z2A ++ z5Y).length : Nat) : Int) ≤ 4611686018427387904) (some ((z2A ++ z5Y),z6t,zcI,z1T))) fun zac=>y33 zb z1w zS z1T z1a zK zac yB ([] : List (List z6)) 0 zah) fun za3=>y31 zS zK zb z1a za3 yB ([] : List (List z6)) 0 0 zag ([] : List (Int × List Int)) zaf
set_option maxRecDepth 20000 in
theorem ya7 (Z : Zp) (z2e : Nat) (z4v : Option Addr) (z4w : Nat) (z4x : Option Addr) (z4y : Nat) (z4z : Option Addr) (z4A : Nat) (z4B : Option Addr) (z4C : Nat) (z4D : Option Addr) (z4E : Nat) (z4F : Option Addr) (z4G : Nat) (z4H : Option Addr) (z4I : Nat) (z4J : Option Addr) (z4K : Nat) (z3x : Option Addr) (z3y : Nat) (z1E : Nat) (z1G : Nat) (zb : Sapi_Config) (zS : List (List Sapi_Hop)) (zaf : List (Sbound_flow × z1)) (z1a : List (Sbound_place × Int)) (zag : Int) (zK : Sbound_place) (r : List (List z6) × Int × Int × (List (Sbound_flow × z1)))
  (h : y5R zb zS zaf z1a zag zK = some r) (w₀ : World) (hz : PZ (fps [stb z2e 95 [(.slice z4v zb.fModules.length z4w),(.slice z4x zb.fChannels.length z4y),(.slice z4z zb.fSwitches.length z4A),(.slice z4B zb.fLinks.length z4C),(.slice z4D zb.fVLs.length z4E),(.slice z4F zb.fHealth.length z4G),(.slice z4H zb.fCauses.length z4I),(.slice z4J zb.fVersions.length z4K),(.slice z3x zS.length z3y),(.map (some z1E)),(.map (some z1G)),(.int .i64 zag)],yr z1E (fun x=>Value.agg (y1M x).toArray) (fun x=>Value.agg (yw x).toArray) zaf,yr z1G (fun x=>Value.agg (e97 x).toArray) (Value.int .i64) z1a]) w₀ Z)
  (zev : ZS Z 4 (y3y Z) z4v z4w zb.fModules)
  (zew : ZS Z 4 (y49 Z) z4x z4y zb.fChannels)
  (zex : ZS Z 4 (fun r x=>r = e66 x) z4z z4A zb.fSwitches)
  (zcJ : ZS Z 4 (fun r x=>r = e64 x) z4B z4C zb.fLinks)
  (z8x : ZS Z 7 (p46 Z) z4D z4E zb.fVLs)
  (zey : ZS Z 5 (fun r x=>r = y4m x) z4F z4G zb.fHealth)
  (zez : ZS Z 3 (y4a Z) z4H z4I zb.fCauses)
  (zeA : ZS Z 4 (fun r x=>r = y4n x) z4J z4K zb.fVersions)
  (zcK : ZS Z 1 (p48 Z) z3x z3y zS)
  (hown : Hp (fps [stb z2e 95 [(.slice z4v zb.fModules.length z4w),(.slice z4x zb.fChannels.length z4y),(.slice z4z zb.fSwitches.length z4A),(.slice z4B zb.fLinks.length z4C),(.slice z4D zb.fVLs.length z4E),(.slice z4F zb.fHealth.length z4G),(.slice z4H zb.fCauses.length z4I),(.slice z4J zb.fVersions.length z4K),(.slice z3x zS.length z3y),(.map (some z1E)),(.map (some z1G)),(.int .i64 zag)],yr z1E (fun x=>Value.agg (y1M x).toArray) (fun x=>Value.agg (yw x).toArray) zaf,yr z1G (fun x=>Value.agg (e97 x).toArray) (Value.int .i64) z1a]) w₀ w₀ [stb z2e 95 [(.slice z4v zb.fModules.length z4w),(.slice z4x zb.fChannels.length z4y),(.slice z4z zb.fSwitches.length z4A),(.slice z4B zb.fLinks.length z4C),(.slice z4D zb.fVLs.length z4E),(.slice z4F zb.fHealth.length z4G),(.slice z4H zb.fCauses.length z4I),(.slice z4J zb.fVersions.length z4K),(.slice z3x zS.length z3y),(.map (some z1E)),(.map (some z1G)),(.int .i64 zag)],yr z1E (fun x=>Value.agg (y1M x).toArray) (fun x=>Value.agg (yw x).toArray) zaf,yr z1G (fun x=>Value.agg (e97 x).toArray) (Value.int .i64) z1a]) :
  Calls Tryz.prog 42 #[(.pointer (some ⟨z2e,0,none⟩)),(.agg #[(.int .i64 zK.fNode),(.int .i64 zK.fLink)])] w₀ fun e w'=>∃ Zn : Zp,∃ zBd : Option Addr,∃ zBe : Nat,∃ zBf : List Value,e = .returned (.tuple #[(.slice zBd r.1.length zBe),(.int .i64 r.2.1)]) ∧ (RR 1 (y1v (Z ++ Zn)) zBf r.1) ∧ Hp (fps [stb z2e 95 [(.slice z4v zb.fModules.length z4w),(.slice z4x zb.fChannels.length z4y),(.slice z4z zb.fSwitches.length z4A),(.slice z4B zb.fLinks.length z4C),(.slice z4D zb.fVLs.length z4E),(.slice z4F zb.fHealth.length z4G),(.slice z4H zb.fCauses.length z4I),(.slice z4J zb.fVersions.length z4K),(.slice z3x zS.length z3y),(.map (some z1E)),(.map (some z1G)),(.int .i64 zag)],yr z1E (fun x=>Value.agg (y1M x).toArray) (fun x=>Value.agg (yw x).toArray) zaf,yr z1G (fun x=>Value.agg (e97 x).toArray) (Value.int .i64) z1a]) w₀ w' [fz Zn,row (.slice zBd r.1.length zBe) 173 1 zBf,stb z2e 95 [(.slice z4v zb.fModules.length z4w),(.slice z4x zb.fChannels.length z4y),(.slice z4z zb.fSwitches.length z4A),(.slice z4B zb.fLinks.length z4C),(.slice z4D zb.fVLs.length z4E),(.slice z4F zb.fHealth.length z4G),(.slice z4H zb.fCauses.length z4I),(.slice z4J zb.fVersions.length z4K),(.slice z3x zS.length z3y),(.map (some z1E)),(.map (some z1G)),(.int .i64 r.2.2.1)],yr z1E (fun x=>Value.agg (y1M x).toArray) (fun x=>Value.agg (yw x).toArray) r.2.2.2,yr z1G (fun x=>Value.agg (e97 x).toArray) (Value.int .i64) z1a]:=by
 unfold y5R at h
 refine Calls.oh2 Tryz.func42 Tryz.ntmps42 hown ?_
 refine WC.pool (WC.b (WC.a ?_))
 refine WL.nA 3 (yH (cs:=[(.int .i64 zK.fNode),(.int .i64 zK.fLink)]) rfl rfl) ?_
 intro z3M _
 refine WL.pu rfl (WL.pu rfl (WL.nil (WX.a (WC.b (WC.a (WL.pu rfl (WL.pu rfl (WL.nil (WX.a (WC.b (WC.a ?_)))))))))))
 refine WL.nA 20 (y3e (Value.int .i64) (slv (α:=Int))) ?_
 intro z4a _
 refine WL.ghL (M:=[y4w (y4x 3 1 e3) ([] : List (Int × ((Nat × (Option Addr × Nat)) × List Int))),yr z4a (Value.int .i64) slv (y5O ([] : List (Int × ((Nat × (Option Addr × Nat)) × List Int)))),stb z3M 97 [(.int .i64 zK.fNode),(.int .i64 zK.fLink)],fz [],stb z2e 95 [(.slice z4v zb.fModules.length z4w),(.slice z4x zb.fChannels.length z4y),(.slice z4z zb.fSwitches.length z4A),(.slice z4B zb.fLinks.length z4C),(.slice z4D zb.fVLs.length z4E),(.slice z4F zb.fHealth.length z4G),(.slice z4H zb.fCauses.length z4I),(.slice z4J zb.fVersions.length z4K),(.slice z3x zS.length z3y),(.map (some z1E)),(.map (some z1G)),(.int .i64 zag)],yr z1E (fun x=>Value.agg (y1M x).toArray) (fun x=>Value.agg (yw x).toArray) zaf,yr z1G (fun x=>Value.agg (e97 x).toArray) (Value.int .i64) z1a]) (fun _ h=>Hp.ydt (y4x 3 1 e3) h) ?_
 refine WL.pu rfl (WL.nil (WX.a (WC.b (WC.a (WL.pu rfl (WL.nil (WX.a ?_)))))))
 obtain ⟨za3,zJY,h⟩:=yb6 h
 refine WC.y8V (fun (z2A : List (List z6)) (z6t : Int) (zah : Int) (z1w : List (Int × List Int)) (z1T : List (Sbound_flow × z1)) (zai : Zp) (z5y : Option Addr) (z5z : Nat) (z74 : List Value) (z5Z : List (Int × ((Nat × (Option Addr × Nat)) × List Int)))=>(za3 z2A z6t zah z1w z1T = some r) ∧ (Zle (Z ++ []) (Z ++ zai)) ∧ (RR 1 (y1v (Z ++ zai)) z74 z2A) ∧ (dat z5Z = z1w)) (fun z2A z6t zah z1w z1T zai z5y z5z z74 z5Z=>[(0,(.pointer (some ⟨z2e,0,none⟩))),(3,(.pointer (some ⟨z3M,0,none⟩))),(6,(.slice z5y z2A.length z5z)),(7,(.slice none 0 0)),(8,(.map (some z4a))),(9,(.int .i64 z6t))]) (fun z2A z6t zah z1w z1T zai z5y z5z z74 z5Z=>[fz zai,row (.slice z5y z2A.length z5z) 173 1 z74,stb z2e 95 [(.slice z4v zb.fModules.length z4w),(.slice z4x zb.fChannels.length z4y),(.slice z4z zb.fSwitches.length z4A),(.slice z4B zb.fLinks.length z4C),(.slice z4D zb.fVLs.length z4E),(.slice z4F zb.fHealth.length z4G),(.slice z4H zb.fCauses.length z4I),(.slice z4J zb.fVersions.length z4K),(.slice z3x zS.length z3y),(.map (some z1E)),(.map (some z1G)),(.int .i64 zah)],stb z3M 97 [(.int .i64 zK.fNode),(.int .i64 zK.fLink)],yr z4a (Value.int .i64) slv (y5O z5Z),y4w (y4x 3 1 e3) z5Z,yr z1E (fun x=>Value.agg (y1M x).toArray) (fun x=>Value.agg (yw x).toArray) z1T,yr z1G (fun x=>Value.agg (e97 x).toArray) (Value.int .i64) z1a]) ?_ ?_
 ·skip
  refine WC.b (WC.a (WL.pu rfl ?_))
  refine WL.qA 22 (yV rfl) ?_
  refine WL.qA 23 (ya fo_95_1 rfl rfl) ?_
  refine WL.qA 24 (yc oneT_32 rfl (yk .h4 rfl)) ?_
  refine WL.qA 25 (yE Tryz.underlying32 rfl) ?_
  refine WL.pu rfl (WL.nil (WX.a (WC.block ?_)))
  refine WC.nilRow 173 1 ?_
  refine WC.ydP (fun (zgH : Nat) (z2w : List (List z6)) (z5b : Int) (zV : Int) (z47 : Int) (z28 : List (Int × List Int)) (z2x : List (Sbound_flow × z1)) (z3N : Zp) (z8y : Option Addr) (z8z : Nat) (z75 : List Value) (z6u : List (Int × ((Nat × (Option Addr × Nat)) × List Int)))=>(y31 zS zK zb z1a za3 zgH z2w z5b zV z47 z28 z2x = some r) ∧ (Zle (Z ++ []) (Z ++ z3N)) ∧ (RR 1 (y1v (Z ++ z3N)) z75 z2w) ∧ (dat z6u = z28)) (fun zgH z2w z5b zV z47 z28 z2x z3N z8y z8z z75 z6u=>[(0,(.pointer (some ⟨z2e,0,none⟩))),(3,(.pointer (some ⟨z3M,0,none⟩))),(6,(.slice z8y z2w.length z8z)),(7,(.slice none 0 0)),(8,(.map (some z4a))),(9,(.int .i64 z5b)),(24,(.slice z3x zS.length z3y)),(25,(.int .i64 ((zS.length : Nat) : Int))),(26,(.int .i64 zV))]) (fun zgH z2w z5b zV z47 z28 z2x z3N z8y z8z z75 z6u=>[fz z3N,row (.slice z8y z2w.length z8z) 173 1 z75,stb z2e 95 [(.slice z4v zb.fModules.length z4w),(.slice z4x zb.fChannels.length z4y),(.slice z4z zb.fSwitches.length z4A),(.slice z4B zb.fLinks.length z4C),(.slice z4D zb.fVLs.length z4E),(.slice z4F zb.fHealth.length z4G),(.slice z4H zb.fCauses.length z4I),(.slice z4J zb.fVersions.length z4K),(.slice z3x zS.length z3y),(.map (some z1E)),(.map (some z1G)),(.int .i64 z47)],stb z3M 97 [(.int .i64 zK.fNode),(.int .i64 zK.fLink)],yr z4a (Value.int .i64) slv (y5O z6u),y4w (y4x 3 1 e3) z6u,yr z1E (fun x=>Value.agg (y1M x).toArray) (fun x=>Value.agg (yw x).toArray) z2x,yr z1G (fun x=>Value.agg (e97 x).toArray) (Value.int .i64) z1a]) (fun zgH z2w z5b zV z47 z28 z2x z3N z8y z8z z75 z6u=>zgH) ⟨yB,([] : List (List z6)),0,0,zag,([] : List (Int × List Int)),zaf,[],none,0,[],([] : List (Int × ((Nat × (Option Addr × Nat)) × List Int)))⟩ ⟨h,(Zle.refl _),(RR.nil _ _),rfl⟩ (.cons rfl (.cons rfl (.cons rfl (.cons rfl (.cons rfl (.cons rfl (.cons rfl (.cons rfl (.cons rfl .nil))))))))) (.cons .h4 (.cons .here (.cons .h3 (.cons .h2 (.cons .h1 (.cons .here (.cons .here (.cons .here .nil)))))))) ?_
  rintro zgH z2w z5b zV z47 z28 z2x z3N z8y z8z z75 z6u ⟨h,zF,zmW,zk6⟩
  obtain ⟨zsJ,rfl⟩:=y7S h
  rw [y31] at h
  refine WC.b (WC.a (WL.pu rfl (WL.nil (WX.a (WC.b ?_)))))
  refine WC.cond rfl (fun zsO=>?_) (fun zsO=>?_)
  ·replace h:=yn h zsO
   refine WC.skip (WX.a ?_)
   obtain ⟨zmT,zJZ,h⟩:=yb6 h
   refine WC.y8V (fun (z7X : List (List z6)) (za4 : Int) (za5 : Int) (za6 : List (Int × List Int)) (za7 : List (Sbound_flow × z1)) (zeB : Zp) (zgI : Option Addr) (zgJ : Nat) (zgK : List Value) (zeC : List (Int × ((Nat × (Option Addr × Nat)) × List Int)))=>(zmT z7X za4 za5 za6 za7 = some r) ∧ (Zle (Z ++ z3N) (Z ++ zeB)) ∧ (RR 1 (y1v (Z ++ zeB)) zgK z7X) ∧ (dat zeC = za6)) (fun z7X za4 za5 za6 za7 zeB zgI zgJ zgK zeC=>[(0,(.pointer (some ⟨z2e,0,none⟩))),(3,(.pointer (some ⟨z3M,0,none⟩))),(6,(.slice zgI z7X.length zgJ)),(7,(.slice none 0 0)),(8,(.map (some z4a))),(9,(.int .i64 za4)),(24,(.slice z3x zS.length z3y)),(25,(.int .i64 ((zS.length : Nat) : Int))),(26,(.int .i64 zV))]) (fun z7X za4 za5 za6 za7 zeB zgI zgJ zgK zeC=>[fz zeB,row (.slice zgI z7X.length zgJ) 173 1 zgK,stb z2e 95 [(.slice z4v zb.fModules.length z4w),(.slice z4x zb.fChannels.length z4y),(.slice z4z zb.fSwitches.length z4A),(.slice z4B zb.fLinks.length z4C),(.slice z4D zb.fVLs.length z4E),(.slice z4F zb.fHealth.length z4G),(.slice z4H zb.fCauses.length z4I),(.slice z4J zb.fVersions.length z4K),(.slice z3x zS.length z3y),(.map (some z1E)),(.map (some z1G)),(.int .i64 za5)],stb z3M 97 [(.int .i64 zK.fNode),(.int .i64 zK.fLink)],yr z4a (Value.int .i64) slv (y5O zeC),y4w (y4x 3 1 e3) zeC,yr z1E (fun x=>Value.agg (y1M x).toArray) (fun x=>Value.agg (yw x).toArray) za7,yr z1G (fun x=>Value.agg (e97 x).toArray) (Value.int .i64) z1a]) ?_ ?_
   ·skip
    refine WC.block (WC.b ?_)
    obtain ⟨zK0,h⟩:=yq h
    refine WC.a (WL.pu rfl ?_)
    refine WL.znth (dd:=29) rfl rfl (Z:=(Z ++ z3N)) (Pr:=(p48 (Z ++ z3N))) y6L rfl rfl ((zcK.mono ((Zle.left _ _).trans zF)).weak (fun _ _ h=>y1i ((Zle.left _ _).trans zF) h)) zK0 ?_
    rintro zWD zWE zK1 zWF ⟨zWG,zWH,rfl,zBg⟩
    refine WL.qA 30 (yc y5e rfl (y48 (hz.pv2 .here) zK1 rfl)) ?_
    refine WL.pu rfl (WL.pu rfl (WL.nil (WX.a (WC.b (WC.b ?_)))))
    obtain ⟨zB9,zK2,h⟩:=z7 h
    refine WC.a (WL.pu rfl ?_)
    refine WL.qA 32 (yX (Eos.caps (l:=[.tmp 3]) (.cons rfl .nil))) ?_
    refine WL.cA 33 (za (l:=[.tmp 31,.tmp 32]) Tryz.call37 (.cons rfl (.cons rfl .nil))) .nil (cclz hz .nil .here (.cons .h3 .nil) fun w pz ho la=>y5x _ _ _ (zgz:=67) (zmN:=[(.pointer (some ⟨z3M,0,none⟩))]) _ (zgy:=(fun (y0 : Sapi_Hop)=>y3S y0 zK)) _ zK2 w pz (zBg.mono (Zle.left _ _)) Tryz.call67 (fun w' hz' y0  r  hr=>y9q _ _ _ _ _ hr w' hz' ((la _ (.head _) _).stb))) ?_
    refine WL.pu rfl (WL.nil (WX.a ?_))
    refine WC.cond rfl (fun zsP=>?_) (fun zsP=>?_)
    ·replace h:=yn h zsP
     refine WC.exit (WX.yf (WX.yz ?_))
     exact WX.mid (G:=List (List z6) × Int × Int × (List (Int × List Int)) × (List (Sbound_flow × z1)) × Zp × Option Addr × Nat × List Value × (List (Int × ((Nat × (Option Addr × Nat)) × List Int)))) ⟨z2w,z5b,z47,z28,z2x,z3N,z8y,z8z,z75,z6u⟩ ⟨h,(Zle.refl _),zmW,zk6⟩ (.cons rfl (.cons rfl (.cons rfl (.cons rfl (.cons rfl (.cons rfl (.cons rfl (.cons rfl (.cons rfl .nil))))))))) (.cons .here (.cons .here (.cons .here (.cons .here (.cons .here (.cons .here (.cons .here (.cons .here .nil))))))))
    ·replace h:=yo h zsP
     refine WC.skip (WX.a (WC.b ?_))
     obtain ⟨zK3,h⟩:=yq h
     refine WC.a (WL.pu rfl (WL.pu rfl ?_))
     refine WL.qA 37 (yV rfl) ?_
     refine WL.qA 38 (ya y5M rfl rfl) ?_
     refine WL.qA 39 (ya y73 rfl rfl) ?_
     refine WL.qA 40 (yc y74 rfl (yk .h2 rfl)) ?_
     refine WL.pu rfl ?_
     refine WL.znth (dd:=42) rfl rfl (Z:=(Z ++ z3N)) (Pr:=(p46 (Z ++ z3N))) y8u rfl rfl ((z8x.mono ((Zle.left _ _).trans zF)).weak (fun _ _ h=>y16 ((Zle.left _ _).trans zF) h)) zK3 ?_
     rintro zWI zWJ zK4 zWK ⟨zWL,zWM,rfl,zWN⟩
     refine WL.qA 43 (ya y8o rfl rfl) ?_
     refine WL.qA 44 (yc yt rfl (y11 (hz.pv2 .here) zK4 rfl)) ?_
     refine WL.qA 45 (q_max rfl rfl rfl) ?_
     refine WL.pu rfl (WL.nil (WX.a (WC.b ?_)))
     obtain ⟨zK5,h⟩:=yq h
     obtain ⟨z2y,zK6,h⟩:=z7 h
     refine WC.a (WL.pu rfl ?_)
     refine WL.qA 47 (yV rfl) ?_
     refine WL.qA 48 (ya y5M rfl rfl) ?_
     refine WL.qA 49 (ya y73 rfl rfl) ?_
     refine WL.qA 50 (yc y74 rfl (yk .h2 rfl)) ?_
     refine WL.pu rfl ?_
     refine WL.znth (dd:=52) rfl rfl (Z:=(Z ++ z3N)) (Pr:=(p46 (Z ++ z3N))) y8u rfl rfl ((z8x.mono ((Zle.left _ _).trans zF)).weak (fun _ _ h=>y16 ((Zle.left _ _).trans zF) h)) zK5 ?_
     rintro zWO zWP zK7 zWQ ⟨zWR,zWS,rfl,zWT⟩
     refine WL.qA 53 (ya y8o rfl rfl) ?_
     refine WL.qA 54 (yc yt rfl (y11 (hz.pv2 .here) zK7 rfl)) ?_
     refine WL.cA 55 (za (l:=[.tmp 54]) Tryz.call43 (.cons rfl .nil)) .nil (ccz hz .nil .here fun w pz ho=>y3Y _ _ _ zK6 w pz ) ?_
     refine WL.nA 12 (yv (cs:=[(.int .i64 0),(.int .i64 0)]) zP rfl) ?_
     intro zmX _
     refine WL.ym rfl rfl (yl zu rfl rfl rfl .here rfl rfl rfl) ?_
     refine WL.nil (WX.a ?_)
     obtain ⟨zmU,zK8,h⟩:=yb6 h
     refine WC.y8V (fun (z7Y : List (List z6)) (za8 : Int) (za9 : List (Int × List Int)) (z8u : Int) (z8v : Int) (zeD : Zp) (zgL : Option Addr) (zgM : Nat) (zgN : List Value) (zeE : List (Int × ((Nat × (Option Addr × Nat)) × List Int)))=>(zmU z7Y za8 za9 z8u z8v = some r) ∧ (Zle (Z ++ z3N) (Z ++ zeD)) ∧ (RR 1 (y1v (Z ++ zeD)) zgN z7Y) ∧ (dat zeE = za9)) (fun z7Y za8 za9 z8u z8v zeD zgL zgM zgN zeE=>[(0,(.pointer (some ⟨z2e,0,none⟩))),(3,(.pointer (some ⟨z3M,0,none⟩))),(6,(.slice zgL z7Y.length zgM)),(7,(.slice none 0 0)),(8,(.map (some z4a))),(9,(.int .i64 (max z5b ((nth zb.fVLs zV).fMax)))),(10,(.int .i64 zV)),(12,(.pointer (some ⟨zmX,0,none⟩))),(24,(.slice z3x zS.length z3y)),(25,(.int .i64 ((zS.length : Nat) : Int))),(26,(.int .i64 zV))]) (fun z7Y za8 za9 z8u z8v zeD zgL zgM zgN zeE=>[fz zeD,row (.slice zgL z7Y.length zgM) 173 1 zgN,stb z2e 95 [(.slice z4v zb.fModules.length z4w),(.slice z4x zb.fChannels.length z4y),(.slice z4z zb.fSwitches.length z4A),(.slice z4B zb.fLinks.length z4C),(.slice z4D zb.fVLs.length z4E),(.slice z4F zb.fHealth.length z4G),(.slice z4H zb.fCauses.length z4I),(.slice z4J zb.fVersions.length z4K),(.slice z3x zS.length z3y),(.map (some z1E)),(.map (some z1G)),(.int .i64 za8)],stb z3M 97 [(.int .i64 zK.fNode),(.int .i64 zK.fLink)],yr z4a (Value.int .i64) slv (y5O zeE),y4w (y4x 3 1 e3) zeE,stb zmX 132 [(.int .i64 z8u),(.int .i64 z8v)],yr z1E (fun x=>Value.agg (y1M x).toArray) (fun x=>Value.agg (yw x).toArray) z2x,yr z1G (fun x=>Value.agg (e97 x).toArray) (Value.int .i64) z1a]) ?_ ?_
     ·skip
      refine WC.b ?_
      obtain ⟨z1S,zK9,h⟩:=z7 h
      refine WC.a (WL.pu rfl ?_)
      refine WL.qA 58 (ya y8p rfl rfl) ?_
      refine WL.qA 59 (yc yt rfl (yk .h4 rfl)) ?_
      refine WL.cA 60 (za (l:=[.tmp 57,.tmp 59]) Tryz.call39 (.cons rfl (.cons rfl .nil))) .nil (ccz hz .nil .h1 fun w pz ho=>y8w _ _ _ _ _ _ zK9 w pz zBg) ?_
      refine WL.pu rfl (WL.pu rfl (WL.pu rfl ?_))
      refine WL.nA 13 (yv (cs:=[(.int .i64 0),(.int .i64 0),(.int .i64 0)]) y3E rfl) ?_
      intro zsQ _
      refine WL.ym rfl rfl (yl y3Q rfl rfl rfl .here rfl rfl rfl) ?_
      refine WL.pu rfl (WL.nil (WX.a (WC.b (WC.a (WL.pu rfl (WL.nil (WX.a ?_)))))))
      refine WC.cond rfl (fun zsR=>?_) (fun zsR=>?_)
      ·replace h:=yn h zsR
       refine WC.b ?_
       obtain ⟨zcG,zKa,h⟩:=z7 h
       obtain ⟨zBa,zKb,h⟩:=z7 h
       obtain ⟨zsK,zKc,h⟩:=z7 h
       obtain ⟨zBb,zKd,h⟩:=z7 h
       obtain ⟨zsL,zKe,h⟩:=z7 h
       obtain ⟨z8w,zKf,h⟩:=z7 h
       refine WC.yL (fun i=>[13,22,23,24].contains i) [y6D z2e 95 [(9,(.map (some z1E))),(10,(.map (some z1G)))],ybn z1E (fun x=>Value.agg (y1M x).toArray) (fun x=>Value.agg (yw x).toArray) (⟨zV,zcG⟩ : Sbound_flow) ((⟨0,0⟩ : z1) : z1) (yp z2x (⟨zV,zcG⟩ : Sbound_flow) (⟨0,0⟩ : z1)),stb zsQ 62 [(.int .i64 z1S.1.fNode),(.int .i64 z1S.1.fNext),(.int .i64 z1S.1.fLink)]] rfl ?_
       refine WD.pA 0 64 rfl (fun _=>q_m rfl) ?_
       refine WD.pA 1 65 rfl (fun _=>q_m rfl) ?_
       refine WD.pA 2 66 rfl (fun _=>yV rfl) ?_
       refine WD.pA 3 67 rfl (fun _=>ya ybL rfl rfl) ?_
       refine WD.sA 4 68 rfl (Sin.wk (.cons .h4 (.cons .h7 (.cons .here .nil))) (.stb (.cons rfl (.cons rfl .nil)) (.any rfl (fun _ h=>y69 h) (.same .nil)))) (yc ybM rfl (y4g .here (.head _))) ?_
       refine WD.pA 5 69 rfl (fun _=>q_m rfl) ?_
       refine WD.qA 6 70 rfl (yg y2g rfl (yh .here) rfl) ?_
       refine WD.eA 7 71 rfl (za (l:=[.tmp 70]) Tryz.call40 (.cons rfl .nil)) (ccz hz .nil .h2 fun w pz ho=>y4K _ _ _ zKa w pz ) ?_
       refine WD.pA 8 72 rfl (fun _=>yI (v:=(.agg #[(.int .i64 zV),(.int .i64 zcG.fNode),(.int .i64 zcG.fLink)])) (Eos.parts (l:=[.tmp 69,.tmp 71]) (.cons rfl (.cons rfl .nil)) [0,1]) (fun _=>by kernel_rfl)) ?_
       refine WD.sA 9 73 rfl (Sin.wk (.cons .h4 (.cons .h7 (.cons .here .nil))) (.stb (.cons rfl (.cons rfl .nil)) (.any rfl (fun _ h=>y69 h) (.same .nil)))) (yc7 (k:=(⟨zV,zcG⟩ : Sbound_flow)) (dflt:=((⟨0,0⟩ : z1) : z1)) zp8 Tryz.underlying92 zP rfl rfl rfl .h1) ?_
       refine WD.pA 10 74 rfl (fun _=>q_m rfl) ?_
       refine WD.pA 11 75 rfl (fun _=>q_m rfl) ?_
       refine WD.pA 12 76 rfl (fun _=>q_m rfl) ?_
       refine WD.pA 14 78 rfl (fun _=>q_m rfl) ?_
       refine WD.pA 15 79 rfl (fun _=>yV rfl) ?_
       refine WD.pA 16 80 rfl (fun _=>ya ybN rfl rfl) ?_
       refine WD.sA 17 81 rfl (Sin.wk (.cons .h4 (.cons .h7 (.cons .here .nil))) (.stb (.cons rfl (.cons rfl .nil)) (.any rfl (fun _ h=>y69 h) (.same .nil)))) (yc y9f rfl (y4g .here (.tail _ (.head _)))) ?_
       refine WD.sA 18 82 rfl (Sin.wk (.cons .h4 (.cons .h7 (.cons .here .nil))) (.stb (.cons rfl (.cons rfl .nil)) (.any rfl (fun _ h=>y69 h) (.same .nil)))) (yg y2g rfl (yh .h2) rfl) ?_
       refine WD.call0 (i:=13) (dd:=77) rfl (by kernel_rfl) rfl rfl rfl (.inl ⟨rfl,(by exact (Sin.wk (.cons .h6 (.cons .here (.cons .h1 .nil))) (.stb (.cons rfl (.cons rfl .nil)) (.any rfl (fun _ h=>y69 h) (.same .nil)))))⟩) (za (l:=[.tmp 75,.tmp 76]) Tryz.call71 (.cons rfl (.cons rfl .nil))) (.cons (.there .h7) (.cons (.there .h7) .nil)) (cclz hz (.cons (.there .h7) (.cons (.there .h7) .nil)) .h2 (.cons .h4 .nil) fun w pz ho la=>Calls.mono (y6E _ _ _ _ _ _ _ _ _ _ _ _ _ _ _ _ _ _ _ _ _ _ _ _ _ _ _ _ _ zKb w pz ((((zev.mono ((Zle.left _ _).trans zF)).weak (fun _ _ h=>y1d ((Zle.left _ _).trans zF) h)).mono (Zle.left _ _)).weak (fun _ _ h=>y1d (Zle.left _ _) h)) ((((zew.mono ((Zle.left _ _).trans zF)).weak (fun _ _ h=>y1m ((Zle.left _ _).trans zF) h)).mono (Zle.left _ _)).weak (fun _ _ h=>y1m (Zle.left _ _) h)) ((zex.mono ((Zle.left _ _).trans zF)).mono (Zle.left _ _)) ((zcJ.mono ((Zle.left _ _).trans zF)).mono (Zle.left _ _)) ((((z8x.mono ((Zle.left _ _).trans zF)).weak (fun _ _ h=>y16 ((Zle.left _ _).trans zF) h)).mono (Zle.left _ _)).weak (fun _ _ h=>y16 (Zle.left _ _) h)) ((zey.mono ((Zle.left _ _).trans zF)).mono (Zle.left _ _)) ((((zez.mono ((Zle.left _ _).trans zF)).weak (fun _ _ h=>y1n ((Zle.left _ _).trans zF) h)).mono (Zle.left _ _)).weak (fun _ _ h=>y1n (Zle.left _ _) h)) ((zeA.mono ((Zle.left _ _).trans zF)).mono (Zle.left _ _)) ((((zcK.mono ((Zle.left _ _).trans zF)).weak (fun _ _ h=>y1i ((Zle.left _ _).trans zF) h)).mono (Zle.left _ _)).weak (fun _ _ h=>y1i (Zle.left _ _) h)) ((la _ (.head _) _).stb) ho) (fun _ _ h'=>⟨h'.1,trivial,h'.2⟩)) ?_
       intro _
       refine WD.eA 19 83 rfl (za (l:=[.tmp 82]) Tryz.call40 (.cons rfl .nil)) (ccz hz .nil .h4 fun w pz ho=>y4K _ _ _ zKc w pz ) ?_
       refine WD.qA 20 84 rfl (y1J (k:=zsK) (dflt:=(0 : Int)) y76 Tryz.underlying93 y2D rfl rfl rfl .h1) ?_
       refine WD.eA 21 85 rfl (za (l:=[.tmp 84]) Tryz.call43 (.cons rfl .nil)) (ccz hz .nil .h4 fun w pz ho=>y3Y _ _ _ zKd w pz ) ?_
       refine WD.call0 (i:=22) (dd:=86) rfl (by kernel_rfl) rfl rfl rfl (.inl ⟨rfl,(by exact (Sin.wk (.cons .here (.cons .here (.cons .h1 .nil))) (.stb (.cons rfl (.cons rfl .nil)) (.any rfl (fun _ h=>y69 h) (.same .nil)))))⟩) (za (l:=[.tmp 74,.func 70,.tmp 77,.tmp 85]) Tryz.call68 (.cons rfl (.cons rfl (.cons rfl (.cons rfl .nil))))) (.cons .h6 (.cons .here (.cons .here .nil))) (ccz hz (.cons .h6 (.cons .here (.cons .here .nil))) .h2 fun w pz ho=>Calls.mono (y5W _ _ _ _ _ _ _ _ _ _ _ _ _ _ _ _ _ _ _ _ _ _ (za2:=70) (zeo:=[]) _ _ _ _ _ (zcj:=(fun (y0 : z1) (y1 : z1)=>y5p y0 y1)) _ _ _ zKe w pz ((zev.mono ((Zle.left _ _).trans zF)).weak (fun _ _ h=>y1d ((Zle.left _ _).trans zF) h)) ((zew.mono ((Zle.left _ _).trans zF)).weak (fun _ _ h=>y1m ((Zle.left _ _).trans zF) h)) (zex.mono ((Zle.left _ _).trans zF)) (zcJ.mono ((Zle.left _ _).trans zF)) ((z8x.mono ((Zle.left _ _).trans zF)).weak (fun _ _ h=>y16 ((Zle.left _ _).trans zF) h)) (zey.mono ((Zle.left _ _).trans zF)) ((zez.mono ((Zle.left _ _).trans zF)).weak (fun _ _ h=>y1n ((Zle.left _ _).trans zF) h)) (zeA.mono ((Zle.left _ _).trans zF)) ((zcK.mono ((Zle.left _ _).trans zF)).weak (fun _ _ h=>y1i ((Zle.left _ _).trans zF) h)) Tryz.call70 (fun w' hz' y0 y1  r  hr=>yau _ _ _ _ hr w' hz' ) ho) (fun _ _ h'=>⟨h'.1,trivial,h'.2⟩)) ?_
       intro _
       refine WD.call0 (i:=23) (dd:=87) rfl (by kernel_rfl) rfl rfl rfl (.inl ⟨rfl,(by exact (Sin.wk (.cons .here (.cons .here (.cons .h1 .nil))) (.stb (.cons rfl (.cons rfl .nil)) (.any rfl (fun _ h=>y69 h) (.same .nil)))))⟩) (za (l:=[.tmp 64,.func 69,.tmp 73,.tmp 86]) Tryz.call68 (.cons rfl (.cons rfl (.cons rfl (.cons rfl .nil))))) (.cons .here (.cons .here (.cons .here .nil))) (ccz hz (.cons .here (.cons .here (.cons .here .nil))) .h2 fun w pz ho=>Calls.mono (y5W _ _ _ _ _ _ _ _ _ _ _ _ _ _ _ _ _ _ _ _ _ _ (za2:=69) (zeo:=[]) _ _ _ _ _ (zcj:=(fun (y0 : z1) (y1 : z1)=>y28 y0 y1)) _ _ _ zKf w pz ((zev.mono ((Zle.left _ _).trans zF)).weak (fun _ _ h=>y1d ((Zle.left _ _).trans zF) h)) ((zew.mono ((Zle.left _ _).trans zF)).weak (fun _ _ h=>y1m ((Zle.left _ _).trans zF) h)) (zex.mono ((Zle.left _ _).trans zF)) (zcJ.mono ((Zle.left _ _).trans zF)) ((z8x.mono ((Zle.left _ _).trans zF)).weak (fun _ _ h=>y16 ((Zle.left _ _).trans zF) h)) (zey.mono ((Zle.left _ _).trans zF)) ((zez.mono ((Zle.left _ _).trans zF)).weak (fun _ _ h=>y1n ((Zle.left _ _).trans zF) h)) (zeA.mono ((Zle.left _ _).trans zF)) ((zcK.mono ((Zle.left _ _).trans zF)).weak (fun _ _ h=>y1i ((Zle.left _ _).trans zF) h)) Tryz.call69 (fun w' hz' y0 y1  r  hr=>y5q _ _ _ _ hr w' hz' ) ho) (fun _ _ h'=>⟨h'.1,trivial,h'.2⟩)) ?_
       intro _
       refine WD.y2F (i:=24) rfl (by kernel_rfl) rfl rfl rfl (by kernel_rfl) (yl zu rfl rfl rfl .h4 rfl rfl rfl) ?_
       refine WD.done (by kernel_rfl) ?_
       refine WX.a ?_
       obtain ⟨zKg,h⟩:=yq h
       refine WC.yL (fun i=>[9,10].contains i) [y6D zsQ 62 [(2,(.int .i64 z1S.1.fLink))]] rfl ?_
       refine WD.pA 0 88 rfl (fun _=>q_m rfl) ?_
       refine WD.pA 1 89 rfl (fun _=>ya y6n rfl rfl) ?_
       refine WD.sA 2 90 rfl (Sin.wk (.cons .h4 .nil) (.stb (.cons rfl .nil) .nil)) (yc yt rfl (y4g .here (.head _))) ?_
       refine WD.pA 3 91 rfl (fun _=>q_m rfl) ?_
       refine WD.pA 4 92 rfl (fun _=>ya y6n rfl rfl) ?_
       refine WD.qA 5 93 rfl (yc yt rfl (yk .h4 rfl)) ?_
       refine WD.qA 6 94 rfl (y1J (k:=z1S.1.fLink) (dflt:=(((none,0),[]) : (Option Addr × Nat) × List Int)) y4G Tryz.underlying165 zp9 rfl rfl rfl (.there .h7)) ?_
       refine WD.gh (fun _ h=>Hp.yas z1S.1.fLink zk6 (.there (.there .h7)) h) ?_
       rintro ⟨zKh,zKi⟩ zKj
       refine WD.repin (i:=94) rfl (u:=(.slice zKh ((yp z28 z1S.1.fLink []).length) zKi)) (congrArg slv zKj) ?_
       refine WD.pA 7 95 rfl (fun _=>q_m rfl) ?_
       refine WD.new (i:=8) (dd:=96) rfl (by kernel_rfl) rfl rfl rfl (yS (cs:=([zV] : List Int).flatMap e3) zjd (Eos.parts (l:=[.tmp 95]) (.cons rfl .nil) [0]) (fun _=>by kernel_rfl) rfl (by unfold maxLen; omega)) (fun h'=>absurd h' (by decide)) ?_
       intro zKk _
       refine WD.old (i:=9) (dd:=97) rfl (by kernel_rfl) rfl rfl rfl rfl (fun _=>(Sin.wk (.cons .h7 .nil) (.stb (.cons rfl .nil) .nil))) (y4f (enc:=e3) (l1:=yp z28 z1S.1.fLink []) (l2:=([zV] : List Int)) zjd rfl rfl .h1 (fun _=>rfl) rfl rfl (y3C .here) (y4C e3_oc _) zKg) ?_
       rintro ⟨zmY,zmZ⟩ _
       refine WD.y2F (i:=10) rfl (by kernel_rfl) rfl rfl rfl (by kernel_rfl) (y3m (k:=z1S.1.fLink) (v:=(((zmY,zmZ),(yp z28 z1S.1.fLink []) ++ ([zV] : List Int)) : (Option Addr × Nat) × List Int)) y4G Tryz.underlying165 rfl rfl rfl rfl (.there (.there (.there (.there .h7))))) ?_
       refine WD.ghL (fun _ h=>Hp.ydw (k:=z1S.1.fLink) (.cons .h1 (.cons .h2 .nil)) h) ?_
       refine WD.ghL (M:=[yr z4a (Value.int .i64) slv (y5O (yG z6u z1S.1.fLink ((0,(zmY,zmZ)),(yp z28 z1S.1.fLink []) ++ ([zV] : List Int)))),y4w (y4x 3 1 e3) (yG z6u z1S.1.fLink ((0,(zmY,zmZ)),(yp z28 z1S.1.fLink []) ++ ([zV] : List Int))),row (.slice (some ⟨zKk,0,none⟩) (([zV] : List Int).length) 1) 3 1 (([zV] : List Int).flatMap e3),stb zmX 132 [(.int .i64 z8w.1.fN),(.int .i64 z8w.1.fD)],stb z2e 95 [(.slice z4v zb.fModules.length z4w),(.slice z4x zb.fChannels.length z4y),(.slice z4z zb.fSwitches.length z4A),(.slice z4B zb.fLinks.length z4C),(.slice z4D zb.fVLs.length z4E),(.slice z4F zb.fHealth.length z4G),(.slice z4H zb.fCauses.length z4I),(.slice z4J zb.fVersions.length z4K),(.slice z3x zS.length z3y),(.map (some z1E)),(.map (some z1G)),(.int .i64 z8w.2)],yr z1E (fun x=>Value.agg (y1M x).toArray) (fun x=>Value.agg (yw x).toArray) z2x,yr z1G (fun x=>Value.agg (e97 x).toArray) (Value.int .i64) z1a,stb zsQ 62 [(.int .i64 z1S.1.fNode),(.int .i64 z1S.1.fNext),(.int .i64 z1S.1.fLink)],fz z3N,row (.slice z8y z2w.length z8z) 173 1 z75,stb z3M 97 [(.int .i64 zK.fNode),(.int .i64 zK.fLink)]]) (fun _ h=>Hp.reMap .h1 (yc8 _ _ _ _).symm h) ?_
       refine WD.done (by kernel_rfl) ?_
       exact WX.mid (G:=List (List z6) × Int × (List (Int × List Int)) × Int × Int × Zp × Option Addr × Nat × List Value × (List (Int × ((Nat × (Option Addr × Nat)) × List Int)))) ⟨z2w,z8w.2,(yG z28 z1S.1.fLink ((yp z28 z1S.1.fLink []) ++ ([zV] : List Int))),z8w.1.fN,z8w.1.fD,z3N,z8y,z8z,z75,(yG z6u z1S.1.fLink ((0,(zmY,zmZ)),(yp z28 z1S.1.fLink []) ++ ([zV] : List Int)))⟩ ⟨h,(Zle.refl _),zmW,(dat_mput zk6 _ _ _)⟩ (.cons rfl (.cons rfl (.cons rfl (.cons rfl (.cons rfl (.cons rfl (.cons rfl (.cons rfl (.cons rfl (.cons rfl (.cons rfl .nil))))))))))) (.cons (.there .h7) (.cons (.there .h7) (.cons .h4 (.cons .h7 (.cons .here (.cons .here (.cons .h1 (.cons .h1 (.cons .h1 .nil)))))))))
      ·replace h:=yo h zsR
       obtain ⟨z48,zKl,h⟩:=z7 h
       obtain ⟨zKm,h⟩:=yq h
       refine WC.yL (fun i=>[4,8].contains i) [stb zmX 132 [(.int .i64 z2y.fN),(.int .i64 z2y.fD)]] rfl ?_
       refine WD.pA 0 98 rfl (fun _=>q_m rfl) ?_
       refine WD.sA 1 99 rfl (Sin.of (.cons .h1 .nil)) (yg zd rfl (yh .here) rfl) ?_
       refine WD.pA 2 100 rfl (fun _=>q_m rfl) ?_
       refine WD.pA 3 101 rfl (fun _=>q_m rfl) ?_
       refine WD.call0 (i:=4) (dd:=102) rfl (by kernel_rfl) rfl rfl rfl (.inl ⟨rfl,(Sin.of (.cons .h3 .nil))⟩) (za (l:=[.tmp 100,.tmp 101]) Tryz.call71 (.cons rfl (.cons rfl .nil))) (.cons (.there .h7) (.cons (.there .h7) .nil)) (cclz hz (.cons (.there .h7) (.cons (.there .h7) .nil)) .h2 (.cons .h4 .nil) fun w pz ho la=>Calls.mono (y6E _ _ _ _ _ _ _ _ _ _ _ _ _ _ _ _ _ _ _ _ _ _ _ _ _ _ _ _ _ zKl w pz ((((zev.mono ((Zle.left _ _).trans zF)).weak (fun _ _ h=>y1d ((Zle.left _ _).trans zF) h)).mono (Zle.left _ _)).weak (fun _ _ h=>y1d (Zle.left _ _) h)) ((((zew.mono ((Zle.left _ _).trans zF)).weak (fun _ _ h=>y1m ((Zle.left _ _).trans zF) h)).mono (Zle.left _ _)).weak (fun _ _ h=>y1m (Zle.left _ _) h)) ((zex.mono ((Zle.left _ _).trans zF)).mono (Zle.left _ _)) ((zcJ.mono ((Zle.left _ _).trans zF)).mono (Zle.left _ _)) ((((z8x.mono ((Zle.left _ _).trans zF)).weak (fun _ _ h=>y16 ((Zle.left _ _).trans zF) h)).mono (Zle.left _ _)).weak (fun _ _ h=>y16 (Zle.left _ _) h)) ((zey.mono ((Zle.left _ _).trans zF)).mono (Zle.left _ _)) ((((zez.mono ((Zle.left _ _).trans zF)).weak (fun _ _ h=>y1n ((Zle.left _ _).trans zF) h)).mono (Zle.left _ _)).weak (fun _ _ h=>y1n (Zle.left _ _) h)) ((zeA.mono ((Zle.left _ _).trans zF)).mono (Zle.left _ _)) ((((zcK.mono ((Zle.left _ _).trans zF)).weak (fun _ _ h=>y1i ((Zle.left _ _).trans zF) h)).mono (Zle.left _ _)).weak (fun _ _ h=>y1i (Zle.left _ _) h)) ((la _ (.head _) _).stb) ho) (fun _ _ h'=>⟨h'.1,trivial,h'.2⟩)) ?_
       intro _
       refine WD.pA 5 103 rfl (fun _=>yI (v:=(.agg #[(.int .i64 z2y.fN),(.int .i64 z2y.fD),(.int .i64 z48.fN),(.int .i64 z48.fD)])) (Eos.parts (l:=[.tmp 99,.tmp 102]) (.cons rfl (.cons rfl .nil)) [0,1]) (fun _=>by kernel_rfl)) ?_
       refine WD.new (i:=6) (dd:=104) rfl (by kernel_rfl) rfl rfl rfl (yS (cs:=([(⟨z2y,z48⟩ : z6)] : List z6).flatMap y1j) z6l (Eos.parts (l:=[.tmp 103]) (.cons rfl .nil) [0]) (fun _=>by kernel_rfl) rfl (by unfold maxLen; omega)) (fun h'=>absurd h' (by decide)) ?_
       intro zgO _
       refine WD.freezeS (ls:=([(⟨z2y,z48⟩ : z6)] : List z6)) .here .h4 hz (RR.flat (enc:=y1j) (fun _=>rfl) _) ?_
       intro zn0 zBh zKn
       have zBi : RR 1 (y1v (Z ++ zn0)) [(.slice (some ⟨zgO,0,none⟩) (([(⟨z2y,z48⟩ : z6)] : List z6).length) 1)] ([([(⟨z2y,z48⟩ : z6)] : List z6)] : List (List z6)):=(RR.cons (r:=[(.slice (some ⟨zgO,0,none⟩) (([(⟨z2y,z48⟩ : z6)] : List z6).length) 1)]) rfl (show y1v _ _ _ from ⟨_,_,rfl,zKn⟩) (RR.nil _ _))
       refine WD.new (i:=7) (dd:=105) rfl (by kernel_rfl) rfl rfl rfl (yS (cs:=[(.slice (some ⟨zgO,0,none⟩) (([(⟨z2y,z48⟩ : z6)] : List z6).length) 1)]) z7H (Eos.parts (l:=[.tmp 104]) (.cons rfl .nil) [0]) (fun _=>by kernel_rfl) rfl (by unfold maxLen; omega)) (fun h'=>absurd h' (by decide)) ?_
       intro zWU _
       have zKo : RR 1 (y1v (Z ++ zn0)) (z75 ++ [(.slice (some ⟨zgO,0,none⟩) (([(⟨z2y,z48⟩ : z6)] : List z6).length) 1)]) (z2w ++ ([([(⟨z2y,z48⟩ : z6)] : List z6)] : List (List z6))):=RR.app (zmW.weak (fun _ _ h=>yT zBh h)) zBi
       refine WD.old (i:=8) (dd:=106) rfl (by kernel_rfl) rfl rfl rfl rfl (fun _=>(Sin.of (.cons .h6 .nil))) (yae (l1:=z2w) (l2:=([([(⟨z2y,z48⟩ : z6)] : List z6)] : List (List z6))) (news:=[(.slice (some ⟨zgO,0,none⟩) (([(⟨z2y,z48⟩ : z6)] : List z6).length) 1)]) (Pr:=(y1v (Z ++ zn0))) z7H rfl rfl .h6 zBi (y3C .here) (yd4 rfl oc_nil) zKm) ?_
       rintro ⟨zKp,zKq⟩ _
       refine WD.pA 9 6 rfl (fun _=>q_z rfl) ?_
       refine WD.done (by kernel_rfl) ?_
       exact WX.mid (G:=List (List z6) × Int × (List (Int × List Int)) × Int × Int × Zp × Option Addr × Nat × List Value × (List (Int × ((Nat × (Option Addr × Nat)) × List Int)))) ⟨(z2w ++ ([([(⟨z2y,z48⟩ : z6)] : List z6)] : List (List z6))),z47,z28,z2y.fN,z2y.fD,zn0,zKp,zKq,(z75 ++ [(.slice (some ⟨zgO,0,none⟩) (([(⟨z2y,z48⟩ : z6)] : List z6).length) 1)]),z6u⟩ ⟨h,zBh,zKo,zk6⟩ (.cons rfl (.cons rfl (.cons rfl (.cons rfl (.cons rfl (.cons rfl (.cons rfl (.cons rfl (.cons rfl (.cons rfl (.cons rfl .nil))))))))))) (.cons .h2 (.cons .here (.cons .h5 (.cons .h5 (.cons .h5 (.cons .h5 (.cons .h4 (.cons .h1 (.cons .h1 .nil)))))))))
     ·rintro z7Y za8 za9 z8u z8v zeD zgL zgM zgN zeE ⟨h,zKr,zKs,zKt⟩
      replace h:=(zK8 z7Y za8 za9 z8u z8v).symm.trans h
      refine WC.yL (fun i=>[8].contains i) [] rfl ?_
      refine WD.pA 0 107 rfl (fun _=>q_m rfl) ?_
      refine WD.pA 1 108 rfl (fun _=>yV rfl) ?_
      refine WD.pA 2 109 rfl (fun _=>ya ybL rfl rfl) ?_
      refine WD.qA 3 110 rfl (yc ybM rfl (yk .h2 rfl)) ?_
      refine WD.pA 4 111 rfl (fun _=>q_m rfl) ?_
      refine WD.qA 5 112 rfl (yg y3f rfl (yh .h3) rfl) ?_
      refine WD.pA 6 113 rfl (fun _=>yI (v:=(.agg #[(.int .i64 zV),(.int .i64 zK.fNode),(.int .i64 zK.fLink)])) (Eos.parts (l:=[.tmp 111,.tmp 112]) (.cons rfl (.cons rfl .nil)) [0,1]) (fun _=>by kernel_rfl)) ?_
      refine WD.qA 7 114 rfl (yg zd rfl (yh .h6) rfl) ?_
      refine WD.y2F (i:=8) rfl (by kernel_rfl) rfl rfl rfl (by kernel_rfl) (y3m (k:=(⟨zV,zK⟩ : Sbound_flow)) (v:=(⟨z8u,z8v⟩ : z1)) zp8 Tryz.underlying92 rfl rfl rfl rfl .h7) ?_
      refine WD.done (by kernel_rfl) ?_
      refine WX.yj ?_
      exact WX.mid (G:=List (List z6) × Int × Int × (List (Int × List Int)) × (List (Sbound_flow × z1)) × Zp × Option Addr × Nat × List Value × (List (Int × ((Nat × (Option Addr × Nat)) × List Int)))) ⟨z7Y,(max z5b ((nth zb.fVLs zV).fMax)),za8,za9,(yG z2x (⟨zV,zK⟩ : Sbound_flow) (⟨z8u,z8v⟩ : z1)),zeD,zgL,zgM,zgN,zeE⟩ ⟨h,zKr,zKs,zKt⟩ (.cons rfl (.cons rfl (.cons rfl (.cons rfl (.cons rfl (.cons rfl (.cons rfl (.cons rfl (.cons rfl .nil))))))))) (.cons .h1 (.cons .h1 (.cons .h1 (.cons .h1 (.cons .h1 (.cons .h1 (.cons .here (.cons .h1 .nil))))))))
   ·rintro z7X za4 za5 za6 za7 zeB zgI zgJ zgK zeC ⟨h,zKu,zKv,zKw⟩
    replace h:=(zJZ z7X za4 za5 za6 za7).symm.trans h
    refine WC.a (WL.pu rfl (WL.pu rfl (WL.nil ?_)))
    exact WX.round (G:=Nat × List (List z6) × Int × Int × Int × (List (Int × List Int)) × (List (Sbound_flow × z1)) × Zp × Option Addr × Nat × List Value × (List (Int × ((Nat × (Option Addr × Nat)) × List Int)))) ⟨zsJ,z7X,za4,(i64 (zV + 1)),za5,za6,za7,zeB,zgI,zgJ,zgK,zeC⟩ ⟨h,(zF.trans zKu),zKv,zKw⟩ (Nat.lt_succ_self _) (.cons rfl (.cons rfl (.cons rfl (.cons rfl (.cons rfl (.cons rfl (.cons rfl (.cons rfl (.cons rfl .nil))))))))) (.cons .here (.cons .here (.cons .here (.cons .here (.cons .here (.cons .here (.cons .here (.cons .here .nil))))))))
  ·replace h:=yo h zsO
   refine WC.exit (WX.yf (WX.yf (WX.yz ?_)))
   exact WX.mid (G:=List (List z6) × Int × Int × (List (Int × List Int)) × (List (Sbound_flow × z1)) × Zp × Option Addr × Nat × List Value × (List (Int × ((Nat × (Option Addr × Nat)) × List Int)))) ⟨z2w,z5b,z47,z28,z2x,z3N,z8y,z8z,z75,z6u⟩ ⟨h,zF,zmW,zk6⟩ (.cons rfl (.cons rfl (.cons rfl (.cons rfl (.cons rfl (.cons rfl .nil)))))) (.cons .here (.cons .here (.cons .here (.cons .here (.cons .here (.cons .here (.cons .here (.cons .here .nil))))))))
 ·rintro z2A z6t zah z1w z1T zai z5y z5z z74 z5Z ⟨h,z14,zKx,zn1⟩
  replace h:=(zJY z2A z6t zah z1w z1T).symm.trans h
  obtain ⟨zac,zKy,h⟩:=y3D h
  refine WC.y9v (fun (z5Y : List (List z6)) (zcI : Int) (zaj : Zp) (zk7 : Option Addr) (zk8 : Nat) (zcL : List Value)=>(zac z5Y zcI = some r) ∧ (Zle (Z ++ zai) (Z ++ zaj)) ∧ (RR 1 (y1v (Z ++ zaj)) zcL z5Y)) (fun z5Y zcI zaj zk7 zk8 zcL=>[(6,(.slice z5y z2A.length z5z)),(7,(.slice zk7 z5Y.length zk8)),(9,(.int .i64 z6t))]) (fun z5Y zcI zaj zk7 zk8 zcL=>[fz zaj,row (.slice z5y z2A.length z5z) 173 1 z74,row (.slice zk7 z5Y.length zk8) 173 1 zcL,stb z2e 95 [(.slice z4v zb.fModules.length z4w),(.slice z4x zb.fChannels.length z4y),(.slice z4z zb.fSwitches.length z4A),(.slice z4B zb.fLinks.length z4C),(.slice z4D zb.fVLs.length z4E),(.slice z4F zb.fHealth.length z4G),(.slice z4H zb.fCauses.length z4I),(.slice z4J zb.fVersions.length z4K),(.slice z3x zS.length z3y),(.map (some z1E)),(.map (some z1G)),(.int .i64 zcI)],yr z1E (fun x=>Value.agg (y1M x).toArray) (fun x=>Value.agg (yw x).toArray) z1T,yr z1G (fun x=>Value.agg (e97 x).toArray) (Value.int .i64) z1a]) ?_ ?_
  ·skip
   refine WC.b (WC.a (WL.pu rfl ?_))
   refine WL.qA 117 (yV rfl) ?_
   refine WL.qA 118 (ya y5M rfl rfl) ?_
   refine WL.qA 119 (ya y8m rfl rfl) ?_
   refine WL.qA 120 (yc y8n rfl (yk .h2 rfl)) ?_
   refine WL.qA 121 (yE Tryz.underlying25 rfl) ?_
   refine WL.pu rfl (WL.nil (WX.a (WC.block ?_)))
   refine WC.nilRow 173 1 ?_
   refine WC.yb4 (fun (zgP : Nat) (z2m : List (List z6)) (zC : Int) (z5x : Int) (z5A : Zp) (z78 : Option Addr) (z79 : Nat) (z7a : List Value)=>(y33 zb z1w zS z1T z1a zK zac zgP z2m zC z5x = some r) ∧ (Zle (Z ++ zai) (Z ++ z5A)) ∧ (RR 1 (y1v (Z ++ z5A)) z7a z2m)) (fun zgP z2m zC z5x z5A z78 z79 z7a=>[(0,(.pointer (some ⟨z2e,0,none⟩))),(3,(.pointer (some ⟨z3M,0,none⟩))),(6,(.slice z5y z2A.length z5z)),(7,(.slice z78 z2m.length z79)),(8,(.map (some z4a))),(9,(.int .i64 z6t)),(121,(.int .i64 ((zb.fLinks.length : Nat) : Int))),(122,(.int .i64 zC))]) (fun zgP z2m zC z5x z5A z78 z79 z7a=>[fz z5A,row (.slice z5y z2A.length z5z) 173 1 z74,row (.slice z78 z2m.length z79) 173 1 z7a,stb z2e 95 [(.slice z4v zb.fModules.length z4w),(.slice z4x zb.fChannels.length z4y),(.slice z4z zb.fSwitches.length z4A),(.slice z4B zb.fLinks.length z4C),(.slice z4D zb.fVLs.length z4E),(.slice z4F zb.fHealth.length z4G),(.slice z4H zb.fCauses.length z4I),(.slice z4J zb.fVersions.length z4K),(.slice z3x zS.length z3y),(.map (some z1E)),(.map (some z1G)),(.int .i64 z5x)],stb z3M 97 [(.int .i64 zK.fNode),(.int .i64 zK.fLink)],yr z4a (Value.int .i64) slv (y5O z5Z),y4w (y4x 3 1 e3) z5Z,yr z1E (fun x=>Value.agg (y1M x).toArray) (fun x=>Value.agg (yw x).toArray) z1T,yr z1G (fun x=>Value.agg (e97 x).toArray) (Value.int .i64) z1a]) (fun zgP z2m zC z5x z5A z78 z79 z7a=>zgP) ⟨yB,([] : List (List z6)),0,zah,zai,none,0,[]⟩ ⟨h,(Zle.refl _),(RR.nil _ _)⟩ (.cons rfl (.cons rfl (.cons rfl (.cons rfl (.cons rfl (.cons rfl (.cons rfl (.cons rfl .nil)))))))) (.cons .h1 (.cons .h1 (.cons .here (.cons .here (.cons .here (.cons .here (.cons .here (.cons .here (.cons .here .nil))))))))) ?_
   rintro zgP z2m zC z5x z5A z78 z79 z7a ⟨h,z10,zsS⟩
   obtain ⟨zsN,rfl⟩:=y7U h
   rw [y33] at h
   refine WC.b (WC.a (WL.pu rfl (WL.nil (WX.a (WC.b ?_)))))
   refine WC.cond rfl (fun zsT=>?_) (fun zsT=>?_)
   ·replace h:=yn h zsT
    refine WC.skip (WX.a ?_)
    obtain ⟨zmV,zKz,h⟩:=y3D h
    refine WC.y9v (fun (z80 : List (List z6)) (zad : Int) (zeF : Zp) (zgQ : Option Addr) (zgR : Nat) (zgS : List Value)=>(zmV z80 zad = some r) ∧ (Zle (Z ++ z5A) (Z ++ zeF)) ∧ (RR 1 (y1v (Z ++ zeF)) zgS z80)) (fun z80 zad zeF zgQ zgR zgS=>[(0,(.pointer (some ⟨z2e,0,none⟩))),(3,(.pointer (some ⟨z3M,0,none⟩))),(6,(.slice z5y z2A.length z5z)),(7,(.slice zgQ z80.length zgR)),(8,(.map (some z4a))),(9,(.int .i64 z6t)),(121,(.int .i64 ((zb.fLinks.length : Nat) : Int))),(122,(.int .i64 zC))]) (fun z80 zad zeF zgQ zgR zgS=>[fz zeF,row (.slice z5y z2A.length z5z) 173 1 z74,row (.slice zgQ z80.length zgR) 173 1 zgS,stb z2e 95 [(.slice z4v zb.fModules.length z4w),(.slice z4x zb.fChannels.length z4y),(.slice z4z zb.fSwitches.length z4A),(.slice z4B zb.fLinks.length z4C),(.slice z4D zb.fVLs.length z4E),(.slice z4F zb.fHealth.length z4G),(.slice z4H zb.fCauses.length z4I),(.slice z4J zb.fVersions.length z4K),(.slice z3x zS.length z3y),(.map (some z1E)),(.map (some z1G)),(.int .i64 zad)],stb z3M 97 [(.int .i64 zK.fNode),(.int .i64 zK.fLink)],yr z4a (Value.int .i64) slv (y5O z5Z),y4w (y4x 3 1 e3) z5Z,yr z1E (fun x=>Value.agg (y1M x).toArray) (fun x=>Value.agg (yw x).toArray) z1T,yr z1G (fun x=>Value.agg (e97 x).toArray) (Value.int .i64) z1a]) ?_ ?_
    ·skip
     refine WC.block (WC.b (WC.a (WL.pu rfl (WL.pu rfl (WL.nil (WX.a (WC.b (WC.b (WC.a (WL.pu rfl (WL.pu rfl ?_)))))))))))
     refine WL.qA 127 (y1J (k:=zC) (dflt:=(((none,0),[]) : (Option Addr × Nat) × List Int)) y4G Tryz.underlying165 zp9 rfl rfl rfl .h5) ?_
     refine WL.gh (fun _ h=>Hp.yas zC zn1 .h6 h) ?_
     rintro ⟨zKA,zKB⟩ zBj
     refine WL.repin (i:=127) rfl (u:=(.slice zKA ((yp z1w zC []).length) zKB)) (congrArg slv zBj) ?_
     refine WL.qA 128 (yE Tryz.underlying109 rfl) ?_
     refine WL.pu rfl ?_
     refine WL.ghL (fun _ h=>Hp.yc9 zn1 zBj (.cons .here (.cons .here .nil)) h) ?_
     refine WL.nil (WX.a ?_)
     refine WC.cond rfl (fun zsU=>?_) (fun zsU=>?_)
     ·replace h:=yn h zsU
      refine WC.exit (WX.yf (WX.yz ?_))
      exact WX.mid (G:=List (List z6) × Int × Zp × Option Addr × Nat × List Value) ⟨z2m,z5x,z5A,z78,z79,z7a⟩ ⟨h,(Zle.refl _),zsS⟩ (.cons rfl (.cons rfl (.cons rfl (.cons rfl (.cons rfl (.cons rfl (.cons rfl (.cons rfl .nil)))))))) (.cons .h1 (.cons .h1 (.cons .h1 (.cons .h1 (.cons .h1 (.cons .h1 (.cons .here (.cons .here (.cons .here .nil)))))))))
     ·replace h:=yo h zsU
      refine WC.skip (WX.a (WC.b ?_))
      obtain ⟨zet,zKC,h⟩:=z7 h
      obtain ⟨zeu,zKD,h⟩:=z7 h
      refine WC.a ?_
      refine WL.cA 130 (za (l:=[.const (.int .i64 0)]) Tryz.call43 (.cons rfl .nil)) .nil (ccz hz .nil .h1 fun w pz ho=>y3Y _ _ _ zKC w pz ) ?_
      refine WL.cA 131 (za (l:=[.const (.int .i64 0)]) Tryz.call43 (.cons rfl .nil)) .nil (ccz hz .nil .h1 fun w pz ho=>y3Y _ _ _ zKD w pz ) ?_
      refine WL.qA 132 (yI (v:=(.agg #[(.int .i64 zet.fN),(.int .i64 zet.fD),(.int .i64 zeu.fN),(.int .i64 zeu.fD)])) (Eos.parts (l:=[.tmp 130,.tmp 131]) (.cons rfl (.cons rfl .nil)) [0,1]) (fun _=>by kernel_rfl)) ?_
      refine WL.nA 16 (yv (cs:=[(.int .i64 0),(.int .i64 0),(.int .i64 0),(.int .i64 0)]) z9w rfl) ?_
      intro zk9 _
      refine WL.ym rfl rfl (yl z8m rfl rfl rfl .here rfl rfl rfl) ?_
      refine WL.nil (WX.a (WC.b (WC.a (WL.pu rfl (WL.nil (WX.a ?_))))))
      obtain ⟨zaa,zKE,h⟩:=jp6_elim h
      refine WC.y9v (fun (zcH : Int) (zae : Int) (z2T : Int) (z2U : Int) (z2V : Int) (z2W : Int)=>(zaa zcH zae z2T z2U z2V z2W = some r)) (fun zcH zae z2T z2U z2V z2W=>[(0,(.pointer (some ⟨z2e,0,none⟩))),(3,(.pointer (some ⟨z3M,0,none⟩))),(6,(.slice z5y z2A.length z5z)),(7,(.slice z78 z2m.length z79)),(8,(.map (some z4a))),(9,(.int .i64 z6t)),(15,(.int .i64 zC)),(16,(.pointer (some ⟨zk9,0,none⟩))),(17,(.int .i64 zcH)),(121,(.int .i64 ((zb.fLinks.length : Nat) : Int))),(122,(.int .i64 zC))]) (fun zcH zae z2T z2U z2V z2W=>[fz z5A,row (.slice z5y z2A.length z5z) 173 1 z74,row (.slice z78 z2m.length z79) 173 1 z7a,stb z2e 95 [(.slice z4v zb.fModules.length z4w),(.slice z4x zb.fChannels.length z4y),(.slice z4z zb.fSwitches.length z4A),(.slice z4B zb.fLinks.length z4C),(.slice z4D zb.fVLs.length z4E),(.slice z4F zb.fHealth.length z4G),(.slice z4H zb.fCauses.length z4I),(.slice z4J zb.fVersions.length z4K),(.slice z3x zS.length z3y),(.map (some z1E)),(.map (some z1G)),(.int .i64 zae)],stb z3M 97 [(.int .i64 zK.fNode),(.int .i64 zK.fLink)],yr z4a (Value.int .i64) slv (y5O z5Z),y4w (y4x 3 1 e3) z5Z,stb zk9 171 [(.int .i64 z2T),(.int .i64 z2U),(.int .i64 z2V),(.int .i64 z2W)],yr z1E (fun x=>Value.agg (y1M x).toArray) (fun x=>Value.agg (yw x).toArray) z1T,yr z1G (fun x=>Value.agg (e97 x).toArray) (Value.int .i64) z1a]) ?_ ?_
      ·skip
       refine WC.b (WC.a (WL.pu rfl (WL.pu rfl ?_)))
       refine WL.qA 135 (y1J (k:=zC) (dflt:=(((none,0),[]) : (Option Addr × Nat) × List Int)) y4G Tryz.underlying165 zp9 rfl rfl rfl .h7) ?_
       refine WL.gh (fun _ h=>Hp.yas zC zn1 .h1 h) ?_
       rintro ⟨zsV,zsW⟩ zBk
       refine WL.repin (i:=135) rfl (u:=(.slice zsV ((yp z1w zC []).length) zsW)) (congrArg slv zBk) ?_
       refine WL.qA 136 (yE Tryz.underlying109 rfl) ?_
       refine WL.pu rfl (WL.nil (WX.a (WC.block ?_)))
       refine WC.yb4 (fun (zgT : Nat) (z6q : Int) (z2z : Int) (z73 : Int) (z6r : Int) (z6s : Int) (z5v : Int) (z5w : Int)=>(y32 z1w zC zb zS z1T z1a zK zaa zgT z6q z2z z73 z6r z6s z5v z5w = some r)) (fun zgT z6q z2z z73 z6r z6s z5v z5w=>[(0,(.pointer (some ⟨z2e,0,none⟩))),(3,(.pointer (some ⟨z3M,0,none⟩))),(6,(.slice z5y z2A.length z5z)),(7,(.slice z78 z2m.length z79)),(8,(.map (some z4a))),(9,(.int .i64 z6t)),(15,(.int .i64 zC)),(16,(.pointer (some ⟨zk9,0,none⟩))),(17,(.int .i64 z6q)),(121,(.int .i64 ((zb.fLinks.length : Nat) : Int))),(122,(.int .i64 zC)),(135,(.slice zsV ((yp z1w zC []).length) zsW)),(136,(.int .i64 (((yp z1w zC []).length : Nat) : Int))),(137,(.int .i64 z2z))]) (fun zgT z6q z2z z73 z6r z6s z5v z5w=>[fz z5A,row (.slice z5y z2A.length z5z) 173 1 z74,row (.slice z78 z2m.length z79) 173 1 z7a,row (.slice zsV ((yp z1w zC []).length) zsW) 3 1 ((yp z1w zC []).flatMap e3),stb z2e 95 [(.slice z4v zb.fModules.length z4w),(.slice z4x zb.fChannels.length z4y),(.slice z4z zb.fSwitches.length z4A),(.slice z4B zb.fLinks.length z4C),(.slice z4D zb.fVLs.length z4E),(.slice z4F zb.fHealth.length z4G),(.slice z4H zb.fCauses.length z4I),(.slice z4J zb.fVersions.length z4K),(.slice z3x zS.length z3y),(.map (some z1E)),(.map (some z1G)),(.int .i64 z73)],stb z3M 97 [(.int .i64 zK.fNode),(.int .i64 zK.fLink)],yr z4a (Value.int .i64) slv (y5O z5Z),y4w (y4x 3 1 e3) (y7h zC z5Z),stb zk9 171 [(.int .i64 z6r),(.int .i64 z6s),(.int .i64 z5v),(.int .i64 z5w)],yr z1E (fun x=>Value.agg (y1M x).toArray) (fun x=>Value.agg (yw x).toArray) z1T,yr z1G (fun x=>Value.agg (e97 x).toArray) (Value.int .i64) z1a]) (fun zgT z6q z2z z73 z6r z6s z5v z5w=>zgT) ⟨yB,0,0,z5x,zet.fN,zet.fD,zeu.fN,zeu.fD⟩ h (.cons rfl (.cons rfl (.cons rfl (.cons rfl (.cons rfl (.cons rfl (.cons rfl (.cons rfl (.cons rfl (.cons rfl (.cons rfl (.cons rfl (.cons rfl (.cons rfl .nil)))))))))))))) (.cons .h3 (.cons .h3 (.cons .h3 (.cons .here (.cons .h2 (.cons .h2 (.cons .h2 (.cons .here (.cons .here (.cons .here (.cons .here .nil))))))))))) ?_
       rintro zgT z6q z2z z73 z6r z6s z5v z5w h
       obtain ⟨zsM,rfl⟩:=y7T h
       rw [y32] at h
       refine WC.b (WC.a (WL.pu rfl (WL.nil (WX.a (WC.b ?_)))))
       refine WC.cond rfl (fun zsX=>?_) (fun zsX=>?_)
       ·replace h:=yn h zsX
        refine WC.skip (WX.a (WC.b (WC.block (WC.b ?_))))
        obtain ⟨zka,h⟩:=yq h
        refine WC.a ?_
        refine WL.know (fun w hw=>Hp.y2H .h3 hw (by intro hz'; have:=zka; rw [hz'] at this; omega)) ?_
        rintro ⟨zWV,rfl⟩
        refine WL.qA 139 (yY zjd rfl rfl zka.1 zka.2 y3z) ?_
        refine WL.qA 140 (yc yt rfl (ycp .h3 ((y2Q (enc:=e3) (l:=yp z1w zC []) (i:=z2z) (sz:=1) (fun _=>rfl) zka.1 zka.2) 0 _ rfl))) ?_
        refine WL.pu rfl (WL.nil (WX.a (WC.b ?_)))
        obtain ⟨z7Z,zKF,h⟩:=z7 h
        obtain ⟨zBc,zKG,h⟩:=z7 h
        obtain ⟨zab,zKH,h⟩:=z7 h
        refine WC.yL (fun i=>[11,17,18,20,22].contains i) [y6D zk9 171 [(2,(.int .i64 z5v)),(3,(.int .i64 z5w))]] rfl ?_
        refine WD.pA 0 141 rfl (fun _=>q_m rfl) ?_
        refine WD.pA 1 142 rfl (fun _=>ya y3V rfl rfl) ?_
        refine WD.qA 2 143 rfl (yQ (cs:=[(.int .i64 z6r),(.int .i64 z6s)]) zd rfl rfl (y2G (s:=2) (.there .h7) rfl)) ?_
        refine WD.pA 3 144 rfl (fun _=>q_m rfl) ?_
        refine WD.pA 4 145 rfl (fun _=>yV rfl) ?_
        refine WD.pA 5 146 rfl (fun _=>ya ybL rfl rfl) ?_
        refine WD.qA 6 147 rfl (yc ybM rfl (yk .h4 rfl)) ?_
        refine WD.pA 7 148 rfl (fun _=>q_m rfl) ?_
        refine WD.qA 8 149 rfl (yg y3f rfl (yh .h5) rfl) ?_
        refine WD.pA 9 150 rfl (fun _=>yI (v:=(.agg #[(.int .i64 (nth (yp z1w zC []) z2z)),(.int .i64 zK.fNode),(.int .i64 zK.fLink)])) (Eos.parts (l:=[.tmp 148,.tmp 149]) (.cons rfl (.cons rfl .nil)) [0,1]) (fun _=>by kernel_rfl)) ?_
        refine WD.qA 10 151 rfl (y1J (k:=(⟨(nth (yp z1w zC []) z2z),zK⟩ : Sbound_flow)) (dflt:=((⟨0,0⟩ : z1) : z1)) zp8 Tryz.underlying92 zP rfl rfl rfl (.there (.there .h7))) ?_
        refine WD.pA 12 153 rfl (fun _=>q_m rfl) ?_
        refine WD.pA 13 154 rfl (fun _=>ya y51 rfl rfl) ?_
        refine WD.sA 14 155 rfl (Sin.wk (.cons (.there .h7) .nil) (.stb (.cons rfl (.cons rfl .nil)) .nil)) (yQ (cs:=[(.int .i64 z5v),(.int .i64 z5w)]) zd rfl rfl (y9A .here ((.head _)) ((.tail _ (.head _))))) ?_
        refine WD.pA 15 156 rfl (fun _=>q_m rfl) ?_
        refine WD.pA 16 157 rfl (fun _=>q_m rfl) ?_
        refine WD.call0 (i:=11) (dd:=152) rfl (by kernel_rfl) rfl rfl rfl (.inl ⟨rfl,(Sin.wk (.cons (.there (.there (.there .h7))) .nil) (.stb (.cons rfl (.cons rfl .nil)) .nil))⟩) (za (l:=[.tmp 141,.func 69,.tmp 143,.tmp 151]) Tryz.call68 (.cons rfl (.cons rfl (.cons rfl (.cons rfl .nil))))) (.cons .h4 (.cons (.there .h7) (.cons (.there .h7) .nil))) (ccz hz (.cons .h4 (.cons (.there .h7) (.cons (.there .h7) .nil))) .here fun w pz ho=>Calls.mono (y5W _ _ _ _ _ _ _ _ _ _ _ _ _ _ _ _ _ _ _ _ _ _ (za2:=69) (zeo:=[]) _ _ _ _ _ (zcj:=(fun (y0 : z1) (y1 : z1)=>y28 y0 y1)) _ _ _ zKF w pz ((zev.mono ((Zle.left _ _).trans (z14.trans z10))).weak (fun _ _ h=>y1d ((Zle.left _ _).trans (z14.trans z10)) h)) ((zew.mono ((Zle.left _ _).trans (z14.trans z10))).weak (fun _ _ h=>y1m ((Zle.left _ _).trans (z14.trans z10)) h)) (zex.mono ((Zle.left _ _).trans (z14.trans z10))) (zcJ.mono ((Zle.left _ _).trans (z14.trans z10))) ((z8x.mono ((Zle.left _ _).trans (z14.trans z10))).weak (fun _ _ h=>y16 ((Zle.left _ _).trans (z14.trans z10)) h)) (zey.mono ((Zle.left _ _).trans (z14.trans z10))) ((zez.mono ((Zle.left _ _).trans (z14.trans z10))).weak (fun _ _ h=>y1n ((Zle.left _ _).trans (z14.trans z10)) h)) (zeA.mono ((Zle.left _ _).trans (z14.trans z10))) ((zcK.mono ((Zle.left _ _).trans (z14.trans z10))).weak (fun _ _ h=>y1i ((Zle.left _ _).trans (z14.trans z10)) h)) Tryz.call69 (fun w' hz' y0 y1  r  hr=>y5q _ _ _ _ hr w' hz' ) ho) (fun _ _ h'=>⟨h'.1,trivial,h'.2⟩)) ?_
        intro _
        refine WD.pA 19 160 rfl (fun _=>ya y3V rfl rfl) ?_
        refine WD.call0 (i:=17) (dd:=158) rfl (by kernel_rfl) rfl rfl rfl (.inl ⟨rfl,(Sin.wk (.cons (.there (.there (.there .h7))) .nil) (.stb (.cons rfl (.cons rfl .nil)) .nil))⟩) (za (l:=[.tmp 156,.tmp 157]) Tryz.call71 (.cons rfl (.cons rfl .nil))) (.cons .h1 (.cons .h1 .nil)) (cclz hz (.cons .h1 (.cons .h1 .nil)) .h1 (.cons .here .nil) fun w pz ho la=>Calls.mono (y6E _ _ _ _ _ _ _ _ _ _ _ _ _ _ _ _ _ _ _ _ _ _ _ _ _ _ _ _ _ zKG w pz ((((zev.mono ((Zle.left _ _).trans (z14.trans z10))).weak (fun _ _ h=>y1d ((Zle.left _ _).trans (z14.trans z10)) h)).mono (Zle.left _ _)).weak (fun _ _ h=>y1d (Zle.left _ _) h)) ((((zew.mono ((Zle.left _ _).trans (z14.trans z10))).weak (fun _ _ h=>y1m ((Zle.left _ _).trans (z14.trans z10)) h)).mono (Zle.left _ _)).weak (fun _ _ h=>y1m (Zle.left _ _) h)) ((zex.mono ((Zle.left _ _).trans (z14.trans z10))).mono (Zle.left _ _)) ((zcJ.mono ((Zle.left _ _).trans (z14.trans z10))).mono (Zle.left _ _)) ((((z8x.mono ((Zle.left _ _).trans (z14.trans z10))).weak (fun _ _ h=>y16 ((Zle.left _ _).trans (z14.trans z10)) h)).mono (Zle.left _ _)).weak (fun _ _ h=>y16 (Zle.left _ _) h)) ((zey.mono ((Zle.left _ _).trans (z14.trans z10))).mono (Zle.left _ _)) ((((zez.mono ((Zle.left _ _).trans (z14.trans z10))).weak (fun _ _ h=>y1n ((Zle.left _ _).trans (z14.trans z10)) h)).mono (Zle.left _ _)).weak (fun _ _ h=>y1n (Zle.left _ _) h)) ((zeA.mono ((Zle.left _ _).trans (z14.trans z10))).mono (Zle.left _ _)) ((((zcK.mono ((Zle.left _ _).trans (z14.trans z10))).weak (fun _ _ h=>y1i ((Zle.left _ _).trans (z14.trans z10)) h)).mono (Zle.left _ _)).weak (fun _ _ h=>y1i (Zle.left _ _) h)) ((la _ (.head _) _).stb) ho) (fun _ _ h'=>⟨h'.1,trivial,h'.2⟩)) ?_
        intro _
        refine WD.call0 (i:=18) (dd:=159) rfl (by kernel_rfl) rfl rfl rfl (.inl ⟨rfl,(Sin.wk (.cons (.there (.there (.there .h7))) .nil) (.stb (.cons rfl (.cons rfl .nil)) .nil))⟩) (za (l:=[.tmp 153,.func 69,.tmp 155,.tmp 158]) Tryz.call68 (.cons rfl (.cons rfl (.cons rfl (.cons rfl .nil))))) (.cons .h2 (.cons .here (.cons .here .nil))) (ccz hz (.cons .h2 (.cons .here (.cons .here .nil))) .here fun w pz ho=>Calls.mono (y5W _ _ _ _ _ _ _ _ _ _ _ _ _ _ _ _ _ _ _ _ _ _ (za2:=69) (zeo:=[]) _ _ _ _ _ (zcj:=(fun (y0 : z1) (y1 : z1)=>y28 y0 y1)) _ _ _ zKH w pz ((zev.mono ((Zle.left _ _).trans (z14.trans z10))).weak (fun _ _ h=>y1d ((Zle.left _ _).trans (z14.trans z10)) h)) ((zew.mono ((Zle.left _ _).trans (z14.trans z10))).weak (fun _ _ h=>y1m ((Zle.left _ _).trans (z14.trans z10)) h)) (zex.mono ((Zle.left _ _).trans (z14.trans z10))) (zcJ.mono ((Zle.left _ _).trans (z14.trans z10))) ((z8x.mono ((Zle.left _ _).trans (z14.trans z10))).weak (fun _ _ h=>y16 ((Zle.left _ _).trans (z14.trans z10)) h)) (zey.mono ((Zle.left _ _).trans (z14.trans z10))) ((zez.mono ((Zle.left _ _).trans (z14.trans z10))).weak (fun _ _ h=>y1n ((Zle.left _ _).trans (z14.trans z10)) h)) (zeA.mono ((Zle.left _ _).trans (z14.trans z10))) ((zcK.mono ((Zle.left _ _).trans (z14.trans z10))).weak (fun _ _ h=>y1i ((Zle.left _ _).trans (z14.trans z10)) h)) Tryz.call69 (fun w' hz' y0 y1  r  hr=>y5q _ _ _ _ hr w' hz' ) ho) (fun _ _ h'=>⟨h'.1,trivial,h'.2⟩)) ?_
        intro _
        refine WD.ydx (i:=20) rfl (by kernel_rfl) rfl rfl rfl (Sin.wk (.cons .here .nil) (.stb (.cons rfl (.cons rfl .nil)) .nil)) (y5u (ds:=[(.int .i64 z7Z.1.fN),(.int .i64 z7Z.1.fD),(.int .i64 z5v),(.int .i64 z5w)]) zu rfl rfl rfl rfl rfl (.there (.there (.there .h7))) rfl rfl) ?_
        refine WD.pA 21 161 rfl (fun _=>ya y51 rfl rfl) ?_
        refine WD.y2F (i:=22) rfl (by kernel_rfl) rfl rfl rfl (by kernel_rfl) (y5u (ds:=[(.int .i64 z7Z.1.fN),(.int .i64 z7Z.1.fD),(.int .i64 zab.1.fN),(.int .i64 zab.1.fD)]) zu rfl rfl rfl rfl rfl .here rfl rfl) ?_
        refine WD.done (by kernel_rfl) ?_
        refine WX.a ?_
        obtain ⟨zKI,h⟩:=yq h
        refine WC.a (WL.pu rfl (WL.pu rfl ?_))
        refine WL.qA 164 (yV rfl) ?_
        refine WL.qA 165 (ya y5M rfl rfl) ?_
        refine WL.qA 166 (ya y73 rfl rfl) ?_
        refine WL.qA 167 (yc y74 rfl (yk .h1 rfl)) ?_
        refine WL.pu rfl ?_
        refine WL.znth (dd:=169) rfl rfl (Z:=(Z ++ z5A)) (Pr:=(p46 (Z ++ z5A))) y8u rfl rfl ((z8x.mono ((Zle.left _ _).trans (z14.trans z10))).weak (fun _ _ h=>y16 ((Zle.left _ _).trans (z14.trans z10)) h)) zKI ?_
        rintro zWW zWX zKJ zWY ⟨zWZ,zX0,rfl,zX1⟩
        refine WL.qA 170 (ya y8o rfl rfl) ?_
        refine WL.qA 171 (yc yt rfl (y11 (hz.pv2 .h4) zKJ rfl)) ?_
        refine WL.qA 172 (q_max rfl rfl rfl) ?_
        refine WL.pu rfl (WL.nil (WX.yj (WX.a (WC.a (WL.pu rfl (WL.pu rfl (WL.nil ?_)))))))
        exact WX.round (G:=Nat × Int × Int × Int × Int × Int × Int × Int) ⟨zsM,(max z6q ((nth zb.fVLs (nth (yp z1w zC []) z2z)).fMax)),(i64 (z2z + 1)),zab.2,z7Z.1.fN,z7Z.1.fD,zab.1.fN,zab.1.fD⟩ h (Nat.lt_succ_self _) (.cons rfl (.cons rfl (.cons rfl (.cons rfl (.cons rfl (.cons rfl (.cons rfl (.cons rfl (.cons rfl (.cons rfl (.cons rfl (.cons rfl (.cons rfl (.cons rfl .nil)))))))))))))) (.cons .h4 (.cons .h4 (.cons .h4 (.cons .h4 (.cons .h1 (.cons .h3 (.cons .h3 (.cons .h3 (.cons .here (.cons .here (.cons .here .nil)))))))))))
       ·replace h:=yo h zsX
        refine WC.exit (WX.yf (WX.yf (WX.yz ?_)))
        refine WX.ghL (fun _ h=>Hp.yc9 zn1 zBk (.cons .h3 (.cons .h6 .nil)) h) ?_
        exact WX.mid (G:=Int × Int × Int × Int × Int × Int) ⟨z6q,z73,z6r,z6s,z5v,z5w⟩ h (.cons rfl (.cons rfl (.cons rfl (.cons rfl (.cons rfl (.cons rfl (.cons rfl (.cons rfl (.cons rfl (.cons rfl (.cons rfl .nil))))))))))) (.cons .h1 (.cons .h1 (.cons .h1 (.cons .h1 (.cons .h1 (.cons .h1 (.cons .here (.cons .here (.cons .here (.cons .here .nil))))))))))
      ·rintro zcH zae z2T z2U z2V z2W h
       replace h:=(zKE zcH zae z2T z2U z2V z2W).symm.trans h
       obtain ⟨z49,zKK,h⟩:=z7 h
       obtain ⟨zKL,h⟩:=yq h
       obtain ⟨zKM,h⟩:=yq h
       refine WC.yL (fun i=>[17].contains i) [] rfl ?_
       refine WD.pA 0 174 rfl (fun _=>q_m rfl) ?_
       refine WD.qA 1 175 rfl (yg z2u rfl (yh .h7) rfl) ?_
       refine WD.pA 2 176 rfl (fun _=>q_m rfl) ?_
       refine WD.eA 3 177 rfl (za (l:=[.tmp 176]) Tryz.call43 (.cons rfl .nil)) (ccz hz .nil .here fun w pz ho=>y3Y _ _ _ zKK w pz ) ?_
       refine WD.pA 4 178 rfl (fun _=>q_m rfl) ?_
       refine WD.pA 5 179 rfl (fun _=>yV rfl) ?_
       refine WD.pA 6 180 rfl (fun _=>ya y5M rfl rfl) ?_
       refine WD.pA 7 181 rfl (fun _=>ya y8m rfl rfl) ?_
       refine WD.qA 8 182 rfl (yc y8n rfl (yk .h3 rfl)) ?_
       refine WD.pA 9 183 rfl (fun _=>q_m rfl) ?_
       refine WD.znth (j:=10) (dd:=184) (by kernel_rfl) rfl z2E z2F rfl rfl (Z:=(Z ++ z5A)) (Pr:=(fun r x=>r = e64 x)) ybo rfl rfl (zcJ.mono ((Zle.left _ _).trans (z14.trans z10))) zKL ?_
       rintro zX2 zX3 zKN zX4 rfl
       refine WD.pA 11 185 rfl (fun _=>ya yaL rfl rfl) ?_
       refine WD.qA 12 186 rfl (yc yt rfl (y11 (hz.pv2 .here) zKN rfl)) ?_
       refine WD.pA 13 187 rfl (fun _=>yI (v:=(.agg #[(.int .i64 1),(.int .i64 ((nth zb.fLinks zC).fSlow))])) (Eos.parts (l:=[.const (.int .i64 1),.tmp 186]) (.cons rfl (.cons rfl .nil)) [0,1]) (fun _=>by kernel_rfl)) ?_
       refine WD.pA 14 188 rfl (fun _=>yI (v:=(.agg #[(.int .i64 z49.fN),(.int .i64 z49.fD),(.int .i64 1),(.int .i64 ((nth zb.fLinks zC).fSlow))])) (Eos.parts (l:=[.tmp 177,.tmp 187]) (.cons rfl (.cons rfl .nil)) [0,1]) (fun _=>by kernel_rfl)) ?_
       refine WD.new (i:=15) (dd:=189) rfl (by kernel_rfl) rfl rfl rfl (yS (cs:=([(⟨(⟨z2T,z2U⟩ : z1),(⟨z2V,z2W⟩ : z1)⟩ : z6),(⟨z49,(⟨1,((nth zb.fLinks zC).fSlow)⟩ : z1)⟩ : z6)] : List z6).flatMap y1j) z6l (Eos.parts (l:=[.tmp 175,.tmp 188]) (.cons rfl (.cons rfl .nil)) [0,1]) (fun _=>by kernel_rfl) rfl (by unfold maxLen; omega)) (fun h'=>absurd h' (by decide)) ?_
       intro zgU _
       refine WD.freezeS (ls:=([(⟨(⟨z2T,z2U⟩ : z1),(⟨z2V,z2W⟩ : z1)⟩ : z6),(⟨z49,(⟨1,((nth zb.fLinks zC).fSlow)⟩ : z1)⟩ : z6)] : List z6)) .here .here hz (RR.flat (enc:=y1j) (fun _=>rfl) _) ?_
       intro zn2 zBl zKO
       have zBm : RR 1 (y1v (Z ++ zn2)) [(.slice (some ⟨zgU,0,none⟩) (([(⟨(⟨z2T,z2U⟩ : z1),(⟨z2V,z2W⟩ : z1)⟩ : z6),(⟨z49,(⟨1,((nth zb.fLinks zC).fSlow)⟩ : z1)⟩ : z6)] : List z6).length) 2)] ([([(⟨(⟨z2T,z2U⟩ : z1),(⟨z2V,z2W⟩ : z1)⟩ : z6),(⟨z49,(⟨1,((nth zb.fLinks zC).fSlow)⟩ : z1)⟩ : z6)] : List z6)] : List (List z6)):=(RR.cons (r:=[(.slice (some ⟨zgU,0,none⟩) (([(⟨(⟨z2T,z2U⟩ : z1),(⟨z2V,z2W⟩ : z1)⟩ : z6),(⟨z49,(⟨1,((nth zb.fLinks zC).fSlow)⟩ : z1)⟩ : z6)] : List z6).length) 2)]) rfl (show y1v _ _ _ from ⟨_,_,rfl,zKO⟩) (RR.nil _ _))
       refine WD.new (i:=16) (dd:=190) rfl (by kernel_rfl) rfl rfl rfl (yS (cs:=[(.slice (some ⟨zgU,0,none⟩) (([(⟨(⟨z2T,z2U⟩ : z1),(⟨z2V,z2W⟩ : z1)⟩ : z6),(⟨z49,(⟨1,((nth zb.fLinks zC).fSlow)⟩ : z1)⟩ : z6)] : List z6).length) 2)]) z7H (Eos.parts (l:=[.tmp 189]) (.cons rfl .nil) [0]) (fun _=>by kernel_rfl) rfl (by unfold maxLen; omega)) (fun h'=>absurd h' (by decide)) ?_
       intro zX5 _
       have zKP : RR 1 (y1v (Z ++ zn2)) (z7a ++ [(.slice (some ⟨zgU,0,none⟩) (([(⟨(⟨z2T,z2U⟩ : z1),(⟨z2V,z2W⟩ : z1)⟩ : z6),(⟨z49,(⟨1,((nth zb.fLinks zC).fSlow)⟩ : z1)⟩ : z6)] : List z6).length) 2)]) (z2m ++ ([([(⟨(⟨z2T,z2U⟩ : z1),(⟨z2V,z2W⟩ : z1)⟩ : z6),(⟨z49,(⟨1,((nth zb.fLinks zC).fSlow)⟩ : z1)⟩ : z6)] : List z6)] : List (List z6))):=RR.app (zsS.weak (fun _ _ h=>yT zBl h)) zBm
       refine WD.old (i:=17) (dd:=191) rfl (by kernel_rfl) rfl rfl rfl rfl (fun _=>(Sin.of .nil)) (yae (l1:=z2m) (l2:=([([(⟨(⟨z2T,z2U⟩ : z1),(⟨z2V,z2W⟩ : z1)⟩ : z6),(⟨z49,(⟨1,((nth zb.fLinks zC).fSlow)⟩ : z1)⟩ : z6)] : List z6)] : List (List z6))) (news:=[(.slice (some ⟨zgU,0,none⟩) (([(⟨(⟨z2T,z2U⟩ : z1),(⟨z2V,z2W⟩ : z1)⟩ : z6),(⟨z49,(⟨1,((nth zb.fLinks zC).fSlow)⟩ : z1)⟩ : z6)] : List z6).length) 2)]) (Pr:=(y1v (Z ++ zn2))) z7H rfl rfl .h3 zBm (y3C .here) (yd4 rfl oc_nil) zKM) ?_
       rintro ⟨zKQ,zKR⟩ _
       refine WD.pA 18 7 rfl (fun _=>q_z rfl) ?_
       refine WD.done (by kernel_rfl) ?_
       refine WX.yj ?_
       exact WX.mid (G:=List (List z6) × Int × Zp × Option Addr × Nat × List Value) ⟨(z2m ++ ([([(⟨(⟨z2T,z2U⟩ : z1),(⟨z2V,z2W⟩ : z1)⟩ : z6),(⟨z49,(⟨1,((nth zb.fLinks zC).fSlow)⟩ : z1)⟩ : z6)] : List z6)] : List (List z6))),zae,zn2,zKQ,zKR,(z7a ++ [(.slice (some ⟨zgU,0,none⟩) (([(⟨(⟨z2T,z2U⟩ : z1),(⟨z2V,z2W⟩ : z1)⟩ : z6),(⟨z49,(⟨1,((nth zb.fLinks zC).fSlow)⟩ : z1)⟩ : z6)] : List z6).length) 2)])⟩ ⟨h,zBl,zKP⟩ (.cons rfl (.cons rfl (.cons rfl (.cons rfl (.cons rfl (.cons rfl (.cons rfl (.cons rfl .nil)))))))) (.cons .h2 (.cons .h2 (.cons .here (.cons .h1 (.cons .h1 (.cons .h1 (.cons .h1 (.cons .h2 (.cons .h2 .nil)))))))))
    ·rintro z80 zad zeF zgQ zgR zgS ⟨h,zKS,zKT⟩
     replace h:=(zKz z80 zad).symm.trans h
     refine WC.a (WL.pu rfl (WL.pu rfl (WL.nil ?_)))
     exact WX.round (G:=Nat × List (List z6) × Int × Int × Zp × Option Addr × Nat × List Value) ⟨zsN,z80,(i64 (zC + 1)),zad,zeF,zgQ,zgR,zgS⟩ ⟨h,(z10.trans zKS),zKT⟩ (Nat.lt_succ_self _) (.cons rfl (.cons rfl (.cons rfl (.cons rfl (.cons rfl (.cons rfl (.cons rfl (.cons rfl .nil)))))))) (.cons .here (.cons .here (.cons .here (.cons .here (.cons .here (.cons .here (.cons .here (.cons .here (.cons .here .nil)))))))))
   ·replace h:=yo h zsT
    refine WC.exit (WX.yf (WX.yf (WX.yz ?_)))
    exact WX.mid (G:=List (List z6) × Int × Zp × Option Addr × Nat × List Value) ⟨z2m,z5x,z5A,z78,z79,z7a⟩ ⟨h,z10,zsS⟩ (.cons rfl (.cons rfl (.cons rfl .nil))) (.cons .here (.cons .here (.cons .here (.cons .here (.cons .h3 (.cons .h3 .nil))))))
  ·rintro z5Y zcI zaj zk7 zk8 zcL ⟨h,zKU,zsY⟩
   replace h:=(zKy z5Y zcI).symm.trans h
   refine WC.b ?_
   obtain ⟨zKV,h⟩:=yq h
   refine WC.a (WL.pu rfl (WL.pu rfl ?_))
   have zKW : RR 1 (y1v (Z ++ zaj)) (z74 ++ zcL) (z2A ++ z5Y):=RR.app (zKx.weak (fun _ _ h=>yT zKU h)) zsY
   refine WL.fA 195 (yae (l1:=z2A) (l2:=z5Y) (news:=zcL) (Pr:=(y1v (Z ++ zaj))) z7H rfl rfl .h1 zsY (y3C .h2) (RR.oc zsY (fun _ _ h=>p173_oc h)) zKV) ?_
   rintro ⟨zKX,zKY⟩ _
   refine WL.pu rfl (WL.pu rfl (WL.pu rfl (WL.nil (WX.a (WC.ret ?_)))))
   obtain rfl:=Option.some.inj h
   refine WX.ye Tryz.results42 (.tmp rfl (.tmp rfl .nil)) (fun w hw=>?_)
   exact ⟨zaj,zKX,zKY,(z74 ++ zcL),y1z rfl rfl,zKW,hw.sub (.cons .h1 (.cons .here (.cons .h1 (.cons .h1 (.cons .h1 .nil)))))⟩
def y6c (zak : z1) : Option Bool :=
 (y1y zak).bind fun zsZ=>some (zsZ && (decide (zak.fN ≥ 0)))
set_option maxRecDepth 20000 in
theorem y8z (Z : Zp)  (zak : z1) (r : Bool)
  (h : y6c zak = some r) (w₀ : World) (hz : PZ [] w₀ Z) :
  Calls Tryz.prog 147 #[(.agg #[(.int .i64 zak.fN),(.int .i64 zak.fD)])] w₀ fun e w'=>e = .returned (.bool r) ∧ Hp [] w₀ w' []:=by
 unfold y6c at h
 refine Calls.on1 Tryz.func147 Tryz.ntmps147 ?_
 refine WC.b (WC.a ?_)
 refine WL.nA 1 (yH (cs:=[(.int .i64 zak.fN),(.int .i64 zak.fD)]) rfl rfl) ?_
 intro zX6 _
 refine WL.pu rfl (WL.nil (WX.a (WC.b ?_)))
 obtain ⟨zsZ,zKZ,h⟩:=z7 h
 refine WC.a ?_
 refine WL.qA 3 (yg zd rfl (yh .here) rfl) ?_
 refine WL.cA 4 (za (l:=[.tmp 3]) Tryz.call80 (.cons rfl .nil)) .nil (cc hz .nil fun w pz ho=>y1T _ _ _ zKZ w pz ) ?_
 refine WL.pu rfl ?_
 refine WL.seg true 3 5 (B:=zsZ && (decide (zak.fN ≥ 0))) rfl rfl rfl rfl rfl rfl (fun h=>(y2b h).symm) (fun _ zL0=>?_) ?_
 ·skip
  refine WL.qA 6 (ya y1K rfl rfl) ?_
  refine WL.qA 7 (yc yt rfl (yk .here rfl)) ?_
  refine WL.pu rfl (WL.pu rfl ?_)
  exact WL.yC (y2c zL0) rfl rfl .all
 refine WL.pu rfl (WL.nil (WX.a (WC.ret ?_)))
 obtain rfl:=Option.some.inj h
 refine WX.ye Tryz.results147 (.tmp rfl .nil) (fun w hw=>?_)
 exact ⟨yD rfl,hw.sub .nil⟩
def y5X (z5c : z6) : Option Bool :=
 (y6c z5c.fBurst).bind fun zBn=>(if !zBn then some true else (y6c z5c.fRate).bind fun zBo=>some (!zBo)).bind fun zt0=>some zt0
set_option maxRecDepth 20000 in
theorem ybx (Z : Zp)  (z5c : z6) (r : Bool)
  (h : y5X z5c = some r) (w₀ : World) (hz : PZ [] w₀ Z) :
  Calls Tryz.prog 166 #[(.agg #[(.int .i64 z5c.fBurst.fN),(.int .i64 z5c.fBurst.fD),(.int .i64 z5c.fRate.fN),(.int .i64 z5c.fRate.fD)])] w₀ fun e w'=>e = .returned (.bool r) ∧ Hp [] w₀ w' []:=by
 unfold y5X at h
 refine Calls.on1 Tryz.func166 Tryz.ntmps166 ?_
 refine WC.b (WC.a ?_)
 refine WL.nA 1 (yH (cs:=[(.int .i64 z5c.fBurst.fN),(.int .i64 z5c.fBurst.fD),(.int .i64 z5c.fRate.fN),(.int .i64 z5c.fRate.fD)]) rfl rfl) ?_
 intro zX7 _
 refine WL.pu rfl (WL.nil (WX.a (WC.b ?_)))
 obtain ⟨zBn,zL1,h⟩:=z7 h
 obtain ⟨zt0,zBp,h⟩:=z7 h
 refine WC.a ?_
 refine WL.qA 3 (ya y3V rfl rfl) ?_
 refine WL.qA 4 (yQ (cs:=[(.int .i64 z5c.fBurst.fN),(.int .i64 z5c.fBurst.fD)]) zd rfl rfl (y2G (s:=2) .here rfl)) ?_
 refine WL.cA 5 (za (l:=[.tmp 4]) Tryz.call147 (.cons rfl .nil)) .nil (cc hz .nil fun w pz ho=>y8z _ _ _ zL1 w pz ) ?_
 refine WL.pu rfl (WL.pu rfl ?_)
 refine WL.seg false 4 7 (B:=zt0) rfl rfl rfl rfl rfl rfl (fun h=>(Option.some.inj (yn zBp h)).symm) (fun _ zL2=>?_) ?_
 ·skip
  have zkb:=yo zBp zL2
  obtain ⟨zBo,zL3,zkb⟩:=z7 zkb
  replace zkb:=Option.some.inj zkb
  refine WL.qA 8 (ya y51 rfl rfl) ?_
  refine WL.qA 9 (yQ (cs:=[(.int .i64 z5c.fRate.fN),(.int .i64 z5c.fRate.fD)]) zd rfl rfl (y2G (s:=2) .here rfl)) ?_
  refine WL.cA 10 (za (l:=[.tmp 9]) Tryz.call147 (.cons rfl .nil)) .nil (cc hz .nil fun w pz ho=>y8z _ _ _ zL3 w pz ) ?_
  refine WL.pu rfl (WL.pu rfl ?_)
  exact WL.yC zkb rfl rfl .all
 refine WL.pu rfl (WL.nil (WX.a (WC.ret ?_)))
 obtain rfl:=Option.some.inj h
 refine WX.ye Tryz.results166 (.tmp rfl .nil) (fun w hw=>?_)
 exact ⟨yD rfl,hw.sub .nil⟩
def y15 (z2X : List z6) (z81 : z6 → Option Bool) (zal : Option Int) : Nat → Int → Option Int
 | 0,_=>none
 | zt1 + 1,z2I=>if decide (z2I < ((z2X.length : Nat) : Int)) then chk ((0 : Int) ≤ z2I ∧ z2I < ((z2X.length : Nat) : Int)) ((z81 (⟨(⟨(((nth z2X z2I).fBurst).fN),(((nth z2X z2I).fBurst).fD)⟩ : z1),(⟨(((nth z2X z2I).fRate).fN),(((nth z2X z2I).fRate).fD)⟩ : z1)⟩ : z6)).bind fun zt2=>if zt2 then some z2I else y15 z2X z81 zal zt1 (i64 (z2I + 1))) else zal
theorem y4t {n : Nat} {z2X : List z6} {z81 : z6 → Option Bool} {zal : Option Int} {z2I : Int} {r : Int} (h : y15 z2X z81 zal n z2I = some r) : ∃ m,n = m + 1:=by
 cases n with
 | zero=>cases h
 | succ m=>exact ⟨m,rfl⟩
def y2l (z2X : List z6) (z81 : z6 → Option Bool) : Option Int :=
 jp0 (some (-1)) fun zal=>y15 z2X z81 zal yB 0
set_option maxRecDepth 20000 in
theorem y5J (Z : Zp) (zt3 : Option Addr) (zt4 : Nat) (zeG : FuncId) (zkc : List Value) (z2X : List z6) (z81 : z6 → Option Bool) (r : Int)
  (h : y2l z2X z81 = some r) (w₀ : World) (hz : PZ [] w₀ Z)
  (zL4 : ZS Z 4 (fun r x=>r = y1j x) zt3 zt4 z2X)
  (zL5 : ∀ args w,(callFunc zeG args).run Tryz.prog w = .ok (.enter zeG args) w)
  (zL6 : ∀ w : World,PZ [] w Z → ∀ (x0 : z6) (r : Bool),z81 x0 = some r → Calls Tryz.prog zeG (([(.agg #[(.int .i64 x0.fBurst.fN),(.int .i64 x0.fBurst.fD),(.int .i64 x0.fRate.fN),(.int .i64 x0.fRate.fD)])] : List Value) ++ zkc).toArray w fun e w'=>e = .returned (.bool r) ∧ Hp [] w w' []) :
  Calls Tryz.prog 178 #[(.slice zt3 z2X.length zt4),(.func (.func zeG) #[] (zkc).toArray)] w₀ fun e w'=>e = .returned (.int .i64 r) ∧ Hp [] w₀ w' []:=by
 unfold y2l at h
 refine Calls.yJ Tryz.func178 Tryz.ntmps178 ?_
 refine WC.b (WC.a (WL.pu rfl (WL.nil (WX.a ?_))))
 obtain ⟨zal,zL7,h⟩:=y1u h
 refine WC.y1g ((zal = some r)) ([]) ([]) ?_ ?_
 ·skip
  refine WC.b (WC.a (WL.pu rfl ?_))
  refine WL.qA 7 (yE Tryz.underlying173 rfl) ?_
  refine WL.pu rfl (WL.nil (WX.a (WC.block ?_)))
  refine WC.y1S (fun (zgV : Nat) (z2I : Int)=>(y15 z2X z81 zal zgV z2I = some r)) (fun zgV z2I=>[(0,(.slice zt3 z2X.length zt4)),(1,(.func (.func zeG) #[] (zkc).toArray)),(7,(.int .i64 ((z2X.length : Nat) : Int))),(8,(.int .i64 z2I))]) (fun zgV z2I=>[]) (fun zgV z2I=>zgV) ⟨yB,0⟩ h (.cons rfl (.cons rfl (.cons rfl (.cons rfl .nil)))) .nil ?_
  rintro zgV z2I h
  obtain ⟨zt1,rfl⟩:=y4t h
  rw [y15] at h
  refine WC.b (WC.a (WL.pu rfl (WL.nil (WX.a (WC.b ?_)))))
  refine WC.cond rfl (fun zt5=>?_) (fun zt5=>?_)
  ·replace h:=yn h zt5
   refine WC.skip (WX.a (WC.b (WC.block (WC.b (WC.a (WL.pu rfl (WL.pu rfl (WL.nil (WX.a (WC.b ?_))))))))))
   obtain ⟨zL8,h⟩:=yq h
   obtain ⟨zt2,zL9,h⟩:=z7 h
   refine WC.a (WL.pu rfl (WL.pu rfl (WL.pu rfl ?_)))
   refine WL.znth (dd:=14) rfl rfl (Z:=Z) (Pr:=(fun r x=>r = y1j x)) z6l rfl rfl zL4 zL8 ?_
   rintro zX8 zX9 zLa zXa rfl
   refine WL.qA 15 (yg z2u rfl (y1A hz.pv zLa) rfl) ?_
   refine WL.cA 16 (y27 (l:=[.tmp 15]) (f:=zeG) (caps:=zkc) zL5 rfl (.cons rfl .nil)) .nil (fun w hw=>zL6 w (hz.now hw) (⟨(⟨(((nth z2X z2I).fBurst).fN),(((nth z2X z2I).fBurst).fD)⟩ : z1),(⟨(((nth z2X z2I).fRate).fN),(((nth z2X z2I).fRate).fD)⟩ : z1)⟩ : z6) zt2  zL9) ?_
   refine WL.nil (WX.a ?_)
   refine WC.cond rfl (fun zt6=>?_) (fun zt6=>?_)
   ·replace h:=yn h zt6
    refine WC.b (WC.a (WL.pu rfl (WL.pu rfl (WL.nil (WX.a (WC.ret (WX.ys (WX.yd (WX.yd (WX.ys (WX.yd ?_)))))))))))
    obtain rfl:=Option.some.inj h
    refine WX.ye Tryz.results178 (.tmp rfl .nil) (fun w hw=>?_)
    exact ⟨yD rfl,hw.sub .nil⟩
   ·replace h:=yo h zt6
    refine WC.skip (WX.yj (WX.a (WC.a (WL.pu rfl (WL.pu rfl (WL.nil ?_))))))
    exact WX.round (G:=Nat × Int) ⟨zt1,(i64 (z2I + 1))⟩ h (Nat.lt_succ_self _) (.cons rfl (.cons rfl (.cons rfl (.cons rfl .nil)))) .nil
  ·replace h:=yo h zt5
   refine WC.exit (WX.yf (WX.yf (WX.yz ?_)))
   exact WX.mid (G:=Unit) () h .nil .nil
 ·rintro  h
  replace h:=zL7.symm.trans h
  refine WC.b (WC.a (WL.pu rfl (WL.nil (WX.a (WC.ret ?_)))))
  obtain rfl:=Option.some.inj h
  refine WX.ye Tryz.results178 (.tmp rfl .nil) (fun w hw=>?_)
  exact ⟨yD rfl,hw.sub .nil⟩
def y1q (zkd : List z6) (zeH : z6 → Option Bool) : Option Bool :=
 (y2l zkd zeH).bind fun zBq=>some (decide (zBq ≥ 0))
set_option maxRecDepth 20000 in
theorem y3h (Z : Zp) (zBr : Option Addr) (zBs : Nat) (zeI : FuncId) (zke : List Value) (zkd : List z6) (zeH : z6 → Option Bool) (r : Bool)
  (h : y1q zkd zeH = some r) (w₀ : World) (hz : PZ [] w₀ Z)
  (zLb : ZS Z 4 (fun r x=>r = y1j x) zBr zBs zkd)
  (zLc : ∀ args w,(callFunc zeI args).run Tryz.prog w = .ok (.enter zeI args) w)
  (zLd : ∀ w : World,PZ [] w Z → ∀ (x0 : z6) (r : Bool),zeH x0 = some r → Calls Tryz.prog zeI (([(.agg #[(.int .i64 x0.fBurst.fN),(.int .i64 x0.fBurst.fD),(.int .i64 x0.fRate.fN),(.int .i64 x0.fRate.fD)])] : List Value) ++ zke).toArray w fun e w'=>e = .returned (.bool r) ∧ Hp [] w w' []) :
  Calls Tryz.prog 165 #[(.slice zBr zkd.length zBs),(.func (.func zeI) #[] (zke).toArray)] w₀ fun e w'=>e = .returned (.bool r) ∧ Hp [] w₀ w' []:=by
 unfold y1q at h
 refine Calls.yJ Tryz.func165 Tryz.ntmps165 ?_
 refine WC.b (WC.a (WL.pu rfl (WL.nil (WX.a (WC.b ?_)))))
 obtain ⟨zBq,zLe,h⟩:=z7 h
 refine WC.a (WL.pu rfl (WL.pu rfl ?_))
 refine WL.cA 7 (za (l:=[.tmp 5,.tmp 6]) Tryz.call178 (.cons rfl (.cons rfl .nil))) .nil (cc hz .nil fun w pz ho=>y5J _ _ _ (zeG:=zeI) (zkc:=zke) _ (z81:=zeH) _ zLe w pz zLb zLc zLd) ?_
 refine WL.pu rfl (WL.pu rfl (WL.nil (WX.a (WC.ret ?_))))
 obtain rfl:=Option.some.inj h
 refine WX.ye Tryz.results165 (.tmp rfl .nil) (fun w hw=>?_)
 exact ⟨yD rfl,hw.sub .nil⟩
def y4D (zam : List z6) : Option Bool :=
 (if (decide (((zam.length : Nat) : Int) ≥ 1)) && (decide (((zam.length : Nat) : Int) ≤ 32)) then (y1q zam (fun (y0 : z6)=>y5X y0)).bind fun zBt=>some (!zBt) else some false).bind fun zt7=>some zt7
set_option maxRecDepth 20000 in
theorem y6P (Z : Zp) (zBu : Option Addr) (zBv : Nat) (zam : List z6) (r : Bool)
  (h : y4D zam = some r) (w₀ : World) (hz : PZ [] w₀ Z)
  (zLf : ZS Z 4 (fun r x=>r = y1j x) zBu zBv zam) :
  Calls Tryz.prog 146 #[(.slice zBu zam.length zBv)] w₀ fun e w'=>e = .returned (.bool r) ∧ Hp [] w₀ w' []:=by
 unfold y4D at h
 refine Calls.on1 Tryz.func146 Tryz.ntmps146 ?_
 refine WC.b (WC.a (WL.pu rfl (WL.nil (WX.a (WC.b ?_)))))
 obtain ⟨zt7,zBw,h⟩:=z7 h
 refine WC.a (WL.pu rfl ?_)
 refine WL.qA 4 (yE Tryz.underlying173 rfl) ?_
 refine WL.pu rfl (WL.pu rfl ?_)
 refine WL.seg true 3 6 (B:=(decide (((zam.length : Nat) : Int) ≥ 1)) && (decide (((zam.length : Nat) : Int) ≤ 32))) rfl rfl rfl rfl rfl rfl (fun h=>(y2b h).symm) (fun _ zLg=>?_) ?_
 ·skip
  refine WL.pu rfl ?_
  refine WL.qA 8 (yE Tryz.underlying173 rfl) ?_
  refine WL.pu rfl (WL.pu rfl ?_)
  exact WL.yC (y2c zLg) rfl rfl .all
 refine WL.pu rfl ?_
 refine WL.seg true 3 11 (B:=zt7) rfl rfl rfl rfl rfl rfl (fun h=>(Option.some.inj (yo zBw h)).symm) (fun _ zLh=>?_) ?_
 ·skip
  have zkf:=yn zBw zLh
  obtain ⟨zBt,zLi,zkf⟩:=z7 zkf
  replace zkf:=Option.some.inj zkf
  refine WL.pu rfl ?_
  refine WL.cA 13 (za (l:=[.tmp 12,.func 166]) Tryz.call165 (.cons rfl (.cons rfl .nil))) .nil (cc hz .nil fun w pz ho=>y3h _ _ _ (zeI:=166) (zke:=[]) _ (zeH:=(fun (y0 : z6)=>y5X y0)) _ zLi w pz zLf Tryz.call166 (fun w' hz' y0  r  hr=>ybx _ _ _ hr w' hz' )) ?_
  refine WL.pu rfl (WL.pu rfl ?_)
  exact WL.yC zkf rfl rfl .all
 refine WL.pu rfl (WL.nil (WX.a (WC.ret ?_)))
 obtain rfl:=Option.some.inj h
 refine WX.ye Tryz.results146 (.tmp rfl .nil) (fun w hw=>?_)
 exact ⟨yD rfl,hw.sub .nil⟩
def y23 (zkg : List z6) : Option Bool :=
 (y4D zkg).bind fun zBx=>some (!zBx)
set_option maxRecDepth 20000 in
theorem y5Y (Z : Zp) (zBy : Option Addr) (zBz : Nat) (zkg : List z6) (r : Bool)
  (h : y23 zkg = some r) (w₀ : World) (hz : PZ [] w₀ Z)
  (zLj : ZS Z 4 (fun r x=>r = y1j x) zBy zBz zkg) :
  Calls Tryz.prog 151 #[(.slice zBy zkg.length zBz)] w₀ fun e w'=>e = .returned (.bool r) ∧ Hp [] w₀ w' []:=by
 unfold y23 at h
 refine Calls.on1 Tryz.func151 Tryz.ntmps151 ?_
 refine WC.b (WC.a (WL.pu rfl (WL.nil (WX.a (WC.b ?_)))))
 obtain ⟨zBx,zLk,h⟩:=z7 h
 refine WC.a (WL.pu rfl ?_)
 refine WL.cA 4 (za (l:=[.tmp 3]) Tryz.call146 (.cons rfl .nil)) .nil (cc hz .nil fun w pz ho=>y6P _ _ _ _ _ zLk w pz zLj) ?_
 refine WL.pu rfl (WL.pu rfl (WL.nil (WX.a (WC.ret ?_))))
 obtain rfl:=Option.some.inj h
 refine WX.ye Tryz.results151 (.tmp rfl .nil) (fun w hw=>?_)
 exact ⟨yD rfl,hw.sub .nil⟩
def y1b (z5d : List (List z6)) (z82 : (List z6) → Option Bool) (zan : Option Int) : Nat → Int → Option Int
 | 0,_=>none
 | zt8 + 1,z4L=>if decide (z4L < ((z5d.length : Nat) : Int)) then chk ((0 : Int) ≤ z4L ∧ z4L < ((z5d.length : Nat) : Int)) ((z82 (nth z5d z4L)).bind fun zt9=>if zt9 then some z4L else y1b z5d z82 zan zt8 (i64 (z4L + 1))) else zan
theorem y4A {n : Nat} {z5d : List (List z6)} {z82 : (List z6) → Option Bool} {zan : Option Int} {z4L : Int} {r : Int} (h : y1b z5d z82 zan n z4L = some r) : ∃ m,n = m + 1:=by
 cases n with
 | zero=>cases h
 | succ m=>exact ⟨m,rfl⟩
def y2s (z5d : List (List z6)) (z82 : (List z6) → Option Bool) : Option Int :=
 jp0 (some (-1)) fun zan=>y1b z5d z82 zan yB 0
set_option maxRecDepth 20000 in
theorem y5S (Z : Zp) (zta : Option Addr) (ztb : Nat) (zeJ : FuncId) (zkh : List Value) (z5d : List (List z6)) (z82 : (List z6) → Option Bool) (r : Int)
  (h : y2s z5d z82 = some r) (w₀ : World) (hz : PZ [] w₀ Z)
  (zLl : ZS Z 1 (y1v Z) zta ztb z5d)
  (zLm : ∀ args w,(callFunc zeJ args).run Tryz.prog w = .ok (.enter zeJ args) w)
  (zLn : ∀ w : World,PZ [] w Z → ∀ (x0 : List z6) (ao0 : Option Addr) (cap0 : Nat) (r : Bool),ZS Z 4 (fun r x=>r = y1j x) ao0 cap0 x0 → z82 x0 = some r → Calls Tryz.prog zeJ (([(.slice ao0 x0.length cap0)] : List Value) ++ zkh).toArray w fun e w'=>e = .returned (.bool r) ∧ Hp [] w w' []) :
  Calls Tryz.prog 168 #[(.slice zta z5d.length ztb),(.func (.func zeJ) #[] (zkh).toArray)] w₀ fun e w'=>e = .returned (.int .i64 r) ∧ Hp [] w₀ w' []:=by
 unfold y2s at h
 refine Calls.yJ Tryz.func168 Tryz.ntmps168 ?_
 refine WC.b (WC.a (WL.pu rfl (WL.nil (WX.a ?_))))
 obtain ⟨zan,zLo,h⟩:=y1u h
 refine WC.y1g ((zan = some r)) ([]) ([]) ?_ ?_
 ·skip
  refine WC.b (WC.a (WL.pu rfl ?_))
  refine WL.qA 7 (yE Tryz.underlying128 rfl) ?_
  refine WL.pu rfl (WL.nil (WX.a (WC.block ?_)))
  refine WC.y1S (fun (zgW : Nat) (z4L : Int)=>(y1b z5d z82 zan zgW z4L = some r)) (fun zgW z4L=>[(0,(.slice zta z5d.length ztb)),(1,(.func (.func zeJ) #[] (zkh).toArray)),(7,(.int .i64 ((z5d.length : Nat) : Int))),(8,(.int .i64 z4L))]) (fun zgW z4L=>[]) (fun zgW z4L=>zgW) ⟨yB,0⟩ h (.cons rfl (.cons rfl (.cons rfl (.cons rfl .nil)))) .nil ?_
  rintro zgW z4L h
  obtain ⟨zt8,rfl⟩:=y4A h
  rw [y1b] at h
  refine WC.b (WC.a (WL.pu rfl (WL.nil (WX.a (WC.b ?_)))))
  refine WC.cond rfl (fun ztc=>?_) (fun ztc=>?_)
  ·replace h:=yn h ztc
   refine WC.skip (WX.a (WC.b (WC.block (WC.b (WC.a (WL.pu rfl (WL.pu rfl (WL.nil (WX.a (WC.b ?_))))))))))
   obtain ⟨zLp,h⟩:=yq h
   obtain ⟨zt9,zLq,h⟩:=z7 h
   refine WC.a (WL.pu rfl (WL.pu rfl (WL.pu rfl ?_)))
   refine WL.znth (dd:=14) rfl rfl (Z:=Z) (Pr:=(y1v Z)) z7H rfl rfl zLl zLp ?_
   rintro zXb zXc zLr zXd ⟨zLs,zLt,rfl,zLu⟩
   refine WL.qA 15 (yc zbV rfl (y48 hz.pv zLr rfl)) ?_
   refine WL.cA 16 (y27 (l:=[.tmp 15]) (f:=zeJ) (caps:=zkh) zLm rfl (.cons rfl .nil)) .nil (fun w hw=>zLn w (hz.now hw) (nth z5d z4L) zLs zLt zt9 zLu zLq) ?_
   refine WL.nil (WX.a ?_)
   refine WC.cond rfl (fun ztd=>?_) (fun ztd=>?_)
   ·replace h:=yn h ztd
    refine WC.b (WC.a (WL.pu rfl (WL.pu rfl (WL.nil (WX.a (WC.ret (WX.ys (WX.yd (WX.yd (WX.ys (WX.yd ?_)))))))))))
    obtain rfl:=Option.some.inj h
    refine WX.ye Tryz.results168 (.tmp rfl .nil) (fun w hw=>?_)
    exact ⟨yD rfl,hw.sub .nil⟩
   ·replace h:=yo h ztd
    refine WC.skip (WX.yj (WX.a (WC.a (WL.pu rfl (WL.pu rfl (WL.nil ?_))))))
    exact WX.round (G:=Nat × Int) ⟨zt8,(i64 (z4L + 1))⟩ h (Nat.lt_succ_self _) (.cons rfl (.cons rfl (.cons rfl (.cons rfl .nil)))) .nil
  ·replace h:=yo h ztc
   refine WC.exit (WX.yf (WX.yf (WX.yz ?_)))
   exact WX.mid (G:=Unit) () h .nil .nil
 ·rintro  h
  replace h:=zLo.symm.trans h
  refine WC.b (WC.a (WL.pu rfl (WL.nil (WX.a (WC.ret ?_)))))
  obtain rfl:=Option.some.inj h
  refine WX.ye Tryz.results168 (.tmp rfl .nil) (fun w hw=>?_)
  exact ⟨yD rfl,hw.sub .nil⟩
def y1w (zki : List (List z6)) (zeK : (List z6) → Option Bool) : Option Bool :=
 (y2s zki zeK).bind fun zBA=>some (decide (zBA ≥ 0))
set_option maxRecDepth 20000 in
theorem y3l (Z : Zp) (zBB : Option Addr) (zBC : Nat) (zeL : FuncId) (zkj : List Value) (zki : List (List z6)) (zeK : (List z6) → Option Bool) (r : Bool)
  (h : y1w zki zeK = some r) (w₀ : World) (hz : PZ [] w₀ Z)
  (zLv : ZS Z 1 (y1v Z) zBB zBC zki)
  (zLw : ∀ args w,(callFunc zeL args).run Tryz.prog w = .ok (.enter zeL args) w)
  (zLx : ∀ w : World,PZ [] w Z → ∀ (x0 : List z6) (ao0 : Option Addr) (cap0 : Nat) (r : Bool),ZS Z 4 (fun r x=>r = y1j x) ao0 cap0 x0 → zeK x0 = some r → Calls Tryz.prog zeL (([(.slice ao0 x0.length cap0)] : List Value) ++ zkj).toArray w fun e w'=>e = .returned (.bool r) ∧ Hp [] w w' []) :
  Calls Tryz.prog 150 #[(.slice zBB zki.length zBC),(.func (.func zeL) #[] (zkj).toArray)] w₀ fun e w'=>e = .returned (.bool r) ∧ Hp [] w₀ w' []:=by
 unfold y1w at h
 refine Calls.yJ Tryz.func150 Tryz.ntmps150 ?_
 refine WC.b (WC.a (WL.pu rfl (WL.nil (WX.a (WC.b ?_)))))
 obtain ⟨zBA,zLy,h⟩:=z7 h
 refine WC.a (WL.pu rfl (WL.pu rfl ?_))
 refine WL.cA 7 (za (l:=[.tmp 5,.tmp 6]) Tryz.call168 (.cons rfl (.cons rfl .nil))) .nil (cc hz .nil fun w pz ho=>y5S _ _ _ (zeJ:=zeL) (zkh:=zkj) _ (z82:=zeK) _ zLy w pz zLv zLw zLx) ?_
 refine WL.pu rfl (WL.pu rfl (WL.nil (WX.a (WC.ret ?_))))
 obtain rfl:=Option.some.inj h
 refine WX.ye Tryz.results150 (.tmp rfl .nil) (fun w hw=>?_)
 exact ⟨yD rfl,hw.sub .nil⟩
def y5A (z3z : zSv) : Option Bool :=
 (y1y z3z.fRate).bind fun zte=>(if zte && (decide (z3z.fRate.fN > 0)) then (y1y z3z.fL).bind fun zBD=>some zBD else some false).bind fun zn3=>some (zn3 && (decide (z3z.fL.fN ≥ 0)))
set_option maxRecDepth 20000 in
theorem y8A (Z : Zp)  (z3z : zSv) (r : Bool)
  (h : y5A z3z = some r) (w₀ : World) (hz : PZ [] w₀ Z) :
  Calls Tryz.prog 152 #[(.agg #[(.int .i64 z3z.fRate.fN),(.int .i64 z3z.fRate.fD),(.int .i64 z3z.fL.fN),(.int .i64 z3z.fL.fD)])] w₀ fun e w'=>e = .returned (.bool r) ∧ Hp [] w₀ w' []:=by
 unfold y5A at h
 refine Calls.on1 Tryz.func152 Tryz.ntmps152 ?_
 refine WC.b (WC.a ?_)
 refine WL.nA 1 (yH (cs:=[(.int .i64 z3z.fRate.fN),(.int .i64 z3z.fRate.fD),(.int .i64 z3z.fL.fN),(.int .i64 z3z.fL.fD)]) rfl rfl) ?_
 intro zXe _
 refine WL.pu rfl (WL.nil (WX.a (WC.b ?_)))
 obtain ⟨zte,zLz,h⟩:=z7 h
 obtain ⟨zn3,zBE,h⟩:=z7 h
 refine WC.a ?_
 refine WL.qA 3 (ya y7I rfl rfl) ?_
 refine WL.qA 4 (yQ (cs:=[(.int .i64 z3z.fRate.fN),(.int .i64 z3z.fRate.fD)]) zd rfl rfl (y2G (s:=2) .here rfl)) ?_
 refine WL.cA 5 (za (l:=[.tmp 4]) Tryz.call80 (.cons rfl .nil)) .nil (cc hz .nil fun w pz ho=>y1T _ _ _ zLz w pz ) ?_
 refine WL.pu rfl ?_
 refine WL.seg true 4 6 (B:=zte && (decide (z3z.fRate.fN > 0))) rfl rfl rfl rfl rfl rfl (fun h=>(y2b h).symm) (fun _ zLA=>?_) ?_
 ·skip
  refine WL.qA 7 (ya y7I rfl rfl) ?_
  refine WL.qA 8 (ya y1K rfl rfl) ?_
  refine WL.qA 9 (yc yt rfl (yk .here rfl)) ?_
  refine WL.pu rfl (WL.pu rfl ?_)
  exact WL.yC (y2c zLA) rfl rfl .all
 refine WL.pu rfl ?_
 refine WL.seg true 3 12 (B:=zn3) rfl rfl rfl rfl rfl rfl (fun h=>(Option.some.inj (yo zBE h)).symm) (fun _ zLB=>?_) ?_
 ·skip
  have zkk:=yn zBE zLB
  obtain ⟨zBD,zLC,zkk⟩:=z7 zkk
  replace zkk:=Option.some.inj zkk
  refine WL.qA 13 (ya y7J rfl rfl) ?_
  refine WL.qA 14 (yQ (cs:=[(.int .i64 z3z.fL.fN),(.int .i64 z3z.fL.fD)]) zd rfl rfl (y2G (s:=2) .here rfl)) ?_
  refine WL.cA 15 (za (l:=[.tmp 14]) Tryz.call80 (.cons rfl .nil)) .nil (cc hz .nil fun w pz ho=>y1T _ _ _ zLC w pz ) ?_
  refine WL.pu rfl ?_
  exact WL.yC zkk rfl rfl .all
 refine WL.pu rfl ?_
 refine WL.seg true 4 17 (B:=zn3 && (decide (z3z.fL.fN ≥ 0))) rfl rfl rfl rfl rfl rfl (fun h=>(y2b h).symm) (fun _ zLD=>?_) ?_
 ·skip
  refine WL.qA 18 (ya y7J rfl rfl) ?_
  refine WL.qA 19 (ya y1K rfl rfl) ?_
  refine WL.qA 20 (yc yt rfl (yk .here rfl)) ?_
  refine WL.pu rfl (WL.pu rfl ?_)
  exact WL.yC (y2c zLD) rfl rfl .all
 refine WL.pu rfl (WL.nil (WX.a (WC.ret ?_)))
 obtain rfl:=Option.some.inj h
 refine WX.ye Tryz.results152 (.tmp rfl .nil) (fun w hw=>?_)
 exact ⟨yD rfl,hw.sub .nil⟩
def y1D (zkl : Int) : Option z1 :=
 some (⟨zkl,1⟩ : z1)
set_option maxRecDepth 20000 in
theorem y2k (Z : Zp)  (zkl : Int) (r : z1)
  (h : y1D zkl = some r) (w₀ : World) (hz : PZ [] w₀ Z) :
  Calls Tryz.prog 145 #[(.int .i64 zkl)] w₀ fun e w'=>e = .returned (.agg #[(.int .i64 r.fN),(.int .i64 r.fD)]) ∧ Hp [] w₀ w' []:=by
 unfold y1D at h
 refine Calls.on1 Tryz.func145 Tryz.ntmps145 ?_
 refine WC.b (WC.a ?_)
 refine WL.nA 2 (yv (cs:=[(.int .i64 0),(.int .i64 0)]) zP rfl) ?_
 intro zXf _
 refine WL.nil (WX.a (WC.b (WC.a (WL.pu rfl ?_))))
 refine WL.qA 4 (yI (v:=(.agg #[(.int .i64 zkl),(.int .i64 1)])) (Eos.parts (l:=[.tmp 3,.const (.int .i64 1)]) (.cons rfl (.cons rfl .nil)) [0,1]) (fun _=>by kernel_rfl)) ?_
 refine WL.ym rfl rfl (yl zu rfl rfl rfl .here rfl rfl rfl) ?_
 refine WL.nil (WX.a (WC.ret ?_))
 obtain rfl:=Option.some.inj h
 refine WX.ye Tryz.results145 (.agg rfl zd rfl (yh .here) .nil) (fun w hw=>?_)
 exact ⟨yD rfl,hw.sub .nil⟩
def y2v  : Option z1 :=
 (y1D 0).bind fun zBF=>some zBF
set_option maxRecDepth 20000 in
theorem y3q (Z : Zp)  (r : z1)
  (h : y2v = some r) (w₀ : World) (hz : PZ [] w₀ Z) :
  Calls Tryz.prog 107 #[] w₀ fun e w'=>e = .returned (.agg #[(.int .i64 r.fN),(.int .i64 r.fD)]) ∧ Hp [] w₀ w' []:=by
 unfold y2v at h
 refine Calls.on0 Tryz.func107 Tryz.ntmps107 ?_
 refine WC.b (WC.a ?_)
 refine WL.nA 0 (yv (cs:=[(.int .i64 0),(.int .i64 0)]) zP rfl) ?_
 intro zXg _
 refine WL.nil (WX.a (WC.b ?_))
 obtain ⟨zBF,zLE,h⟩:=z7 h
 refine WC.a ?_
 refine WL.cA 1 (za (l:=[.const (.int .i64 0)]) Tryz.call145 (.cons rfl .nil)) .nil (cc hz .nil fun w pz ho=>y2k _ _ _ zLE w pz ) ?_
 refine WL.ym rfl rfl (yl zu rfl rfl rfl .here rfl rfl rfl) ?_
 refine WL.nil (WX.a (WC.ret ?_))
 obtain rfl:=Option.some.inj h
 refine WX.ye Tryz.results107 (.agg rfl zd rfl (yh .here) .nil) (fun w hw=>?_)
 exact ⟨yD rfl,hw.sub .nil⟩
def y1l (z2Y : List z6) (z2Z : z6) (zao : Option Int) : Nat → Int → Option Int
 | 0,_=>none
 | ztf + 1,z2J=>if decide (z2J < ((z2Y.length : Nat) : Int)) then chk ((0 : Int) ≤ z2J ∧ z2J < ((z2Y.length : Nat) : Int)) (if decide (z2Z = (⟨(⟨(((nth z2Y z2J).fBurst).fN),(((nth z2Y z2J).fBurst).fD)⟩ : z1),(⟨(((nth z2Y z2J).fRate).fN),(((nth z2Y z2J).fRate).fD)⟩ : z1)⟩ : z6)) then some z2J else y1l z2Y z2Z zao ztf (i64 (z2J + 1))) else zao
theorem y55 {n : Nat} {z2Y : List z6} {z2Z : z6} {zao : Option Int} {z2J : Int} {r : Int} (h : y1l z2Y z2Z zao n z2J = some r) : ∃ m,n = m + 1:=by
 cases n with
 | zero=>cases h
 | succ m=>exact ⟨m,rfl⟩
def y2T (z2Y : List z6) (z2Z : z6) : Option Int :=
 jp0 (some (-1)) fun zao=>y1l z2Y z2Z zao yB 0
set_option maxRecDepth 20000 in
theorem y6s (Z : Zp) (ztg : Option Addr) (zth : Nat) (z2Y : List z6) (z2Z : z6) (r : Int)
  (h : y2T z2Y z2Z = some r) (w₀ : World) (hz : PZ [] w₀ Z)
  (zLF : ZS Z 4 (fun r x=>r = y1j x) ztg zth z2Y) :
  Calls Tryz.prog 186 #[(.slice ztg z2Y.length zth),(.agg #[(.int .i64 z2Z.fBurst.fN),(.int .i64 z2Z.fBurst.fD),(.int .i64 z2Z.fRate.fN),(.int .i64 z2Z.fRate.fD)])] w₀ fun e w'=>e = .returned (.int .i64 r) ∧ Hp [] w₀ w' []:=by
 unfold y2T at h
 refine Calls.yJ Tryz.func186 Tryz.ntmps186 ?_
 refine WC.b (WC.a ?_)
 refine WL.nA 3 (yH (cs:=[(.int .i64 z2Z.fBurst.fN),(.int .i64 z2Z.fBurst.fD),(.int .i64 z2Z.fRate.fN),(.int .i64 z2Z.fRate.fD)]) rfl rfl) ?_
 intro zBG _
 refine WL.pu rfl (WL.nil (WX.a ?_))
 obtain ⟨zao,zLG,h⟩:=y1u h
 refine WC.y1g ((zao = some r)) ([]) ([]) ?_ ?_
 ·skip
  refine WC.b (WC.a (WL.pu rfl ?_))
  refine WL.qA 7 (yE Tryz.underlying173 rfl) ?_
  refine WL.pu rfl (WL.nil (WX.a (WC.block ?_)))
  refine WC.y1S (fun (zgX : Nat) (z2J : Int)=>(y1l z2Y z2Z zao zgX z2J = some r)) (fun zgX z2J=>[(0,(.slice ztg z2Y.length zth)),(3,(.pointer (some ⟨zBG,0,none⟩))),(7,(.int .i64 ((z2Y.length : Nat) : Int))),(8,(.int .i64 z2J))]) (fun zgX z2J=>[stb zBG 171 [(.int .i64 z2Z.fBurst.fN),(.int .i64 z2Z.fBurst.fD),(.int .i64 z2Z.fRate.fN),(.int .i64 z2Z.fRate.fD)]]) (fun zgX z2J=>zgX) ⟨yB,0⟩ h (.cons rfl (.cons rfl (.cons rfl (.cons rfl .nil)))) (.cons .here .nil) ?_
  rintro zgX z2J h
  obtain ⟨ztf,rfl⟩:=y55 h
  rw [y1l] at h
  refine WC.b (WC.a (WL.pu rfl (WL.nil (WX.a (WC.b ?_)))))
  refine WC.cond rfl (fun zti=>?_) (fun zti=>?_)
  ·replace h:=yn h zti
   refine WC.skip (WX.a (WC.b (WC.block (WC.b (WC.a (WL.pu rfl (WL.pu rfl (WL.nil (WX.a (WC.b ?_))))))))))
   obtain ⟨zLH,h⟩:=yq h
   refine WC.yL (fun i=>[].contains i) [] rfl ?_
   refine WD.qA 0 11 rfl (yg z2u rfl (yh .here) rfl) ?_
   refine WD.pA 1 12 rfl (fun _=>q_m rfl) ?_
   refine WD.pA 2 13 rfl (fun _=>q_m rfl) ?_
   refine WD.znth (j:=3) (dd:=14) (by kernel_rfl) rfl z2E z2F rfl rfl (Z:=Z) (Pr:=(fun r x=>r = y1j x)) z6l rfl rfl zLF zLH ?_
   rintro zXh zXi zLI zXj rfl
   refine WD.qA 4 15 rfl (yg z2u rfl (y1A hz.pv zLI) rfl) ?_
   refine WD.pA 5 16 rfl (fun _=>y6T (enc:=y1j) (a:=z2Z) (b:=(⟨(⟨(((nth z2Y z2J).fBurst).fN),(((nth z2Y z2J).fBurst).fD)⟩ : z1),(⟨(((nth z2Y z2J).fRate).fN),(((nth z2Y z2J).fRate).fD)⟩ : z1)⟩ : z6)) zy8 rfl rfl) ?_
   refine WD.done (by kernel_rfl) ?_
   refine WX.a ?_
   refine WC.cond rfl (fun ztj=>?_) (fun ztj=>?_)
   ·replace h:=yn h ztj
    refine WC.b (WC.a (WL.pu rfl (WL.pu rfl (WL.nil (WX.a (WC.ret (WX.ys (WX.yd (WX.yd (WX.ys (WX.yd ?_)))))))))))
    obtain rfl:=Option.some.inj h
    refine WX.ye Tryz.results186 (.tmp rfl .nil) (fun w hw=>?_)
    exact ⟨yD rfl,hw.sub .nil⟩
   ·replace h:=yo h ztj
    refine WC.skip (WX.yj (WX.a (WC.a (WL.pu rfl (WL.pu rfl (WL.nil ?_))))))
    exact WX.round (G:=Nat × Int) ⟨ztf,(i64 (z2J + 1))⟩ h (Nat.lt_succ_self _) (.cons rfl (.cons rfl (.cons rfl (.cons rfl .nil)))) (.cons .here .nil)
  ·replace h:=yo h zti
   refine WC.exit (WX.yf (WX.yf (WX.yz ?_)))
   exact WX.mid (G:=Unit) () h .nil .nil
 ·rintro  h
  replace h:=zLG.symm.trans h
  refine WC.b (WC.a (WL.pu rfl (WL.nil (WX.a (WC.ret ?_)))))
  obtain rfl:=Option.some.inj h
  refine WX.ye Tryz.results186 (.tmp rfl .nil) (fun w hw=>?_)
  exact ⟨yD rfl,hw.sub .nil⟩
def y2t (zkm : List z6) (z83 : z6) : Option Bool :=
 (y2T zkm z83).bind fun zBH=>some (decide (zBH ≥ 0))
set_option maxRecDepth 20000 in
theorem y5T (Z : Zp) (zBI : Option Addr) (zBJ : Nat) (zkm : List z6) (z83 : z6) (r : Bool)
  (h : y2t zkm z83 = some r) (w₀ : World) (hz : PZ [] w₀ Z)
  (zLJ : ZS Z 4 (fun r x=>r = y1j x) zBI zBJ zkm) :
  Calls Tryz.prog 179 #[(.slice zBI zkm.length zBJ),(.agg #[(.int .i64 z83.fBurst.fN),(.int .i64 z83.fBurst.fD),(.int .i64 z83.fRate.fN),(.int .i64 z83.fRate.fD)])] w₀ fun e w'=>e = .returned (.bool r) ∧ Hp [] w₀ w' []:=by
 unfold y2t at h
 refine Calls.yJ Tryz.func179 Tryz.ntmps179 ?_
 refine WC.b (WC.a ?_)
 refine WL.nA 3 (yH (cs:=[(.int .i64 z83.fBurst.fN),(.int .i64 z83.fBurst.fD),(.int .i64 z83.fRate.fN),(.int .i64 z83.fRate.fD)]) rfl rfl) ?_
 intro zXk _
 refine WL.pu rfl (WL.nil (WX.a (WC.b ?_)))
 obtain ⟨zBH,zLK,h⟩:=z7 h
 refine WC.a (WL.pu rfl ?_)
 refine WL.qA 6 (yg z2u rfl (yh .here) rfl) ?_
 refine WL.cA 7 (za (l:=[.tmp 5,.tmp 6]) Tryz.call186 (.cons rfl (.cons rfl .nil))) .nil (cc hz .nil fun w pz ho=>y6s _ _ _ _ _ _ zLK w pz zLJ) ?_
 refine WL.pu rfl (WL.pu rfl (WL.nil (WX.a (WC.ret ?_))))
 obtain rfl:=Option.some.inj h
 refine WX.ye Tryz.results179 (.tmp rfl .nil) (fun w hw=>?_)
 exact ⟨yD rfl,hw.sub .nil⟩
def y2r (z84 : z1) (z85 : z1) : Option Int :=
 (y1y z84).bind fun zBK=>(if !zBK then some true else (y1y z85).bind fun zBL=>some (!zBL)).bind fun ztk=>if ztk then some 0 else if decide ((i64 (z84.fN * z85.fD)) < (i64 (z85.fN * z84.fD))) then some (-1) else if decide ((i64 (z84.fN * z85.fD)) > (i64 (z85.fN * z84.fD))) then some 1 else some 0
set_option maxRecDepth 20000 in
theorem y3w (Z : Zp)  (z84 : z1) (z85 : z1) (r : Int)
  (h : y2r z84 z85 = some r) (w₀ : World) (hz : PZ [] w₀ Z) :
  Calls Tryz.prog 79 #[(.agg #[(.int .i64 z84.fN),(.int .i64 z84.fD)]),(.agg #[(.int .i64 z85.fN),(.int .i64 z85.fD)])] w₀ fun e w'=>e = .returned (.int .i64 r) ∧ Hp [] w₀ w' []:=by
 unfold y2r at h
 refine Calls.yJ Tryz.func79 Tryz.ntmps79 ?_
 refine WC.b (WC.a ?_)
 refine WL.nA 2 (yH (cs:=[(.int .i64 z84.fN),(.int .i64 z84.fD)]) rfl rfl) ?_
 intro zXl _
 refine WL.nA 3 (yH (cs:=[(.int .i64 z85.fN),(.int .i64 z85.fD)]) rfl rfl) ?_
 intro zXm _
 refine WL.pu rfl (WL.nil (WX.a (WC.b (WC.b ?_))))
 obtain ⟨zBK,zLL,h⟩:=z7 h
 obtain ⟨ztk,zBM,h⟩:=z7 h
 refine WC.a ?_
 refine WL.qA 7 (yg zd rfl (yh .h1) rfl) ?_
 refine WL.cA 8 (za (l:=[.tmp 7]) Tryz.call80 (.cons rfl .nil)) .nil (cc hz .nil fun w pz ho=>y1T _ _ _ zLL w pz ) ?_
 refine WL.pu rfl (WL.pu rfl ?_)
 refine WL.seg false 3 10 (B:=ztk) rfl rfl rfl rfl rfl rfl (fun h=>(Option.some.inj (yn zBM h)).symm) (fun _ zLM=>?_) ?_
 ·skip
  have zkn:=yo zBM zLM
  obtain ⟨zBL,zLN,zkn⟩:=z7 zkn
  replace zkn:=Option.some.inj zkn
  refine WL.qA 11 (yg zd rfl (yh .here) rfl) ?_
  refine WL.cA 12 (za (l:=[.tmp 11]) Tryz.call80 (.cons rfl .nil)) .nil (cc hz .nil fun w pz ho=>y1T _ _ _ zLN w pz ) ?_
  refine WL.pu rfl (WL.pu rfl ?_)
  exact WL.yC zkn rfl rfl .all
 refine WL.nil (WX.a ?_)
 refine WC.cond rfl (fun ztl=>?_) (fun ztl=>?_)
 ·replace h:=yn h ztl
  refine WC.b (WC.a (WL.pu rfl (WL.nil (WX.a (WC.ret (WX.yd ?_))))))
  obtain rfl:=Option.some.inj h
  refine WX.ye Tryz.results79 (.tmp rfl .nil) (fun w hw=>?_)
  exact ⟨yD rfl,hw.sub .nil⟩
 ·replace h:=yo h ztl
  refine WC.skip (WX.a (WC.b (WC.b ?_)))
  refine WC.yL (fun i=>[].contains i) [] rfl ?_
  refine WD.pA 0 15 rfl (fun _=>ya y1K rfl rfl) ?_
  refine WD.qA 1 16 rfl (yc yt rfl (yk .h1 rfl)) ?_
  refine WD.pA 2 17 rfl (fun _=>ya y2a rfl rfl) ?_
  refine WD.qA 3 18 rfl (yc yt rfl (yk .here rfl)) ?_
  refine WD.pA 4 19 rfl (fun _=>y6g rfl rfl rfl) ?_
  refine WD.pA 5 20 rfl (fun _=>ya y1K rfl rfl) ?_
  refine WD.qA 6 21 rfl (yc yt rfl (yk .here rfl)) ?_
  refine WD.pA 7 22 rfl (fun _=>ya y2a rfl rfl) ?_
  refine WD.qA 8 23 rfl (yc yt rfl (yk .h1 rfl)) ?_
  refine WD.pA 9 24 rfl (fun _=>y6g rfl rfl rfl) ?_
  refine WD.pA 10 5 rfl (fun _=>q_z rfl) ?_
  refine WD.pA 11 6 rfl (fun _=>q_z rfl) ?_
  refine WD.done (by kernel_rfl) ?_
  refine WX.a (WC.block (WC.b (WC.a (WL.pu rfl (WL.pu rfl (WL.pu rfl (WL.pu rfl (WL.nil (WX.a ?_)))))))))
  refine WC.cond rfl (fun ztm=>?_) (fun ztm=>?_)
  ·replace h:=yn h ztm
   refine WC.b (WC.a (WL.pu rfl (WL.nil (WX.a (WC.ret (WX.ys (WX.yd ?_)))))))
   obtain rfl:=Option.some.inj h
   refine WX.ye Tryz.results79 (.tmp rfl .nil) (fun w hw=>?_)
   exact ⟨yD rfl,hw.sub .nil⟩
  ·replace h:=yo h ztm
   refine WC.b (WC.a (WL.pu rfl (WL.pu rfl (WL.pu rfl (WL.pu rfl (WL.nil (WX.a ?_)))))))
   refine WC.cond rfl (fun ztn=>?_) (fun ztn=>?_)
   ·replace h:=yn h ztn
    refine WC.b (WC.a (WL.pu rfl (WL.nil (WX.a (WC.ret (WX.ys (WX.yd ?_)))))))
    obtain rfl:=Option.some.inj h
    refine WX.ye Tryz.results79 (.tmp rfl .nil) (fun w hw=>?_)
    exact ⟨yD rfl,hw.sub .nil⟩
   ·replace h:=yo h ztn
    refine WC.skip (WX.yj (WX.a (WC.b (WC.a (WL.pu rfl (WL.nil (WX.a (WC.ret ?_))))))))
    obtain rfl:=Option.some.inj h
    refine WX.ye Tryz.results79 (.tmp rfl .nil) (fun w hw=>?_)
    exact ⟨yD rfl,hw.sub .nil⟩
def y6F (z4b : z6) (z4c : z6) : Option Bool :=
 (if decide (z4b ≠ z4c) then (y2r z4b.fBurst z4c.fBurst).bind fun zBN=>some (decide (zBN ≤ 0)) else some false).bind fun zto=>(if zto then (y2r z4b.fRate z4c.fRate).bind fun zBO=>some (decide (zBO ≤ 0)) else some false).bind fun ztp=>some ztp
set_option maxRecDepth 20000 in
theorem yaS (Z : Zp)  (z4b : z6) (z4c : z6) (r : Bool)
  (h : y6F z4b z4c = some r) (w₀ : World) (hz : PZ [] w₀ Z) :
  Calls Tryz.prog 181 #[(.agg #[(.int .i64 z4b.fBurst.fN),(.int .i64 z4b.fBurst.fD),(.int .i64 z4b.fRate.fN),(.int .i64 z4b.fRate.fD)]),(.agg #[(.int .i64 z4c.fBurst.fN),(.int .i64 z4c.fBurst.fD),(.int .i64 z4c.fRate.fN),(.int .i64 z4c.fRate.fD)])] w₀ fun e w'=>e = .returned (.bool r) ∧ Hp [] w₀ w' []:=by
 unfold y6F at h
 refine Calls.yJ Tryz.func181 Tryz.ntmps181 ?_
 refine WC.b (WC.a ?_)
 refine WL.nA 2 (yH (cs:=[(.int .i64 z4b.fBurst.fN),(.int .i64 z4b.fBurst.fD),(.int .i64 z4b.fRate.fN),(.int .i64 z4b.fRate.fD)]) rfl rfl) ?_
 intro zXn _
 refine WL.nA 3 (yH (cs:=[(.int .i64 z4c.fBurst.fN),(.int .i64 z4c.fBurst.fD),(.int .i64 z4c.fRate.fN),(.int .i64 z4c.fRate.fD)]) rfl rfl) ?_
 intro zXo _
 refine WL.pu rfl (WL.nil (WX.a (WC.b ?_)))
 obtain ⟨zto,zBP,h⟩:=z7 h
 obtain ⟨ztp,zBQ,h⟩:=z7 h
 refine WC.a ?_
 refine WL.qA 5 (yg z2u rfl (yh .h1) rfl) ?_
 refine WL.qA 6 (yg z2u rfl (yh .here) rfl) ?_
 refine WL.qA 7 (y9y (enc:=y1j) (a:=z4b) (b:=z4c) zy8 rfl rfl) ?_
 refine WL.pu rfl ?_
 refine WL.seg true 6 8 (B:=zto) rfl rfl rfl rfl rfl rfl (fun h=>(Option.some.inj (yo zBP h)).symm) (fun _ zLO=>?_) ?_
 ·skip
  have zko:=yn zBP zLO
  obtain ⟨zBN,zLP,zko⟩:=z7 zko
  replace zko:=Option.some.inj zko
  refine WL.qA 9 (ya y3V rfl rfl) ?_
  refine WL.qA 10 (yQ (cs:=[(.int .i64 z4b.fBurst.fN),(.int .i64 z4b.fBurst.fD)]) zd rfl rfl (y2G (s:=2) .h1 rfl)) ?_
  refine WL.qA 11 (ya y3V rfl rfl) ?_
  refine WL.qA 12 (yQ (cs:=[(.int .i64 z4c.fBurst.fN),(.int .i64 z4c.fBurst.fD)]) zd rfl rfl (y2G (s:=2) .here rfl)) ?_
  refine WL.cA 13 (za (l:=[.tmp 10,.tmp 12]) Tryz.call79 (.cons rfl (.cons rfl .nil))) .nil (cc hz .nil fun w pz ho=>y3w _ _ _ _ zLP w pz ) ?_
  refine WL.pu rfl (WL.pu rfl ?_)
  exact WL.yC zko rfl rfl .all
 refine WL.pu rfl ?_
 refine WL.seg true 6 16 (B:=ztp) rfl rfl rfl rfl rfl rfl (fun h=>(Option.some.inj (yo zBQ h)).symm) (fun _ zLQ=>?_) ?_
 ·skip
  have zkp:=yn zBQ zLQ
  obtain ⟨zBO,zLR,zkp⟩:=z7 zkp
  replace zkp:=Option.some.inj zkp
  refine WL.qA 17 (ya y51 rfl rfl) ?_
  refine WL.qA 18 (yQ (cs:=[(.int .i64 z4b.fRate.fN),(.int .i64 z4b.fRate.fD)]) zd rfl rfl (y2G (s:=2) .h1 rfl)) ?_
  refine WL.qA 19 (ya y51 rfl rfl) ?_
  refine WL.qA 20 (yQ (cs:=[(.int .i64 z4c.fRate.fN),(.int .i64 z4c.fRate.fD)]) zd rfl rfl (y2G (s:=2) .here rfl)) ?_
  refine WL.cA 21 (za (l:=[.tmp 18,.tmp 20]) Tryz.call79 (.cons rfl (.cons rfl .nil))) .nil (cc hz .nil fun w pz ho=>y3w _ _ _ _ zLR w pz ) ?_
  refine WL.pu rfl (WL.pu rfl ?_)
  exact WL.yC zkp rfl rfl .all
 refine WL.pu rfl (WL.nil (WX.a (WC.ret ?_)))
 obtain rfl:=Option.some.inj h
 refine WX.ye Tryz.results181 (.tmp rfl .nil) (fun w hw=>?_)
 exact ⟨yD rfl,hw.sub .nil⟩
def y6t (z86 : z6) (zeM : z6) : Option Bool :=
 (y6F z86 zeM).bind fun zBR=>some zBR
set_option maxRecDepth 20000 in
theorem ybR (Z : Zp) (zBS : Addr) (z86 : z6) (zeM : z6) (r : Bool)
  (h : y6t z86 zeM = some r) (w₀ : World) (hz : PZ [] w₀ Z)
  (zLS : ZC Z zBS [(.int .i64 zeM.fBurst.fN),(.int .i64 zeM.fBurst.fD),(.int .i64 zeM.fRate.fN),(.int .i64 zeM.fRate.fD)]) :
  Calls Tryz.prog 180 #[(.agg #[(.int .i64 z86.fBurst.fN),(.int .i64 z86.fBurst.fD),(.int .i64 z86.fRate.fN),(.int .i64 z86.fRate.fD)]),(.pointer (some zBS))] w₀ fun e w'=>e = .returned (.bool r) ∧ Hp [] w₀ w' []:=by
 unfold y6t at h
 refine Calls.yJ Tryz.func180 Tryz.ntmps180 ?_
 refine WC.b (WC.a ?_)
 refine WL.nA 2 (yH (cs:=[(.int .i64 z86.fBurst.fN),(.int .i64 z86.fBurst.fD),(.int .i64 z86.fRate.fN),(.int .i64 z86.fRate.fD)]) rfl rfl) ?_
 intro zXp _
 refine WL.pu rfl (WL.nil (WX.a (WC.b ?_)))
 obtain ⟨zBR,zLT,h⟩:=z7 h
 refine WC.a ?_
 refine WL.qA 4 (yg z2u rfl (yh .here) rfl) ?_
 refine WL.qA 5 (yg z2u rfl (y1A hz.pv zLS) rfl) ?_
 refine WL.cA 6 (za (l:=[.tmp 4,.tmp 5]) Tryz.call181 (.cons rfl (.cons rfl .nil))) .nil (cc hz .nil fun w pz ho=>yaS _ _ _ _ zLT w pz ) ?_
 refine WL.pu rfl (WL.nil (WX.a (WC.ret ?_)))
 obtain rfl:=Option.some.inj h
 refine WX.ye Tryz.results180 (.tmp rfl .nil) (fun w hw=>?_)
 exact ⟨yD rfl,hw.sub .nil⟩
def y6u (z6v : z6) (z6w : z6) : Option Int :=
 (y2r z6v.fBurst z6w.fBurst).bind fun zBT=>some zBT
set_option maxRecDepth 20000 in
theorem ybS (Z : Zp)  (z6v : z6) (z6w : z6) (r : Int)
  (h : y6u z6v z6w = some r) (w₀ : World) (hz : PZ [] w₀ Z) :
  Calls Tryz.prog 183 #[(.agg #[(.int .i64 z6v.fBurst.fN),(.int .i64 z6v.fBurst.fD),(.int .i64 z6v.fRate.fN),(.int .i64 z6v.fRate.fD)]),(.agg #[(.int .i64 z6w.fBurst.fN),(.int .i64 z6w.fBurst.fD),(.int .i64 z6w.fRate.fN),(.int .i64 z6w.fRate.fD)])] w₀ fun e w'=>e = .returned (.int .i64 r) ∧ Hp [] w₀ w' []:=by
 unfold y6u at h
 refine Calls.yJ Tryz.func183 Tryz.ntmps183 ?_
 refine WC.b (WC.a ?_)
 refine WL.nA 2 (yH (cs:=[(.int .i64 z6v.fBurst.fN),(.int .i64 z6v.fBurst.fD),(.int .i64 z6v.fRate.fN),(.int .i64 z6v.fRate.fD)]) rfl rfl) ?_
 intro zXq _
 refine WL.nA 3 (yH (cs:=[(.int .i64 z6w.fBurst.fN),(.int .i64 z6w.fBurst.fD),(.int .i64 z6w.fRate.fN),(.int .i64 z6w.fRate.fD)]) rfl rfl) ?_
 intro zXr _
 refine WL.pu rfl (WL.nil (WX.a (WC.b ?_)))
 obtain ⟨zBT,zLU,h⟩:=z7 h
 refine WC.a ?_
 refine WL.qA 5 (ya y3V rfl rfl) ?_
 refine WL.qA 6 (yQ (cs:=[(.int .i64 z6v.fBurst.fN),(.int .i64 z6v.fBurst.fD)]) zd rfl rfl (y2G (s:=2) .h1 rfl)) ?_
 refine WL.qA 7 (ya y3V rfl rfl) ?_
 refine WL.qA 8 (yQ (cs:=[(.int .i64 z6w.fBurst.fN),(.int .i64 z6w.fBurst.fD)]) zd rfl rfl (y2G (s:=2) .here rfl)) ?_
 refine WL.cA 9 (za (l:=[.tmp 6,.tmp 8]) Tryz.call79 (.cons rfl (.cons rfl .nil))) .nil (cc hz .nil fun w pz ho=>y3w _ _ _ _ zLU w pz ) ?_
 refine WL.pu rfl (WL.nil (WX.a (WC.ret ?_)))
 obtain rfl:=Option.some.inj h
 refine WX.ye Tryz.results183 (.tmp rfl .nil) (fun w hw=>?_)
 exact ⟨yD rfl,hw.sub .nil⟩
theorem zLV : ∀ w,(isAgg (Tryz.y2L.t 24)).run Tryz.prog w = .ok true w:=fun _=>by kernel_rfl
theorem zLW : ∀ w,(Go.sizeOf (Tryz.y2L.t 24)).run Tryz.prog w = .ok 4 w:=fun _=>by kernel_rfl
def y44 (z4M : List z6) (zkq : Int) (zkr : Int) (zgY : Int) (zeN : z6 → z6 → Option Int) : Option (List z6):=chk ((zkq = 0 ∧ zkr = ((z4M.length : Nat) : Int)) ∧ (0 ≤ zgY ∧ zgY < 4611686018427387904 ∧ z4M.length < 4611686018427387904)) (chk (y7B zeN (y1k zeN z4M) = true) (some (y1k zeN z4M)))
theorem y6G (Z : Zp) (zeO : Option Addr) (zeP : Nat) (zks : FuncId) (ztq : List Value) (z4M : List z6) (zkq : Int) (zkr : Int) (zgY : Int) (zeN : z6 → z6 → Option Int) (r : List z6) (w₀ : World) (hz : PZ (fps [row (.slice zeO z4M.length zeP) 171 4 (z4M.flatMap y1j)]) w₀ Z)
  (zLX : ∀ args w,(callFunc zks args).run Tryz.prog w = .ok (.enter zks args) w)
  (zLY : ∀ w : World,PZ [] w Z → ∀ (x0 : z6) (x1 : z6) (r : Int),zeN x0 x1 = some r → Calls Tryz.prog zks (([(.agg #[(.int .i64 x0.fBurst.fN),(.int .i64 x0.fBurst.fD),(.int .i64 x0.fRate.fN),(.int .i64 x0.fRate.fD)]),(.agg #[(.int .i64 x1.fBurst.fN),(.int .i64 x1.fBurst.fD),(.int .i64 x1.fRate.fN),(.int .i64 x1.fRate.fD)])] : List Value) ++ ztq).toArray w fun e w'=>e = .returned (.int .i64 r) ∧ Hp [] w w' [])
  (h : y44 z4M zkq zkr zgY zeN = some r) (hown : Hp (fps [row (.slice zeO z4M.length zeP) 171 4 (z4M.flatMap y1j)]) w₀ w₀ [row (.slice zeO z4M.length zeP) 171 4 (z4M.flatMap y1j)]) :
  Calls Tryz.prog 187 #[(.slice zeO z4M.length zeP),(.int .i64 zkq),(.int .i64 zkr),(.int .i64 zgY),(.func (.func zks) #[] (ztq).toArray)] w₀ fun e w'=>e = .returned (.tuple #[]) ∧ (r.length = z4M.length) ∧ Hp (fps [row (.slice zeO z4M.length zeP) 171 4 (z4M.flatMap y1j)]) w₀ w' [row (.slice zeO r.length zeP) 171 4 (r.flatMap y1j)]:=by
 obtain ⟨h0,h⟩:=yq h
 obtain ⟨h1,h⟩:=yq h
 have hr:=(Option.some.inj h).symm
 exact y7O (P:=Tryz.prog) (f:=187) (e:=171) (k:=4) (enc:=y1j) (fun _=>rfl) (by decide) yd8 (fun β _ enc cf g cb hO blk off cap d0 w0 eg hC R=>Tryz.y7E 4 zLV zLW enc cf g cb hO blk off cap d0 w0 eg hC R) (Tryz.y7w (α:=Unit)) hz zLX zLY h0 h1 hr hown
def y2u (z4d : List z6) (zgZ : z6 → z6 → Option Int) : Option (List z6) :=
 (y5w (u64 ((z4d.length : Nat) : Int))).bind fun zn4=>(y44 z4d 0 ((z4d.length : Nat) : Int) zn4 zgZ).bind fun zn5=>some zn5
set_option maxRecDepth 20000 in
theorem y5U (Z : Zp) (zcM : Option Addr) (zcN : Nat) (zh0 : FuncId) (zn6 : List Value) (z4d : List z6) (zgZ : z6 → z6 → Option Int) (r : List z6)
  (h : y2u z4d zgZ = some r) (w₀ : World) (hz : PZ (fps [row (.slice zcM z4d.length zcN) 171 4 (z4d.flatMap y1j)]) w₀ Z)
  (zLZ : ∀ args w,(callFunc zh0 args).run Tryz.prog w = .ok (.enter zh0 args) w)
  (zM0 : ∀ w : World,PZ [] w Z → ∀ (x0 : z6) (x1 : z6) (r : Int),zgZ x0 x1 = some r → Calls Tryz.prog zh0 (([(.agg #[(.int .i64 x0.fBurst.fN),(.int .i64 x0.fBurst.fD),(.int .i64 x0.fRate.fN),(.int .i64 x0.fRate.fD)]),(.agg #[(.int .i64 x1.fBurst.fN),(.int .i64 x1.fBurst.fD),(.int .i64 x1.fRate.fN),(.int .i64 x1.fRate.fD)])] : List Value) ++ zn6).toArray w fun e w'=>e = .returned (.int .i64 r) ∧ Hp [] w w' [])
  (hown : Hp (fps [row (.slice zcM z4d.length zcN) 171 4 (z4d.flatMap y1j)]) w₀ w₀ [row (.slice zcM z4d.length zcN) 171 4 (z4d.flatMap y1j)]) :
  Calls Tryz.prog 182 #[(.slice zcM z4d.length zcN),(.func (.func zh0) #[] (zn6).toArray)] w₀ fun e w'=>e = .returned (.tuple #[]) ∧ (r.length = z4d.length) ∧ Hp (fps [row (.slice zcM z4d.length zcN) 171 4 (z4d.flatMap y1j)]) w₀ w' [row (.slice zcM r.length zcN) 171 4 (r.flatMap y1j)]:=by
 unfold y2u at h
 refine Calls.oh2 Tryz.func182 Tryz.ntmps182 hown ?_
 refine WC.b (WC.a (WL.pu rfl ?_))
 refine WL.qA 6 (yE Tryz.underlying173 rfl) ?_
 refine WL.pu rfl (WL.nil (WX.a ?_))
 obtain ⟨zn4,zM1,h⟩:=z7 h
 obtain ⟨zn5,zM2,h⟩:=z7 h
 refine WC.a (WL.pu rfl (WL.pu rfl (WL.pu rfl ?_)))
 refine WL.qA 10 (y7f Tryz.underlying3 Tryz.underlying142 rfl rfl) ?_
 refine WL.cA 11 (za (l:=[.tmp 10]) Tryz.call48 (.cons rfl .nil)) .nil (cc hz .nil fun w pz ho=>y7o (Z:=_)  (z71:=(u64 ((z4d.length : Nat) : Int))) (r:=zn4) w pz  zM1) ?_
 refine WL.pu rfl ?_
 refine WL.y4e (dd:=13) rfl rfl rfl (za (l:=[.tmp 7,.const (.int .i64 0),.tmp 8,.tmp 11,.tmp 12]) Tryz.call187 (.cons rfl (.cons rfl (.cons rfl (.cons rfl (.cons rfl .nil)))))) (.cons .here .nil) (cc hz (.cons .here .nil) fun w pz ho=>y6G (Z:=_) (zeO:=zcM) (zeP:=zcN) (zks:=zh0) (ztq:=zn6) (z4M:=z4d) (zkq:=0) (zkr:=((z4d.length : Nat) : Int)) (zgY:=zn4) (zeN:=zgZ) (r:=zn5) w pz zLZ zM0 zM2 ho) ?_
 rintro  zBU
 refine WL.repin (i:=0) rfl (u:=(.slice zcM zn5.length zcN)) (y89 zBU.symm) ?_
 refine WL.nil ?_
 obtain rfl:=Option.some.inj h
 refine WX.y4c Tryz.results182 .nil (fun w hw=>?_)
 exact ⟨y6Q,(zBU.trans rfl),hw.sub (.cons .here .nil)⟩
def y4O (zO : List z6) (zap : (List z6) → Option (List z6)) : Nat → (List z6) → Int → Option (List z6)
 | 0,_,_=>none
 | ztr + 1,z3g,zW=>if decide (zW < ((zO.length : Nat) : Int)) then jp1 (fun (z87 : List z6)=>y4O zO zap ztr z87 (i64 (zW + 1))) fun zn7=>chk ((0 : Int) ≤ zW ∧ zW < ((zO.length : Nat) : Int)) ((y2t z3g (⟨(⟨(((nth zO zW).fBurst).fN),(((nth zO zW).fBurst).fD)⟩ : z1),(⟨(((nth zO zW).fRate).fN),(((nth zO zW).fRate).fD)⟩ : z1)⟩ : z6)).bind fun zBV=>(if !zBV then (y1q zO (fun (y0 : z6)=>y6t y0 (⟨(⟨(((nth zO zW).fBurst).fN),(((nth zO zW).fBurst).fD)⟩ : z1),(⟨(((nth zO zW).fRate).fN),(((nth zO zW).fRate).fD)⟩ : z1)⟩ : z6))).bind fun zBW=>some (!zBW) else some false).bind fun zts=>if zts then chk ((((z3g ++ ([(⟨(⟨(((nth zO zW).fBurst).fN),(((nth zO zW).fBurst).fD)⟩ : z1),(⟨(((nth zO zW).fRate).fN),(((nth zO zW).fRate).fD)⟩ : z1)⟩ : z6)] : List z6)).length : Nat) : Int) * 32 ≤ 140737488355328 ∧ (((z3g ++ ([(⟨(⟨(((nth zO zW).fBurst).fN),(((nth zO zW).fBurst).fD)⟩ : z1),(⟨(((nth zO zW).fRate).fN),(((nth zO zW).fRate).fD)⟩ : z1)⟩ : z6)] : List z6)).length : Nat) : Int) ≤ 4611686018427387904) (zn7 (z3g ++ ([(⟨(⟨(((nth zO zW).fBurst).fN),(((nth zO zW).fBurst).fD)⟩ : z1),(⟨(((nth zO zW).fRate).fN),(((nth zO zW).fRate).fD)⟩ : z1)⟩ : z6)] : List z6))) else zn7 z3g) else zap z3g
theorem y9I {n : Nat} {zO : List z6} {zap : (List z6) → Option (List z6)} {z3g : List z6} {zW : Int} {r : List z6} (h : y4O zO zap n z3g zW = some r) : ∃ m,n = m + 1:=by
 cases n with
 | zero=>cases h
 | succ m=>exact ⟨m,rfl⟩
def y8B (zO : List z6) : Option (List z6) :=
 jp1 (fun (z8A : List z6)=>(y2u z8A (fun (y0 : z6) (y1 : z6)=>y6u y0 y1)).bind fun ztt=>some ztt) fun zap=>y4O zO zap yB ([] : List z6) 0
set_option maxRecDepth 20000 in
theorem ycI (Z : Zp) (zh1 : Option Addr) (zh2 : Nat) (zO : List z6) (r : List z6)
  (h : y8B zO = some r) (w₀ : World) (hz : PZ [] w₀ Z)
  (zBX : ZS Z 4 (fun r x=>r = y1j x) zh1 zh2 zO) :
  Calls Tryz.prog 169 #[(.slice zh1 zO.length zh2)] w₀ fun e w'=>∃ zBY : Option Addr,∃ zBZ : Nat,e = .returned (.slice zBY r.length zBZ) ∧ True ∧ Hp [] w₀ w' [row (.slice zBY r.length zBZ) 171 4 (r.flatMap y1j)]:=by
 unfold y8B at h
 refine Calls.on1 Tryz.func169 Tryz.ntmps169 ?_
 refine WC.b (WC.a (WL.pu rfl (WL.nil (WX.a (WC.b (WC.a (WL.pu rfl (WL.nil (WX.a ?_)))))))))
 obtain ⟨zap,zM3,h⟩:=yU h
 refine WC.y1x (fun (z8A : List z6) (zeQ : Option Addr) (zeR : Nat)=>(zap z8A = some r)) (fun z8A zeQ zeR=>[(3,(.slice zeQ z8A.length zeR))]) (fun z8A zeQ zeR=>[row (.slice zeQ z8A.length zeR) 171 4 (z8A.flatMap y1j)]) ?_ ?_
 ·skip
  refine WC.b (WC.a (WL.pu rfl ?_))
  refine WL.qA 7 (yE Tryz.underlying173 rfl) ?_
  refine WL.pu rfl (WL.nil (WX.a (WC.block ?_)))
  refine WC.nilRow 171 4 ?_
  refine WC.y4k (fun (zh3 : Nat) (z3g : List z6) (zW : Int) (zcO : Option Addr) (zcP : Nat)=>(y4O zO zap zh3 z3g zW = some r)) (fun zh3 z3g zW zcO zcP=>[(0,(.slice zh1 zO.length zh2)),(3,(.slice zcO z3g.length zcP)),(6,(.slice zh1 zO.length zh2)),(7,(.int .i64 ((zO.length : Nat) : Int))),(8,(.int .i64 zW))]) (fun zh3 z3g zW zcO zcP=>[row (.slice zcO z3g.length zcP) 171 4 (z3g.flatMap y1j)]) (fun zh3 z3g zW zcO zcP=>zh3) ⟨yB,([] : List z6),0,none,0⟩ h (.cons rfl (.cons rfl (.cons rfl (.cons rfl (.cons rfl .nil))))) (.cons .here .nil) ?_
  rintro zh3 z3g zW zcO zcP h
  obtain ⟨ztr,rfl⟩:=y9I h
  rw [y4O] at h
  refine WC.b (WC.a (WL.pu rfl (WL.nil (WX.a (WC.b ?_)))))
  refine WC.cond rfl (fun ztu=>?_) (fun ztu=>?_)
  ·replace h:=yn h ztu
   refine WC.skip (WX.a ?_)
   obtain ⟨zn7,zM4,h⟩:=yU h
   refine WC.y1x (fun (z87 : List z6) (zh4 : Option Addr) (zh5 : Nat)=>(zn7 z87 = some r)) (fun z87 zh4 zh5=>[(0,(.slice zh1 zO.length zh2)),(3,(.slice zh4 z87.length zh5)),(6,(.slice zh1 zO.length zh2)),(7,(.int .i64 ((zO.length : Nat) : Int))),(8,(.int .i64 zW))]) (fun z87 zh4 zh5=>[row (.slice zh4 z87.length zh5) 171 4 (z87.flatMap y1j)]) ?_ ?_
   ·skip
    refine WC.block (WC.b ?_)
    obtain ⟨zM5,h⟩:=yq h
    refine WC.a ?_
    refine WL.znth (dd:=10) rfl rfl (Z:=Z) (Pr:=(fun r x=>r = y1j x)) z6l rfl rfl zBX zM5 ?_
    rintro zXs zXt zM6 zXu rfl
    refine WL.qA 11 (yg z2u rfl (y1A hz.pv zM6) rfl) ?_
    refine WL.nA 5 (yv (cs:=[(.int .i64 0),(.int .i64 0),(.int .i64 0),(.int .i64 0)]) z9w rfl) ?_
    intro zM7 _
    refine WL.ym rfl rfl (yl z8m rfl rfl rfl .here rfl rfl rfl) ?_
    refine WL.nil (WX.a (WC.b ?_))
    obtain ⟨zBV,zM8,h⟩:=z7 h
    obtain ⟨zts,zC0,h⟩:=z7 h
    refine WC.a (WL.pu rfl ?_)
    refine WL.qA 13 (yg z2u rfl (yh .here) rfl) ?_
    refine WL.cA 14 (za (l:=[.tmp 12,.tmp 13]) Tryz.call179 (.cons rfl (.cons rfl .nil))) .nil (ccl hz .nil (.cons .h1 .nil) fun w pz ho la=>y5T _ _ _ _ _ _ zM8 w pz (ZA.row (la _ (.head _) _) (RR.flat (enc:=y1j) (fun _=>rfl) _) ⟨w,pz.1⟩)) ?_
    refine WL.pu rfl (WL.pu rfl ?_)
    refine WL.seg true 4 16 (B:=zts) rfl rfl rfl rfl rfl rfl (fun h=>(Option.some.inj (yo zC0 h)).symm) (fun _ zM9=>?_) ?_
    ·skip
     have zkt:=yn zC0 zM9
     obtain ⟨zBW,zMa,zkt⟩:=z7 zkt
     replace zkt:=Option.some.inj zkt
     refine WL.pu rfl ?_
     refine WL.qA 18 (yX (Eos.caps (l:=[.tmp 5]) (.cons rfl .nil))) ?_
     refine WL.cA 19 (za (l:=[.tmp 17,.tmp 18]) Tryz.call165 (.cons rfl (.cons rfl .nil))) .nil (ccl hz .nil (.cons .here .nil) fun w pz ho la=>y3h _ _ _ (zeI:=180) (zke:=[(.pointer (some ⟨zM7,0,none⟩))]) _ (zeH:=(fun (y0 : z6)=>y6t y0 (⟨(⟨(((nth zO zW).fBurst).fN),(((nth zO zW).fBurst).fD)⟩ : z1),(⟨(((nth zO zW).fRate).fN),(((nth zO zW).fRate).fD)⟩ : z1)⟩ : z6))) _ zMa w pz (zBX.mono (Zle.left _ _)) Tryz.call180 (fun w' hz' y0  r  hr=>ybR _ _ _ _ _ hr w' hz' ((la _ (.head _) _).stb))) ?_
     refine WL.pu rfl (WL.pu rfl ?_)
     exact WL.yC zkt rfl rfl .all
    refine WL.nil (WX.a ?_)
    refine WC.cond rfl (fun ztv=>?_) (fun ztv=>?_)
    ·replace h:=yn h ztv
     obtain ⟨zMb,h⟩:=yq h
     refine WC.a (WL.pu rfl ?_)
     refine WL.qA 23 (yg z2u rfl (yh .here) rfl) ?_
     refine WL.nA 24 (yS (cs:=([(⟨(⟨(((nth zO zW).fBurst).fN),(((nth zO zW).fBurst).fD)⟩ : z1),(⟨(((nth zO zW).fRate).fN),(((nth zO zW).fRate).fD)⟩ : z1)⟩ : z6)] : List z6).flatMap y1j) z6l (Eos.parts (l:=[.tmp 23]) (.cons rfl .nil) [0]) (fun _=>by kernel_rfl) rfl (by unfold maxLen; omega)) ?_
     intro zXv _
     refine WL.fA 25 (y4f (enc:=y1j) (l1:=z3g) (l2:=([(⟨(⟨(((nth zO zW).fBurst).fN),(((nth zO zW).fBurst).fD)⟩ : z1),(⟨(((nth zO zW).fRate).fN),(((nth zO zW).fRate).fD)⟩ : z1)⟩ : z6)] : List z6)) z6l rfl rfl .h2 (fun _=>rfl) rfl rfl (y3C .here) (y4C yd8 _) zMb) ?_
     rintro ⟨zMc,zMd⟩ _
     refine WL.pu rfl (WL.nil (WX.yj ?_))
     exact WX.mid (G:=List z6 × Option Addr × Nat) ⟨(z3g ++ ([(⟨(⟨(((nth zO zW).fBurst).fN),(((nth zO zW).fBurst).fD)⟩ : z1),(⟨(((nth zO zW).fRate).fN),(((nth zO zW).fRate).fD)⟩ : z1)⟩ : z6)] : List z6)),zMc,zMd⟩ h (.cons rfl (.cons rfl (.cons rfl (.cons rfl (.cons rfl .nil))))) (.cons .here .nil)
    ·replace h:=yo h ztv
     refine WC.skip (WX.yj ?_)
     exact WX.mid (G:=List z6 × Option Addr × Nat) ⟨z3g,zcO,zcP⟩ h (.cons rfl (.cons rfl (.cons rfl (.cons rfl (.cons rfl .nil))))) (.cons .h1 .nil)
   ·rintro z87 zh4 zh5 h
    replace h:=(zM4 z87).symm.trans h
    refine WC.a (WL.pu rfl (WL.pu rfl (WL.nil ?_)))
    exact WX.round (G:=Nat × List z6 × Int × Option Addr × Nat) ⟨ztr,z87,(i64 (zW + 1)),zh4,zh5⟩ h (Nat.lt_succ_self _) (.cons rfl (.cons rfl (.cons rfl (.cons rfl (.cons rfl .nil))))) (.cons .here .nil)
  ·replace h:=yo h ztu
   refine WC.exit (WX.yf (WX.yf (WX.yz ?_)))
   exact WX.mid (G:=List z6 × Option Addr × Nat) ⟨z3g,zcO,zcP⟩ h (.cons rfl .nil) (.cons .here .nil)
 ·rintro z8A zeQ zeR h
  replace h:=(zM3 z8A).symm.trans h
  refine WC.b ?_
  obtain ⟨ztt,zMe,h⟩:=z7 h
  refine WC.a (WL.pu rfl ?_)
  refine WL.y4e (dd:=28) rfl rfl rfl (za (l:=[.tmp 27,.func 183]) Tryz.call182 (.cons rfl (.cons rfl .nil))) (.cons .here .nil) (cc hz (.cons .here .nil) fun w pz ho=>y5U _ _ _ (zh0:=183) (zn6:=[]) _ (zgZ:=(fun (y0 : z6) (y1 : z6)=>y6u y0 y1)) _ zMe w pz Tryz.call183 (fun w' hz' y0 y1  r  hr=>ybS _ _ _ _ hr w' hz' ) ho) ?_
  rintro  zMf
  refine WL.repin (i:=3) rfl (u:=(.slice zeQ ztt.length zeR)) (y89 zMf.symm) ?_
  refine WL.nil (WX.a (WC.b (WC.a (WL.pu rfl (WL.pu rfl (WL.nil (WX.a (WC.ret ?_))))))))
  obtain rfl:=Option.some.inj h
  refine WX.ye Tryz.results169 (.tmp rfl .nil) (fun w hw=>?_)
  exact ⟨zeQ,zeR,yD rfl,trivial,hw.sub (.cons .here .nil)⟩
def y8a (zh6 : List z6) (zh7 : List z6) : Option (List z6 × List z6) :=
 some (zh6,zh7)
set_option maxRecDepth 20000 in
theorem yck (Z : Zp) (zn8 : Option Addr) (zn9 : Nat) (zna : Option Addr) (znb : Nat) (zh6 : List z6) (zh7 : List z6) (r : List z6 × List z6)
  (h : y8a zh6 zh7 = some r) (w₀ : World) (hz : PZ [] w₀ Z)
  (zMg : ZS Z 4 (fun r x=>r = y1j x) zn8 zn9 zh6)
  (zMh : ZS Z 4 (fun r x=>r = y1j x) zna znb zh7) :
  Calls Tryz.prog 170 #[(.slice zn8 zh6.length zn9),(.slice zna zh7.length znb)] w₀ fun e w'=>∃ zC1 : Nat,∃ zC2 : Nat,∃ zC3 : Option Addr,∃ zC4 : Nat,∃ zC5 : Option Addr,∃ zC6 : Nat,e = .returned (.func (.func 184) #[] #[(.pointer (some ⟨zC1,0,none⟩)),(.pointer (some ⟨zC2,0,none⟩))]) ∧ ((ZS Z 4 (fun r x=>r = y1j x) zC3 zC4 r.1) ∧ (ZS Z 4 (fun r x=>r = y1j x) zC5 zC6 r.2)) ∧ Hp [] w₀ w' [stb zC1 173 [(.slice zC3 r.1.length zC4)],stb zC2 173 [(.slice zC5 r.2.length zC6)]]:=by
 unfold y8a at h
 refine Calls.yJ Tryz.func170 Tryz.ntmps170 ?_
 refine WC.b (WC.a ?_)
 refine WL.nA 2 (yH (cs:=[(.slice zn8 zh6.length zn9)]) rfl rfl) ?_
 intro zMi _
 refine WL.nA 3 (yH (cs:=[(.slice zna zh7.length znb)]) rfl rfl) ?_
 intro zMj _
 refine WL.pu rfl (WL.nil (WX.a (WC.b (WC.a ?_))))
 refine WL.qA 5 (yX (Eos.caps (l:=[.tmp 2,.tmp 3]) (.cons rfl (.cons rfl .nil)))) ?_
 refine WL.pu rfl (WL.nil (WX.a (WC.ret ?_)))
 obtain rfl:=Option.some.inj h
 refine WX.ye Tryz.results170 (.tmp rfl .nil) (fun w hw=>?_)
 exact ⟨zMi,zMj,zn8,zn9,zna,znb,yD rfl,⟨zMg,zMh⟩,hw.sub (.cons .h1 (.cons .here .nil))⟩
def y3L (zH : Type) (z1Y : List z6) (z4N : (z6 × z6) → zH → Option (Bool × zH)) (z1t : List z6) (z1A : Int) (zaq : zH → Option zH) : Nat → Int → zH → Option zH
 | 0,_,_=>none
 | ztw + 1,z30,z5e=>if decide (z30 < ((z1Y.length : Nat) : Int)) then chk ((0 : Int) ≤ z30 ∧ z30 < ((z1Y.length : Nat) : Int)) ((z4N ((⟨(⟨(((nth z1t z1A).fBurst).fN),(((nth z1t z1A).fBurst).fD)⟩ : z1),(⟨(((nth z1t z1A).fRate).fN),(((nth z1t z1A).fRate).fD)⟩ : z1)⟩ : z6),(⟨(⟨(((nth z1Y z30).fBurst).fN),(((nth z1Y z30).fBurst).fD)⟩ : z1),(⟨(((nth z1Y z30).fRate).fN),(((nth z1Y z30).fRate).fD)⟩ : z1)⟩ : z6)) z5e).bind fun zeS=>if !zeS.1 then some zeS.2 else y3L zH z1Y z4N z1t z1A zaq ztw (i64 (z30 + 1)) zeS.2) else zaq z5e
theorem y8K {n : Nat} {zH : Type} {z1Y : List z6} {z4N : (z6 × z6) → zH → Option (Bool × zH)} {z1t : List z6} {z1A : Int} {zaq : zH → Option zH} {z30 : Int} {z5e : zH} {r : zH} (h : y3L zH z1Y z4N z1t z1A zaq n z30 z5e = some r) : ∃ m,n = m + 1:=by
 cases n with
 | zero=>cases h
 | succ m=>exact ⟨m,rfl⟩
def y3M (zH : Type) (z1t : List z6) (z1Y : List z6) (z4N : (z6 × z6) → zH → Option (Bool × zH)) (zar : zH → Option zH) : Nat → Int → zH → Option zH
 | 0,_,_=>none
 | ztx + 1,z1A,z60=>if decide (z1A < ((z1t.length : Nat) : Int)) then jp1 (fun (z8B : zH)=>y3M zH z1t z1Y z4N zar ztx (i64 (z1A + 1)) z8B) fun zty=>chk ((0 : Int) ≤ z1A ∧ z1A < ((z1t.length : Nat) : Int)) (jp1 (fun (z8C : zH)=>zty z8C) fun zaq=>y3L zH z1Y z4N z1t z1A zaq yB 0 z60) else zar z60
theorem y8L {n : Nat} {zH : Type} {z1t : List z6} {z1Y : List z6} {z4N : (z6 × z6) → zH → Option (Bool × zH)} {zar : zH → Option zH} {z1A : Int} {z60 : zH} {r : zH} (h : y3M zH z1t z1Y z4N zar n z1A z60 = some r) : ∃ m,n = m + 1:=by
 cases n with
 | zero=>cases h
 | succ m=>exact ⟨m,rfl⟩
def y7r (zH : Type) (z4N : (z6 × z6) → zH → Option (Bool × zH)) (s0_32956 : zH) (z1t : List z6) (z1Y : List z6) : Option zH :=
 jp1 (fun (zas : zH)=>some zas) fun zar=>y3M zH z1t z1Y z4N zar yB 0 s0_32956
set_option maxRecDepth 20000 in
theorem yby (Z : Zp) (zH : Type) (zeT : Nat) (z5f : Type) (z61 : z5f → zH → Asrt) (zat : z5f → zH → Prop) (zeU : z5f) (ztz : Addr) (zeV : Option Addr) (zeW : Nat) (zeX : Addr) (znc : Option Addr) (znd : Nat) (z4N : (z6 × z6) → zH → Option (Bool × zH)) (s0_32956 : zH) (z1t : List z6) (z1Y : List z6) (r : zH) (w₀ : World) (hz : PZ (fps [z61 zeU s0_32956]) w₀ Z)
  (zMk : yag Tryz.prog Z zeT (α:=z6 × z6) (σ:=zH) (G:=z5f) (H:=Unit) (fun h x=>[(.agg #[(.int .i64 x.1.fBurst.fN),(.int .i64 x.1.fBurst.fD),(.int .i64 x.1.fRate.fN),(.int .i64 x.1.fRate.fD)]),(.agg #[(.int .i64 x.2.fBurst.fN),(.int .i64 x.2.fBurst.fD),(.int .i64 x.2.fRate.fN),(.int .i64 x.2.fRate.fD)])]) (fun h x=>[]) z4N z61 zat)
  (zMl : zat zeU s0_32956)
  (zMm : ZS Z 4 (fun r x=>r = y1j x) zeV zeW z1t)
  (zMn : ZC Z ztz [(.slice zeV z1t.length zeW)])
  (zMo : ZS Z 4 (fun r x=>r = y1j x) znc znd z1Y)
  (zMp : ZC Z zeX [(.slice znc z1Y.length znd)])
  (h : y7r zH z4N s0_32956 z1t z1Y = some r)
  (hown : Hp (fps [z61 zeU s0_32956]) w₀ w₀ [z61 zeU s0_32956]) :
  Calls Tryz.prog 184 #[(.func (.yield zeT) #[] #[]),(.pointer (some ztz)),(.pointer (some zeX))] w₀ fun e w'=>∃ zC7 : z5f,e = .returned (.tuple #[]) ∧ (zat zC7 r) ∧ Hp (fps [z61 zeU s0_32956]) w₀ w' [z61 zC7 r]:=by
 unfold y7r at h
 refine Calls.oh3 Tryz.func184 Tryz.ntmps184 hown ?_
 refine WC.b (WC.a ?_)
 refine WL.qA 8 (yc zbV rfl (y48 hz.pv zMn rfl)) ?_
 refine WL.qA 9 (yE Tryz.underlying173 rfl) ?_
 refine WL.pu rfl (WL.nil (WX.a ?_))
 obtain ⟨zar,zMq,h⟩:=yU h
 refine WC.y8l (fun (zas : zH) (zh8 : z5f)=>(zar zas = some r) ∧ (zat zh8 zas)) (fun zas zh8=>[]) (fun zas zh8=>[z61 zh8 zas]) ?_ ?_
 ·skip
  refine WC.block ?_
  refine WC.y5t (fun (zh9 : Nat) (z1A : Int) (z60 : zH) (zcQ : z5f)=>(y3M zH z1t z1Y z4N zar zh9 z1A z60 = some r) ∧ (zat zcQ z60)) (fun zh9 z1A z60 zcQ=>[(0,(.func (.yield zeT) #[] #[])),(2,(.pointer (some zeX))),(8,(.slice zeV z1t.length zeW)),(9,(.int .i64 ((z1t.length : Nat) : Int))),(10,(.int .i64 z1A))]) (fun zh9 z1A z60 zcQ=>[z61 zcQ z60]) (fun zh9 z1A z60 zcQ=>zh9) ⟨yB,0,s0_32956,zeU⟩ ⟨h,zMl⟩ (.cons rfl (.cons rfl (.cons rfl (.cons rfl (.cons rfl .nil))))) (.cons .here .nil) ?_
  rintro zh9 z1A z60 zcQ ⟨h,zC8⟩
  obtain ⟨ztx,rfl⟩:=y8L h
  rw [y3M] at h
  refine WC.b (WC.a (WL.pu rfl (WL.nil (WX.a (WC.b ?_)))))
  refine WC.cond rfl (fun ztA=>?_) (fun ztA=>?_)
  ·replace h:=yn h ztA
   refine WC.skip (WX.a ?_)
   obtain ⟨zty,zMr,h⟩:=yU h
   refine WC.y6i (fun (z8B : zH) (zha : z5f)=>(zty z8B = some r) ∧ (zat zha z8B)) (fun z8B zha=>[(0,(.func (.yield zeT) #[] #[])),(2,(.pointer (some zeX))),(8,(.slice zeV z1t.length zeW)),(9,(.int .i64 ((z1t.length : Nat) : Int))),(10,(.int .i64 z1A))]) (fun z8B zha=>[z61 zha z8B]) ?_ ?_
   ·skip
    refine WC.block (WC.b ?_)
    obtain ⟨zMs,h⟩:=yq h
    refine WC.a ?_
    refine WL.znth (dd:=12) rfl rfl (Z:=Z) (Pr:=(fun r x=>r = y1j x)) z6l rfl rfl zMm zMs ?_
    rintro zXw zXx zMt zXy rfl
    refine WL.qA 13 (yg z2u rfl (y1A hz.pv zMt) rfl) ?_
    refine WL.nA 5 (yv (cs:=[(.int .i64 0),(.int .i64 0),(.int .i64 0),(.int .i64 0)]) z9w rfl) ?_
    intro zC9 _
    refine WL.ym rfl rfl (yl z8m rfl rfl rfl .here rfl rfl rfl) ?_
    refine WL.nil (WX.a (WC.b (WC.a ?_)))
    refine WL.qA 14 (yc zbV rfl (y48 hz.pv zMp rfl)) ?_
    refine WL.qA 15 (yE Tryz.underlying173 rfl) ?_
    refine WL.pu rfl (WL.nil (WX.a ?_))
    obtain ⟨zaq,zMu,h⟩:=yU h
    refine WC.y8l (fun (z8C : zH) (zhb : z5f)=>(zaq z8C = some r) ∧ (zat zhb z8C)) (fun z8C zhb=>[(0,(.func (.yield zeT) #[] #[])),(2,(.pointer (some zeX))),(8,(.slice zeV z1t.length zeW)),(9,(.int .i64 ((z1t.length : Nat) : Int))),(10,(.int .i64 z1A))]) (fun z8C zhb=>[z61 zhb z8C]) ?_ ?_
    ·skip
     refine WC.block ?_
     refine WC.y5t (fun (zhc : Nat) (z30 : Int) (z5e : zH) (z8D : z5f)=>(y3L zH z1Y z4N z1t z1A zaq zhc z30 z5e = some r) ∧ (zat z8D z5e)) (fun zhc z30 z5e z8D=>[(0,(.func (.yield zeT) #[] #[])),(2,(.pointer (some zeX))),(5,(.pointer (some ⟨zC9,0,none⟩))),(8,(.slice zeV z1t.length zeW)),(9,(.int .i64 ((z1t.length : Nat) : Int))),(10,(.int .i64 z1A)),(14,(.slice znc z1Y.length znd)),(15,(.int .i64 ((z1Y.length : Nat) : Int))),(16,(.int .i64 z30))]) (fun zhc z30 z5e z8D=>[stb zC9 171 [(.int .i64 (((nth z1t z1A).fBurst).fN)),(.int .i64 (((nth z1t z1A).fBurst).fD)),(.int .i64 (((nth z1t z1A).fRate).fN)),(.int .i64 (((nth z1t z1A).fRate).fD))],z61 z8D z5e]) (fun zhc z30 z5e z8D=>zhc) ⟨yB,0,z60,zcQ⟩ ⟨h,zC8⟩ (.cons rfl (.cons rfl (.cons rfl (.cons rfl (.cons rfl (.cons rfl (.cons rfl (.cons rfl (.cons rfl .nil))))))))) (.cons .here (.cons .here .nil)) ?_
     rintro zhc z30 z5e z8D ⟨h,zCa⟩
     obtain ⟨ztw,rfl⟩:=y8K h
     rw [y3L] at h
     refine WC.b (WC.a (WL.pu rfl (WL.nil (WX.a (WC.b ?_)))))
     refine WC.cond rfl (fun ztB=>?_) (fun ztB=>?_)
     ·replace h:=yn h ztB
      refine WC.skip (WX.a (WC.b (WC.block (WC.b ?_))))
      obtain ⟨zMv,h⟩:=yq h
      refine WC.a ?_
      refine WL.znth (dd:=18) rfl rfl (Z:=Z) (Pr:=(fun r x=>r = y1j x)) z6l rfl rfl zMo zMv ?_
      rintro zXz zXA zMw zXB rfl
      refine WL.qA 19 (yg z2u rfl (y1A hz.pv zMw) rfl) ?_
      refine WL.nA 7 (yv (cs:=[(.int .i64 0),(.int .i64 0),(.int .i64 0),(.int .i64 0)]) z9w rfl) ?_
      intro zXC _
      refine WL.ym rfl rfl (yl z8m rfl rfl rfl .here rfl rfl rfl) ?_
      refine WL.nil (WX.a (WC.b ?_))
      obtain ⟨zeS,zMx,h⟩:=z7 h
      refine WC.a (WL.pu rfl ?_)
      refine WL.qA 21 (yg z2u rfl (yh .h1) rfl) ?_
      refine WL.qA 22 (yg z2u rfl (yh .here) rfl) ?_
      refine WL.yield (dd:=23) (x:=((⟨(⟨(((nth z1t z1A).fBurst).fN),(((nth z1t z1A).fBurst).fD)⟩ : z1),(⟨(((nth z1t z1A).fRate).fN),(((nth z1t z1A).fRate).fD)⟩ : z1)⟩ : z6),(⟨(⟨(((nth z1Y z30).fBurst).fN),(((nth z1Y z30).fBurst).fD)⟩ : z1),(⟨(((nth z1Y z30).fRate).fN),(((nth z1Y z30).fRate).fD)⟩ : z1)⟩ : z6))) (h:=()) (g:=z8D) (s:=z5e) (b:=zeS.1) (s':=zeS.2) zMk rfl rfl rfl (.cons rfl (.cons rfl .nil)) ((.cons .h2 .nil) : Sel _ [z61 z8D z5e] _) zMx zCa (fun w hw=>hz.call hw ((.cons .h2 .nil) : Sel _ [z61 z8D z5e] _)) ?_
      intro zCb zCc
      refine WL.pu rfl (WL.nil (WX.a ?_))
      refine WC.cond rfl (fun ztC=>?_) (fun ztC=>?_)
      ·replace h:=yn h ztC
       refine WC.ret (WX.ys (WX.yd (WX.yd (WX.ys (WX.yd (WX.ys (WX.yd (WX.yd (WX.ys (WX.yd ?_))))))))))
       obtain rfl:=Option.some.inj h
       refine WX.ye Tryz.results184 .nil (fun w hw=>?_)
       exact ⟨zCb,y6Q,zCc,hw.sub (.cons .here .nil)⟩
      ·replace h:=yo h ztC
       refine WC.skip (WX.yj (WX.a (WC.a (WL.pu rfl (WL.pu rfl (WL.nil ?_))))))
       exact WX.round (G:=Nat × Int × zH × z5f) ⟨ztw,(i64 (z30 + 1)),zeS.2,zCb⟩ ⟨h,zCc⟩ (Nat.lt_succ_self _) (.cons rfl (.cons rfl (.cons rfl (.cons rfl (.cons rfl (.cons rfl (.cons rfl (.cons rfl (.cons rfl .nil))))))))) (.cons .h2 (.cons .here .nil))
     ·replace h:=yo h ztB
      refine WC.exit (WX.yf (WX.yf (WX.yz ?_)))
      exact WX.mid (G:=zH × z5f) ⟨z5e,z8D⟩ ⟨h,zCa⟩ (.cons rfl (.cons rfl (.cons rfl (.cons rfl (.cons rfl .nil))))) (.cons .h1 .nil)
    ·rintro z8C zhb ⟨h,zMy⟩
     replace h:=(zMu z8C).symm.trans h
     refine WX.yj ?_
     exact WX.mid (G:=zH × z5f) ⟨z8C,zhb⟩ ⟨h,zMy⟩ (.cons rfl (.cons rfl (.cons rfl (.cons rfl (.cons rfl .nil))))) (.cons .here .nil)
   ·rintro z8B zha ⟨h,zMz⟩
    replace h:=(zMr z8B).symm.trans h
    refine WC.a (WL.pu rfl (WL.pu rfl (WL.nil ?_)))
    exact WX.round (G:=Nat × Int × zH × z5f) ⟨ztx,(i64 (z1A + 1)),z8B,zha⟩ ⟨h,zMz⟩ (Nat.lt_succ_self _) (.cons rfl (.cons rfl (.cons rfl (.cons rfl (.cons rfl .nil))))) (.cons .here .nil)
  ·replace h:=yo h ztA
   refine WC.exit (WX.yf (WX.yf (WX.yz ?_)))
   exact WX.mid (G:=zH × z5f) ⟨z60,zcQ⟩ ⟨h,zC8⟩ .nil (.cons .here .nil)
 ·rintro zas zh8 ⟨h,zMA⟩
  replace h:=(zMq zas).symm.trans h
  obtain rfl:=Option.some.inj h
  refine WX.y4c Tryz.results184 .nil (fun w hw=>?_)
  exact ⟨zh8,y6Q,zMA,hw.sub (.cons .here .nil)⟩
def y9J (zeY : z1) (zeZ : z1) : Option (Int × Int) :=
 some ((i64 ((i64 (zeY.fN * zeZ.fD)) - (i64 (zeZ.fN * zeY.fD)))),(i64 (zeY.fD * zeZ.fD)))
set_option maxRecDepth 20000 in
theorem ydC (Z : Zp) (zCd : Addr) (zCe : Addr) (zeY : z1) (zeZ : z1) (r : Int × Int)
  (h : y9J zeY zeZ = some r) (w₀ : World) (hz : PZ [] w₀ Z)
  (ztD : ZC Z zCd [(.int .i64 zeY.fN),(.int .i64 zeY.fD)])
  (ztE : ZC Z zCe [(.int .i64 zeZ.fN),(.int .i64 zeZ.fD)]) :
  Calls Tryz.prog 142 #[(.pointer (some zCd)),(.pointer (some zCe))] w₀ fun e w'=>e = .returned (.tuple #[(.int .i64 r.1),(.int .i64 r.2)]) ∧ Hp [] w₀ w' []:=by
 unfold y9J at h
 refine Calls.yJ Tryz.func142 Tryz.ntmps142 ?_
 refine WC.b (WC.a (WL.pu rfl (WL.pu rfl (WL.nil (WX.a (WC.b ?_))))))
 refine WC.yL (fun i=>[].contains i) [] rfl ?_
 refine WD.pA 0 4 rfl (fun _=>ya y1K rfl rfl) ?_
 refine WD.qA 1 5 rfl (yc yt rfl (y11 hz.pv ztD rfl)) ?_
 refine WD.pA 2 6 rfl (fun _=>ya y2a rfl rfl) ?_
 refine WD.qA 3 7 rfl (yc yt rfl (y11 hz.pv ztE rfl)) ?_
 refine WD.pA 4 8 rfl (fun _=>y6g rfl rfl rfl) ?_
 refine WD.pA 5 9 rfl (fun _=>ya y1K rfl rfl) ?_
 refine WD.qA 6 10 rfl (yc yt rfl (y11 hz.pv ztE rfl)) ?_
 refine WD.pA 7 11 rfl (fun _=>ya y2a rfl rfl) ?_
 refine WD.qA 8 12 rfl (yc yt rfl (y11 hz.pv ztD rfl)) ?_
 refine WD.pA 9 13 rfl (fun _=>y6g rfl rfl rfl) ?_
 refine WD.pA 10 14 rfl (fun _=>ybj rfl rfl rfl) ?_
 refine WD.pA 11 15 rfl (fun _=>ya y2a rfl rfl) ?_
 refine WD.qA 12 16 rfl (yc yt rfl (y11 hz.pv ztD rfl)) ?_
 refine WD.pA 13 17 rfl (fun _=>ya y2a rfl rfl) ?_
 refine WD.qA 14 18 rfl (yc yt rfl (y11 hz.pv ztE rfl)) ?_
 refine WD.pA 15 19 rfl (fun _=>y6g rfl rfl rfl) ?_
 refine WD.pA 16 2 rfl (fun _=>q_z rfl) ?_
 refine WD.pA 17 3 rfl (fun _=>q_z rfl) ?_
 refine WD.done (by kernel_rfl) ?_
 refine WX.a (WC.ret ?_)
 obtain rfl:=Option.some.inj h
 refine WX.ye Tryz.results142 (.tmp rfl (.tmp rfl .nil)) (fun w hw=>?_)
 exact ⟨y1z rfl rfl,hw.sub .nil⟩
def yaw (zcR : z1) (zcS : z1) : Option (z1 × Int) :=
 (y1y zcR).bind fun zCf=>(if !zCf then some true else (y1y zcS).bind fun zCg=>some (!zCg)).bind fun zne=>if zne then some ((⟨0,0⟩ : z1),2) else (y9J zcR zcS).bind fun ztF=>(y5z ztF.1 ztF.2).bind fun ztG=>some (ztG.1,ztG.2)
set_option maxRecDepth 20000 in
theorem ye1 (Z : Zp)  (zcR : z1) (zcS : z1) (r : z1 × Int)
  (h : yaw zcR zcS = some r) (w₀ : World) (hz : PZ [] w₀ Z) :
  Calls Tryz.prog 105 #[(.string ⟨#[45]⟩),(.agg #[(.int .i64 zcR.fN),(.int .i64 zcR.fD)]),(.agg #[(.int .i64 zcS.fN),(.int .i64 zcS.fD)])] w₀ fun e w'=>e = .returned (.tuple #[(.agg #[(.int .i64 r.1.fN),(.int .i64 r.1.fD)]),(.int .i64 r.2)]) ∧ Hp [] w₀ w' []:=by
 unfold yaw at h
 refine Calls.on3 Tryz.func105 Tryz.ntmps105 ?_
 refine WC.b (WC.a ?_)
 refine WL.nA 4 (yH (cs:=[(.int .i64 zcR.fN),(.int .i64 zcR.fD)]) rfl rfl) ?_
 intro zku _
 refine WL.nA 5 (yH (cs:=[(.int .i64 zcS.fN),(.int .i64 zcS.fD)]) rfl rfl) ?_
 intro zkv _
 refine WL.nA 6 (yv (cs:=[(.int .i64 0),(.int .i64 0)]) zP rfl) ?_
 intro zXD _
 refine WL.pu rfl (WL.nil (WX.a (WC.b (WC.b ?_))))
 obtain ⟨zCf,zMB,h⟩:=z7 h
 obtain ⟨zne,zCh,h⟩:=z7 h
 refine WC.a ?_
 refine WL.qA 9 (yg zd rfl (yh .h2) rfl) ?_
 refine WL.cA 10 (za (l:=[.tmp 9]) Tryz.call80 (.cons rfl .nil)) .nil (cc hz .nil fun w pz ho=>y1T _ _ _ zMB w pz ) ?_
 refine WL.pu rfl (WL.pu rfl ?_)
 refine WL.seg false 3 12 (B:=zne) rfl rfl rfl rfl rfl rfl (fun h=>(Option.some.inj (yn zCh h)).symm) (fun _ zMC=>?_) ?_
 ·skip
  have zkw:=yo zCh zMC
  obtain ⟨zCg,zMD,zkw⟩:=z7 zkw
  replace zkw:=Option.some.inj zkw
  refine WL.qA 13 (yg zd rfl (yh .h1) rfl) ?_
  refine WL.cA 14 (za (l:=[.tmp 13]) Tryz.call80 (.cons rfl .nil)) .nil (cc hz .nil fun w pz ho=>y1T _ _ _ zMD w pz ) ?_
  refine WL.pu rfl (WL.pu rfl ?_)
  exact WL.yC zkw rfl rfl .all
 refine WL.pu rfl ?_
 refine WL.seg false 7 17 (B:=zne) rfl rfl rfl rfl rfl rfl (fun h=>h) (fun _ zME=>?_) ?_
 ·skip
  refine WL.pu rfl ?_
  refine WL.qA 19 (yaJ (r:=false) (by decide) rfl rfl) ?_
  refine WL.pu rfl (WL.e rfl rfl rfl (WL.e rfl rfl rfl (WL.e rfl rfl rfl (WL.pu rfl (WL.pu rfl ?_)))))
  exact WL.yC (Eq.symm zME) rfl rfl .all
 refine WL.nil (WX.a ?_)
 refine WC.cond rfl (fun ztH=>?_) (fun ztH=>?_)
 ·replace h:=yn h ztH
  refine WC.b (WC.a ?_)
  refine WL.qA 26 (yI (v:=(.agg #[(.int .i64 0),(.int .i64 0)])) (Eos.parts (l:=[]) .nil []) (fun _=>by kernel_rfl)) ?_
  refine WL.ym rfl rfl (yl zu rfl rfl rfl .here rfl rfl rfl) ?_
  refine WL.pu rfl (WL.nil (WX.a (WC.ret (WX.yd ?_))))
  obtain rfl:=Option.some.inj h
  refine WX.ye Tryz.results105 (.agg rfl zd rfl (yh .here) (.tmp rfl .nil)) (fun w hw=>?_)
  exact ⟨y1z rfl rfl,hw.sub .nil⟩
 ·replace h:=yo h ztH
  refine WC.skip (WX.a (WC.b (WC.a ?_)))
  refine WL.nA 27 (y3e Value.string (fun x=>x)) ?_
  intro zXE _
  refine WL.qA 28 (yX (Eos.caps (l:=[.tmp 4,.tmp 5]) (.cons rfl (.cons rfl .nil)))) ?_
  refine WL.ym rfl rfl (y2W (k:=⟨#[43]⟩) (v:=(.func (.func 141) #[] #[(.pointer (some ⟨zku,0,none⟩)),(.pointer (some ⟨zkv,0,none⟩))])) y3g Tryz.underlying258 rfl rfl rfl rfl .here) ?_
  refine WL.qA 29 (yX (Eos.caps (l:=[.tmp 4,.tmp 5]) (.cons rfl (.cons rfl .nil)))) ?_
  refine WL.ym rfl rfl (y2W (k:=⟨#[45]⟩) (v:=(.func (.func 142) #[] #[(.pointer (some ⟨zku,0,none⟩)),(.pointer (some ⟨zkv,0,none⟩))])) y3g Tryz.underlying258 rfl rfl rfl rfl .here) ?_
  refine WL.qA 30 (yX (Eos.caps (l:=[.tmp 4,.tmp 5]) (.cons rfl (.cons rfl .nil)))) ?_
  refine WL.ym rfl rfl (y2W (k:=⟨#[42]⟩) (v:=(.func (.func 143) #[] #[(.pointer (some ⟨zku,0,none⟩)),(.pointer (some ⟨zkv,0,none⟩))])) y3g Tryz.underlying258 rfl rfl rfl rfl .here) ?_
  refine WL.qA 31 (yX (Eos.caps (l:=[.tmp 4,.tmp 5]) (.cons rfl (.cons rfl .nil)))) ?_
  refine WL.ym rfl rfl (y2W (k:=⟨#[47]⟩) (v:=(.func (.func 144) #[] #[(.pointer (some ⟨zku,0,none⟩)),(.pointer (some ⟨zkv,0,none⟩))])) y3g Tryz.underlying258 rfl rfl rfl rfl .here) ?_
  refine WL.pu rfl (WL.pu rfl (WL.nil (WX.a (WC.b ?_))))
  obtain ⟨ztF,zMF,h⟩:=z7 h
  obtain ⟨ztG,zMG,h⟩:=z7 h
  refine WC.a (WL.pu rfl (WL.pu rfl ?_))
  refine WL.qA 35 (yaI (k:=⟨#[45]⟩) (dflt:=.nilFunc) (r:=(.func (.func 142) #[] #[(.pointer (some ⟨zku,0,none⟩)),(.pointer (some ⟨zkv,0,none⟩))])) y3g Tryz.underlying258 zm4 rfl rfl rfl .here (by rfl)) ?_
  refine WL.cA 36 (y27 (l:=[]) Tryz.call142 rfl .nil) .nil (ccl hz .nil (.cons .h3 (.cons .h2 .nil)) fun w pz ho la=>ydC _ _ _ _ _ _ zMF w pz ((la _ (.head _) _).stb) ((la _ (.tail _ (.head _)) _).stb)) ?_
  refine WL.pu rfl (WL.pu rfl ?_)
  refine WL.cA 39 (za (l:=[.tmp 37,.tmp 38]) Tryz.call106 (.cons rfl (.cons rfl .nil))) .nil (cc hz .nil fun w pz ho=>y7q _ _ _ _ zMG w pz ) ?_
  refine WL.pu rfl (WL.pu rfl ?_)
  refine WL.ym rfl rfl (yl zu rfl rfl rfl .h1 rfl rfl rfl) ?_
  refine WL.pu rfl (WL.nil (WX.a (WC.ret ?_)))
  obtain rfl:=Option.some.inj h
  refine WX.ye Tryz.results105 (.agg rfl zd rfl (yh .here) (.tmp rfl .nil)) (fun w hw=>?_)
  exact ⟨y1z rfl rfl,hw.sub .nil⟩
def y3x (zf0 : z1) (zf1 : z1) : Option (z1 × Int) :=
 (yaw zf0 zf1).bind fun ztI=>some (ztI.1,ztI.2)
set_option maxRecDepth 20000 in
theorem y7V (Z : Zp)  (zf0 : z1) (zf1 : z1) (r : z1 × Int)
  (h : y3x zf0 zf1 = some r) (w₀ : World) (hz : PZ [] w₀ Z) :
  Calls Tryz.prog 74 #[(.agg #[(.int .i64 zf0.fN),(.int .i64 zf0.fD)]),(.agg #[(.int .i64 zf1.fN),(.int .i64 zf1.fD)])] w₀ fun e w'=>e = .returned (.tuple #[(.agg #[(.int .i64 r.1.fN),(.int .i64 r.1.fD)]),(.int .i64 r.2)]) ∧ Hp [] w₀ w' []:=by
 unfold y3x at h
 refine Calls.yJ Tryz.func74 Tryz.ntmps74 ?_
 refine WC.b (WC.a ?_)
 refine WL.nA 2 (yH (cs:=[(.int .i64 zf0.fN),(.int .i64 zf0.fD)]) rfl rfl) ?_
 intro zXF _
 refine WL.nA 3 (yH (cs:=[(.int .i64 zf1.fN),(.int .i64 zf1.fD)]) rfl rfl) ?_
 intro zXG _
 refine WL.nA 4 (yv (cs:=[(.int .i64 0),(.int .i64 0)]) zP rfl) ?_
 intro zXH _
 refine WL.pu rfl (WL.nil (WX.a (WC.b ?_)))
 obtain ⟨ztI,zMH,h⟩:=z7 h
 refine WC.a ?_
 refine WL.qA 6 (yg zd rfl (yh .h2) rfl) ?_
 refine WL.qA 7 (yg zd rfl (yh .h1) rfl) ?_
 refine WL.cA 8 (za (l:=[.const (.string ⟨#[45]⟩),.tmp 6,.tmp 7]) Tryz.call105 (.cons rfl (.cons rfl (.cons rfl .nil)))) .nil (cc hz .nil fun w pz ho=>ye1 _ _ _ _ zMH w pz ) ?_
 refine WL.pu rfl (WL.pu rfl ?_)
 refine WL.ym rfl rfl (yl zu rfl rfl rfl .here rfl rfl rfl) ?_
 refine WL.pu rfl (WL.nil (WX.a (WC.ret ?_)))
 obtain rfl:=Option.some.inj h
 refine WX.ye Tryz.results74 (.agg rfl zd rfl (yh .here) (.tmp rfl .nil)) (fun w hw=>?_)
 exact ⟨y1z rfl rfl,hw.sub .nil⟩
end Go.Proofs.YtcahmabkeaijdaaGreat

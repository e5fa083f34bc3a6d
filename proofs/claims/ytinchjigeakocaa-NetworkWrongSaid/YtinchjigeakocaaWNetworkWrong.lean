/- A part of this claim's proof: models of functions, walks, plain laws. No conditions. -/
import Derived.Test.YtinchjigeakocaaW31wd
namespace Go.Proofs.Ytinchjigeakocaa
open Go Go.RowKit Sep
set_option linter.all false
set_option maxRecDepth 30000
set_option maxHeartbeats 4000000
def y2A (z5 : Sapi_Config) (z1d : Int) (z1 : List (List Sapi_Hop)) (zB : List zSt) (zK : Int) (z4 : Int) : Option Bool :=
 (y3R z5 z1d z1 zB).bind fun zkP=>if (!zkP) || (decide (((z1.length : Nat) : Int) = 0)) then (y14).bind fun zpM=>some zpM else chk ((((z1.length : Nat) : Int) : Int) ≠ 0) (chk ((((([] : List (List Sapi_Hop)) ++ z1).length : Nat) : Int) * 24 ≤ 140737488355328 ∧ (((([] : List (List Sapi_Hop)) ++ z1).length : Nat) : Int) ≤ 4611686018427387904) (chk ((0 : Int) ≤ (Int.tmod (i64 z4) ((z1.length : Nat) : Int)) ∧ (Int.tmod (i64 z4) ((z1.length : Nat) : Int)) < ((z1.length : Nat) : Int)) (chk ((((([] : List Sapi_Hop) ++ (nth z1 (Int.tmod (i64 z4) ((z1.length : Nat) : Int)))).length : Nat) : Int) * 24 ≤ 140737488355328 ∧ (((([] : List Sapi_Hop) ++ (nth z1 (Int.tmod (i64 z4) ((z1.length : Nat) : Int)))).length : Nat) : Int) ≤ 4611686018427387904) (chk ((((([] : List zSt) ++ zB).length : Nat) : Int) * 24 ≤ 140737488355328 ∧ (((([] : List zSt) ++ zB).length : Nat) : Int) ≤ 4611686018427387904) (if ((decide ((((([] : List Sapi_Hop) ++ (nth z1 (Int.tmod (i64 z4) ((z1.length : Nat) : Int)))).length : Nat) : Int) = 0)) && (decide ((Int.tmod zK 9) ≥ 2))) && (decide ((Int.tmod zK 9) ≤ 5)) then (y14).bind fun zpN=>some zpN else if decide ((Int.tmod zK 9) = 0) then chk ((0 : Int) ≤ 1 ∧ (1 : Int) ≤ ((([] : List (List Sapi_Hop)) ++ z1).length : Int) ∧ ((([] : List (List Sapi_Hop)) ++ z1).length : Int) ≤ (((([] : List (List Sapi_Hop)) ++ z1).length : Nat) : Int)) (if (decide ((Int.tmod zK 9) ≥ 2)) && (decide ((Int.tmod zK 9) ≤ 5)) then none else (yI z5 z1d ((([] : List (List Sapi_Hop)) ++ z1).drop (1 : Int).toNat) (([] : List zSt) ++ zB)).bind fun z2X=>(if (decide (z2X.2.2 = 310)) && (decide ((i64 (((z2X.1.length : Nat) : Int) + ((z2X.2.1.length : Nat) : Int))) = 0)) then (yA z5 z1d ((([] : List (List Sapi_Hop)) ++ z1).drop (1 : Int).toNat)).bind fun zcb=>some (zcb == false) else some false).bind fun z8R=>(if z8R then (y14).bind fun zcc=>some zcc else some false).bind fun zaa=>some zaa) else if decide ((Int.tmod zK 9) = 1) then jp1 (fun (z5e : List (List Sapi_Hop))=>(yI z5 2 z5e (([] : List zSt) ++ zB)).bind fun z5P=>(if (decide (z5P.2.2 = 310)) && (decide ((i64 (((z5P.1.length : Nat) : Int) + ((z5P.2.1.length : Nat) : Int))) = 0)) then (yA z5 2 z5e).bind fun zpO=>some (zpO == false) else some false).bind fun zgZ=>(if zgZ then (y14).bind fun zpP=>some zpP else some false).bind fun zkQ=>some zkQ) fun zh0=>if (decide ((Int.tmod zK 9) ≥ 2)) && (decide ((Int.tmod zK 9) ≤ 5)) then chk ((0 : Int) ≤ (Int.tmod (i64 z4) ((z1.length : Nat) : Int)) ∧ (Int.tmod (i64 z4) ((z1.length : Nat) : Int)) < (((([] : List (List Sapi_Hop)) ++ z1).length : Nat) : Int)) (zh0 ((([] : List (List Sapi_Hop)) ++ z1).set ((Int.tmod (i64 z4) ((z1.length : Nat) : Int)) : Int).toNat (([] : List Sapi_Hop) ++ (nth z1 (Int.tmod (i64 z4) ((z1.length : Nat) : Int)))))) else zh0 (([] : List (List Sapi_Hop)) ++ z1) else if decide ((Int.tmod zK 9) = 2) then chk ((0 : Int) ≤ (i64 ((((([] : List Sapi_Hop) ++ (nth z1 (Int.tmod (i64 z4) ((z1.length : Nat) : Int)))).length : Nat) : Int) - 1)) ∧ (i64 ((((([] : List Sapi_Hop) ++ (nth z1 (Int.tmod (i64 z4) ((z1.length : Nat) : Int)))).length : Nat) : Int) - 1)) < (((([] : List Sapi_Hop) ++ (nth z1 (Int.tmod (i64 z4) ((z1.length : Nat) : Int)))).length : Nat) : Int)) (jp1 (fun (z5f : List (List Sapi_Hop))=>(yI z5 z1d z5f (([] : List zSt) ++ zB)).bind fun z5Q=>(if (decide (z5Q.2.2 = 310)) && (decide ((i64 (((z5Q.1.length : Nat) : Int) + ((z5Q.2.1.length : Nat) : Int))) = 0)) then (yA z5 z1d z5f).bind fun zpQ=>some (zpQ == false) else some false).bind fun zh1=>(if zh1 then (y14).bind fun zpR=>some zpR else some false).bind fun zkR=>some zkR) fun zh2=>if (decide ((Int.tmod zK 9) ≥ 2)) && (decide ((Int.tmod zK 9) ≤ 5)) then chk ((0 : Int) ≤ (Int.tmod (i64 z4) ((z1.length : Nat) : Int)) ∧ (Int.tmod (i64 z4) ((z1.length : Nat) : Int)) < (((([] : List (List Sapi_Hop)) ++ z1).length : Nat) : Int)) (zh2 ((([] : List (List Sapi_Hop)) ++ z1).set ((Int.tmod (i64 z4) ((z1.length : Nat) : Int)) : Int).toNat ((([] : List Sapi_Hop) ++ (nth z1 (Int.tmod (i64 z4) ((z1.length : Nat) : Int)))).set ((i64 ((((([] : List Sapi_Hop) ++ (nth z1 (Int.tmod (i64 z4) ((z1.length : Nat) : Int)))).length : Nat) : Int) - 1)) : Int).toNat (⟨((nth (([] : List Sapi_Hop) ++ (nth z1 (Int.tmod (i64 z4) ((z1.length : Nat) : Int)))) (i64 ((((([] : List Sapi_Hop) ++ (nth z1 (Int.tmod (i64 z4) ((z1.length : Nat) : Int)))).length : Nat) : Int) - 1))).fNode),((nth (([] : List Sapi_Hop) ++ (nth z1 (Int.tmod (i64 z4) ((z1.length : Nat) : Int)))) (i64 ((((([] : List Sapi_Hop) ++ (nth z1 (Int.tmod (i64 z4) ((z1.length : Nat) : Int)))).length : Nat) : Int) - 1))).fNext),((z5.fLinks.length : Nat) : Int)⟩ : Sapi_Hop)))) else zh2 (([] : List (List Sapi_Hop)) ++ z1)) else if decide ((Int.tmod zK 9) = 3) then chk ((0 : Int) ≤ 0 ∧ 0 < (((([] : List Sapi_Hop) ++ (nth z1 (Int.tmod (i64 z4) ((z1.length : Nat) : Int)))).length : Nat) : Int)) (jp1 (fun (z5g : List (List Sapi_Hop))=>(yI z5 z1d z5g (([] : List zSt) ++ zB)).bind fun z5R=>(if (decide (z5R.2.2 = 310)) && (decide ((i64 (((z5R.1.length : Nat) : Int) + ((z5R.2.1.length : Nat) : Int))) = 0)) then (yA z5 z1d z5g).bind fun zpS=>some (zpS == false) else some false).bind fun zh3=>(if zh3 then (y14).bind fun zpT=>some zpT else some false).bind fun zkS=>some zkS) fun zh4=>if (decide ((Int.tmod zK 9) ≥ 2)) && (decide ((Int.tmod zK 9) ≤ 5)) then chk ((0 : Int) ≤ (Int.tmod (i64 z4) ((z1.length : Nat) : Int)) ∧ (Int.tmod (i64 z4) ((z1.length : Nat) : Int)) < (((([] : List (List Sapi_Hop)) ++ z1).length : Nat) : Int)) (zh4 ((([] : List (List Sapi_Hop)) ++ z1).set ((Int.tmod (i64 z4) ((z1.length : Nat) : Int)) : Int).toNat ((([] : List Sapi_Hop) ++ (nth z1 (Int.tmod (i64 z4) ((z1.length : Nat) : Int)))).set (0 : Int).toNat (⟨((nth (([] : List Sapi_Hop) ++ (nth z1 (Int.tmod (i64 z4) ((z1.length : Nat) : Int)))) 0).fNode),((nth (([] : List Sapi_Hop) ++ (nth z1 (Int.tmod (i64 z4) ((z1.length : Nat) : Int)))) 0).fNode),((nth (([] : List Sapi_Hop) ++ (nth z1 (Int.tmod (i64 z4) ((z1.length : Nat) : Int)))) 0).fLink)⟩ : Sapi_Hop)))) else zh4 (([] : List (List Sapi_Hop)) ++ z1)) else if decide ((Int.tmod zK 9) = 4) then chk ((0 : Int) ≤ 0 ∧ 0 < (((([] : List Sapi_Hop) ++ (nth z1 (Int.tmod (i64 z4) ((z1.length : Nat) : Int)))).length : Nat) : Int)) (chk (((((([] : List Sapi_Hop) ++ (nth z1 (Int.tmod (i64 z4) ((z1.length : Nat) : Int)))) ++ ([(⟨((nth (([] : List Sapi_Hop) ++ (nth z1 (Int.tmod (i64 z4) ((z1.length : Nat) : Int)))) 0).fNode),((nth (([] : List Sapi_Hop) ++ (nth z1 (Int.tmod (i64 z4) ((z1.length : Nat) : Int)))) 0).fNext),((nth (([] : List Sapi_Hop) ++ (nth z1 (Int.tmod (i64 z4) ((z1.length : Nat) : Int)))) 0).fLink)⟩ : Sapi_Hop)] : List Sapi_Hop)).length : Nat) : Int) * 24 ≤ 140737488355328 ∧ ((((([] : List Sapi_Hop) ++ (nth z1 (Int.tmod (i64 z4) ((z1.length : Nat) : Int)))) ++ ([(⟨((nth (([] : List Sapi_Hop) ++ (nth z1 (Int.tmod (i64 z4) ((z1.length : Nat) : Int)))) 0).fNode),((nth (([] : List Sapi_Hop) ++ (nth z1 (Int.tmod (i64 z4) ((z1.length : Nat) : Int)))) 0).fNext),((nth (([] : List Sapi_Hop) ++ (nth z1 (Int.tmod (i64 z4) ((z1.length : Nat) : Int)))) 0).fLink)⟩ : Sapi_Hop)] : List Sapi_Hop)).length : Nat) : Int) ≤ 4611686018427387904) (jp1 (fun (z5h : List (List Sapi_Hop))=>(yI z5 z1d z5h (([] : List zSt) ++ zB)).bind fun z5S=>(if (decide (z5S.2.2 = 310)) && (decide ((i64 (((z5S.1.length : Nat) : Int) + ((z5S.2.1.length : Nat) : Int))) = 0)) then (yA z5 z1d z5h).bind fun zpU=>some (zpU == false) else some false).bind fun zh5=>(if zh5 then (y14).bind fun zpV=>some zpV else some false).bind fun zkT=>some zkT) fun zh6=>if (decide ((Int.tmod zK 9) ≥ 2)) && (decide ((Int.tmod zK 9) ≤ 5)) then chk ((0 : Int) ≤ (Int.tmod (i64 z4) ((z1.length : Nat) : Int)) ∧ (Int.tmod (i64 z4) ((z1.length : Nat) : Int)) < (((([] : List (List Sapi_Hop)) ++ z1).length : Nat) : Int)) (zh6 ((([] : List (List Sapi_Hop)) ++ z1).set ((Int.tmod (i64 z4) ((z1.length : Nat) : Int)) : Int).toNat ((([] : List Sapi_Hop) ++ (nth z1 (Int.tmod (i64 z4) ((z1.length : Nat) : Int)))) ++ ([(⟨((nth (([] : List Sapi_Hop) ++ (nth z1 (Int.tmod (i64 z4) ((z1.length : Nat) : Int)))) 0).fNode),((nth (([] : List Sapi_Hop) ++ (nth z1 (Int.tmod (i64 z4) ((z1.length : Nat) : Int)))) 0).fNext),((nth (([] : List Sapi_Hop) ++ (nth z1 (Int.tmod (i64 z4) ((z1.length : Nat) : Int)))) 0).fLink)⟩ : Sapi_Hop)] : List Sapi_Hop)))) else zh6 (([] : List (List Sapi_Hop)) ++ z1))) else if decide ((Int.tmod zK 9) = 5) then chk ((0 : Int) ≤ 0 ∧ 0 < (((([] : List Sapi_Hop) ++ (nth z1 (Int.tmod (i64 z4) ((z1.length : Nat) : Int)))).length : Nat) : Int)) (jp1 (fun (z5i : List (List Sapi_Hop))=>(yI z5 z1d z5i (([] : List zSt) ++ zB)).bind fun z5T=>(if (decide (z5T.2.2 = 310)) && (decide ((i64 (((z5T.1.length : Nat) : Int) + ((z5T.2.1.length : Nat) : Int))) = 0)) then (yA z5 z1d z5i).bind fun zpW=>some (zpW == false) else some false).bind fun zh7=>(if zh7 then (y14).bind fun zpX=>some zpX else some false).bind fun zkU=>some zkU) fun zh8=>if (decide ((Int.tmod zK 9) ≥ 2)) && (decide ((Int.tmod zK 9) ≤ 5)) then chk ((0 : Int) ≤ (Int.tmod (i64 z4) ((z1.length : Nat) : Int)) ∧ (Int.tmod (i64 z4) ((z1.length : Nat) : Int)) < (((([] : List (List Sapi_Hop)) ++ z1).length : Nat) : Int)) (zh8 ((([] : List (List Sapi_Hop)) ++ z1).set ((Int.tmod (i64 z4) ((z1.length : Nat) : Int)) : Int).toNat ((([] : List Sapi_Hop) ++ (nth z1 (Int.tmod (i64 z4) ((z1.length : Nat) : Int)))).set (0 : Int).toNat (⟨(-1),((nth (([] : List Sapi_Hop) ++ (nth z1 (Int.tmod (i64 z4) ((z1.length : Nat) : Int)))) 0).fNext),((nth (([] : List Sapi_Hop) ++ (nth z1 (Int.tmod (i64 z4) ((z1.length : Nat) : Int)))) 0).fLink)⟩ : Sapi_Hop)))) else zh8 (([] : List (List Sapi_Hop)) ++ z1)) else if decide ((Int.tmod zK 9) = 6) then chk (((((([] : List zSt) ++ zB) ++ ([(⟨536870912,((z5.fVLs.length : Nat) : Int),1⟩ : zSt)] : List zSt)).length : Nat) : Int) * 24 ≤ 140737488355328 ∧ ((((([] : List zSt) ++ zB) ++ ([(⟨536870912,((z5.fVLs.length : Nat) : Int),1⟩ : zSt)] : List zSt)).length : Nat) : Int) ≤ 4611686018427387904) (jp1 (fun (z5j : List (List Sapi_Hop))=>(yI z5 z1d z5j ((([] : List zSt) ++ zB) ++ ([(⟨536870912,((z5.fVLs.length : Nat) : Int),1⟩ : zSt)] : List zSt))).bind fun z5U=>(if (decide (z5U.2.2 = 311)) && (decide ((i64 (((z5U.1.length : Nat) : Int) + ((z5U.2.1.length : Nat) : Int))) = 0)) then (yA z5 z1d z5j).bind fun zpY=>some (zpY == true) else some false).bind fun zh9=>(if zh9 then (y14).bind fun zpZ=>some zpZ else some false).bind fun zkV=>some zkV) fun zha=>if (decide ((Int.tmod zK 9) ≥ 2)) && (decide ((Int.tmod zK 9) ≤ 5)) then chk ((0 : Int) ≤ (Int.tmod (i64 z4) ((z1.length : Nat) : Int)) ∧ (Int.tmod (i64 z4) ((z1.length : Nat) : Int)) < (((([] : List (List Sapi_Hop)) ++ z1).length : Nat) : Int)) (zha ((([] : List (List Sapi_Hop)) ++ z1).set ((Int.tmod (i64 z4) ((z1.length : Nat) : Int)) : Int).toNat (([] : List Sapi_Hop) ++ (nth z1 (Int.tmod (i64 z4) ((z1.length : Nat) : Int)))))) else zha (([] : List (List Sapi_Hop)) ++ z1)) else if decide ((Int.tmod zK 9) = 7) then chk (((((([] : List zSt) ++ zB) ++ ([(⟨536870913,0,1⟩ : zSt)] : List zSt)).length : Nat) : Int) * 24 ≤ 140737488355328 ∧ ((((([] : List zSt) ++ zB) ++ ([(⟨536870913,0,1⟩ : zSt)] : List zSt)).length : Nat) : Int) ≤ 4611686018427387904) (jp1 (fun (z5k : List (List Sapi_Hop))=>(yI z5 z1d z5k ((([] : List zSt) ++ zB) ++ ([(⟨536870913,0,1⟩ : zSt)] : List zSt))).bind fun z5V=>(if (decide (z5V.2.2 = 311)) && (decide ((i64 (((z5V.1.length : Nat) : Int) + ((z5V.2.1.length : Nat) : Int))) = 0)) then (yA z5 z1d z5k).bind fun zq0=>some (zq0 == true) else some false).bind fun zhb=>(if zhb then (y14).bind fun zq1=>some zq1 else some false).bind fun zkW=>some zkW) fun zhc=>if (decide ((Int.tmod zK 9) ≥ 2)) && (decide ((Int.tmod zK 9) ≤ 5)) then chk ((0 : Int) ≤ (Int.tmod (i64 z4) ((z1.length : Nat) : Int)) ∧ (Int.tmod (i64 z4) ((z1.length : Nat) : Int)) < (((([] : List (List Sapi_Hop)) ++ z1).length : Nat) : Int)) (zhc ((([] : List (List Sapi_Hop)) ++ z1).set ((Int.tmod (i64 z4) ((z1.length : Nat) : Int)) : Int).toNat (([] : List Sapi_Hop) ++ (nth z1 (Int.tmod (i64 z4) ((z1.length : Nat) : Int)))))) else zhc (([] : List (List Sapi_Hop)) ++ z1)) else if decide ((Int.tmod zK 9) = 8) then chk (((((([] : List zSt) ++ zB) ++ ([(⟨536870912,0,73⟩ : zSt)] : List zSt)).length : Nat) : Int) * 24 ≤ 140737488355328 ∧ ((((([] : List zSt) ++ zB) ++ ([(⟨536870912,0,73⟩ : zSt)] : List zSt)).length : Nat) : Int) ≤ 4611686018427387904) (jp1 (fun (z5l : List (List Sapi_Hop))=>(yI z5 z1d z5l ((([] : List zSt) ++ zB) ++ ([(⟨536870912,0,73⟩ : zSt)] : List zSt))).bind fun z5W=>(if (decide (z5W.2.2 = 311)) && (decide ((i64 (((z5W.1.length : Nat) : Int) + ((z5W.2.1.length : Nat) : Int))) = 0)) then (yA z5 z1d z5l).bind fun zq2=>some (zq2 == true) else some false).bind fun zhd=>(if zhd then (y14).bind fun zq3=>some zq3 else some false).bind fun zkX=>some zkX) fun zhe=>if (decide ((Int.tmod zK 9) ≥ 2)) && (decide ((Int.tmod zK 9) ≤ 5)) then chk ((0 : Int) ≤ (Int.tmod (i64 z4) ((z1.length : Nat) : Int)) ∧ (Int.tmod (i64 z4) ((z1.length : Nat) : Int)) < (((([] : List (List Sapi_Hop)) ++ z1).length : Nat) : Int)) (zhe ((([] : List (List Sapi_Hop)) ++ z1).set ((Int.tmod (i64 z4) ((z1.length : Nat) : Int)) : Int).toNat (([] : List Sapi_Hop) ++ (nth z1 (Int.tmod (i64 z4) ((z1.length : Nat) : Int)))))) else zhe (([] : List (List Sapi_Hop)) ++ z1)) else jp1 (fun (z5m : List (List Sapi_Hop))=>(yI z5 z1d z5m (([] : List zSt) ++ zB)).bind fun z5X=>(if (decide (z5X.2.2 = 310)) && (decide ((i64 (((z5X.1.length : Nat) : Int) + ((z5X.2.1.length : Nat) : Int))) = 0)) then (yA z5 z1d z5m).bind fun zq4=>some (zq4 == false) else some false).bind fun zhf=>(if zhf then (y14).bind fun zq5=>some zq5 else some false).bind fun zkY=>some zkY) fun zhg=>if (decide ((Int.tmod zK 9) ≥ 2)) && (decide ((Int.tmod zK 9) ≤ 5)) then chk ((0 : Int) ≤ (Int.tmod (i64 z4) ((z1.length : Nat) : Int)) ∧ (Int.tmod (i64 z4) ((z1.length : Nat) : Int)) < (((([] : List (List Sapi_Hop)) ++ z1).length : Nat) : Int)) (zhg ((([] : List (List Sapi_Hop)) ++ z1).set ((Int.tmod (i64 z4) ((z1.length : Nat) : Int)) : Int).toNat (([] : List Sapi_Hop) ++ (nth z1 (Int.tmod (i64 z4) ((z1.length : Nat) : Int)))))) else zhg (([] : List (List Sapi_Hop)) ++ z1))))))
set_option maxRecDepth 20000 in
theorem y5R (Z : Zp) (z1D : Option Addr) (z1E : Nat) (z1F : Option Addr) (z1G : Nat) (z1H : Option Addr) (z1I : Nat) (z1J : Option Addr) (z1K : Nat) (z1L : Option Addr) (z1M : Nat) (z1N : Option Addr) (z1O : Nat) (z1P : Option Addr) (z1Q : Nat) (z1R : Option Addr) (z1S : Nat) (zeR : Option Addr) (zeS : Nat) (zeT : Option Addr) (zeU : Nat) (z5 : Sapi_Config) (z1d : Int) (z1 : List (List Sapi_Hop)) (zB : List zSt) (zK : Int) (z4 : Int) (r : Bool)
  (h : y2A z5 z1d z1 zB zK z4 = some r) (w₀ : World) (hz : PZ [] w₀ Z)
  (z2r : ZS Z 4 (y2h Z) z1D z1E z5.fModules)
  (z2s : ZS Z 4 (y2x Z) z1F z1G z5.fChannels)
  (z2t : ZS Z 4 (fun r x=>r = e64 x) z1H z1I z5.fSwitches)
  (z2u : ZS Z 4 (fun r x=>r = e62 x) z1J z1K z5.fLinks)
  (z2v : ZS Z 7 (y2p Z) z1L z1M z5.fVLs)
  (z2w : ZS Z 5 (fun r x=>r = y2K x) z1N z1O z5.fHealth)
  (z2x : ZS Z 3 (y2y Z) z1P z1Q z5.fCauses)
  (z2y : ZS Z 4 (fun r x=>r = y2L x) z1R z1S z5.fVersions)
  (zkZ : ZS Z 1 (p55 Z) zeR zeS z1)
  (zq6 : ZS Z 3 (fun r x=>r = e53 x) zeT zeU zB) :
  Calls Try.prog 9 #[(.agg #[(.slice z1D z5.fModules.length z1E),(.slice z1F z5.fChannels.length z1G),(.slice z1H z5.fSwitches.length z1I),(.slice z1J z5.fLinks.length z1K),(.slice z1L z5.fVLs.length z1M),(.slice z1N z5.fHealth.length z1O),(.slice z1P z5.fCauses.length z1Q),(.slice z1R z5.fVersions.length z1S)]),(.int .i64 z1d),(.slice zeR z1.length zeS),(.slice zeT zB.length zeU),(.int .u8 zK),(.int .u8 z4)] w₀ fun e w'=>∃ Zn : Zp,e = .returned (.bool r) ∧ True ∧ Hp [] w₀ w' [fz Zn]:=by
 unfold y2A at h
 refine Calls.yo (vs:=[(.agg #[(.slice z1D z5.fModules.length z1E),(.slice z1F z5.fChannels.length z1G),(.slice z1H z5.fSwitches.length z1I),(.slice z1J z5.fLinks.length z1K),(.slice z1L z5.fVLs.length z1M),(.slice z1N z5.fHealth.length z1O),(.slice z1P z5.fCauses.length z1Q),(.slice z1R z5.fVersions.length z1S)]),(.int .i64 z1d),(.slice zeR z1.length zeS),(.slice zeT zB.length zeU),(.int .u8 zK),(.int .u8 z4)]) (pre:=[]) (env:=[(0,(.agg #[(.slice z1D z5.fModules.length z1E),(.slice z1F z5.fChannels.length z1G),(.slice z1H z5.fSwitches.length z1I),(.slice z1J z5.fLinks.length z1K),(.slice z1L z5.fVLs.length z1M),(.slice z1N z5.fHealth.length z1O),(.slice z1P z5.fCauses.length z1Q),(.slice z1R z5.fVersions.length z1S)])),(1,(.int .i64 z1d)),(2,(.slice zeR z1.length zeS)),(3,(.slice zeT zB.length zeU)),(4,(.int .u8 zK)),(5,(.int .u8 z4))]) Try.func9 rfl Try.ntmps9 rfl (Hp.nil w₀ _) rfl ?_
 refine WC.pool (WC.b (WC.a ?_))
 refine WL.new (dd:=6) rfl rfl rfl (y25 (cs:=[(.slice z1D z5.fModules.length z1E),(.slice z1F z5.fChannels.length z1G),(.slice z1H z5.fSwitches.length z1I),(.slice z1J z5.fLinks.length z1K),(.slice z1L z5.fVLs.length z1M),(.slice z1N z5.fHealth.length z1O),(.slice z1P z5.fCauses.length z1Q),(.slice z1R z5.fVersions.length z1S)]) rfl rfl) ?_
 intro z1u _
 refine WL.pu rfl (WL.nil (WX.a (WC.b (WC.b ?_))))
 obtain ⟨zkP,zxi,h⟩:=z8 h
 refine WC.a ?_
 refine WL.a (d:=21) rfl rfl rfl (yu yK rfl (yJ .here) rfl) ?_
 refine WL.pu rfl (WL.pu rfl (WL.pu rfl ?_))
 refine WL.b (dd:=25) rfl rfl rfl (zt (l:=[.tmp 21,.tmp 22,.tmp 23,.tmp 24]) Try.call20 (.cons rfl (.cons rfl (.cons rfl (.cons rfl .nil))))) .nil (ccz hz .nil .h1 fun w pz ho=>y7I _ _ _ _ _ _ _ _ _ _ _ _ _ _ _ _ _ _ _ _ _ _ _ _ _ _ zxi w pz ((z2r.mono (Zle.left _ _)).weak (fun _ _ h=>yq (Zle.left _ _) h)) ((z2s.mono (Zle.left _ _)).weak (fun _ _ h=>ys (Zle.left _ _) h)) (z2t.mono (Zle.left _ _)) (z2u.mono (Zle.left _ _)) ((z2v.mono (Zle.left _ _)).weak (fun _ _ h=>yr (Zle.left _ _) h)) (z2w.mono (Zle.left _ _)) ((z2x.mono (Zle.left _ _)).weak (fun _ _ h=>yt (Zle.left _ _) h)) (z2y.mono (Zle.left _ _)) ((zkZ.mono (Zle.left _ _)).weak (fun _ _ h=>yH (Zle.left _ _) h)) (zq6.mono (Zle.left _ _))) ?_
 refine WL.pu rfl (WL.pu rfl ?_)
 refine WL.seg false 3 27 (B:=(!zkP) || (decide (((z1.length : Nat) : Int) = 0))) rfl rfl rfl rfl rfl rfl (fun h=>(y20 h).symm) (fun _ zxj=>?_) ?_
 ·skip
  refine WL.pu rfl ?_
  refine WL.a (d:=29) rfl rfl rfl (yz Try.underlying32 rfl) ?_
  refine WL.pu rfl (WL.pu rfl ?_)
  exact WL.yi (y21 zxj) rfl rfl .all
 refine WL.nil (WX.a ?_)
 refine WC.cond rfl (fun zl0=>?_) (fun zl0=>?_)
 ·replace h:=yg h zl0
  refine WC.b ?_
  obtain ⟨zpM,zxk,h⟩:=z8 h
  refine WC.a ?_
  refine WL.y2g (dd:=32) rfl rfl rfl (zt (l:=[]) Try.call11 .nil) .nil (ccz hz .nil .h1 fun w pz ho=>y1x _ _ zxk w pz ) ?_
  rintro zxl _
  refine WL.merge .here .h1 ?_
  refine WL.pu rfl (WL.nil (WX.a (WC.ret (WX.yn ?_))))
  obtain rfl:=Option.some.inj h
  refine WX.yj Try.results9 (.tmp rfl .nil) (fun w hw=>?_)
  exact ⟨([] ++ zxl),yL rfl,trivial,hw.sub (.cons .here .nil)⟩
 ·replace h:=yh h zl0
  refine WC.skip (WX.a (WC.b ?_))
  obtain ⟨zxm,h⟩:=ye h
  refine WC.a (WL.pu rfl ?_)
  refine WL.a (d:=34) rfl rfl rfl (y4e Try.underlying5 Try.underlying3 rfl rfl) ?_
  refine WL.pu rfl ?_
  refine WL.a (d:=36) rfl rfl rfl (yz Try.underlying32 rfl) ?_
  refine WL.a (d:=37) rfl rfl rfl (y28 rfl rfl zxm rfl) ?_
  refine WL.pu rfl (WL.nil (WX.a (WC.b ?_)))
  obtain ⟨zxn,h⟩:=ye h
  refine WC.a ?_
  have zxo : RR 1 (p55 (Z ++ [])) [] ([] : List (List Sapi_Hop)):=(RR.nil _ _)
  refine WL.new (dd:=38) rfl rfl rfl (yF (cs:=[]) y2i (Eos.parts (l:=[]) .nil []) (fun _=>by kernel_rfl) rfl (by unfold maxLen; omega)) ?_
  intro zDC _
  refine WL.pu rfl ?_
  obtain ⟨z1o,zl1,zxp⟩:=ZS.news ((zkZ.mono (Zle.left _ _)).weak (fun _ _ h=>yH (Zle.left _ _) h))
  have z1v : RR 1 (p55 (Z ++ [])) ([] ++ z1o) (([] : List (List Sapi_Hop)) ++ z1):=RR.app zxo zl1
  refine WL.eff (d:=40) rfl rfl rfl (y8m (l1:=([] : List (List Sapi_Hop))) (l2:=z1) (news:=z1o) (Pr:=(p55 (Z ++ []))) y2i rfl rfl .here zl1 (zxp _ _ _ (hz.pv2 .h2)) (RR.oc zl1 (fun _ _ h=>p55_oc h)) zxn) ?_
  rintro ⟨z1y,zU⟩ _
  refine WL.pu rfl (WL.nil (WX.a (WC.b ?_)))
  obtain ⟨zxq,h⟩:=ye h
  obtain ⟨zxr,h⟩:=ye h
  refine WC.a ?_
  refine WL.new (dd:=41) rfl rfl rfl (yF (cs:=([] : List Sapi_Hop).flatMap e59) y2W (Eos.parts (l:=[]) .nil []) (fun _=>by kernel_rfl) rfl (by unfold maxLen; omega)) ?_
  intro zDD _
  refine WL.pu rfl (WL.pu rfl ?_)
  refine WL.znth (dd:=44) rfl rfl (Z:=(Z ++ [])) (Pr:=(p55 (Z ++ []))) y2i rfl rfl ((zkZ.mono (Zle.left _ _)).weak (fun _ _ h=>yH (Zle.left _ _) h)) zxq ?_
  rintro zDE zDF zxs zDG ⟨zDH,zDI,rfl,zxt⟩
  refine WL.a (d:=45) rfl rfl rfl (yb y5k rfl (rd_z (hz.pv2 .h3) zxs rfl)) ?_
  refine WL.eff (d:=46) rfl rfl rfl (y2B (enc:=e59) (l1:=([] : List Sapi_Hop)) (l2:=(nth z1 (Int.tmod (i64 z4) ((z1.length : Nat) : Int)))) y2W rfl rfl .here (fun _=>rfl) rfl rfl (news_z (hz.pv2 .h3) zxt) (y3c e59_oc _) zxr) ?_
  rintro ⟨z2z,zX⟩ _
  refine WL.pu rfl (WL.nil (WX.a (WC.b ?_)))
  obtain ⟨zxu,h⟩:=ye h
  refine WC.a ?_
  refine WL.new (dd:=47) rfl rfl rfl (yF (cs:=([] : List zSt).flatMap e53) y2u (Eos.parts (l:=[]) .nil []) (fun _=>by kernel_rfl) rfl (by unfold maxLen; omega)) ?_
  intro zDJ _
  refine WL.pu rfl ?_
  refine WL.eff (d:=49) rfl rfl rfl (y2B (enc:=e53) (l1:=([] : List zSt)) (l2:=zB) y2u rfl rfl .here (fun _=>rfl) rfl rfl (news_z (hz.pv2 .h4) (zq6.mono (Zle.left _ _))) (y3c y6I _) zxu) ?_
  rintro ⟨z2Y,z2Z⟩ _
  refine WL.pu rfl (WL.nil (WX.a (WC.b (WC.a (WL.pu rfl (WL.nil (WX.a (WC.b (WC.b (WC.a (WL.pu rfl ?_)))))))))))
  refine WL.a (d:=51) rfl rfl rfl (yz Try.underlying55 rfl) ?_
  refine WL.pu rfl (WL.pu rfl ?_)
  refine WL.seg true 3 53 (B:=(decide ((((([] : List Sapi_Hop) ++ (nth z1 (Int.tmod (i64 z4) ((z1.length : Nat) : Int)))).length : Nat) : Int) = 0)) && (decide ((Int.tmod zK 9) ≥ 2))) rfl rfl rfl rfl rfl rfl (fun h=>(y1c h).symm) (fun _ zxv=>?_) ?_
  ·skip
   refine WL.pu rfl ?_
   refine WL.a (d:=55) rfl rfl rfl (y28 rfl rfl (by decide) rfl) ?_
   refine WL.pu rfl (WL.pu rfl ?_)
   exact WL.yi (y1d zxv) rfl rfl .all
  refine WL.pu rfl ?_
  refine WL.seg true 3 58 (B:=((decide ((((([] : List Sapi_Hop) ++ (nth z1 (Int.tmod (i64 z4) ((z1.length : Nat) : Int)))).length : Nat) : Int) = 0)) && (decide ((Int.tmod zK 9) ≥ 2))) && (decide ((Int.tmod zK 9) ≤ 5))) rfl rfl rfl rfl rfl rfl (fun h=>(y1c h).symm) (fun _ zxw=>?_) ?_
  ·skip
   refine WL.pu rfl ?_
   refine WL.a (d:=60) rfl rfl rfl (y28 rfl rfl (by decide) rfl) ?_
   refine WL.pu rfl (WL.pu rfl ?_)
   exact WL.yi (y1d zxw) rfl rfl .all
  refine WL.nil (WX.a ?_)
  refine WC.cond rfl (fun zl2=>?_) (fun zl2=>?_)
  ·replace h:=yg h zl2
   refine WC.b ?_
   obtain ⟨zpN,zxx,h⟩:=z8 h
   refine WC.a ?_
   refine WL.y2g (dd:=63) rfl rfl rfl (zt (l:=[]) Try.call11 .nil) .nil (ccz hz .nil .h4 fun w pz ho=>y1x _ _ zxx w pz ) ?_
   rintro zxy _
   refine WL.merge .here .h4 ?_
   refine WL.pu rfl (WL.nil (WX.a (WC.ret (WX.yn ?_))))
   obtain rfl:=Option.some.inj h
   refine WX.yj Try.results9 (.tmp rfl .nil) (fun w hw=>?_)
   exact ⟨([] ++ zxy),yL rfl,trivial,hw.sub (.cons .here .nil)⟩
  ·replace h:=yh h zl2
   refine WC.skip (WX.a (WC.b (WC.b (WC.a (WL.pu rfl ?_)))))
   refine WL.a (d:=65) rfl rfl rfl (y28 rfl rfl (by decide) rfl) ?_
   refine WL.nil (WX.a (WC.block (WC.b (WC.a (WL.pu rfl (WL.pu rfl (WL.nil (WX.a ?_))))))))
   refine WC.cond rfl (fun zl3=>?_) (fun zl3=>?_)
   ·replace h:=yg h zl3
    obtain ⟨zxz,h⟩:=ye h
    refine WC.a (WL.pu rfl ?_)
    refine WL.freezeS (ls:=([] : List (List Sapi_Hop)) ++ z1) .h2 .h3 hz z1v ?_
    intro zeV z1T zl4
    replace zl4:=zl4.weak (fun _ _ h=>yH z1T h)
    refine WL.zsub (dd:=69) rfl rfl (Z:=(Z ++ zeV)) (Pr:=(p55 (Z ++ zeV))) y2i rfl zl4 (ixo rfl) ixn rfl rfl zxz (by rw [Int.toNat_natCast,List.take_length]) ?_
    rintro zDK zDL zq7
    refine WL.pu rfl (WL.nil (WX.yf (WX.a (WC.b (WC.b (WC.a (WL.pu rfl ?_)))))))
    refine WL.a (d:=127) rfl rfl rfl (y28 rfl rfl (by decide) rfl) ?_
    refine WL.pu rfl (WL.pu rfl ?_)
    refine WL.seg true 3 129 (B:=(decide ((Int.tmod zK 9) ≥ 2)) && (decide ((Int.tmod zK 9) ≤ 5))) rfl rfl rfl rfl rfl rfl (fun h=>(y1c h).symm) (fun _ zxA=>?_) ?_
    ·skip
     refine WL.pu rfl ?_
     refine WL.a (d:=131) rfl rfl rfl (y28 rfl rfl (by decide) rfl) ?_
     refine WL.pu rfl (WL.pu rfl ?_)
     exact WL.yi (y1d zxA) rfl rfl .all
    refine WL.nil (WX.a ?_)
    refine WC.cond rfl (fun zl5=>?_) (fun zl5=>?_)
    ·replace h:=yg h zl5
     cases h
    ·replace h:=yh h zl5
     refine WC.skip (WX.a (WC.b ?_))
     obtain ⟨z2X,zxB,h⟩:=z8 h
     refine WC.a ?_
     refine WL.a (d:=139) rfl rfl rfl (yu yK rfl (yJ .h3) rfl) ?_
     refine WL.pu rfl (WL.pu rfl (WL.pu rfl ?_))
     refine WL.y2o (dd:=143) rfl rfl rfl (zt (l:=[.tmp 139,.tmp 140,.tmp 141,.tmp 142]) Try.call12 (.cons rfl (.cons rfl (.cons rfl (.cons rfl .nil))))) .nil (y2w hz .nil .here (.cons .h1 .nil) fun w pz ho la=>y1J _ _ _ _ _ _ _ _ _ _ _ _ _ _ _ _ _ _ _ _ _ _ _ _ _ _ zxB w pz ((((z2r.mono ((Zle.left _ _).trans z1T)).weak (fun _ _ h=>yq ((Zle.left _ _).trans z1T) h)).mono (Zle.left _ _)).weak (fun _ _ h=>yq (Zle.left _ _) h)) ((((z2s.mono ((Zle.left _ _).trans z1T)).weak (fun _ _ h=>ys ((Zle.left _ _).trans z1T) h)).mono (Zle.left _ _)).weak (fun _ _ h=>ys (Zle.left _ _) h)) ((z2t.mono ((Zle.left _ _).trans z1T)).mono (Zle.left _ _)) ((z2u.mono ((Zle.left _ _).trans z1T)).mono (Zle.left _ _)) ((((z2v.mono ((Zle.left _ _).trans z1T)).weak (fun _ _ h=>yr ((Zle.left _ _).trans z1T) h)).mono (Zle.left _ _)).weak (fun _ _ h=>yr (Zle.left _ _) h)) ((z2w.mono ((Zle.left _ _).trans z1T)).mono (Zle.left _ _)) ((((z2x.mono ((Zle.left _ _).trans z1T)).weak (fun _ _ h=>yt ((Zle.left _ _).trans z1T) h)).mono (Zle.left _ _)).weak (fun _ _ h=>yt (Zle.left _ _) h)) ((z2y.mono ((Zle.left _ _).trans z1T)).mono (Zle.left _ _)) ((zq7.mono (Zle.left _ _)).weak (fun _ _ h=>yH (Zle.left _ _) h)) (ZA.row (la _ (.head _) _) (RR.yE (enc:=e53) (fun _=>rfl) _) ⟨w,pz.1⟩)) ?_
     rintro zxC zxD zxE zxF _
     refine WL.pu rfl (WL.pu rfl (WL.pu rfl (WL.pu rfl (WL.pu rfl (WL.pu rfl (WL.pu rfl (WL.nil (WX.a (WC.b ?_)))))))))
     obtain ⟨z8R,zq8,h⟩:=z8 h
     obtain ⟨zaa,zq9,h⟩:=z8 h
     refine WC.a (WL.pu rfl (WL.pu rfl (WL.pu rfl (WL.pu rfl ?_))))
     refine WL.seg true 6 150 (B:=(decide (z2X.2.2 = 310)) && (decide ((i64 (((z2X.1.length : Nat) : Int) + ((z2X.2.1.length : Nat) : Int))) = 0))) rfl rfl rfl rfl rfl rfl (fun h=>(y1c h).symm) (fun _ zxG=>?_) ?_
     ·skip
      refine WL.pu rfl ?_
      refine WL.a (d:=152) rfl rfl rfl (yz Try.underlying36 rfl) ?_
      refine WL.pu rfl ?_
      refine WL.a (d:=154) rfl rfl rfl (yz Try.underlying36 rfl) ?_
      refine WL.pu rfl (WL.pu rfl (WL.pu rfl ?_))
      exact WL.yi (y1d zxG) rfl rfl .all
     refine WL.pu rfl ?_
     refine WL.seg true 7 158 (B:=z8R) rfl rfl rfl rfl rfl rfl (fun h=>(Option.some.inj (yh zq8 h)).symm) (fun _ zxH=>?_) ?_
     ·skip
      have zeW:=yg zq8 zxH
      obtain ⟨zcb,zxI,zeW⟩:=z8 zeW
      replace zeW:=Option.some.inj zeW
      refine WL.a (d:=159) rfl rfl rfl (yu yK rfl (yJ .h5) rfl) ?_
      refine WL.pu rfl (WL.pu rfl ?_)
      refine WL.b (dd:=162) rfl rfl rfl (zt (l:=[.tmp 159,.tmp 160,.tmp 161]) Try.call15 (.cons rfl (.cons rfl (.cons rfl .nil)))) .nil (ccz hz .nil .h2 fun w pz ho=>y1n _ _ _ _ _ _ _ _ _ _ _ _ _ _ _ _ _ _ _ _ _ _ _ zxI w pz ((z2r.mono ((Zle.left _ _).trans z1T)).weak (fun _ _ h=>yq ((Zle.left _ _).trans z1T) h)) ((z2s.mono ((Zle.left _ _).trans z1T)).weak (fun _ _ h=>ys ((Zle.left _ _).trans z1T) h)) (z2t.mono ((Zle.left _ _).trans z1T)) (z2u.mono ((Zle.left _ _).trans z1T)) ((z2v.mono ((Zle.left _ _).trans z1T)).weak (fun _ _ h=>yr ((Zle.left _ _).trans z1T) h)) (z2w.mono ((Zle.left _ _).trans z1T)) ((z2x.mono ((Zle.left _ _).trans z1T)).weak (fun _ _ h=>yt ((Zle.left _ _).trans z1T) h)) (z2y.mono ((Zle.left _ _).trans z1T)) zq7) ?_
      refine WL.pu rfl ?_
      refine WL.a (d:=164) rfl rfl rfl (y44 rfl rfl) ?_
      refine WL.a (d:=165) rfl rfl rfl (y41 Try.underlying4 rfl rfl) ?_
      refine WL.pu rfl ?_
      exact WL.yi zeW rfl rfl .all
     refine WL.pu rfl ?_
     refine WL.y3E (fun (zcd : Zp)=>Zle (Z ++ zeV) (Z ++ zcd)) (fun (zcd : Zp)=>[(169,(.bool zaa))]) (fun (zcd : Zp)=>[row (.slice zxC z2X.1.length zxD) 50 3 (z2X.1.flatMap e50),row (.slice zxE z2X.2.1.length zxF) 50 3 (z2X.2.1.flatMap e50),fz zcd,row (.slice z2Y ((([] : List zSt) ++ zB).length) z2Z) 53 3 ((([] : List zSt) ++ zB).flatMap e53),row (.slice z2z ((([] : List Sapi_Hop) ++ (nth z1 (Int.tmod (i64 z4) ((z1.length : Nat) : Int)))).length) zX) 59 3 ((([] : List Sapi_Hop) ++ (nth z1 (Int.tmod (i64 z4) ((z1.length : Nat) : Int)))).flatMap e59),stb z1u 31 [(.slice z1D z5.fModules.length z1E),(.slice z1F z5.fChannels.length z1G),(.slice z1H z5.fSwitches.length z1I),(.slice z1J z5.fLinks.length z1K),(.slice z1L z5.fVLs.length z1M),(.slice z1N z5.fHealth.length z1O),(.slice z1P z5.fCauses.length z1Q),(.slice z1R z5.fVersions.length z1S)]]) 2 ?_ (fun zcd zDM=>?_)
     ·rcases Bool.eq_false_or_eq_true z8R with hb' | hb'
      ·have zqa:=hb'; clear hb'
       have zeX:=yg zq9 zqa
       obtain ⟨zcc,zxJ,zeX⟩:=z8 zeX
       replace zeX:=Option.some.inj zeX
       refine WL.pin (i:=167) rfl zqa ?_
       refine WL.y2g (dd:=168) rfl rfl rfl (zt (l:=[]) Try.call11 .nil) .nil (ccz hz .nil .h2 fun w pz ho=>y1x _ _ zxJ w pz ) ?_
       rintro zxK _
       refine WL.merge .here .h2 ?_
       refine WL.pu rfl ?_
       exact WL.y1r (G:=Zp) (zeV ++ zxK) ((Zle.left _ _).trans (Zle.yD _ _ _)) (.cons (zi zeX) .nil) (.cons .h1 (.cons .h1 (.cons .here (.cons .here (.cons .here (.cons .here .nil))))))
      ·have zqb:=hb'; clear hb'
       have zl6:=yh zq9 zqb
       replace zl6:=Option.some.inj zl6
       refine WL.pin (i:=167) rfl zqb ?_
       refine WL.e rfl rfl rfl (WL.pu rfl ?_)
       exact WL.y1r (G:=Zp) zeV (Zle.refl _) (.cons (zi zl6) .nil) (.cons .here (.cons .here (.cons .here (.cons .here (.cons .here (.cons .here .nil))))))
     ·skip
      refine WL.pu rfl (WL.nil (WX.a (WC.ret ?_)))
      obtain rfl:=Option.some.inj h
      refine WX.yj Try.results9 (.tmp rfl .nil) (fun w hw=>?_)
      exact ⟨zcd,yL rfl,trivial,hw.sub (.cons .h2 .nil)⟩
   ·replace h:=yh h zl3
    refine WC.b (WC.a (WL.pu rfl (WL.pu rfl (WL.nil (WX.a ?_)))))
    refine WC.cond rfl (fun zl7=>?_) (fun zl7=>?_)
    ·replace h:=yg h zl7
     refine WC.a (WL.pu rfl (WL.nil (WX.yf (WX.a ?_))))
     obtain ⟨zh0,zxL,h⟩:=yO h
     refine WC.y1U (fun (z5e : List (List Sapi_Hop)) (z8b : Zp) (zce : List Value)=>(zh0 z5e = some r) ∧ (Zle (Z ++ []) (Z ++ z8b)) ∧ (RR 1 (p55 (Z ++ z8b)) zce z5e)) (fun (z5e : List (List Sapi_Hop)) (z8b : Zp) (zce : List Value)=>[(1,(.int .i64 2)),(6,(.pointer (some ⟨z1u,0,none⟩))),(14,(.slice z1y z5e.length zU)),(16,(.slice z2Y ((([] : List zSt) ++ zB).length) z2Z)),(17,(.int .i64 310))]) (fun (z5e : List (List Sapi_Hop)) (z8b : Zp) (zce : List Value)=>[fz z8b,row (.slice z1y z5e.length zU) 55 1 zce,row (.slice z2Y ((([] : List zSt) ++ zB).length) z2Z) 53 3 ((([] : List zSt) ++ zB).flatMap e53),stb z1u 31 [(.slice z1D z5.fModules.length z1E),(.slice z1F z5.fChannels.length z1G),(.slice z1H z5.fSwitches.length z1I),(.slice z1J z5.fLinks.length z1K),(.slice z1L z5.fVLs.length z1M),(.slice z1N z5.fHealth.length z1O),(.slice z1P z5.fCauses.length z1Q),(.slice z1R z5.fVersions.length z1S)]]) ?_ ?_
     ·skip
      refine WC.b (WC.a (WL.pu rfl ?_))
      refine WL.a (d:=127) rfl rfl rfl (y28 rfl rfl (by decide) rfl) ?_
      refine WL.pu rfl (WL.pu rfl ?_)
      refine WL.seg true 3 129 (B:=(decide ((Int.tmod zK 9) ≥ 2)) && (decide ((Int.tmod zK 9) ≤ 5))) rfl rfl rfl rfl rfl rfl (fun h=>(y1c h).symm) (fun _ zxM=>?_) ?_
      ·skip
       refine WL.pu rfl ?_
       refine WL.a (d:=131) rfl rfl rfl (y28 rfl rfl (by decide) rfl) ?_
       refine WL.pu rfl (WL.pu rfl ?_)
       exact WL.yi (y1d zxM) rfl rfl .all
      refine WL.nil (WX.a ?_)
      refine WC.cond rfl (fun zl8=>?_) (fun zl8=>?_)
      ·replace h:=yg h zl8
       obtain ⟨zab,h⟩:=ye h
       refine WC.a (WL.pu rfl (WL.pu rfl (WL.pu rfl ?_)))
       refine WL.know (fun w hw=>Hp.y15 .h2 hw (by intro hz'; have:=zab; rw [hz'] at this; omega)) ?_
       rintro ⟨zqc,rfl⟩
       obtain ⟨zDN,zDO,zDP,zxN,⟨zDQ,zDR,rfl,zDS⟩⟩:=RR.elem (Pr:=(p55 (Z ++ []))) z1v zab.1 zab.2
       refine WL.a (d:=137) rfl rfl rfl (ym y2i rfl rfl zab.1 zab.2 yM) ?_
       refine WL.freezeS (ls:=([] : List Sapi_Hop) ++ (nth z1 (Int.tmod (i64 z4) ((z1.length : Nat) : Int)))) .h1 .h3 hz (RR.yE (enc:=e59) (fun _=>rfl) _) ?_
       intro zqd zqe zxO
       obtain ⟨zxP,zxQ⟩:=RR.store (Pr:=(p55 (Z ++ zqd))) (vs:=[(.slice z2z ((([] : List Sapi_Hop) ++ (nth z1 (Int.tmod (i64 z4) ((z1.length : Nat) : Int)))).length) zX)]) (k:=0) (y:=([] : List Sapi_Hop) ++ (nth z1 (Int.tmod (i64 z4) ((z1.length : Nat) : Int)))) (z1v.weak (fun _ _ h=>yH zqe h)) zab.1 zab.2 zxN rfl (Nat.le_of_ble_eq_true rfl) (show p55 _ _ _ from ⟨_,_,rfl,zxO⟩)
       refine WL.y10 rfl rfl (y12 (vs:=[(.slice z2z ((([] : List Sapi_Hop) ++ (nth z1 (Int.tmod (i64 z4) ((z1.length : Nat) : Int)))).length) zX)]) (ds:=y1H ([] ++ z1o) (((Int.tmod (i64 z4) ((z1.length : Nat) : Int)) : Int).toNat * 1 + 0) [(.slice z2z ((([] : List Sapi_Hop) ++ (nth z1 (Int.tmod (i64 z4) ((z1.length : Nat) : Int)))).length) zX)]) y3Y rfl rfl rfl rfl (y2V rfl y3z) .h2 zxQ rfl) ?_
       refine WL.relen .here (u:=(.slice (some ⟨zqc,0,none⟩) (((([] : List (List Sapi_Hop)) ++ z1).set ((Int.tmod (i64 z4) ((z1.length : Nat) : Int)) : Int).toNat (([] : List Sapi_Hop) ++ (nth z1 (Int.tmod (i64 z4) ((z1.length : Nat) : Int))))).length) zU)) (yR (List.length_set).symm) ?_
       refine WL.repin (i:=14) rfl (u:=(.slice (some ⟨zqc,0,none⟩) (((([] : List (List Sapi_Hop)) ++ z1).set ((Int.tmod (i64 z4) ((z1.length : Nat) : Int)) : Int).toNat (([] : List Sapi_Hop) ++ (nth z1 (Int.tmod (i64 z4) ((z1.length : Nat) : Int))))).length) zU)) (yR (List.length_set).symm) ?_
       refine WL.nil ?_
       exact WX.mid (G:=List (List Sapi_Hop) × Zp × List Value) ⟨((([] : List (List Sapi_Hop)) ++ z1).set ((Int.tmod (i64 z4) ((z1.length : Nat) : Int)) : Int).toNat (([] : List Sapi_Hop) ++ (nth z1 (Int.tmod (i64 z4) ((z1.length : Nat) : Int))))),zqd,(y1H ([] ++ z1o) (((Int.tmod (i64 z4) ((z1.length : Nat) : Int)) : Int).toNat * 1 + 0) [(.slice z2z ((([] : List Sapi_Hop) ++ (nth z1 (Int.tmod (i64 z4) ((z1.length : Nat) : Int)))).length) zX)])⟩ ⟨h,zqe,zxP⟩ (.cons rfl (.cons rfl (.cons rfl (.cons rfl (.cons rfl .nil))))) (.cons .h1 (.cons .here (.cons .here (.cons .here .nil))))
      ·replace h:=yh h zl8
       refine WC.skip ?_
       exact WX.mid (G:=List (List Sapi_Hop) × Zp × List Value) ⟨(([] : List (List Sapi_Hop)) ++ z1),[],([] ++ z1o)⟩ ⟨h,(Zle.refl _),z1v⟩ (.cons rfl (.cons rfl (.cons rfl (.cons rfl (.cons rfl .nil))))) (.cons .h4 (.cons .h2 (.cons .here (.cons .h1 .nil))))
     ·rintro z5e z8b zce ⟨h,z1Y,zqf⟩
      replace h:=(zxL z5e).symm.trans h
      refine WC.b ?_
      obtain ⟨z5P,zxR,h⟩:=z8 h
      refine WC.a ?_
      refine WL.a (d:=139) rfl rfl rfl (yu yK rfl (yJ .h3) rfl) ?_
      refine WL.pu rfl (WL.pu rfl (WL.pu rfl ?_))
      refine WL.y2o (dd:=143) rfl rfl rfl (zt (l:=[.tmp 139,.tmp 140,.tmp 141,.tmp 142]) Try.call12 (.cons rfl (.cons rfl (.cons rfl (.cons rfl .nil))))) .nil (y2w hz .nil .here (.cons .h1 (.cons .h1 .nil)) fun w pz ho la=>y1J _ _ _ _ _ _ _ _ _ _ _ _ _ _ _ _ _ _ _ _ _ _ _ _ _ _ zxR w pz ((((z2r.mono ((Zle.left _ _).trans z1Y)).weak (fun _ _ h=>yq ((Zle.left _ _).trans z1Y) h)).mono (Zle.left _ _)).weak (fun _ _ h=>yq (Zle.left _ _) h)) ((((z2s.mono ((Zle.left _ _).trans z1Y)).weak (fun _ _ h=>ys ((Zle.left _ _).trans z1Y) h)).mono (Zle.left _ _)).weak (fun _ _ h=>ys (Zle.left _ _) h)) ((z2t.mono ((Zle.left _ _).trans z1Y)).mono (Zle.left _ _)) ((z2u.mono ((Zle.left _ _).trans z1Y)).mono (Zle.left _ _)) ((((z2v.mono ((Zle.left _ _).trans z1Y)).weak (fun _ _ h=>yr ((Zle.left _ _).trans z1Y) h)).mono (Zle.left _ _)).weak (fun _ _ h=>yr (Zle.left _ _) h)) ((z2w.mono ((Zle.left _ _).trans z1Y)).mono (Zle.left _ _)) ((((z2x.mono ((Zle.left _ _).trans z1Y)).weak (fun _ _ h=>yt ((Zle.left _ _).trans z1Y) h)).mono (Zle.left _ _)).weak (fun _ _ h=>yt (Zle.left _ _) h)) ((z2y.mono ((Zle.left _ _).trans z1Y)).mono (Zle.left _ _)) (ZA.row (la _ (.head _) _) (zqf.weak (fun _ _ h=>yH (Zle.left _ _) h)) ⟨w,pz.1⟩) (ZA.row (la _ (.tail _ (.head _)) _) (RR.yE (enc:=e53) (fun _=>rfl) _) ⟨w,pz.1⟩)) ?_
      rintro zxS zxT zxU zxV _
      refine WL.pu rfl (WL.pu rfl (WL.pu rfl (WL.pu rfl (WL.pu rfl (WL.pu rfl (WL.pu rfl (WL.nil (WX.a (WC.b ?_)))))))))
      obtain ⟨zgZ,zqg,h⟩:=z8 h
      obtain ⟨zkQ,zqh,h⟩:=z8 h
      refine WC.a (WL.pu rfl (WL.pu rfl (WL.pu rfl (WL.pu rfl ?_))))
      refine WL.seg true 6 150 (B:=(decide (z5P.2.2 = 310)) && (decide ((i64 (((z5P.1.length : Nat) : Int) + ((z5P.2.1.length : Nat) : Int))) = 0))) rfl rfl rfl rfl rfl rfl (fun h=>(y1c h).symm) (fun _ zxW=>?_) ?_
      ·skip
       refine WL.pu rfl ?_
       refine WL.a (d:=152) rfl rfl rfl (yz Try.underlying36 rfl) ?_
       refine WL.pu rfl ?_
       refine WL.a (d:=154) rfl rfl rfl (yz Try.underlying36 rfl) ?_
       refine WL.pu rfl (WL.pu rfl (WL.pu rfl ?_))
       exact WL.yi (y1d zxW) rfl rfl .all
      refine WL.pu rfl ?_
      refine WL.seg true 7 158 (B:=zgZ) rfl rfl rfl rfl rfl rfl (fun h=>(Option.some.inj (yh zqg h)).symm) (fun _ zxX=>?_) ?_
      ·skip
       have zeY:=yg zqg zxX
       obtain ⟨zpO,zxY,zeY⟩:=z8 zeY
       replace zeY:=Option.some.inj zeY
       refine WL.a (d:=159) rfl rfl rfl (yu yK rfl (yJ .h5) rfl) ?_
       refine WL.pu rfl (WL.pu rfl ?_)
       refine WL.b (dd:=162) rfl rfl rfl (zt (l:=[.tmp 159,.tmp 160,.tmp 161]) Try.call15 (.cons rfl (.cons rfl (.cons rfl .nil)))) .nil (y2w hz .nil .h2 (.cons .h3 .nil) fun w pz ho la=>y1n _ _ _ _ _ _ _ _ _ _ _ _ _ _ _ _ _ _ _ _ _ _ _ zxY w pz ((((z2r.mono ((Zle.left _ _).trans z1Y)).weak (fun _ _ h=>yq ((Zle.left _ _).trans z1Y) h)).mono (Zle.left _ _)).weak (fun _ _ h=>yq (Zle.left _ _) h)) ((((z2s.mono ((Zle.left _ _).trans z1Y)).weak (fun _ _ h=>ys ((Zle.left _ _).trans z1Y) h)).mono (Zle.left _ _)).weak (fun _ _ h=>ys (Zle.left _ _) h)) ((z2t.mono ((Zle.left _ _).trans z1Y)).mono (Zle.left _ _)) ((z2u.mono ((Zle.left _ _).trans z1Y)).mono (Zle.left _ _)) ((((z2v.mono ((Zle.left _ _).trans z1Y)).weak (fun _ _ h=>yr ((Zle.left _ _).trans z1Y) h)).mono (Zle.left _ _)).weak (fun _ _ h=>yr (Zle.left _ _) h)) ((z2w.mono ((Zle.left _ _).trans z1Y)).mono (Zle.left _ _)) ((((z2x.mono ((Zle.left _ _).trans z1Y)).weak (fun _ _ h=>yt ((Zle.left _ _).trans z1Y) h)).mono (Zle.left _ _)).weak (fun _ _ h=>yt (Zle.left _ _) h)) ((z2y.mono ((Zle.left _ _).trans z1Y)).mono (Zle.left _ _)) (ZA.row (la _ (.head _) _) (zqf.weak (fun _ _ h=>yH (Zle.left _ _) h)) ⟨w,pz.1⟩)) ?_
       refine WL.pu rfl ?_
       refine WL.a (d:=164) rfl rfl rfl (y44 rfl rfl) ?_
       refine WL.a (d:=165) rfl rfl rfl (y41 Try.underlying4 rfl rfl) ?_
       refine WL.pu rfl ?_
       exact WL.yi zeY rfl rfl .all
      refine WL.pu rfl ?_
      refine WL.y3E (fun (zcf : Zp)=>Zle (Z ++ z8b) (Z ++ zcf)) (fun (zcf : Zp)=>[(169,(.bool zkQ))]) (fun (zcf : Zp)=>[row (.slice zxS z5P.1.length zxT) 50 3 (z5P.1.flatMap e50),row (.slice zxU z5P.2.1.length zxV) 50 3 (z5P.2.1.flatMap e50),fz zcf,row (.slice z1y z5e.length zU) 55 1 zce,row (.slice z2Y ((([] : List zSt) ++ zB).length) z2Z) 53 3 ((([] : List zSt) ++ zB).flatMap e53),stb z1u 31 [(.slice z1D z5.fModules.length z1E),(.slice z1F z5.fChannels.length z1G),(.slice z1H z5.fSwitches.length z1I),(.slice z1J z5.fLinks.length z1K),(.slice z1L z5.fVLs.length z1M),(.slice z1N z5.fHealth.length z1O),(.slice z1P z5.fCauses.length z1Q),(.slice z1R z5.fVersions.length z1S)]]) 2 ?_ (fun zcf zDT=>?_)
      ·rcases Bool.eq_false_or_eq_true zgZ with hb' | hb'
       ·have zqi:=hb'; clear hb'
        have zeZ:=yg zqh zqi
        obtain ⟨zpP,zxZ,zeZ⟩:=z8 zeZ
        replace zeZ:=Option.some.inj zeZ
        refine WL.pin (i:=167) rfl zqi ?_
        refine WL.y2g (dd:=168) rfl rfl rfl (zt (l:=[]) Try.call11 .nil) .nil (ccz hz .nil .h2 fun w pz ho=>y1x _ _ zxZ w pz ) ?_
        rintro zy0 _
        refine WL.merge .here .h2 ?_
        refine WL.pu rfl ?_
        exact WL.y1r (G:=Zp) (z8b ++ zy0) ((Zle.left _ _).trans (Zle.yD _ _ _)) (.cons (zi zeZ) .nil) (.cons .h1 (.cons .h1 (.cons .here (.cons .here (.cons .here (.cons .here .nil))))))
       ·have zqj:=hb'; clear hb'
        have zl9:=yh zqh zqj
        replace zl9:=Option.some.inj zl9
        refine WL.pin (i:=167) rfl zqj ?_
        refine WL.e rfl rfl rfl (WL.pu rfl ?_)
        exact WL.y1r (G:=Zp) z8b (Zle.refl _) (.cons (zi zl9) .nil) (.cons .here (.cons .here (.cons .here (.cons .here (.cons .here (.cons .here .nil))))))
      ·skip
       refine WL.pu rfl (WL.nil (WX.a (WC.ret ?_)))
       obtain rfl:=Option.some.inj h
       refine WX.yj Try.results9 (.tmp rfl .nil) (fun w hw=>?_)
       exact ⟨zcf,yL rfl,trivial,hw.sub (.cons .h2 .nil)⟩
    ·replace h:=yh h zl7
     refine WC.b (WC.a (WL.pu rfl (WL.pu rfl (WL.nil (WX.a ?_)))))
     refine WC.cond rfl (fun zla=>?_) (fun zla=>?_)
     ·replace h:=yg h zla
      obtain ⟨zac,h⟩:=ye h
      refine WC.a (WL.pu rfl (WL.pu rfl ?_))
      refine WL.a (d:=76) rfl rfl rfl (yz Try.underlying55 rfl) ?_
      refine WL.pu rfl ?_
      refine WL.a (d:=78) rfl rfl rfl (ya y5g rfl rfl) ?_
      refine WL.a (d:=79) rfl rfl rfl (yb y5h rfl (yd .h3 rfl)) ?_
      refine WL.a (d:=80) rfl rfl rfl (yz Try.underlying25 rfl) ?_
      refine WL.know (fun w hw=>Hp.y15 .h1 hw (by intro hz'; have:=zac; rw [hz'] at this; omega)) ?_
      rintro ⟨zcg,rfl⟩
      refine WL.a (d:=81) rfl rfl rfl (ym y2W rfl rfl zac.1 zac.2 yM) ?_
      refine WL.a (d:=82) rfl rfl rfl (ya y5n rfl (Addr.add_lit _ _ _)) ?_
      refine WL.y10 rfl rfl (y12 (vs:=[(.int .i64 ((z5.fLinks.length : Nat) : Int))]) (ds:=((([] : List Sapi_Hop) ++ (nth z1 (Int.tmod (i64 z4) ((z1.length : Nat) : Int)))).set ((i64 ((((([] : List Sapi_Hop) ++ (nth z1 (Int.tmod (i64 z4) ((z1.length : Nat) : Int)))).length : Nat) : Int) - 1)) : Int).toNat (⟨((nth (([] : List Sapi_Hop) ++ (nth z1 (Int.tmod (i64 z4) ((z1.length : Nat) : Int)))) (i64 ((((([] : List Sapi_Hop) ++ (nth z1 (Int.tmod (i64 z4) ((z1.length : Nat) : Int)))).length : Nat) : Int) - 1))).fNode),((nth (([] : List Sapi_Hop) ++ (nth z1 (Int.tmod (i64 z4) ((z1.length : Nat) : Int)))) (i64 ((((([] : List Sapi_Hop) ++ (nth z1 (Int.tmod (i64 z4) ((z1.length : Nat) : Int)))).length : Nat) : Int) - 1))).fNext),((z5.fLinks.length : Nat) : Int)⟩ : Sapi_Hop)).flatMap e59) y5q rfl rfl rfl rfl (y2V rfl y3z) .h1 (y2e (enc:=e59) (sz:=3) (k:=2) (fun _=>rfl) zac.1 zac.2 (by decide)) (y2d (enc:=e59) (l:=([] : List Sapi_Hop) ++ (nth z1 (Int.tmod (i64 z4) ((z1.length : Nat) : Int)))) (sz:=3) (vs:=[(.int .i64 ((z5.fLinks.length : Nat) : Int))]) (y:=(⟨((nth (([] : List Sapi_Hop) ++ (nth z1 (Int.tmod (i64 z4) ((z1.length : Nat) : Int)))) (i64 ((((([] : List Sapi_Hop) ++ (nth z1 (Int.tmod (i64 z4) ((z1.length : Nat) : Int)))).length : Nat) : Int) - 1))).fNode),((nth (([] : List Sapi_Hop) ++ (nth z1 (Int.tmod (i64 z4) ((z1.length : Nat) : Int)))) (i64 ((((([] : List Sapi_Hop) ++ (nth z1 (Int.tmod (i64 z4) ((z1.length : Nat) : Int)))).length : Nat) : Int) - 1))).fNext),((z5.fLinks.length : Nat) : Int)⟩ : Sapi_Hop)) (k:=2) (fun _=>rfl) zac.1 zac.2 rfl (Nat.le_of_ble_eq_true rfl))) ?_
      refine WL.relen .here (u:=(.slice (some ⟨zcg,0,none⟩) (((([] : List Sapi_Hop) ++ (nth z1 (Int.tmod (i64 z4) ((z1.length : Nat) : Int)))).set ((i64 ((((([] : List Sapi_Hop) ++ (nth z1 (Int.tmod (i64 z4) ((z1.length : Nat) : Int)))).length : Nat) : Int) - 1)) : Int).toNat (⟨((nth (([] : List Sapi_Hop) ++ (nth z1 (Int.tmod (i64 z4) ((z1.length : Nat) : Int)))) (i64 ((((([] : List Sapi_Hop) ++ (nth z1 (Int.tmod (i64 z4) ((z1.length : Nat) : Int)))).length : Nat) : Int) - 1))).fNode),((nth (([] : List Sapi_Hop) ++ (nth z1 (Int.tmod (i64 z4) ((z1.length : Nat) : Int)))) (i64 ((((([] : List Sapi_Hop) ++ (nth z1 (Int.tmod (i64 z4) ((z1.length : Nat) : Int)))).length : Nat) : Int) - 1))).fNext),((z5.fLinks.length : Nat) : Int)⟩ : Sapi_Hop)).length) zX)) (yR (List.length_set).symm) ?_
      refine WL.repin (i:=15) rfl (u:=(.slice (some ⟨zcg,0,none⟩) (((([] : List Sapi_Hop) ++ (nth z1 (Int.tmod (i64 z4) ((z1.length : Nat) : Int)))).set ((i64 ((((([] : List Sapi_Hop) ++ (nth z1 (Int.tmod (i64 z4) ((z1.length : Nat) : Int)))).length : Nat) : Int) - 1)) : Int).toNat (⟨((nth (([] : List Sapi_Hop) ++ (nth z1 (Int.tmod (i64 z4) ((z1.length : Nat) : Int)))) (i64 ((((([] : List Sapi_Hop) ++ (nth z1 (Int.tmod (i64 z4) ((z1.length : Nat) : Int)))).length : Nat) : Int) - 1))).fNode),((nth (([] : List Sapi_Hop) ++ (nth z1 (Int.tmod (i64 z4) ((z1.length : Nat) : Int)))) (i64 ((((([] : List Sapi_Hop) ++ (nth z1 (Int.tmod (i64 z4) ((z1.length : Nat) : Int)))).length : Nat) : Int) - 1))).fNext),((z5.fLinks.length : Nat) : Int)⟩ : Sapi_Hop)).length) zX)) (yR (List.length_set).symm) ?_
      refine WL.nil (WX.yf (WX.a ?_))
      obtain ⟨zh2,zy1,h⟩:=yO h
      refine WC.y1U (fun (z5f : List (List Sapi_Hop)) (z8c : Zp) (zch : List Value)=>(zh2 z5f = some r) ∧ (Zle (Z ++ []) (Z ++ z8c)) ∧ (RR 1 (p55 (Z ++ z8c)) zch z5f)) (fun (z5f : List (List Sapi_Hop)) (z8c : Zp) (zch : List Value)=>[(1,(.int .i64 z1d)),(6,(.pointer (some ⟨z1u,0,none⟩))),(14,(.slice z1y z5f.length zU)),(16,(.slice z2Y ((([] : List zSt) ++ zB).length) z2Z)),(17,(.int .i64 310))]) (fun (z5f : List (List Sapi_Hop)) (z8c : Zp) (zch : List Value)=>[fz z8c,row (.slice z1y z5f.length zU) 55 1 zch,row (.slice z2Y ((([] : List zSt) ++ zB).length) z2Z) 53 3 ((([] : List zSt) ++ zB).flatMap e53),stb z1u 31 [(.slice z1D z5.fModules.length z1E),(.slice z1F z5.fChannels.length z1G),(.slice z1H z5.fSwitches.length z1I),(.slice z1J z5.fLinks.length z1K),(.slice z1L z5.fVLs.length z1M),(.slice z1N z5.fHealth.length z1O),(.slice z1P z5.fCauses.length z1Q),(.slice z1R z5.fVersions.length z1S)]]) ?_ ?_
      ·skip
       refine WC.b (WC.a (WL.pu rfl ?_))
       refine WL.a (d:=127) rfl rfl rfl (y28 rfl rfl (by decide) rfl) ?_
       refine WL.pu rfl (WL.pu rfl ?_)
       refine WL.seg true 3 129 (B:=(decide ((Int.tmod zK 9) ≥ 2)) && (decide ((Int.tmod zK 9) ≤ 5))) rfl rfl rfl rfl rfl rfl (fun h=>(y1c h).symm) (fun _ zy2=>?_) ?_
       ·skip
        refine WL.pu rfl ?_
        refine WL.a (d:=131) rfl rfl rfl (y28 rfl rfl (by decide) rfl) ?_
        refine WL.pu rfl (WL.pu rfl ?_)
        exact WL.yi (y1d zy2) rfl rfl .all
       refine WL.nil (WX.a ?_)
       refine WC.cond rfl (fun zlb=>?_) (fun zlb=>?_)
       ·replace h:=yg h zlb
        obtain ⟨zad,h⟩:=ye h
        refine WC.a (WL.pu rfl (WL.pu rfl (WL.pu rfl ?_)))
        refine WL.know (fun w hw=>Hp.y15 .h2 hw (by intro hz'; have:=zad; rw [hz'] at this; omega)) ?_
        rintro ⟨zqk,rfl⟩
        obtain ⟨zDU,zDV,zDW,zy3,⟨zDX,zDY,rfl,zDZ⟩⟩:=RR.elem (Pr:=(p55 (Z ++ []))) z1v zad.1 zad.2
        refine WL.a (d:=137) rfl rfl rfl (ym y2i rfl rfl zad.1 zad.2 yM) ?_
        refine WL.freezeS (ls:=(([] : List Sapi_Hop) ++ (nth z1 (Int.tmod (i64 z4) ((z1.length : Nat) : Int)))).set ((i64 ((((([] : List Sapi_Hop) ++ (nth z1 (Int.tmod (i64 z4) ((z1.length : Nat) : Int)))).length : Nat) : Int) - 1)) : Int).toNat (⟨((nth (([] : List Sapi_Hop) ++ (nth z1 (Int.tmod (i64 z4) ((z1.length : Nat) : Int)))) (i64 ((((([] : List Sapi_Hop) ++ (nth z1 (Int.tmod (i64 z4) ((z1.length : Nat) : Int)))).length : Nat) : Int) - 1))).fNode),((nth (([] : List Sapi_Hop) ++ (nth z1 (Int.tmod (i64 z4) ((z1.length : Nat) : Int)))) (i64 ((((([] : List Sapi_Hop) ++ (nth z1 (Int.tmod (i64 z4) ((z1.length : Nat) : Int)))).length : Nat) : Int) - 1))).fNext),((z5.fLinks.length : Nat) : Int)⟩ : Sapi_Hop)) .here .h3 hz (RR.yE (enc:=e59) (fun _=>rfl) _) ?_
        intro zql zqm zy4
        obtain ⟨zy5,zy6⟩:=RR.store (Pr:=(p55 (Z ++ zql))) (vs:=[(.slice (some ⟨zcg,0,none⟩) (((([] : List Sapi_Hop) ++ (nth z1 (Int.tmod (i64 z4) ((z1.length : Nat) : Int)))).set ((i64 ((((([] : List Sapi_Hop) ++ (nth z1 (Int.tmod (i64 z4) ((z1.length : Nat) : Int)))).length : Nat) : Int) - 1)) : Int).toNat (⟨((nth (([] : List Sapi_Hop) ++ (nth z1 (Int.tmod (i64 z4) ((z1.length : Nat) : Int)))) (i64 ((((([] : List Sapi_Hop) ++ (nth z1 (Int.tmod (i64 z4) ((z1.length : Nat) : Int)))).length : Nat) : Int) - 1))).fNode),((nth (([] : List Sapi_Hop) ++ (nth z1 (Int.tmod (i64 z4) ((z1.length : Nat) : Int)))) (i64 ((((([] : List Sapi_Hop) ++ (nth z1 (Int.tmod (i64 z4) ((z1.length : Nat) : Int)))).length : Nat) : Int) - 1))).fNext),((z5.fLinks.length : Nat) : Int)⟩ : Sapi_Hop)).length) zX)]) (k:=0) (y:=(([] : List Sapi_Hop) ++ (nth z1 (Int.tmod (i64 z4) ((z1.length : Nat) : Int)))).set ((i64 ((((([] : List Sapi_Hop) ++ (nth z1 (Int.tmod (i64 z4) ((z1.length : Nat) : Int)))).length : Nat) : Int) - 1)) : Int).toNat (⟨((nth (([] : List Sapi_Hop) ++ (nth z1 (Int.tmod (i64 z4) ((z1.length : Nat) : Int)))) (i64 ((((([] : List Sapi_Hop) ++ (nth z1 (Int.tmod (i64 z4) ((z1.length : Nat) : Int)))).length : Nat) : Int) - 1))).fNode),((nth (([] : List Sapi_Hop) ++ (nth z1 (Int.tmod (i64 z4) ((z1.length : Nat) : Int)))) (i64 ((((([] : List Sapi_Hop) ++ (nth z1 (Int.tmod (i64 z4) ((z1.length : Nat) : Int)))).length : Nat) : Int) - 1))).fNext),((z5.fLinks.length : Nat) : Int)⟩ : Sapi_Hop)) (z1v.weak (fun _ _ h=>yH zqm h)) zad.1 zad.2 zy3 rfl (Nat.le_of_ble_eq_true rfl) (show p55 _ _ _ from ⟨_,_,rfl,zy4⟩)
        refine WL.y10 rfl rfl (y12 (vs:=[(.slice (some ⟨zcg,0,none⟩) (((([] : List Sapi_Hop) ++ (nth z1 (Int.tmod (i64 z4) ((z1.length : Nat) : Int)))).set ((i64 ((((([] : List Sapi_Hop) ++ (nth z1 (Int.tmod (i64 z4) ((z1.length : Nat) : Int)))).length : Nat) : Int) - 1)) : Int).toNat (⟨((nth (([] : List Sapi_Hop) ++ (nth z1 (Int.tmod (i64 z4) ((z1.length : Nat) : Int)))) (i64 ((((([] : List Sapi_Hop) ++ (nth z1 (Int.tmod (i64 z4) ((z1.length : Nat) : Int)))).length : Nat) : Int) - 1))).fNode),((nth (([] : List Sapi_Hop) ++ (nth z1 (Int.tmod (i64 z4) ((z1.length : Nat) : Int)))) (i64 ((((([] : List Sapi_Hop) ++ (nth z1 (Int.tmod (i64 z4) ((z1.length : Nat) : Int)))).length : Nat) : Int) - 1))).fNext),((z5.fLinks.length : Nat) : Int)⟩ : Sapi_Hop)).length) zX)]) (ds:=y1H ([] ++ z1o) (((Int.tmod (i64 z4) ((z1.length : Nat) : Int)) : Int).toNat * 1 + 0) [(.slice (some ⟨zcg,0,none⟩) (((([] : List Sapi_Hop) ++ (nth z1 (Int.tmod (i64 z4) ((z1.length : Nat) : Int)))).set ((i64 ((((([] : List Sapi_Hop) ++ (nth z1 (Int.tmod (i64 z4) ((z1.length : Nat) : Int)))).length : Nat) : Int) - 1)) : Int).toNat (⟨((nth (([] : List Sapi_Hop) ++ (nth z1 (Int.tmod (i64 z4) ((z1.length : Nat) : Int)))) (i64 ((((([] : List Sapi_Hop) ++ (nth z1 (Int.tmod (i64 z4) ((z1.length : Nat) : Int)))).length : Nat) : Int) - 1))).fNode),((nth (([] : List Sapi_Hop) ++ (nth z1 (Int.tmod (i64 z4) ((z1.length : Nat) : Int)))) (i64 ((((([] : List Sapi_Hop) ++ (nth z1 (Int.tmod (i64 z4) ((z1.length : Nat) : Int)))).length : Nat) : Int) - 1))).fNext),((z5.fLinks.length : Nat) : Int)⟩ : Sapi_Hop)).length) zX)]) y3Y rfl rfl rfl rfl (y2V rfl y3z) .h2 zy6 rfl) ?_
        refine WL.relen .here (u:=(.slice (some ⟨zqk,0,none⟩) (((([] : List (List Sapi_Hop)) ++ z1).set ((Int.tmod (i64 z4) ((z1.length : Nat) : Int)) : Int).toNat ((([] : List Sapi_Hop) ++ (nth z1 (Int.tmod (i64 z4) ((z1.length : Nat) : Int)))).set ((i64 ((((([] : List Sapi_Hop) ++ (nth z1 (Int.tmod (i64 z4) ((z1.length : Nat) : Int)))).length : Nat) : Int) - 1)) : Int).toNat (⟨((nth (([] : List Sapi_Hop) ++ (nth z1 (Int.tmod (i64 z4) ((z1.length : Nat) : Int)))) (i64 ((((([] : List Sapi_Hop) ++ (nth z1 (Int.tmod (i64 z4) ((z1.length : Nat) : Int)))).length : Nat) : Int) - 1))).fNode),((nth (([] : List Sapi_Hop) ++ (nth z1 (Int.tmod (i64 z4) ((z1.length : Nat) : Int)))) (i64 ((((([] : List Sapi_Hop) ++ (nth z1 (Int.tmod (i64 z4) ((z1.length : Nat) : Int)))).length : Nat) : Int) - 1))).fNext),((z5.fLinks.length : Nat) : Int)⟩ : Sapi_Hop))).length) zU)) (yR (List.length_set).symm) ?_
        refine WL.repin (i:=14) rfl (u:=(.slice (some ⟨zqk,0,none⟩) (((([] : List (List Sapi_Hop)) ++ z1).set ((Int.tmod (i64 z4) ((z1.length : Nat) : Int)) : Int).toNat ((([] : List Sapi_Hop) ++ (nth z1 (Int.tmod (i64 z4) ((z1.length : Nat) : Int)))).set ((i64 ((((([] : List Sapi_Hop) ++ (nth z1 (Int.tmod (i64 z4) ((z1.length : Nat) : Int)))).length : Nat) : Int) - 1)) : Int).toNat (⟨((nth (([] : List Sapi_Hop) ++ (nth z1 (Int.tmod (i64 z4) ((z1.length : Nat) : Int)))) (i64 ((((([] : List Sapi_Hop) ++ (nth z1 (Int.tmod (i64 z4) ((z1.length : Nat) : Int)))).length : Nat) : Int) - 1))).fNode),((nth (([] : List Sapi_Hop) ++ (nth z1 (Int.tmod (i64 z4) ((z1.length : Nat) : Int)))) (i64 ((((([] : List Sapi_Hop) ++ (nth z1 (Int.tmod (i64 z4) ((z1.length : Nat) : Int)))).length : Nat) : Int) - 1))).fNext),((z5.fLinks.length : Nat) : Int)⟩ : Sapi_Hop))).length) zU)) (yR (List.length_set).symm) ?_
        refine WL.nil ?_
        exact WX.mid (G:=List (List Sapi_Hop) × Zp × List Value) ⟨((([] : List (List Sapi_Hop)) ++ z1).set ((Int.tmod (i64 z4) ((z1.length : Nat) : Int)) : Int).toNat ((([] : List Sapi_Hop) ++ (nth z1 (Int.tmod (i64 z4) ((z1.length : Nat) : Int)))).set ((i64 ((((([] : List Sapi_Hop) ++ (nth z1 (Int.tmod (i64 z4) ((z1.length : Nat) : Int)))).length : Nat) : Int) - 1)) : Int).toNat (⟨((nth (([] : List Sapi_Hop) ++ (nth z1 (Int.tmod (i64 z4) ((z1.length : Nat) : Int)))) (i64 ((((([] : List Sapi_Hop) ++ (nth z1 (Int.tmod (i64 z4) ((z1.length : Nat) : Int)))).length : Nat) : Int) - 1))).fNode),((nth (([] : List Sapi_Hop) ++ (nth z1 (Int.tmod (i64 z4) ((z1.length : Nat) : Int)))) (i64 ((((([] : List Sapi_Hop) ++ (nth z1 (Int.tmod (i64 z4) ((z1.length : Nat) : Int)))).length : Nat) : Int) - 1))).fNext),((z5.fLinks.length : Nat) : Int)⟩ : Sapi_Hop))),zql,(y1H ([] ++ z1o) (((Int.tmod (i64 z4) ((z1.length : Nat) : Int)) : Int).toNat * 1 + 0) [(.slice (some ⟨zcg,0,none⟩) (((([] : List Sapi_Hop) ++ (nth z1 (Int.tmod (i64 z4) ((z1.length : Nat) : Int)))).set ((i64 ((((([] : List Sapi_Hop) ++ (nth z1 (Int.tmod (i64 z4) ((z1.length : Nat) : Int)))).length : Nat) : Int) - 1)) : Int).toNat (⟨((nth (([] : List Sapi_Hop) ++ (nth z1 (Int.tmod (i64 z4) ((z1.length : Nat) : Int)))) (i64 ((((([] : List Sapi_Hop) ++ (nth z1 (Int.tmod (i64 z4) ((z1.length : Nat) : Int)))).length : Nat) : Int) - 1))).fNode),((nth (([] : List Sapi_Hop) ++ (nth z1 (Int.tmod (i64 z4) ((z1.length : Nat) : Int)))) (i64 ((((([] : List Sapi_Hop) ++ (nth z1 (Int.tmod (i64 z4) ((z1.length : Nat) : Int)))).length : Nat) : Int) - 1))).fNext),((z5.fLinks.length : Nat) : Int)⟩ : Sapi_Hop)).length) zX)])⟩ ⟨h,zqm,zy5⟩ (.cons rfl (.cons rfl (.cons rfl (.cons rfl (.cons rfl .nil))))) (.cons .h1 (.cons .here (.cons .here (.cons .here .nil))))
       ·replace h:=yh h zlb
        refine WC.skip ?_
        exact WX.mid (G:=List (List Sapi_Hop) × Zp × List Value) ⟨(([] : List (List Sapi_Hop)) ++ z1),[],([] ++ z1o)⟩ ⟨h,(Zle.refl _),z1v⟩ (.cons rfl (.cons rfl (.cons rfl (.cons rfl (.cons rfl .nil))))) (.cons .h4 (.cons .h2 (.cons .h1 (.cons .h1 .nil))))
      ·rintro z5f z8c zch ⟨h,z1Z,zqn⟩
       replace h:=(zy1 z5f).symm.trans h
       refine WC.b ?_
       obtain ⟨z5Q,zy7,h⟩:=z8 h
       refine WC.a ?_
       refine WL.a (d:=139) rfl rfl rfl (yu yK rfl (yJ .h3) rfl) ?_
       refine WL.pu rfl (WL.pu rfl (WL.pu rfl ?_))
       refine WL.y2o (dd:=143) rfl rfl rfl (zt (l:=[.tmp 139,.tmp 140,.tmp 141,.tmp 142]) Try.call12 (.cons rfl (.cons rfl (.cons rfl (.cons rfl .nil))))) .nil (y2w hz .nil .here (.cons .h1 (.cons .h1 .nil)) fun w pz ho la=>y1J _ _ _ _ _ _ _ _ _ _ _ _ _ _ _ _ _ _ _ _ _ _ _ _ _ _ zy7 w pz ((((z2r.mono ((Zle.left _ _).trans z1Z)).weak (fun _ _ h=>yq ((Zle.left _ _).trans z1Z) h)).mono (Zle.left _ _)).weak (fun _ _ h=>yq (Zle.left _ _) h)) ((((z2s.mono ((Zle.left _ _).trans z1Z)).weak (fun _ _ h=>ys ((Zle.left _ _).trans z1Z) h)).mono (Zle.left _ _)).weak (fun _ _ h=>ys (Zle.left _ _) h)) ((z2t.mono ((Zle.left _ _).trans z1Z)).mono (Zle.left _ _)) ((z2u.mono ((Zle.left _ _).trans z1Z)).mono (Zle.left _ _)) ((((z2v.mono ((Zle.left _ _).trans z1Z)).weak (fun _ _ h=>yr ((Zle.left _ _).trans z1Z) h)).mono (Zle.left _ _)).weak (fun _ _ h=>yr (Zle.left _ _) h)) ((z2w.mono ((Zle.left _ _).trans z1Z)).mono (Zle.left _ _)) ((((z2x.mono ((Zle.left _ _).trans z1Z)).weak (fun _ _ h=>yt ((Zle.left _ _).trans z1Z) h)).mono (Zle.left _ _)).weak (fun _ _ h=>yt (Zle.left _ _) h)) ((z2y.mono ((Zle.left _ _).trans z1Z)).mono (Zle.left _ _)) (ZA.row (la _ (.head _) _) (zqn.weak (fun _ _ h=>yH (Zle.left _ _) h)) ⟨w,pz.1⟩) (ZA.row (la _ (.tail _ (.head _)) _) (RR.yE (enc:=e53) (fun _=>rfl) _) ⟨w,pz.1⟩)) ?_
       rintro zy8 zy9 zya zyb _
       refine WL.pu rfl (WL.pu rfl (WL.pu rfl (WL.pu rfl (WL.pu rfl (WL.pu rfl (WL.pu rfl (WL.nil (WX.a (WC.b ?_)))))))))
       obtain ⟨zh1,zqo,h⟩:=z8 h
       obtain ⟨zkR,zqp,h⟩:=z8 h
       refine WC.a (WL.pu rfl (WL.pu rfl (WL.pu rfl (WL.pu rfl ?_))))
       refine WL.seg true 6 150 (B:=(decide (z5Q.2.2 = 310)) && (decide ((i64 (((z5Q.1.length : Nat) : Int) + ((z5Q.2.1.length : Nat) : Int))) = 0))) rfl rfl rfl rfl rfl rfl (fun h=>(y1c h).symm) (fun _ zyc=>?_) ?_
       ·skip
        refine WL.pu rfl ?_
        refine WL.a (d:=152) rfl rfl rfl (yz Try.underlying36 rfl) ?_
        refine WL.pu rfl ?_
        refine WL.a (d:=154) rfl rfl rfl (yz Try.underlying36 rfl) ?_
        refine WL.pu rfl (WL.pu rfl (WL.pu rfl ?_))
        exact WL.yi (y1d zyc) rfl rfl .all
       refine WL.pu rfl ?_
       refine WL.seg true 7 158 (B:=zh1) rfl rfl rfl rfl rfl rfl (fun h=>(Option.some.inj (yh zqo h)).symm) (fun _ zyd=>?_) ?_
       ·skip
        have zf0:=yg zqo zyd
        obtain ⟨zpQ,zye,zf0⟩:=z8 zf0
        replace zf0:=Option.some.inj zf0
        refine WL.a (d:=159) rfl rfl rfl (yu yK rfl (yJ .h5) rfl) ?_
        refine WL.pu rfl (WL.pu rfl ?_)
        refine WL.b (dd:=162) rfl rfl rfl (zt (l:=[.tmp 159,.tmp 160,.tmp 161]) Try.call15 (.cons rfl (.cons rfl (.cons rfl .nil)))) .nil (y2w hz .nil .h2 (.cons .h3 .nil) fun w pz ho la=>y1n _ _ _ _ _ _ _ _ _ _ _ _ _ _ _ _ _ _ _ _ _ _ _ zye w pz ((((z2r.mono ((Zle.left _ _).trans z1Z)).weak (fun _ _ h=>yq ((Zle.left _ _).trans z1Z) h)).mono (Zle.left _ _)).weak (fun _ _ h=>yq (Zle.left _ _) h)) ((((z2s.mono ((Zle.left _ _).trans z1Z)).weak (fun _ _ h=>ys ((Zle.left _ _).trans z1Z) h)).mono (Zle.left _ _)).weak (fun _ _ h=>ys (Zle.left _ _) h)) ((z2t.mono ((Zle.left _ _).trans z1Z)).mono (Zle.left _ _)) ((z2u.mono ((Zle.left _ _).trans z1Z)).mono (Zle.left _ _)) ((((z2v.mono ((Zle.left _ _).trans z1Z)).weak (fun _ _ h=>yr ((Zle.left _ _).trans z1Z) h)).mono (Zle.left _ _)).weak (fun _ _ h=>yr (Zle.left _ _) h)) ((z2w.mono ((Zle.left _ _).trans z1Z)).mono (Zle.left _ _)) ((((z2x.mono ((Zle.left _ _).trans z1Z)).weak (fun _ _ h=>yt ((Zle.left _ _).trans z1Z) h)).mono (Zle.left _ _)).weak (fun _ _ h=>yt (Zle.left _ _) h)) ((z2y.mono ((Zle.left _ _).trans z1Z)).mono (Zle.left _ _)) (ZA.row (la _ (.head _) _) (zqn.weak (fun _ _ h=>yH (Zle.left _ _) h)) ⟨w,pz.1⟩)) ?_
        refine WL.pu rfl ?_
        refine WL.a (d:=164) rfl rfl rfl (y44 rfl rfl) ?_
        refine WL.a (d:=165) rfl rfl rfl (y41 Try.underlying4 rfl rfl) ?_
        refine WL.pu rfl ?_
        exact WL.yi zf0 rfl rfl .all
       refine WL.pu rfl ?_
       refine WL.y3E (fun (zci : Zp)=>Zle (Z ++ z8c) (Z ++ zci)) (fun (zci : Zp)=>[(169,(.bool zkR))]) (fun (zci : Zp)=>[row (.slice zy8 z5Q.1.length zy9) 50 3 (z5Q.1.flatMap e50),row (.slice zya z5Q.2.1.length zyb) 50 3 (z5Q.2.1.flatMap e50),fz zci,row (.slice z1y z5f.length zU) 55 1 zch,row (.slice z2Y ((([] : List zSt) ++ zB).length) z2Z) 53 3 ((([] : List zSt) ++ zB).flatMap e53),stb z1u 31 [(.slice z1D z5.fModules.length z1E),(.slice z1F z5.fChannels.length z1G),(.slice z1H z5.fSwitches.length z1I),(.slice z1J z5.fLinks.length z1K),(.slice z1L z5.fVLs.length z1M),(.slice z1N z5.fHealth.length z1O),(.slice z1P z5.fCauses.length z1Q),(.slice z1R z5.fVersions.length z1S)]]) 2 ?_ (fun zci zE0=>?_)
       ·rcases Bool.eq_false_or_eq_true zh1 with hb' | hb'
        ·have zqq:=hb'; clear hb'
         have zf1:=yg zqp zqq
         obtain ⟨zpR,zyf,zf1⟩:=z8 zf1
         replace zf1:=Option.some.inj zf1
         refine WL.pin (i:=167) rfl zqq ?_
         refine WL.y2g (dd:=168) rfl rfl rfl (zt (l:=[]) Try.call11 .nil) .nil (ccz hz .nil .h2 fun w pz ho=>y1x _ _ zyf w pz ) ?_
         rintro zyg _
         refine WL.merge .here .h2 ?_
         refine WL.pu rfl ?_
         exact WL.y1r (G:=Zp) (z8c ++ zyg) ((Zle.left _ _).trans (Zle.yD _ _ _)) (.cons (zi zf1) .nil) (.cons .h1 (.cons .h1 (.cons .here (.cons .here (.cons .here (.cons .here .nil))))))
        ·have zqr:=hb'; clear hb'
         have zlc:=yh zqp zqr
         replace zlc:=Option.some.inj zlc
         refine WL.pin (i:=167) rfl zqr ?_
         refine WL.e rfl rfl rfl (WL.pu rfl ?_)
         exact WL.y1r (G:=Zp) z8c (Zle.refl _) (.cons (zi zlc) .nil) (.cons .here (.cons .here (.cons .here (.cons .here (.cons .here (.cons .here .nil))))))
       ·skip
        refine WL.pu rfl (WL.nil (WX.a (WC.ret ?_)))
        obtain rfl:=Option.some.inj h
        refine WX.yj Try.results9 (.tmp rfl .nil) (fun w hw=>?_)
        exact ⟨zci,yL rfl,trivial,hw.sub (.cons .h2 .nil)⟩
     ·replace h:=yh h zla
      refine WC.b (WC.a (WL.pu rfl (WL.pu rfl (WL.nil (WX.a ?_)))))
      refine WC.cond rfl (fun zld=>?_) (fun zld=>?_)
      ·replace h:=yg h zld
       obtain ⟨z5Y,h⟩:=ye h
       refine WC.a (WL.pu rfl (WL.pu rfl ?_))
       refine WL.know (fun w hw=>Hp.y15 .h1 hw (by intro hz'; have:=z5Y; rw [hz'] at this; omega)) ?_
       rintro ⟨zcj,rfl⟩
       refine WL.a (d:=87) rfl rfl rfl (ym y2W rfl rfl z5Y.1 z5Y.2 yM) ?_
       refine WL.a (d:=88) rfl rfl rfl (ya y2F rfl (Addr.add_lit _ _ _)) ?_
       refine WL.a (d:=89) rfl rfl rfl (yb yl rfl (y7r .h1 ((y1A (enc:=e59) (l:=([] : List Sapi_Hop) ++ (nth z1 (Int.tmod (i64 z4) ((z1.length : Nat) : Int)))) (i:=0) (sz:=3) (fun _=>rfl) z5Y.1 z5Y.2) 0 _ rfl))) ?_
       refine WL.a (d:=90) rfl rfl rfl (ym y2W rfl rfl z5Y.1 z5Y.2 yM) ?_
       refine WL.a (d:=91) rfl rfl rfl (ya y4t rfl (Addr.add_lit _ _ _)) ?_
       refine WL.y10 rfl rfl (y12 (vs:=[(.int .i64 ((nth (([] : List Sapi_Hop) ++ (nth z1 (Int.tmod (i64 z4) ((z1.length : Nat) : Int)))) 0).fNode))]) (ds:=((([] : List Sapi_Hop) ++ (nth z1 (Int.tmod (i64 z4) ((z1.length : Nat) : Int)))).set (0 : Int).toNat (⟨((nth (([] : List Sapi_Hop) ++ (nth z1 (Int.tmod (i64 z4) ((z1.length : Nat) : Int)))) 0).fNode),((nth (([] : List Sapi_Hop) ++ (nth z1 (Int.tmod (i64 z4) ((z1.length : Nat) : Int)))) 0).fNode),((nth (([] : List Sapi_Hop) ++ (nth z1 (Int.tmod (i64 z4) ((z1.length : Nat) : Int)))) 0).fLink)⟩ : Sapi_Hop)).flatMap e59) y5q rfl rfl rfl rfl (y2V rfl y3z) .h1 (y2e (enc:=e59) (sz:=3) (k:=1) (fun _=>rfl) z5Y.1 z5Y.2 (by decide)) (y2d (enc:=e59) (l:=([] : List Sapi_Hop) ++ (nth z1 (Int.tmod (i64 z4) ((z1.length : Nat) : Int)))) (sz:=3) (vs:=[(.int .i64 ((nth (([] : List Sapi_Hop) ++ (nth z1 (Int.tmod (i64 z4) ((z1.length : Nat) : Int)))) 0).fNode))]) (y:=(⟨((nth (([] : List Sapi_Hop) ++ (nth z1 (Int.tmod (i64 z4) ((z1.length : Nat) : Int)))) 0).fNode),((nth (([] : List Sapi_Hop) ++ (nth z1 (Int.tmod (i64 z4) ((z1.length : Nat) : Int)))) 0).fNode),((nth (([] : List Sapi_Hop) ++ (nth z1 (Int.tmod (i64 z4) ((z1.length : Nat) : Int)))) 0).fLink)⟩ : Sapi_Hop)) (k:=1) (fun _=>rfl) z5Y.1 z5Y.2 rfl (Nat.le_of_ble_eq_true rfl))) ?_
       refine WL.relen .here (u:=(.slice (some ⟨zcj,0,none⟩) (((([] : List Sapi_Hop) ++ (nth z1 (Int.tmod (i64 z4) ((z1.length : Nat) : Int)))).set (0 : Int).toNat (⟨((nth (([] : List Sapi_Hop) ++ (nth z1 (Int.tmod (i64 z4) ((z1.length : Nat) : Int)))) 0).fNode),((nth (([] : List Sapi_Hop) ++ (nth z1 (Int.tmod (i64 z4) ((z1.length : Nat) : Int)))) 0).fNode),((nth (([] : List Sapi_Hop) ++ (nth z1 (Int.tmod (i64 z4) ((z1.length : Nat) : Int)))) 0).fLink)⟩ : Sapi_Hop)).length) zX)) (yR (List.length_set).symm) ?_
       refine WL.repin (i:=15) rfl (u:=(.slice (some ⟨zcj,0,none⟩) (((([] : List Sapi_Hop) ++ (nth z1 (Int.tmod (i64 z4) ((z1.length : Nat) : Int)))).set (0 : Int).toNat (⟨((nth (([] : List Sapi_Hop) ++ (nth z1 (Int.tmod (i64 z4) ((z1.length : Nat) : Int)))) 0).fNode),((nth (([] : List Sapi_Hop) ++ (nth z1 (Int.tmod (i64 z4) ((z1.length : Nat) : Int)))) 0).fNode),((nth (([] : List Sapi_Hop) ++ (nth z1 (Int.tmod (i64 z4) ((z1.length : Nat) : Int)))) 0).fLink)⟩ : Sapi_Hop)).length) zX)) (yR (List.length_set).symm) ?_
       refine WL.nil (WX.yf (WX.a ?_))
       obtain ⟨zh4,zyh,h⟩:=yO h
       refine WC.y1U (fun (z5g : List (List Sapi_Hop)) (z8d : Zp) (zck : List Value)=>(zh4 z5g = some r) ∧ (Zle (Z ++ []) (Z ++ z8d)) ∧ (RR 1 (p55 (Z ++ z8d)) zck z5g)) (fun (z5g : List (List Sapi_Hop)) (z8d : Zp) (zck : List Value)=>[(1,(.int .i64 z1d)),(6,(.pointer (some ⟨z1u,0,none⟩))),(14,(.slice z1y z5g.length zU)),(16,(.slice z2Y ((([] : List zSt) ++ zB).length) z2Z)),(17,(.int .i64 310))]) (fun (z5g : List (List Sapi_Hop)) (z8d : Zp) (zck : List Value)=>[fz z8d,row (.slice z1y z5g.length zU) 55 1 zck,row (.slice z2Y ((([] : List zSt) ++ zB).length) z2Z) 53 3 ((([] : List zSt) ++ zB).flatMap e53),stb z1u 31 [(.slice z1D z5.fModules.length z1E),(.slice z1F z5.fChannels.length z1G),(.slice z1H z5.fSwitches.length z1I),(.slice z1J z5.fLinks.length z1K),(.slice z1L z5.fVLs.length z1M),(.slice z1N z5.fHealth.length z1O),(.slice z1P z5.fCauses.length z1Q),(.slice z1R z5.fVersions.length z1S)]]) ?_ ?_
       ·skip
        refine WC.b (WC.a (WL.pu rfl ?_))
        refine WL.a (d:=127) rfl rfl rfl (y28 rfl rfl (by decide) rfl) ?_
        refine WL.pu rfl (WL.pu rfl ?_)
        refine WL.seg true 3 129 (B:=(decide ((Int.tmod zK 9) ≥ 2)) && (decide ((Int.tmod zK 9) ≤ 5))) rfl rfl rfl rfl rfl rfl (fun h=>(y1c h).symm) (fun _ zyi=>?_) ?_
        ·skip
         refine WL.pu rfl ?_
         refine WL.a (d:=131) rfl rfl rfl (y28 rfl rfl (by decide) rfl) ?_
         refine WL.pu rfl (WL.pu rfl ?_)
         exact WL.yi (y1d zyi) rfl rfl .all
        refine WL.nil (WX.a ?_)
        refine WC.cond rfl (fun zle=>?_) (fun zle=>?_)
        ·replace h:=yg h zle
         obtain ⟨zae,h⟩:=ye h
         refine WC.a (WL.pu rfl (WL.pu rfl (WL.pu rfl ?_)))
         refine WL.know (fun w hw=>Hp.y15 .h2 hw (by intro hz'; have:=zae; rw [hz'] at this; omega)) ?_
         rintro ⟨zqs,rfl⟩
         obtain ⟨zE1,zE2,zE3,zyj,⟨zE4,zE5,rfl,zE6⟩⟩:=RR.elem (Pr:=(p55 (Z ++ []))) z1v zae.1 zae.2
         refine WL.a (d:=137) rfl rfl rfl (ym y2i rfl rfl zae.1 zae.2 yM) ?_
         refine WL.freezeS (ls:=(([] : List Sapi_Hop) ++ (nth z1 (Int.tmod (i64 z4) ((z1.length : Nat) : Int)))).set (0 : Int).toNat (⟨((nth (([] : List Sapi_Hop) ++ (nth z1 (Int.tmod (i64 z4) ((z1.length : Nat) : Int)))) 0).fNode),((nth (([] : List Sapi_Hop) ++ (nth z1 (Int.tmod (i64 z4) ((z1.length : Nat) : Int)))) 0).fNode),((nth (([] : List Sapi_Hop) ++ (nth z1 (Int.tmod (i64 z4) ((z1.length : Nat) : Int)))) 0).fLink)⟩ : Sapi_Hop)) .here .h3 hz (RR.yE (enc:=e59) (fun _=>rfl) _) ?_
         intro zqt zqu zyk
         obtain ⟨zyl,zym⟩:=RR.store (Pr:=(p55 (Z ++ zqt))) (vs:=[(.slice (some ⟨zcj,0,none⟩) (((([] : List Sapi_Hop) ++ (nth z1 (Int.tmod (i64 z4) ((z1.length : Nat) : Int)))).set (0 : Int).toNat (⟨((nth (([] : List Sapi_Hop) ++ (nth z1 (Int.tmod (i64 z4) ((z1.length : Nat) : Int)))) 0).fNode),((nth (([] : List Sapi_Hop) ++ (nth z1 (Int.tmod (i64 z4) ((z1.length : Nat) : Int)))) 0).fNode),((nth (([] : List Sapi_Hop) ++ (nth z1 (Int.tmod (i64 z4) ((z1.length : Nat) : Int)))) 0).fLink)⟩ : Sapi_Hop)).length) zX)]) (k:=0) (y:=(([] : List Sapi_Hop) ++ (nth z1 (Int.tmod (i64 z4) ((z1.length : Nat) : Int)))).set (0 : Int).toNat (⟨((nth (([] : List Sapi_Hop) ++ (nth z1 (Int.tmod (i64 z4) ((z1.length : Nat) : Int)))) 0).fNode),((nth (([] : List Sapi_Hop) ++ (nth z1 (Int.tmod (i64 z4) ((z1.length : Nat) : Int)))) 0).fNode),((nth (([] : List Sapi_Hop) ++ (nth z1 (Int.tmod (i64 z4) ((z1.length : Nat) : Int)))) 0).fLink)⟩ : Sapi_Hop)) (z1v.weak (fun _ _ h=>yH zqu h)) zae.1 zae.2 zyj rfl (Nat.le_of_ble_eq_true rfl) (show p55 _ _ _ from ⟨_,_,rfl,zyk⟩)
         refine WL.y10 rfl rfl (y12 (vs:=[(.slice (some ⟨zcj,0,none⟩) (((([] : List Sapi_Hop) ++ (nth z1 (Int.tmod (i64 z4) ((z1.length : Nat) : Int)))).set (0 : Int).toNat (⟨((nth (([] : List Sapi_Hop) ++ (nth z1 (Int.tmod (i64 z4) ((z1.length : Nat) : Int)))) 0).fNode),((nth (([] : List Sapi_Hop) ++ (nth z1 (Int.tmod (i64 z4) ((z1.length : Nat) : Int)))) 0).fNode),((nth (([] : List Sapi_Hop) ++ (nth z1 (Int.tmod (i64 z4) ((z1.length : Nat) : Int)))) 0).fLink)⟩ : Sapi_Hop)).length) zX)]) (ds:=y1H ([] ++ z1o) (((Int.tmod (i64 z4) ((z1.length : Nat) : Int)) : Int).toNat * 1 + 0) [(.slice (some ⟨zcj,0,none⟩) (((([] : List Sapi_Hop) ++ (nth z1 (Int.tmod (i64 z4) ((z1.length : Nat) : Int)))).set (0 : Int).toNat (⟨((nth (([] : List Sapi_Hop) ++ (nth z1 (Int.tmod (i64 z4) ((z1.length : Nat) : Int)))) 0).fNode),((nth (([] : List Sapi_Hop) ++ (nth z1 (Int.tmod (i64 z4) ((z1.length : Nat) : Int)))) 0).fNode),((nth (([] : List Sapi_Hop) ++ (nth z1 (Int.tmod (i64 z4) ((z1.length : Nat) : Int)))) 0).fLink)⟩ : Sapi_Hop)).length) zX)]) y3Y rfl rfl rfl rfl (y2V rfl y3z) .h2 zym rfl) ?_
         refine WL.relen .here (u:=(.slice (some ⟨zqs,0,none⟩) (((([] : List (List Sapi_Hop)) ++ z1).set ((Int.tmod (i64 z4) ((z1.length : Nat) : Int)) : Int).toNat ((([] : List Sapi_Hop) ++ (nth z1 (Int.tmod (i64 z4) ((z1.length : Nat) : Int)))).set (0 : Int).toNat (⟨((nth (([] : List Sapi_Hop) ++ (nth z1 (Int.tmod (i64 z4) ((z1.length : Nat) : Int)))) 0).fNode),((nth (([] : List Sapi_Hop) ++ (nth z1 (Int.tmod (i64 z4) ((z1.length : Nat) : Int)))) 0).fNode),((nth (([] : List Sapi_Hop) ++ (nth z1 (Int.tmod (i64 z4) ((z1.length : Nat) : Int)))) 0).fLink)⟩ : Sapi_Hop))).length) zU)) (yR (List.length_set).symm) ?_
         refine WL.repin (i:=14) rfl (u:=(.slice (some ⟨zqs,0,none⟩) (((([] : List (List Sapi_Hop)) ++ z1).set ((Int.tmod (i64 z4) ((z1.length : Nat) : Int)) : Int).toNat ((([] : List Sapi_Hop) ++ (nth z1 (Int.tmod (i64 z4) ((z1.length : Nat) : Int)))).set (0 : Int).toNat (⟨((nth (([] : List Sapi_Hop) ++ (nth z1 (Int.tmod (i64 z4) ((z1.length : Nat) : Int)))) 0).fNode),((nth (([] : List Sapi_Hop) ++ (nth z1 (Int.tmod (i64 z4) ((z1.length : Nat) : Int)))) 0).fNode),((nth (([] : List Sapi_Hop) ++ (nth z1 (Int.tmod (i64 z4) ((z1.length : Nat) : Int)))) 0).fLink)⟩ : Sapi_Hop))).length) zU)) (yR (List.length_set).symm) ?_
         refine WL.nil ?_
         exact WX.mid (G:=List (List Sapi_Hop) × Zp × List Value) ⟨((([] : List (List Sapi_Hop)) ++ z1).set ((Int.tmod (i64 z4) ((z1.length : Nat) : Int)) : Int).toNat ((([] : List Sapi_Hop) ++ (nth z1 (Int.tmod (i64 z4) ((z1.length : Nat) : Int)))).set (0 : Int).toNat (⟨((nth (([] : List Sapi_Hop) ++ (nth z1 (Int.tmod (i64 z4) ((z1.length : Nat) : Int)))) 0).fNode),((nth (([] : List Sapi_Hop) ++ (nth z1 (Int.tmod (i64 z4) ((z1.length : Nat) : Int)))) 0).fNode),((nth (([] : List Sapi_Hop) ++ (nth z1 (Int.tmod (i64 z4) ((z1.length : Nat) : Int)))) 0).fLink)⟩ : Sapi_Hop))),zqt,(y1H ([] ++ z1o) (((Int.tmod (i64 z4) ((z1.length : Nat) : Int)) : Int).toNat * 1 + 0) [(.slice (some ⟨zcj,0,none⟩) (((([] : List Sapi_Hop) ++ (nth z1 (Int.tmod (i64 z4) ((z1.length : Nat) : Int)))).set (0 : Int).toNat (⟨((nth (([] : List Sapi_Hop) ++ (nth z1 (Int.tmod (i64 z4) ((z1.length : Nat) : Int)))) 0).fNode),((nth (([] : List Sapi_Hop) ++ (nth z1 (Int.tmod (i64 z4) ((z1.length : Nat) : Int)))) 0).fNode),((nth (([] : List Sapi_Hop) ++ (nth z1 (Int.tmod (i64 z4) ((z1.length : Nat) : Int)))) 0).fLink)⟩ : Sapi_Hop)).length) zX)])⟩ ⟨h,zqu,zyl⟩ (.cons rfl (.cons rfl (.cons rfl (.cons rfl (.cons rfl .nil))))) (.cons .h1 (.cons .here (.cons .here (.cons .here .nil))))
        ·replace h:=yh h zle
         refine WC.skip ?_
         exact WX.mid (G:=List (List Sapi_Hop) × Zp × List Value) ⟨(([] : List (List Sapi_Hop)) ++ z1),[],([] ++ z1o)⟩ ⟨h,(Zle.refl _),z1v⟩ (.cons rfl (.cons rfl (.cons rfl (.cons rfl (.cons rfl .nil))))) (.cons .h4 (.cons .h2 (.cons .h1 (.cons .h1 .nil))))
       ·rintro z5g z8d zck ⟨h,z20,zqv⟩
        replace h:=(zyh z5g).symm.trans h
        refine WC.b ?_
        obtain ⟨z5R,zyn,h⟩:=z8 h
        refine WC.a ?_
        refine WL.a (d:=139) rfl rfl rfl (yu yK rfl (yJ .h3) rfl) ?_
        refine WL.pu rfl (WL.pu rfl (WL.pu rfl ?_))
        refine WL.y2o (dd:=143) rfl rfl rfl (zt (l:=[.tmp 139,.tmp 140,.tmp 141,.tmp 142]) Try.call12 (.cons rfl (.cons rfl (.cons rfl (.cons rfl .nil))))) .nil (y2w hz .nil .here (.cons .h1 (.cons .h1 .nil)) fun w pz ho la=>y1J _ _ _ _ _ _ _ _ _ _ _ _ _ _ _ _ _ _ _ _ _ _ _ _ _ _ zyn w pz ((((z2r.mono ((Zle.left _ _).trans z20)).weak (fun _ _ h=>yq ((Zle.left _ _).trans z20) h)).mono (Zle.left _ _)).weak (fun _ _ h=>yq (Zle.left _ _) h)) ((((z2s.mono ((Zle.left _ _).trans z20)).weak (fun _ _ h=>ys ((Zle.left _ _).trans z20) h)).mono (Zle.left _ _)).weak (fun _ _ h=>ys (Zle.left _ _) h)) ((z2t.mono ((Zle.left _ _).trans z20)).mono (Zle.left _ _)) ((z2u.mono ((Zle.left _ _).trans z20)).mono (Zle.left _ _)) ((((z2v.mono ((Zle.left _ _).trans z20)).weak (fun _ _ h=>yr ((Zle.left _ _).trans z20) h)).mono (Zle.left _ _)).weak (fun _ _ h=>yr (Zle.left _ _) h)) ((z2w.mono ((Zle.left _ _).trans z20)).mono (Zle.left _ _)) ((((z2x.mono ((Zle.left _ _).trans z20)).weak (fun _ _ h=>yt ((Zle.left _ _).trans z20) h)).mono (Zle.left _ _)).weak (fun _ _ h=>yt (Zle.left _ _) h)) ((z2y.mono ((Zle.left _ _).trans z20)).mono (Zle.left _ _)) (ZA.row (la _ (.head _) _) (zqv.weak (fun _ _ h=>yH (Zle.left _ _) h)) ⟨w,pz.1⟩) (ZA.row (la _ (.tail _ (.head _)) _) (RR.yE (enc:=e53) (fun _=>rfl) _) ⟨w,pz.1⟩)) ?_
        rintro zyo zyp zyq zyr _
        refine WL.pu rfl (WL.pu rfl (WL.pu rfl (WL.pu rfl (WL.pu rfl (WL.pu rfl (WL.pu rfl (WL.nil (WX.a (WC.b ?_)))))))))
        obtain ⟨zh3,zqw,h⟩:=z8 h
        obtain ⟨zkS,zqx,h⟩:=z8 h
        refine WC.a (WL.pu rfl (WL.pu rfl (WL.pu rfl (WL.pu rfl ?_))))
        refine WL.seg true 6 150 (B:=(decide (z5R.2.2 = 310)) && (decide ((i64 (((z5R.1.length : Nat) : Int) + ((z5R.2.1.length : Nat) : Int))) = 0))) rfl rfl rfl rfl rfl rfl (fun h=>(y1c h).symm) (fun _ zys=>?_) ?_
        ·skip
         refine WL.pu rfl ?_
         refine WL.a (d:=152) rfl rfl rfl (yz Try.underlying36 rfl) ?_
         refine WL.pu rfl ?_
         refine WL.a (d:=154) rfl rfl rfl (yz Try.underlying36 rfl) ?_
         refine WL.pu rfl (WL.pu rfl (WL.pu rfl ?_))
         exact WL.yi (y1d zys) rfl rfl .all
        refine WL.pu rfl ?_
        refine WL.seg true 7 158 (B:=zh3) rfl rfl rfl rfl rfl rfl (fun h=>(Option.some.inj (yh zqw h)).symm) (fun _ zyt=>?_) ?_
        ·skip
         have zf2:=yg zqw zyt
         obtain ⟨zpS,zyu,zf2⟩:=z8 zf2
         replace zf2:=Option.some.inj zf2
         refine WL.a (d:=159) rfl rfl rfl (yu yK rfl (yJ .h5) rfl) ?_
         refine WL.pu rfl (WL.pu rfl ?_)
         refine WL.b (dd:=162) rfl rfl rfl (zt (l:=[.tmp 159,.tmp 160,.tmp 161]) Try.call15 (.cons rfl (.cons rfl (.cons rfl .nil)))) .nil (y2w hz .nil .h2 (.cons .h3 .nil) fun w pz ho la=>y1n _ _ _ _ _ _ _ _ _ _ _ _ _ _ _ _ _ _ _ _ _ _ _ zyu w pz ((((z2r.mono ((Zle.left _ _).trans z20)).weak (fun _ _ h=>yq ((Zle.left _ _).trans z20) h)).mono (Zle.left _ _)).weak (fun _ _ h=>yq (Zle.left _ _) h)) ((((z2s.mono ((Zle.left _ _).trans z20)).weak (fun _ _ h=>ys ((Zle.left _ _).trans z20) h)).mono (Zle.left _ _)).weak (fun _ _ h=>ys (Zle.left _ _) h)) ((z2t.mono ((Zle.left _ _).trans z20)).mono (Zle.left _ _)) ((z2u.mono ((Zle.left _ _).trans z20)).mono (Zle.left _ _)) ((((z2v.mono ((Zle.left _ _).trans z20)).weak (fun _ _ h=>yr ((Zle.left _ _).trans z20) h)).mono (Zle.left _ _)).weak (fun _ _ h=>yr (Zle.left _ _) h)) ((z2w.mono ((Zle.left _ _).trans z20)).mono (Zle.left _ _)) ((((z2x.mono ((Zle.left _ _).trans z20)).weak (fun _ _ h=>yt ((Zle.left _ _).trans z20) h)).mono (Zle.left _ _)).weak (fun _ _ h=>yt (Zle.left _ _) h)) ((z2y.mono ((Zle.left _ _).trans z20)).mono (Zle.left _ _)) (ZA.row (la _ (.head _) _) (zqv.weak (fun _ _ h=>yH (Zle.left _ _) h)) ⟨w,pz.1⟩)) ?_
         refine WL.pu rfl ?_
         refine WL.a (d:=164) rfl rfl rfl (y44 rfl rfl) ?_
         refine WL.a (d:=165) rfl rfl rfl (y41 Try.underlying4 rfl rfl) ?_
         refine WL.pu rfl ?_
         exact WL.yi zf2 rfl rfl .all
        refine WL.pu rfl ?_
        refine WL.y3E (fun (zcl : Zp)=>Zle (Z ++ z8d) (Z ++ zcl)) (fun (zcl : Zp)=>[(169,(.bool zkS))]) (fun (zcl : Zp)=>[row (.slice zyo z5R.1.length zyp) 50 3 (z5R.1.flatMap e50),row (.slice zyq z5R.2.1.length zyr) 50 3 (z5R.2.1.flatMap e50),fz zcl,row (.slice z1y z5g.length zU) 55 1 zck,row (.slice z2Y ((([] : List zSt) ++ zB).length) z2Z) 53 3 ((([] : List zSt) ++ zB).flatMap e53),stb z1u 31 [(.slice z1D z5.fModules.length z1E),(.slice z1F z5.fChannels.length z1G),(.slice z1H z5.fSwitches.length z1I),(.slice z1J z5.fLinks.length z1K),(.slice z1L z5.fVLs.length z1M),(.slice z1N z5.fHealth.length z1O),(.slice z1P z5.fCauses.length z1Q),(.slice z1R z5.fVersions.length z1S)]]) 2 ?_ (fun zcl zE7=>?_)
        ·rcases Bool.eq_false_or_eq_true zh3 with hb' | hb'
         ·have zqy:=hb'; clear hb'
          have zf3:=yg zqx zqy
          obtain ⟨zpT,zyv,zf3⟩:=z8 zf3
          replace zf3:=Option.some.inj zf3
          refine WL.pin (i:=167) rfl zqy ?_
          refine WL.y2g (dd:=168) rfl rfl rfl (zt (l:=[]) Try.call11 .nil) .nil (ccz hz .nil .h2 fun w pz ho=>y1x _ _ zyv w pz ) ?_
          rintro zyw _
          refine WL.merge .here .h2 ?_
          refine WL.pu rfl ?_
          exact WL.y1r (G:=Zp) (z8d ++ zyw) ((Zle.left _ _).trans (Zle.yD _ _ _)) (.cons (zi zf3) .nil) (.cons .h1 (.cons .h1 (.cons .here (.cons .here (.cons .here (.cons .here .nil))))))
         ·have zqz:=hb'; clear hb'
          have zlf:=yh zqx zqz
          replace zlf:=Option.some.inj zlf
          refine WL.pin (i:=167) rfl zqz ?_
          refine WL.e rfl rfl rfl (WL.pu rfl ?_)
          exact WL.y1r (G:=Zp) z8d (Zle.refl _) (.cons (zi zlf) .nil) (.cons .here (.cons .here (.cons .here (.cons .here (.cons .here (.cons .here .nil))))))
        ·skip
         refine WL.pu rfl (WL.nil (WX.a (WC.ret ?_)))
         obtain rfl:=Option.some.inj h
         refine WX.yj Try.results9 (.tmp rfl .nil) (fun w hw=>?_)
         exact ⟨zcl,yL rfl,trivial,hw.sub (.cons .h2 .nil)⟩
      ·replace h:=yh h zld
       refine WC.b (WC.a (WL.pu rfl (WL.pu rfl (WL.nil (WX.a ?_)))))
       refine WC.cond rfl (fun zlg=>?_) (fun zlg=>?_)
       ·replace h:=yg h zlg
        obtain ⟨zf4,h⟩:=ye h
        obtain ⟨zyx,h⟩:=ye h
        refine WC.a (WL.pu rfl (WL.pu rfl ?_))
        refine WL.know (fun w hw=>Hp.y15 .h1 hw (by intro hz'; have:=zf4; rw [hz'] at this; omega)) ?_
        rintro ⟨zE8,rfl⟩
        refine WL.a (d:=96) rfl rfl rfl (ym y2W rfl rfl zf4.1 zf4.2 yM) ?_
        refine WL.a (d:=97) rfl rfl rfl (y1y (cs:=(e59 (nth (([] : List Sapi_Hop) ++ (nth z1 (Int.tmod (i64 z4) ((z1.length : Nat) : Int)))) 0))) y5l rfl rfl (y1K .h1 (y1A (enc:=e59) (l:=([] : List Sapi_Hop) ++ (nth z1 (Int.tmod (i64 z4) ((z1.length : Nat) : Int)))) (i:=0) (sz:=3) (fun _=>rfl) zf4.1 zf4.2))) ?_
        refine WL.new (dd:=98) rfl rfl rfl (yF (cs:=([(⟨((nth (([] : List Sapi_Hop) ++ (nth z1 (Int.tmod (i64 z4) ((z1.length : Nat) : Int)))) 0).fNode),((nth (([] : List Sapi_Hop) ++ (nth z1 (Int.tmod (i64 z4) ((z1.length : Nat) : Int)))) 0).fNext),((nth (([] : List Sapi_Hop) ++ (nth z1 (Int.tmod (i64 z4) ((z1.length : Nat) : Int)))) 0).fLink)⟩ : Sapi_Hop)] : List Sapi_Hop).flatMap e59) y2W (Eos.parts (l:=[.tmp 97]) (.cons rfl .nil) [0]) (fun _=>by kernel_rfl) rfl (by unfold maxLen; omega)) ?_
        intro zE9 _
        refine WL.eff (d:=99) rfl rfl rfl (y2B (enc:=e59) (l1:=([] : List Sapi_Hop) ++ (nth z1 (Int.tmod (i64 z4) ((z1.length : Nat) : Int)))) (l2:=([(⟨((nth (([] : List Sapi_Hop) ++ (nth z1 (Int.tmod (i64 z4) ((z1.length : Nat) : Int)))) 0).fNode),((nth (([] : List Sapi_Hop) ++ (nth z1 (Int.tmod (i64 z4) ((z1.length : Nat) : Int)))) 0).fNext),((nth (([] : List Sapi_Hop) ++ (nth z1 (Int.tmod (i64 z4) ((z1.length : Nat) : Int)))) 0).fLink)⟩ : Sapi_Hop)] : List Sapi_Hop)) y2W rfl rfl .h2 (fun _=>rfl) rfl rfl (y3O .here) (y3c e59_oc _) zyx) ?_
        rintro ⟨zhh,zhi⟩ _
        refine WL.pu rfl (WL.nil (WX.yf (WX.a ?_)))
        obtain ⟨zh6,zyy,h⟩:=yO h
        refine WC.y1U (fun (z5h : List (List Sapi_Hop)) (z8e : Zp) (zcm : List Value)=>(zh6 z5h = some r) ∧ (Zle (Z ++ []) (Z ++ z8e)) ∧ (RR 1 (p55 (Z ++ z8e)) zcm z5h)) (fun (z5h : List (List Sapi_Hop)) (z8e : Zp) (zcm : List Value)=>[(1,(.int .i64 z1d)),(6,(.pointer (some ⟨z1u,0,none⟩))),(14,(.slice z1y z5h.length zU)),(16,(.slice z2Y ((([] : List zSt) ++ zB).length) z2Z)),(17,(.int .i64 310))]) (fun (z5h : List (List Sapi_Hop)) (z8e : Zp) (zcm : List Value)=>[fz z8e,row (.slice z1y z5h.length zU) 55 1 zcm,row (.slice z2Y ((([] : List zSt) ++ zB).length) z2Z) 53 3 ((([] : List zSt) ++ zB).flatMap e53),stb z1u 31 [(.slice z1D z5.fModules.length z1E),(.slice z1F z5.fChannels.length z1G),(.slice z1H z5.fSwitches.length z1I),(.slice z1J z5.fLinks.length z1K),(.slice z1L z5.fVLs.length z1M),(.slice z1N z5.fHealth.length z1O),(.slice z1P z5.fCauses.length z1Q),(.slice z1R z5.fVersions.length z1S)]]) ?_ ?_
        ·skip
         refine WC.b (WC.a (WL.pu rfl ?_))
         refine WL.a (d:=127) rfl rfl rfl (y28 rfl rfl (by decide) rfl) ?_
         refine WL.pu rfl (WL.pu rfl ?_)
         refine WL.seg true 3 129 (B:=(decide ((Int.tmod zK 9) ≥ 2)) && (decide ((Int.tmod zK 9) ≤ 5))) rfl rfl rfl rfl rfl rfl (fun h=>(y1c h).symm) (fun _ zyz=>?_) ?_
         ·skip
          refine WL.pu rfl ?_
          refine WL.a (d:=131) rfl rfl rfl (y28 rfl rfl (by decide) rfl) ?_
          refine WL.pu rfl (WL.pu rfl ?_)
          exact WL.yi (y1d zyz) rfl rfl .all
         refine WL.nil (WX.a ?_)
         refine WC.cond rfl (fun zlh=>?_) (fun zlh=>?_)
         ·replace h:=yg h zlh
          obtain ⟨zaf,h⟩:=ye h
          refine WC.a (WL.pu rfl (WL.pu rfl (WL.pu rfl ?_)))
          refine WL.know (fun w hw=>Hp.y15 .h3 hw (by intro hz'; have:=zaf; rw [hz'] at this; omega)) ?_
          rintro ⟨zqA,rfl⟩
          obtain ⟨zEa,zEb,zEc,zyA,⟨zEd,zEe,rfl,zEf⟩⟩:=RR.elem (Pr:=(p55 (Z ++ []))) z1v zaf.1 zaf.2
          refine WL.a (d:=137) rfl rfl rfl (ym y2i rfl rfl zaf.1 zaf.2 yM) ?_
          refine WL.freezeS (ls:=(([] : List Sapi_Hop) ++ (nth z1 (Int.tmod (i64 z4) ((z1.length : Nat) : Int)))) ++ ([(⟨((nth (([] : List Sapi_Hop) ++ (nth z1 (Int.tmod (i64 z4) ((z1.length : Nat) : Int)))) 0).fNode),((nth (([] : List Sapi_Hop) ++ (nth z1 (Int.tmod (i64 z4) ((z1.length : Nat) : Int)))) 0).fNext),((nth (([] : List Sapi_Hop) ++ (nth z1 (Int.tmod (i64 z4) ((z1.length : Nat) : Int)))) 0).fLink)⟩ : Sapi_Hop)] : List Sapi_Hop)) .here .h4 hz (RR.yE (enc:=e59) (fun _=>rfl) _) ?_
          intro zqB zqC zyB
          obtain ⟨zyC,zyD⟩:=RR.store (Pr:=(p55 (Z ++ zqB))) (vs:=[(.slice zhh (((([] : List Sapi_Hop) ++ (nth z1 (Int.tmod (i64 z4) ((z1.length : Nat) : Int)))) ++ ([(⟨((nth (([] : List Sapi_Hop) ++ (nth z1 (Int.tmod (i64 z4) ((z1.length : Nat) : Int)))) 0).fNode),((nth (([] : List Sapi_Hop) ++ (nth z1 (Int.tmod (i64 z4) ((z1.length : Nat) : Int)))) 0).fNext),((nth (([] : List Sapi_Hop) ++ (nth z1 (Int.tmod (i64 z4) ((z1.length : Nat) : Int)))) 0).fLink)⟩ : Sapi_Hop)] : List Sapi_Hop)).length) zhi)]) (k:=0) (y:=(([] : List Sapi_Hop) ++ (nth z1 (Int.tmod (i64 z4) ((z1.length : Nat) : Int)))) ++ ([(⟨((nth (([] : List Sapi_Hop) ++ (nth z1 (Int.tmod (i64 z4) ((z1.length : Nat) : Int)))) 0).fNode),((nth (([] : List Sapi_Hop) ++ (nth z1 (Int.tmod (i64 z4) ((z1.length : Nat) : Int)))) 0).fNext),((nth (([] : List Sapi_Hop) ++ (nth z1 (Int.tmod (i64 z4) ((z1.length : Nat) : Int)))) 0).fLink)⟩ : Sapi_Hop)] : List Sapi_Hop)) (z1v.weak (fun _ _ h=>yH zqC h)) zaf.1 zaf.2 zyA rfl (Nat.le_of_ble_eq_true rfl) (show p55 _ _ _ from ⟨_,_,rfl,zyB⟩)
          refine WL.y10 rfl rfl (y12 (vs:=[(.slice zhh (((([] : List Sapi_Hop) ++ (nth z1 (Int.tmod (i64 z4) ((z1.length : Nat) : Int)))) ++ ([(⟨((nth (([] : List Sapi_Hop) ++ (nth z1 (Int.tmod (i64 z4) ((z1.length : Nat) : Int)))) 0).fNode),((nth (([] : List Sapi_Hop) ++ (nth z1 (Int.tmod (i64 z4) ((z1.length : Nat) : Int)))) 0).fNext),((nth (([] : List Sapi_Hop) ++ (nth z1 (Int.tmod (i64 z4) ((z1.length : Nat) : Int)))) 0).fLink)⟩ : Sapi_Hop)] : List Sapi_Hop)).length) zhi)]) (ds:=y1H ([] ++ z1o) (((Int.tmod (i64 z4) ((z1.length : Nat) : Int)) : Int).toNat * 1 + 0) [(.slice zhh (((([] : List Sapi_Hop) ++ (nth z1 (Int.tmod (i64 z4) ((z1.length : Nat) : Int)))) ++ ([(⟨((nth (([] : List Sapi_Hop) ++ (nth z1 (Int.tmod (i64 z4) ((z1.length : Nat) : Int)))) 0).fNode),((nth (([] : List Sapi_Hop) ++ (nth z1 (Int.tmod (i64 z4) ((z1.length : Nat) : Int)))) 0).fNext),((nth (([] : List Sapi_Hop) ++ (nth z1 (Int.tmod (i64 z4) ((z1.length : Nat) : Int)))) 0).fLink)⟩ : Sapi_Hop)] : List Sapi_Hop)).length) zhi)]) y3Y rfl rfl rfl rfl (y2V rfl y3z) .h3 zyD rfl) ?_
          refine WL.relen .here (u:=(.slice (some ⟨zqA,0,none⟩) (((([] : List (List Sapi_Hop)) ++ z1).set ((Int.tmod (i64 z4) ((z1.length : Nat) : Int)) : Int).toNat ((([] : List Sapi_Hop) ++ (nth z1 (Int.tmod (i64 z4) ((z1.length : Nat) : Int)))) ++ ([(⟨((nth (([] : List Sapi_Hop) ++ (nth z1 (Int.tmod (i64 z4) ((z1.length : Nat) : Int)))) 0).fNode),((nth (([] : List Sapi_Hop) ++ (nth z1 (Int.tmod (i64 z4) ((z1.length : Nat) : Int)))) 0).fNext),((nth (([] : List Sapi_Hop) ++ (nth z1 (Int.tmod (i64 z4) ((z1.length : Nat) : Int)))) 0).fLink)⟩ : Sapi_Hop)] : List Sapi_Hop))).length) zU)) (yR (List.length_set).symm) ?_
          refine WL.repin (i:=14) rfl (u:=(.slice (some ⟨zqA,0,none⟩) (((([] : List (List Sapi_Hop)) ++ z1).set ((Int.tmod (i64 z4) ((z1.length : Nat) : Int)) : Int).toNat ((([] : List Sapi_Hop) ++ (nth z1 (Int.tmod (i64 z4) ((z1.length : Nat) : Int)))) ++ ([(⟨((nth (([] : List Sapi_Hop) ++ (nth z1 (Int.tmod (i64 z4) ((z1.length : Nat) : Int)))) 0).fNode),((nth (([] : List Sapi_Hop) ++ (nth z1 (Int.tmod (i64 z4) ((z1.length : Nat) : Int)))) 0).fNext),((nth (([] : List Sapi_Hop) ++ (nth z1 (Int.tmod (i64 z4) ((z1.length : Nat) : Int)))) 0).fLink)⟩ : Sapi_Hop)] : List Sapi_Hop))).length) zU)) (yR (List.length_set).symm) ?_
          refine WL.nil ?_
          exact WX.mid (G:=List (List Sapi_Hop) × Zp × List Value) ⟨((([] : List (List Sapi_Hop)) ++ z1).set ((Int.tmod (i64 z4) ((z1.length : Nat) : Int)) : Int).toNat ((([] : List Sapi_Hop) ++ (nth z1 (Int.tmod (i64 z4) ((z1.length : Nat) : Int)))) ++ ([(⟨((nth (([] : List Sapi_Hop) ++ (nth z1 (Int.tmod (i64 z4) ((z1.length : Nat) : Int)))) 0).fNode),((nth (([] : List Sapi_Hop) ++ (nth z1 (Int.tmod (i64 z4) ((z1.length : Nat) : Int)))) 0).fNext),((nth (([] : List Sapi_Hop) ++ (nth z1 (Int.tmod (i64 z4) ((z1.length : Nat) : Int)))) 0).fLink)⟩ : Sapi_Hop)] : List Sapi_Hop))),zqB,(y1H ([] ++ z1o) (((Int.tmod (i64 z4) ((z1.length : Nat) : Int)) : Int).toNat * 1 + 0) [(.slice zhh (((([] : List Sapi_Hop) ++ (nth z1 (Int.tmod (i64 z4) ((z1.length : Nat) : Int)))) ++ ([(⟨((nth (([] : List Sapi_Hop) ++ (nth z1 (Int.tmod (i64 z4) ((z1.length : Nat) : Int)))) 0).fNode),((nth (([] : List Sapi_Hop) ++ (nth z1 (Int.tmod (i64 z4) ((z1.length : Nat) : Int)))) 0).fNext),((nth (([] : List Sapi_Hop) ++ (nth z1 (Int.tmod (i64 z4) ((z1.length : Nat) : Int)))) 0).fLink)⟩ : Sapi_Hop)] : List Sapi_Hop)).length) zhi)])⟩ ⟨h,zqC,zyC⟩ (.cons rfl (.cons rfl (.cons rfl (.cons rfl (.cons rfl .nil))))) (.cons .h1 (.cons .here (.cons .h1 (.cons .h1 .nil))))
         ·replace h:=yh h zlh
          refine WC.skip ?_
          exact WX.mid (G:=List (List Sapi_Hop) × Zp × List Value) ⟨(([] : List (List Sapi_Hop)) ++ z1),[],([] ++ z1o)⟩ ⟨h,(Zle.refl _),z1v⟩ (.cons rfl (.cons rfl (.cons rfl (.cons rfl (.cons rfl .nil))))) (.cons .h5 (.cons .h3 (.cons .h2 (.cons .h2 .nil))))
        ·rintro z5h z8e zcm ⟨h,z21,zqD⟩
         replace h:=(zyy z5h).symm.trans h
         refine WC.b ?_
         obtain ⟨z5S,zyE,h⟩:=z8 h
         refine WC.a ?_
         refine WL.a (d:=139) rfl rfl rfl (yu yK rfl (yJ .h3) rfl) ?_
         refine WL.pu rfl (WL.pu rfl (WL.pu rfl ?_))
         refine WL.y2o (dd:=143) rfl rfl rfl (zt (l:=[.tmp 139,.tmp 140,.tmp 141,.tmp 142]) Try.call12 (.cons rfl (.cons rfl (.cons rfl (.cons rfl .nil))))) .nil (y2w hz .nil .here (.cons .h1 (.cons .h1 .nil)) fun w pz ho la=>y1J _ _ _ _ _ _ _ _ _ _ _ _ _ _ _ _ _ _ _ _ _ _ _ _ _ _ zyE w pz ((((z2r.mono ((Zle.left _ _).trans z21)).weak (fun _ _ h=>yq ((Zle.left _ _).trans z21) h)).mono (Zle.left _ _)).weak (fun _ _ h=>yq (Zle.left _ _) h)) ((((z2s.mono ((Zle.left _ _).trans z21)).weak (fun _ _ h=>ys ((Zle.left _ _).trans z21) h)).mono (Zle.left _ _)).weak (fun _ _ h=>ys (Zle.left _ _) h)) ((z2t.mono ((Zle.left _ _).trans z21)).mono (Zle.left _ _)) ((z2u.mono ((Zle.left _ _).trans z21)).mono (Zle.left _ _)) ((((z2v.mono ((Zle.left _ _).trans z21)).weak (fun _ _ h=>yr ((Zle.left _ _).trans z21) h)).mono (Zle.left _ _)).weak (fun _ _ h=>yr (Zle.left _ _) h)) ((z2w.mono ((Zle.left _ _).trans z21)).mono (Zle.left _ _)) ((((z2x.mono ((Zle.left _ _).trans z21)).weak (fun _ _ h=>yt ((Zle.left _ _).trans z21) h)).mono (Zle.left _ _)).weak (fun _ _ h=>yt (Zle.left _ _) h)) ((z2y.mono ((Zle.left _ _).trans z21)).mono (Zle.left _ _)) (ZA.row (la _ (.head _) _) (zqD.weak (fun _ _ h=>yH (Zle.left _ _) h)) ⟨w,pz.1⟩) (ZA.row (la _ (.tail _ (.head _)) _) (RR.yE (enc:=e53) (fun _=>rfl) _) ⟨w,pz.1⟩)) ?_
         rintro zyF zyG zyH zyI _
         refine WL.pu rfl (WL.pu rfl (WL.pu rfl (WL.pu rfl (WL.pu rfl (WL.pu rfl (WL.pu rfl (WL.nil (WX.a (WC.b ?_)))))))))
         obtain ⟨zh5,zqE,h⟩:=z8 h
         obtain ⟨zkT,zqF,h⟩:=z8 h
         refine WC.a (WL.pu rfl (WL.pu rfl (WL.pu rfl (WL.pu rfl ?_))))
         refine WL.seg true 6 150 (B:=(decide (z5S.2.2 = 310)) && (decide ((i64 (((z5S.1.length : Nat) : Int) + ((z5S.2.1.length : Nat) : Int))) = 0))) rfl rfl rfl rfl rfl rfl (fun h=>(y1c h).symm) (fun _ zyJ=>?_) ?_
         ·skip
          refine WL.pu rfl ?_
          refine WL.a (d:=152) rfl rfl rfl (yz Try.underlying36 rfl) ?_
          refine WL.pu rfl ?_
          refine WL.a (d:=154) rfl rfl rfl (yz Try.underlying36 rfl) ?_
          refine WL.pu rfl (WL.pu rfl (WL.pu rfl ?_))
          exact WL.yi (y1d zyJ) rfl rfl .all
         refine WL.pu rfl ?_
         refine WL.seg true 7 158 (B:=zh5) rfl rfl rfl rfl rfl rfl (fun h=>(Option.some.inj (yh zqE h)).symm) (fun _ zyK=>?_) ?_
         ·skip
          have zf5:=yg zqE zyK
          obtain ⟨zpU,zyL,zf5⟩:=z8 zf5
          replace zf5:=Option.some.inj zf5
          refine WL.a (d:=159) rfl rfl rfl (yu yK rfl (yJ .h5) rfl) ?_
          refine WL.pu rfl (WL.pu rfl ?_)
          refine WL.b (dd:=162) rfl rfl rfl (zt (l:=[.tmp 159,.tmp 160,.tmp 161]) Try.call15 (.cons rfl (.cons rfl (.cons rfl .nil)))) .nil (y2w hz .nil .h2 (.cons .h3 .nil) fun w pz ho la=>y1n _ _ _ _ _ _ _ _ _ _ _ _ _ _ _ _ _ _ _ _ _ _ _ zyL w pz ((((z2r.mono ((Zle.left _ _).trans z21)).weak (fun _ _ h=>yq ((Zle.left _ _).trans z21) h)).mono (Zle.left _ _)).weak (fun _ _ h=>yq (Zle.left _ _) h)) ((((z2s.mono ((Zle.left _ _).trans z21)).weak (fun _ _ h=>ys ((Zle.left _ _).trans z21) h)).mono (Zle.left _ _)).weak (fun _ _ h=>ys (Zle.left _ _) h)) ((z2t.mono ((Zle.left _ _).trans z21)).mono (Zle.left _ _)) ((z2u.mono ((Zle.left _ _).trans z21)).mono (Zle.left _ _)) ((((z2v.mono ((Zle.left _ _).trans z21)).weak (fun _ _ h=>yr ((Zle.left _ _).trans z21) h)).mono (Zle.left _ _)).weak (fun _ _ h=>yr (Zle.left _ _) h)) ((z2w.mono ((Zle.left _ _).trans z21)).mono (Zle.left _ _)) ((((z2x.mono ((Zle.left _ _).trans z21)).weak (fun _ _ h=>yt ((Zle.left _ _).trans z21) h)).mono (Zle.left _ _)).weak (fun _ _ h=>yt (Zle.left _ _) h)) ((z2y.mono ((Zle.left _ _).trans z21)).mono (Zle.left _ _)) (ZA.row (la _ (.head _) _) (zqD.weak (fun _ _ h=>yH (Zle.left _ _) h)) ⟨w,pz.1⟩)) ?_
          refine WL.pu rfl ?_
          refine WL.a (d:=164) rfl rfl rfl (y44 rfl rfl) ?_
          refine WL.a (d:=165) rfl rfl rfl (y41 Try.underlying4 rfl rfl) ?_
          refine WL.pu rfl ?_
          exact WL.yi zf5 rfl rfl .all
         refine WL.pu rfl ?_
         refine WL.y3E (fun (zcn : Zp)=>Zle (Z ++ z8e) (Z ++ zcn)) (fun (zcn : Zp)=>[(169,(.bool zkT))]) (fun (zcn : Zp)=>[row (.slice zyF z5S.1.length zyG) 50 3 (z5S.1.flatMap e50),row (.slice zyH z5S.2.1.length zyI) 50 3 (z5S.2.1.flatMap e50),fz zcn,row (.slice z1y z5h.length zU) 55 1 zcm,row (.slice z2Y ((([] : List zSt) ++ zB).length) z2Z) 53 3 ((([] : List zSt) ++ zB).flatMap e53),stb z1u 31 [(.slice z1D z5.fModules.length z1E),(.slice z1F z5.fChannels.length z1G),(.slice z1H z5.fSwitches.length z1I),(.slice z1J z5.fLinks.length z1K),(.slice z1L z5.fVLs.length z1M),(.slice z1N z5.fHealth.length z1O),(.slice z1P z5.fCauses.length z1Q),(.slice z1R z5.fVersions.length z1S)]]) 2 ?_ (fun zcn zEg=>?_)
         ·rcases Bool.eq_false_or_eq_true zh5 with hb' | hb'
          ·have zqG:=hb'; clear hb'
           have zf6:=yg zqF zqG
           obtain ⟨zpV,zyM,zf6⟩:=z8 zf6
           replace zf6:=Option.some.inj zf6
           refine WL.pin (i:=167) rfl zqG ?_
           refine WL.y2g (dd:=168) rfl rfl rfl (zt (l:=[]) Try.call11 .nil) .nil (ccz hz .nil .h2 fun w pz ho=>y1x _ _ zyM w pz ) ?_
           rintro zyN _
           refine WL.merge .here .h2 ?_
           refine WL.pu rfl ?_
           exact WL.y1r (G:=Zp) (z8e ++ zyN) ((Zle.left _ _).trans (Zle.yD _ _ _)) (.cons (zi zf6) .nil) (.cons .h1 (.cons .h1 (.cons .here (.cons .here (.cons .here (.cons .here .nil))))))
          ·have zqH:=hb'; clear hb'
           have zli:=yh zqF zqH
           replace zli:=Option.some.inj zli
           refine WL.pin (i:=167) rfl zqH ?_
           refine WL.e rfl rfl rfl (WL.pu rfl ?_)
           exact WL.y1r (G:=Zp) z8e (Zle.refl _) (.cons (zi zli) .nil) (.cons .here (.cons .here (.cons .here (.cons .here (.cons .here (.cons .here .nil))))))
         ·skip
          refine WL.pu rfl (WL.nil (WX.a (WC.ret ?_)))
          obtain rfl:=Option.some.inj h
          refine WX.yj Try.results9 (.tmp rfl .nil) (fun w hw=>?_)
          exact ⟨zcn,yL rfl,trivial,hw.sub (.cons .h2 .nil)⟩
       ·replace h:=yh h zlg
        refine WC.b (WC.a (WL.pu rfl (WL.pu rfl (WL.nil (WX.a ?_)))))
        refine WC.cond rfl (fun zlj=>?_) (fun zlj=>?_)
        ·replace h:=yg h zlj
         obtain ⟨zag,h⟩:=ye h
         refine WC.a (WL.pu rfl ?_)
         refine WL.know (fun w hw=>Hp.y15 .h1 hw (by intro hz'; have:=zag; rw [hz'] at this; omega)) ?_
         rintro ⟨zco,rfl⟩
         refine WL.a (d:=103) rfl rfl rfl (ym y2W rfl rfl zag.1 zag.2 yM) ?_
         refine WL.a (d:=104) rfl rfl rfl (ya y2F rfl (Addr.add_lit _ _ _)) ?_
         refine WL.y10 rfl rfl (y12 (vs:=[(.int .i64 (-1))]) (ds:=((([] : List Sapi_Hop) ++ (nth z1 (Int.tmod (i64 z4) ((z1.length : Nat) : Int)))).set (0 : Int).toNat (⟨(-1),((nth (([] : List Sapi_Hop) ++ (nth z1 (Int.tmod (i64 z4) ((z1.length : Nat) : Int)))) 0).fNext),((nth (([] : List Sapi_Hop) ++ (nth z1 (Int.tmod (i64 z4) ((z1.length : Nat) : Int)))) 0).fLink)⟩ : Sapi_Hop)).flatMap e59) y5q rfl rfl rfl rfl (y2V rfl y3z) .h1 (y2e (enc:=e59) (sz:=3) (k:=0) (fun _=>rfl) zag.1 zag.2 (by decide)) (y2d (enc:=e59) (l:=([] : List Sapi_Hop) ++ (nth z1 (Int.tmod (i64 z4) ((z1.length : Nat) : Int)))) (sz:=3) (vs:=[(.int .i64 (-1))]) (y:=(⟨(-1),((nth (([] : List Sapi_Hop) ++ (nth z1 (Int.tmod (i64 z4) ((z1.length : Nat) : Int)))) 0).fNext),((nth (([] : List Sapi_Hop) ++ (nth z1 (Int.tmod (i64 z4) ((z1.length : Nat) : Int)))) 0).fLink)⟩ : Sapi_Hop)) (k:=0) (fun _=>rfl) zag.1 zag.2 rfl (Nat.le_of_ble_eq_true rfl))) ?_
         refine WL.relen .here (u:=(.slice (some ⟨zco,0,none⟩) (((([] : List Sapi_Hop) ++ (nth z1 (Int.tmod (i64 z4) ((z1.length : Nat) : Int)))).set (0 : Int).toNat (⟨(-1),((nth (([] : List Sapi_Hop) ++ (nth z1 (Int.tmod (i64 z4) ((z1.length : Nat) : Int)))) 0).fNext),((nth (([] : List Sapi_Hop) ++ (nth z1 (Int.tmod (i64 z4) ((z1.length : Nat) : Int)))) 0).fLink)⟩ : Sapi_Hop)).length) zX)) (yR (List.length_set).symm) ?_
         refine WL.repin (i:=15) rfl (u:=(.slice (some ⟨zco,0,none⟩) (((([] : List Sapi_Hop) ++ (nth z1 (Int.tmod (i64 z4) ((z1.length : Nat) : Int)))).set (0 : Int).toNat (⟨(-1),((nth (([] : List Sapi_Hop) ++ (nth z1 (Int.tmod (i64 z4) ((z1.length : Nat) : Int)))) 0).fNext),((nth (([] : List Sapi_Hop) ++ (nth z1 (Int.tmod (i64 z4) ((z1.length : Nat) : Int)))) 0).fLink)⟩ : Sapi_Hop)).length) zX)) (yR (List.length_set).symm) ?_
         refine WL.nil (WX.yf (WX.a ?_))
         obtain ⟨zh8,zyO,h⟩:=yO h
         refine WC.y1U (fun (z5i : List (List Sapi_Hop)) (z8f : Zp) (zcp : List Value)=>(zh8 z5i = some r) ∧ (Zle (Z ++ []) (Z ++ z8f)) ∧ (RR 1 (p55 (Z ++ z8f)) zcp z5i)) (fun (z5i : List (List Sapi_Hop)) (z8f : Zp) (zcp : List Value)=>[(1,(.int .i64 z1d)),(6,(.pointer (some ⟨z1u,0,none⟩))),(14,(.slice z1y z5i.length zU)),(16,(.slice z2Y ((([] : List zSt) ++ zB).length) z2Z)),(17,(.int .i64 310))]) (fun (z5i : List (List Sapi_Hop)) (z8f : Zp) (zcp : List Value)=>[fz z8f,row (.slice z1y z5i.length zU) 55 1 zcp,row (.slice z2Y ((([] : List zSt) ++ zB).length) z2Z) 53 3 ((([] : List zSt) ++ zB).flatMap e53),stb z1u 31 [(.slice z1D z5.fModules.length z1E),(.slice z1F z5.fChannels.length z1G),(.slice z1H z5.fSwitches.length z1I),(.slice z1J z5.fLinks.length z1K),(.slice z1L z5.fVLs.length z1M),(.slice z1N z5.fHealth.length z1O),(.slice z1P z5.fCauses.length z1Q),(.slice z1R z5.fVersions.length z1S)]]) ?_ ?_
         ·skip
          refine WC.b (WC.a (WL.pu rfl ?_))
          refine WL.a (d:=127) rfl rfl rfl (y28 rfl rfl (by decide) rfl) ?_
          refine WL.pu rfl (WL.pu rfl ?_)
          refine WL.seg true 3 129 (B:=(decide ((Int.tmod zK 9) ≥ 2)) && (decide ((Int.tmod zK 9) ≤ 5))) rfl rfl rfl rfl rfl rfl (fun h=>(y1c h).symm) (fun _ zyP=>?_) ?_
          ·skip
           refine WL.pu rfl ?_
           refine WL.a (d:=131) rfl rfl rfl (y28 rfl rfl (by decide) rfl) ?_
           refine WL.pu rfl (WL.pu rfl ?_)
           exact WL.yi (y1d zyP) rfl rfl .all
          refine WL.nil (WX.a ?_)
          refine WC.cond rfl (fun zlk=>?_) (fun zlk=>?_)
          ·replace h:=yg h zlk
           obtain ⟨zah,h⟩:=ye h
           refine WC.a (WL.pu rfl (WL.pu rfl (WL.pu rfl ?_)))
           refine WL.know (fun w hw=>Hp.y15 .h2 hw (by intro hz'; have:=zah; rw [hz'] at this; omega)) ?_
           rintro ⟨zqI,rfl⟩
           obtain ⟨zEh,zEi,zEj,zyQ,⟨zEk,zEl,rfl,zEm⟩⟩:=RR.elem (Pr:=(p55 (Z ++ []))) z1v zah.1 zah.2
           refine WL.a (d:=137) rfl rfl rfl (ym y2i rfl rfl zah.1 zah.2 yM) ?_
           refine WL.freezeS (ls:=(([] : List Sapi_Hop) ++ (nth z1 (Int.tmod (i64 z4) ((z1.length : Nat) : Int)))).set (0 : Int).toNat (⟨(-1),((nth (([] : List Sapi_Hop) ++ (nth z1 (Int.tmod (i64 z4) ((z1.length : Nat) : Int)))) 0).fNext),((nth (([] : List Sapi_Hop) ++ (nth z1 (Int.tmod (i64 z4) ((z1.length : Nat) : Int)))) 0).fLink)⟩ : Sapi_Hop)) .here .h3 hz (RR.yE (enc:=e59) (fun _=>rfl) _) ?_
           intro zqJ zqK zyR
           obtain ⟨zyS,zyT⟩:=RR.store (Pr:=(p55 (Z ++ zqJ))) (vs:=[(.slice (some ⟨zco,0,none⟩) (((([] : List Sapi_Hop) ++ (nth z1 (Int.tmod (i64 z4) ((z1.length : Nat) : Int)))).set (0 : Int).toNat (⟨(-1),((nth (([] : List Sapi_Hop) ++ (nth z1 (Int.tmod (i64 z4) ((z1.length : Nat) : Int)))) 0).fNext),((nth (([] : List Sapi_Hop) ++ (nth z1 (Int.tmod (i64 z4) ((z1.length : Nat) : Int)))) 0).fLink)⟩ : Sapi_Hop)).length) zX)]) (k:=0) (y:=(([] : List Sapi_Hop) ++ (nth z1 (Int.tmod (i64 z4) ((z1.length : Nat) : Int)))).set (0 : Int).toNat (⟨(-1),((nth (([] : List Sapi_Hop) ++ (nth z1 (Int.tmod (i64 z4) ((z1.length : Nat) : Int)))) 0).fNext),((nth (([] : List Sapi_Hop) ++ (nth z1 (Int.tmod (i64 z4) ((z1.length : Nat) : Int)))) 0).fLink)⟩ : Sapi_Hop)) (z1v.weak (fun _ _ h=>yH zqK h)) zah.1 zah.2 zyQ rfl (Nat.le_of_ble_eq_true rfl) (show p55 _ _ _ from ⟨_,_,rfl,zyR⟩)
           refine WL.y10 rfl rfl (y12 (vs:=[(.slice (some ⟨zco,0,none⟩) (((([] : List Sapi_Hop) ++ (nth z1 (Int.tmod (i64 z4) ((z1.length : Nat) : Int)))).set (0 : Int).toNat (⟨(-1),((nth (([] : List Sapi_Hop) ++ (nth z1 (Int.tmod (i64 z4) ((z1.length : Nat) : Int)))) 0).fNext),((nth (([] : List Sapi_Hop) ++ (nth z1 (Int.tmod (i64 z4) ((z1.length : Nat) : Int)))) 0).fLink)⟩ : Sapi_Hop)).length) zX)]) (ds:=y1H ([] ++ z1o) (((Int.tmod (i64 z4) ((z1.length : Nat) : Int)) : Int).toNat * 1 + 0) [(.slice (some ⟨zco,0,none⟩) (((([] : List Sapi_Hop) ++ (nth z1 (Int.tmod (i64 z4) ((z1.length : Nat) : Int)))).set (0 : Int).toNat (⟨(-1),((nth (([] : List Sapi_Hop) ++ (nth z1 (Int.tmod (i64 z4) ((z1.length : Nat) : Int)))) 0).fNext),((nth (([] : List Sapi_Hop) ++ (nth z1 (Int.tmod (i64 z4) ((z1.length : Nat) : Int)))) 0).fLink)⟩ : Sapi_Hop)).length) zX)]) y3Y rfl rfl rfl rfl (y2V rfl y3z) .h2 zyT rfl) ?_
           refine WL.relen .here (u:=(.slice (some ⟨zqI,0,none⟩) (((([] : List (List Sapi_Hop)) ++ z1).set ((Int.tmod (i64 z4) ((z1.length : Nat) : Int)) : Int).toNat ((([] : List Sapi_Hop) ++ (nth z1 (Int.tmod (i64 z4) ((z1.length : Nat) : Int)))).set (0 : Int).toNat (⟨(-1),((nth (([] : List Sapi_Hop) ++ (nth z1 (Int.tmod (i64 z4) ((z1.length : Nat) : Int)))) 0).fNext),((nth (([] : List Sapi_Hop) ++ (nth z1 (Int.tmod (i64 z4) ((z1.length : Nat) : Int)))) 0).fLink)⟩ : Sapi_Hop))).length) zU)) (yR (List.length_set).symm) ?_
           refine WL.repin (i:=14) rfl (u:=(.slice (some ⟨zqI,0,none⟩) (((([] : List (List Sapi_Hop)) ++ z1).set ((Int.tmod (i64 z4) ((z1.length : Nat) : Int)) : Int).toNat ((([] : List Sapi_Hop) ++ (nth z1 (Int.tmod (i64 z4) ((z1.length : Nat) : Int)))).set (0 : Int).toNat (⟨(-1),((nth (([] : List Sapi_Hop) ++ (nth z1 (Int.tmod (i64 z4) ((z1.length : Nat) : Int)))) 0).fNext),((nth (([] : List Sapi_Hop) ++ (nth z1 (Int.tmod (i64 z4) ((z1.length : Nat) : Int)))) 0).fLink)⟩ : Sapi_Hop))).length) zU)) (yR (List.length_set).symm) ?_
           refine WL.nil ?_
           exact WX.mid (G:=List (List Sapi_Hop) × Zp × List Value) ⟨((([] : List (List Sapi_Hop)) ++ z1).set ((Int.tmod (i64 z4) ((z1.length : Nat) : Int)) : Int).toNat ((([] : List Sapi_Hop) ++ (nth z1 (Int.tmod (i64 z4) ((z1.length : Nat) : Int)))).set (0 : Int).toNat (⟨(-1),((nth (([] : List Sapi_Hop) ++ (nth z1 (Int.tmod (i64 z4) ((z1.length : Nat) : Int)))) 0).fNext),((nth (([] : List Sapi_Hop) ++ (nth z1 (Int.tmod (i64 z4) ((z1.length : Nat) : Int)))) 0).fLink)⟩ : Sapi_Hop))),zqJ,(y1H ([] ++ z1o) (((Int.tmod (i64 z4) ((z1.length : Nat) : Int)) : Int).toNat * 1 + 0) [(.slice (some ⟨zco,0,none⟩) (((([] : List Sapi_Hop) ++ (nth z1 (Int.tmod (i64 z4) ((z1.length : Nat) : Int)))).set (0 : Int).toNat (⟨(-1),((nth (([] : List Sapi_Hop) ++ (nth z1 (Int.tmod (i64 z4) ((z1.length : Nat) : Int)))) 0).fNext),((nth (([] : List Sapi_Hop) ++ (nth z1 (Int.tmod (i64 z4) ((z1.length : Nat) : Int)))) 0).fLink)⟩ : Sapi_Hop)).length) zX)])⟩ ⟨h,zqK,zyS⟩ (.cons rfl (.cons rfl (.cons rfl (.cons rfl (.cons rfl .nil))))) (.cons .h1 (.cons .here (.cons .here (.cons .here .nil))))
          ·replace h:=yh h zlk
           refine WC.skip ?_
           exact WX.mid (G:=List (List Sapi_Hop) × Zp × List Value) ⟨(([] : List (List Sapi_Hop)) ++ z1),[],([] ++ z1o)⟩ ⟨h,(Zle.refl _),z1v⟩ (.cons rfl (.cons rfl (.cons rfl (.cons rfl (.cons rfl .nil))))) (.cons .h4 (.cons .h2 (.cons .h1 (.cons .h1 .nil))))
         ·rintro z5i z8f zcp ⟨h,z22,zqL⟩
          replace h:=(zyO z5i).symm.trans h
          refine WC.b ?_
          obtain ⟨z5T,zyU,h⟩:=z8 h
          refine WC.a ?_
          refine WL.a (d:=139) rfl rfl rfl (yu yK rfl (yJ .h3) rfl) ?_
          refine WL.pu rfl (WL.pu rfl (WL.pu rfl ?_))
          refine WL.y2o (dd:=143) rfl rfl rfl (zt (l:=[.tmp 139,.tmp 140,.tmp 141,.tmp 142]) Try.call12 (.cons rfl (.cons rfl (.cons rfl (.cons rfl .nil))))) .nil (y2w hz .nil .here (.cons .h1 (.cons .h1 .nil)) fun w pz ho la=>y1J _ _ _ _ _ _ _ _ _ _ _ _ _ _ _ _ _ _ _ _ _ _ _ _ _ _ zyU w pz ((((z2r.mono ((Zle.left _ _).trans z22)).weak (fun _ _ h=>yq ((Zle.left _ _).trans z22) h)).mono (Zle.left _ _)).weak (fun _ _ h=>yq (Zle.left _ _) h)) ((((z2s.mono ((Zle.left _ _).trans z22)).weak (fun _ _ h=>ys ((Zle.left _ _).trans z22) h)).mono (Zle.left _ _)).weak (fun _ _ h=>ys (Zle.left _ _) h)) ((z2t.mono ((Zle.left _ _).trans z22)).mono (Zle.left _ _)) ((z2u.mono ((Zle.left _ _).trans z22)).mono (Zle.left _ _)) ((((z2v.mono ((Zle.left _ _).trans z22)).weak (fun _ _ h=>yr ((Zle.left _ _).trans z22) h)).mono (Zle.left _ _)).weak (fun _ _ h=>yr (Zle.left _ _) h)) ((z2w.mono ((Zle.left _ _).trans z22)).mono (Zle.left _ _)) ((((z2x.mono ((Zle.left _ _).trans z22)).weak (fun _ _ h=>yt ((Zle.left _ _).trans z22) h)).mono (Zle.left _ _)).weak (fun _ _ h=>yt (Zle.left _ _) h)) ((z2y.mono ((Zle.left _ _).trans z22)).mono (Zle.left _ _)) (ZA.row (la _ (.head _) _) (zqL.weak (fun _ _ h=>yH (Zle.left _ _) h)) ⟨w,pz.1⟩) (ZA.row (la _ (.tail _ (.head _)) _) (RR.yE (enc:=e53) (fun _=>rfl) _) ⟨w,pz.1⟩)) ?_
          rintro zyV zyW zyX zyY _
          refine WL.pu rfl (WL.pu rfl (WL.pu rfl (WL.pu rfl (WL.pu rfl (WL.pu rfl (WL.pu rfl (WL.nil (WX.a (WC.b ?_)))))))))
          obtain ⟨zh7,zqM,h⟩:=z8 h
          obtain ⟨zkU,zqN,h⟩:=z8 h
          refine WC.a (WL.pu rfl (WL.pu rfl (WL.pu rfl (WL.pu rfl ?_))))
          refine WL.seg true 6 150 (B:=(decide (z5T.2.2 = 310)) && (decide ((i64 (((z5T.1.length : Nat) : Int) + ((z5T.2.1.length : Nat) : Int))) = 0))) rfl rfl rfl rfl rfl rfl (fun h=>(y1c h).symm) (fun _ zyZ=>?_) ?_
          ·skip
           refine WL.pu rfl ?_
           refine WL.a (d:=152) rfl rfl rfl (yz Try.underlying36 rfl) ?_
           refine WL.pu rfl ?_
           refine WL.a (d:=154) rfl rfl rfl (yz Try.underlying36 rfl) ?_
           refine WL.pu rfl (WL.pu rfl (WL.pu rfl ?_))
           exact WL.yi (y1d zyZ) rfl rfl .all
          refine WL.pu rfl ?_
          refine WL.seg true 7 158 (B:=zh7) rfl rfl rfl rfl rfl rfl (fun h=>(Option.some.inj (yh zqM h)).symm) (fun _ zz0=>?_) ?_
          ·skip
           have zf7:=yg zqM zz0
           obtain ⟨zpW,zz1,zf7⟩:=z8 zf7
           replace zf7:=Option.some.inj zf7
           refine WL.a (d:=159) rfl rfl rfl (yu yK rfl (yJ .h5) rfl) ?_
           refine WL.pu rfl (WL.pu rfl ?_)
           refine WL.b (dd:=162) rfl rfl rfl (zt (l:=[.tmp 159,.tmp 160,.tmp 161]) Try.call15 (.cons rfl (.cons rfl (.cons rfl .nil)))) .nil (y2w hz .nil .h2 (.cons .h3 .nil) fun w pz ho la=>y1n _ _ _ _ _ _ _ _ _ _ _ _ _ _ _ _ _ _ _ _ _ _ _ zz1 w pz ((((z2r.mono ((Zle.left _ _).trans z22)).weak (fun _ _ h=>yq ((Zle.left _ _).trans z22) h)).mono (Zle.left _ _)).weak (fun _ _ h=>yq (Zle.left _ _) h)) ((((z2s.mono ((Zle.left _ _).trans z22)).weak (fun _ _ h=>ys ((Zle.left _ _).trans z22) h)).mono (Zle.left _ _)).weak (fun _ _ h=>ys (Zle.left _ _) h)) ((z2t.mono ((Zle.left _ _).trans z22)).mono (Zle.left _ _)) ((z2u.mono ((Zle.left _ _).trans z22)).mono (Zle.left _ _)) ((((z2v.mono ((Zle.left _ _).trans z22)).weak (fun _ _ h=>yr ((Zle.left _ _).trans z22) h)).mono (Zle.left _ _)).weak (fun _ _ h=>yr (Zle.left _ _) h)) ((z2w.mono ((Zle.left _ _).trans z22)).mono (Zle.left _ _)) ((((z2x.mono ((Zle.left _ _).trans z22)).weak (fun _ _ h=>yt ((Zle.left _ _).trans z22) h)).mono (Zle.left _ _)).weak (fun _ _ h=>yt (Zle.left _ _) h)) ((z2y.mono ((Zle.left _ _).trans z22)).mono (Zle.left _ _)) (ZA.row (la _ (.head _) _) (zqL.weak (fun _ _ h=>yH (Zle.left _ _) h)) ⟨w,pz.1⟩)) ?_
           refine WL.pu rfl ?_
           refine WL.a (d:=164) rfl rfl rfl (y44 rfl rfl) ?_
           refine WL.a (d:=165) rfl rfl rfl (y41 Try.underlying4 rfl rfl) ?_
           refine WL.pu rfl ?_
           exact WL.yi zf7 rfl rfl .all
          refine WL.pu rfl ?_
          refine WL.y3E (fun (zcq : Zp)=>Zle (Z ++ z8f) (Z ++ zcq)) (fun (zcq : Zp)=>[(169,(.bool zkU))]) (fun (zcq : Zp)=>[row (.slice zyV z5T.1.length zyW) 50 3 (z5T.1.flatMap e50),row (.slice zyX z5T.2.1.length zyY) 50 3 (z5T.2.1.flatMap e50),fz zcq,row (.slice z1y z5i.length zU) 55 1 zcp,row (.slice z2Y ((([] : List zSt) ++ zB).length) z2Z) 53 3 ((([] : List zSt) ++ zB).flatMap e53),stb z1u 31 [(.slice z1D z5.fModules.length z1E),(.slice z1F z5.fChannels.length z1G),(.slice z1H z5.fSwitches.length z1I),(.slice z1J z5.fLinks.length z1K),(.slice z1L z5.fVLs.length z1M),(.slice z1N z5.fHealth.length z1O),(.slice z1P z5.fCauses.length z1Q),(.slice z1R z5.fVersions.length z1S)]]) 2 ?_ (fun zcq zEn=>?_)
          ·rcases Bool.eq_false_or_eq_true zh7 with hb' | hb'
           ·have zqO:=hb'; clear hb'
            have zf8:=yg zqN zqO
            obtain ⟨zpX,zz2,zf8⟩:=z8 zf8
            replace zf8:=Option.some.inj zf8
            refine WL.pin (i:=167) rfl zqO ?_
            refine WL.y2g (dd:=168) rfl rfl rfl (zt (l:=[]) Try.call11 .nil) .nil (ccz hz .nil .h2 fun w pz ho=>y1x _ _ zz2 w pz ) ?_
            rintro zz3 _
            refine WL.merge .here .h2 ?_
            refine WL.pu rfl ?_
            exact WL.y1r (G:=Zp) (z8f ++ zz3) ((Zle.left _ _).trans (Zle.yD _ _ _)) (.cons (zi zf8) .nil) (.cons .h1 (.cons .h1 (.cons .here (.cons .here (.cons .here (.cons .here .nil))))))
           ·have zqP:=hb'; clear hb'
            have zll:=yh zqN zqP
            replace zll:=Option.some.inj zll
            refine WL.pin (i:=167) rfl zqP ?_
            refine WL.e rfl rfl rfl (WL.pu rfl ?_)
            exact WL.y1r (G:=Zp) z8f (Zle.refl _) (.cons (zi zll) .nil) (.cons .here (.cons .here (.cons .here (.cons .here (.cons .here (.cons .here .nil))))))
          ·skip
           refine WL.pu rfl (WL.nil (WX.a (WC.ret ?_)))
           obtain rfl:=Option.some.inj h
           refine WX.yj Try.results9 (.tmp rfl .nil) (fun w hw=>?_)
           exact ⟨zcq,yL rfl,trivial,hw.sub (.cons .h2 .nil)⟩
        ·replace h:=yh h zlj
         refine WC.b (WC.a (WL.pu rfl (WL.pu rfl (WL.nil (WX.a ?_)))))
         refine WC.cond rfl (fun zlm=>?_) (fun zlm=>?_)
         ·replace h:=yg h zlm
          obtain ⟨zz4,h⟩:=ye h
          refine WC.a (WL.pu rfl ?_)
          refine WL.a (d:=108) rfl rfl rfl (ya y5i rfl rfl) ?_
          refine WL.a (d:=109) rfl rfl rfl (yb y5j rfl (yd .h3 rfl)) ?_
          refine WL.a (d:=110) rfl rfl rfl (yz Try.underlying26 rfl) ?_
          refine WL.a (d:=111) rfl rfl rfl (y1l (v:=(.agg #[(.int .i64 536870912),(.int .i64 ((z5.fVLs.length : Nat) : Int)),(.int .i64 1)])) (Eos.parts (l:=[.const (.int .i64 536870912),.tmp 110,.const (.int .i64 1)]) (.cons rfl (.cons rfl (.cons rfl .nil))) [0,1,2]) (fun _=>by kernel_rfl)) ?_
          refine WL.new (dd:=112) rfl rfl rfl (yF (cs:=([(⟨536870912,((z5.fVLs.length : Nat) : Int),1⟩ : zSt)] : List zSt).flatMap e53) y2u (Eos.parts (l:=[.tmp 111]) (.cons rfl .nil) [0]) (fun _=>by kernel_rfl) rfl (by unfold maxLen; omega)) ?_
          intro zEo _
          refine WL.eff (d:=113) rfl rfl rfl (y2B (enc:=e53) (l1:=([] : List zSt) ++ zB) (l2:=([(⟨536870912,((z5.fVLs.length : Nat) : Int),1⟩ : zSt)] : List zSt)) y2u rfl rfl .h1 (fun _=>rfl) rfl rfl (y3O .here) (y3c y6I _) zz4) ?_
          rintro ⟨zln,zlo⟩ _
          refine WL.pu rfl (WL.pu rfl (WL.nil (WX.yf (WX.a ?_))))
          obtain ⟨zha,zz5,h⟩:=yO h
          refine WC.y1U (fun (z5j : List (List Sapi_Hop)) (z8g : Zp) (zcr : List Value)=>(zha z5j = some r) ∧ (Zle (Z ++ []) (Z ++ z8g)) ∧ (RR 1 (p55 (Z ++ z8g)) zcr z5j)) (fun (z5j : List (List Sapi_Hop)) (z8g : Zp) (zcr : List Value)=>[(1,(.int .i64 z1d)),(6,(.pointer (some ⟨z1u,0,none⟩))),(14,(.slice z1y z5j.length zU)),(16,(.slice zln (((([] : List zSt) ++ zB) ++ ([(⟨536870912,((z5.fVLs.length : Nat) : Int),1⟩ : zSt)] : List zSt)).length) zlo)),(17,(.int .i64 311))]) (fun (z5j : List (List Sapi_Hop)) (z8g : Zp) (zcr : List Value)=>[fz z8g,row (.slice z1y z5j.length zU) 55 1 zcr,row (.slice zln (((([] : List zSt) ++ zB) ++ ([(⟨536870912,((z5.fVLs.length : Nat) : Int),1⟩ : zSt)] : List zSt)).length) zlo) 53 3 (((([] : List zSt) ++ zB) ++ ([(⟨536870912,((z5.fVLs.length : Nat) : Int),1⟩ : zSt)] : List zSt)).flatMap e53),stb z1u 31 [(.slice z1D z5.fModules.length z1E),(.slice z1F z5.fChannels.length z1G),(.slice z1H z5.fSwitches.length z1I),(.slice z1J z5.fLinks.length z1K),(.slice z1L z5.fVLs.length z1M),(.slice z1N z5.fHealth.length z1O),(.slice z1P z5.fCauses.length z1Q),(.slice z1R z5.fVersions.length z1S)]]) ?_ ?_
          ·skip
           refine WC.b (WC.a (WL.pu rfl ?_))
           refine WL.a (d:=127) rfl rfl rfl (y28 rfl rfl (by decide) rfl) ?_
           refine WL.pu rfl (WL.pu rfl ?_)
           refine WL.seg true 3 129 (B:=(decide ((Int.tmod zK 9) ≥ 2)) && (decide ((Int.tmod zK 9) ≤ 5))) rfl rfl rfl rfl rfl rfl (fun h=>(y1c h).symm) (fun _ zz6=>?_) ?_
           ·skip
            refine WL.pu rfl ?_
            refine WL.a (d:=131) rfl rfl rfl (y28 rfl rfl (by decide) rfl) ?_
            refine WL.pu rfl (WL.pu rfl ?_)
            exact WL.yi (y1d zz6) rfl rfl .all
           refine WL.nil (WX.a ?_)
           refine WC.cond rfl (fun zlp=>?_) (fun zlp=>?_)
           ·replace h:=yg h zlp
            obtain ⟨zai,h⟩:=ye h
            refine WC.a (WL.pu rfl (WL.pu rfl (WL.pu rfl ?_)))
            refine WL.know (fun w hw=>Hp.y15 .h3 hw (by intro hz'; have:=zai; rw [hz'] at this; omega)) ?_
            rintro ⟨zqQ,rfl⟩
            obtain ⟨zEp,zEq,zEr,zz7,⟨zEs,zEt,rfl,zEu⟩⟩:=RR.elem (Pr:=(p55 (Z ++ []))) z1v zai.1 zai.2
            refine WL.a (d:=137) rfl rfl rfl (ym y2i rfl rfl zai.1 zai.2 yM) ?_
            refine WL.freezeS (ls:=([] : List Sapi_Hop) ++ (nth z1 (Int.tmod (i64 z4) ((z1.length : Nat) : Int)))) .h2 .h4 hz (RR.yE (enc:=e59) (fun _=>rfl) _) ?_
            intro zqR zqS zz8
            obtain ⟨zz9,zza⟩:=RR.store (Pr:=(p55 (Z ++ zqR))) (vs:=[(.slice z2z ((([] : List Sapi_Hop) ++ (nth z1 (Int.tmod (i64 z4) ((z1.length : Nat) : Int)))).length) zX)]) (k:=0) (y:=([] : List Sapi_Hop) ++ (nth z1 (Int.tmod (i64 z4) ((z1.length : Nat) : Int)))) (z1v.weak (fun _ _ h=>yH zqS h)) zai.1 zai.2 zz7 rfl (Nat.le_of_ble_eq_true rfl) (show p55 _ _ _ from ⟨_,_,rfl,zz8⟩)
            refine WL.y10 rfl rfl (y12 (vs:=[(.slice z2z ((([] : List Sapi_Hop) ++ (nth z1 (Int.tmod (i64 z4) ((z1.length : Nat) : Int)))).length) zX)]) (ds:=y1H ([] ++ z1o) (((Int.tmod (i64 z4) ((z1.length : Nat) : Int)) : Int).toNat * 1 + 0) [(.slice z2z ((([] : List Sapi_Hop) ++ (nth z1 (Int.tmod (i64 z4) ((z1.length : Nat) : Int)))).length) zX)]) y3Y rfl rfl rfl rfl (y2V rfl y3z) .h3 zza rfl) ?_
            refine WL.relen .here (u:=(.slice (some ⟨zqQ,0,none⟩) (((([] : List (List Sapi_Hop)) ++ z1).set ((Int.tmod (i64 z4) ((z1.length : Nat) : Int)) : Int).toNat (([] : List Sapi_Hop) ++ (nth z1 (Int.tmod (i64 z4) ((z1.length : Nat) : Int))))).length) zU)) (yR (List.length_set).symm) ?_
            refine WL.repin (i:=14) rfl (u:=(.slice (some ⟨zqQ,0,none⟩) (((([] : List (List Sapi_Hop)) ++ z1).set ((Int.tmod (i64 z4) ((z1.length : Nat) : Int)) : Int).toNat (([] : List Sapi_Hop) ++ (nth z1 (Int.tmod (i64 z4) ((z1.length : Nat) : Int))))).length) zU)) (yR (List.length_set).symm) ?_
            refine WL.nil ?_
            exact WX.mid (G:=List (List Sapi_Hop) × Zp × List Value) ⟨((([] : List (List Sapi_Hop)) ++ z1).set ((Int.tmod (i64 z4) ((z1.length : Nat) : Int)) : Int).toNat (([] : List Sapi_Hop) ++ (nth z1 (Int.tmod (i64 z4) ((z1.length : Nat) : Int))))),zqR,(y1H ([] ++ z1o) (((Int.tmod (i64 z4) ((z1.length : Nat) : Int)) : Int).toNat * 1 + 0) [(.slice z2z ((([] : List Sapi_Hop) ++ (nth z1 (Int.tmod (i64 z4) ((z1.length : Nat) : Int)))).length) zX)])⟩ ⟨h,zqS,zz9⟩ (.cons rfl (.cons rfl (.cons rfl (.cons rfl (.cons rfl .nil))))) (.cons .h1 (.cons .here (.cons .here (.cons .h1 .nil))))
           ·replace h:=yh h zlp
            refine WC.skip ?_
            exact WX.mid (G:=List (List Sapi_Hop) × Zp × List Value) ⟨(([] : List (List Sapi_Hop)) ++ z1),[],([] ++ z1o)⟩ ⟨h,(Zle.refl _),z1v⟩ (.cons rfl (.cons rfl (.cons rfl (.cons rfl (.cons rfl .nil))))) (.cons .h5 (.cons .h3 (.cons .here (.cons .h2 .nil))))
          ·rintro z5j z8g zcr ⟨h,z23,zqT⟩
           replace h:=(zz5 z5j).symm.trans h
           refine WC.b ?_
           obtain ⟨z5U,zzb,h⟩:=z8 h
           refine WC.a ?_
           refine WL.a (d:=139) rfl rfl rfl (yu yK rfl (yJ .h3) rfl) ?_
           refine WL.pu rfl (WL.pu rfl (WL.pu rfl ?_))
           refine WL.y2o (dd:=143) rfl rfl rfl (zt (l:=[.tmp 139,.tmp 140,.tmp 141,.tmp 142]) Try.call12 (.cons rfl (.cons rfl (.cons rfl (.cons rfl .nil))))) .nil (y2w hz .nil .here (.cons .h1 (.cons .h1 .nil)) fun w pz ho la=>y1J _ _ _ _ _ _ _ _ _ _ _ _ _ _ _ _ _ _ _ _ _ _ _ _ _ _ zzb w pz ((((z2r.mono ((Zle.left _ _).trans z23)).weak (fun _ _ h=>yq ((Zle.left _ _).trans z23) h)).mono (Zle.left _ _)).weak (fun _ _ h=>yq (Zle.left _ _) h)) ((((z2s.mono ((Zle.left _ _).trans z23)).weak (fun _ _ h=>ys ((Zle.left _ _).trans z23) h)).mono (Zle.left _ _)).weak (fun _ _ h=>ys (Zle.left _ _) h)) ((z2t.mono ((Zle.left _ _).trans z23)).mono (Zle.left _ _)) ((z2u.mono ((Zle.left _ _).trans z23)).mono (Zle.left _ _)) ((((z2v.mono ((Zle.left _ _).trans z23)).weak (fun _ _ h=>yr ((Zle.left _ _).trans z23) h)).mono (Zle.left _ _)).weak (fun _ _ h=>yr (Zle.left _ _) h)) ((z2w.mono ((Zle.left _ _).trans z23)).mono (Zle.left _ _)) ((((z2x.mono ((Zle.left _ _).trans z23)).weak (fun _ _ h=>yt ((Zle.left _ _).trans z23) h)).mono (Zle.left _ _)).weak (fun _ _ h=>yt (Zle.left _ _) h)) ((z2y.mono ((Zle.left _ _).trans z23)).mono (Zle.left _ _)) (ZA.row (la _ (.head _) _) (zqT.weak (fun _ _ h=>yH (Zle.left _ _) h)) ⟨w,pz.1⟩) (ZA.row (la _ (.tail _ (.head _)) _) (RR.yE (enc:=e53) (fun _=>rfl) _) ⟨w,pz.1⟩)) ?_
           rintro zzc zzd zze zzf _
           refine WL.pu rfl (WL.pu rfl (WL.pu rfl (WL.pu rfl (WL.pu rfl (WL.pu rfl (WL.pu rfl (WL.nil (WX.a (WC.b ?_)))))))))
           obtain ⟨zh9,zqU,h⟩:=z8 h
           obtain ⟨zkV,zqV,h⟩:=z8 h
           refine WC.a (WL.pu rfl (WL.pu rfl (WL.pu rfl (WL.pu rfl ?_))))
           refine WL.seg true 6 150 (B:=(decide (z5U.2.2 = 311)) && (decide ((i64 (((z5U.1.length : Nat) : Int) + ((z5U.2.1.length : Nat) : Int))) = 0))) rfl rfl rfl rfl rfl rfl (fun h=>(y1c h).symm) (fun _ zzg=>?_) ?_
           ·skip
            refine WL.pu rfl ?_
            refine WL.a (d:=152) rfl rfl rfl (yz Try.underlying36 rfl) ?_
            refine WL.pu rfl ?_
            refine WL.a (d:=154) rfl rfl rfl (yz Try.underlying36 rfl) ?_
            refine WL.pu rfl (WL.pu rfl (WL.pu rfl ?_))
            exact WL.yi (y1d zzg) rfl rfl .all
           refine WL.pu rfl ?_
           refine WL.seg true 7 158 (B:=zh9) rfl rfl rfl rfl rfl rfl (fun h=>(Option.some.inj (yh zqU h)).symm) (fun _ zzh=>?_) ?_
           ·skip
            have zf9:=yg zqU zzh
            obtain ⟨zpY,zzi,zf9⟩:=z8 zf9
            replace zf9:=Option.some.inj zf9
            refine WL.a (d:=159) rfl rfl rfl (yu yK rfl (yJ .h5) rfl) ?_
            refine WL.pu rfl (WL.pu rfl ?_)
            refine WL.b (dd:=162) rfl rfl rfl (zt (l:=[.tmp 159,.tmp 160,.tmp 161]) Try.call15 (.cons rfl (.cons rfl (.cons rfl .nil)))) .nil (y2w hz .nil .h2 (.cons .h3 .nil) fun w pz ho la=>y1n _ _ _ _ _ _ _ _ _ _ _ _ _ _ _ _ _ _ _ _ _ _ _ zzi w pz ((((z2r.mono ((Zle.left _ _).trans z23)).weak (fun _ _ h=>yq ((Zle.left _ _).trans z23) h)).mono (Zle.left _ _)).weak (fun _ _ h=>yq (Zle.left _ _) h)) ((((z2s.mono ((Zle.left _ _).trans z23)).weak (fun _ _ h=>ys ((Zle.left _ _).trans z23) h)).mono (Zle.left _ _)).weak (fun _ _ h=>ys (Zle.left _ _) h)) ((z2t.mono ((Zle.left _ _).trans z23)).mono (Zle.left _ _)) ((z2u.mono ((Zle.left _ _).trans z23)).mono (Zle.left _ _)) ((((z2v.mono ((Zle.left _ _).trans z23)).weak (fun _ _ h=>yr ((Zle.left _ _).trans z23) h)).mono (Zle.left _ _)).weak (fun _ _ h=>yr (Zle.left _ _) h)) ((z2w.mono ((Zle.left _ _).trans z23)).mono (Zle.left _ _)) ((((z2x.mono ((Zle.left _ _).trans z23)).weak (fun _ _ h=>yt ((Zle.left _ _).trans z23) h)).mono (Zle.left _ _)).weak (fun _ _ h=>yt (Zle.left _ _) h)) ((z2y.mono ((Zle.left _ _).trans z23)).mono (Zle.left _ _)) (ZA.row (la _ (.head _) _) (zqT.weak (fun _ _ h=>yH (Zle.left _ _) h)) ⟨w,pz.1⟩)) ?_
            refine WL.pu rfl ?_
            refine WL.a (d:=164) rfl rfl rfl (y44 rfl rfl) ?_
            refine WL.a (d:=165) rfl rfl rfl (y41 Try.underlying4 rfl rfl) ?_
            refine WL.pu rfl ?_
            exact WL.yi zf9 rfl rfl .all
           refine WL.pu rfl ?_
           refine WL.y3E (fun (zcs : Zp)=>Zle (Z ++ z8g) (Z ++ zcs)) (fun (zcs : Zp)=>[(169,(.bool zkV))]) (fun (zcs : Zp)=>[row (.slice zzc z5U.1.length zzd) 50 3 (z5U.1.flatMap e50),row (.slice zze z5U.2.1.length zzf) 50 3 (z5U.2.1.flatMap e50),fz zcs,row (.slice z1y z5j.length zU) 55 1 zcr,row (.slice zln (((([] : List zSt) ++ zB) ++ ([(⟨536870912,((z5.fVLs.length : Nat) : Int),1⟩ : zSt)] : List zSt)).length) zlo) 53 3 (((([] : List zSt) ++ zB) ++ ([(⟨536870912,((z5.fVLs.length : Nat) : Int),1⟩ : zSt)] : List zSt)).flatMap e53),stb z1u 31 [(.slice z1D z5.fModules.length z1E),(.slice z1F z5.fChannels.length z1G),(.slice z1H z5.fSwitches.length z1I),(.slice z1J z5.fLinks.length z1K),(.slice z1L z5.fVLs.length z1M),(.slice z1N z5.fHealth.length z1O),(.slice z1P z5.fCauses.length z1Q),(.slice z1R z5.fVersions.length z1S)]]) 2 ?_ (fun zcs zEv=>?_)
           ·rcases Bool.eq_false_or_eq_true zh9 with hb' | hb'
            ·have zqW:=hb'; clear hb'
             have zfa:=yg zqV zqW
             obtain ⟨zpZ,zzj,zfa⟩:=z8 zfa
             replace zfa:=Option.some.inj zfa
             refine WL.pin (i:=167) rfl zqW ?_
             refine WL.y2g (dd:=168) rfl rfl rfl (zt (l:=[]) Try.call11 .nil) .nil (ccz hz .nil .h2 fun w pz ho=>y1x _ _ zzj w pz ) ?_
             rintro zzk _
             refine WL.merge .here .h2 ?_
             refine WL.pu rfl ?_
             exact WL.y1r (G:=Zp) (z8g ++ zzk) ((Zle.left _ _).trans (Zle.yD _ _ _)) (.cons (zi zfa) .nil) (.cons .h1 (.cons .h1 (.cons .here (.cons .here (.cons .here (.cons .here .nil))))))
            ·have zqX:=hb'; clear hb'
             have zlq:=yh zqV zqX
             replace zlq:=Option.some.inj zlq
             refine WL.pin (i:=167) rfl zqX ?_
             refine WL.e rfl rfl rfl (WL.pu rfl ?_)
             exact WL.y1r (G:=Zp) z8g (Zle.refl _) (.cons (zi zlq) .nil) (.cons .here (.cons .here (.cons .here (.cons .here (.cons .here (.cons .here .nil))))))
           ·skip
            refine WL.pu rfl (WL.nil (WX.a (WC.ret ?_)))
            obtain rfl:=Option.some.inj h
            refine WX.yj Try.results9 (.tmp rfl .nil) (fun w hw=>?_)
            exact ⟨zcs,yL rfl,trivial,hw.sub (.cons .h2 .nil)⟩
         ·replace h:=yh h zlm
          refine WC.b (WC.a (WL.pu rfl (WL.pu rfl (WL.nil (WX.a ?_)))))
          refine WC.cond rfl (fun zlr=>?_) (fun zlr=>?_)
          ·replace h:=yg h zlr
           obtain ⟨zzl,h⟩:=ye h
           refine WC.a (WL.pu rfl ?_)
           refine WL.a (d:=117) rfl rfl rfl (y1l (v:=(.agg #[(.int .i64 536870913),(.int .i64 0),(.int .i64 1)])) (Eos.parts (l:=[.const (.int .i64 536870913),.const (.int .i64 1)]) (.cons rfl (.cons rfl .nil)) [0,2]) (fun _=>by kernel_rfl)) ?_
           refine WL.new (dd:=118) rfl rfl rfl (yF (cs:=([(⟨536870913,0,1⟩ : zSt)] : List zSt).flatMap e53) y2u (Eos.parts (l:=[.tmp 117]) (.cons rfl .nil) [0]) (fun _=>by kernel_rfl) rfl (by unfold maxLen; omega)) ?_
           intro zEw _
           refine WL.eff (d:=119) rfl rfl rfl (y2B (enc:=e53) (l1:=([] : List zSt) ++ zB) (l2:=([(⟨536870913,0,1⟩ : zSt)] : List zSt)) y2u rfl rfl .h1 (fun _=>rfl) rfl rfl (y3O .here) (y3c y6I _) zzl) ?_
           rintro ⟨zls,zlt⟩ _
           refine WL.pu rfl (WL.pu rfl (WL.nil (WX.yf (WX.a ?_))))
           obtain ⟨zhc,zzm,h⟩:=yO h
           refine WC.y1U (fun (z5k : List (List Sapi_Hop)) (z8h : Zp) (zct : List Value)=>(zhc z5k = some r) ∧ (Zle (Z ++ []) (Z ++ z8h)) ∧ (RR 1 (p55 (Z ++ z8h)) zct z5k)) (fun (z5k : List (List Sapi_Hop)) (z8h : Zp) (zct : List Value)=>[(1,(.int .i64 z1d)),(6,(.pointer (some ⟨z1u,0,none⟩))),(14,(.slice z1y z5k.length zU)),(16,(.slice zls (((([] : List zSt) ++ zB) ++ ([(⟨536870913,0,1⟩ : zSt)] : List zSt)).length) zlt)),(17,(.int .i64 311))]) (fun (z5k : List (List Sapi_Hop)) (z8h : Zp) (zct : List Value)=>[fz z8h,row (.slice z1y z5k.length zU) 55 1 zct,row (.slice zls (((([] : List zSt) ++ zB) ++ ([(⟨536870913,0,1⟩ : zSt)] : List zSt)).length) zlt) 53 3 (((([] : List zSt) ++ zB) ++ ([(⟨536870913,0,1⟩ : zSt)] : List zSt)).flatMap e53),stb z1u 31 [(.slice z1D z5.fModules.length z1E),(.slice z1F z5.fChannels.length z1G),(.slice z1H z5.fSwitches.length z1I),(.slice z1J z5.fLinks.length z1K),(.slice z1L z5.fVLs.length z1M),(.slice z1N z5.fHealth.length z1O),(.slice z1P z5.fCauses.length z1Q),(.slice z1R z5.fVersions.length z1S)]]) ?_ ?_
           ·skip
            refine WC.b (WC.a (WL.pu rfl ?_))
            refine WL.a (d:=127) rfl rfl rfl (y28 rfl rfl (by decide) rfl) ?_
            refine WL.pu rfl (WL.pu rfl ?_)
            refine WL.seg true 3 129 (B:=(decide ((Int.tmod zK 9) ≥ 2)) && (decide ((Int.tmod zK 9) ≤ 5))) rfl rfl rfl rfl rfl rfl (fun h=>(y1c h).symm) (fun _ zzn=>?_) ?_
            ·skip
             refine WL.pu rfl ?_
             refine WL.a (d:=131) rfl rfl rfl (y28 rfl rfl (by decide) rfl) ?_
             refine WL.pu rfl (WL.pu rfl ?_)
             exact WL.yi (y1d zzn) rfl rfl .all
            refine WL.nil (WX.a ?_)
            refine WC.cond rfl (fun zlu=>?_) (fun zlu=>?_)
            ·replace h:=yg h zlu
             obtain ⟨zaj,h⟩:=ye h
             refine WC.a (WL.pu rfl (WL.pu rfl (WL.pu rfl ?_)))
             refine WL.know (fun w hw=>Hp.y15 .h3 hw (by intro hz'; have:=zaj; rw [hz'] at this; omega)) ?_
             rintro ⟨zqY,rfl⟩
             obtain ⟨zEx,zEy,zEz,zzo,⟨zEA,zEB,rfl,zEC⟩⟩:=RR.elem (Pr:=(p55 (Z ++ []))) z1v zaj.1 zaj.2
             refine WL.a (d:=137) rfl rfl rfl (ym y2i rfl rfl zaj.1 zaj.2 yM) ?_
             refine WL.freezeS (ls:=([] : List Sapi_Hop) ++ (nth z1 (Int.tmod (i64 z4) ((z1.length : Nat) : Int)))) .h2 .h4 hz (RR.yE (enc:=e59) (fun _=>rfl) _) ?_
             intro zqZ zr0 zzp
             obtain ⟨zzq,zzr⟩:=RR.store (Pr:=(p55 (Z ++ zqZ))) (vs:=[(.slice z2z ((([] : List Sapi_Hop) ++ (nth z1 (Int.tmod (i64 z4) ((z1.length : Nat) : Int)))).length) zX)]) (k:=0) (y:=([] : List Sapi_Hop) ++ (nth z1 (Int.tmod (i64 z4) ((z1.length : Nat) : Int)))) (z1v.weak (fun _ _ h=>yH zr0 h)) zaj.1 zaj.2 zzo rfl (Nat.le_of_ble_eq_true rfl) (show p55 _ _ _ from ⟨_,_,rfl,zzp⟩)
             refine WL.y10 rfl rfl (y12 (vs:=[(.slice z2z ((([] : List Sapi_Hop) ++ (nth z1 (Int.tmod (i64 z4) ((z1.length : Nat) : Int)))).length) zX)]) (ds:=y1H ([] ++ z1o) (((Int.tmod (i64 z4) ((z1.length : Nat) : Int)) : Int).toNat * 1 + 0) [(.slice z2z ((([] : List Sapi_Hop) ++ (nth z1 (Int.tmod (i64 z4) ((z1.length : Nat) : Int)))).length) zX)]) y3Y rfl rfl rfl rfl (y2V rfl y3z) .h3 zzr rfl) ?_
             refine WL.relen .here (u:=(.slice (some ⟨zqY,0,none⟩) (((([] : List (List Sapi_Hop)) ++ z1).set ((Int.tmod (i64 z4) ((z1.length : Nat) : Int)) : Int).toNat (([] : List Sapi_Hop) ++ (nth z1 (Int.tmod (i64 z4) ((z1.length : Nat) : Int))))).length) zU)) (yR (List.length_set).symm) ?_
             refine WL.repin (i:=14) rfl (u:=(.slice (some ⟨zqY,0,none⟩) (((([] : List (List Sapi_Hop)) ++ z1).set ((Int.tmod (i64 z4) ((z1.length : Nat) : Int)) : Int).toNat (([] : List Sapi_Hop) ++ (nth z1 (Int.tmod (i64 z4) ((z1.length : Nat) : Int))))).length) zU)) (yR (List.length_set).symm) ?_
             refine WL.nil ?_
             exact WX.mid (G:=List (List Sapi_Hop) × Zp × List Value) ⟨((([] : List (List Sapi_Hop)) ++ z1).set ((Int.tmod (i64 z4) ((z1.length : Nat) : Int)) : Int).toNat (([] : List Sapi_Hop) ++ (nth z1 (Int.tmod (i64 z4) ((z1.length : Nat) : Int))))),zqZ,(y1H ([] ++ z1o) (((Int.tmod (i64 z4) ((z1.length : Nat) : Int)) : Int).toNat * 1 + 0) [(.slice z2z ((([] : List Sapi_Hop) ++ (nth z1 (Int.tmod (i64 z4) ((z1.length : Nat) : Int)))).length) zX)])⟩ ⟨h,zr0,zzq⟩ (.cons rfl (.cons rfl (.cons rfl (.cons rfl (.cons rfl .nil))))) (.cons .h1 (.cons .here (.cons .here (.cons .h1 .nil))))
            ·replace h:=yh h zlu
             refine WC.skip ?_
             exact WX.mid (G:=List (List Sapi_Hop) × Zp × List Value) ⟨(([] : List (List Sapi_Hop)) ++ z1),[],([] ++ z1o)⟩ ⟨h,(Zle.refl _),z1v⟩ (.cons rfl (.cons rfl (.cons rfl (.cons rfl (.cons rfl .nil))))) (.cons .h5 (.cons .h3 (.cons .here (.cons .h2 .nil))))
           ·rintro z5k z8h zct ⟨h,z24,zr1⟩
            replace h:=(zzm z5k).symm.trans h
            refine WC.b ?_
            obtain ⟨z5V,zzs,h⟩:=z8 h
            refine WC.a ?_
            refine WL.a (d:=139) rfl rfl rfl (yu yK rfl (yJ .h3) rfl) ?_
            refine WL.pu rfl (WL.pu rfl (WL.pu rfl ?_))
            refine WL.y2o (dd:=143) rfl rfl rfl (zt (l:=[.tmp 139,.tmp 140,.tmp 141,.tmp 142]) Try.call12 (.cons rfl (.cons rfl (.cons rfl (.cons rfl .nil))))) .nil (y2w hz .nil .here (.cons .h1 (.cons .h1 .nil)) fun w pz ho la=>y1J _ _ _ _ _ _ _ _ _ _ _ _ _ _ _ _ _ _ _ _ _ _ _ _ _ _ zzs w pz ((((z2r.mono ((Zle.left _ _).trans z24)).weak (fun _ _ h=>yq ((Zle.left _ _).trans z24) h)).mono (Zle.left _ _)).weak (fun _ _ h=>yq (Zle.left _ _) h)) ((((z2s.mono ((Zle.left _ _).trans z24)).weak (fun _ _ h=>ys ((Zle.left _ _).trans z24) h)).mono (Zle.left _ _)).weak (fun _ _ h=>ys (Zle.left _ _) h)) ((z2t.mono ((Zle.left _ _).trans z24)).mono (Zle.left _ _)) ((z2u.mono ((Zle.left _ _).trans z24)).mono (Zle.left _ _)) ((((z2v.mono ((Zle.left _ _).trans z24)).weak (fun _ _ h=>yr ((Zle.left _ _).trans z24) h)).mono (Zle.left _ _)).weak (fun _ _ h=>yr (Zle.left _ _) h)) ((z2w.mono ((Zle.left _ _).trans z24)).mono (Zle.left _ _)) ((((z2x.mono ((Zle.left _ _).trans z24)).weak (fun _ _ h=>yt ((Zle.left _ _).trans z24) h)).mono (Zle.left _ _)).weak (fun _ _ h=>yt (Zle.left _ _) h)) ((z2y.mono ((Zle.left _ _).trans z24)).mono (Zle.left _ _)) (ZA.row (la _ (.head _) _) (zr1.weak (fun _ _ h=>yH (Zle.left _ _) h)) ⟨w,pz.1⟩) (ZA.row (la _ (.tail _ (.head _)) _) (RR.yE (enc:=e53) (fun _=>rfl) _) ⟨w,pz.1⟩)) ?_
            rintro zzt zzu zzv zzw _
            refine WL.pu rfl (WL.pu rfl (WL.pu rfl (WL.pu rfl (WL.pu rfl (WL.pu rfl (WL.pu rfl (WL.nil (WX.a (WC.b ?_)))))))))
            obtain ⟨zhb,zr2,h⟩:=z8 h
            obtain ⟨zkW,zr3,h⟩:=z8 h
            refine WC.a (WL.pu rfl (WL.pu rfl (WL.pu rfl (WL.pu rfl ?_))))
            refine WL.seg true 6 150 (B:=(decide (z5V.2.2 = 311)) && (decide ((i64 (((z5V.1.length : Nat) : Int) + ((z5V.2.1.length : Nat) : Int))) = 0))) rfl rfl rfl rfl rfl rfl (fun h=>(y1c h).symm) (fun _ zzx=>?_) ?_
            ·skip
             refine WL.pu rfl ?_
             refine WL.a (d:=152) rfl rfl rfl (yz Try.underlying36 rfl) ?_
             refine WL.pu rfl ?_
             refine WL.a (d:=154) rfl rfl rfl (yz Try.underlying36 rfl) ?_
             refine WL.pu rfl (WL.pu rfl (WL.pu rfl ?_))
             exact WL.yi (y1d zzx) rfl rfl .all
            refine WL.pu rfl ?_
            refine WL.seg true 7 158 (B:=zhb) rfl rfl rfl rfl rfl rfl (fun h=>(Option.some.inj (yh zr2 h)).symm) (fun _ zzy=>?_) ?_
            ·skip
             have zfb:=yg zr2 zzy
             obtain ⟨zq0,zzz,zfb⟩:=z8 zfb
             replace zfb:=Option.some.inj zfb
             refine WL.a (d:=159) rfl rfl rfl (yu yK rfl (yJ .h5) rfl) ?_
             refine WL.pu rfl (WL.pu rfl ?_)
             refine WL.b (dd:=162) rfl rfl rfl (zt (l:=[.tmp 159,.tmp 160,.tmp 161]) Try.call15 (.cons rfl (.cons rfl (.cons rfl .nil)))) .nil (y2w hz .nil .h2 (.cons .h3 .nil) fun w pz ho la=>y1n _ _ _ _ _ _ _ _ _ _ _ _ _ _ _ _ _ _ _ _ _ _ _ zzz w pz ((((z2r.mono ((Zle.left _ _).trans z24)).weak (fun _ _ h=>yq ((Zle.left _ _).trans z24) h)).mono (Zle.left _ _)).weak (fun _ _ h=>yq (Zle.left _ _) h)) ((((z2s.mono ((Zle.left _ _).trans z24)).weak (fun _ _ h=>ys ((Zle.left _ _).trans z24) h)).mono (Zle.left _ _)).weak (fun _ _ h=>ys (Zle.left _ _) h)) ((z2t.mono ((Zle.left _ _).trans z24)).mono (Zle.left _ _)) ((z2u.mono ((Zle.left _ _).trans z24)).mono (Zle.left _ _)) ((((z2v.mono ((Zle.left _ _).trans z24)).weak (fun _ _ h=>yr ((Zle.left _ _).trans z24) h)).mono (Zle.left _ _)).weak (fun _ _ h=>yr (Zle.left _ _) h)) ((z2w.mono ((Zle.left _ _).trans z24)).mono (Zle.left _ _)) ((((z2x.mono ((Zle.left _ _).trans z24)).weak (fun _ _ h=>yt ((Zle.left _ _).trans z24) h)).mono (Zle.left _ _)).weak (fun _ _ h=>yt (Zle.left _ _) h)) ((z2y.mono ((Zle.left _ _).trans z24)).mono (Zle.left _ _)) (ZA.row (la _ (.head _) _) (zr1.weak (fun _ _ h=>yH (Zle.left _ _) h)) ⟨w,pz.1⟩)) ?_
             refine WL.pu rfl ?_
             refine WL.a (d:=164) rfl rfl rfl (y44 rfl rfl) ?_
             refine WL.a (d:=165) rfl rfl rfl (y41 Try.underlying4 rfl rfl) ?_
             refine WL.pu rfl ?_
             exact WL.yi zfb rfl rfl .all
            refine WL.pu rfl ?_
            refine WL.y3E (fun (zcu : Zp)=>Zle (Z ++ z8h) (Z ++ zcu)) (fun (zcu : Zp)=>[(169,(.bool zkW))]) (fun (zcu : Zp)=>[row (.slice zzt z5V.1.length zzu) 50 3 (z5V.1.flatMap e50),row (.slice zzv z5V.2.1.length zzw) 50 3 (z5V.2.1.flatMap e50),fz zcu,row (.slice z1y z5k.length zU) 55 1 zct,row (.slice zls (((([] : List zSt) ++ zB) ++ ([(⟨536870913,0,1⟩ : zSt)] : List zSt)).length) zlt) 53 3 (((([] : List zSt) ++ zB) ++ ([(⟨536870913,0,1⟩ : zSt)] : List zSt)).flatMap e53),stb z1u 31 [(.slice z1D z5.fModules.length z1E),(.slice z1F z5.fChannels.length z1G),(.slice z1H z5.fSwitches.length z1I),(.slice z1J z5.fLinks.length z1K),(.slice z1L z5.fVLs.length z1M),(.slice z1N z5.fHealth.length z1O),(.slice z1P z5.fCauses.length z1Q),(.slice z1R z5.fVersions.length z1S)]]) 2 ?_ (fun zcu zED=>?_)
            ·rcases Bool.eq_false_or_eq_true zhb with hb' | hb'
             ·have zr4:=hb'; clear hb'
              have zfc:=yg zr3 zr4
              obtain ⟨zq1,zzA,zfc⟩:=z8 zfc
              replace zfc:=Option.some.inj zfc
              refine WL.pin (i:=167) rfl zr4 ?_
              refine WL.y2g (dd:=168) rfl rfl rfl (zt (l:=[]) Try.call11 .nil) .nil (ccz hz .nil .h2 fun w pz ho=>y1x _ _ zzA w pz ) ?_
              rintro zzB _
              refine WL.merge .here .h2 ?_
              refine WL.pu rfl ?_
              exact WL.y1r (G:=Zp) (z8h ++ zzB) ((Zle.left _ _).trans (Zle.yD _ _ _)) (.cons (zi zfc) .nil) (.cons .h1 (.cons .h1 (.cons .here (.cons .here (.cons .here (.cons .here .nil))))))
             ·have zr5:=hb'; clear hb'
              have zlv:=yh zr3 zr5
              replace zlv:=Option.some.inj zlv
              refine WL.pin (i:=167) rfl zr5 ?_
              refine WL.e rfl rfl rfl (WL.pu rfl ?_)
              exact WL.y1r (G:=Zp) z8h (Zle.refl _) (.cons (zi zlv) .nil) (.cons .here (.cons .here (.cons .here (.cons .here (.cons .here (.cons .here .nil))))))
            ·skip
             refine WL.pu rfl (WL.nil (WX.a (WC.ret ?_)))
             obtain rfl:=Option.some.inj h
             refine WX.yj Try.results9 (.tmp rfl .nil) (fun w hw=>?_)
             exact ⟨zcu,yL rfl,trivial,hw.sub (.cons .h2 .nil)⟩
          ·replace h:=yh h zlr
           refine WC.b (WC.a (WL.pu rfl (WL.pu rfl (WL.nil (WX.a ?_)))))
           refine WC.cond rfl (fun zlw=>?_) (fun zlw=>?_)
           ·replace h:=yg h zlw
            obtain ⟨zzC,h⟩:=ye h
            refine WC.a (WL.pu rfl ?_)
            refine WL.a (d:=123) rfl rfl rfl (y1l (v:=(.agg #[(.int .i64 536870912),(.int .i64 0),(.int .i64 73)])) (Eos.parts (l:=[.const (.int .i64 536870912),.const (.int .i64 73)]) (.cons rfl (.cons rfl .nil)) [0,2]) (fun _=>by kernel_rfl)) ?_
            refine WL.new (dd:=124) rfl rfl rfl (yF (cs:=([(⟨536870912,0,73⟩ : zSt)] : List zSt).flatMap e53) y2u (Eos.parts (l:=[.tmp 123]) (.cons rfl .nil) [0]) (fun _=>by kernel_rfl) rfl (by unfold maxLen; omega)) ?_
            intro zEE _
            refine WL.eff (d:=125) rfl rfl rfl (y2B (enc:=e53) (l1:=([] : List zSt) ++ zB) (l2:=([(⟨536870912,0,73⟩ : zSt)] : List zSt)) y2u rfl rfl .h1 (fun _=>rfl) rfl rfl (y3O .here) (y3c y6I _) zzC) ?_
            rintro ⟨zlx,zly⟩ _
            refine WL.pu rfl (WL.pu rfl (WL.nil (WX.yf (WX.a ?_))))
            obtain ⟨zhe,zzD,h⟩:=yO h
            refine WC.y1U (fun (z5l : List (List Sapi_Hop)) (z8i : Zp) (zcv : List Value)=>(zhe z5l = some r) ∧ (Zle (Z ++ []) (Z ++ z8i)) ∧ (RR 1 (p55 (Z ++ z8i)) zcv z5l)) (fun (z5l : List (List Sapi_Hop)) (z8i : Zp) (zcv : List Value)=>[(1,(.int .i64 z1d)),(6,(.pointer (some ⟨z1u,0,none⟩))),(14,(.slice z1y z5l.length zU)),(16,(.slice zlx (((([] : List zSt) ++ zB) ++ ([(⟨536870912,0,73⟩ : zSt)] : List zSt)).length) zly)),(17,(.int .i64 311))]) (fun (z5l : List (List Sapi_Hop)) (z8i : Zp) (zcv : List Value)=>[fz z8i,row (.slice z1y z5l.length zU) 55 1 zcv,row (.slice zlx (((([] : List zSt) ++ zB) ++ ([(⟨536870912,0,73⟩ : zSt)] : List zSt)).length) zly) 53 3 (((([] : List zSt) ++ zB) ++ ([(⟨536870912,0,73⟩ : zSt)] : List zSt)).flatMap e53),stb z1u 31 [(.slice z1D z5.fModules.length z1E),(.slice z1F z5.fChannels.length z1G),(.slice z1H z5.fSwitches.length z1I),(.slice z1J z5.fLinks.length z1K),(.slice z1L z5.fVLs.length z1M),(.slice z1N z5.fHealth.length z1O),(.slice z1P z5.fCauses.length z1Q),(.slice z1R z5.fVersions.length z1S)]]) ?_ ?_
            ·skip
             refine WC.b (WC.a (WL.pu rfl ?_))
             refine WL.a (d:=127) rfl rfl rfl (y28 rfl rfl (by decide) rfl) ?_
             refine WL.pu rfl (WL.pu rfl ?_)
             refine WL.seg true 3 129 (B:=(decide ((Int.tmod zK 9) ≥ 2)) && (decide ((Int.tmod zK 9) ≤ 5))) rfl rfl rfl rfl rfl rfl (fun h=>(y1c h).symm) (fun _ zzE=>?_) ?_
             ·skip
              refine WL.pu rfl ?_
              refine WL.a (d:=131) rfl rfl rfl (y28 rfl rfl (by decide) rfl) ?_
              refine WL.pu rfl (WL.pu rfl ?_)
              exact WL.yi (y1d zzE) rfl rfl .all
             refine WL.nil (WX.a ?_)
             refine WC.cond rfl (fun zlz=>?_) (fun zlz=>?_)
             ·replace h:=yg h zlz
              obtain ⟨zak,h⟩:=ye h
              refine WC.a (WL.pu rfl (WL.pu rfl (WL.pu rfl ?_)))
              refine WL.know (fun w hw=>Hp.y15 .h3 hw (by intro hz'; have:=zak; rw [hz'] at this; omega)) ?_
              rintro ⟨zr6,rfl⟩
              obtain ⟨zEF,zEG,zEH,zzF,⟨zEI,zEJ,rfl,zEK⟩⟩:=RR.elem (Pr:=(p55 (Z ++ []))) z1v zak.1 zak.2
              refine WL.a (d:=137) rfl rfl rfl (ym y2i rfl rfl zak.1 zak.2 yM) ?_
              refine WL.freezeS (ls:=([] : List Sapi_Hop) ++ (nth z1 (Int.tmod (i64 z4) ((z1.length : Nat) : Int)))) .h2 .h4 hz (RR.yE (enc:=e59) (fun _=>rfl) _) ?_
              intro zr7 zr8 zzG
              obtain ⟨zzH,zzI⟩:=RR.store (Pr:=(p55 (Z ++ zr7))) (vs:=[(.slice z2z ((([] : List Sapi_Hop) ++ (nth z1 (Int.tmod (i64 z4) ((z1.length : Nat) : Int)))).length) zX)]) (k:=0) (y:=([] : List Sapi_Hop) ++ (nth z1 (Int.tmod (i64 z4) ((z1.length : Nat) : Int)))) (z1v.weak (fun _ _ h=>yH zr8 h)) zak.1 zak.2 zzF rfl (Nat.le_of_ble_eq_true rfl) (show p55 _ _ _ from ⟨_,_,rfl,zzG⟩)
              refine WL.y10 rfl rfl (y12 (vs:=[(.slice z2z ((([] : List Sapi_Hop) ++ (nth z1 (Int.tmod (i64 z4) ((z1.length : Nat) : Int)))).length) zX)]) (ds:=y1H ([] ++ z1o) (((Int.tmod (i64 z4) ((z1.length : Nat) : Int)) : Int).toNat * 1 + 0) [(.slice z2z ((([] : List Sapi_Hop) ++ (nth z1 (Int.tmod (i64 z4) ((z1.length : Nat) : Int)))).length) zX)]) y3Y rfl rfl rfl rfl (y2V rfl y3z) .h3 zzI rfl) ?_
              refine WL.relen .here (u:=(.slice (some ⟨zr6,0,none⟩) (((([] : List (List Sapi_Hop)) ++ z1).set ((Int.tmod (i64 z4) ((z1.length : Nat) : Int)) : Int).toNat (([] : List Sapi_Hop) ++ (nth z1 (Int.tmod (i64 z4) ((z1.length : Nat) : Int))))).length) zU)) (yR (List.length_set).symm) ?_
              refine WL.repin (i:=14) rfl (u:=(.slice (some ⟨zr6,0,none⟩) (((([] : List (List Sapi_Hop)) ++ z1).set ((Int.tmod (i64 z4) ((z1.length : Nat) : Int)) : Int).toNat (([] : List Sapi_Hop) ++ (nth z1 (Int.tmod (i64 z4) ((z1.length : Nat) : Int))))).length) zU)) (yR (List.length_set).symm) ?_
              refine WL.nil ?_
              exact WX.mid (G:=List (List Sapi_Hop) × Zp × List Value) ⟨((([] : List (List Sapi_Hop)) ++ z1).set ((Int.tmod (i64 z4) ((z1.length : Nat) : Int)) : Int).toNat (([] : List Sapi_Hop) ++ (nth z1 (Int.tmod (i64 z4) ((z1.length : Nat) : Int))))),zr7,(y1H ([] ++ z1o) (((Int.tmod (i64 z4) ((z1.length : Nat) : Int)) : Int).toNat * 1 + 0) [(.slice z2z ((([] : List Sapi_Hop) ++ (nth z1 (Int.tmod (i64 z4) ((z1.length : Nat) : Int)))).length) zX)])⟩ ⟨h,zr8,zzH⟩ (.cons rfl (.cons rfl (.cons rfl (.cons rfl (.cons rfl .nil))))) (.cons .h1 (.cons .here (.cons .here (.cons .h1 .nil))))
             ·replace h:=yh h zlz
              refine WC.skip ?_
              exact WX.mid (G:=List (List Sapi_Hop) × Zp × List Value) ⟨(([] : List (List Sapi_Hop)) ++ z1),[],([] ++ z1o)⟩ ⟨h,(Zle.refl _),z1v⟩ (.cons rfl (.cons rfl (.cons rfl (.cons rfl (.cons rfl .nil))))) (.cons .h5 (.cons .h3 (.cons .here (.cons .h2 .nil))))
            ·rintro z5l z8i zcv ⟨h,z25,zr9⟩
             replace h:=(zzD z5l).symm.trans h
             refine WC.b ?_
             obtain ⟨z5W,zzJ,h⟩:=z8 h
             refine WC.a ?_
             refine WL.a (d:=139) rfl rfl rfl (yu yK rfl (yJ .h3) rfl) ?_
             refine WL.pu rfl (WL.pu rfl (WL.pu rfl ?_))
             refine WL.y2o (dd:=143) rfl rfl rfl (zt (l:=[.tmp 139,.tmp 140,.tmp 141,.tmp 142]) Try.call12 (.cons rfl (.cons rfl (.cons rfl (.cons rfl .nil))))) .nil (y2w hz .nil .here (.cons .h1 (.cons .h1 .nil)) fun w pz ho la=>y1J _ _ _ _ _ _ _ _ _ _ _ _ _ _ _ _ _ _ _ _ _ _ _ _ _ _ zzJ w pz ((((z2r.mono ((Zle.left _ _).trans z25)).weak (fun _ _ h=>yq ((Zle.left _ _).trans z25) h)).mono (Zle.left _ _)).weak (fun _ _ h=>yq (Zle.left _ _) h)) ((((z2s.mono ((Zle.left _ _).trans z25)).weak (fun _ _ h=>ys ((Zle.left _ _).trans z25) h)).mono (Zle.left _ _)).weak (fun _ _ h=>ys (Zle.left _ _) h)) ((z2t.mono ((Zle.left _ _).trans z25)).mono (Zle.left _ _)) ((z2u.mono ((Zle.left _ _).trans z25)).mono (Zle.left _ _)) ((((z2v.mono ((Zle.left _ _).trans z25)).weak (fun _ _ h=>yr ((Zle.left _ _).trans z25) h)).mono (Zle.left _ _)).weak (fun _ _ h=>yr (Zle.left _ _) h)) ((z2w.mono ((Zle.left _ _).trans z25)).mono (Zle.left _ _)) ((((z2x.mono ((Zle.left _ _).trans z25)).weak (fun _ _ h=>yt ((Zle.left _ _).trans z25) h)).mono (Zle.left _ _)).weak (fun _ _ h=>yt (Zle.left _ _) h)) ((z2y.mono ((Zle.left _ _).trans z25)).mono (Zle.left _ _)) (ZA.row (la _ (.head _) _) (zr9.weak (fun _ _ h=>yH (Zle.left _ _) h)) ⟨w,pz.1⟩) (ZA.row (la _ (.tail _ (.head _)) _) (RR.yE (enc:=e53) (fun _=>rfl) _) ⟨w,pz.1⟩)) ?_
             rintro zzK zzL zzM zzN _
             refine WL.pu rfl (WL.pu rfl (WL.pu rfl (WL.pu rfl (WL.pu rfl (WL.pu rfl (WL.pu rfl (WL.nil (WX.a (WC.b ?_)))))))))
             obtain ⟨zhd,zra,h⟩:=z8 h
             obtain ⟨zkX,zrb,h⟩:=z8 h
             refine WC.a (WL.pu rfl (WL.pu rfl (WL.pu rfl (WL.pu rfl ?_))))
             refine WL.seg true 6 150 (B:=(decide (z5W.2.2 = 311)) && (decide ((i64 (((z5W.1.length : Nat) : Int) + ((z5W.2.1.length : Nat) : Int))) = 0))) rfl rfl rfl rfl rfl rfl (fun h=>(y1c h).symm) (fun _ zzO=>?_) ?_
             ·skip
              refine WL.pu rfl ?_
              refine WL.a (d:=152) rfl rfl rfl (yz Try.underlying36 rfl) ?_
              refine WL.pu rfl ?_
              refine WL.a (d:=154) rfl rfl rfl (yz Try.underlying36 rfl) ?_
              refine WL.pu rfl (WL.pu rfl (WL.pu rfl ?_))
              exact WL.yi (y1d zzO) rfl rfl .all
             refine WL.pu rfl ?_
             refine WL.seg true 7 158 (B:=zhd) rfl rfl rfl rfl rfl rfl (fun h=>(Option.some.inj (yh zra h)).symm) (fun _ zzP=>?_) ?_
             ·skip
              have zfd:=yg zra zzP
              obtain ⟨zq2,zzQ,zfd⟩:=z8 zfd
              replace zfd:=Option.some.inj zfd
              refine WL.a (d:=159) rfl rfl rfl (yu yK rfl (yJ .h5) rfl) ?_
              refine WL.pu rfl (WL.pu rfl ?_)
              refine WL.b (dd:=162) rfl rfl rfl (zt (l:=[.tmp 159,.tmp 160,.tmp 161]) Try.call15 (.cons rfl (.cons rfl (.cons rfl .nil)))) .nil (y2w hz .nil .h2 (.cons .h3 .nil) fun w pz ho la=>y1n _ _ _ _ _ _ _ _ _ _ _ _ _ _ _ _ _ _ _ _ _ _ _ zzQ w pz ((((z2r.mono ((Zle.left _ _).trans z25)).weak (fun _ _ h=>yq ((Zle.left _ _).trans z25) h)).mono (Zle.left _ _)).weak (fun _ _ h=>yq (Zle.left _ _) h)) ((((z2s.mono ((Zle.left _ _).trans z25)).weak (fun _ _ h=>ys ((Zle.left _ _).trans z25) h)).mono (Zle.left _ _)).weak (fun _ _ h=>ys (Zle.left _ _) h)) ((z2t.mono ((Zle.left _ _).trans z25)).mono (Zle.left _ _)) ((z2u.mono ((Zle.left _ _).trans z25)).mono (Zle.left _ _)) ((((z2v.mono ((Zle.left _ _).trans z25)).weak (fun _ _ h=>yr ((Zle.left _ _).trans z25) h)).mono (Zle.left _ _)).weak (fun _ _ h=>yr (Zle.left _ _) h)) ((z2w.mono ((Zle.left _ _).trans z25)).mono (Zle.left _ _)) ((((z2x.mono ((Zle.left _ _).trans z25)).weak (fun _ _ h=>yt ((Zle.left _ _).trans z25) h)).mono (Zle.left _ _)).weak (fun _ _ h=>yt (Zle.left _ _) h)) ((z2y.mono ((Zle.left _ _).trans z25)).mono (Zle.left _ _)) (ZA.row (la _ (.head _) _) (zr9.weak (fun _ _ h=>yH (Zle.left _ _) h)) ⟨w,pz.1⟩)) ?_
              refine WL.pu rfl ?_
              refine WL.a (d:=164) rfl rfl rfl (y44 rfl rfl) ?_
              refine WL.a (d:=165) rfl rfl rfl (y41 Try.underlying4 rfl rfl) ?_
              refine WL.pu rfl ?_
              exact WL.yi zfd rfl rfl .all
             refine WL.pu rfl ?_
             refine WL.y3E (fun (zcw : Zp)=>Zle (Z ++ z8i) (Z ++ zcw)) (fun (zcw : Zp)=>[(169,(.bool zkX))]) (fun (zcw : Zp)=>[row (.slice zzK z5W.1.length zzL) 50 3 (z5W.1.flatMap e50),row (.slice zzM z5W.2.1.length zzN) 50 3 (z5W.2.1.flatMap e50),fz zcw,row (.slice z1y z5l.length zU) 55 1 zcv,row (.slice zlx (((([] : List zSt) ++ zB) ++ ([(⟨536870912,0,73⟩ : zSt)] : List zSt)).length) zly) 53 3 (((([] : List zSt) ++ zB) ++ ([(⟨536870912,0,73⟩ : zSt)] : List zSt)).flatMap e53),stb z1u 31 [(.slice z1D z5.fModules.length z1E),(.slice z1F z5.fChannels.length z1G),(.slice z1H z5.fSwitches.length z1I),(.slice z1J z5.fLinks.length z1K),(.slice z1L z5.fVLs.length z1M),(.slice z1N z5.fHealth.length z1O),(.slice z1P z5.fCauses.length z1Q),(.slice z1R z5.fVersions.length z1S)]]) 2 ?_ (fun zcw zEL=>?_)
             ·rcases Bool.eq_false_or_eq_true zhd with hb' | hb'
              ·have zrc:=hb'; clear hb'
               have zfe:=yg zrb zrc
               obtain ⟨zq3,zzR,zfe⟩:=z8 zfe
               replace zfe:=Option.some.inj zfe
               refine WL.pin (i:=167) rfl zrc ?_
               refine WL.y2g (dd:=168) rfl rfl rfl (zt (l:=[]) Try.call11 .nil) .nil (ccz hz .nil .h2 fun w pz ho=>y1x _ _ zzR w pz ) ?_
               rintro zzS _
               refine WL.merge .here .h2 ?_
               refine WL.pu rfl ?_
               exact WL.y1r (G:=Zp) (z8i ++ zzS) ((Zle.left _ _).trans (Zle.yD _ _ _)) (.cons (zi zfe) .nil) (.cons .h1 (.cons .h1 (.cons .here (.cons .here (.cons .here (.cons .here .nil))))))
              ·have zrd:=hb'; clear hb'
               have zlA:=yh zrb zrd
               replace zlA:=Option.some.inj zlA
               refine WL.pin (i:=167) rfl zrd ?_
               refine WL.e rfl rfl rfl (WL.pu rfl ?_)
               exact WL.y1r (G:=Zp) z8i (Zle.refl _) (.cons (zi zlA) .nil) (.cons .here (.cons .here (.cons .here (.cons .here (.cons .here (.cons .here .nil))))))
             ·skip
              refine WL.pu rfl (WL.nil (WX.a (WC.ret ?_)))
              obtain rfl:=Option.some.inj h
              refine WX.yj Try.results9 (.tmp rfl .nil) (fun w hw=>?_)
              exact ⟨zcw,yL rfl,trivial,hw.sub (.cons .h2 .nil)⟩
           ·replace h:=yh h zlw
            refine WC.skip (WX.yf (WX.a ?_))
            obtain ⟨zhg,zzT,h⟩:=yO h
            refine WC.y1U (fun (z5m : List (List Sapi_Hop)) (z8j : Zp) (zcx : List Value)=>(zhg z5m = some r) ∧ (Zle (Z ++ []) (Z ++ z8j)) ∧ (RR 1 (p55 (Z ++ z8j)) zcx z5m)) (fun (z5m : List (List Sapi_Hop)) (z8j : Zp) (zcx : List Value)=>[(1,(.int .i64 z1d)),(6,(.pointer (some ⟨z1u,0,none⟩))),(14,(.slice z1y z5m.length zU)),(16,(.slice z2Y ((([] : List zSt) ++ zB).length) z2Z)),(17,(.int .i64 310))]) (fun (z5m : List (List Sapi_Hop)) (z8j : Zp) (zcx : List Value)=>[fz z8j,row (.slice z1y z5m.length zU) 55 1 zcx,row (.slice z2Y ((([] : List zSt) ++ zB).length) z2Z) 53 3 ((([] : List zSt) ++ zB).flatMap e53),stb z1u 31 [(.slice z1D z5.fModules.length z1E),(.slice z1F z5.fChannels.length z1G),(.slice z1H z5.fSwitches.length z1I),(.slice z1J z5.fLinks.length z1K),(.slice z1L z5.fVLs.length z1M),(.slice z1N z5.fHealth.length z1O),(.slice z1P z5.fCauses.length z1Q),(.slice z1R z5.fVersions.length z1S)]]) ?_ ?_
            ·skip
             refine WC.b (WC.a (WL.pu rfl ?_))
             refine WL.a (d:=127) rfl rfl rfl (y28 rfl rfl (by decide) rfl) ?_
             refine WL.pu rfl (WL.pu rfl ?_)
             refine WL.seg true 3 129 (B:=(decide ((Int.tmod zK 9) ≥ 2)) && (decide ((Int.tmod zK 9) ≤ 5))) rfl rfl rfl rfl rfl rfl (fun h=>(y1c h).symm) (fun _ zzU=>?_) ?_
             ·skip
              refine WL.pu rfl ?_
              refine WL.a (d:=131) rfl rfl rfl (y28 rfl rfl (by decide) rfl) ?_
              refine WL.pu rfl (WL.pu rfl ?_)
              exact WL.yi (y1d zzU) rfl rfl .all
             refine WL.nil (WX.a ?_)
             refine WC.cond rfl (fun zlB=>?_) (fun zlB=>?_)
             ·replace h:=yg h zlB
              obtain ⟨zal,h⟩:=ye h
              refine WC.a (WL.pu rfl (WL.pu rfl (WL.pu rfl ?_)))
              refine WL.know (fun w hw=>Hp.y15 .h2 hw (by intro hz'; have:=zal; rw [hz'] at this; omega)) ?_
              rintro ⟨zre,rfl⟩
              obtain ⟨zEM,zEN,zEO,zzV,⟨zEP,zEQ,rfl,zER⟩⟩:=RR.elem (Pr:=(p55 (Z ++ []))) z1v zal.1 zal.2
              refine WL.a (d:=137) rfl rfl rfl (ym y2i rfl rfl zal.1 zal.2 yM) ?_
              refine WL.freezeS (ls:=([] : List Sapi_Hop) ++ (nth z1 (Int.tmod (i64 z4) ((z1.length : Nat) : Int)))) .h1 .h3 hz (RR.yE (enc:=e59) (fun _=>rfl) _) ?_
              intro zrf zrg zzW
              obtain ⟨zzX,zzY⟩:=RR.store (Pr:=(p55 (Z ++ zrf))) (vs:=[(.slice z2z ((([] : List Sapi_Hop) ++ (nth z1 (Int.tmod (i64 z4) ((z1.length : Nat) : Int)))).length) zX)]) (k:=0) (y:=([] : List Sapi_Hop) ++ (nth z1 (Int.tmod (i64 z4) ((z1.length : Nat) : Int)))) (z1v.weak (fun _ _ h=>yH zrg h)) zal.1 zal.2 zzV rfl (Nat.le_of_ble_eq_true rfl) (show p55 _ _ _ from ⟨_,_,rfl,zzW⟩)
              refine WL.y10 rfl rfl (y12 (vs:=[(.slice z2z ((([] : List Sapi_Hop) ++ (nth z1 (Int.tmod (i64 z4) ((z1.length : Nat) : Int)))).length) zX)]) (ds:=y1H ([] ++ z1o) (((Int.tmod (i64 z4) ((z1.length : Nat) : Int)) : Int).toNat * 1 + 0) [(.slice z2z ((([] : List Sapi_Hop) ++ (nth z1 (Int.tmod (i64 z4) ((z1.length : Nat) : Int)))).length) zX)]) y3Y rfl rfl rfl rfl (y2V rfl y3z) .h2 zzY rfl) ?_
              refine WL.relen .here (u:=(.slice (some ⟨zre,0,none⟩) (((([] : List (List Sapi_Hop)) ++ z1).set ((Int.tmod (i64 z4) ((z1.length : Nat) : Int)) : Int).toNat (([] : List Sapi_Hop) ++ (nth z1 (Int.tmod (i64 z4) ((z1.length : Nat) : Int))))).length) zU)) (yR (List.length_set).symm) ?_
              refine WL.repin (i:=14) rfl (u:=(.slice (some ⟨zre,0,none⟩) (((([] : List (List Sapi_Hop)) ++ z1).set ((Int.tmod (i64 z4) ((z1.length : Nat) : Int)) : Int).toNat (([] : List Sapi_Hop) ++ (nth z1 (Int.tmod (i64 z4) ((z1.length : Nat) : Int))))).length) zU)) (yR (List.length_set).symm) ?_
              refine WL.nil ?_
              exact WX.mid (G:=List (List Sapi_Hop) × Zp × List Value) ⟨((([] : List (List Sapi_Hop)) ++ z1).set ((Int.tmod (i64 z4) ((z1.length : Nat) : Int)) : Int).toNat (([] : List Sapi_Hop) ++ (nth z1 (Int.tmod (i64 z4) ((z1.length : Nat) : Int))))),zrf,(y1H ([] ++ z1o) (((Int.tmod (i64 z4) ((z1.length : Nat) : Int)) : Int).toNat * 1 + 0) [(.slice z2z ((([] : List Sapi_Hop) ++ (nth z1 (Int.tmod (i64 z4) ((z1.length : Nat) : Int)))).length) zX)])⟩ ⟨h,zrg,zzX⟩ (.cons rfl (.cons rfl (.cons rfl (.cons rfl (.cons rfl .nil))))) (.cons .h1 (.cons .here (.cons .here (.cons .here .nil))))
             ·replace h:=yh h zlB
              refine WC.skip ?_
              exact WX.mid (G:=List (List Sapi_Hop) × Zp × List Value) ⟨(([] : List (List Sapi_Hop)) ++ z1),[],([] ++ z1o)⟩ ⟨h,(Zle.refl _),z1v⟩ (.cons rfl (.cons rfl (.cons rfl (.cons rfl (.cons rfl .nil))))) (.cons .h4 (.cons .h2 (.cons .here (.cons .h1 .nil))))
            ·rintro z5m z8j zcx ⟨h,z26,zrh⟩
             replace h:=(zzT z5m).symm.trans h
             refine WC.b ?_
             obtain ⟨z5X,zzZ,h⟩:=z8 h
             refine WC.a ?_
             refine WL.a (d:=139) rfl rfl rfl (yu yK rfl (yJ .h3) rfl) ?_
             refine WL.pu rfl (WL.pu rfl (WL.pu rfl ?_))
             refine WL.y2o (dd:=143) rfl rfl rfl (zt (l:=[.tmp 139,.tmp 140,.tmp 141,.tmp 142]) Try.call12 (.cons rfl (.cons rfl (.cons rfl (.cons rfl .nil))))) .nil (y2w hz .nil .here (.cons .h1 (.cons .h1 .nil)) fun w pz ho la=>y1J _ _ _ _ _ _ _ _ _ _ _ _ _ _ _ _ _ _ _ _ _ _ _ _ _ _ zzZ w pz ((((z2r.mono ((Zle.left _ _).trans z26)).weak (fun _ _ h=>yq ((Zle.left _ _).trans z26) h)).mono (Zle.left _ _)).weak (fun _ _ h=>yq (Zle.left _ _) h)) ((((z2s.mono ((Zle.left _ _).trans z26)).weak (fun _ _ h=>ys ((Zle.left _ _).trans z26) h)).mono (Zle.left _ _)).weak (fun _ _ h=>ys (Zle.left _ _) h)) ((z2t.mono ((Zle.left _ _).trans z26)).mono (Zle.left _ _)) ((z2u.mono ((Zle.left _ _).trans z26)).mono (Zle.left _ _)) ((((z2v.mono ((Zle.left _ _).trans z26)).weak (fun _ _ h=>yr ((Zle.left _ _).trans z26) h)).mono (Zle.left _ _)).weak (fun _ _ h=>yr (Zle.left _ _) h)) ((z2w.mono ((Zle.left _ _).trans z26)).mono (Zle.left _ _)) ((((z2x.mono ((Zle.left _ _).trans z26)).weak (fun _ _ h=>yt ((Zle.left _ _).trans z26) h)).mono (Zle.left _ _)).weak (fun _ _ h=>yt (Zle.left _ _) h)) ((z2y.mono ((Zle.left _ _).trans z26)).mono (Zle.left _ _)) (ZA.row (la _ (.head _) _) (zrh.weak (fun _ _ h=>yH (Zle.left _ _) h)) ⟨w,pz.1⟩) (ZA.row (la _ (.tail _ (.head _)) _) (RR.yE (enc:=e53) (fun _=>rfl) _) ⟨w,pz.1⟩)) ?_
             rintro zA0 zA1 zA2 zA3 _
             refine WL.pu rfl (WL.pu rfl (WL.pu rfl (WL.pu rfl (WL.pu rfl (WL.pu rfl (WL.pu rfl (WL.nil (WX.a (WC.b ?_)))))))))
             obtain ⟨zhf,zri,h⟩:=z8 h
             obtain ⟨zkY,zrj,h⟩:=z8 h
             refine WC.a (WL.pu rfl (WL.pu rfl (WL.pu rfl (WL.pu rfl ?_))))
             refine WL.seg true 6 150 (B:=(decide (z5X.2.2 = 310)) && (decide ((i64 (((z5X.1.length : Nat) : Int) + ((z5X.2.1.length : Nat) : Int))) = 0))) rfl rfl rfl rfl rfl rfl (fun h=>(y1c h).symm) (fun _ zA4=>?_) ?_
             ·skip
              refine WL.pu rfl ?_
              refine WL.a (d:=152) rfl rfl rfl (yz Try.underlying36 rfl) ?_
              refine WL.pu rfl ?_
              refine WL.a (d:=154) rfl rfl rfl (yz Try.underlying36 rfl) ?_
              refine WL.pu rfl (WL.pu rfl (WL.pu rfl ?_))
              exact WL.yi (y1d zA4) rfl rfl .all
             refine WL.pu rfl ?_
             refine WL.seg true 7 158 (B:=zhf) rfl rfl rfl rfl rfl rfl (fun h=>(Option.some.inj (yh zri h)).symm) (fun _ zA5=>?_) ?_
             ·skip
              have zff:=yg zri zA5
              obtain ⟨zq4,zA6,zff⟩:=z8 zff
              replace zff:=Option.some.inj zff
              refine WL.a (d:=159) rfl rfl rfl (yu yK rfl (yJ .h5) rfl) ?_
              refine WL.pu rfl (WL.pu rfl ?_)
              refine WL.b (dd:=162) rfl rfl rfl (zt (l:=[.tmp 159,.tmp 160,.tmp 161]) Try.call15 (.cons rfl (.cons rfl (.cons rfl .nil)))) .nil (y2w hz .nil .h2 (.cons .h3 .nil) fun w pz ho la=>y1n _ _ _ _ _ _ _ _ _ _ _ _ _ _ _ _ _ _ _ _ _ _ _ zA6 w pz ((((z2r.mono ((Zle.left _ _).trans z26)).weak (fun _ _ h=>yq ((Zle.left _ _).trans z26) h)).mono (Zle.left _ _)).weak (fun _ _ h=>yq (Zle.left _ _) h)) ((((z2s.mono ((Zle.left _ _).trans z26)).weak (fun _ _ h=>ys ((Zle.left _ _).trans z26) h)).mono (Zle.left _ _)).weak (fun _ _ h=>ys (Zle.left _ _) h)) ((z2t.mono ((Zle.left _ _).trans z26)).mono (Zle.left _ _)) ((z2u.mono ((Zle.left _ _).trans z26)).mono (Zle.left _ _)) ((((z2v.mono ((Zle.left _ _).trans z26)).weak (fun _ _ h=>yr ((Zle.left _ _).trans z26) h)).mono (Zle.left _ _)).weak (fun _ _ h=>yr (Zle.left _ _) h)) ((z2w.mono ((Zle.left _ _).trans z26)).mono (Zle.left _ _)) ((((z2x.mono ((Zle.left _ _).trans z26)).weak (fun _ _ h=>yt ((Zle.left _ _).trans z26) h)).mono (Zle.left _ _)).weak (fun _ _ h=>yt (Zle.left _ _) h)) ((z2y.mono ((Zle.left _ _).trans z26)).mono (Zle.left _ _)) (ZA.row (la _ (.head _) _) (zrh.weak (fun _ _ h=>yH (Zle.left _ _) h)) ⟨w,pz.1⟩)) ?_
              refine WL.pu rfl ?_
              refine WL.a (d:=164) rfl rfl rfl (y44 rfl rfl) ?_
              refine WL.a (d:=165) rfl rfl rfl (y41 Try.underlying4 rfl rfl) ?_
              refine WL.pu rfl ?_
              exact WL.yi zff rfl rfl .all
             refine WL.pu rfl ?_
             refine WL.y3E (fun (zcy : Zp)=>Zle (Z ++ z8j) (Z ++ zcy)) (fun (zcy : Zp)=>[(169,(.bool zkY))]) (fun (zcy : Zp)=>[row (.slice zA0 z5X.1.length zA1) 50 3 (z5X.1.flatMap e50),row (.slice zA2 z5X.2.1.length zA3) 50 3 (z5X.2.1.flatMap e50),fz zcy,row (.slice z1y z5m.length zU) 55 1 zcx,row (.slice z2Y ((([] : List zSt) ++ zB).length) z2Z) 53 3 ((([] : List zSt) ++ zB).flatMap e53),stb z1u 31 [(.slice z1D z5.fModules.length z1E),(.slice z1F z5.fChannels.length z1G),(.slice z1H z5.fSwitches.length z1I),(.slice z1J z5.fLinks.length z1K),(.slice z1L z5.fVLs.length z1M),(.slice z1N z5.fHealth.length z1O),(.slice z1P z5.fCauses.length z1Q),(.slice z1R z5.fVersions.length z1S)]]) 2 ?_ (fun zcy zES=>?_)
             ·rcases Bool.eq_false_or_eq_true zhf with hb' | hb'
              ·have zrk:=hb'; clear hb'
               have zfg:=yg zrj zrk
               obtain ⟨zq5,zA7,zfg⟩:=z8 zfg
               replace zfg:=Option.some.inj zfg
               refine WL.pin (i:=167) rfl zrk ?_
               refine WL.y2g (dd:=168) rfl rfl rfl (zt (l:=[]) Try.call11 .nil) .nil (ccz hz .nil .h2 fun w pz ho=>y1x _ _ zA7 w pz ) ?_
               rintro zA8 _
               refine WL.merge .here .h2 ?_
               refine WL.pu rfl ?_
               exact WL.y1r (G:=Zp) (z8j ++ zA8) ((Zle.left _ _).trans (Zle.yD _ _ _)) (.cons (zi zfg) .nil) (.cons .h1 (.cons .h1 (.cons .here (.cons .here (.cons .here (.cons .here .nil))))))
              ·have zrl:=hb'; clear hb'
               have zlC:=yh zrj zrl
               replace zlC:=Option.some.inj zlC
               refine WL.pin (i:=167) rfl zrl ?_
               refine WL.e rfl rfl rfl (WL.pu rfl ?_)
               exact WL.y1r (G:=Zp) z8j (Zle.refl _) (.cons (zi zlC) .nil) (.cons .here (.cons .here (.cons .here (.cons .here (.cons .here (.cons .here .nil))))))
             ·skip
              refine WL.pu rfl (WL.nil (WX.a (WC.ret ?_)))
              obtain rfl:=Option.some.inj h
              refine WX.yj Try.results9 (.tmp rfl .nil) (fun w hw=>?_)
              exact ⟨zcy,yL rfl,trivial,hw.sub (.cons .h2 .nil)⟩
end Go.Proofs.Ytinchjigeakocaa

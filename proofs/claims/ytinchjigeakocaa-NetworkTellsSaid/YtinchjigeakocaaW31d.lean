/- A part of this claim's proof: models of functions, walks, plain laws. No conditions. -/
import Derived.Test.YtinchjigeakocaaW31c
namespace Go.Proofs.Ytinchjigeakocaa
open Go Go.RowKit Sep
set_option linter.all false
set_option maxRecDepth 30000
set_option maxHeartbeats 4000000
def yR (z8 : List Sapi_Come) (zs : Int) (z1h : Sapi_Come → Sapi_Come → Option Int) (z8i : Int → Option (List Sapi_Come)) : Nat → Int → Int → Option (List Sapi_Come)
 | 0,_,_=>none
 | zhD + 1,z1Z,z27=>if decide (z1Z < z27) then chk ((0 : Int) ≤ (i64 ((u64 (i64 (z1Z + z27))) / 2 ^ min (1 : Int).toNat 64)) ∧ (i64 ((u64 (i64 (z1Z + z27))) / 2 ^ min (1 : Int).toNat 64)) < ((z8.length : Nat) : Int)) (chk ((0 : Int) ≤ zs ∧ zs < ((z8.length : Nat) : Int)) ((z1h (⟨((nth z8 (i64 ((u64 (i64 (z1Z + z27))) / 2 ^ min (1 : Int).toNat 64))).fSent),((nth z8 (i64 ((u64 (i64 (z1Z + z27))) / 2 ^ min (1 : Int).toNat 64))).fNode),((nth z8 (i64 ((u64 (i64 (z1Z + z27))) / 2 ^ min (1 : Int).toNat 64))).fTime)⟩ : Sapi_Come) (⟨((nth z8 zs).fSent),((nth z8 zs).fNode),((nth z8 zs).fTime)⟩ : Sapi_Come)).bind fun znN=>if decide (znN < 0) then yR z8 zs z1h z8i zhD (i64 ((i64 ((u64 (i64 (z1Z + z27))) / 2 ^ min (1 : Int).toNat 64)) + 1)) z27 else yR z8 zs z1h z8i zhD z1Z (i64 ((u64 (i64 (z1Z + z27))) / 2 ^ min (1 : Int).toNat 64)))) else z8i z1Z
theorem y4l {n : Nat} {z8 : List Sapi_Come} {zs : Int} {z1h : Sapi_Come → Sapi_Come → Option Int} {z8i : Int → Option (List Sapi_Come)} {z1Z : Int} {z27 : Int} {r : List Sapi_Come} (h : yR z8 zs z1h z8i n z1Z z27 = some r) : ∃ m,n = m + 1:=by
 cases n with
 | zero=>cases h
 | succ m=>exact ⟨m,rfl⟩
def yS (z4p : Int) (z9p : (List Sapi_Come) → Option (List Sapi_Come)) : Nat → (List Sapi_Come) → Int → Option (List Sapi_Come)
 | 0,_,_=>none
 | znO + 1,zy,zq=>if decide (zq < (i64 (z4p - 1))) then chk ((0 : Int) ≤ (i64 (zq + 1)) ∧ (i64 (zq + 1)) < ((zy.length : Nat) : Int)) (chk ((0 : Int) ≤ zq ∧ zq < ((zy.length : Nat) : Int)) (chk ((0 : Int) ≤ (i64 (zq + 1)) ∧ (i64 (zq + 1)) < (((zy.set (zq : Int).toNat (⟨((nth zy (i64 (zq + 1))).fSent),((nth zy (i64 (zq + 1))).fNode),((nth zy (i64 (zq + 1))).fTime)⟩ : Sapi_Come)).length : Nat) : Int)) (yS z4p z9p znO ((zy.set (zq : Int).toNat (⟨((nth zy (i64 (zq + 1))).fSent),((nth zy (i64 (zq + 1))).fNode),((nth zy (i64 (zq + 1))).fTime)⟩ : Sapi_Come)).set ((i64 (zq + 1)) : Int).toNat (⟨((nth zy zq).fSent),((nth zy zq).fNode),((nth zy zq).fTime)⟩ : Sapi_Come)) (i64 (zq + 1))))) else z9p zy
theorem y4m {n : Nat} {z4p : Int} {z9p : (List Sapi_Come) → Option (List Sapi_Come)} {zy : List Sapi_Come} {zq : Int} {r : List Sapi_Come} (h : yS z4p z9p n zy zq = some r) : ∃ m,n = m + 1:=by
 cases n with
 | zero=>cases h
 | succ m=>exact ⟨m,rfl⟩
def yT (zB : Int) (z8 : List Sapi_Come) (z1h : Sapi_Come → Sapi_Come → Option Int) (z8j : Int → Option (List Sapi_Come)) : Nat → Int → Int → Option (List Sapi_Come)
 | 0,_,_=>none
 | zhE + 1,z20,z28=>if decide (z20 < z28) then chk ((0 : Int) ≤ zB ∧ zB < ((z8.length : Nat) : Int)) (chk ((0 : Int) ≤ (i64 ((u64 (i64 (z20 + z28))) / 2 ^ min (1 : Int).toNat 64)) ∧ (i64 ((u64 (i64 (z20 + z28))) / 2 ^ min (1 : Int).toNat 64)) < ((z8.length : Nat) : Int)) ((z1h (⟨((nth z8 zB).fSent),((nth z8 zB).fNode),((nth z8 zB).fTime)⟩ : Sapi_Come) (⟨((nth z8 (i64 ((u64 (i64 (z20 + z28))) / 2 ^ min (1 : Int).toNat 64))).fSent),((nth z8 (i64 ((u64 (i64 (z20 + z28))) / 2 ^ min (1 : Int).toNat 64))).fNode),((nth z8 (i64 ((u64 (i64 (z20 + z28))) / 2 ^ min (1 : Int).toNat 64))).fTime)⟩ : Sapi_Come)).bind fun znP=>if !(decide (znP < 0)) then yT zB z8 z1h z8j zhE (i64 ((i64 ((u64 (i64 (z20 + z28))) / 2 ^ min (1 : Int).toNat 64)) + 1)) z28 else yT zB z8 z1h z8j zhE z20 (i64 ((u64 (i64 (z20 + z28))) / 2 ^ min (1 : Int).toNat 64)))) else z8j z20
theorem y4n {n : Nat} {zB : Int} {z8 : List Sapi_Come} {z1h : Sapi_Come → Sapi_Come → Option Int} {z8j : Int → Option (List Sapi_Come)} {z20 : Int} {z28 : Int} {r : List Sapi_Come} (h : yT zB z8 z1h z8j n z20 z28 = some r) : ∃ m,n = m + 1:=by
 cases n with
 | zero=>cases h
 | succ m=>exact ⟨m,rfl⟩
def y13 (z4q : Int) (z9q : (List Sapi_Come) → Option (List Sapi_Come)) : Nat → (List Sapi_Come) → Int → Option (List Sapi_Come)
 | 0,_,_=>none
 | znQ + 1,zz,zr=>if decide (zr > z4q) then chk ((0 : Int) ≤ (i64 (zr - 1)) ∧ (i64 (zr - 1)) < ((zz.length : Nat) : Int)) (chk ((0 : Int) ≤ zr ∧ zr < ((zz.length : Nat) : Int)) (chk ((0 : Int) ≤ (i64 (zr - 1)) ∧ (i64 (zr - 1)) < (((zz.set (zr : Int).toNat (⟨((nth zz (i64 (zr - 1))).fSent),((nth zz (i64 (zr - 1))).fNode),((nth zz (i64 (zr - 1))).fTime)⟩ : Sapi_Come)).length : Nat) : Int)) (y13 z4q z9q znQ ((zz.set (zr : Int).toNat (⟨((nth zz (i64 (zr - 1))).fSent),((nth zz (i64 (zr - 1))).fNode),((nth zz (i64 (zr - 1))).fTime)⟩ : Sapi_Come)).set ((i64 (zr - 1)) : Int).toNat (⟨((nth zz zr).fSent),((nth zz zr).fNode),((nth zz zr).fTime)⟩ : Sapi_Come)) (i64 (zr - 1))))) else z9q zz
theorem y4o {n : Nat} {z4q : Int} {z9q : (List Sapi_Come) → Option (List Sapi_Come)} {zz : List Sapi_Come} {zr : Int} {r : List Sapi_Come} (h : y13 z4q z9q n zz zr = some r) : ∃ m,n = m + 1:=by
 cases n with
 | zero=>cases h
 | succ m=>exact ⟨m,rfl⟩
def yO (zs : Int) (zG : Int) (zB : Int) (z8 : List Sapi_Come) (z1h : Sapi_Come → Sapi_Come → Option Int) (z8k : Int → Option (List Sapi_Come)) : Nat → Int → Int → Option (List Sapi_Come)
 | 0,_,_=>none
 | zhF + 1,z1q,z1x=>if decide (z1q < z1x) then chk ((0 : Int) ≤ (i64 ((i64 ((i64 ((i64 ((u64 (i64 (zs + zG))) / 2 ^ min (1 : Int).toNat 64)) + zB)) - 1)) - (i64 ((u64 (i64 (z1q + z1x))) / 2 ^ min (1 : Int).toNat 64)))) ∧ (i64 ((i64 ((i64 ((i64 ((u64 (i64 (zs + zG))) / 2 ^ min (1 : Int).toNat 64)) + zB)) - 1)) - (i64 ((u64 (i64 (z1q + z1x))) / 2 ^ min (1 : Int).toNat 64)))) < ((z8.length : Nat) : Int)) (chk ((0 : Int) ≤ (i64 ((u64 (i64 (z1q + z1x))) / 2 ^ min (1 : Int).toNat 64)) ∧ (i64 ((u64 (i64 (z1q + z1x))) / 2 ^ min (1 : Int).toNat 64)) < ((z8.length : Nat) : Int)) ((z1h (⟨((nth z8 (i64 ((i64 ((i64 ((i64 ((u64 (i64 (zs + zG))) / 2 ^ min (1 : Int).toNat 64)) + zB)) - 1)) - (i64 ((u64 (i64 (z1q + z1x))) / 2 ^ min (1 : Int).toNat 64))))).fSent),((nth z8 (i64 ((i64 ((i64 ((i64 ((u64 (i64 (zs + zG))) / 2 ^ min (1 : Int).toNat 64)) + zB)) - 1)) - (i64 ((u64 (i64 (z1q + z1x))) / 2 ^ min (1 : Int).toNat 64))))).fNode),((nth z8 (i64 ((i64 ((i64 ((i64 ((u64 (i64 (zs + zG))) / 2 ^ min (1 : Int).toNat 64)) + zB)) - 1)) - (i64 ((u64 (i64 (z1q + z1x))) / 2 ^ min (1 : Int).toNat 64))))).fTime)⟩ : Sapi_Come) (⟨((nth z8 (i64 ((u64 (i64 (z1q + z1x))) / 2 ^ min (1 : Int).toNat 64))).fSent),((nth z8 (i64 ((u64 (i64 (z1q + z1x))) / 2 ^ min (1 : Int).toNat 64))).fNode),((nth z8 (i64 ((u64 (i64 (z1q + z1x))) / 2 ^ min (1 : Int).toNat 64))).fTime)⟩ : Sapi_Come)).bind fun znR=>if !(decide (znR < 0)) then yO zs zG zB z8 z1h z8k zhF (i64 ((i64 ((u64 (i64 (z1q + z1x))) / 2 ^ min (1 : Int).toNat 64)) + 1)) z1x else yO zs zG zB z8 z1h z8k zhF z1q (i64 ((u64 (i64 (z1q + z1x))) / 2 ^ min (1 : Int).toNat 64)))) else z8k z1q
theorem y4f {n : Nat} {zs : Int} {zG : Int} {zB : Int} {z8 : List Sapi_Come} {z1h : Sapi_Come → Sapi_Come → Option Int} {z8k : Int → Option (List Sapi_Come)} {z1q : Int} {z1x : Int} {r : List Sapi_Come} (h : yO zs zG zB z8 z1h z8k n z1q z1x = some r) : ∃ m,n = m + 1:=by
 cases n with
 | zero=>cases h
 | succ m=>exact ⟨m,rfl⟩
def y12 : Nat → (List Sapi_Come) → Int → Int → Int → (Sapi_Come → Sapi_Come → Option Int) → Option (List Sapi_Come)
 | 0,_,_,_,_,_=>none
 | znS + 1,z8,zs,zB,zG,z1h=>jp0 (jp0 (jp2 (fun (z9r : Int) (z9s : Int)=>jp1 (fun (z21 : Int)=>jp1 (fun (z4K : List Sapi_Come)=>jp1 (fun (z55 : List Sapi_Come)=>if (decide ((i64 ((u64 (i64 (zs + zG))) / 2 ^ min (1 : Int).toNat 64)) < (i64 ((i64 ((i64 ((u64 (i64 (zs + zG))) / 2 ^ min (1 : Int).toNat 64)) + zB)) - z21)))) && (decide ((i64 ((i64 ((i64 ((u64 (i64 (zs + zG))) / 2 ^ min (1 : Int).toNat 64)) + zB)) - z21)) < zG)) then ((y12 znS) z55 (i64 ((u64 (i64 (zs + zG))) / 2 ^ min (1 : Int).toNat 64)) (i64 ((i64 ((i64 ((u64 (i64 (zs + zG))) / 2 ^ min (1 : Int).toNat 64)) + zB)) - z21)) zG z1h).bind fun zkg=>some zkg else some z55) fun zkh=>if (decide (zs < z21)) && (decide (z21 < (i64 ((u64 (i64 (zs + zG))) / 2 ^ min (1 : Int).toNat 64)))) then ((y12 znS) z4K zs z21 (i64 ((u64 (i64 (zs + zG))) / 2 ^ min (1 : Int).toNat 64)) z1h).bind fun zhG=>zkh zhG else zkh z4K) fun zki=>if (decide (z21 < zB)) && (decide (zB < (i64 ((i64 ((i64 ((u64 (i64 (zs + zG))) / 2 ^ min (1 : Int).toNat 64)) + zB)) - z21)))) then (y1M z8 z21 zB (i64 ((i64 ((i64 ((u64 (i64 (zs + zG))) / 2 ^ min (1 : Int).toNat 64)) + zB)) - z21)) z1h).bind fun zkj=>zki zkj else zki z8) fun z8k=>yO zs zG zB z8 z1h z8k yw z9r z9s) fun zkk=>if decide (zB > (i64 ((u64 (i64 (zs + zG))) / 2 ^ min (1 : Int).toNat 64))) then zkk (i64 ((i64 ((i64 ((u64 (i64 (zs + zG))) / 2 ^ min (1 : Int).toNat 64)) + zB)) - zG)) (i64 ((u64 (i64 (zs + zG))) / 2 ^ min (1 : Int).toNat 64)) else zkk zs zB) fun znT=>if decide ((i64 (zG - zB)) = 1) then jp1 (fun (z4q : Int)=>jp1 (fun (z8l : List Sapi_Come)=>some z8l) fun z9q=>y13 z4q z9q yw z8 zB) fun z8j=>yT zB z8 z1h z8j yw zs zB else znT) fun znU=>if decide ((i64 (zB - zs)) = 1) then jp1 (fun (z4p : Int)=>jp1 (fun (z8m : List Sapi_Come)=>some z8m) fun z9p=>yS z4p z9p yw z8 zs) fun z8i=>yR z8 zs z1h z8i yw zB zG else znU
def y1C (z8 : List Sapi_Come) (zs : Int) (zB : Int) (zG : Int) (z1h : Sapi_Come → Sapi_Come → Option Int) : Option (List Sapi_Come):=y12 yw z8 zs zB zG z1h
set_option maxRecDepth 20000 in
theorem y4O : ∀ (n : Nat) (Z : Zp) (z15 : Option Addr) (zR : Nat) (z1I : FuncId) (z1X : List Value) (z8 : List Sapi_Come) (zs : Int) (zB : Int) (zG : Int) (z1h : Sapi_Come → Sapi_Come → Option Int) (r : List Sapi_Come) (w₀ : World) (hz : PZ (fps [row (.slice z15 z8.length zR) 50 3 (z8.flatMap e50)]) w₀ Z)
  (z8n : ∀ args w,(callFunc z1I args).run Try.prog w = .ok (.enter z1I args) w)
  (z8o : ∀ w : World,PZ [] w Z → ∀ (x0 : Sapi_Come) (x1 : Sapi_Come) (r : Int),z1h x0 x1 = some r → Calls Try.prog z1I (([(.agg #[(.int .i64 x0.fSent),(.int .i64 x0.fNode),(.int .i64 x0.fTime)]),(.agg #[(.int .i64 x1.fSent),(.int .i64 x1.fNode),(.int .i64 x1.fTime)])] : List Value) ++ z1X).toArray w fun e w'=>e = .returned (.int .i64 r) ∧ Hp [] w w' []) (h : y12 n z8 zs zB zG z1h = some r)
  (hown : Hp (fps [row (.slice z15 z8.length zR) 50 3 (z8.flatMap e50)]) w₀ w₀ [row (.slice z15 z8.length zR) 50 3 (z8.flatMap e50)]),Calls Try.prog 67 #[(.slice z15 z8.length zR),(.int .i64 zs),(.int .i64 zB),(.int .i64 zG),(.func (.func z1I) #[] (z1X).toArray)] w₀ fun e w'=>e = .returned (.tuple #[]) ∧ (r.length = z8.length) ∧ Hp (fps [row (.slice z15 z8.length zR) 50 3 (z8.flatMap e50)]) w₀ w' [row (.slice z15 r.length zR) 50 3 (r.flatMap e50)]:=by
 intro n
 induction n with
 | zero=>intro Z z15 zR z1I z1X z8 zs zB zG z1h r w₀ hz z8n z8o h hown; cases h
 | succ znS ih =>
  intro Z z15 zR z1I z1X z8 zs zB zG z1h r w₀ hz z8n z8o h hown
  rw [y12] at h
  refine Calls.yp (vs:=[(.slice z15 z8.length zR),(.int .i64 zs),(.int .i64 zB),(.int .i64 zG),(.func (.func z1I) #[] (z1X).toArray)]) (pre:=[row (.slice z15 z8.length zR) 50 3 (z8.flatMap e50)]) (env:=[(0,(.slice z15 z8.length zR)),(1,(.int .i64 zs)),(2,(.int .i64 zB)),(3,(.int .i64 zG)),(4,(.func (.func z1I) #[] (z1X).toArray))]) Try.func67 rfl Try.ntmps67 rfl (hown) rfl ?_
  obtain ⟨znU,zAy,h⟩:=y2r h
  refine WC.y24 ((znU = some r)) ([(0,(.slice z15 z8.length zR)),(1,(.int .i64 zs)),(2,(.int .i64 zB)),(3,(.int .i64 zG)),(4,(.func (.func z1I) #[] (z1X).toArray))]) ([row (.slice z15 z8.length zR) 50 3 (z8.flatMap e50)]) ?_ ?_
  ·skip
   refine WC.b (WC.a (WL.pu rfl (WL.pu rfl (WL.pu rfl (WL.pu rfl (WL.nil (WX.a ?_)))))))
   refine WC.cond rfl (fun znV=>?_) (fun znV=>?_)
   ·replace h:=ym h znV
    refine WC.b (WC.a (WL.pu rfl (WL.pu rfl (WL.nil (WX.a (WC.b (WC.a (WL.pu rfl (WL.pu rfl (WL.nil (WX.a ?_)))))))))))
    obtain ⟨z8i,zAz,h⟩:=yU h
    refine WC.y1i (fun (z4p : Int)=>(z8i z4p = some r)) (fun (z4p : Int)=>[(0,(.slice z15 z8.length zR)),(1,(.int .i64 zs)),(10,(.int .i64 z4p))]) (fun (z4p : Int)=>[row (.slice z15 z8.length zR) 50 3 (z8.flatMap e50)]) ?_ ?_
    ·skip
     refine WC.block ?_
     refine WC.y2F (fun (zdK : Nat) (z1Z : Int) (z27 : Int)=>(yR z8 zs z1h z8i zdK z1Z z27 = some r)) (fun (zdK : Nat) (z1Z : Int) (z27 : Int)=>[(0,(.slice z15 z8.length zR)),(1,(.int .i64 zs)),(4,(.func (.func z1I) #[] (z1X).toArray)),(10,(.int .i64 z1Z)),(11,(.int .i64 z27))]) (fun (zdK : Nat) (z1Z : Int) (z27 : Int)=>[row (.slice z15 z8.length zR) 50 3 (z8.flatMap e50)]) (fun (zdK : Nat) (z1Z : Int) (z27 : Int)=>zdK) ⟨yw,zB,zG⟩ h (.cons rfl (.cons rfl (.cons rfl (.cons rfl (.cons rfl .nil))))) (.cons .here .nil) ?_
     rintro zdK z1Z z27 h
     obtain ⟨zhD,rfl⟩:=y4l h
     rw [yR] at h
     refine WC.b (WC.b (WC.a (WL.pu rfl (WL.pu rfl (WL.pu rfl (WL.nil (WX.a ?_)))))))
     refine WC.cond rfl (fun znW=>?_) (fun znW=>?_)
     ·replace h:=ym h znW
      refine WC.skip (WX.a (WC.block (WC.b (WC.a (WL.pu rfl (WL.pu rfl (WL.pu rfl ?_)))))))
      refine WL.a (d:=37) rfl rfl rfl (y5z Try.underlying3 Try.underlying157 rfl rfl) ?_
      refine WL.a (d:=38) rfl rfl rfl (q_shr rfl rfl (by decide) rfl) ?_
      refine WL.a (d:=39) rfl rfl rfl (y5z Try.underlying157 Try.underlying3 rfl rfl) ?_
      refine WL.pu rfl (WL.nil (WX.a (WC.b ?_)))
      obtain ⟨zhH,h⟩:=ye h
      obtain ⟨zkl,h⟩:=ye h
      obtain ⟨znN,zAA,h⟩:=zg h
      refine WC.yI (fun i=>[].contains i) [] rfl ?_
      refine WD.a (i:=0) (d:=40) (by kernel_rfl) rfl z2 z3 rfl rfl rfl (fun _=>q_m rfl) ?_
      refine WD.a (i:=1) (d:=41) (by kernel_rfl) rfl z2 z3 rfl rfl rfl (fun _=>q_m rfl) ?_
      refine WD.a (i:=2) (d:=42) (by kernel_rfl) rfl z2 z3 rfl rfl rfl (fun _=>q_m rfl) ?_
      refine WD.know (fun w hw=>Hp.y2g .here hw (by intro hz'; have:=zhH; rw [hz'] at this; omega)) ?_
      rintro ⟨zJR,rfl⟩
      refine WD.a (i:=3) (d:=43) (by kernel_rfl) rfl z2 z3 rfl rfl rfl (fun _=>yu yV rfl rfl zhH.1 zhH.2 y1c) ?_
      refine WD.e (i:=4) (d:=44) (by kernel_rfl) rfl z2 z3 rfl rfl rfl (y1J (cs:=(e50 (nth z8 (i64 ((u64 (i64 (z1Z + z27))) / 2 ^ min (1 : Int).toNat 64))))) y2n rfl rfl (y1U .here (y1V (enc:=e50) (l:=z8) (i:=i64 ((u64 (i64 (z1Z + z27))) / 2 ^ min (1 : Int).toNat 64)) (sz:=3) (fun _=>rfl) zhH.1 zhH.2))) ?_
      refine WD.a (i:=5) (d:=45) (by kernel_rfl) rfl z2 z3 rfl rfl rfl (fun _=>q_m rfl) ?_
      refine WD.a (i:=6) (d:=46) (by kernel_rfl) rfl z2 z3 rfl rfl rfl (fun _=>q_m rfl) ?_
      refine WD.a (i:=7) (d:=47) (by kernel_rfl) rfl z2 z3 rfl rfl rfl (fun _=>yu yV rfl rfl zkl.1 zkl.2 y1c) ?_
      refine WD.e (i:=8) (d:=48) (by kernel_rfl) rfl z2 z3 rfl rfl rfl (y1J (cs:=(e50 (nth z8 zs))) y2n rfl rfl (y1U .here (y1V (enc:=e50) (l:=z8) (i:=zs) (sz:=3) (fun _=>rfl) zkl.1 zkl.2))) ?_
      refine WD.c (i:=9) (d:=49) (by kernel_rfl) rfl z2 z3 rfl rfl rfl (y4q (l:=[.tmp 44,.tmp 48]) (f:=z1I) (caps:=z1X) z8n rfl (.cons rfl (.cons rfl .nil))) (fun w hw=>z8o w (hz.now hw) (⟨((nth z8 (i64 ((u64 (i64 (z1Z + z27))) / 2 ^ min (1 : Int).toNat 64))).fSent),((nth z8 (i64 ((u64 (i64 (z1Z + z27))) / 2 ^ min (1 : Int).toNat 64))).fNode),((nth z8 (i64 ((u64 (i64 (z1Z + z27))) / 2 ^ min (1 : Int).toNat 64))).fTime)⟩ : Sapi_Come) (⟨((nth z8 zs).fSent),((nth z8 zs).fNode),((nth z8 zs).fTime)⟩ : Sapi_Come) znN  zAA) ?_
      refine WD.a (i:=10) (d:=50) (by kernel_rfl) rfl z2 z3 rfl rfl rfl (fun _=>y3O rfl rfl) ?_
      refine WD.done (by kernel_rfl) ?_
      refine WX.a ?_
      refine WC.cond rfl (fun znX=>?_) (fun znX=>?_)
      ·replace h:=ym h znX
       refine WC.a (WL.pu rfl (WL.pu rfl (WL.pu rfl (WL.nil (WX.yk ?_)))))
       exact WX.round (G:=Nat × Int × Int) ⟨zhD,(i64 ((i64 ((u64 (i64 (z1Z + z27))) / 2 ^ min (1 : Int).toNat 64)) + 1)),z27⟩ h (Nat.lt_succ_self _) (.cons rfl (.cons rfl (.cons rfl (.cons rfl (.cons rfl .nil))))) (.cons .here .nil)
      ·replace h:=yn h znX
       refine WC.a (WL.pu rfl (WL.pu rfl (WL.nil (WX.yk ?_))))
       exact WX.round (G:=Nat × Int × Int) ⟨zhD,z1Z,(i64 ((u64 (i64 (z1Z + z27))) / 2 ^ min (1 : Int).toNat 64))⟩ h (Nat.lt_succ_self _) (.cons rfl (.cons rfl (.cons rfl (.cons rfl (.cons rfl .nil))))) (.cons .here .nil)
     ·replace h:=yn h znW
      refine WC.exit (WX.yg (WX.yg (WX.yv ?_)))
      exact WX.mid (G:=Int) z1Z h (.cons rfl (.cons rfl (.cons rfl .nil))) (.cons .here .nil)
    ·rintro z4p h
     replace h:=(zAz z4p).symm.trans h
     obtain ⟨z9p,zAB,h⟩:=yU h
     refine WC.y1i (fun (z8m : List Sapi_Come)=>(z9p z8m = some r) ∧ (z8m.length = z8.length)) (fun (z8m : List Sapi_Come)=>[]) (fun (z8m : List Sapi_Come)=>[row (.slice z15 z8m.length zR) 50 3 (z8m.flatMap e50)]) ?_ ?_
     ·skip
      refine WC.b (WC.a (WL.pu rfl (WL.pu rfl (WL.nil (WX.a (WC.block ?_))))))
      refine WC.y2F (fun (zdL : Nat) (zy : List Sapi_Come) (zq : Int)=>(yS z4p z9p zdL zy zq = some r) ∧ (zy.length = z8.length)) (fun (zdL : Nat) (zy : List Sapi_Come) (zq : Int)=>[(0,(.slice z15 zy.length zR)),(10,(.int .i64 z4p)),(13,(.int .i64 zq))]) (fun (zdL : Nat) (zy : List Sapi_Come) (zq : Int)=>[row (.slice z15 zy.length zR) 50 3 (zy.flatMap e50)]) (fun (zdL : Nat) (zy : List Sapi_Come) (zq : Int)=>zdL) ⟨yw,z8,zs⟩ ⟨h,rfl⟩ (.cons rfl (.cons rfl (.cons rfl .nil))) (.cons .here .nil) ?_
      rintro zdL zy zq ⟨h,ztO⟩
      obtain ⟨znO,rfl⟩:=y4m h
      rw [yS] at h
      refine WC.b (WC.b (WC.a (WL.pu rfl (WL.pu rfl (WL.pu rfl (WL.pu rfl (WL.nil (WX.a ?_))))))))
      refine WC.cond rfl (fun znY=>?_) (fun znY=>?_)
      ·replace h:=ym h znY
       refine WC.skip (WX.a (WC.b (WC.block ?_)))
       obtain ⟨zhI,h⟩:=ye h
       obtain ⟨z8p,h⟩:=ye h
       obtain ⟨zdM,h⟩:=ye h
       refine WC.yI (fun i=>[15,17].contains i) [] rfl ?_
       refine WD.a (i:=0) (d:=61) (by kernel_rfl) rfl z2 z3 rfl rfl rfl (fun _=>q_m rfl) ?_
       refine WD.a (i:=1) (d:=62) (by kernel_rfl) rfl z2 z3 rfl rfl rfl (fun _=>q_m rfl) ?_
       refine WD.a (i:=2) (d:=63) (by kernel_rfl) rfl z2 z3 rfl rfl rfl (fun _=>q_m rfl) ?_
       refine WD.a (i:=3) (d:=64) (by kernel_rfl) rfl z2 z3 rfl rfl rfl (fun _=>q_m rfl) ?_
       refine WD.a (i:=4) (d:=65) (by kernel_rfl) rfl z2 z3 rfl rfl rfl (fun _=>y4T rfl rfl rfl) ?_
       refine WD.a (i:=5) (d:=66) (by kernel_rfl) rfl z2 z3 rfl rfl rfl (fun _=>q_m rfl) ?_
       refine WD.a (i:=6) (d:=67) (by kernel_rfl) rfl z2 z3 rfl rfl rfl (fun _=>q_m rfl) ?_
       refine WD.a (i:=7) (d:=68) (by kernel_rfl) rfl z2 z3 rfl rfl rfl (fun _=>y4T rfl rfl rfl) ?_
       refine WD.know (fun w hw=>Hp.y2g .here hw (by intro hz'; have:=zhI; rw [hz'] at this; omega)) ?_
       rintro ⟨zhJ,rfl⟩
       refine WD.a (i:=8) (d:=69) (by kernel_rfl) rfl z2 z3 rfl rfl rfl (fun _=>yu yV rfl rfl zhI.1 zhI.2 y1c) ?_
       refine WD.e (i:=9) (d:=70) (by kernel_rfl) rfl z2 z3 rfl rfl rfl (y1J (cs:=(e50 (nth zy (i64 (zq + 1))))) y2n rfl rfl (y1U .here (y1V (enc:=e50) (l:=zy) (i:=i64 (zq + 1)) (sz:=3) (fun _=>rfl) zhI.1 zhI.2))) ?_
       refine WD.a (i:=10) (d:=71) (by kernel_rfl) rfl z2 z3 rfl rfl rfl (fun _=>q_m rfl) ?_
       refine WD.a (i:=11) (d:=72) (by kernel_rfl) rfl z2 z3 rfl rfl rfl (fun _=>q_m rfl) ?_
       refine WD.a (i:=12) (d:=73) (by kernel_rfl) rfl z2 z3 rfl rfl rfl (fun _=>yu yV rfl rfl z8p.1 z8p.2 y1c) ?_
       refine WD.e (i:=13) (d:=74) (by kernel_rfl) rfl z2 z3 rfl rfl rfl (y1J (cs:=(e50 (nth zy zq))) y2n rfl rfl (y1U .here (y1V (enc:=e50) (l:=zy) (i:=zq) (sz:=3) (fun _=>rfl) z8p.1 z8p.2))) ?_
       refine WD.a (i:=14) (d:=75) (by kernel_rfl) rfl z2 z3 rfl rfl rfl (fun _=>yu yV rfl rfl z8p.1 z8p.2 y1c) ?_
       refine WD.forced0 (i:=15) rfl (by kernel_rfl) rfl rfl rfl (Sin.of .nil) (y2C (vs:=[(.int .i64 ((nth zy (i64 (zq + 1))).fSent)),(.int .i64 ((nth zy (i64 (zq + 1))).fNode)),(.int .i64 ((nth zy (i64 (zq + 1))).fTime))]) (ds:=(zy.set (zq : Int).toNat (⟨((nth zy (i64 (zq + 1))).fSent),((nth zy (i64 (zq + 1))).fNode),((nth zy (i64 (zq + 1))).fTime)⟩ : Sapi_Come)).flatMap e50) y54 rfl rfl rfl rfl (ocB rfl) .here (y3I (enc:=e50) (sz:=3) (k:=0) (fun _=>rfl) z8p.1 z8p.2 (by decide)) (y3H (enc:=e50) (l:=zy) (sz:=3) (vs:=[(.int .i64 ((nth zy (i64 (zq + 1))).fSent)),(.int .i64 ((nth zy (i64 (zq + 1))).fNode)),(.int .i64 ((nth zy (i64 (zq + 1))).fTime))]) (y:=(⟨((nth zy (i64 (zq + 1))).fSent),((nth zy (i64 (zq + 1))).fNode),((nth zy (i64 (zq + 1))).fTime)⟩ : Sapi_Come)) (k:=0) (fun _=>rfl) z8p.1 z8p.2 rfl (Nat.le_of_ble_eq_true rfl))) ?_
       refine WD.relen .here (u:=(.slice (some ⟨zhJ,0,none⟩) ((zy.set (zq : Int).toNat (⟨((nth zy (i64 (zq + 1))).fSent),((nth zy (i64 (zq + 1))).fNode),((nth zy (i64 (zq + 1))).fTime)⟩ : Sapi_Come)).length) zR)) (y1W (List.length_set).symm) ?_
       refine WD.repin (i:=0) rfl (u:=(.slice (some ⟨zhJ,0,none⟩) ((zy.set (zq : Int).toNat (⟨((nth zy (i64 (zq + 1))).fSent),((nth zy (i64 (zq + 1))).fNode),((nth zy (i64 (zq + 1))).fTime)⟩ : Sapi_Come)).length) zR)) (y1W (List.length_set).symm) ?_
       refine WD.repin (i:=63) rfl (u:=(.slice (some ⟨zhJ,0,none⟩) ((zy.set (zq : Int).toNat (⟨((nth zy (i64 (zq + 1))).fSent),((nth zy (i64 (zq + 1))).fNode),((nth zy (i64 (zq + 1))).fTime)⟩ : Sapi_Come)).length) zR)) (y1W (List.length_set).symm) ?_
       refine WD.a (i:=16) (d:=76) (by kernel_rfl) rfl z2 z3 rfl rfl rfl (fun _=>yu yV rfl rfl zdM.1 zdM.2 y1c) ?_
       refine WD.y3G (i:=17) rfl (by kernel_rfl) rfl rfl rfl (by kernel_rfl) (y2C (vs:=[(.int .i64 ((nth zy zq).fSent)),(.int .i64 ((nth zy zq).fNode)),(.int .i64 ((nth zy zq).fTime))]) (ds:=((zy.set (zq : Int).toNat (⟨((nth zy (i64 (zq + 1))).fSent),((nth zy (i64 (zq + 1))).fNode),((nth zy (i64 (zq + 1))).fTime)⟩ : Sapi_Come)).set ((i64 (zq + 1)) : Int).toNat (⟨((nth zy zq).fSent),((nth zy zq).fNode),((nth zy zq).fTime)⟩ : Sapi_Come)).flatMap e50) y54 rfl rfl rfl rfl (ocB rfl) .here (y3I (enc:=e50) (sz:=3) (k:=0) (fun _=>rfl) zdM.1 zdM.2 (by decide)) (y3H (enc:=e50) (l:=zy.set (zq : Int).toNat (⟨((nth zy (i64 (zq + 1))).fSent),((nth zy (i64 (zq + 1))).fNode),((nth zy (i64 (zq + 1))).fTime)⟩ : Sapi_Come)) (sz:=3) (vs:=[(.int .i64 ((nth zy zq).fSent)),(.int .i64 ((nth zy zq).fNode)),(.int .i64 ((nth zy zq).fTime))]) (y:=(⟨((nth zy zq).fSent),((nth zy zq).fNode),((nth zy zq).fTime)⟩ : Sapi_Come)) (k:=0) (fun _=>rfl) zdM.1 zdM.2 rfl (Nat.le_of_ble_eq_true rfl))) ?_
       refine WD.relen .here (u:=(.slice (some ⟨zhJ,0,none⟩) (((zy.set (zq : Int).toNat (⟨((nth zy (i64 (zq + 1))).fSent),((nth zy (i64 (zq + 1))).fNode),((nth zy (i64 (zq + 1))).fTime)⟩ : Sapi_Come)).set ((i64 (zq + 1)) : Int).toNat (⟨((nth zy zq).fSent),((nth zy zq).fNode),((nth zy zq).fTime)⟩ : Sapi_Come)).length) zR)) (y1W (List.length_set).symm) ?_
       refine WD.repin (i:=0) rfl (u:=(.slice (some ⟨zhJ,0,none⟩) (((zy.set (zq : Int).toNat (⟨((nth zy (i64 (zq + 1))).fSent),((nth zy (i64 (zq + 1))).fNode),((nth zy (i64 (zq + 1))).fTime)⟩ : Sapi_Come)).set ((i64 (zq + 1)) : Int).toNat (⟨((nth zy zq).fSent),((nth zy zq).fNode),((nth zy zq).fTime)⟩ : Sapi_Come)).length) zR)) (y1W (List.length_set).symm) ?_
       refine WD.done (by kernel_rfl) ?_
       refine WX.yk (WX.a (WC.a (WL.pu rfl (WL.pu rfl (WL.pu rfl (WL.nil ?_))))))
       exact WX.round (G:=Nat × List Sapi_Come × Int) ⟨znO,((zy.set (zq : Int).toNat (⟨((nth zy (i64 (zq + 1))).fSent),((nth zy (i64 (zq + 1))).fNode),((nth zy (i64 (zq + 1))).fTime)⟩ : Sapi_Come)).set ((i64 (zq + 1)) : Int).toNat (⟨((nth zy zq).fSent),((nth zy zq).fNode),((nth zy zq).fTime)⟩ : Sapi_Come)),(i64 (zq + 1))⟩ ⟨h,((List.length_set).trans ((List.length_set).trans ztO))⟩ (Nat.lt_succ_self _) (.cons rfl (.cons rfl (.cons rfl .nil))) (.cons .here .nil)
      ·replace h:=yn h znY
       refine WC.exit (WX.yg (WX.yg (WX.yv ?_)))
       exact WX.mid (G:=List Sapi_Come) zy ⟨h,ztO⟩ .nil (.cons .here .nil)
     ·rintro z8m ⟨h,zAC⟩
      replace h:=(zAB z8m).symm.trans h
      refine WC.ret (WX.yj ?_)
      obtain rfl:=Option.some.inj h
      refine WX.yi Try.results67 .nil (fun w hw=>?_)
      exact ⟨y4X,zAC,hw.sub (.cons .here .nil)⟩
   ·replace h:=yn h znV
    refine WC.skip ?_
    exact WX.mid (G:=Unit) () h (.cons rfl (.cons rfl (.cons rfl (.cons rfl (.cons rfl .nil))))) (.cons .here .nil)
  ·rintro  h
   replace h:=zAy.symm.trans h
   obtain ⟨znT,zAD,h⟩:=y2r h
   refine WC.y24 ((znT = some r)) ([(0,(.slice z15 z8.length zR)),(1,(.int .i64 zs)),(2,(.int .i64 zB)),(3,(.int .i64 zG)),(4,(.func (.func z1I) #[] (z1X).toArray))]) ([row (.slice z15 z8.length zR) 50 3 (z8.flatMap e50)]) ?_ ?_
   ·skip
    refine WC.b (WC.a (WL.pu rfl (WL.pu rfl (WL.pu rfl (WL.pu rfl (WL.nil (WX.a ?_)))))))
    refine WC.cond rfl (fun znZ=>?_) (fun znZ=>?_)
    ·replace h:=ym h znZ
     refine WC.b (WC.a (WL.pu rfl (WL.pu rfl (WL.nil (WX.a (WC.b (WC.a (WL.pu rfl (WL.pu rfl (WL.nil (WX.a ?_)))))))))))
     obtain ⟨z8j,zAE,h⟩:=yU h
     refine WC.y1i (fun (z4q : Int)=>(z8j z4q = some r)) (fun (z4q : Int)=>[(0,(.slice z15 z8.length zR)),(2,(.int .i64 zB)),(14,(.int .i64 z4q))]) (fun (z4q : Int)=>[row (.slice z15 z8.length zR) 50 3 (z8.flatMap e50)]) ?_ ?_
     ·skip
      refine WC.block ?_
      refine WC.y2F (fun (zdN : Nat) (z20 : Int) (z28 : Int)=>(yT zB z8 z1h z8j zdN z20 z28 = some r)) (fun (zdN : Nat) (z20 : Int) (z28 : Int)=>[(0,(.slice z15 z8.length zR)),(2,(.int .i64 zB)),(4,(.func (.func z1I) #[] (z1X).toArray)),(14,(.int .i64 z20)),(15,(.int .i64 z28))]) (fun (zdN : Nat) (z20 : Int) (z28 : Int)=>[row (.slice z15 z8.length zR) 50 3 (z8.flatMap e50)]) (fun (zdN : Nat) (z20 : Int) (z28 : Int)=>zdN) ⟨yw,zs,zB⟩ h (.cons rfl (.cons rfl (.cons rfl (.cons rfl (.cons rfl .nil))))) (.cons .here .nil) ?_
      rintro zdN z20 z28 h
      obtain ⟨zhE,rfl⟩:=y4n h
      rw [yT] at h
      refine WC.b (WC.b (WC.a (WL.pu rfl (WL.pu rfl (WL.pu rfl (WL.nil (WX.a ?_)))))))
      refine WC.cond rfl (fun zo0=>?_) (fun zo0=>?_)
      ·replace h:=ym h zo0
       refine WC.skip (WX.a (WC.block (WC.b (WC.a (WL.pu rfl (WL.pu rfl (WL.pu rfl ?_)))))))
       refine WL.a (d:=89) rfl rfl rfl (y5z Try.underlying3 Try.underlying157 rfl rfl) ?_
       refine WL.a (d:=90) rfl rfl rfl (q_shr rfl rfl (by decide) rfl) ?_
       refine WL.a (d:=91) rfl rfl rfl (y5z Try.underlying157 Try.underlying3 rfl rfl) ?_
       refine WL.pu rfl (WL.nil (WX.a (WC.b ?_)))
       obtain ⟨zhK,h⟩:=ye h
       obtain ⟨zkm,h⟩:=ye h
       obtain ⟨znP,zAF,h⟩:=zg h
       refine WC.yI (fun i=>[].contains i) [] rfl ?_
       refine WD.a (i:=0) (d:=92) (by kernel_rfl) rfl z2 z3 rfl rfl rfl (fun _=>q_m rfl) ?_
       refine WD.a (i:=1) (d:=93) (by kernel_rfl) rfl z2 z3 rfl rfl rfl (fun _=>q_m rfl) ?_
       refine WD.a (i:=2) (d:=94) (by kernel_rfl) rfl z2 z3 rfl rfl rfl (fun _=>q_m rfl) ?_
       refine WD.know (fun w hw=>Hp.y2g .here hw (by intro hz'; have:=zhK; rw [hz'] at this; omega)) ?_
       rintro ⟨zJS,rfl⟩
       refine WD.a (i:=3) (d:=95) (by kernel_rfl) rfl z2 z3 rfl rfl rfl (fun _=>yu yV rfl rfl zhK.1 zhK.2 y1c) ?_
       refine WD.e (i:=4) (d:=96) (by kernel_rfl) rfl z2 z3 rfl rfl rfl (y1J (cs:=(e50 (nth z8 zB))) y2n rfl rfl (y1U .here (y1V (enc:=e50) (l:=z8) (i:=zB) (sz:=3) (fun _=>rfl) zhK.1 zhK.2))) ?_
       refine WD.a (i:=5) (d:=97) (by kernel_rfl) rfl z2 z3 rfl rfl rfl (fun _=>q_m rfl) ?_
       refine WD.a (i:=6) (d:=98) (by kernel_rfl) rfl z2 z3 rfl rfl rfl (fun _=>q_m rfl) ?_
       refine WD.a (i:=7) (d:=99) (by kernel_rfl) rfl z2 z3 rfl rfl rfl (fun _=>yu yV rfl rfl zkm.1 zkm.2 y1c) ?_
       refine WD.e (i:=8) (d:=100) (by kernel_rfl) rfl z2 z3 rfl rfl rfl (y1J (cs:=(e50 (nth z8 (i64 ((u64 (i64 (z20 + z28))) / 2 ^ min (1 : Int).toNat 64))))) y2n rfl rfl (y1U .here (y1V (enc:=e50) (l:=z8) (i:=i64 ((u64 (i64 (z20 + z28))) / 2 ^ min (1 : Int).toNat 64)) (sz:=3) (fun _=>rfl) zkm.1 zkm.2))) ?_
       refine WD.c (i:=9) (d:=101) (by kernel_rfl) rfl z2 z3 rfl rfl rfl (y4q (l:=[.tmp 96,.tmp 100]) (f:=z1I) (caps:=z1X) z8n rfl (.cons rfl (.cons rfl .nil))) (fun w hw=>z8o w (hz.now hw) (⟨((nth z8 zB).fSent),((nth z8 zB).fNode),((nth z8 zB).fTime)⟩ : Sapi_Come) (⟨((nth z8 (i64 ((u64 (i64 (z20 + z28))) / 2 ^ min (1 : Int).toNat 64))).fSent),((nth z8 (i64 ((u64 (i64 (z20 + z28))) / 2 ^ min (1 : Int).toNat 64))).fNode),((nth z8 (i64 ((u64 (i64 (z20 + z28))) / 2 ^ min (1 : Int).toNat 64))).fTime)⟩ : Sapi_Come) znP  zAF) ?_
       refine WD.a (i:=10) (d:=102) (by kernel_rfl) rfl z2 z3 rfl rfl rfl (fun _=>y3O rfl rfl) ?_
       refine WD.a (i:=11) (d:=103) (by kernel_rfl) rfl z2 z3 rfl rfl rfl (fun _=>y6X rfl) ?_
       refine WD.done (by kernel_rfl) ?_
       refine WX.a ?_
       refine WC.cond rfl (fun zo1=>?_) (fun zo1=>?_)
       ·replace h:=ym h zo1
        refine WC.a (WL.pu rfl (WL.pu rfl (WL.pu rfl (WL.nil (WX.yk ?_)))))
        exact WX.round (G:=Nat × Int × Int) ⟨zhE,(i64 ((i64 ((u64 (i64 (z20 + z28))) / 2 ^ min (1 : Int).toNat 64)) + 1)),z28⟩ h (Nat.lt_succ_self _) (.cons rfl (.cons rfl (.cons rfl (.cons rfl (.cons rfl .nil))))) (.cons .here .nil)
       ·replace h:=yn h zo1
        refine WC.a (WL.pu rfl (WL.pu rfl (WL.nil (WX.yk ?_))))
        exact WX.round (G:=Nat × Int × Int) ⟨zhE,z20,(i64 ((u64 (i64 (z20 + z28))) / 2 ^ min (1 : Int).toNat 64))⟩ h (Nat.lt_succ_self _) (.cons rfl (.cons rfl (.cons rfl (.cons rfl (.cons rfl .nil))))) (.cons .here .nil)
      ·replace h:=yn h zo0
       refine WC.exit (WX.yg (WX.yg (WX.yv ?_)))
       exact WX.mid (G:=Int) z20 h (.cons rfl (.cons rfl (.cons rfl .nil))) (.cons .here .nil)
     ·rintro z4q h
      replace h:=(zAE z4q).symm.trans h
      obtain ⟨z9q,zAG,h⟩:=yU h
      refine WC.y1i (fun (z8l : List Sapi_Come)=>(z9q z8l = some r) ∧ (z8l.length = z8.length)) (fun (z8l : List Sapi_Come)=>[]) (fun (z8l : List Sapi_Come)=>[row (.slice z15 z8l.length zR) 50 3 (z8l.flatMap e50)]) ?_ ?_
      ·skip
       refine WC.b (WC.a (WL.pu rfl (WL.pu rfl (WL.nil (WX.a (WC.block ?_))))))
       refine WC.y2F (fun (zdO : Nat) (zz : List Sapi_Come) (zr : Int)=>(y13 z4q z9q zdO zz zr = some r) ∧ (zz.length = z8.length)) (fun (zdO : Nat) (zz : List Sapi_Come) (zr : Int)=>[(0,(.slice z15 zz.length zR)),(14,(.int .i64 z4q)),(17,(.int .i64 zr))]) (fun (zdO : Nat) (zz : List Sapi_Come) (zr : Int)=>[row (.slice z15 zz.length zR) 50 3 (zz.flatMap e50)]) (fun (zdO : Nat) (zz : List Sapi_Come) (zr : Int)=>zdO) ⟨yw,z8,zB⟩ ⟨h,rfl⟩ (.cons rfl (.cons rfl (.cons rfl .nil))) (.cons .here .nil) ?_
       rintro zdO zz zr ⟨h,ztP⟩
       obtain ⟨znQ,rfl⟩:=y4o h
       rw [y13] at h
       refine WC.b (WC.b (WC.a (WL.pu rfl (WL.pu rfl (WL.pu rfl (WL.nil (WX.a ?_)))))))
       refine WC.cond rfl (fun zo2=>?_) (fun zo2=>?_)
       ·replace h:=ym h zo2
        refine WC.skip (WX.a (WC.b (WC.block ?_)))
        obtain ⟨zhL,h⟩:=ye h
        obtain ⟨z8q,h⟩:=ye h
        obtain ⟨zdP,h⟩:=ye h
        refine WC.yI (fun i=>[15,17].contains i) [] rfl ?_
        refine WD.a (i:=0) (d:=113) (by kernel_rfl) rfl z2 z3 rfl rfl rfl (fun _=>q_m rfl) ?_
        refine WD.a (i:=1) (d:=114) (by kernel_rfl) rfl z2 z3 rfl rfl rfl (fun _=>q_m rfl) ?_
        refine WD.a (i:=2) (d:=115) (by kernel_rfl) rfl z2 z3 rfl rfl rfl (fun _=>q_m rfl) ?_
        refine WD.a (i:=3) (d:=116) (by kernel_rfl) rfl z2 z3 rfl rfl rfl (fun _=>q_m rfl) ?_
        refine WD.a (i:=4) (d:=117) (by kernel_rfl) rfl z2 z3 rfl rfl rfl (fun _=>y3Z rfl rfl rfl) ?_
        refine WD.a (i:=5) (d:=118) (by kernel_rfl) rfl z2 z3 rfl rfl rfl (fun _=>q_m rfl) ?_
        refine WD.a (i:=6) (d:=119) (by kernel_rfl) rfl z2 z3 rfl rfl rfl (fun _=>q_m rfl) ?_
        refine WD.a (i:=7) (d:=120) (by kernel_rfl) rfl z2 z3 rfl rfl rfl (fun _=>y3Z rfl rfl rfl) ?_
        refine WD.know (fun w hw=>Hp.y2g .here hw (by intro hz'; have:=zhL; rw [hz'] at this; omega)) ?_
        rintro ⟨zhM,rfl⟩
        refine WD.a (i:=8) (d:=121) (by kernel_rfl) rfl z2 z3 rfl rfl rfl (fun _=>yu yV rfl rfl zhL.1 zhL.2 y1c) ?_
        refine WD.e (i:=9) (d:=122) (by kernel_rfl) rfl z2 z3 rfl rfl rfl (y1J (cs:=(e50 (nth zz (i64 (zr - 1))))) y2n rfl rfl (y1U .here (y1V (enc:=e50) (l:=zz) (i:=i64 (zr - 1)) (sz:=3) (fun _=>rfl) zhL.1 zhL.2))) ?_
        refine WD.a (i:=10) (d:=123) (by kernel_rfl) rfl z2 z3 rfl rfl rfl (fun _=>q_m rfl) ?_
        refine WD.a (i:=11) (d:=124) (by kernel_rfl) rfl z2 z3 rfl rfl rfl (fun _=>q_m rfl) ?_
        refine WD.a (i:=12) (d:=125) (by kernel_rfl) rfl z2 z3 rfl rfl rfl (fun _=>yu yV rfl rfl z8q.1 z8q.2 y1c) ?_
        refine WD.e (i:=13) (d:=126) (by kernel_rfl) rfl z2 z3 rfl rfl rfl (y1J (cs:=(e50 (nth zz zr))) y2n rfl rfl (y1U .here (y1V (enc:=e50) (l:=zz) (i:=zr) (sz:=3) (fun _=>rfl) z8q.1 z8q.2))) ?_
        refine WD.a (i:=14) (d:=127) (by kernel_rfl) rfl z2 z3 rfl rfl rfl (fun _=>yu yV rfl rfl z8q.1 z8q.2 y1c) ?_
        refine WD.forced0 (i:=15) rfl (by kernel_rfl) rfl rfl rfl (Sin.of .nil) (y2C (vs:=[(.int .i64 ((nth zz (i64 (zr - 1))).fSent)),(.int .i64 ((nth zz (i64 (zr - 1))).fNode)),(.int .i64 ((nth zz (i64 (zr - 1))).fTime))]) (ds:=(zz.set (zr : Int).toNat (⟨((nth zz (i64 (zr - 1))).fSent),((nth zz (i64 (zr - 1))).fNode),((nth zz (i64 (zr - 1))).fTime)⟩ : Sapi_Come)).flatMap e50) y54 rfl rfl rfl rfl (ocB rfl) .here (y3I (enc:=e50) (sz:=3) (k:=0) (fun _=>rfl) z8q.1 z8q.2 (by decide)) (y3H (enc:=e50) (l:=zz) (sz:=3) (vs:=[(.int .i64 ((nth zz (i64 (zr - 1))).fSent)),(.int .i64 ((nth zz (i64 (zr - 1))).fNode)),(.int .i64 ((nth zz (i64 (zr - 1))).fTime))]) (y:=(⟨((nth zz (i64 (zr - 1))).fSent),((nth zz (i64 (zr - 1))).fNode),((nth zz (i64 (zr - 1))).fTime)⟩ : Sapi_Come)) (k:=0) (fun _=>rfl) z8q.1 z8q.2 rfl (Nat.le_of_ble_eq_true rfl))) ?_
        refine WD.relen .here (u:=(.slice (some ⟨zhM,0,none⟩) ((zz.set (zr : Int).toNat (⟨((nth zz (i64 (zr - 1))).fSent),((nth zz (i64 (zr - 1))).fNode),((nth zz (i64 (zr - 1))).fTime)⟩ : Sapi_Come)).length) zR)) (y1W (List.length_set).symm) ?_
        refine WD.repin (i:=0) rfl (u:=(.slice (some ⟨zhM,0,none⟩) ((zz.set (zr : Int).toNat (⟨((nth zz (i64 (zr - 1))).fSent),((nth zz (i64 (zr - 1))).fNode),((nth zz (i64 (zr - 1))).fTime)⟩ : Sapi_Come)).length) zR)) (y1W (List.length_set).symm) ?_
        refine WD.repin (i:=115) rfl (u:=(.slice (some ⟨zhM,0,none⟩) ((zz.set (zr : Int).toNat (⟨((nth zz (i64 (zr - 1))).fSent),((nth zz (i64 (zr - 1))).fNode),((nth zz (i64 (zr - 1))).fTime)⟩ : Sapi_Come)).length) zR)) (y1W (List.length_set).symm) ?_
        refine WD.a (i:=16) (d:=128) (by kernel_rfl) rfl z2 z3 rfl rfl rfl (fun _=>yu yV rfl rfl zdP.1 zdP.2 y1c) ?_
        refine WD.y3G (i:=17) rfl (by kernel_rfl) rfl rfl rfl (by kernel_rfl) (y2C (vs:=[(.int .i64 ((nth zz zr).fSent)),(.int .i64 ((nth zz zr).fNode)),(.int .i64 ((nth zz zr).fTime))]) (ds:=((zz.set (zr : Int).toNat (⟨((nth zz (i64 (zr - 1))).fSent),((nth zz (i64 (zr - 1))).fNode),((nth zz (i64 (zr - 1))).fTime)⟩ : Sapi_Come)).set ((i64 (zr - 1)) : Int).toNat (⟨((nth zz zr).fSent),((nth zz zr).fNode),((nth zz zr).fTime)⟩ : Sapi_Come)).flatMap e50) y54 rfl rfl rfl rfl (ocB rfl) .here (y3I (enc:=e50) (sz:=3) (k:=0) (fun _=>rfl) zdP.1 zdP.2 (by decide)) (y3H (enc:=e50) (l:=zz.set (zr : Int).toNat (⟨((nth zz (i64 (zr - 1))).fSent),((nth zz (i64 (zr - 1))).fNode),((nth zz (i64 (zr - 1))).fTime)⟩ : Sapi_Come)) (sz:=3) (vs:=[(.int .i64 ((nth zz zr).fSent)),(.int .i64 ((nth zz zr).fNode)),(.int .i64 ((nth zz zr).fTime))]) (y:=(⟨((nth zz zr).fSent),((nth zz zr).fNode),((nth zz zr).fTime)⟩ : Sapi_Come)) (k:=0) (fun _=>rfl) zdP.1 zdP.2 rfl (Nat.le_of_ble_eq_true rfl))) ?_
        refine WD.relen .here (u:=(.slice (some ⟨zhM,0,none⟩) (((zz.set (zr : Int).toNat (⟨((nth zz (i64 (zr - 1))).fSent),((nth zz (i64 (zr - 1))).fNode),((nth zz (i64 (zr - 1))).fTime)⟩ : Sapi_Come)).set ((i64 (zr - 1)) : Int).toNat (⟨((nth zz zr).fSent),((nth zz zr).fNode),((nth zz zr).fTime)⟩ : Sapi_Come)).length) zR)) (y1W (List.length_set).symm) ?_
        refine WD.repin (i:=0) rfl (u:=(.slice (some ⟨zhM,0,none⟩) (((zz.set (zr : Int).toNat (⟨((nth zz (i64 (zr - 1))).fSent),((nth zz (i64 (zr - 1))).fNode),((nth zz (i64 (zr - 1))).fTime)⟩ : Sapi_Come)).set ((i64 (zr - 1)) : Int).toNat (⟨((nth zz zr).fSent),((nth zz zr).fNode),((nth zz zr).fTime)⟩ : Sapi_Come)).length) zR)) (y1W (List.length_set).symm) ?_
        refine WD.done (by kernel_rfl) ?_
        refine WX.yk (WX.a (WC.a (WL.pu rfl (WL.pu rfl (WL.pu rfl (WL.nil ?_))))))
        exact WX.round (G:=Nat × List Sapi_Come × Int) ⟨znQ,((zz.set (zr : Int).toNat (⟨((nth zz (i64 (zr - 1))).fSent),((nth zz (i64 (zr - 1))).fNode),((nth zz (i64 (zr - 1))).fTime)⟩ : Sapi_Come)).set ((i64 (zr - 1)) : Int).toNat (⟨((nth zz zr).fSent),((nth zz zr).fNode),((nth zz zr).fTime)⟩ : Sapi_Come)),(i64 (zr - 1))⟩ ⟨h,((List.length_set).trans ((List.length_set).trans ztP))⟩ (Nat.lt_succ_self _) (.cons rfl (.cons rfl (.cons rfl .nil))) (.cons .here .nil)
       ·replace h:=yn h zo2
        refine WC.exit (WX.yg (WX.yg (WX.yv ?_)))
        exact WX.mid (G:=List Sapi_Come) zz ⟨h,ztP⟩ .nil (.cons .here .nil)
      ·rintro z8l ⟨h,zAH⟩
       replace h:=(zAG z8l).symm.trans h
       refine WC.ret (WX.yj ?_)
       obtain rfl:=Option.some.inj h
       refine WX.yi Try.results67 .nil (fun w hw=>?_)
       exact ⟨y4X,zAH,hw.sub (.cons .here .nil)⟩
    ·replace h:=yn h znZ
     refine WC.skip ?_
     exact WX.mid (G:=Unit) () h (.cons rfl (.cons rfl (.cons rfl (.cons rfl (.cons rfl .nil))))) (.cons .here .nil)
   ·rintro  h
    replace h:=zAD.symm.trans h
    refine WC.b (WC.a (WL.pu rfl (WL.pu rfl (WL.pu rfl ?_))))
    refine WL.a (d:=132) rfl rfl rfl (y5z Try.underlying3 Try.underlying157 rfl rfl) ?_
    refine WL.a (d:=133) rfl rfl rfl (q_shr rfl rfl (by decide) rfl) ?_
    refine WL.a (d:=134) rfl rfl rfl (y5z Try.underlying157 Try.underlying3 rfl rfl) ?_
    refine WL.pu rfl (WL.nil (WX.a (WC.b (WC.a (WL.pu rfl (WL.pu rfl (WL.pu rfl (WL.pu rfl (WL.nil (WX.a (WC.b (WC.a (WL.pu rfl (WL.pu rfl (WL.nil ?_)))))))))))))))
    refine WX.a ?_
    obtain ⟨zkk,zAI,h⟩:=y2s h
    refine WC.y2D (fun (z9r : Int) (z9s : Int)=>(zkk z9r z9s = some r)) (fun (z9r : Int) (z9s : Int)=>[(0,(.slice z15 z8.length zR)),(1,(.int .i64 zs)),(2,(.int .i64 zB)),(3,(.int .i64 zG)),(4,(.func (.func z1I) #[] (z1X).toArray)),(18,(.int .i64 (i64 ((u64 (i64 (zs + zG))) / 2 ^ min (1 : Int).toNat 64)))),(19,(.int .i64 (i64 ((i64 ((u64 (i64 (zs + zG))) / 2 ^ min (1 : Int).toNat 64)) + zB)))),(20,(.int .i64 z9r)),(21,(.int .i64 z9s))]) (fun (z9r : Int) (z9s : Int)=>[row (.slice z15 z8.length zR) 50 3 (z8.flatMap e50)]) ?_ ?_
    ·skip
     refine WC.b (WC.a (WL.pu rfl (WL.pu rfl (WL.pu rfl (WL.nil (WX.a ?_))))))
     refine WC.cond rfl (fun zo3=>?_) (fun zo3=>?_)
     ·replace h:=ym h zo3
      refine WC.b (WC.a (WL.pu rfl (WL.pu rfl (WL.pu rfl (WL.pu rfl (WL.nil (WX.a (WC.a (WL.pu rfl (WL.pu rfl (WL.nil ?_)))))))))))
      exact WX.mid (G:=Int × Int) ⟨(i64 ((i64 ((i64 ((u64 (i64 (zs + zG))) / 2 ^ min (1 : Int).toNat 64)) + zB)) - zG)),(i64 ((u64 (i64 (zs + zG))) / 2 ^ min (1 : Int).toNat 64))⟩ h (.cons rfl (.cons rfl (.cons rfl (.cons rfl (.cons rfl (.cons rfl (.cons rfl (.cons rfl (.cons rfl .nil))))))))) (.cons .here .nil)
     ·replace h:=yn h zo3
      refine WC.b (WC.a (WL.pu rfl (WL.pu rfl (WL.nil (WX.a (WC.a (WL.pu rfl (WL.pu rfl (WL.nil ?_)))))))))
      exact WX.mid (G:=Int × Int) ⟨zs,zB⟩ h (.cons rfl (.cons rfl (.cons rfl (.cons rfl (.cons rfl (.cons rfl (.cons rfl (.cons rfl (.cons rfl .nil))))))))) (.cons .here .nil)
    ·rintro z9r z9s h
     replace h:=(zAI z9r z9s).symm.trans h
     refine WC.b (WC.a (WL.pu rfl (WL.pu rfl (WL.pu rfl (WL.nil (WX.a ?_))))))
     obtain ⟨z8k,zAJ,h⟩:=yU h
     refine WC.y1i (fun (z21 : Int)=>(z8k z21 = some r)) (fun (z21 : Int)=>[(0,(.slice z15 z8.length zR)),(1,(.int .i64 zs)),(2,(.int .i64 zB)),(3,(.int .i64 zG)),(4,(.func (.func z1I) #[] (z1X).toArray)),(18,(.int .i64 (i64 ((u64 (i64 (zs + zG))) / 2 ^ min (1 : Int).toNat 64)))),(19,(.int .i64 (i64 ((i64 ((u64 (i64 (zs + zG))) / 2 ^ min (1 : Int).toNat 64)) + zB)))),(20,(.int .i64 z21))]) (fun (z21 : Int)=>[row (.slice z15 z8.length zR) 50 3 (z8.flatMap e50)]) ?_ ?_
     ·skip
      refine WC.block ?_
      refine WC.y2F (fun (zdQ : Nat) (z1q : Int) (z1x : Int)=>(yO zs zG zB z8 z1h z8k zdQ z1q z1x = some r)) (fun (zdQ : Nat) (z1q : Int) (z1x : Int)=>[(0,(.slice z15 z8.length zR)),(1,(.int .i64 zs)),(2,(.int .i64 zB)),(3,(.int .i64 zG)),(4,(.func (.func z1I) #[] (z1X).toArray)),(18,(.int .i64 (i64 ((u64 (i64 (zs + zG))) / 2 ^ min (1 : Int).toNat 64)))),(19,(.int .i64 (i64 ((i64 ((u64 (i64 (zs + zG))) / 2 ^ min (1 : Int).toNat 64)) + zB)))),(20,(.int .i64 z1q)),(21,(.int .i64 z1x)),(22,(.int .i64 (i64 ((i64 ((i64 ((u64 (i64 (zs + zG))) / 2 ^ min (1 : Int).toNat 64)) + zB)) - 1))))]) (fun (zdQ : Nat) (z1q : Int) (z1x : Int)=>[row (.slice z15 z8.length zR) 50 3 (z8.flatMap e50)]) (fun (zdQ : Nat) (z1q : Int) (z1x : Int)=>zdQ) ⟨yw,z9r,z9s⟩ h (.cons rfl (.cons rfl (.cons rfl (.cons rfl (.cons rfl (.cons rfl (.cons rfl (.cons rfl (.cons rfl (.cons rfl .nil)))))))))) (.cons .here .nil) ?_
      rintro zdQ z1q z1x h
      obtain ⟨zhF,rfl⟩:=y4f h
      rw [yO] at h
      refine WC.b (WC.b (WC.a (WL.pu rfl (WL.pu rfl (WL.pu rfl (WL.nil (WX.a ?_)))))))
      refine WC.cond rfl (fun zo4=>?_) (fun zo4=>?_)
      ·replace h:=ym h zo4
       refine WC.skip (WX.a (WC.block (WC.b (WC.a (WL.pu rfl (WL.pu rfl (WL.pu rfl ?_)))))))
       refine WL.a (d:=155) rfl rfl rfl (y5z Try.underlying3 Try.underlying157 rfl rfl) ?_
       refine WL.a (d:=156) rfl rfl rfl (q_shr rfl rfl (by decide) rfl) ?_
       refine WL.a (d:=157) rfl rfl rfl (y5z Try.underlying157 Try.underlying3 rfl rfl) ?_
       refine WL.pu rfl (WL.nil (WX.a (WC.b ?_)))
       obtain ⟨zhN,h⟩:=ye h
       obtain ⟨zkn,h⟩:=ye h
       obtain ⟨znR,zAK,h⟩:=zg h
       refine WC.yI (fun i=>[].contains i) [] rfl ?_
       refine WD.a (i:=0) (d:=158) (by kernel_rfl) rfl z2 z3 rfl rfl rfl (fun _=>q_m rfl) ?_
       refine WD.a (i:=1) (d:=159) (by kernel_rfl) rfl z2 z3 rfl rfl rfl (fun _=>q_m rfl) ?_
       refine WD.a (i:=2) (d:=160) (by kernel_rfl) rfl z2 z3 rfl rfl rfl (fun _=>q_m rfl) ?_
       refine WD.a (i:=3) (d:=161) (by kernel_rfl) rfl z2 z3 rfl rfl rfl (fun _=>q_m rfl) ?_
       refine WD.a (i:=4) (d:=162) (by kernel_rfl) rfl z2 z3 rfl rfl rfl (fun _=>y3Z rfl rfl rfl) ?_
       refine WD.know (fun w hw=>Hp.y2g .here hw (by intro hz'; have:=zhN; rw [hz'] at this; omega)) ?_
       rintro ⟨zJT,rfl⟩
       refine WD.a (i:=5) (d:=163) (by kernel_rfl) rfl z2 z3 rfl rfl rfl (fun _=>yu yV rfl rfl zhN.1 zhN.2 y1c) ?_
       refine WD.e (i:=6) (d:=164) (by kernel_rfl) rfl z2 z3 rfl rfl rfl (y1J (cs:=(e50 (nth z8 (i64 ((i64 ((i64 ((i64 ((u64 (i64 (zs + zG))) / 2 ^ min (1 : Int).toNat 64)) + zB)) - 1)) - (i64 ((u64 (i64 (z1q + z1x))) / 2 ^ min (1 : Int).toNat 64))))))) y2n rfl rfl (y1U .here (y1V (enc:=e50) (l:=z8) (i:=i64 ((i64 ((i64 ((i64 ((u64 (i64 (zs + zG))) / 2 ^ min (1 : Int).toNat 64)) + zB)) - 1)) - (i64 ((u64 (i64 (z1q + z1x))) / 2 ^ min (1 : Int).toNat 64)))) (sz:=3) (fun _=>rfl) zhN.1 zhN.2))) ?_
       refine WD.a (i:=7) (d:=165) (by kernel_rfl) rfl z2 z3 rfl rfl rfl (fun _=>q_m rfl) ?_
       refine WD.a (i:=8) (d:=166) (by kernel_rfl) rfl z2 z3 rfl rfl rfl (fun _=>q_m rfl) ?_
       refine WD.a (i:=9) (d:=167) (by kernel_rfl) rfl z2 z3 rfl rfl rfl (fun _=>yu yV rfl rfl zkn.1 zkn.2 y1c) ?_
       refine WD.e (i:=10) (d:=168) (by kernel_rfl) rfl z2 z3 rfl rfl rfl (y1J (cs:=(e50 (nth z8 (i64 ((u64 (i64 (z1q + z1x))) / 2 ^ min (1 : Int).toNat 64))))) y2n rfl rfl (y1U .here (y1V (enc:=e50) (l:=z8) (i:=i64 ((u64 (i64 (z1q + z1x))) / 2 ^ min (1 : Int).toNat 64)) (sz:=3) (fun _=>rfl) zkn.1 zkn.2))) ?_
       refine WD.c (i:=11) (d:=169) (by kernel_rfl) rfl z2 z3 rfl rfl rfl (y4q (l:=[.tmp 164,.tmp 168]) (f:=z1I) (caps:=z1X) z8n rfl (.cons rfl (.cons rfl .nil))) (fun w hw=>z8o w (hz.now hw) (⟨((nth z8 (i64 ((i64 ((i64 ((i64 ((u64 (i64 (zs + zG))) / 2 ^ min (1 : Int).toNat 64)) + zB)) - 1)) - (i64 ((u64 (i64 (z1q + z1x))) / 2 ^ min (1 : Int).toNat 64))))).fSent),((nth z8 (i64 ((i64 ((i64 ((i64 ((u64 (i64 (zs + zG))) / 2 ^ min (1 : Int).toNat 64)) + zB)) - 1)) - (i64 ((u64 (i64 (z1q + z1x))) / 2 ^ min (1 : Int).toNat 64))))).fNode),((nth z8 (i64 ((i64 ((i64 ((i64 ((u64 (i64 (zs + zG))) / 2 ^ min (1 : Int).toNat 64)) + zB)) - 1)) - (i64 ((u64 (i64 (z1q + z1x))) / 2 ^ min (1 : Int).toNat 64))))).fTime)⟩ : Sapi_Come) (⟨((nth z8 (i64 ((u64 (i64 (z1q + z1x))) / 2 ^ min (1 : Int).toNat 64))).fSent),((nth z8 (i64 ((u64 (i64 (z1q + z1x))) / 2 ^ min (1 : Int).toNat 64))).fNode),((nth z8 (i64 ((u64 (i64 (z1q + z1x))) / 2 ^ min (1 : Int).toNat 64))).fTime)⟩ : Sapi_Come) znR  zAK) ?_
       refine WD.a (i:=12) (d:=170) (by kernel_rfl) rfl z2 z3 rfl rfl rfl (fun _=>y3O rfl rfl) ?_
       refine WD.a (i:=13) (d:=171) (by kernel_rfl) rfl z2 z3 rfl rfl rfl (fun _=>y6X rfl) ?_
       refine WD.done (by kernel_rfl) ?_
       refine WX.a ?_
       refine WC.cond rfl (fun zo5=>?_) (fun zo5=>?_)
       ·replace h:=ym h zo5
        refine WC.a (WL.pu rfl (WL.pu rfl (WL.pu rfl (WL.nil (WX.yk ?_)))))
        exact WX.round (G:=Nat × Int × Int) ⟨zhF,(i64 ((i64 ((u64 (i64 (z1q + z1x))) / 2 ^ min (1 : Int).toNat 64)) + 1)),z1x⟩ h (Nat.lt_succ_self _) (.cons rfl (.cons rfl (.cons rfl (.cons rfl (.cons rfl (.cons rfl (.cons rfl (.cons rfl (.cons rfl (.cons rfl .nil)))))))))) (.cons .here .nil)
       ·replace h:=yn h zo5
        refine WC.a (WL.pu rfl (WL.pu rfl (WL.nil (WX.yk ?_))))
        exact WX.round (G:=Nat × Int × Int) ⟨zhF,z1q,(i64 ((u64 (i64 (z1q + z1x))) / 2 ^ min (1 : Int).toNat 64))⟩ h (Nat.lt_succ_self _) (.cons rfl (.cons rfl (.cons rfl (.cons rfl (.cons rfl (.cons rfl (.cons rfl (.cons rfl (.cons rfl (.cons rfl .nil)))))))))) (.cons .here .nil)
      ·replace h:=yn h zo4
       refine WC.exit (WX.yg (WX.yg (WX.yv ?_)))
       exact WX.mid (G:=Int) z1q h (.cons rfl (.cons rfl (.cons rfl (.cons rfl (.cons rfl (.cons rfl (.cons rfl (.cons rfl .nil)))))))) (.cons .here .nil)
     ·rintro z21 h
      replace h:=(zAJ z21).symm.trans h
      refine WC.b (WC.a (WL.pu rfl (WL.pu rfl (WL.pu rfl (WL.pu rfl (WL.nil (WX.a ?_)))))))
      obtain ⟨zki,zAL,h⟩:=yU h
      refine WC.y1i (fun (z4K : List Sapi_Come)=>(zki z4K = some r) ∧ (z4K.length = z8.length)) (fun (z4K : List Sapi_Come)=>[(0,(.slice z15 z4K.length zR)),(1,(.int .i64 zs)),(3,(.int .i64 zG)),(4,(.func (.func z1I) #[] (z1X).toArray)),(18,(.int .i64 (i64 ((u64 (i64 (zs + zG))) / 2 ^ min (1 : Int).toNat 64)))),(20,(.int .i64 z21)),(24,(.int .i64 (i64 ((i64 ((i64 ((u64 (i64 (zs + zG))) / 2 ^ min (1 : Int).toNat 64)) + zB)) - z21))))]) (fun (z4K : List Sapi_Come)=>[row (.slice z15 z4K.length zR) 50 3 (z4K.flatMap e50)]) ?_ ?_
      ·skip
       refine WC.b (WC.a (WL.pu rfl (WL.pu rfl (WL.pu rfl (WL.pu rfl ?_)))))
       refine WL.seg true 3 181 (B:=(decide (z21 < zB)) && (decide (zB < (i64 ((i64 ((i64 ((u64 (i64 (zs + zG))) / 2 ^ min (1 : Int).toNat 64)) + zB)) - z21))))) rfl rfl rfl rfl rfl rfl (fun h=>(y1G h).symm) (fun _ zAM=>?_) ?_
       ·skip
        refine WL.pu rfl (WL.pu rfl (WL.pu rfl (WL.pu rfl ?_)))
        exact WL.yr (y1H zAM) rfl rfl .all
       refine WL.nil (WX.a ?_)
       refine WC.cond rfl (fun zo6=>?_) (fun zo6=>?_)
       ·replace h:=ym h zo6
        obtain ⟨zkj,zAN,h⟩:=zg h
        refine WC.a (WL.pu rfl (WL.pu rfl (WL.pu rfl (WL.pu rfl (WL.pu rfl ?_)))))
        refine WL.y21 (dd:=191) rfl rfl rfl (zC (l:=[.tmp 186,.tmp 187,.tmp 188,.tmp 189,.tmp 190]) Try.call68 (.cons rfl (.cons rfl (.cons rfl (.cons rfl (.cons rfl .nil)))))) (.cons .here .nil) (cc hz (.cons .here .nil) fun w pz ho=>y57 _ _ _ (z65:=z1I) (z8h:=z1X) _ _ _ _ (z3X:=z1h) _ zAN w pz z8n z8o ho) ?_
        rintro  ztQ
        refine WL.repin (i:=0) rfl (u:=(.slice z15 zkj.length zR)) (y1W ztQ.symm) ?_
        refine WL.nil ?_
        exact WX.mid (G:=List Sapi_Come) zkj ⟨h,(ztQ.trans rfl)⟩ (.cons rfl (.cons rfl (.cons rfl (.cons rfl (.cons rfl (.cons rfl (.cons rfl .nil))))))) (.cons .here .nil)
       ·replace h:=yn h zo6
        refine WC.skip ?_
        exact WX.mid (G:=List Sapi_Come) z8 ⟨h,rfl⟩ (.cons rfl (.cons rfl (.cons rfl (.cons rfl (.cons rfl (.cons rfl (.cons rfl .nil))))))) (.cons .here .nil)
      ·rintro z4K ⟨h,ztR⟩
       replace h:=(zAL z4K).symm.trans h
       obtain ⟨zkh,zAO,h⟩:=yU h
       refine WC.y1i (fun (z55 : List Sapi_Come)=>(zkh z55 = some r) ∧ (z55.length = z8.length)) (fun (z55 : List Sapi_Come)=>[(0,(.slice z15 z55.length zR)),(3,(.int .i64 zG)),(4,(.func (.func z1I) #[] (z1X).toArray)),(18,(.int .i64 (i64 ((u64 (i64 (zs + zG))) / 2 ^ min (1 : Int).toNat 64)))),(24,(.int .i64 (i64 ((i64 ((i64 ((u64 (i64 (zs + zG))) / 2 ^ min (1 : Int).toNat 64)) + zB)) - z21))))]) (fun (z55 : List Sapi_Come)=>[row (.slice z15 z55.length zR) 50 3 (z55.flatMap e50)]) ?_ ?_
       ·skip
        refine WC.b (WC.a (WL.pu rfl (WL.pu rfl (WL.pu rfl (WL.pu rfl ?_)))))
        refine WL.seg true 3 195 (B:=(decide (zs < z21)) && (decide (z21 < (i64 ((u64 (i64 (zs + zG))) / 2 ^ min (1 : Int).toNat 64))))) rfl rfl rfl rfl rfl rfl (fun h=>(y1G h).symm) (fun _ zAP=>?_) ?_
        ·skip
         refine WL.pu rfl (WL.pu rfl (WL.pu rfl (WL.pu rfl ?_)))
         exact WL.yr (y1H zAP) rfl rfl .all
        refine WL.nil (WX.a ?_)
        refine WC.cond rfl (fun zo7=>?_) (fun zo7=>?_)
        ·replace h:=ym h zo7
         obtain ⟨zhG,zAQ,h⟩:=zg h
         refine WC.a (WL.pu rfl (WL.pu rfl (WL.pu rfl (WL.pu rfl (WL.pu rfl ?_)))))
         refine WL.y21 (dd:=205) rfl rfl rfl (zC (l:=[.tmp 200,.tmp 201,.tmp 202,.tmp 203,.tmp 204]) Try.call67 (.cons rfl (.cons rfl (.cons rfl (.cons rfl (.cons rfl .nil)))))) (.cons .here .nil) (cc hz (.cons .here .nil) fun w pz ho=>ih (Z:=_) (z15:=z15) (zR:=zR) (z1I:=z1I) (z1X:=z1X) (z8:=z4K) (zs:=zs) (zB:=z21) (zG:=(i64 ((u64 (i64 (zs + zG))) / 2 ^ min (1 : Int).toNat 64))) (z1h:=z1h) (r:=zhG) w pz z8n z8o zAQ ho) ?_
         rintro  ztS
         refine WL.repin (i:=0) rfl (u:=(.slice z15 zhG.length zR)) (y1W ztS.symm) ?_
         refine WL.nil ?_
         exact WX.mid (G:=List Sapi_Come) zhG ⟨h,(ztS.trans ztR)⟩ (.cons rfl (.cons rfl (.cons rfl (.cons rfl (.cons rfl .nil))))) (.cons .here .nil)
        ·replace h:=yn h zo7
         refine WC.skip ?_
         exact WX.mid (G:=List Sapi_Come) z4K ⟨h,ztR⟩ (.cons rfl (.cons rfl (.cons rfl (.cons rfl (.cons rfl .nil))))) (.cons .here .nil)
       ·rintro z55 ⟨h,ztT⟩
        replace h:=(zAO z55).symm.trans h
        refine WC.b (WC.a (WL.pu rfl (WL.pu rfl (WL.pu rfl (WL.pu rfl ?_)))))
        refine WL.seg true 3 209 (B:=(decide ((i64 ((u64 (i64 (zs + zG))) / 2 ^ min (1 : Int).toNat 64)) < (i64 ((i64 ((i64 ((u64 (i64 (zs + zG))) / 2 ^ min (1 : Int).toNat 64)) + zB)) - z21)))) && (decide ((i64 ((i64 ((i64 ((u64 (i64 (zs + zG))) / 2 ^ min (1 : Int).toNat 64)) + zB)) - z21)) < zG))) rfl rfl rfl rfl rfl rfl (fun h=>(y1G h).symm) (fun _ zAR=>?_) ?_
        ·skip
         refine WL.pu rfl (WL.pu rfl (WL.pu rfl (WL.pu rfl ?_)))
         exact WL.yr (y1H zAR) rfl rfl .all
        refine WL.nil (WX.a ?_)
        refine WC.cond rfl (fun zo8=>?_) (fun zo8=>?_)
        ·replace h:=ym h zo8
         obtain ⟨zkg,zAS,h⟩:=zg h
         refine WC.a (WL.pu rfl (WL.pu rfl (WL.pu rfl (WL.pu rfl (WL.pu rfl ?_)))))
         refine WL.y21 (dd:=219) rfl rfl rfl (zC (l:=[.tmp 214,.tmp 215,.tmp 216,.tmp 217,.tmp 218]) Try.call67 (.cons rfl (.cons rfl (.cons rfl (.cons rfl (.cons rfl .nil)))))) (.cons .here .nil) (cc hz (.cons .here .nil) fun w pz ho=>ih (Z:=_) (z15:=z15) (zR:=zR) (z1I:=z1I) (z1X:=z1X) (z8:=z55) (zs:=(i64 ((u64 (i64 (zs + zG))) / 2 ^ min (1 : Int).toNat 64))) (zB:=(i64 ((i64 ((i64 ((u64 (i64 (zs + zG))) / 2 ^ min (1 : Int).toNat 64)) + zB)) - z21))) (zG:=zG) (z1h:=z1h) (r:=zkg) w pz z8n z8o zAS ho) ?_
         rintro  ztU
         refine WL.repin (i:=0) rfl (u:=(.slice z15 zkg.length zR)) (y1W ztU.symm) ?_
         refine WL.nil ?_
         obtain rfl:=Option.some.inj h
         refine WX.y29 Try.results67 .nil (fun w hw=>?_)
         exact ⟨y4X,(ztU.trans ztT),hw.sub (.cons .here .nil)⟩
        ·replace h:=yn h zo8
         refine WC.skip ?_
         obtain rfl:=Option.some.inj h
         refine WX.y29 Try.results67 .nil (fun w hw=>?_)
         exact ⟨y4X,ztT,hw.sub (.cons .here .nil)⟩
theorem y3w (Z : Zp) (z15 : Option Addr) (zR : Nat) (z1I : FuncId) (z1X : List Value) (z8 : List Sapi_Come) (zs : Int) (zB : Int) (zG : Int) (z1h : Sapi_Come → Sapi_Come → Option Int) (r : List Sapi_Come) (w₀ : World) (hz : PZ (fps [row (.slice z15 z8.length zR) 50 3 (z8.flatMap e50)]) w₀ Z)
  (z8n : ∀ args w,(callFunc z1I args).run Try.prog w = .ok (.enter z1I args) w)
  (z8o : ∀ w : World,PZ [] w Z → ∀ (x0 : Sapi_Come) (x1 : Sapi_Come) (r : Int),z1h x0 x1 = some r → Calls Try.prog z1I (([(.agg #[(.int .i64 x0.fSent),(.int .i64 x0.fNode),(.int .i64 x0.fTime)]),(.agg #[(.int .i64 x1.fSent),(.int .i64 x1.fNode),(.int .i64 x1.fTime)])] : List Value) ++ z1X).toArray w fun e w'=>e = .returned (.int .i64 r) ∧ Hp [] w w' []) (h : y1C z8 zs zB zG z1h = some r)
  (hown : Hp (fps [row (.slice z15 z8.length zR) 50 3 (z8.flatMap e50)]) w₀ w₀ [row (.slice z15 z8.length zR) 50 3 (z8.flatMap e50)]) : Calls Try.prog 67 #[(.slice z15 z8.length zR),(.int .i64 zs),(.int .i64 zB),(.int .i64 zG),(.func (.func z1I) #[] (z1X).toArray)] w₀ fun e w'=>e = .returned (.tuple #[]) ∧ (r.length = z8.length) ∧ Hp (fps [row (.slice z15 z8.length zR) 50 3 (z8.flatMap e50)]) w₀ w' [row (.slice z15 r.length zR) 50 3 (r.flatMap e50)]:=y4O yw Z z15 zR z1I z1X z8 zs zB zG z1h r w₀ hz z8n z8o h hown
def yZ (z1s : Int) (z1T : Sapi_Come → Sapi_Come → Option Int) (z6B : (List Sapi_Come) → Int → Option (List Sapi_Come)) : Nat → (List Sapi_Come) → Int → Int → Option (List Sapi_Come)
 | 0,_,_,_=>none
 | zo9 + 1,z4r,z66,z4s=>if decide (z4s ≤ z1s) then (y11 z4r z66 z4s z1T).bind fun zko=>yZ z1s z1T z6B zo9 zko z4s (i64 (z4s + 20)) else z6B z4r z66
theorem y4z {n : Nat} {z1s : Int} {z1T : Sapi_Come → Sapi_Come → Option Int} {z6B : (List Sapi_Come) → Int → Option (List Sapi_Come)} {z4r : List Sapi_Come} {z66 : Int} {z4s : Int} {r : List Sapi_Come} (h : yZ z1s z1T z6B n z4r z66 z4s = some r) : ∃ m,n = m + 1:=by
 cases n with
 | zero=>cases h
 | succ m=>exact ⟨m,rfl⟩
def y17 (z1s : Int) (z1Q : Int) (z1T : Sapi_Come → Sapi_Come → Option Int) (z9t : (List Sapi_Come) → Int → Option (List Sapi_Come)) : Nat → (List Sapi_Come) → Int → Int → Option (List Sapi_Come)
 | 0,_,_,_=>none
 | zoa + 1,z4e,z4t,z4f=>if decide (z4f ≤ z1s) then (y1C z4e z4t (i64 (z4t + z1Q)) z4f z1T).bind fun zhO=>y17 z1s z1Q z1T z9t zoa zhO z4f (i64 (z4f + (i64 (2 * z1Q)))) else z9t z4e z4t
theorem y4A {n : Nat} {z1s : Int} {z1Q : Int} {z1T : Sapi_Come → Sapi_Come → Option Int} {z9t : (List Sapi_Come) → Int → Option (List Sapi_Come)} {z4e : List Sapi_Come} {z4t : Int} {z4f : Int} {r : List Sapi_Come} (h : y17 z1s z1Q z1T z9t n z4e z4t z4f = some r) : ∃ m,n = m + 1:=by
 cases n with
 | zero=>cases h
 | succ m=>exact ⟨m,rfl⟩
def y10 (z1s : Int) (z1T : Sapi_Come → Sapi_Come → Option Int) (z6C : (List Sapi_Come) → Option (List Sapi_Come)) : Nat → (List Sapi_Come) → Int → Option (List Sapi_Come)
 | 0,_,_=>none
 | zob + 1,z4g,z1Q=>if decide (z1Q < z1s) then jp1 (fun (z67 : List Sapi_Come)=>y10 z1s z1T z6C zob z67 (i64 (z1Q * 2))) fun zoc=>jp2 (fun (z4L : List Sapi_Come) (z68 : Int)=>jp1 (fun (z69 : List Sapi_Come)=>zoc z69) fun zkp=>if decide ((i64 (z68 + z1Q)) < z1s) then (y1C z4L z68 (i64 (z68 + z1Q)) z1s z1T).bind fun zhP=>zkp zhP else zkp z4L) fun z9t=>y17 z1s z1Q z1T z9t yw z4g 0 (i64 (2 * z1Q)) else z6C z4g
theorem y4B {n : Nat} {z1s : Int} {z1T : Sapi_Come → Sapi_Come → Option Int} {z6C : (List Sapi_Come) → Option (List Sapi_Come)} {z4g : List Sapi_Come} {z1Q : Int} {r : List Sapi_Come} (h : y10 z1s z1T z6C n z4g z1Q = some r) : ∃ m,n = m + 1:=by
 cases n with
 | zero=>cases h
 | succ m=>exact ⟨m,rfl⟩
def y27 (z29 : List Sapi_Come) (z1s : Int) (z1T : Sapi_Come → Sapi_Come → Option Int) : Option (List Sapi_Come) :=
 jp2 (fun (z56 : List Sapi_Come) (z8r : Int)=>(y11 z56 z8r z1s z1T).bind fun zdR=>jp1 (fun (z6a : List Sapi_Come)=>some z6a) fun z6C=>y10 z1s z1T z6C yw zdR 20) fun z6B=>yZ z1s z1T z6B yw z29 0 20
set_option maxRecDepth 20000 in
theorem y58 (Z : Zp) (z1U : Option Addr) (z1V : Nat) (z3I : FuncId) (z4h : List Value) (z29 : List Sapi_Come) (z1s : Int) (z1T : Sapi_Come → Sapi_Come → Option Int) (r : List Sapi_Come)
  (h : y27 z29 z1s z1T = some r) (w₀ : World) (hz : PZ (fps [row (.slice z1U z29.length z1V) 50 3 (z29.flatMap e50)]) w₀ Z)
  (zkq : ∀ args w,(callFunc z3I args).run Try.prog w = .ok (.enter z3I args) w)
  (zkr : ∀ w : World,PZ [] w Z → ∀ (x0 : Sapi_Come) (x1 : Sapi_Come) (r : Int),z1T x0 x1 = some r → Calls Try.prog z3I (([(.agg #[(.int .i64 x0.fSent),(.int .i64 x0.fNode),(.int .i64 x0.fTime)]),(.agg #[(.int .i64 x1.fSent),(.int .i64 x1.fNode),(.int .i64 x1.fTime)])] : List Value) ++ z4h).toArray w fun e w'=>e = .returned (.int .i64 r) ∧ Hp [] w w' [])
  (hown : Hp (fps [row (.slice z1U z29.length z1V) 50 3 (z29.flatMap e50)]) w₀ w₀ [row (.slice z1U z29.length z1V) 50 3 (z29.flatMap e50)]) :
  Calls Try.prog 57 #[(.slice z1U z29.length z1V),(.int .i64 z1s),(.func (.func z3I) #[] (z4h).toArray)] w₀ fun e w'=>e = .returned (.tuple #[]) ∧ (r.length = z29.length) ∧ Hp (fps [row (.slice z1U z29.length z1V) 50 3 (z29.flatMap e50)]) w₀ w' [row (.slice z1U r.length z1V) 50 3 (r.flatMap e50)]:=by
 unfold y27 at h
 refine Calls.yp (vs:=[(.slice z1U z29.length z1V),(.int .i64 z1s),(.func (.func z3I) #[] (z4h).toArray)]) (pre:=[row (.slice z1U z29.length z1V) 50 3 (z29.flatMap e50)]) (env:=[(0,(.slice z1U z29.length z1V)),(1,(.int .i64 z1s)),(2,(.func (.func z3I) #[] (z4h).toArray))]) Try.func57 rfl Try.ntmps57 rfl (hown) rfl ?_
 refine WC.b (WC.a (WL.pu rfl (WL.nil (WX.a (WC.b (WC.a (WL.pu rfl (WL.pu rfl (WL.pu rfl (WL.nil (WX.a ?_)))))))))))
 obtain ⟨z6B,zAT,h⟩:=y2s h
 refine WC.y2D (fun (z56 : List Sapi_Come) (z8r : Int)=>(z6B z56 z8r = some r) ∧ (z56.length = z29.length)) (fun (z56 : List Sapi_Come) (z8r : Int)=>[(0,(.slice z1U z56.length z1V)),(1,(.int .i64 z1s)),(2,(.func (.func z3I) #[] (z4h).toArray)),(6,(.int .i64 20)),(7,(.int .i64 z8r))]) (fun (z56 : List Sapi_Come) (z8r : Int)=>[row (.slice z1U z56.length z1V) 50 3 (z56.flatMap e50)]) ?_ ?_
 ·skip
  refine WC.block ?_
  refine WC.y5X (fun (zdS : Nat) (z4r : List Sapi_Come) (z66 : Int) (z4s : Int)=>(yZ z1s z1T z6B zdS z4r z66 z4s = some r) ∧ (z4r.length = z29.length)) (fun (zdS : Nat) (z4r : List Sapi_Come) (z66 : Int) (z4s : Int)=>[(0,(.slice z1U z4r.length z1V)),(1,(.int .i64 z1s)),(2,(.func (.func z3I) #[] (z4h).toArray)),(6,(.int .i64 20)),(7,(.int .i64 z66)),(8,(.int .i64 z4s))]) (fun (zdS : Nat) (z4r : List Sapi_Come) (z66 : Int) (z4s : Int)=>[row (.slice z1U z4r.length z1V) 50 3 (z4r.flatMap e50)]) (fun (zdS : Nat) (z4r : List Sapi_Come) (z66 : Int) (z4s : Int)=>zdS) ⟨yw,z29,0,20⟩ ⟨h,rfl⟩ (.cons rfl (.cons rfl (.cons rfl (.cons rfl (.cons rfl (.cons rfl .nil)))))) (.cons .here .nil) ?_
  rintro zdS z4r z66 z4s ⟨h,ztV⟩
  obtain ⟨zo9,rfl⟩:=y4z h
  rw [yZ] at h
  refine WC.b (WC.b (WC.a (WL.pu rfl (WL.pu rfl (WL.pu rfl (WL.nil (WX.a ?_)))))))
  refine WC.cond rfl (fun zod=>?_) (fun zod=>?_)
  ·replace h:=ym h zod
   refine WC.skip (WX.a (WC.block (WC.b ?_)))
   obtain ⟨zko,zAU,h⟩:=zg h
   refine WC.a (WL.pu rfl (WL.pu rfl (WL.pu rfl (WL.pu rfl ?_))))
   refine WL.y21 (dd:=18) rfl rfl rfl (zC (l:=[.tmp 14,.tmp 15,.tmp 16,.tmp 17]) Try.call66 (.cons rfl (.cons rfl (.cons rfl (.cons rfl .nil))))) (.cons .here .nil) (cc hz (.cons .here .nil) fun w pz ho=>y31 _ _ _ (z4J:=z3I) (z63:=z4h) _ _ _ (z3G:=z1T) _ zAU w pz zkq zkr ho) ?_
   rintro  ztW
   refine WL.repin (i:=0) rfl (u:=(.slice z1U zko.length z1V)) (y1W ztW.symm) ?_
   refine WL.nil (WX.a (WC.b (WC.a (WL.pu rfl (WL.pu rfl (WL.nil (WX.a (WC.a (WL.pu rfl (WL.pu rfl (WL.pu rfl (WL.pu rfl (WL.nil (WX.yk ?_))))))))))))))
   exact WX.round (G:=Nat × List Sapi_Come × Int × Int) ⟨zo9,zko,z4s,(i64 (z4s + 20))⟩ ⟨h,(ztW.trans ztV)⟩ (Nat.lt_succ_self _) (.cons rfl (.cons rfl (.cons rfl (.cons rfl (.cons rfl (.cons rfl .nil)))))) (.cons .here .nil)
  ·replace h:=yn h zod
   refine WC.exit (WX.yg (WX.yg (WX.yv ?_)))
   exact WX.mid (G:=List Sapi_Come × Int) ⟨z4r,z66⟩ ⟨h,ztV⟩ (.cons rfl (.cons rfl (.cons rfl (.cons rfl (.cons rfl .nil))))) (.cons .here .nil)
 ·rintro z56 z8r ⟨h,zAV⟩
  replace h:=(zAT z56 z8r).symm.trans h
  refine WC.b ?_
  obtain ⟨zdR,zAW,h⟩:=zg h
  refine WC.a (WL.pu rfl (WL.pu rfl (WL.pu rfl (WL.pu rfl ?_))))
  refine WL.y21 (dd:=27) rfl rfl rfl (zC (l:=[.tmp 23,.tmp 24,.tmp 25,.tmp 26]) Try.call66 (.cons rfl (.cons rfl (.cons rfl (.cons rfl .nil))))) (.cons .here .nil) (cc hz (.cons .here .nil) fun w pz ho=>y31 _ _ _ (z4J:=z3I) (z63:=z4h) _ _ _ (z3G:=z1T) _ zAW w pz zkq zkr ho) ?_
  rintro  ztX
  refine WL.repin (i:=0) rfl (u:=(.slice z1U zdR.length z1V)) (y1W ztX.symm) ?_
  refine WL.nil (WX.a ?_)
  obtain ⟨z6C,zAX,h⟩:=yU h
  refine WC.y5J (fun (z6a : List Sapi_Come)=>(z6C z6a = some r) ∧ (z6a.length = z29.length)) (fun (z6a : List Sapi_Come)=>[]) (fun (z6a : List Sapi_Come)=>[row (.slice z1U z6a.length z1V) 50 3 (z6a.flatMap e50)]) ?_ ?_
  ·skip
   refine WC.block ?_
   refine WC.y2F (fun (zdT : Nat) (z4g : List Sapi_Come) (z1Q : Int)=>(y10 z1s z1T z6C zdT z4g z1Q = some r) ∧ (z4g.length = z29.length)) (fun (zdT : Nat) (z4g : List Sapi_Come) (z1Q : Int)=>[(0,(.slice z1U z4g.length z1V)),(1,(.int .i64 z1s)),(2,(.func (.func z3I) #[] (z4h).toArray)),(6,(.int .i64 z1Q))]) (fun (zdT : Nat) (z4g : List Sapi_Come) (z1Q : Int)=>[row (.slice z1U z4g.length z1V) 50 3 (z4g.flatMap e50)]) (fun (zdT : Nat) (z4g : List Sapi_Come) (z1Q : Int)=>zdT) ⟨yw,zdR,20⟩ ⟨h,(ztX.trans zAV)⟩ (.cons rfl (.cons rfl (.cons rfl (.cons rfl .nil)))) (.cons .here .nil) ?_
   rintro zdT z4g z1Q ⟨h,ztY⟩
   obtain ⟨zob,rfl⟩:=y4B h
   rw [y10] at h
   refine WC.b (WC.b (WC.a (WL.pu rfl (WL.pu rfl (WL.pu rfl (WL.nil (WX.a ?_)))))))
   refine WC.cond rfl (fun zoe=>?_) (fun zoe=>?_)
   ·replace h:=ym h zoe
    refine WC.skip (WX.a ?_)
    obtain ⟨zoc,zAY,h⟩:=yU h
    refine WC.y5J (fun (z67 : List Sapi_Come)=>(zoc z67 = some r) ∧ (z67.length = z29.length)) (fun (z67 : List Sapi_Come)=>[(0,(.slice z1U z67.length z1V)),(1,(.int .i64 z1s)),(2,(.func (.func z3I) #[] (z4h).toArray)),(6,(.int .i64 (i64 (z1Q * 2))))]) (fun (z67 : List Sapi_Come)=>[row (.slice z1U z67.length z1V) 50 3 (z67.flatMap e50)]) ?_ ?_
    ·skip
     refine WC.block (WC.b (WC.a (WL.pu rfl (WL.pu rfl (WL.pu rfl (WL.pu rfl (WL.nil (WX.a ?_))))))))
     obtain ⟨z9t,zAZ,h⟩:=y2s h
     refine WC.y2D (fun (z4L : List Sapi_Come) (z68 : Int)=>(z9t z4L z68 = some r) ∧ (z4L.length = z29.length)) (fun (z4L : List Sapi_Come) (z68 : Int)=>[(0,(.slice z1U z4L.length z1V)),(1,(.int .i64 z1s)),(2,(.func (.func z3I) #[] (z4h).toArray)),(6,(.int .i64 z1Q)),(7,(.int .i64 z68))]) (fun (z4L : List Sapi_Come) (z68 : Int)=>[row (.slice z1U z4L.length z1V) 50 3 (z4L.flatMap e50)]) ?_ ?_
     ·skip
      refine WC.block ?_
      refine WC.y5X (fun (zdU : Nat) (z4e : List Sapi_Come) (z4t : Int) (z4f : Int)=>(y17 z1s z1Q z1T z9t zdU z4e z4t z4f = some r) ∧ (z4e.length = z29.length)) (fun (zdU : Nat) (z4e : List Sapi_Come) (z4t : Int) (z4f : Int)=>[(0,(.slice z1U z4e.length z1V)),(1,(.int .i64 z1s)),(2,(.func (.func z3I) #[] (z4h).toArray)),(6,(.int .i64 z1Q)),(7,(.int .i64 z4t)),(8,(.int .i64 z4f))]) (fun (zdU : Nat) (z4e : List Sapi_Come) (z4t : Int) (z4f : Int)=>[row (.slice z1U z4e.length z1V) 50 3 (z4e.flatMap e50)]) (fun (zdU : Nat) (z4e : List Sapi_Come) (z4t : Int) (z4f : Int)=>zdU) ⟨yw,z4g,0,(i64 (2 * z1Q))⟩ ⟨h,ztY⟩ (.cons rfl (.cons rfl (.cons rfl (.cons rfl (.cons rfl (.cons rfl .nil)))))) (.cons .here .nil) ?_
      rintro zdU z4e z4t z4f ⟨h,ztZ⟩
      obtain ⟨zoa,rfl⟩:=y4A h
      rw [y17] at h
      refine WC.b (WC.b (WC.a (WL.pu rfl (WL.pu rfl (WL.pu rfl (WL.nil (WX.a ?_)))))))
      refine WC.cond rfl (fun zof=>?_) (fun zof=>?_)
      ·replace h:=ym h zof
       refine WC.skip (WX.a (WC.block (WC.b ?_)))
       obtain ⟨zhO,zB0,h⟩:=zg h
       refine WC.a (WL.pu rfl (WL.pu rfl (WL.pu rfl (WL.pu rfl (WL.pu rfl (WL.pu rfl (WL.pu rfl ?_)))))))
       refine WL.y21 (dd:=43) rfl rfl rfl (zC (l:=[.tmp 36,.tmp 37,.tmp 40,.tmp 41,.tmp 42]) Try.call67 (.cons rfl (.cons rfl (.cons rfl (.cons rfl (.cons rfl .nil)))))) (.cons .here .nil) (cc hz (.cons .here .nil) fun w pz ho=>y3w (Z:=_) (z15:=z1U) (zR:=z1V) (z1I:=z3I) (z1X:=z4h) (z8:=z4e) (zs:=z4t) (zB:=(i64 (z4t + z1Q))) (zG:=z4f) (z1h:=z1T) (r:=zhO) w pz zkq zkr zB0 ho) ?_
       rintro  zu0
       refine WL.repin (i:=0) rfl (u:=(.slice z1U zhO.length z1V)) (y1W zu0.symm) ?_
       refine WL.nil (WX.a (WC.b (WC.a (WL.pu rfl (WL.pu rfl (WL.nil (WX.a (WC.a (WL.pu rfl (WL.pu rfl (WL.pu rfl (WL.pu rfl (WL.pu rfl (WL.nil (WX.yk ?_)))))))))))))))
       exact WX.round (G:=Nat × List Sapi_Come × Int × Int) ⟨zoa,zhO,z4f,(i64 (z4f + (i64 (2 * z1Q))))⟩ ⟨h,(zu0.trans ztZ)⟩ (Nat.lt_succ_self _) (.cons rfl (.cons rfl (.cons rfl (.cons rfl (.cons rfl (.cons rfl .nil)))))) (.cons .here .nil)
      ·replace h:=yn h zof
       refine WC.exit (WX.yg (WX.yg (WX.yv ?_)))
       exact WX.mid (G:=List Sapi_Come × Int) ⟨z4e,z4t⟩ ⟨h,ztZ⟩ (.cons rfl (.cons rfl (.cons rfl (.cons rfl (.cons rfl .nil))))) (.cons .here .nil)
     ·rintro z4L z68 ⟨h,zu1⟩
      replace h:=(zAZ z4L z68).symm.trans h
      obtain ⟨zkp,zB1,h⟩:=yU h
      refine WC.y1i (fun (z69 : List Sapi_Come)=>(zkp z69 = some r) ∧ (z69.length = z29.length)) (fun (z69 : List Sapi_Come)=>[(0,(.slice z1U z69.length z1V)),(1,(.int .i64 z1s)),(2,(.func (.func z3I) #[] (z4h).toArray)),(6,(.int .i64 z1Q))]) (fun (z69 : List Sapi_Come)=>[row (.slice z1U z69.length z1V) 50 3 (z69.flatMap e50)]) ?_ ?_
      ·skip
       refine WC.b (WC.a (WL.pu rfl (WL.pu rfl (WL.pu rfl (WL.pu rfl (WL.nil (WX.a (WC.b (WC.a (WL.pu rfl (WL.pu rfl (WL.pu rfl (WL.nil (WX.a ?_))))))))))))))
       refine WC.cond rfl (fun zog=>?_) (fun zog=>?_)
       ·replace h:=ym h zog
        obtain ⟨zhP,zB2,h⟩:=zg h
        refine WC.a (WL.pu rfl (WL.pu rfl (WL.pu rfl (WL.pu rfl (WL.pu rfl ?_)))))
        refine WL.y21 (dd:=60) rfl rfl rfl (zC (l:=[.tmp 55,.tmp 56,.tmp 57,.tmp 58,.tmp 59]) Try.call67 (.cons rfl (.cons rfl (.cons rfl (.cons rfl (.cons rfl .nil)))))) (.cons .here .nil) (cc hz (.cons .here .nil) fun w pz ho=>y3w (Z:=_) (z15:=z1U) (zR:=z1V) (z1I:=z3I) (z1X:=z4h) (z8:=z4L) (zs:=z68) (zB:=(i64 (z68 + z1Q))) (zG:=z1s) (z1h:=z1T) (r:=zhP) w pz zkq zkr zB2 ho) ?_
        rintro  zu2
        refine WL.repin (i:=0) rfl (u:=(.slice z1U zhP.length z1V)) (y1W zu2.symm) ?_
        refine WL.nil ?_
        exact WX.mid (G:=List Sapi_Come) zhP ⟨h,(zu2.trans zu1)⟩ (.cons rfl (.cons rfl (.cons rfl (.cons rfl .nil)))) (.cons .here .nil)
       ·replace h:=yn h zog
        refine WC.skip ?_
        exact WX.mid (G:=List Sapi_Come) z4L ⟨h,zu1⟩ (.cons rfl (.cons rfl (.cons rfl (.cons rfl .nil)))) (.cons .here .nil)
      ·rintro z69 ⟨h,zB3⟩
       replace h:=(zB1 z69).symm.trans h
       refine WC.a (WL.pu rfl (WL.pu rfl (WL.pu rfl (WL.nil (WX.yk ?_)))))
       exact WX.mid (G:=List Sapi_Come) z69 ⟨h,zB3⟩ (.cons rfl (.cons rfl (.cons rfl (.cons rfl .nil)))) (.cons .here .nil)
    ·rintro z67 ⟨h,zB4⟩
     replace h:=(zAY z67).symm.trans h
     exact WX.round (G:=Nat × List Sapi_Come × Int) ⟨zob,z67,(i64 (z1Q * 2))⟩ ⟨h,zB4⟩ (Nat.lt_succ_self _) (.cons rfl (.cons rfl (.cons rfl (.cons rfl .nil)))) (.cons .here .nil)
   ·replace h:=yn h zoe
    refine WC.exit (WX.yg (WX.yg (WX.yv ?_)))
    exact WX.mid (G:=List Sapi_Come) z4g ⟨h,ztY⟩ .nil (.cons .here .nil)
  ·rintro z6a ⟨h,zB5⟩
   replace h:=(zAX z6a).symm.trans h
   obtain rfl:=Option.some.inj h
   refine WX.y29 Try.results57 .nil (fun w hw=>?_)
   exact ⟨y4X,zB5,hw.sub (.cons .here .nil)⟩
def y1d (z3J : List Sapi_Come) (zdV : Sapi_Come → Sapi_Come → Option Int) : Option (List Sapi_Come) :=
 (y27 z3J ((z3J.length : Nat) : Int) zdV).bind fun zks=>some zks
set_option maxRecDepth 20000 in
theorem y4p (Z : Zp) (z6D : Option Addr) (z6E : Nat) (zaq : FuncId) (zdW : List Value) (z3J : List Sapi_Come) (zdV : Sapi_Come → Sapi_Come → Option Int) (r : List Sapi_Come)
  (h : y1d z3J zdV = some r) (w₀ : World) (hz : PZ (fps [row (.slice z6D z3J.length z6E) 50 3 (z3J.flatMap e50)]) w₀ Z)
  (zB6 : ∀ args w,(callFunc zaq args).run Try.prog w = .ok (.enter zaq args) w)
  (zB7 : ∀ w : World,PZ [] w Z → ∀ (x0 : Sapi_Come) (x1 : Sapi_Come) (r : Int),zdV x0 x1 = some r → Calls Try.prog zaq (([(.agg #[(.int .i64 x0.fSent),(.int .i64 x0.fNode),(.int .i64 x0.fTime)]),(.agg #[(.int .i64 x1.fSent),(.int .i64 x1.fNode),(.int .i64 x1.fTime)])] : List Value) ++ zdW).toArray w fun e w'=>e = .returned (.int .i64 r) ∧ Hp [] w w' [])
  (hown : Hp (fps [row (.slice z6D z3J.length z6E) 50 3 (z3J.flatMap e50)]) w₀ w₀ [row (.slice z6D z3J.length z6E) 50 3 (z3J.flatMap e50)]) :
  Calls Try.prog 42 #[(.slice z6D z3J.length z6E),(.func (.func zaq) #[] (zdW).toArray)] w₀ fun e w'=>e = .returned (.tuple #[]) ∧ (r.length = z3J.length) ∧ Hp (fps [row (.slice z6D z3J.length z6E) 50 3 (z3J.flatMap e50)]) w₀ w' [row (.slice z6D r.length z6E) 50 3 (r.flatMap e50)]:=by
 unfold y1d at h
 refine Calls.yp (vs:=[(.slice z6D z3J.length z6E),(.func (.func zaq) #[] (zdW).toArray)]) (pre:=[row (.slice z6D z3J.length z6E) 50 3 (z3J.flatMap e50)]) (env:=[(0,(.slice z6D z3J.length z6E)),(1,(.func (.func zaq) #[] (zdW).toArray))]) Try.func42 rfl Try.ntmps42 rfl (hown) rfl ?_
 obtain ⟨zks,zB8,h⟩:=zg h
 refine WC.a (WL.pu rfl (WL.pu rfl ?_))
 refine WL.a (d:=6) rfl rfl rfl (yz Try.underlying36 rfl) ?_
 refine WL.pu rfl ?_
 refine WL.y21 (dd:=8) rfl rfl rfl (zC (l:=[.tmp 4,.tmp 6,.tmp 7]) Try.call57 (.cons rfl (.cons rfl (.cons rfl .nil)))) (.cons .here .nil) (cc hz (.cons .here .nil) fun w pz ho=>y58 _ _ _ (z3I:=zaq) (z4h:=zdW) _ _ (z1T:=zdV) _ zB8 w pz zB6 zB7 ho) ?_
 rintro  zoh
 refine WL.repin (i:=0) rfl (u:=(.slice z6D zks.length z6E)) (y1W zoh.symm) ?_
 refine WL.repin (i:=5) rfl (u:=(.slice z6D zks.length z6E)) (y1W zoh.symm) ?_
 refine WL.nil ?_
 obtain rfl:=Option.some.inj h
 refine WX.y29 Try.results42 .nil (fun w hw=>?_)
 exact ⟨y4X,(zoh.trans rfl),hw.sub (.cons .here .nil)⟩
def y1t (z3Y : List Sapi_Come) : Option (List Sapi_Come) :=
 (y1d z3Y (fun (y0 : Sapi_Come) (y1 : Sapi_Come)=>y2P y0 y1)).bind fun zoi=>some zoi
set_option maxRecDepth 20000 in
theorem y66 (Z : Zp) (z6F : Option Addr) (z6G : Nat) (z3Y : List Sapi_Come) (r : List Sapi_Come)
  (h : y1t z3Y = some r) (w₀ : World) (hz : PZ (fps [row (.slice z6F z3Y.length z6G) 50 3 (z3Y.flatMap e50)]) w₀ Z)
  (hown : Hp (fps [row (.slice z6F z3Y.length z6G) 50 3 (z3Y.flatMap e50)]) w₀ w₀ [row (.slice z6F z3Y.length z6G) 50 3 (z3Y.flatMap e50)]) :
  Calls Try.prog 27 #[(.slice z6F z3Y.length z6G)] w₀ fun e w'=>e = .returned (.slice z6F r.length z6G) ∧ (r.length = z3Y.length) ∧ Hp (fps [row (.slice z6F z3Y.length z6G) 50 3 (z3Y.flatMap e50)]) w₀ w' [row (.slice z6F r.length z6G) 50 3 (r.flatMap e50)]:=by
 unfold y1t at h
 refine Calls.yp (vs:=[(.slice z6F z3Y.length z6G)]) (pre:=[row (.slice z6F z3Y.length z6G) 50 3 (z3Y.flatMap e50)]) (env:=[(0,(.slice z6F z3Y.length z6G))]) Try.func27 rfl Try.ntmps27 rfl (hown) rfl ?_
 refine WC.b (WC.a (WL.pu rfl (WL.nil (WX.a (WC.b ?_)))))
 obtain ⟨zoi,zB9,h⟩:=zg h
 refine WC.a (WL.pu rfl ?_)
 refine WL.y21 (dd:=4) rfl rfl rfl (zC (l:=[.tmp 3,.func 43]) Try.call42 (.cons rfl (.cons rfl .nil))) (.cons .here .nil) (cc hz (.cons .here .nil) fun w pz ho=>y4p _ _ _ (zaq:=43) (zdW:=[]) _ (zdV:=(fun (y0 : Sapi_Come) (y1 : Sapi_Come)=>y2P y0 y1)) _ zB9 w pz Try.call43 (fun w' hz' y0 y1  r  hr=>y7G _ _ _ _ hr w' hz' ) ho) ?_
 rintro  zu3
 refine WL.repin (i:=0) rfl (u:=(.slice z6F zoi.length z6G)) (y1W zu3.symm) ?_
 refine WL.nil (WX.a (WC.b (WC.a (WL.pu rfl (WL.pu rfl (WL.nil (WX.a (WC.ret ?_))))))))
 obtain rfl:=Option.some.inj h
 refine WX.yi Try.results27 (.tmp rfl .nil) (fun w hw=>?_)
 exact ⟨yM rfl,(zu3.trans rfl),hw.sub (.cons .here .nil)⟩
def y2H (z1l : List zSt) (z1E : List (List Sapi_Hop)) (zj : Sapi_Config) (z9u : (List Snetwork_event) → Option (List Sapi_Come × List Sapi_Come × Int)) : Nat → Int → (List Snetwork_event) → Option (List Sapi_Come × List Sapi_Come × Int)
 | 0,_,_=>none
 | zoj + 1,z2A,z4i=>if decide (z2A < ((z1l.length : Nat) : Int)) then jp1 (fun (z6H : List Snetwork_event)=>y2H z1l z1E zj z9u zoj (i64 (z2A + 1)) z6H) fun zkt=>chk ((0 : Int) ≤ z2A ∧ z2A < ((z1l.length : Nat) : Int)) (chk ((0 : Int) ≤ ((nth z1l z2A).fVL) ∧ ((nth z1l z2A).fVL) < ((z1E.length : Nat) : Int)) (if decide ((((nth z1E ((nth z1l z2A).fVL)).length : Nat) : Int) > 0) then chk ((0 : Int) ≤ 0 ∧ 0 < (((nth z1E ((nth z1l z2A).fVL)).length : Nat) : Int)) ((y2z zj z1E z1l ([] : List (Snetwork_exit × Sport_Port)) z4i [] [] ((nth (nth z1E ((nth z1l z2A).fVL)) 0).fNode) ((nth z1l z2A).fTime) (-1) z2A).bind fun zol=>zkt zol) else zkt z4i)) else z9u z4i
theorem y6J {n : Nat} {z1l : List zSt} {z1E : List (List Sapi_Hop)} {zj : Sapi_Config} {z9u : (List Snetwork_event) → Option (List Sapi_Come × List Sapi_Come × Int)} {z2A : Int} {z4i : List Snetwork_event} {r : List Sapi_Come × List Sapi_Come × Int} (h : y2H z1l z1E zj z9u n z2A z4i = some r) : ∃ m,n = m + 1:=by
 cases n with
 | zero=>cases h
 | succ m=>exact ⟨m,rfl⟩
def y2I (zj : Sapi_Config) (z1E : List (List Sapi_Hop)) (z1l : List zSt) (z9v : (List Snetwork_event) → (List Sapi_Come) → (List Sapi_Come) → (List (Snetwork_exit × Sport_Port)) → Option (List Sapi_Come × List Sapi_Come × Int)) : Nat → (List Snetwork_event) → (List Sapi_Come) → (List Sapi_Come) → (List (Snetwork_exit × Sport_Port)) → Option (List Sapi_Come × List Sapi_Come × Int)
 | 0,_,_,_,_=>none
 | zom + 1,z4u,z4M,z4N,z6b=>if decide (((z4u.length : Nat) : Int) > 0) then (y3d zj z1E z1l z6b z4u z4M z4N).bind fun z9w=>y2I zj z1E z1l z9v zom z9w.1 z9w.2.1 z9w.2.2.1 z9w.2.2.2 else z9v z4u z4M z4N z6b
theorem y6K {n : Nat} {zj : Sapi_Config} {z1E : List (List Sapi_Hop)} {z1l : List zSt} {z9v : (List Snetwork_event) → (List Sapi_Come) → (List Sapi_Come) → (List (Snetwork_exit × Sport_Port)) → Option (List Sapi_Come × List Sapi_Come × Int)} {z4u : List Snetwork_event} {z4M : List Sapi_Come} {z4N : List Sapi_Come} {z6b : List (Snetwork_exit × Sport_Port)} {r : List Sapi_Come × List Sapi_Come × Int} (h : y2I zj z1E z1l z9v n z4u z4M z4N z6b = some r) : ∃ m,n = m + 1:=by
 cases n with
 | zero=>cases h
 | succ m=>exact ⟨m,rfl⟩
def y2m (zj : Sapi_Config) (zdX : Int) (z1E : List (List Sapi_Hop)) (z1l : List zSt) : Option (List Sapi_Come × List Sapi_Come × Int) :=
 (y3i zj zdX z1E).bind fun zu4=>if !zu4 then some (([] : List Sapi_Come),([] : List Sapi_Come),310) else (y3J zj z1l).bind fun zu5=>if !zu5 then some (([] : List Sapi_Come),([] : List Sapi_Come),311) else jp1 (fun (z6I : List Snetwork_event)=>jp4 (fun (z9x : List Snetwork_event) (z8s : List Sapi_Come) (z6J : List Sapi_Come) (zc2 : List (Snetwork_exit × Sport_Port))=>(y1t z8s).bind fun zu6=>(y1t z6J).bind fun zu7=>some (zu6,zu7,0)) fun z9v=>y2I zj z1E z1l z9v yw z6I ([] : List Sapi_Come) ([] : List Sapi_Come) ([] : List (Snetwork_exit × Sport_Port))) fun z9u=>y2H z1l z1E zj z9u yw 0 ([] : List Snetwork_event)
set_option maxRecDepth 20000 in
theorem y7j (Z : Zp) (z57 : Option Addr) (z58 : Nat) (z59 : Option Addr) (z5a : Nat) (z5b : Option Addr) (z5c : Nat) (z5d : Option Addr) (z5e : Nat) (z5f : Option Addr) (z5g : Nat) (z5h : Option Addr) (z5i : Nat) (z5j : Option Addr) (z5k : Nat) (z5l : Option Addr) (z5m : Nat) (z5n : Option Addr) (z5o : Nat) (z5p : Option Addr) (z5q : Nat) (zj : Sapi_Config) (zdX : Int) (z1E : List (List Sapi_Hop)) (z1l : List zSt) (r : List Sapi_Come × List Sapi_Come × Int)
  (h : y2m zj zdX z1E z1l = some r) (w₀ : World) (hz : PZ [] w₀ Z)
  (zku : ZS Z 4 (y2i Z) z57 z58 zj.fModules)
  (zkv : ZS Z 4 (y2R Z) z59 z5a zj.fChannels)
  (zkw : ZS Z 4 (fun r x=>r = e64 x) z5b z5c zj.fSwitches)
  (zkx : ZS Z 4 (fun r x=>r = e62 x) z5d z5e zj.fLinks)
  (zky : ZS Z 7 (y2A Z) z5f z5g zj.fVLs)
  (zkz : ZS Z 5 (fun r x=>r = y2T x) z5h z5i zj.fHealth)
  (zkA : ZS Z 3 (y2S Z) z5j z5k zj.fCauses)
  (zkB : ZS Z 4 (fun r x=>r = y2U x) z5l z5m zj.fVersions)
  (zkC : ZS Z 1 (p55 Z) z5n z5o z1E)
  (zkD : ZS Z 3 (fun r x=>r = e53 x) z5p z5q z1l) :
  Calls Try.prog 12 #[(.agg #[(.slice z57 zj.fModules.length z58),(.slice z59 zj.fChannels.length z5a),(.slice z5b zj.fSwitches.length z5c),(.slice z5d zj.fLinks.length z5e),(.slice z5f zj.fVLs.length z5g),(.slice z5h zj.fHealth.length z5i),(.slice z5j zj.fCauses.length z5k),(.slice z5l zj.fVersions.length z5m)]),(.int .i64 zdX),(.slice z5n z1E.length z5o),(.slice z5p z1l.length z5q)] w₀ fun e w'=>∃ zu8 : Option Addr,∃ zu9 : Nat,∃ zua : Option Addr,∃ zub : Nat,e = .returned (.tuple #[(.slice zu8 r.1.length zu9),(.slice zua r.2.1.length zub),(.int .i64 r.2.2)]) ∧ True ∧ Hp [] w₀ w' [row (.slice zu8 r.1.length zu9) 50 3 (r.1.flatMap e50),row (.slice zua r.2.1.length zub) 50 3 (r.2.1.flatMap e50)]:=by
 unfold y2m at h
 refine Calls.yp (vs:=[(.agg #[(.slice z57 zj.fModules.length z58),(.slice z59 zj.fChannels.length z5a),(.slice z5b zj.fSwitches.length z5c),(.slice z5d zj.fLinks.length z5e),(.slice z5f zj.fVLs.length z5g),(.slice z5h zj.fHealth.length z5i),(.slice z5j zj.fCauses.length z5k),(.slice z5l zj.fVersions.length z5m)]),(.int .i64 zdX),(.slice z5n z1E.length z5o),(.slice z5p z1l.length z5q)]) (pre:=[]) (env:=[(0,(.agg #[(.slice z57 zj.fModules.length z58),(.slice z59 zj.fChannels.length z5a),(.slice z5b zj.fSwitches.length z5c),(.slice z5d zj.fLinks.length z5e),(.slice z5f zj.fVLs.length z5g),(.slice z5h zj.fHealth.length z5i),(.slice z5j zj.fCauses.length z5k),(.slice z5l zj.fVersions.length z5m)])),(1,(.int .i64 zdX)),(2,(.slice z5n z1E.length z5o)),(3,(.slice z5p z1l.length z5q))]) Try.func12 rfl Try.ntmps12 rfl (Hp.nil w₀ _) rfl ?_
 refine WC.b (WC.a ?_)
 refine WL.new (dd:=4) rfl rfl rfl (y1N (cs:=[(.slice z57 zj.fModules.length z58),(.slice z59 zj.fChannels.length z5a),(.slice z5b zj.fSwitches.length z5c),(.slice z5d zj.fLinks.length z5e),(.slice z5f zj.fVLs.length z5g),(.slice z5h zj.fHealth.length z5i),(.slice z5j zj.fCauses.length z5k),(.slice z5l zj.fVersions.length z5m)]) rfl rfl) ?_
 intro zBa _
 refine WL.pu rfl (WL.pu rfl (WL.pu rfl (WL.nil (WX.a (WC.b (WC.block (WC.b ?_)))))))
 obtain ⟨zu4,zBb,h⟩:=zg h
 refine WC.a ?_
 refine WL.a (d:=16) rfl rfl rfl (yx y1f rfl (yQ .here) rfl) ?_
 refine WL.pu rfl (WL.pu rfl ?_)
 refine WL.b (dd:=19) rfl rfl rfl (zC (l:=[.tmp 16,.tmp 17,.tmp 18]) Try.call15 (.cons rfl (.cons rfl (.cons rfl .nil)))) .nil (cc hz .nil fun w pz ho=>y6g _ _ _ _ _ _ _ _ _ _ _ _ _ _ _ _ _ _ _ _ _ _ _ zBb w pz zku zkv zkw zkx zky zkz zkA zkB zkC) ?_
 refine WL.pu rfl (WL.pu rfl (WL.nil (WX.a ?_)))
 refine WC.cond rfl (fun zon=>?_) (fun zon=>?_)
 ·replace h:=ym h zon
  refine WC.b (WC.a (WL.pu rfl (WL.pu rfl (WL.pu rfl (WL.nil (WX.a (WC.ret (WX.yH (WX.yj ?_)))))))))
  refine WX.nilRow 50 3 ?_
  refine WX.nilRow 50 3 ?_
  obtain rfl:=Option.some.inj h
  refine WX.yi Try.results12 (.tmp rfl (.tmp rfl (.tmp rfl .nil))) (fun w hw=>?_)
  exact ⟨none,0,none,0,ret3 rfl rfl rfl,trivial,hw.sub (.cons .h1 (.cons .here .nil))⟩
 ·replace h:=yn h zon
  refine WC.b ?_
  obtain ⟨zu5,zBc,h⟩:=zg h
  refine WC.a ?_
  refine WL.a (d:=22) rfl rfl rfl (yx y1f rfl (yQ .here) rfl) ?_
  refine WL.pu rfl ?_
  refine WL.b (dd:=24) rfl rfl rfl (zC (l:=[.tmp 22,.tmp 23]) Try.call24 (.cons rfl (.cons rfl .nil))) .nil (cc hz .nil fun w pz ho=>y89 _ _ _ _ _ _ _ _ _ _ _ _ _ _ _ _ _ _ _ _ _ _ zBc w pz zku zkv zkw zkx zky zkz zkA zkB zkD) ?_
  refine WL.pu rfl (WL.pu rfl (WL.nil (WX.a ?_)))
  refine WC.cond rfl (fun zoo=>?_) (fun zoo=>?_)
  ·replace h:=ym h zoo
   refine WC.b (WC.a (WL.pu rfl (WL.pu rfl (WL.pu rfl (WL.nil (WX.a (WC.ret (WX.yH (WX.yj ?_)))))))))
   refine WX.nilRow 50 3 ?_
   refine WX.nilRow 50 3 ?_
   obtain rfl:=Option.some.inj h
   refine WX.yi Try.results12 (.tmp rfl (.tmp rfl (.tmp rfl .nil))) (fun w hw=>?_)
   exact ⟨none,0,none,0,ret3 rfl rfl rfl,trivial,hw.sub (.cons .h1 (.cons .here .nil))⟩
  ·replace h:=yn h zoo
   refine WC.skip (WX.yk (WX.a (WC.b (WC.a ?_))))
   refine WL.a (d:=26) rfl rfl rfl (yx y1f rfl (yQ .here) rfl) ?_
   refine WL.pu rfl (WL.pu rfl ?_)
   refine WL.new (dd:=29) rfl rfl rfl (y98 (fun x=>Value.agg (y26 x).toArray) Value.pointer) ?_
   intro z5r _
   refine WL.ghL (M:=[y1D z1v ([] : List (Snetwork_exit × ((Nat × (Option Addr × Nat)) × Sport_Port))),y1s z5r (fun x=>Value.agg (y26 x).toArray) Value.pointer (y1F ([] : List (Snetwork_exit × ((Nat × (Option Addr × Nat)) × Sport_Port)))),stb zBa 31 [(.slice z57 zj.fModules.length z58),(.slice z59 zj.fChannels.length z5a),(.slice z5b zj.fSwitches.length z5c),(.slice z5d zj.fLinks.length z5e),(.slice z5f zj.fVLs.length z5g),(.slice z5h zj.fHealth.length z5i),(.slice z5j zj.fCauses.length z5k),(.slice z5l zj.fVersions.length z5m)]]) (fun _ h=>Hp.yaS z1v h) ?_
   refine WL.a (d:=30) rfl rfl rfl (y1n (v:=(.agg #[(.slice z57 zj.fModules.length z58),(.slice z59 zj.fChannels.length z5a),(.slice z5b zj.fSwitches.length z5c),(.slice z5d zj.fLinks.length z5e),(.slice z5f zj.fVLs.length z5g),(.slice z5h zj.fHealth.length z5i),(.slice z5j zj.fCauses.length z5k),(.slice z5l zj.fVersions.length z5m),(.slice z5n z1E.length z5o),(.slice z5p z1l.length z5q),(.map (some z5r)),(.slice none 0 0),(.slice none 0 0),(.slice none 0 0)])) (Eos.parts (l:=[.tmp 26,.tmp 27,.tmp 28,.tmp 29]) (.cons rfl (.cons rfl (.cons rfl (.cons rfl .nil)))) [0,1,2,3]) (fun _=>by kernel_rfl)) ?_
   refine WL.new (dd:=31) rfl rfl rfl (y1N (cs:=[(.slice z57 zj.fModules.length z58),(.slice z59 zj.fChannels.length z5a),(.slice z5b zj.fSwitches.length z5c),(.slice z5d zj.fLinks.length z5e),(.slice z5f zj.fVLs.length z5g),(.slice z5h zj.fHealth.length z5i),(.slice z5j zj.fCauses.length z5k),(.slice z5l zj.fVersions.length z5m),(.slice z5n z1E.length z5o),(.slice z5p z1l.length z5q),(.map (some z5r)),(.slice none 0 0),(.slice none 0 0),(.slice none 0 0)]) rfl rfl) ?_
   intro z6K _
   refine WL.pu rfl (WL.nil (WX.a ?_))
   obtain ⟨z9u,zBd,h⟩:=yU h
   refine WC.y3r (fun (z6I : List Snetwork_event) (zdY : Option Addr) (zdZ : Nat)=>(z9u z6I = some r)) (fun (z6I : List Snetwork_event) (zdY : Option Addr) (zdZ : Nat)=>[(11,(.pointer (some ⟨z6K,0,none⟩)))]) (fun (z6I : List Snetwork_event) (zdY : Option Addr) (zdZ : Nat)=>[stb z6K 81 [(.slice z57 zj.fModules.length z58),(.slice z59 zj.fChannels.length z5a),(.slice z5b zj.fSwitches.length z5c),(.slice z5d zj.fLinks.length z5e),(.slice z5f zj.fVLs.length z5g),(.slice z5h zj.fHealth.length z5i),(.slice z5j zj.fCauses.length z5k),(.slice z5l zj.fVersions.length z5m),(.slice z5n z1E.length z5o),(.slice z5p z1l.length z5q),(.map (some z5r)),(.slice zdY z6I.length zdZ),(.slice none 0 0),(.slice none 0 0)],row (.slice zdY z6I.length zdZ) 113 7 (z6I.flatMap yF),y1s z5r (fun x=>Value.agg (y26 x).toArray) Value.pointer (y1F ([] : List (Snetwork_exit × ((Nat × (Option Addr × Nat)) × Sport_Port)))),y1D z1v ([] : List (Snetwork_exit × ((Nat × (Option Addr × Nat)) × Sport_Port)))]) ?_ ?_
   ·skip
    refine WC.b (WC.a (WL.pu rfl ?_))
    refine WL.a (d:=33) rfl rfl rfl (yz Try.underlying33 rfl) ?_
    refine WL.pu rfl (WL.nil (WX.a (WC.block ?_)))
    refine WC.nilRow 113 7 ?_
    refine WC.y5Y (fun (ze0 : Nat) (z2A : Int) (z4i : List Snetwork_event) (zar : Option Addr) (zas : Nat)=>(y2H z1l z1E zj z9u ze0 z2A z4i = some r)) (fun (ze0 : Nat) (z2A : Int) (z4i : List Snetwork_event) (zar : Option Addr) (zas : Nat)=>[(2,(.slice z5n z1E.length z5o)),(11,(.pointer (some ⟨z6K,0,none⟩))),(32,(.slice z5p z1l.length z5q)),(33,(.int .i64 ((z1l.length : Nat) : Int))),(34,(.int .i64 z2A))]) (fun (ze0 : Nat) (z2A : Int) (z4i : List Snetwork_event) (zar : Option Addr) (zas : Nat)=>[stb z6K 81 [(.slice z57 zj.fModules.length z58),(.slice z59 zj.fChannels.length z5a),(.slice z5b zj.fSwitches.length z5c),(.slice z5d zj.fLinks.length z5e),(.slice z5f zj.fVLs.length z5g),(.slice z5h zj.fHealth.length z5i),(.slice z5j zj.fCauses.length z5k),(.slice z5l zj.fVersions.length z5m),(.slice z5n z1E.length z5o),(.slice z5p z1l.length z5q),(.map (some z5r)),(.slice zar z4i.length zas),(.slice none 0 0),(.slice none 0 0)],row (.slice zar z4i.length zas) 113 7 (z4i.flatMap yF),y1s z5r (fun x=>Value.agg (y26 x).toArray) Value.pointer (y1F ([] : List (Snetwork_exit × ((Nat × (Option Addr × Nat)) × Sport_Port)))),y1D z1v ([] : List (Snetwork_exit × ((Nat × (Option Addr × Nat)) × Sport_Port)))]) (fun (ze0 : Nat) (z2A : Int) (z4i : List Snetwork_event) (zar : Option Addr) (zas : Nat)=>ze0) ⟨yw,0,([] : List Snetwork_event),none,0⟩ h (.cons rfl (.cons rfl (.cons rfl (.cons rfl (.cons rfl .nil))))) (.cons .h1 (.cons .here (.cons .h1 (.cons .here .nil)))) ?_
    rintro ze0 z2A z4i zar zas h
    obtain ⟨zoj,rfl⟩:=y6J h
    rw [y2H] at h
    refine WC.b (WC.a (WL.pu rfl (WL.nil (WX.a (WC.b ?_)))))
    refine WC.cond rfl (fun zop=>?_) (fun zop=>?_)
    ·replace h:=ym h zop
     refine WC.skip (WX.a ?_)
     obtain ⟨zkt,zBe,h⟩:=yU h
     refine WC.y3r (fun (z6H : List Snetwork_event) (ze1 : Option Addr) (ze2 : Nat)=>(zkt z6H = some r)) (fun (z6H : List Snetwork_event) (ze1 : Option Addr) (ze2 : Nat)=>[(2,(.slice z5n z1E.length z5o)),(11,(.pointer (some ⟨z6K,0,none⟩))),(32,(.slice z5p z1l.length z5q)),(33,(.int .i64 ((z1l.length : Nat) : Int))),(34,(.int .i64 z2A))]) (fun (z6H : List Snetwork_event) (ze1 : Option Addr) (ze2 : Nat)=>[stb z6K 81 [(.slice z57 zj.fModules.length z58),(.slice z59 zj.fChannels.length z5a),(.slice z5b zj.fSwitches.length z5c),(.slice z5d zj.fLinks.length z5e),(.slice z5f zj.fVLs.length z5g),(.slice z5h zj.fHealth.length z5i),(.slice z5j zj.fCauses.length z5k),(.slice z5l zj.fVersions.length z5m),(.slice z5n z1E.length z5o),(.slice z5p z1l.length z5q),(.map (some z5r)),(.slice ze1 z6H.length ze2),(.slice none 0 0),(.slice none 0 0)],row (.slice ze1 z6H.length ze2) 113 7 (z6H.flatMap yF),y1s z5r (fun x=>Value.agg (y26 x).toArray) Value.pointer (y1F ([] : List (Snetwork_exit × ((Nat × (Option Addr × Nat)) × Sport_Port)))),y1D z1v ([] : List (Snetwork_exit × ((Nat × (Option Addr × Nat)) × Sport_Port)))]) ?_ ?_
     ·skip
      refine WC.block (WC.b ?_)
      obtain ⟨zBf,h⟩:=ye h
      refine WC.a (WL.pu rfl ?_)
      refine WL.znth (dd:=37) rfl rfl (Z:=Z) (Pr:=(fun r x=>r = e53 x)) y2M rfl rfl zkD zBf ?_
      rintro zJU zJV zBg zJW rfl
      refine WL.a (d:=38) rfl rfl rfl (yx yat rfl (y4t hz.pv zBg) rfl) ?_
      refine WL.new (dd:=13) rfl rfl rfl (y28 (cs:=[(.int .i64 0),(.int .i64 0),(.int .i64 0)]) y9M rfl) ?_
      intro zJX _
      refine WL.pu rfl ?_
      refine WL.y1e rfl rfl (y1z yau rfl rfl rfl .here rfl rfl rfl) ?_
      refine WL.nil (WX.a (WC.b ?_))
      obtain ⟨zBh,h⟩:=ye h
      refine WC.a (WL.pu rfl ?_)
      refine WL.a (d:=40) rfl rfl rfl (ya y4G rfl rfl) ?_
      refine WL.a (d:=41) rfl rfl rfl (yb yd rfl (yc .here rfl)) ?_
      refine WL.znth (dd:=42) rfl rfl (Z:=Z) (Pr:=(p55 Z)) y5f rfl rfl zkC zBh ?_
      rintro zJY zJZ zBi zK0 ⟨zK1,zK2,rfl,zBj⟩
      refine WL.a (d:=43) rfl rfl rfl (yb y53 rfl (y4R hz.pv zBi rfl)) ?_
      refine WL.pu rfl (WL.nil (WX.a (WC.b (WC.a (WL.pu rfl ?_)))))
      refine WL.a (d:=45) rfl rfl rfl (yz Try.underlying55 rfl) ?_
      refine WL.pu rfl (WL.nil (WX.a ?_))
      refine WC.cond rfl (fun zoq=>?_) (fun zoq=>?_)
      ·replace h:=ym h zoq
       obtain ⟨zBk,h⟩:=ye h
       obtain ⟨zol,zBl,h⟩:=zg h
       refine WC.yI (fun i=>[8].contains i) [] rfl ?_
       refine WD.a (i:=0) (d:=47) (by kernel_rfl) rfl z2 z3 rfl rfl rfl (fun _=>q_m rfl) ?_
       refine WD.a (i:=1) (d:=48) (by kernel_rfl) rfl z2 z3 rfl rfl rfl (fun _=>q_m rfl) ?_
       refine WD.znth (j:=2) (dd:=49) (by kernel_rfl) rfl z2 z3 rfl rfl (Z:=Z) (Pr:=(fun r x=>r = e59 x)) y2p rfl rfl zBj zBk ?_
       rintro zK3 zK4 zBm zK5 rfl
       refine WD.a (i:=3) (d:=50) (by kernel_rfl) rfl z2 z3 rfl rfl rfl (fun _=>ya y1E rfl rfl) ?_
       refine WD.e (i:=4) (d:=51) (by kernel_rfl) rfl z2 z3 rfl rfl rfl (yb yd rfl (yD hz.pv zBm rfl)) ?_
       refine WD.a (i:=5) (d:=52) (by kernel_rfl) rfl z2 z3 rfl rfl rfl (fun _=>ya y4F rfl rfl) ?_
       refine WD.e (i:=6) (d:=53) (by kernel_rfl) rfl z2 z3 rfl rfl rfl (yb yd rfl (yc .here rfl)) ?_
       refine WD.a (i:=7) (d:=54) (by kernel_rfl) rfl z2 z3 rfl rfl rfl (fun _=>q_m rfl) ?_
       refine WD.call2 (i:=8) (dd:=55) rfl (by kernel_rfl) rfl rfl rfl (.inl ⟨rfl,fun _ _=>(Sin.of .nil)⟩) (zC (l:=[.tmp 47,.tmp 51,.tmp 53,.const (.int .i64 (-1)),.tmp 54]) Try.call25 (.cons rfl (.cons rfl (.cons rfl (.cons rfl (.cons rfl .nil)))))) (.cons .h1 (.cons .h2 (.cons .h2 (.cons .h1 .nil)))) (cc hz (.cons .h1 (.cons .h2 (.cons .h2 (.cons .h1 .nil)))) fun w pz ho=>y5n _ _ _ _ _ _ _ _ _ _ _ _ _ _ _ _ _ _ _ _ _ _ _ _ _ _ _ _ _ _ _ _ _ _ _ _ _ _ _ _ _ _ zBl w pz zku zkv zkw zkx zky zkz zkA zkB zkC zkD rfl (ZS.nil _ _ _) (ZS.nil _ _ _) ho) ?_
       rintro zBn zBo _
       refine WD.done (by kernel_rfl) ?_
       refine WX.yk ?_
       exact WX.mid (G:=List Snetwork_event × Option Addr × Nat) ⟨zol,zBn,zBo⟩ h (.cons rfl (.cons rfl (.cons rfl (.cons rfl (.cons rfl .nil))))) (.cons .here (.cons .here (.cons .here (.cons .here .nil))))
      ·replace h:=yn h zoq
       refine WC.skip (WX.yk ?_)
       exact WX.mid (G:=List Snetwork_event × Option Addr × Nat) ⟨z4i,zar,zas⟩ h (.cons rfl (.cons rfl (.cons rfl (.cons rfl (.cons rfl .nil))))) (.cons .h1 (.cons .h1 (.cons .h1 (.cons .h1 .nil))))
     ·rintro z6H ze1 ze2 h
      replace h:=(zBe z6H).symm.trans h
      refine WC.a (WL.pu rfl (WL.pu rfl (WL.nil ?_)))
      exact WX.round (G:=Nat × Int × List Snetwork_event × Option Addr × Nat) ⟨zoj,(i64 (z2A + 1)),z6H,ze1,ze2⟩ h (Nat.lt_succ_self _) (.cons rfl (.cons rfl (.cons rfl (.cons rfl (.cons rfl .nil))))) (.cons .here (.cons .here (.cons .here (.cons .here .nil))))
    ·replace h:=yn h zop
     refine WC.exit (WX.yg (WX.yg (WX.yv ?_)))
     exact WX.mid (G:=List Snetwork_event × Option Addr × Nat) ⟨z4i,zar,zas⟩ h (.cons rfl .nil) (.cons .here (.cons .here (.cons .here (.cons .here .nil))))
   ·rintro z6I zdY zdZ h
    replace h:=(zBd z6I).symm.trans h
    obtain ⟨z9v,zBp,h⟩:=y9z h
    refine WC.ya5 (fun (z9x : List Snetwork_event) (z8s : List Sapi_Come) (z6J : List Sapi_Come) (zc2 : List (Snetwork_exit × Sport_Port)) (zhQ : Option Addr) (zhR : Nat) (ze3 : Option Addr) (ze4 : Nat) (zc3 : Option Addr) (zc4 : Nat) (ze5 : List (Snetwork_exit × ((Nat × (Option Addr × Nat)) × Sport_Port)))=>(z9v z9x z8s z6J zc2 = some r) ∧ (dat ze5 = zc2)) (fun (z9x : List Snetwork_event) (z8s : List Sapi_Come) (z6J : List Sapi_Come) (zc2 : List (Snetwork_exit × Sport_Port)) (zhQ : Option Addr) (zhR : Nat) (ze3 : Option Addr) (ze4 : Nat) (zc3 : Option Addr) (zc4 : Nat) (ze5 : List (Snetwork_exit × ((Nat × (Option Addr × Nat)) × Sport_Port)))=>[(11,(.pointer (some ⟨z6K,0,none⟩)))]) (fun (z9x : List Snetwork_event) (z8s : List Sapi_Come) (z6J : List Sapi_Come) (zc2 : List (Snetwork_exit × Sport_Port)) (zhQ : Option Addr) (zhR : Nat) (ze3 : Option Addr) (ze4 : Nat) (zc3 : Option Addr) (zc4 : Nat) (ze5 : List (Snetwork_exit × ((Nat × (Option Addr × Nat)) × Sport_Port)))=>[stb z6K 81 [(.slice z57 zj.fModules.length z58),(.slice z59 zj.fChannels.length z5a),(.slice z5b zj.fSwitches.length z5c),(.slice z5d zj.fLinks.length z5e),(.slice z5f zj.fVLs.length z5g),(.slice z5h zj.fHealth.length z5i),(.slice z5j zj.fCauses.length z5k),(.slice z5l zj.fVersions.length z5m),(.slice z5n z1E.length z5o),(.slice z5p z1l.length z5q),(.map (some z5r)),(.slice zhQ z9x.length zhR),(.slice ze3 z8s.length ze4),(.slice zc3 z6J.length zc4)],row (.slice zhQ z9x.length zhR) 113 7 (z9x.flatMap yF),row (.slice ze3 z8s.length ze4) 50 3 (z8s.flatMap e50),row (.slice zc3 z6J.length zc4) 50 3 (z6J.flatMap e50),y1s z5r (fun x=>Value.agg (y26 x).toArray) Value.pointer (y1F ze5),y1D z1v ze5]) ?_ ?_
    ·skip
     refine WC.block ?_
     refine WC.nilRow 50 3 ?_
     refine WC.nilRow 50 3 ?_
     refine WC.yb2 (fun (ze6 : Nat) (z4u : List Snetwork_event) (z4M : List Sapi_Come) (z4N : List Sapi_Come) (z6b : List (Snetwork_exit × Sport_Port)) (zc5 : Option Addr) (zc6 : Nat) (zc7 : Option Addr) (zc8 : Nat) (zc9 : Option Addr) (zca : Nat) (zat : List (Snetwork_exit × ((Nat × (Option Addr × Nat)) × Sport_Port)))=>(y2I zj z1E z1l z9v ze6 z4u z4M z4N z6b = some r) ∧ (dat zat = z6b)) (fun (ze6 : Nat) (z4u : List Snetwork_event) (z4M : List Sapi_Come) (z4N : List Sapi_Come) (z6b : List (Snetwork_exit × Sport_Port)) (zc5 : Option Addr) (zc6 : Nat) (zc7 : Option Addr) (zc8 : Nat) (zc9 : Option Addr) (zca : Nat) (zat : List (Snetwork_exit × ((Nat × (Option Addr × Nat)) × Sport_Port)))=>[(11,(.pointer (some ⟨z6K,0,none⟩)))]) (fun (ze6 : Nat) (z4u : List Snetwork_event) (z4M : List Sapi_Come) (z4N : List Sapi_Come) (z6b : List (Snetwork_exit × Sport_Port)) (zc5 : Option Addr) (zc6 : Nat) (zc7 : Option Addr) (zc8 : Nat) (zc9 : Option Addr) (zca : Nat) (zat : List (Snetwork_exit × ((Nat × (Option Addr × Nat)) × Sport_Port)))=>[stb z6K 81 [(.slice z57 zj.fModules.length z58),(.slice z59 zj.fChannels.length z5a),(.slice z5b zj.fSwitches.length z5c),(.slice z5d zj.fLinks.length z5e),(.slice z5f zj.fVLs.length z5g),(.slice z5h zj.fHealth.length z5i),(.slice z5j zj.fCauses.length z5k),(.slice z5l zj.fVersions.length z5m),(.slice z5n z1E.length z5o),(.slice z5p z1l.length z5q),(.map (some z5r)),(.slice zc5 z4u.length zc6),(.slice zc7 z4M.length zc8),(.slice zc9 z4N.length zca)],row (.slice zc5 z4u.length zc6) 113 7 (z4u.flatMap yF),row (.slice zc7 z4M.length zc8) 50 3 (z4M.flatMap e50),row (.slice zc9 z4N.length zca) 50 3 (z4N.flatMap e50),y1s z5r (fun x=>Value.agg (y26 x).toArray) Value.pointer (y1F zat),y1D z1v zat]) (fun (ze6 : Nat) (z4u : List Snetwork_event) (z4M : List Sapi_Come) (z4N : List Sapi_Come) (z6b : List (Snetwork_exit × Sport_Port)) (zc5 : Option Addr) (zc6 : Nat) (zc7 : Option Addr) (zc8 : Nat) (zc9 : Option Addr) (zca : Nat) (zat : List (Snetwork_exit × ((Nat × (Option Addr × Nat)) × Sport_Port)))=>ze6) ⟨yw,z6I,([] : List Sapi_Come),([] : List Sapi_Come),([] : List (Snetwork_exit × Sport_Port)),zdY,zdZ,none,0,none,0,([] : List (Snetwork_exit × ((Nat × (Option Addr × Nat)) × Sport_Port)))⟩ ⟨h,rfl⟩ (.cons rfl .nil) (.cons .h2 (.cons .h2 (.cons .h1 (.cons .here (.cons .here (.cons .here .nil)))))) ?_
     rintro ze6 z4u z4M z4N z6b zc5 zc6 zc7 zc8 zc9 zca zat ⟨h,zuc⟩
     obtain ⟨zom,rfl⟩:=y6K h
     rw [y2I] at h
     refine WC.b (WC.b (WC.a (WL.pu rfl ?_)))
     refine WL.a (d:=58) rfl rfl rfl (yy rfl) ?_
     refine WL.a (d:=59) rfl rfl rfl (ya y8N rfl rfl) ?_
     refine WL.a (d:=60) rfl rfl rfl (yb y5O rfl (yc .here rfl)) ?_
     refine WL.a (d:=61) rfl rfl rfl (yz Try.underlying79 rfl) ?_
     refine WL.pu rfl (WL.nil (WX.a ?_))
     refine WC.cond rfl (fun zor=>?_) (fun zor=>?_)
     ·replace h:=ym h zor
      refine WC.skip (WX.a (WC.block ?_))
      obtain ⟨z9w,zBq,h⟩:=zg h
      refine WC.a (WL.pu rfl ?_)
      refine WL.yb1 (dd:=64) rfl rfl rfl (zC (l:=[.tmp 63]) Try.call26 (.cons rfl .nil)) (.cons .here (.cons .h3 (.cons .h3 (.cons .here (.cons .here (.cons .here .nil)))))) (cc hz (.cons .here (.cons .h3 (.cons .h3 (.cons .here (.cons .here (.cons .here .nil)))))) fun w pz ho=>y7F _ _ _ _ _ _ _ _ _ _ _ _ _ _ _ _ _ _ _ _ _ _ _ _ _ _ _ _ _ _ _ _ _ _ _ _ _ _ zBq w pz zku zkv zkw zkx zky zkz zkA zkB zkC zkD zuc ho) ?_
      rintro zBr zBs zBt zBu zBv zBw zBx zBy
      refine WL.nil (WX.yk ?_)
      exact WX.round (G:=Nat × List Snetwork_event × List Sapi_Come × List Sapi_Come × (List (Snetwork_exit × Sport_Port)) × Option Addr × Nat × Option Addr × Nat × Option Addr × Nat × (List (Snetwork_exit × ((Nat × (Option Addr × Nat)) × Sport_Port)))) ⟨zom,z9w.1,z9w.2.1,z9w.2.2.1,z9w.2.2.2,zBr,zBs,zBt,zBu,zBv,zBw,zBx⟩ ⟨h,zBy⟩ (Nat.lt_succ_self _) (.cons rfl .nil) (.cons .here (.cons .here (.cons .here (.cons .here (.cons .here (.cons .here .nil))))))
     ·replace h:=yn h zor
      refine WC.exit (WX.yg (WX.yg (WX.yv ?_)))
      exact WX.mid (G:=List Snetwork_event × List Sapi_Come × List Sapi_Come × (List (Snetwork_exit × Sport_Port)) × Option Addr × Nat × Option Addr × Nat × Option Addr × Nat × (List (Snetwork_exit × ((Nat × (Option Addr × Nat)) × Sport_Port)))) ⟨z4u,z4M,z4N,z6b,zc5,zc6,zc7,zc8,zc9,zca,zat⟩ ⟨h,zuc⟩ (.cons rfl .nil) (.cons .here (.cons .here (.cons .here (.cons .here (.cons .here (.cons .here .nil))))))
    ·rintro z9x z8s z6J zc2 zhQ zhR ze3 ze4 zc3 zc4 ze5 ⟨h,zK6⟩
     replace h:=(zBp z9x z8s z6J zc2).symm.trans h
     refine WC.b ?_
     obtain ⟨zu6,zBz,h⟩:=zg h
     obtain ⟨zu7,zBA,h⟩:=zg h
     refine WC.yI (fun i=>[4,9].contains i) [stbp z6K 81 [(13,(.slice zc3 z6J.length zc4))]] rfl ?_
     refine WD.a (i:=0) (d:=65) (by kernel_rfl) rfl z2 z3 rfl rfl rfl (fun _=>q_m rfl) ?_
     refine WD.a (i:=1) (d:=66) (by kernel_rfl) rfl z2 z3 rfl rfl rfl (fun _=>yy rfl) ?_
     refine WD.a (i:=2) (d:=67) (by kernel_rfl) rfl z2 z3 rfl rfl rfl (fun _=>ya y8R rfl rfl) ?_
     refine WD.e (i:=3) (d:=68) (by kernel_rfl) rfl z2 z3 rfl rfl rfl (yb y7N rfl (yc .here rfl)) ?_
     refine WD.a (i:=5) (d:=70) (by kernel_rfl) rfl z2 z3 rfl rfl rfl (fun _=>q_m rfl) ?_
     refine WD.a (i:=6) (d:=71) (by kernel_rfl) rfl z2 z3 rfl rfl rfl (fun _=>yy rfl) ?_
     refine WD.a (i:=7) (d:=72) (by kernel_rfl) rfl z2 z3 rfl rfl rfl (fun _=>ya y8Q rfl rfl) ?_
     refine WD.stable (i:=8) (d:=73) (by kernel_rfl) rfl z2 z3 rfl rfl rfl (Sin.wk (.cons .here .nil) (.stb (.cons rfl .nil) .nil)) (yb y7N rfl (y7K .here (.head _))) ?_
     refine WD.call0 (i:=4) (dd:=69) rfl (by kernel_rfl) rfl rfl rfl (.inl ⟨rfl,(Sin.wk (.cons .h1 .nil) (.stb (.cons rfl .nil) .nil))⟩) (zC (l:=[.tmp 68]) Try.call27 (.cons rfl .nil)) (.cons .h2 .nil) (cc hz (.cons .h2 .nil) fun w pz ho=>y66 _ _ _ _ _ zBz w pz  ho) ?_
     rintro  zK7
     refine WD.call0 (i:=9) (dd:=74) rfl (by kernel_rfl) rfl rfl rfl (.inl ⟨rfl,(Sin.wk (.cons .h2 .nil) (.stb (.cons rfl .nil) .nil))⟩) (zC (l:=[.tmp 73]) Try.call27 (.cons rfl .nil)) (.cons .h3 .nil) (cc hz (.cons .h3 .nil) fun w pz ho=>y66 _ _ _ _ _ zBA w pz  ho) ?_
     rintro  zK8
     refine WD.a (i:=10) (d:=8) (by kernel_rfl) rfl z2 z3 rfl rfl rfl (fun _=>q_z rfl) ?_
     refine WD.a (i:=11) (d:=9) (by kernel_rfl) rfl z2 z3 rfl rfl rfl (fun _=>q_z rfl) ?_
     refine WD.a (i:=12) (d:=10) (by kernel_rfl) rfl z2 z3 rfl rfl rfl (fun _=>q_z rfl) ?_
     refine WD.done (by kernel_rfl) ?_
     refine WX.a (WC.ret ?_)
     obtain rfl:=Option.some.inj h
     refine WX.yi Try.results12 (.tmp rfl (.tmp rfl (.tmp rfl .nil))) (fun w hw=>?_)
     exact ⟨ze3,ze4,zc3,zc4,ret3 rfl rfl rfl,trivial,hw.sub (.cons .h1 (.cons .here .nil))⟩
def y2X (z2k : List Sapi_Come) (z2V : List Sapi_Come) (z9y : Option Bool) : Nat → Int → Option Bool
 | 0,_=>none
 | zos + 1,z22=>if decide (z22 < ((z2k.length : Nat) : Int)) then chk ((0 : Int) ≤ z22 ∧ z22 < ((z2k.length : Nat) : Int)) (chk ((0 : Int) ≤ z22 ∧ z22 < ((z2V.length : Nat) : Int)) (if decide ((⟨((nth z2k z22).fSent),((nth z2k z22).fNode),((nth z2k z22).fTime)⟩ : Sapi_Come) ≠ (⟨((nth z2V z22).fSent),((nth z2V z22).fNode),((nth z2V z22).fTime)⟩ : Sapi_Come)) then some false else y2X z2k z2V z9y zos (i64 (z22 + 1)))) else z9y
theorem y7a {n : Nat} {z2k : List Sapi_Come} {z2V : List Sapi_Come} {z9y : Option Bool} {z22 : Int} {r : Bool} (h : y2X z2k z2V z9y n z22 = some r) : ∃ m,n = m + 1:=by
 cases n with
 | zero=>cases h
 | succ m=>exact ⟨m,rfl⟩
def y3e (z2k : List Sapi_Come) (z2V : List Sapi_Come) : Option Bool :=
 if decide (((z2k.length : Nat) : Int) ≠ ((z2V.length : Nat) : Int)) then some false else jp0 (some true) fun z9y=>y2X z2k z2V z9y yw 0
set_option maxRecDepth 20000 in
theorem y5l (Z : Zp) (zhS : Option Addr) (zhT : Nat) (zhU : Option Addr) (zhV : Nat) (z2k : List Sapi_Come) (z2V : List Sapi_Come) (r : Bool)
  (h : y3e z2k z2V = some r) (w₀ : World) (hz : PZ [] w₀ Z)
  (zBB : ZS Z 3 (fun r x=>r = e50 x) zhS zhT z2k)
  (zBC : ZS Z 3 (fun r x=>r = e50 x) zhU zhV z2V) :
  Calls Try.prog 14 #[(.slice zhS z2k.length zhT),(.slice zhU z2V.length zhV)] w₀ fun e w'=>e = .returned (.bool r) ∧ Hp [] w₀ w' []:=by
 unfold y3e at h
 refine Calls.yp (vs:=[(.slice zhS z2k.length zhT),(.slice zhU z2V.length zhV)]) (pre:=[]) (env:=[(0,(.slice zhS z2k.length zhT)),(1,(.slice zhU z2V.length zhV))]) Try.func14 rfl Try.ntmps14 rfl (Hp.nil w₀ _) rfl ?_
 refine WC.b (WC.a (WL.pu rfl (WL.nil (WX.a (WC.b (WC.b (WC.a (WL.pu rfl ?_))))))))
 refine WL.a (d:=7) rfl rfl rfl (yz Try.underlying36 rfl) ?_
 refine WL.pu rfl ?_
 refine WL.a (d:=9) rfl rfl rfl (yz Try.underlying36 rfl) ?_
 refine WL.pu rfl (WL.nil (WX.a ?_))
 refine WC.cond rfl (fun zot=>?_) (fun zot=>?_)
 ·replace h:=ym h zot
  refine WC.b (WC.a (WL.pu rfl (WL.nil (WX.a (WC.ret (WX.yj ?_))))))
  obtain rfl:=Option.some.inj h
  refine WX.yi Try.results14 (.tmp rfl .nil) (fun w hw=>?_)
  exact ⟨yM rfl,hw.sub .nil⟩
 ·replace h:=yn h zot
  refine WC.skip (WX.a ?_)
  obtain ⟨z9y,zBD,h⟩:=y2r h
  refine WC.y24 ((z9y = some r)) ([]) ([]) ?_ ?_
  ·skip
   refine WC.b (WC.a (WL.pu rfl ?_))
   refine WL.a (d:=12) rfl rfl rfl (yz Try.underlying36 rfl) ?_
   refine WL.pu rfl (WL.nil (WX.a (WC.block ?_)))
   refine WC.y33 (fun (ze7 : Nat) (z22 : Int)=>(y2X z2k z2V z9y ze7 z22 = some r)) (fun (ze7 : Nat) (z22 : Int)=>[(0,(.slice zhS z2k.length zhT)),(1,(.slice zhU z2V.length zhV)),(12,(.int .i64 ((z2k.length : Nat) : Int))),(13,(.int .i64 z22))]) (fun (ze7 : Nat) (z22 : Int)=>[]) (fun (ze7 : Nat) (z22 : Int)=>ze7) ⟨yw,0⟩ h (.cons rfl (.cons rfl (.cons rfl (.cons rfl .nil)))) .nil ?_
   rintro ze7 z22 h
   obtain ⟨zos,rfl⟩:=y7a h
   rw [y2X] at h
   refine WC.b (WC.a (WL.pu rfl (WL.nil (WX.a (WC.b ?_)))))
   refine WC.cond rfl (fun zou=>?_) (fun zou=>?_)
   ·replace h:=ym h zou
    refine WC.skip (WX.a (WC.b (WC.block (WC.b (WC.a (WL.pu rfl (WL.pu rfl (WL.nil (WX.a (WC.b ?_))))))))))
    obtain ⟨zBE,h⟩:=ye h
    obtain ⟨zBF,h⟩:=ye h
    refine WC.yI (fun i=>[].contains i) [] rfl ?_
    refine WD.a (i:=0) (d:=16) (by kernel_rfl) rfl z2 z3 rfl rfl rfl (fun _=>q_m rfl) ?_
    refine WD.a (i:=1) (d:=17) (by kernel_rfl) rfl z2 z3 rfl rfl rfl (fun _=>q_m rfl) ?_
    refine WD.znth (j:=2) (dd:=18) (by kernel_rfl) rfl z2 z3 rfl rfl (Z:=Z) (Pr:=(fun r x=>r = e50 x)) yV rfl rfl zBB zBE ?_
    rintro zK9 zKa zBG zKb rfl
    refine WD.e (i:=3) (d:=19) (by kernel_rfl) rfl z2 z3 rfl rfl rfl (yx y2n rfl (y4t hz.pv zBG) rfl) ?_
    refine WD.a (i:=4) (d:=20) (by kernel_rfl) rfl z2 z3 rfl rfl rfl (fun _=>q_m rfl) ?_
    refine WD.a (i:=5) (d:=21) (by kernel_rfl) rfl z2 z3 rfl rfl rfl (fun _=>q_m rfl) ?_
    refine WD.znth (j:=6) (dd:=22) (by kernel_rfl) rfl z2 z3 rfl rfl (Z:=Z) (Pr:=(fun r x=>r = e50 x)) yV rfl rfl zBC zBF ?_
    rintro zKc zKd zBH zKe rfl
    refine WD.e (i:=7) (d:=23) (by kernel_rfl) rfl z2 z3 rfl rfl rfl (yx y2n rfl (y4t hz.pv zBH) rfl) ?_
    refine WD.a (i:=8) (d:=24) (by kernel_rfl) rfl z2 z3 rfl rfl rfl (fun _=>q_aggneq (enc:=e50) (a:=(⟨((nth z2k z22).fSent),((nth z2k z22).fNode),((nth z2k z22).fTime)⟩ : Sapi_Come)) (b:=(⟨((nth z2V z22).fSent),((nth z2V z22).fNode),((nth z2V z22).fTime)⟩ : Sapi_Come)) eqT_50 rfl rfl) ?_
    refine WD.done (by kernel_rfl) ?_
    refine WX.a ?_
    refine WC.cond rfl (fun zov=>?_) (fun zov=>?_)
    ·replace h:=ym h zov
     refine WC.b (WC.a (WL.pu rfl (WL.nil (WX.a (WC.ret (WX.yH (WX.yj (WX.yj (WX.yH (WX.yj ?_))))))))))
     obtain rfl:=Option.some.inj h
     refine WX.yi Try.results14 (.tmp rfl .nil) (fun w hw=>?_)
     exact ⟨yM rfl,hw.sub .nil⟩
    ·replace h:=yn h zov
     refine WC.skip (WX.yk (WX.a (WC.a (WL.pu rfl (WL.pu rfl (WL.nil ?_))))))
     exact WX.round (G:=Nat × Int) ⟨zos,(i64 (z22 + 1))⟩ h (Nat.lt_succ_self _) (.cons rfl (.cons rfl (.cons rfl (.cons rfl .nil)))) .nil
   ·replace h:=yn h zou
    refine WC.exit (WX.yg (WX.yg (WX.yv ?_)))
    exact WX.mid (G:=Unit) () h .nil .nil
  ·rintro  h
   replace h:=zBD.symm.trans h
   refine WC.b (WC.a (WL.pu rfl (WL.nil (WX.a (WC.ret ?_)))))
   obtain rfl:=Option.some.inj h
   refine WX.yi Try.results14 (.tmp rfl .nil) (fun w hw=>?_)
   exact ⟨yM rfl,hw.sub .nil⟩
def y3M (z9z : Option Bool) : Nat → Int → Option Bool
 | 0,_=>none
 | zow + 1,z2W=>if decide (z2W < ((([1000,50,30] : List Int).length : Nat) : Int)) then chk ((0 : Int) ≤ z2W ∧ z2W < ((([1000,50,30] : List Int).length : Nat) : Int)) ((y5i (nth ([1000,50,30] : List Int) z2W)).bind fun z1J=>(y2m z1J.1 0 z1J.2 ([(⟨0,0,40⟩ : zSt),(⟨10,0,40⟩ : zSt)] : List zSt)).bind fun z3K=>jp2 (fun (z6L : List Sapi_Come) (z6M : List Sapi_Come)=>jp2 (fun (z8t : List Sapi_Come) (z8u : List Sapi_Come)=>(if decide (z3K.2.2 ≠ 0) then some true else (y3e z3K.1 z8t).bind fun zud=>some (!zud)).bind fun zox=>(if zox then some true else (y3e z3K.2.1 z8u).bind fun zue=>some (!zue)).bind fun zoy=>(if zoy then some true else (y2x z1J.1).bind fun zuf=>some (decide (zuf ≠ 3))).bind fun zoz=>(if zoz then some true else (y20 z1J.1 2).bind fun zug=>some (decide (zug ≠ ⟨#[115]⟩))).bind fun zoA=>if zoA then some false else y3M z9z zow (i64 (z2W + 1))) fun zkE=>if decide ((nth ([1000,50,30] : List Int) z2W) = 30) then zkE ([] : List Sapi_Come) ([(⟨0,2,40⟩ : Sapi_Come),(⟨1,2,80⟩ : Sapi_Come)] : List Sapi_Come) else zkE z6L z6M) fun zkF=>if decide ((nth ([1000,50,30] : List Int) z2W) = 50) then chk ((0 : Int) ≤ 1 ∧ 1 ≤ ((([(⟨0,1,96⟩ : Sapi_Come),(⟨1,1,136⟩ : Sapi_Come)] : List Sapi_Come).length : Nat) : Int)) (zkF (([(⟨0,1,96⟩ : Sapi_Come),(⟨1,1,136⟩ : Sapi_Come)] : List Sapi_Come).take (1 : Int).toNat) ([(⟨1,2,80⟩ : Sapi_Come)] : List Sapi_Come)) else zkF ([(⟨0,1,96⟩ : Sapi_Come),(⟨1,1,136⟩ : Sapi_Come)] : List Sapi_Come) ([] : List Sapi_Come)) else z9z
theorem y6L {n : Nat} {z9z : Option Bool} {z2W : Int} {r : Bool} (h : y3M z9z n z2W = some r) : ∃ m,n = m + 1:=by
 cases n with
 | zero=>cases h
 | succ m=>exact ⟨m,rfl⟩
def y4C  : Option Bool :=
 jp0 (some true) fun z9z=>y3M z9z yw 0
set_option maxRecDepth 20000 in
theorem y7k (Z : Zp)  (r : Bool)
  (h : y4C = some r) (w₀ : World) (hz : PZ [] w₀ Z) :
  Calls Try.prog 11 #[] w₀ fun e w'=>∃ Zn : Zp,e = .returned (.bool r) ∧ True ∧ Hp [] w₀ w' [fz Zn]:=by
 unfold y4C at h
 refine Calls.yp (vs:=[]) (pre:=[]) (env:=[]) Try.func11 rfl Try.ntmps11 rfl (Hp.nil w₀ _) rfl ?_
 refine WC.pool (WC.b (WC.a (WL.pu rfl (WL.nil (WX.a (WC.b (WC.a ?_)))))))
 refine WL.a (d:=11) rfl rfl rfl (y1n (v:=(.agg #[(.int .i64 0),(.int .i64 0),(.int .i64 40)])) (Eos.parts (l:=[.const (.int .i64 0),.const (.int .i64 40)]) (.cons rfl (.cons rfl .nil)) [0,2]) (fun _=>by kernel_rfl)) ?_
 refine WL.a (d:=12) rfl rfl rfl (y1n (v:=(.agg #[(.int .i64 10),(.int .i64 0),(.int .i64 40)])) (Eos.parts (l:=[.const (.int .i64 10),.const (.int .i64 40)]) (.cons rfl (.cons rfl .nil)) [0,2]) (fun _=>by kernel_rfl)) ?_
 refine WL.new (dd:=13) rfl rfl rfl (yC (cs:=([(⟨0,0,40⟩ : zSt),(⟨10,0,40⟩ : zSt)] : List zSt).flatMap e53) y2M (Eos.parts (l:=[.tmp 11,.tmp 12]) (.cons rfl (.cons rfl .nil)) [0,1]) (fun _=>by kernel_rfl) rfl (by unfold maxLen; omega)) ?_
 intro ze8 _
 refine WL.pu rfl (WL.nil (WX.a ?_))
 obtain ⟨z9z,zBI,h⟩:=y2r h
 refine WC.y1i (fun (ze9 : Zp)=>(z9z = some r) ∧ (Zle (Z ++ []) (Z ++ ze9))) (fun (ze9 : Zp)=>[]) (fun (ze9 : Zp)=>[fz ze9]) ?_ ?_
 ·skip
  refine WC.b (WC.a ?_)
  refine WL.new (dd:=14) rfl rfl rfl (yC (cs:=([1000,50,30] : List Int).flatMap e3) y2q (Eos.parts (l:=[.const (.int .i64 1000),.const (.int .i64 50),.const (.int .i64 30)]) (.cons rfl (.cons rfl (.cons rfl .nil))) [0,1,2]) (fun _=>by kernel_rfl) rfl (by unfold maxLen; omega)) ?_
  intro zea _
  refine WL.a (d:=15) rfl rfl rfl (yz Try.underlying56 rfl) ?_
  refine WL.pu rfl (WL.nil (WX.a (WC.block ?_)))
  refine WC.y2F (fun (zeb : Nat) (z2W : Int) (z6N : Zp)=>(y3M z9z zeb z2W = some r) ∧ (Zle (Z ++ []) (Z ++ z6N))) (fun (zeb : Nat) (z2W : Int) (z6N : Zp)=>[(1,(.slice (some ⟨ze8,0,none⟩) (([(⟨0,0,40⟩ : zSt),(⟨10,0,40⟩ : zSt)] : List zSt).length) 2)),(14,(.slice (some ⟨zea,0,none⟩) (([1000,50,30] : List Int).length) 3)),(15,(.int .i64 ((([1000,50,30] : List Int).length : Nat) : Int))),(16,(.int .i64 z2W))]) (fun (zeb : Nat) (z2W : Int) (z6N : Zp)=>[fz z6N,row (.slice (some ⟨ze8,0,none⟩) (([(⟨0,0,40⟩ : zSt),(⟨10,0,40⟩ : zSt)] : List zSt).length) 2) 53 3 (([(⟨0,0,40⟩ : zSt),(⟨10,0,40⟩ : zSt)] : List zSt).flatMap e53),row (.slice (some ⟨zea,0,none⟩) (([1000,50,30] : List Int).length) 3) 3 1 (([1000,50,30] : List Int).flatMap e3)]) (fun (zeb : Nat) (z2W : Int) (z6N : Zp)=>zeb) ⟨yw,0,[]⟩ ⟨h,(Zle.refl _)⟩ (.cons rfl (.cons rfl (.cons rfl (.cons rfl .nil)))) (.cons .h2 (.cons .h1 (.cons .here .nil))) ?_
  rintro zeb z2W z6N ⟨h,zuh⟩
  obtain ⟨zow,rfl⟩:=y6L h
  rw [y3M] at h
  refine WC.b (WC.a (WL.pu rfl (WL.nil (WX.a (WC.b ?_)))))
  refine WC.cond rfl (fun zoB=>?_) (fun zoB=>?_)
  ·replace h:=ym h zoB
   refine WC.skip (WX.a (WC.b (WC.block (WC.b ?_))))
   obtain ⟨zkG,h⟩:=ye h
   refine WC.a ?_
   refine WL.a (d:=18) rfl rfl rfl (yu y2q rfl rfl zkG.1 zkG.2 y1c) ?_
   refine WL.a (d:=19) rfl rfl rfl (yb yd rfl (y8o .h2 ((y1V (enc:=e3) (l:=([1000,50,30] : List Int)) (i:=z2W) (sz:=1) (fun _=>rfl) zkG.1 zkG.2) 0 _ rfl))) ?_
   refine WL.pu rfl (WL.nil (WX.a (WC.b ?_)))
   obtain ⟨z1J,zBJ,h⟩:=zg h
   refine WC.a (WL.pu rfl ?_)
   refine WL.yaR (dd:=22) rfl rfl rfl (zC (l:=[.tmp 21]) Try.call23 (.cons rfl .nil)) .nil (ccz hz .nil .here fun w pz ho=>y8w _ _ _ zBJ w pz ) ?_
   rintro zkH zkI zkJ zui zuj zuk zkK zkL zkM zkN zkO zkP zul zum zun zuo zup zuq zur zKf zKg zKh ⟨zoC,zoD,zoE,zoF,zoG,zoH,zBK⟩
   refine WL.merge .here .h5 ?_
   refine WL.pu rfl (WL.pu rfl (WL.pu rfl ?_))
   refine WL.new (dd:=4) rfl rfl rfl (y28 (cs:=[(.slice none 0 0),(.slice none 0 0),(.slice none 0 0),(.slice none 0 0),(.slice none 0 0),(.slice none 0 0),(.slice none 0 0),(.slice none 0 0)]) y87 rfl) ?_
   intro zkQ _
   refine WL.y1e rfl rfl (y1z y8M rfl rfl rfl .here rfl rfl rfl) ?_
   refine WL.pu rfl (WL.nil (WX.a (WC.b ?_)))
   obtain ⟨z3K,zBL,h⟩:=zg h
   refine WC.a ?_
   refine WL.a (d:=26) rfl rfl rfl (yx y1f rfl (yQ .here) rfl) ?_
   refine WL.pu rfl (WL.pu rfl ?_)
   refine WL.y91 (dd:=29) rfl rfl rfl (zC (l:=[.tmp 26,.const (.int .i64 0),.tmp 27,.tmp 28]) Try.call12 (.cons rfl (.cons rfl (.cons rfl (.cons rfl .nil))))) .nil (cclz hz .nil .h1 (.cons .h2 (.cons .h2 (.cons .h2 (.cons .h2 (.cons .h2 (.cons .h2 .nil)))))) fun w pz ho la=>y7j _ _ _ _ _ _ _ _ _ _ _ _ _ _ _ _ _ _ _ _ _ _ _ _ _ _ zBL w pz (ZA.row (la _ (.head _) _) ((zoC.weak (fun _ _ h=>y1u (Zle.yh _ _ _) h)).weak (fun _ _ h=>y1u (Zle.left _ _) h)) ⟨w,pz.1⟩) ((((zoD.mono (Zle.yh _ _ _)).weak (fun _ _ h=>y1A (Zle.yh _ _ _) h)).mono (Zle.left _ _)).weak (fun _ _ h=>y1A (Zle.left _ _) h)) (ZA.row (la _ (.tail _ (.head _)) _) (RR.y19 (enc:=e64) (fun _=>rfl) _) ⟨w,pz.1⟩) (ZA.row (la _ (.tail _ (.tail _ (.head _))) _) (RR.y19 (enc:=e62) (fun _=>rfl) _) ⟨w,pz.1⟩) (ZA.row (la _ (.tail _ (.tail _ (.tail _ (.head _)))) _) ((zoE.weak (fun _ _ h=>y1v (Zle.yh _ _ _) h)).weak (fun _ _ h=>y1v (Zle.left _ _) h)) ⟨w,pz.1⟩) ((zoF.mono (Zle.yh _ _ _)).mono (Zle.left _ _)) ((((zoG.mono (Zle.yh _ _ _)).weak (fun _ _ h=>y1B (Zle.yh _ _ _) h)).mono (Zle.left _ _)).weak (fun _ _ h=>y1B (Zle.left _ _) h)) ((zoH.mono (Zle.yh _ _ _)).mono (Zle.left _ _)) (ZA.row (la _ (.tail _ (.tail _ (.tail _ (.tail _ (.head _))))) _) ((zBK.weak (fun _ _ h=>y2G (Zle.yh _ _ _) h)).weak (fun _ _ h=>y2G (Zle.left _ _) h)) ⟨w,pz.1⟩) (ZA.row (la _ (.tail _ (.tail _ (.tail _ (.tail _ (.tail _ (.head _)))))) _) (RR.y19 (enc:=e53) (fun _=>rfl) _) ⟨w,pz.1⟩)) ?_
   rintro zkR zkS zkT zkU _
   refine WL.pu rfl (WL.pu rfl (WL.pu rfl (WL.pu rfl (WL.pu rfl (WL.pu rfl (WL.pu rfl (WL.nil (WX.a (WC.b (WC.a ?_))))))))))
   refine WL.a (d:=33) rfl rfl rfl (y1n (v:=(.agg #[(.int .i64 0),(.int .i64 1),(.int .i64 96)])) (Eos.parts (l:=[.const (.int .i64 0),.const (.int .i64 1),.const (.int .i64 96)]) (.cons rfl (.cons rfl (.cons rfl .nil))) [0,1,2]) (fun _=>by kernel_rfl)) ?_
   refine WL.a (d:=34) rfl rfl rfl (y1n (v:=(.agg #[(.int .i64 1),(.int .i64 1),(.int .i64 136)])) (Eos.parts (l:=[.const (.int .i64 1),.const (.int .i64 1),.const (.int .i64 136)]) (.cons rfl (.cons rfl (.cons rfl .nil))) [0,1,2]) (fun _=>by kernel_rfl)) ?_
   refine WL.new (dd:=35) rfl rfl rfl (yC (cs:=([(⟨0,1,96⟩ : Sapi_Come),(⟨1,1,136⟩ : Sapi_Come)] : List Sapi_Come).flatMap e50) yV (Eos.parts (l:=[.tmp 33,.tmp 34]) (.cons rfl (.cons rfl .nil)) [0,1]) (fun _=>by kernel_rfl) rfl (by unfold maxLen; omega)) ?_
   intro zBM _
   refine WL.new (dd:=36) rfl rfl rfl (yC (cs:=([] : List Sapi_Come).flatMap e50) yV (Eos.parts (l:=[]) .nil []) (fun _=>by kernel_rfl) rfl (by unfold maxLen; omega)) ?_
   intro zBN _
   refine WL.pu rfl (WL.pu rfl (WL.nil (WX.a ?_)))
   obtain ⟨zkF,zBO,h⟩:=y2s h
   refine WC.y8p (fun (z6L : List Sapi_Come) (z6M : List Sapi_Come) (zec : Option Addr) (zed : Nat) (zee : Option Addr) (zef : Nat)=>(zkF z6L z6M = some r)) (fun (z6L : List Sapi_Come) (z6M : List Sapi_Come) (zec : Option Addr) (zed : Nat) (zee : Option Addr) (zef : Nat)=>[(1,(.slice (some ⟨ze8,0,none⟩) (([(⟨0,0,40⟩ : zSt),(⟨10,0,40⟩ : zSt)] : List zSt).length) 2)),(3,(.int .i64 (nth ([1000,50,30] : List Int) z2W))),(4,(.pointer (some ⟨zkQ,0,none⟩))),(6,(.slice zkR z3K.1.length zkS)),(7,(.slice zkT z3K.2.1.length zkU)),(8,(.int .i64 z3K.2.2)),(9,(.slice zec z6L.length zed)),(10,(.slice zee z6M.length zef)),(14,(.slice (some ⟨zea,0,none⟩) (([1000,50,30] : List Int).length) 3)),(15,(.int .i64 ((([1000,50,30] : List Int).length : Nat) : Int))),(16,(.int .i64 z2W))]) (fun (z6L : List Sapi_Come) (z6M : List Sapi_Come) (zec : Option Addr) (zed : Nat) (zee : Option Addr) (zef : Nat)=>[fz (z6N ++ zkH),row (.slice (some ⟨ze8,0,none⟩) (([(⟨0,0,40⟩ : zSt),(⟨10,0,40⟩ : zSt)] : List zSt).length) 2) 53 3 (([(⟨0,0,40⟩ : zSt),(⟨10,0,40⟩ : zSt)] : List zSt).flatMap e53),row (.slice zkR z3K.1.length zkS) 50 3 (z3K.1.flatMap e50),row (.slice zkT z3K.2.1.length zkU) 50 3 (z3K.2.1.flatMap e50),row (.slice zec z6L.length zed) 50 3 (z6L.flatMap e50),row (.slice zee z6M.length zef) 50 3 (z6M.flatMap e50),row (.slice (some ⟨zea,0,none⟩) (([1000,50,30] : List Int).length) 3) 3 1 (([1000,50,30] : List Int).flatMap e3),stb zkQ 31 [(.slice zkI z1J.1.fModules.length zkJ),(.slice zuj z1J.1.fChannels.length zuk),(.slice zkK z1J.1.fSwitches.length zkL),(.slice zkM z1J.1.fLinks.length zkN),(.slice zkO z1J.1.fVLs.length zkP),(.slice zum z1J.1.fHealth.length zun),(.slice zuo z1J.1.fCauses.length zup),(.slice zuq z1J.1.fVersions.length zur)],row (.slice zkI z1J.1.fModules.length zkJ) 104 4 zui,row (.slice zkK z1J.1.fSwitches.length zkL) 64 4 (z1J.1.fSwitches.flatMap e64),row (.slice zkM z1J.1.fLinks.length zkN) 62 4 (z1J.1.fLinks.flatMap e62),row (.slice zkO z1J.1.fVLs.length zkP) 109 7 zul]) ?_ ?_
   ·skip
    refine WC.b (WC.a (WL.pu rfl (WL.pu rfl (WL.nil (WX.a ?_)))))
    refine WC.cond rfl (fun zoI=>?_) (fun zoI=>?_)
    ·replace h:=ym h zoI
     obtain ⟨zBP,h⟩:=ye h
     refine WC.a (WL.pu rfl ?_)
     refine WL.y7z (dd:=40) (enc:=e50) (ls:=([(⟨0,1,96⟩ : Sapi_Come),(⟨1,1,136⟩ : Sapi_Come)] : List Sapi_Come)) rfl rfl yV rfl rfl .h1 (fun _=>rfl) zBP ?_
     intro zBQ zBR
     refine WL.a (d:=41) rfl rfl rfl (y1n (v:=(.agg #[(.int .i64 1),(.int .i64 2),(.int .i64 80)])) (Eos.parts (l:=[.const (.int .i64 1),.const (.int .i64 2),.const (.int .i64 80)]) (.cons rfl (.cons rfl (.cons rfl .nil))) [0,1,2]) (fun _=>by kernel_rfl)) ?_
     refine WL.new (dd:=42) rfl rfl rfl (yC (cs:=([(⟨1,2,80⟩ : Sapi_Come)] : List Sapi_Come).flatMap e50) yV (Eos.parts (l:=[.tmp 41]) (.cons rfl .nil) [0]) (fun _=>by kernel_rfl) rfl (by unfold maxLen; omega)) ?_
     intro zBS _
     refine WL.pu rfl (WL.pu rfl (WL.nil ?_))
     exact WX.mid (G:=List Sapi_Come × List Sapi_Come × Option Addr × Nat × Option Addr × Nat) ⟨(([(⟨0,1,96⟩ : Sapi_Come),(⟨1,1,136⟩ : Sapi_Come)] : List Sapi_Come).take (1 : Int).toNat),([(⟨1,2,80⟩ : Sapi_Come)] : List Sapi_Come),zBQ,zBR,(some ⟨zBS,0,none⟩),1⟩ h (.cons rfl (.cons rfl (.cons rfl (.cons rfl (.cons rfl (.cons rfl (.cons rfl (.cons rfl (.cons rfl (.cons rfl (.cons rfl .nil))))))))))) (.cons .h6 (.cons (.there (.there (.there (.there .h7)))) (.cons .h3 (.cons .h3 (.cons .h1 (.cons .here (.cons .h7 (.cons .h1 (.cons .h1 (.cons .h1 (.cons .h1 (.cons .h1 .nil))))))))))))
    ·replace h:=yn h zoI
     refine WC.skip ?_
     exact WX.mid (G:=List Sapi_Come × List Sapi_Come × Option Addr × Nat × Option Addr × Nat) ⟨([(⟨0,1,96⟩ : Sapi_Come),(⟨1,1,136⟩ : Sapi_Come)] : List Sapi_Come),([] : List Sapi_Come),(some ⟨zBM,0,none⟩),2,(some ⟨zBN,0,none⟩),0⟩ h (.cons rfl (.cons rfl (.cons rfl (.cons rfl (.cons rfl (.cons rfl (.cons rfl (.cons rfl (.cons rfl (.cons rfl (.cons rfl .nil))))))))))) (.cons .h5 (.cons (.there (.there (.there .h7))) (.cons .h2 (.cons .h2 (.cons .h1 (.cons .here (.cons .h6 (.cons .here (.cons .here (.cons .here (.cons .here (.cons .here .nil))))))))))))
   ·rintro z6L z6M zec zed zee zef h
    replace h:=(zBO z6L z6M).symm.trans h
    obtain ⟨zkE,zBT,h⟩:=y2s h
    refine WC.y8p (fun (z8t : List Sapi_Come) (z8u : List Sapi_Come) (zhW : Option Addr) (zhX : Nat) (zhY : Option Addr) (zhZ : Nat)=>(zkE z8t z8u = some r)) (fun (z8t : List Sapi_Come) (z8u : List Sapi_Come) (zhW : Option Addr) (zhX : Nat) (zhY : Option Addr) (zhZ : Nat)=>[(1,(.slice (some ⟨ze8,0,none⟩) (([(⟨0,0,40⟩ : zSt),(⟨10,0,40⟩ : zSt)] : List zSt).length) 2)),(4,(.pointer (some ⟨zkQ,0,none⟩))),(6,(.slice zkR z3K.1.length zkS)),(7,(.slice zkT z3K.2.1.length zkU)),(8,(.int .i64 z3K.2.2)),(9,(.slice zhW z8t.length zhX)),(10,(.slice zhY z8u.length zhZ)),(14,(.slice (some ⟨zea,0,none⟩) (([1000,50,30] : List Int).length) 3)),(15,(.int .i64 ((([1000,50,30] : List Int).length : Nat) : Int))),(16,(.int .i64 z2W))]) (fun (z8t : List Sapi_Come) (z8u : List Sapi_Come) (zhW : Option Addr) (zhX : Nat) (zhY : Option Addr) (zhZ : Nat)=>[fz (z6N ++ zkH),row (.slice (some ⟨ze8,0,none⟩) (([(⟨0,0,40⟩ : zSt),(⟨10,0,40⟩ : zSt)] : List zSt).length) 2) 53 3 (([(⟨0,0,40⟩ : zSt),(⟨10,0,40⟩ : zSt)] : List zSt).flatMap e53),row (.slice zkR z3K.1.length zkS) 50 3 (z3K.1.flatMap e50),row (.slice zkT z3K.2.1.length zkU) 50 3 (z3K.2.1.flatMap e50),row (.slice zhW z8t.length zhX) 50 3 (z8t.flatMap e50),row (.slice zhY z8u.length zhZ) 50 3 (z8u.flatMap e50),row (.slice (some ⟨zea,0,none⟩) (([1000,50,30] : List Int).length) 3) 3 1 (([1000,50,30] : List Int).flatMap e3),stb zkQ 31 [(.slice zkI z1J.1.fModules.length zkJ),(.slice zuj z1J.1.fChannels.length zuk),(.slice zkK z1J.1.fSwitches.length zkL),(.slice zkM z1J.1.fLinks.length zkN),(.slice zkO z1J.1.fVLs.length zkP),(.slice zum z1J.1.fHealth.length zun),(.slice zuo z1J.1.fCauses.length zup),(.slice zuq z1J.1.fVersions.length zur)],row (.slice zkI z1J.1.fModules.length zkJ) 104 4 zui,row (.slice zkK z1J.1.fSwitches.length zkL) 64 4 (z1J.1.fSwitches.flatMap e64),row (.slice zkM z1J.1.fLinks.length zkN) 62 4 (z1J.1.fLinks.flatMap e62),row (.slice zkO z1J.1.fVLs.length zkP) 109 7 zul]) ?_ ?_
    ·skip
     refine WC.b (WC.a (WL.pu rfl (WL.pu rfl (WL.nil (WX.a ?_)))))
     refine WC.cond rfl (fun zoJ=>?_) (fun zoJ=>?_)
     ·replace h:=ym h zoJ
      refine WC.a ?_
      refine WL.a (d:=45) rfl rfl rfl (y1n (v:=(.agg #[(.int .i64 0),(.int .i64 2),(.int .i64 40)])) (Eos.parts (l:=[.const (.int .i64 0),.const (.int .i64 2),.const (.int .i64 40)]) (.cons rfl (.cons rfl (.cons rfl .nil))) [0,1,2]) (fun _=>by kernel_rfl)) ?_
      refine WL.a (d:=46) rfl rfl rfl (y1n (v:=(.agg #[(.int .i64 1),(.int .i64 2),(.int .i64 80)])) (Eos.parts (l:=[.const (.int .i64 1),.const (.int .i64 2),.const (.int .i64 80)]) (.cons rfl (.cons rfl (.cons rfl .nil))) [0,1,2]) (fun _=>by kernel_rfl)) ?_
      refine WL.new (dd:=47) rfl rfl rfl (yC (cs:=([(⟨0,2,40⟩ : Sapi_Come),(⟨1,2,80⟩ : Sapi_Come)] : List Sapi_Come).flatMap e50) yV (Eos.parts (l:=[.tmp 45,.tmp 46]) (.cons rfl (.cons rfl .nil)) [0,1]) (fun _=>by kernel_rfl) rfl (by unfold maxLen; omega)) ?_
      intro zBU _
      refine WL.pu rfl (WL.pu rfl (WL.nil ?_))
      refine WX.nilRow 50 3 ?_
      exact WX.mid (G:=List Sapi_Come × List Sapi_Come × Option Addr × Nat × Option Addr × Nat) ⟨([] : List Sapi_Come),([(⟨0,2,40⟩ : Sapi_Come),(⟨1,2,80⟩ : Sapi_Come)] : List Sapi_Come),none,0,(some ⟨zBU,0,none⟩),2⟩ h (.cons rfl (.cons rfl (.cons rfl (.cons rfl (.cons rfl (.cons rfl (.cons rfl (.cons rfl (.cons rfl (.cons rfl .nil)))))))))) (.cons .h2 (.cons .h2 (.cons .h2 (.cons .h2 (.cons .here (.cons .here (.cons .h2 (.cons .h2 (.cons .h2 (.cons .h2 (.cons .h2 (.cons .h2 .nil))))))))))))
     ·replace h:=yn h zoJ
      refine WC.skip ?_
      exact WX.mid (G:=List Sapi_Come × List Sapi_Come × Option Addr × Nat × Option Addr × Nat) ⟨z6L,z6M,zec,zed,zee,zef⟩ h (.cons rfl (.cons rfl (.cons rfl (.cons rfl (.cons rfl (.cons rfl (.cons rfl (.cons rfl (.cons rfl (.cons rfl .nil)))))))))) (.cons .here (.cons .here (.cons .here (.cons .here (.cons .here (.cons .here (.cons .here (.cons .here (.cons .here (.cons .here (.cons .here (.cons .here .nil))))))))))))
    ·rintro z8t z8u zhW zhX zhY zhZ h
     replace h:=(zBT z8t z8u).symm.trans h
     refine WC.b ?_
     obtain ⟨zox,zus,h⟩:=zg h
     obtain ⟨zoy,zut,h⟩:=zg h
     obtain ⟨zoz,zuu,h⟩:=zg h
     obtain ⟨zoA,zuv,h⟩:=zg h
     refine WC.a (WL.pu rfl (WL.pu rfl (WL.pu rfl ?_)))
     refine WL.seg false 4 50 (B:=zox) rfl rfl rfl rfl rfl rfl (fun h=>(Option.some.inj (ym zus h)).symm) (fun _ zBV=>?_) ?_
     ·skip
      have zi0:=yn zus zBV
      obtain ⟨zud,zBW,zi0⟩:=zg zi0
      replace zi0:=Option.some.inj zi0
      refine WL.pu rfl (WL.pu rfl ?_)
      refine WL.b (dd:=53) rfl rfl rfl (zC (l:=[.tmp 51,.tmp 52]) Try.call14 (.cons rfl (.cons rfl .nil))) .nil (cclz hz .nil .here (.cons .h2 (.cons .h3 .nil)) fun w pz ho la=>y5l _ _ _ _ _ _ _ _ zBW w pz (ZA.row (la _ (.head _) _) (RR.y19 (enc:=e50) (fun _=>rfl) _) ⟨w,pz.1⟩) (ZA.row (la _ (.tail _ (.head _)) _) (RR.y19 (enc:=e50) (fun _=>rfl) _) ⟨w,pz.1⟩)) ?_
      refine WL.pu rfl (WL.pu rfl ?_)
      exact WL.yr zi0 rfl rfl .all
     refine WL.pu rfl ?_
     refine WL.seg false 4 56 (B:=zoy) rfl rfl rfl rfl rfl rfl (fun h=>(Option.some.inj (ym zut h)).symm) (fun _ zBX=>?_) ?_
     ·skip
      have zi1:=yn zut zBX
      obtain ⟨zue,zBY,zi1⟩:=zg zi1
      replace zi1:=Option.some.inj zi1
      refine WL.pu rfl (WL.pu rfl ?_)
      refine WL.b (dd:=59) rfl rfl rfl (zC (l:=[.tmp 57,.tmp 58]) Try.call14 (.cons rfl (.cons rfl .nil))) .nil (cclz hz .nil .here (.cons .h3 (.cons .h4 .nil)) fun w pz ho la=>y5l _ _ _ _ _ _ _ _ zBY w pz (ZA.row (la _ (.head _) _) (RR.y19 (enc:=e50) (fun _=>rfl) _) ⟨w,pz.1⟩) (ZA.row (la _ (.tail _ (.head _)) _) (RR.y19 (enc:=e50) (fun _=>rfl) _) ⟨w,pz.1⟩)) ?_
      refine WL.pu rfl (WL.pu rfl ?_)
      exact WL.yr zi1 rfl rfl .all
     refine WL.pu rfl ?_
     refine WL.seg false 3 62 (B:=zoz) rfl rfl rfl rfl rfl rfl (fun h=>(Option.some.inj (ym zuu h)).symm) (fun _ zBZ=>?_) ?_
     ·skip
      have zi2:=yn zuu zBZ
      obtain ⟨zuf,zC0,zi2⟩:=zg zi2
      replace zi2:=Option.some.inj zi2
      refine WL.a (d:=63) rfl rfl rfl (yx y1f rfl (yQ .h7) rfl) ?_
      refine WL.b (dd:=64) rfl rfl rfl (zC (l:=[.tmp 63]) Try.call17 (.cons rfl .nil)) .nil (cclz hz .nil .here (.cons (.there .h7) (.cons (.there .h7) (.cons (.there .h7) (.cons (.there .h7) .nil)))) fun w pz ho la=>y4M _ _ _ _ _ _ _ _ _ _ _ _ _ _ _ _ _ _ _ zC0 w pz (ZA.row (la _ (.head _) _) ((zoC.weak (fun _ _ h=>y1u (Zle.yh _ _ _) h)).weak (fun _ _ h=>y1u (Zle.left _ _) h)) ⟨w,pz.1⟩) ((((zoD.mono (Zle.yh _ _ _)).weak (fun _ _ h=>y1A (Zle.yh _ _ _) h)).mono (Zle.left _ _)).weak (fun _ _ h=>y1A (Zle.left _ _) h)) (ZA.row (la _ (.tail _ (.head _)) _) (RR.y19 (enc:=e64) (fun _=>rfl) _) ⟨w,pz.1⟩) (ZA.row (la _ (.tail _ (.tail _ (.head _))) _) (RR.y19 (enc:=e62) (fun _=>rfl) _) ⟨w,pz.1⟩) (ZA.row (la _ (.tail _ (.tail _ (.tail _ (.head _)))) _) ((zoE.weak (fun _ _ h=>y1v (Zle.yh _ _ _) h)).weak (fun _ _ h=>y1v (Zle.left _ _) h)) ⟨w,pz.1⟩) ((zoF.mono (Zle.yh _ _ _)).mono (Zle.left _ _)) ((((zoG.mono (Zle.yh _ _ _)).weak (fun _ _ h=>y1B (Zle.yh _ _ _) h)).mono (Zle.left _ _)).weak (fun _ _ h=>y1B (Zle.left _ _) h)) ((zoH.mono (Zle.yh _ _ _)).mono (Zle.left _ _))) ?_
      refine WL.pu rfl (WL.pu rfl ?_)
      exact WL.yr zi2 rfl rfl .all
     refine WL.pu rfl ?_
     refine WL.seg false 3 67 (B:=zoA) rfl rfl rfl rfl rfl rfl (fun h=>(Option.some.inj (ym zuv h)).symm) (fun _ zC1=>?_) ?_
     ·skip
      have zi3:=yn zuv zC1
      obtain ⟨zug,zC2,zi3⟩:=zg zi3
      replace zi3:=Option.some.inj zi3
      refine WL.a (d:=68) rfl rfl rfl (yx y1f rfl (yQ .h7) rfl) ?_
      refine WL.b (dd:=69) rfl rfl rfl (zC (l:=[.tmp 68,.const (.int .i64 2)]) Try.call18 (.cons rfl (.cons rfl .nil))) .nil (cclz hz .nil .here (.cons (.there .h7) (.cons (.there .h7) (.cons (.there .h7) (.cons (.there .h7) .nil)))) fun w pz ho la=>y5s _ _ _ _ _ _ _ _ _ _ _ _ _ _ _ _ _ _ _ _ zC2 w pz (ZA.row (la _ (.head _) _) ((zoC.weak (fun _ _ h=>y1u (Zle.yh _ _ _) h)).weak (fun _ _ h=>y1u (Zle.left _ _) h)) ⟨w,pz.1⟩) ((((zoD.mono (Zle.yh _ _ _)).weak (fun _ _ h=>y1A (Zle.yh _ _ _) h)).mono (Zle.left _ _)).weak (fun _ _ h=>y1A (Zle.left _ _) h)) (ZA.row (la _ (.tail _ (.head _)) _) (RR.y19 (enc:=e64) (fun _=>rfl) _) ⟨w,pz.1⟩) (ZA.row (la _ (.tail _ (.tail _ (.head _))) _) (RR.y19 (enc:=e62) (fun _=>rfl) _) ⟨w,pz.1⟩) (ZA.row (la _ (.tail _ (.tail _ (.tail _ (.head _)))) _) ((zoE.weak (fun _ _ h=>y1v (Zle.yh _ _ _) h)).weak (fun _ _ h=>y1v (Zle.left _ _) h)) ⟨w,pz.1⟩) ((zoF.mono (Zle.yh _ _ _)).mono (Zle.left _ _)) ((((zoG.mono (Zle.yh _ _ _)).weak (fun _ _ h=>y1B (Zle.yh _ _ _) h)).mono (Zle.left _ _)).weak (fun _ _ h=>y1B (Zle.left _ _) h)) ((zoH.mono (Zle.yh _ _ _)).mono (Zle.left _ _))) ?_
      refine WL.a (d:=70) rfl rfl rfl (q_sneq rfl rfl) ?_
      refine WL.pu rfl ?_
      exact WL.yr zi3 rfl rfl .all
     refine WL.nil (WX.a ?_)
     refine WC.cond rfl (fun zoK=>?_) (fun zoK=>?_)
     ·replace h:=ym h zoK
      refine WC.b (WC.a (WL.pu rfl (WL.nil (WX.a (WC.ret (WX.yH (WX.yj (WX.yj (WX.yH (WX.yj ?_))))))))))
      obtain rfl:=Option.some.inj h
      refine WX.yi Try.results11 (.tmp rfl .nil) (fun w hw=>?_)
      exact ⟨(z6N ++ zkH),yM rfl,trivial,hw.sub (.cons .here .nil)⟩
     ·replace h:=yn h zoK
      refine WC.skip (WX.yk (WX.a (WC.a (WL.pu rfl (WL.pu rfl (WL.nil ?_))))))
      exact WX.round (G:=Nat × Int × Zp) ⟨zow,(i64 (z2W + 1)),(z6N ++ zkH)⟩ ⟨h,(zuh.trans ((Zle.left _ _).trans (Zle.yh _ _ _)))⟩ (Nat.lt_succ_self _) (.cons rfl (.cons rfl (.cons rfl (.cons rfl .nil)))) (.cons .here (.cons .here (.cons .h4 .nil)))
  ·replace h:=yn h zoB
   refine WC.exit (WX.yg (WX.yg (WX.yv ?_)))
   exact WX.mid (G:=Zp) z6N ⟨h,zuh⟩ .nil (.cons .here .nil)
 ·rintro ze9 ⟨h,zKi⟩
  replace h:=zBI.symm.trans h
  refine WC.b (WC.a (WL.pu rfl (WL.nil (WX.a (WC.ret ?_)))))
  obtain rfl:=Option.some.inj h
  refine WX.yi Try.results11 (.tmp rfl .nil) (fun w hw=>?_)
  exact ⟨ze9,yM rfl,trivial,hw.sub (.cons .here .nil)⟩
def y4g (z13 : Sapi_Config) (z3v : Int) : Option ByteArray :=
 if (decide (z3v ≥ 0)) && (decide (z3v < ((z13.fModules.length : Nat) : Int))) then chk ((0 : Int) ≤ z3v ∧ z3v < ((z13.fModules.length : Nat) : Int)) (some ((nth z13.fModules z3v).fName)) else if (decide (z3v ≥ ((z13.fModules.length : Nat) : Int))) && (decide (z3v < (i64 (((z13.fModules.length : Nat) : Int) + ((z13.fSwitches.length : Nat) : Int))))) then chk ((0 : Int) ≤ (i64 (z3v - ((z13.fModules.length : Nat) : Int))) ∧ (i64 (z3v - ((z13.fModules.length : Nat) : Int))) < ((z13.fSwitches.length : Nat) : Int)) (some ((nth z13.fSwitches (i64 (z3v - ((z13.fModules.length : Nat) : Int)))).fName)) else some ⟨#[]⟩
set_option maxRecDepth 20000 in
theorem y7H (Z : Zp) (zi4 : Option Addr) (zi5 : Nat) (zi6 : Option Addr) (zi7 : Nat) (zi8 : Option Addr) (zi9 : Nat) (zia : Option Addr) (zib : Nat) (zic : Option Addr) (zid : Nat) (zie : Option Addr) (zif : Nat) (zig : Option Addr) (zih : Nat) (zii : Option Addr) (zij : Nat) (z13 : Sapi_Config) (z3v : Int) (r : ByteArray)
  (h : y4g z13 z3v = some r) (w₀ : World) (hz : PZ [] w₀ Z)
  (zC3 : ZS Z 4 (y2i Z) zi4 zi5 z13.fModules)
  (zKj : ZS Z 4 (y2R Z) zi6 zi7 z13.fChannels)
  (zC4 : ZS Z 4 (fun r x=>r = e64 x) zi8 zi9 z13.fSwitches)
  (zKk : ZS Z 4 (fun r x=>r = e62 x) zia zib z13.fLinks)
  (zKl : ZS Z 7 (y2A Z) zic zid z13.fVLs)
  (zKm : ZS Z 5 (fun r x=>r = y2T x) zie zif z13.fHealth)
  (zKn : ZS Z 3 (y2S Z) zig zih z13.fCauses)
  (zKo : ZS Z 4 (fun r x=>r = y2U x) zii zij z13.fVersions) :
  Calls Try.prog 19 #[(.agg #[(.slice zi4 z13.fModules.length zi5),(.slice zi6 z13.fChannels.length zi7),(.slice zi8 z13.fSwitches.length zi9),(.slice zia z13.fLinks.length zib),(.slice zic z13.fVLs.length zid),(.slice zie z13.fHealth.length zif),(.slice zig z13.fCauses.length zih),(.slice zii z13.fVersions.length zij)]),(.int .i64 z3v)] w₀ fun e w'=>e = .returned (.string r) ∧ Hp [] w₀ w' []:=by
 unfold y4g at h
 refine Calls.yp (vs:=[(.agg #[(.slice zi4 z13.fModules.length zi5),(.slice zi6 z13.fChannels.length zi7),(.slice zi8 z13.fSwitches.length zi9),(.slice zia z13.fLinks.length zib),(.slice zic z13.fVLs.length zid),(.slice zie z13.fHealth.length zif),(.slice zig z13.fCauses.length zih),(.slice zii z13.fVersions.length zij)]),(.int .i64 z3v)]) (pre:=[]) (env:=[(0,(.agg #[(.slice zi4 z13.fModules.length zi5),(.slice zi6 z13.fChannels.length zi7),(.slice zi8 z13.fSwitches.length zi9),(.slice zia z13.fLinks.length zib),(.slice zic z13.fVLs.length zid),(.slice zie z13.fHealth.length zif),(.slice zig z13.fCauses.length zih),(.slice zii z13.fVersions.length zij)])),(1,(.int .i64 z3v))]) Try.func19 rfl Try.ntmps19 rfl (Hp.nil w₀ _) rfl ?_
 refine WC.b (WC.a ?_)
 refine WL.new (dd:=2) rfl rfl rfl (y1N (cs:=[(.slice zi4 z13.fModules.length zi5),(.slice zi6 z13.fChannels.length zi7),(.slice zi8 z13.fSwitches.length zi9),(.slice zia z13.fLinks.length zib),(.slice zic z13.fVLs.length zid),(.slice zie z13.fHealth.length zif),(.slice zig z13.fCauses.length zih),(.slice zii z13.fVersions.length zij)]) rfl rfl) ?_
 intro zKp _
 refine WL.pu rfl (WL.nil (WX.a (WC.b (WC.b (WC.a (WL.pu rfl (WL.pu rfl (WL.pu rfl ?_))))))))
 refine WL.seg true 5 7 (B:=(decide (z3v ≥ 0)) && (decide (z3v < ((z13.fModules.length : Nat) : Int)))) rfl rfl rfl rfl rfl rfl (fun h=>(y1G h).symm) (fun _ zC5=>?_) ?_
 ·skip
  refine WL.pu rfl ?_
  refine WL.a (d:=9) rfl rfl rfl (ya y1Y rfl rfl) ?_
  refine WL.a (d:=10) rfl rfl rfl (yb y1Z rfl (yc .here rfl)) ?_
  refine WL.a (d:=11) rfl rfl rfl (yz Try.underlying22 rfl) ?_
  refine WL.pu rfl (WL.pu rfl ?_)
  exact WL.yr (y1H zC5) rfl rfl .all
 refine WL.nil (WX.a ?_)
 refine WC.cond rfl (fun zoL=>?_) (fun zoL=>?_)
 ·replace h:=ym h zoL
  refine WC.b ?_
  obtain ⟨zC6,h⟩:=ye h
  refine WC.a ?_
  refine WL.a (d:=14) rfl rfl rfl (ya y1Y rfl rfl) ?_
  refine WL.a (d:=15) rfl rfl rfl (yb y1Z rfl (yc .here rfl)) ?_
  refine WL.pu rfl ?_
  refine WL.znth (dd:=17) rfl rfl (Z:=Z) (Pr:=(y2i Z)) y9J rfl rfl zC3 zC6 ?_
  rintro zKq zKr zC7 zKs ⟨zKt,zKu,rfl,zKv⟩
  refine WL.a (d:=18) rfl rfl rfl (ya y9K rfl rfl) ?_
  refine WL.a (d:=19) rfl rfl rfl (yb y5C rfl (yD hz.pv zC7 rfl)) ?_
  refine WL.pu rfl (WL.nil (WX.a (WC.ret (WX.yj ?_))))
  obtain rfl:=Option.some.inj h
  refine WX.yi Try.results19 (.tmp rfl .nil) (fun w hw=>?_)
  exact ⟨yM rfl,hw.sub .nil⟩
 ·replace h:=yn h zoL
  refine WC.skip (WX.a (WC.b (WC.b (WC.a (WL.pu rfl ?_)))))
  refine WL.a (d:=21) rfl rfl rfl (ya y1Y rfl rfl) ?_
  refine WL.a (d:=22) rfl rfl rfl (yb y1Z rfl (yc .here rfl)) ?_
  refine WL.a (d:=23) rfl rfl rfl (yz Try.underlying22 rfl) ?_
  refine WL.pu rfl (WL.pu rfl ?_)
  refine WL.seg true 9 25 (B:=(decide (z3v ≥ ((z13.fModules.length : Nat) : Int))) && (decide (z3v < (i64 (((z13.fModules.length : Nat) : Int) + ((z13.fSwitches.length : Nat) : Int)))))) rfl rfl rfl rfl rfl rfl (fun h=>(y1G h).symm) (fun _ zC8=>?_) ?_
  ·skip
   refine WL.pu rfl ?_
   refine WL.a (d:=27) rfl rfl rfl (ya y1Y rfl rfl) ?_
   refine WL.a (d:=28) rfl rfl rfl (yb y1Z rfl (yc .here rfl)) ?_
   refine WL.a (d:=29) rfl rfl rfl (yz Try.underlying22 rfl) ?_
   refine WL.a (d:=30) rfl rfl rfl (ya y3y rfl rfl) ?_
   refine WL.a (d:=31) rfl rfl rfl (yb y3z rfl (yc .here rfl)) ?_
   refine WL.a (d:=32) rfl rfl rfl (yz Try.underlying24 rfl) ?_
   refine WL.pu rfl (WL.pu rfl (WL.pu rfl ?_))
   exact WL.yr (y1H zC8) rfl rfl .all
  refine WL.nil (WX.a ?_)
  refine WC.cond rfl (fun zoM=>?_) (fun zoM=>?_)
  ·replace h:=ym h zoM
   refine WC.b ?_
   obtain ⟨zC9,h⟩:=ye h
   refine WC.a ?_
   refine WL.a (d:=36) rfl rfl rfl (ya y3y rfl rfl) ?_
   refine WL.a (d:=37) rfl rfl rfl (yb y3z rfl (yc .here rfl)) ?_
   refine WL.pu rfl ?_
   refine WL.a (d:=39) rfl rfl rfl (ya y1Y rfl rfl) ?_
   refine WL.a (d:=40) rfl rfl rfl (yb y1Z rfl (yc .here rfl)) ?_
   refine WL.a (d:=41) rfl rfl rfl (yz Try.underlying22 rfl) ?_
   refine WL.pu rfl ?_
   refine WL.znth (dd:=43) rfl rfl (Z:=Z) (Pr:=(fun r x=>r = e64 x)) y5h rfl rfl zC4 zC9 ?_
   rintro zKw zKx zCa zKy rfl
   refine WL.a (d:=44) rfl rfl rfl (ya yan rfl rfl) ?_
   refine WL.a (d:=45) rfl rfl rfl (yb y5C rfl (yD hz.pv zCa rfl)) ?_
   refine WL.pu rfl (WL.nil (WX.a (WC.ret (WX.yj ?_))))
   obtain rfl:=Option.some.inj h
   refine WX.yi Try.results19 (.tmp rfl .nil) (fun w hw=>?_)
   exact ⟨yM rfl,hw.sub .nil⟩
  ·replace h:=yn h zoM
   refine WC.skip (WX.a (WC.b (WC.a (WL.pu rfl (WL.nil (WX.a (WC.ret ?_)))))))
   obtain rfl:=Option.some.inj h
   refine WX.yi Try.results19 (.tmp rfl .nil) (fun w hw=>?_)
   exact ⟨yM rfl,hw.sub .nil⟩
def y2y (z11 : Sapi_Config) (z5s : ByteArray) (z9A : Option Int) : Nat → Int → Option Int
 | 0,_=>none
 | zoN + 1,z4O=>if decide (z4O < (i64 (((z11.fModules.length : Nat) : Int) + ((z11.fSwitches.length : Nat) : Int)))) then (y4g z11 z4O).bind fun zuw=>if decide (zuw = z5s) then some z4O else y2y z11 z5s z9A zoN (i64 (z4O + 1)) else z9A
theorem y7b {n : Nat} {z11 : Sapi_Config} {z5s : ByteArray} {z9A : Option Int} {z4O : Int} {r : Int} (h : y2y z11 z5s z9A n z4O = some r) : ∃ m,n = m + 1:=by
 cases n with
 | zero=>cases h
 | succ m=>exact ⟨m,rfl⟩
def y4h (z11 : Sapi_Config) (z5s : ByteArray) : Option Int :=
 jp0 (some (-1)) fun z9A=>y2y z11 z5s z9A yw 0
set_option maxRecDepth 20000 in
theorem y7I (Z : Zp) (zeg : Option Addr) (zeh : Nat) (zei : Option Addr) (zej : Nat) (zek : Option Addr) (zel : Nat) (zem : Option Addr) (zen : Nat) (zeo : Option Addr) (zep : Nat) (zeq : Option Addr) (zer : Nat) (zes : Option Addr) (zet : Nat) (zeu : Option Addr) (zev : Nat) (z11 : Sapi_Config) (z5s : ByteArray) (r : Int)
  (h : y4h z11 z5s = some r) (w₀ : World) (hz : PZ [] w₀ Z)
  (zCb : ZS Z 4 (y2i Z) zeg zeh z11.fModules)
  (zCc : ZS Z 4 (y2R Z) zei zej z11.fChannels)
  (zCd : ZS Z 4 (fun r x=>r = e64 x) zek zel z11.fSwitches)
  (zCe : ZS Z 4 (fun r x=>r = e62 x) zem zen z11.fLinks)
  (zCf : ZS Z 7 (y2A Z) zeo zep z11.fVLs)
  (zCg : ZS Z 5 (fun r x=>r = y2T x) zeq zer z11.fHealth)
  (zCh : ZS Z 3 (y2S Z) zes zet z11.fCauses)
  (zCi : ZS Z 4 (fun r x=>r = y2U x) zeu zev z11.fVersions) :
  Calls Try.prog 61 #[(.agg #[(.slice zeg z11.fModules.length zeh),(.slice zei z11.fChannels.length zej),(.slice zek z11.fSwitches.length zel),(.slice zem z11.fLinks.length zen),(.slice zeo z11.fVLs.length zep),(.slice zeq z11.fHealth.length zer),(.slice zes z11.fCauses.length zet),(.slice zeu z11.fVersions.length zev)]),(.string z5s)] w₀ fun e w'=>e = .returned (.int .i64 r) ∧ Hp [] w₀ w' []:=by
 unfold y4h at h
 refine Calls.yp (vs:=[(.agg #[(.slice zeg z11.fModules.length zeh),(.slice zei z11.fChannels.length zej),(.slice zek z11.fSwitches.length zel),(.slice zem z11.fLinks.length zen),(.slice zeo z11.fVLs.length zep),(.slice zeq z11.fHealth.length zer),(.slice zes z11.fCauses.length zet),(.slice zeu z11.fVersions.length zev)]),(.string z5s)]) (pre:=[]) (env:=[(0,(.agg #[(.slice zeg z11.fModules.length zeh),(.slice zei z11.fChannels.length zej),(.slice zek z11.fSwitches.length zel),(.slice zem z11.fLinks.length zen),(.slice zeo z11.fVLs.length zep),(.slice zeq z11.fHealth.length zer),(.slice zes z11.fCauses.length zet),(.slice zeu z11.fVersions.length zev)])),(1,(.string z5s))]) Try.func61 rfl Try.ntmps61 rfl (Hp.nil w₀ _) rfl ?_
 refine WC.b (WC.a ?_)
 refine WL.new (dd:=2) rfl rfl rfl (y1N (cs:=[(.slice zeg z11.fModules.length zeh),(.slice zei z11.fChannels.length zej),(.slice zek z11.fSwitches.length zel),(.slice zem z11.fLinks.length zen),(.slice zeo z11.fVLs.length zep),(.slice zeq z11.fHealth.length zer),(.slice zes z11.fCauses.length zet),(.slice zeu z11.fVersions.length zev)]) rfl rfl) ?_
 intro zux _
 refine WL.pu rfl (WL.nil (WX.a ?_))
 obtain ⟨z9A,zCj,h⟩:=y2r h
 refine WC.y24 ((z9A = some r)) ([]) ([]) ?_ ?_
 ·skip
  refine WC.b (WC.a (WL.pu rfl (WL.nil (WX.a (WC.block ?_)))))
  refine WC.y33 (fun (zew : Nat) (z4O : Int)=>(y2y z11 z5s z9A zew z4O = some r)) (fun (zew : Nat) (z4O : Int)=>[(1,(.string z5s)),(2,(.pointer (some ⟨zux,0,none⟩))),(5,(.int .i64 z4O))]) (fun (zew : Nat) (z4O : Int)=>[stb zux 31 [(.slice zeg z11.fModules.length zeh),(.slice zei z11.fChannels.length zej),(.slice zek z11.fSwitches.length zel),(.slice zem z11.fLinks.length zen),(.slice zeo z11.fVLs.length zep),(.slice zeq z11.fHealth.length zer),(.slice zes z11.fCauses.length zet),(.slice zeu z11.fVersions.length zev)]]) (fun (zew : Nat) (z4O : Int)=>zew) ⟨yw,0⟩ h (.cons rfl (.cons rfl (.cons rfl .nil))) (.cons .here .nil) ?_
  rintro zew z4O h
  obtain ⟨zoN,rfl⟩:=y7b h
  rw [y2y] at h
  refine WC.b (WC.b (WC.a (WL.pu rfl ?_)))
  refine WL.a (d:=7) rfl rfl rfl (ya y1Y rfl rfl) ?_
  refine WL.a (d:=8) rfl rfl rfl (yb y1Z rfl (yc .here rfl)) ?_
  refine WL.a (d:=9) rfl rfl rfl (yz Try.underlying22 rfl) ?_
  refine WL.a (d:=10) rfl rfl rfl (ya y3y rfl rfl) ?_
  refine WL.a (d:=11) rfl rfl rfl (yb y3z rfl (yc .here rfl)) ?_
  refine WL.a (d:=12) rfl rfl rfl (yz Try.underlying24 rfl) ?_
  refine WL.pu rfl (WL.pu rfl (WL.nil (WX.a ?_)))
  refine WC.cond rfl (fun zoO=>?_) (fun zoO=>?_)
  ·replace h:=ym h zoO
   refine WC.skip (WX.a (WC.b (WC.block (WC.b ?_))))
   obtain ⟨zuw,zCk,h⟩:=zg h
   refine WC.a ?_
   refine WL.a (d:=17) rfl rfl rfl (yx y1f rfl (yQ .here) rfl) ?_
   refine WL.pu rfl ?_
   refine WL.b (dd:=19) rfl rfl rfl (zC (l:=[.tmp 17,.tmp 18]) Try.call19 (.cons rfl (.cons rfl .nil))) .nil (cc hz .nil fun w pz ho=>y7H _ _ _ _ _ _ _ _ _ _ _ _ _ _ _ _ _ _ _ _ zCk w pz zCb zCc zCd zCe zCf zCg zCh zCi) ?_
   refine WL.pu rfl ?_
   refine WL.a (d:=21) rfl rfl rfl (y9C rfl rfl) ?_
   refine WL.nil (WX.a ?_)
   refine WC.cond rfl (fun zoP=>?_) (fun zoP=>?_)
   ·replace h:=ym h zoP
    refine WC.b (WC.a (WL.pu rfl (WL.pu rfl (WL.nil (WX.a (WC.ret (WX.yH (WX.yj (WX.yj (WX.yH (WX.yj ?_)))))))))))
    obtain rfl:=Option.some.inj h
    refine WX.yi Try.results61 (.tmp rfl .nil) (fun w hw=>?_)
    exact ⟨yM rfl,hw.sub .nil⟩
   ·replace h:=yn h zoP
    refine WC.skip (WX.yk (WX.a (WC.a (WL.pu rfl (WL.pu rfl (WL.pu rfl (WL.nil ?_)))))))
    exact WX.round (G:=Nat × Int) ⟨zoN,(i64 (z4O + 1))⟩ h (Nat.lt_succ_self _) (.cons rfl (.cons rfl (.cons rfl .nil))) (.cons .here .nil)
  ·replace h:=yn h zoO
   refine WC.exit (WX.yg (WX.yg (WX.yv ?_)))
   exact WX.mid (G:=Unit) () h .nil .nil
 ·rintro  h
  replace h:=zCj.symm.trans h
  refine WC.b (WC.a (WL.pu rfl (WL.nil (WX.a (WC.ret ?_)))))
  obtain rfl:=Option.some.inj h
  refine WX.yi Try.results61 (.tmp rfl .nil) (fun w hw=>?_)
  exact ⟨yM rfl,hw.sub .nil⟩
def y4H (zF : Sapi_Config) (z8v : Int) (z23 : Int) : Option Bool :=
 if decide (z23 < 0) then some false else if decide (z23 < ((zF.fModules.length : Nat) : Int)) then some true else chk ((0 : Int) ≤ (i64 (z23 - ((zF.fModules.length : Nat) : Int))) ∧ (i64 (z23 - ((zF.fModules.length : Nat) : Int))) < ((zF.fSwitches.length : Nat) : Int)) (some (((((decide (((nth zF.fSwitches (i64 (z23 - ((zF.fModules.length : Nat) : Int)))).fNet) = z8v)) && (decide (((nth zF.fSwitches (i64 (z23 - ((zF.fModules.length : Nat) : Int)))).fDelay) ≥ 0))) && (decide (((nth zF.fSwitches (i64 (z23 - ((zF.fModules.length : Nat) : Int)))).fDelay) ≤ 1000))) && (decide (((nth zF.fSwitches (i64 (z23 - ((zF.fModules.length : Nat) : Int)))).fStore) ≥ 0))) && (decide (((nth zF.fSwitches (i64 (z23 - ((zF.fModules.length : Nat) : Int)))).fStore) ≤ 1073741824))))
set_option maxRecDepth 20000 in
theorem y7Z (Z : Zp) (zik : Option Addr) (zil : Nat) (zim : Option Addr) (zin : Nat) (zio : Option Addr) (ziq : Nat) (zir : Option Addr) (zis : Nat) (zit : Option Addr) (ziu : Nat) (ziv : Option Addr) (ziw : Nat) (zix : Option Addr) (ziy : Nat) (ziz : Option Addr) (ziA : Nat) (zF : Sapi_Config) (z8v : Int) (z23 : Int) (r : Bool)
  (h : y4H zF z8v z23 = some r) (w₀ : World) (hz : PZ [] w₀ Z)
  (zKz : ZS Z 4 (y2i Z) zik zil zF.fModules)
  (zKA : ZS Z 4 (y2R Z) zim zin zF.fChannels)
  (zCl : ZS Z 4 (fun r x=>r = e64 x) zio ziq zF.fSwitches)
  (zKB : ZS Z 4 (fun r x=>r = e62 x) zir zis zF.fLinks)
  (zKC : ZS Z 7 (y2A Z) zit ziu zF.fVLs)
  (zKD : ZS Z 5 (fun r x=>r = y2T x) ziv ziw zF.fHealth)
  (zKE : ZS Z 3 (y2S Z) zix ziy zF.fCauses)
  (zKF : ZS Z 4 (fun r x=>r = y2U x) ziz ziA zF.fVersions) :
  Calls Try.prog 62 #[(.agg #[(.slice zik zF.fModules.length zil),(.slice zim zF.fChannels.length zin),(.slice zio zF.fSwitches.length ziq),(.slice zir zF.fLinks.length zis),(.slice zit zF.fVLs.length ziu),(.slice ziv zF.fHealth.length ziw),(.slice zix zF.fCauses.length ziy),(.slice ziz zF.fVersions.length ziA)]),(.int .i64 z8v),(.int .i64 z23)] w₀ fun e w'=>e = .returned (.bool r) ∧ Hp [] w₀ w' []:=by
 unfold y4H at h
 refine Calls.yp (vs:=[(.agg #[(.slice zik zF.fModules.length zil),(.slice zim zF.fChannels.length zin),(.slice zio zF.fSwitches.length ziq),(.slice zir zF.fLinks.length zis),(.slice zit zF.fVLs.length ziu),(.slice ziv zF.fHealth.length ziw),(.slice zix zF.fCauses.length ziy),(.slice ziz zF.fVersions.length ziA)]),(.int .i64 z8v),(.int .i64 z23)]) (pre:=[]) (env:=[(0,(.agg #[(.slice zik zF.fModules.length zil),(.slice zim zF.fChannels.length zin),(.slice zio zF.fSwitches.length ziq),(.slice zir zF.fLinks.length zis),(.slice zit zF.fVLs.length ziu),(.slice ziv zF.fHealth.length ziw),(.slice zix zF.fCauses.length ziy),(.slice ziz zF.fVersions.length ziA)])),(1,(.int .i64 z8v)),(2,(.int .i64 z23))]) Try.func62 rfl Try.ntmps62 rfl (Hp.nil w₀ _) rfl ?_
 refine WC.b (WC.a ?_)
 refine WL.new (dd:=3) rfl rfl rfl (y1N (cs:=[(.slice zik zF.fModules.length zil),(.slice zim zF.fChannels.length zin),(.slice zio zF.fSwitches.length ziq),(.slice zir zF.fLinks.length zis),(.slice zit zF.fVLs.length ziu),(.slice ziv zF.fHealth.length ziw),(.slice zix zF.fCauses.length ziy),(.slice ziz zF.fVersions.length ziA)]) rfl rfl) ?_
 intro zKG _
 refine WL.pu rfl (WL.nil (WX.a (WC.b (WC.b (WC.a (WL.pu rfl (WL.pu rfl (WL.nil (WX.a ?_)))))))))
 refine WC.cond rfl (fun zoQ=>?_) (fun zoQ=>?_)
 ·replace h:=ym h zoQ
  refine WC.b (WC.a (WL.pu rfl (WL.nil (WX.a (WC.ret (WX.yj ?_))))))
  obtain rfl:=Option.some.inj h
  refine WX.yi Try.results62 (.tmp rfl .nil) (fun w hw=>?_)
  exact ⟨yM rfl,hw.sub .nil⟩
 ·replace h:=yn h zoQ
  refine WC.skip (WX.a (WC.b (WC.b (WC.a (WL.pu rfl ?_)))))
  refine WL.a (d:=11) rfl rfl rfl (ya y1Y rfl rfl) ?_
  refine WL.a (d:=12) rfl rfl rfl (yb y1Z rfl (yc .here rfl)) ?_
  refine WL.a (d:=13) rfl rfl rfl (yz Try.underlying22 rfl) ?_
  refine WL.pu rfl (WL.nil (WX.a ?_))
  refine WC.cond rfl (fun zoR=>?_) (fun zoR=>?_)
  ·replace h:=ym h zoR
   refine WC.b (WC.a (WL.pu rfl (WL.nil (WX.a (WC.ret (WX.yj ?_))))))
   obtain rfl:=Option.some.inj h
   refine WX.yi Try.results62 (.tmp rfl .nil) (fun w hw=>?_)
   exact ⟨yM rfl,hw.sub .nil⟩
  ·replace h:=yn h zoR
   refine WC.skip (WX.a (WC.b ?_))
   obtain ⟨zCm,h⟩:=ye h
   refine WC.a ?_
   refine WL.a (d:=15) rfl rfl rfl (ya y3y rfl rfl) ?_
   refine WL.a (d:=16) rfl rfl rfl (yb y3z rfl (yc .here rfl)) ?_
   refine WL.pu rfl ?_
   refine WL.a (d:=18) rfl rfl rfl (ya y1Y rfl rfl) ?_
   refine WL.a (d:=19) rfl rfl rfl (yb y1Z rfl (yc .here rfl)) ?_
   refine WL.a (d:=20) rfl rfl rfl (yz Try.underlying22 rfl) ?_
   refine WL.pu rfl ?_
   refine WL.znth (dd:=22) rfl rfl (Z:=Z) (Pr:=(fun r x=>r = e64 x)) y5h rfl rfl zCl zCm ?_
   rintro zKH zKI zCn zKJ rfl
   refine WL.a (d:=23) rfl rfl rfl (yx yaq rfl (y4t hz.pv zCn) rfl) ?_
   refine WL.new (dd:=7) rfl rfl rfl (y28 (cs:=[(.string ⟨#[]⟩),(.int .i64 0),(.int .i64 0),(.int .i64 0)]) y9L rfl) ?_
   intro zKK _
   refine WL.y1e rfl rfl (y1z yar rfl rfl rfl .here rfl rfl rfl) ?_
   refine WL.nil (WX.a (WC.b (WC.a ?_)))
   refine WL.a (d:=24) rfl rfl rfl (ya yas rfl rfl) ?_
   refine WL.a (d:=25) rfl rfl rfl (yb yd rfl (yc .here rfl)) ?_
   refine WL.pu rfl (WL.pu rfl (WL.pu rfl ?_))
   refine WL.seg true 3 28 (B:=(decide (((nth zF.fSwitches (i64 (z23 - ((zF.fModules.length : Nat) : Int)))).fNet) = z8v)) && (decide (((nth zF.fSwitches (i64 (z23 - ((zF.fModules.length : Nat) : Int)))).fDelay) ≥ 0))) rfl rfl rfl rfl rfl rfl (fun h=>(y1G h).symm) (fun _ zCo=>?_) ?_
   ·skip
    refine WL.a (d:=29) rfl rfl rfl (ya y5L rfl rfl) ?_
    refine WL.a (d:=30) rfl rfl rfl (yb yd rfl (yc .here rfl)) ?_
    refine WL.pu rfl (WL.pu rfl ?_)
    exact WL.yr (y1H zCo) rfl rfl .all
   refine WL.pu rfl ?_
   refine WL.seg true 3 33 (B:=((decide (((nth zF.fSwitches (i64 (z23 - ((zF.fModules.length : Nat) : Int)))).fNet) = z8v)) && (decide (((nth zF.fSwitches (i64 (z23 - ((zF.fModules.length : Nat) : Int)))).fDelay) ≥ 0))) && (decide (((nth zF.fSwitches (i64 (z23 - ((zF.fModules.length : Nat) : Int)))).fDelay) ≤ 1000))) rfl rfl rfl rfl rfl rfl (fun h=>(y1G h).symm) (fun _ zCp=>?_) ?_
   ·skip
    refine WL.a (d:=34) rfl rfl rfl (ya y5L rfl rfl) ?_
    refine WL.a (d:=35) rfl rfl rfl (yb yd rfl (yc .here rfl)) ?_
    refine WL.pu rfl (WL.pu rfl ?_)
    exact WL.yr (y1H zCp) rfl rfl .all
   refine WL.pu rfl ?_
   refine WL.seg true 3 38 (B:=(((decide (((nth zF.fSwitches (i64 (z23 - ((zF.fModules.length : Nat) : Int)))).fNet) = z8v)) && (decide (((nth zF.fSwitches (i64 (z23 - ((zF.fModules.length : Nat) : Int)))).fDelay) ≥ 0))) && (decide (((nth zF.fSwitches (i64 (z23 - ((zF.fModules.length : Nat) : Int)))).fDelay) ≤ 1000))) && (decide (((nth zF.fSwitches (i64 (z23 - ((zF.fModules.length : Nat) : Int)))).fStore) ≥ 0))) rfl rfl rfl rfl rfl rfl (fun h=>(y1G h).symm) (fun _ zCq=>?_) ?_
   ·skip
    refine WL.a (d:=39) rfl rfl rfl (ya y5M rfl rfl) ?_
    refine WL.a (d:=40) rfl rfl rfl (yb yd rfl (yc .here rfl)) ?_
    refine WL.pu rfl (WL.pu rfl ?_)
    exact WL.yr (y1H zCq) rfl rfl .all
   refine WL.pu rfl ?_
   refine WL.seg true 3 43 (B:=((((decide (((nth zF.fSwitches (i64 (z23 - ((zF.fModules.length : Nat) : Int)))).fNet) = z8v)) && (decide (((nth zF.fSwitches (i64 (z23 - ((zF.fModules.length : Nat) : Int)))).fDelay) ≥ 0))) && (decide (((nth zF.fSwitches (i64 (z23 - ((zF.fModules.length : Nat) : Int)))).fDelay) ≤ 1000))) && (decide (((nth zF.fSwitches (i64 (z23 - ((zF.fModules.length : Nat) : Int)))).fStore) ≥ 0))) && (decide (((nth zF.fSwitches (i64 (z23 - ((zF.fModules.length : Nat) : Int)))).fStore) ≤ 1073741824))) rfl rfl rfl rfl rfl rfl (fun h=>(y1G h).symm) (fun _ zCr=>?_) ?_
   ·skip
    refine WL.a (d:=44) rfl rfl rfl (ya y5M rfl rfl) ?_
    refine WL.a (d:=45) rfl rfl rfl (yb yd rfl (yc .here rfl)) ?_
    refine WL.pu rfl (WL.pu rfl ?_)
    exact WL.yr (y1H zCr) rfl rfl .all
   refine WL.pu rfl (WL.nil (WX.a (WC.ret ?_)))
   obtain rfl:=Option.some.inj h
   refine WX.yi Try.results62 (.tmp rfl .nil) (fun w hw=>?_)
   exact ⟨yM rfl,hw.sub .nil⟩
def y4D (zM : Sapi_Config) (z5t : Int) (z1k : Int) (z6O : Int) (z6P : Int) : Option Bool :=
 chk (((decide (z1k < 0)) || (decide (z1k ≥ ((zM.fLinks.length : Nat) : Int)))) = false → ((0 : Int) ≤ z1k ∧ z1k < ((zM.fLinks.length : Nat) : Int))) (chk ((((decide (z1k < 0)) || (decide (z1k ≥ ((zM.fLinks.length : Nat) : Int)))) || (decide (((nth zM.fLinks z1k).fNet) ≠ z5t))) = false → ((0 : Int) ≤ z1k ∧ z1k < ((zM.fLinks.length : Nat) : Int))) (chk (((((decide (z1k < 0)) || (decide (z1k ≥ ((zM.fLinks.length : Nat) : Int)))) || (decide (((nth zM.fLinks z1k).fNet) ≠ z5t))) || (decide (((nth zM.fLinks z1k).fSlow) < 1))) = false → ((0 : Int) ≤ z1k ∧ z1k < ((zM.fLinks.length : Nat) : Int))) (if ((((decide (z1k < 0)) || (decide (z1k ≥ ((zM.fLinks.length : Nat) : Int)))) || (decide (((nth zM.fLinks z1k).fNet) ≠ z5t))) || (decide (((nth zM.fLinks z1k).fSlow) < 1))) || (decide (((nth zM.fLinks z1k).fSlow) > 16)) then some false else chk ((0 : Int) ≤ z1k ∧ z1k < ((zM.fLinks.length : Nat) : Int)) ((y4h zM ((nth zM.fLinks z1k).fA)).bind fun z9B=>(y4h zM ((nth zM.fLinks z1k).fB)).bind fun z9C=>(if decide (z9B = z9C) then some true else (y4H zM z5t z9B).bind fun zuy=>some (!zuy)).bind fun zoS=>(if zoS then some true else (y4H zM z5t z9C).bind fun zuz=>some (!zuz)).bind fun zoT=>if zoT then some false else some (((decide (z9B = z6O)) && (decide (z9C = z6P))) || ((decide (z9B = z6P)) && (decide (z9C = z6O))))))))
set_option maxRecDepth 20000 in
theorem y9s (Z : Zp) (ziB : Option Addr) (ziC : Nat) (ziD : Option Addr) (ziE : Nat) (ziF : Option Addr) (ziG : Nat) (ziH : Option Addr) (ziI : Nat) (ziJ : Option Addr) (ziK : Nat) (ziL : Option Addr) (ziM : Nat) (ziN : Option Addr) (ziO : Nat) (ziP : Option Addr) (ziQ : Nat) (zM : Sapi_Config) (z5t : Int) (z1k : Int) (z6O : Int) (z6P : Int) (r : Bool)
  (h : y4D zM z5t z1k z6O z6P = some r) (w₀ : World) (hz : PZ [] w₀ Z)
  (zkV : ZS Z 4 (y2i Z) ziB ziC zM.fModules)
  (zkW : ZS Z 4 (y2R Z) ziD ziE zM.fChannels)
  (zkX : ZS Z 4 (fun r x=>r = e64 x) ziF ziG zM.fSwitches)
  (z9D : ZS Z 4 (fun r x=>r = e62 x) ziH ziI zM.fLinks)
  (zkY : ZS Z 7 (y2A Z) ziJ ziK zM.fVLs)
  (zkZ : ZS Z 5 (fun r x=>r = y2T x) ziL ziM zM.fHealth)
  (zl0 : ZS Z 3 (y2S Z) ziN ziO zM.fCauses)
  (zl1 : ZS Z 4 (fun r x=>r = y2U x) ziP ziQ zM.fVersions) :
  Calls Try.prog 49 #[(.agg #[(.slice ziB zM.fModules.length ziC),(.slice ziD zM.fChannels.length ziE),(.slice ziF zM.fSwitches.length ziG),(.slice ziH zM.fLinks.length ziI),(.slice ziJ zM.fVLs.length ziK),(.slice ziL zM.fHealth.length ziM),(.slice ziN zM.fCauses.length ziO),(.slice ziP zM.fVersions.length ziQ)]),(.int .i64 z5t),(.int .i64 z1k),(.int .i64 z6O),(.int .i64 z6P)] w₀ fun e w'=>e = .returned (.bool r) ∧ Hp [] w₀ w' []:=by
 unfold y4D at h
 refine Calls.yp (vs:=[(.agg #[(.slice ziB zM.fModules.length ziC),(.slice ziD zM.fChannels.length ziE),(.slice ziF zM.fSwitches.length ziG),(.slice ziH zM.fLinks.length ziI),(.slice ziJ zM.fVLs.length ziK),(.slice ziL zM.fHealth.length ziM),(.slice ziN zM.fCauses.length ziO),(.slice ziP zM.fVersions.length ziQ)]),(.int .i64 z5t),(.int .i64 z1k),(.int .i64 z6O),(.int .i64 z6P)]) (pre:=[]) (env:=[(0,(.agg #[(.slice ziB zM.fModules.length ziC),(.slice ziD zM.fChannels.length ziE),(.slice ziF zM.fSwitches.length ziG),(.slice ziH zM.fLinks.length ziI),(.slice ziJ zM.fVLs.length ziK),(.slice ziL zM.fHealth.length ziM),(.slice ziN zM.fCauses.length ziO),(.slice ziP zM.fVersions.length ziQ)])),(1,(.int .i64 z5t)),(2,(.int .i64 z1k)),(3,(.int .i64 z6O)),(4,(.int .i64 z6P))]) Try.func49 rfl Try.ntmps49 rfl (Hp.nil w₀ _) rfl ?_
 refine WC.b (WC.a ?_)
 refine WL.new (dd:=5) rfl rfl rfl (y1N (cs:=[(.slice ziB zM.fModules.length ziC),(.slice ziD zM.fChannels.length ziE),(.slice ziF zM.fSwitches.length ziG),(.slice ziH zM.fLinks.length ziI),(.slice ziJ zM.fVLs.length ziK),(.slice ziL zM.fHealth.length ziM),(.slice ziN zM.fCauses.length ziO),(.slice ziP zM.fVersions.length ziQ)]) rfl rfl) ?_
 intro zKL _
 refine WL.pu rfl (WL.nil (WX.a (WC.b (WC.b ?_))))
 obtain ⟨zCs,h⟩:=ye h
 obtain ⟨zCt,h⟩:=ye h
 obtain ⟨zCu,h⟩:=ye h
 refine WC.a (WL.pu rfl (WL.pu rfl (WL.pu rfl ?_)))
 refine WL.seg false 5 15 (B:=(decide (z1k < 0)) || (decide (z1k ≥ ((zM.fLinks.length : Nat) : Int)))) rfl rfl rfl rfl rfl rfl (fun h=>(y1p h).symm) (fun _ zCv=>?_) ?_
 ·skip
  refine WL.pu rfl ?_
  refine WL.a (d:=17) rfl rfl rfl (ya y49 rfl rfl) ?_
  refine WL.a (d:=18) rfl rfl rfl (yb y4a rfl (yc .here rfl)) ?_
  refine WL.a (d:=19) rfl rfl rfl (yz Try.underlying25 rfl) ?_
  refine WL.pu rfl (WL.pu rfl ?_)
  exact WL.yr (y1q zCv) rfl rfl .all
 refine WL.pu rfl ?_
 refine WL.seg false 8 22 (B:=((decide (z1k < 0)) || (decide (z1k ≥ ((zM.fLinks.length : Nat) : Int)))) || (decide (((nth zM.fLinks z1k).fNet) ≠ z5t))) rfl rfl rfl rfl rfl rfl (fun h=>(y1p h).symm) (fun _ zuA=>?_) ?_
 ·skip
  have zCw:=zCs zuA
  refine WL.a (d:=23) rfl rfl rfl (ya y49 rfl rfl) ?_
  refine WL.a (d:=24) rfl rfl rfl (yb y4a rfl (yc .here rfl)) ?_
  refine WL.pu rfl ?_
  refine WL.znth (dd:=26) rfl rfl (Z:=Z) (Pr:=(fun r x=>r = e62 x)) y5g rfl rfl z9D zCw ?_
  rintro zKM zKN zCx zKO rfl
  refine WL.a (d:=27) rfl rfl rfl (ya yap rfl rfl) ?_
  refine WL.a (d:=28) rfl rfl rfl (yb yd rfl (yD hz.pv zCx rfl)) ?_
  refine WL.pu rfl (WL.pu rfl (WL.pu rfl ?_))
  exact WL.yr (y1q zuA) rfl rfl .all
 refine WL.pu rfl ?_
 refine WL.seg false 7 32 (B:=(((decide (z1k < 0)) || (decide (z1k ≥ ((zM.fLinks.length : Nat) : Int)))) || (decide (((nth zM.fLinks z1k).fNet) ≠ z5t))) || (decide (((nth zM.fLinks z1k).fSlow) < 1))) rfl rfl rfl rfl rfl rfl (fun h=>(y1p h).symm) (fun _ zuB=>?_) ?_
 ·skip
  have zCy:=zCt zuB
  refine WL.a (d:=33) rfl rfl rfl (ya y49 rfl rfl) ?_
  refine WL.a (d:=34) rfl rfl rfl (yb y4a rfl (yc .here rfl)) ?_
  refine WL.pu rfl ?_
  refine WL.znth (dd:=36) rfl rfl (Z:=Z) (Pr:=(fun r x=>r = e62 x)) y5g rfl rfl z9D zCy ?_
  rintro zKP zKQ zCz zKR rfl
  refine WL.a (d:=37) rfl rfl rfl (ya y5K rfl rfl) ?_
  refine WL.a (d:=38) rfl rfl rfl (yb yd rfl (yD hz.pv zCz rfl)) ?_
  refine WL.pu rfl (WL.pu rfl ?_)
  exact WL.yr (y1q zuB) rfl rfl .all
 refine WL.pu rfl ?_
 refine WL.seg false 7 41 (B:=((((decide (z1k < 0)) || (decide (z1k ≥ ((zM.fLinks.length : Nat) : Int)))) || (decide (((nth zM.fLinks z1k).fNet) ≠ z5t))) || (decide (((nth zM.fLinks z1k).fSlow) < 1))) || (decide (((nth zM.fLinks z1k).fSlow) > 16))) rfl rfl rfl rfl rfl rfl (fun h=>(y1p h).symm) (fun _ zuC=>?_) ?_
 ·skip
  have zCA:=zCu zuC
  refine WL.a (d:=42) rfl rfl rfl (ya y49 rfl rfl) ?_
  refine WL.a (d:=43) rfl rfl rfl (yb y4a rfl (yc .here rfl)) ?_
  refine WL.pu rfl ?_
  refine WL.znth (dd:=45) rfl rfl (Z:=Z) (Pr:=(fun r x=>r = e62 x)) y5g rfl rfl z9D zCA ?_
  rintro zKS zKT zCB zKU rfl
  refine WL.a (d:=46) rfl rfl rfl (ya y5K rfl rfl) ?_
  refine WL.a (d:=47) rfl rfl rfl (yb yd rfl (yD hz.pv zCB rfl)) ?_
  refine WL.pu rfl (WL.pu rfl ?_)
  exact WL.yr (y1q zuC) rfl rfl .all
 refine WL.nil (WX.a ?_)
 refine WC.cond rfl (fun zoU=>?_) (fun zoU=>?_)
 ·replace h:=ym h zoU
  refine WC.b (WC.a (WL.pu rfl (WL.nil (WX.a (WC.ret (WX.yj ?_))))))
  obtain rfl:=Option.some.inj h
  refine WX.yi Try.results49 (.tmp rfl .nil) (fun w hw=>?_)
  exact ⟨yM rfl,hw.sub .nil⟩
 ·replace h:=yn h zoU
  refine WC.skip (WX.a (WC.b ?_))
  obtain ⟨zuD,h⟩:=ye h
  obtain ⟨z9B,zCC,h⟩:=zg h
  obtain ⟨z9C,zCD,h⟩:=zg h
  refine WC.yI (fun i=>[].contains i) [] rfl ?_
  refine WD.e (i:=0) (d:=50) (by kernel_rfl) rfl z2 z3 rfl rfl rfl (yx y1f rfl (yQ .here) rfl) ?_
  refine WD.a (i:=1) (d:=51) (by kernel_rfl) rfl z2 z3 rfl rfl rfl (fun _=>ya y49 rfl rfl) ?_
  refine WD.e (i:=2) (d:=52) (by kernel_rfl) rfl z2 z3 rfl rfl rfl (yb y4a rfl (yc .here rfl)) ?_
  refine WD.a (i:=3) (d:=53) (by kernel_rfl) rfl z2 z3 rfl rfl rfl (fun _=>q_m rfl) ?_
  refine WD.znth (j:=4) (dd:=54) (by kernel_rfl) rfl z2 z3 rfl rfl (Z:=Z) (Pr:=(fun r x=>r = e62 x)) y5g rfl rfl z9D zuD ?_
  rintro zKV zKW zCE zKX rfl
  refine WD.a (i:=5) (d:=55) (by kernel_rfl) rfl z2 z3 rfl rfl rfl (fun _=>ya yam rfl rfl) ?_
  refine WD.e (i:=6) (d:=56) (by kernel_rfl) rfl z2 z3 rfl rfl rfl (yb y5C rfl (yD hz.pv zCE rfl)) ?_
  refine WD.c (i:=7) (d:=57) (by kernel_rfl) rfl z2 z3 rfl rfl rfl (zC (l:=[.tmp 50,.tmp 56]) Try.call61 (.cons rfl (.cons rfl .nil))) (cc hz .nil fun w pz ho=>y7I _ _ _ _ _ _ _ _ _ _ _ _ _ _ _ _ _ _ _ _ zCC w pz zkV zkW zkX z9D zkY zkZ zl0 zl1) ?_
  refine WD.e (i:=8) (d:=58) (by kernel_rfl) rfl z2 z3 rfl rfl rfl (yx y1f rfl (yQ .here) rfl) ?_
  refine WD.a (i:=9) (d:=59) (by kernel_rfl) rfl z2 z3 rfl rfl rfl (fun _=>ya y49 rfl rfl) ?_
  refine WD.e (i:=10) (d:=60) (by kernel_rfl) rfl z2 z3 rfl rfl rfl (yb y4a rfl (yc .here rfl)) ?_
  refine WD.a (i:=11) (d:=61) (by kernel_rfl) rfl z2 z3 rfl rfl rfl (fun _=>q_m rfl) ?_
  refine WD.znth (j:=12) (dd:=62) (by kernel_rfl) rfl z2 z3 rfl rfl (Z:=Z) (Pr:=(fun r x=>r = e62 x)) y5g rfl rfl z9D zuD ?_
  rintro zKY zKZ zCF zL0 rfl
  refine WD.a (i:=13) (d:=63) (by kernel_rfl) rfl z2 z3 rfl rfl rfl (fun _=>ya yao rfl rfl) ?_
  refine WD.e (i:=14) (d:=64) (by kernel_rfl) rfl z2 z3 rfl rfl rfl (yb y5C rfl (yD hz.pv zCF rfl)) ?_
  refine WD.c (i:=15) (d:=65) (by kernel_rfl) rfl z2 z3 rfl rfl rfl (zC (l:=[.tmp 58,.tmp 64]) Try.call61 (.cons rfl (.cons rfl .nil))) (cc hz .nil fun w pz ho=>y7I _ _ _ _ _ _ _ _ _ _ _ _ _ _ _ _ _ _ _ _ zCD w pz zkV zkW zkX z9D zkY zkZ zl0 zl1) ?_
  refine WD.a (i:=16) (d:=11) (by kernel_rfl) rfl z2 z3 rfl rfl rfl (fun _=>q_z rfl) ?_
  refine WD.a (i:=17) (d:=12) (by kernel_rfl) rfl z2 z3 rfl rfl rfl (fun _=>q_z rfl) ?_
  refine WD.done (by kernel_rfl) ?_
  refine WX.a (WC.b (WC.b ?_))
  obtain ⟨zoS,zuE,h⟩:=zg h
  obtain ⟨zoT,zuF,h⟩:=zg h
  refine WC.a (WL.pu rfl (WL.pu rfl (WL.pu rfl (WL.pu rfl ?_))))
  refine WL.seg false 5 69 (B:=zoS) rfl rfl rfl rfl rfl rfl (fun h=>(Option.some.inj (ym zuE h)).symm) (fun _ zCG=>?_) ?_
  ·skip
   have ziR:=yn zuE zCG
   obtain ⟨zuy,zCH,ziR⟩:=zg ziR
   replace ziR:=Option.some.inj ziR
   refine WL.a (d:=70) rfl rfl rfl (yx y1f rfl (yQ .here) rfl) ?_
   refine WL.pu rfl (WL.pu rfl ?_)
   refine WL.b (dd:=73) rfl rfl rfl (zC (l:=[.tmp 70,.tmp 71,.tmp 72]) Try.call62 (.cons rfl (.cons rfl (.cons rfl .nil)))) .nil (cc hz .nil fun w pz ho=>y7Z _ _ _ _ _ _ _ _ _ _ _ _ _ _ _ _ _ _ _ _ _ zCH w pz zkV zkW zkX z9D zkY zkZ zl0 zl1) ?_
   refine WL.pu rfl (WL.pu rfl ?_)
   exact WL.yr ziR rfl rfl .all
  refine WL.pu rfl ?_
  refine WL.seg false 5 76 (B:=zoT) rfl rfl rfl rfl rfl rfl (fun h=>(Option.some.inj (ym zuF h)).symm) (fun _ zCI=>?_) ?_
  ·skip
   have ziS:=yn zuF zCI
   obtain ⟨zuz,zCJ,ziS⟩:=zg ziS
   replace ziS:=Option.some.inj ziS
   refine WL.a (d:=77) rfl rfl rfl (yx y1f rfl (yQ .here) rfl) ?_
   refine WL.pu rfl (WL.pu rfl ?_)
   refine WL.b (dd:=80) rfl rfl rfl (zC (l:=[.tmp 77,.tmp 78,.tmp 79]) Try.call62 (.cons rfl (.cons rfl (.cons rfl .nil)))) .nil (cc hz .nil fun w pz ho=>y7Z _ _ _ _ _ _ _ _ _ _ _ _ _ _ _ _ _ _ _ _ _ zCJ w pz zkV zkW zkX z9D zkY zkZ zl0 zl1) ?_
   refine WL.pu rfl (WL.pu rfl ?_)
   exact WL.yr ziS rfl rfl .all
  refine WL.nil (WX.a ?_)
  refine WC.cond rfl (fun zoV=>?_) (fun zoV=>?_)
  ·replace h:=ym h zoV
   refine WC.b (WC.a (WL.pu rfl (WL.nil (WX.a (WC.ret (WX.yj ?_))))))
   obtain rfl:=Option.some.inj h
   refine WX.yi Try.results49 (.tmp rfl .nil) (fun w hw=>?_)
   exact ⟨yM rfl,hw.sub .nil⟩
  ·replace h:=yn h zoV
   refine WC.skip (WX.a (WC.b (WC.a (WL.pu rfl (WL.pu rfl (WL.pu rfl (WL.pu rfl ?_)))))))
   refine WL.seg true 3 86 (B:=(decide (z9B = z6O)) && (decide (z9C = z6P))) rfl rfl rfl rfl rfl rfl (fun h=>(y1G h).symm) (fun _ zCK=>?_) ?_
   ·skip
    refine WL.pu rfl (WL.pu rfl (WL.pu rfl (WL.pu rfl ?_)))
    exact WL.yr (y1H zCK) rfl rfl .all
   refine WL.pu rfl ?_
   refine WL.seg false 8 91 (B:=((decide (z9B = z6O)) && (decide (z9C = z6P))) || ((decide (z9B = z6P)) && (decide (z9C = z6O)))) rfl rfl rfl rfl rfl rfl (fun h=>(y1p h).symm) (fun _ zCL=>?_) ?_
   ·skip
    refine WL.pu rfl (WL.pu rfl (WL.pu rfl (WL.pu rfl ?_)))
    refine WL.seg true 3 95 (B:=(decide (z9B = z6P)) && (decide (z9C = z6O))) rfl rfl rfl rfl rfl rfl (fun h=>(y1G h).symm) (fun _ zCM=>?_) ?_
    ·skip
     refine WL.pu rfl (WL.pu rfl (WL.pu rfl (WL.pu rfl ?_)))
     exact WL.yr (y1H zCM) rfl rfl .all
    refine WL.pu rfl ?_
    exact WL.yr (y1q zCL) rfl rfl .all
   refine WL.pu rfl (WL.nil (WX.a (WC.ret ?_)))
   obtain rfl:=Option.some.inj h
   refine WX.yi Try.results49 (.tmp rfl .nil) (fun w hw=>?_)
   exact ⟨yM rfl,hw.sub .nil⟩
end Go.Proofs.Ytinchjigeakocaa

/- A part of this claim's proof: models of functions, walks, plain laws. No conditions. -/
import Derived.Test.YtinchjigeakocaaW31ac
namespace Go.Proofs.Ytinchjigeakocaa
open Go Go.RowKit Sep
set_option linter.all false
set_option maxRecDepth 30000
set_option maxHeartbeats 4000000
def yK (z5 : List Sapi_Come) (zm : Int) (z11 : Sapi_Come → Sapi_Come → Option Int) (z6R : Int → Option (List Sapi_Come)) : Nat → Int → Int → Option (List Sapi_Come)
 | 0,_,_=>none
 | zem + 1,z1C,z21=>if decide (z1C < z21) then chk ((0 : Int) ≤ (i64 ((u64 (i64 (z1C + z21))) / 2 ^ min (1 : Int).toNat 64)) ∧ (i64 ((u64 (i64 (z1C + z21))) / 2 ^ min (1 : Int).toNat 64)) < ((z5.length : Nat) : Int)) (chk ((0 : Int) ≤ zm ∧ zm < ((z5.length : Nat) : Int)) ((z11 (⟨((nth z5 (i64 ((u64 (i64 (z1C + z21))) / 2 ^ min (1 : Int).toNat 64))).fSent),((nth z5 (i64 ((u64 (i64 (z1C + z21))) / 2 ^ min (1 : Int).toNat 64))).fNode),((nth z5 (i64 ((u64 (i64 (z1C + z21))) / 2 ^ min (1 : Int).toNat 64))).fTime)⟩ : Sapi_Come) (⟨((nth z5 zm).fSent),((nth z5 zm).fNode),((nth z5 zm).fTime)⟩ : Sapi_Come)).bind fun zjp=>if decide (zjp < 0) then yK z5 zm z11 z6R zem (i64 ((i64 ((u64 (i64 (z1C + z21))) / 2 ^ min (1 : Int).toNat 64)) + 1)) z21 else yK z5 zm z11 z6R zem z1C (i64 ((u64 (i64 (z1C + z21))) / 2 ^ min (1 : Int).toNat 64)))) else z6R z1C
theorem y3Q {n : Nat} {z5 : List Sapi_Come} {zm : Int} {z11 : Sapi_Come → Sapi_Come → Option Int} {z6R : Int → Option (List Sapi_Come)} {z1C : Int} {z21 : Int} {r : List Sapi_Come} (h : yK z5 zm z11 z6R n z1C z21 = some r) : ∃ m,n = m + 1:=by
 cases n with
 | zero=>cases h
 | succ m=>exact ⟨m,rfl⟩
def yL (z3O : Int) (z7X : (List Sapi_Come) → Option (List Sapi_Come)) : Nat → (List Sapi_Come) → Int → Option (List Sapi_Come)
 | 0,_,_=>none
 | zjq + 1,zs,zk=>if decide (zk < (i64 (z3O - 1))) then chk ((0 : Int) ≤ (i64 (zk + 1)) ∧ (i64 (zk + 1)) < ((zs.length : Nat) : Int)) (chk ((0 : Int) ≤ zk ∧ zk < ((zs.length : Nat) : Int)) (chk ((0 : Int) ≤ (i64 (zk + 1)) ∧ (i64 (zk + 1)) < (((zs.set (zk : Int).toNat (⟨((nth zs (i64 (zk + 1))).fSent),((nth zs (i64 (zk + 1))).fNode),((nth zs (i64 (zk + 1))).fTime)⟩ : Sapi_Come)).length : Nat) : Int)) (yL z3O z7X zjq ((zs.set (zk : Int).toNat (⟨((nth zs (i64 (zk + 1))).fSent),((nth zs (i64 (zk + 1))).fNode),((nth zs (i64 (zk + 1))).fTime)⟩ : Sapi_Come)).set ((i64 (zk + 1)) : Int).toNat (⟨((nth zs zk).fSent),((nth zs zk).fNode),((nth zs zk).fTime)⟩ : Sapi_Come)) (i64 (zk + 1))))) else z7X zs
theorem y3R {n : Nat} {z3O : Int} {z7X : (List Sapi_Come) → Option (List Sapi_Come)} {zs : List Sapi_Come} {zk : Int} {r : List Sapi_Come} (h : yL z3O z7X n zs zk = some r) : ∃ m,n = m + 1:=by
 cases n with
 | zero=>cases h
 | succ m=>exact ⟨m,rfl⟩
def yM (zx : Int) (z5 : List Sapi_Come) (z11 : Sapi_Come → Sapi_Come → Option Int) (z6S : Int → Option (List Sapi_Come)) : Nat → Int → Int → Option (List Sapi_Come)
 | 0,_,_=>none
 | zen + 1,z1D,z22=>if decide (z1D < z22) then chk ((0 : Int) ≤ zx ∧ zx < ((z5.length : Nat) : Int)) (chk ((0 : Int) ≤ (i64 ((u64 (i64 (z1D + z22))) / 2 ^ min (1 : Int).toNat 64)) ∧ (i64 ((u64 (i64 (z1D + z22))) / 2 ^ min (1 : Int).toNat 64)) < ((z5.length : Nat) : Int)) ((z11 (⟨((nth z5 zx).fSent),((nth z5 zx).fNode),((nth z5 zx).fTime)⟩ : Sapi_Come) (⟨((nth z5 (i64 ((u64 (i64 (z1D + z22))) / 2 ^ min (1 : Int).toNat 64))).fSent),((nth z5 (i64 ((u64 (i64 (z1D + z22))) / 2 ^ min (1 : Int).toNat 64))).fNode),((nth z5 (i64 ((u64 (i64 (z1D + z22))) / 2 ^ min (1 : Int).toNat 64))).fTime)⟩ : Sapi_Come)).bind fun zjr=>if !(decide (zjr < 0)) then yM zx z5 z11 z6S zen (i64 ((i64 ((u64 (i64 (z1D + z22))) / 2 ^ min (1 : Int).toNat 64)) + 1)) z22 else yM zx z5 z11 z6S zen z1D (i64 ((u64 (i64 (z1D + z22))) / 2 ^ min (1 : Int).toNat 64)))) else z6S z1D
theorem y3S {n : Nat} {zx : Int} {z5 : List Sapi_Come} {z11 : Sapi_Come → Sapi_Come → Option Int} {z6S : Int → Option (List Sapi_Come)} {z1D : Int} {z22 : Int} {r : List Sapi_Come} (h : yM zx z5 z11 z6S n z1D z22 = some r) : ∃ m,n = m + 1:=by
 cases n with
 | zero=>cases h
 | succ m=>exact ⟨m,rfl⟩
def yT (z3P : Int) (z7Y : (List Sapi_Come) → Option (List Sapi_Come)) : Nat → (List Sapi_Come) → Int → Option (List Sapi_Come)
 | 0,_,_=>none
 | zjs + 1,zt,zl=>if decide (zl > z3P) then chk ((0 : Int) ≤ (i64 (zl - 1)) ∧ (i64 (zl - 1)) < ((zt.length : Nat) : Int)) (chk ((0 : Int) ≤ zl ∧ zl < ((zt.length : Nat) : Int)) (chk ((0 : Int) ≤ (i64 (zl - 1)) ∧ (i64 (zl - 1)) < (((zt.set (zl : Int).toNat (⟨((nth zt (i64 (zl - 1))).fSent),((nth zt (i64 (zl - 1))).fNode),((nth zt (i64 (zl - 1))).fTime)⟩ : Sapi_Come)).length : Nat) : Int)) (yT z3P z7Y zjs ((zt.set (zl : Int).toNat (⟨((nth zt (i64 (zl - 1))).fSent),((nth zt (i64 (zl - 1))).fNode),((nth zt (i64 (zl - 1))).fTime)⟩ : Sapi_Come)).set ((i64 (zl - 1)) : Int).toNat (⟨((nth zt zl).fSent),((nth zt zl).fNode),((nth zt zl).fTime)⟩ : Sapi_Come)) (i64 (zl - 1))))) else z7Y zt
theorem y3T {n : Nat} {z3P : Int} {z7Y : (List Sapi_Come) → Option (List Sapi_Come)} {zt : List Sapi_Come} {zl : Int} {r : List Sapi_Come} (h : yT z3P z7Y n zt zl = some r) : ∃ m,n = m + 1:=by
 cases n with
 | zero=>cases h
 | succ m=>exact ⟨m,rfl⟩
def yH (zm : Int) (zA : Int) (zx : Int) (z5 : List Sapi_Come) (z11 : Sapi_Come → Sapi_Come → Option Int) (z6T : Int → Option (List Sapi_Come)) : Nat → Int → Int → Option (List Sapi_Come)
 | 0,_,_=>none
 | zeo + 1,z1a,z1g=>if decide (z1a < z1g) then chk ((0 : Int) ≤ (i64 ((i64 ((i64 ((i64 ((u64 (i64 (zm + zA))) / 2 ^ min (1 : Int).toNat 64)) + zx)) - 1)) - (i64 ((u64 (i64 (z1a + z1g))) / 2 ^ min (1 : Int).toNat 64)))) ∧ (i64 ((i64 ((i64 ((i64 ((u64 (i64 (zm + zA))) / 2 ^ min (1 : Int).toNat 64)) + zx)) - 1)) - (i64 ((u64 (i64 (z1a + z1g))) / 2 ^ min (1 : Int).toNat 64)))) < ((z5.length : Nat) : Int)) (chk ((0 : Int) ≤ (i64 ((u64 (i64 (z1a + z1g))) / 2 ^ min (1 : Int).toNat 64)) ∧ (i64 ((u64 (i64 (z1a + z1g))) / 2 ^ min (1 : Int).toNat 64)) < ((z5.length : Nat) : Int)) ((z11 (⟨((nth z5 (i64 ((i64 ((i64 ((i64 ((u64 (i64 (zm + zA))) / 2 ^ min (1 : Int).toNat 64)) + zx)) - 1)) - (i64 ((u64 (i64 (z1a + z1g))) / 2 ^ min (1 : Int).toNat 64))))).fSent),((nth z5 (i64 ((i64 ((i64 ((i64 ((u64 (i64 (zm + zA))) / 2 ^ min (1 : Int).toNat 64)) + zx)) - 1)) - (i64 ((u64 (i64 (z1a + z1g))) / 2 ^ min (1 : Int).toNat 64))))).fNode),((nth z5 (i64 ((i64 ((i64 ((i64 ((u64 (i64 (zm + zA))) / 2 ^ min (1 : Int).toNat 64)) + zx)) - 1)) - (i64 ((u64 (i64 (z1a + z1g))) / 2 ^ min (1 : Int).toNat 64))))).fTime)⟩ : Sapi_Come) (⟨((nth z5 (i64 ((u64 (i64 (z1a + z1g))) / 2 ^ min (1 : Int).toNat 64))).fSent),((nth z5 (i64 ((u64 (i64 (z1a + z1g))) / 2 ^ min (1 : Int).toNat 64))).fNode),((nth z5 (i64 ((u64 (i64 (z1a + z1g))) / 2 ^ min (1 : Int).toNat 64))).fTime)⟩ : Sapi_Come)).bind fun zjt=>if !(decide (zjt < 0)) then yH zm zA zx z5 z11 z6T zeo (i64 ((i64 ((u64 (i64 (z1a + z1g))) / 2 ^ min (1 : Int).toNat 64)) + 1)) z1g else yH zm zA zx z5 z11 z6T zeo z1a (i64 ((u64 (i64 (z1a + z1g))) / 2 ^ min (1 : Int).toNat 64)))) else z6T z1a
theorem y3N {n : Nat} {zm : Int} {zA : Int} {zx : Int} {z5 : List Sapi_Come} {z11 : Sapi_Come → Sapi_Come → Option Int} {z6T : Int → Option (List Sapi_Come)} {z1a : Int} {z1g : Int} {r : List Sapi_Come} (h : yH zm zA zx z5 z11 z6T n z1a z1g = some r) : ∃ m,n = m + 1:=by
 cases n with
 | zero=>cases h
 | succ m=>exact ⟨m,rfl⟩
def yR : Nat → (List Sapi_Come) → Int → Int → Int → (Sapi_Come → Sapi_Come → Option Int) → Option (List Sapi_Come)
 | 0,_,_,_,_,_=>none
 | zju + 1,z5,zm,zx,zA,z11=>jp0 (jp0 (jp2 (fun (z7Z : Int) (z80 : Int)=>jp1 (fun (z1E : Int)=>jp1 (fun (z47 : List Sapi_Come)=>jp1 (fun (z4n : List Sapi_Come)=>if (decide ((i64 ((u64 (i64 (zm + zA))) / 2 ^ min (1 : Int).toNat 64)) < (i64 ((i64 ((i64 ((u64 (i64 (zm + zA))) / 2 ^ min (1 : Int).toNat 64)) + zx)) - z1E)))) && (decide ((i64 ((i64 ((i64 ((u64 (i64 (zm + zA))) / 2 ^ min (1 : Int).toNat 64)) + zx)) - z1E)) < zA)) then ((yR zju) z4n (i64 ((u64 (i64 (zm + zA))) / 2 ^ min (1 : Int).toNat 64)) (i64 ((i64 ((i64 ((u64 (i64 (zm + zA))) / 2 ^ min (1 : Int).toNat 64)) + zx)) - z1E)) zA z11).bind fun zg2=>some zg2 else some z4n) fun zg3=>if (decide (zm < z1E)) && (decide (z1E < (i64 ((u64 (i64 (zm + zA))) / 2 ^ min (1 : Int).toNat 64)))) then ((yR zju) z47 zm z1E (i64 ((u64 (i64 (zm + zA))) / 2 ^ min (1 : Int).toNat 64)) z11).bind fun zep=>zg3 zep else zg3 z47) fun zg4=>if (decide (z1E < zx)) && (decide (zx < (i64 ((i64 ((i64 ((u64 (i64 (zm + zA))) / 2 ^ min (1 : Int).toNat 64)) + zx)) - z1E)))) then (y1z z5 z1E zx (i64 ((i64 ((i64 ((u64 (i64 (zm + zA))) / 2 ^ min (1 : Int).toNat 64)) + zx)) - z1E)) z11).bind fun zg5=>zg4 zg5 else zg4 z5) fun z6T=>yH zm zA zx z5 z11 z6T ys z7Z z80) fun zg6=>if decide (zx > (i64 ((u64 (i64 (zm + zA))) / 2 ^ min (1 : Int).toNat 64))) then zg6 (i64 ((i64 ((i64 ((u64 (i64 (zm + zA))) / 2 ^ min (1 : Int).toNat 64)) + zx)) - zA)) (i64 ((u64 (i64 (zm + zA))) / 2 ^ min (1 : Int).toNat 64)) else zg6 zm zx) fun zjv=>if decide ((i64 (zA - zx)) = 1) then jp1 (fun (z3P : Int)=>jp1 (fun (z6U : List Sapi_Come)=>some z6U) fun z7Y=>yT z3P z7Y ys z5 zx) fun z6S=>yM zx z5 z11 z6S ys zm zx else zjv) fun zjw=>if decide ((i64 (zx - zm)) = 1) then jp1 (fun (z3O : Int)=>jp1 (fun (z6V : List Sapi_Come)=>some z6V) fun z7X=>yL z3O z7X ys z5 zm) fun z6R=>yK z5 zm z11 z6R ys zx zA else zjw
def y1m (z5 : List Sapi_Come) (zm : Int) (zx : Int) (zA : Int) (z11 : Sapi_Come → Sapi_Come → Option Int) : Option (List Sapi_Come):=yR ys z5 zm zx zA z11
set_option maxRecDepth 20000 in
theorem y4c : ∀ (n : Nat) (Z : Zp) (zR : Option Addr) (zI : Nat) (z1n : FuncId) (z1A : List Value) (z5 : List Sapi_Come) (zm : Int) (zx : Int) (zA : Int) (z11 : Sapi_Come → Sapi_Come → Option Int) (r : List Sapi_Come) (w₀ : World) (hz : PZ (fps [row (.slice zR z5.length zI) 50 3 (z5.flatMap e50)]) w₀ Z)
  (z6W : ∀ args w,(callFunc z1n args).run Try.prog w = .ok (.enter z1n args) w)
  (z6X : ∀ w : World,PZ [] w Z → ∀ (x0 : Sapi_Come) (x1 : Sapi_Come) (r : Int),z11 x0 x1 = some r → Calls Try.prog z1n (([(.agg #[(.int .i64 x0.fSent),(.int .i64 x0.fNode),(.int .i64 x0.fTime)]),(.agg #[(.int .i64 x1.fSent),(.int .i64 x1.fNode),(.int .i64 x1.fTime)])] : List Value) ++ z1A).toArray w fun e w'=>e = .returned (.int .i64 r) ∧ Hp [] w w' []) (h : yR n z5 zm zx zA z11 = some r)
  (hown : Hp (fps [row (.slice zR z5.length zI) 50 3 (z5.flatMap e50)]) w₀ w₀ [row (.slice zR z5.length zI) 50 3 (z5.flatMap e50)]),Calls Try.prog 67 #[(.slice zR z5.length zI),(.int .i64 zm),(.int .i64 zx),(.int .i64 zA),(.func (.func z1n) #[] (z1A).toArray)] w₀ fun e w'=>e = .returned (.tuple #[]) ∧ (r.length = z5.length) ∧ Hp (fps [row (.slice zR z5.length zI) 50 3 (z5.flatMap e50)]) w₀ w' [row (.slice zR r.length zI) 50 3 (r.flatMap e50)]:=by
 intro n
 induction n with
 | zero=>intro Z zR zI z1n z1A z5 zm zx zA z11 r w₀ hz z6W z6X h hown; cases h
 | succ zju ih =>
  intro Z zR zI z1n z1A z5 zm zx zA z11 r w₀ hz z6W z6X h hown
  rw [yR] at h
  refine Calls.yo (vs:=[(.slice zR z5.length zI),(.int .i64 zm),(.int .i64 zx),(.int .i64 zA),(.func (.func z1n) #[] (z1A).toArray)]) (pre:=[row (.slice zR z5.length zI) 50 3 (z5.flatMap e50)]) (env:=[(0,(.slice zR z5.length zI)),(1,(.int .i64 zm)),(2,(.int .i64 zx)),(3,(.int .i64 zA)),(4,(.func (.func z1n) #[] (z1A).toArray))]) Try.func67 rfl Try.ntmps67 rfl (hown) rfl ?_
  obtain ⟨zjw,ztJ,h⟩:=y29 h
  refine WC.y2f ((zjw = some r)) ([(0,(.slice zR z5.length zI)),(1,(.int .i64 zm)),(2,(.int .i64 zx)),(3,(.int .i64 zA)),(4,(.func (.func z1n) #[] (z1A).toArray))]) ([row (.slice zR z5.length zI) 50 3 (z5.flatMap e50)]) ?_ ?_
  ·skip
   refine WC.b (WC.a (WL.pu rfl (WL.pu rfl (WL.pu rfl (WL.pu rfl (WL.nil (WX.a ?_)))))))
   refine WC.cond rfl (fun zjx=>?_) (fun zjx=>?_)
   ·replace h:=yk h zjx
    refine WC.b (WC.a (WL.pu rfl (WL.pu rfl (WL.nil (WX.a (WC.b (WC.a (WL.pu rfl (WL.pu rfl (WL.nil (WX.a ?_)))))))))))
    obtain ⟨z6R,ztK,h⟩:=y1b h
    refine WC.y1K (fun (z3O : Int)=>(z6R z3O = some r)) (fun (z3O : Int)=>[(0,(.slice zR z5.length zI)),(1,(.int .i64 zm)),(10,(.int .i64 z3O))]) (fun (z3O : Int)=>[row (.slice zR z5.length zI) 50 3 (z5.flatMap e50)]) ?_ ?_
    ·skip
     refine WC.block ?_
     refine WC.y2r (fun (zbI : Nat) (z1C : Int) (z21 : Int)=>(yK z5 zm z11 z6R zbI z1C z21 = some r)) (fun (zbI : Nat) (z1C : Int) (z21 : Int)=>[(0,(.slice zR z5.length zI)),(1,(.int .i64 zm)),(4,(.func (.func z1n) #[] (z1A).toArray)),(10,(.int .i64 z1C)),(11,(.int .i64 z21))]) (fun (zbI : Nat) (z1C : Int) (z21 : Int)=>[row (.slice zR z5.length zI) 50 3 (z5.flatMap e50)]) (fun (zbI : Nat) (z1C : Int) (z21 : Int)=>zbI) ⟨ys,zx,zA⟩ h (.cons rfl (.cons rfl (.cons rfl (.cons rfl (.cons rfl .nil))))) (.cons .here .nil) ?_
     rintro zbI z1C z21 h
     obtain ⟨zem,rfl⟩:=y3Q h
     rw [yK] at h
     refine WC.b (WC.b (WC.a (WL.pu rfl (WL.pu rfl (WL.pu rfl (WL.nil (WX.a ?_)))))))
     refine WC.cond rfl (fun zjy=>?_) (fun zjy=>?_)
     ·replace h:=yk h zjy
      refine WC.skip (WX.a (WC.block (WC.b (WC.a (WL.pu rfl (WL.pu rfl (WL.pu rfl ?_)))))))
      refine WL.a (d:=37) rfl rfl rfl (y4w Try.underlying3 Try.underlying157 rfl rfl) ?_
      refine WL.a (d:=38) rfl rfl rfl (y6o rfl rfl (by decide) rfl) ?_
      refine WL.a (d:=39) rfl rfl rfl (y4w Try.underlying157 Try.underlying3 rfl rfl) ?_
      refine WL.pu rfl (WL.nil (WX.a (WC.b ?_)))
      obtain ⟨zeq,h⟩:=yi h
      obtain ⟨zg7,h⟩:=yi h
      obtain ⟨zjp,ztL,h⟩:=zn h
      refine WC.y12 (fun i=>[].contains i) [] rfl ?_
      refine WD.a (i:=0) (d:=40) (by kernel_rfl) rfl z2 z3 rfl rfl rfl (fun _=>q_m rfl) ?_
      refine WD.a (i:=1) (d:=41) (by kernel_rfl) rfl z2 z3 rfl rfl rfl (fun _=>q_m rfl) ?_
      refine WD.a (i:=2) (d:=42) (by kernel_rfl) rfl z2 z3 rfl rfl rfl (fun _=>q_m rfl) ?_
      refine WD.know (fun w hw=>Hp.y2G .here hw (by intro hz'; have:=zeq; rw [hz'] at this; omega)) ?_
      rintro ⟨zzs,rfl⟩
      refine WD.a (i:=3) (d:=43) (by kernel_rfl) rfl z2 z3 rfl rfl rfl (fun _=>yu y14 rfl rfl zeq.1 zeq.2 y1f) ?_
      refine WD.e (i:=4) (d:=44) (by kernel_rfl) rfl z2 z3 rfl rfl rfl (y1L (cs:=(e50 (nth z5 (i64 ((u64 (i64 (z1C + z21))) / 2 ^ min (1 : Int).toNat 64))))) y1T rfl rfl (y1X .here (y1S (enc:=e50) (l:=z5) (i:=i64 ((u64 (i64 (z1C + z21))) / 2 ^ min (1 : Int).toNat 64)) (sz:=3) (fun _=>rfl) zeq.1 zeq.2))) ?_
      refine WD.a (i:=5) (d:=45) (by kernel_rfl) rfl z2 z3 rfl rfl rfl (fun _=>q_m rfl) ?_
      refine WD.a (i:=6) (d:=46) (by kernel_rfl) rfl z2 z3 rfl rfl rfl (fun _=>q_m rfl) ?_
      refine WD.a (i:=7) (d:=47) (by kernel_rfl) rfl z2 z3 rfl rfl rfl (fun _=>yu y14 rfl rfl zg7.1 zg7.2 y1f) ?_
      refine WD.e (i:=8) (d:=48) (by kernel_rfl) rfl z2 z3 rfl rfl rfl (y1L (cs:=(e50 (nth z5 zm))) y1T rfl rfl (y1X .here (y1S (enc:=e50) (l:=z5) (i:=zm) (sz:=3) (fun _=>rfl) zg7.1 zg7.2))) ?_
      refine WD.c (i:=9) (d:=49) (by kernel_rfl) rfl z2 z3 rfl rfl rfl (y3V (l:=[.tmp 44,.tmp 48]) (f:=z1n) (caps:=z1A) z6W rfl (.cons rfl (.cons rfl .nil))) (fun w hw=>z6X w (hz.now hw) (⟨((nth z5 (i64 ((u64 (i64 (z1C + z21))) / 2 ^ min (1 : Int).toNat 64))).fSent),((nth z5 (i64 ((u64 (i64 (z1C + z21))) / 2 ^ min (1 : Int).toNat 64))).fNode),((nth z5 (i64 ((u64 (i64 (z1C + z21))) / 2 ^ min (1 : Int).toNat 64))).fTime)⟩ : Sapi_Come) (⟨((nth z5 zm).fSent),((nth z5 zm).fNode),((nth z5 zm).fTime)⟩ : Sapi_Come) zjp  ztL) ?_
      refine WD.a (i:=10) (d:=50) (by kernel_rfl) rfl z2 z3 rfl rfl rfl (fun _=>y3B rfl rfl) ?_
      refine WD.done (by kernel_rfl) ?_
      refine WX.a ?_
      refine WC.cond rfl (fun zjz=>?_) (fun zjz=>?_)
      ·replace h:=yk h zjz
       refine WC.a (WL.pu rfl (WL.pu rfl (WL.pu rfl (WL.nil (WX.yg ?_)))))
       exact WX.round (G:=Nat × Int × Int) ⟨zem,(i64 ((i64 ((u64 (i64 (z1C + z21))) / 2 ^ min (1 : Int).toNat 64)) + 1)),z21⟩ h (Nat.lt_succ_self _) (.cons rfl (.cons rfl (.cons rfl (.cons rfl (.cons rfl .nil))))) (.cons .here .nil)
      ·replace h:=yl h zjz
       refine WC.a (WL.pu rfl (WL.pu rfl (WL.nil (WX.yg ?_))))
       exact WX.round (G:=Nat × Int × Int) ⟨zem,z1C,(i64 ((u64 (i64 (z1C + z21))) / 2 ^ min (1 : Int).toNat 64))⟩ h (Nat.lt_succ_self _) (.cons rfl (.cons rfl (.cons rfl (.cons rfl (.cons rfl .nil))))) (.cons .here .nil)
     ·replace h:=yl h zjy
      refine WC.exit (WX.yc (WX.yc (WX.yt ?_)))
      exact WX.mid (G:=Int) z1C h (.cons rfl (.cons rfl (.cons rfl .nil))) (.cons .here .nil)
    ·rintro z3O h
     replace h:=(ztK z3O).symm.trans h
     obtain ⟨z7X,ztM,h⟩:=y1b h
     refine WC.y1K (fun (z6V : List Sapi_Come)=>(z7X z6V = some r) ∧ (z6V.length = z5.length)) (fun (z6V : List Sapi_Come)=>[]) (fun (z6V : List Sapi_Come)=>[row (.slice zR z6V.length zI) 50 3 (z6V.flatMap e50)]) ?_ ?_
     ·skip
      refine WC.b (WC.a (WL.pu rfl (WL.pu rfl (WL.nil (WX.a (WC.block ?_))))))
      refine WC.y2r (fun (zbJ : Nat) (zs : List Sapi_Come) (zk : Int)=>(yL z3O z7X zbJ zs zk = some r) ∧ (zs.length = z5.length)) (fun (zbJ : Nat) (zs : List Sapi_Come) (zk : Int)=>[(0,(.slice zR zs.length zI)),(10,(.int .i64 z3O)),(13,(.int .i64 zk))]) (fun (zbJ : Nat) (zs : List Sapi_Come) (zk : Int)=>[row (.slice zR zs.length zI) 50 3 (zs.flatMap e50)]) (fun (zbJ : Nat) (zs : List Sapi_Come) (zk : Int)=>zbJ) ⟨ys,z5,zm⟩ ⟨h,rfl⟩ (.cons rfl (.cons rfl (.cons rfl .nil))) (.cons .here .nil) ?_
      rintro zbJ zs zk ⟨h,zoo⟩
      obtain ⟨zjq,rfl⟩:=y3R h
      rw [yL] at h
      refine WC.b (WC.b (WC.a (WL.pu rfl (WL.pu rfl (WL.pu rfl (WL.pu rfl (WL.nil (WX.a ?_))))))))
      refine WC.cond rfl (fun zjA=>?_) (fun zjA=>?_)
      ·replace h:=yk h zjA
       refine WC.skip (WX.a (WC.b (WC.block ?_)))
       obtain ⟨zer,h⟩:=yi h
       obtain ⟨z6Y,h⟩:=yi h
       obtain ⟨zbK,h⟩:=yi h
       refine WC.y12 (fun i=>[15,17].contains i) [] rfl ?_
       refine WD.a (i:=0) (d:=61) (by kernel_rfl) rfl z2 z3 rfl rfl rfl (fun _=>q_m rfl) ?_
       refine WD.a (i:=1) (d:=62) (by kernel_rfl) rfl z2 z3 rfl rfl rfl (fun _=>q_m rfl) ?_
       refine WD.a (i:=2) (d:=63) (by kernel_rfl) rfl z2 z3 rfl rfl rfl (fun _=>q_m rfl) ?_
       refine WD.a (i:=3) (d:=64) (by kernel_rfl) rfl z2 z3 rfl rfl rfl (fun _=>q_m rfl) ?_
       refine WD.a (i:=4) (d:=65) (by kernel_rfl) rfl z2 z3 rfl rfl rfl (fun _=>y4z rfl rfl rfl) ?_
       refine WD.a (i:=5) (d:=66) (by kernel_rfl) rfl z2 z3 rfl rfl rfl (fun _=>q_m rfl) ?_
       refine WD.a (i:=6) (d:=67) (by kernel_rfl) rfl z2 z3 rfl rfl rfl (fun _=>q_m rfl) ?_
       refine WD.a (i:=7) (d:=68) (by kernel_rfl) rfl z2 z3 rfl rfl rfl (fun _=>y4z rfl rfl rfl) ?_
       refine WD.know (fun w hw=>Hp.y2G .here hw (by intro hz'; have:=zer; rw [hz'] at this; omega)) ?_
       rintro ⟨zes,rfl⟩
       refine WD.a (i:=8) (d:=69) (by kernel_rfl) rfl z2 z3 rfl rfl rfl (fun _=>yu y14 rfl rfl zer.1 zer.2 y1f) ?_
       refine WD.e (i:=9) (d:=70) (by kernel_rfl) rfl z2 z3 rfl rfl rfl (y1L (cs:=(e50 (nth zs (i64 (zk + 1))))) y1T rfl rfl (y1X .here (y1S (enc:=e50) (l:=zs) (i:=i64 (zk + 1)) (sz:=3) (fun _=>rfl) zer.1 zer.2))) ?_
       refine WD.a (i:=10) (d:=71) (by kernel_rfl) rfl z2 z3 rfl rfl rfl (fun _=>q_m rfl) ?_
       refine WD.a (i:=11) (d:=72) (by kernel_rfl) rfl z2 z3 rfl rfl rfl (fun _=>q_m rfl) ?_
       refine WD.a (i:=12) (d:=73) (by kernel_rfl) rfl z2 z3 rfl rfl rfl (fun _=>yu y14 rfl rfl z6Y.1 z6Y.2 y1f) ?_
       refine WD.e (i:=13) (d:=74) (by kernel_rfl) rfl z2 z3 rfl rfl rfl (y1L (cs:=(e50 (nth zs zk))) y1T rfl rfl (y1X .here (y1S (enc:=e50) (l:=zs) (i:=zk) (sz:=3) (fun _=>rfl) z6Y.1 z6Y.2))) ?_
       refine WD.a (i:=14) (d:=75) (by kernel_rfl) rfl z2 z3 rfl rfl rfl (fun _=>yu y14 rfl rfl z6Y.1 z6Y.2 y1f) ?_
       refine WD.forced0 (i:=15) rfl (by kernel_rfl) rfl rfl rfl (Sin.of .nil) (y2y (vs:=[(.int .i64 ((nth zs (i64 (zk + 1))).fSent)),(.int .i64 ((nth zs (i64 (zk + 1))).fNode)),(.int .i64 ((nth zs (i64 (zk + 1))).fTime))]) (ds:=(zs.set (zk : Int).toNat (⟨((nth zs (i64 (zk + 1))).fSent),((nth zs (i64 (zk + 1))).fNode),((nth zs (i64 (zk + 1))).fTime)⟩ : Sapi_Come)).flatMap e50) y49 rfl rfl rfl rfl (ocB rfl) .here (y3f (enc:=e50) (sz:=3) (k:=0) (fun _=>rfl) z6Y.1 z6Y.2 (by decide)) (y3e (enc:=e50) (l:=zs) (sz:=3) (vs:=[(.int .i64 ((nth zs (i64 (zk + 1))).fSent)),(.int .i64 ((nth zs (i64 (zk + 1))).fNode)),(.int .i64 ((nth zs (i64 (zk + 1))).fTime))]) (y:=(⟨((nth zs (i64 (zk + 1))).fSent),((nth zs (i64 (zk + 1))).fNode),((nth zs (i64 (zk + 1))).fTime)⟩ : Sapi_Come)) (k:=0) (fun _=>rfl) z6Y.1 z6Y.2 rfl (Nat.le_of_ble_eq_true rfl))) ?_
       refine WD.relen .here (u:=(.slice (some ⟨zes,0,none⟩) ((zs.set (zk : Int).toNat (⟨((nth zs (i64 (zk + 1))).fSent),((nth zs (i64 (zk + 1))).fNode),((nth zs (i64 (zk + 1))).fTime)⟩ : Sapi_Come)).length) zI)) (y1P (List.length_set).symm) ?_
       refine WD.repin (i:=0) rfl (u:=(.slice (some ⟨zes,0,none⟩) ((zs.set (zk : Int).toNat (⟨((nth zs (i64 (zk + 1))).fSent),((nth zs (i64 (zk + 1))).fNode),((nth zs (i64 (zk + 1))).fTime)⟩ : Sapi_Come)).length) zI)) (y1P (List.length_set).symm) ?_
       refine WD.repin (i:=63) rfl (u:=(.slice (some ⟨zes,0,none⟩) ((zs.set (zk : Int).toNat (⟨((nth zs (i64 (zk + 1))).fSent),((nth zs (i64 (zk + 1))).fNode),((nth zs (i64 (zk + 1))).fTime)⟩ : Sapi_Come)).length) zI)) (y1P (List.length_set).symm) ?_
       refine WD.a (i:=16) (d:=76) (by kernel_rfl) rfl z2 z3 rfl rfl rfl (fun _=>yu y14 rfl rfl zbK.1 zbK.2 y1f) ?_
       refine WD.y2L (i:=17) rfl (by kernel_rfl) rfl rfl rfl (by kernel_rfl) (y2y (vs:=[(.int .i64 ((nth zs zk).fSent)),(.int .i64 ((nth zs zk).fNode)),(.int .i64 ((nth zs zk).fTime))]) (ds:=((zs.set (zk : Int).toNat (⟨((nth zs (i64 (zk + 1))).fSent),((nth zs (i64 (zk + 1))).fNode),((nth zs (i64 (zk + 1))).fTime)⟩ : Sapi_Come)).set ((i64 (zk + 1)) : Int).toNat (⟨((nth zs zk).fSent),((nth zs zk).fNode),((nth zs zk).fTime)⟩ : Sapi_Come)).flatMap e50) y49 rfl rfl rfl rfl (ocB rfl) .here (y3f (enc:=e50) (sz:=3) (k:=0) (fun _=>rfl) zbK.1 zbK.2 (by decide)) (y3e (enc:=e50) (l:=zs.set (zk : Int).toNat (⟨((nth zs (i64 (zk + 1))).fSent),((nth zs (i64 (zk + 1))).fNode),((nth zs (i64 (zk + 1))).fTime)⟩ : Sapi_Come)) (sz:=3) (vs:=[(.int .i64 ((nth zs zk).fSent)),(.int .i64 ((nth zs zk).fNode)),(.int .i64 ((nth zs zk).fTime))]) (y:=(⟨((nth zs zk).fSent),((nth zs zk).fNode),((nth zs zk).fTime)⟩ : Sapi_Come)) (k:=0) (fun _=>rfl) zbK.1 zbK.2 rfl (Nat.le_of_ble_eq_true rfl))) ?_
       refine WD.relen .here (u:=(.slice (some ⟨zes,0,none⟩) (((zs.set (zk : Int).toNat (⟨((nth zs (i64 (zk + 1))).fSent),((nth zs (i64 (zk + 1))).fNode),((nth zs (i64 (zk + 1))).fTime)⟩ : Sapi_Come)).set ((i64 (zk + 1)) : Int).toNat (⟨((nth zs zk).fSent),((nth zs zk).fNode),((nth zs zk).fTime)⟩ : Sapi_Come)).length) zI)) (y1P (List.length_set).symm) ?_
       refine WD.repin (i:=0) rfl (u:=(.slice (some ⟨zes,0,none⟩) (((zs.set (zk : Int).toNat (⟨((nth zs (i64 (zk + 1))).fSent),((nth zs (i64 (zk + 1))).fNode),((nth zs (i64 (zk + 1))).fTime)⟩ : Sapi_Come)).set ((i64 (zk + 1)) : Int).toNat (⟨((nth zs zk).fSent),((nth zs zk).fNode),((nth zs zk).fTime)⟩ : Sapi_Come)).length) zI)) (y1P (List.length_set).symm) ?_
       refine WD.done (by kernel_rfl) ?_
       refine WX.yg (WX.a (WC.a (WL.pu rfl (WL.pu rfl (WL.pu rfl (WL.nil ?_))))))
       exact WX.round (G:=Nat × List Sapi_Come × Int) ⟨zjq,((zs.set (zk : Int).toNat (⟨((nth zs (i64 (zk + 1))).fSent),((nth zs (i64 (zk + 1))).fNode),((nth zs (i64 (zk + 1))).fTime)⟩ : Sapi_Come)).set ((i64 (zk + 1)) : Int).toNat (⟨((nth zs zk).fSent),((nth zs zk).fNode),((nth zs zk).fTime)⟩ : Sapi_Come)),(i64 (zk + 1))⟩ ⟨h,((List.length_set).trans ((List.length_set).trans zoo))⟩ (Nat.lt_succ_self _) (.cons rfl (.cons rfl (.cons rfl .nil))) (.cons .here .nil)
      ·replace h:=yl h zjA
       refine WC.exit (WX.yc (WX.yc (WX.yt ?_)))
       exact WX.mid (G:=List Sapi_Come) zs ⟨h,zoo⟩ .nil (.cons .here .nil)
     ·rintro z6V ⟨h,ztN⟩
      replace h:=(ztM z6V).symm.trans h
      refine WC.ret (WX.ye ?_)
      obtain rfl:=Option.some.inj h
      refine WX.yj Try.results67 .nil (fun w hw=>?_)
      exact ⟨y4u,ztN,hw.sub (.cons .here .nil)⟩
   ·replace h:=yl h zjx
    refine WC.skip ?_
    exact WX.mid (G:=Unit) () h (.cons rfl (.cons rfl (.cons rfl (.cons rfl (.cons rfl .nil))))) (.cons .here .nil)
  ·rintro  h
   replace h:=ztJ.symm.trans h
   obtain ⟨zjv,ztO,h⟩:=y29 h
   refine WC.y2f ((zjv = some r)) ([(0,(.slice zR z5.length zI)),(1,(.int .i64 zm)),(2,(.int .i64 zx)),(3,(.int .i64 zA)),(4,(.func (.func z1n) #[] (z1A).toArray))]) ([row (.slice zR z5.length zI) 50 3 (z5.flatMap e50)]) ?_ ?_
   ·skip
    refine WC.b (WC.a (WL.pu rfl (WL.pu rfl (WL.pu rfl (WL.pu rfl (WL.nil (WX.a ?_)))))))
    refine WC.cond rfl (fun zjB=>?_) (fun zjB=>?_)
    ·replace h:=yk h zjB
     refine WC.b (WC.a (WL.pu rfl (WL.pu rfl (WL.nil (WX.a (WC.b (WC.a (WL.pu rfl (WL.pu rfl (WL.nil (WX.a ?_)))))))))))
     obtain ⟨z6S,ztP,h⟩:=y1b h
     refine WC.y1K (fun (z3P : Int)=>(z6S z3P = some r)) (fun (z3P : Int)=>[(0,(.slice zR z5.length zI)),(2,(.int .i64 zx)),(14,(.int .i64 z3P))]) (fun (z3P : Int)=>[row (.slice zR z5.length zI) 50 3 (z5.flatMap e50)]) ?_ ?_
     ·skip
      refine WC.block ?_
      refine WC.y2r (fun (zbL : Nat) (z1D : Int) (z22 : Int)=>(yM zx z5 z11 z6S zbL z1D z22 = some r)) (fun (zbL : Nat) (z1D : Int) (z22 : Int)=>[(0,(.slice zR z5.length zI)),(2,(.int .i64 zx)),(4,(.func (.func z1n) #[] (z1A).toArray)),(14,(.int .i64 z1D)),(15,(.int .i64 z22))]) (fun (zbL : Nat) (z1D : Int) (z22 : Int)=>[row (.slice zR z5.length zI) 50 3 (z5.flatMap e50)]) (fun (zbL : Nat) (z1D : Int) (z22 : Int)=>zbL) ⟨ys,zm,zx⟩ h (.cons rfl (.cons rfl (.cons rfl (.cons rfl (.cons rfl .nil))))) (.cons .here .nil) ?_
      rintro zbL z1D z22 h
      obtain ⟨zen,rfl⟩:=y3S h
      rw [yM] at h
      refine WC.b (WC.b (WC.a (WL.pu rfl (WL.pu rfl (WL.pu rfl (WL.nil (WX.a ?_)))))))
      refine WC.cond rfl (fun zjC=>?_) (fun zjC=>?_)
      ·replace h:=yk h zjC
       refine WC.skip (WX.a (WC.block (WC.b (WC.a (WL.pu rfl (WL.pu rfl (WL.pu rfl ?_)))))))
       refine WL.a (d:=89) rfl rfl rfl (y4w Try.underlying3 Try.underlying157 rfl rfl) ?_
       refine WL.a (d:=90) rfl rfl rfl (y6o rfl rfl (by decide) rfl) ?_
       refine WL.a (d:=91) rfl rfl rfl (y4w Try.underlying157 Try.underlying3 rfl rfl) ?_
       refine WL.pu rfl (WL.nil (WX.a (WC.b ?_)))
       obtain ⟨zet,h⟩:=yi h
       obtain ⟨zg8,h⟩:=yi h
       obtain ⟨zjr,ztQ,h⟩:=zn h
       refine WC.y12 (fun i=>[].contains i) [] rfl ?_
       refine WD.a (i:=0) (d:=92) (by kernel_rfl) rfl z2 z3 rfl rfl rfl (fun _=>q_m rfl) ?_
       refine WD.a (i:=1) (d:=93) (by kernel_rfl) rfl z2 z3 rfl rfl rfl (fun _=>q_m rfl) ?_
       refine WD.a (i:=2) (d:=94) (by kernel_rfl) rfl z2 z3 rfl rfl rfl (fun _=>q_m rfl) ?_
       refine WD.know (fun w hw=>Hp.y2G .here hw (by intro hz'; have:=zet; rw [hz'] at this; omega)) ?_
       rintro ⟨zzt,rfl⟩
       refine WD.a (i:=3) (d:=95) (by kernel_rfl) rfl z2 z3 rfl rfl rfl (fun _=>yu y14 rfl rfl zet.1 zet.2 y1f) ?_
       refine WD.e (i:=4) (d:=96) (by kernel_rfl) rfl z2 z3 rfl rfl rfl (y1L (cs:=(e50 (nth z5 zx))) y1T rfl rfl (y1X .here (y1S (enc:=e50) (l:=z5) (i:=zx) (sz:=3) (fun _=>rfl) zet.1 zet.2))) ?_
       refine WD.a (i:=5) (d:=97) (by kernel_rfl) rfl z2 z3 rfl rfl rfl (fun _=>q_m rfl) ?_
       refine WD.a (i:=6) (d:=98) (by kernel_rfl) rfl z2 z3 rfl rfl rfl (fun _=>q_m rfl) ?_
       refine WD.a (i:=7) (d:=99) (by kernel_rfl) rfl z2 z3 rfl rfl rfl (fun _=>yu y14 rfl rfl zg8.1 zg8.2 y1f) ?_
       refine WD.e (i:=8) (d:=100) (by kernel_rfl) rfl z2 z3 rfl rfl rfl (y1L (cs:=(e50 (nth z5 (i64 ((u64 (i64 (z1D + z22))) / 2 ^ min (1 : Int).toNat 64))))) y1T rfl rfl (y1X .here (y1S (enc:=e50) (l:=z5) (i:=i64 ((u64 (i64 (z1D + z22))) / 2 ^ min (1 : Int).toNat 64)) (sz:=3) (fun _=>rfl) zg8.1 zg8.2))) ?_
       refine WD.c (i:=9) (d:=101) (by kernel_rfl) rfl z2 z3 rfl rfl rfl (y3V (l:=[.tmp 96,.tmp 100]) (f:=z1n) (caps:=z1A) z6W rfl (.cons rfl (.cons rfl .nil))) (fun w hw=>z6X w (hz.now hw) (⟨((nth z5 zx).fSent),((nth z5 zx).fNode),((nth z5 zx).fTime)⟩ : Sapi_Come) (⟨((nth z5 (i64 ((u64 (i64 (z1D + z22))) / 2 ^ min (1 : Int).toNat 64))).fSent),((nth z5 (i64 ((u64 (i64 (z1D + z22))) / 2 ^ min (1 : Int).toNat 64))).fNode),((nth z5 (i64 ((u64 (i64 (z1D + z22))) / 2 ^ min (1 : Int).toNat 64))).fTime)⟩ : Sapi_Come) zjr  ztQ) ?_
       refine WD.a (i:=10) (d:=102) (by kernel_rfl) rfl z2 z3 rfl rfl rfl (fun _=>y3B rfl rfl) ?_
       refine WD.a (i:=11) (d:=103) (by kernel_rfl) rfl z2 z3 rfl rfl rfl (fun _=>q_not rfl) ?_
       refine WD.done (by kernel_rfl) ?_
       refine WX.a ?_
       refine WC.cond rfl (fun zjD=>?_) (fun zjD=>?_)
       ·replace h:=yk h zjD
        refine WC.a (WL.pu rfl (WL.pu rfl (WL.pu rfl (WL.nil (WX.yg ?_)))))
        exact WX.round (G:=Nat × Int × Int) ⟨zen,(i64 ((i64 ((u64 (i64 (z1D + z22))) / 2 ^ min (1 : Int).toNat 64)) + 1)),z22⟩ h (Nat.lt_succ_self _) (.cons rfl (.cons rfl (.cons rfl (.cons rfl (.cons rfl .nil))))) (.cons .here .nil)
       ·replace h:=yl h zjD
        refine WC.a (WL.pu rfl (WL.pu rfl (WL.nil (WX.yg ?_))))
        exact WX.round (G:=Nat × Int × Int) ⟨zen,z1D,(i64 ((u64 (i64 (z1D + z22))) / 2 ^ min (1 : Int).toNat 64))⟩ h (Nat.lt_succ_self _) (.cons rfl (.cons rfl (.cons rfl (.cons rfl (.cons rfl .nil))))) (.cons .here .nil)
      ·replace h:=yl h zjC
       refine WC.exit (WX.yc (WX.yc (WX.yt ?_)))
       exact WX.mid (G:=Int) z1D h (.cons rfl (.cons rfl (.cons rfl .nil))) (.cons .here .nil)
     ·rintro z3P h
      replace h:=(ztP z3P).symm.trans h
      obtain ⟨z7Y,ztR,h⟩:=y1b h
      refine WC.y1K (fun (z6U : List Sapi_Come)=>(z7Y z6U = some r) ∧ (z6U.length = z5.length)) (fun (z6U : List Sapi_Come)=>[]) (fun (z6U : List Sapi_Come)=>[row (.slice zR z6U.length zI) 50 3 (z6U.flatMap e50)]) ?_ ?_
      ·skip
       refine WC.b (WC.a (WL.pu rfl (WL.pu rfl (WL.nil (WX.a (WC.block ?_))))))
       refine WC.y2r (fun (zbM : Nat) (zt : List Sapi_Come) (zl : Int)=>(yT z3P z7Y zbM zt zl = some r) ∧ (zt.length = z5.length)) (fun (zbM : Nat) (zt : List Sapi_Come) (zl : Int)=>[(0,(.slice zR zt.length zI)),(14,(.int .i64 z3P)),(17,(.int .i64 zl))]) (fun (zbM : Nat) (zt : List Sapi_Come) (zl : Int)=>[row (.slice zR zt.length zI) 50 3 (zt.flatMap e50)]) (fun (zbM : Nat) (zt : List Sapi_Come) (zl : Int)=>zbM) ⟨ys,z5,zx⟩ ⟨h,rfl⟩ (.cons rfl (.cons rfl (.cons rfl .nil))) (.cons .here .nil) ?_
       rintro zbM zt zl ⟨h,zop⟩
       obtain ⟨zjs,rfl⟩:=y3T h
       rw [yT] at h
       refine WC.b (WC.b (WC.a (WL.pu rfl (WL.pu rfl (WL.pu rfl (WL.nil (WX.a ?_)))))))
       refine WC.cond rfl (fun zjE=>?_) (fun zjE=>?_)
       ·replace h:=yk h zjE
        refine WC.skip (WX.a (WC.b (WC.block ?_)))
        obtain ⟨zeu,h⟩:=yi h
        obtain ⟨z6Z,h⟩:=yi h
        obtain ⟨zbN,h⟩:=yi h
        refine WC.y12 (fun i=>[15,17].contains i) [] rfl ?_
        refine WD.a (i:=0) (d:=113) (by kernel_rfl) rfl z2 z3 rfl rfl rfl (fun _=>q_m rfl) ?_
        refine WD.a (i:=1) (d:=114) (by kernel_rfl) rfl z2 z3 rfl rfl rfl (fun _=>q_m rfl) ?_
        refine WD.a (i:=2) (d:=115) (by kernel_rfl) rfl z2 z3 rfl rfl rfl (fun _=>q_m rfl) ?_
        refine WD.a (i:=3) (d:=116) (by kernel_rfl) rfl z2 z3 rfl rfl rfl (fun _=>q_m rfl) ?_
        refine WD.a (i:=4) (d:=117) (by kernel_rfl) rfl z2 z3 rfl rfl rfl (fun _=>y52 rfl rfl rfl) ?_
        refine WD.a (i:=5) (d:=118) (by kernel_rfl) rfl z2 z3 rfl rfl rfl (fun _=>q_m rfl) ?_
        refine WD.a (i:=6) (d:=119) (by kernel_rfl) rfl z2 z3 rfl rfl rfl (fun _=>q_m rfl) ?_
        refine WD.a (i:=7) (d:=120) (by kernel_rfl) rfl z2 z3 rfl rfl rfl (fun _=>y52 rfl rfl rfl) ?_
        refine WD.know (fun w hw=>Hp.y2G .here hw (by intro hz'; have:=zeu; rw [hz'] at this; omega)) ?_
        rintro ⟨zev,rfl⟩
        refine WD.a (i:=8) (d:=121) (by kernel_rfl) rfl z2 z3 rfl rfl rfl (fun _=>yu y14 rfl rfl zeu.1 zeu.2 y1f) ?_
        refine WD.e (i:=9) (d:=122) (by kernel_rfl) rfl z2 z3 rfl rfl rfl (y1L (cs:=(e50 (nth zt (i64 (zl - 1))))) y1T rfl rfl (y1X .here (y1S (enc:=e50) (l:=zt) (i:=i64 (zl - 1)) (sz:=3) (fun _=>rfl) zeu.1 zeu.2))) ?_
        refine WD.a (i:=10) (d:=123) (by kernel_rfl) rfl z2 z3 rfl rfl rfl (fun _=>q_m rfl) ?_
        refine WD.a (i:=11) (d:=124) (by kernel_rfl) rfl z2 z3 rfl rfl rfl (fun _=>q_m rfl) ?_
        refine WD.a (i:=12) (d:=125) (by kernel_rfl) rfl z2 z3 rfl rfl rfl (fun _=>yu y14 rfl rfl z6Z.1 z6Z.2 y1f) ?_
        refine WD.e (i:=13) (d:=126) (by kernel_rfl) rfl z2 z3 rfl rfl rfl (y1L (cs:=(e50 (nth zt zl))) y1T rfl rfl (y1X .here (y1S (enc:=e50) (l:=zt) (i:=zl) (sz:=3) (fun _=>rfl) z6Z.1 z6Z.2))) ?_
        refine WD.a (i:=14) (d:=127) (by kernel_rfl) rfl z2 z3 rfl rfl rfl (fun _=>yu y14 rfl rfl z6Z.1 z6Z.2 y1f) ?_
        refine WD.forced0 (i:=15) rfl (by kernel_rfl) rfl rfl rfl (Sin.of .nil) (y2y (vs:=[(.int .i64 ((nth zt (i64 (zl - 1))).fSent)),(.int .i64 ((nth zt (i64 (zl - 1))).fNode)),(.int .i64 ((nth zt (i64 (zl - 1))).fTime))]) (ds:=(zt.set (zl : Int).toNat (⟨((nth zt (i64 (zl - 1))).fSent),((nth zt (i64 (zl - 1))).fNode),((nth zt (i64 (zl - 1))).fTime)⟩ : Sapi_Come)).flatMap e50) y49 rfl rfl rfl rfl (ocB rfl) .here (y3f (enc:=e50) (sz:=3) (k:=0) (fun _=>rfl) z6Z.1 z6Z.2 (by decide)) (y3e (enc:=e50) (l:=zt) (sz:=3) (vs:=[(.int .i64 ((nth zt (i64 (zl - 1))).fSent)),(.int .i64 ((nth zt (i64 (zl - 1))).fNode)),(.int .i64 ((nth zt (i64 (zl - 1))).fTime))]) (y:=(⟨((nth zt (i64 (zl - 1))).fSent),((nth zt (i64 (zl - 1))).fNode),((nth zt (i64 (zl - 1))).fTime)⟩ : Sapi_Come)) (k:=0) (fun _=>rfl) z6Z.1 z6Z.2 rfl (Nat.le_of_ble_eq_true rfl))) ?_
        refine WD.relen .here (u:=(.slice (some ⟨zev,0,none⟩) ((zt.set (zl : Int).toNat (⟨((nth zt (i64 (zl - 1))).fSent),((nth zt (i64 (zl - 1))).fNode),((nth zt (i64 (zl - 1))).fTime)⟩ : Sapi_Come)).length) zI)) (y1P (List.length_set).symm) ?_
        refine WD.repin (i:=0) rfl (u:=(.slice (some ⟨zev,0,none⟩) ((zt.set (zl : Int).toNat (⟨((nth zt (i64 (zl - 1))).fSent),((nth zt (i64 (zl - 1))).fNode),((nth zt (i64 (zl - 1))).fTime)⟩ : Sapi_Come)).length) zI)) (y1P (List.length_set).symm) ?_
        refine WD.repin (i:=115) rfl (u:=(.slice (some ⟨zev,0,none⟩) ((zt.set (zl : Int).toNat (⟨((nth zt (i64 (zl - 1))).fSent),((nth zt (i64 (zl - 1))).fNode),((nth zt (i64 (zl - 1))).fTime)⟩ : Sapi_Come)).length) zI)) (y1P (List.length_set).symm) ?_
        refine WD.a (i:=16) (d:=128) (by kernel_rfl) rfl z2 z3 rfl rfl rfl (fun _=>yu y14 rfl rfl zbN.1 zbN.2 y1f) ?_
        refine WD.y2L (i:=17) rfl (by kernel_rfl) rfl rfl rfl (by kernel_rfl) (y2y (vs:=[(.int .i64 ((nth zt zl).fSent)),(.int .i64 ((nth zt zl).fNode)),(.int .i64 ((nth zt zl).fTime))]) (ds:=((zt.set (zl : Int).toNat (⟨((nth zt (i64 (zl - 1))).fSent),((nth zt (i64 (zl - 1))).fNode),((nth zt (i64 (zl - 1))).fTime)⟩ : Sapi_Come)).set ((i64 (zl - 1)) : Int).toNat (⟨((nth zt zl).fSent),((nth zt zl).fNode),((nth zt zl).fTime)⟩ : Sapi_Come)).flatMap e50) y49 rfl rfl rfl rfl (ocB rfl) .here (y3f (enc:=e50) (sz:=3) (k:=0) (fun _=>rfl) zbN.1 zbN.2 (by decide)) (y3e (enc:=e50) (l:=zt.set (zl : Int).toNat (⟨((nth zt (i64 (zl - 1))).fSent),((nth zt (i64 (zl - 1))).fNode),((nth zt (i64 (zl - 1))).fTime)⟩ : Sapi_Come)) (sz:=3) (vs:=[(.int .i64 ((nth zt zl).fSent)),(.int .i64 ((nth zt zl).fNode)),(.int .i64 ((nth zt zl).fTime))]) (y:=(⟨((nth zt zl).fSent),((nth zt zl).fNode),((nth zt zl).fTime)⟩ : Sapi_Come)) (k:=0) (fun _=>rfl) zbN.1 zbN.2 rfl (Nat.le_of_ble_eq_true rfl))) ?_
        refine WD.relen .here (u:=(.slice (some ⟨zev,0,none⟩) (((zt.set (zl : Int).toNat (⟨((nth zt (i64 (zl - 1))).fSent),((nth zt (i64 (zl - 1))).fNode),((nth zt (i64 (zl - 1))).fTime)⟩ : Sapi_Come)).set ((i64 (zl - 1)) : Int).toNat (⟨((nth zt zl).fSent),((nth zt zl).fNode),((nth zt zl).fTime)⟩ : Sapi_Come)).length) zI)) (y1P (List.length_set).symm) ?_
        refine WD.repin (i:=0) rfl (u:=(.slice (some ⟨zev,0,none⟩) (((zt.set (zl : Int).toNat (⟨((nth zt (i64 (zl - 1))).fSent),((nth zt (i64 (zl - 1))).fNode),((nth zt (i64 (zl - 1))).fTime)⟩ : Sapi_Come)).set ((i64 (zl - 1)) : Int).toNat (⟨((nth zt zl).fSent),((nth zt zl).fNode),((nth zt zl).fTime)⟩ : Sapi_Come)).length) zI)) (y1P (List.length_set).symm) ?_
        refine WD.done (by kernel_rfl) ?_
        refine WX.yg (WX.a (WC.a (WL.pu rfl (WL.pu rfl (WL.pu rfl (WL.nil ?_))))))
        exact WX.round (G:=Nat × List Sapi_Come × Int) ⟨zjs,((zt.set (zl : Int).toNat (⟨((nth zt (i64 (zl - 1))).fSent),((nth zt (i64 (zl - 1))).fNode),((nth zt (i64 (zl - 1))).fTime)⟩ : Sapi_Come)).set ((i64 (zl - 1)) : Int).toNat (⟨((nth zt zl).fSent),((nth zt zl).fNode),((nth zt zl).fTime)⟩ : Sapi_Come)),(i64 (zl - 1))⟩ ⟨h,((List.length_set).trans ((List.length_set).trans zop))⟩ (Nat.lt_succ_self _) (.cons rfl (.cons rfl (.cons rfl .nil))) (.cons .here .nil)
       ·replace h:=yl h zjE
        refine WC.exit (WX.yc (WX.yc (WX.yt ?_)))
        exact WX.mid (G:=List Sapi_Come) zt ⟨h,zop⟩ .nil (.cons .here .nil)
      ·rintro z6U ⟨h,ztS⟩
       replace h:=(ztR z6U).symm.trans h
       refine WC.ret (WX.ye ?_)
       obtain rfl:=Option.some.inj h
       refine WX.yj Try.results67 .nil (fun w hw=>?_)
       exact ⟨y4u,ztS,hw.sub (.cons .here .nil)⟩
    ·replace h:=yl h zjB
     refine WC.skip ?_
     exact WX.mid (G:=Unit) () h (.cons rfl (.cons rfl (.cons rfl (.cons rfl (.cons rfl .nil))))) (.cons .here .nil)
   ·rintro  h
    replace h:=ztO.symm.trans h
    refine WC.b (WC.a (WL.pu rfl (WL.pu rfl (WL.pu rfl ?_))))
    refine WL.a (d:=132) rfl rfl rfl (y4w Try.underlying3 Try.underlying157 rfl rfl) ?_
    refine WL.a (d:=133) rfl rfl rfl (y6o rfl rfl (by decide) rfl) ?_
    refine WL.a (d:=134) rfl rfl rfl (y4w Try.underlying157 Try.underlying3 rfl rfl) ?_
    refine WL.pu rfl (WL.nil (WX.a (WC.b (WC.a (WL.pu rfl (WL.pu rfl (WL.pu rfl (WL.pu rfl (WL.nil (WX.a (WC.b (WC.a (WL.pu rfl (WL.pu rfl (WL.nil ?_)))))))))))))))
    refine WX.a ?_
    obtain ⟨zg6,ztT,h⟩:=y2i h
    refine WC.y2q (fun (z7Z : Int) (z80 : Int)=>(zg6 z7Z z80 = some r)) (fun (z7Z : Int) (z80 : Int)=>[(0,(.slice zR z5.length zI)),(1,(.int .i64 zm)),(2,(.int .i64 zx)),(3,(.int .i64 zA)),(4,(.func (.func z1n) #[] (z1A).toArray)),(18,(.int .i64 (i64 ((u64 (i64 (zm + zA))) / 2 ^ min (1 : Int).toNat 64)))),(19,(.int .i64 (i64 ((i64 ((u64 (i64 (zm + zA))) / 2 ^ min (1 : Int).toNat 64)) + zx)))),(20,(.int .i64 z7Z)),(21,(.int .i64 z80))]) (fun (z7Z : Int) (z80 : Int)=>[row (.slice zR z5.length zI) 50 3 (z5.flatMap e50)]) ?_ ?_
    ·skip
     refine WC.b (WC.a (WL.pu rfl (WL.pu rfl (WL.pu rfl (WL.nil (WX.a ?_))))))
     refine WC.cond rfl (fun zjF=>?_) (fun zjF=>?_)
     ·replace h:=yk h zjF
      refine WC.b (WC.a (WL.pu rfl (WL.pu rfl (WL.pu rfl (WL.pu rfl (WL.nil (WX.a (WC.a (WL.pu rfl (WL.pu rfl (WL.nil ?_)))))))))))
      exact WX.mid (G:=Int × Int) ⟨(i64 ((i64 ((i64 ((u64 (i64 (zm + zA))) / 2 ^ min (1 : Int).toNat 64)) + zx)) - zA)),(i64 ((u64 (i64 (zm + zA))) / 2 ^ min (1 : Int).toNat 64))⟩ h (.cons rfl (.cons rfl (.cons rfl (.cons rfl (.cons rfl (.cons rfl (.cons rfl (.cons rfl (.cons rfl .nil))))))))) (.cons .here .nil)
     ·replace h:=yl h zjF
      refine WC.b (WC.a (WL.pu rfl (WL.pu rfl (WL.nil (WX.a (WC.a (WL.pu rfl (WL.pu rfl (WL.nil ?_)))))))))
      exact WX.mid (G:=Int × Int) ⟨zm,zx⟩ h (.cons rfl (.cons rfl (.cons rfl (.cons rfl (.cons rfl (.cons rfl (.cons rfl (.cons rfl (.cons rfl .nil))))))))) (.cons .here .nil)
    ·rintro z7Z z80 h
     replace h:=(ztT z7Z z80).symm.trans h
     refine WC.b (WC.a (WL.pu rfl (WL.pu rfl (WL.pu rfl (WL.nil (WX.a ?_))))))
     obtain ⟨z6T,ztU,h⟩:=y1b h
     refine WC.y1K (fun (z1E : Int)=>(z6T z1E = some r)) (fun (z1E : Int)=>[(0,(.slice zR z5.length zI)),(1,(.int .i64 zm)),(2,(.int .i64 zx)),(3,(.int .i64 zA)),(4,(.func (.func z1n) #[] (z1A).toArray)),(18,(.int .i64 (i64 ((u64 (i64 (zm + zA))) / 2 ^ min (1 : Int).toNat 64)))),(19,(.int .i64 (i64 ((i64 ((u64 (i64 (zm + zA))) / 2 ^ min (1 : Int).toNat 64)) + zx)))),(20,(.int .i64 z1E))]) (fun (z1E : Int)=>[row (.slice zR z5.length zI) 50 3 (z5.flatMap e50)]) ?_ ?_
     ·skip
      refine WC.block ?_
      refine WC.y2r (fun (zbO : Nat) (z1a : Int) (z1g : Int)=>(yH zm zA zx z5 z11 z6T zbO z1a z1g = some r)) (fun (zbO : Nat) (z1a : Int) (z1g : Int)=>[(0,(.slice zR z5.length zI)),(1,(.int .i64 zm)),(2,(.int .i64 zx)),(3,(.int .i64 zA)),(4,(.func (.func z1n) #[] (z1A).toArray)),(18,(.int .i64 (i64 ((u64 (i64 (zm + zA))) / 2 ^ min (1 : Int).toNat 64)))),(19,(.int .i64 (i64 ((i64 ((u64 (i64 (zm + zA))) / 2 ^ min (1 : Int).toNat 64)) + zx)))),(20,(.int .i64 z1a)),(21,(.int .i64 z1g)),(22,(.int .i64 (i64 ((i64 ((i64 ((u64 (i64 (zm + zA))) / 2 ^ min (1 : Int).toNat 64)) + zx)) - 1))))]) (fun (zbO : Nat) (z1a : Int) (z1g : Int)=>[row (.slice zR z5.length zI) 50 3 (z5.flatMap e50)]) (fun (zbO : Nat) (z1a : Int) (z1g : Int)=>zbO) ⟨ys,z7Z,z80⟩ h (.cons rfl (.cons rfl (.cons rfl (.cons rfl (.cons rfl (.cons rfl (.cons rfl (.cons rfl (.cons rfl (.cons rfl .nil)))))))))) (.cons .here .nil) ?_
      rintro zbO z1a z1g h
      obtain ⟨zeo,rfl⟩:=y3N h
      rw [yH] at h
      refine WC.b (WC.b (WC.a (WL.pu rfl (WL.pu rfl (WL.pu rfl (WL.nil (WX.a ?_)))))))
      refine WC.cond rfl (fun zjG=>?_) (fun zjG=>?_)
      ·replace h:=yk h zjG
       refine WC.skip (WX.a (WC.block (WC.b (WC.a (WL.pu rfl (WL.pu rfl (WL.pu rfl ?_)))))))
       refine WL.a (d:=155) rfl rfl rfl (y4w Try.underlying3 Try.underlying157 rfl rfl) ?_
       refine WL.a (d:=156) rfl rfl rfl (y6o rfl rfl (by decide) rfl) ?_
       refine WL.a (d:=157) rfl rfl rfl (y4w Try.underlying157 Try.underlying3 rfl rfl) ?_
       refine WL.pu rfl (WL.nil (WX.a (WC.b ?_)))
       obtain ⟨zew,h⟩:=yi h
       obtain ⟨zg9,h⟩:=yi h
       obtain ⟨zjt,ztV,h⟩:=zn h
       refine WC.y12 (fun i=>[].contains i) [] rfl ?_
       refine WD.a (i:=0) (d:=158) (by kernel_rfl) rfl z2 z3 rfl rfl rfl (fun _=>q_m rfl) ?_
       refine WD.a (i:=1) (d:=159) (by kernel_rfl) rfl z2 z3 rfl rfl rfl (fun _=>q_m rfl) ?_
       refine WD.a (i:=2) (d:=160) (by kernel_rfl) rfl z2 z3 rfl rfl rfl (fun _=>q_m rfl) ?_
       refine WD.a (i:=3) (d:=161) (by kernel_rfl) rfl z2 z3 rfl rfl rfl (fun _=>q_m rfl) ?_
       refine WD.a (i:=4) (d:=162) (by kernel_rfl) rfl z2 z3 rfl rfl rfl (fun _=>y52 rfl rfl rfl) ?_
       refine WD.know (fun w hw=>Hp.y2G .here hw (by intro hz'; have:=zew; rw [hz'] at this; omega)) ?_
       rintro ⟨zzu,rfl⟩
       refine WD.a (i:=5) (d:=163) (by kernel_rfl) rfl z2 z3 rfl rfl rfl (fun _=>yu y14 rfl rfl zew.1 zew.2 y1f) ?_
       refine WD.e (i:=6) (d:=164) (by kernel_rfl) rfl z2 z3 rfl rfl rfl (y1L (cs:=(e50 (nth z5 (i64 ((i64 ((i64 ((i64 ((u64 (i64 (zm + zA))) / 2 ^ min (1 : Int).toNat 64)) + zx)) - 1)) - (i64 ((u64 (i64 (z1a + z1g))) / 2 ^ min (1 : Int).toNat 64))))))) y1T rfl rfl (y1X .here (y1S (enc:=e50) (l:=z5) (i:=i64 ((i64 ((i64 ((i64 ((u64 (i64 (zm + zA))) / 2 ^ min (1 : Int).toNat 64)) + zx)) - 1)) - (i64 ((u64 (i64 (z1a + z1g))) / 2 ^ min (1 : Int).toNat 64)))) (sz:=3) (fun _=>rfl) zew.1 zew.2))) ?_
       refine WD.a (i:=7) (d:=165) (by kernel_rfl) rfl z2 z3 rfl rfl rfl (fun _=>q_m rfl) ?_
       refine WD.a (i:=8) (d:=166) (by kernel_rfl) rfl z2 z3 rfl rfl rfl (fun _=>q_m rfl) ?_
       refine WD.a (i:=9) (d:=167) (by kernel_rfl) rfl z2 z3 rfl rfl rfl (fun _=>yu y14 rfl rfl zg9.1 zg9.2 y1f) ?_
       refine WD.e (i:=10) (d:=168) (by kernel_rfl) rfl z2 z3 rfl rfl rfl (y1L (cs:=(e50 (nth z5 (i64 ((u64 (i64 (z1a + z1g))) / 2 ^ min (1 : Int).toNat 64))))) y1T rfl rfl (y1X .here (y1S (enc:=e50) (l:=z5) (i:=i64 ((u64 (i64 (z1a + z1g))) / 2 ^ min (1 : Int).toNat 64)) (sz:=3) (fun _=>rfl) zg9.1 zg9.2))) ?_
       refine WD.c (i:=11) (d:=169) (by kernel_rfl) rfl z2 z3 rfl rfl rfl (y3V (l:=[.tmp 164,.tmp 168]) (f:=z1n) (caps:=z1A) z6W rfl (.cons rfl (.cons rfl .nil))) (fun w hw=>z6X w (hz.now hw) (⟨((nth z5 (i64 ((i64 ((i64 ((i64 ((u64 (i64 (zm + zA))) / 2 ^ min (1 : Int).toNat 64)) + zx)) - 1)) - (i64 ((u64 (i64 (z1a + z1g))) / 2 ^ min (1 : Int).toNat 64))))).fSent),((nth z5 (i64 ((i64 ((i64 ((i64 ((u64 (i64 (zm + zA))) / 2 ^ min (1 : Int).toNat 64)) + zx)) - 1)) - (i64 ((u64 (i64 (z1a + z1g))) / 2 ^ min (1 : Int).toNat 64))))).fNode),((nth z5 (i64 ((i64 ((i64 ((i64 ((u64 (i64 (zm + zA))) / 2 ^ min (1 : Int).toNat 64)) + zx)) - 1)) - (i64 ((u64 (i64 (z1a + z1g))) / 2 ^ min (1 : Int).toNat 64))))).fTime)⟩ : Sapi_Come) (⟨((nth z5 (i64 ((u64 (i64 (z1a + z1g))) / 2 ^ min (1 : Int).toNat 64))).fSent),((nth z5 (i64 ((u64 (i64 (z1a + z1g))) / 2 ^ min (1 : Int).toNat 64))).fNode),((nth z5 (i64 ((u64 (i64 (z1a + z1g))) / 2 ^ min (1 : Int).toNat 64))).fTime)⟩ : Sapi_Come) zjt  ztV) ?_
       refine WD.a (i:=12) (d:=170) (by kernel_rfl) rfl z2 z3 rfl rfl rfl (fun _=>y3B rfl rfl) ?_
       refine WD.a (i:=13) (d:=171) (by kernel_rfl) rfl z2 z3 rfl rfl rfl (fun _=>q_not rfl) ?_
       refine WD.done (by kernel_rfl) ?_
       refine WX.a ?_
       refine WC.cond rfl (fun zjH=>?_) (fun zjH=>?_)
       ·replace h:=yk h zjH
        refine WC.a (WL.pu rfl (WL.pu rfl (WL.pu rfl (WL.nil (WX.yg ?_)))))
        exact WX.round (G:=Nat × Int × Int) ⟨zeo,(i64 ((i64 ((u64 (i64 (z1a + z1g))) / 2 ^ min (1 : Int).toNat 64)) + 1)),z1g⟩ h (Nat.lt_succ_self _) (.cons rfl (.cons rfl (.cons rfl (.cons rfl (.cons rfl (.cons rfl (.cons rfl (.cons rfl (.cons rfl (.cons rfl .nil)))))))))) (.cons .here .nil)
       ·replace h:=yl h zjH
        refine WC.a (WL.pu rfl (WL.pu rfl (WL.nil (WX.yg ?_))))
        exact WX.round (G:=Nat × Int × Int) ⟨zeo,z1a,(i64 ((u64 (i64 (z1a + z1g))) / 2 ^ min (1 : Int).toNat 64))⟩ h (Nat.lt_succ_self _) (.cons rfl (.cons rfl (.cons rfl (.cons rfl (.cons rfl (.cons rfl (.cons rfl (.cons rfl (.cons rfl (.cons rfl .nil)))))))))) (.cons .here .nil)
      ·replace h:=yl h zjG
       refine WC.exit (WX.yc (WX.yc (WX.yt ?_)))
       exact WX.mid (G:=Int) z1a h (.cons rfl (.cons rfl (.cons rfl (.cons rfl (.cons rfl (.cons rfl (.cons rfl (.cons rfl .nil)))))))) (.cons .here .nil)
     ·rintro z1E h
      replace h:=(ztU z1E).symm.trans h
      refine WC.b (WC.a (WL.pu rfl (WL.pu rfl (WL.pu rfl (WL.pu rfl (WL.nil (WX.a ?_)))))))
      obtain ⟨zg4,ztW,h⟩:=y1b h
      refine WC.y1K (fun (z47 : List Sapi_Come)=>(zg4 z47 = some r) ∧ (z47.length = z5.length)) (fun (z47 : List Sapi_Come)=>[(0,(.slice zR z47.length zI)),(1,(.int .i64 zm)),(3,(.int .i64 zA)),(4,(.func (.func z1n) #[] (z1A).toArray)),(18,(.int .i64 (i64 ((u64 (i64 (zm + zA))) / 2 ^ min (1 : Int).toNat 64)))),(20,(.int .i64 z1E)),(24,(.int .i64 (i64 ((i64 ((i64 ((u64 (i64 (zm + zA))) / 2 ^ min (1 : Int).toNat 64)) + zx)) - z1E))))]) (fun (z47 : List Sapi_Come)=>[row (.slice zR z47.length zI) 50 3 (z47.flatMap e50)]) ?_ ?_
      ·skip
       refine WC.b (WC.a (WL.pu rfl (WL.pu rfl (WL.pu rfl (WL.pu rfl ?_)))))
       refine WL.seg true 3 181 (B:=(decide (z1E < zx)) && (decide (zx < (i64 ((i64 ((i64 ((u64 (i64 (zm + zA))) / 2 ^ min (1 : Int).toNat 64)) + zx)) - z1E))))) rfl rfl rfl rfl rfl rfl (fun h=>(y2U h).symm) (fun _ ztX=>?_) ?_
       ·skip
        refine WL.pu rfl (WL.pu rfl (WL.pu rfl (WL.pu rfl ?_)))
        exact WL.yz (y2V ztX) rfl rfl .all
       refine WL.nil (WX.a ?_)
       refine WC.cond rfl (fun zjI=>?_) (fun zjI=>?_)
       ·replace h:=yk h zjI
        obtain ⟨zg5,ztY,h⟩:=zn h
        refine WC.a (WL.pu rfl (WL.pu rfl (WL.pu rfl (WL.pu rfl (WL.pu rfl ?_)))))
        refine WL.y1Q (dd:=191) rfl rfl rfl (zE (l:=[.tmp 186,.tmp 187,.tmp 188,.tmp 189,.tmp 190]) Try.call68 (.cons rfl (.cons rfl (.cons rfl (.cons rfl (.cons rfl .nil)))))) (.cons .here .nil) (cc hz (.cons .here .nil) fun w pz ho=>y4G _ _ _ (z5j:=z1n) (z6Q:=z1A) _ _ _ _ (z3p:=z11) _ ztY w pz z6W z6X ho) ?_
        rintro  zoq
        refine WL.repin (i:=0) rfl (u:=(.slice zR zg5.length zI)) (y1P zoq.symm) ?_
        refine WL.nil ?_
        exact WX.mid (G:=List Sapi_Come) zg5 ⟨h,(zoq.trans rfl)⟩ (.cons rfl (.cons rfl (.cons rfl (.cons rfl (.cons rfl (.cons rfl (.cons rfl .nil))))))) (.cons .here .nil)
       ·replace h:=yl h zjI
        refine WC.skip ?_
        exact WX.mid (G:=List Sapi_Come) z5 ⟨h,rfl⟩ (.cons rfl (.cons rfl (.cons rfl (.cons rfl (.cons rfl (.cons rfl (.cons rfl .nil))))))) (.cons .here .nil)
      ·rintro z47 ⟨h,zor⟩
       replace h:=(ztW z47).symm.trans h
       obtain ⟨zg3,ztZ,h⟩:=y1b h
       refine WC.y1K (fun (z4n : List Sapi_Come)=>(zg3 z4n = some r) ∧ (z4n.length = z5.length)) (fun (z4n : List Sapi_Come)=>[(0,(.slice zR z4n.length zI)),(3,(.int .i64 zA)),(4,(.func (.func z1n) #[] (z1A).toArray)),(18,(.int .i64 (i64 ((u64 (i64 (zm + zA))) / 2 ^ min (1 : Int).toNat 64)))),(24,(.int .i64 (i64 ((i64 ((i64 ((u64 (i64 (zm + zA))) / 2 ^ min (1 : Int).toNat 64)) + zx)) - z1E))))]) (fun (z4n : List Sapi_Come)=>[row (.slice zR z4n.length zI) 50 3 (z4n.flatMap e50)]) ?_ ?_
       ·skip
        refine WC.b (WC.a (WL.pu rfl (WL.pu rfl (WL.pu rfl (WL.pu rfl ?_)))))
        refine WL.seg true 3 195 (B:=(decide (zm < z1E)) && (decide (z1E < (i64 ((u64 (i64 (zm + zA))) / 2 ^ min (1 : Int).toNat 64))))) rfl rfl rfl rfl rfl rfl (fun h=>(y2U h).symm) (fun _ zu0=>?_) ?_
        ·skip
         refine WL.pu rfl (WL.pu rfl (WL.pu rfl (WL.pu rfl ?_)))
         exact WL.yz (y2V zu0) rfl rfl .all
        refine WL.nil (WX.a ?_)
        refine WC.cond rfl (fun zjJ=>?_) (fun zjJ=>?_)
        ·replace h:=yk h zjJ
         obtain ⟨zep,zu1,h⟩:=zn h
         refine WC.a (WL.pu rfl (WL.pu rfl (WL.pu rfl (WL.pu rfl (WL.pu rfl ?_)))))
         refine WL.y1Q (dd:=205) rfl rfl rfl (zE (l:=[.tmp 200,.tmp 201,.tmp 202,.tmp 203,.tmp 204]) Try.call67 (.cons rfl (.cons rfl (.cons rfl (.cons rfl (.cons rfl .nil)))))) (.cons .here .nil) (cc hz (.cons .here .nil) fun w pz ho=>ih (Z:=_) (zR:=zR) (zI:=zI) (z1n:=z1n) (z1A:=z1A) (z5:=z47) (zm:=zm) (zx:=z1E) (zA:=(i64 ((u64 (i64 (zm + zA))) / 2 ^ min (1 : Int).toNat 64))) (z11:=z11) (r:=zep) w pz z6W z6X zu1 ho) ?_
         rintro  zos
         refine WL.repin (i:=0) rfl (u:=(.slice zR zep.length zI)) (y1P zos.symm) ?_
         refine WL.nil ?_
         exact WX.mid (G:=List Sapi_Come) zep ⟨h,(zos.trans zor)⟩ (.cons rfl (.cons rfl (.cons rfl (.cons rfl (.cons rfl .nil))))) (.cons .here .nil)
        ·replace h:=yl h zjJ
         refine WC.skip ?_
         exact WX.mid (G:=List Sapi_Come) z47 ⟨h,zor⟩ (.cons rfl (.cons rfl (.cons rfl (.cons rfl (.cons rfl .nil))))) (.cons .here .nil)
       ·rintro z4n ⟨h,zot⟩
        replace h:=(ztZ z4n).symm.trans h
        refine WC.b (WC.a (WL.pu rfl (WL.pu rfl (WL.pu rfl (WL.pu rfl ?_)))))
        refine WL.seg true 3 209 (B:=(decide ((i64 ((u64 (i64 (zm + zA))) / 2 ^ min (1 : Int).toNat 64)) < (i64 ((i64 ((i64 ((u64 (i64 (zm + zA))) / 2 ^ min (1 : Int).toNat 64)) + zx)) - z1E)))) && (decide ((i64 ((i64 ((i64 ((u64 (i64 (zm + zA))) / 2 ^ min (1 : Int).toNat 64)) + zx)) - z1E)) < zA))) rfl rfl rfl rfl rfl rfl (fun h=>(y2U h).symm) (fun _ zu2=>?_) ?_
        ·skip
         refine WL.pu rfl (WL.pu rfl (WL.pu rfl (WL.pu rfl ?_)))
         exact WL.yz (y2V zu2) rfl rfl .all
        refine WL.nil (WX.a ?_)
        refine WC.cond rfl (fun zjK=>?_) (fun zjK=>?_)
        ·replace h:=yk h zjK
         obtain ⟨zg2,zu3,h⟩:=zn h
         refine WC.a (WL.pu rfl (WL.pu rfl (WL.pu rfl (WL.pu rfl (WL.pu rfl ?_)))))
         refine WL.y1Q (dd:=219) rfl rfl rfl (zE (l:=[.tmp 214,.tmp 215,.tmp 216,.tmp 217,.tmp 218]) Try.call67 (.cons rfl (.cons rfl (.cons rfl (.cons rfl (.cons rfl .nil)))))) (.cons .here .nil) (cc hz (.cons .here .nil) fun w pz ho=>ih (Z:=_) (zR:=zR) (zI:=zI) (z1n:=z1n) (z1A:=z1A) (z5:=z4n) (zm:=(i64 ((u64 (i64 (zm + zA))) / 2 ^ min (1 : Int).toNat 64))) (zx:=(i64 ((i64 ((i64 ((u64 (i64 (zm + zA))) / 2 ^ min (1 : Int).toNat 64)) + zx)) - z1E))) (zA:=zA) (z11:=z11) (r:=zg2) w pz z6W z6X zu3 ho) ?_
         rintro  zou
         refine WL.repin (i:=0) rfl (u:=(.slice zR zg2.length zI)) (y1P zou.symm) ?_
         refine WL.nil ?_
         obtain rfl:=Option.some.inj h
         refine WX.y1Z Try.results67 .nil (fun w hw=>?_)
         exact ⟨y4u,(zou.trans zot),hw.sub (.cons .here .nil)⟩
        ·replace h:=yl h zjK
         refine WC.skip ?_
         obtain rfl:=Option.some.inj h
         refine WX.y1Z Try.results67 .nil (fun w hw=>?_)
         exact ⟨y4u,zot,hw.sub (.cons .here .nil)⟩
theorem y37 (Z : Zp) (zR : Option Addr) (zI : Nat) (z1n : FuncId) (z1A : List Value) (z5 : List Sapi_Come) (zm : Int) (zx : Int) (zA : Int) (z11 : Sapi_Come → Sapi_Come → Option Int) (r : List Sapi_Come) (w₀ : World) (hz : PZ (fps [row (.slice zR z5.length zI) 50 3 (z5.flatMap e50)]) w₀ Z)
  (z6W : ∀ args w,(callFunc z1n args).run Try.prog w = .ok (.enter z1n args) w)
  (z6X : ∀ w : World,PZ [] w Z → ∀ (x0 : Sapi_Come) (x1 : Sapi_Come) (r : Int),z11 x0 x1 = some r → Calls Try.prog z1n (([(.agg #[(.int .i64 x0.fSent),(.int .i64 x0.fNode),(.int .i64 x0.fTime)]),(.agg #[(.int .i64 x1.fSent),(.int .i64 x1.fNode),(.int .i64 x1.fTime)])] : List Value) ++ z1A).toArray w fun e w'=>e = .returned (.int .i64 r) ∧ Hp [] w w' []) (h : y1m z5 zm zx zA z11 = some r)
  (hown : Hp (fps [row (.slice zR z5.length zI) 50 3 (z5.flatMap e50)]) w₀ w₀ [row (.slice zR z5.length zI) 50 3 (z5.flatMap e50)]) : Calls Try.prog 67 #[(.slice zR z5.length zI),(.int .i64 zm),(.int .i64 zx),(.int .i64 zA),(.func (.func z1n) #[] (z1A).toArray)] w₀ fun e w'=>e = .returned (.tuple #[]) ∧ (r.length = z5.length) ∧ Hp (fps [row (.slice zR z5.length zI) 50 3 (z5.flatMap e50)]) w₀ w' [row (.slice zR r.length zI) 50 3 (r.flatMap e50)]:=y4c ys Z zR zI z1n z1A z5 zm zx zA z11 r w₀ hz z6W z6X h hown
def yO (z1c : Int) (z1w : Sapi_Come → Sapi_Come → Option Int) (z81 : (List Sapi_Come) → Int → Option (List Sapi_Come)) : Nat → (List Sapi_Come) → Int → Int → Option (List Sapi_Come)
 | 0,_,_,_=>none
 | zjL + 1,z3Q,z5k,z3R=>if decide (z3R ≤ z1c) then (yQ z3Q z5k z3R z1w).bind fun zga=>yO z1c z1w z81 zjL zga z3R (i64 (z3R + 20)) else z81 z3Q z5k
theorem y45 {n : Nat} {z1c : Int} {z1w : Sapi_Come → Sapi_Come → Option Int} {z81 : (List Sapi_Come) → Int → Option (List Sapi_Come)} {z3Q : List Sapi_Come} {z5k : Int} {z3R : Int} {r : List Sapi_Come} (h : yO z1c z1w z81 n z3Q z5k z3R = some r) : ∃ m,n = m + 1:=by
 cases n with
 | zero=>cases h
 | succ m=>exact ⟨m,rfl⟩
def yY (z1c : Int) (z1s : Int) (z1w : Sapi_Come → Sapi_Come → Option Int) (z82 : (List Sapi_Come) → Int → Option (List Sapi_Come)) : Nat → (List Sapi_Come) → Int → Int → Option (List Sapi_Come)
 | 0,_,_,_=>none
 | zjM + 1,z3D,z3S,z3E=>if decide (z3E ≤ z1c) then (y1m z3D z3S (i64 (z3S + z1s)) z3E z1w).bind fun zex=>yY z1c z1s z1w z82 zjM zex z3E (i64 (z3E + (i64 (2 * z1s)))) else z82 z3D z3S
theorem y46 {n : Nat} {z1c : Int} {z1s : Int} {z1w : Sapi_Come → Sapi_Come → Option Int} {z82 : (List Sapi_Come) → Int → Option (List Sapi_Come)} {z3D : List Sapi_Come} {z3S : Int} {z3E : Int} {r : List Sapi_Come} (h : yY z1c z1s z1w z82 n z3D z3S z3E = some r) : ∃ m,n = m + 1:=by
 cases n with
 | zero=>cases h
 | succ m=>exact ⟨m,rfl⟩
def yP (z1c : Int) (z1w : Sapi_Come → Sapi_Come → Option Int) (z83 : (List Sapi_Come) → Option (List Sapi_Come)) : Nat → (List Sapi_Come) → Int → Option (List Sapi_Come)
 | 0,_,_=>none
 | zjN + 1,z3F,z1s=>if decide (z1s < z1c) then jp1 (fun (z5l : List Sapi_Come)=>yP z1c z1w z83 zjN z5l (i64 (z1s * 2))) fun zjO=>jp2 (fun (z48 : List Sapi_Come) (z5m : Int)=>jp1 (fun (z5n : List Sapi_Come)=>zjO z5n) fun zgb=>if decide ((i64 (z5m + z1s)) < z1c) then (y1m z48 z5m (i64 (z5m + z1s)) z1c z1w).bind fun zey=>zgb zey else zgb z48) fun z82=>yY z1c z1s z1w z82 ys z3F 0 (i64 (2 * z1s)) else z83 z3F
theorem y47 {n : Nat} {z1c : Int} {z1w : Sapi_Come → Sapi_Come → Option Int} {z83 : (List Sapi_Come) → Option (List Sapi_Come)} {z3F : List Sapi_Come} {z1s : Int} {r : List Sapi_Come} (h : yP z1c z1w z83 n z3F z1s = some r) : ∃ m,n = m + 1:=by
 cases n with
 | zero=>cases h
 | succ m=>exact ⟨m,rfl⟩
def y1W (z23 : List Sapi_Come) (z1c : Int) (z1w : Sapi_Come → Sapi_Come → Option Int) : Option (List Sapi_Come) :=
 jp2 (fun (z5F : List Sapi_Come) (z8S : Int)=>(yQ z5F z8S z1c z1w).bind fun zgc=>jp1 (fun (z70 : List Sapi_Come)=>some z70) fun z83=>yP z1c z1w z83 ys zgc 20) fun z81=>yO z1c z1w z81 ys z23 0 20
set_option maxRecDepth 20000 in
theorem y4H (Z : Zp) (z1x : Option Addr) (z1y : Nat) (z38 : FuncId) (z3G : List Value) (z23 : List Sapi_Come) (z1c : Int) (z1w : Sapi_Come → Sapi_Come → Option Int) (r : List Sapi_Come)
  (h : y1W z23 z1c z1w = some r) (w₀ : World) (hz : PZ (fps [row (.slice z1x z23.length z1y) 50 3 (z23.flatMap e50)]) w₀ Z)
  (zgd : ∀ args w,(callFunc z38 args).run Try.prog w = .ok (.enter z38 args) w)
  (zge : ∀ w : World,PZ [] w Z → ∀ (x0 : Sapi_Come) (x1 : Sapi_Come) (r : Int),z1w x0 x1 = some r → Calls Try.prog z38 (([(.agg #[(.int .i64 x0.fSent),(.int .i64 x0.fNode),(.int .i64 x0.fTime)]),(.agg #[(.int .i64 x1.fSent),(.int .i64 x1.fNode),(.int .i64 x1.fTime)])] : List Value) ++ z3G).toArray w fun e w'=>e = .returned (.int .i64 r) ∧ Hp [] w w' [])
  (hown : Hp (fps [row (.slice z1x z23.length z1y) 50 3 (z23.flatMap e50)]) w₀ w₀ [row (.slice z1x z23.length z1y) 50 3 (z23.flatMap e50)]) :
  Calls Try.prog 57 #[(.slice z1x z23.length z1y),(.int .i64 z1c),(.func (.func z38) #[] (z3G).toArray)] w₀ fun e w'=>e = .returned (.tuple #[]) ∧ (r.length = z23.length) ∧ Hp (fps [row (.slice z1x z23.length z1y) 50 3 (z23.flatMap e50)]) w₀ w' [row (.slice z1x r.length z1y) 50 3 (r.flatMap e50)]:=by
 unfold y1W at h
 refine Calls.yo (vs:=[(.slice z1x z23.length z1y),(.int .i64 z1c),(.func (.func z38) #[] (z3G).toArray)]) (pre:=[row (.slice z1x z23.length z1y) 50 3 (z23.flatMap e50)]) (env:=[(0,(.slice z1x z23.length z1y)),(1,(.int .i64 z1c)),(2,(.func (.func z38) #[] (z3G).toArray))]) Try.func57 rfl Try.ntmps57 rfl (hown) rfl ?_
 refine WC.b (WC.a (WL.pu rfl (WL.nil (WX.a (WC.b (WC.a (WL.pu rfl (WL.pu rfl (WL.pu rfl (WL.nil (WX.a ?_)))))))))))
 obtain ⟨z81,zu4,h⟩:=y2i h
 refine WC.y2q (fun (z5F : List Sapi_Come) (z8S : Int)=>(z81 z5F z8S = some r) ∧ (z5F.length = z23.length)) (fun (z5F : List Sapi_Come) (z8S : Int)=>[(0,(.slice z1x z5F.length z1y)),(1,(.int .i64 z1c)),(2,(.func (.func z38) #[] (z3G).toArray)),(6,(.int .i64 20)),(7,(.int .i64 z8S))]) (fun (z5F : List Sapi_Come) (z8S : Int)=>[row (.slice z1x z5F.length z1y) 50 3 (z5F.flatMap e50)]) ?_ ?_
 ·skip
  refine WC.block ?_
  refine WC.y4C (fun (zbP : Nat) (z3Q : List Sapi_Come) (z5k : Int) (z3R : Int)=>(yO z1c z1w z81 zbP z3Q z5k z3R = some r) ∧ (z3Q.length = z23.length)) (fun (zbP : Nat) (z3Q : List Sapi_Come) (z5k : Int) (z3R : Int)=>[(0,(.slice z1x z3Q.length z1y)),(1,(.int .i64 z1c)),(2,(.func (.func z38) #[] (z3G).toArray)),(6,(.int .i64 20)),(7,(.int .i64 z5k)),(8,(.int .i64 z3R))]) (fun (zbP : Nat) (z3Q : List Sapi_Come) (z5k : Int) (z3R : Int)=>[row (.slice z1x z3Q.length z1y) 50 3 (z3Q.flatMap e50)]) (fun (zbP : Nat) (z3Q : List Sapi_Come) (z5k : Int) (z3R : Int)=>zbP) ⟨ys,z23,0,20⟩ ⟨h,rfl⟩ (.cons rfl (.cons rfl (.cons rfl (.cons rfl (.cons rfl (.cons rfl .nil)))))) (.cons .here .nil) ?_
  rintro zbP z3Q z5k z3R ⟨h,zov⟩
  obtain ⟨zjL,rfl⟩:=y45 h
  rw [yO] at h
  refine WC.b (WC.b (WC.a (WL.pu rfl (WL.pu rfl (WL.pu rfl (WL.nil (WX.a ?_)))))))
  refine WC.cond rfl (fun zjP=>?_) (fun zjP=>?_)
  ·replace h:=yk h zjP
   refine WC.skip (WX.a (WC.block (WC.b ?_)))
   obtain ⟨zga,zu5,h⟩:=zn h
   refine WC.a (WL.pu rfl (WL.pu rfl (WL.pu rfl (WL.pu rfl ?_))))
   refine WL.y1Q (dd:=18) rfl rfl rfl (zE (l:=[.tmp 14,.tmp 15,.tmp 16,.tmp 17]) Try.call66 (.cons rfl (.cons rfl (.cons rfl (.cons rfl .nil))))) (.cons .here .nil) (cc hz (.cons .here .nil) fun w pz ho=>y2J _ _ _ (z46:=z38) (z5h:=z3G) _ _ _ (z36:=z1w) _ zu5 w pz zgd zge ho) ?_
   rintro  zow
   refine WL.repin (i:=0) rfl (u:=(.slice z1x zga.length z1y)) (y1P zow.symm) ?_
   refine WL.nil (WX.a (WC.b (WC.a (WL.pu rfl (WL.pu rfl (WL.nil (WX.a (WC.a (WL.pu rfl (WL.pu rfl (WL.pu rfl (WL.pu rfl (WL.nil (WX.yg ?_))))))))))))))
   exact WX.round (G:=Nat × List Sapi_Come × Int × Int) ⟨zjL,zga,z3R,(i64 (z3R + 20))⟩ ⟨h,(zow.trans zov)⟩ (Nat.lt_succ_self _) (.cons rfl (.cons rfl (.cons rfl (.cons rfl (.cons rfl (.cons rfl .nil)))))) (.cons .here .nil)
  ·replace h:=yl h zjP
   refine WC.exit (WX.yc (WX.yc (WX.yt ?_)))
   exact WX.mid (G:=List Sapi_Come × Int) ⟨z3Q,z5k⟩ ⟨h,zov⟩ (.cons rfl (.cons rfl (.cons rfl (.cons rfl (.cons rfl .nil))))) (.cons .here .nil)
 ·rintro z5F z8S ⟨h,zu6⟩
  replace h:=(zu4 z5F z8S).symm.trans h
  refine WC.b ?_
  obtain ⟨zgc,zu7,h⟩:=zn h
  refine WC.a (WL.pu rfl (WL.pu rfl (WL.pu rfl (WL.pu rfl ?_))))
  refine WL.y1Q (dd:=27) rfl rfl rfl (zE (l:=[.tmp 23,.tmp 24,.tmp 25,.tmp 26]) Try.call66 (.cons rfl (.cons rfl (.cons rfl (.cons rfl .nil))))) (.cons .here .nil) (cc hz (.cons .here .nil) fun w pz ho=>y2J _ _ _ (z46:=z38) (z5h:=z3G) _ _ _ (z36:=z1w) _ zu7 w pz zgd zge ho) ?_
  rintro  zox
  refine WL.repin (i:=0) rfl (u:=(.slice z1x zgc.length z1y)) (y1P zox.symm) ?_
  refine WL.nil (WX.a ?_)
  obtain ⟨z83,zu8,h⟩:=y1b h
  refine WC.y5g (fun (z70 : List Sapi_Come)=>(z83 z70 = some r) ∧ (z70.length = z23.length)) (fun (z70 : List Sapi_Come)=>[]) (fun (z70 : List Sapi_Come)=>[row (.slice z1x z70.length z1y) 50 3 (z70.flatMap e50)]) ?_ ?_
  ·skip
   refine WC.block ?_
   refine WC.y2r (fun (zbQ : Nat) (z3F : List Sapi_Come) (z1s : Int)=>(yP z1c z1w z83 zbQ z3F z1s = some r) ∧ (z3F.length = z23.length)) (fun (zbQ : Nat) (z3F : List Sapi_Come) (z1s : Int)=>[(0,(.slice z1x z3F.length z1y)),(1,(.int .i64 z1c)),(2,(.func (.func z38) #[] (z3G).toArray)),(6,(.int .i64 z1s))]) (fun (zbQ : Nat) (z3F : List Sapi_Come) (z1s : Int)=>[row (.slice z1x z3F.length z1y) 50 3 (z3F.flatMap e50)]) (fun (zbQ : Nat) (z3F : List Sapi_Come) (z1s : Int)=>zbQ) ⟨ys,zgc,20⟩ ⟨h,(zox.trans zu6)⟩ (.cons rfl (.cons rfl (.cons rfl (.cons rfl .nil)))) (.cons .here .nil) ?_
   rintro zbQ z3F z1s ⟨h,zoy⟩
   obtain ⟨zjN,rfl⟩:=y47 h
   rw [yP] at h
   refine WC.b (WC.b (WC.a (WL.pu rfl (WL.pu rfl (WL.pu rfl (WL.nil (WX.a ?_)))))))
   refine WC.cond rfl (fun zjQ=>?_) (fun zjQ=>?_)
   ·replace h:=yk h zjQ
    refine WC.skip (WX.a ?_)
    obtain ⟨zjO,zu9,h⟩:=y1b h
    refine WC.y5g (fun (z5l : List Sapi_Come)=>(zjO z5l = some r) ∧ (z5l.length = z23.length)) (fun (z5l : List Sapi_Come)=>[(0,(.slice z1x z5l.length z1y)),(1,(.int .i64 z1c)),(2,(.func (.func z38) #[] (z3G).toArray)),(6,(.int .i64 (i64 (z1s * 2))))]) (fun (z5l : List Sapi_Come)=>[row (.slice z1x z5l.length z1y) 50 3 (z5l.flatMap e50)]) ?_ ?_
    ·skip
     refine WC.block (WC.b (WC.a (WL.pu rfl (WL.pu rfl (WL.pu rfl (WL.pu rfl (WL.nil (WX.a ?_))))))))
     obtain ⟨z82,zua,h⟩:=y2i h
     refine WC.y2q (fun (z48 : List Sapi_Come) (z5m : Int)=>(z82 z48 z5m = some r) ∧ (z48.length = z23.length)) (fun (z48 : List Sapi_Come) (z5m : Int)=>[(0,(.slice z1x z48.length z1y)),(1,(.int .i64 z1c)),(2,(.func (.func z38) #[] (z3G).toArray)),(6,(.int .i64 z1s)),(7,(.int .i64 z5m))]) (fun (z48 : List Sapi_Come) (z5m : Int)=>[row (.slice z1x z48.length z1y) 50 3 (z48.flatMap e50)]) ?_ ?_
     ·skip
      refine WC.block ?_
      refine WC.y4C (fun (zbR : Nat) (z3D : List Sapi_Come) (z3S : Int) (z3E : Int)=>(yY z1c z1s z1w z82 zbR z3D z3S z3E = some r) ∧ (z3D.length = z23.length)) (fun (zbR : Nat) (z3D : List Sapi_Come) (z3S : Int) (z3E : Int)=>[(0,(.slice z1x z3D.length z1y)),(1,(.int .i64 z1c)),(2,(.func (.func z38) #[] (z3G).toArray)),(6,(.int .i64 z1s)),(7,(.int .i64 z3S)),(8,(.int .i64 z3E))]) (fun (zbR : Nat) (z3D : List Sapi_Come) (z3S : Int) (z3E : Int)=>[row (.slice z1x z3D.length z1y) 50 3 (z3D.flatMap e50)]) (fun (zbR : Nat) (z3D : List Sapi_Come) (z3S : Int) (z3E : Int)=>zbR) ⟨ys,z3F,0,(i64 (2 * z1s))⟩ ⟨h,zoy⟩ (.cons rfl (.cons rfl (.cons rfl (.cons rfl (.cons rfl (.cons rfl .nil)))))) (.cons .here .nil) ?_
      rintro zbR z3D z3S z3E ⟨h,zoz⟩
      obtain ⟨zjM,rfl⟩:=y46 h
      rw [yY] at h
      refine WC.b (WC.b (WC.a (WL.pu rfl (WL.pu rfl (WL.pu rfl (WL.nil (WX.a ?_)))))))
      refine WC.cond rfl (fun zjR=>?_) (fun zjR=>?_)
      ·replace h:=yk h zjR
       refine WC.skip (WX.a (WC.block (WC.b ?_)))
       obtain ⟨zex,zub,h⟩:=zn h
       refine WC.a (WL.pu rfl (WL.pu rfl (WL.pu rfl (WL.pu rfl (WL.pu rfl (WL.pu rfl (WL.pu rfl ?_)))))))
       refine WL.y1Q (dd:=43) rfl rfl rfl (zE (l:=[.tmp 36,.tmp 37,.tmp 40,.tmp 41,.tmp 42]) Try.call67 (.cons rfl (.cons rfl (.cons rfl (.cons rfl (.cons rfl .nil)))))) (.cons .here .nil) (cc hz (.cons .here .nil) fun w pz ho=>y37 (Z:=_) (zR:=z1x) (zI:=z1y) (z1n:=z38) (z1A:=z3G) (z5:=z3D) (zm:=z3S) (zx:=(i64 (z3S + z1s))) (zA:=z3E) (z11:=z1w) (r:=zex) w pz zgd zge zub ho) ?_
       rintro  zoA
       refine WL.repin (i:=0) rfl (u:=(.slice z1x zex.length z1y)) (y1P zoA.symm) ?_
       refine WL.nil (WX.a (WC.b (WC.a (WL.pu rfl (WL.pu rfl (WL.nil (WX.a (WC.a (WL.pu rfl (WL.pu rfl (WL.pu rfl (WL.pu rfl (WL.pu rfl (WL.nil (WX.yg ?_)))))))))))))))
       exact WX.round (G:=Nat × List Sapi_Come × Int × Int) ⟨zjM,zex,z3E,(i64 (z3E + (i64 (2 * z1s))))⟩ ⟨h,(zoA.trans zoz)⟩ (Nat.lt_succ_self _) (.cons rfl (.cons rfl (.cons rfl (.cons rfl (.cons rfl (.cons rfl .nil)))))) (.cons .here .nil)
      ·replace h:=yl h zjR
       refine WC.exit (WX.yc (WX.yc (WX.yt ?_)))
       exact WX.mid (G:=List Sapi_Come × Int) ⟨z3D,z3S⟩ ⟨h,zoz⟩ (.cons rfl (.cons rfl (.cons rfl (.cons rfl (.cons rfl .nil))))) (.cons .here .nil)
     ·rintro z48 z5m ⟨h,zoB⟩
      replace h:=(zua z48 z5m).symm.trans h
      obtain ⟨zgb,zuc,h⟩:=y1b h
      refine WC.y1K (fun (z5n : List Sapi_Come)=>(zgb z5n = some r) ∧ (z5n.length = z23.length)) (fun (z5n : List Sapi_Come)=>[(0,(.slice z1x z5n.length z1y)),(1,(.int .i64 z1c)),(2,(.func (.func z38) #[] (z3G).toArray)),(6,(.int .i64 z1s))]) (fun (z5n : List Sapi_Come)=>[row (.slice z1x z5n.length z1y) 50 3 (z5n.flatMap e50)]) ?_ ?_
      ·skip
       refine WC.b (WC.a (WL.pu rfl (WL.pu rfl (WL.pu rfl (WL.pu rfl (WL.nil (WX.a (WC.b (WC.a (WL.pu rfl (WL.pu rfl (WL.pu rfl (WL.nil (WX.a ?_))))))))))))))
       refine WC.cond rfl (fun zjS=>?_) (fun zjS=>?_)
       ·replace h:=yk h zjS
        obtain ⟨zey,zud,h⟩:=zn h
        refine WC.a (WL.pu rfl (WL.pu rfl (WL.pu rfl (WL.pu rfl (WL.pu rfl ?_)))))
        refine WL.y1Q (dd:=60) rfl rfl rfl (zE (l:=[.tmp 55,.tmp 56,.tmp 57,.tmp 58,.tmp 59]) Try.call67 (.cons rfl (.cons rfl (.cons rfl (.cons rfl (.cons rfl .nil)))))) (.cons .here .nil) (cc hz (.cons .here .nil) fun w pz ho=>y37 (Z:=_) (zR:=z1x) (zI:=z1y) (z1n:=z38) (z1A:=z3G) (z5:=z48) (zm:=z5m) (zx:=(i64 (z5m + z1s))) (zA:=z1c) (z11:=z1w) (r:=zey) w pz zgd zge zud ho) ?_
        rintro  zoC
        refine WL.repin (i:=0) rfl (u:=(.slice z1x zey.length z1y)) (y1P zoC.symm) ?_
        refine WL.nil ?_
        exact WX.mid (G:=List Sapi_Come) zey ⟨h,(zoC.trans zoB)⟩ (.cons rfl (.cons rfl (.cons rfl (.cons rfl .nil)))) (.cons .here .nil)
       ·replace h:=yl h zjS
        refine WC.skip ?_
        exact WX.mid (G:=List Sapi_Come) z48 ⟨h,zoB⟩ (.cons rfl (.cons rfl (.cons rfl (.cons rfl .nil)))) (.cons .here .nil)
      ·rintro z5n ⟨h,zue⟩
       replace h:=(zuc z5n).symm.trans h
       refine WC.a (WL.pu rfl (WL.pu rfl (WL.pu rfl (WL.nil (WX.yg ?_)))))
       exact WX.mid (G:=List Sapi_Come) z5n ⟨h,zue⟩ (.cons rfl (.cons rfl (.cons rfl (.cons rfl .nil)))) (.cons .here .nil)
    ·rintro z5l ⟨h,zuf⟩
     replace h:=(zu9 z5l).symm.trans h
     exact WX.round (G:=Nat × List Sapi_Come × Int) ⟨zjN,z5l,(i64 (z1s * 2))⟩ ⟨h,zuf⟩ (Nat.lt_succ_self _) (.cons rfl (.cons rfl (.cons rfl (.cons rfl .nil)))) (.cons .here .nil)
   ·replace h:=yl h zjQ
    refine WC.exit (WX.yc (WX.yc (WX.yt ?_)))
    exact WX.mid (G:=List Sapi_Come) z3F ⟨h,zoy⟩ .nil (.cons .here .nil)
  ·rintro z70 ⟨h,zug⟩
   replace h:=(zu8 z70).symm.trans h
   obtain rfl:=Option.some.inj h
   refine WX.y1Z Try.results57 .nil (fun w hw=>?_)
   exact ⟨y4u,zug,hw.sub (.cons .here .nil)⟩
def y15 (z39 : List Sapi_Come) (zbS : Sapi_Come → Sapi_Come → Option Int) : Option (List Sapi_Come) :=
 (y1W z39 ((z39.length : Nat) : Int) zbS).bind fun zgf=>some zgf
set_option maxRecDepth 20000 in
theorem y3U (Z : Zp) (z5G : Option Addr) (z5H : Nat) (z8T : FuncId) (zbT : List Value) (z39 : List Sapi_Come) (zbS : Sapi_Come → Sapi_Come → Option Int) (r : List Sapi_Come)
  (h : y15 z39 zbS = some r) (w₀ : World) (hz : PZ (fps [row (.slice z5G z39.length z5H) 50 3 (z39.flatMap e50)]) w₀ Z)
  (zuh : ∀ args w,(callFunc z8T args).run Try.prog w = .ok (.enter z8T args) w)
  (zui : ∀ w : World,PZ [] w Z → ∀ (x0 : Sapi_Come) (x1 : Sapi_Come) (r : Int),zbS x0 x1 = some r → Calls Try.prog z8T (([(.agg #[(.int .i64 x0.fSent),(.int .i64 x0.fNode),(.int .i64 x0.fTime)]),(.agg #[(.int .i64 x1.fSent),(.int .i64 x1.fNode),(.int .i64 x1.fTime)])] : List Value) ++ zbT).toArray w fun e w'=>e = .returned (.int .i64 r) ∧ Hp [] w w' [])
  (hown : Hp (fps [row (.slice z5G z39.length z5H) 50 3 (z39.flatMap e50)]) w₀ w₀ [row (.slice z5G z39.length z5H) 50 3 (z39.flatMap e50)]) :
  Calls Try.prog 42 #[(.slice z5G z39.length z5H),(.func (.func z8T) #[] (zbT).toArray)] w₀ fun e w'=>e = .returned (.tuple #[]) ∧ (r.length = z39.length) ∧ Hp (fps [row (.slice z5G z39.length z5H) 50 3 (z39.flatMap e50)]) w₀ w' [row (.slice z5G r.length z5H) 50 3 (r.flatMap e50)]:=by
 unfold y15 at h
 refine Calls.yo (vs:=[(.slice z5G z39.length z5H),(.func (.func z8T) #[] (zbT).toArray)]) (pre:=[row (.slice z5G z39.length z5H) 50 3 (z39.flatMap e50)]) (env:=[(0,(.slice z5G z39.length z5H)),(1,(.func (.func z8T) #[] (zbT).toArray))]) Try.func42 rfl Try.ntmps42 rfl (hown) rfl ?_
 obtain ⟨zgf,zuj,h⟩:=zn h
 refine WC.a (WL.pu rfl (WL.pu rfl ?_))
 refine WL.a (d:=6) rfl rfl rfl (yZ Try.underlying36 rfl) ?_
 refine WL.pu rfl ?_
 refine WL.y1Q (dd:=8) rfl rfl rfl (zE (l:=[.tmp 4,.tmp 6,.tmp 7]) Try.call57 (.cons rfl (.cons rfl (.cons rfl .nil)))) (.cons .here .nil) (cc hz (.cons .here .nil) fun w pz ho=>y4H _ _ _ (z38:=z8T) (z3G:=zbT) _ _ (z1w:=zbS) _ zuj w pz zuh zui ho) ?_
 rintro  zjT
 refine WL.repin (i:=0) rfl (u:=(.slice z5G zgf.length z5H)) (y1P zjT.symm) ?_
 refine WL.repin (i:=5) rfl (u:=(.slice z5G zgf.length z5H)) (y1P zjT.symm) ?_
 refine WL.nil ?_
 obtain rfl:=Option.some.inj h
 refine WX.y1Z Try.results42 .nil (fun w hw=>?_)
 exact ⟨y4u,(zjT.trans rfl),hw.sub (.cons .here .nil)⟩
def y1i (z3q : List Sapi_Come) : Option (List Sapi_Come) :=
 (y15 z3q (fun (y0 : Sapi_Come) (y1 : Sapi_Come)=>y2w y0 y1)).bind fun zjU=>some zjU
set_option maxRecDepth 20000 in
theorem y5B (Z : Zp) (z5I : Option Addr) (z5J : Nat) (z3q : List Sapi_Come) (r : List Sapi_Come)
  (h : y1i z3q = some r) (w₀ : World) (hz : PZ (fps [row (.slice z5I z3q.length z5J) 50 3 (z3q.flatMap e50)]) w₀ Z)
  (hown : Hp (fps [row (.slice z5I z3q.length z5J) 50 3 (z3q.flatMap e50)]) w₀ w₀ [row (.slice z5I z3q.length z5J) 50 3 (z3q.flatMap e50)]) :
  Calls Try.prog 27 #[(.slice z5I z3q.length z5J)] w₀ fun e w'=>e = .returned (.slice z5I r.length z5J) ∧ (r.length = z3q.length) ∧ Hp (fps [row (.slice z5I z3q.length z5J) 50 3 (z3q.flatMap e50)]) w₀ w' [row (.slice z5I r.length z5J) 50 3 (r.flatMap e50)]:=by
 unfold y1i at h
 refine Calls.yo (vs:=[(.slice z5I z3q.length z5J)]) (pre:=[row (.slice z5I z3q.length z5J) 50 3 (z3q.flatMap e50)]) (env:=[(0,(.slice z5I z3q.length z5J))]) Try.func27 rfl Try.ntmps27 rfl (hown) rfl ?_
 refine WC.b (WC.a (WL.pu rfl (WL.nil (WX.a (WC.b ?_)))))
 obtain ⟨zjU,zuk,h⟩:=zn h
 refine WC.a (WL.pu rfl ?_)
 refine WL.y1Q (dd:=4) rfl rfl rfl (zE (l:=[.tmp 3,.func 43]) Try.call42 (.cons rfl (.cons rfl .nil))) (.cons .here .nil) (cc hz (.cons .here .nil) fun w pz ho=>y3U _ _ _ (z8T:=43) (zbT:=[]) _ (zbS:=(fun (y0 : Sapi_Come) (y1 : Sapi_Come)=>y2w y0 y1)) _ zuk w pz Try.call43 (fun w' hz' y0 y1  r  hr=>y7a _ _ _ _ hr w' hz' ) ho) ?_
 rintro  zoD
 refine WL.repin (i:=0) rfl (u:=(.slice z5I zjU.length z5J)) (y1P zoD.symm) ?_
 refine WL.nil (WX.a (WC.b (WC.a (WL.pu rfl (WL.pu rfl (WL.nil (WX.a (WC.ret ?_))))))))
 obtain rfl:=Option.some.inj h
 refine WX.yj Try.results27 (.tmp rfl .nil) (fun w hw=>?_)
 exact ⟨y10 rfl,(zoD.trans rfl),hw.sub (.cons .here .nil)⟩
def y2s (z17 : List zSt) (z1m : List (List Sapi_Hop)) (zb : Sapi_Config) (z84 : (List Snetwork_event) → Option (List Sapi_Come × List Sapi_Come × Int)) : Nat → Int → (List Snetwork_event) → Option (List Sapi_Come × List Sapi_Come × Int)
 | 0,_,_=>none
 | zjV + 1,z2p,z3H=>if decide (z2p < ((z17.length : Nat) : Int)) then jp1 (fun (z5K : List Snetwork_event)=>y2s z17 z1m zb z84 zjV (i64 (z2p + 1)) z5K) fun zgg=>chk ((0 : Int) ≤ z2p ∧ z2p < ((z17.length : Nat) : Int)) (chk ((0 : Int) ≤ ((nth z17 z2p).fVL) ∧ ((nth z17 z2p).fVL) < ((z1m.length : Nat) : Int)) (if decide ((((nth z1m ((nth z17 z2p).fVL)).length : Nat) : Int) > 0) then chk ((0 : Int) ≤ 0 ∧ 0 < (((nth z1m ((nth z17 z2p).fVL)).length : Nat) : Int)) ((y2l zb z1m z17 ([] : List (Snetwork_exit × Sport_Port)) z3H [] [] ((nth (nth z1m ((nth z17 z2p).fVL)) 0).fNode) ((nth z17 z2p).fTime) (-1) z2p).bind fun zjW=>zgg zjW) else zgg z3H)) else z84 z3H
theorem y6j {n : Nat} {z17 : List zSt} {z1m : List (List Sapi_Hop)} {zb : Sapi_Config} {z84 : (List Snetwork_event) → Option (List Sapi_Come × List Sapi_Come × Int)} {z2p : Int} {z3H : List Snetwork_event} {r : List Sapi_Come × List Sapi_Come × Int} (h : y2s z17 z1m zb z84 n z2p z3H = some r) : ∃ m,n = m + 1:=by
 cases n with
 | zero=>cases h
 | succ m=>exact ⟨m,rfl⟩
def y2t (zb : Sapi_Config) (z1m : List (List Sapi_Hop)) (z17 : List zSt) (z85 : (List Snetwork_event) → (List Sapi_Come) → (List Sapi_Come) → (List (Snetwork_exit × Sport_Port)) → Option (List Sapi_Come × List Sapi_Come × Int)) : Nat → (List Snetwork_event) → (List Sapi_Come) → (List Sapi_Come) → (List (Snetwork_exit × Sport_Port)) → Option (List Sapi_Come × List Sapi_Come × Int)
 | 0,_,_,_,_=>none
 | zjX + 1,z3T,z49,z4a,z5o=>if decide (((z3T.length : Nat) : Int) > 0) then (y2T zb z1m z17 z5o z3T z49 z4a).bind fun z86=>y2t zb z1m z17 z85 zjX z86.1 z86.2.1 z86.2.2.1 z86.2.2.2 else z85 z3T z49 z4a z5o
theorem y6k {n : Nat} {zb : Sapi_Config} {z1m : List (List Sapi_Hop)} {z17 : List zSt} {z85 : (List Snetwork_event) → (List Sapi_Come) → (List Sapi_Come) → (List (Snetwork_exit × Sport_Port)) → Option (List Sapi_Come × List Sapi_Come × Int)} {z3T : List Snetwork_event} {z49 : List Sapi_Come} {z4a : List Sapi_Come} {z5o : List (Snetwork_exit × Sport_Port)} {r : List Sapi_Come × List Sapi_Come × Int} (h : y2t zb z1m z17 z85 n z3T z49 z4a z5o = some r) : ∃ m,n = m + 1:=by
 cases n with
 | zero=>cases h
 | succ m=>exact ⟨m,rfl⟩
def y2H (zb : Sapi_Config) (zbU : Int) (z1m : List (List Sapi_Hop)) (z17 : List zSt) : Option (List Sapi_Come × List Sapi_Come × Int) :=
 (y2W zb zbU z1m).bind fun zoE=>if !zoE then some (([] : List Sapi_Come),([] : List Sapi_Come),310) else (y3i zb z17).bind fun zoF=>if !zoF then some (([] : List Sapi_Come),([] : List Sapi_Come),311) else jp1 (fun (z5L : List Snetwork_event)=>jp4 (fun (z87 : List Snetwork_event) (z71 : List Sapi_Come) (z5M : List Sapi_Come) (zad : List (Snetwork_exit × Sport_Port))=>(y1i z71).bind fun zoG=>(y1i z5M).bind fun zoH=>some (zoG,zoH,0)) fun z85=>y2t zb z1m z17 z85 ys z5L ([] : List Sapi_Come) ([] : List Sapi_Come) ([] : List (Snetwork_exit × Sport_Port))) fun z84=>y2s z17 z1m zb z84 ys 0 ([] : List Snetwork_event)
set_option maxRecDepth 20000 in
theorem y59 (Z : Zp) (z4o : Option Addr) (z4p : Nat) (z4q : Option Addr) (z4r : Nat) (z4s : Option Addr) (z4t : Nat) (z4u : Option Addr) (z4v : Nat) (z4w : Option Addr) (z4x : Nat) (z4y : Option Addr) (z4z : Nat) (z4A : Option Addr) (z4B : Nat) (z4C : Option Addr) (z4D : Nat) (z4E : Option Addr) (z4F : Nat) (z4G : Option Addr) (z4H : Nat) (zb : Sapi_Config) (zbU : Int) (z1m : List (List Sapi_Hop)) (z17 : List zSt) (r : List Sapi_Come × List Sapi_Come × Int)
  (h : y2H zb zbU z1m z17 = some r) (w₀ : World) (hz : PZ [] w₀ Z)
  (zgh : ZS Z 4 (y2I Z) z4o z4p zb.fModules)
  (zgi : ZS Z 4 (y31 Z) z4q z4r zb.fChannels)
  (zgj : ZS Z 4 (fun r x=>r = e64 x) z4s z4t zb.fSwitches)
  (zgk : ZS Z 4 (fun r x=>r = e62 x) z4u z4v zb.fLinks)
  (zgl : ZS Z 7 (y2S Z) z4w z4x zb.fVLs)
  (zgm : ZS Z 5 (fun r x=>r = y3g x) z4y z4z zb.fHealth)
  (zgn : ZS Z 3 (y32 Z) z4A z4B zb.fCauses)
  (zgo : ZS Z 4 (fun r x=>r = y3h x) z4C z4D zb.fVersions)
  (zgp : ZS Z 1 (p55 Z) z4E z4F z1m)
  (zgq : ZS Z 3 (fun r x=>r = e53 x) z4G z4H z17) :
  Calls Try.prog 12 #[(.agg #[(.slice z4o zb.fModules.length z4p),(.slice z4q zb.fChannels.length z4r),(.slice z4s zb.fSwitches.length z4t),(.slice z4u zb.fLinks.length z4v),(.slice z4w zb.fVLs.length z4x),(.slice z4y zb.fHealth.length z4z),(.slice z4A zb.fCauses.length z4B),(.slice z4C zb.fVersions.length z4D)]),(.int .i64 zbU),(.slice z4E z1m.length z4F),(.slice z4G z17.length z4H)] w₀ fun e w'=>∃ zoI : Option Addr,∃ zoJ : Nat,∃ zoK : Option Addr,∃ zoL : Nat,e = .returned (.tuple #[(.slice zoI r.1.length zoJ),(.slice zoK r.2.1.length zoL),(.int .i64 r.2.2)]) ∧ True ∧ Hp [] w₀ w' [row (.slice zoI r.1.length zoJ) 50 3 (r.1.flatMap e50),row (.slice zoK r.2.1.length zoL) 50 3 (r.2.1.flatMap e50)]:=by
 unfold y2H at h
 refine Calls.yo (vs:=[(.agg #[(.slice z4o zb.fModules.length z4p),(.slice z4q zb.fChannels.length z4r),(.slice z4s zb.fSwitches.length z4t),(.slice z4u zb.fLinks.length z4v),(.slice z4w zb.fVLs.length z4x),(.slice z4y zb.fHealth.length z4z),(.slice z4A zb.fCauses.length z4B),(.slice z4C zb.fVersions.length z4D)]),(.int .i64 zbU),(.slice z4E z1m.length z4F),(.slice z4G z17.length z4H)]) (pre:=[]) (env:=[(0,(.agg #[(.slice z4o zb.fModules.length z4p),(.slice z4q zb.fChannels.length z4r),(.slice z4s zb.fSwitches.length z4t),(.slice z4u zb.fLinks.length z4v),(.slice z4w zb.fVLs.length z4x),(.slice z4y zb.fHealth.length z4z),(.slice z4A zb.fCauses.length z4B),(.slice z4C zb.fVersions.length z4D)])),(1,(.int .i64 zbU)),(2,(.slice z4E z1m.length z4F)),(3,(.slice z4G z17.length z4H))]) Try.func12 rfl Try.ntmps12 rfl (Hp.nil w₀ _) rfl ?_
 refine WC.b (WC.a ?_)
 refine WL.new (dd:=4) rfl rfl rfl (y2p (cs:=[(.slice z4o zb.fModules.length z4p),(.slice z4q zb.fChannels.length z4r),(.slice z4s zb.fSwitches.length z4t),(.slice z4u zb.fLinks.length z4v),(.slice z4w zb.fVLs.length z4x),(.slice z4y zb.fHealth.length z4z),(.slice z4A zb.fCauses.length z4B),(.slice z4C zb.fVersions.length z4D)]) rfl rfl) ?_
 intro zul _
 refine WL.pu rfl (WL.pu rfl (WL.pu rfl (WL.nil (WX.a (WC.b (WC.block (WC.b ?_)))))))
 obtain ⟨zoE,zum,h⟩:=zn h
 refine WC.a ?_
 refine WL.a (d:=16) rfl rfl rfl (yD y1N rfl (y1h .here) rfl) ?_
 refine WL.pu rfl (WL.pu rfl ?_)
 refine WL.b (dd:=19) rfl rfl rfl (zE (l:=[.tmp 16,.tmp 17,.tmp 18]) Try.call15 (.cons rfl (.cons rfl (.cons rfl .nil)))) .nil (cc hz .nil fun w pz ho=>y5O _ _ _ _ _ _ _ _ _ _ _ _ _ _ _ _ _ _ _ _ _ _ _ zum w pz zgh zgi zgj zgk zgl zgm zgn zgo zgp) ?_
 refine WL.pu rfl (WL.pu rfl (WL.nil (WX.a ?_)))
 refine WC.cond rfl (fun zjY=>?_) (fun zjY=>?_)
 ·replace h:=yk h zjY
  refine WC.b (WC.a (WL.pu rfl (WL.pu rfl (WL.pu rfl (WL.nil (WX.a (WC.ret (WX.yr (WX.ye ?_)))))))))
  refine WX.nilRow 50 3 ?_
  refine WX.nilRow 50 3 ?_
  obtain rfl:=Option.some.inj h
  refine WX.yj Try.results12 (.tmp rfl (.tmp rfl (.tmp rfl .nil))) (fun w hw=>?_)
  exact ⟨none,0,none,0,ret3 rfl rfl rfl,trivial,hw.sub (.cons .h1 (.cons .here .nil))⟩
 ·replace h:=yl h zjY
  refine WC.b ?_
  obtain ⟨zoF,zun,h⟩:=zn h
  refine WC.a ?_
  refine WL.a (d:=22) rfl rfl rfl (yD y1N rfl (y1h .here) rfl) ?_
  refine WL.pu rfl ?_
  refine WL.b (dd:=24) rfl rfl rfl (zE (l:=[.tmp 22,.tmp 23]) Try.call24 (.cons rfl (.cons rfl .nil))) .nil (cc hz .nil fun w pz ho=>y7z _ _ _ _ _ _ _ _ _ _ _ _ _ _ _ _ _ _ _ _ _ _ zun w pz zgh zgi zgj zgk zgl zgm zgn zgo zgq) ?_
  refine WL.pu rfl (WL.pu rfl (WL.nil (WX.a ?_)))
  refine WC.cond rfl (fun zjZ=>?_) (fun zjZ=>?_)
  ·replace h:=yk h zjZ
   refine WC.b (WC.a (WL.pu rfl (WL.pu rfl (WL.pu rfl (WL.nil (WX.a (WC.ret (WX.yr (WX.ye ?_)))))))))
   refine WX.nilRow 50 3 ?_
   refine WX.nilRow 50 3 ?_
   obtain rfl:=Option.some.inj h
   refine WX.yj Try.results12 (.tmp rfl (.tmp rfl (.tmp rfl .nil))) (fun w hw=>?_)
   exact ⟨none,0,none,0,ret3 rfl rfl rfl,trivial,hw.sub (.cons .h1 (.cons .here .nil))⟩
  ·replace h:=yl h zjZ
   refine WC.skip (WX.yg (WX.a (WC.b (WC.a ?_))))
   refine WL.a (d:=26) rfl rfl rfl (yD y1N rfl (y1h .here) rfl) ?_
   refine WL.pu rfl (WL.pu rfl ?_)
   refine WL.new (dd:=29) rfl rfl rfl (y5M (fun x=>Value.agg (y1V x).toArray) Value.pointer) ?_
   intro z4I _
   refine WL.ghL (M:=[y1n z1e ([] : List (Snetwork_exit × ((Nat × (Option Addr × Nat)) × Sport_Port))),yI z4I (fun x=>Value.agg (y1V x).toArray) Value.pointer (y1o ([] : List (Snetwork_exit × ((Nat × (Option Addr × Nat)) × Sport_Port)))),stb zul 31 [(.slice z4o zb.fModules.length z4p),(.slice z4q zb.fChannels.length z4r),(.slice z4s zb.fSwitches.length z4t),(.slice z4u zb.fLinks.length z4v),(.slice z4w zb.fVLs.length z4x),(.slice z4y zb.fHealth.length z4z),(.slice z4A zb.fCauses.length z4B),(.slice z4C zb.fVersions.length z4D)]]) (fun _ h=>Hp.ya8 z1e h) ?_
   refine WL.a (d:=30) rfl rfl rfl (y1l (v:=(.agg #[(.slice z4o zb.fModules.length z4p),(.slice z4q zb.fChannels.length z4r),(.slice z4s zb.fSwitches.length z4t),(.slice z4u zb.fLinks.length z4v),(.slice z4w zb.fVLs.length z4x),(.slice z4y zb.fHealth.length z4z),(.slice z4A zb.fCauses.length z4B),(.slice z4C zb.fVersions.length z4D),(.slice z4E z1m.length z4F),(.slice z4G z17.length z4H),(.map (some z4I)),(.slice none 0 0),(.slice none 0 0),(.slice none 0 0)])) (Eos.parts (l:=[.tmp 26,.tmp 27,.tmp 28,.tmp 29]) (.cons rfl (.cons rfl (.cons rfl (.cons rfl .nil)))) [0,1,2,3]) (fun _=>by kernel_rfl)) ?_
   refine WL.new (dd:=31) rfl rfl rfl (y2p (cs:=[(.slice z4o zb.fModules.length z4p),(.slice z4q zb.fChannels.length z4r),(.slice z4s zb.fSwitches.length z4t),(.slice z4u zb.fLinks.length z4v),(.slice z4w zb.fVLs.length z4x),(.slice z4y zb.fHealth.length z4z),(.slice z4A zb.fCauses.length z4B),(.slice z4C zb.fVersions.length z4D),(.slice z4E z1m.length z4F),(.slice z4G z17.length z4H),(.map (some z4I)),(.slice none 0 0),(.slice none 0 0),(.slice none 0 0)]) rfl rfl) ?_
   intro z5N _
   refine WL.pu rfl (WL.nil (WX.a ?_))
   obtain ⟨z84,zuo,h⟩:=y1b h
   refine WC.y3Y (fun (z5L : List Snetwork_event) (zbV : Option Addr) (zbW : Nat)=>(z84 z5L = some r)) (fun (z5L : List Snetwork_event) (zbV : Option Addr) (zbW : Nat)=>[(11,(.pointer (some ⟨z5N,0,none⟩)))]) (fun (z5L : List Snetwork_event) (zbV : Option Addr) (zbW : Nat)=>[stb z5N 81 [(.slice z4o zb.fModules.length z4p),(.slice z4q zb.fChannels.length z4r),(.slice z4s zb.fSwitches.length z4t),(.slice z4u zb.fLinks.length z4v),(.slice z4w zb.fVLs.length z4x),(.slice z4y zb.fHealth.length z4z),(.slice z4A zb.fCauses.length z4B),(.slice z4C zb.fVersions.length z4D),(.slice z4E z1m.length z4F),(.slice z4G z17.length z4H),(.map (some z4I)),(.slice zbV z5L.length zbW),(.slice none 0 0),(.slice none 0 0)],row (.slice zbV z5L.length zbW) 113 7 (z5L.flatMap yA),yI z4I (fun x=>Value.agg (y1V x).toArray) Value.pointer (y1o ([] : List (Snetwork_exit × ((Nat × (Option Addr × Nat)) × Sport_Port)))),y1n z1e ([] : List (Snetwork_exit × ((Nat × (Option Addr × Nat)) × Sport_Port)))]) ?_ ?_
   ·skip
    refine WC.b (WC.a (WL.pu rfl ?_))
    refine WL.a (d:=33) rfl rfl rfl (yZ Try.underlying33 rfl) ?_
    refine WL.pu rfl (WL.nil (WX.a (WC.block ?_)))
    refine WC.nilRow 113 7 ?_
    refine WC.y6q (fun (zbX : Nat) (z2p : Int) (z3H : List Snetwork_event) (z8U : Option Addr) (z8V : Nat)=>(y2s z17 z1m zb z84 zbX z2p z3H = some r)) (fun (zbX : Nat) (z2p : Int) (z3H : List Snetwork_event) (z8U : Option Addr) (z8V : Nat)=>[(2,(.slice z4E z1m.length z4F)),(11,(.pointer (some ⟨z5N,0,none⟩))),(32,(.slice z4G z17.length z4H)),(33,(.int .i64 ((z17.length : Nat) : Int))),(34,(.int .i64 z2p))]) (fun (zbX : Nat) (z2p : Int) (z3H : List Snetwork_event) (z8U : Option Addr) (z8V : Nat)=>[stb z5N 81 [(.slice z4o zb.fModules.length z4p),(.slice z4q zb.fChannels.length z4r),(.slice z4s zb.fSwitches.length z4t),(.slice z4u zb.fLinks.length z4v),(.slice z4w zb.fVLs.length z4x),(.slice z4y zb.fHealth.length z4z),(.slice z4A zb.fCauses.length z4B),(.slice z4C zb.fVersions.length z4D),(.slice z4E z1m.length z4F),(.slice z4G z17.length z4H),(.map (some z4I)),(.slice z8U z3H.length z8V),(.slice none 0 0),(.slice none 0 0)],row (.slice z8U z3H.length z8V) 113 7 (z3H.flatMap yA),yI z4I (fun x=>Value.agg (y1V x).toArray) Value.pointer (y1o ([] : List (Snetwork_exit × ((Nat × (Option Addr × Nat)) × Sport_Port)))),y1n z1e ([] : List (Snetwork_exit × ((Nat × (Option Addr × Nat)) × Sport_Port)))]) (fun (zbX : Nat) (z2p : Int) (z3H : List Snetwork_event) (z8U : Option Addr) (z8V : Nat)=>zbX) ⟨ys,0,([] : List Snetwork_event),none,0⟩ h (.cons rfl (.cons rfl (.cons rfl (.cons rfl (.cons rfl .nil))))) (.cons .h1 (.cons .here (.cons .h1 (.cons .here .nil)))) ?_
    rintro zbX z2p z3H z8U z8V h
    obtain ⟨zjV,rfl⟩:=y6j h
    rw [y2s] at h
    refine WC.b (WC.a (WL.pu rfl (WL.nil (WX.a (WC.b ?_)))))
    refine WC.cond rfl (fun zk0=>?_) (fun zk0=>?_)
    ·replace h:=yk h zk0
     refine WC.skip (WX.a ?_)
     obtain ⟨zgg,zup,h⟩:=y1b h
     refine WC.y3Y (fun (z5K : List Snetwork_event) (zbY : Option Addr) (zbZ : Nat)=>(zgg z5K = some r)) (fun (z5K : List Snetwork_event) (zbY : Option Addr) (zbZ : Nat)=>[(2,(.slice z4E z1m.length z4F)),(11,(.pointer (some ⟨z5N,0,none⟩))),(32,(.slice z4G z17.length z4H)),(33,(.int .i64 ((z17.length : Nat) : Int))),(34,(.int .i64 z2p))]) (fun (z5K : List Snetwork_event) (zbY : Option Addr) (zbZ : Nat)=>[stb z5N 81 [(.slice z4o zb.fModules.length z4p),(.slice z4q zb.fChannels.length z4r),(.slice z4s zb.fSwitches.length z4t),(.slice z4u zb.fLinks.length z4v),(.slice z4w zb.fVLs.length z4x),(.slice z4y zb.fHealth.length z4z),(.slice z4A zb.fCauses.length z4B),(.slice z4C zb.fVersions.length z4D),(.slice z4E z1m.length z4F),(.slice z4G z17.length z4H),(.map (some z4I)),(.slice zbY z5K.length zbZ),(.slice none 0 0),(.slice none 0 0)],row (.slice zbY z5K.length zbZ) 113 7 (z5K.flatMap yA),yI z4I (fun x=>Value.agg (y1V x).toArray) Value.pointer (y1o ([] : List (Snetwork_exit × ((Nat × (Option Addr × Nat)) × Sport_Port)))),y1n z1e ([] : List (Snetwork_exit × ((Nat × (Option Addr × Nat)) × Sport_Port)))]) ?_ ?_
     ·skip
      refine WC.block (WC.b ?_)
      obtain ⟨zuq,h⟩:=yi h
      refine WC.a (WL.pu rfl ?_)
      refine WL.znth (dd:=37) rfl rfl (Z:=Z) (Pr:=(fun r x=>r = e53 x)) y43 rfl rfl zgq zuq ?_
      rintro zzv zzw zur zzx rfl
      refine WL.a (d:=38) rfl rfl rfl (yD y6a rfl (y3p hz.pv zur) rfl) ?_
      refine WL.new (dd:=13) rfl rfl rfl (y1Y (cs:=[(.int .i64 0),(.int .i64 0),(.int .i64 0)]) y6w rfl) ?_
      intro zzy _
      refine WL.pu rfl ?_
      refine WL.y1g rfl rfl (y1A y7i rfl rfl rfl .here rfl rfl rfl) ?_
      refine WL.nil (WX.a (WC.b ?_))
      obtain ⟨zus,h⟩:=yi h
      refine WC.a (WL.pu rfl ?_)
      refine WL.a (d:=40) rfl rfl rfl (ya y4E rfl rfl) ?_
      refine WL.a (d:=41) rfl rfl rfl (yb yh rfl (yd .here rfl)) ?_
      refine WL.znth (dd:=42) rfl rfl (Z:=Z) (Pr:=(p55 Z)) y65 rfl rfl zgp zus ?_
      rintro zzz zzA zut zzB ⟨zzC,zzD,rfl,zuu⟩
      refine WL.a (d:=43) rfl rfl rfl (yb y66 rfl (rd_z hz.pv zut rfl)) ?_
      refine WL.pu rfl (WL.nil (WX.a (WC.b (WC.a (WL.pu rfl ?_)))))
      refine WL.a (d:=45) rfl rfl rfl (yZ Try.underlying55 rfl) ?_
      refine WL.pu rfl (WL.nil (WX.a ?_))
      refine WC.cond rfl (fun zk1=>?_) (fun zk1=>?_)
      ·replace h:=yk h zk1
       obtain ⟨zuv,h⟩:=yi h
       obtain ⟨zjW,zuw,h⟩:=zn h
       refine WC.y12 (fun i=>[8].contains i) [] rfl ?_
       refine WD.a (i:=0) (d:=47) (by kernel_rfl) rfl z2 z3 rfl rfl rfl (fun _=>q_m rfl) ?_
       refine WD.a (i:=1) (d:=48) (by kernel_rfl) rfl z2 z3 rfl rfl rfl (fun _=>q_m rfl) ?_
       refine WD.znth (j:=2) (dd:=49) (by kernel_rfl) rfl z2 z3 rfl rfl (Z:=Z) (Pr:=(fun r x=>r = e59 x)) y67 rfl rfl zuu zuv ?_
       rintro zzE zzF zux zzG rfl
       refine WD.a (i:=3) (d:=50) (by kernel_rfl) rfl z2 z3 rfl rfl rfl (fun _=>ya y39 rfl rfl) ?_
       refine WD.e (i:=4) (d:=51) (by kernel_rfl) rfl z2 z3 rfl rfl rfl (yb yh rfl (y2h hz.pv zux rfl)) ?_
       refine WD.a (i:=5) (d:=52) (by kernel_rfl) rfl z2 z3 rfl rfl rfl (fun _=>ya y4t rfl rfl) ?_
       refine WD.e (i:=6) (d:=53) (by kernel_rfl) rfl z2 z3 rfl rfl rfl (yb yh rfl (yd .here rfl)) ?_
       refine WD.a (i:=7) (d:=54) (by kernel_rfl) rfl z2 z3 rfl rfl rfl (fun _=>q_m rfl) ?_
       refine WD.call2 (i:=8) (dd:=55) rfl (by kernel_rfl) rfl rfl rfl (.inl ⟨rfl,fun _ _=>(Sin.of .nil)⟩) (zE (l:=[.tmp 47,.tmp 51,.tmp 53,.const (.int .i64 (-1)),.tmp 54]) Try.call25 (.cons rfl (.cons rfl (.cons rfl (.cons rfl (.cons rfl .nil)))))) (.cons .h1 (.cons .h2 (.cons .h2 (.cons .h1 .nil)))) (cc hz (.cons .h1 (.cons .h2 (.cons .h2 (.cons .h1 .nil)))) fun w pz ho=>y4V _ _ _ _ _ _ _ _ _ _ _ _ _ _ _ _ _ _ _ _ _ _ _ _ _ _ _ _ _ _ _ _ _ _ _ _ _ _ _ _ _ _ zuw w pz zgh zgi zgj zgk zgl zgm zgn zgo zgp zgq rfl (ZS.nil _ _ _) (ZS.nil _ _ _) ho) ?_
       rintro zuy zuz _
       refine WD.done (by kernel_rfl) ?_
       refine WX.yg ?_
       exact WX.mid (G:=List Snetwork_event × Option Addr × Nat) ⟨zjW,zuy,zuz⟩ h (.cons rfl (.cons rfl (.cons rfl (.cons rfl (.cons rfl .nil))))) (.cons .here (.cons .here (.cons .here (.cons .here .nil))))
      ·replace h:=yl h zk1
       refine WC.skip (WX.yg ?_)
       exact WX.mid (G:=List Snetwork_event × Option Addr × Nat) ⟨z3H,z8U,z8V⟩ h (.cons rfl (.cons rfl (.cons rfl (.cons rfl (.cons rfl .nil))))) (.cons .h1 (.cons .h1 (.cons .h1 (.cons .h1 .nil))))
     ·rintro z5K zbY zbZ h
      replace h:=(zup z5K).symm.trans h
      refine WC.a (WL.pu rfl (WL.pu rfl (WL.nil ?_)))
      exact WX.round (G:=Nat × Int × List Snetwork_event × Option Addr × Nat) ⟨zjV,(i64 (z2p + 1)),z5K,zbY,zbZ⟩ h (Nat.lt_succ_self _) (.cons rfl (.cons rfl (.cons rfl (.cons rfl (.cons rfl .nil))))) (.cons .here (.cons .here (.cons .here (.cons .here .nil))))
    ·replace h:=yl h zk0
     refine WC.exit (WX.yc (WX.yc (WX.yt ?_)))
     exact WX.mid (G:=List Snetwork_event × Option Addr × Nat) ⟨z3H,z8U,z8V⟩ h (.cons rfl .nil) (.cons .here (.cons .here (.cons .here (.cons .here .nil))))
   ·rintro z5L zbV zbW h
    replace h:=(zuo z5L).symm.trans h
    obtain ⟨z85,zuA,h⟩:=jp4_elim h
    refine WC.y9u (fun (z87 : List Snetwork_event) (z71 : List Sapi_Come) (z5M : List Sapi_Come) (zad : List (Snetwork_exit × Sport_Port)) (zez : Option Addr) (zeA : Nat) (zc0 : Option Addr) (zc1 : Nat) (zae : Option Addr) (zaf : Nat) (zc2 : List (Snetwork_exit × ((Nat × (Option Addr × Nat)) × Sport_Port)))=>(z85 z87 z71 z5M zad = some r) ∧ (dat zc2 = zad)) (fun (z87 : List Snetwork_event) (z71 : List Sapi_Come) (z5M : List Sapi_Come) (zad : List (Snetwork_exit × Sport_Port)) (zez : Option Addr) (zeA : Nat) (zc0 : Option Addr) (zc1 : Nat) (zae : Option Addr) (zaf : Nat) (zc2 : List (Snetwork_exit × ((Nat × (Option Addr × Nat)) × Sport_Port)))=>[(11,(.pointer (some ⟨z5N,0,none⟩)))]) (fun (z87 : List Snetwork_event) (z71 : List Sapi_Come) (z5M : List Sapi_Come) (zad : List (Snetwork_exit × Sport_Port)) (zez : Option Addr) (zeA : Nat) (zc0 : Option Addr) (zc1 : Nat) (zae : Option Addr) (zaf : Nat) (zc2 : List (Snetwork_exit × ((Nat × (Option Addr × Nat)) × Sport_Port)))=>[stb z5N 81 [(.slice z4o zb.fModules.length z4p),(.slice z4q zb.fChannels.length z4r),(.slice z4s zb.fSwitches.length z4t),(.slice z4u zb.fLinks.length z4v),(.slice z4w zb.fVLs.length z4x),(.slice z4y zb.fHealth.length z4z),(.slice z4A zb.fCauses.length z4B),(.slice z4C zb.fVersions.length z4D),(.slice z4E z1m.length z4F),(.slice z4G z17.length z4H),(.map (some z4I)),(.slice zez z87.length zeA),(.slice zc0 z71.length zc1),(.slice zae z5M.length zaf)],row (.slice zez z87.length zeA) 113 7 (z87.flatMap yA),row (.slice zc0 z71.length zc1) 50 3 (z71.flatMap e50),row (.slice zae z5M.length zaf) 50 3 (z5M.flatMap e50),yI z4I (fun x=>Value.agg (y1V x).toArray) Value.pointer (y1o zc2),y1n z1e zc2]) ?_ ?_
    ·skip
     refine WC.block ?_
     refine WC.nilRow 50 3 ?_
     refine WC.nilRow 50 3 ?_
     refine WC.yag (fun (zc3 : Nat) (z3T : List Snetwork_event) (z49 : List Sapi_Come) (z4a : List Sapi_Come) (z5o : List (Snetwork_exit × Sport_Port)) (zag : Option Addr) (zah : Nat) (zai : Option Addr) (zaj : Nat) (zak : Option Addr) (zal : Nat) (z8W : List (Snetwork_exit × ((Nat × (Option Addr × Nat)) × Sport_Port)))=>(y2t zb z1m z17 z85 zc3 z3T z49 z4a z5o = some r) ∧ (dat z8W = z5o)) (fun (zc3 : Nat) (z3T : List Snetwork_event) (z49 : List Sapi_Come) (z4a : List Sapi_Come) (z5o : List (Snetwork_exit × Sport_Port)) (zag : Option Addr) (zah : Nat) (zai : Option Addr) (zaj : Nat) (zak : Option Addr) (zal : Nat) (z8W : List (Snetwork_exit × ((Nat × (Option Addr × Nat)) × Sport_Port)))=>[(11,(.pointer (some ⟨z5N,0,none⟩)))]) (fun (zc3 : Nat) (z3T : List Snetwork_event) (z49 : List Sapi_Come) (z4a : List Sapi_Come) (z5o : List (Snetwork_exit × Sport_Port)) (zag : Option Addr) (zah : Nat) (zai : Option Addr) (zaj : Nat) (zak : Option Addr) (zal : Nat) (z8W : List (Snetwork_exit × ((Nat × (Option Addr × Nat)) × Sport_Port)))=>[stb z5N 81 [(.slice z4o zb.fModules.length z4p),(.slice z4q zb.fChannels.length z4r),(.slice z4s zb.fSwitches.length z4t),(.slice z4u zb.fLinks.length z4v),(.slice z4w zb.fVLs.length z4x),(.slice z4y zb.fHealth.length z4z),(.slice z4A zb.fCauses.length z4B),(.slice z4C zb.fVersions.length z4D),(.slice z4E z1m.length z4F),(.slice z4G z17.length z4H),(.map (some z4I)),(.slice zag z3T.length zah),(.slice zai z49.length zaj),(.slice zak z4a.length zal)],row (.slice zag z3T.length zah) 113 7 (z3T.flatMap yA),row (.slice zai z49.length zaj) 50 3 (z49.flatMap e50),row (.slice zak z4a.length zal) 50 3 (z4a.flatMap e50),yI z4I (fun x=>Value.agg (y1V x).toArray) Value.pointer (y1o z8W),y1n z1e z8W]) (fun (zc3 : Nat) (z3T : List Snetwork_event) (z49 : List Sapi_Come) (z4a : List Sapi_Come) (z5o : List (Snetwork_exit × Sport_Port)) (zag : Option Addr) (zah : Nat) (zai : Option Addr) (zaj : Nat) (zak : Option Addr) (zal : Nat) (z8W : List (Snetwork_exit × ((Nat × (Option Addr × Nat)) × Sport_Port)))=>zc3) ⟨ys,z5L,([] : List Sapi_Come),([] : List Sapi_Come),([] : List (Snetwork_exit × Sport_Port)),zbV,zbW,none,0,none,0,([] : List (Snetwork_exit × ((Nat × (Option Addr × Nat)) × Sport_Port)))⟩ ⟨h,rfl⟩ (.cons rfl .nil) (.cons .h2 (.cons .h2 (.cons .h1 (.cons .here (.cons .here (.cons .here .nil)))))) ?_
     rintro zc3 z3T z49 z4a z5o zag zah zai zaj zak zal z8W ⟨h,zoM⟩
     obtain ⟨zjX,rfl⟩:=y6k h
     rw [y2t] at h
     refine WC.b (WC.b (WC.a (WL.pu rfl ?_)))
     refine WL.a (d:=58) rfl rfl rfl (yw rfl) ?_
     refine WL.a (d:=59) rfl rfl rfl (ya y8j rfl rfl) ?_
     refine WL.a (d:=60) rfl rfl rfl (yb y5l rfl (yd .here rfl)) ?_
     refine WL.a (d:=61) rfl rfl rfl (yZ Try.underlying79 rfl) ?_
     refine WL.pu rfl (WL.nil (WX.a ?_))
     refine WC.cond rfl (fun zk2=>?_) (fun zk2=>?_)
     ·replace h:=yk h zk2
      refine WC.skip (WX.a (WC.block ?_))
      obtain ⟨z86,zuB,h⟩:=zn h
      refine WC.a (WL.pu rfl ?_)
      refine WL.yaf (dd:=64) rfl rfl rfl (zE (l:=[.tmp 63]) Try.call26 (.cons rfl .nil)) (.cons .here (.cons .h3 (.cons .h3 (.cons .here (.cons .here (.cons .here .nil)))))) (cc hz (.cons .here (.cons .h3 (.cons .h3 (.cons .here (.cons .here (.cons .here .nil)))))) fun w pz ho=>y79 _ _ _ _ _ _ _ _ _ _ _ _ _ _ _ _ _ _ _ _ _ _ _ _ _ _ _ _ _ _ _ _ _ _ _ _ _ _ zuB w pz zgh zgi zgj zgk zgl zgm zgn zgo zgp zgq zoM ho) ?_
      rintro zuC zuD zuE zuF zuG zuH zuI zuJ
      refine WL.nil (WX.yg ?_)
      exact WX.round (G:=Nat × List Snetwork_event × List Sapi_Come × List Sapi_Come × (List (Snetwork_exit × Sport_Port)) × Option Addr × Nat × Option Addr × Nat × Option Addr × Nat × (List (Snetwork_exit × ((Nat × (Option Addr × Nat)) × Sport_Port)))) ⟨zjX,z86.1,z86.2.1,z86.2.2.1,z86.2.2.2,zuC,zuD,zuE,zuF,zuG,zuH,zuI⟩ ⟨h,zuJ⟩ (Nat.lt_succ_self _) (.cons rfl .nil) (.cons .here (.cons .here (.cons .here (.cons .here (.cons .here (.cons .here .nil))))))
     ·replace h:=yl h zk2
      refine WC.exit (WX.yc (WX.yc (WX.yt ?_)))
      exact WX.mid (G:=List Snetwork_event × List Sapi_Come × List Sapi_Come × (List (Snetwork_exit × Sport_Port)) × Option Addr × Nat × Option Addr × Nat × Option Addr × Nat × (List (Snetwork_exit × ((Nat × (Option Addr × Nat)) × Sport_Port)))) ⟨z3T,z49,z4a,z5o,zag,zah,zai,zaj,zak,zal,z8W⟩ ⟨h,zoM⟩ (.cons rfl .nil) (.cons .here (.cons .here (.cons .here (.cons .here (.cons .here (.cons .here .nil))))))
    ·rintro z87 z71 z5M zad zez zeA zc0 zc1 zae zaf zc2 ⟨h,zzH⟩
     replace h:=(zuA z87 z71 z5M zad).symm.trans h
     refine WC.b ?_
     obtain ⟨zoG,zuK,h⟩:=zn h
     obtain ⟨zoH,zuL,h⟩:=zn h
     refine WC.y12 (fun i=>[4,9].contains i) [stbp z5N 81 [(13,(.slice zae z5M.length zaf))]] rfl ?_
     refine WD.a (i:=0) (d:=65) (by kernel_rfl) rfl z2 z3 rfl rfl rfl (fun _=>q_m rfl) ?_
     refine WD.a (i:=1) (d:=66) (by kernel_rfl) rfl z2 z3 rfl rfl rfl (fun _=>yw rfl) ?_
     refine WD.a (i:=2) (d:=67) (by kernel_rfl) rfl z2 z3 rfl rfl rfl (fun _=>ya y8n rfl rfl) ?_
     refine WD.e (i:=3) (d:=68) (by kernel_rfl) rfl z2 z3 rfl rfl rfl (yb y5m rfl (yd .here rfl)) ?_
     refine WD.a (i:=5) (d:=70) (by kernel_rfl) rfl z2 z3 rfl rfl rfl (fun _=>q_m rfl) ?_
     refine WD.a (i:=6) (d:=71) (by kernel_rfl) rfl z2 z3 rfl rfl rfl (fun _=>yw rfl) ?_
     refine WD.a (i:=7) (d:=72) (by kernel_rfl) rfl z2 z3 rfl rfl rfl (fun _=>ya y8m rfl rfl) ?_
     refine WD.stable (i:=8) (d:=73) (by kernel_rfl) rfl z2 z3 rfl rfl rfl (Sin.wk (.cons .here .nil) (.stb (.cons rfl .nil) .nil)) (yb y5m rfl (y7d .here (.head _))) ?_
     refine WD.call0 (i:=4) (dd:=69) rfl (by kernel_rfl) rfl rfl rfl (.inl ⟨rfl,(Sin.wk (.cons .h1 .nil) (.stb (.cons rfl .nil) .nil))⟩) (zE (l:=[.tmp 68]) Try.call27 (.cons rfl .nil)) (.cons .h2 .nil) (cc hz (.cons .h2 .nil) fun w pz ho=>y5B _ _ _ _ _ zuK w pz  ho) ?_
     rintro  zzI
     refine WD.call0 (i:=9) (dd:=74) rfl (by kernel_rfl) rfl rfl rfl (.inl ⟨rfl,(Sin.wk (.cons .h2 .nil) (.stb (.cons rfl .nil) .nil))⟩) (zE (l:=[.tmp 73]) Try.call27 (.cons rfl .nil)) (.cons .h3 .nil) (cc hz (.cons .h3 .nil) fun w pz ho=>y5B _ _ _ _ _ zuL w pz  ho) ?_
     rintro  zzJ
     refine WD.a (i:=10) (d:=8) (by kernel_rfl) rfl z2 z3 rfl rfl rfl (fun _=>q_z rfl) ?_
     refine WD.a (i:=11) (d:=9) (by kernel_rfl) rfl z2 z3 rfl rfl rfl (fun _=>q_z rfl) ?_
     refine WD.a (i:=12) (d:=10) (by kernel_rfl) rfl z2 z3 rfl rfl rfl (fun _=>q_z rfl) ?_
     refine WD.done (by kernel_rfl) ?_
     refine WX.a (WC.ret ?_)
     obtain rfl:=Option.some.inj h
     refine WX.yj Try.results12 (.tmp rfl (.tmp rfl (.tmp rfl .nil))) (fun w hw=>?_)
     exact ⟨zc0,zc1,zae,zaf,ret3 rfl rfl rfl,trivial,hw.sub (.cons .h1 (.cons .here .nil))⟩
def y2C (z2e : List Sapi_Come) (z2u : List Sapi_Come) (z88 : Option Bool) : Nat → Int → Option Bool
 | 0,_=>none
 | zk3 + 1,z1F=>if decide (z1F < ((z2e.length : Nat) : Int)) then chk ((0 : Int) ≤ z1F ∧ z1F < ((z2e.length : Nat) : Int)) (chk ((0 : Int) ≤ z1F ∧ z1F < ((z2u.length : Nat) : Int)) (if decide ((⟨((nth z2e z1F).fSent),((nth z2e z1F).fNode),((nth z2e z1F).fTime)⟩ : Sapi_Come) ≠ (⟨((nth z2u z1F).fSent),((nth z2u z1F).fNode),((nth z2u z1F).fTime)⟩ : Sapi_Come)) then some false else y2C z2e z2u z88 zk3 (i64 (z1F + 1)))) else z88
theorem y6C {n : Nat} {z2e : List Sapi_Come} {z2u : List Sapi_Come} {z88 : Option Bool} {z1F : Int} {r : Bool} (h : y2C z2e z2u z88 n z1F = some r) : ∃ m,n = m + 1:=by
 cases n with
 | zero=>cases h
 | succ m=>exact ⟨m,rfl⟩
def y3l (z2e : List Sapi_Come) (z2u : List Sapi_Come) : Option Bool :=
 if decide (((z2e.length : Nat) : Int) ≠ ((z2u.length : Nat) : Int)) then some false else jp0 (some true) fun z88=>y2C z2e z2u z88 ys 0
set_option maxRecDepth 20000 in
theorem y5C (Z : Zp) (zeB : Option Addr) (zeC : Nat) (zeD : Option Addr) (zeE : Nat) (z2e : List Sapi_Come) (z2u : List Sapi_Come) (r : Bool)
  (h : y3l z2e z2u = some r) (w₀ : World) (hz : PZ [] w₀ Z)
  (zuM : ZS Z 3 (fun r x=>r = e50 x) zeB zeC z2e)
  (zuN : ZS Z 3 (fun r x=>r = e50 x) zeD zeE z2u) :
  Calls Try.prog 14 #[(.slice zeB z2e.length zeC),(.slice zeD z2u.length zeE)] w₀ fun e w'=>e = .returned (.bool r) ∧ Hp [] w₀ w' []:=by
 unfold y3l at h
 refine Calls.yo (vs:=[(.slice zeB z2e.length zeC),(.slice zeD z2u.length zeE)]) (pre:=[]) (env:=[(0,(.slice zeB z2e.length zeC)),(1,(.slice zeD z2u.length zeE))]) Try.func14 rfl Try.ntmps14 rfl (Hp.nil w₀ _) rfl ?_
 refine WC.b (WC.a (WL.pu rfl (WL.nil (WX.a (WC.b (WC.b (WC.a (WL.pu rfl ?_))))))))
 refine WL.a (d:=7) rfl rfl rfl (yZ Try.underlying36 rfl) ?_
 refine WL.pu rfl ?_
 refine WL.a (d:=9) rfl rfl rfl (yZ Try.underlying36 rfl) ?_
 refine WL.pu rfl (WL.nil (WX.a ?_))
 refine WC.cond rfl (fun zk4=>?_) (fun zk4=>?_)
 ·replace h:=yk h zk4
  refine WC.b (WC.a (WL.pu rfl (WL.nil (WX.a (WC.ret (WX.ye ?_))))))
  obtain rfl:=Option.some.inj h
  refine WX.yj Try.results14 (.tmp rfl .nil) (fun w hw=>?_)
  exact ⟨y10 rfl,hw.sub .nil⟩
 ·replace h:=yl h zk4
  refine WC.skip (WX.a ?_)
  obtain ⟨z88,zuO,h⟩:=y29 h
  refine WC.y2f ((z88 = some r)) ([]) ([]) ?_ ?_
  ·skip
   refine WC.b (WC.a (WL.pu rfl ?_))
   refine WL.a (d:=12) rfl rfl rfl (yZ Try.underlying36 rfl) ?_
   refine WL.pu rfl (WL.nil (WX.a (WC.block ?_)))
   refine WC.y4h (fun (zc4 : Nat) (z1F : Int)=>(y2C z2e z2u z88 zc4 z1F = some r)) (fun (zc4 : Nat) (z1F : Int)=>[(0,(.slice zeB z2e.length zeC)),(1,(.slice zeD z2u.length zeE)),(12,(.int .i64 ((z2e.length : Nat) : Int))),(13,(.int .i64 z1F))]) (fun (zc4 : Nat) (z1F : Int)=>[]) (fun (zc4 : Nat) (z1F : Int)=>zc4) ⟨ys,0⟩ h (.cons rfl (.cons rfl (.cons rfl (.cons rfl .nil)))) .nil ?_
   rintro zc4 z1F h
   obtain ⟨zk3,rfl⟩:=y6C h
   rw [y2C] at h
   refine WC.b (WC.a (WL.pu rfl (WL.nil (WX.a (WC.b ?_)))))
   refine WC.cond rfl (fun zk5=>?_) (fun zk5=>?_)
   ·replace h:=yk h zk5
    refine WC.skip (WX.a (WC.b (WC.block (WC.b (WC.a (WL.pu rfl (WL.pu rfl (WL.nil (WX.a (WC.b ?_))))))))))
    obtain ⟨zuP,h⟩:=yi h
    obtain ⟨zuQ,h⟩:=yi h
    refine WC.y12 (fun i=>[].contains i) [] rfl ?_
    refine WD.a (i:=0) (d:=16) (by kernel_rfl) rfl z2 z3 rfl rfl rfl (fun _=>q_m rfl) ?_
    refine WD.a (i:=1) (d:=17) (by kernel_rfl) rfl z2 z3 rfl rfl rfl (fun _=>q_m rfl) ?_
    refine WD.znth (j:=2) (dd:=18) (by kernel_rfl) rfl z2 z3 rfl rfl (Z:=Z) (Pr:=(fun r x=>r = e50 x)) y14 rfl rfl zuM zuP ?_
    rintro zzK zzL zuR zzM rfl
    refine WD.e (i:=3) (d:=19) (by kernel_rfl) rfl z2 z3 rfl rfl rfl (yD y1T rfl (y3p hz.pv zuR) rfl) ?_
    refine WD.a (i:=4) (d:=20) (by kernel_rfl) rfl z2 z3 rfl rfl rfl (fun _=>q_m rfl) ?_
    refine WD.a (i:=5) (d:=21) (by kernel_rfl) rfl z2 z3 rfl rfl rfl (fun _=>q_m rfl) ?_
    refine WD.znth (j:=6) (dd:=22) (by kernel_rfl) rfl z2 z3 rfl rfl (Z:=Z) (Pr:=(fun r x=>r = e50 x)) y14 rfl rfl zuN zuQ ?_
    rintro zzN zzO zuS zzP rfl
    refine WD.e (i:=7) (d:=23) (by kernel_rfl) rfl z2 z3 rfl rfl rfl (yD y1T rfl (y3p hz.pv zuS) rfl) ?_
    refine WD.a (i:=8) (d:=24) (by kernel_rfl) rfl z2 z3 rfl rfl rfl (fun _=>q_aggneq (enc:=e50) (a:=(⟨((nth z2e z1F).fSent),((nth z2e z1F).fNode),((nth z2e z1F).fTime)⟩ : Sapi_Come)) (b:=(⟨((nth z2u z1F).fSent),((nth z2u z1F).fNode),((nth z2u z1F).fTime)⟩ : Sapi_Come)) eqT_50 rfl rfl) ?_
    refine WD.done (by kernel_rfl) ?_
    refine WX.a ?_
    refine WC.cond rfl (fun zk6=>?_) (fun zk6=>?_)
    ·replace h:=yk h zk6
     refine WC.b (WC.a (WL.pu rfl (WL.nil (WX.a (WC.ret (WX.yr (WX.ye (WX.ye (WX.yr (WX.ye ?_))))))))))
     obtain rfl:=Option.some.inj h
     refine WX.yj Try.results14 (.tmp rfl .nil) (fun w hw=>?_)
     exact ⟨y10 rfl,hw.sub .nil⟩
    ·replace h:=yl h zk6
     refine WC.skip (WX.yg (WX.a (WC.a (WL.pu rfl (WL.pu rfl (WL.nil ?_))))))
     exact WX.round (G:=Nat × Int) ⟨zk3,(i64 (z1F + 1))⟩ h (Nat.lt_succ_self _) (.cons rfl (.cons rfl (.cons rfl (.cons rfl .nil)))) .nil
   ·replace h:=yl h zk5
    refine WC.exit (WX.yc (WX.yc (WX.yt ?_)))
    exact WX.mid (G:=Unit) () h .nil .nil
  ·rintro  h
   replace h:=zuO.symm.trans h
   refine WC.b (WC.a (WL.pu rfl (WL.nil (WX.a (WC.ret ?_)))))
   obtain rfl:=Option.some.inj h
   refine WX.yj Try.results14 (.tmp rfl .nil) (fun w hw=>?_)
   exact ⟨y10 rfl,hw.sub .nil⟩
def y3m (z89 : Option Bool) : Nat → Int → Option Bool
 | 0,_=>none
 | zk7 + 1,z2v=>if decide (z2v < ((([1000,50,30] : List Int).length : Nat) : Int)) then chk ((0 : Int) ≤ z2v ∧ z2v < ((([1000,50,30] : List Int).length : Nat) : Int)) ((y4L (nth ([1000,50,30] : List Int) z2v)).bind fun z1o=>(y2H z1o.1 0 z1o.2 ([(⟨0,0,40⟩ : zSt),(⟨10,0,40⟩ : zSt)] : List zSt)).bind fun z3a=>jp2 (fun (z5O : List Sapi_Come) (z5P : List Sapi_Come)=>jp2 (fun (z72 : List Sapi_Come) (z73 : List Sapi_Come)=>(if decide (z3a.2.2 ≠ 0) then some true else (y3l z3a.1 z72).bind fun zoN=>some (!zoN)).bind fun zk8=>(if zk8 then some true else (y3l z3a.2.1 z73).bind fun zoO=>some (!zoO)).bind fun zk9=>(if zk9 then some true else (y2z z1o.1).bind fun zoP=>some (decide (zoP ≠ 3))).bind fun zka=>(if zka then some true else (y3a z1o.1 2).bind fun zoQ=>some (decide (zoQ ≠ ⟨#[115]⟩))).bind fun zkb=>if zkb then some false else y3m z89 zk7 (i64 (z2v + 1))) fun zgr=>if decide ((nth ([1000,50,30] : List Int) z2v) = 30) then zgr ([] : List Sapi_Come) ([(⟨0,2,40⟩ : Sapi_Come),(⟨1,2,80⟩ : Sapi_Come)] : List Sapi_Come) else zgr z5O z5P) fun zgs=>if decide ((nth ([1000,50,30] : List Int) z2v) = 50) then chk ((0 : Int) ≤ 1 ∧ 1 ≤ ((([(⟨0,1,96⟩ : Sapi_Come),(⟨1,1,136⟩ : Sapi_Come)] : List Sapi_Come).length : Nat) : Int)) (zgs (([(⟨0,1,96⟩ : Sapi_Come),(⟨1,1,136⟩ : Sapi_Come)] : List Sapi_Come).take (1 : Int).toNat) ([(⟨1,2,80⟩ : Sapi_Come)] : List Sapi_Come)) else zgs ([(⟨0,1,96⟩ : Sapi_Come),(⟨1,1,136⟩ : Sapi_Come)] : List Sapi_Come) ([] : List Sapi_Come)) else z89
theorem y6l {n : Nat} {z89 : Option Bool} {z2v : Int} {r : Bool} (h : y3m z89 n z2v = some r) : ∃ m,n = m + 1:=by
 cases n with
 | zero=>cases h
 | succ m=>exact ⟨m,rfl⟩
def y3t  : Option Bool :=
 jp0 (some true) fun z89=>y3m z89 ys 0
set_option maxRecDepth 20000 in
theorem y5a (Z : Zp)  (r : Bool)
  (h : y3t = some r) (w₀ : World) (hz : PZ [] w₀ Z) :
  Calls Try.prog 11 #[] w₀ fun e w'=>∃ Zn : Zp,e = .returned (.bool r) ∧ True ∧ Hp [] w₀ w' [fz Zn]:=by
 unfold y3t at h
 refine Calls.yo (vs:=[]) (pre:=[]) (env:=[]) Try.func11 rfl Try.ntmps11 rfl (Hp.nil w₀ _) rfl ?_
 refine WC.pool (WC.b (WC.a (WL.pu rfl (WL.nil (WX.a (WC.b (WC.a ?_)))))))
 refine WL.a (d:=11) rfl rfl rfl (y1l (v:=(.agg #[(.int .i64 0),(.int .i64 0),(.int .i64 40)])) (Eos.parts (l:=[.const (.int .i64 0),.const (.int .i64 40)]) (.cons rfl (.cons rfl .nil)) [0,2]) (fun _=>by kernel_rfl)) ?_
 refine WL.a (d:=12) rfl rfl rfl (y1l (v:=(.agg #[(.int .i64 10),(.int .i64 0),(.int .i64 40)])) (Eos.parts (l:=[.const (.int .i64 10),.const (.int .i64 40)]) (.cons rfl (.cons rfl .nil)) [0,2]) (fun _=>by kernel_rfl)) ?_
 refine WL.new (dd:=13) rfl rfl rfl (yS (cs:=([(⟨0,0,40⟩ : zSt),(⟨10,0,40⟩ : zSt)] : List zSt).flatMap e53) y43 (Eos.parts (l:=[.tmp 11,.tmp 12]) (.cons rfl (.cons rfl .nil)) [0,1]) (fun _=>by kernel_rfl) rfl (by unfold maxLen; omega)) ?_
 intro zc5 _
 refine WL.pu rfl (WL.nil (WX.a ?_))
 obtain ⟨z89,zuT,h⟩:=y29 h
 refine WC.y1K (fun (zc6 : Zp)=>(z89 = some r) ∧ (Zle (Z ++ []) (Z ++ zc6))) (fun (zc6 : Zp)=>[]) (fun (zc6 : Zp)=>[fz zc6]) ?_ ?_
 ·skip
  refine WC.b (WC.a ?_)
  refine WL.new (dd:=14) rfl rfl rfl (yS (cs:=([1000,50,30] : List Int).flatMap e3) y56 (Eos.parts (l:=[.const (.int .i64 1000),.const (.int .i64 50),.const (.int .i64 30)]) (.cons rfl (.cons rfl (.cons rfl .nil))) [0,1,2]) (fun _=>by kernel_rfl) rfl (by unfold maxLen; omega)) ?_
  intro zc7 _
  refine WL.a (d:=15) rfl rfl rfl (yZ Try.underlying56 rfl) ?_
  refine WL.pu rfl (WL.nil (WX.a (WC.block ?_)))
  refine WC.y2r (fun (zc8 : Nat) (z2v : Int) (z5Q : Zp)=>(y3m z89 zc8 z2v = some r) ∧ (Zle (Z ++ []) (Z ++ z5Q))) (fun (zc8 : Nat) (z2v : Int) (z5Q : Zp)=>[(1,(.slice (some ⟨zc5,0,none⟩) (([(⟨0,0,40⟩ : zSt),(⟨10,0,40⟩ : zSt)] : List zSt).length) 2)),(14,(.slice (some ⟨zc7,0,none⟩) (([1000,50,30] : List Int).length) 3)),(15,(.int .i64 ((([1000,50,30] : List Int).length : Nat) : Int))),(16,(.int .i64 z2v))]) (fun (zc8 : Nat) (z2v : Int) (z5Q : Zp)=>[fz z5Q,row (.slice (some ⟨zc5,0,none⟩) (([(⟨0,0,40⟩ : zSt),(⟨10,0,40⟩ : zSt)] : List zSt).length) 2) 53 3 (([(⟨0,0,40⟩ : zSt),(⟨10,0,40⟩ : zSt)] : List zSt).flatMap e53),row (.slice (some ⟨zc7,0,none⟩) (([1000,50,30] : List Int).length) 3) 3 1 (([1000,50,30] : List Int).flatMap e3)]) (fun (zc8 : Nat) (z2v : Int) (z5Q : Zp)=>zc8) ⟨ys,0,[]⟩ ⟨h,(Zle.refl _)⟩ (.cons rfl (.cons rfl (.cons rfl (.cons rfl .nil)))) (.cons .h2 (.cons .h1 (.cons .here .nil))) ?_
  rintro zc8 z2v z5Q ⟨h,zoR⟩
  obtain ⟨zk7,rfl⟩:=y6l h
  rw [y3m] at h
  refine WC.b (WC.a (WL.pu rfl (WL.nil (WX.a (WC.b ?_)))))
  refine WC.cond rfl (fun zkc=>?_) (fun zkc=>?_)
  ·replace h:=yk h zkc
   refine WC.skip (WX.a (WC.b (WC.block (WC.b ?_))))
   obtain ⟨zgt,h⟩:=yi h
   refine WC.a ?_
   refine WL.a (d:=18) rfl rfl rfl (yu y56 rfl rfl zgt.1 zgt.2 y1f) ?_
   refine WL.a (d:=19) rfl rfl rfl (yb yh rfl (y8X .h2 ((y1S (enc:=e3) (l:=([1000,50,30] : List Int)) (i:=z2v) (sz:=1) (fun _=>rfl) zgt.1 zgt.2) 0 _ rfl))) ?_
   refine WL.pu rfl (WL.nil (WX.a (WC.b ?_)))
   obtain ⟨z1o,zuU,h⟩:=zn h
   refine WC.a (WL.pu rfl ?_)
   refine WL.ya7 (dd:=22) rfl rfl rfl (zE (l:=[.tmp 21]) Try.call23 (.cons rfl .nil)) .nil (ccz hz .nil .here fun w pz ho=>y7Z _ _ _ zuU w pz ) ?_
   rintro zgu zgv zgw zoS zoT zoU zgx zgy zgz zgA zgB zgC zoV zoW zoX zoY zoZ zp0 zp1 zzQ zzR zzS ⟨zkd,zke,zkf,zkg,zkh,zki,zuV⟩
   refine WL.merge .here .h5 ?_
   refine WL.pu rfl (WL.pu rfl (WL.pu rfl ?_))
   refine WL.new (dd:=4) rfl rfl rfl (y1Y (cs:=[(.slice none 0 0),(.slice none 0 0),(.slice none 0 0),(.slice none 0 0),(.slice none 0 0),(.slice none 0 0),(.slice none 0 0),(.slice none 0 0)]) y7x rfl) ?_
   intro zgD _
   refine WL.y1g rfl rfl (y1A y8i rfl rfl rfl .here rfl rfl rfl) ?_
   refine WL.pu rfl (WL.nil (WX.a (WC.b ?_)))
   obtain ⟨z3a,zuW,h⟩:=zn h
   refine WC.a ?_
   refine WL.a (d:=26) rfl rfl rfl (yD y1N rfl (y1h .here) rfl) ?_
   refine WL.pu rfl (WL.pu rfl ?_)
   refine WL.y6W (dd:=29) rfl rfl rfl (zE (l:=[.tmp 26,.const (.int .i64 0),.tmp 27,.tmp 28]) Try.call12 (.cons rfl (.cons rfl (.cons rfl (.cons rfl .nil))))) .nil (cclz hz .nil .h1 (.cons .h2 (.cons .h2 (.cons .h2 (.cons .h2 (.cons .h2 (.cons .h2 .nil)))))) fun w pz ho la=>y59 _ _ _ _ _ _ _ _ _ _ _ _ _ _ _ _ _ _ _ _ _ _ _ _ _ _ zuW w pz (ZA.row (la _ (.head _) _) ((zkd.weak (fun _ _ h=>y23 (Zle.y17 _ _ _) h)).weak (fun _ _ h=>y23 (Zle.left _ _) h)) ⟨w,pz.1⟩) ((((zke.mono (Zle.y17 _ _ _)).weak (fun _ _ h=>y2c (Zle.y17 _ _ _) h)).mono (Zle.left _ _)).weak (fun _ _ h=>y2c (Zle.left _ _) h)) (ZA.row (la _ (.tail _ (.head _)) _) (RR.y16 (enc:=e64) (fun _=>rfl) _) ⟨w,pz.1⟩) (ZA.row (la _ (.tail _ (.tail _ (.head _))) _) (RR.y16 (enc:=e62) (fun _=>rfl) _) ⟨w,pz.1⟩) (ZA.row (la _ (.tail _ (.tail _ (.tail _ (.head _)))) _) ((zkf.weak (fun _ _ h=>y24 (Zle.y17 _ _ _) h)).weak (fun _ _ h=>y24 (Zle.left _ _) h)) ⟨w,pz.1⟩) ((zkg.mono (Zle.y17 _ _ _)).mono (Zle.left _ _)) ((((zkh.mono (Zle.y17 _ _ _)).weak (fun _ _ h=>y2d (Zle.y17 _ _ _) h)).mono (Zle.left _ _)).weak (fun _ _ h=>y2d (Zle.left _ _) h)) ((zki.mono (Zle.y17 _ _ _)).mono (Zle.left _ _)) (ZA.row (la _ (.tail _ (.tail _ (.tail _ (.tail _ (.head _))))) _) ((zuV.weak (fun _ _ h=>y3A (Zle.y17 _ _ _) h)).weak (fun _ _ h=>y3A (Zle.left _ _) h)) ⟨w,pz.1⟩) (ZA.row (la _ (.tail _ (.tail _ (.tail _ (.tail _ (.tail _ (.head _)))))) _) (RR.y16 (enc:=e53) (fun _=>rfl) _) ⟨w,pz.1⟩)) ?_
   rintro zgE zgF zgG zgH _
   refine WL.pu rfl (WL.pu rfl (WL.pu rfl (WL.pu rfl (WL.pu rfl (WL.pu rfl (WL.pu rfl (WL.nil (WX.a (WC.b (WC.a ?_))))))))))
   refine WL.a (d:=33) rfl rfl rfl (y1l (v:=(.agg #[(.int .i64 0),(.int .i64 1),(.int .i64 96)])) (Eos.parts (l:=[.const (.int .i64 0),.const (.int .i64 1),.const (.int .i64 96)]) (.cons rfl (.cons rfl (.cons rfl .nil))) [0,1,2]) (fun _=>by kernel_rfl)) ?_
   refine WL.a (d:=34) rfl rfl rfl (y1l (v:=(.agg #[(.int .i64 1),(.int .i64 1),(.int .i64 136)])) (Eos.parts (l:=[.const (.int .i64 1),.const (.int .i64 1),.const (.int .i64 136)]) (.cons rfl (.cons rfl (.cons rfl .nil))) [0,1,2]) (fun _=>by kernel_rfl)) ?_
   refine WL.new (dd:=35) rfl rfl rfl (yS (cs:=([(⟨0,1,96⟩ : Sapi_Come),(⟨1,1,136⟩ : Sapi_Come)] : List Sapi_Come).flatMap e50) y14 (Eos.parts (l:=[.tmp 33,.tmp 34]) (.cons rfl (.cons rfl .nil)) [0,1]) (fun _=>by kernel_rfl) rfl (by unfold maxLen; omega)) ?_
   intro zuX _
   refine WL.new (dd:=36) rfl rfl rfl (yS (cs:=([] : List Sapi_Come).flatMap e50) y14 (Eos.parts (l:=[]) .nil []) (fun _=>by kernel_rfl) rfl (by unfold maxLen; omega)) ?_
   intro zuY _
   refine WL.pu rfl (WL.pu rfl (WL.nil (WX.a ?_)))
   obtain ⟨zgs,zuZ,h⟩:=y2i h
   refine WC.y5d (fun (z5O : List Sapi_Come) (z5P : List Sapi_Come) (zc9 : Option Addr) (zca : Nat) (zcb : Option Addr) (zcc : Nat)=>(zgs z5O z5P = some r)) (fun (z5O : List Sapi_Come) (z5P : List Sapi_Come) (zc9 : Option Addr) (zca : Nat) (zcb : Option Addr) (zcc : Nat)=>[(1,(.slice (some ⟨zc5,0,none⟩) (([(⟨0,0,40⟩ : zSt),(⟨10,0,40⟩ : zSt)] : List zSt).length) 2)),(3,(.int .i64 (nth ([1000,50,30] : List Int) z2v))),(4,(.pointer (some ⟨zgD,0,none⟩))),(6,(.slice zgE z3a.1.length zgF)),(7,(.slice zgG z3a.2.1.length zgH)),(8,(.int .i64 z3a.2.2)),(9,(.slice zc9 z5O.length zca)),(10,(.slice zcb z5P.length zcc)),(14,(.slice (some ⟨zc7,0,none⟩) (([1000,50,30] : List Int).length) 3)),(15,(.int .i64 ((([1000,50,30] : List Int).length : Nat) : Int))),(16,(.int .i64 z2v))]) (fun (z5O : List Sapi_Come) (z5P : List Sapi_Come) (zc9 : Option Addr) (zca : Nat) (zcb : Option Addr) (zcc : Nat)=>[fz (z5Q ++ zgu),row (.slice (some ⟨zc5,0,none⟩) (([(⟨0,0,40⟩ : zSt),(⟨10,0,40⟩ : zSt)] : List zSt).length) 2) 53 3 (([(⟨0,0,40⟩ : zSt),(⟨10,0,40⟩ : zSt)] : List zSt).flatMap e53),row (.slice zgE z3a.1.length zgF) 50 3 (z3a.1.flatMap e50),row (.slice zgG z3a.2.1.length zgH) 50 3 (z3a.2.1.flatMap e50),row (.slice zc9 z5O.length zca) 50 3 (z5O.flatMap e50),row (.slice zcb z5P.length zcc) 50 3 (z5P.flatMap e50),row (.slice (some ⟨zc7,0,none⟩) (([1000,50,30] : List Int).length) 3) 3 1 (([1000,50,30] : List Int).flatMap e3),stb zgD 31 [(.slice zgv z1o.1.fModules.length zgw),(.slice zoT z1o.1.fChannels.length zoU),(.slice zgx z1o.1.fSwitches.length zgy),(.slice zgz z1o.1.fLinks.length zgA),(.slice zgB z1o.1.fVLs.length zgC),(.slice zoW z1o.1.fHealth.length zoX),(.slice zoY z1o.1.fCauses.length zoZ),(.slice zp0 z1o.1.fVersions.length zp1)],row (.slice zgv z1o.1.fModules.length zgw) 104 4 zoS,row (.slice zgx z1o.1.fSwitches.length zgy) 64 4 (z1o.1.fSwitches.flatMap e64),row (.slice zgz z1o.1.fLinks.length zgA) 62 4 (z1o.1.fLinks.flatMap e62),row (.slice zgB z1o.1.fVLs.length zgC) 109 7 zoV]) ?_ ?_
   ·skip
    refine WC.b (WC.a (WL.pu rfl (WL.pu rfl (WL.nil (WX.a ?_)))))
    refine WC.cond rfl (fun zkj=>?_) (fun zkj=>?_)
    ·replace h:=yk h zkj
     obtain ⟨zv0,h⟩:=yi h
     refine WC.a (WL.pu rfl ?_)
     refine WL.y71 (dd:=40) (enc:=e50) (ls:=([(⟨0,1,96⟩ : Sapi_Come),(⟨1,1,136⟩ : Sapi_Come)] : List Sapi_Come)) rfl rfl y14 rfl rfl .h1 (fun _=>rfl) zv0 ?_
     intro zv1 zv2
     refine WL.a (d:=41) rfl rfl rfl (y1l (v:=(.agg #[(.int .i64 1),(.int .i64 2),(.int .i64 80)])) (Eos.parts (l:=[.const (.int .i64 1),.const (.int .i64 2),.const (.int .i64 80)]) (.cons rfl (.cons rfl (.cons rfl .nil))) [0,1,2]) (fun _=>by kernel_rfl)) ?_
     refine WL.new (dd:=42) rfl rfl rfl (yS (cs:=([(⟨1,2,80⟩ : Sapi_Come)] : List Sapi_Come).flatMap e50) y14 (Eos.parts (l:=[.tmp 41]) (.cons rfl .nil) [0]) (fun _=>by kernel_rfl) rfl (by unfold maxLen; omega)) ?_
     intro zv3 _
     refine WL.pu rfl (WL.pu rfl (WL.nil ?_))
     exact WX.mid (G:=List Sapi_Come × List Sapi_Come × Option Addr × Nat × Option Addr × Nat) ⟨(([(⟨0,1,96⟩ : Sapi_Come),(⟨1,1,136⟩ : Sapi_Come)] : List Sapi_Come).take (1 : Int).toNat),([(⟨1,2,80⟩ : Sapi_Come)] : List Sapi_Come),zv1,zv2,(some ⟨zv3,0,none⟩),1⟩ h (.cons rfl (.cons rfl (.cons rfl (.cons rfl (.cons rfl (.cons rfl (.cons rfl (.cons rfl (.cons rfl (.cons rfl (.cons rfl .nil))))))))))) (.cons .h6 (.cons (.there (.there (.there (.there .h7)))) (.cons .h3 (.cons .h3 (.cons .h1 (.cons .here (.cons .h7 (.cons .h1 (.cons .h1 (.cons .h1 (.cons .h1 (.cons .h1 .nil))))))))))))
    ·replace h:=yl h zkj
     refine WC.skip ?_
     exact WX.mid (G:=List Sapi_Come × List Sapi_Come × Option Addr × Nat × Option Addr × Nat) ⟨([(⟨0,1,96⟩ : Sapi_Come),(⟨1,1,136⟩ : Sapi_Come)] : List Sapi_Come),([] : List Sapi_Come),(some ⟨zuX,0,none⟩),2,(some ⟨zuY,0,none⟩),0⟩ h (.cons rfl (.cons rfl (.cons rfl (.cons rfl (.cons rfl (.cons rfl (.cons rfl (.cons rfl (.cons rfl (.cons rfl (.cons rfl .nil))))))))))) (.cons .h5 (.cons (.there (.there (.there .h7))) (.cons .h2 (.cons .h2 (.cons .h1 (.cons .here (.cons .h6 (.cons .here (.cons .here (.cons .here (.cons .here (.cons .here .nil))))))))))))
   ·rintro z5O z5P zc9 zca zcb zcc h
    replace h:=(zuZ z5O z5P).symm.trans h
    obtain ⟨zgr,zv4,h⟩:=y2i h
    refine WC.y5d (fun (z72 : List Sapi_Come) (z73 : List Sapi_Come) (zeF : Option Addr) (zeG : Nat) (zeH : Option Addr) (zeI : Nat)=>(zgr z72 z73 = some r)) (fun (z72 : List Sapi_Come) (z73 : List Sapi_Come) (zeF : Option Addr) (zeG : Nat) (zeH : Option Addr) (zeI : Nat)=>[(1,(.slice (some ⟨zc5,0,none⟩) (([(⟨0,0,40⟩ : zSt),(⟨10,0,40⟩ : zSt)] : List zSt).length) 2)),(4,(.pointer (some ⟨zgD,0,none⟩))),(6,(.slice zgE z3a.1.length zgF)),(7,(.slice zgG z3a.2.1.length zgH)),(8,(.int .i64 z3a.2.2)),(9,(.slice zeF z72.length zeG)),(10,(.slice zeH z73.length zeI)),(14,(.slice (some ⟨zc7,0,none⟩) (([1000,50,30] : List Int).length) 3)),(15,(.int .i64 ((([1000,50,30] : List Int).length : Nat) : Int))),(16,(.int .i64 z2v))]) (fun (z72 : List Sapi_Come) (z73 : List Sapi_Come) (zeF : Option Addr) (zeG : Nat) (zeH : Option Addr) (zeI : Nat)=>[fz (z5Q ++ zgu),row (.slice (some ⟨zc5,0,none⟩) (([(⟨0,0,40⟩ : zSt),(⟨10,0,40⟩ : zSt)] : List zSt).length) 2) 53 3 (([(⟨0,0,40⟩ : zSt),(⟨10,0,40⟩ : zSt)] : List zSt).flatMap e53),row (.slice zgE z3a.1.length zgF) 50 3 (z3a.1.flatMap e50),row (.slice zgG z3a.2.1.length zgH) 50 3 (z3a.2.1.flatMap e50),row (.slice zeF z72.length zeG) 50 3 (z72.flatMap e50),row (.slice zeH z73.length zeI) 50 3 (z73.flatMap e50),row (.slice (some ⟨zc7,0,none⟩) (([1000,50,30] : List Int).length) 3) 3 1 (([1000,50,30] : List Int).flatMap e3),stb zgD 31 [(.slice zgv z1o.1.fModules.length zgw),(.slice zoT z1o.1.fChannels.length zoU),(.slice zgx z1o.1.fSwitches.length zgy),(.slice zgz z1o.1.fLinks.length zgA),(.slice zgB z1o.1.fVLs.length zgC),(.slice zoW z1o.1.fHealth.length zoX),(.slice zoY z1o.1.fCauses.length zoZ),(.slice zp0 z1o.1.fVersions.length zp1)],row (.slice zgv z1o.1.fModules.length zgw) 104 4 zoS,row (.slice zgx z1o.1.fSwitches.length zgy) 64 4 (z1o.1.fSwitches.flatMap e64),row (.slice zgz z1o.1.fLinks.length zgA) 62 4 (z1o.1.fLinks.flatMap e62),row (.slice zgB z1o.1.fVLs.length zgC) 109 7 zoV]) ?_ ?_
    ·skip
     refine WC.b (WC.a (WL.pu rfl (WL.pu rfl (WL.nil (WX.a ?_)))))
     refine WC.cond rfl (fun zkk=>?_) (fun zkk=>?_)
     ·replace h:=yk h zkk
      refine WC.a ?_
      refine WL.a (d:=45) rfl rfl rfl (y1l (v:=(.agg #[(.int .i64 0),(.int .i64 2),(.int .i64 40)])) (Eos.parts (l:=[.const (.int .i64 0),.const (.int .i64 2),.const (.int .i64 40)]) (.cons rfl (.cons rfl (.cons rfl .nil))) [0,1,2]) (fun _=>by kernel_rfl)) ?_
      refine WL.a (d:=46) rfl rfl rfl (y1l (v:=(.agg #[(.int .i64 1),(.int .i64 2),(.int .i64 80)])) (Eos.parts (l:=[.const (.int .i64 1),.const (.int .i64 2),.const (.int .i64 80)]) (.cons rfl (.cons rfl (.cons rfl .nil))) [0,1,2]) (fun _=>by kernel_rfl)) ?_
      refine WL.new (dd:=47) rfl rfl rfl (yS (cs:=([(⟨0,2,40⟩ : Sapi_Come),(⟨1,2,80⟩ : Sapi_Come)] : List Sapi_Come).flatMap e50) y14 (Eos.parts (l:=[.tmp 45,.tmp 46]) (.cons rfl (.cons rfl .nil)) [0,1]) (fun _=>by kernel_rfl) rfl (by unfold maxLen; omega)) ?_
      intro zv5 _
      refine WL.pu rfl (WL.pu rfl (WL.nil ?_))
      refine WX.nilRow 50 3 ?_
      exact WX.mid (G:=List Sapi_Come × List Sapi_Come × Option Addr × Nat × Option Addr × Nat) ⟨([] : List Sapi_Come),([(⟨0,2,40⟩ : Sapi_Come),(⟨1,2,80⟩ : Sapi_Come)] : List Sapi_Come),none,0,(some ⟨zv5,0,none⟩),2⟩ h (.cons rfl (.cons rfl (.cons rfl (.cons rfl (.cons rfl (.cons rfl (.cons rfl (.cons rfl (.cons rfl (.cons rfl .nil)))))))))) (.cons .h2 (.cons .h2 (.cons .h2 (.cons .h2 (.cons .here (.cons .here (.cons .h2 (.cons .h2 (.cons .h2 (.cons .h2 (.cons .h2 (.cons .h2 .nil))))))))))))
     ·replace h:=yl h zkk
      refine WC.skip ?_
      exact WX.mid (G:=List Sapi_Come × List Sapi_Come × Option Addr × Nat × Option Addr × Nat) ⟨z5O,z5P,zc9,zca,zcb,zcc⟩ h (.cons rfl (.cons rfl (.cons rfl (.cons rfl (.cons rfl (.cons rfl (.cons rfl (.cons rfl (.cons rfl (.cons rfl .nil)))))))))) (.cons .here (.cons .here (.cons .here (.cons .here (.cons .here (.cons .here (.cons .here (.cons .here (.cons .here (.cons .here (.cons .here (.cons .here .nil))))))))))))
    ·rintro z72 z73 zeF zeG zeH zeI h
     replace h:=(zv4 z72 z73).symm.trans h
     refine WC.b ?_
     obtain ⟨zk8,zp2,h⟩:=zn h
     obtain ⟨zk9,zp3,h⟩:=zn h
     obtain ⟨zka,zp4,h⟩:=zn h
     obtain ⟨zkb,zp5,h⟩:=zn h
     refine WC.a (WL.pu rfl (WL.pu rfl (WL.pu rfl ?_)))
     refine WL.seg false 4 50 (B:=zk8) rfl rfl rfl rfl rfl rfl (fun h=>(Option.some.inj (yk zp2 h)).symm) (fun _ zv6=>?_) ?_
     ·skip
      have zeJ:=yl zp2 zv6
      obtain ⟨zoN,zv7,zeJ⟩:=zn zeJ
      replace zeJ:=Option.some.inj zeJ
      refine WL.pu rfl (WL.pu rfl ?_)
      refine WL.b (dd:=53) rfl rfl rfl (zE (l:=[.tmp 51,.tmp 52]) Try.call14 (.cons rfl (.cons rfl .nil))) .nil (cclz hz .nil .here (.cons .h2 (.cons .h3 .nil)) fun w pz ho la=>y5C _ _ _ _ _ _ _ _ zv7 w pz (ZA.row (la _ (.head _) _) (RR.y16 (enc:=e50) (fun _=>rfl) _) ⟨w,pz.1⟩) (ZA.row (la _ (.tail _ (.head _)) _) (RR.y16 (enc:=e50) (fun _=>rfl) _) ⟨w,pz.1⟩)) ?_
      refine WL.pu rfl (WL.pu rfl ?_)
      exact WL.yz zeJ rfl rfl .all
     refine WL.pu rfl ?_
     refine WL.seg false 4 56 (B:=zk9) rfl rfl rfl rfl rfl rfl (fun h=>(Option.some.inj (yk zp3 h)).symm) (fun _ zv8=>?_) ?_
     ·skip
      have zeK:=yl zp3 zv8
      obtain ⟨zoO,zv9,zeK⟩:=zn zeK
      replace zeK:=Option.some.inj zeK
      refine WL.pu rfl (WL.pu rfl ?_)
      refine WL.b (dd:=59) rfl rfl rfl (zE (l:=[.tmp 57,.tmp 58]) Try.call14 (.cons rfl (.cons rfl .nil))) .nil (cclz hz .nil .here (.cons .h3 (.cons .h4 .nil)) fun w pz ho la=>y5C _ _ _ _ _ _ _ _ zv9 w pz (ZA.row (la _ (.head _) _) (RR.y16 (enc:=e50) (fun _=>rfl) _) ⟨w,pz.1⟩) (ZA.row (la _ (.tail _ (.head _)) _) (RR.y16 (enc:=e50) (fun _=>rfl) _) ⟨w,pz.1⟩)) ?_
      refine WL.pu rfl (WL.pu rfl ?_)
      exact WL.yz zeK rfl rfl .all
     refine WL.pu rfl ?_
     refine WL.seg false 3 62 (B:=zka) rfl rfl rfl rfl rfl rfl (fun h=>(Option.some.inj (yk zp4 h)).symm) (fun _ zva=>?_) ?_
     ·skip
      have zeL:=yl zp4 zva
      obtain ⟨zoP,zvb,zeL⟩:=zn zeL
      replace zeL:=Option.some.inj zeL
      refine WL.a (d:=63) rfl rfl rfl (yD y1N rfl (y1h .h7) rfl) ?_
      refine WL.b (dd:=64) rfl rfl rfl (zE (l:=[.tmp 63]) Try.call17 (.cons rfl .nil)) .nil (cclz hz .nil .here (.cons (.there .h7) (.cons (.there .h7) (.cons (.there .h7) (.cons (.there .h7) .nil)))) fun w pz ho la=>y4K _ _ _ _ _ _ _ _ _ _ _ _ _ _ _ _ _ _ _ zvb w pz (ZA.row (la _ (.head _) _) ((zkd.weak (fun _ _ h=>y23 (Zle.y17 _ _ _) h)).weak (fun _ _ h=>y23 (Zle.left _ _) h)) ⟨w,pz.1⟩) ((((zke.mono (Zle.y17 _ _ _)).weak (fun _ _ h=>y2c (Zle.y17 _ _ _) h)).mono (Zle.left _ _)).weak (fun _ _ h=>y2c (Zle.left _ _) h)) (ZA.row (la _ (.tail _ (.head _)) _) (RR.y16 (enc:=e64) (fun _=>rfl) _) ⟨w,pz.1⟩) (ZA.row (la _ (.tail _ (.tail _ (.head _))) _) (RR.y16 (enc:=e62) (fun _=>rfl) _) ⟨w,pz.1⟩) (ZA.row (la _ (.tail _ (.tail _ (.tail _ (.head _)))) _) ((zkf.weak (fun _ _ h=>y24 (Zle.y17 _ _ _) h)).weak (fun _ _ h=>y24 (Zle.left _ _) h)) ⟨w,pz.1⟩) ((zkg.mono (Zle.y17 _ _ _)).mono (Zle.left _ _)) ((((zkh.mono (Zle.y17 _ _ _)).weak (fun _ _ h=>y2d (Zle.y17 _ _ _) h)).mono (Zle.left _ _)).weak (fun _ _ h=>y2d (Zle.left _ _) h)) ((zki.mono (Zle.y17 _ _ _)).mono (Zle.left _ _))) ?_
      refine WL.pu rfl (WL.pu rfl ?_)
      exact WL.yz zeL rfl rfl .all
     refine WL.pu rfl ?_
     refine WL.seg false 3 67 (B:=zkb) rfl rfl rfl rfl rfl rfl (fun h=>(Option.some.inj (yk zp5 h)).symm) (fun _ zvc=>?_) ?_
     ·skip
      have zeM:=yl zp5 zvc
      obtain ⟨zoQ,zvd,zeM⟩:=zn zeM
      replace zeM:=Option.some.inj zeM
      refine WL.a (d:=68) rfl rfl rfl (yD y1N rfl (y1h .h7) rfl) ?_
      refine WL.b (dd:=69) rfl rfl rfl (zE (l:=[.tmp 68,.const (.int .i64 2)]) Try.call18 (.cons rfl (.cons rfl .nil))) .nil (cclz hz .nil .here (.cons (.there .h7) (.cons (.there .h7) (.cons (.there .h7) (.cons (.there .h7) .nil)))) fun w pz ho la=>y6e _ _ _ _ _ _ _ _ _ _ _ _ _ _ _ _ _ _ _ _ zvd w pz (ZA.row (la _ (.head _) _) ((zkd.weak (fun _ _ h=>y23 (Zle.y17 _ _ _) h)).weak (fun _ _ h=>y23 (Zle.left _ _) h)) ⟨w,pz.1⟩) ((((zke.mono (Zle.y17 _ _ _)).weak (fun _ _ h=>y2c (Zle.y17 _ _ _) h)).mono (Zle.left _ _)).weak (fun _ _ h=>y2c (Zle.left _ _) h)) (ZA.row (la _ (.tail _ (.head _)) _) (RR.y16 (enc:=e64) (fun _=>rfl) _) ⟨w,pz.1⟩) (ZA.row (la _ (.tail _ (.tail _ (.head _))) _) (RR.y16 (enc:=e62) (fun _=>rfl) _) ⟨w,pz.1⟩) (ZA.row (la _ (.tail _ (.tail _ (.tail _ (.head _)))) _) ((zkf.weak (fun _ _ h=>y24 (Zle.y17 _ _ _) h)).weak (fun _ _ h=>y24 (Zle.left _ _) h)) ⟨w,pz.1⟩) ((zkg.mono (Zle.y17 _ _ _)).mono (Zle.left _ _)) ((((zkh.mono (Zle.y17 _ _ _)).weak (fun _ _ h=>y2d (Zle.y17 _ _ _) h)).mono (Zle.left _ _)).weak (fun _ _ h=>y2d (Zle.left _ _) h)) ((zki.mono (Zle.y17 _ _ _)).mono (Zle.left _ _))) ?_
      refine WL.a (d:=70) rfl rfl rfl (q_sneq rfl rfl) ?_
      refine WL.pu rfl ?_
      exact WL.yz zeM rfl rfl .all
     refine WL.nil (WX.a ?_)
     refine WC.cond rfl (fun zkl=>?_) (fun zkl=>?_)
     ·replace h:=yk h zkl
      refine WC.b (WC.a (WL.pu rfl (WL.nil (WX.a (WC.ret (WX.yr (WX.ye (WX.ye (WX.yr (WX.ye ?_))))))))))
      obtain rfl:=Option.some.inj h
      refine WX.yj Try.results11 (.tmp rfl .nil) (fun w hw=>?_)
      exact ⟨(z5Q ++ zgu),y10 rfl,trivial,hw.sub (.cons .here .nil)⟩
     ·replace h:=yl h zkl
      refine WC.skip (WX.yg (WX.a (WC.a (WL.pu rfl (WL.pu rfl (WL.nil ?_))))))
      exact WX.round (G:=Nat × Int × Zp) ⟨zk7,(i64 (z2v + 1)),(z5Q ++ zgu)⟩ ⟨h,(zoR.trans ((Zle.left _ _).trans (Zle.y17 _ _ _)))⟩ (Nat.lt_succ_self _) (.cons rfl (.cons rfl (.cons rfl (.cons rfl .nil)))) (.cons .here (.cons .here (.cons .h4 .nil)))
  ·replace h:=yl h zkc
   refine WC.exit (WX.yc (WX.yc (WX.yt ?_)))
   exact WX.mid (G:=Zp) z5Q ⟨h,zoR⟩ .nil (.cons .here .nil)
 ·rintro zc6 ⟨h,zzT⟩
  replace h:=zuT.symm.trans h
  refine WC.b (WC.a (WL.pu rfl (WL.nil (WX.a (WC.ret ?_)))))
  obtain rfl:=Option.some.inj h
  refine WX.yj Try.results11 (.tmp rfl .nil) (fun w hw=>?_)
  exact ⟨zc6,y10 rfl,trivial,hw.sub (.cons .here .nil)⟩
end Go.Proofs.Ytinchjigeakocaa

/- A part of this claim's proof: models of functions, walks, plain laws. No conditions. -/
import Derived.Test.YtinchjigeakocaaW31c
namespace Go.Proofs.Ytinchjigeakocaa
open Go Go.RowKit Sep
set_option linter.all false
set_option maxRecDepth 30000
set_option maxHeartbeats 4000000
def yH (z5 : List Sapi_Come) (zl : Int) (zS : Sapi_Come → Sapi_Come → Option Int) (z6w : Int → Option (List Sapi_Come)) : Nat → Int → Int → Option (List Sapi_Come)
  | 0,_,_=>none
  | zdS + 1,z1C,z1L=>if decide (z1C < z1L) then chk ((0 : Int) ≤ (i64 ((u64 (i64 (z1C + z1L))) / 2 ^ min (1 : Int).toNat 64)) ∧ (i64 ((u64 (i64 (z1C + z1L))) / 2 ^ min (1 : Int).toNat 64)) < ((z5.length : Nat) : Int)) (chk ((0 : Int) ≤ zl ∧ zl < ((z5.length : Nat) : Int)) ((zS (⟨((nth z5 (i64 ((u64 (i64 (z1C + z1L))) / 2 ^ min (1 : Int).toNat 64))).fSent),((nth z5 (i64 ((u64 (i64 (z1C + z1L))) / 2 ^ min (1 : Int).toNat 64))).fNode),((nth z5 (i64 ((u64 (i64 (z1C + z1L))) / 2 ^ min (1 : Int).toNat 64))).fTime)⟩ : Sapi_Come) (⟨((nth z5 zl).fSent),((nth z5 zl).fNode),((nth z5 zl).fTime)⟩ : Sapi_Come)).bind fun ziX=>if decide (ziX < 0) then yH z5 zl zS z6w zdS (i64 ((i64 ((u64 (i64 (z1C + z1L))) / 2 ^ min (1 : Int).toNat 64)) + 1)) z1L else yH z5 zl zS z6w zdS z1C (i64 ((u64 (i64 (z1C + z1L))) / 2 ^ min (1 : Int).toNat 64)))) else z6w z1C
theorem y3E {n : Nat} {z5 : List Sapi_Come} {zl : Int} {zS : Sapi_Come → Sapi_Come → Option Int} {z6w : Int → Option (List Sapi_Come)} {z1C : Int} {z1L : Int} {r : List Sapi_Come} (h : yH z5 zl zS z6w n z1C z1L = some r) : ∃ m,n = m + 1:=by
  cases n with
  | zero=>cases h
  | succ m=>exact ⟨m,rfl⟩
def yI (z3t : Int) (z7D : (List Sapi_Come) → Option (List Sapi_Come)) : Nat → (List Sapi_Come) → Int → Option (List Sapi_Come)
  | 0,_,_=>none
  | ziY + 1,zp,zj=>if decide (zj < (i64 (z3t - 1))) then chk ((0 : Int) ≤ (i64 (zj + 1)) ∧ (i64 (zj + 1)) < ((zp.length : Nat) : Int)) (chk ((0 : Int) ≤ zj ∧ zj < ((zp.length : Nat) : Int)) (chk ((0 : Int) ≤ (i64 (zj + 1)) ∧ (i64 (zj + 1)) < (((zp.set (zj : Int).toNat (⟨((nth zp (i64 (zj + 1))).fSent),((nth zp (i64 (zj + 1))).fNode),((nth zp (i64 (zj + 1))).fTime)⟩ : Sapi_Come)).length : Nat) : Int)) (yI z3t z7D ziY ((zp.set (zj : Int).toNat (⟨((nth zp (i64 (zj + 1))).fSent),((nth zp (i64 (zj + 1))).fNode),((nth zp (i64 (zj + 1))).fTime)⟩ : Sapi_Come)).set ((i64 (zj + 1)) : Int).toNat (⟨((nth zp zj).fSent),((nth zp zj).fNode),((nth zp zj).fTime)⟩ : Sapi_Come)) (i64 (zj + 1))))) else z7D zp
theorem y3F {n : Nat} {z3t : Int} {z7D : (List Sapi_Come) → Option (List Sapi_Come)} {zp : List Sapi_Come} {zj : Int} {r : List Sapi_Come} (h : yI z3t z7D n zp zj = some r) : ∃ m,n = m + 1:=by
  cases n with
  | zero=>cases h
  | succ m=>exact ⟨m,rfl⟩
def yJ (zt : Int) (z5 : List Sapi_Come) (zS : Sapi_Come → Sapi_Come → Option Int) (z6x : Int → Option (List Sapi_Come)) : Nat → Int → Int → Option (List Sapi_Come)
  | 0,_,_=>none
  | zdT + 1,z1D,z1M=>if decide (z1D < z1M) then chk ((0 : Int) ≤ zt ∧ zt < ((z5.length : Nat) : Int)) (chk ((0 : Int) ≤ (i64 ((u64 (i64 (z1D + z1M))) / 2 ^ min (1 : Int).toNat 64)) ∧ (i64 ((u64 (i64 (z1D + z1M))) / 2 ^ min (1 : Int).toNat 64)) < ((z5.length : Nat) : Int)) ((zS (⟨((nth z5 zt).fSent),((nth z5 zt).fNode),((nth z5 zt).fTime)⟩ : Sapi_Come) (⟨((nth z5 (i64 ((u64 (i64 (z1D + z1M))) / 2 ^ min (1 : Int).toNat 64))).fSent),((nth z5 (i64 ((u64 (i64 (z1D + z1M))) / 2 ^ min (1 : Int).toNat 64))).fNode),((nth z5 (i64 ((u64 (i64 (z1D + z1M))) / 2 ^ min (1 : Int).toNat 64))).fTime)⟩ : Sapi_Come)).bind fun ziZ=>if !(decide (ziZ < 0)) then yJ zt z5 zS z6x zdT (i64 ((i64 ((u64 (i64 (z1D + z1M))) / 2 ^ min (1 : Int).toNat 64)) + 1)) z1M else yJ zt z5 zS z6x zdT z1D (i64 ((u64 (i64 (z1D + z1M))) / 2 ^ min (1 : Int).toNat 64)))) else z6x z1D
theorem y3G {n : Nat} {zt : Int} {z5 : List Sapi_Come} {zS : Sapi_Come → Sapi_Come → Option Int} {z6x : Int → Option (List Sapi_Come)} {z1D : Int} {z1M : Int} {r : List Sapi_Come} (h : yJ zt z5 zS z6x n z1D z1M = some r) : ∃ m,n = m + 1:=by
  cases n with
  | zero=>cases h
  | succ m=>exact ⟨m,rfl⟩
def yR (z3u : Int) (z7E : (List Sapi_Come) → Option (List Sapi_Come)) : Nat → (List Sapi_Come) → Int → Option (List Sapi_Come)
  | 0,_,_=>none
  | zj0 + 1,zq,zk=>if decide (zk > z3u) then chk ((0 : Int) ≤ (i64 (zk - 1)) ∧ (i64 (zk - 1)) < ((zq.length : Nat) : Int)) (chk ((0 : Int) ≤ zk ∧ zk < ((zq.length : Nat) : Int)) (chk ((0 : Int) ≤ (i64 (zk - 1)) ∧ (i64 (zk - 1)) < (((zq.set (zk : Int).toNat (⟨((nth zq (i64 (zk - 1))).fSent),((nth zq (i64 (zk - 1))).fNode),((nth zq (i64 (zk - 1))).fTime)⟩ : Sapi_Come)).length : Nat) : Int)) (yR z3u z7E zj0 ((zq.set (zk : Int).toNat (⟨((nth zq (i64 (zk - 1))).fSent),((nth zq (i64 (zk - 1))).fNode),((nth zq (i64 (zk - 1))).fTime)⟩ : Sapi_Come)).set ((i64 (zk - 1)) : Int).toNat (⟨((nth zq zk).fSent),((nth zq zk).fNode),((nth zq zk).fTime)⟩ : Sapi_Come)) (i64 (zk - 1))))) else z7E zq
theorem y3H {n : Nat} {z3u : Int} {z7E : (List Sapi_Come) → Option (List Sapi_Come)} {zq : List Sapi_Come} {zk : Int} {r : List Sapi_Come} (h : yR z3u z7E n zq zk = some r) : ∃ m,n = m + 1:=by
  cases n with
  | zero=>cases h
  | succ m=>exact ⟨m,rfl⟩
def yF (zl : Int) (zx : Int) (zt : Int) (z5 : List Sapi_Come) (zS : Sapi_Come → Sapi_Come → Option Int) (z6y : Int → Option (List Sapi_Come)) : Nat → Int → Int → Option (List Sapi_Come)
  | 0,_,_=>none
  | zdU + 1,zZ,z14=>if decide (zZ < z14) then chk ((0 : Int) ≤ (i64 ((i64 ((i64 ((i64 ((u64 (i64 (zl + zx))) / 2 ^ min (1 : Int).toNat 64)) + zt)) - 1)) - (i64 ((u64 (i64 (zZ + z14))) / 2 ^ min (1 : Int).toNat 64)))) ∧ (i64 ((i64 ((i64 ((i64 ((u64 (i64 (zl + zx))) / 2 ^ min (1 : Int).toNat 64)) + zt)) - 1)) - (i64 ((u64 (i64 (zZ + z14))) / 2 ^ min (1 : Int).toNat 64)))) < ((z5.length : Nat) : Int)) (chk ((0 : Int) ≤ (i64 ((u64 (i64 (zZ + z14))) / 2 ^ min (1 : Int).toNat 64)) ∧ (i64 ((u64 (i64 (zZ + z14))) / 2 ^ min (1 : Int).toNat 64)) < ((z5.length : Nat) : Int)) ((zS (⟨((nth z5 (i64 ((i64 ((i64 ((i64 ((u64 (i64 (zl + zx))) / 2 ^ min (1 : Int).toNat 64)) + zt)) - 1)) - (i64 ((u64 (i64 (zZ + z14))) / 2 ^ min (1 : Int).toNat 64))))).fSent),((nth z5 (i64 ((i64 ((i64 ((i64 ((u64 (i64 (zl + zx))) / 2 ^ min (1 : Int).toNat 64)) + zt)) - 1)) - (i64 ((u64 (i64 (zZ + z14))) / 2 ^ min (1 : Int).toNat 64))))).fNode),((nth z5 (i64 ((i64 ((i64 ((i64 ((u64 (i64 (zl + zx))) / 2 ^ min (1 : Int).toNat 64)) + zt)) - 1)) - (i64 ((u64 (i64 (zZ + z14))) / 2 ^ min (1 : Int).toNat 64))))).fTime)⟩ : Sapi_Come) (⟨((nth z5 (i64 ((u64 (i64 (zZ + z14))) / 2 ^ min (1 : Int).toNat 64))).fSent),((nth z5 (i64 ((u64 (i64 (zZ + z14))) / 2 ^ min (1 : Int).toNat 64))).fNode),((nth z5 (i64 ((u64 (i64 (zZ + z14))) / 2 ^ min (1 : Int).toNat 64))).fTime)⟩ : Sapi_Come)).bind fun zj1=>if !(decide (zj1 < 0)) then yF zl zx zt z5 zS z6y zdU (i64 ((i64 ((u64 (i64 (zZ + z14))) / 2 ^ min (1 : Int).toNat 64)) + 1)) z14 else yF zl zx zt z5 zS z6y zdU zZ (i64 ((u64 (i64 (zZ + z14))) / 2 ^ min (1 : Int).toNat 64)))) else z6y zZ
theorem y3B {n : Nat} {zl : Int} {zx : Int} {zt : Int} {z5 : List Sapi_Come} {zS : Sapi_Come → Sapi_Come → Option Int} {z6y : Int → Option (List Sapi_Come)} {zZ : Int} {z14 : Int} {r : List Sapi_Come} (h : yF zl zx zt z5 zS z6y n zZ z14 = some r) : ∃ m,n = m + 1:=by
  cases n with
  | zero=>cases h
  | succ m=>exact ⟨m,rfl⟩
def yQ : Nat → (List Sapi_Come) → Int → Int → Int → (Sapi_Come → Sapi_Come → Option Int) → Option (List Sapi_Come)
  | 0,_,_,_,_,_=>none
  | zj2 + 1,z5,zl,zt,zx,zS=>jp0 (jp0 (jp2 (fun (z7F : Int) (z7G : Int)=>jp1 (fun (z1E : Int)=>jp1 (fun (z3J : List Sapi_Come)=>jp1 (fun (z41 : List Sapi_Come)=>if (decide ((i64 ((u64 (i64 (zl + zx))) / 2 ^ min (1 : Int).toNat 64)) < (i64 ((i64 ((i64 ((u64 (i64 (zl + zx))) / 2 ^ min (1 : Int).toNat 64)) + zt)) - z1E)))) && (decide ((i64 ((i64 ((i64 ((u64 (i64 (zl + zx))) / 2 ^ min (1 : Int).toNat 64)) + zt)) - z1E)) < zx)) then ((yQ zj2) z41 (i64 ((u64 (i64 (zl + zx))) / 2 ^ min (1 : Int).toNat 64)) (i64 ((i64 ((i64 ((u64 (i64 (zl + zx))) / 2 ^ min (1 : Int).toNat 64)) + zt)) - z1E)) zx zS).bind fun zfx=>some zfx else some z41) fun zfy=>if (decide (zl < z1E)) && (decide (z1E < (i64 ((u64 (i64 (zl + zx))) / 2 ^ min (1 : Int).toNat 64)))) then ((yQ zj2) z3J zl z1E (i64 ((u64 (i64 (zl + zx))) / 2 ^ min (1 : Int).toNat 64)) zS).bind fun zdV=>zfy zdV else zfy z3J) fun zfz=>if (decide (z1E < zt)) && (decide (zt < (i64 ((i64 ((i64 ((u64 (i64 (zl + zx))) / 2 ^ min (1 : Int).toNat 64)) + zt)) - z1E)))) then (y1w z5 z1E zt (i64 ((i64 ((i64 ((u64 (i64 (zl + zx))) / 2 ^ min (1 : Int).toNat 64)) + zt)) - z1E)) zS).bind fun zfA=>zfz zfA else zfz z5) fun z6y=>yF zl zx zt z5 zS z6y yz z7F z7G) fun zfB=>if decide (zt > (i64 ((u64 (i64 (zl + zx))) / 2 ^ min (1 : Int).toNat 64))) then zfB (i64 ((i64 ((i64 ((u64 (i64 (zl + zx))) / 2 ^ min (1 : Int).toNat 64)) + zt)) - zx)) (i64 ((u64 (i64 (zl + zx))) / 2 ^ min (1 : Int).toNat 64)) else zfB zl zt) fun zj3=>if decide ((i64 (zx - zt)) = 1) then jp1 (fun (z3u : Int)=>jp1 (fun (z6z : List Sapi_Come)=>some z6z) fun z7E=>yR z3u z7E yz z5 zt) fun z6x=>yJ zt z5 zS z6x yz zl zt else zj3) fun zj4=>if decide ((i64 (zt - zl)) = 1) then jp1 (fun (z3t : Int)=>jp1 (fun (z6A : List Sapi_Come)=>some z6A) fun z7D=>yI z3t z7D yz z5 zl) fun z6w=>yH z5 zl zS z6w yz zt zx else zj4
def y1k (z5 : List Sapi_Come) (zl : Int) (zt : Int) (zx : Int) (zS : Sapi_Come → Sapi_Come → Option Int) : Option (List Sapi_Come):=yQ yz z5 zl zt zx zS
set_option maxRecDepth 20000 in
theorem y40 : ∀ (n : Nat) (Z : Zp) (zM : Option Addr) (zD : Nat) (z1o : FuncId) (z1A : List Value) (z5 : List Sapi_Come) (zl : Int) (zt : Int) (zx : Int) (zS : Sapi_Come → Sapi_Come → Option Int) (r : List Sapi_Come) (w₀ : World) (hz : PZ (fps [row (.slice zM z5.length zD) 50 3 (z5.flatMap e50)]) w₀ Z)
    (z6B : ∀ args w,(callFunc z1o args).run Try.prog w = .ok (.enter z1o args) w)
    (z6C : ∀ w : World,PZ [] w Z → ∀ (x0 : Sapi_Come) (x1 : Sapi_Come) (r : Int),zS x0 x1 = some r → Calls Try.prog z1o (([(.agg #[(.int .i64 x0.fSent),(.int .i64 x0.fNode),(.int .i64 x0.fTime)]),(.agg #[(.int .i64 x1.fSent),(.int .i64 x1.fNode),(.int .i64 x1.fTime)])] : List Value) ++ z1A).toArray w fun e w'=>e = .returned (.int .i64 r) ∧ Hp [] w w' []) (h : yQ n z5 zl zt zx zS = some r)
    (hown : Hp (fps [row (.slice zM z5.length zD) 50 3 (z5.flatMap e50)]) w₀ w₀ [row (.slice zM z5.length zD) 50 3 (z5.flatMap e50)]),Calls Try.prog 67 #[(.slice zM z5.length zD),(.int .i64 zl),(.int .i64 zt),(.int .i64 zx),(.func (.func z1o) #[] (z1A).toArray)] w₀ fun e w'=>e = .returned (.tuple #[]) ∧ (r.length = z5.length) ∧ Hp (fps [row (.slice zM z5.length zD) 50 3 (z5.flatMap e50)]) w₀ w' [row (.slice zM r.length zD) 50 3 (r.flatMap e50)]:=by
  intro n
  induction n with
  | zero=>intro Z zM zD z1o z1A z5 zl zt zx zS r w₀ hz z6B z6C h hown; cases h
  | succ zj2 ih =>
    intro Z zM zD z1o z1A z5 zl zt zx zS r w₀ hz z6B z6C h hown
    rw [yQ] at h
    refine Calls.yk (vs:=[(.slice zM z5.length zD),(.int .i64 zl),(.int .i64 zt),(.int .i64 zx),(.func (.func z1o) #[] (z1A).toArray)]) (pre:=[row (.slice zM z5.length zD) 50 3 (z5.flatMap e50)]) (env:=[(0,(.slice zM z5.length zD)),(1,(.int .i64 zl)),(2,(.int .i64 zt)),(3,(.int .i64 zx)),(4,(.func (.func z1o) #[] (z1A).toArray))]) Try.func67 rfl Try.ntmps67 rfl (hown) rfl ?_
    obtain ⟨zj4,zsS,h⟩:=y2U h
    refine WC.y2v ((zj4 = some r)) ([(0,(.slice zM z5.length zD)),(1,(.int .i64 zl)),(2,(.int .i64 zt)),(3,(.int .i64 zx)),(4,(.func (.func z1o) #[] (z1A).toArray))]) ([row (.slice zM z5.length zD) 50 3 (z5.flatMap e50)]) ?_ ?_
    · skip
      refine WC.b (WC.a (WL.pu rfl (WL.pu rfl (WL.pu rfl (WL.pu rfl (WL.nil (WX.a ?_)))))))
      refine WC.cond rfl (fun zj5=>?_) (fun zj5=>?_)
      · replace h:=yl h zj5
        refine WC.b (WC.a (WL.pu rfl (WL.pu rfl (WL.nil (WX.a (WC.b (WC.a (WL.pu rfl (WL.pu rfl (WL.nil (WX.a ?_)))))))))))
        obtain ⟨z6w,zsT,h⟩:=y19 h
        refine WC.y1R (fun (z3t : Int)=>(z6w z3t = some r)) (fun (z3t : Int)=>[(0,(.slice zM z5.length zD)),(1,(.int .i64 zl)),(10,(.int .i64 z3t))]) (fun (z3t : Int)=>[row (.slice zM z5.length zD) 50 3 (z5.flatMap e50)]) ?_ ?_
        · skip
          refine WC.block ?_
          refine WC.y2m (fun (zbm : Nat) (z1C : Int) (z1L : Int)=>(yH z5 zl zS z6w zbm z1C z1L = some r)) (fun (zbm : Nat) (z1C : Int) (z1L : Int)=>[(0,(.slice zM z5.length zD)),(1,(.int .i64 zl)),(4,(.func (.func z1o) #[] (z1A).toArray)),(10,(.int .i64 z1C)),(11,(.int .i64 z1L))]) (fun (zbm : Nat) (z1C : Int) (z1L : Int)=>[row (.slice zM z5.length zD) 50 3 (z5.flatMap e50)]) (fun (zbm : Nat) (z1C : Int) (z1L : Int)=>zbm) ⟨yz,zt,zx⟩ h (.cons rfl (.cons rfl (.cons rfl (.cons rfl (.cons rfl .nil))))) (.cons .here .nil) ?_
          rintro zbm z1C z1L h
          obtain ⟨zdS,rfl⟩:=y3E h
          rw [yH] at h
          refine WC.b (WC.b (WC.a (WL.pu rfl (WL.pu rfl (WL.pu rfl (WL.nil (WX.a ?_)))))))
          refine WC.cond rfl (fun zj6=>?_) (fun zj6=>?_)
          · replace h:=yl h zj6
            refine WC.skip (WX.a (WC.block (WC.b (WC.a (WL.pu rfl (WL.pu rfl (WL.pu rfl ?_)))))))
            refine WL.a (d:=37) rfl rfl rfl (y4S Try.underlying3 Try.underlying157 rfl rfl) ?_
            refine WL.a (d:=38) rfl rfl rfl (q_shr rfl rfl (by decide) rfl) ?_
            refine WL.a (d:=39) rfl rfl rfl (y4S Try.underlying157 Try.underlying3 rfl rfl) ?_
            refine WL.pu rfl (WL.nil (WX.a (WC.b ?_)))
            obtain ⟨zdW,h⟩:=yi h
            obtain ⟨zfC,h⟩:=yi h
            obtain ⟨ziX,zsU,h⟩:=zh h
            refine WC.yV (fun i=>[].contains i) [] rfl ?_
            refine WD.a (i:=0) (d:=40) (by kernel_rfl) rfl (z2 (by kernel_rfl)) (z3 (by kernel_rfl)) rfl rfl rfl (fun _=>q_m rfl) ?_
            refine WD.a (i:=1) (d:=41) (by kernel_rfl) rfl (z2 (by kernel_rfl)) (z3 (by kernel_rfl)) rfl rfl rfl (fun _=>q_m rfl) ?_
            refine WD.a (i:=2) (d:=42) (by kernel_rfl) rfl (z2 (by kernel_rfl)) (z3 (by kernel_rfl)) rfl rfl rfl (fun _=>q_m rfl) ?_
            refine WD.know (fun w hw=>Hp.y2p .here hw (by intro hz'; have:=zdW; rw [hz'] at this; omega)) ?_
            rintro ⟨zxU,rfl⟩
            refine WD.a (i:=3) (d:=43) (by kernel_rfl) rfl (z2 (by kernel_rfl)) (z3 (by kernel_rfl)) rfl rfl rfl (fun _=>yr y1d rfl rfl zdW.1 zdW.2 y1c) ?_
            refine WD.e (i:=4) (d:=44) (by kernel_rfl) rfl (z2 (by kernel_rfl)) (z3 (by kernel_rfl)) rfl rfl rfl (y1P (cs:=(e50 (nth z5 (i64 ((u64 (i64 (z1C + z1L))) / 2 ^ min (1 : Int).toNat 64))))) y2h rfl rfl (y23 .here (y1W (enc:=e50) (l:=z5) (i:=i64 ((u64 (i64 (z1C + z1L))) / 2 ^ min (1 : Int).toNat 64)) (sz:=3) (fun _=>rfl) zdW.1 zdW.2))) ?_
            refine WD.a (i:=5) (d:=45) (by kernel_rfl) rfl (z2 (by kernel_rfl)) (z3 (by kernel_rfl)) rfl rfl rfl (fun _=>q_m rfl) ?_
            refine WD.a (i:=6) (d:=46) (by kernel_rfl) rfl (z2 (by kernel_rfl)) (z3 (by kernel_rfl)) rfl rfl rfl (fun _=>q_m rfl) ?_
            refine WD.a (i:=7) (d:=47) (by kernel_rfl) rfl (z2 (by kernel_rfl)) (z3 (by kernel_rfl)) rfl rfl rfl (fun _=>yr y1d rfl rfl zfC.1 zfC.2 y1c) ?_
            refine WD.e (i:=8) (d:=48) (by kernel_rfl) rfl (z2 (by kernel_rfl)) (z3 (by kernel_rfl)) rfl rfl rfl (y1P (cs:=(e50 (nth z5 zl))) y2h rfl rfl (y23 .here (y1W (enc:=e50) (l:=z5) (i:=zl) (sz:=3) (fun _=>rfl) zfC.1 zfC.2))) ?_
            refine WD.c (i:=9) (d:=49) (by kernel_rfl) rfl (z2 (by kernel_rfl)) (z3 (by kernel_rfl)) rfl rfl rfl (y3J (l:=[.tmp 44,.tmp 48]) (f:=z1o) (caps:=z1A) z6B rfl (.cons rfl (.cons rfl .nil))) (fun w hw=>z6C w (hz.now hw) (⟨((nth z5 (i64 ((u64 (i64 (z1C + z1L))) / 2 ^ min (1 : Int).toNat 64))).fSent),((nth z5 (i64 ((u64 (i64 (z1C + z1L))) / 2 ^ min (1 : Int).toNat 64))).fNode),((nth z5 (i64 ((u64 (i64 (z1C + z1L))) / 2 ^ min (1 : Int).toNat 64))).fTime)⟩ : Sapi_Come) (⟨((nth z5 zl).fSent),((nth z5 zl).fNode),((nth z5 zl).fTime)⟩ : Sapi_Come) ziX  zsU) ?_
            refine WD.a (i:=10) (d:=50) (by kernel_rfl) rfl (z2 (by kernel_rfl)) (z3 (by kernel_rfl)) rfl rfl rfl (fun _=>y3r rfl rfl) ?_
            refine WD.done (by kernel_rfl) ?_
            refine WX.a ?_
            refine WC.cond rfl (fun zj7=>?_) (fun zj7=>?_)
            · replace h:=yl h zj7
              refine WC.a (WL.pu rfl (WL.pu rfl (WL.pu rfl (WL.nil (WX.yf ?_)))))
              exact WX.round (G:=Nat × Int × Int) ⟨zdS,(i64 ((i64 ((u64 (i64 (z1C + z1L))) / 2 ^ min (1 : Int).toNat 64)) + 1)),z1L⟩ h (Nat.lt_succ_self _) (.cons rfl (.cons rfl (.cons rfl (.cons rfl (.cons rfl .nil))))) (.cons .here .nil)
            · replace h:=ym h zj7
              refine WC.a (WL.pu rfl (WL.pu rfl (WL.nil (WX.yf ?_))))
              exact WX.round (G:=Nat × Int × Int) ⟨zdS,z1C,(i64 ((u64 (i64 (z1C + z1L))) / 2 ^ min (1 : Int).toNat 64))⟩ h (Nat.lt_succ_self _) (.cons rfl (.cons rfl (.cons rfl (.cons rfl (.cons rfl .nil))))) (.cons .here .nil)
          · replace h:=ym h zj6
            refine WC.exit (WX.ye (WX.ye (WX.yA ?_)))
            exact WX.mid (G:=Int) z1C h (.cons rfl (.cons rfl (.cons rfl .nil))) (.cons .here .nil)
        · rintro z3t h
          replace h:=(zsT z3t).symm.trans h
          obtain ⟨z7D,zsV,h⟩:=y19 h
          refine WC.y1R (fun (z6A : List Sapi_Come)=>(z7D z6A = some r) ∧ (z6A.length = z5.length)) (fun (z6A : List Sapi_Come)=>[]) (fun (z6A : List Sapi_Come)=>[row (.slice zM z6A.length zD) 50 3 (z6A.flatMap e50)]) ?_ ?_
          · skip
            refine WC.b (WC.a (WL.pu rfl (WL.pu rfl (WL.nil (WX.a (WC.block ?_))))))
            refine WC.y2m (fun (zbn : Nat) (zp : List Sapi_Come) (zj : Int)=>(yI z3t z7D zbn zp zj = some r) ∧ (zp.length = z5.length)) (fun (zbn : Nat) (zp : List Sapi_Come) (zj : Int)=>[(0,(.slice zM zp.length zD)),(10,(.int .i64 z3t)),(13,(.int .i64 zj))]) (fun (zbn : Nat) (zp : List Sapi_Come) (zj : Int)=>[row (.slice zM zp.length zD) 50 3 (zp.flatMap e50)]) (fun (zbn : Nat) (zp : List Sapi_Come) (zj : Int)=>zbn) ⟨yz,z5,zl⟩ ⟨h,rfl⟩ (.cons rfl (.cons rfl (.cons rfl .nil))) (.cons .here .nil) ?_
            rintro zbn zp zj ⟨h,znw⟩
            obtain ⟨ziY,rfl⟩:=y3F h
            rw [yI] at h
            refine WC.b (WC.b (WC.a (WL.pu rfl (WL.pu rfl (WL.pu rfl (WL.pu rfl (WL.nil (WX.a ?_))))))))
            refine WC.cond rfl (fun zj8=>?_) (fun zj8=>?_)
            · replace h:=yl h zj8
              refine WC.skip (WX.a (WC.b (WC.block ?_)))
              obtain ⟨zdX,h⟩:=yi h
              obtain ⟨z6D,h⟩:=yi h
              obtain ⟨zbo,h⟩:=yi h
              refine WC.yV (fun i=>[15,17].contains i) [] rfl ?_
              refine WD.a (i:=0) (d:=61) (by kernel_rfl) rfl (z2 (by kernel_rfl)) (z3 (by kernel_rfl)) rfl rfl rfl (fun _=>q_m rfl) ?_
              refine WD.a (i:=1) (d:=62) (by kernel_rfl) rfl (z2 (by kernel_rfl)) (z3 (by kernel_rfl)) rfl rfl rfl (fun _=>q_m rfl) ?_
              refine WD.a (i:=2) (d:=63) (by kernel_rfl) rfl (z2 (by kernel_rfl)) (z3 (by kernel_rfl)) rfl rfl rfl (fun _=>q_m rfl) ?_
              refine WD.a (i:=3) (d:=64) (by kernel_rfl) rfl (z2 (by kernel_rfl)) (z3 (by kernel_rfl)) rfl rfl rfl (fun _=>q_m rfl) ?_
              refine WD.a (i:=4) (d:=65) (by kernel_rfl) rfl (z2 (by kernel_rfl)) (z3 (by kernel_rfl)) rfl rfl rfl (fun _=>y4w rfl rfl rfl) ?_
              refine WD.a (i:=5) (d:=66) (by kernel_rfl) rfl (z2 (by kernel_rfl)) (z3 (by kernel_rfl)) rfl rfl rfl (fun _=>q_m rfl) ?_
              refine WD.a (i:=6) (d:=67) (by kernel_rfl) rfl (z2 (by kernel_rfl)) (z3 (by kernel_rfl)) rfl rfl rfl (fun _=>q_m rfl) ?_
              refine WD.a (i:=7) (d:=68) (by kernel_rfl) rfl (z2 (by kernel_rfl)) (z3 (by kernel_rfl)) rfl rfl rfl (fun _=>y4w rfl rfl rfl) ?_
              refine WD.know (fun w hw=>Hp.y2p .here hw (by intro hz'; have:=zdX; rw [hz'] at this; omega)) ?_
              rintro ⟨zdY,rfl⟩
              refine WD.a (i:=8) (d:=69) (by kernel_rfl) rfl (z2 (by kernel_rfl)) (z3 (by kernel_rfl)) rfl rfl rfl (fun _=>yr y1d rfl rfl zdX.1 zdX.2 y1c) ?_
              refine WD.e (i:=9) (d:=70) (by kernel_rfl) rfl (z2 (by kernel_rfl)) (z3 (by kernel_rfl)) rfl rfl rfl (y1P (cs:=(e50 (nth zp (i64 (zj + 1))))) y2h rfl rfl (y23 .here (y1W (enc:=e50) (l:=zp) (i:=i64 (zj + 1)) (sz:=3) (fun _=>rfl) zdX.1 zdX.2))) ?_
              refine WD.a (i:=10) (d:=71) (by kernel_rfl) rfl (z2 (by kernel_rfl)) (z3 (by kernel_rfl)) rfl rfl rfl (fun _=>q_m rfl) ?_
              refine WD.a (i:=11) (d:=72) (by kernel_rfl) rfl (z2 (by kernel_rfl)) (z3 (by kernel_rfl)) rfl rfl rfl (fun _=>q_m rfl) ?_
              refine WD.a (i:=12) (d:=73) (by kernel_rfl) rfl (z2 (by kernel_rfl)) (z3 (by kernel_rfl)) rfl rfl rfl (fun _=>yr y1d rfl rfl z6D.1 z6D.2 y1c) ?_
              refine WD.e (i:=13) (d:=74) (by kernel_rfl) rfl (z2 (by kernel_rfl)) (z3 (by kernel_rfl)) rfl rfl rfl (y1P (cs:=(e50 (nth zp zj))) y2h rfl rfl (y23 .here (y1W (enc:=e50) (l:=zp) (i:=zj) (sz:=3) (fun _=>rfl) z6D.1 z6D.2))) ?_
              refine WD.a (i:=14) (d:=75) (by kernel_rfl) rfl (z2 (by kernel_rfl)) (z3 (by kernel_rfl)) rfl rfl rfl (fun _=>yr y1d rfl rfl z6D.1 z6D.2 y1c) ?_
              refine WD.forced0 (i:=15) rfl (by kernel_rfl) rfl rfl rfl (Sin.of .nil) (y28 (vs:=[(.int .i64 ((nth zp (i64 (zj + 1))).fSent)),(.int .i64 ((nth zp (i64 (zj + 1))).fNode)),(.int .i64 ((nth zp (i64 (zj + 1))).fTime))]) (ds:=(zp.set (zj : Int).toNat (⟨((nth zp (i64 (zj + 1))).fSent),((nth zp (i64 (zj + 1))).fNode),((nth zp (i64 (zj + 1))).fTime)⟩ : Sapi_Come)).flatMap e50) y4s rfl rfl rfl rfl (ocB rfl) .here (y2I (enc:=e50) (sz:=3) (k:=0) (fun _=>rfl) z6D.1 z6D.2 (by decide)) (y2H (enc:=e50) (l:=zp) (sz:=3) (vs:=[(.int .i64 ((nth zp (i64 (zj + 1))).fSent)),(.int .i64 ((nth zp (i64 (zj + 1))).fNode)),(.int .i64 ((nth zp (i64 (zj + 1))).fTime))]) (y:=(⟨((nth zp (i64 (zj + 1))).fSent),((nth zp (i64 (zj + 1))).fNode),((nth zp (i64 (zj + 1))).fTime)⟩ : Sapi_Come)) (k:=0) (fun _=>rfl) z6D.1 z6D.2 rfl (Nat.le_of_ble_eq_true rfl))) ?_
              refine WD.relen .here (u:=(.slice (some ⟨zdY,0,none⟩) ((zp.set (zj : Int).toNat (⟨((nth zp (i64 (zj + 1))).fSent),((nth zp (i64 (zj + 1))).fNode),((nth zp (i64 (zj + 1))).fTime)⟩ : Sapi_Come)).length) zD)) (y1F (List.length_set).symm) ?_
              refine WD.repin (i:=0) rfl (u:=(.slice (some ⟨zdY,0,none⟩) ((zp.set (zj : Int).toNat (⟨((nth zp (i64 (zj + 1))).fSent),((nth zp (i64 (zj + 1))).fNode),((nth zp (i64 (zj + 1))).fTime)⟩ : Sapi_Come)).length) zD)) (y1F (List.length_set).symm) ?_
              refine WD.repin (i:=63) rfl (u:=(.slice (some ⟨zdY,0,none⟩) ((zp.set (zj : Int).toNat (⟨((nth zp (i64 (zj + 1))).fSent),((nth zp (i64 (zj + 1))).fNode),((nth zp (i64 (zj + 1))).fTime)⟩ : Sapi_Come)).length) zD)) (y1F (List.length_set).symm) ?_
              refine WD.a (i:=16) (d:=76) (by kernel_rfl) rfl (z2 (by kernel_rfl)) (z3 (by kernel_rfl)) rfl rfl rfl (fun _=>yr y1d rfl rfl zbo.1 zbo.2 y1c) ?_
              refine WD.y2F (i:=17) rfl (by kernel_rfl) rfl rfl rfl (by kernel_rfl) (y28 (vs:=[(.int .i64 ((nth zp zj).fSent)),(.int .i64 ((nth zp zj).fNode)),(.int .i64 ((nth zp zj).fTime))]) (ds:=((zp.set (zj : Int).toNat (⟨((nth zp (i64 (zj + 1))).fSent),((nth zp (i64 (zj + 1))).fNode),((nth zp (i64 (zj + 1))).fTime)⟩ : Sapi_Come)).set ((i64 (zj + 1)) : Int).toNat (⟨((nth zp zj).fSent),((nth zp zj).fNode),((nth zp zj).fTime)⟩ : Sapi_Come)).flatMap e50) y4s rfl rfl rfl rfl (ocB rfl) .here (y2I (enc:=e50) (sz:=3) (k:=0) (fun _=>rfl) zbo.1 zbo.2 (by decide)) (y2H (enc:=e50) (l:=zp.set (zj : Int).toNat (⟨((nth zp (i64 (zj + 1))).fSent),((nth zp (i64 (zj + 1))).fNode),((nth zp (i64 (zj + 1))).fTime)⟩ : Sapi_Come)) (sz:=3) (vs:=[(.int .i64 ((nth zp zj).fSent)),(.int .i64 ((nth zp zj).fNode)),(.int .i64 ((nth zp zj).fTime))]) (y:=(⟨((nth zp zj).fSent),((nth zp zj).fNode),((nth zp zj).fTime)⟩ : Sapi_Come)) (k:=0) (fun _=>rfl) zbo.1 zbo.2 rfl (Nat.le_of_ble_eq_true rfl))) ?_
              refine WD.relen .here (u:=(.slice (some ⟨zdY,0,none⟩) (((zp.set (zj : Int).toNat (⟨((nth zp (i64 (zj + 1))).fSent),((nth zp (i64 (zj + 1))).fNode),((nth zp (i64 (zj + 1))).fTime)⟩ : Sapi_Come)).set ((i64 (zj + 1)) : Int).toNat (⟨((nth zp zj).fSent),((nth zp zj).fNode),((nth zp zj).fTime)⟩ : Sapi_Come)).length) zD)) (y1F (List.length_set).symm) ?_
              refine WD.repin (i:=0) rfl (u:=(.slice (some ⟨zdY,0,none⟩) (((zp.set (zj : Int).toNat (⟨((nth zp (i64 (zj + 1))).fSent),((nth zp (i64 (zj + 1))).fNode),((nth zp (i64 (zj + 1))).fTime)⟩ : Sapi_Come)).set ((i64 (zj + 1)) : Int).toNat (⟨((nth zp zj).fSent),((nth zp zj).fNode),((nth zp zj).fTime)⟩ : Sapi_Come)).length) zD)) (y1F (List.length_set).symm) ?_
              refine WD.done (by kernel_rfl) ?_
              refine WX.yf (WX.a (WC.a (WL.pu rfl (WL.pu rfl (WL.pu rfl (WL.nil ?_))))))
              exact WX.round (G:=Nat × List Sapi_Come × Int) ⟨ziY,((zp.set (zj : Int).toNat (⟨((nth zp (i64 (zj + 1))).fSent),((nth zp (i64 (zj + 1))).fNode),((nth zp (i64 (zj + 1))).fTime)⟩ : Sapi_Come)).set ((i64 (zj + 1)) : Int).toNat (⟨((nth zp zj).fSent),((nth zp zj).fNode),((nth zp zj).fTime)⟩ : Sapi_Come)),(i64 (zj + 1))⟩ ⟨h,((List.length_set).trans ((List.length_set).trans znw))⟩ (Nat.lt_succ_self _) (.cons rfl (.cons rfl (.cons rfl .nil))) (.cons .here .nil)
            · replace h:=ym h zj8
              refine WC.exit (WX.ye (WX.ye (WX.yA ?_)))
              exact WX.mid (G:=List Sapi_Come) zp ⟨h,znw⟩ .nil (.cons .here .nil)
          · rintro z6A ⟨h,zsW⟩
            replace h:=(zsV z6A).symm.trans h
            refine WC.ret (WX.yj ?_)
            obtain rfl:=Option.some.inj h
            refine WX.yh Try.results67 .nil (fun w hw=>?_)
            exact ⟨y4h,zsW,hw.sub (.cons .here .nil)⟩
      · replace h:=ym h zj5
        refine WC.skip ?_
        exact WX.mid (G:=Unit) () h (.cons rfl (.cons rfl (.cons rfl (.cons rfl (.cons rfl .nil))))) (.cons .here .nil)
    · rintro  h
      replace h:=zsS.symm.trans h
      obtain ⟨zj3,zsX,h⟩:=y2U h
      refine WC.y2v ((zj3 = some r)) ([(0,(.slice zM z5.length zD)),(1,(.int .i64 zl)),(2,(.int .i64 zt)),(3,(.int .i64 zx)),(4,(.func (.func z1o) #[] (z1A).toArray))]) ([row (.slice zM z5.length zD) 50 3 (z5.flatMap e50)]) ?_ ?_
      · skip
        refine WC.b (WC.a (WL.pu rfl (WL.pu rfl (WL.pu rfl (WL.pu rfl (WL.nil (WX.a ?_)))))))
        refine WC.cond rfl (fun zj9=>?_) (fun zj9=>?_)
        · replace h:=yl h zj9
          refine WC.b (WC.a (WL.pu rfl (WL.pu rfl (WL.nil (WX.a (WC.b (WC.a (WL.pu rfl (WL.pu rfl (WL.nil (WX.a ?_)))))))))))
          obtain ⟨z6x,zsY,h⟩:=y19 h
          refine WC.y1R (fun (z3u : Int)=>(z6x z3u = some r)) (fun (z3u : Int)=>[(0,(.slice zM z5.length zD)),(2,(.int .i64 zt)),(14,(.int .i64 z3u))]) (fun (z3u : Int)=>[row (.slice zM z5.length zD) 50 3 (z5.flatMap e50)]) ?_ ?_
          · skip
            refine WC.block ?_
            refine WC.y2m (fun (zbp : Nat) (z1D : Int) (z1M : Int)=>(yJ zt z5 zS z6x zbp z1D z1M = some r)) (fun (zbp : Nat) (z1D : Int) (z1M : Int)=>[(0,(.slice zM z5.length zD)),(2,(.int .i64 zt)),(4,(.func (.func z1o) #[] (z1A).toArray)),(14,(.int .i64 z1D)),(15,(.int .i64 z1M))]) (fun (zbp : Nat) (z1D : Int) (z1M : Int)=>[row (.slice zM z5.length zD) 50 3 (z5.flatMap e50)]) (fun (zbp : Nat) (z1D : Int) (z1M : Int)=>zbp) ⟨yz,zl,zt⟩ h (.cons rfl (.cons rfl (.cons rfl (.cons rfl (.cons rfl .nil))))) (.cons .here .nil) ?_
            rintro zbp z1D z1M h
            obtain ⟨zdT,rfl⟩:=y3G h
            rw [yJ] at h
            refine WC.b (WC.b (WC.a (WL.pu rfl (WL.pu rfl (WL.pu rfl (WL.nil (WX.a ?_)))))))
            refine WC.cond rfl (fun zja=>?_) (fun zja=>?_)
            · replace h:=yl h zja
              refine WC.skip (WX.a (WC.block (WC.b (WC.a (WL.pu rfl (WL.pu rfl (WL.pu rfl ?_)))))))
              refine WL.a (d:=89) rfl rfl rfl (y4S Try.underlying3 Try.underlying157 rfl rfl) ?_
              refine WL.a (d:=90) rfl rfl rfl (q_shr rfl rfl (by decide) rfl) ?_
              refine WL.a (d:=91) rfl rfl rfl (y4S Try.underlying157 Try.underlying3 rfl rfl) ?_
              refine WL.pu rfl (WL.nil (WX.a (WC.b ?_)))
              obtain ⟨zdZ,h⟩:=yi h
              obtain ⟨zfD,h⟩:=yi h
              obtain ⟨ziZ,zsZ,h⟩:=zh h
              refine WC.yV (fun i=>[].contains i) [] rfl ?_
              refine WD.a (i:=0) (d:=92) (by kernel_rfl) rfl (z2 (by kernel_rfl)) (z3 (by kernel_rfl)) rfl rfl rfl (fun _=>q_m rfl) ?_
              refine WD.a (i:=1) (d:=93) (by kernel_rfl) rfl (z2 (by kernel_rfl)) (z3 (by kernel_rfl)) rfl rfl rfl (fun _=>q_m rfl) ?_
              refine WD.a (i:=2) (d:=94) (by kernel_rfl) rfl (z2 (by kernel_rfl)) (z3 (by kernel_rfl)) rfl rfl rfl (fun _=>q_m rfl) ?_
              refine WD.know (fun w hw=>Hp.y2p .here hw (by intro hz'; have:=zdZ; rw [hz'] at this; omega)) ?_
              rintro ⟨zxV,rfl⟩
              refine WD.a (i:=3) (d:=95) (by kernel_rfl) rfl (z2 (by kernel_rfl)) (z3 (by kernel_rfl)) rfl rfl rfl (fun _=>yr y1d rfl rfl zdZ.1 zdZ.2 y1c) ?_
              refine WD.e (i:=4) (d:=96) (by kernel_rfl) rfl (z2 (by kernel_rfl)) (z3 (by kernel_rfl)) rfl rfl rfl (y1P (cs:=(e50 (nth z5 zt))) y2h rfl rfl (y23 .here (y1W (enc:=e50) (l:=z5) (i:=zt) (sz:=3) (fun _=>rfl) zdZ.1 zdZ.2))) ?_
              refine WD.a (i:=5) (d:=97) (by kernel_rfl) rfl (z2 (by kernel_rfl)) (z3 (by kernel_rfl)) rfl rfl rfl (fun _=>q_m rfl) ?_
              refine WD.a (i:=6) (d:=98) (by kernel_rfl) rfl (z2 (by kernel_rfl)) (z3 (by kernel_rfl)) rfl rfl rfl (fun _=>q_m rfl) ?_
              refine WD.a (i:=7) (d:=99) (by kernel_rfl) rfl (z2 (by kernel_rfl)) (z3 (by kernel_rfl)) rfl rfl rfl (fun _=>yr y1d rfl rfl zfD.1 zfD.2 y1c) ?_
              refine WD.e (i:=8) (d:=100) (by kernel_rfl) rfl (z2 (by kernel_rfl)) (z3 (by kernel_rfl)) rfl rfl rfl (y1P (cs:=(e50 (nth z5 (i64 ((u64 (i64 (z1D + z1M))) / 2 ^ min (1 : Int).toNat 64))))) y2h rfl rfl (y23 .here (y1W (enc:=e50) (l:=z5) (i:=i64 ((u64 (i64 (z1D + z1M))) / 2 ^ min (1 : Int).toNat 64)) (sz:=3) (fun _=>rfl) zfD.1 zfD.2))) ?_
              refine WD.c (i:=9) (d:=101) (by kernel_rfl) rfl (z2 (by kernel_rfl)) (z3 (by kernel_rfl)) rfl rfl rfl (y3J (l:=[.tmp 96,.tmp 100]) (f:=z1o) (caps:=z1A) z6B rfl (.cons rfl (.cons rfl .nil))) (fun w hw=>z6C w (hz.now hw) (⟨((nth z5 zt).fSent),((nth z5 zt).fNode),((nth z5 zt).fTime)⟩ : Sapi_Come) (⟨((nth z5 (i64 ((u64 (i64 (z1D + z1M))) / 2 ^ min (1 : Int).toNat 64))).fSent),((nth z5 (i64 ((u64 (i64 (z1D + z1M))) / 2 ^ min (1 : Int).toNat 64))).fNode),((nth z5 (i64 ((u64 (i64 (z1D + z1M))) / 2 ^ min (1 : Int).toNat 64))).fTime)⟩ : Sapi_Come) ziZ  zsZ) ?_
              refine WD.a (i:=10) (d:=102) (by kernel_rfl) rfl (z2 (by kernel_rfl)) (z3 (by kernel_rfl)) rfl rfl rfl (fun _=>y3r rfl rfl) ?_
              refine WD.a (i:=11) (d:=103) (by kernel_rfl) rfl (z2 (by kernel_rfl)) (z3 (by kernel_rfl)) rfl rfl rfl (fun _=>q_not rfl) ?_
              refine WD.done (by kernel_rfl) ?_
              refine WX.a ?_
              refine WC.cond rfl (fun zjb=>?_) (fun zjb=>?_)
              · replace h:=yl h zjb
                refine WC.a (WL.pu rfl (WL.pu rfl (WL.pu rfl (WL.nil (WX.yf ?_)))))
                exact WX.round (G:=Nat × Int × Int) ⟨zdT,(i64 ((i64 ((u64 (i64 (z1D + z1M))) / 2 ^ min (1 : Int).toNat 64)) + 1)),z1M⟩ h (Nat.lt_succ_self _) (.cons rfl (.cons rfl (.cons rfl (.cons rfl (.cons rfl .nil))))) (.cons .here .nil)
              · replace h:=ym h zjb
                refine WC.a (WL.pu rfl (WL.pu rfl (WL.nil (WX.yf ?_))))
                exact WX.round (G:=Nat × Int × Int) ⟨zdT,z1D,(i64 ((u64 (i64 (z1D + z1M))) / 2 ^ min (1 : Int).toNat 64))⟩ h (Nat.lt_succ_self _) (.cons rfl (.cons rfl (.cons rfl (.cons rfl (.cons rfl .nil))))) (.cons .here .nil)
            · replace h:=ym h zja
              refine WC.exit (WX.ye (WX.ye (WX.yA ?_)))
              exact WX.mid (G:=Int) z1D h (.cons rfl (.cons rfl (.cons rfl .nil))) (.cons .here .nil)
          · rintro z3u h
            replace h:=(zsY z3u).symm.trans h
            obtain ⟨z7E,zt0,h⟩:=y19 h
            refine WC.y1R (fun (z6z : List Sapi_Come)=>(z7E z6z = some r) ∧ (z6z.length = z5.length)) (fun (z6z : List Sapi_Come)=>[]) (fun (z6z : List Sapi_Come)=>[row (.slice zM z6z.length zD) 50 3 (z6z.flatMap e50)]) ?_ ?_
            · skip
              refine WC.b (WC.a (WL.pu rfl (WL.pu rfl (WL.nil (WX.a (WC.block ?_))))))
              refine WC.y2m (fun (zbq : Nat) (zq : List Sapi_Come) (zk : Int)=>(yR z3u z7E zbq zq zk = some r) ∧ (zq.length = z5.length)) (fun (zbq : Nat) (zq : List Sapi_Come) (zk : Int)=>[(0,(.slice zM zq.length zD)),(14,(.int .i64 z3u)),(17,(.int .i64 zk))]) (fun (zbq : Nat) (zq : List Sapi_Come) (zk : Int)=>[row (.slice zM zq.length zD) 50 3 (zq.flatMap e50)]) (fun (zbq : Nat) (zq : List Sapi_Come) (zk : Int)=>zbq) ⟨yz,z5,zt⟩ ⟨h,rfl⟩ (.cons rfl (.cons rfl (.cons rfl .nil))) (.cons .here .nil) ?_
              rintro zbq zq zk ⟨h,znx⟩
              obtain ⟨zj0,rfl⟩:=y3H h
              rw [yR] at h
              refine WC.b (WC.b (WC.a (WL.pu rfl (WL.pu rfl (WL.pu rfl (WL.nil (WX.a ?_)))))))
              refine WC.cond rfl (fun zjc=>?_) (fun zjc=>?_)
              · replace h:=yl h zjc
                refine WC.skip (WX.a (WC.b (WC.block ?_)))
                obtain ⟨ze0,h⟩:=yi h
                obtain ⟨z6E,h⟩:=yi h
                obtain ⟨zbr,h⟩:=yi h
                refine WC.yV (fun i=>[15,17].contains i) [] rfl ?_
                refine WD.a (i:=0) (d:=113) (by kernel_rfl) rfl (z2 (by kernel_rfl)) (z3 (by kernel_rfl)) rfl rfl rfl (fun _=>q_m rfl) ?_
                refine WD.a (i:=1) (d:=114) (by kernel_rfl) rfl (z2 (by kernel_rfl)) (z3 (by kernel_rfl)) rfl rfl rfl (fun _=>q_m rfl) ?_
                refine WD.a (i:=2) (d:=115) (by kernel_rfl) rfl (z2 (by kernel_rfl)) (z3 (by kernel_rfl)) rfl rfl rfl (fun _=>q_m rfl) ?_
                refine WD.a (i:=3) (d:=116) (by kernel_rfl) rfl (z2 (by kernel_rfl)) (z3 (by kernel_rfl)) rfl rfl rfl (fun _=>q_m rfl) ?_
                refine WD.a (i:=4) (d:=117) (by kernel_rfl) rfl (z2 (by kernel_rfl)) (z3 (by kernel_rfl)) rfl rfl rfl (fun _=>y4Q rfl rfl rfl) ?_
                refine WD.a (i:=5) (d:=118) (by kernel_rfl) rfl (z2 (by kernel_rfl)) (z3 (by kernel_rfl)) rfl rfl rfl (fun _=>q_m rfl) ?_
                refine WD.a (i:=6) (d:=119) (by kernel_rfl) rfl (z2 (by kernel_rfl)) (z3 (by kernel_rfl)) rfl rfl rfl (fun _=>q_m rfl) ?_
                refine WD.a (i:=7) (d:=120) (by kernel_rfl) rfl (z2 (by kernel_rfl)) (z3 (by kernel_rfl)) rfl rfl rfl (fun _=>y4Q rfl rfl rfl) ?_
                refine WD.know (fun w hw=>Hp.y2p .here hw (by intro hz'; have:=ze0; rw [hz'] at this; omega)) ?_
                rintro ⟨ze1,rfl⟩
                refine WD.a (i:=8) (d:=121) (by kernel_rfl) rfl (z2 (by kernel_rfl)) (z3 (by kernel_rfl)) rfl rfl rfl (fun _=>yr y1d rfl rfl ze0.1 ze0.2 y1c) ?_
                refine WD.e (i:=9) (d:=122) (by kernel_rfl) rfl (z2 (by kernel_rfl)) (z3 (by kernel_rfl)) rfl rfl rfl (y1P (cs:=(e50 (nth zq (i64 (zk - 1))))) y2h rfl rfl (y23 .here (y1W (enc:=e50) (l:=zq) (i:=i64 (zk - 1)) (sz:=3) (fun _=>rfl) ze0.1 ze0.2))) ?_
                refine WD.a (i:=10) (d:=123) (by kernel_rfl) rfl (z2 (by kernel_rfl)) (z3 (by kernel_rfl)) rfl rfl rfl (fun _=>q_m rfl) ?_
                refine WD.a (i:=11) (d:=124) (by kernel_rfl) rfl (z2 (by kernel_rfl)) (z3 (by kernel_rfl)) rfl rfl rfl (fun _=>q_m rfl) ?_
                refine WD.a (i:=12) (d:=125) (by kernel_rfl) rfl (z2 (by kernel_rfl)) (z3 (by kernel_rfl)) rfl rfl rfl (fun _=>yr y1d rfl rfl z6E.1 z6E.2 y1c) ?_
                refine WD.e (i:=13) (d:=126) (by kernel_rfl) rfl (z2 (by kernel_rfl)) (z3 (by kernel_rfl)) rfl rfl rfl (y1P (cs:=(e50 (nth zq zk))) y2h rfl rfl (y23 .here (y1W (enc:=e50) (l:=zq) (i:=zk) (sz:=3) (fun _=>rfl) z6E.1 z6E.2))) ?_
                refine WD.a (i:=14) (d:=127) (by kernel_rfl) rfl (z2 (by kernel_rfl)) (z3 (by kernel_rfl)) rfl rfl rfl (fun _=>yr y1d rfl rfl z6E.1 z6E.2 y1c) ?_
                refine WD.forced0 (i:=15) rfl (by kernel_rfl) rfl rfl rfl (Sin.of .nil) (y28 (vs:=[(.int .i64 ((nth zq (i64 (zk - 1))).fSent)),(.int .i64 ((nth zq (i64 (zk - 1))).fNode)),(.int .i64 ((nth zq (i64 (zk - 1))).fTime))]) (ds:=(zq.set (zk : Int).toNat (⟨((nth zq (i64 (zk - 1))).fSent),((nth zq (i64 (zk - 1))).fNode),((nth zq (i64 (zk - 1))).fTime)⟩ : Sapi_Come)).flatMap e50) y4s rfl rfl rfl rfl (ocB rfl) .here (y2I (enc:=e50) (sz:=3) (k:=0) (fun _=>rfl) z6E.1 z6E.2 (by decide)) (y2H (enc:=e50) (l:=zq) (sz:=3) (vs:=[(.int .i64 ((nth zq (i64 (zk - 1))).fSent)),(.int .i64 ((nth zq (i64 (zk - 1))).fNode)),(.int .i64 ((nth zq (i64 (zk - 1))).fTime))]) (y:=(⟨((nth zq (i64 (zk - 1))).fSent),((nth zq (i64 (zk - 1))).fNode),((nth zq (i64 (zk - 1))).fTime)⟩ : Sapi_Come)) (k:=0) (fun _=>rfl) z6E.1 z6E.2 rfl (Nat.le_of_ble_eq_true rfl))) ?_
                refine WD.relen .here (u:=(.slice (some ⟨ze1,0,none⟩) ((zq.set (zk : Int).toNat (⟨((nth zq (i64 (zk - 1))).fSent),((nth zq (i64 (zk - 1))).fNode),((nth zq (i64 (zk - 1))).fTime)⟩ : Sapi_Come)).length) zD)) (y1F (List.length_set).symm) ?_
                refine WD.repin (i:=0) rfl (u:=(.slice (some ⟨ze1,0,none⟩) ((zq.set (zk : Int).toNat (⟨((nth zq (i64 (zk - 1))).fSent),((nth zq (i64 (zk - 1))).fNode),((nth zq (i64 (zk - 1))).fTime)⟩ : Sapi_Come)).length) zD)) (y1F (List.length_set).symm) ?_
                refine WD.repin (i:=115) rfl (u:=(.slice (some ⟨ze1,0,none⟩) ((zq.set (zk : Int).toNat (⟨((nth zq (i64 (zk - 1))).fSent),((nth zq (i64 (zk - 1))).fNode),((nth zq (i64 (zk - 1))).fTime)⟩ : Sapi_Come)).length) zD)) (y1F (List.length_set).symm) ?_
                refine WD.a (i:=16) (d:=128) (by kernel_rfl) rfl (z2 (by kernel_rfl)) (z3 (by kernel_rfl)) rfl rfl rfl (fun _=>yr y1d rfl rfl zbr.1 zbr.2 y1c) ?_
                refine WD.y2F (i:=17) rfl (by kernel_rfl) rfl rfl rfl (by kernel_rfl) (y28 (vs:=[(.int .i64 ((nth zq zk).fSent)),(.int .i64 ((nth zq zk).fNode)),(.int .i64 ((nth zq zk).fTime))]) (ds:=((zq.set (zk : Int).toNat (⟨((nth zq (i64 (zk - 1))).fSent),((nth zq (i64 (zk - 1))).fNode),((nth zq (i64 (zk - 1))).fTime)⟩ : Sapi_Come)).set ((i64 (zk - 1)) : Int).toNat (⟨((nth zq zk).fSent),((nth zq zk).fNode),((nth zq zk).fTime)⟩ : Sapi_Come)).flatMap e50) y4s rfl rfl rfl rfl (ocB rfl) .here (y2I (enc:=e50) (sz:=3) (k:=0) (fun _=>rfl) zbr.1 zbr.2 (by decide)) (y2H (enc:=e50) (l:=zq.set (zk : Int).toNat (⟨((nth zq (i64 (zk - 1))).fSent),((nth zq (i64 (zk - 1))).fNode),((nth zq (i64 (zk - 1))).fTime)⟩ : Sapi_Come)) (sz:=3) (vs:=[(.int .i64 ((nth zq zk).fSent)),(.int .i64 ((nth zq zk).fNode)),(.int .i64 ((nth zq zk).fTime))]) (y:=(⟨((nth zq zk).fSent),((nth zq zk).fNode),((nth zq zk).fTime)⟩ : Sapi_Come)) (k:=0) (fun _=>rfl) zbr.1 zbr.2 rfl (Nat.le_of_ble_eq_true rfl))) ?_
                refine WD.relen .here (u:=(.slice (some ⟨ze1,0,none⟩) (((zq.set (zk : Int).toNat (⟨((nth zq (i64 (zk - 1))).fSent),((nth zq (i64 (zk - 1))).fNode),((nth zq (i64 (zk - 1))).fTime)⟩ : Sapi_Come)).set ((i64 (zk - 1)) : Int).toNat (⟨((nth zq zk).fSent),((nth zq zk).fNode),((nth zq zk).fTime)⟩ : Sapi_Come)).length) zD)) (y1F (List.length_set).symm) ?_
                refine WD.repin (i:=0) rfl (u:=(.slice (some ⟨ze1,0,none⟩) (((zq.set (zk : Int).toNat (⟨((nth zq (i64 (zk - 1))).fSent),((nth zq (i64 (zk - 1))).fNode),((nth zq (i64 (zk - 1))).fTime)⟩ : Sapi_Come)).set ((i64 (zk - 1)) : Int).toNat (⟨((nth zq zk).fSent),((nth zq zk).fNode),((nth zq zk).fTime)⟩ : Sapi_Come)).length) zD)) (y1F (List.length_set).symm) ?_
                refine WD.done (by kernel_rfl) ?_
                refine WX.yf (WX.a (WC.a (WL.pu rfl (WL.pu rfl (WL.pu rfl (WL.nil ?_))))))
                exact WX.round (G:=Nat × List Sapi_Come × Int) ⟨zj0,((zq.set (zk : Int).toNat (⟨((nth zq (i64 (zk - 1))).fSent),((nth zq (i64 (zk - 1))).fNode),((nth zq (i64 (zk - 1))).fTime)⟩ : Sapi_Come)).set ((i64 (zk - 1)) : Int).toNat (⟨((nth zq zk).fSent),((nth zq zk).fNode),((nth zq zk).fTime)⟩ : Sapi_Come)),(i64 (zk - 1))⟩ ⟨h,((List.length_set).trans ((List.length_set).trans znx))⟩ (Nat.lt_succ_self _) (.cons rfl (.cons rfl (.cons rfl .nil))) (.cons .here .nil)
              · replace h:=ym h zjc
                refine WC.exit (WX.ye (WX.ye (WX.yA ?_)))
                exact WX.mid (G:=List Sapi_Come) zq ⟨h,znx⟩ .nil (.cons .here .nil)
            · rintro z6z ⟨h,zt1⟩
              replace h:=(zt0 z6z).symm.trans h
              refine WC.ret (WX.yj ?_)
              obtain rfl:=Option.some.inj h
              refine WX.yh Try.results67 .nil (fun w hw=>?_)
              exact ⟨y4h,zt1,hw.sub (.cons .here .nil)⟩
        · replace h:=ym h zj9
          refine WC.skip ?_
          exact WX.mid (G:=Unit) () h (.cons rfl (.cons rfl (.cons rfl (.cons rfl (.cons rfl .nil))))) (.cons .here .nil)
      · rintro  h
        replace h:=zsX.symm.trans h
        refine WC.b (WC.a (WL.pu rfl (WL.pu rfl (WL.pu rfl ?_))))
        refine WL.a (d:=132) rfl rfl rfl (y4S Try.underlying3 Try.underlying157 rfl rfl) ?_
        refine WL.a (d:=133) rfl rfl rfl (q_shr rfl rfl (by decide) rfl) ?_
        refine WL.a (d:=134) rfl rfl rfl (y4S Try.underlying157 Try.underlying3 rfl rfl) ?_
        refine WL.pu rfl (WL.nil (WX.a (WC.b (WC.a (WL.pu rfl (WL.pu rfl (WL.pu rfl (WL.pu rfl (WL.nil (WX.a (WC.b (WC.a (WL.pu rfl (WL.pu rfl (WL.nil ?_)))))))))))))))
        refine WX.a ?_
        obtain ⟨zfB,zt2,h⟩:=y2V h
        refine WC.y2w (fun (z7F : Int) (z7G : Int)=>(zfB z7F z7G = some r)) (fun (z7F : Int) (z7G : Int)=>[(0,(.slice zM z5.length zD)),(1,(.int .i64 zl)),(2,(.int .i64 zt)),(3,(.int .i64 zx)),(4,(.func (.func z1o) #[] (z1A).toArray)),(18,(.int .i64 (i64 ((u64 (i64 (zl + zx))) / 2 ^ min (1 : Int).toNat 64)))),(19,(.int .i64 (i64 ((i64 ((u64 (i64 (zl + zx))) / 2 ^ min (1 : Int).toNat 64)) + zt)))),(20,(.int .i64 z7F)),(21,(.int .i64 z7G))]) (fun (z7F : Int) (z7G : Int)=>[row (.slice zM z5.length zD) 50 3 (z5.flatMap e50)]) ?_ ?_
        · skip
          refine WC.b (WC.a (WL.pu rfl (WL.pu rfl (WL.pu rfl (WL.nil (WX.a ?_))))))
          refine WC.cond rfl (fun zjd=>?_) (fun zjd=>?_)
          · replace h:=yl h zjd
            refine WC.b (WC.a (WL.pu rfl (WL.pu rfl (WL.pu rfl (WL.pu rfl (WL.nil (WX.a (WC.a (WL.pu rfl (WL.pu rfl (WL.nil ?_)))))))))))
            exact WX.mid (G:=Int × Int) ⟨(i64 ((i64 ((i64 ((u64 (i64 (zl + zx))) / 2 ^ min (1 : Int).toNat 64)) + zt)) - zx)),(i64 ((u64 (i64 (zl + zx))) / 2 ^ min (1 : Int).toNat 64))⟩ h (.cons rfl (.cons rfl (.cons rfl (.cons rfl (.cons rfl (.cons rfl (.cons rfl (.cons rfl (.cons rfl .nil))))))))) (.cons .here .nil)
          · replace h:=ym h zjd
            refine WC.b (WC.a (WL.pu rfl (WL.pu rfl (WL.nil (WX.a (WC.a (WL.pu rfl (WL.pu rfl (WL.nil ?_)))))))))
            exact WX.mid (G:=Int × Int) ⟨zl,zt⟩ h (.cons rfl (.cons rfl (.cons rfl (.cons rfl (.cons rfl (.cons rfl (.cons rfl (.cons rfl (.cons rfl .nil))))))))) (.cons .here .nil)
        · rintro z7F z7G h
          replace h:=(zt2 z7F z7G).symm.trans h
          refine WC.b (WC.a (WL.pu rfl (WL.pu rfl (WL.pu rfl (WL.nil (WX.a ?_))))))
          obtain ⟨z6y,zt3,h⟩:=y19 h
          refine WC.y1R (fun (z1E : Int)=>(z6y z1E = some r)) (fun (z1E : Int)=>[(0,(.slice zM z5.length zD)),(1,(.int .i64 zl)),(2,(.int .i64 zt)),(3,(.int .i64 zx)),(4,(.func (.func z1o) #[] (z1A).toArray)),(18,(.int .i64 (i64 ((u64 (i64 (zl + zx))) / 2 ^ min (1 : Int).toNat 64)))),(19,(.int .i64 (i64 ((i64 ((u64 (i64 (zl + zx))) / 2 ^ min (1 : Int).toNat 64)) + zt)))),(20,(.int .i64 z1E))]) (fun (z1E : Int)=>[row (.slice zM z5.length zD) 50 3 (z5.flatMap e50)]) ?_ ?_
          · skip
            refine WC.block ?_
            refine WC.y2m (fun (zbs : Nat) (zZ : Int) (z14 : Int)=>(yF zl zx zt z5 zS z6y zbs zZ z14 = some r)) (fun (zbs : Nat) (zZ : Int) (z14 : Int)=>[(0,(.slice zM z5.length zD)),(1,(.int .i64 zl)),(2,(.int .i64 zt)),(3,(.int .i64 zx)),(4,(.func (.func z1o) #[] (z1A).toArray)),(18,(.int .i64 (i64 ((u64 (i64 (zl + zx))) / 2 ^ min (1 : Int).toNat 64)))),(19,(.int .i64 (i64 ((i64 ((u64 (i64 (zl + zx))) / 2 ^ min (1 : Int).toNat 64)) + zt)))),(20,(.int .i64 zZ)),(21,(.int .i64 z14)),(22,(.int .i64 (i64 ((i64 ((i64 ((u64 (i64 (zl + zx))) / 2 ^ min (1 : Int).toNat 64)) + zt)) - 1))))]) (fun (zbs : Nat) (zZ : Int) (z14 : Int)=>[row (.slice zM z5.length zD) 50 3 (z5.flatMap e50)]) (fun (zbs : Nat) (zZ : Int) (z14 : Int)=>zbs) ⟨yz,z7F,z7G⟩ h (.cons rfl (.cons rfl (.cons rfl (.cons rfl (.cons rfl (.cons rfl (.cons rfl (.cons rfl (.cons rfl (.cons rfl .nil)))))))))) (.cons .here .nil) ?_
            rintro zbs zZ z14 h
            obtain ⟨zdU,rfl⟩:=y3B h
            rw [yF] at h
            refine WC.b (WC.b (WC.a (WL.pu rfl (WL.pu rfl (WL.pu rfl (WL.nil (WX.a ?_)))))))
            refine WC.cond rfl (fun zje=>?_) (fun zje=>?_)
            · replace h:=yl h zje
              refine WC.skip (WX.a (WC.block (WC.b (WC.a (WL.pu rfl (WL.pu rfl (WL.pu rfl ?_)))))))
              refine WL.a (d:=155) rfl rfl rfl (y4S Try.underlying3 Try.underlying157 rfl rfl) ?_
              refine WL.a (d:=156) rfl rfl rfl (q_shr rfl rfl (by decide) rfl) ?_
              refine WL.a (d:=157) rfl rfl rfl (y4S Try.underlying157 Try.underlying3 rfl rfl) ?_
              refine WL.pu rfl (WL.nil (WX.a (WC.b ?_)))
              obtain ⟨ze2,h⟩:=yi h
              obtain ⟨zfE,h⟩:=yi h
              obtain ⟨zj1,zt4,h⟩:=zh h
              refine WC.yV (fun i=>[].contains i) [] rfl ?_
              refine WD.a (i:=0) (d:=158) (by kernel_rfl) rfl (z2 (by kernel_rfl)) (z3 (by kernel_rfl)) rfl rfl rfl (fun _=>q_m rfl) ?_
              refine WD.a (i:=1) (d:=159) (by kernel_rfl) rfl (z2 (by kernel_rfl)) (z3 (by kernel_rfl)) rfl rfl rfl (fun _=>q_m rfl) ?_
              refine WD.a (i:=2) (d:=160) (by kernel_rfl) rfl (z2 (by kernel_rfl)) (z3 (by kernel_rfl)) rfl rfl rfl (fun _=>q_m rfl) ?_
              refine WD.a (i:=3) (d:=161) (by kernel_rfl) rfl (z2 (by kernel_rfl)) (z3 (by kernel_rfl)) rfl rfl rfl (fun _=>q_m rfl) ?_
              refine WD.a (i:=4) (d:=162) (by kernel_rfl) rfl (z2 (by kernel_rfl)) (z3 (by kernel_rfl)) rfl rfl rfl (fun _=>y4Q rfl rfl rfl) ?_
              refine WD.know (fun w hw=>Hp.y2p .here hw (by intro hz'; have:=ze2; rw [hz'] at this; omega)) ?_
              rintro ⟨zxW,rfl⟩
              refine WD.a (i:=5) (d:=163) (by kernel_rfl) rfl (z2 (by kernel_rfl)) (z3 (by kernel_rfl)) rfl rfl rfl (fun _=>yr y1d rfl rfl ze2.1 ze2.2 y1c) ?_
              refine WD.e (i:=6) (d:=164) (by kernel_rfl) rfl (z2 (by kernel_rfl)) (z3 (by kernel_rfl)) rfl rfl rfl (y1P (cs:=(e50 (nth z5 (i64 ((i64 ((i64 ((i64 ((u64 (i64 (zl + zx))) / 2 ^ min (1 : Int).toNat 64)) + zt)) - 1)) - (i64 ((u64 (i64 (zZ + z14))) / 2 ^ min (1 : Int).toNat 64))))))) y2h rfl rfl (y23 .here (y1W (enc:=e50) (l:=z5) (i:=i64 ((i64 ((i64 ((i64 ((u64 (i64 (zl + zx))) / 2 ^ min (1 : Int).toNat 64)) + zt)) - 1)) - (i64 ((u64 (i64 (zZ + z14))) / 2 ^ min (1 : Int).toNat 64)))) (sz:=3) (fun _=>rfl) ze2.1 ze2.2))) ?_
              refine WD.a (i:=7) (d:=165) (by kernel_rfl) rfl (z2 (by kernel_rfl)) (z3 (by kernel_rfl)) rfl rfl rfl (fun _=>q_m rfl) ?_
              refine WD.a (i:=8) (d:=166) (by kernel_rfl) rfl (z2 (by kernel_rfl)) (z3 (by kernel_rfl)) rfl rfl rfl (fun _=>q_m rfl) ?_
              refine WD.a (i:=9) (d:=167) (by kernel_rfl) rfl (z2 (by kernel_rfl)) (z3 (by kernel_rfl)) rfl rfl rfl (fun _=>yr y1d rfl rfl zfE.1 zfE.2 y1c) ?_
              refine WD.e (i:=10) (d:=168) (by kernel_rfl) rfl (z2 (by kernel_rfl)) (z3 (by kernel_rfl)) rfl rfl rfl (y1P (cs:=(e50 (nth z5 (i64 ((u64 (i64 (zZ + z14))) / 2 ^ min (1 : Int).toNat 64))))) y2h rfl rfl (y23 .here (y1W (enc:=e50) (l:=z5) (i:=i64 ((u64 (i64 (zZ + z14))) / 2 ^ min (1 : Int).toNat 64)) (sz:=3) (fun _=>rfl) zfE.1 zfE.2))) ?_
              refine WD.c (i:=11) (d:=169) (by kernel_rfl) rfl (z2 (by kernel_rfl)) (z3 (by kernel_rfl)) rfl rfl rfl (y3J (l:=[.tmp 164,.tmp 168]) (f:=z1o) (caps:=z1A) z6B rfl (.cons rfl (.cons rfl .nil))) (fun w hw=>z6C w (hz.now hw) (⟨((nth z5 (i64 ((i64 ((i64 ((i64 ((u64 (i64 (zl + zx))) / 2 ^ min (1 : Int).toNat 64)) + zt)) - 1)) - (i64 ((u64 (i64 (zZ + z14))) / 2 ^ min (1 : Int).toNat 64))))).fSent),((nth z5 (i64 ((i64 ((i64 ((i64 ((u64 (i64 (zl + zx))) / 2 ^ min (1 : Int).toNat 64)) + zt)) - 1)) - (i64 ((u64 (i64 (zZ + z14))) / 2 ^ min (1 : Int).toNat 64))))).fNode),((nth z5 (i64 ((i64 ((i64 ((i64 ((u64 (i64 (zl + zx))) / 2 ^ min (1 : Int).toNat 64)) + zt)) - 1)) - (i64 ((u64 (i64 (zZ + z14))) / 2 ^ min (1 : Int).toNat 64))))).fTime)⟩ : Sapi_Come) (⟨((nth z5 (i64 ((u64 (i64 (zZ + z14))) / 2 ^ min (1 : Int).toNat 64))).fSent),((nth z5 (i64 ((u64 (i64 (zZ + z14))) / 2 ^ min (1 : Int).toNat 64))).fNode),((nth z5 (i64 ((u64 (i64 (zZ + z14))) / 2 ^ min (1 : Int).toNat 64))).fTime)⟩ : Sapi_Come) zj1  zt4) ?_
              refine WD.a (i:=12) (d:=170) (by kernel_rfl) rfl (z2 (by kernel_rfl)) (z3 (by kernel_rfl)) rfl rfl rfl (fun _=>y3r rfl rfl) ?_
              refine WD.a (i:=13) (d:=171) (by kernel_rfl) rfl (z2 (by kernel_rfl)) (z3 (by kernel_rfl)) rfl rfl rfl (fun _=>q_not rfl) ?_
              refine WD.done (by kernel_rfl) ?_
              refine WX.a ?_
              refine WC.cond rfl (fun zjf=>?_) (fun zjf=>?_)
              · replace h:=yl h zjf
                refine WC.a (WL.pu rfl (WL.pu rfl (WL.pu rfl (WL.nil (WX.yf ?_)))))
                exact WX.round (G:=Nat × Int × Int) ⟨zdU,(i64 ((i64 ((u64 (i64 (zZ + z14))) / 2 ^ min (1 : Int).toNat 64)) + 1)),z14⟩ h (Nat.lt_succ_self _) (.cons rfl (.cons rfl (.cons rfl (.cons rfl (.cons rfl (.cons rfl (.cons rfl (.cons rfl (.cons rfl (.cons rfl .nil)))))))))) (.cons .here .nil)
              · replace h:=ym h zjf
                refine WC.a (WL.pu rfl (WL.pu rfl (WL.nil (WX.yf ?_))))
                exact WX.round (G:=Nat × Int × Int) ⟨zdU,zZ,(i64 ((u64 (i64 (zZ + z14))) / 2 ^ min (1 : Int).toNat 64))⟩ h (Nat.lt_succ_self _) (.cons rfl (.cons rfl (.cons rfl (.cons rfl (.cons rfl (.cons rfl (.cons rfl (.cons rfl (.cons rfl (.cons rfl .nil)))))))))) (.cons .here .nil)
            · replace h:=ym h zje
              refine WC.exit (WX.ye (WX.ye (WX.yA ?_)))
              exact WX.mid (G:=Int) zZ h (.cons rfl (.cons rfl (.cons rfl (.cons rfl (.cons rfl (.cons rfl (.cons rfl (.cons rfl .nil)))))))) (.cons .here .nil)
          · rintro z1E h
            replace h:=(zt3 z1E).symm.trans h
            refine WC.b (WC.a (WL.pu rfl (WL.pu rfl (WL.pu rfl (WL.pu rfl (WL.nil (WX.a ?_)))))))
            obtain ⟨zfz,zt5,h⟩:=y19 h
            refine WC.y1R (fun (z3J : List Sapi_Come)=>(zfz z3J = some r) ∧ (z3J.length = z5.length)) (fun (z3J : List Sapi_Come)=>[(0,(.slice zM z3J.length zD)),(1,(.int .i64 zl)),(3,(.int .i64 zx)),(4,(.func (.func z1o) #[] (z1A).toArray)),(18,(.int .i64 (i64 ((u64 (i64 (zl + zx))) / 2 ^ min (1 : Int).toNat 64)))),(20,(.int .i64 z1E)),(24,(.int .i64 (i64 ((i64 ((i64 ((u64 (i64 (zl + zx))) / 2 ^ min (1 : Int).toNat 64)) + zt)) - z1E))))]) (fun (z3J : List Sapi_Come)=>[row (.slice zM z3J.length zD) 50 3 (z3J.flatMap e50)]) ?_ ?_
            · skip
              refine WC.b (WC.a (WL.pu rfl (WL.pu rfl (WL.pu rfl (WL.pu rfl ?_)))))
              refine WL.seg true 3 181 (B:=(decide (z1E < zt)) && (decide (zt < (i64 ((i64 ((i64 ((u64 (i64 (zl + zx))) / 2 ^ min (1 : Int).toNat 64)) + zt)) - z1E))))) rfl rfl rfl rfl rfl rfl (fun h=>(y2t h).symm) (fun _ zt6=>?_) ?_
              · skip
                refine WL.pu rfl (WL.pu rfl (WL.pu rfl (WL.pu rfl ?_)))
                exact WL.ys (y2u zt6) rfl rfl .all
              refine WL.nil (WX.a ?_)
              refine WC.cond rfl (fun zjg=>?_) (fun zjg=>?_)
              · replace h:=yl h zjg
                obtain ⟨zfA,zt7,h⟩:=zh h
                refine WC.a (WL.pu rfl (WL.pu rfl (WL.pu rfl (WL.pu rfl (WL.pu rfl ?_)))))
                refine WL.y1L (dd:=191) rfl rfl rfl (zz (l:=[.tmp 186,.tmp 187,.tmp 188,.tmp 189,.tmp 190]) Try.call68 (.cons rfl (.cons rfl (.cons rfl (.cons rfl (.cons rfl .nil)))))) (.cons .here .nil) (cc hz (.cons .here .nil) fun w pz ho=>y4t _ _ _ (z4W:=z1o) (z6v:=z1A) _ _ _ _ (z35:=zS) _ zt7 w pz z6B z6C ho) ?_
                rintro  zny
                refine WL.repin (i:=0) rfl (u:=(.slice zM zfA.length zD)) (y1F zny.symm) ?_
                refine WL.nil ?_
                exact WX.mid (G:=List Sapi_Come) zfA ⟨h,(zny.trans rfl)⟩ (.cons rfl (.cons rfl (.cons rfl (.cons rfl (.cons rfl (.cons rfl (.cons rfl .nil))))))) (.cons .here .nil)
              · replace h:=ym h zjg
                refine WC.skip ?_
                exact WX.mid (G:=List Sapi_Come) z5 ⟨h,rfl⟩ (.cons rfl (.cons rfl (.cons rfl (.cons rfl (.cons rfl (.cons rfl (.cons rfl .nil))))))) (.cons .here .nil)
            · rintro z3J ⟨h,znz⟩
              replace h:=(zt5 z3J).symm.trans h
              obtain ⟨zfy,zt8,h⟩:=y19 h
              refine WC.y1R (fun (z41 : List Sapi_Come)=>(zfy z41 = some r) ∧ (z41.length = z5.length)) (fun (z41 : List Sapi_Come)=>[(0,(.slice zM z41.length zD)),(3,(.int .i64 zx)),(4,(.func (.func z1o) #[] (z1A).toArray)),(18,(.int .i64 (i64 ((u64 (i64 (zl + zx))) / 2 ^ min (1 : Int).toNat 64)))),(24,(.int .i64 (i64 ((i64 ((i64 ((u64 (i64 (zl + zx))) / 2 ^ min (1 : Int).toNat 64)) + zt)) - z1E))))]) (fun (z41 : List Sapi_Come)=>[row (.slice zM z41.length zD) 50 3 (z41.flatMap e50)]) ?_ ?_
              · skip
                refine WC.b (WC.a (WL.pu rfl (WL.pu rfl (WL.pu rfl (WL.pu rfl ?_)))))
                refine WL.seg true 3 195 (B:=(decide (zl < z1E)) && (decide (z1E < (i64 ((u64 (i64 (zl + zx))) / 2 ^ min (1 : Int).toNat 64))))) rfl rfl rfl rfl rfl rfl (fun h=>(y2t h).symm) (fun _ zt9=>?_) ?_
                · skip
                  refine WL.pu rfl (WL.pu rfl (WL.pu rfl (WL.pu rfl ?_)))
                  exact WL.ys (y2u zt9) rfl rfl .all
                refine WL.nil (WX.a ?_)
                refine WC.cond rfl (fun zjh=>?_) (fun zjh=>?_)
                · replace h:=yl h zjh
                  obtain ⟨zdV,zta,h⟩:=zh h
                  refine WC.a (WL.pu rfl (WL.pu rfl (WL.pu rfl (WL.pu rfl (WL.pu rfl ?_)))))
                  refine WL.y1L (dd:=205) rfl rfl rfl (zz (l:=[.tmp 200,.tmp 201,.tmp 202,.tmp 203,.tmp 204]) Try.call67 (.cons rfl (.cons rfl (.cons rfl (.cons rfl (.cons rfl .nil)))))) (.cons .here .nil) (cc hz (.cons .here .nil) fun w pz ho=>ih (Z:=_) (zM:=zM) (zD:=zD) (z1o:=z1o) (z1A:=z1A) (z5:=z3J) (zl:=zl) (zt:=z1E) (zx:=(i64 ((u64 (i64 (zl + zx))) / 2 ^ min (1 : Int).toNat 64))) (zS:=zS) (r:=zdV) w pz z6B z6C zta ho) ?_
                  rintro  znA
                  refine WL.repin (i:=0) rfl (u:=(.slice zM zdV.length zD)) (y1F znA.symm) ?_
                  refine WL.nil ?_
                  exact WX.mid (G:=List Sapi_Come) zdV ⟨h,(znA.trans znz)⟩ (.cons rfl (.cons rfl (.cons rfl (.cons rfl (.cons rfl .nil))))) (.cons .here .nil)
                · replace h:=ym h zjh
                  refine WC.skip ?_
                  exact WX.mid (G:=List Sapi_Come) z3J ⟨h,znz⟩ (.cons rfl (.cons rfl (.cons rfl (.cons rfl (.cons rfl .nil))))) (.cons .here .nil)
              · rintro z41 ⟨h,znB⟩
                replace h:=(zt8 z41).symm.trans h
                refine WC.b (WC.a (WL.pu rfl (WL.pu rfl (WL.pu rfl (WL.pu rfl ?_)))))
                refine WL.seg true 3 209 (B:=(decide ((i64 ((u64 (i64 (zl + zx))) / 2 ^ min (1 : Int).toNat 64)) < (i64 ((i64 ((i64 ((u64 (i64 (zl + zx))) / 2 ^ min (1 : Int).toNat 64)) + zt)) - z1E)))) && (decide ((i64 ((i64 ((i64 ((u64 (i64 (zl + zx))) / 2 ^ min (1 : Int).toNat 64)) + zt)) - z1E)) < zx))) rfl rfl rfl rfl rfl rfl (fun h=>(y2t h).symm) (fun _ ztb=>?_) ?_
                · skip
                  refine WL.pu rfl (WL.pu rfl (WL.pu rfl (WL.pu rfl ?_)))
                  exact WL.ys (y2u ztb) rfl rfl .all
                refine WL.nil (WX.a ?_)
                refine WC.cond rfl (fun zji=>?_) (fun zji=>?_)
                · replace h:=yl h zji
                  obtain ⟨zfx,ztc,h⟩:=zh h
                  refine WC.a (WL.pu rfl (WL.pu rfl (WL.pu rfl (WL.pu rfl (WL.pu rfl ?_)))))
                  refine WL.y1L (dd:=219) rfl rfl rfl (zz (l:=[.tmp 214,.tmp 215,.tmp 216,.tmp 217,.tmp 218]) Try.call67 (.cons rfl (.cons rfl (.cons rfl (.cons rfl (.cons rfl .nil)))))) (.cons .here .nil) (cc hz (.cons .here .nil) fun w pz ho=>ih (Z:=_) (zM:=zM) (zD:=zD) (z1o:=z1o) (z1A:=z1A) (z5:=z41) (zl:=(i64 ((u64 (i64 (zl + zx))) / 2 ^ min (1 : Int).toNat 64))) (zt:=(i64 ((i64 ((i64 ((u64 (i64 (zl + zx))) / 2 ^ min (1 : Int).toNat 64)) + zt)) - z1E))) (zx:=zx) (zS:=zS) (r:=zfx) w pz z6B z6C ztc ho) ?_
                  rintro  znC
                  refine WL.repin (i:=0) rfl (u:=(.slice zM zfx.length zD)) (y1F znC.symm) ?_
                  refine WL.nil ?_
                  obtain rfl:=Option.some.inj h
                  refine WX.y1V Try.results67 .nil (fun w hw=>?_)
                  exact ⟨y4h,(znC.trans znB),hw.sub (.cons .here .nil)⟩
                · replace h:=ym h zji
                  refine WC.skip ?_
                  obtain rfl:=Option.some.inj h
                  refine WX.y1V Try.results67 .nil (fun w hw=>?_)
                  exact ⟨y4h,znB,hw.sub (.cons .here .nil)⟩
theorem y34 (Z : Zp) (zM : Option Addr) (zD : Nat) (z1o : FuncId) (z1A : List Value) (z5 : List Sapi_Come) (zl : Int) (zt : Int) (zx : Int) (zS : Sapi_Come → Sapi_Come → Option Int) (r : List Sapi_Come) (w₀ : World) (hz : PZ (fps [row (.slice zM z5.length zD) 50 3 (z5.flatMap e50)]) w₀ Z)
    (z6B : ∀ args w,(callFunc z1o args).run Try.prog w = .ok (.enter z1o args) w)
    (z6C : ∀ w : World,PZ [] w Z → ∀ (x0 : Sapi_Come) (x1 : Sapi_Come) (r : Int),zS x0 x1 = some r → Calls Try.prog z1o (([(.agg #[(.int .i64 x0.fSent),(.int .i64 x0.fNode),(.int .i64 x0.fTime)]),(.agg #[(.int .i64 x1.fSent),(.int .i64 x1.fNode),(.int .i64 x1.fTime)])] : List Value) ++ z1A).toArray w fun e w'=>e = .returned (.int .i64 r) ∧ Hp [] w w' []) (h : y1k z5 zl zt zx zS = some r)
    (hown : Hp (fps [row (.slice zM z5.length zD) 50 3 (z5.flatMap e50)]) w₀ w₀ [row (.slice zM z5.length zD) 50 3 (z5.flatMap e50)]) : Calls Try.prog 67 #[(.slice zM z5.length zD),(.int .i64 zl),(.int .i64 zt),(.int .i64 zx),(.func (.func z1o) #[] (z1A).toArray)] w₀ fun e w'=>e = .returned (.tuple #[]) ∧ (r.length = z5.length) ∧ Hp (fps [row (.slice zM z5.length zD) 50 3 (z5.flatMap e50)]) w₀ w' [row (.slice zM r.length zD) 50 3 (r.flatMap e50)]:=y40 yz Z zM zD z1o z1A z5 zl zt zx zS r w₀ hz z6B z6C h hown
def yN (z11 : Int) (z1w : Sapi_Come → Sapi_Come → Option Int) (z5j : (List Sapi_Come) → Int → Option (List Sapi_Come)) : Nat → (List Sapi_Come) → Int → Int → Option (List Sapi_Come)
  | 0,_,_,_=>none
  | zjj + 1,z3v,z4X,z3w=>if decide (z3w ≤ z11) then (yP z3v z4X z3w z1w).bind fun zfF=>yN z11 z1w z5j zjj zfF z3w (i64 (z3w + 20)) else z5j z3v z4X
theorem y3R {n : Nat} {z11 : Int} {z1w : Sapi_Come → Sapi_Come → Option Int} {z5j : (List Sapi_Come) → Int → Option (List Sapi_Come)} {z3v : List Sapi_Come} {z4X : Int} {z3w : Int} {r : List Sapi_Come} (h : yN z11 z1w z5j n z3v z4X z3w = some r) : ∃ m,n = m + 1:=by
  cases n with
  | zero=>cases h
  | succ m=>exact ⟨m,rfl⟩
def yX (z11 : Int) (z1t : Int) (z1w : Sapi_Come → Sapi_Come → Option Int) (z7H : (List Sapi_Come) → Int → Option (List Sapi_Come)) : Nat → (List Sapi_Come) → Int → Int → Option (List Sapi_Come)
  | 0,_,_,_=>none
  | zjk + 1,z3j,z3x,z3k=>if decide (z3k ≤ z11) then (y1k z3j z3x (i64 (z3x + z1t)) z3k z1w).bind fun ze3=>yX z11 z1t z1w z7H zjk ze3 z3k (i64 (z3k + (i64 (2 * z1t)))) else z7H z3j z3x
theorem y3S {n : Nat} {z11 : Int} {z1t : Int} {z1w : Sapi_Come → Sapi_Come → Option Int} {z7H : (List Sapi_Come) → Int → Option (List Sapi_Come)} {z3j : List Sapi_Come} {z3x : Int} {z3k : Int} {r : List Sapi_Come} (h : yX z11 z1t z1w z7H n z3j z3x z3k = some r) : ∃ m,n = m + 1:=by
  cases n with
  | zero=>cases h
  | succ m=>exact ⟨m,rfl⟩
def yO (z11 : Int) (z1w : Sapi_Come → Sapi_Come → Option Int) (z5k : (List Sapi_Come) → Option (List Sapi_Come)) : Nat → (List Sapi_Come) → Int → Option (List Sapi_Come)
  | 0,_,_=>none
  | zjl + 1,z3l,z1t=>if decide (z1t < z11) then jp1 (fun (z4Y : List Sapi_Come)=>yO z11 z1w z5k zjl z4Y (i64 (z1t * 2))) fun zjm=>jp2 (fun (z3K : List Sapi_Come) (z4Z : Int)=>jp1 (fun (z50 : List Sapi_Come)=>zjm z50) fun zfG=>if decide ((i64 (z4Z + z1t)) < z11) then (y1k z3K z4Z (i64 (z4Z + z1t)) z11 z1w).bind fun ze4=>zfG ze4 else zfG z3K) fun z7H=>yX z11 z1t z1w z7H yz z3l 0 (i64 (2 * z1t)) else z5k z3l
theorem y3T {n : Nat} {z11 : Int} {z1w : Sapi_Come → Sapi_Come → Option Int} {z5k : (List Sapi_Come) → Option (List Sapi_Come)} {z3l : List Sapi_Come} {z1t : Int} {r : List Sapi_Come} (h : yO z11 z1w z5k n z3l z1t = some r) : ∃ m,n = m + 1:=by
  cases n with
  | zero=>cases h
  | succ m=>exact ⟨m,rfl⟩
def y1T (z1N : List Sapi_Come) (z11 : Int) (z1w : Sapi_Come → Sapi_Come → Option Int) : Option (List Sapi_Come) :=
  jp2 (fun (z42 : List Sapi_Come) (z6F : Int)=>(yP z42 z6F z11 z1w).bind fun zbt=>jp1 (fun (z51 : List Sapi_Come)=>some z51) fun z5k=>yO z11 z1w z5k yz zbt 20) fun z5j=>yN z11 z1w z5j yz z1N 0 20
set_option maxRecDepth 20000 in
theorem y4u (Z : Zp) (z1x : Option Addr) (z1y : Nat) (z2Q : FuncId) (z3m : List Value) (z1N : List Sapi_Come) (z11 : Int) (z1w : Sapi_Come → Sapi_Come → Option Int) (r : List Sapi_Come)
     (h : y1T z1N z11 z1w = some r) (w₀ : World) (hz : PZ (fps [row (.slice z1x z1N.length z1y) 50 3 (z1N.flatMap e50)]) w₀ Z)
     (zfH : ∀ args w,(callFunc z2Q args).run Try.prog w = .ok (.enter z2Q args) w)
     (zfI : ∀ w : World,PZ [] w Z → ∀ (x0 : Sapi_Come) (x1 : Sapi_Come) (r : Int),z1w x0 x1 = some r → Calls Try.prog z2Q (([(.agg #[(.int .i64 x0.fSent),(.int .i64 x0.fNode),(.int .i64 x0.fTime)]),(.agg #[(.int .i64 x1.fSent),(.int .i64 x1.fNode),(.int .i64 x1.fTime)])] : List Value) ++ z3m).toArray w fun e w'=>e = .returned (.int .i64 r) ∧ Hp [] w w' [])
    (hown : Hp (fps [row (.slice z1x z1N.length z1y) 50 3 (z1N.flatMap e50)]) w₀ w₀ [row (.slice z1x z1N.length z1y) 50 3 (z1N.flatMap e50)]) :
    Calls Try.prog 57 #[(.slice z1x z1N.length z1y),(.int .i64 z11),(.func (.func z2Q) #[] (z3m).toArray)] w₀ fun e w'=>e = .returned (.tuple #[]) ∧ (r.length = z1N.length) ∧ Hp (fps [row (.slice z1x z1N.length z1y) 50 3 (z1N.flatMap e50)]) w₀ w' [row (.slice z1x r.length z1y) 50 3 (r.flatMap e50)]:=by
  unfold y1T at h
  refine Calls.yk (vs:=[(.slice z1x z1N.length z1y),(.int .i64 z11),(.func (.func z2Q) #[] (z3m).toArray)]) (pre:=[row (.slice z1x z1N.length z1y) 50 3 (z1N.flatMap e50)]) (env:=[(0,(.slice z1x z1N.length z1y)),(1,(.int .i64 z11)),(2,(.func (.func z2Q) #[] (z3m).toArray))]) Try.func57 rfl Try.ntmps57 rfl (hown) rfl ?_
  refine WC.b (WC.a (WL.pu rfl (WL.nil (WX.a (WC.b (WC.a (WL.pu rfl (WL.pu rfl (WL.pu rfl (WL.nil (WX.a ?_)))))))))))
  obtain ⟨z5j,ztd,h⟩:=y2V h
  refine WC.y2w (fun (z42 : List Sapi_Come) (z6F : Int)=>(z5j z42 z6F = some r) ∧ (z42.length = z1N.length)) (fun (z42 : List Sapi_Come) (z6F : Int)=>[(0,(.slice z1x z42.length z1y)),(1,(.int .i64 z11)),(2,(.func (.func z2Q) #[] (z3m).toArray)),(6,(.int .i64 20)),(7,(.int .i64 z6F))]) (fun (z42 : List Sapi_Come) (z6F : Int)=>[row (.slice z1x z42.length z1y) 50 3 (z42.flatMap e50)]) ?_ ?_
  · skip
    refine WC.block ?_
    refine WC.y5a (fun (zbu : Nat) (z3v : List Sapi_Come) (z4X : Int) (z3w : Int)=>(yN z11 z1w z5j zbu z3v z4X z3w = some r) ∧ (z3v.length = z1N.length)) (fun (zbu : Nat) (z3v : List Sapi_Come) (z4X : Int) (z3w : Int)=>[(0,(.slice z1x z3v.length z1y)),(1,(.int .i64 z11)),(2,(.func (.func z2Q) #[] (z3m).toArray)),(6,(.int .i64 20)),(7,(.int .i64 z4X)),(8,(.int .i64 z3w))]) (fun (zbu : Nat) (z3v : List Sapi_Come) (z4X : Int) (z3w : Int)=>[row (.slice z1x z3v.length z1y) 50 3 (z3v.flatMap e50)]) (fun (zbu : Nat) (z3v : List Sapi_Come) (z4X : Int) (z3w : Int)=>zbu) ⟨yz,z1N,0,20⟩ ⟨h,rfl⟩ (.cons rfl (.cons rfl (.cons rfl (.cons rfl (.cons rfl (.cons rfl .nil)))))) (.cons .here .nil) ?_
    rintro zbu z3v z4X z3w ⟨h,znD⟩
    obtain ⟨zjj,rfl⟩:=y3R h
    rw [yN] at h
    refine WC.b (WC.b (WC.a (WL.pu rfl (WL.pu rfl (WL.pu rfl (WL.nil (WX.a ?_)))))))
    refine WC.cond rfl (fun zjn=>?_) (fun zjn=>?_)
    · replace h:=yl h zjn
      refine WC.skip (WX.a (WC.block (WC.b ?_)))
      obtain ⟨zfF,zte,h⟩:=zh h
      refine WC.a (WL.pu rfl (WL.pu rfl (WL.pu rfl (WL.pu rfl ?_))))
      refine WL.y1L (dd:=18) rfl rfl rfl (zz (l:=[.tmp 14,.tmp 15,.tmp 16,.tmp 17]) Try.call66 (.cons rfl (.cons rfl (.cons rfl (.cons rfl .nil))))) (.cons .here .nil) (cc hz (.cons .here .nil) fun w pz ho=>y2D _ _ _ (z3I:=z2Q) (z4U:=z3m) _ _ _ (z2O:=z1w) _ zte w pz zfH zfI ho) ?_
      rintro  znE
      refine WL.repin (i:=0) rfl (u:=(.slice z1x zfF.length z1y)) (y1F znE.symm) ?_
      refine WL.nil (WX.a (WC.b (WC.a (WL.pu rfl (WL.pu rfl (WL.nil (WX.a (WC.a (WL.pu rfl (WL.pu rfl (WL.pu rfl (WL.pu rfl (WL.nil (WX.yf ?_))))))))))))))
      exact WX.round (G:=Nat × List Sapi_Come × Int × Int) ⟨zjj,zfF,z3w,(i64 (z3w + 20))⟩ ⟨h,(znE.trans znD)⟩ (Nat.lt_succ_self _) (.cons rfl (.cons rfl (.cons rfl (.cons rfl (.cons rfl (.cons rfl .nil)))))) (.cons .here .nil)
    · replace h:=ym h zjn
      refine WC.exit (WX.ye (WX.ye (WX.yA ?_)))
      exact WX.mid (G:=List Sapi_Come × Int) ⟨z3v,z4X⟩ ⟨h,znD⟩ (.cons rfl (.cons rfl (.cons rfl (.cons rfl (.cons rfl .nil))))) (.cons .here .nil)
  · rintro z42 z6F ⟨h,ztf⟩
    replace h:=(ztd z42 z6F).symm.trans h
    refine WC.b ?_
    obtain ⟨zbt,ztg,h⟩:=zh h
    refine WC.a (WL.pu rfl (WL.pu rfl (WL.pu rfl (WL.pu rfl ?_))))
    refine WL.y1L (dd:=27) rfl rfl rfl (zz (l:=[.tmp 23,.tmp 24,.tmp 25,.tmp 26]) Try.call66 (.cons rfl (.cons rfl (.cons rfl (.cons rfl .nil))))) (.cons .here .nil) (cc hz (.cons .here .nil) fun w pz ho=>y2D _ _ _ (z3I:=z2Q) (z4U:=z3m) _ _ _ (z2O:=z1w) _ ztg w pz zfH zfI ho) ?_
    rintro  znF
    refine WL.repin (i:=0) rfl (u:=(.slice z1x zbt.length z1y)) (y1F znF.symm) ?_
    refine WL.nil (WX.a ?_)
    obtain ⟨z5k,zth,h⟩:=y19 h
    refine WC.y54 (fun (z51 : List Sapi_Come)=>(z5k z51 = some r) ∧ (z51.length = z1N.length)) (fun (z51 : List Sapi_Come)=>[]) (fun (z51 : List Sapi_Come)=>[row (.slice z1x z51.length z1y) 50 3 (z51.flatMap e50)]) ?_ ?_
    · skip
      refine WC.block ?_
      refine WC.y2m (fun (zbv : Nat) (z3l : List Sapi_Come) (z1t : Int)=>(yO z11 z1w z5k zbv z3l z1t = some r) ∧ (z3l.length = z1N.length)) (fun (zbv : Nat) (z3l : List Sapi_Come) (z1t : Int)=>[(0,(.slice z1x z3l.length z1y)),(1,(.int .i64 z11)),(2,(.func (.func z2Q) #[] (z3m).toArray)),(6,(.int .i64 z1t))]) (fun (zbv : Nat) (z3l : List Sapi_Come) (z1t : Int)=>[row (.slice z1x z3l.length z1y) 50 3 (z3l.flatMap e50)]) (fun (zbv : Nat) (z3l : List Sapi_Come) (z1t : Int)=>zbv) ⟨yz,zbt,20⟩ ⟨h,(znF.trans ztf)⟩ (.cons rfl (.cons rfl (.cons rfl (.cons rfl .nil)))) (.cons .here .nil) ?_
      rintro zbv z3l z1t ⟨h,znG⟩
      obtain ⟨zjl,rfl⟩:=y3T h
      rw [yO] at h
      refine WC.b (WC.b (WC.a (WL.pu rfl (WL.pu rfl (WL.pu rfl (WL.nil (WX.a ?_)))))))
      refine WC.cond rfl (fun zjo=>?_) (fun zjo=>?_)
      · replace h:=yl h zjo
        refine WC.skip (WX.a ?_)
        obtain ⟨zjm,zti,h⟩:=y19 h
        refine WC.y54 (fun (z4Y : List Sapi_Come)=>(zjm z4Y = some r) ∧ (z4Y.length = z1N.length)) (fun (z4Y : List Sapi_Come)=>[(0,(.slice z1x z4Y.length z1y)),(1,(.int .i64 z11)),(2,(.func (.func z2Q) #[] (z3m).toArray)),(6,(.int .i64 (i64 (z1t * 2))))]) (fun (z4Y : List Sapi_Come)=>[row (.slice z1x z4Y.length z1y) 50 3 (z4Y.flatMap e50)]) ?_ ?_
        · skip
          refine WC.block (WC.b (WC.a (WL.pu rfl (WL.pu rfl (WL.pu rfl (WL.pu rfl (WL.nil (WX.a ?_))))))))
          obtain ⟨z7H,ztj,h⟩:=y2V h
          refine WC.y2w (fun (z3K : List Sapi_Come) (z4Z : Int)=>(z7H z3K z4Z = some r) ∧ (z3K.length = z1N.length)) (fun (z3K : List Sapi_Come) (z4Z : Int)=>[(0,(.slice z1x z3K.length z1y)),(1,(.int .i64 z11)),(2,(.func (.func z2Q) #[] (z3m).toArray)),(6,(.int .i64 z1t)),(7,(.int .i64 z4Z))]) (fun (z3K : List Sapi_Come) (z4Z : Int)=>[row (.slice z1x z3K.length z1y) 50 3 (z3K.flatMap e50)]) ?_ ?_
          · skip
            refine WC.block ?_
            refine WC.y5a (fun (zbw : Nat) (z3j : List Sapi_Come) (z3x : Int) (z3k : Int)=>(yX z11 z1t z1w z7H zbw z3j z3x z3k = some r) ∧ (z3j.length = z1N.length)) (fun (zbw : Nat) (z3j : List Sapi_Come) (z3x : Int) (z3k : Int)=>[(0,(.slice z1x z3j.length z1y)),(1,(.int .i64 z11)),(2,(.func (.func z2Q) #[] (z3m).toArray)),(6,(.int .i64 z1t)),(7,(.int .i64 z3x)),(8,(.int .i64 z3k))]) (fun (zbw : Nat) (z3j : List Sapi_Come) (z3x : Int) (z3k : Int)=>[row (.slice z1x z3j.length z1y) 50 3 (z3j.flatMap e50)]) (fun (zbw : Nat) (z3j : List Sapi_Come) (z3x : Int) (z3k : Int)=>zbw) ⟨yz,z3l,0,(i64 (2 * z1t))⟩ ⟨h,znG⟩ (.cons rfl (.cons rfl (.cons rfl (.cons rfl (.cons rfl (.cons rfl .nil)))))) (.cons .here .nil) ?_
            rintro zbw z3j z3x z3k ⟨h,znH⟩
            obtain ⟨zjk,rfl⟩:=y3S h
            rw [yX] at h
            refine WC.b (WC.b (WC.a (WL.pu rfl (WL.pu rfl (WL.pu rfl (WL.nil (WX.a ?_)))))))
            refine WC.cond rfl (fun zjp=>?_) (fun zjp=>?_)
            · replace h:=yl h zjp
              refine WC.skip (WX.a (WC.block (WC.b ?_)))
              obtain ⟨ze3,ztk,h⟩:=zh h
              refine WC.a (WL.pu rfl (WL.pu rfl (WL.pu rfl (WL.pu rfl (WL.pu rfl (WL.pu rfl (WL.pu rfl ?_)))))))
              refine WL.y1L (dd:=43) rfl rfl rfl (zz (l:=[.tmp 36,.tmp 37,.tmp 40,.tmp 41,.tmp 42]) Try.call67 (.cons rfl (.cons rfl (.cons rfl (.cons rfl (.cons rfl .nil)))))) (.cons .here .nil) (cc hz (.cons .here .nil) fun w pz ho=>y34 (Z:=_) (zM:=z1x) (zD:=z1y) (z1o:=z2Q) (z1A:=z3m) (z5:=z3j) (zl:=z3x) (zt:=(i64 (z3x + z1t))) (zx:=z3k) (zS:=z1w) (r:=ze3) w pz zfH zfI ztk ho) ?_
              rintro  znI
              refine WL.repin (i:=0) rfl (u:=(.slice z1x ze3.length z1y)) (y1F znI.symm) ?_
              refine WL.nil (WX.a (WC.b (WC.a (WL.pu rfl (WL.pu rfl (WL.nil (WX.a (WC.a (WL.pu rfl (WL.pu rfl (WL.pu rfl (WL.pu rfl (WL.pu rfl (WL.nil (WX.yf ?_)))))))))))))))
              exact WX.round (G:=Nat × List Sapi_Come × Int × Int) ⟨zjk,ze3,z3k,(i64 (z3k + (i64 (2 * z1t))))⟩ ⟨h,(znI.trans znH)⟩ (Nat.lt_succ_self _) (.cons rfl (.cons rfl (.cons rfl (.cons rfl (.cons rfl (.cons rfl .nil)))))) (.cons .here .nil)
            · replace h:=ym h zjp
              refine WC.exit (WX.ye (WX.ye (WX.yA ?_)))
              exact WX.mid (G:=List Sapi_Come × Int) ⟨z3j,z3x⟩ ⟨h,znH⟩ (.cons rfl (.cons rfl (.cons rfl (.cons rfl (.cons rfl .nil))))) (.cons .here .nil)
          · rintro z3K z4Z ⟨h,znJ⟩
            replace h:=(ztj z3K z4Z).symm.trans h
            obtain ⟨zfG,ztl,h⟩:=y19 h
            refine WC.y1R (fun (z50 : List Sapi_Come)=>(zfG z50 = some r) ∧ (z50.length = z1N.length)) (fun (z50 : List Sapi_Come)=>[(0,(.slice z1x z50.length z1y)),(1,(.int .i64 z11)),(2,(.func (.func z2Q) #[] (z3m).toArray)),(6,(.int .i64 z1t))]) (fun (z50 : List Sapi_Come)=>[row (.slice z1x z50.length z1y) 50 3 (z50.flatMap e50)]) ?_ ?_
            · skip
              refine WC.b (WC.a (WL.pu rfl (WL.pu rfl (WL.pu rfl (WL.pu rfl (WL.nil (WX.a (WC.b (WC.a (WL.pu rfl (WL.pu rfl (WL.pu rfl (WL.nil (WX.a ?_))))))))))))))
              refine WC.cond rfl (fun zjq=>?_) (fun zjq=>?_)
              · replace h:=yl h zjq
                obtain ⟨ze4,ztm,h⟩:=zh h
                refine WC.a (WL.pu rfl (WL.pu rfl (WL.pu rfl (WL.pu rfl (WL.pu rfl ?_)))))
                refine WL.y1L (dd:=60) rfl rfl rfl (zz (l:=[.tmp 55,.tmp 56,.tmp 57,.tmp 58,.tmp 59]) Try.call67 (.cons rfl (.cons rfl (.cons rfl (.cons rfl (.cons rfl .nil)))))) (.cons .here .nil) (cc hz (.cons .here .nil) fun w pz ho=>y34 (Z:=_) (zM:=z1x) (zD:=z1y) (z1o:=z2Q) (z1A:=z3m) (z5:=z3K) (zl:=z4Z) (zt:=(i64 (z4Z + z1t))) (zx:=z11) (zS:=z1w) (r:=ze4) w pz zfH zfI ztm ho) ?_
                rintro  znK
                refine WL.repin (i:=0) rfl (u:=(.slice z1x ze4.length z1y)) (y1F znK.symm) ?_
                refine WL.nil ?_
                exact WX.mid (G:=List Sapi_Come) ze4 ⟨h,(znK.trans znJ)⟩ (.cons rfl (.cons rfl (.cons rfl (.cons rfl .nil)))) (.cons .here .nil)
              · replace h:=ym h zjq
                refine WC.skip ?_
                exact WX.mid (G:=List Sapi_Come) z3K ⟨h,znJ⟩ (.cons rfl (.cons rfl (.cons rfl (.cons rfl .nil)))) (.cons .here .nil)
            · rintro z50 ⟨h,ztn⟩
              replace h:=(ztl z50).symm.trans h
              refine WC.a (WL.pu rfl (WL.pu rfl (WL.pu rfl (WL.nil (WX.yf ?_)))))
              exact WX.mid (G:=List Sapi_Come) z50 ⟨h,ztn⟩ (.cons rfl (.cons rfl (.cons rfl (.cons rfl .nil)))) (.cons .here .nil)
        · rintro z4Y ⟨h,zto⟩
          replace h:=(zti z4Y).symm.trans h
          exact WX.round (G:=Nat × List Sapi_Come × Int) ⟨zjl,z4Y,(i64 (z1t * 2))⟩ ⟨h,zto⟩ (Nat.lt_succ_self _) (.cons rfl (.cons rfl (.cons rfl (.cons rfl .nil)))) (.cons .here .nil)
      · replace h:=ym h zjo
        refine WC.exit (WX.ye (WX.ye (WX.yA ?_)))
        exact WX.mid (G:=List Sapi_Come) z3l ⟨h,znG⟩ .nil (.cons .here .nil)
    · rintro z51 ⟨h,ztp⟩
      replace h:=(zth z51).symm.trans h
      obtain rfl:=Option.some.inj h
      refine WX.y1V Try.results57 .nil (fun w hw=>?_)
      exact ⟨y4h,ztp,hw.sub (.cons .here .nil)⟩
def y16 (z2R : List Sapi_Come) (zbx : Sapi_Come → Sapi_Come → Option Int) : Option (List Sapi_Come) :=
  (y1T z2R ((z2R.length : Nat) : Int) zbx).bind fun zfJ=>some zfJ
set_option maxRecDepth 20000 in
theorem y3I (Z : Zp) (z5l : Option Addr) (z5m : Nat) (z8k : FuncId) (zby : List Value) (z2R : List Sapi_Come) (zbx : Sapi_Come → Sapi_Come → Option Int) (r : List Sapi_Come)
     (h : y16 z2R zbx = some r) (w₀ : World) (hz : PZ (fps [row (.slice z5l z2R.length z5m) 50 3 (z2R.flatMap e50)]) w₀ Z)
     (ztq : ∀ args w,(callFunc z8k args).run Try.prog w = .ok (.enter z8k args) w)
     (ztr : ∀ w : World,PZ [] w Z → ∀ (x0 : Sapi_Come) (x1 : Sapi_Come) (r : Int),zbx x0 x1 = some r → Calls Try.prog z8k (([(.agg #[(.int .i64 x0.fSent),(.int .i64 x0.fNode),(.int .i64 x0.fTime)]),(.agg #[(.int .i64 x1.fSent),(.int .i64 x1.fNode),(.int .i64 x1.fTime)])] : List Value) ++ zby).toArray w fun e w'=>e = .returned (.int .i64 r) ∧ Hp [] w w' [])
    (hown : Hp (fps [row (.slice z5l z2R.length z5m) 50 3 (z2R.flatMap e50)]) w₀ w₀ [row (.slice z5l z2R.length z5m) 50 3 (z2R.flatMap e50)]) :
    Calls Try.prog 42 #[(.slice z5l z2R.length z5m),(.func (.func z8k) #[] (zby).toArray)] w₀ fun e w'=>e = .returned (.tuple #[]) ∧ (r.length = z2R.length) ∧ Hp (fps [row (.slice z5l z2R.length z5m) 50 3 (z2R.flatMap e50)]) w₀ w' [row (.slice z5l r.length z5m) 50 3 (r.flatMap e50)]:=by
  unfold y16 at h
  refine Calls.yk (vs:=[(.slice z5l z2R.length z5m),(.func (.func z8k) #[] (zby).toArray)]) (pre:=[row (.slice z5l z2R.length z5m) 50 3 (z2R.flatMap e50)]) (env:=[(0,(.slice z5l z2R.length z5m)),(1,(.func (.func z8k) #[] (zby).toArray))]) Try.func42 rfl Try.ntmps42 rfl (hown) rfl ?_
  obtain ⟨zfJ,zts,h⟩:=zh h
  refine WC.a (WL.pu rfl (WL.pu rfl ?_))
  refine WL.a (d:=6) rfl rfl rfl (yU Try.underlying36 rfl) ?_
  refine WL.pu rfl ?_
  refine WL.y1L (dd:=8) rfl rfl rfl (zz (l:=[.tmp 4,.tmp 6,.tmp 7]) Try.call57 (.cons rfl (.cons rfl (.cons rfl .nil)))) (.cons .here .nil) (cc hz (.cons .here .nil) fun w pz ho=>y4u _ _ _ (z2Q:=z8k) (z3m:=zby) _ _ (z1w:=zbx) _ zts w pz ztq ztr ho) ?_
  rintro  zjr
  refine WL.repin (i:=0) rfl (u:=(.slice z5l zfJ.length z5m)) (y1F zjr.symm) ?_
  refine WL.repin (i:=5) rfl (u:=(.slice z5l zfJ.length z5m)) (y1F zjr.symm) ?_
  refine WL.nil ?_
  obtain rfl:=Option.some.inj h
  refine WX.y1V Try.results42 .nil (fun w hw=>?_)
  exact ⟨y4h,(zjr.trans rfl),hw.sub (.cons .here .nil)⟩
def y1f (z36 : List Sapi_Come) : Option (List Sapi_Come) :=
  (y16 z36 (fun (y0 : Sapi_Come) (y1 : Sapi_Come)=>y2s y0 y1)).bind fun zjs=>some zjs
set_option maxRecDepth 20000 in
theorem y5j (Z : Zp) (z5n : Option Addr) (z5o : Nat) (z36 : List Sapi_Come) (r : List Sapi_Come)
     (h : y1f z36 = some r) (w₀ : World) (hz : PZ (fps [row (.slice z5n z36.length z5o) 50 3 (z36.flatMap e50)]) w₀ Z)
    (hown : Hp (fps [row (.slice z5n z36.length z5o) 50 3 (z36.flatMap e50)]) w₀ w₀ [row (.slice z5n z36.length z5o) 50 3 (z36.flatMap e50)]) :
    Calls Try.prog 27 #[(.slice z5n z36.length z5o)] w₀ fun e w'=>e = .returned (.slice z5n r.length z5o) ∧ (r.length = z36.length) ∧ Hp (fps [row (.slice z5n z36.length z5o) 50 3 (z36.flatMap e50)]) w₀ w' [row (.slice z5n r.length z5o) 50 3 (r.flatMap e50)]:=by
  unfold y1f at h
  refine Calls.yk (vs:=[(.slice z5n z36.length z5o)]) (pre:=[row (.slice z5n z36.length z5o) 50 3 (z36.flatMap e50)]) (env:=[(0,(.slice z5n z36.length z5o))]) Try.func27 rfl Try.ntmps27 rfl (hown) rfl ?_
  refine WC.b (WC.a (WL.pu rfl (WL.nil (WX.a (WC.b ?_)))))
  obtain ⟨zjs,ztt,h⟩:=zh h
  refine WC.a (WL.pu rfl ?_)
  refine WL.y1L (dd:=4) rfl rfl rfl (zz (l:=[.tmp 3,.func 43]) Try.call42 (.cons rfl (.cons rfl .nil))) (.cons .here .nil) (cc hz (.cons .here .nil) fun w pz ho=>y3I _ _ _ (z8k:=43) (zby:=[]) _ (zbx:=(fun (y0 : Sapi_Come) (y1 : Sapi_Come)=>y2s y0 y1)) _ ztt w pz Try.call43 (fun w' hz' y0 y1  r  hr=>y6L _ _ _ _ hr w' hz' ) ho) ?_
  rintro  znL
  refine WL.repin (i:=0) rfl (u:=(.slice z5n zjs.length z5o)) (y1F znL.symm) ?_
  refine WL.nil (WX.a (WC.b (WC.a (WL.pu rfl (WL.pu rfl (WL.nil (WX.a (WC.ret ?_))))))))
  obtain rfl:=Option.some.inj h
  refine WX.yh Try.results27 (.tmp rfl .nil) (fun w hw=>?_)
  exact ⟨y12 rfl,(znL.trans rfl),hw.sub (.cons .here .nil)⟩
def y2n (zV : List zSt) (z1n : List (List Sapi_Hop)) (zb : Sapi_Config) (z7I : (List Snetwork_event) → Option (List Sapi_Come × List Sapi_Come × Int)) : Nat → Int → (List Snetwork_event) → Option (List Sapi_Come × List Sapi_Come × Int)
  | 0,_,_=>none
  | zjt + 1,z2a,z3n=>if decide (z2a < ((zV.length : Nat) : Int)) then jp1 (fun (z5p : List Snetwork_event)=>y2n zV z1n zb z7I zjt (i64 (z2a + 1)) z5p) fun zfK=>chk ((0 : Int) ≤ z2a ∧ z2a < ((zV.length : Nat) : Int)) (chk ((0 : Int) ≤ ((nth zV z2a).fVL) ∧ ((nth zV z2a).fVL) < ((z1n.length : Nat) : Int)) (if decide ((((nth z1n ((nth zV z2a).fVL)).length : Nat) : Int) > 0) then chk ((0 : Int) ≤ 0 ∧ 0 < (((nth z1n ((nth zV z2a).fVL)).length : Nat) : Int)) ((y2i zb z1n zV ([] : List (Snetwork_exit × Sport_Port)) z3n [] [] ((nth (nth z1n ((nth zV z2a).fVL)) 0).fNode) ((nth zV z2a).fTime) (-1) z2a).bind fun zju=>zfK zju) else zfK z3n)) else z7I z3n
theorem y5Y {n : Nat} {zV : List zSt} {z1n : List (List Sapi_Hop)} {zb : Sapi_Config} {z7I : (List Snetwork_event) → Option (List Sapi_Come × List Sapi_Come × Int)} {z2a : Int} {z3n : List Snetwork_event} {r : List Sapi_Come × List Sapi_Come × Int} (h : y2n zV z1n zb z7I n z2a z3n = some r) : ∃ m,n = m + 1:=by
  cases n with
  | zero=>cases h
  | succ m=>exact ⟨m,rfl⟩
def y2o (zb : Sapi_Config) (z1n : List (List Sapi_Hop)) (zV : List zSt) (z7J : (List Snetwork_event) → (List Sapi_Come) → (List Sapi_Come) → (List (Snetwork_exit × Sport_Port)) → Option (List Sapi_Come × List Sapi_Come × Int)) : Nat → (List Snetwork_event) → (List Sapi_Come) → (List Sapi_Come) → (List (Snetwork_exit × Sport_Port)) → Option (List Sapi_Come × List Sapi_Come × Int)
  | 0,_,_,_,_=>none
  | zjv + 1,z3y,z3L,z3M,z52=>if decide (((z3y.length : Nat) : Int) > 0) then (y2O zb z1n zV z52 z3y z3L z3M).bind fun z7K=>y2o zb z1n zV z7J zjv z7K.1 z7K.2.1 z7K.2.2.1 z7K.2.2.2 else z7J z3y z3L z3M z52
theorem y5Z {n : Nat} {zb : Sapi_Config} {z1n : List (List Sapi_Hop)} {zV : List zSt} {z7J : (List Snetwork_event) → (List Sapi_Come) → (List Sapi_Come) → (List (Snetwork_exit × Sport_Port)) → Option (List Sapi_Come × List Sapi_Come × Int)} {z3y : List Snetwork_event} {z3L : List Sapi_Come} {z3M : List Sapi_Come} {z52 : List (Snetwork_exit × Sport_Port)} {r : List Sapi_Come × List Sapi_Come × Int} (h : y2o zb z1n zV z7J n z3y z3L z3M z52 = some r) : ∃ m,n = m + 1:=by
  cases n with
  | zero=>cases h
  | succ m=>exact ⟨m,rfl⟩
def y27 (zb : Sapi_Config) (zbz : Int) (z1n : List (List Sapi_Hop)) (zV : List zSt) : Option (List Sapi_Come × List Sapi_Come × Int) :=
  (y2Q zb zbz z1n).bind fun znM=>if !znM then some (([] : List Sapi_Come),([] : List Sapi_Come),310) else (y3a zb zV).bind fun znN=>if !znN then some (([] : List Sapi_Come),([] : List Sapi_Come),311) else jp1 (fun (z5q : List Snetwork_event)=>jp4 (fun (z7L : List Snetwork_event) (z6G : List Sapi_Come) (z5r : List Sapi_Come) (z9A : List (Snetwork_exit × Sport_Port))=>(y1f z6G).bind fun znO=>(y1f z5r).bind fun znP=>some (znO,znP,0)) fun z7J=>y2o zb z1n zV z7J yz z5q ([] : List Sapi_Come) ([] : List Sapi_Come) ([] : List (Snetwork_exit × Sport_Port))) fun z7I=>y2n zV z1n zb z7I yz 0 ([] : List Snetwork_event)
set_option maxRecDepth 20000 in
theorem y4X (Z : Zp) (z43 : Option Addr) (z44 : Nat) (z45 : Option Addr) (z46 : Nat) (z47 : Option Addr) (z48 : Nat) (z49 : Option Addr) (z4a : Nat) (z4b : Option Addr) (z4c : Nat) (z4d : Option Addr) (z4e : Nat) (z4f : Option Addr) (z4g : Nat) (z4h : Option Addr) (z4i : Nat) (z4j : Option Addr) (z4k : Nat) (z4l : Option Addr) (z4m : Nat) (zb : Sapi_Config) (zbz : Int) (z1n : List (List Sapi_Hop)) (zV : List zSt) (r : List Sapi_Come × List Sapi_Come × Int)
     (h : y27 zb zbz z1n zV = some r) (w₀ : World) (hz : PZ [] w₀ Z)
     (zfL : ZS Z 4 (y2x Z) z43 z44 zb.fModules)
     (zfM : ZS Z 4 (y2W Z) z45 z46 zb.fChannels)
     (zfN : ZS Z 4 (fun r x=>r = e64 x) z47 z48 zb.fSwitches)
     (zfO : ZS Z 4 (fun r x=>r = e62 x) z49 z4a zb.fLinks)
     (zfP : ZS Z 7 (y2J Z) z4b z4c zb.fVLs)
     (zfQ : ZS Z 5 (fun r x=>r = y2Z x) z4d z4e zb.fHealth)
     (zfR : ZS Z 3 (y2X Z) z4f z4g zb.fCauses)
     (zfS : ZS Z 4 (fun r x=>r = y30 x) z4h z4i zb.fVersions)
     (zfT : ZS Z 1 (p55 Z) z4j z4k z1n)
     (zfU : ZS Z 3 (fun r x=>r = e53 x) z4l z4m zV) :
    Calls Try.prog 12 #[(.agg #[(.slice z43 zb.fModules.length z44),(.slice z45 zb.fChannels.length z46),(.slice z47 zb.fSwitches.length z48),(.slice z49 zb.fLinks.length z4a),(.slice z4b zb.fVLs.length z4c),(.slice z4d zb.fHealth.length z4e),(.slice z4f zb.fCauses.length z4g),(.slice z4h zb.fVersions.length z4i)]),(.int .i64 zbz),(.slice z4j z1n.length z4k),(.slice z4l zV.length z4m)] w₀ fun e w'=>∃ znQ : Option Addr,∃ znR : Nat,∃ znS : Option Addr,∃ znT : Nat,e = .returned (.tuple #[(.slice znQ r.1.length znR),(.slice znS r.2.1.length znT),(.int .i64 r.2.2)]) ∧ True ∧ Hp [] w₀ w' [row (.slice znQ r.1.length znR) 50 3 (r.1.flatMap e50),row (.slice znS r.2.1.length znT) 50 3 (r.2.1.flatMap e50)]:=by
  unfold y27 at h
  refine Calls.yk (vs:=[(.agg #[(.slice z43 zb.fModules.length z44),(.slice z45 zb.fChannels.length z46),(.slice z47 zb.fSwitches.length z48),(.slice z49 zb.fLinks.length z4a),(.slice z4b zb.fVLs.length z4c),(.slice z4d zb.fHealth.length z4e),(.slice z4f zb.fCauses.length z4g),(.slice z4h zb.fVersions.length z4i)]),(.int .i64 zbz),(.slice z4j z1n.length z4k),(.slice z4l zV.length z4m)]) (pre:=[]) (env:=[(0,(.agg #[(.slice z43 zb.fModules.length z44),(.slice z45 zb.fChannels.length z46),(.slice z47 zb.fSwitches.length z48),(.slice z49 zb.fLinks.length z4a),(.slice z4b zb.fVLs.length z4c),(.slice z4d zb.fHealth.length z4e),(.slice z4f zb.fCauses.length z4g),(.slice z4h zb.fVersions.length z4i)])),(1,(.int .i64 zbz)),(2,(.slice z4j z1n.length z4k)),(3,(.slice z4l zV.length z4m))]) Try.func12 rfl Try.ntmps12 rfl (Hp.nil w₀ _) rfl ?_
  refine WC.b (WC.a ?_)
  refine WL.new (dd:=4) rfl rfl rfl (y2g (cs:=[(.slice z43 zb.fModules.length z44),(.slice z45 zb.fChannels.length z46),(.slice z47 zb.fSwitches.length z48),(.slice z49 zb.fLinks.length z4a),(.slice z4b zb.fVLs.length z4c),(.slice z4d zb.fHealth.length z4e),(.slice z4f zb.fCauses.length z4g),(.slice z4h zb.fVersions.length z4i)]) rfl rfl) ?_
  intro ztu _
  refine WL.pu rfl (WL.pu rfl (WL.pu rfl (WL.nil (WX.a (WC.b (WC.block (WC.b ?_)))))))
  obtain ⟨znM,ztv,h⟩:=zh h
  refine WC.a ?_
  refine WL.a (d:=16) rfl rfl rfl (yD y1t rfl (y1h .here) rfl) ?_
  refine WL.pu rfl (WL.pu rfl ?_)
  refine WL.b (dd:=19) rfl rfl rfl (zz (l:=[.tmp 16,.tmp 17,.tmp 18]) Try.call15 (.cons rfl (.cons rfl (.cons rfl .nil)))) .nil (cc hz .nil fun w pz ho=>y5s _ _ _ _ _ _ _ _ _ _ _ _ _ _ _ _ _ _ _ _ _ _ _ ztv w pz zfL zfM zfN zfO zfP zfQ zfR zfS zfT) ?_
  refine WL.pu rfl (WL.pu rfl (WL.nil (WX.a ?_)))
  refine WC.cond rfl (fun zjw=>?_) (fun zjw=>?_)
  · replace h:=yl h zjw
    refine WC.b (WC.a (WL.pu rfl (WL.pu rfl (WL.pu rfl (WL.nil (WX.a (WC.ret (WX.yL (WX.yj ?_)))))))))
    refine WX.nilRow 50 3 ?_
    refine WX.nilRow 50 3 ?_
    obtain rfl:=Option.some.inj h
    refine WX.yh Try.results12 (.tmp rfl (.tmp rfl (.tmp rfl .nil))) (fun w hw=>?_)
    exact ⟨none,0,none,0,ret3 rfl rfl rfl,trivial,hw.sub (.cons .h1 (.cons .here .nil))⟩
  · replace h:=ym h zjw
    refine WC.b ?_
    obtain ⟨znN,ztw,h⟩:=zh h
    refine WC.a ?_
    refine WL.a (d:=22) rfl rfl rfl (yD y1t rfl (y1h .here) rfl) ?_
    refine WL.pu rfl ?_
    refine WL.b (dd:=24) rfl rfl rfl (zz (l:=[.tmp 22,.tmp 23]) Try.call24 (.cons rfl (.cons rfl .nil))) .nil (cc hz .nil fun w pz ho=>y7h _ _ _ _ _ _ _ _ _ _ _ _ _ _ _ _ _ _ _ _ _ _ ztw w pz zfL zfM zfN zfO zfP zfQ zfR zfS zfU) ?_
    refine WL.pu rfl (WL.pu rfl (WL.nil (WX.a ?_)))
    refine WC.cond rfl (fun zjx=>?_) (fun zjx=>?_)
    · replace h:=yl h zjx
      refine WC.b (WC.a (WL.pu rfl (WL.pu rfl (WL.pu rfl (WL.nil (WX.a (WC.ret (WX.yL (WX.yj ?_)))))))))
      refine WX.nilRow 50 3 ?_
      refine WX.nilRow 50 3 ?_
      obtain rfl:=Option.some.inj h
      refine WX.yh Try.results12 (.tmp rfl (.tmp rfl (.tmp rfl .nil))) (fun w hw=>?_)
      exact ⟨none,0,none,0,ret3 rfl rfl rfl,trivial,hw.sub (.cons .h1 (.cons .here .nil))⟩
    · replace h:=ym h zjx
      refine WC.skip (WX.yf (WX.a (WC.b (WC.a ?_))))
      refine WL.a (d:=26) rfl rfl rfl (yD y1t rfl (y1h .here) rfl) ?_
      refine WL.pu rfl (WL.pu rfl ?_)
      refine WL.new (dd:=29) rfl rfl rfl (y8d (fun x=>Value.agg (y1S x).toArray) Value.pointer) ?_
      intro z4n _
      refine WL.ghL (M:=[y1l z12 ([] : List (Snetwork_exit × ((Nat × (Option Addr × Nat)) × Sport_Port))),y1e z4n (fun x=>Value.agg (y1S x).toArray) Value.pointer (y1n ([] : List (Snetwork_exit × ((Nat × (Option Addr × Nat)) × Sport_Port)))),stb ztu 31 [(.slice z43 zb.fModules.length z44),(.slice z45 zb.fChannels.length z46),(.slice z47 zb.fSwitches.length z48),(.slice z49 zb.fLinks.length z4a),(.slice z4b zb.fVLs.length z4c),(.slice z4d zb.fHealth.length z4e),(.slice z4f zb.fCauses.length z4g),(.slice z4h zb.fVersions.length z4i)]]) (fun _ h=>Hp.y9C z12 h) ?_
      refine WL.a (d:=30) rfl rfl rfl (y1D (v:=(.agg #[(.slice z43 zb.fModules.length z44),(.slice z45 zb.fChannels.length z46),(.slice z47 zb.fSwitches.length z48),(.slice z49 zb.fLinks.length z4a),(.slice z4b zb.fVLs.length z4c),(.slice z4d zb.fHealth.length z4e),(.slice z4f zb.fCauses.length z4g),(.slice z4h zb.fVersions.length z4i),(.slice z4j z1n.length z4k),(.slice z4l zV.length z4m),(.map (some z4n)),(.slice none 0 0),(.slice none 0 0),(.slice none 0 0)])) (Eos.parts (l:=[.tmp 26,.tmp 27,.tmp 28,.tmp 29]) (.cons rfl (.cons rfl (.cons rfl (.cons rfl .nil)))) [0,1,2,3]) (fun _=>by kernel_rfl)) ?_
      refine WL.new (dd:=31) rfl rfl rfl (y2g (cs:=[(.slice z43 zb.fModules.length z44),(.slice z45 zb.fChannels.length z46),(.slice z47 zb.fSwitches.length z48),(.slice z49 zb.fLinks.length z4a),(.slice z4b zb.fVLs.length z4c),(.slice z4d zb.fHealth.length z4e),(.slice z4f zb.fCauses.length z4g),(.slice z4h zb.fVersions.length z4i),(.slice z4j z1n.length z4k),(.slice z4l zV.length z4m),(.map (some z4n)),(.slice none 0 0),(.slice none 0 0),(.slice none 0 0)]) rfl rfl) ?_
      intro z5s _
      refine WL.pu rfl (WL.nil (WX.a ?_))
      obtain ⟨z7I,ztx,h⟩:=y19 h
      refine WC.y4e (fun (z5q : List Snetwork_event) (zbA : Option Addr) (zbB : Nat)=>(z7I z5q = some r)) (fun (z5q : List Snetwork_event) (zbA : Option Addr) (zbB : Nat)=>[(11,(.pointer (some ⟨z5s,0,none⟩)))]) (fun (z5q : List Snetwork_event) (zbA : Option Addr) (zbB : Nat)=>[stb z5s 81 [(.slice z43 zb.fModules.length z44),(.slice z45 zb.fChannels.length z46),(.slice z47 zb.fSwitches.length z48),(.slice z49 zb.fLinks.length z4a),(.slice z4b zb.fVLs.length z4c),(.slice z4d zb.fHealth.length z4e),(.slice z4f zb.fCauses.length z4g),(.slice z4h zb.fVersions.length z4i),(.slice z4j z1n.length z4k),(.slice z4l zV.length z4m),(.map (some z4n)),(.slice zbA z5q.length zbB),(.slice none 0 0),(.slice none 0 0)],row (.slice zbA z5q.length zbB) 113 7 (z5q.flatMap yx),y1e z4n (fun x=>Value.agg (y1S x).toArray) Value.pointer (y1n ([] : List (Snetwork_exit × ((Nat × (Option Addr × Nat)) × Sport_Port)))),y1l z12 ([] : List (Snetwork_exit × ((Nat × (Option Addr × Nat)) × Sport_Port)))]) ?_ ?_
      · skip
        refine WC.b (WC.a (WL.pu rfl ?_))
        refine WL.a (d:=33) rfl rfl rfl (yU Try.underlying33 rfl) ?_
        refine WL.pu rfl (WL.nil (WX.a (WC.block ?_)))
        refine WC.nilRow 113 7 ?_
        refine WC.y7b (fun (zbC : Nat) (z2a : Int) (z3n : List Snetwork_event) (z8l : Option Addr) (z8m : Nat)=>(y2n zV z1n zb z7I zbC z2a z3n = some r)) (fun (zbC : Nat) (z2a : Int) (z3n : List Snetwork_event) (z8l : Option Addr) (z8m : Nat)=>[(2,(.slice z4j z1n.length z4k)),(11,(.pointer (some ⟨z5s,0,none⟩))),(32,(.slice z4l zV.length z4m)),(33,(.int .i64 ((zV.length : Nat) : Int))),(34,(.int .i64 z2a))]) (fun (zbC : Nat) (z2a : Int) (z3n : List Snetwork_event) (z8l : Option Addr) (z8m : Nat)=>[stb z5s 81 [(.slice z43 zb.fModules.length z44),(.slice z45 zb.fChannels.length z46),(.slice z47 zb.fSwitches.length z48),(.slice z49 zb.fLinks.length z4a),(.slice z4b zb.fVLs.length z4c),(.slice z4d zb.fHealth.length z4e),(.slice z4f zb.fCauses.length z4g),(.slice z4h zb.fVersions.length z4i),(.slice z4j z1n.length z4k),(.slice z4l zV.length z4m),(.map (some z4n)),(.slice z8l z3n.length z8m),(.slice none 0 0),(.slice none 0 0)],row (.slice z8l z3n.length z8m) 113 7 (z3n.flatMap yx),y1e z4n (fun x=>Value.agg (y1S x).toArray) Value.pointer (y1n ([] : List (Snetwork_exit × ((Nat × (Option Addr × Nat)) × Sport_Port)))),y1l z12 ([] : List (Snetwork_exit × ((Nat × (Option Addr × Nat)) × Sport_Port)))]) (fun (zbC : Nat) (z2a : Int) (z3n : List Snetwork_event) (z8l : Option Addr) (z8m : Nat)=>zbC) ⟨yz,0,([] : List Snetwork_event),none,0⟩ h (.cons rfl (.cons rfl (.cons rfl (.cons rfl (.cons rfl .nil))))) (.cons .h1 (.cons .here (.cons .h1 (.cons .here .nil)))) ?_
        rintro zbC z2a z3n z8l z8m h
        obtain ⟨zjt,rfl⟩:=y5Y h
        rw [y2n] at h
        refine WC.b (WC.a (WL.pu rfl (WL.nil (WX.a (WC.b ?_)))))
        refine WC.cond rfl (fun zjy=>?_) (fun zjy=>?_)
        · replace h:=yl h zjy
          refine WC.skip (WX.a ?_)
          obtain ⟨zfK,zty,h⟩:=y19 h
          refine WC.y4e (fun (z5p : List Snetwork_event) (zbD : Option Addr) (zbE : Nat)=>(zfK z5p = some r)) (fun (z5p : List Snetwork_event) (zbD : Option Addr) (zbE : Nat)=>[(2,(.slice z4j z1n.length z4k)),(11,(.pointer (some ⟨z5s,0,none⟩))),(32,(.slice z4l zV.length z4m)),(33,(.int .i64 ((zV.length : Nat) : Int))),(34,(.int .i64 z2a))]) (fun (z5p : List Snetwork_event) (zbD : Option Addr) (zbE : Nat)=>[stb z5s 81 [(.slice z43 zb.fModules.length z44),(.slice z45 zb.fChannels.length z46),(.slice z47 zb.fSwitches.length z48),(.slice z49 zb.fLinks.length z4a),(.slice z4b zb.fVLs.length z4c),(.slice z4d zb.fHealth.length z4e),(.slice z4f zb.fCauses.length z4g),(.slice z4h zb.fVersions.length z4i),(.slice z4j z1n.length z4k),(.slice z4l zV.length z4m),(.map (some z4n)),(.slice zbD z5p.length zbE),(.slice none 0 0),(.slice none 0 0)],row (.slice zbD z5p.length zbE) 113 7 (z5p.flatMap yx),y1e z4n (fun x=>Value.agg (y1S x).toArray) Value.pointer (y1n ([] : List (Snetwork_exit × ((Nat × (Option Addr × Nat)) × Sport_Port)))),y1l z12 ([] : List (Snetwork_exit × ((Nat × (Option Addr × Nat)) × Sport_Port)))]) ?_ ?_
          · skip
            refine WC.block (WC.b ?_)
            obtain ⟨ztz,h⟩:=yi h
            refine WC.a (WL.pu rfl ?_)
            refine WL.znth (dd:=37) rfl rfl (Z:=Z) (Pr:=(fun r x=>r = e53 x)) y4y rfl rfl zfU ztz ?_
            rintro zxX zxY ztA zxZ rfl
            refine WL.a (d:=38) rfl rfl rfl (yD y6V rfl (y3t hz.pv ztA) rfl) ?_
            refine WL.new (dd:=13) rfl rfl rfl (y1U (cs:=[(.int .i64 0),(.int .i64 0),(.int .i64 0)]) y6d rfl) ?_
            intro zy0 _
            refine WL.pu rfl ?_
            refine WL.y1r rfl rfl (y1K y6W rfl rfl rfl .here rfl rfl rfl) ?_
            refine WL.nil (WX.a (WC.b ?_))
            obtain ⟨ztB,h⟩:=yi h
            refine WC.a (WL.pu rfl ?_)
            refine WL.a (d:=40) rfl rfl rfl (ya y4J rfl rfl) ?_
            refine WL.a (d:=41) rfl rfl rfl (yb yg rfl (yc .here rfl)) ?_
            refine WL.znth (dd:=42) rfl rfl (Z:=Z) (Pr:=(p55 Z)) y5K rfl rfl zfT ztB ?_
            rintro zy1 zy2 ztC zy3 ⟨zy4,zy5,rfl,ztD⟩
            refine WL.a (d:=43) rfl rfl rfl (yb y5L rfl (rd_z hz.pv ztC rfl)) ?_
            refine WL.pu rfl (WL.nil (WX.a (WC.b (WC.a (WL.pu rfl ?_)))))
            refine WL.a (d:=45) rfl rfl rfl (yU Try.underlying55 rfl) ?_
            refine WL.pu rfl (WL.nil (WX.a ?_))
            refine WC.cond rfl (fun zjz=>?_) (fun zjz=>?_)
            · replace h:=yl h zjz
              obtain ⟨ztE,h⟩:=yi h
              obtain ⟨zju,ztF,h⟩:=zh h
              refine WC.yV (fun i=>[8].contains i) [] rfl ?_
              refine WD.a (i:=0) (d:=47) (by kernel_rfl) rfl (z2 (by kernel_rfl)) (z3 (by kernel_rfl)) rfl rfl rfl (fun _=>q_m rfl) ?_
              refine WD.a (i:=1) (d:=48) (by kernel_rfl) rfl (z2 (by kernel_rfl)) (z3 (by kernel_rfl)) rfl rfl rfl (fun _=>q_m rfl) ?_
              refine WD.znth (j:=2) (dd:=49) (by kernel_rfl) rfl (z2 (by kernel_rfl)) (z3 (by kernel_rfl)) rfl rfl (Z:=Z) (Pr:=(fun r x=>r = e59 x)) y5M rfl rfl ztD ztE ?_
              rintro zy6 zy7 ztG zy8 rfl
              refine WD.a (i:=3) (d:=50) (by kernel_rfl) rfl (z2 (by kernel_rfl)) (z3 (by kernel_rfl)) rfl rfl rfl (fun _=>ya y3v rfl rfl) ?_
              refine WD.e (i:=4) (d:=51) (by kernel_rfl) rfl (z2 (by kernel_rfl)) (z3 (by kernel_rfl)) rfl rfl rfl (yb yg rfl (y2b hz.pv ztG rfl)) ?_
              refine WD.a (i:=5) (d:=52) (by kernel_rfl) rfl (z2 (by kernel_rfl)) (z3 (by kernel_rfl)) rfl rfl rfl (fun _=>ya y4f rfl rfl) ?_
              refine WD.e (i:=6) (d:=53) (by kernel_rfl) rfl (z2 (by kernel_rfl)) (z3 (by kernel_rfl)) rfl rfl rfl (yb yg rfl (yc .here rfl)) ?_
              refine WD.a (i:=7) (d:=54) (by kernel_rfl) rfl (z2 (by kernel_rfl)) (z3 (by kernel_rfl)) rfl rfl rfl (fun _=>q_m rfl) ?_
              refine WD.call2 (i:=8) (dd:=55) rfl (by kernel_rfl) rfl rfl rfl (.inl ⟨rfl,fun _ _=>(Sin.of .nil)⟩) (zz (l:=[.tmp 47,.tmp 51,.tmp 53,.const (.int .i64 (-1)),.tmp 54]) Try.call25 (.cons rfl (.cons rfl (.cons rfl (.cons rfl (.cons rfl .nil)))))) (.cons .h1 (.cons .h2 (.cons .h2 (.cons .h1 .nil)))) (cc hz (.cons .h1 (.cons .h2 (.cons .h2 (.cons .h1 .nil)))) fun w pz ho=>y4F _ _ _ _ _ _ _ _ _ _ _ _ _ _ _ _ _ _ _ _ _ _ _ _ _ _ _ _ _ _ _ _ _ _ _ _ _ _ _ _ _ _ ztF w pz zfL zfM zfN zfO zfP zfQ zfR zfS zfT zfU rfl (ZS.nil _ _ _) (ZS.nil _ _ _) ho) ?_
              rintro ztH ztI _
              refine WD.done (by kernel_rfl) ?_
              refine WX.yf ?_
              exact WX.mid (G:=List Snetwork_event × Option Addr × Nat) ⟨zju,ztH,ztI⟩ h (.cons rfl (.cons rfl (.cons rfl (.cons rfl (.cons rfl .nil))))) (.cons .here (.cons .here (.cons .here (.cons .here .nil))))
            · replace h:=ym h zjz
              refine WC.skip (WX.yf ?_)
              exact WX.mid (G:=List Snetwork_event × Option Addr × Nat) ⟨z3n,z8l,z8m⟩ h (.cons rfl (.cons rfl (.cons rfl (.cons rfl (.cons rfl .nil))))) (.cons .h1 (.cons .h1 (.cons .h1 (.cons .h1 .nil))))
          · rintro z5p zbD zbE h
            replace h:=(zty z5p).symm.trans h
            refine WC.a (WL.pu rfl (WL.pu rfl (WL.nil ?_)))
            exact WX.round (G:=Nat × Int × List Snetwork_event × Option Addr × Nat) ⟨zjt,(i64 (z2a + 1)),z5p,zbD,zbE⟩ h (Nat.lt_succ_self _) (.cons rfl (.cons rfl (.cons rfl (.cons rfl (.cons rfl .nil))))) (.cons .here (.cons .here (.cons .here (.cons .here .nil))))
        · replace h:=ym h zjy
          refine WC.exit (WX.ye (WX.ye (WX.yA ?_)))
          exact WX.mid (G:=List Snetwork_event × Option Addr × Nat) ⟨z3n,z8l,z8m⟩ h (.cons rfl .nil) (.cons .here (.cons .here (.cons .here (.cons .here .nil))))
      · rintro z5q zbA zbB h
        replace h:=(ztx z5q).symm.trans h
        obtain ⟨z7J,ztJ,h⟩:=jp4_elim h
        refine WC.y91 (fun (z7L : List Snetwork_event) (z6G : List Sapi_Come) (z5r : List Sapi_Come) (z9A : List (Snetwork_exit × Sport_Port)) (ze5 : Option Addr) (ze6 : Nat) (zbF : Option Addr) (zbG : Nat) (z9B : Option Addr) (z9C : Nat) (zbH : List (Snetwork_exit × ((Nat × (Option Addr × Nat)) × Sport_Port)))=>(z7J z7L z6G z5r z9A = some r) ∧ (dat zbH = z9A)) (fun (z7L : List Snetwork_event) (z6G : List Sapi_Come) (z5r : List Sapi_Come) (z9A : List (Snetwork_exit × Sport_Port)) (ze5 : Option Addr) (ze6 : Nat) (zbF : Option Addr) (zbG : Nat) (z9B : Option Addr) (z9C : Nat) (zbH : List (Snetwork_exit × ((Nat × (Option Addr × Nat)) × Sport_Port)))=>[(11,(.pointer (some ⟨z5s,0,none⟩)))]) (fun (z7L : List Snetwork_event) (z6G : List Sapi_Come) (z5r : List Sapi_Come) (z9A : List (Snetwork_exit × Sport_Port)) (ze5 : Option Addr) (ze6 : Nat) (zbF : Option Addr) (zbG : Nat) (z9B : Option Addr) (z9C : Nat) (zbH : List (Snetwork_exit × ((Nat × (Option Addr × Nat)) × Sport_Port)))=>[stb z5s 81 [(.slice z43 zb.fModules.length z44),(.slice z45 zb.fChannels.length z46),(.slice z47 zb.fSwitches.length z48),(.slice z49 zb.fLinks.length z4a),(.slice z4b zb.fVLs.length z4c),(.slice z4d zb.fHealth.length z4e),(.slice z4f zb.fCauses.length z4g),(.slice z4h zb.fVersions.length z4i),(.slice z4j z1n.length z4k),(.slice z4l zV.length z4m),(.map (some z4n)),(.slice ze5 z7L.length ze6),(.slice zbF z6G.length zbG),(.slice z9B z5r.length z9C)],row (.slice ze5 z7L.length ze6) 113 7 (z7L.flatMap yx),row (.slice zbF z6G.length zbG) 50 3 (z6G.flatMap e50),row (.slice z9B z5r.length z9C) 50 3 (z5r.flatMap e50),y1e z4n (fun x=>Value.agg (y1S x).toArray) Value.pointer (y1n zbH),y1l z12 zbH]) ?_ ?_
        · skip
          refine WC.block ?_
          refine WC.nilRow 50 3 ?_
          refine WC.nilRow 50 3 ?_
          refine WC.y9N (fun (zbI : Nat) (z3y : List Snetwork_event) (z3L : List Sapi_Come) (z3M : List Sapi_Come) (z52 : List (Snetwork_exit × Sport_Port)) (z9D : Option Addr) (z9E : Nat) (z9F : Option Addr) (z9G : Nat) (z9H : Option Addr) (z9I : Nat) (z8n : List (Snetwork_exit × ((Nat × (Option Addr × Nat)) × Sport_Port)))=>(y2o zb z1n zV z7J zbI z3y z3L z3M z52 = some r) ∧ (dat z8n = z52)) (fun (zbI : Nat) (z3y : List Snetwork_event) (z3L : List Sapi_Come) (z3M : List Sapi_Come) (z52 : List (Snetwork_exit × Sport_Port)) (z9D : Option Addr) (z9E : Nat) (z9F : Option Addr) (z9G : Nat) (z9H : Option Addr) (z9I : Nat) (z8n : List (Snetwork_exit × ((Nat × (Option Addr × Nat)) × Sport_Port)))=>[(11,(.pointer (some ⟨z5s,0,none⟩)))]) (fun (zbI : Nat) (z3y : List Snetwork_event) (z3L : List Sapi_Come) (z3M : List Sapi_Come) (z52 : List (Snetwork_exit × Sport_Port)) (z9D : Option Addr) (z9E : Nat) (z9F : Option Addr) (z9G : Nat) (z9H : Option Addr) (z9I : Nat) (z8n : List (Snetwork_exit × ((Nat × (Option Addr × Nat)) × Sport_Port)))=>[stb z5s 81 [(.slice z43 zb.fModules.length z44),(.slice z45 zb.fChannels.length z46),(.slice z47 zb.fSwitches.length z48),(.slice z49 zb.fLinks.length z4a),(.slice z4b zb.fVLs.length z4c),(.slice z4d zb.fHealth.length z4e),(.slice z4f zb.fCauses.length z4g),(.slice z4h zb.fVersions.length z4i),(.slice z4j z1n.length z4k),(.slice z4l zV.length z4m),(.map (some z4n)),(.slice z9D z3y.length z9E),(.slice z9F z3L.length z9G),(.slice z9H z3M.length z9I)],row (.slice z9D z3y.length z9E) 113 7 (z3y.flatMap yx),row (.slice z9F z3L.length z9G) 50 3 (z3L.flatMap e50),row (.slice z9H z3M.length z9I) 50 3 (z3M.flatMap e50),y1e z4n (fun x=>Value.agg (y1S x).toArray) Value.pointer (y1n z8n),y1l z12 z8n]) (fun (zbI : Nat) (z3y : List Snetwork_event) (z3L : List Sapi_Come) (z3M : List Sapi_Come) (z52 : List (Snetwork_exit × Sport_Port)) (z9D : Option Addr) (z9E : Nat) (z9F : Option Addr) (z9G : Nat) (z9H : Option Addr) (z9I : Nat) (z8n : List (Snetwork_exit × ((Nat × (Option Addr × Nat)) × Sport_Port)))=>zbI) ⟨yz,z5q,([] : List Sapi_Come),([] : List Sapi_Come),([] : List (Snetwork_exit × Sport_Port)),zbA,zbB,none,0,none,0,([] : List (Snetwork_exit × ((Nat × (Option Addr × Nat)) × Sport_Port)))⟩ ⟨h,rfl⟩ (.cons rfl .nil) (.cons .h2 (.cons .h2 (.cons .h1 (.cons .here (.cons .here (.cons .here .nil)))))) ?_
          rintro zbI z3y z3L z3M z52 z9D z9E z9F z9G z9H z9I z8n ⟨h,znU⟩
          obtain ⟨zjv,rfl⟩:=y5Z h
          rw [y2o] at h
          refine WC.b (WC.b (WC.a (WL.pu rfl ?_)))
          refine WL.a (d:=58) rfl rfl rfl (yt rfl) ?_
          refine WL.a (d:=59) rfl rfl rfl (ya y7Q rfl rfl) ?_
          refine WL.a (d:=60) rfl rfl rfl (yb y55 rfl (yc .here rfl)) ?_
          refine WL.a (d:=61) rfl rfl rfl (yU Try.underlying79 rfl) ?_
          refine WL.pu rfl (WL.nil (WX.a ?_))
          refine WC.cond rfl (fun zjA=>?_) (fun zjA=>?_)
          · replace h:=yl h zjA
            refine WC.skip (WX.a (WC.block ?_))
            obtain ⟨z7K,ztK,h⟩:=zh h
            refine WC.a (WL.pu rfl ?_)
            refine WL.y9M (dd:=64) rfl rfl rfl (zz (l:=[.tmp 63]) Try.call26 (.cons rfl .nil)) (.cons .here (.cons .h3 (.cons .h3 (.cons .here (.cons .here (.cons .here .nil)))))) (cc hz (.cons .here (.cons .h3 (.cons .h3 (.cons .here (.cons .here (.cons .here .nil)))))) fun w pz ho=>y6K _ _ _ _ _ _ _ _ _ _ _ _ _ _ _ _ _ _ _ _ _ _ _ _ _ _ _ _ _ _ _ _ _ _ _ _ _ _ ztK w pz zfL zfM zfN zfO zfP zfQ zfR zfS zfT zfU znU ho) ?_
            rintro ztL ztM ztN ztO ztP ztQ ztR ztS
            refine WL.nil (WX.yf ?_)
            exact WX.round (G:=Nat × List Snetwork_event × List Sapi_Come × List Sapi_Come × (List (Snetwork_exit × Sport_Port)) × Option Addr × Nat × Option Addr × Nat × Option Addr × Nat × (List (Snetwork_exit × ((Nat × (Option Addr × Nat)) × Sport_Port)))) ⟨zjv,z7K.1,z7K.2.1,z7K.2.2.1,z7K.2.2.2,ztL,ztM,ztN,ztO,ztP,ztQ,ztR⟩ ⟨h,ztS⟩ (Nat.lt_succ_self _) (.cons rfl .nil) (.cons .here (.cons .here (.cons .here (.cons .here (.cons .here (.cons .here .nil))))))
          · replace h:=ym h zjA
            refine WC.exit (WX.ye (WX.ye (WX.yA ?_)))
            exact WX.mid (G:=List Snetwork_event × List Sapi_Come × List Sapi_Come × (List (Snetwork_exit × Sport_Port)) × Option Addr × Nat × Option Addr × Nat × Option Addr × Nat × (List (Snetwork_exit × ((Nat × (Option Addr × Nat)) × Sport_Port)))) ⟨z3y,z3L,z3M,z52,z9D,z9E,z9F,z9G,z9H,z9I,z8n⟩ ⟨h,znU⟩ (.cons rfl .nil) (.cons .here (.cons .here (.cons .here (.cons .here (.cons .here (.cons .here .nil))))))
        · rintro z7L z6G z5r z9A ze5 ze6 zbF zbG z9B z9C zbH ⟨h,zy9⟩
          replace h:=(ztJ z7L z6G z5r z9A).symm.trans h
          refine WC.b ?_
          obtain ⟨znO,ztT,h⟩:=zh h
          obtain ⟨znP,ztU,h⟩:=zh h
          refine WC.yV (fun i=>[4,9].contains i) [stbp z5s 81 [(13,(.slice z9B z5r.length z9C))]] rfl ?_
          refine WD.a (i:=0) (d:=65) (by kernel_rfl) rfl (z2 (by kernel_rfl)) (z3 (by kernel_rfl)) rfl rfl rfl (fun _=>q_m rfl) ?_
          refine WD.a (i:=1) (d:=66) (by kernel_rfl) rfl (z2 (by kernel_rfl)) (z3 (by kernel_rfl)) rfl rfl rfl (fun _=>yt rfl) ?_
          refine WD.a (i:=2) (d:=67) (by kernel_rfl) rfl (z2 (by kernel_rfl)) (z3 (by kernel_rfl)) rfl rfl rfl (fun _=>ya y7U rfl rfl) ?_
          refine WD.e (i:=3) (d:=68) (by kernel_rfl) rfl (z2 (by kernel_rfl)) (z3 (by kernel_rfl)) rfl rfl rfl (yb y6X rfl (yc .here rfl)) ?_
          refine WD.a (i:=5) (d:=70) (by kernel_rfl) rfl (z2 (by kernel_rfl)) (z3 (by kernel_rfl)) rfl rfl rfl (fun _=>q_m rfl) ?_
          refine WD.a (i:=6) (d:=71) (by kernel_rfl) rfl (z2 (by kernel_rfl)) (z3 (by kernel_rfl)) rfl rfl rfl (fun _=>yt rfl) ?_
          refine WD.a (i:=7) (d:=72) (by kernel_rfl) rfl (z2 (by kernel_rfl)) (z3 (by kernel_rfl)) rfl rfl rfl (fun _=>ya y7T rfl rfl) ?_
          refine WD.stable (i:=8) (d:=73) (by kernel_rfl) rfl (z2 (by kernel_rfl)) (z3 (by kernel_rfl)) rfl rfl rfl (Sin.wk (.cons .here .nil) (.stb (.cons rfl .nil) .nil)) (yb y6X rfl (y5J .here (.head _))) ?_
          refine WD.call0 (i:=4) (dd:=69) rfl (by kernel_rfl) rfl rfl rfl (.inl ⟨rfl,(Sin.wk (.cons .h1 .nil) (.stb (.cons rfl .nil) .nil))⟩) (zz (l:=[.tmp 68]) Try.call27 (.cons rfl .nil)) (.cons .h2 .nil) (cc hz (.cons .h2 .nil) fun w pz ho=>y5j _ _ _ _ _ ztT w pz  ho) ?_
          rintro  zya
          refine WD.call0 (i:=9) (dd:=74) rfl (by kernel_rfl) rfl rfl rfl (.inl ⟨rfl,(Sin.wk (.cons .h2 .nil) (.stb (.cons rfl .nil) .nil))⟩) (zz (l:=[.tmp 73]) Try.call27 (.cons rfl .nil)) (.cons .h3 .nil) (cc hz (.cons .h3 .nil) fun w pz ho=>y5j _ _ _ _ _ ztU w pz  ho) ?_
          rintro  zyb
          refine WD.a (i:=10) (d:=8) (by kernel_rfl) rfl (z2 (by kernel_rfl)) (z3 (by kernel_rfl)) rfl rfl rfl (fun _=>q_z rfl) ?_
          refine WD.a (i:=11) (d:=9) (by kernel_rfl) rfl (z2 (by kernel_rfl)) (z3 (by kernel_rfl)) rfl rfl rfl (fun _=>q_z rfl) ?_
          refine WD.a (i:=12) (d:=10) (by kernel_rfl) rfl (z2 (by kernel_rfl)) (z3 (by kernel_rfl)) rfl rfl rfl (fun _=>q_z rfl) ?_
          refine WD.done (by kernel_rfl) ?_
          refine WX.a (WC.ret ?_)
          obtain rfl:=Option.some.inj h
          refine WX.yh Try.results12 (.tmp rfl (.tmp rfl (.tmp rfl .nil))) (fun w hw=>?_)
          exact ⟨zbF,zbG,z9B,z9C,ret3 rfl rfl rfl,trivial,hw.sub (.cons .h1 (.cons .here .nil))⟩
def y2A (z1Z : List Sapi_Come) (z2g : List Sapi_Come) (z7M : Option Bool) : Nat → Int → Option Bool
  | 0,_=>none
  | zjB + 1,z1F=>if decide (z1F < ((z1Z.length : Nat) : Int)) then chk ((0 : Int) ≤ z1F ∧ z1F < ((z1Z.length : Nat) : Int)) (chk ((0 : Int) ≤ z1F ∧ z1F < ((z2g.length : Nat) : Int)) (if decide ((⟨((nth z1Z z1F).fSent),((nth z1Z z1F).fNode),((nth z1Z z1F).fTime)⟩ : Sapi_Come) ≠ (⟨((nth z2g z1F).fSent),((nth z2g z1F).fNode),((nth z2g z1F).fTime)⟩ : Sapi_Come)) then some false else y2A z1Z z2g z7M zjB (i64 (z1F + 1)))) else z7M
theorem y6j {n : Nat} {z1Z : List Sapi_Come} {z2g : List Sapi_Come} {z7M : Option Bool} {z1F : Int} {r : Bool} (h : y2A z1Z z2g z7M n z1F = some r) : ∃ m,n = m + 1:=by
  cases n with
  | zero=>cases h
  | succ m=>exact ⟨m,rfl⟩
def y3d (z1Z : List Sapi_Come) (z2g : List Sapi_Come) : Option Bool :=
  if decide (((z1Z.length : Nat) : Int) ≠ ((z2g.length : Nat) : Int)) then some false else jp0 (some true) fun z7M=>y2A z1Z z2g z7M yz 0
set_option maxRecDepth 20000 in
theorem y5k (Z : Zp) (ze7 : Option Addr) (ze8 : Nat) (ze9 : Option Addr) (zea : Nat) (z1Z : List Sapi_Come) (z2g : List Sapi_Come) (r : Bool)
     (h : y3d z1Z z2g = some r) (w₀ : World) (hz : PZ [] w₀ Z)
     (ztV : ZS Z 3 (fun r x=>r = e50 x) ze7 ze8 z1Z)
     (ztW : ZS Z 3 (fun r x=>r = e50 x) ze9 zea z2g) :
    Calls Try.prog 14 #[(.slice ze7 z1Z.length ze8),(.slice ze9 z2g.length zea)] w₀ fun e w'=>e = .returned (.bool r) ∧ Hp [] w₀ w' []:=by
  unfold y3d at h
  refine Calls.yk (vs:=[(.slice ze7 z1Z.length ze8),(.slice ze9 z2g.length zea)]) (pre:=[]) (env:=[(0,(.slice ze7 z1Z.length ze8)),(1,(.slice ze9 z2g.length zea))]) Try.func14 rfl Try.ntmps14 rfl (Hp.nil w₀ _) rfl ?_
  refine WC.b (WC.a (WL.pu rfl (WL.nil (WX.a (WC.b (WC.b (WC.a (WL.pu rfl ?_))))))))
  refine WL.a (d:=7) rfl rfl rfl (yU Try.underlying36 rfl) ?_
  refine WL.pu rfl ?_
  refine WL.a (d:=9) rfl rfl rfl (yU Try.underlying36 rfl) ?_
  refine WL.pu rfl (WL.nil (WX.a ?_))
  refine WC.cond rfl (fun zjC=>?_) (fun zjC=>?_)
  · replace h:=yl h zjC
    refine WC.b (WC.a (WL.pu rfl (WL.nil (WX.a (WC.ret (WX.yj ?_))))))
    obtain rfl:=Option.some.inj h
    refine WX.yh Try.results14 (.tmp rfl .nil) (fun w hw=>?_)
    exact ⟨y12 rfl,hw.sub .nil⟩
  · replace h:=ym h zjC
    refine WC.skip (WX.a ?_)
    obtain ⟨z7M,ztX,h⟩:=y2U h
    refine WC.y2v ((z7M = some r)) ([]) ([]) ?_ ?_
    · skip
      refine WC.b (WC.a (WL.pu rfl ?_))
      refine WL.a (d:=12) rfl rfl rfl (yU Try.underlying36 rfl) ?_
      refine WL.pu rfl (WL.nil (WX.a (WC.block ?_)))
      refine WC.y45 (fun (zbJ : Nat) (z1F : Int)=>(y2A z1Z z2g z7M zbJ z1F = some r)) (fun (zbJ : Nat) (z1F : Int)=>[(0,(.slice ze7 z1Z.length ze8)),(1,(.slice ze9 z2g.length zea)),(12,(.int .i64 ((z1Z.length : Nat) : Int))),(13,(.int .i64 z1F))]) (fun (zbJ : Nat) (z1F : Int)=>[]) (fun (zbJ : Nat) (z1F : Int)=>zbJ) ⟨yz,0⟩ h (.cons rfl (.cons rfl (.cons rfl (.cons rfl .nil)))) .nil ?_
      rintro zbJ z1F h
      obtain ⟨zjB,rfl⟩:=y6j h
      rw [y2A] at h
      refine WC.b (WC.a (WL.pu rfl (WL.nil (WX.a (WC.b ?_)))))
      refine WC.cond rfl (fun zjD=>?_) (fun zjD=>?_)
      · replace h:=yl h zjD
        refine WC.skip (WX.a (WC.b (WC.block (WC.b (WC.a (WL.pu rfl (WL.pu rfl (WL.nil (WX.a (WC.b ?_))))))))))
        obtain ⟨ztY,h⟩:=yi h
        obtain ⟨ztZ,h⟩:=yi h
        refine WC.yV (fun i=>[].contains i) [] rfl ?_
        refine WD.a (i:=0) (d:=16) (by kernel_rfl) rfl (z2 (by kernel_rfl)) (z3 (by kernel_rfl)) rfl rfl rfl (fun _=>q_m rfl) ?_
        refine WD.a (i:=1) (d:=17) (by kernel_rfl) rfl (z2 (by kernel_rfl)) (z3 (by kernel_rfl)) rfl rfl rfl (fun _=>q_m rfl) ?_
        refine WD.znth (j:=2) (dd:=18) (by kernel_rfl) rfl (z2 (by kernel_rfl)) (z3 (by kernel_rfl)) rfl rfl (Z:=Z) (Pr:=(fun r x=>r = e50 x)) y1d rfl rfl ztV ztY ?_
        rintro zyc zyd zu0 zye rfl
        refine WD.e (i:=3) (d:=19) (by kernel_rfl) rfl (z2 (by kernel_rfl)) (z3 (by kernel_rfl)) rfl rfl rfl (yD y2h rfl (y3t hz.pv zu0) rfl) ?_
        refine WD.a (i:=4) (d:=20) (by kernel_rfl) rfl (z2 (by kernel_rfl)) (z3 (by kernel_rfl)) rfl rfl rfl (fun _=>q_m rfl) ?_
        refine WD.a (i:=5) (d:=21) (by kernel_rfl) rfl (z2 (by kernel_rfl)) (z3 (by kernel_rfl)) rfl rfl rfl (fun _=>q_m rfl) ?_
        refine WD.znth (j:=6) (dd:=22) (by kernel_rfl) rfl (z2 (by kernel_rfl)) (z3 (by kernel_rfl)) rfl rfl (Z:=Z) (Pr:=(fun r x=>r = e50 x)) y1d rfl rfl ztW ztZ ?_
        rintro zyf zyg zu1 zyh rfl
        refine WD.e (i:=7) (d:=23) (by kernel_rfl) rfl (z2 (by kernel_rfl)) (z3 (by kernel_rfl)) rfl rfl rfl (yD y2h rfl (y3t hz.pv zu1) rfl) ?_
        refine WD.a (i:=8) (d:=24) (by kernel_rfl) rfl (z2 (by kernel_rfl)) (z3 (by kernel_rfl)) rfl rfl rfl (fun _=>q_aggneq (enc:=e50) (a:=(⟨((nth z1Z z1F).fSent),((nth z1Z z1F).fNode),((nth z1Z z1F).fTime)⟩ : Sapi_Come)) (b:=(⟨((nth z2g z1F).fSent),((nth z2g z1F).fNode),((nth z2g z1F).fTime)⟩ : Sapi_Come)) eqT_50 rfl rfl) ?_
        refine WD.done (by kernel_rfl) ?_
        refine WX.a ?_
        refine WC.cond rfl (fun zjE=>?_) (fun zjE=>?_)
        · replace h:=yl h zjE
          refine WC.b (WC.a (WL.pu rfl (WL.nil (WX.a (WC.ret (WX.yL (WX.yj (WX.yj (WX.yL (WX.yj ?_))))))))))
          obtain rfl:=Option.some.inj h
          refine WX.yh Try.results14 (.tmp rfl .nil) (fun w hw=>?_)
          exact ⟨y12 rfl,hw.sub .nil⟩
        · replace h:=ym h zjE
          refine WC.skip (WX.yf (WX.a (WC.a (WL.pu rfl (WL.pu rfl (WL.nil ?_))))))
          exact WX.round (G:=Nat × Int) ⟨zjB,(i64 (z1F + 1))⟩ h (Nat.lt_succ_self _) (.cons rfl (.cons rfl (.cons rfl (.cons rfl .nil)))) .nil
      · replace h:=ym h zjD
        refine WC.exit (WX.ye (WX.ye (WX.yA ?_)))
        exact WX.mid (G:=Unit) () h .nil .nil
    · rintro  h
      replace h:=ztX.symm.trans h
      refine WC.b (WC.a (WL.pu rfl (WL.nil (WX.a (WC.ret ?_)))))
      obtain rfl:=Option.some.inj h
      refine WX.yh Try.results14 (.tmp rfl .nil) (fun w hw=>?_)
      exact ⟨y12 rfl,hw.sub .nil⟩
def y3e (z7N : Option Bool) : Nat → Int → Option Bool
  | 0,_=>none
  | zjF + 1,z2h=>if decide (z2h < ((([1000,50,30] : List Int).length : Nat) : Int)) then chk ((0 : Int) ≤ z2h ∧ z2h < ((([1000,50,30] : List Int).length : Nat) : Int)) ((y4A (nth ([1000,50,30] : List Int) z2h)).bind fun z1p=>(y27 z1p.1 0 z1p.2 ([(⟨0,0,40⟩ : zSt),(⟨10,0,40⟩ : zSt)] : List zSt)).bind fun z2S=>jp2 (fun (z5t : List Sapi_Come) (z5u : List Sapi_Come)=>jp2 (fun (z6H : List Sapi_Come) (z6I : List Sapi_Come)=>(if decide (z2S.2.2 ≠ 0) then some true else (y3d z2S.1 z6H).bind fun znV=>some (!znV)).bind fun zjG=>(if zjG then some true else (y3d z2S.2.1 z6I).bind fun znW=>some (!znW)).bind fun zjH=>(if zjH then some true else (y1B z1p.1).bind fun znX=>some (decide (znX ≠ 3))).bind fun zjI=>(if zjI then some true else (y29 z1p.1 2).bind fun znY=>some (decide (znY ≠ ⟨#[115]⟩))).bind fun zjJ=>if zjJ then some false else y3e z7N zjF (i64 (z2h + 1))) fun zfV=>if decide ((nth ([1000,50,30] : List Int) z2h) = 30) then zfV ([] : List Sapi_Come) ([(⟨0,2,40⟩ : Sapi_Come),(⟨1,2,80⟩ : Sapi_Come)] : List Sapi_Come) else zfV z5t z5u) fun zfW=>if decide ((nth ([1000,50,30] : List Int) z2h) = 50) then chk ((0 : Int) ≤ 1 ∧ 1 ≤ ((([(⟨0,1,96⟩ : Sapi_Come),(⟨1,1,136⟩ : Sapi_Come)] : List Sapi_Come).length : Nat) : Int)) (zfW (([(⟨0,1,96⟩ : Sapi_Come),(⟨1,1,136⟩ : Sapi_Come)] : List Sapi_Come).take (1 : Int).toNat) ([(⟨1,2,80⟩ : Sapi_Come)] : List Sapi_Come)) else zfW ([(⟨0,1,96⟩ : Sapi_Come),(⟨1,1,136⟩ : Sapi_Come)] : List Sapi_Come) ([] : List Sapi_Come)) else z7N
theorem y60 {n : Nat} {z7N : Option Bool} {z2h : Int} {r : Bool} (h : y3e z7N n z2h = some r) : ∃ m,n = m + 1:=by
  cases n with
  | zero=>cases h
  | succ m=>exact ⟨m,rfl⟩
def y3U  : Option Bool :=
  jp0 (some true) fun z7N=>y3e z7N yz 0
set_option maxRecDepth 20000 in
theorem y6u (Z : Zp)  (r : Bool)
     (h : y3U = some r) (w₀ : World) (hz : PZ [] w₀ Z) :
    Calls Try.prog 11 #[] w₀ fun e w'=>∃ Zn : Zp,e = .returned (.bool r) ∧ True ∧ Hp [] w₀ w' [fz Zn]:=by
  unfold y3U at h
  refine Calls.yk (vs:=[]) (pre:=[]) (env:=[]) Try.func11 rfl Try.ntmps11 rfl (Hp.nil w₀ _) rfl ?_
  refine WC.pool (WC.b (WC.a (WL.pu rfl (WL.nil (WX.a (WC.b (WC.a ?_)))))))
  refine WL.a (d:=11) rfl rfl rfl (y1D (v:=(.agg #[(.int .i64 0),(.int .i64 0),(.int .i64 40)])) (Eos.parts (l:=[.const (.int .i64 0),.const (.int .i64 40)]) (.cons rfl (.cons rfl .nil)) [0,2]) (fun _=>by kernel_rfl)) ?_
  refine WL.a (d:=12) rfl rfl rfl (y1D (v:=(.agg #[(.int .i64 10),(.int .i64 0),(.int .i64 40)])) (Eos.parts (l:=[.const (.int .i64 10),.const (.int .i64 40)]) (.cons rfl (.cons rfl .nil)) [0,2]) (fun _=>by kernel_rfl)) ?_
  refine WL.new (dd:=13) rfl rfl rfl (yZ (cs:=([(⟨0,0,40⟩ : zSt),(⟨10,0,40⟩ : zSt)] : List zSt).flatMap e53) y4y (Eos.parts (l:=[.tmp 11,.tmp 12]) (.cons rfl (.cons rfl .nil)) [0,1]) (fun _=>by kernel_rfl) rfl (by unfold maxLen; omega)) ?_
  intro zbK _
  refine WL.pu rfl (WL.nil (WX.a ?_))
  obtain ⟨z7N,zu2,h⟩:=y2U h
  refine WC.y1R (fun (zbL : Zp)=>(z7N = some r) ∧ (Zle (Z ++ []) (Z ++ zbL))) (fun (zbL : Zp)=>[]) (fun (zbL : Zp)=>[fz zbL]) ?_ ?_
  · skip
    refine WC.b (WC.a ?_)
    refine WL.new (dd:=14) rfl rfl rfl (yZ (cs:=([1000,50,30] : List Int).flatMap e3) y5d (Eos.parts (l:=[.const (.int .i64 1000),.const (.int .i64 50),.const (.int .i64 30)]) (.cons rfl (.cons rfl (.cons rfl .nil))) [0,1,2]) (fun _=>by kernel_rfl) rfl (by unfold maxLen; omega)) ?_
    intro zbM _
    refine WL.a (d:=15) rfl rfl rfl (yU Try.underlying56 rfl) ?_
    refine WL.pu rfl (WL.nil (WX.a (WC.block ?_)))
    refine WC.y2m (fun (zbN : Nat) (z2h : Int) (z5v : Zp)=>(y3e z7N zbN z2h = some r) ∧ (Zle (Z ++ []) (Z ++ z5v))) (fun (zbN : Nat) (z2h : Int) (z5v : Zp)=>[(1,(.slice (some ⟨zbK,0,none⟩) (([(⟨0,0,40⟩ : zSt),(⟨10,0,40⟩ : zSt)] : List zSt).length) 2)),(14,(.slice (some ⟨zbM,0,none⟩) (([1000,50,30] : List Int).length) 3)),(15,(.int .i64 ((([1000,50,30] : List Int).length : Nat) : Int))),(16,(.int .i64 z2h))]) (fun (zbN : Nat) (z2h : Int) (z5v : Zp)=>[fz z5v,row (.slice (some ⟨zbK,0,none⟩) (([(⟨0,0,40⟩ : zSt),(⟨10,0,40⟩ : zSt)] : List zSt).length) 2) 53 3 (([(⟨0,0,40⟩ : zSt),(⟨10,0,40⟩ : zSt)] : List zSt).flatMap e53),row (.slice (some ⟨zbM,0,none⟩) (([1000,50,30] : List Int).length) 3) 3 1 (([1000,50,30] : List Int).flatMap e3)]) (fun (zbN : Nat) (z2h : Int) (z5v : Zp)=>zbN) ⟨yz,0,[]⟩ ⟨h,(Zle.refl _)⟩ (.cons rfl (.cons rfl (.cons rfl (.cons rfl .nil)))) (.cons .h2 (.cons .h1 (.cons .here .nil))) ?_
    rintro zbN z2h z5v ⟨h,znZ⟩
    obtain ⟨zjF,rfl⟩:=y60 h
    rw [y3e] at h
    refine WC.b (WC.a (WL.pu rfl (WL.nil (WX.a (WC.b ?_)))))
    refine WC.cond rfl (fun zjK=>?_) (fun zjK=>?_)
    · replace h:=yl h zjK
      refine WC.skip (WX.a (WC.b (WC.block (WC.b ?_))))
      obtain ⟨zfX,h⟩:=yi h
      refine WC.a ?_
      refine WL.a (d:=18) rfl rfl rfl (yr y5d rfl rfl zfX.1 zfX.2 y1c) ?_
      refine WL.a (d:=19) rfl rfl rfl (yb yg rfl (rd_row .h2 ((y1W (enc:=e3) (l:=([1000,50,30] : List Int)) (i:=z2h) (sz:=1) (fun _=>rfl) zfX.1 zfX.2) 0 _ rfl))) ?_
      refine WL.pu rfl (WL.nil (WX.a (WC.b ?_)))
      obtain ⟨z1p,zu3,h⟩:=zh h
      refine WC.a (WL.pu rfl ?_)
      refine WL.y9B (dd:=22) rfl rfl rfl (zz (l:=[.tmp 21]) Try.call23 (.cons rfl .nil)) .nil (ccz hz .nil .here fun w pz ho=>y7z _ _ _ zu3 w pz ) ?_
      rintro zfY zfZ zg0 zo0 zo1 zo2 zg1 zg2 zg3 zg4 zg5 zg6 zo3 zo4 zo5 zo6 zo7 zo8 zo9 zyi zyj zyk ⟨zjL,zjM,zjN,zjO,zjP,zjQ,zu4⟩
      refine WL.merge .here .h5 ?_
      refine WL.pu rfl (WL.pu rfl (WL.pu rfl ?_))
      refine WL.new (dd:=4) rfl rfl rfl (y1U (cs:=[(.slice none 0 0),(.slice none 0 0),(.slice none 0 0),(.slice none 0 0),(.slice none 0 0),(.slice none 0 0),(.slice none 0 0),(.slice none 0 0)]) y4o rfl) ?_
      intro zg7 _
      refine WL.y1r rfl rfl (y1K y5R rfl rfl rfl .here rfl rfl rfl) ?_
      refine WL.pu rfl (WL.nil (WX.a (WC.b ?_)))
      obtain ⟨z2S,zu5,h⟩:=zh h
      refine WC.a ?_
      refine WL.a (d:=26) rfl rfl rfl (yD y1t rfl (y1h .here) rfl) ?_
      refine WL.pu rfl (WL.pu rfl ?_)
      refine WL.y6z (dd:=29) rfl rfl rfl (zz (l:=[.tmp 26,.const (.int .i64 0),.tmp 27,.tmp 28]) Try.call12 (.cons rfl (.cons rfl (.cons rfl (.cons rfl .nil))))) .nil (cclz hz .nil .h1 (.cons .h2 (.cons .h2 (.cons .h2 (.cons .h2 (.cons .h2 (.cons .h2 .nil)))))) fun w pz ho la=>y4X _ _ _ _ _ _ _ _ _ _ _ _ _ _ _ _ _ _ _ _ _ _ _ _ _ _ zu5 w pz (ZA.row (la _ (.head _) _) ((zjL.weak (fun _ _ h=>y1H (Zle.y13 _ _ _) h)).weak (fun _ _ h=>y1H (Zle.left _ _) h)) ⟨w,pz.1⟩) ((((zjM.mono (Zle.y13 _ _ _)).weak (fun _ _ h=>y1M (Zle.y13 _ _ _) h)).mono (Zle.left _ _)).weak (fun _ _ h=>y1M (Zle.left _ _) h)) (ZA.row (la _ (.tail _ (.head _)) _) (RR.y1b (enc:=e64) (fun _=>rfl) _) ⟨w,pz.1⟩) (ZA.row (la _ (.tail _ (.tail _ (.head _))) _) (RR.y1b (enc:=e62) (fun _=>rfl) _) ⟨w,pz.1⟩) (ZA.row (la _ (.tail _ (.tail _ (.tail _ (.head _)))) _) ((zjN.weak (fun _ _ h=>y1I (Zle.y13 _ _ _) h)).weak (fun _ _ h=>y1I (Zle.left _ _) h)) ⟨w,pz.1⟩) ((zjO.mono (Zle.y13 _ _ _)).mono (Zle.left _ _)) ((((zjP.mono (Zle.y13 _ _ _)).weak (fun _ _ h=>y1N (Zle.y13 _ _ _) h)).mono (Zle.left _ _)).weak (fun _ _ h=>y1N (Zle.left _ _) h)) ((zjQ.mono (Zle.y13 _ _ _)).mono (Zle.left _ _)) (ZA.row (la _ (.tail _ (.tail _ (.tail _ (.tail _ (.head _))))) _) ((zu4.weak (fun _ _ h=>y39 (Zle.y13 _ _ _) h)).weak (fun _ _ h=>y39 (Zle.left _ _) h)) ⟨w,pz.1⟩) (ZA.row (la _ (.tail _ (.tail _ (.tail _ (.tail _ (.tail _ (.head _)))))) _) (RR.y1b (enc:=e53) (fun _=>rfl) _) ⟨w,pz.1⟩)) ?_
      rintro zg8 zg9 zga zgb _
      refine WL.pu rfl (WL.pu rfl (WL.pu rfl (WL.pu rfl (WL.pu rfl (WL.pu rfl (WL.pu rfl (WL.nil (WX.a (WC.b (WC.a ?_))))))))))
      refine WL.a (d:=33) rfl rfl rfl (y1D (v:=(.agg #[(.int .i64 0),(.int .i64 1),(.int .i64 96)])) (Eos.parts (l:=[.const (.int .i64 0),.const (.int .i64 1),.const (.int .i64 96)]) (.cons rfl (.cons rfl (.cons rfl .nil))) [0,1,2]) (fun _=>by kernel_rfl)) ?_
      refine WL.a (d:=34) rfl rfl rfl (y1D (v:=(.agg #[(.int .i64 1),(.int .i64 1),(.int .i64 136)])) (Eos.parts (l:=[.const (.int .i64 1),.const (.int .i64 1),.const (.int .i64 136)]) (.cons rfl (.cons rfl (.cons rfl .nil))) [0,1,2]) (fun _=>by kernel_rfl)) ?_
      refine WL.new (dd:=35) rfl rfl rfl (yZ (cs:=([(⟨0,1,96⟩ : Sapi_Come),(⟨1,1,136⟩ : Sapi_Come)] : List Sapi_Come).flatMap e50) y1d (Eos.parts (l:=[.tmp 33,.tmp 34]) (.cons rfl (.cons rfl .nil)) [0,1]) (fun _=>by kernel_rfl) rfl (by unfold maxLen; omega)) ?_
      intro zu6 _
      refine WL.new (dd:=36) rfl rfl rfl (yZ (cs:=([] : List Sapi_Come).flatMap e50) y1d (Eos.parts (l:=[]) .nil []) (fun _=>by kernel_rfl) rfl (by unfold maxLen; omega)) ?_
      intro zu7 _
      refine WL.pu rfl (WL.pu rfl (WL.nil (WX.a ?_)))
      obtain ⟨zfW,zu8,h⟩:=y2V h
      refine WC.y7s (fun (z5t : List Sapi_Come) (z5u : List Sapi_Come) (zbO : Option Addr) (zbP : Nat) (zbQ : Option Addr) (zbR : Nat)=>(zfW z5t z5u = some r)) (fun (z5t : List Sapi_Come) (z5u : List Sapi_Come) (zbO : Option Addr) (zbP : Nat) (zbQ : Option Addr) (zbR : Nat)=>[(1,(.slice (some ⟨zbK,0,none⟩) (([(⟨0,0,40⟩ : zSt),(⟨10,0,40⟩ : zSt)] : List zSt).length) 2)),(3,(.int .i64 (nth ([1000,50,30] : List Int) z2h))),(4,(.pointer (some ⟨zg7,0,none⟩))),(6,(.slice zg8 z2S.1.length zg9)),(7,(.slice zga z2S.2.1.length zgb)),(8,(.int .i64 z2S.2.2)),(9,(.slice zbO z5t.length zbP)),(10,(.slice zbQ z5u.length zbR)),(14,(.slice (some ⟨zbM,0,none⟩) (([1000,50,30] : List Int).length) 3)),(15,(.int .i64 ((([1000,50,30] : List Int).length : Nat) : Int))),(16,(.int .i64 z2h))]) (fun (z5t : List Sapi_Come) (z5u : List Sapi_Come) (zbO : Option Addr) (zbP : Nat) (zbQ : Option Addr) (zbR : Nat)=>[fz (z5v ++ zfY),row (.slice (some ⟨zbK,0,none⟩) (([(⟨0,0,40⟩ : zSt),(⟨10,0,40⟩ : zSt)] : List zSt).length) 2) 53 3 (([(⟨0,0,40⟩ : zSt),(⟨10,0,40⟩ : zSt)] : List zSt).flatMap e53),row (.slice zg8 z2S.1.length zg9) 50 3 (z2S.1.flatMap e50),row (.slice zga z2S.2.1.length zgb) 50 3 (z2S.2.1.flatMap e50),row (.slice zbO z5t.length zbP) 50 3 (z5t.flatMap e50),row (.slice zbQ z5u.length zbR) 50 3 (z5u.flatMap e50),row (.slice (some ⟨zbM,0,none⟩) (([1000,50,30] : List Int).length) 3) 3 1 (([1000,50,30] : List Int).flatMap e3),stb zg7 31 [(.slice zfZ z1p.1.fModules.length zg0),(.slice zo1 z1p.1.fChannels.length zo2),(.slice zg1 z1p.1.fSwitches.length zg2),(.slice zg3 z1p.1.fLinks.length zg4),(.slice zg5 z1p.1.fVLs.length zg6),(.slice zo4 z1p.1.fHealth.length zo5),(.slice zo6 z1p.1.fCauses.length zo7),(.slice zo8 z1p.1.fVersions.length zo9)],row (.slice zfZ z1p.1.fModules.length zg0) 104 4 zo0,row (.slice zg1 z1p.1.fSwitches.length zg2) 64 4 (z1p.1.fSwitches.flatMap e64),row (.slice zg3 z1p.1.fLinks.length zg4) 62 4 (z1p.1.fLinks.flatMap e62),row (.slice zg5 z1p.1.fVLs.length zg6) 109 7 zo3]) ?_ ?_
      · skip
        refine WC.b (WC.a (WL.pu rfl (WL.pu rfl (WL.nil (WX.a ?_)))))
        refine WC.cond rfl (fun zjR=>?_) (fun zjR=>?_)
        · replace h:=yl h zjR
          obtain ⟨zu9,h⟩:=yi h
          refine WC.a (WL.pu rfl ?_)
          refine WL.y6E (dd:=40) (enc:=e50) (ls:=([(⟨0,1,96⟩ : Sapi_Come),(⟨1,1,136⟩ : Sapi_Come)] : List Sapi_Come)) rfl rfl y1d rfl rfl .h1 (fun _=>rfl) zu9 ?_
          intro zua zub
          refine WL.a (d:=41) rfl rfl rfl (y1D (v:=(.agg #[(.int .i64 1),(.int .i64 2),(.int .i64 80)])) (Eos.parts (l:=[.const (.int .i64 1),.const (.int .i64 2),.const (.int .i64 80)]) (.cons rfl (.cons rfl (.cons rfl .nil))) [0,1,2]) (fun _=>by kernel_rfl)) ?_
          refine WL.new (dd:=42) rfl rfl rfl (yZ (cs:=([(⟨1,2,80⟩ : Sapi_Come)] : List Sapi_Come).flatMap e50) y1d (Eos.parts (l:=[.tmp 41]) (.cons rfl .nil) [0]) (fun _=>by kernel_rfl) rfl (by unfold maxLen; omega)) ?_
          intro zuc _
          refine WL.pu rfl (WL.pu rfl (WL.nil ?_))
          exact WX.mid (G:=List Sapi_Come × List Sapi_Come × Option Addr × Nat × Option Addr × Nat) ⟨(([(⟨0,1,96⟩ : Sapi_Come),(⟨1,1,136⟩ : Sapi_Come)] : List Sapi_Come).take (1 : Int).toNat),([(⟨1,2,80⟩ : Sapi_Come)] : List Sapi_Come),zua,zub,(some ⟨zuc,0,none⟩),1⟩ h (.cons rfl (.cons rfl (.cons rfl (.cons rfl (.cons rfl (.cons rfl (.cons rfl (.cons rfl (.cons rfl (.cons rfl (.cons rfl .nil))))))))))) (.cons .h6 (.cons (.there (.there (.there (.there .h7)))) (.cons .h3 (.cons .h3 (.cons .h1 (.cons .here (.cons .h7 (.cons .h1 (.cons .h1 (.cons .h1 (.cons .h1 (.cons .h1 .nil))))))))))))
        · replace h:=ym h zjR
          refine WC.skip ?_
          exact WX.mid (G:=List Sapi_Come × List Sapi_Come × Option Addr × Nat × Option Addr × Nat) ⟨([(⟨0,1,96⟩ : Sapi_Come),(⟨1,1,136⟩ : Sapi_Come)] : List Sapi_Come),([] : List Sapi_Come),(some ⟨zu6,0,none⟩),2,(some ⟨zu7,0,none⟩),0⟩ h (.cons rfl (.cons rfl (.cons rfl (.cons rfl (.cons rfl (.cons rfl (.cons rfl (.cons rfl (.cons rfl (.cons rfl (.cons rfl .nil))))))))))) (.cons .h5 (.cons (.there (.there (.there .h7))) (.cons .h2 (.cons .h2 (.cons .h1 (.cons .here (.cons .h6 (.cons .here (.cons .here (.cons .here (.cons .here (.cons .here .nil))))))))))))
      · rintro z5t z5u zbO zbP zbQ zbR h
        replace h:=(zu8 z5t z5u).symm.trans h
        obtain ⟨zfV,zud,h⟩:=y2V h
        refine WC.y7s (fun (z6H : List Sapi_Come) (z6I : List Sapi_Come) (zeb : Option Addr) (zec : Nat) (zed : Option Addr) (zee : Nat)=>(zfV z6H z6I = some r)) (fun (z6H : List Sapi_Come) (z6I : List Sapi_Come) (zeb : Option Addr) (zec : Nat) (zed : Option Addr) (zee : Nat)=>[(1,(.slice (some ⟨zbK,0,none⟩) (([(⟨0,0,40⟩ : zSt),(⟨10,0,40⟩ : zSt)] : List zSt).length) 2)),(4,(.pointer (some ⟨zg7,0,none⟩))),(6,(.slice zg8 z2S.1.length zg9)),(7,(.slice zga z2S.2.1.length zgb)),(8,(.int .i64 z2S.2.2)),(9,(.slice zeb z6H.length zec)),(10,(.slice zed z6I.length zee)),(14,(.slice (some ⟨zbM,0,none⟩) (([1000,50,30] : List Int).length) 3)),(15,(.int .i64 ((([1000,50,30] : List Int).length : Nat) : Int))),(16,(.int .i64 z2h))]) (fun (z6H : List Sapi_Come) (z6I : List Sapi_Come) (zeb : Option Addr) (zec : Nat) (zed : Option Addr) (zee : Nat)=>[fz (z5v ++ zfY),row (.slice (some ⟨zbK,0,none⟩) (([(⟨0,0,40⟩ : zSt),(⟨10,0,40⟩ : zSt)] : List zSt).length) 2) 53 3 (([(⟨0,0,40⟩ : zSt),(⟨10,0,40⟩ : zSt)] : List zSt).flatMap e53),row (.slice zg8 z2S.1.length zg9) 50 3 (z2S.1.flatMap e50),row (.slice zga z2S.2.1.length zgb) 50 3 (z2S.2.1.flatMap e50),row (.slice zeb z6H.length zec) 50 3 (z6H.flatMap e50),row (.slice zed z6I.length zee) 50 3 (z6I.flatMap e50),row (.slice (some ⟨zbM,0,none⟩) (([1000,50,30] : List Int).length) 3) 3 1 (([1000,50,30] : List Int).flatMap e3),stb zg7 31 [(.slice zfZ z1p.1.fModules.length zg0),(.slice zo1 z1p.1.fChannels.length zo2),(.slice zg1 z1p.1.fSwitches.length zg2),(.slice zg3 z1p.1.fLinks.length zg4),(.slice zg5 z1p.1.fVLs.length zg6),(.slice zo4 z1p.1.fHealth.length zo5),(.slice zo6 z1p.1.fCauses.length zo7),(.slice zo8 z1p.1.fVersions.length zo9)],row (.slice zfZ z1p.1.fModules.length zg0) 104 4 zo0,row (.slice zg1 z1p.1.fSwitches.length zg2) 64 4 (z1p.1.fSwitches.flatMap e64),row (.slice zg3 z1p.1.fLinks.length zg4) 62 4 (z1p.1.fLinks.flatMap e62),row (.slice zg5 z1p.1.fVLs.length zg6) 109 7 zo3]) ?_ ?_
        · skip
          refine WC.b (WC.a (WL.pu rfl (WL.pu rfl (WL.nil (WX.a ?_)))))
          refine WC.cond rfl (fun zjS=>?_) (fun zjS=>?_)
          · replace h:=yl h zjS
            refine WC.a ?_
            refine WL.a (d:=45) rfl rfl rfl (y1D (v:=(.agg #[(.int .i64 0),(.int .i64 2),(.int .i64 40)])) (Eos.parts (l:=[.const (.int .i64 0),.const (.int .i64 2),.const (.int .i64 40)]) (.cons rfl (.cons rfl (.cons rfl .nil))) [0,1,2]) (fun _=>by kernel_rfl)) ?_
            refine WL.a (d:=46) rfl rfl rfl (y1D (v:=(.agg #[(.int .i64 1),(.int .i64 2),(.int .i64 80)])) (Eos.parts (l:=[.const (.int .i64 1),.const (.int .i64 2),.const (.int .i64 80)]) (.cons rfl (.cons rfl (.cons rfl .nil))) [0,1,2]) (fun _=>by kernel_rfl)) ?_
            refine WL.new (dd:=47) rfl rfl rfl (yZ (cs:=([(⟨0,2,40⟩ : Sapi_Come),(⟨1,2,80⟩ : Sapi_Come)] : List Sapi_Come).flatMap e50) y1d (Eos.parts (l:=[.tmp 45,.tmp 46]) (.cons rfl (.cons rfl .nil)) [0,1]) (fun _=>by kernel_rfl) rfl (by unfold maxLen; omega)) ?_
            intro zue _
            refine WL.pu rfl (WL.pu rfl (WL.nil ?_))
            refine WX.nilRow 50 3 ?_
            exact WX.mid (G:=List Sapi_Come × List Sapi_Come × Option Addr × Nat × Option Addr × Nat) ⟨([] : List Sapi_Come),([(⟨0,2,40⟩ : Sapi_Come),(⟨1,2,80⟩ : Sapi_Come)] : List Sapi_Come),none,0,(some ⟨zue,0,none⟩),2⟩ h (.cons rfl (.cons rfl (.cons rfl (.cons rfl (.cons rfl (.cons rfl (.cons rfl (.cons rfl (.cons rfl (.cons rfl .nil)))))))))) (.cons .h2 (.cons .h2 (.cons .h2 (.cons .h2 (.cons .here (.cons .here (.cons .h2 (.cons .h2 (.cons .h2 (.cons .h2 (.cons .h2 (.cons .h2 .nil))))))))))))
          · replace h:=ym h zjS
            refine WC.skip ?_
            exact WX.mid (G:=List Sapi_Come × List Sapi_Come × Option Addr × Nat × Option Addr × Nat) ⟨z5t,z5u,zbO,zbP,zbQ,zbR⟩ h (.cons rfl (.cons rfl (.cons rfl (.cons rfl (.cons rfl (.cons rfl (.cons rfl (.cons rfl (.cons rfl (.cons rfl .nil)))))))))) (.cons .here (.cons .here (.cons .here (.cons .here (.cons .here (.cons .here (.cons .here (.cons .here (.cons .here (.cons .here (.cons .here (.cons .here .nil))))))))))))
        · rintro z6H z6I zeb zec zed zee h
          replace h:=(zud z6H z6I).symm.trans h
          refine WC.b ?_
          obtain ⟨zjG,zoa,h⟩:=zh h
          obtain ⟨zjH,zob,h⟩:=zh h
          obtain ⟨zjI,zoc,h⟩:=zh h
          obtain ⟨zjJ,zod,h⟩:=zh h
          refine WC.a (WL.pu rfl (WL.pu rfl (WL.pu rfl ?_)))
          refine WL.seg false 4 50 (B:=zjG) rfl rfl rfl rfl rfl rfl (fun h=>(Option.some.inj (yl zoa h)).symm) (fun _ zuf=>?_) ?_
          · skip
            have zef:=ym zoa zuf
            obtain ⟨znV,zug,zef⟩:=zh zef
            replace zef:=Option.some.inj zef
            refine WL.pu rfl (WL.pu rfl ?_)
            refine WL.b (dd:=53) rfl rfl rfl (zz (l:=[.tmp 51,.tmp 52]) Try.call14 (.cons rfl (.cons rfl .nil))) .nil (cclz hz .nil .here (.cons .h2 (.cons .h3 .nil)) fun w pz ho la=>y5k _ _ _ _ _ _ _ _ zug w pz (ZA.row (la _ (.head _) _) (RR.y1b (enc:=e50) (fun _=>rfl) _) ⟨w,pz.1⟩) (ZA.row (la _ (.tail _ (.head _)) _) (RR.y1b (enc:=e50) (fun _=>rfl) _) ⟨w,pz.1⟩)) ?_
            refine WL.pu rfl (WL.pu rfl ?_)
            exact WL.ys zef rfl rfl .all
          refine WL.pu rfl ?_
          refine WL.seg false 4 56 (B:=zjH) rfl rfl rfl rfl rfl rfl (fun h=>(Option.some.inj (yl zob h)).symm) (fun _ zuh=>?_) ?_
          · skip
            have zeg:=ym zob zuh
            obtain ⟨znW,zui,zeg⟩:=zh zeg
            replace zeg:=Option.some.inj zeg
            refine WL.pu rfl (WL.pu rfl ?_)
            refine WL.b (dd:=59) rfl rfl rfl (zz (l:=[.tmp 57,.tmp 58]) Try.call14 (.cons rfl (.cons rfl .nil))) .nil (cclz hz .nil .here (.cons .h3 (.cons .h4 .nil)) fun w pz ho la=>y5k _ _ _ _ _ _ _ _ zui w pz (ZA.row (la _ (.head _) _) (RR.y1b (enc:=e50) (fun _=>rfl) _) ⟨w,pz.1⟩) (ZA.row (la _ (.tail _ (.head _)) _) (RR.y1b (enc:=e50) (fun _=>rfl) _) ⟨w,pz.1⟩)) ?_
            refine WL.pu rfl (WL.pu rfl ?_)
            exact WL.ys zeg rfl rfl .all
          refine WL.pu rfl ?_
          refine WL.seg false 3 62 (B:=zjI) rfl rfl rfl rfl rfl rfl (fun h=>(Option.some.inj (yl zoc h)).symm) (fun _ zuj=>?_) ?_
          · skip
            have zeh:=ym zoc zuj
            obtain ⟨znX,zuk,zeh⟩:=zh zeh
            replace zeh:=Option.some.inj zeh
            refine WL.a (d:=63) rfl rfl rfl (yD y1t rfl (y1h .h7) rfl) ?_
            refine WL.b (dd:=64) rfl rfl rfl (zz (l:=[.tmp 63]) Try.call17 (.cons rfl .nil)) .nil (cclz hz .nil .here (.cons (.there .h7) (.cons (.there .h7) (.cons (.there .h7) (.cons (.there .h7) .nil)))) fun w pz ho la=>y4z _ _ _ _ _ _ _ _ _ _ _ _ _ _ _ _ _ _ _ zuk w pz (ZA.row (la _ (.head _) _) ((zjL.weak (fun _ _ h=>y1H (Zle.y13 _ _ _) h)).weak (fun _ _ h=>y1H (Zle.left _ _) h)) ⟨w,pz.1⟩) ((((zjM.mono (Zle.y13 _ _ _)).weak (fun _ _ h=>y1M (Zle.y13 _ _ _) h)).mono (Zle.left _ _)).weak (fun _ _ h=>y1M (Zle.left _ _) h)) (ZA.row (la _ (.tail _ (.head _)) _) (RR.y1b (enc:=e64) (fun _=>rfl) _) ⟨w,pz.1⟩) (ZA.row (la _ (.tail _ (.tail _ (.head _))) _) (RR.y1b (enc:=e62) (fun _=>rfl) _) ⟨w,pz.1⟩) (ZA.row (la _ (.tail _ (.tail _ (.tail _ (.head _)))) _) ((zjN.weak (fun _ _ h=>y1I (Zle.y13 _ _ _) h)).weak (fun _ _ h=>y1I (Zle.left _ _) h)) ⟨w,pz.1⟩) ((zjO.mono (Zle.y13 _ _ _)).mono (Zle.left _ _)) ((((zjP.mono (Zle.y13 _ _ _)).weak (fun _ _ h=>y1N (Zle.y13 _ _ _) h)).mono (Zle.left _ _)).weak (fun _ _ h=>y1N (Zle.left _ _) h)) ((zjQ.mono (Zle.y13 _ _ _)).mono (Zle.left _ _))) ?_
            refine WL.pu rfl (WL.pu rfl ?_)
            exact WL.ys zeh rfl rfl .all
          refine WL.pu rfl ?_
          refine WL.seg false 3 67 (B:=zjJ) rfl rfl rfl rfl rfl rfl (fun h=>(Option.some.inj (yl zod h)).symm) (fun _ zul=>?_) ?_
          · skip
            have zei:=ym zod zul
            obtain ⟨znY,zum,zei⟩:=zh zei
            replace zei:=Option.some.inj zei
            refine WL.a (d:=68) rfl rfl rfl (yD y1t rfl (y1h .h7) rfl) ?_
            refine WL.b (dd:=69) rfl rfl rfl (zz (l:=[.tmp 68,.const (.int .i64 2)]) Try.call18 (.cons rfl (.cons rfl .nil))) .nil (cclz hz .nil .here (.cons (.there .h7) (.cons (.there .h7) (.cons (.there .h7) (.cons (.there .h7) .nil)))) fun w pz ho la=>y5T _ _ _ _ _ _ _ _ _ _ _ _ _ _ _ _ _ _ _ _ zum w pz (ZA.row (la _ (.head _) _) ((zjL.weak (fun _ _ h=>y1H (Zle.y13 _ _ _) h)).weak (fun _ _ h=>y1H (Zle.left _ _) h)) ⟨w,pz.1⟩) ((((zjM.mono (Zle.y13 _ _ _)).weak (fun _ _ h=>y1M (Zle.y13 _ _ _) h)).mono (Zle.left _ _)).weak (fun _ _ h=>y1M (Zle.left _ _) h)) (ZA.row (la _ (.tail _ (.head _)) _) (RR.y1b (enc:=e64) (fun _=>rfl) _) ⟨w,pz.1⟩) (ZA.row (la _ (.tail _ (.tail _ (.head _))) _) (RR.y1b (enc:=e62) (fun _=>rfl) _) ⟨w,pz.1⟩) (ZA.row (la _ (.tail _ (.tail _ (.tail _ (.head _)))) _) ((zjN.weak (fun _ _ h=>y1I (Zle.y13 _ _ _) h)).weak (fun _ _ h=>y1I (Zle.left _ _) h)) ⟨w,pz.1⟩) ((zjO.mono (Zle.y13 _ _ _)).mono (Zle.left _ _)) ((((zjP.mono (Zle.y13 _ _ _)).weak (fun _ _ h=>y1N (Zle.y13 _ _ _) h)).mono (Zle.left _ _)).weak (fun _ _ h=>y1N (Zle.left _ _) h)) ((zjQ.mono (Zle.y13 _ _ _)).mono (Zle.left _ _))) ?_
            refine WL.a (d:=70) rfl rfl rfl (q_sneq rfl rfl) ?_
            refine WL.pu rfl ?_
            exact WL.ys zei rfl rfl .all
          refine WL.nil (WX.a ?_)
          refine WC.cond rfl (fun zjT=>?_) (fun zjT=>?_)
          · replace h:=yl h zjT
            refine WC.b (WC.a (WL.pu rfl (WL.nil (WX.a (WC.ret (WX.yL (WX.yj (WX.yj (WX.yL (WX.yj ?_))))))))))
            obtain rfl:=Option.some.inj h
            refine WX.yh Try.results11 (.tmp rfl .nil) (fun w hw=>?_)
            exact ⟨(z5v ++ zfY),y12 rfl,trivial,hw.sub (.cons .here .nil)⟩
          · replace h:=ym h zjT
            refine WC.skip (WX.yf (WX.a (WC.a (WL.pu rfl (WL.pu rfl (WL.nil ?_))))))
            exact WX.round (G:=Nat × Int × Zp) ⟨zjF,(i64 (z2h + 1)),(z5v ++ zfY)⟩ ⟨h,(znZ.trans ((Zle.left _ _).trans (Zle.y13 _ _ _)))⟩ (Nat.lt_succ_self _) (.cons rfl (.cons rfl (.cons rfl (.cons rfl .nil)))) (.cons .here (.cons .here (.cons .h4 .nil)))
    · replace h:=ym h zjK
      refine WC.exit (WX.ye (WX.ye (WX.yA ?_)))
      exact WX.mid (G:=Zp) z5v ⟨h,znZ⟩ .nil (.cons .here .nil)
  · rintro zbL ⟨h,zyl⟩
    replace h:=zu2.symm.trans h
    refine WC.b (WC.a (WL.pu rfl (WL.nil (WX.a (WC.ret ?_)))))
    obtain rfl:=Option.some.inj h
    refine WX.yh Try.results11 (.tmp rfl .nil) (fun w hw=>?_)
    exact ⟨zbL,y12 rfl,trivial,hw.sub (.cons .here .nil)⟩
end Go.Proofs.Ytinchjigeakocaa

/- A part of this claim's proof: models of functions, walks, plain laws. No conditions. -/
import Derived.Test.YtinchjigeakocaaW31c
namespace Go.Proofs.Ytinchjigeakocaa
open Go Go.RowKit Sep
set_option linter.all false
set_option maxRecDepth 30000
set_option maxHeartbeats 4000000
def yH (z4 : List Sapi_Come) (zk : Int) (zR : Sapi_Come → Sapi_Come → Option Int) (z6d : Int → Option (List Sapi_Come)) : Nat → Int → Int → Option (List Sapi_Come)
  | 0,_,_=>none
  | zdt + 1,z1s,z1z=>if decide (z1s < z1z) then chk ((0 : Int) ≤ (i64 ((u64 (i64 (z1s + z1z))) / 2 ^ min (1 : Int).toNat 64)) ∧ (i64 ((u64 (i64 (z1s + z1z))) / 2 ^ min (1 : Int).toNat 64)) < ((z4.length : Nat) : Int)) (chk ((0 : Int) ≤ zk ∧ zk < ((z4.length : Nat) : Int)) ((zR (⟨((nth z4 (i64 ((u64 (i64 (z1s + z1z))) / 2 ^ min (1 : Int).toNat 64))).fSent),((nth z4 (i64 ((u64 (i64 (z1s + z1z))) / 2 ^ min (1 : Int).toNat 64))).fNode),((nth z4 (i64 ((u64 (i64 (z1s + z1z))) / 2 ^ min (1 : Int).toNat 64))).fTime)⟩ : Sapi_Come) (⟨((nth z4 zk).fSent),((nth z4 zk).fNode),((nth z4 zk).fTime)⟩ : Sapi_Come)).bind fun zio=>if decide (zio < 0) then yH z4 zk zR z6d zdt (i64 ((i64 ((u64 (i64 (z1s + z1z))) / 2 ^ min (1 : Int).toNat 64)) + 1)) z1z else yH z4 zk zR z6d zdt z1s (i64 ((u64 (i64 (z1s + z1z))) / 2 ^ min (1 : Int).toNat 64)))) else z6d z1s
theorem y3z {n : Nat} {z4 : List Sapi_Come} {zk : Int} {zR : Sapi_Come → Sapi_Come → Option Int} {z6d : Int → Option (List Sapi_Come)} {z1s : Int} {z1z : Int} {r : List Sapi_Come} (h : yH z4 zk zR z6d n z1s z1z = some r) : ∃ m,n = m + 1:=by
  cases n with
  | zero=>cases h
  | succ m=>exact ⟨m,rfl⟩
def yI (z3a : Int) (z7f : (List Sapi_Come) → Option (List Sapi_Come)) : Nat → (List Sapi_Come) → Int → Option (List Sapi_Come)
  | 0,_,_=>none
  | ziq + 1,zo,zi=>if decide (zi < (i64 (z3a - 1))) then chk ((0 : Int) ≤ (i64 (zi + 1)) ∧ (i64 (zi + 1)) < ((zo.length : Nat) : Int)) (chk ((0 : Int) ≤ zi ∧ zi < ((zo.length : Nat) : Int)) (chk ((0 : Int) ≤ (i64 (zi + 1)) ∧ (i64 (zi + 1)) < (((zo.set (zi : Int).toNat (⟨((nth zo (i64 (zi + 1))).fSent),((nth zo (i64 (zi + 1))).fNode),((nth zo (i64 (zi + 1))).fTime)⟩ : Sapi_Come)).length : Nat) : Int)) (yI z3a z7f ziq ((zo.set (zi : Int).toNat (⟨((nth zo (i64 (zi + 1))).fSent),((nth zo (i64 (zi + 1))).fNode),((nth zo (i64 (zi + 1))).fTime)⟩ : Sapi_Come)).set ((i64 (zi + 1)) : Int).toNat (⟨((nth zo zi).fSent),((nth zo zi).fNode),((nth zo zi).fTime)⟩ : Sapi_Come)) (i64 (zi + 1))))) else z7f zo
theorem y3A {n : Nat} {z3a : Int} {z7f : (List Sapi_Come) → Option (List Sapi_Come)} {zo : List Sapi_Come} {zi : Int} {r : List Sapi_Come} (h : yI z3a z7f n zo zi = some r) : ∃ m,n = m + 1:=by
  cases n with
  | zero=>cases h
  | succ m=>exact ⟨m,rfl⟩
def yJ (zs : Int) (z4 : List Sapi_Come) (zR : Sapi_Come → Sapi_Come → Option Int) (z6e : Int → Option (List Sapi_Come)) : Nat → Int → Int → Option (List Sapi_Come)
  | 0,_,_=>none
  | zdu + 1,z1t,z1A=>if decide (z1t < z1A) then chk ((0 : Int) ≤ zs ∧ zs < ((z4.length : Nat) : Int)) (chk ((0 : Int) ≤ (i64 ((u64 (i64 (z1t + z1A))) / 2 ^ min (1 : Int).toNat 64)) ∧ (i64 ((u64 (i64 (z1t + z1A))) / 2 ^ min (1 : Int).toNat 64)) < ((z4.length : Nat) : Int)) ((zR (⟨((nth z4 zs).fSent),((nth z4 zs).fNode),((nth z4 zs).fTime)⟩ : Sapi_Come) (⟨((nth z4 (i64 ((u64 (i64 (z1t + z1A))) / 2 ^ min (1 : Int).toNat 64))).fSent),((nth z4 (i64 ((u64 (i64 (z1t + z1A))) / 2 ^ min (1 : Int).toNat 64))).fNode),((nth z4 (i64 ((u64 (i64 (z1t + z1A))) / 2 ^ min (1 : Int).toNat 64))).fTime)⟩ : Sapi_Come)).bind fun zir=>if !(decide (zir < 0)) then yJ zs z4 zR z6e zdu (i64 ((i64 ((u64 (i64 (z1t + z1A))) / 2 ^ min (1 : Int).toNat 64)) + 1)) z1A else yJ zs z4 zR z6e zdu z1t (i64 ((u64 (i64 (z1t + z1A))) / 2 ^ min (1 : Int).toNat 64)))) else z6e z1t
theorem y3B {n : Nat} {zs : Int} {z4 : List Sapi_Come} {zR : Sapi_Come → Sapi_Come → Option Int} {z6e : Int → Option (List Sapi_Come)} {z1t : Int} {z1A : Int} {r : List Sapi_Come} (h : yJ zs z4 zR z6e n z1t z1A = some r) : ∃ m,n = m + 1:=by
  cases n with
  | zero=>cases h
  | succ m=>exact ⟨m,rfl⟩
def yQ (z3b : Int) (z7g : (List Sapi_Come) → Option (List Sapi_Come)) : Nat → (List Sapi_Come) → Int → Option (List Sapi_Come)
  | 0,_,_=>none
  | zis + 1,zp,zj=>if decide (zj > z3b) then chk ((0 : Int) ≤ (i64 (zj - 1)) ∧ (i64 (zj - 1)) < ((zp.length : Nat) : Int)) (chk ((0 : Int) ≤ zj ∧ zj < ((zp.length : Nat) : Int)) (chk ((0 : Int) ≤ (i64 (zj - 1)) ∧ (i64 (zj - 1)) < (((zp.set (zj : Int).toNat (⟨((nth zp (i64 (zj - 1))).fSent),((nth zp (i64 (zj - 1))).fNode),((nth zp (i64 (zj - 1))).fTime)⟩ : Sapi_Come)).length : Nat) : Int)) (yQ z3b z7g zis ((zp.set (zj : Int).toNat (⟨((nth zp (i64 (zj - 1))).fSent),((nth zp (i64 (zj - 1))).fNode),((nth zp (i64 (zj - 1))).fTime)⟩ : Sapi_Come)).set ((i64 (zj - 1)) : Int).toNat (⟨((nth zp zj).fSent),((nth zp zj).fNode),((nth zp zj).fTime)⟩ : Sapi_Come)) (i64 (zj - 1))))) else z7g zp
theorem y3C {n : Nat} {z3b : Int} {z7g : (List Sapi_Come) → Option (List Sapi_Come)} {zp : List Sapi_Come} {zj : Int} {r : List Sapi_Come} (h : yQ z3b z7g n zp zj = some r) : ∃ m,n = m + 1:=by
  cases n with
  | zero=>cases h
  | succ m=>exact ⟨m,rfl⟩
def yE (zk : Int) (zw : Int) (zs : Int) (z4 : List Sapi_Come) (zR : Sapi_Come → Sapi_Come → Option Int) (z6f : Int → Option (List Sapi_Come)) : Nat → Int → Int → Option (List Sapi_Come)
  | 0,_,_=>none
  | zdv + 1,z12,z17=>if decide (z12 < z17) then chk ((0 : Int) ≤ (i64 ((i64 ((i64 ((i64 ((u64 (i64 (zk + zw))) / 2 ^ min (1 : Int).toNat 64)) + zs)) - 1)) - (i64 ((u64 (i64 (z12 + z17))) / 2 ^ min (1 : Int).toNat 64)))) ∧ (i64 ((i64 ((i64 ((i64 ((u64 (i64 (zk + zw))) / 2 ^ min (1 : Int).toNat 64)) + zs)) - 1)) - (i64 ((u64 (i64 (z12 + z17))) / 2 ^ min (1 : Int).toNat 64)))) < ((z4.length : Nat) : Int)) (chk ((0 : Int) ≤ (i64 ((u64 (i64 (z12 + z17))) / 2 ^ min (1 : Int).toNat 64)) ∧ (i64 ((u64 (i64 (z12 + z17))) / 2 ^ min (1 : Int).toNat 64)) < ((z4.length : Nat) : Int)) ((zR (⟨((nth z4 (i64 ((i64 ((i64 ((i64 ((u64 (i64 (zk + zw))) / 2 ^ min (1 : Int).toNat 64)) + zs)) - 1)) - (i64 ((u64 (i64 (z12 + z17))) / 2 ^ min (1 : Int).toNat 64))))).fSent),((nth z4 (i64 ((i64 ((i64 ((i64 ((u64 (i64 (zk + zw))) / 2 ^ min (1 : Int).toNat 64)) + zs)) - 1)) - (i64 ((u64 (i64 (z12 + z17))) / 2 ^ min (1 : Int).toNat 64))))).fNode),((nth z4 (i64 ((i64 ((i64 ((i64 ((u64 (i64 (zk + zw))) / 2 ^ min (1 : Int).toNat 64)) + zs)) - 1)) - (i64 ((u64 (i64 (z12 + z17))) / 2 ^ min (1 : Int).toNat 64))))).fTime)⟩ : Sapi_Come) (⟨((nth z4 (i64 ((u64 (i64 (z12 + z17))) / 2 ^ min (1 : Int).toNat 64))).fSent),((nth z4 (i64 ((u64 (i64 (z12 + z17))) / 2 ^ min (1 : Int).toNat 64))).fNode),((nth z4 (i64 ((u64 (i64 (z12 + z17))) / 2 ^ min (1 : Int).toNat 64))).fTime)⟩ : Sapi_Come)).bind fun zit=>if !(decide (zit < 0)) then yE zk zw zs z4 zR z6f zdv (i64 ((i64 ((u64 (i64 (z12 + z17))) / 2 ^ min (1 : Int).toNat 64)) + 1)) z17 else yE zk zw zs z4 zR z6f zdv z12 (i64 ((u64 (i64 (z12 + z17))) / 2 ^ min (1 : Int).toNat 64)))) else z6f z12
theorem y3w {n : Nat} {zk : Int} {zw : Int} {zs : Int} {z4 : List Sapi_Come} {zR : Sapi_Come → Sapi_Come → Option Int} {z6f : Int → Option (List Sapi_Come)} {z12 : Int} {z17 : Int} {r : List Sapi_Come} (h : yE zk zw zs z4 zR z6f n z12 z17 = some r) : ∃ m,n = m + 1:=by
  cases n with
  | zero=>cases h
  | succ m=>exact ⟨m,rfl⟩
def yP : Nat → (List Sapi_Come) → Int → Int → Int → (Sapi_Come → Sapi_Come → Option Int) → Option (List Sapi_Come)
  | 0,_,_,_,_,_=>none
  | ziu + 1,z4,zk,zs,zw,zR=>jp0 (jp0 (jp2 (fun (z7h : Int) (z7i : Int)=>jp1 (fun (z1u : Int)=>jp1 (fun (z3q : List Sapi_Come)=>jp1 (fun (z3E : List Sapi_Come)=>if (decide ((i64 ((u64 (i64 (zk + zw))) / 2 ^ min (1 : Int).toNat 64)) < (i64 ((i64 ((i64 ((u64 (i64 (zk + zw))) / 2 ^ min (1 : Int).toNat 64)) + zs)) - z1u)))) && (decide ((i64 ((i64 ((i64 ((u64 (i64 (zk + zw))) / 2 ^ min (1 : Int).toNat 64)) + zs)) - z1u)) < zw)) then ((yP ziu) z3E (i64 ((u64 (i64 (zk + zw))) / 2 ^ min (1 : Int).toNat 64)) (i64 ((i64 ((i64 ((u64 (i64 (zk + zw))) / 2 ^ min (1 : Int).toNat 64)) + zs)) - z1u)) zw zR).bind fun zf1=>some zf1 else some z3E) fun zf2=>if (decide (zk < z1u)) && (decide (z1u < (i64 ((u64 (i64 (zk + zw))) / 2 ^ min (1 : Int).toNat 64)))) then ((yP ziu) z3q zk z1u (i64 ((u64 (i64 (zk + zw))) / 2 ^ min (1 : Int).toNat 64)) zR).bind fun zdw=>zf2 zdw else zf2 z3q) fun zf3=>if (decide (z1u < zs)) && (decide (zs < (i64 ((i64 ((i64 ((u64 (i64 (zk + zw))) / 2 ^ min (1 : Int).toNat 64)) + zs)) - z1u)))) then (y1r z4 z1u zs (i64 ((i64 ((i64 ((u64 (i64 (zk + zw))) / 2 ^ min (1 : Int).toNat 64)) + zs)) - z1u)) zR).bind fun zf4=>zf3 zf4 else zf3 z4) fun z6f=>yE zk zw zs z4 zR z6f yz z7h z7i) fun zf5=>if decide (zs > (i64 ((u64 (i64 (zk + zw))) / 2 ^ min (1 : Int).toNat 64))) then zf5 (i64 ((i64 ((i64 ((u64 (i64 (zk + zw))) / 2 ^ min (1 : Int).toNat 64)) + zs)) - zw)) (i64 ((u64 (i64 (zk + zw))) / 2 ^ min (1 : Int).toNat 64)) else zf5 zk zs) fun ziv=>if decide ((i64 (zw - zs)) = 1) then jp1 (fun (z3b : Int)=>jp1 (fun (z6g : List Sapi_Come)=>some z6g) fun z7g=>yQ z3b z7g yz z4 zs) fun z6e=>yJ zs z4 zR z6e yz zk zs else ziv) fun ziw=>if decide ((i64 (zs - zk)) = 1) then jp1 (fun (z3a : Int)=>jp1 (fun (z6h : List Sapi_Come)=>some z6h) fun z7f=>yI z3a z7f yz z4 zk) fun z6d=>yH z4 zk zR z6d yz zs zw else ziw
def y1j (z4 : List Sapi_Come) (zk : Int) (zs : Int) (zw : Int) (zR : Sapi_Come → Sapi_Come → Option Int) : Option (List Sapi_Come):=yP yz z4 zk zs zw zR
set_option maxRecDepth 20000 in
theorem y3V : ∀ (n : Nat) (Z : Zp) (zK : Option Addr) (zC : Nat) (z1f : FuncId) (z1q : List Value) (z4 : List Sapi_Come) (zk : Int) (zs : Int) (zw : Int) (zR : Sapi_Come → Sapi_Come → Option Int) (r : List Sapi_Come) (w₀ : World) (hz : PZ (fps [row (.slice zK z4.length zC) 50 3 (z4.flatMap e50)]) w₀ Z)
    (z6i : ∀ args w,(callFunc z1f args).run Try.prog w = .ok (.enter z1f args) w)
    (z6j : ∀ w : World,PZ [] w Z → ∀ (x0 : Sapi_Come) (x1 : Sapi_Come) (r : Int),zR x0 x1 = some r → Calls Try.prog z1f (([(.agg #[(.int .i64 x0.fSent),(.int .i64 x0.fNode),(.int .i64 x0.fTime)]),(.agg #[(.int .i64 x1.fSent),(.int .i64 x1.fNode),(.int .i64 x1.fTime)])] : List Value) ++ z1q).toArray w fun e w'=>e = .returned (.int .i64 r) ∧ Hp [] w w' []) (h : yP n z4 zk zs zw zR = some r)
    (hown : Hp (fps [row (.slice zK z4.length zC) 50 3 (z4.flatMap e50)]) w₀ w₀ [row (.slice zK z4.length zC) 50 3 (z4.flatMap e50)]),Calls Try.prog 67 #[(.slice zK z4.length zC),(.int .i64 zk),(.int .i64 zs),(.int .i64 zw),(.func (.func z1f) #[] (z1q).toArray)] w₀ fun e w'=>e = .returned (.tuple #[]) ∧ (r.length = z4.length) ∧ Hp (fps [row (.slice zK z4.length zC) 50 3 (z4.flatMap e50)]) w₀ w' [row (.slice zK r.length zC) 50 3 (r.flatMap e50)]:=by
  intro n
  induction n with
  | zero=>intro Z zK zC z1f z1q z4 zk zs zw zR r w₀ hz z6i z6j h hown; cases h
  | succ ziu ih =>
    intro Z zK zC z1f z1q z4 zk zs zw zR r w₀ hz z6i z6j h hown
    rw [yP] at h
    refine Calls.yl (vs:=[(.slice zK z4.length zC),(.int .i64 zk),(.int .i64 zs),(.int .i64 zw),(.func (.func z1f) #[] (z1q).toArray)]) (pre:=[row (.slice zK z4.length zC) 50 3 (z4.flatMap e50)]) (env:=[(0,(.slice zK z4.length zC)),(1,(.int .i64 zk)),(2,(.int .i64 zs)),(3,(.int .i64 zw)),(4,(.func (.func z1f) #[] (z1q).toArray))]) Try.func67 rfl Try.ntmps67 rfl (hown) rfl ?_
    obtain ⟨ziw,zsm,h⟩:=y2P h
    refine WC.y2p ((ziw = some r)) ([(0,(.slice zK z4.length zC)),(1,(.int .i64 zk)),(2,(.int .i64 zs)),(3,(.int .i64 zw)),(4,(.func (.func z1f) #[] (z1q).toArray))]) ([row (.slice zK z4.length zC) 50 3 (z4.flatMap e50)]) ?_ ?_
    · skip
      refine WC.b (WC.a (WL.pu rfl (WL.pu rfl (WL.pu rfl (WL.pu rfl (WL.nil (WX.a ?_)))))))
      refine WC.cond rfl (fun zix=>?_) (fun zix=>?_)
      · replace h:=ym h zix
        refine WC.b (WC.a (WL.pu rfl (WL.pu rfl (WL.nil (WX.a (WC.b (WC.a (WL.pu rfl (WL.pu rfl (WL.nil (WX.a ?_)))))))))))
        obtain ⟨z6d,zsn,h⟩:=y19 h
        refine WC.y1H (fun (z3a : Int)=>(z6d z3a = some r)) (fun (z3a : Int)=>[(0,(.slice zK z4.length zC)),(1,(.int .i64 zk)),(10,(.int .i64 z3a))]) (fun (z3a : Int)=>[row (.slice zK z4.length zC) 50 3 (z4.flatMap e50)]) ?_ ?_
        · skip
          refine WC.block ?_
          refine WC.y28 (fun (zb3 : Nat) (z1s : Int) (z1z : Int)=>(yH z4 zk zR z6d zb3 z1s z1z = some r)) (fun (zb3 : Nat) (z1s : Int) (z1z : Int)=>[(0,(.slice zK z4.length zC)),(1,(.int .i64 zk)),(4,(.func (.func z1f) #[] (z1q).toArray)),(10,(.int .i64 z1s)),(11,(.int .i64 z1z))]) (fun (zb3 : Nat) (z1s : Int) (z1z : Int)=>[row (.slice zK z4.length zC) 50 3 (z4.flatMap e50)]) (fun (zb3 : Nat) (z1s : Int) (z1z : Int)=>zb3) ⟨yz,zs,zw⟩ h (.cons rfl (.cons rfl (.cons rfl (.cons rfl (.cons rfl .nil))))) (.cons .here .nil) ?_
          rintro zb3 z1s z1z h
          obtain ⟨zdt,rfl⟩:=y3z h
          rw [yH] at h
          refine WC.b (WC.b (WC.a (WL.pu rfl (WL.pu rfl (WL.pu rfl (WL.nil (WX.a ?_)))))))
          refine WC.cond rfl (fun ziy=>?_) (fun ziy=>?_)
          · replace h:=ym h ziy
            refine WC.skip (WX.a (WC.block (WC.b (WC.a (WL.pu rfl (WL.pu rfl (WL.pu rfl ?_)))))))
            refine WL.a (d:=37) rfl rfl rfl (y4j Try.underlying3 Try.underlying157 rfl rfl) ?_
            refine WL.a (d:=38) rfl rfl rfl (q_shr rfl rfl (by decide) rfl) ?_
            refine WL.a (d:=39) rfl rfl rfl (y4j Try.underlying157 Try.underlying3 rfl rfl) ?_
            refine WL.pu rfl (WL.nil (WX.a (WC.b ?_)))
            obtain ⟨zdx,h⟩:=yj h
            obtain ⟨zf6,h⟩:=yj h
            obtain ⟨zio,zso,h⟩:=zf h
            refine WC.yZ (fun i=>[].contains i) [] rfl ?_
            refine WD.a (i:=0) (d:=40) (by kernel_rfl) rfl (z2 (by kernel_rfl)) (z3 (by kernel_rfl)) rfl rfl rfl (fun _=>q_m rfl) ?_
            refine WD.a (i:=1) (d:=41) (by kernel_rfl) rfl (z2 (by kernel_rfl)) (z3 (by kernel_rfl)) rfl rfl rfl (fun _=>q_m rfl) ?_
            refine WD.a (i:=2) (d:=42) (by kernel_rfl) rfl (z2 (by kernel_rfl)) (z3 (by kernel_rfl)) rfl rfl rfl (fun _=>q_m rfl) ?_
            refine WD.know (fun w hw=>Hp.y2j .here hw (by intro hz'; have:=zdx; rw [hz'] at this; omega)) ?_
            rintro ⟨zxe,rfl⟩
            refine WD.a (i:=3) (d:=43) (by kernel_rfl) rfl (z2 (by kernel_rfl)) (z3 (by kernel_rfl)) rfl rfl rfl (fun _=>yr y16 rfl rfl zdx.1 zdx.2 y1b) ?_
            refine WD.e (i:=4) (d:=44) (by kernel_rfl) rfl (z2 (by kernel_rfl)) (z3 (by kernel_rfl)) rfl rfl rfl (y1O (cs:=(e50 (nth z4 (i64 ((u64 (i64 (z1s + z1z))) / 2 ^ min (1 : Int).toNat 64))))) y2c rfl rfl (y20 .here (y1J (enc:=e50) (l:=z4) (i:=i64 ((u64 (i64 (z1s + z1z))) / 2 ^ min (1 : Int).toNat 64)) (sz:=3) (fun _=>rfl) zdx.1 zdx.2))) ?_
            refine WD.a (i:=5) (d:=45) (by kernel_rfl) rfl (z2 (by kernel_rfl)) (z3 (by kernel_rfl)) rfl rfl rfl (fun _=>q_m rfl) ?_
            refine WD.a (i:=6) (d:=46) (by kernel_rfl) rfl (z2 (by kernel_rfl)) (z3 (by kernel_rfl)) rfl rfl rfl (fun _=>q_m rfl) ?_
            refine WD.a (i:=7) (d:=47) (by kernel_rfl) rfl (z2 (by kernel_rfl)) (z3 (by kernel_rfl)) rfl rfl rfl (fun _=>yr y16 rfl rfl zf6.1 zf6.2 y1b) ?_
            refine WD.e (i:=8) (d:=48) (by kernel_rfl) rfl (z2 (by kernel_rfl)) (z3 (by kernel_rfl)) rfl rfl rfl (y1O (cs:=(e50 (nth z4 zk))) y2c rfl rfl (y20 .here (y1J (enc:=e50) (l:=z4) (i:=zk) (sz:=3) (fun _=>rfl) zf6.1 zf6.2))) ?_
            refine WD.c (i:=9) (d:=49) (by kernel_rfl) rfl (z2 (by kernel_rfl)) (z3 (by kernel_rfl)) rfl rfl rfl (y3E (l:=[.tmp 44,.tmp 48]) (f:=z1f) (caps:=z1q) z6i rfl (.cons rfl (.cons rfl .nil))) (fun w hw=>z6j w (hz.now hw) (⟨((nth z4 (i64 ((u64 (i64 (z1s + z1z))) / 2 ^ min (1 : Int).toNat 64))).fSent),((nth z4 (i64 ((u64 (i64 (z1s + z1z))) / 2 ^ min (1 : Int).toNat 64))).fNode),((nth z4 (i64 ((u64 (i64 (z1s + z1z))) / 2 ^ min (1 : Int).toNat 64))).fTime)⟩ : Sapi_Come) (⟨((nth z4 zk).fSent),((nth z4 zk).fNode),((nth z4 zk).fTime)⟩ : Sapi_Come) zio  zso) ?_
            refine WD.a (i:=10) (d:=50) (by kernel_rfl) rfl (z2 (by kernel_rfl)) (z3 (by kernel_rfl)) rfl rfl rfl (fun _=>y3n rfl rfl) ?_
            refine WD.done (by kernel_rfl) ?_
            refine WX.a ?_
            refine WC.cond rfl (fun ziz=>?_) (fun ziz=>?_)
            · replace h:=ym h ziz
              refine WC.a (WL.pu rfl (WL.pu rfl (WL.pu rfl (WL.nil (WX.yg ?_)))))
              exact WX.round (G:=Nat × Int × Int) ⟨zdt,(i64 ((i64 ((u64 (i64 (z1s + z1z))) / 2 ^ min (1 : Int).toNat 64)) + 1)),z1z⟩ h (Nat.lt_succ_self _) (.cons rfl (.cons rfl (.cons rfl (.cons rfl (.cons rfl .nil))))) (.cons .here .nil)
            · replace h:=yn h ziz
              refine WC.a (WL.pu rfl (WL.pu rfl (WL.nil (WX.yg ?_))))
              exact WX.round (G:=Nat × Int × Int) ⟨zdt,z1s,(i64 ((u64 (i64 (z1s + z1z))) / 2 ^ min (1 : Int).toNat 64))⟩ h (Nat.lt_succ_self _) (.cons rfl (.cons rfl (.cons rfl (.cons rfl (.cons rfl .nil))))) (.cons .here .nil)
          · replace h:=yn h ziy
            refine WC.exit (WX.yd (WX.yd (WX.yA ?_)))
            exact WX.mid (G:=Int) z1s h (.cons rfl (.cons rfl (.cons rfl .nil))) (.cons .here .nil)
        · rintro z3a h
          replace h:=(zsn z3a).symm.trans h
          obtain ⟨z7f,zsp,h⟩:=y19 h
          refine WC.y1H (fun (z6h : List Sapi_Come)=>(z7f z6h = some r) ∧ (z6h.length = z4.length)) (fun (z6h : List Sapi_Come)=>[]) (fun (z6h : List Sapi_Come)=>[row (.slice zK z6h.length zC) 50 3 (z6h.flatMap e50)]) ?_ ?_
          · skip
            refine WC.b (WC.a (WL.pu rfl (WL.pu rfl (WL.nil (WX.a (WC.block ?_))))))
            refine WC.y28 (fun (zb4 : Nat) (zo : List Sapi_Come) (zi : Int)=>(yI z3a z7f zb4 zo zi = some r) ∧ (zo.length = z4.length)) (fun (zb4 : Nat) (zo : List Sapi_Come) (zi : Int)=>[(0,(.slice zK zo.length zC)),(10,(.int .i64 z3a)),(13,(.int .i64 zi))]) (fun (zb4 : Nat) (zo : List Sapi_Come) (zi : Int)=>[row (.slice zK zo.length zC) 50 3 (zo.flatMap e50)]) (fun (zb4 : Nat) (zo : List Sapi_Come) (zi : Int)=>zb4) ⟨yz,z4,zk⟩ ⟨h,rfl⟩ (.cons rfl (.cons rfl (.cons rfl .nil))) (.cons .here .nil) ?_
            rintro zb4 zo zi ⟨h,zmZ⟩
            obtain ⟨ziq,rfl⟩:=y3A h
            rw [yI] at h
            refine WC.b (WC.b (WC.a (WL.pu rfl (WL.pu rfl (WL.pu rfl (WL.pu rfl (WL.nil (WX.a ?_))))))))
            refine WC.cond rfl (fun ziA=>?_) (fun ziA=>?_)
            · replace h:=ym h ziA
              refine WC.skip (WX.a (WC.b (WC.block ?_)))
              obtain ⟨zdy,h⟩:=yj h
              obtain ⟨z6k,h⟩:=yj h
              obtain ⟨zb5,h⟩:=yj h
              refine WC.yZ (fun i=>[15,17].contains i) [] rfl ?_
              refine WD.a (i:=0) (d:=61) (by kernel_rfl) rfl (z2 (by kernel_rfl)) (z3 (by kernel_rfl)) rfl rfl rfl (fun _=>q_m rfl) ?_
              refine WD.a (i:=1) (d:=62) (by kernel_rfl) rfl (z2 (by kernel_rfl)) (z3 (by kernel_rfl)) rfl rfl rfl (fun _=>q_m rfl) ?_
              refine WD.a (i:=2) (d:=63) (by kernel_rfl) rfl (z2 (by kernel_rfl)) (z3 (by kernel_rfl)) rfl rfl rfl (fun _=>q_m rfl) ?_
              refine WD.a (i:=3) (d:=64) (by kernel_rfl) rfl (z2 (by kernel_rfl)) (z3 (by kernel_rfl)) rfl rfl rfl (fun _=>q_m rfl) ?_
              refine WD.a (i:=4) (d:=65) (by kernel_rfl) rfl (z2 (by kernel_rfl)) (z3 (by kernel_rfl)) rfl rfl rfl (fun _=>y4D rfl rfl rfl) ?_
              refine WD.a (i:=5) (d:=66) (by kernel_rfl) rfl (z2 (by kernel_rfl)) (z3 (by kernel_rfl)) rfl rfl rfl (fun _=>q_m rfl) ?_
              refine WD.a (i:=6) (d:=67) (by kernel_rfl) rfl (z2 (by kernel_rfl)) (z3 (by kernel_rfl)) rfl rfl rfl (fun _=>q_m rfl) ?_
              refine WD.a (i:=7) (d:=68) (by kernel_rfl) rfl (z2 (by kernel_rfl)) (z3 (by kernel_rfl)) rfl rfl rfl (fun _=>y4D rfl rfl rfl) ?_
              refine WD.know (fun w hw=>Hp.y2j .here hw (by intro hz'; have:=zdy; rw [hz'] at this; omega)) ?_
              rintro ⟨zdz,rfl⟩
              refine WD.a (i:=8) (d:=69) (by kernel_rfl) rfl (z2 (by kernel_rfl)) (z3 (by kernel_rfl)) rfl rfl rfl (fun _=>yr y16 rfl rfl zdy.1 zdy.2 y1b) ?_
              refine WD.e (i:=9) (d:=70) (by kernel_rfl) rfl (z2 (by kernel_rfl)) (z3 (by kernel_rfl)) rfl rfl rfl (y1O (cs:=(e50 (nth zo (i64 (zi + 1))))) y2c rfl rfl (y20 .here (y1J (enc:=e50) (l:=zo) (i:=i64 (zi + 1)) (sz:=3) (fun _=>rfl) zdy.1 zdy.2))) ?_
              refine WD.a (i:=10) (d:=71) (by kernel_rfl) rfl (z2 (by kernel_rfl)) (z3 (by kernel_rfl)) rfl rfl rfl (fun _=>q_m rfl) ?_
              refine WD.a (i:=11) (d:=72) (by kernel_rfl) rfl (z2 (by kernel_rfl)) (z3 (by kernel_rfl)) rfl rfl rfl (fun _=>q_m rfl) ?_
              refine WD.a (i:=12) (d:=73) (by kernel_rfl) rfl (z2 (by kernel_rfl)) (z3 (by kernel_rfl)) rfl rfl rfl (fun _=>yr y16 rfl rfl z6k.1 z6k.2 y1b) ?_
              refine WD.e (i:=13) (d:=74) (by kernel_rfl) rfl (z2 (by kernel_rfl)) (z3 (by kernel_rfl)) rfl rfl rfl (y1O (cs:=(e50 (nth zo zi))) y2c rfl rfl (y20 .here (y1J (enc:=e50) (l:=zo) (i:=zi) (sz:=3) (fun _=>rfl) z6k.1 z6k.2))) ?_
              refine WD.a (i:=14) (d:=75) (by kernel_rfl) rfl (z2 (by kernel_rfl)) (z3 (by kernel_rfl)) rfl rfl rfl (fun _=>yr y16 rfl rfl z6k.1 z6k.2 y1b) ?_
              refine WD.forced0 (i:=15) rfl (by kernel_rfl) rfl rfl rfl (Sin.of .nil) (y24 (vs:=[(.int .i64 ((nth zo (i64 (zi + 1))).fSent)),(.int .i64 ((nth zo (i64 (zi + 1))).fNode)),(.int .i64 ((nth zo (i64 (zi + 1))).fTime))]) (ds:=(zo.set (zi : Int).toNat (⟨((nth zo (i64 (zi + 1))).fSent),((nth zo (i64 (zi + 1))).fNode),((nth zo (i64 (zi + 1))).fTime)⟩ : Sapi_Come)).flatMap e50) y4e rfl rfl rfl rfl (ocB rfl) .here (y2B (enc:=e50) (sz:=3) (k:=0) (fun _=>rfl) z6k.1 z6k.2 (by decide)) (y2A (enc:=e50) (l:=zo) (sz:=3) (vs:=[(.int .i64 ((nth zo (i64 (zi + 1))).fSent)),(.int .i64 ((nth zo (i64 (zi + 1))).fNode)),(.int .i64 ((nth zo (i64 (zi + 1))).fTime))]) (y:=(⟨((nth zo (i64 (zi + 1))).fSent),((nth zo (i64 (zi + 1))).fNode),((nth zo (i64 (zi + 1))).fTime)⟩ : Sapi_Come)) (k:=0) (fun _=>rfl) z6k.1 z6k.2 rfl (Nat.le_of_ble_eq_true rfl))) ?_
              refine WD.relen .here (u:=(.slice (some ⟨zdz,0,none⟩) ((zo.set (zi : Int).toNat (⟨((nth zo (i64 (zi + 1))).fSent),((nth zo (i64 (zi + 1))).fNode),((nth zo (i64 (zi + 1))).fTime)⟩ : Sapi_Come)).length) zC)) (y1z (List.length_set).symm) ?_
              refine WD.repin (i:=0) rfl (u:=(.slice (some ⟨zdz,0,none⟩) ((zo.set (zi : Int).toNat (⟨((nth zo (i64 (zi + 1))).fSent),((nth zo (i64 (zi + 1))).fNode),((nth zo (i64 (zi + 1))).fTime)⟩ : Sapi_Come)).length) zC)) (y1z (List.length_set).symm) ?_
              refine WD.repin (i:=63) rfl (u:=(.slice (some ⟨zdz,0,none⟩) ((zo.set (zi : Int).toNat (⟨((nth zo (i64 (zi + 1))).fSent),((nth zo (i64 (zi + 1))).fNode),((nth zo (i64 (zi + 1))).fTime)⟩ : Sapi_Come)).length) zC)) (y1z (List.length_set).symm) ?_
              refine WD.a (i:=16) (d:=76) (by kernel_rfl) rfl (z2 (by kernel_rfl)) (z3 (by kernel_rfl)) rfl rfl rfl (fun _=>yr y16 rfl rfl zb5.1 zb5.2 y1b) ?_
              refine WD.y36 (i:=17) rfl (by kernel_rfl) rfl rfl rfl (by kernel_rfl) (y24 (vs:=[(.int .i64 ((nth zo zi).fSent)),(.int .i64 ((nth zo zi).fNode)),(.int .i64 ((nth zo zi).fTime))]) (ds:=((zo.set (zi : Int).toNat (⟨((nth zo (i64 (zi + 1))).fSent),((nth zo (i64 (zi + 1))).fNode),((nth zo (i64 (zi + 1))).fTime)⟩ : Sapi_Come)).set ((i64 (zi + 1)) : Int).toNat (⟨((nth zo zi).fSent),((nth zo zi).fNode),((nth zo zi).fTime)⟩ : Sapi_Come)).flatMap e50) y4e rfl rfl rfl rfl (ocB rfl) .here (y2B (enc:=e50) (sz:=3) (k:=0) (fun _=>rfl) zb5.1 zb5.2 (by decide)) (y2A (enc:=e50) (l:=zo.set (zi : Int).toNat (⟨((nth zo (i64 (zi + 1))).fSent),((nth zo (i64 (zi + 1))).fNode),((nth zo (i64 (zi + 1))).fTime)⟩ : Sapi_Come)) (sz:=3) (vs:=[(.int .i64 ((nth zo zi).fSent)),(.int .i64 ((nth zo zi).fNode)),(.int .i64 ((nth zo zi).fTime))]) (y:=(⟨((nth zo zi).fSent),((nth zo zi).fNode),((nth zo zi).fTime)⟩ : Sapi_Come)) (k:=0) (fun _=>rfl) zb5.1 zb5.2 rfl (Nat.le_of_ble_eq_true rfl))) ?_
              refine WD.relen .here (u:=(.slice (some ⟨zdz,0,none⟩) (((zo.set (zi : Int).toNat (⟨((nth zo (i64 (zi + 1))).fSent),((nth zo (i64 (zi + 1))).fNode),((nth zo (i64 (zi + 1))).fTime)⟩ : Sapi_Come)).set ((i64 (zi + 1)) : Int).toNat (⟨((nth zo zi).fSent),((nth zo zi).fNode),((nth zo zi).fTime)⟩ : Sapi_Come)).length) zC)) (y1z (List.length_set).symm) ?_
              refine WD.repin (i:=0) rfl (u:=(.slice (some ⟨zdz,0,none⟩) (((zo.set (zi : Int).toNat (⟨((nth zo (i64 (zi + 1))).fSent),((nth zo (i64 (zi + 1))).fNode),((nth zo (i64 (zi + 1))).fTime)⟩ : Sapi_Come)).set ((i64 (zi + 1)) : Int).toNat (⟨((nth zo zi).fSent),((nth zo zi).fNode),((nth zo zi).fTime)⟩ : Sapi_Come)).length) zC)) (y1z (List.length_set).symm) ?_
              refine WD.done (by kernel_rfl) ?_
              refine WX.yg (WX.a (WC.a (WL.pu rfl (WL.pu rfl (WL.pu rfl (WL.nil ?_))))))
              exact WX.round (G:=Nat × List Sapi_Come × Int) ⟨ziq,((zo.set (zi : Int).toNat (⟨((nth zo (i64 (zi + 1))).fSent),((nth zo (i64 (zi + 1))).fNode),((nth zo (i64 (zi + 1))).fTime)⟩ : Sapi_Come)).set ((i64 (zi + 1)) : Int).toNat (⟨((nth zo zi).fSent),((nth zo zi).fNode),((nth zo zi).fTime)⟩ : Sapi_Come)),(i64 (zi + 1))⟩ ⟨h,((List.length_set).trans ((List.length_set).trans zmZ))⟩ (Nat.lt_succ_self _) (.cons rfl (.cons rfl (.cons rfl .nil))) (.cons .here .nil)
            · replace h:=yn h ziA
              refine WC.exit (WX.yd (WX.yd (WX.yA ?_)))
              exact WX.mid (G:=List Sapi_Come) zo ⟨h,zmZ⟩ .nil (.cons .here .nil)
          · rintro z6h ⟨h,zsq⟩
            replace h:=(zsp z6h).symm.trans h
            refine WC.ret (WX.yi ?_)
            obtain rfl:=Option.some.inj h
            refine WX.yh Try.results67 .nil (fun w hw=>?_)
            exact ⟨y49,zsq,hw.sub (.cons .here .nil)⟩
      · replace h:=yn h zix
        refine WC.skip ?_
        exact WX.mid (G:=Unit) () h (.cons rfl (.cons rfl (.cons rfl (.cons rfl (.cons rfl .nil))))) (.cons .here .nil)
    · rintro  h
      replace h:=zsm.symm.trans h
      obtain ⟨ziv,zsr,h⟩:=y2P h
      refine WC.y2p ((ziv = some r)) ([(0,(.slice zK z4.length zC)),(1,(.int .i64 zk)),(2,(.int .i64 zs)),(3,(.int .i64 zw)),(4,(.func (.func z1f) #[] (z1q).toArray))]) ([row (.slice zK z4.length zC) 50 3 (z4.flatMap e50)]) ?_ ?_
      · skip
        refine WC.b (WC.a (WL.pu rfl (WL.pu rfl (WL.pu rfl (WL.pu rfl (WL.nil (WX.a ?_)))))))
        refine WC.cond rfl (fun ziB=>?_) (fun ziB=>?_)
        · replace h:=ym h ziB
          refine WC.b (WC.a (WL.pu rfl (WL.pu rfl (WL.nil (WX.a (WC.b (WC.a (WL.pu rfl (WL.pu rfl (WL.nil (WX.a ?_)))))))))))
          obtain ⟨z6e,zss,h⟩:=y19 h
          refine WC.y1H (fun (z3b : Int)=>(z6e z3b = some r)) (fun (z3b : Int)=>[(0,(.slice zK z4.length zC)),(2,(.int .i64 zs)),(14,(.int .i64 z3b))]) (fun (z3b : Int)=>[row (.slice zK z4.length zC) 50 3 (z4.flatMap e50)]) ?_ ?_
          · skip
            refine WC.block ?_
            refine WC.y28 (fun (zb6 : Nat) (z1t : Int) (z1A : Int)=>(yJ zs z4 zR z6e zb6 z1t z1A = some r)) (fun (zb6 : Nat) (z1t : Int) (z1A : Int)=>[(0,(.slice zK z4.length zC)),(2,(.int .i64 zs)),(4,(.func (.func z1f) #[] (z1q).toArray)),(14,(.int .i64 z1t)),(15,(.int .i64 z1A))]) (fun (zb6 : Nat) (z1t : Int) (z1A : Int)=>[row (.slice zK z4.length zC) 50 3 (z4.flatMap e50)]) (fun (zb6 : Nat) (z1t : Int) (z1A : Int)=>zb6) ⟨yz,zk,zs⟩ h (.cons rfl (.cons rfl (.cons rfl (.cons rfl (.cons rfl .nil))))) (.cons .here .nil) ?_
            rintro zb6 z1t z1A h
            obtain ⟨zdu,rfl⟩:=y3B h
            rw [yJ] at h
            refine WC.b (WC.b (WC.a (WL.pu rfl (WL.pu rfl (WL.pu rfl (WL.nil (WX.a ?_)))))))
            refine WC.cond rfl (fun ziC=>?_) (fun ziC=>?_)
            · replace h:=ym h ziC
              refine WC.skip (WX.a (WC.block (WC.b (WC.a (WL.pu rfl (WL.pu rfl (WL.pu rfl ?_)))))))
              refine WL.a (d:=89) rfl rfl rfl (y4j Try.underlying3 Try.underlying157 rfl rfl) ?_
              refine WL.a (d:=90) rfl rfl rfl (q_shr rfl rfl (by decide) rfl) ?_
              refine WL.a (d:=91) rfl rfl rfl (y4j Try.underlying157 Try.underlying3 rfl rfl) ?_
              refine WL.pu rfl (WL.nil (WX.a (WC.b ?_)))
              obtain ⟨zdA,h⟩:=yj h
              obtain ⟨zf7,h⟩:=yj h
              obtain ⟨zir,zst,h⟩:=zf h
              refine WC.yZ (fun i=>[].contains i) [] rfl ?_
              refine WD.a (i:=0) (d:=92) (by kernel_rfl) rfl (z2 (by kernel_rfl)) (z3 (by kernel_rfl)) rfl rfl rfl (fun _=>q_m rfl) ?_
              refine WD.a (i:=1) (d:=93) (by kernel_rfl) rfl (z2 (by kernel_rfl)) (z3 (by kernel_rfl)) rfl rfl rfl (fun _=>q_m rfl) ?_
              refine WD.a (i:=2) (d:=94) (by kernel_rfl) rfl (z2 (by kernel_rfl)) (z3 (by kernel_rfl)) rfl rfl rfl (fun _=>q_m rfl) ?_
              refine WD.know (fun w hw=>Hp.y2j .here hw (by intro hz'; have:=zdA; rw [hz'] at this; omega)) ?_
              rintro ⟨zxf,rfl⟩
              refine WD.a (i:=3) (d:=95) (by kernel_rfl) rfl (z2 (by kernel_rfl)) (z3 (by kernel_rfl)) rfl rfl rfl (fun _=>yr y16 rfl rfl zdA.1 zdA.2 y1b) ?_
              refine WD.e (i:=4) (d:=96) (by kernel_rfl) rfl (z2 (by kernel_rfl)) (z3 (by kernel_rfl)) rfl rfl rfl (y1O (cs:=(e50 (nth z4 zs))) y2c rfl rfl (y20 .here (y1J (enc:=e50) (l:=z4) (i:=zs) (sz:=3) (fun _=>rfl) zdA.1 zdA.2))) ?_
              refine WD.a (i:=5) (d:=97) (by kernel_rfl) rfl (z2 (by kernel_rfl)) (z3 (by kernel_rfl)) rfl rfl rfl (fun _=>q_m rfl) ?_
              refine WD.a (i:=6) (d:=98) (by kernel_rfl) rfl (z2 (by kernel_rfl)) (z3 (by kernel_rfl)) rfl rfl rfl (fun _=>q_m rfl) ?_
              refine WD.a (i:=7) (d:=99) (by kernel_rfl) rfl (z2 (by kernel_rfl)) (z3 (by kernel_rfl)) rfl rfl rfl (fun _=>yr y16 rfl rfl zf7.1 zf7.2 y1b) ?_
              refine WD.e (i:=8) (d:=100) (by kernel_rfl) rfl (z2 (by kernel_rfl)) (z3 (by kernel_rfl)) rfl rfl rfl (y1O (cs:=(e50 (nth z4 (i64 ((u64 (i64 (z1t + z1A))) / 2 ^ min (1 : Int).toNat 64))))) y2c rfl rfl (y20 .here (y1J (enc:=e50) (l:=z4) (i:=i64 ((u64 (i64 (z1t + z1A))) / 2 ^ min (1 : Int).toNat 64)) (sz:=3) (fun _=>rfl) zf7.1 zf7.2))) ?_
              refine WD.c (i:=9) (d:=101) (by kernel_rfl) rfl (z2 (by kernel_rfl)) (z3 (by kernel_rfl)) rfl rfl rfl (y3E (l:=[.tmp 96,.tmp 100]) (f:=z1f) (caps:=z1q) z6i rfl (.cons rfl (.cons rfl .nil))) (fun w hw=>z6j w (hz.now hw) (⟨((nth z4 zs).fSent),((nth z4 zs).fNode),((nth z4 zs).fTime)⟩ : Sapi_Come) (⟨((nth z4 (i64 ((u64 (i64 (z1t + z1A))) / 2 ^ min (1 : Int).toNat 64))).fSent),((nth z4 (i64 ((u64 (i64 (z1t + z1A))) / 2 ^ min (1 : Int).toNat 64))).fNode),((nth z4 (i64 ((u64 (i64 (z1t + z1A))) / 2 ^ min (1 : Int).toNat 64))).fTime)⟩ : Sapi_Come) zir  zst) ?_
              refine WD.a (i:=10) (d:=102) (by kernel_rfl) rfl (z2 (by kernel_rfl)) (z3 (by kernel_rfl)) rfl rfl rfl (fun _=>y3n rfl rfl) ?_
              refine WD.a (i:=11) (d:=103) (by kernel_rfl) rfl (z2 (by kernel_rfl)) (z3 (by kernel_rfl)) rfl rfl rfl (fun _=>q_not rfl) ?_
              refine WD.done (by kernel_rfl) ?_
              refine WX.a ?_
              refine WC.cond rfl (fun ziD=>?_) (fun ziD=>?_)
              · replace h:=ym h ziD
                refine WC.a (WL.pu rfl (WL.pu rfl (WL.pu rfl (WL.nil (WX.yg ?_)))))
                exact WX.round (G:=Nat × Int × Int) ⟨zdu,(i64 ((i64 ((u64 (i64 (z1t + z1A))) / 2 ^ min (1 : Int).toNat 64)) + 1)),z1A⟩ h (Nat.lt_succ_self _) (.cons rfl (.cons rfl (.cons rfl (.cons rfl (.cons rfl .nil))))) (.cons .here .nil)
              · replace h:=yn h ziD
                refine WC.a (WL.pu rfl (WL.pu rfl (WL.nil (WX.yg ?_))))
                exact WX.round (G:=Nat × Int × Int) ⟨zdu,z1t,(i64 ((u64 (i64 (z1t + z1A))) / 2 ^ min (1 : Int).toNat 64))⟩ h (Nat.lt_succ_self _) (.cons rfl (.cons rfl (.cons rfl (.cons rfl (.cons rfl .nil))))) (.cons .here .nil)
            · replace h:=yn h ziC
              refine WC.exit (WX.yd (WX.yd (WX.yA ?_)))
              exact WX.mid (G:=Int) z1t h (.cons rfl (.cons rfl (.cons rfl .nil))) (.cons .here .nil)
          · rintro z3b h
            replace h:=(zss z3b).symm.trans h
            obtain ⟨z7g,zsu,h⟩:=y19 h
            refine WC.y1H (fun (z6g : List Sapi_Come)=>(z7g z6g = some r) ∧ (z6g.length = z4.length)) (fun (z6g : List Sapi_Come)=>[]) (fun (z6g : List Sapi_Come)=>[row (.slice zK z6g.length zC) 50 3 (z6g.flatMap e50)]) ?_ ?_
            · skip
              refine WC.b (WC.a (WL.pu rfl (WL.pu rfl (WL.nil (WX.a (WC.block ?_))))))
              refine WC.y28 (fun (zb7 : Nat) (zp : List Sapi_Come) (zj : Int)=>(yQ z3b z7g zb7 zp zj = some r) ∧ (zp.length = z4.length)) (fun (zb7 : Nat) (zp : List Sapi_Come) (zj : Int)=>[(0,(.slice zK zp.length zC)),(14,(.int .i64 z3b)),(17,(.int .i64 zj))]) (fun (zb7 : Nat) (zp : List Sapi_Come) (zj : Int)=>[row (.slice zK zp.length zC) 50 3 (zp.flatMap e50)]) (fun (zb7 : Nat) (zp : List Sapi_Come) (zj : Int)=>zb7) ⟨yz,z4,zs⟩ ⟨h,rfl⟩ (.cons rfl (.cons rfl (.cons rfl .nil))) (.cons .here .nil) ?_
              rintro zb7 zp zj ⟨h,zn0⟩
              obtain ⟨zis,rfl⟩:=y3C h
              rw [yQ] at h
              refine WC.b (WC.b (WC.a (WL.pu rfl (WL.pu rfl (WL.pu rfl (WL.nil (WX.a ?_)))))))
              refine WC.cond rfl (fun ziE=>?_) (fun ziE=>?_)
              · replace h:=ym h ziE
                refine WC.skip (WX.a (WC.b (WC.block ?_)))
                obtain ⟨zdB,h⟩:=yj h
                obtain ⟨z6l,h⟩:=yj h
                obtain ⟨zb8,h⟩:=yj h
                refine WC.yZ (fun i=>[15,17].contains i) [] rfl ?_
                refine WD.a (i:=0) (d:=113) (by kernel_rfl) rfl (z2 (by kernel_rfl)) (z3 (by kernel_rfl)) rfl rfl rfl (fun _=>q_m rfl) ?_
                refine WD.a (i:=1) (d:=114) (by kernel_rfl) rfl (z2 (by kernel_rfl)) (z3 (by kernel_rfl)) rfl rfl rfl (fun _=>q_m rfl) ?_
                refine WD.a (i:=2) (d:=115) (by kernel_rfl) rfl (z2 (by kernel_rfl)) (z3 (by kernel_rfl)) rfl rfl rfl (fun _=>q_m rfl) ?_
                refine WD.a (i:=3) (d:=116) (by kernel_rfl) rfl (z2 (by kernel_rfl)) (z3 (by kernel_rfl)) rfl rfl rfl (fun _=>q_m rfl) ?_
                refine WD.a (i:=4) (d:=117) (by kernel_rfl) rfl (z2 (by kernel_rfl)) (z3 (by kernel_rfl)) rfl rfl rfl (fun _=>y4E rfl rfl rfl) ?_
                refine WD.a (i:=5) (d:=118) (by kernel_rfl) rfl (z2 (by kernel_rfl)) (z3 (by kernel_rfl)) rfl rfl rfl (fun _=>q_m rfl) ?_
                refine WD.a (i:=6) (d:=119) (by kernel_rfl) rfl (z2 (by kernel_rfl)) (z3 (by kernel_rfl)) rfl rfl rfl (fun _=>q_m rfl) ?_
                refine WD.a (i:=7) (d:=120) (by kernel_rfl) rfl (z2 (by kernel_rfl)) (z3 (by kernel_rfl)) rfl rfl rfl (fun _=>y4E rfl rfl rfl) ?_
                refine WD.know (fun w hw=>Hp.y2j .here hw (by intro hz'; have:=zdB; rw [hz'] at this; omega)) ?_
                rintro ⟨zdC,rfl⟩
                refine WD.a (i:=8) (d:=121) (by kernel_rfl) rfl (z2 (by kernel_rfl)) (z3 (by kernel_rfl)) rfl rfl rfl (fun _=>yr y16 rfl rfl zdB.1 zdB.2 y1b) ?_
                refine WD.e (i:=9) (d:=122) (by kernel_rfl) rfl (z2 (by kernel_rfl)) (z3 (by kernel_rfl)) rfl rfl rfl (y1O (cs:=(e50 (nth zp (i64 (zj - 1))))) y2c rfl rfl (y20 .here (y1J (enc:=e50) (l:=zp) (i:=i64 (zj - 1)) (sz:=3) (fun _=>rfl) zdB.1 zdB.2))) ?_
                refine WD.a (i:=10) (d:=123) (by kernel_rfl) rfl (z2 (by kernel_rfl)) (z3 (by kernel_rfl)) rfl rfl rfl (fun _=>q_m rfl) ?_
                refine WD.a (i:=11) (d:=124) (by kernel_rfl) rfl (z2 (by kernel_rfl)) (z3 (by kernel_rfl)) rfl rfl rfl (fun _=>q_m rfl) ?_
                refine WD.a (i:=12) (d:=125) (by kernel_rfl) rfl (z2 (by kernel_rfl)) (z3 (by kernel_rfl)) rfl rfl rfl (fun _=>yr y16 rfl rfl z6l.1 z6l.2 y1b) ?_
                refine WD.e (i:=13) (d:=126) (by kernel_rfl) rfl (z2 (by kernel_rfl)) (z3 (by kernel_rfl)) rfl rfl rfl (y1O (cs:=(e50 (nth zp zj))) y2c rfl rfl (y20 .here (y1J (enc:=e50) (l:=zp) (i:=zj) (sz:=3) (fun _=>rfl) z6l.1 z6l.2))) ?_
                refine WD.a (i:=14) (d:=127) (by kernel_rfl) rfl (z2 (by kernel_rfl)) (z3 (by kernel_rfl)) rfl rfl rfl (fun _=>yr y16 rfl rfl z6l.1 z6l.2 y1b) ?_
                refine WD.forced0 (i:=15) rfl (by kernel_rfl) rfl rfl rfl (Sin.of .nil) (y24 (vs:=[(.int .i64 ((nth zp (i64 (zj - 1))).fSent)),(.int .i64 ((nth zp (i64 (zj - 1))).fNode)),(.int .i64 ((nth zp (i64 (zj - 1))).fTime))]) (ds:=(zp.set (zj : Int).toNat (⟨((nth zp (i64 (zj - 1))).fSent),((nth zp (i64 (zj - 1))).fNode),((nth zp (i64 (zj - 1))).fTime)⟩ : Sapi_Come)).flatMap e50) y4e rfl rfl rfl rfl (ocB rfl) .here (y2B (enc:=e50) (sz:=3) (k:=0) (fun _=>rfl) z6l.1 z6l.2 (by decide)) (y2A (enc:=e50) (l:=zp) (sz:=3) (vs:=[(.int .i64 ((nth zp (i64 (zj - 1))).fSent)),(.int .i64 ((nth zp (i64 (zj - 1))).fNode)),(.int .i64 ((nth zp (i64 (zj - 1))).fTime))]) (y:=(⟨((nth zp (i64 (zj - 1))).fSent),((nth zp (i64 (zj - 1))).fNode),((nth zp (i64 (zj - 1))).fTime)⟩ : Sapi_Come)) (k:=0) (fun _=>rfl) z6l.1 z6l.2 rfl (Nat.le_of_ble_eq_true rfl))) ?_
                refine WD.relen .here (u:=(.slice (some ⟨zdC,0,none⟩) ((zp.set (zj : Int).toNat (⟨((nth zp (i64 (zj - 1))).fSent),((nth zp (i64 (zj - 1))).fNode),((nth zp (i64 (zj - 1))).fTime)⟩ : Sapi_Come)).length) zC)) (y1z (List.length_set).symm) ?_
                refine WD.repin (i:=0) rfl (u:=(.slice (some ⟨zdC,0,none⟩) ((zp.set (zj : Int).toNat (⟨((nth zp (i64 (zj - 1))).fSent),((nth zp (i64 (zj - 1))).fNode),((nth zp (i64 (zj - 1))).fTime)⟩ : Sapi_Come)).length) zC)) (y1z (List.length_set).symm) ?_
                refine WD.repin (i:=115) rfl (u:=(.slice (some ⟨zdC,0,none⟩) ((zp.set (zj : Int).toNat (⟨((nth zp (i64 (zj - 1))).fSent),((nth zp (i64 (zj - 1))).fNode),((nth zp (i64 (zj - 1))).fTime)⟩ : Sapi_Come)).length) zC)) (y1z (List.length_set).symm) ?_
                refine WD.a (i:=16) (d:=128) (by kernel_rfl) rfl (z2 (by kernel_rfl)) (z3 (by kernel_rfl)) rfl rfl rfl (fun _=>yr y16 rfl rfl zb8.1 zb8.2 y1b) ?_
                refine WD.y36 (i:=17) rfl (by kernel_rfl) rfl rfl rfl (by kernel_rfl) (y24 (vs:=[(.int .i64 ((nth zp zj).fSent)),(.int .i64 ((nth zp zj).fNode)),(.int .i64 ((nth zp zj).fTime))]) (ds:=((zp.set (zj : Int).toNat (⟨((nth zp (i64 (zj - 1))).fSent),((nth zp (i64 (zj - 1))).fNode),((nth zp (i64 (zj - 1))).fTime)⟩ : Sapi_Come)).set ((i64 (zj - 1)) : Int).toNat (⟨((nth zp zj).fSent),((nth zp zj).fNode),((nth zp zj).fTime)⟩ : Sapi_Come)).flatMap e50) y4e rfl rfl rfl rfl (ocB rfl) .here (y2B (enc:=e50) (sz:=3) (k:=0) (fun _=>rfl) zb8.1 zb8.2 (by decide)) (y2A (enc:=e50) (l:=zp.set (zj : Int).toNat (⟨((nth zp (i64 (zj - 1))).fSent),((nth zp (i64 (zj - 1))).fNode),((nth zp (i64 (zj - 1))).fTime)⟩ : Sapi_Come)) (sz:=3) (vs:=[(.int .i64 ((nth zp zj).fSent)),(.int .i64 ((nth zp zj).fNode)),(.int .i64 ((nth zp zj).fTime))]) (y:=(⟨((nth zp zj).fSent),((nth zp zj).fNode),((nth zp zj).fTime)⟩ : Sapi_Come)) (k:=0) (fun _=>rfl) zb8.1 zb8.2 rfl (Nat.le_of_ble_eq_true rfl))) ?_
                refine WD.relen .here (u:=(.slice (some ⟨zdC,0,none⟩) (((zp.set (zj : Int).toNat (⟨((nth zp (i64 (zj - 1))).fSent),((nth zp (i64 (zj - 1))).fNode),((nth zp (i64 (zj - 1))).fTime)⟩ : Sapi_Come)).set ((i64 (zj - 1)) : Int).toNat (⟨((nth zp zj).fSent),((nth zp zj).fNode),((nth zp zj).fTime)⟩ : Sapi_Come)).length) zC)) (y1z (List.length_set).symm) ?_
                refine WD.repin (i:=0) rfl (u:=(.slice (some ⟨zdC,0,none⟩) (((zp.set (zj : Int).toNat (⟨((nth zp (i64 (zj - 1))).fSent),((nth zp (i64 (zj - 1))).fNode),((nth zp (i64 (zj - 1))).fTime)⟩ : Sapi_Come)).set ((i64 (zj - 1)) : Int).toNat (⟨((nth zp zj).fSent),((nth zp zj).fNode),((nth zp zj).fTime)⟩ : Sapi_Come)).length) zC)) (y1z (List.length_set).symm) ?_
                refine WD.done (by kernel_rfl) ?_
                refine WX.yg (WX.a (WC.a (WL.pu rfl (WL.pu rfl (WL.pu rfl (WL.nil ?_))))))
                exact WX.round (G:=Nat × List Sapi_Come × Int) ⟨zis,((zp.set (zj : Int).toNat (⟨((nth zp (i64 (zj - 1))).fSent),((nth zp (i64 (zj - 1))).fNode),((nth zp (i64 (zj - 1))).fTime)⟩ : Sapi_Come)).set ((i64 (zj - 1)) : Int).toNat (⟨((nth zp zj).fSent),((nth zp zj).fNode),((nth zp zj).fTime)⟩ : Sapi_Come)),(i64 (zj - 1))⟩ ⟨h,((List.length_set).trans ((List.length_set).trans zn0))⟩ (Nat.lt_succ_self _) (.cons rfl (.cons rfl (.cons rfl .nil))) (.cons .here .nil)
              · replace h:=yn h ziE
                refine WC.exit (WX.yd (WX.yd (WX.yA ?_)))
                exact WX.mid (G:=List Sapi_Come) zp ⟨h,zn0⟩ .nil (.cons .here .nil)
            · rintro z6g ⟨h,zsv⟩
              replace h:=(zsu z6g).symm.trans h
              refine WC.ret (WX.yi ?_)
              obtain rfl:=Option.some.inj h
              refine WX.yh Try.results67 .nil (fun w hw=>?_)
              exact ⟨y49,zsv,hw.sub (.cons .here .nil)⟩
        · replace h:=yn h ziB
          refine WC.skip ?_
          exact WX.mid (G:=Unit) () h (.cons rfl (.cons rfl (.cons rfl (.cons rfl (.cons rfl .nil))))) (.cons .here .nil)
      · rintro  h
        replace h:=zsr.symm.trans h
        refine WC.b (WC.a (WL.pu rfl (WL.pu rfl (WL.pu rfl ?_))))
        refine WL.a (d:=132) rfl rfl rfl (y4j Try.underlying3 Try.underlying157 rfl rfl) ?_
        refine WL.a (d:=133) rfl rfl rfl (q_shr rfl rfl (by decide) rfl) ?_
        refine WL.a (d:=134) rfl rfl rfl (y4j Try.underlying157 Try.underlying3 rfl rfl) ?_
        refine WL.pu rfl (WL.nil (WX.a (WC.b (WC.a (WL.pu rfl (WL.pu rfl (WL.pu rfl (WL.pu rfl (WL.nil (WX.a (WC.b (WC.a (WL.pu rfl (WL.pu rfl (WL.nil ?_)))))))))))))))
        refine WX.a ?_
        obtain ⟨zf5,zsw,h⟩:=y3m h
        refine WC.y2R (fun (z7h : Int) (z7i : Int)=>(zf5 z7h z7i = some r)) (fun (z7h : Int) (z7i : Int)=>[(0,(.slice zK z4.length zC)),(1,(.int .i64 zk)),(2,(.int .i64 zs)),(3,(.int .i64 zw)),(4,(.func (.func z1f) #[] (z1q).toArray)),(18,(.int .i64 (i64 ((u64 (i64 (zk + zw))) / 2 ^ min (1 : Int).toNat 64)))),(19,(.int .i64 (i64 ((i64 ((u64 (i64 (zk + zw))) / 2 ^ min (1 : Int).toNat 64)) + zs)))),(20,(.int .i64 z7h)),(21,(.int .i64 z7i))]) (fun (z7h : Int) (z7i : Int)=>[row (.slice zK z4.length zC) 50 3 (z4.flatMap e50)]) ?_ ?_
        · skip
          refine WC.b (WC.a (WL.pu rfl (WL.pu rfl (WL.pu rfl (WL.nil (WX.a ?_))))))
          refine WC.cond rfl (fun ziF=>?_) (fun ziF=>?_)
          · replace h:=ym h ziF
            refine WC.b (WC.a (WL.pu rfl (WL.pu rfl (WL.pu rfl (WL.pu rfl (WL.nil (WX.a (WC.a (WL.pu rfl (WL.pu rfl (WL.nil ?_)))))))))))
            exact WX.mid (G:=Int × Int) ⟨(i64 ((i64 ((i64 ((u64 (i64 (zk + zw))) / 2 ^ min (1 : Int).toNat 64)) + zs)) - zw)),(i64 ((u64 (i64 (zk + zw))) / 2 ^ min (1 : Int).toNat 64))⟩ h (.cons rfl (.cons rfl (.cons rfl (.cons rfl (.cons rfl (.cons rfl (.cons rfl (.cons rfl (.cons rfl .nil))))))))) (.cons .here .nil)
          · replace h:=yn h ziF
            refine WC.b (WC.a (WL.pu rfl (WL.pu rfl (WL.nil (WX.a (WC.a (WL.pu rfl (WL.pu rfl (WL.nil ?_)))))))))
            exact WX.mid (G:=Int × Int) ⟨zk,zs⟩ h (.cons rfl (.cons rfl (.cons rfl (.cons rfl (.cons rfl (.cons rfl (.cons rfl (.cons rfl (.cons rfl .nil))))))))) (.cons .here .nil)
        · rintro z7h z7i h
          replace h:=(zsw z7h z7i).symm.trans h
          refine WC.b (WC.a (WL.pu rfl (WL.pu rfl (WL.pu rfl (WL.nil (WX.a ?_))))))
          obtain ⟨z6f,zsx,h⟩:=y19 h
          refine WC.y1H (fun (z1u : Int)=>(z6f z1u = some r)) (fun (z1u : Int)=>[(0,(.slice zK z4.length zC)),(1,(.int .i64 zk)),(2,(.int .i64 zs)),(3,(.int .i64 zw)),(4,(.func (.func z1f) #[] (z1q).toArray)),(18,(.int .i64 (i64 ((u64 (i64 (zk + zw))) / 2 ^ min (1 : Int).toNat 64)))),(19,(.int .i64 (i64 ((i64 ((u64 (i64 (zk + zw))) / 2 ^ min (1 : Int).toNat 64)) + zs)))),(20,(.int .i64 z1u))]) (fun (z1u : Int)=>[row (.slice zK z4.length zC) 50 3 (z4.flatMap e50)]) ?_ ?_
          · skip
            refine WC.block ?_
            refine WC.y28 (fun (zb9 : Nat) (z12 : Int) (z17 : Int)=>(yE zk zw zs z4 zR z6f zb9 z12 z17 = some r)) (fun (zb9 : Nat) (z12 : Int) (z17 : Int)=>[(0,(.slice zK z4.length zC)),(1,(.int .i64 zk)),(2,(.int .i64 zs)),(3,(.int .i64 zw)),(4,(.func (.func z1f) #[] (z1q).toArray)),(18,(.int .i64 (i64 ((u64 (i64 (zk + zw))) / 2 ^ min (1 : Int).toNat 64)))),(19,(.int .i64 (i64 ((i64 ((u64 (i64 (zk + zw))) / 2 ^ min (1 : Int).toNat 64)) + zs)))),(20,(.int .i64 z12)),(21,(.int .i64 z17)),(22,(.int .i64 (i64 ((i64 ((i64 ((u64 (i64 (zk + zw))) / 2 ^ min (1 : Int).toNat 64)) + zs)) - 1))))]) (fun (zb9 : Nat) (z12 : Int) (z17 : Int)=>[row (.slice zK z4.length zC) 50 3 (z4.flatMap e50)]) (fun (zb9 : Nat) (z12 : Int) (z17 : Int)=>zb9) ⟨yz,z7h,z7i⟩ h (.cons rfl (.cons rfl (.cons rfl (.cons rfl (.cons rfl (.cons rfl (.cons rfl (.cons rfl (.cons rfl (.cons rfl .nil)))))))))) (.cons .here .nil) ?_
            rintro zb9 z12 z17 h
            obtain ⟨zdv,rfl⟩:=y3w h
            rw [yE] at h
            refine WC.b (WC.b (WC.a (WL.pu rfl (WL.pu rfl (WL.pu rfl (WL.nil (WX.a ?_)))))))
            refine WC.cond rfl (fun ziG=>?_) (fun ziG=>?_)
            · replace h:=ym h ziG
              refine WC.skip (WX.a (WC.block (WC.b (WC.a (WL.pu rfl (WL.pu rfl (WL.pu rfl ?_)))))))
              refine WL.a (d:=155) rfl rfl rfl (y4j Try.underlying3 Try.underlying157 rfl rfl) ?_
              refine WL.a (d:=156) rfl rfl rfl (q_shr rfl rfl (by decide) rfl) ?_
              refine WL.a (d:=157) rfl rfl rfl (y4j Try.underlying157 Try.underlying3 rfl rfl) ?_
              refine WL.pu rfl (WL.nil (WX.a (WC.b ?_)))
              obtain ⟨zdD,h⟩:=yj h
              obtain ⟨zf8,h⟩:=yj h
              obtain ⟨zit,zsy,h⟩:=zf h
              refine WC.yZ (fun i=>[].contains i) [] rfl ?_
              refine WD.a (i:=0) (d:=158) (by kernel_rfl) rfl (z2 (by kernel_rfl)) (z3 (by kernel_rfl)) rfl rfl rfl (fun _=>q_m rfl) ?_
              refine WD.a (i:=1) (d:=159) (by kernel_rfl) rfl (z2 (by kernel_rfl)) (z3 (by kernel_rfl)) rfl rfl rfl (fun _=>q_m rfl) ?_
              refine WD.a (i:=2) (d:=160) (by kernel_rfl) rfl (z2 (by kernel_rfl)) (z3 (by kernel_rfl)) rfl rfl rfl (fun _=>q_m rfl) ?_
              refine WD.a (i:=3) (d:=161) (by kernel_rfl) rfl (z2 (by kernel_rfl)) (z3 (by kernel_rfl)) rfl rfl rfl (fun _=>q_m rfl) ?_
              refine WD.a (i:=4) (d:=162) (by kernel_rfl) rfl (z2 (by kernel_rfl)) (z3 (by kernel_rfl)) rfl rfl rfl (fun _=>y4E rfl rfl rfl) ?_
              refine WD.know (fun w hw=>Hp.y2j .here hw (by intro hz'; have:=zdD; rw [hz'] at this; omega)) ?_
              rintro ⟨zxg,rfl⟩
              refine WD.a (i:=5) (d:=163) (by kernel_rfl) rfl (z2 (by kernel_rfl)) (z3 (by kernel_rfl)) rfl rfl rfl (fun _=>yr y16 rfl rfl zdD.1 zdD.2 y1b) ?_
              refine WD.e (i:=6) (d:=164) (by kernel_rfl) rfl (z2 (by kernel_rfl)) (z3 (by kernel_rfl)) rfl rfl rfl (y1O (cs:=(e50 (nth z4 (i64 ((i64 ((i64 ((i64 ((u64 (i64 (zk + zw))) / 2 ^ min (1 : Int).toNat 64)) + zs)) - 1)) - (i64 ((u64 (i64 (z12 + z17))) / 2 ^ min (1 : Int).toNat 64))))))) y2c rfl rfl (y20 .here (y1J (enc:=e50) (l:=z4) (i:=i64 ((i64 ((i64 ((i64 ((u64 (i64 (zk + zw))) / 2 ^ min (1 : Int).toNat 64)) + zs)) - 1)) - (i64 ((u64 (i64 (z12 + z17))) / 2 ^ min (1 : Int).toNat 64)))) (sz:=3) (fun _=>rfl) zdD.1 zdD.2))) ?_
              refine WD.a (i:=7) (d:=165) (by kernel_rfl) rfl (z2 (by kernel_rfl)) (z3 (by kernel_rfl)) rfl rfl rfl (fun _=>q_m rfl) ?_
              refine WD.a (i:=8) (d:=166) (by kernel_rfl) rfl (z2 (by kernel_rfl)) (z3 (by kernel_rfl)) rfl rfl rfl (fun _=>q_m rfl) ?_
              refine WD.a (i:=9) (d:=167) (by kernel_rfl) rfl (z2 (by kernel_rfl)) (z3 (by kernel_rfl)) rfl rfl rfl (fun _=>yr y16 rfl rfl zf8.1 zf8.2 y1b) ?_
              refine WD.e (i:=10) (d:=168) (by kernel_rfl) rfl (z2 (by kernel_rfl)) (z3 (by kernel_rfl)) rfl rfl rfl (y1O (cs:=(e50 (nth z4 (i64 ((u64 (i64 (z12 + z17))) / 2 ^ min (1 : Int).toNat 64))))) y2c rfl rfl (y20 .here (y1J (enc:=e50) (l:=z4) (i:=i64 ((u64 (i64 (z12 + z17))) / 2 ^ min (1 : Int).toNat 64)) (sz:=3) (fun _=>rfl) zf8.1 zf8.2))) ?_
              refine WD.c (i:=11) (d:=169) (by kernel_rfl) rfl (z2 (by kernel_rfl)) (z3 (by kernel_rfl)) rfl rfl rfl (y3E (l:=[.tmp 164,.tmp 168]) (f:=z1f) (caps:=z1q) z6i rfl (.cons rfl (.cons rfl .nil))) (fun w hw=>z6j w (hz.now hw) (⟨((nth z4 (i64 ((i64 ((i64 ((i64 ((u64 (i64 (zk + zw))) / 2 ^ min (1 : Int).toNat 64)) + zs)) - 1)) - (i64 ((u64 (i64 (z12 + z17))) / 2 ^ min (1 : Int).toNat 64))))).fSent),((nth z4 (i64 ((i64 ((i64 ((i64 ((u64 (i64 (zk + zw))) / 2 ^ min (1 : Int).toNat 64)) + zs)) - 1)) - (i64 ((u64 (i64 (z12 + z17))) / 2 ^ min (1 : Int).toNat 64))))).fNode),((nth z4 (i64 ((i64 ((i64 ((i64 ((u64 (i64 (zk + zw))) / 2 ^ min (1 : Int).toNat 64)) + zs)) - 1)) - (i64 ((u64 (i64 (z12 + z17))) / 2 ^ min (1 : Int).toNat 64))))).fTime)⟩ : Sapi_Come) (⟨((nth z4 (i64 ((u64 (i64 (z12 + z17))) / 2 ^ min (1 : Int).toNat 64))).fSent),((nth z4 (i64 ((u64 (i64 (z12 + z17))) / 2 ^ min (1 : Int).toNat 64))).fNode),((nth z4 (i64 ((u64 (i64 (z12 + z17))) / 2 ^ min (1 : Int).toNat 64))).fTime)⟩ : Sapi_Come) zit  zsy) ?_
              refine WD.a (i:=12) (d:=170) (by kernel_rfl) rfl (z2 (by kernel_rfl)) (z3 (by kernel_rfl)) rfl rfl rfl (fun _=>y3n rfl rfl) ?_
              refine WD.a (i:=13) (d:=171) (by kernel_rfl) rfl (z2 (by kernel_rfl)) (z3 (by kernel_rfl)) rfl rfl rfl (fun _=>q_not rfl) ?_
              refine WD.done (by kernel_rfl) ?_
              refine WX.a ?_
              refine WC.cond rfl (fun ziH=>?_) (fun ziH=>?_)
              · replace h:=ym h ziH
                refine WC.a (WL.pu rfl (WL.pu rfl (WL.pu rfl (WL.nil (WX.yg ?_)))))
                exact WX.round (G:=Nat × Int × Int) ⟨zdv,(i64 ((i64 ((u64 (i64 (z12 + z17))) / 2 ^ min (1 : Int).toNat 64)) + 1)),z17⟩ h (Nat.lt_succ_self _) (.cons rfl (.cons rfl (.cons rfl (.cons rfl (.cons rfl (.cons rfl (.cons rfl (.cons rfl (.cons rfl (.cons rfl .nil)))))))))) (.cons .here .nil)
              · replace h:=yn h ziH
                refine WC.a (WL.pu rfl (WL.pu rfl (WL.nil (WX.yg ?_))))
                exact WX.round (G:=Nat × Int × Int) ⟨zdv,z12,(i64 ((u64 (i64 (z12 + z17))) / 2 ^ min (1 : Int).toNat 64))⟩ h (Nat.lt_succ_self _) (.cons rfl (.cons rfl (.cons rfl (.cons rfl (.cons rfl (.cons rfl (.cons rfl (.cons rfl (.cons rfl (.cons rfl .nil)))))))))) (.cons .here .nil)
            · replace h:=yn h ziG
              refine WC.exit (WX.yd (WX.yd (WX.yA ?_)))
              exact WX.mid (G:=Int) z12 h (.cons rfl (.cons rfl (.cons rfl (.cons rfl (.cons rfl (.cons rfl (.cons rfl (.cons rfl .nil)))))))) (.cons .here .nil)
          · rintro z1u h
            replace h:=(zsx z1u).symm.trans h
            refine WC.b (WC.a (WL.pu rfl (WL.pu rfl (WL.pu rfl (WL.pu rfl (WL.nil (WX.a ?_)))))))
            obtain ⟨zf3,zsz,h⟩:=y19 h
            refine WC.y1H (fun (z3q : List Sapi_Come)=>(zf3 z3q = some r) ∧ (z3q.length = z4.length)) (fun (z3q : List Sapi_Come)=>[(0,(.slice zK z3q.length zC)),(1,(.int .i64 zk)),(3,(.int .i64 zw)),(4,(.func (.func z1f) #[] (z1q).toArray)),(18,(.int .i64 (i64 ((u64 (i64 (zk + zw))) / 2 ^ min (1 : Int).toNat 64)))),(20,(.int .i64 z1u)),(24,(.int .i64 (i64 ((i64 ((i64 ((u64 (i64 (zk + zw))) / 2 ^ min (1 : Int).toNat 64)) + zs)) - z1u))))]) (fun (z3q : List Sapi_Come)=>[row (.slice zK z3q.length zC) 50 3 (z3q.flatMap e50)]) ?_ ?_
            · skip
              refine WC.b (WC.a (WL.pu rfl (WL.pu rfl (WL.pu rfl (WL.pu rfl ?_)))))
              refine WL.seg true 3 181 (B:=(decide (z1u < zs)) && (decide (zs < (i64 ((i64 ((i64 ((u64 (i64 (zk + zw))) / 2 ^ min (1 : Int).toNat 64)) + zs)) - z1u))))) rfl rfl rfl rfl rfl rfl (fun h=>(y2K h).symm) (fun _ zsA=>?_) ?_
              · skip
                refine WL.pu rfl (WL.pu rfl (WL.pu rfl (WL.pu rfl ?_)))
                exact WL.ys (y2L zsA) rfl rfl .all
              refine WL.nil (WX.a ?_)
              refine WC.cond rfl (fun ziI=>?_) (fun ziI=>?_)
              · replace h:=ym h ziI
                obtain ⟨zf4,zsB,h⟩:=zf h
                refine WC.a (WL.pu rfl (WL.pu rfl (WL.pu rfl (WL.pu rfl (WL.pu rfl ?_)))))
                refine WL.y1K (dd:=191) rfl rfl rfl (zy (l:=[.tmp 186,.tmp 187,.tmp 188,.tmp 189,.tmp 190]) Try.call68 (.cons rfl (.cons rfl (.cons rfl (.cons rfl (.cons rfl .nil)))))) (.cons .here .nil) (cc hz (.cons .here .nil) fun w pz ho=>y4f _ _ _ (z4y:=z1f) (z6c:=z1q) _ _ _ _ (z2N:=zR) _ zsB w pz z6i z6j ho) ?_
                rintro  zn1
                refine WL.repin (i:=0) rfl (u:=(.slice zK zf4.length zC)) (y1z zn1.symm) ?_
                refine WL.nil ?_
                exact WX.mid (G:=List Sapi_Come) zf4 ⟨h,(zn1.trans rfl)⟩ (.cons rfl (.cons rfl (.cons rfl (.cons rfl (.cons rfl (.cons rfl (.cons rfl .nil))))))) (.cons .here .nil)
              · replace h:=yn h ziI
                refine WC.skip ?_
                exact WX.mid (G:=List Sapi_Come) z4 ⟨h,rfl⟩ (.cons rfl (.cons rfl (.cons rfl (.cons rfl (.cons rfl (.cons rfl (.cons rfl .nil))))))) (.cons .here .nil)
            · rintro z3q ⟨h,zn2⟩
              replace h:=(zsz z3q).symm.trans h
              obtain ⟨zf2,zsC,h⟩:=y19 h
              refine WC.y1H (fun (z3E : List Sapi_Come)=>(zf2 z3E = some r) ∧ (z3E.length = z4.length)) (fun (z3E : List Sapi_Come)=>[(0,(.slice zK z3E.length zC)),(3,(.int .i64 zw)),(4,(.func (.func z1f) #[] (z1q).toArray)),(18,(.int .i64 (i64 ((u64 (i64 (zk + zw))) / 2 ^ min (1 : Int).toNat 64)))),(24,(.int .i64 (i64 ((i64 ((i64 ((u64 (i64 (zk + zw))) / 2 ^ min (1 : Int).toNat 64)) + zs)) - z1u))))]) (fun (z3E : List Sapi_Come)=>[row (.slice zK z3E.length zC) 50 3 (z3E.flatMap e50)]) ?_ ?_
              · skip
                refine WC.b (WC.a (WL.pu rfl (WL.pu rfl (WL.pu rfl (WL.pu rfl ?_)))))
                refine WL.seg true 3 195 (B:=(decide (zk < z1u)) && (decide (z1u < (i64 ((u64 (i64 (zk + zw))) / 2 ^ min (1 : Int).toNat 64))))) rfl rfl rfl rfl rfl rfl (fun h=>(y2K h).symm) (fun _ zsD=>?_) ?_
                · skip
                  refine WL.pu rfl (WL.pu rfl (WL.pu rfl (WL.pu rfl ?_)))
                  exact WL.ys (y2L zsD) rfl rfl .all
                refine WL.nil (WX.a ?_)
                refine WC.cond rfl (fun ziJ=>?_) (fun ziJ=>?_)
                · replace h:=ym h ziJ
                  obtain ⟨zdw,zsE,h⟩:=zf h
                  refine WC.a (WL.pu rfl (WL.pu rfl (WL.pu rfl (WL.pu rfl (WL.pu rfl ?_)))))
                  refine WL.y1K (dd:=205) rfl rfl rfl (zy (l:=[.tmp 200,.tmp 201,.tmp 202,.tmp 203,.tmp 204]) Try.call67 (.cons rfl (.cons rfl (.cons rfl (.cons rfl (.cons rfl .nil)))))) (.cons .here .nil) (cc hz (.cons .here .nil) fun w pz ho=>ih (Z:=_) (zK:=zK) (zC:=zC) (z1f:=z1f) (z1q:=z1q) (z4:=z3q) (zk:=zk) (zs:=z1u) (zw:=(i64 ((u64 (i64 (zk + zw))) / 2 ^ min (1 : Int).toNat 64))) (zR:=zR) (r:=zdw) w pz z6i z6j zsE ho) ?_
                  rintro  zn3
                  refine WL.repin (i:=0) rfl (u:=(.slice zK zdw.length zC)) (y1z zn3.symm) ?_
                  refine WL.nil ?_
                  exact WX.mid (G:=List Sapi_Come) zdw ⟨h,(zn3.trans zn2)⟩ (.cons rfl (.cons rfl (.cons rfl (.cons rfl (.cons rfl .nil))))) (.cons .here .nil)
                · replace h:=yn h ziJ
                  refine WC.skip ?_
                  exact WX.mid (G:=List Sapi_Come) z3q ⟨h,zn2⟩ (.cons rfl (.cons rfl (.cons rfl (.cons rfl (.cons rfl .nil))))) (.cons .here .nil)
              · rintro z3E ⟨h,zn4⟩
                replace h:=(zsC z3E).symm.trans h
                refine WC.b (WC.a (WL.pu rfl (WL.pu rfl (WL.pu rfl (WL.pu rfl ?_)))))
                refine WL.seg true 3 209 (B:=(decide ((i64 ((u64 (i64 (zk + zw))) / 2 ^ min (1 : Int).toNat 64)) < (i64 ((i64 ((i64 ((u64 (i64 (zk + zw))) / 2 ^ min (1 : Int).toNat 64)) + zs)) - z1u)))) && (decide ((i64 ((i64 ((i64 ((u64 (i64 (zk + zw))) / 2 ^ min (1 : Int).toNat 64)) + zs)) - z1u)) < zw))) rfl rfl rfl rfl rfl rfl (fun h=>(y2K h).symm) (fun _ zsF=>?_) ?_
                · skip
                  refine WL.pu rfl (WL.pu rfl (WL.pu rfl (WL.pu rfl ?_)))
                  exact WL.ys (y2L zsF) rfl rfl .all
                refine WL.nil (WX.a ?_)
                refine WC.cond rfl (fun ziK=>?_) (fun ziK=>?_)
                · replace h:=ym h ziK
                  obtain ⟨zf1,zsG,h⟩:=zf h
                  refine WC.a (WL.pu rfl (WL.pu rfl (WL.pu rfl (WL.pu rfl (WL.pu rfl ?_)))))
                  refine WL.y1K (dd:=219) rfl rfl rfl (zy (l:=[.tmp 214,.tmp 215,.tmp 216,.tmp 217,.tmp 218]) Try.call67 (.cons rfl (.cons rfl (.cons rfl (.cons rfl (.cons rfl .nil)))))) (.cons .here .nil) (cc hz (.cons .here .nil) fun w pz ho=>ih (Z:=_) (zK:=zK) (zC:=zC) (z1f:=z1f) (z1q:=z1q) (z4:=z3E) (zk:=(i64 ((u64 (i64 (zk + zw))) / 2 ^ min (1 : Int).toNat 64))) (zs:=(i64 ((i64 ((i64 ((u64 (i64 (zk + zw))) / 2 ^ min (1 : Int).toNat 64)) + zs)) - z1u))) (zw:=zw) (zR:=zR) (r:=zf1) w pz z6i z6j zsG ho) ?_
                  rintro  zn5
                  refine WL.repin (i:=0) rfl (u:=(.slice zK zf1.length zC)) (y1z zn5.symm) ?_
                  refine WL.nil ?_
                  obtain rfl:=Option.some.inj h
                  refine WX.y1S Try.results67 .nil (fun w hw=>?_)
                  exact ⟨y49,(zn5.trans zn4),hw.sub (.cons .here .nil)⟩
                · replace h:=yn h ziK
                  refine WC.skip ?_
                  obtain rfl:=Option.some.inj h
                  refine WX.y1S Try.results67 .nil (fun w hw=>?_)
                  exact ⟨y49,zn4,hw.sub (.cons .here .nil)⟩
theorem y2Z (Z : Zp) (zK : Option Addr) (zC : Nat) (z1f : FuncId) (z1q : List Value) (z4 : List Sapi_Come) (zk : Int) (zs : Int) (zw : Int) (zR : Sapi_Come → Sapi_Come → Option Int) (r : List Sapi_Come) (w₀ : World) (hz : PZ (fps [row (.slice zK z4.length zC) 50 3 (z4.flatMap e50)]) w₀ Z)
    (z6i : ∀ args w,(callFunc z1f args).run Try.prog w = .ok (.enter z1f args) w)
    (z6j : ∀ w : World,PZ [] w Z → ∀ (x0 : Sapi_Come) (x1 : Sapi_Come) (r : Int),zR x0 x1 = some r → Calls Try.prog z1f (([(.agg #[(.int .i64 x0.fSent),(.int .i64 x0.fNode),(.int .i64 x0.fTime)]),(.agg #[(.int .i64 x1.fSent),(.int .i64 x1.fNode),(.int .i64 x1.fTime)])] : List Value) ++ z1q).toArray w fun e w'=>e = .returned (.int .i64 r) ∧ Hp [] w w' []) (h : y1j z4 zk zs zw zR = some r)
    (hown : Hp (fps [row (.slice zK z4.length zC) 50 3 (z4.flatMap e50)]) w₀ w₀ [row (.slice zK z4.length zC) 50 3 (z4.flatMap e50)]) : Calls Try.prog 67 #[(.slice zK z4.length zC),(.int .i64 zk),(.int .i64 zs),(.int .i64 zw),(.func (.func z1f) #[] (z1q).toArray)] w₀ fun e w'=>e = .returned (.tuple #[]) ∧ (r.length = z4.length) ∧ Hp (fps [row (.slice zK z4.length zC) 50 3 (z4.flatMap e50)]) w₀ w' [row (.slice zK r.length zC) 50 3 (r.flatMap e50)]:=y3V yz Z zK zC z1f z1q z4 zk zs zw zR r w₀ hz z6i z6j h hown
def yM (z14 : Int) (z1m : Sapi_Come → Sapi_Come → Option Int) (z4X : (List Sapi_Come) → Int → Option (List Sapi_Come)) : Nat → (List Sapi_Come) → Int → Int → Option (List Sapi_Come)
  | 0,_,_,_=>none
  | ziL + 1,z3c,z4z,z3d=>if decide (z3d ≤ z14) then (yO z3c z4z z3d z1m).bind fun zf9=>yM z14 z1m z4X ziL zf9 z3d (i64 (z3d + 20)) else z4X z3c z4z
theorem y3O {n : Nat} {z14 : Int} {z1m : Sapi_Come → Sapi_Come → Option Int} {z4X : (List Sapi_Come) → Int → Option (List Sapi_Come)} {z3c : List Sapi_Come} {z4z : Int} {z3d : Int} {r : List Sapi_Come} (h : yM z14 z1m z4X n z3c z4z z3d = some r) : ∃ m,n = m + 1:=by
  cases n with
  | zero=>cases h
  | succ m=>exact ⟨m,rfl⟩
def yV (z14 : Int) (z1k : Int) (z1m : Sapi_Come → Sapi_Come → Option Int) (z7j : (List Sapi_Come) → Int → Option (List Sapi_Come)) : Nat → (List Sapi_Come) → Int → Int → Option (List Sapi_Come)
  | 0,_,_,_=>none
  | ziM + 1,z30,z3e,z31=>if decide (z31 ≤ z14) then (y1j z30 z3e (i64 (z3e + z1k)) z31 z1m).bind fun zdE=>yV z14 z1k z1m z7j ziM zdE z31 (i64 (z31 + (i64 (2 * z1k)))) else z7j z30 z3e
theorem y3P {n : Nat} {z14 : Int} {z1k : Int} {z1m : Sapi_Come → Sapi_Come → Option Int} {z7j : (List Sapi_Come) → Int → Option (List Sapi_Come)} {z30 : List Sapi_Come} {z3e : Int} {z31 : Int} {r : List Sapi_Come} (h : yV z14 z1k z1m z7j n z30 z3e z31 = some r) : ∃ m,n = m + 1:=by
  cases n with
  | zero=>cases h
  | succ m=>exact ⟨m,rfl⟩
def yN (z14 : Int) (z1m : Sapi_Come → Sapi_Come → Option Int) (z4Y : (List Sapi_Come) → Option (List Sapi_Come)) : Nat → (List Sapi_Come) → Int → Option (List Sapi_Come)
  | 0,_,_=>none
  | ziN + 1,z32,z1k=>if decide (z1k < z14) then jp1 (fun (z4A : List Sapi_Come)=>yN z14 z1m z4Y ziN z4A (i64 (z1k * 2))) fun ziO=>jp2 (fun (z3r : List Sapi_Come) (z4B : Int)=>jp1 (fun (z4C : List Sapi_Come)=>ziO z4C) fun zfa=>if decide ((i64 (z4B + z1k)) < z14) then (y1j z3r z4B (i64 (z4B + z1k)) z14 z1m).bind fun zdF=>zfa zdF else zfa z3r) fun z7j=>yV z14 z1k z1m z7j yz z32 0 (i64 (2 * z1k)) else z4Y z32
theorem y3Q {n : Nat} {z14 : Int} {z1m : Sapi_Come → Sapi_Come → Option Int} {z4Y : (List Sapi_Come) → Option (List Sapi_Come)} {z32 : List Sapi_Come} {z1k : Int} {r : List Sapi_Come} (h : yN z14 z1m z4Y n z32 z1k = some r) : ∃ m,n = m + 1:=by
  cases n with
  | zero=>cases h
  | succ m=>exact ⟨m,rfl⟩
def y1R (z1B : List Sapi_Come) (z14 : Int) (z1m : Sapi_Come → Sapi_Come → Option Int) : Option (List Sapi_Come) :=
  jp2 (fun (z3F : List Sapi_Come) (z6m : Int)=>(yO z3F z6m z14 z1m).bind fun zba=>jp1 (fun (z4D : List Sapi_Come)=>some z4D) fun z4Y=>yN z14 z1m z4Y yz zba 20) fun z4X=>yM z14 z1m z4X yz z1B 0 20
set_option maxRecDepth 20000 in
theorem y4g (Z : Zp) (z1n : Option Addr) (z1o : Nat) (z2w : FuncId) (z33 : List Value) (z1B : List Sapi_Come) (z14 : Int) (z1m : Sapi_Come → Sapi_Come → Option Int) (r : List Sapi_Come)
     (h : y1R z1B z14 z1m = some r) (w₀ : World) (hz : PZ (fps [row (.slice z1n z1B.length z1o) 50 3 (z1B.flatMap e50)]) w₀ Z)
     (zfb : ∀ args w,(callFunc z2w args).run Try.prog w = .ok (.enter z2w args) w)
     (zfc : ∀ w : World,PZ [] w Z → ∀ (x0 : Sapi_Come) (x1 : Sapi_Come) (r : Int),z1m x0 x1 = some r → Calls Try.prog z2w (([(.agg #[(.int .i64 x0.fSent),(.int .i64 x0.fNode),(.int .i64 x0.fTime)]),(.agg #[(.int .i64 x1.fSent),(.int .i64 x1.fNode),(.int .i64 x1.fTime)])] : List Value) ++ z33).toArray w fun e w'=>e = .returned (.int .i64 r) ∧ Hp [] w w' [])
    (hown : Hp (fps [row (.slice z1n z1B.length z1o) 50 3 (z1B.flatMap e50)]) w₀ w₀ [row (.slice z1n z1B.length z1o) 50 3 (z1B.flatMap e50)]) :
    Calls Try.prog 57 #[(.slice z1n z1B.length z1o),(.int .i64 z14),(.func (.func z2w) #[] (z33).toArray)] w₀ fun e w'=>e = .returned (.tuple #[]) ∧ (r.length = z1B.length) ∧ Hp (fps [row (.slice z1n z1B.length z1o) 50 3 (z1B.flatMap e50)]) w₀ w' [row (.slice z1n r.length z1o) 50 3 (r.flatMap e50)]:=by
  unfold y1R at h
  refine Calls.yl (vs:=[(.slice z1n z1B.length z1o),(.int .i64 z14),(.func (.func z2w) #[] (z33).toArray)]) (pre:=[row (.slice z1n z1B.length z1o) 50 3 (z1B.flatMap e50)]) (env:=[(0,(.slice z1n z1B.length z1o)),(1,(.int .i64 z14)),(2,(.func (.func z2w) #[] (z33).toArray))]) Try.func57 rfl Try.ntmps57 rfl (hown) rfl ?_
  refine WC.b (WC.a (WL.pu rfl (WL.nil (WX.a (WC.b (WC.a (WL.pu rfl (WL.pu rfl (WL.pu rfl (WL.nil (WX.a ?_)))))))))))
  obtain ⟨z4X,zsH,h⟩:=y3m h
  refine WC.y2R (fun (z3F : List Sapi_Come) (z6m : Int)=>(z4X z3F z6m = some r) ∧ (z3F.length = z1B.length)) (fun (z3F : List Sapi_Come) (z6m : Int)=>[(0,(.slice z1n z3F.length z1o)),(1,(.int .i64 z14)),(2,(.func (.func z2w) #[] (z33).toArray)),(6,(.int .i64 20)),(7,(.int .i64 z6m))]) (fun (z3F : List Sapi_Come) (z6m : Int)=>[row (.slice z1n z3F.length z1o) 50 3 (z3F.flatMap e50)]) ?_ ?_
  · skip
    refine WC.block ?_
    refine WC.y5X (fun (zbb : Nat) (z3c : List Sapi_Come) (z4z : Int) (z3d : Int)=>(yM z14 z1m z4X zbb z3c z4z z3d = some r) ∧ (z3c.length = z1B.length)) (fun (zbb : Nat) (z3c : List Sapi_Come) (z4z : Int) (z3d : Int)=>[(0,(.slice z1n z3c.length z1o)),(1,(.int .i64 z14)),(2,(.func (.func z2w) #[] (z33).toArray)),(6,(.int .i64 20)),(7,(.int .i64 z4z)),(8,(.int .i64 z3d))]) (fun (zbb : Nat) (z3c : List Sapi_Come) (z4z : Int) (z3d : Int)=>[row (.slice z1n z3c.length z1o) 50 3 (z3c.flatMap e50)]) (fun (zbb : Nat) (z3c : List Sapi_Come) (z4z : Int) (z3d : Int)=>zbb) ⟨yz,z1B,0,20⟩ ⟨h,rfl⟩ (.cons rfl (.cons rfl (.cons rfl (.cons rfl (.cons rfl (.cons rfl .nil)))))) (.cons .here .nil) ?_
    rintro zbb z3c z4z z3d ⟨h,zn6⟩
    obtain ⟨ziL,rfl⟩:=y3O h
    rw [yM] at h
    refine WC.b (WC.b (WC.a (WL.pu rfl (WL.pu rfl (WL.pu rfl (WL.nil (WX.a ?_)))))))
    refine WC.cond rfl (fun ziP=>?_) (fun ziP=>?_)
    · replace h:=ym h ziP
      refine WC.skip (WX.a (WC.block (WC.b ?_)))
      obtain ⟨zf9,zsI,h⟩:=zf h
      refine WC.a (WL.pu rfl (WL.pu rfl (WL.pu rfl (WL.pu rfl ?_))))
      refine WL.y1K (dd:=18) rfl rfl rfl (zy (l:=[.tmp 14,.tmp 15,.tmp 16,.tmp 17]) Try.call66 (.cons rfl (.cons rfl (.cons rfl (.cons rfl .nil))))) (.cons .here .nil) (cc hz (.cons .here .nil) fun w pz ho=>y2y _ _ _ (z3p:=z2w) (z4w:=z33) _ _ _ (z2u:=z1m) _ zsI w pz zfb zfc ho) ?_
      rintro  zn7
      refine WL.repin (i:=0) rfl (u:=(.slice z1n zf9.length z1o)) (y1z zn7.symm) ?_
      refine WL.nil (WX.a (WC.b (WC.a (WL.pu rfl (WL.pu rfl (WL.nil (WX.a (WC.a (WL.pu rfl (WL.pu rfl (WL.pu rfl (WL.pu rfl (WL.nil (WX.yg ?_))))))))))))))
      exact WX.round (G:=Nat × List Sapi_Come × Int × Int) ⟨ziL,zf9,z3d,(i64 (z3d + 20))⟩ ⟨h,(zn7.trans zn6)⟩ (Nat.lt_succ_self _) (.cons rfl (.cons rfl (.cons rfl (.cons rfl (.cons rfl (.cons rfl .nil)))))) (.cons .here .nil)
    · replace h:=yn h ziP
      refine WC.exit (WX.yd (WX.yd (WX.yA ?_)))
      exact WX.mid (G:=List Sapi_Come × Int) ⟨z3c,z4z⟩ ⟨h,zn6⟩ (.cons rfl (.cons rfl (.cons rfl (.cons rfl (.cons rfl .nil))))) (.cons .here .nil)
  · rintro z3F z6m ⟨h,zsJ⟩
    replace h:=(zsH z3F z6m).symm.trans h
    refine WC.b ?_
    obtain ⟨zba,zsK,h⟩:=zf h
    refine WC.a (WL.pu rfl (WL.pu rfl (WL.pu rfl (WL.pu rfl ?_))))
    refine WL.y1K (dd:=27) rfl rfl rfl (zy (l:=[.tmp 23,.tmp 24,.tmp 25,.tmp 26]) Try.call66 (.cons rfl (.cons rfl (.cons rfl (.cons rfl .nil))))) (.cons .here .nil) (cc hz (.cons .here .nil) fun w pz ho=>y2y _ _ _ (z3p:=z2w) (z4w:=z33) _ _ _ (z2u:=z1m) _ zsK w pz zfb zfc ho) ?_
    rintro  zn8
    refine WL.repin (i:=0) rfl (u:=(.slice z1n zba.length z1o)) (y1z zn8.symm) ?_
    refine WL.nil (WX.a ?_)
    obtain ⟨z4Y,zsL,h⟩:=y19 h
    refine WC.y4U (fun (z4D : List Sapi_Come)=>(z4Y z4D = some r) ∧ (z4D.length = z1B.length)) (fun (z4D : List Sapi_Come)=>[]) (fun (z4D : List Sapi_Come)=>[row (.slice z1n z4D.length z1o) 50 3 (z4D.flatMap e50)]) ?_ ?_
    · skip
      refine WC.block ?_
      refine WC.y28 (fun (zbc : Nat) (z32 : List Sapi_Come) (z1k : Int)=>(yN z14 z1m z4Y zbc z32 z1k = some r) ∧ (z32.length = z1B.length)) (fun (zbc : Nat) (z32 : List Sapi_Come) (z1k : Int)=>[(0,(.slice z1n z32.length z1o)),(1,(.int .i64 z14)),(2,(.func (.func z2w) #[] (z33).toArray)),(6,(.int .i64 z1k))]) (fun (zbc : Nat) (z32 : List Sapi_Come) (z1k : Int)=>[row (.slice z1n z32.length z1o) 50 3 (z32.flatMap e50)]) (fun (zbc : Nat) (z32 : List Sapi_Come) (z1k : Int)=>zbc) ⟨yz,zba,20⟩ ⟨h,(zn8.trans zsJ)⟩ (.cons rfl (.cons rfl (.cons rfl (.cons rfl .nil)))) (.cons .here .nil) ?_
      rintro zbc z32 z1k ⟨h,zn9⟩
      obtain ⟨ziN,rfl⟩:=y3Q h
      rw [yN] at h
      refine WC.b (WC.b (WC.a (WL.pu rfl (WL.pu rfl (WL.pu rfl (WL.nil (WX.a ?_)))))))
      refine WC.cond rfl (fun ziQ=>?_) (fun ziQ=>?_)
      · replace h:=ym h ziQ
        refine WC.skip (WX.a ?_)
        obtain ⟨ziO,zsM,h⟩:=y19 h
        refine WC.y4U (fun (z4A : List Sapi_Come)=>(ziO z4A = some r) ∧ (z4A.length = z1B.length)) (fun (z4A : List Sapi_Come)=>[(0,(.slice z1n z4A.length z1o)),(1,(.int .i64 z14)),(2,(.func (.func z2w) #[] (z33).toArray)),(6,(.int .i64 (i64 (z1k * 2))))]) (fun (z4A : List Sapi_Come)=>[row (.slice z1n z4A.length z1o) 50 3 (z4A.flatMap e50)]) ?_ ?_
        · skip
          refine WC.block (WC.b (WC.a (WL.pu rfl (WL.pu rfl (WL.pu rfl (WL.pu rfl (WL.nil (WX.a ?_))))))))
          obtain ⟨z7j,zsN,h⟩:=y3m h
          refine WC.y2R (fun (z3r : List Sapi_Come) (z4B : Int)=>(z7j z3r z4B = some r) ∧ (z3r.length = z1B.length)) (fun (z3r : List Sapi_Come) (z4B : Int)=>[(0,(.slice z1n z3r.length z1o)),(1,(.int .i64 z14)),(2,(.func (.func z2w) #[] (z33).toArray)),(6,(.int .i64 z1k)),(7,(.int .i64 z4B))]) (fun (z3r : List Sapi_Come) (z4B : Int)=>[row (.slice z1n z3r.length z1o) 50 3 (z3r.flatMap e50)]) ?_ ?_
          · skip
            refine WC.block ?_
            refine WC.y5X (fun (zbd : Nat) (z30 : List Sapi_Come) (z3e : Int) (z31 : Int)=>(yV z14 z1k z1m z7j zbd z30 z3e z31 = some r) ∧ (z30.length = z1B.length)) (fun (zbd : Nat) (z30 : List Sapi_Come) (z3e : Int) (z31 : Int)=>[(0,(.slice z1n z30.length z1o)),(1,(.int .i64 z14)),(2,(.func (.func z2w) #[] (z33).toArray)),(6,(.int .i64 z1k)),(7,(.int .i64 z3e)),(8,(.int .i64 z31))]) (fun (zbd : Nat) (z30 : List Sapi_Come) (z3e : Int) (z31 : Int)=>[row (.slice z1n z30.length z1o) 50 3 (z30.flatMap e50)]) (fun (zbd : Nat) (z30 : List Sapi_Come) (z3e : Int) (z31 : Int)=>zbd) ⟨yz,z32,0,(i64 (2 * z1k))⟩ ⟨h,zn9⟩ (.cons rfl (.cons rfl (.cons rfl (.cons rfl (.cons rfl (.cons rfl .nil)))))) (.cons .here .nil) ?_
            rintro zbd z30 z3e z31 ⟨h,zna⟩
            obtain ⟨ziM,rfl⟩:=y3P h
            rw [yV] at h
            refine WC.b (WC.b (WC.a (WL.pu rfl (WL.pu rfl (WL.pu rfl (WL.nil (WX.a ?_)))))))
            refine WC.cond rfl (fun ziR=>?_) (fun ziR=>?_)
            · replace h:=ym h ziR
              refine WC.skip (WX.a (WC.block (WC.b ?_)))
              obtain ⟨zdE,zsO,h⟩:=zf h
              refine WC.a (WL.pu rfl (WL.pu rfl (WL.pu rfl (WL.pu rfl (WL.pu rfl (WL.pu rfl (WL.pu rfl ?_)))))))
              refine WL.y1K (dd:=43) rfl rfl rfl (zy (l:=[.tmp 36,.tmp 37,.tmp 40,.tmp 41,.tmp 42]) Try.call67 (.cons rfl (.cons rfl (.cons rfl (.cons rfl (.cons rfl .nil)))))) (.cons .here .nil) (cc hz (.cons .here .nil) fun w pz ho=>y2Z (Z:=_) (zK:=z1n) (zC:=z1o) (z1f:=z2w) (z1q:=z33) (z4:=z30) (zk:=z3e) (zs:=(i64 (z3e + z1k))) (zw:=z31) (zR:=z1m) (r:=zdE) w pz zfb zfc zsO ho) ?_
              rintro  znb
              refine WL.repin (i:=0) rfl (u:=(.slice z1n zdE.length z1o)) (y1z znb.symm) ?_
              refine WL.nil (WX.a (WC.b (WC.a (WL.pu rfl (WL.pu rfl (WL.nil (WX.a (WC.a (WL.pu rfl (WL.pu rfl (WL.pu rfl (WL.pu rfl (WL.pu rfl (WL.nil (WX.yg ?_)))))))))))))))
              exact WX.round (G:=Nat × List Sapi_Come × Int × Int) ⟨ziM,zdE,z31,(i64 (z31 + (i64 (2 * z1k))))⟩ ⟨h,(znb.trans zna)⟩ (Nat.lt_succ_self _) (.cons rfl (.cons rfl (.cons rfl (.cons rfl (.cons rfl (.cons rfl .nil)))))) (.cons .here .nil)
            · replace h:=yn h ziR
              refine WC.exit (WX.yd (WX.yd (WX.yA ?_)))
              exact WX.mid (G:=List Sapi_Come × Int) ⟨z30,z3e⟩ ⟨h,zna⟩ (.cons rfl (.cons rfl (.cons rfl (.cons rfl (.cons rfl .nil))))) (.cons .here .nil)
          · rintro z3r z4B ⟨h,znc⟩
            replace h:=(zsN z3r z4B).symm.trans h
            obtain ⟨zfa,zsP,h⟩:=y19 h
            refine WC.y1H (fun (z4C : List Sapi_Come)=>(zfa z4C = some r) ∧ (z4C.length = z1B.length)) (fun (z4C : List Sapi_Come)=>[(0,(.slice z1n z4C.length z1o)),(1,(.int .i64 z14)),(2,(.func (.func z2w) #[] (z33).toArray)),(6,(.int .i64 z1k))]) (fun (z4C : List Sapi_Come)=>[row (.slice z1n z4C.length z1o) 50 3 (z4C.flatMap e50)]) ?_ ?_
            · skip
              refine WC.b (WC.a (WL.pu rfl (WL.pu rfl (WL.pu rfl (WL.pu rfl (WL.nil (WX.a (WC.b (WC.a (WL.pu rfl (WL.pu rfl (WL.pu rfl (WL.nil (WX.a ?_))))))))))))))
              refine WC.cond rfl (fun ziS=>?_) (fun ziS=>?_)
              · replace h:=ym h ziS
                obtain ⟨zdF,zsQ,h⟩:=zf h
                refine WC.a (WL.pu rfl (WL.pu rfl (WL.pu rfl (WL.pu rfl (WL.pu rfl ?_)))))
                refine WL.y1K (dd:=60) rfl rfl rfl (zy (l:=[.tmp 55,.tmp 56,.tmp 57,.tmp 58,.tmp 59]) Try.call67 (.cons rfl (.cons rfl (.cons rfl (.cons rfl (.cons rfl .nil)))))) (.cons .here .nil) (cc hz (.cons .here .nil) fun w pz ho=>y2Z (Z:=_) (zK:=z1n) (zC:=z1o) (z1f:=z2w) (z1q:=z33) (z4:=z3r) (zk:=z4B) (zs:=(i64 (z4B + z1k))) (zw:=z14) (zR:=z1m) (r:=zdF) w pz zfb zfc zsQ ho) ?_
                rintro  znd
                refine WL.repin (i:=0) rfl (u:=(.slice z1n zdF.length z1o)) (y1z znd.symm) ?_
                refine WL.nil ?_
                exact WX.mid (G:=List Sapi_Come) zdF ⟨h,(znd.trans znc)⟩ (.cons rfl (.cons rfl (.cons rfl (.cons rfl .nil)))) (.cons .here .nil)
              · replace h:=yn h ziS
                refine WC.skip ?_
                exact WX.mid (G:=List Sapi_Come) z3r ⟨h,znc⟩ (.cons rfl (.cons rfl (.cons rfl (.cons rfl .nil)))) (.cons .here .nil)
            · rintro z4C ⟨h,zsR⟩
              replace h:=(zsP z4C).symm.trans h
              refine WC.a (WL.pu rfl (WL.pu rfl (WL.pu rfl (WL.nil (WX.yg ?_)))))
              exact WX.mid (G:=List Sapi_Come) z4C ⟨h,zsR⟩ (.cons rfl (.cons rfl (.cons rfl (.cons rfl .nil)))) (.cons .here .nil)
        · rintro z4A ⟨h,zsS⟩
          replace h:=(zsM z4A).symm.trans h
          exact WX.round (G:=Nat × List Sapi_Come × Int) ⟨ziN,z4A,(i64 (z1k * 2))⟩ ⟨h,zsS⟩ (Nat.lt_succ_self _) (.cons rfl (.cons rfl (.cons rfl (.cons rfl .nil)))) (.cons .here .nil)
      · replace h:=yn h ziQ
        refine WC.exit (WX.yd (WX.yd (WX.yA ?_)))
        exact WX.mid (G:=List Sapi_Come) z32 ⟨h,zn9⟩ .nil (.cons .here .nil)
    · rintro z4D ⟨h,zsT⟩
      replace h:=(zsL z4D).symm.trans h
      obtain rfl:=Option.some.inj h
      refine WX.y1S Try.results57 .nil (fun w hw=>?_)
      exact ⟨y49,zsT,hw.sub (.cons .here .nil)⟩
def y13 (z2x : List Sapi_Come) (zbe : Sapi_Come → Sapi_Come → Option Int) : Option (List Sapi_Come) :=
  (y1R z2x ((z2x.length : Nat) : Int) zbe).bind fun zfd=>some zfd
set_option maxRecDepth 20000 in
theorem y3D (Z : Zp) (z4Z : Option Addr) (z50 : Nat) (z81 : FuncId) (zbf : List Value) (z2x : List Sapi_Come) (zbe : Sapi_Come → Sapi_Come → Option Int) (r : List Sapi_Come)
     (h : y13 z2x zbe = some r) (w₀ : World) (hz : PZ (fps [row (.slice z4Z z2x.length z50) 50 3 (z2x.flatMap e50)]) w₀ Z)
     (zsU : ∀ args w,(callFunc z81 args).run Try.prog w = .ok (.enter z81 args) w)
     (zsV : ∀ w : World,PZ [] w Z → ∀ (x0 : Sapi_Come) (x1 : Sapi_Come) (r : Int),zbe x0 x1 = some r → Calls Try.prog z81 (([(.agg #[(.int .i64 x0.fSent),(.int .i64 x0.fNode),(.int .i64 x0.fTime)]),(.agg #[(.int .i64 x1.fSent),(.int .i64 x1.fNode),(.int .i64 x1.fTime)])] : List Value) ++ zbf).toArray w fun e w'=>e = .returned (.int .i64 r) ∧ Hp [] w w' [])
    (hown : Hp (fps [row (.slice z4Z z2x.length z50) 50 3 (z2x.flatMap e50)]) w₀ w₀ [row (.slice z4Z z2x.length z50) 50 3 (z2x.flatMap e50)]) :
    Calls Try.prog 42 #[(.slice z4Z z2x.length z50),(.func (.func z81) #[] (zbf).toArray)] w₀ fun e w'=>e = .returned (.tuple #[]) ∧ (r.length = z2x.length) ∧ Hp (fps [row (.slice z4Z z2x.length z50) 50 3 (z2x.flatMap e50)]) w₀ w' [row (.slice z4Z r.length z50) 50 3 (r.flatMap e50)]:=by
  unfold y13 at h
  refine Calls.yl (vs:=[(.slice z4Z z2x.length z50),(.func (.func z81) #[] (zbf).toArray)]) (pre:=[row (.slice z4Z z2x.length z50) 50 3 (z2x.flatMap e50)]) (env:=[(0,(.slice z4Z z2x.length z50)),(1,(.func (.func z81) #[] (zbf).toArray))]) Try.func42 rfl Try.ntmps42 rfl (hown) rfl ?_
  obtain ⟨zfd,zsW,h⟩:=zf h
  refine WC.a (WL.pu rfl (WL.pu rfl ?_))
  refine WL.a (d:=6) rfl rfl rfl (yW Try.underlying36 rfl) ?_
  refine WL.pu rfl ?_
  refine WL.y1K (dd:=8) rfl rfl rfl (zy (l:=[.tmp 4,.tmp 6,.tmp 7]) Try.call57 (.cons rfl (.cons rfl (.cons rfl .nil)))) (.cons .here .nil) (cc hz (.cons .here .nil) fun w pz ho=>y4g _ _ _ (z2w:=z81) (z33:=zbf) _ _ (z1m:=zbe) _ zsW w pz zsU zsV ho) ?_
  rintro  ziT
  refine WL.repin (i:=0) rfl (u:=(.slice z4Z zfd.length z50)) (y1z ziT.symm) ?_
  refine WL.repin (i:=5) rfl (u:=(.slice z4Z zfd.length z50)) (y1z ziT.symm) ?_
  refine WL.nil ?_
  obtain rfl:=Option.some.inj h
  refine WX.y1S Try.results42 .nil (fun w hw=>?_)
  exact ⟨y49,(ziT.trans rfl),hw.sub (.cons .here .nil)⟩
def y1f (z2O : List Sapi_Come) : Option (List Sapi_Come) :=
  (y13 z2O (fun (y0 : Sapi_Come) (y1 : Sapi_Come)=>y2m y0 y1)).bind fun ziU=>some ziU
set_option maxRecDepth 20000 in
theorem y5e (Z : Zp) (z51 : Option Addr) (z52 : Nat) (z2O : List Sapi_Come) (r : List Sapi_Come)
     (h : y1f z2O = some r) (w₀ : World) (hz : PZ (fps [row (.slice z51 z2O.length z52) 50 3 (z2O.flatMap e50)]) w₀ Z)
    (hown : Hp (fps [row (.slice z51 z2O.length z52) 50 3 (z2O.flatMap e50)]) w₀ w₀ [row (.slice z51 z2O.length z52) 50 3 (z2O.flatMap e50)]) :
    Calls Try.prog 27 #[(.slice z51 z2O.length z52)] w₀ fun e w'=>e = .returned (.slice z51 r.length z52) ∧ (r.length = z2O.length) ∧ Hp (fps [row (.slice z51 z2O.length z52) 50 3 (z2O.flatMap e50)]) w₀ w' [row (.slice z51 r.length z52) 50 3 (r.flatMap e50)]:=by
  unfold y1f at h
  refine Calls.yl (vs:=[(.slice z51 z2O.length z52)]) (pre:=[row (.slice z51 z2O.length z52) 50 3 (z2O.flatMap e50)]) (env:=[(0,(.slice z51 z2O.length z52))]) Try.func27 rfl Try.ntmps27 rfl (hown) rfl ?_
  refine WC.b (WC.a (WL.pu rfl (WL.nil (WX.a (WC.b ?_)))))
  obtain ⟨ziU,zsX,h⟩:=zf h
  refine WC.a (WL.pu rfl ?_)
  refine WL.y1K (dd:=4) rfl rfl rfl (zy (l:=[.tmp 3,.func 43]) Try.call42 (.cons rfl (.cons rfl .nil))) (.cons .here .nil) (cc hz (.cons .here .nil) fun w pz ho=>y3D _ _ _ (z81:=43) (zbf:=[]) _ (zbe:=(fun (y0 : Sapi_Come) (y1 : Sapi_Come)=>y2m y0 y1)) _ zsX w pz Try.call43 (fun w' hz' y0 y1  r  hr=>y6F _ _ _ _ hr w' hz' ) ho) ?_
  rintro  zne
  refine WL.repin (i:=0) rfl (u:=(.slice z51 ziU.length z52)) (y1z zne.symm) ?_
  refine WL.nil (WX.a (WC.b (WC.a (WL.pu rfl (WL.pu rfl (WL.nil (WX.a (WC.ret ?_))))))))
  obtain rfl:=Option.some.inj h
  refine WX.yh Try.results27 (.tmp rfl .nil) (fun w hw=>?_)
  exact ⟨y10 rfl,(zne.trans rfl),hw.sub (.cons .here .nil)⟩
def y2h (zW : List zSt) (z1e : List (List Sapi_Hop)) (za : Sapi_Config) (z7k : (List Snetwork_event) → Option (List Sapi_Come × List Sapi_Come × Int)) : Nat → Int → (List Snetwork_event) → Option (List Sapi_Come × List Sapi_Come × Int)
  | 0,_,_=>none
  | ziV + 1,z1T,z34=>if decide (z1T < ((zW.length : Nat) : Int)) then jp1 (fun (z53 : List Snetwork_event)=>y2h zW z1e za z7k ziV (i64 (z1T + 1)) z53) fun zfe=>chk ((0 : Int) ≤ z1T ∧ z1T < ((zW.length : Nat) : Int)) (chk ((0 : Int) ≤ ((nth zW z1T).fVL) ∧ ((nth zW z1T).fVL) < ((z1e.length : Nat) : Int)) (if decide ((((nth z1e ((nth zW z1T).fVL)).length : Nat) : Int) > 0) then chk ((0 : Int) ≤ 0 ∧ 0 < (((nth z1e ((nth zW z1T).fVL)).length : Nat) : Int)) ((y2d za z1e zW ([] : List (Snetwork_exit × Sport_Port)) z34 [] [] ((nth (nth z1e ((nth zW z1T).fVL)) 0).fNode) ((nth zW z1T).fTime) (-1) z1T).bind fun ziW=>zfe ziW) else zfe z34)) else z7k z34
theorem y5P {n : Nat} {zW : List zSt} {z1e : List (List Sapi_Hop)} {za : Sapi_Config} {z7k : (List Snetwork_event) → Option (List Sapi_Come × List Sapi_Come × Int)} {z1T : Int} {z34 : List Snetwork_event} {r : List Sapi_Come × List Sapi_Come × Int} (h : y2h zW z1e za z7k n z1T z34 = some r) : ∃ m,n = m + 1:=by
  cases n with
  | zero=>cases h
  | succ m=>exact ⟨m,rfl⟩
def y2i (za : Sapi_Config) (z1e : List (List Sapi_Hop)) (zW : List zSt) (z7l : (List Snetwork_event) → (List Sapi_Come) → (List Sapi_Come) → (List (Snetwork_exit × Sport_Port)) → Option (List Sapi_Come × List Sapi_Come × Int)) : Nat → (List Snetwork_event) → (List Sapi_Come) → (List Sapi_Come) → (List (Snetwork_exit × Sport_Port)) → Option (List Sapi_Come × List Sapi_Come × Int)
  | 0,_,_,_,_=>none
  | ziX + 1,z3f,z3s,z3t,z4E=>if decide (((z3f.length : Nat) : Int) > 0) then (y2H za z1e zW z4E z3f z3s z3t).bind fun z7m=>y2i za z1e zW z7l ziX z7m.1 z7m.2.1 z7m.2.2.1 z7m.2.2.2 else z7l z3f z3s z3t z4E
theorem y5Q {n : Nat} {za : Sapi_Config} {z1e : List (List Sapi_Hop)} {zW : List zSt} {z7l : (List Snetwork_event) → (List Sapi_Come) → (List Sapi_Come) → (List (Snetwork_exit × Sport_Port)) → Option (List Sapi_Come × List Sapi_Come × Int)} {z3f : List Snetwork_event} {z3s : List Sapi_Come} {z3t : List Sapi_Come} {z4E : List (Snetwork_exit × Sport_Port)} {r : List Sapi_Come × List Sapi_Come × Int} (h : y2i za z1e zW z7l n z3f z3s z3t z4E = some r) : ∃ m,n = m + 1:=by
  cases n with
  | zero=>cases h
  | succ m=>exact ⟨m,rfl⟩
def y2w (za : Sapi_Config) (zbg : Int) (z1e : List (List Sapi_Hop)) (zW : List zSt) : Option (List Sapi_Come × List Sapi_Come × Int) :=
  (y2M za zbg z1e).bind fun znf=>if !znf then some (([] : List Sapi_Come),([] : List Sapi_Come),310) else (y39 za zW).bind fun zng=>if !zng then some (([] : List Sapi_Come),([] : List Sapi_Come),311) else jp1 (fun (z54 : List Snetwork_event)=>jp4 (fun (z7n : List Snetwork_event) (z6n : List Sapi_Come) (z55 : List Sapi_Come) (z9w : List (Snetwork_exit × Sport_Port))=>(y1f z6n).bind fun znh=>(y1f z55).bind fun zni=>some (znh,zni,0)) fun z7l=>y2i za z1e zW z7l yz z54 ([] : List Sapi_Come) ([] : List Sapi_Come) ([] : List (Snetwork_exit × Sport_Port))) fun z7k=>y2h zW z1e za z7k yz 0 ([] : List Snetwork_event)
set_option maxRecDepth 20000 in
theorem y4N (Z : Zp) (z3G : Option Addr) (z3H : Nat) (z3I : Option Addr) (z3J : Nat) (z3K : Option Addr) (z3L : Nat) (z3M : Option Addr) (z3N : Nat) (z3O : Option Addr) (z3P : Nat) (z3Q : Option Addr) (z3R : Nat) (z3S : Option Addr) (z3T : Nat) (z3U : Option Addr) (z3V : Nat) (z3W : Option Addr) (z3X : Nat) (z3Y : Option Addr) (z3Z : Nat) (za : Sapi_Config) (zbg : Int) (z1e : List (List Sapi_Hop)) (zW : List zSt) (r : List Sapi_Come × List Sapi_Come × Int)
     (h : y2w za zbg z1e zW = some r) (w₀ : World) (hz : PZ [] w₀ Z)
     (zff : ZS Z 4 (y2x Z) z3G z3H za.fModules)
     (zfg : ZS Z 4 (y2S Z) z3I z3J za.fChannels)
     (zfh : ZS Z 4 (fun r x=>r = e64 x) z3K z3L za.fSwitches)
     (zfi : ZS Z 4 (fun r x=>r = e62 x) z3M z3N za.fLinks)
     (zfj : ZS Z 7 (y2G Z) z3O z3P za.fVLs)
     (zfk : ZS Z 5 (fun r x=>r = y37 x) z3Q z3R za.fHealth)
     (zfl : ZS Z 3 (y2T Z) z3S z3T za.fCauses)
     (zfm : ZS Z 4 (fun r x=>r = y38 x) z3U z3V za.fVersions)
     (zfn : ZS Z 1 (p55 Z) z3W z3X z1e)
     (zfo : ZS Z 3 (fun r x=>r = e53 x) z3Y z3Z zW) :
    Calls Try.prog 12 #[(.agg #[(.slice z3G za.fModules.length z3H),(.slice z3I za.fChannels.length z3J),(.slice z3K za.fSwitches.length z3L),(.slice z3M za.fLinks.length z3N),(.slice z3O za.fVLs.length z3P),(.slice z3Q za.fHealth.length z3R),(.slice z3S za.fCauses.length z3T),(.slice z3U za.fVersions.length z3V)]),(.int .i64 zbg),(.slice z3W z1e.length z3X),(.slice z3Y zW.length z3Z)] w₀ fun e w'=>∃ znj : Option Addr,∃ znk : Nat,∃ znl : Option Addr,∃ znm : Nat,e = .returned (.tuple #[(.slice znj r.1.length znk),(.slice znl r.2.1.length znm),(.int .i64 r.2.2)]) ∧ True ∧ Hp [] w₀ w' [row (.slice znj r.1.length znk) 50 3 (r.1.flatMap e50),row (.slice znl r.2.1.length znm) 50 3 (r.2.1.flatMap e50)]:=by
  unfold y2w at h
  refine Calls.yl (vs:=[(.agg #[(.slice z3G za.fModules.length z3H),(.slice z3I za.fChannels.length z3J),(.slice z3K za.fSwitches.length z3L),(.slice z3M za.fLinks.length z3N),(.slice z3O za.fVLs.length z3P),(.slice z3Q za.fHealth.length z3R),(.slice z3S za.fCauses.length z3T),(.slice z3U za.fVersions.length z3V)]),(.int .i64 zbg),(.slice z3W z1e.length z3X),(.slice z3Y zW.length z3Z)]) (pre:=[]) (env:=[(0,(.agg #[(.slice z3G za.fModules.length z3H),(.slice z3I za.fChannels.length z3J),(.slice z3K za.fSwitches.length z3L),(.slice z3M za.fLinks.length z3N),(.slice z3O za.fVLs.length z3P),(.slice z3Q za.fHealth.length z3R),(.slice z3S za.fCauses.length z3T),(.slice z3U za.fVersions.length z3V)])),(1,(.int .i64 zbg)),(2,(.slice z3W z1e.length z3X)),(3,(.slice z3Y zW.length z3Z))]) Try.func12 rfl Try.ntmps12 rfl (Hp.nil w₀ _) rfl ?_
  refine WC.b (WC.a ?_)
  refine WL.new (dd:=4) rfl rfl rfl (y2g (cs:=[(.slice z3G za.fModules.length z3H),(.slice z3I za.fChannels.length z3J),(.slice z3K za.fSwitches.length z3L),(.slice z3M za.fLinks.length z3N),(.slice z3O za.fVLs.length z3P),(.slice z3Q za.fHealth.length z3R),(.slice z3S za.fCauses.length z3T),(.slice z3U za.fVersions.length z3V)]) rfl rfl) ?_
  intro zsY _
  refine WL.pu rfl (WL.pu rfl (WL.pu rfl (WL.nil (WX.a (WC.b (WC.block (WC.b ?_)))))))
  obtain ⟨znf,zsZ,h⟩:=zf h
  refine WC.a ?_
  refine WL.a (d:=16) rfl rfl rfl (yF y1C rfl (y1i .here) rfl) ?_
  refine WL.pu rfl (WL.pu rfl ?_)
  refine WL.b (dd:=19) rfl rfl rfl (zy (l:=[.tmp 16,.tmp 17,.tmp 18]) Try.call15 (.cons rfl (.cons rfl (.cons rfl .nil)))) .nil (cc hz .nil fun w pz ho=>y5n _ _ _ _ _ _ _ _ _ _ _ _ _ _ _ _ _ _ _ _ _ _ _ zsZ w pz zff zfg zfh zfi zfj zfk zfl zfm zfn) ?_
  refine WL.pu rfl (WL.pu rfl (WL.nil (WX.a ?_)))
  refine WC.cond rfl (fun ziY=>?_) (fun ziY=>?_)
  · replace h:=ym h ziY
    refine WC.b (WC.a (WL.pu rfl (WL.pu rfl (WL.pu rfl (WL.nil (WX.a (WC.ret (WX.yK (WX.yi ?_)))))))))
    refine WX.nilRow 50 3 ?_
    refine WX.nilRow 50 3 ?_
    obtain rfl:=Option.some.inj h
    refine WX.yh Try.results12 (.tmp rfl (.tmp rfl (.tmp rfl .nil))) (fun w hw=>?_)
    exact ⟨none,0,none,0,ret3 rfl rfl rfl,trivial,hw.sub (.cons .h1 (.cons .here .nil))⟩
  · replace h:=yn h ziY
    refine WC.b ?_
    obtain ⟨zng,zt0,h⟩:=zf h
    refine WC.a ?_
    refine WL.a (d:=22) rfl rfl rfl (yF y1C rfl (y1i .here) rfl) ?_
    refine WL.pu rfl ?_
    refine WL.b (dd:=24) rfl rfl rfl (zy (l:=[.tmp 22,.tmp 23]) Try.call24 (.cons rfl (.cons rfl .nil))) .nil (cc hz .nil fun w pz ho=>y77 _ _ _ _ _ _ _ _ _ _ _ _ _ _ _ _ _ _ _ _ _ _ zt0 w pz zff zfg zfh zfi zfj zfk zfl zfm zfo) ?_
    refine WL.pu rfl (WL.pu rfl (WL.nil (WX.a ?_)))
    refine WC.cond rfl (fun ziZ=>?_) (fun ziZ=>?_)
    · replace h:=ym h ziZ
      refine WC.b (WC.a (WL.pu rfl (WL.pu rfl (WL.pu rfl (WL.nil (WX.a (WC.ret (WX.yK (WX.yi ?_)))))))))
      refine WX.nilRow 50 3 ?_
      refine WX.nilRow 50 3 ?_
      obtain rfl:=Option.some.inj h
      refine WX.yh Try.results12 (.tmp rfl (.tmp rfl (.tmp rfl .nil))) (fun w hw=>?_)
      exact ⟨none,0,none,0,ret3 rfl rfl rfl,trivial,hw.sub (.cons .h1 (.cons .here .nil))⟩
    · replace h:=yn h ziZ
      refine WC.skip (WX.yg (WX.a (WC.b (WC.a ?_))))
      refine WL.a (d:=26) rfl rfl rfl (yF y1C rfl (y1i .here) rfl) ?_
      refine WL.pu rfl (WL.pu rfl ?_)
      refine WL.new (dd:=29) rfl rfl rfl (y7Y (fun x=>Value.agg (y1Q x).toArray) Value.pointer) ?_
      intro z40 _
      refine WL.ghL (M:=[y1l z15 ([] : List (Snetwork_exit × ((Nat × (Option Addr × Nat)) × Sport_Port))),y1e z40 (fun x=>Value.agg (y1Q x).toArray) Value.pointer (y1m ([] : List (Snetwork_exit × ((Nat × (Option Addr × Nat)) × Sport_Port)))),stb zsY 31 [(.slice z3G za.fModules.length z3H),(.slice z3I za.fChannels.length z3J),(.slice z3K za.fSwitches.length z3L),(.slice z3M za.fLinks.length z3N),(.slice z3O za.fVLs.length z3P),(.slice z3Q za.fHealth.length z3R),(.slice z3S za.fCauses.length z3T),(.slice z3U za.fVersions.length z3V)]]) (fun _ h=>Hp.y9l z15 h) ?_
      refine WL.a (d:=30) rfl rfl rfl (y1B (v:=(.agg #[(.slice z3G za.fModules.length z3H),(.slice z3I za.fChannels.length z3J),(.slice z3K za.fSwitches.length z3L),(.slice z3M za.fLinks.length z3N),(.slice z3O za.fVLs.length z3P),(.slice z3Q za.fHealth.length z3R),(.slice z3S za.fCauses.length z3T),(.slice z3U za.fVersions.length z3V),(.slice z3W z1e.length z3X),(.slice z3Y zW.length z3Z),(.map (some z40)),(.slice none 0 0),(.slice none 0 0),(.slice none 0 0)])) (Eos.parts (l:=[.tmp 26,.tmp 27,.tmp 28,.tmp 29]) (.cons rfl (.cons rfl (.cons rfl (.cons rfl .nil)))) [0,1,2,3]) (fun _=>by kernel_rfl)) ?_
      refine WL.new (dd:=31) rfl rfl rfl (y2g (cs:=[(.slice z3G za.fModules.length z3H),(.slice z3I za.fChannels.length z3J),(.slice z3K za.fSwitches.length z3L),(.slice z3M za.fLinks.length z3N),(.slice z3O za.fVLs.length z3P),(.slice z3Q za.fHealth.length z3R),(.slice z3S za.fCauses.length z3T),(.slice z3U za.fVersions.length z3V),(.slice z3W z1e.length z3X),(.slice z3Y zW.length z3Z),(.map (some z40)),(.slice none 0 0),(.slice none 0 0),(.slice none 0 0)]) rfl rfl) ?_
      intro z56 _
      refine WL.pu rfl (WL.nil (WX.a ?_))
      obtain ⟨z7k,zt1,h⟩:=y19 h
      refine WC.y4k (fun (z54 : List Snetwork_event) (zbh : Option Addr) (zbi : Nat)=>(z7k z54 = some r)) (fun (z54 : List Snetwork_event) (zbh : Option Addr) (zbi : Nat)=>[(11,(.pointer (some ⟨z56,0,none⟩)))]) (fun (z54 : List Snetwork_event) (zbh : Option Addr) (zbi : Nat)=>[stb z56 81 [(.slice z3G za.fModules.length z3H),(.slice z3I za.fChannels.length z3J),(.slice z3K za.fSwitches.length z3L),(.slice z3M za.fLinks.length z3N),(.slice z3O za.fVLs.length z3P),(.slice z3Q za.fHealth.length z3R),(.slice z3S za.fCauses.length z3T),(.slice z3U za.fVersions.length z3V),(.slice z3W z1e.length z3X),(.slice z3Y zW.length z3Z),(.map (some z40)),(.slice zbh z54.length zbi),(.slice none 0 0),(.slice none 0 0)],row (.slice zbh z54.length zbi) 113 7 (z54.flatMap yx),y1e z40 (fun x=>Value.agg (y1Q x).toArray) Value.pointer (y1m ([] : List (Snetwork_exit × ((Nat × (Option Addr × Nat)) × Sport_Port)))),y1l z15 ([] : List (Snetwork_exit × ((Nat × (Option Addr × Nat)) × Sport_Port)))]) ?_ ?_
      · skip
        refine WC.b (WC.a (WL.pu rfl ?_))
        refine WL.a (d:=33) rfl rfl rfl (yW Try.underlying33 rfl) ?_
        refine WL.pu rfl (WL.nil (WX.a (WC.block ?_)))
        refine WC.nilRow 113 7 ?_
        refine WC.y72 (fun (zbj : Nat) (z1T : Int) (z34 : List Snetwork_event) (z82 : Option Addr) (z83 : Nat)=>(y2h zW z1e za z7k zbj z1T z34 = some r)) (fun (zbj : Nat) (z1T : Int) (z34 : List Snetwork_event) (z82 : Option Addr) (z83 : Nat)=>[(2,(.slice z3W z1e.length z3X)),(11,(.pointer (some ⟨z56,0,none⟩))),(32,(.slice z3Y zW.length z3Z)),(33,(.int .i64 ((zW.length : Nat) : Int))),(34,(.int .i64 z1T))]) (fun (zbj : Nat) (z1T : Int) (z34 : List Snetwork_event) (z82 : Option Addr) (z83 : Nat)=>[stb z56 81 [(.slice z3G za.fModules.length z3H),(.slice z3I za.fChannels.length z3J),(.slice z3K za.fSwitches.length z3L),(.slice z3M za.fLinks.length z3N),(.slice z3O za.fVLs.length z3P),(.slice z3Q za.fHealth.length z3R),(.slice z3S za.fCauses.length z3T),(.slice z3U za.fVersions.length z3V),(.slice z3W z1e.length z3X),(.slice z3Y zW.length z3Z),(.map (some z40)),(.slice z82 z34.length z83),(.slice none 0 0),(.slice none 0 0)],row (.slice z82 z34.length z83) 113 7 (z34.flatMap yx),y1e z40 (fun x=>Value.agg (y1Q x).toArray) Value.pointer (y1m ([] : List (Snetwork_exit × ((Nat × (Option Addr × Nat)) × Sport_Port)))),y1l z15 ([] : List (Snetwork_exit × ((Nat × (Option Addr × Nat)) × Sport_Port)))]) (fun (zbj : Nat) (z1T : Int) (z34 : List Snetwork_event) (z82 : Option Addr) (z83 : Nat)=>zbj) ⟨yz,0,([] : List Snetwork_event),none,0⟩ h (.cons rfl (.cons rfl (.cons rfl (.cons rfl (.cons rfl .nil))))) (.cons .h1 (.cons .here (.cons .h1 (.cons .here .nil)))) ?_
        rintro zbj z1T z34 z82 z83 h
        obtain ⟨ziV,rfl⟩:=y5P h
        rw [y2h] at h
        refine WC.b (WC.a (WL.pu rfl (WL.nil (WX.a (WC.b ?_)))))
        refine WC.cond rfl (fun zj0=>?_) (fun zj0=>?_)
        · replace h:=ym h zj0
          refine WC.skip (WX.a ?_)
          obtain ⟨zfe,zt2,h⟩:=y19 h
          refine WC.y4k (fun (z53 : List Snetwork_event) (zbk : Option Addr) (zbl : Nat)=>(zfe z53 = some r)) (fun (z53 : List Snetwork_event) (zbk : Option Addr) (zbl : Nat)=>[(2,(.slice z3W z1e.length z3X)),(11,(.pointer (some ⟨z56,0,none⟩))),(32,(.slice z3Y zW.length z3Z)),(33,(.int .i64 ((zW.length : Nat) : Int))),(34,(.int .i64 z1T))]) (fun (z53 : List Snetwork_event) (zbk : Option Addr) (zbl : Nat)=>[stb z56 81 [(.slice z3G za.fModules.length z3H),(.slice z3I za.fChannels.length z3J),(.slice z3K za.fSwitches.length z3L),(.slice z3M za.fLinks.length z3N),(.slice z3O za.fVLs.length z3P),(.slice z3Q za.fHealth.length z3R),(.slice z3S za.fCauses.length z3T),(.slice z3U za.fVersions.length z3V),(.slice z3W z1e.length z3X),(.slice z3Y zW.length z3Z),(.map (some z40)),(.slice zbk z53.length zbl),(.slice none 0 0),(.slice none 0 0)],row (.slice zbk z53.length zbl) 113 7 (z53.flatMap yx),y1e z40 (fun x=>Value.agg (y1Q x).toArray) Value.pointer (y1m ([] : List (Snetwork_exit × ((Nat × (Option Addr × Nat)) × Sport_Port)))),y1l z15 ([] : List (Snetwork_exit × ((Nat × (Option Addr × Nat)) × Sport_Port)))]) ?_ ?_
          · skip
            refine WC.block (WC.b ?_)
            obtain ⟨zt3,h⟩:=yj h
            refine WC.a (WL.pu rfl ?_)
            refine WL.znth (dd:=37) rfl rfl (Z:=Z) (Pr:=(fun r x=>r = e53 x)) y41 rfl rfl zfo zt3 ?_
            rintro zxh zxi zt4 zxj rfl
            refine WL.a (d:=38) rfl rfl rfl (yF y5F rfl (y3G hz.pv zt4) rfl) ?_
            refine WL.new (dd:=13) rfl rfl rfl (y2u (cs:=[(.int .i64 0),(.int .i64 0),(.int .i64 0)]) y63 rfl) ?_
            intro zxk _
            refine WL.pu rfl ?_
            refine WL.y1o rfl rfl (y22 y6S rfl rfl rfl .here rfl rfl rfl) ?_
            refine WL.nil (WX.a (WC.b ?_))
            obtain ⟨zt5,h⟩:=yj h
            refine WC.a (WL.pu rfl ?_)
            refine WL.a (d:=40) rfl rfl rfl (ya y4Z rfl rfl) ?_
            refine WL.a (d:=41) rfl rfl rfl (yb yf rfl (ye .here rfl)) ?_
            refine WL.znth (dd:=42) rfl rfl (Z:=Z) (Pr:=(p55 Z)) y6y rfl rfl zfn zt5 ?_
            rintro zxl zxm zt6 zxn ⟨zxo,zxp,rfl,zt7⟩
            refine WL.a (d:=43) rfl rfl rfl (yb y6O rfl (rd_z hz.pv zt6 rfl)) ?_
            refine WL.pu rfl (WL.nil (WX.a (WC.b (WC.a (WL.pu rfl ?_)))))
            refine WL.a (d:=45) rfl rfl rfl (yW Try.underlying55 rfl) ?_
            refine WL.pu rfl (WL.nil (WX.a ?_))
            refine WC.cond rfl (fun zj1=>?_) (fun zj1=>?_)
            · replace h:=ym h zj1
              obtain ⟨zt8,h⟩:=yj h
              obtain ⟨ziW,zt9,h⟩:=zf h
              refine WC.yZ (fun i=>[8].contains i) [] rfl ?_
              refine WD.a (i:=0) (d:=47) (by kernel_rfl) rfl (z2 (by kernel_rfl)) (z3 (by kernel_rfl)) rfl rfl rfl (fun _=>q_m rfl) ?_
              refine WD.a (i:=1) (d:=48) (by kernel_rfl) rfl (z2 (by kernel_rfl)) (z3 (by kernel_rfl)) rfl rfl rfl (fun _=>q_m rfl) ?_
              refine WD.znth (j:=2) (dd:=49) (by kernel_rfl) rfl (z2 (by kernel_rfl)) (z3 (by kernel_rfl)) rfl rfl (Z:=Z) (Pr:=(fun r x=>r = e59 x)) y6z rfl rfl zt7 zt8 ?_
              rintro zxq zxr zta zxs rfl
              refine WD.a (i:=3) (d:=50) (by kernel_rfl) rfl (z2 (by kernel_rfl)) (z3 (by kernel_rfl)) rfl rfl rfl (fun _=>ya y3q rfl rfl) ?_
              refine WD.e (i:=4) (d:=51) (by kernel_rfl) rfl (z2 (by kernel_rfl)) (z3 (by kernel_rfl)) rfl rfl rfl (yb yf rfl (y2e hz.pv zta rfl)) ?_
              refine WD.a (i:=5) (d:=52) (by kernel_rfl) rfl (z2 (by kernel_rfl)) (z3 (by kernel_rfl)) rfl rfl rfl (fun _=>ya y3r rfl rfl) ?_
              refine WD.e (i:=6) (d:=53) (by kernel_rfl) rfl (z2 (by kernel_rfl)) (z3 (by kernel_rfl)) rfl rfl rfl (yb yf rfl (ye .here rfl)) ?_
              refine WD.a (i:=7) (d:=54) (by kernel_rfl) rfl (z2 (by kernel_rfl)) (z3 (by kernel_rfl)) rfl rfl rfl (fun _=>q_m rfl) ?_
              refine WD.call2 (i:=8) (dd:=55) rfl (by kernel_rfl) rfl rfl rfl (.inl ⟨rfl,fun _ _=>(Sin.of .nil)⟩) (zy (l:=[.tmp 47,.tmp 51,.tmp 53,.const (.int .i64 (-1)),.tmp 54]) Try.call25 (.cons rfl (.cons rfl (.cons rfl (.cons rfl (.cons rfl .nil)))))) (.cons .h1 (.cons .h2 (.cons .h2 (.cons .h1 .nil)))) (cc hz (.cons .h1 (.cons .h2 (.cons .h2 (.cons .h1 .nil)))) fun w pz ho=>y4r _ _ _ _ _ _ _ _ _ _ _ _ _ _ _ _ _ _ _ _ _ _ _ _ _ _ _ _ _ _ _ _ _ _ _ _ _ _ _ _ _ _ zt9 w pz zff zfg zfh zfi zfj zfk zfl zfm zfn zfo rfl (ZS.nil _ _ _) (ZS.nil _ _ _) ho) ?_
              rintro ztb ztc _
              refine WD.done (by kernel_rfl) ?_
              refine WX.yg ?_
              exact WX.mid (G:=List Snetwork_event × Option Addr × Nat) ⟨ziW,ztb,ztc⟩ h (.cons rfl (.cons rfl (.cons rfl (.cons rfl (.cons rfl .nil))))) (.cons .here (.cons .here (.cons .here (.cons .here .nil))))
            · replace h:=yn h zj1
              refine WC.skip (WX.yg ?_)
              exact WX.mid (G:=List Snetwork_event × Option Addr × Nat) ⟨z34,z82,z83⟩ h (.cons rfl (.cons rfl (.cons rfl (.cons rfl (.cons rfl .nil))))) (.cons .h1 (.cons .h1 (.cons .h1 (.cons .h1 .nil))))
          · rintro z53 zbk zbl h
            replace h:=(zt2 z53).symm.trans h
            refine WC.a (WL.pu rfl (WL.pu rfl (WL.nil ?_)))
            exact WX.round (G:=Nat × Int × List Snetwork_event × Option Addr × Nat) ⟨ziV,(i64 (z1T + 1)),z53,zbk,zbl⟩ h (Nat.lt_succ_self _) (.cons rfl (.cons rfl (.cons rfl (.cons rfl (.cons rfl .nil))))) (.cons .here (.cons .here (.cons .here (.cons .here .nil))))
        · replace h:=yn h zj0
          refine WC.exit (WX.yd (WX.yd (WX.yA ?_)))
          exact WX.mid (G:=List Snetwork_event × Option Addr × Nat) ⟨z34,z82,z83⟩ h (.cons rfl .nil) (.cons .here (.cons .here (.cons .here (.cons .here .nil))))
      · rintro z54 zbh zbi h
        replace h:=(zt1 z54).symm.trans h
        obtain ⟨z7l,ztd,h⟩:=jp4_elim h
        refine WC.y8K (fun (z7n : List Snetwork_event) (z6n : List Sapi_Come) (z55 : List Sapi_Come) (z9w : List (Snetwork_exit × Sport_Port)) (zdG : Option Addr) (zdH : Nat) (zbm : Option Addr) (zbn : Nat) (z9x : Option Addr) (z9y : Nat) (zbo : List (Snetwork_exit × ((Nat × (Option Addr × Nat)) × Sport_Port)))=>(z7l z7n z6n z55 z9w = some r) ∧ (dat zbo = z9w)) (fun (z7n : List Snetwork_event) (z6n : List Sapi_Come) (z55 : List Sapi_Come) (z9w : List (Snetwork_exit × Sport_Port)) (zdG : Option Addr) (zdH : Nat) (zbm : Option Addr) (zbn : Nat) (z9x : Option Addr) (z9y : Nat) (zbo : List (Snetwork_exit × ((Nat × (Option Addr × Nat)) × Sport_Port)))=>[(11,(.pointer (some ⟨z56,0,none⟩)))]) (fun (z7n : List Snetwork_event) (z6n : List Sapi_Come) (z55 : List Sapi_Come) (z9w : List (Snetwork_exit × Sport_Port)) (zdG : Option Addr) (zdH : Nat) (zbm : Option Addr) (zbn : Nat) (z9x : Option Addr) (z9y : Nat) (zbo : List (Snetwork_exit × ((Nat × (Option Addr × Nat)) × Sport_Port)))=>[stb z56 81 [(.slice z3G za.fModules.length z3H),(.slice z3I za.fChannels.length z3J),(.slice z3K za.fSwitches.length z3L),(.slice z3M za.fLinks.length z3N),(.slice z3O za.fVLs.length z3P),(.slice z3Q za.fHealth.length z3R),(.slice z3S za.fCauses.length z3T),(.slice z3U za.fVersions.length z3V),(.slice z3W z1e.length z3X),(.slice z3Y zW.length z3Z),(.map (some z40)),(.slice zdG z7n.length zdH),(.slice zbm z6n.length zbn),(.slice z9x z55.length z9y)],row (.slice zdG z7n.length zdH) 113 7 (z7n.flatMap yx),row (.slice zbm z6n.length zbn) 50 3 (z6n.flatMap e50),row (.slice z9x z55.length z9y) 50 3 (z55.flatMap e50),y1e z40 (fun x=>Value.agg (y1Q x).toArray) Value.pointer (y1m zbo),y1l z15 zbo]) ?_ ?_
        · skip
          refine WC.block ?_
          refine WC.nilRow 50 3 ?_
          refine WC.nilRow 50 3 ?_
          refine WC.y9s (fun (zbp : Nat) (z3f : List Snetwork_event) (z3s : List Sapi_Come) (z3t : List Sapi_Come) (z4E : List (Snetwork_exit × Sport_Port)) (z9z : Option Addr) (z9A : Nat) (z9B : Option Addr) (z9C : Nat) (z9D : Option Addr) (z9E : Nat) (z84 : List (Snetwork_exit × ((Nat × (Option Addr × Nat)) × Sport_Port)))=>(y2i za z1e zW z7l zbp z3f z3s z3t z4E = some r) ∧ (dat z84 = z4E)) (fun (zbp : Nat) (z3f : List Snetwork_event) (z3s : List Sapi_Come) (z3t : List Sapi_Come) (z4E : List (Snetwork_exit × Sport_Port)) (z9z : Option Addr) (z9A : Nat) (z9B : Option Addr) (z9C : Nat) (z9D : Option Addr) (z9E : Nat) (z84 : List (Snetwork_exit × ((Nat × (Option Addr × Nat)) × Sport_Port)))=>[(11,(.pointer (some ⟨z56,0,none⟩)))]) (fun (zbp : Nat) (z3f : List Snetwork_event) (z3s : List Sapi_Come) (z3t : List Sapi_Come) (z4E : List (Snetwork_exit × Sport_Port)) (z9z : Option Addr) (z9A : Nat) (z9B : Option Addr) (z9C : Nat) (z9D : Option Addr) (z9E : Nat) (z84 : List (Snetwork_exit × ((Nat × (Option Addr × Nat)) × Sport_Port)))=>[stb z56 81 [(.slice z3G za.fModules.length z3H),(.slice z3I za.fChannels.length z3J),(.slice z3K za.fSwitches.length z3L),(.slice z3M za.fLinks.length z3N),(.slice z3O za.fVLs.length z3P),(.slice z3Q za.fHealth.length z3R),(.slice z3S za.fCauses.length z3T),(.slice z3U za.fVersions.length z3V),(.slice z3W z1e.length z3X),(.slice z3Y zW.length z3Z),(.map (some z40)),(.slice z9z z3f.length z9A),(.slice z9B z3s.length z9C),(.slice z9D z3t.length z9E)],row (.slice z9z z3f.length z9A) 113 7 (z3f.flatMap yx),row (.slice z9B z3s.length z9C) 50 3 (z3s.flatMap e50),row (.slice z9D z3t.length z9E) 50 3 (z3t.flatMap e50),y1e z40 (fun x=>Value.agg (y1Q x).toArray) Value.pointer (y1m z84),y1l z15 z84]) (fun (zbp : Nat) (z3f : List Snetwork_event) (z3s : List Sapi_Come) (z3t : List Sapi_Come) (z4E : List (Snetwork_exit × Sport_Port)) (z9z : Option Addr) (z9A : Nat) (z9B : Option Addr) (z9C : Nat) (z9D : Option Addr) (z9E : Nat) (z84 : List (Snetwork_exit × ((Nat × (Option Addr × Nat)) × Sport_Port)))=>zbp) ⟨yz,z54,([] : List Sapi_Come),([] : List Sapi_Come),([] : List (Snetwork_exit × Sport_Port)),zbh,zbi,none,0,none,0,([] : List (Snetwork_exit × ((Nat × (Option Addr × Nat)) × Sport_Port)))⟩ ⟨h,rfl⟩ (.cons rfl .nil) (.cons .h2 (.cons .h2 (.cons .h1 (.cons .here (.cons .here (.cons .here .nil)))))) ?_
          rintro zbp z3f z3s z3t z4E z9z z9A z9B z9C z9D z9E z84 ⟨h,znn⟩
          obtain ⟨ziX,rfl⟩:=y5Q h
          rw [y2i] at h
          refine WC.b (WC.b (WC.a (WL.pu rfl ?_)))
          refine WL.a (d:=58) rfl rfl rfl (yt rfl) ?_
          refine WL.a (d:=59) rfl rfl rfl (ya y7H rfl rfl) ?_
          refine WL.a (d:=60) rfl rfl rfl (yb y50 rfl (ye .here rfl)) ?_
          refine WL.a (d:=61) rfl rfl rfl (yW Try.underlying79 rfl) ?_
          refine WL.pu rfl (WL.nil (WX.a ?_))
          refine WC.cond rfl (fun zj2=>?_) (fun zj2=>?_)
          · replace h:=ym h zj2
            refine WC.skip (WX.a (WC.block ?_))
            obtain ⟨z7m,zte,h⟩:=zf h
            refine WC.a (WL.pu rfl ?_)
            refine WL.y9r (dd:=64) rfl rfl rfl (zy (l:=[.tmp 63]) Try.call26 (.cons rfl .nil)) (.cons .here (.cons .h3 (.cons .h3 (.cons .here (.cons .here (.cons .here .nil)))))) (cc hz (.cons .here (.cons .h3 (.cons .h3 (.cons .here (.cons .here (.cons .here .nil)))))) fun w pz ho=>y6E _ _ _ _ _ _ _ _ _ _ _ _ _ _ _ _ _ _ _ _ _ _ _ _ _ _ _ _ _ _ _ _ _ _ _ _ _ _ zte w pz zff zfg zfh zfi zfj zfk zfl zfm zfn zfo znn ho) ?_
            rintro ztf ztg zth zti ztj ztk ztl ztm
            refine WL.nil (WX.yg ?_)
            exact WX.round (G:=Nat × List Snetwork_event × List Sapi_Come × List Sapi_Come × (List (Snetwork_exit × Sport_Port)) × Option Addr × Nat × Option Addr × Nat × Option Addr × Nat × (List (Snetwork_exit × ((Nat × (Option Addr × Nat)) × Sport_Port)))) ⟨ziX,z7m.1,z7m.2.1,z7m.2.2.1,z7m.2.2.2,ztf,ztg,zth,zti,ztj,ztk,ztl⟩ ⟨h,ztm⟩ (Nat.lt_succ_self _) (.cons rfl .nil) (.cons .here (.cons .here (.cons .here (.cons .here (.cons .here (.cons .here .nil))))))
          · replace h:=yn h zj2
            refine WC.exit (WX.yd (WX.yd (WX.yA ?_)))
            exact WX.mid (G:=List Snetwork_event × List Sapi_Come × List Sapi_Come × (List (Snetwork_exit × Sport_Port)) × Option Addr × Nat × Option Addr × Nat × Option Addr × Nat × (List (Snetwork_exit × ((Nat × (Option Addr × Nat)) × Sport_Port)))) ⟨z3f,z3s,z3t,z4E,z9z,z9A,z9B,z9C,z9D,z9E,z84⟩ ⟨h,znn⟩ (.cons rfl .nil) (.cons .here (.cons .here (.cons .here (.cons .here (.cons .here (.cons .here .nil))))))
        · rintro z7n z6n z55 z9w zdG zdH zbm zbn z9x z9y zbo ⟨h,zxt⟩
          replace h:=(ztd z7n z6n z55 z9w).symm.trans h
          refine WC.b ?_
          obtain ⟨znh,ztn,h⟩:=zf h
          obtain ⟨zni,zto,h⟩:=zf h
          refine WC.yZ (fun i=>[4,9].contains i) [stbp z56 81 [(13,(.slice z9x z55.length z9y))]] rfl ?_
          refine WD.a (i:=0) (d:=65) (by kernel_rfl) rfl (z2 (by kernel_rfl)) (z3 (by kernel_rfl)) rfl rfl rfl (fun _=>q_m rfl) ?_
          refine WD.a (i:=1) (d:=66) (by kernel_rfl) rfl (z2 (by kernel_rfl)) (z3 (by kernel_rfl)) rfl rfl rfl (fun _=>yt rfl) ?_
          refine WD.a (i:=2) (d:=67) (by kernel_rfl) rfl (z2 (by kernel_rfl)) (z3 (by kernel_rfl)) rfl rfl rfl (fun _=>ya y7L rfl rfl) ?_
          refine WD.e (i:=3) (d:=68) (by kernel_rfl) rfl (z2 (by kernel_rfl)) (z3 (by kernel_rfl)) rfl rfl rfl (yb y6T rfl (ye .here rfl)) ?_
          refine WD.a (i:=5) (d:=70) (by kernel_rfl) rfl (z2 (by kernel_rfl)) (z3 (by kernel_rfl)) rfl rfl rfl (fun _=>q_m rfl) ?_
          refine WD.a (i:=6) (d:=71) (by kernel_rfl) rfl (z2 (by kernel_rfl)) (z3 (by kernel_rfl)) rfl rfl rfl (fun _=>yt rfl) ?_
          refine WD.a (i:=7) (d:=72) (by kernel_rfl) rfl (z2 (by kernel_rfl)) (z3 (by kernel_rfl)) rfl rfl rfl (fun _=>ya y7K rfl rfl) ?_
          refine WD.stable (i:=8) (d:=73) (by kernel_rfl) rfl (z2 (by kernel_rfl)) (z3 (by kernel_rfl)) rfl rfl rfl (Sin.wk (.cons .here .nil) (.stb (.cons rfl .nil) .nil)) (yb y6T rfl (y6J .here (.head _))) ?_
          refine WD.call0 (i:=4) (dd:=69) rfl (by kernel_rfl) rfl rfl rfl (.inl ⟨rfl,(Sin.wk (.cons .h1 .nil) (.stb (.cons rfl .nil) .nil))⟩) (zy (l:=[.tmp 68]) Try.call27 (.cons rfl .nil)) (.cons .h2 .nil) (cc hz (.cons .h2 .nil) fun w pz ho=>y5e _ _ _ _ _ ztn w pz  ho) ?_
          rintro  zxu
          refine WD.call0 (i:=9) (dd:=74) rfl (by kernel_rfl) rfl rfl rfl (.inl ⟨rfl,(Sin.wk (.cons .h2 .nil) (.stb (.cons rfl .nil) .nil))⟩) (zy (l:=[.tmp 73]) Try.call27 (.cons rfl .nil)) (.cons .h3 .nil) (cc hz (.cons .h3 .nil) fun w pz ho=>y5e _ _ _ _ _ zto w pz  ho) ?_
          rintro  zxv
          refine WD.a (i:=10) (d:=8) (by kernel_rfl) rfl (z2 (by kernel_rfl)) (z3 (by kernel_rfl)) rfl rfl rfl (fun _=>q_z rfl) ?_
          refine WD.a (i:=11) (d:=9) (by kernel_rfl) rfl (z2 (by kernel_rfl)) (z3 (by kernel_rfl)) rfl rfl rfl (fun _=>q_z rfl) ?_
          refine WD.a (i:=12) (d:=10) (by kernel_rfl) rfl (z2 (by kernel_rfl)) (z3 (by kernel_rfl)) rfl rfl rfl (fun _=>q_z rfl) ?_
          refine WD.done (by kernel_rfl) ?_
          refine WX.a (WC.ret ?_)
          obtain rfl:=Option.some.inj h
          refine WX.yh Try.results12 (.tmp rfl (.tmp rfl (.tmp rfl .nil))) (fun w hw=>?_)
          exact ⟨zbm,zbn,z9x,z9y,ret3 rfl rfl rfl,trivial,hw.sub (.cons .h1 (.cons .here .nil))⟩
def y2t (z1I : List Sapi_Come) (z1Y : List Sapi_Come) (z7o : Option Bool) : Nat → Int → Option Bool
  | 0,_=>none
  | zj3 + 1,z1v=>if decide (z1v < ((z1I.length : Nat) : Int)) then chk ((0 : Int) ≤ z1v ∧ z1v < ((z1I.length : Nat) : Int)) (chk ((0 : Int) ≤ z1v ∧ z1v < ((z1Y.length : Nat) : Int)) (if decide ((⟨((nth z1I z1v).fSent),((nth z1I z1v).fNode),((nth z1I z1v).fTime)⟩ : Sapi_Come) ≠ (⟨((nth z1Y z1v).fSent),((nth z1Y z1v).fNode),((nth z1Y z1v).fTime)⟩ : Sapi_Come)) then some false else y2t z1I z1Y z7o zj3 (i64 (z1v + 1)))) else z7o
theorem y69 {n : Nat} {z1I : List Sapi_Come} {z1Y : List Sapi_Come} {z7o : Option Bool} {z1v : Int} {r : Bool} (h : y2t z1I z1Y z7o n z1v = some r) : ∃ m,n = m + 1:=by
  cases n with
  | zero=>cases h
  | succ m=>exact ⟨m,rfl⟩
def y2I (z1I : List Sapi_Come) (z1Y : List Sapi_Come) : Option Bool :=
  if decide (((z1I.length : Nat) : Int) ≠ ((z1Y.length : Nat) : Int)) then some false else jp0 (some true) fun z7o=>y2t z1I z1Y z7o yz 0
set_option maxRecDepth 20000 in
theorem y4q (Z : Zp) (zdI : Option Addr) (zdJ : Nat) (zdK : Option Addr) (zdL : Nat) (z1I : List Sapi_Come) (z1Y : List Sapi_Come) (r : Bool)
     (h : y2I z1I z1Y = some r) (w₀ : World) (hz : PZ [] w₀ Z)
     (ztp : ZS Z 3 (fun r x=>r = e50 x) zdI zdJ z1I)
     (ztq : ZS Z 3 (fun r x=>r = e50 x) zdK zdL z1Y) :
    Calls Try.prog 14 #[(.slice zdI z1I.length zdJ),(.slice zdK z1Y.length zdL)] w₀ fun e w'=>e = .returned (.bool r) ∧ Hp [] w₀ w' []:=by
  unfold y2I at h
  refine Calls.yl (vs:=[(.slice zdI z1I.length zdJ),(.slice zdK z1Y.length zdL)]) (pre:=[]) (env:=[(0,(.slice zdI z1I.length zdJ)),(1,(.slice zdK z1Y.length zdL))]) Try.func14 rfl Try.ntmps14 rfl (Hp.nil w₀ _) rfl ?_
  refine WC.b (WC.a (WL.pu rfl (WL.nil (WX.a (WC.b (WC.b (WC.a (WL.pu rfl ?_))))))))
  refine WL.a (d:=7) rfl rfl rfl (yW Try.underlying36 rfl) ?_
  refine WL.pu rfl ?_
  refine WL.a (d:=9) rfl rfl rfl (yW Try.underlying36 rfl) ?_
  refine WL.pu rfl (WL.nil (WX.a ?_))
  refine WC.cond rfl (fun zj4=>?_) (fun zj4=>?_)
  · replace h:=ym h zj4
    refine WC.b (WC.a (WL.pu rfl (WL.nil (WX.a (WC.ret (WX.yi ?_))))))
    obtain rfl:=Option.some.inj h
    refine WX.yh Try.results14 (.tmp rfl .nil) (fun w hw=>?_)
    exact ⟨y10 rfl,hw.sub .nil⟩
  · replace h:=yn h zj4
    refine WC.skip (WX.a ?_)
    obtain ⟨z7o,ztr,h⟩:=y2P h
    refine WC.y2p ((z7o = some r)) ([]) ([]) ?_ ?_
    · skip
      refine WC.b (WC.a (WL.pu rfl ?_))
      refine WL.a (d:=12) rfl rfl rfl (yW Try.underlying36 rfl) ?_
      refine WL.pu rfl (WL.nil (WX.a (WC.block ?_)))
      refine WC.y3Z (fun (zbq : Nat) (z1v : Int)=>(y2t z1I z1Y z7o zbq z1v = some r)) (fun (zbq : Nat) (z1v : Int)=>[(0,(.slice zdI z1I.length zdJ)),(1,(.slice zdK z1Y.length zdL)),(12,(.int .i64 ((z1I.length : Nat) : Int))),(13,(.int .i64 z1v))]) (fun (zbq : Nat) (z1v : Int)=>[]) (fun (zbq : Nat) (z1v : Int)=>zbq) ⟨yz,0⟩ h (.cons rfl (.cons rfl (.cons rfl (.cons rfl .nil)))) .nil ?_
      rintro zbq z1v h
      obtain ⟨zj3,rfl⟩:=y69 h
      rw [y2t] at h
      refine WC.b (WC.a (WL.pu rfl (WL.nil (WX.a (WC.b ?_)))))
      refine WC.cond rfl (fun zj5=>?_) (fun zj5=>?_)
      · replace h:=ym h zj5
        refine WC.skip (WX.a (WC.b (WC.block (WC.b (WC.a (WL.pu rfl (WL.pu rfl (WL.nil (WX.a (WC.b ?_))))))))))
        obtain ⟨zts,h⟩:=yj h
        obtain ⟨ztt,h⟩:=yj h
        refine WC.yZ (fun i=>[].contains i) [] rfl ?_
        refine WD.a (i:=0) (d:=16) (by kernel_rfl) rfl (z2 (by kernel_rfl)) (z3 (by kernel_rfl)) rfl rfl rfl (fun _=>q_m rfl) ?_
        refine WD.a (i:=1) (d:=17) (by kernel_rfl) rfl (z2 (by kernel_rfl)) (z3 (by kernel_rfl)) rfl rfl rfl (fun _=>q_m rfl) ?_
        refine WD.znth (j:=2) (dd:=18) (by kernel_rfl) rfl (z2 (by kernel_rfl)) (z3 (by kernel_rfl)) rfl rfl (Z:=Z) (Pr:=(fun r x=>r = e50 x)) y16 rfl rfl ztp zts ?_
        rintro zxw zxx ztu zxy rfl
        refine WD.e (i:=3) (d:=19) (by kernel_rfl) rfl (z2 (by kernel_rfl)) (z3 (by kernel_rfl)) rfl rfl rfl (yF y2c rfl (y3G hz.pv ztu) rfl) ?_
        refine WD.a (i:=4) (d:=20) (by kernel_rfl) rfl (z2 (by kernel_rfl)) (z3 (by kernel_rfl)) rfl rfl rfl (fun _=>q_m rfl) ?_
        refine WD.a (i:=5) (d:=21) (by kernel_rfl) rfl (z2 (by kernel_rfl)) (z3 (by kernel_rfl)) rfl rfl rfl (fun _=>q_m rfl) ?_
        refine WD.znth (j:=6) (dd:=22) (by kernel_rfl) rfl (z2 (by kernel_rfl)) (z3 (by kernel_rfl)) rfl rfl (Z:=Z) (Pr:=(fun r x=>r = e50 x)) y16 rfl rfl ztq ztt ?_
        rintro zxz zxA ztv zxB rfl
        refine WD.e (i:=7) (d:=23) (by kernel_rfl) rfl (z2 (by kernel_rfl)) (z3 (by kernel_rfl)) rfl rfl rfl (yF y2c rfl (y3G hz.pv ztv) rfl) ?_
        refine WD.a (i:=8) (d:=24) (by kernel_rfl) rfl (z2 (by kernel_rfl)) (z3 (by kernel_rfl)) rfl rfl rfl (fun _=>q_aggneq (enc:=e50) (a:=(⟨((nth z1I z1v).fSent),((nth z1I z1v).fNode),((nth z1I z1v).fTime)⟩ : Sapi_Come)) (b:=(⟨((nth z1Y z1v).fSent),((nth z1Y z1v).fNode),((nth z1Y z1v).fTime)⟩ : Sapi_Come)) eqT_50 rfl rfl) ?_
        refine WD.done (by kernel_rfl) ?_
        refine WX.a ?_
        refine WC.cond rfl (fun zj6=>?_) (fun zj6=>?_)
        · replace h:=ym h zj6
          refine WC.b (WC.a (WL.pu rfl (WL.nil (WX.a (WC.ret (WX.yK (WX.yi (WX.yi (WX.yK (WX.yi ?_))))))))))
          obtain rfl:=Option.some.inj h
          refine WX.yh Try.results14 (.tmp rfl .nil) (fun w hw=>?_)
          exact ⟨y10 rfl,hw.sub .nil⟩
        · replace h:=yn h zj6
          refine WC.skip (WX.yg (WX.a (WC.a (WL.pu rfl (WL.pu rfl (WL.nil ?_))))))
          exact WX.round (G:=Nat × Int) ⟨zj3,(i64 (z1v + 1))⟩ h (Nat.lt_succ_self _) (.cons rfl (.cons rfl (.cons rfl (.cons rfl .nil)))) .nil
      · replace h:=yn h zj5
        refine WC.exit (WX.yd (WX.yd (WX.yA ?_)))
        exact WX.mid (G:=Unit) () h .nil .nil
    · rintro  h
      replace h:=ztr.symm.trans h
      refine WC.b (WC.a (WL.pu rfl (WL.nil (WX.a (WC.ret ?_)))))
      obtain rfl:=Option.some.inj h
      refine WX.yh Try.results14 (.tmp rfl .nil) (fun w hw=>?_)
      exact ⟨y10 rfl,hw.sub .nil⟩
def y3c (z7p : Option Bool) : Nat → Int → Option Bool
  | 0,_=>none
  | zj7 + 1,z1Z=>if decide (z1Z < ((([1000,50,30] : List Int).length : Nat) : Int)) then chk ((0 : Int) ≤ z1Z ∧ z1Z < ((([1000,50,30] : List Int).length : Nat) : Int)) ((y4n (nth ([1000,50,30] : List Int) z1Z)).bind fun z1g=>(y2w z1g.1 0 z1g.2 ([(⟨0,0,40⟩ : zSt),(⟨10,0,40⟩ : zSt)] : List zSt)).bind fun z2y=>jp2 (fun (z57 : List Sapi_Come) (z58 : List Sapi_Come)=>jp2 (fun (z6o : List Sapi_Come) (z6p : List Sapi_Come)=>(if decide (z2y.2.2 ≠ 0) then some true else (y2I z2y.1 z6o).bind fun zno=>some (!zno)).bind fun zj8=>(if zj8 then some true else (y2I z2y.2.1 z6p).bind fun znp=>some (!znp)).bind fun zj9=>(if zj9 then some true else (y2q z1g.1).bind fun znq=>some (decide (znq ≠ 3))).bind fun zja=>(if zja then some true else (y31 z1g.1 2).bind fun znr=>some (decide (znr ≠ ⟨#[115]⟩))).bind fun zjb=>if zjb then some false else y3c z7p zj7 (i64 (z1Z + 1))) fun zfp=>if decide ((nth ([1000,50,30] : List Int) z1Z) = 30) then zfp ([] : List Sapi_Come) ([(⟨0,2,40⟩ : Sapi_Come),(⟨1,2,80⟩ : Sapi_Come)] : List Sapi_Come) else zfp z57 z58) fun zfq=>if decide ((nth ([1000,50,30] : List Int) z1Z) = 50) then chk ((0 : Int) ≤ 1 ∧ 1 ≤ ((([(⟨0,1,96⟩ : Sapi_Come),(⟨1,1,136⟩ : Sapi_Come)] : List Sapi_Come).length : Nat) : Int)) (zfq (([(⟨0,1,96⟩ : Sapi_Come),(⟨1,1,136⟩ : Sapi_Come)] : List Sapi_Come).take (1 : Int).toNat) ([(⟨1,2,80⟩ : Sapi_Come)] : List Sapi_Come)) else zfq ([(⟨0,1,96⟩ : Sapi_Come),(⟨1,1,136⟩ : Sapi_Come)] : List Sapi_Come) ([] : List Sapi_Come)) else z7p
theorem y5R {n : Nat} {z7p : Option Bool} {z1Z : Int} {r : Bool} (h : y3c z7p n z1Z = some r) : ∃ m,n = m + 1:=by
  cases n with
  | zero=>cases h
  | succ m=>exact ⟨m,rfl⟩
def y3R  : Option Bool :=
  jp0 (some true) fun z7p=>y3c z7p yz 0
set_option maxRecDepth 20000 in
theorem y6k (Z : Zp)  (r : Bool)
     (h : y3R = some r) (w₀ : World) (hz : PZ [] w₀ Z) :
    Calls Try.prog 11 #[] w₀ fun e w'=>∃ Zn : Zp,e = .returned (.bool r) ∧ True ∧ Hp [] w₀ w' [fz Zn]:=by
  unfold y3R at h
  refine Calls.yl (vs:=[]) (pre:=[]) (env:=[]) Try.func11 rfl Try.ntmps11 rfl (Hp.nil w₀ _) rfl ?_
  refine WC.pool (WC.b (WC.a (WL.pu rfl (WL.nil (WX.a (WC.b (WC.a ?_)))))))
  refine WL.a (d:=11) rfl rfl rfl (y1B (v:=(.agg #[(.int .i64 0),(.int .i64 0),(.int .i64 40)])) (Eos.parts (l:=[.const (.int .i64 0),.const (.int .i64 40)]) (.cons rfl (.cons rfl .nil)) [0,2]) (fun _=>by kernel_rfl)) ?_
  refine WL.a (d:=12) rfl rfl rfl (y1B (v:=(.agg #[(.int .i64 10),(.int .i64 0),(.int .i64 40)])) (Eos.parts (l:=[.const (.int .i64 10),.const (.int .i64 40)]) (.cons rfl (.cons rfl .nil)) [0,2]) (fun _=>by kernel_rfl)) ?_
  refine WL.new (dd:=13) rfl rfl rfl (y15 (cs:=([(⟨0,0,40⟩ : zSt),(⟨10,0,40⟩ : zSt)] : List zSt).flatMap e53) y41 (Eos.parts (l:=[.tmp 11,.tmp 12]) (.cons rfl (.cons rfl .nil)) [0,1]) (fun _=>by kernel_rfl) rfl (by unfold maxLen; omega)) ?_
  intro zbr _
  refine WL.pu rfl (WL.nil (WX.a ?_))
  obtain ⟨z7p,ztw,h⟩:=y2P h
  refine WC.y1H (fun (zbs : Zp)=>(z7p = some r) ∧ (Zle (Z ++ []) (Z ++ zbs))) (fun (zbs : Zp)=>[]) (fun (zbs : Zp)=>[fz zbs]) ?_ ?_
  · skip
    refine WC.b (WC.a ?_)
    refine WL.new (dd:=14) rfl rfl rfl (y15 (cs:=([1000,50,30] : List Int).flatMap e3) y6B (Eos.parts (l:=[.const (.int .i64 1000),.const (.int .i64 50),.const (.int .i64 30)]) (.cons rfl (.cons rfl (.cons rfl .nil))) [0,1,2]) (fun _=>by kernel_rfl) rfl (by unfold maxLen; omega)) ?_
    intro zbt _
    refine WL.a (d:=15) rfl rfl rfl (yW Try.underlying56 rfl) ?_
    refine WL.pu rfl (WL.nil (WX.a (WC.block ?_)))
    refine WC.y28 (fun (zbu : Nat) (z1Z : Int) (z59 : Zp)=>(y3c z7p zbu z1Z = some r) ∧ (Zle (Z ++ []) (Z ++ z59))) (fun (zbu : Nat) (z1Z : Int) (z59 : Zp)=>[(1,(.slice (some ⟨zbr,0,none⟩) (([(⟨0,0,40⟩ : zSt),(⟨10,0,40⟩ : zSt)] : List zSt).length) 2)),(14,(.slice (some ⟨zbt,0,none⟩) (([1000,50,30] : List Int).length) 3)),(15,(.int .i64 ((([1000,50,30] : List Int).length : Nat) : Int))),(16,(.int .i64 z1Z))]) (fun (zbu : Nat) (z1Z : Int) (z59 : Zp)=>[fz z59,row (.slice (some ⟨zbr,0,none⟩) (([(⟨0,0,40⟩ : zSt),(⟨10,0,40⟩ : zSt)] : List zSt).length) 2) 53 3 (([(⟨0,0,40⟩ : zSt),(⟨10,0,40⟩ : zSt)] : List zSt).flatMap e53),row (.slice (some ⟨zbt,0,none⟩) (([1000,50,30] : List Int).length) 3) 3 1 (([1000,50,30] : List Int).flatMap e3)]) (fun (zbu : Nat) (z1Z : Int) (z59 : Zp)=>zbu) ⟨yz,0,[]⟩ ⟨h,(Zle.refl _)⟩ (.cons rfl (.cons rfl (.cons rfl (.cons rfl .nil)))) (.cons .h2 (.cons .h1 (.cons .here .nil))) ?_
    rintro zbu z1Z z59 ⟨h,zns⟩
    obtain ⟨zj7,rfl⟩:=y5R h
    rw [y3c] at h
    refine WC.b (WC.a (WL.pu rfl (WL.nil (WX.a (WC.b ?_)))))
    refine WC.cond rfl (fun zjc=>?_) (fun zjc=>?_)
    · replace h:=ym h zjc
      refine WC.skip (WX.a (WC.b (WC.block (WC.b ?_))))
      obtain ⟨zfr,h⟩:=yj h
      refine WC.a ?_
      refine WL.a (d:=18) rfl rfl rfl (yr y6B rfl rfl zfr.1 zfr.2 y1b) ?_
      refine WL.a (d:=19) rfl rfl rfl (yb yf rfl (y7j .h2 ((y1J (enc:=e3) (l:=([1000,50,30] : List Int)) (i:=z1Z) (sz:=1) (fun _=>rfl) zfr.1 zfr.2) 0 _ rfl))) ?_
      refine WL.pu rfl (WL.nil (WX.a (WC.b ?_)))
      obtain ⟨z1g,ztx,h⟩:=zf h
      refine WC.a (WL.pu rfl ?_)
      refine WL.y9k (dd:=22) rfl rfl rfl (zy (l:=[.tmp 21]) Try.call23 (.cons rfl .nil)) .nil (ccz hz .nil .here fun w pz ho=>y7r _ _ _ ztx w pz ) ?_
      rintro zfs zft zfu znt znu znv zfv zfw zfx zfy zfz zfA znw znx zny znz znA znB znC zxC zxD zxE ⟨zjd,zje,zjf,zjg,zjh,zji,zty⟩
      refine WL.merge .here .h5 ?_
      refine WL.pu rfl (WL.pu rfl (WL.pu rfl ?_))
      refine WL.new (dd:=4) rfl rfl rfl (y2u (cs:=[(.slice none 0 0),(.slice none 0 0),(.slice none 0 0),(.slice none 0 0),(.slice none 0 0),(.slice none 0 0),(.slice none 0 0),(.slice none 0 0)]) y75 rfl) ?_
      intro zfB _
      refine WL.y1o rfl rfl (y22 y7G rfl rfl rfl .here rfl rfl rfl) ?_
      refine WL.pu rfl (WL.nil (WX.a (WC.b ?_)))
      obtain ⟨z2y,ztz,h⟩:=zf h
      refine WC.a ?_
      refine WL.a (d:=26) rfl rfl rfl (yF y1C rfl (y1i .here) rfl) ?_
      refine WL.pu rfl (WL.pu rfl ?_)
      refine WL.y6p (dd:=29) rfl rfl rfl (zy (l:=[.tmp 26,.const (.int .i64 0),.tmp 27,.tmp 28]) Try.call12 (.cons rfl (.cons rfl (.cons rfl (.cons rfl .nil))))) .nil (cclz hz .nil .h1 (.cons .h2 (.cons .h2 (.cons .h2 (.cons .h2 (.cons .h2 (.cons .h2 .nil)))))) fun w pz ho la=>y4N _ _ _ _ _ _ _ _ _ _ _ _ _ _ _ _ _ _ _ _ _ _ _ _ _ _ ztz w pz (ZA.row (la _ (.head _) _) ((zjd.weak (fun _ _ h=>y1E (Zle.y11 _ _ _) h)).weak (fun _ _ h=>y1E (Zle.left _ _) h)) ⟨w,pz.1⟩) ((((zje.mono (Zle.y11 _ _ _)).weak (fun _ _ h=>y1L (Zle.y11 _ _ _) h)).mono (Zle.left _ _)).weak (fun _ _ h=>y1L (Zle.left _ _) h)) (ZA.row (la _ (.tail _ (.head _)) _) (RR.y17 (enc:=e64) (fun _=>rfl) _) ⟨w,pz.1⟩) (ZA.row (la _ (.tail _ (.tail _ (.head _))) _) (RR.y17 (enc:=e62) (fun _=>rfl) _) ⟨w,pz.1⟩) (ZA.row (la _ (.tail _ (.tail _ (.tail _ (.head _)))) _) ((zjf.weak (fun _ _ h=>y1F (Zle.y11 _ _ _) h)).weak (fun _ _ h=>y1F (Zle.left _ _) h)) ⟨w,pz.1⟩) ((zjg.mono (Zle.y11 _ _ _)).mono (Zle.left _ _)) ((((zjh.mono (Zle.y11 _ _ _)).weak (fun _ _ h=>y1M (Zle.y11 _ _ _) h)).mono (Zle.left _ _)).weak (fun _ _ h=>y1M (Zle.left _ _) h)) ((zji.mono (Zle.y11 _ _ _)).mono (Zle.left _ _)) (ZA.row (la _ (.tail _ (.tail _ (.tail _ (.tail _ (.head _))))) _) ((zty.weak (fun _ _ h=>y3I (Zle.y11 _ _ _) h)).weak (fun _ _ h=>y3I (Zle.left _ _) h)) ⟨w,pz.1⟩) (ZA.row (la _ (.tail _ (.tail _ (.tail _ (.tail _ (.tail _ (.head _)))))) _) (RR.y17 (enc:=e53) (fun _=>rfl) _) ⟨w,pz.1⟩)) ?_
      rintro zfC zfD zfE zfF _
      refine WL.pu rfl (WL.pu rfl (WL.pu rfl (WL.pu rfl (WL.pu rfl (WL.pu rfl (WL.pu rfl (WL.nil (WX.a (WC.b (WC.a ?_))))))))))
      refine WL.a (d:=33) rfl rfl rfl (y1B (v:=(.agg #[(.int .i64 0),(.int .i64 1),(.int .i64 96)])) (Eos.parts (l:=[.const (.int .i64 0),.const (.int .i64 1),.const (.int .i64 96)]) (.cons rfl (.cons rfl (.cons rfl .nil))) [0,1,2]) (fun _=>by kernel_rfl)) ?_
      refine WL.a (d:=34) rfl rfl rfl (y1B (v:=(.agg #[(.int .i64 1),(.int .i64 1),(.int .i64 136)])) (Eos.parts (l:=[.const (.int .i64 1),.const (.int .i64 1),.const (.int .i64 136)]) (.cons rfl (.cons rfl (.cons rfl .nil))) [0,1,2]) (fun _=>by kernel_rfl)) ?_
      refine WL.new (dd:=35) rfl rfl rfl (y15 (cs:=([(⟨0,1,96⟩ : Sapi_Come),(⟨1,1,136⟩ : Sapi_Come)] : List Sapi_Come).flatMap e50) y16 (Eos.parts (l:=[.tmp 33,.tmp 34]) (.cons rfl (.cons rfl .nil)) [0,1]) (fun _=>by kernel_rfl) rfl (by unfold maxLen; omega)) ?_
      intro ztA _
      refine WL.new (dd:=36) rfl rfl rfl (y15 (cs:=([] : List Sapi_Come).flatMap e50) y16 (Eos.parts (l:=[]) .nil []) (fun _=>by kernel_rfl) rfl (by unfold maxLen; omega)) ?_
      intro ztB _
      refine WL.pu rfl (WL.pu rfl (WL.nil (WX.a ?_)))
      obtain ⟨zfq,ztC,h⟩:=y3m h
      refine WC.y7k (fun (z57 : List Sapi_Come) (z58 : List Sapi_Come) (zbv : Option Addr) (zbw : Nat) (zbx : Option Addr) (zby : Nat)=>(zfq z57 z58 = some r)) (fun (z57 : List Sapi_Come) (z58 : List Sapi_Come) (zbv : Option Addr) (zbw : Nat) (zbx : Option Addr) (zby : Nat)=>[(1,(.slice (some ⟨zbr,0,none⟩) (([(⟨0,0,40⟩ : zSt),(⟨10,0,40⟩ : zSt)] : List zSt).length) 2)),(3,(.int .i64 (nth ([1000,50,30] : List Int) z1Z))),(4,(.pointer (some ⟨zfB,0,none⟩))),(6,(.slice zfC z2y.1.length zfD)),(7,(.slice zfE z2y.2.1.length zfF)),(8,(.int .i64 z2y.2.2)),(9,(.slice zbv z57.length zbw)),(10,(.slice zbx z58.length zby)),(14,(.slice (some ⟨zbt,0,none⟩) (([1000,50,30] : List Int).length) 3)),(15,(.int .i64 ((([1000,50,30] : List Int).length : Nat) : Int))),(16,(.int .i64 z1Z))]) (fun (z57 : List Sapi_Come) (z58 : List Sapi_Come) (zbv : Option Addr) (zbw : Nat) (zbx : Option Addr) (zby : Nat)=>[fz (z59 ++ zfs),row (.slice (some ⟨zbr,0,none⟩) (([(⟨0,0,40⟩ : zSt),(⟨10,0,40⟩ : zSt)] : List zSt).length) 2) 53 3 (([(⟨0,0,40⟩ : zSt),(⟨10,0,40⟩ : zSt)] : List zSt).flatMap e53),row (.slice zfC z2y.1.length zfD) 50 3 (z2y.1.flatMap e50),row (.slice zfE z2y.2.1.length zfF) 50 3 (z2y.2.1.flatMap e50),row (.slice zbv z57.length zbw) 50 3 (z57.flatMap e50),row (.slice zbx z58.length zby) 50 3 (z58.flatMap e50),row (.slice (some ⟨zbt,0,none⟩) (([1000,50,30] : List Int).length) 3) 3 1 (([1000,50,30] : List Int).flatMap e3),stb zfB 31 [(.slice zft z1g.1.fModules.length zfu),(.slice znu z1g.1.fChannels.length znv),(.slice zfv z1g.1.fSwitches.length zfw),(.slice zfx z1g.1.fLinks.length zfy),(.slice zfz z1g.1.fVLs.length zfA),(.slice znx z1g.1.fHealth.length zny),(.slice znz z1g.1.fCauses.length znA),(.slice znB z1g.1.fVersions.length znC)],row (.slice zft z1g.1.fModules.length zfu) 104 4 znt,row (.slice zfv z1g.1.fSwitches.length zfw) 64 4 (z1g.1.fSwitches.flatMap e64),row (.slice zfx z1g.1.fLinks.length zfy) 62 4 (z1g.1.fLinks.flatMap e62),row (.slice zfz z1g.1.fVLs.length zfA) 109 7 znw]) ?_ ?_
      · skip
        refine WC.b (WC.a (WL.pu rfl (WL.pu rfl (WL.nil (WX.a ?_)))))
        refine WC.cond rfl (fun zjj=>?_) (fun zjj=>?_)
        · replace h:=ym h zjj
          obtain ⟨ztD,h⟩:=yj h
          refine WC.a (WL.pu rfl ?_)
          refine WL.y6u (dd:=40) (enc:=e50) (ls:=([(⟨0,1,96⟩ : Sapi_Come),(⟨1,1,136⟩ : Sapi_Come)] : List Sapi_Come)) rfl rfl y16 rfl rfl .h1 (fun _=>rfl) ztD ?_
          intro ztE ztF
          refine WL.a (d:=41) rfl rfl rfl (y1B (v:=(.agg #[(.int .i64 1),(.int .i64 2),(.int .i64 80)])) (Eos.parts (l:=[.const (.int .i64 1),.const (.int .i64 2),.const (.int .i64 80)]) (.cons rfl (.cons rfl (.cons rfl .nil))) [0,1,2]) (fun _=>by kernel_rfl)) ?_
          refine WL.new (dd:=42) rfl rfl rfl (y15 (cs:=([(⟨1,2,80⟩ : Sapi_Come)] : List Sapi_Come).flatMap e50) y16 (Eos.parts (l:=[.tmp 41]) (.cons rfl .nil) [0]) (fun _=>by kernel_rfl) rfl (by unfold maxLen; omega)) ?_
          intro ztG _
          refine WL.pu rfl (WL.pu rfl (WL.nil ?_))
          exact WX.mid (G:=List Sapi_Come × List Sapi_Come × Option Addr × Nat × Option Addr × Nat) ⟨(([(⟨0,1,96⟩ : Sapi_Come),(⟨1,1,136⟩ : Sapi_Come)] : List Sapi_Come).take (1 : Int).toNat),([(⟨1,2,80⟩ : Sapi_Come)] : List Sapi_Come),ztE,ztF,(some ⟨ztG,0,none⟩),1⟩ h (.cons rfl (.cons rfl (.cons rfl (.cons rfl (.cons rfl (.cons rfl (.cons rfl (.cons rfl (.cons rfl (.cons rfl (.cons rfl .nil))))))))))) (.cons .h6 (.cons (.there (.there (.there (.there .h7)))) (.cons .h3 (.cons .h3 (.cons .h1 (.cons .here (.cons .h7 (.cons .h1 (.cons .h1 (.cons .h1 (.cons .h1 (.cons .h1 .nil))))))))))))
        · replace h:=yn h zjj
          refine WC.skip ?_
          exact WX.mid (G:=List Sapi_Come × List Sapi_Come × Option Addr × Nat × Option Addr × Nat) ⟨([(⟨0,1,96⟩ : Sapi_Come),(⟨1,1,136⟩ : Sapi_Come)] : List Sapi_Come),([] : List Sapi_Come),(some ⟨ztA,0,none⟩),2,(some ⟨ztB,0,none⟩),0⟩ h (.cons rfl (.cons rfl (.cons rfl (.cons rfl (.cons rfl (.cons rfl (.cons rfl (.cons rfl (.cons rfl (.cons rfl (.cons rfl .nil))))))))))) (.cons .h5 (.cons (.there (.there (.there .h7))) (.cons .h2 (.cons .h2 (.cons .h1 (.cons .here (.cons .h6 (.cons .here (.cons .here (.cons .here (.cons .here (.cons .here .nil))))))))))))
      · rintro z57 z58 zbv zbw zbx zby h
        replace h:=(ztC z57 z58).symm.trans h
        obtain ⟨zfp,ztH,h⟩:=y3m h
        refine WC.y7k (fun (z6o : List Sapi_Come) (z6p : List Sapi_Come) (zdM : Option Addr) (zdN : Nat) (zdO : Option Addr) (zdP : Nat)=>(zfp z6o z6p = some r)) (fun (z6o : List Sapi_Come) (z6p : List Sapi_Come) (zdM : Option Addr) (zdN : Nat) (zdO : Option Addr) (zdP : Nat)=>[(1,(.slice (some ⟨zbr,0,none⟩) (([(⟨0,0,40⟩ : zSt),(⟨10,0,40⟩ : zSt)] : List zSt).length) 2)),(4,(.pointer (some ⟨zfB,0,none⟩))),(6,(.slice zfC z2y.1.length zfD)),(7,(.slice zfE z2y.2.1.length zfF)),(8,(.int .i64 z2y.2.2)),(9,(.slice zdM z6o.length zdN)),(10,(.slice zdO z6p.length zdP)),(14,(.slice (some ⟨zbt,0,none⟩) (([1000,50,30] : List Int).length) 3)),(15,(.int .i64 ((([1000,50,30] : List Int).length : Nat) : Int))),(16,(.int .i64 z1Z))]) (fun (z6o : List Sapi_Come) (z6p : List Sapi_Come) (zdM : Option Addr) (zdN : Nat) (zdO : Option Addr) (zdP : Nat)=>[fz (z59 ++ zfs),row (.slice (some ⟨zbr,0,none⟩) (([(⟨0,0,40⟩ : zSt),(⟨10,0,40⟩ : zSt)] : List zSt).length) 2) 53 3 (([(⟨0,0,40⟩ : zSt),(⟨10,0,40⟩ : zSt)] : List zSt).flatMap e53),row (.slice zfC z2y.1.length zfD) 50 3 (z2y.1.flatMap e50),row (.slice zfE z2y.2.1.length zfF) 50 3 (z2y.2.1.flatMap e50),row (.slice zdM z6o.length zdN) 50 3 (z6o.flatMap e50),row (.slice zdO z6p.length zdP) 50 3 (z6p.flatMap e50),row (.slice (some ⟨zbt,0,none⟩) (([1000,50,30] : List Int).length) 3) 3 1 (([1000,50,30] : List Int).flatMap e3),stb zfB 31 [(.slice zft z1g.1.fModules.length zfu),(.slice znu z1g.1.fChannels.length znv),(.slice zfv z1g.1.fSwitches.length zfw),(.slice zfx z1g.1.fLinks.length zfy),(.slice zfz z1g.1.fVLs.length zfA),(.slice znx z1g.1.fHealth.length zny),(.slice znz z1g.1.fCauses.length znA),(.slice znB z1g.1.fVersions.length znC)],row (.slice zft z1g.1.fModules.length zfu) 104 4 znt,row (.slice zfv z1g.1.fSwitches.length zfw) 64 4 (z1g.1.fSwitches.flatMap e64),row (.slice zfx z1g.1.fLinks.length zfy) 62 4 (z1g.1.fLinks.flatMap e62),row (.slice zfz z1g.1.fVLs.length zfA) 109 7 znw]) ?_ ?_
        · skip
          refine WC.b (WC.a (WL.pu rfl (WL.pu rfl (WL.nil (WX.a ?_)))))
          refine WC.cond rfl (fun zjk=>?_) (fun zjk=>?_)
          · replace h:=ym h zjk
            refine WC.a ?_
            refine WL.a (d:=45) rfl rfl rfl (y1B (v:=(.agg #[(.int .i64 0),(.int .i64 2),(.int .i64 40)])) (Eos.parts (l:=[.const (.int .i64 0),.const (.int .i64 2),.const (.int .i64 40)]) (.cons rfl (.cons rfl (.cons rfl .nil))) [0,1,2]) (fun _=>by kernel_rfl)) ?_
            refine WL.a (d:=46) rfl rfl rfl (y1B (v:=(.agg #[(.int .i64 1),(.int .i64 2),(.int .i64 80)])) (Eos.parts (l:=[.const (.int .i64 1),.const (.int .i64 2),.const (.int .i64 80)]) (.cons rfl (.cons rfl (.cons rfl .nil))) [0,1,2]) (fun _=>by kernel_rfl)) ?_
            refine WL.new (dd:=47) rfl rfl rfl (y15 (cs:=([(⟨0,2,40⟩ : Sapi_Come),(⟨1,2,80⟩ : Sapi_Come)] : List Sapi_Come).flatMap e50) y16 (Eos.parts (l:=[.tmp 45,.tmp 46]) (.cons rfl (.cons rfl .nil)) [0,1]) (fun _=>by kernel_rfl) rfl (by unfold maxLen; omega)) ?_
            intro ztI _
            refine WL.pu rfl (WL.pu rfl (WL.nil ?_))
            refine WX.nilRow 50 3 ?_
            exact WX.mid (G:=List Sapi_Come × List Sapi_Come × Option Addr × Nat × Option Addr × Nat) ⟨([] : List Sapi_Come),([(⟨0,2,40⟩ : Sapi_Come),(⟨1,2,80⟩ : Sapi_Come)] : List Sapi_Come),none,0,(some ⟨ztI,0,none⟩),2⟩ h (.cons rfl (.cons rfl (.cons rfl (.cons rfl (.cons rfl (.cons rfl (.cons rfl (.cons rfl (.cons rfl (.cons rfl .nil)))))))))) (.cons .h2 (.cons .h2 (.cons .h2 (.cons .h2 (.cons .here (.cons .here (.cons .h2 (.cons .h2 (.cons .h2 (.cons .h2 (.cons .h2 (.cons .h2 .nil))))))))))))
          · replace h:=yn h zjk
            refine WC.skip ?_
            exact WX.mid (G:=List Sapi_Come × List Sapi_Come × Option Addr × Nat × Option Addr × Nat) ⟨z57,z58,zbv,zbw,zbx,zby⟩ h (.cons rfl (.cons rfl (.cons rfl (.cons rfl (.cons rfl (.cons rfl (.cons rfl (.cons rfl (.cons rfl (.cons rfl .nil)))))))))) (.cons .here (.cons .here (.cons .here (.cons .here (.cons .here (.cons .here (.cons .here (.cons .here (.cons .here (.cons .here (.cons .here (.cons .here .nil))))))))))))
        · rintro z6o z6p zdM zdN zdO zdP h
          replace h:=(ztH z6o z6p).symm.trans h
          refine WC.b ?_
          obtain ⟨zj8,znD,h⟩:=zf h
          obtain ⟨zj9,znE,h⟩:=zf h
          obtain ⟨zja,znF,h⟩:=zf h
          obtain ⟨zjb,znG,h⟩:=zf h
          refine WC.a (WL.pu rfl (WL.pu rfl (WL.pu rfl ?_)))
          refine WL.seg false 4 50 (B:=zj8) rfl rfl rfl rfl rfl rfl (fun h=>(Option.some.inj (ym znD h)).symm) (fun _ ztJ=>?_) ?_
          · skip
            have zdQ:=yn znD ztJ
            obtain ⟨zno,ztK,zdQ⟩:=zf zdQ
            replace zdQ:=Option.some.inj zdQ
            refine WL.pu rfl (WL.pu rfl ?_)
            refine WL.b (dd:=53) rfl rfl rfl (zy (l:=[.tmp 51,.tmp 52]) Try.call14 (.cons rfl (.cons rfl .nil))) .nil (cclz hz .nil .here (.cons .h2 (.cons .h3 .nil)) fun w pz ho la=>y4q _ _ _ _ _ _ _ _ ztK w pz (ZA.row (la _ (.head _) _) (RR.y17 (enc:=e50) (fun _=>rfl) _) ⟨w,pz.1⟩) (ZA.row (la _ (.tail _ (.head _)) _) (RR.y17 (enc:=e50) (fun _=>rfl) _) ⟨w,pz.1⟩)) ?_
            refine WL.pu rfl (WL.pu rfl ?_)
            exact WL.ys zdQ rfl rfl .all
          refine WL.pu rfl ?_
          refine WL.seg false 4 56 (B:=zj9) rfl rfl rfl rfl rfl rfl (fun h=>(Option.some.inj (ym znE h)).symm) (fun _ ztL=>?_) ?_
          · skip
            have zdR:=yn znE ztL
            obtain ⟨znp,ztM,zdR⟩:=zf zdR
            replace zdR:=Option.some.inj zdR
            refine WL.pu rfl (WL.pu rfl ?_)
            refine WL.b (dd:=59) rfl rfl rfl (zy (l:=[.tmp 57,.tmp 58]) Try.call14 (.cons rfl (.cons rfl .nil))) .nil (cclz hz .nil .here (.cons .h3 (.cons .h4 .nil)) fun w pz ho la=>y4q _ _ _ _ _ _ _ _ ztM w pz (ZA.row (la _ (.head _) _) (RR.y17 (enc:=e50) (fun _=>rfl) _) ⟨w,pz.1⟩) (ZA.row (la _ (.tail _ (.head _)) _) (RR.y17 (enc:=e50) (fun _=>rfl) _) ⟨w,pz.1⟩)) ?_
            refine WL.pu rfl (WL.pu rfl ?_)
            exact WL.ys zdR rfl rfl .all
          refine WL.pu rfl ?_
          refine WL.seg false 3 62 (B:=zja) rfl rfl rfl rfl rfl rfl (fun h=>(Option.some.inj (ym znF h)).symm) (fun _ ztN=>?_) ?_
          · skip
            have zdS:=yn znF ztN
            obtain ⟨znq,ztO,zdS⟩:=zf zdS
            replace zdS:=Option.some.inj zdS
            refine WL.a (d:=63) rfl rfl rfl (yF y1C rfl (y1i .h7) rfl) ?_
            refine WL.b (dd:=64) rfl rfl rfl (zy (l:=[.tmp 63]) Try.call17 (.cons rfl .nil)) .nil (cclz hz .nil .here (.cons (.there .h7) (.cons (.there .h7) (.cons (.there .h7) (.cons (.there .h7) .nil)))) fun w pz ho la=>y4m _ _ _ _ _ _ _ _ _ _ _ _ _ _ _ _ _ _ _ ztO w pz (ZA.row (la _ (.head _) _) ((zjd.weak (fun _ _ h=>y1E (Zle.y11 _ _ _) h)).weak (fun _ _ h=>y1E (Zle.left _ _) h)) ⟨w,pz.1⟩) ((((zje.mono (Zle.y11 _ _ _)).weak (fun _ _ h=>y1L (Zle.y11 _ _ _) h)).mono (Zle.left _ _)).weak (fun _ _ h=>y1L (Zle.left _ _) h)) (ZA.row (la _ (.tail _ (.head _)) _) (RR.y17 (enc:=e64) (fun _=>rfl) _) ⟨w,pz.1⟩) (ZA.row (la _ (.tail _ (.tail _ (.head _))) _) (RR.y17 (enc:=e62) (fun _=>rfl) _) ⟨w,pz.1⟩) (ZA.row (la _ (.tail _ (.tail _ (.tail _ (.head _)))) _) ((zjf.weak (fun _ _ h=>y1F (Zle.y11 _ _ _) h)).weak (fun _ _ h=>y1F (Zle.left _ _) h)) ⟨w,pz.1⟩) ((zjg.mono (Zle.y11 _ _ _)).mono (Zle.left _ _)) ((((zjh.mono (Zle.y11 _ _ _)).weak (fun _ _ h=>y1M (Zle.y11 _ _ _) h)).mono (Zle.left _ _)).weak (fun _ _ h=>y1M (Zle.left _ _) h)) ((zji.mono (Zle.y11 _ _ _)).mono (Zle.left _ _))) ?_
            refine WL.pu rfl (WL.pu rfl ?_)
            exact WL.ys zdS rfl rfl .all
          refine WL.pu rfl ?_
          refine WL.seg false 3 67 (B:=zjb) rfl rfl rfl rfl rfl rfl (fun h=>(Option.some.inj (ym znG h)).symm) (fun _ ztP=>?_) ?_
          · skip
            have zdT:=yn znG ztP
            obtain ⟨znr,ztQ,zdT⟩:=zf zdT
            replace zdT:=Option.some.inj zdT
            refine WL.a (d:=68) rfl rfl rfl (yF y1C rfl (y1i .h7) rfl) ?_
            refine WL.b (dd:=69) rfl rfl rfl (zy (l:=[.tmp 68,.const (.int .i64 2)]) Try.call18 (.cons rfl (.cons rfl .nil))) .nil (cclz hz .nil .here (.cons (.there .h7) (.cons (.there .h7) (.cons (.there .h7) (.cons (.there .h7) .nil)))) fun w pz ho la=>y5J _ _ _ _ _ _ _ _ _ _ _ _ _ _ _ _ _ _ _ _ ztQ w pz (ZA.row (la _ (.head _) _) ((zjd.weak (fun _ _ h=>y1E (Zle.y11 _ _ _) h)).weak (fun _ _ h=>y1E (Zle.left _ _) h)) ⟨w,pz.1⟩) ((((zje.mono (Zle.y11 _ _ _)).weak (fun _ _ h=>y1L (Zle.y11 _ _ _) h)).mono (Zle.left _ _)).weak (fun _ _ h=>y1L (Zle.left _ _) h)) (ZA.row (la _ (.tail _ (.head _)) _) (RR.y17 (enc:=e64) (fun _=>rfl) _) ⟨w,pz.1⟩) (ZA.row (la _ (.tail _ (.tail _ (.head _))) _) (RR.y17 (enc:=e62) (fun _=>rfl) _) ⟨w,pz.1⟩) (ZA.row (la _ (.tail _ (.tail _ (.tail _ (.head _)))) _) ((zjf.weak (fun _ _ h=>y1F (Zle.y11 _ _ _) h)).weak (fun _ _ h=>y1F (Zle.left _ _) h)) ⟨w,pz.1⟩) ((zjg.mono (Zle.y11 _ _ _)).mono (Zle.left _ _)) ((((zjh.mono (Zle.y11 _ _ _)).weak (fun _ _ h=>y1M (Zle.y11 _ _ _) h)).mono (Zle.left _ _)).weak (fun _ _ h=>y1M (Zle.left _ _) h)) ((zji.mono (Zle.y11 _ _ _)).mono (Zle.left _ _))) ?_
            refine WL.a (d:=70) rfl rfl rfl (q_sneq rfl rfl) ?_
            refine WL.pu rfl ?_
            exact WL.ys zdT rfl rfl .all
          refine WL.nil (WX.a ?_)
          refine WC.cond rfl (fun zjl=>?_) (fun zjl=>?_)
          · replace h:=ym h zjl
            refine WC.b (WC.a (WL.pu rfl (WL.nil (WX.a (WC.ret (WX.yK (WX.yi (WX.yi (WX.yK (WX.yi ?_))))))))))
            obtain rfl:=Option.some.inj h
            refine WX.yh Try.results11 (.tmp rfl .nil) (fun w hw=>?_)
            exact ⟨(z59 ++ zfs),y10 rfl,trivial,hw.sub (.cons .here .nil)⟩
          · replace h:=yn h zjl
            refine WC.skip (WX.yg (WX.a (WC.a (WL.pu rfl (WL.pu rfl (WL.nil ?_))))))
            exact WX.round (G:=Nat × Int × Zp) ⟨zj7,(i64 (z1Z + 1)),(z59 ++ zfs)⟩ ⟨h,(zns.trans ((Zle.left _ _).trans (Zle.y11 _ _ _)))⟩ (Nat.lt_succ_self _) (.cons rfl (.cons rfl (.cons rfl (.cons rfl .nil)))) (.cons .here (.cons .here (.cons .h4 .nil)))
    · replace h:=yn h zjc
      refine WC.exit (WX.yd (WX.yd (WX.yA ?_)))
      exact WX.mid (G:=Zp) z59 ⟨h,zns⟩ .nil (.cons .here .nil)
  · rintro zbs ⟨h,zxF⟩
    replace h:=ztw.symm.trans h
    refine WC.b (WC.a (WL.pu rfl (WL.nil (WX.a (WC.ret ?_)))))
    obtain rfl:=Option.some.inj h
    refine WX.yh Try.results11 (.tmp rfl .nil) (fun w hw=>?_)
    exact ⟨zbs,y10 rfl,trivial,hw.sub (.cons .here .nil)⟩
end Go.Proofs.Ytinchjigeakocaa

/- A part of this claim's proof: models of functions, walks, plain laws. No conditions. -/
import Derived.Test.YtinchjigeakocaaW31wc
namespace Go.Proofs.Ytinchjigeakocaa
open Go Go.RowKit Sep
set_option linter.all false
set_option maxRecDepth 30000
set_option maxHeartbeats 4000000
def yW (z6 : List Sapi_Come) (zn : Int) (zT : Sapi_Come → Sapi_Come → Option Int) (z6W : Int → Option (List Sapi_Come)) : Nat → Int → Int → Option (List Sapi_Come)
 | 0,_,_=>none
 | zeq + 1,z1q,z1A=>if decide (z1q < z1A) then chk ((0 : Int) ≤ (i64 ((u64 (i64 (z1q + z1A))) / 2 ^ min (1 : Int).toNat 64)) ∧ (i64 ((u64 (i64 (z1q + z1A))) / 2 ^ min (1 : Int).toNat 64)) < ((z6.length : Nat) : Int)) (chk ((0 : Int) ≤ zn ∧ zn < ((z6.length : Nat) : Int)) ((zT (⟨((nth z6 (i64 ((u64 (i64 (z1q + z1A))) / 2 ^ min (1 : Int).toNat 64))).fSent),((nth z6 (i64 ((u64 (i64 (z1q + z1A))) / 2 ^ min (1 : Int).toNat 64))).fNode),((nth z6 (i64 ((u64 (i64 (z1q + z1A))) / 2 ^ min (1 : Int).toNat 64))).fTime)⟩ : Sapi_Come) (⟨((nth z6 zn).fSent),((nth z6 zn).fNode),((nth z6 zn).fTime)⟩ : Sapi_Come)).bind fun zjS=>if decide (zjS < 0) then yW z6 zn zT z6W zeq (i64 ((i64 ((u64 (i64 (z1q + z1A))) / 2 ^ min (1 : Int).toNat 64)) + 1)) z1A else yW z6 zn zT z6W zeq z1q (i64 ((u64 (i64 (z1q + z1A))) / 2 ^ min (1 : Int).toNat 64)))) else z6W z1q
theorem y3n {n : Nat} {z6 : List Sapi_Come} {zn : Int} {zT : Sapi_Come → Sapi_Come → Option Int} {z6W : Int → Option (List Sapi_Come)} {z1q : Int} {z1A : Int} {r : List Sapi_Come} (h : yW z6 zn zT z6W n z1q z1A = some r) : ∃ m,n = m + 1:=by
 cases n with
 | zero=>cases h
 | succ m=>exact ⟨m,rfl⟩
def y1a (z3L : Int) (z7Y : (List Sapi_Come) → Option (List Sapi_Come)) : Nat → (List Sapi_Come) → Int → Option (List Sapi_Come)
 | 0,_,_=>none
 | zjT + 1,zr,zl=>if decide (zl < (i64 (z3L - 1))) then chk ((0 : Int) ≤ (i64 (zl + 1)) ∧ (i64 (zl + 1)) < ((zr.length : Nat) : Int)) (chk ((0 : Int) ≤ zl ∧ zl < ((zr.length : Nat) : Int)) (chk ((0 : Int) ≤ (i64 (zl + 1)) ∧ (i64 (zl + 1)) < (((zr.set (zl : Int).toNat (⟨((nth zr (i64 (zl + 1))).fSent),((nth zr (i64 (zl + 1))).fNode),((nth zr (i64 (zl + 1))).fTime)⟩ : Sapi_Come)).length : Nat) : Int)) (y1a z3L z7Y zjT ((zr.set (zl : Int).toNat (⟨((nth zr (i64 (zl + 1))).fSent),((nth zr (i64 (zl + 1))).fNode),((nth zr (i64 (zl + 1))).fTime)⟩ : Sapi_Come)).set ((i64 (zl + 1)) : Int).toNat (⟨((nth zr zl).fSent),((nth zr zl).fNode),((nth zr zl).fTime)⟩ : Sapi_Come)) (i64 (zl + 1))))) else z7Y zr
theorem y3o {n : Nat} {z3L : Int} {z7Y : (List Sapi_Come) → Option (List Sapi_Come)} {zr : List Sapi_Come} {zl : Int} {r : List Sapi_Come} (h : y1a z3L z7Y n zr zl = some r) : ∃ m,n = m + 1:=by
 cases n with
 | zero=>cases h
 | succ m=>exact ⟨m,rfl⟩
def yX (zw : Int) (z6 : List Sapi_Come) (zT : Sapi_Come → Sapi_Come → Option Int) (z6X : Int → Option (List Sapi_Come)) : Nat → Int → Int → Option (List Sapi_Come)
 | 0,_,_=>none
 | zer + 1,z1r,z1B=>if decide (z1r < z1B) then chk ((0 : Int) ≤ zw ∧ zw < ((z6.length : Nat) : Int)) (chk ((0 : Int) ≤ (i64 ((u64 (i64 (z1r + z1B))) / 2 ^ min (1 : Int).toNat 64)) ∧ (i64 ((u64 (i64 (z1r + z1B))) / 2 ^ min (1 : Int).toNat 64)) < ((z6.length : Nat) : Int)) ((zT (⟨((nth z6 zw).fSent),((nth z6 zw).fNode),((nth z6 zw).fTime)⟩ : Sapi_Come) (⟨((nth z6 (i64 ((u64 (i64 (z1r + z1B))) / 2 ^ min (1 : Int).toNat 64))).fSent),((nth z6 (i64 ((u64 (i64 (z1r + z1B))) / 2 ^ min (1 : Int).toNat 64))).fNode),((nth z6 (i64 ((u64 (i64 (z1r + z1B))) / 2 ^ min (1 : Int).toNat 64))).fTime)⟩ : Sapi_Come)).bind fun zjU=>if !(decide (zjU < 0)) then yX zw z6 zT z6X zer (i64 ((i64 ((u64 (i64 (z1r + z1B))) / 2 ^ min (1 : Int).toNat 64)) + 1)) z1B else yX zw z6 zT z6X zer z1r (i64 ((u64 (i64 (z1r + z1B))) / 2 ^ min (1 : Int).toNat 64)))) else z6X z1r
theorem y3p {n : Nat} {zw : Int} {z6 : List Sapi_Come} {zT : Sapi_Come → Sapi_Come → Option Int} {z6X : Int → Option (List Sapi_Come)} {z1r : Int} {z1B : Int} {r : List Sapi_Come} (h : yX zw z6 zT z6X n z1r z1B = some r) : ∃ m,n = m + 1:=by
 cases n with
 | zero=>cases h
 | succ m=>exact ⟨m,rfl⟩
def y1b (z3M : Int) (z7Z : (List Sapi_Come) → Option (List Sapi_Come)) : Nat → (List Sapi_Come) → Int → Option (List Sapi_Come)
 | 0,_,_=>none
 | zjV + 1,zs,zm=>if decide (zm > z3M) then chk ((0 : Int) ≤ (i64 (zm - 1)) ∧ (i64 (zm - 1)) < ((zs.length : Nat) : Int)) (chk ((0 : Int) ≤ zm ∧ zm < ((zs.length : Nat) : Int)) (chk ((0 : Int) ≤ (i64 (zm - 1)) ∧ (i64 (zm - 1)) < (((zs.set (zm : Int).toNat (⟨((nth zs (i64 (zm - 1))).fSent),((nth zs (i64 (zm - 1))).fNode),((nth zs (i64 (zm - 1))).fTime)⟩ : Sapi_Come)).length : Nat) : Int)) (y1b z3M z7Z zjV ((zs.set (zm : Int).toNat (⟨((nth zs (i64 (zm - 1))).fSent),((nth zs (i64 (zm - 1))).fNode),((nth zs (i64 (zm - 1))).fTime)⟩ : Sapi_Come)).set ((i64 (zm - 1)) : Int).toNat (⟨((nth zs zm).fSent),((nth zs zm).fNode),((nth zs zm).fTime)⟩ : Sapi_Come)) (i64 (zm - 1))))) else z7Z zs
theorem y3q {n : Nat} {z3M : Int} {z7Z : (List Sapi_Come) → Option (List Sapi_Come)} {zs : List Sapi_Come} {zm : Int} {r : List Sapi_Come} (h : y1b z3M z7Z n zs zm = some r) : ∃ m,n = m + 1:=by
 cases n with
 | zero=>cases h
 | succ m=>exact ⟨m,rfl⟩
def yS (zn : Int) (zz : Int) (zw : Int) (z6 : List Sapi_Come) (zT : Sapi_Come → Sapi_Come → Option Int) (z6Y : Int → Option (List Sapi_Come)) : Nat → Int → Int → Option (List Sapi_Come)
 | 0,_,_=>none
 | zes + 1,z10,z15=>if decide (z10 < z15) then chk ((0 : Int) ≤ (i64 ((i64 ((i64 ((i64 ((u64 (i64 (zn + zz))) / 2 ^ min (1 : Int).toNat 64)) + zw)) - 1)) - (i64 ((u64 (i64 (z10 + z15))) / 2 ^ min (1 : Int).toNat 64)))) ∧ (i64 ((i64 ((i64 ((i64 ((u64 (i64 (zn + zz))) / 2 ^ min (1 : Int).toNat 64)) + zw)) - 1)) - (i64 ((u64 (i64 (z10 + z15))) / 2 ^ min (1 : Int).toNat 64)))) < ((z6.length : Nat) : Int)) (chk ((0 : Int) ≤ (i64 ((u64 (i64 (z10 + z15))) / 2 ^ min (1 : Int).toNat 64)) ∧ (i64 ((u64 (i64 (z10 + z15))) / 2 ^ min (1 : Int).toNat 64)) < ((z6.length : Nat) : Int)) ((zT (⟨((nth z6 (i64 ((i64 ((i64 ((i64 ((u64 (i64 (zn + zz))) / 2 ^ min (1 : Int).toNat 64)) + zw)) - 1)) - (i64 ((u64 (i64 (z10 + z15))) / 2 ^ min (1 : Int).toNat 64))))).fSent),((nth z6 (i64 ((i64 ((i64 ((i64 ((u64 (i64 (zn + zz))) / 2 ^ min (1 : Int).toNat 64)) + zw)) - 1)) - (i64 ((u64 (i64 (z10 + z15))) / 2 ^ min (1 : Int).toNat 64))))).fNode),((nth z6 (i64 ((i64 ((i64 ((i64 ((u64 (i64 (zn + zz))) / 2 ^ min (1 : Int).toNat 64)) + zw)) - 1)) - (i64 ((u64 (i64 (z10 + z15))) / 2 ^ min (1 : Int).toNat 64))))).fTime)⟩ : Sapi_Come) (⟨((nth z6 (i64 ((u64 (i64 (z10 + z15))) / 2 ^ min (1 : Int).toNat 64))).fSent),((nth z6 (i64 ((u64 (i64 (z10 + z15))) / 2 ^ min (1 : Int).toNat 64))).fNode),((nth z6 (i64 ((u64 (i64 (z10 + z15))) / 2 ^ min (1 : Int).toNat 64))).fTime)⟩ : Sapi_Come)).bind fun zjW=>if !(decide (zjW < 0)) then yS zn zz zw z6 zT z6Y zes (i64 ((i64 ((u64 (i64 (z10 + z15))) / 2 ^ min (1 : Int).toNat 64)) + 1)) z15 else yS zn zz zw z6 zT z6Y zes z10 (i64 ((u64 (i64 (z10 + z15))) / 2 ^ min (1 : Int).toNat 64)))) else z6Y z10
theorem y3k {n : Nat} {zn : Int} {zz : Int} {zw : Int} {z6 : List Sapi_Come} {zT : Sapi_Come → Sapi_Come → Option Int} {z6Y : Int → Option (List Sapi_Come)} {z10 : Int} {z15 : Int} {r : List Sapi_Come} (h : yS zn zz zw z6 zT z6Y n z10 z15 = some r) : ∃ m,n = m + 1:=by
 cases n with
 | zero=>cases h
 | succ m=>exact ⟨m,rfl⟩
def y17 : Nat → (List Sapi_Come) → Int → Int → Int → (Sapi_Come → Sapi_Come → Option Int) → Option (List Sapi_Come)
 | 0,_,_,_,_,_=>none
 | zjX + 1,z6,zn,zw,zz,zT=>jp0 (jp0 (jp2 (fun (z80 : Int) (z81 : Int)=>jp1 (fun (z1s : Int)=>jp1 (fun (z41 : List Sapi_Come)=>jp1 (fun (z4f : List Sapi_Come)=>if (decide ((i64 ((u64 (i64 (zn + zz))) / 2 ^ min (1 : Int).toNat 64)) < (i64 ((i64 ((i64 ((u64 (i64 (zn + zz))) / 2 ^ min (1 : Int).toNat 64)) + zw)) - z1s)))) && (decide ((i64 ((i64 ((i64 ((u64 (i64 (zn + zz))) / 2 ^ min (1 : Int).toNat 64)) + zw)) - z1s)) < zz)) then ((y17 zjX) z4f (i64 ((u64 (i64 (zn + zz))) / 2 ^ min (1 : Int).toNat 64)) (i64 ((i64 ((i64 ((u64 (i64 (zn + zz))) / 2 ^ min (1 : Int).toNat 64)) + zw)) - z1s)) zz zT).bind fun zgj=>some zgj else some z4f) fun zgk=>if (decide (zn < z1s)) && (decide (z1s < (i64 ((u64 (i64 (zn + zz))) / 2 ^ min (1 : Int).toNat 64)))) then ((y17 zjX) z41 zn z1s (i64 ((u64 (i64 (zn + zz))) / 2 ^ min (1 : Int).toNat 64)) zT).bind fun zet=>zgk zet else zgk z41) fun zgl=>if (decide (z1s < zw)) && (decide (zw < (i64 ((i64 ((i64 ((u64 (i64 (zn + zz))) / 2 ^ min (1 : Int).toNat 64)) + zw)) - z1s)))) then (y29 z6 z1s zw (i64 ((i64 ((i64 ((u64 (i64 (zn + zz))) / 2 ^ min (1 : Int).toNat 64)) + zw)) - z1s)) zT).bind fun zgm=>zgl zgm else zgl z6) fun z6Y=>yS zn zz zw z6 zT z6Y yP z80 z81) fun zgn=>if decide (zw > (i64 ((u64 (i64 (zn + zz))) / 2 ^ min (1 : Int).toNat 64))) then zgn (i64 ((i64 ((i64 ((u64 (i64 (zn + zz))) / 2 ^ min (1 : Int).toNat 64)) + zw)) - zz)) (i64 ((u64 (i64 (zn + zz))) / 2 ^ min (1 : Int).toNat 64)) else zgn zn zw) fun zjY=>if decide ((i64 (zz - zw)) = 1) then jp1 (fun (z3M : Int)=>jp1 (fun (z6Z : List Sapi_Come)=>some z6Z) fun z7Z=>y1b z3M z7Z yP z6 zw) fun z6X=>yX zw z6 zT z6X yP zn zw else zjY) fun zjZ=>if decide ((i64 (zw - zn)) = 1) then jp1 (fun (z3L : Int)=>jp1 (fun (z70 : List Sapi_Come)=>some z70) fun z7Y=>y1a z3L z7Y yP z6 zn) fun z6W=>yW z6 zn zT z6W yP zw zz else zjZ
def y24 (z6 : List Sapi_Come) (zn : Int) (zw : Int) (zz : Int) (zT : Sapi_Come → Sapi_Come → Option Int) : Option (List Sapi_Come):=y17 yP z6 zn zw zz zT
set_option maxRecDepth 20000 in
theorem y3K : ∀ (n : Nat) (Z : Zp) (zN : Option Addr) (zF : Nat) (z1b : FuncId) (z1n : List Value) (z6 : List Sapi_Come) (zn : Int) (zw : Int) (zz : Int) (zT : Sapi_Come → Sapi_Come → Option Int) (r : List Sapi_Come) (w₀ : World) (hz : PZ (fps [row (.slice zN z6.length zF) 50 3 (z6.flatMap e50)]) w₀ Z)
  (z71 : ∀ args w,(callFunc z1b args).run Try.prog w = .ok (.enter z1b args) w)
  (z72 : ∀ w : World,PZ [] w Z → ∀ (x0 : Sapi_Come) (x1 : Sapi_Come) (r : Int),zT x0 x1 = some r → Calls Try.prog z1b (([(.agg #[(.int .i64 x0.fSent),(.int .i64 x0.fNode),(.int .i64 x0.fTime)]),(.agg #[(.int .i64 x1.fSent),(.int .i64 x1.fNode),(.int .i64 x1.fTime)])] : List Value) ++ z1n).toArray w fun e w'=>e = .returned (.int .i64 r) ∧ Hp [] w w' []) (h : y17 n z6 zn zw zz zT = some r)
  (hown : Hp (fps [row (.slice zN z6.length zF) 50 3 (z6.flatMap e50)]) w₀ w₀ [row (.slice zN z6.length zF) 50 3 (z6.flatMap e50)]),Calls Try.prog 67 #[(.slice zN z6.length zF),(.int .i64 zn),(.int .i64 zw),(.int .i64 zz),(.func (.func z1b) #[] (z1n).toArray)] w₀ fun e w'=>e = .returned (.tuple #[]) ∧ (r.length = z6.length) ∧ Hp (fps [row (.slice zN z6.length zF) 50 3 (z6.flatMap e50)]) w₀ w' [row (.slice zN r.length zF) 50 3 (r.flatMap e50)]:=by
 intro n
 induction n with
 | zero=>intro Z zN zF z1b z1n z6 zn zw zz zT r w₀ hz z71 z72 h hown; cases h
 | succ zjX ih =>
  intro Z zN zF z1b z1n z6 zn zw zz zT r w₀ hz z71 z72 h hown
  rw [y17] at h
  refine Calls.yo (vs:=[(.slice zN z6.length zF),(.int .i64 zn),(.int .i64 zw),(.int .i64 zz),(.func (.func z1b) #[] (z1n).toArray)]) (pre:=[row (.slice zN z6.length zF) 50 3 (z6.flatMap e50)]) (env:=[(0,(.slice zN z6.length zF)),(1,(.int .i64 zn)),(2,(.int .i64 zw)),(3,(.int .i64 zz)),(4,(.func (.func z1b) #[] (z1n).toArray))]) Try.func67 rfl Try.ntmps67 rfl (hown) rfl ?_
  obtain ⟨zjZ,zvN,h⟩:=y2r h
  refine WC.y2b ((zjZ = some r)) ([(0,(.slice zN z6.length zF)),(1,(.int .i64 zn)),(2,(.int .i64 zw)),(3,(.int .i64 zz)),(4,(.func (.func z1b) #[] (z1n).toArray))]) ([row (.slice zN z6.length zF) 50 3 (z6.flatMap e50)]) ?_ ?_
  ·skip
   refine WC.b (WC.a (WL.pu rfl (WL.pu rfl (WL.pu rfl (WL.pu rfl (WL.nil (WX.a ?_)))))))
   refine WC.cond rfl (fun zk0=>?_) (fun zk0=>?_)
   ·replace h:=yg h zk0
    refine WC.b (WC.a (WL.pu rfl (WL.pu rfl (WL.nil (WX.a (WC.b (WC.a (WL.pu rfl (WL.pu rfl (WL.nil (WX.a ?_)))))))))))
    obtain ⟨z6W,zvO,h⟩:=yO h
    refine WC.y1Q (fun (z3L : Int)=>(z6W z3L = some r)) (fun (z3L : Int)=>[(0,(.slice zN z6.length zF)),(1,(.int .i64 zn)),(10,(.int .i64 z3L))]) (fun (z3L : Int)=>[row (.slice zN z6.length zF) 50 3 (z6.flatMap e50)]) ?_ ?_
    ·skip
     refine WC.block ?_
     refine WC.y2c (fun (zbG : Nat) (z1q : Int) (z1A : Int)=>(yW z6 zn zT z6W zbG z1q z1A = some r)) (fun (zbG : Nat) (z1q : Int) (z1A : Int)=>[(0,(.slice zN z6.length zF)),(1,(.int .i64 zn)),(4,(.func (.func z1b) #[] (z1n).toArray)),(10,(.int .i64 z1q)),(11,(.int .i64 z1A))]) (fun (zbG : Nat) (z1q : Int) (z1A : Int)=>[row (.slice zN z6.length zF) 50 3 (z6.flatMap e50)]) (fun (zbG : Nat) (z1q : Int) (z1A : Int)=>zbG) ⟨yP,zw,zz⟩ h (.cons rfl (.cons rfl (.cons rfl (.cons rfl (.cons rfl .nil))))) (.cons .here .nil) ?_
     rintro zbG z1q z1A h
     obtain ⟨zeq,rfl⟩:=y3n h
     rw [yW] at h
     refine WC.b (WC.b (WC.a (WL.pu rfl (WL.pu rfl (WL.pu rfl (WL.nil (WX.a ?_)))))))
     refine WC.cond rfl (fun zk1=>?_) (fun zk1=>?_)
     ·replace h:=yg h zk1
      refine WC.skip (WX.a (WC.block (WC.b (WC.a (WL.pu rfl (WL.pu rfl (WL.pu rfl ?_)))))))
      refine WL.a (d:=37) rfl rfl rfl (y4e Try.underlying3 Try.underlying157 rfl rfl) ?_
      refine WL.a (d:=38) rfl rfl rfl (q_shr rfl rfl (by decide) rfl) ?_
      refine WL.a (d:=39) rfl rfl rfl (y4e Try.underlying157 Try.underlying3 rfl rfl) ?_
      refine WL.pu rfl (WL.nil (WX.a (WC.b ?_)))
      obtain ⟨zeu,h⟩:=ye h
      obtain ⟨zgo,h⟩:=ye h
      obtain ⟨zjS,zvP,h⟩:=z8 h
      refine WC.yV (fun i=>[].contains i) [] rfl ?_
      refine WD.a (i:=0) (d:=40) (by kernel_rfl) rfl z2 z3 rfl rfl rfl (fun _=>q_m rfl) ?_
      refine WD.a (i:=1) (d:=41) (by kernel_rfl) rfl z2 z3 rfl rfl rfl (fun _=>q_m rfl) ?_
      refine WD.a (i:=2) (d:=42) (by kernel_rfl) rfl z2 z3 rfl rfl rfl (fun _=>q_m rfl) ?_
      refine WD.know (fun w hw=>Hp.y15 .here hw (by intro hz'; have:=zeu; rw [hz'] at this; omega)) ?_
      rintro ⟨zDa,rfl⟩
      refine WD.a (i:=3) (d:=43) (by kernel_rfl) rfl z2 z3 rfl rfl rfl (fun _=>ym y19 rfl rfl zeu.1 zeu.2 yM) ?_
      refine WD.e (i:=4) (d:=44) (by kernel_rfl) rfl z2 z3 rfl rfl rfl (y1y (cs:=(e50 (nth z6 (i64 ((u64 (i64 (z1q + z1A))) / 2 ^ min (1 : Int).toNat 64))))) y1Z rfl rfl (y1K .here (y1A (enc:=e50) (l:=z6) (i:=i64 ((u64 (i64 (z1q + z1A))) / 2 ^ min (1 : Int).toNat 64)) (sz:=3) (fun _=>rfl) zeu.1 zeu.2))) ?_
      refine WD.a (i:=5) (d:=45) (by kernel_rfl) rfl z2 z3 rfl rfl rfl (fun _=>q_m rfl) ?_
      refine WD.a (i:=6) (d:=46) (by kernel_rfl) rfl z2 z3 rfl rfl rfl (fun _=>q_m rfl) ?_
      refine WD.a (i:=7) (d:=47) (by kernel_rfl) rfl z2 z3 rfl rfl rfl (fun _=>ym y19 rfl rfl zgo.1 zgo.2 yM) ?_
      refine WD.e (i:=8) (d:=48) (by kernel_rfl) rfl z2 z3 rfl rfl rfl (y1y (cs:=(e50 (nth z6 zn))) y1Z rfl rfl (y1K .here (y1A (enc:=e50) (l:=z6) (i:=zn) (sz:=3) (fun _=>rfl) zgo.1 zgo.2))) ?_
      refine WD.c (i:=9) (d:=49) (by kernel_rfl) rfl z2 z3 rfl rfl rfl (y3s (l:=[.tmp 44,.tmp 48]) (f:=z1b) (caps:=z1n) z71 rfl (.cons rfl (.cons rfl .nil))) (fun w hw=>z72 w (hz.now hw) (⟨((nth z6 (i64 ((u64 (i64 (z1q + z1A))) / 2 ^ min (1 : Int).toNat 64))).fSent),((nth z6 (i64 ((u64 (i64 (z1q + z1A))) / 2 ^ min (1 : Int).toNat 64))).fNode),((nth z6 (i64 ((u64 (i64 (z1q + z1A))) / 2 ^ min (1 : Int).toNat 64))).fTime)⟩ : Sapi_Come) (⟨((nth z6 zn).fSent),((nth z6 zn).fNode),((nth z6 zn).fTime)⟩ : Sapi_Come) zjS  zvP) ?_
      refine WD.a (i:=10) (d:=50) (by kernel_rfl) rfl z2 z3 rfl rfl rfl (fun _=>y39 rfl rfl) ?_
      refine WD.done (by kernel_rfl) ?_
      refine WX.a ?_
      refine WC.cond rfl (fun zk2=>?_) (fun zk2=>?_)
      ·replace h:=yg h zk2
       refine WC.a (WL.pu rfl (WL.pu rfl (WL.pu rfl (WL.nil (WX.yf ?_)))))
       exact WX.round (G:=Nat × Int × Int) ⟨zeq,(i64 ((i64 ((u64 (i64 (z1q + z1A))) / 2 ^ min (1 : Int).toNat 64)) + 1)),z1A⟩ h (Nat.lt_succ_self _) (.cons rfl (.cons rfl (.cons rfl (.cons rfl (.cons rfl .nil))))) (.cons .here .nil)
      ·replace h:=yh h zk2
       refine WC.a (WL.pu rfl (WL.pu rfl (WL.nil (WX.yf ?_))))
       exact WX.round (G:=Nat × Int × Int) ⟨zeq,z1q,(i64 ((u64 (i64 (z1q + z1A))) / 2 ^ min (1 : Int).toNat 64))⟩ h (Nat.lt_succ_self _) (.cons rfl (.cons rfl (.cons rfl (.cons rfl (.cons rfl .nil))))) (.cons .here .nil)
     ·replace h:=yh h zk1
      refine WC.exit (WX.yk (WX.yk (WX.yC ?_)))
      exact WX.mid (G:=Int) z1q h (.cons rfl (.cons rfl (.cons rfl .nil))) (.cons .here .nil)
    ·rintro z3L h
     replace h:=(zvO z3L).symm.trans h
     obtain ⟨z7Y,zvQ,h⟩:=yO h
     refine WC.y1Q (fun (z70 : List Sapi_Come)=>(z7Y z70 = some r) ∧ (z70.length = z6.length)) (fun (z70 : List Sapi_Come)=>[]) (fun (z70 : List Sapi_Come)=>[row (.slice zN z70.length zF) 50 3 (z70.flatMap e50)]) ?_ ?_
     ·skip
      refine WC.b (WC.a (WL.pu rfl (WL.pu rfl (WL.nil (WX.a (WC.block ?_))))))
      refine WC.y2c (fun (zbH : Nat) (zr : List Sapi_Come) (zl : Int)=>(y1a z3L z7Y zbH zr zl = some r) ∧ (zr.length = z6.length)) (fun (zbH : Nat) (zr : List Sapi_Come) (zl : Int)=>[(0,(.slice zN zr.length zF)),(10,(.int .i64 z3L)),(13,(.int .i64 zl))]) (fun (zbH : Nat) (zr : List Sapi_Come) (zl : Int)=>[row (.slice zN zr.length zF) 50 3 (zr.flatMap e50)]) (fun (zbH : Nat) (zr : List Sapi_Come) (zl : Int)=>zbH) ⟨yP,z6,zn⟩ ⟨h,rfl⟩ (.cons rfl (.cons rfl (.cons rfl .nil))) (.cons .here .nil) ?_
      rintro zbH zr zl ⟨h,zp4⟩
      obtain ⟨zjT,rfl⟩:=y3o h
      rw [y1a] at h
      refine WC.b (WC.b (WC.a (WL.pu rfl (WL.pu rfl (WL.pu rfl (WL.pu rfl (WL.nil (WX.a ?_))))))))
      refine WC.cond rfl (fun zk3=>?_) (fun zk3=>?_)
      ·replace h:=yg h zk3
       refine WC.skip (WX.a (WC.b (WC.block ?_)))
       obtain ⟨zev,h⟩:=ye h
       obtain ⟨z73,h⟩:=ye h
       obtain ⟨zbI,h⟩:=ye h
       refine WC.yV (fun i=>[15,17].contains i) [] rfl ?_
       refine WD.a (i:=0) (d:=61) (by kernel_rfl) rfl z2 z3 rfl rfl rfl (fun _=>q_m rfl) ?_
       refine WD.a (i:=1) (d:=62) (by kernel_rfl) rfl z2 z3 rfl rfl rfl (fun _=>q_m rfl) ?_
       refine WD.a (i:=2) (d:=63) (by kernel_rfl) rfl z2 z3 rfl rfl rfl (fun _=>q_m rfl) ?_
       refine WD.a (i:=3) (d:=64) (by kernel_rfl) rfl z2 z3 rfl rfl rfl (fun _=>q_m rfl) ?_
       refine WD.a (i:=4) (d:=65) (by kernel_rfl) rfl z2 z3 rfl rfl rfl (fun _=>y4x rfl rfl rfl) ?_
       refine WD.a (i:=5) (d:=66) (by kernel_rfl) rfl z2 z3 rfl rfl rfl (fun _=>q_m rfl) ?_
       refine WD.a (i:=6) (d:=67) (by kernel_rfl) rfl z2 z3 rfl rfl rfl (fun _=>q_m rfl) ?_
       refine WD.a (i:=7) (d:=68) (by kernel_rfl) rfl z2 z3 rfl rfl rfl (fun _=>y4x rfl rfl rfl) ?_
       refine WD.know (fun w hw=>Hp.y15 .here hw (by intro hz'; have:=zev; rw [hz'] at this; omega)) ?_
       rintro ⟨zew,rfl⟩
       refine WD.a (i:=8) (d:=69) (by kernel_rfl) rfl z2 z3 rfl rfl rfl (fun _=>ym y19 rfl rfl zev.1 zev.2 yM) ?_
       refine WD.e (i:=9) (d:=70) (by kernel_rfl) rfl z2 z3 rfl rfl rfl (y1y (cs:=(e50 (nth zr (i64 (zl + 1))))) y1Z rfl rfl (y1K .here (y1A (enc:=e50) (l:=zr) (i:=i64 (zl + 1)) (sz:=3) (fun _=>rfl) zev.1 zev.2))) ?_
       refine WD.a (i:=10) (d:=71) (by kernel_rfl) rfl z2 z3 rfl rfl rfl (fun _=>q_m rfl) ?_
       refine WD.a (i:=11) (d:=72) (by kernel_rfl) rfl z2 z3 rfl rfl rfl (fun _=>q_m rfl) ?_
       refine WD.a (i:=12) (d:=73) (by kernel_rfl) rfl z2 z3 rfl rfl rfl (fun _=>ym y19 rfl rfl z73.1 z73.2 yM) ?_
       refine WD.e (i:=13) (d:=74) (by kernel_rfl) rfl z2 z3 rfl rfl rfl (y1y (cs:=(e50 (nth zr zl))) y1Z rfl rfl (y1K .here (y1A (enc:=e50) (l:=zr) (i:=zl) (sz:=3) (fun _=>rfl) z73.1 z73.2))) ?_
       refine WD.a (i:=14) (d:=75) (by kernel_rfl) rfl z2 z3 rfl rfl rfl (fun _=>ym y19 rfl rfl z73.1 z73.2 yM) ?_
       refine WD.forced0 (i:=15) rfl (by kernel_rfl) rfl rfl rfl (Sin.of .nil) (y12 (vs:=[(.int .i64 ((nth zr (i64 (zl + 1))).fSent)),(.int .i64 ((nth zr (i64 (zl + 1))).fNode)),(.int .i64 ((nth zr (i64 (zl + 1))).fTime))]) (ds:=(zr.set (zl : Int).toNat (⟨((nth zr (i64 (zl + 1))).fSent),((nth zr (i64 (zl + 1))).fNode),((nth zr (i64 (zl + 1))).fTime)⟩ : Sapi_Come)).flatMap e50) y48 rfl rfl rfl rfl (ocB rfl) .here (y2e (enc:=e50) (sz:=3) (k:=0) (fun _=>rfl) z73.1 z73.2 (by decide)) (y2d (enc:=e50) (l:=zr) (sz:=3) (vs:=[(.int .i64 ((nth zr (i64 (zl + 1))).fSent)),(.int .i64 ((nth zr (i64 (zl + 1))).fNode)),(.int .i64 ((nth zr (i64 (zl + 1))).fTime))]) (y:=(⟨((nth zr (i64 (zl + 1))).fSent),((nth zr (i64 (zl + 1))).fNode),((nth zr (i64 (zl + 1))).fTime)⟩ : Sapi_Come)) (k:=0) (fun _=>rfl) z73.1 z73.2 rfl (Nat.le_of_ble_eq_true rfl))) ?_
       refine WD.relen .here (u:=(.slice (some ⟨zew,0,none⟩) ((zr.set (zl : Int).toNat (⟨((nth zr (i64 (zl + 1))).fSent),((nth zr (i64 (zl + 1))).fNode),((nth zr (i64 (zl + 1))).fTime)⟩ : Sapi_Come)).length) zF)) (yR (List.length_set).symm) ?_
       refine WD.repin (i:=0) rfl (u:=(.slice (some ⟨zew,0,none⟩) ((zr.set (zl : Int).toNat (⟨((nth zr (i64 (zl + 1))).fSent),((nth zr (i64 (zl + 1))).fNode),((nth zr (i64 (zl + 1))).fTime)⟩ : Sapi_Come)).length) zF)) (yR (List.length_set).symm) ?_
       refine WD.repin (i:=63) rfl (u:=(.slice (some ⟨zew,0,none⟩) ((zr.set (zl : Int).toNat (⟨((nth zr (i64 (zl + 1))).fSent),((nth zr (i64 (zl + 1))).fNode),((nth zr (i64 (zl + 1))).fTime)⟩ : Sapi_Come)).length) zF)) (yR (List.length_set).symm) ?_
       refine WD.a (i:=16) (d:=76) (by kernel_rfl) rfl z2 z3 rfl rfl rfl (fun _=>ym y19 rfl rfl zbI.1 zbI.2 yM) ?_
       refine WD.y2J (i:=17) rfl (by kernel_rfl) rfl rfl rfl (by kernel_rfl) (y12 (vs:=[(.int .i64 ((nth zr zl).fSent)),(.int .i64 ((nth zr zl).fNode)),(.int .i64 ((nth zr zl).fTime))]) (ds:=((zr.set (zl : Int).toNat (⟨((nth zr (i64 (zl + 1))).fSent),((nth zr (i64 (zl + 1))).fNode),((nth zr (i64 (zl + 1))).fTime)⟩ : Sapi_Come)).set ((i64 (zl + 1)) : Int).toNat (⟨((nth zr zl).fSent),((nth zr zl).fNode),((nth zr zl).fTime)⟩ : Sapi_Come)).flatMap e50) y48 rfl rfl rfl rfl (ocB rfl) .here (y2e (enc:=e50) (sz:=3) (k:=0) (fun _=>rfl) zbI.1 zbI.2 (by decide)) (y2d (enc:=e50) (l:=zr.set (zl : Int).toNat (⟨((nth zr (i64 (zl + 1))).fSent),((nth zr (i64 (zl + 1))).fNode),((nth zr (i64 (zl + 1))).fTime)⟩ : Sapi_Come)) (sz:=3) (vs:=[(.int .i64 ((nth zr zl).fSent)),(.int .i64 ((nth zr zl).fNode)),(.int .i64 ((nth zr zl).fTime))]) (y:=(⟨((nth zr zl).fSent),((nth zr zl).fNode),((nth zr zl).fTime)⟩ : Sapi_Come)) (k:=0) (fun _=>rfl) zbI.1 zbI.2 rfl (Nat.le_of_ble_eq_true rfl))) ?_
       refine WD.relen .here (u:=(.slice (some ⟨zew,0,none⟩) (((zr.set (zl : Int).toNat (⟨((nth zr (i64 (zl + 1))).fSent),((nth zr (i64 (zl + 1))).fNode),((nth zr (i64 (zl + 1))).fTime)⟩ : Sapi_Come)).set ((i64 (zl + 1)) : Int).toNat (⟨((nth zr zl).fSent),((nth zr zl).fNode),((nth zr zl).fTime)⟩ : Sapi_Come)).length) zF)) (yR (List.length_set).symm) ?_
       refine WD.repin (i:=0) rfl (u:=(.slice (some ⟨zew,0,none⟩) (((zr.set (zl : Int).toNat (⟨((nth zr (i64 (zl + 1))).fSent),((nth zr (i64 (zl + 1))).fNode),((nth zr (i64 (zl + 1))).fTime)⟩ : Sapi_Come)).set ((i64 (zl + 1)) : Int).toNat (⟨((nth zr zl).fSent),((nth zr zl).fNode),((nth zr zl).fTime)⟩ : Sapi_Come)).length) zF)) (yR (List.length_set).symm) ?_
       refine WD.done (by kernel_rfl) ?_
       refine WX.yf (WX.a (WC.a (WL.pu rfl (WL.pu rfl (WL.pu rfl (WL.nil ?_))))))
       exact WX.round (G:=Nat × List Sapi_Come × Int) ⟨zjT,((zr.set (zl : Int).toNat (⟨((nth zr (i64 (zl + 1))).fSent),((nth zr (i64 (zl + 1))).fNode),((nth zr (i64 (zl + 1))).fTime)⟩ : Sapi_Come)).set ((i64 (zl + 1)) : Int).toNat (⟨((nth zr zl).fSent),((nth zr zl).fNode),((nth zr zl).fTime)⟩ : Sapi_Come)),(i64 (zl + 1))⟩ ⟨h,((List.length_set).trans ((List.length_set).trans zp4))⟩ (Nat.lt_succ_self _) (.cons rfl (.cons rfl (.cons rfl .nil))) (.cons .here .nil)
      ·replace h:=yh h zk3
       refine WC.exit (WX.yk (WX.yk (WX.yC ?_)))
       exact WX.mid (G:=List Sapi_Come) zr ⟨h,zp4⟩ .nil (.cons .here .nil)
     ·rintro z70 ⟨h,zvR⟩
      replace h:=(zvQ z70).symm.trans h
      refine WC.ret (WX.yn ?_)
      obtain rfl:=Option.some.inj h
      refine WX.yj Try.results67 .nil (fun w hw=>?_)
      exact ⟨y3Z,zvR,hw.sub (.cons .here .nil)⟩
   ·replace h:=yh h zk0
    refine WC.skip ?_
    exact WX.mid (G:=Unit) () h (.cons rfl (.cons rfl (.cons rfl (.cons rfl (.cons rfl .nil))))) (.cons .here .nil)
  ·rintro  h
   replace h:=zvN.symm.trans h
   obtain ⟨zjY,zvS,h⟩:=y2r h
   refine WC.y2b ((zjY = some r)) ([(0,(.slice zN z6.length zF)),(1,(.int .i64 zn)),(2,(.int .i64 zw)),(3,(.int .i64 zz)),(4,(.func (.func z1b) #[] (z1n).toArray))]) ([row (.slice zN z6.length zF) 50 3 (z6.flatMap e50)]) ?_ ?_
   ·skip
    refine WC.b (WC.a (WL.pu rfl (WL.pu rfl (WL.pu rfl (WL.pu rfl (WL.nil (WX.a ?_)))))))
    refine WC.cond rfl (fun zk4=>?_) (fun zk4=>?_)
    ·replace h:=yg h zk4
     refine WC.b (WC.a (WL.pu rfl (WL.pu rfl (WL.nil (WX.a (WC.b (WC.a (WL.pu rfl (WL.pu rfl (WL.nil (WX.a ?_)))))))))))
     obtain ⟨z6X,zvT,h⟩:=yO h
     refine WC.y1Q (fun (z3M : Int)=>(z6X z3M = some r)) (fun (z3M : Int)=>[(0,(.slice zN z6.length zF)),(2,(.int .i64 zw)),(14,(.int .i64 z3M))]) (fun (z3M : Int)=>[row (.slice zN z6.length zF) 50 3 (z6.flatMap e50)]) ?_ ?_
     ·skip
      refine WC.block ?_
      refine WC.y2c (fun (zbJ : Nat) (z1r : Int) (z1B : Int)=>(yX zw z6 zT z6X zbJ z1r z1B = some r)) (fun (zbJ : Nat) (z1r : Int) (z1B : Int)=>[(0,(.slice zN z6.length zF)),(2,(.int .i64 zw)),(4,(.func (.func z1b) #[] (z1n).toArray)),(14,(.int .i64 z1r)),(15,(.int .i64 z1B))]) (fun (zbJ : Nat) (z1r : Int) (z1B : Int)=>[row (.slice zN z6.length zF) 50 3 (z6.flatMap e50)]) (fun (zbJ : Nat) (z1r : Int) (z1B : Int)=>zbJ) ⟨yP,zn,zw⟩ h (.cons rfl (.cons rfl (.cons rfl (.cons rfl (.cons rfl .nil))))) (.cons .here .nil) ?_
      rintro zbJ z1r z1B h
      obtain ⟨zer,rfl⟩:=y3p h
      rw [yX] at h
      refine WC.b (WC.b (WC.a (WL.pu rfl (WL.pu rfl (WL.pu rfl (WL.nil (WX.a ?_)))))))
      refine WC.cond rfl (fun zk5=>?_) (fun zk5=>?_)
      ·replace h:=yg h zk5
       refine WC.skip (WX.a (WC.block (WC.b (WC.a (WL.pu rfl (WL.pu rfl (WL.pu rfl ?_)))))))
       refine WL.a (d:=89) rfl rfl rfl (y4e Try.underlying3 Try.underlying157 rfl rfl) ?_
       refine WL.a (d:=90) rfl rfl rfl (q_shr rfl rfl (by decide) rfl) ?_
       refine WL.a (d:=91) rfl rfl rfl (y4e Try.underlying157 Try.underlying3 rfl rfl) ?_
       refine WL.pu rfl (WL.nil (WX.a (WC.b ?_)))
       obtain ⟨zex,h⟩:=ye h
       obtain ⟨zgp,h⟩:=ye h
       obtain ⟨zjU,zvU,h⟩:=z8 h
       refine WC.yV (fun i=>[].contains i) [] rfl ?_
       refine WD.a (i:=0) (d:=92) (by kernel_rfl) rfl z2 z3 rfl rfl rfl (fun _=>q_m rfl) ?_
       refine WD.a (i:=1) (d:=93) (by kernel_rfl) rfl z2 z3 rfl rfl rfl (fun _=>q_m rfl) ?_
       refine WD.a (i:=2) (d:=94) (by kernel_rfl) rfl z2 z3 rfl rfl rfl (fun _=>q_m rfl) ?_
       refine WD.know (fun w hw=>Hp.y15 .here hw (by intro hz'; have:=zex; rw [hz'] at this; omega)) ?_
       rintro ⟨zDb,rfl⟩
       refine WD.a (i:=3) (d:=95) (by kernel_rfl) rfl z2 z3 rfl rfl rfl (fun _=>ym y19 rfl rfl zex.1 zex.2 yM) ?_
       refine WD.e (i:=4) (d:=96) (by kernel_rfl) rfl z2 z3 rfl rfl rfl (y1y (cs:=(e50 (nth z6 zw))) y1Z rfl rfl (y1K .here (y1A (enc:=e50) (l:=z6) (i:=zw) (sz:=3) (fun _=>rfl) zex.1 zex.2))) ?_
       refine WD.a (i:=5) (d:=97) (by kernel_rfl) rfl z2 z3 rfl rfl rfl (fun _=>q_m rfl) ?_
       refine WD.a (i:=6) (d:=98) (by kernel_rfl) rfl z2 z3 rfl rfl rfl (fun _=>q_m rfl) ?_
       refine WD.a (i:=7) (d:=99) (by kernel_rfl) rfl z2 z3 rfl rfl rfl (fun _=>ym y19 rfl rfl zgp.1 zgp.2 yM) ?_
       refine WD.e (i:=8) (d:=100) (by kernel_rfl) rfl z2 z3 rfl rfl rfl (y1y (cs:=(e50 (nth z6 (i64 ((u64 (i64 (z1r + z1B))) / 2 ^ min (1 : Int).toNat 64))))) y1Z rfl rfl (y1K .here (y1A (enc:=e50) (l:=z6) (i:=i64 ((u64 (i64 (z1r + z1B))) / 2 ^ min (1 : Int).toNat 64)) (sz:=3) (fun _=>rfl) zgp.1 zgp.2))) ?_
       refine WD.c (i:=9) (d:=101) (by kernel_rfl) rfl z2 z3 rfl rfl rfl (y3s (l:=[.tmp 96,.tmp 100]) (f:=z1b) (caps:=z1n) z71 rfl (.cons rfl (.cons rfl .nil))) (fun w hw=>z72 w (hz.now hw) (⟨((nth z6 zw).fSent),((nth z6 zw).fNode),((nth z6 zw).fTime)⟩ : Sapi_Come) (⟨((nth z6 (i64 ((u64 (i64 (z1r + z1B))) / 2 ^ min (1 : Int).toNat 64))).fSent),((nth z6 (i64 ((u64 (i64 (z1r + z1B))) / 2 ^ min (1 : Int).toNat 64))).fNode),((nth z6 (i64 ((u64 (i64 (z1r + z1B))) / 2 ^ min (1 : Int).toNat 64))).fTime)⟩ : Sapi_Come) zjU  zvU) ?_
       refine WD.a (i:=10) (d:=102) (by kernel_rfl) rfl z2 z3 rfl rfl rfl (fun _=>y39 rfl rfl) ?_
       refine WD.a (i:=11) (d:=103) (by kernel_rfl) rfl z2 z3 rfl rfl rfl (fun _=>q_not rfl) ?_
       refine WD.done (by kernel_rfl) ?_
       refine WX.a ?_
       refine WC.cond rfl (fun zk6=>?_) (fun zk6=>?_)
       ·replace h:=yg h zk6
        refine WC.a (WL.pu rfl (WL.pu rfl (WL.pu rfl (WL.nil (WX.yf ?_)))))
        exact WX.round (G:=Nat × Int × Int) ⟨zer,(i64 ((i64 ((u64 (i64 (z1r + z1B))) / 2 ^ min (1 : Int).toNat 64)) + 1)),z1B⟩ h (Nat.lt_succ_self _) (.cons rfl (.cons rfl (.cons rfl (.cons rfl (.cons rfl .nil))))) (.cons .here .nil)
       ·replace h:=yh h zk6
        refine WC.a (WL.pu rfl (WL.pu rfl (WL.nil (WX.yf ?_))))
        exact WX.round (G:=Nat × Int × Int) ⟨zer,z1r,(i64 ((u64 (i64 (z1r + z1B))) / 2 ^ min (1 : Int).toNat 64))⟩ h (Nat.lt_succ_self _) (.cons rfl (.cons rfl (.cons rfl (.cons rfl (.cons rfl .nil))))) (.cons .here .nil)
      ·replace h:=yh h zk5
       refine WC.exit (WX.yk (WX.yk (WX.yC ?_)))
       exact WX.mid (G:=Int) z1r h (.cons rfl (.cons rfl (.cons rfl .nil))) (.cons .here .nil)
     ·rintro z3M h
      replace h:=(zvT z3M).symm.trans h
      obtain ⟨z7Z,zvV,h⟩:=yO h
      refine WC.y1Q (fun (z6Z : List Sapi_Come)=>(z7Z z6Z = some r) ∧ (z6Z.length = z6.length)) (fun (z6Z : List Sapi_Come)=>[]) (fun (z6Z : List Sapi_Come)=>[row (.slice zN z6Z.length zF) 50 3 (z6Z.flatMap e50)]) ?_ ?_
      ·skip
       refine WC.b (WC.a (WL.pu rfl (WL.pu rfl (WL.nil (WX.a (WC.block ?_))))))
       refine WC.y2c (fun (zbK : Nat) (zs : List Sapi_Come) (zm : Int)=>(y1b z3M z7Z zbK zs zm = some r) ∧ (zs.length = z6.length)) (fun (zbK : Nat) (zs : List Sapi_Come) (zm : Int)=>[(0,(.slice zN zs.length zF)),(14,(.int .i64 z3M)),(17,(.int .i64 zm))]) (fun (zbK : Nat) (zs : List Sapi_Come) (zm : Int)=>[row (.slice zN zs.length zF) 50 3 (zs.flatMap e50)]) (fun (zbK : Nat) (zs : List Sapi_Come) (zm : Int)=>zbK) ⟨yP,z6,zw⟩ ⟨h,rfl⟩ (.cons rfl (.cons rfl (.cons rfl .nil))) (.cons .here .nil) ?_
       rintro zbK zs zm ⟨h,zp5⟩
       obtain ⟨zjV,rfl⟩:=y3q h
       rw [y1b] at h
       refine WC.b (WC.b (WC.a (WL.pu rfl (WL.pu rfl (WL.pu rfl (WL.nil (WX.a ?_)))))))
       refine WC.cond rfl (fun zk7=>?_) (fun zk7=>?_)
       ·replace h:=yg h zk7
        refine WC.skip (WX.a (WC.b (WC.block ?_)))
        obtain ⟨zey,h⟩:=ye h
        obtain ⟨z74,h⟩:=ye h
        obtain ⟨zbL,h⟩:=ye h
        refine WC.yV (fun i=>[15,17].contains i) [] rfl ?_
        refine WD.a (i:=0) (d:=113) (by kernel_rfl) rfl z2 z3 rfl rfl rfl (fun _=>q_m rfl) ?_
        refine WD.a (i:=1) (d:=114) (by kernel_rfl) rfl z2 z3 rfl rfl rfl (fun _=>q_m rfl) ?_
        refine WD.a (i:=2) (d:=115) (by kernel_rfl) rfl z2 z3 rfl rfl rfl (fun _=>q_m rfl) ?_
        refine WD.a (i:=3) (d:=116) (by kernel_rfl) rfl z2 z3 rfl rfl rfl (fun _=>q_m rfl) ?_
        refine WD.a (i:=4) (d:=117) (by kernel_rfl) rfl z2 z3 rfl rfl rfl (fun _=>y4y rfl rfl rfl) ?_
        refine WD.a (i:=5) (d:=118) (by kernel_rfl) rfl z2 z3 rfl rfl rfl (fun _=>q_m rfl) ?_
        refine WD.a (i:=6) (d:=119) (by kernel_rfl) rfl z2 z3 rfl rfl rfl (fun _=>q_m rfl) ?_
        refine WD.a (i:=7) (d:=120) (by kernel_rfl) rfl z2 z3 rfl rfl rfl (fun _=>y4y rfl rfl rfl) ?_
        refine WD.know (fun w hw=>Hp.y15 .here hw (by intro hz'; have:=zey; rw [hz'] at this; omega)) ?_
        rintro ⟨zez,rfl⟩
        refine WD.a (i:=8) (d:=121) (by kernel_rfl) rfl z2 z3 rfl rfl rfl (fun _=>ym y19 rfl rfl zey.1 zey.2 yM) ?_
        refine WD.e (i:=9) (d:=122) (by kernel_rfl) rfl z2 z3 rfl rfl rfl (y1y (cs:=(e50 (nth zs (i64 (zm - 1))))) y1Z rfl rfl (y1K .here (y1A (enc:=e50) (l:=zs) (i:=i64 (zm - 1)) (sz:=3) (fun _=>rfl) zey.1 zey.2))) ?_
        refine WD.a (i:=10) (d:=123) (by kernel_rfl) rfl z2 z3 rfl rfl rfl (fun _=>q_m rfl) ?_
        refine WD.a (i:=11) (d:=124) (by kernel_rfl) rfl z2 z3 rfl rfl rfl (fun _=>q_m rfl) ?_
        refine WD.a (i:=12) (d:=125) (by kernel_rfl) rfl z2 z3 rfl rfl rfl (fun _=>ym y19 rfl rfl z74.1 z74.2 yM) ?_
        refine WD.e (i:=13) (d:=126) (by kernel_rfl) rfl z2 z3 rfl rfl rfl (y1y (cs:=(e50 (nth zs zm))) y1Z rfl rfl (y1K .here (y1A (enc:=e50) (l:=zs) (i:=zm) (sz:=3) (fun _=>rfl) z74.1 z74.2))) ?_
        refine WD.a (i:=14) (d:=127) (by kernel_rfl) rfl z2 z3 rfl rfl rfl (fun _=>ym y19 rfl rfl z74.1 z74.2 yM) ?_
        refine WD.forced0 (i:=15) rfl (by kernel_rfl) rfl rfl rfl (Sin.of .nil) (y12 (vs:=[(.int .i64 ((nth zs (i64 (zm - 1))).fSent)),(.int .i64 ((nth zs (i64 (zm - 1))).fNode)),(.int .i64 ((nth zs (i64 (zm - 1))).fTime))]) (ds:=(zs.set (zm : Int).toNat (⟨((nth zs (i64 (zm - 1))).fSent),((nth zs (i64 (zm - 1))).fNode),((nth zs (i64 (zm - 1))).fTime)⟩ : Sapi_Come)).flatMap e50) y48 rfl rfl rfl rfl (ocB rfl) .here (y2e (enc:=e50) (sz:=3) (k:=0) (fun _=>rfl) z74.1 z74.2 (by decide)) (y2d (enc:=e50) (l:=zs) (sz:=3) (vs:=[(.int .i64 ((nth zs (i64 (zm - 1))).fSent)),(.int .i64 ((nth zs (i64 (zm - 1))).fNode)),(.int .i64 ((nth zs (i64 (zm - 1))).fTime))]) (y:=(⟨((nth zs (i64 (zm - 1))).fSent),((nth zs (i64 (zm - 1))).fNode),((nth zs (i64 (zm - 1))).fTime)⟩ : Sapi_Come)) (k:=0) (fun _=>rfl) z74.1 z74.2 rfl (Nat.le_of_ble_eq_true rfl))) ?_
        refine WD.relen .here (u:=(.slice (some ⟨zez,0,none⟩) ((zs.set (zm : Int).toNat (⟨((nth zs (i64 (zm - 1))).fSent),((nth zs (i64 (zm - 1))).fNode),((nth zs (i64 (zm - 1))).fTime)⟩ : Sapi_Come)).length) zF)) (yR (List.length_set).symm) ?_
        refine WD.repin (i:=0) rfl (u:=(.slice (some ⟨zez,0,none⟩) ((zs.set (zm : Int).toNat (⟨((nth zs (i64 (zm - 1))).fSent),((nth zs (i64 (zm - 1))).fNode),((nth zs (i64 (zm - 1))).fTime)⟩ : Sapi_Come)).length) zF)) (yR (List.length_set).symm) ?_
        refine WD.repin (i:=115) rfl (u:=(.slice (some ⟨zez,0,none⟩) ((zs.set (zm : Int).toNat (⟨((nth zs (i64 (zm - 1))).fSent),((nth zs (i64 (zm - 1))).fNode),((nth zs (i64 (zm - 1))).fTime)⟩ : Sapi_Come)).length) zF)) (yR (List.length_set).symm) ?_
        refine WD.a (i:=16) (d:=128) (by kernel_rfl) rfl z2 z3 rfl rfl rfl (fun _=>ym y19 rfl rfl zbL.1 zbL.2 yM) ?_
        refine WD.y2J (i:=17) rfl (by kernel_rfl) rfl rfl rfl (by kernel_rfl) (y12 (vs:=[(.int .i64 ((nth zs zm).fSent)),(.int .i64 ((nth zs zm).fNode)),(.int .i64 ((nth zs zm).fTime))]) (ds:=((zs.set (zm : Int).toNat (⟨((nth zs (i64 (zm - 1))).fSent),((nth zs (i64 (zm - 1))).fNode),((nth zs (i64 (zm - 1))).fTime)⟩ : Sapi_Come)).set ((i64 (zm - 1)) : Int).toNat (⟨((nth zs zm).fSent),((nth zs zm).fNode),((nth zs zm).fTime)⟩ : Sapi_Come)).flatMap e50) y48 rfl rfl rfl rfl (ocB rfl) .here (y2e (enc:=e50) (sz:=3) (k:=0) (fun _=>rfl) zbL.1 zbL.2 (by decide)) (y2d (enc:=e50) (l:=zs.set (zm : Int).toNat (⟨((nth zs (i64 (zm - 1))).fSent),((nth zs (i64 (zm - 1))).fNode),((nth zs (i64 (zm - 1))).fTime)⟩ : Sapi_Come)) (sz:=3) (vs:=[(.int .i64 ((nth zs zm).fSent)),(.int .i64 ((nth zs zm).fNode)),(.int .i64 ((nth zs zm).fTime))]) (y:=(⟨((nth zs zm).fSent),((nth zs zm).fNode),((nth zs zm).fTime)⟩ : Sapi_Come)) (k:=0) (fun _=>rfl) zbL.1 zbL.2 rfl (Nat.le_of_ble_eq_true rfl))) ?_
        refine WD.relen .here (u:=(.slice (some ⟨zez,0,none⟩) (((zs.set (zm : Int).toNat (⟨((nth zs (i64 (zm - 1))).fSent),((nth zs (i64 (zm - 1))).fNode),((nth zs (i64 (zm - 1))).fTime)⟩ : Sapi_Come)).set ((i64 (zm - 1)) : Int).toNat (⟨((nth zs zm).fSent),((nth zs zm).fNode),((nth zs zm).fTime)⟩ : Sapi_Come)).length) zF)) (yR (List.length_set).symm) ?_
        refine WD.repin (i:=0) rfl (u:=(.slice (some ⟨zez,0,none⟩) (((zs.set (zm : Int).toNat (⟨((nth zs (i64 (zm - 1))).fSent),((nth zs (i64 (zm - 1))).fNode),((nth zs (i64 (zm - 1))).fTime)⟩ : Sapi_Come)).set ((i64 (zm - 1)) : Int).toNat (⟨((nth zs zm).fSent),((nth zs zm).fNode),((nth zs zm).fTime)⟩ : Sapi_Come)).length) zF)) (yR (List.length_set).symm) ?_
        refine WD.done (by kernel_rfl) ?_
        refine WX.yf (WX.a (WC.a (WL.pu rfl (WL.pu rfl (WL.pu rfl (WL.nil ?_))))))
        exact WX.round (G:=Nat × List Sapi_Come × Int) ⟨zjV,((zs.set (zm : Int).toNat (⟨((nth zs (i64 (zm - 1))).fSent),((nth zs (i64 (zm - 1))).fNode),((nth zs (i64 (zm - 1))).fTime)⟩ : Sapi_Come)).set ((i64 (zm - 1)) : Int).toNat (⟨((nth zs zm).fSent),((nth zs zm).fNode),((nth zs zm).fTime)⟩ : Sapi_Come)),(i64 (zm - 1))⟩ ⟨h,((List.length_set).trans ((List.length_set).trans zp5))⟩ (Nat.lt_succ_self _) (.cons rfl (.cons rfl (.cons rfl .nil))) (.cons .here .nil)
       ·replace h:=yh h zk7
        refine WC.exit (WX.yk (WX.yk (WX.yC ?_)))
        exact WX.mid (G:=List Sapi_Come) zs ⟨h,zp5⟩ .nil (.cons .here .nil)
      ·rintro z6Z ⟨h,zvW⟩
       replace h:=(zvV z6Z).symm.trans h
       refine WC.ret (WX.yn ?_)
       obtain rfl:=Option.some.inj h
       refine WX.yj Try.results67 .nil (fun w hw=>?_)
       exact ⟨y3Z,zvW,hw.sub (.cons .here .nil)⟩
    ·replace h:=yh h zk4
     refine WC.skip ?_
     exact WX.mid (G:=Unit) () h (.cons rfl (.cons rfl (.cons rfl (.cons rfl (.cons rfl .nil))))) (.cons .here .nil)
   ·rintro  h
    replace h:=zvS.symm.trans h
    refine WC.b (WC.a (WL.pu rfl (WL.pu rfl (WL.pu rfl ?_))))
    refine WL.a (d:=132) rfl rfl rfl (y4e Try.underlying3 Try.underlying157 rfl rfl) ?_
    refine WL.a (d:=133) rfl rfl rfl (q_shr rfl rfl (by decide) rfl) ?_
    refine WL.a (d:=134) rfl rfl rfl (y4e Try.underlying157 Try.underlying3 rfl rfl) ?_
    refine WL.pu rfl (WL.nil (WX.a (WC.b (WC.a (WL.pu rfl (WL.pu rfl (WL.pu rfl (WL.pu rfl (WL.nil (WX.a (WC.b (WC.a (WL.pu rfl (WL.pu rfl (WL.nil ?_)))))))))))))))
    refine WX.a ?_
    obtain ⟨zgn,zvX,h⟩:=y34 h
    refine WC.y2v (fun (z80 : Int) (z81 : Int)=>(zgn z80 z81 = some r)) (fun (z80 : Int) (z81 : Int)=>[(0,(.slice zN z6.length zF)),(1,(.int .i64 zn)),(2,(.int .i64 zw)),(3,(.int .i64 zz)),(4,(.func (.func z1b) #[] (z1n).toArray)),(18,(.int .i64 (i64 ((u64 (i64 (zn + zz))) / 2 ^ min (1 : Int).toNat 64)))),(19,(.int .i64 (i64 ((i64 ((u64 (i64 (zn + zz))) / 2 ^ min (1 : Int).toNat 64)) + zw)))),(20,(.int .i64 z80)),(21,(.int .i64 z81))]) (fun (z80 : Int) (z81 : Int)=>[row (.slice zN z6.length zF) 50 3 (z6.flatMap e50)]) ?_ ?_
    ·skip
     refine WC.b (WC.a (WL.pu rfl (WL.pu rfl (WL.pu rfl (WL.nil (WX.a ?_))))))
     refine WC.cond rfl (fun zk8=>?_) (fun zk8=>?_)
     ·replace h:=yg h zk8
      refine WC.b (WC.a (WL.pu rfl (WL.pu rfl (WL.pu rfl (WL.pu rfl (WL.nil (WX.a (WC.a (WL.pu rfl (WL.pu rfl (WL.nil ?_)))))))))))
      exact WX.mid (G:=Int × Int) ⟨(i64 ((i64 ((i64 ((u64 (i64 (zn + zz))) / 2 ^ min (1 : Int).toNat 64)) + zw)) - zz)),(i64 ((u64 (i64 (zn + zz))) / 2 ^ min (1 : Int).toNat 64))⟩ h (.cons rfl (.cons rfl (.cons rfl (.cons rfl (.cons rfl (.cons rfl (.cons rfl (.cons rfl (.cons rfl .nil))))))))) (.cons .here .nil)
     ·replace h:=yh h zk8
      refine WC.b (WC.a (WL.pu rfl (WL.pu rfl (WL.nil (WX.a (WC.a (WL.pu rfl (WL.pu rfl (WL.nil ?_)))))))))
      exact WX.mid (G:=Int × Int) ⟨zn,zw⟩ h (.cons rfl (.cons rfl (.cons rfl (.cons rfl (.cons rfl (.cons rfl (.cons rfl (.cons rfl (.cons rfl .nil))))))))) (.cons .here .nil)
    ·rintro z80 z81 h
     replace h:=(zvX z80 z81).symm.trans h
     refine WC.b (WC.a (WL.pu rfl (WL.pu rfl (WL.pu rfl (WL.nil (WX.a ?_))))))
     obtain ⟨z6Y,zvY,h⟩:=yO h
     refine WC.y1Q (fun (z1s : Int)=>(z6Y z1s = some r)) (fun (z1s : Int)=>[(0,(.slice zN z6.length zF)),(1,(.int .i64 zn)),(2,(.int .i64 zw)),(3,(.int .i64 zz)),(4,(.func (.func z1b) #[] (z1n).toArray)),(18,(.int .i64 (i64 ((u64 (i64 (zn + zz))) / 2 ^ min (1 : Int).toNat 64)))),(19,(.int .i64 (i64 ((i64 ((u64 (i64 (zn + zz))) / 2 ^ min (1 : Int).toNat 64)) + zw)))),(20,(.int .i64 z1s))]) (fun (z1s : Int)=>[row (.slice zN z6.length zF) 50 3 (z6.flatMap e50)]) ?_ ?_
     ·skip
      refine WC.block ?_
      refine WC.y2c (fun (zbM : Nat) (z10 : Int) (z15 : Int)=>(yS zn zz zw z6 zT z6Y zbM z10 z15 = some r)) (fun (zbM : Nat) (z10 : Int) (z15 : Int)=>[(0,(.slice zN z6.length zF)),(1,(.int .i64 zn)),(2,(.int .i64 zw)),(3,(.int .i64 zz)),(4,(.func (.func z1b) #[] (z1n).toArray)),(18,(.int .i64 (i64 ((u64 (i64 (zn + zz))) / 2 ^ min (1 : Int).toNat 64)))),(19,(.int .i64 (i64 ((i64 ((u64 (i64 (zn + zz))) / 2 ^ min (1 : Int).toNat 64)) + zw)))),(20,(.int .i64 z10)),(21,(.int .i64 z15)),(22,(.int .i64 (i64 ((i64 ((i64 ((u64 (i64 (zn + zz))) / 2 ^ min (1 : Int).toNat 64)) + zw)) - 1))))]) (fun (zbM : Nat) (z10 : Int) (z15 : Int)=>[row (.slice zN z6.length zF) 50 3 (z6.flatMap e50)]) (fun (zbM : Nat) (z10 : Int) (z15 : Int)=>zbM) ⟨yP,z80,z81⟩ h (.cons rfl (.cons rfl (.cons rfl (.cons rfl (.cons rfl (.cons rfl (.cons rfl (.cons rfl (.cons rfl (.cons rfl .nil)))))))))) (.cons .here .nil) ?_
      rintro zbM z10 z15 h
      obtain ⟨zes,rfl⟩:=y3k h
      rw [yS] at h
      refine WC.b (WC.b (WC.a (WL.pu rfl (WL.pu rfl (WL.pu rfl (WL.nil (WX.a ?_)))))))
      refine WC.cond rfl (fun zk9=>?_) (fun zk9=>?_)
      ·replace h:=yg h zk9
       refine WC.skip (WX.a (WC.block (WC.b (WC.a (WL.pu rfl (WL.pu rfl (WL.pu rfl ?_)))))))
       refine WL.a (d:=155) rfl rfl rfl (y4e Try.underlying3 Try.underlying157 rfl rfl) ?_
       refine WL.a (d:=156) rfl rfl rfl (q_shr rfl rfl (by decide) rfl) ?_
       refine WL.a (d:=157) rfl rfl rfl (y4e Try.underlying157 Try.underlying3 rfl rfl) ?_
       refine WL.pu rfl (WL.nil (WX.a (WC.b ?_)))
       obtain ⟨zeA,h⟩:=ye h
       obtain ⟨zgq,h⟩:=ye h
       obtain ⟨zjW,zvZ,h⟩:=z8 h
       refine WC.yV (fun i=>[].contains i) [] rfl ?_
       refine WD.a (i:=0) (d:=158) (by kernel_rfl) rfl z2 z3 rfl rfl rfl (fun _=>q_m rfl) ?_
       refine WD.a (i:=1) (d:=159) (by kernel_rfl) rfl z2 z3 rfl rfl rfl (fun _=>q_m rfl) ?_
       refine WD.a (i:=2) (d:=160) (by kernel_rfl) rfl z2 z3 rfl rfl rfl (fun _=>q_m rfl) ?_
       refine WD.a (i:=3) (d:=161) (by kernel_rfl) rfl z2 z3 rfl rfl rfl (fun _=>q_m rfl) ?_
       refine WD.a (i:=4) (d:=162) (by kernel_rfl) rfl z2 z3 rfl rfl rfl (fun _=>y4y rfl rfl rfl) ?_
       refine WD.know (fun w hw=>Hp.y15 .here hw (by intro hz'; have:=zeA; rw [hz'] at this; omega)) ?_
       rintro ⟨zDc,rfl⟩
       refine WD.a (i:=5) (d:=163) (by kernel_rfl) rfl z2 z3 rfl rfl rfl (fun _=>ym y19 rfl rfl zeA.1 zeA.2 yM) ?_
       refine WD.e (i:=6) (d:=164) (by kernel_rfl) rfl z2 z3 rfl rfl rfl (y1y (cs:=(e50 (nth z6 (i64 ((i64 ((i64 ((i64 ((u64 (i64 (zn + zz))) / 2 ^ min (1 : Int).toNat 64)) + zw)) - 1)) - (i64 ((u64 (i64 (z10 + z15))) / 2 ^ min (1 : Int).toNat 64))))))) y1Z rfl rfl (y1K .here (y1A (enc:=e50) (l:=z6) (i:=i64 ((i64 ((i64 ((i64 ((u64 (i64 (zn + zz))) / 2 ^ min (1 : Int).toNat 64)) + zw)) - 1)) - (i64 ((u64 (i64 (z10 + z15))) / 2 ^ min (1 : Int).toNat 64)))) (sz:=3) (fun _=>rfl) zeA.1 zeA.2))) ?_
       refine WD.a (i:=7) (d:=165) (by kernel_rfl) rfl z2 z3 rfl rfl rfl (fun _=>q_m rfl) ?_
       refine WD.a (i:=8) (d:=166) (by kernel_rfl) rfl z2 z3 rfl rfl rfl (fun _=>q_m rfl) ?_
       refine WD.a (i:=9) (d:=167) (by kernel_rfl) rfl z2 z3 rfl rfl rfl (fun _=>ym y19 rfl rfl zgq.1 zgq.2 yM) ?_
       refine WD.e (i:=10) (d:=168) (by kernel_rfl) rfl z2 z3 rfl rfl rfl (y1y (cs:=(e50 (nth z6 (i64 ((u64 (i64 (z10 + z15))) / 2 ^ min (1 : Int).toNat 64))))) y1Z rfl rfl (y1K .here (y1A (enc:=e50) (l:=z6) (i:=i64 ((u64 (i64 (z10 + z15))) / 2 ^ min (1 : Int).toNat 64)) (sz:=3) (fun _=>rfl) zgq.1 zgq.2))) ?_
       refine WD.c (i:=11) (d:=169) (by kernel_rfl) rfl z2 z3 rfl rfl rfl (y3s (l:=[.tmp 164,.tmp 168]) (f:=z1b) (caps:=z1n) z71 rfl (.cons rfl (.cons rfl .nil))) (fun w hw=>z72 w (hz.now hw) (⟨((nth z6 (i64 ((i64 ((i64 ((i64 ((u64 (i64 (zn + zz))) / 2 ^ min (1 : Int).toNat 64)) + zw)) - 1)) - (i64 ((u64 (i64 (z10 + z15))) / 2 ^ min (1 : Int).toNat 64))))).fSent),((nth z6 (i64 ((i64 ((i64 ((i64 ((u64 (i64 (zn + zz))) / 2 ^ min (1 : Int).toNat 64)) + zw)) - 1)) - (i64 ((u64 (i64 (z10 + z15))) / 2 ^ min (1 : Int).toNat 64))))).fNode),((nth z6 (i64 ((i64 ((i64 ((i64 ((u64 (i64 (zn + zz))) / 2 ^ min (1 : Int).toNat 64)) + zw)) - 1)) - (i64 ((u64 (i64 (z10 + z15))) / 2 ^ min (1 : Int).toNat 64))))).fTime)⟩ : Sapi_Come) (⟨((nth z6 (i64 ((u64 (i64 (z10 + z15))) / 2 ^ min (1 : Int).toNat 64))).fSent),((nth z6 (i64 ((u64 (i64 (z10 + z15))) / 2 ^ min (1 : Int).toNat 64))).fNode),((nth z6 (i64 ((u64 (i64 (z10 + z15))) / 2 ^ min (1 : Int).toNat 64))).fTime)⟩ : Sapi_Come) zjW  zvZ) ?_
       refine WD.a (i:=12) (d:=170) (by kernel_rfl) rfl z2 z3 rfl rfl rfl (fun _=>y39 rfl rfl) ?_
       refine WD.a (i:=13) (d:=171) (by kernel_rfl) rfl z2 z3 rfl rfl rfl (fun _=>q_not rfl) ?_
       refine WD.done (by kernel_rfl) ?_
       refine WX.a ?_
       refine WC.cond rfl (fun zka=>?_) (fun zka=>?_)
       ·replace h:=yg h zka
        refine WC.a (WL.pu rfl (WL.pu rfl (WL.pu rfl (WL.nil (WX.yf ?_)))))
        exact WX.round (G:=Nat × Int × Int) ⟨zes,(i64 ((i64 ((u64 (i64 (z10 + z15))) / 2 ^ min (1 : Int).toNat 64)) + 1)),z15⟩ h (Nat.lt_succ_self _) (.cons rfl (.cons rfl (.cons rfl (.cons rfl (.cons rfl (.cons rfl (.cons rfl (.cons rfl (.cons rfl (.cons rfl .nil)))))))))) (.cons .here .nil)
       ·replace h:=yh h zka
        refine WC.a (WL.pu rfl (WL.pu rfl (WL.nil (WX.yf ?_))))
        exact WX.round (G:=Nat × Int × Int) ⟨zes,z10,(i64 ((u64 (i64 (z10 + z15))) / 2 ^ min (1 : Int).toNat 64))⟩ h (Nat.lt_succ_self _) (.cons rfl (.cons rfl (.cons rfl (.cons rfl (.cons rfl (.cons rfl (.cons rfl (.cons rfl (.cons rfl (.cons rfl .nil)))))))))) (.cons .here .nil)
      ·replace h:=yh h zk9
       refine WC.exit (WX.yk (WX.yk (WX.yC ?_)))
       exact WX.mid (G:=Int) z10 h (.cons rfl (.cons rfl (.cons rfl (.cons rfl (.cons rfl (.cons rfl (.cons rfl (.cons rfl .nil)))))))) (.cons .here .nil)
     ·rintro z1s h
      replace h:=(zvY z1s).symm.trans h
      refine WC.b (WC.a (WL.pu rfl (WL.pu rfl (WL.pu rfl (WL.pu rfl (WL.nil (WX.a ?_)))))))
      obtain ⟨zgl,zw0,h⟩:=yO h
      refine WC.y1Q (fun (z41 : List Sapi_Come)=>(zgl z41 = some r) ∧ (z41.length = z6.length)) (fun (z41 : List Sapi_Come)=>[(0,(.slice zN z41.length zF)),(1,(.int .i64 zn)),(3,(.int .i64 zz)),(4,(.func (.func z1b) #[] (z1n).toArray)),(18,(.int .i64 (i64 ((u64 (i64 (zn + zz))) / 2 ^ min (1 : Int).toNat 64)))),(20,(.int .i64 z1s)),(24,(.int .i64 (i64 ((i64 ((i64 ((u64 (i64 (zn + zz))) / 2 ^ min (1 : Int).toNat 64)) + zw)) - z1s))))]) (fun (z41 : List Sapi_Come)=>[row (.slice zN z41.length zF) 50 3 (z41.flatMap e50)]) ?_ ?_
      ·skip
       refine WC.b (WC.a (WL.pu rfl (WL.pu rfl (WL.pu rfl (WL.pu rfl ?_)))))
       refine WL.seg true 3 181 (B:=(decide (z1s < zw)) && (decide (zw < (i64 ((i64 ((i64 ((u64 (i64 (zn + zz))) / 2 ^ min (1 : Int).toNat 64)) + zw)) - z1s))))) rfl rfl rfl rfl rfl rfl (fun h=>(y1c h).symm) (fun _ zw1=>?_) ?_
       ·skip
        refine WL.pu rfl (WL.pu rfl (WL.pu rfl (WL.pu rfl ?_)))
        exact WL.yi (y1d zw1) rfl rfl .all
       refine WL.nil (WX.a ?_)
       refine WC.cond rfl (fun zkb=>?_) (fun zkb=>?_)
       ·replace h:=yg h zkb
        obtain ⟨zgm,zw2,h⟩:=z8 h
        refine WC.a (WL.pu rfl (WL.pu rfl (WL.pu rfl (WL.pu rfl (WL.pu rfl ?_)))))
        refine WL.y1D (dd:=191) rfl rfl rfl (zt (l:=[.tmp 186,.tmp 187,.tmp 188,.tmp 189,.tmp 190]) Try.call68 (.cons rfl (.cons rfl (.cons rfl (.cons rfl (.cons rfl .nil)))))) (.cons .here .nil) (cc hz (.cons .here .nil) fun w pz ho=>y49 _ _ _ (z58:=z1b) (z6V:=z1n) _ _ _ _ (z3o:=zT) _ zw2 w pz z71 z72 ho) ?_
        rintro  zp6
        refine WL.repin (i:=0) rfl (u:=(.slice zN zgm.length zF)) (yR zp6.symm) ?_
        refine WL.nil ?_
        exact WX.mid (G:=List Sapi_Come) zgm ⟨h,(zp6.trans rfl)⟩ (.cons rfl (.cons rfl (.cons rfl (.cons rfl (.cons rfl (.cons rfl (.cons rfl .nil))))))) (.cons .here .nil)
       ·replace h:=yh h zkb
        refine WC.skip ?_
        exact WX.mid (G:=List Sapi_Come) z6 ⟨h,rfl⟩ (.cons rfl (.cons rfl (.cons rfl (.cons rfl (.cons rfl (.cons rfl (.cons rfl .nil))))))) (.cons .here .nil)
      ·rintro z41 ⟨h,zp7⟩
       replace h:=(zw0 z41).symm.trans h
       obtain ⟨zgk,zw3,h⟩:=yO h
       refine WC.y1Q (fun (z4f : List Sapi_Come)=>(zgk z4f = some r) ∧ (z4f.length = z6.length)) (fun (z4f : List Sapi_Come)=>[(0,(.slice zN z4f.length zF)),(3,(.int .i64 zz)),(4,(.func (.func z1b) #[] (z1n).toArray)),(18,(.int .i64 (i64 ((u64 (i64 (zn + zz))) / 2 ^ min (1 : Int).toNat 64)))),(24,(.int .i64 (i64 ((i64 ((i64 ((u64 (i64 (zn + zz))) / 2 ^ min (1 : Int).toNat 64)) + zw)) - z1s))))]) (fun (z4f : List Sapi_Come)=>[row (.slice zN z4f.length zF) 50 3 (z4f.flatMap e50)]) ?_ ?_
       ·skip
        refine WC.b (WC.a (WL.pu rfl (WL.pu rfl (WL.pu rfl (WL.pu rfl ?_)))))
        refine WL.seg true 3 195 (B:=(decide (zn < z1s)) && (decide (z1s < (i64 ((u64 (i64 (zn + zz))) / 2 ^ min (1 : Int).toNat 64))))) rfl rfl rfl rfl rfl rfl (fun h=>(y1c h).symm) (fun _ zw4=>?_) ?_
        ·skip
         refine WL.pu rfl (WL.pu rfl (WL.pu rfl (WL.pu rfl ?_)))
         exact WL.yi (y1d zw4) rfl rfl .all
        refine WL.nil (WX.a ?_)
        refine WC.cond rfl (fun zkc=>?_) (fun zkc=>?_)
        ·replace h:=yg h zkc
         obtain ⟨zet,zw5,h⟩:=z8 h
         refine WC.a (WL.pu rfl (WL.pu rfl (WL.pu rfl (WL.pu rfl (WL.pu rfl ?_)))))
         refine WL.y1D (dd:=205) rfl rfl rfl (zt (l:=[.tmp 200,.tmp 201,.tmp 202,.tmp 203,.tmp 204]) Try.call67 (.cons rfl (.cons rfl (.cons rfl (.cons rfl (.cons rfl .nil)))))) (.cons .here .nil) (cc hz (.cons .here .nil) fun w pz ho=>ih (Z:=_) (zN:=zN) (zF:=zF) (z1b:=z1b) (z1n:=z1n) (z6:=z41) (zn:=zn) (zw:=z1s) (zz:=(i64 ((u64 (i64 (zn + zz))) / 2 ^ min (1 : Int).toNat 64))) (zT:=zT) (r:=zet) w pz z71 z72 zw5 ho) ?_
         rintro  zp8
         refine WL.repin (i:=0) rfl (u:=(.slice zN zet.length zF)) (yR zp8.symm) ?_
         refine WL.nil ?_
         exact WX.mid (G:=List Sapi_Come) zet ⟨h,(zp8.trans zp7)⟩ (.cons rfl (.cons rfl (.cons rfl (.cons rfl (.cons rfl .nil))))) (.cons .here .nil)
        ·replace h:=yh h zkc
         refine WC.skip ?_
         exact WX.mid (G:=List Sapi_Come) z41 ⟨h,zp7⟩ (.cons rfl (.cons rfl (.cons rfl (.cons rfl (.cons rfl .nil))))) (.cons .here .nil)
       ·rintro z4f ⟨h,zp9⟩
        replace h:=(zw3 z4f).symm.trans h
        refine WC.b (WC.a (WL.pu rfl (WL.pu rfl (WL.pu rfl (WL.pu rfl ?_)))))
        refine WL.seg true 3 209 (B:=(decide ((i64 ((u64 (i64 (zn + zz))) / 2 ^ min (1 : Int).toNat 64)) < (i64 ((i64 ((i64 ((u64 (i64 (zn + zz))) / 2 ^ min (1 : Int).toNat 64)) + zw)) - z1s)))) && (decide ((i64 ((i64 ((i64 ((u64 (i64 (zn + zz))) / 2 ^ min (1 : Int).toNat 64)) + zw)) - z1s)) < zz))) rfl rfl rfl rfl rfl rfl (fun h=>(y1c h).symm) (fun _ zw6=>?_) ?_
        ·skip
         refine WL.pu rfl (WL.pu rfl (WL.pu rfl (WL.pu rfl ?_)))
         exact WL.yi (y1d zw6) rfl rfl .all
        refine WL.nil (WX.a ?_)
        refine WC.cond rfl (fun zkd=>?_) (fun zkd=>?_)
        ·replace h:=yg h zkd
         obtain ⟨zgj,zw7,h⟩:=z8 h
         refine WC.a (WL.pu rfl (WL.pu rfl (WL.pu rfl (WL.pu rfl (WL.pu rfl ?_)))))
         refine WL.y1D (dd:=219) rfl rfl rfl (zt (l:=[.tmp 214,.tmp 215,.tmp 216,.tmp 217,.tmp 218]) Try.call67 (.cons rfl (.cons rfl (.cons rfl (.cons rfl (.cons rfl .nil)))))) (.cons .here .nil) (cc hz (.cons .here .nil) fun w pz ho=>ih (Z:=_) (zN:=zN) (zF:=zF) (z1b:=z1b) (z1n:=z1n) (z6:=z4f) (zn:=(i64 ((u64 (i64 (zn + zz))) / 2 ^ min (1 : Int).toNat 64))) (zw:=(i64 ((i64 ((i64 ((u64 (i64 (zn + zz))) / 2 ^ min (1 : Int).toNat 64)) + zw)) - z1s))) (zz:=zz) (zT:=zT) (r:=zgj) w pz z71 z72 zw7 ho) ?_
         rintro  zpa
         refine WL.repin (i:=0) rfl (u:=(.slice zN zgj.length zF)) (yR zpa.symm) ?_
         refine WL.nil ?_
         obtain rfl:=Option.some.inj h
         refine WX.y1L Try.results67 .nil (fun w hw=>?_)
         exact ⟨y3Z,(zpa.trans zp9),hw.sub (.cons .here .nil)⟩
        ·replace h:=yh h zkd
         refine WC.skip ?_
         obtain rfl:=Option.some.inj h
         refine WX.y1L Try.results67 .nil (fun w hw=>?_)
         exact ⟨y3Z,zp9,hw.sub (.cons .here .nil)⟩
theorem y2D (Z : Zp) (zN : Option Addr) (zF : Nat) (z1b : FuncId) (z1n : List Value) (z6 : List Sapi_Come) (zn : Int) (zw : Int) (zz : Int) (zT : Sapi_Come → Sapi_Come → Option Int) (r : List Sapi_Come) (w₀ : World) (hz : PZ (fps [row (.slice zN z6.length zF) 50 3 (z6.flatMap e50)]) w₀ Z)
  (z71 : ∀ args w,(callFunc z1b args).run Try.prog w = .ok (.enter z1b args) w)
  (z72 : ∀ w : World,PZ [] w Z → ∀ (x0 : Sapi_Come) (x1 : Sapi_Come) (r : Int),zT x0 x1 = some r → Calls Try.prog z1b (([(.agg #[(.int .i64 x0.fSent),(.int .i64 x0.fNode),(.int .i64 x0.fTime)]),(.agg #[(.int .i64 x1.fSent),(.int .i64 x1.fNode),(.int .i64 x1.fTime)])] : List Value) ++ z1n).toArray w fun e w'=>e = .returned (.int .i64 r) ∧ Hp [] w w' []) (h : y24 z6 zn zw zz zT = some r)
  (hown : Hp (fps [row (.slice zN z6.length zF) 50 3 (z6.flatMap e50)]) w₀ w₀ [row (.slice zN z6.length zF) 50 3 (z6.flatMap e50)]) : Calls Try.prog 67 #[(.slice zN z6.length zF),(.int .i64 zn),(.int .i64 zw),(.int .i64 zz),(.func (.func z1b) #[] (z1n).toArray)] w₀ fun e w'=>e = .returned (.tuple #[]) ∧ (r.length = z6.length) ∧ Hp (fps [row (.slice zN z6.length zF) 50 3 (z6.flatMap e50)]) w₀ w' [row (.slice zN r.length zF) 50 3 (r.flatMap e50)]:=y3K yP Z zN zF z1b z1n z6 zn zw zz zT r w₀ hz z71 z72 h hown
def y1i (z12 : Int) (z1j : Sapi_Come → Sapi_Come → Option Int) (z82 : (List Sapi_Come) → Int → Option (List Sapi_Come)) : Nat → (List Sapi_Come) → Int → Int → Option (List Sapi_Come)
 | 0,_,_,_=>none
 | zke + 1,z3N,z59,z3O=>if decide (z3O ≤ z12) then (y1q z3N z59 z3O z1j).bind fun zgr=>y1i z12 z1j z82 zke zgr z3O (i64 (z3O + 20)) else z82 z3N z59
theorem y3B {n : Nat} {z12 : Int} {z1j : Sapi_Come → Sapi_Come → Option Int} {z82 : (List Sapi_Come) → Int → Option (List Sapi_Come)} {z3N : List Sapi_Come} {z59 : Int} {z3O : Int} {r : List Sapi_Come} (h : y1i z12 z1j z82 n z3N z59 z3O = some r) : ∃ m,n = m + 1:=by
 cases n with
 | zero=>cases h
 | succ m=>exact ⟨m,rfl⟩
def y1j (z12 : Int) (z1h : Int) (z1j : Sapi_Come → Sapi_Come → Option Int) (z83 : (List Sapi_Come) → Int → Option (List Sapi_Come)) : Nat → (List Sapi_Come) → Int → Int → Option (List Sapi_Come)
 | 0,_,_,_=>none
 | zkf + 1,z3B,z3P,z3C=>if decide (z3C ≤ z12) then (y24 z3B z3P (i64 (z3P + z1h)) z3C z1j).bind fun zeB=>y1j z12 z1h z1j z83 zkf zeB z3C (i64 (z3C + (i64 (2 * z1h)))) else z83 z3B z3P
theorem y3C {n : Nat} {z12 : Int} {z1h : Int} {z1j : Sapi_Come → Sapi_Come → Option Int} {z83 : (List Sapi_Come) → Int → Option (List Sapi_Come)} {z3B : List Sapi_Come} {z3P : Int} {z3C : Int} {r : List Sapi_Come} (h : y1j z12 z1h z1j z83 n z3B z3P z3C = some r) : ∃ m,n = m + 1:=by
 cases n with
 | zero=>cases h
 | succ m=>exact ⟨m,rfl⟩
def y1k (z12 : Int) (z1j : Sapi_Come → Sapi_Come → Option Int) (z84 : (List Sapi_Come) → Option (List Sapi_Come)) : Nat → (List Sapi_Come) → Int → Option (List Sapi_Come)
 | 0,_,_=>none
 | zkg + 1,z3D,z1h=>if decide (z1h < z12) then jp1 (fun (z5a : List Sapi_Come)=>y1k z12 z1j z84 zkg z5a (i64 (z1h * 2))) fun zkh=>jp2 (fun (z42 : List Sapi_Come) (z5b : Int)=>jp1 (fun (z5c : List Sapi_Come)=>zkh z5c) fun zgs=>if decide ((i64 (z5b + z1h)) < z12) then (y24 z42 z5b (i64 (z5b + z1h)) z12 z1j).bind fun zeC=>zgs zeC else zgs z42) fun z83=>y1j z12 z1h z1j z83 yP z3D 0 (i64 (2 * z1h)) else z84 z3D
theorem y3D {n : Nat} {z12 : Int} {z1j : Sapi_Come → Sapi_Come → Option Int} {z84 : (List Sapi_Come) → Option (List Sapi_Come)} {z3D : List Sapi_Come} {z1h : Int} {r : List Sapi_Come} (h : y1k z12 z1j z84 n z3D z1h = some r) : ∃ m,n = m + 1:=by
 cases n with
 | zero=>cases h
 | succ m=>exact ⟨m,rfl⟩
def y2a (z1C : List Sapi_Come) (z12 : Int) (z1j : Sapi_Come → Sapi_Come → Option Int) : Option (List Sapi_Come) :=
 jp2 (fun (z5D : List Sapi_Come) (z8M : Int)=>(y1q z5D z8M z12 z1j).bind fun zgt=>jp1 (fun (z75 : List Sapi_Come)=>some z75) fun z84=>y1k z12 z1j z84 yP zgt 20) fun z82=>y1i z12 z1j z82 yP z1C 0 20
set_option maxRecDepth 20000 in
theorem y4a (Z : Zp) (z1k : Option Addr) (z1l : Nat) (z39 : FuncId) (z3E : List Value) (z1C : List Sapi_Come) (z12 : Int) (z1j : Sapi_Come → Sapi_Come → Option Int) (r : List Sapi_Come)
  (h : y2a z1C z12 z1j = some r) (w₀ : World) (hz : PZ (fps [row (.slice z1k z1C.length z1l) 50 3 (z1C.flatMap e50)]) w₀ Z)
  (zgu : ∀ args w,(callFunc z39 args).run Try.prog w = .ok (.enter z39 args) w)
  (zgv : ∀ w : World,PZ [] w Z → ∀ (x0 : Sapi_Come) (x1 : Sapi_Come) (r : Int),z1j x0 x1 = some r → Calls Try.prog z39 (([(.agg #[(.int .i64 x0.fSent),(.int .i64 x0.fNode),(.int .i64 x0.fTime)]),(.agg #[(.int .i64 x1.fSent),(.int .i64 x1.fNode),(.int .i64 x1.fTime)])] : List Value) ++ z3E).toArray w fun e w'=>e = .returned (.int .i64 r) ∧ Hp [] w w' [])
  (hown : Hp (fps [row (.slice z1k z1C.length z1l) 50 3 (z1C.flatMap e50)]) w₀ w₀ [row (.slice z1k z1C.length z1l) 50 3 (z1C.flatMap e50)]) :
  Calls Try.prog 57 #[(.slice z1k z1C.length z1l),(.int .i64 z12),(.func (.func z39) #[] (z3E).toArray)] w₀ fun e w'=>e = .returned (.tuple #[]) ∧ (r.length = z1C.length) ∧ Hp (fps [row (.slice z1k z1C.length z1l) 50 3 (z1C.flatMap e50)]) w₀ w' [row (.slice z1k r.length z1l) 50 3 (r.flatMap e50)]:=by
 unfold y2a at h
 refine Calls.yo (vs:=[(.slice z1k z1C.length z1l),(.int .i64 z12),(.func (.func z39) #[] (z3E).toArray)]) (pre:=[row (.slice z1k z1C.length z1l) 50 3 (z1C.flatMap e50)]) (env:=[(0,(.slice z1k z1C.length z1l)),(1,(.int .i64 z12)),(2,(.func (.func z39) #[] (z3E).toArray))]) Try.func57 rfl Try.ntmps57 rfl (hown) rfl ?_
 refine WC.b (WC.a (WL.pu rfl (WL.nil (WX.a (WC.b (WC.a (WL.pu rfl (WL.pu rfl (WL.pu rfl (WL.nil (WX.a ?_)))))))))))
 obtain ⟨z82,zw8,h⟩:=y34 h
 refine WC.y2v (fun (z5D : List Sapi_Come) (z8M : Int)=>(z82 z5D z8M = some r) ∧ (z5D.length = z1C.length)) (fun (z5D : List Sapi_Come) (z8M : Int)=>[(0,(.slice z1k z5D.length z1l)),(1,(.int .i64 z12)),(2,(.func (.func z39) #[] (z3E).toArray)),(6,(.int .i64 20)),(7,(.int .i64 z8M))]) (fun (z5D : List Sapi_Come) (z8M : Int)=>[row (.slice z1k z5D.length z1l) 50 3 (z5D.flatMap e50)]) ?_ ?_
 ·skip
  refine WC.block ?_
  refine WC.y5E (fun (zbN : Nat) (z3N : List Sapi_Come) (z59 : Int) (z3O : Int)=>(y1i z12 z1j z82 zbN z3N z59 z3O = some r) ∧ (z3N.length = z1C.length)) (fun (zbN : Nat) (z3N : List Sapi_Come) (z59 : Int) (z3O : Int)=>[(0,(.slice z1k z3N.length z1l)),(1,(.int .i64 z12)),(2,(.func (.func z39) #[] (z3E).toArray)),(6,(.int .i64 20)),(7,(.int .i64 z59)),(8,(.int .i64 z3O))]) (fun (zbN : Nat) (z3N : List Sapi_Come) (z59 : Int) (z3O : Int)=>[row (.slice z1k z3N.length z1l) 50 3 (z3N.flatMap e50)]) (fun (zbN : Nat) (z3N : List Sapi_Come) (z59 : Int) (z3O : Int)=>zbN) ⟨yP,z1C,0,20⟩ ⟨h,rfl⟩ (.cons rfl (.cons rfl (.cons rfl (.cons rfl (.cons rfl (.cons rfl .nil)))))) (.cons .here .nil) ?_
  rintro zbN z3N z59 z3O ⟨h,zpb⟩
  obtain ⟨zke,rfl⟩:=y3B h
  rw [y1i] at h
  refine WC.b (WC.b (WC.a (WL.pu rfl (WL.pu rfl (WL.pu rfl (WL.nil (WX.a ?_)))))))
  refine WC.cond rfl (fun zki=>?_) (fun zki=>?_)
  ·replace h:=yg h zki
   refine WC.skip (WX.a (WC.block (WC.b ?_)))
   obtain ⟨zgr,zw9,h⟩:=z8 h
   refine WC.a (WL.pu rfl (WL.pu rfl (WL.pu rfl (WL.pu rfl ?_))))
   refine WL.y1D (dd:=18) rfl rfl rfl (zt (l:=[.tmp 14,.tmp 15,.tmp 16,.tmp 17]) Try.call66 (.cons rfl (.cons rfl (.cons rfl (.cons rfl .nil))))) (.cons .here .nil) (cc hz (.cons .here .nil) fun w pz ho=>y2j _ _ _ (z40:=z39) (z56:=z3E) _ _ _ (z37:=z1j) _ zw9 w pz zgu zgv ho) ?_
   rintro  zpc
   refine WL.repin (i:=0) rfl (u:=(.slice z1k zgr.length z1l)) (yR zpc.symm) ?_
   refine WL.nil (WX.a (WC.b (WC.a (WL.pu rfl (WL.pu rfl (WL.nil (WX.a (WC.a (WL.pu rfl (WL.pu rfl (WL.pu rfl (WL.pu rfl (WL.nil (WX.yf ?_))))))))))))))
   exact WX.round (G:=Nat × List Sapi_Come × Int × Int) ⟨zke,zgr,z3O,(i64 (z3O + 20))⟩ ⟨h,(zpc.trans zpb)⟩ (Nat.lt_succ_self _) (.cons rfl (.cons rfl (.cons rfl (.cons rfl (.cons rfl (.cons rfl .nil)))))) (.cons .here .nil)
  ·replace h:=yh h zki
   refine WC.exit (WX.yk (WX.yk (WX.yC ?_)))
   exact WX.mid (G:=List Sapi_Come × Int) ⟨z3N,z59⟩ ⟨h,zpb⟩ (.cons rfl (.cons rfl (.cons rfl (.cons rfl (.cons rfl .nil))))) (.cons .here .nil)
 ·rintro z5D z8M ⟨h,zwa⟩
  replace h:=(zw8 z5D z8M).symm.trans h
  refine WC.b ?_
  obtain ⟨zgt,zwb,h⟩:=z8 h
  refine WC.a (WL.pu rfl (WL.pu rfl (WL.pu rfl (WL.pu rfl ?_))))
  refine WL.y1D (dd:=27) rfl rfl rfl (zt (l:=[.tmp 23,.tmp 24,.tmp 25,.tmp 26]) Try.call66 (.cons rfl (.cons rfl (.cons rfl (.cons rfl .nil))))) (.cons .here .nil) (cc hz (.cons .here .nil) fun w pz ho=>y2j _ _ _ (z40:=z39) (z56:=z3E) _ _ _ (z37:=z1j) _ zwb w pz zgu zgv ho) ?_
  rintro  zpd
  refine WL.repin (i:=0) rfl (u:=(.slice z1k zgt.length z1l)) (yR zpd.symm) ?_
  refine WL.nil (WX.a ?_)
  obtain ⟨z84,zwc,h⟩:=yO h
  refine WC.y4J (fun (z75 : List Sapi_Come)=>(z84 z75 = some r) ∧ (z75.length = z1C.length)) (fun (z75 : List Sapi_Come)=>[]) (fun (z75 : List Sapi_Come)=>[row (.slice z1k z75.length z1l) 50 3 (z75.flatMap e50)]) ?_ ?_
  ·skip
   refine WC.block ?_
   refine WC.y2c (fun (zbO : Nat) (z3D : List Sapi_Come) (z1h : Int)=>(y1k z12 z1j z84 zbO z3D z1h = some r) ∧ (z3D.length = z1C.length)) (fun (zbO : Nat) (z3D : List Sapi_Come) (z1h : Int)=>[(0,(.slice z1k z3D.length z1l)),(1,(.int .i64 z12)),(2,(.func (.func z39) #[] (z3E).toArray)),(6,(.int .i64 z1h))]) (fun (zbO : Nat) (z3D : List Sapi_Come) (z1h : Int)=>[row (.slice z1k z3D.length z1l) 50 3 (z3D.flatMap e50)]) (fun (zbO : Nat) (z3D : List Sapi_Come) (z1h : Int)=>zbO) ⟨yP,zgt,20⟩ ⟨h,(zpd.trans zwa)⟩ (.cons rfl (.cons rfl (.cons rfl (.cons rfl .nil)))) (.cons .here .nil) ?_
   rintro zbO z3D z1h ⟨h,zpe⟩
   obtain ⟨zkg,rfl⟩:=y3D h
   rw [y1k] at h
   refine WC.b (WC.b (WC.a (WL.pu rfl (WL.pu rfl (WL.pu rfl (WL.nil (WX.a ?_)))))))
   refine WC.cond rfl (fun zkj=>?_) (fun zkj=>?_)
   ·replace h:=yg h zkj
    refine WC.skip (WX.a ?_)
    obtain ⟨zkh,zwd,h⟩:=yO h
    refine WC.y4J (fun (z5a : List Sapi_Come)=>(zkh z5a = some r) ∧ (z5a.length = z1C.length)) (fun (z5a : List Sapi_Come)=>[(0,(.slice z1k z5a.length z1l)),(1,(.int .i64 z12)),(2,(.func (.func z39) #[] (z3E).toArray)),(6,(.int .i64 (i64 (z1h * 2))))]) (fun (z5a : List Sapi_Come)=>[row (.slice z1k z5a.length z1l) 50 3 (z5a.flatMap e50)]) ?_ ?_
    ·skip
     refine WC.block (WC.b (WC.a (WL.pu rfl (WL.pu rfl (WL.pu rfl (WL.pu rfl (WL.nil (WX.a ?_))))))))
     obtain ⟨z83,zwe,h⟩:=y34 h
     refine WC.y2v (fun (z42 : List Sapi_Come) (z5b : Int)=>(z83 z42 z5b = some r) ∧ (z42.length = z1C.length)) (fun (z42 : List Sapi_Come) (z5b : Int)=>[(0,(.slice z1k z42.length z1l)),(1,(.int .i64 z12)),(2,(.func (.func z39) #[] (z3E).toArray)),(6,(.int .i64 z1h)),(7,(.int .i64 z5b))]) (fun (z42 : List Sapi_Come) (z5b : Int)=>[row (.slice z1k z42.length z1l) 50 3 (z42.flatMap e50)]) ?_ ?_
     ·skip
      refine WC.block ?_
      refine WC.y5E (fun (zbP : Nat) (z3B : List Sapi_Come) (z3P : Int) (z3C : Int)=>(y1j z12 z1h z1j z83 zbP z3B z3P z3C = some r) ∧ (z3B.length = z1C.length)) (fun (zbP : Nat) (z3B : List Sapi_Come) (z3P : Int) (z3C : Int)=>[(0,(.slice z1k z3B.length z1l)),(1,(.int .i64 z12)),(2,(.func (.func z39) #[] (z3E).toArray)),(6,(.int .i64 z1h)),(7,(.int .i64 z3P)),(8,(.int .i64 z3C))]) (fun (zbP : Nat) (z3B : List Sapi_Come) (z3P : Int) (z3C : Int)=>[row (.slice z1k z3B.length z1l) 50 3 (z3B.flatMap e50)]) (fun (zbP : Nat) (z3B : List Sapi_Come) (z3P : Int) (z3C : Int)=>zbP) ⟨yP,z3D,0,(i64 (2 * z1h))⟩ ⟨h,zpe⟩ (.cons rfl (.cons rfl (.cons rfl (.cons rfl (.cons rfl (.cons rfl .nil)))))) (.cons .here .nil) ?_
      rintro zbP z3B z3P z3C ⟨h,zpf⟩
      obtain ⟨zkf,rfl⟩:=y3C h
      rw [y1j] at h
      refine WC.b (WC.b (WC.a (WL.pu rfl (WL.pu rfl (WL.pu rfl (WL.nil (WX.a ?_)))))))
      refine WC.cond rfl (fun zkk=>?_) (fun zkk=>?_)
      ·replace h:=yg h zkk
       refine WC.skip (WX.a (WC.block (WC.b ?_)))
       obtain ⟨zeB,zwf,h⟩:=z8 h
       refine WC.a (WL.pu rfl (WL.pu rfl (WL.pu rfl (WL.pu rfl (WL.pu rfl (WL.pu rfl (WL.pu rfl ?_)))))))
       refine WL.y1D (dd:=43) rfl rfl rfl (zt (l:=[.tmp 36,.tmp 37,.tmp 40,.tmp 41,.tmp 42]) Try.call67 (.cons rfl (.cons rfl (.cons rfl (.cons rfl (.cons rfl .nil)))))) (.cons .here .nil) (cc hz (.cons .here .nil) fun w pz ho=>y2D (Z:=_) (zN:=z1k) (zF:=z1l) (z1b:=z39) (z1n:=z3E) (z6:=z3B) (zn:=z3P) (zw:=(i64 (z3P + z1h))) (zz:=z3C) (zT:=z1j) (r:=zeB) w pz zgu zgv zwf ho) ?_
       rintro  zpg
       refine WL.repin (i:=0) rfl (u:=(.slice z1k zeB.length z1l)) (yR zpg.symm) ?_
       refine WL.nil (WX.a (WC.b (WC.a (WL.pu rfl (WL.pu rfl (WL.nil (WX.a (WC.a (WL.pu rfl (WL.pu rfl (WL.pu rfl (WL.pu rfl (WL.pu rfl (WL.nil (WX.yf ?_)))))))))))))))
       exact WX.round (G:=Nat × List Sapi_Come × Int × Int) ⟨zkf,zeB,z3C,(i64 (z3C + (i64 (2 * z1h))))⟩ ⟨h,(zpg.trans zpf)⟩ (Nat.lt_succ_self _) (.cons rfl (.cons rfl (.cons rfl (.cons rfl (.cons rfl (.cons rfl .nil)))))) (.cons .here .nil)
      ·replace h:=yh h zkk
       refine WC.exit (WX.yk (WX.yk (WX.yC ?_)))
       exact WX.mid (G:=List Sapi_Come × Int) ⟨z3B,z3P⟩ ⟨h,zpf⟩ (.cons rfl (.cons rfl (.cons rfl (.cons rfl (.cons rfl .nil))))) (.cons .here .nil)
     ·rintro z42 z5b ⟨h,zph⟩
      replace h:=(zwe z42 z5b).symm.trans h
      obtain ⟨zgs,zwg,h⟩:=yO h
      refine WC.y1Q (fun (z5c : List Sapi_Come)=>(zgs z5c = some r) ∧ (z5c.length = z1C.length)) (fun (z5c : List Sapi_Come)=>[(0,(.slice z1k z5c.length z1l)),(1,(.int .i64 z12)),(2,(.func (.func z39) #[] (z3E).toArray)),(6,(.int .i64 z1h))]) (fun (z5c : List Sapi_Come)=>[row (.slice z1k z5c.length z1l) 50 3 (z5c.flatMap e50)]) ?_ ?_
      ·skip
       refine WC.b (WC.a (WL.pu rfl (WL.pu rfl (WL.pu rfl (WL.pu rfl (WL.nil (WX.a (WC.b (WC.a (WL.pu rfl (WL.pu rfl (WL.pu rfl (WL.nil (WX.a ?_))))))))))))))
       refine WC.cond rfl (fun zkl=>?_) (fun zkl=>?_)
       ·replace h:=yg h zkl
        obtain ⟨zeC,zwh,h⟩:=z8 h
        refine WC.a (WL.pu rfl (WL.pu rfl (WL.pu rfl (WL.pu rfl (WL.pu rfl ?_)))))
        refine WL.y1D (dd:=60) rfl rfl rfl (zt (l:=[.tmp 55,.tmp 56,.tmp 57,.tmp 58,.tmp 59]) Try.call67 (.cons rfl (.cons rfl (.cons rfl (.cons rfl (.cons rfl .nil)))))) (.cons .here .nil) (cc hz (.cons .here .nil) fun w pz ho=>y2D (Z:=_) (zN:=z1k) (zF:=z1l) (z1b:=z39) (z1n:=z3E) (z6:=z42) (zn:=z5b) (zw:=(i64 (z5b + z1h))) (zz:=z12) (zT:=z1j) (r:=zeC) w pz zgu zgv zwh ho) ?_
        rintro  zpi
        refine WL.repin (i:=0) rfl (u:=(.slice z1k zeC.length z1l)) (yR zpi.symm) ?_
        refine WL.nil ?_
        exact WX.mid (G:=List Sapi_Come) zeC ⟨h,(zpi.trans zph)⟩ (.cons rfl (.cons rfl (.cons rfl (.cons rfl .nil)))) (.cons .here .nil)
       ·replace h:=yh h zkl
        refine WC.skip ?_
        exact WX.mid (G:=List Sapi_Come) z42 ⟨h,zph⟩ (.cons rfl (.cons rfl (.cons rfl (.cons rfl .nil)))) (.cons .here .nil)
      ·rintro z5c ⟨h,zwi⟩
       replace h:=(zwg z5c).symm.trans h
       refine WC.a (WL.pu rfl (WL.pu rfl (WL.pu rfl (WL.nil (WX.yf ?_)))))
       exact WX.mid (G:=List Sapi_Come) z5c ⟨h,zwi⟩ (.cons rfl (.cons rfl (.cons rfl (.cons rfl .nil)))) (.cons .here .nil)
    ·rintro z5a ⟨h,zwj⟩
     replace h:=(zwd z5a).symm.trans h
     exact WX.round (G:=Nat × List Sapi_Come × Int) ⟨zkg,z5a,(i64 (z1h * 2))⟩ ⟨h,zwj⟩ (Nat.lt_succ_self _) (.cons rfl (.cons rfl (.cons rfl (.cons rfl .nil)))) (.cons .here .nil)
   ·replace h:=yh h zkj
    refine WC.exit (WX.yk (WX.yk (WX.yC ?_)))
    exact WX.mid (G:=List Sapi_Come) z3D ⟨h,zpe⟩ .nil (.cons .here .nil)
  ·rintro z75 ⟨h,zwk⟩
   replace h:=(zwc z75).symm.trans h
   obtain rfl:=Option.some.inj h
   refine WX.y1L Try.results57 .nil (fun w hw=>?_)
   exact ⟨y3Z,zwk,hw.sub (.cons .here .nil)⟩
def y1C (z3a : List Sapi_Come) (zbQ : Sapi_Come → Sapi_Come → Option Int) : Option (List Sapi_Come) :=
 (y2a z3a ((z3a.length : Nat) : Int) zbQ).bind fun zgw=>some zgw
set_option maxRecDepth 20000 in
theorem y3r (Z : Zp) (z5E : Option Addr) (z5F : Nat) (z8N : FuncId) (zbR : List Value) (z3a : List Sapi_Come) (zbQ : Sapi_Come → Sapi_Come → Option Int) (r : List Sapi_Come)
  (h : y1C z3a zbQ = some r) (w₀ : World) (hz : PZ (fps [row (.slice z5E z3a.length z5F) 50 3 (z3a.flatMap e50)]) w₀ Z)
  (zwl : ∀ args w,(callFunc z8N args).run Try.prog w = .ok (.enter z8N args) w)
  (zwm : ∀ w : World,PZ [] w Z → ∀ (x0 : Sapi_Come) (x1 : Sapi_Come) (r : Int),zbQ x0 x1 = some r → Calls Try.prog z8N (([(.agg #[(.int .i64 x0.fSent),(.int .i64 x0.fNode),(.int .i64 x0.fTime)]),(.agg #[(.int .i64 x1.fSent),(.int .i64 x1.fNode),(.int .i64 x1.fTime)])] : List Value) ++ zbR).toArray w fun e w'=>e = .returned (.int .i64 r) ∧ Hp [] w w' [])
  (hown : Hp (fps [row (.slice z5E z3a.length z5F) 50 3 (z3a.flatMap e50)]) w₀ w₀ [row (.slice z5E z3a.length z5F) 50 3 (z3a.flatMap e50)]) :
  Calls Try.prog 42 #[(.slice z5E z3a.length z5F),(.func (.func z8N) #[] (zbR).toArray)] w₀ fun e w'=>e = .returned (.tuple #[]) ∧ (r.length = z3a.length) ∧ Hp (fps [row (.slice z5E z3a.length z5F) 50 3 (z3a.flatMap e50)]) w₀ w' [row (.slice z5E r.length z5F) 50 3 (r.flatMap e50)]:=by
 unfold y1C at h
 refine Calls.yo (vs:=[(.slice z5E z3a.length z5F),(.func (.func z8N) #[] (zbR).toArray)]) (pre:=[row (.slice z5E z3a.length z5F) 50 3 (z3a.flatMap e50)]) (env:=[(0,(.slice z5E z3a.length z5F)),(1,(.func (.func z8N) #[] (zbR).toArray))]) Try.func42 rfl Try.ntmps42 rfl (hown) rfl ?_
 obtain ⟨zgw,zwn,h⟩:=z8 h
 refine WC.a (WL.pu rfl (WL.pu rfl ?_))
 refine WL.a (d:=6) rfl rfl rfl (yz Try.underlying36 rfl) ?_
 refine WL.pu rfl ?_
 refine WL.y1D (dd:=8) rfl rfl rfl (zt (l:=[.tmp 4,.tmp 6,.tmp 7]) Try.call57 (.cons rfl (.cons rfl (.cons rfl .nil)))) (.cons .here .nil) (cc hz (.cons .here .nil) fun w pz ho=>y4a _ _ _ (z39:=z8N) (z3E:=zbR) _ _ (z1j:=zbQ) _ zwn w pz zwl zwm ho) ?_
 rintro  zkm
 refine WL.repin (i:=0) rfl (u:=(.slice z5E zgw.length z5F)) (yR zkm.symm) ?_
 refine WL.repin (i:=5) rfl (u:=(.slice z5E zgw.length z5F)) (yR zkm.symm) ?_
 refine WL.nil ?_
 obtain rfl:=Option.some.inj h
 refine WX.y1L Try.results42 .nil (fun w hw=>?_)
 exact ⟨y3Z,(zkm.trans rfl),hw.sub (.cons .here .nil)⟩
def y3y (z3p : List Sapi_Come) : Option (List Sapi_Come) :=
 (y1C z3p (fun (y0 : Sapi_Come) (y1 : Sapi_Come)=>y31 y0 y1)).bind fun zkn=>some zkn
set_option maxRecDepth 20000 in
theorem y4X (Z : Zp) (z5G : Option Addr) (z5H : Nat) (z3p : List Sapi_Come) (r : List Sapi_Come)
  (h : y3y z3p = some r) (w₀ : World) (hz : PZ (fps [row (.slice z5G z3p.length z5H) 50 3 (z3p.flatMap e50)]) w₀ Z)
  (hown : Hp (fps [row (.slice z5G z3p.length z5H) 50 3 (z3p.flatMap e50)]) w₀ w₀ [row (.slice z5G z3p.length z5H) 50 3 (z3p.flatMap e50)]) :
  Calls Try.prog 27 #[(.slice z5G z3p.length z5H)] w₀ fun e w'=>e = .returned (.slice z5G r.length z5H) ∧ (r.length = z3p.length) ∧ Hp (fps [row (.slice z5G z3p.length z5H) 50 3 (z3p.flatMap e50)]) w₀ w' [row (.slice z5G r.length z5H) 50 3 (r.flatMap e50)]:=by
 unfold y3y at h
 refine Calls.yo (vs:=[(.slice z5G z3p.length z5H)]) (pre:=[row (.slice z5G z3p.length z5H) 50 3 (z3p.flatMap e50)]) (env:=[(0,(.slice z5G z3p.length z5H))]) Try.func27 rfl Try.ntmps27 rfl (hown) rfl ?_
 refine WC.b (WC.a (WL.pu rfl (WL.nil (WX.a (WC.b ?_)))))
 obtain ⟨zkn,zwo,h⟩:=z8 h
 refine WC.a (WL.pu rfl ?_)
 refine WL.y1D (dd:=4) rfl rfl rfl (zt (l:=[.tmp 3,.func 43]) Try.call42 (.cons rfl (.cons rfl .nil))) (.cons .here .nil) (cc hz (.cons .here .nil) fun w pz ho=>y3r _ _ _ (z8N:=43) (zbR:=[]) _ (zbQ:=(fun (y0 : Sapi_Come) (y1 : Sapi_Come)=>y31 y0 y1)) _ zwo w pz Try.call43 (fun w' hz' y0 y1  r  hr=>y6c _ _ _ _ hr w' hz' ) ho) ?_
 rintro  zpj
 refine WL.repin (i:=0) rfl (u:=(.slice z5G zkn.length z5H)) (yR zpj.symm) ?_
 refine WL.nil (WX.a (WC.b (WC.a (WL.pu rfl (WL.pu rfl (WL.nil (WX.a (WC.ret ?_))))))))
 obtain rfl:=Option.some.inj h
 refine WX.yj Try.results27 (.tmp rfl .nil) (fun w hw=>?_)
 exact ⟨yL rfl,(zpj.trans rfl),hw.sub (.cons .here .nil)⟩
def y2O (zW : List zSt) (z1a : List (List Sapi_Hop)) (ze : Sapi_Config) (z85 : (List Snetwork_event) → Option (List Sapi_Come × List Sapi_Come × Int)) : Nat → Int → (List Snetwork_event) → Option (List Sapi_Come × List Sapi_Come × Int)
 | 0,_,_=>none
 | zko + 1,z2k,z3F=>if decide (z2k < ((zW.length : Nat) : Int)) then jp1 (fun (z5I : List Snetwork_event)=>y2O zW z1a ze z85 zko (i64 (z2k + 1)) z5I) fun zgx=>chk ((0 : Int) ≤ z2k ∧ z2k < ((zW.length : Nat) : Int)) (chk ((0 : Int) ≤ ((nth zW z2k).fVL) ∧ ((nth zW z2k).fVL) < ((z1a.length : Nat) : Int)) (if decide ((((nth z1a ((nth zW z2k).fVL)).length : Nat) : Int) > 0) then chk ((0 : Int) ≤ 0 ∧ 0 < (((nth z1a ((nth zW z2k).fVL)).length : Nat) : Int)) ((y2R ze z1a zW ([] : List (Snetwork_exit × Sport_Port)) z3F [] [] ((nth (nth z1a ((nth zW z2k).fVL)) 0).fNode) ((nth zW z2k).fTime) (-1) z2k).bind fun zkp=>zgx zkp) else zgx z3F)) else z85 z3F
theorem y5w {n : Nat} {zW : List zSt} {z1a : List (List Sapi_Hop)} {ze : Sapi_Config} {z85 : (List Snetwork_event) → Option (List Sapi_Come × List Sapi_Come × Int)} {z2k : Int} {z3F : List Snetwork_event} {r : List Sapi_Come × List Sapi_Come × Int} (h : y2O zW z1a ze z85 n z2k z3F = some r) : ∃ m,n = m + 1:=by
 cases n with
 | zero=>cases h
 | succ m=>exact ⟨m,rfl⟩
def y2P (ze : Sapi_Config) (z1a : List (List Sapi_Hop)) (zW : List zSt) (z86 : (List Snetwork_event) → (List Sapi_Come) → (List Sapi_Come) → (List (Snetwork_exit × Sport_Port)) → Option (List Sapi_Come × List Sapi_Come × Int)) : Nat → (List Snetwork_event) → (List Sapi_Come) → (List Sapi_Come) → (List (Snetwork_exit × Sport_Port)) → Option (List Sapi_Come × List Sapi_Come × Int)
 | 0,_,_,_,_=>none
 | zkq + 1,z3Q,z43,z44,z5d=>if decide (((z3Q.length : Nat) : Int) > 0) then (y3S ze z1a zW z5d z3Q z43 z44).bind fun z87=>y2P ze z1a zW z86 zkq z87.1 z87.2.1 z87.2.2.1 z87.2.2.2 else z86 z3Q z43 z44 z5d
theorem y5x {n : Nat} {ze : Sapi_Config} {z1a : List (List Sapi_Hop)} {zW : List zSt} {z86 : (List Snetwork_event) → (List Sapi_Come) → (List Sapi_Come) → (List (Snetwork_exit × Sport_Port)) → Option (List Sapi_Come × List Sapi_Come × Int)} {z3Q : List Snetwork_event} {z43 : List Sapi_Come} {z44 : List Sapi_Come} {z5d : List (Snetwork_exit × Sport_Port)} {r : List Sapi_Come × List Sapi_Come × Int} (h : y2P ze z1a zW z86 n z3Q z43 z44 z5d = some r) : ∃ m,n = m + 1:=by
 cases n with
 | zero=>cases h
 | succ m=>exact ⟨m,rfl⟩
def yI (ze : Sapi_Config) (zbS : Int) (z1a : List (List Sapi_Hop)) (zW : List zSt) : Option (List Sapi_Come × List Sapi_Come × Int) :=
 (yA ze zbS z1a).bind fun zpk=>if !zpk then some (([] : List Sapi_Come),([] : List Sapi_Come),310) else (y2M ze zW).bind fun zpl=>if !zpl then some (([] : List Sapi_Come),([] : List Sapi_Come),311) else jp1 (fun (z5J : List Snetwork_event)=>jp4 (fun (z88 : List Snetwork_event) (z76 : List Sapi_Come) (z5K : List Sapi_Come) (za1 : List (Snetwork_exit × Sport_Port))=>(y3y z76).bind fun zpm=>(y3y z5K).bind fun zpn=>some (zpm,zpn,0)) fun z86=>y2P ze z1a zW z86 yP z5J ([] : List Sapi_Come) ([] : List Sapi_Come) ([] : List (Snetwork_exit × Sport_Port))) fun z85=>y2O zW z1a ze z85 yP 0 ([] : List Snetwork_event)
set_option maxRecDepth 20000 in
theorem y1J (Z : Zp) (z4g : Option Addr) (z4h : Nat) (z4i : Option Addr) (z4j : Nat) (z4k : Option Addr) (z4l : Nat) (z4m : Option Addr) (z4n : Nat) (z4o : Option Addr) (z4p : Nat) (z4q : Option Addr) (z4r : Nat) (z4s : Option Addr) (z4t : Nat) (z4u : Option Addr) (z4v : Nat) (z4w : Option Addr) (z4x : Nat) (z4y : Option Addr) (z4z : Nat) (ze : Sapi_Config) (zbS : Int) (z1a : List (List Sapi_Hop)) (zW : List zSt) (r : List Sapi_Come × List Sapi_Come × Int)
  (h : yI ze zbS z1a zW = some r) (w₀ : World) (hz : PZ [] w₀ Z)
  (zgy : ZS Z 4 (y2h Z) z4g z4h ze.fModules)
  (zgz : ZS Z 4 (y2x Z) z4i z4j ze.fChannels)
  (zgA : ZS Z 4 (fun r x=>r = e64 x) z4k z4l ze.fSwitches)
  (zgB : ZS Z 4 (fun r x=>r = e62 x) z4m z4n ze.fLinks)
  (zgC : ZS Z 7 (y2p Z) z4o z4p ze.fVLs)
  (zgD : ZS Z 5 (fun r x=>r = y2K x) z4q z4r ze.fHealth)
  (zgE : ZS Z 3 (y2y Z) z4s z4t ze.fCauses)
  (zgF : ZS Z 4 (fun r x=>r = y2L x) z4u z4v ze.fVersions)
  (zgG : ZS Z 1 (p55 Z) z4w z4x z1a)
  (zgH : ZS Z 3 (fun r x=>r = e53 x) z4y z4z zW) :
  Calls Try.prog 12 #[(.agg #[(.slice z4g ze.fModules.length z4h),(.slice z4i ze.fChannels.length z4j),(.slice z4k ze.fSwitches.length z4l),(.slice z4m ze.fLinks.length z4n),(.slice z4o ze.fVLs.length z4p),(.slice z4q ze.fHealth.length z4r),(.slice z4s ze.fCauses.length z4t),(.slice z4u ze.fVersions.length z4v)]),(.int .i64 zbS),(.slice z4w z1a.length z4x),(.slice z4y zW.length z4z)] w₀ fun e w'=>∃ zpo : Option Addr,∃ zpp : Nat,∃ zpq : Option Addr,∃ zpr : Nat,e = .returned (.tuple #[(.slice zpo r.1.length zpp),(.slice zpq r.2.1.length zpr),(.int .i64 r.2.2)]) ∧ True ∧ Hp [] w₀ w' [row (.slice zpo r.1.length zpp) 50 3 (r.1.flatMap e50),row (.slice zpq r.2.1.length zpr) 50 3 (r.2.1.flatMap e50)]:=by
 unfold yI at h
 refine Calls.yo (vs:=[(.agg #[(.slice z4g ze.fModules.length z4h),(.slice z4i ze.fChannels.length z4j),(.slice z4k ze.fSwitches.length z4l),(.slice z4m ze.fLinks.length z4n),(.slice z4o ze.fVLs.length z4p),(.slice z4q ze.fHealth.length z4r),(.slice z4s ze.fCauses.length z4t),(.slice z4u ze.fVersions.length z4v)]),(.int .i64 zbS),(.slice z4w z1a.length z4x),(.slice z4y zW.length z4z)]) (pre:=[]) (env:=[(0,(.agg #[(.slice z4g ze.fModules.length z4h),(.slice z4i ze.fChannels.length z4j),(.slice z4k ze.fSwitches.length z4l),(.slice z4m ze.fLinks.length z4n),(.slice z4o ze.fVLs.length z4p),(.slice z4q ze.fHealth.length z4r),(.slice z4s ze.fCauses.length z4t),(.slice z4u ze.fVersions.length z4v)])),(1,(.int .i64 zbS)),(2,(.slice z4w z1a.length z4x)),(3,(.slice z4y zW.length z4z))]) Try.func12 rfl Try.ntmps12 rfl (Hp.nil w₀ _) rfl ?_
 refine WC.b (WC.a ?_)
 refine WL.new (dd:=4) rfl rfl rfl (y25 (cs:=[(.slice z4g ze.fModules.length z4h),(.slice z4i ze.fChannels.length z4j),(.slice z4k ze.fSwitches.length z4l),(.slice z4m ze.fLinks.length z4n),(.slice z4o ze.fVLs.length z4p),(.slice z4q ze.fHealth.length z4r),(.slice z4s ze.fCauses.length z4t),(.slice z4u ze.fVersions.length z4v)]) rfl rfl) ?_
 intro zwp _
 refine WL.pu rfl (WL.pu rfl (WL.pu rfl (WL.nil (WX.a (WC.b (WC.block (WC.b ?_)))))))
 obtain ⟨zpk,zwq,h⟩:=z8 h
 refine WC.a ?_
 refine WL.a (d:=16) rfl rfl rfl (yu yK rfl (yJ .here) rfl) ?_
 refine WL.pu rfl (WL.pu rfl ?_)
 refine WL.b (dd:=19) rfl rfl rfl (zt (l:=[.tmp 16,.tmp 17,.tmp 18]) Try.call15 (.cons rfl (.cons rfl (.cons rfl .nil)))) .nil (cc hz .nil fun w pz ho=>y1n _ _ _ _ _ _ _ _ _ _ _ _ _ _ _ _ _ _ _ _ _ _ _ zwq w pz zgy zgz zgA zgB zgC zgD zgE zgF zgG) ?_
 refine WL.pu rfl (WL.pu rfl (WL.nil (WX.a ?_)))
 refine WC.cond rfl (fun zkr=>?_) (fun zkr=>?_)
 ·replace h:=yg h zkr
  refine WC.b (WC.a (WL.pu rfl (WL.pu rfl (WL.pu rfl (WL.nil (WX.a (WC.ret (WX.yG (WX.yn ?_)))))))))
  refine WX.nilRow 50 3 ?_
  refine WX.nilRow 50 3 ?_
  obtain rfl:=Option.some.inj h
  refine WX.yj Try.results12 (.tmp rfl (.tmp rfl (.tmp rfl .nil))) (fun w hw=>?_)
  exact ⟨none,0,none,0,ret3 rfl rfl rfl,trivial,hw.sub (.cons .h1 (.cons .here .nil))⟩
 ·replace h:=yh h zkr
  refine WC.b ?_
  obtain ⟨zpl,zwr,h⟩:=z8 h
  refine WC.a ?_
  refine WL.a (d:=22) rfl rfl rfl (yu yK rfl (yJ .here) rfl) ?_
  refine WL.pu rfl ?_
  refine WL.b (dd:=24) rfl rfl rfl (zt (l:=[.tmp 22,.tmp 23]) Try.call24 (.cons rfl (.cons rfl .nil))) .nil (cc hz .nil fun w pz ho=>y6x _ _ _ _ _ _ _ _ _ _ _ _ _ _ _ _ _ _ _ _ _ _ zwr w pz zgy zgz zgA zgB zgC zgD zgE zgF zgH) ?_
  refine WL.pu rfl (WL.pu rfl (WL.nil (WX.a ?_)))
  refine WC.cond rfl (fun zks=>?_) (fun zks=>?_)
  ·replace h:=yg h zks
   refine WC.b (WC.a (WL.pu rfl (WL.pu rfl (WL.pu rfl (WL.nil (WX.a (WC.ret (WX.yG (WX.yn ?_)))))))))
   refine WX.nilRow 50 3 ?_
   refine WX.nilRow 50 3 ?_
   obtain rfl:=Option.some.inj h
   refine WX.yj Try.results12 (.tmp rfl (.tmp rfl (.tmp rfl .nil))) (fun w hw=>?_)
   exact ⟨none,0,none,0,ret3 rfl rfl rfl,trivial,hw.sub (.cons .h1 (.cons .here .nil))⟩
  ·replace h:=yh h zks
   refine WC.skip (WX.yf (WX.a (WC.b (WC.a ?_))))
   refine WL.a (d:=26) rfl rfl rfl (yu yK rfl (yJ .here) rfl) ?_
   refine WL.pu rfl (WL.pu rfl ?_)
   refine WL.new (dd:=29) rfl rfl rfl (y7d (fun x=>Value.agg (y1I x).toArray) Value.pointer) ?_
   intro z4A _
   refine WL.ghL (M:=[y1m z13 ([] : List (Snetwork_exit × ((Nat × (Option Addr × Nat)) × Sport_Port))),y1e z4A (fun x=>Value.agg (y1I x).toArray) Value.pointer (y1o ([] : List (Snetwork_exit × ((Nat × (Option Addr × Nat)) × Sport_Port)))),stb zwp 31 [(.slice z4g ze.fModules.length z4h),(.slice z4i ze.fChannels.length z4j),(.slice z4k ze.fSwitches.length z4l),(.slice z4m ze.fLinks.length z4n),(.slice z4o ze.fVLs.length z4p),(.slice z4q ze.fHealth.length z4r),(.slice z4s ze.fCauses.length z4t),(.slice z4u ze.fVersions.length z4v)]]) (fun _ h=>Hp.y8c z13 h) ?_
   refine WL.a (d:=30) rfl rfl rfl (y1l (v:=(.agg #[(.slice z4g ze.fModules.length z4h),(.slice z4i ze.fChannels.length z4j),(.slice z4k ze.fSwitches.length z4l),(.slice z4m ze.fLinks.length z4n),(.slice z4o ze.fVLs.length z4p),(.slice z4q ze.fHealth.length z4r),(.slice z4s ze.fCauses.length z4t),(.slice z4u ze.fVersions.length z4v),(.slice z4w z1a.length z4x),(.slice z4y zW.length z4z),(.map (some z4A)),(.slice none 0 0),(.slice none 0 0),(.slice none 0 0)])) (Eos.parts (l:=[.tmp 26,.tmp 27,.tmp 28,.tmp 29]) (.cons rfl (.cons rfl (.cons rfl (.cons rfl .nil)))) [0,1,2,3]) (fun _=>by kernel_rfl)) ?_
   refine WL.new (dd:=31) rfl rfl rfl (y25 (cs:=[(.slice z4g ze.fModules.length z4h),(.slice z4i ze.fChannels.length z4j),(.slice z4k ze.fSwitches.length z4l),(.slice z4m ze.fLinks.length z4n),(.slice z4o ze.fVLs.length z4p),(.slice z4q ze.fHealth.length z4r),(.slice z4s ze.fCauses.length z4t),(.slice z4u ze.fVersions.length z4v),(.slice z4w z1a.length z4x),(.slice z4y zW.length z4z),(.map (some z4A)),(.slice none 0 0),(.slice none 0 0),(.slice none 0 0)]) rfl rfl) ?_
   intro z5L _
   refine WL.pu rfl (WL.nil (WX.a ?_))
   obtain ⟨z85,zws,h⟩:=yO h
   refine WC.y1U (fun (z5J : List Snetwork_event) (zbT : Option Addr) (zbU : Nat)=>(z85 z5J = some r)) (fun (z5J : List Snetwork_event) (zbT : Option Addr) (zbU : Nat)=>[(11,(.pointer (some ⟨z5L,0,none⟩)))]) (fun (z5J : List Snetwork_event) (zbT : Option Addr) (zbU : Nat)=>[stb z5L 81 [(.slice z4g ze.fModules.length z4h),(.slice z4i ze.fChannels.length z4j),(.slice z4k ze.fSwitches.length z4l),(.slice z4m ze.fLinks.length z4n),(.slice z4o ze.fVLs.length z4p),(.slice z4q ze.fHealth.length z4r),(.slice z4s ze.fCauses.length z4t),(.slice z4u ze.fVersions.length z4v),(.slice z4w z1a.length z4x),(.slice z4y zW.length z4z),(.map (some z4A)),(.slice zbT z5J.length zbU),(.slice none 0 0),(.slice none 0 0)],row (.slice zbT z5J.length zbU) 113 7 (z5J.flatMap yx),y1e z4A (fun x=>Value.agg (y1I x).toArray) Value.pointer (y1o ([] : List (Snetwork_exit × ((Nat × (Option Addr × Nat)) × Sport_Port)))),y1m z13 ([] : List (Snetwork_exit × ((Nat × (Option Addr × Nat)) × Sport_Port)))]) ?_ ?_
   ·skip
    refine WC.b (WC.a (WL.pu rfl ?_))
    refine WL.a (d:=33) rfl rfl rfl (yz Try.underlying33 rfl) ?_
    refine WL.pu rfl (WL.nil (WX.a (WC.block ?_)))
    refine WC.nilRow 113 7 ?_
    refine WC.y7t (fun (zbV : Nat) (z2k : Int) (z3F : List Snetwork_event) (z8O : Option Addr) (z8P : Nat)=>(y2O zW z1a ze z85 zbV z2k z3F = some r)) (fun (zbV : Nat) (z2k : Int) (z3F : List Snetwork_event) (z8O : Option Addr) (z8P : Nat)=>[(2,(.slice z4w z1a.length z4x)),(11,(.pointer (some ⟨z5L,0,none⟩))),(32,(.slice z4y zW.length z4z)),(33,(.int .i64 ((zW.length : Nat) : Int))),(34,(.int .i64 z2k))]) (fun (zbV : Nat) (z2k : Int) (z3F : List Snetwork_event) (z8O : Option Addr) (z8P : Nat)=>[stb z5L 81 [(.slice z4g ze.fModules.length z4h),(.slice z4i ze.fChannels.length z4j),(.slice z4k ze.fSwitches.length z4l),(.slice z4m ze.fLinks.length z4n),(.slice z4o ze.fVLs.length z4p),(.slice z4q ze.fHealth.length z4r),(.slice z4s ze.fCauses.length z4t),(.slice z4u ze.fVersions.length z4v),(.slice z4w z1a.length z4x),(.slice z4y zW.length z4z),(.map (some z4A)),(.slice z8O z3F.length z8P),(.slice none 0 0),(.slice none 0 0)],row (.slice z8O z3F.length z8P) 113 7 (z3F.flatMap yx),y1e z4A (fun x=>Value.agg (y1I x).toArray) Value.pointer (y1o ([] : List (Snetwork_exit × ((Nat × (Option Addr × Nat)) × Sport_Port)))),y1m z13 ([] : List (Snetwork_exit × ((Nat × (Option Addr × Nat)) × Sport_Port)))]) (fun (zbV : Nat) (z2k : Int) (z3F : List Snetwork_event) (z8O : Option Addr) (z8P : Nat)=>zbV) ⟨yP,0,([] : List Snetwork_event),none,0⟩ h (.cons rfl (.cons rfl (.cons rfl (.cons rfl (.cons rfl .nil))))) (.cons .h1 (.cons .here (.cons .h1 (.cons .here .nil)))) ?_
    rintro zbV z2k z3F z8O z8P h
    obtain ⟨zko,rfl⟩:=y5w h
    rw [y2O] at h
    refine WC.b (WC.a (WL.pu rfl (WL.nil (WX.a (WC.b ?_)))))
    refine WC.cond rfl (fun zkt=>?_) (fun zkt=>?_)
    ·replace h:=yg h zkt
     refine WC.skip (WX.a ?_)
     obtain ⟨zgx,zwt,h⟩:=yO h
     refine WC.y1U (fun (z5I : List Snetwork_event) (zbW : Option Addr) (zbX : Nat)=>(zgx z5I = some r)) (fun (z5I : List Snetwork_event) (zbW : Option Addr) (zbX : Nat)=>[(2,(.slice z4w z1a.length z4x)),(11,(.pointer (some ⟨z5L,0,none⟩))),(32,(.slice z4y zW.length z4z)),(33,(.int .i64 ((zW.length : Nat) : Int))),(34,(.int .i64 z2k))]) (fun (z5I : List Snetwork_event) (zbW : Option Addr) (zbX : Nat)=>[stb z5L 81 [(.slice z4g ze.fModules.length z4h),(.slice z4i ze.fChannels.length z4j),(.slice z4k ze.fSwitches.length z4l),(.slice z4m ze.fLinks.length z4n),(.slice z4o ze.fVLs.length z4p),(.slice z4q ze.fHealth.length z4r),(.slice z4s ze.fCauses.length z4t),(.slice z4u ze.fVersions.length z4v),(.slice z4w z1a.length z4x),(.slice z4y zW.length z4z),(.map (some z4A)),(.slice zbW z5I.length zbX),(.slice none 0 0),(.slice none 0 0)],row (.slice zbW z5I.length zbX) 113 7 (z5I.flatMap yx),y1e z4A (fun x=>Value.agg (y1I x).toArray) Value.pointer (y1o ([] : List (Snetwork_exit × ((Nat × (Option Addr × Nat)) × Sport_Port)))),y1m z13 ([] : List (Snetwork_exit × ((Nat × (Option Addr × Nat)) × Sport_Port)))]) ?_ ?_
     ·skip
      refine WC.block (WC.b ?_)
      obtain ⟨zwu,h⟩:=ye h
      refine WC.a (WL.pu rfl ?_)
      refine WL.znth (dd:=37) rfl rfl (Z:=Z) (Pr:=(fun r x=>r = e53 x)) y2u rfl rfl zgH zwu ?_
      rintro zDd zDe zwv zDf rfl
      refine WL.a (d:=38) rfl rfl rfl (yu y6X rfl (y3H hz.pv zwv) rfl) ?_
      refine WL.new (dd:=13) rfl rfl rfl (y2m (cs:=[(.int .i64 0),(.int .i64 0),(.int .i64 0)]) y6u rfl) ?_
      intro zDg _
      refine WL.pu rfl ?_
      refine WL.y10 rfl rfl (y1W y6Y rfl rfl rfl .here rfl rfl rfl) ?_
      refine WL.nil (WX.a (WC.b ?_))
      obtain ⟨zww,h⟩:=ye h
      refine WC.a (WL.pu rfl ?_)
      refine WL.a (d:=40) rfl rfl rfl (ya y4M rfl rfl) ?_
      refine WL.a (d:=41) rfl rfl rfl (yb yl rfl (yd .here rfl)) ?_
      refine WL.znth (dd:=42) rfl rfl (Z:=Z) (Pr:=(p55 Z)) y2i rfl rfl zgG zww ?_
      rintro zDh zDi zwx zDj ⟨zDk,zDl,rfl,zwy⟩
      refine WL.a (d:=43) rfl rfl rfl (yb y5k rfl (rd_z hz.pv zwx rfl)) ?_
      refine WL.pu rfl (WL.nil (WX.a (WC.b (WC.a (WL.pu rfl ?_)))))
      refine WL.a (d:=45) rfl rfl rfl (yz Try.underlying55 rfl) ?_
      refine WL.pu rfl (WL.nil (WX.a ?_))
      refine WC.cond rfl (fun zku=>?_) (fun zku=>?_)
      ·replace h:=yg h zku
       obtain ⟨zwz,h⟩:=ye h
       obtain ⟨zkp,zwA,h⟩:=z8 h
       refine WC.yV (fun i=>[8].contains i) [] rfl ?_
       refine WD.a (i:=0) (d:=47) (by kernel_rfl) rfl z2 z3 rfl rfl rfl (fun _=>q_m rfl) ?_
       refine WD.a (i:=1) (d:=48) (by kernel_rfl) rfl z2 z3 rfl rfl rfl (fun _=>q_m rfl) ?_
       refine WD.znth (j:=2) (dd:=49) (by kernel_rfl) rfl z2 z3 rfl rfl (Z:=Z) (Pr:=(fun r x=>r = e59 x)) y2W rfl rfl zwy zwz ?_
       rintro zDm zDn zwB zDo rfl
       refine WD.a (i:=3) (d:=50) (by kernel_rfl) rfl z2 z3 rfl rfl rfl (fun _=>ya y2F rfl rfl) ?_
       refine WD.e (i:=4) (d:=51) (by kernel_rfl) rfl z2 z3 rfl rfl rfl (yb yl rfl (y22 hz.pv zwB rfl)) ?_
       refine WD.a (i:=5) (d:=52) (by kernel_rfl) rfl z2 z3 rfl rfl rfl (fun _=>ya y3X rfl rfl) ?_
       refine WD.e (i:=6) (d:=53) (by kernel_rfl) rfl z2 z3 rfl rfl rfl (yb yl rfl (yd .here rfl)) ?_
       refine WD.a (i:=7) (d:=54) (by kernel_rfl) rfl z2 z3 rfl rfl rfl (fun _=>q_m rfl) ?_
       refine WD.call2 (i:=8) (dd:=55) rfl (by kernel_rfl) rfl rfl rfl (.inl ⟨rfl,fun _ _=>(Sin.of .nil)⟩) (zt (l:=[.tmp 47,.tmp 51,.tmp 53,.const (.int .i64 (-1)),.tmp 54]) Try.call25 (.cons rfl (.cons rfl (.cons rfl (.cons rfl (.cons rfl .nil)))))) (.cons .h1 (.cons .h2 (.cons .h2 (.cons .h1 .nil)))) (cc hz (.cons .h1 (.cons .h2 (.cons .h2 (.cons .h1 .nil)))) fun w pz ho=>y4q _ _ _ _ _ _ _ _ _ _ _ _ _ _ _ _ _ _ _ _ _ _ _ _ _ _ _ _ _ _ _ _ _ _ _ _ _ _ _ _ _ _ zwA w pz zgy zgz zgA zgB zgC zgD zgE zgF zgG zgH rfl (ZS.nil _ _ _) (ZS.nil _ _ _) ho) ?_
       rintro zwC zwD _
       refine WD.done (by kernel_rfl) ?_
       refine WX.yf ?_
       exact WX.mid (G:=List Snetwork_event × Option Addr × Nat) ⟨zkp,zwC,zwD⟩ h (.cons rfl (.cons rfl (.cons rfl (.cons rfl (.cons rfl .nil))))) (.cons .here (.cons .here (.cons .here (.cons .here .nil))))
      ·replace h:=yh h zku
       refine WC.skip (WX.yf ?_)
       exact WX.mid (G:=List Snetwork_event × Option Addr × Nat) ⟨z3F,z8O,z8P⟩ h (.cons rfl (.cons rfl (.cons rfl (.cons rfl (.cons rfl .nil))))) (.cons .h1 (.cons .h1 (.cons .h1 (.cons .h1 .nil))))
     ·rintro z5I zbW zbX h
      replace h:=(zwt z5I).symm.trans h
      refine WC.a (WL.pu rfl (WL.pu rfl (WL.nil ?_)))
      exact WX.round (G:=Nat × Int × List Snetwork_event × Option Addr × Nat) ⟨zko,(i64 (z2k + 1)),z5I,zbW,zbX⟩ h (Nat.lt_succ_self _) (.cons rfl (.cons rfl (.cons rfl (.cons rfl (.cons rfl .nil))))) (.cons .here (.cons .here (.cons .here (.cons .here .nil))))
    ·replace h:=yh h zkt
     refine WC.exit (WX.yk (WX.yk (WX.yC ?_)))
     exact WX.mid (G:=List Snetwork_event × Option Addr × Nat) ⟨z3F,z8O,z8P⟩ h (.cons rfl .nil) (.cons .here (.cons .here (.cons .here (.cons .here .nil))))
   ·rintro z5J zbT zbU h
    replace h:=(zws z5J).symm.trans h
    obtain ⟨z86,zwE,h⟩:=jp4_elim h
    refine WC.y7M (fun (z88 : List Snetwork_event) (z76 : List Sapi_Come) (z5K : List Sapi_Come) (za1 : List (Snetwork_exit × Sport_Port)) (zeD : Option Addr) (zeE : Nat) (zbY : Option Addr) (zbZ : Nat) (za2 : Option Addr) (za3 : Nat) (zc0 : List (Snetwork_exit × ((Nat × (Option Addr × Nat)) × Sport_Port)))=>(z86 z88 z76 z5K za1 = some r) ∧ (dat zc0 = za1)) (fun (z88 : List Snetwork_event) (z76 : List Sapi_Come) (z5K : List Sapi_Come) (za1 : List (Snetwork_exit × Sport_Port)) (zeD : Option Addr) (zeE : Nat) (zbY : Option Addr) (zbZ : Nat) (za2 : Option Addr) (za3 : Nat) (zc0 : List (Snetwork_exit × ((Nat × (Option Addr × Nat)) × Sport_Port)))=>[(11,(.pointer (some ⟨z5L,0,none⟩)))]) (fun (z88 : List Snetwork_event) (z76 : List Sapi_Come) (z5K : List Sapi_Come) (za1 : List (Snetwork_exit × Sport_Port)) (zeD : Option Addr) (zeE : Nat) (zbY : Option Addr) (zbZ : Nat) (za2 : Option Addr) (za3 : Nat) (zc0 : List (Snetwork_exit × ((Nat × (Option Addr × Nat)) × Sport_Port)))=>[stb z5L 81 [(.slice z4g ze.fModules.length z4h),(.slice z4i ze.fChannels.length z4j),(.slice z4k ze.fSwitches.length z4l),(.slice z4m ze.fLinks.length z4n),(.slice z4o ze.fVLs.length z4p),(.slice z4q ze.fHealth.length z4r),(.slice z4s ze.fCauses.length z4t),(.slice z4u ze.fVersions.length z4v),(.slice z4w z1a.length z4x),(.slice z4y zW.length z4z),(.map (some z4A)),(.slice zeD z88.length zeE),(.slice zbY z76.length zbZ),(.slice za2 z5K.length za3)],row (.slice zeD z88.length zeE) 113 7 (z88.flatMap yx),row (.slice zbY z76.length zbZ) 50 3 (z76.flatMap e50),row (.slice za2 z5K.length za3) 50 3 (z5K.flatMap e50),y1e z4A (fun x=>Value.agg (y1I x).toArray) Value.pointer (y1o zc0),y1m z13 zc0]) ?_ ?_
    ·skip
     refine WC.block ?_
     refine WC.nilRow 50 3 ?_
     refine WC.nilRow 50 3 ?_
     refine WC.y8k (fun (zc1 : Nat) (z3Q : List Snetwork_event) (z43 : List Sapi_Come) (z44 : List Sapi_Come) (z5d : List (Snetwork_exit × Sport_Port)) (za4 : Option Addr) (za5 : Nat) (za6 : Option Addr) (za7 : Nat) (za8 : Option Addr) (za9 : Nat) (z8Q : List (Snetwork_exit × ((Nat × (Option Addr × Nat)) × Sport_Port)))=>(y2P ze z1a zW z86 zc1 z3Q z43 z44 z5d = some r) ∧ (dat z8Q = z5d)) (fun (zc1 : Nat) (z3Q : List Snetwork_event) (z43 : List Sapi_Come) (z44 : List Sapi_Come) (z5d : List (Snetwork_exit × Sport_Port)) (za4 : Option Addr) (za5 : Nat) (za6 : Option Addr) (za7 : Nat) (za8 : Option Addr) (za9 : Nat) (z8Q : List (Snetwork_exit × ((Nat × (Option Addr × Nat)) × Sport_Port)))=>[(11,(.pointer (some ⟨z5L,0,none⟩)))]) (fun (zc1 : Nat) (z3Q : List Snetwork_event) (z43 : List Sapi_Come) (z44 : List Sapi_Come) (z5d : List (Snetwork_exit × Sport_Port)) (za4 : Option Addr) (za5 : Nat) (za6 : Option Addr) (za7 : Nat) (za8 : Option Addr) (za9 : Nat) (z8Q : List (Snetwork_exit × ((Nat × (Option Addr × Nat)) × Sport_Port)))=>[stb z5L 81 [(.slice z4g ze.fModules.length z4h),(.slice z4i ze.fChannels.length z4j),(.slice z4k ze.fSwitches.length z4l),(.slice z4m ze.fLinks.length z4n),(.slice z4o ze.fVLs.length z4p),(.slice z4q ze.fHealth.length z4r),(.slice z4s ze.fCauses.length z4t),(.slice z4u ze.fVersions.length z4v),(.slice z4w z1a.length z4x),(.slice z4y zW.length z4z),(.map (some z4A)),(.slice za4 z3Q.length za5),(.slice za6 z43.length za7),(.slice za8 z44.length za9)],row (.slice za4 z3Q.length za5) 113 7 (z3Q.flatMap yx),row (.slice za6 z43.length za7) 50 3 (z43.flatMap e50),row (.slice za8 z44.length za9) 50 3 (z44.flatMap e50),y1e z4A (fun x=>Value.agg (y1I x).toArray) Value.pointer (y1o z8Q),y1m z13 z8Q]) (fun (zc1 : Nat) (z3Q : List Snetwork_event) (z43 : List Sapi_Come) (z44 : List Sapi_Come) (z5d : List (Snetwork_exit × Sport_Port)) (za4 : Option Addr) (za5 : Nat) (za6 : Option Addr) (za7 : Nat) (za8 : Option Addr) (za9 : Nat) (z8Q : List (Snetwork_exit × ((Nat × (Option Addr × Nat)) × Sport_Port)))=>zc1) ⟨yP,z5J,([] : List Sapi_Come),([] : List Sapi_Come),([] : List (Snetwork_exit × Sport_Port)),zbT,zbU,none,0,none,0,([] : List (Snetwork_exit × ((Nat × (Option Addr × Nat)) × Sport_Port)))⟩ ⟨h,rfl⟩ (.cons rfl .nil) (.cons .h2 (.cons .h2 (.cons .h1 (.cons .here (.cons .here (.cons .here .nil)))))) ?_
     rintro zc1 z3Q z43 z44 z5d za4 za5 za6 za7 za8 za9 z8Q ⟨h,zps⟩
     obtain ⟨zkq,rfl⟩:=y5x h
     rw [y2P] at h
     refine WC.b (WC.b (WC.a (WL.pu rfl ?_)))
     refine WL.a (d:=58) rfl rfl rfl (yv rfl) ?_
     refine WL.a (d:=59) rfl rfl rfl (ya y70 rfl rfl) ?_
     refine WL.a (d:=60) rfl rfl rfl (yb y4N rfl (yd .here rfl)) ?_
     refine WL.a (d:=61) rfl rfl rfl (yz Try.underlying79 rfl) ?_
     refine WL.pu rfl (WL.nil (WX.a ?_))
     refine WC.cond rfl (fun zkv=>?_) (fun zkv=>?_)
     ·replace h:=yg h zkv
      refine WC.skip (WX.a (WC.block ?_))
      obtain ⟨z87,zwF,h⟩:=z8 h
      refine WC.a (WL.pu rfl ?_)
      refine WL.y8j (dd:=64) rfl rfl rfl (zt (l:=[.tmp 63]) Try.call26 (.cons rfl .nil)) (.cons .here (.cons .h3 (.cons .h3 (.cons .here (.cons .here (.cons .here .nil)))))) (cc hz (.cons .here (.cons .h3 (.cons .h3 (.cons .here (.cons .here (.cons .here .nil)))))) fun w pz ho=>y6b _ _ _ _ _ _ _ _ _ _ _ _ _ _ _ _ _ _ _ _ _ _ _ _ _ _ _ _ _ _ _ _ _ _ _ _ _ _ zwF w pz zgy zgz zgA zgB zgC zgD zgE zgF zgG zgH zps ho) ?_
      rintro zwG zwH zwI zwJ zwK zwL zwM zwN
      refine WL.nil (WX.yf ?_)
      exact WX.round (G:=Nat × List Snetwork_event × List Sapi_Come × List Sapi_Come × (List (Snetwork_exit × Sport_Port)) × Option Addr × Nat × Option Addr × Nat × Option Addr × Nat × (List (Snetwork_exit × ((Nat × (Option Addr × Nat)) × Sport_Port)))) ⟨zkq,z87.1,z87.2.1,z87.2.2.1,z87.2.2.2,zwG,zwH,zwI,zwJ,zwK,zwL,zwM⟩ ⟨h,zwN⟩ (Nat.lt_succ_self _) (.cons rfl .nil) (.cons .here (.cons .here (.cons .here (.cons .here (.cons .here (.cons .here .nil))))))
     ·replace h:=yh h zkv
      refine WC.exit (WX.yk (WX.yk (WX.yC ?_)))
      exact WX.mid (G:=List Snetwork_event × List Sapi_Come × List Sapi_Come × (List (Snetwork_exit × Sport_Port)) × Option Addr × Nat × Option Addr × Nat × Option Addr × Nat × (List (Snetwork_exit × ((Nat × (Option Addr × Nat)) × Sport_Port)))) ⟨z3Q,z43,z44,z5d,za4,za5,za6,za7,za8,za9,z8Q⟩ ⟨h,zps⟩ (.cons rfl .nil) (.cons .here (.cons .here (.cons .here (.cons .here (.cons .here (.cons .here .nil))))))
    ·rintro z88 z76 z5K za1 zeD zeE zbY zbZ za2 za3 zc0 ⟨h,zDp⟩
     replace h:=(zwE z88 z76 z5K za1).symm.trans h
     refine WC.b ?_
     obtain ⟨zpm,zwO,h⟩:=z8 h
     obtain ⟨zpn,zwP,h⟩:=z8 h
     refine WC.yV (fun i=>[4,9].contains i) [stbp z5L 81 [(13,(.slice za2 z5K.length za3))]] rfl ?_
     refine WD.a (i:=0) (d:=65) (by kernel_rfl) rfl z2 z3 rfl rfl rfl (fun _=>q_m rfl) ?_
     refine WD.a (i:=1) (d:=66) (by kernel_rfl) rfl z2 z3 rfl rfl rfl (fun _=>yv rfl) ?_
     refine WD.a (i:=2) (d:=67) (by kernel_rfl) rfl z2 z3 rfl rfl rfl (fun _=>ya y74 rfl rfl) ?_
     refine WD.e (i:=3) (d:=68) (by kernel_rfl) rfl z2 z3 rfl rfl rfl (yb y6i rfl (yd .here rfl)) ?_
     refine WD.a (i:=5) (d:=70) (by kernel_rfl) rfl z2 z3 rfl rfl rfl (fun _=>q_m rfl) ?_
     refine WD.a (i:=6) (d:=71) (by kernel_rfl) rfl z2 z3 rfl rfl rfl (fun _=>yv rfl) ?_
     refine WD.a (i:=7) (d:=72) (by kernel_rfl) rfl z2 z3 rfl rfl rfl (fun _=>ya y73 rfl rfl) ?_
     refine WD.stable (i:=8) (d:=73) (by kernel_rfl) rfl z2 z3 rfl rfl rfl (Sin.wk (.cons .here .nil) (.stb (.cons rfl .nil) .nil)) (yb y6i rfl (y6g .here (.head _))) ?_
     refine WD.call0 (i:=4) (dd:=69) rfl (by kernel_rfl) rfl rfl rfl (.inl ⟨rfl,(Sin.wk (.cons .h1 .nil) (.stb (.cons rfl .nil) .nil))⟩) (zt (l:=[.tmp 68]) Try.call27 (.cons rfl .nil)) (.cons .h2 .nil) (cc hz (.cons .h2 .nil) fun w pz ho=>y4X _ _ _ _ _ zwO w pz  ho) ?_
     rintro  zDq
     refine WD.call0 (i:=9) (dd:=74) rfl (by kernel_rfl) rfl rfl rfl (.inl ⟨rfl,(Sin.wk (.cons .h2 .nil) (.stb (.cons rfl .nil) .nil))⟩) (zt (l:=[.tmp 73]) Try.call27 (.cons rfl .nil)) (.cons .h3 .nil) (cc hz (.cons .h3 .nil) fun w pz ho=>y4X _ _ _ _ _ zwP w pz  ho) ?_
     rintro  zDr
     refine WD.a (i:=10) (d:=8) (by kernel_rfl) rfl z2 z3 rfl rfl rfl (fun _=>q_z rfl) ?_
     refine WD.a (i:=11) (d:=9) (by kernel_rfl) rfl z2 z3 rfl rfl rfl (fun _=>q_z rfl) ?_
     refine WD.a (i:=12) (d:=10) (by kernel_rfl) rfl z2 z3 rfl rfl rfl (fun _=>q_z rfl) ?_
     refine WD.done (by kernel_rfl) ?_
     refine WX.a (WC.ret ?_)
     obtain rfl:=Option.some.inj h
     refine WX.yj Try.results12 (.tmp rfl (.tmp rfl (.tmp rfl .nil))) (fun w hw=>?_)
     exact ⟨zbY,zbZ,za2,za3,ret3 rfl rfl rfl,trivial,hw.sub (.cons .h1 (.cons .here .nil))⟩
def y32 (z29 : List Sapi_Come) (z2p : List Sapi_Come) (z89 : Option Bool) : Nat → Int → Option Bool
 | 0,_=>none
 | zkw + 1,z1t=>if decide (z1t < ((z29.length : Nat) : Int)) then chk ((0 : Int) ≤ z1t ∧ z1t < ((z29.length : Nat) : Int)) (chk ((0 : Int) ≤ z1t ∧ z1t < ((z2p.length : Nat) : Int)) (if decide ((⟨((nth z29 z1t).fSent),((nth z29 z1t).fNode),((nth z29 z1t).fTime)⟩ : Sapi_Come) ≠ (⟨((nth z2p z1t).fSent),((nth z2p z1t).fNode),((nth z2p z1t).fTime)⟩ : Sapi_Come)) then some false else y32 z29 z2p z89 zkw (i64 (z1t + 1)))) else z89
theorem y5P {n : Nat} {z29 : List Sapi_Come} {z2p : List Sapi_Come} {z89 : Option Bool} {z1t : Int} {r : Bool} (h : y32 z29 z2p z89 n z1t = some r) : ∃ m,n = m + 1:=by
 cases n with
 | zero=>cases h
 | succ m=>exact ⟨m,rfl⟩
def y4n (z29 : List Sapi_Come) (z2p : List Sapi_Come) : Option Bool :=
 if decide (((z29.length : Nat) : Int) ≠ ((z2p.length : Nat) : Int)) then some false else jp0 (some true) fun z89=>y32 z29 z2p z89 yP 0
set_option maxRecDepth 20000 in
theorem y6d (Z : Zp) (zeF : Option Addr) (zeG : Nat) (zeH : Option Addr) (zeI : Nat) (z29 : List Sapi_Come) (z2p : List Sapi_Come) (r : Bool)
  (h : y4n z29 z2p = some r) (w₀ : World) (hz : PZ [] w₀ Z)
  (zwQ : ZS Z 3 (fun r x=>r = e50 x) zeF zeG z29)
  (zwR : ZS Z 3 (fun r x=>r = e50 x) zeH zeI z2p) :
  Calls Try.prog 14 #[(.slice zeF z29.length zeG),(.slice zeH z2p.length zeI)] w₀ fun e w'=>e = .returned (.bool r) ∧ Hp [] w₀ w' []:=by
 unfold y4n at h
 refine Calls.yo (vs:=[(.slice zeF z29.length zeG),(.slice zeH z2p.length zeI)]) (pre:=[]) (env:=[(0,(.slice zeF z29.length zeG)),(1,(.slice zeH z2p.length zeI))]) Try.func14 rfl Try.ntmps14 rfl (Hp.nil w₀ _) rfl ?_
 refine WC.b (WC.a (WL.pu rfl (WL.nil (WX.a (WC.b (WC.b (WC.a (WL.pu rfl ?_))))))))
 refine WL.a (d:=7) rfl rfl rfl (yz Try.underlying36 rfl) ?_
 refine WL.pu rfl ?_
 refine WL.a (d:=9) rfl rfl rfl (yz Try.underlying36 rfl) ?_
 refine WL.pu rfl (WL.nil (WX.a ?_))
 refine WC.cond rfl (fun zkx=>?_) (fun zkx=>?_)
 ·replace h:=yg h zkx
  refine WC.b (WC.a (WL.pu rfl (WL.nil (WX.a (WC.ret (WX.yn ?_))))))
  obtain rfl:=Option.some.inj h
  refine WX.yj Try.results14 (.tmp rfl .nil) (fun w hw=>?_)
  exact ⟨yL rfl,hw.sub .nil⟩
 ·replace h:=yh h zkx
  refine WC.skip (WX.a ?_)
  obtain ⟨z89,zwS,h⟩:=y2r h
  refine WC.y2b ((z89 = some r)) ([]) ([]) ?_ ?_
  ·skip
   refine WC.b (WC.a (WL.pu rfl ?_))
   refine WL.a (d:=12) rfl rfl rfl (yz Try.underlying36 rfl) ?_
   refine WL.pu rfl (WL.nil (WX.a (WC.block ?_)))
   refine WC.y3N (fun (zc2 : Nat) (z1t : Int)=>(y32 z29 z2p z89 zc2 z1t = some r)) (fun (zc2 : Nat) (z1t : Int)=>[(0,(.slice zeF z29.length zeG)),(1,(.slice zeH z2p.length zeI)),(12,(.int .i64 ((z29.length : Nat) : Int))),(13,(.int .i64 z1t))]) (fun (zc2 : Nat) (z1t : Int)=>[]) (fun (zc2 : Nat) (z1t : Int)=>zc2) ⟨yP,0⟩ h (.cons rfl (.cons rfl (.cons rfl (.cons rfl .nil)))) .nil ?_
   rintro zc2 z1t h
   obtain ⟨zkw,rfl⟩:=y5P h
   rw [y32] at h
   refine WC.b (WC.a (WL.pu rfl (WL.nil (WX.a (WC.b ?_)))))
   refine WC.cond rfl (fun zky=>?_) (fun zky=>?_)
   ·replace h:=yg h zky
    refine WC.skip (WX.a (WC.b (WC.block (WC.b (WC.a (WL.pu rfl (WL.pu rfl (WL.nil (WX.a (WC.b ?_))))))))))
    obtain ⟨zwT,h⟩:=ye h
    obtain ⟨zwU,h⟩:=ye h
    refine WC.yV (fun i=>[].contains i) [] rfl ?_
    refine WD.a (i:=0) (d:=16) (by kernel_rfl) rfl z2 z3 rfl rfl rfl (fun _=>q_m rfl) ?_
    refine WD.a (i:=1) (d:=17) (by kernel_rfl) rfl z2 z3 rfl rfl rfl (fun _=>q_m rfl) ?_
    refine WD.znth (j:=2) (dd:=18) (by kernel_rfl) rfl z2 z3 rfl rfl (Z:=Z) (Pr:=(fun r x=>r = e50 x)) y19 rfl rfl zwQ zwT ?_
    rintro zDs zDt zwV zDu rfl
    refine WD.e (i:=3) (d:=19) (by kernel_rfl) rfl z2 z3 rfl rfl rfl (yu y1Z rfl (y3H hz.pv zwV) rfl) ?_
    refine WD.a (i:=4) (d:=20) (by kernel_rfl) rfl z2 z3 rfl rfl rfl (fun _=>q_m rfl) ?_
    refine WD.a (i:=5) (d:=21) (by kernel_rfl) rfl z2 z3 rfl rfl rfl (fun _=>q_m rfl) ?_
    refine WD.znth (j:=6) (dd:=22) (by kernel_rfl) rfl z2 z3 rfl rfl (Z:=Z) (Pr:=(fun r x=>r = e50 x)) y19 rfl rfl zwR zwU ?_
    rintro zDv zDw zwW zDx rfl
    refine WD.e (i:=7) (d:=23) (by kernel_rfl) rfl z2 z3 rfl rfl rfl (yu y1Z rfl (y3H hz.pv zwW) rfl) ?_
    refine WD.a (i:=8) (d:=24) (by kernel_rfl) rfl z2 z3 rfl rfl rfl (fun _=>q_aggneq (enc:=e50) (a:=(⟨((nth z29 z1t).fSent),((nth z29 z1t).fNode),((nth z29 z1t).fTime)⟩ : Sapi_Come)) (b:=(⟨((nth z2p z1t).fSent),((nth z2p z1t).fNode),((nth z2p z1t).fTime)⟩ : Sapi_Come)) eqT_50 rfl rfl) ?_
    refine WD.done (by kernel_rfl) ?_
    refine WX.a ?_
    refine WC.cond rfl (fun zkz=>?_) (fun zkz=>?_)
    ·replace h:=yg h zkz
     refine WC.b (WC.a (WL.pu rfl (WL.nil (WX.a (WC.ret (WX.yG (WX.yn (WX.yn (WX.yG (WX.yn ?_))))))))))
     obtain rfl:=Option.some.inj h
     refine WX.yj Try.results14 (.tmp rfl .nil) (fun w hw=>?_)
     exact ⟨yL rfl,hw.sub .nil⟩
    ·replace h:=yh h zkz
     refine WC.skip (WX.yf (WX.a (WC.a (WL.pu rfl (WL.pu rfl (WL.nil ?_))))))
     exact WX.round (G:=Nat × Int) ⟨zkw,(i64 (z1t + 1))⟩ h (Nat.lt_succ_self _) (.cons rfl (.cons rfl (.cons rfl (.cons rfl .nil)))) .nil
   ·replace h:=yh h zky
    refine WC.exit (WX.yk (WX.yk (WX.yC ?_)))
    exact WX.mid (G:=Unit) () h .nil .nil
  ·rintro  h
   replace h:=zwS.symm.trans h
   refine WC.b (WC.a (WL.pu rfl (WL.nil (WX.a (WC.ret ?_)))))
   obtain rfl:=Option.some.inj h
   refine WX.yj Try.results14 (.tmp rfl .nil) (fun w hw=>?_)
   exact ⟨yL rfl,hw.sub .nil⟩
def y2Q (z8a : Option Bool) : Nat → Int → Option Bool
 | 0,_=>none
 | zkA + 1,z2q=>if decide (z2q < ((([1000,50,30] : List Int).length : Nat) : Int)) then chk ((0 : Int) ≤ z2q ∧ z2q < ((([1000,50,30] : List Int).length : Nat) : Int)) ((y4h (nth ([1000,50,30] : List Int) z2q)).bind fun z1c=>(yI z1c.1 0 z1c.2 ([(⟨0,0,40⟩ : zSt),(⟨10,0,40⟩ : zSt)] : List zSt)).bind fun z3b=>jp2 (fun (z5M : List Sapi_Come) (z5N : List Sapi_Come)=>jp2 (fun (z77 : List Sapi_Come) (z78 : List Sapi_Come)=>(if decide (z3b.2.2 ≠ 0) then some true else (y4n z3b.1 z77).bind fun zpt=>some (!zpt)).bind fun zkB=>(if zkB then some true else (y4n z3b.2.1 z78).bind fun zpu=>some (!zpu)).bind fun zkC=>(if zkC then some true else (y2f z1c.1).bind fun zpv=>some (decide (zpv ≠ 3))).bind fun zkD=>(if zkD then some true else (y2G z1c.1 2).bind fun zpw=>some (decide (zpw ≠ ⟨#[115]⟩))).bind fun zkE=>if zkE then some false else y2Q z8a zkA (i64 (z2q + 1))) fun zgI=>if decide ((nth ([1000,50,30] : List Int) z2q) = 30) then zgI ([] : List Sapi_Come) ([(⟨0,2,40⟩ : Sapi_Come),(⟨1,2,80⟩ : Sapi_Come)] : List Sapi_Come) else zgI z5M z5N) fun zgJ=>if decide ((nth ([1000,50,30] : List Int) z2q) = 50) then chk ((0 : Int) ≤ 1 ∧ 1 ≤ ((([(⟨0,1,96⟩ : Sapi_Come),(⟨1,1,136⟩ : Sapi_Come)] : List Sapi_Come).length : Nat) : Int)) (zgJ (([(⟨0,1,96⟩ : Sapi_Come),(⟨1,1,136⟩ : Sapi_Come)] : List Sapi_Come).take (1 : Int).toNat) ([(⟨1,2,80⟩ : Sapi_Come)] : List Sapi_Come)) else zgJ ([(⟨0,1,96⟩ : Sapi_Come),(⟨1,1,136⟩ : Sapi_Come)] : List Sapi_Come) ([] : List Sapi_Come)) else z8a
theorem y5y {n : Nat} {z8a : Option Bool} {z2q : Int} {r : Bool} (h : y2Q z8a n z2q = some r) : ∃ m,n = m + 1:=by
 cases n with
 | zero=>cases h
 | succ m=>exact ⟨m,rfl⟩
def y14  : Option Bool :=
 jp0 (some true) fun z8a=>y2Q z8a yP 0
set_option maxRecDepth 20000 in
theorem y1x (Z : Zp)  (r : Bool)
  (h : y14 = some r) (w₀ : World) (hz : PZ [] w₀ Z) :
  Calls Try.prog 11 #[] w₀ fun e w'=>∃ Zn : Zp,e = .returned (.bool r) ∧ True ∧ Hp [] w₀ w' [fz Zn]:=by
 unfold y14 at h
 refine Calls.yo (vs:=[]) (pre:=[]) (env:=[]) Try.func11 rfl Try.ntmps11 rfl (Hp.nil w₀ _) rfl ?_
 refine WC.pool (WC.b (WC.a (WL.pu rfl (WL.nil (WX.a (WC.b (WC.a ?_)))))))
 refine WL.a (d:=11) rfl rfl rfl (y1l (v:=(.agg #[(.int .i64 0),(.int .i64 0),(.int .i64 40)])) (Eos.parts (l:=[.const (.int .i64 0),.const (.int .i64 40)]) (.cons rfl (.cons rfl .nil)) [0,2]) (fun _=>by kernel_rfl)) ?_
 refine WL.a (d:=12) rfl rfl rfl (y1l (v:=(.agg #[(.int .i64 10),(.int .i64 0),(.int .i64 40)])) (Eos.parts (l:=[.const (.int .i64 10),.const (.int .i64 40)]) (.cons rfl (.cons rfl .nil)) [0,2]) (fun _=>by kernel_rfl)) ?_
 refine WL.new (dd:=13) rfl rfl rfl (yF (cs:=([(⟨0,0,40⟩ : zSt),(⟨10,0,40⟩ : zSt)] : List zSt).flatMap e53) y2u (Eos.parts (l:=[.tmp 11,.tmp 12]) (.cons rfl (.cons rfl .nil)) [0,1]) (fun _=>by kernel_rfl) rfl (by unfold maxLen; omega)) ?_
 intro zc3 _
 refine WL.pu rfl (WL.nil (WX.a ?_))
 obtain ⟨z8a,zwX,h⟩:=y2r h
 refine WC.y1Q (fun (zc4 : Zp)=>(z8a = some r) ∧ (Zle (Z ++ []) (Z ++ zc4))) (fun (zc4 : Zp)=>[]) (fun (zc4 : Zp)=>[fz zc4]) ?_ ?_
 ·skip
  refine WC.b (WC.a ?_)
  refine WL.new (dd:=14) rfl rfl rfl (yF (cs:=([1000,50,30] : List Int).flatMap e3) y68 (Eos.parts (l:=[.const (.int .i64 1000),.const (.int .i64 50),.const (.int .i64 30)]) (.cons rfl (.cons rfl (.cons rfl .nil))) [0,1,2]) (fun _=>by kernel_rfl) rfl (by unfold maxLen; omega)) ?_
  intro zc5 _
  refine WL.a (d:=15) rfl rfl rfl (yz Try.underlying56 rfl) ?_
  refine WL.pu rfl (WL.nil (WX.a (WC.block ?_)))
  refine WC.y2c (fun (zc6 : Nat) (z2q : Int) (z5O : Zp)=>(y2Q z8a zc6 z2q = some r) ∧ (Zle (Z ++ []) (Z ++ z5O))) (fun (zc6 : Nat) (z2q : Int) (z5O : Zp)=>[(1,(.slice (some ⟨zc3,0,none⟩) (([(⟨0,0,40⟩ : zSt),(⟨10,0,40⟩ : zSt)] : List zSt).length) 2)),(14,(.slice (some ⟨zc5,0,none⟩) (([1000,50,30] : List Int).length) 3)),(15,(.int .i64 ((([1000,50,30] : List Int).length : Nat) : Int))),(16,(.int .i64 z2q))]) (fun (zc6 : Nat) (z2q : Int) (z5O : Zp)=>[fz z5O,row (.slice (some ⟨zc3,0,none⟩) (([(⟨0,0,40⟩ : zSt),(⟨10,0,40⟩ : zSt)] : List zSt).length) 2) 53 3 (([(⟨0,0,40⟩ : zSt),(⟨10,0,40⟩ : zSt)] : List zSt).flatMap e53),row (.slice (some ⟨zc5,0,none⟩) (([1000,50,30] : List Int).length) 3) 3 1 (([1000,50,30] : List Int).flatMap e3)]) (fun (zc6 : Nat) (z2q : Int) (z5O : Zp)=>zc6) ⟨yP,0,[]⟩ ⟨h,(Zle.refl _)⟩ (.cons rfl (.cons rfl (.cons rfl (.cons rfl .nil)))) (.cons .h2 (.cons .h1 (.cons .here .nil))) ?_
  rintro zc6 z2q z5O ⟨h,zpx⟩
  obtain ⟨zkA,rfl⟩:=y5y h
  rw [y2Q] at h
  refine WC.b (WC.a (WL.pu rfl (WL.nil (WX.a (WC.b ?_)))))
  refine WC.cond rfl (fun zkF=>?_) (fun zkF=>?_)
  ·replace h:=yg h zkF
   refine WC.skip (WX.a (WC.b (WC.block (WC.b ?_))))
   obtain ⟨zgK,h⟩:=ye h
   refine WC.a ?_
   refine WL.a (d:=18) rfl rfl rfl (ym y68 rfl rfl zgK.1 zgK.2 yM) ?_
   refine WL.a (d:=19) rfl rfl rfl (yb yl rfl (y7r .h2 ((y1A (enc:=e3) (l:=([1000,50,30] : List Int)) (i:=z2q) (sz:=1) (fun _=>rfl) zgK.1 zgK.2) 0 _ rfl))) ?_
   refine WL.pu rfl (WL.nil (WX.a (WC.b ?_)))
   obtain ⟨z1c,zwY,h⟩:=z8 h
   refine WC.a (WL.pu rfl ?_)
   refine WL.y8b (dd:=22) rfl rfl rfl (zt (l:=[.tmp 21]) Try.call23 (.cons rfl .nil)) .nil (ccz hz .nil .here fun w pz ho=>y6M _ _ _ zwY w pz ) ?_
   rintro zgL zgM zgN zpy zpz zpA zgO zgP zgQ zgR zgS zgT zpB zpC zpD zpE zpF zpG zpH zDy zDz zDA ⟨zkG,zkH,zkI,zkJ,zkK,zkL,zwZ⟩
   refine WL.merge .here .h5 ?_
   refine WL.pu rfl (WL.pu rfl (WL.pu rfl ?_))
   refine WL.new (dd:=4) rfl rfl rfl (y2m (cs:=[(.slice none 0 0),(.slice none 0 0),(.slice none 0 0),(.slice none 0 0),(.slice none 0 0),(.slice none 0 0),(.slice none 0 0),(.slice none 0 0)]) y6v rfl) ?_
   intro zgU _
   refine WL.y10 rfl rfl (y1W y6Z rfl rfl rfl .here rfl rfl rfl) ?_
   refine WL.pu rfl (WL.nil (WX.a (WC.b ?_)))
   obtain ⟨z3b,zx0,h⟩:=z8 h
   refine WC.a ?_
   refine WL.a (d:=26) rfl rfl rfl (yu yK rfl (yJ .here) rfl) ?_
   refine WL.pu rfl (WL.pu rfl ?_)
   refine WL.y2o (dd:=29) rfl rfl rfl (zt (l:=[.tmp 26,.const (.int .i64 0),.tmp 27,.tmp 28]) Try.call12 (.cons rfl (.cons rfl (.cons rfl (.cons rfl .nil))))) .nil (y2w hz .nil .h1 (.cons .h2 (.cons .h2 (.cons .h2 (.cons .h2 (.cons .h2 (.cons .h2 .nil)))))) fun w pz ho la=>y1J _ _ _ _ _ _ _ _ _ _ _ _ _ _ _ _ _ _ _ _ _ _ _ _ _ _ zx0 w pz (ZA.row (la _ (.head _) _) ((zkG.weak (fun _ _ h=>yq (Zle.yD _ _ _) h)).weak (fun _ _ h=>yq (Zle.left _ _) h)) ⟨w,pz.1⟩) ((((zkH.mono (Zle.yD _ _ _)).weak (fun _ _ h=>ys (Zle.yD _ _ _) h)).mono (Zle.left _ _)).weak (fun _ _ h=>ys (Zle.left _ _) h)) (ZA.row (la _ (.tail _ (.head _)) _) (RR.yE (enc:=e64) (fun _=>rfl) _) ⟨w,pz.1⟩) (ZA.row (la _ (.tail _ (.tail _ (.head _))) _) (RR.yE (enc:=e62) (fun _=>rfl) _) ⟨w,pz.1⟩) (ZA.row (la _ (.tail _ (.tail _ (.tail _ (.head _)))) _) ((zkI.weak (fun _ _ h=>yr (Zle.yD _ _ _) h)).weak (fun _ _ h=>yr (Zle.left _ _) h)) ⟨w,pz.1⟩) ((zkJ.mono (Zle.yD _ _ _)).mono (Zle.left _ _)) ((((zkK.mono (Zle.yD _ _ _)).weak (fun _ _ h=>yt (Zle.yD _ _ _) h)).mono (Zle.left _ _)).weak (fun _ _ h=>yt (Zle.left _ _) h)) ((zkL.mono (Zle.yD _ _ _)).mono (Zle.left _ _)) (ZA.row (la _ (.tail _ (.tail _ (.tail _ (.tail _ (.head _))))) _) ((zwZ.weak (fun _ _ h=>yH (Zle.yD _ _ _) h)).weak (fun _ _ h=>yH (Zle.left _ _) h)) ⟨w,pz.1⟩) (ZA.row (la _ (.tail _ (.tail _ (.tail _ (.tail _ (.tail _ (.head _)))))) _) (RR.yE (enc:=e53) (fun _=>rfl) _) ⟨w,pz.1⟩)) ?_
   rintro zgV zgW zgX zgY _
   refine WL.pu rfl (WL.pu rfl (WL.pu rfl (WL.pu rfl (WL.pu rfl (WL.pu rfl (WL.pu rfl (WL.nil (WX.a (WC.b (WC.a ?_))))))))))
   refine WL.a (d:=33) rfl rfl rfl (y1l (v:=(.agg #[(.int .i64 0),(.int .i64 1),(.int .i64 96)])) (Eos.parts (l:=[.const (.int .i64 0),.const (.int .i64 1),.const (.int .i64 96)]) (.cons rfl (.cons rfl (.cons rfl .nil))) [0,1,2]) (fun _=>by kernel_rfl)) ?_
   refine WL.a (d:=34) rfl rfl rfl (y1l (v:=(.agg #[(.int .i64 1),(.int .i64 1),(.int .i64 136)])) (Eos.parts (l:=[.const (.int .i64 1),.const (.int .i64 1),.const (.int .i64 136)]) (.cons rfl (.cons rfl (.cons rfl .nil))) [0,1,2]) (fun _=>by kernel_rfl)) ?_
   refine WL.new (dd:=35) rfl rfl rfl (yF (cs:=([(⟨0,1,96⟩ : Sapi_Come),(⟨1,1,136⟩ : Sapi_Come)] : List Sapi_Come).flatMap e50) y19 (Eos.parts (l:=[.tmp 33,.tmp 34]) (.cons rfl (.cons rfl .nil)) [0,1]) (fun _=>by kernel_rfl) rfl (by unfold maxLen; omega)) ?_
   intro zx1 _
   refine WL.new (dd:=36) rfl rfl rfl (yF (cs:=([] : List Sapi_Come).flatMap e50) y19 (Eos.parts (l:=[]) .nil []) (fun _=>by kernel_rfl) rfl (by unfold maxLen; omega)) ?_
   intro zx2 _
   refine WL.pu rfl (WL.pu rfl (WL.nil (WX.a ?_)))
   obtain ⟨zgJ,zx3,h⟩:=y34 h
   refine WC.y6E (fun (z5M : List Sapi_Come) (z5N : List Sapi_Come) (zc7 : Option Addr) (zc8 : Nat) (zc9 : Option Addr) (zca : Nat)=>(zgJ z5M z5N = some r)) (fun (z5M : List Sapi_Come) (z5N : List Sapi_Come) (zc7 : Option Addr) (zc8 : Nat) (zc9 : Option Addr) (zca : Nat)=>[(1,(.slice (some ⟨zc3,0,none⟩) (([(⟨0,0,40⟩ : zSt),(⟨10,0,40⟩ : zSt)] : List zSt).length) 2)),(3,(.int .i64 (nth ([1000,50,30] : List Int) z2q))),(4,(.pointer (some ⟨zgU,0,none⟩))),(6,(.slice zgV z3b.1.length zgW)),(7,(.slice zgX z3b.2.1.length zgY)),(8,(.int .i64 z3b.2.2)),(9,(.slice zc7 z5M.length zc8)),(10,(.slice zc9 z5N.length zca)),(14,(.slice (some ⟨zc5,0,none⟩) (([1000,50,30] : List Int).length) 3)),(15,(.int .i64 ((([1000,50,30] : List Int).length : Nat) : Int))),(16,(.int .i64 z2q))]) (fun (z5M : List Sapi_Come) (z5N : List Sapi_Come) (zc7 : Option Addr) (zc8 : Nat) (zc9 : Option Addr) (zca : Nat)=>[fz (z5O ++ zgL),row (.slice (some ⟨zc3,0,none⟩) (([(⟨0,0,40⟩ : zSt),(⟨10,0,40⟩ : zSt)] : List zSt).length) 2) 53 3 (([(⟨0,0,40⟩ : zSt),(⟨10,0,40⟩ : zSt)] : List zSt).flatMap e53),row (.slice zgV z3b.1.length zgW) 50 3 (z3b.1.flatMap e50),row (.slice zgX z3b.2.1.length zgY) 50 3 (z3b.2.1.flatMap e50),row (.slice zc7 z5M.length zc8) 50 3 (z5M.flatMap e50),row (.slice zc9 z5N.length zca) 50 3 (z5N.flatMap e50),row (.slice (some ⟨zc5,0,none⟩) (([1000,50,30] : List Int).length) 3) 3 1 (([1000,50,30] : List Int).flatMap e3),stb zgU 31 [(.slice zgM z1c.1.fModules.length zgN),(.slice zpz z1c.1.fChannels.length zpA),(.slice zgO z1c.1.fSwitches.length zgP),(.slice zgQ z1c.1.fLinks.length zgR),(.slice zgS z1c.1.fVLs.length zgT),(.slice zpC z1c.1.fHealth.length zpD),(.slice zpE z1c.1.fCauses.length zpF),(.slice zpG z1c.1.fVersions.length zpH)],row (.slice zgM z1c.1.fModules.length zgN) 104 4 zpy,row (.slice zgO z1c.1.fSwitches.length zgP) 64 4 (z1c.1.fSwitches.flatMap e64),row (.slice zgQ z1c.1.fLinks.length zgR) 62 4 (z1c.1.fLinks.flatMap e62),row (.slice zgS z1c.1.fVLs.length zgT) 109 7 zpB]) ?_ ?_
   ·skip
    refine WC.b (WC.a (WL.pu rfl (WL.pu rfl (WL.nil (WX.a ?_)))))
    refine WC.cond rfl (fun zkM=>?_) (fun zkM=>?_)
    ·replace h:=yg h zkM
     obtain ⟨zx4,h⟩:=ye h
     refine WC.a (WL.pu rfl ?_)
     refine WL.y64 (dd:=40) (enc:=e50) (ls:=([(⟨0,1,96⟩ : Sapi_Come),(⟨1,1,136⟩ : Sapi_Come)] : List Sapi_Come)) rfl rfl y19 rfl rfl .h1 (fun _=>rfl) zx4 ?_
     intro zx5 zx6
     refine WL.a (d:=41) rfl rfl rfl (y1l (v:=(.agg #[(.int .i64 1),(.int .i64 2),(.int .i64 80)])) (Eos.parts (l:=[.const (.int .i64 1),.const (.int .i64 2),.const (.int .i64 80)]) (.cons rfl (.cons rfl (.cons rfl .nil))) [0,1,2]) (fun _=>by kernel_rfl)) ?_
     refine WL.new (dd:=42) rfl rfl rfl (yF (cs:=([(⟨1,2,80⟩ : Sapi_Come)] : List Sapi_Come).flatMap e50) y19 (Eos.parts (l:=[.tmp 41]) (.cons rfl .nil) [0]) (fun _=>by kernel_rfl) rfl (by unfold maxLen; omega)) ?_
     intro zx7 _
     refine WL.pu rfl (WL.pu rfl (WL.nil ?_))
     exact WX.mid (G:=List Sapi_Come × List Sapi_Come × Option Addr × Nat × Option Addr × Nat) ⟨(([(⟨0,1,96⟩ : Sapi_Come),(⟨1,1,136⟩ : Sapi_Come)] : List Sapi_Come).take (1 : Int).toNat),([(⟨1,2,80⟩ : Sapi_Come)] : List Sapi_Come),zx5,zx6,(some ⟨zx7,0,none⟩),1⟩ h (.cons rfl (.cons rfl (.cons rfl (.cons rfl (.cons rfl (.cons rfl (.cons rfl (.cons rfl (.cons rfl (.cons rfl (.cons rfl .nil))))))))))) (.cons .h6 (.cons (.there (.there (.there (.there .h7)))) (.cons .h3 (.cons .h3 (.cons .h1 (.cons .here (.cons .h7 (.cons .h1 (.cons .h1 (.cons .h1 (.cons .h1 (.cons .h1 .nil))))))))))))
    ·replace h:=yh h zkM
     refine WC.skip ?_
     exact WX.mid (G:=List Sapi_Come × List Sapi_Come × Option Addr × Nat × Option Addr × Nat) ⟨([(⟨0,1,96⟩ : Sapi_Come),(⟨1,1,136⟩ : Sapi_Come)] : List Sapi_Come),([] : List Sapi_Come),(some ⟨zx1,0,none⟩),2,(some ⟨zx2,0,none⟩),0⟩ h (.cons rfl (.cons rfl (.cons rfl (.cons rfl (.cons rfl (.cons rfl (.cons rfl (.cons rfl (.cons rfl (.cons rfl (.cons rfl .nil))))))))))) (.cons .h5 (.cons (.there (.there (.there .h7))) (.cons .h2 (.cons .h2 (.cons .h1 (.cons .here (.cons .h6 (.cons .here (.cons .here (.cons .here (.cons .here (.cons .here .nil))))))))))))
   ·rintro z5M z5N zc7 zc8 zc9 zca h
    replace h:=(zx3 z5M z5N).symm.trans h
    obtain ⟨zgI,zx8,h⟩:=y34 h
    refine WC.y6E (fun (z77 : List Sapi_Come) (z78 : List Sapi_Come) (zeJ : Option Addr) (zeK : Nat) (zeL : Option Addr) (zeM : Nat)=>(zgI z77 z78 = some r)) (fun (z77 : List Sapi_Come) (z78 : List Sapi_Come) (zeJ : Option Addr) (zeK : Nat) (zeL : Option Addr) (zeM : Nat)=>[(1,(.slice (some ⟨zc3,0,none⟩) (([(⟨0,0,40⟩ : zSt),(⟨10,0,40⟩ : zSt)] : List zSt).length) 2)),(4,(.pointer (some ⟨zgU,0,none⟩))),(6,(.slice zgV z3b.1.length zgW)),(7,(.slice zgX z3b.2.1.length zgY)),(8,(.int .i64 z3b.2.2)),(9,(.slice zeJ z77.length zeK)),(10,(.slice zeL z78.length zeM)),(14,(.slice (some ⟨zc5,0,none⟩) (([1000,50,30] : List Int).length) 3)),(15,(.int .i64 ((([1000,50,30] : List Int).length : Nat) : Int))),(16,(.int .i64 z2q))]) (fun (z77 : List Sapi_Come) (z78 : List Sapi_Come) (zeJ : Option Addr) (zeK : Nat) (zeL : Option Addr) (zeM : Nat)=>[fz (z5O ++ zgL),row (.slice (some ⟨zc3,0,none⟩) (([(⟨0,0,40⟩ : zSt),(⟨10,0,40⟩ : zSt)] : List zSt).length) 2) 53 3 (([(⟨0,0,40⟩ : zSt),(⟨10,0,40⟩ : zSt)] : List zSt).flatMap e53),row (.slice zgV z3b.1.length zgW) 50 3 (z3b.1.flatMap e50),row (.slice zgX z3b.2.1.length zgY) 50 3 (z3b.2.1.flatMap e50),row (.slice zeJ z77.length zeK) 50 3 (z77.flatMap e50),row (.slice zeL z78.length zeM) 50 3 (z78.flatMap e50),row (.slice (some ⟨zc5,0,none⟩) (([1000,50,30] : List Int).length) 3) 3 1 (([1000,50,30] : List Int).flatMap e3),stb zgU 31 [(.slice zgM z1c.1.fModules.length zgN),(.slice zpz z1c.1.fChannels.length zpA),(.slice zgO z1c.1.fSwitches.length zgP),(.slice zgQ z1c.1.fLinks.length zgR),(.slice zgS z1c.1.fVLs.length zgT),(.slice zpC z1c.1.fHealth.length zpD),(.slice zpE z1c.1.fCauses.length zpF),(.slice zpG z1c.1.fVersions.length zpH)],row (.slice zgM z1c.1.fModules.length zgN) 104 4 zpy,row (.slice zgO z1c.1.fSwitches.length zgP) 64 4 (z1c.1.fSwitches.flatMap e64),row (.slice zgQ z1c.1.fLinks.length zgR) 62 4 (z1c.1.fLinks.flatMap e62),row (.slice zgS z1c.1.fVLs.length zgT) 109 7 zpB]) ?_ ?_
    ·skip
     refine WC.b (WC.a (WL.pu rfl (WL.pu rfl (WL.nil (WX.a ?_)))))
     refine WC.cond rfl (fun zkN=>?_) (fun zkN=>?_)
     ·replace h:=yg h zkN
      refine WC.a ?_
      refine WL.a (d:=45) rfl rfl rfl (y1l (v:=(.agg #[(.int .i64 0),(.int .i64 2),(.int .i64 40)])) (Eos.parts (l:=[.const (.int .i64 0),.const (.int .i64 2),.const (.int .i64 40)]) (.cons rfl (.cons rfl (.cons rfl .nil))) [0,1,2]) (fun _=>by kernel_rfl)) ?_
      refine WL.a (d:=46) rfl rfl rfl (y1l (v:=(.agg #[(.int .i64 1),(.int .i64 2),(.int .i64 80)])) (Eos.parts (l:=[.const (.int .i64 1),.const (.int .i64 2),.const (.int .i64 80)]) (.cons rfl (.cons rfl (.cons rfl .nil))) [0,1,2]) (fun _=>by kernel_rfl)) ?_
      refine WL.new (dd:=47) rfl rfl rfl (yF (cs:=([(⟨0,2,40⟩ : Sapi_Come),(⟨1,2,80⟩ : Sapi_Come)] : List Sapi_Come).flatMap e50) y19 (Eos.parts (l:=[.tmp 45,.tmp 46]) (.cons rfl (.cons rfl .nil)) [0,1]) (fun _=>by kernel_rfl) rfl (by unfold maxLen; omega)) ?_
      intro zx9 _
      refine WL.pu rfl (WL.pu rfl (WL.nil ?_))
      refine WX.nilRow 50 3 ?_
      exact WX.mid (G:=List Sapi_Come × List Sapi_Come × Option Addr × Nat × Option Addr × Nat) ⟨([] : List Sapi_Come),([(⟨0,2,40⟩ : Sapi_Come),(⟨1,2,80⟩ : Sapi_Come)] : List Sapi_Come),none,0,(some ⟨zx9,0,none⟩),2⟩ h (.cons rfl (.cons rfl (.cons rfl (.cons rfl (.cons rfl (.cons rfl (.cons rfl (.cons rfl (.cons rfl (.cons rfl .nil)))))))))) (.cons .h2 (.cons .h2 (.cons .h2 (.cons .h2 (.cons .here (.cons .here (.cons .h2 (.cons .h2 (.cons .h2 (.cons .h2 (.cons .h2 (.cons .h2 .nil))))))))))))
     ·replace h:=yh h zkN
      refine WC.skip ?_
      exact WX.mid (G:=List Sapi_Come × List Sapi_Come × Option Addr × Nat × Option Addr × Nat) ⟨z5M,z5N,zc7,zc8,zc9,zca⟩ h (.cons rfl (.cons rfl (.cons rfl (.cons rfl (.cons rfl (.cons rfl (.cons rfl (.cons rfl (.cons rfl (.cons rfl .nil)))))))))) (.cons .here (.cons .here (.cons .here (.cons .here (.cons .here (.cons .here (.cons .here (.cons .here (.cons .here (.cons .here (.cons .here (.cons .here .nil))))))))))))
    ·rintro z77 z78 zeJ zeK zeL zeM h
     replace h:=(zx8 z77 z78).symm.trans h
     refine WC.b ?_
     obtain ⟨zkB,zpI,h⟩:=z8 h
     obtain ⟨zkC,zpJ,h⟩:=z8 h
     obtain ⟨zkD,zpK,h⟩:=z8 h
     obtain ⟨zkE,zpL,h⟩:=z8 h
     refine WC.a (WL.pu rfl (WL.pu rfl (WL.pu rfl ?_)))
     refine WL.seg false 4 50 (B:=zkB) rfl rfl rfl rfl rfl rfl (fun h=>(Option.some.inj (yg zpI h)).symm) (fun _ zxa=>?_) ?_
     ·skip
      have zeN:=yh zpI zxa
      obtain ⟨zpt,zxb,zeN⟩:=z8 zeN
      replace zeN:=Option.some.inj zeN
      refine WL.pu rfl (WL.pu rfl ?_)
      refine WL.b (dd:=53) rfl rfl rfl (zt (l:=[.tmp 51,.tmp 52]) Try.call14 (.cons rfl (.cons rfl .nil))) .nil (y2w hz .nil .here (.cons .h2 (.cons .h3 .nil)) fun w pz ho la=>y6d _ _ _ _ _ _ _ _ zxb w pz (ZA.row (la _ (.head _) _) (RR.yE (enc:=e50) (fun _=>rfl) _) ⟨w,pz.1⟩) (ZA.row (la _ (.tail _ (.head _)) _) (RR.yE (enc:=e50) (fun _=>rfl) _) ⟨w,pz.1⟩)) ?_
      refine WL.pu rfl (WL.pu rfl ?_)
      exact WL.yi zeN rfl rfl .all
     refine WL.pu rfl ?_
     refine WL.seg false 4 56 (B:=zkC) rfl rfl rfl rfl rfl rfl (fun h=>(Option.some.inj (yg zpJ h)).symm) (fun _ zxc=>?_) ?_
     ·skip
      have zeO:=yh zpJ zxc
      obtain ⟨zpu,zxd,zeO⟩:=z8 zeO
      replace zeO:=Option.some.inj zeO
      refine WL.pu rfl (WL.pu rfl ?_)
      refine WL.b (dd:=59) rfl rfl rfl (zt (l:=[.tmp 57,.tmp 58]) Try.call14 (.cons rfl (.cons rfl .nil))) .nil (y2w hz .nil .here (.cons .h3 (.cons .h4 .nil)) fun w pz ho la=>y6d _ _ _ _ _ _ _ _ zxd w pz (ZA.row (la _ (.head _) _) (RR.yE (enc:=e50) (fun _=>rfl) _) ⟨w,pz.1⟩) (ZA.row (la _ (.tail _ (.head _)) _) (RR.yE (enc:=e50) (fun _=>rfl) _) ⟨w,pz.1⟩)) ?_
      refine WL.pu rfl (WL.pu rfl ?_)
      exact WL.yi zeO rfl rfl .all
     refine WL.pu rfl ?_
     refine WL.seg false 3 62 (B:=zkD) rfl rfl rfl rfl rfl rfl (fun h=>(Option.some.inj (yg zpK h)).symm) (fun _ zxe=>?_) ?_
     ·skip
      have zeP:=yh zpK zxe
      obtain ⟨zpv,zxf,zeP⟩:=z8 zeP
      replace zeP:=Option.some.inj zeP
      refine WL.a (d:=63) rfl rfl rfl (yu yK rfl (yJ .h7) rfl) ?_
      refine WL.b (dd:=64) rfl rfl rfl (zt (l:=[.tmp 63]) Try.call17 (.cons rfl .nil)) .nil (y2w hz .nil .here (.cons (.there .h7) (.cons (.there .h7) (.cons (.there .h7) (.cons (.there .h7) .nil)))) fun w pz ho la=>y4g _ _ _ _ _ _ _ _ _ _ _ _ _ _ _ _ _ _ _ zxf w pz (ZA.row (la _ (.head _) _) ((zkG.weak (fun _ _ h=>yq (Zle.yD _ _ _) h)).weak (fun _ _ h=>yq (Zle.left _ _) h)) ⟨w,pz.1⟩) ((((zkH.mono (Zle.yD _ _ _)).weak (fun _ _ h=>ys (Zle.yD _ _ _) h)).mono (Zle.left _ _)).weak (fun _ _ h=>ys (Zle.left _ _) h)) (ZA.row (la _ (.tail _ (.head _)) _) (RR.yE (enc:=e64) (fun _=>rfl) _) ⟨w,pz.1⟩) (ZA.row (la _ (.tail _ (.tail _ (.head _))) _) (RR.yE (enc:=e62) (fun _=>rfl) _) ⟨w,pz.1⟩) (ZA.row (la _ (.tail _ (.tail _ (.tail _ (.head _)))) _) ((zkI.weak (fun _ _ h=>yr (Zle.yD _ _ _) h)).weak (fun _ _ h=>yr (Zle.left _ _) h)) ⟨w,pz.1⟩) ((zkJ.mono (Zle.yD _ _ _)).mono (Zle.left _ _)) ((((zkK.mono (Zle.yD _ _ _)).weak (fun _ _ h=>yt (Zle.yD _ _ _) h)).mono (Zle.left _ _)).weak (fun _ _ h=>yt (Zle.left _ _) h)) ((zkL.mono (Zle.yD _ _ _)).mono (Zle.left _ _))) ?_
      refine WL.pu rfl (WL.pu rfl ?_)
      exact WL.yi zeP rfl rfl .all
     refine WL.pu rfl ?_
     refine WL.seg false 3 67 (B:=zkE) rfl rfl rfl rfl rfl rfl (fun h=>(Option.some.inj (yg zpL h)).symm) (fun _ zxg=>?_) ?_
     ·skip
      have zeQ:=yh zpL zxg
      obtain ⟨zpw,zxh,zeQ⟩:=z8 zeQ
      replace zeQ:=Option.some.inj zeQ
      refine WL.a (d:=68) rfl rfl rfl (yu yK rfl (yJ .h7) rfl) ?_
      refine WL.b (dd:=69) rfl rfl rfl (zt (l:=[.tmp 68,.const (.int .i64 2)]) Try.call18 (.cons rfl (.cons rfl .nil))) .nil (y2w hz .nil .here (.cons (.there .h7) (.cons (.there .h7) (.cons (.there .h7) (.cons (.there .h7) .nil)))) fun w pz ho la=>y5r _ _ _ _ _ _ _ _ _ _ _ _ _ _ _ _ _ _ _ _ zxh w pz (ZA.row (la _ (.head _) _) ((zkG.weak (fun _ _ h=>yq (Zle.yD _ _ _) h)).weak (fun _ _ h=>yq (Zle.left _ _) h)) ⟨w,pz.1⟩) ((((zkH.mono (Zle.yD _ _ _)).weak (fun _ _ h=>ys (Zle.yD _ _ _) h)).mono (Zle.left _ _)).weak (fun _ _ h=>ys (Zle.left _ _) h)) (ZA.row (la _ (.tail _ (.head _)) _) (RR.yE (enc:=e64) (fun _=>rfl) _) ⟨w,pz.1⟩) (ZA.row (la _ (.tail _ (.tail _ (.head _))) _) (RR.yE (enc:=e62) (fun _=>rfl) _) ⟨w,pz.1⟩) (ZA.row (la _ (.tail _ (.tail _ (.tail _ (.head _)))) _) ((zkI.weak (fun _ _ h=>yr (Zle.yD _ _ _) h)).weak (fun _ _ h=>yr (Zle.left _ _) h)) ⟨w,pz.1⟩) ((zkJ.mono (Zle.yD _ _ _)).mono (Zle.left _ _)) ((((zkK.mono (Zle.yD _ _ _)).weak (fun _ _ h=>yt (Zle.yD _ _ _) h)).mono (Zle.left _ _)).weak (fun _ _ h=>yt (Zle.left _ _) h)) ((zkL.mono (Zle.yD _ _ _)).mono (Zle.left _ _))) ?_
      refine WL.a (d:=70) rfl rfl rfl (q_sneq rfl rfl) ?_
      refine WL.pu rfl ?_
      exact WL.yi zeQ rfl rfl .all
     refine WL.nil (WX.a ?_)
     refine WC.cond rfl (fun zkO=>?_) (fun zkO=>?_)
     ·replace h:=yg h zkO
      refine WC.b (WC.a (WL.pu rfl (WL.nil (WX.a (WC.ret (WX.yG (WX.yn (WX.yn (WX.yG (WX.yn ?_))))))))))
      obtain rfl:=Option.some.inj h
      refine WX.yj Try.results11 (.tmp rfl .nil) (fun w hw=>?_)
      exact ⟨(z5O ++ zgL),yL rfl,trivial,hw.sub (.cons .here .nil)⟩
     ·replace h:=yh h zkO
      refine WC.skip (WX.yf (WX.a (WC.a (WL.pu rfl (WL.pu rfl (WL.nil ?_))))))
      exact WX.round (G:=Nat × Int × Zp) ⟨zkA,(i64 (z2q + 1)),(z5O ++ zgL)⟩ ⟨h,(zpx.trans ((Zle.left _ _).trans (Zle.yD _ _ _)))⟩ (Nat.lt_succ_self _) (.cons rfl (.cons rfl (.cons rfl (.cons rfl .nil)))) (.cons .here (.cons .here (.cons .h4 .nil)))
  ·replace h:=yh h zkF
   refine WC.exit (WX.yk (WX.yk (WX.yC ?_)))
   exact WX.mid (G:=Zp) z5O ⟨h,zpx⟩ .nil (.cons .here .nil)
 ·rintro zc4 ⟨h,zDB⟩
  replace h:=zwX.symm.trans h
  refine WC.b (WC.a (WL.pu rfl (WL.nil (WX.a (WC.ret ?_)))))
  obtain rfl:=Option.some.inj h
  refine WX.yj Try.results11 (.tmp rfl .nil) (fun w hw=>?_)
  exact ⟨zc4,yL rfl,trivial,hw.sub (.cons .here .nil)⟩
end Go.Proofs.Ytinchjigeakocaa

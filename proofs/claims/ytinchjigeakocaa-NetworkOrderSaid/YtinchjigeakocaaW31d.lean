/- A part of this claim's proof: models of functions, walks, plain laws. No conditions. -/
import Derived.Test.YtinchjigeakocaaW31c
namespace Go.Proofs.Ytinchjigeakocaa
open Go Go.RowKit Sep
set_option linter.all false
set_option maxRecDepth 30000
set_option maxHeartbeats 4000000
def yJ (z6 : List Sapi_Come) (zn : Int) (zU : Sapi_Come → Sapi_Come → Option Int) (z6r : Int → Option (List Sapi_Come)) : Nat → Int → Int → Option (List Sapi_Come)
  | 0,_,_=>none
  | zdl + 1,z1o,z1w=>if decide (z1o < z1w) then chk ((0 : Int) ≤ (i64 ((u64 (i64 (z1o + z1w))) / 2 ^ min (1 : Int).toNat 64)) ∧ (i64 ((u64 (i64 (z1o + z1w))) / 2 ^ min (1 : Int).toNat 64)) < ((z6.length : Nat) : Int)) (chk ((0 : Int) ≤ zn ∧ zn < ((z6.length : Nat) : Int)) ((zU (⟨((nth z6 (i64 ((u64 (i64 (z1o + z1w))) / 2 ^ min (1 : Int).toNat 64))).fSent),((nth z6 (i64 ((u64 (i64 (z1o + z1w))) / 2 ^ min (1 : Int).toNat 64))).fNode),((nth z6 (i64 ((u64 (i64 (z1o + z1w))) / 2 ^ min (1 : Int).toNat 64))).fTime)⟩ : Sapi_Come) (⟨((nth z6 zn).fSent),((nth z6 zn).fNode),((nth z6 zn).fTime)⟩ : Sapi_Come)).bind fun zi8=>if decide (zi8 < 0) then yJ z6 zn zU z6r zdl (i64 ((i64 ((u64 (i64 (z1o + z1w))) / 2 ^ min (1 : Int).toNat 64)) + 1)) z1w else yJ z6 zn zU z6r zdl z1o (i64 ((u64 (i64 (z1o + z1w))) / 2 ^ min (1 : Int).toNat 64)))) else z6r z1o
theorem y3y {n : Nat} {z6 : List Sapi_Come} {zn : Int} {zU : Sapi_Come → Sapi_Come → Option Int} {z6r : Int → Option (List Sapi_Come)} {z1o : Int} {z1w : Int} {r : List Sapi_Come} (h : yJ z6 zn zU z6r n z1o z1w = some r) : ∃ m,n = m + 1:=by
  cases n with
  | zero=>cases h
  | succ m=>exact ⟨m,rfl⟩
def yK (z38 : Int) (z7t : (List Sapi_Come) → Option (List Sapi_Come)) : Nat → (List Sapi_Come) → Int → Option (List Sapi_Come)
  | 0,_,_=>none
  | zi9 + 1,zs,zl=>if decide (zl < (i64 (z38 - 1))) then chk ((0 : Int) ≤ (i64 (zl + 1)) ∧ (i64 (zl + 1)) < ((zs.length : Nat) : Int)) (chk ((0 : Int) ≤ zl ∧ zl < ((zs.length : Nat) : Int)) (chk ((0 : Int) ≤ (i64 (zl + 1)) ∧ (i64 (zl + 1)) < (((zs.set (zl : Int).toNat (⟨((nth zs (i64 (zl + 1))).fSent),((nth zs (i64 (zl + 1))).fNode),((nth zs (i64 (zl + 1))).fTime)⟩ : Sapi_Come)).length : Nat) : Int)) (yK z38 z7t zi9 ((zs.set (zl : Int).toNat (⟨((nth zs (i64 (zl + 1))).fSent),((nth zs (i64 (zl + 1))).fNode),((nth zs (i64 (zl + 1))).fTime)⟩ : Sapi_Come)).set ((i64 (zl + 1)) : Int).toNat (⟨((nth zs zl).fSent),((nth zs zl).fNode),((nth zs zl).fTime)⟩ : Sapi_Come)) (i64 (zl + 1))))) else z7t zs
theorem y3z {n : Nat} {z38 : Int} {z7t : (List Sapi_Come) → Option (List Sapi_Come)} {zs : List Sapi_Come} {zl : Int} {r : List Sapi_Come} (h : yK z38 z7t n zs zl = some r) : ∃ m,n = m + 1:=by
  cases n with
  | zero=>cases h
  | succ m=>exact ⟨m,rfl⟩
def yL (zw : Int) (z6 : List Sapi_Come) (zU : Sapi_Come → Sapi_Come → Option Int) (z6s : Int → Option (List Sapi_Come)) : Nat → Int → Int → Option (List Sapi_Come)
  | 0,_,_=>none
  | zdm + 1,z1p,z1x=>if decide (z1p < z1x) then chk ((0 : Int) ≤ zw ∧ zw < ((z6.length : Nat) : Int)) (chk ((0 : Int) ≤ (i64 ((u64 (i64 (z1p + z1x))) / 2 ^ min (1 : Int).toNat 64)) ∧ (i64 ((u64 (i64 (z1p + z1x))) / 2 ^ min (1 : Int).toNat 64)) < ((z6.length : Nat) : Int)) ((zU (⟨((nth z6 zw).fSent),((nth z6 zw).fNode),((nth z6 zw).fTime)⟩ : Sapi_Come) (⟨((nth z6 (i64 ((u64 (i64 (z1p + z1x))) / 2 ^ min (1 : Int).toNat 64))).fSent),((nth z6 (i64 ((u64 (i64 (z1p + z1x))) / 2 ^ min (1 : Int).toNat 64))).fNode),((nth z6 (i64 ((u64 (i64 (z1p + z1x))) / 2 ^ min (1 : Int).toNat 64))).fTime)⟩ : Sapi_Come)).bind fun zia=>if !(decide (zia < 0)) then yL zw z6 zU z6s zdm (i64 ((i64 ((u64 (i64 (z1p + z1x))) / 2 ^ min (1 : Int).toNat 64)) + 1)) z1x else yL zw z6 zU z6s zdm z1p (i64 ((u64 (i64 (z1p + z1x))) / 2 ^ min (1 : Int).toNat 64)))) else z6s z1p
theorem y3A {n : Nat} {zw : Int} {z6 : List Sapi_Come} {zU : Sapi_Come → Sapi_Come → Option Int} {z6s : Int → Option (List Sapi_Come)} {z1p : Int} {z1x : Int} {r : List Sapi_Come} (h : yL zw z6 zU z6s n z1p z1x = some r) : ∃ m,n = m + 1:=by
  cases n with
  | zero=>cases h
  | succ m=>exact ⟨m,rfl⟩
def yR (z39 : Int) (z7u : (List Sapi_Come) → Option (List Sapi_Come)) : Nat → (List Sapi_Come) → Int → Option (List Sapi_Come)
  | 0,_,_=>none
  | zib + 1,zt,zm=>if decide (zm > z39) then chk ((0 : Int) ≤ (i64 (zm - 1)) ∧ (i64 (zm - 1)) < ((zt.length : Nat) : Int)) (chk ((0 : Int) ≤ zm ∧ zm < ((zt.length : Nat) : Int)) (chk ((0 : Int) ≤ (i64 (zm - 1)) ∧ (i64 (zm - 1)) < (((zt.set (zm : Int).toNat (⟨((nth zt (i64 (zm - 1))).fSent),((nth zt (i64 (zm - 1))).fNode),((nth zt (i64 (zm - 1))).fTime)⟩ : Sapi_Come)).length : Nat) : Int)) (yR z39 z7u zib ((zt.set (zm : Int).toNat (⟨((nth zt (i64 (zm - 1))).fSent),((nth zt (i64 (zm - 1))).fNode),((nth zt (i64 (zm - 1))).fTime)⟩ : Sapi_Come)).set ((i64 (zm - 1)) : Int).toNat (⟨((nth zt zm).fSent),((nth zt zm).fNode),((nth zt zm).fTime)⟩ : Sapi_Come)) (i64 (zm - 1))))) else z7u zt
theorem y3B {n : Nat} {z39 : Int} {z7u : (List Sapi_Come) → Option (List Sapi_Come)} {zt : List Sapi_Come} {zm : Int} {r : List Sapi_Come} (h : yR z39 z7u n zt zm = some r) : ∃ m,n = m + 1:=by
  cases n with
  | zero=>cases h
  | succ m=>exact ⟨m,rfl⟩
def yG (zn : Int) (zA : Int) (zw : Int) (z6 : List Sapi_Come) (zU : Sapi_Come → Sapi_Come → Option Int) (z6t : Int → Option (List Sapi_Come)) : Nat → Int → Int → Option (List Sapi_Come)
  | 0,_,_=>none
  | zdn + 1,zZ,z14=>if decide (zZ < z14) then chk ((0 : Int) ≤ (i64 ((i64 ((i64 ((i64 ((u64 (i64 (zn + zA))) / 2 ^ min (1 : Int).toNat 64)) + zw)) - 1)) - (i64 ((u64 (i64 (zZ + z14))) / 2 ^ min (1 : Int).toNat 64)))) ∧ (i64 ((i64 ((i64 ((i64 ((u64 (i64 (zn + zA))) / 2 ^ min (1 : Int).toNat 64)) + zw)) - 1)) - (i64 ((u64 (i64 (zZ + z14))) / 2 ^ min (1 : Int).toNat 64)))) < ((z6.length : Nat) : Int)) (chk ((0 : Int) ≤ (i64 ((u64 (i64 (zZ + z14))) / 2 ^ min (1 : Int).toNat 64)) ∧ (i64 ((u64 (i64 (zZ + z14))) / 2 ^ min (1 : Int).toNat 64)) < ((z6.length : Nat) : Int)) ((zU (⟨((nth z6 (i64 ((i64 ((i64 ((i64 ((u64 (i64 (zn + zA))) / 2 ^ min (1 : Int).toNat 64)) + zw)) - 1)) - (i64 ((u64 (i64 (zZ + z14))) / 2 ^ min (1 : Int).toNat 64))))).fSent),((nth z6 (i64 ((i64 ((i64 ((i64 ((u64 (i64 (zn + zA))) / 2 ^ min (1 : Int).toNat 64)) + zw)) - 1)) - (i64 ((u64 (i64 (zZ + z14))) / 2 ^ min (1 : Int).toNat 64))))).fNode),((nth z6 (i64 ((i64 ((i64 ((i64 ((u64 (i64 (zn + zA))) / 2 ^ min (1 : Int).toNat 64)) + zw)) - 1)) - (i64 ((u64 (i64 (zZ + z14))) / 2 ^ min (1 : Int).toNat 64))))).fTime)⟩ : Sapi_Come) (⟨((nth z6 (i64 ((u64 (i64 (zZ + z14))) / 2 ^ min (1 : Int).toNat 64))).fSent),((nth z6 (i64 ((u64 (i64 (zZ + z14))) / 2 ^ min (1 : Int).toNat 64))).fNode),((nth z6 (i64 ((u64 (i64 (zZ + z14))) / 2 ^ min (1 : Int).toNat 64))).fTime)⟩ : Sapi_Come)).bind fun zic=>if !(decide (zic < 0)) then yG zn zA zw z6 zU z6t zdn (i64 ((i64 ((u64 (i64 (zZ + z14))) / 2 ^ min (1 : Int).toNat 64)) + 1)) z14 else yG zn zA zw z6 zU z6t zdn zZ (i64 ((u64 (i64 (zZ + z14))) / 2 ^ min (1 : Int).toNat 64)))) else z6t zZ
theorem y3v {n : Nat} {zn : Int} {zA : Int} {zw : Int} {z6 : List Sapi_Come} {zU : Sapi_Come → Sapi_Come → Option Int} {z6t : Int → Option (List Sapi_Come)} {zZ : Int} {z14 : Int} {r : List Sapi_Come} (h : yG zn zA zw z6 zU z6t n zZ z14 = some r) : ∃ m,n = m + 1:=by
  cases n with
  | zero=>cases h
  | succ m=>exact ⟨m,rfl⟩
def yQ : Nat → (List Sapi_Come) → Int → Int → Int → (Sapi_Come → Sapi_Come → Option Int) → Option (List Sapi_Come)
  | 0,_,_,_,_,_=>none
  | zid + 1,z6,zn,zw,zA,zU=>jp0 (jp0 (jp2 (fun (z7v : Int) (z7w : Int)=>jp1 (fun (z1q : Int)=>jp1 (fun (z3u : List Sapi_Come)=>jp1 (fun (z3I : List Sapi_Come)=>if (decide ((i64 ((u64 (i64 (zn + zA))) / 2 ^ min (1 : Int).toNat 64)) < (i64 ((i64 ((i64 ((u64 (i64 (zn + zA))) / 2 ^ min (1 : Int).toNat 64)) + zw)) - z1q)))) && (decide ((i64 ((i64 ((i64 ((u64 (i64 (zn + zA))) / 2 ^ min (1 : Int).toNat 64)) + zw)) - z1q)) < zA)) then ((yQ zid) z3I (i64 ((u64 (i64 (zn + zA))) / 2 ^ min (1 : Int).toNat 64)) (i64 ((i64 ((i64 ((u64 (i64 (zn + zA))) / 2 ^ min (1 : Int).toNat 64)) + zw)) - z1q)) zA zU).bind fun zeR=>some zeR else some z3I) fun zeS=>if (decide (zn < z1q)) && (decide (z1q < (i64 ((u64 (i64 (zn + zA))) / 2 ^ min (1 : Int).toNat 64)))) then ((yQ zid) z3u zn z1q (i64 ((u64 (i64 (zn + zA))) / 2 ^ min (1 : Int).toNat 64)) zU).bind fun zdo=>zeS zdo else zeS z3u) fun zeT=>if (decide (z1q < zw)) && (decide (zw < (i64 ((i64 ((i64 ((u64 (i64 (zn + zA))) / 2 ^ min (1 : Int).toNat 64)) + zw)) - z1q)))) then (y1t z6 z1q zw (i64 ((i64 ((i64 ((u64 (i64 (zn + zA))) / 2 ^ min (1 : Int).toNat 64)) + zw)) - z1q)) zU).bind fun zeU=>zeT zeU else zeT z6) fun z6t=>yG zn zA zw z6 zU z6t yA z7v z7w) fun zeV=>if decide (zw > (i64 ((u64 (i64 (zn + zA))) / 2 ^ min (1 : Int).toNat 64))) then zeV (i64 ((i64 ((i64 ((u64 (i64 (zn + zA))) / 2 ^ min (1 : Int).toNat 64)) + zw)) - zA)) (i64 ((u64 (i64 (zn + zA))) / 2 ^ min (1 : Int).toNat 64)) else zeV zn zw) fun zie=>if decide ((i64 (zA - zw)) = 1) then jp1 (fun (z39 : Int)=>jp1 (fun (z6u : List Sapi_Come)=>some z6u) fun z7u=>yR z39 z7u yA z6 zw) fun z6s=>yL zw z6 zU z6s yA zn zw else zie) fun zif=>if decide ((i64 (zw - zn)) = 1) then jp1 (fun (z38 : Int)=>jp1 (fun (z6v : List Sapi_Come)=>some z6v) fun z7t=>yK z38 z7t yA z6 zn) fun z6r=>yJ z6 zn zU z6r yA zw zA else zif
def y1k (z6 : List Sapi_Come) (zn : Int) (zw : Int) (zA : Int) (zU : Sapi_Come → Sapi_Come → Option Int) : Option (List Sapi_Come):=yQ yA z6 zn zw zA zU
set_option maxRecDepth 20000 in
theorem y3V : ∀ (n : Nat) (Z : Zp) (zN : Option Addr) (zG : Nat) (z1b : FuncId) (z1m : List Value) (z6 : List Sapi_Come) (zn : Int) (zw : Int) (zA : Int) (zU : Sapi_Come → Sapi_Come → Option Int) (r : List Sapi_Come) (w₀ : World) (hz : PZ (fps [row (.slice zN z6.length zG) 50 3 (z6.flatMap e50)]) w₀ Z)
    (z6w : ∀ args w,(callFunc z1b args).run Try.prog w = .ok (.enter z1b args) w)
    (z6x : ∀ w : World,PZ [] w Z → ∀ (x0 : Sapi_Come) (x1 : Sapi_Come) (r : Int),zU x0 x1 = some r → Calls Try.prog z1b (([(.agg #[(.int .i64 x0.fSent),(.int .i64 x0.fNode),(.int .i64 x0.fTime)]),(.agg #[(.int .i64 x1.fSent),(.int .i64 x1.fNode),(.int .i64 x1.fTime)])] : List Value) ++ z1m).toArray w fun e w'=>e = .returned (.int .i64 r) ∧ Hp [] w w' []) (h : yQ n z6 zn zw zA zU = some r)
    (hown : Hp (fps [row (.slice zN z6.length zG) 50 3 (z6.flatMap e50)]) w₀ w₀ [row (.slice zN z6.length zG) 50 3 (z6.flatMap e50)]),Calls Try.prog 67 #[(.slice zN z6.length zG),(.int .i64 zn),(.int .i64 zw),(.int .i64 zA),(.func (.func z1b) #[] (z1m).toArray)] w₀ fun e w'=>e = .returned (.tuple #[]) ∧ (r.length = z6.length) ∧ Hp (fps [row (.slice zN z6.length zG) 50 3 (z6.flatMap e50)]) w₀ w' [row (.slice zN r.length zG) 50 3 (r.flatMap e50)]:=by
  intro n
  induction n with
  | zero=>intro Z zN zG z1b z1m z6 zn zw zA zU r w₀ hz z6w z6x h hown; cases h
  | succ zid ih =>
    intro Z zN zG z1b z1m z6 zn zw zA zU r w₀ hz z6w z6x h hown
    rw [yQ] at h
    refine Calls.yl (vs:=[(.slice zN z6.length zG),(.int .i64 zn),(.int .i64 zw),(.int .i64 zA),(.func (.func z1b) #[] (z1m).toArray)]) (pre:=[row (.slice zN z6.length zG) 50 3 (z6.flatMap e50)]) (env:=[(0,(.slice zN z6.length zG)),(1,(.int .i64 zn)),(2,(.int .i64 zw)),(3,(.int .i64 zA)),(4,(.func (.func z1b) #[] (z1m).toArray))]) Try.func67 rfl Try.ntmps67 rfl (hown) rfl ?_
    obtain ⟨zif,zsj,h⟩:=y2r h
    refine WC.y2d ((zif = some r)) ([(0,(.slice zN z6.length zG)),(1,(.int .i64 zn)),(2,(.int .i64 zw)),(3,(.int .i64 zA)),(4,(.func (.func z1b) #[] (z1m).toArray))]) ([row (.slice zN z6.length zG) 50 3 (z6.flatMap e50)]) ?_ ?_
    · skip
      refine WC.b (WC.a (WL.pu rfl (WL.pu rfl (WL.pu rfl (WL.pu rfl (WL.nil (WX.a ?_)))))))
      refine WC.cond rfl (fun zig=>?_) (fun zig=>?_)
      · replace h:=ym h zig
        refine WC.b (WC.a (WL.pu rfl (WL.pu rfl (WL.nil (WX.a (WC.b (WC.a (WL.pu rfl (WL.pu rfl (WL.nil (WX.a ?_)))))))))))
        obtain ⟨z6r,zsk,h⟩:=y1d h
        refine WC.y1L (fun (z38 : Int)=>(z6r z38 = some r)) (fun (z38 : Int)=>[(0,(.slice zN z6.length zG)),(1,(.int .i64 zn)),(10,(.int .i64 z38))]) (fun (z38 : Int)=>[row (.slice zN z6.length zG) 50 3 (z6.flatMap e50)]) ?_ ?_
        · skip
          refine WC.block ?_
          refine WC.y2q (fun (zaV : Nat) (z1o : Int) (z1w : Int)=>(yJ z6 zn zU z6r zaV z1o z1w = some r)) (fun (zaV : Nat) (z1o : Int) (z1w : Int)=>[(0,(.slice zN z6.length zG)),(1,(.int .i64 zn)),(4,(.func (.func z1b) #[] (z1m).toArray)),(10,(.int .i64 z1o)),(11,(.int .i64 z1w))]) (fun (zaV : Nat) (z1o : Int) (z1w : Int)=>[row (.slice zN z6.length zG) 50 3 (z6.flatMap e50)]) (fun (zaV : Nat) (z1o : Int) (z1w : Int)=>zaV) ⟨yA,zw,zA⟩ h (.cons rfl (.cons rfl (.cons rfl (.cons rfl (.cons rfl .nil))))) (.cons .here .nil) ?_
          rintro zaV z1o z1w h
          obtain ⟨zdl,rfl⟩:=y3y h
          rw [yJ] at h
          refine WC.b (WC.b (WC.a (WL.pu rfl (WL.pu rfl (WL.pu rfl (WL.nil (WX.a ?_)))))))
          refine WC.cond rfl (fun zih=>?_) (fun zih=>?_)
          · replace h:=ym h zih
            refine WC.skip (WX.a (WC.block (WC.b (WC.a (WL.pu rfl (WL.pu rfl (WL.pu rfl ?_)))))))
            refine WL.a (d:=37) rfl rfl rfl (y4K Try.underlying3 Try.underlying157 rfl rfl) ?_
            refine WL.a (d:=38) rfl rfl rfl (q_shr rfl rfl (by decide) rfl) ?_
            refine WL.a (d:=39) rfl rfl rfl (y4K Try.underlying157 Try.underlying3 rfl rfl) ?_
            refine WL.pu rfl (WL.nil (WX.a (WC.b ?_)))
            obtain ⟨zdp,h⟩:=yj h
            obtain ⟨zeW,h⟩:=yj h
            obtain ⟨zi8,zsl,h⟩:=zp h
            refine WC.yV (fun i=>[].contains i) [] rfl ?_
            refine WD.a (i:=0) (d:=40) (by kernel_rfl) rfl (z2 (by kernel_rfl)) (z3 (by kernel_rfl)) rfl rfl rfl (fun _=>q_m rfl) ?_
            refine WD.a (i:=1) (d:=41) (by kernel_rfl) rfl (z2 (by kernel_rfl)) (z3 (by kernel_rfl)) rfl rfl rfl (fun _=>q_m rfl) ?_
            refine WD.a (i:=2) (d:=42) (by kernel_rfl) rfl (z2 (by kernel_rfl)) (z3 (by kernel_rfl)) rfl rfl rfl (fun _=>q_m rfl) ?_
            refine WD.know (fun w hw=>Hp.y2w .here hw (by intro hz'; have:=zdp; rw [hz'] at this; omega)) ?_
            rintro ⟨zxn,rfl⟩
            refine WD.a (i:=3) (d:=43) (by kernel_rfl) rfl (z2 (by kernel_rfl)) (z3 (by kernel_rfl)) rfl rfl rfl (fun _=>yq y15 rfl rfl zdp.1 zdp.2 y18) ?_
            refine WD.e (i:=4) (d:=44) (by kernel_rfl) rfl (z2 (by kernel_rfl)) (z3 (by kernel_rfl)) rfl rfl rfl (y1C (cs:=(e50 (nth z6 (i64 ((u64 (i64 (z1o + z1w))) / 2 ^ min (1 : Int).toNat 64))))) y20 rfl rfl (y1P .here (y1y (enc:=e50) (l:=z6) (i:=i64 ((u64 (i64 (z1o + z1w))) / 2 ^ min (1 : Int).toNat 64)) (sz:=3) (fun _=>rfl) zdp.1 zdp.2))) ?_
            refine WD.a (i:=5) (d:=45) (by kernel_rfl) rfl (z2 (by kernel_rfl)) (z3 (by kernel_rfl)) rfl rfl rfl (fun _=>q_m rfl) ?_
            refine WD.a (i:=6) (d:=46) (by kernel_rfl) rfl (z2 (by kernel_rfl)) (z3 (by kernel_rfl)) rfl rfl rfl (fun _=>q_m rfl) ?_
            refine WD.a (i:=7) (d:=47) (by kernel_rfl) rfl (z2 (by kernel_rfl)) (z3 (by kernel_rfl)) rfl rfl rfl (fun _=>yq y15 rfl rfl zeW.1 zeW.2 y18) ?_
            refine WD.e (i:=8) (d:=48) (by kernel_rfl) rfl (z2 (by kernel_rfl)) (z3 (by kernel_rfl)) rfl rfl rfl (y1C (cs:=(e50 (nth z6 zn))) y20 rfl rfl (y1P .here (y1y (enc:=e50) (l:=z6) (i:=zn) (sz:=3) (fun _=>rfl) zeW.1 zeW.2))) ?_
            refine WD.c (i:=9) (d:=49) (by kernel_rfl) rfl (z2 (by kernel_rfl)) (z3 (by kernel_rfl)) rfl rfl rfl (y3D (l:=[.tmp 44,.tmp 48]) (f:=z1b) (caps:=z1m) z6w rfl (.cons rfl (.cons rfl .nil))) (fun w hw=>z6x w (hz.now hw) (⟨((nth z6 (i64 ((u64 (i64 (z1o + z1w))) / 2 ^ min (1 : Int).toNat 64))).fSent),((nth z6 (i64 ((u64 (i64 (z1o + z1w))) / 2 ^ min (1 : Int).toNat 64))).fNode),((nth z6 (i64 ((u64 (i64 (z1o + z1w))) / 2 ^ min (1 : Int).toNat 64))).fTime)⟩ : Sapi_Come) (⟨((nth z6 zn).fSent),((nth z6 zn).fNode),((nth z6 zn).fTime)⟩ : Sapi_Come) zi8  zsl) ?_
            refine WD.a (i:=10) (d:=50) (by kernel_rfl) rfl (z2 (by kernel_rfl)) (z3 (by kernel_rfl)) rfl rfl rfl (fun _=>y3h rfl rfl) ?_
            refine WD.done (by kernel_rfl) ?_
            refine WX.a ?_
            refine WC.cond rfl (fun zii=>?_) (fun zii=>?_)
            · replace h:=ym h zii
              refine WC.a (WL.pu rfl (WL.pu rfl (WL.pu rfl (WL.nil (WX.yh ?_)))))
              exact WX.round (G:=Nat × Int × Int) ⟨zdl,(i64 ((i64 ((u64 (i64 (z1o + z1w))) / 2 ^ min (1 : Int).toNat 64)) + 1)),z1w⟩ h (Nat.lt_succ_self _) (.cons rfl (.cons rfl (.cons rfl (.cons rfl (.cons rfl .nil))))) (.cons .here .nil)
            · replace h:=yn h zii
              refine WC.a (WL.pu rfl (WL.pu rfl (WL.nil (WX.yh ?_))))
              exact WX.round (G:=Nat × Int × Int) ⟨zdl,z1o,(i64 ((u64 (i64 (z1o + z1w))) / 2 ^ min (1 : Int).toNat 64))⟩ h (Nat.lt_succ_self _) (.cons rfl (.cons rfl (.cons rfl (.cons rfl (.cons rfl .nil))))) (.cons .here .nil)
          · replace h:=yn h zih
            refine WC.exit (WX.yf (WX.yf (WX.yB ?_)))
            exact WX.mid (G:=Int) z1o h (.cons rfl (.cons rfl (.cons rfl .nil))) (.cons .here .nil)
        · rintro z38 h
          replace h:=(zsk z38).symm.trans h
          obtain ⟨z7t,zsm,h⟩:=y1d h
          refine WC.y1L (fun (z6v : List Sapi_Come)=>(z7t z6v = some r) ∧ (z6v.length = z6.length)) (fun (z6v : List Sapi_Come)=>[]) (fun (z6v : List Sapi_Come)=>[row (.slice zN z6v.length zG) 50 3 (z6v.flatMap e50)]) ?_ ?_
          · skip
            refine WC.b (WC.a (WL.pu rfl (WL.pu rfl (WL.nil (WX.a (WC.block ?_))))))
            refine WC.y2q (fun (zaW : Nat) (zs : List Sapi_Come) (zl : Int)=>(yK z38 z7t zaW zs zl = some r) ∧ (zs.length = z6.length)) (fun (zaW : Nat) (zs : List Sapi_Come) (zl : Int)=>[(0,(.slice zN zs.length zG)),(10,(.int .i64 z38)),(13,(.int .i64 zl))]) (fun (zaW : Nat) (zs : List Sapi_Come) (zl : Int)=>[row (.slice zN zs.length zG) 50 3 (zs.flatMap e50)]) (fun (zaW : Nat) (zs : List Sapi_Come) (zl : Int)=>zaW) ⟨yA,z6,zn⟩ ⟨h,rfl⟩ (.cons rfl (.cons rfl (.cons rfl .nil))) (.cons .here .nil) ?_
            rintro zaW zs zl ⟨h,zmT⟩
            obtain ⟨zi9,rfl⟩:=y3z h
            rw [yK] at h
            refine WC.b (WC.b (WC.a (WL.pu rfl (WL.pu rfl (WL.pu rfl (WL.pu rfl (WL.nil (WX.a ?_))))))))
            refine WC.cond rfl (fun zij=>?_) (fun zij=>?_)
            · replace h:=ym h zij
              refine WC.skip (WX.a (WC.b (WC.block ?_)))
              obtain ⟨zdq,h⟩:=yj h
              obtain ⟨z6y,h⟩:=yj h
              obtain ⟨zaX,h⟩:=yj h
              refine WC.yV (fun i=>[15,17].contains i) [] rfl ?_
              refine WD.a (i:=0) (d:=61) (by kernel_rfl) rfl (z2 (by kernel_rfl)) (z3 (by kernel_rfl)) rfl rfl rfl (fun _=>q_m rfl) ?_
              refine WD.a (i:=1) (d:=62) (by kernel_rfl) rfl (z2 (by kernel_rfl)) (z3 (by kernel_rfl)) rfl rfl rfl (fun _=>q_m rfl) ?_
              refine WD.a (i:=2) (d:=63) (by kernel_rfl) rfl (z2 (by kernel_rfl)) (z3 (by kernel_rfl)) rfl rfl rfl (fun _=>q_m rfl) ?_
              refine WD.a (i:=3) (d:=64) (by kernel_rfl) rfl (z2 (by kernel_rfl)) (z3 (by kernel_rfl)) rfl rfl rfl (fun _=>q_m rfl) ?_
              refine WD.a (i:=4) (d:=65) (by kernel_rfl) rfl (z2 (by kernel_rfl)) (z3 (by kernel_rfl)) rfl rfl rfl (fun _=>y4l rfl rfl rfl) ?_
              refine WD.a (i:=5) (d:=66) (by kernel_rfl) rfl (z2 (by kernel_rfl)) (z3 (by kernel_rfl)) rfl rfl rfl (fun _=>q_m rfl) ?_
              refine WD.a (i:=6) (d:=67) (by kernel_rfl) rfl (z2 (by kernel_rfl)) (z3 (by kernel_rfl)) rfl rfl rfl (fun _=>q_m rfl) ?_
              refine WD.a (i:=7) (d:=68) (by kernel_rfl) rfl (z2 (by kernel_rfl)) (z3 (by kernel_rfl)) rfl rfl rfl (fun _=>y4l rfl rfl rfl) ?_
              refine WD.know (fun w hw=>Hp.y2w .here hw (by intro hz'; have:=zdq; rw [hz'] at this; omega)) ?_
              rintro ⟨zdr,rfl⟩
              refine WD.a (i:=8) (d:=69) (by kernel_rfl) rfl (z2 (by kernel_rfl)) (z3 (by kernel_rfl)) rfl rfl rfl (fun _=>yq y15 rfl rfl zdq.1 zdq.2 y18) ?_
              refine WD.e (i:=9) (d:=70) (by kernel_rfl) rfl (z2 (by kernel_rfl)) (z3 (by kernel_rfl)) rfl rfl rfl (y1C (cs:=(e50 (nth zs (i64 (zl + 1))))) y20 rfl rfl (y1P .here (y1y (enc:=e50) (l:=zs) (i:=i64 (zl + 1)) (sz:=3) (fun _=>rfl) zdq.1 zdq.2))) ?_
              refine WD.a (i:=10) (d:=71) (by kernel_rfl) rfl (z2 (by kernel_rfl)) (z3 (by kernel_rfl)) rfl rfl rfl (fun _=>q_m rfl) ?_
              refine WD.a (i:=11) (d:=72) (by kernel_rfl) rfl (z2 (by kernel_rfl)) (z3 (by kernel_rfl)) rfl rfl rfl (fun _=>q_m rfl) ?_
              refine WD.a (i:=12) (d:=73) (by kernel_rfl) rfl (z2 (by kernel_rfl)) (z3 (by kernel_rfl)) rfl rfl rfl (fun _=>yq y15 rfl rfl z6y.1 z6y.2 y18) ?_
              refine WD.e (i:=13) (d:=74) (by kernel_rfl) rfl (z2 (by kernel_rfl)) (z3 (by kernel_rfl)) rfl rfl rfl (y1C (cs:=(e50 (nth zs zl))) y20 rfl rfl (y1P .here (y1y (enc:=e50) (l:=zs) (i:=zl) (sz:=3) (fun _=>rfl) z6y.1 z6y.2))) ?_
              refine WD.a (i:=14) (d:=75) (by kernel_rfl) rfl (z2 (by kernel_rfl)) (z3 (by kernel_rfl)) rfl rfl rfl (fun _=>yq y15 rfl rfl z6y.1 z6y.2 y18) ?_
              refine WD.forced0 (i:=15) rfl (by kernel_rfl) rfl rfl rfl (Sin.of .nil) (y2m (vs:=[(.int .i64 ((nth zs (i64 (zl + 1))).fSent)),(.int .i64 ((nth zs (i64 (zl + 1))).fNode)),(.int .i64 ((nth zs (i64 (zl + 1))).fTime))]) (ds:=(zs.set (zl : Int).toNat (⟨((nth zs (i64 (zl + 1))).fSent),((nth zs (i64 (zl + 1))).fNode),((nth zs (i64 (zl + 1))).fTime)⟩ : Sapi_Come)).flatMap e50) y3R rfl rfl rfl rfl (ocB rfl) .here (y33 (enc:=e50) (sz:=3) (k:=0) (fun _=>rfl) z6y.1 z6y.2 (by decide)) (y31 (enc:=e50) (l:=zs) (sz:=3) (vs:=[(.int .i64 ((nth zs (i64 (zl + 1))).fSent)),(.int .i64 ((nth zs (i64 (zl + 1))).fNode)),(.int .i64 ((nth zs (i64 (zl + 1))).fTime))]) (y:=(⟨((nth zs (i64 (zl + 1))).fSent),((nth zs (i64 (zl + 1))).fNode),((nth zs (i64 (zl + 1))).fTime)⟩ : Sapi_Come)) (k:=0) (fun _=>rfl) z6y.1 z6y.2 rfl (Nat.le_of_ble_eq_true rfl))) ?_
              refine WD.relen .here (u:=(.slice (some ⟨zdr,0,none⟩) ((zs.set (zl : Int).toNat (⟨((nth zs (i64 (zl + 1))).fSent),((nth zs (i64 (zl + 1))).fNode),((nth zs (i64 (zl + 1))).fTime)⟩ : Sapi_Come)).length) zG)) (y1E (List.length_set).symm) ?_
              refine WD.repin (i:=0) rfl (u:=(.slice (some ⟨zdr,0,none⟩) ((zs.set (zl : Int).toNat (⟨((nth zs (i64 (zl + 1))).fSent),((nth zs (i64 (zl + 1))).fNode),((nth zs (i64 (zl + 1))).fTime)⟩ : Sapi_Come)).length) zG)) (y1E (List.length_set).symm) ?_
              refine WD.repin (i:=63) rfl (u:=(.slice (some ⟨zdr,0,none⟩) ((zs.set (zl : Int).toNat (⟨((nth zs (i64 (zl + 1))).fSent),((nth zs (i64 (zl + 1))).fNode),((nth zs (i64 (zl + 1))).fTime)⟩ : Sapi_Come)).length) zG)) (y1E (List.length_set).symm) ?_
              refine WD.a (i:=16) (d:=76) (by kernel_rfl) rfl (z2 (by kernel_rfl)) (z3 (by kernel_rfl)) rfl rfl rfl (fun _=>yq y15 rfl rfl zaX.1 zaX.2 y18) ?_
              refine WD.y30 (i:=17) rfl (by kernel_rfl) rfl rfl rfl (by kernel_rfl) (y2m (vs:=[(.int .i64 ((nth zs zl).fSent)),(.int .i64 ((nth zs zl).fNode)),(.int .i64 ((nth zs zl).fTime))]) (ds:=((zs.set (zl : Int).toNat (⟨((nth zs (i64 (zl + 1))).fSent),((nth zs (i64 (zl + 1))).fNode),((nth zs (i64 (zl + 1))).fTime)⟩ : Sapi_Come)).set ((i64 (zl + 1)) : Int).toNat (⟨((nth zs zl).fSent),((nth zs zl).fNode),((nth zs zl).fTime)⟩ : Sapi_Come)).flatMap e50) y3R rfl rfl rfl rfl (ocB rfl) .here (y33 (enc:=e50) (sz:=3) (k:=0) (fun _=>rfl) zaX.1 zaX.2 (by decide)) (y31 (enc:=e50) (l:=zs.set (zl : Int).toNat (⟨((nth zs (i64 (zl + 1))).fSent),((nth zs (i64 (zl + 1))).fNode),((nth zs (i64 (zl + 1))).fTime)⟩ : Sapi_Come)) (sz:=3) (vs:=[(.int .i64 ((nth zs zl).fSent)),(.int .i64 ((nth zs zl).fNode)),(.int .i64 ((nth zs zl).fTime))]) (y:=(⟨((nth zs zl).fSent),((nth zs zl).fNode),((nth zs zl).fTime)⟩ : Sapi_Come)) (k:=0) (fun _=>rfl) zaX.1 zaX.2 rfl (Nat.le_of_ble_eq_true rfl))) ?_
              refine WD.relen .here (u:=(.slice (some ⟨zdr,0,none⟩) (((zs.set (zl : Int).toNat (⟨((nth zs (i64 (zl + 1))).fSent),((nth zs (i64 (zl + 1))).fNode),((nth zs (i64 (zl + 1))).fTime)⟩ : Sapi_Come)).set ((i64 (zl + 1)) : Int).toNat (⟨((nth zs zl).fSent),((nth zs zl).fNode),((nth zs zl).fTime)⟩ : Sapi_Come)).length) zG)) (y1E (List.length_set).symm) ?_
              refine WD.repin (i:=0) rfl (u:=(.slice (some ⟨zdr,0,none⟩) (((zs.set (zl : Int).toNat (⟨((nth zs (i64 (zl + 1))).fSent),((nth zs (i64 (zl + 1))).fNode),((nth zs (i64 (zl + 1))).fTime)⟩ : Sapi_Come)).set ((i64 (zl + 1)) : Int).toNat (⟨((nth zs zl).fSent),((nth zs zl).fNode),((nth zs zl).fTime)⟩ : Sapi_Come)).length) zG)) (y1E (List.length_set).symm) ?_
              refine WD.done (by kernel_rfl) ?_
              refine WX.yh (WX.a (WC.a (WL.pu rfl (WL.pu rfl (WL.pu rfl (WL.nil ?_))))))
              exact WX.round (G:=Nat × List Sapi_Come × Int) ⟨zi9,((zs.set (zl : Int).toNat (⟨((nth zs (i64 (zl + 1))).fSent),((nth zs (i64 (zl + 1))).fNode),((nth zs (i64 (zl + 1))).fTime)⟩ : Sapi_Come)).set ((i64 (zl + 1)) : Int).toNat (⟨((nth zs zl).fSent),((nth zs zl).fNode),((nth zs zl).fTime)⟩ : Sapi_Come)),(i64 (zl + 1))⟩ ⟨h,((List.length_set).trans ((List.length_set).trans zmT))⟩ (Nat.lt_succ_self _) (.cons rfl (.cons rfl (.cons rfl .nil))) (.cons .here .nil)
            · replace h:=yn h zij
              refine WC.exit (WX.yf (WX.yf (WX.yB ?_)))
              exact WX.mid (G:=List Sapi_Come) zs ⟨h,zmT⟩ .nil (.cons .here .nil)
          · rintro z6v ⟨h,zsn⟩
            replace h:=(zsm z6v).symm.trans h
            refine WC.ret (WX.yg ?_)
            obtain rfl:=Option.some.inj h
            refine WX.yi Try.results67 .nil (fun w hw=>?_)
            exact ⟨y49,zsn,hw.sub (.cons .here .nil)⟩
      · replace h:=yn h zig
        refine WC.skip ?_
        exact WX.mid (G:=Unit) () h (.cons rfl (.cons rfl (.cons rfl (.cons rfl (.cons rfl .nil))))) (.cons .here .nil)
    · rintro  h
      replace h:=zsj.symm.trans h
      obtain ⟨zie,zso,h⟩:=y2r h
      refine WC.y2d ((zie = some r)) ([(0,(.slice zN z6.length zG)),(1,(.int .i64 zn)),(2,(.int .i64 zw)),(3,(.int .i64 zA)),(4,(.func (.func z1b) #[] (z1m).toArray))]) ([row (.slice zN z6.length zG) 50 3 (z6.flatMap e50)]) ?_ ?_
      · skip
        refine WC.b (WC.a (WL.pu rfl (WL.pu rfl (WL.pu rfl (WL.pu rfl (WL.nil (WX.a ?_)))))))
        refine WC.cond rfl (fun zik=>?_) (fun zik=>?_)
        · replace h:=ym h zik
          refine WC.b (WC.a (WL.pu rfl (WL.pu rfl (WL.nil (WX.a (WC.b (WC.a (WL.pu rfl (WL.pu rfl (WL.nil (WX.a ?_)))))))))))
          obtain ⟨z6s,zsp,h⟩:=y1d h
          refine WC.y1L (fun (z39 : Int)=>(z6s z39 = some r)) (fun (z39 : Int)=>[(0,(.slice zN z6.length zG)),(2,(.int .i64 zw)),(14,(.int .i64 z39))]) (fun (z39 : Int)=>[row (.slice zN z6.length zG) 50 3 (z6.flatMap e50)]) ?_ ?_
          · skip
            refine WC.block ?_
            refine WC.y2q (fun (zaY : Nat) (z1p : Int) (z1x : Int)=>(yL zw z6 zU z6s zaY z1p z1x = some r)) (fun (zaY : Nat) (z1p : Int) (z1x : Int)=>[(0,(.slice zN z6.length zG)),(2,(.int .i64 zw)),(4,(.func (.func z1b) #[] (z1m).toArray)),(14,(.int .i64 z1p)),(15,(.int .i64 z1x))]) (fun (zaY : Nat) (z1p : Int) (z1x : Int)=>[row (.slice zN z6.length zG) 50 3 (z6.flatMap e50)]) (fun (zaY : Nat) (z1p : Int) (z1x : Int)=>zaY) ⟨yA,zn,zw⟩ h (.cons rfl (.cons rfl (.cons rfl (.cons rfl (.cons rfl .nil))))) (.cons .here .nil) ?_
            rintro zaY z1p z1x h
            obtain ⟨zdm,rfl⟩:=y3A h
            rw [yL] at h
            refine WC.b (WC.b (WC.a (WL.pu rfl (WL.pu rfl (WL.pu rfl (WL.nil (WX.a ?_)))))))
            refine WC.cond rfl (fun zil=>?_) (fun zil=>?_)
            · replace h:=ym h zil
              refine WC.skip (WX.a (WC.block (WC.b (WC.a (WL.pu rfl (WL.pu rfl (WL.pu rfl ?_)))))))
              refine WL.a (d:=89) rfl rfl rfl (y4K Try.underlying3 Try.underlying157 rfl rfl) ?_
              refine WL.a (d:=90) rfl rfl rfl (q_shr rfl rfl (by decide) rfl) ?_
              refine WL.a (d:=91) rfl rfl rfl (y4K Try.underlying157 Try.underlying3 rfl rfl) ?_
              refine WL.pu rfl (WL.nil (WX.a (WC.b ?_)))
              obtain ⟨zds,h⟩:=yj h
              obtain ⟨zeX,h⟩:=yj h
              obtain ⟨zia,zsq,h⟩:=zp h
              refine WC.yV (fun i=>[].contains i) [] rfl ?_
              refine WD.a (i:=0) (d:=92) (by kernel_rfl) rfl (z2 (by kernel_rfl)) (z3 (by kernel_rfl)) rfl rfl rfl (fun _=>q_m rfl) ?_
              refine WD.a (i:=1) (d:=93) (by kernel_rfl) rfl (z2 (by kernel_rfl)) (z3 (by kernel_rfl)) rfl rfl rfl (fun _=>q_m rfl) ?_
              refine WD.a (i:=2) (d:=94) (by kernel_rfl) rfl (z2 (by kernel_rfl)) (z3 (by kernel_rfl)) rfl rfl rfl (fun _=>q_m rfl) ?_
              refine WD.know (fun w hw=>Hp.y2w .here hw (by intro hz'; have:=zds; rw [hz'] at this; omega)) ?_
              rintro ⟨zxo,rfl⟩
              refine WD.a (i:=3) (d:=95) (by kernel_rfl) rfl (z2 (by kernel_rfl)) (z3 (by kernel_rfl)) rfl rfl rfl (fun _=>yq y15 rfl rfl zds.1 zds.2 y18) ?_
              refine WD.e (i:=4) (d:=96) (by kernel_rfl) rfl (z2 (by kernel_rfl)) (z3 (by kernel_rfl)) rfl rfl rfl (y1C (cs:=(e50 (nth z6 zw))) y20 rfl rfl (y1P .here (y1y (enc:=e50) (l:=z6) (i:=zw) (sz:=3) (fun _=>rfl) zds.1 zds.2))) ?_
              refine WD.a (i:=5) (d:=97) (by kernel_rfl) rfl (z2 (by kernel_rfl)) (z3 (by kernel_rfl)) rfl rfl rfl (fun _=>q_m rfl) ?_
              refine WD.a (i:=6) (d:=98) (by kernel_rfl) rfl (z2 (by kernel_rfl)) (z3 (by kernel_rfl)) rfl rfl rfl (fun _=>q_m rfl) ?_
              refine WD.a (i:=7) (d:=99) (by kernel_rfl) rfl (z2 (by kernel_rfl)) (z3 (by kernel_rfl)) rfl rfl rfl (fun _=>yq y15 rfl rfl zeX.1 zeX.2 y18) ?_
              refine WD.e (i:=8) (d:=100) (by kernel_rfl) rfl (z2 (by kernel_rfl)) (z3 (by kernel_rfl)) rfl rfl rfl (y1C (cs:=(e50 (nth z6 (i64 ((u64 (i64 (z1p + z1x))) / 2 ^ min (1 : Int).toNat 64))))) y20 rfl rfl (y1P .here (y1y (enc:=e50) (l:=z6) (i:=i64 ((u64 (i64 (z1p + z1x))) / 2 ^ min (1 : Int).toNat 64)) (sz:=3) (fun _=>rfl) zeX.1 zeX.2))) ?_
              refine WD.c (i:=9) (d:=101) (by kernel_rfl) rfl (z2 (by kernel_rfl)) (z3 (by kernel_rfl)) rfl rfl rfl (y3D (l:=[.tmp 96,.tmp 100]) (f:=z1b) (caps:=z1m) z6w rfl (.cons rfl (.cons rfl .nil))) (fun w hw=>z6x w (hz.now hw) (⟨((nth z6 zw).fSent),((nth z6 zw).fNode),((nth z6 zw).fTime)⟩ : Sapi_Come) (⟨((nth z6 (i64 ((u64 (i64 (z1p + z1x))) / 2 ^ min (1 : Int).toNat 64))).fSent),((nth z6 (i64 ((u64 (i64 (z1p + z1x))) / 2 ^ min (1 : Int).toNat 64))).fNode),((nth z6 (i64 ((u64 (i64 (z1p + z1x))) / 2 ^ min (1 : Int).toNat 64))).fTime)⟩ : Sapi_Come) zia  zsq) ?_
              refine WD.a (i:=10) (d:=102) (by kernel_rfl) rfl (z2 (by kernel_rfl)) (z3 (by kernel_rfl)) rfl rfl rfl (fun _=>y3h rfl rfl) ?_
              refine WD.a (i:=11) (d:=103) (by kernel_rfl) rfl (z2 (by kernel_rfl)) (z3 (by kernel_rfl)) rfl rfl rfl (fun _=>q_not rfl) ?_
              refine WD.done (by kernel_rfl) ?_
              refine WX.a ?_
              refine WC.cond rfl (fun zim=>?_) (fun zim=>?_)
              · replace h:=ym h zim
                refine WC.a (WL.pu rfl (WL.pu rfl (WL.pu rfl (WL.nil (WX.yh ?_)))))
                exact WX.round (G:=Nat × Int × Int) ⟨zdm,(i64 ((i64 ((u64 (i64 (z1p + z1x))) / 2 ^ min (1 : Int).toNat 64)) + 1)),z1x⟩ h (Nat.lt_succ_self _) (.cons rfl (.cons rfl (.cons rfl (.cons rfl (.cons rfl .nil))))) (.cons .here .nil)
              · replace h:=yn h zim
                refine WC.a (WL.pu rfl (WL.pu rfl (WL.nil (WX.yh ?_))))
                exact WX.round (G:=Nat × Int × Int) ⟨zdm,z1p,(i64 ((u64 (i64 (z1p + z1x))) / 2 ^ min (1 : Int).toNat 64))⟩ h (Nat.lt_succ_self _) (.cons rfl (.cons rfl (.cons rfl (.cons rfl (.cons rfl .nil))))) (.cons .here .nil)
            · replace h:=yn h zil
              refine WC.exit (WX.yf (WX.yf (WX.yB ?_)))
              exact WX.mid (G:=Int) z1p h (.cons rfl (.cons rfl (.cons rfl .nil))) (.cons .here .nil)
          · rintro z39 h
            replace h:=(zsp z39).symm.trans h
            obtain ⟨z7u,zsr,h⟩:=y1d h
            refine WC.y1L (fun (z6u : List Sapi_Come)=>(z7u z6u = some r) ∧ (z6u.length = z6.length)) (fun (z6u : List Sapi_Come)=>[]) (fun (z6u : List Sapi_Come)=>[row (.slice zN z6u.length zG) 50 3 (z6u.flatMap e50)]) ?_ ?_
            · skip
              refine WC.b (WC.a (WL.pu rfl (WL.pu rfl (WL.nil (WX.a (WC.block ?_))))))
              refine WC.y2q (fun (zaZ : Nat) (zt : List Sapi_Come) (zm : Int)=>(yR z39 z7u zaZ zt zm = some r) ∧ (zt.length = z6.length)) (fun (zaZ : Nat) (zt : List Sapi_Come) (zm : Int)=>[(0,(.slice zN zt.length zG)),(14,(.int .i64 z39)),(17,(.int .i64 zm))]) (fun (zaZ : Nat) (zt : List Sapi_Come) (zm : Int)=>[row (.slice zN zt.length zG) 50 3 (zt.flatMap e50)]) (fun (zaZ : Nat) (zt : List Sapi_Come) (zm : Int)=>zaZ) ⟨yA,z6,zw⟩ ⟨h,rfl⟩ (.cons rfl (.cons rfl (.cons rfl .nil))) (.cons .here .nil) ?_
              rintro zaZ zt zm ⟨h,zmU⟩
              obtain ⟨zib,rfl⟩:=y3B h
              rw [yR] at h
              refine WC.b (WC.b (WC.a (WL.pu rfl (WL.pu rfl (WL.pu rfl (WL.nil (WX.a ?_)))))))
              refine WC.cond rfl (fun zin=>?_) (fun zin=>?_)
              · replace h:=ym h zin
                refine WC.skip (WX.a (WC.b (WC.block ?_)))
                obtain ⟨zdt,h⟩:=yj h
                obtain ⟨z6z,h⟩:=yj h
                obtain ⟨zb0,h⟩:=yj h
                refine WC.yV (fun i=>[15,17].contains i) [] rfl ?_
                refine WD.a (i:=0) (d:=113) (by kernel_rfl) rfl (z2 (by kernel_rfl)) (z3 (by kernel_rfl)) rfl rfl rfl (fun _=>q_m rfl) ?_
                refine WD.a (i:=1) (d:=114) (by kernel_rfl) rfl (z2 (by kernel_rfl)) (z3 (by kernel_rfl)) rfl rfl rfl (fun _=>q_m rfl) ?_
                refine WD.a (i:=2) (d:=115) (by kernel_rfl) rfl (z2 (by kernel_rfl)) (z3 (by kernel_rfl)) rfl rfl rfl (fun _=>q_m rfl) ?_
                refine WD.a (i:=3) (d:=116) (by kernel_rfl) rfl (z2 (by kernel_rfl)) (z3 (by kernel_rfl)) rfl rfl rfl (fun _=>q_m rfl) ?_
                refine WD.a (i:=4) (d:=117) (by kernel_rfl) rfl (z2 (by kernel_rfl)) (z3 (by kernel_rfl)) rfl rfl rfl (fun _=>y45 rfl rfl rfl) ?_
                refine WD.a (i:=5) (d:=118) (by kernel_rfl) rfl (z2 (by kernel_rfl)) (z3 (by kernel_rfl)) rfl rfl rfl (fun _=>q_m rfl) ?_
                refine WD.a (i:=6) (d:=119) (by kernel_rfl) rfl (z2 (by kernel_rfl)) (z3 (by kernel_rfl)) rfl rfl rfl (fun _=>q_m rfl) ?_
                refine WD.a (i:=7) (d:=120) (by kernel_rfl) rfl (z2 (by kernel_rfl)) (z3 (by kernel_rfl)) rfl rfl rfl (fun _=>y45 rfl rfl rfl) ?_
                refine WD.know (fun w hw=>Hp.y2w .here hw (by intro hz'; have:=zdt; rw [hz'] at this; omega)) ?_
                rintro ⟨zdu,rfl⟩
                refine WD.a (i:=8) (d:=121) (by kernel_rfl) rfl (z2 (by kernel_rfl)) (z3 (by kernel_rfl)) rfl rfl rfl (fun _=>yq y15 rfl rfl zdt.1 zdt.2 y18) ?_
                refine WD.e (i:=9) (d:=122) (by kernel_rfl) rfl (z2 (by kernel_rfl)) (z3 (by kernel_rfl)) rfl rfl rfl (y1C (cs:=(e50 (nth zt (i64 (zm - 1))))) y20 rfl rfl (y1P .here (y1y (enc:=e50) (l:=zt) (i:=i64 (zm - 1)) (sz:=3) (fun _=>rfl) zdt.1 zdt.2))) ?_
                refine WD.a (i:=10) (d:=123) (by kernel_rfl) rfl (z2 (by kernel_rfl)) (z3 (by kernel_rfl)) rfl rfl rfl (fun _=>q_m rfl) ?_
                refine WD.a (i:=11) (d:=124) (by kernel_rfl) rfl (z2 (by kernel_rfl)) (z3 (by kernel_rfl)) rfl rfl rfl (fun _=>q_m rfl) ?_
                refine WD.a (i:=12) (d:=125) (by kernel_rfl) rfl (z2 (by kernel_rfl)) (z3 (by kernel_rfl)) rfl rfl rfl (fun _=>yq y15 rfl rfl z6z.1 z6z.2 y18) ?_
                refine WD.e (i:=13) (d:=126) (by kernel_rfl) rfl (z2 (by kernel_rfl)) (z3 (by kernel_rfl)) rfl rfl rfl (y1C (cs:=(e50 (nth zt zm))) y20 rfl rfl (y1P .here (y1y (enc:=e50) (l:=zt) (i:=zm) (sz:=3) (fun _=>rfl) z6z.1 z6z.2))) ?_
                refine WD.a (i:=14) (d:=127) (by kernel_rfl) rfl (z2 (by kernel_rfl)) (z3 (by kernel_rfl)) rfl rfl rfl (fun _=>yq y15 rfl rfl z6z.1 z6z.2 y18) ?_
                refine WD.forced0 (i:=15) rfl (by kernel_rfl) rfl rfl rfl (Sin.of .nil) (y2m (vs:=[(.int .i64 ((nth zt (i64 (zm - 1))).fSent)),(.int .i64 ((nth zt (i64 (zm - 1))).fNode)),(.int .i64 ((nth zt (i64 (zm - 1))).fTime))]) (ds:=(zt.set (zm : Int).toNat (⟨((nth zt (i64 (zm - 1))).fSent),((nth zt (i64 (zm - 1))).fNode),((nth zt (i64 (zm - 1))).fTime)⟩ : Sapi_Come)).flatMap e50) y3R rfl rfl rfl rfl (ocB rfl) .here (y33 (enc:=e50) (sz:=3) (k:=0) (fun _=>rfl) z6z.1 z6z.2 (by decide)) (y31 (enc:=e50) (l:=zt) (sz:=3) (vs:=[(.int .i64 ((nth zt (i64 (zm - 1))).fSent)),(.int .i64 ((nth zt (i64 (zm - 1))).fNode)),(.int .i64 ((nth zt (i64 (zm - 1))).fTime))]) (y:=(⟨((nth zt (i64 (zm - 1))).fSent),((nth zt (i64 (zm - 1))).fNode),((nth zt (i64 (zm - 1))).fTime)⟩ : Sapi_Come)) (k:=0) (fun _=>rfl) z6z.1 z6z.2 rfl (Nat.le_of_ble_eq_true rfl))) ?_
                refine WD.relen .here (u:=(.slice (some ⟨zdu,0,none⟩) ((zt.set (zm : Int).toNat (⟨((nth zt (i64 (zm - 1))).fSent),((nth zt (i64 (zm - 1))).fNode),((nth zt (i64 (zm - 1))).fTime)⟩ : Sapi_Come)).length) zG)) (y1E (List.length_set).symm) ?_
                refine WD.repin (i:=0) rfl (u:=(.slice (some ⟨zdu,0,none⟩) ((zt.set (zm : Int).toNat (⟨((nth zt (i64 (zm - 1))).fSent),((nth zt (i64 (zm - 1))).fNode),((nth zt (i64 (zm - 1))).fTime)⟩ : Sapi_Come)).length) zG)) (y1E (List.length_set).symm) ?_
                refine WD.repin (i:=115) rfl (u:=(.slice (some ⟨zdu,0,none⟩) ((zt.set (zm : Int).toNat (⟨((nth zt (i64 (zm - 1))).fSent),((nth zt (i64 (zm - 1))).fNode),((nth zt (i64 (zm - 1))).fTime)⟩ : Sapi_Come)).length) zG)) (y1E (List.length_set).symm) ?_
                refine WD.a (i:=16) (d:=128) (by kernel_rfl) rfl (z2 (by kernel_rfl)) (z3 (by kernel_rfl)) rfl rfl rfl (fun _=>yq y15 rfl rfl zb0.1 zb0.2 y18) ?_
                refine WD.y30 (i:=17) rfl (by kernel_rfl) rfl rfl rfl (by kernel_rfl) (y2m (vs:=[(.int .i64 ((nth zt zm).fSent)),(.int .i64 ((nth zt zm).fNode)),(.int .i64 ((nth zt zm).fTime))]) (ds:=((zt.set (zm : Int).toNat (⟨((nth zt (i64 (zm - 1))).fSent),((nth zt (i64 (zm - 1))).fNode),((nth zt (i64 (zm - 1))).fTime)⟩ : Sapi_Come)).set ((i64 (zm - 1)) : Int).toNat (⟨((nth zt zm).fSent),((nth zt zm).fNode),((nth zt zm).fTime)⟩ : Sapi_Come)).flatMap e50) y3R rfl rfl rfl rfl (ocB rfl) .here (y33 (enc:=e50) (sz:=3) (k:=0) (fun _=>rfl) zb0.1 zb0.2 (by decide)) (y31 (enc:=e50) (l:=zt.set (zm : Int).toNat (⟨((nth zt (i64 (zm - 1))).fSent),((nth zt (i64 (zm - 1))).fNode),((nth zt (i64 (zm - 1))).fTime)⟩ : Sapi_Come)) (sz:=3) (vs:=[(.int .i64 ((nth zt zm).fSent)),(.int .i64 ((nth zt zm).fNode)),(.int .i64 ((nth zt zm).fTime))]) (y:=(⟨((nth zt zm).fSent),((nth zt zm).fNode),((nth zt zm).fTime)⟩ : Sapi_Come)) (k:=0) (fun _=>rfl) zb0.1 zb0.2 rfl (Nat.le_of_ble_eq_true rfl))) ?_
                refine WD.relen .here (u:=(.slice (some ⟨zdu,0,none⟩) (((zt.set (zm : Int).toNat (⟨((nth zt (i64 (zm - 1))).fSent),((nth zt (i64 (zm - 1))).fNode),((nth zt (i64 (zm - 1))).fTime)⟩ : Sapi_Come)).set ((i64 (zm - 1)) : Int).toNat (⟨((nth zt zm).fSent),((nth zt zm).fNode),((nth zt zm).fTime)⟩ : Sapi_Come)).length) zG)) (y1E (List.length_set).symm) ?_
                refine WD.repin (i:=0) rfl (u:=(.slice (some ⟨zdu,0,none⟩) (((zt.set (zm : Int).toNat (⟨((nth zt (i64 (zm - 1))).fSent),((nth zt (i64 (zm - 1))).fNode),((nth zt (i64 (zm - 1))).fTime)⟩ : Sapi_Come)).set ((i64 (zm - 1)) : Int).toNat (⟨((nth zt zm).fSent),((nth zt zm).fNode),((nth zt zm).fTime)⟩ : Sapi_Come)).length) zG)) (y1E (List.length_set).symm) ?_
                refine WD.done (by kernel_rfl) ?_
                refine WX.yh (WX.a (WC.a (WL.pu rfl (WL.pu rfl (WL.pu rfl (WL.nil ?_))))))
                exact WX.round (G:=Nat × List Sapi_Come × Int) ⟨zib,((zt.set (zm : Int).toNat (⟨((nth zt (i64 (zm - 1))).fSent),((nth zt (i64 (zm - 1))).fNode),((nth zt (i64 (zm - 1))).fTime)⟩ : Sapi_Come)).set ((i64 (zm - 1)) : Int).toNat (⟨((nth zt zm).fSent),((nth zt zm).fNode),((nth zt zm).fTime)⟩ : Sapi_Come)),(i64 (zm - 1))⟩ ⟨h,((List.length_set).trans ((List.length_set).trans zmU))⟩ (Nat.lt_succ_self _) (.cons rfl (.cons rfl (.cons rfl .nil))) (.cons .here .nil)
              · replace h:=yn h zin
                refine WC.exit (WX.yf (WX.yf (WX.yB ?_)))
                exact WX.mid (G:=List Sapi_Come) zt ⟨h,zmU⟩ .nil (.cons .here .nil)
            · rintro z6u ⟨h,zss⟩
              replace h:=(zsr z6u).symm.trans h
              refine WC.ret (WX.yg ?_)
              obtain rfl:=Option.some.inj h
              refine WX.yi Try.results67 .nil (fun w hw=>?_)
              exact ⟨y49,zss,hw.sub (.cons .here .nil)⟩
        · replace h:=yn h zik
          refine WC.skip ?_
          exact WX.mid (G:=Unit) () h (.cons rfl (.cons rfl (.cons rfl (.cons rfl (.cons rfl .nil))))) (.cons .here .nil)
      · rintro  h
        replace h:=zso.symm.trans h
        refine WC.b (WC.a (WL.pu rfl (WL.pu rfl (WL.pu rfl ?_))))
        refine WL.a (d:=132) rfl rfl rfl (y4K Try.underlying3 Try.underlying157 rfl rfl) ?_
        refine WL.a (d:=133) rfl rfl rfl (q_shr rfl rfl (by decide) rfl) ?_
        refine WL.a (d:=134) rfl rfl rfl (y4K Try.underlying157 Try.underlying3 rfl rfl) ?_
        refine WL.pu rfl (WL.nil (WX.a (WC.b (WC.a (WL.pu rfl (WL.pu rfl (WL.pu rfl (WL.pu rfl (WL.nil (WX.a (WC.b (WC.a (WL.pu rfl (WL.pu rfl (WL.nil ?_)))))))))))))))
        refine WX.a ?_
        obtain ⟨zeV,zst,h⟩:=y32 h
        refine WC.y2p (fun (z7v : Int) (z7w : Int)=>(zeV z7v z7w = some r)) (fun (z7v : Int) (z7w : Int)=>[(0,(.slice zN z6.length zG)),(1,(.int .i64 zn)),(2,(.int .i64 zw)),(3,(.int .i64 zA)),(4,(.func (.func z1b) #[] (z1m).toArray)),(18,(.int .i64 (i64 ((u64 (i64 (zn + zA))) / 2 ^ min (1 : Int).toNat 64)))),(19,(.int .i64 (i64 ((i64 ((u64 (i64 (zn + zA))) / 2 ^ min (1 : Int).toNat 64)) + zw)))),(20,(.int .i64 z7v)),(21,(.int .i64 z7w))]) (fun (z7v : Int) (z7w : Int)=>[row (.slice zN z6.length zG) 50 3 (z6.flatMap e50)]) ?_ ?_
        · skip
          refine WC.b (WC.a (WL.pu rfl (WL.pu rfl (WL.pu rfl (WL.nil (WX.a ?_))))))
          refine WC.cond rfl (fun zio=>?_) (fun zio=>?_)
          · replace h:=ym h zio
            refine WC.b (WC.a (WL.pu rfl (WL.pu rfl (WL.pu rfl (WL.pu rfl (WL.nil (WX.a (WC.a (WL.pu rfl (WL.pu rfl (WL.nil ?_)))))))))))
            exact WX.mid (G:=Int × Int) ⟨(i64 ((i64 ((i64 ((u64 (i64 (zn + zA))) / 2 ^ min (1 : Int).toNat 64)) + zw)) - zA)),(i64 ((u64 (i64 (zn + zA))) / 2 ^ min (1 : Int).toNat 64))⟩ h (.cons rfl (.cons rfl (.cons rfl (.cons rfl (.cons rfl (.cons rfl (.cons rfl (.cons rfl (.cons rfl .nil))))))))) (.cons .here .nil)
          · replace h:=yn h zio
            refine WC.b (WC.a (WL.pu rfl (WL.pu rfl (WL.nil (WX.a (WC.a (WL.pu rfl (WL.pu rfl (WL.nil ?_)))))))))
            exact WX.mid (G:=Int × Int) ⟨zn,zw⟩ h (.cons rfl (.cons rfl (.cons rfl (.cons rfl (.cons rfl (.cons rfl (.cons rfl (.cons rfl (.cons rfl .nil))))))))) (.cons .here .nil)
        · rintro z7v z7w h
          replace h:=(zst z7v z7w).symm.trans h
          refine WC.b (WC.a (WL.pu rfl (WL.pu rfl (WL.pu rfl (WL.nil (WX.a ?_))))))
          obtain ⟨z6t,zsu,h⟩:=y1d h
          refine WC.y1L (fun (z1q : Int)=>(z6t z1q = some r)) (fun (z1q : Int)=>[(0,(.slice zN z6.length zG)),(1,(.int .i64 zn)),(2,(.int .i64 zw)),(3,(.int .i64 zA)),(4,(.func (.func z1b) #[] (z1m).toArray)),(18,(.int .i64 (i64 ((u64 (i64 (zn + zA))) / 2 ^ min (1 : Int).toNat 64)))),(19,(.int .i64 (i64 ((i64 ((u64 (i64 (zn + zA))) / 2 ^ min (1 : Int).toNat 64)) + zw)))),(20,(.int .i64 z1q))]) (fun (z1q : Int)=>[row (.slice zN z6.length zG) 50 3 (z6.flatMap e50)]) ?_ ?_
          · skip
            refine WC.block ?_
            refine WC.y2q (fun (zb1 : Nat) (zZ : Int) (z14 : Int)=>(yG zn zA zw z6 zU z6t zb1 zZ z14 = some r)) (fun (zb1 : Nat) (zZ : Int) (z14 : Int)=>[(0,(.slice zN z6.length zG)),(1,(.int .i64 zn)),(2,(.int .i64 zw)),(3,(.int .i64 zA)),(4,(.func (.func z1b) #[] (z1m).toArray)),(18,(.int .i64 (i64 ((u64 (i64 (zn + zA))) / 2 ^ min (1 : Int).toNat 64)))),(19,(.int .i64 (i64 ((i64 ((u64 (i64 (zn + zA))) / 2 ^ min (1 : Int).toNat 64)) + zw)))),(20,(.int .i64 zZ)),(21,(.int .i64 z14)),(22,(.int .i64 (i64 ((i64 ((i64 ((u64 (i64 (zn + zA))) / 2 ^ min (1 : Int).toNat 64)) + zw)) - 1))))]) (fun (zb1 : Nat) (zZ : Int) (z14 : Int)=>[row (.slice zN z6.length zG) 50 3 (z6.flatMap e50)]) (fun (zb1 : Nat) (zZ : Int) (z14 : Int)=>zb1) ⟨yA,z7v,z7w⟩ h (.cons rfl (.cons rfl (.cons rfl (.cons rfl (.cons rfl (.cons rfl (.cons rfl (.cons rfl (.cons rfl (.cons rfl .nil)))))))))) (.cons .here .nil) ?_
            rintro zb1 zZ z14 h
            obtain ⟨zdn,rfl⟩:=y3v h
            rw [yG] at h
            refine WC.b (WC.b (WC.a (WL.pu rfl (WL.pu rfl (WL.pu rfl (WL.nil (WX.a ?_)))))))
            refine WC.cond rfl (fun ziq=>?_) (fun ziq=>?_)
            · replace h:=ym h ziq
              refine WC.skip (WX.a (WC.block (WC.b (WC.a (WL.pu rfl (WL.pu rfl (WL.pu rfl ?_)))))))
              refine WL.a (d:=155) rfl rfl rfl (y4K Try.underlying3 Try.underlying157 rfl rfl) ?_
              refine WL.a (d:=156) rfl rfl rfl (q_shr rfl rfl (by decide) rfl) ?_
              refine WL.a (d:=157) rfl rfl rfl (y4K Try.underlying157 Try.underlying3 rfl rfl) ?_
              refine WL.pu rfl (WL.nil (WX.a (WC.b ?_)))
              obtain ⟨zdv,h⟩:=yj h
              obtain ⟨zeY,h⟩:=yj h
              obtain ⟨zic,zsv,h⟩:=zp h
              refine WC.yV (fun i=>[].contains i) [] rfl ?_
              refine WD.a (i:=0) (d:=158) (by kernel_rfl) rfl (z2 (by kernel_rfl)) (z3 (by kernel_rfl)) rfl rfl rfl (fun _=>q_m rfl) ?_
              refine WD.a (i:=1) (d:=159) (by kernel_rfl) rfl (z2 (by kernel_rfl)) (z3 (by kernel_rfl)) rfl rfl rfl (fun _=>q_m rfl) ?_
              refine WD.a (i:=2) (d:=160) (by kernel_rfl) rfl (z2 (by kernel_rfl)) (z3 (by kernel_rfl)) rfl rfl rfl (fun _=>q_m rfl) ?_
              refine WD.a (i:=3) (d:=161) (by kernel_rfl) rfl (z2 (by kernel_rfl)) (z3 (by kernel_rfl)) rfl rfl rfl (fun _=>q_m rfl) ?_
              refine WD.a (i:=4) (d:=162) (by kernel_rfl) rfl (z2 (by kernel_rfl)) (z3 (by kernel_rfl)) rfl rfl rfl (fun _=>y45 rfl rfl rfl) ?_
              refine WD.know (fun w hw=>Hp.y2w .here hw (by intro hz'; have:=zdv; rw [hz'] at this; omega)) ?_
              rintro ⟨zxp,rfl⟩
              refine WD.a (i:=5) (d:=163) (by kernel_rfl) rfl (z2 (by kernel_rfl)) (z3 (by kernel_rfl)) rfl rfl rfl (fun _=>yq y15 rfl rfl zdv.1 zdv.2 y18) ?_
              refine WD.e (i:=6) (d:=164) (by kernel_rfl) rfl (z2 (by kernel_rfl)) (z3 (by kernel_rfl)) rfl rfl rfl (y1C (cs:=(e50 (nth z6 (i64 ((i64 ((i64 ((i64 ((u64 (i64 (zn + zA))) / 2 ^ min (1 : Int).toNat 64)) + zw)) - 1)) - (i64 ((u64 (i64 (zZ + z14))) / 2 ^ min (1 : Int).toNat 64))))))) y20 rfl rfl (y1P .here (y1y (enc:=e50) (l:=z6) (i:=i64 ((i64 ((i64 ((i64 ((u64 (i64 (zn + zA))) / 2 ^ min (1 : Int).toNat 64)) + zw)) - 1)) - (i64 ((u64 (i64 (zZ + z14))) / 2 ^ min (1 : Int).toNat 64)))) (sz:=3) (fun _=>rfl) zdv.1 zdv.2))) ?_
              refine WD.a (i:=7) (d:=165) (by kernel_rfl) rfl (z2 (by kernel_rfl)) (z3 (by kernel_rfl)) rfl rfl rfl (fun _=>q_m rfl) ?_
              refine WD.a (i:=8) (d:=166) (by kernel_rfl) rfl (z2 (by kernel_rfl)) (z3 (by kernel_rfl)) rfl rfl rfl (fun _=>q_m rfl) ?_
              refine WD.a (i:=9) (d:=167) (by kernel_rfl) rfl (z2 (by kernel_rfl)) (z3 (by kernel_rfl)) rfl rfl rfl (fun _=>yq y15 rfl rfl zeY.1 zeY.2 y18) ?_
              refine WD.e (i:=10) (d:=168) (by kernel_rfl) rfl (z2 (by kernel_rfl)) (z3 (by kernel_rfl)) rfl rfl rfl (y1C (cs:=(e50 (nth z6 (i64 ((u64 (i64 (zZ + z14))) / 2 ^ min (1 : Int).toNat 64))))) y20 rfl rfl (y1P .here (y1y (enc:=e50) (l:=z6) (i:=i64 ((u64 (i64 (zZ + z14))) / 2 ^ min (1 : Int).toNat 64)) (sz:=3) (fun _=>rfl) zeY.1 zeY.2))) ?_
              refine WD.c (i:=11) (d:=169) (by kernel_rfl) rfl (z2 (by kernel_rfl)) (z3 (by kernel_rfl)) rfl rfl rfl (y3D (l:=[.tmp 164,.tmp 168]) (f:=z1b) (caps:=z1m) z6w rfl (.cons rfl (.cons rfl .nil))) (fun w hw=>z6x w (hz.now hw) (⟨((nth z6 (i64 ((i64 ((i64 ((i64 ((u64 (i64 (zn + zA))) / 2 ^ min (1 : Int).toNat 64)) + zw)) - 1)) - (i64 ((u64 (i64 (zZ + z14))) / 2 ^ min (1 : Int).toNat 64))))).fSent),((nth z6 (i64 ((i64 ((i64 ((i64 ((u64 (i64 (zn + zA))) / 2 ^ min (1 : Int).toNat 64)) + zw)) - 1)) - (i64 ((u64 (i64 (zZ + z14))) / 2 ^ min (1 : Int).toNat 64))))).fNode),((nth z6 (i64 ((i64 ((i64 ((i64 ((u64 (i64 (zn + zA))) / 2 ^ min (1 : Int).toNat 64)) + zw)) - 1)) - (i64 ((u64 (i64 (zZ + z14))) / 2 ^ min (1 : Int).toNat 64))))).fTime)⟩ : Sapi_Come) (⟨((nth z6 (i64 ((u64 (i64 (zZ + z14))) / 2 ^ min (1 : Int).toNat 64))).fSent),((nth z6 (i64 ((u64 (i64 (zZ + z14))) / 2 ^ min (1 : Int).toNat 64))).fNode),((nth z6 (i64 ((u64 (i64 (zZ + z14))) / 2 ^ min (1 : Int).toNat 64))).fTime)⟩ : Sapi_Come) zic  zsv) ?_
              refine WD.a (i:=12) (d:=170) (by kernel_rfl) rfl (z2 (by kernel_rfl)) (z3 (by kernel_rfl)) rfl rfl rfl (fun _=>y3h rfl rfl) ?_
              refine WD.a (i:=13) (d:=171) (by kernel_rfl) rfl (z2 (by kernel_rfl)) (z3 (by kernel_rfl)) rfl rfl rfl (fun _=>q_not rfl) ?_
              refine WD.done (by kernel_rfl) ?_
              refine WX.a ?_
              refine WC.cond rfl (fun zir=>?_) (fun zir=>?_)
              · replace h:=ym h zir
                refine WC.a (WL.pu rfl (WL.pu rfl (WL.pu rfl (WL.nil (WX.yh ?_)))))
                exact WX.round (G:=Nat × Int × Int) ⟨zdn,(i64 ((i64 ((u64 (i64 (zZ + z14))) / 2 ^ min (1 : Int).toNat 64)) + 1)),z14⟩ h (Nat.lt_succ_self _) (.cons rfl (.cons rfl (.cons rfl (.cons rfl (.cons rfl (.cons rfl (.cons rfl (.cons rfl (.cons rfl (.cons rfl .nil)))))))))) (.cons .here .nil)
              · replace h:=yn h zir
                refine WC.a (WL.pu rfl (WL.pu rfl (WL.nil (WX.yh ?_))))
                exact WX.round (G:=Nat × Int × Int) ⟨zdn,zZ,(i64 ((u64 (i64 (zZ + z14))) / 2 ^ min (1 : Int).toNat 64))⟩ h (Nat.lt_succ_self _) (.cons rfl (.cons rfl (.cons rfl (.cons rfl (.cons rfl (.cons rfl (.cons rfl (.cons rfl (.cons rfl (.cons rfl .nil)))))))))) (.cons .here .nil)
            · replace h:=yn h ziq
              refine WC.exit (WX.yf (WX.yf (WX.yB ?_)))
              exact WX.mid (G:=Int) zZ h (.cons rfl (.cons rfl (.cons rfl (.cons rfl (.cons rfl (.cons rfl (.cons rfl (.cons rfl .nil)))))))) (.cons .here .nil)
          · rintro z1q h
            replace h:=(zsu z1q).symm.trans h
            refine WC.b (WC.a (WL.pu rfl (WL.pu rfl (WL.pu rfl (WL.pu rfl (WL.nil (WX.a ?_)))))))
            obtain ⟨zeT,zsw,h⟩:=y1d h
            refine WC.y1L (fun (z3u : List Sapi_Come)=>(zeT z3u = some r) ∧ (z3u.length = z6.length)) (fun (z3u : List Sapi_Come)=>[(0,(.slice zN z3u.length zG)),(1,(.int .i64 zn)),(3,(.int .i64 zA)),(4,(.func (.func z1b) #[] (z1m).toArray)),(18,(.int .i64 (i64 ((u64 (i64 (zn + zA))) / 2 ^ min (1 : Int).toNat 64)))),(20,(.int .i64 z1q)),(24,(.int .i64 (i64 ((i64 ((i64 ((u64 (i64 (zn + zA))) / 2 ^ min (1 : Int).toNat 64)) + zw)) - z1q))))]) (fun (z3u : List Sapi_Come)=>[row (.slice zN z3u.length zG) 50 3 (z3u.flatMap e50)]) ?_ ?_
            · skip
              refine WC.b (WC.a (WL.pu rfl (WL.pu rfl (WL.pu rfl (WL.pu rfl ?_)))))
              refine WL.seg true 3 181 (B:=(decide (z1q < zw)) && (decide (zw < (i64 ((i64 ((i64 ((u64 (i64 (zn + zA))) / 2 ^ min (1 : Int).toNat 64)) + zw)) - z1q))))) rfl rfl rfl rfl rfl rfl (fun h=>(y2n h).symm) (fun _ zsx=>?_) ?_
              · skip
                refine WL.pu rfl (WL.pu rfl (WL.pu rfl (WL.pu rfl ?_)))
                exact WL.ys (y2o zsx) rfl rfl .all
              refine WL.nil (WX.a ?_)
              refine WC.cond rfl (fun zis=>?_) (fun zis=>?_)
              · replace h:=ym h zis
                obtain ⟨zeU,zsy,h⟩:=zp h
                refine WC.a (WL.pu rfl (WL.pu rfl (WL.pu rfl (WL.pu rfl (WL.pu rfl ?_)))))
                refine WL.y1F (dd:=191) rfl rfl rfl (zF (l:=[.tmp 186,.tmp 187,.tmp 188,.tmp 189,.tmp 190]) Try.call68 (.cons rfl (.cons rfl (.cons rfl (.cons rfl (.cons rfl .nil)))))) (.cons .here .nil) (cc hz (.cons .here .nil) fun w pz ho=>y4h _ _ _ (z4C:=z1b) (z6q:=z1m) _ _ _ _ (z2K:=zU) _ zsy w pz z6w z6x ho) ?_
                rintro  zmV
                refine WL.repin (i:=0) rfl (u:=(.slice zN zeU.length zG)) (y1E zmV.symm) ?_
                refine WL.nil ?_
                exact WX.mid (G:=List Sapi_Come) zeU ⟨h,(zmV.trans rfl)⟩ (.cons rfl (.cons rfl (.cons rfl (.cons rfl (.cons rfl (.cons rfl (.cons rfl .nil))))))) (.cons .here .nil)
              · replace h:=yn h zis
                refine WC.skip ?_
                exact WX.mid (G:=List Sapi_Come) z6 ⟨h,rfl⟩ (.cons rfl (.cons rfl (.cons rfl (.cons rfl (.cons rfl (.cons rfl (.cons rfl .nil))))))) (.cons .here .nil)
            · rintro z3u ⟨h,zmW⟩
              replace h:=(zsw z3u).symm.trans h
              obtain ⟨zeS,zsz,h⟩:=y1d h
              refine WC.y1L (fun (z3I : List Sapi_Come)=>(zeS z3I = some r) ∧ (z3I.length = z6.length)) (fun (z3I : List Sapi_Come)=>[(0,(.slice zN z3I.length zG)),(3,(.int .i64 zA)),(4,(.func (.func z1b) #[] (z1m).toArray)),(18,(.int .i64 (i64 ((u64 (i64 (zn + zA))) / 2 ^ min (1 : Int).toNat 64)))),(24,(.int .i64 (i64 ((i64 ((i64 ((u64 (i64 (zn + zA))) / 2 ^ min (1 : Int).toNat 64)) + zw)) - z1q))))]) (fun (z3I : List Sapi_Come)=>[row (.slice zN z3I.length zG) 50 3 (z3I.flatMap e50)]) ?_ ?_
              · skip
                refine WC.b (WC.a (WL.pu rfl (WL.pu rfl (WL.pu rfl (WL.pu rfl ?_)))))
                refine WL.seg true 3 195 (B:=(decide (zn < z1q)) && (decide (z1q < (i64 ((u64 (i64 (zn + zA))) / 2 ^ min (1 : Int).toNat 64))))) rfl rfl rfl rfl rfl rfl (fun h=>(y2n h).symm) (fun _ zsA=>?_) ?_
                · skip
                  refine WL.pu rfl (WL.pu rfl (WL.pu rfl (WL.pu rfl ?_)))
                  exact WL.ys (y2o zsA) rfl rfl .all
                refine WL.nil (WX.a ?_)
                refine WC.cond rfl (fun zit=>?_) (fun zit=>?_)
                · replace h:=ym h zit
                  obtain ⟨zdo,zsB,h⟩:=zp h
                  refine WC.a (WL.pu rfl (WL.pu rfl (WL.pu rfl (WL.pu rfl (WL.pu rfl ?_)))))
                  refine WL.y1F (dd:=205) rfl rfl rfl (zF (l:=[.tmp 200,.tmp 201,.tmp 202,.tmp 203,.tmp 204]) Try.call67 (.cons rfl (.cons rfl (.cons rfl (.cons rfl (.cons rfl .nil)))))) (.cons .here .nil) (cc hz (.cons .here .nil) fun w pz ho=>ih (Z:=_) (zN:=zN) (zG:=zG) (z1b:=z1b) (z1m:=z1m) (z6:=z3u) (zn:=zn) (zw:=z1q) (zA:=(i64 ((u64 (i64 (zn + zA))) / 2 ^ min (1 : Int).toNat 64))) (zU:=zU) (r:=zdo) w pz z6w z6x zsB ho) ?_
                  rintro  zmX
                  refine WL.repin (i:=0) rfl (u:=(.slice zN zdo.length zG)) (y1E zmX.symm) ?_
                  refine WL.nil ?_
                  exact WX.mid (G:=List Sapi_Come) zdo ⟨h,(zmX.trans zmW)⟩ (.cons rfl (.cons rfl (.cons rfl (.cons rfl (.cons rfl .nil))))) (.cons .here .nil)
                · replace h:=yn h zit
                  refine WC.skip ?_
                  exact WX.mid (G:=List Sapi_Come) z3u ⟨h,zmW⟩ (.cons rfl (.cons rfl (.cons rfl (.cons rfl (.cons rfl .nil))))) (.cons .here .nil)
              · rintro z3I ⟨h,zmY⟩
                replace h:=(zsz z3I).symm.trans h
                refine WC.b (WC.a (WL.pu rfl (WL.pu rfl (WL.pu rfl (WL.pu rfl ?_)))))
                refine WL.seg true 3 209 (B:=(decide ((i64 ((u64 (i64 (zn + zA))) / 2 ^ min (1 : Int).toNat 64)) < (i64 ((i64 ((i64 ((u64 (i64 (zn + zA))) / 2 ^ min (1 : Int).toNat 64)) + zw)) - z1q)))) && (decide ((i64 ((i64 ((i64 ((u64 (i64 (zn + zA))) / 2 ^ min (1 : Int).toNat 64)) + zw)) - z1q)) < zA))) rfl rfl rfl rfl rfl rfl (fun h=>(y2n h).symm) (fun _ zsC=>?_) ?_
                · skip
                  refine WL.pu rfl (WL.pu rfl (WL.pu rfl (WL.pu rfl ?_)))
                  exact WL.ys (y2o zsC) rfl rfl .all
                refine WL.nil (WX.a ?_)
                refine WC.cond rfl (fun ziu=>?_) (fun ziu=>?_)
                · replace h:=ym h ziu
                  obtain ⟨zeR,zsD,h⟩:=zp h
                  refine WC.a (WL.pu rfl (WL.pu rfl (WL.pu rfl (WL.pu rfl (WL.pu rfl ?_)))))
                  refine WL.y1F (dd:=219) rfl rfl rfl (zF (l:=[.tmp 214,.tmp 215,.tmp 216,.tmp 217,.tmp 218]) Try.call67 (.cons rfl (.cons rfl (.cons rfl (.cons rfl (.cons rfl .nil)))))) (.cons .here .nil) (cc hz (.cons .here .nil) fun w pz ho=>ih (Z:=_) (zN:=zN) (zG:=zG) (z1b:=z1b) (z1m:=z1m) (z6:=z3I) (zn:=(i64 ((u64 (i64 (zn + zA))) / 2 ^ min (1 : Int).toNat 64))) (zw:=(i64 ((i64 ((i64 ((u64 (i64 (zn + zA))) / 2 ^ min (1 : Int).toNat 64)) + zw)) - z1q))) (zA:=zA) (zU:=zU) (r:=zeR) w pz z6w z6x zsD ho) ?_
                  rintro  zmZ
                  refine WL.repin (i:=0) rfl (u:=(.slice zN zeR.length zG)) (y1E zmZ.symm) ?_
                  refine WL.nil ?_
                  obtain rfl:=Option.some.inj h
                  refine WX.y1Q Try.results67 .nil (fun w hw=>?_)
                  exact ⟨y49,(zmZ.trans zmY),hw.sub (.cons .here .nil)⟩
                · replace h:=yn h ziu
                  refine WC.skip ?_
                  obtain rfl:=Option.some.inj h
                  refine WX.y1Q Try.results67 .nil (fun w hw=>?_)
                  exact ⟨y49,zmY,hw.sub (.cons .here .nil)⟩
theorem y2U (Z : Zp) (zN : Option Addr) (zG : Nat) (z1b : FuncId) (z1m : List Value) (z6 : List Sapi_Come) (zn : Int) (zw : Int) (zA : Int) (zU : Sapi_Come → Sapi_Come → Option Int) (r : List Sapi_Come) (w₀ : World) (hz : PZ (fps [row (.slice zN z6.length zG) 50 3 (z6.flatMap e50)]) w₀ Z)
    (z6w : ∀ args w,(callFunc z1b args).run Try.prog w = .ok (.enter z1b args) w)
    (z6x : ∀ w : World,PZ [] w Z → ∀ (x0 : Sapi_Come) (x1 : Sapi_Come) (r : Int),zU x0 x1 = some r → Calls Try.prog z1b (([(.agg #[(.int .i64 x0.fSent),(.int .i64 x0.fNode),(.int .i64 x0.fTime)]),(.agg #[(.int .i64 x1.fSent),(.int .i64 x1.fNode),(.int .i64 x1.fTime)])] : List Value) ++ z1m).toArray w fun e w'=>e = .returned (.int .i64 r) ∧ Hp [] w w' []) (h : y1k z6 zn zw zA zU = some r)
    (hown : Hp (fps [row (.slice zN z6.length zG) 50 3 (z6.flatMap e50)]) w₀ w₀ [row (.slice zN z6.length zG) 50 3 (z6.flatMap e50)]) : Calls Try.prog 67 #[(.slice zN z6.length zG),(.int .i64 zn),(.int .i64 zw),(.int .i64 zA),(.func (.func z1b) #[] (z1m).toArray)] w₀ fun e w'=>e = .returned (.tuple #[]) ∧ (r.length = z6.length) ∧ Hp (fps [row (.slice zN z6.length zG) 50 3 (z6.flatMap e50)]) w₀ w' [row (.slice zN r.length zG) 50 3 (r.flatMap e50)]:=y3V yA Z zN zG z1b z1m z6 zn zw zA zU r w₀ hz z6w z6x h hown
def yN (z11 : Int) (z1i : Sapi_Come → Sapi_Come → Option Int) (z50 : (List Sapi_Come) → Int → Option (List Sapi_Come)) : Nat → (List Sapi_Come) → Int → Int → Option (List Sapi_Come)
  | 0,_,_,_=>none
  | ziv + 1,z3a,z4D,z3b=>if decide (z3b ≤ z11) then (yP z3a z4D z3b z1i).bind fun zeZ=>yN z11 z1i z50 ziv zeZ z3b (i64 (z3b + 20)) else z50 z3a z4D
theorem y3K {n : Nat} {z11 : Int} {z1i : Sapi_Come → Sapi_Come → Option Int} {z50 : (List Sapi_Come) → Int → Option (List Sapi_Come)} {z3a : List Sapi_Come} {z4D : Int} {z3b : Int} {r : List Sapi_Come} (h : yN z11 z1i z50 n z3a z4D z3b = some r) : ∃ m,n = m + 1:=by
  cases n with
  | zero=>cases h
  | succ m=>exact ⟨m,rfl⟩
def yX (z11 : Int) (z1g : Int) (z1i : Sapi_Come → Sapi_Come → Option Int) (z7x : (List Sapi_Come) → Int → Option (List Sapi_Come)) : Nat → (List Sapi_Come) → Int → Int → Option (List Sapi_Come)
  | 0,_,_,_=>none
  | ziw + 1,z2Y,z3c,z2Z=>if decide (z2Z ≤ z11) then (y1k z2Y z3c (i64 (z3c + z1g)) z2Z z1i).bind fun zdw=>yX z11 z1g z1i z7x ziw zdw z2Z (i64 (z2Z + (i64 (2 * z1g)))) else z7x z2Y z3c
theorem y3L {n : Nat} {z11 : Int} {z1g : Int} {z1i : Sapi_Come → Sapi_Come → Option Int} {z7x : (List Sapi_Come) → Int → Option (List Sapi_Come)} {z2Y : List Sapi_Come} {z3c : Int} {z2Z : Int} {r : List Sapi_Come} (h : yX z11 z1g z1i z7x n z2Y z3c z2Z = some r) : ∃ m,n = m + 1:=by
  cases n with
  | zero=>cases h
  | succ m=>exact ⟨m,rfl⟩
def yO (z11 : Int) (z1i : Sapi_Come → Sapi_Come → Option Int) (z51 : (List Sapi_Come) → Option (List Sapi_Come)) : Nat → (List Sapi_Come) → Int → Option (List Sapi_Come)
  | 0,_,_=>none
  | zix + 1,z30,z1g=>if decide (z1g < z11) then jp1 (fun (z4E : List Sapi_Come)=>yO z11 z1i z51 zix z4E (i64 (z1g * 2))) fun ziy=>jp2 (fun (z3v : List Sapi_Come) (z4F : Int)=>jp1 (fun (z4G : List Sapi_Come)=>ziy z4G) fun zf0=>if decide ((i64 (z4F + z1g)) < z11) then (y1k z3v z4F (i64 (z4F + z1g)) z11 z1i).bind fun zdx=>zf0 zdx else zf0 z3v) fun z7x=>yX z11 z1g z1i z7x yA z30 0 (i64 (2 * z1g)) else z51 z30
theorem y3M {n : Nat} {z11 : Int} {z1i : Sapi_Come → Sapi_Come → Option Int} {z51 : (List Sapi_Come) → Option (List Sapi_Come)} {z30 : List Sapi_Come} {z1g : Int} {r : List Sapi_Come} (h : yO z11 z1i z51 n z30 z1g = some r) : ∃ m,n = m + 1:=by
  cases n with
  | zero=>cases h
  | succ m=>exact ⟨m,rfl⟩
def y1O (z1y : List Sapi_Come) (z11 : Int) (z1i : Sapi_Come → Sapi_Come → Option Int) : Option (List Sapi_Come) :=
  jp2 (fun (z3J : List Sapi_Come) (z6A : Int)=>(yP z3J z6A z11 z1i).bind fun zb2=>jp1 (fun (z4H : List Sapi_Come)=>some z4H) fun z51=>yO z11 z1i z51 yA zb2 20) fun z50=>yN z11 z1i z50 yA z1y 0 20
set_option maxRecDepth 20000 in
theorem y4i (Z : Zp) (z1j : Option Addr) (z1k : Nat) (z2v : FuncId) (z31 : List Value) (z1y : List Sapi_Come) (z11 : Int) (z1i : Sapi_Come → Sapi_Come → Option Int) (r : List Sapi_Come)
     (h : y1O z1y z11 z1i = some r) (w₀ : World) (hz : PZ (fps [row (.slice z1j z1y.length z1k) 50 3 (z1y.flatMap e50)]) w₀ Z)
     (zf1 : ∀ args w,(callFunc z2v args).run Try.prog w = .ok (.enter z2v args) w)
     (zf2 : ∀ w : World,PZ [] w Z → ∀ (x0 : Sapi_Come) (x1 : Sapi_Come) (r : Int),z1i x0 x1 = some r → Calls Try.prog z2v (([(.agg #[(.int .i64 x0.fSent),(.int .i64 x0.fNode),(.int .i64 x0.fTime)]),(.agg #[(.int .i64 x1.fSent),(.int .i64 x1.fNode),(.int .i64 x1.fTime)])] : List Value) ++ z31).toArray w fun e w'=>e = .returned (.int .i64 r) ∧ Hp [] w w' [])
    (hown : Hp (fps [row (.slice z1j z1y.length z1k) 50 3 (z1y.flatMap e50)]) w₀ w₀ [row (.slice z1j z1y.length z1k) 50 3 (z1y.flatMap e50)]) :
    Calls Try.prog 57 #[(.slice z1j z1y.length z1k),(.int .i64 z11),(.func (.func z2v) #[] (z31).toArray)] w₀ fun e w'=>e = .returned (.tuple #[]) ∧ (r.length = z1y.length) ∧ Hp (fps [row (.slice z1j z1y.length z1k) 50 3 (z1y.flatMap e50)]) w₀ w' [row (.slice z1j r.length z1k) 50 3 (r.flatMap e50)]:=by
  unfold y1O at h
  refine Calls.yl (vs:=[(.slice z1j z1y.length z1k),(.int .i64 z11),(.func (.func z2v) #[] (z31).toArray)]) (pre:=[row (.slice z1j z1y.length z1k) 50 3 (z1y.flatMap e50)]) (env:=[(0,(.slice z1j z1y.length z1k)),(1,(.int .i64 z11)),(2,(.func (.func z2v) #[] (z31).toArray))]) Try.func57 rfl Try.ntmps57 rfl (hown) rfl ?_
  refine WC.b (WC.a (WL.pu rfl (WL.nil (WX.a (WC.b (WC.a (WL.pu rfl (WL.pu rfl (WL.pu rfl (WL.nil (WX.a ?_)))))))))))
  obtain ⟨z50,zsE,h⟩:=y32 h
  refine WC.y2p (fun (z3J : List Sapi_Come) (z6A : Int)=>(z50 z3J z6A = some r) ∧ (z3J.length = z1y.length)) (fun (z3J : List Sapi_Come) (z6A : Int)=>[(0,(.slice z1j z3J.length z1k)),(1,(.int .i64 z11)),(2,(.func (.func z2v) #[] (z31).toArray)),(6,(.int .i64 20)),(7,(.int .i64 z6A))]) (fun (z3J : List Sapi_Come) (z6A : Int)=>[row (.slice z1j z3J.length z1k) 50 3 (z3J.flatMap e50)]) ?_ ?_
  · skip
    refine WC.block ?_
    refine WC.y54 (fun (zb3 : Nat) (z3a : List Sapi_Come) (z4D : Int) (z3b : Int)=>(yN z11 z1i z50 zb3 z3a z4D z3b = some r) ∧ (z3a.length = z1y.length)) (fun (zb3 : Nat) (z3a : List Sapi_Come) (z4D : Int) (z3b : Int)=>[(0,(.slice z1j z3a.length z1k)),(1,(.int .i64 z11)),(2,(.func (.func z2v) #[] (z31).toArray)),(6,(.int .i64 20)),(7,(.int .i64 z4D)),(8,(.int .i64 z3b))]) (fun (zb3 : Nat) (z3a : List Sapi_Come) (z4D : Int) (z3b : Int)=>[row (.slice z1j z3a.length z1k) 50 3 (z3a.flatMap e50)]) (fun (zb3 : Nat) (z3a : List Sapi_Come) (z4D : Int) (z3b : Int)=>zb3) ⟨yA,z1y,0,20⟩ ⟨h,rfl⟩ (.cons rfl (.cons rfl (.cons rfl (.cons rfl (.cons rfl (.cons rfl .nil)))))) (.cons .here .nil) ?_
    rintro zb3 z3a z4D z3b ⟨h,zn0⟩
    obtain ⟨ziv,rfl⟩:=y3K h
    rw [yN] at h
    refine WC.b (WC.b (WC.a (WL.pu rfl (WL.pu rfl (WL.pu rfl (WL.nil (WX.a ?_)))))))
    refine WC.cond rfl (fun ziz=>?_) (fun ziz=>?_)
    · replace h:=ym h ziz
      refine WC.skip (WX.a (WC.block (WC.b ?_)))
      obtain ⟨zeZ,zsF,h⟩:=zp h
      refine WC.a (WL.pu rfl (WL.pu rfl (WL.pu rfl (WL.pu rfl ?_))))
      refine WL.y1F (dd:=18) rfl rfl rfl (zF (l:=[.tmp 14,.tmp 15,.tmp 16,.tmp 17]) Try.call66 (.cons rfl (.cons rfl (.cons rfl (.cons rfl .nil))))) (.cons .here .nil) (cc hz (.cons .here .nil) fun w pz ho=>y2y _ _ _ (z3t:=z2v) (z4A:=z31) _ _ _ (z2t:=z1i) _ zsF w pz zf1 zf2 ho) ?_
      rintro  zn1
      refine WL.repin (i:=0) rfl (u:=(.slice z1j zeZ.length z1k)) (y1E zn1.symm) ?_
      refine WL.nil (WX.a (WC.b (WC.a (WL.pu rfl (WL.pu rfl (WL.nil (WX.a (WC.a (WL.pu rfl (WL.pu rfl (WL.pu rfl (WL.pu rfl (WL.nil (WX.yh ?_))))))))))))))
      exact WX.round (G:=Nat × List Sapi_Come × Int × Int) ⟨ziv,zeZ,z3b,(i64 (z3b + 20))⟩ ⟨h,(zn1.trans zn0)⟩ (Nat.lt_succ_self _) (.cons rfl (.cons rfl (.cons rfl (.cons rfl (.cons rfl (.cons rfl .nil)))))) (.cons .here .nil)
    · replace h:=yn h ziz
      refine WC.exit (WX.yf (WX.yf (WX.yB ?_)))
      exact WX.mid (G:=List Sapi_Come × Int) ⟨z3a,z4D⟩ ⟨h,zn0⟩ (.cons rfl (.cons rfl (.cons rfl (.cons rfl (.cons rfl .nil))))) (.cons .here .nil)
  · rintro z3J z6A ⟨h,zsG⟩
    replace h:=(zsE z3J z6A).symm.trans h
    refine WC.b ?_
    obtain ⟨zb2,zsH,h⟩:=zp h
    refine WC.a (WL.pu rfl (WL.pu rfl (WL.pu rfl (WL.pu rfl ?_))))
    refine WL.y1F (dd:=27) rfl rfl rfl (zF (l:=[.tmp 23,.tmp 24,.tmp 25,.tmp 26]) Try.call66 (.cons rfl (.cons rfl (.cons rfl (.cons rfl .nil))))) (.cons .here .nil) (cc hz (.cons .here .nil) fun w pz ho=>y2y _ _ _ (z3t:=z2v) (z4A:=z31) _ _ _ (z2t:=z1i) _ zsH w pz zf1 zf2 ho) ?_
    rintro  zn2
    refine WL.repin (i:=0) rfl (u:=(.slice z1j zb2.length z1k)) (y1E zn2.symm) ?_
    refine WL.nil (WX.a ?_)
    obtain ⟨z51,zsI,h⟩:=y1d h
    refine WC.y4V (fun (z4H : List Sapi_Come)=>(z51 z4H = some r) ∧ (z4H.length = z1y.length)) (fun (z4H : List Sapi_Come)=>[]) (fun (z4H : List Sapi_Come)=>[row (.slice z1j z4H.length z1k) 50 3 (z4H.flatMap e50)]) ?_ ?_
    · skip
      refine WC.block ?_
      refine WC.y2q (fun (zb4 : Nat) (z30 : List Sapi_Come) (z1g : Int)=>(yO z11 z1i z51 zb4 z30 z1g = some r) ∧ (z30.length = z1y.length)) (fun (zb4 : Nat) (z30 : List Sapi_Come) (z1g : Int)=>[(0,(.slice z1j z30.length z1k)),(1,(.int .i64 z11)),(2,(.func (.func z2v) #[] (z31).toArray)),(6,(.int .i64 z1g))]) (fun (zb4 : Nat) (z30 : List Sapi_Come) (z1g : Int)=>[row (.slice z1j z30.length z1k) 50 3 (z30.flatMap e50)]) (fun (zb4 : Nat) (z30 : List Sapi_Come) (z1g : Int)=>zb4) ⟨yA,zb2,20⟩ ⟨h,(zn2.trans zsG)⟩ (.cons rfl (.cons rfl (.cons rfl (.cons rfl .nil)))) (.cons .here .nil) ?_
      rintro zb4 z30 z1g ⟨h,zn3⟩
      obtain ⟨zix,rfl⟩:=y3M h
      rw [yO] at h
      refine WC.b (WC.b (WC.a (WL.pu rfl (WL.pu rfl (WL.pu rfl (WL.nil (WX.a ?_)))))))
      refine WC.cond rfl (fun ziA=>?_) (fun ziA=>?_)
      · replace h:=ym h ziA
        refine WC.skip (WX.a ?_)
        obtain ⟨ziy,zsJ,h⟩:=y1d h
        refine WC.y4V (fun (z4E : List Sapi_Come)=>(ziy z4E = some r) ∧ (z4E.length = z1y.length)) (fun (z4E : List Sapi_Come)=>[(0,(.slice z1j z4E.length z1k)),(1,(.int .i64 z11)),(2,(.func (.func z2v) #[] (z31).toArray)),(6,(.int .i64 (i64 (z1g * 2))))]) (fun (z4E : List Sapi_Come)=>[row (.slice z1j z4E.length z1k) 50 3 (z4E.flatMap e50)]) ?_ ?_
        · skip
          refine WC.block (WC.b (WC.a (WL.pu rfl (WL.pu rfl (WL.pu rfl (WL.pu rfl (WL.nil (WX.a ?_))))))))
          obtain ⟨z7x,zsK,h⟩:=y32 h
          refine WC.y2p (fun (z3v : List Sapi_Come) (z4F : Int)=>(z7x z3v z4F = some r) ∧ (z3v.length = z1y.length)) (fun (z3v : List Sapi_Come) (z4F : Int)=>[(0,(.slice z1j z3v.length z1k)),(1,(.int .i64 z11)),(2,(.func (.func z2v) #[] (z31).toArray)),(6,(.int .i64 z1g)),(7,(.int .i64 z4F))]) (fun (z3v : List Sapi_Come) (z4F : Int)=>[row (.slice z1j z3v.length z1k) 50 3 (z3v.flatMap e50)]) ?_ ?_
          · skip
            refine WC.block ?_
            refine WC.y54 (fun (zb5 : Nat) (z2Y : List Sapi_Come) (z3c : Int) (z2Z : Int)=>(yX z11 z1g z1i z7x zb5 z2Y z3c z2Z = some r) ∧ (z2Y.length = z1y.length)) (fun (zb5 : Nat) (z2Y : List Sapi_Come) (z3c : Int) (z2Z : Int)=>[(0,(.slice z1j z2Y.length z1k)),(1,(.int .i64 z11)),(2,(.func (.func z2v) #[] (z31).toArray)),(6,(.int .i64 z1g)),(7,(.int .i64 z3c)),(8,(.int .i64 z2Z))]) (fun (zb5 : Nat) (z2Y : List Sapi_Come) (z3c : Int) (z2Z : Int)=>[row (.slice z1j z2Y.length z1k) 50 3 (z2Y.flatMap e50)]) (fun (zb5 : Nat) (z2Y : List Sapi_Come) (z3c : Int) (z2Z : Int)=>zb5) ⟨yA,z30,0,(i64 (2 * z1g))⟩ ⟨h,zn3⟩ (.cons rfl (.cons rfl (.cons rfl (.cons rfl (.cons rfl (.cons rfl .nil)))))) (.cons .here .nil) ?_
            rintro zb5 z2Y z3c z2Z ⟨h,zn4⟩
            obtain ⟨ziw,rfl⟩:=y3L h
            rw [yX] at h
            refine WC.b (WC.b (WC.a (WL.pu rfl (WL.pu rfl (WL.pu rfl (WL.nil (WX.a ?_)))))))
            refine WC.cond rfl (fun ziB=>?_) (fun ziB=>?_)
            · replace h:=ym h ziB
              refine WC.skip (WX.a (WC.block (WC.b ?_)))
              obtain ⟨zdw,zsL,h⟩:=zp h
              refine WC.a (WL.pu rfl (WL.pu rfl (WL.pu rfl (WL.pu rfl (WL.pu rfl (WL.pu rfl (WL.pu rfl ?_)))))))
              refine WL.y1F (dd:=43) rfl rfl rfl (zF (l:=[.tmp 36,.tmp 37,.tmp 40,.tmp 41,.tmp 42]) Try.call67 (.cons rfl (.cons rfl (.cons rfl (.cons rfl (.cons rfl .nil)))))) (.cons .here .nil) (cc hz (.cons .here .nil) fun w pz ho=>y2U (Z:=_) (zN:=z1j) (zG:=z1k) (z1b:=z2v) (z1m:=z31) (z6:=z2Y) (zn:=z3c) (zw:=(i64 (z3c + z1g))) (zA:=z2Z) (zU:=z1i) (r:=zdw) w pz zf1 zf2 zsL ho) ?_
              rintro  zn5
              refine WL.repin (i:=0) rfl (u:=(.slice z1j zdw.length z1k)) (y1E zn5.symm) ?_
              refine WL.nil (WX.a (WC.b (WC.a (WL.pu rfl (WL.pu rfl (WL.nil (WX.a (WC.a (WL.pu rfl (WL.pu rfl (WL.pu rfl (WL.pu rfl (WL.pu rfl (WL.nil (WX.yh ?_)))))))))))))))
              exact WX.round (G:=Nat × List Sapi_Come × Int × Int) ⟨ziw,zdw,z2Z,(i64 (z2Z + (i64 (2 * z1g))))⟩ ⟨h,(zn5.trans zn4)⟩ (Nat.lt_succ_self _) (.cons rfl (.cons rfl (.cons rfl (.cons rfl (.cons rfl (.cons rfl .nil)))))) (.cons .here .nil)
            · replace h:=yn h ziB
              refine WC.exit (WX.yf (WX.yf (WX.yB ?_)))
              exact WX.mid (G:=List Sapi_Come × Int) ⟨z2Y,z3c⟩ ⟨h,zn4⟩ (.cons rfl (.cons rfl (.cons rfl (.cons rfl (.cons rfl .nil))))) (.cons .here .nil)
          · rintro z3v z4F ⟨h,zn6⟩
            replace h:=(zsK z3v z4F).symm.trans h
            obtain ⟨zf0,zsM,h⟩:=y1d h
            refine WC.y1L (fun (z4G : List Sapi_Come)=>(zf0 z4G = some r) ∧ (z4G.length = z1y.length)) (fun (z4G : List Sapi_Come)=>[(0,(.slice z1j z4G.length z1k)),(1,(.int .i64 z11)),(2,(.func (.func z2v) #[] (z31).toArray)),(6,(.int .i64 z1g))]) (fun (z4G : List Sapi_Come)=>[row (.slice z1j z4G.length z1k) 50 3 (z4G.flatMap e50)]) ?_ ?_
            · skip
              refine WC.b (WC.a (WL.pu rfl (WL.pu rfl (WL.pu rfl (WL.pu rfl (WL.nil (WX.a (WC.b (WC.a (WL.pu rfl (WL.pu rfl (WL.pu rfl (WL.nil (WX.a ?_))))))))))))))
              refine WC.cond rfl (fun ziC=>?_) (fun ziC=>?_)
              · replace h:=ym h ziC
                obtain ⟨zdx,zsN,h⟩:=zp h
                refine WC.a (WL.pu rfl (WL.pu rfl (WL.pu rfl (WL.pu rfl (WL.pu rfl ?_)))))
                refine WL.y1F (dd:=60) rfl rfl rfl (zF (l:=[.tmp 55,.tmp 56,.tmp 57,.tmp 58,.tmp 59]) Try.call67 (.cons rfl (.cons rfl (.cons rfl (.cons rfl (.cons rfl .nil)))))) (.cons .here .nil) (cc hz (.cons .here .nil) fun w pz ho=>y2U (Z:=_) (zN:=z1j) (zG:=z1k) (z1b:=z2v) (z1m:=z31) (z6:=z3v) (zn:=z4F) (zw:=(i64 (z4F + z1g))) (zA:=z11) (zU:=z1i) (r:=zdx) w pz zf1 zf2 zsN ho) ?_
                rintro  zn7
                refine WL.repin (i:=0) rfl (u:=(.slice z1j zdx.length z1k)) (y1E zn7.symm) ?_
                refine WL.nil ?_
                exact WX.mid (G:=List Sapi_Come) zdx ⟨h,(zn7.trans zn6)⟩ (.cons rfl (.cons rfl (.cons rfl (.cons rfl .nil)))) (.cons .here .nil)
              · replace h:=yn h ziC
                refine WC.skip ?_
                exact WX.mid (G:=List Sapi_Come) z3v ⟨h,zn6⟩ (.cons rfl (.cons rfl (.cons rfl (.cons rfl .nil)))) (.cons .here .nil)
            · rintro z4G ⟨h,zsO⟩
              replace h:=(zsM z4G).symm.trans h
              refine WC.a (WL.pu rfl (WL.pu rfl (WL.pu rfl (WL.nil (WX.yh ?_)))))
              exact WX.mid (G:=List Sapi_Come) z4G ⟨h,zsO⟩ (.cons rfl (.cons rfl (.cons rfl (.cons rfl .nil)))) (.cons .here .nil)
        · rintro z4E ⟨h,zsP⟩
          replace h:=(zsJ z4E).symm.trans h
          exact WX.round (G:=Nat × List Sapi_Come × Int) ⟨zix,z4E,(i64 (z1g * 2))⟩ ⟨h,zsP⟩ (Nat.lt_succ_self _) (.cons rfl (.cons rfl (.cons rfl (.cons rfl .nil)))) (.cons .here .nil)
      · replace h:=yn h ziA
        refine WC.exit (WX.yf (WX.yf (WX.yB ?_)))
        exact WX.mid (G:=List Sapi_Come) z30 ⟨h,zn3⟩ .nil (.cons .here .nil)
    · rintro z4H ⟨h,zsQ⟩
      replace h:=(zsI z4H).symm.trans h
      obtain rfl:=Option.some.inj h
      refine WX.y1Q Try.results57 .nil (fun w hw=>?_)
      exact ⟨y49,zsQ,hw.sub (.cons .here .nil)⟩
def y12 (z2w : List Sapi_Come) (zb6 : Sapi_Come → Sapi_Come → Option Int) : Option (List Sapi_Come) :=
  (y1O z2w ((z2w.length : Nat) : Int) zb6).bind fun zf3=>some zf3
set_option maxRecDepth 20000 in
theorem y3C (Z : Zp) (z52 : Option Addr) (z53 : Nat) (z8b : FuncId) (zb7 : List Value) (z2w : List Sapi_Come) (zb6 : Sapi_Come → Sapi_Come → Option Int) (r : List Sapi_Come)
     (h : y12 z2w zb6 = some r) (w₀ : World) (hz : PZ (fps [row (.slice z52 z2w.length z53) 50 3 (z2w.flatMap e50)]) w₀ Z)
     (zsR : ∀ args w,(callFunc z8b args).run Try.prog w = .ok (.enter z8b args) w)
     (zsS : ∀ w : World,PZ [] w Z → ∀ (x0 : Sapi_Come) (x1 : Sapi_Come) (r : Int),zb6 x0 x1 = some r → Calls Try.prog z8b (([(.agg #[(.int .i64 x0.fSent),(.int .i64 x0.fNode),(.int .i64 x0.fTime)]),(.agg #[(.int .i64 x1.fSent),(.int .i64 x1.fNode),(.int .i64 x1.fTime)])] : List Value) ++ zb7).toArray w fun e w'=>e = .returned (.int .i64 r) ∧ Hp [] w w' [])
    (hown : Hp (fps [row (.slice z52 z2w.length z53) 50 3 (z2w.flatMap e50)]) w₀ w₀ [row (.slice z52 z2w.length z53) 50 3 (z2w.flatMap e50)]) :
    Calls Try.prog 42 #[(.slice z52 z2w.length z53),(.func (.func z8b) #[] (zb7).toArray)] w₀ fun e w'=>e = .returned (.tuple #[]) ∧ (r.length = z2w.length) ∧ Hp (fps [row (.slice z52 z2w.length z53) 50 3 (z2w.flatMap e50)]) w₀ w' [row (.slice z52 r.length z53) 50 3 (r.flatMap e50)]:=by
  unfold y12 at h
  refine Calls.yl (vs:=[(.slice z52 z2w.length z53),(.func (.func z8b) #[] (zb7).toArray)]) (pre:=[row (.slice z52 z2w.length z53) 50 3 (z2w.flatMap e50)]) (env:=[(0,(.slice z52 z2w.length z53)),(1,(.func (.func z8b) #[] (zb7).toArray))]) Try.func42 rfl Try.ntmps42 rfl (hown) rfl ?_
  obtain ⟨zf3,zsT,h⟩:=zp h
  refine WC.a (WL.pu rfl (WL.pu rfl ?_))
  refine WL.a (d:=6) rfl rfl rfl (yZ Try.underlying36 rfl) ?_
  refine WL.pu rfl ?_
  refine WL.y1F (dd:=8) rfl rfl rfl (zF (l:=[.tmp 4,.tmp 6,.tmp 7]) Try.call57 (.cons rfl (.cons rfl (.cons rfl .nil)))) (.cons .here .nil) (cc hz (.cons .here .nil) fun w pz ho=>y4i _ _ _ (z2v:=z8b) (z31:=zb7) _ _ (z1i:=zb6) _ zsT w pz zsR zsS ho) ?_
  rintro  ziD
  refine WL.repin (i:=0) rfl (u:=(.slice z52 zf3.length z53)) (y1E ziD.symm) ?_
  refine WL.repin (i:=5) rfl (u:=(.slice z52 zf3.length z53)) (y1E ziD.symm) ?_
  refine WL.nil ?_
  obtain rfl:=Option.some.inj h
  refine WX.y1Q Try.results42 .nil (fun w hw=>?_)
  exact ⟨y49,(ziD.trans rfl),hw.sub (.cons .here .nil)⟩
def y1e (z2L : List Sapi_Come) : Option (List Sapi_Come) :=
  (y12 z2L (fun (y0 : Sapi_Come) (y1 : Sapi_Come)=>y2l y0 y1)).bind fun ziE=>some ziE
set_option maxRecDepth 20000 in
theorem y5b (Z : Zp) (z54 : Option Addr) (z55 : Nat) (z2L : List Sapi_Come) (r : List Sapi_Come)
     (h : y1e z2L = some r) (w₀ : World) (hz : PZ (fps [row (.slice z54 z2L.length z55) 50 3 (z2L.flatMap e50)]) w₀ Z)
    (hown : Hp (fps [row (.slice z54 z2L.length z55) 50 3 (z2L.flatMap e50)]) w₀ w₀ [row (.slice z54 z2L.length z55) 50 3 (z2L.flatMap e50)]) :
    Calls Try.prog 27 #[(.slice z54 z2L.length z55)] w₀ fun e w'=>e = .returned (.slice z54 r.length z55) ∧ (r.length = z2L.length) ∧ Hp (fps [row (.slice z54 z2L.length z55) 50 3 (z2L.flatMap e50)]) w₀ w' [row (.slice z54 r.length z55) 50 3 (r.flatMap e50)]:=by
  unfold y1e at h
  refine Calls.yl (vs:=[(.slice z54 z2L.length z55)]) (pre:=[row (.slice z54 z2L.length z55) 50 3 (z2L.flatMap e50)]) (env:=[(0,(.slice z54 z2L.length z55))]) Try.func27 rfl Try.ntmps27 rfl (hown) rfl ?_
  refine WC.b (WC.a (WL.pu rfl (WL.nil (WX.a (WC.b ?_)))))
  obtain ⟨ziE,zsU,h⟩:=zp h
  refine WC.a (WL.pu rfl ?_)
  refine WL.y1F (dd:=4) rfl rfl rfl (zF (l:=[.tmp 3,.func 43]) Try.call42 (.cons rfl (.cons rfl .nil))) (.cons .here .nil) (cc hz (.cons .here .nil) fun w pz ho=>y3C _ _ _ (z8b:=43) (zb7:=[]) _ (zb6:=(fun (y0 : Sapi_Come) (y1 : Sapi_Come)=>y2l y0 y1)) _ zsU w pz Try.call43 (fun w' hz' y0 y1  r  hr=>y6B _ _ _ _ hr w' hz' ) ho) ?_
  rintro  zn8
  refine WL.repin (i:=0) rfl (u:=(.slice z54 ziE.length z55)) (y1E zn8.symm) ?_
  refine WL.nil (WX.a (WC.b (WC.a (WL.pu rfl (WL.pu rfl (WL.nil (WX.a (WC.ret ?_))))))))
  obtain rfl:=Option.some.inj h
  refine WX.yi Try.results27 (.tmp rfl .nil) (fun w hw=>?_)
  exact ⟨y10 rfl,(zn8.trans rfl),hw.sub (.cons .here .nil)⟩
def y2f (zW : List zSt) (z1a : List (List Sapi_Hop)) (zd : Sapi_Config) (z7y : (List Snetwork_event) → Option (List Sapi_Come × List Sapi_Come × Int)) : Nat → Int → (List Snetwork_event) → Option (List Sapi_Come × List Sapi_Come × Int)
  | 0,_,_=>none
  | ziF + 1,z1R,z32=>if decide (z1R < ((zW.length : Nat) : Int)) then jp1 (fun (z56 : List Snetwork_event)=>y2f zW z1a zd z7y ziF (i64 (z1R + 1)) z56) fun zf4=>chk ((0 : Int) ≤ z1R ∧ z1R < ((zW.length : Nat) : Int)) (chk ((0 : Int) ≤ ((nth zW z1R).fVL) ∧ ((nth zW z1R).fVL) < ((z1a.length : Nat) : Int)) (if decide ((((nth z1a ((nth zW z1R).fVL)).length : Nat) : Int) > 0) then chk ((0 : Int) ≤ 0 ∧ 0 < (((nth z1a ((nth zW z1R).fVL)).length : Nat) : Int)) ((y2a zd z1a zW ([] : List (Snetwork_exit × Sport_Port)) z32 [] [] ((nth (nth z1a ((nth zW z1R).fVL)) 0).fNode) ((nth zW z1R).fTime) (-1) z1R).bind fun ziG=>zf4 ziG) else zf4 z32)) else z7y z32
theorem y5P {n : Nat} {zW : List zSt} {z1a : List (List Sapi_Hop)} {zd : Sapi_Config} {z7y : (List Snetwork_event) → Option (List Sapi_Come × List Sapi_Come × Int)} {z1R : Int} {z32 : List Snetwork_event} {r : List Sapi_Come × List Sapi_Come × Int} (h : y2f zW z1a zd z7y n z1R z32 = some r) : ∃ m,n = m + 1:=by
  cases n with
  | zero=>cases h
  | succ m=>exact ⟨m,rfl⟩
def y2g (zd : Sapi_Config) (z1a : List (List Sapi_Hop)) (zW : List zSt) (z7z : (List Snetwork_event) → (List Sapi_Come) → (List Sapi_Come) → (List (Snetwork_exit × Sport_Port)) → Option (List Sapi_Come × List Sapi_Come × Int)) : Nat → (List Snetwork_event) → (List Sapi_Come) → (List Sapi_Come) → (List (Snetwork_exit × Sport_Port)) → Option (List Sapi_Come × List Sapi_Come × Int)
  | 0,_,_,_,_=>none
  | ziH + 1,z3d,z3w,z3x,z4I=>if decide (((z3d.length : Nat) : Int) > 0) then (y2G zd z1a zW z4I z3d z3w z3x).bind fun z7A=>y2g zd z1a zW z7z ziH z7A.1 z7A.2.1 z7A.2.2.1 z7A.2.2.2 else z7z z3d z3w z3x z4I
theorem y5Q {n : Nat} {zd : Sapi_Config} {z1a : List (List Sapi_Hop)} {zW : List zSt} {z7z : (List Snetwork_event) → (List Sapi_Come) → (List Sapi_Come) → (List (Snetwork_exit × Sport_Port)) → Option (List Sapi_Come × List Sapi_Come × Int)} {z3d : List Snetwork_event} {z3w : List Sapi_Come} {z3x : List Sapi_Come} {z4I : List (Snetwork_exit × Sport_Port)} {r : List Sapi_Come × List Sapi_Come × Int} (h : y2g zd z1a zW z7z n z3d z3w z3x z4I = some r) : ∃ m,n = m + 1:=by
  cases n with
  | zero=>cases h
  | succ m=>exact ⟨m,rfl⟩
def y2M (zd : Sapi_Config) (zb8 : Int) (z1a : List (List Sapi_Hop)) (zW : List zSt) : Option (List Sapi_Come × List Sapi_Come × Int) :=
  (y2I zd zb8 z1a).bind fun zn9=>if !zn9 then some (([] : List Sapi_Come),([] : List Sapi_Come),310) else (y36 zd zW).bind fun zna=>if !zna then some (([] : List Sapi_Come),([] : List Sapi_Come),311) else jp1 (fun (z57 : List Snetwork_event)=>jp4 (fun (z7B : List Snetwork_event) (z6B : List Sapi_Come) (z58 : List Sapi_Come) (z9p : List (Snetwork_exit × Sport_Port))=>(y1e z6B).bind fun znb=>(y1e z58).bind fun znc=>some (znb,znc,0)) fun z7z=>y2g zd z1a zW z7z yA z57 ([] : List Sapi_Come) ([] : List Sapi_Come) ([] : List (Snetwork_exit × Sport_Port))) fun z7y=>y2f zW z1a zd z7y yA 0 ([] : List Snetwork_event)
set_option maxRecDepth 20000 in
theorem y6h (Z : Zp) (z3K : Option Addr) (z3L : Nat) (z3M : Option Addr) (z3N : Nat) (z3O : Option Addr) (z3P : Nat) (z3Q : Option Addr) (z3R : Nat) (z3S : Option Addr) (z3T : Nat) (z3U : Option Addr) (z3V : Nat) (z3W : Option Addr) (z3X : Nat) (z3Y : Option Addr) (z3Z : Nat) (z40 : Option Addr) (z41 : Nat) (z42 : Option Addr) (z43 : Nat) (zd : Sapi_Config) (zb8 : Int) (z1a : List (List Sapi_Hop)) (zW : List zSt) (r : List Sapi_Come × List Sapi_Come × Int)
     (h : y2M zd zb8 z1a zW = some r) (w₀ : World) (hz : PZ [] w₀ Z)
     (zf5 : ZS Z 4 (y2x Z) z3K z3L zd.fModules)
     (zf6 : ZS Z 4 (y2O Z) z3M z3N zd.fChannels)
     (zf7 : ZS Z 4 (fun r x=>r = e64 x) z3O z3P zd.fSwitches)
     (zf8 : ZS Z 4 (fun r x=>r = e62 x) z3Q z3R zd.fLinks)
     (zf9 : ZS Z 7 (y2F Z) z3S z3T zd.fVLs)
     (zfa : ZS Z 5 (fun r x=>r = y34 x) z3U z3V zd.fHealth)
     (zfb : ZS Z 3 (y2P Z) z3W z3X zd.fCauses)
     (zfc : ZS Z 4 (fun r x=>r = y35 x) z3Y z3Z zd.fVersions)
     (zfd : ZS Z 1 (p55 Z) z40 z41 z1a)
     (zfe : ZS Z 3 (fun r x=>r = e53 x) z42 z43 zW) :
    Calls Try.prog 12 #[(.agg #[(.slice z3K zd.fModules.length z3L),(.slice z3M zd.fChannels.length z3N),(.slice z3O zd.fSwitches.length z3P),(.slice z3Q zd.fLinks.length z3R),(.slice z3S zd.fVLs.length z3T),(.slice z3U zd.fHealth.length z3V),(.slice z3W zd.fCauses.length z3X),(.slice z3Y zd.fVersions.length z3Z)]),(.int .i64 zb8),(.slice z40 z1a.length z41),(.slice z42 zW.length z43)] w₀ fun e w'=>∃ znd : Option Addr,∃ zne : Nat,∃ znf : Option Addr,∃ zng : Nat,e = .returned (.tuple #[(.slice znd r.1.length zne),(.slice znf r.2.1.length zng),(.int .i64 r.2.2)]) ∧ True ∧ Hp [] w₀ w' [row (.slice znd r.1.length zne) 50 3 (r.1.flatMap e50),row (.slice znf r.2.1.length zng) 50 3 (r.2.1.flatMap e50)]:=by
  unfold y2M at h
  refine Calls.yl (vs:=[(.agg #[(.slice z3K zd.fModules.length z3L),(.slice z3M zd.fChannels.length z3N),(.slice z3O zd.fSwitches.length z3P),(.slice z3Q zd.fLinks.length z3R),(.slice z3S zd.fVLs.length z3T),(.slice z3U zd.fHealth.length z3V),(.slice z3W zd.fCauses.length z3X),(.slice z3Y zd.fVersions.length z3Z)]),(.int .i64 zb8),(.slice z40 z1a.length z41),(.slice z42 zW.length z43)]) (pre:=[]) (env:=[(0,(.agg #[(.slice z3K zd.fModules.length z3L),(.slice z3M zd.fChannels.length z3N),(.slice z3O zd.fSwitches.length z3P),(.slice z3Q zd.fLinks.length z3R),(.slice z3S zd.fVLs.length z3T),(.slice z3U zd.fHealth.length z3V),(.slice z3W zd.fCauses.length z3X),(.slice z3Y zd.fVersions.length z3Z)])),(1,(.int .i64 zb8)),(2,(.slice z40 z1a.length z41)),(3,(.slice z42 zW.length z43))]) Try.func12 rfl Try.ntmps12 rfl (Hp.nil w₀ _) rfl ?_
  refine WC.b (WC.a ?_)
  refine WL.new (dd:=4) rfl rfl rfl (y2c (cs:=[(.slice z3K zd.fModules.length z3L),(.slice z3M zd.fChannels.length z3N),(.slice z3O zd.fSwitches.length z3P),(.slice z3Q zd.fLinks.length z3R),(.slice z3S zd.fVLs.length z3T),(.slice z3U zd.fHealth.length z3V),(.slice z3W zd.fCauses.length z3X),(.slice z3Y zd.fVersions.length z3Z)]) rfl rfl) ?_
  intro zsV _
  refine WL.pu rfl (WL.pu rfl (WL.pu rfl (WL.nil (WX.a (WC.b (WC.block (WC.b ?_)))))))
  obtain ⟨zn9,zsW,h⟩:=zp h
  refine WC.a ?_
  refine WL.a (d:=16) rfl rfl rfl (yH y1J rfl (y1j .here) rfl) ?_
  refine WL.pu rfl (WL.pu rfl ?_)
  refine WL.b (dd:=19) rfl rfl rfl (zF (l:=[.tmp 16,.tmp 17,.tmp 18]) Try.call15 (.cons rfl (.cons rfl (.cons rfl .nil)))) .nil (cc hz .nil fun w pz ho=>y5m _ _ _ _ _ _ _ _ _ _ _ _ _ _ _ _ _ _ _ _ _ _ _ zsW w pz zf5 zf6 zf7 zf8 zf9 zfa zfb zfc zfd) ?_
  refine WL.pu rfl (WL.pu rfl (WL.nil (WX.a ?_)))
  refine WC.cond rfl (fun ziI=>?_) (fun ziI=>?_)
  · replace h:=ym h ziI
    refine WC.b (WC.a (WL.pu rfl (WL.pu rfl (WL.pu rfl (WL.nil (WX.a (WC.ret (WX.yC (WX.yg ?_)))))))))
    refine WX.nilRow 50 3 ?_
    refine WX.nilRow 50 3 ?_
    obtain rfl:=Option.some.inj h
    refine WX.yi Try.results12 (.tmp rfl (.tmp rfl (.tmp rfl .nil))) (fun w hw=>?_)
    exact ⟨none,0,none,0,ret3 rfl rfl rfl,trivial,hw.sub (.cons .h1 (.cons .here .nil))⟩
  · replace h:=yn h ziI
    refine WC.b ?_
    obtain ⟨zna,zsX,h⟩:=zp h
    refine WC.a ?_
    refine WL.a (d:=22) rfl rfl rfl (yH y1J rfl (y1j .here) rfl) ?_
    refine WL.pu rfl ?_
    refine WL.b (dd:=24) rfl rfl rfl (zF (l:=[.tmp 22,.tmp 23]) Try.call24 (.cons rfl (.cons rfl .nil))) .nil (cc hz .nil fun w pz ho=>y74 _ _ _ _ _ _ _ _ _ _ _ _ _ _ _ _ _ _ _ _ _ _ zsX w pz zf5 zf6 zf7 zf8 zf9 zfa zfb zfc zfe) ?_
    refine WL.pu rfl (WL.pu rfl (WL.nil (WX.a ?_)))
    refine WC.cond rfl (fun ziJ=>?_) (fun ziJ=>?_)
    · replace h:=ym h ziJ
      refine WC.b (WC.a (WL.pu rfl (WL.pu rfl (WL.pu rfl (WL.nil (WX.a (WC.ret (WX.yC (WX.yg ?_)))))))))
      refine WX.nilRow 50 3 ?_
      refine WX.nilRow 50 3 ?_
      obtain rfl:=Option.some.inj h
      refine WX.yi Try.results12 (.tmp rfl (.tmp rfl (.tmp rfl .nil))) (fun w hw=>?_)
      exact ⟨none,0,none,0,ret3 rfl rfl rfl,trivial,hw.sub (.cons .h1 (.cons .here .nil))⟩
    · replace h:=yn h ziJ
      refine WC.skip (WX.yh (WX.a (WC.b (WC.a ?_))))
      refine WL.a (d:=26) rfl rfl rfl (yH y1J rfl (y1j .here) rfl) ?_
      refine WL.pu rfl (WL.pu rfl ?_)
      refine WL.new (dd:=29) rfl rfl rfl (y6v (fun x=>Value.agg (y1N x).toArray) Value.pointer) ?_
      intro z44 _
      refine WL.ghL (M:=[y1n z12 ([] : List (Snetwork_exit × ((Nat × (Option Addr × Nat)) × Sport_Port))),y16 z44 (fun x=>Value.agg (y1N x).toArray) Value.pointer (y1p ([] : List (Snetwork_exit × ((Nat × (Option Addr × Nat)) × Sport_Port)))),stb zsV 31 [(.slice z3K zd.fModules.length z3L),(.slice z3M zd.fChannels.length z3N),(.slice z3O zd.fSwitches.length z3P),(.slice z3Q zd.fLinks.length z3R),(.slice z3S zd.fVLs.length z3T),(.slice z3U zd.fHealth.length z3V),(.slice z3W zd.fCauses.length z3X),(.slice z3Y zd.fVersions.length z3Z)]]) (fun _ h=>Hp.y9e z12 h) ?_
      refine WL.a (d:=30) rfl rfl rfl (y1x (v:=(.agg #[(.slice z3K zd.fModules.length z3L),(.slice z3M zd.fChannels.length z3N),(.slice z3O zd.fSwitches.length z3P),(.slice z3Q zd.fLinks.length z3R),(.slice z3S zd.fVLs.length z3T),(.slice z3U zd.fHealth.length z3V),(.slice z3W zd.fCauses.length z3X),(.slice z3Y zd.fVersions.length z3Z),(.slice z40 z1a.length z41),(.slice z42 zW.length z43),(.map (some z44)),(.slice none 0 0),(.slice none 0 0),(.slice none 0 0)])) (Eos.parts (l:=[.tmp 26,.tmp 27,.tmp 28,.tmp 29]) (.cons rfl (.cons rfl (.cons rfl (.cons rfl .nil)))) [0,1,2,3]) (fun _=>by kernel_rfl)) ?_
      refine WL.new (dd:=31) rfl rfl rfl (y2c (cs:=[(.slice z3K zd.fModules.length z3L),(.slice z3M zd.fChannels.length z3N),(.slice z3O zd.fSwitches.length z3P),(.slice z3Q zd.fLinks.length z3R),(.slice z3S zd.fVLs.length z3T),(.slice z3U zd.fHealth.length z3V),(.slice z3W zd.fCauses.length z3X),(.slice z3Y zd.fVersions.length z3Z),(.slice z40 z1a.length z41),(.slice z42 zW.length z43),(.map (some z44)),(.slice none 0 0),(.slice none 0 0),(.slice none 0 0)]) rfl rfl) ?_
      intro z59 _
      refine WL.pu rfl (WL.nil (WX.a ?_))
      obtain ⟨z7y,zsY,h⟩:=y1d h
      refine WC.y4R (fun (z57 : List Snetwork_event) (zb9 : Option Addr) (zba : Nat)=>(z7y z57 = some r)) (fun (z57 : List Snetwork_event) (zb9 : Option Addr) (zba : Nat)=>[(11,(.pointer (some ⟨z59,0,none⟩)))]) (fun (z57 : List Snetwork_event) (zb9 : Option Addr) (zba : Nat)=>[stb z59 81 [(.slice z3K zd.fModules.length z3L),(.slice z3M zd.fChannels.length z3N),(.slice z3O zd.fSwitches.length z3P),(.slice z3Q zd.fLinks.length z3R),(.slice z3S zd.fVLs.length z3T),(.slice z3U zd.fHealth.length z3V),(.slice z3W zd.fCauses.length z3X),(.slice z3Y zd.fVersions.length z3Z),(.slice z40 z1a.length z41),(.slice z42 zW.length z43),(.map (some z44)),(.slice zb9 z57.length zba),(.slice none 0 0),(.slice none 0 0)],row (.slice zb9 z57.length zba) 113 7 (z57.flatMap yw),y16 z44 (fun x=>Value.agg (y1N x).toArray) Value.pointer (y1p ([] : List (Snetwork_exit × ((Nat × (Option Addr × Nat)) × Sport_Port)))),y1n z12 ([] : List (Snetwork_exit × ((Nat × (Option Addr × Nat)) × Sport_Port)))]) ?_ ?_
      · skip
        refine WC.b (WC.a (WL.pu rfl ?_))
        refine WL.a (d:=33) rfl rfl rfl (yZ Try.underlying33 rfl) ?_
        refine WL.pu rfl (WL.nil (WX.a (WC.block ?_)))
        refine WC.nilRow 113 7 ?_
        refine WC.y6Y (fun (zbb : Nat) (z1R : Int) (z32 : List Snetwork_event) (z8c : Option Addr) (z8d : Nat)=>(y2f zW z1a zd z7y zbb z1R z32 = some r)) (fun (zbb : Nat) (z1R : Int) (z32 : List Snetwork_event) (z8c : Option Addr) (z8d : Nat)=>[(2,(.slice z40 z1a.length z41)),(11,(.pointer (some ⟨z59,0,none⟩))),(32,(.slice z42 zW.length z43)),(33,(.int .i64 ((zW.length : Nat) : Int))),(34,(.int .i64 z1R))]) (fun (zbb : Nat) (z1R : Int) (z32 : List Snetwork_event) (z8c : Option Addr) (z8d : Nat)=>[stb z59 81 [(.slice z3K zd.fModules.length z3L),(.slice z3M zd.fChannels.length z3N),(.slice z3O zd.fSwitches.length z3P),(.slice z3Q zd.fLinks.length z3R),(.slice z3S zd.fVLs.length z3T),(.slice z3U zd.fHealth.length z3V),(.slice z3W zd.fCauses.length z3X),(.slice z3Y zd.fVersions.length z3Z),(.slice z40 z1a.length z41),(.slice z42 zW.length z43),(.map (some z44)),(.slice z8c z32.length z8d),(.slice none 0 0),(.slice none 0 0)],row (.slice z8c z32.length z8d) 113 7 (z32.flatMap yw),y16 z44 (fun x=>Value.agg (y1N x).toArray) Value.pointer (y1p ([] : List (Snetwork_exit × ((Nat × (Option Addr × Nat)) × Sport_Port)))),y1n z12 ([] : List (Snetwork_exit × ((Nat × (Option Addr × Nat)) × Sport_Port)))]) (fun (zbb : Nat) (z1R : Int) (z32 : List Snetwork_event) (z8c : Option Addr) (z8d : Nat)=>zbb) ⟨yA,0,([] : List Snetwork_event),none,0⟩ h (.cons rfl (.cons rfl (.cons rfl (.cons rfl (.cons rfl .nil))))) (.cons .h1 (.cons .here (.cons .h1 (.cons .here .nil)))) ?_
        rintro zbb z1R z32 z8c z8d h
        obtain ⟨ziF,rfl⟩:=y5P h
        rw [y2f] at h
        refine WC.b (WC.a (WL.pu rfl (WL.nil (WX.a (WC.b ?_)))))
        refine WC.cond rfl (fun ziK=>?_) (fun ziK=>?_)
        · replace h:=ym h ziK
          refine WC.skip (WX.a ?_)
          obtain ⟨zf4,zsZ,h⟩:=y1d h
          refine WC.y4R (fun (z56 : List Snetwork_event) (zbc : Option Addr) (zbd : Nat)=>(zf4 z56 = some r)) (fun (z56 : List Snetwork_event) (zbc : Option Addr) (zbd : Nat)=>[(2,(.slice z40 z1a.length z41)),(11,(.pointer (some ⟨z59,0,none⟩))),(32,(.slice z42 zW.length z43)),(33,(.int .i64 ((zW.length : Nat) : Int))),(34,(.int .i64 z1R))]) (fun (z56 : List Snetwork_event) (zbc : Option Addr) (zbd : Nat)=>[stb z59 81 [(.slice z3K zd.fModules.length z3L),(.slice z3M zd.fChannels.length z3N),(.slice z3O zd.fSwitches.length z3P),(.slice z3Q zd.fLinks.length z3R),(.slice z3S zd.fVLs.length z3T),(.slice z3U zd.fHealth.length z3V),(.slice z3W zd.fCauses.length z3X),(.slice z3Y zd.fVersions.length z3Z),(.slice z40 z1a.length z41),(.slice z42 zW.length z43),(.map (some z44)),(.slice zbc z56.length zbd),(.slice none 0 0),(.slice none 0 0)],row (.slice zbc z56.length zbd) 113 7 (z56.flatMap yw),y16 z44 (fun x=>Value.agg (y1N x).toArray) Value.pointer (y1p ([] : List (Snetwork_exit × ((Nat × (Option Addr × Nat)) × Sport_Port)))),y1n z12 ([] : List (Snetwork_exit × ((Nat × (Option Addr × Nat)) × Sport_Port)))]) ?_ ?_
          · skip
            refine WC.block (WC.b ?_)
            obtain ⟨zt0,h⟩:=yj h
            refine WC.a (WL.pu rfl ?_)
            refine WL.znth (dd:=37) rfl rfl (Z:=Z) (Pr:=(fun r x=>r = e53 x)) y4o rfl rfl zfe zt0 ?_
            rintro zxq zxr zt1 zxs rfl
            refine WL.a (d:=38) rfl rfl rfl (yH y6L rfl (y3F hz.pv zt1) rfl) ?_
            refine WL.new (dd:=13) rfl rfl rfl (y23 (cs:=[(.int .i64 0),(.int .i64 0),(.int .i64 0)]) y61 rfl) ?_
            intro zxt _
            refine WL.pu rfl ?_
            refine WL.y1l rfl rfl (y1D y6M rfl rfl rfl .here rfl rfl rfl) ?_
            refine WL.nil (WX.a (WC.b ?_))
            obtain ⟨zt2,h⟩:=yj h
            refine WC.a (WL.pu rfl ?_)
            refine WL.a (d:=40) rfl rfl rfl (ya y4g rfl rfl) ?_
            refine WL.a (d:=41) rfl rfl rfl (yb ye rfl (yc .here rfl)) ?_
            refine WL.znth (dd:=42) rfl rfl (Z:=Z) (Pr:=(p55 Z)) y5E rfl rfl zfd zt2 ?_
            rintro zxu zxv zt3 zxw ⟨zxx,zxy,rfl,zt4⟩
            refine WL.a (d:=43) rfl rfl rfl (yb y5F rfl (rd_z hz.pv zt3 rfl)) ?_
            refine WL.pu rfl (WL.nil (WX.a (WC.b (WC.a (WL.pu rfl ?_)))))
            refine WL.a (d:=45) rfl rfl rfl (yZ Try.underlying55 rfl) ?_
            refine WL.pu rfl (WL.nil (WX.a ?_))
            refine WC.cond rfl (fun ziL=>?_) (fun ziL=>?_)
            · replace h:=ym h ziL
              obtain ⟨zt5,h⟩:=yj h
              obtain ⟨ziG,zt6,h⟩:=zp h
              refine WC.yV (fun i=>[8].contains i) [] rfl ?_
              refine WD.a (i:=0) (d:=47) (by kernel_rfl) rfl (z2 (by kernel_rfl)) (z3 (by kernel_rfl)) rfl rfl rfl (fun _=>q_m rfl) ?_
              refine WD.a (i:=1) (d:=48) (by kernel_rfl) rfl (z2 (by kernel_rfl)) (z3 (by kernel_rfl)) rfl rfl rfl (fun _=>q_m rfl) ?_
              refine WD.znth (j:=2) (dd:=49) (by kernel_rfl) rfl (z2 (by kernel_rfl)) (z3 (by kernel_rfl)) rfl rfl (Z:=Z) (Pr:=(fun r x=>r = e59 x)) y4N rfl rfl zt4 zt5 ?_
              rintro zxz zxA zt7 zxB rfl
              refine WD.a (i:=3) (d:=50) (by kernel_rfl) rfl (z2 (by kernel_rfl)) (z3 (by kernel_rfl)) rfl rfl rfl (fun _=>ya y3f rfl rfl) ?_
              refine WD.e (i:=4) (d:=51) (by kernel_rfl) rfl (z2 (by kernel_rfl)) (z3 (by kernel_rfl)) rfl rfl rfl (yb ye rfl (y1G hz.pv zt7 rfl)) ?_
              refine WD.a (i:=5) (d:=52) (by kernel_rfl) rfl (z2 (by kernel_rfl)) (z3 (by kernel_rfl)) rfl rfl rfl (fun _=>ya y3Q rfl rfl) ?_
              refine WD.e (i:=6) (d:=53) (by kernel_rfl) rfl (z2 (by kernel_rfl)) (z3 (by kernel_rfl)) rfl rfl rfl (yb ye rfl (yc .here rfl)) ?_
              refine WD.a (i:=7) (d:=54) (by kernel_rfl) rfl (z2 (by kernel_rfl)) (z3 (by kernel_rfl)) rfl rfl rfl (fun _=>q_m rfl) ?_
              refine WD.call2 (i:=8) (dd:=55) rfl (by kernel_rfl) rfl rfl rfl (.inl ⟨rfl,fun _ _=>(Sin.of .nil)⟩) (zF (l:=[.tmp 47,.tmp 51,.tmp 53,.const (.int .i64 (-1)),.tmp 54]) Try.call25 (.cons rfl (.cons rfl (.cons rfl (.cons rfl (.cons rfl .nil)))))) (.cons .h1 (.cons .h2 (.cons .h2 (.cons .h1 .nil)))) (cc hz (.cons .h1 (.cons .h2 (.cons .h2 (.cons .h1 .nil)))) fun w pz ho=>y4v _ _ _ _ _ _ _ _ _ _ _ _ _ _ _ _ _ _ _ _ _ _ _ _ _ _ _ _ _ _ _ _ _ _ _ _ _ _ _ _ _ _ zt6 w pz zf5 zf6 zf7 zf8 zf9 zfa zfb zfc zfd zfe rfl (ZS.nil _ _ _) (ZS.nil _ _ _) ho) ?_
              rintro zt8 zt9 _
              refine WD.done (by kernel_rfl) ?_
              refine WX.yh ?_
              exact WX.mid (G:=List Snetwork_event × Option Addr × Nat) ⟨ziG,zt8,zt9⟩ h (.cons rfl (.cons rfl (.cons rfl (.cons rfl (.cons rfl .nil))))) (.cons .here (.cons .here (.cons .here (.cons .here .nil))))
            · replace h:=yn h ziL
              refine WC.skip (WX.yh ?_)
              exact WX.mid (G:=List Snetwork_event × Option Addr × Nat) ⟨z32,z8c,z8d⟩ h (.cons rfl (.cons rfl (.cons rfl (.cons rfl (.cons rfl .nil))))) (.cons .h1 (.cons .h1 (.cons .h1 (.cons .h1 .nil))))
          · rintro z56 zbc zbd h
            replace h:=(zsZ z56).symm.trans h
            refine WC.a (WL.pu rfl (WL.pu rfl (WL.nil ?_)))
            exact WX.round (G:=Nat × Int × List Snetwork_event × Option Addr × Nat) ⟨ziF,(i64 (z1R + 1)),z56,zbc,zbd⟩ h (Nat.lt_succ_self _) (.cons rfl (.cons rfl (.cons rfl (.cons rfl (.cons rfl .nil))))) (.cons .here (.cons .here (.cons .here (.cons .here .nil))))
        · replace h:=yn h ziK
          refine WC.exit (WX.yf (WX.yf (WX.yB ?_)))
          exact WX.mid (G:=List Snetwork_event × Option Addr × Nat) ⟨z32,z8c,z8d⟩ h (.cons rfl .nil) (.cons .here (.cons .here (.cons .here (.cons .here .nil))))
      · rintro z57 zb9 zba h
        replace h:=(zsY z57).symm.trans h
        obtain ⟨z7z,zta,h⟩:=jp4_elim h
        refine WC.y8G (fun (z7B : List Snetwork_event) (z6B : List Sapi_Come) (z58 : List Sapi_Come) (z9p : List (Snetwork_exit × Sport_Port)) (zdy : Option Addr) (zdz : Nat) (zbe : Option Addr) (zbf : Nat) (z9q : Option Addr) (z9r : Nat) (zbg : List (Snetwork_exit × ((Nat × (Option Addr × Nat)) × Sport_Port)))=>(z7z z7B z6B z58 z9p = some r) ∧ (dat zbg = z9p)) (fun (z7B : List Snetwork_event) (z6B : List Sapi_Come) (z58 : List Sapi_Come) (z9p : List (Snetwork_exit × Sport_Port)) (zdy : Option Addr) (zdz : Nat) (zbe : Option Addr) (zbf : Nat) (z9q : Option Addr) (z9r : Nat) (zbg : List (Snetwork_exit × ((Nat × (Option Addr × Nat)) × Sport_Port)))=>[(11,(.pointer (some ⟨z59,0,none⟩)))]) (fun (z7B : List Snetwork_event) (z6B : List Sapi_Come) (z58 : List Sapi_Come) (z9p : List (Snetwork_exit × Sport_Port)) (zdy : Option Addr) (zdz : Nat) (zbe : Option Addr) (zbf : Nat) (z9q : Option Addr) (z9r : Nat) (zbg : List (Snetwork_exit × ((Nat × (Option Addr × Nat)) × Sport_Port)))=>[stb z59 81 [(.slice z3K zd.fModules.length z3L),(.slice z3M zd.fChannels.length z3N),(.slice z3O zd.fSwitches.length z3P),(.slice z3Q zd.fLinks.length z3R),(.slice z3S zd.fVLs.length z3T),(.slice z3U zd.fHealth.length z3V),(.slice z3W zd.fCauses.length z3X),(.slice z3Y zd.fVersions.length z3Z),(.slice z40 z1a.length z41),(.slice z42 zW.length z43),(.map (some z44)),(.slice zdy z7B.length zdz),(.slice zbe z6B.length zbf),(.slice z9q z58.length z9r)],row (.slice zdy z7B.length zdz) 113 7 (z7B.flatMap yw),row (.slice zbe z6B.length zbf) 50 3 (z6B.flatMap e50),row (.slice z9q z58.length z9r) 50 3 (z58.flatMap e50),y16 z44 (fun x=>Value.agg (y1N x).toArray) Value.pointer (y1p zbg),y1n z12 zbg]) ?_ ?_
        · skip
          refine WC.block ?_
          refine WC.nilRow 50 3 ?_
          refine WC.nilRow 50 3 ?_
          refine WC.y9l (fun (zbh : Nat) (z3d : List Snetwork_event) (z3w : List Sapi_Come) (z3x : List Sapi_Come) (z4I : List (Snetwork_exit × Sport_Port)) (z9s : Option Addr) (z9t : Nat) (z9u : Option Addr) (z9v : Nat) (z9w : Option Addr) (z9x : Nat) (z8e : List (Snetwork_exit × ((Nat × (Option Addr × Nat)) × Sport_Port)))=>(y2g zd z1a zW z7z zbh z3d z3w z3x z4I = some r) ∧ (dat z8e = z4I)) (fun (zbh : Nat) (z3d : List Snetwork_event) (z3w : List Sapi_Come) (z3x : List Sapi_Come) (z4I : List (Snetwork_exit × Sport_Port)) (z9s : Option Addr) (z9t : Nat) (z9u : Option Addr) (z9v : Nat) (z9w : Option Addr) (z9x : Nat) (z8e : List (Snetwork_exit × ((Nat × (Option Addr × Nat)) × Sport_Port)))=>[(11,(.pointer (some ⟨z59,0,none⟩)))]) (fun (zbh : Nat) (z3d : List Snetwork_event) (z3w : List Sapi_Come) (z3x : List Sapi_Come) (z4I : List (Snetwork_exit × Sport_Port)) (z9s : Option Addr) (z9t : Nat) (z9u : Option Addr) (z9v : Nat) (z9w : Option Addr) (z9x : Nat) (z8e : List (Snetwork_exit × ((Nat × (Option Addr × Nat)) × Sport_Port)))=>[stb z59 81 [(.slice z3K zd.fModules.length z3L),(.slice z3M zd.fChannels.length z3N),(.slice z3O zd.fSwitches.length z3P),(.slice z3Q zd.fLinks.length z3R),(.slice z3S zd.fVLs.length z3T),(.slice z3U zd.fHealth.length z3V),(.slice z3W zd.fCauses.length z3X),(.slice z3Y zd.fVersions.length z3Z),(.slice z40 z1a.length z41),(.slice z42 zW.length z43),(.map (some z44)),(.slice z9s z3d.length z9t),(.slice z9u z3w.length z9v),(.slice z9w z3x.length z9x)],row (.slice z9s z3d.length z9t) 113 7 (z3d.flatMap yw),row (.slice z9u z3w.length z9v) 50 3 (z3w.flatMap e50),row (.slice z9w z3x.length z9x) 50 3 (z3x.flatMap e50),y16 z44 (fun x=>Value.agg (y1N x).toArray) Value.pointer (y1p z8e),y1n z12 z8e]) (fun (zbh : Nat) (z3d : List Snetwork_event) (z3w : List Sapi_Come) (z3x : List Sapi_Come) (z4I : List (Snetwork_exit × Sport_Port)) (z9s : Option Addr) (z9t : Nat) (z9u : Option Addr) (z9v : Nat) (z9w : Option Addr) (z9x : Nat) (z8e : List (Snetwork_exit × ((Nat × (Option Addr × Nat)) × Sport_Port)))=>zbh) ⟨yA,z57,([] : List Sapi_Come),([] : List Sapi_Come),([] : List (Snetwork_exit × Sport_Port)),zb9,zba,none,0,none,0,([] : List (Snetwork_exit × ((Nat × (Option Addr × Nat)) × Sport_Port)))⟩ ⟨h,rfl⟩ (.cons rfl .nil) (.cons .h2 (.cons .h2 (.cons .h1 (.cons .here (.cons .here (.cons .here .nil)))))) ?_
          rintro zbh z3d z3w z3x z4I z9s z9t z9u z9v z9w z9x z8e ⟨h,znh⟩
          obtain ⟨ziH,rfl⟩:=y5Q h
          rw [y2g] at h
          refine WC.b (WC.b (WC.a (WL.pu rfl ?_)))
          refine WL.a (d:=58) rfl rfl rfl (yt rfl) ?_
          refine WL.a (d:=59) rfl rfl rfl (ya y7C rfl rfl) ?_
          refine WL.a (d:=60) rfl rfl rfl (yb y4X rfl (yc .here rfl)) ?_
          refine WL.a (d:=61) rfl rfl rfl (yZ Try.underlying79 rfl) ?_
          refine WL.pu rfl (WL.nil (WX.a ?_))
          refine WC.cond rfl (fun ziM=>?_) (fun ziM=>?_)
          · replace h:=ym h ziM
            refine WC.skip (WX.a (WC.block ?_))
            obtain ⟨z7A,ztb,h⟩:=zp h
            refine WC.a (WL.pu rfl ?_)
            refine WL.y9k (dd:=64) rfl rfl rfl (zF (l:=[.tmp 63]) Try.call26 (.cons rfl .nil)) (.cons .here (.cons .h3 (.cons .h3 (.cons .here (.cons .here (.cons .here .nil)))))) (cc hz (.cons .here (.cons .h3 (.cons .h3 (.cons .here (.cons .here (.cons .here .nil)))))) fun w pz ho=>y6A _ _ _ _ _ _ _ _ _ _ _ _ _ _ _ _ _ _ _ _ _ _ _ _ _ _ _ _ _ _ _ _ _ _ _ _ _ _ ztb w pz zf5 zf6 zf7 zf8 zf9 zfa zfb zfc zfd zfe znh ho) ?_
            rintro ztc ztd zte ztf ztg zth zti ztj
            refine WL.nil (WX.yh ?_)
            exact WX.round (G:=Nat × List Snetwork_event × List Sapi_Come × List Sapi_Come × (List (Snetwork_exit × Sport_Port)) × Option Addr × Nat × Option Addr × Nat × Option Addr × Nat × (List (Snetwork_exit × ((Nat × (Option Addr × Nat)) × Sport_Port)))) ⟨ziH,z7A.1,z7A.2.1,z7A.2.2.1,z7A.2.2.2,ztc,ztd,zte,ztf,ztg,zth,zti⟩ ⟨h,ztj⟩ (Nat.lt_succ_self _) (.cons rfl .nil) (.cons .here (.cons .here (.cons .here (.cons .here (.cons .here (.cons .here .nil))))))
          · replace h:=yn h ziM
            refine WC.exit (WX.yf (WX.yf (WX.yB ?_)))
            exact WX.mid (G:=List Snetwork_event × List Sapi_Come × List Sapi_Come × (List (Snetwork_exit × Sport_Port)) × Option Addr × Nat × Option Addr × Nat × Option Addr × Nat × (List (Snetwork_exit × ((Nat × (Option Addr × Nat)) × Sport_Port)))) ⟨z3d,z3w,z3x,z4I,z9s,z9t,z9u,z9v,z9w,z9x,z8e⟩ ⟨h,znh⟩ (.cons rfl .nil) (.cons .here (.cons .here (.cons .here (.cons .here (.cons .here (.cons .here .nil))))))
        · rintro z7B z6B z58 z9p zdy zdz zbe zbf z9q z9r zbg ⟨h,zxC⟩
          replace h:=(zta z7B z6B z58 z9p).symm.trans h
          refine WC.b ?_
          obtain ⟨znb,ztk,h⟩:=zp h
          obtain ⟨znc,ztl,h⟩:=zp h
          refine WC.yV (fun i=>[4,9].contains i) [stbp z59 81 [(13,(.slice z9q z58.length z9r))]] rfl ?_
          refine WD.a (i:=0) (d:=65) (by kernel_rfl) rfl (z2 (by kernel_rfl)) (z3 (by kernel_rfl)) rfl rfl rfl (fun _=>q_m rfl) ?_
          refine WD.a (i:=1) (d:=66) (by kernel_rfl) rfl (z2 (by kernel_rfl)) (z3 (by kernel_rfl)) rfl rfl rfl (fun _=>yt rfl) ?_
          refine WD.a (i:=2) (d:=67) (by kernel_rfl) rfl (z2 (by kernel_rfl)) (z3 (by kernel_rfl)) rfl rfl rfl (fun _=>ya y7G rfl rfl) ?_
          refine WD.e (i:=3) (d:=68) (by kernel_rfl) rfl (z2 (by kernel_rfl)) (z3 (by kernel_rfl)) rfl rfl rfl (yb y6N rfl (yc .here rfl)) ?_
          refine WD.a (i:=5) (d:=70) (by kernel_rfl) rfl (z2 (by kernel_rfl)) (z3 (by kernel_rfl)) rfl rfl rfl (fun _=>q_m rfl) ?_
          refine WD.a (i:=6) (d:=71) (by kernel_rfl) rfl (z2 (by kernel_rfl)) (z3 (by kernel_rfl)) rfl rfl rfl (fun _=>yt rfl) ?_
          refine WD.a (i:=7) (d:=72) (by kernel_rfl) rfl (z2 (by kernel_rfl)) (z3 (by kernel_rfl)) rfl rfl rfl (fun _=>ya y7F rfl rfl) ?_
          refine WD.stable (i:=8) (d:=73) (by kernel_rfl) rfl (z2 (by kernel_rfl)) (z3 (by kernel_rfl)) rfl rfl rfl (Sin.wk (.cons .here .nil) (.stb (.cons rfl .nil) .nil)) (yb y6N rfl (y6E .here (.head _))) ?_
          refine WD.call0 (i:=4) (dd:=69) rfl (by kernel_rfl) rfl rfl rfl (.inl ⟨rfl,(Sin.wk (.cons .h1 .nil) (.stb (.cons rfl .nil) .nil))⟩) (zF (l:=[.tmp 68]) Try.call27 (.cons rfl .nil)) (.cons .h2 .nil) (cc hz (.cons .h2 .nil) fun w pz ho=>y5b _ _ _ _ _ ztk w pz  ho) ?_
          rintro  zxD
          refine WD.call0 (i:=9) (dd:=74) rfl (by kernel_rfl) rfl rfl rfl (.inl ⟨rfl,(Sin.wk (.cons .h2 .nil) (.stb (.cons rfl .nil) .nil))⟩) (zF (l:=[.tmp 73]) Try.call27 (.cons rfl .nil)) (.cons .h3 .nil) (cc hz (.cons .h3 .nil) fun w pz ho=>y5b _ _ _ _ _ ztl w pz  ho) ?_
          rintro  zxE
          refine WD.a (i:=10) (d:=8) (by kernel_rfl) rfl (z2 (by kernel_rfl)) (z3 (by kernel_rfl)) rfl rfl rfl (fun _=>q_z rfl) ?_
          refine WD.a (i:=11) (d:=9) (by kernel_rfl) rfl (z2 (by kernel_rfl)) (z3 (by kernel_rfl)) rfl rfl rfl (fun _=>q_z rfl) ?_
          refine WD.a (i:=12) (d:=10) (by kernel_rfl) rfl (z2 (by kernel_rfl)) (z3 (by kernel_rfl)) rfl rfl rfl (fun _=>q_z rfl) ?_
          refine WD.done (by kernel_rfl) ?_
          refine WX.a (WC.ret ?_)
          obtain rfl:=Option.some.inj h
          refine WX.yi Try.results12 (.tmp rfl (.tmp rfl (.tmp rfl .nil))) (fun w hw=>?_)
          exact ⟨zbe,zbf,z9q,z9r,ret3 rfl rfl rfl,trivial,hw.sub (.cons .h1 (.cons .here .nil))⟩
def y3l (z1G : List Sapi_Come) (z1W : List Sapi_Come) (z7C : Option Bool) : Nat → Int → Option Bool
  | 0,_=>none
  | ziN + 1,z1r=>if decide (z1r < ((z1G.length : Nat) : Int)) then chk ((0 : Int) ≤ z1r ∧ z1r < ((z1G.length : Nat) : Int)) (chk ((0 : Int) ≤ z1r ∧ z1r < ((z1W.length : Nat) : Int)) (if decide ((⟨((nth z1G z1r).fSent),((nth z1G z1r).fNode),((nth z1G z1r).fTime)⟩ : Sapi_Come) ≠ (⟨((nth z1W z1r).fSent),((nth z1W z1r).fNode),((nth z1W z1r).fTime)⟩ : Sapi_Come)) then some false else y3l z1G z1W z7C ziN (i64 (z1r + 1)))) else z7C
theorem y67 {n : Nat} {z1G : List Sapi_Come} {z1W : List Sapi_Come} {z7C : Option Bool} {z1r : Int} {r : Bool} (h : y3l z1G z1W z7C n z1r = some r) : ∃ m,n = m + 1:=by
  cases n with
  | zero=>cases h
  | succ m=>exact ⟨m,rfl⟩
def y4t (z1G : List Sapi_Come) (z1W : List Sapi_Come) : Option Bool :=
  if decide (((z1G.length : Nat) : Int) ≠ ((z1W.length : Nat) : Int)) then some false else jp0 (some true) fun z7C=>y3l z1G z1W z7C yA 0
set_option maxRecDepth 20000 in
theorem y6C (Z : Zp) (zdA : Option Addr) (zdB : Nat) (zdC : Option Addr) (zdD : Nat) (z1G : List Sapi_Come) (z1W : List Sapi_Come) (r : Bool)
     (h : y4t z1G z1W = some r) (w₀ : World) (hz : PZ [] w₀ Z)
     (ztm : ZS Z 3 (fun r x=>r = e50 x) zdA zdB z1G)
     (ztn : ZS Z 3 (fun r x=>r = e50 x) zdC zdD z1W) :
    Calls Try.prog 14 #[(.slice zdA z1G.length zdB),(.slice zdC z1W.length zdD)] w₀ fun e w'=>e = .returned (.bool r) ∧ Hp [] w₀ w' []:=by
  unfold y4t at h
  refine Calls.yl (vs:=[(.slice zdA z1G.length zdB),(.slice zdC z1W.length zdD)]) (pre:=[]) (env:=[(0,(.slice zdA z1G.length zdB)),(1,(.slice zdC z1W.length zdD))]) Try.func14 rfl Try.ntmps14 rfl (Hp.nil w₀ _) rfl ?_
  refine WC.b (WC.a (WL.pu rfl (WL.nil (WX.a (WC.b (WC.b (WC.a (WL.pu rfl ?_))))))))
  refine WL.a (d:=7) rfl rfl rfl (yZ Try.underlying36 rfl) ?_
  refine WL.pu rfl ?_
  refine WL.a (d:=9) rfl rfl rfl (yZ Try.underlying36 rfl) ?_
  refine WL.pu rfl (WL.nil (WX.a ?_))
  refine WC.cond rfl (fun ziO=>?_) (fun ziO=>?_)
  · replace h:=ym h ziO
    refine WC.b (WC.a (WL.pu rfl (WL.nil (WX.a (WC.ret (WX.yg ?_))))))
    obtain rfl:=Option.some.inj h
    refine WX.yi Try.results14 (.tmp rfl .nil) (fun w hw=>?_)
    exact ⟨y10 rfl,hw.sub .nil⟩
  · replace h:=yn h ziO
    refine WC.skip (WX.a ?_)
    obtain ⟨z7C,zto,h⟩:=y2r h
    refine WC.y2d ((z7C = some r)) ([]) ([]) ?_ ?_
    · skip
      refine WC.b (WC.a (WL.pu rfl ?_))
      refine WL.a (d:=12) rfl rfl rfl (yZ Try.underlying36 rfl) ?_
      refine WL.pu rfl (WL.nil (WX.a (WC.block ?_)))
      refine WC.y3Z (fun (zbi : Nat) (z1r : Int)=>(y3l z1G z1W z7C zbi z1r = some r)) (fun (zbi : Nat) (z1r : Int)=>[(0,(.slice zdA z1G.length zdB)),(1,(.slice zdC z1W.length zdD)),(12,(.int .i64 ((z1G.length : Nat) : Int))),(13,(.int .i64 z1r))]) (fun (zbi : Nat) (z1r : Int)=>[]) (fun (zbi : Nat) (z1r : Int)=>zbi) ⟨yA,0⟩ h (.cons rfl (.cons rfl (.cons rfl (.cons rfl .nil)))) .nil ?_
      rintro zbi z1r h
      obtain ⟨ziN,rfl⟩:=y67 h
      rw [y3l] at h
      refine WC.b (WC.a (WL.pu rfl (WL.nil (WX.a (WC.b ?_)))))
      refine WC.cond rfl (fun ziP=>?_) (fun ziP=>?_)
      · replace h:=ym h ziP
        refine WC.skip (WX.a (WC.b (WC.block (WC.b (WC.a (WL.pu rfl (WL.pu rfl (WL.nil (WX.a (WC.b ?_))))))))))
        obtain ⟨ztp,h⟩:=yj h
        obtain ⟨ztq,h⟩:=yj h
        refine WC.yV (fun i=>[].contains i) [] rfl ?_
        refine WD.a (i:=0) (d:=16) (by kernel_rfl) rfl (z2 (by kernel_rfl)) (z3 (by kernel_rfl)) rfl rfl rfl (fun _=>q_m rfl) ?_
        refine WD.a (i:=1) (d:=17) (by kernel_rfl) rfl (z2 (by kernel_rfl)) (z3 (by kernel_rfl)) rfl rfl rfl (fun _=>q_m rfl) ?_
        refine WD.znth (j:=2) (dd:=18) (by kernel_rfl) rfl (z2 (by kernel_rfl)) (z3 (by kernel_rfl)) rfl rfl (Z:=Z) (Pr:=(fun r x=>r = e50 x)) y15 rfl rfl ztm ztp ?_
        rintro zxF zxG ztr zxH rfl
        refine WD.e (i:=3) (d:=19) (by kernel_rfl) rfl (z2 (by kernel_rfl)) (z3 (by kernel_rfl)) rfl rfl rfl (yH y20 rfl (y3F hz.pv ztr) rfl) ?_
        refine WD.a (i:=4) (d:=20) (by kernel_rfl) rfl (z2 (by kernel_rfl)) (z3 (by kernel_rfl)) rfl rfl rfl (fun _=>q_m rfl) ?_
        refine WD.a (i:=5) (d:=21) (by kernel_rfl) rfl (z2 (by kernel_rfl)) (z3 (by kernel_rfl)) rfl rfl rfl (fun _=>q_m rfl) ?_
        refine WD.znth (j:=6) (dd:=22) (by kernel_rfl) rfl (z2 (by kernel_rfl)) (z3 (by kernel_rfl)) rfl rfl (Z:=Z) (Pr:=(fun r x=>r = e50 x)) y15 rfl rfl ztn ztq ?_
        rintro zxI zxJ zts zxK rfl
        refine WD.e (i:=7) (d:=23) (by kernel_rfl) rfl (z2 (by kernel_rfl)) (z3 (by kernel_rfl)) rfl rfl rfl (yH y20 rfl (y3F hz.pv zts) rfl) ?_
        refine WD.a (i:=8) (d:=24) (by kernel_rfl) rfl (z2 (by kernel_rfl)) (z3 (by kernel_rfl)) rfl rfl rfl (fun _=>q_aggneq (enc:=e50) (a:=(⟨((nth z1G z1r).fSent),((nth z1G z1r).fNode),((nth z1G z1r).fTime)⟩ : Sapi_Come)) (b:=(⟨((nth z1W z1r).fSent),((nth z1W z1r).fNode),((nth z1W z1r).fTime)⟩ : Sapi_Come)) eqT_50 rfl rfl) ?_
        refine WD.done (by kernel_rfl) ?_
        refine WX.a ?_
        refine WC.cond rfl (fun ziQ=>?_) (fun ziQ=>?_)
        · replace h:=ym h ziQ
          refine WC.b (WC.a (WL.pu rfl (WL.nil (WX.a (WC.ret (WX.yC (WX.yg (WX.yg (WX.yC (WX.yg ?_))))))))))
          obtain rfl:=Option.some.inj h
          refine WX.yi Try.results14 (.tmp rfl .nil) (fun w hw=>?_)
          exact ⟨y10 rfl,hw.sub .nil⟩
        · replace h:=yn h ziQ
          refine WC.skip (WX.yh (WX.a (WC.a (WL.pu rfl (WL.pu rfl (WL.nil ?_))))))
          exact WX.round (G:=Nat × Int) ⟨ziN,(i64 (z1r + 1))⟩ h (Nat.lt_succ_self _) (.cons rfl (.cons rfl (.cons rfl (.cons rfl .nil)))) .nil
      · replace h:=yn h ziP
        refine WC.exit (WX.yf (WX.yf (WX.yB ?_)))
        exact WX.mid (G:=Unit) () h .nil .nil
    · rintro  h
      replace h:=zto.symm.trans h
      refine WC.b (WC.a (WL.pu rfl (WL.nil (WX.a (WC.ret ?_)))))
      obtain rfl:=Option.some.inj h
      refine WX.yi Try.results14 (.tmp rfl .nil) (fun w hw=>?_)
      exact ⟨y10 rfl,hw.sub .nil⟩
def y39 (z7D : Option Bool) : Nat → Int → Option Bool
  | 0,_=>none
  | ziR + 1,z1X=>if decide (z1X < ((([1000,50,30] : List Int).length : Nat) : Int)) then chk ((0 : Int) ≤ z1X ∧ z1X < ((([1000,50,30] : List Int).length : Nat) : Int)) ((y4q (nth ([1000,50,30] : List Int) z1X)).bind fun z1c=>(y2M z1c.1 0 z1c.2 ([(⟨0,0,40⟩ : zSt),(⟨10,0,40⟩ : zSt)] : List zSt)).bind fun z2x=>jp2 (fun (z5a : List Sapi_Come) (z5b : List Sapi_Come)=>jp2 (fun (z6C : List Sapi_Come) (z6D : List Sapi_Come)=>(if decide (z2x.2.2 ≠ 0) then some true else (y4t z2x.1 z6C).bind fun zni=>some (!zni)).bind fun ziS=>(if ziS then some true else (y4t z2x.2.1 z6D).bind fun znj=>some (!znj)).bind fun ziT=>(if ziT then some true else (y2s z1c.1).bind fun znk=>some (decide (znk ≠ 3))).bind fun ziU=>(if ziU then some true else (y2W z1c.1 2).bind fun znl=>some (decide (znl ≠ ⟨#[115]⟩))).bind fun ziV=>if ziV then some false else y39 z7D ziR (i64 (z1X + 1))) fun zff=>if decide ((nth ([1000,50,30] : List Int) z1X) = 30) then zff ([] : List Sapi_Come) ([(⟨0,2,40⟩ : Sapi_Come),(⟨1,2,80⟩ : Sapi_Come)] : List Sapi_Come) else zff z5a z5b) fun zfg=>if decide ((nth ([1000,50,30] : List Int) z1X) = 50) then chk ((0 : Int) ≤ 1 ∧ 1 ≤ ((([(⟨0,1,96⟩ : Sapi_Come),(⟨1,1,136⟩ : Sapi_Come)] : List Sapi_Come).length : Nat) : Int)) (zfg (([(⟨0,1,96⟩ : Sapi_Come),(⟨1,1,136⟩ : Sapi_Come)] : List Sapi_Come).take (1 : Int).toNat) ([(⟨1,2,80⟩ : Sapi_Come)] : List Sapi_Come)) else zfg ([(⟨0,1,96⟩ : Sapi_Come),(⟨1,1,136⟩ : Sapi_Come)] : List Sapi_Come) ([] : List Sapi_Come)) else z7D
theorem y5R {n : Nat} {z7D : Option Bool} {z1X : Int} {r : Bool} (h : y39 z7D n z1X = some r) : ∃ m,n = m + 1:=by
  cases n with
  | zero=>cases h
  | succ m=>exact ⟨m,rfl⟩
def y3N  : Option Bool :=
  jp0 (some true) fun z7D=>y39 z7D yA 0
set_option maxRecDepth 20000 in
theorem y6i (Z : Zp)  (r : Bool)
     (h : y3N = some r) (w₀ : World) (hz : PZ [] w₀ Z) :
    Calls Try.prog 11 #[] w₀ fun e w'=>∃ Zn : Zp,e = .returned (.bool r) ∧ True ∧ Hp [] w₀ w' [fz Zn]:=by
  unfold y3N at h
  refine Calls.yl (vs:=[]) (pre:=[]) (env:=[]) Try.func11 rfl Try.ntmps11 rfl (Hp.nil w₀ _) rfl ?_
  refine WC.pool (WC.b (WC.a (WL.pu rfl (WL.nil (WX.a (WC.b (WC.a ?_)))))))
  refine WL.a (d:=11) rfl rfl rfl (y1x (v:=(.agg #[(.int .i64 0),(.int .i64 0),(.int .i64 40)])) (Eos.parts (l:=[.const (.int .i64 0),.const (.int .i64 40)]) (.cons rfl (.cons rfl .nil)) [0,2]) (fun _=>by kernel_rfl)) ?_
  refine WL.a (d:=12) rfl rfl rfl (y1x (v:=(.agg #[(.int .i64 10),(.int .i64 0),(.int .i64 40)])) (Eos.parts (l:=[.const (.int .i64 10),.const (.int .i64 40)]) (.cons rfl (.cons rfl .nil)) [0,2]) (fun _=>by kernel_rfl)) ?_
  refine WL.new (dd:=13) rfl rfl rfl (y17 (cs:=([(⟨0,0,40⟩ : zSt),(⟨10,0,40⟩ : zSt)] : List zSt).flatMap e53) y4o (Eos.parts (l:=[.tmp 11,.tmp 12]) (.cons rfl (.cons rfl .nil)) [0,1]) (fun _=>by kernel_rfl) rfl (by unfold maxLen; omega)) ?_
  intro zbj _
  refine WL.pu rfl (WL.nil (WX.a ?_))
  obtain ⟨z7D,ztt,h⟩:=y2r h
  refine WC.y1L (fun (zbk : Zp)=>(z7D = some r) ∧ (Zle (Z ++ []) (Z ++ zbk))) (fun (zbk : Zp)=>[]) (fun (zbk : Zp)=>[fz zbk]) ?_ ?_
  · skip
    refine WC.b (WC.a ?_)
    refine WL.new (dd:=14) rfl rfl rfl (y17 (cs:=([1000,50,30] : List Int).flatMap e3) y6x (Eos.parts (l:=[.const (.int .i64 1000),.const (.int .i64 50),.const (.int .i64 30)]) (.cons rfl (.cons rfl (.cons rfl .nil))) [0,1,2]) (fun _=>by kernel_rfl) rfl (by unfold maxLen; omega)) ?_
    intro zbl _
    refine WL.a (d:=15) rfl rfl rfl (yZ Try.underlying56 rfl) ?_
    refine WL.pu rfl (WL.nil (WX.a (WC.block ?_)))
    refine WC.y2q (fun (zbm : Nat) (z1X : Int) (z5c : Zp)=>(y39 z7D zbm z1X = some r) ∧ (Zle (Z ++ []) (Z ++ z5c))) (fun (zbm : Nat) (z1X : Int) (z5c : Zp)=>[(1,(.slice (some ⟨zbj,0,none⟩) (([(⟨0,0,40⟩ : zSt),(⟨10,0,40⟩ : zSt)] : List zSt).length) 2)),(14,(.slice (some ⟨zbl,0,none⟩) (([1000,50,30] : List Int).length) 3)),(15,(.int .i64 ((([1000,50,30] : List Int).length : Nat) : Int))),(16,(.int .i64 z1X))]) (fun (zbm : Nat) (z1X : Int) (z5c : Zp)=>[fz z5c,row (.slice (some ⟨zbj,0,none⟩) (([(⟨0,0,40⟩ : zSt),(⟨10,0,40⟩ : zSt)] : List zSt).length) 2) 53 3 (([(⟨0,0,40⟩ : zSt),(⟨10,0,40⟩ : zSt)] : List zSt).flatMap e53),row (.slice (some ⟨zbl,0,none⟩) (([1000,50,30] : List Int).length) 3) 3 1 (([1000,50,30] : List Int).flatMap e3)]) (fun (zbm : Nat) (z1X : Int) (z5c : Zp)=>zbm) ⟨yA,0,[]⟩ ⟨h,(Zle.refl _)⟩ (.cons rfl (.cons rfl (.cons rfl (.cons rfl .nil)))) (.cons .h2 (.cons .h1 (.cons .here .nil))) ?_
    rintro zbm z1X z5c ⟨h,znm⟩
    obtain ⟨ziR,rfl⟩:=y5R h
    rw [y39] at h
    refine WC.b (WC.a (WL.pu rfl (WL.nil (WX.a (WC.b ?_)))))
    refine WC.cond rfl (fun ziW=>?_) (fun ziW=>?_)
    · replace h:=ym h ziW
      refine WC.skip (WX.a (WC.b (WC.block (WC.b ?_))))
      obtain ⟨zfh,h⟩:=yj h
      refine WC.a ?_
      refine WL.a (d:=18) rfl rfl rfl (yq y6x rfl rfl zfh.1 zfh.2 y18) ?_
      refine WL.a (d:=19) rfl rfl rfl (yb ye rfl (y6n .h2 ((y1y (enc:=e3) (l:=([1000,50,30] : List Int)) (i:=z1X) (sz:=1) (fun _=>rfl) zfh.1 zfh.2) 0 _ rfl))) ?_
      refine WL.pu rfl (WL.nil (WX.a (WC.b ?_)))
      obtain ⟨z1c,ztu,h⟩:=zp h
      refine WC.a (WL.pu rfl ?_)
      refine WL.y9d (dd:=22) rfl rfl rfl (zF (l:=[.tmp 21]) Try.call23 (.cons rfl .nil)) .nil (ccz hz .nil .here fun w pz ho=>y7o _ _ _ ztu w pz ) ?_
      rintro zfi zfj zfk znn zno znp zfl zfm zfn zfo zfp zfq znq znr zns znt znu znv znw zxL zxM zxN ⟨ziX,ziY,ziZ,zj0,zj1,zj2,ztv⟩
      refine WL.merge .here .h5 ?_
      refine WL.pu rfl (WL.pu rfl (WL.pu rfl ?_))
      refine WL.new (dd:=4) rfl rfl rfl (y23 (cs:=[(.slice none 0 0),(.slice none 0 0),(.slice none 0 0),(.slice none 0 0),(.slice none 0 0),(.slice none 0 0),(.slice none 0 0),(.slice none 0 0)]) y71 rfl) ?_
      intro zfr _
      refine WL.y1l rfl rfl (y1D y7B rfl rfl rfl .here rfl rfl rfl) ?_
      refine WL.pu rfl (WL.nil (WX.a (WC.b ?_)))
      obtain ⟨z2x,ztw,h⟩:=zp h
      refine WC.a ?_
      refine WL.a (d:=26) rfl rfl rfl (yH y1J rfl (y1j .here) rfl) ?_
      refine WL.pu rfl (WL.pu rfl ?_)
      refine WL.y7P (dd:=29) rfl rfl rfl (zF (l:=[.tmp 26,.const (.int .i64 0),.tmp 27,.tmp 28]) Try.call12 (.cons rfl (.cons rfl (.cons rfl (.cons rfl .nil))))) .nil (cclz hz .nil .h1 (.cons .h2 (.cons .h2 (.cons .h2 (.cons .h2 (.cons .h2 (.cons .h2 .nil)))))) fun w pz ho la=>y6h _ _ _ _ _ _ _ _ _ _ _ _ _ _ _ _ _ _ _ _ _ _ _ _ _ _ ztw w pz (ZA.row (la _ (.head _) _) ((ziX.weak (fun _ _ h=>y28 (Zle.y13 _ _ _) h)).weak (fun _ _ h=>y28 (Zle.left _ _) h)) ⟨w,pz.1⟩) ((((ziY.mono (Zle.y13 _ _ _)).weak (fun _ _ h=>y2h (Zle.y13 _ _ _) h)).mono (Zle.left _ _)).weak (fun _ _ h=>y2h (Zle.left _ _) h)) (ZA.row (la _ (.tail _ (.head _)) _) (RR.y1m (enc:=e64) (fun _=>rfl) _) ⟨w,pz.1⟩) (ZA.row (la _ (.tail _ (.tail _ (.head _))) _) (RR.y1m (enc:=e62) (fun _=>rfl) _) ⟨w,pz.1⟩) (ZA.row (la _ (.tail _ (.tail _ (.tail _ (.head _)))) _) ((ziZ.weak (fun _ _ h=>y29 (Zle.y13 _ _ _) h)).weak (fun _ _ h=>y29 (Zle.left _ _) h)) ⟨w,pz.1⟩) ((zj0.mono (Zle.y13 _ _ _)).mono (Zle.left _ _)) ((((zj1.mono (Zle.y13 _ _ _)).weak (fun _ _ h=>y2i (Zle.y13 _ _ _) h)).mono (Zle.left _ _)).weak (fun _ _ h=>y2i (Zle.left _ _) h)) ((zj2.mono (Zle.y13 _ _ _)).mono (Zle.left _ _)) (ZA.row (la _ (.tail _ (.tail _ (.tail _ (.tail _ (.head _))))) _) ((ztv.weak (fun _ _ h=>y42 (Zle.y13 _ _ _) h)).weak (fun _ _ h=>y42 (Zle.left _ _) h)) ⟨w,pz.1⟩) (ZA.row (la _ (.tail _ (.tail _ (.tail _ (.tail _ (.tail _ (.head _)))))) _) (RR.y1m (enc:=e53) (fun _=>rfl) _) ⟨w,pz.1⟩)) ?_
      rintro zfs zft zfu zfv _
      refine WL.pu rfl (WL.pu rfl (WL.pu rfl (WL.pu rfl (WL.pu rfl (WL.pu rfl (WL.pu rfl (WL.nil (WX.a (WC.b (WC.a ?_))))))))))
      refine WL.a (d:=33) rfl rfl rfl (y1x (v:=(.agg #[(.int .i64 0),(.int .i64 1),(.int .i64 96)])) (Eos.parts (l:=[.const (.int .i64 0),.const (.int .i64 1),.const (.int .i64 96)]) (.cons rfl (.cons rfl (.cons rfl .nil))) [0,1,2]) (fun _=>by kernel_rfl)) ?_
      refine WL.a (d:=34) rfl rfl rfl (y1x (v:=(.agg #[(.int .i64 1),(.int .i64 1),(.int .i64 136)])) (Eos.parts (l:=[.const (.int .i64 1),.const (.int .i64 1),.const (.int .i64 136)]) (.cons rfl (.cons rfl (.cons rfl .nil))) [0,1,2]) (fun _=>by kernel_rfl)) ?_
      refine WL.new (dd:=35) rfl rfl rfl (y17 (cs:=([(⟨0,1,96⟩ : Sapi_Come),(⟨1,1,136⟩ : Sapi_Come)] : List Sapi_Come).flatMap e50) y15 (Eos.parts (l:=[.tmp 33,.tmp 34]) (.cons rfl (.cons rfl .nil)) [0,1]) (fun _=>by kernel_rfl) rfl (by unfold maxLen; omega)) ?_
      intro ztx _
      refine WL.new (dd:=36) rfl rfl rfl (y17 (cs:=([] : List Sapi_Come).flatMap e50) y15 (Eos.parts (l:=[]) .nil []) (fun _=>by kernel_rfl) rfl (by unfold maxLen; omega)) ?_
      intro zty _
      refine WL.pu rfl (WL.pu rfl (WL.nil (WX.a ?_)))
      obtain ⟨zfg,ztz,h⟩:=y32 h
      refine WC.y7g (fun (z5a : List Sapi_Come) (z5b : List Sapi_Come) (zbn : Option Addr) (zbo : Nat) (zbp : Option Addr) (zbq : Nat)=>(zfg z5a z5b = some r)) (fun (z5a : List Sapi_Come) (z5b : List Sapi_Come) (zbn : Option Addr) (zbo : Nat) (zbp : Option Addr) (zbq : Nat)=>[(1,(.slice (some ⟨zbj,0,none⟩) (([(⟨0,0,40⟩ : zSt),(⟨10,0,40⟩ : zSt)] : List zSt).length) 2)),(3,(.int .i64 (nth ([1000,50,30] : List Int) z1X))),(4,(.pointer (some ⟨zfr,0,none⟩))),(6,(.slice zfs z2x.1.length zft)),(7,(.slice zfu z2x.2.1.length zfv)),(8,(.int .i64 z2x.2.2)),(9,(.slice zbn z5a.length zbo)),(10,(.slice zbp z5b.length zbq)),(14,(.slice (some ⟨zbl,0,none⟩) (([1000,50,30] : List Int).length) 3)),(15,(.int .i64 ((([1000,50,30] : List Int).length : Nat) : Int))),(16,(.int .i64 z1X))]) (fun (z5a : List Sapi_Come) (z5b : List Sapi_Come) (zbn : Option Addr) (zbo : Nat) (zbp : Option Addr) (zbq : Nat)=>[fz (z5c ++ zfi),row (.slice (some ⟨zbj,0,none⟩) (([(⟨0,0,40⟩ : zSt),(⟨10,0,40⟩ : zSt)] : List zSt).length) 2) 53 3 (([(⟨0,0,40⟩ : zSt),(⟨10,0,40⟩ : zSt)] : List zSt).flatMap e53),row (.slice zfs z2x.1.length zft) 50 3 (z2x.1.flatMap e50),row (.slice zfu z2x.2.1.length zfv) 50 3 (z2x.2.1.flatMap e50),row (.slice zbn z5a.length zbo) 50 3 (z5a.flatMap e50),row (.slice zbp z5b.length zbq) 50 3 (z5b.flatMap e50),row (.slice (some ⟨zbl,0,none⟩) (([1000,50,30] : List Int).length) 3) 3 1 (([1000,50,30] : List Int).flatMap e3),stb zfr 31 [(.slice zfj z1c.1.fModules.length zfk),(.slice zno z1c.1.fChannels.length znp),(.slice zfl z1c.1.fSwitches.length zfm),(.slice zfn z1c.1.fLinks.length zfo),(.slice zfp z1c.1.fVLs.length zfq),(.slice znr z1c.1.fHealth.length zns),(.slice znt z1c.1.fCauses.length znu),(.slice znv z1c.1.fVersions.length znw)],row (.slice zfj z1c.1.fModules.length zfk) 104 4 znn,row (.slice zfl z1c.1.fSwitches.length zfm) 64 4 (z1c.1.fSwitches.flatMap e64),row (.slice zfn z1c.1.fLinks.length zfo) 62 4 (z1c.1.fLinks.flatMap e62),row (.slice zfp z1c.1.fVLs.length zfq) 109 7 znq]) ?_ ?_
      · skip
        refine WC.b (WC.a (WL.pu rfl (WL.pu rfl (WL.nil (WX.a ?_)))))
        refine WC.cond rfl (fun zj3=>?_) (fun zj3=>?_)
        · replace h:=ym h zj3
          obtain ⟨ztA,h⟩:=yj h
          refine WC.a (WL.pu rfl ?_)
          refine WL.y6s (dd:=40) (enc:=e50) (ls:=([(⟨0,1,96⟩ : Sapi_Come),(⟨1,1,136⟩ : Sapi_Come)] : List Sapi_Come)) rfl rfl y15 rfl rfl .h1 (fun _=>rfl) ztA ?_
          intro ztB ztC
          refine WL.a (d:=41) rfl rfl rfl (y1x (v:=(.agg #[(.int .i64 1),(.int .i64 2),(.int .i64 80)])) (Eos.parts (l:=[.const (.int .i64 1),.const (.int .i64 2),.const (.int .i64 80)]) (.cons rfl (.cons rfl (.cons rfl .nil))) [0,1,2]) (fun _=>by kernel_rfl)) ?_
          refine WL.new (dd:=42) rfl rfl rfl (y17 (cs:=([(⟨1,2,80⟩ : Sapi_Come)] : List Sapi_Come).flatMap e50) y15 (Eos.parts (l:=[.tmp 41]) (.cons rfl .nil) [0]) (fun _=>by kernel_rfl) rfl (by unfold maxLen; omega)) ?_
          intro ztD _
          refine WL.pu rfl (WL.pu rfl (WL.nil ?_))
          exact WX.mid (G:=List Sapi_Come × List Sapi_Come × Option Addr × Nat × Option Addr × Nat) ⟨(([(⟨0,1,96⟩ : Sapi_Come),(⟨1,1,136⟩ : Sapi_Come)] : List Sapi_Come).take (1 : Int).toNat),([(⟨1,2,80⟩ : Sapi_Come)] : List Sapi_Come),ztB,ztC,(some ⟨ztD,0,none⟩),1⟩ h (.cons rfl (.cons rfl (.cons rfl (.cons rfl (.cons rfl (.cons rfl (.cons rfl (.cons rfl (.cons rfl (.cons rfl (.cons rfl .nil))))))))))) (.cons .h6 (.cons (.there (.there (.there (.there .h7)))) (.cons .h3 (.cons .h3 (.cons .h1 (.cons .here (.cons .h7 (.cons .h1 (.cons .h1 (.cons .h1 (.cons .h1 (.cons .h1 .nil))))))))))))
        · replace h:=yn h zj3
          refine WC.skip ?_
          exact WX.mid (G:=List Sapi_Come × List Sapi_Come × Option Addr × Nat × Option Addr × Nat) ⟨([(⟨0,1,96⟩ : Sapi_Come),(⟨1,1,136⟩ : Sapi_Come)] : List Sapi_Come),([] : List Sapi_Come),(some ⟨ztx,0,none⟩),2,(some ⟨zty,0,none⟩),0⟩ h (.cons rfl (.cons rfl (.cons rfl (.cons rfl (.cons rfl (.cons rfl (.cons rfl (.cons rfl (.cons rfl (.cons rfl (.cons rfl .nil))))))))))) (.cons .h5 (.cons (.there (.there (.there .h7))) (.cons .h2 (.cons .h2 (.cons .h1 (.cons .here (.cons .h6 (.cons .here (.cons .here (.cons .here (.cons .here (.cons .here .nil))))))))))))
      · rintro z5a z5b zbn zbo zbp zbq h
        replace h:=(ztz z5a z5b).symm.trans h
        obtain ⟨zff,ztE,h⟩:=y32 h
        refine WC.y7g (fun (z6C : List Sapi_Come) (z6D : List Sapi_Come) (zdE : Option Addr) (zdF : Nat) (zdG : Option Addr) (zdH : Nat)=>(zff z6C z6D = some r)) (fun (z6C : List Sapi_Come) (z6D : List Sapi_Come) (zdE : Option Addr) (zdF : Nat) (zdG : Option Addr) (zdH : Nat)=>[(1,(.slice (some ⟨zbj,0,none⟩) (([(⟨0,0,40⟩ : zSt),(⟨10,0,40⟩ : zSt)] : List zSt).length) 2)),(4,(.pointer (some ⟨zfr,0,none⟩))),(6,(.slice zfs z2x.1.length zft)),(7,(.slice zfu z2x.2.1.length zfv)),(8,(.int .i64 z2x.2.2)),(9,(.slice zdE z6C.length zdF)),(10,(.slice zdG z6D.length zdH)),(14,(.slice (some ⟨zbl,0,none⟩) (([1000,50,30] : List Int).length) 3)),(15,(.int .i64 ((([1000,50,30] : List Int).length : Nat) : Int))),(16,(.int .i64 z1X))]) (fun (z6C : List Sapi_Come) (z6D : List Sapi_Come) (zdE : Option Addr) (zdF : Nat) (zdG : Option Addr) (zdH : Nat)=>[fz (z5c ++ zfi),row (.slice (some ⟨zbj,0,none⟩) (([(⟨0,0,40⟩ : zSt),(⟨10,0,40⟩ : zSt)] : List zSt).length) 2) 53 3 (([(⟨0,0,40⟩ : zSt),(⟨10,0,40⟩ : zSt)] : List zSt).flatMap e53),row (.slice zfs z2x.1.length zft) 50 3 (z2x.1.flatMap e50),row (.slice zfu z2x.2.1.length zfv) 50 3 (z2x.2.1.flatMap e50),row (.slice zdE z6C.length zdF) 50 3 (z6C.flatMap e50),row (.slice zdG z6D.length zdH) 50 3 (z6D.flatMap e50),row (.slice (some ⟨zbl,0,none⟩) (([1000,50,30] : List Int).length) 3) 3 1 (([1000,50,30] : List Int).flatMap e3),stb zfr 31 [(.slice zfj z1c.1.fModules.length zfk),(.slice zno z1c.1.fChannels.length znp),(.slice zfl z1c.1.fSwitches.length zfm),(.slice zfn z1c.1.fLinks.length zfo),(.slice zfp z1c.1.fVLs.length zfq),(.slice znr z1c.1.fHealth.length zns),(.slice znt z1c.1.fCauses.length znu),(.slice znv z1c.1.fVersions.length znw)],row (.slice zfj z1c.1.fModules.length zfk) 104 4 znn,row (.slice zfl z1c.1.fSwitches.length zfm) 64 4 (z1c.1.fSwitches.flatMap e64),row (.slice zfn z1c.1.fLinks.length zfo) 62 4 (z1c.1.fLinks.flatMap e62),row (.slice zfp z1c.1.fVLs.length zfq) 109 7 znq]) ?_ ?_
        · skip
          refine WC.b (WC.a (WL.pu rfl (WL.pu rfl (WL.nil (WX.a ?_)))))
          refine WC.cond rfl (fun zj4=>?_) (fun zj4=>?_)
          · replace h:=ym h zj4
            refine WC.a ?_
            refine WL.a (d:=45) rfl rfl rfl (y1x (v:=(.agg #[(.int .i64 0),(.int .i64 2),(.int .i64 40)])) (Eos.parts (l:=[.const (.int .i64 0),.const (.int .i64 2),.const (.int .i64 40)]) (.cons rfl (.cons rfl (.cons rfl .nil))) [0,1,2]) (fun _=>by kernel_rfl)) ?_
            refine WL.a (d:=46) rfl rfl rfl (y1x (v:=(.agg #[(.int .i64 1),(.int .i64 2),(.int .i64 80)])) (Eos.parts (l:=[.const (.int .i64 1),.const (.int .i64 2),.const (.int .i64 80)]) (.cons rfl (.cons rfl (.cons rfl .nil))) [0,1,2]) (fun _=>by kernel_rfl)) ?_
            refine WL.new (dd:=47) rfl rfl rfl (y17 (cs:=([(⟨0,2,40⟩ : Sapi_Come),(⟨1,2,80⟩ : Sapi_Come)] : List Sapi_Come).flatMap e50) y15 (Eos.parts (l:=[.tmp 45,.tmp 46]) (.cons rfl (.cons rfl .nil)) [0,1]) (fun _=>by kernel_rfl) rfl (by unfold maxLen; omega)) ?_
            intro ztF _
            refine WL.pu rfl (WL.pu rfl (WL.nil ?_))
            refine WX.nilRow 50 3 ?_
            exact WX.mid (G:=List Sapi_Come × List Sapi_Come × Option Addr × Nat × Option Addr × Nat) ⟨([] : List Sapi_Come),([(⟨0,2,40⟩ : Sapi_Come),(⟨1,2,80⟩ : Sapi_Come)] : List Sapi_Come),none,0,(some ⟨ztF,0,none⟩),2⟩ h (.cons rfl (.cons rfl (.cons rfl (.cons rfl (.cons rfl (.cons rfl (.cons rfl (.cons rfl (.cons rfl (.cons rfl .nil)))))))))) (.cons .h2 (.cons .h2 (.cons .h2 (.cons .h2 (.cons .here (.cons .here (.cons .h2 (.cons .h2 (.cons .h2 (.cons .h2 (.cons .h2 (.cons .h2 .nil))))))))))))
          · replace h:=yn h zj4
            refine WC.skip ?_
            exact WX.mid (G:=List Sapi_Come × List Sapi_Come × Option Addr × Nat × Option Addr × Nat) ⟨z5a,z5b,zbn,zbo,zbp,zbq⟩ h (.cons rfl (.cons rfl (.cons rfl (.cons rfl (.cons rfl (.cons rfl (.cons rfl (.cons rfl (.cons rfl (.cons rfl .nil)))))))))) (.cons .here (.cons .here (.cons .here (.cons .here (.cons .here (.cons .here (.cons .here (.cons .here (.cons .here (.cons .here (.cons .here (.cons .here .nil))))))))))))
        · rintro z6C z6D zdE zdF zdG zdH h
          replace h:=(ztE z6C z6D).symm.trans h
          refine WC.b ?_
          obtain ⟨ziS,znx,h⟩:=zp h
          obtain ⟨ziT,zny,h⟩:=zp h
          obtain ⟨ziU,znz,h⟩:=zp h
          obtain ⟨ziV,znA,h⟩:=zp h
          refine WC.a (WL.pu rfl (WL.pu rfl (WL.pu rfl ?_)))
          refine WL.seg false 4 50 (B:=ziS) rfl rfl rfl rfl rfl rfl (fun h=>(Option.some.inj (ym znx h)).symm) (fun _ ztG=>?_) ?_
          · skip
            have zdI:=yn znx ztG
            obtain ⟨zni,ztH,zdI⟩:=zp zdI
            replace zdI:=Option.some.inj zdI
            refine WL.pu rfl (WL.pu rfl ?_)
            refine WL.b (dd:=53) rfl rfl rfl (zF (l:=[.tmp 51,.tmp 52]) Try.call14 (.cons rfl (.cons rfl .nil))) .nil (cclz hz .nil .here (.cons .h2 (.cons .h3 .nil)) fun w pz ho la=>y6C _ _ _ _ _ _ _ _ ztH w pz (ZA.row (la _ (.head _) _) (RR.y1m (enc:=e50) (fun _=>rfl) _) ⟨w,pz.1⟩) (ZA.row (la _ (.tail _ (.head _)) _) (RR.y1m (enc:=e50) (fun _=>rfl) _) ⟨w,pz.1⟩)) ?_
            refine WL.pu rfl (WL.pu rfl ?_)
            exact WL.ys zdI rfl rfl .all
          refine WL.pu rfl ?_
          refine WL.seg false 4 56 (B:=ziT) rfl rfl rfl rfl rfl rfl (fun h=>(Option.some.inj (ym zny h)).symm) (fun _ ztI=>?_) ?_
          · skip
            have zdJ:=yn zny ztI
            obtain ⟨znj,ztJ,zdJ⟩:=zp zdJ
            replace zdJ:=Option.some.inj zdJ
            refine WL.pu rfl (WL.pu rfl ?_)
            refine WL.b (dd:=59) rfl rfl rfl (zF (l:=[.tmp 57,.tmp 58]) Try.call14 (.cons rfl (.cons rfl .nil))) .nil (cclz hz .nil .here (.cons .h3 (.cons .h4 .nil)) fun w pz ho la=>y6C _ _ _ _ _ _ _ _ ztJ w pz (ZA.row (la _ (.head _) _) (RR.y1m (enc:=e50) (fun _=>rfl) _) ⟨w,pz.1⟩) (ZA.row (la _ (.tail _ (.head _)) _) (RR.y1m (enc:=e50) (fun _=>rfl) _) ⟨w,pz.1⟩)) ?_
            refine WL.pu rfl (WL.pu rfl ?_)
            exact WL.ys zdJ rfl rfl .all
          refine WL.pu rfl ?_
          refine WL.seg false 3 62 (B:=ziU) rfl rfl rfl rfl rfl rfl (fun h=>(Option.some.inj (ym znz h)).symm) (fun _ ztK=>?_) ?_
          · skip
            have zdK:=yn znz ztK
            obtain ⟨znk,ztL,zdK⟩:=zp zdK
            replace zdK:=Option.some.inj zdK
            refine WL.a (d:=63) rfl rfl rfl (yH y1J rfl (y1j .h7) rfl) ?_
            refine WL.b (dd:=64) rfl rfl rfl (zF (l:=[.tmp 63]) Try.call17 (.cons rfl .nil)) .nil (cclz hz .nil .here (.cons (.there .h7) (.cons (.there .h7) (.cons (.there .h7) (.cons (.there .h7) .nil)))) fun w pz ho la=>y4p _ _ _ _ _ _ _ _ _ _ _ _ _ _ _ _ _ _ _ ztL w pz (ZA.row (la _ (.head _) _) ((ziX.weak (fun _ _ h=>y28 (Zle.y13 _ _ _) h)).weak (fun _ _ h=>y28 (Zle.left _ _) h)) ⟨w,pz.1⟩) ((((ziY.mono (Zle.y13 _ _ _)).weak (fun _ _ h=>y2h (Zle.y13 _ _ _) h)).mono (Zle.left _ _)).weak (fun _ _ h=>y2h (Zle.left _ _) h)) (ZA.row (la _ (.tail _ (.head _)) _) (RR.y1m (enc:=e64) (fun _=>rfl) _) ⟨w,pz.1⟩) (ZA.row (la _ (.tail _ (.tail _ (.head _))) _) (RR.y1m (enc:=e62) (fun _=>rfl) _) ⟨w,pz.1⟩) (ZA.row (la _ (.tail _ (.tail _ (.tail _ (.head _)))) _) ((ziZ.weak (fun _ _ h=>y29 (Zle.y13 _ _ _) h)).weak (fun _ _ h=>y29 (Zle.left _ _) h)) ⟨w,pz.1⟩) ((zj0.mono (Zle.y13 _ _ _)).mono (Zle.left _ _)) ((((zj1.mono (Zle.y13 _ _ _)).weak (fun _ _ h=>y2i (Zle.y13 _ _ _) h)).mono (Zle.left _ _)).weak (fun _ _ h=>y2i (Zle.left _ _) h)) ((zj2.mono (Zle.y13 _ _ _)).mono (Zle.left _ _))) ?_
            refine WL.pu rfl (WL.pu rfl ?_)
            exact WL.ys zdK rfl rfl .all
          refine WL.pu rfl ?_
          refine WL.seg false 3 67 (B:=ziV) rfl rfl rfl rfl rfl rfl (fun h=>(Option.some.inj (ym znA h)).symm) (fun _ ztM=>?_) ?_
          · skip
            have zdL:=yn znA ztM
            obtain ⟨znl,ztN,zdL⟩:=zp zdL
            replace zdL:=Option.some.inj zdL
            refine WL.a (d:=68) rfl rfl rfl (yH y1J rfl (y1j .h7) rfl) ?_
            refine WL.b (dd:=69) rfl rfl rfl (zF (l:=[.tmp 68,.const (.int .i64 2)]) Try.call18 (.cons rfl (.cons rfl .nil))) .nil (cclz hz .nil .here (.cons (.there .h7) (.cons (.there .h7) (.cons (.there .h7) (.cons (.there .h7) .nil)))) fun w pz ho la=>y5K _ _ _ _ _ _ _ _ _ _ _ _ _ _ _ _ _ _ _ _ ztN w pz (ZA.row (la _ (.head _) _) ((ziX.weak (fun _ _ h=>y28 (Zle.y13 _ _ _) h)).weak (fun _ _ h=>y28 (Zle.left _ _) h)) ⟨w,pz.1⟩) ((((ziY.mono (Zle.y13 _ _ _)).weak (fun _ _ h=>y2h (Zle.y13 _ _ _) h)).mono (Zle.left _ _)).weak (fun _ _ h=>y2h (Zle.left _ _) h)) (ZA.row (la _ (.tail _ (.head _)) _) (RR.y1m (enc:=e64) (fun _=>rfl) _) ⟨w,pz.1⟩) (ZA.row (la _ (.tail _ (.tail _ (.head _))) _) (RR.y1m (enc:=e62) (fun _=>rfl) _) ⟨w,pz.1⟩) (ZA.row (la _ (.tail _ (.tail _ (.tail _ (.head _)))) _) ((ziZ.weak (fun _ _ h=>y29 (Zle.y13 _ _ _) h)).weak (fun _ _ h=>y29 (Zle.left _ _) h)) ⟨w,pz.1⟩) ((zj0.mono (Zle.y13 _ _ _)).mono (Zle.left _ _)) ((((zj1.mono (Zle.y13 _ _ _)).weak (fun _ _ h=>y2i (Zle.y13 _ _ _) h)).mono (Zle.left _ _)).weak (fun _ _ h=>y2i (Zle.left _ _) h)) ((zj2.mono (Zle.y13 _ _ _)).mono (Zle.left _ _))) ?_
            refine WL.a (d:=70) rfl rfl rfl (q_sneq rfl rfl) ?_
            refine WL.pu rfl ?_
            exact WL.ys zdL rfl rfl .all
          refine WL.nil (WX.a ?_)
          refine WC.cond rfl (fun zj5=>?_) (fun zj5=>?_)
          · replace h:=ym h zj5
            refine WC.b (WC.a (WL.pu rfl (WL.nil (WX.a (WC.ret (WX.yC (WX.yg (WX.yg (WX.yC (WX.yg ?_))))))))))
            obtain rfl:=Option.some.inj h
            refine WX.yi Try.results11 (.tmp rfl .nil) (fun w hw=>?_)
            exact ⟨(z5c ++ zfi),y10 rfl,trivial,hw.sub (.cons .here .nil)⟩
          · replace h:=yn h zj5
            refine WC.skip (WX.yh (WX.a (WC.a (WL.pu rfl (WL.pu rfl (WL.nil ?_))))))
            exact WX.round (G:=Nat × Int × Zp) ⟨ziR,(i64 (z1X + 1)),(z5c ++ zfi)⟩ ⟨h,(znm.trans ((Zle.left _ _).trans (Zle.y13 _ _ _)))⟩ (Nat.lt_succ_self _) (.cons rfl (.cons rfl (.cons rfl (.cons rfl .nil)))) (.cons .here (.cons .here (.cons .h4 .nil)))
    · replace h:=yn h ziW
      refine WC.exit (WX.yf (WX.yf (WX.yB ?_)))
      exact WX.mid (G:=Zp) z5c ⟨h,znm⟩ .nil (.cons .here .nil)
  · rintro zbk ⟨h,zxO⟩
    replace h:=ztt.symm.trans h
    refine WC.b (WC.a (WL.pu rfl (WL.nil (WX.a (WC.ret ?_)))))
    obtain rfl:=Option.some.inj h
    refine WX.yi Try.results11 (.tmp rfl .nil) (fun w hw=>?_)
    exact ⟨zbk,y10 rfl,trivial,hw.sub (.cons .here .nil)⟩
end Go.Proofs.Ytinchjigeakocaa

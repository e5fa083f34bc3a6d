/- A part of this claim's proof: models of functions, walks, plain laws. No conditions. -/
import Derived.Test.YtinchjigeakocaaW31c
namespace Go.Proofs.Ytinchjigeakocaa
open Go Go.RowKit Sep
set_option linter.all false
set_option maxRecDepth 30000
set_option maxHeartbeats 4000000
def yK (z5 : List Sapi_Come) (zl : Int) (zY : Sapi_Come → Sapi_Come → Option Int) (z6H : Int → Option (List Sapi_Come)) : Nat → Int → Int → Option (List Sapi_Come)
 | 0,_,_=>none
 | zed + 1,z1x,z1G=>if decide (z1x < z1G) then chk ((0 : Int) ≤ (i64 ((u64 (i64 (z1x + z1G))) / 2 ^ min (1 : Int).toNat 64)) ∧ (i64 ((u64 (i64 (z1x + z1G))) / 2 ^ min (1 : Int).toNat 64)) < ((z5.length : Nat) : Int)) (chk ((0 : Int) ≤ zl ∧ zl < ((z5.length : Nat) : Int)) ((zY (⟨((nth z5 (i64 ((u64 (i64 (z1x + z1G))) / 2 ^ min (1 : Int).toNat 64))).fSent),((nth z5 (i64 ((u64 (i64 (z1x + z1G))) / 2 ^ min (1 : Int).toNat 64))).fNode),((nth z5 (i64 ((u64 (i64 (z1x + z1G))) / 2 ^ min (1 : Int).toNat 64))).fTime)⟩ : Sapi_Come) (⟨((nth z5 zl).fSent),((nth z5 zl).fNode),((nth z5 zl).fTime)⟩ : Sapi_Come)).bind fun zj7=>if decide (zj7 < 0) then yK z5 zl zY z6H zed (i64 ((i64 ((u64 (i64 (z1x + z1G))) / 2 ^ min (1 : Int).toNat 64)) + 1)) z1G else yK z5 zl zY z6H zed z1x (i64 ((u64 (i64 (z1x + z1G))) / 2 ^ min (1 : Int).toNat 64)))) else z6H z1x
theorem y3G {n : Nat} {z5 : List Sapi_Come} {zl : Int} {zY : Sapi_Come → Sapi_Come → Option Int} {z6H : Int → Option (List Sapi_Come)} {z1x : Int} {z1G : Int} {r : List Sapi_Come} (h : yK z5 zl zY z6H n z1x z1G = some r) : ∃ m,n = m + 1:=by
 cases n with
 | zero=>cases h
 | succ m=>exact ⟨m,rfl⟩
def yL (z3H : Int) (z7L : (List Sapi_Come) → Option (List Sapi_Come)) : Nat → (List Sapi_Come) → Int → Option (List Sapi_Come)
 | 0,_,_=>none
 | zj8 + 1,zr,zj=>if decide (zj < (i64 (z3H - 1))) then chk ((0 : Int) ≤ (i64 (zj + 1)) ∧ (i64 (zj + 1)) < ((zr.length : Nat) : Int)) (chk ((0 : Int) ≤ zj ∧ zj < ((zr.length : Nat) : Int)) (chk ((0 : Int) ≤ (i64 (zj + 1)) ∧ (i64 (zj + 1)) < (((zr.set (zj : Int).toNat (⟨((nth zr (i64 (zj + 1))).fSent),((nth zr (i64 (zj + 1))).fNode),((nth zr (i64 (zj + 1))).fTime)⟩ : Sapi_Come)).length : Nat) : Int)) (yL z3H z7L zj8 ((zr.set (zj : Int).toNat (⟨((nth zr (i64 (zj + 1))).fSent),((nth zr (i64 (zj + 1))).fNode),((nth zr (i64 (zj + 1))).fTime)⟩ : Sapi_Come)).set ((i64 (zj + 1)) : Int).toNat (⟨((nth zr zj).fSent),((nth zr zj).fNode),((nth zr zj).fTime)⟩ : Sapi_Come)) (i64 (zj + 1))))) else z7L zr
theorem y3H {n : Nat} {z3H : Int} {z7L : (List Sapi_Come) → Option (List Sapi_Come)} {zr : List Sapi_Come} {zj : Int} {r : List Sapi_Come} (h : yL z3H z7L n zr zj = some r) : ∃ m,n = m + 1:=by
 cases n with
 | zero=>cases h
 | succ m=>exact ⟨m,rfl⟩
def yM (zx : Int) (z5 : List Sapi_Come) (zY : Sapi_Come → Sapi_Come → Option Int) (z6I : Int → Option (List Sapi_Come)) : Nat → Int → Int → Option (List Sapi_Come)
 | 0,_,_=>none
 | zee + 1,z1y,z1H=>if decide (z1y < z1H) then chk ((0 : Int) ≤ zx ∧ zx < ((z5.length : Nat) : Int)) (chk ((0 : Int) ≤ (i64 ((u64 (i64 (z1y + z1H))) / 2 ^ min (1 : Int).toNat 64)) ∧ (i64 ((u64 (i64 (z1y + z1H))) / 2 ^ min (1 : Int).toNat 64)) < ((z5.length : Nat) : Int)) ((zY (⟨((nth z5 zx).fSent),((nth z5 zx).fNode),((nth z5 zx).fTime)⟩ : Sapi_Come) (⟨((nth z5 (i64 ((u64 (i64 (z1y + z1H))) / 2 ^ min (1 : Int).toNat 64))).fSent),((nth z5 (i64 ((u64 (i64 (z1y + z1H))) / 2 ^ min (1 : Int).toNat 64))).fNode),((nth z5 (i64 ((u64 (i64 (z1y + z1H))) / 2 ^ min (1 : Int).toNat 64))).fTime)⟩ : Sapi_Come)).bind fun zj9=>if !(decide (zj9 < 0)) then yM zx z5 zY z6I zee (i64 ((i64 ((u64 (i64 (z1y + z1H))) / 2 ^ min (1 : Int).toNat 64)) + 1)) z1H else yM zx z5 zY z6I zee z1y (i64 ((u64 (i64 (z1y + z1H))) / 2 ^ min (1 : Int).toNat 64)))) else z6I z1y
theorem y3I {n : Nat} {zx : Int} {z5 : List Sapi_Come} {zY : Sapi_Come → Sapi_Come → Option Int} {z6I : Int → Option (List Sapi_Come)} {z1y : Int} {z1H : Int} {r : List Sapi_Come} (h : yM zx z5 zY z6I n z1y z1H = some r) : ∃ m,n = m + 1:=by
 cases n with
 | zero=>cases h
 | succ m=>exact ⟨m,rfl⟩
def yU (z3I : Int) (z7M : (List Sapi_Come) → Option (List Sapi_Come)) : Nat → (List Sapi_Come) → Int → Option (List Sapi_Come)
 | 0,_,_=>none
 | zja + 1,zt,zk=>if decide (zk > z3I) then chk ((0 : Int) ≤ (i64 (zk - 1)) ∧ (i64 (zk - 1)) < ((zt.length : Nat) : Int)) (chk ((0 : Int) ≤ zk ∧ zk < ((zt.length : Nat) : Int)) (chk ((0 : Int) ≤ (i64 (zk - 1)) ∧ (i64 (zk - 1)) < (((zt.set (zk : Int).toNat (⟨((nth zt (i64 (zk - 1))).fSent),((nth zt (i64 (zk - 1))).fNode),((nth zt (i64 (zk - 1))).fTime)⟩ : Sapi_Come)).length : Nat) : Int)) (yU z3I z7M zja ((zt.set (zk : Int).toNat (⟨((nth zt (i64 (zk - 1))).fSent),((nth zt (i64 (zk - 1))).fNode),((nth zt (i64 (zk - 1))).fTime)⟩ : Sapi_Come)).set ((i64 (zk - 1)) : Int).toNat (⟨((nth zt zk).fSent),((nth zt zk).fNode),((nth zt zk).fTime)⟩ : Sapi_Come)) (i64 (zk - 1))))) else z7M zt
theorem y3J {n : Nat} {z3I : Int} {z7M : (List Sapi_Come) → Option (List Sapi_Come)} {zt : List Sapi_Come} {zk : Int} {r : List Sapi_Come} (h : yU z3I z7M n zt zk = some r) : ∃ m,n = m + 1:=by
 cases n with
 | zero=>cases h
 | succ m=>exact ⟨m,rfl⟩
def yH (zl : Int) (zA : Int) (zx : Int) (z5 : List Sapi_Come) (zY : Sapi_Come → Sapi_Come → Option Int) (z6J : Int → Option (List Sapi_Come)) : Nat → Int → Int → Option (List Sapi_Come)
 | 0,_,_=>none
 | zef + 1,z15,z1b=>if decide (z15 < z1b) then chk ((0 : Int) ≤ (i64 ((i64 ((i64 ((i64 ((u64 (i64 (zl + zA))) / 2 ^ min (1 : Int).toNat 64)) + zx)) - 1)) - (i64 ((u64 (i64 (z15 + z1b))) / 2 ^ min (1 : Int).toNat 64)))) ∧ (i64 ((i64 ((i64 ((i64 ((u64 (i64 (zl + zA))) / 2 ^ min (1 : Int).toNat 64)) + zx)) - 1)) - (i64 ((u64 (i64 (z15 + z1b))) / 2 ^ min (1 : Int).toNat 64)))) < ((z5.length : Nat) : Int)) (chk ((0 : Int) ≤ (i64 ((u64 (i64 (z15 + z1b))) / 2 ^ min (1 : Int).toNat 64)) ∧ (i64 ((u64 (i64 (z15 + z1b))) / 2 ^ min (1 : Int).toNat 64)) < ((z5.length : Nat) : Int)) ((zY (⟨((nth z5 (i64 ((i64 ((i64 ((i64 ((u64 (i64 (zl + zA))) / 2 ^ min (1 : Int).toNat 64)) + zx)) - 1)) - (i64 ((u64 (i64 (z15 + z1b))) / 2 ^ min (1 : Int).toNat 64))))).fSent),((nth z5 (i64 ((i64 ((i64 ((i64 ((u64 (i64 (zl + zA))) / 2 ^ min (1 : Int).toNat 64)) + zx)) - 1)) - (i64 ((u64 (i64 (z15 + z1b))) / 2 ^ min (1 : Int).toNat 64))))).fNode),((nth z5 (i64 ((i64 ((i64 ((i64 ((u64 (i64 (zl + zA))) / 2 ^ min (1 : Int).toNat 64)) + zx)) - 1)) - (i64 ((u64 (i64 (z15 + z1b))) / 2 ^ min (1 : Int).toNat 64))))).fTime)⟩ : Sapi_Come) (⟨((nth z5 (i64 ((u64 (i64 (z15 + z1b))) / 2 ^ min (1 : Int).toNat 64))).fSent),((nth z5 (i64 ((u64 (i64 (z15 + z1b))) / 2 ^ min (1 : Int).toNat 64))).fNode),((nth z5 (i64 ((u64 (i64 (z15 + z1b))) / 2 ^ min (1 : Int).toNat 64))).fTime)⟩ : Sapi_Come)).bind fun zjb=>if !(decide (zjb < 0)) then yH zl zA zx z5 zY z6J zef (i64 ((i64 ((u64 (i64 (z15 + z1b))) / 2 ^ min (1 : Int).toNat 64)) + 1)) z1b else yH zl zA zx z5 zY z6J zef z15 (i64 ((u64 (i64 (z15 + z1b))) / 2 ^ min (1 : Int).toNat 64)))) else z6J z15
theorem y3D {n : Nat} {zl : Int} {zA : Int} {zx : Int} {z5 : List Sapi_Come} {zY : Sapi_Come → Sapi_Come → Option Int} {z6J : Int → Option (List Sapi_Come)} {z15 : Int} {z1b : Int} {r : List Sapi_Come} (h : yH zl zA zx z5 zY z6J n z15 z1b = some r) : ∃ m,n = m + 1:=by
 cases n with
 | zero=>cases h
 | succ m=>exact ⟨m,rfl⟩
def yT : Nat → (List Sapi_Come) → Int → Int → Int → (Sapi_Come → Sapi_Come → Option Int) → Option (List Sapi_Come)
 | 0,_,_,_,_,_=>none
 | zjc + 1,z5,zl,zx,zA,zY=>jp0 (jp0 (jp2 (fun (z7N : Int) (z7O : Int)=>jp1 (fun (z1z : Int)=>jp1 (fun (z3Y : List Sapi_Come)=>jp1 (fun (z4c : List Sapi_Come)=>if (decide ((i64 ((u64 (i64 (zl + zA))) / 2 ^ min (1 : Int).toNat 64)) < (i64 ((i64 ((i64 ((u64 (i64 (zl + zA))) / 2 ^ min (1 : Int).toNat 64)) + zx)) - z1z)))) && (decide ((i64 ((i64 ((i64 ((u64 (i64 (zl + zA))) / 2 ^ min (1 : Int).toNat 64)) + zx)) - z1z)) < zA)) then ((yT zjc) z4c (i64 ((u64 (i64 (zl + zA))) / 2 ^ min (1 : Int).toNat 64)) (i64 ((i64 ((i64 ((u64 (i64 (zl + zA))) / 2 ^ min (1 : Int).toNat 64)) + zx)) - z1z)) zA zY).bind fun zfM=>some zfM else some z4c) fun zfN=>if (decide (zl < z1z)) && (decide (z1z < (i64 ((u64 (i64 (zl + zA))) / 2 ^ min (1 : Int).toNat 64)))) then ((yT zjc) z3Y zl z1z (i64 ((u64 (i64 (zl + zA))) / 2 ^ min (1 : Int).toNat 64)) zY).bind fun zeg=>zfN zeg else zfN z3Y) fun zfO=>if (decide (z1z < zx)) && (decide (zx < (i64 ((i64 ((i64 ((u64 (i64 (zl + zA))) / 2 ^ min (1 : Int).toNat 64)) + zx)) - z1z)))) then (y1y z5 z1z zx (i64 ((i64 ((i64 ((u64 (i64 (zl + zA))) / 2 ^ min (1 : Int).toNat 64)) + zx)) - z1z)) zY).bind fun zfP=>zfO zfP else zfO z5) fun z6J=>yH zl zA zx z5 zY z6J yt z7N z7O) fun zfQ=>if decide (zx > (i64 ((u64 (i64 (zl + zA))) / 2 ^ min (1 : Int).toNat 64))) then zfQ (i64 ((i64 ((i64 ((u64 (i64 (zl + zA))) / 2 ^ min (1 : Int).toNat 64)) + zx)) - zA)) (i64 ((u64 (i64 (zl + zA))) / 2 ^ min (1 : Int).toNat 64)) else zfQ zl zx) fun zjd=>if decide ((i64 (zA - zx)) = 1) then jp1 (fun (z3I : Int)=>jp1 (fun (z6K : List Sapi_Come)=>some z6K) fun z7M=>yU z3I z7M yt z5 zx) fun z6I=>yM zx z5 zY z6I yt zl zx else zjd) fun zje=>if decide ((i64 (zx - zl)) = 1) then jp1 (fun (z3H : Int)=>jp1 (fun (z6L : List Sapi_Come)=>some z6L) fun z7L=>yL z3H z7L yt z5 zl) fun z6H=>yK z5 zl zY z6H yt zx zA else zje
def y1m (z5 : List Sapi_Come) (zl : Int) (zx : Int) (zA : Int) (zY : Sapi_Come → Sapi_Come → Option Int) : Option (List Sapi_Come):=yT yt z5 zl zx zA zY
set_option maxRecDepth 20000 in
theorem y45 : ∀ (n : Nat) (Z : Zp) (zR : Option Addr) (zI : Nat) (z1i : FuncId) (z1v : List Value) (z5 : List Sapi_Come) (zl : Int) (zx : Int) (zA : Int) (zY : Sapi_Come → Sapi_Come → Option Int) (r : List Sapi_Come) (w₀ : World) (hz : PZ (fps [row (.slice zR z5.length zI) 50 3 (z5.flatMap e50)]) w₀ Z)
  (z6M : ∀ args w,(callFunc z1i args).run Try.prog w = .ok (.enter z1i args) w)
  (z6N : ∀ w : World,PZ [] w Z → ∀ (x0 : Sapi_Come) (x1 : Sapi_Come) (r : Int),zY x0 x1 = some r → Calls Try.prog z1i (([(.agg #[(.int .i64 x0.fSent),(.int .i64 x0.fNode),(.int .i64 x0.fTime)]),(.agg #[(.int .i64 x1.fSent),(.int .i64 x1.fNode),(.int .i64 x1.fTime)])] : List Value) ++ z1v).toArray w fun e w'=>e = .returned (.int .i64 r) ∧ Hp [] w w' []) (h : yT n z5 zl zx zA zY = some r)
  (hown : Hp (fps [row (.slice zR z5.length zI) 50 3 (z5.flatMap e50)]) w₀ w₀ [row (.slice zR z5.length zI) 50 3 (z5.flatMap e50)]),Calls Try.prog 67 #[(.slice zR z5.length zI),(.int .i64 zl),(.int .i64 zx),(.int .i64 zA),(.func (.func z1i) #[] (z1v).toArray)] w₀ fun e w'=>e = .returned (.tuple #[]) ∧ (r.length = z5.length) ∧ Hp (fps [row (.slice zR z5.length zI) 50 3 (z5.flatMap e50)]) w₀ w' [row (.slice zR r.length zI) 50 3 (r.flatMap e50)]:=by
 intro n
 induction n with
 | zero=>intro Z zR zI z1i z1v z5 zl zx zA zY r w₀ hz z6M z6N h hown; cases h
 | succ zjc ih =>
  intro Z zR zI z1i z1v z5 zl zx zA zY r w₀ hz z6M z6N h hown
  rw [yT] at h
  refine Calls.yo (vs:=[(.slice zR z5.length zI),(.int .i64 zl),(.int .i64 zx),(.int .i64 zA),(.func (.func z1i) #[] (z1v).toArray)]) (pre:=[row (.slice zR z5.length zI) 50 3 (z5.flatMap e50)]) (env:=[(0,(.slice zR z5.length zI)),(1,(.int .i64 zl)),(2,(.int .i64 zx)),(3,(.int .i64 zA)),(4,(.func (.func z1i) #[] (z1v).toArray))]) Try.func67 rfl Try.ntmps67 rfl (hown) rfl ?_
  obtain ⟨zje,zto,h⟩:=y2E h
  refine WC.y2u ((zje = some r)) ([(0,(.slice zR z5.length zI)),(1,(.int .i64 zl)),(2,(.int .i64 zx)),(3,(.int .i64 zA)),(4,(.func (.func z1i) #[] (z1v).toArray))]) ([row (.slice zR z5.length zI) 50 3 (z5.flatMap e50)]) ?_ ?_
  ·skip
   refine WC.b (WC.a (WL.pu rfl (WL.pu rfl (WL.pu rfl (WL.pu rfl (WL.nil (WX.a ?_)))))))
   refine WC.cond rfl (fun zjf=>?_) (fun zjf=>?_)
   ·replace h:=yl h zjf
    refine WC.b (WC.a (WL.pu rfl (WL.pu rfl (WL.nil (WX.a (WC.b (WC.a (WL.pu rfl (WL.pu rfl (WL.nil (WX.a ?_)))))))))))
    obtain ⟨z6H,ztp,h⟩:=yZ h
    refine WC.y1l (fun (z3H : Int)=>(z6H z3H = some r)) (fun (z3H : Int)=>[(0,(.slice zR z5.length zI)),(1,(.int .i64 zl)),(10,(.int .i64 z3H))]) (fun (z3H : Int)=>[row (.slice zR z5.length zI) 50 3 (z5.flatMap e50)]) ?_ ?_
    ·skip
     refine WC.block ?_
     refine WC.y26 (fun (zbA : Nat) (z1x : Int) (z1G : Int)=>(yK z5 zl zY z6H zbA z1x z1G = some r)) (fun (zbA : Nat) (z1x : Int) (z1G : Int)=>[(0,(.slice zR z5.length zI)),(1,(.int .i64 zl)),(4,(.func (.func z1i) #[] (z1v).toArray)),(10,(.int .i64 z1x)),(11,(.int .i64 z1G))]) (fun (zbA : Nat) (z1x : Int) (z1G : Int)=>[row (.slice zR z5.length zI) 50 3 (z5.flatMap e50)]) (fun (zbA : Nat) (z1x : Int) (z1G : Int)=>zbA) ⟨yt,zx,zA⟩ h (.cons rfl (.cons rfl (.cons rfl (.cons rfl (.cons rfl .nil))))) (.cons .here .nil) ?_
     rintro zbA z1x z1G h
     obtain ⟨zed,rfl⟩:=y3G h
     rw [yK] at h
     refine WC.b (WC.b (WC.a (WL.pu rfl (WL.pu rfl (WL.pu rfl (WL.nil (WX.a ?_)))))))
     refine WC.cond rfl (fun zjg=>?_) (fun zjg=>?_)
     ·replace h:=yl h zjg
      refine WC.skip (WX.a (WC.block (WC.b (WC.a (WL.pu rfl (WL.pu rfl (WL.pu rfl ?_)))))))
      refine WL.a (d:=37) rfl rfl rfl (y4U Try.underlying3 Try.underlying157 rfl rfl) ?_
      refine WL.a (d:=38) rfl rfl rfl (q_shr rfl rfl (by decide) rfl) ?_
      refine WL.a (d:=39) rfl rfl rfl (y4U Try.underlying157 Try.underlying3 rfl rfl) ?_
      refine WL.pu rfl (WL.nil (WX.a (WC.b ?_)))
      obtain ⟨zeh,h⟩:=yj h
      obtain ⟨zfR,h⟩:=yj h
      obtain ⟨zj7,ztq,h⟩:=zn h
      refine WC.yY (fun i=>[].contains i) [] rfl ?_
      refine WD.a (i:=0) (d:=40) (by kernel_rfl) rfl (z2 (by kernel_rfl)) (z3 (by kernel_rfl)) rfl rfl rfl (fun _=>q_m rfl) ?_
      refine WD.a (i:=1) (d:=41) (by kernel_rfl) rfl (z2 (by kernel_rfl)) (z3 (by kernel_rfl)) rfl rfl rfl (fun _=>q_m rfl) ?_
      refine WD.a (i:=2) (d:=42) (by kernel_rfl) rfl (z2 (by kernel_rfl)) (z3 (by kernel_rfl)) rfl rfl rfl (fun _=>q_m rfl) ?_
      refine WD.know (fun w hw=>Hp.y2i .here hw (by intro hz'; have:=zeh; rw [hz'] at this; omega)) ?_
      rintro ⟨zyw,rfl⟩
      refine WD.a (i:=3) (d:=43) (by kernel_rfl) rfl (z2 (by kernel_rfl)) (z3 (by kernel_rfl)) rfl rfl rfl (fun _=>yr y19 rfl rfl zeh.1 zeh.2 y1b) ?_
      refine WD.e (i:=4) (d:=44) (by kernel_rfl) rfl (z2 (by kernel_rfl)) (z3 (by kernel_rfl)) rfl rfl rfl (y1H (cs:=(e50 (nth z5 (i64 ((u64 (i64 (z1x + z1G))) / 2 ^ min (1 : Int).toNat 64))))) y23 rfl rfl (y1P .here (y1I (enc:=e50) (l:=z5) (i:=i64 ((u64 (i64 (z1x + z1G))) / 2 ^ min (1 : Int).toNat 64)) (sz:=3) (fun _=>rfl) zeh.1 zeh.2))) ?_
      refine WD.a (i:=5) (d:=45) (by kernel_rfl) rfl (z2 (by kernel_rfl)) (z3 (by kernel_rfl)) rfl rfl rfl (fun _=>q_m rfl) ?_
      refine WD.a (i:=6) (d:=46) (by kernel_rfl) rfl (z2 (by kernel_rfl)) (z3 (by kernel_rfl)) rfl rfl rfl (fun _=>q_m rfl) ?_
      refine WD.a (i:=7) (d:=47) (by kernel_rfl) rfl (z2 (by kernel_rfl)) (z3 (by kernel_rfl)) rfl rfl rfl (fun _=>yr y19 rfl rfl zfR.1 zfR.2 y1b) ?_
      refine WD.e (i:=8) (d:=48) (by kernel_rfl) rfl (z2 (by kernel_rfl)) (z3 (by kernel_rfl)) rfl rfl rfl (y1H (cs:=(e50 (nth z5 zl))) y23 rfl rfl (y1P .here (y1I (enc:=e50) (l:=z5) (i:=zl) (sz:=3) (fun _=>rfl) zfR.1 zfR.2))) ?_
      refine WD.c (i:=9) (d:=49) (by kernel_rfl) rfl (z2 (by kernel_rfl)) (z3 (by kernel_rfl)) rfl rfl rfl (y3L (l:=[.tmp 44,.tmp 48]) (f:=z1i) (caps:=z1v) z6M rfl (.cons rfl (.cons rfl .nil))) (fun w hw=>z6N w (hz.now hw) (⟨((nth z5 (i64 ((u64 (i64 (z1x + z1G))) / 2 ^ min (1 : Int).toNat 64))).fSent),((nth z5 (i64 ((u64 (i64 (z1x + z1G))) / 2 ^ min (1 : Int).toNat 64))).fNode),((nth z5 (i64 ((u64 (i64 (z1x + z1G))) / 2 ^ min (1 : Int).toNat 64))).fTime)⟩ : Sapi_Come) (⟨((nth z5 zl).fSent),((nth z5 zl).fNode),((nth z5 zl).fTime)⟩ : Sapi_Come) zj7  ztq) ?_
      refine WD.a (i:=10) (d:=50) (by kernel_rfl) rfl (z2 (by kernel_rfl)) (z3 (by kernel_rfl)) rfl rfl rfl (fun _=>y3i rfl rfl) ?_
      refine WD.done (by kernel_rfl) ?_
      refine WX.a ?_
      refine WC.cond rfl (fun zjh=>?_) (fun zjh=>?_)
      ·replace h:=yl h zjh
       refine WC.a (WL.pu rfl (WL.pu rfl (WL.pu rfl (WL.nil (WX.yh ?_)))))
       exact WX.round (G:=Nat × Int × Int) ⟨zed,(i64 ((i64 ((u64 (i64 (z1x + z1G))) / 2 ^ min (1 : Int).toNat 64)) + 1)),z1G⟩ h (Nat.lt_succ_self _) (.cons rfl (.cons rfl (.cons rfl (.cons rfl (.cons rfl .nil))))) (.cons .here .nil)
      ·replace h:=ym h zjh
       refine WC.a (WL.pu rfl (WL.pu rfl (WL.nil (WX.yh ?_))))
       exact WX.round (G:=Nat × Int × Int) ⟨zed,z1x,(i64 ((u64 (i64 (z1x + z1G))) / 2 ^ min (1 : Int).toNat 64))⟩ h (Nat.lt_succ_self _) (.cons rfl (.cons rfl (.cons rfl (.cons rfl (.cons rfl .nil))))) (.cons .here .nil)
     ·replace h:=ym h zjg
      refine WC.exit (WX.yd (WX.yd (WX.yy ?_)))
      exact WX.mid (G:=Int) z1x h (.cons rfl (.cons rfl (.cons rfl .nil))) (.cons .here .nil)
    ·rintro z3H h
     replace h:=(ztp z3H).symm.trans h
     obtain ⟨z7L,ztr,h⟩:=yZ h
     refine WC.y1l (fun (z6L : List Sapi_Come)=>(z7L z6L = some r) ∧ (z6L.length = z5.length)) (fun (z6L : List Sapi_Come)=>[]) (fun (z6L : List Sapi_Come)=>[row (.slice zR z6L.length zI) 50 3 (z6L.flatMap e50)]) ?_ ?_
     ·skip
      refine WC.b (WC.a (WL.pu rfl (WL.pu rfl (WL.nil (WX.a (WC.block ?_))))))
      refine WC.y26 (fun (zbB : Nat) (zr : List Sapi_Come) (zj : Int)=>(yL z3H z7L zbB zr zj = some r) ∧ (zr.length = z5.length)) (fun (zbB : Nat) (zr : List Sapi_Come) (zj : Int)=>[(0,(.slice zR zr.length zI)),(10,(.int .i64 z3H)),(13,(.int .i64 zj))]) (fun (zbB : Nat) (zr : List Sapi_Come) (zj : Int)=>[row (.slice zR zr.length zI) 50 3 (zr.flatMap e50)]) (fun (zbB : Nat) (zr : List Sapi_Come) (zj : Int)=>zbB) ⟨yt,z5,zl⟩ ⟨h,rfl⟩ (.cons rfl (.cons rfl (.cons rfl .nil))) (.cons .here .nil) ?_
      rintro zbB zr zj ⟨h,zo4⟩
      obtain ⟨zj8,rfl⟩:=y3H h
      rw [yL] at h
      refine WC.b (WC.b (WC.a (WL.pu rfl (WL.pu rfl (WL.pu rfl (WL.pu rfl (WL.nil (WX.a ?_))))))))
      refine WC.cond rfl (fun zji=>?_) (fun zji=>?_)
      ·replace h:=yl h zji
       refine WC.skip (WX.a (WC.b (WC.block ?_)))
       obtain ⟨zei,h⟩:=yj h
       obtain ⟨z6O,h⟩:=yj h
       obtain ⟨zbC,h⟩:=yj h
       refine WC.yY (fun i=>[15,17].contains i) [] rfl ?_
       refine WD.a (i:=0) (d:=61) (by kernel_rfl) rfl (z2 (by kernel_rfl)) (z3 (by kernel_rfl)) rfl rfl rfl (fun _=>q_m rfl) ?_
       refine WD.a (i:=1) (d:=62) (by kernel_rfl) rfl (z2 (by kernel_rfl)) (z3 (by kernel_rfl)) rfl rfl rfl (fun _=>q_m rfl) ?_
       refine WD.a (i:=2) (d:=63) (by kernel_rfl) rfl (z2 (by kernel_rfl)) (z3 (by kernel_rfl)) rfl rfl rfl (fun _=>q_m rfl) ?_
       refine WD.a (i:=3) (d:=64) (by kernel_rfl) rfl (z2 (by kernel_rfl)) (z3 (by kernel_rfl)) rfl rfl rfl (fun _=>q_m rfl) ?_
       refine WD.a (i:=4) (d:=65) (by kernel_rfl) rfl (z2 (by kernel_rfl)) (z3 (by kernel_rfl)) rfl rfl rfl (fun _=>y4s rfl rfl rfl) ?_
       refine WD.a (i:=5) (d:=66) (by kernel_rfl) rfl (z2 (by kernel_rfl)) (z3 (by kernel_rfl)) rfl rfl rfl (fun _=>q_m rfl) ?_
       refine WD.a (i:=6) (d:=67) (by kernel_rfl) rfl (z2 (by kernel_rfl)) (z3 (by kernel_rfl)) rfl rfl rfl (fun _=>q_m rfl) ?_
       refine WD.a (i:=7) (d:=68) (by kernel_rfl) rfl (z2 (by kernel_rfl)) (z3 (by kernel_rfl)) rfl rfl rfl (fun _=>y4s rfl rfl rfl) ?_
       refine WD.know (fun w hw=>Hp.y2i .here hw (by intro hz'; have:=zei; rw [hz'] at this; omega)) ?_
       rintro ⟨zej,rfl⟩
       refine WD.a (i:=8) (d:=69) (by kernel_rfl) rfl (z2 (by kernel_rfl)) (z3 (by kernel_rfl)) rfl rfl rfl (fun _=>yr y19 rfl rfl zei.1 zei.2 y1b) ?_
       refine WD.e (i:=9) (d:=70) (by kernel_rfl) rfl (z2 (by kernel_rfl)) (z3 (by kernel_rfl)) rfl rfl rfl (y1H (cs:=(e50 (nth zr (i64 (zj + 1))))) y23 rfl rfl (y1P .here (y1I (enc:=e50) (l:=zr) (i:=i64 (zj + 1)) (sz:=3) (fun _=>rfl) zei.1 zei.2))) ?_
       refine WD.a (i:=10) (d:=71) (by kernel_rfl) rfl (z2 (by kernel_rfl)) (z3 (by kernel_rfl)) rfl rfl rfl (fun _=>q_m rfl) ?_
       refine WD.a (i:=11) (d:=72) (by kernel_rfl) rfl (z2 (by kernel_rfl)) (z3 (by kernel_rfl)) rfl rfl rfl (fun _=>q_m rfl) ?_
       refine WD.a (i:=12) (d:=73) (by kernel_rfl) rfl (z2 (by kernel_rfl)) (z3 (by kernel_rfl)) rfl rfl rfl (fun _=>yr y19 rfl rfl z6O.1 z6O.2 y1b) ?_
       refine WD.e (i:=13) (d:=74) (by kernel_rfl) rfl (z2 (by kernel_rfl)) (z3 (by kernel_rfl)) rfl rfl rfl (y1H (cs:=(e50 (nth zr zj))) y23 rfl rfl (y1P .here (y1I (enc:=e50) (l:=zr) (i:=zj) (sz:=3) (fun _=>rfl) z6O.1 z6O.2))) ?_
       refine WD.a (i:=14) (d:=75) (by kernel_rfl) rfl (z2 (by kernel_rfl)) (z3 (by kernel_rfl)) rfl rfl rfl (fun _=>yr y19 rfl rfl z6O.1 z6O.2 y1b) ?_
       refine WD.forced0 (i:=15) rfl (by kernel_rfl) rfl rfl rfl (Sin.of .nil) (y2t (vs:=[(.int .i64 ((nth zr (i64 (zj + 1))).fSent)),(.int .i64 ((nth zr (i64 (zj + 1))).fNode)),(.int .i64 ((nth zr (i64 (zj + 1))).fTime))]) (ds:=(zr.set (zj : Int).toNat (⟨((nth zr (i64 (zj + 1))).fSent),((nth zr (i64 (zj + 1))).fNode),((nth zr (i64 (zj + 1))).fTime)⟩ : Sapi_Come)).flatMap e50) y41 rfl rfl rfl rfl (ocB rfl) .here (y3d (enc:=e50) (sz:=3) (k:=0) (fun _=>rfl) z6O.1 z6O.2 (by decide)) (y3b (enc:=e50) (l:=zr) (sz:=3) (vs:=[(.int .i64 ((nth zr (i64 (zj + 1))).fSent)),(.int .i64 ((nth zr (i64 (zj + 1))).fNode)),(.int .i64 ((nth zr (i64 (zj + 1))).fTime))]) (y:=(⟨((nth zr (i64 (zj + 1))).fSent),((nth zr (i64 (zj + 1))).fNode),((nth zr (i64 (zj + 1))).fTime)⟩ : Sapi_Come)) (k:=0) (fun _=>rfl) z6O.1 z6O.2 rfl (Nat.le_of_ble_eq_true rfl))) ?_
       refine WD.relen .here (u:=(.slice (some ⟨zej,0,none⟩) ((zr.set (zj : Int).toNat (⟨((nth zr (i64 (zj + 1))).fSent),((nth zr (i64 (zj + 1))).fNode),((nth zr (i64 (zj + 1))).fTime)⟩ : Sapi_Come)).length) zI)) (y1M (List.length_set).symm) ?_
       refine WD.repin (i:=0) rfl (u:=(.slice (some ⟨zej,0,none⟩) ((zr.set (zj : Int).toNat (⟨((nth zr (i64 (zj + 1))).fSent),((nth zr (i64 (zj + 1))).fNode),((nth zr (i64 (zj + 1))).fTime)⟩ : Sapi_Come)).length) zI)) (y1M (List.length_set).symm) ?_
       refine WD.repin (i:=63) rfl (u:=(.slice (some ⟨zej,0,none⟩) ((zr.set (zj : Int).toNat (⟨((nth zr (i64 (zj + 1))).fSent),((nth zr (i64 (zj + 1))).fNode),((nth zr (i64 (zj + 1))).fTime)⟩ : Sapi_Come)).length) zI)) (y1M (List.length_set).symm) ?_
       refine WD.a (i:=16) (d:=76) (by kernel_rfl) rfl (z2 (by kernel_rfl)) (z3 (by kernel_rfl)) rfl rfl rfl (fun _=>yr y19 rfl rfl zbC.1 zbC.2 y1b) ?_
       refine WD.y2D (i:=17) rfl (by kernel_rfl) rfl rfl rfl (by kernel_rfl) (y2t (vs:=[(.int .i64 ((nth zr zj).fSent)),(.int .i64 ((nth zr zj).fNode)),(.int .i64 ((nth zr zj).fTime))]) (ds:=((zr.set (zj : Int).toNat (⟨((nth zr (i64 (zj + 1))).fSent),((nth zr (i64 (zj + 1))).fNode),((nth zr (i64 (zj + 1))).fTime)⟩ : Sapi_Come)).set ((i64 (zj + 1)) : Int).toNat (⟨((nth zr zj).fSent),((nth zr zj).fNode),((nth zr zj).fTime)⟩ : Sapi_Come)).flatMap e50) y41 rfl rfl rfl rfl (ocB rfl) .here (y3d (enc:=e50) (sz:=3) (k:=0) (fun _=>rfl) zbC.1 zbC.2 (by decide)) (y3b (enc:=e50) (l:=zr.set (zj : Int).toNat (⟨((nth zr (i64 (zj + 1))).fSent),((nth zr (i64 (zj + 1))).fNode),((nth zr (i64 (zj + 1))).fTime)⟩ : Sapi_Come)) (sz:=3) (vs:=[(.int .i64 ((nth zr zj).fSent)),(.int .i64 ((nth zr zj).fNode)),(.int .i64 ((nth zr zj).fTime))]) (y:=(⟨((nth zr zj).fSent),((nth zr zj).fNode),((nth zr zj).fTime)⟩ : Sapi_Come)) (k:=0) (fun _=>rfl) zbC.1 zbC.2 rfl (Nat.le_of_ble_eq_true rfl))) ?_
       refine WD.relen .here (u:=(.slice (some ⟨zej,0,none⟩) (((zr.set (zj : Int).toNat (⟨((nth zr (i64 (zj + 1))).fSent),((nth zr (i64 (zj + 1))).fNode),((nth zr (i64 (zj + 1))).fTime)⟩ : Sapi_Come)).set ((i64 (zj + 1)) : Int).toNat (⟨((nth zr zj).fSent),((nth zr zj).fNode),((nth zr zj).fTime)⟩ : Sapi_Come)).length) zI)) (y1M (List.length_set).symm) ?_
       refine WD.repin (i:=0) rfl (u:=(.slice (some ⟨zej,0,none⟩) (((zr.set (zj : Int).toNat (⟨((nth zr (i64 (zj + 1))).fSent),((nth zr (i64 (zj + 1))).fNode),((nth zr (i64 (zj + 1))).fTime)⟩ : Sapi_Come)).set ((i64 (zj + 1)) : Int).toNat (⟨((nth zr zj).fSent),((nth zr zj).fNode),((nth zr zj).fTime)⟩ : Sapi_Come)).length) zI)) (y1M (List.length_set).symm) ?_
       refine WD.done (by kernel_rfl) ?_
       refine WX.yh (WX.a (WC.a (WL.pu rfl (WL.pu rfl (WL.pu rfl (WL.nil ?_))))))
       exact WX.round (G:=Nat × List Sapi_Come × Int) ⟨zj8,((zr.set (zj : Int).toNat (⟨((nth zr (i64 (zj + 1))).fSent),((nth zr (i64 (zj + 1))).fNode),((nth zr (i64 (zj + 1))).fTime)⟩ : Sapi_Come)).set ((i64 (zj + 1)) : Int).toNat (⟨((nth zr zj).fSent),((nth zr zj).fNode),((nth zr zj).fTime)⟩ : Sapi_Come)),(i64 (zj + 1))⟩ ⟨h,((List.length_set).trans ((List.length_set).trans zo4))⟩ (Nat.lt_succ_self _) (.cons rfl (.cons rfl (.cons rfl .nil))) (.cons .here .nil)
      ·replace h:=ym h zji
       refine WC.exit (WX.yd (WX.yd (WX.yy ?_)))
       exact WX.mid (G:=List Sapi_Come) zr ⟨h,zo4⟩ .nil (.cons .here .nil)
     ·rintro z6L ⟨h,zts⟩
      replace h:=(ztr z6L).symm.trans h
      refine WC.ret (WX.yf ?_)
      obtain rfl:=Option.some.inj h
      refine WX.yi Try.results67 .nil (fun w hw=>?_)
      exact ⟨y4n,zts,hw.sub (.cons .here .nil)⟩
   ·replace h:=ym h zjf
    refine WC.skip ?_
    exact WX.mid (G:=Unit) () h (.cons rfl (.cons rfl (.cons rfl (.cons rfl (.cons rfl .nil))))) (.cons .here .nil)
  ·rintro  h
   replace h:=zto.symm.trans h
   obtain ⟨zjd,ztt,h⟩:=y2E h
   refine WC.y2u ((zjd = some r)) ([(0,(.slice zR z5.length zI)),(1,(.int .i64 zl)),(2,(.int .i64 zx)),(3,(.int .i64 zA)),(4,(.func (.func z1i) #[] (z1v).toArray))]) ([row (.slice zR z5.length zI) 50 3 (z5.flatMap e50)]) ?_ ?_
   ·skip
    refine WC.b (WC.a (WL.pu rfl (WL.pu rfl (WL.pu rfl (WL.pu rfl (WL.nil (WX.a ?_)))))))
    refine WC.cond rfl (fun zjj=>?_) (fun zjj=>?_)
    ·replace h:=yl h zjj
     refine WC.b (WC.a (WL.pu rfl (WL.pu rfl (WL.nil (WX.a (WC.b (WC.a (WL.pu rfl (WL.pu rfl (WL.nil (WX.a ?_)))))))))))
     obtain ⟨z6I,ztu,h⟩:=yZ h
     refine WC.y1l (fun (z3I : Int)=>(z6I z3I = some r)) (fun (z3I : Int)=>[(0,(.slice zR z5.length zI)),(2,(.int .i64 zx)),(14,(.int .i64 z3I))]) (fun (z3I : Int)=>[row (.slice zR z5.length zI) 50 3 (z5.flatMap e50)]) ?_ ?_
     ·skip
      refine WC.block ?_
      refine WC.y26 (fun (zbD : Nat) (z1y : Int) (z1H : Int)=>(yM zx z5 zY z6I zbD z1y z1H = some r)) (fun (zbD : Nat) (z1y : Int) (z1H : Int)=>[(0,(.slice zR z5.length zI)),(2,(.int .i64 zx)),(4,(.func (.func z1i) #[] (z1v).toArray)),(14,(.int .i64 z1y)),(15,(.int .i64 z1H))]) (fun (zbD : Nat) (z1y : Int) (z1H : Int)=>[row (.slice zR z5.length zI) 50 3 (z5.flatMap e50)]) (fun (zbD : Nat) (z1y : Int) (z1H : Int)=>zbD) ⟨yt,zl,zx⟩ h (.cons rfl (.cons rfl (.cons rfl (.cons rfl (.cons rfl .nil))))) (.cons .here .nil) ?_
      rintro zbD z1y z1H h
      obtain ⟨zee,rfl⟩:=y3I h
      rw [yM] at h
      refine WC.b (WC.b (WC.a (WL.pu rfl (WL.pu rfl (WL.pu rfl (WL.nil (WX.a ?_)))))))
      refine WC.cond rfl (fun zjk=>?_) (fun zjk=>?_)
      ·replace h:=yl h zjk
       refine WC.skip (WX.a (WC.block (WC.b (WC.a (WL.pu rfl (WL.pu rfl (WL.pu rfl ?_)))))))
       refine WL.a (d:=89) rfl rfl rfl (y4U Try.underlying3 Try.underlying157 rfl rfl) ?_
       refine WL.a (d:=90) rfl rfl rfl (q_shr rfl rfl (by decide) rfl) ?_
       refine WL.a (d:=91) rfl rfl rfl (y4U Try.underlying157 Try.underlying3 rfl rfl) ?_
       refine WL.pu rfl (WL.nil (WX.a (WC.b ?_)))
       obtain ⟨zek,h⟩:=yj h
       obtain ⟨zfS,h⟩:=yj h
       obtain ⟨zj9,ztv,h⟩:=zn h
       refine WC.yY (fun i=>[].contains i) [] rfl ?_
       refine WD.a (i:=0) (d:=92) (by kernel_rfl) rfl (z2 (by kernel_rfl)) (z3 (by kernel_rfl)) rfl rfl rfl (fun _=>q_m rfl) ?_
       refine WD.a (i:=1) (d:=93) (by kernel_rfl) rfl (z2 (by kernel_rfl)) (z3 (by kernel_rfl)) rfl rfl rfl (fun _=>q_m rfl) ?_
       refine WD.a (i:=2) (d:=94) (by kernel_rfl) rfl (z2 (by kernel_rfl)) (z3 (by kernel_rfl)) rfl rfl rfl (fun _=>q_m rfl) ?_
       refine WD.know (fun w hw=>Hp.y2i .here hw (by intro hz'; have:=zek; rw [hz'] at this; omega)) ?_
       rintro ⟨zyx,rfl⟩
       refine WD.a (i:=3) (d:=95) (by kernel_rfl) rfl (z2 (by kernel_rfl)) (z3 (by kernel_rfl)) rfl rfl rfl (fun _=>yr y19 rfl rfl zek.1 zek.2 y1b) ?_
       refine WD.e (i:=4) (d:=96) (by kernel_rfl) rfl (z2 (by kernel_rfl)) (z3 (by kernel_rfl)) rfl rfl rfl (y1H (cs:=(e50 (nth z5 zx))) y23 rfl rfl (y1P .here (y1I (enc:=e50) (l:=z5) (i:=zx) (sz:=3) (fun _=>rfl) zek.1 zek.2))) ?_
       refine WD.a (i:=5) (d:=97) (by kernel_rfl) rfl (z2 (by kernel_rfl)) (z3 (by kernel_rfl)) rfl rfl rfl (fun _=>q_m rfl) ?_
       refine WD.a (i:=6) (d:=98) (by kernel_rfl) rfl (z2 (by kernel_rfl)) (z3 (by kernel_rfl)) rfl rfl rfl (fun _=>q_m rfl) ?_
       refine WD.a (i:=7) (d:=99) (by kernel_rfl) rfl (z2 (by kernel_rfl)) (z3 (by kernel_rfl)) rfl rfl rfl (fun _=>yr y19 rfl rfl zfS.1 zfS.2 y1b) ?_
       refine WD.e (i:=8) (d:=100) (by kernel_rfl) rfl (z2 (by kernel_rfl)) (z3 (by kernel_rfl)) rfl rfl rfl (y1H (cs:=(e50 (nth z5 (i64 ((u64 (i64 (z1y + z1H))) / 2 ^ min (1 : Int).toNat 64))))) y23 rfl rfl (y1P .here (y1I (enc:=e50) (l:=z5) (i:=i64 ((u64 (i64 (z1y + z1H))) / 2 ^ min (1 : Int).toNat 64)) (sz:=3) (fun _=>rfl) zfS.1 zfS.2))) ?_
       refine WD.c (i:=9) (d:=101) (by kernel_rfl) rfl (z2 (by kernel_rfl)) (z3 (by kernel_rfl)) rfl rfl rfl (y3L (l:=[.tmp 96,.tmp 100]) (f:=z1i) (caps:=z1v) z6M rfl (.cons rfl (.cons rfl .nil))) (fun w hw=>z6N w (hz.now hw) (⟨((nth z5 zx).fSent),((nth z5 zx).fNode),((nth z5 zx).fTime)⟩ : Sapi_Come) (⟨((nth z5 (i64 ((u64 (i64 (z1y + z1H))) / 2 ^ min (1 : Int).toNat 64))).fSent),((nth z5 (i64 ((u64 (i64 (z1y + z1H))) / 2 ^ min (1 : Int).toNat 64))).fNode),((nth z5 (i64 ((u64 (i64 (z1y + z1H))) / 2 ^ min (1 : Int).toNat 64))).fTime)⟩ : Sapi_Come) zj9  ztv) ?_
       refine WD.a (i:=10) (d:=102) (by kernel_rfl) rfl (z2 (by kernel_rfl)) (z3 (by kernel_rfl)) rfl rfl rfl (fun _=>y3i rfl rfl) ?_
       refine WD.a (i:=11) (d:=103) (by kernel_rfl) rfl (z2 (by kernel_rfl)) (z3 (by kernel_rfl)) rfl rfl rfl (fun _=>q_not rfl) ?_
       refine WD.done (by kernel_rfl) ?_
       refine WX.a ?_
       refine WC.cond rfl (fun zjl=>?_) (fun zjl=>?_)
       ·replace h:=yl h zjl
        refine WC.a (WL.pu rfl (WL.pu rfl (WL.pu rfl (WL.nil (WX.yh ?_)))))
        exact WX.round (G:=Nat × Int × Int) ⟨zee,(i64 ((i64 ((u64 (i64 (z1y + z1H))) / 2 ^ min (1 : Int).toNat 64)) + 1)),z1H⟩ h (Nat.lt_succ_self _) (.cons rfl (.cons rfl (.cons rfl (.cons rfl (.cons rfl .nil))))) (.cons .here .nil)
       ·replace h:=ym h zjl
        refine WC.a (WL.pu rfl (WL.pu rfl (WL.nil (WX.yh ?_))))
        exact WX.round (G:=Nat × Int × Int) ⟨zee,z1y,(i64 ((u64 (i64 (z1y + z1H))) / 2 ^ min (1 : Int).toNat 64))⟩ h (Nat.lt_succ_self _) (.cons rfl (.cons rfl (.cons rfl (.cons rfl (.cons rfl .nil))))) (.cons .here .nil)
      ·replace h:=ym h zjk
       refine WC.exit (WX.yd (WX.yd (WX.yy ?_)))
       exact WX.mid (G:=Int) z1y h (.cons rfl (.cons rfl (.cons rfl .nil))) (.cons .here .nil)
     ·rintro z3I h
      replace h:=(ztu z3I).symm.trans h
      obtain ⟨z7M,ztw,h⟩:=yZ h
      refine WC.y1l (fun (z6K : List Sapi_Come)=>(z7M z6K = some r) ∧ (z6K.length = z5.length)) (fun (z6K : List Sapi_Come)=>[]) (fun (z6K : List Sapi_Come)=>[row (.slice zR z6K.length zI) 50 3 (z6K.flatMap e50)]) ?_ ?_
      ·skip
       refine WC.b (WC.a (WL.pu rfl (WL.pu rfl (WL.nil (WX.a (WC.block ?_))))))
       refine WC.y26 (fun (zbE : Nat) (zt : List Sapi_Come) (zk : Int)=>(yU z3I z7M zbE zt zk = some r) ∧ (zt.length = z5.length)) (fun (zbE : Nat) (zt : List Sapi_Come) (zk : Int)=>[(0,(.slice zR zt.length zI)),(14,(.int .i64 z3I)),(17,(.int .i64 zk))]) (fun (zbE : Nat) (zt : List Sapi_Come) (zk : Int)=>[row (.slice zR zt.length zI) 50 3 (zt.flatMap e50)]) (fun (zbE : Nat) (zt : List Sapi_Come) (zk : Int)=>zbE) ⟨yt,z5,zx⟩ ⟨h,rfl⟩ (.cons rfl (.cons rfl (.cons rfl .nil))) (.cons .here .nil) ?_
       rintro zbE zt zk ⟨h,zo5⟩
       obtain ⟨zja,rfl⟩:=y3J h
       rw [yU] at h
       refine WC.b (WC.b (WC.a (WL.pu rfl (WL.pu rfl (WL.pu rfl (WL.nil (WX.a ?_)))))))
       refine WC.cond rfl (fun zjm=>?_) (fun zjm=>?_)
       ·replace h:=yl h zjm
        refine WC.skip (WX.a (WC.b (WC.block ?_)))
        obtain ⟨zel,h⟩:=yj h
        obtain ⟨z6P,h⟩:=yj h
        obtain ⟨zbF,h⟩:=yj h
        refine WC.yY (fun i=>[15,17].contains i) [] rfl ?_
        refine WD.a (i:=0) (d:=113) (by kernel_rfl) rfl (z2 (by kernel_rfl)) (z3 (by kernel_rfl)) rfl rfl rfl (fun _=>q_m rfl) ?_
        refine WD.a (i:=1) (d:=114) (by kernel_rfl) rfl (z2 (by kernel_rfl)) (z3 (by kernel_rfl)) rfl rfl rfl (fun _=>q_m rfl) ?_
        refine WD.a (i:=2) (d:=115) (by kernel_rfl) rfl (z2 (by kernel_rfl)) (z3 (by kernel_rfl)) rfl rfl rfl (fun _=>q_m rfl) ?_
        refine WD.a (i:=3) (d:=116) (by kernel_rfl) rfl (z2 (by kernel_rfl)) (z3 (by kernel_rfl)) rfl rfl rfl (fun _=>q_m rfl) ?_
        refine WD.a (i:=4) (d:=117) (by kernel_rfl) rfl (z2 (by kernel_rfl)) (z3 (by kernel_rfl)) rfl rfl rfl (fun _=>y4S rfl rfl rfl) ?_
        refine WD.a (i:=5) (d:=118) (by kernel_rfl) rfl (z2 (by kernel_rfl)) (z3 (by kernel_rfl)) rfl rfl rfl (fun _=>q_m rfl) ?_
        refine WD.a (i:=6) (d:=119) (by kernel_rfl) rfl (z2 (by kernel_rfl)) (z3 (by kernel_rfl)) rfl rfl rfl (fun _=>q_m rfl) ?_
        refine WD.a (i:=7) (d:=120) (by kernel_rfl) rfl (z2 (by kernel_rfl)) (z3 (by kernel_rfl)) rfl rfl rfl (fun _=>y4S rfl rfl rfl) ?_
        refine WD.know (fun w hw=>Hp.y2i .here hw (by intro hz'; have:=zel; rw [hz'] at this; omega)) ?_
        rintro ⟨zem,rfl⟩
        refine WD.a (i:=8) (d:=121) (by kernel_rfl) rfl (z2 (by kernel_rfl)) (z3 (by kernel_rfl)) rfl rfl rfl (fun _=>yr y19 rfl rfl zel.1 zel.2 y1b) ?_
        refine WD.e (i:=9) (d:=122) (by kernel_rfl) rfl (z2 (by kernel_rfl)) (z3 (by kernel_rfl)) rfl rfl rfl (y1H (cs:=(e50 (nth zt (i64 (zk - 1))))) y23 rfl rfl (y1P .here (y1I (enc:=e50) (l:=zt) (i:=i64 (zk - 1)) (sz:=3) (fun _=>rfl) zel.1 zel.2))) ?_
        refine WD.a (i:=10) (d:=123) (by kernel_rfl) rfl (z2 (by kernel_rfl)) (z3 (by kernel_rfl)) rfl rfl rfl (fun _=>q_m rfl) ?_
        refine WD.a (i:=11) (d:=124) (by kernel_rfl) rfl (z2 (by kernel_rfl)) (z3 (by kernel_rfl)) rfl rfl rfl (fun _=>q_m rfl) ?_
        refine WD.a (i:=12) (d:=125) (by kernel_rfl) rfl (z2 (by kernel_rfl)) (z3 (by kernel_rfl)) rfl rfl rfl (fun _=>yr y19 rfl rfl z6P.1 z6P.2 y1b) ?_
        refine WD.e (i:=13) (d:=126) (by kernel_rfl) rfl (z2 (by kernel_rfl)) (z3 (by kernel_rfl)) rfl rfl rfl (y1H (cs:=(e50 (nth zt zk))) y23 rfl rfl (y1P .here (y1I (enc:=e50) (l:=zt) (i:=zk) (sz:=3) (fun _=>rfl) z6P.1 z6P.2))) ?_
        refine WD.a (i:=14) (d:=127) (by kernel_rfl) rfl (z2 (by kernel_rfl)) (z3 (by kernel_rfl)) rfl rfl rfl (fun _=>yr y19 rfl rfl z6P.1 z6P.2 y1b) ?_
        refine WD.forced0 (i:=15) rfl (by kernel_rfl) rfl rfl rfl (Sin.of .nil) (y2t (vs:=[(.int .i64 ((nth zt (i64 (zk - 1))).fSent)),(.int .i64 ((nth zt (i64 (zk - 1))).fNode)),(.int .i64 ((nth zt (i64 (zk - 1))).fTime))]) (ds:=(zt.set (zk : Int).toNat (⟨((nth zt (i64 (zk - 1))).fSent),((nth zt (i64 (zk - 1))).fNode),((nth zt (i64 (zk - 1))).fTime)⟩ : Sapi_Come)).flatMap e50) y41 rfl rfl rfl rfl (ocB rfl) .here (y3d (enc:=e50) (sz:=3) (k:=0) (fun _=>rfl) z6P.1 z6P.2 (by decide)) (y3b (enc:=e50) (l:=zt) (sz:=3) (vs:=[(.int .i64 ((nth zt (i64 (zk - 1))).fSent)),(.int .i64 ((nth zt (i64 (zk - 1))).fNode)),(.int .i64 ((nth zt (i64 (zk - 1))).fTime))]) (y:=(⟨((nth zt (i64 (zk - 1))).fSent),((nth zt (i64 (zk - 1))).fNode),((nth zt (i64 (zk - 1))).fTime)⟩ : Sapi_Come)) (k:=0) (fun _=>rfl) z6P.1 z6P.2 rfl (Nat.le_of_ble_eq_true rfl))) ?_
        refine WD.relen .here (u:=(.slice (some ⟨zem,0,none⟩) ((zt.set (zk : Int).toNat (⟨((nth zt (i64 (zk - 1))).fSent),((nth zt (i64 (zk - 1))).fNode),((nth zt (i64 (zk - 1))).fTime)⟩ : Sapi_Come)).length) zI)) (y1M (List.length_set).symm) ?_
        refine WD.repin (i:=0) rfl (u:=(.slice (some ⟨zem,0,none⟩) ((zt.set (zk : Int).toNat (⟨((nth zt (i64 (zk - 1))).fSent),((nth zt (i64 (zk - 1))).fNode),((nth zt (i64 (zk - 1))).fTime)⟩ : Sapi_Come)).length) zI)) (y1M (List.length_set).symm) ?_
        refine WD.repin (i:=115) rfl (u:=(.slice (some ⟨zem,0,none⟩) ((zt.set (zk : Int).toNat (⟨((nth zt (i64 (zk - 1))).fSent),((nth zt (i64 (zk - 1))).fNode),((nth zt (i64 (zk - 1))).fTime)⟩ : Sapi_Come)).length) zI)) (y1M (List.length_set).symm) ?_
        refine WD.a (i:=16) (d:=128) (by kernel_rfl) rfl (z2 (by kernel_rfl)) (z3 (by kernel_rfl)) rfl rfl rfl (fun _=>yr y19 rfl rfl zbF.1 zbF.2 y1b) ?_
        refine WD.y2D (i:=17) rfl (by kernel_rfl) rfl rfl rfl (by kernel_rfl) (y2t (vs:=[(.int .i64 ((nth zt zk).fSent)),(.int .i64 ((nth zt zk).fNode)),(.int .i64 ((nth zt zk).fTime))]) (ds:=((zt.set (zk : Int).toNat (⟨((nth zt (i64 (zk - 1))).fSent),((nth zt (i64 (zk - 1))).fNode),((nth zt (i64 (zk - 1))).fTime)⟩ : Sapi_Come)).set ((i64 (zk - 1)) : Int).toNat (⟨((nth zt zk).fSent),((nth zt zk).fNode),((nth zt zk).fTime)⟩ : Sapi_Come)).flatMap e50) y41 rfl rfl rfl rfl (ocB rfl) .here (y3d (enc:=e50) (sz:=3) (k:=0) (fun _=>rfl) zbF.1 zbF.2 (by decide)) (y3b (enc:=e50) (l:=zt.set (zk : Int).toNat (⟨((nth zt (i64 (zk - 1))).fSent),((nth zt (i64 (zk - 1))).fNode),((nth zt (i64 (zk - 1))).fTime)⟩ : Sapi_Come)) (sz:=3) (vs:=[(.int .i64 ((nth zt zk).fSent)),(.int .i64 ((nth zt zk).fNode)),(.int .i64 ((nth zt zk).fTime))]) (y:=(⟨((nth zt zk).fSent),((nth zt zk).fNode),((nth zt zk).fTime)⟩ : Sapi_Come)) (k:=0) (fun _=>rfl) zbF.1 zbF.2 rfl (Nat.le_of_ble_eq_true rfl))) ?_
        refine WD.relen .here (u:=(.slice (some ⟨zem,0,none⟩) (((zt.set (zk : Int).toNat (⟨((nth zt (i64 (zk - 1))).fSent),((nth zt (i64 (zk - 1))).fNode),((nth zt (i64 (zk - 1))).fTime)⟩ : Sapi_Come)).set ((i64 (zk - 1)) : Int).toNat (⟨((nth zt zk).fSent),((nth zt zk).fNode),((nth zt zk).fTime)⟩ : Sapi_Come)).length) zI)) (y1M (List.length_set).symm) ?_
        refine WD.repin (i:=0) rfl (u:=(.slice (some ⟨zem,0,none⟩) (((zt.set (zk : Int).toNat (⟨((nth zt (i64 (zk - 1))).fSent),((nth zt (i64 (zk - 1))).fNode),((nth zt (i64 (zk - 1))).fTime)⟩ : Sapi_Come)).set ((i64 (zk - 1)) : Int).toNat (⟨((nth zt zk).fSent),((nth zt zk).fNode),((nth zt zk).fTime)⟩ : Sapi_Come)).length) zI)) (y1M (List.length_set).symm) ?_
        refine WD.done (by kernel_rfl) ?_
        refine WX.yh (WX.a (WC.a (WL.pu rfl (WL.pu rfl (WL.pu rfl (WL.nil ?_))))))
        exact WX.round (G:=Nat × List Sapi_Come × Int) ⟨zja,((zt.set (zk : Int).toNat (⟨((nth zt (i64 (zk - 1))).fSent),((nth zt (i64 (zk - 1))).fNode),((nth zt (i64 (zk - 1))).fTime)⟩ : Sapi_Come)).set ((i64 (zk - 1)) : Int).toNat (⟨((nth zt zk).fSent),((nth zt zk).fNode),((nth zt zk).fTime)⟩ : Sapi_Come)),(i64 (zk - 1))⟩ ⟨h,((List.length_set).trans ((List.length_set).trans zo5))⟩ (Nat.lt_succ_self _) (.cons rfl (.cons rfl (.cons rfl .nil))) (.cons .here .nil)
       ·replace h:=ym h zjm
        refine WC.exit (WX.yd (WX.yd (WX.yy ?_)))
        exact WX.mid (G:=List Sapi_Come) zt ⟨h,zo5⟩ .nil (.cons .here .nil)
      ·rintro z6K ⟨h,ztx⟩
       replace h:=(ztw z6K).symm.trans h
       refine WC.ret (WX.yf ?_)
       obtain rfl:=Option.some.inj h
       refine WX.yi Try.results67 .nil (fun w hw=>?_)
       exact ⟨y4n,ztx,hw.sub (.cons .here .nil)⟩
    ·replace h:=ym h zjj
     refine WC.skip ?_
     exact WX.mid (G:=Unit) () h (.cons rfl (.cons rfl (.cons rfl (.cons rfl (.cons rfl .nil))))) (.cons .here .nil)
   ·rintro  h
    replace h:=ztt.symm.trans h
    refine WC.b (WC.a (WL.pu rfl (WL.pu rfl (WL.pu rfl ?_))))
    refine WL.a (d:=132) rfl rfl rfl (y4U Try.underlying3 Try.underlying157 rfl rfl) ?_
    refine WL.a (d:=133) rfl rfl rfl (q_shr rfl rfl (by decide) rfl) ?_
    refine WL.a (d:=134) rfl rfl rfl (y4U Try.underlying157 Try.underlying3 rfl rfl) ?_
    refine WL.pu rfl (WL.nil (WX.a (WC.b (WC.a (WL.pu rfl (WL.pu rfl (WL.pu rfl (WL.pu rfl (WL.nil (WX.a (WC.b (WC.a (WL.pu rfl (WL.pu rfl (WL.nil ?_)))))))))))))))
    refine WX.a ?_
    obtain ⟨zfQ,zty,h⟩:=y3c h
    refine WC.y2v (fun (z7N : Int) (z7O : Int)=>(zfQ z7N z7O = some r)) (fun (z7N : Int) (z7O : Int)=>[(0,(.slice zR z5.length zI)),(1,(.int .i64 zl)),(2,(.int .i64 zx)),(3,(.int .i64 zA)),(4,(.func (.func z1i) #[] (z1v).toArray)),(18,(.int .i64 (i64 ((u64 (i64 (zl + zA))) / 2 ^ min (1 : Int).toNat 64)))),(19,(.int .i64 (i64 ((i64 ((u64 (i64 (zl + zA))) / 2 ^ min (1 : Int).toNat 64)) + zx)))),(20,(.int .i64 z7N)),(21,(.int .i64 z7O))]) (fun (z7N : Int) (z7O : Int)=>[row (.slice zR z5.length zI) 50 3 (z5.flatMap e50)]) ?_ ?_
    ·skip
     refine WC.b (WC.a (WL.pu rfl (WL.pu rfl (WL.pu rfl (WL.nil (WX.a ?_))))))
     refine WC.cond rfl (fun zjn=>?_) (fun zjn=>?_)
     ·replace h:=yl h zjn
      refine WC.b (WC.a (WL.pu rfl (WL.pu rfl (WL.pu rfl (WL.pu rfl (WL.nil (WX.a (WC.a (WL.pu rfl (WL.pu rfl (WL.nil ?_)))))))))))
      exact WX.mid (G:=Int × Int) ⟨(i64 ((i64 ((i64 ((u64 (i64 (zl + zA))) / 2 ^ min (1 : Int).toNat 64)) + zx)) - zA)),(i64 ((u64 (i64 (zl + zA))) / 2 ^ min (1 : Int).toNat 64))⟩ h (.cons rfl (.cons rfl (.cons rfl (.cons rfl (.cons rfl (.cons rfl (.cons rfl (.cons rfl (.cons rfl .nil))))))))) (.cons .here .nil)
     ·replace h:=ym h zjn
      refine WC.b (WC.a (WL.pu rfl (WL.pu rfl (WL.nil (WX.a (WC.a (WL.pu rfl (WL.pu rfl (WL.nil ?_)))))))))
      exact WX.mid (G:=Int × Int) ⟨zl,zx⟩ h (.cons rfl (.cons rfl (.cons rfl (.cons rfl (.cons rfl (.cons rfl (.cons rfl (.cons rfl (.cons rfl .nil))))))))) (.cons .here .nil)
    ·rintro z7N z7O h
     replace h:=(zty z7N z7O).symm.trans h
     refine WC.b (WC.a (WL.pu rfl (WL.pu rfl (WL.pu rfl (WL.nil (WX.a ?_))))))
     obtain ⟨z6J,ztz,h⟩:=yZ h
     refine WC.y1l (fun (z1z : Int)=>(z6J z1z = some r)) (fun (z1z : Int)=>[(0,(.slice zR z5.length zI)),(1,(.int .i64 zl)),(2,(.int .i64 zx)),(3,(.int .i64 zA)),(4,(.func (.func z1i) #[] (z1v).toArray)),(18,(.int .i64 (i64 ((u64 (i64 (zl + zA))) / 2 ^ min (1 : Int).toNat 64)))),(19,(.int .i64 (i64 ((i64 ((u64 (i64 (zl + zA))) / 2 ^ min (1 : Int).toNat 64)) + zx)))),(20,(.int .i64 z1z))]) (fun (z1z : Int)=>[row (.slice zR z5.length zI) 50 3 (z5.flatMap e50)]) ?_ ?_
     ·skip
      refine WC.block ?_
      refine WC.y26 (fun (zbG : Nat) (z15 : Int) (z1b : Int)=>(yH zl zA zx z5 zY z6J zbG z15 z1b = some r)) (fun (zbG : Nat) (z15 : Int) (z1b : Int)=>[(0,(.slice zR z5.length zI)),(1,(.int .i64 zl)),(2,(.int .i64 zx)),(3,(.int .i64 zA)),(4,(.func (.func z1i) #[] (z1v).toArray)),(18,(.int .i64 (i64 ((u64 (i64 (zl + zA))) / 2 ^ min (1 : Int).toNat 64)))),(19,(.int .i64 (i64 ((i64 ((u64 (i64 (zl + zA))) / 2 ^ min (1 : Int).toNat 64)) + zx)))),(20,(.int .i64 z15)),(21,(.int .i64 z1b)),(22,(.int .i64 (i64 ((i64 ((i64 ((u64 (i64 (zl + zA))) / 2 ^ min (1 : Int).toNat 64)) + zx)) - 1))))]) (fun (zbG : Nat) (z15 : Int) (z1b : Int)=>[row (.slice zR z5.length zI) 50 3 (z5.flatMap e50)]) (fun (zbG : Nat) (z15 : Int) (z1b : Int)=>zbG) ⟨yt,z7N,z7O⟩ h (.cons rfl (.cons rfl (.cons rfl (.cons rfl (.cons rfl (.cons rfl (.cons rfl (.cons rfl (.cons rfl (.cons rfl .nil)))))))))) (.cons .here .nil) ?_
      rintro zbG z15 z1b h
      obtain ⟨zef,rfl⟩:=y3D h
      rw [yH] at h
      refine WC.b (WC.b (WC.a (WL.pu rfl (WL.pu rfl (WL.pu rfl (WL.nil (WX.a ?_)))))))
      refine WC.cond rfl (fun zjo=>?_) (fun zjo=>?_)
      ·replace h:=yl h zjo
       refine WC.skip (WX.a (WC.block (WC.b (WC.a (WL.pu rfl (WL.pu rfl (WL.pu rfl ?_)))))))
       refine WL.a (d:=155) rfl rfl rfl (y4U Try.underlying3 Try.underlying157 rfl rfl) ?_
       refine WL.a (d:=156) rfl rfl rfl (q_shr rfl rfl (by decide) rfl) ?_
       refine WL.a (d:=157) rfl rfl rfl (y4U Try.underlying157 Try.underlying3 rfl rfl) ?_
       refine WL.pu rfl (WL.nil (WX.a (WC.b ?_)))
       obtain ⟨zen,h⟩:=yj h
       obtain ⟨zfT,h⟩:=yj h
       obtain ⟨zjb,ztA,h⟩:=zn h
       refine WC.yY (fun i=>[].contains i) [] rfl ?_
       refine WD.a (i:=0) (d:=158) (by kernel_rfl) rfl (z2 (by kernel_rfl)) (z3 (by kernel_rfl)) rfl rfl rfl (fun _=>q_m rfl) ?_
       refine WD.a (i:=1) (d:=159) (by kernel_rfl) rfl (z2 (by kernel_rfl)) (z3 (by kernel_rfl)) rfl rfl rfl (fun _=>q_m rfl) ?_
       refine WD.a (i:=2) (d:=160) (by kernel_rfl) rfl (z2 (by kernel_rfl)) (z3 (by kernel_rfl)) rfl rfl rfl (fun _=>q_m rfl) ?_
       refine WD.a (i:=3) (d:=161) (by kernel_rfl) rfl (z2 (by kernel_rfl)) (z3 (by kernel_rfl)) rfl rfl rfl (fun _=>q_m rfl) ?_
       refine WD.a (i:=4) (d:=162) (by kernel_rfl) rfl (z2 (by kernel_rfl)) (z3 (by kernel_rfl)) rfl rfl rfl (fun _=>y4S rfl rfl rfl) ?_
       refine WD.know (fun w hw=>Hp.y2i .here hw (by intro hz'; have:=zen; rw [hz'] at this; omega)) ?_
       rintro ⟨zyy,rfl⟩
       refine WD.a (i:=5) (d:=163) (by kernel_rfl) rfl (z2 (by kernel_rfl)) (z3 (by kernel_rfl)) rfl rfl rfl (fun _=>yr y19 rfl rfl zen.1 zen.2 y1b) ?_
       refine WD.e (i:=6) (d:=164) (by kernel_rfl) rfl (z2 (by kernel_rfl)) (z3 (by kernel_rfl)) rfl rfl rfl (y1H (cs:=(e50 (nth z5 (i64 ((i64 ((i64 ((i64 ((u64 (i64 (zl + zA))) / 2 ^ min (1 : Int).toNat 64)) + zx)) - 1)) - (i64 ((u64 (i64 (z15 + z1b))) / 2 ^ min (1 : Int).toNat 64))))))) y23 rfl rfl (y1P .here (y1I (enc:=e50) (l:=z5) (i:=i64 ((i64 ((i64 ((i64 ((u64 (i64 (zl + zA))) / 2 ^ min (1 : Int).toNat 64)) + zx)) - 1)) - (i64 ((u64 (i64 (z15 + z1b))) / 2 ^ min (1 : Int).toNat 64)))) (sz:=3) (fun _=>rfl) zen.1 zen.2))) ?_
       refine WD.a (i:=7) (d:=165) (by kernel_rfl) rfl (z2 (by kernel_rfl)) (z3 (by kernel_rfl)) rfl rfl rfl (fun _=>q_m rfl) ?_
       refine WD.a (i:=8) (d:=166) (by kernel_rfl) rfl (z2 (by kernel_rfl)) (z3 (by kernel_rfl)) rfl rfl rfl (fun _=>q_m rfl) ?_
       refine WD.a (i:=9) (d:=167) (by kernel_rfl) rfl (z2 (by kernel_rfl)) (z3 (by kernel_rfl)) rfl rfl rfl (fun _=>yr y19 rfl rfl zfT.1 zfT.2 y1b) ?_
       refine WD.e (i:=10) (d:=168) (by kernel_rfl) rfl (z2 (by kernel_rfl)) (z3 (by kernel_rfl)) rfl rfl rfl (y1H (cs:=(e50 (nth z5 (i64 ((u64 (i64 (z15 + z1b))) / 2 ^ min (1 : Int).toNat 64))))) y23 rfl rfl (y1P .here (y1I (enc:=e50) (l:=z5) (i:=i64 ((u64 (i64 (z15 + z1b))) / 2 ^ min (1 : Int).toNat 64)) (sz:=3) (fun _=>rfl) zfT.1 zfT.2))) ?_
       refine WD.c (i:=11) (d:=169) (by kernel_rfl) rfl (z2 (by kernel_rfl)) (z3 (by kernel_rfl)) rfl rfl rfl (y3L (l:=[.tmp 164,.tmp 168]) (f:=z1i) (caps:=z1v) z6M rfl (.cons rfl (.cons rfl .nil))) (fun w hw=>z6N w (hz.now hw) (⟨((nth z5 (i64 ((i64 ((i64 ((i64 ((u64 (i64 (zl + zA))) / 2 ^ min (1 : Int).toNat 64)) + zx)) - 1)) - (i64 ((u64 (i64 (z15 + z1b))) / 2 ^ min (1 : Int).toNat 64))))).fSent),((nth z5 (i64 ((i64 ((i64 ((i64 ((u64 (i64 (zl + zA))) / 2 ^ min (1 : Int).toNat 64)) + zx)) - 1)) - (i64 ((u64 (i64 (z15 + z1b))) / 2 ^ min (1 : Int).toNat 64))))).fNode),((nth z5 (i64 ((i64 ((i64 ((i64 ((u64 (i64 (zl + zA))) / 2 ^ min (1 : Int).toNat 64)) + zx)) - 1)) - (i64 ((u64 (i64 (z15 + z1b))) / 2 ^ min (1 : Int).toNat 64))))).fTime)⟩ : Sapi_Come) (⟨((nth z5 (i64 ((u64 (i64 (z15 + z1b))) / 2 ^ min (1 : Int).toNat 64))).fSent),((nth z5 (i64 ((u64 (i64 (z15 + z1b))) / 2 ^ min (1 : Int).toNat 64))).fNode),((nth z5 (i64 ((u64 (i64 (z15 + z1b))) / 2 ^ min (1 : Int).toNat 64))).fTime)⟩ : Sapi_Come) zjb  ztA) ?_
       refine WD.a (i:=12) (d:=170) (by kernel_rfl) rfl (z2 (by kernel_rfl)) (z3 (by kernel_rfl)) rfl rfl rfl (fun _=>y3i rfl rfl) ?_
       refine WD.a (i:=13) (d:=171) (by kernel_rfl) rfl (z2 (by kernel_rfl)) (z3 (by kernel_rfl)) rfl rfl rfl (fun _=>q_not rfl) ?_
       refine WD.done (by kernel_rfl) ?_
       refine WX.a ?_
       refine WC.cond rfl (fun zjp=>?_) (fun zjp=>?_)
       ·replace h:=yl h zjp
        refine WC.a (WL.pu rfl (WL.pu rfl (WL.pu rfl (WL.nil (WX.yh ?_)))))
        exact WX.round (G:=Nat × Int × Int) ⟨zef,(i64 ((i64 ((u64 (i64 (z15 + z1b))) / 2 ^ min (1 : Int).toNat 64)) + 1)),z1b⟩ h (Nat.lt_succ_self _) (.cons rfl (.cons rfl (.cons rfl (.cons rfl (.cons rfl (.cons rfl (.cons rfl (.cons rfl (.cons rfl (.cons rfl .nil)))))))))) (.cons .here .nil)
       ·replace h:=ym h zjp
        refine WC.a (WL.pu rfl (WL.pu rfl (WL.nil (WX.yh ?_))))
        exact WX.round (G:=Nat × Int × Int) ⟨zef,z15,(i64 ((u64 (i64 (z15 + z1b))) / 2 ^ min (1 : Int).toNat 64))⟩ h (Nat.lt_succ_self _) (.cons rfl (.cons rfl (.cons rfl (.cons rfl (.cons rfl (.cons rfl (.cons rfl (.cons rfl (.cons rfl (.cons rfl .nil)))))))))) (.cons .here .nil)
      ·replace h:=ym h zjo
       refine WC.exit (WX.yd (WX.yd (WX.yy ?_)))
       exact WX.mid (G:=Int) z15 h (.cons rfl (.cons rfl (.cons rfl (.cons rfl (.cons rfl (.cons rfl (.cons rfl (.cons rfl .nil)))))))) (.cons .here .nil)
     ·rintro z1z h
      replace h:=(ztz z1z).symm.trans h
      refine WC.b (WC.a (WL.pu rfl (WL.pu rfl (WL.pu rfl (WL.pu rfl (WL.nil (WX.a ?_)))))))
      obtain ⟨zfO,ztB,h⟩:=yZ h
      refine WC.y1l (fun (z3Y : List Sapi_Come)=>(zfO z3Y = some r) ∧ (z3Y.length = z5.length)) (fun (z3Y : List Sapi_Come)=>[(0,(.slice zR z3Y.length zI)),(1,(.int .i64 zl)),(3,(.int .i64 zA)),(4,(.func (.func z1i) #[] (z1v).toArray)),(18,(.int .i64 (i64 ((u64 (i64 (zl + zA))) / 2 ^ min (1 : Int).toNat 64)))),(20,(.int .i64 z1z)),(24,(.int .i64 (i64 ((i64 ((i64 ((u64 (i64 (zl + zA))) / 2 ^ min (1 : Int).toNat 64)) + zx)) - z1z))))]) (fun (z3Y : List Sapi_Come)=>[row (.slice zR z3Y.length zI) 50 3 (z3Y.flatMap e50)]) ?_ ?_
      ·skip
       refine WC.b (WC.a (WL.pu rfl (WL.pu rfl (WL.pu rfl (WL.pu rfl ?_)))))
       refine WL.seg true 3 181 (B:=(decide (z1z < zx)) && (decide (zx < (i64 ((i64 ((i64 ((u64 (i64 (zl + zA))) / 2 ^ min (1 : Int).toNat 64)) + zx)) - z1z))))) rfl rfl rfl rfl rfl rfl (fun h=>(y2J h).symm) (fun _ ztC=>?_) ?_
       ·skip
        refine WL.pu rfl (WL.pu rfl (WL.pu rfl (WL.pu rfl ?_)))
        exact WL.yu (y2K ztC) rfl rfl .all
       refine WL.nil (WX.a ?_)
       refine WC.cond rfl (fun zjq=>?_) (fun zjq=>?_)
       ·replace h:=yl h zjq
        obtain ⟨zfP,ztD,h⟩:=zn h
        refine WC.a (WL.pu rfl (WL.pu rfl (WL.pu rfl (WL.pu rfl (WL.pu rfl ?_)))))
        refine WL.y1N (dd:=191) rfl rfl rfl (zF (l:=[.tmp 186,.tmp 187,.tmp 188,.tmp 189,.tmp 190]) Try.call68 (.cons rfl (.cons rfl (.cons rfl (.cons rfl (.cons rfl .nil)))))) (.cons .here .nil) (cc hz (.cons .here .nil) fun w pz ho=>y4x _ _ _ (z58:=z1i) (z6G:=z1v) _ _ _ _ (z3h:=zY) _ ztD w pz z6M z6N ho) ?_
        rintro  zo6
        refine WL.repin (i:=0) rfl (u:=(.slice zR zfP.length zI)) (y1M zo6.symm) ?_
        refine WL.nil ?_
        exact WX.mid (G:=List Sapi_Come) zfP ⟨h,(zo6.trans rfl)⟩ (.cons rfl (.cons rfl (.cons rfl (.cons rfl (.cons rfl (.cons rfl (.cons rfl .nil))))))) (.cons .here .nil)
       ·replace h:=ym h zjq
        refine WC.skip ?_
        exact WX.mid (G:=List Sapi_Come) z5 ⟨h,rfl⟩ (.cons rfl (.cons rfl (.cons rfl (.cons rfl (.cons rfl (.cons rfl (.cons rfl .nil))))))) (.cons .here .nil)
      ·rintro z3Y ⟨h,zo7⟩
       replace h:=(ztB z3Y).symm.trans h
       obtain ⟨zfN,ztE,h⟩:=yZ h
       refine WC.y1l (fun (z4c : List Sapi_Come)=>(zfN z4c = some r) ∧ (z4c.length = z5.length)) (fun (z4c : List Sapi_Come)=>[(0,(.slice zR z4c.length zI)),(3,(.int .i64 zA)),(4,(.func (.func z1i) #[] (z1v).toArray)),(18,(.int .i64 (i64 ((u64 (i64 (zl + zA))) / 2 ^ min (1 : Int).toNat 64)))),(24,(.int .i64 (i64 ((i64 ((i64 ((u64 (i64 (zl + zA))) / 2 ^ min (1 : Int).toNat 64)) + zx)) - z1z))))]) (fun (z4c : List Sapi_Come)=>[row (.slice zR z4c.length zI) 50 3 (z4c.flatMap e50)]) ?_ ?_
       ·skip
        refine WC.b (WC.a (WL.pu rfl (WL.pu rfl (WL.pu rfl (WL.pu rfl ?_)))))
        refine WL.seg true 3 195 (B:=(decide (zl < z1z)) && (decide (z1z < (i64 ((u64 (i64 (zl + zA))) / 2 ^ min (1 : Int).toNat 64))))) rfl rfl rfl rfl rfl rfl (fun h=>(y2J h).symm) (fun _ ztF=>?_) ?_
        ·skip
         refine WL.pu rfl (WL.pu rfl (WL.pu rfl (WL.pu rfl ?_)))
         exact WL.yu (y2K ztF) rfl rfl .all
        refine WL.nil (WX.a ?_)
        refine WC.cond rfl (fun zjr=>?_) (fun zjr=>?_)
        ·replace h:=yl h zjr
         obtain ⟨zeg,ztG,h⟩:=zn h
         refine WC.a (WL.pu rfl (WL.pu rfl (WL.pu rfl (WL.pu rfl (WL.pu rfl ?_)))))
         refine WL.y1N (dd:=205) rfl rfl rfl (zF (l:=[.tmp 200,.tmp 201,.tmp 202,.tmp 203,.tmp 204]) Try.call67 (.cons rfl (.cons rfl (.cons rfl (.cons rfl (.cons rfl .nil)))))) (.cons .here .nil) (cc hz (.cons .here .nil) fun w pz ho=>ih (Z:=_) (zR:=zR) (zI:=zI) (z1i:=z1i) (z1v:=z1v) (z5:=z3Y) (zl:=zl) (zx:=z1z) (zA:=(i64 ((u64 (i64 (zl + zA))) / 2 ^ min (1 : Int).toNat 64))) (zY:=zY) (r:=zeg) w pz z6M z6N ztG ho) ?_
         rintro  zo8
         refine WL.repin (i:=0) rfl (u:=(.slice zR zeg.length zI)) (y1M zo8.symm) ?_
         refine WL.nil ?_
         exact WX.mid (G:=List Sapi_Come) zeg ⟨h,(zo8.trans zo7)⟩ (.cons rfl (.cons rfl (.cons rfl (.cons rfl (.cons rfl .nil))))) (.cons .here .nil)
        ·replace h:=ym h zjr
         refine WC.skip ?_
         exact WX.mid (G:=List Sapi_Come) z3Y ⟨h,zo7⟩ (.cons rfl (.cons rfl (.cons rfl (.cons rfl (.cons rfl .nil))))) (.cons .here .nil)
       ·rintro z4c ⟨h,zo9⟩
        replace h:=(ztE z4c).symm.trans h
        refine WC.b (WC.a (WL.pu rfl (WL.pu rfl (WL.pu rfl (WL.pu rfl ?_)))))
        refine WL.seg true 3 209 (B:=(decide ((i64 ((u64 (i64 (zl + zA))) / 2 ^ min (1 : Int).toNat 64)) < (i64 ((i64 ((i64 ((u64 (i64 (zl + zA))) / 2 ^ min (1 : Int).toNat 64)) + zx)) - z1z)))) && (decide ((i64 ((i64 ((i64 ((u64 (i64 (zl + zA))) / 2 ^ min (1 : Int).toNat 64)) + zx)) - z1z)) < zA))) rfl rfl rfl rfl rfl rfl (fun h=>(y2J h).symm) (fun _ ztH=>?_) ?_
        ·skip
         refine WL.pu rfl (WL.pu rfl (WL.pu rfl (WL.pu rfl ?_)))
         exact WL.yu (y2K ztH) rfl rfl .all
        refine WL.nil (WX.a ?_)
        refine WC.cond rfl (fun zjs=>?_) (fun zjs=>?_)
        ·replace h:=yl h zjs
         obtain ⟨zfM,ztI,h⟩:=zn h
         refine WC.a (WL.pu rfl (WL.pu rfl (WL.pu rfl (WL.pu rfl (WL.pu rfl ?_)))))
         refine WL.y1N (dd:=219) rfl rfl rfl (zF (l:=[.tmp 214,.tmp 215,.tmp 216,.tmp 217,.tmp 218]) Try.call67 (.cons rfl (.cons rfl (.cons rfl (.cons rfl (.cons rfl .nil)))))) (.cons .here .nil) (cc hz (.cons .here .nil) fun w pz ho=>ih (Z:=_) (zR:=zR) (zI:=zI) (z1i:=z1i) (z1v:=z1v) (z5:=z4c) (zl:=(i64 ((u64 (i64 (zl + zA))) / 2 ^ min (1 : Int).toNat 64))) (zx:=(i64 ((i64 ((i64 ((u64 (i64 (zl + zA))) / 2 ^ min (1 : Int).toNat 64)) + zx)) - z1z))) (zA:=zA) (zY:=zY) (r:=zfM) w pz z6M z6N ztI ho) ?_
         rintro  zoa
         refine WL.repin (i:=0) rfl (u:=(.slice zR zfM.length zI)) (y1M zoa.symm) ?_
         refine WL.nil ?_
         obtain rfl:=Option.some.inj h
         refine WX.y1U Try.results67 .nil (fun w hw=>?_)
         exact ⟨y4n,(zoa.trans zo9),hw.sub (.cons .here .nil)⟩
        ·replace h:=ym h zjs
         refine WC.skip ?_
         obtain rfl:=Option.some.inj h
         refine WX.y1U Try.results67 .nil (fun w hw=>?_)
         exact ⟨y4n,zo9,hw.sub (.cons .here .nil)⟩
theorem y33 (Z : Zp) (zR : Option Addr) (zI : Nat) (z1i : FuncId) (z1v : List Value) (z5 : List Sapi_Come) (zl : Int) (zx : Int) (zA : Int) (zY : Sapi_Come → Sapi_Come → Option Int) (r : List Sapi_Come) (w₀ : World) (hz : PZ (fps [row (.slice zR z5.length zI) 50 3 (z5.flatMap e50)]) w₀ Z)
  (z6M : ∀ args w,(callFunc z1i args).run Try.prog w = .ok (.enter z1i args) w)
  (z6N : ∀ w : World,PZ [] w Z → ∀ (x0 : Sapi_Come) (x1 : Sapi_Come) (r : Int),zY x0 x1 = some r → Calls Try.prog z1i (([(.agg #[(.int .i64 x0.fSent),(.int .i64 x0.fNode),(.int .i64 x0.fTime)]),(.agg #[(.int .i64 x1.fSent),(.int .i64 x1.fNode),(.int .i64 x1.fTime)])] : List Value) ++ z1v).toArray w fun e w'=>e = .returned (.int .i64 r) ∧ Hp [] w w' []) (h : y1m z5 zl zx zA zY = some r)
  (hown : Hp (fps [row (.slice zR z5.length zI) 50 3 (z5.flatMap e50)]) w₀ w₀ [row (.slice zR z5.length zI) 50 3 (z5.flatMap e50)]) : Calls Try.prog 67 #[(.slice zR z5.length zI),(.int .i64 zl),(.int .i64 zx),(.int .i64 zA),(.func (.func z1i) #[] (z1v).toArray)] w₀ fun e w'=>e = .returned (.tuple #[]) ∧ (r.length = z5.length) ∧ Hp (fps [row (.slice zR z5.length zI) 50 3 (z5.flatMap e50)]) w₀ w' [row (.slice zR r.length zI) 50 3 (r.flatMap e50)]:=y45 yt Z zR zI z1i z1v z5 zl zx zA zY r w₀ hz z6M z6N h hown
def yQ (z17 : Int) (z1p : Sapi_Come → Sapi_Come → Option Int) (z5w : (List Sapi_Come) → Int → Option (List Sapi_Come)) : Nat → (List Sapi_Come) → Int → Int → Option (List Sapi_Come)
 | 0,_,_,_=>none
 | zjt + 1,z3J,z59,z3K=>if decide (z3K ≤ z17) then (yS z3J z59 z3K z1p).bind fun zfU=>yQ z17 z1p z5w zjt zfU z3K (i64 (z3K + 20)) else z5w z3J z59
theorem y3T {n : Nat} {z17 : Int} {z1p : Sapi_Come → Sapi_Come → Option Int} {z5w : (List Sapi_Come) → Int → Option (List Sapi_Come)} {z3J : List Sapi_Come} {z59 : Int} {z3K : Int} {r : List Sapi_Come} (h : yQ z17 z1p z5w n z3J z59 z3K = some r) : ∃ m,n = m + 1:=by
 cases n with
 | zero=>cases h
 | succ m=>exact ⟨m,rfl⟩
def y11 (z17 : Int) (z1n : Int) (z1p : Sapi_Come → Sapi_Come → Option Int) (z7P : (List Sapi_Come) → Int → Option (List Sapi_Come)) : Nat → (List Sapi_Come) → Int → Int → Option (List Sapi_Come)
 | 0,_,_,_=>none
 | zju + 1,z3x,z3L,z3y=>if decide (z3y ≤ z17) then (y1m z3x z3L (i64 (z3L + z1n)) z3y z1p).bind fun zeo=>y11 z17 z1n z1p z7P zju zeo z3y (i64 (z3y + (i64 (2 * z1n)))) else z7P z3x z3L
theorem y3U {n : Nat} {z17 : Int} {z1n : Int} {z1p : Sapi_Come → Sapi_Come → Option Int} {z7P : (List Sapi_Come) → Int → Option (List Sapi_Come)} {z3x : List Sapi_Come} {z3L : Int} {z3y : Int} {r : List Sapi_Come} (h : y11 z17 z1n z1p z7P n z3x z3L z3y = some r) : ∃ m,n = m + 1:=by
 cases n with
 | zero=>cases h
 | succ m=>exact ⟨m,rfl⟩
def yR (z17 : Int) (z1p : Sapi_Come → Sapi_Come → Option Int) (z5x : (List Sapi_Come) → Option (List Sapi_Come)) : Nat → (List Sapi_Come) → Int → Option (List Sapi_Come)
 | 0,_,_=>none
 | zjv + 1,z3z,z1n=>if decide (z1n < z17) then jp1 (fun (z5a : List Sapi_Come)=>yR z17 z1p z5x zjv z5a (i64 (z1n * 2))) fun zjw=>jp2 (fun (z3Z : List Sapi_Come) (z5b : Int)=>jp1 (fun (z5c : List Sapi_Come)=>zjw z5c) fun zfV=>if decide ((i64 (z5b + z1n)) < z17) then (y1m z3Z z5b (i64 (z5b + z1n)) z17 z1p).bind fun zep=>zfV zep else zfV z3Z) fun z7P=>y11 z17 z1n z1p z7P yt z3z 0 (i64 (2 * z1n)) else z5x z3z
theorem y3V {n : Nat} {z17 : Int} {z1p : Sapi_Come → Sapi_Come → Option Int} {z5x : (List Sapi_Come) → Option (List Sapi_Come)} {z3z : List Sapi_Come} {z1n : Int} {r : List Sapi_Come} (h : yR z17 z1p z5x n z3z z1n = some r) : ∃ m,n = m + 1:=by
 cases n with
 | zero=>cases h
 | succ m=>exact ⟨m,rfl⟩
def y1T (z1I : List Sapi_Come) (z17 : Int) (z1p : Sapi_Come → Sapi_Come → Option Int) : Option (List Sapi_Come) :=
 jp2 (fun (z4d : List Sapi_Come) (z6Q : Int)=>(yS z4d z6Q z17 z1p).bind fun zbH=>jp1 (fun (z5d : List Sapi_Come)=>some z5d) fun z5x=>yR z17 z1p z5x yt zbH 20) fun z5w=>yQ z17 z1p z5w yt z1I 0 20
set_option maxRecDepth 20000 in
theorem y4y (Z : Zp) (z1q : Option Addr) (z1r : Nat) (z2M : FuncId) (z3A : List Value) (z1I : List Sapi_Come) (z17 : Int) (z1p : Sapi_Come → Sapi_Come → Option Int) (r : List Sapi_Come)
  (h : y1T z1I z17 z1p = some r) (w₀ : World) (hz : PZ (fps [row (.slice z1q z1I.length z1r) 50 3 (z1I.flatMap e50)]) w₀ Z)
  (zfW : ∀ args w,(callFunc z2M args).run Try.prog w = .ok (.enter z2M args) w)
  (zfX : ∀ w : World,PZ [] w Z → ∀ (x0 : Sapi_Come) (x1 : Sapi_Come) (r : Int),z1p x0 x1 = some r → Calls Try.prog z2M (([(.agg #[(.int .i64 x0.fSent),(.int .i64 x0.fNode),(.int .i64 x0.fTime)]),(.agg #[(.int .i64 x1.fSent),(.int .i64 x1.fNode),(.int .i64 x1.fTime)])] : List Value) ++ z3A).toArray w fun e w'=>e = .returned (.int .i64 r) ∧ Hp [] w w' [])
  (hown : Hp (fps [row (.slice z1q z1I.length z1r) 50 3 (z1I.flatMap e50)]) w₀ w₀ [row (.slice z1q z1I.length z1r) 50 3 (z1I.flatMap e50)]) :
  Calls Try.prog 57 #[(.slice z1q z1I.length z1r),(.int .i64 z17),(.func (.func z2M) #[] (z3A).toArray)] w₀ fun e w'=>e = .returned (.tuple #[]) ∧ (r.length = z1I.length) ∧ Hp (fps [row (.slice z1q z1I.length z1r) 50 3 (z1I.flatMap e50)]) w₀ w' [row (.slice z1q r.length z1r) 50 3 (r.flatMap e50)]:=by
 unfold y1T at h
 refine Calls.yo (vs:=[(.slice z1q z1I.length z1r),(.int .i64 z17),(.func (.func z2M) #[] (z3A).toArray)]) (pre:=[row (.slice z1q z1I.length z1r) 50 3 (z1I.flatMap e50)]) (env:=[(0,(.slice z1q z1I.length z1r)),(1,(.int .i64 z17)),(2,(.func (.func z2M) #[] (z3A).toArray))]) Try.func57 rfl Try.ntmps57 rfl (hown) rfl ?_
 refine WC.b (WC.a (WL.pu rfl (WL.nil (WX.a (WC.b (WC.a (WL.pu rfl (WL.pu rfl (WL.pu rfl (WL.nil (WX.a ?_)))))))))))
 obtain ⟨z5w,ztJ,h⟩:=y3c h
 refine WC.y2v (fun (z4d : List Sapi_Come) (z6Q : Int)=>(z5w z4d z6Q = some r) ∧ (z4d.length = z1I.length)) (fun (z4d : List Sapi_Come) (z6Q : Int)=>[(0,(.slice z1q z4d.length z1r)),(1,(.int .i64 z17)),(2,(.func (.func z2M) #[] (z3A).toArray)),(6,(.int .i64 20)),(7,(.int .i64 z6Q))]) (fun (z4d : List Sapi_Come) (z6Q : Int)=>[row (.slice z1q z4d.length z1r) 50 3 (z4d.flatMap e50)]) ?_ ?_
 ·skip
  refine WC.block ?_
  refine WC.y5j (fun (zbI : Nat) (z3J : List Sapi_Come) (z59 : Int) (z3K : Int)=>(yQ z17 z1p z5w zbI z3J z59 z3K = some r) ∧ (z3J.length = z1I.length)) (fun (zbI : Nat) (z3J : List Sapi_Come) (z59 : Int) (z3K : Int)=>[(0,(.slice z1q z3J.length z1r)),(1,(.int .i64 z17)),(2,(.func (.func z2M) #[] (z3A).toArray)),(6,(.int .i64 20)),(7,(.int .i64 z59)),(8,(.int .i64 z3K))]) (fun (zbI : Nat) (z3J : List Sapi_Come) (z59 : Int) (z3K : Int)=>[row (.slice z1q z3J.length z1r) 50 3 (z3J.flatMap e50)]) (fun (zbI : Nat) (z3J : List Sapi_Come) (z59 : Int) (z3K : Int)=>zbI) ⟨yt,z1I,0,20⟩ ⟨h,rfl⟩ (.cons rfl (.cons rfl (.cons rfl (.cons rfl (.cons rfl (.cons rfl .nil)))))) (.cons .here .nil) ?_
  rintro zbI z3J z59 z3K ⟨h,zob⟩
  obtain ⟨zjt,rfl⟩:=y3T h
  rw [yQ] at h
  refine WC.b (WC.b (WC.a (WL.pu rfl (WL.pu rfl (WL.pu rfl (WL.nil (WX.a ?_)))))))
  refine WC.cond rfl (fun zjx=>?_) (fun zjx=>?_)
  ·replace h:=yl h zjx
   refine WC.skip (WX.a (WC.block (WC.b ?_)))
   obtain ⟨zfU,ztK,h⟩:=zn h
   refine WC.a (WL.pu rfl (WL.pu rfl (WL.pu rfl (WL.pu rfl ?_))))
   refine WL.y1N (dd:=18) rfl rfl rfl (zF (l:=[.tmp 14,.tmp 15,.tmp 16,.tmp 17]) Try.call66 (.cons rfl (.cons rfl (.cons rfl (.cons rfl .nil))))) (.cons .here .nil) (cc hz (.cons .here .nil) fun w pz ho=>y2B _ _ _ (z3X:=z2M) (z56:=z3A) _ _ _ (z2K:=z1p) _ ztK w pz zfW zfX ho) ?_
   rintro  zoc
   refine WL.repin (i:=0) rfl (u:=(.slice z1q zfU.length z1r)) (y1M zoc.symm) ?_
   refine WL.nil (WX.a (WC.b (WC.a (WL.pu rfl (WL.pu rfl (WL.nil (WX.a (WC.a (WL.pu rfl (WL.pu rfl (WL.pu rfl (WL.pu rfl (WL.nil (WX.yh ?_))))))))))))))
   exact WX.round (G:=Nat × List Sapi_Come × Int × Int) ⟨zjt,zfU,z3K,(i64 (z3K + 20))⟩ ⟨h,(zoc.trans zob)⟩ (Nat.lt_succ_self _) (.cons rfl (.cons rfl (.cons rfl (.cons rfl (.cons rfl (.cons rfl .nil)))))) (.cons .here .nil)
  ·replace h:=ym h zjx
   refine WC.exit (WX.yd (WX.yd (WX.yy ?_)))
   exact WX.mid (G:=List Sapi_Come × Int) ⟨z3J,z59⟩ ⟨h,zob⟩ (.cons rfl (.cons rfl (.cons rfl (.cons rfl (.cons rfl .nil))))) (.cons .here .nil)
 ·rintro z4d z6Q ⟨h,ztL⟩
  replace h:=(ztJ z4d z6Q).symm.trans h
  refine WC.b ?_
  obtain ⟨zbH,ztM,h⟩:=zn h
  refine WC.a (WL.pu rfl (WL.pu rfl (WL.pu rfl (WL.pu rfl ?_))))
  refine WL.y1N (dd:=27) rfl rfl rfl (zF (l:=[.tmp 23,.tmp 24,.tmp 25,.tmp 26]) Try.call66 (.cons rfl (.cons rfl (.cons rfl (.cons rfl .nil))))) (.cons .here .nil) (cc hz (.cons .here .nil) fun w pz ho=>y2B _ _ _ (z3X:=z2M) (z56:=z3A) _ _ _ (z2K:=z1p) _ ztM w pz zfW zfX ho) ?_
  rintro  zod
  refine WL.repin (i:=0) rfl (u:=(.slice z1q zbH.length z1r)) (y1M zod.symm) ?_
  refine WL.nil (WX.a ?_)
  obtain ⟨z5x,ztN,h⟩:=yZ h
  refine WC.y4K (fun (z5d : List Sapi_Come)=>(z5x z5d = some r) ∧ (z5d.length = z1I.length)) (fun (z5d : List Sapi_Come)=>[]) (fun (z5d : List Sapi_Come)=>[row (.slice z1q z5d.length z1r) 50 3 (z5d.flatMap e50)]) ?_ ?_
  ·skip
   refine WC.block ?_
   refine WC.y26 (fun (zbJ : Nat) (z3z : List Sapi_Come) (z1n : Int)=>(yR z17 z1p z5x zbJ z3z z1n = some r) ∧ (z3z.length = z1I.length)) (fun (zbJ : Nat) (z3z : List Sapi_Come) (z1n : Int)=>[(0,(.slice z1q z3z.length z1r)),(1,(.int .i64 z17)),(2,(.func (.func z2M) #[] (z3A).toArray)),(6,(.int .i64 z1n))]) (fun (zbJ : Nat) (z3z : List Sapi_Come) (z1n : Int)=>[row (.slice z1q z3z.length z1r) 50 3 (z3z.flatMap e50)]) (fun (zbJ : Nat) (z3z : List Sapi_Come) (z1n : Int)=>zbJ) ⟨yt,zbH,20⟩ ⟨h,(zod.trans ztL)⟩ (.cons rfl (.cons rfl (.cons rfl (.cons rfl .nil)))) (.cons .here .nil) ?_
   rintro zbJ z3z z1n ⟨h,zoe⟩
   obtain ⟨zjv,rfl⟩:=y3V h
   rw [yR] at h
   refine WC.b (WC.b (WC.a (WL.pu rfl (WL.pu rfl (WL.pu rfl (WL.nil (WX.a ?_)))))))
   refine WC.cond rfl (fun zjy=>?_) (fun zjy=>?_)
   ·replace h:=yl h zjy
    refine WC.skip (WX.a ?_)
    obtain ⟨zjw,ztO,h⟩:=yZ h
    refine WC.y4K (fun (z5a : List Sapi_Come)=>(zjw z5a = some r) ∧ (z5a.length = z1I.length)) (fun (z5a : List Sapi_Come)=>[(0,(.slice z1q z5a.length z1r)),(1,(.int .i64 z17)),(2,(.func (.func z2M) #[] (z3A).toArray)),(6,(.int .i64 (i64 (z1n * 2))))]) (fun (z5a : List Sapi_Come)=>[row (.slice z1q z5a.length z1r) 50 3 (z5a.flatMap e50)]) ?_ ?_
    ·skip
     refine WC.block (WC.b (WC.a (WL.pu rfl (WL.pu rfl (WL.pu rfl (WL.pu rfl (WL.nil (WX.a ?_))))))))
     obtain ⟨z7P,ztP,h⟩:=y3c h
     refine WC.y2v (fun (z3Z : List Sapi_Come) (z5b : Int)=>(z7P z3Z z5b = some r) ∧ (z3Z.length = z1I.length)) (fun (z3Z : List Sapi_Come) (z5b : Int)=>[(0,(.slice z1q z3Z.length z1r)),(1,(.int .i64 z17)),(2,(.func (.func z2M) #[] (z3A).toArray)),(6,(.int .i64 z1n)),(7,(.int .i64 z5b))]) (fun (z3Z : List Sapi_Come) (z5b : Int)=>[row (.slice z1q z3Z.length z1r) 50 3 (z3Z.flatMap e50)]) ?_ ?_
     ·skip
      refine WC.block ?_
      refine WC.y5j (fun (zbK : Nat) (z3x : List Sapi_Come) (z3L : Int) (z3y : Int)=>(y11 z17 z1n z1p z7P zbK z3x z3L z3y = some r) ∧ (z3x.length = z1I.length)) (fun (zbK : Nat) (z3x : List Sapi_Come) (z3L : Int) (z3y : Int)=>[(0,(.slice z1q z3x.length z1r)),(1,(.int .i64 z17)),(2,(.func (.func z2M) #[] (z3A).toArray)),(6,(.int .i64 z1n)),(7,(.int .i64 z3L)),(8,(.int .i64 z3y))]) (fun (zbK : Nat) (z3x : List Sapi_Come) (z3L : Int) (z3y : Int)=>[row (.slice z1q z3x.length z1r) 50 3 (z3x.flatMap e50)]) (fun (zbK : Nat) (z3x : List Sapi_Come) (z3L : Int) (z3y : Int)=>zbK) ⟨yt,z3z,0,(i64 (2 * z1n))⟩ ⟨h,zoe⟩ (.cons rfl (.cons rfl (.cons rfl (.cons rfl (.cons rfl (.cons rfl .nil)))))) (.cons .here .nil) ?_
      rintro zbK z3x z3L z3y ⟨h,zof⟩
      obtain ⟨zju,rfl⟩:=y3U h
      rw [y11] at h
      refine WC.b (WC.b (WC.a (WL.pu rfl (WL.pu rfl (WL.pu rfl (WL.nil (WX.a ?_)))))))
      refine WC.cond rfl (fun zjz=>?_) (fun zjz=>?_)
      ·replace h:=yl h zjz
       refine WC.skip (WX.a (WC.block (WC.b ?_)))
       obtain ⟨zeo,ztQ,h⟩:=zn h
       refine WC.a (WL.pu rfl (WL.pu rfl (WL.pu rfl (WL.pu rfl (WL.pu rfl (WL.pu rfl (WL.pu rfl ?_)))))))
       refine WL.y1N (dd:=43) rfl rfl rfl (zF (l:=[.tmp 36,.tmp 37,.tmp 40,.tmp 41,.tmp 42]) Try.call67 (.cons rfl (.cons rfl (.cons rfl (.cons rfl (.cons rfl .nil)))))) (.cons .here .nil) (cc hz (.cons .here .nil) fun w pz ho=>y33 (Z:=_) (zR:=z1q) (zI:=z1r) (z1i:=z2M) (z1v:=z3A) (z5:=z3x) (zl:=z3L) (zx:=(i64 (z3L + z1n))) (zA:=z3y) (zY:=z1p) (r:=zeo) w pz zfW zfX ztQ ho) ?_
       rintro  zog
       refine WL.repin (i:=0) rfl (u:=(.slice z1q zeo.length z1r)) (y1M zog.symm) ?_
       refine WL.nil (WX.a (WC.b (WC.a (WL.pu rfl (WL.pu rfl (WL.nil (WX.a (WC.a (WL.pu rfl (WL.pu rfl (WL.pu rfl (WL.pu rfl (WL.pu rfl (WL.nil (WX.yh ?_)))))))))))))))
       exact WX.round (G:=Nat × List Sapi_Come × Int × Int) ⟨zju,zeo,z3y,(i64 (z3y + (i64 (2 * z1n))))⟩ ⟨h,(zog.trans zof)⟩ (Nat.lt_succ_self _) (.cons rfl (.cons rfl (.cons rfl (.cons rfl (.cons rfl (.cons rfl .nil)))))) (.cons .here .nil)
      ·replace h:=ym h zjz
       refine WC.exit (WX.yd (WX.yd (WX.yy ?_)))
       exact WX.mid (G:=List Sapi_Come × Int) ⟨z3x,z3L⟩ ⟨h,zof⟩ (.cons rfl (.cons rfl (.cons rfl (.cons rfl (.cons rfl .nil))))) (.cons .here .nil)
     ·rintro z3Z z5b ⟨h,zoh⟩
      replace h:=(ztP z3Z z5b).symm.trans h
      obtain ⟨zfV,ztR,h⟩:=yZ h
      refine WC.y1l (fun (z5c : List Sapi_Come)=>(zfV z5c = some r) ∧ (z5c.length = z1I.length)) (fun (z5c : List Sapi_Come)=>[(0,(.slice z1q z5c.length z1r)),(1,(.int .i64 z17)),(2,(.func (.func z2M) #[] (z3A).toArray)),(6,(.int .i64 z1n))]) (fun (z5c : List Sapi_Come)=>[row (.slice z1q z5c.length z1r) 50 3 (z5c.flatMap e50)]) ?_ ?_
      ·skip
       refine WC.b (WC.a (WL.pu rfl (WL.pu rfl (WL.pu rfl (WL.pu rfl (WL.nil (WX.a (WC.b (WC.a (WL.pu rfl (WL.pu rfl (WL.pu rfl (WL.nil (WX.a ?_))))))))))))))
       refine WC.cond rfl (fun zjA=>?_) (fun zjA=>?_)
       ·replace h:=yl h zjA
        obtain ⟨zep,ztS,h⟩:=zn h
        refine WC.a (WL.pu rfl (WL.pu rfl (WL.pu rfl (WL.pu rfl (WL.pu rfl ?_)))))
        refine WL.y1N (dd:=60) rfl rfl rfl (zF (l:=[.tmp 55,.tmp 56,.tmp 57,.tmp 58,.tmp 59]) Try.call67 (.cons rfl (.cons rfl (.cons rfl (.cons rfl (.cons rfl .nil)))))) (.cons .here .nil) (cc hz (.cons .here .nil) fun w pz ho=>y33 (Z:=_) (zR:=z1q) (zI:=z1r) (z1i:=z2M) (z1v:=z3A) (z5:=z3Z) (zl:=z5b) (zx:=(i64 (z5b + z1n))) (zA:=z17) (zY:=z1p) (r:=zep) w pz zfW zfX ztS ho) ?_
        rintro  zoi
        refine WL.repin (i:=0) rfl (u:=(.slice z1q zep.length z1r)) (y1M zoi.symm) ?_
        refine WL.nil ?_
        exact WX.mid (G:=List Sapi_Come) zep ⟨h,(zoi.trans zoh)⟩ (.cons rfl (.cons rfl (.cons rfl (.cons rfl .nil)))) (.cons .here .nil)
       ·replace h:=ym h zjA
        refine WC.skip ?_
        exact WX.mid (G:=List Sapi_Come) z3Z ⟨h,zoh⟩ (.cons rfl (.cons rfl (.cons rfl (.cons rfl .nil)))) (.cons .here .nil)
      ·rintro z5c ⟨h,ztT⟩
       replace h:=(ztR z5c).symm.trans h
       refine WC.a (WL.pu rfl (WL.pu rfl (WL.pu rfl (WL.nil (WX.yh ?_)))))
       exact WX.mid (G:=List Sapi_Come) z5c ⟨h,ztT⟩ (.cons rfl (.cons rfl (.cons rfl (.cons rfl .nil)))) (.cons .here .nil)
    ·rintro z5a ⟨h,ztU⟩
     replace h:=(ztO z5a).symm.trans h
     exact WX.round (G:=Nat × List Sapi_Come × Int) ⟨zjv,z5a,(i64 (z1n * 2))⟩ ⟨h,ztU⟩ (Nat.lt_succ_self _) (.cons rfl (.cons rfl (.cons rfl (.cons rfl .nil)))) (.cons .here .nil)
   ·replace h:=ym h zjy
    refine WC.exit (WX.yd (WX.yd (WX.yy ?_)))
    exact WX.mid (G:=List Sapi_Come) z3z ⟨h,zoe⟩ .nil (.cons .here .nil)
  ·rintro z5d ⟨h,ztV⟩
   replace h:=(ztN z5d).symm.trans h
   obtain rfl:=Option.some.inj h
   refine WX.y1U Try.results57 .nil (fun w hw=>?_)
   exact ⟨y4n,ztV,hw.sub (.cons .here .nil)⟩
def y16 (z2N : List Sapi_Come) (zbL : Sapi_Come → Sapi_Come → Option Int) : Option (List Sapi_Come) :=
 (y1T z2N ((z2N.length : Nat) : Int) zbL).bind fun zfY=>some zfY
set_option maxRecDepth 20000 in
theorem y3K (Z : Zp) (z5y : Option Addr) (z5z : Nat) (z8z : FuncId) (zbM : List Value) (z2N : List Sapi_Come) (zbL : Sapi_Come → Sapi_Come → Option Int) (r : List Sapi_Come)
  (h : y16 z2N zbL = some r) (w₀ : World) (hz : PZ (fps [row (.slice z5y z2N.length z5z) 50 3 (z2N.flatMap e50)]) w₀ Z)
  (ztW : ∀ args w,(callFunc z8z args).run Try.prog w = .ok (.enter z8z args) w)
  (ztX : ∀ w : World,PZ [] w Z → ∀ (x0 : Sapi_Come) (x1 : Sapi_Come) (r : Int),zbL x0 x1 = some r → Calls Try.prog z8z (([(.agg #[(.int .i64 x0.fSent),(.int .i64 x0.fNode),(.int .i64 x0.fTime)]),(.agg #[(.int .i64 x1.fSent),(.int .i64 x1.fNode),(.int .i64 x1.fTime)])] : List Value) ++ zbM).toArray w fun e w'=>e = .returned (.int .i64 r) ∧ Hp [] w w' [])
  (hown : Hp (fps [row (.slice z5y z2N.length z5z) 50 3 (z2N.flatMap e50)]) w₀ w₀ [row (.slice z5y z2N.length z5z) 50 3 (z2N.flatMap e50)]) :
  Calls Try.prog 42 #[(.slice z5y z2N.length z5z),(.func (.func z8z) #[] (zbM).toArray)] w₀ fun e w'=>e = .returned (.tuple #[]) ∧ (r.length = z2N.length) ∧ Hp (fps [row (.slice z5y z2N.length z5z) 50 3 (z2N.flatMap e50)]) w₀ w' [row (.slice z5y r.length z5z) 50 3 (r.flatMap e50)]:=by
 unfold y16 at h
 refine Calls.yo (vs:=[(.slice z5y z2N.length z5z),(.func (.func z8z) #[] (zbM).toArray)]) (pre:=[row (.slice z5y z2N.length z5z) 50 3 (z2N.flatMap e50)]) (env:=[(0,(.slice z5y z2N.length z5z)),(1,(.func (.func z8z) #[] (zbM).toArray))]) Try.func42 rfl Try.ntmps42 rfl (hown) rfl ?_
 obtain ⟨zfY,ztY,h⟩:=zn h
 refine WC.a (WL.pu rfl (WL.pu rfl ?_))
 refine WL.a (d:=6) rfl rfl rfl (yW Try.underlying36 rfl) ?_
 refine WL.pu rfl ?_
 refine WL.y1N (dd:=8) rfl rfl rfl (zF (l:=[.tmp 4,.tmp 6,.tmp 7]) Try.call57 (.cons rfl (.cons rfl (.cons rfl .nil)))) (.cons .here .nil) (cc hz (.cons .here .nil) fun w pz ho=>y4y _ _ _ (z2M:=z8z) (z3A:=zbM) _ _ (z1p:=zbL) _ ztY w pz ztW ztX ho) ?_
 rintro  zjB
 refine WL.repin (i:=0) rfl (u:=(.slice z5y zfY.length z5z)) (y1M zjB.symm) ?_
 refine WL.repin (i:=5) rfl (u:=(.slice z5y zfY.length z5z)) (y1M zjB.symm) ?_
 refine WL.nil ?_
 obtain rfl:=Option.some.inj h
 refine WX.y1U Try.results42 .nil (fun w hw=>?_)
 exact ⟨y4n,(zjB.trans rfl),hw.sub (.cons .here .nil)⟩
def y1e (z3i : List Sapi_Come) : Option (List Sapi_Come) :=
 (y16 z3i (fun (y0 : Sapi_Come) (y1 : Sapi_Come)=>y2r y0 y1)).bind fun zjC=>some zjC
set_option maxRecDepth 20000 in
theorem y5r (Z : Zp) (z5A : Option Addr) (z5B : Nat) (z3i : List Sapi_Come) (r : List Sapi_Come)
  (h : y1e z3i = some r) (w₀ : World) (hz : PZ (fps [row (.slice z5A z3i.length z5B) 50 3 (z3i.flatMap e50)]) w₀ Z)
  (hown : Hp (fps [row (.slice z5A z3i.length z5B) 50 3 (z3i.flatMap e50)]) w₀ w₀ [row (.slice z5A z3i.length z5B) 50 3 (z3i.flatMap e50)]) :
  Calls Try.prog 27 #[(.slice z5A z3i.length z5B)] w₀ fun e w'=>e = .returned (.slice z5A r.length z5B) ∧ (r.length = z3i.length) ∧ Hp (fps [row (.slice z5A z3i.length z5B) 50 3 (z3i.flatMap e50)]) w₀ w' [row (.slice z5A r.length z5B) 50 3 (r.flatMap e50)]:=by
 unfold y1e at h
 refine Calls.yo (vs:=[(.slice z5A z3i.length z5B)]) (pre:=[row (.slice z5A z3i.length z5B) 50 3 (z3i.flatMap e50)]) (env:=[(0,(.slice z5A z3i.length z5B))]) Try.func27 rfl Try.ntmps27 rfl (hown) rfl ?_
 refine WC.b (WC.a (WL.pu rfl (WL.nil (WX.a (WC.b ?_)))))
 obtain ⟨zjC,ztZ,h⟩:=zn h
 refine WC.a (WL.pu rfl ?_)
 refine WL.y1N (dd:=4) rfl rfl rfl (zF (l:=[.tmp 3,.func 43]) Try.call42 (.cons rfl (.cons rfl .nil))) (.cons .here .nil) (cc hz (.cons .here .nil) fun w pz ho=>y3K _ _ _ (z8z:=43) (zbM:=[]) _ (zbL:=(fun (y0 : Sapi_Come) (y1 : Sapi_Come)=>y2r y0 y1)) _ ztZ w pz Try.call43 (fun w' hz' y0 y1  r  hr=>y6T _ _ _ _ hr w' hz' ) ho) ?_
 rintro  zoj
 refine WL.repin (i:=0) rfl (u:=(.slice z5A zjC.length z5B)) (y1M zoj.symm) ?_
 refine WL.nil (WX.a (WC.b (WC.a (WL.pu rfl (WL.pu rfl (WL.nil (WX.a (WC.ret ?_))))))))
 obtain rfl:=Option.some.inj h
 refine WX.yi Try.results27 (.tmp rfl .nil) (fun w hw=>?_)
 exact ⟨y12 rfl,(zoj.trans rfl),hw.sub (.cons .here .nil)⟩
def y2n (z12 : List zSt) (z1h : List (List Sapi_Hop)) (zd : Sapi_Config) (z7Q : (List Snetwork_event) → Option (List Sapi_Come × List Sapi_Come × Int)) : Nat → Int → (List Snetwork_event) → Option (List Sapi_Come × List Sapi_Come × Int)
 | 0,_,_=>none
 | zjD + 1,z23,z3B=>if decide (z23 < ((z12.length : Nat) : Int)) then jp1 (fun (z5C : List Snetwork_event)=>y2n z12 z1h zd z7Q zjD (i64 (z23 + 1)) z5C) fun zfZ=>chk ((0 : Int) ≤ z23 ∧ z23 < ((z12.length : Nat) : Int)) (chk ((0 : Int) ≤ ((nth z12 z23).fVL) ∧ ((nth z12 z23).fVL) < ((z1h.length : Nat) : Int)) (if decide ((((nth z1h ((nth z12 z23).fVL)).length : Nat) : Int) > 0) then chk ((0 : Int) ≤ 0 ∧ 0 < (((nth z1h ((nth z12 z23).fVL)).length : Nat) : Int)) ((y2l zd z1h z12 ([] : List (Snetwork_exit × Sport_Port)) z3B [] [] ((nth (nth z1h ((nth z12 z23).fVL)) 0).fNode) ((nth z12 z23).fTime) (-1) z23).bind fun zjE=>zfZ zjE) else zfZ z3B)) else z7Q z3B
theorem y66 {n : Nat} {z12 : List zSt} {z1h : List (List Sapi_Hop)} {zd : Sapi_Config} {z7Q : (List Snetwork_event) → Option (List Sapi_Come × List Sapi_Come × Int)} {z23 : Int} {z3B : List Snetwork_event} {r : List Sapi_Come × List Sapi_Come × Int} (h : y2n z12 z1h zd z7Q n z23 z3B = some r) : ∃ m,n = m + 1:=by
 cases n with
 | zero=>cases h
 | succ m=>exact ⟨m,rfl⟩
def y2o (zd : Sapi_Config) (z1h : List (List Sapi_Hop)) (z12 : List zSt) (z7R : (List Snetwork_event) → (List Sapi_Come) → (List Sapi_Come) → (List (Snetwork_exit × Sport_Port)) → Option (List Sapi_Come × List Sapi_Come × Int)) : Nat → (List Snetwork_event) → (List Sapi_Come) → (List Sapi_Come) → (List (Snetwork_exit × Sport_Port)) → Option (List Sapi_Come × List Sapi_Come × Int)
 | 0,_,_,_,_=>none
 | zjF + 1,z3M,z40,z41,z5e=>if decide (((z3M.length : Nat) : Int) > 0) then (y2N zd z1h z12 z5e z3M z40 z41).bind fun z7S=>y2o zd z1h z12 z7R zjF z7S.1 z7S.2.1 z7S.2.2.1 z7S.2.2.2 else z7R z3M z40 z41 z5e
theorem y67 {n : Nat} {zd : Sapi_Config} {z1h : List (List Sapi_Hop)} {z12 : List zSt} {z7R : (List Snetwork_event) → (List Sapi_Come) → (List Sapi_Come) → (List (Snetwork_exit × Sport_Port)) → Option (List Sapi_Come × List Sapi_Come × Int)} {z3M : List Snetwork_event} {z40 : List Sapi_Come} {z41 : List Sapi_Come} {z5e : List (Snetwork_exit × Sport_Port)} {r : List Sapi_Come × List Sapi_Come × Int} (h : y2o zd z1h z12 z7R n z3M z40 z41 z5e = some r) : ∃ m,n = m + 1:=by
 cases n with
 | zero=>cases h
 | succ m=>exact ⟨m,rfl⟩
def y2U (zd : Sapi_Config) (zbN : Int) (z1h : List (List Sapi_Hop)) (z12 : List zSt) : Option (List Sapi_Come × List Sapi_Come × Int) :=
 (y2P zd zbN z1h).bind fun zol=>if !zol then some (([] : List Sapi_Come),([] : List Sapi_Come),310) else (y3e zd z12).bind fun zom=>if !zom then some (([] : List Sapi_Come),([] : List Sapi_Come),311) else jp1 (fun (z5D : List Snetwork_event)=>jp4 (fun (z7T : List Snetwork_event) (z6R : List Sapi_Come) (z5E : List Sapi_Come) (z9Q : List (Snetwork_exit × Sport_Port))=>(y1e z6R).bind fun zon=>(y1e z5E).bind fun zoo=>some (zon,zoo,0)) fun z7R=>y2o zd z1h z12 z7R yt z5D ([] : List Sapi_Come) ([] : List Sapi_Come) ([] : List (Snetwork_exit × Sport_Port))) fun z7Q=>y2n z12 z1h zd z7Q yt 0 ([] : List Snetwork_event)
set_option maxRecDepth 20000 in
theorem y6y (Z : Zp) (z4e : Option Addr) (z4f : Nat) (z4g : Option Addr) (z4h : Nat) (z4i : Option Addr) (z4j : Nat) (z4k : Option Addr) (z4l : Nat) (z4m : Option Addr) (z4n : Nat) (z4o : Option Addr) (z4p : Nat) (z4q : Option Addr) (z4r : Nat) (z4s : Option Addr) (z4t : Nat) (z4u : Option Addr) (z4v : Nat) (z4w : Option Addr) (z4x : Nat) (zd : Sapi_Config) (zbN : Int) (z1h : List (List Sapi_Hop)) (z12 : List zSt) (r : List Sapi_Come × List Sapi_Come × Int)
  (h : y2U zd zbN z1h z12 = some r) (w₀ : World) (hz : PZ [] w₀ Z)
  (zg0 : ZS Z 4 (y2w Z) z4e z4f zd.fModules)
  (zg1 : ZS Z 4 (y2S Z) z4g z4h zd.fChannels)
  (zg2 : ZS Z 4 (fun r x=>r = e64 x) z4i z4j zd.fSwitches)
  (zg3 : ZS Z 4 (fun r x=>r = e62 x) z4k z4l zd.fLinks)
  (zg4 : ZS Z 7 (y2F Z) z4m z4n zd.fVLs)
  (zg5 : ZS Z 5 (fun r x=>r = y2Y x) z4o z4p zd.fHealth)
  (zg6 : ZS Z 3 (y2T Z) z4q z4r zd.fCauses)
  (zg7 : ZS Z 4 (fun r x=>r = y2Z x) z4s z4t zd.fVersions)
  (zg8 : ZS Z 1 (p55 Z) z4u z4v z1h)
  (zg9 : ZS Z 3 (fun r x=>r = e53 x) z4w z4x z12) :
  Calls Try.prog 12 #[(.agg #[(.slice z4e zd.fModules.length z4f),(.slice z4g zd.fChannels.length z4h),(.slice z4i zd.fSwitches.length z4j),(.slice z4k zd.fLinks.length z4l),(.slice z4m zd.fVLs.length z4n),(.slice z4o zd.fHealth.length z4p),(.slice z4q zd.fCauses.length z4r),(.slice z4s zd.fVersions.length z4t)]),(.int .i64 zbN),(.slice z4u z1h.length z4v),(.slice z4w z12.length z4x)] w₀ fun e w'=>∃ zop : Option Addr,∃ zoq : Nat,∃ zor : Option Addr,∃ zos : Nat,e = .returned (.tuple #[(.slice zop r.1.length zoq),(.slice zor r.2.1.length zos),(.int .i64 r.2.2)]) ∧ True ∧ Hp [] w₀ w' [row (.slice zop r.1.length zoq) 50 3 (r.1.flatMap e50),row (.slice zor r.2.1.length zos) 50 3 (r.2.1.flatMap e50)]:=by
 unfold y2U at h
 refine Calls.yo (vs:=[(.agg #[(.slice z4e zd.fModules.length z4f),(.slice z4g zd.fChannels.length z4h),(.slice z4i zd.fSwitches.length z4j),(.slice z4k zd.fLinks.length z4l),(.slice z4m zd.fVLs.length z4n),(.slice z4o zd.fHealth.length z4p),(.slice z4q zd.fCauses.length z4r),(.slice z4s zd.fVersions.length z4t)]),(.int .i64 zbN),(.slice z4u z1h.length z4v),(.slice z4w z12.length z4x)]) (pre:=[]) (env:=[(0,(.agg #[(.slice z4e zd.fModules.length z4f),(.slice z4g zd.fChannels.length z4h),(.slice z4i zd.fSwitches.length z4j),(.slice z4k zd.fLinks.length z4l),(.slice z4m zd.fVLs.length z4n),(.slice z4o zd.fHealth.length z4p),(.slice z4q zd.fCauses.length z4r),(.slice z4s zd.fVersions.length z4t)])),(1,(.int .i64 zbN)),(2,(.slice z4u z1h.length z4v)),(3,(.slice z4w z12.length z4x))]) Try.func12 rfl Try.ntmps12 rfl (Hp.nil w₀ _) rfl ?_
 refine WC.b (WC.a ?_)
 refine WL.new (dd:=4) rfl rfl rfl (y2h (cs:=[(.slice z4e zd.fModules.length z4f),(.slice z4g zd.fChannels.length z4h),(.slice z4i zd.fSwitches.length z4j),(.slice z4k zd.fLinks.length z4l),(.slice z4m zd.fVLs.length z4n),(.slice z4o zd.fHealth.length z4p),(.slice z4q zd.fCauses.length z4r),(.slice z4s zd.fVersions.length z4t)]) rfl rfl) ?_
 intro zu0 _
 refine WL.pu rfl (WL.pu rfl (WL.pu rfl (WL.nil (WX.a (WC.b (WC.block (WC.b ?_)))))))
 obtain ⟨zol,zu1,h⟩:=zn h
 refine WC.a ?_
 refine WL.a (d:=16) rfl rfl rfl (yN y1L rfl (y1x .here) rfl) ?_
 refine WL.pu rfl (WL.pu rfl ?_)
 refine WL.b (dd:=19) rfl rfl rfl (zF (l:=[.tmp 16,.tmp 17,.tmp 18]) Try.call15 (.cons rfl (.cons rfl (.cons rfl .nil)))) .nil (cc hz .nil fun w pz ho=>y5E _ _ _ _ _ _ _ _ _ _ _ _ _ _ _ _ _ _ _ _ _ _ _ zu1 w pz zg0 zg1 zg2 zg3 zg4 zg5 zg6 zg7 zg8) ?_
 refine WL.pu rfl (WL.pu rfl (WL.nil (WX.a ?_)))
 refine WC.cond rfl (fun zjG=>?_) (fun zjG=>?_)
 ·replace h:=yl h zjG
  refine WC.b (WC.a (WL.pu rfl (WL.pu rfl (WL.pu rfl (WL.nil (WX.a (WC.ret (WX.yz (WX.yf ?_)))))))))
  refine WX.nilRow 50 3 ?_
  refine WX.nilRow 50 3 ?_
  obtain rfl:=Option.some.inj h
  refine WX.yi Try.results12 (.tmp rfl (.tmp rfl (.tmp rfl .nil))) (fun w hw=>?_)
  exact ⟨none,0,none,0,ret3 rfl rfl rfl,trivial,hw.sub (.cons .h1 (.cons .here .nil))⟩
 ·replace h:=ym h zjG
  refine WC.b ?_
  obtain ⟨zom,zu2,h⟩:=zn h
  refine WC.a ?_
  refine WL.a (d:=22) rfl rfl rfl (yN y1L rfl (y1x .here) rfl) ?_
  refine WL.pu rfl ?_
  refine WL.b (dd:=24) rfl rfl rfl (zF (l:=[.tmp 22,.tmp 23]) Try.call24 (.cons rfl (.cons rfl .nil))) .nil (cc hz .nil fun w pz ho=>y7k _ _ _ _ _ _ _ _ _ _ _ _ _ _ _ _ _ _ _ _ _ _ zu2 w pz zg0 zg1 zg2 zg3 zg4 zg5 zg6 zg7 zg9) ?_
  refine WL.pu rfl (WL.pu rfl (WL.nil (WX.a ?_)))
  refine WC.cond rfl (fun zjH=>?_) (fun zjH=>?_)
  ·replace h:=yl h zjH
   refine WC.b (WC.a (WL.pu rfl (WL.pu rfl (WL.pu rfl (WL.nil (WX.a (WC.ret (WX.yz (WX.yf ?_)))))))))
   refine WX.nilRow 50 3 ?_
   refine WX.nilRow 50 3 ?_
   obtain rfl:=Option.some.inj h
   refine WX.yi Try.results12 (.tmp rfl (.tmp rfl (.tmp rfl .nil))) (fun w hw=>?_)
   exact ⟨none,0,none,0,ret3 rfl rfl rfl,trivial,hw.sub (.cons .h1 (.cons .here .nil))⟩
  ·replace h:=ym h zjH
   refine WC.skip (WX.yh (WX.a (WC.b (WC.a ?_))))
   refine WL.a (d:=26) rfl rfl rfl (yN y1L rfl (y1x .here) rfl) ?_
   refine WL.pu rfl (WL.pu rfl ?_)
   refine WL.new (dd:=29) rfl rfl rfl (y5C (fun x=>Value.agg (y1S x).toArray) Value.pointer) ?_
   intro z4y _
   refine WL.ghL (M:=[y1r z19 ([] : List (Snetwork_exit × ((Nat × (Option Addr × Nat)) × Sport_Port))),yF z4y (fun x=>Value.agg (y1S x).toArray) Value.pointer (y1s ([] : List (Snetwork_exit × ((Nat × (Option Addr × Nat)) × Sport_Port)))),stb zu0 31 [(.slice z4e zd.fModules.length z4f),(.slice z4g zd.fChannels.length z4h),(.slice z4i zd.fSwitches.length z4j),(.slice z4k zd.fLinks.length z4l),(.slice z4m zd.fVLs.length z4n),(.slice z4o zd.fHealth.length z4p),(.slice z4q zd.fCauses.length z4r),(.slice z4s zd.fVersions.length z4t)]]) (fun _ h=>Hp.y9J z19 h) ?_
   refine WL.a (d:=30) rfl rfl rfl (y1j (v:=(.agg #[(.slice z4e zd.fModules.length z4f),(.slice z4g zd.fChannels.length z4h),(.slice z4i zd.fSwitches.length z4j),(.slice z4k zd.fLinks.length z4l),(.slice z4m zd.fVLs.length z4n),(.slice z4o zd.fHealth.length z4p),(.slice z4q zd.fCauses.length z4r),(.slice z4s zd.fVersions.length z4t),(.slice z4u z1h.length z4v),(.slice z4w z12.length z4x),(.map (some z4y)),(.slice none 0 0),(.slice none 0 0),(.slice none 0 0)])) (Eos.parts (l:=[.tmp 26,.tmp 27,.tmp 28,.tmp 29]) (.cons rfl (.cons rfl (.cons rfl (.cons rfl .nil)))) [0,1,2,3]) (fun _=>by kernel_rfl)) ?_
   refine WL.new (dd:=31) rfl rfl rfl (y2h (cs:=[(.slice z4e zd.fModules.length z4f),(.slice z4g zd.fChannels.length z4h),(.slice z4i zd.fSwitches.length z4j),(.slice z4k zd.fLinks.length z4l),(.slice z4m zd.fVLs.length z4n),(.slice z4o zd.fHealth.length z4p),(.slice z4q zd.fCauses.length z4r),(.slice z4s zd.fVersions.length z4t),(.slice z4u z1h.length z4v),(.slice z4w z12.length z4x),(.map (some z4y)),(.slice none 0 0),(.slice none 0 0),(.slice none 0 0)]) rfl rfl) ?_
   intro z5F _
   refine WL.pu rfl (WL.nil (WX.a ?_))
   obtain ⟨z7Q,zu3,h⟩:=yZ h
   refine WC.y4j (fun (z5D : List Snetwork_event) (zbO : Option Addr) (zbP : Nat)=>(z7Q z5D = some r)) (fun (z5D : List Snetwork_event) (zbO : Option Addr) (zbP : Nat)=>[(11,(.pointer (some ⟨z5F,0,none⟩)))]) (fun (z5D : List Snetwork_event) (zbO : Option Addr) (zbP : Nat)=>[stb z5F 81 [(.slice z4e zd.fModules.length z4f),(.slice z4g zd.fChannels.length z4h),(.slice z4i zd.fSwitches.length z4j),(.slice z4k zd.fLinks.length z4l),(.slice z4m zd.fVLs.length z4n),(.slice z4o zd.fHealth.length z4p),(.slice z4q zd.fCauses.length z4r),(.slice z4s zd.fVersions.length z4t),(.slice z4u z1h.length z4v),(.slice z4w z12.length z4x),(.map (some z4y)),(.slice zbO z5D.length zbP),(.slice none 0 0),(.slice none 0 0)],row (.slice zbO z5D.length zbP) 113 7 (z5D.flatMap yA),yF z4y (fun x=>Value.agg (y1S x).toArray) Value.pointer (y1s ([] : List (Snetwork_exit × ((Nat × (Option Addr × Nat)) × Sport_Port)))),y1r z19 ([] : List (Snetwork_exit × ((Nat × (Option Addr × Nat)) × Sport_Port)))]) ?_ ?_
   ·skip
    refine WC.b (WC.a (WL.pu rfl ?_))
    refine WL.a (d:=33) rfl rfl rfl (yW Try.underlying33 rfl) ?_
    refine WL.pu rfl (WL.nil (WX.a (WC.block ?_)))
    refine WC.nilRow 113 7 ?_
    refine WC.y6d (fun (zbQ : Nat) (z23 : Int) (z3B : List Snetwork_event) (z8A : Option Addr) (z8B : Nat)=>(y2n z12 z1h zd z7Q zbQ z23 z3B = some r)) (fun (zbQ : Nat) (z23 : Int) (z3B : List Snetwork_event) (z8A : Option Addr) (z8B : Nat)=>[(2,(.slice z4u z1h.length z4v)),(11,(.pointer (some ⟨z5F,0,none⟩))),(32,(.slice z4w z12.length z4x)),(33,(.int .i64 ((z12.length : Nat) : Int))),(34,(.int .i64 z23))]) (fun (zbQ : Nat) (z23 : Int) (z3B : List Snetwork_event) (z8A : Option Addr) (z8B : Nat)=>[stb z5F 81 [(.slice z4e zd.fModules.length z4f),(.slice z4g zd.fChannels.length z4h),(.slice z4i zd.fSwitches.length z4j),(.slice z4k zd.fLinks.length z4l),(.slice z4m zd.fVLs.length z4n),(.slice z4o zd.fHealth.length z4p),(.slice z4q zd.fCauses.length z4r),(.slice z4s zd.fVersions.length z4t),(.slice z4u z1h.length z4v),(.slice z4w z12.length z4x),(.map (some z4y)),(.slice z8A z3B.length z8B),(.slice none 0 0),(.slice none 0 0)],row (.slice z8A z3B.length z8B) 113 7 (z3B.flatMap yA),yF z4y (fun x=>Value.agg (y1S x).toArray) Value.pointer (y1s ([] : List (Snetwork_exit × ((Nat × (Option Addr × Nat)) × Sport_Port)))),y1r z19 ([] : List (Snetwork_exit × ((Nat × (Option Addr × Nat)) × Sport_Port)))]) (fun (zbQ : Nat) (z23 : Int) (z3B : List Snetwork_event) (z8A : Option Addr) (z8B : Nat)=>zbQ) ⟨yt,0,([] : List Snetwork_event),none,0⟩ h (.cons rfl (.cons rfl (.cons rfl (.cons rfl (.cons rfl .nil))))) (.cons .h1 (.cons .here (.cons .h1 (.cons .here .nil)))) ?_
    rintro zbQ z23 z3B z8A z8B h
    obtain ⟨zjD,rfl⟩:=y66 h
    rw [y2n] at h
    refine WC.b (WC.a (WL.pu rfl (WL.nil (WX.a (WC.b ?_)))))
    refine WC.cond rfl (fun zjI=>?_) (fun zjI=>?_)
    ·replace h:=yl h zjI
     refine WC.skip (WX.a ?_)
     obtain ⟨zfZ,zu4,h⟩:=yZ h
     refine WC.y4j (fun (z5C : List Snetwork_event) (zbR : Option Addr) (zbS : Nat)=>(zfZ z5C = some r)) (fun (z5C : List Snetwork_event) (zbR : Option Addr) (zbS : Nat)=>[(2,(.slice z4u z1h.length z4v)),(11,(.pointer (some ⟨z5F,0,none⟩))),(32,(.slice z4w z12.length z4x)),(33,(.int .i64 ((z12.length : Nat) : Int))),(34,(.int .i64 z23))]) (fun (z5C : List Snetwork_event) (zbR : Option Addr) (zbS : Nat)=>[stb z5F 81 [(.slice z4e zd.fModules.length z4f),(.slice z4g zd.fChannels.length z4h),(.slice z4i zd.fSwitches.length z4j),(.slice z4k zd.fLinks.length z4l),(.slice z4m zd.fVLs.length z4n),(.slice z4o zd.fHealth.length z4p),(.slice z4q zd.fCauses.length z4r),(.slice z4s zd.fVersions.length z4t),(.slice z4u z1h.length z4v),(.slice z4w z12.length z4x),(.map (some z4y)),(.slice zbR z5C.length zbS),(.slice none 0 0),(.slice none 0 0)],row (.slice zbR z5C.length zbS) 113 7 (z5C.flatMap yA),yF z4y (fun x=>Value.agg (y1S x).toArray) Value.pointer (y1s ([] : List (Snetwork_exit × ((Nat × (Option Addr × Nat)) × Sport_Port)))),y1r z19 ([] : List (Snetwork_exit × ((Nat × (Option Addr × Nat)) × Sport_Port)))]) ?_ ?_
     ·skip
      refine WC.block (WC.b ?_)
      obtain ⟨zu5,h⟩:=yj h
      refine WC.a (WL.pu rfl ?_)
      refine WL.znth (dd:=37) rfl rfl (Z:=Z) (Pr:=(fun r x=>r = e53 x)) y4p rfl rfl zg9 zu5 ?_
      rintro zyz zyA zu6 zyB rfl
      refine WL.a (d:=38) rfl rfl rfl (yN y73 rfl (y3u hz.pv zu6) rfl) ?_
      refine WL.new (dd:=13) rfl rfl rfl (y2d (cs:=[(.int .i64 0),(.int .i64 0),(.int .i64 0)]) y6j rfl) ?_
      intro zyC _
      refine WL.pu rfl ?_
      refine WL.y1u rfl rfl (y1K y74 rfl rfl rfl .here rfl rfl rfl) ?_
      refine WL.nil (WX.a (WC.b ?_))
      obtain ⟨zu7,h⟩:=yj h
      refine WC.a (WL.pu rfl ?_)
      refine WL.a (d:=40) rfl rfl rfl (ya y4L rfl rfl) ?_
      refine WL.a (d:=41) rfl rfl rfl (yb yg rfl (yc .here rfl)) ?_
      refine WL.znth (dd:=42) rfl rfl (Z:=Z) (Pr:=(p55 Z)) y5V rfl rfl zg8 zu7 ?_
      rintro zyD zyE zu8 zyF ⟨zyG,zyH,rfl,zu9⟩
      refine WL.a (d:=43) rfl rfl rfl (yb y5W rfl (rd_z hz.pv zu8 rfl)) ?_
      refine WL.pu rfl (WL.nil (WX.a (WC.b (WC.a (WL.pu rfl ?_)))))
      refine WL.a (d:=45) rfl rfl rfl (yW Try.underlying55 rfl) ?_
      refine WL.pu rfl (WL.nil (WX.a ?_))
      refine WC.cond rfl (fun zjJ=>?_) (fun zjJ=>?_)
      ·replace h:=yl h zjJ
       obtain ⟨zua,h⟩:=yj h
       obtain ⟨zjE,zub,h⟩:=zn h
       refine WC.yY (fun i=>[8].contains i) [] rfl ?_
       refine WD.a (i:=0) (d:=47) (by kernel_rfl) rfl (z2 (by kernel_rfl)) (z3 (by kernel_rfl)) rfl rfl rfl (fun _=>q_m rfl) ?_
       refine WD.a (i:=1) (d:=48) (by kernel_rfl) rfl (z2 (by kernel_rfl)) (z3 (by kernel_rfl)) rfl rfl rfl (fun _=>q_m rfl) ?_
       refine WD.znth (j:=2) (dd:=49) (by kernel_rfl) rfl (z2 (by kernel_rfl)) (z3 (by kernel_rfl)) rfl rfl (Z:=Z) (Pr:=(fun r x=>r = e59 x)) y4X rfl rfl zu9 zua ?_
       rintro zyI zyJ zuc zyK rfl
       refine WD.a (i:=3) (d:=50) (by kernel_rfl) rfl (z2 (by kernel_rfl)) (z3 (by kernel_rfl)) rfl rfl rfl (fun _=>ya y3n rfl rfl) ?_
       refine WD.e (i:=4) (d:=51) (by kernel_rfl) rfl (z2 (by kernel_rfl)) (z3 (by kernel_rfl)) rfl rfl rfl (yb yg rfl (y21 hz.pv zuc rfl)) ?_
       refine WD.a (i:=5) (d:=52) (by kernel_rfl) rfl (z2 (by kernel_rfl)) (z3 (by kernel_rfl)) rfl rfl rfl (fun _=>ya y40 rfl rfl) ?_
       refine WD.e (i:=6) (d:=53) (by kernel_rfl) rfl (z2 (by kernel_rfl)) (z3 (by kernel_rfl)) rfl rfl rfl (yb yg rfl (yc .here rfl)) ?_
       refine WD.a (i:=7) (d:=54) (by kernel_rfl) rfl (z2 (by kernel_rfl)) (z3 (by kernel_rfl)) rfl rfl rfl (fun _=>q_m rfl) ?_
       refine WD.call2 (i:=8) (dd:=55) rfl (by kernel_rfl) rfl rfl rfl (.inl ⟨rfl,fun _ _=>(Sin.of .nil)⟩) (zF (l:=[.tmp 47,.tmp 51,.tmp 53,.const (.int .i64 (-1)),.tmp 54]) Try.call25 (.cons rfl (.cons rfl (.cons rfl (.cons rfl (.cons rfl .nil)))))) (.cons .h1 (.cons .h2 (.cons .h2 (.cons .h1 .nil)))) (cc hz (.cons .h1 (.cons .h2 (.cons .h2 (.cons .h1 .nil)))) fun w pz ho=>y4I _ _ _ _ _ _ _ _ _ _ _ _ _ _ _ _ _ _ _ _ _ _ _ _ _ _ _ _ _ _ _ _ _ _ _ _ _ _ _ _ _ _ zub w pz zg0 zg1 zg2 zg3 zg4 zg5 zg6 zg7 zg8 zg9 rfl (ZS.nil _ _ _) (ZS.nil _ _ _) ho) ?_
       rintro zud zue _
       refine WD.done (by kernel_rfl) ?_
       refine WX.yh ?_
       exact WX.mid (G:=List Snetwork_event × Option Addr × Nat) ⟨zjE,zud,zue⟩ h (.cons rfl (.cons rfl (.cons rfl (.cons rfl (.cons rfl .nil))))) (.cons .here (.cons .here (.cons .here (.cons .here .nil))))
      ·replace h:=ym h zjJ
       refine WC.skip (WX.yh ?_)
       exact WX.mid (G:=List Snetwork_event × Option Addr × Nat) ⟨z3B,z8A,z8B⟩ h (.cons rfl (.cons rfl (.cons rfl (.cons rfl (.cons rfl .nil))))) (.cons .h1 (.cons .h1 (.cons .h1 (.cons .h1 .nil))))
     ·rintro z5C zbR zbS h
      replace h:=(zu4 z5C).symm.trans h
      refine WC.a (WL.pu rfl (WL.pu rfl (WL.nil ?_)))
      exact WX.round (G:=Nat × Int × List Snetwork_event × Option Addr × Nat) ⟨zjD,(i64 (z23 + 1)),z5C,zbR,zbS⟩ h (Nat.lt_succ_self _) (.cons rfl (.cons rfl (.cons rfl (.cons rfl (.cons rfl .nil))))) (.cons .here (.cons .here (.cons .here (.cons .here .nil))))
    ·replace h:=ym h zjI
     refine WC.exit (WX.yd (WX.yd (WX.yy ?_)))
     exact WX.mid (G:=List Snetwork_event × Option Addr × Nat) ⟨z3B,z8A,z8B⟩ h (.cons rfl .nil) (.cons .here (.cons .here (.cons .here (.cons .here .nil))))
   ·rintro z5D zbO zbP h
    replace h:=(zu3 z5D).symm.trans h
    obtain ⟨z7R,zuf,h⟩:=jp4_elim h
    refine WC.y9d (fun (z7T : List Snetwork_event) (z6R : List Sapi_Come) (z5E : List Sapi_Come) (z9Q : List (Snetwork_exit × Sport_Port)) (zeq : Option Addr) (zer : Nat) (zbT : Option Addr) (zbU : Nat) (z9R : Option Addr) (z9S : Nat) (zbV : List (Snetwork_exit × ((Nat × (Option Addr × Nat)) × Sport_Port)))=>(z7R z7T z6R z5E z9Q = some r) ∧ (dat zbV = z9Q)) (fun (z7T : List Snetwork_event) (z6R : List Sapi_Come) (z5E : List Sapi_Come) (z9Q : List (Snetwork_exit × Sport_Port)) (zeq : Option Addr) (zer : Nat) (zbT : Option Addr) (zbU : Nat) (z9R : Option Addr) (z9S : Nat) (zbV : List (Snetwork_exit × ((Nat × (Option Addr × Nat)) × Sport_Port)))=>[(11,(.pointer (some ⟨z5F,0,none⟩)))]) (fun (z7T : List Snetwork_event) (z6R : List Sapi_Come) (z5E : List Sapi_Come) (z9Q : List (Snetwork_exit × Sport_Port)) (zeq : Option Addr) (zer : Nat) (zbT : Option Addr) (zbU : Nat) (z9R : Option Addr) (z9S : Nat) (zbV : List (Snetwork_exit × ((Nat × (Option Addr × Nat)) × Sport_Port)))=>[stb z5F 81 [(.slice z4e zd.fModules.length z4f),(.slice z4g zd.fChannels.length z4h),(.slice z4i zd.fSwitches.length z4j),(.slice z4k zd.fLinks.length z4l),(.slice z4m zd.fVLs.length z4n),(.slice z4o zd.fHealth.length z4p),(.slice z4q zd.fCauses.length z4r),(.slice z4s zd.fVersions.length z4t),(.slice z4u z1h.length z4v),(.slice z4w z12.length z4x),(.map (some z4y)),(.slice zeq z7T.length zer),(.slice zbT z6R.length zbU),(.slice z9R z5E.length z9S)],row (.slice zeq z7T.length zer) 113 7 (z7T.flatMap yA),row (.slice zbT z6R.length zbU) 50 3 (z6R.flatMap e50),row (.slice z9R z5E.length z9S) 50 3 (z5E.flatMap e50),yF z4y (fun x=>Value.agg (y1S x).toArray) Value.pointer (y1s zbV),y1r z19 zbV]) ?_ ?_
    ·skip
     refine WC.block ?_
     refine WC.nilRow 50 3 ?_
     refine WC.nilRow 50 3 ?_
     refine WC.y9T (fun (zbW : Nat) (z3M : List Snetwork_event) (z40 : List Sapi_Come) (z41 : List Sapi_Come) (z5e : List (Snetwork_exit × Sport_Port)) (z9T : Option Addr) (z9U : Nat) (z9V : Option Addr) (z9W : Nat) (z9X : Option Addr) (z9Y : Nat) (z8C : List (Snetwork_exit × ((Nat × (Option Addr × Nat)) × Sport_Port)))=>(y2o zd z1h z12 z7R zbW z3M z40 z41 z5e = some r) ∧ (dat z8C = z5e)) (fun (zbW : Nat) (z3M : List Snetwork_event) (z40 : List Sapi_Come) (z41 : List Sapi_Come) (z5e : List (Snetwork_exit × Sport_Port)) (z9T : Option Addr) (z9U : Nat) (z9V : Option Addr) (z9W : Nat) (z9X : Option Addr) (z9Y : Nat) (z8C : List (Snetwork_exit × ((Nat × (Option Addr × Nat)) × Sport_Port)))=>[(11,(.pointer (some ⟨z5F,0,none⟩)))]) (fun (zbW : Nat) (z3M : List Snetwork_event) (z40 : List Sapi_Come) (z41 : List Sapi_Come) (z5e : List (Snetwork_exit × Sport_Port)) (z9T : Option Addr) (z9U : Nat) (z9V : Option Addr) (z9W : Nat) (z9X : Option Addr) (z9Y : Nat) (z8C : List (Snetwork_exit × ((Nat × (Option Addr × Nat)) × Sport_Port)))=>[stb z5F 81 [(.slice z4e zd.fModules.length z4f),(.slice z4g zd.fChannels.length z4h),(.slice z4i zd.fSwitches.length z4j),(.slice z4k zd.fLinks.length z4l),(.slice z4m zd.fVLs.length z4n),(.slice z4o zd.fHealth.length z4p),(.slice z4q zd.fCauses.length z4r),(.slice z4s zd.fVersions.length z4t),(.slice z4u z1h.length z4v),(.slice z4w z12.length z4x),(.map (some z4y)),(.slice z9T z3M.length z9U),(.slice z9V z40.length z9W),(.slice z9X z41.length z9Y)],row (.slice z9T z3M.length z9U) 113 7 (z3M.flatMap yA),row (.slice z9V z40.length z9W) 50 3 (z40.flatMap e50),row (.slice z9X z41.length z9Y) 50 3 (z41.flatMap e50),yF z4y (fun x=>Value.agg (y1S x).toArray) Value.pointer (y1s z8C),y1r z19 z8C]) (fun (zbW : Nat) (z3M : List Snetwork_event) (z40 : List Sapi_Come) (z41 : List Sapi_Come) (z5e : List (Snetwork_exit × Sport_Port)) (z9T : Option Addr) (z9U : Nat) (z9V : Option Addr) (z9W : Nat) (z9X : Option Addr) (z9Y : Nat) (z8C : List (Snetwork_exit × ((Nat × (Option Addr × Nat)) × Sport_Port)))=>zbW) ⟨yt,z5D,([] : List Sapi_Come),([] : List Sapi_Come),([] : List (Snetwork_exit × Sport_Port)),zbO,zbP,none,0,none,0,([] : List (Snetwork_exit × ((Nat × (Option Addr × Nat)) × Sport_Port)))⟩ ⟨h,rfl⟩ (.cons rfl .nil) (.cons .h2 (.cons .h2 (.cons .h1 (.cons .here (.cons .here (.cons .here .nil)))))) ?_
     rintro zbW z3M z40 z41 z5e z9T z9U z9V z9W z9X z9Y z8C ⟨h,zot⟩
     obtain ⟨zjF,rfl⟩:=y67 h
     rw [y2o] at h
     refine WC.b (WC.b (WC.a (WL.pu rfl ?_)))
     refine WL.a (d:=58) rfl rfl rfl (yv rfl) ?_
     refine WL.a (d:=59) rfl rfl rfl (ya y7Y rfl rfl) ?_
     refine WL.a (d:=60) rfl rfl rfl (yb y5b rfl (yc .here rfl)) ?_
     refine WL.a (d:=61) rfl rfl rfl (yW Try.underlying79 rfl) ?_
     refine WL.pu rfl (WL.nil (WX.a ?_))
     refine WC.cond rfl (fun zjK=>?_) (fun zjK=>?_)
     ·replace h:=yl h zjK
      refine WC.skip (WX.a (WC.block ?_))
      obtain ⟨z7S,zug,h⟩:=zn h
      refine WC.a (WL.pu rfl ?_)
      refine WL.y9S (dd:=64) rfl rfl rfl (zF (l:=[.tmp 63]) Try.call26 (.cons rfl .nil)) (.cons .here (.cons .h3 (.cons .h3 (.cons .here (.cons .here (.cons .here .nil)))))) (cc hz (.cons .here (.cons .h3 (.cons .h3 (.cons .here (.cons .here (.cons .here .nil)))))) fun w pz ho=>y6S _ _ _ _ _ _ _ _ _ _ _ _ _ _ _ _ _ _ _ _ _ _ _ _ _ _ _ _ _ _ _ _ _ _ _ _ _ _ zug w pz zg0 zg1 zg2 zg3 zg4 zg5 zg6 zg7 zg8 zg9 zot ho) ?_
      rintro zuh zui zuj zuk zul zum zun zuo
      refine WL.nil (WX.yh ?_)
      exact WX.round (G:=Nat × List Snetwork_event × List Sapi_Come × List Sapi_Come × (List (Snetwork_exit × Sport_Port)) × Option Addr × Nat × Option Addr × Nat × Option Addr × Nat × (List (Snetwork_exit × ((Nat × (Option Addr × Nat)) × Sport_Port)))) ⟨zjF,z7S.1,z7S.2.1,z7S.2.2.1,z7S.2.2.2,zuh,zui,zuj,zuk,zul,zum,zun⟩ ⟨h,zuo⟩ (Nat.lt_succ_self _) (.cons rfl .nil) (.cons .here (.cons .here (.cons .here (.cons .here (.cons .here (.cons .here .nil))))))
     ·replace h:=ym h zjK
      refine WC.exit (WX.yd (WX.yd (WX.yy ?_)))
      exact WX.mid (G:=List Snetwork_event × List Sapi_Come × List Sapi_Come × (List (Snetwork_exit × Sport_Port)) × Option Addr × Nat × Option Addr × Nat × Option Addr × Nat × (List (Snetwork_exit × ((Nat × (Option Addr × Nat)) × Sport_Port)))) ⟨z3M,z40,z41,z5e,z9T,z9U,z9V,z9W,z9X,z9Y,z8C⟩ ⟨h,zot⟩ (.cons rfl .nil) (.cons .here (.cons .here (.cons .here (.cons .here (.cons .here (.cons .here .nil))))))
    ·rintro z7T z6R z5E z9Q zeq zer zbT zbU z9R z9S zbV ⟨h,zyL⟩
     replace h:=(zuf z7T z6R z5E z9Q).symm.trans h
     refine WC.b ?_
     obtain ⟨zon,zup,h⟩:=zn h
     obtain ⟨zoo,zuq,h⟩:=zn h
     refine WC.yY (fun i=>[4,9].contains i) [stbp z5F 81 [(13,(.slice z9R z5E.length z9S))]] rfl ?_
     refine WD.a (i:=0) (d:=65) (by kernel_rfl) rfl (z2 (by kernel_rfl)) (z3 (by kernel_rfl)) rfl rfl rfl (fun _=>q_m rfl) ?_
     refine WD.a (i:=1) (d:=66) (by kernel_rfl) rfl (z2 (by kernel_rfl)) (z3 (by kernel_rfl)) rfl rfl rfl (fun _=>yv rfl) ?_
     refine WD.a (i:=2) (d:=67) (by kernel_rfl) rfl (z2 (by kernel_rfl)) (z3 (by kernel_rfl)) rfl rfl rfl (fun _=>ya y82 rfl rfl) ?_
     refine WD.e (i:=3) (d:=68) (by kernel_rfl) rfl (z2 (by kernel_rfl)) (z3 (by kernel_rfl)) rfl rfl rfl (yb y75 rfl (yc .here rfl)) ?_
     refine WD.a (i:=5) (d:=70) (by kernel_rfl) rfl (z2 (by kernel_rfl)) (z3 (by kernel_rfl)) rfl rfl rfl (fun _=>q_m rfl) ?_
     refine WD.a (i:=6) (d:=71) (by kernel_rfl) rfl (z2 (by kernel_rfl)) (z3 (by kernel_rfl)) rfl rfl rfl (fun _=>yv rfl) ?_
     refine WD.a (i:=7) (d:=72) (by kernel_rfl) rfl (z2 (by kernel_rfl)) (z3 (by kernel_rfl)) rfl rfl rfl (fun _=>ya y81 rfl rfl) ?_
     refine WD.stable (i:=8) (d:=73) (by kernel_rfl) rfl (z2 (by kernel_rfl)) (z3 (by kernel_rfl)) rfl rfl rfl (Sin.wk (.cons .here .nil) (.stb (.cons rfl .nil) .nil)) (yb y75 rfl (y6X .here (.head _))) ?_
     refine WD.call0 (i:=4) (dd:=69) rfl (by kernel_rfl) rfl rfl rfl (.inl ⟨rfl,(Sin.wk (.cons .h1 .nil) (.stb (.cons rfl .nil) .nil))⟩) (zF (l:=[.tmp 68]) Try.call27 (.cons rfl .nil)) (.cons .h2 .nil) (cc hz (.cons .h2 .nil) fun w pz ho=>y5r _ _ _ _ _ zup w pz  ho) ?_
     rintro  zyM
     refine WD.call0 (i:=9) (dd:=74) rfl (by kernel_rfl) rfl rfl rfl (.inl ⟨rfl,(Sin.wk (.cons .h2 .nil) (.stb (.cons rfl .nil) .nil))⟩) (zF (l:=[.tmp 73]) Try.call27 (.cons rfl .nil)) (.cons .h3 .nil) (cc hz (.cons .h3 .nil) fun w pz ho=>y5r _ _ _ _ _ zuq w pz  ho) ?_
     rintro  zyN
     refine WD.a (i:=10) (d:=8) (by kernel_rfl) rfl (z2 (by kernel_rfl)) (z3 (by kernel_rfl)) rfl rfl rfl (fun _=>q_z rfl) ?_
     refine WD.a (i:=11) (d:=9) (by kernel_rfl) rfl (z2 (by kernel_rfl)) (z3 (by kernel_rfl)) rfl rfl rfl (fun _=>q_z rfl) ?_
     refine WD.a (i:=12) (d:=10) (by kernel_rfl) rfl (z2 (by kernel_rfl)) (z3 (by kernel_rfl)) rfl rfl rfl (fun _=>q_z rfl) ?_
     refine WD.done (by kernel_rfl) ?_
     refine WX.a (WC.ret ?_)
     obtain rfl:=Option.some.inj h
     refine WX.yi Try.results12 (.tmp rfl (.tmp rfl (.tmp rfl .nil))) (fun w hw=>?_)
     exact ⟨zbT,zbU,z9R,z9S,ret3 rfl rfl rfl,trivial,hw.sub (.cons .h1 (.cons .here .nil))⟩
def y3s (z1S : List Sapi_Come) (z29 : List Sapi_Come) (z7U : Option Bool) : Nat → Int → Option Bool
 | 0,_=>none
 | zjL + 1,z1A=>if decide (z1A < ((z1S.length : Nat) : Int)) then chk ((0 : Int) ≤ z1A ∧ z1A < ((z1S.length : Nat) : Int)) (chk ((0 : Int) ≤ z1A ∧ z1A < ((z29.length : Nat) : Int)) (if decide ((⟨((nth z1S z1A).fSent),((nth z1S z1A).fNode),((nth z1S z1A).fTime)⟩ : Sapi_Come) ≠ (⟨((nth z29 z1A).fSent),((nth z29 z1A).fNode),((nth z29 z1A).fTime)⟩ : Sapi_Come)) then some false else y3s z1S z29 z7U zjL (i64 (z1A + 1)))) else z7U
theorem y6p {n : Nat} {z1S : List Sapi_Come} {z29 : List Sapi_Come} {z7U : Option Bool} {z1A : Int} {r : Bool} (h : y3s z1S z29 z7U n z1A = some r) : ∃ m,n = m + 1:=by
 cases n with
 | zero=>cases h
 | succ m=>exact ⟨m,rfl⟩
def y4F (z1S : List Sapi_Come) (z29 : List Sapi_Come) : Option Bool :=
 if decide (((z1S.length : Nat) : Int) ≠ ((z29.length : Nat) : Int)) then some false else jp0 (some true) fun z7U=>y3s z1S z29 z7U yt 0
set_option maxRecDepth 20000 in
theorem y6U (Z : Zp) (zes : Option Addr) (zet : Nat) (zeu : Option Addr) (zev : Nat) (z1S : List Sapi_Come) (z29 : List Sapi_Come) (r : Bool)
  (h : y4F z1S z29 = some r) (w₀ : World) (hz : PZ [] w₀ Z)
  (zur : ZS Z 3 (fun r x=>r = e50 x) zes zet z1S)
  (zus : ZS Z 3 (fun r x=>r = e50 x) zeu zev z29) :
  Calls Try.prog 14 #[(.slice zes z1S.length zet),(.slice zeu z29.length zev)] w₀ fun e w'=>e = .returned (.bool r) ∧ Hp [] w₀ w' []:=by
 unfold y4F at h
 refine Calls.yo (vs:=[(.slice zes z1S.length zet),(.slice zeu z29.length zev)]) (pre:=[]) (env:=[(0,(.slice zes z1S.length zet)),(1,(.slice zeu z29.length zev))]) Try.func14 rfl Try.ntmps14 rfl (Hp.nil w₀ _) rfl ?_
 refine WC.b (WC.a (WL.pu rfl (WL.nil (WX.a (WC.b (WC.b (WC.a (WL.pu rfl ?_))))))))
 refine WL.a (d:=7) rfl rfl rfl (yW Try.underlying36 rfl) ?_
 refine WL.pu rfl ?_
 refine WL.a (d:=9) rfl rfl rfl (yW Try.underlying36 rfl) ?_
 refine WL.pu rfl (WL.nil (WX.a ?_))
 refine WC.cond rfl (fun zjM=>?_) (fun zjM=>?_)
 ·replace h:=yl h zjM
  refine WC.b (WC.a (WL.pu rfl (WL.nil (WX.a (WC.ret (WX.yf ?_))))))
  obtain rfl:=Option.some.inj h
  refine WX.yi Try.results14 (.tmp rfl .nil) (fun w hw=>?_)
  exact ⟨y12 rfl,hw.sub .nil⟩
 ·replace h:=ym h zjM
  refine WC.skip (WX.a ?_)
  obtain ⟨z7U,zut,h⟩:=y2E h
  refine WC.y2u ((z7U = some r)) ([]) ([]) ?_ ?_
  ·skip
   refine WC.b (WC.a (WL.pu rfl ?_))
   refine WL.a (d:=12) rfl rfl rfl (yW Try.underlying36 rfl) ?_
   refine WL.pu rfl (WL.nil (WX.a (WC.block ?_)))
   refine WC.y4a (fun (zbX : Nat) (z1A : Int)=>(y3s z1S z29 z7U zbX z1A = some r)) (fun (zbX : Nat) (z1A : Int)=>[(0,(.slice zes z1S.length zet)),(1,(.slice zeu z29.length zev)),(12,(.int .i64 ((z1S.length : Nat) : Int))),(13,(.int .i64 z1A))]) (fun (zbX : Nat) (z1A : Int)=>[]) (fun (zbX : Nat) (z1A : Int)=>zbX) ⟨yt,0⟩ h (.cons rfl (.cons rfl (.cons rfl (.cons rfl .nil)))) .nil ?_
   rintro zbX z1A h
   obtain ⟨zjL,rfl⟩:=y6p h
   rw [y3s] at h
   refine WC.b (WC.a (WL.pu rfl (WL.nil (WX.a (WC.b ?_)))))
   refine WC.cond rfl (fun zjN=>?_) (fun zjN=>?_)
   ·replace h:=yl h zjN
    refine WC.skip (WX.a (WC.b (WC.block (WC.b (WC.a (WL.pu rfl (WL.pu rfl (WL.nil (WX.a (WC.b ?_))))))))))
    obtain ⟨zuu,h⟩:=yj h
    obtain ⟨zuv,h⟩:=yj h
    refine WC.yY (fun i=>[].contains i) [] rfl ?_
    refine WD.a (i:=0) (d:=16) (by kernel_rfl) rfl (z2 (by kernel_rfl)) (z3 (by kernel_rfl)) rfl rfl rfl (fun _=>q_m rfl) ?_
    refine WD.a (i:=1) (d:=17) (by kernel_rfl) rfl (z2 (by kernel_rfl)) (z3 (by kernel_rfl)) rfl rfl rfl (fun _=>q_m rfl) ?_
    refine WD.znth (j:=2) (dd:=18) (by kernel_rfl) rfl (z2 (by kernel_rfl)) (z3 (by kernel_rfl)) rfl rfl (Z:=Z) (Pr:=(fun r x=>r = e50 x)) y19 rfl rfl zur zuu ?_
    rintro zyO zyP zuw zyQ rfl
    refine WD.e (i:=3) (d:=19) (by kernel_rfl) rfl (z2 (by kernel_rfl)) (z3 (by kernel_rfl)) rfl rfl rfl (yN y23 rfl (y3u hz.pv zuw) rfl) ?_
    refine WD.a (i:=4) (d:=20) (by kernel_rfl) rfl (z2 (by kernel_rfl)) (z3 (by kernel_rfl)) rfl rfl rfl (fun _=>q_m rfl) ?_
    refine WD.a (i:=5) (d:=21) (by kernel_rfl) rfl (z2 (by kernel_rfl)) (z3 (by kernel_rfl)) rfl rfl rfl (fun _=>q_m rfl) ?_
    refine WD.znth (j:=6) (dd:=22) (by kernel_rfl) rfl (z2 (by kernel_rfl)) (z3 (by kernel_rfl)) rfl rfl (Z:=Z) (Pr:=(fun r x=>r = e50 x)) y19 rfl rfl zus zuv ?_
    rintro zyR zyS zux zyT rfl
    refine WD.e (i:=7) (d:=23) (by kernel_rfl) rfl (z2 (by kernel_rfl)) (z3 (by kernel_rfl)) rfl rfl rfl (yN y23 rfl (y3u hz.pv zux) rfl) ?_
    refine WD.a (i:=8) (d:=24) (by kernel_rfl) rfl (z2 (by kernel_rfl)) (z3 (by kernel_rfl)) rfl rfl rfl (fun _=>q_aggneq (enc:=e50) (a:=(⟨((nth z1S z1A).fSent),((nth z1S z1A).fNode),((nth z1S z1A).fTime)⟩ : Sapi_Come)) (b:=(⟨((nth z29 z1A).fSent),((nth z29 z1A).fNode),((nth z29 z1A).fTime)⟩ : Sapi_Come)) eqT_50 rfl rfl) ?_
    refine WD.done (by kernel_rfl) ?_
    refine WX.a ?_
    refine WC.cond rfl (fun zjO=>?_) (fun zjO=>?_)
    ·replace h:=yl h zjO
     refine WC.b (WC.a (WL.pu rfl (WL.nil (WX.a (WC.ret (WX.yz (WX.yf (WX.yf (WX.yz (WX.yf ?_))))))))))
     obtain rfl:=Option.some.inj h
     refine WX.yi Try.results14 (.tmp rfl .nil) (fun w hw=>?_)
     exact ⟨y12 rfl,hw.sub .nil⟩
    ·replace h:=ym h zjO
     refine WC.skip (WX.yh (WX.a (WC.a (WL.pu rfl (WL.pu rfl (WL.nil ?_))))))
     exact WX.round (G:=Nat × Int) ⟨zjL,(i64 (z1A + 1))⟩ h (Nat.lt_succ_self _) (.cons rfl (.cons rfl (.cons rfl (.cons rfl .nil)))) .nil
   ·replace h:=ym h zjN
    refine WC.exit (WX.yd (WX.yd (WX.yy ?_)))
    exact WX.mid (G:=Unit) () h .nil .nil
  ·rintro  h
   replace h:=zut.symm.trans h
   refine WC.b (WC.a (WL.pu rfl (WL.nil (WX.a (WC.ret ?_)))))
   obtain rfl:=Option.some.inj h
   refine WX.yi Try.results14 (.tmp rfl .nil) (fun w hw=>?_)
   exact ⟨y12 rfl,hw.sub .nil⟩
def y3h (z7V : Option Bool) : Nat → Int → Option Bool
 | 0,_=>none
 | zjP + 1,z2a=>if decide (z2a < ((([1000,50,30] : List Int).length : Nat) : Int)) then chk ((0 : Int) ≤ z2a ∧ z2a < ((([1000,50,30] : List Int).length : Nat) : Int)) ((y4C (nth ([1000,50,30] : List Int) z2a)).bind fun z1j=>(y2U z1j.1 0 z1j.2 ([(⟨0,0,40⟩ : zSt),(⟨10,0,40⟩ : zSt)] : List zSt)).bind fun z2O=>jp2 (fun (z5G : List Sapi_Come) (z5H : List Sapi_Come)=>jp2 (fun (z6S : List Sapi_Come) (z6T : List Sapi_Come)=>(if decide (z2O.2.2 ≠ 0) then some true else (y4F z2O.1 z6S).bind fun zou=>some (!zou)).bind fun zjQ=>(if zjQ then some true else (y4F z2O.2.1 z6T).bind fun zov=>some (!zov)).bind fun zjR=>(if zjR then some true else (y2x z1j.1).bind fun zow=>some (decide (zow ≠ 3))).bind fun zjS=>(if zjS then some true else (y36 z1j.1 2).bind fun zox=>some (decide (zox ≠ ⟨#[115]⟩))).bind fun zjT=>if zjT then some false else y3h z7V zjP (i64 (z2a + 1))) fun zga=>if decide ((nth ([1000,50,30] : List Int) z2a) = 30) then zga ([] : List Sapi_Come) ([(⟨0,2,40⟩ : Sapi_Come),(⟨1,2,80⟩ : Sapi_Come)] : List Sapi_Come) else zga z5G z5H) fun zgb=>if decide ((nth ([1000,50,30] : List Int) z2a) = 50) then chk ((0 : Int) ≤ 1 ∧ 1 ≤ ((([(⟨0,1,96⟩ : Sapi_Come),(⟨1,1,136⟩ : Sapi_Come)] : List Sapi_Come).length : Nat) : Int)) (zgb (([(⟨0,1,96⟩ : Sapi_Come),(⟨1,1,136⟩ : Sapi_Come)] : List Sapi_Come).take (1 : Int).toNat) ([(⟨1,2,80⟩ : Sapi_Come)] : List Sapi_Come)) else zgb ([(⟨0,1,96⟩ : Sapi_Come),(⟨1,1,136⟩ : Sapi_Come)] : List Sapi_Come) ([] : List Sapi_Come)) else z7V
theorem y68 {n : Nat} {z7V : Option Bool} {z2a : Int} {r : Bool} (h : y3h z7V n z2a = some r) : ∃ m,n = m + 1:=by
 cases n with
 | zero=>cases h
 | succ m=>exact ⟨m,rfl⟩
def y3W  : Option Bool :=
 jp0 (some true) fun z7V=>y3h z7V yt 0
set_option maxRecDepth 20000 in
theorem y6z (Z : Zp)  (r : Bool)
  (h : y3W = some r) (w₀ : World) (hz : PZ [] w₀ Z) :
  Calls Try.prog 11 #[] w₀ fun e w'=>∃ Zn : Zp,e = .returned (.bool r) ∧ True ∧ Hp [] w₀ w' [fz Zn]:=by
 unfold y3W at h
 refine Calls.yo (vs:=[]) (pre:=[]) (env:=[]) Try.func11 rfl Try.ntmps11 rfl (Hp.nil w₀ _) rfl ?_
 refine WC.pool (WC.b (WC.a (WL.pu rfl (WL.nil (WX.a (WC.b (WC.a ?_)))))))
 refine WL.a (d:=11) rfl rfl rfl (y1j (v:=(.agg #[(.int .i64 0),(.int .i64 0),(.int .i64 40)])) (Eos.parts (l:=[.const (.int .i64 0),.const (.int .i64 40)]) (.cons rfl (.cons rfl .nil)) [0,2]) (fun _=>by kernel_rfl)) ?_
 refine WL.a (d:=12) rfl rfl rfl (y1j (v:=(.agg #[(.int .i64 10),(.int .i64 0),(.int .i64 40)])) (Eos.parts (l:=[.const (.int .i64 10),.const (.int .i64 40)]) (.cons rfl (.cons rfl .nil)) [0,2]) (fun _=>by kernel_rfl)) ?_
 refine WL.new (dd:=13) rfl rfl rfl (y18 (cs:=([(⟨0,0,40⟩ : zSt),(⟨10,0,40⟩ : zSt)] : List zSt).flatMap e53) y4p (Eos.parts (l:=[.tmp 11,.tmp 12]) (.cons rfl (.cons rfl .nil)) [0,1]) (fun _=>by kernel_rfl) rfl (by unfold maxLen; omega)) ?_
 intro zbY _
 refine WL.pu rfl (WL.nil (WX.a ?_))
 obtain ⟨z7V,zuy,h⟩:=y2E h
 refine WC.y1l (fun (zbZ : Zp)=>(z7V = some r) ∧ (Zle (Z ++ []) (Z ++ zbZ))) (fun (zbZ : Zp)=>[]) (fun (zbZ : Zp)=>[fz zbZ]) ?_ ?_
 ·skip
  refine WC.b (WC.a ?_)
  refine WL.new (dd:=14) rfl rfl rfl (y18 (cs:=([1000,50,30] : List Int).flatMap e3) y4Y (Eos.parts (l:=[.const (.int .i64 1000),.const (.int .i64 50),.const (.int .i64 30)]) (.cons rfl (.cons rfl (.cons rfl .nil))) [0,1,2]) (fun _=>by kernel_rfl) rfl (by unfold maxLen; omega)) ?_
  intro zc0 _
  refine WL.a (d:=15) rfl rfl rfl (yW Try.underlying56 rfl) ?_
  refine WL.pu rfl (WL.nil (WX.a (WC.block ?_)))
  refine WC.y26 (fun (zc1 : Nat) (z2a : Int) (z5I : Zp)=>(y3h z7V zc1 z2a = some r) ∧ (Zle (Z ++ []) (Z ++ z5I))) (fun (zc1 : Nat) (z2a : Int) (z5I : Zp)=>[(1,(.slice (some ⟨zbY,0,none⟩) (([(⟨0,0,40⟩ : zSt),(⟨10,0,40⟩ : zSt)] : List zSt).length) 2)),(14,(.slice (some ⟨zc0,0,none⟩) (([1000,50,30] : List Int).length) 3)),(15,(.int .i64 ((([1000,50,30] : List Int).length : Nat) : Int))),(16,(.int .i64 z2a))]) (fun (zc1 : Nat) (z2a : Int) (z5I : Zp)=>[fz z5I,row (.slice (some ⟨zbY,0,none⟩) (([(⟨0,0,40⟩ : zSt),(⟨10,0,40⟩ : zSt)] : List zSt).length) 2) 53 3 (([(⟨0,0,40⟩ : zSt),(⟨10,0,40⟩ : zSt)] : List zSt).flatMap e53),row (.slice (some ⟨zc0,0,none⟩) (([1000,50,30] : List Int).length) 3) 3 1 (([1000,50,30] : List Int).flatMap e3)]) (fun (zc1 : Nat) (z2a : Int) (z5I : Zp)=>zc1) ⟨yt,0,[]⟩ ⟨h,(Zle.refl _)⟩ (.cons rfl (.cons rfl (.cons rfl (.cons rfl .nil)))) (.cons .h2 (.cons .h1 (.cons .here .nil))) ?_
  rintro zc1 z2a z5I ⟨h,zoy⟩
  obtain ⟨zjP,rfl⟩:=y68 h
  rw [y3h] at h
  refine WC.b (WC.a (WL.pu rfl (WL.nil (WX.a (WC.b ?_)))))
  refine WC.cond rfl (fun zjU=>?_) (fun zjU=>?_)
  ·replace h:=yl h zjU
   refine WC.skip (WX.a (WC.b (WC.block (WC.b ?_))))
   obtain ⟨zgc,h⟩:=yj h
   refine WC.a ?_
   refine WL.a (d:=18) rfl rfl rfl (yr y4Y rfl rfl zgc.1 zgc.2 y1b) ?_
   refine WL.a (d:=19) rfl rfl rfl (yb yg rfl (y8E .h2 ((y1I (enc:=e3) (l:=([1000,50,30] : List Int)) (i:=z2a) (sz:=1) (fun _=>rfl) zgc.1 zgc.2) 0 _ rfl))) ?_
   refine WL.pu rfl (WL.nil (WX.a (WC.b ?_)))
   obtain ⟨z1j,zuz,h⟩:=zn h
   refine WC.a (WL.pu rfl ?_)
   refine WL.y9I (dd:=22) rfl rfl rfl (zF (l:=[.tmp 21]) Try.call23 (.cons rfl .nil)) .nil (ccz hz .nil .here fun w pz ho=>y7E _ _ _ zuz w pz ) ?_
   rintro zgd zge zgf zoz zoA zoB zgg zgh zgi zgj zgk zgl zoC zoD zoE zoF zoG zoH zoI zyU zyV zyW ⟨zjV,zjW,zjX,zjY,zjZ,zk0,zuA⟩
   refine WL.merge .here .h5 ?_
   refine WL.pu rfl (WL.pu rfl (WL.pu rfl ?_))
   refine WL.new (dd:=4) rfl rfl rfl (y2d (cs:=[(.slice none 0 0),(.slice none 0 0),(.slice none 0 0),(.slice none 0 0),(.slice none 0 0),(.slice none 0 0),(.slice none 0 0),(.slice none 0 0)]) y7i rfl) ?_
   intro zgm _
   refine WL.y1u rfl rfl (y1K y7X rfl rfl rfl .here rfl rfl rfl) ?_
   refine WL.pu rfl (WL.nil (WX.a (WC.b ?_)))
   obtain ⟨z2O,zuB,h⟩:=zn h
   refine WC.a ?_
   refine WL.a (d:=26) rfl rfl rfl (yN y1L rfl (y1x .here) rfl) ?_
   refine WL.pu rfl (WL.pu rfl ?_)
   refine WL.y8d (dd:=29) rfl rfl rfl (zF (l:=[.tmp 26,.const (.int .i64 0),.tmp 27,.tmp 28]) Try.call12 (.cons rfl (.cons rfl (.cons rfl (.cons rfl .nil))))) .nil (cclz hz .nil .h1 (.cons .h2 (.cons .h2 (.cons .h2 (.cons .h2 (.cons .h2 (.cons .h2 .nil)))))) fun w pz ho la=>y6y _ _ _ _ _ _ _ _ _ _ _ _ _ _ _ _ _ _ _ _ _ _ _ _ _ _ zuB w pz (ZA.row (la _ (.head _) _) ((zjV.weak (fun _ _ h=>y29 (Zle.y15 _ _ _) h)).weak (fun _ _ h=>y29 (Zle.left _ _) h)) ⟨w,pz.1⟩) ((((zjW.mono (Zle.y15 _ _ _)).weak (fun _ _ h=>y2j (Zle.y15 _ _ _) h)).mono (Zle.left _ _)).weak (fun _ _ h=>y2j (Zle.left _ _) h)) (ZA.row (la _ (.tail _ (.head _)) _) (RR.y1q (enc:=e64) (fun _=>rfl) _) ⟨w,pz.1⟩) (ZA.row (la _ (.tail _ (.tail _ (.head _))) _) (RR.y1q (enc:=e62) (fun _=>rfl) _) ⟨w,pz.1⟩) (ZA.row (la _ (.tail _ (.tail _ (.tail _ (.head _)))) _) ((zjX.weak (fun _ _ h=>y2a (Zle.y15 _ _ _) h)).weak (fun _ _ h=>y2a (Zle.left _ _) h)) ⟨w,pz.1⟩) ((zjY.mono (Zle.y15 _ _ _)).mono (Zle.left _ _)) ((((zjZ.mono (Zle.y15 _ _ _)).weak (fun _ _ h=>y2k (Zle.y15 _ _ _) h)).mono (Zle.left _ _)).weak (fun _ _ h=>y2k (Zle.left _ _) h)) ((zk0.mono (Zle.y15 _ _ _)).mono (Zle.left _ _)) (ZA.row (la _ (.tail _ (.tail _ (.tail _ (.tail _ (.head _))))) _) ((zuA.weak (fun _ _ h=>y4c (Zle.y15 _ _ _) h)).weak (fun _ _ h=>y4c (Zle.left _ _) h)) ⟨w,pz.1⟩) (ZA.row (la _ (.tail _ (.tail _ (.tail _ (.tail _ (.tail _ (.head _)))))) _) (RR.y1q (enc:=e53) (fun _=>rfl) _) ⟨w,pz.1⟩)) ?_
   rintro zgn zgo zgp zgq _
   refine WL.pu rfl (WL.pu rfl (WL.pu rfl (WL.pu rfl (WL.pu rfl (WL.pu rfl (WL.pu rfl (WL.nil (WX.a (WC.b (WC.a ?_))))))))))
   refine WL.a (d:=33) rfl rfl rfl (y1j (v:=(.agg #[(.int .i64 0),(.int .i64 1),(.int .i64 96)])) (Eos.parts (l:=[.const (.int .i64 0),.const (.int .i64 1),.const (.int .i64 96)]) (.cons rfl (.cons rfl (.cons rfl .nil))) [0,1,2]) (fun _=>by kernel_rfl)) ?_
   refine WL.a (d:=34) rfl rfl rfl (y1j (v:=(.agg #[(.int .i64 1),(.int .i64 1),(.int .i64 136)])) (Eos.parts (l:=[.const (.int .i64 1),.const (.int .i64 1),.const (.int .i64 136)]) (.cons rfl (.cons rfl (.cons rfl .nil))) [0,1,2]) (fun _=>by kernel_rfl)) ?_
   refine WL.new (dd:=35) rfl rfl rfl (y18 (cs:=([(⟨0,1,96⟩ : Sapi_Come),(⟨1,1,136⟩ : Sapi_Come)] : List Sapi_Come).flatMap e50) y19 (Eos.parts (l:=[.tmp 33,.tmp 34]) (.cons rfl (.cons rfl .nil)) [0,1]) (fun _=>by kernel_rfl) rfl (by unfold maxLen; omega)) ?_
   intro zuC _
   refine WL.new (dd:=36) rfl rfl rfl (y18 (cs:=([] : List Sapi_Come).flatMap e50) y19 (Eos.parts (l:=[]) .nil []) (fun _=>by kernel_rfl) rfl (by unfold maxLen; omega)) ?_
   intro zuD _
   refine WL.pu rfl (WL.pu rfl (WL.nil (WX.a ?_)))
   obtain ⟨zgb,zuE,h⟩:=y3c h
   refine WC.y7v (fun (z5G : List Sapi_Come) (z5H : List Sapi_Come) (zc2 : Option Addr) (zc3 : Nat) (zc4 : Option Addr) (zc5 : Nat)=>(zgb z5G z5H = some r)) (fun (z5G : List Sapi_Come) (z5H : List Sapi_Come) (zc2 : Option Addr) (zc3 : Nat) (zc4 : Option Addr) (zc5 : Nat)=>[(1,(.slice (some ⟨zbY,0,none⟩) (([(⟨0,0,40⟩ : zSt),(⟨10,0,40⟩ : zSt)] : List zSt).length) 2)),(3,(.int .i64 (nth ([1000,50,30] : List Int) z2a))),(4,(.pointer (some ⟨zgm,0,none⟩))),(6,(.slice zgn z2O.1.length zgo)),(7,(.slice zgp z2O.2.1.length zgq)),(8,(.int .i64 z2O.2.2)),(9,(.slice zc2 z5G.length zc3)),(10,(.slice zc4 z5H.length zc5)),(14,(.slice (some ⟨zc0,0,none⟩) (([1000,50,30] : List Int).length) 3)),(15,(.int .i64 ((([1000,50,30] : List Int).length : Nat) : Int))),(16,(.int .i64 z2a))]) (fun (z5G : List Sapi_Come) (z5H : List Sapi_Come) (zc2 : Option Addr) (zc3 : Nat) (zc4 : Option Addr) (zc5 : Nat)=>[fz (z5I ++ zgd),row (.slice (some ⟨zbY,0,none⟩) (([(⟨0,0,40⟩ : zSt),(⟨10,0,40⟩ : zSt)] : List zSt).length) 2) 53 3 (([(⟨0,0,40⟩ : zSt),(⟨10,0,40⟩ : zSt)] : List zSt).flatMap e53),row (.slice zgn z2O.1.length zgo) 50 3 (z2O.1.flatMap e50),row (.slice zgp z2O.2.1.length zgq) 50 3 (z2O.2.1.flatMap e50),row (.slice zc2 z5G.length zc3) 50 3 (z5G.flatMap e50),row (.slice zc4 z5H.length zc5) 50 3 (z5H.flatMap e50),row (.slice (some ⟨zc0,0,none⟩) (([1000,50,30] : List Int).length) 3) 3 1 (([1000,50,30] : List Int).flatMap e3),stb zgm 31 [(.slice zge z1j.1.fModules.length zgf),(.slice zoA z1j.1.fChannels.length zoB),(.slice zgg z1j.1.fSwitches.length zgh),(.slice zgi z1j.1.fLinks.length zgj),(.slice zgk z1j.1.fVLs.length zgl),(.slice zoD z1j.1.fHealth.length zoE),(.slice zoF z1j.1.fCauses.length zoG),(.slice zoH z1j.1.fVersions.length zoI)],row (.slice zge z1j.1.fModules.length zgf) 104 4 zoz,row (.slice zgg z1j.1.fSwitches.length zgh) 64 4 (z1j.1.fSwitches.flatMap e64),row (.slice zgi z1j.1.fLinks.length zgj) 62 4 (z1j.1.fLinks.flatMap e62),row (.slice zgk z1j.1.fVLs.length zgl) 109 7 zoC]) ?_ ?_
   ·skip
    refine WC.b (WC.a (WL.pu rfl (WL.pu rfl (WL.nil (WX.a ?_)))))
    refine WC.cond rfl (fun zk1=>?_) (fun zk1=>?_)
    ·replace h:=yl h zk1
     obtain ⟨zuF,h⟩:=yj h
     refine WC.a (WL.pu rfl ?_)
     refine WL.y6J (dd:=40) (enc:=e50) (ls:=([(⟨0,1,96⟩ : Sapi_Come),(⟨1,1,136⟩ : Sapi_Come)] : List Sapi_Come)) rfl rfl y19 rfl rfl .h1 (fun _=>rfl) zuF ?_
     intro zuG zuH
     refine WL.a (d:=41) rfl rfl rfl (y1j (v:=(.agg #[(.int .i64 1),(.int .i64 2),(.int .i64 80)])) (Eos.parts (l:=[.const (.int .i64 1),.const (.int .i64 2),.const (.int .i64 80)]) (.cons rfl (.cons rfl (.cons rfl .nil))) [0,1,2]) (fun _=>by kernel_rfl)) ?_
     refine WL.new (dd:=42) rfl rfl rfl (y18 (cs:=([(⟨1,2,80⟩ : Sapi_Come)] : List Sapi_Come).flatMap e50) y19 (Eos.parts (l:=[.tmp 41]) (.cons rfl .nil) [0]) (fun _=>by kernel_rfl) rfl (by unfold maxLen; omega)) ?_
     intro zuI _
     refine WL.pu rfl (WL.pu rfl (WL.nil ?_))
     exact WX.mid (G:=List Sapi_Come × List Sapi_Come × Option Addr × Nat × Option Addr × Nat) ⟨(([(⟨0,1,96⟩ : Sapi_Come),(⟨1,1,136⟩ : Sapi_Come)] : List Sapi_Come).take (1 : Int).toNat),([(⟨1,2,80⟩ : Sapi_Come)] : List Sapi_Come),zuG,zuH,(some ⟨zuI,0,none⟩),1⟩ h (.cons rfl (.cons rfl (.cons rfl (.cons rfl (.cons rfl (.cons rfl (.cons rfl (.cons rfl (.cons rfl (.cons rfl (.cons rfl .nil))))))))))) (.cons .h6 (.cons (.there (.there (.there (.there .h7)))) (.cons .h3 (.cons .h3 (.cons .h1 (.cons .here (.cons .h7 (.cons .h1 (.cons .h1 (.cons .h1 (.cons .h1 (.cons .h1 .nil))))))))))))
    ·replace h:=ym h zk1
     refine WC.skip ?_
     exact WX.mid (G:=List Sapi_Come × List Sapi_Come × Option Addr × Nat × Option Addr × Nat) ⟨([(⟨0,1,96⟩ : Sapi_Come),(⟨1,1,136⟩ : Sapi_Come)] : List Sapi_Come),([] : List Sapi_Come),(some ⟨zuC,0,none⟩),2,(some ⟨zuD,0,none⟩),0⟩ h (.cons rfl (.cons rfl (.cons rfl (.cons rfl (.cons rfl (.cons rfl (.cons rfl (.cons rfl (.cons rfl (.cons rfl (.cons rfl .nil))))))))))) (.cons .h5 (.cons (.there (.there (.there .h7))) (.cons .h2 (.cons .h2 (.cons .h1 (.cons .here (.cons .h6 (.cons .here (.cons .here (.cons .here (.cons .here (.cons .here .nil))))))))))))
   ·rintro z5G z5H zc2 zc3 zc4 zc5 h
    replace h:=(zuE z5G z5H).symm.trans h
    obtain ⟨zga,zuJ,h⟩:=y3c h
    refine WC.y7v (fun (z6S : List Sapi_Come) (z6T : List Sapi_Come) (zew : Option Addr) (zex : Nat) (zey : Option Addr) (zez : Nat)=>(zga z6S z6T = some r)) (fun (z6S : List Sapi_Come) (z6T : List Sapi_Come) (zew : Option Addr) (zex : Nat) (zey : Option Addr) (zez : Nat)=>[(1,(.slice (some ⟨zbY,0,none⟩) (([(⟨0,0,40⟩ : zSt),(⟨10,0,40⟩ : zSt)] : List zSt).length) 2)),(4,(.pointer (some ⟨zgm,0,none⟩))),(6,(.slice zgn z2O.1.length zgo)),(7,(.slice zgp z2O.2.1.length zgq)),(8,(.int .i64 z2O.2.2)),(9,(.slice zew z6S.length zex)),(10,(.slice zey z6T.length zez)),(14,(.slice (some ⟨zc0,0,none⟩) (([1000,50,30] : List Int).length) 3)),(15,(.int .i64 ((([1000,50,30] : List Int).length : Nat) : Int))),(16,(.int .i64 z2a))]) (fun (z6S : List Sapi_Come) (z6T : List Sapi_Come) (zew : Option Addr) (zex : Nat) (zey : Option Addr) (zez : Nat)=>[fz (z5I ++ zgd),row (.slice (some ⟨zbY,0,none⟩) (([(⟨0,0,40⟩ : zSt),(⟨10,0,40⟩ : zSt)] : List zSt).length) 2) 53 3 (([(⟨0,0,40⟩ : zSt),(⟨10,0,40⟩ : zSt)] : List zSt).flatMap e53),row (.slice zgn z2O.1.length zgo) 50 3 (z2O.1.flatMap e50),row (.slice zgp z2O.2.1.length zgq) 50 3 (z2O.2.1.flatMap e50),row (.slice zew z6S.length zex) 50 3 (z6S.flatMap e50),row (.slice zey z6T.length zez) 50 3 (z6T.flatMap e50),row (.slice (some ⟨zc0,0,none⟩) (([1000,50,30] : List Int).length) 3) 3 1 (([1000,50,30] : List Int).flatMap e3),stb zgm 31 [(.slice zge z1j.1.fModules.length zgf),(.slice zoA z1j.1.fChannels.length zoB),(.slice zgg z1j.1.fSwitches.length zgh),(.slice zgi z1j.1.fLinks.length zgj),(.slice zgk z1j.1.fVLs.length zgl),(.slice zoD z1j.1.fHealth.length zoE),(.slice zoF z1j.1.fCauses.length zoG),(.slice zoH z1j.1.fVersions.length zoI)],row (.slice zge z1j.1.fModules.length zgf) 104 4 zoz,row (.slice zgg z1j.1.fSwitches.length zgh) 64 4 (z1j.1.fSwitches.flatMap e64),row (.slice zgi z1j.1.fLinks.length zgj) 62 4 (z1j.1.fLinks.flatMap e62),row (.slice zgk z1j.1.fVLs.length zgl) 109 7 zoC]) ?_ ?_
    ·skip
     refine WC.b (WC.a (WL.pu rfl (WL.pu rfl (WL.nil (WX.a ?_)))))
     refine WC.cond rfl (fun zk2=>?_) (fun zk2=>?_)
     ·replace h:=yl h zk2
      refine WC.a ?_
      refine WL.a (d:=45) rfl rfl rfl (y1j (v:=(.agg #[(.int .i64 0),(.int .i64 2),(.int .i64 40)])) (Eos.parts (l:=[.const (.int .i64 0),.const (.int .i64 2),.const (.int .i64 40)]) (.cons rfl (.cons rfl (.cons rfl .nil))) [0,1,2]) (fun _=>by kernel_rfl)) ?_
      refine WL.a (d:=46) rfl rfl rfl (y1j (v:=(.agg #[(.int .i64 1),(.int .i64 2),(.int .i64 80)])) (Eos.parts (l:=[.const (.int .i64 1),.const (.int .i64 2),.const (.int .i64 80)]) (.cons rfl (.cons rfl (.cons rfl .nil))) [0,1,2]) (fun _=>by kernel_rfl)) ?_
      refine WL.new (dd:=47) rfl rfl rfl (y18 (cs:=([(⟨0,2,40⟩ : Sapi_Come),(⟨1,2,80⟩ : Sapi_Come)] : List Sapi_Come).flatMap e50) y19 (Eos.parts (l:=[.tmp 45,.tmp 46]) (.cons rfl (.cons rfl .nil)) [0,1]) (fun _=>by kernel_rfl) rfl (by unfold maxLen; omega)) ?_
      intro zuK _
      refine WL.pu rfl (WL.pu rfl (WL.nil ?_))
      refine WX.nilRow 50 3 ?_
      exact WX.mid (G:=List Sapi_Come × List Sapi_Come × Option Addr × Nat × Option Addr × Nat) ⟨([] : List Sapi_Come),([(⟨0,2,40⟩ : Sapi_Come),(⟨1,2,80⟩ : Sapi_Come)] : List Sapi_Come),none,0,(some ⟨zuK,0,none⟩),2⟩ h (.cons rfl (.cons rfl (.cons rfl (.cons rfl (.cons rfl (.cons rfl (.cons rfl (.cons rfl (.cons rfl (.cons rfl .nil)))))))))) (.cons .h2 (.cons .h2 (.cons .h2 (.cons .h2 (.cons .here (.cons .here (.cons .h2 (.cons .h2 (.cons .h2 (.cons .h2 (.cons .h2 (.cons .h2 .nil))))))))))))
     ·replace h:=ym h zk2
      refine WC.skip ?_
      exact WX.mid (G:=List Sapi_Come × List Sapi_Come × Option Addr × Nat × Option Addr × Nat) ⟨z5G,z5H,zc2,zc3,zc4,zc5⟩ h (.cons rfl (.cons rfl (.cons rfl (.cons rfl (.cons rfl (.cons rfl (.cons rfl (.cons rfl (.cons rfl (.cons rfl .nil)))))))))) (.cons .here (.cons .here (.cons .here (.cons .here (.cons .here (.cons .here (.cons .here (.cons .here (.cons .here (.cons .here (.cons .here (.cons .here .nil))))))))))))
    ·rintro z6S z6T zew zex zey zez h
     replace h:=(zuJ z6S z6T).symm.trans h
     refine WC.b ?_
     obtain ⟨zjQ,zoJ,h⟩:=zn h
     obtain ⟨zjR,zoK,h⟩:=zn h
     obtain ⟨zjS,zoL,h⟩:=zn h
     obtain ⟨zjT,zoM,h⟩:=zn h
     refine WC.a (WL.pu rfl (WL.pu rfl (WL.pu rfl ?_)))
     refine WL.seg false 4 50 (B:=zjQ) rfl rfl rfl rfl rfl rfl (fun h=>(Option.some.inj (yl zoJ h)).symm) (fun _ zuL=>?_) ?_
     ·skip
      have zeA:=ym zoJ zuL
      obtain ⟨zou,zuM,zeA⟩:=zn zeA
      replace zeA:=Option.some.inj zeA
      refine WL.pu rfl (WL.pu rfl ?_)
      refine WL.b (dd:=53) rfl rfl rfl (zF (l:=[.tmp 51,.tmp 52]) Try.call14 (.cons rfl (.cons rfl .nil))) .nil (cclz hz .nil .here (.cons .h2 (.cons .h3 .nil)) fun w pz ho la=>y6U _ _ _ _ _ _ _ _ zuM w pz (ZA.row (la _ (.head _) _) (RR.y1q (enc:=e50) (fun _=>rfl) _) ⟨w,pz.1⟩) (ZA.row (la _ (.tail _ (.head _)) _) (RR.y1q (enc:=e50) (fun _=>rfl) _) ⟨w,pz.1⟩)) ?_
      refine WL.pu rfl (WL.pu rfl ?_)
      exact WL.yu zeA rfl rfl .all
     refine WL.pu rfl ?_
     refine WL.seg false 4 56 (B:=zjR) rfl rfl rfl rfl rfl rfl (fun h=>(Option.some.inj (yl zoK h)).symm) (fun _ zuN=>?_) ?_
     ·skip
      have zeB:=ym zoK zuN
      obtain ⟨zov,zuO,zeB⟩:=zn zeB
      replace zeB:=Option.some.inj zeB
      refine WL.pu rfl (WL.pu rfl ?_)
      refine WL.b (dd:=59) rfl rfl rfl (zF (l:=[.tmp 57,.tmp 58]) Try.call14 (.cons rfl (.cons rfl .nil))) .nil (cclz hz .nil .here (.cons .h3 (.cons .h4 .nil)) fun w pz ho la=>y6U _ _ _ _ _ _ _ _ zuO w pz (ZA.row (la _ (.head _) _) (RR.y1q (enc:=e50) (fun _=>rfl) _) ⟨w,pz.1⟩) (ZA.row (la _ (.tail _ (.head _)) _) (RR.y1q (enc:=e50) (fun _=>rfl) _) ⟨w,pz.1⟩)) ?_
      refine WL.pu rfl (WL.pu rfl ?_)
      exact WL.yu zeB rfl rfl .all
     refine WL.pu rfl ?_
     refine WL.seg false 3 62 (B:=zjS) rfl rfl rfl rfl rfl rfl (fun h=>(Option.some.inj (yl zoL h)).symm) (fun _ zuP=>?_) ?_
     ·skip
      have zeC:=ym zoL zuP
      obtain ⟨zow,zuQ,zeC⟩:=zn zeC
      replace zeC:=Option.some.inj zeC
      refine WL.a (d:=63) rfl rfl rfl (yN y1L rfl (y1x .h7) rfl) ?_
      refine WL.b (dd:=64) rfl rfl rfl (zF (l:=[.tmp 63]) Try.call17 (.cons rfl .nil)) .nil (cclz hz .nil .here (.cons (.there .h7) (.cons (.there .h7) (.cons (.there .h7) (.cons (.there .h7) .nil)))) fun w pz ho la=>y4B _ _ _ _ _ _ _ _ _ _ _ _ _ _ _ _ _ _ _ zuQ w pz (ZA.row (la _ (.head _) _) ((zjV.weak (fun _ _ h=>y29 (Zle.y15 _ _ _) h)).weak (fun _ _ h=>y29 (Zle.left _ _) h)) ⟨w,pz.1⟩) ((((zjW.mono (Zle.y15 _ _ _)).weak (fun _ _ h=>y2j (Zle.y15 _ _ _) h)).mono (Zle.left _ _)).weak (fun _ _ h=>y2j (Zle.left _ _) h)) (ZA.row (la _ (.tail _ (.head _)) _) (RR.y1q (enc:=e64) (fun _=>rfl) _) ⟨w,pz.1⟩) (ZA.row (la _ (.tail _ (.tail _ (.head _))) _) (RR.y1q (enc:=e62) (fun _=>rfl) _) ⟨w,pz.1⟩) (ZA.row (la _ (.tail _ (.tail _ (.tail _ (.head _)))) _) ((zjX.weak (fun _ _ h=>y2a (Zle.y15 _ _ _) h)).weak (fun _ _ h=>y2a (Zle.left _ _) h)) ⟨w,pz.1⟩) ((zjY.mono (Zle.y15 _ _ _)).mono (Zle.left _ _)) ((((zjZ.mono (Zle.y15 _ _ _)).weak (fun _ _ h=>y2k (Zle.y15 _ _ _) h)).mono (Zle.left _ _)).weak (fun _ _ h=>y2k (Zle.left _ _) h)) ((zk0.mono (Zle.y15 _ _ _)).mono (Zle.left _ _))) ?_
      refine WL.pu rfl (WL.pu rfl ?_)
      exact WL.yu zeC rfl rfl .all
     refine WL.pu rfl ?_
     refine WL.seg false 3 67 (B:=zjT) rfl rfl rfl rfl rfl rfl (fun h=>(Option.some.inj (yl zoM h)).symm) (fun _ zuR=>?_) ?_
     ·skip
      have zeD:=ym zoM zuR
      obtain ⟨zox,zuS,zeD⟩:=zn zeD
      replace zeD:=Option.some.inj zeD
      refine WL.a (d:=68) rfl rfl rfl (yN y1L rfl (y1x .h7) rfl) ?_
      refine WL.b (dd:=69) rfl rfl rfl (zF (l:=[.tmp 68,.const (.int .i64 2)]) Try.call18 (.cons rfl (.cons rfl .nil))) .nil (cclz hz .nil .here (.cons (.there .h7) (.cons (.there .h7) (.cons (.there .h7) (.cons (.there .h7) .nil)))) fun w pz ho la=>y61 _ _ _ _ _ _ _ _ _ _ _ _ _ _ _ _ _ _ _ _ zuS w pz (ZA.row (la _ (.head _) _) ((zjV.weak (fun _ _ h=>y29 (Zle.y15 _ _ _) h)).weak (fun _ _ h=>y29 (Zle.left _ _) h)) ⟨w,pz.1⟩) ((((zjW.mono (Zle.y15 _ _ _)).weak (fun _ _ h=>y2j (Zle.y15 _ _ _) h)).mono (Zle.left _ _)).weak (fun _ _ h=>y2j (Zle.left _ _) h)) (ZA.row (la _ (.tail _ (.head _)) _) (RR.y1q (enc:=e64) (fun _=>rfl) _) ⟨w,pz.1⟩) (ZA.row (la _ (.tail _ (.tail _ (.head _))) _) (RR.y1q (enc:=e62) (fun _=>rfl) _) ⟨w,pz.1⟩) (ZA.row (la _ (.tail _ (.tail _ (.tail _ (.head _)))) _) ((zjX.weak (fun _ _ h=>y2a (Zle.y15 _ _ _) h)).weak (fun _ _ h=>y2a (Zle.left _ _) h)) ⟨w,pz.1⟩) ((zjY.mono (Zle.y15 _ _ _)).mono (Zle.left _ _)) ((((zjZ.mono (Zle.y15 _ _ _)).weak (fun _ _ h=>y2k (Zle.y15 _ _ _) h)).mono (Zle.left _ _)).weak (fun _ _ h=>y2k (Zle.left _ _) h)) ((zk0.mono (Zle.y15 _ _ _)).mono (Zle.left _ _))) ?_
      refine WL.a (d:=70) rfl rfl rfl (q_sneq rfl rfl) ?_
      refine WL.pu rfl ?_
      exact WL.yu zeD rfl rfl .all
     refine WL.nil (WX.a ?_)
     refine WC.cond rfl (fun zk3=>?_) (fun zk3=>?_)
     ·replace h:=yl h zk3
      refine WC.b (WC.a (WL.pu rfl (WL.nil (WX.a (WC.ret (WX.yz (WX.yf (WX.yf (WX.yz (WX.yf ?_))))))))))
      obtain rfl:=Option.some.inj h
      refine WX.yi Try.results11 (.tmp rfl .nil) (fun w hw=>?_)
      exact ⟨(z5I ++ zgd),y12 rfl,trivial,hw.sub (.cons .here .nil)⟩
     ·replace h:=ym h zk3
      refine WC.skip (WX.yh (WX.a (WC.a (WL.pu rfl (WL.pu rfl (WL.nil ?_))))))
      exact WX.round (G:=Nat × Int × Zp) ⟨zjP,(i64 (z2a + 1)),(z5I ++ zgd)⟩ ⟨h,(zoy.trans ((Zle.left _ _).trans (Zle.y15 _ _ _)))⟩ (Nat.lt_succ_self _) (.cons rfl (.cons rfl (.cons rfl (.cons rfl .nil)))) (.cons .here (.cons .here (.cons .h4 .nil)))
  ·replace h:=ym h zjU
   refine WC.exit (WX.yd (WX.yd (WX.yy ?_)))
   exact WX.mid (G:=Zp) z5I ⟨h,zoy⟩ .nil (.cons .here .nil)
 ·rintro zbZ ⟨h,zyX⟩
  replace h:=zuy.symm.trans h
  refine WC.b (WC.a (WL.pu rfl (WL.nil (WX.a (WC.ret ?_)))))
  obtain rfl:=Option.some.inj h
  refine WX.yi Try.results11 (.tmp rfl .nil) (fun w hw=>?_)
  exact ⟨zbZ,y12 rfl,trivial,hw.sub (.cons .here .nil)⟩
end Go.Proofs.Ytinchjigeakocaa

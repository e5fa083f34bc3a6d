/- A part of this claim's proof: models of functions, walks, plain laws. No conditions. -/
import Derived.Test.YtakfmdiiehcbdaaW03f
namespace Go.Proofs.Ytakfmdiiehcbdaa
open Go Go.RowKit Sep
set_option linter.all false
set_option maxRecDepth 30000
set_option maxHeartbeats 4000000
def yZ (z9N : (List zSt) → Option (List zSt)) : Nat → (List zSt) → (List zSt) → (List zSt) → Option (List zSt)
 | 0,_,_,_=>none
 | zgS + 1,z1H,z1E,z4J=>if decide ((i64 (((z1H.length : Nat) : Int) + ((z1E.length : Nat) : Int))) > 0) then chk ((decide (((z1E.length : Nat) : Int) = 0)) = false → ((decide (((z1H.length : Nat) : Int) > 0)) = true → ((0 : Int) ≤ 0 ∧ 0 < ((z1H.length : Nat) : Int)))) (chk ((decide (((z1E.length : Nat) : Int) = 0)) = false → ((decide (((z1H.length : Nat) : Int) > 0)) = true → ((0 : Int) ≤ 0 ∧ 0 < ((z1E.length : Nat) : Int)))) (if (decide (((z1E.length : Nat) : Int) = 0)) || ((decide (((z1H.length : Nat) : Int) > 0)) && (decide (((nth z1H 0).fTime) ≤ ((nth z1E 0).fTime)))) then chk ((0 : Int) ≤ 0 ∧ 0 < ((z1H.length : Nat) : Int)) (chk ((((z4J ++ ([(⟨((nth z1H 0).fTime),((nth z1H 0).fVL),((nth z1H 0).fSize)⟩ : zSt)] : List zSt)).length : Nat) : Int) * 24 ≤ 140737488355328 ∧ (((z4J ++ ([(⟨((nth z1H 0).fTime),((nth z1H 0).fVL),((nth z1H 0).fSize)⟩ : zSt)] : List zSt)).length : Nat) : Int) ≤ 4611686018427387904) (chk ((0 : Int) ≤ 1 ∧ (1 : Int) ≤ (z1H.length : Int) ∧ (z1H.length : Int) ≤ ((z1H.length : Nat) : Int)) (yZ z9N zgS (z1H.drop (1 : Int).toNat) z1E (z4J ++ ([(⟨((nth z1H 0).fTime),((nth z1H 0).fVL),((nth z1H 0).fSize)⟩ : zSt)] : List zSt))))) else chk ((0 : Int) ≤ 0 ∧ 0 < ((z1E.length : Nat) : Int)) (chk ((((z4J ++ ([(⟨((nth z1E 0).fTime),((nth z1E 0).fVL),((nth z1E 0).fSize)⟩ : zSt)] : List zSt)).length : Nat) : Int) * 24 ≤ 140737488355328 ∧ (((z4J ++ ([(⟨((nth z1E 0).fTime),((nth z1E 0).fVL),((nth z1E 0).fSize)⟩ : zSt)] : List zSt)).length : Nat) : Int) ≤ 4611686018427387904) (chk ((0 : Int) ≤ 1 ∧ (1 : Int) ≤ (z1E.length : Int) ∧ (z1E.length : Int) ≤ ((z1E.length : Nat) : Int)) (yZ z9N zgS z1H (z1E.drop (1 : Int).toNat) (z4J ++ ([(⟨((nth z1E 0).fTime),((nth z1E 0).fVL),((nth z1E 0).fSize)⟩ : zSt)] : List zSt))))))) else z9N z4J
theorem y6I {n : Nat} {z9N : (List zSt) → Option (List zSt)} {z1H : List zSt} {z1E : List zSt} {z4J : List zSt} {r : List zSt} (h : yZ z9N n z1H z1E z4J = some r) : ∃ m,n = m + 1:=by
 cases n with
 | zero=>cases h
 | succ m=>exact ⟨m,rfl⟩
def y3V (zb2 : List zSt) (zb3 : List zSt) : Option (List zSt) :=
 jp1 (fun (z9O : List zSt)=>some z9O) fun z9N=>yZ z9N yu zb2 zb3 ([] : List zSt)
set_option maxRecDepth 20000 in
theorem y8L (Z : Zp)  (zeP : Option Addr) (zeQ : Nat) (zeR : Option Addr) (zeS : Nat) (zb2 : List zSt) (zb3 : List zSt) (r : List zSt) (w₀ : World) (hz : PZ [] w₀ Z)
  (zz5 : ZS Z 3 (fun r x=>r = e51 x) zeP zeQ zb2)
  (zz6 : ZS Z 3 (fun r x=>r = e51 x) zeR zeS zb3)
  (h : y3V zb2 zb3 = some r) :
  Calls Try.prog 13 #[(.slice zeP zb2.length zeQ),(.slice zeR zb3.length zeS)] w₀ fun e w'=>∃ zrv : Option Addr,∃ zrw : Nat,e = .returned (.slice zrv r.length zrw) ∧ True ∧ Hp [] w₀ w' [row (.slice zrv r.length zrw) 51 3 (r.flatMap e51)]:=by
 unfold y3V at h
 refine Calls.yd (vs:=[(.slice zeP zb2.length zeQ),(.slice zeR zb3.length zeS)]) (pre:=[]) (env:=[(0,(.slice zeP zb2.length zeQ)),(1,(.slice zeR zb3.length zeS))]) Try.func13 rfl Try.ntmps13 rfl (Hp.nil w₀ _) rfl ?_
 refine WC.b ?_
 refine WC.a ?_
 refine WL.a (d:=4) rfl rfl rfl (q_z rfl) ?_
 refine WL.nil ?_
 refine WX.a ?_
 refine WC.b ?_
 refine WC.a ?_
 refine WL.a (d:=5) rfl rfl rfl (q_z rfl) ?_
 refine WL.nil ?_
 refine WX.a ?_
 obtain ⟨z9N,zz7,h⟩:=y1h h
 refine WC.y2O (fun (z9O : List zSt) (zeT : Option Addr) (zeU : Nat)=>(z9N z9O = some r)) (fun (z9O : List zSt) (zeT : Option Addr) (zeU : Nat)=>[(5,(.slice zeT z9O.length zeU))]) (fun (z9O : List zSt) (zeT : Option Addr) (zeU : Nat)=>[row (.slice zeT z9O.length zeU) 51 3 (z9O.flatMap e51)]) ?_ ?_
 ·skip
  refine WC.block ?_
  refine WC.nilRow 51 3 ?_
  refine WC.yad (fun (zeV : Nat) (z1H : List zSt) (z1E : List zSt) (z4J : List zSt) (z8Q : Option Addr) (z8R : Nat) (z8g : Option Addr) (z8h : Nat) (zb4 : Option Addr) (zb5 : Nat)=>(yZ z9N zeV z1H z1E z4J = some r) ∧ (ZS Z 3 (fun r x=>r = e51 x) z8Q z8R z1H) ∧ (ZS Z 3 (fun r x=>r = e51 x) z8g z8h z1E)) (fun (zeV : Nat) (z1H : List zSt) (z1E : List zSt) (z4J : List zSt) (z8Q : Option Addr) (z8R : Nat) (z8g : Option Addr) (z8h : Nat) (zb4 : Option Addr) (zb5 : Nat)=>[(0,(.slice z8Q z1H.length z8R)),(1,(.slice z8g z1E.length z8h)),(5,(.slice zb4 z4J.length zb5))]) (fun (zeV : Nat) (z1H : List zSt) (z1E : List zSt) (z4J : List zSt) (z8Q : Option Addr) (z8R : Nat) (z8g : Option Addr) (z8h : Nat) (zb4 : Option Addr) (zb5 : Nat)=>[row (.slice zb4 z4J.length zb5) 51 3 (z4J.flatMap e51)]) (fun (zeV : Nat) (z1H : List zSt) (z1E : List zSt) (z4J : List zSt) (z8Q : Option Addr) (z8R : Nat) (z8g : Option Addr) (z8h : Nat) (zb4 : Option Addr) (zb5 : Nat)=>zeV) ⟨yu,zb2,zb3,([] : List zSt),zeP,zeQ,zeR,zeS,none,0⟩ ⟨h,zz5,zz6⟩ (.cons rfl (.cons rfl (.cons rfl .nil))) (.cons .here .nil) ?_
  rintro zeV z1H z1E z4J z8Q z8R z8g z8h zb4 zb5 ⟨h,ziU,ziV⟩
  obtain ⟨zgS,rfl⟩:=y6I h
  rw [yZ] at h
  refine WC.b ?_
  refine WC.b ?_
  refine WC.a ?_
  refine WL.a (d:=6) rfl rfl rfl (q_m rfl) ?_
  refine WL.a (d:=7) rfl rfl rfl (y10 Try.underlying24 rfl) ?_
  refine WL.a (d:=8) rfl rfl rfl (q_m rfl) ?_
  refine WL.a (d:=9) rfl rfl rfl (y10 Try.underlying24 rfl) ?_
  refine WL.a (d:=10) rfl rfl rfl (yW rfl rfl rfl) ?_
  refine WL.a (d:=11) rfl rfl rfl (y2F rfl rfl) ?_
  refine WL.nil ?_
  refine WX.a ?_
  refine WC.cond rfl (fun znB=>?_) (fun znB=>?_)
  ·replace h:=yh h znB
   refine WC.skip ?_
   refine WX.a ?_
   refine WC.block ?_
   refine WC.b ?_
   obtain ⟨zz8,h⟩:=yl h
   obtain ⟨zz9,h⟩:=yl h
   refine WC.yY (fun i=>[].contains i) [] rfl ?_
   refine WD.a (i:=0) (d:=12) (by kernel_rfl) rfl (z8 (by kernel_rfl)) (za (by kernel_rfl)) rfl rfl rfl (fun _=>q_m rfl) ?_
   refine WD.a (i:=1) (d:=13) (by kernel_rfl) rfl (z8 (by kernel_rfl)) (za (by kernel_rfl)) rfl rfl rfl (fun _=>y10 Try.underlying24 rfl) ?_
   refine WD.a (i:=2) (d:=14) (by kernel_rfl) rfl (z8 (by kernel_rfl)) (za (by kernel_rfl)) rfl rfl rfl (fun _=>y4C rfl rfl) ?_
   refine WD.a (i:=3) (d:=15) (by kernel_rfl) rfl (z8 (by kernel_rfl)) (za (by kernel_rfl)) rfl rfl rfl (fun _=>q_m rfl) ?_
   refine WD.mid (fuel':=0) [(0,(.slice z8Q z1H.length z8R)),(1,(.slice z8g z1E.length z8h)),(5,(.slice zb4 z4J.length zb5)),(6,(.slice z8Q z1H.length z8R)),(7,(.int .i64 ((z1H.length : Nat) : Int))),(8,(.slice z8g z1E.length z8h)),(9,(.int .i64 ((z1E.length : Nat) : Int))),(10,(.int .i64 (i64 (((z1H.length : Nat) : Int) + ((z1E.length : Nat) : Int))))),(11,(.bool (decide ((i64 (((z1H.length : Nat) : Int) + ((z1E.length : Nat) : Int))) > 0)))),(12,(.slice z8g z1E.length z8h)),(13,(.int .i64 ((z1E.length : Nat) : Int))),(14,(.bool (decide (((z1E.length : Nat) : Int) = 0)))),(15,(.bool (decide (((z1E.length : Nat) : Int) = 0)))),(30,(.bool ((decide (((z1E.length : Nat) : Int) = 0)) || ((decide (((z1H.length : Nat) : Int) > 0)) && (decide (((nth z1H 0).fTime) ≤ ((nth z1E 0).fTime)))))))] (y1n 19 [18,17,16,15,14,13,12,11,10,9,8,7,6,5,4,3,2,1,0]) ?_ (fun zrx=>?_)
   rotate_left
   ·rcases Bool.eq_false_or_eq_true (decide (((z1E.length : Nat) : Int) = 0)) with hb' | hb'
    ·have znC:=hb'; clear hb'
     refine WD.pin (i:=15) rfl znC ?_
     refine WD.b (i:=4) (d:=16) (by kernel_rfl) rfl (z8 (by kernel_rfl)) (za (by kernel_rfl)) rfl rfl rfl ?_
     refine WD.b (i:=5) (d:=17) (by kernel_rfl) rfl (z8 (by kernel_rfl)) (za (by kernel_rfl)) rfl rfl rfl ?_
     refine WD.b (i:=6) (d:=18) (by kernel_rfl) rfl (z8 (by kernel_rfl)) (za (by kernel_rfl)) rfl rfl rfl ?_
     refine WD.b (i:=7) (d:=19) (by kernel_rfl) rfl (z8 (by kernel_rfl)) (za (by kernel_rfl)) rfl rfl rfl ?_
     refine WD.b (i:=8) (d:=20) (by kernel_rfl) rfl (z8 (by kernel_rfl)) (za (by kernel_rfl)) rfl rfl rfl ?_
     refine WD.b (i:=9) (d:=21) (by kernel_rfl) rfl (z8 (by kernel_rfl)) (za (by kernel_rfl)) rfl rfl rfl ?_
     refine WD.b (i:=10) (d:=22) (by kernel_rfl) rfl (z8 (by kernel_rfl)) (za (by kernel_rfl)) rfl rfl rfl ?_
     refine WD.b (i:=11) (d:=23) (by kernel_rfl) rfl (z8 (by kernel_rfl)) (za (by kernel_rfl)) rfl rfl rfl ?_
     refine WD.b (i:=12) (d:=24) (by kernel_rfl) rfl (z8 (by kernel_rfl)) (za (by kernel_rfl)) rfl rfl rfl ?_
     refine WD.b (i:=13) (d:=25) (by kernel_rfl) rfl (z8 (by kernel_rfl)) (za (by kernel_rfl)) rfl rfl rfl ?_
     refine WD.b (i:=14) (d:=26) (by kernel_rfl) rfl (z8 (by kernel_rfl)) (za (by kernel_rfl)) rfl rfl rfl ?_
     refine WD.b (i:=15) (d:=27) (by kernel_rfl) rfl (z8 (by kernel_rfl)) (za (by kernel_rfl)) rfl rfl rfl ?_
     refine WD.b (i:=16) (d:=28) (by kernel_rfl) rfl (z8 (by kernel_rfl)) (za (by kernel_rfl)) rfl rfl rfl ?_
     refine WD.b (i:=17) (d:=29) (by kernel_rfl) rfl (z8 (by kernel_rfl)) (za (by kernel_rfl)) rfl rfl rfl ?_
     refine WD.a (i:=18) (d:=30) (by kernel_rfl) rfl (z8 (by kernel_rfl)) (za (by kernel_rfl)) rfl rfl rfl (fun _=>ys rfl rfl) ?_
     refine WD.yC (.cons .here .nil) ?_ zrx
     exact (.cons rfl (.cons rfl (.cons rfl (.cons rfl (.cons rfl (.cons rfl (.cons rfl (.cons rfl (.cons rfl (.cons rfl (.cons rfl (.cons rfl (.cons (zr (Eq.symm znC)) (.cons (zr (y4s znC)) .nil))))))))))))))
    ·have zgT:=hb'; clear hb'
     have zza:=zz8 zgT
     have zzb:=zz9 zgT
     refine WD.pin (i:=15) rfl zgT ?_
     refine WD.a (i:=4) (d:=16) (by kernel_rfl) rfl (z8 (by kernel_rfl)) (za (by kernel_rfl)) rfl rfl rfl (fun _=>q_m rfl) ?_
     refine WD.a (i:=5) (d:=17) (by kernel_rfl) rfl (z8 (by kernel_rfl)) (za (by kernel_rfl)) rfl rfl rfl (fun _=>y10 Try.underlying24 rfl) ?_
     refine WD.a (i:=6) (d:=18) (by kernel_rfl) rfl (z8 (by kernel_rfl)) (za (by kernel_rfl)) rfl rfl rfl (fun _=>y2F rfl rfl) ?_
     refine WD.a (i:=7) (d:=19) (by kernel_rfl) rfl (z8 (by kernel_rfl)) (za (by kernel_rfl)) rfl rfl rfl (fun _=>q_m rfl) ?_
     refine WD.mid (fuel':=1) [(0,(.slice z8Q z1H.length z8R)),(1,(.slice z8g z1E.length z8h)),(5,(.slice zb4 z4J.length zb5)),(6,(.slice z8Q z1H.length z8R)),(7,(.int .i64 ((z1H.length : Nat) : Int))),(8,(.slice z8g z1E.length z8h)),(9,(.int .i64 ((z1E.length : Nat) : Int))),(10,(.int .i64 (i64 (((z1H.length : Nat) : Int) + ((z1E.length : Nat) : Int))))),(11,(.bool (decide ((i64 (((z1H.length : Nat) : Int) + ((z1E.length : Nat) : Int))) > 0)))),(12,(.slice z8g z1E.length z8h)),(13,(.int .i64 ((z1E.length : Nat) : Int))),(14,(.bool (decide (((z1E.length : Nat) : Int) = 0)))),(15,(.bool false)),(16,(.slice z8Q z1H.length z8R)),(17,(.int .i64 ((z1H.length : Nat) : Int))),(18,(.bool (decide (((z1H.length : Nat) : Int) > 0)))),(19,(.bool (decide (((z1H.length : Nat) : Int) > 0)))),(29,(.bool ((decide (((z1H.length : Nat) : Int) > 0)) && (decide (((nth z1H 0).fTime) ≤ ((nth z1E 0).fTime))))))] (y1n 19 [17,16,15,14,13,12,11,10,9,8,7,6,5,4,3,2,1,0]) ?_ (fun zry=>?_)
     rotate_left
     ·rcases Bool.eq_false_or_eq_true (decide (((z1H.length : Nat) : Int) > 0)) with hb' | hb'
      ·have zgU:=hb'; clear hb'
       have zzc:=zza zgU
       have zzd:=zzb zgU
       refine WD.pin (i:=19) rfl zgU ?_
       refine WD.a (i:=8) (d:=20) (by kernel_rfl) rfl (z8 (by kernel_rfl)) (za (by kernel_rfl)) rfl rfl rfl (fun _=>q_m rfl) ?_
       refine WD.znth (j:=9) (dd:=21) (by kernel_rfl) rfl (z8 (by kernel_rfl)) (za (by kernel_rfl)) rfl rfl (Z:=Z) (Pr:=(fun r x=>r = e51 x)) y2l rfl rfl ziU zzc ?_
       rintro zCH zCI zze zCJ rfl
       refine WD.a (i:=10) (d:=22) (by kernel_rfl) rfl (z8 (by kernel_rfl)) (za (by kernel_rfl)) rfl rfl rfl (fun _=>y3 y3y rfl rfl) ?_
       refine WD.e (i:=11) (d:=23) (by kernel_rfl) rfl (z8 (by kernel_rfl)) (za (by kernel_rfl)) rfl rfl rfl (ya yw rfl (y1J hz.pv zze rfl)) ?_
       refine WD.a (i:=12) (d:=24) (by kernel_rfl) rfl (z8 (by kernel_rfl)) (za (by kernel_rfl)) rfl rfl rfl (fun _=>q_m rfl) ?_
       refine WD.znth (j:=13) (dd:=25) (by kernel_rfl) rfl (z8 (by kernel_rfl)) (za (by kernel_rfl)) rfl rfl (Z:=Z) (Pr:=(fun r x=>r = e51 x)) y2l rfl rfl ziV zzd ?_
       rintro zCK zCL zzf zCM rfl
       refine WD.a (i:=14) (d:=26) (by kernel_rfl) rfl (z8 (by kernel_rfl)) (za (by kernel_rfl)) rfl rfl rfl (fun _=>y3 y3y rfl rfl) ?_
       refine WD.e (i:=15) (d:=27) (by kernel_rfl) rfl (z8 (by kernel_rfl)) (za (by kernel_rfl)) rfl rfl rfl (ya yw rfl (y1J hz.pv zzf rfl)) ?_
       refine WD.a (i:=16) (d:=28) (by kernel_rfl) rfl (z8 (by kernel_rfl)) (za (by kernel_rfl)) rfl rfl rfl (fun _=>y5A rfl rfl) ?_
       refine WD.a (i:=17) (d:=29) (by kernel_rfl) rfl (z8 (by kernel_rfl)) (za (by kernel_rfl)) rfl rfl rfl (fun _=>ys rfl rfl) ?_
       refine WD.yC (.cons .here .nil) ?_ zry
       exact (.cons rfl (.cons rfl (.cons rfl (.cons rfl (.cons rfl (.cons rfl (.cons rfl (.cons rfl (.cons rfl (.cons rfl (.cons rfl (.cons rfl (.cons rfl (.cons rfl (.cons rfl (.cons rfl (.cons (zr (Eq.symm zgU)) (.cons (zr (y4E zgU)) .nil))))))))))))))))))
      ·have znD:=hb'; clear hb'
       refine WD.pin (i:=19) rfl znD ?_
       refine WD.b (i:=8) (d:=20) (by kernel_rfl) rfl (z8 (by kernel_rfl)) (za (by kernel_rfl)) rfl rfl rfl ?_
       refine WD.b (i:=9) (d:=21) (by kernel_rfl) rfl (z8 (by kernel_rfl)) (za (by kernel_rfl)) rfl rfl rfl ?_
       refine WD.b (i:=10) (d:=22) (by kernel_rfl) rfl (z8 (by kernel_rfl)) (za (by kernel_rfl)) rfl rfl rfl ?_
       refine WD.b (i:=11) (d:=23) (by kernel_rfl) rfl (z8 (by kernel_rfl)) (za (by kernel_rfl)) rfl rfl rfl ?_
       refine WD.b (i:=12) (d:=24) (by kernel_rfl) rfl (z8 (by kernel_rfl)) (za (by kernel_rfl)) rfl rfl rfl ?_
       refine WD.b (i:=13) (d:=25) (by kernel_rfl) rfl (z8 (by kernel_rfl)) (za (by kernel_rfl)) rfl rfl rfl ?_
       refine WD.b (i:=14) (d:=26) (by kernel_rfl) rfl (z8 (by kernel_rfl)) (za (by kernel_rfl)) rfl rfl rfl ?_
       refine WD.b (i:=15) (d:=27) (by kernel_rfl) rfl (z8 (by kernel_rfl)) (za (by kernel_rfl)) rfl rfl rfl ?_
       refine WD.b (i:=16) (d:=28) (by kernel_rfl) rfl (z8 (by kernel_rfl)) (za (by kernel_rfl)) rfl rfl rfl ?_
       refine WD.a (i:=17) (d:=29) (by kernel_rfl) rfl (z8 (by kernel_rfl)) (za (by kernel_rfl)) rfl rfl rfl (fun _=>yr rfl rfl) ?_
       refine WD.yC (.cons .here .nil) ?_ zry
       exact (.cons rfl (.cons rfl (.cons rfl (.cons rfl (.cons rfl (.cons rfl (.cons rfl (.cons rfl (.cons rfl (.cons rfl (.cons rfl (.cons rfl (.cons rfl (.cons rfl (.cons rfl (.cons rfl (.cons (zr (Eq.symm znD)) (.cons (zr (y4D znD)) .nil))))))))))))))))))
     refine WD.a (i:=18) (d:=30) (by kernel_rfl) rfl (z8 (by kernel_rfl)) (za (by kernel_rfl)) rfl rfl rfl (fun _=>yr rfl rfl) ?_
     refine WD.yC (.cons .here .nil) ?_ zrx
     exact (.cons rfl (.cons rfl (.cons rfl (.cons rfl (.cons rfl (.cons rfl (.cons rfl (.cons rfl (.cons rfl (.cons rfl (.cons rfl (.cons rfl (.cons (zr (Eq.symm zgT)) (.cons (zr (y4t zgT)) .nil))))))))))))))
   refine WD.done (by kernel_rfl) ?_
   refine WX.a ?_
   refine WC.cond rfl (fun znE=>?_) (fun znE=>?_)
   ·replace h:=yh h znE
    obtain ⟨zzg,h⟩:=yl h
    obtain ⟨zzh,h⟩:=yl h
    obtain ⟨zzi,h⟩:=yl h
    refine WC.yY (fun i=>[5].contains i) [] rfl ?_
    refine WD.a (i:=0) (d:=31) (by kernel_rfl) rfl (z8 (by kernel_rfl)) (za (by kernel_rfl)) rfl rfl rfl (fun _=>q_m rfl) ?_
    refine WD.a (i:=1) (d:=32) (by kernel_rfl) rfl (z8 (by kernel_rfl)) (za (by kernel_rfl)) rfl rfl rfl (fun _=>q_m rfl) ?_
    refine WD.znth (j:=2) (dd:=33) (by kernel_rfl) rfl (z8 (by kernel_rfl)) (za (by kernel_rfl)) rfl rfl (Z:=Z) (Pr:=(fun r x=>r = e51 x)) y2l rfl rfl ziU zzg ?_
    rintro zCN zCO zzj zCP rfl
    refine WD.e (i:=3) (d:=34) (by kernel_rfl) rfl (z8 (by kernel_rfl)) (za (by kernel_rfl)) rfl rfl rfl (y4 (cs:=[(.int .i64 ((nth z1H 0).fTime)),(.int .i64 ((nth z1H 0).fVL)),(.int .i64 ((nth z1H 0).fSize))]) y5Q rfl rfl (y2P hz.pv zzj)) ?_
    refine WD.a (i:=6) (d:=37) (by kernel_rfl) rfl (z8 (by kernel_rfl)) (za (by kernel_rfl)) rfl rfl rfl (fun _=>q_m rfl) ?_
    refine WD.zsub (j:=7) (dd:=38) (by kernel_rfl) rfl (z8 (by kernel_rfl)) (za (by kernel_rfl)) rfl rfl (Z:=Z) (Pr:=(fun r x=>r = e51 x)) y2l rfl ziU (fun _=>ixo rfl) (fun _=>ixn) rfl rfl zzi (by rw [Int.toNat_natCast,List.take_length]) ?_
    rintro zzk zzl zzm
    refine WD.new (i:=4) (dd:=35) rfl (by kernel_rfl) rfl rfl rfl (yB (cs:=([(⟨((nth z1H 0).fTime),((nth z1H 0).fVL),((nth z1H 0).fSize)⟩ : zSt)] : List zSt).flatMap e51) y2l (Eos.parts (l:=[.tmp 34]) (.cons rfl .nil) [0]) (fun _=>by kernel_rfl) rfl (by unfold maxLen; omega)) (fun h'=>absurd h' (by decide)) ?_
    intro zCQ _
    refine WD.old (i:=5) (dd:=36) rfl (by kernel_rfl) rfl rfl rfl rfl (fun _=>(Sin.of .nil)) (y4c (enc:=e51) (l1:=z4J) (l2:=([(⟨((nth z1H 0).fTime),((nth z1H 0).fVL),((nth z1H 0).fSize)⟩ : zSt)] : List zSt)) y2l rfl rfl .h1 (fun _=>rfl) rfl rfl (y4a .here) (y4L y8Z _) zzh) ?_
    rintro ⟨zzn,zzo⟩ _
    refine WD.a (i:=8) (d:=5) (by kernel_rfl) rfl (z8 (by kernel_rfl)) (za (by kernel_rfl)) rfl rfl rfl (fun _=>q_z rfl) ?_
    refine WD.a (i:=9) (d:=0) (by kernel_rfl) rfl (z8 (by kernel_rfl)) (za (by kernel_rfl)) rfl rfl rfl (fun _=>q_z rfl) ?_
    refine WD.done (by kernel_rfl) ?_
    refine WX.yg ?_
    exact WX.round (G:=Nat × List zSt × List zSt × List zSt × Option Addr × Nat × Option Addr × Nat × Option Addr × Nat) ⟨zgS,(z1H.drop (1 : Int).toNat),z1E,(z4J ++ ([(⟨((nth z1H 0).fTime),((nth z1H 0).fVL),((nth z1H 0).fSize)⟩ : zSt)] : List zSt)),zzk,zzl,z8g,z8h,zzn,zzo⟩ ⟨h,zzm,ziV⟩ (Nat.lt_succ_self _) (.cons rfl (.cons rfl (.cons rfl .nil))) (.cons .here .nil)
   ·replace h:=yi h znE
    obtain ⟨zzp,h⟩:=yl h
    obtain ⟨zzq,h⟩:=yl h
    obtain ⟨zzr,h⟩:=yl h
    refine WC.yY (fun i=>[5].contains i) [] rfl ?_
    refine WD.a (i:=0) (d:=39) (by kernel_rfl) rfl (z8 (by kernel_rfl)) (za (by kernel_rfl)) rfl rfl rfl (fun _=>q_m rfl) ?_
    refine WD.a (i:=1) (d:=40) (by kernel_rfl) rfl (z8 (by kernel_rfl)) (za (by kernel_rfl)) rfl rfl rfl (fun _=>q_m rfl) ?_
    refine WD.znth (j:=2) (dd:=41) (by kernel_rfl) rfl (z8 (by kernel_rfl)) (za (by kernel_rfl)) rfl rfl (Z:=Z) (Pr:=(fun r x=>r = e51 x)) y2l rfl rfl ziV zzp ?_
    rintro zCR zCS zzs zCT rfl
    refine WD.e (i:=3) (d:=42) (by kernel_rfl) rfl (z8 (by kernel_rfl)) (za (by kernel_rfl)) rfl rfl rfl (y4 (cs:=[(.int .i64 ((nth z1E 0).fTime)),(.int .i64 ((nth z1E 0).fVL)),(.int .i64 ((nth z1E 0).fSize))]) y5Q rfl rfl (y2P hz.pv zzs)) ?_
    refine WD.a (i:=6) (d:=45) (by kernel_rfl) rfl (z8 (by kernel_rfl)) (za (by kernel_rfl)) rfl rfl rfl (fun _=>q_m rfl) ?_
    refine WD.zsub (j:=7) (dd:=46) (by kernel_rfl) rfl (z8 (by kernel_rfl)) (za (by kernel_rfl)) rfl rfl (Z:=Z) (Pr:=(fun r x=>r = e51 x)) y2l rfl ziV (fun _=>ixo rfl) (fun _=>ixn) rfl rfl zzr (by rw [Int.toNat_natCast,List.take_length]) ?_
    rintro zzt zzu zzv
    refine WD.new (i:=4) (dd:=43) rfl (by kernel_rfl) rfl rfl rfl (yB (cs:=([(⟨((nth z1E 0).fTime),((nth z1E 0).fVL),((nth z1E 0).fSize)⟩ : zSt)] : List zSt).flatMap e51) y2l (Eos.parts (l:=[.tmp 42]) (.cons rfl .nil) [0]) (fun _=>by kernel_rfl) rfl (by unfold maxLen; omega)) (fun h'=>absurd h' (by decide)) ?_
    intro zCU _
    refine WD.old (i:=5) (dd:=44) rfl (by kernel_rfl) rfl rfl rfl rfl (fun _=>(Sin.of .nil)) (y4c (enc:=e51) (l1:=z4J) (l2:=([(⟨((nth z1E 0).fTime),((nth z1E 0).fVL),((nth z1E 0).fSize)⟩ : zSt)] : List zSt)) y2l rfl rfl .h1 (fun _=>rfl) rfl rfl (y4a .here) (y4L y8Z _) zzq) ?_
    rintro ⟨zzw,zzx⟩ _
    refine WD.a (i:=8) (d:=5) (by kernel_rfl) rfl (z8 (by kernel_rfl)) (za (by kernel_rfl)) rfl rfl rfl (fun _=>q_z rfl) ?_
    refine WD.a (i:=9) (d:=1) (by kernel_rfl) rfl (z8 (by kernel_rfl)) (za (by kernel_rfl)) rfl rfl rfl (fun _=>q_z rfl) ?_
    refine WD.done (by kernel_rfl) ?_
    refine WX.yg ?_
    exact WX.round (G:=Nat × List zSt × List zSt × List zSt × Option Addr × Nat × Option Addr × Nat × Option Addr × Nat) ⟨zgS,z1H,(z1E.drop (1 : Int).toNat),(z4J ++ ([(⟨((nth z1E 0).fTime),((nth z1E 0).fVL),((nth z1E 0).fSize)⟩ : zSt)] : List zSt)),z8Q,z8R,zzt,zzu,zzw,zzx⟩ ⟨h,ziU,zzv⟩ (Nat.lt_succ_self _) (.cons rfl (.cons rfl (.cons rfl .nil))) (.cons .here .nil)
  ·replace h:=yi h znB
   refine WC.exit ?_
   refine WX.ye ?_
   refine WX.ye ?_
   refine WX.yx ?_
   exact WX.mid (G:=List zSt × Option Addr × Nat) ⟨z4J,zb4,zb5⟩ h (.cons rfl .nil) (.cons .here .nil)
 ·rintro z9O zeT zeU h
  replace h:=(zz7 z9O).symm.trans h
  refine WC.b ?_
  refine WC.a ?_
  refine WL.a (d:=47) rfl rfl rfl (q_m rfl) ?_
  refine WL.a (d:=4) rfl rfl rfl (q_z rfl) ?_
  refine WL.nil ?_
  refine WX.a ?_
  refine WC.ret ?_
  obtain rfl:=Option.some.inj h
  refine WX.y7 Try.results13 (.tmp rfl .nil) (fun w hw=>?_)
  exact ⟨zeT,zeU,yD rfl,trivial,hw.sub (.cons .here .nil)⟩
end Go.Proofs.Ytakfmdiiehcbdaa

/- A part of this claim's proof: models of functions, walks, plain laws. No conditions. -/
import Derived.Test.YtjdnejbngloieaaDoorW26pc
namespace Go.Proofs.YtjdnejbngloieaaDoor
open Go Go.RowKit Sep
set_option linter.all false
set_option maxRecDepth 30000
set_option maxHeartbeats 4000000
def y1o (zP : List Sapi_Ins) (zu : List Sapi_Ins) (z4W : Option Bool) : Nat → Int → Option Bool
 | 0,_=>none
 | zcN + 1,zy=>if decide (zy < ((((zP ++ yj).take (i64 (((zu.length : Nat) : Int) + 12) : Int).toNat).length : Nat) : Int)) then chk ((decide (zy < ((zu.length : Nat) : Int))) = true → ((0 : Int) ≤ zy ∧ zy < ((((zP ++ yj).take (i64 (((zu.length : Nat) : Int) + 12) : Int).toNat).length : Nat) : Int))) (chk ((decide (zy < ((zu.length : Nat) : Int))) = true → ((0 : Int) ≤ zy ∧ zy < ((zu.length : Nat) : Int))) ((if (decide (zy < ((zu.length : Nat) : Int))) && (!(decide ((⟨((nth ((zP ++ yj).take (i64 (((zu.length : Nat) : Int) + 12) : Int).toNat) zy).fOp),((nth ((zP ++ yj).take (i64 (((zu.length : Nat) : Int) + 12) : Int).toNat) zy).fA),((nth ((zP ++ yj).take (i64 (((zu.length : Nat) : Int) + 12) : Int).toNat) zy).fB),((nth ((zP ++ yj).take (i64 (((zu.length : Nat) : Int) + 12) : Int).toNat) zy).fC)⟩ : Sapi_Ins) = (⟨((nth zu zy).fOp),((nth zu zy).fA),((nth zu zy).fB),((nth zu zy).fC)⟩ : Sapi_Ins)))) then some true else (if decide (zy ≥ ((zu.length : Nat) : Int)) then chk ((0 : Int) ≤ zy ∧ zy < ((((zP ++ yj).take (i64 (((zu.length : Nat) : Int) + 12) : Int).toNat).length : Nat) : Int)) ((y2N 1 (i64 (zy - ((zu.length : Nat) : Int)))).bind fun zcO=>some (!(decide ((⟨((nth ((zP ++ yj).take (i64 (((zu.length : Nat) : Int) + 12) : Int).toNat) zy).fOp),((nth ((zP ++ yj).take (i64 (((zu.length : Nat) : Int) + 12) : Int).toNat) zy).fA),((nth ((zP ++ yj).take (i64 (((zu.length : Nat) : Int) + 12) : Int).toNat) zy).fB),((nth ((zP ++ yj).take (i64 (((zu.length : Nat) : Int) + 12) : Int).toNat) zy).fC)⟩ : Sapi_Ins) = zcO)))) else some false).bind fun zcP=>some zcP).bind fun zcQ=>if zcQ then some false else y1o zP zu z4W zcN (i64 (zy + 1)))) else z4W
theorem y4z {n : Nat} {zP : List Sapi_Ins} {zu : List Sapi_Ins} {z4W : Option Bool} {zy : Int} {r : Bool} (h : y1o zP zu z4W n zy = some r) : ∃ m,n = m + 1:=by
 cases n with
 | zero=>cases h
 | succ m=>exact ⟨m,rfl⟩
def y3h (zP : List Sapi_Ins) (zu : List Sapi_Ins) : Option Bool :=
 if decide (((zP.length : Nat) : Int) ≠ ((zu.length : Nat) : Int)) then some false else chk ((0 : Int) ≤ (i64 (((zu.length : Nat) : Int) + 12)) ∧ (i64 (((zu.length : Nat) : Int) + 12)) ≤ (((zP ++ yj).length : Nat) : Int)) (jp0 (some true) fun z4W=>y1o zP zu z4W yB 0)
set_option maxRecDepth 20000 in
theorem y6z (Z : Zp) (z4X : Option Addr) (z4Y : Nat) (z5Y : Option Addr) (z5Z : Nat) (zP : List Sapi_Ins) (zu : List Sapi_Ins) (r : Bool)
  (h : y3h zP zu = some r) (w₀ : World) (hz : PZ [] w₀ Z)
  (ztv : ZS Z 4 (fun r x=>r = e33 x) z4X z4Y zP)
  (zre : ZS Z 4 (fun r x=>r = e33 x) z5Y z5Z zu)
  (hX0 : ZS Z 4 (fun r x=>r = e33 x) z4X z4Y (zP ++ yj)) :
  Calls Tryd.prog 28 #[(.slice z4X zP.length z4Y),(.slice z5Y zu.length z5Z)] w₀ fun e w'=>e = .returned (.bool r) ∧ Hp [] w₀ w' []:=by
 unfold y3h at h
 refine Calls.ya (vs:=[(.slice z4X zP.length z4Y),(.slice z5Y zu.length z5Z)]) (pre:=[]) (env:=[(0,(.slice z4X zP.length z4Y)),(1,(.slice z5Y zu.length z5Z))]) Tryd.func28 rfl Tryd.ntmps28 rfl (Hp.nil w₀ _) rfl ?_
 refine WC.b (WC.a (WL.pu rfl (WL.nil (WX.a (WC.b (WC.b (WC.a (WL.pu rfl ?_))))))))
 refine WL.a (d:=8) rfl rfl rfl (yH Tryd.underlying22 rfl) ?_
 refine WL.pu rfl ?_
 refine WL.a (d:=10) rfl rfl rfl (yH Tryd.underlying22 rfl) ?_
 refine WL.pu rfl (WL.nil (WX.a ?_))
 refine WC.cond rfl (fun zcR=>?_) (fun zcR=>?_)
 ·replace h:=yc h zcR
  refine WC.b (WC.a (WL.pu rfl (WL.nil (WX.a (WC.ret (WX.y7 ?_))))))
  obtain rfl:=Option.some.inj h
  refine WX.y8 Tryd.results28 (.tmp rfl .nil) (fun w hw=>?_)
  exact ⟨yx rfl,hw.sub .nil⟩
 ·replace h:=yd h zcR
  refine WC.skip (WX.a (WC.b ?_))
  obtain ⟨zrf,h⟩:=yb h
  refine WC.a (WL.pu rfl (WL.pu rfl ?_))
  refine WL.a (d:=14) rfl rfl rfl (yH Tryd.underlying22 rfl) ?_
  refine WL.pu rfl ?_
  have zcS:=(hX0).takeK (i64 (((zu.length : Nat) : Int) + 12) : Int).toNat
  refine WL.a (d:=16) rfl rfl rfl (y78 (k:=((zP ++ yj).take (i64 (((zu.length : Nat) : Int) + 12) : Int).toNat).length) y15 rfl rfl (y7R zrf) zcS.1) ?_
  refine WL.pu rfl (WL.nil (WX.a ?_))
  obtain ⟨z4W,zrg,h⟩:=y27 h
  refine WC.y1F ((z4W = some r)) ([]) ([]) ?_ ?_
  ·skip
   refine WC.b (WC.a (WL.pu rfl (WL.nil (WX.a (WC.block ?_)))))
   refine WC.y2B (fun (z8g : Nat) (zy : Int)=>(y1o zP zu z4W z8g zy = some r)) (fun (z8g : Nat) (zy : Int)=>[(1,(.slice z5Y zu.length z5Z)),(5,(.slice z4X (((zP ++ yj).take (i64 (((zu.length : Nat) : Int) + 12) : Int).toNat).length) z4Y)),(6,(.int .i64 zy))]) (fun (z8g : Nat) (zy : Int)=>[]) (fun (z8g : Nat) (zy : Int)=>z8g) ⟨yB,0⟩ h (.cons rfl (.cons rfl (.cons rfl .nil))) .nil ?_
   rintro z8g zy h
   obtain ⟨zcN,rfl⟩:=y4z h
   rw [y1o] at h
   refine WC.b (WC.b (WC.a (WL.pu rfl (WL.pu rfl ?_))))
   refine WL.a (d:=19) rfl rfl rfl (yH Tryd.underlying22 rfl) ?_
   refine WL.pu rfl (WL.nil (WX.a ?_))
   refine WC.cond rfl (fun zcT=>?_) (fun zcT=>?_)
   ·replace h:=yc h zcT
    refine WC.skip (WX.a (WC.b (WC.block (WC.b ?_))))
    obtain ⟨zrh,h⟩:=yb h
    obtain ⟨zri,h⟩:=yb h
    obtain ⟨zcQ,zgC,h⟩:=zd h
    refine WC.y1j (fun i=>[].contains i) [] rfl ?_
    refine WD.a (i:=0) (d:=23) (by kernel_rfl) rfl z1 z2 rfl rfl rfl (fun _=>q_m rfl) ?_
    refine WD.a (i:=1) (d:=24) (by kernel_rfl) rfl z1 z2 rfl rfl rfl (fun _=>q_m rfl) ?_
    refine WD.a (i:=2) (d:=25) (by kernel_rfl) rfl z1 z2 rfl rfl rfl (fun _=>yH Tryd.underlying22 rfl) ?_
    refine WD.a (i:=3) (d:=26) (by kernel_rfl) rfl z1 z2 rfl rfl rfl (fun _=>q_lss rfl rfl) ?_
    refine WD.a (i:=4) (d:=27) (by kernel_rfl) rfl z1 z2 rfl rfl rfl (fun _=>q_m rfl) ?_
    refine WD.mid (fuel':=19) [(1,(.slice z5Y zu.length z5Z)),(5,(.slice z4X (((zP ++ yj).take (i64 (((zu.length : Nat) : Int) + 12) : Int).toNat).length) z4Y)),(6,(.int .i64 zy)),(27,(.bool (decide (zy < ((zu.length : Nat) : Int))))),(38,(.bool ((decide (zy < ((zu.length : Nat) : Int))) && (!(decide ((⟨((nth ((zP ++ yj).take (i64 (((zu.length : Nat) : Int) + 12) : Int).toNat) zy).fOp),((nth ((zP ++ yj).take (i64 (((zu.length : Nat) : Int) + 12) : Int).toNat) zy).fA),((nth ((zP ++ yj).take (i64 (((zu.length : Nat) : Int) + 12) : Int).toNat) zy).fB),((nth ((zP ++ yj).take (i64 (((zu.length : Nat) : Int) + 12) : Int).toNat) zy).fC)⟩ : Sapi_Ins) = (⟨((nth zu zy).fOp),((nth zu zy).fA),((nth zu zy).fB),((nth zu zy).fC)⟩ : Sapi_Ins)))))))] (y1s 35 [15,14,13,12,11,10,9,8,7,6,5,4,3,2,1,0]) ?_ (fun zgD=>?_)
    rotate_left
    ·rcases Bool.eq_false_or_eq_true (decide (zy < ((zu.length : Nat) : Int))) with hb' | hb'
     ·have z93:=hb'; clear hb'
      have zrj:=zrh z93
      have zrk:=zri z93
      refine WD.pin (i:=27) rfl z93 ?_
      refine WD.a (i:=5) (d:=28) (by kernel_rfl) rfl z1 z2 rfl rfl rfl (fun _=>q_m rfl) ?_
      refine WD.a (i:=6) (d:=29) (by kernel_rfl) rfl z1 z2 rfl rfl rfl (fun _=>q_m rfl) ?_
      refine WD.znth (j:=7) (dd:=30) (by kernel_rfl) rfl z1 z2 rfl rfl (Z:=Z) (Pr:=(fun r x=>r = e33 x)) y15 rfl rfl zcS zrj ?_
      rintro ztw ztx zrl zty rfl
      refine WD.e (i:=8) (d:=31) (by kernel_rfl) rfl z1 z2 rfl rfl rfl (y16 y1N rfl (y56 hz.pv zrl) rfl) ?_
      refine WD.a (i:=9) (d:=32) (by kernel_rfl) rfl z1 z2 rfl rfl rfl (fun _=>q_m rfl) ?_
      refine WD.a (i:=10) (d:=33) (by kernel_rfl) rfl z1 z2 rfl rfl rfl (fun _=>q_m rfl) ?_
      refine WD.znth (j:=11) (dd:=34) (by kernel_rfl) rfl z1 z2 rfl rfl (Z:=Z) (Pr:=(fun r x=>r = e33 x)) y15 rfl rfl zre zrk ?_
      rintro ztz ztA zrm ztB rfl
      refine WD.e (i:=12) (d:=35) (by kernel_rfl) rfl z1 z2 rfl rfl rfl (y16 y1N rfl (y56 hz.pv zrm) rfl) ?_
      refine WD.a (i:=13) (d:=36) (by kernel_rfl) rfl z1 z2 rfl rfl rfl (fun _=>y71 (enc:=e33) (a:=(⟨((nth ((zP ++ yj).take (i64 (((zu.length : Nat) : Int) + 12) : Int).toNat) zy).fOp),((nth ((zP ++ yj).take (i64 (((zu.length : Nat) : Int) + 12) : Int).toNat) zy).fA),((nth ((zP ++ yj).take (i64 (((zu.length : Nat) : Int) + 12) : Int).toNat) zy).fB),((nth ((zP ++ yj).take (i64 (((zu.length : Nat) : Int) + 12) : Int).toNat) zy).fC)⟩ : Sapi_Ins)) (b:=(⟨((nth zu zy).fOp),((nth zu zy).fA),((nth zu zy).fB),((nth zu zy).fC)⟩ : Sapi_Ins)) eqT_33 rfl rfl) ?_
      refine WD.a (i:=14) (d:=37) (by kernel_rfl) rfl z1 z2 rfl rfl rfl (fun _=>q_not rfl) ?_
      refine WD.a (i:=15) (d:=38) (by kernel_rfl) rfl z1 z2 rfl rfl rfl (fun _=>y4B rfl rfl) ?_
      refine WD.yZ .nil ?_ zgD
      exact (.cons rfl (.cons rfl (.cons rfl (.cons (z2R (Eq.symm z93)) (.cons (z2R (y1U z93)) .nil)))))
     ·have zcU:=hb'; clear hb'
      refine WD.pin (i:=27) rfl zcU ?_
      refine WD.b (i:=5) (d:=28) (by kernel_rfl) rfl z1 z2 rfl rfl rfl ?_
      refine WD.b (i:=6) (d:=29) (by kernel_rfl) rfl z1 z2 rfl rfl rfl ?_
      refine WD.b (i:=7) (d:=30) (by kernel_rfl) rfl z1 z2 rfl rfl rfl ?_
      refine WD.b (i:=8) (d:=31) (by kernel_rfl) rfl z1 z2 rfl rfl rfl ?_
      refine WD.b (i:=9) (d:=32) (by kernel_rfl) rfl z1 z2 rfl rfl rfl ?_
      refine WD.b (i:=10) (d:=33) (by kernel_rfl) rfl z1 z2 rfl rfl rfl ?_
      refine WD.b (i:=11) (d:=34) (by kernel_rfl) rfl z1 z2 rfl rfl rfl ?_
      refine WD.b (i:=12) (d:=35) (by kernel_rfl) rfl z1 z2 rfl rfl rfl ?_
      refine WD.b (i:=13) (d:=36) (by kernel_rfl) rfl z1 z2 rfl rfl rfl ?_
      refine WD.b (i:=14) (d:=37) (by kernel_rfl) rfl z1 z2 rfl rfl rfl ?_
      refine WD.a (i:=15) (d:=38) (by kernel_rfl) rfl z1 z2 rfl rfl rfl (fun _=>y4C rfl rfl) ?_
      refine WD.yZ .nil ?_ zgD
      exact (.cons rfl (.cons rfl (.cons rfl (.cons (z2R (Eq.symm zcU)) (.cons (z2R (y1T zcU)) .nil)))))
    refine WD.d #[true,true,true,true,true,true,true,true,true,true,true,true,true,true,true,true,false,false,false,false,false,false,false,false,false,false,false,false,false,false,false,false,false,false,false] (by kernel_rfl) ?_
    refine WD.a (i:=16) (d:=39) (by kernel_rfl) rfl z1 z2 rfl rfl rfl (fun _=>q_m rfl) ?_
    refine WD.mid (fuel':=0) [(1,(.slice z5Y zu.length z5Z)),(5,(.slice z4X (((zP ++ yj).take (i64 (((zu.length : Nat) : Int) + 12) : Int).toNat).length) z4Y)),(6,(.int .i64 zy)),(39,(.bool ((decide (zy < ((zu.length : Nat) : Int))) && (!(decide ((⟨((nth ((zP ++ yj).take (i64 (((zu.length : Nat) : Int) + 12) : Int).toNat) zy).fOp),((nth ((zP ++ yj).take (i64 (((zu.length : Nat) : Int) + 12) : Int).toNat) zy).fA),((nth ((zP ++ yj).take (i64 (((zu.length : Nat) : Int) + 12) : Int).toNat) zy).fB),((nth ((zP ++ yj).take (i64 (((zu.length : Nat) : Int) + 12) : Int).toNat) zy).fC)⟩ : Sapi_Ins) = (⟨((nth zu zy).fOp),((nth zu zy).fA),((nth zu zy).fB),((nth zu zy).fC)⟩ : Sapi_Ins))))))),(57,(.bool zcQ))] (y1s 35 [34,33,32,31,30,29,28,27,26,25,24,23,22,21,20,19,18,17,16,15,14,13,12,11,10,9,8,7,6,5,4,3,2,1,0]) ?_ (fun zgE=>?_)
    rotate_left
    ·rcases Bool.eq_false_or_eq_true ((decide (zy < ((zu.length : Nat) : Int))) && (!(decide ((⟨((nth ((zP ++ yj).take (i64 (((zu.length : Nat) : Int) + 12) : Int).toNat) zy).fOp),((nth ((zP ++ yj).take (i64 (((zu.length : Nat) : Int) + 12) : Int).toNat) zy).fA),((nth ((zP ++ yj).take (i64 (((zu.length : Nat) : Int) + 12) : Int).toNat) zy).fB),((nth ((zP ++ yj).take (i64 (((zu.length : Nat) : Int) + 12) : Int).toNat) zy).fC)⟩ : Sapi_Ins) = (⟨((nth zu zy).fOp),((nth zu zy).fA),((nth zu zy).fB),((nth zu zy).fC)⟩ : Sapi_Ins))))) with hb' | hb'
     ·have zcV:=hb'; clear hb'
      have zcW:=yc zgC zcV
      replace zcW:=Option.some.inj zcW
      refine WD.pin (i:=39) rfl zcV ?_
      refine WD.b (i:=17) (d:=40) (by kernel_rfl) rfl z1 z2 rfl rfl rfl ?_
      refine WD.b (i:=18) (d:=41) (by kernel_rfl) rfl z1 z2 rfl rfl rfl ?_
      refine WD.b (i:=19) (d:=42) (by kernel_rfl) rfl z1 z2 rfl rfl rfl ?_
      refine WD.b (i:=20) (d:=43) (by kernel_rfl) rfl z1 z2 rfl rfl rfl ?_
      refine WD.b (i:=21) (d:=44) (by kernel_rfl) rfl z1 z2 rfl rfl rfl ?_
      refine WD.b (i:=22) (d:=45) (by kernel_rfl) rfl z1 z2 rfl rfl rfl ?_
      refine WD.b (i:=23) (d:=46) (by kernel_rfl) rfl z1 z2 rfl rfl rfl ?_
      refine WD.b (i:=24) (d:=47) (by kernel_rfl) rfl z1 z2 rfl rfl rfl ?_
      refine WD.b (i:=25) (d:=48) (by kernel_rfl) rfl z1 z2 rfl rfl rfl ?_
      refine WD.b (i:=26) (d:=49) (by kernel_rfl) rfl z1 z2 rfl rfl rfl ?_
      refine WD.b (i:=27) (d:=50) (by kernel_rfl) rfl z1 z2 rfl rfl rfl ?_
      refine WD.b (i:=28) (d:=51) (by kernel_rfl) rfl z1 z2 rfl rfl rfl ?_
      refine WD.b (i:=29) (d:=52) (by kernel_rfl) rfl z1 z2 rfl rfl rfl ?_
      refine WD.b (i:=30) (d:=53) (by kernel_rfl) rfl z1 z2 rfl rfl rfl ?_
      refine WD.b (i:=31) (d:=54) (by kernel_rfl) rfl z1 z2 rfl rfl rfl ?_
      refine WD.b (i:=32) (d:=55) (by kernel_rfl) rfl z1 z2 rfl rfl rfl ?_
      refine WD.b (i:=33) (d:=56) (by kernel_rfl) rfl z1 z2 rfl rfl rfl ?_
      refine WD.a (i:=34) (d:=57) (by kernel_rfl) rfl z1 z2 rfl rfl rfl (fun _=>y4B rfl rfl) ?_
      refine WD.yZ .nil ?_ zgE
      exact (.cons rfl (.cons rfl (.cons rfl (.cons (z2R (Eq.symm zcV)) (.cons (z2R zcW) .nil)))))
     ·have zcX:=hb'; clear hb'
      have z94:=yd zgC zcX
      obtain ⟨zcP,zgF,z94⟩:=zd z94
      replace z94:=Option.some.inj z94
      refine WD.pin (i:=39) rfl zcX ?_
      refine WD.a (i:=17) (d:=40) (by kernel_rfl) rfl z1 z2 rfl rfl rfl (fun _=>q_m rfl) ?_
      refine WD.a (i:=18) (d:=41) (by kernel_rfl) rfl z1 z2 rfl rfl rfl (fun _=>q_m rfl) ?_
      refine WD.a (i:=19) (d:=42) (by kernel_rfl) rfl z1 z2 rfl rfl rfl (fun _=>yH Tryd.underlying22 rfl) ?_
      refine WD.a (i:=20) (d:=43) (by kernel_rfl) rfl z1 z2 rfl rfl rfl (fun _=>q_geq rfl rfl) ?_
      refine WD.a (i:=21) (d:=44) (by kernel_rfl) rfl z1 z2 rfl rfl rfl (fun _=>q_m rfl) ?_
      refine WD.mid (fuel':=1) [(1,(.slice z5Y zu.length z5Z)),(5,(.slice z4X (((zP ++ yj).take (i64 (((zu.length : Nat) : Int) + 12) : Int).toNat).length) z4Y)),(6,(.int .i64 zy)),(39,(.bool false)),(44,(.bool (decide (zy ≥ ((zu.length : Nat) : Int))))),(56,(.bool zcP))] (y1s 35 [33,32,31,30,29,28,27,26,25,24,23,22,21,20,19,18,17,16,15,14,13,12,11,10,9,8,7,6,5,4,3,2,1,0]) ?_ (fun zgG=>?_)
      rotate_left
      ·rcases Bool.eq_false_or_eq_true (decide (zy ≥ ((zu.length : Nat) : Int))) with hb' | hb'
       ·have zcY:=hb'; clear hb'
        have z6u:=yc zgF zcY
        obtain ⟨zrn,z6u⟩:=yb z6u
        obtain ⟨zcO,zro,z6u⟩:=zd z6u
        replace z6u:=Option.some.inj z6u
        refine WD.pin (i:=44) rfl zcY ?_
        refine WD.a (i:=22) (d:=45) (by kernel_rfl) rfl z1 z2 rfl rfl rfl (fun _=>q_m rfl) ?_
        refine WD.a (i:=23) (d:=46) (by kernel_rfl) rfl z1 z2 rfl rfl rfl (fun _=>q_m rfl) ?_
        refine WD.znth (j:=24) (dd:=47) (by kernel_rfl) rfl z1 z2 rfl rfl (Z:=Z) (Pr:=(fun r x=>r = e33 x)) y15 rfl rfl zcS zrn ?_
        rintro ztC ztD zrp ztE rfl
        refine WD.e (i:=25) (d:=48) (by kernel_rfl) rfl z1 z2 rfl rfl rfl (y16 y1N rfl (y56 hz.pv zrp) rfl) ?_
        refine WD.a (i:=26) (d:=49) (by kernel_rfl) rfl z1 z2 rfl rfl rfl (fun _=>q_m rfl) ?_
        refine WD.a (i:=27) (d:=50) (by kernel_rfl) rfl z1 z2 rfl rfl rfl (fun _=>q_m rfl) ?_
        refine WD.a (i:=28) (d:=51) (by kernel_rfl) rfl z1 z2 rfl rfl rfl (fun _=>yH Tryd.underlying22 rfl) ?_
        refine WD.a (i:=29) (d:=52) (by kernel_rfl) rfl z1 z2 rfl rfl rfl (fun _=>y6b rfl rfl rfl) ?_
        refine WD.c (i:=30) (d:=53) (by kernel_rfl) rfl z1 z2 rfl rfl rfl (zm (l:=[.const (.int .i64 1),.tmp 52]) Tryd.call38 (.cons rfl (.cons rfl .nil))) (cc hz .nil fun w pz ho=>y5p _ _ _ _ zro w pz ) ?_
        refine WD.a (i:=31) (d:=54) (by kernel_rfl) rfl z1 z2 rfl rfl rfl (fun _=>y71 (enc:=e33) (a:=(⟨((nth ((zP ++ yj).take (i64 (((zu.length : Nat) : Int) + 12) : Int).toNat) zy).fOp),((nth ((zP ++ yj).take (i64 (((zu.length : Nat) : Int) + 12) : Int).toNat) zy).fA),((nth ((zP ++ yj).take (i64 (((zu.length : Nat) : Int) + 12) : Int).toNat) zy).fB),((nth ((zP ++ yj).take (i64 (((zu.length : Nat) : Int) + 12) : Int).toNat) zy).fC)⟩ : Sapi_Ins)) (b:=zcO) eqT_33 rfl rfl) ?_
        refine WD.a (i:=32) (d:=55) (by kernel_rfl) rfl z1 z2 rfl rfl rfl (fun _=>q_not rfl) ?_
        refine WD.a (i:=33) (d:=56) (by kernel_rfl) rfl z1 z2 rfl rfl rfl (fun _=>y4B rfl rfl) ?_
        refine WD.yZ .nil ?_ zgG
        exact (.cons rfl (.cons rfl (.cons rfl (.cons rfl (.cons (z2R (Eq.symm zcY)) (.cons (z2R z6u) .nil))))))
       ·have zcZ:=hb'; clear hb'
        have zd0:=yd zgF zcZ
        replace zd0:=Option.some.inj zd0
        refine WD.pin (i:=44) rfl zcZ ?_
        refine WD.b (i:=22) (d:=45) (by kernel_rfl) rfl z1 z2 rfl rfl rfl ?_
        refine WD.b (i:=23) (d:=46) (by kernel_rfl) rfl z1 z2 rfl rfl rfl ?_
        refine WD.b (i:=24) (d:=47) (by kernel_rfl) rfl z1 z2 rfl rfl rfl ?_
        refine WD.b (i:=25) (d:=48) (by kernel_rfl) rfl z1 z2 rfl rfl rfl ?_
        refine WD.b (i:=26) (d:=49) (by kernel_rfl) rfl z1 z2 rfl rfl rfl ?_
        refine WD.b (i:=27) (d:=50) (by kernel_rfl) rfl z1 z2 rfl rfl rfl ?_
        refine WD.b (i:=28) (d:=51) (by kernel_rfl) rfl z1 z2 rfl rfl rfl ?_
        refine WD.b (i:=29) (d:=52) (by kernel_rfl) rfl z1 z2 rfl rfl rfl ?_
        refine WD.b (i:=30) (d:=53) (by kernel_rfl) rfl z1 z2 rfl rfl rfl ?_
        refine WD.b (i:=31) (d:=54) (by kernel_rfl) rfl z1 z2 rfl rfl rfl ?_
        refine WD.b (i:=32) (d:=55) (by kernel_rfl) rfl z1 z2 rfl rfl rfl ?_
        refine WD.a (i:=33) (d:=56) (by kernel_rfl) rfl z1 z2 rfl rfl rfl (fun _=>y4C rfl rfl) ?_
        refine WD.yZ .nil ?_ zgG
        exact (.cons rfl (.cons rfl (.cons rfl (.cons rfl (.cons (z2R (Eq.symm zcZ)) (.cons (z2R zd0) .nil))))))
      refine WD.d #[true,true,true,true,true,true,true,true,true,true,true,true,true,true,true,true,true,true,true,true,true,true,true,true,true,true,true,true,true,true,true,true,true,true,false] (by kernel_rfl) ?_
      refine WD.a (i:=34) (d:=57) (by kernel_rfl) rfl z1 z2 rfl rfl rfl (fun _=>y4C rfl rfl) ?_
      refine WD.yZ .nil ?_ zgE
      exact (.cons rfl (.cons rfl (.cons rfl (.cons (z2R (Eq.symm zcX)) (.cons (z2R z94) .nil)))))
    refine WD.d #[true,true,true,true,true,true,true,true,true,true,true,true,true,true,true,true,true,true,true,true,true,true,true,true,true,true,true,true,true,true,true,true,true,true,true] (by kernel_rfl) ?_
    refine WD.done (by kernel_rfl) ?_
    refine WX.a ?_
    refine WC.cond rfl (fun zd1=>?_) (fun zd1=>?_)
    ·replace h:=yc h zd1
     refine WC.b (WC.a (WL.pu rfl (WL.nil (WX.a (WC.ret (WX.yf (WX.y7 (WX.y7 (WX.yf (WX.y7 ?_))))))))))
     obtain rfl:=Option.some.inj h
     refine WX.y8 Tryd.results28 (.tmp rfl .nil) (fun w hw=>?_)
     exact ⟨yx rfl,hw.sub .nil⟩
    ·replace h:=yd h zd1
     refine WC.skip (WX.ye (WX.a (WC.a (WL.pu rfl (WL.pu rfl (WL.pu rfl (WL.nil ?_)))))))
     exact WX.round (G:=Nat × Int) ⟨zcN,(i64 (zy + 1))⟩ h (Nat.lt_succ_self _) (.cons rfl (.cons rfl (.cons rfl .nil))) .nil
   ·replace h:=yd h zcT
    refine WC.exit (WX.yg (WX.yg (WX.yD ?_)))
    exact WX.mid (G:=Unit) () h .nil .nil
  ·rintro  h
   replace h:=zrg.symm.trans h
   refine WC.b (WC.a (WL.pu rfl (WL.nil (WX.a (WC.ret ?_)))))
   obtain rfl:=Option.some.inj h
   refine WX.y8 Tryd.results28 (.tmp rfl .nil) (fun w hw=>?_)
   exact ⟨yx rfl,hw.sub .nil⟩
def y2z (z60 : List Sapi_Ins) (z6v : List Sapi_Ins) : Option Bool :=
 (y3h z60 z6v).bind fun zgH=>some zgH
set_option maxRecDepth 20000 in
theorem y6A (Z : Zp) (z95 : Option Addr) (z96 : Nat) (za1 : Option Addr) (za2 : Nat) (z60 : List Sapi_Ins) (z6v : List Sapi_Ins) (r : Bool)
  (h : y2z z60 z6v = some r) (w₀ : World) (hz : PZ [] w₀ Z)
  (zrq : ZS Z 4 (fun r x=>r = e33 x) z95 z96 z60)
  (zrr : ZS Z 4 (fun r x=>r = e33 x) za1 za2 z6v)
  (hX0 : ZS Z 4 (fun r x=>r = e33 x) z95 z96 (z60 ++ yj)) :
  Calls Tryd.prog 12 #[(.slice z95 z60.length z96),(.slice za1 z6v.length za2)] w₀ fun e w'=>e = .returned (.bool r) ∧ Hp [] w₀ w' []:=by
 unfold y2z at h
 refine Calls.ya (vs:=[(.slice z95 z60.length z96),(.slice za1 z6v.length za2)]) (pre:=[]) (env:=[(0,(.slice z95 z60.length z96)),(1,(.slice za1 z6v.length za2))]) Tryd.func12 rfl Tryd.ntmps12 rfl (Hp.nil w₀ _) rfl ?_
 refine WC.b (WC.a (WL.pu rfl (WL.nil (WX.a (WC.b ?_)))))
 obtain ⟨zgH,zrs,h⟩:=zd h
 refine WC.a (WL.pu rfl (WL.pu rfl ?_))
 refine WL.b (dd:=7) rfl rfl rfl (zm (l:=[.tmp 5,.tmp 6]) Tryd.call28 (.cons rfl (.cons rfl .nil))) .nil (cc hz .nil fun w pz ho=>y6z _ _ _ _ _ _ _ _ zrs w pz zrq zrr hX0) ?_
 refine WL.pu rfl (WL.nil (WX.a (WC.ret ?_)))
 obtain rfl:=Option.some.inj h
 refine WX.y8 Tryd.results12 (.tmp rfl .nil) (fun w hw=>?_)
 exact ⟨yx rfl,hw.sub .nil⟩
end Go.Proofs.YtjdnejbngloieaaDoor

/- A part of this claim's proof: models of functions, walks, plain laws. No conditions. -/
import Derived.Test.YtakfmdiiehcbdaaZSortF
import Derived.Test.YtakfmdiiehcbdaaZFast
import Derived.Test.YtakfmdiiehcbdaaShelf03
import Derived.Test.YtakfmdiiehcbdaaProg
namespace Go.Proofs.Ytakfmdiiehcbdaa
open Go Go.RowKit Sep
set_option linter.all false
set_option maxRecDepth 30000
set_option maxHeartbeats 4000000
def e5 (x : Int) : List Value:=[(.int .u8 x)]
structure zSt where
 fTime : Int
 fVL : Int
 fSize : Int
 deriving Inhabited,DecidableEq
def e51 (x : zSt) : List Value:=[(.int .i64 x.fTime),(.int .i64 x.fVL),(.int .i64 x.fSize)]
def e3 (x : Int) : List Value:=[(.int .i64 x)]
theorem e3_oc : ∀ x,∀ u ∈ e3 x,u.oneCell' = true:=fun _=>(y3 rfl yf)
structure z2 where
 fN : Int
 fD : Int
 deriving Inhabited,DecidableEq
structure S7 where
 fX : Int
 fY : Int
 fSigned : Bool
 fCode : Int
 deriving Inhabited,DecidableEq
structure S13 where
 fMsg : ByteArray
 fAddr : Int
 deriving Inhabited,DecidableEq
structure S27 where
 fF : List zSt
 fGap : Int
 deriving Inhabited,DecidableEq
structure z1 where
 fBurst : z2
 fR : z2
 deriving Inhabited,DecidableEq
def e35 (x : z1) : List Value:=[(.int .i64 x.fBurst.fN),(.int .i64 x.fBurst.fD),(.int .i64 x.fR.fN),(.int .i64 x.fR.fD)]
theorem y90 : ∀ x,∀ u ∈ e35 x,u.oneCell' = true:=fun _=>(y3 rfl (y3 rfl (y3 rfl (y3 rfl yf))))
def p39 (Z : Zp) (r : List Value) (x : List z1) : Prop:=∃ (ao0 : Option Addr) (cap0 : Nat),r = [(.slice ao0 x.length cap0)] ∧ ZS Z 4 (fun r x=>r = e35 x) ao0 cap0 x
theorem yG {Z Z' : Zp} (k : Zle Z Z') {r : List Value} {x : List z1} (h : p39 Z r x) : p39 Z' r x:=by
 obtain ⟨ao0,cap0,hr,h0⟩:=h
 exact ⟨ao0,cap0,hr,h0.mono k⟩
structure zSv where
 fR : z2
 fLatency : z2
 deriving Inhabited,DecidableEq
def e30 (x : z2) : List Value:=[(.int .i64 x.fN),(.int .i64 x.fD)]
theorem y86 : ∀ x,∀ u ∈ e30 x,u.oneCell' = true:=fun _=>(y3 rfl (y3 rfl yf))
structure z2y where
 fE : Int
 deriving Inhabited,DecidableEq
structure S62 where
 fL : List (List z1)
 fS : zSv
 deriving Inhabited,DecidableEq
theorem elT_22 : elT Try.prog 22 5 1 1:=⟨Try.underlying22,⟨Try.t5,_,rfl,rfl,rfl,rfl,rfl⟩,by decide⟩
theorem oneT_5 : oneT Try.prog 5:=y50 Try.underlying5 rfl
theorem y67 : elT Try.prog 24 51 3 24:=⟨Try.underlying24,⟨Try.t51,_,rfl,rfl,rfl,rfl,rfl⟩,by decide⟩
theorem y8m : aggT Try.prog 51 3:=y6J (i:=Try.t51) Try.underlying51 rfl rfl
theorem y7U : y3q Try.prog 51 (.agg #[(.int .i64 0),(.int .i64 0),(.int .i64 0)]):=y3E (i:=Try.t51) rfl rfl
theorem y8n : y5q Try.prog 51 3:=y3T (i:=Try.t51) rfl
theorem y54 : y2c Try.prog 51 0 0:=y1K (i:=Try.t3) Try.underlying51 rfl rfl (by decide) rfl
theorem yx : oneT Try.prog 3:=y50 Try.underlying3 rfl
theorem y7D : y2c Try.prog 51 2 2:=y1K (i:=Try.t3) Try.underlying51 rfl rfl (by decide) rfl
theorem y7m : elT Try.prog 45 3 1 8:=⟨Try.underlying45,⟨Try.t3,_,rfl,rfl,rfl,rfl,rfl⟩,by decide⟩
theorem yo : y3q Try.prog 30 (.agg #[(.int .i64 0),(.int .i64 0)]):=y3E (i:=Try.t30) rfl rfl
theorem yl : y5q Try.prog 30 2:=y3T (i:=Try.t30) rfl
theorem y5 : aggT Try.prog 30 2:=y6J (i:=Try.t30) Try.underlying30 rfl rfl
theorem y3H : y3q Try.prog 35 (.agg #[(.int .i64 0),(.int .i64 0),(.int .i64 0),(.int .i64 0)]):=y3E (i:=Try.t35) rfl rfl
theorem y3V : y5q Try.prog 35 4:=y3T (i:=Try.t35) rfl
theorem y1D : aggT Try.prog 35 4:=y6J (i:=Try.t35) Try.underlying35 rfl rfl
theorem y2j : elT Try.prog 39 35 4 32:=⟨Try.underlying39,⟨Try.t35,_,rfl,rfl,rfl,rfl,rfl⟩,by decide⟩
theorem y91 : y3q Try.prog 43 (.agg #[(.int .i64 0),(.int .i64 0),(.int .i64 0),(.int .i64 0)]):=y3E (i:=Try.t43) rfl rfl
theorem y9A : y5q Try.prog 43 4:=y3T (i:=Try.t43) rfl
theorem y32 : elT Try.prog 26 39 1 24:=⟨Try.underlying26,⟨Try.t39,_,rfl,rfl,rfl,rfl,rfl⟩,by decide⟩
theorem y4h : aggT Try.prog 43 4:=y6J (i:=Try.t43) Try.underlying43 rfl rfl
theorem y3a : oneT Try.prog 26:=y50 Try.underlying26 rfl
theorem y92 : y3q Try.prog 79 (.agg #[(.slice none 0 0),(.int .i64 0),(.int .i64 0),(.int .i64 0),(.int .i64 0),.nilFunc,(.slice none 0 0)]):=y3E (i:=Try.t79) rfl rfl
theorem y9B : y5q Try.prog 79 7:=y3T (i:=Try.t79) rfl
theorem y7E : y2c Try.prog 79 2 5:=y1K (i:=Try.t76) Try.underlying79 rfl rfl (by decide) rfl
theorem y9C : y5q Try.prog 76 1:=y3T (i:=Try.t76) rfl
theorem y5W : aggT Try.prog 79 7:=y6J (i:=Try.t79) Try.underlying79 rfl rfl
theorem y4I : y2c Try.prog 79 0 0:=y1K (i:=Try.t26) Try.underlying79 rfl rfl (by decide) rfl
theorem y3W : y2c Try.prog 35 0 0:=y1K (i:=Try.t30) Try.underlying35 rfl rfl (by decide) rfl
theorem y21 : y2c Try.prog 30 1 1:=y1K (i:=Try.t3) Try.underlying30 rfl rfl (by decide) rfl
theorem y1J : y2c Try.prog 30 0 0:=y1K (i:=Try.t3) Try.underlying30 rfl rfl (by decide) rfl
theorem y4J : y2c Try.prog 35 1 2:=y1K (i:=Try.t30) Try.underlying35 rfl rfl (by decide) rfl
theorem y3b : oneT Try.prog 39:=y50 Try.underlying39 rfl
theorem y7F : y2c Try.prog 79 1 1:=y1K (i:=Try.t43) Try.underlying79 rfl rfl (by decide) rfl
theorem y5X : y2c Try.prog 43 0 0:=y1K (i:=Try.t30) Try.underlying43 rfl rfl (by decide) rfl
theorem y55 : y2c Try.prog 43 1 2:=y1K (i:=Try.t30) Try.underlying43 rfl rfl (by decide) rfl
theorem y6Y : y3q Try.prog 98 (.agg #[(.int .i64 0)]):=y3E (i:=Try.t98) rfl rfl
theorem y93 : y3q Try.prog 90 (.agg #[(.int .i64 0)]):=y3E (i:=Try.t90) rfl rfl
theorem y7V : y3q Try.prog 77 (.slice none 0 0):=y3E (i:=Try.t77) rfl rfl
theorem eqT_35 : EqT Try.prog 35 e35:=⟨fun u v w=>by
 have i35_10000:=fun (w : World) (a b : Array Value)=>run_equalIn_agg (P:=Try.prog) w 9999 35 a b (by simp [Program.fieldsOf,Try.underlying35]) (by kernel_rfl)
 have i30_9999:=fun (w : World) (a b : Array Value)=>run_equalIn_agg (P:=Try.prog) w 9998 30 a b (by simp [Program.fieldsOf,Try.underlying30]) (by kernel_rfl)
 have i3_9998:=fun (w : World) (a b : Int)=>run_equalIn_int (P:=Try.prog) w 9997 3 .i64 .i64 a b Try.underlying3
 rw [i35_10000]
 simp [Program.fieldsOf,Op.eqFields,part,e35,i35_10000,Try.underlying35,i30_9999,Try.underlying30,i3_9998]
 rcases u with ⟨⟨u1,u2⟩,⟨u3,u4⟩⟩
 rcases v with ⟨⟨v1,v2⟩,⟨v3,v4⟩⟩
 by_cases h1 : u1 = v1 <;> by_cases h2 : u2 = v2 <;> by_cases h3 : u3 = v3 <;> by_cases h4 : u4 = v4 <;> simp [h1,h2,h3,h4],by kernel_rfl⟩
theorem y3y : oneT Try.prog 77:=y50 Try.underlying77 rfl
theorem y2p : KeyT Try.prog 9 Value.string:=keyT_str Try.underlying9
theorem zgk : y3q Try.prog 104 .nilFunc:=y3E (i:=Try.t104) rfl rfl
theorem sizT_3 : y5q Try.prog 3 1:=y3T (i:=Try.t3) rfl
theorem y5Y : y2c Try.prog 90 0 0:=y1K (i:=Try.t31) Try.underlying90 rfl rfl (by decide) rfl
theorem y2H : oneT Try.prog 31:=y50 Try.underlying31 rfl
theorem y8o : y5q Try.prog 31 1:=y3T (i:=Try.t31) rfl
theorem y1H : elT Try.prog 77 30 2 16:=⟨Try.underlying77,⟨Try.t30,_,rfl,rfl,rfl,rfl,rfl⟩,by decide⟩
theorem y8p : y5q Try.prog 77 1:=y3T (i:=Try.t77) rfl
theorem y7n : EqT Try.prog 30 e30:=⟨fun u v w=>by
 have i30_10000:=fun (w : World) (a b : Array Value)=>run_equalIn_agg (P:=Try.prog) w 9999 30 a b (by simp [Program.fieldsOf,Try.underlying30]) (by kernel_rfl)
 have i3_9999:=fun (w : World) (a b : Int)=>run_equalIn_int (P:=Try.prog) w 9998 3 .i64 .i64 a b Try.underlying3
 rw [i30_10000]
 simp [Program.fieldsOf,Op.eqFields,part,e30,i30_10000,Try.underlying30,i3_9999]
 rcases u with ⟨u1,u2⟩
 rcases v with ⟨v1,v2⟩
 by_cases h1 : u1 = v1 <;> by_cases h2 : u2 = v2 <;> simp [h1,h2],by kernel_rfl⟩
theorem yaa : fldT Try.prog 35 1 2 30:=fldT_of Try.underlying35 rfl rfl rfl
theorem y3c : y2c Try.prog 98 0 0:=y1K (i:=Try.t31) Try.underlying98 rfl rfl (by decide) rfl
theorem y9D : y2c Try.prog 79 3 6:=y1K (i:=Try.t77) Try.underlying79 rfl rfl (by decide) rfl
theorem y9E : oneT Try.prog 76:=y50 Try.underlying76 rfl
def y2u (zZ : List zSt) (z9N : Option Bool) : Nat → Int → Option Bool
 | 0,_=>none
 | zii + 1,z12=>if decide (z12 < ((zZ.length : Nat) : Int)) then chk ((0 : Int) ≤ z12 ∧ z12 < ((zZ.length : Nat) : Int)) (chk (((((decide (((nth zZ z12).fTime) < 0)) || (decide (((nth zZ z12).fTime) > 1073741824))) || (decide (((nth zZ z12).fSize) < 1))) || (decide (((nth zZ z12).fSize) > 72))) = false → ((decide (z12 > 0)) = true → ((0 : Int) ≤ (i64 (z12 - 1)) ∧ (i64 (z12 - 1)) < ((zZ.length : Nat) : Int)))) (if ((((decide (((nth zZ z12).fTime) < 0)) || (decide (((nth zZ z12).fTime) > 1073741824))) || (decide (((nth zZ z12).fSize) < 1))) || (decide (((nth zZ z12).fSize) > 72))) || ((decide (z12 > 0)) && (decide (((nth zZ (i64 (z12 - 1))).fTime) > ((nth zZ z12).fTime)))) then some false else y2u zZ z9N zii (i64 (z12 + 1)))) else z9N
theorem y5D {n : Nat} {zZ : List zSt} {z9N : Option Bool} {z12 : Int} {r : Bool} (h : y2u zZ z9N n z12 = some r) : ∃ m,n = m + 1:=by
 cases n with
 | zero=>cases h
 | succ m=>exact ⟨m,rfl⟩
def y3t (zZ : List zSt) : Option Bool :=
 jp0 (some (decide (((zZ.length : Nat) : Int) ≤ 4000))) fun z9N=>y2u zZ z9N yw 0
set_option maxRecDepth 20000 in
theorem y5A (Z : Zp)  (z5I : Option Addr) (z5J : Nat) (zZ : List zSt) (r : Bool) (w₀ : World) (hz : PZ [] w₀ Z)
  (zn7 : ZS Z 3 (fun r x=>r = e51 x) z5I z5J zZ)
  (h : y3t zZ = some r) :
  Calls Try.prog 31 #[(.slice z5I zZ.length z5J)] w₀ fun e w'=>e = .returned (.bool r) ∧ Hp [] w₀ w' []:=by
 unfold y3t at h
 refine Calls.yg (vs:=[(.slice z5I zZ.length z5J)]) (pre:=[]) (env:=[(0,(.slice z5I zZ.length z5J))]) Try.func31 rfl Try.ntmps31 rfl (Hp.nil w₀ _) rfl ?_
 refine WC.b ?_
 refine WC.a ?_
 refine WL.a (d:=2) rfl rfl rfl (q_z rfl) ?_
 refine WL.nil ?_
 refine WX.a ?_
 obtain ⟨z9N,zr3,h⟩:=y4C h
 refine WC.y4S ((z9N = some r)) ([(0,(.slice z5I zZ.length z5J))]) ([]) ?_ ?_
 ·skip
  refine WC.b ?_
  refine WC.a ?_
  refine WL.a (d:=5) rfl rfl rfl (q_m rfl) ?_
  refine WL.a (d:=6) rfl rfl rfl (y1k Try.underlying24 rfl) ?_
  refine WL.a (d:=7) rfl rfl rfl (q_m rfl) ?_
  refine WL.nil ?_
  refine WX.a ?_
  refine WC.block ?_
  refine WC.y63 (fun (zd7 : Nat) (z12 : Int)=>(y2u zZ z9N zd7 z12 = some r)) (fun (zd7 : Nat) (z12 : Int)=>[(0,(.slice z5I zZ.length z5J)),(5,(.slice z5I zZ.length z5J)),(6,(.int .i64 ((zZ.length : Nat) : Int))),(7,(.int .i64 z12))]) (fun (zd7 : Nat) (z12 : Int)=>[]) (fun (zd7 : Nat) (z12 : Int)=>zd7) ⟨yw,0⟩ h (.cons rfl (.cons rfl (.cons rfl (.cons rfl .nil)))) .nil ?_
  rintro zd7 z12 h
  obtain ⟨zii,rfl⟩:=y5D h
  rw [y2u] at h
  refine WC.b ?_
  refine WC.a ?_
  refine WL.a (d:=8) rfl rfl rfl (y1h rfl rfl) ?_
  refine WL.nil ?_
  refine WX.a ?_
  refine WC.b ?_
  refine WC.cond rfl (fun zij=>?_) (fun zij=>?_)
  ·replace h:=yj h zij
   refine WC.skip ?_
   refine WX.a ?_
   refine WC.b ?_
   refine WC.block ?_
   refine WC.b ?_
   obtain ⟨zr4,h⟩:=yp h
   refine WC.a ?_
   refine WL.a (d:=9) rfl rfl rfl (q_m rfl) ?_
   refine WL.znth (dd:=10) rfl rfl (Z:=Z) (Pr:=(fun r x=>r = e51 x)) y67 rfl rfl zn7 zr4 ?_
   rintro zza zzb zr5 zzc rfl
   refine WL.a (d:=11) rfl rfl rfl (y6 (cs:=[(.int .i64 ((nth zZ z12).fTime)),(.int .i64 ((nth zZ z12).fVL)),(.int .i64 ((nth zZ z12).fSize))]) y8m rfl rfl (y2T hz.pv zr5)) ?_
   refine WL.new (dd:=4) rfl rfl rfl (yh (cs:=[(.int .i64 0),(.int .i64 0),(.int .i64 0)]) y7U rfl) ?_
   intro zik _
   refine WL.a (d:=3) rfl rfl rfl (q_z rfl) ?_
   refine WL.yc rfl rfl (yd (vs:=[(.int .i64 ((nth zZ z12).fTime)),(.int .i64 ((nth zZ z12).fVL)),(.int .i64 ((nth zZ z12).fSize))]) (ds:=[(.int .i64 ((nth zZ z12).fTime)),(.int .i64 ((nth zZ z12).fVL)),(.int .i64 ((nth zZ z12).fSize))]) y8n rfl rfl rfl rfl (y3 rfl (y3 rfl (y3 rfl yf))) .here (Nat.le_of_ble_eq_true rfl) rfl) ?_
   refine WL.nil ?_
   refine WX.a ?_
   refine WC.b ?_
   obtain ⟨zr6,h⟩:=yp h
   refine WC.y1e (fun i=>[].contains i) [] rfl ?_
   refine WD.a (i:=0) (d:=12) (by kernel_rfl) rfl (z6 (by kernel_rfl)) (z7 (by kernel_rfl)) rfl rfl rfl (fun _=>y4 y54 rfl rfl) ?_
   refine WD.e (i:=1) (d:=13) (by kernel_rfl) rfl (z6 (by kernel_rfl)) (z7 (by kernel_rfl)) rfl rfl rfl (ye yx rfl (yu .here rfl)) ?_
   refine WD.a (i:=2) (d:=14) (by kernel_rfl) rfl (z6 (by kernel_rfl)) (z7 (by kernel_rfl)) rfl rfl rfl (fun _=>y1h rfl rfl) ?_
   refine WD.a (i:=3) (d:=15) (by kernel_rfl) rfl (z6 (by kernel_rfl)) (z7 (by kernel_rfl)) rfl rfl rfl (fun _=>q_m rfl) ?_
   refine WD.mid (fuel':=25) [(0,(.slice z5I zZ.length z5J)),(5,(.slice z5I zZ.length z5J)),(6,(.int .i64 ((zZ.length : Nat) : Int))),(7,(.int .i64 z12)),(4,(.pointer (some ⟨zik,0,none⟩))),(3,(.int .i64 z12)),(15,(.bool (decide (((nth zZ z12).fTime) < 0)))),(19,(.bool ((decide (((nth zZ z12).fTime) < 0)) || (decide (((nth zZ z12).fTime) > 1073741824)))))] (y1C 33 [7,6,5,4,3,2,1,0]) ?_ (fun zn8=>?_)
   rotate_left
   ·rcases Bool.eq_false_or_eq_true (decide (((nth zZ z12).fTime) < 0)) with hb' | hb'
    ·have zil:=hb'; clear hb'
     refine WD.pin (i:=15) rfl zil ?_
     refine WD.b (i:=4) (d:=16) (by kernel_rfl) rfl (z6 (by kernel_rfl)) (z7 (by kernel_rfl)) rfl rfl rfl ?_
     refine WD.b (i:=5) (d:=17) (by kernel_rfl) rfl (z6 (by kernel_rfl)) (z7 (by kernel_rfl)) rfl rfl rfl ?_
     refine WD.b (i:=6) (d:=18) (by kernel_rfl) rfl (z6 (by kernel_rfl)) (z7 (by kernel_rfl)) rfl rfl rfl ?_
     refine WD.a (i:=7) (d:=19) (by kernel_rfl) rfl (z6 (by kernel_rfl)) (z7 (by kernel_rfl)) rfl rfl rfl (fun _=>ys rfl rfl) ?_
     refine WD.yV (.cons .here .nil) ?_ zn8
     exact (.cons rfl (.cons rfl (.cons rfl (.cons rfl (.cons rfl (.cons rfl (.cons (zt (Eq.symm zil)) (.cons (zt (y5s zil)) .nil))))))))
    ·have zim:=hb'; clear hb'
     refine WD.pin (i:=15) rfl zim ?_
     refine WD.a (i:=4) (d:=16) (by kernel_rfl) rfl (z6 (by kernel_rfl)) (z7 (by kernel_rfl)) rfl rfl rfl (fun _=>y4 y54 rfl rfl) ?_
     refine WD.e (i:=5) (d:=17) (by kernel_rfl) rfl (z6 (by kernel_rfl)) (z7 (by kernel_rfl)) rfl rfl rfl (ye yx rfl (yu .here rfl)) ?_
     refine WD.a (i:=6) (d:=18) (by kernel_rfl) rfl (z6 (by kernel_rfl)) (z7 (by kernel_rfl)) rfl rfl rfl (fun _=>y3f rfl rfl) ?_
     refine WD.a (i:=7) (d:=19) (by kernel_rfl) rfl (z6 (by kernel_rfl)) (z7 (by kernel_rfl)) rfl rfl rfl (fun _=>yr rfl rfl) ?_
     refine WD.yV (.cons .here .nil) ?_ zn8
     exact (.cons rfl (.cons rfl (.cons rfl (.cons rfl (.cons rfl (.cons rfl (.cons (zt (Eq.symm zim)) (.cons (zt (y5t zim)) .nil))))))))
   refine WD.d #[true,true,true,true,true,true,true,true,false,false,false,false,false,false,false,false,false,false,false,false,false,false,false,false,false,false,false,false,false,false,false,false,false] (by kernel_rfl) ?_
   refine WD.a (i:=8) (d:=20) (by kernel_rfl) rfl (z6 (by kernel_rfl)) (z7 (by kernel_rfl)) rfl rfl rfl (fun _=>q_m rfl) ?_
   refine WD.mid (fuel':=20) [(0,(.slice z5I zZ.length z5J)),(5,(.slice z5I zZ.length z5J)),(6,(.int .i64 ((zZ.length : Nat) : Int))),(7,(.int .i64 z12)),(4,(.pointer (some ⟨zik,0,none⟩))),(3,(.int .i64 z12)),(20,(.bool ((decide (((nth zZ z12).fTime) < 0)) || (decide (((nth zZ z12).fTime) > 1073741824))))),(24,(.bool (((decide (((nth zZ z12).fTime) < 0)) || (decide (((nth zZ z12).fTime) > 1073741824))) || (decide (((nth zZ z12).fSize) < 1)))))] (y1C 33 [12,11,10,9,8,7,6,5,4,3,2,1,0]) ?_ (fun zn9=>?_)
   rotate_left
   ·rcases Bool.eq_false_or_eq_true ((decide (((nth zZ z12).fTime) < 0)) || (decide (((nth zZ z12).fTime) > 1073741824))) with hb' | hb'
    ·have zin:=hb'; clear hb'
     refine WD.pin (i:=20) rfl zin ?_
     refine WD.b (i:=9) (d:=21) (by kernel_rfl) rfl (z6 (by kernel_rfl)) (z7 (by kernel_rfl)) rfl rfl rfl ?_
     refine WD.b (i:=10) (d:=22) (by kernel_rfl) rfl (z6 (by kernel_rfl)) (z7 (by kernel_rfl)) rfl rfl rfl ?_
     refine WD.b (i:=11) (d:=23) (by kernel_rfl) rfl (z6 (by kernel_rfl)) (z7 (by kernel_rfl)) rfl rfl rfl ?_
     refine WD.a (i:=12) (d:=24) (by kernel_rfl) rfl (z6 (by kernel_rfl)) (z7 (by kernel_rfl)) rfl rfl rfl (fun _=>ys rfl rfl) ?_
     refine WD.yV (.cons .here .nil) ?_ zn9
     exact (.cons rfl (.cons rfl (.cons rfl (.cons rfl (.cons rfl (.cons rfl (.cons (zt (Eq.symm zin)) (.cons (zt (y5s zin)) .nil))))))))
    ·have zio:=hb'; clear hb'
     refine WD.pin (i:=20) rfl zio ?_
     refine WD.a (i:=9) (d:=21) (by kernel_rfl) rfl (z6 (by kernel_rfl)) (z7 (by kernel_rfl)) rfl rfl rfl (fun _=>y4 y7D rfl rfl) ?_
     refine WD.e (i:=10) (d:=22) (by kernel_rfl) rfl (z6 (by kernel_rfl)) (z7 (by kernel_rfl)) rfl rfl rfl (ye yx rfl (yu .here rfl)) ?_
     refine WD.a (i:=11) (d:=23) (by kernel_rfl) rfl (z6 (by kernel_rfl)) (z7 (by kernel_rfl)) rfl rfl rfl (fun _=>y1h rfl rfl) ?_
     refine WD.a (i:=12) (d:=24) (by kernel_rfl) rfl (z6 (by kernel_rfl)) (z7 (by kernel_rfl)) rfl rfl rfl (fun _=>yr rfl rfl) ?_
     refine WD.yV (.cons .here .nil) ?_ zn9
     exact (.cons rfl (.cons rfl (.cons rfl (.cons rfl (.cons rfl (.cons rfl (.cons (zt (Eq.symm zio)) (.cons (zt (y5t zio)) .nil))))))))
   refine WD.d #[true,true,true,true,true,true,true,true,true,true,true,true,true,false,false,false,false,false,false,false,false,false,false,false,false,false,false,false,false,false,false,false,false] (by kernel_rfl) ?_
   refine WD.a (i:=13) (d:=25) (by kernel_rfl) rfl (z6 (by kernel_rfl)) (z7 (by kernel_rfl)) rfl rfl rfl (fun _=>q_m rfl) ?_
   refine WD.mid (fuel':=15) [(0,(.slice z5I zZ.length z5J)),(5,(.slice z5I zZ.length z5J)),(6,(.int .i64 ((zZ.length : Nat) : Int))),(7,(.int .i64 z12)),(4,(.pointer (some ⟨zik,0,none⟩))),(3,(.int .i64 z12)),(25,(.bool (((decide (((nth zZ z12).fTime) < 0)) || (decide (((nth zZ z12).fTime) > 1073741824))) || (decide (((nth zZ z12).fSize) < 1))))),(29,(.bool ((((decide (((nth zZ z12).fTime) < 0)) || (decide (((nth zZ z12).fTime) > 1073741824))) || (decide (((nth zZ z12).fSize) < 1))) || (decide (((nth zZ z12).fSize) > 72)))))] (y1C 33 [17,16,15,14,13,12,11,10,9,8,7,6,5,4,3,2,1,0]) ?_ (fun zna=>?_)
   rotate_left
   ·rcases Bool.eq_false_or_eq_true (((decide (((nth zZ z12).fTime) < 0)) || (decide (((nth zZ z12).fTime) > 1073741824))) || (decide (((nth zZ z12).fSize) < 1))) with hb' | hb'
    ·have ziq:=hb'; clear hb'
     refine WD.pin (i:=25) rfl ziq ?_
     refine WD.b (i:=14) (d:=26) (by kernel_rfl) rfl (z6 (by kernel_rfl)) (z7 (by kernel_rfl)) rfl rfl rfl ?_
     refine WD.b (i:=15) (d:=27) (by kernel_rfl) rfl (z6 (by kernel_rfl)) (z7 (by kernel_rfl)) rfl rfl rfl ?_
     refine WD.b (i:=16) (d:=28) (by kernel_rfl) rfl (z6 (by kernel_rfl)) (z7 (by kernel_rfl)) rfl rfl rfl ?_
     refine WD.a (i:=17) (d:=29) (by kernel_rfl) rfl (z6 (by kernel_rfl)) (z7 (by kernel_rfl)) rfl rfl rfl (fun _=>ys rfl rfl) ?_
     refine WD.yV (.cons .here .nil) ?_ zna
     exact (.cons rfl (.cons rfl (.cons rfl (.cons rfl (.cons rfl (.cons rfl (.cons (zt (Eq.symm ziq)) (.cons (zt (y5s ziq)) .nil))))))))
    ·have zir:=hb'; clear hb'
     refine WD.pin (i:=25) rfl zir ?_
     refine WD.a (i:=14) (d:=26) (by kernel_rfl) rfl (z6 (by kernel_rfl)) (z7 (by kernel_rfl)) rfl rfl rfl (fun _=>y4 y7D rfl rfl) ?_
     refine WD.e (i:=15) (d:=27) (by kernel_rfl) rfl (z6 (by kernel_rfl)) (z7 (by kernel_rfl)) rfl rfl rfl (ye yx rfl (yu .here rfl)) ?_
     refine WD.a (i:=16) (d:=28) (by kernel_rfl) rfl (z6 (by kernel_rfl)) (z7 (by kernel_rfl)) rfl rfl rfl (fun _=>y3f rfl rfl) ?_
     refine WD.a (i:=17) (d:=29) (by kernel_rfl) rfl (z6 (by kernel_rfl)) (z7 (by kernel_rfl)) rfl rfl rfl (fun _=>yr rfl rfl) ?_
     refine WD.yV (.cons .here .nil) ?_ zna
     exact (.cons rfl (.cons rfl (.cons rfl (.cons rfl (.cons rfl (.cons rfl (.cons (zt (Eq.symm zir)) (.cons (zt (y5t zir)) .nil))))))))
   refine WD.d #[true,true,true,true,true,true,true,true,true,true,true,true,true,true,true,true,true,true,false,false,false,false,false,false,false,false,false,false,false,false,false,false,false] (by kernel_rfl) ?_
   refine WD.a (i:=18) (d:=30) (by kernel_rfl) rfl (z6 (by kernel_rfl)) (z7 (by kernel_rfl)) rfl rfl rfl (fun _=>q_m rfl) ?_
   refine WD.mid (fuel':=0) [(0,(.slice z5I zZ.length z5J)),(5,(.slice z5I zZ.length z5J)),(6,(.int .i64 ((zZ.length : Nat) : Int))),(7,(.int .i64 z12)),(30,(.bool ((((decide (((nth zZ z12).fTime) < 0)) || (decide (((nth zZ z12).fTime) > 1073741824))) || (decide (((nth zZ z12).fSize) < 1))) || (decide (((nth zZ z12).fSize) > 72))))),(44,(.bool (((((decide (((nth zZ z12).fTime) < 0)) || (decide (((nth zZ z12).fTime) > 1073741824))) || (decide (((nth zZ z12).fSize) < 1))) || (decide (((nth zZ z12).fSize) > 72))) || ((decide (z12 > 0)) && (decide (((nth zZ (i64 (z12 - 1))).fTime) > ((nth zZ z12).fTime)))))))] (y1C 33 [32,31,30,29,28,27,26,25,24,23,22,21,20,19,18,17,16,15,14,13,12,11,10,9,8,7,6,5,4,3,2,1,0]) ?_ (fun znb=>?_)
   rotate_left
   ·rcases Bool.eq_false_or_eq_true ((((decide (((nth zZ z12).fTime) < 0)) || (decide (((nth zZ z12).fTime) > 1073741824))) || (decide (((nth zZ z12).fSize) < 1))) || (decide (((nth zZ z12).fSize) > 72))) with hb' | hb'
    ·have zis:=hb'; clear hb'
     refine WD.pin (i:=30) rfl zis ?_
     refine WD.b (i:=19) (d:=31) (by kernel_rfl) rfl (z6 (by kernel_rfl)) (z7 (by kernel_rfl)) rfl rfl rfl ?_
     refine WD.b (i:=20) (d:=32) (by kernel_rfl) rfl (z6 (by kernel_rfl)) (z7 (by kernel_rfl)) rfl rfl rfl ?_
     refine WD.b (i:=21) (d:=33) (by kernel_rfl) rfl (z6 (by kernel_rfl)) (z7 (by kernel_rfl)) rfl rfl rfl ?_
     refine WD.b (i:=22) (d:=34) (by kernel_rfl) rfl (z6 (by kernel_rfl)) (z7 (by kernel_rfl)) rfl rfl rfl ?_
     refine WD.b (i:=23) (d:=35) (by kernel_rfl) rfl (z6 (by kernel_rfl)) (z7 (by kernel_rfl)) rfl rfl rfl ?_
     refine WD.b (i:=24) (d:=36) (by kernel_rfl) rfl (z6 (by kernel_rfl)) (z7 (by kernel_rfl)) rfl rfl rfl ?_
     refine WD.b (i:=25) (d:=37) (by kernel_rfl) rfl (z6 (by kernel_rfl)) (z7 (by kernel_rfl)) rfl rfl rfl ?_
     refine WD.b (i:=26) (d:=38) (by kernel_rfl) rfl (z6 (by kernel_rfl)) (z7 (by kernel_rfl)) rfl rfl rfl ?_
     refine WD.b (i:=27) (d:=39) (by kernel_rfl) rfl (z6 (by kernel_rfl)) (z7 (by kernel_rfl)) rfl rfl rfl ?_
     refine WD.b (i:=28) (d:=40) (by kernel_rfl) rfl (z6 (by kernel_rfl)) (z7 (by kernel_rfl)) rfl rfl rfl ?_
     refine WD.b (i:=29) (d:=41) (by kernel_rfl) rfl (z6 (by kernel_rfl)) (z7 (by kernel_rfl)) rfl rfl rfl ?_
     refine WD.b (i:=30) (d:=42) (by kernel_rfl) rfl (z6 (by kernel_rfl)) (z7 (by kernel_rfl)) rfl rfl rfl ?_
     refine WD.b (i:=31) (d:=43) (by kernel_rfl) rfl (z6 (by kernel_rfl)) (z7 (by kernel_rfl)) rfl rfl rfl ?_
     refine WD.a (i:=32) (d:=44) (by kernel_rfl) rfl (z6 (by kernel_rfl)) (z7 (by kernel_rfl)) rfl rfl rfl (fun _=>ys rfl rfl) ?_
     refine WD.yV (.cons .here .nil) ?_ znb
     exact (.cons rfl (.cons rfl (.cons rfl (.cons rfl (.cons (zt (Eq.symm zis)) (.cons (zt (y5s zis)) .nil))))))
    ·have zgl:=hb'; clear hb'
     have zr7:=zr6 zgl
     refine WD.pin (i:=30) rfl zgl ?_
     refine WD.a (i:=19) (d:=31) (by kernel_rfl) rfl (z6 (by kernel_rfl)) (z7 (by kernel_rfl)) rfl rfl rfl (fun _=>q_m rfl) ?_
     refine WD.a (i:=20) (d:=32) (by kernel_rfl) rfl (z6 (by kernel_rfl)) (z7 (by kernel_rfl)) rfl rfl rfl (fun _=>y3f rfl rfl) ?_
     refine WD.a (i:=21) (d:=33) (by kernel_rfl) rfl (z6 (by kernel_rfl)) (z7 (by kernel_rfl)) rfl rfl rfl (fun _=>q_m rfl) ?_
     refine WD.mid (fuel':=1) [(0,(.slice z5I zZ.length z5J)),(5,(.slice z5I zZ.length z5J)),(6,(.int .i64 ((zZ.length : Nat) : Int))),(7,(.int .i64 z12)),(30,(.bool false)),(33,(.bool (decide (z12 > 0)))),(43,(.bool ((decide (z12 > 0)) && (decide (((nth zZ (i64 (z12 - 1))).fTime) > ((nth zZ z12).fTime))))))] (y1C 33 [31,30,29,28,27,26,25,24,23,22,21,20,19,18,17,16,15,14,13,12,11,10,9,8,7,6,5,4,3,2,1,0]) ?_ (fun znc=>?_)
     rotate_left
     ·rcases Bool.eq_false_or_eq_true (decide (z12 > 0)) with hb' | hb'
      ·have zgm:=hb'; clear hb'
       have zr8:=zr7 zgm
       refine WD.pin (i:=33) rfl zgm ?_
       refine WD.a (i:=22) (d:=34) (by kernel_rfl) rfl (z6 (by kernel_rfl)) (z7 (by kernel_rfl)) rfl rfl rfl (fun _=>q_m rfl) ?_
       refine WD.a (i:=23) (d:=35) (by kernel_rfl) rfl (z6 (by kernel_rfl)) (z7 (by kernel_rfl)) rfl rfl rfl (fun _=>q_m rfl) ?_
       refine WD.a (i:=24) (d:=36) (by kernel_rfl) rfl (z6 (by kernel_rfl)) (z7 (by kernel_rfl)) rfl rfl rfl (fun _=>y7y rfl rfl rfl) ?_
       refine WD.znth (j:=25) (dd:=37) (by kernel_rfl) rfl (z6 (by kernel_rfl)) (z7 (by kernel_rfl)) rfl rfl (Z:=Z) (Pr:=(fun r x=>r = e51 x)) y67 rfl rfl zn7 zr8 ?_
       rintro zzd zze zr9 zzf rfl
       refine WD.a (i:=26) (d:=38) (by kernel_rfl) rfl (z6 (by kernel_rfl)) (z7 (by kernel_rfl)) rfl rfl rfl (fun _=>y4 y54 rfl rfl) ?_
       refine WD.e (i:=27) (d:=39) (by kernel_rfl) rfl (z6 (by kernel_rfl)) (z7 (by kernel_rfl)) rfl rfl rfl (ye yx rfl (y1O hz.pv zr9 rfl)) ?_
       refine WD.a (i:=28) (d:=40) (by kernel_rfl) rfl (z6 (by kernel_rfl)) (z7 (by kernel_rfl)) rfl rfl rfl (fun _=>y4 y54 rfl rfl) ?_
       refine WD.e (i:=29) (d:=41) (by kernel_rfl) rfl (z6 (by kernel_rfl)) (z7 (by kernel_rfl)) rfl rfl rfl (ye yx rfl (yu .here rfl)) ?_
       refine WD.a (i:=30) (d:=42) (by kernel_rfl) rfl (z6 (by kernel_rfl)) (z7 (by kernel_rfl)) rfl rfl rfl (fun _=>y3f rfl rfl) ?_
       refine WD.a (i:=31) (d:=43) (by kernel_rfl) rfl (z6 (by kernel_rfl)) (z7 (by kernel_rfl)) rfl rfl rfl (fun _=>ys rfl rfl) ?_
       refine WD.yV (.cons .here .nil) ?_ znc
       exact (.cons rfl (.cons rfl (.cons rfl (.cons rfl (.cons rfl (.cons (zt (Eq.symm zgm)) (.cons (zt (y3s zgm)) .nil)))))))
      ·have zit:=hb'; clear hb'
       refine WD.pin (i:=33) rfl zit ?_
       refine WD.b (i:=22) (d:=34) (by kernel_rfl) rfl (z6 (by kernel_rfl)) (z7 (by kernel_rfl)) rfl rfl rfl ?_
       refine WD.b (i:=23) (d:=35) (by kernel_rfl) rfl (z6 (by kernel_rfl)) (z7 (by kernel_rfl)) rfl rfl rfl ?_
       refine WD.b (i:=24) (d:=36) (by kernel_rfl) rfl (z6 (by kernel_rfl)) (z7 (by kernel_rfl)) rfl rfl rfl ?_
       refine WD.b (i:=25) (d:=37) (by kernel_rfl) rfl (z6 (by kernel_rfl)) (z7 (by kernel_rfl)) rfl rfl rfl ?_
       refine WD.b (i:=26) (d:=38) (by kernel_rfl) rfl (z6 (by kernel_rfl)) (z7 (by kernel_rfl)) rfl rfl rfl ?_
       refine WD.b (i:=27) (d:=39) (by kernel_rfl) rfl (z6 (by kernel_rfl)) (z7 (by kernel_rfl)) rfl rfl rfl ?_
       refine WD.b (i:=28) (d:=40) (by kernel_rfl) rfl (z6 (by kernel_rfl)) (z7 (by kernel_rfl)) rfl rfl rfl ?_
       refine WD.b (i:=29) (d:=41) (by kernel_rfl) rfl (z6 (by kernel_rfl)) (z7 (by kernel_rfl)) rfl rfl rfl ?_
       refine WD.b (i:=30) (d:=42) (by kernel_rfl) rfl (z6 (by kernel_rfl)) (z7 (by kernel_rfl)) rfl rfl rfl ?_
       refine WD.a (i:=31) (d:=43) (by kernel_rfl) rfl (z6 (by kernel_rfl)) (z7 (by kernel_rfl)) rfl rfl rfl (fun _=>yr rfl rfl) ?_
       refine WD.yV (.cons .here .nil) ?_ znc
       exact (.cons rfl (.cons rfl (.cons rfl (.cons rfl (.cons rfl (.cons (zt (Eq.symm zit)) (.cons (zt (y3r zit)) .nil)))))))
     refine WD.d #[true,true,true,true,true,true,true,true,true,true,true,true,true,true,true,true,true,true,true,true,true,true,true,true,true,true,true,true,true,true,true,true,false] (by kernel_rfl) ?_
     refine WD.a (i:=32) (d:=44) (by kernel_rfl) rfl (z6 (by kernel_rfl)) (z7 (by kernel_rfl)) rfl rfl rfl (fun _=>yr rfl rfl) ?_
     refine WD.yV (.cons .here .nil) ?_ znb
     exact (.cons rfl (.cons rfl (.cons rfl (.cons rfl (.cons (zt (Eq.symm zgl)) (.cons (zt (y5t zgl)) .nil))))))
   refine WD.d #[true,true,true,true,true,true,true,true,true,true,true,true,true,true,true,true,true,true,true,true,true,true,true,true,true,true,true,true,true,true,true,true,true] (by kernel_rfl) ?_
   refine WD.done (by kernel_rfl) ?_
   refine WX.a ?_
   refine WC.cond rfl (fun ziu=>?_) (fun ziu=>?_)
   ·replace h:=yj h ziu
    refine WC.b ?_
    refine WC.a ?_
    refine WL.a (d:=2) rfl rfl rfl (q_z rfl) ?_
    refine WL.nil ?_
    refine WX.a ?_
    refine WC.ret ?_
    refine WX.yt ?_
    refine WX.y8 ?_
    refine WX.y8 ?_
    refine WX.yt ?_
    refine WX.y8 ?_
    obtain rfl:=Option.some.inj h
    refine WX.y9 Try.results31 (.tmp rfl .nil) (fun w hw=>?_)
    exact ⟨yI rfl,hw.sub .nil⟩
   ·replace h:=yk h ziu
    refine WC.skip ?_
    refine WX.yn ?_
    refine WX.a ?_
    refine WC.a ?_
    refine WL.a (d:=45) rfl rfl rfl (y1d rfl rfl rfl) ?_
    refine WL.a (d:=7) rfl rfl rfl (q_m rfl) ?_
    refine WL.nil ?_
    exact WX.round (G:=Nat × Int) ⟨zii,(i64 (z12 + 1))⟩ h (Nat.lt_succ_self _) (.cons rfl (.cons rfl (.cons rfl (.cons rfl .nil)))) .nil
  ·replace h:=yk h zij
   refine WC.exit ?_
   refine WX.ym ?_
   refine WX.ym ?_
   refine WX.yH ?_
   exact WX.mid (G:=Unit) () h (.cons rfl .nil) .nil
 ·rintro  h
  replace h:=zr3.symm.trans h
  refine WC.b ?_
  refine WC.a ?_
  refine WL.a (d:=46) rfl rfl rfl (q_m rfl) ?_
  refine WL.a (d:=47) rfl rfl rfl (y1k Try.underlying24 rfl) ?_
  refine WL.a (d:=48) rfl rfl rfl (y5a rfl rfl) ?_
  refine WL.a (d:=2) rfl rfl rfl (q_z rfl) ?_
  refine WL.nil ?_
  refine WX.a ?_
  refine WC.ret ?_
  obtain rfl:=Option.some.inj h
  refine WX.y9 Try.results31 (.tmp rfl .nil) (fun w hw=>?_)
  exact ⟨yI rfl,hw.sub .nil⟩
def y2D (z2w : List zSt) (z3C : Int) (z33 : Int) (z9O : (List Int) → Option (List Int × Int)) : Nat → (List Int) → Int → Int → Option (List Int × Int)
 | 0,_,_,_=>none
 | ziv + 1,z64,z6A,z34=>if decide (z34 < ((z2w.length : Nat) : Int)) then chk ((0 : Int) ≤ z34 ∧ z34 < ((z2w.length : Nat) : Int)) (chk ((((z64 ++ ([i64 ((max z6A (i64 (((nth z2w z34).fTime) + z3C))) + (i64 (((nth z2w z34).fSize) * z33)))] : List Int)).length : Nat) : Int) * 8 ≤ 140737488355328 ∧ (((z64 ++ ([i64 ((max z6A (i64 (((nth z2w z34).fTime) + z3C))) + (i64 (((nth z2w z34).fSize) * z33)))] : List Int)).length : Nat) : Int) ≤ 4611686018427387904) (y2D z2w z3C z33 z9O ziv (z64 ++ ([i64 ((max z6A (i64 (((nth z2w z34).fTime) + z3C))) + (i64 (((nth z2w z34).fSize) * z33)))] : List Int)) (i64 ((max z6A (i64 (((nth z2w z34).fTime) + z3C))) + (i64 (((nth z2w z34).fSize) * z33)))) (i64 (z34 + 1)))) else z9O z64
theorem y68 {n : Nat} {z2w : List zSt} {z3C : Int} {z33 : Int} {z9O : (List Int) → Option (List Int × Int)} {z64 : List Int} {z6A : Int} {z34 : Int} {r : List Int × Int} (h : y2D z2w z3C z33 z9O n z64 z6A z34 = some r) : ∃ m,n = m + 1:=by
 cases n with
 | zero=>cases h
 | succ m=>exact ⟨m,rfl⟩
def y4D (z2w : List zSt) (z33 : Int) (z3C : Int) : Option (List Int × Int) :=
 (y3t z2w).bind fun z8H=>if ((((!z8H) || (decide (z33 < 1))) || (decide (z33 > 16))) || (decide (z3C < 0))) || (decide (z3C > 1000)) then some (([] : List Int),2) else jp1 (fun (z9d : List Int)=>some (z9d,0)) fun z9O=>y2D z2w z3C z33 z9O yw ([] : List Int) 0 0
set_option maxRecDepth 20000 in
theorem y7W (Z : Zp)  (z8I : Option Addr) (z8J : Nat) (z2w : List zSt) (z33 : Int) (z3C : Int) (r : List Int × Int) (w₀ : World) (hz : PZ [] w₀ Z)
  (znd : ZS Z 3 (fun r x=>r = e51 x) z8I z8J z2w)
  (h : y4D z2w z33 z3C = some r) :
  Calls Try.prog 14 #[(.slice z8I z2w.length z8J),(.int .i64 z33),(.int .i64 z3C)] w₀ fun e w'=>∃ zne : Option Addr,∃ znf : Nat,e = .returned (.tuple #[(.slice zne r.1.length znf),(.int .i64 r.2)]) ∧ True ∧ Hp [] w₀ w' [row (.slice zne r.1.length znf) 3 1 (r.1.flatMap e3)]:=by
 unfold y4D at h
 refine Calls.yg (vs:=[(.slice z8I z2w.length z8J),(.int .i64 z33),(.int .i64 z3C)]) (pre:=[]) (env:=[(0,(.slice z8I z2w.length z8J)),(1,(.int .i64 z33)),(2,(.int .i64 z3C))]) Try.func14 rfl Try.ntmps14 rfl (Hp.nil w₀ _) rfl ?_
 refine WC.b ?_
 refine WC.a ?_
 refine WL.a (d:=6) rfl rfl rfl (q_z rfl) ?_
 refine WL.a (d:=7) rfl rfl rfl (q_z rfl) ?_
 refine WL.nil ?_
 refine WX.a ?_
 refine WC.b ?_
 refine WC.b ?_
 obtain ⟨z8H,zra,h⟩:=zb h
 refine WC.a ?_
 refine WL.a (d:=12) rfl rfl rfl (q_m rfl) ?_
 refine WL.b (dd:=13) rfl rfl rfl (zl (l:=[.tmp 12]) Try.call31 (.cons rfl .nil)) (.nil : Sel [] [] []) (fun w hw=>by have pz:=(hz.call hw (.nil : Sel [] [] [])); exact y5A (Z:=_) (z5I:=z8I) (z5J:=z8J) (zZ:=z2w) (r:=z8H) w pz znd zra) ?_
 refine WL.a (d:=14) rfl rfl rfl (y1n rfl) ?_
 refine WL.a (d:=15) rfl rfl rfl (q_m rfl) ?_
 refine WL.yF True [(0,(.slice z8I z2w.length z8J)),(1,(.int .i64 z33)),(2,(.int .i64 z3C)),(18,(.bool ((!z8H) || (decide (z33 < 1)))))] [] 3 ?_ (fun _=>?_)
 ·rcases Bool.eq_false_or_eq_true (!z8H) with hb' | hb'
  ·have zng:=hb'; clear hb'
   refine WL.pin (i:=15) rfl zng ?_
   refine WL.e rfl rfl rfl ?_
   refine WL.e rfl rfl rfl ?_
   refine WL.a (d:=18) rfl rfl rfl (ys rfl rfl) ?_
   exact WL.ya () trivial (.cons rfl (.cons rfl (.cons rfl (.cons (zt (y5s zng)) .nil)))) .nil
  ·have znh:=hb'; clear hb'
   refine WL.pin (i:=15) rfl znh ?_
   refine WL.a (d:=16) rfl rfl rfl (q_m rfl) ?_
   refine WL.a (d:=17) rfl rfl rfl (y1h rfl rfl) ?_
   refine WL.a (d:=18) rfl rfl rfl (yr rfl rfl) ?_
   exact WL.ya () trivial (.cons rfl (.cons rfl (.cons rfl (.cons (zt (y5t znh)) .nil)))) .nil
 ·skip
  refine WL.a (d:=19) rfl rfl rfl (q_m rfl) ?_
  refine WL.yF True [(0,(.slice z8I z2w.length z8J)),(1,(.int .i64 z33)),(2,(.int .i64 z3C)),(22,(.bool (((!z8H) || (decide (z33 < 1))) || (decide (z33 > 16)))))] [] 3 ?_ (fun _=>?_)
  ·rcases Bool.eq_false_or_eq_true ((!z8H) || (decide (z33 < 1))) with hb' | hb'
   ·have zni:=hb'; clear hb'
    refine WL.pin (i:=19) rfl zni ?_
    refine WL.e rfl rfl rfl ?_
    refine WL.e rfl rfl rfl ?_
    refine WL.a (d:=22) rfl rfl rfl (ys rfl rfl) ?_
    exact WL.ya () trivial (.cons rfl (.cons rfl (.cons rfl (.cons (zt (y5s zni)) .nil)))) .nil
   ·have znj:=hb'; clear hb'
    refine WL.pin (i:=19) rfl znj ?_
    refine WL.a (d:=20) rfl rfl rfl (q_m rfl) ?_
    refine WL.a (d:=21) rfl rfl rfl (y3f rfl rfl) ?_
    refine WL.a (d:=22) rfl rfl rfl (yr rfl rfl) ?_
    exact WL.ya () trivial (.cons rfl (.cons rfl (.cons rfl (.cons (zt (y5t znj)) .nil)))) .nil
  ·skip
   refine WL.a (d:=23) rfl rfl rfl (q_m rfl) ?_
   refine WL.yF True [(0,(.slice z8I z2w.length z8J)),(1,(.int .i64 z33)),(2,(.int .i64 z3C)),(26,(.bool ((((!z8H) || (decide (z33 < 1))) || (decide (z33 > 16))) || (decide (z3C < 0)))))] [] 3 ?_ (fun _=>?_)
   ·rcases Bool.eq_false_or_eq_true (((!z8H) || (decide (z33 < 1))) || (decide (z33 > 16))) with hb' | hb'
    ·have znk:=hb'; clear hb'
     refine WL.pin (i:=23) rfl znk ?_
     refine WL.e rfl rfl rfl ?_
     refine WL.e rfl rfl rfl ?_
     refine WL.a (d:=26) rfl rfl rfl (ys rfl rfl) ?_
     exact WL.ya () trivial (.cons rfl (.cons rfl (.cons rfl (.cons (zt (y5s znk)) .nil)))) .nil
    ·have znl:=hb'; clear hb'
     refine WL.pin (i:=23) rfl znl ?_
     refine WL.a (d:=24) rfl rfl rfl (q_m rfl) ?_
     refine WL.a (d:=25) rfl rfl rfl (y1h rfl rfl) ?_
     refine WL.a (d:=26) rfl rfl rfl (yr rfl rfl) ?_
     exact WL.ya () trivial (.cons rfl (.cons rfl (.cons rfl (.cons (zt (y5t znl)) .nil)))) .nil
   ·skip
    refine WL.a (d:=27) rfl rfl rfl (q_m rfl) ?_
    refine WL.yF True [(0,(.slice z8I z2w.length z8J)),(1,(.int .i64 z33)),(2,(.int .i64 z3C)),(30,(.bool (((((!z8H) || (decide (z33 < 1))) || (decide (z33 > 16))) || (decide (z3C < 0))) || (decide (z3C > 1000)))))] [] 3 ?_ (fun _=>?_)
    ·rcases Bool.eq_false_or_eq_true ((((!z8H) || (decide (z33 < 1))) || (decide (z33 > 16))) || (decide (z3C < 0))) with hb' | hb'
     ·have znm:=hb'; clear hb'
      refine WL.pin (i:=27) rfl znm ?_
      refine WL.e rfl rfl rfl ?_
      refine WL.e rfl rfl rfl ?_
      refine WL.a (d:=30) rfl rfl rfl (ys rfl rfl) ?_
      exact WL.ya () trivial (.cons rfl (.cons rfl (.cons rfl (.cons (zt (y5s znm)) .nil)))) .nil
     ·have znn:=hb'; clear hb'
      refine WL.pin (i:=27) rfl znn ?_
      refine WL.a (d:=28) rfl rfl rfl (q_m rfl) ?_
      refine WL.a (d:=29) rfl rfl rfl (y3f rfl rfl) ?_
      refine WL.a (d:=30) rfl rfl rfl (yr rfl rfl) ?_
      exact WL.ya () trivial (.cons rfl (.cons rfl (.cons rfl (.cons (zt (y5t znn)) .nil)))) .nil
    ·skip
     refine WL.nil ?_
     refine WX.a ?_
     refine WC.cond rfl (fun ziw=>?_) (fun ziw=>?_)
     ·replace h:=yj h ziw
      refine WC.b ?_
      refine WC.a ?_
      refine WL.a (d:=6) rfl rfl rfl (q_z rfl) ?_
      refine WL.a (d:=7) rfl rfl rfl (q_z rfl) ?_
      refine WL.nil ?_
      refine WX.a ?_
      refine WC.ret ?_
      refine WX.y8 ?_
      refine WX.nilRow 3 1 ?_
      obtain rfl:=Option.some.inj h
      refine WX.y9 Try.results14 (.tmp rfl (.tmp rfl .nil)) (fun w hw=>?_)
      exact ⟨none,0,y1I rfl rfl,trivial,hw.sub (.cons .here .nil)⟩
     ·replace h:=yk h ziw
      refine WC.skip ?_
      refine WX.a ?_
      refine WC.b ?_
      refine WC.a ?_
      refine WL.a (d:=8) rfl rfl rfl (q_z rfl) ?_
      refine WL.nil ?_
      refine WX.a ?_
      refine WC.b ?_
      refine WC.a ?_
      refine WL.a (d:=9) rfl rfl rfl (q_z rfl) ?_
      refine WL.nil ?_
      refine WX.a ?_
      obtain ⟨z9O,zrb,h⟩:=y1r h
      refine WC.y2M (fun (z9d : List Int) (zd8 : Option Addr) (zd9 : Nat)=>(z9O z9d = some r)) (fun (z9d : List Int) (zd8 : Option Addr) (zd9 : Nat)=>[(8,(.slice zd8 z9d.length zd9))]) (fun (z9d : List Int) (zd8 : Option Addr) (zd9 : Nat)=>[row (.slice zd8 z9d.length zd9) 3 1 (z9d.flatMap e3)]) ?_ ?_
      ·skip
       refine WC.b ?_
       refine WC.a ?_
       refine WL.a (d:=31) rfl rfl rfl (q_m rfl) ?_
       refine WL.a (d:=32) rfl rfl rfl (y1k Try.underlying24 rfl) ?_
       refine WL.a (d:=33) rfl rfl rfl (q_m rfl) ?_
       refine WL.nil ?_
       refine WX.a ?_
       refine WC.block ?_
       refine WC.nilRow 3 1 ?_
       refine WC.y4B (fun (zda : Nat) (z64 : List Int) (z6A : Int) (z34 : Int) (zbO : Option Addr) (zbP : Nat)=>(y2D z2w z3C z33 z9O zda z64 z6A z34 = some r)) (fun (zda : Nat) (z64 : List Int) (z6A : Int) (z34 : Int) (zbO : Option Addr) (zbP : Nat)=>[(1,(.int .i64 z33)),(2,(.int .i64 z3C)),(8,(.slice zbO z64.length zbP)),(9,(.int .i64 z6A)),(31,(.slice z8I z2w.length z8J)),(32,(.int .i64 ((z2w.length : Nat) : Int))),(33,(.int .i64 z34))]) (fun (zda : Nat) (z64 : List Int) (z6A : Int) (z34 : Int) (zbO : Option Addr) (zbP : Nat)=>[row (.slice zbO z64.length zbP) 3 1 (z64.flatMap e3)]) (fun (zda : Nat) (z64 : List Int) (z6A : Int) (z34 : Int) (zbO : Option Addr) (zbP : Nat)=>zda) ⟨yw,([] : List Int),0,0,none,0⟩ h (.cons rfl (.cons rfl (.cons rfl (.cons rfl (.cons rfl (.cons rfl (.cons rfl .nil))))))) (.cons .here .nil) ?_
       rintro zda z64 z6A z34 zbO zbP h
       obtain ⟨ziv,rfl⟩:=y68 h
       rw [y2D] at h
       refine WC.b ?_
       refine WC.a ?_
       refine WL.a (d:=34) rfl rfl rfl (y1h rfl rfl) ?_
       refine WL.nil ?_
       refine WX.a ?_
       refine WC.b ?_
       refine WC.cond rfl (fun zix=>?_) (fun zix=>?_)
       ·replace h:=yj h zix
        refine WC.skip ?_
        refine WX.a ?_
        refine WC.b ?_
        refine WC.block ?_
        refine WC.b ?_
        obtain ⟨zrc,h⟩:=yp h
        refine WC.a ?_
        refine WL.znth (dd:=35) rfl rfl (Z:=Z) (Pr:=(fun r x=>r = e51 x)) y67 rfl rfl znd zrc ?_
        rintro zzg zzh zrd zzi rfl
        refine WL.a (d:=36) rfl rfl rfl (y6 (cs:=[(.int .i64 ((nth z2w z34).fTime)),(.int .i64 ((nth z2w z34).fVL)),(.int .i64 ((nth z2w z34).fSize))]) y8m rfl rfl (y2T hz.pv zrd)) ?_
        refine WL.new (dd:=11) rfl rfl rfl (yh (cs:=[(.int .i64 0),(.int .i64 0),(.int .i64 0)]) y7U rfl) ?_
        intro zzj _
        refine WL.yc rfl rfl (yd (vs:=[(.int .i64 ((nth z2w z34).fTime)),(.int .i64 ((nth z2w z34).fVL)),(.int .i64 ((nth z2w z34).fSize))]) (ds:=[(.int .i64 ((nth z2w z34).fTime)),(.int .i64 ((nth z2w z34).fVL)),(.int .i64 ((nth z2w z34).fSize))]) y8n rfl rfl rfl rfl (y3 rfl (y3 rfl (y3 rfl yf))) .here (Nat.le_of_ble_eq_true rfl) rfl) ?_
        refine WL.nil ?_
        refine WX.a ?_
        refine WC.b ?_
        refine WC.a ?_
        refine WL.a (d:=37) rfl rfl rfl (q_m rfl) ?_
        refine WL.a (d:=38) rfl rfl rfl (y4 y54 rfl rfl) ?_
        refine WL.a (d:=39) rfl rfl rfl (ye yx rfl (yu .here rfl)) ?_
        refine WL.a (d:=40) rfl rfl rfl (q_m rfl) ?_
        refine WL.a (d:=41) rfl rfl rfl (y1d rfl rfl rfl) ?_
        refine WL.a (d:=42) rfl rfl rfl (q_max rfl rfl rfl) ?_
        refine WL.a (d:=43) rfl rfl rfl (y4 y7D rfl rfl) ?_
        refine WL.a (d:=44) rfl rfl rfl (ye yx rfl (yu .here rfl)) ?_
        refine WL.a (d:=45) rfl rfl rfl (q_m rfl) ?_
        refine WL.a (d:=46) rfl rfl rfl (y4d rfl rfl rfl) ?_
        refine WL.a (d:=47) rfl rfl rfl (y1d rfl rfl rfl) ?_
        refine WL.a (d:=9) rfl rfl rfl (q_z rfl) ?_
        refine WL.nil ?_
        refine WX.a ?_
        obtain ⟨zre,h⟩:=yp h
        refine WC.a ?_
        refine WL.a (d:=48) rfl rfl rfl (q_m rfl) ?_
        refine WL.a (d:=49) rfl rfl rfl (q_m rfl) ?_
        refine WL.new (dd:=50) rfl rfl rfl (yU (cs:=([i64 ((max z6A (i64 (((nth z2w z34).fTime) + z3C))) + (i64 (((nth z2w z34).fSize) * z33)))] : List Int).flatMap e3) y7m (Eos.parts (l:=[.tmp 49]) (.cons rfl .nil) [0]) (fun _=>by kernel_rfl) rfl (by unfold maxLen; omega)) ?_
        intro zzk _
        refine WL.eff (d:=51) rfl rfl rfl (y5f (enc:=e3) (l1:=z64) (l2:=([i64 ((max z6A (i64 (((nth z2w z34).fTime) + z3C))) + (i64 (((nth z2w z34).fSize) * z33)))] : List Int)) y7m rfl rfl .h2 (fun _=>rfl) rfl rfl (y65 .here) (y5S e3_oc _) zre) ?_
        rintro ⟨zrf,zrg⟩ _
        refine WL.a (d:=8) rfl rfl rfl (q_z rfl) ?_
        refine WL.nil ?_
        refine WX.yn ?_
        refine WX.a ?_
        refine WC.a ?_
        refine WL.a (d:=52) rfl rfl rfl (y1d rfl rfl rfl) ?_
        refine WL.a (d:=33) rfl rfl rfl (q_m rfl) ?_
        refine WL.nil ?_
        exact WX.round (G:=Nat × List Int × Int × Int × Option Addr × Nat) ⟨ziv,(z64 ++ ([i64 ((max z6A (i64 (((nth z2w z34).fTime) + z3C))) + (i64 (((nth z2w z34).fSize) * z33)))] : List Int)),(i64 ((max z6A (i64 (((nth z2w z34).fTime) + z3C))) + (i64 (((nth z2w z34).fSize) * z33)))),(i64 (z34 + 1)),zrf,zrg⟩ h (Nat.lt_succ_self _) (.cons rfl (.cons rfl (.cons rfl (.cons rfl (.cons rfl (.cons rfl (.cons rfl .nil))))))) (.cons .here .nil)
       ·replace h:=yk h zix
        refine WC.exit ?_
        refine WX.ym ?_
        refine WX.ym ?_
        refine WX.yH ?_
        exact WX.mid (G:=List Int × Option Addr × Nat) ⟨z64,zbO,zbP⟩ h (.cons rfl .nil) (.cons .here .nil)
      ·rintro z9d zd8 zd9 h
       replace h:=(zrb z9d).symm.trans h
       refine WC.b ?_
       refine WC.a ?_
       refine WL.a (d:=53) rfl rfl rfl (q_m rfl) ?_
       refine WL.a (d:=6) rfl rfl rfl (q_z rfl) ?_
       refine WL.a (d:=7) rfl rfl rfl (q_z rfl) ?_
       refine WL.nil ?_
       refine WX.a ?_
       refine WC.ret ?_
       obtain rfl:=Option.some.inj h
       refine WX.y9 Try.results14 (.tmp rfl (.tmp rfl .nil)) (fun w hw=>?_)
       exact ⟨zd8,zd9,y1I rfl rfl,trivial,hw.sub (.cons .here .nil)⟩
def y16 (z4l : Int) (z4m : Int) : Option z2 :=
 some (⟨z4l,z4m⟩ : z2)
set_option maxRecDepth 20000 in
theorem y1o (Z : Zp)   (z4l : Int) (z4m : Int) (r : z2) (w₀ : World) (hz : PZ [] w₀ Z)
  (h : y16 z4l z4m = some r) :
  Calls Try.prog 11 #[(.int .i64 z4l),(.int .i64 z4m)] w₀ fun e w'=>e = .returned (.agg #[(.int .i64 r.fN),(.int .i64 r.fD)]) ∧ Hp [] w₀ w' []:=by
 unfold y16 at h
 refine Calls.yg (vs:=[(.int .i64 z4l),(.int .i64 z4m)]) (pre:=[]) (env:=[(0,(.int .i64 z4l)),(1,(.int .i64 z4m))]) Try.func11 rfl Try.ntmps11 rfl (Hp.nil w₀ _) rfl ?_
 refine WC.b ?_
 refine WC.a ?_
 refine WL.new (dd:=4) rfl rfl rfl (yh (cs:=[(.int .i64 0),(.int .i64 0)]) yo rfl) ?_
 intro zzl _
 refine WL.nil ?_
 refine WX.a ?_
 refine WC.b ?_
 refine WC.a ?_
 refine WL.a (d:=5) rfl rfl rfl (q_m rfl) ?_
 refine WL.a (d:=6) rfl rfl rfl (q_m rfl) ?_
 refine WL.a (d:=7) rfl rfl rfl (y1j (v:=(.agg #[(.int .i64 z4l),(.int .i64 z4m)])) (Eos.parts (l:=[.tmp 5,.tmp 6]) (.cons rfl (.cons rfl .nil)) [0,1]) (fun _=>by kernel_rfl)) ?_
 refine WL.yc rfl rfl (yd (vs:=[(.int .i64 z4l),(.int .i64 z4m)]) (ds:=[(.int .i64 z4l),(.int .i64 z4m)]) yl rfl rfl rfl rfl (y3 rfl (y3 rfl yf)) .here (Nat.le_of_ble_eq_true rfl) rfl) ?_
 refine WL.nil ?_
 refine WX.a ?_
 refine WC.ret ?_
 obtain rfl:=Option.some.inj h
 refine WX.y9 Try.results11 (.agg rfl y5 rfl (y7 .here) .nil) (fun w hw=>?_)
 exact ⟨yI rfl,hw.sub .nil⟩
def y2I (z4H : z2) (z4I : z2) : Option z1 :=
 some (⟨z4H,z4I⟩ : z1)
set_option maxRecDepth 20000 in
theorem y3z (Z : Zp)   (z4H : z2) (z4I : z2) (r : z1) (w₀ : World) (hz : PZ [] w₀ Z)
  (h : y2I z4H z4I = some r) :
  Calls Try.prog 10 #[(.agg #[(.int .i64 z4H.fN),(.int .i64 z4H.fD)]),(.agg #[(.int .i64 z4I.fN),(.int .i64 z4I.fD)])] w₀ fun e w'=>e = .returned (.agg #[(.int .i64 r.fBurst.fN),(.int .i64 r.fBurst.fD),(.int .i64 r.fR.fN),(.int .i64 r.fR.fD)]) ∧ Hp [] w₀ w' []:=by
 unfold y2I at h
 refine Calls.yg (vs:=[(.agg #[(.int .i64 z4H.fN),(.int .i64 z4H.fD)]),(.agg #[(.int .i64 z4I.fN),(.int .i64 z4I.fD)])]) (pre:=[]) (env:=[(0,(.agg #[(.int .i64 z4H.fN),(.int .i64 z4H.fD)])),(1,(.agg #[(.int .i64 z4I.fN),(.int .i64 z4I.fD)]))]) Try.func10 rfl Try.ntmps10 rfl (Hp.nil w₀ _) rfl ?_
 refine WC.b ?_
 refine WC.a ?_
 refine WL.new (dd:=2) rfl rfl rfl (yK (cs:=[(.int .i64 z4H.fN),(.int .i64 z4H.fD)]) rfl rfl) ?_
 intro zzm _
 refine WL.new (dd:=3) rfl rfl rfl (yK (cs:=[(.int .i64 z4I.fN),(.int .i64 z4I.fD)]) rfl rfl) ?_
 intro zzn _
 refine WL.new (dd:=4) rfl rfl rfl (yh (cs:=[(.int .i64 0),(.int .i64 0),(.int .i64 0),(.int .i64 0)]) y3H rfl) ?_
 intro zzo _
 refine WL.nil ?_
 refine WX.a ?_
 refine WC.b ?_
 refine WC.a ?_
 refine WL.a (d:=5) rfl rfl rfl (y6 (cs:=[(.int .i64 z4H.fN),(.int .i64 z4H.fD)]) y5 rfl rfl (y7 .h2)) ?_
 refine WL.a (d:=6) rfl rfl rfl (y6 (cs:=[(.int .i64 z4I.fN),(.int .i64 z4I.fD)]) y5 rfl rfl (y7 .h1)) ?_
 refine WL.a (d:=7) rfl rfl rfl (y1j (v:=(.agg #[(.int .i64 z4H.fN),(.int .i64 z4H.fD),(.int .i64 z4I.fN),(.int .i64 z4I.fD)])) (Eos.parts (l:=[.tmp 5,.tmp 6]) (.cons rfl (.cons rfl .nil)) [0,1]) (fun _=>by kernel_rfl)) ?_
 refine WL.yc rfl rfl (yd (vs:=[(.int .i64 z4H.fN),(.int .i64 z4H.fD),(.int .i64 z4I.fN),(.int .i64 z4I.fD)]) (ds:=[(.int .i64 z4H.fN),(.int .i64 z4H.fD),(.int .i64 z4I.fN),(.int .i64 z4I.fD)]) y3V rfl rfl rfl rfl (y3 rfl (y3 rfl (y3 rfl (y3 rfl yf)))) .here (Nat.le_of_ble_eq_true rfl) rfl) ?_
 refine WL.nil ?_
 refine WX.a ?_
 refine WC.ret ?_
 obtain rfl:=Option.some.inj h
 refine WX.y9 Try.results10 (.agg rfl y1D rfl (y7 .here) .nil) (fun w hw=>?_)
 exact ⟨yI rfl,hw.sub .nil⟩
def y3j (z8d : Int) : Option Int :=
 if decide (z8d < 0) then some (u64 ((u64 (i64 (0 - (i64 (z8d + 1))))) + 1)) else some (u64 z8d)
set_option maxRecDepth 20000 in
theorem y5E (Z : Zp)   (z8d : Int) (r : Int) (w₀ : World) (hz : PZ [] w₀ Z)
  (h : y3j z8d = some r) :
  Calls Try.prog 28 #[(.int .i64 z8d)] w₀ fun e w'=>e = .returned (.int .u64 r) ∧ Hp [] w₀ w' []:=by
 unfold y3j at h
 refine Calls.yg (vs:=[(.int .i64 z8d)]) (pre:=[]) (env:=[(0,(.int .i64 z8d))]) Try.func28 rfl Try.ntmps28 rfl (Hp.nil w₀ _) rfl ?_
 refine WC.b ?_
 refine WC.a ?_
 refine WL.a (d:=2) rfl rfl rfl (q_z rfl) ?_
 refine WL.nil ?_
 refine WX.a ?_
 refine WC.b ?_
 refine WC.b ?_
 refine WC.a ?_
 refine WL.a (d:=3) rfl rfl rfl (q_m rfl) ?_
 refine WL.a (d:=4) rfl rfl rfl (y1h rfl rfl) ?_
 refine WL.nil ?_
 refine WX.a ?_
 refine WC.cond rfl (fun ziy=>?_) (fun ziy=>?_)
 ·replace h:=yj h ziy
  refine WC.b ?_
  refine WC.a ?_
  refine WL.a (d:=5) rfl rfl rfl (q_m rfl) ?_
  refine WL.a (d:=6) rfl rfl rfl (y1d rfl rfl rfl) ?_
  refine WL.a (d:=7) rfl rfl rfl (q_neg rfl rfl) ?_
  refine WL.a (d:=8) rfl rfl rfl (y47 Try.underlying3 Try.underlying71 rfl rfl) ?_
  refine WL.a (d:=9) rfl rfl rfl (y1d rfl rfl rfl) ?_
  refine WL.a (d:=2) rfl rfl rfl (q_z rfl) ?_
  refine WL.nil ?_
  refine WX.a ?_
  refine WC.ret ?_
  refine WX.y8 ?_
  obtain rfl:=Option.some.inj h
  refine WX.y9 Try.results28 (.tmp rfl .nil) (fun w hw=>?_)
  exact ⟨yI rfl,hw.sub .nil⟩
 ·replace h:=yk h ziy
  refine WC.skip ?_
  refine WX.a ?_
  refine WC.b ?_
  refine WC.a ?_
  refine WL.a (d:=10) rfl rfl rfl (q_m rfl) ?_
  refine WL.a (d:=11) rfl rfl rfl (y47 Try.underlying3 Try.underlying71 rfl rfl) ?_
  refine WL.a (d:=2) rfl rfl rfl (q_z rfl) ?_
  refine WL.nil ?_
  refine WX.a ?_
  refine WC.ret ?_
  obtain rfl:=Option.some.inj h
  refine WX.y9 Try.results28 (.tmp rfl .nil) (fun w hw=>?_)
  exact ⟨yI rfl,hw.sub .nil⟩
def y1v (z9P : Int → Option Int) : Nat → Int → Int → Option Int
 | 0,_,_=>none
 | ziz + 1,z7T,z7f=>if decide (z7f ≠ 0) then chk ((z7f : Int) ≠ 0) (y1v z9P ziz z7f (Int.tmod z7T z7f)) else z9P z7T
theorem y69 {n : Nat} {z9P : Int → Option Int} {z7T : Int} {z7f : Int} {r : Int} (h : y1v z9P n z7T z7f = some r) : ∃ m,n = m + 1:=by
 cases n with
 | zero=>cases h
 | succ m=>exact ⟨m,rfl⟩
def y2J (z9Q : Int) (z9R : Int) : Option Int :=
 jp1 (fun (zaW : Int)=>some zaW) fun z9P=>y1v z9P yw z9Q z9R
set_option maxRecDepth 20000 in
theorem y6a (Z : Zp)   (z9Q : Int) (z9R : Int) (r : Int) (w₀ : World) (hz : PZ [] w₀ Z)
  (h : y2J z9Q z9R = some r) :
  Calls Try.prog 29 #[(.int .u64 z9Q),(.int .u64 z9R)] w₀ fun e w'=>e = .returned (.int .u64 r) ∧ Hp [] w₀ w' []:=by
 unfold y2J at h
 refine Calls.yg (vs:=[(.int .u64 z9Q),(.int .u64 z9R)]) (pre:=[]) (env:=[(0,(.int .u64 z9Q)),(1,(.int .u64 z9R))]) Try.func29 rfl Try.ntmps29 rfl (Hp.nil w₀ _) rfl ?_
 refine WC.b ?_
 refine WC.a ?_
 refine WL.a (d:=4) rfl rfl rfl (q_z rfl) ?_
 refine WL.nil ?_
 refine WX.a ?_
 obtain ⟨z9P,zrh,h⟩:=y1r h
 refine WC.y4f (fun (zaW : Int)=>(z9P zaW = some r)) (fun (zaW : Int)=>[(0,(.int .u64 zaW))]) (fun (zaW : Int)=>[]) ?_ ?_
 ·skip
  refine WC.block ?_
  refine WC.y8R (fun (zdb : Nat) (z7T : Int) (z7f : Int)=>(y1v z9P zdb z7T z7f = some r)) (fun (zdb : Nat) (z7T : Int) (z7f : Int)=>[(0,(.int .u64 z7T)),(1,(.int .u64 z7f))]) (fun (zdb : Nat) (z7T : Int) (z7f : Int)=>[]) (fun (zdb : Nat) (z7T : Int) (z7f : Int)=>zdb) ⟨yw,z9Q,z9R⟩ h (.cons rfl (.cons rfl .nil)) .nil ?_
  rintro zdb z7T z7f h
  obtain ⟨ziz,rfl⟩:=y69 h
  rw [y1v] at h
  refine WC.b ?_
  refine WC.b ?_
  refine WC.a ?_
  refine WL.a (d:=5) rfl rfl rfl (q_m rfl) ?_
  refine WL.a (d:=6) rfl rfl rfl (y2L rfl rfl) ?_
  refine WL.nil ?_
  refine WX.a ?_
  refine WC.cond rfl (fun ziA=>?_) (fun ziA=>?_)
  ·replace h:=yj h ziA
   refine WC.skip ?_
   refine WX.a ?_
   refine WC.block ?_
   obtain ⟨zri,h⟩:=yp h
   refine WC.y1e (fun i=>[].contains i) [] rfl ?_
   refine WD.a (i:=0) (d:=7) (by kernel_rfl) rfl (z6 (by kernel_rfl)) (z7 (by kernel_rfl)) rfl rfl rfl (fun _=>q_m rfl) ?_
   refine WD.a (i:=1) (d:=8) (by kernel_rfl) rfl (z6 (by kernel_rfl)) (z7 (by kernel_rfl)) rfl rfl rfl (fun _=>q_m rfl) ?_
   refine WD.a (i:=2) (d:=9) (by kernel_rfl) rfl (z6 (by kernel_rfl)) (z7 (by kernel_rfl)) rfl rfl rfl (fun _=>q_m rfl) ?_
   refine WD.a (i:=3) (d:=10) (by kernel_rfl) rfl (z6 (by kernel_rfl)) (z7 (by kernel_rfl)) rfl rfl rfl (fun _=>y6V rfl rfl zri rfl) ?_
   refine WD.a (i:=4) (d:=0) (by kernel_rfl) rfl (z6 (by kernel_rfl)) (z7 (by kernel_rfl)) rfl rfl rfl (fun _=>q_z rfl) ?_
   refine WD.a (i:=5) (d:=1) (by kernel_rfl) rfl (z6 (by kernel_rfl)) (z7 (by kernel_rfl)) rfl rfl rfl (fun _=>q_z rfl) ?_
   refine WD.done (by kernel_rfl) ?_
   refine WX.yn ?_
   exact WX.round (G:=Nat × Int × Int) ⟨ziz,z7f,(Int.tmod z7T z7f)⟩ h (Nat.lt_succ_self _) (.cons rfl (.cons rfl .nil)) .nil
  ·replace h:=yk h ziA
   refine WC.exit ?_
   refine WX.ym ?_
   refine WX.ym ?_
   refine WX.yH ?_
   exact WX.mid (G:=Int) z7T h (.cons rfl .nil) .nil
 ·rintro zaW h
  replace h:=(zrh zaW).symm.trans h
  refine WC.b ?_
  refine WC.a ?_
  refine WL.a (d:=11) rfl rfl rfl (q_m rfl) ?_
  refine WL.a (d:=4) rfl rfl rfl (q_z rfl) ?_
  refine WL.nil ?_
  refine WX.a ?_
  refine WC.ret ?_
  obtain rfl:=Option.some.inj h
  refine WX.y9 Try.results29 (.tmp rfl .nil) (fun w hw=>?_)
  exact ⟨yI rfl,hw.sub .nil⟩
def y1i (z1p : z2) : Option Bool :=
 (if (((decide (z1p.fD ≥ 1)) && (decide (z1p.fD ≤ 1073741824))) && (decide (z1p.fN ≥ (-1073741824)))) && (decide (z1p.fN ≤ 1073741824)) then (y3j z1p.fN).bind fun zgn=>(y3j z1p.fD).bind fun zgo=>(y2J zgn zgo).bind fun ziB=>some (decide (ziB = 1)) else some false).bind fun ziC=>some ziC
set_option maxRecDepth 20000 in
theorem y1F (Z : Zp)   (z1p : z2) (r : Bool) (w₀ : World) (hz : PZ [] w₀ Z)
  (h : y1i z1p = some r) :
  Calls Try.prog 39 #[(.agg #[(.int .i64 z1p.fN),(.int .i64 z1p.fD)])] w₀ fun e w'=>e = .returned (.bool r) ∧ Hp [] w₀ w' []:=by
 unfold y1i at h
 refine Calls.yg (vs:=[(.agg #[(.int .i64 z1p.fN),(.int .i64 z1p.fD)])]) (pre:=[]) (env:=[(0,(.agg #[(.int .i64 z1p.fN),(.int .i64 z1p.fD)]))]) Try.func39 rfl Try.ntmps39 rfl (Hp.nil w₀ _) rfl ?_
 refine WC.b ?_
 refine WC.a ?_
 refine WL.new (dd:=1) rfl rfl rfl (yK (cs:=[(.int .i64 z1p.fN),(.int .i64 z1p.fD)]) rfl rfl) ?_
 intro z9S _
 refine WL.a (d:=2) rfl rfl rfl (q_z rfl) ?_
 refine WL.nil ?_
 refine WX.a ?_
 refine WC.b ?_
 obtain ⟨ziC,zno,h⟩:=zb h
 refine WC.y1e (fun i=>[].contains i) [] rfl ?_
 refine WD.a (i:=0) (d:=3) (by kernel_rfl) rfl (z6 (by kernel_rfl)) (z7 (by kernel_rfl)) rfl rfl rfl (fun _=>y4 y21 rfl rfl) ?_
 refine WD.e (i:=1) (d:=4) (by kernel_rfl) rfl (z6 (by kernel_rfl)) (z7 (by kernel_rfl)) rfl rfl rfl (ye yx rfl (yu .here rfl)) ?_
 refine WD.a (i:=2) (d:=5) (by kernel_rfl) rfl (z6 (by kernel_rfl)) (z7 (by kernel_rfl)) rfl rfl rfl (fun _=>y6r rfl rfl) ?_
 refine WD.a (i:=3) (d:=6) (by kernel_rfl) rfl (z6 (by kernel_rfl)) (z7 (by kernel_rfl)) rfl rfl rfl (fun _=>q_m rfl) ?_
 refine WD.mid (fuel':=21) [(1,(.pointer (some ⟨z9S,0,none⟩))),(2,(.bool false)),(6,(.bool (decide (z1p.fD ≥ 1)))),(10,(.bool ((decide (z1p.fD ≥ 1)) && (decide (z1p.fD ≤ 1073741824)))))] (y1C 29 [7,6,5,4,3,2,1,0]) ?_ (fun znp=>?_)
 rotate_left
 ·rcases Bool.eq_false_or_eq_true (decide (z1p.fD ≥ 1)) with hb' | hb'
  ·have ziD:=hb'; clear hb'
   refine WD.pin (i:=6) rfl ziD ?_
   refine WD.a (i:=4) (d:=7) (by kernel_rfl) rfl (z6 (by kernel_rfl)) (z7 (by kernel_rfl)) rfl rfl rfl (fun _=>y4 y21 rfl rfl) ?_
   refine WD.e (i:=5) (d:=8) (by kernel_rfl) rfl (z6 (by kernel_rfl)) (z7 (by kernel_rfl)) rfl rfl rfl (ye yx rfl (yu .here rfl)) ?_
   refine WD.a (i:=6) (d:=9) (by kernel_rfl) rfl (z6 (by kernel_rfl)) (z7 (by kernel_rfl)) rfl rfl rfl (fun _=>y5a rfl rfl) ?_
   refine WD.a (i:=7) (d:=10) (by kernel_rfl) rfl (z6 (by kernel_rfl)) (z7 (by kernel_rfl)) rfl rfl rfl (fun _=>ys rfl rfl) ?_
   refine WD.yV (.cons .here .nil) ?_ znp
   exact (.cons rfl (.cons rfl (.cons (zt (Eq.symm ziD)) (.cons (zt (y3s ziD)) .nil))))
  ·have ziE:=hb'; clear hb'
   refine WD.pin (i:=6) rfl ziE ?_
   refine WD.b (i:=4) (d:=7) (by kernel_rfl) rfl (z6 (by kernel_rfl)) (z7 (by kernel_rfl)) rfl rfl rfl ?_
   refine WD.b (i:=5) (d:=8) (by kernel_rfl) rfl (z6 (by kernel_rfl)) (z7 (by kernel_rfl)) rfl rfl rfl ?_
   refine WD.b (i:=6) (d:=9) (by kernel_rfl) rfl (z6 (by kernel_rfl)) (z7 (by kernel_rfl)) rfl rfl rfl ?_
   refine WD.a (i:=7) (d:=10) (by kernel_rfl) rfl (z6 (by kernel_rfl)) (z7 (by kernel_rfl)) rfl rfl rfl (fun _=>yr rfl rfl) ?_
   refine WD.yV (.cons .here .nil) ?_ znp
   exact (.cons rfl (.cons rfl (.cons (zt (Eq.symm ziE)) (.cons (zt (y3r ziE)) .nil))))
 refine WD.d #[true,true,true,true,true,true,true,true,false,false,false,false,false,false,false,false,false,false,false,false,false,false,false,false,false,false,false,false,false] (by kernel_rfl) ?_
 refine WD.a (i:=8) (d:=11) (by kernel_rfl) rfl (z6 (by kernel_rfl)) (z7 (by kernel_rfl)) rfl rfl rfl (fun _=>q_m rfl) ?_
 refine WD.mid (fuel':=16) [(1,(.pointer (some ⟨z9S,0,none⟩))),(2,(.bool false)),(11,(.bool ((decide (z1p.fD ≥ 1)) && (decide (z1p.fD ≤ 1073741824))))),(15,(.bool (((decide (z1p.fD ≥ 1)) && (decide (z1p.fD ≤ 1073741824))) && (decide (z1p.fN ≥ (-1073741824))))))] (y1C 29 [12,11,10,9,8,7,6,5,4,3,2,1,0]) ?_ (fun znq=>?_)
 rotate_left
 ·rcases Bool.eq_false_or_eq_true ((decide (z1p.fD ≥ 1)) && (decide (z1p.fD ≤ 1073741824))) with hb' | hb'
  ·have ziF:=hb'; clear hb'
   refine WD.pin (i:=11) rfl ziF ?_
   refine WD.a (i:=9) (d:=12) (by kernel_rfl) rfl (z6 (by kernel_rfl)) (z7 (by kernel_rfl)) rfl rfl rfl (fun _=>y4 y1J rfl rfl) ?_
   refine WD.e (i:=10) (d:=13) (by kernel_rfl) rfl (z6 (by kernel_rfl)) (z7 (by kernel_rfl)) rfl rfl rfl (ye yx rfl (yu .here rfl)) ?_
   refine WD.a (i:=11) (d:=14) (by kernel_rfl) rfl (z6 (by kernel_rfl)) (z7 (by kernel_rfl)) rfl rfl rfl (fun _=>y6r rfl rfl) ?_
   refine WD.a (i:=12) (d:=15) (by kernel_rfl) rfl (z6 (by kernel_rfl)) (z7 (by kernel_rfl)) rfl rfl rfl (fun _=>ys rfl rfl) ?_
   refine WD.yV (.cons .here .nil) ?_ znq
   exact (.cons rfl (.cons rfl (.cons (zt (Eq.symm ziF)) (.cons (zt (y3s ziF)) .nil))))
  ·have ziG:=hb'; clear hb'
   refine WD.pin (i:=11) rfl ziG ?_
   refine WD.b (i:=9) (d:=12) (by kernel_rfl) rfl (z6 (by kernel_rfl)) (z7 (by kernel_rfl)) rfl rfl rfl ?_
   refine WD.b (i:=10) (d:=13) (by kernel_rfl) rfl (z6 (by kernel_rfl)) (z7 (by kernel_rfl)) rfl rfl rfl ?_
   refine WD.b (i:=11) (d:=14) (by kernel_rfl) rfl (z6 (by kernel_rfl)) (z7 (by kernel_rfl)) rfl rfl rfl ?_
   refine WD.a (i:=12) (d:=15) (by kernel_rfl) rfl (z6 (by kernel_rfl)) (z7 (by kernel_rfl)) rfl rfl rfl (fun _=>yr rfl rfl) ?_
   refine WD.yV (.cons .here .nil) ?_ znq
   exact (.cons rfl (.cons rfl (.cons (zt (Eq.symm ziG)) (.cons (zt (y3r ziG)) .nil))))
 refine WD.d #[true,true,true,true,true,true,true,true,true,true,true,true,true,false,false,false,false,false,false,false,false,false,false,false,false,false,false,false,false] (by kernel_rfl) ?_
 refine WD.a (i:=13) (d:=16) (by kernel_rfl) rfl (z6 (by kernel_rfl)) (z7 (by kernel_rfl)) rfl rfl rfl (fun _=>q_m rfl) ?_
 refine WD.mid (fuel':=11) [(1,(.pointer (some ⟨z9S,0,none⟩))),(2,(.bool false)),(16,(.bool (((decide (z1p.fD ≥ 1)) && (decide (z1p.fD ≤ 1073741824))) && (decide (z1p.fN ≥ (-1073741824)))))),(20,(.bool ((((decide (z1p.fD ≥ 1)) && (decide (z1p.fD ≤ 1073741824))) && (decide (z1p.fN ≥ (-1073741824)))) && (decide (z1p.fN ≤ 1073741824)))))] (y1C 29 [17,16,15,14,13,12,11,10,9,8,7,6,5,4,3,2,1,0]) ?_ (fun znr=>?_)
 rotate_left
 ·rcases Bool.eq_false_or_eq_true (((decide (z1p.fD ≥ 1)) && (decide (z1p.fD ≤ 1073741824))) && (decide (z1p.fN ≥ (-1073741824)))) with hb' | hb'
  ·have ziH:=hb'; clear hb'
   refine WD.pin (i:=16) rfl ziH ?_
   refine WD.a (i:=14) (d:=17) (by kernel_rfl) rfl (z6 (by kernel_rfl)) (z7 (by kernel_rfl)) rfl rfl rfl (fun _=>y4 y1J rfl rfl) ?_
   refine WD.e (i:=15) (d:=18) (by kernel_rfl) rfl (z6 (by kernel_rfl)) (z7 (by kernel_rfl)) rfl rfl rfl (ye yx rfl (yu .here rfl)) ?_
   refine WD.a (i:=16) (d:=19) (by kernel_rfl) rfl (z6 (by kernel_rfl)) (z7 (by kernel_rfl)) rfl rfl rfl (fun _=>y5a rfl rfl) ?_
   refine WD.a (i:=17) (d:=20) (by kernel_rfl) rfl (z6 (by kernel_rfl)) (z7 (by kernel_rfl)) rfl rfl rfl (fun _=>ys rfl rfl) ?_
   refine WD.yV (.cons .here .nil) ?_ znr
   exact (.cons rfl (.cons rfl (.cons (zt (Eq.symm ziH)) (.cons (zt (y3s ziH)) .nil))))
  ·have ziI:=hb'; clear hb'
   refine WD.pin (i:=16) rfl ziI ?_
   refine WD.b (i:=14) (d:=17) (by kernel_rfl) rfl (z6 (by kernel_rfl)) (z7 (by kernel_rfl)) rfl rfl rfl ?_
   refine WD.b (i:=15) (d:=18) (by kernel_rfl) rfl (z6 (by kernel_rfl)) (z7 (by kernel_rfl)) rfl rfl rfl ?_
   refine WD.b (i:=16) (d:=19) (by kernel_rfl) rfl (z6 (by kernel_rfl)) (z7 (by kernel_rfl)) rfl rfl rfl ?_
   refine WD.a (i:=17) (d:=20) (by kernel_rfl) rfl (z6 (by kernel_rfl)) (z7 (by kernel_rfl)) rfl rfl rfl (fun _=>yr rfl rfl) ?_
   refine WD.yV (.cons .here .nil) ?_ znr
   exact (.cons rfl (.cons rfl (.cons (zt (Eq.symm ziI)) (.cons (zt (y3r ziI)) .nil))))
 refine WD.d #[true,true,true,true,true,true,true,true,true,true,true,true,true,true,true,true,true,true,false,false,false,false,false,false,false,false,false,false,false] (by kernel_rfl) ?_
 refine WD.a (i:=18) (d:=21) (by kernel_rfl) rfl (z6 (by kernel_rfl)) (z7 (by kernel_rfl)) rfl rfl rfl (fun _=>q_m rfl) ?_
 refine WD.mid (fuel':=1) [(2,(.bool false)),(21,(.bool ((((decide (z1p.fD ≥ 1)) && (decide (z1p.fD ≤ 1073741824))) && (decide (z1p.fN ≥ (-1073741824)))) && (decide (z1p.fN ≤ 1073741824))))),(30,(.bool ziC))] (y1C 29 [27,26,25,24,23,22,21,20,19,18,17,16,15,14,13,12,11,10,9,8,7,6,5,4,3,2,1,0]) ?_ (fun zns=>?_)
 rotate_left
 ·rcases Bool.eq_false_or_eq_true ((((decide (z1p.fD ≥ 1)) && (decide (z1p.fD ≤ 1073741824))) && (decide (z1p.fN ≥ (-1073741824)))) && (decide (z1p.fN ≤ 1073741824))) with hb' | hb'
  ·have ziJ:=hb'; clear hb'
   have z9T:=yj zno ziJ
   obtain ⟨zgn,zrj,z9T⟩:=zb z9T
   obtain ⟨zgo,zrk,z9T⟩:=zb z9T
   obtain ⟨ziB,zrl,z9T⟩:=zb z9T
   replace z9T:=Option.some.inj z9T
   refine WD.pin (i:=21) rfl ziJ ?_
   refine WD.a (i:=19) (d:=22) (by kernel_rfl) rfl (z6 (by kernel_rfl)) (z7 (by kernel_rfl)) rfl rfl rfl (fun _=>y4 y1J rfl rfl) ?_
   refine WD.e (i:=20) (d:=23) (by kernel_rfl) rfl (z6 (by kernel_rfl)) (z7 (by kernel_rfl)) rfl rfl rfl (ye yx rfl (yu .here rfl)) ?_
   refine WD.c (i:=21) (d:=24) (by kernel_rfl) rfl (z6 (by kernel_rfl)) (z7 (by kernel_rfl)) rfl rfl rfl (zl (l:=[.tmp 23]) Try.call28 (.cons rfl .nil)) (fun w hw=>by have pz:=(hz.call hw (.nil : Sel [stb z9S 30 [(.int .i64 z1p.fN),(.int .i64 z1p.fD)]] [] [stb z9S 30 [(.int .i64 z1p.fN),(.int .i64 z1p.fD)]])); exact y5E (Z:=_)  (z8d:=z1p.fN) (r:=zgn) w pz  zrj) ?_
   refine WD.a (i:=22) (d:=25) (by kernel_rfl) rfl (z6 (by kernel_rfl)) (z7 (by kernel_rfl)) rfl rfl rfl (fun _=>y4 y21 rfl rfl) ?_
   refine WD.e (i:=23) (d:=26) (by kernel_rfl) rfl (z6 (by kernel_rfl)) (z7 (by kernel_rfl)) rfl rfl rfl (ye yx rfl (yu .here rfl)) ?_
   refine WD.c (i:=24) (d:=27) (by kernel_rfl) rfl (z6 (by kernel_rfl)) (z7 (by kernel_rfl)) rfl rfl rfl (zl (l:=[.tmp 26]) Try.call28 (.cons rfl .nil)) (fun w hw=>by have pz:=(hz.call hw (.nil : Sel [stb z9S 30 [(.int .i64 z1p.fN),(.int .i64 z1p.fD)]] [] [stb z9S 30 [(.int .i64 z1p.fN),(.int .i64 z1p.fD)]])); exact y5E (Z:=_)  (z8d:=z1p.fD) (r:=zgo) w pz  zrk) ?_
   refine WD.c (i:=25) (d:=28) (by kernel_rfl) rfl (z6 (by kernel_rfl)) (z7 (by kernel_rfl)) rfl rfl rfl (zl (l:=[.tmp 24,.tmp 27]) Try.call29 (.cons rfl (.cons rfl .nil))) (fun w hw=>by have pz:=(hz.call hw (.nil : Sel [stb z9S 30 [(.int .i64 z1p.fN),(.int .i64 z1p.fD)]] [] [stb z9S 30 [(.int .i64 z1p.fN),(.int .i64 z1p.fD)]])); exact y6a (Z:=_)  (z9Q:=zgn) (z9R:=zgo) (r:=ziB) w pz  zrl) ?_
   refine WD.a (i:=26) (d:=29) (by kernel_rfl) rfl (z6 (by kernel_rfl)) (z7 (by kernel_rfl)) rfl rfl rfl (fun _=>y3g rfl rfl) ?_
   refine WD.a (i:=27) (d:=30) (by kernel_rfl) rfl (z6 (by kernel_rfl)) (z7 (by kernel_rfl)) rfl rfl rfl (fun _=>ys rfl rfl) ?_
   refine WD.yV (.cons .here .nil) ?_ zns
   exact (.cons rfl (.cons (zt (Eq.symm ziJ)) (.cons (zt z9T) .nil)))
  ·have ziK:=hb'; clear hb'
   have ziL:=yk zno ziK
   replace ziL:=Option.some.inj ziL
   refine WD.pin (i:=21) rfl ziK ?_
   refine WD.b (i:=19) (d:=22) (by kernel_rfl) rfl (z6 (by kernel_rfl)) (z7 (by kernel_rfl)) rfl rfl rfl ?_
   refine WD.b (i:=20) (d:=23) (by kernel_rfl) rfl (z6 (by kernel_rfl)) (z7 (by kernel_rfl)) rfl rfl rfl ?_
   refine WD.b (i:=21) (d:=24) (by kernel_rfl) rfl (z6 (by kernel_rfl)) (z7 (by kernel_rfl)) rfl rfl rfl ?_
   refine WD.b (i:=22) (d:=25) (by kernel_rfl) rfl (z6 (by kernel_rfl)) (z7 (by kernel_rfl)) rfl rfl rfl ?_
   refine WD.b (i:=23) (d:=26) (by kernel_rfl) rfl (z6 (by kernel_rfl)) (z7 (by kernel_rfl)) rfl rfl rfl ?_
   refine WD.b (i:=24) (d:=27) (by kernel_rfl) rfl (z6 (by kernel_rfl)) (z7 (by kernel_rfl)) rfl rfl rfl ?_
   refine WD.b (i:=25) (d:=28) (by kernel_rfl) rfl (z6 (by kernel_rfl)) (z7 (by kernel_rfl)) rfl rfl rfl ?_
   refine WD.b (i:=26) (d:=29) (by kernel_rfl) rfl (z6 (by kernel_rfl)) (z7 (by kernel_rfl)) rfl rfl rfl ?_
   refine WD.a (i:=27) (d:=30) (by kernel_rfl) rfl (z6 (by kernel_rfl)) (z7 (by kernel_rfl)) rfl rfl rfl (fun _=>yr rfl rfl) ?_
   refine WD.yV (.cons .here .nil) ?_ zns
   exact (.cons rfl (.cons (zt (Eq.symm ziK)) (.cons (zt ziL) .nil)))
 refine WD.d #[true,true,true,true,true,true,true,true,true,true,true,true,true,true,true,true,true,true,true,true,true,true,true,true,true,true,true,true,false] (by kernel_rfl) ?_
 refine WD.a (i:=28) (d:=2) (by kernel_rfl) rfl (z6 (by kernel_rfl)) (z7 (by kernel_rfl)) rfl rfl rfl (fun _=>q_z rfl) ?_
 refine WD.done (by kernel_rfl) ?_
 refine WX.a ?_
 refine WC.ret ?_
 obtain rfl:=Option.some.inj h
 refine WX.y9 Try.results39 (.tmp rfl .nil) (fun w hw=>?_)
 exact ⟨yI rfl,hw.sub .nil⟩
def y33 (z3Q : z2) : Option Bool :=
 (y1i z3Q).bind fun zeE=>some (zeE && (decide (z3Q.fN ≥ 0)))
set_option maxRecDepth 20000 in
theorem y6b (Z : Zp)   (z3Q : z2) (r : Bool) (w₀ : World) (hz : PZ [] w₀ Z)
  (h : y33 z3Q = some r) :
  Calls Try.prog 44 #[(.agg #[(.int .i64 z3Q.fN),(.int .i64 z3Q.fD)])] w₀ fun e w'=>e = .returned (.bool r) ∧ Hp [] w₀ w' []:=by
 unfold y33 at h
 refine Calls.yg (vs:=[(.agg #[(.int .i64 z3Q.fN),(.int .i64 z3Q.fD)])]) (pre:=[]) (env:=[(0,(.agg #[(.int .i64 z3Q.fN),(.int .i64 z3Q.fD)]))]) Try.func44 rfl Try.ntmps44 rfl (Hp.nil w₀ _) rfl ?_
 refine WC.b ?_
 refine WC.a ?_
 refine WL.new (dd:=1) rfl rfl rfl (yK (cs:=[(.int .i64 z3Q.fN),(.int .i64 z3Q.fD)]) rfl rfl) ?_
 intro zeF _
 refine WL.a (d:=2) rfl rfl rfl (q_z rfl) ?_
 refine WL.nil ?_
 refine WX.a ?_
 refine WC.b ?_
 obtain ⟨zeE,zrm,h⟩:=zb h
 refine WC.a ?_
 refine WL.a (d:=3) rfl rfl rfl (y6 (cs:=[(.int .i64 z3Q.fN),(.int .i64 z3Q.fD)]) y5 rfl rfl (y7 .here)) ?_
 refine WL.b (dd:=4) rfl rfl rfl (zl (l:=[.tmp 3]) Try.call39 (.cons rfl .nil)) (.nil : Sel [stb zeF 30 [(.int .i64 z3Q.fN),(.int .i64 z3Q.fD)]] [] [stb zeF 30 [(.int .i64 z3Q.fN),(.int .i64 z3Q.fD)]]) (fun w hw=>by have pz:=(hz.call hw (.nil : Sel [stb zeF 30 [(.int .i64 z3Q.fN),(.int .i64 z3Q.fD)]] [] [stb zeF 30 [(.int .i64 z3Q.fN),(.int .i64 z3Q.fD)]])); exact y1F (Z:=_)  (z1p:=z3Q) (r:=zeE) w pz  zrm) ?_
 refine WL.a (d:=5) rfl rfl rfl (q_m rfl) ?_
 refine WL.yF True [(2,(.bool false)),(9,(.bool (zeE && (decide (z3Q.fN ≥ 0)))))] [stb zeF 30 [(.int .i64 z3Q.fN),(.int .i64 z3Q.fD)]] 4 ?_ (fun _=>?_)
 ·rcases Bool.eq_false_or_eq_true zeE with hb' | hb'
  ·have znt:=hb'; clear hb'
   refine WL.pin (i:=5) rfl znt ?_
   refine WL.a (d:=6) rfl rfl rfl (y4 y1J rfl rfl) ?_
   refine WL.a (d:=7) rfl rfl rfl (ye yx rfl (yu .here rfl)) ?_
   refine WL.a (d:=8) rfl rfl rfl (y6r rfl rfl) ?_
   refine WL.a (d:=9) rfl rfl rfl (ys rfl rfl) ?_
   exact WL.ya () trivial (.cons rfl (.cons (zt (y3s znt)) .nil)) (.cons .here .nil)
  ·have znu:=hb'; clear hb'
   refine WL.pin (i:=5) rfl znu ?_
   refine WL.e rfl rfl rfl ?_
   refine WL.e rfl rfl rfl ?_
   refine WL.e rfl rfl rfl ?_
   refine WL.a (d:=9) rfl rfl rfl (yr rfl rfl) ?_
   exact WL.ya () trivial (.cons rfl (.cons (zt (y3r znu)) .nil)) (.cons .here .nil)
 ·skip
  refine WL.a (d:=2) rfl rfl rfl (q_z rfl) ?_
  refine WL.nil ?_
  refine WX.a ?_
  refine WC.ret ?_
  obtain rfl:=Option.some.inj h
  refine WX.y9 Try.results44 (.tmp rfl .nil) (fun w hw=>?_)
  exact ⟨yI rfl,hw.sub .nil⟩
def y2U (z1V : z1) : Option Bool :=
 (y33 z1V.fBurst).bind fun zgp=>(if !zgp then some true else (y33 z1V.fR).bind fun ziM=>some (!ziM)).bind fun ziN=>some ziN
set_option maxRecDepth 20000 in
theorem y87 (Z : Zp)   (z1V : z1) (r : Bool) (w₀ : World) (hz : PZ [] w₀ Z)
  (h : y2U z1V = some r) :
  Calls Try.prog 50 #[(.agg #[(.int .i64 z1V.fBurst.fN),(.int .i64 z1V.fBurst.fD),(.int .i64 z1V.fR.fN),(.int .i64 z1V.fR.fD)])] w₀ fun e w'=>e = .returned (.bool r) ∧ Hp [] w₀ w' []:=by
 unfold y2U at h
 refine Calls.yg (vs:=[(.agg #[(.int .i64 z1V.fBurst.fN),(.int .i64 z1V.fBurst.fD),(.int .i64 z1V.fR.fN),(.int .i64 z1V.fR.fD)])]) (pre:=[]) (env:=[(0,(.agg #[(.int .i64 z1V.fBurst.fN),(.int .i64 z1V.fBurst.fD),(.int .i64 z1V.fR.fN),(.int .i64 z1V.fR.fD)]))]) Try.func50 rfl Try.ntmps50 rfl (Hp.nil w₀ _) rfl ?_
 refine WC.b ?_
 refine WC.a ?_
 refine WL.new (dd:=1) rfl rfl rfl (yK (cs:=[(.int .i64 z1V.fBurst.fN),(.int .i64 z1V.fBurst.fD),(.int .i64 z1V.fR.fN),(.int .i64 z1V.fR.fD)]) rfl rfl) ?_
 intro z9U _
 refine WL.a (d:=2) rfl rfl rfl (q_z rfl) ?_
 refine WL.nil ?_
 refine WX.a ?_
 refine WC.b ?_
 obtain ⟨zgp,zrn,h⟩:=zb h
 obtain ⟨ziN,znv,h⟩:=zb h
 refine WC.a ?_
 refine WL.a (d:=3) rfl rfl rfl (y4 y3W rfl rfl) ?_
 refine WL.a (d:=4) rfl rfl rfl (y6 (cs:=[(.int .i64 z1V.fBurst.fN),(.int .i64 z1V.fBurst.fD)]) y5 rfl rfl (y1T (s:=2) .here rfl)) ?_
 refine WL.b (dd:=5) rfl rfl rfl (zl (l:=[.tmp 4]) Try.call44 (.cons rfl .nil)) (.nil : Sel [stb z9U 35 [(.int .i64 z1V.fBurst.fN),(.int .i64 z1V.fBurst.fD),(.int .i64 z1V.fR.fN),(.int .i64 z1V.fR.fD)]] [] [stb z9U 35 [(.int .i64 z1V.fBurst.fN),(.int .i64 z1V.fBurst.fD),(.int .i64 z1V.fR.fN),(.int .i64 z1V.fR.fD)]]) (fun w hw=>by have pz:=(hz.call hw (.nil : Sel [stb z9U 35 [(.int .i64 z1V.fBurst.fN),(.int .i64 z1V.fBurst.fD),(.int .i64 z1V.fR.fN),(.int .i64 z1V.fR.fD)]] [] [stb z9U 35 [(.int .i64 z1V.fBurst.fN),(.int .i64 z1V.fBurst.fD),(.int .i64 z1V.fR.fN),(.int .i64 z1V.fR.fD)]])); exact y6b (Z:=_)  (z3Q:=z1V.fBurst) (r:=zgp) w pz  zrn) ?_
 refine WL.a (d:=6) rfl rfl rfl (y1n rfl) ?_
 refine WL.a (d:=7) rfl rfl rfl (q_m rfl) ?_
 refine WL.yF True [(2,(.bool false)),(12,(.bool ziN))] [stb z9U 35 [(.int .i64 z1V.fBurst.fN),(.int .i64 z1V.fBurst.fD),(.int .i64 z1V.fR.fN),(.int .i64 z1V.fR.fD)]] 5 ?_ (fun _=>?_)
 ·rcases Bool.eq_false_or_eq_true (!zgp) with hb' | hb'
  ·have znw:=hb'; clear hb'
   have ziO:=yj znv znw
   replace ziO:=Option.some.inj ziO
   refine WL.pin (i:=7) rfl znw ?_
   refine WL.e rfl rfl rfl ?_
   refine WL.e rfl rfl rfl ?_
   refine WL.e rfl rfl rfl ?_
   refine WL.e rfl rfl rfl ?_
   refine WL.a (d:=12) rfl rfl rfl (ys rfl rfl) ?_
   exact WL.ya () trivial (.cons rfl (.cons (zt ziO) .nil)) (.cons .here .nil)
  ·have znx:=hb'; clear hb'
   have zeG:=yk znv znx
   obtain ⟨ziM,zro,zeG⟩:=zb zeG
   replace zeG:=Option.some.inj zeG
   refine WL.pin (i:=7) rfl znx ?_
   refine WL.a (d:=8) rfl rfl rfl (y4 y4J rfl rfl) ?_
   refine WL.a (d:=9) rfl rfl rfl (y6 (cs:=[(.int .i64 z1V.fR.fN),(.int .i64 z1V.fR.fD)]) y5 rfl rfl (y1T (s:=2) .here rfl)) ?_
   refine WL.b (dd:=10) rfl rfl rfl (zl (l:=[.tmp 9]) Try.call44 (.cons rfl .nil)) (.nil : Sel [stb z9U 35 [(.int .i64 z1V.fBurst.fN),(.int .i64 z1V.fBurst.fD),(.int .i64 z1V.fR.fN),(.int .i64 z1V.fR.fD)]] [] [stb z9U 35 [(.int .i64 z1V.fBurst.fN),(.int .i64 z1V.fBurst.fD),(.int .i64 z1V.fR.fN),(.int .i64 z1V.fR.fD)]]) (fun w hw=>by have pz:=(hz.call hw (.nil : Sel [stb z9U 35 [(.int .i64 z1V.fBurst.fN),(.int .i64 z1V.fBurst.fD),(.int .i64 z1V.fR.fN),(.int .i64 z1V.fR.fD)]] [] [stb z9U 35 [(.int .i64 z1V.fBurst.fN),(.int .i64 z1V.fBurst.fD),(.int .i64 z1V.fR.fN),(.int .i64 z1V.fR.fD)]])); exact y6b (Z:=_)  (z3Q:=z1V.fR) (r:=ziM) w pz  zro) ?_
   refine WL.a (d:=11) rfl rfl rfl (y1n rfl) ?_
   refine WL.a (d:=12) rfl rfl rfl (yr rfl rfl) ?_
   exact WL.ya () trivial (.cons rfl (.cons (zt zeG) .nil)) (.cons .here .nil)
 ·skip
  refine WL.a (d:=2) rfl rfl rfl (q_z rfl) ?_
  refine WL.nil ?_
  refine WX.a ?_
  refine WC.ret ?_
  obtain rfl:=Option.some.inj h
  refine WX.y9 Try.results50 (.tmp rfl .nil) (fun w hw=>?_)
  exact ⟨yI rfl,hw.sub .nil⟩
def yL (z3R : List z1) (z8K : z1 → Option Bool) (z9V : Option Int) : Nat → Int → Option Int
 | 0,_=>none
 | ziP + 1,z4b=>if decide (z4b < ((z3R.length : Nat) : Int)) then chk ((0 : Int) ≤ z4b ∧ z4b < ((z3R.length : Nat) : Int)) ((z8K (⟨(⟨(((nth z3R z4b).fBurst).fN),(((nth z3R z4b).fBurst).fD)⟩ : z2),(⟨(((nth z3R z4b).fR).fN),(((nth z3R z4b).fR).fD)⟩ : z2)⟩ : z1)).bind fun ziQ=>if ziQ then some z4b else yL z3R z8K z9V ziP (i64 (z4b + 1))) else z9V
theorem y38 {n : Nat} {z3R : List z1} {z8K : z1 → Option Bool} {z9V : Option Int} {z4b : Int} {r : Int} (h : yL z3R z8K z9V n z4b = some r) : ∃ m,n = m + 1:=by
 cases n with
 | zero=>cases h
 | succ m=>exact ⟨m,rfl⟩
def y1U (z3R : List z1) (z8K : z1 → Option Bool) : Option Int :=
 jp0 (some (-1)) fun z9V=>yL z3R z8K z9V yw 0
set_option maxRecDepth 20000 in
theorem y3N (Z : Zp)  (zdc : Option Addr) (zdd : Nat) (z9W : FuncId) (zbQ : List Value) (z3R : List z1) (z8K : z1 → Option Bool) (r : Int) (w₀ : World) (hz : PZ [] w₀ Z)
  (zrp : ZS Z 4 (fun r x=>r = e35 x) zdc zdd z3R)
  (zrq : ∀ args w,(callFunc z9W args).run Try.prog w = .ok (.enter z9W args) w)
  (zrr : ∀ w : World,PZ [] w Z → ∀ (x0 : z1) (r : Bool),z8K x0 = some r → Calls Try.prog z9W (([(.agg #[(.int .i64 x0.fBurst.fN),(.int .i64 x0.fBurst.fD),(.int .i64 x0.fR.fN),(.int .i64 x0.fR.fD)])] : List Value) ++ zbQ).toArray w fun e w'=>e = .returned (.bool r) ∧ Hp [] w w' [])
  (h : y1U z3R z8K = some r) :
  Calls Try.prog 64 #[(.slice zdc z3R.length zdd),(.func (.func z9W) #[] (zbQ).toArray)] w₀ fun e w'=>e = .returned (.int .i64 r) ∧ Hp [] w₀ w' []:=by
 unfold y1U at h
 refine Calls.yg (vs:=[(.slice zdc z3R.length zdd),(.func (.func z9W) #[] (zbQ).toArray)]) (pre:=[]) (env:=[(0,(.slice zdc z3R.length zdd)),(1,(.func (.func z9W) #[] (zbQ).toArray))]) Try.func64 rfl Try.ntmps64 rfl (Hp.nil w₀ _) rfl ?_
 refine WC.b ?_
 refine WC.a ?_
 refine WL.a (d:=4) rfl rfl rfl (q_z rfl) ?_
 refine WL.nil ?_
 refine WX.a ?_
 obtain ⟨z9V,zrs,h⟩:=y4C h
 refine WC.y4S ((z9V = some r)) ([]) ([]) ?_ ?_
 ·skip
  refine WC.b ?_
  refine WC.a ?_
  refine WL.a (d:=6) rfl rfl rfl (q_m rfl) ?_
  refine WL.a (d:=7) rfl rfl rfl (y1k Try.underlying39 rfl) ?_
  refine WL.a (d:=8) rfl rfl rfl (q_m rfl) ?_
  refine WL.nil ?_
  refine WX.a ?_
  refine WC.block ?_
  refine WC.y63 (fun (zde : Nat) (z4b : Int)=>(yL z3R z8K z9V zde z4b = some r)) (fun (zde : Nat) (z4b : Int)=>[(0,(.slice zdc z3R.length zdd)),(1,(.func (.func z9W) #[] (zbQ).toArray)),(7,(.int .i64 ((z3R.length : Nat) : Int))),(8,(.int .i64 z4b))]) (fun (zde : Nat) (z4b : Int)=>[]) (fun (zde : Nat) (z4b : Int)=>zde) ⟨yw,0⟩ h (.cons rfl (.cons rfl (.cons rfl (.cons rfl .nil)))) .nil ?_
  rintro zde z4b h
  obtain ⟨ziP,rfl⟩:=y38 h
  rw [yL] at h
  refine WC.b ?_
  refine WC.a ?_
  refine WL.a (d:=9) rfl rfl rfl (y1h rfl rfl) ?_
  refine WL.nil ?_
  refine WX.a ?_
  refine WC.b ?_
  refine WC.cond rfl (fun ziR=>?_) (fun ziR=>?_)
  ·replace h:=yj h ziR
   refine WC.skip ?_
   refine WX.a ?_
   refine WC.b ?_
   refine WC.block ?_
   refine WC.b ?_
   refine WC.a ?_
   refine WL.a (d:=10) rfl rfl rfl (q_m rfl) ?_
   refine WL.a (d:=5) rfl rfl rfl (q_z rfl) ?_
   refine WL.nil ?_
   refine WX.a ?_
   refine WC.b ?_
   obtain ⟨zrt,h⟩:=yp h
   obtain ⟨ziQ,zru,h⟩:=zb h
   refine WC.a ?_
   refine WL.a (d:=11) rfl rfl rfl (q_m rfl) ?_
   refine WL.a (d:=12) rfl rfl rfl (q_m rfl) ?_
   refine WL.a (d:=13) rfl rfl rfl (q_m rfl) ?_
   refine WL.znth (dd:=14) rfl rfl (Z:=Z) (Pr:=(fun r x=>r = e35 x)) y2j rfl rfl zrp zrt ?_
   rintro zzp zzq zrv zzr rfl
   refine WL.a (d:=15) rfl rfl rfl (y6 (cs:=[(.int .i64 (((nth z3R z4b).fBurst).fN)),(.int .i64 (((nth z3R z4b).fBurst).fD)),(.int .i64 (((nth z3R z4b).fR).fN)),(.int .i64 (((nth z3R z4b).fR).fD))]) y1D rfl rfl (y2T hz.pv zrv)) ?_
   refine WL.b (dd:=16) rfl rfl rfl (y2f (l:=[.tmp 15]) (f:=z9W) (caps:=zbQ) zrq rfl (.cons rfl .nil)) .nil (fun w hw=>zrr w (hz.now hw) (⟨(⟨(((nth z3R z4b).fBurst).fN),(((nth z3R z4b).fBurst).fD)⟩ : z2),(⟨(((nth z3R z4b).fR).fN),(((nth z3R z4b).fR).fD)⟩ : z2)⟩ : z1) ziQ  zru) ?_
   refine WL.nil ?_
   refine WX.a ?_
   refine WC.cond rfl (fun ziS=>?_) (fun ziS=>?_)
   ·replace h:=yj h ziS
    refine WC.b ?_
    refine WC.a ?_
    refine WL.a (d:=17) rfl rfl rfl (q_m rfl) ?_
    refine WL.a (d:=4) rfl rfl rfl (q_z rfl) ?_
    refine WL.nil ?_
    refine WX.a ?_
    refine WC.ret ?_
    refine WX.yt ?_
    refine WX.y8 ?_
    refine WX.y8 ?_
    refine WX.yt ?_
    refine WX.y8 ?_
    obtain rfl:=Option.some.inj h
    refine WX.y9 Try.results64 (.tmp rfl .nil) (fun w hw=>?_)
    exact ⟨yI rfl,hw.sub .nil⟩
   ·replace h:=yk h ziS
    refine WC.skip ?_
    refine WX.yn ?_
    refine WX.a ?_
    refine WC.a ?_
    refine WL.a (d:=18) rfl rfl rfl (y1d rfl rfl rfl) ?_
    refine WL.a (d:=8) rfl rfl rfl (q_m rfl) ?_
    refine WL.nil ?_
    exact WX.round (G:=Nat × Int) ⟨ziP,(i64 (z4b + 1))⟩ h (Nat.lt_succ_self _) (.cons rfl (.cons rfl (.cons rfl (.cons rfl .nil)))) .nil
  ·replace h:=yk h ziR
   refine WC.exit ?_
   refine WX.ym ?_
   refine WX.ym ?_
   refine WX.yH ?_
   exact WX.mid (G:=Unit) () h .nil .nil
 ·rintro  h
  replace h:=zrs.symm.trans h
  refine WC.b ?_
  refine WC.a ?_
  refine WL.a (d:=4) rfl rfl rfl (q_z rfl) ?_
  refine WL.nil ?_
  refine WX.a ?_
  refine WC.ret ?_
  obtain rfl:=Option.some.inj h
  refine WX.y9 Try.results64 (.tmp rfl .nil) (fun w hw=>?_)
  exact ⟨yI rfl,hw.sub .nil⟩
def y11 (z9e : List z1) (zbR : z1 → Option Bool) : Option Bool :=
 (y1U z9e zbR).bind fun ziT=>some (decide (ziT ≥ 0))
set_option maxRecDepth 20000 in
theorem y2q (Z : Zp)  (zbS : Option Addr) (zbT : Nat) (z9X : FuncId) (zbU : List Value) (z9e : List z1) (zbR : z1 → Option Bool) (r : Bool) (w₀ : World) (hz : PZ [] w₀ Z)
  (zrw : ZS Z 4 (fun r x=>r = e35 x) zbS zbT z9e)
  (zrx : ∀ args w,(callFunc z9X args).run Try.prog w = .ok (.enter z9X args) w)
  (zry : ∀ w : World,PZ [] w Z → ∀ (x0 : z1) (r : Bool),zbR x0 = some r → Calls Try.prog z9X (([(.agg #[(.int .i64 x0.fBurst.fN),(.int .i64 x0.fBurst.fD),(.int .i64 x0.fR.fN),(.int .i64 x0.fR.fD)])] : List Value) ++ zbU).toArray w fun e w'=>e = .returned (.bool r) ∧ Hp [] w w' [])
  (h : y11 z9e zbR = some r) :
  Calls Try.prog 49 #[(.slice zbS z9e.length zbT),(.func (.func z9X) #[] (zbU).toArray)] w₀ fun e w'=>e = .returned (.bool r) ∧ Hp [] w₀ w' []:=by
 unfold y11 at h
 refine Calls.yg (vs:=[(.slice zbS z9e.length zbT),(.func (.func z9X) #[] (zbU).toArray)]) (pre:=[]) (env:=[(0,(.slice zbS z9e.length zbT)),(1,(.func (.func z9X) #[] (zbU).toArray))]) Try.func49 rfl Try.ntmps49 rfl (Hp.nil w₀ _) rfl ?_
 refine WC.b ?_
 refine WC.a ?_
 refine WL.a (d:=4) rfl rfl rfl (q_z rfl) ?_
 refine WL.nil ?_
 refine WX.a ?_
 refine WC.b ?_
 obtain ⟨ziT,zrz,h⟩:=zb h
 refine WC.a ?_
 refine WL.a (d:=5) rfl rfl rfl (q_m rfl) ?_
 refine WL.a (d:=6) rfl rfl rfl (q_m rfl) ?_
 refine WL.b (dd:=7) rfl rfl rfl (zl (l:=[.tmp 5,.tmp 6]) Try.call64 (.cons rfl (.cons rfl .nil))) (.nil : Sel [] [] []) (fun w hw=>by have pz:=(hz.call hw (.nil : Sel [] [] [])); exact y3N (Z:=_) (zdc:=zbS) (zdd:=zbT) (z9W:=z9X) (zbQ:=zbU) (z3R:=z9e) (z8K:=zbR) (r:=ziT) w pz zrw zrx zry zrz) ?_
 refine WL.a (d:=8) rfl rfl rfl (y6r rfl rfl) ?_
 refine WL.a (d:=4) rfl rfl rfl (q_z rfl) ?_
 refine WL.nil ?_
 refine WX.a ?_
 refine WC.ret ?_
 obtain rfl:=Option.some.inj h
 refine WX.y9 Try.results49 (.tmp rfl .nil) (fun w hw=>?_)
 exact ⟨yI rfl,hw.sub .nil⟩
def y2m (z5t : List z1) : Option Bool :=
 (if (decide (((z5t.length : Nat) : Int) ≥ 1)) && (decide (((z5t.length : Nat) : Int) ≤ 32)) then (y11 z5t (fun (y0 : z1)=>y2U y0)).bind fun ziU=>some (!ziU) else some false).bind fun ziV=>some ziV
set_option maxRecDepth 20000 in
theorem y3O (Z : Zp)  (z8L : Option Addr) (z8M : Nat) (z5t : List z1) (r : Bool) (w₀ : World) (hz : PZ [] w₀ Z)
  (zrA : ZS Z 4 (fun r x=>r = e35 x) z8L z8M z5t)
  (h : y2m z5t = some r) :
  Calls Try.prog 30 #[(.slice z8L z5t.length z8M)] w₀ fun e w'=>e = .returned (.bool r) ∧ Hp [] w₀ w' []:=by
 unfold y2m at h
 refine Calls.yg (vs:=[(.slice z8L z5t.length z8M)]) (pre:=[]) (env:=[(0,(.slice z8L z5t.length z8M))]) Try.func30 rfl Try.ntmps30 rfl (Hp.nil w₀ _) rfl ?_
 refine WC.b ?_
 refine WC.a ?_
 refine WL.a (d:=2) rfl rfl rfl (q_z rfl) ?_
 refine WL.nil ?_
 refine WX.a ?_
 refine WC.b ?_
 obtain ⟨ziV,zny,h⟩:=zb h
 refine WC.a ?_
 refine WL.a (d:=3) rfl rfl rfl (q_m rfl) ?_
 refine WL.a (d:=4) rfl rfl rfl (y1k Try.underlying39 rfl) ?_
 refine WL.a (d:=5) rfl rfl rfl (y6r rfl rfl) ?_
 refine WL.a (d:=6) rfl rfl rfl (q_m rfl) ?_
 refine WL.yF True [(0,(.slice z8L z5t.length z8M)),(2,(.bool false)),(10,(.bool ((decide (((z5t.length : Nat) : Int) ≥ 1)) && (decide (((z5t.length : Nat) : Int) ≤ 32)))))] [] 4 ?_ (fun _=>?_)
 ·rcases Bool.eq_false_or_eq_true (decide (((z5t.length : Nat) : Int) ≥ 1)) with hb' | hb'
  ·have znz:=hb'; clear hb'
   refine WL.pin (i:=6) rfl znz ?_
   refine WL.a (d:=7) rfl rfl rfl (q_m rfl) ?_
   refine WL.a (d:=8) rfl rfl rfl (y1k Try.underlying39 rfl) ?_
   refine WL.a (d:=9) rfl rfl rfl (y5a rfl rfl) ?_
   refine WL.a (d:=10) rfl rfl rfl (ys rfl rfl) ?_
   exact WL.ya () trivial (.cons rfl (.cons rfl (.cons (zt (y3s znz)) .nil))) .nil
  ·have znA:=hb'; clear hb'
   refine WL.pin (i:=6) rfl znA ?_
   refine WL.e rfl rfl rfl ?_
   refine WL.e rfl rfl rfl ?_
   refine WL.e rfl rfl rfl ?_
   refine WL.a (d:=10) rfl rfl rfl (yr rfl rfl) ?_
   exact WL.ya () trivial (.cons rfl (.cons rfl (.cons (zt (y3r znA)) .nil))) .nil
 ·skip
  refine WL.a (d:=11) rfl rfl rfl (q_m rfl) ?_
  refine WL.yF True [(2,(.bool false)),(15,(.bool ziV))] [] 4 ?_ (fun _=>?_)
  ·rcases Bool.eq_false_or_eq_true ((decide (((z5t.length : Nat) : Int) ≥ 1)) && (decide (((z5t.length : Nat) : Int) ≤ 32))) with hb' | hb'
   ·have znB:=hb'; clear hb'
    have zeH:=yj zny znB
    obtain ⟨ziU,zrB,zeH⟩:=zb zeH
    replace zeH:=Option.some.inj zeH
    refine WL.pin (i:=11) rfl znB ?_
    refine WL.a (d:=12) rfl rfl rfl (q_m rfl) ?_
    refine WL.b (dd:=13) rfl rfl rfl (zl (l:=[.tmp 12,.func 50]) Try.call49 (.cons rfl (.cons rfl .nil))) (.nil : Sel [] [] []) (fun w hw=>by have pz:=(hz.call hw (.nil : Sel [] [] [])); exact y2q (Z:=_) (zbS:=z8L) (zbT:=z8M) (z9X:=50) (zbU:=[]) (z9e:=z5t) (zbR:=(fun (y0 : z1)=>y2U y0)) (r:=ziU) w pz zrA Try.call50 (fun w' hz' y0  r  hr=>y87 (Z:=_)  (z1V:=y0) (r:=r) w' hz'  hr) zrB) ?_
    refine WL.a (d:=14) rfl rfl rfl (y1n rfl) ?_
    refine WL.a (d:=15) rfl rfl rfl (ys rfl rfl) ?_
    exact WL.ya () trivial (.cons rfl (.cons (zt zeH) .nil)) .nil
   ·have znC:=hb'; clear hb'
    have ziW:=yk zny znC
    replace ziW:=Option.some.inj ziW
    refine WL.pin (i:=11) rfl znC ?_
    refine WL.e rfl rfl rfl ?_
    refine WL.e rfl rfl rfl ?_
    refine WL.e rfl rfl rfl ?_
    refine WL.a (d:=15) rfl rfl rfl (yr rfl rfl) ?_
    exact WL.ya () trivial (.cons rfl (.cons (zt ziW) .nil)) .nil
  ·skip
   refine WL.a (d:=2) rfl rfl rfl (q_z rfl) ?_
   refine WL.nil ?_
   refine WX.a ?_
   refine WC.ret ?_
   obtain rfl:=Option.some.inj h
   refine WX.y9 Try.results30 (.tmp rfl .nil) (fun w hw=>?_)
   exact ⟨yI rfl,hw.sub .nil⟩
def yB (z9f : List z1) : Option Bool :=
 (y2m z9f).bind fun ziX=>some (!ziX)
set_option maxRecDepth 20000 in
theorem y45 (Z : Zp)  (zbV : Option Addr) (zbW : Nat) (z9f : List z1) (r : Bool) (w₀ : World) (hz : PZ [] w₀ Z)
  (zrC : ZS Z 4 (fun r x=>r = e35 x) zbV zbW z9f)
  (h : yB z9f = some r) :
  Calls Try.prog 67 #[(.slice zbV z9f.length zbW)] w₀ fun e w'=>e = .returned (.bool r) ∧ Hp [] w₀ w' []:=by
 unfold yB at h
 refine Calls.yg (vs:=[(.slice zbV z9f.length zbW)]) (pre:=[]) (env:=[(0,(.slice zbV z9f.length zbW))]) Try.func67 rfl Try.ntmps67 rfl (Hp.nil w₀ _) rfl ?_
 refine WC.b ?_
 refine WC.a ?_
 refine WL.a (d:=2) rfl rfl rfl (q_z rfl) ?_
 refine WL.nil ?_
 refine WX.a ?_
 refine WC.b ?_
 obtain ⟨ziX,zrD,h⟩:=zb h
 refine WC.a ?_
 refine WL.a (d:=3) rfl rfl rfl (q_m rfl) ?_
 refine WL.b (dd:=4) rfl rfl rfl (zl (l:=[.tmp 3]) Try.call30 (.cons rfl .nil)) (.nil : Sel [] [] []) (fun w hw=>by have pz:=(hz.call hw (.nil : Sel [] [] [])); exact y3O (Z:=_) (z8L:=zbV) (z8M:=zbW) (z5t:=z9f) (r:=ziX) w pz zrC zrD) ?_
 refine WL.a (d:=5) rfl rfl rfl (y1n rfl) ?_
 refine WL.a (d:=2) rfl rfl rfl (q_z rfl) ?_
 refine WL.nil ?_
 refine WX.a ?_
 refine WC.ret ?_
 obtain rfl:=Option.some.inj h
 refine WX.y9 Try.results67 (.tmp rfl .nil) (fun w hw=>?_)
 exact ⟨yI rfl,hw.sub .nil⟩
def yA (z5K : List (List z1)) (z8N : (List z1) → Option Bool) (z9Y : Option Int) : Nat → Int → Option Int
 | 0,_=>none
 | ziY + 1,z6B=>if decide (z6B < ((z5K.length : Nat) : Int)) then chk ((0 : Int) ≤ z6B ∧ z6B < ((z5K.length : Nat) : Int)) ((z8N (nth z5K z6B)).bind fun ziZ=>if ziZ then some z6B else yA z5K z8N z9Y ziY (i64 (z6B + 1))) else z9Y
theorem y39 {n : Nat} {z5K : List (List z1)} {z8N : (List z1) → Option Bool} {z9Y : Option Int} {z6B : Int} {r : Int} (h : yA z5K z8N z9Y n z6B = some r) : ∃ m,n = m + 1:=by
 cases n with
 | zero=>cases h
 | succ m=>exact ⟨m,rfl⟩
def y1Z (z5K : List (List z1)) (z8N : (List z1) → Option Bool) : Option Int :=
 jp0 (some (-1)) fun z9Y=>yA z5K z8N z9Y yw 0
set_option maxRecDepth 20000 in
theorem y40 (Z : Zp)  (zdf : Option Addr) (zdg : Nat) (z9Z : FuncId) (zbX : List Value) (z5K : List (List z1)) (z8N : (List z1) → Option Bool) (r : Int) (w₀ : World) (hz : PZ [] w₀ Z)
  (zrE : ZS Z 1 (p39 Z) zdf zdg z5K)
  (zrF : ∀ args w,(callFunc z9Z args).run Try.prog w = .ok (.enter z9Z args) w)
  (zrG : ∀ w : World,PZ [] w Z → ∀ (x0 : List z1) (ao0 : Option Addr) (cap0 : Nat) (r : Bool),ZS Z 4 (fun r x=>r = e35 x) ao0 cap0 x0 → z8N x0 = some r → Calls Try.prog z9Z (([(.slice ao0 x0.length cap0)] : List Value) ++ zbX).toArray w fun e w'=>e = .returned (.bool r) ∧ Hp [] w w' [])
  (h : y1Z z5K z8N = some r) :
  Calls Try.prog 75 #[(.slice zdf z5K.length zdg),(.func (.func z9Z) #[] (zbX).toArray)] w₀ fun e w'=>e = .returned (.int .i64 r) ∧ Hp [] w₀ w' []:=by
 unfold y1Z at h
 refine Calls.yg (vs:=[(.slice zdf z5K.length zdg),(.func (.func z9Z) #[] (zbX).toArray)]) (pre:=[]) (env:=[(0,(.slice zdf z5K.length zdg)),(1,(.func (.func z9Z) #[] (zbX).toArray))]) Try.func75 rfl Try.ntmps75 rfl (Hp.nil w₀ _) rfl ?_
 refine WC.b ?_
 refine WC.a ?_
 refine WL.a (d:=4) rfl rfl rfl (q_z rfl) ?_
 refine WL.nil ?_
 refine WX.a ?_
 obtain ⟨z9Y,zrH,h⟩:=y4C h
 refine WC.y4S ((z9Y = some r)) ([]) ([]) ?_ ?_
 ·skip
  refine WC.b ?_
  refine WC.a ?_
  refine WL.a (d:=6) rfl rfl rfl (q_m rfl) ?_
  refine WL.a (d:=7) rfl rfl rfl (y1k Try.underlying26 rfl) ?_
  refine WL.a (d:=8) rfl rfl rfl (q_m rfl) ?_
  refine WL.nil ?_
  refine WX.a ?_
  refine WC.block ?_
  refine WC.y63 (fun (zdh : Nat) (z6B : Int)=>(yA z5K z8N z9Y zdh z6B = some r)) (fun (zdh : Nat) (z6B : Int)=>[(0,(.slice zdf z5K.length zdg)),(1,(.func (.func z9Z) #[] (zbX).toArray)),(7,(.int .i64 ((z5K.length : Nat) : Int))),(8,(.int .i64 z6B))]) (fun (zdh : Nat) (z6B : Int)=>[]) (fun (zdh : Nat) (z6B : Int)=>zdh) ⟨yw,0⟩ h (.cons rfl (.cons rfl (.cons rfl (.cons rfl .nil)))) .nil ?_
  rintro zdh z6B h
  obtain ⟨ziY,rfl⟩:=y39 h
  rw [yA] at h
  refine WC.b ?_
  refine WC.a ?_
  refine WL.a (d:=9) rfl rfl rfl (y1h rfl rfl) ?_
  refine WL.nil ?_
  refine WX.a ?_
  refine WC.b ?_
  refine WC.cond rfl (fun zj0=>?_) (fun zj0=>?_)
  ·replace h:=yj h zj0
   refine WC.skip ?_
   refine WX.a ?_
   refine WC.b ?_
   refine WC.block ?_
   refine WC.b ?_
   refine WC.a ?_
   refine WL.a (d:=10) rfl rfl rfl (q_m rfl) ?_
   refine WL.a (d:=5) rfl rfl rfl (q_z rfl) ?_
   refine WL.nil ?_
   refine WX.a ?_
   refine WC.b ?_
   obtain ⟨zrI,h⟩:=yp h
   obtain ⟨ziZ,zrJ,h⟩:=zb h
   refine WC.a ?_
   refine WL.a (d:=11) rfl rfl rfl (q_m rfl) ?_
   refine WL.a (d:=12) rfl rfl rfl (q_m rfl) ?_
   refine WL.a (d:=13) rfl rfl rfl (q_m rfl) ?_
   refine WL.znth (dd:=14) rfl rfl (Z:=Z) (Pr:=(p39 Z)) y32 rfl rfl zrE zrI ?_
   rintro zzs zzt zrK zzu ⟨zrL,zrM,rfl,zrN⟩
   refine WL.a (d:=15) rfl rfl rfl (ye y3b rfl (y3Z hz.pv zrK rfl)) ?_
   refine WL.b (dd:=16) rfl rfl rfl (y2f (l:=[.tmp 15]) (f:=z9Z) (caps:=zbX) zrF rfl (.cons rfl .nil)) .nil (fun w hw=>zrG w (hz.now hw) (nth z5K z6B) zrL zrM ziZ zrN zrJ) ?_
   refine WL.nil ?_
   refine WX.a ?_
   refine WC.cond rfl (fun zj1=>?_) (fun zj1=>?_)
   ·replace h:=yj h zj1
    refine WC.b ?_
    refine WC.a ?_
    refine WL.a (d:=17) rfl rfl rfl (q_m rfl) ?_
    refine WL.a (d:=4) rfl rfl rfl (q_z rfl) ?_
    refine WL.nil ?_
    refine WX.a ?_
    refine WC.ret ?_
    refine WX.yt ?_
    refine WX.y8 ?_
    refine WX.y8 ?_
    refine WX.yt ?_
    refine WX.y8 ?_
    obtain rfl:=Option.some.inj h
    refine WX.y9 Try.results75 (.tmp rfl .nil) (fun w hw=>?_)
    exact ⟨yI rfl,hw.sub .nil⟩
   ·replace h:=yk h zj1
    refine WC.skip ?_
    refine WX.yn ?_
    refine WX.a ?_
    refine WC.a ?_
    refine WL.a (d:=18) rfl rfl rfl (y1d rfl rfl rfl) ?_
    refine WL.a (d:=8) rfl rfl rfl (q_m rfl) ?_
    refine WL.nil ?_
    exact WX.round (G:=Nat × Int) ⟨ziY,(i64 (z6B + 1))⟩ h (Nat.lt_succ_self _) (.cons rfl (.cons rfl (.cons rfl (.cons rfl .nil)))) .nil
  ·replace h:=yk h zj0
   refine WC.exit ?_
   refine WX.ym ?_
   refine WX.ym ?_
   refine WX.yH ?_
   exact WX.mid (G:=Unit) () h .nil .nil
 ·rintro  h
  replace h:=zrH.symm.trans h
  refine WC.b ?_
  refine WC.a ?_
  refine WL.a (d:=4) rfl rfl rfl (q_z rfl) ?_
  refine WL.nil ?_
  refine WX.a ?_
  refine WC.ret ?_
  obtain rfl:=Option.some.inj h
  refine WX.y9 Try.results75 (.tmp rfl .nil) (fun w hw=>?_)
  exact ⟨yI rfl,hw.sub .nil⟩
def yP (z9g : List (List z1)) (zbY : (List z1) → Option Bool) : Option Bool :=
 (y1Z z9g zbY).bind fun zj2=>some (decide (zj2 ≥ 0))
set_option maxRecDepth 20000 in
theorem y2t (Z : Zp)  (zbZ : Option Addr) (zc0 : Nat) (za0 : FuncId) (zc1 : List Value) (z9g : List (List z1)) (zbY : (List z1) → Option Bool) (r : Bool) (w₀ : World) (hz : PZ [] w₀ Z)
  (zrO : ZS Z 1 (p39 Z) zbZ zc0 z9g)
  (zrP : ∀ args w,(callFunc za0 args).run Try.prog w = .ok (.enter za0 args) w)
  (zrQ : ∀ w : World,PZ [] w Z → ∀ (x0 : List z1) (ao0 : Option Addr) (cap0 : Nat) (r : Bool),ZS Z 4 (fun r x=>r = e35 x) ao0 cap0 x0 → zbY x0 = some r → Calls Try.prog za0 (([(.slice ao0 x0.length cap0)] : List Value) ++ zc1).toArray w fun e w'=>e = .returned (.bool r) ∧ Hp [] w w' [])
  (h : yP z9g zbY = some r) :
  Calls Try.prog 66 #[(.slice zbZ z9g.length zc0),(.func (.func za0) #[] (zc1).toArray)] w₀ fun e w'=>e = .returned (.bool r) ∧ Hp [] w₀ w' []:=by
 unfold yP at h
 refine Calls.yg (vs:=[(.slice zbZ z9g.length zc0),(.func (.func za0) #[] (zc1).toArray)]) (pre:=[]) (env:=[(0,(.slice zbZ z9g.length zc0)),(1,(.func (.func za0) #[] (zc1).toArray))]) Try.func66 rfl Try.ntmps66 rfl (Hp.nil w₀ _) rfl ?_
 refine WC.b ?_
 refine WC.a ?_
 refine WL.a (d:=4) rfl rfl rfl (q_z rfl) ?_
 refine WL.nil ?_
 refine WX.a ?_
 refine WC.b ?_
 obtain ⟨zj2,zrR,h⟩:=zb h
 refine WC.a ?_
 refine WL.a (d:=5) rfl rfl rfl (q_m rfl) ?_
 refine WL.a (d:=6) rfl rfl rfl (q_m rfl) ?_
 refine WL.b (dd:=7) rfl rfl rfl (zl (l:=[.tmp 5,.tmp 6]) Try.call75 (.cons rfl (.cons rfl .nil))) (.nil : Sel [] [] []) (fun w hw=>by have pz:=(hz.call hw (.nil : Sel [] [] [])); exact y40 (Z:=_) (zdf:=zbZ) (zdg:=zc0) (z9Z:=za0) (zbX:=zc1) (z5K:=z9g) (z8N:=zbY) (r:=zj2) w pz zrO zrP zrQ zrR) ?_
 refine WL.a (d:=8) rfl rfl rfl (y6r rfl rfl) ?_
 refine WL.a (d:=4) rfl rfl rfl (q_z rfl) ?_
 refine WL.nil ?_
 refine WX.a ?_
 refine WC.ret ?_
 obtain rfl:=Option.some.inj h
 refine WX.y9 Try.results66 (.tmp rfl .nil) (fun w hw=>?_)
 exact ⟨yI rfl,hw.sub .nil⟩
def y2K (z1e : zSv) : Option Bool :=
 (y1i z1e.fR).bind fun zdi=>(if zdi && (decide (z1e.fR.fN > 0)) then (y1i z1e.fLatency).bind fun zj3=>some zj3 else some false).bind fun zeI=>some (zeI && (decide (z1e.fLatency.fN ≥ 0)))
set_option maxRecDepth 20000 in
theorem y6c (Z : Zp)   (z1e : zSv) (r : Bool) (w₀ : World) (hz : PZ [] w₀ Z)
  (h : y2K z1e = some r) :
  Calls Try.prog 47 #[(.agg #[(.int .i64 z1e.fR.fN),(.int .i64 z1e.fR.fD),(.int .i64 z1e.fLatency.fN),(.int .i64 z1e.fLatency.fD)])] w₀ fun e w'=>e = .returned (.bool r) ∧ Hp [] w₀ w' []:=by
 unfold y2K at h
 refine Calls.yg (vs:=[(.agg #[(.int .i64 z1e.fR.fN),(.int .i64 z1e.fR.fD),(.int .i64 z1e.fLatency.fN),(.int .i64 z1e.fLatency.fD)])]) (pre:=[]) (env:=[(0,(.agg #[(.int .i64 z1e.fR.fN),(.int .i64 z1e.fR.fD),(.int .i64 z1e.fLatency.fN),(.int .i64 z1e.fLatency.fD)]))]) Try.func47 rfl Try.ntmps47 rfl (Hp.nil w₀ _) rfl ?_
 refine WC.b ?_
 refine WC.a ?_
 refine WL.new (dd:=1) rfl rfl rfl (yK (cs:=[(.int .i64 z1e.fR.fN),(.int .i64 z1e.fR.fD),(.int .i64 z1e.fLatency.fN),(.int .i64 z1e.fLatency.fD)]) rfl rfl) ?_
 intro z7U _
 refine WL.a (d:=2) rfl rfl rfl (q_z rfl) ?_
 refine WL.nil ?_
 refine WX.a ?_
 refine WC.b ?_
 obtain ⟨zdi,zrS,h⟩:=zb h
 obtain ⟨zeI,znD,h⟩:=zb h
 refine WC.a ?_
 refine WL.a (d:=3) rfl rfl rfl (y4 y5X rfl rfl) ?_
 refine WL.a (d:=4) rfl rfl rfl (y6 (cs:=[(.int .i64 z1e.fR.fN),(.int .i64 z1e.fR.fD)]) y5 rfl rfl (y1T (s:=2) .here rfl)) ?_
 refine WL.b (dd:=5) rfl rfl rfl (zl (l:=[.tmp 4]) Try.call39 (.cons rfl .nil)) (.nil : Sel [stb z7U 43 [(.int .i64 z1e.fR.fN),(.int .i64 z1e.fR.fD),(.int .i64 z1e.fLatency.fN),(.int .i64 z1e.fLatency.fD)]] [] [stb z7U 43 [(.int .i64 z1e.fR.fN),(.int .i64 z1e.fR.fD),(.int .i64 z1e.fLatency.fN),(.int .i64 z1e.fLatency.fD)]]) (fun w hw=>by have pz:=(hz.call hw (.nil : Sel [stb z7U 43 [(.int .i64 z1e.fR.fN),(.int .i64 z1e.fR.fD),(.int .i64 z1e.fLatency.fN),(.int .i64 z1e.fLatency.fD)]] [] [stb z7U 43 [(.int .i64 z1e.fR.fN),(.int .i64 z1e.fR.fD),(.int .i64 z1e.fLatency.fN),(.int .i64 z1e.fLatency.fD)]])); exact y1F (Z:=_)  (z1p:=z1e.fR) (r:=zdi) w pz  zrS) ?_
 refine WL.a (d:=6) rfl rfl rfl (q_m rfl) ?_
 refine WL.yF True [(1,(.pointer (some ⟨z7U,0,none⟩))),(2,(.bool false)),(11,(.bool (zdi && (decide (z1e.fR.fN > 0)))))] [stb z7U 43 [(.int .i64 z1e.fR.fN),(.int .i64 z1e.fR.fD),(.int .i64 z1e.fLatency.fN),(.int .i64 z1e.fLatency.fD)]] 5 ?_ (fun _=>?_)
 ·rcases Bool.eq_false_or_eq_true zdi with hb' | hb'
  ·have znE:=hb'; clear hb'
   refine WL.pin (i:=6) rfl znE ?_
   refine WL.a (d:=7) rfl rfl rfl (y4 y5X rfl rfl) ?_
   refine WL.a (d:=8) rfl rfl rfl (y4 y1J rfl rfl) ?_
   refine WL.a (d:=9) rfl rfl rfl (ye yx rfl (yu .here rfl)) ?_
   refine WL.a (d:=10) rfl rfl rfl (y3f rfl rfl) ?_
   refine WL.a (d:=11) rfl rfl rfl (ys rfl rfl) ?_
   exact WL.ya () trivial (.cons rfl (.cons rfl (.cons (zt (y3s znE)) .nil))) (.cons .here .nil)
  ·have znF:=hb'; clear hb'
   refine WL.pin (i:=6) rfl znF ?_
   refine WL.e rfl rfl rfl ?_
   refine WL.e rfl rfl rfl ?_
   refine WL.e rfl rfl rfl ?_
   refine WL.e rfl rfl rfl ?_
   refine WL.a (d:=11) rfl rfl rfl (yr rfl rfl) ?_
   exact WL.ya () trivial (.cons rfl (.cons rfl (.cons (zt (y3r znF)) .nil))) (.cons .here .nil)
 ·skip
  refine WL.a (d:=12) rfl rfl rfl (q_m rfl) ?_
  refine WL.yF True [(1,(.pointer (some ⟨z7U,0,none⟩))),(2,(.bool false)),(16,(.bool zeI))] [stb z7U 43 [(.int .i64 z1e.fR.fN),(.int .i64 z1e.fR.fD),(.int .i64 z1e.fLatency.fN),(.int .i64 z1e.fLatency.fD)]] 4 ?_ (fun _=>?_)
  ·rcases Bool.eq_false_or_eq_true (zdi && (decide (z1e.fR.fN > 0))) with hb' | hb'
   ·have znG:=hb'; clear hb'
    have zeJ:=yj znD znG
    obtain ⟨zj3,zrT,zeJ⟩:=zb zeJ
    replace zeJ:=Option.some.inj zeJ
    refine WL.pin (i:=12) rfl znG ?_
    refine WL.a (d:=13) rfl rfl rfl (y4 y55 rfl rfl) ?_
    refine WL.a (d:=14) rfl rfl rfl (y6 (cs:=[(.int .i64 z1e.fLatency.fN),(.int .i64 z1e.fLatency.fD)]) y5 rfl rfl (y1T (s:=2) .here rfl)) ?_
    refine WL.b (dd:=15) rfl rfl rfl (zl (l:=[.tmp 14]) Try.call39 (.cons rfl .nil)) (.nil : Sel [stb z7U 43 [(.int .i64 z1e.fR.fN),(.int .i64 z1e.fR.fD),(.int .i64 z1e.fLatency.fN),(.int .i64 z1e.fLatency.fD)]] [] [stb z7U 43 [(.int .i64 z1e.fR.fN),(.int .i64 z1e.fR.fD),(.int .i64 z1e.fLatency.fN),(.int .i64 z1e.fLatency.fD)]]) (fun w hw=>by have pz:=(hz.call hw (.nil : Sel [stb z7U 43 [(.int .i64 z1e.fR.fN),(.int .i64 z1e.fR.fD),(.int .i64 z1e.fLatency.fN),(.int .i64 z1e.fLatency.fD)]] [] [stb z7U 43 [(.int .i64 z1e.fR.fN),(.int .i64 z1e.fR.fD),(.int .i64 z1e.fLatency.fN),(.int .i64 z1e.fLatency.fD)]])); exact y1F (Z:=_)  (z1p:=z1e.fLatency) (r:=zj3) w pz  zrT) ?_
    refine WL.a (d:=16) rfl rfl rfl (ys rfl rfl) ?_
    exact WL.ya () trivial (.cons rfl (.cons rfl (.cons (zt zeJ) .nil))) (.cons .here .nil)
   ·have znH:=hb'; clear hb'
    have zj4:=yk znD znH
    replace zj4:=Option.some.inj zj4
    refine WL.pin (i:=12) rfl znH ?_
    refine WL.e rfl rfl rfl ?_
    refine WL.e rfl rfl rfl ?_
    refine WL.e rfl rfl rfl ?_
    refine WL.a (d:=16) rfl rfl rfl (yr rfl rfl) ?_
    exact WL.ya () trivial (.cons rfl (.cons rfl (.cons (zt zj4) .nil))) (.cons .here .nil)
  ·skip
   refine WL.a (d:=17) rfl rfl rfl (q_m rfl) ?_
   refine WL.yF True [(2,(.bool false)),(22,(.bool (zeI && (decide (z1e.fLatency.fN ≥ 0)))))] [stb z7U 43 [(.int .i64 z1e.fR.fN),(.int .i64 z1e.fR.fD),(.int .i64 z1e.fLatency.fN),(.int .i64 z1e.fLatency.fD)]] 5 ?_ (fun _=>?_)
   ·rcases Bool.eq_false_or_eq_true zeI with hb' | hb'
    ·have znI:=hb'; clear hb'
     refine WL.pin (i:=17) rfl znI ?_
     refine WL.a (d:=18) rfl rfl rfl (y4 y55 rfl rfl) ?_
     refine WL.a (d:=19) rfl rfl rfl (y4 y1J rfl rfl) ?_
     refine WL.a (d:=20) rfl rfl rfl (ye yx rfl (yu .here rfl)) ?_
     refine WL.a (d:=21) rfl rfl rfl (y6r rfl rfl) ?_
     refine WL.a (d:=22) rfl rfl rfl (ys rfl rfl) ?_
     exact WL.ya () trivial (.cons rfl (.cons (zt (y3s znI)) .nil)) (.cons .here .nil)
    ·have znJ:=hb'; clear hb'
     refine WL.pin (i:=17) rfl znJ ?_
     refine WL.e rfl rfl rfl ?_
     refine WL.e rfl rfl rfl ?_
     refine WL.e rfl rfl rfl ?_
     refine WL.e rfl rfl rfl ?_
     refine WL.a (d:=22) rfl rfl rfl (yr rfl rfl) ?_
     exact WL.ya () trivial (.cons rfl (.cons (zt (y3r znJ)) .nil)) (.cons .here .nil)
   ·skip
    refine WL.a (d:=2) rfl rfl rfl (q_z rfl) ?_
    refine WL.nil ?_
    refine WX.a ?_
    refine WC.ret ?_
    obtain rfl:=Option.some.inj h
    refine WX.y9 Try.results47 (.tmp rfl .nil) (fun w hw=>?_)
    exact ⟨yI rfl,hw.sub .nil⟩
def y10 (z65 : Int) : Option z2 :=
 some (⟨z65,1⟩ : z2)
set_option maxRecDepth 20000 in
theorem y1S (Z : Zp)   (z65 : Int) (r : z2) (w₀ : World) (hz : PZ [] w₀ Z)
  (h : y10 z65 = some r) :
  Calls Try.prog 65 #[(.int .i64 z65)] w₀ fun e w'=>e = .returned (.agg #[(.int .i64 r.fN),(.int .i64 r.fD)]) ∧ Hp [] w₀ w' []:=by
 unfold y10 at h
 refine Calls.yg (vs:=[(.int .i64 z65)]) (pre:=[]) (env:=[(0,(.int .i64 z65))]) Try.func65 rfl Try.ntmps65 rfl (Hp.nil w₀ _) rfl ?_
 refine WC.b ?_
 refine WC.a ?_
 refine WL.new (dd:=2) rfl rfl rfl (yh (cs:=[(.int .i64 0),(.int .i64 0)]) yo rfl) ?_
 intro zzv _
 refine WL.nil ?_
 refine WX.a ?_
 refine WC.b ?_
 refine WC.a ?_
 refine WL.a (d:=3) rfl rfl rfl (q_m rfl) ?_
 refine WL.a (d:=4) rfl rfl rfl (y1j (v:=(.agg #[(.int .i64 z65),(.int .i64 1)])) (Eos.parts (l:=[.tmp 3,.const (.int .i64 1)]) (.cons rfl (.cons rfl .nil)) [0,1]) (fun _=>by kernel_rfl)) ?_
 refine WL.yc rfl rfl (yd (vs:=[(.int .i64 z65),(.int .i64 1)]) (ds:=[(.int .i64 z65),(.int .i64 1)]) yl rfl rfl rfl rfl (y3 rfl (y3 rfl yf)) .here (Nat.le_of_ble_eq_true rfl) rfl) ?_
 refine WL.nil ?_
 refine WX.a ?_
 refine WC.ret ?_
 obtain rfl:=Option.some.inj h
 refine WX.y9 Try.results65 (.agg rfl y5 rfl (y7 .here) .nil) (fun w hw=>?_)
 exact ⟨yI rfl,hw.sub .nil⟩
def y1L  : Option z2 :=
 (y10 0).bind fun zc2=>some zc2
set_option maxRecDepth 20000 in
theorem y2v (Z : Zp)    (r : z2) (w₀ : World) (hz : PZ [] w₀ Z)
  (h : y1L  = some r) :
  Calls Try.prog 51 #[] w₀ fun e w'=>e = .returned (.agg #[(.int .i64 r.fN),(.int .i64 r.fD)]) ∧ Hp [] w₀ w' []:=by
 unfold y1L at h
 refine Calls.yg (vs:=[]) (pre:=[]) (env:=[]) Try.func51 rfl Try.ntmps51 rfl (Hp.nil w₀ _) rfl ?_
 refine WC.b ?_
 refine WC.a ?_
 refine WL.new (dd:=0) rfl rfl rfl (yh (cs:=[(.int .i64 0),(.int .i64 0)]) yo rfl) ?_
 intro zgq _
 refine WL.nil ?_
 refine WX.a ?_
 refine WC.b ?_
 obtain ⟨zc2,zrU,h⟩:=zb h
 refine WC.a ?_
 refine WL.b (dd:=1) rfl rfl rfl (zl (l:=[.const (.int .i64 0)]) Try.call65 (.cons rfl .nil)) (.nil : Sel [stb zgq 30 [(.int .i64 0),(.int .i64 0)]] [] [stb zgq 30 [(.int .i64 0),(.int .i64 0)]]) (fun w hw=>by have pz:=(hz.call hw (.nil : Sel [stb zgq 30 [(.int .i64 0),(.int .i64 0)]] [] [stb zgq 30 [(.int .i64 0),(.int .i64 0)]])); exact y1S (Z:=_)  (z65:=0) (r:=zc2) w pz  zrU) ?_
 refine WL.yc rfl rfl (yd (vs:=[(.int .i64 zc2.fN),(.int .i64 zc2.fD)]) (ds:=[(.int .i64 zc2.fN),(.int .i64 zc2.fD)]) yl rfl rfl rfl rfl (y3 rfl (y3 rfl yf)) .here (Nat.le_of_ble_eq_true rfl) rfl) ?_
 refine WL.nil ?_
 refine WX.a ?_
 refine WC.ret ?_
 obtain rfl:=Option.some.inj h
 refine WX.y9 Try.results51 (.agg rfl y5 rfl (y7 .here) .nil) (fun w hw=>?_)
 exact ⟨yI rfl,hw.sub .nil⟩
def yX (z3S : List z1) (z3p : z1) (za1 : Option Int) : Nat → Int → Option Int
 | 0,_=>none
 | zj5 + 1,z4c=>if decide (z4c < ((z3S.length : Nat) : Int)) then chk ((0 : Int) ≤ z4c ∧ z4c < ((z3S.length : Nat) : Int)) (if decide (z3p = (⟨(⟨(((nth z3S z4c).fBurst).fN),(((nth z3S z4c).fBurst).fD)⟩ : z2),(⟨(((nth z3S z4c).fR).fN),(((nth z3S z4c).fR).fD)⟩ : z2)⟩ : z1)) then some z4c else yX z3S z3p za1 zj5 (i64 (z4c + 1))) else za1
theorem y3p {n : Nat} {z3S : List z1} {z3p : z1} {za1 : Option Int} {z4c : Int} {r : Int} (h : yX z3S z3p za1 n z4c = some r) : ∃ m,n = m + 1:=by
 cases n with
 | zero=>cases h
 | succ m=>exact ⟨m,rfl⟩
def y28 (z3S : List z1) (z3p : z1) : Option Int :=
 jp0 (some (-1)) fun za1=>yX z3S z3p za1 yw 0
set_option maxRecDepth 20000 in
theorem y4i (Z : Zp)  (zdj : Option Addr) (zdk : Nat) (z3S : List z1) (z3p : z1) (r : Int) (w₀ : World) (hz : PZ [] w₀ Z)
  (zrV : ZS Z 4 (fun r x=>r = e35 x) zdj zdk z3S)
  (h : y28 z3S z3p = some r) :
  Calls Try.prog 72 #[(.slice zdj z3S.length zdk),(.agg #[(.int .i64 z3p.fBurst.fN),(.int .i64 z3p.fBurst.fD),(.int .i64 z3p.fR.fN),(.int .i64 z3p.fR.fD)])] w₀ fun e w'=>e = .returned (.int .i64 r) ∧ Hp [] w₀ w' []:=by
 unfold y28 at h
 refine Calls.yg (vs:=[(.slice zdj z3S.length zdk),(.agg #[(.int .i64 z3p.fBurst.fN),(.int .i64 z3p.fBurst.fD),(.int .i64 z3p.fR.fN),(.int .i64 z3p.fR.fD)])]) (pre:=[]) (env:=[(0,(.slice zdj z3S.length zdk)),(1,(.agg #[(.int .i64 z3p.fBurst.fN),(.int .i64 z3p.fBurst.fD),(.int .i64 z3p.fR.fN),(.int .i64 z3p.fR.fD)]))]) Try.func72 rfl Try.ntmps72 rfl (Hp.nil w₀ _) rfl ?_
 refine WC.b ?_
 refine WC.a ?_
 refine WL.new (dd:=3) rfl rfl rfl (yK (cs:=[(.int .i64 z3p.fBurst.fN),(.int .i64 z3p.fBurst.fD),(.int .i64 z3p.fR.fN),(.int .i64 z3p.fR.fD)]) rfl rfl) ?_
 intro znK _
 refine WL.a (d:=4) rfl rfl rfl (q_z rfl) ?_
 refine WL.nil ?_
 refine WX.a ?_
 obtain ⟨za1,zrW,h⟩:=y4C h
 refine WC.y4S ((za1 = some r)) ([]) ([]) ?_ ?_
 ·skip
  refine WC.b ?_
  refine WC.a ?_
  refine WL.a (d:=6) rfl rfl rfl (q_m rfl) ?_
  refine WL.a (d:=7) rfl rfl rfl (y1k Try.underlying39 rfl) ?_
  refine WL.a (d:=8) rfl rfl rfl (q_m rfl) ?_
  refine WL.nil ?_
  refine WX.a ?_
  refine WC.block ?_
  refine WC.y63 (fun (zdl : Nat) (z4c : Int)=>(yX z3S z3p za1 zdl z4c = some r)) (fun (zdl : Nat) (z4c : Int)=>[(0,(.slice zdj z3S.length zdk)),(3,(.pointer (some ⟨znK,0,none⟩))),(7,(.int .i64 ((z3S.length : Nat) : Int))),(8,(.int .i64 z4c))]) (fun (zdl : Nat) (z4c : Int)=>[stb znK 35 [(.int .i64 z3p.fBurst.fN),(.int .i64 z3p.fBurst.fD),(.int .i64 z3p.fR.fN),(.int .i64 z3p.fR.fD)]]) (fun (zdl : Nat) (z4c : Int)=>zdl) ⟨yw,0⟩ h (.cons rfl (.cons rfl (.cons rfl (.cons rfl .nil)))) (.cons .here .nil) ?_
  rintro zdl z4c h
  obtain ⟨zj5,rfl⟩:=y3p h
  rw [yX] at h
  refine WC.b ?_
  refine WC.a ?_
  refine WL.a (d:=9) rfl rfl rfl (y1h rfl rfl) ?_
  refine WL.nil ?_
  refine WX.a ?_
  refine WC.b ?_
  refine WC.cond rfl (fun zj6=>?_) (fun zj6=>?_)
  ·replace h:=yj h zj6
   refine WC.skip ?_
   refine WX.a ?_
   refine WC.b ?_
   refine WC.block ?_
   refine WC.b ?_
   refine WC.a ?_
   refine WL.a (d:=10) rfl rfl rfl (q_m rfl) ?_
   refine WL.a (d:=5) rfl rfl rfl (q_z rfl) ?_
   refine WL.nil ?_
   refine WX.a ?_
   refine WC.b ?_
   obtain ⟨zrX,h⟩:=yp h
   refine WC.y1e (fun i=>[].contains i) [] rfl ?_
   refine WD.e (i:=0) (d:=11) (by kernel_rfl) rfl (z6 (by kernel_rfl)) (z7 (by kernel_rfl)) rfl rfl rfl (y6 (cs:=[(.int .i64 z3p.fBurst.fN),(.int .i64 z3p.fBurst.fD),(.int .i64 z3p.fR.fN),(.int .i64 z3p.fR.fD)]) y1D rfl rfl (y7 .here)) ?_
   refine WD.a (i:=1) (d:=12) (by kernel_rfl) rfl (z6 (by kernel_rfl)) (z7 (by kernel_rfl)) rfl rfl rfl (fun _=>q_m rfl) ?_
   refine WD.a (i:=2) (d:=13) (by kernel_rfl) rfl (z6 (by kernel_rfl)) (z7 (by kernel_rfl)) rfl rfl rfl (fun _=>q_m rfl) ?_
   refine WD.znth (j:=3) (dd:=14) (by kernel_rfl) rfl (z6 (by kernel_rfl)) (z7 (by kernel_rfl)) rfl rfl (Z:=Z) (Pr:=(fun r x=>r = e35 x)) y2j rfl rfl zrV zrX ?_
   rintro zzw zzx zrY zzy rfl
   refine WD.e (i:=4) (d:=15) (by kernel_rfl) rfl (z6 (by kernel_rfl)) (z7 (by kernel_rfl)) rfl rfl rfl (y6 (cs:=[(.int .i64 (((nth z3S z4c).fBurst).fN)),(.int .i64 (((nth z3S z4c).fBurst).fD)),(.int .i64 (((nth z3S z4c).fR).fN)),(.int .i64 (((nth z3S z4c).fR).fD))]) y1D rfl rfl (y2T hz.pv zrY)) ?_
   refine WD.a (i:=5) (d:=16) (by kernel_rfl) rfl (z6 (by kernel_rfl)) (z7 (by kernel_rfl)) rfl rfl rfl (fun _=>y66 (enc:=e35) (a:=z3p) (b:=(⟨(⟨(((nth z3S z4c).fBurst).fN),(((nth z3S z4c).fBurst).fD)⟩ : z2),(⟨(((nth z3S z4c).fR).fN),(((nth z3S z4c).fR).fD)⟩ : z2)⟩ : z1)) eqT_35 rfl rfl) ?_
   refine WD.done (by kernel_rfl) ?_
   refine WX.a ?_
   refine WC.cond rfl (fun zj7=>?_) (fun zj7=>?_)
   ·replace h:=yj h zj7
    refine WC.b ?_
    refine WC.a ?_
    refine WL.a (d:=17) rfl rfl rfl (q_m rfl) ?_
    refine WL.a (d:=4) rfl rfl rfl (q_z rfl) ?_
    refine WL.nil ?_
    refine WX.a ?_
    refine WC.ret ?_
    refine WX.yt ?_
    refine WX.y8 ?_
    refine WX.y8 ?_
    refine WX.yt ?_
    refine WX.y8 ?_
    obtain rfl:=Option.some.inj h
    refine WX.y9 Try.results72 (.tmp rfl .nil) (fun w hw=>?_)
    exact ⟨yI rfl,hw.sub .nil⟩
   ·replace h:=yk h zj7
    refine WC.skip ?_
    refine WX.yn ?_
    refine WX.a ?_
    refine WC.a ?_
    refine WL.a (d:=18) rfl rfl rfl (y1d rfl rfl rfl) ?_
    refine WL.a (d:=8) rfl rfl rfl (q_m rfl) ?_
    refine WL.nil ?_
    exact WX.round (G:=Nat × Int) ⟨zj5,(i64 (z4c + 1))⟩ h (Nat.lt_succ_self _) (.cons rfl (.cons rfl (.cons rfl (.cons rfl .nil)))) (.cons .here .nil)
  ·replace h:=yk h zj6
   refine WC.exit ?_
   refine WX.ym ?_
   refine WX.ym ?_
   refine WX.yH ?_
   exact WX.mid (G:=Unit) () h .nil .nil
 ·rintro  h
  replace h:=zrW.symm.trans h
  refine WC.b ?_
  refine WC.a ?_
  refine WL.a (d:=4) rfl rfl rfl (q_z rfl) ?_
  refine WL.nil ?_
  refine WX.a ?_
  refine WC.ret ?_
  obtain rfl:=Option.some.inj h
  refine WX.y9 Try.results72 (.tmp rfl .nil) (fun w hw=>?_)
  exact ⟨yI rfl,hw.sub .nil⟩
def y1w (za2 : List z1) (z2R : z1) : Option Bool :=
 (y28 za2 z2R).bind fun zj8=>some (decide (zj8 ≥ 0))
set_option maxRecDepth 20000 in
theorem y41 (Z : Zp)  (zdm : Option Addr) (zdn : Nat) (za2 : List z1) (z2R : z1) (r : Bool) (w₀ : World) (hz : PZ [] w₀ Z)
  (zrZ : ZS Z 4 (fun r x=>r = e35 x) zdm zdn za2)
  (h : y1w za2 z2R = some r) :
  Calls Try.prog 59 #[(.slice zdm za2.length zdn),(.agg #[(.int .i64 z2R.fBurst.fN),(.int .i64 z2R.fBurst.fD),(.int .i64 z2R.fR.fN),(.int .i64 z2R.fR.fD)])] w₀ fun e w'=>e = .returned (.bool r) ∧ Hp [] w₀ w' []:=by
 unfold y1w at h
 refine Calls.yg (vs:=[(.slice zdm za2.length zdn),(.agg #[(.int .i64 z2R.fBurst.fN),(.int .i64 z2R.fBurst.fD),(.int .i64 z2R.fR.fN),(.int .i64 z2R.fR.fD)])]) (pre:=[]) (env:=[(0,(.slice zdm za2.length zdn)),(1,(.agg #[(.int .i64 z2R.fBurst.fN),(.int .i64 z2R.fBurst.fD),(.int .i64 z2R.fR.fN),(.int .i64 z2R.fR.fD)]))]) Try.func59 rfl Try.ntmps59 rfl (Hp.nil w₀ _) rfl ?_
 refine WC.b ?_
 refine WC.a ?_
 refine WL.new (dd:=3) rfl rfl rfl (yK (cs:=[(.int .i64 z2R.fBurst.fN),(.int .i64 z2R.fBurst.fD),(.int .i64 z2R.fR.fN),(.int .i64 z2R.fR.fD)]) rfl rfl) ?_
 intro zgr _
 refine WL.a (d:=4) rfl rfl rfl (q_z rfl) ?_
 refine WL.nil ?_
 refine WX.a ?_
 refine WC.b ?_
 obtain ⟨zj8,zs0,h⟩:=zb h
 refine WC.a ?_
 refine WL.a (d:=5) rfl rfl rfl (q_m rfl) ?_
 refine WL.a (d:=6) rfl rfl rfl (y6 (cs:=[(.int .i64 z2R.fBurst.fN),(.int .i64 z2R.fBurst.fD),(.int .i64 z2R.fR.fN),(.int .i64 z2R.fR.fD)]) y1D rfl rfl (y7 .here)) ?_
 refine WL.b (dd:=7) rfl rfl rfl (zl (l:=[.tmp 5,.tmp 6]) Try.call72 (.cons rfl (.cons rfl .nil))) (.nil : Sel [stb zgr 35 [(.int .i64 z2R.fBurst.fN),(.int .i64 z2R.fBurst.fD),(.int .i64 z2R.fR.fN),(.int .i64 z2R.fR.fD)]] [] [stb zgr 35 [(.int .i64 z2R.fBurst.fN),(.int .i64 z2R.fBurst.fD),(.int .i64 z2R.fR.fN),(.int .i64 z2R.fR.fD)]]) (fun w hw=>by have pz:=(hz.call hw (.nil : Sel [stb zgr 35 [(.int .i64 z2R.fBurst.fN),(.int .i64 z2R.fBurst.fD),(.int .i64 z2R.fR.fN),(.int .i64 z2R.fR.fD)]] [] [stb zgr 35 [(.int .i64 z2R.fBurst.fN),(.int .i64 z2R.fBurst.fD),(.int .i64 z2R.fR.fN),(.int .i64 z2R.fR.fD)]])); exact y4i (Z:=_) (zdj:=zdm) (zdk:=zdn) (z3S:=za2) (z3p:=z2R) (r:=zj8) w pz zrZ zs0) ?_
 refine WL.a (d:=8) rfl rfl rfl (y6r rfl rfl) ?_
 refine WL.a (d:=4) rfl rfl rfl (q_z rfl) ?_
 refine WL.nil ?_
 refine WX.a ?_
 refine WC.ret ?_
 obtain rfl:=Option.some.inj h
 refine WX.y9 Try.results59 (.tmp rfl .nil) (fun w hw=>?_)
 exact ⟨yI rfl,hw.sub .nil⟩
def yO (z2m : z2) (z2n : z2) : Option Int :=
 (y1i z2m).bind fun zgs=>(if !zgs then some true else (y1i z2n).bind fun zj9=>some (!zj9)).bind fun zja=>if zja then some 0 else if decide ((i64 (z2m.fN * z2n.fD)) < (i64 (z2n.fN * z2m.fD))) then some (-1) else if decide ((i64 (z2m.fN * z2n.fD)) > (i64 (z2n.fN * z2m.fD))) then some 1 else some 0
set_option maxRecDepth 20000 in
theorem y1Y (Z : Zp)   (z2m : z2) (z2n : z2) (r : Int) (w₀ : World) (hz : PZ [] w₀ Z)
  (h : yO z2m z2n = some r) :
  Calls Try.prog 18 #[(.agg #[(.int .i64 z2m.fN),(.int .i64 z2m.fD)]),(.agg #[(.int .i64 z2n.fN),(.int .i64 z2n.fD)])] w₀ fun e w'=>e = .returned (.int .i64 r) ∧ Hp [] w₀ w' []:=by
 unfold yO at h
 refine Calls.yg (vs:=[(.agg #[(.int .i64 z2m.fN),(.int .i64 z2m.fD)]),(.agg #[(.int .i64 z2n.fN),(.int .i64 z2n.fD)])]) (pre:=[]) (env:=[(0,(.agg #[(.int .i64 z2m.fN),(.int .i64 z2m.fD)])),(1,(.agg #[(.int .i64 z2n.fN),(.int .i64 z2n.fD)]))]) Try.func18 rfl Try.ntmps18 rfl (Hp.nil w₀ _) rfl ?_
 refine WC.b ?_
 refine WC.a ?_
 refine WL.new (dd:=2) rfl rfl rfl (yK (cs:=[(.int .i64 z2m.fN),(.int .i64 z2m.fD)]) rfl rfl) ?_
 intro z9h _
 refine WL.new (dd:=3) rfl rfl rfl (yK (cs:=[(.int .i64 z2n.fN),(.int .i64 z2n.fD)]) rfl rfl) ?_
 intro z9i _
 refine WL.a (d:=4) rfl rfl rfl (q_z rfl) ?_
 refine WL.nil ?_
 refine WX.a ?_
 refine WC.b ?_
 refine WC.b ?_
 obtain ⟨zgs,zs1,h⟩:=zb h
 obtain ⟨zja,znL,h⟩:=zb h
 refine WC.a ?_
 refine WL.a (d:=7) rfl rfl rfl (y6 (cs:=[(.int .i64 z2m.fN),(.int .i64 z2m.fD)]) y5 rfl rfl (y7 .h1)) ?_
 refine WL.b (dd:=8) rfl rfl rfl (zl (l:=[.tmp 7]) Try.call39 (.cons rfl .nil)) (.nil : Sel [stb z9i 30 [(.int .i64 z2n.fN),(.int .i64 z2n.fD)],stb z9h 30 [(.int .i64 z2m.fN),(.int .i64 z2m.fD)]] [] [stb z9i 30 [(.int .i64 z2n.fN),(.int .i64 z2n.fD)],stb z9h 30 [(.int .i64 z2m.fN),(.int .i64 z2m.fD)]]) (fun w hw=>by have pz:=(hz.call hw (.nil : Sel [stb z9i 30 [(.int .i64 z2n.fN),(.int .i64 z2n.fD)],stb z9h 30 [(.int .i64 z2m.fN),(.int .i64 z2m.fD)]] [] [stb z9i 30 [(.int .i64 z2n.fN),(.int .i64 z2n.fD)],stb z9h 30 [(.int .i64 z2m.fN),(.int .i64 z2m.fD)]])); exact y1F (Z:=_)  (z1p:=z2m) (r:=zgs) w pz  zs1) ?_
 refine WL.a (d:=9) rfl rfl rfl (y1n rfl) ?_
 refine WL.a (d:=10) rfl rfl rfl (q_m rfl) ?_
 refine WL.yF True [(2,(.pointer (some ⟨z9h,0,none⟩))),(3,(.pointer (some ⟨z9i,0,none⟩))),(14,(.bool zja))] [stb z9i 30 [(.int .i64 z2n.fN),(.int .i64 z2n.fD)],stb z9h 30 [(.int .i64 z2m.fN),(.int .i64 z2m.fD)]] 4 ?_ (fun _=>?_)
 ·rcases Bool.eq_false_or_eq_true (!zgs) with hb' | hb'
  ·have znM:=hb'; clear hb'
   have zjb:=yj znL znM
   replace zjb:=Option.some.inj zjb
   refine WL.pin (i:=10) rfl znM ?_
   refine WL.e rfl rfl rfl ?_
   refine WL.e rfl rfl rfl ?_
   refine WL.e rfl rfl rfl ?_
   refine WL.a (d:=14) rfl rfl rfl (ys rfl rfl) ?_
   exact WL.ya () trivial (.cons rfl (.cons rfl (.cons (zt zjb) .nil))) (.cons .here (.cons .here .nil))
  ·have znN:=hb'; clear hb'
   have zeK:=yk znL znN
   obtain ⟨zj9,zs2,zeK⟩:=zb zeK
   replace zeK:=Option.some.inj zeK
   refine WL.pin (i:=10) rfl znN ?_
   refine WL.a (d:=11) rfl rfl rfl (y6 (cs:=[(.int .i64 z2n.fN),(.int .i64 z2n.fD)]) y5 rfl rfl (y7 .here)) ?_
   refine WL.b (dd:=12) rfl rfl rfl (zl (l:=[.tmp 11]) Try.call39 (.cons rfl .nil)) (.nil : Sel [stb z9i 30 [(.int .i64 z2n.fN),(.int .i64 z2n.fD)],stb z9h 30 [(.int .i64 z2m.fN),(.int .i64 z2m.fD)]] [] [stb z9i 30 [(.int .i64 z2n.fN),(.int .i64 z2n.fD)],stb z9h 30 [(.int .i64 z2m.fN),(.int .i64 z2m.fD)]]) (fun w hw=>by have pz:=(hz.call hw (.nil : Sel [stb z9i 30 [(.int .i64 z2n.fN),(.int .i64 z2n.fD)],stb z9h 30 [(.int .i64 z2m.fN),(.int .i64 z2m.fD)]] [] [stb z9i 30 [(.int .i64 z2n.fN),(.int .i64 z2n.fD)],stb z9h 30 [(.int .i64 z2m.fN),(.int .i64 z2m.fD)]])); exact y1F (Z:=_)  (z1p:=z2n) (r:=zj9) w pz  zs2) ?_
   refine WL.a (d:=13) rfl rfl rfl (y1n rfl) ?_
   refine WL.a (d:=14) rfl rfl rfl (yr rfl rfl) ?_
   exact WL.ya () trivial (.cons rfl (.cons rfl (.cons (zt zeK) .nil))) (.cons .here (.cons .here .nil))
 ·skip
  refine WL.nil ?_
  refine WX.a ?_
  refine WC.cond rfl (fun zjc=>?_) (fun zjc=>?_)
  ·replace h:=yj h zjc
   refine WC.b ?_
   refine WC.a ?_
   refine WL.a (d:=4) rfl rfl rfl (q_z rfl) ?_
   refine WL.nil ?_
   refine WX.a ?_
   refine WC.ret ?_
   refine WX.y8 ?_
   obtain rfl:=Option.some.inj h
   refine WX.y9 Try.results18 (.tmp rfl .nil) (fun w hw=>?_)
   exact ⟨yI rfl,hw.sub .nil⟩
  ·replace h:=yk h zjc
   refine WC.skip ?_
   refine WX.a ?_
   refine WC.b ?_
   refine WC.b ?_
   refine WC.y1e (fun i=>[].contains i) [] rfl ?_
   refine WD.a (i:=0) (d:=15) (by kernel_rfl) rfl (z6 (by kernel_rfl)) (z7 (by kernel_rfl)) rfl rfl rfl (fun _=>y4 y1J rfl rfl) ?_
   refine WD.e (i:=1) (d:=16) (by kernel_rfl) rfl (z6 (by kernel_rfl)) (z7 (by kernel_rfl)) rfl rfl rfl (ye yx rfl (yu .h1 rfl)) ?_
   refine WD.a (i:=2) (d:=17) (by kernel_rfl) rfl (z6 (by kernel_rfl)) (z7 (by kernel_rfl)) rfl rfl rfl (fun _=>y4 y21 rfl rfl) ?_
   refine WD.e (i:=3) (d:=18) (by kernel_rfl) rfl (z6 (by kernel_rfl)) (z7 (by kernel_rfl)) rfl rfl rfl (ye yx rfl (yu .here rfl)) ?_
   refine WD.a (i:=4) (d:=19) (by kernel_rfl) rfl (z6 (by kernel_rfl)) (z7 (by kernel_rfl)) rfl rfl rfl (fun _=>y4d rfl rfl rfl) ?_
   refine WD.a (i:=5) (d:=20) (by kernel_rfl) rfl (z6 (by kernel_rfl)) (z7 (by kernel_rfl)) rfl rfl rfl (fun _=>y4 y1J rfl rfl) ?_
   refine WD.e (i:=6) (d:=21) (by kernel_rfl) rfl (z6 (by kernel_rfl)) (z7 (by kernel_rfl)) rfl rfl rfl (ye yx rfl (yu .here rfl)) ?_
   refine WD.a (i:=7) (d:=22) (by kernel_rfl) rfl (z6 (by kernel_rfl)) (z7 (by kernel_rfl)) rfl rfl rfl (fun _=>y4 y21 rfl rfl) ?_
   refine WD.e (i:=8) (d:=23) (by kernel_rfl) rfl (z6 (by kernel_rfl)) (z7 (by kernel_rfl)) rfl rfl rfl (ye yx rfl (yu .h1 rfl)) ?_
   refine WD.a (i:=9) (d:=24) (by kernel_rfl) rfl (z6 (by kernel_rfl)) (z7 (by kernel_rfl)) rfl rfl rfl (fun _=>y4d rfl rfl rfl) ?_
   refine WD.a (i:=10) (d:=5) (by kernel_rfl) rfl (z6 (by kernel_rfl)) (z7 (by kernel_rfl)) rfl rfl rfl (fun _=>q_z rfl) ?_
   refine WD.a (i:=11) (d:=6) (by kernel_rfl) rfl (z6 (by kernel_rfl)) (z7 (by kernel_rfl)) rfl rfl rfl (fun _=>q_z rfl) ?_
   refine WD.done (by kernel_rfl) ?_
   refine WX.a ?_
   refine WC.block ?_
   refine WC.b ?_
   refine WC.a ?_
   refine WL.a (d:=26) rfl rfl rfl (q_m rfl) ?_
   refine WL.a (d:=27) rfl rfl rfl (q_m rfl) ?_
   refine WL.a (d:=28) rfl rfl rfl (y1h rfl rfl) ?_
   refine WL.a (d:=25) rfl rfl rfl (q_z rfl) ?_
   refine WL.nil ?_
   refine WX.a ?_
   refine WC.cond rfl (fun zjd=>?_) (fun zjd=>?_)
   ·replace h:=yj h zjd
    refine WC.b ?_
    refine WC.a ?_
    refine WL.a (d:=4) rfl rfl rfl (q_z rfl) ?_
    refine WL.nil ?_
    refine WX.a ?_
    refine WC.ret ?_
    refine WX.yt ?_
    refine WX.y8 ?_
    obtain rfl:=Option.some.inj h
    refine WX.y9 Try.results18 (.tmp rfl .nil) (fun w hw=>?_)
    exact ⟨yI rfl,hw.sub .nil⟩
   ·replace h:=yk h zjd
    refine WC.b ?_
    refine WC.a ?_
    refine WL.a (d:=30) rfl rfl rfl (q_m rfl) ?_
    refine WL.a (d:=31) rfl rfl rfl (q_m rfl) ?_
    refine WL.a (d:=32) rfl rfl rfl (y3f rfl rfl) ?_
    refine WL.a (d:=29) rfl rfl rfl (q_z rfl) ?_
    refine WL.nil ?_
    refine WX.a ?_
    refine WC.cond rfl (fun zje=>?_) (fun zje=>?_)
    ·replace h:=yj h zje
     refine WC.b ?_
     refine WC.a ?_
     refine WL.a (d:=4) rfl rfl rfl (q_z rfl) ?_
     refine WL.nil ?_
     refine WX.a ?_
     refine WC.ret ?_
     refine WX.yt ?_
     refine WX.y8 ?_
     obtain rfl:=Option.some.inj h
     refine WX.y9 Try.results18 (.tmp rfl .nil) (fun w hw=>?_)
     exact ⟨yI rfl,hw.sub .nil⟩
    ·replace h:=yk h zje
     refine WC.skip ?_
     refine WX.yn ?_
     refine WX.a ?_
     refine WC.b ?_
     refine WC.a ?_
     refine WL.a (d:=4) rfl rfl rfl (q_z rfl) ?_
     refine WL.nil ?_
     refine WX.a ?_
     refine WC.ret ?_
     obtain rfl:=Option.some.inj h
     refine WX.y9 Try.results18 (.tmp rfl .nil) (fun w hw=>?_)
     exact ⟨yI rfl,hw.sub .nil⟩
def y2Z (z1q : z1) (z1r : z1) : Option Bool :=
 (if decide (z1q ≠ z1r) then (yO z1q.fBurst z1r.fBurst).bind fun zjf=>some (decide (zjf ≤ 0)) else some false).bind fun zgt=>(if zgt then (yO z1q.fR z1r.fR).bind fun zjg=>some (decide (zjg ≤ 0)) else some false).bind fun zjh=>some zjh
set_option maxRecDepth 20000 in
theorem y7K (Z : Zp)   (z1q : z1) (z1r : z1) (r : Bool) (w₀ : World) (hz : PZ [] w₀ Z)
  (h : y2Z z1q z1r = some r) :
  Calls Try.prog 61 #[(.agg #[(.int .i64 z1q.fBurst.fN),(.int .i64 z1q.fBurst.fD),(.int .i64 z1q.fR.fN),(.int .i64 z1q.fR.fD)]),(.agg #[(.int .i64 z1r.fBurst.fN),(.int .i64 z1r.fBurst.fD),(.int .i64 z1r.fR.fN),(.int .i64 z1r.fR.fD)])] w₀ fun e w'=>e = .returned (.bool r) ∧ Hp [] w₀ w' []:=by
 unfold y2Z at h
 refine Calls.yg (vs:=[(.agg #[(.int .i64 z1q.fBurst.fN),(.int .i64 z1q.fBurst.fD),(.int .i64 z1q.fR.fN),(.int .i64 z1q.fR.fD)]),(.agg #[(.int .i64 z1r.fBurst.fN),(.int .i64 z1r.fBurst.fD),(.int .i64 z1r.fR.fN),(.int .i64 z1r.fR.fD)])]) (pre:=[]) (env:=[(0,(.agg #[(.int .i64 z1q.fBurst.fN),(.int .i64 z1q.fBurst.fD),(.int .i64 z1q.fR.fN),(.int .i64 z1q.fR.fD)])),(1,(.agg #[(.int .i64 z1r.fBurst.fN),(.int .i64 z1r.fBurst.fD),(.int .i64 z1r.fR.fN),(.int .i64 z1r.fR.fD)]))]) Try.func61 rfl Try.ntmps61 rfl (Hp.nil w₀ _) rfl ?_
 refine WC.b ?_
 refine WC.a ?_
 refine WL.new (dd:=2) rfl rfl rfl (yK (cs:=[(.int .i64 z1q.fBurst.fN),(.int .i64 z1q.fBurst.fD),(.int .i64 z1q.fR.fN),(.int .i64 z1q.fR.fD)]) rfl rfl) ?_
 intro z8O _
 refine WL.new (dd:=3) rfl rfl rfl (yK (cs:=[(.int .i64 z1r.fBurst.fN),(.int .i64 z1r.fBurst.fD),(.int .i64 z1r.fR.fN),(.int .i64 z1r.fR.fD)]) rfl rfl) ?_
 intro z8P _
 refine WL.a (d:=4) rfl rfl rfl (q_z rfl) ?_
 refine WL.nil ?_
 refine WX.a ?_
 refine WC.b ?_
 obtain ⟨zgt,znO,h⟩:=zb h
 obtain ⟨zjh,znP,h⟩:=zb h
 refine WC.a ?_
 refine WL.a (d:=5) rfl rfl rfl (y6 (cs:=[(.int .i64 z1q.fBurst.fN),(.int .i64 z1q.fBurst.fD),(.int .i64 z1q.fR.fN),(.int .i64 z1q.fR.fD)]) y1D rfl rfl (y7 .h1)) ?_
 refine WL.a (d:=6) rfl rfl rfl (y6 (cs:=[(.int .i64 z1r.fBurst.fN),(.int .i64 z1r.fBurst.fD),(.int .i64 z1r.fR.fN),(.int .i64 z1r.fR.fD)]) y1D rfl rfl (y7 .here)) ?_
 refine WL.a (d:=7) rfl rfl rfl (y8W (enc:=e35) (a:=z1q) (b:=z1r) eqT_35 rfl rfl) ?_
 refine WL.a (d:=8) rfl rfl rfl (q_m rfl) ?_
 refine WL.yF True [(2,(.pointer (some ⟨z8O,0,none⟩))),(3,(.pointer (some ⟨z8P,0,none⟩))),(4,(.bool false)),(15,(.bool zgt))] [stb z8P 35 [(.int .i64 z1r.fBurst.fN),(.int .i64 z1r.fBurst.fD),(.int .i64 z1r.fR.fN),(.int .i64 z1r.fR.fD)],stb z8O 35 [(.int .i64 z1q.fBurst.fN),(.int .i64 z1q.fBurst.fD),(.int .i64 z1q.fR.fN),(.int .i64 z1q.fR.fD)]] 7 ?_ (fun _=>?_)
 ·rcases Bool.eq_false_or_eq_true (decide (z1q ≠ z1r)) with hb' | hb'
  ·have znQ:=hb'; clear hb'
   have zeL:=yj znO znQ
   obtain ⟨zjf,zs3,zeL⟩:=zb zeL
   replace zeL:=Option.some.inj zeL
   refine WL.pin (i:=8) rfl znQ ?_
   refine WL.a (d:=9) rfl rfl rfl (y4 y3W rfl rfl) ?_
   refine WL.a (d:=10) rfl rfl rfl (y6 (cs:=[(.int .i64 z1q.fBurst.fN),(.int .i64 z1q.fBurst.fD)]) y5 rfl rfl (y1T (s:=2) .h1 rfl)) ?_
   refine WL.a (d:=11) rfl rfl rfl (y4 y3W rfl rfl) ?_
   refine WL.a (d:=12) rfl rfl rfl (y6 (cs:=[(.int .i64 z1r.fBurst.fN),(.int .i64 z1r.fBurst.fD)]) y5 rfl rfl (y1T (s:=2) .here rfl)) ?_
   refine WL.b (dd:=13) rfl rfl rfl (zl (l:=[.tmp 10,.tmp 12]) Try.call18 (.cons rfl (.cons rfl .nil))) (.nil : Sel [stb z8P 35 [(.int .i64 z1r.fBurst.fN),(.int .i64 z1r.fBurst.fD),(.int .i64 z1r.fR.fN),(.int .i64 z1r.fR.fD)],stb z8O 35 [(.int .i64 z1q.fBurst.fN),(.int .i64 z1q.fBurst.fD),(.int .i64 z1q.fR.fN),(.int .i64 z1q.fR.fD)]] [] [stb z8P 35 [(.int .i64 z1r.fBurst.fN),(.int .i64 z1r.fBurst.fD),(.int .i64 z1r.fR.fN),(.int .i64 z1r.fR.fD)],stb z8O 35 [(.int .i64 z1q.fBurst.fN),(.int .i64 z1q.fBurst.fD),(.int .i64 z1q.fR.fN),(.int .i64 z1q.fR.fD)]]) (fun w hw=>by have pz:=(hz.call hw (.nil : Sel [stb z8P 35 [(.int .i64 z1r.fBurst.fN),(.int .i64 z1r.fBurst.fD),(.int .i64 z1r.fR.fN),(.int .i64 z1r.fR.fD)],stb z8O 35 [(.int .i64 z1q.fBurst.fN),(.int .i64 z1q.fBurst.fD),(.int .i64 z1q.fR.fN),(.int .i64 z1q.fR.fD)]] [] [stb z8P 35 [(.int .i64 z1r.fBurst.fN),(.int .i64 z1r.fBurst.fD),(.int .i64 z1r.fR.fN),(.int .i64 z1r.fR.fD)],stb z8O 35 [(.int .i64 z1q.fBurst.fN),(.int .i64 z1q.fBurst.fD),(.int .i64 z1q.fR.fN),(.int .i64 z1q.fR.fD)]])); exact y1Y (Z:=_)  (z2m:=z1q.fBurst) (z2n:=z1r.fBurst) (r:=zjf) w pz  zs3) ?_
   refine WL.a (d:=14) rfl rfl rfl (y5a rfl rfl) ?_
   refine WL.a (d:=15) rfl rfl rfl (ys rfl rfl) ?_
   exact WL.ya () trivial (.cons rfl (.cons rfl (.cons rfl (.cons (zt zeL) .nil)))) (.cons .here (.cons .here .nil))
  ·have znR:=hb'; clear hb'
   have zji:=yk znO znR
   replace zji:=Option.some.inj zji
   refine WL.pin (i:=8) rfl znR ?_
   refine WL.e rfl rfl rfl ?_
   refine WL.e rfl rfl rfl ?_
   refine WL.e rfl rfl rfl ?_
   refine WL.e rfl rfl rfl ?_
   refine WL.e rfl rfl rfl ?_
   refine WL.e rfl rfl rfl ?_
   refine WL.a (d:=15) rfl rfl rfl (yr rfl rfl) ?_
   exact WL.ya () trivial (.cons rfl (.cons rfl (.cons rfl (.cons (zt zji) .nil)))) (.cons .here (.cons .here .nil))
 ·skip
  refine WL.a (d:=16) rfl rfl rfl (q_m rfl) ?_
  refine WL.yF True [(4,(.bool false)),(23,(.bool zjh))] [stb z8P 35 [(.int .i64 z1r.fBurst.fN),(.int .i64 z1r.fBurst.fD),(.int .i64 z1r.fR.fN),(.int .i64 z1r.fR.fD)],stb z8O 35 [(.int .i64 z1q.fBurst.fN),(.int .i64 z1q.fBurst.fD),(.int .i64 z1q.fR.fN),(.int .i64 z1q.fR.fD)]] 7 ?_ (fun _=>?_)
  ·rcases Bool.eq_false_or_eq_true zgt with hb' | hb'
   ·have znS:=hb'; clear hb'
    have zeM:=yj znP znS
    obtain ⟨zjg,zs4,zeM⟩:=zb zeM
    replace zeM:=Option.some.inj zeM
    refine WL.pin (i:=16) rfl znS ?_
    refine WL.a (d:=17) rfl rfl rfl (y4 y4J rfl rfl) ?_
    refine WL.a (d:=18) rfl rfl rfl (y6 (cs:=[(.int .i64 z1q.fR.fN),(.int .i64 z1q.fR.fD)]) y5 rfl rfl (y1T (s:=2) .h1 rfl)) ?_
    refine WL.a (d:=19) rfl rfl rfl (y4 y4J rfl rfl) ?_
    refine WL.a (d:=20) rfl rfl rfl (y6 (cs:=[(.int .i64 z1r.fR.fN),(.int .i64 z1r.fR.fD)]) y5 rfl rfl (y1T (s:=2) .here rfl)) ?_
    refine WL.b (dd:=21) rfl rfl rfl (zl (l:=[.tmp 18,.tmp 20]) Try.call18 (.cons rfl (.cons rfl .nil))) (.nil : Sel [stb z8P 35 [(.int .i64 z1r.fBurst.fN),(.int .i64 z1r.fBurst.fD),(.int .i64 z1r.fR.fN),(.int .i64 z1r.fR.fD)],stb z8O 35 [(.int .i64 z1q.fBurst.fN),(.int .i64 z1q.fBurst.fD),(.int .i64 z1q.fR.fN),(.int .i64 z1q.fR.fD)]] [] [stb z8P 35 [(.int .i64 z1r.fBurst.fN),(.int .i64 z1r.fBurst.fD),(.int .i64 z1r.fR.fN),(.int .i64 z1r.fR.fD)],stb z8O 35 [(.int .i64 z1q.fBurst.fN),(.int .i64 z1q.fBurst.fD),(.int .i64 z1q.fR.fN),(.int .i64 z1q.fR.fD)]]) (fun w hw=>by have pz:=(hz.call hw (.nil : Sel [stb z8P 35 [(.int .i64 z1r.fBurst.fN),(.int .i64 z1r.fBurst.fD),(.int .i64 z1r.fR.fN),(.int .i64 z1r.fR.fD)],stb z8O 35 [(.int .i64 z1q.fBurst.fN),(.int .i64 z1q.fBurst.fD),(.int .i64 z1q.fR.fN),(.int .i64 z1q.fR.fD)]] [] [stb z8P 35 [(.int .i64 z1r.fBurst.fN),(.int .i64 z1r.fBurst.fD),(.int .i64 z1r.fR.fN),(.int .i64 z1r.fR.fD)],stb z8O 35 [(.int .i64 z1q.fBurst.fN),(.int .i64 z1q.fBurst.fD),(.int .i64 z1q.fR.fN),(.int .i64 z1q.fR.fD)]])); exact y1Y (Z:=_)  (z2m:=z1q.fR) (z2n:=z1r.fR) (r:=zjg) w pz  zs4) ?_
    refine WL.a (d:=22) rfl rfl rfl (y5a rfl rfl) ?_
    refine WL.a (d:=23) rfl rfl rfl (ys rfl rfl) ?_
    exact WL.ya () trivial (.cons rfl (.cons (zt zeM) .nil)) (.cons .here (.cons .here .nil))
   ·have znT:=hb'; clear hb'
    have zjj:=yk znP znT
    replace zjj:=Option.some.inj zjj
    refine WL.pin (i:=16) rfl znT ?_
    refine WL.e rfl rfl rfl ?_
    refine WL.e rfl rfl rfl ?_
    refine WL.e rfl rfl rfl ?_
    refine WL.e rfl rfl rfl ?_
    refine WL.e rfl rfl rfl ?_
    refine WL.e rfl rfl rfl ?_
    refine WL.a (d:=23) rfl rfl rfl (yr rfl rfl) ?_
    exact WL.ya () trivial (.cons rfl (.cons (zt zjj) .nil)) (.cons .here (.cons .here .nil))
  ·skip
   refine WL.a (d:=4) rfl rfl rfl (q_z rfl) ?_
   refine WL.nil ?_
   refine WX.a ?_
   refine WC.ret ?_
   obtain rfl:=Option.some.inj h
   refine WX.y9 Try.results61 (.tmp rfl .nil) (fun w hw=>?_)
   exact ⟨yI rfl,hw.sub .nil⟩
def y30 (z2S : z1) (z7V : z1) : Option Bool :=
 (y2Z z2S z7V).bind fun zjk=>some zjk
set_option maxRecDepth 20000 in
theorem y8q (Z : Zp)  (zeN : Addr) (z2S : z1) (z7V : z1) (r : Bool) (w₀ : World) (hz : PZ [] w₀ Z)
  (zs5 : ZC Z zeN [(.int .i64 z7V.fBurst.fN),(.int .i64 z7V.fBurst.fD),(.int .i64 z7V.fR.fN),(.int .i64 z7V.fR.fD)])
  (h : y30 z2S z7V = some r) :
  Calls Try.prog 60 #[(.agg #[(.int .i64 z2S.fBurst.fN),(.int .i64 z2S.fBurst.fD),(.int .i64 z2S.fR.fN),(.int .i64 z2S.fR.fD)]),(.pointer (some zeN))] w₀ fun e w'=>e = .returned (.bool r) ∧ Hp [] w₀ w' []:=by
 unfold y30 at h
 refine Calls.yg (vs:=[(.agg #[(.int .i64 z2S.fBurst.fN),(.int .i64 z2S.fBurst.fD),(.int .i64 z2S.fR.fN),(.int .i64 z2S.fR.fD)]),(.pointer (some zeN))]) (pre:=[]) (env:=[(0,(.agg #[(.int .i64 z2S.fBurst.fN),(.int .i64 z2S.fBurst.fD),(.int .i64 z2S.fR.fN),(.int .i64 z2S.fR.fD)])),(1,(.pointer (some zeN)))]) Try.func60 rfl Try.ntmps60 rfl (Hp.nil w₀ _) rfl ?_
 refine WC.b ?_
 refine WC.a ?_
 refine WL.new (dd:=2) rfl rfl rfl (yK (cs:=[(.int .i64 z2S.fBurst.fN),(.int .i64 z2S.fBurst.fD),(.int .i64 z2S.fR.fN),(.int .i64 z2S.fR.fD)]) rfl rfl) ?_
 intro zgu _
 refine WL.a (d:=3) rfl rfl rfl (q_z rfl) ?_
 refine WL.nil ?_
 refine WX.a ?_
 refine WC.b ?_
 obtain ⟨zjk,zs6,h⟩:=zb h
 refine WC.a ?_
 refine WL.a (d:=4) rfl rfl rfl (y6 (cs:=[(.int .i64 z2S.fBurst.fN),(.int .i64 z2S.fBurst.fD),(.int .i64 z2S.fR.fN),(.int .i64 z2S.fR.fD)]) y1D rfl rfl (y7 .here)) ?_
 refine WL.a (d:=5) rfl rfl rfl (y6 (cs:=[(.int .i64 z7V.fBurst.fN),(.int .i64 z7V.fBurst.fD),(.int .i64 z7V.fR.fN),(.int .i64 z7V.fR.fD)]) y1D rfl rfl (y2T hz.pv zs5)) ?_
 refine WL.b (dd:=6) rfl rfl rfl (zl (l:=[.tmp 4,.tmp 5]) Try.call61 (.cons rfl (.cons rfl .nil))) (.nil : Sel [stb zgu 35 [(.int .i64 z2S.fBurst.fN),(.int .i64 z2S.fBurst.fD),(.int .i64 z2S.fR.fN),(.int .i64 z2S.fR.fD)]] [] [stb zgu 35 [(.int .i64 z2S.fBurst.fN),(.int .i64 z2S.fBurst.fD),(.int .i64 z2S.fR.fN),(.int .i64 z2S.fR.fD)]]) (fun w hw=>by have pz:=(hz.call hw (.nil : Sel [stb zgu 35 [(.int .i64 z2S.fBurst.fN),(.int .i64 z2S.fBurst.fD),(.int .i64 z2S.fR.fN),(.int .i64 z2S.fR.fD)]] [] [stb zgu 35 [(.int .i64 z2S.fBurst.fN),(.int .i64 z2S.fBurst.fD),(.int .i64 z2S.fR.fN),(.int .i64 z2S.fR.fD)]])); exact y7K (Z:=_)  (z1q:=z2S) (z1r:=z7V) (r:=zjk) w pz  zs6) ?_
 refine WL.a (d:=3) rfl rfl rfl (q_z rfl) ?_
 refine WL.nil ?_
 refine WX.a ?_
 refine WC.ret ?_
 obtain rfl:=Option.some.inj h
 refine WX.y9 Try.results60 (.tmp rfl .nil) (fun w hw=>?_)
 exact ⟨yI rfl,hw.sub .nil⟩
def y3A (z35 : z1) (z36 : z1) : Option Int :=
 (yO z35.fBurst z36.fBurst).bind fun zjl=>some zjl
set_option maxRecDepth 20000 in
theorem y8r (Z : Zp)   (z35 : z1) (z36 : z1) (r : Int) (w₀ : World) (hz : PZ [] w₀ Z)
  (h : y3A z35 z36 = some r) :
  Calls Try.prog 63 #[(.agg #[(.int .i64 z35.fBurst.fN),(.int .i64 z35.fBurst.fD),(.int .i64 z35.fR.fN),(.int .i64 z35.fR.fD)]),(.agg #[(.int .i64 z36.fBurst.fN),(.int .i64 z36.fBurst.fD),(.int .i64 z36.fR.fN),(.int .i64 z36.fR.fD)])] w₀ fun e w'=>e = .returned (.int .i64 r) ∧ Hp [] w₀ w' []:=by
 unfold y3A at h
 refine Calls.yg (vs:=[(.agg #[(.int .i64 z35.fBurst.fN),(.int .i64 z35.fBurst.fD),(.int .i64 z35.fR.fN),(.int .i64 z35.fR.fD)]),(.agg #[(.int .i64 z36.fBurst.fN),(.int .i64 z36.fBurst.fD),(.int .i64 z36.fR.fN),(.int .i64 z36.fR.fD)])]) (pre:=[]) (env:=[(0,(.agg #[(.int .i64 z35.fBurst.fN),(.int .i64 z35.fBurst.fD),(.int .i64 z35.fR.fN),(.int .i64 z35.fR.fD)])),(1,(.agg #[(.int .i64 z36.fBurst.fN),(.int .i64 z36.fBurst.fD),(.int .i64 z36.fR.fN),(.int .i64 z36.fR.fD)]))]) Try.func63 rfl Try.ntmps63 rfl (Hp.nil w₀ _) rfl ?_
 refine WC.b ?_
 refine WC.a ?_
 refine WL.new (dd:=2) rfl rfl rfl (yK (cs:=[(.int .i64 z35.fBurst.fN),(.int .i64 z35.fBurst.fD),(.int .i64 z35.fR.fN),(.int .i64 z35.fR.fD)]) rfl rfl) ?_
 intro zgv _
 refine WL.new (dd:=3) rfl rfl rfl (yK (cs:=[(.int .i64 z36.fBurst.fN),(.int .i64 z36.fBurst.fD),(.int .i64 z36.fR.fN),(.int .i64 z36.fR.fD)]) rfl rfl) ?_
 intro zgw _
 refine WL.a (d:=4) rfl rfl rfl (q_z rfl) ?_
 refine WL.nil ?_
 refine WX.a ?_
 refine WC.b ?_
 obtain ⟨zjl,zs7,h⟩:=zb h
 refine WC.a ?_
 refine WL.a (d:=5) rfl rfl rfl (y4 y3W rfl rfl) ?_
 refine WL.a (d:=6) rfl rfl rfl (y6 (cs:=[(.int .i64 z35.fBurst.fN),(.int .i64 z35.fBurst.fD)]) y5 rfl rfl (y1T (s:=2) .h1 rfl)) ?_
 refine WL.a (d:=7) rfl rfl rfl (y4 y3W rfl rfl) ?_
 refine WL.a (d:=8) rfl rfl rfl (y6 (cs:=[(.int .i64 z36.fBurst.fN),(.int .i64 z36.fBurst.fD)]) y5 rfl rfl (y1T (s:=2) .here rfl)) ?_
 refine WL.b (dd:=9) rfl rfl rfl (zl (l:=[.tmp 6,.tmp 8]) Try.call18 (.cons rfl (.cons rfl .nil))) (.nil : Sel [stb zgw 35 [(.int .i64 z36.fBurst.fN),(.int .i64 z36.fBurst.fD),(.int .i64 z36.fR.fN),(.int .i64 z36.fR.fD)],stb zgv 35 [(.int .i64 z35.fBurst.fN),(.int .i64 z35.fBurst.fD),(.int .i64 z35.fR.fN),(.int .i64 z35.fR.fD)]] [] [stb zgw 35 [(.int .i64 z36.fBurst.fN),(.int .i64 z36.fBurst.fD),(.int .i64 z36.fR.fN),(.int .i64 z36.fR.fD)],stb zgv 35 [(.int .i64 z35.fBurst.fN),(.int .i64 z35.fBurst.fD),(.int .i64 z35.fR.fN),(.int .i64 z35.fR.fD)]]) (fun w hw=>by have pz:=(hz.call hw (.nil : Sel [stb zgw 35 [(.int .i64 z36.fBurst.fN),(.int .i64 z36.fBurst.fD),(.int .i64 z36.fR.fN),(.int .i64 z36.fR.fD)],stb zgv 35 [(.int .i64 z35.fBurst.fN),(.int .i64 z35.fBurst.fD),(.int .i64 z35.fR.fN),(.int .i64 z35.fR.fD)]] [] [stb zgw 35 [(.int .i64 z36.fBurst.fN),(.int .i64 z36.fBurst.fD),(.int .i64 z36.fR.fN),(.int .i64 z36.fR.fD)],stb zgv 35 [(.int .i64 z35.fBurst.fN),(.int .i64 z35.fBurst.fD),(.int .i64 z35.fR.fN),(.int .i64 z35.fR.fD)]])); exact y1Y (Z:=_)  (z2m:=z35.fBurst) (z2n:=z36.fBurst) (r:=zjl) w pz  zs7) ?_
 refine WL.a (d:=4) rfl rfl rfl (q_z rfl) ?_
 refine WL.nil ?_
 refine WX.a ?_
 refine WC.ret ?_
 obtain rfl:=Option.some.inj h
 refine WX.y9 Try.results63 (.tmp rfl .nil) (fun w hw=>?_)
 exact ⟨yI rfl,hw.sub .nil⟩
def y4U (za3 : Int) : Option Int:=chk ((0 : Int) ≤ za3 ∧ za3 ≤ 18446744073709551615) (some ((Go.Lib.bitLen (za3).toNat : Nat) : Int))
theorem y88 (Z : Zp) (za3 : Int) (r : Int) (w₀ : World) (hz : PZ [] w₀ Z) (h : y4U za3 = some r) : Calls Try.prog 74 #[.int .u64 za3] w₀ fun e w'=>e = .returned (.int .i64 r) ∧ Hp [] w₀ w' []:=by
 obtain ⟨h0,h⟩:=yp h
 obtain rfl:=Option.some.inj h
 refine (Try.bits_Len za3 w₀ h0.1 h0.2).mono ?_
 rintro e w' ⟨rfl,rfl⟩
 exact ⟨rfl,Hp.nil w' []⟩
theorem srtA_73 : ∀ w,(isAgg (Try.y2h.t 24)).run Try.prog w = .ok true w:=fun _=>by kernel_rfl
theorem srtZ_73 : ∀ w,(Go.sizeOf (Try.y2h.t 24)).run Try.prog w = .ok 4 w:=fun _=>by kernel_rfl
def y2e (z6C : List z1) (zeO : Int) (zeP : Int) (zdo : Int) (zc3 : z1 → z1 → Option Int) : Option (List z1):=chk ((zeO = 0 ∧ zeP = ((z6C.length : Nat) : Int)) ∧ (0 ≤ zdo ∧ zdo < 4611686018427387904 ∧ z6C.length < 4611686018427387904)) (chk (ordB zc3 (y1s zc3 z6C) = true) (some (y1s zc3 z6C)))
theorem y4p (Z : Zp) (zc4 : Option Addr) (zc5 : Nat) (zeQ : FuncId) (zjm : List Value) (z6C : List z1) (zeO : Int) (zeP : Int) (zdo : Int) (zc3 : z1 → z1 → Option Int) (r : List z1) (w₀ : World) (hz : PZ (fps [row (.slice zc4 z6C.length zc5) 35 4 (z6C.flatMap e35)]) w₀ Z)
  (zs8 : ∀ args w,(callFunc zeQ args).run Try.prog w = .ok (.enter zeQ args) w)
  (zs9 : ∀ w : World,PZ [] w Z → ∀ (x0 : z1) (x1 : z1) (r : Int),zc3 x0 x1 = some r → Calls Try.prog zeQ (([(.agg #[(.int .i64 x0.fBurst.fN),(.int .i64 x0.fBurst.fD),(.int .i64 x0.fR.fN),(.int .i64 x0.fR.fD)]),(.agg #[(.int .i64 x1.fBurst.fN),(.int .i64 x1.fBurst.fD),(.int .i64 x1.fR.fN),(.int .i64 x1.fR.fD)])] : List Value) ++ zjm).toArray w fun e w'=>e = .returned (.int .i64 r) ∧ Hp [] w w' [])
  (h : y2e z6C zeO zeP zdo zc3 = some r) (hown : Hp (fps [row (.slice zc4 z6C.length zc5) 35 4 (z6C.flatMap e35)]) w₀ w₀ [row (.slice zc4 z6C.length zc5) 35 4 (z6C.flatMap e35)]) :
  Calls Try.prog 73 #[(.slice zc4 z6C.length zc5),(.int .i64 zeO),(.int .i64 zeP),(.int .i64 zdo),(.func (.func zeQ) #[] (zjm).toArray)] w₀ fun e w'=>e = .returned (.tuple #[]) ∧ (r.length = z6C.length) ∧ Hp (fps [row (.slice zc4 z6C.length zc5) 35 4 (z6C.flatMap e35)]) w₀ w' [row (.slice zc4 r.length zc5) 35 4 (r.flatMap e35)]:=by
 obtain ⟨h0,h⟩:=yp h
 obtain ⟨h1,h⟩:=yp h
 have hr:=(Option.some.inj h).symm
 exact y8D (P:=Try.prog) (f:=73) (e:=35) (k:=4) (enc:=e35) (fun _=>rfl) (by decide) y90 (fun β _ enc cf g cb hO blk off cap d0 w0 eg hC R=>Try.y5v 4 srtA_73 srtZ_73 enc cf g cb hO blk off cap d0 w0 eg hC R) (Try.y5j (α:=Unit)) hz zs8 zs9 h0 h1 hr hown
def yY (z2E : List z1) (zdp : z1 → z1 → Option Int) : Option (List z1) :=
 (y4U (u64 ((z2E.length : Nat) : Int))).bind fun zgx=>(y2e z2E 0 ((z2E.length : Nat) : Int) zgx zdp).bind fun zgy=>some zgy
set_option maxRecDepth 20000 in
theorem y42 (Z : Zp)  (z5a : Option Addr) (z5b : Nat) (zaX : FuncId) (zdq : List Value) (z2E : List z1) (zdp : z1 → z1 → Option Int) (r : List z1) (w₀ : World) (hz : PZ (fps [row (.slice z5a z2E.length z5b) 35 4 (z2E.flatMap e35)]) w₀ Z)
  (zsa : ∀ args w,(callFunc zaX args).run Try.prog w = .ok (.enter zaX args) w)
  (zsb : ∀ w : World,PZ [] w Z → ∀ (x0 : z1) (x1 : z1) (r : Int),zdp x0 x1 = some r → Calls Try.prog zaX (([(.agg #[(.int .i64 x0.fBurst.fN),(.int .i64 x0.fBurst.fD),(.int .i64 x0.fR.fN),(.int .i64 x0.fR.fD)]),(.agg #[(.int .i64 x1.fBurst.fN),(.int .i64 x1.fBurst.fD),(.int .i64 x1.fR.fN),(.int .i64 x1.fR.fD)])] : List Value) ++ zdq).toArray w fun e w'=>e = .returned (.int .i64 r) ∧ Hp [] w w' [])
  (h : yY z2E zdp = some r)
  (hown : Hp (fps [row (.slice z5a z2E.length z5b) 35 4 (z2E.flatMap e35)]) w₀ w₀ [row (.slice z5a z2E.length z5b) 35 4 (z2E.flatMap e35)]) :
  Calls Try.prog 62 #[(.slice z5a z2E.length z5b),(.func (.func zaX) #[] (zdq).toArray)] w₀ fun e w'=>e = .returned (.tuple #[]) ∧ (r.length = z2E.length) ∧ Hp (fps [row (.slice z5a z2E.length z5b) 35 4 (z2E.flatMap e35)]) w₀ w' [row (.slice z5a r.length z5b) 35 4 (r.flatMap e35)]:=by
 unfold yY at h
 refine Calls.yg (vs:=[(.slice z5a z2E.length z5b),(.func (.func zaX) #[] (zdq).toArray)]) (pre:=[row (.slice z5a z2E.length z5b) 35 4 (z2E.flatMap e35)]) (env:=[(0,(.slice z5a z2E.length z5b)),(1,(.func (.func zaX) #[] (zdq).toArray))]) Try.func62 rfl Try.ntmps62 rfl (hown) rfl ?_
 refine WC.b ?_
 refine WC.a ?_
 refine WL.a (d:=5) rfl rfl rfl (q_m rfl) ?_
 refine WL.a (d:=6) rfl rfl rfl (y1k Try.underlying39 rfl) ?_
 refine WL.a (d:=4) rfl rfl rfl (q_z rfl) ?_
 refine WL.nil ?_
 refine WX.a ?_
 obtain ⟨zgx,zsc,h⟩:=zb h
 obtain ⟨zgy,zsd,h⟩:=zb h
 refine WC.a ?_
 refine WL.a (d:=7) rfl rfl rfl (q_m rfl) ?_
 refine WL.a (d:=8) rfl rfl rfl (q_m rfl) ?_
 refine WL.a (d:=9) rfl rfl rfl (q_m rfl) ?_
 refine WL.a (d:=10) rfl rfl rfl (y47 Try.underlying3 Try.underlying120 rfl rfl) ?_
 refine WL.b (dd:=11) rfl rfl rfl (zl (l:=[.tmp 10]) Try.call74 (.cons rfl .nil)) (.nil : Sel [row (.slice z5a z2E.length z5b) 35 4 (z2E.flatMap e35)] [] [row (.slice z5a z2E.length z5b) 35 4 (z2E.flatMap e35)]) (fun w hw=>by have pz:=(hz.call hw (.nil : Sel [row (.slice z5a z2E.length z5b) 35 4 (z2E.flatMap e35)] [] [row (.slice z5a z2E.length z5b) 35 4 (z2E.flatMap e35)])); exact y88 (Z:=_)  (za3:=(u64 ((z2E.length : Nat) : Int))) (r:=zgx) w pz  zsc) ?_
 refine WL.a (d:=12) rfl rfl rfl (q_m rfl) ?_
 refine WL.y6s (dd:=13) rfl rfl rfl (zl (l:=[.tmp 7,.const (.int .i64 0),.tmp 8,.tmp 11,.tmp 12]) Try.call73 (.cons rfl (.cons rfl (.cons rfl (.cons rfl (.cons rfl .nil)))))) ((.cons .here .nil) : Sel [row (.slice z5a z2E.length z5b) 35 4 (z2E.flatMap e35)] [row (.slice z5a z2E.length z5b) 35 4 (z2E.flatMap e35)] []) (fun w hw=>by have pz:=(hz.call hw ((.cons .here .nil) : Sel [row (.slice z5a z2E.length z5b) 35 4 (z2E.flatMap e35)] [row (.slice z5a z2E.length z5b) 35 4 (z2E.flatMap e35)] [])); exact y4p (Z:=_) (zc4:=z5a) (zc5:=z5b) (zeQ:=zaX) (zjm:=zdq) (z6C:=z2E) (zeO:=0) (zeP:=((z2E.length : Nat) : Int)) (zdo:=zgx) (zc3:=zdp) (r:=zgy) w pz zsa zsb zsd (hw.owns ((.cons .here .nil) : Sel [row (.slice z5a z2E.length z5b) 35 4 (z2E.flatMap e35)] [row (.slice z5a z2E.length z5b) 35 4 (z2E.flatMap e35)] []))) ?_
 rintro  znU
 refine WL.repin (i:=0) rfl (u:=(.slice z5a zgy.length z5b)) (slen znU.symm) ?_
 refine WL.nil ?_
 obtain rfl:=Option.some.inj h
 refine WX.y4u Try.results62 .nil (fun w hw=>?_)
 exact ⟨y5r,(znU.trans rfl),hw.sub (.cons .here .nil)⟩
def y2w (zm : List z1) (za4 : (List z1) → Option (List z1)) : Nat → (List z1) → Int → Option (List z1)
 | 0,_,_=>none
 | zjn + 1,z1S,zs=>if decide (zs < ((zm.length : Nat) : Int)) then jp1 (fun (z8Q : List z1)=>y2w zm za4 zjn z8Q (i64 (zs + 1))) fun zgz=>chk ((0 : Int) ≤ zs ∧ zs < ((zm.length : Nat) : Int)) ((y1w z1S (⟨(⟨(((nth zm zs).fBurst).fN),(((nth zm zs).fBurst).fD)⟩ : z2),(⟨(((nth zm zs).fR).fN),(((nth zm zs).fR).fD)⟩ : z2)⟩ : z1)).bind fun zgA=>(if !zgA then (y11 zm (fun (y0 : z1)=>y30 y0 (⟨(⟨(((nth zm zs).fBurst).fN),(((nth zm zs).fBurst).fD)⟩ : z2),(⟨(((nth zm zs).fR).fN),(((nth zm zs).fR).fD)⟩ : z2)⟩ : z1))).bind fun zjo=>some (!zjo) else some false).bind fun zjp=>if zjp then chk ((((z1S ++ ([(⟨(⟨(((nth zm zs).fBurst).fN),(((nth zm zs).fBurst).fD)⟩ : z2),(⟨(((nth zm zs).fR).fN),(((nth zm zs).fR).fD)⟩ : z2)⟩ : z1)] : List z1)).length : Nat) : Int) * 32 ≤ 140737488355328 ∧ (((z1S ++ ([(⟨(⟨(((nth zm zs).fBurst).fN),(((nth zm zs).fBurst).fD)⟩ : z2),(⟨(((nth zm zs).fR).fN),(((nth zm zs).fR).fD)⟩ : z2)⟩ : z1)] : List z1)).length : Nat) : Int) ≤ 4611686018427387904) (zgz (z1S ++ ([(⟨(⟨(((nth zm zs).fBurst).fN),(((nth zm zs).fBurst).fD)⟩ : z2),(⟨(((nth zm zs).fR).fN),(((nth zm zs).fR).fD)⟩ : z2)⟩ : z1)] : List z1))) else zgz z1S) else za4 z1S
theorem y6Z {n : Nat} {zm : List z1} {za4 : (List z1) → Option (List z1)} {z1S : List z1} {zs : Int} {r : List z1} (h : y2w zm za4 n z1S zs = some r) : ∃ m,n = m + 1:=by
 cases n with
 | zero=>cases h
 | succ m=>exact ⟨m,rfl⟩
def y4a (zm : List z1) : Option (List z1) :=
 jp1 (fun (z4W : List z1)=>(yY z4W (fun (y0 : z1) (y1 : z1)=>y3A y0 y1)).bind fun zgB=>some zgB) fun za4=>y2w zm za4 yw ([] : List z1) 0
set_option maxRecDepth 20000 in
theorem y94 (Z : Zp)  (z8e : Option Addr) (z8f : Nat) (zm : List z1) (r : List z1) (w₀ : World) (hz : PZ [] w₀ Z)
  (znV : ZS Z 4 (fun r x=>r = e35 x) z8e z8f zm)
  (h : y4a zm = some r) :
  Calls Try.prog 48 #[(.slice z8e zm.length z8f)] w₀ fun e w'=>∃ znW : Option Addr,∃ znX : Nat,e = .returned (.slice znW r.length znX) ∧ True ∧ Hp [] w₀ w' [row (.slice znW r.length znX) 35 4 (r.flatMap e35)]:=by
 unfold y4a at h
 refine Calls.yg (vs:=[(.slice z8e zm.length z8f)]) (pre:=[]) (env:=[(0,(.slice z8e zm.length z8f))]) Try.func48 rfl Try.ntmps48 rfl (Hp.nil w₀ _) rfl ?_
 refine WC.b ?_
 refine WC.a ?_
 refine WL.a (d:=2) rfl rfl rfl (q_z rfl) ?_
 refine WL.nil ?_
 refine WX.a ?_
 refine WC.b ?_
 refine WC.a ?_
 refine WL.a (d:=3) rfl rfl rfl (q_z rfl) ?_
 refine WL.nil ?_
 refine WX.a ?_
 obtain ⟨za4,zse,h⟩:=y1r h
 refine WC.y2M (fun (z4W : List z1) (z7w : Option Addr) (z7x : Nat)=>(za4 z4W = some r)) (fun (z4W : List z1) (z7w : Option Addr) (z7x : Nat)=>[(3,(.slice z7w z4W.length z7x))]) (fun (z4W : List z1) (z7w : Option Addr) (z7x : Nat)=>[row (.slice z7w z4W.length z7x) 35 4 (z4W.flatMap e35)]) ?_ ?_
 ·skip
  refine WC.b ?_
  refine WC.a ?_
  refine WL.a (d:=6) rfl rfl rfl (q_m rfl) ?_
  refine WL.a (d:=7) rfl rfl rfl (y1k Try.underlying39 rfl) ?_
  refine WL.a (d:=8) rfl rfl rfl (q_m rfl) ?_
  refine WL.nil ?_
  refine WX.a ?_
  refine WC.block ?_
  refine WC.nilRow 35 4 ?_
  refine WC.y64 (fun (zdr : Nat) (z1S : List z1) (zs : Int) (z3D : Option Addr) (z3E : Nat)=>(y2w zm za4 zdr z1S zs = some r)) (fun (zdr : Nat) (z1S : List z1) (zs : Int) (z3D : Option Addr) (z3E : Nat)=>[(0,(.slice z8e zm.length z8f)),(3,(.slice z3D z1S.length z3E)),(6,(.slice z8e zm.length z8f)),(7,(.int .i64 ((zm.length : Nat) : Int))),(8,(.int .i64 zs))]) (fun (zdr : Nat) (z1S : List z1) (zs : Int) (z3D : Option Addr) (z3E : Nat)=>[row (.slice z3D z1S.length z3E) 35 4 (z1S.flatMap e35)]) (fun (zdr : Nat) (z1S : List z1) (zs : Int) (z3D : Option Addr) (z3E : Nat)=>zdr) ⟨yw,([] : List z1),0,none,0⟩ h (.cons rfl (.cons rfl (.cons rfl (.cons rfl (.cons rfl .nil))))) (.cons .here .nil) ?_
  rintro zdr z1S zs z3D z3E h
  obtain ⟨zjn,rfl⟩:=y6Z h
  rw [y2w] at h
  refine WC.b ?_
  refine WC.a ?_
  refine WL.a (d:=9) rfl rfl rfl (y1h rfl rfl) ?_
  refine WL.nil ?_
  refine WX.a ?_
  refine WC.b ?_
  refine WC.cond rfl (fun zjq=>?_) (fun zjq=>?_)
  ·replace h:=yj h zjq
   refine WC.skip ?_
   refine WX.a ?_
   obtain ⟨zgz,zsf,h⟩:=y1r h
   refine WC.y2M (fun (z8Q : List z1) (zds : Option Addr) (zdt : Nat)=>(zgz z8Q = some r)) (fun (z8Q : List z1) (zds : Option Addr) (zdt : Nat)=>[(0,(.slice z8e zm.length z8f)),(3,(.slice zds z8Q.length zdt)),(6,(.slice z8e zm.length z8f)),(7,(.int .i64 ((zm.length : Nat) : Int))),(8,(.int .i64 zs))]) (fun (z8Q : List z1) (zds : Option Addr) (zdt : Nat)=>[row (.slice zds z8Q.length zdt) 35 4 (z8Q.flatMap e35)]) ?_ ?_
   ·skip
    refine WC.block ?_
    refine WC.b ?_
    obtain ⟨zsg,h⟩:=yp h
    refine WC.a ?_
    refine WL.znth (dd:=10) rfl rfl (Z:=Z) (Pr:=(fun r x=>r = e35 x)) y2j rfl rfl znV zsg ?_
    rintro zzz zzA zsh zzB rfl
    refine WL.a (d:=11) rfl rfl rfl (y6 (cs:=[(.int .i64 (((nth zm zs).fBurst).fN)),(.int .i64 (((nth zm zs).fBurst).fD)),(.int .i64 (((nth zm zs).fR).fN)),(.int .i64 (((nth zm zs).fR).fD))]) y1D rfl rfl (y2T hz.pv zsh)) ?_
    refine WL.new (dd:=5) rfl rfl rfl (yh (cs:=[(.int .i64 0),(.int .i64 0),(.int .i64 0),(.int .i64 0)]) y3H rfl) ?_
    intro z4J _
    refine WL.yc rfl rfl (yd (vs:=[(.int .i64 (((nth zm zs).fBurst).fN)),(.int .i64 (((nth zm zs).fBurst).fD)),(.int .i64 (((nth zm zs).fR).fN)),(.int .i64 (((nth zm zs).fR).fD))]) (ds:=[(.int .i64 (((nth zm zs).fBurst).fN)),(.int .i64 (((nth zm zs).fBurst).fD)),(.int .i64 (((nth zm zs).fR).fN)),(.int .i64 (((nth zm zs).fR).fD))]) y3V rfl rfl rfl rfl (y3 rfl (y3 rfl (y3 rfl (y3 rfl yf)))) .here (Nat.le_of_ble_eq_true rfl) rfl) ?_
    refine WL.nil ?_
    refine WX.a ?_
    refine WC.b ?_
    obtain ⟨zgA,zsi,h⟩:=zb h
    obtain ⟨zjp,znY,h⟩:=zb h
    refine WC.a ?_
    refine WL.a (d:=12) rfl rfl rfl (q_m rfl) ?_
    refine WL.a (d:=13) rfl rfl rfl (y6 (cs:=[(.int .i64 (((nth zm zs).fBurst).fN)),(.int .i64 (((nth zm zs).fBurst).fD)),(.int .i64 (((nth zm zs).fR).fN)),(.int .i64 (((nth zm zs).fR).fD))]) y1D rfl rfl (y7 .here)) ?_
    refine WL.b (dd:=14) rfl rfl rfl (zl (l:=[.tmp 12,.tmp 13]) Try.call59 (.cons rfl (.cons rfl .nil))) (.nil : Sel [stb z4J 35 [(.int .i64 (((nth zm zs).fBurst).fN)),(.int .i64 (((nth zm zs).fBurst).fD)),(.int .i64 (((nth zm zs).fR).fN)),(.int .i64 (((nth zm zs).fR).fD))],row (.slice z3D z1S.length z3E) 35 4 (z1S.flatMap e35)] [] [stb z4J 35 [(.int .i64 (((nth zm zs).fBurst).fN)),(.int .i64 (((nth zm zs).fBurst).fD)),(.int .i64 (((nth zm zs).fR).fN)),(.int .i64 (((nth zm zs).fR).fD))],row (.slice z3D z1S.length z3E) 35 4 (z1S.flatMap e35)]) (fun w hw=>by have pz:=(hz.call hw (.nil : Sel [stb z4J 35 [(.int .i64 (((nth zm zs).fBurst).fN)),(.int .i64 (((nth zm zs).fBurst).fD)),(.int .i64 (((nth zm zs).fR).fN)),(.int .i64 (((nth zm zs).fR).fD))],row (.slice z3D z1S.length z3E) 35 4 (z1S.flatMap e35)] [] [stb z4J 35 [(.int .i64 (((nth zm zs).fBurst).fN)),(.int .i64 (((nth zm zs).fBurst).fD)),(.int .i64 (((nth zm zs).fR).fN)),(.int .i64 (((nth zm zs).fR).fD))],row (.slice z3D z1S.length z3E) 35 4 (z1S.flatMap e35)])).lend hw (.nil : Sel [stb z4J 35 [(.int .i64 (((nth zm zs).fBurst).fN)),(.int .i64 (((nth zm zs).fBurst).fD)),(.int .i64 (((nth zm zs).fR).fN)),(.int .i64 (((nth zm zs).fR).fD))],row (.slice z3D z1S.length z3E) 35 4 (z1S.flatMap e35)] [] [stb z4J 35 [(.int .i64 (((nth zm zs).fBurst).fN)),(.int .i64 (((nth zm zs).fBurst).fD)),(.int .i64 (((nth zm zs).fR).fN)),(.int .i64 (((nth zm zs).fR).fD))],row (.slice z3D z1S.length z3E) 35 4 (z1S.flatMap e35)]) (B:=[row (.slice z3D z1S.length z3E) 35 4 (z1S.flatMap e35)]) (fun _ hx'=>((.cons .h1 .nil) : Sel _ [row (.slice z3D z1S.length z3E) 35 4 (z1S.flatMap e35)] _).mem hx'); exact y41 (Z:=_) (zdm:=z3D) (zdn:=z3E) (za2:=z1S) (z2R:=(⟨(⟨(((nth zm zs).fBurst).fN),(((nth zm zs).fBurst).fD)⟩ : z2),(⟨(((nth zm zs).fR).fN),(((nth zm zs).fR).fD)⟩ : z2)⟩ : z1)) (r:=zgA) w pz (ZA.row (hw.lent (.nil : Sel [stb z4J 35 [(.int .i64 (((nth zm zs).fBurst).fN)),(.int .i64 (((nth zm zs).fBurst).fD)),(.int .i64 (((nth zm zs).fR).fN)),(.int .i64 (((nth zm zs).fR).fD))],row (.slice z3D z1S.length z3E) 35 4 (z1S.flatMap e35)] [] [stb z4J 35 [(.int .i64 (((nth zm zs).fBurst).fN)),(.int .i64 (((nth zm zs).fBurst).fD)),(.int .i64 (((nth zm zs).fR).fN)),(.int .i64 (((nth zm zs).fR).fD))],row (.slice z3D z1S.length z3E) 35 4 (z1S.flatMap e35)]) (B:=[row (.slice z3D z1S.length z3E) 35 4 (z1S.flatMap e35)]) (fun _ hx'=>((.cons .h1 .nil) : Sel _ [row (.slice z3D z1S.length z3E) 35 4 (z1S.flatMap e35)] _).mem hx') (.head _) _) (RR.flat (enc:=e35) (fun _=>rfl) _) ⟨w,pz.1⟩) zsi) ?_
    refine WL.a (d:=15) rfl rfl rfl (y1n rfl) ?_
    refine WL.a (d:=16) rfl rfl rfl (q_m rfl) ?_
    refine WL.yF True [(0,(.slice z8e zm.length z8f)),(3,(.slice z3D z1S.length z3E)),(6,(.slice z8e zm.length z8f)),(7,(.int .i64 ((zm.length : Nat) : Int))),(8,(.int .i64 zs)),(5,(.pointer (some ⟨z4J,0,none⟩))),(21,(.bool zjp))] [stb z4J 35 [(.int .i64 (((nth zm zs).fBurst).fN)),(.int .i64 (((nth zm zs).fBurst).fD)),(.int .i64 (((nth zm zs).fR).fN)),(.int .i64 (((nth zm zs).fR).fD))],row (.slice z3D z1S.length z3E) 35 4 (z1S.flatMap e35)] 5 ?_ (fun _=>?_)
    ·rcases Bool.eq_false_or_eq_true (!zgA) with hb' | hb'
     ·have znZ:=hb'; clear hb'
      have zeR:=yj znY znZ
      obtain ⟨zjo,zsj,zeR⟩:=zb zeR
      replace zeR:=Option.some.inj zeR
      refine WL.pin (i:=16) rfl znZ ?_
      refine WL.a (d:=17) rfl rfl rfl (q_m rfl) ?_
      refine WL.a (d:=18) rfl rfl rfl (y18 (Eos.caps (l:=[.tmp 5]) (.cons rfl .nil))) ?_
      refine WL.b (dd:=19) rfl rfl rfl (zl (l:=[.tmp 17,.tmp 18]) Try.call49 (.cons rfl (.cons rfl .nil))) (.nil : Sel [stb z4J 35 [(.int .i64 (((nth zm zs).fBurst).fN)),(.int .i64 (((nth zm zs).fBurst).fD)),(.int .i64 (((nth zm zs).fR).fN)),(.int .i64 (((nth zm zs).fR).fD))],row (.slice z3D z1S.length z3E) 35 4 (z1S.flatMap e35)] [] [stb z4J 35 [(.int .i64 (((nth zm zs).fBurst).fN)),(.int .i64 (((nth zm zs).fBurst).fD)),(.int .i64 (((nth zm zs).fR).fN)),(.int .i64 (((nth zm zs).fR).fD))],row (.slice z3D z1S.length z3E) 35 4 (z1S.flatMap e35)]) (fun w hw=>by have pz:=(hz.call hw (.nil : Sel [stb z4J 35 [(.int .i64 (((nth zm zs).fBurst).fN)),(.int .i64 (((nth zm zs).fBurst).fD)),(.int .i64 (((nth zm zs).fR).fN)),(.int .i64 (((nth zm zs).fR).fD))],row (.slice z3D z1S.length z3E) 35 4 (z1S.flatMap e35)] [] [stb z4J 35 [(.int .i64 (((nth zm zs).fBurst).fN)),(.int .i64 (((nth zm zs).fBurst).fD)),(.int .i64 (((nth zm zs).fR).fN)),(.int .i64 (((nth zm zs).fR).fD))],row (.slice z3D z1S.length z3E) 35 4 (z1S.flatMap e35)])).lend hw (.nil : Sel [stb z4J 35 [(.int .i64 (((nth zm zs).fBurst).fN)),(.int .i64 (((nth zm zs).fBurst).fD)),(.int .i64 (((nth zm zs).fR).fN)),(.int .i64 (((nth zm zs).fR).fD))],row (.slice z3D z1S.length z3E) 35 4 (z1S.flatMap e35)] [] [stb z4J 35 [(.int .i64 (((nth zm zs).fBurst).fN)),(.int .i64 (((nth zm zs).fBurst).fD)),(.int .i64 (((nth zm zs).fR).fN)),(.int .i64 (((nth zm zs).fR).fD))],row (.slice z3D z1S.length z3E) 35 4 (z1S.flatMap e35)]) (B:=[stb z4J 35 [(.int .i64 (((nth zm zs).fBurst).fN)),(.int .i64 (((nth zm zs).fBurst).fD)),(.int .i64 (((nth zm zs).fR).fN)),(.int .i64 (((nth zm zs).fR).fD))]]) (fun _ hx'=>((.cons .here .nil) : Sel _ [stb z4J 35 [(.int .i64 (((nth zm zs).fBurst).fN)),(.int .i64 (((nth zm zs).fBurst).fD)),(.int .i64 (((nth zm zs).fR).fN)),(.int .i64 (((nth zm zs).fR).fD))]] _).mem hx'); exact y2q (Z:=_) (zbS:=z8e) (zbT:=z8f) (z9X:=60) (zbU:=[(.pointer (some ⟨z4J,0,none⟩))]) (z9e:=zm) (zbR:=(fun (y0 : z1)=>y30 y0 (⟨(⟨(((nth zm zs).fBurst).fN),(((nth zm zs).fBurst).fD)⟩ : z2),(⟨(((nth zm zs).fR).fN),(((nth zm zs).fR).fD)⟩ : z2)⟩ : z1))) (r:=zjo) w pz (znV.mono (Zle.left _ _)) Try.call60 (fun w' hz' y0  r  hr=>y8q (Z:=_) (zeN:=⟨z4J,0,none⟩) (z2S:=y0) (z7V:=(⟨(⟨(((nth zm zs).fBurst).fN),(((nth zm zs).fBurst).fD)⟩ : z2),(⟨(((nth zm zs).fR).fN),(((nth zm zs).fR).fD)⟩ : z2)⟩ : z1)) (r:=r) w' hz' ((hw.lent (.nil : Sel [stb z4J 35 [(.int .i64 (((nth zm zs).fBurst).fN)),(.int .i64 (((nth zm zs).fBurst).fD)),(.int .i64 (((nth zm zs).fR).fN)),(.int .i64 (((nth zm zs).fR).fD))],row (.slice z3D z1S.length z3E) 35 4 (z1S.flatMap e35)] [] [stb z4J 35 [(.int .i64 (((nth zm zs).fBurst).fN)),(.int .i64 (((nth zm zs).fBurst).fD)),(.int .i64 (((nth zm zs).fR).fN)),(.int .i64 (((nth zm zs).fR).fD))],row (.slice z3D z1S.length z3E) 35 4 (z1S.flatMap e35)]) (B:=[stb z4J 35 [(.int .i64 (((nth zm zs).fBurst).fN)),(.int .i64 (((nth zm zs).fBurst).fD)),(.int .i64 (((nth zm zs).fR).fN)),(.int .i64 (((nth zm zs).fR).fD))]]) (fun _ hx'=>((.cons .here .nil) : Sel _ [stb z4J 35 [(.int .i64 (((nth zm zs).fBurst).fN)),(.int .i64 (((nth zm zs).fBurst).fD)),(.int .i64 (((nth zm zs).fR).fN)),(.int .i64 (((nth zm zs).fR).fD))]] _).mem hx') (.head _) _).stb) hr) zsj) ?_
      refine WL.a (d:=20) rfl rfl rfl (y1n rfl) ?_
      refine WL.a (d:=21) rfl rfl rfl (ys rfl rfl) ?_
      exact WL.ya () trivial (.cons rfl (.cons rfl (.cons rfl (.cons rfl (.cons rfl (.cons rfl (.cons (zt zeR) .nil))))))) (.cons .here (.cons .here .nil))
     ·have zo0:=hb'; clear hb'
      have zjr:=yk znY zo0
      replace zjr:=Option.some.inj zjr
      refine WL.pin (i:=16) rfl zo0 ?_
      refine WL.e rfl rfl rfl ?_
      refine WL.e rfl rfl rfl ?_
      refine WL.e rfl rfl rfl ?_
      refine WL.e rfl rfl rfl ?_
      refine WL.a (d:=21) rfl rfl rfl (yr rfl rfl) ?_
      exact WL.ya () trivial (.cons rfl (.cons rfl (.cons rfl (.cons rfl (.cons rfl (.cons rfl (.cons (zt zjr) .nil))))))) (.cons .here (.cons .here .nil))
    ·skip
     refine WL.nil ?_
     refine WX.a ?_
     refine WC.cond rfl (fun zjs=>?_) (fun zjs=>?_)
     ·replace h:=yj h zjs
      obtain ⟨zsk,h⟩:=yp h
      refine WC.a ?_
      refine WL.a (d:=22) rfl rfl rfl (q_m rfl) ?_
      refine WL.a (d:=23) rfl rfl rfl (y6 (cs:=[(.int .i64 (((nth zm zs).fBurst).fN)),(.int .i64 (((nth zm zs).fBurst).fD)),(.int .i64 (((nth zm zs).fR).fN)),(.int .i64 (((nth zm zs).fR).fD))]) y1D rfl rfl (y7 .here)) ?_
      refine WL.new (dd:=24) rfl rfl rfl (yU (cs:=([(⟨(⟨(((nth zm zs).fBurst).fN),(((nth zm zs).fBurst).fD)⟩ : z2),(⟨(((nth zm zs).fR).fN),(((nth zm zs).fR).fD)⟩ : z2)⟩ : z1)] : List z1).flatMap e35) y2j (Eos.parts (l:=[.tmp 23]) (.cons rfl .nil) [0]) (fun _=>by kernel_rfl) rfl (by unfold maxLen; omega)) ?_
      intro zzC _
      refine WL.eff (d:=25) rfl rfl rfl (y5f (enc:=e35) (l1:=z1S) (l2:=([(⟨(⟨(((nth zm zs).fBurst).fN),(((nth zm zs).fBurst).fD)⟩ : z2),(⟨(((nth zm zs).fR).fN),(((nth zm zs).fR).fD)⟩ : z2)⟩ : z1)] : List z1)) y2j rfl rfl .h2 (fun _=>rfl) rfl rfl (y65 .here) (y5S y90 _) zsk) ?_
      rintro ⟨zsl,zsm⟩ _
      refine WL.a (d:=3) rfl rfl rfl (q_z rfl) ?_
      refine WL.nil ?_
      refine WX.yn ?_
      exact WX.mid (G:=List z1 × Option Addr × Nat) ⟨(z1S ++ ([(⟨(⟨(((nth zm zs).fBurst).fN),(((nth zm zs).fBurst).fD)⟩ : z2),(⟨(((nth zm zs).fR).fN),(((nth zm zs).fR).fD)⟩ : z2)⟩ : z1)] : List z1)),zsl,zsm⟩ h (.cons rfl (.cons rfl (.cons rfl (.cons rfl (.cons rfl .nil))))) (.cons .here .nil)
     ·replace h:=yk h zjs
      refine WC.skip ?_
      refine WX.yn ?_
      exact WX.mid (G:=List z1 × Option Addr × Nat) ⟨z1S,z3D,z3E⟩ h (.cons rfl (.cons rfl (.cons rfl (.cons rfl (.cons rfl .nil))))) (.cons .h1 .nil)
   ·rintro z8Q zds zdt h
    replace h:=(zsf z8Q).symm.trans h
    refine WC.a ?_
    refine WL.a (d:=26) rfl rfl rfl (y1d rfl rfl rfl) ?_
    refine WL.a (d:=8) rfl rfl rfl (q_m rfl) ?_
    refine WL.nil ?_
    exact WX.round (G:=Nat × List z1 × Int × Option Addr × Nat) ⟨zjn,z8Q,(i64 (zs + 1)),zds,zdt⟩ h (Nat.lt_succ_self _) (.cons rfl (.cons rfl (.cons rfl (.cons rfl (.cons rfl .nil))))) (.cons .here .nil)
  ·replace h:=yk h zjq
   refine WC.exit ?_
   refine WX.ym ?_
   refine WX.ym ?_
   refine WX.yH ?_
   exact WX.mid (G:=List z1 × Option Addr × Nat) ⟨z1S,z3D,z3E⟩ h (.cons rfl .nil) (.cons .here .nil)
 ·rintro z4W z7w z7x h
  replace h:=(zse z4W).symm.trans h
  refine WC.b ?_
  obtain ⟨zgB,zsn,h⟩:=zb h
  refine WC.a ?_
  refine WL.a (d:=27) rfl rfl rfl (q_m rfl) ?_
  refine WL.y6s (dd:=28) rfl rfl rfl (zl (l:=[.tmp 27,.func 63]) Try.call62 (.cons rfl (.cons rfl .nil))) ((.cons .here .nil) : Sel [row (.slice z7w z4W.length z7x) 35 4 (z4W.flatMap e35)] [row (.slice z7w z4W.length z7x) 35 4 (z4W.flatMap e35)] []) (fun w hw=>by have pz:=(hz.call hw ((.cons .here .nil) : Sel [row (.slice z7w z4W.length z7x) 35 4 (z4W.flatMap e35)] [row (.slice z7w z4W.length z7x) 35 4 (z4W.flatMap e35)] [])); exact y42 (Z:=_) (z5a:=z7w) (z5b:=z7x) (zaX:=63) (zdq:=[]) (z2E:=z4W) (zdp:=(fun (y0 : z1) (y1 : z1)=>y3A y0 y1)) (r:=zgB) w pz Try.call63 (fun w' hz' y0 y1  r  hr=>y8r (Z:=_)  (z35:=y0) (z36:=y1) (r:=r) w' hz'  hr) zsn (hw.owns ((.cons .here .nil) : Sel [row (.slice z7w z4W.length z7x) 35 4 (z4W.flatMap e35)] [row (.slice z7w z4W.length z7x) 35 4 (z4W.flatMap e35)] []))) ?_
  rintro  zso
  refine WL.repin (i:=3) rfl (u:=(.slice z7w zgB.length z7x)) (slen zso.symm) ?_
  refine WL.nil ?_
  refine WX.a ?_
  refine WC.b ?_
  refine WC.a ?_
  refine WL.a (d:=29) rfl rfl rfl (q_m rfl) ?_
  refine WL.a (d:=2) rfl rfl rfl (q_z rfl) ?_
  refine WL.nil ?_
  refine WX.a ?_
  refine WC.ret ?_
  obtain rfl:=Option.some.inj h
  refine WX.y9 Try.results48 (.tmp rfl .nil) (fun w hw=>?_)
  exact ⟨z7w,z7x,yI rfl,trivial,hw.sub (.cons .here .nil)⟩
def y3P (za5 : List z1) (za6 : List z1) : Option (List z1 × List z1) :=
 some (za5,za6)
set_option maxRecDepth 20000 in
theorem y8L (Z : Zp)  (zc6 : Option Addr) (zc7 : Nat) (zc8 : Option Addr) (zc9 : Nat) (za5 : List z1) (za6 : List z1) (r : List z1 × List z1) (w₀ : World) (hz : PZ [] w₀ Z)
  (zsp : ZS Z 4 (fun r x=>r = e35 x) zc6 zc7 za5)
  (zsq : ZS Z 4 (fun r x=>r = e35 x) zc8 zc9 za6)
  (h : y3P za5 za6 = some r) :
  Calls Try.prog 76 #[(.slice zc6 za5.length zc7),(.slice zc8 za6.length zc9)] w₀ fun e w'=>∃ zo1 : Nat,∃ zo2 : Nat,∃ zo3 : Option Addr,∃ zo4 : Nat,∃ zo5 : Option Addr,∃ zo6 : Nat,e = .returned (.func (.func 89) #[] #[(.pointer (some ⟨zo1,0,none⟩)),(.pointer (some ⟨zo2,0,none⟩))]) ∧ ((ZS Z 4 (fun r x=>r = e35 x) zo3 zo4 r.1) ∧ (ZS Z 4 (fun r x=>r = e35 x) zo5 zo6 r.2)) ∧ Hp [] w₀ w' [stb zo1 39 [(.slice zo3 r.1.length zo4)],stb zo2 39 [(.slice zo5 r.2.length zo6)]]:=by
 unfold y3P at h
 refine Calls.yg (vs:=[(.slice zc6 za5.length zc7),(.slice zc8 za6.length zc9)]) (pre:=[]) (env:=[(0,(.slice zc6 za5.length zc7)),(1,(.slice zc8 za6.length zc9))]) Try.func76 rfl Try.ntmps76 rfl (Hp.nil w₀ _) rfl ?_
 refine WC.b ?_
 refine WC.a ?_
 refine WL.new (dd:=2) rfl rfl rfl (yK (cs:=[(.slice zc6 za5.length zc7)]) rfl rfl) ?_
 intro zsr _
 refine WL.new (dd:=3) rfl rfl rfl (yK (cs:=[(.slice zc8 za6.length zc9)]) rfl rfl) ?_
 intro zss _
 refine WL.a (d:=4) rfl rfl rfl (q_z rfl) ?_
 refine WL.nil ?_
 refine WX.a ?_
 refine WC.b ?_
 refine WC.a ?_
 refine WL.a (d:=5) rfl rfl rfl (y18 (Eos.caps (l:=[.tmp 2,.tmp 3]) (.cons rfl (.cons rfl .nil)))) ?_
 refine WL.a (d:=4) rfl rfl rfl (q_z rfl) ?_
 refine WL.nil ?_
 refine WX.a ?_
 refine WC.ret ?_
 obtain rfl:=Option.some.inj h
 refine WX.y9 Try.results76 (.tmp rfl .nil) (fun w hw=>?_)
 exact ⟨zsr,zss,zc6,zc7,zc8,zc9,yI rfl,⟨zsp,zsq⟩,hw.sub (.cons .h1 (.cons .here .nil))⟩
end Go.Proofs.Ytakfmdiiehcbdaa

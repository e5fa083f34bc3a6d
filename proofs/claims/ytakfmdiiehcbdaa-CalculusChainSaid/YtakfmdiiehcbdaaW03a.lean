/- A part of this claim's proof: models of functions, walks, plain laws. No conditions. -/
import Derived.Test.YtakfmdiiehcbdaaZSortF
import Derived.Test.YtakfmdiiehcbdaaZFast
import Derived.Test.YtakfmdiiehcbdaaShelf03
import Derived.Test.YtakfmdiiehcbdaaProg
namespace Go.Proofs.Ytakfmdiiehcbdaa
open Go Go.RowKit Sep
set_option linter.all false
set_option maxRecDepth 30000
set_option maxHeartbeats 4000000
def e5 (x : Int) : List Value:=[(.int .u8 x)]
structure Sapi_Sent where
 fTime : Int
 fVL : Int
 fSize : Int
 deriving Inhabited,DecidableEq
def e51 (x : Sapi_Sent) : List Value:=[(.int .i64 x.fTime),(.int .i64 x.fVL),(.int .i64 x.fSize)]
def e3 (x : Int) : List Value:=[(.int .i64 x)]
theorem e3_oc : ∀ x,∀ u ∈ e3 x,u.oneCell' = true:=fun _=>(oc_cons rfl oc_nil)
structure z2 where
 fN : Int
 fD : Int
 deriving Inhabited,DecidableEq
structure S7 where
 fX : Int
 fY : Int
 fSigned : Bool
 fCode : Int
 deriving Inhabited,DecidableEq
structure S13 where
 fMsg : ByteArray
 fAddr : Int
 deriving Inhabited,DecidableEq
structure S27 where
 fF : List Sapi_Sent
 fGap : Int
 deriving Inhabited,DecidableEq
structure z1 where
 fBurst : z2
 fRate : z2
 deriving Inhabited,DecidableEq
def e35 (x : z1) : List Value:=[(.int .i64 x.fBurst.fN),(.int .i64 x.fBurst.fD),(.int .i64 x.fRate.fN),(.int .i64 x.fRate.fD)]
theorem e35_oc : ∀ x,∀ u ∈ e35 x,u.oneCell' = true:=fun _=>(oc_cons rfl (oc_cons rfl (oc_cons rfl (oc_cons rfl oc_nil))))
def p39 (Z : Zp) (r : List Value) (x : List z1) : Prop:=∃ (ao0 : Option Addr) (cap0 : Nat),r = [(.slice ao0 x.length cap0)] ∧ ZS Z 4 (fun r x=>r = e35 x) ao0 cap0 x
theorem p39_mono {Z Z' : Zp} (k : Zle Z Z') {r : List Value} {x : List z1} (h : p39 Z r x) : p39 Z' r x:=by
 obtain ⟨ao0,cap0,hr,h0⟩:=h
 exact ⟨ao0,cap0,hr,h0.mono k⟩
structure Sapi_Server where
 fRate : z2
 fLatency : z2
 deriving Inhabited,DecidableEq
def e30 (x : z2) : List Value:=[(.int .i64 x.fN),(.int .i64 x.fD)]
theorem e30_oc : ∀ x,∀ u ∈ e30 x,u.oneCell' = true:=fun _=>(oc_cons rfl (oc_cons rfl oc_nil))
structure z2j where
 fE : Int
 deriving Inhabited,DecidableEq
structure S62 where
 fL : List (List z1)
 fS : Sapi_Server
 deriving Inhabited,DecidableEq
theorem elT_22 : elT Try.prog 22 5 1 1:=⟨Try.underlying22,⟨Try.t5,_,rfl,rfl,rfl,rfl,rfl⟩,by decide⟩
theorem oneT_5 : oneT Try.prog 5:=oneT_of Try.underlying5 rfl
theorem elT_24 : elT Try.prog 24 51 3 24:=⟨Try.underlying24,⟨Try.t51,_,rfl,rfl,rfl,rfl,rfl⟩,by decide⟩
theorem aggT_51 : aggT Try.prog 51 3:=aggT_of (i:=Try.t51) Try.underlying51 rfl rfl
theorem zeroT_51 : zeroT Try.prog 51 (.agg #[(.int .i64 0),(.int .i64 0),(.int .i64 0)]):=zeroT_of (i:=Try.t51) rfl rfl
theorem sizT_51 : sizT Try.prog 51 3:=sizT_of (i:=Try.t51) rfl
theorem fo_51_0 : fieldOff Try.prog 51 0 0:=fieldOff_of (i:=Try.t3) Try.underlying51 rfl rfl (by decide) rfl
theorem oneT_3 : oneT Try.prog 3:=oneT_of Try.underlying3 rfl
theorem fo_51_2 : fieldOff Try.prog 51 2 2:=fieldOff_of (i:=Try.t3) Try.underlying51 rfl rfl (by decide) rfl
theorem elT_45 : elT Try.prog 45 3 1 8:=⟨Try.underlying45,⟨Try.t3,_,rfl,rfl,rfl,rfl,rfl⟩,by decide⟩
theorem zeroT_30 : zeroT Try.prog 30 (.agg #[(.int .i64 0),(.int .i64 0)]):=zeroT_of (i:=Try.t30) rfl rfl
theorem sizT_30 : sizT Try.prog 30 2:=sizT_of (i:=Try.t30) rfl
theorem aggT_30 : aggT Try.prog 30 2:=aggT_of (i:=Try.t30) Try.underlying30 rfl rfl
theorem zeroT_35 : zeroT Try.prog 35 (.agg #[(.int .i64 0),(.int .i64 0),(.int .i64 0),(.int .i64 0)]):=zeroT_of (i:=Try.t35) rfl rfl
theorem sizT_35 : sizT Try.prog 35 4:=sizT_of (i:=Try.t35) rfl
theorem aggT_35 : aggT Try.prog 35 4:=aggT_of (i:=Try.t35) Try.underlying35 rfl rfl
theorem elT_39 : elT Try.prog 39 35 4 32:=⟨Try.underlying39,⟨Try.t35,_,rfl,rfl,rfl,rfl,rfl⟩,by decide⟩
theorem zeroT_43 : zeroT Try.prog 43 (.agg #[(.int .i64 0),(.int .i64 0),(.int .i64 0),(.int .i64 0)]):=zeroT_of (i:=Try.t43) rfl rfl
theorem sizT_43 : sizT Try.prog 43 4:=sizT_of (i:=Try.t43) rfl
theorem elT_26 : elT Try.prog 26 39 1 24:=⟨Try.underlying26,⟨Try.t39,_,rfl,rfl,rfl,rfl,rfl⟩,by decide⟩
theorem aggT_43 : aggT Try.prog 43 4:=aggT_of (i:=Try.t43) Try.underlying43 rfl rfl
theorem oneT_26 : oneT Try.prog 26:=oneT_of Try.underlying26 rfl
theorem zeroT_79 : zeroT Try.prog 79 (.agg #[(.slice none 0 0),(.int .i64 0),(.int .i64 0),(.int .i64 0),(.int .i64 0),.nilFunc,(.slice none 0 0)]):=zeroT_of (i:=Try.t79) rfl rfl
theorem sizT_79 : sizT Try.prog 79 7:=sizT_of (i:=Try.t79) rfl
theorem fo_79_2 : fieldOff Try.prog 79 2 5:=fieldOff_of (i:=Try.t76) Try.underlying79 rfl rfl (by decide) rfl
theorem sizT_76 : sizT Try.prog 76 1:=sizT_of (i:=Try.t76) rfl
theorem aggT_79 : aggT Try.prog 79 7:=aggT_of (i:=Try.t79) Try.underlying79 rfl rfl
theorem fo_79_0 : fieldOff Try.prog 79 0 0:=fieldOff_of (i:=Try.t26) Try.underlying79 rfl rfl (by decide) rfl
theorem fo_35_0 : fieldOff Try.prog 35 0 0:=fieldOff_of (i:=Try.t30) Try.underlying35 rfl rfl (by decide) rfl
theorem fo_30_1 : fieldOff Try.prog 30 1 1:=fieldOff_of (i:=Try.t3) Try.underlying30 rfl rfl (by decide) rfl
theorem fo_30_0 : fieldOff Try.prog 30 0 0:=fieldOff_of (i:=Try.t3) Try.underlying30 rfl rfl (by decide) rfl
theorem fo_35_1 : fieldOff Try.prog 35 1 2:=fieldOff_of (i:=Try.t30) Try.underlying35 rfl rfl (by decide) rfl
theorem oneT_39 : oneT Try.prog 39:=oneT_of Try.underlying39 rfl
theorem fo_79_1 : fieldOff Try.prog 79 1 1:=fieldOff_of (i:=Try.t43) Try.underlying79 rfl rfl (by decide) rfl
theorem fo_43_0 : fieldOff Try.prog 43 0 0:=fieldOff_of (i:=Try.t30) Try.underlying43 rfl rfl (by decide) rfl
theorem fo_43_1 : fieldOff Try.prog 43 1 2:=fieldOff_of (i:=Try.t30) Try.underlying43 rfl rfl (by decide) rfl
theorem zeroT_98 : zeroT Try.prog 98 (.agg #[(.int .i64 0)]):=zeroT_of (i:=Try.t98) rfl rfl
theorem zeroT_90 : zeroT Try.prog 90 (.agg #[(.int .i64 0)]):=zeroT_of (i:=Try.t90) rfl rfl
theorem zeroT_77 : zeroT Try.prog 77 (.slice none 0 0):=zeroT_of (i:=Try.t77) rfl rfl
theorem eqT_35 : EqT Try.prog 35 e35:=⟨fun u v w=>by
 have i35_10000:=fun (w : World) (a b : Array Value)=>run_equalIn_agg (P:=Try.prog) w 9999 35 a b (by simp [Program.fieldsOf,Try.underlying35]) (by kernel_rfl)
 have i30_9999:=fun (w : World) (a b : Array Value)=>run_equalIn_agg (P:=Try.prog) w 9998 30 a b (by simp [Program.fieldsOf,Try.underlying30]) (by kernel_rfl)
 have i3_9998:=fun (w : World) (a b : Int)=>run_equalIn_int (P:=Try.prog) w 9997 3 .i64 .i64 a b Try.underlying3
 rw [i35_10000]
 simp [Program.fieldsOf,Op.eqFields,part,e35,i35_10000,Try.underlying35,i30_9999,Try.underlying30,i3_9998]
 rcases u with ⟨⟨u1,u2⟩,⟨u3,u4⟩⟩
 rcases v with ⟨⟨v1,v2⟩,⟨v3,v4⟩⟩
 by_cases h1 : u1 = v1 <;> by_cases h2 : u2 = v2 <;> by_cases h3 : u3 = v3 <;> by_cases h4 : u4 = v4 <;> simp [h1,h2,h3,h4],by kernel_rfl⟩
theorem oneT_77 : oneT Try.prog 77:=oneT_of Try.underlying77 rfl
theorem keyT_9 : KeyT Try.prog 9 Value.string:=keyT_str Try.underlying9
theorem zgh : zeroT Try.prog 104 .nilFunc:=zeroT_of (i:=Try.t104) rfl rfl
theorem sizT_3 : sizT Try.prog 3 1:=sizT_of (i:=Try.t3) rfl
theorem fo_90_0 : fieldOff Try.prog 90 0 0:=fieldOff_of (i:=Try.t31) Try.underlying90 rfl rfl (by decide) rfl
theorem oneT_31 : oneT Try.prog 31:=oneT_of Try.underlying31 rfl
theorem sizT_31 : sizT Try.prog 31 1:=sizT_of (i:=Try.t31) rfl
theorem elT_77 : elT Try.prog 77 30 2 16:=⟨Try.underlying77,⟨Try.t30,_,rfl,rfl,rfl,rfl,rfl⟩,by decide⟩
theorem sizT_77 : sizT Try.prog 77 1:=sizT_of (i:=Try.t77) rfl
theorem eqT_30 : EqT Try.prog 30 e30:=⟨fun u v w=>by
 have i30_10000:=fun (w : World) (a b : Array Value)=>run_equalIn_agg (P:=Try.prog) w 9999 30 a b (by simp [Program.fieldsOf,Try.underlying30]) (by kernel_rfl)
 have i3_9999:=fun (w : World) (a b : Int)=>run_equalIn_int (P:=Try.prog) w 9998 3 .i64 .i64 a b Try.underlying3
 rw [i30_10000]
 simp [Program.fieldsOf,Op.eqFields,part,e30,i30_10000,Try.underlying30,i3_9999]
 rcases u with ⟨u1,u2⟩
 rcases v with ⟨v1,v2⟩
 by_cases h1 : u1 = v1 <;> by_cases h2 : u2 = v2 <;> simp [h1,h2],by kernel_rfl⟩
theorem fldT_35_1 : fldT Try.prog 35 1 2 30:=fldT_of Try.underlying35 rfl rfl rfl
theorem fo_98_0 : fieldOff Try.prog 98 0 0:=fieldOff_of (i:=Try.t31) Try.underlying98 rfl rfl (by decide) rfl
theorem fo_79_3 : fieldOff Try.prog 79 3 6:=fieldOff_of (i:=Try.t77) Try.underlying79 rfl rfl (by decide) rfl
theorem oneT_76 : oneT Try.prog 76:=oneT_of Try.underlying76 rfl
def m_calculus_frames_L2 (zS : List Sapi_Sent) (z9E : Option Bool) : Nat → Int → Option Bool
 | 0,_=>none
 | zif + 1,zU=>if decide (zU < ((zS.length : Nat) : Int)) then chk ((0 : Int) ≤ zU ∧ zU < ((zS.length : Nat) : Int)) (chk (((((decide (((nth zS zU).fTime) < 0)) || (decide (((nth zS zU).fTime) > 1073741824))) || (decide (((nth zS zU).fSize) < 1))) || (decide (((nth zS zU).fSize) > 72))) = false → ((decide (zU > 0)) = true → ((0 : Int) ≤ (i64 (zU - 1)) ∧ (i64 (zU - 1)) < ((zS.length : Nat) : Int)))) (if ((((decide (((nth zS zU).fTime) < 0)) || (decide (((nth zS zU).fTime) > 1073741824))) || (decide (((nth zS zU).fSize) < 1))) || (decide (((nth zS zU).fSize) > 72))) || ((decide (zU > 0)) && (decide (((nth zS (i64 (zU - 1))).fTime) > ((nth zS zU).fTime)))) then some false else m_calculus_frames_L2 zS z9E zif (i64 (zU + 1)))) else z9E
theorem m_calculus_frames_L2_fuel {n : Nat} {zS : List Sapi_Sent} {z9E : Option Bool} {zU : Int} {r : Bool} (h : m_calculus_frames_L2 zS z9E n zU = some r) : ∃ m,n = m + 1:=by
 cases n with
 | zero=>cases h
 | succ m=>exact ⟨m,rfl⟩
def m_calculus_frames (zS : List Sapi_Sent) : Option Bool :=
 jp0 (some (decide (((zS.length : Nat) : Int) ≤ 4000))) fun z9E=>m_calculus_frames_L2 zS z9E FUEL 0
set_option maxRecDepth 20000 in
theorem w_calculus_frames (Z : Zp)  (z5E : Option Addr) (z5F : Nat) (zS : List Sapi_Sent) (r : Bool) (w₀ : World) (hz : PZ [] w₀ Z)
  (zni : ZS Z 3 (fun r x=>r = e51 x) z5E z5F zS)
  (h : m_calculus_frames zS = some r) :
  Calls Try.prog 31 #[(.slice z5E zS.length z5F)] w₀ fun e w'=>e = .returned (.bool r) ∧ Hp [] w₀ w' []:=by
 unfold m_calculus_frames at h
 refine Calls.ofWC (vs:=[(.slice z5E zS.length z5F)]) (pre:=[]) (env:=[(0,(.slice z5E zS.length z5F))]) Try.func31 rfl Try.ntmps31 rfl (Hp.nil w₀ _) rfl ?_
 refine WC.b ?_
 refine WC.a ?_
 refine WL.a (d:=2) rfl rfl rfl (q_z rfl) ?_
 refine WL.nil ?_
 refine WX.a ?_
 obtain ⟨z9E,zri,h⟩:=jp0_elim h
 refine WC.seqMid0 ((z9E = some r)) ([(0,(.slice z5E zS.length z5F))]) ([]) ?_ ?_
 ·skip
  refine WC.b ?_
  refine WC.a ?_
  refine WL.a (d:=5) rfl rfl rfl (q_m rfl) ?_
  refine WL.a (d:=6) rfl rfl rfl (q_len Try.underlying24 rfl) ?_
  refine WL.a (d:=7) rfl rfl rfl (q_m rfl) ?_
  refine WL.nil ?_
  refine WX.a ?_
  refine WC.block ?_
  refine WC.loop2 (fun (zd3 : Nat) (zU : Int)=>(m_calculus_frames_L2 zS z9E zd3 zU = some r)) (fun (zd3 : Nat) (zU : Int)=>[(0,(.slice z5E zS.length z5F)),(5,(.slice z5E zS.length z5F)),(6,(.int .i64 ((zS.length : Nat) : Int))),(7,(.int .i64 zU))]) (fun (zd3 : Nat) (zU : Int)=>[]) (fun (zd3 : Nat) (zU : Int)=>zd3) ⟨FUEL,0⟩ h (.cons rfl (.cons rfl (.cons rfl (.cons rfl .nil)))) .nil ?_
  rintro zd3 zU h
  obtain ⟨zif,rfl⟩:=m_calculus_frames_L2_fuel h
  rw [m_calculus_frames_L2] at h
  refine WC.b ?_
  refine WC.a ?_
  refine WL.a (d:=8) rfl rfl rfl (q_lss rfl rfl) ?_
  refine WL.nil ?_
  refine WX.a ?_
  refine WC.b ?_
  refine WC.cond rfl (fun zig=>?_) (fun zig=>?_)
  ·replace h:=ite_t h zig
   refine WC.skip ?_
   refine WX.a ?_
   refine WC.b ?_
   refine WC.block ?_
   refine WC.b ?_
   obtain ⟨zrj,h⟩:=chk_elim h
   refine WC.a ?_
   refine WL.a (d:=9) rfl rfl rfl (q_m rfl) ?_
   refine WL.znth (dd:=10) rfl rfl (Z:=Z) (Pr:=(fun r x=>r = e51 x)) elT_24 rfl rfl zni zrj ?_
   rintro zze zzf zrk zzg rfl
   refine WL.a (d:=11) rfl rfl rfl (q_loadA (cs:=[(.int .i64 ((nth zS zU).fTime)),(.int .i64 ((nth zS zU).fVL)),(.int .i64 ((nth zS zU).fSize))]) aggT_51 rfl rfl (rd_zs hz.pv zrk)) ?_
   refine WL.new (dd:=4) rfl rfl rfl (e_alloc (cs:=[(.int .i64 0),(.int .i64 0),(.int .i64 0)]) zeroT_51 rfl) ?_
   intro zih _
   refine WL.a (d:=3) rfl rfl rfl (q_z rfl) ?_
   refine WL.eff0 rfl rfl (e_store (vs:=[(.int .i64 ((nth zS zU).fTime)),(.int .i64 ((nth zS zU).fVL)),(.int .i64 ((nth zS zU).fSize))]) (ds:=[(.int .i64 ((nth zS zU).fTime)),(.int .i64 ((nth zS zU).fVL)),(.int .i64 ((nth zS zU).fSize))]) sizT_51 rfl rfl rfl rfl (oc_cons rfl (oc_cons rfl (oc_cons rfl oc_nil))) .here (Nat.le_of_ble_eq_true rfl) rfl) ?_
   refine WL.nil ?_
   refine WX.a ?_
   refine WC.b ?_
   obtain ⟨zrl,h⟩:=chk_elim h
   refine WC.draw (fun i=>[].contains i) [] rfl ?_
   refine WD.a (i:=0) (d:=12) (by kernel_rfl) rfl (z6 (by kernel_rfl)) (z7 (by kernel_rfl)) rfl rfl rfl (fun _=>q_fieldAddr fo_51_0 rfl rfl) ?_
   refine WD.e (i:=1) (d:=13) (by kernel_rfl) rfl (z6 (by kernel_rfl)) (z7 (by kernel_rfl)) rfl rfl rfl (q_load1 oneT_3 rfl (rd_stb .here rfl)) ?_
   refine WD.a (i:=2) (d:=14) (by kernel_rfl) rfl (z6 (by kernel_rfl)) (z7 (by kernel_rfl)) rfl rfl rfl (fun _=>q_lss rfl rfl) ?_
   refine WD.a (i:=3) (d:=15) (by kernel_rfl) rfl (z6 (by kernel_rfl)) (z7 (by kernel_rfl)) rfl rfl rfl (fun _=>q_m rfl) ?_
   refine WD.mid (fuel':=25) [(0,(.slice z5E zS.length z5F)),(5,(.slice z5E zS.length z5F)),(6,(.int .i64 ((zS.length : Nat) : Int))),(7,(.int .i64 zU)),(4,(.pointer (some ⟨zih,0,none⟩))),(3,(.int .i64 zU)),(15,(.bool (decide (((nth zS zU).fTime) < 0)))),(19,(.bool ((decide (((nth zS zU).fTime) < 0)) || (decide (((nth zS zU).fTime) > 1073741824)))))] (listedA 33 [7,6,5,4,3,2,1,0]) ?_ (fun znj=>?_)
   rotate_left
   ·rcases Bool.eq_false_or_eq_true (decide (((nth zS zU).fTime) < 0)) with hb' | hb'
    ·have zii:=hb'; clear hb'
     refine WD.pin (i:=15) rfl zii ?_
     refine WD.b (i:=4) (d:=16) (by kernel_rfl) rfl (z6 (by kernel_rfl)) (z7 (by kernel_rfl)) rfl rfl rfl ?_
     refine WD.b (i:=5) (d:=17) (by kernel_rfl) rfl (z6 (by kernel_rfl)) (z7 (by kernel_rfl)) rfl rfl rfl ?_
     refine WD.b (i:=6) (d:=18) (by kernel_rfl) rfl (z6 (by kernel_rfl)) (z7 (by kernel_rfl)) rfl rfl rfl ?_
     refine WD.a (i:=7) (d:=19) (by kernel_rfl) rfl (z6 (by kernel_rfl)) (z7 (by kernel_rfl)) rfl rfl rfl (fun _=>q_pickT rfl rfl) ?_
     refine WD.reL (.cons .here .nil) ?_ znj
     exact (.cons rfl (.cons rfl (.cons rfl (.cons rfl (.cons rfl (.cons rfl (.cons (zr (Eq.symm zii)) (.cons (zr (or_l zii)) .nil))))))))
    ·have zij:=hb'; clear hb'
     refine WD.pin (i:=15) rfl zij ?_
     refine WD.a (i:=4) (d:=16) (by kernel_rfl) rfl (z6 (by kernel_rfl)) (z7 (by kernel_rfl)) rfl rfl rfl (fun _=>q_fieldAddr fo_51_0 rfl rfl) ?_
     refine WD.e (i:=5) (d:=17) (by kernel_rfl) rfl (z6 (by kernel_rfl)) (z7 (by kernel_rfl)) rfl rfl rfl (q_load1 oneT_3 rfl (rd_stb .here rfl)) ?_
     refine WD.a (i:=6) (d:=18) (by kernel_rfl) rfl (z6 (by kernel_rfl)) (z7 (by kernel_rfl)) rfl rfl rfl (fun _=>q_gtr rfl rfl) ?_
     refine WD.a (i:=7) (d:=19) (by kernel_rfl) rfl (z6 (by kernel_rfl)) (z7 (by kernel_rfl)) rfl rfl rfl (fun _=>q_pickF rfl rfl) ?_
     refine WD.reL (.cons .here .nil) ?_ znj
     exact (.cons rfl (.cons rfl (.cons rfl (.cons rfl (.cons rfl (.cons rfl (.cons (zr (Eq.symm zij)) (.cons (zr (or_r zij)) .nil))))))))
   refine WD.d #[true,true,true,true,true,true,true,true,false,false,false,false,false,false,false,false,false,false,false,false,false,false,false,false,false,false,false,false,false,false,false,false,false] (by kernel_rfl) ?_
   refine WD.a (i:=8) (d:=20) (by kernel_rfl) rfl (z6 (by kernel_rfl)) (z7 (by kernel_rfl)) rfl rfl rfl (fun _=>q_m rfl) ?_
   refine WD.mid (fuel':=20) [(0,(.slice z5E zS.length z5F)),(5,(.slice z5E zS.length z5F)),(6,(.int .i64 ((zS.length : Nat) : Int))),(7,(.int .i64 zU)),(4,(.pointer (some ⟨zih,0,none⟩))),(3,(.int .i64 zU)),(20,(.bool ((decide (((nth zS zU).fTime) < 0)) || (decide (((nth zS zU).fTime) > 1073741824))))),(24,(.bool (((decide (((nth zS zU).fTime) < 0)) || (decide (((nth zS zU).fTime) > 1073741824))) || (decide (((nth zS zU).fSize) < 1)))))] (listedA 33 [12,11,10,9,8,7,6,5,4,3,2,1,0]) ?_ (fun znk=>?_)
   rotate_left
   ·rcases Bool.eq_false_or_eq_true ((decide (((nth zS zU).fTime) < 0)) || (decide (((nth zS zU).fTime) > 1073741824))) with hb' | hb'
    ·have zik:=hb'; clear hb'
     refine WD.pin (i:=20) rfl zik ?_
     refine WD.b (i:=9) (d:=21) (by kernel_rfl) rfl (z6 (by kernel_rfl)) (z7 (by kernel_rfl)) rfl rfl rfl ?_
     refine WD.b (i:=10) (d:=22) (by kernel_rfl) rfl (z6 (by kernel_rfl)) (z7 (by kernel_rfl)) rfl rfl rfl ?_
     refine WD.b (i:=11) (d:=23) (by kernel_rfl) rfl (z6 (by kernel_rfl)) (z7 (by kernel_rfl)) rfl rfl rfl ?_
     refine WD.a (i:=12) (d:=24) (by kernel_rfl) rfl (z6 (by kernel_rfl)) (z7 (by kernel_rfl)) rfl rfl rfl (fun _=>q_pickT rfl rfl) ?_
     refine WD.reL (.cons .here .nil) ?_ znk
     exact (.cons rfl (.cons rfl (.cons rfl (.cons rfl (.cons rfl (.cons rfl (.cons (zr (Eq.symm zik)) (.cons (zr (or_l zik)) .nil))))))))
    ·have zil:=hb'; clear hb'
     refine WD.pin (i:=20) rfl zil ?_
     refine WD.a (i:=9) (d:=21) (by kernel_rfl) rfl (z6 (by kernel_rfl)) (z7 (by kernel_rfl)) rfl rfl rfl (fun _=>q_fieldAddr fo_51_2 rfl rfl) ?_
     refine WD.e (i:=10) (d:=22) (by kernel_rfl) rfl (z6 (by kernel_rfl)) (z7 (by kernel_rfl)) rfl rfl rfl (q_load1 oneT_3 rfl (rd_stb .here rfl)) ?_
     refine WD.a (i:=11) (d:=23) (by kernel_rfl) rfl (z6 (by kernel_rfl)) (z7 (by kernel_rfl)) rfl rfl rfl (fun _=>q_lss rfl rfl) ?_
     refine WD.a (i:=12) (d:=24) (by kernel_rfl) rfl (z6 (by kernel_rfl)) (z7 (by kernel_rfl)) rfl rfl rfl (fun _=>q_pickF rfl rfl) ?_
     refine WD.reL (.cons .here .nil) ?_ znk
     exact (.cons rfl (.cons rfl (.cons rfl (.cons rfl (.cons rfl (.cons rfl (.cons (zr (Eq.symm zil)) (.cons (zr (or_r zil)) .nil))))))))
   refine WD.d #[true,true,true,true,true,true,true,true,true,true,true,true,true,false,false,false,false,false,false,false,false,false,false,false,false,false,false,false,false,false,false,false,false] (by kernel_rfl) ?_
   refine WD.a (i:=13) (d:=25) (by kernel_rfl) rfl (z6 (by kernel_rfl)) (z7 (by kernel_rfl)) rfl rfl rfl (fun _=>q_m rfl) ?_
   refine WD.mid (fuel':=15) [(0,(.slice z5E zS.length z5F)),(5,(.slice z5E zS.length z5F)),(6,(.int .i64 ((zS.length : Nat) : Int))),(7,(.int .i64 zU)),(4,(.pointer (some ⟨zih,0,none⟩))),(3,(.int .i64 zU)),(25,(.bool (((decide (((nth zS zU).fTime) < 0)) || (decide (((nth zS zU).fTime) > 1073741824))) || (decide (((nth zS zU).fSize) < 1))))),(29,(.bool ((((decide (((nth zS zU).fTime) < 0)) || (decide (((nth zS zU).fTime) > 1073741824))) || (decide (((nth zS zU).fSize) < 1))) || (decide (((nth zS zU).fSize) > 72)))))] (listedA 33 [17,16,15,14,13,12,11,10,9,8,7,6,5,4,3,2,1,0]) ?_ (fun znl=>?_)
   rotate_left
   ·rcases Bool.eq_false_or_eq_true (((decide (((nth zS zU).fTime) < 0)) || (decide (((nth zS zU).fTime) > 1073741824))) || (decide (((nth zS zU).fSize) < 1))) with hb' | hb'
    ·have zim:=hb'; clear hb'
     refine WD.pin (i:=25) rfl zim ?_
     refine WD.b (i:=14) (d:=26) (by kernel_rfl) rfl (z6 (by kernel_rfl)) (z7 (by kernel_rfl)) rfl rfl rfl ?_
     refine WD.b (i:=15) (d:=27) (by kernel_rfl) rfl (z6 (by kernel_rfl)) (z7 (by kernel_rfl)) rfl rfl rfl ?_
     refine WD.b (i:=16) (d:=28) (by kernel_rfl) rfl (z6 (by kernel_rfl)) (z7 (by kernel_rfl)) rfl rfl rfl ?_
     refine WD.a (i:=17) (d:=29) (by kernel_rfl) rfl (z6 (by kernel_rfl)) (z7 (by kernel_rfl)) rfl rfl rfl (fun _=>q_pickT rfl rfl) ?_
     refine WD.reL (.cons .here .nil) ?_ znl
     exact (.cons rfl (.cons rfl (.cons rfl (.cons rfl (.cons rfl (.cons rfl (.cons (zr (Eq.symm zim)) (.cons (zr (or_l zim)) .nil))))))))
    ·have zin:=hb'; clear hb'
     refine WD.pin (i:=25) rfl zin ?_
     refine WD.a (i:=14) (d:=26) (by kernel_rfl) rfl (z6 (by kernel_rfl)) (z7 (by kernel_rfl)) rfl rfl rfl (fun _=>q_fieldAddr fo_51_2 rfl rfl) ?_
     refine WD.e (i:=15) (d:=27) (by kernel_rfl) rfl (z6 (by kernel_rfl)) (z7 (by kernel_rfl)) rfl rfl rfl (q_load1 oneT_3 rfl (rd_stb .here rfl)) ?_
     refine WD.a (i:=16) (d:=28) (by kernel_rfl) rfl (z6 (by kernel_rfl)) (z7 (by kernel_rfl)) rfl rfl rfl (fun _=>q_gtr rfl rfl) ?_
     refine WD.a (i:=17) (d:=29) (by kernel_rfl) rfl (z6 (by kernel_rfl)) (z7 (by kernel_rfl)) rfl rfl rfl (fun _=>q_pickF rfl rfl) ?_
     refine WD.reL (.cons .here .nil) ?_ znl
     exact (.cons rfl (.cons rfl (.cons rfl (.cons rfl (.cons rfl (.cons rfl (.cons (zr (Eq.symm zin)) (.cons (zr (or_r zin)) .nil))))))))
   refine WD.d #[true,true,true,true,true,true,true,true,true,true,true,true,true,true,true,true,true,true,false,false,false,false,false,false,false,false,false,false,false,false,false,false,false] (by kernel_rfl) ?_
   refine WD.a (i:=18) (d:=30) (by kernel_rfl) rfl (z6 (by kernel_rfl)) (z7 (by kernel_rfl)) rfl rfl rfl (fun _=>q_m rfl) ?_
   refine WD.mid (fuel':=0) [(0,(.slice z5E zS.length z5F)),(5,(.slice z5E zS.length z5F)),(6,(.int .i64 ((zS.length : Nat) : Int))),(7,(.int .i64 zU)),(30,(.bool ((((decide (((nth zS zU).fTime) < 0)) || (decide (((nth zS zU).fTime) > 1073741824))) || (decide (((nth zS zU).fSize) < 1))) || (decide (((nth zS zU).fSize) > 72))))),(44,(.bool (((((decide (((nth zS zU).fTime) < 0)) || (decide (((nth zS zU).fTime) > 1073741824))) || (decide (((nth zS zU).fSize) < 1))) || (decide (((nth zS zU).fSize) > 72))) || ((decide (zU > 0)) && (decide (((nth zS (i64 (zU - 1))).fTime) > ((nth zS zU).fTime)))))))] (listedA 33 [32,31,30,29,28,27,26,25,24,23,22,21,20,19,18,17,16,15,14,13,12,11,10,9,8,7,6,5,4,3,2,1,0]) ?_ (fun znm=>?_)
   rotate_left
   ·rcases Bool.eq_false_or_eq_true ((((decide (((nth zS zU).fTime) < 0)) || (decide (((nth zS zU).fTime) > 1073741824))) || (decide (((nth zS zU).fSize) < 1))) || (decide (((nth zS zU).fSize) > 72))) with hb' | hb'
    ·have zio:=hb'; clear hb'
     refine WD.pin (i:=30) rfl zio ?_
     refine WD.b (i:=19) (d:=31) (by kernel_rfl) rfl (z6 (by kernel_rfl)) (z7 (by kernel_rfl)) rfl rfl rfl ?_
     refine WD.b (i:=20) (d:=32) (by kernel_rfl) rfl (z6 (by kernel_rfl)) (z7 (by kernel_rfl)) rfl rfl rfl ?_
     refine WD.b (i:=21) (d:=33) (by kernel_rfl) rfl (z6 (by kernel_rfl)) (z7 (by kernel_rfl)) rfl rfl rfl ?_
     refine WD.b (i:=22) (d:=34) (by kernel_rfl) rfl (z6 (by kernel_rfl)) (z7 (by kernel_rfl)) rfl rfl rfl ?_
     refine WD.b (i:=23) (d:=35) (by kernel_rfl) rfl (z6 (by kernel_rfl)) (z7 (by kernel_rfl)) rfl rfl rfl ?_
     refine WD.b (i:=24) (d:=36) (by kernel_rfl) rfl (z6 (by kernel_rfl)) (z7 (by kernel_rfl)) rfl rfl rfl ?_
     refine WD.b (i:=25) (d:=37) (by kernel_rfl) rfl (z6 (by kernel_rfl)) (z7 (by kernel_rfl)) rfl rfl rfl ?_
     refine WD.b (i:=26) (d:=38) (by kernel_rfl) rfl (z6 (by kernel_rfl)) (z7 (by kernel_rfl)) rfl rfl rfl ?_
     refine WD.b (i:=27) (d:=39) (by kernel_rfl) rfl (z6 (by kernel_rfl)) (z7 (by kernel_rfl)) rfl rfl rfl ?_
     refine WD.b (i:=28) (d:=40) (by kernel_rfl) rfl (z6 (by kernel_rfl)) (z7 (by kernel_rfl)) rfl rfl rfl ?_
     refine WD.b (i:=29) (d:=41) (by kernel_rfl) rfl (z6 (by kernel_rfl)) (z7 (by kernel_rfl)) rfl rfl rfl ?_
     refine WD.b (i:=30) (d:=42) (by kernel_rfl) rfl (z6 (by kernel_rfl)) (z7 (by kernel_rfl)) rfl rfl rfl ?_
     refine WD.b (i:=31) (d:=43) (by kernel_rfl) rfl (z6 (by kernel_rfl)) (z7 (by kernel_rfl)) rfl rfl rfl ?_
     refine WD.a (i:=32) (d:=44) (by kernel_rfl) rfl (z6 (by kernel_rfl)) (z7 (by kernel_rfl)) rfl rfl rfl (fun _=>q_pickT rfl rfl) ?_
     refine WD.reL (.cons .here .nil) ?_ znm
     exact (.cons rfl (.cons rfl (.cons rfl (.cons rfl (.cons (zr (Eq.symm zio)) (.cons (zr (or_l zio)) .nil))))))
    ·have zgi:=hb'; clear hb'
     have zrm:=zrl zgi
     refine WD.pin (i:=30) rfl zgi ?_
     refine WD.a (i:=19) (d:=31) (by kernel_rfl) rfl (z6 (by kernel_rfl)) (z7 (by kernel_rfl)) rfl rfl rfl (fun _=>q_m rfl) ?_
     refine WD.a (i:=20) (d:=32) (by kernel_rfl) rfl (z6 (by kernel_rfl)) (z7 (by kernel_rfl)) rfl rfl rfl (fun _=>q_gtr rfl rfl) ?_
     refine WD.a (i:=21) (d:=33) (by kernel_rfl) rfl (z6 (by kernel_rfl)) (z7 (by kernel_rfl)) rfl rfl rfl (fun _=>q_m rfl) ?_
     refine WD.mid (fuel':=1) [(0,(.slice z5E zS.length z5F)),(5,(.slice z5E zS.length z5F)),(6,(.int .i64 ((zS.length : Nat) : Int))),(7,(.int .i64 zU)),(30,(.bool false)),(33,(.bool (decide (zU > 0)))),(43,(.bool ((decide (zU > 0)) && (decide (((nth zS (i64 (zU - 1))).fTime) > ((nth zS zU).fTime))))))] (listedA 33 [31,30,29,28,27,26,25,24,23,22,21,20,19,18,17,16,15,14,13,12,11,10,9,8,7,6,5,4,3,2,1,0]) ?_ (fun znn=>?_)
     rotate_left
     ·rcases Bool.eq_false_or_eq_true (decide (zU > 0)) with hb' | hb'
      ·have zgj:=hb'; clear hb'
       have zrn:=zrm zgj
       refine WD.pin (i:=33) rfl zgj ?_
       refine WD.a (i:=22) (d:=34) (by kernel_rfl) rfl (z6 (by kernel_rfl)) (z7 (by kernel_rfl)) rfl rfl rfl (fun _=>q_m rfl) ?_
       refine WD.a (i:=23) (d:=35) (by kernel_rfl) rfl (z6 (by kernel_rfl)) (z7 (by kernel_rfl)) rfl rfl rfl (fun _=>q_m rfl) ?_
       refine WD.a (i:=24) (d:=36) (by kernel_rfl) rfl (z6 (by kernel_rfl)) (z7 (by kernel_rfl)) rfl rfl rfl (fun _=>q_sub rfl rfl rfl) ?_
       refine WD.znth (j:=25) (dd:=37) (by kernel_rfl) rfl (z6 (by kernel_rfl)) (z7 (by kernel_rfl)) rfl rfl (Z:=Z) (Pr:=(fun r x=>r = e51 x)) elT_24 rfl rfl zni zrn ?_
       rintro zzh zzi zro zzj rfl
       refine WD.a (i:=26) (d:=38) (by kernel_rfl) rfl (z6 (by kernel_rfl)) (z7 (by kernel_rfl)) rfl rfl rfl (fun _=>q_fieldAddr fo_51_0 rfl rfl) ?_
       refine WD.e (i:=27) (d:=39) (by kernel_rfl) rfl (z6 (by kernel_rfl)) (z7 (by kernel_rfl)) rfl rfl rfl (q_load1 oneT_3 rfl (rd_zAt hz.pv zro rfl)) ?_
       refine WD.a (i:=28) (d:=40) (by kernel_rfl) rfl (z6 (by kernel_rfl)) (z7 (by kernel_rfl)) rfl rfl rfl (fun _=>q_fieldAddr fo_51_0 rfl rfl) ?_
       refine WD.e (i:=29) (d:=41) (by kernel_rfl) rfl (z6 (by kernel_rfl)) (z7 (by kernel_rfl)) rfl rfl rfl (q_load1 oneT_3 rfl (rd_stb .here rfl)) ?_
       refine WD.a (i:=30) (d:=42) (by kernel_rfl) rfl (z6 (by kernel_rfl)) (z7 (by kernel_rfl)) rfl rfl rfl (fun _=>q_gtr rfl rfl) ?_
       refine WD.a (i:=31) (d:=43) (by kernel_rfl) rfl (z6 (by kernel_rfl)) (z7 (by kernel_rfl)) rfl rfl rfl (fun _=>q_pickT rfl rfl) ?_
       refine WD.reL (.cons .here .nil) ?_ znn
       exact (.cons rfl (.cons rfl (.cons rfl (.cons rfl (.cons rfl (.cons (zr (Eq.symm zgj)) (.cons (zr (and_r zgj)) .nil)))))))
      ·have ziq:=hb'; clear hb'
       refine WD.pin (i:=33) rfl ziq ?_
       refine WD.b (i:=22) (d:=34) (by kernel_rfl) rfl (z6 (by kernel_rfl)) (z7 (by kernel_rfl)) rfl rfl rfl ?_
       refine WD.b (i:=23) (d:=35) (by kernel_rfl) rfl (z6 (by kernel_rfl)) (z7 (by kernel_rfl)) rfl rfl rfl ?_
       refine WD.b (i:=24) (d:=36) (by kernel_rfl) rfl (z6 (by kernel_rfl)) (z7 (by kernel_rfl)) rfl rfl rfl ?_
       refine WD.b (i:=25) (d:=37) (by kernel_rfl) rfl (z6 (by kernel_rfl)) (z7 (by kernel_rfl)) rfl rfl rfl ?_
       refine WD.b (i:=26) (d:=38) (by kernel_rfl) rfl (z6 (by kernel_rfl)) (z7 (by kernel_rfl)) rfl rfl rfl ?_
       refine WD.b (i:=27) (d:=39) (by kernel_rfl) rfl (z6 (by kernel_rfl)) (z7 (by kernel_rfl)) rfl rfl rfl ?_
       refine WD.b (i:=28) (d:=40) (by kernel_rfl) rfl (z6 (by kernel_rfl)) (z7 (by kernel_rfl)) rfl rfl rfl ?_
       refine WD.b (i:=29) (d:=41) (by kernel_rfl) rfl (z6 (by kernel_rfl)) (z7 (by kernel_rfl)) rfl rfl rfl ?_
       refine WD.b (i:=30) (d:=42) (by kernel_rfl) rfl (z6 (by kernel_rfl)) (z7 (by kernel_rfl)) rfl rfl rfl ?_
       refine WD.a (i:=31) (d:=43) (by kernel_rfl) rfl (z6 (by kernel_rfl)) (z7 (by kernel_rfl)) rfl rfl rfl (fun _=>q_pickF rfl rfl) ?_
       refine WD.reL (.cons .here .nil) ?_ znn
       exact (.cons rfl (.cons rfl (.cons rfl (.cons rfl (.cons rfl (.cons (zr (Eq.symm ziq)) (.cons (zr (and_l ziq)) .nil)))))))
     refine WD.d #[true,true,true,true,true,true,true,true,true,true,true,true,true,true,true,true,true,true,true,true,true,true,true,true,true,true,true,true,true,true,true,true,false] (by kernel_rfl) ?_
     refine WD.a (i:=32) (d:=44) (by kernel_rfl) rfl (z6 (by kernel_rfl)) (z7 (by kernel_rfl)) rfl rfl rfl (fun _=>q_pickF rfl rfl) ?_
     refine WD.reL (.cons .here .nil) ?_ znm
     exact (.cons rfl (.cons rfl (.cons rfl (.cons rfl (.cons (zr (Eq.symm zgi)) (.cons (zr (or_r zgi)) .nil))))))
   refine WD.d #[true,true,true,true,true,true,true,true,true,true,true,true,true,true,true,true,true,true,true,true,true,true,true,true,true,true,true,true,true,true,true,true,true] (by kernel_rfl) ?_
   refine WD.done (by kernel_rfl) ?_
   refine WX.a ?_
   refine WC.cond rfl (fun zir=>?_) (fun zir=>?_)
   ·replace h:=ite_t h zir
    refine WC.b ?_
    refine WC.a ?_
    refine WL.a (d:=2) rfl rfl rfl (q_z rfl) ?_
    refine WL.nil ?_
    refine WX.a ?_
    refine WC.ret ?_
    refine WX.blockRet ?_
    refine WX.thenRet ?_
    refine WX.thenRet ?_
    refine WX.blockRet ?_
    refine WX.thenRet ?_
    obtain rfl:=Option.some.inj h
    refine WX.bpRet Try.results31 (.tmp rfl .nil) (fun w hw=>?_)
    exact ⟨ret1 rfl,hw.sub .nil⟩
   ·replace h:=ite_f h zir
    refine WC.skip ?_
    refine WX.blockNormal ?_
    refine WX.a ?_
    refine WC.a ?_
    refine WL.a (d:=45) rfl rfl rfl (q_add rfl rfl rfl) ?_
    refine WL.a (d:=7) rfl rfl rfl (q_m rfl) ?_
    refine WL.nil ?_
    exact WX.round (G:=Nat × Int) ⟨zif,(i64 (zU + 1))⟩ h (Nat.lt_succ_self _) (.cons rfl (.cons rfl (.cons rfl (.cons rfl .nil)))) .nil
  ·replace h:=ite_f h zig
   refine WC.exit ?_
   refine WX.thenExit ?_
   refine WX.thenExit ?_
   refine WX.blockHit ?_
   exact WX.mid (G:=Unit) () h (.cons rfl .nil) .nil
 ·rintro  h
  replace h:=zri.symm.trans h
  refine WC.b ?_
  refine WC.a ?_
  refine WL.a (d:=46) rfl rfl rfl (q_m rfl) ?_
  refine WL.a (d:=47) rfl rfl rfl (q_len Try.underlying24 rfl) ?_
  refine WL.a (d:=48) rfl rfl rfl (q_leq rfl rfl) ?_
  refine WL.a (d:=2) rfl rfl rfl (q_z rfl) ?_
  refine WL.nil ?_
  refine WX.a ?_
  refine WC.ret ?_
  obtain rfl:=Option.some.inj h
  refine WX.bpRet Try.results31 (.tmp rfl .nil) (fun w hw=>?_)
  exact ⟨ret1 rfl,hw.sub .nil⟩
def m_calculus_Serve_L2 (z2k : List Sapi_Sent) (z3r : Int) (z2S : Int) (z9F : (List Int) → Option (List Int × Int)) : Nat → (List Int) → Int → Int → Option (List Int × Int)
 | 0,_,_,_=>none
 | zis + 1,z62,z6y,z2T=>if decide (z2T < ((z2k.length : Nat) : Int)) then chk ((0 : Int) ≤ z2T ∧ z2T < ((z2k.length : Nat) : Int)) (chk ((((z62 ++ ([i64 ((max z6y (i64 (((nth z2k z2T).fTime) + z3r))) + (i64 (((nth z2k z2T).fSize) * z2S)))] : List Int)).length : Nat) : Int) * 8 ≤ 140737488355328 ∧ (((z62 ++ ([i64 ((max z6y (i64 (((nth z2k z2T).fTime) + z3r))) + (i64 (((nth z2k z2T).fSize) * z2S)))] : List Int)).length : Nat) : Int) ≤ 4611686018427387904) (m_calculus_Serve_L2 z2k z3r z2S z9F zis (z62 ++ ([i64 ((max z6y (i64 (((nth z2k z2T).fTime) + z3r))) + (i64 (((nth z2k z2T).fSize) * z2S)))] : List Int)) (i64 ((max z6y (i64 (((nth z2k z2T).fTime) + z3r))) + (i64 (((nth z2k z2T).fSize) * z2S)))) (i64 (z2T + 1)))) else z9F z62
theorem m_calculus_Serve_L2_fuel {n : Nat} {z2k : List Sapi_Sent} {z3r : Int} {z2S : Int} {z9F : (List Int) → Option (List Int × Int)} {z62 : List Int} {z6y : Int} {z2T : Int} {r : List Int × Int} (h : m_calculus_Serve_L2 z2k z3r z2S z9F n z62 z6y z2T = some r) : ∃ m,n = m + 1:=by
 cases n with
 | zero=>cases h
 | succ m=>exact ⟨m,rfl⟩
def m_calculus_Serve (z2k : List Sapi_Sent) (z2S : Int) (z3r : Int) : Option (List Int × Int) :=
 (m_calculus_frames z2k).bind fun z8G=>if ((((!z8G) || (decide (z2S < 1))) || (decide (z2S > 16))) || (decide (z3r < 0))) || (decide (z3r > 1000)) then some (([] : List Int),2) else jp1 (fun (z99 : List Int)=>some (z99,0)) fun z9F=>m_calculus_Serve_L2 z2k z3r z2S z9F FUEL ([] : List Int) 0 0
set_option maxRecDepth 20000 in
theorem w_calculus_Serve (Z : Zp)  (z8H : Option Addr) (z8I : Nat) (z2k : List Sapi_Sent) (z2S : Int) (z3r : Int) (r : List Int × Int) (w₀ : World) (hz : PZ [] w₀ Z)
  (zno : ZS Z 3 (fun r x=>r = e51 x) z8H z8I z2k)
  (h : m_calculus_Serve z2k z2S z3r = some r) :
  Calls Try.prog 14 #[(.slice z8H z2k.length z8I),(.int .i64 z2S),(.int .i64 z3r)] w₀ fun e w'=>∃ znp : Option Addr,∃ znq : Nat,e = .returned (.tuple #[(.slice znp r.1.length znq),(.int .i64 r.2)]) ∧ True ∧ Hp [] w₀ w' [row (.slice znp r.1.length znq) 3 1 (r.1.flatMap e3)]:=by
 unfold m_calculus_Serve at h
 refine Calls.ofWC (vs:=[(.slice z8H z2k.length z8I),(.int .i64 z2S),(.int .i64 z3r)]) (pre:=[]) (env:=[(0,(.slice z8H z2k.length z8I)),(1,(.int .i64 z2S)),(2,(.int .i64 z3r))]) Try.func14 rfl Try.ntmps14 rfl (Hp.nil w₀ _) rfl ?_
 refine WC.b ?_
 refine WC.a ?_
 refine WL.a (d:=6) rfl rfl rfl (q_z rfl) ?_
 refine WL.a (d:=7) rfl rfl rfl (q_z rfl) ?_
 refine WL.nil ?_
 refine WX.a ?_
 refine WC.b ?_
 refine WC.b ?_
 obtain ⟨z8G,zrp,h⟩:=zd h
 refine WC.a ?_
 refine WL.a (d:=12) rfl rfl rfl (q_m rfl) ?_
 refine WL.b (dd:=13) rfl rfl rfl (zk (l:=[.tmp 12]) Try.call31 (.cons rfl .nil)) (.nil : Sel [] [] []) (fun w hw=>by have pz:=(hz.call hw (.nil : Sel [] [] [])); exact w_calculus_frames (Z:=_) (z5E:=z8H) (z5F:=z8I) (zS:=z2k) (r:=z8G) w pz zno zrp) ?_
 refine WL.a (d:=14) rfl rfl rfl (q_not rfl) ?_
 refine WL.a (d:=15) rfl rfl rfl (q_m rfl) ?_
 refine WL.cut0 True [(0,(.slice z8H z2k.length z8I)),(1,(.int .i64 z2S)),(2,(.int .i64 z3r)),(18,(.bool ((!z8G) || (decide (z2S < 1)))))] [] 3 ?_ (fun _=>?_)
 ·rcases Bool.eq_false_or_eq_true (!z8G) with hb' | hb'
  ·have znr:=hb'; clear hb'
   refine WL.pin (i:=15) rfl znr ?_
   refine WL.e rfl rfl rfl ?_
   refine WL.e rfl rfl rfl ?_
   refine WL.a (d:=18) rfl rfl rfl (q_pickT rfl rfl) ?_
   exact WL.cutEnd () trivial (.cons rfl (.cons rfl (.cons rfl (.cons (zr (or_l znr)) .nil)))) .nil
  ·have zns:=hb'; clear hb'
   refine WL.pin (i:=15) rfl zns ?_
   refine WL.a (d:=16) rfl rfl rfl (q_m rfl) ?_
   refine WL.a (d:=17) rfl rfl rfl (q_lss rfl rfl) ?_
   refine WL.a (d:=18) rfl rfl rfl (q_pickF rfl rfl) ?_
   exact WL.cutEnd () trivial (.cons rfl (.cons rfl (.cons rfl (.cons (zr (or_r zns)) .nil)))) .nil
 ·skip
  refine WL.a (d:=19) rfl rfl rfl (q_m rfl) ?_
  refine WL.cut0 True [(0,(.slice z8H z2k.length z8I)),(1,(.int .i64 z2S)),(2,(.int .i64 z3r)),(22,(.bool (((!z8G) || (decide (z2S < 1))) || (decide (z2S > 16)))))] [] 3 ?_ (fun _=>?_)
  ·rcases Bool.eq_false_or_eq_true ((!z8G) || (decide (z2S < 1))) with hb' | hb'
   ·have znt:=hb'; clear hb'
    refine WL.pin (i:=19) rfl znt ?_
    refine WL.e rfl rfl rfl ?_
    refine WL.e rfl rfl rfl ?_
    refine WL.a (d:=22) rfl rfl rfl (q_pickT rfl rfl) ?_
    exact WL.cutEnd () trivial (.cons rfl (.cons rfl (.cons rfl (.cons (zr (or_l znt)) .nil)))) .nil
   ·have znu:=hb'; clear hb'
    refine WL.pin (i:=19) rfl znu ?_
    refine WL.a (d:=20) rfl rfl rfl (q_m rfl) ?_
    refine WL.a (d:=21) rfl rfl rfl (q_gtr rfl rfl) ?_
    refine WL.a (d:=22) rfl rfl rfl (q_pickF rfl rfl) ?_
    exact WL.cutEnd () trivial (.cons rfl (.cons rfl (.cons rfl (.cons (zr (or_r znu)) .nil)))) .nil
  ·skip
   refine WL.a (d:=23) rfl rfl rfl (q_m rfl) ?_
   refine WL.cut0 True [(0,(.slice z8H z2k.length z8I)),(1,(.int .i64 z2S)),(2,(.int .i64 z3r)),(26,(.bool ((((!z8G) || (decide (z2S < 1))) || (decide (z2S > 16))) || (decide (z3r < 0)))))] [] 3 ?_ (fun _=>?_)
   ·rcases Bool.eq_false_or_eq_true (((!z8G) || (decide (z2S < 1))) || (decide (z2S > 16))) with hb' | hb'
    ·have znv:=hb'; clear hb'
     refine WL.pin (i:=23) rfl znv ?_
     refine WL.e rfl rfl rfl ?_
     refine WL.e rfl rfl rfl ?_
     refine WL.a (d:=26) rfl rfl rfl (q_pickT rfl rfl) ?_
     exact WL.cutEnd () trivial (.cons rfl (.cons rfl (.cons rfl (.cons (zr (or_l znv)) .nil)))) .nil
    ·have znw:=hb'; clear hb'
     refine WL.pin (i:=23) rfl znw ?_
     refine WL.a (d:=24) rfl rfl rfl (q_m rfl) ?_
     refine WL.a (d:=25) rfl rfl rfl (q_lss rfl rfl) ?_
     refine WL.a (d:=26) rfl rfl rfl (q_pickF rfl rfl) ?_
     exact WL.cutEnd () trivial (.cons rfl (.cons rfl (.cons rfl (.cons (zr (or_r znw)) .nil)))) .nil
   ·skip
    refine WL.a (d:=27) rfl rfl rfl (q_m rfl) ?_
    refine WL.cut0 True [(0,(.slice z8H z2k.length z8I)),(1,(.int .i64 z2S)),(2,(.int .i64 z3r)),(30,(.bool (((((!z8G) || (decide (z2S < 1))) || (decide (z2S > 16))) || (decide (z3r < 0))) || (decide (z3r > 1000)))))] [] 3 ?_ (fun _=>?_)
    ·rcases Bool.eq_false_or_eq_true ((((!z8G) || (decide (z2S < 1))) || (decide (z2S > 16))) || (decide (z3r < 0))) with hb' | hb'
     ·have znx:=hb'; clear hb'
      refine WL.pin (i:=27) rfl znx ?_
      refine WL.e rfl rfl rfl ?_
      refine WL.e rfl rfl rfl ?_
      refine WL.a (d:=30) rfl rfl rfl (q_pickT rfl rfl) ?_
      exact WL.cutEnd () trivial (.cons rfl (.cons rfl (.cons rfl (.cons (zr (or_l znx)) .nil)))) .nil
     ·have zny:=hb'; clear hb'
      refine WL.pin (i:=27) rfl zny ?_
      refine WL.a (d:=28) rfl rfl rfl (q_m rfl) ?_
      refine WL.a (d:=29) rfl rfl rfl (q_gtr rfl rfl) ?_
      refine WL.a (d:=30) rfl rfl rfl (q_pickF rfl rfl) ?_
      exact WL.cutEnd () trivial (.cons rfl (.cons rfl (.cons rfl (.cons (zr (or_r zny)) .nil)))) .nil
    ·skip
     refine WL.nil ?_
     refine WX.a ?_
     refine WC.cond rfl (fun zit=>?_) (fun zit=>?_)
     ·replace h:=ite_t h zit
      refine WC.b ?_
      refine WC.a ?_
      refine WL.a (d:=6) rfl rfl rfl (q_z rfl) ?_
      refine WL.a (d:=7) rfl rfl rfl (q_z rfl) ?_
      refine WL.nil ?_
      refine WX.a ?_
      refine WC.ret ?_
      refine WX.thenRet ?_
      refine WX.nilRow 3 1 ?_
      obtain rfl:=Option.some.inj h
      refine WX.bpRet Try.results14 (.tmp rfl (.tmp rfl .nil)) (fun w hw=>?_)
      exact ⟨none,0,ret2 rfl rfl,trivial,hw.sub (.cons .here .nil)⟩
     ·replace h:=ite_f h zit
      refine WC.skip ?_
      refine WX.a ?_
      refine WC.b ?_
      refine WC.a ?_
      refine WL.a (d:=8) rfl rfl rfl (q_z rfl) ?_
      refine WL.nil ?_
      refine WX.a ?_
      refine WC.b ?_
      refine WC.a ?_
      refine WL.a (d:=9) rfl rfl rfl (q_z rfl) ?_
      refine WL.nil ?_
      refine WX.a ?_
      obtain ⟨z9F,zrq,h⟩:=jp1_elim h
      refine WC.seqMid3 (fun (z99 : List Int) (zd4 : Option Addr) (zd5 : Nat)=>(z9F z99 = some r)) (fun (z99 : List Int) (zd4 : Option Addr) (zd5 : Nat)=>[(8,(.slice zd4 z99.length zd5))]) (fun (z99 : List Int) (zd4 : Option Addr) (zd5 : Nat)=>[row (.slice zd4 z99.length zd5) 3 1 (z99.flatMap e3)]) ?_ ?_
      ·skip
       refine WC.b ?_
       refine WC.a ?_
       refine WL.a (d:=31) rfl rfl rfl (q_m rfl) ?_
       refine WL.a (d:=32) rfl rfl rfl (q_len Try.underlying24 rfl) ?_
       refine WL.a (d:=33) rfl rfl rfl (q_m rfl) ?_
       refine WL.nil ?_
       refine WX.a ?_
       refine WC.block ?_
       refine WC.nilRow 3 1 ?_
       refine WC.loop6 (fun (zd6 : Nat) (z62 : List Int) (z6y : Int) (z2T : Int) (zbJ : Option Addr) (zbK : Nat)=>(m_calculus_Serve_L2 z2k z3r z2S z9F zd6 z62 z6y z2T = some r)) (fun (zd6 : Nat) (z62 : List Int) (z6y : Int) (z2T : Int) (zbJ : Option Addr) (zbK : Nat)=>[(1,(.int .i64 z2S)),(2,(.int .i64 z3r)),(8,(.slice zbJ z62.length zbK)),(9,(.int .i64 z6y)),(31,(.slice z8H z2k.length z8I)),(32,(.int .i64 ((z2k.length : Nat) : Int))),(33,(.int .i64 z2T))]) (fun (zd6 : Nat) (z62 : List Int) (z6y : Int) (z2T : Int) (zbJ : Option Addr) (zbK : Nat)=>[row (.slice zbJ z62.length zbK) 3 1 (z62.flatMap e3)]) (fun (zd6 : Nat) (z62 : List Int) (z6y : Int) (z2T : Int) (zbJ : Option Addr) (zbK : Nat)=>zd6) ⟨FUEL,([] : List Int),0,0,none,0⟩ h (.cons rfl (.cons rfl (.cons rfl (.cons rfl (.cons rfl (.cons rfl (.cons rfl .nil))))))) (.cons .here .nil) ?_
       rintro zd6 z62 z6y z2T zbJ zbK h
       obtain ⟨zis,rfl⟩:=m_calculus_Serve_L2_fuel h
       rw [m_calculus_Serve_L2] at h
       refine WC.b ?_
       refine WC.a ?_
       refine WL.a (d:=34) rfl rfl rfl (q_lss rfl rfl) ?_
       refine WL.nil ?_
       refine WX.a ?_
       refine WC.b ?_
       refine WC.cond rfl (fun ziu=>?_) (fun ziu=>?_)
       ·replace h:=ite_t h ziu
        refine WC.skip ?_
        refine WX.a ?_
        refine WC.b ?_
        refine WC.block ?_
        refine WC.b ?_
        obtain ⟨zrr,h⟩:=chk_elim h
        refine WC.a ?_
        refine WL.znth (dd:=35) rfl rfl (Z:=Z) (Pr:=(fun r x=>r = e51 x)) elT_24 rfl rfl zno zrr ?_
        rintro zzk zzl zrs zzm rfl
        refine WL.a (d:=36) rfl rfl rfl (q_loadA (cs:=[(.int .i64 ((nth z2k z2T).fTime)),(.int .i64 ((nth z2k z2T).fVL)),(.int .i64 ((nth z2k z2T).fSize))]) aggT_51 rfl rfl (rd_zs hz.pv zrs)) ?_
        refine WL.new (dd:=11) rfl rfl rfl (e_alloc (cs:=[(.int .i64 0),(.int .i64 0),(.int .i64 0)]) zeroT_51 rfl) ?_
        intro zzn _
        refine WL.eff0 rfl rfl (e_store (vs:=[(.int .i64 ((nth z2k z2T).fTime)),(.int .i64 ((nth z2k z2T).fVL)),(.int .i64 ((nth z2k z2T).fSize))]) (ds:=[(.int .i64 ((nth z2k z2T).fTime)),(.int .i64 ((nth z2k z2T).fVL)),(.int .i64 ((nth z2k z2T).fSize))]) sizT_51 rfl rfl rfl rfl (oc_cons rfl (oc_cons rfl (oc_cons rfl oc_nil))) .here (Nat.le_of_ble_eq_true rfl) rfl) ?_
        refine WL.nil ?_
        refine WX.a ?_
        refine WC.b ?_
        refine WC.a ?_
        refine WL.a (d:=37) rfl rfl rfl (q_m rfl) ?_
        refine WL.a (d:=38) rfl rfl rfl (q_fieldAddr fo_51_0 rfl rfl) ?_
        refine WL.a (d:=39) rfl rfl rfl (q_load1 oneT_3 rfl (rd_stb .here rfl)) ?_
        refine WL.a (d:=40) rfl rfl rfl (q_m rfl) ?_
        refine WL.a (d:=41) rfl rfl rfl (q_add rfl rfl rfl) ?_
        refine WL.a (d:=42) rfl rfl rfl (q_max rfl rfl rfl) ?_
        refine WL.a (d:=43) rfl rfl rfl (q_fieldAddr fo_51_2 rfl rfl) ?_
        refine WL.a (d:=44) rfl rfl rfl (q_load1 oneT_3 rfl (rd_stb .here rfl)) ?_
        refine WL.a (d:=45) rfl rfl rfl (q_m rfl) ?_
        refine WL.a (d:=46) rfl rfl rfl (q_mul rfl rfl rfl) ?_
        refine WL.a (d:=47) rfl rfl rfl (q_add rfl rfl rfl) ?_
        refine WL.a (d:=9) rfl rfl rfl (q_z rfl) ?_
        refine WL.nil ?_
        refine WX.a ?_
        obtain ⟨zrt,h⟩:=chk_elim h
        refine WC.a ?_
        refine WL.a (d:=48) rfl rfl rfl (q_m rfl) ?_
        refine WL.a (d:=49) rfl rfl rfl (q_m rfl) ?_
        refine WL.new (dd:=50) rfl rfl rfl (e_buildSlice (cs:=([i64 ((max z6y (i64 (((nth z2k z2T).fTime) + z3r))) + (i64 (((nth z2k z2T).fSize) * z2S)))] : List Int).flatMap e3) elT_45 (Eos.parts (l:=[.tmp 49]) (.cons rfl .nil) [0]) (fun _=>by kernel_rfl) rfl (by unfold maxLen; omega)) ?_
        intro zzo _
        refine WL.eff (d:=51) rfl rfl rfl (e_appendF (enc:=e3) (l1:=z62) (l2:=([i64 ((max z6y (i64 (((nth z2k z2T).fTime) + z3r))) + (i64 (((nth z2k z2T).fSize) * z2S)))] : List Int)) elT_45 rfl rfl .h2 (fun _=>rfl) rfl rfl (news_row .here) (oc_flat e3_oc _) zrt) ?_
        rintro ⟨zru,zrv⟩ _
        refine WL.a (d:=8) rfl rfl rfl (q_z rfl) ?_
        refine WL.nil ?_
        refine WX.blockNormal ?_
        refine WX.a ?_
        refine WC.a ?_
        refine WL.a (d:=52) rfl rfl rfl (q_add rfl rfl rfl) ?_
        refine WL.a (d:=33) rfl rfl rfl (q_m rfl) ?_
        refine WL.nil ?_
        exact WX.round (G:=Nat × List Int × Int × Int × Option Addr × Nat) ⟨zis,(z62 ++ ([i64 ((max z6y (i64 (((nth z2k z2T).fTime) + z3r))) + (i64 (((nth z2k z2T).fSize) * z2S)))] : List Int)),(i64 ((max z6y (i64 (((nth z2k z2T).fTime) + z3r))) + (i64 (((nth z2k z2T).fSize) * z2S)))),(i64 (z2T + 1)),zru,zrv⟩ h (Nat.lt_succ_self _) (.cons rfl (.cons rfl (.cons rfl (.cons rfl (.cons rfl (.cons rfl (.cons rfl .nil))))))) (.cons .here .nil)
       ·replace h:=ite_f h ziu
        refine WC.exit ?_
        refine WX.thenExit ?_
        refine WX.thenExit ?_
        refine WX.blockHit ?_
        exact WX.mid (G:=List Int × Option Addr × Nat) ⟨z62,zbJ,zbK⟩ h (.cons rfl .nil) (.cons .here .nil)
      ·rintro z99 zd4 zd5 h
       replace h:=(zrq z99).symm.trans h
       refine WC.b ?_
       refine WC.a ?_
       refine WL.a (d:=53) rfl rfl rfl (q_m rfl) ?_
       refine WL.a (d:=6) rfl rfl rfl (q_z rfl) ?_
       refine WL.a (d:=7) rfl rfl rfl (q_z rfl) ?_
       refine WL.nil ?_
       refine WX.a ?_
       refine WC.ret ?_
       obtain rfl:=Option.some.inj h
       refine WX.bpRet Try.results14 (.tmp rfl (.tmp rfl .nil)) (fun w hw=>?_)
       exact ⟨zd4,zd5,ret2 rfl rfl,trivial,hw.sub (.cons .here .nil)⟩
def m_law03_num (z4c : Int) (z4d : Int) : Option z2 :=
 some (⟨z4c,z4d⟩ : z2)
set_option maxRecDepth 20000 in
theorem w_law03_num (Z : Zp)   (z4c : Int) (z4d : Int) (r : z2) (w₀ : World) (hz : PZ [] w₀ Z)
  (h : m_law03_num z4c z4d = some r) :
  Calls Try.prog 11 #[(.int .i64 z4c),(.int .i64 z4d)] w₀ fun e w'=>e = .returned (.agg #[(.int .i64 r.fN),(.int .i64 r.fD)]) ∧ Hp [] w₀ w' []:=by
 unfold m_law03_num at h
 refine Calls.ofWC (vs:=[(.int .i64 z4c),(.int .i64 z4d)]) (pre:=[]) (env:=[(0,(.int .i64 z4c)),(1,(.int .i64 z4d))]) Try.func11 rfl Try.ntmps11 rfl (Hp.nil w₀ _) rfl ?_
 refine WC.b ?_
 refine WC.a ?_
 refine WL.new (dd:=4) rfl rfl rfl (e_alloc (cs:=[(.int .i64 0),(.int .i64 0)]) zeroT_30 rfl) ?_
 intro zzp _
 refine WL.nil ?_
 refine WX.a ?_
 refine WC.b ?_
 refine WC.a ?_
 refine WL.a (d:=5) rfl rfl rfl (q_m rfl) ?_
 refine WL.a (d:=6) rfl rfl rfl (q_m rfl) ?_
 refine WL.a (d:=7) rfl rfl rfl (q_build (v:=(.agg #[(.int .i64 z4c),(.int .i64 z4d)])) (Eos.parts (l:=[.tmp 5,.tmp 6]) (.cons rfl (.cons rfl .nil)) [0,1]) (fun _=>by kernel_rfl)) ?_
 refine WL.eff0 rfl rfl (e_store (vs:=[(.int .i64 z4c),(.int .i64 z4d)]) (ds:=[(.int .i64 z4c),(.int .i64 z4d)]) sizT_30 rfl rfl rfl rfl (oc_cons rfl (oc_cons rfl oc_nil)) .here (Nat.le_of_ble_eq_true rfl) rfl) ?_
 refine WL.nil ?_
 refine WX.a ?_
 refine WC.ret ?_
 obtain rfl:=Option.some.inj h
 refine WX.bpRet Try.results11 (.agg rfl aggT_30 rfl (rd_all .here) .nil) (fun w hw=>?_)
 exact ⟨ret1 rfl,hw.sub .nil⟩
def m_law03_bucket (z4y : z2) (z4z : z2) : Option z1 :=
 some (⟨z4y,z4z⟩ : z1)
set_option maxRecDepth 20000 in
theorem w_law03_bucket (Z : Zp)   (z4y : z2) (z4z : z2) (r : z1) (w₀ : World) (hz : PZ [] w₀ Z)
  (h : m_law03_bucket z4y z4z = some r) :
  Calls Try.prog 10 #[(.agg #[(.int .i64 z4y.fN),(.int .i64 z4y.fD)]),(.agg #[(.int .i64 z4z.fN),(.int .i64 z4z.fD)])] w₀ fun e w'=>e = .returned (.agg #[(.int .i64 r.fBurst.fN),(.int .i64 r.fBurst.fD),(.int .i64 r.fRate.fN),(.int .i64 r.fRate.fD)]) ∧ Hp [] w₀ w' []:=by
 unfold m_law03_bucket at h
 refine Calls.ofWC (vs:=[(.agg #[(.int .i64 z4y.fN),(.int .i64 z4y.fD)]),(.agg #[(.int .i64 z4z.fN),(.int .i64 z4z.fD)])]) (pre:=[]) (env:=[(0,(.agg #[(.int .i64 z4y.fN),(.int .i64 z4y.fD)])),(1,(.agg #[(.int .i64 z4z.fN),(.int .i64 z4z.fD)]))]) Try.func10 rfl Try.ntmps10 rfl (Hp.nil w₀ _) rfl ?_
 refine WC.b ?_
 refine WC.a ?_
 refine WL.new (dd:=2) rfl rfl rfl (e_box (cs:=[(.int .i64 z4y.fN),(.int .i64 z4y.fD)]) rfl rfl) ?_
 intro zzq _
 refine WL.new (dd:=3) rfl rfl rfl (e_box (cs:=[(.int .i64 z4z.fN),(.int .i64 z4z.fD)]) rfl rfl) ?_
 intro zzr _
 refine WL.new (dd:=4) rfl rfl rfl (e_alloc (cs:=[(.int .i64 0),(.int .i64 0),(.int .i64 0),(.int .i64 0)]) zeroT_35 rfl) ?_
 intro zzs _
 refine WL.nil ?_
 refine WX.a ?_
 refine WC.b ?_
 refine WC.a ?_
 refine WL.a (d:=5) rfl rfl rfl (q_loadA (cs:=[(.int .i64 z4y.fN),(.int .i64 z4y.fD)]) aggT_30 rfl rfl (rd_all .h2)) ?_
 refine WL.a (d:=6) rfl rfl rfl (q_loadA (cs:=[(.int .i64 z4z.fN),(.int .i64 z4z.fD)]) aggT_30 rfl rfl (rd_all .h1)) ?_
 refine WL.a (d:=7) rfl rfl rfl (q_build (v:=(.agg #[(.int .i64 z4y.fN),(.int .i64 z4y.fD),(.int .i64 z4z.fN),(.int .i64 z4z.fD)])) (Eos.parts (l:=[.tmp 5,.tmp 6]) (.cons rfl (.cons rfl .nil)) [0,1]) (fun _=>by kernel_rfl)) ?_
 refine WL.eff0 rfl rfl (e_store (vs:=[(.int .i64 z4y.fN),(.int .i64 z4y.fD),(.int .i64 z4z.fN),(.int .i64 z4z.fD)]) (ds:=[(.int .i64 z4y.fN),(.int .i64 z4y.fD),(.int .i64 z4z.fN),(.int .i64 z4z.fD)]) sizT_35 rfl rfl rfl rfl (oc_cons rfl (oc_cons rfl (oc_cons rfl (oc_cons rfl oc_nil)))) .here (Nat.le_of_ble_eq_true rfl) rfl) ?_
 refine WL.nil ?_
 refine WX.a ?_
 refine WC.ret ?_
 obtain rfl:=Option.some.inj h
 refine WX.bpRet Try.results10 (.agg rfl aggT_35 rfl (rd_all .here) .nil) (fun w hw=>?_)
 exact ⟨ret1 rfl,hw.sub .nil⟩
def m_rat_size (z8a : Int) : Option Int :=
 if decide (z8a < 0) then some (u64 ((u64 (i64 (0 - (i64 (z8a + 1))))) + 1)) else some (u64 z8a)
set_option maxRecDepth 20000 in
theorem w_rat_size (Z : Zp)   (z8a : Int) (r : Int) (w₀ : World) (hz : PZ [] w₀ Z)
  (h : m_rat_size z8a = some r) :
  Calls Try.prog 28 #[(.int .i64 z8a)] w₀ fun e w'=>e = .returned (.int .u64 r) ∧ Hp [] w₀ w' []:=by
 unfold m_rat_size at h
 refine Calls.ofWC (vs:=[(.int .i64 z8a)]) (pre:=[]) (env:=[(0,(.int .i64 z8a))]) Try.func28 rfl Try.ntmps28 rfl (Hp.nil w₀ _) rfl ?_
 refine WC.b ?_
 refine WC.a ?_
 refine WL.a (d:=2) rfl rfl rfl (q_z rfl) ?_
 refine WL.nil ?_
 refine WX.a ?_
 refine WC.b ?_
 refine WC.b ?_
 refine WC.a ?_
 refine WL.a (d:=3) rfl rfl rfl (q_m rfl) ?_
 refine WL.a (d:=4) rfl rfl rfl (q_lss rfl rfl) ?_
 refine WL.nil ?_
 refine WX.a ?_
 refine WC.cond rfl (fun ziv=>?_) (fun ziv=>?_)
 ·replace h:=ite_t h ziv
  refine WC.b ?_
  refine WC.a ?_
  refine WL.a (d:=5) rfl rfl rfl (q_m rfl) ?_
  refine WL.a (d:=6) rfl rfl rfl (q_add rfl rfl rfl) ?_
  refine WL.a (d:=7) rfl rfl rfl (q_neg rfl rfl) ?_
  refine WL.a (d:=8) rfl rfl rfl (q_conv Try.underlying3 Try.underlying71 rfl rfl) ?_
  refine WL.a (d:=9) rfl rfl rfl (q_add rfl rfl rfl) ?_
  refine WL.a (d:=2) rfl rfl rfl (q_z rfl) ?_
  refine WL.nil ?_
  refine WX.a ?_
  refine WC.ret ?_
  refine WX.thenRet ?_
  obtain rfl:=Option.some.inj h
  refine WX.bpRet Try.results28 (.tmp rfl .nil) (fun w hw=>?_)
  exact ⟨ret1 rfl,hw.sub .nil⟩
 ·replace h:=ite_f h ziv
  refine WC.skip ?_
  refine WX.a ?_
  refine WC.b ?_
  refine WC.a ?_
  refine WL.a (d:=10) rfl rfl rfl (q_m rfl) ?_
  refine WL.a (d:=11) rfl rfl rfl (q_conv Try.underlying3 Try.underlying71 rfl rfl) ?_
  refine WL.a (d:=2) rfl rfl rfl (q_z rfl) ?_
  refine WL.nil ?_
  refine WX.a ?_
  refine WC.ret ?_
  obtain rfl:=Option.some.inj h
  refine WX.bpRet Try.results28 (.tmp rfl .nil) (fun w hw=>?_)
  exact ⟨ret1 rfl,hw.sub .nil⟩
def m_rat_gcd_uint64_L2 (z9G : Int → Option Int) : Nat → Int → Int → Option Int
 | 0,_,_=>none
 | ziw + 1,z7P,z7e=>if decide (z7e ≠ 0) then chk ((z7e : Int) ≠ 0) (m_rat_gcd_uint64_L2 z9G ziw z7e (Int.tmod z7P z7e)) else z9G z7P
theorem m_rat_gcd_uint64_L2_fuel {n : Nat} {z9G : Int → Option Int} {z7P : Int} {z7e : Int} {r : Int} (h : m_rat_gcd_uint64_L2 z9G n z7P z7e = some r) : ∃ m,n = m + 1:=by
 cases n with
 | zero=>cases h
 | succ m=>exact ⟨m,rfl⟩
def m_rat_gcd_uint64 (z9H : Int) (z9I : Int) : Option Int :=
 jp1 (fun (zaQ : Int)=>some zaQ) fun z9G=>m_rat_gcd_uint64_L2 z9G FUEL z9H z9I
set_option maxRecDepth 20000 in
theorem w_rat_gcd_uint64 (Z : Zp)   (z9H : Int) (z9I : Int) (r : Int) (w₀ : World) (hz : PZ [] w₀ Z)
  (h : m_rat_gcd_uint64 z9H z9I = some r) :
  Calls Try.prog 29 #[(.int .u64 z9H),(.int .u64 z9I)] w₀ fun e w'=>e = .returned (.int .u64 r) ∧ Hp [] w₀ w' []:=by
 unfold m_rat_gcd_uint64 at h
 refine Calls.ofWC (vs:=[(.int .u64 z9H),(.int .u64 z9I)]) (pre:=[]) (env:=[(0,(.int .u64 z9H)),(1,(.int .u64 z9I))]) Try.func29 rfl Try.ntmps29 rfl (Hp.nil w₀ _) rfl ?_
 refine WC.b ?_
 refine WC.a ?_
 refine WL.a (d:=4) rfl rfl rfl (q_z rfl) ?_
 refine WL.nil ?_
 refine WX.a ?_
 obtain ⟨z9G,zrw,h⟩:=jp1_elim h
 refine WC.seqMid1 (fun (zaQ : Int)=>(z9G zaQ = some r)) (fun (zaQ : Int)=>[(0,(.int .u64 zaQ))]) (fun (zaQ : Int)=>[]) ?_ ?_
 ·skip
  refine WC.block ?_
  refine WC.loop3 (fun (zd7 : Nat) (z7P : Int) (z7e : Int)=>(m_rat_gcd_uint64_L2 z9G zd7 z7P z7e = some r)) (fun (zd7 : Nat) (z7P : Int) (z7e : Int)=>[(0,(.int .u64 z7P)),(1,(.int .u64 z7e))]) (fun (zd7 : Nat) (z7P : Int) (z7e : Int)=>[]) (fun (zd7 : Nat) (z7P : Int) (z7e : Int)=>zd7) ⟨FUEL,z9H,z9I⟩ h (.cons rfl (.cons rfl .nil)) .nil ?_
  rintro zd7 z7P z7e h
  obtain ⟨ziw,rfl⟩:=m_rat_gcd_uint64_L2_fuel h
  rw [m_rat_gcd_uint64_L2] at h
  refine WC.b ?_
  refine WC.b ?_
  refine WC.a ?_
  refine WL.a (d:=5) rfl rfl rfl (q_m rfl) ?_
  refine WL.a (d:=6) rfl rfl rfl (q_neq rfl rfl) ?_
  refine WL.nil ?_
  refine WX.a ?_
  refine WC.cond rfl (fun zix=>?_) (fun zix=>?_)
  ·replace h:=ite_t h zix
   refine WC.skip ?_
   refine WX.a ?_
   refine WC.block ?_
   obtain ⟨zrx,h⟩:=chk_elim h
   refine WC.draw (fun i=>[].contains i) [] rfl ?_
   refine WD.a (i:=0) (d:=7) (by kernel_rfl) rfl (z6 (by kernel_rfl)) (z7 (by kernel_rfl)) rfl rfl rfl (fun _=>q_m rfl) ?_
   refine WD.a (i:=1) (d:=8) (by kernel_rfl) rfl (z6 (by kernel_rfl)) (z7 (by kernel_rfl)) rfl rfl rfl (fun _=>q_m rfl) ?_
   refine WD.a (i:=2) (d:=9) (by kernel_rfl) rfl (z6 (by kernel_rfl)) (z7 (by kernel_rfl)) rfl rfl rfl (fun _=>q_m rfl) ?_
   refine WD.a (i:=3) (d:=10) (by kernel_rfl) rfl (z6 (by kernel_rfl)) (z7 (by kernel_rfl)) rfl rfl rfl (fun _=>q_rem rfl rfl zrx rfl) ?_
   refine WD.a (i:=4) (d:=0) (by kernel_rfl) rfl (z6 (by kernel_rfl)) (z7 (by kernel_rfl)) rfl rfl rfl (fun _=>q_z rfl) ?_
   refine WD.a (i:=5) (d:=1) (by kernel_rfl) rfl (z6 (by kernel_rfl)) (z7 (by kernel_rfl)) rfl rfl rfl (fun _=>q_z rfl) ?_
   refine WD.done (by kernel_rfl) ?_
   refine WX.blockNormal ?_
   exact WX.round (G:=Nat × Int × Int) ⟨ziw,z7e,(Int.tmod z7P z7e)⟩ h (Nat.lt_succ_self _) (.cons rfl (.cons rfl .nil)) .nil
  ·replace h:=ite_f h zix
   refine WC.exit ?_
   refine WX.thenExit ?_
   refine WX.thenExit ?_
   refine WX.blockHit ?_
   exact WX.mid (G:=Int) z7P h (.cons rfl .nil) .nil
 ·rintro zaQ h
  replace h:=(zrw zaQ).symm.trans h
  refine WC.b ?_
  refine WC.a ?_
  refine WL.a (d:=11) rfl rfl rfl (q_m rfl) ?_
  refine WL.a (d:=4) rfl rfl rfl (q_z rfl) ?_
  refine WL.nil ?_
  refine WX.a ?_
  refine WC.ret ?_
  obtain rfl:=Option.some.inj h
  refine WX.bpRet Try.results29 (.tmp rfl .nil) (fun w hw=>?_)
  exact ⟨ret1 rfl,hw.sub .nil⟩
def m_rat_Valid (z1f : z2) : Option Bool :=
 (if (((decide (z1f.fD ≥ 1)) && (decide (z1f.fD ≤ 1073741824))) && (decide (z1f.fN ≥ (-1073741824)))) && (decide (z1f.fN ≤ 1073741824)) then (m_rat_size z1f.fN).bind fun zgk=>(m_rat_size z1f.fD).bind fun zgl=>(m_rat_gcd_uint64 zgk zgl).bind fun ziy=>some (decide (ziy = 1)) else some false).bind fun ziz=>some ziz
set_option maxRecDepth 20000 in
theorem w_rat_Valid (Z : Zp)   (z1f : z2) (r : Bool) (w₀ : World) (hz : PZ [] w₀ Z)
  (h : m_rat_Valid z1f = some r) :
  Calls Try.prog 39 #[(.agg #[(.int .i64 z1f.fN),(.int .i64 z1f.fD)])] w₀ fun e w'=>e = .returned (.bool r) ∧ Hp [] w₀ w' []:=by
 unfold m_rat_Valid at h
 refine Calls.ofWC (vs:=[(.agg #[(.int .i64 z1f.fN),(.int .i64 z1f.fD)])]) (pre:=[]) (env:=[(0,(.agg #[(.int .i64 z1f.fN),(.int .i64 z1f.fD)]))]) Try.func39 rfl Try.ntmps39 rfl (Hp.nil w₀ _) rfl ?_
 refine WC.b ?_
 refine WC.a ?_
 refine WL.new (dd:=1) rfl rfl rfl (e_box (cs:=[(.int .i64 z1f.fN),(.int .i64 z1f.fD)]) rfl rfl) ?_
 intro z9J _
 refine WL.a (d:=2) rfl rfl rfl (q_z rfl) ?_
 refine WL.nil ?_
 refine WX.a ?_
 refine WC.b ?_
 obtain ⟨ziz,znz,h⟩:=zd h
 refine WC.draw (fun i=>[].contains i) [] rfl ?_
 refine WD.a (i:=0) (d:=3) (by kernel_rfl) rfl (z6 (by kernel_rfl)) (z7 (by kernel_rfl)) rfl rfl rfl (fun _=>q_fieldAddr fo_30_1 rfl rfl) ?_
 refine WD.e (i:=1) (d:=4) (by kernel_rfl) rfl (z6 (by kernel_rfl)) (z7 (by kernel_rfl)) rfl rfl rfl (q_load1 oneT_3 rfl (rd_stb .here rfl)) ?_
 refine WD.a (i:=2) (d:=5) (by kernel_rfl) rfl (z6 (by kernel_rfl)) (z7 (by kernel_rfl)) rfl rfl rfl (fun _=>q_geq rfl rfl) ?_
 refine WD.a (i:=3) (d:=6) (by kernel_rfl) rfl (z6 (by kernel_rfl)) (z7 (by kernel_rfl)) rfl rfl rfl (fun _=>q_m rfl) ?_
 refine WD.mid (fuel':=21) [(1,(.pointer (some ⟨z9J,0,none⟩))),(2,(.bool false)),(6,(.bool (decide (z1f.fD ≥ 1)))),(10,(.bool ((decide (z1f.fD ≥ 1)) && (decide (z1f.fD ≤ 1073741824)))))] (listedA 29 [7,6,5,4,3,2,1,0]) ?_ (fun znA=>?_)
 rotate_left
 ·rcases Bool.eq_false_or_eq_true (decide (z1f.fD ≥ 1)) with hb' | hb'
  ·have ziA:=hb'; clear hb'
   refine WD.pin (i:=6) rfl ziA ?_
   refine WD.a (i:=4) (d:=7) (by kernel_rfl) rfl (z6 (by kernel_rfl)) (z7 (by kernel_rfl)) rfl rfl rfl (fun _=>q_fieldAddr fo_30_1 rfl rfl) ?_
   refine WD.e (i:=5) (d:=8) (by kernel_rfl) rfl (z6 (by kernel_rfl)) (z7 (by kernel_rfl)) rfl rfl rfl (q_load1 oneT_3 rfl (rd_stb .here rfl)) ?_
   refine WD.a (i:=6) (d:=9) (by kernel_rfl) rfl (z6 (by kernel_rfl)) (z7 (by kernel_rfl)) rfl rfl rfl (fun _=>q_leq rfl rfl) ?_
   refine WD.a (i:=7) (d:=10) (by kernel_rfl) rfl (z6 (by kernel_rfl)) (z7 (by kernel_rfl)) rfl rfl rfl (fun _=>q_pickT rfl rfl) ?_
   refine WD.reL (.cons .here .nil) ?_ znA
   exact (.cons rfl (.cons rfl (.cons (zr (Eq.symm ziA)) (.cons (zr (and_r ziA)) .nil))))
  ·have ziB:=hb'; clear hb'
   refine WD.pin (i:=6) rfl ziB ?_
   refine WD.b (i:=4) (d:=7) (by kernel_rfl) rfl (z6 (by kernel_rfl)) (z7 (by kernel_rfl)) rfl rfl rfl ?_
   refine WD.b (i:=5) (d:=8) (by kernel_rfl) rfl (z6 (by kernel_rfl)) (z7 (by kernel_rfl)) rfl rfl rfl ?_
   refine WD.b (i:=6) (d:=9) (by kernel_rfl) rfl (z6 (by kernel_rfl)) (z7 (by kernel_rfl)) rfl rfl rfl ?_
   refine WD.a (i:=7) (d:=10) (by kernel_rfl) rfl (z6 (by kernel_rfl)) (z7 (by kernel_rfl)) rfl rfl rfl (fun _=>q_pickF rfl rfl) ?_
   refine WD.reL (.cons .here .nil) ?_ znA
   exact (.cons rfl (.cons rfl (.cons (zr (Eq.symm ziB)) (.cons (zr (and_l ziB)) .nil))))
 refine WD.d #[true,true,true,true,true,true,true,true,false,false,false,false,false,false,false,false,false,false,false,false,false,false,false,false,false,false,false,false,false] (by kernel_rfl) ?_
 refine WD.a (i:=8) (d:=11) (by kernel_rfl) rfl (z6 (by kernel_rfl)) (z7 (by kernel_rfl)) rfl rfl rfl (fun _=>q_m rfl) ?_
 refine WD.mid (fuel':=16) [(1,(.pointer (some ⟨z9J,0,none⟩))),(2,(.bool false)),(11,(.bool ((decide (z1f.fD ≥ 1)) && (decide (z1f.fD ≤ 1073741824))))),(15,(.bool (((decide (z1f.fD ≥ 1)) && (decide (z1f.fD ≤ 1073741824))) && (decide (z1f.fN ≥ (-1073741824))))))] (listedA 29 [12,11,10,9,8,7,6,5,4,3,2,1,0]) ?_ (fun znB=>?_)
 rotate_left
 ·rcases Bool.eq_false_or_eq_true ((decide (z1f.fD ≥ 1)) && (decide (z1f.fD ≤ 1073741824))) with hb' | hb'
  ·have ziC:=hb'; clear hb'
   refine WD.pin (i:=11) rfl ziC ?_
   refine WD.a (i:=9) (d:=12) (by kernel_rfl) rfl (z6 (by kernel_rfl)) (z7 (by kernel_rfl)) rfl rfl rfl (fun _=>q_fieldAddr fo_30_0 rfl rfl) ?_
   refine WD.e (i:=10) (d:=13) (by kernel_rfl) rfl (z6 (by kernel_rfl)) (z7 (by kernel_rfl)) rfl rfl rfl (q_load1 oneT_3 rfl (rd_stb .here rfl)) ?_
   refine WD.a (i:=11) (d:=14) (by kernel_rfl) rfl (z6 (by kernel_rfl)) (z7 (by kernel_rfl)) rfl rfl rfl (fun _=>q_geq rfl rfl) ?_
   refine WD.a (i:=12) (d:=15) (by kernel_rfl) rfl (z6 (by kernel_rfl)) (z7 (by kernel_rfl)) rfl rfl rfl (fun _=>q_pickT rfl rfl) ?_
   refine WD.reL (.cons .here .nil) ?_ znB
   exact (.cons rfl (.cons rfl (.cons (zr (Eq.symm ziC)) (.cons (zr (and_r ziC)) .nil))))
  ·have ziD:=hb'; clear hb'
   refine WD.pin (i:=11) rfl ziD ?_
   refine WD.b (i:=9) (d:=12) (by kernel_rfl) rfl (z6 (by kernel_rfl)) (z7 (by kernel_rfl)) rfl rfl rfl ?_
   refine WD.b (i:=10) (d:=13) (by kernel_rfl) rfl (z6 (by kernel_rfl)) (z7 (by kernel_rfl)) rfl rfl rfl ?_
   refine WD.b (i:=11) (d:=14) (by kernel_rfl) rfl (z6 (by kernel_rfl)) (z7 (by kernel_rfl)) rfl rfl rfl ?_
   refine WD.a (i:=12) (d:=15) (by kernel_rfl) rfl (z6 (by kernel_rfl)) (z7 (by kernel_rfl)) rfl rfl rfl (fun _=>q_pickF rfl rfl) ?_
   refine WD.reL (.cons .here .nil) ?_ znB
   exact (.cons rfl (.cons rfl (.cons (zr (Eq.symm ziD)) (.cons (zr (and_l ziD)) .nil))))
 refine WD.d #[true,true,true,true,true,true,true,true,true,true,true,true,true,false,false,false,false,false,false,false,false,false,false,false,false,false,false,false,false] (by kernel_rfl) ?_
 refine WD.a (i:=13) (d:=16) (by kernel_rfl) rfl (z6 (by kernel_rfl)) (z7 (by kernel_rfl)) rfl rfl rfl (fun _=>q_m rfl) ?_
 refine WD.mid (fuel':=11) [(1,(.pointer (some ⟨z9J,0,none⟩))),(2,(.bool false)),(16,(.bool (((decide (z1f.fD ≥ 1)) && (decide (z1f.fD ≤ 1073741824))) && (decide (z1f.fN ≥ (-1073741824)))))),(20,(.bool ((((decide (z1f.fD ≥ 1)) && (decide (z1f.fD ≤ 1073741824))) && (decide (z1f.fN ≥ (-1073741824)))) && (decide (z1f.fN ≤ 1073741824)))))] (listedA 29 [17,16,15,14,13,12,11,10,9,8,7,6,5,4,3,2,1,0]) ?_ (fun znC=>?_)
 rotate_left
 ·rcases Bool.eq_false_or_eq_true (((decide (z1f.fD ≥ 1)) && (decide (z1f.fD ≤ 1073741824))) && (decide (z1f.fN ≥ (-1073741824)))) with hb' | hb'
  ·have ziE:=hb'; clear hb'
   refine WD.pin (i:=16) rfl ziE ?_
   refine WD.a (i:=14) (d:=17) (by kernel_rfl) rfl (z6 (by kernel_rfl)) (z7 (by kernel_rfl)) rfl rfl rfl (fun _=>q_fieldAddr fo_30_0 rfl rfl) ?_
   refine WD.e (i:=15) (d:=18) (by kernel_rfl) rfl (z6 (by kernel_rfl)) (z7 (by kernel_rfl)) rfl rfl rfl (q_load1 oneT_3 rfl (rd_stb .here rfl)) ?_
   refine WD.a (i:=16) (d:=19) (by kernel_rfl) rfl (z6 (by kernel_rfl)) (z7 (by kernel_rfl)) rfl rfl rfl (fun _=>q_leq rfl rfl) ?_
   refine WD.a (i:=17) (d:=20) (by kernel_rfl) rfl (z6 (by kernel_rfl)) (z7 (by kernel_rfl)) rfl rfl rfl (fun _=>q_pickT rfl rfl) ?_
   refine WD.reL (.cons .here .nil) ?_ znC
   exact (.cons rfl (.cons rfl (.cons (zr (Eq.symm ziE)) (.cons (zr (and_r ziE)) .nil))))
  ·have ziF:=hb'; clear hb'
   refine WD.pin (i:=16) rfl ziF ?_
   refine WD.b (i:=14) (d:=17) (by kernel_rfl) rfl (z6 (by kernel_rfl)) (z7 (by kernel_rfl)) rfl rfl rfl ?_
   refine WD.b (i:=15) (d:=18) (by kernel_rfl) rfl (z6 (by kernel_rfl)) (z7 (by kernel_rfl)) rfl rfl rfl ?_
   refine WD.b (i:=16) (d:=19) (by kernel_rfl) rfl (z6 (by kernel_rfl)) (z7 (by kernel_rfl)) rfl rfl rfl ?_
   refine WD.a (i:=17) (d:=20) (by kernel_rfl) rfl (z6 (by kernel_rfl)) (z7 (by kernel_rfl)) rfl rfl rfl (fun _=>q_pickF rfl rfl) ?_
   refine WD.reL (.cons .here .nil) ?_ znC
   exact (.cons rfl (.cons rfl (.cons (zr (Eq.symm ziF)) (.cons (zr (and_l ziF)) .nil))))
 refine WD.d #[true,true,true,true,true,true,true,true,true,true,true,true,true,true,true,true,true,true,false,false,false,false,false,false,false,false,false,false,false] (by kernel_rfl) ?_
 refine WD.a (i:=18) (d:=21) (by kernel_rfl) rfl (z6 (by kernel_rfl)) (z7 (by kernel_rfl)) rfl rfl rfl (fun _=>q_m rfl) ?_
 refine WD.mid (fuel':=1) [(2,(.bool false)),(21,(.bool ((((decide (z1f.fD ≥ 1)) && (decide (z1f.fD ≤ 1073741824))) && (decide (z1f.fN ≥ (-1073741824)))) && (decide (z1f.fN ≤ 1073741824))))),(30,(.bool ziz))] (listedA 29 [27,26,25,24,23,22,21,20,19,18,17,16,15,14,13,12,11,10,9,8,7,6,5,4,3,2,1,0]) ?_ (fun znD=>?_)
 rotate_left
 ·rcases Bool.eq_false_or_eq_true ((((decide (z1f.fD ≥ 1)) && (decide (z1f.fD ≤ 1073741824))) && (decide (z1f.fN ≥ (-1073741824)))) && (decide (z1f.fN ≤ 1073741824))) with hb' | hb'
  ·have ziG:=hb'; clear hb'
   have z9K:=ite_t znz ziG
   obtain ⟨zgk,zry,z9K⟩:=zd z9K
   obtain ⟨zgl,zrz,z9K⟩:=zd z9K
   obtain ⟨ziy,zrA,z9K⟩:=zd z9K
   replace z9K:=Option.some.inj z9K
   refine WD.pin (i:=21) rfl ziG ?_
   refine WD.a (i:=19) (d:=22) (by kernel_rfl) rfl (z6 (by kernel_rfl)) (z7 (by kernel_rfl)) rfl rfl rfl (fun _=>q_fieldAddr fo_30_0 rfl rfl) ?_
   refine WD.e (i:=20) (d:=23) (by kernel_rfl) rfl (z6 (by kernel_rfl)) (z7 (by kernel_rfl)) rfl rfl rfl (q_load1 oneT_3 rfl (rd_stb .here rfl)) ?_
   refine WD.c (i:=21) (d:=24) (by kernel_rfl) rfl (z6 (by kernel_rfl)) (z7 (by kernel_rfl)) rfl rfl rfl (zk (l:=[.tmp 23]) Try.call28 (.cons rfl .nil)) (fun w hw=>by have pz:=(hz.call hw (.nil : Sel [stb z9J 30 [(.int .i64 z1f.fN),(.int .i64 z1f.fD)]] [] [stb z9J 30 [(.int .i64 z1f.fN),(.int .i64 z1f.fD)]])); exact w_rat_size (Z:=_)  (z8a:=z1f.fN) (r:=zgk) w pz  zry) ?_
   refine WD.a (i:=22) (d:=25) (by kernel_rfl) rfl (z6 (by kernel_rfl)) (z7 (by kernel_rfl)) rfl rfl rfl (fun _=>q_fieldAddr fo_30_1 rfl rfl) ?_
   refine WD.e (i:=23) (d:=26) (by kernel_rfl) rfl (z6 (by kernel_rfl)) (z7 (by kernel_rfl)) rfl rfl rfl (q_load1 oneT_3 rfl (rd_stb .here rfl)) ?_
   refine WD.c (i:=24) (d:=27) (by kernel_rfl) rfl (z6 (by kernel_rfl)) (z7 (by kernel_rfl)) rfl rfl rfl (zk (l:=[.tmp 26]) Try.call28 (.cons rfl .nil)) (fun w hw=>by have pz:=(hz.call hw (.nil : Sel [stb z9J 30 [(.int .i64 z1f.fN),(.int .i64 z1f.fD)]] [] [stb z9J 30 [(.int .i64 z1f.fN),(.int .i64 z1f.fD)]])); exact w_rat_size (Z:=_)  (z8a:=z1f.fD) (r:=zgl) w pz  zrz) ?_
   refine WD.c (i:=25) (d:=28) (by kernel_rfl) rfl (z6 (by kernel_rfl)) (z7 (by kernel_rfl)) rfl rfl rfl (zk (l:=[.tmp 24,.tmp 27]) Try.call29 (.cons rfl (.cons rfl .nil))) (fun w hw=>by have pz:=(hz.call hw (.nil : Sel [stb z9J 30 [(.int .i64 z1f.fN),(.int .i64 z1f.fD)]] [] [stb z9J 30 [(.int .i64 z1f.fN),(.int .i64 z1f.fD)]])); exact w_rat_gcd_uint64 (Z:=_)  (z9H:=zgk) (z9I:=zgl) (r:=ziy) w pz  zrA) ?_
   refine WD.a (i:=26) (d:=29) (by kernel_rfl) rfl (z6 (by kernel_rfl)) (z7 (by kernel_rfl)) rfl rfl rfl (fun _=>q_eql rfl rfl) ?_
   refine WD.a (i:=27) (d:=30) (by kernel_rfl) rfl (z6 (by kernel_rfl)) (z7 (by kernel_rfl)) rfl rfl rfl (fun _=>q_pickT rfl rfl) ?_
   refine WD.reL (.cons .here .nil) ?_ znD
   exact (.cons rfl (.cons (zr (Eq.symm ziG)) (.cons (zr z9K) .nil)))
  ·have ziH:=hb'; clear hb'
   have ziI:=ite_f znz ziH
   replace ziI:=Option.some.inj ziI
   refine WD.pin (i:=21) rfl ziH ?_
   refine WD.b (i:=19) (d:=22) (by kernel_rfl) rfl (z6 (by kernel_rfl)) (z7 (by kernel_rfl)) rfl rfl rfl ?_
   refine WD.b (i:=20) (d:=23) (by kernel_rfl) rfl (z6 (by kernel_rfl)) (z7 (by kernel_rfl)) rfl rfl rfl ?_
   refine WD.b (i:=21) (d:=24) (by kernel_rfl) rfl (z6 (by kernel_rfl)) (z7 (by kernel_rfl)) rfl rfl rfl ?_
   refine WD.b (i:=22) (d:=25) (by kernel_rfl) rfl (z6 (by kernel_rfl)) (z7 (by kernel_rfl)) rfl rfl rfl ?_
   refine WD.b (i:=23) (d:=26) (by kernel_rfl) rfl (z6 (by kernel_rfl)) (z7 (by kernel_rfl)) rfl rfl rfl ?_
   refine WD.b (i:=24) (d:=27) (by kernel_rfl) rfl (z6 (by kernel_rfl)) (z7 (by kernel_rfl)) rfl rfl rfl ?_
   refine WD.b (i:=25) (d:=28) (by kernel_rfl) rfl (z6 (by kernel_rfl)) (z7 (by kernel_rfl)) rfl rfl rfl ?_
   refine WD.b (i:=26) (d:=29) (by kernel_rfl) rfl (z6 (by kernel_rfl)) (z7 (by kernel_rfl)) rfl rfl rfl ?_
   refine WD.a (i:=27) (d:=30) (by kernel_rfl) rfl (z6 (by kernel_rfl)) (z7 (by kernel_rfl)) rfl rfl rfl (fun _=>q_pickF rfl rfl) ?_
   refine WD.reL (.cons .here .nil) ?_ znD
   exact (.cons rfl (.cons (zr (Eq.symm ziH)) (.cons (zr ziI) .nil)))
 refine WD.d #[true,true,true,true,true,true,true,true,true,true,true,true,true,true,true,true,true,true,true,true,true,true,true,true,true,true,true,true,false] (by kernel_rfl) ?_
 refine WD.a (i:=28) (d:=2) (by kernel_rfl) rfl (z6 (by kernel_rfl)) (z7 (by kernel_rfl)) rfl rfl rfl (fun _=>q_z rfl) ?_
 refine WD.done (by kernel_rfl) ?_
 refine WX.a ?_
 refine WC.ret ?_
 obtain rfl:=Option.some.inj h
 refine WX.bpRet Try.results39 (.tmp rfl .nil) (fun w hw=>?_)
 exact ⟨ret1 rfl,hw.sub .nil⟩
def m_curve_good (z3y : z2) : Option Bool :=
 (m_rat_Valid z3y).bind fun zeA=>some (zeA && (decide (z3y.fN ≥ 0)))
set_option maxRecDepth 20000 in
theorem w_curve_good (Z : Zp)   (z3y : z2) (r : Bool) (w₀ : World) (hz : PZ [] w₀ Z)
  (h : m_curve_good z3y = some r) :
  Calls Try.prog 44 #[(.agg #[(.int .i64 z3y.fN),(.int .i64 z3y.fD)])] w₀ fun e w'=>e = .returned (.bool r) ∧ Hp [] w₀ w' []:=by
 unfold m_curve_good at h
 refine Calls.ofWC (vs:=[(.agg #[(.int .i64 z3y.fN),(.int .i64 z3y.fD)])]) (pre:=[]) (env:=[(0,(.agg #[(.int .i64 z3y.fN),(.int .i64 z3y.fD)]))]) Try.func44 rfl Try.ntmps44 rfl (Hp.nil w₀ _) rfl ?_
 refine WC.b ?_
 refine WC.a ?_
 refine WL.new (dd:=1) rfl rfl rfl (e_box (cs:=[(.int .i64 z3y.fN),(.int .i64 z3y.fD)]) rfl rfl) ?_
 intro zeB _
 refine WL.a (d:=2) rfl rfl rfl (q_z rfl) ?_
 refine WL.nil ?_
 refine WX.a ?_
 refine WC.b ?_
 obtain ⟨zeA,zrB,h⟩:=zd h
 refine WC.a ?_
 refine WL.a (d:=3) rfl rfl rfl (q_loadA (cs:=[(.int .i64 z3y.fN),(.int .i64 z3y.fD)]) aggT_30 rfl rfl (rd_all .here)) ?_
 refine WL.b (dd:=4) rfl rfl rfl (zk (l:=[.tmp 3]) Try.call39 (.cons rfl .nil)) (.nil : Sel [stb zeB 30 [(.int .i64 z3y.fN),(.int .i64 z3y.fD)]] [] [stb zeB 30 [(.int .i64 z3y.fN),(.int .i64 z3y.fD)]]) (fun w hw=>by have pz:=(hz.call hw (.nil : Sel [stb zeB 30 [(.int .i64 z3y.fN),(.int .i64 z3y.fD)]] [] [stb zeB 30 [(.int .i64 z3y.fN),(.int .i64 z3y.fD)]])); exact w_rat_Valid (Z:=_)  (z1f:=z3y) (r:=zeA) w pz  zrB) ?_
 refine WL.a (d:=5) rfl rfl rfl (q_m rfl) ?_
 refine WL.cut0 True [(2,(.bool false)),(9,(.bool (zeA && (decide (z3y.fN ≥ 0)))))] [stb zeB 30 [(.int .i64 z3y.fN),(.int .i64 z3y.fD)]] 4 ?_ (fun _=>?_)
 ·rcases Bool.eq_false_or_eq_true zeA with hb' | hb'
  ·have znE:=hb'; clear hb'
   refine WL.pin (i:=5) rfl znE ?_
   refine WL.a (d:=6) rfl rfl rfl (q_fieldAddr fo_30_0 rfl rfl) ?_
   refine WL.a (d:=7) rfl rfl rfl (q_load1 oneT_3 rfl (rd_stb .here rfl)) ?_
   refine WL.a (d:=8) rfl rfl rfl (q_geq rfl rfl) ?_
   refine WL.a (d:=9) rfl rfl rfl (q_pickT rfl rfl) ?_
   exact WL.cutEnd () trivial (.cons rfl (.cons (zr (and_r znE)) .nil)) (.cons .here .nil)
  ·have znF:=hb'; clear hb'
   refine WL.pin (i:=5) rfl znF ?_
   refine WL.e rfl rfl rfl ?_
   refine WL.e rfl rfl rfl ?_
   refine WL.e rfl rfl rfl ?_
   refine WL.a (d:=9) rfl rfl rfl (q_pickF rfl rfl) ?_
   exact WL.cutEnd () trivial (.cons rfl (.cons (zr (and_l znF)) .nil)) (.cons .here .nil)
 ·skip
  refine WL.a (d:=2) rfl rfl rfl (q_z rfl) ?_
  refine WL.nil ?_
  refine WX.a ?_
  refine WC.ret ?_
  obtain rfl:=Option.some.inj h
  refine WX.bpRet Try.results44 (.tmp rfl .nil) (fun w hw=>?_)
  exact ⟨ret1 rfl,hw.sub .nil⟩
def m_curve_Valid_1 (z1K : z1) : Option Bool :=
 (m_curve_good z1K.fBurst).bind fun zgm=>(if !zgm then some true else (m_curve_good z1K.fRate).bind fun ziJ=>some (!ziJ)).bind fun ziK=>some ziK
set_option maxRecDepth 20000 in
theorem w_curve_Valid_1 (Z : Zp)   (z1K : z1) (r : Bool) (w₀ : World) (hz : PZ [] w₀ Z)
  (h : m_curve_Valid_1 z1K = some r) :
  Calls Try.prog 50 #[(.agg #[(.int .i64 z1K.fBurst.fN),(.int .i64 z1K.fBurst.fD),(.int .i64 z1K.fRate.fN),(.int .i64 z1K.fRate.fD)])] w₀ fun e w'=>e = .returned (.bool r) ∧ Hp [] w₀ w' []:=by
 unfold m_curve_Valid_1 at h
 refine Calls.ofWC (vs:=[(.agg #[(.int .i64 z1K.fBurst.fN),(.int .i64 z1K.fBurst.fD),(.int .i64 z1K.fRate.fN),(.int .i64 z1K.fRate.fD)])]) (pre:=[]) (env:=[(0,(.agg #[(.int .i64 z1K.fBurst.fN),(.int .i64 z1K.fBurst.fD),(.int .i64 z1K.fRate.fN),(.int .i64 z1K.fRate.fD)]))]) Try.func50 rfl Try.ntmps50 rfl (Hp.nil w₀ _) rfl ?_
 refine WC.b ?_
 refine WC.a ?_
 refine WL.new (dd:=1) rfl rfl rfl (e_box (cs:=[(.int .i64 z1K.fBurst.fN),(.int .i64 z1K.fBurst.fD),(.int .i64 z1K.fRate.fN),(.int .i64 z1K.fRate.fD)]) rfl rfl) ?_
 intro z9L _
 refine WL.a (d:=2) rfl rfl rfl (q_z rfl) ?_
 refine WL.nil ?_
 refine WX.a ?_
 refine WC.b ?_
 obtain ⟨zgm,zrC,h⟩:=zd h
 obtain ⟨ziK,znG,h⟩:=zd h
 refine WC.a ?_
 refine WL.a (d:=3) rfl rfl rfl (q_fieldAddr fo_35_0 rfl rfl) ?_
 refine WL.a (d:=4) rfl rfl rfl (q_loadA (cs:=[(.int .i64 z1K.fBurst.fN),(.int .i64 z1K.fBurst.fD)]) aggT_30 rfl rfl (rd_sub (s:=2) .here rfl)) ?_
 refine WL.b (dd:=5) rfl rfl rfl (zk (l:=[.tmp 4]) Try.call44 (.cons rfl .nil)) (.nil : Sel [stb z9L 35 [(.int .i64 z1K.fBurst.fN),(.int .i64 z1K.fBurst.fD),(.int .i64 z1K.fRate.fN),(.int .i64 z1K.fRate.fD)]] [] [stb z9L 35 [(.int .i64 z1K.fBurst.fN),(.int .i64 z1K.fBurst.fD),(.int .i64 z1K.fRate.fN),(.int .i64 z1K.fRate.fD)]]) (fun w hw=>by have pz:=(hz.call hw (.nil : Sel [stb z9L 35 [(.int .i64 z1K.fBurst.fN),(.int .i64 z1K.fBurst.fD),(.int .i64 z1K.fRate.fN),(.int .i64 z1K.fRate.fD)]] [] [stb z9L 35 [(.int .i64 z1K.fBurst.fN),(.int .i64 z1K.fBurst.fD),(.int .i64 z1K.fRate.fN),(.int .i64 z1K.fRate.fD)]])); exact w_curve_good (Z:=_)  (z3y:=z1K.fBurst) (r:=zgm) w pz  zrC) ?_
 refine WL.a (d:=6) rfl rfl rfl (q_not rfl) ?_
 refine WL.a (d:=7) rfl rfl rfl (q_m rfl) ?_
 refine WL.cut0 True [(2,(.bool false)),(12,(.bool ziK))] [stb z9L 35 [(.int .i64 z1K.fBurst.fN),(.int .i64 z1K.fBurst.fD),(.int .i64 z1K.fRate.fN),(.int .i64 z1K.fRate.fD)]] 5 ?_ (fun _=>?_)
 ·rcases Bool.eq_false_or_eq_true (!zgm) with hb' | hb'
  ·have znH:=hb'; clear hb'
   have ziL:=ite_t znG znH
   replace ziL:=Option.some.inj ziL
   refine WL.pin (i:=7) rfl znH ?_
   refine WL.e rfl rfl rfl ?_
   refine WL.e rfl rfl rfl ?_
   refine WL.e rfl rfl rfl ?_
   refine WL.e rfl rfl rfl ?_
   refine WL.a (d:=12) rfl rfl rfl (q_pickT rfl rfl) ?_
   exact WL.cutEnd () trivial (.cons rfl (.cons (zr ziL) .nil)) (.cons .here .nil)
  ·have znI:=hb'; clear hb'
   have zeC:=ite_f znG znI
   obtain ⟨ziJ,zrD,zeC⟩:=zd zeC
   replace zeC:=Option.some.inj zeC
   refine WL.pin (i:=7) rfl znI ?_
   refine WL.a (d:=8) rfl rfl rfl (q_fieldAddr fo_35_1 rfl rfl) ?_
   refine WL.a (d:=9) rfl rfl rfl (q_loadA (cs:=[(.int .i64 z1K.fRate.fN),(.int .i64 z1K.fRate.fD)]) aggT_30 rfl rfl (rd_sub (s:=2) .here rfl)) ?_
   refine WL.b (dd:=10) rfl rfl rfl (zk (l:=[.tmp 9]) Try.call44 (.cons rfl .nil)) (.nil : Sel [stb z9L 35 [(.int .i64 z1K.fBurst.fN),(.int .i64 z1K.fBurst.fD),(.int .i64 z1K.fRate.fN),(.int .i64 z1K.fRate.fD)]] [] [stb z9L 35 [(.int .i64 z1K.fBurst.fN),(.int .i64 z1K.fBurst.fD),(.int .i64 z1K.fRate.fN),(.int .i64 z1K.fRate.fD)]]) (fun w hw=>by have pz:=(hz.call hw (.nil : Sel [stb z9L 35 [(.int .i64 z1K.fBurst.fN),(.int .i64 z1K.fBurst.fD),(.int .i64 z1K.fRate.fN),(.int .i64 z1K.fRate.fD)]] [] [stb z9L 35 [(.int .i64 z1K.fBurst.fN),(.int .i64 z1K.fBurst.fD),(.int .i64 z1K.fRate.fN),(.int .i64 z1K.fRate.fD)]])); exact w_curve_good (Z:=_)  (z3y:=z1K.fRate) (r:=ziJ) w pz  zrD) ?_
   refine WL.a (d:=11) rfl rfl rfl (q_not rfl) ?_
   refine WL.a (d:=12) rfl rfl rfl (q_pickF rfl rfl) ?_
   exact WL.cutEnd () trivial (.cons rfl (.cons (zr zeC) .nil)) (.cons .here .nil)
 ·skip
  refine WL.a (d:=2) rfl rfl rfl (q_z rfl) ?_
  refine WL.nil ?_
  refine WX.a ?_
  refine WC.ret ?_
  obtain rfl:=Option.some.inj h
  refine WX.bpRet Try.results50 (.tmp rfl .nil) (fun w hw=>?_)
  exact ⟨ret1 rfl,hw.sub .nil⟩
def m_slices_IndexFunc_api_Curve_api_Bucket_L2 (z3F : List z1) (z8J : z1 → Option Bool) (z9M : Option Int) : Nat → Int → Option Int
 | 0,_=>none
 | ziM + 1,z3Y=>if decide (z3Y < ((z3F.length : Nat) : Int)) then chk ((0 : Int) ≤ z3Y ∧ z3Y < ((z3F.length : Nat) : Int)) ((z8J (⟨(⟨(((nth z3F z3Y).fBurst).fN),(((nth z3F z3Y).fBurst).fD)⟩ : z2),(⟨(((nth z3F z3Y).fRate).fN),(((nth z3F z3Y).fRate).fD)⟩ : z2)⟩ : z1)).bind fun ziN=>if ziN then some z3Y else m_slices_IndexFunc_api_Curve_api_Bucket_L2 z3F z8J z9M ziM (i64 (z3Y + 1))) else z9M
theorem m_slices_IndexFunc_api_Curve_api_Bucket_L2_fuel {n : Nat} {z3F : List z1} {z8J : z1 → Option Bool} {z9M : Option Int} {z3Y : Int} {r : Int} (h : m_slices_IndexFunc_api_Curve_api_Bucket_L2 z3F z8J z9M n z3Y = some r) : ∃ m,n = m + 1:=by
 cases n with
 | zero=>cases h
 | succ m=>exact ⟨m,rfl⟩
def m_slices_IndexFunc_api_Curve_api_Bucket (z3F : List z1) (z8J : z1 → Option Bool) : Option Int :=
 jp0 (some (-1)) fun z9M=>m_slices_IndexFunc_api_Curve_api_Bucket_L2 z3F z8J z9M FUEL 0
set_option maxRecDepth 20000 in
theorem w_slices_IndexFunc_api_Curve_api_Bucket (Z : Zp)  (zd8 : Option Addr) (zd9 : Nat) (z9N : FuncId) (zbL : List Value) (z3F : List z1) (z8J : z1 → Option Bool) (r : Int) (w₀ : World) (hz : PZ [] w₀ Z)
  (zrE : ZS Z 4 (fun r x=>r = e35 x) zd8 zd9 z3F)
  (zrF : ∀ args w,(callFunc z9N args).run Try.prog w = .ok (.enter z9N args) w)
  (zrG : ∀ w : World,PZ [] w Z → ∀ (x0 : z1) (r : Bool),z8J x0 = some r → Calls Try.prog z9N (([(.agg #[(.int .i64 x0.fBurst.fN),(.int .i64 x0.fBurst.fD),(.int .i64 x0.fRate.fN),(.int .i64 x0.fRate.fD)])] : List Value) ++ zbL).toArray w fun e w'=>e = .returned (.bool r) ∧ Hp [] w w' [])
  (h : m_slices_IndexFunc_api_Curve_api_Bucket z3F z8J = some r) :
  Calls Try.prog 64 #[(.slice zd8 z3F.length zd9),(.func (.func z9N) #[] (zbL).toArray)] w₀ fun e w'=>e = .returned (.int .i64 r) ∧ Hp [] w₀ w' []:=by
 unfold m_slices_IndexFunc_api_Curve_api_Bucket at h
 refine Calls.ofWC (vs:=[(.slice zd8 z3F.length zd9),(.func (.func z9N) #[] (zbL).toArray)]) (pre:=[]) (env:=[(0,(.slice zd8 z3F.length zd9)),(1,(.func (.func z9N) #[] (zbL).toArray))]) Try.func64 rfl Try.ntmps64 rfl (Hp.nil w₀ _) rfl ?_
 refine WC.b ?_
 refine WC.a ?_
 refine WL.a (d:=4) rfl rfl rfl (q_z rfl) ?_
 refine WL.nil ?_
 refine WX.a ?_
 obtain ⟨z9M,zrH,h⟩:=jp0_elim h
 refine WC.seqMid0 ((z9M = some r)) ([]) ([]) ?_ ?_
 ·skip
  refine WC.b ?_
  refine WC.a ?_
  refine WL.a (d:=6) rfl rfl rfl (q_m rfl) ?_
  refine WL.a (d:=7) rfl rfl rfl (q_len Try.underlying39 rfl) ?_
  refine WL.a (d:=8) rfl rfl rfl (q_m rfl) ?_
  refine WL.nil ?_
  refine WX.a ?_
  refine WC.block ?_
  refine WC.loop2 (fun (zda : Nat) (z3Y : Int)=>(m_slices_IndexFunc_api_Curve_api_Bucket_L2 z3F z8J z9M zda z3Y = some r)) (fun (zda : Nat) (z3Y : Int)=>[(0,(.slice zd8 z3F.length zd9)),(1,(.func (.func z9N) #[] (zbL).toArray)),(7,(.int .i64 ((z3F.length : Nat) : Int))),(8,(.int .i64 z3Y))]) (fun (zda : Nat) (z3Y : Int)=>[]) (fun (zda : Nat) (z3Y : Int)=>zda) ⟨FUEL,0⟩ h (.cons rfl (.cons rfl (.cons rfl (.cons rfl .nil)))) .nil ?_
  rintro zda z3Y h
  obtain ⟨ziM,rfl⟩:=m_slices_IndexFunc_api_Curve_api_Bucket_L2_fuel h
  rw [m_slices_IndexFunc_api_Curve_api_Bucket_L2] at h
  refine WC.b ?_
  refine WC.a ?_
  refine WL.a (d:=9) rfl rfl rfl (q_lss rfl rfl) ?_
  refine WL.nil ?_
  refine WX.a ?_
  refine WC.b ?_
  refine WC.cond rfl (fun ziO=>?_) (fun ziO=>?_)
  ·replace h:=ite_t h ziO
   refine WC.skip ?_
   refine WX.a ?_
   refine WC.b ?_
   refine WC.block ?_
   refine WC.b ?_
   refine WC.a ?_
   refine WL.a (d:=10) rfl rfl rfl (q_m rfl) ?_
   refine WL.a (d:=5) rfl rfl rfl (q_z rfl) ?_
   refine WL.nil ?_
   refine WX.a ?_
   refine WC.b ?_
   obtain ⟨zrI,h⟩:=chk_elim h
   obtain ⟨ziN,zrJ,h⟩:=zd h
   refine WC.a ?_
   refine WL.a (d:=11) rfl rfl rfl (q_m rfl) ?_
   refine WL.a (d:=12) rfl rfl rfl (q_m rfl) ?_
   refine WL.a (d:=13) rfl rfl rfl (q_m rfl) ?_
   refine WL.znth (dd:=14) rfl rfl (Z:=Z) (Pr:=(fun r x=>r = e35 x)) elT_39 rfl rfl zrE zrI ?_
   rintro zzt zzu zrK zzv rfl
   refine WL.a (d:=15) rfl rfl rfl (q_loadA (cs:=[(.int .i64 (((nth z3F z3Y).fBurst).fN)),(.int .i64 (((nth z3F z3Y).fBurst).fD)),(.int .i64 (((nth z3F z3Y).fRate).fN)),(.int .i64 (((nth z3F z3Y).fRate).fD))]) aggT_35 rfl rfl (rd_zs hz.pv zrK)) ?_
   refine WL.b (dd:=16) rfl rfl rfl (run_callv (l:=[.tmp 15]) (f:=z9N) (caps:=zbL) zrF rfl (.cons rfl .nil)) .nil (fun w hw=>zrG w (hz.now hw) (⟨(⟨(((nth z3F z3Y).fBurst).fN),(((nth z3F z3Y).fBurst).fD)⟩ : z2),(⟨(((nth z3F z3Y).fRate).fN),(((nth z3F z3Y).fRate).fD)⟩ : z2)⟩ : z1) ziN  zrJ) ?_
   refine WL.nil ?_
   refine WX.a ?_
   refine WC.cond rfl (fun ziP=>?_) (fun ziP=>?_)
   ·replace h:=ite_t h ziP
    refine WC.b ?_
    refine WC.a ?_
    refine WL.a (d:=17) rfl rfl rfl (q_m rfl) ?_
    refine WL.a (d:=4) rfl rfl rfl (q_z rfl) ?_
    refine WL.nil ?_
    refine WX.a ?_
    refine WC.ret ?_
    refine WX.blockRet ?_
    refine WX.thenRet ?_
    refine WX.thenRet ?_
    refine WX.blockRet ?_
    refine WX.thenRet ?_
    obtain rfl:=Option.some.inj h
    refine WX.bpRet Try.results64 (.tmp rfl .nil) (fun w hw=>?_)
    exact ⟨ret1 rfl,hw.sub .nil⟩
   ·replace h:=ite_f h ziP
    refine WC.skip ?_
    refine WX.blockNormal ?_
    refine WX.a ?_
    refine WC.a ?_
    refine WL.a (d:=18) rfl rfl rfl (q_add rfl rfl rfl) ?_
    refine WL.a (d:=8) rfl rfl rfl (q_m rfl) ?_
    refine WL.nil ?_
    exact WX.round (G:=Nat × Int) ⟨ziM,(i64 (z3Y + 1))⟩ h (Nat.lt_succ_self _) (.cons rfl (.cons rfl (.cons rfl (.cons rfl .nil)))) .nil
  ·replace h:=ite_f h ziO
   refine WC.exit ?_
   refine WX.thenExit ?_
   refine WX.thenExit ?_
   refine WX.blockHit ?_
   exact WX.mid (G:=Unit) () h .nil .nil
 ·rintro  h
  replace h:=zrH.symm.trans h
  refine WC.b ?_
  refine WC.a ?_
  refine WL.a (d:=4) rfl rfl rfl (q_z rfl) ?_
  refine WL.nil ?_
  refine WX.a ?_
  refine WC.ret ?_
  obtain rfl:=Option.some.inj h
  refine WX.bpRet Try.results64 (.tmp rfl .nil) (fun w hw=>?_)
  exact ⟨ret1 rfl,hw.sub .nil⟩
def m_slices_ContainsFunc_api_Curve_api_Bucket (z9a : List z1) (zbM : z1 → Option Bool) : Option Bool :=
 (m_slices_IndexFunc_api_Curve_api_Bucket z9a zbM).bind fun ziQ=>some (decide (ziQ ≥ 0))
set_option maxRecDepth 20000 in
theorem w_slices_ContainsFunc_api_Curve_api_Bucket (Z : Zp)  (zbN : Option Addr) (zbO : Nat) (z9O : FuncId) (zbP : List Value) (z9a : List z1) (zbM : z1 → Option Bool) (r : Bool) (w₀ : World) (hz : PZ [] w₀ Z)
  (zrL : ZS Z 4 (fun r x=>r = e35 x) zbN zbO z9a)
  (zrM : ∀ args w,(callFunc z9O args).run Try.prog w = .ok (.enter z9O args) w)
  (zrN : ∀ w : World,PZ [] w Z → ∀ (x0 : z1) (r : Bool),zbM x0 = some r → Calls Try.prog z9O (([(.agg #[(.int .i64 x0.fBurst.fN),(.int .i64 x0.fBurst.fD),(.int .i64 x0.fRate.fN),(.int .i64 x0.fRate.fD)])] : List Value) ++ zbP).toArray w fun e w'=>e = .returned (.bool r) ∧ Hp [] w w' [])
  (h : m_slices_ContainsFunc_api_Curve_api_Bucket z9a zbM = some r) :
  Calls Try.prog 49 #[(.slice zbN z9a.length zbO),(.func (.func z9O) #[] (zbP).toArray)] w₀ fun e w'=>e = .returned (.bool r) ∧ Hp [] w₀ w' []:=by
 unfold m_slices_ContainsFunc_api_Curve_api_Bucket at h
 refine Calls.ofWC (vs:=[(.slice zbN z9a.length zbO),(.func (.func z9O) #[] (zbP).toArray)]) (pre:=[]) (env:=[(0,(.slice zbN z9a.length zbO)),(1,(.func (.func z9O) #[] (zbP).toArray))]) Try.func49 rfl Try.ntmps49 rfl (Hp.nil w₀ _) rfl ?_
 refine WC.b ?_
 refine WC.a ?_
 refine WL.a (d:=4) rfl rfl rfl (q_z rfl) ?_
 refine WL.nil ?_
 refine WX.a ?_
 refine WC.b ?_
 obtain ⟨ziQ,zrO,h⟩:=zd h
 refine WC.a ?_
 refine WL.a (d:=5) rfl rfl rfl (q_m rfl) ?_
 refine WL.a (d:=6) rfl rfl rfl (q_m rfl) ?_
 refine WL.b (dd:=7) rfl rfl rfl (zk (l:=[.tmp 5,.tmp 6]) Try.call64 (.cons rfl (.cons rfl .nil))) (.nil : Sel [] [] []) (fun w hw=>by have pz:=(hz.call hw (.nil : Sel [] [] [])); exact w_slices_IndexFunc_api_Curve_api_Bucket (Z:=_) (zd8:=zbN) (zd9:=zbO) (z9N:=z9O) (zbL:=zbP) (z3F:=z9a) (z8J:=zbM) (r:=ziQ) w pz zrL zrM zrN zrO) ?_
 refine WL.a (d:=8) rfl rfl rfl (q_geq rfl rfl) ?_
 refine WL.a (d:=4) rfl rfl rfl (q_z rfl) ?_
 refine WL.nil ?_
 refine WX.a ?_
 refine WC.ret ?_
 obtain rfl:=Option.some.inj h
 refine WX.bpRet Try.results49 (.tmp rfl .nil) (fun w hw=>?_)
 exact ⟨ret1 rfl,hw.sub .nil⟩
def m_curve_Valid (z4Z : List z1) : Option Bool :=
 (if (decide (((z4Z.length : Nat) : Int) ≥ 1)) && (decide (((z4Z.length : Nat) : Int) ≤ 32)) then (m_slices_ContainsFunc_api_Curve_api_Bucket z4Z (fun (y0 : z1)=>m_curve_Valid_1 y0)).bind fun ziR=>some (!ziR) else some false).bind fun ziS=>some ziS
set_option maxRecDepth 20000 in
theorem w_curve_Valid (Z : Zp)  (z8b : Option Addr) (z8c : Nat) (z4Z : List z1) (r : Bool) (w₀ : World) (hz : PZ [] w₀ Z)
  (zrP : ZS Z 4 (fun r x=>r = e35 x) z8b z8c z4Z)
  (h : m_curve_Valid z4Z = some r) :
  Calls Try.prog 30 #[(.slice z8b z4Z.length z8c)] w₀ fun e w'=>e = .returned (.bool r) ∧ Hp [] w₀ w' []:=by
 unfold m_curve_Valid at h
 refine Calls.ofWC (vs:=[(.slice z8b z4Z.length z8c)]) (pre:=[]) (env:=[(0,(.slice z8b z4Z.length z8c))]) Try.func30 rfl Try.ntmps30 rfl (Hp.nil w₀ _) rfl ?_
 refine WC.b ?_
 refine WC.a ?_
 refine WL.a (d:=2) rfl rfl rfl (q_z rfl) ?_
 refine WL.nil ?_
 refine WX.a ?_
 refine WC.b ?_
 obtain ⟨ziS,znJ,h⟩:=zd h
 refine WC.a ?_
 refine WL.a (d:=3) rfl rfl rfl (q_m rfl) ?_
 refine WL.a (d:=4) rfl rfl rfl (q_len Try.underlying39 rfl) ?_
 refine WL.a (d:=5) rfl rfl rfl (q_geq rfl rfl) ?_
 refine WL.a (d:=6) rfl rfl rfl (q_m rfl) ?_
 refine WL.cut0 True [(0,(.slice z8b z4Z.length z8c)),(2,(.bool false)),(10,(.bool ((decide (((z4Z.length : Nat) : Int) ≥ 1)) && (decide (((z4Z.length : Nat) : Int) ≤ 32)))))] [] 4 ?_ (fun _=>?_)
 ·rcases Bool.eq_false_or_eq_true (decide (((z4Z.length : Nat) : Int) ≥ 1)) with hb' | hb'
  ·have znK:=hb'; clear hb'
   refine WL.pin (i:=6) rfl znK ?_
   refine WL.a (d:=7) rfl rfl rfl (q_m rfl) ?_
   refine WL.a (d:=8) rfl rfl rfl (q_len Try.underlying39 rfl) ?_
   refine WL.a (d:=9) rfl rfl rfl (q_leq rfl rfl) ?_
   refine WL.a (d:=10) rfl rfl rfl (q_pickT rfl rfl) ?_
   exact WL.cutEnd () trivial (.cons rfl (.cons rfl (.cons (zr (and_r znK)) .nil))) .nil
  ·have znL:=hb'; clear hb'
   refine WL.pin (i:=6) rfl znL ?_
   refine WL.e rfl rfl rfl ?_
   refine WL.e rfl rfl rfl ?_
   refine WL.e rfl rfl rfl ?_
   refine WL.a (d:=10) rfl rfl rfl (q_pickF rfl rfl) ?_
   exact WL.cutEnd () trivial (.cons rfl (.cons rfl (.cons (zr (and_l znL)) .nil))) .nil
 ·skip
  refine WL.a (d:=11) rfl rfl rfl (q_m rfl) ?_
  refine WL.cut0 True [(2,(.bool false)),(15,(.bool ziS))] [] 4 ?_ (fun _=>?_)
  ·rcases Bool.eq_false_or_eq_true ((decide (((z4Z.length : Nat) : Int) ≥ 1)) && (decide (((z4Z.length : Nat) : Int) ≤ 32))) with hb' | hb'
   ·have znM:=hb'; clear hb'
    have zeD:=ite_t znJ znM
    obtain ⟨ziR,zrQ,zeD⟩:=zd zeD
    replace zeD:=Option.some.inj zeD
    refine WL.pin (i:=11) rfl znM ?_
    refine WL.a (d:=12) rfl rfl rfl (q_m rfl) ?_
    refine WL.b (dd:=13) rfl rfl rfl (zk (l:=[.tmp 12,.func 50]) Try.call49 (.cons rfl (.cons rfl .nil))) (.nil : Sel [] [] []) (fun w hw=>by have pz:=(hz.call hw (.nil : Sel [] [] [])); exact w_slices_ContainsFunc_api_Curve_api_Bucket (Z:=_) (zbN:=z8b) (zbO:=z8c) (z9O:=50) (zbP:=[]) (z9a:=z4Z) (zbM:=(fun (y0 : z1)=>m_curve_Valid_1 y0)) (r:=ziR) w pz zrP Try.call50 (fun w' hz' y0  r  hr=>w_curve_Valid_1 (Z:=_)  (z1K:=y0) (r:=r) w' hz'  hr) zrQ) ?_
    refine WL.a (d:=14) rfl rfl rfl (q_not rfl) ?_
    refine WL.a (d:=15) rfl rfl rfl (q_pickT rfl rfl) ?_
    exact WL.cutEnd () trivial (.cons rfl (.cons (zr zeD) .nil)) .nil
   ·have znN:=hb'; clear hb'
    have ziT:=ite_f znJ znN
    replace ziT:=Option.some.inj ziT
    refine WL.pin (i:=11) rfl znN ?_
    refine WL.e rfl rfl rfl ?_
    refine WL.e rfl rfl rfl ?_
    refine WL.e rfl rfl rfl ?_
    refine WL.a (d:=15) rfl rfl rfl (q_pickF rfl rfl) ?_
    exact WL.cutEnd () trivial (.cons rfl (.cons (zr ziT) .nil)) .nil
  ·skip
   refine WL.a (d:=2) rfl rfl rfl (q_z rfl) ?_
   refine WL.nil ?_
   refine WX.a ?_
   refine WC.ret ?_
   obtain rfl:=Option.some.inj h
   refine WX.bpRet Try.results30 (.tmp rfl .nil) (fun w hw=>?_)
   exact ⟨ret1 rfl,hw.sub .nil⟩
def m_calculus_search_check_1 (z9b : List z1) : Option Bool :=
 (m_curve_Valid z9b).bind fun ziU=>some (!ziU)
set_option maxRecDepth 20000 in
theorem w_calculus_search_check_1 (Z : Zp)  (zbQ : Option Addr) (zbR : Nat) (z9b : List z1) (r : Bool) (w₀ : World) (hz : PZ [] w₀ Z)
  (zrR : ZS Z 4 (fun r x=>r = e35 x) zbQ zbR z9b)
  (h : m_calculus_search_check_1 z9b = some r) :
  Calls Try.prog 67 #[(.slice zbQ z9b.length zbR)] w₀ fun e w'=>e = .returned (.bool r) ∧ Hp [] w₀ w' []:=by
 unfold m_calculus_search_check_1 at h
 refine Calls.ofWC (vs:=[(.slice zbQ z9b.length zbR)]) (pre:=[]) (env:=[(0,(.slice zbQ z9b.length zbR))]) Try.func67 rfl Try.ntmps67 rfl (Hp.nil w₀ _) rfl ?_
 refine WC.b ?_
 refine WC.a ?_
 refine WL.a (d:=2) rfl rfl rfl (q_z rfl) ?_
 refine WL.nil ?_
 refine WX.a ?_
 refine WC.b ?_
 obtain ⟨ziU,zrS,h⟩:=zd h
 refine WC.a ?_
 refine WL.a (d:=3) rfl rfl rfl (q_m rfl) ?_
 refine WL.b (dd:=4) rfl rfl rfl (zk (l:=[.tmp 3]) Try.call30 (.cons rfl .nil)) (.nil : Sel [] [] []) (fun w hw=>by have pz:=(hz.call hw (.nil : Sel [] [] [])); exact w_curve_Valid (Z:=_) (z8b:=zbQ) (z8c:=zbR) (z4Z:=z9b) (r:=ziU) w pz zrR zrS) ?_
 refine WL.a (d:=5) rfl rfl rfl (q_not rfl) ?_
 refine WL.a (d:=2) rfl rfl rfl (q_z rfl) ?_
 refine WL.nil ?_
 refine WX.a ?_
 refine WC.ret ?_
 obtain rfl:=Option.some.inj h
 refine WX.bpRet Try.results67 (.tmp rfl .nil) (fun w hw=>?_)
 exact ⟨ret1 rfl,hw.sub .nil⟩
def m_slices_IndexFunc_api_Curve_api_Curve_L2 (z5G : List (List z1)) (z8K : (List z1) → Option Bool) (z9P : Option Int) : Nat → Int → Option Int
 | 0,_=>none
 | ziV + 1,z6z=>if decide (z6z < ((z5G.length : Nat) : Int)) then chk ((0 : Int) ≤ z6z ∧ z6z < ((z5G.length : Nat) : Int)) ((z8K (nth z5G z6z)).bind fun ziW=>if ziW then some z6z else m_slices_IndexFunc_api_Curve_api_Curve_L2 z5G z8K z9P ziV (i64 (z6z + 1))) else z9P
theorem m_slices_IndexFunc_api_Curve_api_Curve_L2_fuel {n : Nat} {z5G : List (List z1)} {z8K : (List z1) → Option Bool} {z9P : Option Int} {z6z : Int} {r : Int} (h : m_slices_IndexFunc_api_Curve_api_Curve_L2 z5G z8K z9P n z6z = some r) : ∃ m,n = m + 1:=by
 cases n with
 | zero=>cases h
 | succ m=>exact ⟨m,rfl⟩
def m_slices_IndexFunc_api_Curve_api_Curve (z5G : List (List z1)) (z8K : (List z1) → Option Bool) : Option Int :=
 jp0 (some (-1)) fun z9P=>m_slices_IndexFunc_api_Curve_api_Curve_L2 z5G z8K z9P FUEL 0
set_option maxRecDepth 20000 in
theorem w_slices_IndexFunc_api_Curve_api_Curve (Z : Zp)  (zdb : Option Addr) (zdc : Nat) (z9Q : FuncId) (zbS : List Value) (z5G : List (List z1)) (z8K : (List z1) → Option Bool) (r : Int) (w₀ : World) (hz : PZ [] w₀ Z)
  (zrT : ZS Z 1 (p39 Z) zdb zdc z5G)
  (zrU : ∀ args w,(callFunc z9Q args).run Try.prog w = .ok (.enter z9Q args) w)
  (zrV : ∀ w : World,PZ [] w Z → ∀ (x0 : List z1) (ao0 : Option Addr) (cap0 : Nat) (r : Bool),ZS Z 4 (fun r x=>r = e35 x) ao0 cap0 x0 → z8K x0 = some r → Calls Try.prog z9Q (([(.slice ao0 x0.length cap0)] : List Value) ++ zbS).toArray w fun e w'=>e = .returned (.bool r) ∧ Hp [] w w' [])
  (h : m_slices_IndexFunc_api_Curve_api_Curve z5G z8K = some r) :
  Calls Try.prog 75 #[(.slice zdb z5G.length zdc),(.func (.func z9Q) #[] (zbS).toArray)] w₀ fun e w'=>e = .returned (.int .i64 r) ∧ Hp [] w₀ w' []:=by
 unfold m_slices_IndexFunc_api_Curve_api_Curve at h
 refine Calls.ofWC (vs:=[(.slice zdb z5G.length zdc),(.func (.func z9Q) #[] (zbS).toArray)]) (pre:=[]) (env:=[(0,(.slice zdb z5G.length zdc)),(1,(.func (.func z9Q) #[] (zbS).toArray))]) Try.func75 rfl Try.ntmps75 rfl (Hp.nil w₀ _) rfl ?_
 refine WC.b ?_
 refine WC.a ?_
 refine WL.a (d:=4) rfl rfl rfl (q_z rfl) ?_
 refine WL.nil ?_
 refine WX.a ?_
 obtain ⟨z9P,zrW,h⟩:=jp0_elim h
 refine WC.seqMid0 ((z9P = some r)) ([]) ([]) ?_ ?_
 ·skip
  refine WC.b ?_
  refine WC.a ?_
  refine WL.a (d:=6) rfl rfl rfl (q_m rfl) ?_
  refine WL.a (d:=7) rfl rfl rfl (q_len Try.underlying26 rfl) ?_
  refine WL.a (d:=8) rfl rfl rfl (q_m rfl) ?_
  refine WL.nil ?_
  refine WX.a ?_
  refine WC.block ?_
  refine WC.loop2 (fun (zdd : Nat) (z6z : Int)=>(m_slices_IndexFunc_api_Curve_api_Curve_L2 z5G z8K z9P zdd z6z = some r)) (fun (zdd : Nat) (z6z : Int)=>[(0,(.slice zdb z5G.length zdc)),(1,(.func (.func z9Q) #[] (zbS).toArray)),(7,(.int .i64 ((z5G.length : Nat) : Int))),(8,(.int .i64 z6z))]) (fun (zdd : Nat) (z6z : Int)=>[]) (fun (zdd : Nat) (z6z : Int)=>zdd) ⟨FUEL,0⟩ h (.cons rfl (.cons rfl (.cons rfl (.cons rfl .nil)))) .nil ?_
  rintro zdd z6z h
  obtain ⟨ziV,rfl⟩:=m_slices_IndexFunc_api_Curve_api_Curve_L2_fuel h
  rw [m_slices_IndexFunc_api_Curve_api_Curve_L2] at h
  refine WC.b ?_
  refine WC.a ?_
  refine WL.a (d:=9) rfl rfl rfl (q_lss rfl rfl) ?_
  refine WL.nil ?_
  refine WX.a ?_
  refine WC.b ?_
  refine WC.cond rfl (fun ziX=>?_) (fun ziX=>?_)
  ·replace h:=ite_t h ziX
   refine WC.skip ?_
   refine WX.a ?_
   refine WC.b ?_
   refine WC.block ?_
   refine WC.b ?_
   refine WC.a ?_
   refine WL.a (d:=10) rfl rfl rfl (q_m rfl) ?_
   refine WL.a (d:=5) rfl rfl rfl (q_z rfl) ?_
   refine WL.nil ?_
   refine WX.a ?_
   refine WC.b ?_
   obtain ⟨zrX,h⟩:=chk_elim h
   obtain ⟨ziW,zrY,h⟩:=zd h
   refine WC.a ?_
   refine WL.a (d:=11) rfl rfl rfl (q_m rfl) ?_
   refine WL.a (d:=12) rfl rfl rfl (q_m rfl) ?_
   refine WL.a (d:=13) rfl rfl rfl (q_m rfl) ?_
   refine WL.znth (dd:=14) rfl rfl (Z:=Z) (Pr:=(p39 Z)) elT_26 rfl rfl zrT zrX ?_
   rintro zzw zzx zrZ zzy ⟨zs0,zs1,rfl,zs2⟩
   refine WL.a (d:=15) rfl rfl rfl (q_load1 oneT_39 rfl (rd_z hz.pv zrZ rfl)) ?_
   refine WL.b (dd:=16) rfl rfl rfl (run_callv (l:=[.tmp 15]) (f:=z9Q) (caps:=zbS) zrU rfl (.cons rfl .nil)) .nil (fun w hw=>zrV w (hz.now hw) (nth z5G z6z) zs0 zs1 ziW zs2 zrY) ?_
   refine WL.nil ?_
   refine WX.a ?_
   refine WC.cond rfl (fun ziY=>?_) (fun ziY=>?_)
   ·replace h:=ite_t h ziY
    refine WC.b ?_
    refine WC.a ?_
    refine WL.a (d:=17) rfl rfl rfl (q_m rfl) ?_
    refine WL.a (d:=4) rfl rfl rfl (q_z rfl) ?_
    refine WL.nil ?_
    refine WX.a ?_
    refine WC.ret ?_
    refine WX.blockRet ?_
    refine WX.thenRet ?_
    refine WX.thenRet ?_
    refine WX.blockRet ?_
    refine WX.thenRet ?_
    obtain rfl:=Option.some.inj h
    refine WX.bpRet Try.results75 (.tmp rfl .nil) (fun w hw=>?_)
    exact ⟨ret1 rfl,hw.sub .nil⟩
   ·replace h:=ite_f h ziY
    refine WC.skip ?_
    refine WX.blockNormal ?_
    refine WX.a ?_
    refine WC.a ?_
    refine WL.a (d:=18) rfl rfl rfl (q_add rfl rfl rfl) ?_
    refine WL.a (d:=8) rfl rfl rfl (q_m rfl) ?_
    refine WL.nil ?_
    exact WX.round (G:=Nat × Int) ⟨ziV,(i64 (z6z + 1))⟩ h (Nat.lt_succ_self _) (.cons rfl (.cons rfl (.cons rfl (.cons rfl .nil)))) .nil
  ·replace h:=ite_f h ziX
   refine WC.exit ?_
   refine WX.thenExit ?_
   refine WX.thenExit ?_
   refine WX.blockHit ?_
   exact WX.mid (G:=Unit) () h .nil .nil
 ·rintro  h
  replace h:=zrW.symm.trans h
  refine WC.b ?_
  refine WC.a ?_
  refine WL.a (d:=4) rfl rfl rfl (q_z rfl) ?_
  refine WL.nil ?_
  refine WX.a ?_
  refine WC.ret ?_
  obtain rfl:=Option.some.inj h
  refine WX.bpRet Try.results75 (.tmp rfl .nil) (fun w hw=>?_)
  exact ⟨ret1 rfl,hw.sub .nil⟩
def m_slices_ContainsFunc_api_Curve_api_Curve (z9c : List (List z1)) (zbT : (List z1) → Option Bool) : Option Bool :=
 (m_slices_IndexFunc_api_Curve_api_Curve z9c zbT).bind fun ziZ=>some (decide (ziZ ≥ 0))
set_option maxRecDepth 20000 in
theorem w_slices_ContainsFunc_api_Curve_api_Curve (Z : Zp)  (zbU : Option Addr) (zbV : Nat) (z9R : FuncId) (zbW : List Value) (z9c : List (List z1)) (zbT : (List z1) → Option Bool) (r : Bool) (w₀ : World) (hz : PZ [] w₀ Z)
  (zs3 : ZS Z 1 (p39 Z) zbU zbV z9c)
  (zs4 : ∀ args w,(callFunc z9R args).run Try.prog w = .ok (.enter z9R args) w)
  (zs5 : ∀ w : World,PZ [] w Z → ∀ (x0 : List z1) (ao0 : Option Addr) (cap0 : Nat) (r : Bool),ZS Z 4 (fun r x=>r = e35 x) ao0 cap0 x0 → zbT x0 = some r → Calls Try.prog z9R (([(.slice ao0 x0.length cap0)] : List Value) ++ zbW).toArray w fun e w'=>e = .returned (.bool r) ∧ Hp [] w w' [])
  (h : m_slices_ContainsFunc_api_Curve_api_Curve z9c zbT = some r) :
  Calls Try.prog 66 #[(.slice zbU z9c.length zbV),(.func (.func z9R) #[] (zbW).toArray)] w₀ fun e w'=>e = .returned (.bool r) ∧ Hp [] w₀ w' []:=by
 unfold m_slices_ContainsFunc_api_Curve_api_Curve at h
 refine Calls.ofWC (vs:=[(.slice zbU z9c.length zbV),(.func (.func z9R) #[] (zbW).toArray)]) (pre:=[]) (env:=[(0,(.slice zbU z9c.length zbV)),(1,(.func (.func z9R) #[] (zbW).toArray))]) Try.func66 rfl Try.ntmps66 rfl (Hp.nil w₀ _) rfl ?_
 refine WC.b ?_
 refine WC.a ?_
 refine WL.a (d:=4) rfl rfl rfl (q_z rfl) ?_
 refine WL.nil ?_
 refine WX.a ?_
 refine WC.b ?_
 obtain ⟨ziZ,zs6,h⟩:=zd h
 refine WC.a ?_
 refine WL.a (d:=5) rfl rfl rfl (q_m rfl) ?_
 refine WL.a (d:=6) rfl rfl rfl (q_m rfl) ?_
 refine WL.b (dd:=7) rfl rfl rfl (zk (l:=[.tmp 5,.tmp 6]) Try.call75 (.cons rfl (.cons rfl .nil))) (.nil : Sel [] [] []) (fun w hw=>by have pz:=(hz.call hw (.nil : Sel [] [] [])); exact w_slices_IndexFunc_api_Curve_api_Curve (Z:=_) (zdb:=zbU) (zdc:=zbV) (z9Q:=z9R) (zbS:=zbW) (z5G:=z9c) (z8K:=zbT) (r:=ziZ) w pz zs3 zs4 zs5 zs6) ?_
 refine WL.a (d:=8) rfl rfl rfl (q_geq rfl rfl) ?_
 refine WL.a (d:=4) rfl rfl rfl (q_z rfl) ?_
 refine WL.nil ?_
 refine WX.a ?_
 refine WC.ret ?_
 obtain rfl:=Option.some.inj h
 refine WX.bpRet Try.results66 (.tmp rfl .nil) (fun w hw=>?_)
 exact ⟨ret1 rfl,hw.sub .nil⟩
def m_calculus_Valid (z11 : Sapi_Server) : Option Bool :=
 (m_rat_Valid z11.fRate).bind fun zde=>(if zde && (decide (z11.fRate.fN > 0)) then (m_rat_Valid z11.fLatency).bind fun zj0=>some zj0 else some false).bind fun zeE=>some (zeE && (decide (z11.fLatency.fN ≥ 0)))
set_option maxRecDepth 20000 in
theorem w_calculus_Valid (Z : Zp)   (z11 : Sapi_Server) (r : Bool) (w₀ : World) (hz : PZ [] w₀ Z)
  (h : m_calculus_Valid z11 = some r) :
  Calls Try.prog 47 #[(.agg #[(.int .i64 z11.fRate.fN),(.int .i64 z11.fRate.fD),(.int .i64 z11.fLatency.fN),(.int .i64 z11.fLatency.fD)])] w₀ fun e w'=>e = .returned (.bool r) ∧ Hp [] w₀ w' []:=by
 unfold m_calculus_Valid at h
 refine Calls.ofWC (vs:=[(.agg #[(.int .i64 z11.fRate.fN),(.int .i64 z11.fRate.fD),(.int .i64 z11.fLatency.fN),(.int .i64 z11.fLatency.fD)])]) (pre:=[]) (env:=[(0,(.agg #[(.int .i64 z11.fRate.fN),(.int .i64 z11.fRate.fD),(.int .i64 z11.fLatency.fN),(.int .i64 z11.fLatency.fD)]))]) Try.func47 rfl Try.ntmps47 rfl (Hp.nil w₀ _) rfl ?_
 refine WC.b ?_
 refine WC.a ?_
 refine WL.new (dd:=1) rfl rfl rfl (e_box (cs:=[(.int .i64 z11.fRate.fN),(.int .i64 z11.fRate.fD),(.int .i64 z11.fLatency.fN),(.int .i64 z11.fLatency.fD)]) rfl rfl) ?_
 intro z7Q _
 refine WL.a (d:=2) rfl rfl rfl (q_z rfl) ?_
 refine WL.nil ?_
 refine WX.a ?_
 refine WC.b ?_
 obtain ⟨zde,zs7,h⟩:=zd h
 obtain ⟨zeE,znO,h⟩:=zd h
 refine WC.a ?_
 refine WL.a (d:=3) rfl rfl rfl (q_fieldAddr fo_43_0 rfl rfl) ?_
 refine WL.a (d:=4) rfl rfl rfl (q_loadA (cs:=[(.int .i64 z11.fRate.fN),(.int .i64 z11.fRate.fD)]) aggT_30 rfl rfl (rd_sub (s:=2) .here rfl)) ?_
 refine WL.b (dd:=5) rfl rfl rfl (zk (l:=[.tmp 4]) Try.call39 (.cons rfl .nil)) (.nil : Sel [stb z7Q 43 [(.int .i64 z11.fRate.fN),(.int .i64 z11.fRate.fD),(.int .i64 z11.fLatency.fN),(.int .i64 z11.fLatency.fD)]] [] [stb z7Q 43 [(.int .i64 z11.fRate.fN),(.int .i64 z11.fRate.fD),(.int .i64 z11.fLatency.fN),(.int .i64 z11.fLatency.fD)]]) (fun w hw=>by have pz:=(hz.call hw (.nil : Sel [stb z7Q 43 [(.int .i64 z11.fRate.fN),(.int .i64 z11.fRate.fD),(.int .i64 z11.fLatency.fN),(.int .i64 z11.fLatency.fD)]] [] [stb z7Q 43 [(.int .i64 z11.fRate.fN),(.int .i64 z11.fRate.fD),(.int .i64 z11.fLatency.fN),(.int .i64 z11.fLatency.fD)]])); exact w_rat_Valid (Z:=_)  (z1f:=z11.fRate) (r:=zde) w pz  zs7) ?_
 refine WL.a (d:=6) rfl rfl rfl (q_m rfl) ?_
 refine WL.cut0 True [(1,(.pointer (some ⟨z7Q,0,none⟩))),(2,(.bool false)),(11,(.bool (zde && (decide (z11.fRate.fN > 0)))))] [stb z7Q 43 [(.int .i64 z11.fRate.fN),(.int .i64 z11.fRate.fD),(.int .i64 z11.fLatency.fN),(.int .i64 z11.fLatency.fD)]] 5 ?_ (fun _=>?_)
 ·rcases Bool.eq_false_or_eq_true zde with hb' | hb'
  ·have znP:=hb'; clear hb'
   refine WL.pin (i:=6) rfl znP ?_
   refine WL.a (d:=7) rfl rfl rfl (q_fieldAddr fo_43_0 rfl rfl) ?_
   refine WL.a (d:=8) rfl rfl rfl (q_fieldAddr fo_30_0 rfl rfl) ?_
   refine WL.a (d:=9) rfl rfl rfl (q_load1 oneT_3 rfl (rd_stb .here rfl)) ?_
   refine WL.a (d:=10) rfl rfl rfl (q_gtr rfl rfl) ?_
   refine WL.a (d:=11) rfl rfl rfl (q_pickT rfl rfl) ?_
   exact WL.cutEnd () trivial (.cons rfl (.cons rfl (.cons (zr (and_r znP)) .nil))) (.cons .here .nil)
  ·have znQ:=hb'; clear hb'
   refine WL.pin (i:=6) rfl znQ ?_
   refine WL.e rfl rfl rfl ?_
   refine WL.e rfl rfl rfl ?_
   refine WL.e rfl rfl rfl ?_
   refine WL.e rfl rfl rfl ?_
   refine WL.a (d:=11) rfl rfl rfl (q_pickF rfl rfl) ?_
   exact WL.cutEnd () trivial (.cons rfl (.cons rfl (.cons (zr (and_l znQ)) .nil))) (.cons .here .nil)
 ·skip
  refine WL.a (d:=12) rfl rfl rfl (q_m rfl) ?_
  refine WL.cut0 True [(1,(.pointer (some ⟨z7Q,0,none⟩))),(2,(.bool false)),(16,(.bool zeE))] [stb z7Q 43 [(.int .i64 z11.fRate.fN),(.int .i64 z11.fRate.fD),(.int .i64 z11.fLatency.fN),(.int .i64 z11.fLatency.fD)]] 4 ?_ (fun _=>?_)
  ·rcases Bool.eq_false_or_eq_true (zde && (decide (z11.fRate.fN > 0))) with hb' | hb'
   ·have znR:=hb'; clear hb'
    have zeF:=ite_t znO znR
    obtain ⟨zj0,zs8,zeF⟩:=zd zeF
    replace zeF:=Option.some.inj zeF
    refine WL.pin (i:=12) rfl znR ?_
    refine WL.a (d:=13) rfl rfl rfl (q_fieldAddr fo_43_1 rfl rfl) ?_
    refine WL.a (d:=14) rfl rfl rfl (q_loadA (cs:=[(.int .i64 z11.fLatency.fN),(.int .i64 z11.fLatency.fD)]) aggT_30 rfl rfl (rd_sub (s:=2) .here rfl)) ?_
    refine WL.b (dd:=15) rfl rfl rfl (zk (l:=[.tmp 14]) Try.call39 (.cons rfl .nil)) (.nil : Sel [stb z7Q 43 [(.int .i64 z11.fRate.fN),(.int .i64 z11.fRate.fD),(.int .i64 z11.fLatency.fN),(.int .i64 z11.fLatency.fD)]] [] [stb z7Q 43 [(.int .i64 z11.fRate.fN),(.int .i64 z11.fRate.fD),(.int .i64 z11.fLatency.fN),(.int .i64 z11.fLatency.fD)]]) (fun w hw=>by have pz:=(hz.call hw (.nil : Sel [stb z7Q 43 [(.int .i64 z11.fRate.fN),(.int .i64 z11.fRate.fD),(.int .i64 z11.fLatency.fN),(.int .i64 z11.fLatency.fD)]] [] [stb z7Q 43 [(.int .i64 z11.fRate.fN),(.int .i64 z11.fRate.fD),(.int .i64 z11.fLatency.fN),(.int .i64 z11.fLatency.fD)]])); exact w_rat_Valid (Z:=_)  (z1f:=z11.fLatency) (r:=zj0) w pz  zs8) ?_
    refine WL.a (d:=16) rfl rfl rfl (q_pickT rfl rfl) ?_
    exact WL.cutEnd () trivial (.cons rfl (.cons rfl (.cons (zr zeF) .nil))) (.cons .here .nil)
   ·have znS:=hb'; clear hb'
    have zj1:=ite_f znO znS
    replace zj1:=Option.some.inj zj1
    refine WL.pin (i:=12) rfl znS ?_
    refine WL.e rfl rfl rfl ?_
    refine WL.e rfl rfl rfl ?_
    refine WL.e rfl rfl rfl ?_
    refine WL.a (d:=16) rfl rfl rfl (q_pickF rfl rfl) ?_
    exact WL.cutEnd () trivial (.cons rfl (.cons rfl (.cons (zr zj1) .nil))) (.cons .here .nil)
  ·skip
   refine WL.a (d:=17) rfl rfl rfl (q_m rfl) ?_
   refine WL.cut0 True [(2,(.bool false)),(22,(.bool (zeE && (decide (z11.fLatency.fN ≥ 0)))))] [stb z7Q 43 [(.int .i64 z11.fRate.fN),(.int .i64 z11.fRate.fD),(.int .i64 z11.fLatency.fN),(.int .i64 z11.fLatency.fD)]] 5 ?_ (fun _=>?_)
   ·rcases Bool.eq_false_or_eq_true zeE with hb' | hb'
    ·have znT:=hb'; clear hb'
     refine WL.pin (i:=17) rfl znT ?_
     refine WL.a (d:=18) rfl rfl rfl (q_fieldAddr fo_43_1 rfl rfl) ?_
     refine WL.a (d:=19) rfl rfl rfl (q_fieldAddr fo_30_0 rfl rfl) ?_
     refine WL.a (d:=20) rfl rfl rfl (q_load1 oneT_3 rfl (rd_stb .here rfl)) ?_
     refine WL.a (d:=21) rfl rfl rfl (q_geq rfl rfl) ?_
     refine WL.a (d:=22) rfl rfl rfl (q_pickT rfl rfl) ?_
     exact WL.cutEnd () trivial (.cons rfl (.cons (zr (and_r znT)) .nil)) (.cons .here .nil)
    ·have znU:=hb'; clear hb'
     refine WL.pin (i:=17) rfl znU ?_
     refine WL.e rfl rfl rfl ?_
     refine WL.e rfl rfl rfl ?_
     refine WL.e rfl rfl rfl ?_
     refine WL.e rfl rfl rfl ?_
     refine WL.a (d:=22) rfl rfl rfl (q_pickF rfl rfl) ?_
     exact WL.cutEnd () trivial (.cons rfl (.cons (zr (and_l znU)) .nil)) (.cons .here .nil)
   ·skip
    refine WL.a (d:=2) rfl rfl rfl (q_z rfl) ?_
    refine WL.nil ?_
    refine WX.a ?_
    refine WC.ret ?_
    obtain rfl:=Option.some.inj h
    refine WX.bpRet Try.results47 (.tmp rfl .nil) (fun w hw=>?_)
    exact ⟨ret1 rfl,hw.sub .nil⟩
def m_calculus_whole (z63 : Int) : Option z2 :=
 some (⟨z63,1⟩ : z2)
set_option maxRecDepth 20000 in
theorem w_calculus_whole (Z : Zp)   (z63 : Int) (r : z2) (w₀ : World) (hz : PZ [] w₀ Z)
  (h : m_calculus_whole z63 = some r) :
  Calls Try.prog 65 #[(.int .i64 z63)] w₀ fun e w'=>e = .returned (.agg #[(.int .i64 r.fN),(.int .i64 r.fD)]) ∧ Hp [] w₀ w' []:=by
 unfold m_calculus_whole at h
 refine Calls.ofWC (vs:=[(.int .i64 z63)]) (pre:=[]) (env:=[(0,(.int .i64 z63))]) Try.func65 rfl Try.ntmps65 rfl (Hp.nil w₀ _) rfl ?_
 refine WC.b ?_
 refine WC.a ?_
 refine WL.new (dd:=2) rfl rfl rfl (e_alloc (cs:=[(.int .i64 0),(.int .i64 0)]) zeroT_30 rfl) ?_
 intro zzz _
 refine WL.nil ?_
 refine WX.a ?_
 refine WC.b ?_
 refine WC.a ?_
 refine WL.a (d:=3) rfl rfl rfl (q_m rfl) ?_
 refine WL.a (d:=4) rfl rfl rfl (q_build (v:=(.agg #[(.int .i64 z63),(.int .i64 1)])) (Eos.parts (l:=[.tmp 3,.const (.int .i64 1)]) (.cons rfl (.cons rfl .nil)) [0,1]) (fun _=>by kernel_rfl)) ?_
 refine WL.eff0 rfl rfl (e_store (vs:=[(.int .i64 z63),(.int .i64 1)]) (ds:=[(.int .i64 z63),(.int .i64 1)]) sizT_30 rfl rfl rfl rfl (oc_cons rfl (oc_cons rfl oc_nil)) .here (Nat.le_of_ble_eq_true rfl) rfl) ?_
 refine WL.nil ?_
 refine WX.a ?_
 refine WC.ret ?_
 obtain rfl:=Option.some.inj h
 refine WX.bpRet Try.results65 (.agg rfl aggT_30 rfl (rd_all .here) .nil) (fun w hw=>?_)
 exact ⟨ret1 rfl,hw.sub .nil⟩
def m_calculus_zero  : Option z2 :=
 (m_calculus_whole 0).bind fun zbX=>some zbX
set_option maxRecDepth 20000 in
theorem w_calculus_zero (Z : Zp)    (r : z2) (w₀ : World) (hz : PZ [] w₀ Z)
  (h : m_calculus_zero  = some r) :
  Calls Try.prog 51 #[] w₀ fun e w'=>e = .returned (.agg #[(.int .i64 r.fN),(.int .i64 r.fD)]) ∧ Hp [] w₀ w' []:=by
 unfold m_calculus_zero at h
 refine Calls.ofWC (vs:=[]) (pre:=[]) (env:=[]) Try.func51 rfl Try.ntmps51 rfl (Hp.nil w₀ _) rfl ?_
 refine WC.b ?_
 refine WC.a ?_
 refine WL.new (dd:=0) rfl rfl rfl (e_alloc (cs:=[(.int .i64 0),(.int .i64 0)]) zeroT_30 rfl) ?_
 intro zgn _
 refine WL.nil ?_
 refine WX.a ?_
 refine WC.b ?_
 obtain ⟨zbX,zs9,h⟩:=zd h
 refine WC.a ?_
 refine WL.b (dd:=1) rfl rfl rfl (zk (l:=[.const (.int .i64 0)]) Try.call65 (.cons rfl .nil)) (.nil : Sel [stb zgn 30 [(.int .i64 0),(.int .i64 0)]] [] [stb zgn 30 [(.int .i64 0),(.int .i64 0)]]) (fun w hw=>by have pz:=(hz.call hw (.nil : Sel [stb zgn 30 [(.int .i64 0),(.int .i64 0)]] [] [stb zgn 30 [(.int .i64 0),(.int .i64 0)]])); exact w_calculus_whole (Z:=_)  (z63:=0) (r:=zbX) w pz  zs9) ?_
 refine WL.eff0 rfl rfl (e_store (vs:=[(.int .i64 zbX.fN),(.int .i64 zbX.fD)]) (ds:=[(.int .i64 zbX.fN),(.int .i64 zbX.fD)]) sizT_30 rfl rfl rfl rfl (oc_cons rfl (oc_cons rfl oc_nil)) .here (Nat.le_of_ble_eq_true rfl) rfl) ?_
 refine WL.nil ?_
 refine WX.a ?_
 refine WC.ret ?_
 obtain rfl:=Option.some.inj h
 refine WX.bpRet Try.results51 (.agg rfl aggT_30 rfl (rd_all .here) .nil) (fun w hw=>?_)
 exact ⟨ret1 rfl,hw.sub .nil⟩
def m_slices_Index_api_Curve_api_Bucket_L2 (z3G : List z1) (z3f : z1) (z9S : Option Int) : Nat → Int → Option Int
 | 0,_=>none
 | zj2 + 1,z3Z=>if decide (z3Z < ((z3G.length : Nat) : Int)) then chk ((0 : Int) ≤ z3Z ∧ z3Z < ((z3G.length : Nat) : Int)) (if decide (z3f = (⟨(⟨(((nth z3G z3Z).fBurst).fN),(((nth z3G z3Z).fBurst).fD)⟩ : z2),(⟨(((nth z3G z3Z).fRate).fN),(((nth z3G z3Z).fRate).fD)⟩ : z2)⟩ : z1)) then some z3Z else m_slices_Index_api_Curve_api_Bucket_L2 z3G z3f z9S zj2 (i64 (z3Z + 1))) else z9S
theorem m_slices_Index_api_Curve_api_Bucket_L2_fuel {n : Nat} {z3G : List z1} {z3f : z1} {z9S : Option Int} {z3Z : Int} {r : Int} (h : m_slices_Index_api_Curve_api_Bucket_L2 z3G z3f z9S n z3Z = some r) : ∃ m,n = m + 1:=by
 cases n with
 | zero=>cases h
 | succ m=>exact ⟨m,rfl⟩
def m_slices_Index_api_Curve_api_Bucket (z3G : List z1) (z3f : z1) : Option Int :=
 jp0 (some (-1)) fun z9S=>m_slices_Index_api_Curve_api_Bucket_L2 z3G z3f z9S FUEL 0
set_option maxRecDepth 20000 in
theorem w_slices_Index_api_Curve_api_Bucket (Z : Zp)  (zdf : Option Addr) (zdg : Nat) (z3G : List z1) (z3f : z1) (r : Int) (w₀ : World) (hz : PZ [] w₀ Z)
  (zsa : ZS Z 4 (fun r x=>r = e35 x) zdf zdg z3G)
  (h : m_slices_Index_api_Curve_api_Bucket z3G z3f = some r) :
  Calls Try.prog 72 #[(.slice zdf z3G.length zdg),(.agg #[(.int .i64 z3f.fBurst.fN),(.int .i64 z3f.fBurst.fD),(.int .i64 z3f.fRate.fN),(.int .i64 z3f.fRate.fD)])] w₀ fun e w'=>e = .returned (.int .i64 r) ∧ Hp [] w₀ w' []:=by
 unfold m_slices_Index_api_Curve_api_Bucket at h
 refine Calls.ofWC (vs:=[(.slice zdf z3G.length zdg),(.agg #[(.int .i64 z3f.fBurst.fN),(.int .i64 z3f.fBurst.fD),(.int .i64 z3f.fRate.fN),(.int .i64 z3f.fRate.fD)])]) (pre:=[]) (env:=[(0,(.slice zdf z3G.length zdg)),(1,(.agg #[(.int .i64 z3f.fBurst.fN),(.int .i64 z3f.fBurst.fD),(.int .i64 z3f.fRate.fN),(.int .i64 z3f.fRate.fD)]))]) Try.func72 rfl Try.ntmps72 rfl (Hp.nil w₀ _) rfl ?_
 refine WC.b ?_
 refine WC.a ?_
 refine WL.new (dd:=3) rfl rfl rfl (e_box (cs:=[(.int .i64 z3f.fBurst.fN),(.int .i64 z3f.fBurst.fD),(.int .i64 z3f.fRate.fN),(.int .i64 z3f.fRate.fD)]) rfl rfl) ?_
 intro znV _
 refine WL.a (d:=4) rfl rfl rfl (q_z rfl) ?_
 refine WL.nil ?_
 refine WX.a ?_
 obtain ⟨z9S,zsb,h⟩:=jp0_elim h
 refine WC.seqMid0 ((z9S = some r)) ([]) ([]) ?_ ?_
 ·skip
  refine WC.b ?_
  refine WC.a ?_
  refine WL.a (d:=6) rfl rfl rfl (q_m rfl) ?_
  refine WL.a (d:=7) rfl rfl rfl (q_len Try.underlying39 rfl) ?_
  refine WL.a (d:=8) rfl rfl rfl (q_m rfl) ?_
  refine WL.nil ?_
  refine WX.a ?_
  refine WC.block ?_
  refine WC.loop2 (fun (zdh : Nat) (z3Z : Int)=>(m_slices_Index_api_Curve_api_Bucket_L2 z3G z3f z9S zdh z3Z = some r)) (fun (zdh : Nat) (z3Z : Int)=>[(0,(.slice zdf z3G.length zdg)),(3,(.pointer (some ⟨znV,0,none⟩))),(7,(.int .i64 ((z3G.length : Nat) : Int))),(8,(.int .i64 z3Z))]) (fun (zdh : Nat) (z3Z : Int)=>[stb znV 35 [(.int .i64 z3f.fBurst.fN),(.int .i64 z3f.fBurst.fD),(.int .i64 z3f.fRate.fN),(.int .i64 z3f.fRate.fD)]]) (fun (zdh : Nat) (z3Z : Int)=>zdh) ⟨FUEL,0⟩ h (.cons rfl (.cons rfl (.cons rfl (.cons rfl .nil)))) (.cons .here .nil) ?_
  rintro zdh z3Z h
  obtain ⟨zj2,rfl⟩:=m_slices_Index_api_Curve_api_Bucket_L2_fuel h
  rw [m_slices_Index_api_Curve_api_Bucket_L2] at h
  refine WC.b ?_
  refine WC.a ?_
  refine WL.a (d:=9) rfl rfl rfl (q_lss rfl rfl) ?_
  refine WL.nil ?_
  refine WX.a ?_
  refine WC.b ?_
  refine WC.cond rfl (fun zj3=>?_) (fun zj3=>?_)
  ·replace h:=ite_t h zj3
   refine WC.skip ?_
   refine WX.a ?_
   refine WC.b ?_
   refine WC.block ?_
   refine WC.b ?_
   refine WC.a ?_
   refine WL.a (d:=10) rfl rfl rfl (q_m rfl) ?_
   refine WL.a (d:=5) rfl rfl rfl (q_z rfl) ?_
   refine WL.nil ?_
   refine WX.a ?_
   refine WC.b ?_
   obtain ⟨zsc,h⟩:=chk_elim h
   refine WC.draw (fun i=>[].contains i) [] rfl ?_
   refine WD.e (i:=0) (d:=11) (by kernel_rfl) rfl (z6 (by kernel_rfl)) (z7 (by kernel_rfl)) rfl rfl rfl (q_loadA (cs:=[(.int .i64 z3f.fBurst.fN),(.int .i64 z3f.fBurst.fD),(.int .i64 z3f.fRate.fN),(.int .i64 z3f.fRate.fD)]) aggT_35 rfl rfl (rd_all .here)) ?_
   refine WD.a (i:=1) (d:=12) (by kernel_rfl) rfl (z6 (by kernel_rfl)) (z7 (by kernel_rfl)) rfl rfl rfl (fun _=>q_m rfl) ?_
   refine WD.a (i:=2) (d:=13) (by kernel_rfl) rfl (z6 (by kernel_rfl)) (z7 (by kernel_rfl)) rfl rfl rfl (fun _=>q_m rfl) ?_
   refine WD.znth (j:=3) (dd:=14) (by kernel_rfl) rfl (z6 (by kernel_rfl)) (z7 (by kernel_rfl)) rfl rfl (Z:=Z) (Pr:=(fun r x=>r = e35 x)) elT_39 rfl rfl zsa zsc ?_
   rintro zzA zzB zsd zzC rfl
   refine WD.e (i:=4) (d:=15) (by kernel_rfl) rfl (z6 (by kernel_rfl)) (z7 (by kernel_rfl)) rfl rfl rfl (q_loadA (cs:=[(.int .i64 (((nth z3G z3Z).fBurst).fN)),(.int .i64 (((nth z3G z3Z).fBurst).fD)),(.int .i64 (((nth z3G z3Z).fRate).fN)),(.int .i64 (((nth z3G z3Z).fRate).fD))]) aggT_35 rfl rfl (rd_zs hz.pv zsd)) ?_
   refine WD.a (i:=5) (d:=16) (by kernel_rfl) rfl (z6 (by kernel_rfl)) (z7 (by kernel_rfl)) rfl rfl rfl (fun _=>q_aggeql (enc:=e35) (a:=z3f) (b:=(⟨(⟨(((nth z3G z3Z).fBurst).fN),(((nth z3G z3Z).fBurst).fD)⟩ : z2),(⟨(((nth z3G z3Z).fRate).fN),(((nth z3G z3Z).fRate).fD)⟩ : z2)⟩ : z1)) eqT_35 rfl rfl) ?_
   refine WD.done (by kernel_rfl) ?_
   refine WX.a ?_
   refine WC.cond rfl (fun zj4=>?_) (fun zj4=>?_)
   ·replace h:=ite_t h zj4
    refine WC.b ?_
    refine WC.a ?_
    refine WL.a (d:=17) rfl rfl rfl (q_m rfl) ?_
    refine WL.a (d:=4) rfl rfl rfl (q_z rfl) ?_
    refine WL.nil ?_
    refine WX.a ?_
    refine WC.ret ?_
    refine WX.blockRet ?_
    refine WX.thenRet ?_
    refine WX.thenRet ?_
    refine WX.blockRet ?_
    refine WX.thenRet ?_
    obtain rfl:=Option.some.inj h
    refine WX.bpRet Try.results72 (.tmp rfl .nil) (fun w hw=>?_)
    exact ⟨ret1 rfl,hw.sub .nil⟩
   ·replace h:=ite_f h zj4
    refine WC.skip ?_
    refine WX.blockNormal ?_
    refine WX.a ?_
    refine WC.a ?_
    refine WL.a (d:=18) rfl rfl rfl (q_add rfl rfl rfl) ?_
    refine WL.a (d:=8) rfl rfl rfl (q_m rfl) ?_
    refine WL.nil ?_
    exact WX.round (G:=Nat × Int) ⟨zj2,(i64 (z3Z + 1))⟩ h (Nat.lt_succ_self _) (.cons rfl (.cons rfl (.cons rfl (.cons rfl .nil)))) (.cons .here .nil)
  ·replace h:=ite_f h zj3
   refine WC.exit ?_
   refine WX.thenExit ?_
   refine WX.thenExit ?_
   refine WX.blockHit ?_
   exact WX.mid (G:=Unit) () h .nil .nil
 ·rintro  h
  replace h:=zsb.symm.trans h
  refine WC.b ?_
  refine WC.a ?_
  refine WL.a (d:=4) rfl rfl rfl (q_z rfl) ?_
  refine WL.nil ?_
  refine WX.a ?_
  refine WC.ret ?_
  obtain rfl:=Option.some.inj h
  refine WX.bpRet Try.results72 (.tmp rfl .nil) (fun w hw=>?_)
  exact ⟨ret1 rfl,hw.sub .nil⟩
def m_slices_Contains_api_Curve_api_Bucket (z9T : List z1) (z2E : z1) : Option Bool :=
 (m_slices_Index_api_Curve_api_Bucket z9T z2E).bind fun zj5=>some (decide (zj5 ≥ 0))
set_option maxRecDepth 20000 in
theorem w_slices_Contains_api_Curve_api_Bucket (Z : Zp)  (zdi : Option Addr) (zdj : Nat) (z9T : List z1) (z2E : z1) (r : Bool) (w₀ : World) (hz : PZ [] w₀ Z)
  (zse : ZS Z 4 (fun r x=>r = e35 x) zdi zdj z9T)
  (h : m_slices_Contains_api_Curve_api_Bucket z9T z2E = some r) :
  Calls Try.prog 59 #[(.slice zdi z9T.length zdj),(.agg #[(.int .i64 z2E.fBurst.fN),(.int .i64 z2E.fBurst.fD),(.int .i64 z2E.fRate.fN),(.int .i64 z2E.fRate.fD)])] w₀ fun e w'=>e = .returned (.bool r) ∧ Hp [] w₀ w' []:=by
 unfold m_slices_Contains_api_Curve_api_Bucket at h
 refine Calls.ofWC (vs:=[(.slice zdi z9T.length zdj),(.agg #[(.int .i64 z2E.fBurst.fN),(.int .i64 z2E.fBurst.fD),(.int .i64 z2E.fRate.fN),(.int .i64 z2E.fRate.fD)])]) (pre:=[]) (env:=[(0,(.slice zdi z9T.length zdj)),(1,(.agg #[(.int .i64 z2E.fBurst.fN),(.int .i64 z2E.fBurst.fD),(.int .i64 z2E.fRate.fN),(.int .i64 z2E.fRate.fD)]))]) Try.func59 rfl Try.ntmps59 rfl (Hp.nil w₀ _) rfl ?_
 refine WC.b ?_
 refine WC.a ?_
 refine WL.new (dd:=3) rfl rfl rfl (e_box (cs:=[(.int .i64 z2E.fBurst.fN),(.int .i64 z2E.fBurst.fD),(.int .i64 z2E.fRate.fN),(.int .i64 z2E.fRate.fD)]) rfl rfl) ?_
 intro zgo _
 refine WL.a (d:=4) rfl rfl rfl (q_z rfl) ?_
 refine WL.nil ?_
 refine WX.a ?_
 refine WC.b ?_
 obtain ⟨zj5,zsf,h⟩:=zd h
 refine WC.a ?_
 refine WL.a (d:=5) rfl rfl rfl (q_m rfl) ?_
 refine WL.a (d:=6) rfl rfl rfl (q_loadA (cs:=[(.int .i64 z2E.fBurst.fN),(.int .i64 z2E.fBurst.fD),(.int .i64 z2E.fRate.fN),(.int .i64 z2E.fRate.fD)]) aggT_35 rfl rfl (rd_all .here)) ?_
 refine WL.b (dd:=7) rfl rfl rfl (zk (l:=[.tmp 5,.tmp 6]) Try.call72 (.cons rfl (.cons rfl .nil))) (.nil : Sel [stb zgo 35 [(.int .i64 z2E.fBurst.fN),(.int .i64 z2E.fBurst.fD),(.int .i64 z2E.fRate.fN),(.int .i64 z2E.fRate.fD)]] [] [stb zgo 35 [(.int .i64 z2E.fBurst.fN),(.int .i64 z2E.fBurst.fD),(.int .i64 z2E.fRate.fN),(.int .i64 z2E.fRate.fD)]]) (fun w hw=>by have pz:=(hz.call hw (.nil : Sel [stb zgo 35 [(.int .i64 z2E.fBurst.fN),(.int .i64 z2E.fBurst.fD),(.int .i64 z2E.fRate.fN),(.int .i64 z2E.fRate.fD)]] [] [stb zgo 35 [(.int .i64 z2E.fBurst.fN),(.int .i64 z2E.fBurst.fD),(.int .i64 z2E.fRate.fN),(.int .i64 z2E.fRate.fD)]])); exact w_slices_Index_api_Curve_api_Bucket (Z:=_) (zdf:=zdi) (zdg:=zdj) (z3G:=z9T) (z3f:=z2E) (r:=zj5) w pz zse zsf) ?_
 refine WL.a (d:=8) rfl rfl rfl (q_geq rfl rfl) ?_
 refine WL.a (d:=4) rfl rfl rfl (q_z rfl) ?_
 refine WL.nil ?_
 refine WX.a ?_
 refine WC.ret ?_
 obtain rfl:=Option.some.inj h
 refine WX.bpRet Try.results59 (.tmp rfl .nil) (fun w hw=>?_)
 exact ⟨ret1 rfl,hw.sub .nil⟩
def m_rat_Cmp (z2d : z2) (z2e : z2) : Option Int :=
 (m_rat_Valid z2d).bind fun zgp=>(if !zgp then some true else (m_rat_Valid z2e).bind fun zj6=>some (!zj6)).bind fun zj7=>if zj7 then some 0 else if decide ((i64 (z2d.fN * z2e.fD)) < (i64 (z2e.fN * z2d.fD))) then some (-1) else if decide ((i64 (z2d.fN * z2e.fD)) > (i64 (z2e.fN * z2d.fD))) then some 1 else some 0
set_option maxRecDepth 20000 in
theorem w_rat_Cmp (Z : Zp)   (z2d : z2) (z2e : z2) (r : Int) (w₀ : World) (hz : PZ [] w₀ Z)
  (h : m_rat_Cmp z2d z2e = some r) :
  Calls Try.prog 18 #[(.agg #[(.int .i64 z2d.fN),(.int .i64 z2d.fD)]),(.agg #[(.int .i64 z2e.fN),(.int .i64 z2e.fD)])] w₀ fun e w'=>e = .returned (.int .i64 r) ∧ Hp [] w₀ w' []:=by
 unfold m_rat_Cmp at h
 refine Calls.ofWC (vs:=[(.agg #[(.int .i64 z2d.fN),(.int .i64 z2d.fD)]),(.agg #[(.int .i64 z2e.fN),(.int .i64 z2e.fD)])]) (pre:=[]) (env:=[(0,(.agg #[(.int .i64 z2d.fN),(.int .i64 z2d.fD)])),(1,(.agg #[(.int .i64 z2e.fN),(.int .i64 z2e.fD)]))]) Try.func18 rfl Try.ntmps18 rfl (Hp.nil w₀ _) rfl ?_
 refine WC.b ?_
 refine WC.a ?_
 refine WL.new (dd:=2) rfl rfl rfl (e_box (cs:=[(.int .i64 z2d.fN),(.int .i64 z2d.fD)]) rfl rfl) ?_
 intro z9d _
 refine WL.new (dd:=3) rfl rfl rfl (e_box (cs:=[(.int .i64 z2e.fN),(.int .i64 z2e.fD)]) rfl rfl) ?_
 intro z9e _
 refine WL.a (d:=4) rfl rfl rfl (q_z rfl) ?_
 refine WL.nil ?_
 refine WX.a ?_
 refine WC.b ?_
 refine WC.b ?_
 obtain ⟨zgp,zsg,h⟩:=zd h
 obtain ⟨zj7,znW,h⟩:=zd h
 refine WC.a ?_
 refine WL.a (d:=7) rfl rfl rfl (q_loadA (cs:=[(.int .i64 z2d.fN),(.int .i64 z2d.fD)]) aggT_30 rfl rfl (rd_all .h1)) ?_
 refine WL.b (dd:=8) rfl rfl rfl (zk (l:=[.tmp 7]) Try.call39 (.cons rfl .nil)) (.nil : Sel [stb z9e 30 [(.int .i64 z2e.fN),(.int .i64 z2e.fD)],stb z9d 30 [(.int .i64 z2d.fN),(.int .i64 z2d.fD)]] [] [stb z9e 30 [(.int .i64 z2e.fN),(.int .i64 z2e.fD)],stb z9d 30 [(.int .i64 z2d.fN),(.int .i64 z2d.fD)]]) (fun w hw=>by have pz:=(hz.call hw (.nil : Sel [stb z9e 30 [(.int .i64 z2e.fN),(.int .i64 z2e.fD)],stb z9d 30 [(.int .i64 z2d.fN),(.int .i64 z2d.fD)]] [] [stb z9e 30 [(.int .i64 z2e.fN),(.int .i64 z2e.fD)],stb z9d 30 [(.int .i64 z2d.fN),(.int .i64 z2d.fD)]])); exact w_rat_Valid (Z:=_)  (z1f:=z2d) (r:=zgp) w pz  zsg) ?_
 refine WL.a (d:=9) rfl rfl rfl (q_not rfl) ?_
 refine WL.a (d:=10) rfl rfl rfl (q_m rfl) ?_
 refine WL.cut0 True [(2,(.pointer (some ⟨z9d,0,none⟩))),(3,(.pointer (some ⟨z9e,0,none⟩))),(14,(.bool zj7))] [stb z9e 30 [(.int .i64 z2e.fN),(.int .i64 z2e.fD)],stb z9d 30 [(.int .i64 z2d.fN),(.int .i64 z2d.fD)]] 4 ?_ (fun _=>?_)
 ·rcases Bool.eq_false_or_eq_true (!zgp) with hb' | hb'
  ·have znX:=hb'; clear hb'
   have zj8:=ite_t znW znX
   replace zj8:=Option.some.inj zj8
   refine WL.pin (i:=10) rfl znX ?_
   refine WL.e rfl rfl rfl ?_
   refine WL.e rfl rfl rfl ?_
   refine WL.e rfl rfl rfl ?_
   refine WL.a (d:=14) rfl rfl rfl (q_pickT rfl rfl) ?_
   exact WL.cutEnd () trivial (.cons rfl (.cons rfl (.cons (zr zj8) .nil))) (.cons .here (.cons .here .nil))
  ·have znY:=hb'; clear hb'
   have zeG:=ite_f znW znY
   obtain ⟨zj6,zsh,zeG⟩:=zd zeG
   replace zeG:=Option.some.inj zeG
   refine WL.pin (i:=10) rfl znY ?_
   refine WL.a (d:=11) rfl rfl rfl (q_loadA (cs:=[(.int .i64 z2e.fN),(.int .i64 z2e.fD)]) aggT_30 rfl rfl (rd_all .here)) ?_
   refine WL.b (dd:=12) rfl rfl rfl (zk (l:=[.tmp 11]) Try.call39 (.cons rfl .nil)) (.nil : Sel [stb z9e 30 [(.int .i64 z2e.fN),(.int .i64 z2e.fD)],stb z9d 30 [(.int .i64 z2d.fN),(.int .i64 z2d.fD)]] [] [stb z9e 30 [(.int .i64 z2e.fN),(.int .i64 z2e.fD)],stb z9d 30 [(.int .i64 z2d.fN),(.int .i64 z2d.fD)]]) (fun w hw=>by have pz:=(hz.call hw (.nil : Sel [stb z9e 30 [(.int .i64 z2e.fN),(.int .i64 z2e.fD)],stb z9d 30 [(.int .i64 z2d.fN),(.int .i64 z2d.fD)]] [] [stb z9e 30 [(.int .i64 z2e.fN),(.int .i64 z2e.fD)],stb z9d 30 [(.int .i64 z2d.fN),(.int .i64 z2d.fD)]])); exact w_rat_Valid (Z:=_)  (z1f:=z2e) (r:=zj6) w pz  zsh) ?_
   refine WL.a (d:=13) rfl rfl rfl (q_not rfl) ?_
   refine WL.a (d:=14) rfl rfl rfl (q_pickF rfl rfl) ?_
   exact WL.cutEnd () trivial (.cons rfl (.cons rfl (.cons (zr zeG) .nil))) (.cons .here (.cons .here .nil))
 ·skip
  refine WL.nil ?_
  refine WX.a ?_
  refine WC.cond rfl (fun zj9=>?_) (fun zj9=>?_)
  ·replace h:=ite_t h zj9
   refine WC.b ?_
   refine WC.a ?_
   refine WL.a (d:=4) rfl rfl rfl (q_z rfl) ?_
   refine WL.nil ?_
   refine WX.a ?_
   refine WC.ret ?_
   refine WX.thenRet ?_
   obtain rfl:=Option.some.inj h
   refine WX.bpRet Try.results18 (.tmp rfl .nil) (fun w hw=>?_)
   exact ⟨ret1 rfl,hw.sub .nil⟩
  ·replace h:=ite_f h zj9
   refine WC.skip ?_
   refine WX.a ?_
   refine WC.b ?_
   refine WC.b ?_
   refine WC.draw (fun i=>[].contains i) [] rfl ?_
   refine WD.a (i:=0) (d:=15) (by kernel_rfl) rfl (z6 (by kernel_rfl)) (z7 (by kernel_rfl)) rfl rfl rfl (fun _=>q_fieldAddr fo_30_0 rfl rfl) ?_
   refine WD.e (i:=1) (d:=16) (by kernel_rfl) rfl (z6 (by kernel_rfl)) (z7 (by kernel_rfl)) rfl rfl rfl (q_load1 oneT_3 rfl (rd_stb .h1 rfl)) ?_
   refine WD.a (i:=2) (d:=17) (by kernel_rfl) rfl (z6 (by kernel_rfl)) (z7 (by kernel_rfl)) rfl rfl rfl (fun _=>q_fieldAddr fo_30_1 rfl rfl) ?_
   refine WD.e (i:=3) (d:=18) (by kernel_rfl) rfl (z6 (by kernel_rfl)) (z7 (by kernel_rfl)) rfl rfl rfl (q_load1 oneT_3 rfl (rd_stb .here rfl)) ?_
   refine WD.a (i:=4) (d:=19) (by kernel_rfl) rfl (z6 (by kernel_rfl)) (z7 (by kernel_rfl)) rfl rfl rfl (fun _=>q_mul rfl rfl rfl) ?_
   refine WD.a (i:=5) (d:=20) (by kernel_rfl) rfl (z6 (by kernel_rfl)) (z7 (by kernel_rfl)) rfl rfl rfl (fun _=>q_fieldAddr fo_30_0 rfl rfl) ?_
   refine WD.e (i:=6) (d:=21) (by kernel_rfl) rfl (z6 (by kernel_rfl)) (z7 (by kernel_rfl)) rfl rfl rfl (q_load1 oneT_3 rfl (rd_stb .here rfl)) ?_
   refine WD.a (i:=7) (d:=22) (by kernel_rfl) rfl (z6 (by kernel_rfl)) (z7 (by kernel_rfl)) rfl rfl rfl (fun _=>q_fieldAddr fo_30_1 rfl rfl) ?_
   refine WD.e (i:=8) (d:=23) (by kernel_rfl) rfl (z6 (by kernel_rfl)) (z7 (by kernel_rfl)) rfl rfl rfl (q_load1 oneT_3 rfl (rd_stb .h1 rfl)) ?_
   refine WD.a (i:=9) (d:=24) (by kernel_rfl) rfl (z6 (by kernel_rfl)) (z7 (by kernel_rfl)) rfl rfl rfl (fun _=>q_mul rfl rfl rfl) ?_
   refine WD.a (i:=10) (d:=5) (by kernel_rfl) rfl (z6 (by kernel_rfl)) (z7 (by kernel_rfl)) rfl rfl rfl (fun _=>q_z rfl) ?_
   refine WD.a (i:=11) (d:=6) (by kernel_rfl) rfl (z6 (by kernel_rfl)) (z7 (by kernel_rfl)) rfl rfl rfl (fun _=>q_z rfl) ?_
   refine WD.done (by kernel_rfl) ?_
   refine WX.a ?_
   refine WC.block ?_
   refine WC.b ?_
   refine WC.a ?_
   refine WL.a (d:=26) rfl rfl rfl (q_m rfl) ?_
   refine WL.a (d:=27) rfl rfl rfl (q_m rfl) ?_
   refine WL.a (d:=28) rfl rfl rfl (q_lss rfl rfl) ?_
   refine WL.a (d:=25) rfl rfl rfl (q_z rfl) ?_
   refine WL.nil ?_
   refine WX.a ?_
   refine WC.cond rfl (fun zja=>?_) (fun zja=>?_)
   ·replace h:=ite_t h zja
    refine WC.b ?_
    refine WC.a ?_
    refine WL.a (d:=4) rfl rfl rfl (q_z rfl) ?_
    refine WL.nil ?_
    refine WX.a ?_
    refine WC.ret ?_
    refine WX.blockRet ?_
    refine WX.thenRet ?_
    obtain rfl:=Option.some.inj h
    refine WX.bpRet Try.results18 (.tmp rfl .nil) (fun w hw=>?_)
    exact ⟨ret1 rfl,hw.sub .nil⟩
   ·replace h:=ite_f h zja
    refine WC.b ?_
    refine WC.a ?_
    refine WL.a (d:=30) rfl rfl rfl (q_m rfl) ?_
    refine WL.a (d:=31) rfl rfl rfl (q_m rfl) ?_
    refine WL.a (d:=32) rfl rfl rfl (q_gtr rfl rfl) ?_
    refine WL.a (d:=29) rfl rfl rfl (q_z rfl) ?_
    refine WL.nil ?_
    refine WX.a ?_
    refine WC.cond rfl (fun zjb=>?_) (fun zjb=>?_)
    ·replace h:=ite_t h zjb
     refine WC.b ?_
     refine WC.a ?_
     refine WL.a (d:=4) rfl rfl rfl (q_z rfl) ?_
     refine WL.nil ?_
     refine WX.a ?_
     refine WC.ret ?_
     refine WX.blockRet ?_
     refine WX.thenRet ?_
     obtain rfl:=Option.some.inj h
     refine WX.bpRet Try.results18 (.tmp rfl .nil) (fun w hw=>?_)
     exact ⟨ret1 rfl,hw.sub .nil⟩
    ·replace h:=ite_f h zjb
     refine WC.skip ?_
     refine WX.blockNormal ?_
     refine WX.a ?_
     refine WC.b ?_
     refine WC.a ?_
     refine WL.a (d:=4) rfl rfl rfl (q_z rfl) ?_
     refine WL.nil ?_
     refine WX.a ?_
     refine WC.ret ?_
     obtain rfl:=Option.some.inj h
     refine WX.bpRet Try.results18 (.tmp rfl .nil) (fun w hw=>?_)
     exact ⟨ret1 rfl,hw.sub .nil⟩
def m_curve_dominates (z1g : z1) (z1h : z1) : Option Bool :=
 (if decide (z1g ≠ z1h) then (m_rat_Cmp z1g.fBurst z1h.fBurst).bind fun zjc=>some (decide (zjc ≤ 0)) else some false).bind fun zgq=>(if zgq then (m_rat_Cmp z1g.fRate z1h.fRate).bind fun zjd=>some (decide (zjd ≤ 0)) else some false).bind fun zje=>some zje
set_option maxRecDepth 20000 in
theorem w_curve_dominates (Z : Zp)   (z1g : z1) (z1h : z1) (r : Bool) (w₀ : World) (hz : PZ [] w₀ Z)
  (h : m_curve_dominates z1g z1h = some r) :
  Calls Try.prog 61 #[(.agg #[(.int .i64 z1g.fBurst.fN),(.int .i64 z1g.fBurst.fD),(.int .i64 z1g.fRate.fN),(.int .i64 z1g.fRate.fD)]),(.agg #[(.int .i64 z1h.fBurst.fN),(.int .i64 z1h.fBurst.fD),(.int .i64 z1h.fRate.fN),(.int .i64 z1h.fRate.fD)])] w₀ fun e w'=>e = .returned (.bool r) ∧ Hp [] w₀ w' []:=by
 unfold m_curve_dominates at h
 refine Calls.ofWC (vs:=[(.agg #[(.int .i64 z1g.fBurst.fN),(.int .i64 z1g.fBurst.fD),(.int .i64 z1g.fRate.fN),(.int .i64 z1g.fRate.fD)]),(.agg #[(.int .i64 z1h.fBurst.fN),(.int .i64 z1h.fBurst.fD),(.int .i64 z1h.fRate.fN),(.int .i64 z1h.fRate.fD)])]) (pre:=[]) (env:=[(0,(.agg #[(.int .i64 z1g.fBurst.fN),(.int .i64 z1g.fBurst.fD),(.int .i64 z1g.fRate.fN),(.int .i64 z1g.fRate.fD)])),(1,(.agg #[(.int .i64 z1h.fBurst.fN),(.int .i64 z1h.fBurst.fD),(.int .i64 z1h.fRate.fN),(.int .i64 z1h.fRate.fD)]))]) Try.func61 rfl Try.ntmps61 rfl (Hp.nil w₀ _) rfl ?_
 refine WC.b ?_
 refine WC.a ?_
 refine WL.new (dd:=2) rfl rfl rfl (e_box (cs:=[(.int .i64 z1g.fBurst.fN),(.int .i64 z1g.fBurst.fD),(.int .i64 z1g.fRate.fN),(.int .i64 z1g.fRate.fD)]) rfl rfl) ?_
 intro z8L _
 refine WL.new (dd:=3) rfl rfl rfl (e_box (cs:=[(.int .i64 z1h.fBurst.fN),(.int .i64 z1h.fBurst.fD),(.int .i64 z1h.fRate.fN),(.int .i64 z1h.fRate.fD)]) rfl rfl) ?_
 intro z8M _
 refine WL.a (d:=4) rfl rfl rfl (q_z rfl) ?_
 refine WL.nil ?_
 refine WX.a ?_
 refine WC.b ?_
 obtain ⟨zgq,znZ,h⟩:=zd h
 obtain ⟨zje,zo0,h⟩:=zd h
 refine WC.a ?_
 refine WL.a (d:=5) rfl rfl rfl (q_loadA (cs:=[(.int .i64 z1g.fBurst.fN),(.int .i64 z1g.fBurst.fD),(.int .i64 z1g.fRate.fN),(.int .i64 z1g.fRate.fD)]) aggT_35 rfl rfl (rd_all .h1)) ?_
 refine WL.a (d:=6) rfl rfl rfl (q_loadA (cs:=[(.int .i64 z1h.fBurst.fN),(.int .i64 z1h.fBurst.fD),(.int .i64 z1h.fRate.fN),(.int .i64 z1h.fRate.fD)]) aggT_35 rfl rfl (rd_all .here)) ?_
 refine WL.a (d:=7) rfl rfl rfl (q_aggneq (enc:=e35) (a:=z1g) (b:=z1h) eqT_35 rfl rfl) ?_
 refine WL.a (d:=8) rfl rfl rfl (q_m rfl) ?_
 refine WL.cut0 True [(2,(.pointer (some ⟨z8L,0,none⟩))),(3,(.pointer (some ⟨z8M,0,none⟩))),(4,(.bool false)),(15,(.bool zgq))] [stb z8M 35 [(.int .i64 z1h.fBurst.fN),(.int .i64 z1h.fBurst.fD),(.int .i64 z1h.fRate.fN),(.int .i64 z1h.fRate.fD)],stb z8L 35 [(.int .i64 z1g.fBurst.fN),(.int .i64 z1g.fBurst.fD),(.int .i64 z1g.fRate.fN),(.int .i64 z1g.fRate.fD)]] 7 ?_ (fun _=>?_)
 ·rcases Bool.eq_false_or_eq_true (decide (z1g ≠ z1h)) with hb' | hb'
  ·have zo1:=hb'; clear hb'
   have zeH:=ite_t znZ zo1
   obtain ⟨zjc,zsi,zeH⟩:=zd zeH
   replace zeH:=Option.some.inj zeH
   refine WL.pin (i:=8) rfl zo1 ?_
   refine WL.a (d:=9) rfl rfl rfl (q_fieldAddr fo_35_0 rfl rfl) ?_
   refine WL.a (d:=10) rfl rfl rfl (q_loadA (cs:=[(.int .i64 z1g.fBurst.fN),(.int .i64 z1g.fBurst.fD)]) aggT_30 rfl rfl (rd_sub (s:=2) .h1 rfl)) ?_
   refine WL.a (d:=11) rfl rfl rfl (q_fieldAddr fo_35_0 rfl rfl) ?_
   refine WL.a (d:=12) rfl rfl rfl (q_loadA (cs:=[(.int .i64 z1h.fBurst.fN),(.int .i64 z1h.fBurst.fD)]) aggT_30 rfl rfl (rd_sub (s:=2) .here rfl)) ?_
   refine WL.b (dd:=13) rfl rfl rfl (zk (l:=[.tmp 10,.tmp 12]) Try.call18 (.cons rfl (.cons rfl .nil))) (.nil : Sel [stb z8M 35 [(.int .i64 z1h.fBurst.fN),(.int .i64 z1h.fBurst.fD),(.int .i64 z1h.fRate.fN),(.int .i64 z1h.fRate.fD)],stb z8L 35 [(.int .i64 z1g.fBurst.fN),(.int .i64 z1g.fBurst.fD),(.int .i64 z1g.fRate.fN),(.int .i64 z1g.fRate.fD)]] [] [stb z8M 35 [(.int .i64 z1h.fBurst.fN),(.int .i64 z1h.fBurst.fD),(.int .i64 z1h.fRate.fN),(.int .i64 z1h.fRate.fD)],stb z8L 35 [(.int .i64 z1g.fBurst.fN),(.int .i64 z1g.fBurst.fD),(.int .i64 z1g.fRate.fN),(.int .i64 z1g.fRate.fD)]]) (fun w hw=>by have pz:=(hz.call hw (.nil : Sel [stb z8M 35 [(.int .i64 z1h.fBurst.fN),(.int .i64 z1h.fBurst.fD),(.int .i64 z1h.fRate.fN),(.int .i64 z1h.fRate.fD)],stb z8L 35 [(.int .i64 z1g.fBurst.fN),(.int .i64 z1g.fBurst.fD),(.int .i64 z1g.fRate.fN),(.int .i64 z1g.fRate.fD)]] [] [stb z8M 35 [(.int .i64 z1h.fBurst.fN),(.int .i64 z1h.fBurst.fD),(.int .i64 z1h.fRate.fN),(.int .i64 z1h.fRate.fD)],stb z8L 35 [(.int .i64 z1g.fBurst.fN),(.int .i64 z1g.fBurst.fD),(.int .i64 z1g.fRate.fN),(.int .i64 z1g.fRate.fD)]])); exact w_rat_Cmp (Z:=_)  (z2d:=z1g.fBurst) (z2e:=z1h.fBurst) (r:=zjc) w pz  zsi) ?_
   refine WL.a (d:=14) rfl rfl rfl (q_leq rfl rfl) ?_
   refine WL.a (d:=15) rfl rfl rfl (q_pickT rfl rfl) ?_
   exact WL.cutEnd () trivial (.cons rfl (.cons rfl (.cons rfl (.cons (zr zeH) .nil)))) (.cons .here (.cons .here .nil))
  ·have zo2:=hb'; clear hb'
   have zjf:=ite_f znZ zo2
   replace zjf:=Option.some.inj zjf
   refine WL.pin (i:=8) rfl zo2 ?_
   refine WL.e rfl rfl rfl ?_
   refine WL.e rfl rfl rfl ?_
   refine WL.e rfl rfl rfl ?_
   refine WL.e rfl rfl rfl ?_
   refine WL.e rfl rfl rfl ?_
   refine WL.e rfl rfl rfl ?_
   refine WL.a (d:=15) rfl rfl rfl (q_pickF rfl rfl) ?_
   exact WL.cutEnd () trivial (.cons rfl (.cons rfl (.cons rfl (.cons (zr zjf) .nil)))) (.cons .here (.cons .here .nil))
 ·skip
  refine WL.a (d:=16) rfl rfl rfl (q_m rfl) ?_
  refine WL.cut0 True [(4,(.bool false)),(23,(.bool zje))] [stb z8M 35 [(.int .i64 z1h.fBurst.fN),(.int .i64 z1h.fBurst.fD),(.int .i64 z1h.fRate.fN),(.int .i64 z1h.fRate.fD)],stb z8L 35 [(.int .i64 z1g.fBurst.fN),(.int .i64 z1g.fBurst.fD),(.int .i64 z1g.fRate.fN),(.int .i64 z1g.fRate.fD)]] 7 ?_ (fun _=>?_)
  ·rcases Bool.eq_false_or_eq_true zgq with hb' | hb'
   ·have zo3:=hb'; clear hb'
    have zeI:=ite_t zo0 zo3
    obtain ⟨zjd,zsj,zeI⟩:=zd zeI
    replace zeI:=Option.some.inj zeI
    refine WL.pin (i:=16) rfl zo3 ?_
    refine WL.a (d:=17) rfl rfl rfl (q_fieldAddr fo_35_1 rfl rfl) ?_
    refine WL.a (d:=18) rfl rfl rfl (q_loadA (cs:=[(.int .i64 z1g.fRate.fN),(.int .i64 z1g.fRate.fD)]) aggT_30 rfl rfl (rd_sub (s:=2) .h1 rfl)) ?_
    refine WL.a (d:=19) rfl rfl rfl (q_fieldAddr fo_35_1 rfl rfl) ?_
    refine WL.a (d:=20) rfl rfl rfl (q_loadA (cs:=[(.int .i64 z1h.fRate.fN),(.int .i64 z1h.fRate.fD)]) aggT_30 rfl rfl (rd_sub (s:=2) .here rfl)) ?_
    refine WL.b (dd:=21) rfl rfl rfl (zk (l:=[.tmp 18,.tmp 20]) Try.call18 (.cons rfl (.cons rfl .nil))) (.nil : Sel [stb z8M 35 [(.int .i64 z1h.fBurst.fN),(.int .i64 z1h.fBurst.fD),(.int .i64 z1h.fRate.fN),(.int .i64 z1h.fRate.fD)],stb z8L 35 [(.int .i64 z1g.fBurst.fN),(.int .i64 z1g.fBurst.fD),(.int .i64 z1g.fRate.fN),(.int .i64 z1g.fRate.fD)]] [] [stb z8M 35 [(.int .i64 z1h.fBurst.fN),(.int .i64 z1h.fBurst.fD),(.int .i64 z1h.fRate.fN),(.int .i64 z1h.fRate.fD)],stb z8L 35 [(.int .i64 z1g.fBurst.fN),(.int .i64 z1g.fBurst.fD),(.int .i64 z1g.fRate.fN),(.int .i64 z1g.fRate.fD)]]) (fun w hw=>by have pz:=(hz.call hw (.nil : Sel [stb z8M 35 [(.int .i64 z1h.fBurst.fN),(.int .i64 z1h.fBurst.fD),(.int .i64 z1h.fRate.fN),(.int .i64 z1h.fRate.fD)],stb z8L 35 [(.int .i64 z1g.fBurst.fN),(.int .i64 z1g.fBurst.fD),(.int .i64 z1g.fRate.fN),(.int .i64 z1g.fRate.fD)]] [] [stb z8M 35 [(.int .i64 z1h.fBurst.fN),(.int .i64 z1h.fBurst.fD),(.int .i64 z1h.fRate.fN),(.int .i64 z1h.fRate.fD)],stb z8L 35 [(.int .i64 z1g.fBurst.fN),(.int .i64 z1g.fBurst.fD),(.int .i64 z1g.fRate.fN),(.int .i64 z1g.fRate.fD)]])); exact w_rat_Cmp (Z:=_)  (z2d:=z1g.fRate) (z2e:=z1h.fRate) (r:=zjd) w pz  zsj) ?_
    refine WL.a (d:=22) rfl rfl rfl (q_leq rfl rfl) ?_
    refine WL.a (d:=23) rfl rfl rfl (q_pickT rfl rfl) ?_
    exact WL.cutEnd () trivial (.cons rfl (.cons (zr zeI) .nil)) (.cons .here (.cons .here .nil))
   ·have zo4:=hb'; clear hb'
    have zjg:=ite_f zo0 zo4
    replace zjg:=Option.some.inj zjg
    refine WL.pin (i:=16) rfl zo4 ?_
    refine WL.e rfl rfl rfl ?_
    refine WL.e rfl rfl rfl ?_
    refine WL.e rfl rfl rfl ?_
    refine WL.e rfl rfl rfl ?_
    refine WL.e rfl rfl rfl ?_
    refine WL.e rfl rfl rfl ?_
    refine WL.a (d:=23) rfl rfl rfl (q_pickF rfl rfl) ?_
    exact WL.cutEnd () trivial (.cons rfl (.cons (zr zjg) .nil)) (.cons .here (.cons .here .nil))
  ·skip
   refine WL.a (d:=4) rfl rfl rfl (q_z rfl) ?_
   refine WL.nil ?_
   refine WX.a ?_
   refine WC.ret ?_
   obtain rfl:=Option.some.inj h
   refine WX.bpRet Try.results61 (.tmp rfl .nil) (fun w hw=>?_)
   exact ⟨ret1 rfl,hw.sub .nil⟩
def m_curve_norm_1 (z2F : z1) (z7R : z1) : Option Bool :=
 (m_curve_dominates z2F z7R).bind fun zjh=>some zjh
set_option maxRecDepth 20000 in
theorem w_curve_norm_1 (Z : Zp)  (zeJ : Addr) (z2F : z1) (z7R : z1) (r : Bool) (w₀ : World) (hz : PZ [] w₀ Z)
  (zsk : ZC Z zeJ [(.int .i64 z7R.fBurst.fN),(.int .i64 z7R.fBurst.fD),(.int .i64 z7R.fRate.fN),(.int .i64 z7R.fRate.fD)])
  (h : m_curve_norm_1 z2F z7R = some r) :
  Calls Try.prog 60 #[(.agg #[(.int .i64 z2F.fBurst.fN),(.int .i64 z2F.fBurst.fD),(.int .i64 z2F.fRate.fN),(.int .i64 z2F.fRate.fD)]),(.pointer (some zeJ))] w₀ fun e w'=>e = .returned (.bool r) ∧ Hp [] w₀ w' []:=by
 unfold m_curve_norm_1 at h
 refine Calls.ofWC (vs:=[(.agg #[(.int .i64 z2F.fBurst.fN),(.int .i64 z2F.fBurst.fD),(.int .i64 z2F.fRate.fN),(.int .i64 z2F.fRate.fD)]),(.pointer (some zeJ))]) (pre:=[]) (env:=[(0,(.agg #[(.int .i64 z2F.fBurst.fN),(.int .i64 z2F.fBurst.fD),(.int .i64 z2F.fRate.fN),(.int .i64 z2F.fRate.fD)])),(1,(.pointer (some zeJ)))]) Try.func60 rfl Try.ntmps60 rfl (Hp.nil w₀ _) rfl ?_
 refine WC.b ?_
 refine WC.a ?_
 refine WL.new (dd:=2) rfl rfl rfl (e_box (cs:=[(.int .i64 z2F.fBurst.fN),(.int .i64 z2F.fBurst.fD),(.int .i64 z2F.fRate.fN),(.int .i64 z2F.fRate.fD)]) rfl rfl) ?_
 intro zgr _
 refine WL.a (d:=3) rfl rfl rfl (q_z rfl) ?_
 refine WL.nil ?_
 refine WX.a ?_
 refine WC.b ?_
 obtain ⟨zjh,zsl,h⟩:=zd h
 refine WC.a ?_
 refine WL.a (d:=4) rfl rfl rfl (q_loadA (cs:=[(.int .i64 z2F.fBurst.fN),(.int .i64 z2F.fBurst.fD),(.int .i64 z2F.fRate.fN),(.int .i64 z2F.fRate.fD)]) aggT_35 rfl rfl (rd_all .here)) ?_
 refine WL.a (d:=5) rfl rfl rfl (q_loadA (cs:=[(.int .i64 z7R.fBurst.fN),(.int .i64 z7R.fBurst.fD),(.int .i64 z7R.fRate.fN),(.int .i64 z7R.fRate.fD)]) aggT_35 rfl rfl (rd_zs hz.pv zsk)) ?_
 refine WL.b (dd:=6) rfl rfl rfl (zk (l:=[.tmp 4,.tmp 5]) Try.call61 (.cons rfl (.cons rfl .nil))) (.nil : Sel [stb zgr 35 [(.int .i64 z2F.fBurst.fN),(.int .i64 z2F.fBurst.fD),(.int .i64 z2F.fRate.fN),(.int .i64 z2F.fRate.fD)]] [] [stb zgr 35 [(.int .i64 z2F.fBurst.fN),(.int .i64 z2F.fBurst.fD),(.int .i64 z2F.fRate.fN),(.int .i64 z2F.fRate.fD)]]) (fun w hw=>by have pz:=(hz.call hw (.nil : Sel [stb zgr 35 [(.int .i64 z2F.fBurst.fN),(.int .i64 z2F.fBurst.fD),(.int .i64 z2F.fRate.fN),(.int .i64 z2F.fRate.fD)]] [] [stb zgr 35 [(.int .i64 z2F.fBurst.fN),(.int .i64 z2F.fBurst.fD),(.int .i64 z2F.fRate.fN),(.int .i64 z2F.fRate.fD)]])); exact w_curve_dominates (Z:=_)  (z1g:=z2F) (z1h:=z7R) (r:=zjh) w pz  zsl) ?_
 refine WL.a (d:=3) rfl rfl rfl (q_z rfl) ?_
 refine WL.nil ?_
 refine WX.a ?_
 refine WC.ret ?_
 obtain rfl:=Option.some.inj h
 refine WX.bpRet Try.results60 (.tmp rfl .nil) (fun w hw=>?_)
 exact ⟨ret1 rfl,hw.sub .nil⟩
def m_curve_norm_2 (z2U : z1) (z2V : z1) : Option Int :=
 (m_rat_Cmp z2U.fBurst z2V.fBurst).bind fun zji=>some zji
set_option maxRecDepth 20000 in
theorem w_curve_norm_2 (Z : Zp)   (z2U : z1) (z2V : z1) (r : Int) (w₀ : World) (hz : PZ [] w₀ Z)
  (h : m_curve_norm_2 z2U z2V = some r) :
  Calls Try.prog 63 #[(.agg #[(.int .i64 z2U.fBurst.fN),(.int .i64 z2U.fBurst.fD),(.int .i64 z2U.fRate.fN),(.int .i64 z2U.fRate.fD)]),(.agg #[(.int .i64 z2V.fBurst.fN),(.int .i64 z2V.fBurst.fD),(.int .i64 z2V.fRate.fN),(.int .i64 z2V.fRate.fD)])] w₀ fun e w'=>e = .returned (.int .i64 r) ∧ Hp [] w₀ w' []:=by
 unfold m_curve_norm_2 at h
 refine Calls.ofWC (vs:=[(.agg #[(.int .i64 z2U.fBurst.fN),(.int .i64 z2U.fBurst.fD),(.int .i64 z2U.fRate.fN),(.int .i64 z2U.fRate.fD)]),(.agg #[(.int .i64 z2V.fBurst.fN),(.int .i64 z2V.fBurst.fD),(.int .i64 z2V.fRate.fN),(.int .i64 z2V.fRate.fD)])]) (pre:=[]) (env:=[(0,(.agg #[(.int .i64 z2U.fBurst.fN),(.int .i64 z2U.fBurst.fD),(.int .i64 z2U.fRate.fN),(.int .i64 z2U.fRate.fD)])),(1,(.agg #[(.int .i64 z2V.fBurst.fN),(.int .i64 z2V.fBurst.fD),(.int .i64 z2V.fRate.fN),(.int .i64 z2V.fRate.fD)]))]) Try.func63 rfl Try.ntmps63 rfl (Hp.nil w₀ _) rfl ?_
 refine WC.b ?_
 refine WC.a ?_
 refine WL.new (dd:=2) rfl rfl rfl (e_box (cs:=[(.int .i64 z2U.fBurst.fN),(.int .i64 z2U.fBurst.fD),(.int .i64 z2U.fRate.fN),(.int .i64 z2U.fRate.fD)]) rfl rfl) ?_
 intro zgs _
 refine WL.new (dd:=3) rfl rfl rfl (e_box (cs:=[(.int .i64 z2V.fBurst.fN),(.int .i64 z2V.fBurst.fD),(.int .i64 z2V.fRate.fN),(.int .i64 z2V.fRate.fD)]) rfl rfl) ?_
 intro zgt _
 refine WL.a (d:=4) rfl rfl rfl (q_z rfl) ?_
 refine WL.nil ?_
 refine WX.a ?_
 refine WC.b ?_
 obtain ⟨zji,zsm,h⟩:=zd h
 refine WC.a ?_
 refine WL.a (d:=5) rfl rfl rfl (q_fieldAddr fo_35_0 rfl rfl) ?_
 refine WL.a (d:=6) rfl rfl rfl (q_loadA (cs:=[(.int .i64 z2U.fBurst.fN),(.int .i64 z2U.fBurst.fD)]) aggT_30 rfl rfl (rd_sub (s:=2) .h1 rfl)) ?_
 refine WL.a (d:=7) rfl rfl rfl (q_fieldAddr fo_35_0 rfl rfl) ?_
 refine WL.a (d:=8) rfl rfl rfl (q_loadA (cs:=[(.int .i64 z2V.fBurst.fN),(.int .i64 z2V.fBurst.fD)]) aggT_30 rfl rfl (rd_sub (s:=2) .here rfl)) ?_
 refine WL.b (dd:=9) rfl rfl rfl (zk (l:=[.tmp 6,.tmp 8]) Try.call18 (.cons rfl (.cons rfl .nil))) (.nil : Sel [stb zgt 35 [(.int .i64 z2V.fBurst.fN),(.int .i64 z2V.fBurst.fD),(.int .i64 z2V.fRate.fN),(.int .i64 z2V.fRate.fD)],stb zgs 35 [(.int .i64 z2U.fBurst.fN),(.int .i64 z2U.fBurst.fD),(.int .i64 z2U.fRate.fN),(.int .i64 z2U.fRate.fD)]] [] [stb zgt 35 [(.int .i64 z2V.fBurst.fN),(.int .i64 z2V.fBurst.fD),(.int .i64 z2V.fRate.fN),(.int .i64 z2V.fRate.fD)],stb zgs 35 [(.int .i64 z2U.fBurst.fN),(.int .i64 z2U.fBurst.fD),(.int .i64 z2U.fRate.fN),(.int .i64 z2U.fRate.fD)]]) (fun w hw=>by have pz:=(hz.call hw (.nil : Sel [stb zgt 35 [(.int .i64 z2V.fBurst.fN),(.int .i64 z2V.fBurst.fD),(.int .i64 z2V.fRate.fN),(.int .i64 z2V.fRate.fD)],stb zgs 35 [(.int .i64 z2U.fBurst.fN),(.int .i64 z2U.fBurst.fD),(.int .i64 z2U.fRate.fN),(.int .i64 z2U.fRate.fD)]] [] [stb zgt 35 [(.int .i64 z2V.fBurst.fN),(.int .i64 z2V.fBurst.fD),(.int .i64 z2V.fRate.fN),(.int .i64 z2V.fRate.fD)],stb zgs 35 [(.int .i64 z2U.fBurst.fN),(.int .i64 z2U.fBurst.fD),(.int .i64 z2U.fRate.fN),(.int .i64 z2U.fRate.fD)]])); exact w_rat_Cmp (Z:=_)  (z2d:=z2U.fBurst) (z2e:=z2V.fBurst) (r:=zji) w pz  zsm) ?_
 refine WL.a (d:=4) rfl rfl rfl (q_z rfl) ?_
 refine WL.nil ?_
 refine WX.a ?_
 refine WC.ret ?_
 obtain rfl:=Option.some.inj h
 refine WX.bpRet Try.results63 (.tmp rfl .nil) (fun w hw=>?_)
 exact ⟨ret1 rfl,hw.sub .nil⟩
def m_bits_Len (z9U : Int) : Option Int:=chk ((0 : Int) ≤ z9U ∧ z9U ≤ 18446744073709551615) (some ((Go.Lib.bitLen (z9U).toNat : Nat) : Int))
theorem w_bits_Len (Z : Zp) (z9U : Int) (r : Int) (w₀ : World) (hz : PZ [] w₀ Z) (h : m_bits_Len z9U = some r) : Calls Try.prog 74 #[.int .u64 z9U] w₀ fun e w'=>e = .returned (.int .i64 r) ∧ Hp [] w₀ w' []:=by
 obtain ⟨h0,h⟩:=chk_elim h
 obtain rfl:=Option.some.inj h
 refine (Try.bits_Len z9U w₀ h0.1 h0.2).mono ?_
 rintro e w' ⟨rfl,rfl⟩
 exact ⟨rfl,Hp.nil w' []⟩
theorem srtA_73 : ∀ w,(isAgg (Try.laysSlF014_f73_ren.t 24)).run Try.prog w = .ok true w:=fun _=>by kernel_rfl
theorem srtZ_73 : ∀ w,(Go.sizeOf (Try.laysSlF014_f73_ren.t 24)).run Try.prog w = .ok 4 w:=fun _=>by kernel_rfl
def m_slices_pdqsortCmpFunc_api_Bucket (z6A : List z1) (zeK : Int) (zeL : Int) (zdk : Int) (zbY : z1 → z1 → Option Int) : Option (List z1):=chk ((zeK = 0 ∧ zeL = ((z6A.length : Nat) : Int)) ∧ (0 ≤ zdk ∧ zdk < 4611686018427387904 ∧ z6A.length < 4611686018427387904)) (chk (ordB zbY (sortBy zbY z6A) = true) (some (sortBy zbY z6A)))
theorem w_slices_pdqsortCmpFunc_api_Bucket (Z : Zp) (zbZ : Option Addr) (zc0 : Nat) (zeM : FuncId) (zjj : List Value) (z6A : List z1) (zeK : Int) (zeL : Int) (zdk : Int) (zbY : z1 → z1 → Option Int) (r : List z1) (w₀ : World) (hz : PZ (fps [row (.slice zbZ z6A.length zc0) 35 4 (z6A.flatMap e35)]) w₀ Z)
  (zsn : ∀ args w,(callFunc zeM args).run Try.prog w = .ok (.enter zeM args) w)
  (zso : ∀ w : World,PZ [] w Z → ∀ (x0 : z1) (x1 : z1) (r : Int),zbY x0 x1 = some r → Calls Try.prog zeM (([(.agg #[(.int .i64 x0.fBurst.fN),(.int .i64 x0.fBurst.fD),(.int .i64 x0.fRate.fN),(.int .i64 x0.fRate.fD)]),(.agg #[(.int .i64 x1.fBurst.fN),(.int .i64 x1.fBurst.fD),(.int .i64 x1.fRate.fN),(.int .i64 x1.fRate.fD)])] : List Value) ++ zjj).toArray w fun e w'=>e = .returned (.int .i64 r) ∧ Hp [] w w' [])
  (h : m_slices_pdqsortCmpFunc_api_Bucket z6A zeK zeL zdk zbY = some r) (hown : Hp (fps [row (.slice zbZ z6A.length zc0) 35 4 (z6A.flatMap e35)]) w₀ w₀ [row (.slice zbZ z6A.length zc0) 35 4 (z6A.flatMap e35)]) :
  Calls Try.prog 73 #[(.slice zbZ z6A.length zc0),(.int .i64 zeK),(.int .i64 zeL),(.int .i64 zdk),(.func (.func zeM) #[] (zjj).toArray)] w₀ fun e w'=>e = .returned (.tuple #[]) ∧ (r.length = z6A.length) ∧ Hp (fps [row (.slice zbZ z6A.length zc0) 35 4 (z6A.flatMap e35)]) w₀ w' [row (.slice zbZ r.length zc0) 35 4 (r.flatMap e35)]:=by
 obtain ⟨h0,h⟩:=chk_elim h
 obtain ⟨h1,h⟩:=chk_elim h
 have hr:=(Option.some.inj h).symm
 exact sort_func (P:=Try.prog) (f:=73) (e:=35) (k:=4) (enc:=e35) (fun _=>rfl) (by decide) e35_oc (fun β _ enc cf g cb hO blk off cap d0 w0 eg hC R=>Try.pdqsortCmpFunc_all_f73 4 srtA_73 srtZ_73 enc cf g cb hO blk off cap d0 w0 eg hC R) (Try.pdqsortCmpFunc_none_f73 (α:=Unit)) hz zsn zso h0 h1 hr hown
def m_slices_SortFunc_api_Curve_api_Bucket (z2s : List z1) (zdl : z1 → z1 → Option Int) : Option (List z1) :=
 (m_bits_Len (u64 ((z2s.length : Nat) : Int))).bind fun zgu=>(m_slices_pdqsortCmpFunc_api_Bucket z2s 0 ((z2s.length : Nat) : Int) zgu zdl).bind fun zgv=>some zgv
set_option maxRecDepth 20000 in
theorem w_slices_SortFunc_api_Curve_api_Bucket (Z : Zp)  (z52 : Option Addr) (z54 : Nat) (zaR : FuncId) (zdm : List Value) (z2s : List z1) (zdl : z1 → z1 → Option Int) (r : List z1) (w₀ : World) (hz : PZ (fps [row (.slice z52 z2s.length z54) 35 4 (z2s.flatMap e35)]) w₀ Z)
  (zsp : ∀ args w,(callFunc zaR args).run Try.prog w = .ok (.enter zaR args) w)
  (zsq : ∀ w : World,PZ [] w Z → ∀ (x0 : z1) (x1 : z1) (r : Int),zdl x0 x1 = some r → Calls Try.prog zaR (([(.agg #[(.int .i64 x0.fBurst.fN),(.int .i64 x0.fBurst.fD),(.int .i64 x0.fRate.fN),(.int .i64 x0.fRate.fD)]),(.agg #[(.int .i64 x1.fBurst.fN),(.int .i64 x1.fBurst.fD),(.int .i64 x1.fRate.fN),(.int .i64 x1.fRate.fD)])] : List Value) ++ zdm).toArray w fun e w'=>e = .returned (.int .i64 r) ∧ Hp [] w w' [])
  (h : m_slices_SortFunc_api_Curve_api_Bucket z2s zdl = some r)
  (hown : Hp (fps [row (.slice z52 z2s.length z54) 35 4 (z2s.flatMap e35)]) w₀ w₀ [row (.slice z52 z2s.length z54) 35 4 (z2s.flatMap e35)]) :
  Calls Try.prog 62 #[(.slice z52 z2s.length z54),(.func (.func zaR) #[] (zdm).toArray)] w₀ fun e w'=>e = .returned (.tuple #[]) ∧ (r.length = z2s.length) ∧ Hp (fps [row (.slice z52 z2s.length z54) 35 4 (z2s.flatMap e35)]) w₀ w' [row (.slice z52 r.length z54) 35 4 (r.flatMap e35)]:=by
 unfold m_slices_SortFunc_api_Curve_api_Bucket at h
 refine Calls.ofWC (vs:=[(.slice z52 z2s.length z54),(.func (.func zaR) #[] (zdm).toArray)]) (pre:=[row (.slice z52 z2s.length z54) 35 4 (z2s.flatMap e35)]) (env:=[(0,(.slice z52 z2s.length z54)),(1,(.func (.func zaR) #[] (zdm).toArray))]) Try.func62 rfl Try.ntmps62 rfl (hown) rfl ?_
 refine WC.b ?_
 refine WC.a ?_
 refine WL.a (d:=5) rfl rfl rfl (q_m rfl) ?_
 refine WL.a (d:=6) rfl rfl rfl (q_len Try.underlying39 rfl) ?_
 refine WL.a (d:=4) rfl rfl rfl (q_z rfl) ?_
 refine WL.nil ?_
 refine WX.a ?_
 obtain ⟨zgu,zsr,h⟩:=zd h
 obtain ⟨zgv,zss,h⟩:=zd h
 refine WC.a ?_
 refine WL.a (d:=7) rfl rfl rfl (q_m rfl) ?_
 refine WL.a (d:=8) rfl rfl rfl (q_m rfl) ?_
 refine WL.a (d:=9) rfl rfl rfl (q_m rfl) ?_
 refine WL.a (d:=10) rfl rfl rfl (q_conv Try.underlying3 Try.underlying120 rfl rfl) ?_
 refine WL.b (dd:=11) rfl rfl rfl (zk (l:=[.tmp 10]) Try.call74 (.cons rfl .nil)) (.nil : Sel [row (.slice z52 z2s.length z54) 35 4 (z2s.flatMap e35)] [] [row (.slice z52 z2s.length z54) 35 4 (z2s.flatMap e35)]) (fun w hw=>by have pz:=(hz.call hw (.nil : Sel [row (.slice z52 z2s.length z54) 35 4 (z2s.flatMap e35)] [] [row (.slice z52 z2s.length z54) 35 4 (z2s.flatMap e35)])); exact w_bits_Len (Z:=_)  (z9U:=(u64 ((z2s.length : Nat) : Int))) (r:=zgu) w pz  zsr) ?_
 refine WL.a (d:=12) rfl rfl rfl (q_m rfl) ?_
 refine WL.enter0 (dd:=13) rfl rfl rfl (zk (l:=[.tmp 7,.const (.int .i64 0),.tmp 8,.tmp 11,.tmp 12]) Try.call73 (.cons rfl (.cons rfl (.cons rfl (.cons rfl (.cons rfl .nil)))))) ((.cons .here .nil) : Sel [row (.slice z52 z2s.length z54) 35 4 (z2s.flatMap e35)] [row (.slice z52 z2s.length z54) 35 4 (z2s.flatMap e35)] []) (fun w hw=>by have pz:=(hz.call hw ((.cons .here .nil) : Sel [row (.slice z52 z2s.length z54) 35 4 (z2s.flatMap e35)] [row (.slice z52 z2s.length z54) 35 4 (z2s.flatMap e35)] [])); exact w_slices_pdqsortCmpFunc_api_Bucket (Z:=_) (zbZ:=z52) (zc0:=z54) (zeM:=zaR) (zjj:=zdm) (z6A:=z2s) (zeK:=0) (zeL:=((z2s.length : Nat) : Int)) (zdk:=zgu) (zbY:=zdl) (r:=zgv) w pz zsp zsq zss (hw.owns ((.cons .here .nil) : Sel [row (.slice z52 z2s.length z54) 35 4 (z2s.flatMap e35)] [row (.slice z52 z2s.length z54) 35 4 (z2s.flatMap e35)] []))) ?_
 rintro  zo5
 refine WL.repin (i:=0) rfl (u:=(.slice z52 zgv.length z54)) (slen zo5.symm) ?_
 refine WL.nil ?_
 obtain rfl:=Option.some.inj h
 refine WX.bpNormal Try.results62 .nil (fun w hw=>?_)
 exact ⟨ret0,(zo5.trans rfl),hw.sub (.cons .here .nil)⟩
def m_curve_norm_L2 (zl : List z1) (z9V : (List z1) → Option (List z1)) : Nat → (List z1) → Int → Option (List z1)
 | 0,_,_=>none
 | zjk + 1,z1H,zq=>if decide (zq < ((zl.length : Nat) : Int)) then jp1 (fun (z8N : List z1)=>m_curve_norm_L2 zl z9V zjk z8N (i64 (zq + 1))) fun zgw=>chk ((0 : Int) ≤ zq ∧ zq < ((zl.length : Nat) : Int)) ((m_slices_Contains_api_Curve_api_Bucket z1H (⟨(⟨(((nth zl zq).fBurst).fN),(((nth zl zq).fBurst).fD)⟩ : z2),(⟨(((nth zl zq).fRate).fN),(((nth zl zq).fRate).fD)⟩ : z2)⟩ : z1)).bind fun zgx=>(if !zgx then (m_slices_ContainsFunc_api_Curve_api_Bucket zl (fun (y0 : z1)=>m_curve_norm_1 y0 (⟨(⟨(((nth zl zq).fBurst).fN),(((nth zl zq).fBurst).fD)⟩ : z2),(⟨(((nth zl zq).fRate).fN),(((nth zl zq).fRate).fD)⟩ : z2)⟩ : z1))).bind fun zjl=>some (!zjl) else some false).bind fun zjm=>if zjm then chk ((((z1H ++ ([(⟨(⟨(((nth zl zq).fBurst).fN),(((nth zl zq).fBurst).fD)⟩ : z2),(⟨(((nth zl zq).fRate).fN),(((nth zl zq).fRate).fD)⟩ : z2)⟩ : z1)] : List z1)).length : Nat) : Int) * 32 ≤ 140737488355328 ∧ (((z1H ++ ([(⟨(⟨(((nth zl zq).fBurst).fN),(((nth zl zq).fBurst).fD)⟩ : z2),(⟨(((nth zl zq).fRate).fN),(((nth zl zq).fRate).fD)⟩ : z2)⟩ : z1)] : List z1)).length : Nat) : Int) ≤ 4611686018427387904) (zgw (z1H ++ ([(⟨(⟨(((nth zl zq).fBurst).fN),(((nth zl zq).fBurst).fD)⟩ : z2),(⟨(((nth zl zq).fRate).fN),(((nth zl zq).fRate).fD)⟩ : z2)⟩ : z1)] : List z1))) else zgw z1H) else z9V z1H
theorem m_curve_norm_L2_fuel {n : Nat} {zl : List z1} {z9V : (List z1) → Option (List z1)} {z1H : List z1} {zq : Int} {r : List z1} (h : m_curve_norm_L2 zl z9V n z1H zq = some r) : ∃ m,n = m + 1:=by
 cases n with
 | zero=>cases h
 | succ m=>exact ⟨m,rfl⟩
def m_curve_norm (zl : List z1) : Option (List z1) :=
 jp1 (fun (z4O : List z1)=>(m_slices_SortFunc_api_Curve_api_Bucket z4O (fun (y0 : z1) (y1 : z1)=>m_curve_norm_2 y0 y1)).bind fun zgy=>some zgy) fun z9V=>m_curve_norm_L2 zl z9V FUEL ([] : List z1) 0
set_option maxRecDepth 20000 in
theorem w_curve_norm (Z : Zp)  (z7S : Option Addr) (z7T : Nat) (zl : List z1) (r : List z1) (w₀ : World) (hz : PZ [] w₀ Z)
  (zo6 : ZS Z 4 (fun r x=>r = e35 x) z7S z7T zl)
  (h : m_curve_norm zl = some r) :
  Calls Try.prog 48 #[(.slice z7S zl.length z7T)] w₀ fun e w'=>∃ zo7 : Option Addr,∃ zo8 : Nat,e = .returned (.slice zo7 r.length zo8) ∧ True ∧ Hp [] w₀ w' [row (.slice zo7 r.length zo8) 35 4 (r.flatMap e35)]:=by
 unfold m_curve_norm at h
 refine Calls.ofWC (vs:=[(.slice z7S zl.length z7T)]) (pre:=[]) (env:=[(0,(.slice z7S zl.length z7T))]) Try.func48 rfl Try.ntmps48 rfl (Hp.nil w₀ _) rfl ?_
 refine WC.b ?_
 refine WC.a ?_
 refine WL.a (d:=2) rfl rfl rfl (q_z rfl) ?_
 refine WL.nil ?_
 refine WX.a ?_
 refine WC.b ?_
 refine WC.a ?_
 refine WL.a (d:=3) rfl rfl rfl (q_z rfl) ?_
 refine WL.nil ?_
 refine WX.a ?_
 obtain ⟨z9V,zst,h⟩:=jp1_elim h
 refine WC.seqMid3 (fun (z4O : List z1) (z7t : Option Addr) (z7u : Nat)=>(z9V z4O = some r)) (fun (z4O : List z1) (z7t : Option Addr) (z7u : Nat)=>[(3,(.slice z7t z4O.length z7u))]) (fun (z4O : List z1) (z7t : Option Addr) (z7u : Nat)=>[row (.slice z7t z4O.length z7u) 35 4 (z4O.flatMap e35)]) ?_ ?_
 ·skip
  refine WC.b ?_
  refine WC.a ?_
  refine WL.a (d:=6) rfl rfl rfl (q_m rfl) ?_
  refine WL.a (d:=7) rfl rfl rfl (q_len Try.underlying39 rfl) ?_
  refine WL.a (d:=8) rfl rfl rfl (q_m rfl) ?_
  refine WL.nil ?_
  refine WX.a ?_
  refine WC.block ?_
  refine WC.nilRow 35 4 ?_
  refine WC.loop5 (fun (zdn : Nat) (z1H : List z1) (zq : Int) (z3s : Option Addr) (z3t : Nat)=>(m_curve_norm_L2 zl z9V zdn z1H zq = some r)) (fun (zdn : Nat) (z1H : List z1) (zq : Int) (z3s : Option Addr) (z3t : Nat)=>[(0,(.slice z7S zl.length z7T)),(3,(.slice z3s z1H.length z3t)),(6,(.slice z7S zl.length z7T)),(7,(.int .i64 ((zl.length : Nat) : Int))),(8,(.int .i64 zq))]) (fun (zdn : Nat) (z1H : List z1) (zq : Int) (z3s : Option Addr) (z3t : Nat)=>[row (.slice z3s z1H.length z3t) 35 4 (z1H.flatMap e35)]) (fun (zdn : Nat) (z1H : List z1) (zq : Int) (z3s : Option Addr) (z3t : Nat)=>zdn) ⟨FUEL,([] : List z1),0,none,0⟩ h (.cons rfl (.cons rfl (.cons rfl (.cons rfl (.cons rfl .nil))))) (.cons .here .nil) ?_
  rintro zdn z1H zq z3s z3t h
  obtain ⟨zjk,rfl⟩:=m_curve_norm_L2_fuel h
  rw [m_curve_norm_L2] at h
  refine WC.b ?_
  refine WC.a ?_
  refine WL.a (d:=9) rfl rfl rfl (q_lss rfl rfl) ?_
  refine WL.nil ?_
  refine WX.a ?_
  refine WC.b ?_
  refine WC.cond rfl (fun zjn=>?_) (fun zjn=>?_)
  ·replace h:=ite_t h zjn
   refine WC.skip ?_
   refine WX.a ?_
   obtain ⟨zgw,zsu,h⟩:=jp1_elim h
   refine WC.seqMid3 (fun (z8N : List z1) (zdo : Option Addr) (zdp : Nat)=>(zgw z8N = some r)) (fun (z8N : List z1) (zdo : Option Addr) (zdp : Nat)=>[(0,(.slice z7S zl.length z7T)),(3,(.slice zdo z8N.length zdp)),(6,(.slice z7S zl.length z7T)),(7,(.int .i64 ((zl.length : Nat) : Int))),(8,(.int .i64 zq))]) (fun (z8N : List z1) (zdo : Option Addr) (zdp : Nat)=>[row (.slice zdo z8N.length zdp) 35 4 (z8N.flatMap e35)]) ?_ ?_
   ·skip
    refine WC.block ?_
    refine WC.b ?_
    obtain ⟨zsv,h⟩:=chk_elim h
    refine WC.a ?_
    refine WL.znth (dd:=10) rfl rfl (Z:=Z) (Pr:=(fun r x=>r = e35 x)) elT_39 rfl rfl zo6 zsv ?_
    rintro zzD zzE zsw zzF rfl
    refine WL.a (d:=11) rfl rfl rfl (q_loadA (cs:=[(.int .i64 (((nth zl zq).fBurst).fN)),(.int .i64 (((nth zl zq).fBurst).fD)),(.int .i64 (((nth zl zq).fRate).fN)),(.int .i64 (((nth zl zq).fRate).fD))]) aggT_35 rfl rfl (rd_zs hz.pv zsw)) ?_
    refine WL.new (dd:=5) rfl rfl rfl (e_alloc (cs:=[(.int .i64 0),(.int .i64 0),(.int .i64 0),(.int .i64 0)]) zeroT_35 rfl) ?_
    intro z4A _
    refine WL.eff0 rfl rfl (e_store (vs:=[(.int .i64 (((nth zl zq).fBurst).fN)),(.int .i64 (((nth zl zq).fBurst).fD)),(.int .i64 (((nth zl zq).fRate).fN)),(.int .i64 (((nth zl zq).fRate).fD))]) (ds:=[(.int .i64 (((nth zl zq).fBurst).fN)),(.int .i64 (((nth zl zq).fBurst).fD)),(.int .i64 (((nth zl zq).fRate).fN)),(.int .i64 (((nth zl zq).fRate).fD))]) sizT_35 rfl rfl rfl rfl (oc_cons rfl (oc_cons rfl (oc_cons rfl (oc_cons rfl oc_nil)))) .here (Nat.le_of_ble_eq_true rfl) rfl) ?_
    refine WL.nil ?_
    refine WX.a ?_
    refine WC.b ?_
    obtain ⟨zgx,zsx,h⟩:=zd h
    obtain ⟨zjm,zo9,h⟩:=zd h
    refine WC.a ?_
    refine WL.a (d:=12) rfl rfl rfl (q_m rfl) ?_
    refine WL.a (d:=13) rfl rfl rfl (q_loadA (cs:=[(.int .i64 (((nth zl zq).fBurst).fN)),(.int .i64 (((nth zl zq).fBurst).fD)),(.int .i64 (((nth zl zq).fRate).fN)),(.int .i64 (((nth zl zq).fRate).fD))]) aggT_35 rfl rfl (rd_all .here)) ?_
    refine WL.b (dd:=14) rfl rfl rfl (zk (l:=[.tmp 12,.tmp 13]) Try.call59 (.cons rfl (.cons rfl .nil))) (.nil : Sel [stb z4A 35 [(.int .i64 (((nth zl zq).fBurst).fN)),(.int .i64 (((nth zl zq).fBurst).fD)),(.int .i64 (((nth zl zq).fRate).fN)),(.int .i64 (((nth zl zq).fRate).fD))],row (.slice z3s z1H.length z3t) 35 4 (z1H.flatMap e35)] [] [stb z4A 35 [(.int .i64 (((nth zl zq).fBurst).fN)),(.int .i64 (((nth zl zq).fBurst).fD)),(.int .i64 (((nth zl zq).fRate).fN)),(.int .i64 (((nth zl zq).fRate).fD))],row (.slice z3s z1H.length z3t) 35 4 (z1H.flatMap e35)]) (fun w hw=>by have pz:=(hz.call hw (.nil : Sel [stb z4A 35 [(.int .i64 (((nth zl zq).fBurst).fN)),(.int .i64 (((nth zl zq).fBurst).fD)),(.int .i64 (((nth zl zq).fRate).fN)),(.int .i64 (((nth zl zq).fRate).fD))],row (.slice z3s z1H.length z3t) 35 4 (z1H.flatMap e35)] [] [stb z4A 35 [(.int .i64 (((nth zl zq).fBurst).fN)),(.int .i64 (((nth zl zq).fBurst).fD)),(.int .i64 (((nth zl zq).fRate).fN)),(.int .i64 (((nth zl zq).fRate).fD))],row (.slice z3s z1H.length z3t) 35 4 (z1H.flatMap e35)])).lend hw (.nil : Sel [stb z4A 35 [(.int .i64 (((nth zl zq).fBurst).fN)),(.int .i64 (((nth zl zq).fBurst).fD)),(.int .i64 (((nth zl zq).fRate).fN)),(.int .i64 (((nth zl zq).fRate).fD))],row (.slice z3s z1H.length z3t) 35 4 (z1H.flatMap e35)] [] [stb z4A 35 [(.int .i64 (((nth zl zq).fBurst).fN)),(.int .i64 (((nth zl zq).fBurst).fD)),(.int .i64 (((nth zl zq).fRate).fN)),(.int .i64 (((nth zl zq).fRate).fD))],row (.slice z3s z1H.length z3t) 35 4 (z1H.flatMap e35)]) (B:=[row (.slice z3s z1H.length z3t) 35 4 (z1H.flatMap e35)]) (fun _ hx'=>((.cons .h1 .nil) : Sel _ [row (.slice z3s z1H.length z3t) 35 4 (z1H.flatMap e35)] _).mem hx'); exact w_slices_Contains_api_Curve_api_Bucket (Z:=_) (zdi:=z3s) (zdj:=z3t) (z9T:=z1H) (z2E:=(⟨(⟨(((nth zl zq).fBurst).fN),(((nth zl zq).fBurst).fD)⟩ : z2),(⟨(((nth zl zq).fRate).fN),(((nth zl zq).fRate).fD)⟩ : z2)⟩ : z1)) (r:=zgx) w pz (ZA.row (hw.lent (.nil : Sel [stb z4A 35 [(.int .i64 (((nth zl zq).fBurst).fN)),(.int .i64 (((nth zl zq).fBurst).fD)),(.int .i64 (((nth zl zq).fRate).fN)),(.int .i64 (((nth zl zq).fRate).fD))],row (.slice z3s z1H.length z3t) 35 4 (z1H.flatMap e35)] [] [stb z4A 35 [(.int .i64 (((nth zl zq).fBurst).fN)),(.int .i64 (((nth zl zq).fBurst).fD)),(.int .i64 (((nth zl zq).fRate).fN)),(.int .i64 (((nth zl zq).fRate).fD))],row (.slice z3s z1H.length z3t) 35 4 (z1H.flatMap e35)]) (B:=[row (.slice z3s z1H.length z3t) 35 4 (z1H.flatMap e35)]) (fun _ hx'=>((.cons .h1 .nil) : Sel _ [row (.slice z3s z1H.length z3t) 35 4 (z1H.flatMap e35)] _).mem hx') (.head _) _) (RR.flat (enc:=e35) (fun _=>rfl) _) ⟨w,pz.1⟩) zsx) ?_
    refine WL.a (d:=15) rfl rfl rfl (q_not rfl) ?_
    refine WL.a (d:=16) rfl rfl rfl (q_m rfl) ?_
    refine WL.cut0 True [(0,(.slice z7S zl.length z7T)),(3,(.slice z3s z1H.length z3t)),(6,(.slice z7S zl.length z7T)),(7,(.int .i64 ((zl.length : Nat) : Int))),(8,(.int .i64 zq)),(5,(.pointer (some ⟨z4A,0,none⟩))),(21,(.bool zjm))] [stb z4A 35 [(.int .i64 (((nth zl zq).fBurst).fN)),(.int .i64 (((nth zl zq).fBurst).fD)),(.int .i64 (((nth zl zq).fRate).fN)),(.int .i64 (((nth zl zq).fRate).fD))],row (.slice z3s z1H.length z3t) 35 4 (z1H.flatMap e35)] 5 ?_ (fun _=>?_)
    ·rcases Bool.eq_false_or_eq_true (!zgx) with hb' | hb'
     ·have zoa:=hb'; clear hb'
      have zeN:=ite_t zo9 zoa
      obtain ⟨zjl,zsy,zeN⟩:=zd zeN
      replace zeN:=Option.some.inj zeN
      refine WL.pin (i:=16) rfl zoa ?_
      refine WL.a (d:=17) rfl rfl rfl (q_m rfl) ?_
      refine WL.a (d:=18) rfl rfl rfl (q_makeFunc (Eos.caps (l:=[.tmp 5]) (.cons rfl .nil))) ?_
      refine WL.b (dd:=19) rfl rfl rfl (zk (l:=[.tmp 17,.tmp 18]) Try.call49 (.cons rfl (.cons rfl .nil))) (.nil : Sel [stb z4A 35 [(.int .i64 (((nth zl zq).fBurst).fN)),(.int .i64 (((nth zl zq).fBurst).fD)),(.int .i64 (((nth zl zq).fRate).fN)),(.int .i64 (((nth zl zq).fRate).fD))],row (.slice z3s z1H.length z3t) 35 4 (z1H.flatMap e35)] [] [stb z4A 35 [(.int .i64 (((nth zl zq).fBurst).fN)),(.int .i64 (((nth zl zq).fBurst).fD)),(.int .i64 (((nth zl zq).fRate).fN)),(.int .i64 (((nth zl zq).fRate).fD))],row (.slice z3s z1H.length z3t) 35 4 (z1H.flatMap e35)]) (fun w hw=>by have pz:=(hz.call hw (.nil : Sel [stb z4A 35 [(.int .i64 (((nth zl zq).fBurst).fN)),(.int .i64 (((nth zl zq).fBurst).fD)),(.int .i64 (((nth zl zq).fRate).fN)),(.int .i64 (((nth zl zq).fRate).fD))],row (.slice z3s z1H.length z3t) 35 4 (z1H.flatMap e35)] [] [stb z4A 35 [(.int .i64 (((nth zl zq).fBurst).fN)),(.int .i64 (((nth zl zq).fBurst).fD)),(.int .i64 (((nth zl zq).fRate).fN)),(.int .i64 (((nth zl zq).fRate).fD))],row (.slice z3s z1H.length z3t) 35 4 (z1H.flatMap e35)])).lend hw (.nil : Sel [stb z4A 35 [(.int .i64 (((nth zl zq).fBurst).fN)),(.int .i64 (((nth zl zq).fBurst).fD)),(.int .i64 (((nth zl zq).fRate).fN)),(.int .i64 (((nth zl zq).fRate).fD))],row (.slice z3s z1H.length z3t) 35 4 (z1H.flatMap e35)] [] [stb z4A 35 [(.int .i64 (((nth zl zq).fBurst).fN)),(.int .i64 (((nth zl zq).fBurst).fD)),(.int .i64 (((nth zl zq).fRate).fN)),(.int .i64 (((nth zl zq).fRate).fD))],row (.slice z3s z1H.length z3t) 35 4 (z1H.flatMap e35)]) (B:=[stb z4A 35 [(.int .i64 (((nth zl zq).fBurst).fN)),(.int .i64 (((nth zl zq).fBurst).fD)),(.int .i64 (((nth zl zq).fRate).fN)),(.int .i64 (((nth zl zq).fRate).fD))]]) (fun _ hx'=>((.cons .here .nil) : Sel _ [stb z4A 35 [(.int .i64 (((nth zl zq).fBurst).fN)),(.int .i64 (((nth zl zq).fBurst).fD)),(.int .i64 (((nth zl zq).fRate).fN)),(.int .i64 (((nth zl zq).fRate).fD))]] _).mem hx'); exact w_slices_ContainsFunc_api_Curve_api_Bucket (Z:=_) (zbN:=z7S) (zbO:=z7T) (z9O:=60) (zbP:=[(.pointer (some ⟨z4A,0,none⟩))]) (z9a:=zl) (zbM:=(fun (y0 : z1)=>m_curve_norm_1 y0 (⟨(⟨(((nth zl zq).fBurst).fN),(((nth zl zq).fBurst).fD)⟩ : z2),(⟨(((nth zl zq).fRate).fN),(((nth zl zq).fRate).fD)⟩ : z2)⟩ : z1))) (r:=zjl) w pz (zo6.mono (Zle.left _ _)) Try.call60 (fun w' hz' y0  r  hr=>w_curve_norm_1 (Z:=_) (zeJ:=⟨z4A,0,none⟩) (z2F:=y0) (z7R:=(⟨(⟨(((nth zl zq).fBurst).fN),(((nth zl zq).fBurst).fD)⟩ : z2),(⟨(((nth zl zq).fRate).fN),(((nth zl zq).fRate).fD)⟩ : z2)⟩ : z1)) (r:=r) w' hz' ((hw.lent (.nil : Sel [stb z4A 35 [(.int .i64 (((nth zl zq).fBurst).fN)),(.int .i64 (((nth zl zq).fBurst).fD)),(.int .i64 (((nth zl zq).fRate).fN)),(.int .i64 (((nth zl zq).fRate).fD))],row (.slice z3s z1H.length z3t) 35 4 (z1H.flatMap e35)] [] [stb z4A 35 [(.int .i64 (((nth zl zq).fBurst).fN)),(.int .i64 (((nth zl zq).fBurst).fD)),(.int .i64 (((nth zl zq).fRate).fN)),(.int .i64 (((nth zl zq).fRate).fD))],row (.slice z3s z1H.length z3t) 35 4 (z1H.flatMap e35)]) (B:=[stb z4A 35 [(.int .i64 (((nth zl zq).fBurst).fN)),(.int .i64 (((nth zl zq).fBurst).fD)),(.int .i64 (((nth zl zq).fRate).fN)),(.int .i64 (((nth zl zq).fRate).fD))]]) (fun _ hx'=>((.cons .here .nil) : Sel _ [stb z4A 35 [(.int .i64 (((nth zl zq).fBurst).fN)),(.int .i64 (((nth zl zq).fBurst).fD)),(.int .i64 (((nth zl zq).fRate).fN)),(.int .i64 (((nth zl zq).fRate).fD))]] _).mem hx') (.head _) _).stb) hr) zsy) ?_
      refine WL.a (d:=20) rfl rfl rfl (q_not rfl) ?_
      refine WL.a (d:=21) rfl rfl rfl (q_pickT rfl rfl) ?_
      exact WL.cutEnd () trivial (.cons rfl (.cons rfl (.cons rfl (.cons rfl (.cons rfl (.cons rfl (.cons (zr zeN) .nil))))))) (.cons .here (.cons .here .nil))
     ·have zob:=hb'; clear hb'
      have zjo:=ite_f zo9 zob
      replace zjo:=Option.some.inj zjo
      refine WL.pin (i:=16) rfl zob ?_
      refine WL.e rfl rfl rfl ?_
      refine WL.e rfl rfl rfl ?_
      refine WL.e rfl rfl rfl ?_
      refine WL.e rfl rfl rfl ?_
      refine WL.a (d:=21) rfl rfl rfl (q_pickF rfl rfl) ?_
      exact WL.cutEnd () trivial (.cons rfl (.cons rfl (.cons rfl (.cons rfl (.cons rfl (.cons rfl (.cons (zr zjo) .nil))))))) (.cons .here (.cons .here .nil))
    ·skip
     refine WL.nil ?_
     refine WX.a ?_
     refine WC.cond rfl (fun zjp=>?_) (fun zjp=>?_)
     ·replace h:=ite_t h zjp
      obtain ⟨zsz,h⟩:=chk_elim h
      refine WC.a ?_
      refine WL.a (d:=22) rfl rfl rfl (q_m rfl) ?_
      refine WL.a (d:=23) rfl rfl rfl (q_loadA (cs:=[(.int .i64 (((nth zl zq).fBurst).fN)),(.int .i64 (((nth zl zq).fBurst).fD)),(.int .i64 (((nth zl zq).fRate).fN)),(.int .i64 (((nth zl zq).fRate).fD))]) aggT_35 rfl rfl (rd_all .here)) ?_
      refine WL.new (dd:=24) rfl rfl rfl (e_buildSlice (cs:=([(⟨(⟨(((nth zl zq).fBurst).fN),(((nth zl zq).fBurst).fD)⟩ : z2),(⟨(((nth zl zq).fRate).fN),(((nth zl zq).fRate).fD)⟩ : z2)⟩ : z1)] : List z1).flatMap e35) elT_39 (Eos.parts (l:=[.tmp 23]) (.cons rfl .nil) [0]) (fun _=>by kernel_rfl) rfl (by unfold maxLen; omega)) ?_
      intro zzG _
      refine WL.eff (d:=25) rfl rfl rfl (e_appendF (enc:=e35) (l1:=z1H) (l2:=([(⟨(⟨(((nth zl zq).fBurst).fN),(((nth zl zq).fBurst).fD)⟩ : z2),(⟨(((nth zl zq).fRate).fN),(((nth zl zq).fRate).fD)⟩ : z2)⟩ : z1)] : List z1)) elT_39 rfl rfl .h2 (fun _=>rfl) rfl rfl (news_row .here) (oc_flat e35_oc _) zsz) ?_
      rintro ⟨zsA,zsB⟩ _
      refine WL.a (d:=3) rfl rfl rfl (q_z rfl) ?_
      refine WL.nil ?_
      refine WX.blockNormal ?_
      exact WX.mid (G:=List z1 × Option Addr × Nat) ⟨(z1H ++ ([(⟨(⟨(((nth zl zq).fBurst).fN),(((nth zl zq).fBurst).fD)⟩ : z2),(⟨(((nth zl zq).fRate).fN),(((nth zl zq).fRate).fD)⟩ : z2)⟩ : z1)] : List z1)),zsA,zsB⟩ h (.cons rfl (.cons rfl (.cons rfl (.cons rfl (.cons rfl .nil))))) (.cons .here .nil)
     ·replace h:=ite_f h zjp
      refine WC.skip ?_
      refine WX.blockNormal ?_
      exact WX.mid (G:=List z1 × Option Addr × Nat) ⟨z1H,z3s,z3t⟩ h (.cons rfl (.cons rfl (.cons rfl (.cons rfl (.cons rfl .nil))))) (.cons .h1 .nil)
   ·rintro z8N zdo zdp h
    replace h:=(zsu z8N).symm.trans h
    refine WC.a ?_
    refine WL.a (d:=26) rfl rfl rfl (q_add rfl rfl rfl) ?_
    refine WL.a (d:=8) rfl rfl rfl (q_m rfl) ?_
    refine WL.nil ?_
    exact WX.round (G:=Nat × List z1 × Int × Option Addr × Nat) ⟨zjk,z8N,(i64 (zq + 1)),zdo,zdp⟩ h (Nat.lt_succ_self _) (.cons rfl (.cons rfl (.cons rfl (.cons rfl (.cons rfl .nil))))) (.cons .here .nil)
  ·replace h:=ite_f h zjn
   refine WC.exit ?_
   refine WX.thenExit ?_
   refine WX.thenExit ?_
   refine WX.blockHit ?_
   exact WX.mid (G:=List z1 × Option Addr × Nat) ⟨z1H,z3s,z3t⟩ h (.cons rfl .nil) (.cons .here .nil)
 ·rintro z4O z7t z7u h
  replace h:=(zst z4O).symm.trans h
  refine WC.b ?_
  obtain ⟨zgy,zsC,h⟩:=zd h
  refine WC.a ?_
  refine WL.a (d:=27) rfl rfl rfl (q_m rfl) ?_
  refine WL.enter0 (dd:=28) rfl rfl rfl (zk (l:=[.tmp 27,.func 63]) Try.call62 (.cons rfl (.cons rfl .nil))) ((.cons .here .nil) : Sel [row (.slice z7t z4O.length z7u) 35 4 (z4O.flatMap e35)] [row (.slice z7t z4O.length z7u) 35 4 (z4O.flatMap e35)] []) (fun w hw=>by have pz:=(hz.call hw ((.cons .here .nil) : Sel [row (.slice z7t z4O.length z7u) 35 4 (z4O.flatMap e35)] [row (.slice z7t z4O.length z7u) 35 4 (z4O.flatMap e35)] [])); exact w_slices_SortFunc_api_Curve_api_Bucket (Z:=_) (z52:=z7t) (z54:=z7u) (zaR:=63) (zdm:=[]) (z2s:=z4O) (zdl:=(fun (y0 : z1) (y1 : z1)=>m_curve_norm_2 y0 y1)) (r:=zgy) w pz Try.call63 (fun w' hz' y0 y1  r  hr=>w_curve_norm_2 (Z:=_)  (z2U:=y0) (z2V:=y1) (r:=r) w' hz'  hr) zsC (hw.owns ((.cons .here .nil) : Sel [row (.slice z7t z4O.length z7u) 35 4 (z4O.flatMap e35)] [row (.slice z7t z4O.length z7u) 35 4 (z4O.flatMap e35)] []))) ?_
  rintro  zsD
  refine WL.repin (i:=3) rfl (u:=(.slice z7t zgy.length z7u)) (slen zsD.symm) ?_
  refine WL.nil ?_
  refine WX.a ?_
  refine WC.b ?_
  refine WC.a ?_
  refine WL.a (d:=29) rfl rfl rfl (q_m rfl) ?_
  refine WL.a (d:=2) rfl rfl rfl (q_z rfl) ?_
  refine WL.nil ?_
  refine WX.a ?_
  refine WC.ret ?_
  obtain rfl:=Option.some.inj h
  refine WX.bpRet Try.results48 (.tmp rfl .nil) (fun w hw=>?_)
  exact ⟨z7t,z7u,ret1 rfl,trivial,hw.sub (.cons .here .nil)⟩
def m_curve_pairs (z9W : List z1) (z9X : List z1) : Option (List z1 × List z1) :=
 some (z9W,z9X)
set_option maxRecDepth 20000 in
theorem w_curve_pairs (Z : Zp)  (zc1 : Option Addr) (zc2 : Nat) (zc3 : Option Addr) (zc4 : Nat) (z9W : List z1) (z9X : List z1) (r : List z1 × List z1) (w₀ : World) (hz : PZ [] w₀ Z)
  (zsE : ZS Z 4 (fun r x=>r = e35 x) zc1 zc2 z9W)
  (zsF : ZS Z 4 (fun r x=>r = e35 x) zc3 zc4 z9X)
  (h : m_curve_pairs z9W z9X = some r) :
  Calls Try.prog 76 #[(.slice zc1 z9W.length zc2),(.slice zc3 z9X.length zc4)] w₀ fun e w'=>∃ zoc : Nat,∃ zod : Nat,∃ zoe : Option Addr,∃ zof : Nat,∃ zog : Option Addr,∃ zoh : Nat,e = .returned (.func (.func 89) #[] #[(.pointer (some ⟨zoc,0,none⟩)),(.pointer (some ⟨zod,0,none⟩))]) ∧ ((ZS Z 4 (fun r x=>r = e35 x) zoe zof r.1) ∧ (ZS Z 4 (fun r x=>r = e35 x) zog zoh r.2)) ∧ Hp [] w₀ w' [stb zoc 39 [(.slice zoe r.1.length zof)],stb zod 39 [(.slice zog r.2.length zoh)]]:=by
 unfold m_curve_pairs at h
 refine Calls.ofWC (vs:=[(.slice zc1 z9W.length zc2),(.slice zc3 z9X.length zc4)]) (pre:=[]) (env:=[(0,(.slice zc1 z9W.length zc2)),(1,(.slice zc3 z9X.length zc4))]) Try.func76 rfl Try.ntmps76 rfl (Hp.nil w₀ _) rfl ?_
 refine WC.b ?_
 refine WC.a ?_
 refine WL.new (dd:=2) rfl rfl rfl (e_box (cs:=[(.slice zc1 z9W.length zc2)]) rfl rfl) ?_
 intro zsG _
 refine WL.new (dd:=3) rfl rfl rfl (e_box (cs:=[(.slice zc3 z9X.length zc4)]) rfl rfl) ?_
 intro zsH _
 refine WL.a (d:=4) rfl rfl rfl (q_z rfl) ?_
 refine WL.nil ?_
 refine WX.a ?_
 refine WC.b ?_
 refine WC.a ?_
 refine WL.a (d:=5) rfl rfl rfl (q_makeFunc (Eos.caps (l:=[.tmp 2,.tmp 3]) (.cons rfl (.cons rfl .nil)))) ?_
 refine WL.a (d:=4) rfl rfl rfl (q_z rfl) ?_
 refine WL.nil ?_
 refine WX.a ?_
 refine WC.ret ?_
 obtain rfl:=Option.some.inj h
 refine WX.bpRet Try.results76 (.tmp rfl .nil) (fun w hw=>?_)
 exact ⟨zsG,zsH,zc1,zc2,zc3,zc4,ret1 rfl,⟨zsE,zsF⟩,hw.sub (.cons .h1 (.cons .here .nil))⟩
end Go.Proofs.Ytakfmdiiehcbdaa

/- A part of this claim's proof: models of functions, walks, plain laws. No conditions. -/
import Derived.Test.YtakfmdiiehcbdaaZSortF
import Derived.Test.YtakfmdiiehcbdaaZUnroll
import Derived.Test.YtakfmdiiehcbdaaShelf03
import Derived.Test.YtakfmdiiehcbdaaProg
namespace Go.Proofs.Ytakfmdiiehcbdaa
open Go Go.RowKit Sep
set_option linter.all false
set_option maxRecDepth 30000
set_option maxHeartbeats 4000000
def e5 (x : Int) : List Value:=[(.int .u8 x)]
structure zSt where
  fTime : Int
  fVL : Int
  fSize : Int
  deriving Inhabited,DecidableEq
def e51 (x : zSt) : List Value:=[(.int .i64 x.fTime),(.int .i64 x.fVL),(.int .i64 x.fSize)]
def e3 (x : Int) : List Value:=[(.int .i64 x)]
theorem e3_oc : ∀ x,∀ u ∈ e3 x,u.oneCell' = true:=fun _=>ocB rfl
structure z2 where
  fN : Int
  fD : Int
  deriving Inhabited,DecidableEq
structure S7 where
  fX : Int
  fY : Int
  fSigned : Bool
  fCode : Int
  deriving Inhabited,DecidableEq
structure S13 where
  fMsg : ByteArray
  fAddr : Int
  deriving Inhabited,DecidableEq
structure S27 where
  fF : List zSt
  fGap : Int
  deriving Inhabited,DecidableEq
structure z1 where
  fB : z2
  fR : z2
  deriving Inhabited,DecidableEq
def e35 (x : z1) : List Value:=[(.int .i64 x.fB.fN),(.int .i64 x.fB.fD),(.int .i64 x.fR.fN),(.int .i64 x.fR.fD)]
theorem y9r : ∀ x,∀ u ∈ e35 x,u.oneCell' = true:=fun _=>ocB rfl
def p39 (Z : Zp) (r : List Value) (x : List z1) : Prop:=∃ (ao0 : Option Addr) (cap0 : Nat),r = [(.slice ao0 x.length cap0)] ∧ ZS Z 4 (fun r x=>r = e35 x) ao0 cap0 x
theorem yo {Z Z' : Zp} (k : Zle Z Z') {r : List Value} {x : List z1} (h : p39 Z r x) : p39 Z' r x:=by
  obtain ⟨ao0,cap0,hr,h0⟩:=h
  exact ⟨ao0,cap0,hr,h0.mono k⟩
structure zSv where
  fR : z2
  fLatency : z2
  deriving Inhabited,DecidableEq
def e30 (x : z2) : List Value:=[(.int .i64 x.fN),(.int .i64 x.fD)]
theorem y8n : ∀ x,∀ u ∈ e30 x,u.oneCell' = true:=fun _=>ocB rfl
structure zX where
  fE : Int
  deriving Inhabited,DecidableEq
structure S62 where
  fL : List (List z1)
  fS : zSv
  deriving Inhabited,DecidableEq
def p62 (Z : Zp) (r : List Value) (x : S62) : Prop:=∃ (ao0 : Option Addr) (cap0 : Nat),r = [(.slice ao0 x.fL.length cap0),(.int .i64 x.fS.fR.fN),(.int .i64 x.fS.fR.fD),(.int .i64 x.fS.fLatency.fN),(.int .i64 x.fS.fLatency.fD)] ∧ ZS Z 1 (p39 Z) ao0 cap0 x.fL
theorem y9s {Z Z' : Zp} (k : Zle Z Z') {r : List Value} {x : S62} (h : p62 Z r x) : p62 Z' r x:=by
  obtain ⟨ao0,cap0,hr,h0⟩:=h
  exact ⟨ao0,cap0,hr,(h0.mono k).weak (fun _ _ h=>yo k h)⟩
theorem elT_22 : elT Try.prog 22 5 1 1:=⟨Try.underlying22,⟨Try.t5,_,rfl,rfl,rfl,rfl,rfl⟩,by decide⟩
theorem oneT_5 : y5X Try.prog 5:=y4A Try.underlying5 rfl
theorem y64 : elT Try.prog 24 51 3 24:=⟨Try.underlying24,⟨Try.t51,_,rfl,rfl,rfl,rfl,rfl⟩,by decide⟩
theorem y8H : y5Y Try.prog 51 3:=y5N (i:=Try.t51) Try.underlying51 rfl rfl
theorem y88 : y37 Try.prog 51 (.agg #[(.int .i64 0),(.int .i64 0),(.int .i64 0)]):=y3l (i:=Try.t51) rfl rfl
theorem y8I : y4p Try.prog 51 3:=y3p (i:=Try.t51) rfl
theorem y50 : y1S Try.prog 51 0 0:=y1t (i:=Try.t3) Try.underlying51 rfl rfl (by decide) rfl
theorem yu : y5X Try.prog 3:=y4A Try.underlying3 rfl
theorem y7J : y1S Try.prog 51 2 2:=y1t (i:=Try.t3) Try.underlying51 rfl rfl (by decide) rfl
theorem y7q : elT Try.prog 45 3 1 8:=⟨Try.underlying45,⟨Try.t3,_,rfl,rfl,rfl,rfl,rfl⟩,by decide⟩
theorem ym : y37 Try.prog 30 (.agg #[(.int .i64 0),(.int .i64 0)]):=y3l (i:=Try.t30) rfl rfl
theorem yj : y4p Try.prog 30 2:=y3p (i:=Try.t30) rfl
theorem y4 : y5Y Try.prog 30 2:=y5N (i:=Try.t30) Try.underlying30 rfl rfl
theorem y3D : y37 Try.prog 35 (.agg #[(.int .i64 0),(.int .i64 0),(.int .i64 0),(.int .i64 0)]):=y3l (i:=Try.t35) rfl rfl
theorem y3M : y4p Try.prog 35 4:=y3p (i:=Try.t35) rfl
theorem y1x : y5Y Try.prog 35 4:=y5N (i:=Try.t35) Try.underlying35 rfl rfl
theorem y2d : elT Try.prog 39 35 4 32:=⟨Try.underlying39,⟨Try.t35,_,rfl,rfl,rfl,rfl,rfl⟩,by decide⟩
theorem y51 : y37 Try.prog 43 (.agg #[(.int .i64 0),(.int .i64 0),(.int .i64 0),(.int .i64 0)]):=y3l (i:=Try.t43) rfl rfl
theorem y7K : y4p Try.prog 43 4:=y3p (i:=Try.t43) rfl
theorem y2x : elT Try.prog 26 39 1 24:=⟨Try.underlying26,⟨Try.t39,_,rfl,rfl,rfl,rfl,rfl⟩,by decide⟩
theorem y24 : y5Y Try.prog 43 4:=y5N (i:=Try.t43) Try.underlying43 rfl rfl
theorem y2L : y5X Try.prog 26:=y4A Try.underlying26 rfl
theorem y9t : y37 Try.prog 79 (.agg #[(.slice none 0 0),(.int .i64 0),(.int .i64 0),(.int .i64 0),(.int .i64 0),.nilFunc,(.slice none 0 0)]):=y3l (i:=Try.t79) rfl rfl
theorem ya4 : y4p Try.prog 79 7:=y3p (i:=Try.t79) rfl
theorem y7L : y1S Try.prog 79 2 5:=y1t (i:=Try.t76) Try.underlying79 rfl rfl (by decide) rfl
theorem ya5 : y4p Try.prog 76 1:=y3p (i:=Try.t76) rfl
theorem y5R : y5Y Try.prog 79 7:=y5N (i:=Try.t79) Try.underlying79 rfl rfl
theorem y4C : y1S Try.prog 79 0 0:=y1t (i:=Try.t26) Try.underlying79 rfl rfl (by decide) rfl
theorem y3N : y1S Try.prog 35 0 0:=y1t (i:=Try.t30) Try.underlying35 rfl rfl (by decide) rfl
theorem y1W : y1S Try.prog 30 1 1:=y1t (i:=Try.t3) Try.underlying30 rfl rfl (by decide) rfl
theorem y1K : y1S Try.prog 30 0 0:=y1t (i:=Try.t3) Try.underlying30 rfl rfl (by decide) rfl
theorem y4D : y1S Try.prog 35 1 2:=y1t (i:=Try.t30) Try.underlying35 rfl rfl (by decide) rfl
theorem y4E : y5X Try.prog 39:=y4A Try.underlying39 rfl
theorem y7M : y1S Try.prog 79 1 1:=y1t (i:=Try.t43) Try.underlying79 rfl rfl (by decide) rfl
theorem y52 : y1S Try.prog 43 0 0:=y1t (i:=Try.t30) Try.underlying43 rfl rfl (by decide) rfl
theorem y53 : y1S Try.prog 43 1 2:=y1t (i:=Try.t30) Try.underlying43 rfl rfl (by decide) rfl
theorem y70 : y37 Try.prog 98 (.agg #[(.int .i64 0)]):=y3l (i:=Try.t98) rfl rfl
theorem y9u : y37 Try.prog 90 (.agg #[(.int .i64 0)]):=y3l (i:=Try.t90) rfl rfl
theorem y89 : y37 Try.prog 77 (.slice none 0 0):=y3l (i:=Try.t77) rfl rfl
theorem eqT_35 : EqT Try.prog 35 e35:=⟨fun u v w=>by
  have i35_10000:=fun (w : World) (a b : Array Value)=>run_equalIn_agg (P:=Try.prog) w 9999 35 a b (by simp [Program.fieldsOf,Try.underlying35]) (by kernel_rfl)
  have i30_9999:=fun (w : World) (a b : Array Value)=>run_equalIn_agg (P:=Try.prog) w 9998 30 a b (by simp [Program.fieldsOf,Try.underlying30]) (by kernel_rfl)
  have i3_9998:=fun (w : World) (a b : Int)=>run_equalIn_int (P:=Try.prog) w 9997 3 .i64 .i64 a b Try.underlying3
  rw [i35_10000]
  simp [Program.fieldsOf,Op.eqFields,part,e35,i35_10000,Try.underlying35,i30_9999,Try.underlying30,i3_9998]
  rcases u with ⟨⟨u1,u2⟩,⟨u3,u4⟩⟩
  rcases v with ⟨⟨v1,v2⟩,⟨v3,v4⟩⟩
  by_cases h1 : u1 = v1 <;> by_cases h2 : u2 = v2 <;> by_cases h3 : u3 = v3 <;> by_cases h4 : u4 = v4 <;> simp [h1,h2,h3,h4],by kernel_rfl⟩
theorem y3s : y5X Try.prog 77:=y4A Try.underlying77 rfl
theorem y2m : KeyT Try.prog 9 Value.string:=keyT_str Try.underlying9
theorem zdQ : y37 Try.prog 104 .nilFunc:=y3l (i:=Try.t104) rfl rfl
theorem sizT_3 : y4p Try.prog 3 1:=y3p (i:=Try.t3) rfl
theorem y5S : y1S Try.prog 90 0 0:=y1t (i:=Try.t31) Try.underlying90 rfl rfl (by decide) rfl
theorem y2B : y5X Try.prog 31:=y4A Try.underlying31 rfl
theorem y8J : y4p Try.prog 31 1:=y3p (i:=Try.t31) rfl
theorem y1B : elT Try.prog 77 30 2 16:=⟨Try.underlying77,⟨Try.t30,_,rfl,rfl,rfl,rfl,rfl⟩,by decide⟩
theorem y8K : y4p Try.prog 77 1:=y3p (i:=Try.t77) rfl
theorem y7r : EqT Try.prog 30 e30:=⟨fun u v w=>by
  have i30_10000:=fun (w : World) (a b : Array Value)=>run_equalIn_agg (P:=Try.prog) w 9999 30 a b (by simp [Program.fieldsOf,Try.underlying30]) (by kernel_rfl)
  have i3_9999:=fun (w : World) (a b : Int)=>run_equalIn_int (P:=Try.prog) w 9998 3 .i64 .i64 a b Try.underlying3
  rw [i30_10000]
  simp [Program.fieldsOf,Op.eqFields,part,e30,i30_10000,Try.underlying30,i3_9999]
  rcases u with ⟨u1,u2⟩
  rcases v with ⟨v1,v2⟩
  by_cases h1 : u1 = v1 <;> by_cases h2 : u2 = v2 <;> simp [h1,h2],by kernel_rfl⟩
theorem yaL : fldT Try.prog 35 1 2 30:=fldT_of Try.underlying35 rfl rfl rfl
theorem y33 : y1S Try.prog 98 0 0:=y1t (i:=Try.t31) Try.underlying98 rfl rfl (by decide) rfl
theorem ya6 : y1S Try.prog 79 3 6:=y1t (i:=Try.t77) Try.underlying79 rfl rfl (by decide) rfl
theorem ya7 : y5X Try.prog 76:=y4A Try.underlying76 rfl
theorem y9v : elT Try.prog 61 48 1 8:=⟨Try.underlying61,⟨Try.t48,_,rfl,rfl,rfl,rfl,rfl⟩,by decide⟩
theorem ya8 : y5X Try.prog 48:=y4A Try.underlying48 rfl
theorem y8o : elT Try.prog 63 62 5 56:=⟨Try.underlying63,⟨Try.t62,_,rfl,rfl,rfl,rfl,rfl⟩,by decide⟩
theorem ya9 : y5Y Try.prog 62 5:=y5N (i:=Try.t62) Try.underlying62 rfl rfl
theorem y9w : y37 Try.prog 62 (.agg #[(.slice none 0 0),(.int .i64 0),(.int .i64 0),(.int .i64 0),(.int .i64 0)]):=y3l (i:=Try.t62) rfl rfl
theorem yaa : y4p Try.prog 62 5:=y3p (i:=Try.t62) rfl
theorem yab : y1S Try.prog 62 0 0:=y1t (i:=Try.t26) Try.underlying62 rfl rfl (by decide) rfl
theorem yac : y1S Try.prog 62 1 1:=y1t (i:=Try.t43) Try.underlying62 rfl rfl (by decide) rfl
def y2s (zp : List zSt) (z62 : Option Bool) : Nat → Int → Option Bool
  | 0,_=>none
  | zfs + 1,zq=>if decide (zq < ((zp.length : Nat) : Int)) then chk ((0 : Int) ≤ zq ∧ zq < ((zp.length : Nat) : Int)) (chk (((((decide (((nth zp zq).fTime) < 0)) || (decide (((nth zp zq).fTime) > 1073741824))) || (decide (((nth zp zq).fSize) < 1))) || (decide (((nth zp zq).fSize) > 72))) = false → ((decide (zq > 0)) = true → ((0 : Int) ≤ (i64 (zq - 1)) ∧ (i64 (zq - 1)) < ((zp.length : Nat) : Int)))) (if ((((decide (((nth zp zq).fTime) < 0)) || (decide (((nth zp zq).fTime) > 1073741824))) || (decide (((nth zp zq).fSize) < 1))) || (decide (((nth zp zq).fSize) > 72))) || ((decide (zq > 0)) && (decide (((nth zp (i64 (zq - 1))).fTime) > ((nth zp zq).fTime)))) then some false else y2s zp z62 zfs (i64 (zq + 1)))) else z62
theorem y5B {n : Nat} {zp : List zSt} {z62 : Option Bool} {zq : Int} {r : Bool} (h : y2s zp z62 n zq = some r) : ∃ m,n = m + 1:=by
  cases n with
  | zero=>cases h
  | succ m=>exact ⟨m,rfl⟩
def y3n (zp : List zSt) : Option Bool :=
  jp0 (some (decide (((zp.length : Nat) : Int) ≤ 4000))) fun z62=>y2s zp z62 ys 0
set_option maxRecDepth 20000 in
theorem y5x (Z : Zp) (z35 : Option Addr) (z36 : Nat) (zp : List zSt) (r : Bool)
     (h : y3n zp = some r) (w₀ : World) (hz : PZ [] w₀ Z)
     (zkm : ZS Z 3 (fun r x=>r = e51 x) z35 z36 zp) :
    Calls Try.prog 31 #[(.slice z35 zp.length z36)] w₀ fun e w'=>e = .returned (.bool r) ∧ Hp [] w₀ w' []:=by
  unfold y3n at h
  refine Calls.yc (vs:=[(.slice z35 zp.length z36)]) (pre:=[]) (env:=[(0,(.slice z35 zp.length z36))]) Try.func31 rfl Try.ntmps31 rfl (Hp.nil w₀ _) rfl ?_
  refine WC.b (WC.a (WL.pu rfl (WL.nil (WX.a ?_))))
  obtain ⟨z62,zoG,h⟩:=y2V h
  refine WC.y4N ((z62 = some r)) ([(0,(.slice z35 zp.length z36))]) ([]) ?_ ?_
  · skip
    refine WC.b (WC.a (WL.pu rfl ?_))
    refine WL.a (d:=6) rfl rfl rfl (y1c Try.underlying24 rfl) ?_
    refine WL.pu rfl (WL.nil (WX.a (WC.block ?_)))
    refine WC.y60 (fun (z9N : Nat) (zq : Int)=>(y2s zp z62 z9N zq = some r)) (fun (z9N : Nat) (zq : Int)=>[(0,(.slice z35 zp.length z36)),(5,(.slice z35 zp.length z36)),(6,(.int .i64 ((zp.length : Nat) : Int))),(7,(.int .i64 zq))]) (fun (z9N : Nat) (zq : Int)=>[]) (fun (z9N : Nat) (zq : Int)=>z9N) ⟨ys,0⟩ h (.cons rfl (.cons rfl (.cons rfl (.cons rfl .nil)))) .nil ?_
    rintro z9N zq h
    obtain ⟨zfs,rfl⟩:=y5B h
    rw [y2s] at h
    refine WC.b (WC.a (WL.pu rfl (WL.nil (WX.a (WC.b ?_)))))
    refine WC.cond rfl (fun zft=>?_) (fun zft=>?_)
    · replace h:=ye h zft
      refine WC.skip (WX.a (WC.b (WC.block (WC.b ?_))))
      obtain ⟨zoH,h⟩:=yk h
      refine WC.a (WL.pu rfl ?_)
      refine WL.znth (dd:=10) rfl rfl (Z:=Z) (Pr:=(fun r x=>r = e51 x)) y64 rfl rfl zkm zoH ?_
      rintro zxm zxn zoI zxo rfl
      refine WL.a (d:=11) rfl rfl rfl (y7 y8H rfl (y2R hz.pv zoI) rfl) ?_
      refine WL.new (dd:=4) rfl rfl rfl (yh (cs:=[(.int .i64 0),(.int .i64 0),(.int .i64 0)]) y88 rfl) ?_
      intro zfu _
      refine WL.pu rfl ?_
      refine WL.ya rfl rfl (y9 y8I rfl rfl rfl .here rfl rfl rfl) ?_
      refine WL.nil (WX.a (WC.b ?_))
      obtain ⟨zoJ,h⟩:=yk h
      refine WC.y1g (fun i=>[].contains i) [] rfl ?_
      refine WD.a (i:=0) (d:=12) (by kernel_rfl) rfl (z6 (by kernel_rfl)) (z7 (by kernel_rfl)) rfl rfl rfl (fun _=>y3 y50 rfl rfl) ?_
      refine WD.e (i:=1) (d:=13) (by kernel_rfl) rfl (z6 (by kernel_rfl)) (z7 (by kernel_rfl)) rfl rfl rfl (yb yu rfl (yq .here rfl)) ?_
      refine WD.a (i:=2) (d:=14) (by kernel_rfl) rfl (z6 (by kernel_rfl)) (z7 (by kernel_rfl)) rfl rfl rfl (fun _=>y6q rfl rfl) ?_
      refine WD.a (i:=3) (d:=15) (by kernel_rfl) rfl (z6 (by kernel_rfl)) (z7 (by kernel_rfl)) rfl rfl rfl (fun _=>q_m rfl) ?_
      refine WD.mid (fuel':=25) [(0,(.slice z35 zp.length z36)),(5,(.slice z35 zp.length z36)),(6,(.int .i64 ((zp.length : Nat) : Int))),(7,(.int .i64 zq)),(4,(.pointer (some ⟨zfu,0,none⟩))),(3,(.int .i64 zq)),(15,(.bool (decide (((nth zp zq).fTime) < 0)))),(19,(.bool ((decide (((nth zp zq).fTime) < 0)) || (decide (((nth zp zq).fTime) > 1073741824)))))] (y1h 33 [7,6,5,4,3,2,1,0]) ?_ (fun zkn=>?_)
      rotate_left
      · rcases Bool.eq_false_or_eq_true (decide (((nth zp zq).fTime) < 0)) with hb' | hb'
        · have zfv:=hb'; clear hb'
          refine WD.pin (i:=15) rfl zfv ?_
          refine WD.b (i:=4) (d:=16) (by kernel_rfl) rfl (z6 (by kernel_rfl)) (z7 (by kernel_rfl)) rfl rfl rfl ?_
          refine WD.b (i:=5) (d:=17) (by kernel_rfl) rfl (z6 (by kernel_rfl)) (z7 (by kernel_rfl)) rfl rfl rfl ?_
          refine WD.b (i:=6) (d:=18) (by kernel_rfl) rfl (z6 (by kernel_rfl)) (z7 (by kernel_rfl)) rfl rfl rfl ?_
          refine WD.a (i:=7) (d:=19) (by kernel_rfl) rfl (z6 (by kernel_rfl)) (z7 (by kernel_rfl)) rfl rfl rfl (fun _=>y22 rfl rfl) ?_
          refine WD.yA (.cons .here .nil) ?_ zkn
          exact (.cons rfl (.cons rfl (.cons rfl (.cons rfl (.cons rfl (.cons rfl (.cons (zn (Eq.symm zfv)) (.cons (zn (y4X zfv)) .nil))))))))
        · have zfw:=hb'; clear hb'
          refine WD.pin (i:=15) rfl zfw ?_
          refine WD.a (i:=4) (d:=16) (by kernel_rfl) rfl (z6 (by kernel_rfl)) (z7 (by kernel_rfl)) rfl rfl rfl (fun _=>y3 y50 rfl rfl) ?_
          refine WD.e (i:=5) (d:=17) (by kernel_rfl) rfl (z6 (by kernel_rfl)) (z7 (by kernel_rfl)) rfl rfl rfl (yb yu rfl (yq .here rfl)) ?_
          refine WD.a (i:=6) (d:=18) (by kernel_rfl) rfl (z6 (by kernel_rfl)) (z7 (by kernel_rfl)) rfl rfl rfl (fun _=>y6V rfl rfl) ?_
          refine WD.a (i:=7) (d:=19) (by kernel_rfl) rfl (z6 (by kernel_rfl)) (z7 (by kernel_rfl)) rfl rfl rfl (fun _=>y23 rfl rfl) ?_
          refine WD.yA (.cons .here .nil) ?_ zkn
          exact (.cons rfl (.cons rfl (.cons rfl (.cons rfl (.cons rfl (.cons rfl (.cons (zn (Eq.symm zfw)) (.cons (zn (y4Y zfw)) .nil))))))))
      refine WD.d #[true,true,true,true,true,true,true,true,false,false,false,false,false,false,false,false,false,false,false,false,false,false,false,false,false,false,false,false,false,false,false,false,false] (by kernel_rfl) ?_
      refine WD.a (i:=8) (d:=20) (by kernel_rfl) rfl (z6 (by kernel_rfl)) (z7 (by kernel_rfl)) rfl rfl rfl (fun _=>q_m rfl) ?_
      refine WD.mid (fuel':=20) [(0,(.slice z35 zp.length z36)),(5,(.slice z35 zp.length z36)),(6,(.int .i64 ((zp.length : Nat) : Int))),(7,(.int .i64 zq)),(4,(.pointer (some ⟨zfu,0,none⟩))),(3,(.int .i64 zq)),(20,(.bool ((decide (((nth zp zq).fTime) < 0)) || (decide (((nth zp zq).fTime) > 1073741824))))),(24,(.bool (((decide (((nth zp zq).fTime) < 0)) || (decide (((nth zp zq).fTime) > 1073741824))) || (decide (((nth zp zq).fSize) < 1)))))] (y1h 33 [12,11,10,9,8,7,6,5,4,3,2,1,0]) ?_ (fun zko=>?_)
      rotate_left
      · rcases Bool.eq_false_or_eq_true ((decide (((nth zp zq).fTime) < 0)) || (decide (((nth zp zq).fTime) > 1073741824))) with hb' | hb'
        · have zfx:=hb'; clear hb'
          refine WD.pin (i:=20) rfl zfx ?_
          refine WD.b (i:=9) (d:=21) (by kernel_rfl) rfl (z6 (by kernel_rfl)) (z7 (by kernel_rfl)) rfl rfl rfl ?_
          refine WD.b (i:=10) (d:=22) (by kernel_rfl) rfl (z6 (by kernel_rfl)) (z7 (by kernel_rfl)) rfl rfl rfl ?_
          refine WD.b (i:=11) (d:=23) (by kernel_rfl) rfl (z6 (by kernel_rfl)) (z7 (by kernel_rfl)) rfl rfl rfl ?_
          refine WD.a (i:=12) (d:=24) (by kernel_rfl) rfl (z6 (by kernel_rfl)) (z7 (by kernel_rfl)) rfl rfl rfl (fun _=>y22 rfl rfl) ?_
          refine WD.yA (.cons .here .nil) ?_ zko
          exact (.cons rfl (.cons rfl (.cons rfl (.cons rfl (.cons rfl (.cons rfl (.cons (zn (Eq.symm zfx)) (.cons (zn (y4X zfx)) .nil))))))))
        · have zfy:=hb'; clear hb'
          refine WD.pin (i:=20) rfl zfy ?_
          refine WD.a (i:=9) (d:=21) (by kernel_rfl) rfl (z6 (by kernel_rfl)) (z7 (by kernel_rfl)) rfl rfl rfl (fun _=>y3 y7J rfl rfl) ?_
          refine WD.e (i:=10) (d:=22) (by kernel_rfl) rfl (z6 (by kernel_rfl)) (z7 (by kernel_rfl)) rfl rfl rfl (yb yu rfl (yq .here rfl)) ?_
          refine WD.a (i:=11) (d:=23) (by kernel_rfl) rfl (z6 (by kernel_rfl)) (z7 (by kernel_rfl)) rfl rfl rfl (fun _=>y6q rfl rfl) ?_
          refine WD.a (i:=12) (d:=24) (by kernel_rfl) rfl (z6 (by kernel_rfl)) (z7 (by kernel_rfl)) rfl rfl rfl (fun _=>y23 rfl rfl) ?_
          refine WD.yA (.cons .here .nil) ?_ zko
          exact (.cons rfl (.cons rfl (.cons rfl (.cons rfl (.cons rfl (.cons rfl (.cons (zn (Eq.symm zfy)) (.cons (zn (y4Y zfy)) .nil))))))))
      refine WD.d #[true,true,true,true,true,true,true,true,true,true,true,true,true,false,false,false,false,false,false,false,false,false,false,false,false,false,false,false,false,false,false,false,false] (by kernel_rfl) ?_
      refine WD.a (i:=13) (d:=25) (by kernel_rfl) rfl (z6 (by kernel_rfl)) (z7 (by kernel_rfl)) rfl rfl rfl (fun _=>q_m rfl) ?_
      refine WD.mid (fuel':=15) [(0,(.slice z35 zp.length z36)),(5,(.slice z35 zp.length z36)),(6,(.int .i64 ((zp.length : Nat) : Int))),(7,(.int .i64 zq)),(4,(.pointer (some ⟨zfu,0,none⟩))),(3,(.int .i64 zq)),(25,(.bool (((decide (((nth zp zq).fTime) < 0)) || (decide (((nth zp zq).fTime) > 1073741824))) || (decide (((nth zp zq).fSize) < 1))))),(29,(.bool ((((decide (((nth zp zq).fTime) < 0)) || (decide (((nth zp zq).fTime) > 1073741824))) || (decide (((nth zp zq).fSize) < 1))) || (decide (((nth zp zq).fSize) > 72)))))] (y1h 33 [17,16,15,14,13,12,11,10,9,8,7,6,5,4,3,2,1,0]) ?_ (fun zkp=>?_)
      rotate_left
      · rcases Bool.eq_false_or_eq_true (((decide (((nth zp zq).fTime) < 0)) || (decide (((nth zp zq).fTime) > 1073741824))) || (decide (((nth zp zq).fSize) < 1))) with hb' | hb'
        · have zfz:=hb'; clear hb'
          refine WD.pin (i:=25) rfl zfz ?_
          refine WD.b (i:=14) (d:=26) (by kernel_rfl) rfl (z6 (by kernel_rfl)) (z7 (by kernel_rfl)) rfl rfl rfl ?_
          refine WD.b (i:=15) (d:=27) (by kernel_rfl) rfl (z6 (by kernel_rfl)) (z7 (by kernel_rfl)) rfl rfl rfl ?_
          refine WD.b (i:=16) (d:=28) (by kernel_rfl) rfl (z6 (by kernel_rfl)) (z7 (by kernel_rfl)) rfl rfl rfl ?_
          refine WD.a (i:=17) (d:=29) (by kernel_rfl) rfl (z6 (by kernel_rfl)) (z7 (by kernel_rfl)) rfl rfl rfl (fun _=>y22 rfl rfl) ?_
          refine WD.yA (.cons .here .nil) ?_ zkp
          exact (.cons rfl (.cons rfl (.cons rfl (.cons rfl (.cons rfl (.cons rfl (.cons (zn (Eq.symm zfz)) (.cons (zn (y4X zfz)) .nil))))))))
        · have zfA:=hb'; clear hb'
          refine WD.pin (i:=25) rfl zfA ?_
          refine WD.a (i:=14) (d:=26) (by kernel_rfl) rfl (z6 (by kernel_rfl)) (z7 (by kernel_rfl)) rfl rfl rfl (fun _=>y3 y7J rfl rfl) ?_
          refine WD.e (i:=15) (d:=27) (by kernel_rfl) rfl (z6 (by kernel_rfl)) (z7 (by kernel_rfl)) rfl rfl rfl (yb yu rfl (yq .here rfl)) ?_
          refine WD.a (i:=16) (d:=28) (by kernel_rfl) rfl (z6 (by kernel_rfl)) (z7 (by kernel_rfl)) rfl rfl rfl (fun _=>y6V rfl rfl) ?_
          refine WD.a (i:=17) (d:=29) (by kernel_rfl) rfl (z6 (by kernel_rfl)) (z7 (by kernel_rfl)) rfl rfl rfl (fun _=>y23 rfl rfl) ?_
          refine WD.yA (.cons .here .nil) ?_ zkp
          exact (.cons rfl (.cons rfl (.cons rfl (.cons rfl (.cons rfl (.cons rfl (.cons (zn (Eq.symm zfA)) (.cons (zn (y4Y zfA)) .nil))))))))
      refine WD.d #[true,true,true,true,true,true,true,true,true,true,true,true,true,true,true,true,true,true,false,false,false,false,false,false,false,false,false,false,false,false,false,false,false] (by kernel_rfl) ?_
      refine WD.a (i:=18) (d:=30) (by kernel_rfl) rfl (z6 (by kernel_rfl)) (z7 (by kernel_rfl)) rfl rfl rfl (fun _=>q_m rfl) ?_
      refine WD.mid (fuel':=0) [(0,(.slice z35 zp.length z36)),(5,(.slice z35 zp.length z36)),(6,(.int .i64 ((zp.length : Nat) : Int))),(7,(.int .i64 zq)),(30,(.bool ((((decide (((nth zp zq).fTime) < 0)) || (decide (((nth zp zq).fTime) > 1073741824))) || (decide (((nth zp zq).fSize) < 1))) || (decide (((nth zp zq).fSize) > 72))))),(44,(.bool (((((decide (((nth zp zq).fTime) < 0)) || (decide (((nth zp zq).fTime) > 1073741824))) || (decide (((nth zp zq).fSize) < 1))) || (decide (((nth zp zq).fSize) > 72))) || ((decide (zq > 0)) && (decide (((nth zp (i64 (zq - 1))).fTime) > ((nth zp zq).fTime)))))))] (y1h 33 [32,31,30,29,28,27,26,25,24,23,22,21,20,19,18,17,16,15,14,13,12,11,10,9,8,7,6,5,4,3,2,1,0]) ?_ (fun zkq=>?_)
      rotate_left
      · rcases Bool.eq_false_or_eq_true ((((decide (((nth zp zq).fTime) < 0)) || (decide (((nth zp zq).fTime) > 1073741824))) || (decide (((nth zp zq).fSize) < 1))) || (decide (((nth zp zq).fSize) > 72))) with hb' | hb'
        · have zfB:=hb'; clear hb'
          refine WD.pin (i:=30) rfl zfB ?_
          refine WD.b (i:=19) (d:=31) (by kernel_rfl) rfl (z6 (by kernel_rfl)) (z7 (by kernel_rfl)) rfl rfl rfl ?_
          refine WD.b (i:=20) (d:=32) (by kernel_rfl) rfl (z6 (by kernel_rfl)) (z7 (by kernel_rfl)) rfl rfl rfl ?_
          refine WD.b (i:=21) (d:=33) (by kernel_rfl) rfl (z6 (by kernel_rfl)) (z7 (by kernel_rfl)) rfl rfl rfl ?_
          refine WD.b (i:=22) (d:=34) (by kernel_rfl) rfl (z6 (by kernel_rfl)) (z7 (by kernel_rfl)) rfl rfl rfl ?_
          refine WD.b (i:=23) (d:=35) (by kernel_rfl) rfl (z6 (by kernel_rfl)) (z7 (by kernel_rfl)) rfl rfl rfl ?_
          refine WD.b (i:=24) (d:=36) (by kernel_rfl) rfl (z6 (by kernel_rfl)) (z7 (by kernel_rfl)) rfl rfl rfl ?_
          refine WD.b (i:=25) (d:=37) (by kernel_rfl) rfl (z6 (by kernel_rfl)) (z7 (by kernel_rfl)) rfl rfl rfl ?_
          refine WD.b (i:=26) (d:=38) (by kernel_rfl) rfl (z6 (by kernel_rfl)) (z7 (by kernel_rfl)) rfl rfl rfl ?_
          refine WD.b (i:=27) (d:=39) (by kernel_rfl) rfl (z6 (by kernel_rfl)) (z7 (by kernel_rfl)) rfl rfl rfl ?_
          refine WD.b (i:=28) (d:=40) (by kernel_rfl) rfl (z6 (by kernel_rfl)) (z7 (by kernel_rfl)) rfl rfl rfl ?_
          refine WD.b (i:=29) (d:=41) (by kernel_rfl) rfl (z6 (by kernel_rfl)) (z7 (by kernel_rfl)) rfl rfl rfl ?_
          refine WD.b (i:=30) (d:=42) (by kernel_rfl) rfl (z6 (by kernel_rfl)) (z7 (by kernel_rfl)) rfl rfl rfl ?_
          refine WD.b (i:=31) (d:=43) (by kernel_rfl) rfl (z6 (by kernel_rfl)) (z7 (by kernel_rfl)) rfl rfl rfl ?_
          refine WD.a (i:=32) (d:=44) (by kernel_rfl) rfl (z6 (by kernel_rfl)) (z7 (by kernel_rfl)) rfl rfl rfl (fun _=>y22 rfl rfl) ?_
          refine WD.yA (.cons .here .nil) ?_ zkq
          exact (.cons rfl (.cons rfl (.cons rfl (.cons rfl (.cons (zn (Eq.symm zfB)) (.cons (zn (y4X zfB)) .nil))))))
        · have zdR:=hb'; clear hb'
          have zoK:=zoJ zdR
          refine WD.pin (i:=30) rfl zdR ?_
          refine WD.a (i:=19) (d:=31) (by kernel_rfl) rfl (z6 (by kernel_rfl)) (z7 (by kernel_rfl)) rfl rfl rfl (fun _=>q_m rfl) ?_
          refine WD.a (i:=20) (d:=32) (by kernel_rfl) rfl (z6 (by kernel_rfl)) (z7 (by kernel_rfl)) rfl rfl rfl (fun _=>y6V rfl rfl) ?_
          refine WD.a (i:=21) (d:=33) (by kernel_rfl) rfl (z6 (by kernel_rfl)) (z7 (by kernel_rfl)) rfl rfl rfl (fun _=>q_m rfl) ?_
          refine WD.mid (fuel':=1) [(0,(.slice z35 zp.length z36)),(5,(.slice z35 zp.length z36)),(6,(.int .i64 ((zp.length : Nat) : Int))),(7,(.int .i64 zq)),(30,(.bool false)),(33,(.bool (decide (zq > 0)))),(43,(.bool ((decide (zq > 0)) && (decide (((nth zp (i64 (zq - 1))).fTime) > ((nth zp zq).fTime))))))] (y1h 33 [31,30,29,28,27,26,25,24,23,22,21,20,19,18,17,16,15,14,13,12,11,10,9,8,7,6,5,4,3,2,1,0]) ?_ (fun zkr=>?_)
          rotate_left
          · rcases Bool.eq_false_or_eq_true (decide (zq > 0)) with hb' | hb'
            · have zdS:=hb'; clear hb'
              have zoL:=zoK zdS
              refine WD.pin (i:=33) rfl zdS ?_
              refine WD.a (i:=22) (d:=34) (by kernel_rfl) rfl (z6 (by kernel_rfl)) (z7 (by kernel_rfl)) rfl rfl rfl (fun _=>q_m rfl) ?_
              refine WD.a (i:=23) (d:=35) (by kernel_rfl) rfl (z6 (by kernel_rfl)) (z7 (by kernel_rfl)) rfl rfl rfl (fun _=>q_m rfl) ?_
              refine WD.a (i:=24) (d:=36) (by kernel_rfl) rfl (z6 (by kernel_rfl)) (z7 (by kernel_rfl)) rfl rfl rfl (fun _=>y7C rfl rfl rfl) ?_
              refine WD.znth (j:=25) (dd:=37) (by kernel_rfl) rfl (z6 (by kernel_rfl)) (z7 (by kernel_rfl)) rfl rfl (Z:=Z) (Pr:=(fun r x=>r = e51 x)) y64 rfl rfl zkm zoL ?_
              rintro zxp zxq zoM zxr rfl
              refine WD.a (i:=26) (d:=38) (by kernel_rfl) rfl (z6 (by kernel_rfl)) (z7 (by kernel_rfl)) rfl rfl rfl (fun _=>y3 y50 rfl rfl) ?_
              refine WD.e (i:=27) (d:=39) (by kernel_rfl) rfl (z6 (by kernel_rfl)) (z7 (by kernel_rfl)) rfl rfl rfl (yb yu rfl (y1I hz.pv zoM rfl)) ?_
              refine WD.a (i:=28) (d:=40) (by kernel_rfl) rfl (z6 (by kernel_rfl)) (z7 (by kernel_rfl)) rfl rfl rfl (fun _=>y3 y50 rfl rfl) ?_
              refine WD.e (i:=29) (d:=41) (by kernel_rfl) rfl (z6 (by kernel_rfl)) (z7 (by kernel_rfl)) rfl rfl rfl (yb yu rfl (yq .here rfl)) ?_
              refine WD.a (i:=30) (d:=42) (by kernel_rfl) rfl (z6 (by kernel_rfl)) (z7 (by kernel_rfl)) rfl rfl rfl (fun _=>y6V rfl rfl) ?_
              refine WD.a (i:=31) (d:=43) (by kernel_rfl) rfl (z6 (by kernel_rfl)) (z7 (by kernel_rfl)) rfl rfl rfl (fun _=>y22 rfl rfl) ?_
              refine WD.yA (.cons .here .nil) ?_ zkr
              exact (.cons rfl (.cons rfl (.cons rfl (.cons rfl (.cons rfl (.cons (zn (Eq.symm zdS)) (.cons (zn (y39 zdS)) .nil)))))))
            · have zfC:=hb'; clear hb'
              refine WD.pin (i:=33) rfl zfC ?_
              refine WD.b (i:=22) (d:=34) (by kernel_rfl) rfl (z6 (by kernel_rfl)) (z7 (by kernel_rfl)) rfl rfl rfl ?_
              refine WD.b (i:=23) (d:=35) (by kernel_rfl) rfl (z6 (by kernel_rfl)) (z7 (by kernel_rfl)) rfl rfl rfl ?_
              refine WD.b (i:=24) (d:=36) (by kernel_rfl) rfl (z6 (by kernel_rfl)) (z7 (by kernel_rfl)) rfl rfl rfl ?_
              refine WD.b (i:=25) (d:=37) (by kernel_rfl) rfl (z6 (by kernel_rfl)) (z7 (by kernel_rfl)) rfl rfl rfl ?_
              refine WD.b (i:=26) (d:=38) (by kernel_rfl) rfl (z6 (by kernel_rfl)) (z7 (by kernel_rfl)) rfl rfl rfl ?_
              refine WD.b (i:=27) (d:=39) (by kernel_rfl) rfl (z6 (by kernel_rfl)) (z7 (by kernel_rfl)) rfl rfl rfl ?_
              refine WD.b (i:=28) (d:=40) (by kernel_rfl) rfl (z6 (by kernel_rfl)) (z7 (by kernel_rfl)) rfl rfl rfl ?_
              refine WD.b (i:=29) (d:=41) (by kernel_rfl) rfl (z6 (by kernel_rfl)) (z7 (by kernel_rfl)) rfl rfl rfl ?_
              refine WD.b (i:=30) (d:=42) (by kernel_rfl) rfl (z6 (by kernel_rfl)) (z7 (by kernel_rfl)) rfl rfl rfl ?_
              refine WD.a (i:=31) (d:=43) (by kernel_rfl) rfl (z6 (by kernel_rfl)) (z7 (by kernel_rfl)) rfl rfl rfl (fun _=>y23 rfl rfl) ?_
              refine WD.yA (.cons .here .nil) ?_ zkr
              exact (.cons rfl (.cons rfl (.cons rfl (.cons rfl (.cons rfl (.cons (zn (Eq.symm zfC)) (.cons (zn (y38 zfC)) .nil)))))))
          refine WD.d #[true,true,true,true,true,true,true,true,true,true,true,true,true,true,true,true,true,true,true,true,true,true,true,true,true,true,true,true,true,true,true,true,false] (by kernel_rfl) ?_
          refine WD.a (i:=32) (d:=44) (by kernel_rfl) rfl (z6 (by kernel_rfl)) (z7 (by kernel_rfl)) rfl rfl rfl (fun _=>y23 rfl rfl) ?_
          refine WD.yA (.cons .here .nil) ?_ zkq
          exact (.cons rfl (.cons rfl (.cons rfl (.cons rfl (.cons (zn (Eq.symm zdR)) (.cons (zn (y4Y zdR)) .nil))))))
      refine WD.d #[true,true,true,true,true,true,true,true,true,true,true,true,true,true,true,true,true,true,true,true,true,true,true,true,true,true,true,true,true,true,true,true,true] (by kernel_rfl) ?_
      refine WD.done (by kernel_rfl) ?_
      refine WX.a ?_
      refine WC.cond rfl (fun zfD=>?_) (fun zfD=>?_)
      · replace h:=ye h zfD
        refine WC.b (WC.a (WL.pu rfl (WL.nil (WX.a (WC.ret (WX.yl (WX.y5 (WX.y5 (WX.yl (WX.y5 ?_))))))))))
        obtain rfl:=Option.some.inj h
        refine WX.y8 Try.results31 (.tmp rfl .nil) (fun w hw=>?_)
        exact ⟨yG rfl,hw.sub .nil⟩
      · replace h:=yf h zfD
        refine WC.skip (WX.yg (WX.a (WC.a (WL.pu rfl (WL.pu rfl (WL.nil ?_))))))
        exact WX.round (G:=Nat × Int) ⟨zfs,(i64 (zq + 1))⟩ h (Nat.lt_succ_self _) (.cons rfl (.cons rfl (.cons rfl (.cons rfl .nil)))) .nil
    · replace h:=yf h zft
      refine WC.exit (WX.yd (WX.yd (WX.yt ?_)))
      exact WX.mid (G:=Unit) () h (.cons rfl .nil) .nil
  · rintro  h
    replace h:=zoG.symm.trans h
    refine WC.b (WC.a (WL.pu rfl ?_))
    refine WL.a (d:=47) rfl rfl rfl (y1c Try.underlying24 rfl) ?_
    refine WL.pu rfl (WL.pu rfl (WL.nil (WX.a (WC.ret ?_))))
    obtain rfl:=Option.some.inj h
    refine WX.y8 Try.results31 (.tmp rfl .nil) (fun w hw=>?_)
    exact ⟨yG rfl,hw.sub .nil⟩
def y2y (z1g : List zSt) (z1H : Int) (z1t : Int) (z63 : (List Int) → Option (List Int × Int)) : Nat → (List Int) → Int → Int → Option (List Int × Int)
  | 0,_,_,_=>none
  | zfE + 1,z2X,z37,z1p=>if decide (z1p < ((z1g.length : Nat) : Int)) then chk ((0 : Int) ≤ z1p ∧ z1p < ((z1g.length : Nat) : Int)) (chk ((((z2X ++ ([i64 ((max z37 (i64 (((nth z1g z1p).fTime) + z1H))) + (i64 (((nth z1g z1p).fSize) * z1t)))] : List Int)).length : Nat) : Int) * 8 ≤ 140737488355328 ∧ (((z2X ++ ([i64 ((max z37 (i64 (((nth z1g z1p).fTime) + z1H))) + (i64 (((nth z1g z1p).fSize) * z1t)))] : List Int)).length : Nat) : Int) ≤ 4611686018427387904) (y2y z1g z1H z1t z63 zfE (z2X ++ ([i64 ((max z37 (i64 (((nth z1g z1p).fTime) + z1H))) + (i64 (((nth z1g z1p).fSize) * z1t)))] : List Int)) (i64 ((max z37 (i64 (((nth z1g z1p).fTime) + z1H))) + (i64 (((nth z1g z1p).fSize) * z1t)))) (i64 (z1p + 1)))) else z63 z2X
theorem y65 {n : Nat} {z1g : List zSt} {z1H : Int} {z1t : Int} {z63 : (List Int) → Option (List Int × Int)} {z2X : List Int} {z37 : Int} {z1p : Int} {r : List Int × Int} (h : y2y z1g z1H z1t z63 n z2X z37 z1p = some r) : ∃ m,n = m + 1:=by
  cases n with
  | zero=>cases h
  | succ m=>exact ⟨m,rfl⟩
def y4u (z1g : List zSt) (z1t : Int) (z1H : Int) : Option (List Int × Int) :=
  (y3n z1g).bind fun z9O=>if ((((!z9O) || (decide (z1t < 1))) || (decide (z1t > 16))) || (decide (z1H < 0))) || (decide (z1H > 1000)) then some (([] : List Int),2) else jp1 (fun (z5u : List Int)=>some (z5u,0)) fun z63=>y2y z1g z1H z1t z63 ys ([] : List Int) 0 0
set_option maxRecDepth 20000 in
theorem y8a (Z : Zp) (zbQ : Option Addr) (zbR : Nat) (z1g : List zSt) (z1t : Int) (z1H : Int) (r : List Int × Int)
     (h : y4u z1g z1t z1H = some r) (w₀ : World) (hz : PZ [] w₀ Z)
     (zks : ZS Z 3 (fun r x=>r = e51 x) zbQ zbR z1g) :
    Calls Try.prog 14 #[(.slice zbQ z1g.length zbR),(.int .i64 z1t),(.int .i64 z1H)] w₀ fun e w'=>∃ zkt : Option Addr,∃ zku : Nat,e = .returned (.tuple #[(.slice zkt r.1.length zku),(.int .i64 r.2)]) ∧ True ∧ Hp [] w₀ w' [row (.slice zkt r.1.length zku) 3 1 (r.1.flatMap e3)]:=by
  unfold y4u at h
  refine Calls.yc (vs:=[(.slice zbQ z1g.length zbR),(.int .i64 z1t),(.int .i64 z1H)]) (pre:=[]) (env:=[(0,(.slice zbQ z1g.length zbR)),(1,(.int .i64 z1t)),(2,(.int .i64 z1H))]) Try.func14 rfl Try.ntmps14 rfl (Hp.nil w₀ _) rfl ?_
  refine WC.b (WC.a (WL.pu rfl (WL.pu rfl (WL.nil (WX.a (WC.b (WC.b ?_)))))))
  obtain ⟨z9O,zoN,h⟩:=z8 h
  refine WC.a (WL.pu rfl ?_)
  refine WL.b (dd:=13) rfl rfl rfl (ze (l:=[.tmp 12]) Try.call31 (.cons rfl .nil)) .nil (cc hz .nil fun w pz ho=>y5x _ _ _ _ _ zoN w pz zks) ?_
  refine WL.pu rfl (WL.pu rfl ?_)
  refine WL.seg false 2 15 (B:=(!z9O) || (decide (z1t < 1))) rfl rfl rfl rfl rfl rfl (fun h=>(y4X h).symm) (fun _ zoO=>?_) ?_
  · skip
    refine WL.pu rfl (WL.pu rfl (WL.pu rfl ?_))
    exact WL.yy (y4Y zoO) rfl rfl .all
  refine WL.pu rfl ?_
  refine WL.seg false 2 19 (B:=((!z9O) || (decide (z1t < 1))) || (decide (z1t > 16))) rfl rfl rfl rfl rfl rfl (fun h=>(y4X h).symm) (fun _ zoP=>?_) ?_
  · skip
    refine WL.pu rfl (WL.pu rfl (WL.pu rfl ?_))
    exact WL.yy (y4Y zoP) rfl rfl .all
  refine WL.pu rfl ?_
  refine WL.seg false 2 23 (B:=(((!z9O) || (decide (z1t < 1))) || (decide (z1t > 16))) || (decide (z1H < 0))) rfl rfl rfl rfl rfl rfl (fun h=>(y4X h).symm) (fun _ zoQ=>?_) ?_
  · skip
    refine WL.pu rfl (WL.pu rfl (WL.pu rfl ?_))
    exact WL.yy (y4Y zoQ) rfl rfl .all
  refine WL.pu rfl ?_
  refine WL.seg false 2 27 (B:=((((!z9O) || (decide (z1t < 1))) || (decide (z1t > 16))) || (decide (z1H < 0))) || (decide (z1H > 1000))) rfl rfl rfl rfl rfl rfl (fun h=>(y4X h).symm) (fun _ zoR=>?_) ?_
  · skip
    refine WL.pu rfl (WL.pu rfl (WL.pu rfl ?_))
    exact WL.yy (y4Y zoR) rfl rfl .all
  refine WL.nil (WX.a ?_)
  refine WC.cond rfl (fun zfF=>?_) (fun zfF=>?_)
  · replace h:=ye h zfF
    refine WC.b (WC.a (WL.pu rfl (WL.pu rfl (WL.nil (WX.a (WC.ret (WX.y5 ?_)))))))
    refine WX.nilRow 3 1 ?_
    obtain rfl:=Option.some.inj h
    refine WX.y8 Try.results14 (.tmp rfl (.tmp rfl .nil)) (fun w hw=>?_)
    exact ⟨none,0,y1H rfl rfl,trivial,hw.sub (.cons .here .nil)⟩
  · replace h:=yf h zfF
    refine WC.skip (WX.a (WC.b (WC.a (WL.pu rfl (WL.nil (WX.a (WC.b (WC.a (WL.pu rfl (WL.nil (WX.a ?_)))))))))))
    obtain ⟨z63,zoS,h⟩:=y1n h
    refine WC.y2G (fun (z5u : List Int) (z9P : Option Addr) (z9Q : Nat)=>(z63 z5u = some r)) (fun (z5u : List Int) (z9P : Option Addr) (z9Q : Nat)=>[(8,(.slice z9P z5u.length z9Q))]) (fun (z5u : List Int) (z9P : Option Addr) (z9Q : Nat)=>[row (.slice z9P z5u.length z9Q) 3 1 (z5u.flatMap e3)]) ?_ ?_
    · skip
      refine WC.b (WC.a (WL.pu rfl ?_))
      refine WL.a (d:=32) rfl rfl rfl (y1c Try.underlying24 rfl) ?_
      refine WL.pu rfl (WL.nil (WX.a (WC.block ?_)))
      refine WC.nilRow 3 1 ?_
      refine WC.y4s (fun (z9R : Nat) (z2X : List Int) (z37 : Int) (z1p : Int) (z8v : Option Addr) (z8w : Nat)=>(y2y z1g z1H z1t z63 z9R z2X z37 z1p = some r)) (fun (z9R : Nat) (z2X : List Int) (z37 : Int) (z1p : Int) (z8v : Option Addr) (z8w : Nat)=>[(1,(.int .i64 z1t)),(2,(.int .i64 z1H)),(8,(.slice z8v z2X.length z8w)),(9,(.int .i64 z37)),(31,(.slice zbQ z1g.length zbR)),(32,(.int .i64 ((z1g.length : Nat) : Int))),(33,(.int .i64 z1p))]) (fun (z9R : Nat) (z2X : List Int) (z37 : Int) (z1p : Int) (z8v : Option Addr) (z8w : Nat)=>[row (.slice z8v z2X.length z8w) 3 1 (z2X.flatMap e3)]) (fun (z9R : Nat) (z2X : List Int) (z37 : Int) (z1p : Int) (z8v : Option Addr) (z8w : Nat)=>z9R) ⟨ys,([] : List Int),0,0,none,0⟩ h (.cons rfl (.cons rfl (.cons rfl (.cons rfl (.cons rfl (.cons rfl (.cons rfl .nil))))))) (.cons .here .nil) ?_
      rintro z9R z2X z37 z1p z8v z8w h
      obtain ⟨zfE,rfl⟩:=y65 h
      rw [y2y] at h
      refine WC.b (WC.a (WL.pu rfl (WL.nil (WX.a (WC.b ?_)))))
      refine WC.cond rfl (fun zfG=>?_) (fun zfG=>?_)
      · replace h:=ye h zfG
        refine WC.skip (WX.a (WC.b (WC.block (WC.b ?_))))
        obtain ⟨zoT,h⟩:=yk h
        refine WC.a ?_
        refine WL.znth (dd:=35) rfl rfl (Z:=Z) (Pr:=(fun r x=>r = e51 x)) y64 rfl rfl zks zoT ?_
        rintro zxs zxt zoU zxu rfl
        refine WL.a (d:=36) rfl rfl rfl (y7 y8H rfl (y2R hz.pv zoU) rfl) ?_
        refine WL.new (dd:=11) rfl rfl rfl (yh (cs:=[(.int .i64 0),(.int .i64 0),(.int .i64 0)]) y88 rfl) ?_
        intro zxv _
        refine WL.ya rfl rfl (y9 y8I rfl rfl rfl .here rfl rfl rfl) ?_
        refine WL.nil (WX.a (WC.b (WC.a (WL.pu rfl ?_))))
        refine WL.a (d:=38) rfl rfl rfl (y3 y50 rfl rfl) ?_
        refine WL.a (d:=39) rfl rfl rfl (yb yu rfl (yq .here rfl)) ?_
        refine WL.pu rfl (WL.pu rfl ?_)
        refine WL.a (d:=42) rfl rfl rfl (q_max rfl rfl rfl) ?_
        refine WL.a (d:=43) rfl rfl rfl (y3 y7J rfl rfl) ?_
        refine WL.a (d:=44) rfl rfl rfl (yb yu rfl (yq .here rfl)) ?_
        refine WL.pu rfl (WL.pu rfl (WL.pu rfl (WL.pu rfl (WL.nil (WX.a ?_)))))
        obtain ⟨zoV,h⟩:=yk h
        refine WC.a (WL.pu rfl (WL.pu rfl ?_))
        refine WL.new (dd:=50) rfl rfl rfl (yp (cs:=([i64 ((max z37 (i64 (((nth z1g z1p).fTime) + z1H))) + (i64 (((nth z1g z1p).fSize) * z1t)))] : List Int).flatMap e3) y7q (Eos.parts (l:=[.tmp 49]) (.cons rfl .nil) [0]) (fun _=>by kernel_rfl) rfl (by unfold maxLen; omega)) ?_
        intro zxw _
        refine WL.eff (d:=51) rfl rfl rfl (y5d (enc:=e3) (l1:=z2X) (l2:=([i64 ((max z37 (i64 (((nth z1g z1p).fTime) + z1H))) + (i64 (((nth z1g z1p).fSize) * z1t)))] : List Int)) y7q rfl rfl .h2 (fun _=>rfl) rfl rfl (y61 .here) (y5O e3_oc _) zoV) ?_
        rintro ⟨zoW,zoX⟩ _
        refine WL.pu rfl (WL.nil (WX.yg (WX.a (WC.a (WL.pu rfl (WL.pu rfl (WL.nil ?_)))))))
        exact WX.round (G:=Nat × List Int × Int × Int × Option Addr × Nat) ⟨zfE,(z2X ++ ([i64 ((max z37 (i64 (((nth z1g z1p).fTime) + z1H))) + (i64 (((nth z1g z1p).fSize) * z1t)))] : List Int)),(i64 ((max z37 (i64 (((nth z1g z1p).fTime) + z1H))) + (i64 (((nth z1g z1p).fSize) * z1t)))),(i64 (z1p + 1)),zoW,zoX⟩ h (Nat.lt_succ_self _) (.cons rfl (.cons rfl (.cons rfl (.cons rfl (.cons rfl (.cons rfl (.cons rfl .nil))))))) (.cons .here .nil)
      · replace h:=yf h zfG
        refine WC.exit (WX.yd (WX.yd (WX.yt ?_)))
        exact WX.mid (G:=List Int × Option Addr × Nat) ⟨z2X,z8v,z8w⟩ h (.cons rfl .nil) (.cons .here .nil)
    · rintro z5u z9P z9Q h
      replace h:=(zoS z5u).symm.trans h
      refine WC.b (WC.a (WL.pu rfl (WL.pu rfl (WL.pu rfl (WL.nil (WX.a (WC.ret ?_)))))))
      obtain rfl:=Option.some.inj h
      refine WX.y8 Try.results14 (.tmp rfl (.tmp rfl .nil)) (fun w hw=>?_)
      exact ⟨z9P,z9Q,y1H rfl rfl,trivial,hw.sub (.cons .here .nil)⟩
def y1a (z8x : Int) (z8y : Int) : Option z2 :=
  some (⟨z8x,z8y⟩ : z2)
set_option maxRecDepth 20000 in
theorem y1k (Z : Zp)  (z8x : Int) (z8y : Int) (r : z2)
     (h : y1a z8x z8y = some r) (w₀ : World) (hz : PZ [] w₀ Z) :
    Calls Try.prog 11 #[(.int .i64 z8x),(.int .i64 z8y)] w₀ fun e w'=>e = .returned (.agg #[(.int .i64 r.fN),(.int .i64 r.fD)]) ∧ Hp [] w₀ w' []:=by
  unfold y1a at h
  refine Calls.yc (vs:=[(.int .i64 z8x),(.int .i64 z8y)]) (pre:=[]) (env:=[(0,(.int .i64 z8x)),(1,(.int .i64 z8y))]) Try.func11 rfl Try.ntmps11 rfl (Hp.nil w₀ _) rfl ?_
  refine WC.b (WC.a ?_)
  refine WL.new (dd:=4) rfl rfl rfl (yh (cs:=[(.int .i64 0),(.int .i64 0)]) ym rfl) ?_
  intro zxx _
  refine WL.nil (WX.a (WC.b (WC.a (WL.pu rfl (WL.pu rfl ?_)))))
  refine WL.a (d:=7) rfl rfl rfl (yV (v:=(.agg #[(.int .i64 z8x),(.int .i64 z8y)])) (Eos.parts (l:=[.tmp 5,.tmp 6]) (.cons rfl (.cons rfl .nil)) [0,1]) (fun _=>by kernel_rfl)) ?_
  refine WL.ya rfl rfl (y9 yj rfl rfl rfl .here rfl rfl rfl) ?_
  refine WL.nil (WX.a (WC.ret ?_))
  obtain rfl:=Option.some.inj h
  refine WX.y8 Try.results11 (.agg rfl y4 rfl (y6 .here) .nil) (fun w hw=>?_)
  exact ⟨yG rfl,hw.sub .nil⟩
def y2C (z4a : z2) (z4b : z2) : Option z1 :=
  some (⟨z4a,z4b⟩ : z1)
set_option maxRecDepth 20000 in
theorem y3t (Z : Zp)  (z4a : z2) (z4b : z2) (r : z1)
     (h : y2C z4a z4b = some r) (w₀ : World) (hz : PZ [] w₀ Z) :
    Calls Try.prog 10 #[(.agg #[(.int .i64 z4a.fN),(.int .i64 z4a.fD)]),(.agg #[(.int .i64 z4b.fN),(.int .i64 z4b.fD)])] w₀ fun e w'=>e = .returned (.agg #[(.int .i64 r.fB.fN),(.int .i64 r.fB.fD),(.int .i64 r.fR.fN),(.int .i64 r.fR.fD)]) ∧ Hp [] w₀ w' []:=by
  unfold y2C at h
  refine Calls.yc (vs:=[(.agg #[(.int .i64 z4a.fN),(.int .i64 z4a.fD)]),(.agg #[(.int .i64 z4b.fN),(.int .i64 z4b.fD)])]) (pre:=[]) (env:=[(0,(.agg #[(.int .i64 z4a.fN),(.int .i64 z4a.fD)])),(1,(.agg #[(.int .i64 z4b.fN),(.int .i64 z4b.fD)]))]) Try.func10 rfl Try.ntmps10 rfl (Hp.nil w₀ _) rfl ?_
  refine WC.b (WC.a ?_)
  refine WL.new (dd:=2) rfl rfl rfl (yI (cs:=[(.int .i64 z4a.fN),(.int .i64 z4a.fD)]) rfl rfl) ?_
  intro zxy _
  refine WL.new (dd:=3) rfl rfl rfl (yI (cs:=[(.int .i64 z4b.fN),(.int .i64 z4b.fD)]) rfl rfl) ?_
  intro zxz _
  refine WL.new (dd:=4) rfl rfl rfl (yh (cs:=[(.int .i64 0),(.int .i64 0),(.int .i64 0),(.int .i64 0)]) y3D rfl) ?_
  intro zxA _
  refine WL.nil (WX.a (WC.b (WC.a ?_)))
  refine WL.a (d:=5) rfl rfl rfl (y7 y4 rfl (y6 .h2) rfl) ?_
  refine WL.a (d:=6) rfl rfl rfl (y7 y4 rfl (y6 .h1) rfl) ?_
  refine WL.a (d:=7) rfl rfl rfl (yV (v:=(.agg #[(.int .i64 z4a.fN),(.int .i64 z4a.fD),(.int .i64 z4b.fN),(.int .i64 z4b.fD)])) (Eos.parts (l:=[.tmp 5,.tmp 6]) (.cons rfl (.cons rfl .nil)) [0,1]) (fun _=>by kernel_rfl)) ?_
  refine WL.ya rfl rfl (y9 y3M rfl rfl rfl .here rfl rfl rfl) ?_
  refine WL.nil (WX.a (WC.ret ?_))
  obtain rfl:=Option.some.inj h
  refine WX.y8 Try.results10 (.agg rfl y1x rfl (y6 .here) .nil) (fun w hw=>?_)
  exact ⟨yG rfl,hw.sub .nil⟩
def y3d (z7n : Int) : Option Int :=
  if decide (z7n < 0) then some (u64 ((u64 (i64 (0 - (i64 (z7n + 1))))) + 1)) else some (u64 z7n)
set_option maxRecDepth 20000 in
theorem y5C (Z : Zp)  (z7n : Int) (r : Int)
     (h : y3d z7n = some r) (w₀ : World) (hz : PZ [] w₀ Z) :
    Calls Try.prog 28 #[(.int .i64 z7n)] w₀ fun e w'=>e = .returned (.int .u64 r) ∧ Hp [] w₀ w' []:=by
  unfold y3d at h
  refine Calls.yc (vs:=[(.int .i64 z7n)]) (pre:=[]) (env:=[(0,(.int .i64 z7n))]) Try.func28 rfl Try.ntmps28 rfl (Hp.nil w₀ _) rfl ?_
  refine WC.b (WC.a (WL.pu rfl (WL.nil (WX.a (WC.b (WC.b (WC.a (WL.pu rfl (WL.pu rfl (WL.nil (WX.a ?_)))))))))))
  refine WC.cond rfl (fun zfH=>?_) (fun zfH=>?_)
  · replace h:=ye h zfH
    refine WC.b (WC.a (WL.pu rfl (WL.pu rfl ?_)))
    refine WL.a (d:=7) rfl rfl rfl (q_neg rfl rfl) ?_
    refine WL.a (d:=8) rfl rfl rfl (y36 Try.underlying3 Try.underlying71 rfl rfl) ?_
    refine WL.pu rfl (WL.pu rfl (WL.nil (WX.a (WC.ret (WX.y5 ?_)))))
    obtain rfl:=Option.some.inj h
    refine WX.y8 Try.results28 (.tmp rfl .nil) (fun w hw=>?_)
    exact ⟨yG rfl,hw.sub .nil⟩
  · replace h:=yf h zfH
    refine WC.skip (WX.a (WC.b (WC.a (WL.pu rfl ?_))))
    refine WL.a (d:=11) rfl rfl rfl (y36 Try.underlying3 Try.underlying71 rfl rfl) ?_
    refine WL.pu rfl (WL.nil (WX.a (WC.ret ?_)))
    obtain rfl:=Option.some.inj h
    refine WX.y8 Try.results28 (.tmp rfl .nil) (fun w hw=>?_)
    exact ⟨yG rfl,hw.sub .nil⟩
def y1r (z64 : Int → Option Int) : Nat → Int → Int → Option Int
  | 0,_,_=>none
  | zfI + 1,z4c,z3y=>if decide (z3y ≠ 0) then chk ((z3y : Int) ≠ 0) (y1r z64 zfI z3y (Int.tmod z4c z3y)) else z64 z4c
theorem y66 {n : Nat} {z64 : Int → Option Int} {z4c : Int} {z3y : Int} {r : Int} (h : y1r z64 n z4c z3y = some r) : ∃ m,n = m + 1:=by
  cases n with
  | zero=>cases h
  | succ m=>exact ⟨m,rfl⟩
def y2D (z8z : Int) (z8A : Int) : Option Int :=
  jp1 (fun (z7o : Int)=>some z7o) fun z64=>y1r z64 ys z8z z8A
set_option maxRecDepth 20000 in
theorem y67 (Z : Zp)  (z8z : Int) (z8A : Int) (r : Int)
     (h : y2D z8z z8A = some r) (w₀ : World) (hz : PZ [] w₀ Z) :
    Calls Try.prog 29 #[(.int .u64 z8z),(.int .u64 z8A)] w₀ fun e w'=>e = .returned (.int .u64 r) ∧ Hp [] w₀ w' []:=by
  unfold y2D at h
  refine Calls.yc (vs:=[(.int .u64 z8z),(.int .u64 z8A)]) (pre:=[]) (env:=[(0,(.int .u64 z8z)),(1,(.int .u64 z8A))]) Try.func29 rfl Try.ntmps29 rfl (Hp.nil w₀ _) rfl ?_
  refine WC.b (WC.a (WL.pu rfl (WL.nil (WX.a ?_))))
  obtain ⟨z64,zoY,h⟩:=y1n h
  refine WC.y3a (fun (z7o : Int)=>(z64 z7o = some r)) (fun (z7o : Int)=>[(0,(.int .u64 z7o))]) (fun (z7o : Int)=>[]) ?_ ?_
  · skip
    refine WC.block ?_
    refine WC.y9i (fun (z9S : Nat) (z4c : Int) (z3y : Int)=>(y1r z64 z9S z4c z3y = some r)) (fun (z9S : Nat) (z4c : Int) (z3y : Int)=>[(0,(.int .u64 z4c)),(1,(.int .u64 z3y))]) (fun (z9S : Nat) (z4c : Int) (z3y : Int)=>[]) (fun (z9S : Nat) (z4c : Int) (z3y : Int)=>z9S) ⟨ys,z8z,z8A⟩ h (.cons rfl (.cons rfl .nil)) .nil ?_
    rintro z9S z4c z3y h
    obtain ⟨zfI,rfl⟩:=y66 h
    rw [y1r] at h
    refine WC.b (WC.b (WC.a (WL.pu rfl (WL.pu rfl (WL.nil (WX.a ?_))))))
    refine WC.cond rfl (fun zfJ=>?_) (fun zfJ=>?_)
    · replace h:=ye h zfJ
      refine WC.skip (WX.a (WC.block ?_))
      obtain ⟨zoZ,h⟩:=yk h
      refine WC.y1g (fun i=>[].contains i) [] rfl ?_
      refine WD.a (i:=0) (d:=7) (by kernel_rfl) rfl (z6 (by kernel_rfl)) (z7 (by kernel_rfl)) rfl rfl rfl (fun _=>q_m rfl) ?_
      refine WD.a (i:=1) (d:=8) (by kernel_rfl) rfl (z6 (by kernel_rfl)) (z7 (by kernel_rfl)) rfl rfl rfl (fun _=>q_m rfl) ?_
      refine WD.a (i:=2) (d:=9) (by kernel_rfl) rfl (z6 (by kernel_rfl)) (z7 (by kernel_rfl)) rfl rfl rfl (fun _=>q_m rfl) ?_
      refine WD.a (i:=3) (d:=10) (by kernel_rfl) rfl (z6 (by kernel_rfl)) (z7 (by kernel_rfl)) rfl rfl rfl (fun _=>y6U rfl rfl zoZ rfl) ?_
      refine WD.a (i:=4) (d:=0) (by kernel_rfl) rfl (z6 (by kernel_rfl)) (z7 (by kernel_rfl)) rfl rfl rfl (fun _=>q_z rfl) ?_
      refine WD.a (i:=5) (d:=1) (by kernel_rfl) rfl (z6 (by kernel_rfl)) (z7 (by kernel_rfl)) rfl rfl rfl (fun _=>q_z rfl) ?_
      refine WD.done (by kernel_rfl) ?_
      refine WX.yg ?_
      exact WX.round (G:=Nat × Int × Int) ⟨zfI,z3y,(Int.tmod z4c z3y)⟩ h (Nat.lt_succ_self _) (.cons rfl (.cons rfl .nil)) .nil
    · replace h:=yf h zfJ
      refine WC.exit (WX.yd (WX.yd (WX.yt ?_)))
      exact WX.mid (G:=Int) z4c h (.cons rfl .nil) .nil
  · rintro z7o h
    replace h:=(zoY z7o).symm.trans h
    refine WC.b (WC.a (WL.pu rfl (WL.pu rfl (WL.nil (WX.a (WC.ret ?_))))))
    obtain rfl:=Option.some.inj h
    refine WX.y8 Try.results29 (.tmp rfl .nil) (fun w hw=>?_)
    exact ⟨yG rfl,hw.sub .nil⟩
def y1f (zI : z2) : Option Bool :=
  (if (((decide (zI.fD ≥ 1)) && (decide (zI.fD ≤ 1073741824))) && (decide (zI.fN ≥ (-1073741824)))) && (decide (zI.fN ≤ 1073741824)) then (y3d zI.fN).bind fun zkv=>(y3d zI.fD).bind fun zkw=>(y2D zkv zkw).bind fun zkx=>some (decide (zkx = 1)) else some false).bind fun zfK=>some zfK
set_option maxRecDepth 20000 in
theorem y1A (Z : Zp)  (zI : z2) (r : Bool)
     (h : y1f zI = some r) (w₀ : World) (hz : PZ [] w₀ Z) :
    Calls Try.prog 39 #[(.agg #[(.int .i64 zI.fN),(.int .i64 zI.fD)])] w₀ fun e w'=>e = .returned (.bool r) ∧ Hp [] w₀ w' []:=by
  unfold y1f at h
  refine Calls.yc (vs:=[(.agg #[(.int .i64 zI.fN),(.int .i64 zI.fD)])]) (pre:=[]) (env:=[(0,(.agg #[(.int .i64 zI.fN),(.int .i64 zI.fD)]))]) Try.func39 rfl Try.ntmps39 rfl (Hp.nil w₀ _) rfl ?_
  refine WC.b (WC.a ?_)
  refine WL.new (dd:=1) rfl rfl rfl (yI (cs:=[(.int .i64 zI.fN),(.int .i64 zI.fD)]) rfl rfl) ?_
  intro zfL _
  refine WL.pu rfl (WL.nil (WX.a (WC.b ?_)))
  obtain ⟨zfK,zky,h⟩:=z8 h
  refine WC.y1g (fun i=>[].contains i) [] rfl ?_
  refine WD.a (i:=0) (d:=3) (by kernel_rfl) rfl (z6 (by kernel_rfl)) (z7 (by kernel_rfl)) rfl rfl rfl (fun _=>y3 y1W rfl rfl) ?_
  refine WD.e (i:=1) (d:=4) (by kernel_rfl) rfl (z6 (by kernel_rfl)) (z7 (by kernel_rfl)) rfl rfl rfl (yb yu rfl (yq .here rfl)) ?_
  refine WD.a (i:=2) (d:=5) (by kernel_rfl) rfl (z6 (by kernel_rfl)) (z7 (by kernel_rfl)) rfl rfl rfl (fun _=>q_geq rfl rfl) ?_
  refine WD.a (i:=3) (d:=6) (by kernel_rfl) rfl (z6 (by kernel_rfl)) (z7 (by kernel_rfl)) rfl rfl rfl (fun _=>q_m rfl) ?_
  refine WD.mid (fuel':=21) [(1,(.pointer (some ⟨zfL,0,none⟩))),(2,(.bool false)),(6,(.bool (decide (zI.fD ≥ 1)))),(10,(.bool ((decide (zI.fD ≥ 1)) && (decide (zI.fD ≤ 1073741824)))))] (y1h 29 [7,6,5,4,3,2,1,0]) ?_ (fun zkz=>?_)
  rotate_left
  · rcases Bool.eq_false_or_eq_true (decide (zI.fD ≥ 1)) with hb' | hb'
    · have zfM:=hb'; clear hb'
      refine WD.pin (i:=6) rfl zfM ?_
      refine WD.a (i:=4) (d:=7) (by kernel_rfl) rfl (z6 (by kernel_rfl)) (z7 (by kernel_rfl)) rfl rfl rfl (fun _=>y3 y1W rfl rfl) ?_
      refine WD.e (i:=5) (d:=8) (by kernel_rfl) rfl (z6 (by kernel_rfl)) (z7 (by kernel_rfl)) rfl rfl rfl (yb yu rfl (yq .here rfl)) ?_
      refine WD.a (i:=6) (d:=9) (by kernel_rfl) rfl (z6 (by kernel_rfl)) (z7 (by kernel_rfl)) rfl rfl rfl (fun _=>q_leq rfl rfl) ?_
      refine WD.a (i:=7) (d:=10) (by kernel_rfl) rfl (z6 (by kernel_rfl)) (z7 (by kernel_rfl)) rfl rfl rfl (fun _=>y22 rfl rfl) ?_
      refine WD.yA (.cons .here .nil) ?_ zkz
      exact (.cons rfl (.cons rfl (.cons (zn (Eq.symm zfM)) (.cons (zn (y39 zfM)) .nil))))
    · have zfN:=hb'; clear hb'
      refine WD.pin (i:=6) rfl zfN ?_
      refine WD.b (i:=4) (d:=7) (by kernel_rfl) rfl (z6 (by kernel_rfl)) (z7 (by kernel_rfl)) rfl rfl rfl ?_
      refine WD.b (i:=5) (d:=8) (by kernel_rfl) rfl (z6 (by kernel_rfl)) (z7 (by kernel_rfl)) rfl rfl rfl ?_
      refine WD.b (i:=6) (d:=9) (by kernel_rfl) rfl (z6 (by kernel_rfl)) (z7 (by kernel_rfl)) rfl rfl rfl ?_
      refine WD.a (i:=7) (d:=10) (by kernel_rfl) rfl (z6 (by kernel_rfl)) (z7 (by kernel_rfl)) rfl rfl rfl (fun _=>y23 rfl rfl) ?_
      refine WD.yA (.cons .here .nil) ?_ zkz
      exact (.cons rfl (.cons rfl (.cons (zn (Eq.symm zfN)) (.cons (zn (y38 zfN)) .nil))))
  refine WD.d #[true,true,true,true,true,true,true,true,false,false,false,false,false,false,false,false,false,false,false,false,false,false,false,false,false,false,false,false,false] (by kernel_rfl) ?_
  refine WD.a (i:=8) (d:=11) (by kernel_rfl) rfl (z6 (by kernel_rfl)) (z7 (by kernel_rfl)) rfl rfl rfl (fun _=>q_m rfl) ?_
  refine WD.mid (fuel':=16) [(1,(.pointer (some ⟨zfL,0,none⟩))),(2,(.bool false)),(11,(.bool ((decide (zI.fD ≥ 1)) && (decide (zI.fD ≤ 1073741824))))),(15,(.bool (((decide (zI.fD ≥ 1)) && (decide (zI.fD ≤ 1073741824))) && (decide (zI.fN ≥ (-1073741824))))))] (y1h 29 [12,11,10,9,8,7,6,5,4,3,2,1,0]) ?_ (fun zkA=>?_)
  rotate_left
  · rcases Bool.eq_false_or_eq_true ((decide (zI.fD ≥ 1)) && (decide (zI.fD ≤ 1073741824))) with hb' | hb'
    · have zfO:=hb'; clear hb'
      refine WD.pin (i:=11) rfl zfO ?_
      refine WD.a (i:=9) (d:=12) (by kernel_rfl) rfl (z6 (by kernel_rfl)) (z7 (by kernel_rfl)) rfl rfl rfl (fun _=>y3 y1K rfl rfl) ?_
      refine WD.e (i:=10) (d:=13) (by kernel_rfl) rfl (z6 (by kernel_rfl)) (z7 (by kernel_rfl)) rfl rfl rfl (yb yu rfl (yq .here rfl)) ?_
      refine WD.a (i:=11) (d:=14) (by kernel_rfl) rfl (z6 (by kernel_rfl)) (z7 (by kernel_rfl)) rfl rfl rfl (fun _=>q_geq rfl rfl) ?_
      refine WD.a (i:=12) (d:=15) (by kernel_rfl) rfl (z6 (by kernel_rfl)) (z7 (by kernel_rfl)) rfl rfl rfl (fun _=>y22 rfl rfl) ?_
      refine WD.yA (.cons .here .nil) ?_ zkA
      exact (.cons rfl (.cons rfl (.cons (zn (Eq.symm zfO)) (.cons (zn (y39 zfO)) .nil))))
    · have zfP:=hb'; clear hb'
      refine WD.pin (i:=11) rfl zfP ?_
      refine WD.b (i:=9) (d:=12) (by kernel_rfl) rfl (z6 (by kernel_rfl)) (z7 (by kernel_rfl)) rfl rfl rfl ?_
      refine WD.b (i:=10) (d:=13) (by kernel_rfl) rfl (z6 (by kernel_rfl)) (z7 (by kernel_rfl)) rfl rfl rfl ?_
      refine WD.b (i:=11) (d:=14) (by kernel_rfl) rfl (z6 (by kernel_rfl)) (z7 (by kernel_rfl)) rfl rfl rfl ?_
      refine WD.a (i:=12) (d:=15) (by kernel_rfl) rfl (z6 (by kernel_rfl)) (z7 (by kernel_rfl)) rfl rfl rfl (fun _=>y23 rfl rfl) ?_
      refine WD.yA (.cons .here .nil) ?_ zkA
      exact (.cons rfl (.cons rfl (.cons (zn (Eq.symm zfP)) (.cons (zn (y38 zfP)) .nil))))
  refine WD.d #[true,true,true,true,true,true,true,true,true,true,true,true,true,false,false,false,false,false,false,false,false,false,false,false,false,false,false,false,false] (by kernel_rfl) ?_
  refine WD.a (i:=13) (d:=16) (by kernel_rfl) rfl (z6 (by kernel_rfl)) (z7 (by kernel_rfl)) rfl rfl rfl (fun _=>q_m rfl) ?_
  refine WD.mid (fuel':=11) [(1,(.pointer (some ⟨zfL,0,none⟩))),(2,(.bool false)),(16,(.bool (((decide (zI.fD ≥ 1)) && (decide (zI.fD ≤ 1073741824))) && (decide (zI.fN ≥ (-1073741824)))))),(20,(.bool ((((decide (zI.fD ≥ 1)) && (decide (zI.fD ≤ 1073741824))) && (decide (zI.fN ≥ (-1073741824)))) && (decide (zI.fN ≤ 1073741824)))))] (y1h 29 [17,16,15,14,13,12,11,10,9,8,7,6,5,4,3,2,1,0]) ?_ (fun zkB=>?_)
  rotate_left
  · rcases Bool.eq_false_or_eq_true (((decide (zI.fD ≥ 1)) && (decide (zI.fD ≤ 1073741824))) && (decide (zI.fN ≥ (-1073741824)))) with hb' | hb'
    · have zfQ:=hb'; clear hb'
      refine WD.pin (i:=16) rfl zfQ ?_
      refine WD.a (i:=14) (d:=17) (by kernel_rfl) rfl (z6 (by kernel_rfl)) (z7 (by kernel_rfl)) rfl rfl rfl (fun _=>y3 y1K rfl rfl) ?_
      refine WD.e (i:=15) (d:=18) (by kernel_rfl) rfl (z6 (by kernel_rfl)) (z7 (by kernel_rfl)) rfl rfl rfl (yb yu rfl (yq .here rfl)) ?_
      refine WD.a (i:=16) (d:=19) (by kernel_rfl) rfl (z6 (by kernel_rfl)) (z7 (by kernel_rfl)) rfl rfl rfl (fun _=>q_leq rfl rfl) ?_
      refine WD.a (i:=17) (d:=20) (by kernel_rfl) rfl (z6 (by kernel_rfl)) (z7 (by kernel_rfl)) rfl rfl rfl (fun _=>y22 rfl rfl) ?_
      refine WD.yA (.cons .here .nil) ?_ zkB
      exact (.cons rfl (.cons rfl (.cons (zn (Eq.symm zfQ)) (.cons (zn (y39 zfQ)) .nil))))
    · have zfR:=hb'; clear hb'
      refine WD.pin (i:=16) rfl zfR ?_
      refine WD.b (i:=14) (d:=17) (by kernel_rfl) rfl (z6 (by kernel_rfl)) (z7 (by kernel_rfl)) rfl rfl rfl ?_
      refine WD.b (i:=15) (d:=18) (by kernel_rfl) rfl (z6 (by kernel_rfl)) (z7 (by kernel_rfl)) rfl rfl rfl ?_
      refine WD.b (i:=16) (d:=19) (by kernel_rfl) rfl (z6 (by kernel_rfl)) (z7 (by kernel_rfl)) rfl rfl rfl ?_
      refine WD.a (i:=17) (d:=20) (by kernel_rfl) rfl (z6 (by kernel_rfl)) (z7 (by kernel_rfl)) rfl rfl rfl (fun _=>y23 rfl rfl) ?_
      refine WD.yA (.cons .here .nil) ?_ zkB
      exact (.cons rfl (.cons rfl (.cons (zn (Eq.symm zfR)) (.cons (zn (y38 zfR)) .nil))))
  refine WD.d #[true,true,true,true,true,true,true,true,true,true,true,true,true,true,true,true,true,true,false,false,false,false,false,false,false,false,false,false,false] (by kernel_rfl) ?_
  refine WD.a (i:=18) (d:=21) (by kernel_rfl) rfl (z6 (by kernel_rfl)) (z7 (by kernel_rfl)) rfl rfl rfl (fun _=>q_m rfl) ?_
  refine WD.mid (fuel':=1) [(2,(.bool false)),(21,(.bool ((((decide (zI.fD ≥ 1)) && (decide (zI.fD ≤ 1073741824))) && (decide (zI.fN ≥ (-1073741824)))) && (decide (zI.fN ≤ 1073741824))))),(30,(.bool zfK))] (y1h 29 [27,26,25,24,23,22,21,20,19,18,17,16,15,14,13,12,11,10,9,8,7,6,5,4,3,2,1,0]) ?_ (fun zkC=>?_)
  rotate_left
  · rcases Bool.eq_false_or_eq_true ((((decide (zI.fD ≥ 1)) && (decide (zI.fD ≤ 1073741824))) && (decide (zI.fN ≥ (-1073741824)))) && (decide (zI.fN ≤ 1073741824))) with hb' | hb'
    · have zfS:=hb'; clear hb'
      have z65:=ye zky zfS
      obtain ⟨zkv,zp0,z65⟩:=z8 z65
      obtain ⟨zkw,zp1,z65⟩:=z8 z65
      obtain ⟨zkx,zp2,z65⟩:=z8 z65
      replace z65:=Option.some.inj z65
      refine WD.pin (i:=21) rfl zfS ?_
      refine WD.a (i:=19) (d:=22) (by kernel_rfl) rfl (z6 (by kernel_rfl)) (z7 (by kernel_rfl)) rfl rfl rfl (fun _=>y3 y1K rfl rfl) ?_
      refine WD.e (i:=20) (d:=23) (by kernel_rfl) rfl (z6 (by kernel_rfl)) (z7 (by kernel_rfl)) rfl rfl rfl (yb yu rfl (yq .here rfl)) ?_
      refine WD.c (i:=21) (d:=24) (by kernel_rfl) rfl (z6 (by kernel_rfl)) (z7 (by kernel_rfl)) rfl rfl rfl (ze (l:=[.tmp 23]) Try.call28 (.cons rfl .nil)) (cc hz .nil fun w pz ho=>y5C _ _ _ zp0 w pz ) ?_
      refine WD.a (i:=22) (d:=25) (by kernel_rfl) rfl (z6 (by kernel_rfl)) (z7 (by kernel_rfl)) rfl rfl rfl (fun _=>y3 y1W rfl rfl) ?_
      refine WD.e (i:=23) (d:=26) (by kernel_rfl) rfl (z6 (by kernel_rfl)) (z7 (by kernel_rfl)) rfl rfl rfl (yb yu rfl (yq .here rfl)) ?_
      refine WD.c (i:=24) (d:=27) (by kernel_rfl) rfl (z6 (by kernel_rfl)) (z7 (by kernel_rfl)) rfl rfl rfl (ze (l:=[.tmp 26]) Try.call28 (.cons rfl .nil)) (cc hz .nil fun w pz ho=>y5C _ _ _ zp1 w pz ) ?_
      refine WD.c (i:=25) (d:=28) (by kernel_rfl) rfl (z6 (by kernel_rfl)) (z7 (by kernel_rfl)) rfl rfl rfl (ze (l:=[.tmp 24,.tmp 27]) Try.call29 (.cons rfl (.cons rfl .nil))) (cc hz .nil fun w pz ho=>y67 _ _ _ _ zp2 w pz ) ?_
      refine WD.a (i:=26) (d:=29) (by kernel_rfl) rfl (z6 (by kernel_rfl)) (z7 (by kernel_rfl)) rfl rfl rfl (fun _=>y8j rfl rfl) ?_
      refine WD.a (i:=27) (d:=30) (by kernel_rfl) rfl (z6 (by kernel_rfl)) (z7 (by kernel_rfl)) rfl rfl rfl (fun _=>y22 rfl rfl) ?_
      refine WD.yA (.cons .here .nil) ?_ zkC
      exact (.cons rfl (.cons (zn (Eq.symm zfS)) (.cons (zn z65) .nil)))
    · have zfT:=hb'; clear hb'
      have zfU:=yf zky zfT
      replace zfU:=Option.some.inj zfU
      refine WD.pin (i:=21) rfl zfT ?_
      refine WD.b (i:=19) (d:=22) (by kernel_rfl) rfl (z6 (by kernel_rfl)) (z7 (by kernel_rfl)) rfl rfl rfl ?_
      refine WD.b (i:=20) (d:=23) (by kernel_rfl) rfl (z6 (by kernel_rfl)) (z7 (by kernel_rfl)) rfl rfl rfl ?_
      refine WD.b (i:=21) (d:=24) (by kernel_rfl) rfl (z6 (by kernel_rfl)) (z7 (by kernel_rfl)) rfl rfl rfl ?_
      refine WD.b (i:=22) (d:=25) (by kernel_rfl) rfl (z6 (by kernel_rfl)) (z7 (by kernel_rfl)) rfl rfl rfl ?_
      refine WD.b (i:=23) (d:=26) (by kernel_rfl) rfl (z6 (by kernel_rfl)) (z7 (by kernel_rfl)) rfl rfl rfl ?_
      refine WD.b (i:=24) (d:=27) (by kernel_rfl) rfl (z6 (by kernel_rfl)) (z7 (by kernel_rfl)) rfl rfl rfl ?_
      refine WD.b (i:=25) (d:=28) (by kernel_rfl) rfl (z6 (by kernel_rfl)) (z7 (by kernel_rfl)) rfl rfl rfl ?_
      refine WD.b (i:=26) (d:=29) (by kernel_rfl) rfl (z6 (by kernel_rfl)) (z7 (by kernel_rfl)) rfl rfl rfl ?_
      refine WD.a (i:=27) (d:=30) (by kernel_rfl) rfl (z6 (by kernel_rfl)) (z7 (by kernel_rfl)) rfl rfl rfl (fun _=>y23 rfl rfl) ?_
      refine WD.yA (.cons .here .nil) ?_ zkC
      exact (.cons rfl (.cons (zn (Eq.symm zfT)) (.cons (zn zfU) .nil)))
  refine WD.d #[true,true,true,true,true,true,true,true,true,true,true,true,true,true,true,true,true,true,true,true,true,true,true,true,true,true,true,true,false] (by kernel_rfl) ?_
  refine WD.a (i:=28) (d:=2) (by kernel_rfl) rfl (z6 (by kernel_rfl)) (z7 (by kernel_rfl)) rfl rfl rfl (fun _=>q_z rfl) ?_
  refine WD.done (by kernel_rfl) ?_
  refine WX.a (WC.ret ?_)
  obtain rfl:=Option.some.inj h
  refine WX.y8 Try.results39 (.tmp rfl .nil) (fun w hw=>?_)
  exact ⟨yG rfl,hw.sub .nil⟩
def y2W (z4d : z2) : Option Bool :=
  (y1f z4d).bind fun zfV=>some (zfV && (decide (z4d.fN ≥ 0)))
set_option maxRecDepth 20000 in
theorem y68 (Z : Zp)  (z4d : z2) (r : Bool)
     (h : y2W z4d = some r) (w₀ : World) (hz : PZ [] w₀ Z) :
    Calls Try.prog 44 #[(.agg #[(.int .i64 z4d.fN),(.int .i64 z4d.fD)])] w₀ fun e w'=>e = .returned (.bool r) ∧ Hp [] w₀ w' []:=by
  unfold y2W at h
  refine Calls.yc (vs:=[(.agg #[(.int .i64 z4d.fN),(.int .i64 z4d.fD)])]) (pre:=[]) (env:=[(0,(.agg #[(.int .i64 z4d.fN),(.int .i64 z4d.fD)]))]) Try.func44 rfl Try.ntmps44 rfl (Hp.nil w₀ _) rfl ?_
  refine WC.b (WC.a ?_)
  refine WL.new (dd:=1) rfl rfl rfl (yI (cs:=[(.int .i64 z4d.fN),(.int .i64 z4d.fD)]) rfl rfl) ?_
  intro zxB _
  refine WL.pu rfl (WL.nil (WX.a (WC.b ?_)))
  obtain ⟨zfV,zp3,h⟩:=z8 h
  refine WC.a ?_
  refine WL.a (d:=3) rfl rfl rfl (y7 y4 rfl (y6 .here) rfl) ?_
  refine WL.b (dd:=4) rfl rfl rfl (ze (l:=[.tmp 3]) Try.call39 (.cons rfl .nil)) .nil (cc hz .nil fun w pz ho=>y1A _ _ _ zp3 w pz ) ?_
  refine WL.pu rfl ?_
  refine WL.seg true 3 5 (B:=zfV && (decide (z4d.fN ≥ 0))) rfl rfl rfl rfl rfl rfl (fun h=>(y38 h).symm) (fun _ zp4=>?_) ?_
  · skip
    refine WL.a (d:=6) rfl rfl rfl (y3 y1K rfl rfl) ?_
    refine WL.a (d:=7) rfl rfl rfl (yb yu rfl (yq .here rfl)) ?_
    refine WL.pu rfl (WL.pu rfl ?_)
    exact WL.yy (y39 zp4) rfl rfl .all
  refine WL.pu rfl (WL.nil (WX.a (WC.ret ?_)))
  obtain rfl:=Option.some.inj h
  refine WX.y8 Try.results44 (.tmp rfl .nil) (fun w hw=>?_)
  exact ⟨yG rfl,hw.sub .nil⟩
def y2M (z1L : z1) : Option Bool :=
  (y2W z1L.fB).bind fun zkD=>(if !zkD then some true else (y2W z1L.fR).bind fun zkE=>some (!zkE)).bind fun zfW=>some zfW
set_option maxRecDepth 20000 in
theorem y8p (Z : Zp)  (z1L : z1) (r : Bool)
     (h : y2M z1L = some r) (w₀ : World) (hz : PZ [] w₀ Z) :
    Calls Try.prog 50 #[(.agg #[(.int .i64 z1L.fB.fN),(.int .i64 z1L.fB.fD),(.int .i64 z1L.fR.fN),(.int .i64 z1L.fR.fD)])] w₀ fun e w'=>e = .returned (.bool r) ∧ Hp [] w₀ w' []:=by
  unfold y2M at h
  refine Calls.yc (vs:=[(.agg #[(.int .i64 z1L.fB.fN),(.int .i64 z1L.fB.fD),(.int .i64 z1L.fR.fN),(.int .i64 z1L.fR.fD)])]) (pre:=[]) (env:=[(0,(.agg #[(.int .i64 z1L.fB.fN),(.int .i64 z1L.fB.fD),(.int .i64 z1L.fR.fN),(.int .i64 z1L.fR.fD)]))]) Try.func50 rfl Try.ntmps50 rfl (Hp.nil w₀ _) rfl ?_
  refine WC.b (WC.a ?_)
  refine WL.new (dd:=1) rfl rfl rfl (yI (cs:=[(.int .i64 z1L.fB.fN),(.int .i64 z1L.fB.fD),(.int .i64 z1L.fR.fN),(.int .i64 z1L.fR.fD)]) rfl rfl) ?_
  intro zxC _
  refine WL.pu rfl (WL.nil (WX.a (WC.b ?_)))
  obtain ⟨zkD,zp5,h⟩:=z8 h
  obtain ⟨zfW,zkF,h⟩:=z8 h
  refine WC.a ?_
  refine WL.a (d:=3) rfl rfl rfl (y3 y3N rfl rfl) ?_
  refine WL.a (d:=4) rfl rfl rfl (yv (cs:=[(.int .i64 z1L.fB.fN),(.int .i64 z1L.fB.fD)]) y4 rfl rfl (y1D (s:=2) .here rfl)) ?_
  refine WL.b (dd:=5) rfl rfl rfl (ze (l:=[.tmp 4]) Try.call44 (.cons rfl .nil)) .nil (cc hz .nil fun w pz ho=>y68 _ _ _ zp5 w pz ) ?_
  refine WL.pu rfl (WL.pu rfl ?_)
  refine WL.seg false 4 7 (B:=zfW) rfl rfl rfl rfl rfl rfl (fun h=>(Option.some.inj (ye zkF h)).symm) (fun _ zp6=>?_) ?_
  · skip
    have zbS:=yf zkF zp6
    obtain ⟨zkE,zp7,zbS⟩:=z8 zbS
    replace zbS:=Option.some.inj zbS
    refine WL.a (d:=8) rfl rfl rfl (y3 y4D rfl rfl) ?_
    refine WL.a (d:=9) rfl rfl rfl (yv (cs:=[(.int .i64 z1L.fR.fN),(.int .i64 z1L.fR.fD)]) y4 rfl rfl (y1D (s:=2) .here rfl)) ?_
    refine WL.b (dd:=10) rfl rfl rfl (ze (l:=[.tmp 9]) Try.call44 (.cons rfl .nil)) .nil (cc hz .nil fun w pz ho=>y68 _ _ _ zp7 w pz ) ?_
    refine WL.pu rfl (WL.pu rfl ?_)
    exact WL.yy zbS rfl rfl .all
  refine WL.pu rfl (WL.nil (WX.a (WC.ret ?_)))
  obtain rfl:=Option.some.inj h
  refine WX.y8 Try.results50 (.tmp rfl .nil) (fun w hw=>?_)
  exact ⟨yG rfl,hw.sub .nil⟩
def yH (z1M : List z1) (z4X : z1 → Option Bool) (z67 : Option Int) : Nat → Int → Option Int
  | 0,_=>none
  | zfX + 1,z1S=>if decide (z1S < ((z1M.length : Nat) : Int)) then chk ((0 : Int) ≤ z1S ∧ z1S < ((z1M.length : Nat) : Int)) ((z4X (⟨(⟨(((nth z1M z1S).fB).fN),(((nth z1M z1S).fB).fD)⟩ : z2),(⟨(((nth z1M z1S).fR).fN),(((nth z1M z1S).fR).fD)⟩ : z2)⟩ : z1)).bind fun zfY=>if zfY then some z1S else yH z1M z4X z67 zfX (i64 (z1S + 1))) else z67
theorem y30 {n : Nat} {z1M : List z1} {z4X : z1 → Option Bool} {z67 : Option Int} {z1S : Int} {r : Int} (h : yH z1M z4X z67 n z1S = some r) : ∃ m,n = m + 1:=by
  cases n with
  | zero=>cases h
  | succ m=>exact ⟨m,rfl⟩
def y1N (z1M : List z1) (z4X : z1 → Option Bool) : Option Int :=
  jp0 (some (-1)) fun z67=>yH z1M z4X z67 ys 0
set_option maxRecDepth 20000 in
theorem y3I (Z : Zp) (zbT : Option Addr) (zbU : Nat) (z68 : FuncId) (z8B : List Value) (z1M : List z1) (z4X : z1 → Option Bool) (r : Int)
     (h : y1N z1M z4X = some r) (w₀ : World) (hz : PZ [] w₀ Z)
     (zp8 : ZS Z 4 (fun r x=>r = e35 x) zbT zbU z1M)
     (zp9 : ∀ args w,(callFunc z68 args).run Try.prog w = .ok (.enter z68 args) w)
     (zpa : ∀ w : World,PZ [] w Z → ∀ (x0 : z1) (r : Bool),z4X x0 = some r → Calls Try.prog z68 (([(.agg #[(.int .i64 x0.fB.fN),(.int .i64 x0.fB.fD),(.int .i64 x0.fR.fN),(.int .i64 x0.fR.fD)])] : List Value) ++ z8B).toArray w fun e w'=>e = .returned (.bool r) ∧ Hp [] w w' []) :
    Calls Try.prog 64 #[(.slice zbT z1M.length zbU),(.func (.func z68) #[] (z8B).toArray)] w₀ fun e w'=>e = .returned (.int .i64 r) ∧ Hp [] w₀ w' []:=by
  unfold y1N at h
  refine Calls.yc (vs:=[(.slice zbT z1M.length zbU),(.func (.func z68) #[] (z8B).toArray)]) (pre:=[]) (env:=[(0,(.slice zbT z1M.length zbU)),(1,(.func (.func z68) #[] (z8B).toArray))]) Try.func64 rfl Try.ntmps64 rfl (Hp.nil w₀ _) rfl ?_
  refine WC.b (WC.a (WL.pu rfl (WL.nil (WX.a ?_))))
  obtain ⟨z67,zpb,h⟩:=y2V h
  refine WC.y4N ((z67 = some r)) ([]) ([]) ?_ ?_
  · skip
    refine WC.b (WC.a (WL.pu rfl ?_))
    refine WL.a (d:=7) rfl rfl rfl (y1c Try.underlying39 rfl) ?_
    refine WL.pu rfl (WL.nil (WX.a (WC.block ?_)))
    refine WC.y60 (fun (z9T : Nat) (z1S : Int)=>(yH z1M z4X z67 z9T z1S = some r)) (fun (z9T : Nat) (z1S : Int)=>[(0,(.slice zbT z1M.length zbU)),(1,(.func (.func z68) #[] (z8B).toArray)),(7,(.int .i64 ((z1M.length : Nat) : Int))),(8,(.int .i64 z1S))]) (fun (z9T : Nat) (z1S : Int)=>[]) (fun (z9T : Nat) (z1S : Int)=>z9T) ⟨ys,0⟩ h (.cons rfl (.cons rfl (.cons rfl (.cons rfl .nil)))) .nil ?_
    rintro z9T z1S h
    obtain ⟨zfX,rfl⟩:=y30 h
    rw [yH] at h
    refine WC.b (WC.a (WL.pu rfl (WL.nil (WX.a (WC.b ?_)))))
    refine WC.cond rfl (fun zfZ=>?_) (fun zfZ=>?_)
    · replace h:=ye h zfZ
      refine WC.skip (WX.a (WC.b (WC.block (WC.b (WC.a (WL.pu rfl (WL.pu rfl (WL.nil (WX.a (WC.b ?_))))))))))
      obtain ⟨zpc,h⟩:=yk h
      obtain ⟨zfY,zpd,h⟩:=z8 h
      refine WC.a (WL.pu rfl (WL.pu rfl (WL.pu rfl ?_)))
      refine WL.znth (dd:=14) rfl rfl (Z:=Z) (Pr:=(fun r x=>r = e35 x)) y2d rfl rfl zp8 zpc ?_
      rintro zxD zxE zpe zxF rfl
      refine WL.a (d:=15) rfl rfl rfl (y7 y1x rfl (y2R hz.pv zpe) rfl) ?_
      refine WL.b (dd:=16) rfl rfl rfl (y1R (l:=[.tmp 15]) (f:=z68) (caps:=z8B) zp9 rfl (.cons rfl .nil)) .nil (fun w hw=>zpa w (hz.now hw) (⟨(⟨(((nth z1M z1S).fB).fN),(((nth z1M z1S).fB).fD)⟩ : z2),(⟨(((nth z1M z1S).fR).fN),(((nth z1M z1S).fR).fD)⟩ : z2)⟩ : z1) zfY  zpd) ?_
      refine WL.nil (WX.a ?_)
      refine WC.cond rfl (fun zg0=>?_) (fun zg0=>?_)
      · replace h:=ye h zg0
        refine WC.b (WC.a (WL.pu rfl (WL.pu rfl (WL.nil (WX.a (WC.ret (WX.yl (WX.y5 (WX.y5 (WX.yl (WX.y5 ?_)))))))))))
        obtain rfl:=Option.some.inj h
        refine WX.y8 Try.results64 (.tmp rfl .nil) (fun w hw=>?_)
        exact ⟨yG rfl,hw.sub .nil⟩
      · replace h:=yf h zg0
        refine WC.skip (WX.yg (WX.a (WC.a (WL.pu rfl (WL.pu rfl (WL.nil ?_))))))
        exact WX.round (G:=Nat × Int) ⟨zfX,(i64 (z1S + 1))⟩ h (Nat.lt_succ_self _) (.cons rfl (.cons rfl (.cons rfl (.cons rfl .nil)))) .nil
    · replace h:=yf h zfZ
      refine WC.exit (WX.yd (WX.yd (WX.yt ?_)))
      exact WX.mid (G:=Unit) () h .nil .nil
  · rintro  h
    replace h:=zpb.symm.trans h
    refine WC.b (WC.a (WL.pu rfl (WL.nil (WX.a (WC.ret ?_)))))
    obtain rfl:=Option.some.inj h
    refine WX.y8 Try.results64 (.tmp rfl .nil) (fun w hw=>?_)
    exact ⟨yG rfl,hw.sub .nil⟩
def yZ (z8C : List z1) (z8D : z1 → Option Bool) : Option Bool :=
  (y1N z8C z8D).bind fun zkG=>some (decide (zkG ≥ 0))
set_option maxRecDepth 20000 in
theorem y2n (Z : Zp) (zdT : Option Addr) (zdU : Nat) (z69 : FuncId) (z8E : List Value) (z8C : List z1) (z8D : z1 → Option Bool) (r : Bool)
     (h : yZ z8C z8D = some r) (w₀ : World) (hz : PZ [] w₀ Z)
     (zpf : ZS Z 4 (fun r x=>r = e35 x) zdT zdU z8C)
     (zpg : ∀ args w,(callFunc z69 args).run Try.prog w = .ok (.enter z69 args) w)
     (zph : ∀ w : World,PZ [] w Z → ∀ (x0 : z1) (r : Bool),z8D x0 = some r → Calls Try.prog z69 (([(.agg #[(.int .i64 x0.fB.fN),(.int .i64 x0.fB.fD),(.int .i64 x0.fR.fN),(.int .i64 x0.fR.fD)])] : List Value) ++ z8E).toArray w fun e w'=>e = .returned (.bool r) ∧ Hp [] w w' []) :
    Calls Try.prog 49 #[(.slice zdT z8C.length zdU),(.func (.func z69) #[] (z8E).toArray)] w₀ fun e w'=>e = .returned (.bool r) ∧ Hp [] w₀ w' []:=by
  unfold yZ at h
  refine Calls.yc (vs:=[(.slice zdT z8C.length zdU),(.func (.func z69) #[] (z8E).toArray)]) (pre:=[]) (env:=[(0,(.slice zdT z8C.length zdU)),(1,(.func (.func z69) #[] (z8E).toArray))]) Try.func49 rfl Try.ntmps49 rfl (Hp.nil w₀ _) rfl ?_
  refine WC.b (WC.a (WL.pu rfl (WL.nil (WX.a (WC.b ?_)))))
  obtain ⟨zkG,zpi,h⟩:=z8 h
  refine WC.a (WL.pu rfl (WL.pu rfl ?_))
  refine WL.b (dd:=7) rfl rfl rfl (ze (l:=[.tmp 5,.tmp 6]) Try.call64 (.cons rfl (.cons rfl .nil))) .nil (cc hz .nil fun w pz ho=>y3I _ _ _ (z68:=z69) (z8B:=z8E) _ (z4X:=z8D) _ zpi w pz zpf zpg zph) ?_
  refine WL.pu rfl (WL.pu rfl (WL.nil (WX.a (WC.ret ?_))))
  obtain rfl:=Option.some.inj h
  refine WX.y8 Try.results49 (.tmp rfl .nil) (fun w hw=>?_)
  exact ⟨yG rfl,hw.sub .nil⟩
def y2g (z4Y : List z1) : Option Bool :=
  (if (decide (((z4Y.length : Nat) : Int) ≥ 1)) && (decide (((z4Y.length : Nat) : Int) ≤ 32)) then (yZ z4Y (fun (y0 : z1)=>y2M y0)).bind fun zkH=>some (!zkH) else some false).bind fun zg1=>some zg1
set_option maxRecDepth 20000 in
theorem y3J (Z : Zp) (zdV : Option Addr) (zdW : Nat) (z4Y : List z1) (r : Bool)
     (h : y2g z4Y = some r) (w₀ : World) (hz : PZ [] w₀ Z)
     (zpj : ZS Z 4 (fun r x=>r = e35 x) zdV zdW z4Y) :
    Calls Try.prog 30 #[(.slice zdV z4Y.length zdW)] w₀ fun e w'=>e = .returned (.bool r) ∧ Hp [] w₀ w' []:=by
  unfold y2g at h
  refine Calls.yc (vs:=[(.slice zdV z4Y.length zdW)]) (pre:=[]) (env:=[(0,(.slice zdV z4Y.length zdW))]) Try.func30 rfl Try.ntmps30 rfl (Hp.nil w₀ _) rfl ?_
  refine WC.b (WC.a (WL.pu rfl (WL.nil (WX.a (WC.b ?_)))))
  obtain ⟨zg1,zkI,h⟩:=z8 h
  refine WC.a (WL.pu rfl ?_)
  refine WL.a (d:=4) rfl rfl rfl (y1c Try.underlying39 rfl) ?_
  refine WL.pu rfl (WL.pu rfl ?_)
  refine WL.seg true 3 6 (B:=(decide (((z4Y.length : Nat) : Int) ≥ 1)) && (decide (((z4Y.length : Nat) : Int) ≤ 32))) rfl rfl rfl rfl rfl rfl (fun h=>(y38 h).symm) (fun _ zpk=>?_) ?_
  · skip
    refine WL.pu rfl ?_
    refine WL.a (d:=8) rfl rfl rfl (y1c Try.underlying39 rfl) ?_
    refine WL.pu rfl (WL.pu rfl ?_)
    exact WL.yy (y39 zpk) rfl rfl .all
  refine WL.pu rfl ?_
  refine WL.seg true 3 11 (B:=zg1) rfl rfl rfl rfl rfl rfl (fun h=>(Option.some.inj (yf zkI h)).symm) (fun _ zpl=>?_) ?_
  · skip
    have zbV:=ye zkI zpl
    obtain ⟨zkH,zpm,zbV⟩:=z8 zbV
    replace zbV:=Option.some.inj zbV
    refine WL.pu rfl ?_
    refine WL.b (dd:=13) rfl rfl rfl (ze (l:=[.tmp 12,.func 50]) Try.call49 (.cons rfl (.cons rfl .nil))) .nil (cc hz .nil fun w pz ho=>y2n _ _ _ (z69:=50) (z8E:=[]) _ (z8D:=(fun (y0 : z1)=>y2M y0)) _ zpm w pz zpj Try.call50 (fun w' hz' y0  r  hr=>y8p _ _ _ hr w' hz' )) ?_
    refine WL.pu rfl (WL.pu rfl ?_)
    exact WL.yy zbV rfl rfl .all
  refine WL.pu rfl (WL.nil (WX.a (WC.ret ?_)))
  obtain rfl:=Option.some.inj h
  refine WX.y8 Try.results30 (.tmp rfl .nil) (fun w hw=>?_)
  exact ⟨yG rfl,hw.sub .nil⟩
def yx (z8F : List z1) : Option Bool :=
  (y2g z8F).bind fun zkJ=>some (!zkJ)
set_option maxRecDepth 20000 in
theorem y3U (Z : Zp) (zdX : Option Addr) (zdY : Nat) (z8F : List z1) (r : Bool)
     (h : yx z8F = some r) (w₀ : World) (hz : PZ [] w₀ Z)
     (zpn : ZS Z 4 (fun r x=>r = e35 x) zdX zdY z8F) :
    Calls Try.prog 67 #[(.slice zdX z8F.length zdY)] w₀ fun e w'=>e = .returned (.bool r) ∧ Hp [] w₀ w' []:=by
  unfold yx at h
  refine Calls.yc (vs:=[(.slice zdX z8F.length zdY)]) (pre:=[]) (env:=[(0,(.slice zdX z8F.length zdY))]) Try.func67 rfl Try.ntmps67 rfl (Hp.nil w₀ _) rfl ?_
  refine WC.b (WC.a (WL.pu rfl (WL.nil (WX.a (WC.b ?_)))))
  obtain ⟨zkJ,zpo,h⟩:=z8 h
  refine WC.a (WL.pu rfl ?_)
  refine WL.b (dd:=4) rfl rfl rfl (ze (l:=[.tmp 3]) Try.call30 (.cons rfl .nil)) .nil (cc hz .nil fun w pz ho=>y3J _ _ _ _ _ zpo w pz zpn) ?_
  refine WL.pu rfl (WL.pu rfl (WL.nil (WX.a (WC.ret ?_))))
  obtain rfl:=Option.some.inj h
  refine WX.y8 Try.results67 (.tmp rfl .nil) (fun w hw=>?_)
  exact ⟨yG rfl,hw.sub .nil⟩
def yw (z2Y : List (List z1)) (z4Z : (List z1) → Option Bool) (z6a : Option Int) : Nat → Int → Option Int
  | 0,_=>none
  | zg2 + 1,z38=>if decide (z38 < ((z2Y.length : Nat) : Int)) then chk ((0 : Int) ≤ z38 ∧ z38 < ((z2Y.length : Nat) : Int)) ((z4Z (nth z2Y z38)).bind fun zg3=>if zg3 then some z38 else yw z2Y z4Z z6a zg2 (i64 (z38 + 1))) else z6a
theorem y31 {n : Nat} {z2Y : List (List z1)} {z4Z : (List z1) → Option Bool} {z6a : Option Int} {z38 : Int} {r : Int} (h : yw z2Y z4Z z6a n z38 = some r) : ∃ m,n = m + 1:=by
  cases n with
  | zero=>cases h
  | succ m=>exact ⟨m,rfl⟩
def y1T (z2Y : List (List z1)) (z4Z : (List z1) → Option Bool) : Option Int :=
  jp0 (some (-1)) fun z6a=>yw z2Y z4Z z6a ys 0
set_option maxRecDepth 20000 in
theorem y3P (Z : Zp) (zbW : Option Addr) (zbX : Nat) (z6b : FuncId) (z8G : List Value) (z2Y : List (List z1)) (z4Z : (List z1) → Option Bool) (r : Int)
     (h : y1T z2Y z4Z = some r) (w₀ : World) (hz : PZ [] w₀ Z)
     (zpp : ZS Z 1 (p39 Z) zbW zbX z2Y)
     (zpq : ∀ args w,(callFunc z6b args).run Try.prog w = .ok (.enter z6b args) w)
     (zpr : ∀ w : World,PZ [] w Z → ∀ (x0 : List z1) (ao0 : Option Addr) (cap0 : Nat) (r : Bool),ZS Z 4 (fun r x=>r = e35 x) ao0 cap0 x0 → z4Z x0 = some r → Calls Try.prog z6b (([(.slice ao0 x0.length cap0)] : List Value) ++ z8G).toArray w fun e w'=>e = .returned (.bool r) ∧ Hp [] w w' []) :
    Calls Try.prog 75 #[(.slice zbW z2Y.length zbX),(.func (.func z6b) #[] (z8G).toArray)] w₀ fun e w'=>e = .returned (.int .i64 r) ∧ Hp [] w₀ w' []:=by
  unfold y1T at h
  refine Calls.yc (vs:=[(.slice zbW z2Y.length zbX),(.func (.func z6b) #[] (z8G).toArray)]) (pre:=[]) (env:=[(0,(.slice zbW z2Y.length zbX)),(1,(.func (.func z6b) #[] (z8G).toArray))]) Try.func75 rfl Try.ntmps75 rfl (Hp.nil w₀ _) rfl ?_
  refine WC.b (WC.a (WL.pu rfl (WL.nil (WX.a ?_))))
  obtain ⟨z6a,zps,h⟩:=y2V h
  refine WC.y4N ((z6a = some r)) ([]) ([]) ?_ ?_
  · skip
    refine WC.b (WC.a (WL.pu rfl ?_))
    refine WL.a (d:=7) rfl rfl rfl (y1c Try.underlying26 rfl) ?_
    refine WL.pu rfl (WL.nil (WX.a (WC.block ?_)))
    refine WC.y60 (fun (z9U : Nat) (z38 : Int)=>(yw z2Y z4Z z6a z9U z38 = some r)) (fun (z9U : Nat) (z38 : Int)=>[(0,(.slice zbW z2Y.length zbX)),(1,(.func (.func z6b) #[] (z8G).toArray)),(7,(.int .i64 ((z2Y.length : Nat) : Int))),(8,(.int .i64 z38))]) (fun (z9U : Nat) (z38 : Int)=>[]) (fun (z9U : Nat) (z38 : Int)=>z9U) ⟨ys,0⟩ h (.cons rfl (.cons rfl (.cons rfl (.cons rfl .nil)))) .nil ?_
    rintro z9U z38 h
    obtain ⟨zg2,rfl⟩:=y31 h
    rw [yw] at h
    refine WC.b (WC.a (WL.pu rfl (WL.nil (WX.a (WC.b ?_)))))
    refine WC.cond rfl (fun zg4=>?_) (fun zg4=>?_)
    · replace h:=ye h zg4
      refine WC.skip (WX.a (WC.b (WC.block (WC.b (WC.a (WL.pu rfl (WL.pu rfl (WL.nil (WX.a (WC.b ?_))))))))))
      obtain ⟨zpt,h⟩:=yk h
      obtain ⟨zg3,zpu,h⟩:=z8 h
      refine WC.a (WL.pu rfl (WL.pu rfl (WL.pu rfl ?_)))
      refine WL.znth (dd:=14) rfl rfl (Z:=Z) (Pr:=(p39 Z)) y2x rfl rfl zpp zpt ?_
      rintro zxG zxH zpv zxI ⟨zpw,zpx,rfl,zpy⟩
      refine WL.a (d:=15) rfl rfl rfl (yb y4E rfl (y4P hz.pv zpv rfl)) ?_
      refine WL.b (dd:=16) rfl rfl rfl (y1R (l:=[.tmp 15]) (f:=z6b) (caps:=z8G) zpq rfl (.cons rfl .nil)) .nil (fun w hw=>zpr w (hz.now hw) (nth z2Y z38) zpw zpx zg3 zpy zpu) ?_
      refine WL.nil (WX.a ?_)
      refine WC.cond rfl (fun zg5=>?_) (fun zg5=>?_)
      · replace h:=ye h zg5
        refine WC.b (WC.a (WL.pu rfl (WL.pu rfl (WL.nil (WX.a (WC.ret (WX.yl (WX.y5 (WX.y5 (WX.yl (WX.y5 ?_)))))))))))
        obtain rfl:=Option.some.inj h
        refine WX.y8 Try.results75 (.tmp rfl .nil) (fun w hw=>?_)
        exact ⟨yG rfl,hw.sub .nil⟩
      · replace h:=yf h zg5
        refine WC.skip (WX.yg (WX.a (WC.a (WL.pu rfl (WL.pu rfl (WL.nil ?_))))))
        exact WX.round (G:=Nat × Int) ⟨zg2,(i64 (z38 + 1))⟩ h (Nat.lt_succ_self _) (.cons rfl (.cons rfl (.cons rfl (.cons rfl .nil)))) .nil
    · replace h:=yf h zg4
      refine WC.exit (WX.yd (WX.yd (WX.yt ?_)))
      exact WX.mid (G:=Unit) () h .nil .nil
  · rintro  h
    replace h:=zps.symm.trans h
    refine WC.b (WC.a (WL.pu rfl (WL.nil (WX.a (WC.ret ?_)))))
    obtain rfl:=Option.some.inj h
    refine WX.y8 Try.results75 (.tmp rfl .nil) (fun w hw=>?_)
    exact ⟨yG rfl,hw.sub .nil⟩
def yM (z8H : List (List z1)) (z8I : (List z1) → Option Bool) : Option Bool :=
  (y1T z8H z8I).bind fun zkK=>some (decide (zkK ≥ 0))
set_option maxRecDepth 20000 in
theorem y2q (Z : Zp) (zdZ : Option Addr) (ze0 : Nat) (z6c : FuncId) (z8J : List Value) (z8H : List (List z1)) (z8I : (List z1) → Option Bool) (r : Bool)
     (h : yM z8H z8I = some r) (w₀ : World) (hz : PZ [] w₀ Z)
     (zpz : ZS Z 1 (p39 Z) zdZ ze0 z8H)
     (zpA : ∀ args w,(callFunc z6c args).run Try.prog w = .ok (.enter z6c args) w)
     (zpB : ∀ w : World,PZ [] w Z → ∀ (x0 : List z1) (ao0 : Option Addr) (cap0 : Nat) (r : Bool),ZS Z 4 (fun r x=>r = e35 x) ao0 cap0 x0 → z8I x0 = some r → Calls Try.prog z6c (([(.slice ao0 x0.length cap0)] : List Value) ++ z8J).toArray w fun e w'=>e = .returned (.bool r) ∧ Hp [] w w' []) :
    Calls Try.prog 66 #[(.slice zdZ z8H.length ze0),(.func (.func z6c) #[] (z8J).toArray)] w₀ fun e w'=>e = .returned (.bool r) ∧ Hp [] w₀ w' []:=by
  unfold yM at h
  refine Calls.yc (vs:=[(.slice zdZ z8H.length ze0),(.func (.func z6c) #[] (z8J).toArray)]) (pre:=[]) (env:=[(0,(.slice zdZ z8H.length ze0)),(1,(.func (.func z6c) #[] (z8J).toArray))]) Try.func66 rfl Try.ntmps66 rfl (Hp.nil w₀ _) rfl ?_
  refine WC.b (WC.a (WL.pu rfl (WL.nil (WX.a (WC.b ?_)))))
  obtain ⟨zkK,zpC,h⟩:=z8 h
  refine WC.a (WL.pu rfl (WL.pu rfl ?_))
  refine WL.b (dd:=7) rfl rfl rfl (ze (l:=[.tmp 5,.tmp 6]) Try.call75 (.cons rfl (.cons rfl .nil))) .nil (cc hz .nil fun w pz ho=>y3P _ _ _ (z6b:=z6c) (z8G:=z8J) _ (z4Z:=z8I) _ zpC w pz zpz zpA zpB) ?_
  refine WL.pu rfl (WL.pu rfl (WL.nil (WX.a (WC.ret ?_))))
  obtain rfl:=Option.some.inj h
  refine WX.y8 Try.results66 (.tmp rfl .nil) (fun w hw=>?_)
  exact ⟨yG rfl,hw.sub .nil⟩
def y2E (z1v : zSv) : Option Bool :=
  (y1f z1v.fR).bind fun zg6=>(if zg6 && (decide (z1v.fR.fN > 0)) then (y1f z1v.fLatency).bind fun zkL=>some zkL else some false).bind fun ze1=>some (ze1 && (decide (z1v.fLatency.fN ≥ 0)))
set_option maxRecDepth 20000 in
theorem y69 (Z : Zp)  (z1v : zSv) (r : Bool)
     (h : y2E z1v = some r) (w₀ : World) (hz : PZ [] w₀ Z) :
    Calls Try.prog 47 #[(.agg #[(.int .i64 z1v.fR.fN),(.int .i64 z1v.fR.fD),(.int .i64 z1v.fLatency.fN),(.int .i64 z1v.fLatency.fD)])] w₀ fun e w'=>e = .returned (.bool r) ∧ Hp [] w₀ w' []:=by
  unfold y2E at h
  refine Calls.yc (vs:=[(.agg #[(.int .i64 z1v.fR.fN),(.int .i64 z1v.fR.fD),(.int .i64 z1v.fLatency.fN),(.int .i64 z1v.fLatency.fD)])]) (pre:=[]) (env:=[(0,(.agg #[(.int .i64 z1v.fR.fN),(.int .i64 z1v.fR.fD),(.int .i64 z1v.fLatency.fN),(.int .i64 z1v.fLatency.fD)]))]) Try.func47 rfl Try.ntmps47 rfl (Hp.nil w₀ _) rfl ?_
  refine WC.b (WC.a ?_)
  refine WL.new (dd:=1) rfl rfl rfl (yI (cs:=[(.int .i64 z1v.fR.fN),(.int .i64 z1v.fR.fD),(.int .i64 z1v.fLatency.fN),(.int .i64 z1v.fLatency.fD)]) rfl rfl) ?_
  intro zxJ _
  refine WL.pu rfl (WL.nil (WX.a (WC.b ?_)))
  obtain ⟨zg6,zpD,h⟩:=z8 h
  obtain ⟨ze1,zkM,h⟩:=z8 h
  refine WC.a ?_
  refine WL.a (d:=3) rfl rfl rfl (y3 y52 rfl rfl) ?_
  refine WL.a (d:=4) rfl rfl rfl (yv (cs:=[(.int .i64 z1v.fR.fN),(.int .i64 z1v.fR.fD)]) y4 rfl rfl (y1D (s:=2) .here rfl)) ?_
  refine WL.b (dd:=5) rfl rfl rfl (ze (l:=[.tmp 4]) Try.call39 (.cons rfl .nil)) .nil (cc hz .nil fun w pz ho=>y1A _ _ _ zpD w pz ) ?_
  refine WL.pu rfl ?_
  refine WL.seg true 4 6 (B:=zg6 && (decide (z1v.fR.fN > 0))) rfl rfl rfl rfl rfl rfl (fun h=>(y38 h).symm) (fun _ zpE=>?_) ?_
  · skip
    refine WL.a (d:=7) rfl rfl rfl (y3 y52 rfl rfl) ?_
    refine WL.a (d:=8) rfl rfl rfl (y3 y1K rfl rfl) ?_
    refine WL.a (d:=9) rfl rfl rfl (yb yu rfl (yq .here rfl)) ?_
    refine WL.pu rfl (WL.pu rfl ?_)
    exact WL.yy (y39 zpE) rfl rfl .all
  refine WL.pu rfl ?_
  refine WL.seg true 3 12 (B:=ze1) rfl rfl rfl rfl rfl rfl (fun h=>(Option.some.inj (yf zkM h)).symm) (fun _ zpF=>?_) ?_
  · skip
    have zbY:=ye zkM zpF
    obtain ⟨zkL,zpG,zbY⟩:=z8 zbY
    replace zbY:=Option.some.inj zbY
    refine WL.a (d:=13) rfl rfl rfl (y3 y53 rfl rfl) ?_
    refine WL.a (d:=14) rfl rfl rfl (yv (cs:=[(.int .i64 z1v.fLatency.fN),(.int .i64 z1v.fLatency.fD)]) y4 rfl rfl (y1D (s:=2) .here rfl)) ?_
    refine WL.b (dd:=15) rfl rfl rfl (ze (l:=[.tmp 14]) Try.call39 (.cons rfl .nil)) .nil (cc hz .nil fun w pz ho=>y1A _ _ _ zpG w pz ) ?_
    refine WL.pu rfl ?_
    exact WL.yy zbY rfl rfl .all
  refine WL.pu rfl ?_
  refine WL.seg true 4 17 (B:=ze1 && (decide (z1v.fLatency.fN ≥ 0))) rfl rfl rfl rfl rfl rfl (fun h=>(y38 h).symm) (fun _ zpH=>?_) ?_
  · skip
    refine WL.a (d:=18) rfl rfl rfl (y3 y53 rfl rfl) ?_
    refine WL.a (d:=19) rfl rfl rfl (y3 y1K rfl rfl) ?_
    refine WL.a (d:=20) rfl rfl rfl (yb yu rfl (yq .here rfl)) ?_
    refine WL.pu rfl (WL.pu rfl ?_)
    exact WL.yy (y39 zpH) rfl rfl .all
  refine WL.pu rfl (WL.nil (WX.a (WC.ret ?_)))
  obtain rfl:=Option.some.inj h
  refine WX.y8 Try.results47 (.tmp rfl .nil) (fun w hw=>?_)
  exact ⟨yG rfl,hw.sub .nil⟩
def yW (z8K : Int) : Option z2 :=
  some (⟨z8K,1⟩ : z2)
set_option maxRecDepth 20000 in
theorem y1M (Z : Zp)  (z8K : Int) (r : z2)
     (h : yW z8K = some r) (w₀ : World) (hz : PZ [] w₀ Z) :
    Calls Try.prog 65 #[(.int .i64 z8K)] w₀ fun e w'=>e = .returned (.agg #[(.int .i64 r.fN),(.int .i64 r.fD)]) ∧ Hp [] w₀ w' []:=by
  unfold yW at h
  refine Calls.yc (vs:=[(.int .i64 z8K)]) (pre:=[]) (env:=[(0,(.int .i64 z8K))]) Try.func65 rfl Try.ntmps65 rfl (Hp.nil w₀ _) rfl ?_
  refine WC.b (WC.a ?_)
  refine WL.new (dd:=2) rfl rfl rfl (yh (cs:=[(.int .i64 0),(.int .i64 0)]) ym rfl) ?_
  intro zxK _
  refine WL.nil (WX.a (WC.b (WC.a (WL.pu rfl ?_))))
  refine WL.a (d:=4) rfl rfl rfl (yV (v:=(.agg #[(.int .i64 z8K),(.int .i64 1)])) (Eos.parts (l:=[.tmp 3,.const (.int .i64 1)]) (.cons rfl (.cons rfl .nil)) [0,1]) (fun _=>by kernel_rfl)) ?_
  refine WL.ya rfl rfl (y9 yj rfl rfl rfl .here rfl rfl rfl) ?_
  refine WL.nil (WX.a (WC.ret ?_))
  obtain rfl:=Option.some.inj h
  refine WX.y8 Try.results65 (.agg rfl y4 rfl (y6 .here) .nil) (fun w hw=>?_)
  exact ⟨yG rfl,hw.sub .nil⟩
def y1E  : Option z2 :=
  (yW 0).bind fun zkN=>some zkN
set_option maxRecDepth 20000 in
theorem y2t (Z : Zp)  (r : z2)
     (h : y1E = some r) (w₀ : World) (hz : PZ [] w₀ Z) :
    Calls Try.prog 51 #[] w₀ fun e w'=>e = .returned (.agg #[(.int .i64 r.fN),(.int .i64 r.fD)]) ∧ Hp [] w₀ w' []:=by
  unfold y1E at h
  refine Calls.yc (vs:=[]) (pre:=[]) (env:=[]) Try.func51 rfl Try.ntmps51 rfl (Hp.nil w₀ _) rfl ?_
  refine WC.b (WC.a ?_)
  refine WL.new (dd:=0) rfl rfl rfl (yh (cs:=[(.int .i64 0),(.int .i64 0)]) ym rfl) ?_
  intro zxL _
  refine WL.nil (WX.a (WC.b ?_))
  obtain ⟨zkN,zpI,h⟩:=z8 h
  refine WC.a ?_
  refine WL.b (dd:=1) rfl rfl rfl (ze (l:=[.const (.int .i64 0)]) Try.call65 (.cons rfl .nil)) .nil (cc hz .nil fun w pz ho=>y1M _ _ _ zpI w pz ) ?_
  refine WL.ya rfl rfl (y9 yj rfl rfl rfl .here rfl rfl rfl) ?_
  refine WL.nil (WX.a (WC.ret ?_))
  obtain rfl:=Option.some.inj h
  refine WX.y8 Try.results51 (.agg rfl y4 rfl (y6 .here) .nil) (fun w hw=>?_)
  exact ⟨yG rfl,hw.sub .nil⟩
def yS (z1N : List z1) (z1q : z1) (z6d : Option Int) : Nat → Int → Option Int
  | 0,_=>none
  | zg7 + 1,z1T=>if decide (z1T < ((z1N.length : Nat) : Int)) then chk ((0 : Int) ≤ z1T ∧ z1T < ((z1N.length : Nat) : Int)) (if decide (z1q = (⟨(⟨(((nth z1N z1T).fB).fN),(((nth z1N z1T).fB).fD)⟩ : z2),(⟨(((nth z1N z1T).fR).fN),(((nth z1N z1T).fR).fD)⟩ : z2)⟩ : z1)) then some z1T else yS z1N z1q z6d zg7 (i64 (z1T + 1))) else z6d
theorem y3m {n : Nat} {z1N : List z1} {z1q : z1} {z6d : Option Int} {z1T : Int} {r : Int} (h : yS z1N z1q z6d n z1T = some r) : ∃ m,n = m + 1:=by
  cases n with
  | zero=>cases h
  | succ m=>exact ⟨m,rfl⟩
def y25 (z1N : List z1) (z1q : z1) : Option Int :=
  jp0 (some (-1)) fun z6d=>yS z1N z1q z6d ys 0
set_option maxRecDepth 20000 in
theorem y47 (Z : Zp) (zbZ : Option Addr) (zc0 : Nat) (z1N : List z1) (z1q : z1) (r : Int)
     (h : y25 z1N z1q = some r) (w₀ : World) (hz : PZ [] w₀ Z)
     (zpJ : ZS Z 4 (fun r x=>r = e35 x) zbZ zc0 z1N) :
    Calls Try.prog 72 #[(.slice zbZ z1N.length zc0),(.agg #[(.int .i64 z1q.fB.fN),(.int .i64 z1q.fB.fD),(.int .i64 z1q.fR.fN),(.int .i64 z1q.fR.fD)])] w₀ fun e w'=>e = .returned (.int .i64 r) ∧ Hp [] w₀ w' []:=by
  unfold y25 at h
  refine Calls.yc (vs:=[(.slice zbZ z1N.length zc0),(.agg #[(.int .i64 z1q.fB.fN),(.int .i64 z1q.fB.fD),(.int .i64 z1q.fR.fN),(.int .i64 z1q.fR.fD)])]) (pre:=[]) (env:=[(0,(.slice zbZ z1N.length zc0)),(1,(.agg #[(.int .i64 z1q.fB.fN),(.int .i64 z1q.fB.fD),(.int .i64 z1q.fR.fN),(.int .i64 z1q.fR.fD)]))]) Try.func72 rfl Try.ntmps72 rfl (Hp.nil w₀ _) rfl ?_
  refine WC.b (WC.a ?_)
  refine WL.new (dd:=3) rfl rfl rfl (yI (cs:=[(.int .i64 z1q.fB.fN),(.int .i64 z1q.fB.fD),(.int .i64 z1q.fR.fN),(.int .i64 z1q.fR.fD)]) rfl rfl) ?_
  intro zkO _
  refine WL.pu rfl (WL.nil (WX.a ?_))
  obtain ⟨z6d,zpK,h⟩:=y2V h
  refine WC.y4N ((z6d = some r)) ([]) ([]) ?_ ?_
  · skip
    refine WC.b (WC.a (WL.pu rfl ?_))
    refine WL.a (d:=7) rfl rfl rfl (y1c Try.underlying39 rfl) ?_
    refine WL.pu rfl (WL.nil (WX.a (WC.block ?_)))
    refine WC.y60 (fun (z9V : Nat) (z1T : Int)=>(yS z1N z1q z6d z9V z1T = some r)) (fun (z9V : Nat) (z1T : Int)=>[(0,(.slice zbZ z1N.length zc0)),(3,(.pointer (some ⟨zkO,0,none⟩))),(7,(.int .i64 ((z1N.length : Nat) : Int))),(8,(.int .i64 z1T))]) (fun (z9V : Nat) (z1T : Int)=>[stb zkO 35 [(.int .i64 z1q.fB.fN),(.int .i64 z1q.fB.fD),(.int .i64 z1q.fR.fN),(.int .i64 z1q.fR.fD)]]) (fun (z9V : Nat) (z1T : Int)=>z9V) ⟨ys,0⟩ h (.cons rfl (.cons rfl (.cons rfl (.cons rfl .nil)))) (.cons .here .nil) ?_
    rintro z9V z1T h
    obtain ⟨zg7,rfl⟩:=y3m h
    rw [yS] at h
    refine WC.b (WC.a (WL.pu rfl (WL.nil (WX.a (WC.b ?_)))))
    refine WC.cond rfl (fun zg8=>?_) (fun zg8=>?_)
    · replace h:=ye h zg8
      refine WC.skip (WX.a (WC.b (WC.block (WC.b (WC.a (WL.pu rfl (WL.pu rfl (WL.nil (WX.a (WC.b ?_))))))))))
      obtain ⟨zpL,h⟩:=yk h
      refine WC.y1g (fun i=>[].contains i) [] rfl ?_
      refine WD.e (i:=0) (d:=11) (by kernel_rfl) rfl (z6 (by kernel_rfl)) (z7 (by kernel_rfl)) rfl rfl rfl (y7 y1x rfl (y6 .here) rfl) ?_
      refine WD.a (i:=1) (d:=12) (by kernel_rfl) rfl (z6 (by kernel_rfl)) (z7 (by kernel_rfl)) rfl rfl rfl (fun _=>q_m rfl) ?_
      refine WD.a (i:=2) (d:=13) (by kernel_rfl) rfl (z6 (by kernel_rfl)) (z7 (by kernel_rfl)) rfl rfl rfl (fun _=>q_m rfl) ?_
      refine WD.znth (j:=3) (dd:=14) (by kernel_rfl) rfl (z6 (by kernel_rfl)) (z7 (by kernel_rfl)) rfl rfl (Z:=Z) (Pr:=(fun r x=>r = e35 x)) y2d rfl rfl zpJ zpL ?_
      rintro zxM zxN zpM zxO rfl
      refine WD.e (i:=4) (d:=15) (by kernel_rfl) rfl (z6 (by kernel_rfl)) (z7 (by kernel_rfl)) rfl rfl rfl (y7 y1x rfl (y2R hz.pv zpM) rfl) ?_
      refine WD.a (i:=5) (d:=16) (by kernel_rfl) rfl (z6 (by kernel_rfl)) (z7 (by kernel_rfl)) rfl rfl rfl (fun _=>y62 (enc:=e35) (a:=z1q) (b:=(⟨(⟨(((nth z1N z1T).fB).fN),(((nth z1N z1T).fB).fD)⟩ : z2),(⟨(((nth z1N z1T).fR).fN),(((nth z1N z1T).fR).fD)⟩ : z2)⟩ : z1)) eqT_35 rfl rfl) ?_
      refine WD.done (by kernel_rfl) ?_
      refine WX.a ?_
      refine WC.cond rfl (fun zg9=>?_) (fun zg9=>?_)
      · replace h:=ye h zg9
        refine WC.b (WC.a (WL.pu rfl (WL.pu rfl (WL.nil (WX.a (WC.ret (WX.yl (WX.y5 (WX.y5 (WX.yl (WX.y5 ?_)))))))))))
        obtain rfl:=Option.some.inj h
        refine WX.y8 Try.results72 (.tmp rfl .nil) (fun w hw=>?_)
        exact ⟨yG rfl,hw.sub .nil⟩
      · replace h:=yf h zg9
        refine WC.skip (WX.yg (WX.a (WC.a (WL.pu rfl (WL.pu rfl (WL.nil ?_))))))
        exact WX.round (G:=Nat × Int) ⟨zg7,(i64 (z1T + 1))⟩ h (Nat.lt_succ_self _) (.cons rfl (.cons rfl (.cons rfl (.cons rfl .nil)))) (.cons .here .nil)
    · replace h:=yf h zg8
      refine WC.exit (WX.yd (WX.yd (WX.yt ?_)))
      exact WX.mid (G:=Unit) () h .nil .nil
  · rintro  h
    replace h:=zpK.symm.trans h
    refine WC.b (WC.a (WL.pu rfl (WL.nil (WX.a (WC.ret ?_)))))
    obtain rfl:=Option.some.inj h
    refine WX.y8 Try.results72 (.tmp rfl .nil) (fun w hw=>?_)
    exact ⟨yG rfl,hw.sub .nil⟩
def y1s (z8L : List z1) (z2J : z1) : Option Bool :=
  (y25 z8L z2J).bind fun zkP=>some (decide (zkP ≥ 0))
set_option maxRecDepth 20000 in
theorem y3Q (Z : Zp) (ze2 : Option Addr) (ze3 : Nat) (z8L : List z1) (z2J : z1) (r : Bool)
     (h : y1s z8L z2J = some r) (w₀ : World) (hz : PZ [] w₀ Z)
     (zpN : ZS Z 4 (fun r x=>r = e35 x) ze2 ze3 z8L) :
    Calls Try.prog 59 #[(.slice ze2 z8L.length ze3),(.agg #[(.int .i64 z2J.fB.fN),(.int .i64 z2J.fB.fD),(.int .i64 z2J.fR.fN),(.int .i64 z2J.fR.fD)])] w₀ fun e w'=>e = .returned (.bool r) ∧ Hp [] w₀ w' []:=by
  unfold y1s at h
  refine Calls.yc (vs:=[(.slice ze2 z8L.length ze3),(.agg #[(.int .i64 z2J.fB.fN),(.int .i64 z2J.fB.fD),(.int .i64 z2J.fR.fN),(.int .i64 z2J.fR.fD)])]) (pre:=[]) (env:=[(0,(.slice ze2 z8L.length ze3)),(1,(.agg #[(.int .i64 z2J.fB.fN),(.int .i64 z2J.fB.fD),(.int .i64 z2J.fR.fN),(.int .i64 z2J.fR.fD)]))]) Try.func59 rfl Try.ntmps59 rfl (Hp.nil w₀ _) rfl ?_
  refine WC.b (WC.a ?_)
  refine WL.new (dd:=3) rfl rfl rfl (yI (cs:=[(.int .i64 z2J.fB.fN),(.int .i64 z2J.fB.fD),(.int .i64 z2J.fR.fN),(.int .i64 z2J.fR.fD)]) rfl rfl) ?_
  intro zxP _
  refine WL.pu rfl (WL.nil (WX.a (WC.b ?_)))
  obtain ⟨zkP,zpO,h⟩:=z8 h
  refine WC.a (WL.pu rfl ?_)
  refine WL.a (d:=6) rfl rfl rfl (y7 y1x rfl (y6 .here) rfl) ?_
  refine WL.b (dd:=7) rfl rfl rfl (ze (l:=[.tmp 5,.tmp 6]) Try.call72 (.cons rfl (.cons rfl .nil))) .nil (cc hz .nil fun w pz ho=>y47 _ _ _ _ _ _ zpO w pz zpN) ?_
  refine WL.pu rfl (WL.pu rfl (WL.nil (WX.a (WC.ret ?_))))
  obtain rfl:=Option.some.inj h
  refine WX.y8 Try.results59 (.tmp rfl .nil) (fun w hw=>?_)
  exact ⟨yG rfl,hw.sub .nil⟩
def yQ (z3z : z2) (z3A : z2) : Option Int :=
  (y1f z3z).bind fun zkQ=>(if !zkQ then some true else (y1f z3A).bind fun zkR=>some (!zkR)).bind fun zga=>if zga then some 0 else if decide ((i64 (z3z.fN * z3A.fD)) < (i64 (z3A.fN * z3z.fD))) then some (-1) else if decide ((i64 (z3z.fN * z3A.fD)) > (i64 (z3A.fN * z3z.fD))) then some 1 else some 0
set_option maxRecDepth 20000 in
theorem y1Y (Z : Zp)  (z3z : z2) (z3A : z2) (r : Int)
     (h : yQ z3z z3A = some r) (w₀ : World) (hz : PZ [] w₀ Z) :
    Calls Try.prog 18 #[(.agg #[(.int .i64 z3z.fN),(.int .i64 z3z.fD)]),(.agg #[(.int .i64 z3A.fN),(.int .i64 z3A.fD)])] w₀ fun e w'=>e = .returned (.int .i64 r) ∧ Hp [] w₀ w' []:=by
  unfold yQ at h
  refine Calls.yc (vs:=[(.agg #[(.int .i64 z3z.fN),(.int .i64 z3z.fD)]),(.agg #[(.int .i64 z3A.fN),(.int .i64 z3A.fD)])]) (pre:=[]) (env:=[(0,(.agg #[(.int .i64 z3z.fN),(.int .i64 z3z.fD)])),(1,(.agg #[(.int .i64 z3A.fN),(.int .i64 z3A.fD)]))]) Try.func18 rfl Try.ntmps18 rfl (Hp.nil w₀ _) rfl ?_
  refine WC.b (WC.a ?_)
  refine WL.new (dd:=2) rfl rfl rfl (yI (cs:=[(.int .i64 z3z.fN),(.int .i64 z3z.fD)]) rfl rfl) ?_
  intro zxQ _
  refine WL.new (dd:=3) rfl rfl rfl (yI (cs:=[(.int .i64 z3A.fN),(.int .i64 z3A.fD)]) rfl rfl) ?_
  intro zxR _
  refine WL.pu rfl (WL.nil (WX.a (WC.b (WC.b ?_))))
  obtain ⟨zkQ,zpP,h⟩:=z8 h
  obtain ⟨zga,zkS,h⟩:=z8 h
  refine WC.a ?_
  refine WL.a (d:=7) rfl rfl rfl (y7 y4 rfl (y6 .h1) rfl) ?_
  refine WL.b (dd:=8) rfl rfl rfl (ze (l:=[.tmp 7]) Try.call39 (.cons rfl .nil)) .nil (cc hz .nil fun w pz ho=>y1A _ _ _ zpP w pz ) ?_
  refine WL.pu rfl (WL.pu rfl ?_)
  refine WL.seg false 3 10 (B:=zga) rfl rfl rfl rfl rfl rfl (fun h=>(Option.some.inj (ye zkS h)).symm) (fun _ zpQ=>?_) ?_
  · skip
    have zc1:=yf zkS zpQ
    obtain ⟨zkR,zpR,zc1⟩:=z8 zc1
    replace zc1:=Option.some.inj zc1
    refine WL.a (d:=11) rfl rfl rfl (y7 y4 rfl (y6 .here) rfl) ?_
    refine WL.b (dd:=12) rfl rfl rfl (ze (l:=[.tmp 11]) Try.call39 (.cons rfl .nil)) .nil (cc hz .nil fun w pz ho=>y1A _ _ _ zpR w pz ) ?_
    refine WL.pu rfl (WL.pu rfl ?_)
    exact WL.yy zc1 rfl rfl .all
  refine WL.nil (WX.a ?_)
  refine WC.cond rfl (fun zgb=>?_) (fun zgb=>?_)
  · replace h:=ye h zgb
    refine WC.b (WC.a (WL.pu rfl (WL.nil (WX.a (WC.ret (WX.y5 ?_))))))
    obtain rfl:=Option.some.inj h
    refine WX.y8 Try.results18 (.tmp rfl .nil) (fun w hw=>?_)
    exact ⟨yG rfl,hw.sub .nil⟩
  · replace h:=yf h zgb
    refine WC.skip (WX.a (WC.b (WC.b ?_)))
    refine WC.y1g (fun i=>[].contains i) [] rfl ?_
    refine WD.a (i:=0) (d:=15) (by kernel_rfl) rfl (z6 (by kernel_rfl)) (z7 (by kernel_rfl)) rfl rfl rfl (fun _=>y3 y1K rfl rfl) ?_
    refine WD.e (i:=1) (d:=16) (by kernel_rfl) rfl (z6 (by kernel_rfl)) (z7 (by kernel_rfl)) rfl rfl rfl (yb yu rfl (yq .h1 rfl)) ?_
    refine WD.a (i:=2) (d:=17) (by kernel_rfl) rfl (z6 (by kernel_rfl)) (z7 (by kernel_rfl)) rfl rfl rfl (fun _=>y3 y1W rfl rfl) ?_
    refine WD.e (i:=3) (d:=18) (by kernel_rfl) rfl (z6 (by kernel_rfl)) (z7 (by kernel_rfl)) rfl rfl rfl (yb yu rfl (yq .here rfl)) ?_
    refine WD.a (i:=4) (d:=19) (by kernel_rfl) rfl (z6 (by kernel_rfl)) (z7 (by kernel_rfl)) rfl rfl rfl (fun _=>y44 rfl rfl rfl) ?_
    refine WD.a (i:=5) (d:=20) (by kernel_rfl) rfl (z6 (by kernel_rfl)) (z7 (by kernel_rfl)) rfl rfl rfl (fun _=>y3 y1K rfl rfl) ?_
    refine WD.e (i:=6) (d:=21) (by kernel_rfl) rfl (z6 (by kernel_rfl)) (z7 (by kernel_rfl)) rfl rfl rfl (yb yu rfl (yq .here rfl)) ?_
    refine WD.a (i:=7) (d:=22) (by kernel_rfl) rfl (z6 (by kernel_rfl)) (z7 (by kernel_rfl)) rfl rfl rfl (fun _=>y3 y1W rfl rfl) ?_
    refine WD.e (i:=8) (d:=23) (by kernel_rfl) rfl (z6 (by kernel_rfl)) (z7 (by kernel_rfl)) rfl rfl rfl (yb yu rfl (yq .h1 rfl)) ?_
    refine WD.a (i:=9) (d:=24) (by kernel_rfl) rfl (z6 (by kernel_rfl)) (z7 (by kernel_rfl)) rfl rfl rfl (fun _=>y44 rfl rfl rfl) ?_
    refine WD.a (i:=10) (d:=5) (by kernel_rfl) rfl (z6 (by kernel_rfl)) (z7 (by kernel_rfl)) rfl rfl rfl (fun _=>q_z rfl) ?_
    refine WD.a (i:=11) (d:=6) (by kernel_rfl) rfl (z6 (by kernel_rfl)) (z7 (by kernel_rfl)) rfl rfl rfl (fun _=>q_z rfl) ?_
    refine WD.done (by kernel_rfl) ?_
    refine WX.a (WC.block (WC.b (WC.a (WL.pu rfl (WL.pu rfl (WL.pu rfl (WL.pu rfl (WL.nil (WX.a ?_)))))))))
    refine WC.cond rfl (fun zgc=>?_) (fun zgc=>?_)
    · replace h:=ye h zgc
      refine WC.b (WC.a (WL.pu rfl (WL.nil (WX.a (WC.ret (WX.yl (WX.y5 ?_)))))))
      obtain rfl:=Option.some.inj h
      refine WX.y8 Try.results18 (.tmp rfl .nil) (fun w hw=>?_)
      exact ⟨yG rfl,hw.sub .nil⟩
    · replace h:=yf h zgc
      refine WC.b (WC.a (WL.pu rfl (WL.pu rfl (WL.pu rfl (WL.pu rfl (WL.nil (WX.a ?_)))))))
      refine WC.cond rfl (fun zgd=>?_) (fun zgd=>?_)
      · replace h:=ye h zgd
        refine WC.b (WC.a (WL.pu rfl (WL.nil (WX.a (WC.ret (WX.yl (WX.y5 ?_)))))))
        obtain rfl:=Option.some.inj h
        refine WX.y8 Try.results18 (.tmp rfl .nil) (fun w hw=>?_)
        exact ⟨yG rfl,hw.sub .nil⟩
      · replace h:=yf h zgd
        refine WC.skip (WX.yg (WX.a (WC.b (WC.a (WL.pu rfl (WL.nil (WX.a (WC.ret ?_))))))))
        obtain rfl:=Option.some.inj h
        refine WX.y8 Try.results18 (.tmp rfl .nil) (fun w hw=>?_)
        exact ⟨yG rfl,hw.sub .nil⟩
def y2Q (z1D : z1) (z1E : z1) : Option Bool :=
  (if decide (z1D ≠ z1E) then (yQ z1D.fB z1E.fB).bind fun zkT=>some (decide (zkT ≤ 0)) else some false).bind fun zge=>(if zge then (yQ z1D.fR z1E.fR).bind fun zkU=>some (decide (zkU ≤ 0)) else some false).bind fun zgf=>some zgf
set_option maxRecDepth 20000 in
theorem y7U (Z : Zp)  (z1D : z1) (z1E : z1) (r : Bool)
     (h : y2Q z1D z1E = some r) (w₀ : World) (hz : PZ [] w₀ Z) :
    Calls Try.prog 61 #[(.agg #[(.int .i64 z1D.fB.fN),(.int .i64 z1D.fB.fD),(.int .i64 z1D.fR.fN),(.int .i64 z1D.fR.fD)]),(.agg #[(.int .i64 z1E.fB.fN),(.int .i64 z1E.fB.fD),(.int .i64 z1E.fR.fN),(.int .i64 z1E.fR.fD)])] w₀ fun e w'=>e = .returned (.bool r) ∧ Hp [] w₀ w' []:=by
  unfold y2Q at h
  refine Calls.yc (vs:=[(.agg #[(.int .i64 z1D.fB.fN),(.int .i64 z1D.fB.fD),(.int .i64 z1D.fR.fN),(.int .i64 z1D.fR.fD)]),(.agg #[(.int .i64 z1E.fB.fN),(.int .i64 z1E.fB.fD),(.int .i64 z1E.fR.fN),(.int .i64 z1E.fR.fD)])]) (pre:=[]) (env:=[(0,(.agg #[(.int .i64 z1D.fB.fN),(.int .i64 z1D.fB.fD),(.int .i64 z1D.fR.fN),(.int .i64 z1D.fR.fD)])),(1,(.agg #[(.int .i64 z1E.fB.fN),(.int .i64 z1E.fB.fD),(.int .i64 z1E.fR.fN),(.int .i64 z1E.fR.fD)]))]) Try.func61 rfl Try.ntmps61 rfl (Hp.nil w₀ _) rfl ?_
  refine WC.b (WC.a ?_)
  refine WL.new (dd:=2) rfl rfl rfl (yI (cs:=[(.int .i64 z1D.fB.fN),(.int .i64 z1D.fB.fD),(.int .i64 z1D.fR.fN),(.int .i64 z1D.fR.fD)]) rfl rfl) ?_
  intro zxS _
  refine WL.new (dd:=3) rfl rfl rfl (yI (cs:=[(.int .i64 z1E.fB.fN),(.int .i64 z1E.fB.fD),(.int .i64 z1E.fR.fN),(.int .i64 z1E.fR.fD)]) rfl rfl) ?_
  intro zxT _
  refine WL.pu rfl (WL.nil (WX.a (WC.b ?_)))
  obtain ⟨zge,zkV,h⟩:=z8 h
  obtain ⟨zgf,zkW,h⟩:=z8 h
  refine WC.a ?_
  refine WL.a (d:=5) rfl rfl rfl (y7 y1x rfl (y6 .h1) rfl) ?_
  refine WL.a (d:=6) rfl rfl rfl (y7 y1x rfl (y6 .here) rfl) ?_
  refine WL.a (d:=7) rfl rfl rfl (y9m (enc:=e35) (a:=z1D) (b:=z1E) eqT_35 rfl rfl) ?_
  refine WL.pu rfl ?_
  refine WL.seg true 6 8 (B:=zge) rfl rfl rfl rfl rfl rfl (fun h=>(Option.some.inj (yf zkV h)).symm) (fun _ zpS=>?_) ?_
  · skip
    have zc2:=ye zkV zpS
    obtain ⟨zkT,zpT,zc2⟩:=z8 zc2
    replace zc2:=Option.some.inj zc2
    refine WL.a (d:=9) rfl rfl rfl (y3 y3N rfl rfl) ?_
    refine WL.a (d:=10) rfl rfl rfl (yv (cs:=[(.int .i64 z1D.fB.fN),(.int .i64 z1D.fB.fD)]) y4 rfl rfl (y1D (s:=2) .h1 rfl)) ?_
    refine WL.a (d:=11) rfl rfl rfl (y3 y3N rfl rfl) ?_
    refine WL.a (d:=12) rfl rfl rfl (yv (cs:=[(.int .i64 z1E.fB.fN),(.int .i64 z1E.fB.fD)]) y4 rfl rfl (y1D (s:=2) .here rfl)) ?_
    refine WL.b (dd:=13) rfl rfl rfl (ze (l:=[.tmp 10,.tmp 12]) Try.call18 (.cons rfl (.cons rfl .nil))) .nil (cc hz .nil fun w pz ho=>y1Y _ _ _ _ zpT w pz ) ?_
    refine WL.pu rfl (WL.pu rfl ?_)
    exact WL.yy zc2 rfl rfl .all
  refine WL.pu rfl ?_
  refine WL.seg true 6 16 (B:=zgf) rfl rfl rfl rfl rfl rfl (fun h=>(Option.some.inj (yf zkW h)).symm) (fun _ zpU=>?_) ?_
  · skip
    have zc3:=ye zkW zpU
    obtain ⟨zkU,zpV,zc3⟩:=z8 zc3
    replace zc3:=Option.some.inj zc3
    refine WL.a (d:=17) rfl rfl rfl (y3 y4D rfl rfl) ?_
    refine WL.a (d:=18) rfl rfl rfl (yv (cs:=[(.int .i64 z1D.fR.fN),(.int .i64 z1D.fR.fD)]) y4 rfl rfl (y1D (s:=2) .h1 rfl)) ?_
    refine WL.a (d:=19) rfl rfl rfl (y3 y4D rfl rfl) ?_
    refine WL.a (d:=20) rfl rfl rfl (yv (cs:=[(.int .i64 z1E.fR.fN),(.int .i64 z1E.fR.fD)]) y4 rfl rfl (y1D (s:=2) .here rfl)) ?_
    refine WL.b (dd:=21) rfl rfl rfl (ze (l:=[.tmp 18,.tmp 20]) Try.call18 (.cons rfl (.cons rfl .nil))) .nil (cc hz .nil fun w pz ho=>y1Y _ _ _ _ zpV w pz ) ?_
    refine WL.pu rfl (WL.pu rfl ?_)
    exact WL.yy zc3 rfl rfl .all
  refine WL.pu rfl (WL.nil (WX.a (WC.ret ?_)))
  obtain rfl:=Option.some.inj h
  refine WX.y8 Try.results61 (.tmp rfl .nil) (fun w hw=>?_)
  exact ⟨yG rfl,hw.sub .nil⟩
def y2U (z2K : z1) (z8M : z1) : Option Bool :=
  (y2Q z2K z8M).bind fun zkX=>some zkX
set_option maxRecDepth 20000 in
theorem y8L (Z : Zp) (ze4 : Addr) (z2K : z1) (z8M : z1) (r : Bool)
     (h : y2U z2K z8M = some r) (w₀ : World) (hz : PZ [] w₀ Z)
     (zpW : ZC Z ze4 [(.int .i64 z8M.fB.fN),(.int .i64 z8M.fB.fD),(.int .i64 z8M.fR.fN),(.int .i64 z8M.fR.fD)]) :
    Calls Try.prog 60 #[(.agg #[(.int .i64 z2K.fB.fN),(.int .i64 z2K.fB.fD),(.int .i64 z2K.fR.fN),(.int .i64 z2K.fR.fD)]),(.pointer (some ze4))] w₀ fun e w'=>e = .returned (.bool r) ∧ Hp [] w₀ w' []:=by
  unfold y2U at h
  refine Calls.yc (vs:=[(.agg #[(.int .i64 z2K.fB.fN),(.int .i64 z2K.fB.fD),(.int .i64 z2K.fR.fN),(.int .i64 z2K.fR.fD)]),(.pointer (some ze4))]) (pre:=[]) (env:=[(0,(.agg #[(.int .i64 z2K.fB.fN),(.int .i64 z2K.fB.fD),(.int .i64 z2K.fR.fN),(.int .i64 z2K.fR.fD)])),(1,(.pointer (some ze4)))]) Try.func60 rfl Try.ntmps60 rfl (Hp.nil w₀ _) rfl ?_
  refine WC.b (WC.a ?_)
  refine WL.new (dd:=2) rfl rfl rfl (yI (cs:=[(.int .i64 z2K.fB.fN),(.int .i64 z2K.fB.fD),(.int .i64 z2K.fR.fN),(.int .i64 z2K.fR.fD)]) rfl rfl) ?_
  intro zxU _
  refine WL.pu rfl (WL.nil (WX.a (WC.b ?_)))
  obtain ⟨zkX,zpX,h⟩:=z8 h
  refine WC.a ?_
  refine WL.a (d:=4) rfl rfl rfl (y7 y1x rfl (y6 .here) rfl) ?_
  refine WL.a (d:=5) rfl rfl rfl (y7 y1x rfl (y2R hz.pv zpW) rfl) ?_
  refine WL.b (dd:=6) rfl rfl rfl (ze (l:=[.tmp 4,.tmp 5]) Try.call61 (.cons rfl (.cons rfl .nil))) .nil (cc hz .nil fun w pz ho=>y7U _ _ _ _ zpX w pz ) ?_
  refine WL.pu rfl (WL.nil (WX.a (WC.ret ?_)))
  obtain rfl:=Option.some.inj h
  refine WX.y8 Try.results60 (.tmp rfl .nil) (fun w hw=>?_)
  exact ⟨yG rfl,hw.sub .nil⟩
def y3u (z2l : z1) (z2m : z1) : Option Int :=
  (yQ z2l.fB z2m.fB).bind fun zkY=>some zkY
set_option maxRecDepth 20000 in
theorem y8M (Z : Zp)  (z2l : z1) (z2m : z1) (r : Int)
     (h : y3u z2l z2m = some r) (w₀ : World) (hz : PZ [] w₀ Z) :
    Calls Try.prog 63 #[(.agg #[(.int .i64 z2l.fB.fN),(.int .i64 z2l.fB.fD),(.int .i64 z2l.fR.fN),(.int .i64 z2l.fR.fD)]),(.agg #[(.int .i64 z2m.fB.fN),(.int .i64 z2m.fB.fD),(.int .i64 z2m.fR.fN),(.int .i64 z2m.fR.fD)])] w₀ fun e w'=>e = .returned (.int .i64 r) ∧ Hp [] w₀ w' []:=by
  unfold y3u at h
  refine Calls.yc (vs:=[(.agg #[(.int .i64 z2l.fB.fN),(.int .i64 z2l.fB.fD),(.int .i64 z2l.fR.fN),(.int .i64 z2l.fR.fD)]),(.agg #[(.int .i64 z2m.fB.fN),(.int .i64 z2m.fB.fD),(.int .i64 z2m.fR.fN),(.int .i64 z2m.fR.fD)])]) (pre:=[]) (env:=[(0,(.agg #[(.int .i64 z2l.fB.fN),(.int .i64 z2l.fB.fD),(.int .i64 z2l.fR.fN),(.int .i64 z2l.fR.fD)])),(1,(.agg #[(.int .i64 z2m.fB.fN),(.int .i64 z2m.fB.fD),(.int .i64 z2m.fR.fN),(.int .i64 z2m.fR.fD)]))]) Try.func63 rfl Try.ntmps63 rfl (Hp.nil w₀ _) rfl ?_
  refine WC.b (WC.a ?_)
  refine WL.new (dd:=2) rfl rfl rfl (yI (cs:=[(.int .i64 z2l.fB.fN),(.int .i64 z2l.fB.fD),(.int .i64 z2l.fR.fN),(.int .i64 z2l.fR.fD)]) rfl rfl) ?_
  intro zxV _
  refine WL.new (dd:=3) rfl rfl rfl (yI (cs:=[(.int .i64 z2m.fB.fN),(.int .i64 z2m.fB.fD),(.int .i64 z2m.fR.fN),(.int .i64 z2m.fR.fD)]) rfl rfl) ?_
  intro zxW _
  refine WL.pu rfl (WL.nil (WX.a (WC.b ?_)))
  obtain ⟨zkY,zpY,h⟩:=z8 h
  refine WC.a ?_
  refine WL.a (d:=5) rfl rfl rfl (y3 y3N rfl rfl) ?_
  refine WL.a (d:=6) rfl rfl rfl (yv (cs:=[(.int .i64 z2l.fB.fN),(.int .i64 z2l.fB.fD)]) y4 rfl rfl (y1D (s:=2) .h1 rfl)) ?_
  refine WL.a (d:=7) rfl rfl rfl (y3 y3N rfl rfl) ?_
  refine WL.a (d:=8) rfl rfl rfl (yv (cs:=[(.int .i64 z2m.fB.fN),(.int .i64 z2m.fB.fD)]) y4 rfl rfl (y1D (s:=2) .here rfl)) ?_
  refine WL.b (dd:=9) rfl rfl rfl (ze (l:=[.tmp 6,.tmp 8]) Try.call18 (.cons rfl (.cons rfl .nil))) .nil (cc hz .nil fun w pz ho=>y1Y _ _ _ _ zpY w pz ) ?_
  refine WL.pu rfl (WL.nil (WX.a (WC.ret ?_)))
  obtain rfl:=Option.some.inj h
  refine WX.y8 Try.results63 (.tmp rfl .nil) (fun w hw=>?_)
  exact ⟨yG rfl,hw.sub .nil⟩
def y4R (z6e : Int) : Option Int:=chk ((0 : Int) ≤ z6e ∧ z6e ≤ 18446744073709551615) (some ((Go.Lib.bitLen (z6e).toNat : Nat) : Int))
theorem y8q (Z : Zp) (z6e : Int) (r : Int) (w₀ : World) (hz : PZ [] w₀ Z) (h : y4R z6e = some r) : Calls Try.prog 74 #[.int .u64 z6e] w₀ fun e w'=>e = .returned (.int .i64 r) ∧ Hp [] w₀ w' []:=by
  obtain ⟨h0,h⟩:=yk h
  obtain rfl:=Option.some.inj h
  refine (Try.bits_Len z6e w₀ h0.1 h0.2).mono ?_
  rintro e w' ⟨rfl,rfl⟩
  exact ⟨rfl,Hp.nil w' []⟩
theorem srtA_73 : ∀ w,(isAgg (Try.y2b.t 24)).run Try.prog w = .ok true w:=fun _=>by kernel_rfl
theorem srtZ_73 : ∀ w,(Go.sizeOf (Try.y2b.t 24)).run Try.prog w = .ok 4 w:=fun _=>by kernel_rfl
def y2a (z3a : List z1) (zc4 : Int) (zc5 : Int) (z9W : Int) (z8N : z1 → z1 → Option Int) : Option (List z1):=chk ((zc4 = 0 ∧ zc5 = ((z3a.length : Nat) : Int)) ∧ (0 ≤ z9W ∧ z9W < 4611686018427387904 ∧ z3a.length < 4611686018427387904)) (chk (ordB z8N (y1o z8N z3a) = true) (some (y1o z8N z3a)))
theorem y4e (Z : Zp) (z8O : Option Addr) (z8P : Nat) (zc6 : FuncId) (zgg : List Value) (z3a : List z1) (zc4 : Int) (zc5 : Int) (z9W : Int) (z8N : z1 → z1 → Option Int) (r : List z1) (w₀ : World) (hz : PZ (fps [row (.slice z8O z3a.length z8P) 35 4 (z3a.flatMap e35)]) w₀ Z)
    (zpZ : ∀ args w,(callFunc zc6 args).run Try.prog w = .ok (.enter zc6 args) w)
    (zq0 : ∀ w : World,PZ [] w Z → ∀ (x0 : z1) (x1 : z1) (r : Int),z8N x0 x1 = some r → Calls Try.prog zc6 (([(.agg #[(.int .i64 x0.fB.fN),(.int .i64 x0.fB.fD),(.int .i64 x0.fR.fN),(.int .i64 x0.fR.fD)]),(.agg #[(.int .i64 x1.fB.fN),(.int .i64 x1.fB.fD),(.int .i64 x1.fR.fN),(.int .i64 x1.fR.fD)])] : List Value) ++ zgg).toArray w fun e w'=>e = .returned (.int .i64 r) ∧ Hp [] w w' [])
    (h : y2a z3a zc4 zc5 z9W z8N = some r) (hown : Hp (fps [row (.slice z8O z3a.length z8P) 35 4 (z3a.flatMap e35)]) w₀ w₀ [row (.slice z8O z3a.length z8P) 35 4 (z3a.flatMap e35)]) :
    Calls Try.prog 73 #[(.slice z8O z3a.length z8P),(.int .i64 zc4),(.int .i64 zc5),(.int .i64 z9W),(.func (.func zc6) #[] (zgg).toArray)] w₀ fun e w'=>e = .returned (.tuple #[]) ∧ (r.length = z3a.length) ∧ Hp (fps [row (.slice z8O z3a.length z8P) 35 4 (z3a.flatMap e35)]) w₀ w' [row (.slice z8O r.length z8P) 35 4 (r.flatMap e35)]:=by
  obtain ⟨h0,h⟩:=yk h
  obtain ⟨h1,h⟩:=yk h
  have hr:=(Option.some.inj h).symm
  exact y90 (P:=Try.prog) (f:=73) (e:=35) (k:=4) (enc:=e35) (fun _=>rfl) (by decide) y9r (fun β _ enc cf g cb hO blk off cap d0 w0 eg hC R=>Try.y5s 4 srtA_73 srtZ_73 enc cf g cb hO blk off cap d0 w0 eg hC R) (Try.y5h (α:=Unit)) hz zpZ zq0 h0 h1 hr hown
def yT (z26 : List z1) (z9X : z1 → z1 → Option Int) : Option (List z1) :=
  (y4R (u64 ((z26.length : Nat) : Int))).bind fun ze5=>(y2a z26 0 ((z26.length : Nat) : Int) ze5 z9X).bind fun ze6=>some ze6
set_option maxRecDepth 20000 in
theorem y3R (Z : Zp) (z52 : Option Addr) (z54 : Nat) (z7p : FuncId) (z9Y : List Value) (z26 : List z1) (z9X : z1 → z1 → Option Int) (r : List z1)
     (h : yT z26 z9X = some r) (w₀ : World) (hz : PZ (fps [row (.slice z52 z26.length z54) 35 4 (z26.flatMap e35)]) w₀ Z)
     (zq1 : ∀ args w,(callFunc z7p args).run Try.prog w = .ok (.enter z7p args) w)
     (zq2 : ∀ w : World,PZ [] w Z → ∀ (x0 : z1) (x1 : z1) (r : Int),z9X x0 x1 = some r → Calls Try.prog z7p (([(.agg #[(.int .i64 x0.fB.fN),(.int .i64 x0.fB.fD),(.int .i64 x0.fR.fN),(.int .i64 x0.fR.fD)]),(.agg #[(.int .i64 x1.fB.fN),(.int .i64 x1.fB.fD),(.int .i64 x1.fR.fN),(.int .i64 x1.fR.fD)])] : List Value) ++ z9Y).toArray w fun e w'=>e = .returned (.int .i64 r) ∧ Hp [] w w' [])
    (hown : Hp (fps [row (.slice z52 z26.length z54) 35 4 (z26.flatMap e35)]) w₀ w₀ [row (.slice z52 z26.length z54) 35 4 (z26.flatMap e35)]) :
    Calls Try.prog 62 #[(.slice z52 z26.length z54),(.func (.func z7p) #[] (z9Y).toArray)] w₀ fun e w'=>e = .returned (.tuple #[]) ∧ (r.length = z26.length) ∧ Hp (fps [row (.slice z52 z26.length z54) 35 4 (z26.flatMap e35)]) w₀ w' [row (.slice z52 r.length z54) 35 4 (r.flatMap e35)]:=by
  unfold yT at h
  refine Calls.yc (vs:=[(.slice z52 z26.length z54),(.func (.func z7p) #[] (z9Y).toArray)]) (pre:=[row (.slice z52 z26.length z54) 35 4 (z26.flatMap e35)]) (env:=[(0,(.slice z52 z26.length z54)),(1,(.func (.func z7p) #[] (z9Y).toArray))]) Try.func62 rfl Try.ntmps62 rfl (hown) rfl ?_
  refine WC.b (WC.a (WL.pu rfl ?_))
  refine WL.a (d:=6) rfl rfl rfl (y1c Try.underlying39 rfl) ?_
  refine WL.pu rfl (WL.nil (WX.a ?_))
  obtain ⟨ze5,zq3,h⟩:=z8 h
  obtain ⟨ze6,zq4,h⟩:=z8 h
  refine WC.a (WL.pu rfl (WL.pu rfl (WL.pu rfl ?_)))
  refine WL.a (d:=10) rfl rfl rfl (y36 Try.underlying3 Try.underlying120 rfl rfl) ?_
  refine WL.b (dd:=11) rfl rfl rfl (ze (l:=[.tmp 10]) Try.call74 (.cons rfl .nil)) .nil (cc hz .nil fun w pz ho=>y8q (Z:=_)  (z6e:=(u64 ((z26.length : Nat) : Int))) (r:=ze5) w pz  zq3) ?_
  refine WL.pu rfl ?_
  refine WL.y6r (dd:=13) rfl rfl rfl (ze (l:=[.tmp 7,.const (.int .i64 0),.tmp 8,.tmp 11,.tmp 12]) Try.call73 (.cons rfl (.cons rfl (.cons rfl (.cons rfl (.cons rfl .nil)))))) (.cons .here .nil) (cc hz (.cons .here .nil) fun w pz ho=>y4e (Z:=_) (z8O:=z52) (z8P:=z54) (zc6:=z7p) (zgg:=z9Y) (z3a:=z26) (zc4:=0) (zc5:=((z26.length : Nat) : Int)) (z9W:=ze5) (z8N:=z9X) (r:=ze6) w pz zq1 zq2 zq4 ho) ?_
  rintro  zkZ
  refine WL.repin (i:=0) rfl (u:=(.slice z52 ze6.length z54)) (slen zkZ.symm) ?_
  refine WL.nil ?_
  obtain rfl:=Option.some.inj h
  refine WX.y4i Try.results62 .nil (fun w hw=>?_)
  exact ⟨y5p,(zkZ.trans rfl),hw.sub (.cons .here .nil)⟩
def y2u (zA : List z1) (z6f : (List z1) → Option (List z1)) : Nat → (List z1) → Int → Option (List z1)
  | 0,_,_=>none
  | zgh + 1,z2n,zD=>if decide (zD < ((zA.length : Nat) : Int)) then jp1 (fun (z56 : List z1)=>y2u zA z6f zgh z56 (i64 (zD + 1))) fun ze7=>chk ((0 : Int) ≤ zD ∧ zD < ((zA.length : Nat) : Int)) ((y1s z2n (⟨(⟨(((nth zA zD).fB).fN),(((nth zA zD).fB).fD)⟩ : z2),(⟨(((nth zA zD).fR).fN),(((nth zA zD).fR).fD)⟩ : z2)⟩ : z1)).bind fun zl0=>(if !zl0 then (yZ zA (fun (y0 : z1)=>y2U y0 (⟨(⟨(((nth zA zD).fB).fN),(((nth zA zD).fB).fD)⟩ : z2),(⟨(((nth zA zD).fR).fN),(((nth zA zD).fR).fD)⟩ : z2)⟩ : z1))).bind fun zl1=>some (!zl1) else some false).bind fun zgi=>if zgi then chk ((((z2n ++ ([(⟨(⟨(((nth zA zD).fB).fN),(((nth zA zD).fB).fD)⟩ : z2),(⟨(((nth zA zD).fR).fN),(((nth zA zD).fR).fD)⟩ : z2)⟩ : z1)] : List z1)).length : Nat) : Int) * 32 ≤ 140737488355328 ∧ (((z2n ++ ([(⟨(⟨(((nth zA zD).fB).fN),(((nth zA zD).fB).fD)⟩ : z2),(⟨(((nth zA zD).fR).fN),(((nth zA zD).fR).fD)⟩ : z2)⟩ : z1)] : List z1)).length : Nat) : Int) ≤ 4611686018427387904) (ze7 (z2n ++ ([(⟨(⟨(((nth zA zD).fB).fN),(((nth zA zD).fB).fD)⟩ : z2),(⟨(((nth zA zD).fR).fN),(((nth zA zD).fR).fD)⟩ : z2)⟩ : z1)] : List z1))) else ze7 z2n) else z6f z2n
theorem y71 {n : Nat} {zA : List z1} {z6f : (List z1) → Option (List z1)} {z2n : List z1} {zD : Int} {r : List z1} (h : y2u zA z6f n z2n zD = some r) : ∃ m,n = m + 1:=by
  cases n with
  | zero=>cases h
  | succ m=>exact ⟨m,rfl⟩
def y40 (zA : List z1) : Option (List z1) :=
  jp1 (fun (z5v : List z1)=>(yT z5v (fun (y0 : z1) (y1 : z1)=>y3u y0 y1)).bind fun zgj=>some zgj) fun z6f=>y2u zA z6f ys ([] : List z1) 0
set_option maxRecDepth 20000 in
theorem y9x (Z : Zp) (z7q : Option Addr) (z7r : Nat) (zA : List z1) (r : List z1)
     (h : y40 zA = some r) (w₀ : World) (hz : PZ [] w₀ Z)
     (zl2 : ZS Z 4 (fun r x=>r = e35 x) z7q z7r zA) :
    Calls Try.prog 48 #[(.slice z7q zA.length z7r)] w₀ fun e w'=>∃ zl3 : Option Addr,∃ zl4 : Nat,e = .returned (.slice zl3 r.length zl4) ∧ True ∧ Hp [] w₀ w' [row (.slice zl3 r.length zl4) 35 4 (r.flatMap e35)]:=by
  unfold y40 at h
  refine Calls.yc (vs:=[(.slice z7q zA.length z7r)]) (pre:=[]) (env:=[(0,(.slice z7q zA.length z7r))]) Try.func48 rfl Try.ntmps48 rfl (Hp.nil w₀ _) rfl ?_
  refine WC.b (WC.a (WL.pu rfl (WL.nil (WX.a (WC.b (WC.a (WL.pu rfl (WL.nil (WX.a ?_)))))))))
  obtain ⟨z6f,zq5,h⟩:=y1n h
  refine WC.y2G (fun (z5v : List z1) (z8Q : Option Addr) (z8R : Nat)=>(z6f z5v = some r)) (fun (z5v : List z1) (z8Q : Option Addr) (z8R : Nat)=>[(3,(.slice z8Q z5v.length z8R))]) (fun (z5v : List z1) (z8Q : Option Addr) (z8R : Nat)=>[row (.slice z8Q z5v.length z8R) 35 4 (z5v.flatMap e35)]) ?_ ?_
  · skip
    refine WC.b (WC.a (WL.pu rfl ?_))
    refine WL.a (d:=7) rfl rfl rfl (y1c Try.underlying39 rfl) ?_
    refine WL.pu rfl (WL.nil (WX.a (WC.block ?_)))
    refine WC.nilRow 35 4 ?_
    refine WC.y4r (fun (z9Z : Nat) (z2n : List z1) (zD : Int) (z7s : Option Addr) (z7t : Nat)=>(y2u zA z6f z9Z z2n zD = some r)) (fun (z9Z : Nat) (z2n : List z1) (zD : Int) (z7s : Option Addr) (z7t : Nat)=>[(0,(.slice z7q zA.length z7r)),(3,(.slice z7s z2n.length z7t)),(6,(.slice z7q zA.length z7r)),(7,(.int .i64 ((zA.length : Nat) : Int))),(8,(.int .i64 zD))]) (fun (z9Z : Nat) (z2n : List z1) (zD : Int) (z7s : Option Addr) (z7t : Nat)=>[row (.slice z7s z2n.length z7t) 35 4 (z2n.flatMap e35)]) (fun (z9Z : Nat) (z2n : List z1) (zD : Int) (z7s : Option Addr) (z7t : Nat)=>z9Z) ⟨ys,([] : List z1),0,none,0⟩ h (.cons rfl (.cons rfl (.cons rfl (.cons rfl (.cons rfl .nil))))) (.cons .here .nil) ?_
    rintro z9Z z2n zD z7s z7t h
    obtain ⟨zgh,rfl⟩:=y71 h
    rw [y2u] at h
    refine WC.b (WC.a (WL.pu rfl (WL.nil (WX.a (WC.b ?_)))))
    refine WC.cond rfl (fun zgk=>?_) (fun zgk=>?_)
    · replace h:=ye h zgk
      refine WC.skip (WX.a ?_)
      obtain ⟨ze7,zq6,h⟩:=y1n h
      refine WC.y2G (fun (z56 : List z1) (za0 : Option Addr) (za1 : Nat)=>(ze7 z56 = some r)) (fun (z56 : List z1) (za0 : Option Addr) (za1 : Nat)=>[(0,(.slice z7q zA.length z7r)),(3,(.slice za0 z56.length za1)),(6,(.slice z7q zA.length z7r)),(7,(.int .i64 ((zA.length : Nat) : Int))),(8,(.int .i64 zD))]) (fun (z56 : List z1) (za0 : Option Addr) (za1 : Nat)=>[row (.slice za0 z56.length za1) 35 4 (z56.flatMap e35)]) ?_ ?_
      · skip
        refine WC.block (WC.b ?_)
        obtain ⟨zq7,h⟩:=yk h
        refine WC.a ?_
        refine WL.znth (dd:=10) rfl rfl (Z:=Z) (Pr:=(fun r x=>r = e35 x)) y2d rfl rfl zl2 zq7 ?_
        rintro zxX zxY zq8 zxZ rfl
        refine WL.a (d:=11) rfl rfl rfl (y7 y1x rfl (y2R hz.pv zq8) rfl) ?_
        refine WL.new (dd:=5) rfl rfl rfl (yh (cs:=[(.int .i64 0),(.int .i64 0),(.int .i64 0),(.int .i64 0)]) y3D rfl) ?_
        intro zq9 _
        refine WL.ya rfl rfl (y9 y3M rfl rfl rfl .here rfl rfl rfl) ?_
        refine WL.nil (WX.a (WC.b ?_))
        obtain ⟨zl0,zqa,h⟩:=z8 h
        obtain ⟨zgi,zl5,h⟩:=z8 h
        refine WC.a (WL.pu rfl ?_)
        refine WL.a (d:=13) rfl rfl rfl (y7 y1x rfl (y6 .here) rfl) ?_
        refine WL.b (dd:=14) rfl rfl rfl (ze (l:=[.tmp 12,.tmp 13]) Try.call59 (.cons rfl (.cons rfl .nil))) .nil (ccl hz .nil (.cons .h1 .nil) fun w pz ho la=>y3Q _ _ _ _ _ _ zqa w pz (ZA.row (la _ (.head _) _) (RR.flat (enc:=e35) (fun _=>rfl) _) ⟨w,pz.1⟩)) ?_
        refine WL.pu rfl (WL.pu rfl ?_)
        refine WL.seg true 4 16 (B:=zgi) rfl rfl rfl rfl rfl rfl (fun h=>(Option.some.inj (yf zl5 h)).symm) (fun _ zqb=>?_) ?_
        · skip
          have zc7:=ye zl5 zqb
          obtain ⟨zl1,zqc,zc7⟩:=z8 zc7
          replace zc7:=Option.some.inj zc7
          refine WL.pu rfl ?_
          refine WL.a (d:=18) rfl rfl rfl (y1b (Eos.caps (l:=[.tmp 5]) (.cons rfl .nil))) ?_
          refine WL.b (dd:=19) rfl rfl rfl (ze (l:=[.tmp 17,.tmp 18]) Try.call49 (.cons rfl (.cons rfl .nil))) .nil (ccl hz .nil (.cons .here .nil) fun w pz ho la=>y2n _ _ _ (z69:=60) (z8E:=[(.pointer (some ⟨zq9,0,none⟩))]) _ (z8D:=(fun (y0 : z1)=>y2U y0 (⟨(⟨(((nth zA zD).fB).fN),(((nth zA zD).fB).fD)⟩ : z2),(⟨(((nth zA zD).fR).fN),(((nth zA zD).fR).fD)⟩ : z2)⟩ : z1))) _ zqc w pz (zl2.mono (Zle.left _ _)) Try.call60 (fun w' hz' y0  r  hr=>y8L _ _ _ _ _ hr w' hz' ((la _ (.head _) _).stb))) ?_
          refine WL.pu rfl (WL.pu rfl ?_)
          exact WL.yy zc7 rfl rfl .all
        refine WL.nil (WX.a ?_)
        refine WC.cond rfl (fun zgl=>?_) (fun zgl=>?_)
        · replace h:=ye h zgl
          obtain ⟨zqd,h⟩:=yk h
          refine WC.a (WL.pu rfl ?_)
          refine WL.a (d:=23) rfl rfl rfl (y7 y1x rfl (y6 .here) rfl) ?_
          refine WL.new (dd:=24) rfl rfl rfl (yp (cs:=([(⟨(⟨(((nth zA zD).fB).fN),(((nth zA zD).fB).fD)⟩ : z2),(⟨(((nth zA zD).fR).fN),(((nth zA zD).fR).fD)⟩ : z2)⟩ : z1)] : List z1).flatMap e35) y2d (Eos.parts (l:=[.tmp 23]) (.cons rfl .nil) [0]) (fun _=>by kernel_rfl) rfl (by unfold maxLen; omega)) ?_
          intro zy0 _
          refine WL.eff (d:=25) rfl rfl rfl (y5d (enc:=e35) (l1:=z2n) (l2:=([(⟨(⟨(((nth zA zD).fB).fN),(((nth zA zD).fB).fD)⟩ : z2),(⟨(((nth zA zD).fR).fN),(((nth zA zD).fR).fD)⟩ : z2)⟩ : z1)] : List z1)) y2d rfl rfl .h2 (fun _=>rfl) rfl rfl (y61 .here) (y5O y9r _) zqd) ?_
          rintro ⟨zqe,zqf⟩ _
          refine WL.pu rfl (WL.nil (WX.yg ?_))
          exact WX.mid (G:=List z1 × Option Addr × Nat) ⟨(z2n ++ ([(⟨(⟨(((nth zA zD).fB).fN),(((nth zA zD).fB).fD)⟩ : z2),(⟨(((nth zA zD).fR).fN),(((nth zA zD).fR).fD)⟩ : z2)⟩ : z1)] : List z1)),zqe,zqf⟩ h (.cons rfl (.cons rfl (.cons rfl (.cons rfl (.cons rfl .nil))))) (.cons .here .nil)
        · replace h:=yf h zgl
          refine WC.skip (WX.yg ?_)
          exact WX.mid (G:=List z1 × Option Addr × Nat) ⟨z2n,z7s,z7t⟩ h (.cons rfl (.cons rfl (.cons rfl (.cons rfl (.cons rfl .nil))))) (.cons .h1 .nil)
      · rintro z56 za0 za1 h
        replace h:=(zq6 z56).symm.trans h
        refine WC.a (WL.pu rfl (WL.pu rfl (WL.nil ?_)))
        exact WX.round (G:=Nat × List z1 × Int × Option Addr × Nat) ⟨zgh,z56,(i64 (zD + 1)),za0,za1⟩ h (Nat.lt_succ_self _) (.cons rfl (.cons rfl (.cons rfl (.cons rfl (.cons rfl .nil))))) (.cons .here .nil)
    · replace h:=yf h zgk
      refine WC.exit (WX.yd (WX.yd (WX.yt ?_)))
      exact WX.mid (G:=List z1 × Option Addr × Nat) ⟨z2n,z7s,z7t⟩ h (.cons rfl .nil) (.cons .here .nil)
  · rintro z5v z8Q z8R h
    replace h:=(zq5 z5v).symm.trans h
    refine WC.b ?_
    obtain ⟨zgj,zqg,h⟩:=z8 h
    refine WC.a (WL.pu rfl ?_)
    refine WL.y6r (dd:=28) rfl rfl rfl (ze (l:=[.tmp 27,.func 63]) Try.call62 (.cons rfl (.cons rfl .nil))) (.cons .here .nil) (cc hz (.cons .here .nil) fun w pz ho=>y3R _ _ _ (z7p:=63) (z9Y:=[]) _ (z9X:=(fun (y0 : z1) (y1 : z1)=>y3u y0 y1)) _ zqg w pz Try.call63 (fun w' hz' y0 y1  r  hr=>y8M _ _ _ _ hr w' hz' ) ho) ?_
    rintro  zqh
    refine WL.repin (i:=3) rfl (u:=(.slice z8Q zgj.length z8R)) (slen zqh.symm) ?_
    refine WL.nil (WX.a (WC.b (WC.a (WL.pu rfl (WL.pu rfl (WL.nil (WX.a (WC.ret ?_))))))))
    obtain rfl:=Option.some.inj h
    refine WX.y8 Try.results48 (.tmp rfl .nil) (fun w hw=>?_)
    exact ⟨z8Q,z8R,yG rfl,trivial,hw.sub (.cons .here .nil)⟩
def y3K (z7u : List z1) (z7v : List z1) : Option (List z1 × List z1) :=
  some (z7u,z7v)
set_option maxRecDepth 20000 in
theorem y99 (Z : Zp) (za2 : Option Addr) (za3 : Nat) (za4 : Option Addr) (za5 : Nat) (z7u : List z1) (z7v : List z1) (r : List z1 × List z1)
     (h : y3K z7u z7v = some r) (w₀ : World) (hz : PZ [] w₀ Z)
     (zqi : ZS Z 4 (fun r x=>r = e35 x) za2 za3 z7u)
     (zqj : ZS Z 4 (fun r x=>r = e35 x) za4 za5 z7v) :
    Calls Try.prog 76 #[(.slice za2 z7u.length za3),(.slice za4 z7v.length za5)] w₀ fun e w'=>∃ zl6 : Nat,∃ zl7 : Nat,∃ zl8 : Option Addr,∃ zl9 : Nat,∃ zla : Option Addr,∃ zlb : Nat,e = .returned (.func (.func 89) #[] #[(.pointer (some ⟨zl6,0,none⟩)),(.pointer (some ⟨zl7,0,none⟩))]) ∧ ((ZS Z 4 (fun r x=>r = e35 x) zl8 zl9 r.1) ∧ (ZS Z 4 (fun r x=>r = e35 x) zla zlb r.2)) ∧ Hp [] w₀ w' [stb zl6 39 [(.slice zl8 r.1.length zl9)],stb zl7 39 [(.slice zla r.2.length zlb)]]:=by
  unfold y3K at h
  refine Calls.yc (vs:=[(.slice za2 z7u.length za3),(.slice za4 z7v.length za5)]) (pre:=[]) (env:=[(0,(.slice za2 z7u.length za3)),(1,(.slice za4 z7v.length za5))]) Try.func76 rfl Try.ntmps76 rfl (Hp.nil w₀ _) rfl ?_
  refine WC.b (WC.a ?_)
  refine WL.new (dd:=2) rfl rfl rfl (yI (cs:=[(.slice za2 z7u.length za3)]) rfl rfl) ?_
  intro zqk _
  refine WL.new (dd:=3) rfl rfl rfl (yI (cs:=[(.slice za4 z7v.length za5)]) rfl rfl) ?_
  intro zql _
  refine WL.pu rfl (WL.nil (WX.a (WC.b (WC.a ?_))))
  refine WL.a (d:=5) rfl rfl rfl (y1b (Eos.caps (l:=[.tmp 2,.tmp 3]) (.cons rfl (.cons rfl .nil)))) ?_
  refine WL.pu rfl (WL.nil (WX.a (WC.ret ?_)))
  obtain rfl:=Option.some.inj h
  refine WX.y8 Try.results76 (.tmp rfl .nil) (fun w hw=>?_)
  exact ⟨zqk,zql,za2,za3,za4,za5,yG rfl,⟨zqi,zqj⟩,hw.sub (.cons .h1 (.cons .here .nil))⟩
def y1Z (zr : Type) (z1u : List z1) (z3b : (z1 × z1) → zr → Option (Bool × zr)) (z16 : List z1) (z1c : Int) (z6g : zr → Option zr) : Nat → Int → zr → Option zr
  | 0,_,_=>none
  | zgm + 1,z27,z3j=>if decide (z27 < ((z1u.length : Nat) : Int)) then chk ((0 : Int) ≤ z27 ∧ z27 < ((z1u.length : Nat) : Int)) ((z3b ((⟨(⟨(((nth z16 z1c).fB).fN),(((nth z16 z1c).fB).fD)⟩ : z2),(⟨(((nth z16 z1c).fR).fN),(((nth z16 z1c).fR).fD)⟩ : z2)⟩ : z1),(⟨(⟨(((nth z1u z27).fB).fN),(((nth z1u z27).fB).fD)⟩ : z2),(⟨(((nth z1u z27).fR).fN),(((nth z1u z27).fR).fD)⟩ : z2)⟩ : z1)) z3j).bind fun z8S=>if !z8S.1 then some z8S.2 else y1Z zr z1u z3b z16 z1c z6g zgm (i64 (z27 + 1)) z8S.2) else z6g z3j
theorem y6m {n : Nat} {zr : Type} {z1u : List z1} {z3b : (z1 × z1) → zr → Option (Bool × zr)} {z16 : List z1} {z1c : Int} {z6g : zr → Option zr} {z27 : Int} {z3j : zr} {r : zr} (h : y1Z zr z1u z3b z16 z1c z6g n z27 z3j = some r) : ∃ m,n = m + 1:=by
  cases n with
  | zero=>cases h
  | succ m=>exact ⟨m,rfl⟩
def y20 (zr : Type) (z16 : List z1) (z1u : List z1) (z3b : (z1 × z1) → zr → Option (Bool × zr)) (z6h : zr → Option zr) : Nat → Int → zr → Option zr
  | 0,_,_=>none
  | zgn + 1,z1c,z3S=>if decide (z1c < ((z16.length : Nat) : Int)) then jp1 (fun (z5w : zr)=>y20 zr z16 z1u z3b z6h zgn (i64 (z1c + 1)) z5w) fun zgo=>chk ((0 : Int) ≤ z1c ∧ z1c < ((z16.length : Nat) : Int)) (jp1 (fun (z5x : zr)=>zgo z5x) fun z6g=>y1Z zr z1u z3b z16 z1c z6g ys 0 z3S) else z6h z3S
theorem y6n {n : Nat} {zr : Type} {z16 : List z1} {z1u : List z1} {z3b : (z1 × z1) → zr → Option (Bool × zr)} {z6h : zr → Option zr} {z1c : Int} {z3S : zr} {r : zr} (h : y20 zr z16 z1u z3b z6h n z1c z3S = some r) : ∃ m,n = m + 1:=by
  cases n with
  | zero=>cases h
  | succ m=>exact ⟨m,rfl⟩
def y2N (zr : Type) (z3b : (z1 × z1) → zr → Option (Bool × zr)) (s0_5185 : zr) (z16 : List z1) (z1u : List z1) : Option zr :=
  jp1 (fun (z6i : zr)=>some z6i) fun z6h=>y20 zr z16 z1u z3b z6h ys 0 s0_5185
set_option maxRecDepth 20000 in
theorem y8r (Z : Zp) (zr : Type) (z6j : Nat) (z1w : Type) (z3B : z1w → zr → Asrt) (z6k : z1w → zr → Prop) (z7w : z1w) (zc8 : Addr) (z8T : Option Addr) (z8U : Nat) (z6l : Addr) (ze8 : Option Addr) (ze9 : Nat) (z3b : (z1 × z1) → zr → Option (Bool × zr)) (s0_5185 : zr) (z16 : List z1) (z1u : List z1) (r : zr) (w₀ : World) (hz : PZ (fps [z3B z7w s0_5185]) w₀ Z)
     (zqm : y7l Try.prog Z z6j (α:=z1 × z1) (σ:=zr) (G:=z1w) (H:=Unit) (fun h x=>[(.agg #[(.int .i64 x.1.fB.fN),(.int .i64 x.1.fB.fD),(.int .i64 x.1.fR.fN),(.int .i64 x.1.fR.fD)]),(.agg #[(.int .i64 x.2.fB.fN),(.int .i64 x.2.fB.fD),(.int .i64 x.2.fR.fN),(.int .i64 x.2.fR.fD)])]) (fun h x=>[]) z3b z3B z6k)
     (zqn : z6k z7w s0_5185)
     (zqo : ZS Z 4 (fun r x=>r = e35 x) z8T z8U z16)
     (zqp : ZC Z zc8 [(.slice z8T z16.length z8U)])
     (zqq : ZS Z 4 (fun r x=>r = e35 x) ze8 ze9 z1u)
     (zqr : ZC Z z6l [(.slice ze8 z1u.length ze9)])
     (h : y2N zr z3b s0_5185 z16 z1u = some r)
    (hown : Hp (fps [z3B z7w s0_5185]) w₀ w₀ [z3B z7w s0_5185]) :
    Calls Try.prog 89 #[(.func (.yield z6j) #[] #[]),(.pointer (some zc8)),(.pointer (some z6l))] w₀ fun e w'=>∃ zlc : z1w,e = .returned (.tuple #[]) ∧ (z6k zlc r) ∧ Hp (fps [z3B z7w s0_5185]) w₀ w' [z3B zlc r]:=by
  unfold y2N at h
  refine Calls.yc (vs:=[(.func (.yield z6j) #[] #[]),(.pointer (some zc8)),(.pointer (some z6l))]) (pre:=[z3B z7w s0_5185]) (env:=[(0,(.func (.yield z6j) #[] #[])),(1,(.pointer (some zc8))),(2,(.pointer (some z6l)))]) Try.func89 rfl Try.ntmps89 rfl (hown) rfl ?_
  refine WC.b (WC.a ?_)
  refine WL.a (d:=8) rfl rfl rfl (yb y4E rfl (y4P hz.pv zqp rfl)) ?_
  refine WL.a (d:=9) rfl rfl rfl (y1c Try.underlying39 rfl) ?_
  refine WL.pu rfl (WL.nil (WX.a ?_))
  obtain ⟨z6h,zqs,h⟩:=y1n h
  refine WC.y5Q (fun (z6i : zr) (za6 : z1w)=>(z6h z6i = some r) ∧ (z6k za6 z6i)) (fun (z6i : zr) (za6 : z1w)=>[]) (fun (z6i : zr) (za6 : z1w)=>[z3B za6 z6i]) ?_ ?_
  · skip
    refine WC.block ?_
    refine WC.y3Y (fun (za7 : Nat) (z1c : Int) (z3S : zr) (z7x : z1w)=>(y20 zr z16 z1u z3b z6h za7 z1c z3S = some r) ∧ (z6k z7x z3S)) (fun (za7 : Nat) (z1c : Int) (z3S : zr) (z7x : z1w)=>[(0,(.func (.yield z6j) #[] #[])),(2,(.pointer (some z6l))),(8,(.slice z8T z16.length z8U)),(9,(.int .i64 ((z16.length : Nat) : Int))),(10,(.int .i64 z1c))]) (fun (za7 : Nat) (z1c : Int) (z3S : zr) (z7x : z1w)=>[z3B z7x z3S]) (fun (za7 : Nat) (z1c : Int) (z3S : zr) (z7x : z1w)=>za7) ⟨ys,0,s0_5185,z7w⟩ ⟨h,zqn⟩ (.cons rfl (.cons rfl (.cons rfl (.cons rfl (.cons rfl .nil))))) (.cons .here .nil) ?_
    rintro za7 z1c z3S z7x ⟨h,zld⟩
    obtain ⟨zgn,rfl⟩:=y6n h
    rw [y20] at h
    refine WC.b (WC.a (WL.pu rfl (WL.nil (WX.a (WC.b ?_)))))
    refine WC.cond rfl (fun zgp=>?_) (fun zgp=>?_)
    · replace h:=ye h zgp
      refine WC.skip (WX.a ?_)
      obtain ⟨zgo,zqt,h⟩:=y1n h
      refine WC.y3A (fun (z5w : zr) (za8 : z1w)=>(zgo z5w = some r) ∧ (z6k za8 z5w)) (fun (z5w : zr) (za8 : z1w)=>[(0,(.func (.yield z6j) #[] #[])),(2,(.pointer (some z6l))),(8,(.slice z8T z16.length z8U)),(9,(.int .i64 ((z16.length : Nat) : Int))),(10,(.int .i64 z1c))]) (fun (z5w : zr) (za8 : z1w)=>[z3B za8 z5w]) ?_ ?_
      · skip
        refine WC.block (WC.b ?_)
        obtain ⟨zqu,h⟩:=yk h
        refine WC.a ?_
        refine WL.znth (dd:=12) rfl rfl (Z:=Z) (Pr:=(fun r x=>r = e35 x)) y2d rfl rfl zqo zqu ?_
        rintro zy1 zy2 zqv zy3 rfl
        refine WL.a (d:=13) rfl rfl rfl (y7 y1x rfl (y2R hz.pv zqv) rfl) ?_
        refine WL.new (dd:=5) rfl rfl rfl (yh (cs:=[(.int .i64 0),(.int .i64 0),(.int .i64 0),(.int .i64 0)]) y3D rfl) ?_
        intro zle _
        refine WL.ya rfl rfl (y9 y3M rfl rfl rfl .here rfl rfl rfl) ?_
        refine WL.nil (WX.a (WC.b (WC.a ?_)))
        refine WL.a (d:=14) rfl rfl rfl (yb y4E rfl (y4P hz.pv zqr rfl)) ?_
        refine WL.a (d:=15) rfl rfl rfl (y1c Try.underlying39 rfl) ?_
        refine WL.pu rfl (WL.nil (WX.a ?_))
        obtain ⟨z6g,zqw,h⟩:=y1n h
        refine WC.y5Q (fun (z5x : zr) (za9 : z1w)=>(z6g z5x = some r) ∧ (z6k za9 z5x)) (fun (z5x : zr) (za9 : z1w)=>[(0,(.func (.yield z6j) #[] #[])),(2,(.pointer (some z6l))),(8,(.slice z8T z16.length z8U)),(9,(.int .i64 ((z16.length : Nat) : Int))),(10,(.int .i64 z1c))]) (fun (z5x : zr) (za9 : z1w)=>[z3B za9 z5x]) ?_ ?_
        · skip
          refine WC.block ?_
          refine WC.y3Y (fun (zaa : Nat) (z27 : Int) (z3j : zr) (z5y : z1w)=>(y1Z zr z1u z3b z16 z1c z6g zaa z27 z3j = some r) ∧ (z6k z5y z3j)) (fun (zaa : Nat) (z27 : Int) (z3j : zr) (z5y : z1w)=>[(0,(.func (.yield z6j) #[] #[])),(2,(.pointer (some z6l))),(5,(.pointer (some ⟨zle,0,none⟩))),(8,(.slice z8T z16.length z8U)),(9,(.int .i64 ((z16.length : Nat) : Int))),(10,(.int .i64 z1c)),(14,(.slice ze8 z1u.length ze9)),(15,(.int .i64 ((z1u.length : Nat) : Int))),(16,(.int .i64 z27))]) (fun (zaa : Nat) (z27 : Int) (z3j : zr) (z5y : z1w)=>[stb zle 35 [(.int .i64 (((nth z16 z1c).fB).fN)),(.int .i64 (((nth z16 z1c).fB).fD)),(.int .i64 (((nth z16 z1c).fR).fN)),(.int .i64 (((nth z16 z1c).fR).fD))],z3B z5y z3j]) (fun (zaa : Nat) (z27 : Int) (z3j : zr) (z5y : z1w)=>zaa) ⟨ys,0,z3S,z7x⟩ ⟨h,zld⟩ (.cons rfl (.cons rfl (.cons rfl (.cons rfl (.cons rfl (.cons rfl (.cons rfl (.cons rfl (.cons rfl .nil))))))))) (.cons .here (.cons .here .nil)) ?_
          rintro zaa z27 z3j z5y ⟨h,zlf⟩
          obtain ⟨zgm,rfl⟩:=y6m h
          rw [y1Z] at h
          refine WC.b (WC.a (WL.pu rfl (WL.nil (WX.a (WC.b ?_)))))
          refine WC.cond rfl (fun zgq=>?_) (fun zgq=>?_)
          · replace h:=ye h zgq
            refine WC.skip (WX.a (WC.b (WC.block (WC.b ?_))))
            obtain ⟨zqx,h⟩:=yk h
            refine WC.a ?_
            refine WL.znth (dd:=18) rfl rfl (Z:=Z) (Pr:=(fun r x=>r = e35 x)) y2d rfl rfl zqq zqx ?_
            rintro zy4 zy5 zqy zy6 rfl
            refine WL.a (d:=19) rfl rfl rfl (y7 y1x rfl (y2R hz.pv zqy) rfl) ?_
            refine WL.new (dd:=7) rfl rfl rfl (yh (cs:=[(.int .i64 0),(.int .i64 0),(.int .i64 0),(.int .i64 0)]) y3D rfl) ?_
            intro zy7 _
            refine WL.ya rfl rfl (y9 y3M rfl rfl rfl .here rfl rfl rfl) ?_
            refine WL.nil (WX.a (WC.b ?_))
            obtain ⟨z8S,zqz,h⟩:=z8 h
            refine WC.a (WL.pu rfl ?_)
            refine WL.a (d:=21) rfl rfl rfl (y7 y1x rfl (y6 .h1) rfl) ?_
            refine WL.a (d:=22) rfl rfl rfl (y7 y1x rfl (y6 .here) rfl) ?_
            refine WL.yield (dd:=23) (x:=((⟨(⟨(((nth z16 z1c).fB).fN),(((nth z16 z1c).fB).fD)⟩ : z2),(⟨(((nth z16 z1c).fR).fN),(((nth z16 z1c).fR).fD)⟩ : z2)⟩ : z1),(⟨(⟨(((nth z1u z27).fB).fN),(((nth z1u z27).fB).fD)⟩ : z2),(⟨(((nth z1u z27).fR).fN),(((nth z1u z27).fR).fD)⟩ : z2)⟩ : z1))) (h:=()) (g:=z5y) (s:=z3j) (b:=z8S.1) (s':=z8S.2) zqm rfl rfl rfl (.cons rfl (.cons rfl .nil)) ((.cons .h2 .nil) : Sel _ [z3B z5y z3j] _) zqz zlf (fun w hw=>hz.call hw ((.cons .h2 .nil) : Sel _ [z3B z5y z3j] _)) ?_
            intro zlg zlh
            refine WL.pu rfl (WL.nil (WX.a ?_))
            refine WC.cond rfl (fun zgr=>?_) (fun zgr=>?_)
            · replace h:=ye h zgr
              refine WC.ret (WX.yl (WX.y5 (WX.y5 (WX.yl (WX.y5 (WX.yl (WX.y5 (WX.y5 (WX.yl (WX.y5 ?_))))))))))
              obtain rfl:=Option.some.inj h
              refine WX.y8 Try.results89 .nil (fun w hw=>?_)
              exact ⟨zlg,y5p,zlh,hw.sub (.cons .here .nil)⟩
            · replace h:=yf h zgr
              refine WC.skip (WX.yg (WX.a (WC.a (WL.pu rfl (WL.pu rfl (WL.nil ?_))))))
              exact WX.round (G:=Nat × Int × zr × z1w) ⟨zgm,(i64 (z27 + 1)),z8S.2,zlg⟩ ⟨h,zlh⟩ (Nat.lt_succ_self _) (.cons rfl (.cons rfl (.cons rfl (.cons rfl (.cons rfl (.cons rfl (.cons rfl (.cons rfl (.cons rfl .nil))))))))) (.cons .h2 (.cons .here .nil))
          · replace h:=yf h zgq
            refine WC.exit (WX.yd (WX.yd (WX.yt ?_)))
            exact WX.mid (G:=zr × z1w) ⟨z3j,z5y⟩ ⟨h,zlf⟩ (.cons rfl (.cons rfl (.cons rfl (.cons rfl (.cons rfl .nil))))) (.cons .h1 .nil)
        · rintro z5x za9 ⟨h,zqA⟩
          replace h:=(zqw z5x).symm.trans h
          refine WX.yg ?_
          exact WX.mid (G:=zr × z1w) ⟨z5x,za9⟩ ⟨h,zqA⟩ (.cons rfl (.cons rfl (.cons rfl (.cons rfl (.cons rfl .nil))))) (.cons .here .nil)
      · rintro z5w za8 ⟨h,zqB⟩
        replace h:=(zqt z5w).symm.trans h
        refine WC.a (WL.pu rfl (WL.pu rfl (WL.nil ?_)))
        exact WX.round (G:=Nat × Int × zr × z1w) ⟨zgn,(i64 (z1c + 1)),z5w,za8⟩ ⟨h,zqB⟩ (Nat.lt_succ_self _) (.cons rfl (.cons rfl (.cons rfl (.cons rfl (.cons rfl .nil))))) (.cons .here .nil)
    · replace h:=yf h zgp
      refine WC.exit (WX.yd (WX.yd (WX.yt ?_)))
      exact WX.mid (G:=zr × z1w) ⟨z3S,z7x⟩ ⟨h,zld⟩ .nil (.cons .here .nil)
  · rintro z6i za6 ⟨h,zqC⟩
    replace h:=(zqs z6i).symm.trans h
    obtain rfl:=Option.some.inj h
    refine WX.y4i Try.results89 .nil (fun w hw=>?_)
    exact ⟨za6,y5p,zqC,hw.sub (.cons .here .nil)⟩
def y5D (z8V : z2) (z8W : z2) : Option (Int × Int) :=
  some ((i64 ((i64 (z8V.fN * z8W.fD)) - (i64 (z8W.fN * z8V.fD)))),(i64 (z8V.fD * z8W.fD)))
set_option maxRecDepth 20000 in
theorem yar (Z : Zp) (zea : Addr) (zeb : Addr) (z8V : z2) (z8W : z2) (r : Int × Int)
     (h : y5D z8V z8W = some r) (w₀ : World) (hz : PZ [] w₀ Z)
     (zgs : ZC Z zea [(.int .i64 z8V.fN),(.int .i64 z8V.fD)])
     (zgt : ZC Z zeb [(.int .i64 z8W.fN),(.int .i64 z8W.fD)]) :
    Calls Try.prog 55 #[(.pointer (some zea)),(.pointer (some zeb))] w₀ fun e w'=>e = .returned (.tuple #[(.int .i64 r.1),(.int .i64 r.2)]) ∧ Hp [] w₀ w' []:=by
  unfold y5D at h
  refine Calls.yc (vs:=[(.pointer (some zea)),(.pointer (some zeb))]) (pre:=[]) (env:=[(0,(.pointer (some zea))),(1,(.pointer (some zeb)))]) Try.func55 rfl Try.ntmps55 rfl (Hp.nil w₀ _) rfl ?_
  refine WC.b (WC.a (WL.pu rfl (WL.pu rfl (WL.nil (WX.a (WC.b ?_))))))
  refine WC.y1g (fun i=>[].contains i) [] rfl ?_
  refine WD.a (i:=0) (d:=4) (by kernel_rfl) rfl (z6 (by kernel_rfl)) (z7 (by kernel_rfl)) rfl rfl rfl (fun _=>y3 y1K rfl rfl) ?_
  refine WD.e (i:=1) (d:=5) (by kernel_rfl) rfl (z6 (by kernel_rfl)) (z7 (by kernel_rfl)) rfl rfl rfl (yb yu rfl (y1I hz.pv zgs rfl)) ?_
  refine WD.a (i:=2) (d:=6) (by kernel_rfl) rfl (z6 (by kernel_rfl)) (z7 (by kernel_rfl)) rfl rfl rfl (fun _=>y3 y1W rfl rfl) ?_
  refine WD.e (i:=3) (d:=7) (by kernel_rfl) rfl (z6 (by kernel_rfl)) (z7 (by kernel_rfl)) rfl rfl rfl (yb yu rfl (y1I hz.pv zgt rfl)) ?_
  refine WD.a (i:=4) (d:=8) (by kernel_rfl) rfl (z6 (by kernel_rfl)) (z7 (by kernel_rfl)) rfl rfl rfl (fun _=>y44 rfl rfl rfl) ?_
  refine WD.a (i:=5) (d:=9) (by kernel_rfl) rfl (z6 (by kernel_rfl)) (z7 (by kernel_rfl)) rfl rfl rfl (fun _=>y3 y1K rfl rfl) ?_
  refine WD.e (i:=6) (d:=10) (by kernel_rfl) rfl (z6 (by kernel_rfl)) (z7 (by kernel_rfl)) rfl rfl rfl (yb yu rfl (y1I hz.pv zgt rfl)) ?_
  refine WD.a (i:=7) (d:=11) (by kernel_rfl) rfl (z6 (by kernel_rfl)) (z7 (by kernel_rfl)) rfl rfl rfl (fun _=>y3 y1W rfl rfl) ?_
  refine WD.e (i:=8) (d:=12) (by kernel_rfl) rfl (z6 (by kernel_rfl)) (z7 (by kernel_rfl)) rfl rfl rfl (yb yu rfl (y1I hz.pv zgs rfl)) ?_
  refine WD.a (i:=9) (d:=13) (by kernel_rfl) rfl (z6 (by kernel_rfl)) (z7 (by kernel_rfl)) rfl rfl rfl (fun _=>y44 rfl rfl rfl) ?_
  refine WD.a (i:=10) (d:=14) (by kernel_rfl) rfl (z6 (by kernel_rfl)) (z7 (by kernel_rfl)) rfl rfl rfl (fun _=>y7C rfl rfl rfl) ?_
  refine WD.a (i:=11) (d:=15) (by kernel_rfl) rfl (z6 (by kernel_rfl)) (z7 (by kernel_rfl)) rfl rfl rfl (fun _=>y3 y1W rfl rfl) ?_
  refine WD.e (i:=12) (d:=16) (by kernel_rfl) rfl (z6 (by kernel_rfl)) (z7 (by kernel_rfl)) rfl rfl rfl (yb yu rfl (y1I hz.pv zgs rfl)) ?_
  refine WD.a (i:=13) (d:=17) (by kernel_rfl) rfl (z6 (by kernel_rfl)) (z7 (by kernel_rfl)) rfl rfl rfl (fun _=>y3 y1W rfl rfl) ?_
  refine WD.e (i:=14) (d:=18) (by kernel_rfl) rfl (z6 (by kernel_rfl)) (z7 (by kernel_rfl)) rfl rfl rfl (yb yu rfl (y1I hz.pv zgt rfl)) ?_
  refine WD.a (i:=15) (d:=19) (by kernel_rfl) rfl (z6 (by kernel_rfl)) (z7 (by kernel_rfl)) rfl rfl rfl (fun _=>y44 rfl rfl rfl) ?_
  refine WD.a (i:=16) (d:=2) (by kernel_rfl) rfl (z6 (by kernel_rfl)) (z7 (by kernel_rfl)) rfl rfl rfl (fun _=>q_z rfl) ?_
  refine WD.a (i:=17) (d:=3) (by kernel_rfl) rfl (z6 (by kernel_rfl)) (z7 (by kernel_rfl)) rfl rfl rfl (fun _=>q_z rfl) ?_
  refine WD.done (by kernel_rfl) ?_
  refine WX.a (WC.ret ?_)
  obtain rfl:=Option.some.inj h
  refine WX.y8 Try.results55 (.tmp rfl (.tmp rfl .nil)) (fun w hw=>?_)
  exact ⟨y1H rfl rfl,hw.sub .nil⟩
def y1U (z8X : Int) (z7y : Int) : Option (z2 × Int) :=
  if decide (z7y = 0) then some ((⟨0,0⟩ : z2),2) else (y3d z8X).bind fun z5z=>(y3d z7y).bind fun z7z=>(y2D z5z z7z).bind fun z3k=>chk ((z3k : Int) ≠ 0) (if (decide ((u64 (Int.tdiv z5z z3k)) > 1073741824)) || (decide ((u64 (Int.tdiv z7z z3k)) > 1073741824)) then some ((⟨0,0⟩ : z2),3) else jp1 (fun (z7A : Int)=>some ((⟨z7A,i64 (u64 (Int.tdiv z7z z3k))⟩ : z2),0)) fun zec=>if (decide (z8X < 0)) != (decide (z7y < 0)) then zec (i64 (0 - (i64 (u64 (Int.tdiv z5z z3k))))) else zec (i64 (u64 (Int.tdiv z5z z3k))))
set_option maxRecDepth 20000 in
theorem y3e (Z : Zp)  (z8X : Int) (z7y : Int) (r : z2 × Int)
     (h : y1U z8X z7y = some r) (w₀ : World) (hz : PZ [] w₀ Z) :
    Calls Try.prog 9 #[(.int .i64 z8X),(.int .i64 z7y)] w₀ fun e w'=>e = .returned (.tuple #[(.agg #[(.int .i64 r.1.fN),(.int .i64 r.1.fD)]),(.int .i64 r.2)]) ∧ Hp [] w₀ w' []:=by
  unfold y1U at h
  refine Calls.yc (vs:=[(.int .i64 z8X),(.int .i64 z7y)]) (pre:=[]) (env:=[(0,(.int .i64 z8X)),(1,(.int .i64 z7y))]) Try.func9 rfl Try.ntmps9 rfl (Hp.nil w₀ _) rfl ?_
  refine WC.b (WC.a ?_)
  refine WL.new (dd:=4) rfl rfl rfl (yh (cs:=[(.int .i64 0),(.int .i64 0)]) ym rfl) ?_
  intro zli _
  refine WL.pu rfl (WL.nil (WX.a (WC.b (WC.b (WC.a (WL.pu rfl (WL.pu rfl (WL.nil (WX.a ?_)))))))))
  refine WC.cond rfl (fun zgu=>?_) (fun zgu=>?_)
  · replace h:=ye h zgu
    refine WC.b (WC.a ?_)
    refine WL.a (d:=12) rfl rfl rfl (yV (v:=(.agg #[(.int .i64 0),(.int .i64 0)])) (Eos.parts (l:=[]) .nil []) (fun _=>by kernel_rfl)) ?_
    refine WL.ya rfl rfl (y9 yj rfl rfl rfl .here rfl rfl rfl) ?_
    refine WL.pu rfl (WL.nil (WX.a (WC.ret (WX.y5 ?_))))
    obtain rfl:=Option.some.inj h
    refine WX.y8 Try.results9 (.agg rfl y4 rfl (y6 .here) (.tmp rfl .nil)) (fun w hw=>?_)
    exact ⟨y1H rfl rfl,hw.sub .nil⟩
  · replace h:=yf h zgu
    refine WC.skip (WX.a (WC.b ?_))
    obtain ⟨z5z,zqD,h⟩:=z8 h
    obtain ⟨z7z,zqE,h⟩:=z8 h
    refine WC.a (WL.pu rfl ?_)
    refine WL.b (dd:=14) rfl rfl rfl (ze (l:=[.tmp 13]) Try.call28 (.cons rfl .nil)) .nil (cc hz .nil fun w pz ho=>y5C _ _ _ zqD w pz ) ?_
    refine WL.pu rfl ?_
    refine WL.b (dd:=16) rfl rfl rfl (ze (l:=[.tmp 15]) Try.call28 (.cons rfl .nil)) .nil (cc hz .nil fun w pz ho=>y5C _ _ _ zqE w pz ) ?_
    refine WL.pu rfl (WL.pu rfl (WL.nil (WX.a (WC.b ?_))))
    obtain ⟨z3k,zqF,h⟩:=z8 h
    refine WC.a (WL.pu rfl (WL.pu rfl ?_))
    refine WL.b (dd:=19) rfl rfl rfl (ze (l:=[.tmp 17,.tmp 18]) Try.call29 (.cons rfl (.cons rfl .nil))) .nil (cc hz .nil fun w pz ho=>y67 _ _ _ _ zqF w pz ) ?_
    refine WL.pu rfl (WL.nil (WX.a (WC.b ?_)))
    obtain ⟨zlj,h⟩:=yk h
    refine WC.y1g (fun i=>[].contains i) [] rfl ?_
    refine WD.a (i:=0) (d:=20) (by kernel_rfl) rfl (z6 (by kernel_rfl)) (z7 (by kernel_rfl)) rfl rfl rfl (fun _=>q_m rfl) ?_
    refine WD.a (i:=1) (d:=21) (by kernel_rfl) rfl (z6 (by kernel_rfl)) (z7 (by kernel_rfl)) rfl rfl rfl (fun _=>q_m rfl) ?_
    refine WD.a (i:=2) (d:=22) (by kernel_rfl) rfl (z6 (by kernel_rfl)) (z7 (by kernel_rfl)) rfl rfl rfl (fun _=>q_quo rfl rfl zlj rfl) ?_
    refine WD.a (i:=3) (d:=23) (by kernel_rfl) rfl (z6 (by kernel_rfl)) (z7 (by kernel_rfl)) rfl rfl rfl (fun _=>q_m rfl) ?_
    refine WD.a (i:=4) (d:=24) (by kernel_rfl) rfl (z6 (by kernel_rfl)) (z7 (by kernel_rfl)) rfl rfl rfl (fun _=>q_m rfl) ?_
    refine WD.a (i:=5) (d:=25) (by kernel_rfl) rfl (z6 (by kernel_rfl)) (z7 (by kernel_rfl)) rfl rfl rfl (fun _=>q_quo rfl rfl zlj rfl) ?_
    refine WD.a (i:=6) (d:=6) (by kernel_rfl) rfl (z6 (by kernel_rfl)) (z7 (by kernel_rfl)) rfl rfl rfl (fun _=>q_z rfl) ?_
    refine WD.a (i:=7) (d:=7) (by kernel_rfl) rfl (z6 (by kernel_rfl)) (z7 (by kernel_rfl)) rfl rfl rfl (fun _=>q_z rfl) ?_
    refine WD.done (by kernel_rfl) ?_
    refine WX.a (WC.b (WC.b (WC.a (WL.pu rfl (WL.pu rfl (WL.pu rfl ?_))))))
    refine WL.seg false 2 28 (B:=(decide ((u64 (Int.tdiv z5z z3k)) > 1073741824)) || (decide ((u64 (Int.tdiv z7z z3k)) > 1073741824))) rfl rfl rfl rfl rfl rfl (fun h=>(y4X h).symm) (fun _ zqG=>?_) ?_
    · skip
      refine WL.pu rfl (WL.pu rfl (WL.pu rfl ?_))
      exact WL.yy (y4Y zqG) rfl rfl .all
    refine WL.nil (WX.a ?_)
    refine WC.cond rfl (fun zgv=>?_) (fun zgv=>?_)
    · replace h:=ye h zgv
      refine WC.b (WC.a ?_)
      refine WL.a (d:=32) rfl rfl rfl (yV (v:=(.agg #[(.int .i64 0),(.int .i64 0)])) (Eos.parts (l:=[]) .nil []) (fun _=>by kernel_rfl)) ?_
      refine WL.ya rfl rfl (y9 yj rfl rfl rfl .here rfl rfl rfl) ?_
      refine WL.pu rfl (WL.nil (WX.a (WC.ret (WX.y5 ?_))))
      obtain rfl:=Option.some.inj h
      refine WX.y8 Try.results9 (.agg rfl y4 rfl (y6 .here) (.tmp rfl .nil)) (fun w hw=>?_)
      exact ⟨y1H rfl rfl,hw.sub .nil⟩
    · replace h:=yf h zgv
      refine WC.skip (WX.a (WC.b (WC.a (WL.pu rfl ?_))))
      refine WL.a (d:=34) rfl rfl rfl (y36 Try.underlying71 Try.underlying3 rfl rfl) ?_
      refine WL.pu rfl ?_
      refine WL.a (d:=36) rfl rfl rfl (y36 Try.underlying71 Try.underlying3 rfl rfl) ?_
      refine WL.a (d:=37) rfl rfl rfl (yV (v:=(.agg #[(.int .i64 (i64 (u64 (Int.tdiv z5z z3k)))),(.int .i64 (i64 (u64 (Int.tdiv z7z z3k))))])) (Eos.parts (l:=[.tmp 34,.tmp 36]) (.cons rfl (.cons rfl .nil)) [0,1]) (fun _=>by kernel_rfl)) ?_
      refine WL.new (dd:=9) rfl rfl rfl (yh (cs:=[(.int .i64 0),(.int .i64 0)]) ym rfl) ?_
      intro zlk _
      refine WL.ya rfl rfl (y9 yj rfl rfl rfl .here rfl rfl rfl) ?_
      refine WL.nil (WX.a ?_)
      obtain ⟨zec,zqH,h⟩:=y1n h
      refine WC.y3a (fun (z7A : Int)=>(zec z7A = some r)) (fun (z7A : Int)=>[(4,(.pointer (some ⟨zli,0,none⟩))),(9,(.pointer (some ⟨zlk,0,none⟩)))]) (fun (z7A : Int)=>[stb zli 30 [(.int .i64 0),(.int .i64 0)],stb zlk 30 [(.int .i64 z7A),(.int .i64 (i64 (u64 (Int.tdiv z7z z3k))))]]) ?_ ?_
      · skip
        refine WC.b (WC.a (WL.pu rfl (WL.pu rfl (WL.pu rfl (WL.pu rfl ?_)))))
        refine WL.a (d:=42) rfl rfl rfl (q_bneq Try.underlying4 rfl rfl) ?_
        refine WL.nil (WX.a ?_)
        refine WC.cond rfl (fun zgw=>?_) (fun zgw=>?_)
        · replace h:=ye h zgw
          refine WC.a ?_
          refine WL.a (d:=43) rfl rfl rfl (y3 y1K rfl rfl) ?_
          refine WL.a (d:=44) rfl rfl rfl (yb yu rfl (yq .here rfl)) ?_
          refine WL.a (d:=45) rfl rfl rfl (q_neg rfl rfl) ?_
          refine WL.a (d:=46) rfl rfl rfl (y3 y1K rfl rfl) ?_
          refine WL.ya rfl rfl (y63 (ds:=[(.int .i64 (i64 (0 - (i64 (u64 (Int.tdiv z5z z3k)))))),(.int .i64 (i64 (u64 (Int.tdiv z7z z3k))))]) sizT_3 rfl rfl rfl rfl rfl .here rfl rfl) ?_
          refine WL.nil ?_
          exact WX.mid (G:=Int) (i64 (0 - (i64 (u64 (Int.tdiv z5z z3k))))) h (.cons rfl (.cons rfl .nil)) (.cons .h1 (.cons .here .nil))
        · replace h:=yf h zgw
          refine WC.skip ?_
          exact WX.mid (G:=Int) (i64 (u64 (Int.tdiv z5z z3k))) h (.cons rfl (.cons rfl .nil)) (.cons .h1 (.cons .here .nil))
      · rintro z7A h
        replace h:=(zqH z7A).symm.trans h
        refine WC.b (WC.a ?_)
        refine WL.a (d:=47) rfl rfl rfl (y7 y4 rfl (y6 .h1) rfl) ?_
        refine WL.ya rfl rfl (y9 yj rfl rfl rfl .here rfl rfl rfl) ?_
        refine WL.pu rfl (WL.nil (WX.a (WC.ret ?_)))
        obtain rfl:=Option.some.inj h
        refine WX.y8 Try.results9 (.agg rfl y4 rfl (y6 .here) (.tmp rfl .nil)) (fun w hw=>?_)
        exact ⟨y1H rfl rfl,hw.sub .nil⟩
def y72 (z4A : z2) (z4B : z2) : Option (z2 × Int) :=
  (y1f z4A).bind fun zll=>(if !zll then some true else (y1f z4B).bind fun zlm=>some (!zlm)).bind fun zed=>if zed then some ((⟨0,0⟩ : z2),2) else (y5D z4A z4B).bind fun zgx=>(y1U zgx.1 zgx.2).bind fun zgy=>some (zgy.1,zgy.2)
set_option maxRecDepth 20000 in
theorem w_rat_do (Z : Zp)  (z4A : z2) (z4B : z2) (r : z2 × Int)
     (h : y72 z4A z4B = some r) (w₀ : World) (hz : PZ [] w₀ Z) :
    Calls Try.prog 40 #[(.string ⟨#[45]⟩),(.agg #[(.int .i64 z4A.fN),(.int .i64 z4A.fD)]),(.agg #[(.int .i64 z4B.fN),(.int .i64 z4B.fD)])] w₀ fun e w'=>e = .returned (.tuple #[(.agg #[(.int .i64 r.1.fN),(.int .i64 r.1.fD)]),(.int .i64 r.2)]) ∧ Hp [] w₀ w' []:=by
  unfold y72 at h
  refine Calls.yc (vs:=[(.string ⟨#[45]⟩),(.agg #[(.int .i64 z4A.fN),(.int .i64 z4A.fD)]),(.agg #[(.int .i64 z4B.fN),(.int .i64 z4B.fD)])]) (pre:=[]) (env:=[(0,(.string ⟨#[45]⟩)),(1,(.agg #[(.int .i64 z4A.fN),(.int .i64 z4A.fD)])),(2,(.agg #[(.int .i64 z4B.fN),(.int .i64 z4B.fD)]))]) Try.func40 rfl Try.ntmps40 rfl (Hp.nil w₀ _) rfl ?_
  refine WC.b (WC.a ?_)
  refine WL.new (dd:=4) rfl rfl rfl (yI (cs:=[(.int .i64 z4A.fN),(.int .i64 z4A.fD)]) rfl rfl) ?_
  intro zc9 _
  refine WL.new (dd:=5) rfl rfl rfl (yI (cs:=[(.int .i64 z4B.fN),(.int .i64 z4B.fD)]) rfl rfl) ?_
  intro zca _
  refine WL.new (dd:=6) rfl rfl rfl (yh (cs:=[(.int .i64 0),(.int .i64 0)]) ym rfl) ?_
  intro zy8 _
  refine WL.pu rfl (WL.nil (WX.a (WC.b (WC.b ?_))))
  obtain ⟨zll,zqI,h⟩:=z8 h
  obtain ⟨zed,zln,h⟩:=z8 h
  refine WC.a ?_
  refine WL.a (d:=9) rfl rfl rfl (y7 y4 rfl (y6 .h2) rfl) ?_
  refine WL.b (dd:=10) rfl rfl rfl (ze (l:=[.tmp 9]) Try.call39 (.cons rfl .nil)) .nil (cc hz .nil fun w pz ho=>y1A _ _ _ zqI w pz ) ?_
  refine WL.pu rfl (WL.pu rfl ?_)
  refine WL.seg false 3 12 (B:=zed) rfl rfl rfl rfl rfl rfl (fun h=>(Option.some.inj (ye zln h)).symm) (fun _ zqJ=>?_) ?_
  · skip
    have zcb:=yf zln zqJ
    obtain ⟨zlm,zqK,zcb⟩:=z8 zcb
    replace zcb:=Option.some.inj zcb
    refine WL.a (d:=13) rfl rfl rfl (y7 y4 rfl (y6 .h1) rfl) ?_
    refine WL.b (dd:=14) rfl rfl rfl (ze (l:=[.tmp 13]) Try.call39 (.cons rfl .nil)) .nil (cc hz .nil fun w pz ho=>y1A _ _ _ zqK w pz ) ?_
    refine WL.pu rfl (WL.pu rfl ?_)
    exact WL.yy zcb rfl rfl .all
  refine WL.pu rfl ?_
  refine WL.seg false 7 17 (B:=zed) rfl rfl rfl rfl rfl rfl (fun h=>h) (fun _ zqL=>?_) ?_
  · skip
    refine WL.pu rfl ?_
    refine WL.a (d:=19) rfl rfl rfl (y7I (r:=false) (by decide) rfl rfl) ?_
    refine WL.pu rfl (WL.e rfl rfl rfl (WL.e rfl rfl rfl (WL.e rfl rfl rfl (WL.pu rfl (WL.pu rfl ?_)))))
    exact WL.yy (Eq.symm zqL) rfl rfl .all
  refine WL.nil (WX.a ?_)
  refine WC.cond rfl (fun zgz=>?_) (fun zgz=>?_)
  · replace h:=ye h zgz
    refine WC.b (WC.a ?_)
    refine WL.a (d:=26) rfl rfl rfl (yV (v:=(.agg #[(.int .i64 0),(.int .i64 0)])) (Eos.parts (l:=[]) .nil []) (fun _=>by kernel_rfl)) ?_
    refine WL.ya rfl rfl (y9 yj rfl rfl rfl .here rfl rfl rfl) ?_
    refine WL.pu rfl (WL.nil (WX.a (WC.ret (WX.y5 ?_))))
    obtain rfl:=Option.some.inj h
    refine WX.y8 Try.results40 (.agg rfl y4 rfl (y6 .here) (.tmp rfl .nil)) (fun w hw=>?_)
    exact ⟨y1H rfl rfl,hw.sub .nil⟩
  · replace h:=yf h zgz
    refine WC.skip (WX.a (WC.b (WC.a ?_)))
    refine WL.new (dd:=27) rfl rfl rfl (y6t Value.string (fun x=>x)) ?_
    intro zy9 _
    refine WL.a (d:=28) rfl rfl rfl (y1b (Eos.caps (l:=[.tmp 4,.tmp 5]) (.cons rfl (.cons rfl .nil)))) ?_
    refine WL.ya rfl rfl (y29 (k:=⟨#[43]⟩) (v:=(.func (.func 54) #[] #[(.pointer (some ⟨zc9,0,none⟩)),(.pointer (some ⟨zca,0,none⟩))])) y2m Try.underlying105 rfl rfl rfl rfl .here) ?_
    refine WL.a (d:=29) rfl rfl rfl (y1b (Eos.caps (l:=[.tmp 4,.tmp 5]) (.cons rfl (.cons rfl .nil)))) ?_
    refine WL.ya rfl rfl (y29 (k:=⟨#[45]⟩) (v:=(.func (.func 55) #[] #[(.pointer (some ⟨zc9,0,none⟩)),(.pointer (some ⟨zca,0,none⟩))])) y2m Try.underlying105 rfl rfl rfl rfl .here) ?_
    refine WL.a (d:=30) rfl rfl rfl (y1b (Eos.caps (l:=[.tmp 4,.tmp 5]) (.cons rfl (.cons rfl .nil)))) ?_
    refine WL.ya rfl rfl (y29 (k:=⟨#[42]⟩) (v:=(.func (.func 56) #[] #[(.pointer (some ⟨zc9,0,none⟩)),(.pointer (some ⟨zca,0,none⟩))])) y2m Try.underlying105 rfl rfl rfl rfl .here) ?_
    refine WL.a (d:=31) rfl rfl rfl (y1b (Eos.caps (l:=[.tmp 4,.tmp 5]) (.cons rfl (.cons rfl .nil)))) ?_
    refine WL.ya rfl rfl (y29 (k:=⟨#[47]⟩) (v:=(.func (.func 57) #[] #[(.pointer (some ⟨zc9,0,none⟩)),(.pointer (some ⟨zca,0,none⟩))])) y2m Try.underlying105 rfl rfl rfl rfl .here) ?_
    refine WL.pu rfl (WL.pu rfl (WL.nil (WX.a (WC.b ?_))))
    obtain ⟨zgx,zqM,h⟩:=z8 h
    obtain ⟨zgy,zqN,h⟩:=z8 h
    refine WC.a (WL.pu rfl (WL.pu rfl ?_))
    refine WL.a (d:=35) rfl rfl rfl (y7H (k:=⟨#[45]⟩) (dflt:=.nilFunc) (r:=(.func (.func 55) #[] #[(.pointer (some ⟨zc9,0,none⟩)),(.pointer (some ⟨zca,0,none⟩))])) y2m Try.underlying105 zdQ rfl rfl rfl .here (by rfl)) ?_
    refine WL.b (dd:=36) rfl rfl rfl (y1R (l:=[]) Try.call55 rfl .nil) .nil (ccl hz .nil (.cons .h3 (.cons .h2 .nil)) fun w pz ho la=>yar _ _ _ _ _ _ zqM w pz ((la _ (.head _) _).stb) ((la _ (.tail _ (.head _)) _).stb)) ?_
    refine WL.pu rfl (WL.pu rfl ?_)
    refine WL.b (dd:=39) rfl rfl rfl (ze (l:=[.tmp 37,.tmp 38]) Try.call9 (.cons rfl (.cons rfl .nil))) .nil (cc hz .nil fun w pz ho=>y3e _ _ _ _ zqN w pz ) ?_
    refine WL.pu rfl (WL.pu rfl ?_)
    refine WL.ya rfl rfl (y9 yj rfl rfl rfl .h1 rfl rfl rfl) ?_
    refine WL.pu rfl (WL.nil (WX.a (WC.ret ?_)))
    obtain rfl:=Option.some.inj h
    refine WX.y8 Try.results40 (.agg rfl y4 rfl (y6 .here) (.tmp rfl .nil)) (fun w hw=>?_)
    exact ⟨y1H rfl rfl,hw.sub .nil⟩
def y1y (z57 : z2) (z58 : z2) : Option (z2 × Int) :=
  (y72 z57 z58).bind fun zgA=>some (zgA.1,zgA.2)
set_option maxRecDepth 20000 in
theorem y5j (Z : Zp)  (z57 : z2) (z58 : z2) (r : z2 × Int)
     (h : y1y z57 z58 = some r) (w₀ : World) (hz : PZ [] w₀ Z) :
    Calls Try.prog 24 #[(.agg #[(.int .i64 z57.fN),(.int .i64 z57.fD)]),(.agg #[(.int .i64 z58.fN),(.int .i64 z58.fD)])] w₀ fun e w'=>e = .returned (.tuple #[(.agg #[(.int .i64 r.1.fN),(.int .i64 r.1.fD)]),(.int .i64 r.2)]) ∧ Hp [] w₀ w' []:=by
  unfold y1y at h
  refine Calls.yc (vs:=[(.agg #[(.int .i64 z57.fN),(.int .i64 z57.fD)]),(.agg #[(.int .i64 z58.fN),(.int .i64 z58.fD)])]) (pre:=[]) (env:=[(0,(.agg #[(.int .i64 z57.fN),(.int .i64 z57.fD)])),(1,(.agg #[(.int .i64 z58.fN),(.int .i64 z58.fD)]))]) Try.func24 rfl Try.ntmps24 rfl (Hp.nil w₀ _) rfl ?_
  refine WC.b (WC.a ?_)
  refine WL.new (dd:=2) rfl rfl rfl (yI (cs:=[(.int .i64 z57.fN),(.int .i64 z57.fD)]) rfl rfl) ?_
  intro zya _
  refine WL.new (dd:=3) rfl rfl rfl (yI (cs:=[(.int .i64 z58.fN),(.int .i64 z58.fD)]) rfl rfl) ?_
  intro zyb _
  refine WL.new (dd:=4) rfl rfl rfl (yh (cs:=[(.int .i64 0),(.int .i64 0)]) ym rfl) ?_
  intro zyc _
  refine WL.pu rfl (WL.nil (WX.a (WC.b ?_)))
  obtain ⟨zgA,zqO,h⟩:=z8 h
  refine WC.a ?_
  refine WL.a (d:=6) rfl rfl rfl (y7 y4 rfl (y6 .h2) rfl) ?_
  refine WL.a (d:=7) rfl rfl rfl (y7 y4 rfl (y6 .h1) rfl) ?_
  refine WL.b (dd:=8) rfl rfl rfl (ze (l:=[.const (.string ⟨#[45]⟩),.tmp 6,.tmp 7]) Try.call40 (.cons rfl (.cons rfl (.cons rfl .nil)))) .nil (cc hz .nil fun w pz ho=>w_rat_do _ _ _ _ zqO w pz ) ?_
  refine WL.pu rfl (WL.pu rfl ?_)
  refine WL.ya rfl rfl (y9 yj rfl rfl rfl .here rfl rfl rfl) ?_
  refine WL.pu rfl (WL.nil (WX.a (WC.ret ?_)))
  obtain rfl:=Option.some.inj h
  refine WX.y8 Try.results24 (.agg rfl y4 rfl (y6 .here) (.tmp rfl .nil)) (fun w hw=>?_)
  exact ⟨y1H rfl rfl,hw.sub .nil⟩
def y1j (z6m : zX) (z6n : z2 → z2 → Option (z2 × Int)) (z4C : z2) (z4D : z2) : Option (z2 × zX) :=
  if decide (z6m.fE ≠ 0) then some ((⟨0,0⟩ : z2),z6m) else (z6n z4C z4D).bind fun zee=>some (zee.1,(⟨zee.2⟩ : zX))
set_option maxRecDepth 20000 in
theorem y3f (Z : Zp) (z6o : Nat) (z4E : FuncId) (z5A : List Value) (z6m : zX) (z6n : z2 → z2 → Option (z2 × Int)) (z4C : z2) (z4D : z2) (r : z2 × zX)
     (h : y1j z6m z6n z4C z4D = some r) (w₀ : World) (hz : PZ (fps [stb z6o 90 [(.int .i64 z6m.fE)]]) w₀ Z)
     (zqP : ∀ args w,(callFunc z4E args).run Try.prog w = .ok (.enter z4E args) w)
     (zqQ : ∀ w : World,PZ [] w Z → ∀ (x0 : z2) (x1 : z2) (r : z2 × Int),z6n x0 x1 = some r → Calls Try.prog z4E (([(.agg #[(.int .i64 x0.fN),(.int .i64 x0.fD)]),(.agg #[(.int .i64 x1.fN),(.int .i64 x1.fD)])] : List Value) ++ z5A).toArray w fun e w'=>e = .returned (.tuple #[(.agg #[(.int .i64 r.1.fN),(.int .i64 r.1.fD)]),(.int .i64 r.2)]) ∧ Hp [] w w' [])
    (hown : Hp (fps [stb z6o 90 [(.int .i64 z6m.fE)]]) w₀ w₀ [stb z6o 90 [(.int .i64 z6m.fE)]]) :
    Calls Try.prog 58 #[(.pointer (some ⟨z6o,0,none⟩)),(.func (.func z4E) #[] (z5A).toArray),(.agg #[(.int .i64 z4C.fN),(.int .i64 z4C.fD)]),(.agg #[(.int .i64 z4D.fN),(.int .i64 z4D.fD)])] w₀ fun e w'=>e = .returned (.agg #[(.int .i64 r.1.fN),(.int .i64 r.1.fD)]) ∧ Hp (fps [stb z6o 90 [(.int .i64 z6m.fE)]]) w₀ w' [stb z6o 90 [(.int .i64 r.2.fE)]]:=by
  unfold y1j at h
  refine Calls.yc (vs:=[(.pointer (some ⟨z6o,0,none⟩)),(.func (.func z4E) #[] (z5A).toArray),(.agg #[(.int .i64 z4C.fN),(.int .i64 z4C.fD)]),(.agg #[(.int .i64 z4D.fN),(.int .i64 z4D.fD)])]) (pre:=[stb z6o 90 [(.int .i64 z6m.fE)]]) (env:=[(0,(.pointer (some ⟨z6o,0,none⟩))),(1,(.func (.func z4E) #[] (z5A).toArray)),(2,(.agg #[(.int .i64 z4C.fN),(.int .i64 z4C.fD)])),(3,(.agg #[(.int .i64 z4D.fN),(.int .i64 z4D.fD)]))]) Try.func58 rfl Try.ntmps58 rfl (hown) rfl ?_
  refine WC.b (WC.a ?_)
  refine WL.new (dd:=6) rfl rfl rfl (yI (cs:=[(.int .i64 z4C.fN),(.int .i64 z4C.fD)]) rfl rfl) ?_
  intro zyd _
  refine WL.new (dd:=7) rfl rfl rfl (yI (cs:=[(.int .i64 z4D.fN),(.int .i64 z4D.fD)]) rfl rfl) ?_
  intro zye _
  refine WL.new (dd:=8) rfl rfl rfl (yh (cs:=[(.int .i64 0),(.int .i64 0)]) ym rfl) ?_
  intro zyf _
  refine WL.nil (WX.a (WC.b (WC.b (WC.a (WL.pu rfl ?_)))))
  refine WL.a (d:=12) rfl rfl rfl (y43 rfl) ?_
  refine WL.a (d:=13) rfl rfl rfl (y3 y5S rfl rfl) ?_
  refine WL.a (d:=14) rfl rfl rfl (yb y2B rfl (yq .h3 rfl)) ?_
  refine WL.pu rfl (WL.nil (WX.a ?_))
  refine WC.cond rfl (fun zgB=>?_) (fun zgB=>?_)
  · replace h:=ye h zgB
    refine WC.b (WC.a ?_)
    refine WL.a (d:=16) rfl rfl rfl (yV (v:=(.agg #[(.int .i64 0),(.int .i64 0)])) (Eos.parts (l:=[]) .nil []) (fun _=>by kernel_rfl)) ?_
    refine WL.ya rfl rfl (y9 yj rfl rfl rfl .here rfl rfl rfl) ?_
    refine WL.nil (WX.a (WC.ret (WX.y5 ?_)))
    obtain rfl:=Option.some.inj h
    refine WX.y8 Try.results58 (.agg rfl y4 rfl (y6 .here) .nil) (fun w hw=>?_)
    exact ⟨yG rfl,hw.sub (.cons .h3 .nil)⟩
  · replace h:=yf h zgB
    refine WC.skip (WX.a (WC.b ?_))
    obtain ⟨zee,zqR,h⟩:=z8 h
    refine WC.a (WL.pu rfl ?_)
    refine WL.a (d:=19) rfl rfl rfl (y7 y4 rfl (y6 .h2) rfl) ?_
    refine WL.a (d:=20) rfl rfl rfl (y7 y4 rfl (y6 .h1) rfl) ?_
    refine WL.b (dd:=21) rfl rfl rfl (y1R (l:=[.tmp 19,.tmp 20]) (f:=z4E) (caps:=z5A) zqP rfl (.cons rfl (.cons rfl .nil))) .nil (fun w hw=>zqQ w (hz.now hw) z4C z4D zee  zqR) ?_
    refine WL.pu rfl (WL.pu rfl (WL.pu rfl ?_))
    refine WL.new (dd:=9) rfl rfl rfl (yh (cs:=[(.int .i64 0),(.int .i64 0)]) ym rfl) ?_
    intro zyg _
    refine WL.ya rfl rfl (y9 yj rfl rfl rfl .here rfl rfl rfl) ?_
    refine WL.pu rfl (WL.nil (WX.a (WC.b (WC.a (WL.pu rfl (WL.pu rfl ?_))))))
    refine WL.a (d:=26) rfl rfl rfl (y43 rfl) ?_
    refine WL.a (d:=27) rfl rfl rfl (y3 y5S rfl rfl) ?_
    refine WL.ya rfl rfl (y9 y8J rfl rfl rfl .h4 rfl rfl rfl) ?_
    refine WL.nil (WX.a (WC.b (WC.a ?_)))
    refine WL.a (d:=28) rfl rfl rfl (y7 y4 rfl (y6 .h1) rfl) ?_
    refine WL.ya rfl rfl (y9 yj rfl rfl rfl .h2 rfl rfl rfl) ?_
    refine WL.nil (WX.a (WC.ret ?_))
    obtain rfl:=Option.some.inj h
    refine WX.y8 Try.results58 (.agg rfl y4 rfl (y6 .here) .nil) (fun w hw=>?_)
    exact ⟨yG rfl,hw.sub (.cons .h1 .nil)⟩
def y5E (zab : z2) (zac : z2) : Option (Int × Int) :=
  some ((i64 (zab.fN * zac.fD)),(i64 (zab.fD * zac.fN)))
set_option maxRecDepth 20000 in
theorem yas (Z : Zp) (zef : Addr) (zeg : Addr) (zab : z2) (zac : z2) (r : Int × Int)
     (h : y5E zab zac = some r) (w₀ : World) (hz : PZ [] w₀ Z)
     (zlo : ZC Z zef [(.int .i64 zab.fN),(.int .i64 zab.fD)])
     (zlp : ZC Z zeg [(.int .i64 zac.fN),(.int .i64 zac.fD)]) :
    Calls Try.prog 57 #[(.pointer (some zef)),(.pointer (some zeg))] w₀ fun e w'=>e = .returned (.tuple #[(.int .i64 r.1),(.int .i64 r.2)]) ∧ Hp [] w₀ w' []:=by
  unfold y5E at h
  refine Calls.yc (vs:=[(.pointer (some zef)),(.pointer (some zeg))]) (pre:=[]) (env:=[(0,(.pointer (some zef))),(1,(.pointer (some zeg)))]) Try.func57 rfl Try.ntmps57 rfl (Hp.nil w₀ _) rfl ?_
  refine WC.b (WC.a (WL.pu rfl (WL.pu rfl (WL.nil (WX.a (WC.b ?_))))))
  refine WC.y1g (fun i=>[].contains i) [] rfl ?_
  refine WD.a (i:=0) (d:=4) (by kernel_rfl) rfl (z6 (by kernel_rfl)) (z7 (by kernel_rfl)) rfl rfl rfl (fun _=>y3 y1K rfl rfl) ?_
  refine WD.e (i:=1) (d:=5) (by kernel_rfl) rfl (z6 (by kernel_rfl)) (z7 (by kernel_rfl)) rfl rfl rfl (yb yu rfl (y1I hz.pv zlo rfl)) ?_
  refine WD.a (i:=2) (d:=6) (by kernel_rfl) rfl (z6 (by kernel_rfl)) (z7 (by kernel_rfl)) rfl rfl rfl (fun _=>y3 y1W rfl rfl) ?_
  refine WD.e (i:=3) (d:=7) (by kernel_rfl) rfl (z6 (by kernel_rfl)) (z7 (by kernel_rfl)) rfl rfl rfl (yb yu rfl (y1I hz.pv zlp rfl)) ?_
  refine WD.a (i:=4) (d:=8) (by kernel_rfl) rfl (z6 (by kernel_rfl)) (z7 (by kernel_rfl)) rfl rfl rfl (fun _=>y44 rfl rfl rfl) ?_
  refine WD.a (i:=5) (d:=9) (by kernel_rfl) rfl (z6 (by kernel_rfl)) (z7 (by kernel_rfl)) rfl rfl rfl (fun _=>y3 y1W rfl rfl) ?_
  refine WD.e (i:=6) (d:=10) (by kernel_rfl) rfl (z6 (by kernel_rfl)) (z7 (by kernel_rfl)) rfl rfl rfl (yb yu rfl (y1I hz.pv zlo rfl)) ?_
  refine WD.a (i:=7) (d:=11) (by kernel_rfl) rfl (z6 (by kernel_rfl)) (z7 (by kernel_rfl)) rfl rfl rfl (fun _=>y3 y1K rfl rfl) ?_
  refine WD.e (i:=8) (d:=12) (by kernel_rfl) rfl (z6 (by kernel_rfl)) (z7 (by kernel_rfl)) rfl rfl rfl (yb yu rfl (y1I hz.pv zlp rfl)) ?_
  refine WD.a (i:=9) (d:=13) (by kernel_rfl) rfl (z6 (by kernel_rfl)) (z7 (by kernel_rfl)) rfl rfl rfl (fun _=>y44 rfl rfl rfl) ?_
  refine WD.a (i:=10) (d:=2) (by kernel_rfl) rfl (z6 (by kernel_rfl)) (z7 (by kernel_rfl)) rfl rfl rfl (fun _=>q_z rfl) ?_
  refine WD.a (i:=11) (d:=3) (by kernel_rfl) rfl (z6 (by kernel_rfl)) (z7 (by kernel_rfl)) rfl rfl rfl (fun _=>q_z rfl) ?_
  refine WD.done (by kernel_rfl) ?_
  refine WX.a (WC.ret ?_)
  obtain rfl:=Option.some.inj h
  refine WX.y8 Try.results57 (.tmp rfl (.tmp rfl .nil)) (fun w hw=>?_)
  exact ⟨y1H rfl rfl,hw.sub .nil⟩
def y6u (z4F : z2) (z3T : z2) : Option (z2 × Int) :=
  (y1f z4F).bind fun zlq=>(if !zlq then some true else (y1f z3T).bind fun zlr=>some (!zlr)).bind fun zeh=>if zeh || (decide (z3T.fN = 0)) then some ((⟨0,0⟩ : z2),2) else (y5E z4F z3T).bind fun zgC=>(y1U zgC.1 zgC.2).bind fun zgD=>some (zgD.1,zgD.2)
set_option maxRecDepth 20000 in
theorem yaM (Z : Zp)  (z4F : z2) (z3T : z2) (r : z2 × Int)
     (h : y6u z4F z3T = some r) (w₀ : World) (hz : PZ [] w₀ Z) :
    Calls Try.prog 40 #[(.string ⟨#[47]⟩),(.agg #[(.int .i64 z4F.fN),(.int .i64 z4F.fD)]),(.agg #[(.int .i64 z3T.fN),(.int .i64 z3T.fD)])] w₀ fun e w'=>e = .returned (.tuple #[(.agg #[(.int .i64 r.1.fN),(.int .i64 r.1.fD)]),(.int .i64 r.2)]) ∧ Hp [] w₀ w' []:=by
  unfold y6u at h
  refine Calls.yc (vs:=[(.string ⟨#[47]⟩),(.agg #[(.int .i64 z4F.fN),(.int .i64 z4F.fD)]),(.agg #[(.int .i64 z3T.fN),(.int .i64 z3T.fD)])]) (pre:=[]) (env:=[(0,(.string ⟨#[47]⟩)),(1,(.agg #[(.int .i64 z4F.fN),(.int .i64 z4F.fD)])),(2,(.agg #[(.int .i64 z3T.fN),(.int .i64 z3T.fD)]))]) Try.func40 rfl Try.ntmps40 rfl (Hp.nil w₀ _) rfl ?_
  refine WC.b (WC.a ?_)
  refine WL.new (dd:=4) rfl rfl rfl (yI (cs:=[(.int .i64 z4F.fN),(.int .i64 z4F.fD)]) rfl rfl) ?_
  intro zcc _
  refine WL.new (dd:=5) rfl rfl rfl (yI (cs:=[(.int .i64 z3T.fN),(.int .i64 z3T.fD)]) rfl rfl) ?_
  intro zcd _
  refine WL.new (dd:=6) rfl rfl rfl (yh (cs:=[(.int .i64 0),(.int .i64 0)]) ym rfl) ?_
  intro zyh _
  refine WL.pu rfl (WL.nil (WX.a (WC.b (WC.b ?_))))
  obtain ⟨zlq,zqS,h⟩:=z8 h
  obtain ⟨zeh,zls,h⟩:=z8 h
  refine WC.a ?_
  refine WL.a (d:=9) rfl rfl rfl (y7 y4 rfl (y6 .h2) rfl) ?_
  refine WL.b (dd:=10) rfl rfl rfl (ze (l:=[.tmp 9]) Try.call39 (.cons rfl .nil)) .nil (cc hz .nil fun w pz ho=>y1A _ _ _ zqS w pz ) ?_
  refine WL.pu rfl (WL.pu rfl ?_)
  refine WL.seg false 3 12 (B:=zeh) rfl rfl rfl rfl rfl rfl (fun h=>(Option.some.inj (ye zls h)).symm) (fun _ zqT=>?_) ?_
  · skip
    have zce:=yf zls zqT
    obtain ⟨zlr,zqU,zce⟩:=z8 zce
    replace zce:=Option.some.inj zce
    refine WL.a (d:=13) rfl rfl rfl (y7 y4 rfl (y6 .h1) rfl) ?_
    refine WL.b (dd:=14) rfl rfl rfl (ze (l:=[.tmp 13]) Try.call39 (.cons rfl .nil)) .nil (cc hz .nil fun w pz ho=>y1A _ _ _ zqU w pz ) ?_
    refine WL.pu rfl (WL.pu rfl ?_)
    exact WL.yy zce rfl rfl .all
  refine WL.pu rfl ?_
  refine WL.seg false 7 17 (B:=zeh || (decide (z3T.fN = 0))) rfl rfl rfl rfl rfl rfl (fun h=>(y4X h).symm) (fun _ zqV=>?_) ?_
  · skip
    refine WL.pu rfl ?_
    refine WL.a (d:=19) rfl rfl rfl (y7I (r:=true) (by decide) rfl rfl) ?_
    refine WL.pu rfl ?_
    refine WL.a (d:=21) rfl rfl rfl (y3 y1K rfl rfl) ?_
    refine WL.a (d:=22) rfl rfl rfl (yb yu rfl (yq .h1 rfl)) ?_
    refine WL.pu rfl (WL.pu rfl (WL.pu rfl ?_))
    exact WL.yy (y4Y zqV) rfl rfl .all
  refine WL.nil (WX.a ?_)
  refine WC.cond rfl (fun zgE=>?_) (fun zgE=>?_)
  · replace h:=ye h zgE
    refine WC.b (WC.a ?_)
    refine WL.a (d:=26) rfl rfl rfl (yV (v:=(.agg #[(.int .i64 0),(.int .i64 0)])) (Eos.parts (l:=[]) .nil []) (fun _=>by kernel_rfl)) ?_
    refine WL.ya rfl rfl (y9 yj rfl rfl rfl .here rfl rfl rfl) ?_
    refine WL.pu rfl (WL.nil (WX.a (WC.ret (WX.y5 ?_))))
    obtain rfl:=Option.some.inj h
    refine WX.y8 Try.results40 (.agg rfl y4 rfl (y6 .here) (.tmp rfl .nil)) (fun w hw=>?_)
    exact ⟨y1H rfl rfl,hw.sub .nil⟩
  · replace h:=yf h zgE
    refine WC.skip (WX.a (WC.b (WC.a ?_)))
    refine WL.new (dd:=27) rfl rfl rfl (y6t Value.string (fun x=>x)) ?_
    intro zyi _
    refine WL.a (d:=28) rfl rfl rfl (y1b (Eos.caps (l:=[.tmp 4,.tmp 5]) (.cons rfl (.cons rfl .nil)))) ?_
    refine WL.ya rfl rfl (y29 (k:=⟨#[43]⟩) (v:=(.func (.func 54) #[] #[(.pointer (some ⟨zcc,0,none⟩)),(.pointer (some ⟨zcd,0,none⟩))])) y2m Try.underlying105 rfl rfl rfl rfl .here) ?_
    refine WL.a (d:=29) rfl rfl rfl (y1b (Eos.caps (l:=[.tmp 4,.tmp 5]) (.cons rfl (.cons rfl .nil)))) ?_
    refine WL.ya rfl rfl (y29 (k:=⟨#[45]⟩) (v:=(.func (.func 55) #[] #[(.pointer (some ⟨zcc,0,none⟩)),(.pointer (some ⟨zcd,0,none⟩))])) y2m Try.underlying105 rfl rfl rfl rfl .here) ?_
    refine WL.a (d:=30) rfl rfl rfl (y1b (Eos.caps (l:=[.tmp 4,.tmp 5]) (.cons rfl (.cons rfl .nil)))) ?_
    refine WL.ya rfl rfl (y29 (k:=⟨#[42]⟩) (v:=(.func (.func 56) #[] #[(.pointer (some ⟨zcc,0,none⟩)),(.pointer (some ⟨zcd,0,none⟩))])) y2m Try.underlying105 rfl rfl rfl rfl .here) ?_
    refine WL.a (d:=31) rfl rfl rfl (y1b (Eos.caps (l:=[.tmp 4,.tmp 5]) (.cons rfl (.cons rfl .nil)))) ?_
    refine WL.ya rfl rfl (y29 (k:=⟨#[47]⟩) (v:=(.func (.func 57) #[] #[(.pointer (some ⟨zcc,0,none⟩)),(.pointer (some ⟨zcd,0,none⟩))])) y2m Try.underlying105 rfl rfl rfl rfl .here) ?_
    refine WL.pu rfl (WL.pu rfl (WL.nil (WX.a (WC.b ?_))))
    obtain ⟨zgC,zqW,h⟩:=z8 h
    obtain ⟨zgD,zqX,h⟩:=z8 h
    refine WC.a (WL.pu rfl (WL.pu rfl ?_))
    refine WL.a (d:=35) rfl rfl rfl (y7H (k:=⟨#[47]⟩) (dflt:=.nilFunc) (r:=(.func (.func 57) #[] #[(.pointer (some ⟨zcc,0,none⟩)),(.pointer (some ⟨zcd,0,none⟩))])) y2m Try.underlying105 zdQ rfl rfl rfl .here (by rfl)) ?_
    refine WL.b (dd:=36) rfl rfl rfl (y1R (l:=[]) Try.call57 rfl .nil) .nil (ccl hz .nil (.cons .h3 (.cons .h2 .nil)) fun w pz ho la=>yas _ _ _ _ _ _ zqW w pz ((la _ (.head _) _).stb) ((la _ (.tail _ (.head _)) _).stb)) ?_
    refine WL.pu rfl (WL.pu rfl ?_)
    refine WL.b (dd:=39) rfl rfl rfl (ze (l:=[.tmp 37,.tmp 38]) Try.call9 (.cons rfl (.cons rfl .nil))) .nil (cc hz .nil fun w pz ho=>y3e _ _ _ _ zqX w pz ) ?_
    refine WL.pu rfl (WL.pu rfl ?_)
    refine WL.ya rfl rfl (y9 yj rfl rfl rfl .h1 rfl rfl rfl) ?_
    refine WL.pu rfl (WL.nil (WX.a (WC.ret ?_)))
    obtain rfl:=Option.some.inj h
    refine WX.y8 Try.results40 (.agg rfl y4 rfl (y6 .here) (.tmp rfl .nil)) (fun w hw=>?_)
    exact ⟨y1H rfl rfl,hw.sub .nil⟩
def y2I (z59 : z2) (z5a : z2) : Option (z2 × Int) :=
  (y6u z59 z5a).bind fun zgF=>some (zgF.1,zgF.2)
set_option maxRecDepth 20000 in
theorem y91 (Z : Zp)  (z59 : z2) (z5a : z2) (r : z2 × Int)
     (h : y2I z59 z5a = some r) (w₀ : World) (hz : PZ [] w₀ Z) :
    Calls Try.prog 34 #[(.agg #[(.int .i64 z59.fN),(.int .i64 z59.fD)]),(.agg #[(.int .i64 z5a.fN),(.int .i64 z5a.fD)])] w₀ fun e w'=>e = .returned (.tuple #[(.agg #[(.int .i64 r.1.fN),(.int .i64 r.1.fD)]),(.int .i64 r.2)]) ∧ Hp [] w₀ w' []:=by
  unfold y2I at h
  refine Calls.yc (vs:=[(.agg #[(.int .i64 z59.fN),(.int .i64 z59.fD)]),(.agg #[(.int .i64 z5a.fN),(.int .i64 z5a.fD)])]) (pre:=[]) (env:=[(0,(.agg #[(.int .i64 z59.fN),(.int .i64 z59.fD)])),(1,(.agg #[(.int .i64 z5a.fN),(.int .i64 z5a.fD)]))]) Try.func34 rfl Try.ntmps34 rfl (Hp.nil w₀ _) rfl ?_
  refine WC.b (WC.a ?_)
  refine WL.new (dd:=2) rfl rfl rfl (yI (cs:=[(.int .i64 z59.fN),(.int .i64 z59.fD)]) rfl rfl) ?_
  intro zyj _
  refine WL.new (dd:=3) rfl rfl rfl (yI (cs:=[(.int .i64 z5a.fN),(.int .i64 z5a.fD)]) rfl rfl) ?_
  intro zyk _
  refine WL.new (dd:=4) rfl rfl rfl (yh (cs:=[(.int .i64 0),(.int .i64 0)]) ym rfl) ?_
  intro zyl _
  refine WL.pu rfl (WL.nil (WX.a (WC.b ?_)))
  obtain ⟨zgF,zqY,h⟩:=z8 h
  refine WC.a ?_
  refine WL.a (d:=6) rfl rfl rfl (y7 y4 rfl (y6 .h2) rfl) ?_
  refine WL.a (d:=7) rfl rfl rfl (y7 y4 rfl (y6 .h1) rfl) ?_
  refine WL.b (dd:=8) rfl rfl rfl (ze (l:=[.const (.string ⟨#[47]⟩),.tmp 6,.tmp 7]) Try.call40 (.cons rfl (.cons rfl (.cons rfl .nil)))) .nil (cc hz .nil fun w pz ho=>yaM _ _ _ _ zqY w pz ) ?_
  refine WL.pu rfl (WL.pu rfl ?_)
  refine WL.ya rfl rfl (y9 yj rfl rfl rfl .here rfl rfl rfl) ?_
  refine WL.pu rfl (WL.nil (WX.a (WC.ret ?_)))
  obtain rfl:=Option.some.inj h
  refine WX.y8 Try.results34 (.agg rfl y4 rfl (y6 .here) (.tmp rfl .nil)) (fun w hw=>?_)
  exact ⟨y1H rfl rfl,hw.sub .nil⟩
theorem srtA_90 : ∀ w,(isAgg (Try.y2c.t 24)).run Try.prog w = .ok true w:=fun _=>by kernel_rfl
theorem srtZ_90 : ∀ w,(Go.sizeOf (Try.y2c.t 24)).run Try.prog w = .ok 2 w:=fun _=>by kernel_rfl
def y2p (z3c : List z2) (zcf : Int) (zcg : Int) (zad : Int) (z8Y : z2 → z2 → Option Int) : Option (List z2):=chk ((zcf = 0 ∧ zcg = ((z3c.length : Nat) : Int)) ∧ (0 ≤ zad ∧ zad < 4611686018427387904 ∧ z3c.length < 4611686018427387904)) (chk (ordB z8Y (y1o z8Y z3c) = true) (some (y1o z8Y z3c)))
theorem y4J (Z : Zp) (z8Z : Option Addr) (z90 : Nat) (zch : FuncId) (zgG : List Value) (z3c : List z2) (zcf : Int) (zcg : Int) (zad : Int) (z8Y : z2 → z2 → Option Int) (r : List z2) (w₀ : World) (hz : PZ (fps [row (.slice z8Z z3c.length z90) 30 2 (z3c.flatMap e30)]) w₀ Z)
    (zqZ : ∀ args w,(callFunc zch args).run Try.prog w = .ok (.enter zch args) w)
    (zr0 : ∀ w : World,PZ [] w Z → ∀ (x0 : z2) (x1 : z2) (r : Int),z8Y x0 x1 = some r → Calls Try.prog zch (([(.agg #[(.int .i64 x0.fN),(.int .i64 x0.fD)]),(.agg #[(.int .i64 x1.fN),(.int .i64 x1.fD)])] : List Value) ++ zgG).toArray w fun e w'=>e = .returned (.int .i64 r) ∧ Hp [] w w' [])
    (h : y2p z3c zcf zcg zad z8Y = some r) (hown : Hp (fps [row (.slice z8Z z3c.length z90) 30 2 (z3c.flatMap e30)]) w₀ w₀ [row (.slice z8Z z3c.length z90) 30 2 (z3c.flatMap e30)]) :
    Calls Try.prog 90 #[(.slice z8Z z3c.length z90),(.int .i64 zcf),(.int .i64 zcg),(.int .i64 zad),(.func (.func zch) #[] (zgG).toArray)] w₀ fun e w'=>e = .returned (.tuple #[]) ∧ (r.length = z3c.length) ∧ Hp (fps [row (.slice z8Z z3c.length z90) 30 2 (z3c.flatMap e30)]) w₀ w' [row (.slice z8Z r.length z90) 30 2 (r.flatMap e30)]:=by
  obtain ⟨h0,h⟩:=yk h
  obtain ⟨h1,h⟩:=yk h
  have hr:=(Option.some.inj h).symm
  exact y90 (P:=Try.prog) (f:=90) (e:=30) (k:=2) (enc:=e30) (fun _=>rfl) (by decide) y8n (fun β _ enc cf g cb hO blk off cap d0 w0 eg hC R=>Try.y5t 2 srtA_90 srtZ_90 enc cf g cb hO blk off cap d0 w0 eg hC R) (Try.y5i (α:=Unit)) hz zqZ zr0 h0 h1 hr hown
end Go.Proofs.Ytakfmdiiehcbdaa

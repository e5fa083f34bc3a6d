/- A part of this claim's proof: models of functions, walks, plain laws. No conditions. -/
import Derived.Test.YtjdnejbngloieaaDoorW26e
namespace Go.Proofs.YtjdnejbngloieaaDoor
open Go Go.RowKit Sep
set_option linter.all false
set_option maxRecDepth 30000
set_option maxHeartbeats 4000000
def yS (zN : List Int) (zQ : List Sapi_Ins) (zM : Int × Bool) (z44 : Int → Option Bool) : Nat → Int → Int → Option Bool
 | 0,_,_=>none
 | z9j + 1,z25,zJ=>if decide (zJ < ((zN.length : Nat) : Int)) then chk ((0 : Int) ≤ zJ ∧ zJ < ((zN.length : Nat) : Int)) ((y11 zQ (nth zN zJ)).bind fun z1H=>chk ((zM.2 && (!z1H.2)) = false → ((0 : Int) ≤ zJ ∧ zJ < ((zN.length : Nat) : Int))) (chk (((zM.2 && (!z1H.2)) || (decide ((nth zN zJ) < 0))) = false → ((0 : Int) ≤ zJ ∧ zJ < ((zN.length : Nat) : Int))) (chk ((((zM.2 && (!z1H.2)) || (decide ((nth zN zJ) < 0))) || (decide ((nth zN zJ) > ((zQ.length : Nat) : Int)))) = false → ((decide (zJ > 0)) = true → ((0 : Int) ≤ zJ ∧ zJ < ((zN.length : Nat) : Int)))) (chk ((((zM.2 && (!z1H.2)) || (decide ((nth zN zJ) < 0))) || (decide ((nth zN zJ) > ((zQ.length : Nat) : Int)))) = false → ((decide (zJ > 0)) = true → ((0 : Int) ≤ (i64 (zJ - 1)) ∧ (i64 (zJ - 1)) < ((zN.length : Nat) : Int)))) (if (((zM.2 && (!z1H.2)) || (decide ((nth zN zJ) < 0))) || (decide ((nth zN zJ) > ((zQ.length : Nat) : Int)))) || ((decide (zJ > 0)) && (decide ((nth zN zJ) ≤ (nth zN (i64 (zJ - 1)))))) then some false else yS zN zQ zM z44 z9j (max z25 z1H.1) (i64 (zJ + 1))))))) else z44 z25
theorem y3c {n : Nat} {zN : List Int} {zQ : List Sapi_Ins} {zM : Int × Bool} {z44 : Int → Option Bool} {z25 : Int} {zJ : Int} {r : Bool} (h : yS zN zQ zM z44 n z25 zJ = some r) : ∃ m,n = m + 1:=by
 cases n with
 | zero=>cases h
 | succ m=>exact ⟨m,rfl⟩
def y1N (zQ : List Sapi_Ins) (z1m : Int) : Option Bool :=
 (y2E).bind fun zcD=>if !zcD then some false else if decide (((zQ.length : Nat) : Int) > 24) then some true else (y11 zQ z1m).bind fun zM=>if (decide (z1m < 0)) || (decide (z1m ≥ ((zQ.length : Nat) : Int))) then (y1t zQ).bind fun z7G=>some ((zM.2 == (z7G && (decide (z1m = ((zQ.length : Nat) : Int))))) && (decide (zM.1 = 0))) else (y1d zQ z1m).bind fun zN=>(y1t zQ).bind fun zcE=>if !zcE then some ((!zM.2) && (decide (zM.1 = 0))) else jp1 (fun (z38 : Int)=>jp1 (fun (z45 : Int)=>some ((!zM.2) || (decide (zM.1 = (i64 (z45 + z38)))))) fun z7H=>chk ((0 : Int) ≤ z1m ∧ z1m < ((zQ.length : Nat) : Int)) (if decide (((nth zQ z1m).fOp) = 1) then chk ((0 : Int) ≤ z1m ∧ z1m < ((zQ.length : Nat) : Int)) (z7H ((nth zQ z1m).fA)) else z7H 1)) fun z44=>yS zN zQ zM z44 y1k 0 0
set_option maxRecDepth 20000 in
theorem y4V (Z : Zp) (z2J : Option Addr) (z2K : Nat) (zQ : List Sapi_Ins) (z1m : Int) (r : Bool)
  (h : y1N zQ z1m = some r) (w₀ : World) (hz : PZ [] w₀ Z)
  (hG0 : ZC Z ⟨0,0,none⟩ tabG0)
  (hG1 : ZS Z 1 (p74 Z) (some ⟨1,0,none⟩) 26 y18)
  (z5g : ZS Z 4 (fun r x=>r = e33 x) z2J z2K zQ) :
  Calls Tryd.prog 4 #[(.slice z2J zQ.length z2K),(.int .i64 z1m)] w₀ fun e w'=>∃ Zn : Zp,e = .returned (.bool r) ∧ True ∧ Hp [] w₀ w' [fz Zn]:=by
 unfold y1N at h
 refine Calls.y8 (vs:=[(.slice z2J zQ.length z2K),(.int .i64 z1m)]) (pre:=[]) (env:=[(0,(.slice z2J zQ.length z2K)),(1,(.int .i64 z1m))]) Tryd.func4 rfl Tryd.ntmps4 rfl (Hp.nil w₀ _) rfl ?_
 refine WC.pool (WC.b (WC.a (WL.pu rfl (WL.nil (WX.a (WC.b (WC.b ?_)))))))
 obtain ⟨zcD,zlA,h⟩:=zh h
 refine WC.a ?_
 refine WL.y6w (dd:=13) rfl rfl rfl (zI (l:=[]) Tryd.call9 .nil) .nil (ccz hz .nil .here fun w pz ho=>y5G _ _ zlA w pz (hG0.mono (Zle.left _ _)) ((hG1.mono (Zle.left _ _)).weak (fun _ _ h=>yE (Zle.left _ _) h))) ?_
 rintro z2T _
 refine WL.merge .here .here ?_
 refine WL.pu rfl (WL.nil (WX.a ?_))
 refine WC.cond rfl (fun z9k=>?_) (fun z9k=>?_)
 ·replace h:=ym h z9k
  refine WC.b (WC.a (WL.pu rfl (WL.nil (WX.a (WC.ret (WX.ya ?_))))))
  obtain rfl:=Option.some.inj h
  refine WX.ye Tryd.results4 (.tmp rfl .nil) (fun w hw=>?_)
  exact ⟨([] ++ z2T),yX rfl,trivial,hw.sub (.cons .here .nil)⟩
 ·replace h:=yn h z9k
  refine WC.skip (WX.a (WC.b (WC.b (WC.a (WL.pu rfl ?_)))))
  refine WL.a (d:=16) rfl rfl rfl (y1i Tryd.underlying22 rfl) ?_
  refine WL.pu rfl (WL.nil (WX.a ?_))
  refine WC.cond rfl (fun z9l=>?_) (fun z9l=>?_)
  ·replace h:=ym h z9l
   refine WC.b (WC.a (WL.pu rfl (WL.nil (WX.a (WC.ret (WX.ya ?_))))))
   obtain rfl:=Option.some.inj h
   refine WX.ye Tryd.results4 (.tmp rfl .nil) (fun w hw=>?_)
   exact ⟨([] ++ z2T),yX rfl,trivial,hw.sub (.cons .here .nil)⟩
  ·replace h:=yn h z9l
   refine WC.skip (WX.a (WC.b ?_))
   obtain ⟨zM,zlB,h⟩:=zh h
   refine WC.a (WL.pu rfl (WL.pu rfl ?_))
   refine WL.b (dd:=21) rfl rfl rfl (zI (l:=[.tmp 19,.tmp 20]) Tryd.call13 (.cons rfl (.cons rfl .nil))) .nil (ccz hz .nil .here fun w pz ho=>y25 _ _ _ _ _ _ zlB w pz ((hG1.mono ((Zle.left _ _).trans ((Zle.left _ _).trans (Zle.y5 _ _ _)))).weak (fun _ _ h=>yE ((Zle.left _ _).trans ((Zle.left _ _).trans (Zle.y5 _ _ _))) h)) (z5g.mono ((Zle.left _ _).trans ((Zle.left _ _).trans (Zle.y5 _ _ _))))) ?_
   refine WL.pu rfl (WL.pu rfl (WL.pu rfl (WL.pu rfl (WL.pu rfl (WL.nil (WX.a (WC.b (WC.b (WC.a (WL.pu rfl (WL.pu rfl (WL.pu rfl ?_))))))))))))
   refine WL.seg false 4 26 (B:=(decide (z1m < 0)) || (decide (z1m ≥ ((zQ.length : Nat) : Int)))) rfl rfl rfl rfl rfl rfl (fun h=>(or_l h).symm) (fun _ zlC=>?_) ?_
   ·skip
    refine WL.pu rfl (WL.pu rfl ?_)
    refine WL.a (d:=29) rfl rfl rfl (y1i Tryd.underlying22 rfl) ?_
    refine WL.pu rfl (WL.pu rfl ?_)
    exact WL.yz (or_r zlC) rfl rfl .all
   refine WL.nil (WX.a ?_)
   refine WC.cond rfl (fun z9m=>?_) (fun z9m=>?_)
   ·replace h:=ym h z9m
    refine WC.b ?_
    obtain ⟨z7G,zlD,h⟩:=zh h
    refine WC.a (WL.pu rfl (WL.pu rfl ?_))
    refine WL.b (dd:=34) rfl rfl rfl (zI (l:=[.tmp 33]) Tryd.call14 (.cons rfl .nil)) .nil (ccz hz .nil .here fun w pz ho=>y3o _ _ _ _ _ zlD w pz ((hG1.mono ((Zle.left _ _).trans ((Zle.left _ _).trans (Zle.y5 _ _ _)))).weak (fun _ _ h=>yE ((Zle.left _ _).trans ((Zle.left _ _).trans (Zle.y5 _ _ _))) h)) (z5g.mono ((Zle.left _ _).trans ((Zle.left _ _).trans (Zle.y5 _ _ _))))) ?_
    refine WL.pu rfl ?_
    refine WL.seg true 4 35 (B:=z7G && (decide (z1m = ((zQ.length : Nat) : Int)))) rfl rfl rfl rfl rfl rfl (fun h=>(y2w h).symm) (fun _ zlE=>?_) ?_
    ·skip
     refine WL.pu rfl (WL.pu rfl ?_)
     refine WL.a (d:=38) rfl rfl rfl (y1i Tryd.underlying22 rfl) ?_
     refine WL.pu rfl (WL.pu rfl ?_)
     exact WL.yz (y2x zlE) rfl rfl .all
    refine WL.a (d:=41) rfl rfl rfl (q_beql Tryd.underlying4 rfl rfl) ?_
    refine WL.pu rfl ?_
    refine WL.seg true 2 42 (B:=(zM.2 == (z7G && (decide (z1m = ((zQ.length : Nat) : Int))))) && (decide (zM.1 = 0))) rfl rfl rfl rfl rfl rfl (fun h=>(y2w h).symm) (fun _ zlF=>?_) ?_
    ·skip
     refine WL.pu rfl (WL.pu rfl (WL.pu rfl ?_))
     exact WL.yz (y2x zlF) rfl rfl .all
    refine WL.pu rfl (WL.nil (WX.a (WC.ret (WX.ya ?_))))
    obtain rfl:=Option.some.inj h
    refine WX.ye Tryd.results4 (.tmp rfl .nil) (fun w hw=>?_)
    exact ⟨([] ++ z2T),yX rfl,trivial,hw.sub (.cons .here .nil)⟩
   ·replace h:=yn h z9m
    refine WC.skip (WX.a (WC.b ?_))
    obtain ⟨zN,zlG,h⟩:=zh h
    refine WC.a (WL.pu rfl (WL.pu rfl ?_))
    refine WL.y4C (dd:=48) rfl rfl rfl (zI (l:=[.tmp 46,.tmp 47]) Tryd.call15 (.cons rfl (.cons rfl .nil))) .nil (ccz hz .nil .here fun w pz ho=>y37 _ _ _ _ _ _ zlG w pz ((hG1.mono ((Zle.left _ _).trans ((Zle.left _ _).trans (Zle.y5 _ _ _)))).weak (fun _ _ h=>yE ((Zle.left _ _).trans ((Zle.left _ _).trans (Zle.y5 _ _ _))) h)) (z5g.mono ((Zle.left _ _).trans ((Zle.left _ _).trans (Zle.y5 _ _ _))))) ?_
    rintro zcF z5h _
    refine WL.pu rfl (WL.nil (WX.a (WC.b (WC.b ?_))))
    obtain ⟨zcE,zlH,h⟩:=zh h
    refine WC.a (WL.pu rfl ?_)
    refine WL.b (dd:=50) rfl rfl rfl (zI (l:=[.tmp 49]) Tryd.call14 (.cons rfl .nil)) .nil (ccz hz .nil .h1 fun w pz ho=>y3o _ _ _ _ _ zlH w pz ((hG1.mono ((Zle.left _ _).trans ((Zle.left _ _).trans (Zle.y5 _ _ _)))).weak (fun _ _ h=>yE ((Zle.left _ _).trans ((Zle.left _ _).trans (Zle.y5 _ _ _))) h)) (z5g.mono ((Zle.left _ _).trans ((Zle.left _ _).trans (Zle.y5 _ _ _))))) ?_
    refine WL.pu rfl (WL.nil (WX.a ?_))
    refine WC.cond rfl (fun z9n=>?_) (fun z9n=>?_)
    ·replace h:=ym h z9n
     refine WC.b (WC.a (WL.pu rfl (WL.pu rfl (WL.pu rfl ?_))))
     refine WL.seg true 2 54 (B:=(!zM.2) && (decide (zM.1 = 0))) rfl rfl rfl rfl rfl rfl (fun h=>(y2w h).symm) (fun _ zlI=>?_) ?_
     ·skip
      refine WL.pu rfl (WL.pu rfl (WL.pu rfl ?_))
      exact WL.yz (y2x zlI) rfl rfl .all
     refine WL.pu rfl (WL.nil (WX.a (WC.ret (WX.ya ?_))))
     obtain rfl:=Option.some.inj h
     refine WX.ye Tryd.results4 (.tmp rfl .nil) (fun w hw=>?_)
     exact ⟨([] ++ z2T),yX rfl,trivial,hw.sub (.cons .h1 .nil)⟩
    ·replace h:=yn h z9n
     refine WC.skip (WX.a (WC.b (WC.a (WL.pu rfl (WL.nil (WX.a ?_))))))
     obtain ⟨z44,zlJ,h⟩:=y2G h
     refine WC.y2y (fun (z38 : Int)=>(z44 z38 = some r)) (fun (z38 : Int)=>[(0,(.slice z2J zQ.length z2K)),(1,(.int .i64 z1m)),(5,(.int .i64 zM.1)),(6,(.bool zM.2)),(8,(.int .i64 z38))]) (fun (z38 : Int)=>[fz ([] ++ z2T)]) ?_ ?_
     ·skip
      refine WC.b (WC.a (WL.pu rfl (WL.nil (WX.a (WC.block ?_)))))
      refine WC.y5L (fun (z6F : Nat) (z25 : Int) (zJ : Int)=>(yS zN zQ zM z44 z6F z25 zJ = some r)) (fun (z6F : Nat) (z25 : Int) (zJ : Int)=>[(0,(.slice z2J zQ.length z2K)),(1,(.int .i64 z1m)),(5,(.int .i64 zM.1)),(6,(.bool zM.2)),(7,(.slice zcF zN.length z5h)),(8,(.int .i64 z25)),(9,(.int .i64 zJ))]) (fun (z6F : Nat) (z25 : Int) (zJ : Int)=>[fz ([] ++ z2T),row (.slice zcF zN.length z5h) 3 1 (zN.flatMap e3)]) (fun (z6F : Nat) (z25 : Int) (zJ : Int)=>z6F) ⟨y1k,0,0⟩ h (.cons rfl (.cons rfl (.cons rfl (.cons rfl (.cons rfl (.cons rfl (.cons rfl .nil))))))) (.cons .h1 (.cons .here .nil)) ?_
      rintro z6F z25 zJ h
      obtain ⟨z9j,rfl⟩:=y3c h
      rw [yS] at h
      refine WC.b (WC.b (WC.a (WL.pu rfl (WL.pu rfl ?_))))
      refine WL.a (d:=60) rfl rfl rfl (y1i Tryd.underlying30 rfl) ?_
      refine WL.pu rfl (WL.nil (WX.a ?_))
      refine WC.cond rfl (fun z9o=>?_) (fun z9o=>?_)
      ·replace h:=ym h z9o
       refine WC.skip (WX.a (WC.b (WC.block (WC.b ?_))))
       obtain ⟨z79,h⟩:=y9 h
       obtain ⟨z1H,zlK,h⟩:=zh h
       refine WC.a (WL.pu rfl (WL.pu rfl (WL.pu rfl ?_)))
       refine WL.know (fun w hw=>Hp.y3x .h1 hw (by intro hz'; have:=z79; rw [hz'] at this; omega)) ?_
       rintro ⟨z7a,rfl⟩
       refine WL.a (d:=68) rfl rfl rfl (yt yu rfl rfl z79.1 z79.2 y1D) ?_
       refine WL.a (d:=69) rfl rfl rfl (y6 yf rfl (y1C .h1 ((y1m (enc:=e3) (l:=zN) (i:=zJ) (sz:=1) (fun _=>rfl) z79.1 z79.2) 0 _ rfl))) ?_
       refine WL.b (dd:=70) rfl rfl rfl (zI (l:=[.tmp 65,.tmp 69]) Tryd.call13 (.cons rfl (.cons rfl .nil))) .nil (ccz hz .nil .here fun w pz ho=>y25 _ _ _ _ _ _ zlK w pz ((hG1.mono ((Zle.left _ _).trans ((Zle.left _ _).trans (Zle.y5 _ _ _)))).weak (fun _ _ h=>yE ((Zle.left _ _).trans ((Zle.left _ _).trans (Zle.y5 _ _ _))) h)) (z5g.mono ((Zle.left _ _).trans ((Zle.left _ _).trans (Zle.y5 _ _ _))))) ?_
       refine WL.pu rfl (WL.pu rfl (WL.pu rfl (WL.pu rfl (WL.pu rfl (WL.nil (WX.a (WC.b (WC.b ?_))))))))
       obtain ⟨zlL,h⟩:=y9 h
       obtain ⟨zlM,h⟩:=y9 h
       obtain ⟨zlN,h⟩:=y9 h
       obtain ⟨zlO,h⟩:=y9 h
       refine WC.y1a (fun i=>[].contains i) [] rfl ?_
       refine WD.a (i:=0) (d:=73) (by kernel_rfl) rfl z1 z2 rfl rfl rfl (fun _=>q_m rfl) ?_
       refine WD.a (i:=1) (d:=74) (by kernel_rfl) rfl z1 z2 rfl rfl rfl (fun _=>q_m rfl) ?_
       refine WD.mid (fuel':=32) [(0,(.slice z2J zQ.length z2K)),(1,(.int .i64 z1m)),(5,(.int .i64 zM.1)),(6,(.bool zM.2)),(7,(.slice (some ⟨z7a,0,none⟩) zN.length z5h)),(8,(.int .i64 z25)),(9,(.int .i64 zJ)),(10,(.int .i64 z1H.1)),(74,(.bool zM.2)),(77,(.bool (zM.2 && (!z1H.2))))] (y10 37 [4,3,2,1,0]) ?_ (fun zcG=>?_)
       rotate_left
       ·rcases Bool.eq_false_or_eq_true zM.2 with hb' | hb'
        ·have z9p:=hb'; clear hb'
         refine WD.pin (i:=74) rfl z9p ?_
         refine WD.a (i:=2) (d:=75) (by kernel_rfl) rfl z1 z2 rfl rfl rfl (fun _=>q_m rfl) ?_
         refine WD.a (i:=3) (d:=76) (by kernel_rfl) rfl z1 z2 rfl rfl rfl (fun _=>q_not rfl) ?_
         refine WD.a (i:=4) (d:=77) (by kernel_rfl) rfl z1 z2 rfl rfl rfl (fun _=>y2Y rfl rfl) ?_
         refine WD.yB (.cons .here (.cons .here .nil)) ?_ zcG
         exact (.cons rfl (.cons rfl (.cons rfl (.cons rfl (.cons rfl (.cons rfl (.cons rfl (.cons rfl (.cons (z1V (Eq.symm z9p)) (.cons (z1V (y2x z9p)) .nil))))))))))
        ·have z9q:=hb'; clear hb'
         refine WD.pin (i:=74) rfl z9q ?_
         refine WD.b (i:=2) (d:=75) (by kernel_rfl) rfl z1 z2 rfl rfl rfl ?_
         refine WD.b (i:=3) (d:=76) (by kernel_rfl) rfl z1 z2 rfl rfl rfl ?_
         refine WD.a (i:=4) (d:=77) (by kernel_rfl) rfl z1 z2 rfl rfl rfl (fun _=>y2Z rfl rfl) ?_
         refine WD.yB (.cons .here (.cons .here .nil)) ?_ zcG
         exact (.cons rfl (.cons rfl (.cons rfl (.cons rfl (.cons rfl (.cons rfl (.cons rfl (.cons rfl (.cons (z1V (Eq.symm z9q)) (.cons (z1V (y2w z9q)) .nil))))))))))
       refine WD.d #[true,true,true,true,true,false,false,false,false,false,false,false,false,false,false,false,false,false,false,false,false,false,false,false,false,false,false,false,false,false,false,false,false,false,false,false,false] (by kernel_rfl) ?_
       refine WD.a (i:=5) (d:=78) (by kernel_rfl) rfl z1 z2 rfl rfl rfl (fun _=>q_m rfl) ?_
       refine WD.mid (fuel':=25) [(0,(.slice z2J zQ.length z2K)),(1,(.int .i64 z1m)),(5,(.int .i64 zM.1)),(6,(.bool zM.2)),(7,(.slice (some ⟨z7a,0,none⟩) zN.length z5h)),(8,(.int .i64 z25)),(9,(.int .i64 zJ)),(10,(.int .i64 z1H.1)),(78,(.bool (zM.2 && (!z1H.2)))),(84,(.bool ((zM.2 && (!z1H.2)) || (decide ((nth zN zJ) < 0)))))] (y10 37 [11,10,9,8,7,6,5,4,3,2,1,0]) ?_ (fun zcH=>?_)
       rotate_left
       ·rcases Bool.eq_false_or_eq_true (zM.2 && (!z1H.2)) with hb' | hb'
        ·have z9r:=hb'; clear hb'
         refine WD.pin (i:=78) rfl z9r ?_
         refine WD.b (i:=6) (d:=79) (by kernel_rfl) rfl z1 z2 rfl rfl rfl ?_
         refine WD.b (i:=7) (d:=80) (by kernel_rfl) rfl z1 z2 rfl rfl rfl ?_
         refine WD.b (i:=8) (d:=81) (by kernel_rfl) rfl z1 z2 rfl rfl rfl ?_
         refine WD.b (i:=9) (d:=82) (by kernel_rfl) rfl z1 z2 rfl rfl rfl ?_
         refine WD.b (i:=10) (d:=83) (by kernel_rfl) rfl z1 z2 rfl rfl rfl ?_
         refine WD.a (i:=11) (d:=84) (by kernel_rfl) rfl z1 z2 rfl rfl rfl (fun _=>y2Y rfl rfl) ?_
         refine WD.yB (.cons .here (.cons .here .nil)) ?_ zcH
         exact (.cons rfl (.cons rfl (.cons rfl (.cons rfl (.cons rfl (.cons rfl (.cons rfl (.cons rfl (.cons (z1V (Eq.symm z9r)) (.cons (z1V (or_l z9r)) .nil))))))))))
        ·have z7I:=hb'; clear hb'
         have z7J:=zlL z7I
         refine WD.pin (i:=78) rfl z7I ?_
         refine WD.a (i:=6) (d:=79) (by kernel_rfl) rfl z1 z2 rfl rfl rfl (fun _=>q_m rfl) ?_
         refine WD.a (i:=7) (d:=80) (by kernel_rfl) rfl z1 z2 rfl rfl rfl (fun _=>q_m rfl) ?_
         refine WD.a (i:=8) (d:=81) (by kernel_rfl) rfl z1 z2 rfl rfl rfl (fun _=>yt yu rfl rfl z7J.1 z7J.2 y1D) ?_
         refine WD.e (i:=9) (d:=82) (by kernel_rfl) rfl z1 z2 rfl rfl rfl (y6 yf rfl (y1C .h1 ((y1m (enc:=e3) (l:=zN) (i:=zJ) (sz:=1) (fun _=>rfl) z7J.1 z7J.2) 0 _ rfl))) ?_
         refine WD.a (i:=10) (d:=83) (by kernel_rfl) rfl z1 z2 rfl rfl rfl (fun _=>q_lss rfl rfl) ?_
         refine WD.a (i:=11) (d:=84) (by kernel_rfl) rfl z1 z2 rfl rfl rfl (fun _=>y2Z rfl rfl) ?_
         refine WD.yB (.cons .here (.cons .here .nil)) ?_ zcH
         exact (.cons rfl (.cons rfl (.cons rfl (.cons rfl (.cons rfl (.cons rfl (.cons rfl (.cons rfl (.cons (z1V (Eq.symm z7I)) (.cons (z1V (or_r z7I)) .nil))))))))))
       refine WD.d #[true,true,true,true,true,true,true,true,true,true,true,true,false,false,false,false,false,false,false,false,false,false,false,false,false,false,false,false,false,false,false,false,false,false,false,false,false] (by kernel_rfl) ?_
       refine WD.a (i:=12) (d:=85) (by kernel_rfl) rfl z1 z2 rfl rfl rfl (fun _=>q_m rfl) ?_
       refine WD.mid (fuel':=16) [(0,(.slice z2J zQ.length z2K)),(1,(.int .i64 z1m)),(5,(.int .i64 zM.1)),(6,(.bool zM.2)),(7,(.slice (some ⟨z7a,0,none⟩) zN.length z5h)),(8,(.int .i64 z25)),(9,(.int .i64 zJ)),(10,(.int .i64 z1H.1)),(85,(.bool ((zM.2 && (!z1H.2)) || (decide ((nth zN zJ) < 0))))),(93,(.bool (((zM.2 && (!z1H.2)) || (decide ((nth zN zJ) < 0))) || (decide ((nth zN zJ) > ((zQ.length : Nat) : Int))))))] (y10 37 [20,19,18,17,16,15,14,13,12,11,10,9,8,7,6,5,4,3,2,1,0]) ?_ (fun zcI=>?_)
       rotate_left
       ·rcases Bool.eq_false_or_eq_true ((zM.2 && (!z1H.2)) || (decide ((nth zN zJ) < 0))) with hb' | hb'
        ·have z9s:=hb'; clear hb'
         refine WD.pin (i:=85) rfl z9s ?_
         refine WD.b (i:=13) (d:=86) (by kernel_rfl) rfl z1 z2 rfl rfl rfl ?_
         refine WD.b (i:=14) (d:=87) (by kernel_rfl) rfl z1 z2 rfl rfl rfl ?_
         refine WD.b (i:=15) (d:=88) (by kernel_rfl) rfl z1 z2 rfl rfl rfl ?_
         refine WD.b (i:=16) (d:=89) (by kernel_rfl) rfl z1 z2 rfl rfl rfl ?_
         refine WD.b (i:=17) (d:=90) (by kernel_rfl) rfl z1 z2 rfl rfl rfl ?_
         refine WD.b (i:=18) (d:=91) (by kernel_rfl) rfl z1 z2 rfl rfl rfl ?_
         refine WD.b (i:=19) (d:=92) (by kernel_rfl) rfl z1 z2 rfl rfl rfl ?_
         refine WD.a (i:=20) (d:=93) (by kernel_rfl) rfl z1 z2 rfl rfl rfl (fun _=>y2Y rfl rfl) ?_
         refine WD.yB (.cons .here (.cons .here .nil)) ?_ zcI
         exact (.cons rfl (.cons rfl (.cons rfl (.cons rfl (.cons rfl (.cons rfl (.cons rfl (.cons rfl (.cons (z1V (Eq.symm z9s)) (.cons (z1V (or_l z9s)) .nil))))))))))
        ·have z7K:=hb'; clear hb'
         have z7L:=zlM z7K
         refine WD.pin (i:=85) rfl z7K ?_
         refine WD.a (i:=13) (d:=86) (by kernel_rfl) rfl z1 z2 rfl rfl rfl (fun _=>q_m rfl) ?_
         refine WD.a (i:=14) (d:=87) (by kernel_rfl) rfl z1 z2 rfl rfl rfl (fun _=>q_m rfl) ?_
         refine WD.a (i:=15) (d:=88) (by kernel_rfl) rfl z1 z2 rfl rfl rfl (fun _=>yt yu rfl rfl z7L.1 z7L.2 y1D) ?_
         refine WD.e (i:=16) (d:=89) (by kernel_rfl) rfl z1 z2 rfl rfl rfl (y6 yf rfl (y1C .h1 ((y1m (enc:=e3) (l:=zN) (i:=zJ) (sz:=1) (fun _=>rfl) z7L.1 z7L.2) 0 _ rfl))) ?_
         refine WD.a (i:=17) (d:=90) (by kernel_rfl) rfl z1 z2 rfl rfl rfl (fun _=>q_m rfl) ?_
         refine WD.a (i:=18) (d:=91) (by kernel_rfl) rfl z1 z2 rfl rfl rfl (fun _=>y1i Tryd.underlying22 rfl) ?_
         refine WD.a (i:=19) (d:=92) (by kernel_rfl) rfl z1 z2 rfl rfl rfl (fun _=>q_gtr rfl rfl) ?_
         refine WD.a (i:=20) (d:=93) (by kernel_rfl) rfl z1 z2 rfl rfl rfl (fun _=>y2Z rfl rfl) ?_
         refine WD.yB (.cons .here (.cons .here .nil)) ?_ zcI
         exact (.cons rfl (.cons rfl (.cons rfl (.cons rfl (.cons rfl (.cons rfl (.cons rfl (.cons rfl (.cons (z1V (Eq.symm z7K)) (.cons (z1V (or_r z7K)) .nil))))))))))
       refine WD.d #[true,true,true,true,true,true,true,true,true,true,true,true,true,true,true,true,true,true,true,true,true,false,false,false,false,false,false,false,false,false,false,false,false,false,false,false,false] (by kernel_rfl) ?_
       refine WD.a (i:=21) (d:=94) (by kernel_rfl) rfl z1 z2 rfl rfl rfl (fun _=>q_m rfl) ?_
       refine WD.mid (fuel':=0) [(0,(.slice z2J zQ.length z2K)),(1,(.int .i64 z1m)),(5,(.int .i64 zM.1)),(6,(.bool zM.2)),(7,(.slice (some ⟨z7a,0,none⟩) zN.length z5h)),(8,(.int .i64 z25)),(9,(.int .i64 zJ)),(10,(.int .i64 z1H.1)),(94,(.bool (((zM.2 && (!z1H.2)) || (decide ((nth zN zJ) < 0))) || (decide ((nth zN zJ) > ((zQ.length : Nat) : Int)))))),(109,(.bool ((((zM.2 && (!z1H.2)) || (decide ((nth zN zJ) < 0))) || (decide ((nth zN zJ) > ((zQ.length : Nat) : Int)))) || ((decide (zJ > 0)) && (decide ((nth zN zJ) ≤ (nth zN (i64 (zJ - 1)))))))))] (y10 37 [36,35,34,33,32,31,30,29,28,27,26,25,24,23,22,21,20,19,18,17,16,15,14,13,12,11,10,9,8,7,6,5,4,3,2,1,0]) ?_ (fun zcJ=>?_)
       rotate_left
       ·rcases Bool.eq_false_or_eq_true (((zM.2 && (!z1H.2)) || (decide ((nth zN zJ) < 0))) || (decide ((nth zN zJ) > ((zQ.length : Nat) : Int)))) with hb' | hb'
        ·have z9t:=hb'; clear hb'
         refine WD.pin (i:=94) rfl z9t ?_
         refine WD.b (i:=22) (d:=95) (by kernel_rfl) rfl z1 z2 rfl rfl rfl ?_
         refine WD.b (i:=23) (d:=96) (by kernel_rfl) rfl z1 z2 rfl rfl rfl ?_
         refine WD.b (i:=24) (d:=97) (by kernel_rfl) rfl z1 z2 rfl rfl rfl ?_
         refine WD.b (i:=25) (d:=98) (by kernel_rfl) rfl z1 z2 rfl rfl rfl ?_
         refine WD.b (i:=26) (d:=99) (by kernel_rfl) rfl z1 z2 rfl rfl rfl ?_
         refine WD.b (i:=27) (d:=100) (by kernel_rfl) rfl z1 z2 rfl rfl rfl ?_
         refine WD.b (i:=28) (d:=101) (by kernel_rfl) rfl z1 z2 rfl rfl rfl ?_
         refine WD.b (i:=29) (d:=102) (by kernel_rfl) rfl z1 z2 rfl rfl rfl ?_
         refine WD.b (i:=30) (d:=103) (by kernel_rfl) rfl z1 z2 rfl rfl rfl ?_
         refine WD.b (i:=31) (d:=104) (by kernel_rfl) rfl z1 z2 rfl rfl rfl ?_
         refine WD.b (i:=32) (d:=105) (by kernel_rfl) rfl z1 z2 rfl rfl rfl ?_
         refine WD.b (i:=33) (d:=106) (by kernel_rfl) rfl z1 z2 rfl rfl rfl ?_
         refine WD.b (i:=34) (d:=107) (by kernel_rfl) rfl z1 z2 rfl rfl rfl ?_
         refine WD.b (i:=35) (d:=108) (by kernel_rfl) rfl z1 z2 rfl rfl rfl ?_
         refine WD.a (i:=36) (d:=109) (by kernel_rfl) rfl z1 z2 rfl rfl rfl (fun _=>y2Y rfl rfl) ?_
         refine WD.yB (.cons .here (.cons .here .nil)) ?_ zcJ
         exact (.cons rfl (.cons rfl (.cons rfl (.cons rfl (.cons rfl (.cons rfl (.cons rfl (.cons rfl (.cons (z1V (Eq.symm z9t)) (.cons (z1V (or_l z9t)) .nil))))))))))
        ·have z7b:=hb'; clear hb'
         have zlP:=zlN z7b
         have zlQ:=zlO z7b
         refine WD.pin (i:=94) rfl z7b ?_
         refine WD.a (i:=22) (d:=95) (by kernel_rfl) rfl z1 z2 rfl rfl rfl (fun _=>q_m rfl) ?_
         refine WD.a (i:=23) (d:=96) (by kernel_rfl) rfl z1 z2 rfl rfl rfl (fun _=>q_gtr rfl rfl) ?_
         refine WD.a (i:=24) (d:=97) (by kernel_rfl) rfl z1 z2 rfl rfl rfl (fun _=>q_m rfl) ?_
         refine WD.mid (fuel':=1) [(0,(.slice z2J zQ.length z2K)),(1,(.int .i64 z1m)),(5,(.int .i64 zM.1)),(6,(.bool zM.2)),(7,(.slice (some ⟨z7a,0,none⟩) zN.length z5h)),(8,(.int .i64 z25)),(9,(.int .i64 zJ)),(10,(.int .i64 z1H.1)),(94,(.bool false)),(97,(.bool (decide (zJ > 0)))),(108,(.bool ((decide (zJ > 0)) && (decide ((nth zN zJ) ≤ (nth zN (i64 (zJ - 1))))))))] (y10 37 [35,34,33,32,31,30,29,28,27,26,25,24,23,22,21,20,19,18,17,16,15,14,13,12,11,10,9,8,7,6,5,4,3,2,1,0]) ?_ (fun zcK=>?_)
         rotate_left
         ·rcases Bool.eq_false_or_eq_true (decide (zJ > 0)) with hb' | hb'
          ·have z7c:=hb'; clear hb'
           have z7M:=zlP z7c
           have z7N:=zlQ z7c
           refine WD.pin (i:=97) rfl z7c ?_
           refine WD.a (i:=25) (d:=98) (by kernel_rfl) rfl z1 z2 rfl rfl rfl (fun _=>q_m rfl) ?_
           refine WD.a (i:=26) (d:=99) (by kernel_rfl) rfl z1 z2 rfl rfl rfl (fun _=>q_m rfl) ?_
           refine WD.a (i:=27) (d:=100) (by kernel_rfl) rfl z1 z2 rfl rfl rfl (fun _=>yt yu rfl rfl z7M.1 z7M.2 y1D) ?_
           refine WD.e (i:=28) (d:=101) (by kernel_rfl) rfl z1 z2 rfl rfl rfl (y6 yf rfl (y1C .h1 ((y1m (enc:=e3) (l:=zN) (i:=zJ) (sz:=1) (fun _=>rfl) z7M.1 z7M.2) 0 _ rfl))) ?_
           refine WD.a (i:=29) (d:=102) (by kernel_rfl) rfl z1 z2 rfl rfl rfl (fun _=>q_m rfl) ?_
           refine WD.a (i:=30) (d:=103) (by kernel_rfl) rfl z1 z2 rfl rfl rfl (fun _=>q_m rfl) ?_
           refine WD.a (i:=31) (d:=104) (by kernel_rfl) rfl z1 z2 rfl rfl rfl (fun _=>y58 rfl rfl rfl) ?_
           refine WD.a (i:=32) (d:=105) (by kernel_rfl) rfl z1 z2 rfl rfl rfl (fun _=>yt yu rfl rfl z7N.1 z7N.2 y1D) ?_
           refine WD.e (i:=33) (d:=106) (by kernel_rfl) rfl z1 z2 rfl rfl rfl (y6 yf rfl (y1C .h1 ((y1m (enc:=e3) (l:=zN) (i:=i64 (zJ - 1)) (sz:=1) (fun _=>rfl) z7N.1 z7N.2) 0 _ rfl))) ?_
           refine WD.a (i:=34) (d:=107) (by kernel_rfl) rfl z1 z2 rfl rfl rfl (fun _=>q_leq rfl rfl) ?_
           refine WD.a (i:=35) (d:=108) (by kernel_rfl) rfl z1 z2 rfl rfl rfl (fun _=>y2Y rfl rfl) ?_
           refine WD.yB (.cons .here (.cons .here .nil)) ?_ zcK
           exact (.cons rfl (.cons rfl (.cons rfl (.cons rfl (.cons rfl (.cons rfl (.cons rfl (.cons rfl (.cons rfl (.cons (z1V (Eq.symm z7c)) (.cons (z1V (y2x z7c)) .nil)))))))))))
          ·have z9u:=hb'; clear hb'
           refine WD.pin (i:=97) rfl z9u ?_
           refine WD.b (i:=25) (d:=98) (by kernel_rfl) rfl z1 z2 rfl rfl rfl ?_
           refine WD.b (i:=26) (d:=99) (by kernel_rfl) rfl z1 z2 rfl rfl rfl ?_
           refine WD.b (i:=27) (d:=100) (by kernel_rfl) rfl z1 z2 rfl rfl rfl ?_
           refine WD.b (i:=28) (d:=101) (by kernel_rfl) rfl z1 z2 rfl rfl rfl ?_
           refine WD.b (i:=29) (d:=102) (by kernel_rfl) rfl z1 z2 rfl rfl rfl ?_
           refine WD.b (i:=30) (d:=103) (by kernel_rfl) rfl z1 z2 rfl rfl rfl ?_
           refine WD.b (i:=31) (d:=104) (by kernel_rfl) rfl z1 z2 rfl rfl rfl ?_
           refine WD.b (i:=32) (d:=105) (by kernel_rfl) rfl z1 z2 rfl rfl rfl ?_
           refine WD.b (i:=33) (d:=106) (by kernel_rfl) rfl z1 z2 rfl rfl rfl ?_
           refine WD.b (i:=34) (d:=107) (by kernel_rfl) rfl z1 z2 rfl rfl rfl ?_
           refine WD.a (i:=35) (d:=108) (by kernel_rfl) rfl z1 z2 rfl rfl rfl (fun _=>y2Z rfl rfl) ?_
           refine WD.yB (.cons .here (.cons .here .nil)) ?_ zcK
           exact (.cons rfl (.cons rfl (.cons rfl (.cons rfl (.cons rfl (.cons rfl (.cons rfl (.cons rfl (.cons rfl (.cons (z1V (Eq.symm z9u)) (.cons (z1V (y2w z9u)) .nil)))))))))))
         refine WD.d #[true,true,true,true,true,true,true,true,true,true,true,true,true,true,true,true,true,true,true,true,true,true,true,true,true,true,true,true,true,true,true,true,true,true,true,true,false] (by kernel_rfl) ?_
         refine WD.a (i:=36) (d:=109) (by kernel_rfl) rfl z1 z2 rfl rfl rfl (fun _=>y2Z rfl rfl) ?_
         refine WD.yB (.cons .here (.cons .here .nil)) ?_ zcJ
         exact (.cons rfl (.cons rfl (.cons rfl (.cons rfl (.cons rfl (.cons rfl (.cons rfl (.cons rfl (.cons (z1V (Eq.symm z7b)) (.cons (z1V (or_r z7b)) .nil))))))))))
       refine WD.d #[true,true,true,true,true,true,true,true,true,true,true,true,true,true,true,true,true,true,true,true,true,true,true,true,true,true,true,true,true,true,true,true,true,true,true,true,true] (by kernel_rfl) ?_
       refine WD.done (by kernel_rfl) ?_
       refine WX.a ?_
       refine WC.cond rfl (fun z9v=>?_) (fun z9v=>?_)
       ·replace h:=ym h z9v
        refine WC.b (WC.a (WL.pu rfl (WL.nil (WX.a (WC.ret (WX.ya (WX.yC (WX.ya (WX.ya (WX.yC (WX.ya ?_)))))))))))
        obtain rfl:=Option.some.inj h
        refine WX.ye Tryd.results4 (.tmp rfl .nil) (fun w hw=>?_)
        exact ⟨([] ++ z2T),yX rfl,trivial,hw.sub (.cons .here .nil)⟩
       ·replace h:=yn h z9v
        refine WC.skip (WX.a (WC.a (WL.pu rfl (WL.pu rfl ?_))))
        refine WL.a (d:=112) rfl rfl rfl (q_max rfl rfl rfl) ?_
        refine WL.pu rfl (WL.nil (WX.yi (WX.a (WC.a (WL.pu rfl (WL.pu rfl (WL.pu rfl (WL.nil ?_))))))))
        exact WX.round (G:=Nat × Int × Int) ⟨z9j,(max z25 z1H.1),(i64 (zJ + 1))⟩ h (Nat.lt_succ_self _) (.cons rfl (.cons rfl (.cons rfl (.cons rfl (.cons rfl (.cons rfl (.cons rfl .nil))))))) (.cons .here (.cons .here .nil))
      ·replace h:=yn h z9o
       refine WC.exit (WX.yx (WX.yx (WX.y1h ?_)))
       exact WX.mid (G:=Int) z25 h (.cons rfl (.cons rfl (.cons rfl (.cons rfl (.cons rfl .nil))))) (.cons .here .nil)
     ·rintro z38 h
      replace h:=(zlJ z38).symm.trans h
      refine WC.b (WC.a (WL.pu rfl (WL.nil (WX.a ?_))))
      obtain ⟨z7H,zlR,h⟩:=y2G h
      refine WC.y2y (fun (z45 : Int)=>(z7H z45 = some r)) (fun (z45 : Int)=>[(5,(.int .i64 zM.1)),(6,(.bool zM.2)),(8,(.int .i64 z38)),(12,(.int .i64 z45))]) (fun (z45 : Int)=>[fz ([] ++ z2T)]) ?_ ?_
      ·skip
       refine WC.b ?_
       obtain ⟨zlS,h⟩:=y9 h
       refine WC.a (WL.pu rfl (WL.pu rfl ?_))
       refine WL.znth (dd:=115) rfl rfl (Z:=(Z ++ ([] ++ z2T))) (Pr:=(fun r x=>r = e33 x)) y2s rfl rfl (z5g.mono ((Zle.left _ _).trans ((Zle.left _ _).trans (Zle.y5 _ _ _)))) zlS ?_
       rintro zn9 zna zlT znb rfl
       refine WL.a (d:=116) rfl rfl rfl (y4 y31 rfl rfl) ?_
       refine WL.a (d:=117) rfl rfl rfl (y6 yN rfl (y4F (hz.pv2 .here) zlT rfl)) ?_
       refine WL.pu rfl (WL.nil (WX.a ?_))
       refine WC.cond rfl (fun z9w=>?_) (fun z9w=>?_)
       ·replace h:=ym h z9w
        obtain ⟨zlU,h⟩:=y9 h
        refine WC.a (WL.pu rfl (WL.pu rfl ?_))
        refine WL.znth (dd:=121) rfl rfl (Z:=(Z ++ ([] ++ z2T))) (Pr:=(fun r x=>r = e33 x)) y2s rfl rfl (z5g.mono ((Zle.left _ _).trans ((Zle.left _ _).trans (Zle.y5 _ _ _)))) zlU ?_
        rintro znc znd zlV zne rfl
        refine WL.a (d:=122) rfl rfl rfl (y4 y1b rfl rfl) ?_
        refine WL.a (d:=123) rfl rfl rfl (y6 yf rfl (y4F (hz.pv2 .here) zlV rfl)) ?_
        refine WL.pu rfl (WL.nil ?_)
        exact WX.mid (G:=Int) ((nth zQ z1m).fA) h (.cons rfl (.cons rfl (.cons rfl (.cons rfl .nil)))) (.cons .here .nil)
       ·replace h:=yn h z9w
        refine WC.skip ?_
        exact WX.mid (G:=Int) 1 h (.cons rfl (.cons rfl (.cons rfl (.cons rfl .nil)))) (.cons .here .nil)
      ·rintro z45 h
       replace h:=(zlR z45).symm.trans h
       refine WC.b (WC.a (WL.pu rfl (WL.pu rfl (WL.pu rfl ?_))))
       refine WL.seg false 5 126 (B:=(!zM.2) || (decide (zM.1 = (i64 (z45 + z38))))) rfl rfl rfl rfl rfl rfl (fun h=>(or_l h).symm) (fun _ zlW=>?_) ?_
       ·skip
        refine WL.pu rfl (WL.pu rfl (WL.pu rfl (WL.pu rfl (WL.pu rfl (WL.pu rfl ?_)))))
        exact WL.yz (or_r zlW) rfl rfl .all
       refine WL.pu rfl (WL.nil (WX.a (WC.ret ?_)))
       obtain rfl:=Option.some.inj h
       refine WX.ye Tryd.results4 (.tmp rfl .nil) (fun w hw=>?_)
       exact ⟨([] ++ z2T),yX rfl,trivial,hw.sub (.cons .here .nil)⟩
end Go.Proofs.YtjdnejbngloieaaDoor

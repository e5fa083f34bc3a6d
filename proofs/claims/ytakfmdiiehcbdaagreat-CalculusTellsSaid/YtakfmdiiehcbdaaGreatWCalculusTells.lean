/- A part of this claim's proof: models of functions, walks, plain laws. No conditions. -/
import Derived.Test.YtakfmdiiehcbdaaGreatW03Zf
namespace Go.Proofs.YtakfmdiiehcbdaaGreat
open Go Go.RowKit Sep
set_option linter.all false
set_option maxRecDepth 30000
set_option maxHeartbeats 4000000
def y1C (z20 : List (List z2)) (z8U : Option Bool) : Nat → Int → Option Bool
 | 0,_=>none
 | zpG + 1,z4C=>if decide (z4C < ((z20.length : Nat) : Int)) then chk ((0 : Int) ≤ z4C ∧ z4C < ((z20.length : Nat) : Int)) (if decide ((((nth z20 z4C).length : Nat) : Int) > 40) then (y49).bind fun zve=>some zve else y1C z20 z8U zpG (i64 (z4C + 1))) else z8U
theorem y6b {n : Nat} {z20 : List (List z2)} {z8U : Option Bool} {z4C : Int} {r : Bool} (h : y1C z20 z8U n z4C = some r) : ∃ m,n = m + 1:=by
 cases n with
 | zero=>cases h
 | succ m=>exact ⟨m,rfl⟩
def y3G (z20 : List (List z2)) (z15 : S41) (z1m : S41) : Option Bool :=
 if decide (((z20.length : Nat) : Int) > 40) then (y49).bind fun zvf=>some zvf else jp0 ((y2O z20 z15).bind fun z18=>(y3I z20 z15).bind fun z19=>(y2Z z20 z15).bind fun z1z=>(y3F z20 z15).bind fun z1A=>(y41 z15 z1m).bind fun z31=>(y3J z15 z1m).bind fun z32=>(if (((((decide (z18.1 = z19.1)) && (decide (z18.2 = z19.2))) && (decide (z1z.1 = z1A.1))) && (decide (z1z.2 = z1A.2))) && (decide (z31.1 = z32.1))) && (decide (z31.2 = z32.2)) then (y1Y z15).bind fun zvg=>(y3m z15).bind fun zvh=>some (zvg == zvh) else some false).bind fun zgD=>(if zgD then (y49).bind fun zvi=>some zvi else some false).bind fun zpH=>some zpH) fun z8U=>y1C z20 z8U yu 0
set_option maxRecDepth 20000 in
theorem y7V (Z : Zp) (zao : Option Addr) (zap : Nat) (z20 : List (List z2)) (z15 : S41) (z1m : S41) (r : Bool)
  (h : y3G z20 z15 z1m = some r) (w₀ : World) (hz : PZ [] w₀ Z)
  (zgE : ZS Z 1 (p23 Z) zao zap z20) :
  Calls Tryz.prog 4 #[(.slice zao z20.length zap),(.agg #[(.int .i64 z15.fR.fN),(.int .i64 z15.fR.fD),(.int .i64 z15.fL.fN),(.int .i64 z15.fL.fD)]),(.agg #[(.int .i64 z1m.fR.fN),(.int .i64 z1m.fR.fD),(.int .i64 z1m.fL.fN),(.int .i64 z1m.fL.fD)])] w₀ fun e w'=>∃ Zn : Zp,e = .returned (.bool r) ∧ True ∧ Hp [] w₀ w' [fz Zn]:=by
 unfold y3G at h
 refine Calls.yg (vs:=[(.slice zao z20.length zap),(.agg #[(.int .i64 z15.fR.fN),(.int .i64 z15.fR.fD),(.int .i64 z15.fL.fN),(.int .i64 z15.fL.fD)]),(.agg #[(.int .i64 z1m.fR.fN),(.int .i64 z1m.fR.fD),(.int .i64 z1m.fL.fN),(.int .i64 z1m.fL.fD)])]) (pre:=[]) (env:=[(0,(.slice zao z20.length zap)),(1,(.agg #[(.int .i64 z15.fR.fN),(.int .i64 z15.fR.fD),(.int .i64 z15.fL.fN),(.int .i64 z15.fL.fD)])),(2,(.agg #[(.int .i64 z1m.fR.fN),(.int .i64 z1m.fR.fD),(.int .i64 z1m.fL.fN),(.int .i64 z1m.fL.fD)]))]) Tryz.func4 rfl Tryz.ntmps4 rfl (Hp.nil w₀ _) rfl ?_
 refine WC.pool (WC.b (WC.a ?_))
 refine WL.new (dd:=4) rfl rfl rfl (yx (cs:=[(.int .i64 z15.fR.fN),(.int .i64 z15.fR.fD),(.int .i64 z15.fL.fN),(.int .i64 z15.fL.fD)]) rfl rfl) ?_
 intro z7b _
 refine WL.new (dd:=5) rfl rfl rfl (yx (cs:=[(.int .i64 z1m.fR.fN),(.int .i64 z1m.fR.fD),(.int .i64 z1m.fL.fN),(.int .i64 z1m.fL.fD)]) rfl rfl) ?_
 intro zgF _
 refine WL.pu rfl (WL.nil (WX.a (WC.b (WC.b (WC.a (WL.pu rfl ?_))))))
 refine WL.a (d:=22) rfl rfl rfl (yP Tryz.underlying38 rfl) ?_
 refine WL.pu rfl (WL.nil (WX.a ?_))
 refine WC.cond rfl (fun zpI=>?_) (fun zpI=>?_)
 ·replace h:=yd h zpI
  refine WC.b ?_
  obtain ⟨zvf,zGx,h⟩:=z8 h
  refine WC.a ?_
  refine WL.y2v (dd:=24) rfl rfl rfl (za (l:=[]) Tryz.call5 .nil) .nil (ccz hz .nil .h2 fun w pz ho=>y6I _ _ zGx w pz ) ?_
  rintro zGy _
  refine WL.merge .here .h2 ?_
  refine WL.pu rfl (WL.nil (WX.a (WC.ret (WX.y6 ?_))))
  obtain rfl:=Option.some.inj h
  refine WX.y8 Tryz.results4 (.tmp rfl .nil) (fun w hw=>?_)
  exact ⟨([] ++ zGy),yD rfl,trivial,hw.sub (.cons .here .nil)⟩
 ·replace h:=ye h zpI
  refine WC.skip (WX.a ?_)
  obtain ⟨z8U,zGz,h⟩:=y3H h
  refine WC.y2J ((z8U = some r)) ([(0,(.slice zao z20.length zap)),(4,(.pointer (some ⟨z7b,0,none⟩))),(5,(.pointer (some ⟨zgF,0,none⟩)))]) ([fz [],stb z7b 42 [(.int .i64 z15.fR.fN),(.int .i64 z15.fR.fD),(.int .i64 z15.fL.fN),(.int .i64 z15.fL.fD)],stb zgF 42 [(.int .i64 z1m.fR.fN),(.int .i64 z1m.fR.fD),(.int .i64 z1m.fL.fN),(.int .i64 z1m.fL.fD)]]) ?_ ?_
  ·skip
   refine WC.b (WC.a (WL.pu rfl ?_))
   refine WL.a (d:=26) rfl rfl rfl (yP Tryz.underlying38 rfl) ?_
   refine WL.pu rfl (WL.nil (WX.a (WC.block ?_)))
   refine WC.y35 (fun (zev : Nat) (z4C : Int)=>(y1C z20 z8U zev z4C = some r)) (fun (zev : Nat) (z4C : Int)=>[(0,(.slice zao z20.length zap)),(4,(.pointer (some ⟨z7b,0,none⟩))),(5,(.pointer (some ⟨zgF,0,none⟩))),(25,(.slice zao z20.length zap)),(26,(.int .i64 ((z20.length : Nat) : Int))),(27,(.int .i64 z4C))]) (fun (zev : Nat) (z4C : Int)=>[fz [],stb z7b 42 [(.int .i64 z15.fR.fN),(.int .i64 z15.fR.fD),(.int .i64 z15.fL.fN),(.int .i64 z15.fL.fD)],stb zgF 42 [(.int .i64 z1m.fR.fN),(.int .i64 z1m.fR.fD),(.int .i64 z1m.fL.fN),(.int .i64 z1m.fL.fD)]]) (fun (zev : Nat) (z4C : Int)=>zev) ⟨yu,0⟩ h (.cons rfl (.cons rfl (.cons rfl (.cons rfl (.cons rfl (.cons rfl .nil)))))) (.cons .h2 (.cons .h1 (.cons .here .nil))) ?_
   rintro zev z4C h
   obtain ⟨zpG,rfl⟩:=y6b h
   rw [y1C] at h
   refine WC.b (WC.a (WL.pu rfl (WL.nil (WX.a (WC.b ?_)))))
   refine WC.cond rfl (fun zpJ=>?_) (fun zpJ=>?_)
   ·replace h:=yd h zpJ
    refine WC.skip (WX.a (WC.b (WC.block (WC.b ?_))))
    obtain ⟨zGA,h⟩:=yj h
    refine WC.a ?_
    refine WL.znth (dd:=29) rfl rfl (Z:=(Z ++ [])) (Pr:=(p23 (Z ++ []))) y3X rfl rfl ((zgE.mono (Zle.left _ _)).weak (fun _ _ h=>yG (Zle.left _ _) h)) zGA ?_
    rintro zMt zMu zGB zMv ⟨zMw,zMx,rfl,zMy⟩
    refine WL.a (d:=30) rfl rfl rfl (yc y3S rfl (y4X (hz.pv2 .here) zGB rfl)) ?_
    refine WL.pu rfl (WL.nil (WX.a (WC.b (WC.a (WL.pu rfl ?_)))))
    refine WL.a (d:=32) rfl rfl rfl (yP Tryz.underlying23 rfl) ?_
    refine WL.pu rfl (WL.nil (WX.a ?_))
    refine WC.cond rfl (fun zpK=>?_) (fun zpK=>?_)
    ·replace h:=yd h zpK
     refine WC.b ?_
     obtain ⟨zve,zGC,h⟩:=z8 h
     refine WC.a ?_
     refine WL.y2v (dd:=34) rfl rfl rfl (za (l:=[]) Tryz.call5 .nil) .nil (ccz hz .nil .here fun w pz ho=>y6I _ _ zGC w pz ) ?_
     rintro zGD _
     refine WL.merge .here .here ?_
     refine WL.pu rfl (WL.nil (WX.a (WC.ret (WX.yl (WX.y6 (WX.y6 (WX.yl (WX.y6 ?_))))))))
     obtain rfl:=Option.some.inj h
     refine WX.y8 Tryz.results4 (.tmp rfl .nil) (fun w hw=>?_)
     exact ⟨([] ++ zGD),yD rfl,trivial,hw.sub (.cons .here .nil)⟩
    ·replace h:=ye h zpK
     refine WC.skip (WX.yi (WX.a (WC.a (WL.pu rfl (WL.pu rfl (WL.nil ?_))))))
     exact WX.round (G:=Nat × Int) ⟨zpG,(i64 (z4C + 1))⟩ h (Nat.lt_succ_self _) (.cons rfl (.cons rfl (.cons rfl (.cons rfl (.cons rfl (.cons rfl .nil)))))) (.cons .here (.cons .here (.cons .here .nil)))
   ·replace h:=ye h zpJ
    refine WC.exit (WX.yf (WX.yf (WX.yv ?_)))
    exact WX.mid (G:=Unit) () h (.cons rfl (.cons rfl (.cons rfl .nil))) (.cons .here (.cons .here (.cons .here .nil)))
  ·rintro  h
   replace h:=zGz.symm.trans h
   refine WC.b ?_
   obtain ⟨z18,zGE,h⟩:=z8 h
   refine WC.a (WL.pu rfl ?_)
   refine WL.a (d:=38) rfl rfl rfl (y9 y15 rfl (y7 .h1) rfl) ?_
   refine WL.y2v (dd:=39) rfl rfl rfl (za (l:=[.tmp 37,.tmp 38]) Tryz.call11 (.cons rfl (.cons rfl .nil))) .nil (ccz hz .nil .here fun w pz ho=>y4E _ _ _ _ _ _ zGE w pz ((zgE.mono (Zle.left _ _)).weak (fun _ _ h=>yG (Zle.left _ _) h))) ?_
   rintro zpL _
   refine WL.merge .here .here ?_
   refine WL.pu rfl (WL.pu rfl (WL.pu rfl ?_))
   refine WL.new (dd:=9) rfl rfl rfl (yk (cs:=[(.int .i64 0),(.int .i64 0)]) yo rfl) ?_
   intro zGF _
   refine WL.yb rfl rfl (ya yh rfl rfl rfl .here rfl rfl rfl) ?_
   refine WL.pu rfl (WL.nil (WX.a (WC.b ?_)))
   obtain ⟨z19,zGG,h⟩:=z8 h
   refine WC.a (WL.pu rfl ?_)
   refine WL.a (d:=44) rfl rfl rfl (y9 y15 rfl (y7 .h2) rfl) ?_
   refine WL.y2v (dd:=45) rfl rfl rfl (za (l:=[.tmp 43,.tmp 44]) Tryz.call12 (.cons rfl (.cons rfl .nil))) .nil (ccz hz .nil .h1 fun w pz ho=>yaE _ _ _ _ _ _ zGG w pz ((zgE.mono ((Zle.left _ _).trans ((Zle.left _ _).trans (Zle.yn _ _ _)))).weak (fun _ _ h=>yG ((Zle.left _ _).trans ((Zle.left _ _).trans (Zle.yn _ _ _))) h))) ?_
   rintro zpM _
   refine WL.merge .here .h1 ?_
   refine WL.pu rfl (WL.pu rfl (WL.pu rfl ?_))
   refine WL.new (dd:=11) rfl rfl rfl (yk (cs:=[(.int .i64 0),(.int .i64 0)]) yo rfl) ?_
   intro zGH _
   refine WL.yb rfl rfl (ya yh rfl rfl rfl .here rfl rfl rfl) ?_
   refine WL.pu rfl (WL.nil (WX.a (WC.b ?_)))
   obtain ⟨z1z,zGI,h⟩:=z8 h
   refine WC.a (WL.pu rfl ?_)
   refine WL.a (d:=50) rfl rfl rfl (y9 y15 rfl (y7 .h3) rfl) ?_
   refine WL.y2v (dd:=51) rfl rfl rfl (za (l:=[.tmp 49,.tmp 50]) Tryz.call13 (.cons rfl (.cons rfl .nil))) .nil (ccz hz .nil .h1 fun w pz ho=>y6y _ _ _ _ _ _ zGI w pz ((zgE.mono ((Zle.left _ _).trans ((Zle.left _ _).trans ((Zle.yn _ _ _).trans ((Zle.left _ _).trans (Zle.yn _ _ _)))))).weak (fun _ _ h=>yG ((Zle.left _ _).trans ((Zle.left _ _).trans ((Zle.yn _ _ _).trans ((Zle.left _ _).trans (Zle.yn _ _ _))))) h))) ?_
   rintro zpN _
   refine WL.merge .here .h1 ?_
   refine WL.pu rfl (WL.pu rfl (WL.pu rfl ?_))
   refine WL.new (dd:=13) rfl rfl rfl (yk (cs:=[(.int .i64 0),(.int .i64 0)]) yo rfl) ?_
   intro zvj _
   refine WL.yb rfl rfl (ya yh rfl rfl rfl .here rfl rfl rfl) ?_
   refine WL.pu rfl (WL.nil (WX.a (WC.b ?_)))
   obtain ⟨z1A,zGJ,h⟩:=z8 h
   refine WC.a (WL.pu rfl ?_)
   refine WL.a (d:=56) rfl rfl rfl (y9 y15 rfl (y7 .h4) rfl) ?_
   refine WL.y2v (dd:=57) rfl rfl rfl (za (l:=[.tmp 55,.tmp 56]) Tryz.call14 (.cons rfl (.cons rfl .nil))) .nil (ccz hz .nil .h1 fun w pz ho=>y9M _ _ _ _ _ _ zGJ w pz ((zgE.mono ((Zle.left _ _).trans ((Zle.left _ _).trans ((Zle.yn _ _ _).trans ((Zle.left _ _).trans ((Zle.yn _ _ _).trans ((Zle.left _ _).trans (Zle.yn _ _ _)))))))).weak (fun _ _ h=>yG ((Zle.left _ _).trans ((Zle.left _ _).trans ((Zle.yn _ _ _).trans ((Zle.left _ _).trans ((Zle.yn _ _ _).trans ((Zle.left _ _).trans (Zle.yn _ _ _))))))) h))) ?_
   rintro zpO _
   refine WL.merge .here .h1 ?_
   refine WL.pu rfl (WL.pu rfl (WL.pu rfl ?_))
   refine WL.new (dd:=15) rfl rfl rfl (yk (cs:=[(.int .i64 0),(.int .i64 0)]) yo rfl) ?_
   intro zvk _
   refine WL.yb rfl rfl (ya yh rfl rfl rfl .here rfl rfl rfl) ?_
   refine WL.pu rfl (WL.nil (WX.a (WC.b ?_)))
   obtain ⟨z31,zGK,h⟩:=z8 h
   refine WC.a ?_
   refine WL.a (d:=61) rfl rfl rfl (y9 y15 rfl (y7 .h5) rfl) ?_
   refine WL.a (d:=62) rfl rfl rfl (y9 y15 rfl (y7 .h6) rfl) ?_
   refine WL.b (dd:=63) rfl rfl rfl (za (l:=[.tmp 61,.tmp 62]) Tryz.call15 (.cons rfl (.cons rfl .nil))) .nil (ccz hz .nil .h1 fun w pz ho=>y9r _ _ _ _ zGK w pz ) ?_
   refine WL.pu rfl (WL.pu rfl (WL.pu rfl ?_))
   refine WL.new (dd:=17) rfl rfl rfl (yk (cs:=[(.int .i64 0),(.int .i64 0),(.int .i64 0),(.int .i64 0)]) y76 rfl) ?_
   intro ziU _
   refine WL.yb rfl rfl (ya y4L rfl rfl rfl .here rfl rfl rfl) ?_
   refine WL.pu rfl (WL.nil (WX.a (WC.b ?_)))
   obtain ⟨z32,zGL,h⟩:=z8 h
   refine WC.a ?_
   refine WL.a (d:=67) rfl rfl rfl (y9 y15 rfl (y7 .h6) rfl) ?_
   refine WL.a (d:=68) rfl rfl rfl (y9 y15 rfl (y7 .h7) rfl) ?_
   refine WL.b (dd:=69) rfl rfl rfl (za (l:=[.tmp 67,.tmp 68]) Tryz.call16 (.cons rfl (.cons rfl .nil))) .nil (ccz hz .nil .h2 fun w pz ho=>yaF _ _ _ _ zGL w pz ) ?_
   refine WL.pu rfl (WL.pu rfl (WL.pu rfl ?_))
   refine WL.new (dd:=19) rfl rfl rfl (yk (cs:=[(.int .i64 0),(.int .i64 0),(.int .i64 0),(.int .i64 0)]) y76 rfl) ?_
   intro ziV _
   refine WL.yb rfl rfl (ya y4L rfl rfl rfl .here rfl rfl rfl) ?_
   refine WL.pu rfl (WL.nil (WX.a (WC.b ?_)))
   obtain ⟨zgD,zvl,h⟩:=z8 h
   obtain ⟨zpH,zvm,h⟩:=z8 h
   refine WC.yH (fun i=>[].contains i) [] rfl ?_
   refine WD.e (i:=0) (d:=72) (by kernel_rfl) rfl z6 z7 rfl rfl rfl (y9 y5 rfl (y7 .h6) rfl) ?_
   refine WD.e (i:=1) (d:=73) (by kernel_rfl) rfl z6 z7 rfl rfl rfl (y9 y5 rfl (y7 .h5) rfl) ?_
   refine WD.a (i:=2) (d:=74) (by kernel_rfl) rfl z6 z7 rfl rfl rfl (fun _=>y4j (enc:=e40) (a:=z18.1) (b:=z19.1) y6v rfl rfl) ?_
   refine WD.a (i:=3) (d:=75) (by kernel_rfl) rfl z6 z7 rfl rfl rfl (fun _=>q_m rfl) ?_
   refine WD.mid (fuel':=31) [(4,(.pointer (some ⟨z7b,0,none⟩))),(13,(.pointer (some ⟨zvj,0,none⟩))),(14,(.int .i64 z1z.2)),(15,(.pointer (some ⟨zvk,0,none⟩))),(16,(.int .i64 z1A.2)),(17,(.pointer (some ⟨ziU,0,none⟩))),(18,(.int .i64 z31.2)),(19,(.pointer (some ⟨ziV,0,none⟩))),(20,(.int .i64 z32.2)),(75,(.bool (decide (z18.1 = z19.1)))),(79,(.bool ((decide (z18.1 = z19.1)) && (decide (z18.2 = z19.2)))))] (yC 39 [7,6,5,4,3,2,1,0]) ?_ (fun zvn=>?_)
   rotate_left
   ·rcases Bool.eq_false_or_eq_true (decide (z18.1 = z19.1)) with hb' | hb'
    ·have zpP:=hb'; clear hb'
     refine WD.pin (i:=75) rfl zpP ?_
     refine WD.a (i:=4) (d:=76) (by kernel_rfl) rfl z6 z7 rfl rfl rfl (fun _=>q_m rfl) ?_
     refine WD.a (i:=5) (d:=77) (by kernel_rfl) rfl z6 z7 rfl rfl rfl (fun _=>q_m rfl) ?_
     refine WD.a (i:=6) (d:=78) (by kernel_rfl) rfl z6 z7 rfl rfl rfl (fun _=>y6M rfl rfl) ?_
     refine WD.a (i:=7) (d:=79) (by kernel_rfl) rfl z6 z7 rfl rfl rfl (fun _=>y18 rfl rfl) ?_
     refine WD.yt (.cons .here (.cons .here (.cons .here (.cons .here (.cons .here (.cons .here (.cons .here (.cons .here (.cons .here .nil))))))))) ?_ zvn
     exact (.cons rfl (.cons rfl (.cons rfl (.cons rfl (.cons rfl (.cons rfl (.cons rfl (.cons rfl (.cons rfl (.cons (zf (Eq.symm zpP)) (.cons (zf (y31 zpP)) .nil)))))))))))
    ·have zpQ:=hb'; clear hb'
     refine WD.pin (i:=75) rfl zpQ ?_
     refine WD.b (i:=4) (d:=76) (by kernel_rfl) rfl z6 z7 rfl rfl rfl ?_
     refine WD.b (i:=5) (d:=77) (by kernel_rfl) rfl z6 z7 rfl rfl rfl ?_
     refine WD.b (i:=6) (d:=78) (by kernel_rfl) rfl z6 z7 rfl rfl rfl ?_
     refine WD.a (i:=7) (d:=79) (by kernel_rfl) rfl z6 z7 rfl rfl rfl (fun _=>y19 rfl rfl) ?_
     refine WD.yt (.cons .here (.cons .here (.cons .here (.cons .here (.cons .here (.cons .here (.cons .here (.cons .here (.cons .here .nil))))))))) ?_ zvn
     exact (.cons rfl (.cons rfl (.cons rfl (.cons rfl (.cons rfl (.cons rfl (.cons rfl (.cons rfl (.cons rfl (.cons (zf (Eq.symm zpQ)) (.cons (zf (y30 zpQ)) .nil)))))))))))
   refine WD.d #[true,true,true,true,true,true,true,true,false,false,false,false,false,false,false,false,false,false,false,false,false,false,false,false,false,false,false,false,false,false,false,false,false,false,false,false,false,false,false] (by kernel_rfl) ?_
   refine WD.a (i:=8) (d:=80) (by kernel_rfl) rfl z6 z7 rfl rfl rfl (fun _=>q_m rfl) ?_
   refine WD.mid (fuel':=26) [(4,(.pointer (some ⟨z7b,0,none⟩))),(14,(.int .i64 z1z.2)),(16,(.int .i64 z1A.2)),(17,(.pointer (some ⟨ziU,0,none⟩))),(18,(.int .i64 z31.2)),(19,(.pointer (some ⟨ziV,0,none⟩))),(20,(.int .i64 z32.2)),(80,(.bool ((decide (z18.1 = z19.1)) && (decide (z18.2 = z19.2))))),(84,(.bool (((decide (z18.1 = z19.1)) && (decide (z18.2 = z19.2))) && (decide (z1z.1 = z1A.1)))))] (yC 39 [12,11,10,9,8,7,6,5,4,3,2,1,0]) ?_ (fun zvo=>?_)
   rotate_left
   ·rcases Bool.eq_false_or_eq_true ((decide (z18.1 = z19.1)) && (decide (z18.2 = z19.2))) with hb' | hb'
    ·have zpR:=hb'; clear hb'
     refine WD.pin (i:=80) rfl zpR ?_
     refine WD.e (i:=9) (d:=81) (by kernel_rfl) rfl z6 z7 rfl rfl rfl (y9 y5 rfl (y7 .h4) rfl) ?_
     refine WD.e (i:=10) (d:=82) (by kernel_rfl) rfl z6 z7 rfl rfl rfl (y9 y5 rfl (y7 .h2) rfl) ?_
     refine WD.a (i:=11) (d:=83) (by kernel_rfl) rfl z6 z7 rfl rfl rfl (fun _=>y4j (enc:=e40) (a:=z1z.1) (b:=z1A.1) y6v rfl rfl) ?_
     refine WD.a (i:=12) (d:=84) (by kernel_rfl) rfl z6 z7 rfl rfl rfl (fun _=>y18 rfl rfl) ?_
     refine WD.yt (.cons .here (.cons .here (.cons .here (.cons .here (.cons .here (.cons .here (.cons .here (.cons .here (.cons .here .nil))))))))) ?_ zvo
     exact (.cons rfl (.cons rfl (.cons rfl (.cons rfl (.cons rfl (.cons rfl (.cons rfl (.cons (zf (Eq.symm zpR)) (.cons (zf (y31 zpR)) .nil)))))))))
    ·have zpS:=hb'; clear hb'
     refine WD.pin (i:=80) rfl zpS ?_
     refine WD.b (i:=9) (d:=81) (by kernel_rfl) rfl z6 z7 rfl rfl rfl ?_
     refine WD.b (i:=10) (d:=82) (by kernel_rfl) rfl z6 z7 rfl rfl rfl ?_
     refine WD.b (i:=11) (d:=83) (by kernel_rfl) rfl z6 z7 rfl rfl rfl ?_
     refine WD.a (i:=12) (d:=84) (by kernel_rfl) rfl z6 z7 rfl rfl rfl (fun _=>y19 rfl rfl) ?_
     refine WD.yt (.cons .here (.cons .here (.cons .here (.cons .here (.cons .here (.cons .here (.cons .here (.cons .here (.cons .here .nil))))))))) ?_ zvo
     exact (.cons rfl (.cons rfl (.cons rfl (.cons rfl (.cons rfl (.cons rfl (.cons rfl (.cons (zf (Eq.symm zpS)) (.cons (zf (y30 zpS)) .nil)))))))))
   refine WD.d #[true,true,true,true,true,true,true,true,true,true,true,true,true,false,false,false,false,false,false,false,false,false,false,false,false,false,false,false,false,false,false,false,false,false,false,false,false,false,false] (by kernel_rfl) ?_
   refine WD.a (i:=13) (d:=85) (by kernel_rfl) rfl z6 z7 rfl rfl rfl (fun _=>q_m rfl) ?_
   refine WD.mid (fuel':=21) [(4,(.pointer (some ⟨z7b,0,none⟩))),(17,(.pointer (some ⟨ziU,0,none⟩))),(18,(.int .i64 z31.2)),(19,(.pointer (some ⟨ziV,0,none⟩))),(20,(.int .i64 z32.2)),(85,(.bool (((decide (z18.1 = z19.1)) && (decide (z18.2 = z19.2))) && (decide (z1z.1 = z1A.1))))),(89,(.bool ((((decide (z18.1 = z19.1)) && (decide (z18.2 = z19.2))) && (decide (z1z.1 = z1A.1))) && (decide (z1z.2 = z1A.2)))))] (yC 39 [17,16,15,14,13,12,11,10,9,8,7,6,5,4,3,2,1,0]) ?_ (fun zvp=>?_)
   rotate_left
   ·rcases Bool.eq_false_or_eq_true (((decide (z18.1 = z19.1)) && (decide (z18.2 = z19.2))) && (decide (z1z.1 = z1A.1))) with hb' | hb'
    ·have zpT:=hb'; clear hb'
     refine WD.pin (i:=85) rfl zpT ?_
     refine WD.a (i:=14) (d:=86) (by kernel_rfl) rfl z6 z7 rfl rfl rfl (fun _=>q_m rfl) ?_
     refine WD.a (i:=15) (d:=87) (by kernel_rfl) rfl z6 z7 rfl rfl rfl (fun _=>q_m rfl) ?_
     refine WD.a (i:=16) (d:=88) (by kernel_rfl) rfl z6 z7 rfl rfl rfl (fun _=>y6M rfl rfl) ?_
     refine WD.a (i:=17) (d:=89) (by kernel_rfl) rfl z6 z7 rfl rfl rfl (fun _=>y18 rfl rfl) ?_
     refine WD.yt (.cons .here (.cons .here (.cons .here (.cons .here (.cons .here (.cons .here (.cons .here (.cons .here (.cons .here .nil))))))))) ?_ zvp
     exact (.cons rfl (.cons rfl (.cons rfl (.cons rfl (.cons rfl (.cons (zf (Eq.symm zpT)) (.cons (zf (y31 zpT)) .nil)))))))
    ·have zpU:=hb'; clear hb'
     refine WD.pin (i:=85) rfl zpU ?_
     refine WD.b (i:=14) (d:=86) (by kernel_rfl) rfl z6 z7 rfl rfl rfl ?_
     refine WD.b (i:=15) (d:=87) (by kernel_rfl) rfl z6 z7 rfl rfl rfl ?_
     refine WD.b (i:=16) (d:=88) (by kernel_rfl) rfl z6 z7 rfl rfl rfl ?_
     refine WD.a (i:=17) (d:=89) (by kernel_rfl) rfl z6 z7 rfl rfl rfl (fun _=>y19 rfl rfl) ?_
     refine WD.yt (.cons .here (.cons .here (.cons .here (.cons .here (.cons .here (.cons .here (.cons .here (.cons .here (.cons .here .nil))))))))) ?_ zvp
     exact (.cons rfl (.cons rfl (.cons rfl (.cons rfl (.cons rfl (.cons (zf (Eq.symm zpU)) (.cons (zf (y30 zpU)) .nil)))))))
   refine WD.d #[true,true,true,true,true,true,true,true,true,true,true,true,true,true,true,true,true,true,false,false,false,false,false,false,false,false,false,false,false,false,false,false,false,false,false,false,false,false,false] (by kernel_rfl) ?_
   refine WD.a (i:=18) (d:=90) (by kernel_rfl) rfl z6 z7 rfl rfl rfl (fun _=>q_m rfl) ?_
   refine WD.mid (fuel':=16) [(4,(.pointer (some ⟨z7b,0,none⟩))),(18,(.int .i64 z31.2)),(20,(.int .i64 z32.2)),(90,(.bool ((((decide (z18.1 = z19.1)) && (decide (z18.2 = z19.2))) && (decide (z1z.1 = z1A.1))) && (decide (z1z.2 = z1A.2))))),(94,(.bool (((((decide (z18.1 = z19.1)) && (decide (z18.2 = z19.2))) && (decide (z1z.1 = z1A.1))) && (decide (z1z.2 = z1A.2))) && (decide (z31.1 = z32.1)))))] (yC 39 [22,21,20,19,18,17,16,15,14,13,12,11,10,9,8,7,6,5,4,3,2,1,0]) ?_ (fun zvq=>?_)
   rotate_left
   ·rcases Bool.eq_false_or_eq_true ((((decide (z18.1 = z19.1)) && (decide (z18.2 = z19.2))) && (decide (z1z.1 = z1A.1))) && (decide (z1z.2 = z1A.2))) with hb' | hb'
    ·have zpV:=hb'; clear hb'
     refine WD.pin (i:=90) rfl zpV ?_
     refine WD.e (i:=19) (d:=91) (by kernel_rfl) rfl z6 z7 rfl rfl rfl (y9 y15 rfl (y7 .h1) rfl) ?_
     refine WD.e (i:=20) (d:=92) (by kernel_rfl) rfl z6 z7 rfl rfl rfl (y9 y15 rfl (y7 .here) rfl) ?_
     refine WD.a (i:=21) (d:=93) (by kernel_rfl) rfl z6 z7 rfl rfl rfl (fun _=>y4j (enc:=e42) (a:=z31.1) (b:=z32.1) eqT_42 rfl rfl) ?_
     refine WD.a (i:=22) (d:=94) (by kernel_rfl) rfl z6 z7 rfl rfl rfl (fun _=>y18 rfl rfl) ?_
     refine WD.yt (.cons .here (.cons .here (.cons .here (.cons .here (.cons .here (.cons .here (.cons .here (.cons .here (.cons .here .nil))))))))) ?_ zvq
     exact (.cons rfl (.cons rfl (.cons rfl (.cons (zf (Eq.symm zpV)) (.cons (zf (y31 zpV)) .nil)))))
    ·have zpW:=hb'; clear hb'
     refine WD.pin (i:=90) rfl zpW ?_
     refine WD.b (i:=19) (d:=91) (by kernel_rfl) rfl z6 z7 rfl rfl rfl ?_
     refine WD.b (i:=20) (d:=92) (by kernel_rfl) rfl z6 z7 rfl rfl rfl ?_
     refine WD.b (i:=21) (d:=93) (by kernel_rfl) rfl z6 z7 rfl rfl rfl ?_
     refine WD.a (i:=22) (d:=94) (by kernel_rfl) rfl z6 z7 rfl rfl rfl (fun _=>y19 rfl rfl) ?_
     refine WD.yt (.cons .here (.cons .here (.cons .here (.cons .here (.cons .here (.cons .here (.cons .here (.cons .here (.cons .here .nil))))))))) ?_ zvq
     exact (.cons rfl (.cons rfl (.cons rfl (.cons (zf (Eq.symm zpW)) (.cons (zf (y30 zpW)) .nil)))))
   refine WD.d #[true,true,true,true,true,true,true,true,true,true,true,true,true,true,true,true,true,true,true,true,true,true,true,false,false,false,false,false,false,false,false,false,false,false,false,false,false,false,false] (by kernel_rfl) ?_
   refine WD.a (i:=23) (d:=95) (by kernel_rfl) rfl z6 z7 rfl rfl rfl (fun _=>q_m rfl) ?_
   refine WD.mid (fuel':=11) [(4,(.pointer (some ⟨z7b,0,none⟩))),(95,(.bool (((((decide (z18.1 = z19.1)) && (decide (z18.2 = z19.2))) && (decide (z1z.1 = z1A.1))) && (decide (z1z.2 = z1A.2))) && (decide (z31.1 = z32.1))))),(99,(.bool ((((((decide (z18.1 = z19.1)) && (decide (z18.2 = z19.2))) && (decide (z1z.1 = z1A.1))) && (decide (z1z.2 = z1A.2))) && (decide (z31.1 = z32.1))) && (decide (z31.2 = z32.2)))))] (yC 39 [27,26,25,24,23,22,21,20,19,18,17,16,15,14,13,12,11,10,9,8,7,6,5,4,3,2,1,0]) ?_ (fun zvr=>?_)
   rotate_left
   ·rcases Bool.eq_false_or_eq_true (((((decide (z18.1 = z19.1)) && (decide (z18.2 = z19.2))) && (decide (z1z.1 = z1A.1))) && (decide (z1z.2 = z1A.2))) && (decide (z31.1 = z32.1))) with hb' | hb'
    ·have zpX:=hb'; clear hb'
     refine WD.pin (i:=95) rfl zpX ?_
     refine WD.a (i:=24) (d:=96) (by kernel_rfl) rfl z6 z7 rfl rfl rfl (fun _=>q_m rfl) ?_
     refine WD.a (i:=25) (d:=97) (by kernel_rfl) rfl z6 z7 rfl rfl rfl (fun _=>q_m rfl) ?_
     refine WD.a (i:=26) (d:=98) (by kernel_rfl) rfl z6 z7 rfl rfl rfl (fun _=>y6M rfl rfl) ?_
     refine WD.a (i:=27) (d:=99) (by kernel_rfl) rfl z6 z7 rfl rfl rfl (fun _=>y18 rfl rfl) ?_
     refine WD.yt (.cons .here (.cons .here (.cons .here (.cons .here (.cons .here (.cons .here (.cons .here (.cons .here (.cons .here .nil))))))))) ?_ zvr
     exact (.cons rfl (.cons (zf (Eq.symm zpX)) (.cons (zf (y31 zpX)) .nil)))
    ·have zpY:=hb'; clear hb'
     refine WD.pin (i:=95) rfl zpY ?_
     refine WD.b (i:=24) (d:=96) (by kernel_rfl) rfl z6 z7 rfl rfl rfl ?_
     refine WD.b (i:=25) (d:=97) (by kernel_rfl) rfl z6 z7 rfl rfl rfl ?_
     refine WD.b (i:=26) (d:=98) (by kernel_rfl) rfl z6 z7 rfl rfl rfl ?_
     refine WD.a (i:=27) (d:=99) (by kernel_rfl) rfl z6 z7 rfl rfl rfl (fun _=>y19 rfl rfl) ?_
     refine WD.yt (.cons .here (.cons .here (.cons .here (.cons .here (.cons .here (.cons .here (.cons .here (.cons .here (.cons .here .nil))))))))) ?_ zvr
     exact (.cons rfl (.cons (zf (Eq.symm zpY)) (.cons (zf (y30 zpY)) .nil)))
   refine WD.d #[true,true,true,true,true,true,true,true,true,true,true,true,true,true,true,true,true,true,true,true,true,true,true,true,true,true,true,true,false,false,false,false,false,false,false,false,false,false,false] (by kernel_rfl) ?_
   refine WD.a (i:=28) (d:=100) (by kernel_rfl) rfl z6 z7 rfl rfl rfl (fun _=>q_m rfl) ?_
   refine WD.mid (fuel':=4) [(100,(.bool ((((((decide (z18.1 = z19.1)) && (decide (z18.2 = z19.2))) && (decide (z1z.1 = z1A.1))) && (decide (z1z.2 = z1A.2))) && (decide (z31.1 = z32.1))) && (decide (z31.2 = z32.2))))),(106,(.bool zgD))] (yC 39 [34,33,32,31,30,29,28,27,26,25,24,23,22,21,20,19,18,17,16,15,14,13,12,11,10,9,8,7,6,5,4,3,2,1,0]) ?_ (fun zvs=>?_)
   rotate_left
   ·rcases Bool.eq_false_or_eq_true ((((((decide (z18.1 = z19.1)) && (decide (z18.2 = z19.2))) && (decide (z1z.1 = z1A.1))) && (decide (z1z.2 = z1A.2))) && (decide (z31.1 = z32.1))) && (decide (z31.2 = z32.2))) with hb' | hb'
    ·have zpZ:=hb'; clear hb'
     have zbQ:=yd zvl zpZ
     obtain ⟨zvg,zGM,zbQ⟩:=z8 zbQ
     obtain ⟨zvh,zGN,zbQ⟩:=z8 zbQ
     replace zbQ:=Option.some.inj zbQ
     refine WD.pin (i:=100) rfl zpZ ?_
     refine WD.e (i:=29) (d:=101) (by kernel_rfl) rfl z6 z7 rfl rfl rfl (y9 y15 rfl (y7 .h7) rfl) ?_
     refine WD.c (i:=30) (d:=102) (by kernel_rfl) rfl z6 z7 rfl rfl rfl (za (l:=[.tmp 101]) Tryz.call17 (.cons rfl .nil)) (ccz hz .nil .h3 fun w pz ho=>y3Z _ _ _ zGM w pz ) ?_
     refine WD.e (i:=31) (d:=103) (by kernel_rfl) rfl z6 z7 rfl rfl rfl (y9 y15 rfl (y7 .h7) rfl) ?_
     refine WD.c (i:=32) (d:=104) (by kernel_rfl) rfl z6 z7 rfl rfl rfl (za (l:=[.tmp 103]) Tryz.call18 (.cons rfl .nil)) (ccz hz .nil .h3 fun w pz ho=>y5z _ _ _ zGN w pz ) ?_
     refine WD.a (i:=33) (d:=105) (by kernel_rfl) rfl z6 z7 rfl rfl rfl (fun _=>q_beql Tryz.underlying4 rfl rfl) ?_
     refine WD.a (i:=34) (d:=106) (by kernel_rfl) rfl z6 z7 rfl rfl rfl (fun _=>y18 rfl rfl) ?_
     refine WD.yt (.cons .here (.cons .here (.cons .here (.cons .here (.cons .here (.cons .here (.cons .here (.cons .here (.cons .here .nil))))))))) ?_ zvs
     exact (.cons (zf (Eq.symm zpZ)) (.cons (zf zbQ) .nil))
    ·have zq0:=hb'; clear hb'
     have zq1:=ye zvl zq0
     replace zq1:=Option.some.inj zq1
     refine WD.pin (i:=100) rfl zq0 ?_
     refine WD.b (i:=29) (d:=101) (by kernel_rfl) rfl z6 z7 rfl rfl rfl ?_
     refine WD.b (i:=30) (d:=102) (by kernel_rfl) rfl z6 z7 rfl rfl rfl ?_
     refine WD.b (i:=31) (d:=103) (by kernel_rfl) rfl z6 z7 rfl rfl rfl ?_
     refine WD.b (i:=32) (d:=104) (by kernel_rfl) rfl z6 z7 rfl rfl rfl ?_
     refine WD.b (i:=33) (d:=105) (by kernel_rfl) rfl z6 z7 rfl rfl rfl ?_
     refine WD.a (i:=34) (d:=106) (by kernel_rfl) rfl z6 z7 rfl rfl rfl (fun _=>y19 rfl rfl) ?_
     refine WD.yt (.cons .here (.cons .here (.cons .here (.cons .here (.cons .here (.cons .here (.cons .here (.cons .here (.cons .here .nil))))))))) ?_ zvs
     exact (.cons (zf (Eq.symm zq0)) (.cons (zf zq1) .nil))
   refine WD.d #[true,true,true,true,true,true,true,true,true,true,true,true,true,true,true,true,true,true,true,true,true,true,true,true,true,true,true,true,true,true,true,true,true,true,true,false,false,false,false] (by kernel_rfl) ?_
   refine WD.a (i:=35) (d:=107) (by kernel_rfl) rfl z6 z7 rfl rfl rfl (fun _=>q_m rfl) ?_
   refine WD.y5C (fuel':=1) (fun (zew : Zp)=>[(107,(.bool zgD)),(109,(.bool zpH))]) (fun (zew : Zp)=>[stb ziV 42 [(.int .i64 z32.1.fR.fN),(.int .i64 z32.1.fR.fD),(.int .i64 z32.1.fL.fN),(.int .i64 z32.1.fL.fD)],stb ziU 42 [(.int .i64 z31.1.fR.fN),(.int .i64 z31.1.fR.fD),(.int .i64 z31.1.fL.fN),(.int .i64 z31.1.fL.fD)],stb zvk 40 [(.int .i64 z1A.1.fN),(.int .i64 z1A.1.fD)],fz zew,stb zvj 40 [(.int .i64 z1z.1.fN),(.int .i64 z1z.1.fD)],stb zGH 40 [(.int .i64 z19.1.fN),(.int .i64 z19.1.fD)],stb zGF 40 [(.int .i64 z18.1.fN),(.int .i64 z18.1.fD)],stb z7b 42 [(.int .i64 z15.fR.fN),(.int .i64 z15.fR.fD),(.int .i64 z15.fL.fN),(.int .i64 z15.fL.fD)],stb zgF 42 [(.int .i64 z1m.fR.fN),(.int .i64 z1m.fR.fD),(.int .i64 z1m.fL.fN),(.int .i64 z1m.fL.fD)]]) (fun (zew : Zp)=>Zle (Z ++ (((([] ++ zpL) ++ zpM) ++ zpN) ++ zpO)) (Z ++ zew)) (yC 39 [37,36,35,34,33,32,31,30,29,28,27,26,25,24,23,22,21,20,19,18,17,16,15,14,13,12,11,10,9,8,7,6,5,4,3,2,1,0]) ?_ (fun zvt=>?_)
   rotate_left
   ·rcases Bool.eq_false_or_eq_true zgD with hb' | hb'
    ·have zq2:=hb'; clear hb'
     have zgG:=yd zvm zq2
     obtain ⟨zvi,zGO,zgG⟩:=z8 zgG
     replace zgG:=Option.some.inj zgG
     refine WD.pin (i:=107) rfl zq2 ?_
     refine WD.call1 (i:=36) (dd:=108) rfl (by kernel_rfl) rfl rfl rfl (.inr rfl) (za (l:=[]) Tryz.call5 .nil) .nil (ccz hz .nil .h3 fun w pz ho=>y6I _ _ zGO w pz ) ?_
     rintro zGP _
     refine WD.merge .here .h3 ?_
     refine WD.a (i:=37) (d:=109) (by kernel_rfl) rfl z6 z7 rfl rfl rfl (fun _=>y18 rfl rfl) ?_
     refine WD.yt (.cons .h1 (.cons .h1 (.cons .h1 (.cons .here (.cons .here (.cons .here (.cons .here (.cons .here (.cons .here .nil))))))))) ?_ (zvt ((((([] ++ zpL) ++ zpM) ++ zpN) ++ zpO) ++ zGP) ((Zle.left _ _).trans (Zle.yn _ _ _)))
     exact (.cons (zf (Eq.symm zq2)) (.cons (zf zgG) .nil))
    ·have zq3:=hb'; clear hb'
     have zq4:=ye zvm zq3
     replace zq4:=Option.some.inj zq4
     refine WD.pin (i:=107) rfl zq3 ?_
     refine WD.b (i:=36) (d:=108) (by kernel_rfl) rfl z6 z7 rfl rfl rfl ?_
     refine WD.a (i:=37) (d:=109) (by kernel_rfl) rfl z6 z7 rfl rfl rfl (fun _=>y19 rfl rfl) ?_
     refine WD.yt (.cons .here (.cons .here (.cons .here (.cons .here (.cons .here (.cons .here (.cons .here (.cons .here (.cons .here .nil))))))))) ?_ (zvt (((([] ++ zpL) ++ zpM) ++ zpN) ++ zpO) (Zle.refl _))
     exact (.cons (zf (Eq.symm zq3)) (.cons (zf zq4) .nil))
   intro zew zMz
   refine WD.d #[true,true,true,true,true,true,true,true,true,true,true,true,true,true,true,true,true,true,true,true,true,true,true,true,true,true,true,true,true,true,true,true,true,true,true,true,true,true,false] (by kernel_rfl) ?_
   refine WD.a (i:=38) (d:=6) (by kernel_rfl) rfl z6 z7 rfl rfl rfl (fun _=>q_z rfl) ?_
   refine WD.done (by kernel_rfl) ?_
   refine WX.a (WC.ret ?_)
   obtain rfl:=Option.some.inj h
   refine WX.y8 Tryz.results4 (.tmp rfl .nil) (fun w hw=>?_)
   exact ⟨zew,yD rfl,trivial,hw.sub (.cons .h3 .nil)⟩
end Go.Proofs.YtakfmdiiehcbdaaGreat

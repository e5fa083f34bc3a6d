/- A part of this claim's proof: models of functions, walks, plain laws. No conditions. -/
import Derived.Test.YtakfmdiiehcbdaaGreatW03Ze
namespace Go.Proofs.YtakfmdiiehcbdaaGreat
open Go Go.RowKit Sep
set_option linter.all false
set_option maxRecDepth 30000
set_option maxHeartbeats 4000000
def y3h (zbP : List (List z2)) (z1M : S41) (z5v : z1) : Option (z1 × Int) :=
 (y4c zbP z5v).bind fun zgu=>(if decide (zgu.2 ≠ 0) then some true else (yE z5v z1M.fL).bind fun zv0=>some (decide (zv0 ≤ 0))).bind fun zpn=>if zpn then some (zgu.1,zgu.2) else (yB 1 z5v z1M.fL).bind fun ziL=>if decide (ziL.2 ≠ 0) then some ((⟨0,0⟩ : z1),ziL.2) else (yB 2 z1M.fR ziL.1).bind fun ziM=>if decide (ziM.2 ≠ 0) then some ((⟨0,0⟩ : z1),ziM.2) else (yB 1 zgu.1 ziM.1).bind fun zpo=>some (zpo.1,zpo.2)
set_option maxRecDepth 20000 in
theorem y95 (Z : Zp) (ziN : Option Addr) (ziO : Nat) (zbP : List (List z2)) (z1M : S41) (z5v : z1) (r : z1 × Int)
  (h : y3h zbP z1M z5v = some r) (w₀ : World) (hz : PZ [] w₀ Z)
  (zG8 : ZS Z 1 (p23 Z) ziN ziO zbP) :
  Calls Tryz.prog 41 #[(.slice ziN zbP.length ziO),(.agg #[(.int .i64 z1M.fR.fN),(.int .i64 z1M.fR.fD),(.int .i64 z1M.fL.fN),(.int .i64 z1M.fL.fD)]),(.agg #[(.int .i64 z5v.fN),(.int .i64 z5v.fD)])] w₀ fun e w'=>e = .returned (.tuple #[(.agg #[(.int .i64 r.1.fN),(.int .i64 r.1.fD)]),(.int .i64 r.2)]) ∧ Hp [] w₀ w' []:=by
 unfold y3h at h
 refine Calls.yg (vs:=[(.slice ziN zbP.length ziO),(.agg #[(.int .i64 z1M.fR.fN),(.int .i64 z1M.fR.fD),(.int .i64 z1M.fL.fN),(.int .i64 z1M.fL.fD)]),(.agg #[(.int .i64 z5v.fN),(.int .i64 z5v.fD)])]) (pre:=[]) (env:=[(0,(.slice ziN zbP.length ziO)),(1,(.agg #[(.int .i64 z1M.fR.fN),(.int .i64 z1M.fR.fD),(.int .i64 z1M.fL.fN),(.int .i64 z1M.fL.fD)])),(2,(.agg #[(.int .i64 z5v.fN),(.int .i64 z5v.fD)]))]) Tryz.func41 rfl Tryz.ntmps41 rfl (Hp.nil w₀ _) rfl ?_
 refine WC.b (WC.a ?_)
 refine WL.new (dd:=4) rfl rfl rfl (yx (cs:=[(.int .i64 z1M.fR.fN),(.int .i64 z1M.fR.fD),(.int .i64 z1M.fL.fN),(.int .i64 z1M.fL.fD)]) rfl rfl) ?_
 intro zM8 _
 refine WL.new (dd:=5) rfl rfl rfl (yx (cs:=[(.int .i64 z5v.fN),(.int .i64 z5v.fD)]) rfl rfl) ?_
 intro zM9 _
 refine WL.new (dd:=6) rfl rfl rfl (yk (cs:=[(.int .i64 0),(.int .i64 0)]) yo rfl) ?_
 intro zMa _
 refine WL.pu rfl (WL.nil (WX.a (WC.b ?_)))
 obtain ⟨zgu,zG9,h⟩:=z8 h
 refine WC.a (WL.pu rfl ?_)
 refine WL.a (d:=13) rfl rfl rfl (y9 y5 rfl (y7 .h1) rfl) ?_
 refine WL.b (dd:=14) rfl rfl rfl (za (l:=[.tmp 12,.tmp 13]) Tryz.call58 (.cons rfl (.cons rfl .nil))) .nil (cc hz .nil fun w pz ho=>y8p _ _ _ _ _ _ zG9 w pz zG8) ?_
 refine WL.pu rfl (WL.pu rfl (WL.pu rfl ?_))
 refine WL.new (dd:=8) rfl rfl rfl (yk (cs:=[(.int .i64 0),(.int .i64 0)]) yo rfl) ?_
 intro zMb _
 refine WL.yb rfl rfl (ya yh rfl rfl rfl .here rfl rfl rfl) ?_
 refine WL.pu rfl (WL.nil (WX.a (WC.b (WC.b ?_))))
 obtain ⟨zpn,zv1,h⟩:=z8 h
 refine WC.a (WL.pu rfl (WL.pu rfl (WL.pu rfl ?_)))
 refine WL.seg false 5 19 (B:=zpn) rfl rfl rfl rfl rfl rfl (fun h=>(Option.some.inj (yd zv1 h)).symm) (fun _ zGa=>?_) ?_
 ·skip
  have zgv:=ye zv1 zGa
  obtain ⟨zv0,zGb,zgv⟩:=z8 zgv
  replace zgv:=Option.some.inj zgv
  refine WL.a (d:=20) rfl rfl rfl (y9 y5 rfl (y7 .h2) rfl) ?_
  refine WL.a (d:=21) rfl rfl rfl (y4 y3r rfl rfl) ?_
  refine WL.a (d:=22) rfl rfl rfl (ys (cs:=[(.int .i64 z1M.fL.fN),(.int .i64 z1M.fL.fD)]) y5 rfl rfl (yW (s:=2) .h3 rfl)) ?_
  refine WL.b (dd:=23) rfl rfl rfl (za (l:=[.tmp 20,.tmp 22]) Tryz.call28 (.cons rfl (.cons rfl .nil))) .nil (cc hz .nil fun w pz ho=>y2H _ _ _ _ zGb w pz ) ?_
  refine WL.pu rfl (WL.pu rfl ?_)
  exact WL.yw zgv rfl rfl .all
 refine WL.nil (WX.a ?_)
 refine WC.cond rfl (fun zpp=>?_) (fun zpp=>?_)
 ·replace h:=yd h zpp
  refine WC.b (WC.a ?_)
  refine WL.a (d:=26) rfl rfl rfl (y9 y5 rfl (y7 .here) rfl) ?_
  refine WL.pu rfl ?_
  refine WL.yb rfl rfl (ya yh rfl rfl rfl .h1 rfl rfl rfl) ?_
  refine WL.pu rfl (WL.nil (WX.a (WC.ret (WX.y6 ?_))))
  obtain rfl:=Option.some.inj h
  refine WX.y8 Tryz.results41 (.agg rfl y5 rfl (y7 .here) (.tmp rfl .nil)) (fun w hw=>?_)
  exact ⟨yF rfl rfl,hw.sub .nil⟩
 ·replace h:=ye h zpp
  refine WC.skip (WX.a (WC.b ?_))
  obtain ⟨ziL,zGc,h⟩:=z8 h
  refine WC.a ?_
  refine WL.a (d:=29) rfl rfl rfl (y9 y5 rfl (y7 .h2) rfl) ?_
  refine WL.a (d:=30) rfl rfl rfl (y4 y3r rfl rfl) ?_
  refine WL.a (d:=31) rfl rfl rfl (ys (cs:=[(.int .i64 z1M.fL.fN),(.int .i64 z1M.fL.fD)]) y5 rfl rfl (yW (s:=2) .h3 rfl)) ?_
  refine WL.b (dd:=32) rfl rfl rfl (za (l:=[.const (.int .i64 1),.tmp 29,.tmp 31]) Tryz.call43 (.cons rfl (.cons rfl (.cons rfl .nil)))) .nil (cc hz .nil fun w pz ho=>y29 _ _ _ _ _ zGc w pz ) ?_
  refine WL.pu rfl (WL.pu rfl (WL.pu rfl ?_))
  refine WL.new (dd:=10) rfl rfl rfl (yk (cs:=[(.int .i64 0),(.int .i64 0)]) yo rfl) ?_
  intro zMc _
  refine WL.yb rfl rfl (ya yh rfl rfl rfl .here rfl rfl rfl) ?_
  refine WL.pu rfl (WL.nil (WX.a (WC.b (WC.b (WC.a (WL.pu rfl (WL.pu rfl (WL.nil (WX.a ?_)))))))))
  refine WC.cond rfl (fun zpq=>?_) (fun zpq=>?_)
  ·replace h:=yd h zpq
   refine WC.b (WC.a ?_)
   refine WL.a (d:=37) rfl rfl rfl (yz (v:=(.agg #[(.int .i64 0),(.int .i64 0)])) (Eos.parts (l:=[]) .nil []) (fun _=>by kernel_rfl)) ?_
   refine WL.pu rfl ?_
   refine WL.yb rfl rfl (ya yh rfl rfl rfl .h2 rfl rfl rfl) ?_
   refine WL.pu rfl (WL.nil (WX.a (WC.ret (WX.y6 ?_))))
   obtain rfl:=Option.some.inj h
   refine WX.y8 Tryz.results41 (.agg rfl y5 rfl (y7 .here) (.tmp rfl .nil)) (fun w hw=>?_)
   exact ⟨yF rfl rfl,hw.sub .nil⟩
  ·replace h:=ye h zpq
   refine WC.skip (WX.a (WC.b ?_))
   obtain ⟨ziM,zGd,h⟩:=z8 h
   refine WC.a ?_
   refine WL.a (d:=40) rfl rfl rfl (y4 y2U rfl rfl) ?_
   refine WL.a (d:=41) rfl rfl rfl (ys (cs:=[(.int .i64 z1M.fR.fN),(.int .i64 z1M.fR.fD)]) y5 rfl rfl (yW (s:=2) .h4 rfl)) ?_
   refine WL.a (d:=42) rfl rfl rfl (y9 y5 rfl (y7 .here) rfl) ?_
   refine WL.b (dd:=43) rfl rfl rfl (za (l:=[.const (.int .i64 2),.tmp 41,.tmp 42]) Tryz.call43 (.cons rfl (.cons rfl (.cons rfl .nil)))) .nil (cc hz .nil fun w pz ho=>y29 _ _ _ _ _ zGd w pz ) ?_
   refine WL.pu rfl (WL.pu rfl (WL.pu rfl ?_))
   refine WL.yb rfl rfl (ya yh rfl rfl rfl .here rfl rfl rfl) ?_
   refine WL.pu rfl (WL.nil (WX.a (WC.b (WC.b (WC.a (WL.pu rfl (WL.pu rfl (WL.nil (WX.a ?_)))))))))
   refine WC.cond rfl (fun zpr=>?_) (fun zpr=>?_)
   ·replace h:=yd h zpr
    refine WC.b (WC.a ?_)
    refine WL.a (d:=48) rfl rfl rfl (yz (v:=(.agg #[(.int .i64 0),(.int .i64 0)])) (Eos.parts (l:=[]) .nil []) (fun _=>by kernel_rfl)) ?_
    refine WL.pu rfl ?_
    refine WL.yb rfl rfl (ya yh rfl rfl rfl .h2 rfl rfl rfl) ?_
    refine WL.pu rfl (WL.nil (WX.a (WC.ret (WX.y6 ?_))))
    obtain rfl:=Option.some.inj h
    refine WX.y8 Tryz.results41 (.agg rfl y5 rfl (y7 .here) (.tmp rfl .nil)) (fun w hw=>?_)
    exact ⟨yF rfl rfl,hw.sub .nil⟩
   ·replace h:=ye h zpr
    refine WC.skip (WX.a (WC.b ?_))
    obtain ⟨zpo,zGe,h⟩:=z8 h
    refine WC.a ?_
    refine WL.a (d:=50) rfl rfl rfl (y9 y5 rfl (y7 .h1) rfl) ?_
    refine WL.a (d:=51) rfl rfl rfl (y9 y5 rfl (y7 .here) rfl) ?_
    refine WL.b (dd:=52) rfl rfl rfl (za (l:=[.const (.int .i64 1),.tmp 50,.tmp 51]) Tryz.call43 (.cons rfl (.cons rfl (.cons rfl .nil)))) .nil (cc hz .nil fun w pz ho=>y29 _ _ _ _ _ zGe w pz ) ?_
    refine WL.pu rfl (WL.pu rfl ?_)
    refine WL.yb rfl rfl (ya yh rfl rfl rfl .h2 rfl rfl rfl) ?_
    refine WL.pu rfl (WL.nil (WX.a (WC.ret ?_)))
    obtain rfl:=Option.some.inj h
    refine WX.y8 Tryz.results41 (.agg rfl y5 rfl (y7 .here) (.tmp rfl .nil)) (fun w hw=>?_)
    exact ⟨yF rfl rfl,hw.sub .nil⟩
def y2j (z2e : List z1 × Int) (z2H : List z1) (z4d : List (List z2)) (z17 : S41) (z8Q : Int → Int → Option (z1 × Int)) : Nat → Int → Int → Int → Option (z1 × Int)
 | 0,_,_,_=>none
 | zps + 1,z3d,z57,z58=>if decide (z3d < (((z2e.1 ++ z2H).length : Nat) : Int)) then jp2 (fun (z8R : Int) (z8S : Int)=>y2j z2e z2H z4d z17 z8Q zps (i64 (z3d + 1)) z8R z8S) fun ziP=>chk ((0 : Int) ≤ z3d ∧ z3d < (((z2e.1 ++ z2H).length : Nat) : Int)) ((y3h z4d z17 (⟨((nth (z2e.1 ++ z2H) z3d).fN),((nth (z2e.1 ++ z2H) z3d).fD)⟩ : z1)).bind fun zal=>if decide (zal.2 ≠ 0) then some ((⟨0,0⟩ : z1),zal.2) else (if decide (z3d = 0) then some true else (yE zal.1 (⟨z57,z58⟩ : z1)).bind fun zv2=>some (decide (zv2 > 0))).bind fun zpt=>if zpt then ziP zal.1.fN zal.1.fD else ziP z57 z58) else z8Q z57 z58
theorem y7p {n : Nat} {z2e : List z1 × Int} {z2H : List z1} {z4d : List (List z2)} {z17 : S41} {z8Q : Int → Int → Option (z1 × Int)} {z3d : Int} {z57 : Int} {z58 : Int} {r : z1 × Int} (h : y2j z2e z2H z4d z17 z8Q n z3d z57 z58 = some r) : ∃ m,n = m + 1:=by
 cases n with
 | zero=>cases h
 | succ m=>exact ⟨m,rfl⟩
def y3F (z4d : List (List z2)) (z17 : S41) : Option (z1 × Int) :=
 (y4b z4d z17).bind fun z2e=>if decide (z2e.2 ≠ 0) then some ((⟨0,0⟩ : z1),z2e.2) else (y3V ([z17.fL] : List z1)).bind fun z2H=>chk ((((z2e.1 ++ z2H).length : Nat) : Int) * 16 ≤ 140737488355328 ∧ (((z2e.1 ++ z2H).length : Nat) : Int) ≤ 4611686018427387904) (jp2 (fun (zam : Int) (zan : Int)=>some ((⟨zam,zan⟩ : z1),0)) fun z8Q=>y2j z2e z2H z4d z17 z8Q yu 0 0 0)
set_option maxRecDepth 20000 in
theorem y9M (Z : Zp) (zeo : Option Addr) (zep : Nat) (z4d : List (List z2)) (z17 : S41) (r : z1 × Int)
  (h : y3F z4d z17 = some r) (w₀ : World) (hz : PZ [] w₀ Z)
  (zv3 : ZS Z 1 (p23 Z) zeo zep z4d) :
  Calls Tryz.prog 14 #[(.slice zeo z4d.length zep),(.agg #[(.int .i64 z17.fR.fN),(.int .i64 z17.fR.fD),(.int .i64 z17.fL.fN),(.int .i64 z17.fL.fD)])] w₀ fun e w'=>∃ Zn : Zp,e = .returned (.tuple #[(.agg #[(.int .i64 r.1.fN),(.int .i64 r.1.fD)]),(.int .i64 r.2)]) ∧ True ∧ Hp [] w₀ w' [fz Zn]:=by
 unfold y3F at h
 refine Calls.yg (vs:=[(.slice zeo z4d.length zep),(.agg #[(.int .i64 z17.fR.fN),(.int .i64 z17.fR.fD),(.int .i64 z17.fL.fN),(.int .i64 z17.fL.fD)])]) (pre:=[]) (env:=[(0,(.slice zeo z4d.length zep)),(1,(.agg #[(.int .i64 z17.fR.fN),(.int .i64 z17.fR.fD),(.int .i64 z17.fL.fN),(.int .i64 z17.fL.fD)]))]) Tryz.func14 rfl Tryz.ntmps14 rfl (Hp.nil w₀ _) rfl ?_
 refine WC.pool (WC.b (WC.a ?_))
 refine WL.new (dd:=3) rfl rfl rfl (yx (cs:=[(.int .i64 z17.fR.fN),(.int .i64 z17.fR.fD),(.int .i64 z17.fL.fN),(.int .i64 z17.fL.fD)]) rfl rfl) ?_
 intro ziQ _
 refine WL.new (dd:=4) rfl rfl rfl (yk (cs:=[(.int .i64 0),(.int .i64 0)]) yo rfl) ?_
 intro zeq _
 refine WL.pu rfl (WL.nil (WX.a (WC.b ?_)))
 obtain ⟨z2e,zGf,h⟩:=z8 h
 refine WC.a (WL.pu rfl ?_)
 refine WL.a (d:=14) rfl rfl rfl (y9 y15 rfl (y7 .h1) rfl) ?_
 refine WL.y4e (dd:=15) rfl rfl rfl (za (l:=[.tmp 13,.tmp 14]) Tryz.call36 (.cons rfl (.cons rfl .nil))) .nil (ccz hz .nil .h2 fun w pz ho=>y8o _ _ _ _ _ _ zGf w pz ((zv3.mono (Zle.left _ _)).weak (fun _ _ h=>yG (Zle.left _ _) h))) ?_
 rintro zer zMd zMe _
 refine WL.merge .here .h3 ?_
 refine WL.pu rfl (WL.pu rfl (WL.pu rfl (WL.pu rfl (WL.pu rfl (WL.nil (WX.a (WC.b (WC.b (WC.a (WL.pu rfl (WL.pu rfl (WL.nil (WX.a ?_)))))))))))))
 refine WC.cond rfl (fun zpu=>?_) (fun zpu=>?_)
 ·replace h:=yd h zpu
  refine WC.b (WC.a ?_)
  refine WL.a (d:=20) rfl rfl rfl (yz (v:=(.agg #[(.int .i64 0),(.int .i64 0)])) (Eos.parts (l:=[]) .nil []) (fun _=>by kernel_rfl)) ?_
  refine WL.pu rfl ?_
  refine WL.yb rfl rfl (ya yh rfl rfl rfl .h2 rfl rfl rfl) ?_
  refine WL.pu rfl (WL.nil (WX.a (WC.ret (WX.y6 ?_))))
  obtain rfl:=Option.some.inj h
  refine WX.y8 Tryz.results14 (.agg rfl y5 rfl (y7 .here) (.tmp rfl .nil)) (fun w hw=>?_)
  exact ⟨([] ++ zer),yF rfl rfl,trivial,hw.sub (.cons .h1 .nil)⟩
 ·replace h:=ye h zpu
  refine WC.skip (WX.a (WC.b ?_))
  obtain ⟨z2H,zGg,h⟩:=z8 h
  obtain ⟨zGh,h⟩:=yj h
  refine WC.a (WL.pu rfl ?_)
  refine WL.a (d:=23) rfl rfl rfl (y4 y3r rfl rfl) ?_
  refine WL.a (d:=24) rfl rfl rfl (ys (cs:=[(.int .i64 z17.fL.fN),(.int .i64 z17.fL.fD)]) y5 rfl rfl (yW (s:=2) .h3 rfl)) ?_
  refine WL.new (dd:=25) rfl rfl rfl (yA (cs:=([z17.fL] : List z1).flatMap e40) yK (Eos.parts (l:=[.tmp 24]) (.cons rfl .nil) [0]) (fun _=>by kernel_rfl) rfl (by unfold maxLen; omega)) ?_
  intro zMf _
  refine WL.y6s (dd:=26) rfl rfl rfl (za (l:=[.tmp 25]) Tryz.call40 (.cons rfl .nil)) .nil (cclz hz .nil .h1 (.cons .here .nil) fun w pz ho la=>y7O _ _ _ _ _ zGg w pz (ZA.row (la _ (.head _) _) (RR.flat (enc:=e40) (fun _=>rfl) _) ⟨w,pz.1⟩)) ?_
  rintro zMg zMh _
  refine WL.eff (d:=27) rfl rfl rfl (y2c (enc:=e40) (l1:=z2e.1) (l2:=z2H) yK rfl rfl .h3 (fun _=>rfl) rfl rfl (y4z .here) (y3g y50 _) zGh) ?_
  rintro ⟨ziR,ziS⟩ _
  refine WL.pu rfl (WL.nil (WX.a (WC.b (WC.a ?_))))
  refine WL.new (dd:=8) rfl rfl rfl (yk (cs:=[(.int .i64 0),(.int .i64 0)]) yo rfl) ?_
  intro zes _
  refine WL.nil (WX.a ?_)
  obtain ⟨z8Q,zGi,h⟩:=y2b h
  refine WC.y28 (fun (zam : Int) (zan : Int)=>(z8Q zam zan = some r)) (fun (zam : Int) (zan : Int)=>[(4,(.pointer (some ⟨zeq,0,none⟩))),(8,(.pointer (some ⟨zes,0,none⟩)))]) (fun (zam : Int) (zan : Int)=>[fz ([] ++ zer),stb zeq 40 [(.int .i64 0),(.int .i64 0)],stb zes 40 [(.int .i64 zam),(.int .i64 zan)]]) ?_ ?_
  ·skip
   refine WC.b (WC.a (WL.pu rfl (WL.nil (WX.a (WC.block ?_)))))
   refine WC.y36 (fun (zet : Nat) (z3d : Int) (z57 : Int) (z58 : Int)=>(y2j z2e z2H z4d z17 z8Q zet z3d z57 z58 = some r)) (fun (zet : Nat) (z3d : Int) (z57 : Int) (z58 : Int)=>[(0,(.slice zeo z4d.length zep)),(3,(.pointer (some ⟨ziQ,0,none⟩))),(4,(.pointer (some ⟨zeq,0,none⟩))),(6,(.slice ziR ((z2e.1 ++ z2H).length) ziS)),(8,(.pointer (some ⟨zes,0,none⟩))),(9,(.int .i64 z3d))]) (fun (zet : Nat) (z3d : Int) (z57 : Int) (z58 : Int)=>[fz ([] ++ zer),row (.slice ziR ((z2e.1 ++ z2H).length) ziS) 40 2 ((z2e.1 ++ z2H).flatMap e40),stb ziQ 42 [(.int .i64 z17.fR.fN),(.int .i64 z17.fR.fD),(.int .i64 z17.fL.fN),(.int .i64 z17.fL.fD)],stb zeq 40 [(.int .i64 0),(.int .i64 0)],stb zes 40 [(.int .i64 z57),(.int .i64 z58)]]) (fun (zet : Nat) (z3d : Int) (z57 : Int) (z58 : Int)=>zet) ⟨yu,0,0,0⟩ h (.cons rfl (.cons rfl (.cons rfl (.cons rfl (.cons rfl (.cons rfl .nil)))))) (.cons .h4 (.cons .h1 (.cons .h4 (.cons .h3 (.cons .here .nil))))) ?_
   rintro zet z3d z57 z58 h
   obtain ⟨zps,rfl⟩:=y7p h
   rw [y2j] at h
   refine WC.b (WC.b (WC.a (WL.pu rfl (WL.pu rfl ?_))))
   refine WL.a (d:=30) rfl rfl rfl (yP Tryz.underlying65 rfl) ?_
   refine WL.pu rfl (WL.nil (WX.a ?_))
   refine WC.cond rfl (fun zpv=>?_) (fun zpv=>?_)
   ·replace h:=yd h zpv
    refine WC.skip (WX.a ?_)
    obtain ⟨ziP,zGj,h⟩:=y2b h
    refine WC.y28 (fun (z8R : Int) (z8S : Int)=>(ziP z8R z8S = some r)) (fun (z8R : Int) (z8S : Int)=>[(0,(.slice zeo z4d.length zep)),(3,(.pointer (some ⟨ziQ,0,none⟩))),(4,(.pointer (some ⟨zeq,0,none⟩))),(6,(.slice ziR ((z2e.1 ++ z2H).length) ziS)),(8,(.pointer (some ⟨zes,0,none⟩))),(9,(.int .i64 z3d))]) (fun (z8R : Int) (z8S : Int)=>[fz ([] ++ zer),row (.slice ziR ((z2e.1 ++ z2H).length) ziS) 40 2 ((z2e.1 ++ z2H).flatMap e40),stb ziQ 42 [(.int .i64 z17.fR.fN),(.int .i64 z17.fR.fD),(.int .i64 z17.fL.fN),(.int .i64 z17.fL.fD)],stb zeq 40 [(.int .i64 0),(.int .i64 0)],stb zes 40 [(.int .i64 z8R),(.int .i64 z8S)]]) ?_ ?_
    ·skip
     refine WC.block (WC.b ?_)
     obtain ⟨zgw,h⟩:=yj h
     obtain ⟨zal,zGk,h⟩:=z8 h
     refine WC.yH (fun i=>[11].contains i) [] rfl ?_
     refine WD.a (i:=0) (d:=35) (by kernel_rfl) rfl z6 z7 rfl rfl rfl (fun _=>q_m rfl) ?_
     refine WD.e (i:=1) (d:=36) (by kernel_rfl) rfl z6 z7 rfl rfl rfl (y9 y15 rfl (y7 .h2) rfl) ?_
     refine WD.a (i:=2) (d:=37) (by kernel_rfl) rfl z6 z7 rfl rfl rfl (fun _=>q_m rfl) ?_
     refine WD.a (i:=3) (d:=38) (by kernel_rfl) rfl z6 z7 rfl rfl rfl (fun _=>q_m rfl) ?_
     refine WD.know (fun w hw=>Hp.y3y .h1 hw (by intro hz'; have:=zgw; rw [hz'] at this; omega)) ?_
     rintro ⟨zMi,rfl⟩
     refine WD.a (i:=4) (d:=39) (by kernel_rfl) rfl z6 z7 rfl rfl rfl (fun _=>y11 yK rfl rfl zgw.1 zgw.2 y3x) ?_
     refine WD.e (i:=5) (d:=40) (by kernel_rfl) rfl z6 z7 rfl rfl rfl (ys (cs:=(e40 (nth (z2e.1 ++ z2H) z3d))) y5 rfl rfl (y3B .h1 (y2A (enc:=e40) (l:=z2e.1 ++ z2H) (i:=z3d) (sz:=2) (fun _=>rfl) zgw.1 zgw.2))) ?_
     refine WD.c (i:=6) (d:=41) (by kernel_rfl) rfl z6 z7 rfl rfl rfl (za (l:=[.tmp 35,.tmp 36,.tmp 40]) Tryz.call41 (.cons rfl (.cons rfl (.cons rfl .nil)))) (ccz hz .nil .here fun w pz ho=>y95 _ _ _ _ _ _ _ zGk w pz ((zv3.mono ((Zle.left _ _).trans ((Zle.left _ _).trans (Zle.yn _ _ _)))).weak (fun _ _ h=>yG ((Zle.left _ _).trans ((Zle.left _ _).trans (Zle.yn _ _ _))) h))) ?_
     refine WD.a (i:=7) (d:=34) (by kernel_rfl) rfl z6 z7 rfl rfl rfl (fun _=>q_m rfl) ?_
     refine WD.a (i:=8) (d:=42) (by kernel_rfl) rfl z6 z7 rfl rfl rfl (fun _=>y1L rfl rfl) ?_
     refine WD.a (i:=9) (d:=43) (by kernel_rfl) rfl z6 z7 rfl rfl rfl (fun _=>y1L rfl rfl) ?_
     refine WD.new (i:=10) (dd:=10) rfl (by kernel_rfl) rfl rfl rfl (yk (cs:=[(.int .i64 0),(.int .i64 0)]) yo rfl) (fun h'=>absurd h' (by decide)) ?_
     intro zMj _
     refine WD.forced0 (i:=11) rfl (by kernel_rfl) rfl rfl rfl (Sin.of .nil) (ya yh rfl rfl rfl .here rfl rfl rfl) ?_
     refine WD.a (i:=12) (d:=11) (by kernel_rfl) rfl z6 z7 rfl rfl rfl (fun _=>q_z rfl) ?_
     refine WD.done (by kernel_rfl) ?_
     refine WX.a (WC.b (WC.b (WC.a (WL.pu rfl (WL.pu rfl (WL.nil (WX.a ?_)))))))
     refine WC.cond rfl (fun zpw=>?_) (fun zpw=>?_)
     ·replace h:=yd h zpw
      refine WC.b (WC.a ?_)
      refine WL.a (d:=46) rfl rfl rfl (yz (v:=(.agg #[(.int .i64 0),(.int .i64 0)])) (Eos.parts (l:=[]) .nil []) (fun _=>by kernel_rfl)) ?_
      refine WL.pu rfl ?_
      refine WL.yb rfl rfl (ya yh rfl rfl rfl .h4 rfl rfl rfl) ?_
      refine WL.pu rfl (WL.nil (WX.a (WC.ret (WX.y6 (WX.yl (WX.y6 (WX.y6 (WX.yl (WX.y6 ?_)))))))))
      obtain rfl:=Option.some.inj h
      refine WX.y8 Tryz.results14 (.agg rfl y5 rfl (y7 .here) (.tmp rfl .nil)) (fun w hw=>?_)
      exact ⟨([] ++ zer),yF rfl rfl,trivial,hw.sub (.cons .h2 .nil)⟩
     ·replace h:=ye h zpw
      refine WC.skip (WX.a (WC.b ?_))
      obtain ⟨zpt,zv4,h⟩:=z8 h
      refine WC.a (WL.pu rfl (WL.pu rfl (WL.pu rfl ?_)))
      refine WL.seg false 4 50 (B:=zpt) rfl rfl rfl rfl rfl rfl (fun h=>(Option.some.inj (yd zv4 h)).symm) (fun _ zGl=>?_) ?_
      ·skip
       have zgx:=ye zv4 zGl
       obtain ⟨zv2,zGm,zgx⟩:=z8 zgx
       replace zgx:=Option.some.inj zgx
       refine WL.a (d:=51) rfl rfl rfl (y9 y5 rfl (y7 .here) rfl) ?_
       refine WL.a (d:=52) rfl rfl rfl (y9 y5 rfl (y7 .h5) rfl) ?_
       refine WL.b (dd:=53) rfl rfl rfl (za (l:=[.tmp 51,.tmp 52]) Tryz.call28 (.cons rfl (.cons rfl .nil))) .nil (ccz hz .nil .h1 fun w pz ho=>y2H _ _ _ _ zGm w pz ) ?_
       refine WL.pu rfl (WL.pu rfl ?_)
       exact WL.yw zgx rfl rfl .all
      refine WL.nil (WX.a ?_)
      refine WC.cond rfl (fun zpx=>?_) (fun zpx=>?_)
      ·replace h:=yd h zpx
       refine WC.a ?_
       refine WL.a (d:=56) rfl rfl rfl (y9 y5 rfl (y7 .here) rfl) ?_
       refine WL.yb rfl rfl (ya yh rfl rfl rfl .h5 rfl rfl rfl) ?_
       refine WL.nil (WX.yi ?_)
       exact WX.mid (G:=Int × Int) ⟨zal.1.fN,zal.1.fD⟩ h (.cons rfl (.cons rfl (.cons rfl (.cons rfl (.cons rfl (.cons rfl .nil)))))) (.cons .h2 (.cons .h2 (.cons .h2 (.cons .h2 (.cons .here .nil)))))
      ·replace h:=ye h zpx
       refine WC.skip (WX.yi ?_)
       exact WX.mid (G:=Int × Int) ⟨z57,z58⟩ h (.cons rfl (.cons rfl (.cons rfl (.cons rfl (.cons rfl (.cons rfl .nil)))))) (.cons .h1 (.cons .h1 (.cons .h1 (.cons .h1 (.cons .h1 .nil)))))
    ·rintro z8R z8S h
     replace h:=(zGj z8R z8S).symm.trans h
     refine WC.a (WL.pu rfl (WL.pu rfl (WL.pu rfl (WL.nil ?_))))
     exact WX.round (G:=Nat × Int × Int × Int) ⟨zps,(i64 (z3d + 1)),z8R,z8S⟩ h (Nat.lt_succ_self _) (.cons rfl (.cons rfl (.cons rfl (.cons rfl (.cons rfl (.cons rfl .nil)))))) (.cons .here (.cons .here (.cons .here (.cons .here (.cons .here .nil)))))
   ·replace h:=ye h zpv
    refine WC.exit (WX.yf (WX.yf (WX.yv ?_)))
    exact WX.mid (G:=Int × Int) ⟨z57,z58⟩ h (.cons rfl (.cons rfl .nil)) (.cons .here (.cons .h2 (.cons .h2 .nil)))
  ·rintro zam zan h
   replace h:=(zGi zam zan).symm.trans h
   refine WC.b (WC.a ?_)
   refine WL.a (d:=57) rfl rfl rfl (y9 y5 rfl (y7 .h2) rfl) ?_
   refine WL.yb rfl rfl (ya yh rfl rfl rfl .h1 rfl rfl rfl) ?_
   refine WL.pu rfl (WL.nil (WX.a (WC.ret ?_)))
   obtain rfl:=Option.some.inj h
   refine WX.y8 Tryz.results14 (.agg rfl y5 rfl (y7 .here) (.tmp rfl .nil)) (fun w hw=>?_)
   exact ⟨([] ++ zer),yF rfl rfl,trivial,hw.sub (.cons .h1 .nil)⟩
def y41 (z1U : S41) (z1V : S41) : Option (S41 × Int) :=
 (y1Y z1U).bind fun zv5=>(if !zv5 then some true else (y1Y z1V).bind fun zv6=>some (!zv6)).bind fun zpy=>if zpy then some ((⟨(⟨0,0⟩ : z1),(⟨0,0⟩ : z1)⟩ : S41),2) else (y1o z1U.fL z1V.fL).bind fun zeu=>if decide (zeu.2 ≠ 0) then some ((⟨(⟨0,0⟩ : z1),(⟨0,0⟩ : z1)⟩ : S41),zeu.2) else (y14 ([z1U.fR,z1V.fR] : List z1) (fun (y0 : z1) (y1 : z1)=>yM y0 y1)).bind fun ziT=>some ((⟨ziT,zeu.1⟩ : S41),0)
set_option maxRecDepth 20000 in
theorem y9r (Z : Zp)  (z1U : S41) (z1V : S41) (r : S41 × Int)
  (h : y41 z1U z1V = some r) (w₀ : World) (hz : PZ [] w₀ Z) :
  Calls Tryz.prog 15 #[(.agg #[(.int .i64 z1U.fR.fN),(.int .i64 z1U.fR.fD),(.int .i64 z1U.fL.fN),(.int .i64 z1U.fL.fD)]),(.agg #[(.int .i64 z1V.fR.fN),(.int .i64 z1V.fR.fD),(.int .i64 z1V.fL.fN),(.int .i64 z1V.fL.fD)])] w₀ fun e w'=>e = .returned (.tuple #[(.agg #[(.int .i64 r.1.fR.fN),(.int .i64 r.1.fR.fD),(.int .i64 r.1.fL.fN),(.int .i64 r.1.fL.fD)]),(.int .i64 r.2)]) ∧ Hp [] w₀ w' []:=by
 unfold y41 at h
 refine Calls.yg (vs:=[(.agg #[(.int .i64 z1U.fR.fN),(.int .i64 z1U.fR.fD),(.int .i64 z1U.fL.fN),(.int .i64 z1U.fL.fD)]),(.agg #[(.int .i64 z1V.fR.fN),(.int .i64 z1V.fR.fD),(.int .i64 z1V.fL.fN),(.int .i64 z1V.fL.fD)])]) (pre:=[]) (env:=[(0,(.agg #[(.int .i64 z1U.fR.fN),(.int .i64 z1U.fR.fD),(.int .i64 z1U.fL.fN),(.int .i64 z1U.fL.fD)])),(1,(.agg #[(.int .i64 z1V.fR.fN),(.int .i64 z1V.fR.fD),(.int .i64 z1V.fL.fN),(.int .i64 z1V.fL.fD)]))]) Tryz.func15 rfl Tryz.ntmps15 rfl (Hp.nil w₀ _) rfl ?_
 refine WC.b (WC.a ?_)
 refine WL.new (dd:=2) rfl rfl rfl (yx (cs:=[(.int .i64 z1U.fR.fN),(.int .i64 z1U.fR.fD),(.int .i64 z1U.fL.fN),(.int .i64 z1U.fL.fD)]) rfl rfl) ?_
 intro zMk _
 refine WL.new (dd:=3) rfl rfl rfl (yx (cs:=[(.int .i64 z1V.fR.fN),(.int .i64 z1V.fR.fD),(.int .i64 z1V.fL.fN),(.int .i64 z1V.fL.fD)]) rfl rfl) ?_
 intro zMl _
 refine WL.new (dd:=4) rfl rfl rfl (yk (cs:=[(.int .i64 0),(.int .i64 0),(.int .i64 0),(.int .i64 0)]) y76 rfl) ?_
 intro zMm _
 refine WL.pu rfl (WL.nil (WX.a (WC.b (WC.b ?_))))
 obtain ⟨zv5,zGn,h⟩:=z8 h
 obtain ⟨zpy,zv7,h⟩:=z8 h
 refine WC.a ?_
 refine WL.a (d:=8) rfl rfl rfl (y9 y15 rfl (y7 .h2) rfl) ?_
 refine WL.b (dd:=9) rfl rfl rfl (za (l:=[.tmp 8]) Tryz.call17 (.cons rfl .nil)) .nil (cc hz .nil fun w pz ho=>y3Z _ _ _ zGn w pz ) ?_
 refine WL.pu rfl (WL.pu rfl ?_)
 refine WL.seg false 3 11 (B:=zpy) rfl rfl rfl rfl rfl rfl (fun h=>(Option.some.inj (yd zv7 h)).symm) (fun _ zGo=>?_) ?_
 ·skip
  have zgy:=ye zv7 zGo
  obtain ⟨zv6,zGp,zgy⟩:=z8 zgy
  replace zgy:=Option.some.inj zgy
  refine WL.a (d:=12) rfl rfl rfl (y9 y15 rfl (y7 .h1) rfl) ?_
  refine WL.b (dd:=13) rfl rfl rfl (za (l:=[.tmp 12]) Tryz.call17 (.cons rfl .nil)) .nil (cc hz .nil fun w pz ho=>y3Z _ _ _ zGp w pz ) ?_
  refine WL.pu rfl (WL.pu rfl ?_)
  exact WL.yw zgy rfl rfl .all
 refine WL.nil (WX.a ?_)
 refine WC.cond rfl (fun zpz=>?_) (fun zpz=>?_)
 ·replace h:=yd h zpz
  refine WC.b (WC.a ?_)
  refine WL.a (d:=16) rfl rfl rfl (yz (v:=(.agg #[(.int .i64 0),(.int .i64 0),(.int .i64 0),(.int .i64 0)])) (Eos.parts (l:=[]) .nil []) (fun _=>by kernel_rfl)) ?_
  refine WL.yb rfl rfl (ya y4L rfl rfl rfl .here rfl rfl rfl) ?_
  refine WL.pu rfl (WL.nil (WX.a (WC.ret (WX.y6 ?_))))
  obtain rfl:=Option.some.inj h
  refine WX.y8 Tryz.results15 (.agg rfl y15 rfl (y7 .here) (.tmp rfl .nil)) (fun w hw=>?_)
  exact ⟨yF rfl rfl,hw.sub .nil⟩
 ·replace h:=ye h zpz
  refine WC.skip (WX.a (WC.b ?_))
  obtain ⟨zeu,zGq,h⟩:=z8 h
  refine WC.a ?_
  refine WL.a (d:=18) rfl rfl rfl (y4 y3r rfl rfl) ?_
  refine WL.a (d:=19) rfl rfl rfl (ys (cs:=[(.int .i64 z1U.fL.fN),(.int .i64 z1U.fL.fD)]) y5 rfl rfl (yW (s:=2) .h2 rfl)) ?_
  refine WL.a (d:=20) rfl rfl rfl (y4 y3r rfl rfl) ?_
  refine WL.a (d:=21) rfl rfl rfl (ys (cs:=[(.int .i64 z1V.fL.fN),(.int .i64 z1V.fL.fD)]) y5 rfl rfl (yW (s:=2) .h1 rfl)) ?_
  refine WL.b (dd:=22) rfl rfl rfl (za (l:=[.tmp 19,.tmp 21]) Tryz.call31 (.cons rfl (.cons rfl .nil))) .nil (cc hz .nil fun w pz ho=>y5N _ _ _ _ zGq w pz ) ?_
  refine WL.pu rfl (WL.pu rfl (WL.pu rfl ?_))
  refine WL.new (dd:=6) rfl rfl rfl (yk (cs:=[(.int .i64 0),(.int .i64 0)]) yo rfl) ?_
  intro zMn _
  refine WL.yb rfl rfl (ya yh rfl rfl rfl .here rfl rfl rfl) ?_
  refine WL.pu rfl (WL.nil (WX.a (WC.b (WC.b (WC.a (WL.pu rfl (WL.pu rfl (WL.nil (WX.a ?_)))))))))
  refine WC.cond rfl (fun zpA=>?_) (fun zpA=>?_)
  ·replace h:=yd h zpA
   refine WC.b (WC.a ?_)
   refine WL.a (d:=27) rfl rfl rfl (yz (v:=(.agg #[(.int .i64 0),(.int .i64 0),(.int .i64 0),(.int .i64 0)])) (Eos.parts (l:=[]) .nil []) (fun _=>by kernel_rfl)) ?_
   refine WL.pu rfl ?_
   refine WL.yb rfl rfl (ya y4L rfl rfl rfl .h1 rfl rfl rfl) ?_
   refine WL.pu rfl (WL.nil (WX.a (WC.ret (WX.y6 ?_))))
   obtain rfl:=Option.some.inj h
   refine WX.y8 Tryz.results15 (.agg rfl y15 rfl (y7 .here) (.tmp rfl .nil)) (fun w hw=>?_)
   exact ⟨yF rfl rfl,hw.sub .nil⟩
  ·replace h:=ye h zpA
   refine WC.skip (WX.a (WC.b ?_))
   obtain ⟨ziT,zGr,h⟩:=z8 h
   refine WC.yH (fun i=>[8].contains i) [] rfl ?_
   refine WD.a (i:=0) (d:=29) (by kernel_rfl) rfl z6 z7 rfl rfl rfl (fun _=>y4 y2U rfl rfl) ?_
   refine WD.e (i:=1) (d:=30) (by kernel_rfl) rfl z6 z7 rfl rfl rfl (ys (cs:=[(.int .i64 z1U.fR.fN),(.int .i64 z1U.fR.fD)]) y5 rfl rfl (yW (s:=2) .h3 rfl)) ?_
   refine WD.a (i:=2) (d:=31) (by kernel_rfl) rfl z6 z7 rfl rfl rfl (fun _=>y4 y2U rfl rfl) ?_
   refine WD.e (i:=3) (d:=32) (by kernel_rfl) rfl z6 z7 rfl rfl rfl (ys (cs:=[(.int .i64 z1V.fR.fN),(.int .i64 z1V.fR.fD)]) y5 rfl rfl (yW (s:=2) .h2 rfl)) ?_
   refine WD.e (i:=6) (d:=35) (by kernel_rfl) rfl z6 z7 rfl rfl rfl (y9 y5 rfl (y7 .here) rfl) ?_
   refine WD.new (i:=4) (dd:=33) rfl (by kernel_rfl) rfl rfl rfl (yA (cs:=([z1U.fR,z1V.fR] : List z1).flatMap e40) yK (Eos.parts (l:=[.tmp 30,.tmp 32]) (.cons rfl (.cons rfl .nil)) [0,1]) (fun _=>by kernel_rfl) rfl (by unfold maxLen; omega)) (fun h'=>absurd h' (by decide)) ?_
   intro zMo _
   refine WD.c (i:=5) (d:=34) (by kernel_rfl) rfl z6 z7 rfl rfl rfl (za (l:=[.tmp 33,.func 24]) Tryz.call42 (.cons rfl (.cons rfl .nil))) (ccl hz .nil (.cons .here .nil) fun w pz ho la=>y40 _ _ _ (z6n:=24) (z7U:=[]) _ (z5N:=(fun (y0 : z1) (y1 : z1)=>yM y0 y1)) _ zGr w pz (ZA.row (la _ (.head _) _) (RR.flat (enc:=e40) (fun _=>rfl) _) ⟨w,pz.1⟩) Tryz.call24 (fun w' hz' y0 y1  r  hr=>y2w _ _ _ _ hr w' hz' )) ?_
   refine WD.a (i:=7) (d:=36) (by kernel_rfl) rfl z6 z7 rfl rfl rfl (fun _=>yz (v:=(.agg #[(.int .i64 ziT.fN),(.int .i64 ziT.fD),(.int .i64 zeu.1.fN),(.int .i64 zeu.1.fD)])) (Eos.parts (l:=[.tmp 34,.tmp 35]) (.cons rfl (.cons rfl .nil)) [0,1]) (fun _=>by kernel_rfl)) ?_
   refine WD.forced0 (i:=8) rfl (by kernel_rfl) rfl rfl rfl (Sin.of .nil) (ya y4L rfl rfl rfl .h2 rfl rfl rfl) ?_
   refine WD.a (i:=9) (d:=5) (by kernel_rfl) rfl z6 z7 rfl rfl rfl (fun _=>q_z rfl) ?_
   refine WD.done (by kernel_rfl) ?_
   refine WX.a (WC.ret ?_)
   obtain rfl:=Option.some.inj h
   refine WX.y8 Tryz.results15 (.agg rfl y15 rfl (y7 .here) (.tmp rfl .nil)) (fun w hw=>?_)
   exact ⟨yF rfl rfl,hw.sub .nil⟩
def y3J (z1v : S41) (z1w : S41) : Option (S41 × Int) :=
 (y3m z1v).bind fun zv8=>(if !zv8 then some true else (y3m z1w).bind fun zv9=>some (!zv9)).bind fun zpB=>if zpB then some ((⟨(⟨0,0⟩ : z1),(⟨0,0⟩ : z1)⟩ : S41),2) else (yB 0 z1v.fL z1w.fL).bind fun z8T=>if decide (z8T.2 ≠ 0) then some ((⟨(⟨0,0⟩ : z1),(⟨0,0⟩ : z1)⟩ : S41),z8T.2) else (yE z1w.fR z1v.fR).bind fun zva=>if decide (zva < 0) then some ((⟨z1w.fR,z8T.1⟩ : S41),0) else some ((⟨z1v.fR,z8T.1⟩ : S41),0)
set_option maxRecDepth 20000 in
theorem yaF (Z : Zp)  (z1v : S41) (z1w : S41) (r : S41 × Int)
  (h : y3J z1v z1w = some r) (w₀ : World) (hz : PZ [] w₀ Z) :
  Calls Tryz.prog 16 #[(.agg #[(.int .i64 z1v.fR.fN),(.int .i64 z1v.fR.fD),(.int .i64 z1v.fL.fN),(.int .i64 z1v.fL.fD)]),(.agg #[(.int .i64 z1w.fR.fN),(.int .i64 z1w.fR.fD),(.int .i64 z1w.fL.fN),(.int .i64 z1w.fL.fD)])] w₀ fun e w'=>e = .returned (.tuple #[(.agg #[(.int .i64 r.1.fR.fN),(.int .i64 r.1.fR.fD),(.int .i64 r.1.fL.fN),(.int .i64 r.1.fL.fD)]),(.int .i64 r.2)]) ∧ Hp [] w₀ w' []:=by
 unfold y3J at h
 refine Calls.yg (vs:=[(.agg #[(.int .i64 z1v.fR.fN),(.int .i64 z1v.fR.fD),(.int .i64 z1v.fL.fN),(.int .i64 z1v.fL.fD)]),(.agg #[(.int .i64 z1w.fR.fN),(.int .i64 z1w.fR.fD),(.int .i64 z1w.fL.fN),(.int .i64 z1w.fL.fD)])]) (pre:=[]) (env:=[(0,(.agg #[(.int .i64 z1v.fR.fN),(.int .i64 z1v.fR.fD),(.int .i64 z1v.fL.fN),(.int .i64 z1v.fL.fD)])),(1,(.agg #[(.int .i64 z1w.fR.fN),(.int .i64 z1w.fR.fD),(.int .i64 z1w.fL.fN),(.int .i64 z1w.fL.fD)]))]) Tryz.func16 rfl Tryz.ntmps16 rfl (Hp.nil w₀ _) rfl ?_
 refine WC.b (WC.a ?_)
 refine WL.new (dd:=2) rfl rfl rfl (yx (cs:=[(.int .i64 z1v.fR.fN),(.int .i64 z1v.fR.fD),(.int .i64 z1v.fL.fN),(.int .i64 z1v.fL.fD)]) rfl rfl) ?_
 intro zMp _
 refine WL.new (dd:=3) rfl rfl rfl (yx (cs:=[(.int .i64 z1w.fR.fN),(.int .i64 z1w.fR.fD),(.int .i64 z1w.fL.fN),(.int .i64 z1w.fL.fD)]) rfl rfl) ?_
 intro zMq _
 refine WL.new (dd:=4) rfl rfl rfl (yk (cs:=[(.int .i64 0),(.int .i64 0),(.int .i64 0),(.int .i64 0)]) y76 rfl) ?_
 intro zMr _
 refine WL.pu rfl (WL.nil (WX.a (WC.b (WC.b ?_))))
 obtain ⟨zv8,zGs,h⟩:=z8 h
 obtain ⟨zpB,zvb,h⟩:=z8 h
 refine WC.a ?_
 refine WL.a (d:=8) rfl rfl rfl (y9 y15 rfl (y7 .h2) rfl) ?_
 refine WL.b (dd:=9) rfl rfl rfl (za (l:=[.tmp 8]) Tryz.call18 (.cons rfl .nil)) .nil (cc hz .nil fun w pz ho=>y5z _ _ _ zGs w pz ) ?_
 refine WL.pu rfl (WL.pu rfl ?_)
 refine WL.seg false 3 11 (B:=zpB) rfl rfl rfl rfl rfl rfl (fun h=>(Option.some.inj (yd zvb h)).symm) (fun _ zGt=>?_) ?_
 ·skip
  have zgz:=ye zvb zGt
  obtain ⟨zv9,zGu,zgz⟩:=z8 zgz
  replace zgz:=Option.some.inj zgz
  refine WL.a (d:=12) rfl rfl rfl (y9 y15 rfl (y7 .h1) rfl) ?_
  refine WL.b (dd:=13) rfl rfl rfl (za (l:=[.tmp 12]) Tryz.call18 (.cons rfl .nil)) .nil (cc hz .nil fun w pz ho=>y5z _ _ _ zGu w pz ) ?_
  refine WL.pu rfl (WL.pu rfl ?_)
  exact WL.yw zgz rfl rfl .all
 refine WL.nil (WX.a ?_)
 refine WC.cond rfl (fun zpC=>?_) (fun zpC=>?_)
 ·replace h:=yd h zpC
  refine WC.b (WC.a ?_)
  refine WL.a (d:=16) rfl rfl rfl (yz (v:=(.agg #[(.int .i64 0),(.int .i64 0),(.int .i64 0),(.int .i64 0)])) (Eos.parts (l:=[]) .nil []) (fun _=>by kernel_rfl)) ?_
  refine WL.yb rfl rfl (ya y4L rfl rfl rfl .here rfl rfl rfl) ?_
  refine WL.pu rfl (WL.nil (WX.a (WC.ret (WX.y6 ?_))))
  obtain rfl:=Option.some.inj h
  refine WX.y8 Tryz.results16 (.agg rfl y15 rfl (y7 .here) (.tmp rfl .nil)) (fun w hw=>?_)
  exact ⟨yF rfl rfl,hw.sub .nil⟩
 ·replace h:=ye h zpC
  refine WC.skip (WX.a (WC.b ?_))
  obtain ⟨z8T,zGv,h⟩:=z8 h
  refine WC.a ?_
  refine WL.a (d:=18) rfl rfl rfl (y4 y3r rfl rfl) ?_
  refine WL.a (d:=19) rfl rfl rfl (ys (cs:=[(.int .i64 z1v.fL.fN),(.int .i64 z1v.fL.fD)]) y5 rfl rfl (yW (s:=2) .h2 rfl)) ?_
  refine WL.a (d:=20) rfl rfl rfl (y4 y3r rfl rfl) ?_
  refine WL.a (d:=21) rfl rfl rfl (ys (cs:=[(.int .i64 z1w.fL.fN),(.int .i64 z1w.fL.fD)]) y5 rfl rfl (yW (s:=2) .h1 rfl)) ?_
  refine WL.b (dd:=22) rfl rfl rfl (za (l:=[.const (.int .i64 0),.tmp 19,.tmp 21]) Tryz.call43 (.cons rfl (.cons rfl (.cons rfl .nil)))) .nil (cc hz .nil fun w pz ho=>y29 _ _ _ _ _ zGv w pz ) ?_
  refine WL.pu rfl (WL.pu rfl (WL.pu rfl ?_))
  refine WL.new (dd:=6) rfl rfl rfl (yk (cs:=[(.int .i64 0),(.int .i64 0)]) yo rfl) ?_
  intro zMs _
  refine WL.yb rfl rfl (ya yh rfl rfl rfl .here rfl rfl rfl) ?_
  refine WL.pu rfl (WL.nil (WX.a (WC.b (WC.b (WC.a (WL.pu rfl (WL.pu rfl (WL.nil (WX.a ?_)))))))))
  refine WC.cond rfl (fun zpD=>?_) (fun zpD=>?_)
  ·replace h:=yd h zpD
   refine WC.b (WC.a ?_)
   refine WL.a (d:=27) rfl rfl rfl (yz (v:=(.agg #[(.int .i64 0),(.int .i64 0),(.int .i64 0),(.int .i64 0)])) (Eos.parts (l:=[]) .nil []) (fun _=>by kernel_rfl)) ?_
   refine WL.pu rfl ?_
   refine WL.yb rfl rfl (ya y4L rfl rfl rfl .h1 rfl rfl rfl) ?_
   refine WL.pu rfl (WL.nil (WX.a (WC.ret (WX.y6 ?_))))
   obtain rfl:=Option.some.inj h
   refine WX.y8 Tryz.results16 (.agg rfl y15 rfl (y7 .here) (.tmp rfl .nil)) (fun w hw=>?_)
   exact ⟨yF rfl rfl,hw.sub .nil⟩
  ·replace h:=ye h zpD
   refine WC.skip (WX.a (WC.b (WC.b ?_)))
   obtain ⟨zva,zGw,h⟩:=z8 h
   refine WC.a ?_
   refine WL.a (d:=29) rfl rfl rfl (y4 y2U rfl rfl) ?_
   refine WL.a (d:=30) rfl rfl rfl (ys (cs:=[(.int .i64 z1w.fR.fN),(.int .i64 z1w.fR.fD)]) y5 rfl rfl (yW (s:=2) .h2 rfl)) ?_
   refine WL.a (d:=31) rfl rfl rfl (y4 y2U rfl rfl) ?_
   refine WL.a (d:=32) rfl rfl rfl (ys (cs:=[(.int .i64 z1v.fR.fN),(.int .i64 z1v.fR.fD)]) y5 rfl rfl (yW (s:=2) .h3 rfl)) ?_
   refine WL.b (dd:=33) rfl rfl rfl (za (l:=[.tmp 30,.tmp 32]) Tryz.call28 (.cons rfl (.cons rfl .nil))) .nil (cc hz .nil fun w pz ho=>y2H _ _ _ _ zGw w pz ) ?_
   refine WL.pu rfl (WL.nil (WX.a ?_))
   refine WC.cond rfl (fun zpE=>?_) (fun zpE=>?_)
   ·replace h:=yd h zpE
    refine WC.b (WC.a ?_)
    refine WL.a (d:=35) rfl rfl rfl (y4 y2U rfl rfl) ?_
    refine WL.a (d:=36) rfl rfl rfl (ys (cs:=[(.int .i64 z1w.fR.fN),(.int .i64 z1w.fR.fD)]) y5 rfl rfl (yW (s:=2) .h2 rfl)) ?_
    refine WL.a (d:=37) rfl rfl rfl (y9 y5 rfl (y7 .here) rfl) ?_
    refine WL.a (d:=38) rfl rfl rfl (yz (v:=(.agg #[(.int .i64 z1w.fR.fN),(.int .i64 z1w.fR.fD),(.int .i64 z8T.1.fN),(.int .i64 z8T.1.fD)])) (Eos.parts (l:=[.tmp 36,.tmp 37]) (.cons rfl (.cons rfl .nil)) [0,1]) (fun _=>by kernel_rfl)) ?_
    refine WL.yb rfl rfl (ya y4L rfl rfl rfl .h1 rfl rfl rfl) ?_
    refine WL.pu rfl (WL.nil (WX.a (WC.ret (WX.y6 ?_))))
    obtain rfl:=Option.some.inj h
    refine WX.y8 Tryz.results16 (.agg rfl y15 rfl (y7 .here) (.tmp rfl .nil)) (fun w hw=>?_)
    exact ⟨yF rfl rfl,hw.sub .nil⟩
   ·replace h:=ye h zpE
    refine WC.skip (WX.a (WC.b (WC.a ?_)))
    refine WL.a (d:=39) rfl rfl rfl (y4 y2U rfl rfl) ?_
    refine WL.a (d:=40) rfl rfl rfl (ys (cs:=[(.int .i64 z1v.fR.fN),(.int .i64 z1v.fR.fD)]) y5 rfl rfl (yW (s:=2) .h3 rfl)) ?_
    refine WL.a (d:=41) rfl rfl rfl (y9 y5 rfl (y7 .here) rfl) ?_
    refine WL.a (d:=42) rfl rfl rfl (yz (v:=(.agg #[(.int .i64 z1v.fR.fN),(.int .i64 z1v.fR.fD),(.int .i64 z8T.1.fN),(.int .i64 z8T.1.fD)])) (Eos.parts (l:=[.tmp 40,.tmp 41]) (.cons rfl (.cons rfl .nil)) [0,1]) (fun _=>by kernel_rfl)) ?_
    refine WL.yb rfl rfl (ya y4L rfl rfl rfl .h1 rfl rfl rfl) ?_
    refine WL.pu rfl (WL.nil (WX.a (WC.ret ?_)))
    obtain rfl:=Option.some.inj h
    refine WX.y8 Tryz.results16 (.agg rfl y15 rfl (y7 .here) (.tmp rfl .nil)) (fun w hw=>?_)
    exact ⟨yF rfl rfl,hw.sub .nil⟩
end Go.Proofs.YtakfmdiiehcbdaaGreat

/- A part of this claim's proof: models of functions, walks, plain laws. No conditions. -/
import Derived.Test.YtcahmabkeaijdaaGreatW35oe
namespace Go.Proofs.YtcahmabkeaijdaaGreat
open Go Go.RowKit Sep
set_option linter.all false
set_option maxRecDepth 30000
set_option maxHeartbeats 4000000
def y4S (z1I : List Sapi_Hop) (zbb : Option Bool) : Nat → Int → Option Bool
 | 0,_=>none
 | zwh + 1,z1U=>if decide (z1U < ((z1I.length : Nat) : Int)) then chk ((0 : Int) ≤ z1U ∧ z1U < ((z1I.length : Nat) : Int)) (chk ((0 : Int) ≤ 0 ∧ (0 : Int) ≤ z1U ∧ z1U ≤ ((z1I.length : Nat) : Int)) ((y4o (z1I.take (z1U : Int).toNat) ((nth z1I z1U).fNode)).bind fun z3v=>chk ((!z3v.2) = true → ((0 : Int) ≤ 0 ∧ 0 < ((z1I.length : Nat) : Int))) (if (!z3v.2) && (decide (((nth z1I z1U).fNode) ≠ ((nth z1I 0).fNode))) then some false else y4S z1I zbb zwh (i64 (z1U + 1))))) else zbb
theorem y9N {n : Nat} {z1I : List Sapi_Hop} {zbb : Option Bool} {z1U : Int} {r : Bool} (h : y4S z1I zbb n z1U = some r) : ∃ m,n = m + 1:=by
 cases n with
 | zero=>cases h
 | succ m=>exact ⟨m,rfl⟩
def y8E (z1I : List Sapi_Hop) : Option Bool :=
 jp0 (some true) fun zbb=>y4S z1I zbb yB 0
set_option maxRecDepth 20000 in
theorem ycJ (Z : Zp) (zfG : Option Addr) (zfH : Nat) (z1I : List Sapi_Hop) (r : Bool)
  (h : y8E z1I = some r) (w₀ : World) (hz : PZ [] w₀ Z)
  (zwi : ZS Z 3 (fun r x=>r = e62 x) zfG zfH z1I) :
  Calls Tryz.prog 52 #[(.slice zfG z1I.length zfH)] w₀ fun e w'=>e = .returned (.bool r) ∧ Hp [] w₀ w' []:=by
 unfold y8E at h
 refine Calls.on1 Tryz.func52 Tryz.ntmps52 ?_
 refine WC.b (WC.a (WL.pu rfl (WL.nil (WX.a ?_))))
 obtain ⟨zbb,zRB,h⟩:=y1u h
 refine WC.y1g ((zbb = some r)) ([]) ([]) ?_ ?_
 ·skip
  refine WC.b (WC.a (WL.pu rfl ?_))
  refine WL.qA 8 (yE Tryz.underlying48 rfl) ?_
  refine WL.pu rfl (WL.nil (WX.a (WC.block ?_)))
  refine WC.y1S (fun (ziq : Nat) (z1U : Int)=>(y4S z1I zbb ziq z1U = some r)) (fun ziq z1U=>[(0,(.slice zfG z1I.length zfH)),(7,(.slice zfG z1I.length zfH)),(8,(.int .i64 ((z1I.length : Nat) : Int))),(9,(.int .i64 z1U))]) (fun ziq z1U=>[]) (fun ziq z1U=>ziq) ⟨yB,0⟩ h (.cons rfl (.cons rfl (.cons rfl (.cons rfl .nil)))) .nil ?_
  rintro ziq z1U h
  obtain ⟨zwh,rfl⟩:=y9N h
  rw [y4S] at h
  refine WC.b (WC.a (WL.pu rfl (WL.nil (WX.a (WC.b ?_)))))
  refine WC.cond rfl (fun zwj=>?_) (fun zwj=>?_)
  ·replace h:=yn h zwj
   refine WC.skip (WX.a (WC.b (WC.block (WC.b ?_))))
   obtain ⟨zRC,h⟩:=yq h
   refine WC.a (WL.pu rfl ?_)
   refine WL.znth (dd:=12) rfl rfl (Z:=Z) (Pr:=(fun r x=>r = e62 x)) y3J rfl rfl zwi zRC ?_
   rintro zRD z102 zRE z103 rfl
   refine WL.qA 13 (yg y2g rfl (y1A hz.pv zRE) rfl) ?_
   refine WL.nA 4 (yv (cs:=[(.int .i64 0),(.int .i64 0),(.int .i64 0)]) y3E rfl) ?_
   intro zEC _
   refine WL.pu rfl ?_
   refine WL.ym rfl rfl (yl y3Q rfl rfl rfl .here rfl rfl rfl) ?_
   refine WL.nil (WX.a (WC.b ?_))
   obtain ⟨zRF,h⟩:=yq h
   obtain ⟨z3v,zRG,h⟩:=z7 h
   refine WC.yL (fun i=>[10].contains i) [] rfl ?_
   refine WD.pA 0 15 rfl (fun _=>q_m rfl) ?_
   refine WD.pA 1 16 rfl (fun _=>q_m rfl) ?_
   refine WD.zsub (j:=2) (dd:=17) (by kernel_rfl) rfl z2E z2F rfl rfl (Z:=Z) (Pr:=(fun r x=>r = e62 x)) y3J rfl zwi (fun _=>ixn) (fun _=>ixo rfl) rfl rfl zRF (List.drop_zero).symm ?_
   rintro zRH zRI zRJ
   refine WD.pA 3 18 rfl (fun _=>ya y2C rfl rfl) ?_
   refine WD.qA 4 19 rfl (yc yt rfl (yk .here rfl)) ?_
   refine WD.eA 5 20 rfl (za (l:=[.tmp 17,.tmp 19]) Tryz.call39 (.cons rfl (.cons rfl .nil))) (cc hz .nil fun w pz ho=>y8w _ _ _ _ _ _ zRG w pz zRJ) ?_
   refine WD.pA 6 14 rfl (fun _=>q_m rfl) ?_
   refine WD.pA 7 21 rfl (fun _=>y70 rfl rfl) ?_
   refine WD.pA 8 22 rfl (fun _=>y70 rfl rfl) ?_
   refine WD.new (i:=9) (dd:=5) rfl (by kernel_rfl) rfl rfl rfl (yv (cs:=[(.int .i64 0),(.int .i64 0),(.int .i64 0)]) y3E rfl) (fun h'=>absurd h' (by decide)) ?_
   intro zRK _
   refine WD.forced0 (i:=10) rfl (by kernel_rfl) rfl rfl rfl (Sin.of .nil) (yl y3Q rfl rfl rfl .here rfl rfl rfl) ?_
   refine WD.pA 11 6 rfl (fun _=>q_z rfl) ?_
   refine WD.done (by kernel_rfl) ?_
   refine WX.a (WC.b ?_)
   obtain ⟨zRL,h⟩:=yq h
   refine WC.yL (fun i=>[].contains i) [] rfl ?_
   refine WD.pA 0 23 rfl (fun _=>q_m rfl) ?_
   refine WD.pA 1 24 rfl (fun _=>q_not rfl) ?_
   refine WD.pA 2 25 rfl (fun _=>q_m rfl) ?_
   refine WD.mid (fuel':=0) [(0,(.slice zfG z1I.length zfH)),(7,(.slice zfG z1I.length zfH)),(8,(.int .i64 ((z1I.length : Nat) : Int))),(9,(.int .i64 z1U)),(10,(.bool (decide (z1U < ((z1I.length : Nat) : Int))))),(11,(.int .i64 z1U)),(12,(.pointer (some zRD))),(13,(.agg #[(.int .i64 ((nth z1I z1U).fNode)),(.int .i64 ((nth z1I z1U).fNext)),(.int .i64 ((nth z1I z1U).fLink))])),(4,(.pointer (some ⟨zEC,0,none⟩))),(3,(.int .i64 z1U)),(15,(.slice zfG z1I.length zfH)),(16,(.int .i64 z1U)),(17,(.slice zRH ((z1I.take (z1U : Int).toNat).length) zRI)),(18,(.pointer (some ⟨zEC,0,none⟩))),(19,(.int .i64 ((nth z1I z1U).fNode))),(20,(.tuple #[(.agg #[(.int .i64 z3v.1.fNode),(.int .i64 z3v.1.fNext),(.int .i64 z3v.1.fLink)]),(.bool z3v.2)])),(14,(.tuple #[(.agg #[(.int .i64 z3v.1.fNode),(.int .i64 z3v.1.fNext),(.int .i64 z3v.1.fLink)]),(.bool z3v.2)])),(21,(.agg #[(.int .i64 z3v.1.fNode),(.int .i64 z3v.1.fNext),(.int .i64 z3v.1.fLink)])),(22,(.bool z3v.2)),(5,(.pointer (some ⟨zRK,0,none⟩))),(6,(.bool z3v.2)),(23,(.bool z3v.2)),(24,(.bool (!z3v.2))),(25,(.bool (!z3v.2))),(33,(.bool ((!z3v.2) && (decide (((nth z1I z1U).fNode) ≠ ((nth z1I 0).fNode))))))] (y29 11 [10,9,8,7,6,5,4,3,2,1,0]) ?_ (fun zED=>?_)
   rotate_left
   ·rcases Bool.eq_false_or_eq_true (!z3v.2) with hb' | hb'
    ·have zoz:=hb'; clear hb'
     have zRM:=zRL zoz
     refine WD.pin (i:=25) rfl zoz ?_
     refine WD.pA 3 26 rfl (fun _=>ya y2C rfl rfl) ?_
     refine WD.qA 4 27 rfl (yc yt rfl (yk .h1 rfl)) ?_
     refine WD.pA 5 28 rfl (fun _=>q_m rfl) ?_
     refine WD.znth (j:=6) (dd:=29) (by kernel_rfl) rfl z2E z2F rfl rfl (Z:=Z) (Pr:=(fun r x=>r = e62 x)) y3J rfl rfl zwi zRM ?_
     rintro z104 z105 zRN z106 rfl
     refine WD.pA 7 30 rfl (fun _=>ya y2C rfl rfl) ?_
     refine WD.qA 8 31 rfl (yc yt rfl (y11 hz.pv zRN rfl)) ?_
     refine WD.pA 9 32 rfl (fun _=>q_neq rfl rfl) ?_
     refine WD.pA 10 33 rfl (fun _=>y2y rfl rfl) ?_
     refine WD.reL (.cons .here (.cons .here .nil)) ?_ zED
     exact (.cons rfl (.cons rfl (.cons rfl (.cons rfl (.cons rfl (.cons rfl (.cons rfl (.cons rfl (.cons rfl (.cons rfl (.cons rfl (.cons rfl (.cons rfl (.cons rfl (.cons rfl (.cons rfl (.cons rfl (.cons rfl (.cons rfl (.cons rfl (.cons rfl (.cons rfl (.cons rfl (.cons (zx (Eq.symm zoz)) (.cons (zx (y2c zoz)) .nil)))))))))))))))))))))))))
    ·have zwk:=hb'; clear hb'
     refine WD.pin (i:=25) rfl zwk ?_
     refine WD.kA 3 26 rfl ?_
     refine WD.kA 4 27 rfl ?_
     refine WD.kA 5 28 rfl ?_
     refine WD.kA 6 29 rfl ?_
     refine WD.kA 7 30 rfl ?_
     refine WD.kA 8 31 rfl ?_
     refine WD.kA 9 32 rfl ?_
     refine WD.pA 10 33 rfl (fun _=>y2z rfl rfl) ?_
     refine WD.reL (.cons .here (.cons .here .nil)) ?_ zED
     exact (.cons rfl (.cons rfl (.cons rfl (.cons rfl (.cons rfl (.cons rfl (.cons rfl (.cons rfl (.cons rfl (.cons rfl (.cons rfl (.cons rfl (.cons rfl (.cons rfl (.cons rfl (.cons rfl (.cons rfl (.cons rfl (.cons rfl (.cons rfl (.cons rfl (.cons rfl (.cons rfl (.cons (zx (Eq.symm zwk)) (.cons (zx (y2b zwk)) .nil)))))))))))))))))))))))))
   refine WD.done (by kernel_rfl) ?_
   refine WX.a ?_
   refine WC.cond rfl (fun zwl=>?_) (fun zwl=>?_)
   ·replace h:=yn h zwl
    refine WC.b (WC.a (WL.pu rfl (WL.nil (WX.a (WC.ret (WX.ys (WX.yd (WX.yd (WX.ys (WX.yd ?_))))))))))
    obtain rfl:=Option.some.inj h
    refine WX.ye Tryz.results52 (.tmp rfl .nil) (fun w hw=>?_)
    exact ⟨yD rfl,hw.sub .nil⟩
   ·replace h:=yo h zwl
    refine WC.skip (WX.yj (WX.a (WC.a (WL.pu rfl (WL.pu rfl (WL.nil ?_))))))
    exact WX.round (G:=Nat × Int) ⟨zwh,(i64 (z1U + 1))⟩ h (Nat.lt_succ_self _) (.cons rfl (.cons rfl (.cons rfl (.cons rfl .nil)))) .nil
  ·replace h:=yo h zwj
   refine WC.exit (WX.yf (WX.yf (WX.yz ?_)))
   exact WX.mid (G:=Unit) () h .nil .nil
 ·rintro  h
  replace h:=zRB.symm.trans h
  refine WC.b (WC.a (WL.pu rfl (WL.nil (WX.a (WC.ret ?_)))))
  obtain rfl:=Option.some.inj h
  refine WX.ye Tryz.results52 (.tmp rfl .nil) (fun w hw=>?_)
  exact ⟨yD rfl,hw.sub .nil⟩
def y6B (zlP : List Sapi_Hop) : Option Bool :=
 (y8E zlP).bind fun zEE=>some (!zEE)
set_option maxRecDepth 20000 in
theorem ybU (Z : Zp) (zEF : Option Addr) (zEG : Nat) (zlP : List Sapi_Hop) (r : Bool)
  (h : y6B zlP = some r) (w₀ : World) (hz : PZ [] w₀ Z)
  (zRO : ZS Z 3 (fun r x=>r = e62 x) zEF zEG zlP) :
  Calls Tryz.prog 51 #[(.slice zEF zlP.length zEG)] w₀ fun e w'=>e = .returned (.bool r) ∧ Hp [] w₀ w' []:=by
 unfold y6B at h
 refine Calls.on1 Tryz.func51 Tryz.ntmps51 ?_
 refine WC.b (WC.a (WL.pu rfl (WL.nil (WX.a (WC.b ?_)))))
 obtain ⟨zEE,zRP,h⟩:=z7 h
 refine WC.a (WL.pu rfl ?_)
 refine WL.cA 4 (za (l:=[.tmp 3]) Tryz.call52 (.cons rfl .nil)) .nil (cc hz .nil fun w pz ho=>ycJ _ _ _ _ _ zRP w pz zRO) ?_
 refine WL.pu rfl (WL.pu rfl (WL.nil (WX.a (WC.ret ?_))))
 obtain rfl:=Option.some.inj h
 refine WX.ye Tryz.results51 (.tmp rfl .nil) (fun w hw=>?_)
 exact ⟨yD rfl,hw.sub .nil⟩
def y6C (zbc : Sapi_End) (zbd : Sapi_End) : Option Int :=
 some (i64 (zbc.fNode - zbd.fNode))
set_option maxRecDepth 20000 in
theorem ybV (Z : Zp)  (zbc : Sapi_End) (zbd : Sapi_End) (r : Int)
  (h : y6C zbc zbd = some r) (w₀ : World) (hz : PZ [] w₀ Z) :
  Calls Tryz.prog 54 #[(.agg #[(.int .i64 zbc.fVL),(.int .i64 zbc.fNode),(.int .i64 zbc.fDelay)]),(.agg #[(.int .i64 zbd.fVL),(.int .i64 zbd.fNode),(.int .i64 zbd.fDelay)])] w₀ fun e w'=>e = .returned (.int .i64 r) ∧ Hp [] w₀ w' []:=by
 unfold y6C at h
 refine Calls.yJ Tryz.func54 Tryz.ntmps54 ?_
 refine WC.b (WC.a ?_)
 refine WL.nA 2 (yH (cs:=[(.int .i64 zbc.fVL),(.int .i64 zbc.fNode),(.int .i64 zbc.fDelay)]) rfl rfl) ?_
 intro z107 _
 refine WL.nA 3 (yH (cs:=[(.int .i64 zbd.fVL),(.int .i64 zbd.fNode),(.int .i64 zbd.fDelay)]) rfl rfl) ?_
 intro z108 _
 refine WL.pu rfl (WL.nil (WX.a (WC.b (WC.a ?_))))
 refine WL.qA 5 (ya ydc rfl rfl) ?_
 refine WL.qA 6 (yc yt rfl (yk .h1 rfl)) ?_
 refine WL.qA 7 (ya ydc rfl rfl) ?_
 refine WL.qA 8 (yc yt rfl (yk .here rfl)) ?_
 refine WL.pu rfl (WL.pu rfl (WL.nil (WX.a (WC.ret ?_))))
 obtain rfl:=Option.some.inj h
 refine WX.ye Tryz.results54 (.tmp rfl .nil) (fun w hw=>?_)
 exact ⟨yD rfl,hw.sub .nil⟩
theorem srtA_92 : ∀ w,(isAgg (Tryz.y2V.t 24)).run Tryz.prog w = .ok true w:=fun _=>by kernel_rfl
theorem srtZ_92 : ∀ w,(Go.sizeOf (Tryz.y2V.t 24)).run Tryz.prog w = .ok 3 w:=fun _=>by kernel_rfl
def y4v (z4V : List Sapi_End) (zlQ : Int) (zlR : Int) (zir : Int) (zfI : Sapi_End → Sapi_End → Option Int) : Option (List Sapi_End):=chk ((zlQ = 0 ∧ zlR = ((z4V.length : Nat) : Int)) ∧ (0 ≤ zir ∧ zir < 4611686018427387904 ∧ z4V.length < 4611686018427387904)) (chk (y7B zfI (y1k zfI z4V) = true) (some (y1k zfI z4V)))
theorem y7d (Z : Zp) (zfJ : Option Addr) (zfK : Nat) (zlS : FuncId) (zwm : List Value) (z4V : List Sapi_End) (zlQ : Int) (zlR : Int) (zir : Int) (zfI : Sapi_End → Sapi_End → Option Int) (r : List Sapi_End) (w₀ : World) (hz : PZ (fps [row (.slice zfJ z4V.length zfK) 79 3 (z4V.flatMap e79)]) w₀ Z)
  (zRQ : ∀ args w,(callFunc zlS args).run Tryz.prog w = .ok (.enter zlS args) w)
  (zRR : ∀ w : World,PZ [] w Z → ∀ (x0 : Sapi_End) (x1 : Sapi_End) (r : Int),zfI x0 x1 = some r → Calls Tryz.prog zlS (([(.agg #[(.int .i64 x0.fVL),(.int .i64 x0.fNode),(.int .i64 x0.fDelay)]),(.agg #[(.int .i64 x1.fVL),(.int .i64 x1.fNode),(.int .i64 x1.fDelay)])] : List Value) ++ zwm).toArray w fun e w'=>e = .returned (.int .i64 r) ∧ Hp [] w w' [])
  (h : y4v z4V zlQ zlR zir zfI = some r) (hown : Hp (fps [row (.slice zfJ z4V.length zfK) 79 3 (z4V.flatMap e79)]) w₀ w₀ [row (.slice zfJ z4V.length zfK) 79 3 (z4V.flatMap e79)]) :
  Calls Tryz.prog 92 #[(.slice zfJ z4V.length zfK),(.int .i64 zlQ),(.int .i64 zlR),(.int .i64 zir),(.func (.func zlS) #[] (zwm).toArray)] w₀ fun e w'=>e = .returned (.tuple #[]) ∧ (r.length = z4V.length) ∧ Hp (fps [row (.slice zfJ z4V.length zfK) 79 3 (z4V.flatMap e79)]) w₀ w' [row (.slice zfJ r.length zfK) 79 3 (r.flatMap e79)]:=by
 obtain ⟨h0,h⟩:=yq h
 obtain ⟨h1,h⟩:=yq h
 have hr:=(Option.some.inj h).symm
 exact y7O (P:=Tryz.prog) (f:=92) (e:=79) (k:=3) (enc:=e79) (fun _=>rfl) (by decide) ycD (fun β _ enc cf g cb hO blk off cap d0 w0 eg hC R=>Tryz.y7R 3 srtA_92 srtZ_92 enc cf g cb hO blk off cap d0 w0 eg hC R) (Tryz.y7G (α:=Unit)) hz zRQ zRR h0 h1 hr hown
def y35 (z4l : List Sapi_End) (zis : Sapi_End → Sapi_End → Option Int) : Option (List Sapi_End) :=
 (y5w (u64 ((z4l.length : Nat) : Int))).bind fun zoA=>(y4v z4l 0 ((z4l.length : Nat) : Int) zoA zis).bind fun zoB=>some zoB
set_option maxRecDepth 20000 in
theorem y6O (Z : Zp) (zdC : Option Addr) (zdD : Nat) (zit : FuncId) (zoC : List Value) (z4l : List Sapi_End) (zis : Sapi_End → Sapi_End → Option Int) (r : List Sapi_End)
  (h : y35 z4l zis = some r) (w₀ : World) (hz : PZ (fps [row (.slice zdC z4l.length zdD) 79 3 (z4l.flatMap e79)]) w₀ Z)
  (zRS : ∀ args w,(callFunc zit args).run Tryz.prog w = .ok (.enter zit args) w)
  (zRT : ∀ w : World,PZ [] w Z → ∀ (x0 : Sapi_End) (x1 : Sapi_End) (r : Int),zis x0 x1 = some r → Calls Tryz.prog zit (([(.agg #[(.int .i64 x0.fVL),(.int .i64 x0.fNode),(.int .i64 x0.fDelay)]),(.agg #[(.int .i64 x1.fVL),(.int .i64 x1.fNode),(.int .i64 x1.fDelay)])] : List Value) ++ zoC).toArray w fun e w'=>e = .returned (.int .i64 r) ∧ Hp [] w w' [])
  (hown : Hp (fps [row (.slice zdC z4l.length zdD) 79 3 (z4l.flatMap e79)]) w₀ w₀ [row (.slice zdC z4l.length zdD) 79 3 (z4l.flatMap e79)]) :
  Calls Tryz.prog 53 #[(.slice zdC z4l.length zdD),(.func (.func zit) #[] (zoC).toArray)] w₀ fun e w'=>e = .returned (.tuple #[]) ∧ (r.length = z4l.length) ∧ Hp (fps [row (.slice zdC z4l.length zdD) 79 3 (z4l.flatMap e79)]) w₀ w' [row (.slice zdC r.length zdD) 79 3 (r.flatMap e79)]:=by
 unfold y35 at h
 refine Calls.oh2 Tryz.func53 Tryz.ntmps53 hown ?_
 refine WC.b (WC.a (WL.pu rfl ?_))
 refine WL.qA 6 (yE Tryz.underlying36 rfl) ?_
 refine WL.pu rfl (WL.nil (WX.a ?_))
 obtain ⟨zoA,zRU,h⟩:=z7 h
 obtain ⟨zoB,zRV,h⟩:=z7 h
 refine WC.a (WL.pu rfl (WL.pu rfl (WL.pu rfl ?_)))
 refine WL.qA 10 (y7f Tryz.underlying3 Tryz.underlying142 rfl rfl) ?_
 refine WL.cA 11 (za (l:=[.tmp 10]) Tryz.call48 (.cons rfl .nil)) .nil (cc hz .nil fun w pz ho=>y7o (Z:=_)  (z71:=(u64 ((z4l.length : Nat) : Int))) (r:=zoA) w pz  zRU) ?_
 refine WL.pu rfl ?_
 refine WL.y4e (dd:=13) rfl rfl rfl (za (l:=[.tmp 7,.const (.int .i64 0),.tmp 8,.tmp 11,.tmp 12]) Tryz.call92 (.cons rfl (.cons rfl (.cons rfl (.cons rfl (.cons rfl .nil)))))) (.cons .here .nil) (cc hz (.cons .here .nil) fun w pz ho=>y7d (Z:=_) (zfJ:=zdC) (zfK:=zdD) (zlS:=zit) (zwm:=zoC) (z4V:=z4l) (zlQ:=0) (zlR:=((z4l.length : Nat) : Int)) (zir:=zoA) (zfI:=zis) (r:=zoB) w pz zRS zRT zRV ho) ?_
 rintro  zEH
 refine WL.repin (i:=0) rfl (u:=(.slice zdC zoB.length zdD)) (y89 zEH.symm) ?_
 refine WL.nil ?_
 obtain rfl:=Option.some.inj h
 refine WX.y4c Tryz.results53 .nil (fun w hw=>?_)
 exact ⟨y6Q,(zEH.trans rfl),hw.sub (.cons .here .nil)⟩
def y4T (z2r : List Sapi_PortBound) (zbe : (List (Sbound_place × Int)) → Option (List Sapi_End)) : Nat → Int → (List (Sbound_place × Int)) → Option (List Sapi_End)
 | 0,_,_=>none
 | zwn + 1,z2s,z6L=>if decide (z2s ≥ 0) then chk ((0 : Int) ≤ z2s ∧ z2s < ((z2r.length : Nat) : Int)) (y4T z2r zbe zwn (i64 (z2s - 1)) (yG z6L (⟨((nth z2r z2s).fNode),((nth z2r z2s).fLink)⟩ : Sbound_place) ((nth z2r z2s).fDelay))) else zbe z6L
theorem y9O {n : Nat} {z2r : List Sapi_PortBound} {zbe : (List (Sbound_place × Int)) → Option (List Sapi_End)} {z2s : Int} {z6L : List (Sbound_place × Int)} {r : List Sapi_End} (h : y4T z2r zbe n z2s z6L = some r) : ∃ m,n = m + 1:=by
 cases n with
 | zero=>cases h
 | succ m=>exact ⟨m,rfl⟩
def y4U (zg : List (List Sapi_Hop)) (zf : Int) (zk : Sapi_Config) (z1y : List (Sbound_place × Int)) (zbf : (List Sapi_End) → Option (List Sapi_End)) : Nat → (List Sapi_End) → Int → (List (Int × Int)) → Option (List Sapi_End)
 | 0,_,_,_=>none
 | zwo + 1,z2R,zt,zY=>if decide (zt < (((nth zg zf).length : Nat) : Int)) then jp2 (fun (z8j : List Sapi_End) (zbg : List (Int × Int))=>y4U zg zf zk z1y zbf zwo z8j (i64 (zt + 1)) zbg) fun zlT=>chk ((0 : Int) ≤ zt ∧ zt < (((nth zg zf).length : Nat) : Int)) (chk ((y2w zY ((nth (nth zg zf) zt).fNext)) = false → ((0 : Int) ≤ 0 ∧ 0 < (((nth zg zf).length : Nat) : Int))) (if (y2w zY ((nth (nth zg zf) zt).fNext)) || (decide (((nth (nth zg zf) zt).fNext) = ((nth (nth zg zf) 0).fNode))) then zlT z2R zY else (y3o (⟨((nth (nth zg zf) zt).fNode),((nth (nth zg zf) zt).fNext),((nth (nth zg zf) zt).fLink)⟩ : Sapi_Hop)).bind fun z6f=>if (decide (((nth (nth zg zf) zt).fNext) ≥ 0)) && (decide (((nth (nth zg zf) zt).fNext) < ((zk.fModules.length : Nat) : Int))) then chk ((((z2R ++ ([(⟨zf,((nth (nth zg zf) zt).fNext),(yp (yG zY ((nth (nth zg zf) zt).fNext) (i64 ((yp zY ((nth (nth zg zf) zt).fNode) 0) + (yp z1y z6f 0)))) ((nth (nth zg zf) zt).fNext) 0)⟩ : Sapi_End)] : List Sapi_End)).length : Nat) : Int) * 24 ≤ 140737488355328 ∧ (((z2R ++ ([(⟨zf,((nth (nth zg zf) zt).fNext),(yp (yG zY ((nth (nth zg zf) zt).fNext) (i64 ((yp zY ((nth (nth zg zf) zt).fNode) 0) + (yp z1y z6f 0)))) ((nth (nth zg zf) zt).fNext) 0)⟩ : Sapi_End)] : List Sapi_End)).length : Nat) : Int) ≤ 4611686018427387904) (zlT (z2R ++ ([(⟨zf,((nth (nth zg zf) zt).fNext),(yp (yG zY ((nth (nth zg zf) zt).fNext) (i64 ((yp zY ((nth (nth zg zf) zt).fNode) 0) + (yp z1y z6f 0)))) ((nth (nth zg zf) zt).fNext) 0)⟩ : Sapi_End)] : List Sapi_End)) (yG zY ((nth (nth zg zf) zt).fNext) (i64 ((yp zY ((nth (nth zg zf) zt).fNode) 0) + (yp z1y z6f 0))))) else zlT z2R (yG zY ((nth (nth zg zf) zt).fNext) (i64 ((yp zY ((nth (nth zg zf) zt).fNode) 0) + (yp z1y z6f 0)))))) else zbf z2R
theorem y9P {n : Nat} {zg : List (List Sapi_Hop)} {zf : Int} {zk : Sapi_Config} {z1y : List (Sbound_place × Int)} {zbf : (List Sapi_End) → Option (List Sapi_End)} {z2R : List Sapi_End} {zt : Int} {zY : List (Int × Int)} {r : List Sapi_End} (h : y4U zg zf zk z1y zbf n z2R zt zY = some r) : ∃ m,n = m + 1:=by
 cases n with
 | zero=>cases h
 | succ m=>exact ⟨m,rfl⟩
def y4V (zg : List (List Sapi_Hop)) (zk : Sapi_Config) (z1y : List (Sbound_place × Int)) (zbh : (List Sapi_End) → Option (List Sapi_End)) : Nat → (List Sapi_End) → Int → Option (List Sapi_End)
 | 0,_,_=>none
 | zwp + 1,z24,zf=>if decide (zf < ((zg.length : Nat) : Int)) then jp1 (fun (z8k : List Sapi_End)=>y4V zg zk z1y zbh zwp z8k (i64 (zf + 1))) fun zwq=>chk ((0 : Int) ≤ zf ∧ zf < ((zg.length : Nat) : Int)) (jp1 (fun (z93 : List Sapi_End)=>(y35 z93 (fun (y0 : Sapi_End) (y1 : Sapi_End)=>y6C y0 y1)).bind fun zfL=>chk ((((z24 ++ zfL).length : Nat) : Int) * 24 ≤ 140737488355328 ∧ (((z24 ++ zfL).length : Nat) : Int) ≤ 4611686018427387904) (zwq (z24 ++ zfL))) fun zbf=>y4U zg zf zk z1y zbf yB ([] : List Sapi_End) 0 ([] : List (Int × Int))) else zbh z24
theorem y9Q {n : Nat} {zg : List (List Sapi_Hop)} {zk : Sapi_Config} {z1y : List (Sbound_place × Int)} {zbh : (List Sapi_End) → Option (List Sapi_End)} {z24 : List Sapi_End} {zf : Int} {r : List Sapi_End} (h : y4V zg zk z1y zbh n z24 zf = some r) : ∃ m,n = m + 1:=by
 cases n with
 | zero=>cases h
 | succ m=>exact ⟨m,rfl⟩
def y8F (zk : Sapi_Config) (zg : List (List Sapi_Hop)) (z2r : List Sapi_PortBound) : Option (List Sapi_End) :=
 (y18 zg (fun (y0 : List Sapi_Hop)=>y6B y0)).bind fun zEI=>if zEI then some ([] : List Sapi_End) else jp1 (fun (z1y : List (Sbound_place × Int))=>jp1 (fun (z94 : List Sapi_End)=>some z94) fun zbh=>y4V zg zk z1y zbh yB ([] : List Sapi_End) 0) fun zbe=>y4T z2r zbe yB (i64 (((z2r.length : Nat) : Int) - 1)) ([] : List (Sbound_place × Int))
set_option maxRecDepth 20000 in
theorem ycK (Z : Zp) (z95 : Option Addr) (z96 : Nat) (z97 : Option Addr) (z98 : Nat) (z99 : Option Addr) (z9a : Nat) (z9b : Option Addr) (z9c : Nat) (z9d : Option Addr) (z9e : Nat) (z9f : Option Addr) (z9g : Nat) (z9h : Option Addr) (z9i : Nat) (z9j : Option Addr) (z9k : Nat) (z9l : Option Addr) (z9m : Nat) (zwr : Option Addr) (zws : Nat) (zk : Sapi_Config) (zg : List (List Sapi_Hop)) (z2r : List Sapi_PortBound) (r : List Sapi_End)
  (h : y8F zk zg z2r = some r) (w₀ : World) (hz : PZ [] w₀ Z)
  (z109 : ZS Z 4 (y3y Z) z95 z96 zk.fModules)
  (z10a : ZS Z 4 (y49 Z) z97 z98 zk.fChannels)
  (z10b : ZS Z 4 (fun r x=>r = e66 x) z99 z9a zk.fSwitches)
  (z10c : ZS Z 4 (fun r x=>r = e64 x) z9b z9c zk.fLinks)
  (z10d : ZS Z 7 (p46 Z) z9d z9e zk.fVLs)
  (z10e : ZS Z 5 (fun r x=>r = y4m x) z9f z9g zk.fHealth)
  (z10f : ZS Z 3 (y4a Z) z9h z9i zk.fCauses)
  (z10g : ZS Z 4 (fun r x=>r = y4n x) z9j z9k zk.fVersions)
  (zEJ : ZS Z 1 (p48 Z) z9l z9m zg)
  (zwt : ZS Z 4 (fun r x=>r = e58 x) zwr zws z2r) :
  Calls Tryz.prog 26 #[(.agg #[(.slice z95 zk.fModules.length z96),(.slice z97 zk.fChannels.length z98),(.slice z99 zk.fSwitches.length z9a),(.slice z9b zk.fLinks.length z9c),(.slice z9d zk.fVLs.length z9e),(.slice z9f zk.fHealth.length z9g),(.slice z9h zk.fCauses.length z9i),(.slice z9j zk.fVersions.length z9k)]),(.slice z9l zg.length z9m),(.slice zwr z2r.length zws)] w₀ fun e w'=>∃ zEK : Option Addr,∃ zEL : Nat,e = .returned (.slice zEK r.length zEL) ∧ True ∧ Hp [] w₀ w' [row (.slice zEK r.length zEL) 79 3 (r.flatMap e79)]:=by
 unfold y8F at h
 refine Calls.on3 Tryz.func26 Tryz.ntmps26 ?_
 refine WC.b (WC.a ?_)
 refine WL.nA 3 (yH (cs:=[(.slice z95 zk.fModules.length z96),(.slice z97 zk.fChannels.length z98),(.slice z99 zk.fSwitches.length z9a),(.slice z9b zk.fLinks.length z9c),(.slice z9d zk.fVLs.length z9e),(.slice z9f zk.fHealth.length z9g),(.slice z9h zk.fCauses.length z9i),(.slice z9j zk.fVersions.length z9k)]) rfl rfl) ?_
 intro z5S _
 refine WL.pu rfl (WL.nil (WX.a (WC.b (WC.b ?_))))
 obtain ⟨zEI,zRW,h⟩:=z7 h
 refine WC.a (WL.pu rfl ?_)
 refine WL.cA 19 (za (l:=[.tmp 18,.func 51]) Tryz.call27 (.cons rfl (.cons rfl .nil))) .nil (cc hz .nil fun w pz ho=>y3k _ _ _ (ze3:=51) (zjC:=[]) _ (ze2:=(fun (y0 : List Sapi_Hop)=>y6B y0)) _ zRW w pz zEJ Tryz.call51 (fun w' hz' y0 ga0 gc0 r gh0 hr=>ybU _ _ _ _ _ hr w' hz' gh0)) ?_
 refine WL.nil (WX.a ?_)
 refine WC.cond rfl (fun zwu=>?_) (fun zwu=>?_)
 ·replace h:=yn h zwu
  refine WC.b (WC.a (WL.pu rfl (WL.nil (WX.a (WC.ret (WX.yd ?_))))))
  refine WX.nilRow 79 3 ?_
  obtain rfl:=Option.some.inj h
  refine WX.ye Tryz.results26 (.tmp rfl .nil) (fun w hw=>?_)
  exact ⟨none,0,yD rfl,trivial,hw.sub (.cons .here .nil)⟩
 ·replace h:=yo h zwu
  refine WC.skip (WX.a (WC.b (WC.a ?_)))
  refine WL.nA 20 (y3e (fun x=>Value.agg (e97 x).toArray) (Value.int .i64)) ?_
  intro z5T _
  refine WL.pu rfl (WL.nil (WX.a ?_))
  obtain ⟨zbe,zRX,h⟩:=yU h
  refine WC.y2P (fun (z1y : List (Sbound_place × Int))=>(zbe z1y = some r)) (fun z1y=>[(1,(.slice z9l zg.length z9m)),(3,(.pointer (some ⟨z5S,0,none⟩))),(7,(.map (some z5T)))]) (fun z1y=>[stb z5S 31 [(.slice z95 zk.fModules.length z96),(.slice z97 zk.fChannels.length z98),(.slice z99 zk.fSwitches.length z9a),(.slice z9b zk.fLinks.length z9c),(.slice z9d zk.fVLs.length z9e),(.slice z9f zk.fHealth.length z9g),(.slice z9h zk.fCauses.length z9i),(.slice z9j zk.fVersions.length z9k)],yr z5T (fun x=>Value.agg (e97 x).toArray) (Value.int .i64) z1y]) ?_ ?_
  ·skip
   refine WC.b (WC.a (WL.pu rfl ?_))
   refine WL.qA 22 (yE Tryz.underlying35 rfl) ?_
   refine WL.pu rfl (WL.pu rfl (WL.nil (WX.a (WC.block ?_))))
   refine WC.y6R (fun (ziu : Nat) (z2s : Int) (z6L : List (Sbound_place × Int))=>(y4T z2r zbe ziu z2s z6L = some r)) (fun ziu z2s z6L=>[(1,(.slice z9l zg.length z9m)),(2,(.slice zwr z2r.length zws)),(3,(.pointer (some ⟨z5S,0,none⟩))),(7,(.map (some z5T))),(8,(.int .i64 z2s))]) (fun ziu z2s z6L=>[stb z5S 31 [(.slice z95 zk.fModules.length z96),(.slice z97 zk.fChannels.length z98),(.slice z99 zk.fSwitches.length z9a),(.slice z9b zk.fLinks.length z9c),(.slice z9d zk.fVLs.length z9e),(.slice z9f zk.fHealth.length z9g),(.slice z9h zk.fCauses.length z9i),(.slice z9j zk.fVersions.length z9k)],yr z5T (fun x=>Value.agg (e97 x).toArray) (Value.int .i64) z6L]) (fun ziu z2s z6L=>ziu) ⟨yB,(i64 (((z2r.length : Nat) : Int) - 1)),([] : List (Sbound_place × Int))⟩ h (.cons rfl (.cons rfl (.cons rfl (.cons rfl (.cons rfl .nil))))) (.cons .h1 (.cons .here .nil)) ?_
   rintro ziu z2s z6L h
   obtain ⟨zwn,rfl⟩:=y9O h
   rw [y4T] at h
   refine WC.b (WC.b (WC.a (WL.pu rfl (WL.pu rfl (WL.nil (WX.a ?_))))))
   refine WC.cond rfl (fun zwv=>?_) (fun zwv=>?_)
   ·replace h:=yn h zwv
    refine WC.skip (WX.a (WC.b (WC.block ?_)))
    obtain ⟨zww,h⟩:=yq h
    refine WC.yL (fun i=>[17].contains i) [] rfl ?_
    refine WD.pA 0 28 rfl (fun _=>q_m rfl) ?_
    refine WD.pA 1 29 rfl (fun _=>q_m rfl) ?_
    refine WD.pA 2 30 rfl (fun _=>q_m rfl) ?_
    refine WD.znth (j:=3) (dd:=31) (by kernel_rfl) rfl z2E z2F rfl rfl (Z:=Z) (Pr:=(fun r x=>r = e58 x)) y5f rfl rfl zwt zww ?_
    rintro z10h z10i zRY z10j rfl
    refine WD.pA 4 32 rfl (fun _=>ya y9h rfl rfl) ?_
    refine WD.qA 5 33 rfl (yc yt rfl (y11 hz.pv zRY rfl)) ?_
    refine WD.pA 6 34 rfl (fun _=>q_m rfl) ?_
    refine WD.pA 7 35 rfl (fun _=>q_m rfl) ?_
    refine WD.znth (j:=8) (dd:=36) (by kernel_rfl) rfl z2E z2F rfl rfl (Z:=Z) (Pr:=(fun r x=>r = e58 x)) y5f rfl rfl zwt zww ?_
    rintro z10k z10l zRZ z10m rfl
    refine WD.pA 9 37 rfl (fun _=>ya y9i rfl rfl) ?_
    refine WD.qA 10 38 rfl (yc yt rfl (y11 hz.pv zRZ rfl)) ?_
    refine WD.pA 11 39 rfl (fun _=>yI (v:=(.agg #[(.int .i64 ((nth z2r z2s).fNode)),(.int .i64 ((nth z2r z2s).fLink))])) (Eos.parts (l:=[.tmp 33,.tmp 38]) (.cons rfl (.cons rfl .nil)) [0,1]) (fun _=>by kernel_rfl)) ?_
    refine WD.pA 12 40 rfl (fun _=>q_m rfl) ?_
    refine WD.pA 13 41 rfl (fun _=>q_m rfl) ?_
    refine WD.znth (j:=14) (dd:=42) (by kernel_rfl) rfl z2E z2F rfl rfl (Z:=Z) (Pr:=(fun r x=>r = e58 x)) y5f rfl rfl zwt zww ?_
    rintro z10n z10o zS0 z10p rfl
    refine WD.pA 15 43 rfl (fun _=>ya fo_58_2 rfl rfl) ?_
    refine WD.qA 16 44 rfl (yc yt rfl (y11 hz.pv zS0 rfl)) ?_
    refine WD.y2F (i:=17) rfl (by kernel_rfl) rfl rfl rfl (by kernel_rfl) (y3m (k:=(⟨((nth z2r z2s).fNode),((nth z2r z2s).fLink)⟩ : Sbound_place)) (v:=((nth z2r z2s).fDelay)) y76 Tryz.underlying93 rfl rfl rfl rfl .h1) ?_
    refine WD.done (by kernel_rfl) ?_
    refine WX.yj (WX.a (WC.a (WL.pu rfl (WL.pu rfl (WL.pu rfl (WL.nil ?_))))))
    exact WX.round (G:=Nat × Int × (List (Sbound_place × Int))) ⟨zwn,(i64 (z2s - 1)),(yG z6L (⟨((nth z2r z2s).fNode),((nth z2r z2s).fLink)⟩ : Sbound_place) ((nth z2r z2s).fDelay))⟩ h (Nat.lt_succ_self _) (.cons rfl (.cons rfl (.cons rfl (.cons rfl (.cons rfl .nil))))) (.cons .h1 (.cons .here .nil))
   ·replace h:=yo h zwv
    refine WC.exit (WX.yf (WX.yf (WX.yz ?_)))
    exact WX.mid (G:=(List (Sbound_place × Int))) z6L h (.cons rfl (.cons rfl (.cons rfl .nil))) (.cons .here (.cons .here .nil))
  ·rintro z1y h
   replace h:=(zRX z1y).symm.trans h
   refine WC.b (WC.a (WL.pu rfl (WL.nil (WX.a ?_))))
   obtain ⟨zbh,zS1,h⟩:=yU h
   refine WC.y1x (fun (z94 : List Sapi_End) (ziv : Option Addr) (ziw : Nat)=>(zbh z94 = some r)) (fun z94 ziv ziw=>[(9,(.slice ziv z94.length ziw))]) (fun z94 ziv ziw=>[row (.slice ziv z94.length ziw) 79 3 (z94.flatMap e79)]) ?_ ?_
   ·skip
    refine WC.b (WC.a (WL.pu rfl ?_))
    refine WL.qA 46 (yE Tryz.underlying32 rfl) ?_
    refine WL.pu rfl (WL.nil (WX.a (WC.block ?_)))
    refine WC.nilRow 79 3 ?_
    refine WC.y4k (fun (zix : Nat) (z24 : List Sapi_End) (zf : Int) (z6g : Option Addr) (z6h : Nat)=>(y4V zg zk z1y zbh zix z24 zf = some r)) (fun zix z24 zf z6g z6h=>[(3,(.pointer (some ⟨z5S,0,none⟩))),(7,(.map (some z5T))),(9,(.slice z6g z24.length z6h)),(45,(.slice z9l zg.length z9m)),(46,(.int .i64 ((zg.length : Nat) : Int))),(47,(.int .i64 zf))]) (fun zix z24 zf z6g z6h=>[row (.slice z6g z24.length z6h) 79 3 (z24.flatMap e79),stb z5S 31 [(.slice z95 zk.fModules.length z96),(.slice z97 zk.fChannels.length z98),(.slice z99 zk.fSwitches.length z9a),(.slice z9b zk.fLinks.length z9c),(.slice z9d zk.fVLs.length z9e),(.slice z9f zk.fHealth.length z9g),(.slice z9h zk.fCauses.length z9i),(.slice z9j zk.fVersions.length z9k)],yr z5T (fun x=>Value.agg (e97 x).toArray) (Value.int .i64) z1y]) (fun zix z24 zf z6g z6h=>zix) ⟨yB,([] : List Sapi_End),0,none,0⟩ h (.cons rfl (.cons rfl (.cons rfl (.cons rfl (.cons rfl (.cons rfl .nil)))))) (.cons .here (.cons .here (.cons .here .nil))) ?_
    rintro zix z24 zf z6g z6h h
    obtain ⟨zwp,rfl⟩:=y9Q h
    rw [y4V] at h
    refine WC.b (WC.a (WL.pu rfl (WL.nil (WX.a (WC.b ?_)))))
    refine WC.cond rfl (fun zwx=>?_) (fun zwx=>?_)
    ·replace h:=yn h zwx
     refine WC.skip (WX.a ?_)
     obtain ⟨zwq,zS2,h⟩:=yU h
     refine WC.y1x (fun (z8k : List Sapi_End) (ziy : Option Addr) (ziz : Nat)=>(zwq z8k = some r)) (fun z8k ziy ziz=>[(3,(.pointer (some ⟨z5S,0,none⟩))),(7,(.map (some z5T))),(9,(.slice ziy z8k.length ziz)),(45,(.slice z9l zg.length z9m)),(46,(.int .i64 ((zg.length : Nat) : Int))),(47,(.int .i64 zf))]) (fun z8k ziy ziz=>[row (.slice ziy z8k.length ziz) 79 3 (z8k.flatMap e79),stb z5S 31 [(.slice z95 zk.fModules.length z96),(.slice z97 zk.fChannels.length z98),(.slice z99 zk.fSwitches.length z9a),(.slice z9b zk.fLinks.length z9c),(.slice z9d zk.fVLs.length z9e),(.slice z9f zk.fHealth.length z9g),(.slice z9h zk.fCauses.length z9i),(.slice z9j zk.fVersions.length z9k)],yr z5T (fun x=>Value.agg (e97 x).toArray) (Value.int .i64) z1y]) ?_ ?_
     ·skip
      refine WC.block (WC.b ?_)
      obtain ⟨zS3,h⟩:=yq h
      refine WC.a (WL.pu rfl ?_)
      refine WL.znth (dd:=50) rfl rfl (Z:=Z) (Pr:=(p48 Z)) y6L rfl rfl zEJ zS3 ?_
      rintro z10q z10r zS4 z10s ⟨ziA,ziB,rfl,zEM⟩
      refine WL.qA 51 (yc y5e rfl (y48 hz.pv zS4 rfl)) ?_
      refine WL.pu rfl (WL.pu rfl (WL.nil (WX.a (WC.b (WC.a ?_)))))
      refine WL.nA 52 (y3e (Value.int .i64) (Value.int .i64)) ?_
      intro ziC _
      refine WL.pu rfl (WL.nil (WX.a (WC.b (WC.a (WL.pu rfl (WL.nil (WX.a ?_)))))))
      obtain ⟨zbf,zS5,h⟩:=yU h
      refine WC.y1x (fun (z93 : List Sapi_End) (ziD : Option Addr) (ziE : Nat)=>(zbf z93 = some r)) (fun z93 ziD ziE=>[(3,(.pointer (some ⟨z5S,0,none⟩))),(7,(.map (some z5T))),(9,(.slice z6g z24.length z6h)),(13,(.slice ziD z93.length ziE)),(45,(.slice z9l zg.length z9m)),(46,(.int .i64 ((zg.length : Nat) : Int))),(47,(.int .i64 zf))]) (fun z93 ziD ziE=>[row (.slice z6g z24.length z6h) 79 3 (z24.flatMap e79),row (.slice ziD z93.length ziE) 79 3 (z93.flatMap e79),stb z5S 31 [(.slice z95 zk.fModules.length z96),(.slice z97 zk.fChannels.length z98),(.slice z99 zk.fSwitches.length z9a),(.slice z9b zk.fLinks.length z9c),(.slice z9d zk.fVLs.length z9e),(.slice z9f zk.fHealth.length z9g),(.slice z9h zk.fCauses.length z9i),(.slice z9j zk.fVersions.length z9k)],yr z5T (fun x=>Value.agg (e97 x).toArray) (Value.int .i64) z1y]) ?_ ?_
      ·skip
       refine WC.b (WC.a (WL.pu rfl ?_))
       refine WL.qA 54 (yE Tryz.underlying48 rfl) ?_
       refine WL.pu rfl (WL.nil (WX.a (WC.block ?_)))
       refine WC.nilRow 79 3 ?_
       refine WC.y8t (fun (ziF : Nat) (z2R : List Sapi_End) (zt : Int) (zY : List (Int × Int)) (z9n : Option Addr) (z9o : Nat)=>(y4U zg zf zk z1y zbf ziF z2R zt zY = some r)) (fun ziF z2R zt zY z9n z9o=>[(3,(.pointer (some ⟨z5S,0,none⟩))),(7,(.map (some z5T))),(9,(.slice z6g z24.length z6h)),(10,(.int .i64 zf)),(11,(.slice ziA ((nth zg zf).length) ziB)),(12,(.map (some ziC))),(13,(.slice z9n z2R.length z9o)),(45,(.slice z9l zg.length z9m)),(46,(.int .i64 ((zg.length : Nat) : Int))),(47,(.int .i64 zf)),(53,(.slice ziA ((nth zg zf).length) ziB)),(54,(.int .i64 (((nth zg zf).length : Nat) : Int))),(55,(.int .i64 zt))]) (fun ziF z2R zt zY z9n z9o=>[row (.slice z6g z24.length z6h) 79 3 (z24.flatMap e79),row (.slice z9n z2R.length z9o) 79 3 (z2R.flatMap e79),stb z5S 31 [(.slice z95 zk.fModules.length z96),(.slice z97 zk.fChannels.length z98),(.slice z99 zk.fSwitches.length z9a),(.slice z9b zk.fLinks.length z9c),(.slice z9d zk.fVLs.length z9e),(.slice z9f zk.fHealth.length z9g),(.slice z9h zk.fCauses.length z9i),(.slice z9j zk.fVersions.length z9k)],yr z5T (fun x=>Value.agg (e97 x).toArray) (Value.int .i64) z1y,yr ziC (Value.int .i64) (Value.int .i64) zY]) (fun ziF z2R zt zY z9n z9o=>ziF) ⟨yB,([] : List Sapi_End),0,([] : List (Int × Int)),none,0⟩ h (.cons rfl (.cons rfl (.cons rfl (.cons rfl (.cons rfl (.cons rfl (.cons rfl (.cons rfl (.cons rfl (.cons rfl (.cons rfl (.cons rfl (.cons rfl .nil))))))))))))) (.cons .h2 (.cons .here (.cons .h1 (.cons .h1 (.cons .here .nil))))) ?_
       rintro ziF z2R zt zY z9n z9o h
       obtain ⟨zwo,rfl⟩:=y9P h
       rw [y4U] at h
       refine WC.b (WC.a (WL.pu rfl (WL.nil (WX.a (WC.b ?_)))))
       refine WC.cond rfl (fun zwy=>?_) (fun zwy=>?_)
       ·replace h:=yn h zwy
        refine WC.skip (WX.a ?_)
        obtain ⟨zlT,zS6,h⟩:=y3D h
        refine WC.y5s (fun (z8j : List Sapi_End) (zbg : List (Int × Int)) (ziG : Option Addr) (ziH : Nat)=>(zlT z8j zbg = some r)) (fun z8j zbg ziG ziH=>[(3,(.pointer (some ⟨z5S,0,none⟩))),(7,(.map (some z5T))),(9,(.slice z6g z24.length z6h)),(10,(.int .i64 zf)),(11,(.slice ziA ((nth zg zf).length) ziB)),(12,(.map (some ziC))),(13,(.slice ziG z8j.length ziH)),(45,(.slice z9l zg.length z9m)),(46,(.int .i64 ((zg.length : Nat) : Int))),(47,(.int .i64 zf)),(53,(.slice ziA ((nth zg zf).length) ziB)),(54,(.int .i64 (((nth zg zf).length : Nat) : Int))),(55,(.int .i64 zt))]) (fun z8j zbg ziG ziH=>[row (.slice z6g z24.length z6h) 79 3 (z24.flatMap e79),row (.slice ziG z8j.length ziH) 79 3 (z8j.flatMap e79),stb z5S 31 [(.slice z95 zk.fModules.length z96),(.slice z97 zk.fChannels.length z98),(.slice z99 zk.fSwitches.length z9a),(.slice z9b zk.fLinks.length z9c),(.slice z9d zk.fVLs.length z9e),(.slice z9f zk.fHealth.length z9g),(.slice z9h zk.fCauses.length z9i),(.slice z9j zk.fVersions.length z9k)],yr z5T (fun x=>Value.agg (e97 x).toArray) (Value.int .i64) z1y,yr ziC (Value.int .i64) (Value.int .i64) zbg]) ?_ ?_
        ·skip
         refine WC.block (WC.b ?_)
         obtain ⟨zS7,h⟩:=yq h
         refine WC.a ?_
         refine WL.znth (dd:=57) rfl rfl (Z:=Z) (Pr:=(fun r x=>r = e62 x)) y3J rfl rfl zEM zS7 ?_
         rintro zS8 z10t zS9 z10u rfl
         refine WL.qA 58 (yg y2g rfl (y1A hz.pv zS9) rfl) ?_
         refine WL.nA 15 (yv (cs:=[(.int .i64 0),(.int .i64 0),(.int .i64 0)]) y3E rfl) ?_
         intro zEN _
         refine WL.ym rfl rfl (yl y3Q rfl rfl rfl .here rfl rfl rfl) ?_
         refine WL.nil (WX.a (WC.b (WC.b (WC.a (WL.pu rfl ?_)))))
         refine WL.qA 61 (ya y4h rfl rfl) ?_
         refine WL.qA 62 (yc yt rfl (yk .here rfl)) ?_
         refine WL.qA 63 (yc3 (k:=((nth (nth zg zf) zt).fNext)) (dflt:=(0 : Int)) y4G Tryz.underlying145 y2D rfl rfl rfl .h5) ?_
         refine WL.pu rfl (WL.pu rfl (WL.pu rfl (WL.pu rfl (WL.pu rfl (WL.nil (WX.a (WC.b ?_)))))))
         obtain ⟨zSa,h⟩:=yq h
         refine WC.yL (fun i=>[].contains i) [] rfl ?_
         refine WD.pA 0 66 rfl (fun _=>q_m rfl) ?_
         refine WD.pA 1 67 rfl (fun _=>q_m rfl) ?_
         refine WD.mid (fuel':=0) [(3,(.pointer (some ⟨z5S,0,none⟩))),(7,(.map (some z5T))),(9,(.slice z6g z24.length z6h)),(10,(.int .i64 zf)),(11,(.slice ziA ((nth zg zf).length) ziB)),(12,(.map (some ziC))),(13,(.slice z9n z2R.length z9o)),(45,(.slice z9l zg.length z9m)),(46,(.int .i64 ((zg.length : Nat) : Int))),(47,(.int .i64 zf)),(53,(.slice ziA ((nth zg zf).length) ziB)),(54,(.int .i64 (((nth zg zf).length : Nat) : Int))),(55,(.int .i64 zt)),(56,(.bool (decide (zt < (((nth zg zf).length : Nat) : Int))))),(57,(.pointer (some zS8))),(58,(.agg #[(.int .i64 ((nth (nth zg zf) zt).fNode)),(.int .i64 ((nth (nth zg zf) zt).fNext)),(.int .i64 ((nth (nth zg zf) zt).fLink))])),(15,(.pointer (some ⟨zEN,0,none⟩))),(60,(.map (some ziC))),(61,(.pointer (some ⟨zEN,1,none⟩))),(62,(.int .i64 ((nth (nth zg zf) zt).fNext))),(63,(.tuple #[(.int .i64 (yp zY ((nth (nth zg zf) zt).fNext) 0)),(.bool (y2w zY ((nth (nth zg zf) zt).fNext)))])),(59,(.tuple #[(.int .i64 (yp zY ((nth (nth zg zf) zt).fNext) 0)),(.bool (y2w zY ((nth (nth zg zf) zt).fNext)))])),(64,(.int .i64 (yp zY ((nth (nth zg zf) zt).fNext) 0))),(65,(.bool (y2w zY ((nth (nth zg zf) zt).fNext)))),(16,(.int .i64 (yp zY ((nth (nth zg zf) zt).fNext) 0))),(17,(.bool (y2w zY ((nth (nth zg zf) zt).fNext)))),(66,(.bool (y2w zY ((nth (nth zg zf) zt).fNext)))),(67,(.bool (y2w zY ((nth (nth zg zf) zt).fNext)))),(75,(.bool ((y2w zY ((nth (nth zg zf) zt).fNext)) || (decide (((nth (nth zg zf) zt).fNext) = ((nth (nth zg zf) 0).fNode))))))] (y29 10 [9,8,7,6,5,4,3,2,1,0]) ?_ (fun zEO=>?_)
         rotate_left
         ·rcases Bool.eq_false_or_eq_true (y2w zY ((nth (nth zg zf) zt).fNext)) with hb' | hb'
          ·have zwz:=hb'; clear hb'
           refine WD.pin (i:=67) rfl zwz ?_
           refine WD.kA 2 68 rfl ?_
           refine WD.kA 3 69 rfl ?_
           refine WD.kA 4 70 rfl ?_
           refine WD.kA 5 71 rfl ?_
           refine WD.kA 6 72 rfl ?_
           refine WD.kA 7 73 rfl ?_
           refine WD.kA 8 74 rfl ?_
           refine WD.pA 9 75 rfl (fun _=>y2y rfl rfl) ?_
           refine WD.reL (.cons .here (.cons .here (.cons .here (.cons .here (.cons .here (.cons .here .nil)))))) ?_ zEO
           exact (.cons rfl (.cons rfl (.cons rfl (.cons rfl (.cons rfl (.cons rfl (.cons rfl (.cons rfl (.cons rfl (.cons rfl (.cons rfl (.cons rfl (.cons rfl (.cons rfl (.cons rfl (.cons rfl (.cons rfl (.cons rfl (.cons rfl (.cons rfl (.cons rfl (.cons rfl (.cons rfl (.cons rfl (.cons rfl (.cons rfl (.cons rfl (.cons (zx (Eq.symm zwz)) (.cons (zx (y67 zwz)) .nil)))))))))))))))))))))))))))))
          ·have zoD:=hb'; clear hb'
           have zSb:=zSa zoD
           refine WD.pin (i:=67) rfl zoD ?_
           refine WD.pA 2 68 rfl (fun _=>ya y4h rfl rfl) ?_
           refine WD.qA 3 69 rfl (yc yt rfl (yk .here rfl)) ?_
           refine WD.pA 4 70 rfl (fun _=>q_m rfl) ?_
           refine WD.znth (j:=5) (dd:=71) (by kernel_rfl) rfl z2E z2F rfl rfl (Z:=Z) (Pr:=(fun r x=>r = e62 x)) y3J rfl rfl zEM zSb ?_
           rintro z10v z10w zSc z10x rfl
           refine WD.pA 6 72 rfl (fun _=>ya y2C rfl rfl) ?_
           refine WD.qA 7 73 rfl (yc yt rfl (y11 hz.pv zSc rfl)) ?_
           refine WD.pA 8 74 rfl (fun _=>y8e rfl rfl) ?_
           refine WD.pA 9 75 rfl (fun _=>y2z rfl rfl) ?_
           refine WD.reL (.cons .here (.cons .here (.cons .here (.cons .here (.cons .here (.cons .here .nil)))))) ?_ zEO
           exact (.cons rfl (.cons rfl (.cons rfl (.cons rfl (.cons rfl (.cons rfl (.cons rfl (.cons rfl (.cons rfl (.cons rfl (.cons rfl (.cons rfl (.cons rfl (.cons rfl (.cons rfl (.cons rfl (.cons rfl (.cons rfl (.cons rfl (.cons rfl (.cons rfl (.cons rfl (.cons rfl (.cons rfl (.cons rfl (.cons rfl (.cons rfl (.cons (zx (Eq.symm zoD)) (.cons (zx (y68 zoD)) .nil)))))))))))))))))))))))))))))
         refine WD.done (by kernel_rfl) ?_
         refine WX.a ?_
         refine WC.cond rfl (fun zwA=>?_) (fun zwA=>?_)
         ·replace h:=yn h zwA
          refine WC.exit (WX.yf (WX.yz ?_))
          exact WX.mid (G:=List Sapi_End × (List (Int × Int)) × Option Addr × Nat) ⟨z2R,zY,z9n,z9o⟩ h (.cons rfl (.cons rfl (.cons rfl (.cons rfl (.cons rfl (.cons rfl (.cons rfl (.cons rfl (.cons rfl (.cons rfl (.cons rfl (.cons rfl (.cons rfl .nil))))))))))))) (.cons .h1 (.cons .h1 (.cons .h1 (.cons .h1 (.cons .h1 .nil)))))
         ·replace h:=yo h zwA
          refine WC.skip (WX.a (WC.b ?_))
          obtain ⟨z6f,zSd,h⟩:=z7 h
          refine WC.yL (fun i=>[12].contains i) [] rfl ?_
          refine WD.pA 0 76 rfl (fun _=>q_m rfl) ?_
          refine WD.pA 1 77 rfl (fun _=>ya y4h rfl rfl) ?_
          refine WD.qA 2 78 rfl (yc yt rfl (yk .here rfl)) ?_
          refine WD.pA 3 79 rfl (fun _=>q_m rfl) ?_
          refine WD.pA 4 80 rfl (fun _=>ya y2C rfl rfl) ?_
          refine WD.qA 5 81 rfl (yc yt rfl (yk .here rfl)) ?_
          refine WD.qA 6 82 rfl (y1J (k:=((nth (nth zg zf) zt).fNode)) (dflt:=(0 : Int)) y4G Tryz.underlying145 y2D rfl rfl rfl .h5) ?_
          refine WD.pA 7 83 rfl (fun _=>q_m rfl) ?_
          refine WD.qA 8 84 rfl (yg y2g rfl (yh .here) rfl) ?_
          refine WD.eA 9 85 rfl (za (l:=[.tmp 84]) Tryz.call40 (.cons rfl .nil)) (cc hz .nil fun w pz ho=>y4K _ _ _ zSd w pz ) ?_
          refine WD.qA 10 86 rfl (y1J (k:=z6f) (dflt:=(0 : Int)) y76 Tryz.underlying93 y2D rfl rfl rfl .h4) ?_
          refine WD.pA 11 87 rfl (fun _=>yaF rfl rfl rfl) ?_
          refine WD.y2F (i:=12) rfl (by kernel_rfl) rfl rfl rfl (by kernel_rfl) (y3m (k:=((nth (nth zg zf) zt).fNext)) (v:=i64 ((yp zY ((nth (nth zg zf) zt).fNode) 0) + (yp z1y z6f 0))) y4G Tryz.underlying145 rfl rfl rfl rfl .h5) ?_
          refine WD.done (by kernel_rfl) ?_
          refine WX.a (WC.b (WC.a ?_))
          refine WL.qA 88 (ya y4h rfl rfl) ?_
          refine WL.qA 89 (yc yt rfl (yk .h1 rfl)) ?_
          refine WL.pu rfl (WL.pu rfl ?_)
          refine WL.seg true 6 91 (B:=(decide (((nth (nth zg zf) zt).fNext) ≥ 0)) && (decide (((nth (nth zg zf) zt).fNext) < ((zk.fModules.length : Nat) : Int)))) rfl rfl rfl rfl rfl rfl (fun h=>(y2b h).symm) (fun _ zSe=>?_) ?_
          ·skip
           refine WL.qA 92 (ya y4h rfl rfl) ?_
           refine WL.qA 93 (yc yt rfl (yk .h1 rfl)) ?_
           refine WL.qA 94 (ya y6l rfl rfl) ?_
           refine WL.qA 95 (yc y6m rfl (yk .h4 rfl)) ?_
           refine WL.qA 96 (yE Tryz.underlying22 rfl) ?_
           refine WL.pu rfl (WL.pu rfl ?_)
           exact WL.yC (y2c zSe) rfl rfl .all
          refine WL.nil (WX.a ?_)
          refine WC.cond rfl (fun zwB=>?_) (fun zwB=>?_)
          ·replace h:=yn h zwB
           obtain ⟨zSf,h⟩:=yq h
           refine WC.a (WL.pu rfl (WL.pu rfl ?_))
           refine WL.qA 101 (ya y4h rfl rfl) ?_
           refine WL.qA 102 (yc yt rfl (yk .h1 rfl)) ?_
           refine WL.pu rfl ?_
           refine WL.qA 104 (ya y4h rfl rfl) ?_
           refine WL.qA 105 (yc yt rfl (yk .h1 rfl)) ?_
           refine WL.qA 106 (y1J (k:=((nth (nth zg zf) zt).fNext)) (dflt:=(0 : Int)) y4G Tryz.underlying145 y2D rfl rfl rfl .here) ?_
           refine WL.qA 107 (yI (v:=(.agg #[(.int .i64 zf),(.int .i64 ((nth (nth zg zf) zt).fNext)),(.int .i64 (yp (yG zY ((nth (nth zg zf) zt).fNext) (i64 ((yp zY ((nth (nth zg zf) zt).fNode) 0) + (yp z1y z6f 0)))) ((nth (nth zg zf) zt).fNext) 0))])) (Eos.parts (l:=[.tmp 100,.tmp 102,.tmp 106]) (.cons rfl (.cons rfl (.cons rfl .nil))) [0,1,2]) (fun _=>by kernel_rfl)) ?_
           refine WL.nA 108 (yS (cs:=([(⟨zf,((nth (nth zg zf) zt).fNext),(yp (yG zY ((nth (nth zg zf) zt).fNext) (i64 ((yp zY ((nth (nth zg zf) zt).fNode) 0) + (yp z1y z6f 0)))) ((nth (nth zg zf) zt).fNext) 0)⟩ : Sapi_End)] : List Sapi_End).flatMap e79) y9j (Eos.parts (l:=[.tmp 107]) (.cons rfl .nil) [0]) (fun _=>by kernel_rfl) rfl (by unfold maxLen; omega)) ?_
           intro z10y _
           refine WL.fA 109 (y4f (enc:=e79) (l1:=z2R) (l2:=([(⟨zf,((nth (nth zg zf) zt).fNext),(yp (yG zY ((nth (nth zg zf) zt).fNext) (i64 ((yp zY ((nth (nth zg zf) zt).fNode) 0) + (yp z1y z6f 0)))) ((nth (nth zg zf) zt).fNext) 0)⟩ : Sapi_End)] : List Sapi_End)) y9j rfl rfl .h4 (fun _=>rfl) rfl rfl (y3C .here) (y4C ycD _) zSf) ?_
           rintro ⟨zSg,zSh⟩ _
           refine WL.pu rfl (WL.nil (WX.yj ?_))
           exact WX.mid (G:=List Sapi_End × (List (Int × Int)) × Option Addr × Nat) ⟨(z2R ++ ([(⟨zf,((nth (nth zg zf) zt).fNext),(yp (yG zY ((nth (nth zg zf) zt).fNext) (i64 ((yp zY ((nth (nth zg zf) zt).fNode) 0) + (yp z1y z6f 0)))) ((nth (nth zg zf) zt).fNext) 0)⟩ : Sapi_End)] : List Sapi_End)),(yG zY ((nth (nth zg zf) zt).fNext) (i64 ((yp zY ((nth (nth zg zf) zt).fNode) 0) + (yp z1y z6f 0)))),zSg,zSh⟩ h (.cons rfl (.cons rfl (.cons rfl (.cons rfl (.cons rfl (.cons rfl (.cons rfl (.cons rfl (.cons rfl (.cons rfl (.cons rfl (.cons rfl (.cons rfl .nil))))))))))))) (.cons .h4 (.cons .here (.cons .h3 (.cons .h3 (.cons .h1 .nil)))))
          ·replace h:=yo h zwB
           refine WC.skip (WX.yj ?_)
           exact WX.mid (G:=List Sapi_End × (List (Int × Int)) × Option Addr × Nat) ⟨z2R,(yG zY ((nth (nth zg zf) zt).fNext) (i64 ((yp zY ((nth (nth zg zf) zt).fNode) 0) + (yp z1y z6f 0)))),z9n,z9o⟩ h (.cons rfl (.cons rfl (.cons rfl (.cons rfl (.cons rfl (.cons rfl (.cons rfl (.cons rfl (.cons rfl (.cons rfl (.cons rfl (.cons rfl (.cons rfl .nil))))))))))))) (.cons .h2 (.cons .h2 (.cons .h2 (.cons .h2 (.cons .here .nil)))))
        ·rintro z8j zbg ziG ziH h
         replace h:=(zS6 z8j zbg).symm.trans h
         refine WC.a (WL.pu rfl (WL.pu rfl (WL.nil ?_)))
         exact WX.round (G:=Nat × List Sapi_End × Int × (List (Int × Int)) × Option Addr × Nat) ⟨zwo,z8j,(i64 (zt + 1)),zbg,ziG,ziH⟩ h (Nat.lt_succ_self _) (.cons rfl (.cons rfl (.cons rfl (.cons rfl (.cons rfl (.cons rfl (.cons rfl (.cons rfl (.cons rfl (.cons rfl (.cons rfl (.cons rfl (.cons rfl .nil))))))))))))) (.cons .here (.cons .here (.cons .here (.cons .here (.cons .here .nil)))))
       ·replace h:=yo h zwy
        refine WC.exit (WX.yf (WX.yf (WX.yz ?_)))
        exact WX.mid (G:=List Sapi_End × Option Addr × Nat) ⟨z2R,z9n,z9o⟩ h (.cons rfl (.cons rfl (.cons rfl (.cons rfl (.cons rfl (.cons rfl (.cons rfl .nil))))))) (.cons .here (.cons .here (.cons .here (.cons .here .nil))))
      ·rintro z93 ziD ziE h
       replace h:=(zS5 z93).symm.trans h
       refine WC.b ?_
       obtain ⟨zfL,zSi,h⟩:=z7 h
       refine WC.a (WL.pu rfl ?_)
       refine WL.y4e (dd:=112) rfl rfl rfl (za (l:=[.tmp 111,.func 54]) Tryz.call53 (.cons rfl (.cons rfl .nil))) (.cons .h1 .nil) (cc hz (.cons .h1 .nil) fun w pz ho=>y6O _ _ _ (zit:=54) (zoC:=[]) _ (zis:=(fun (y0 : Sapi_End) (y1 : Sapi_End)=>y6C y0 y1)) _ zSi w pz Tryz.call54 (fun w' hz' y0 y1  r  hr=>ybV _ _ _ _ hr w' hz' ) ho) ?_
       rintro  zSj
       refine WL.repin (i:=13) rfl (u:=(.slice ziD zfL.length ziE)) (y89 zSj.symm) ?_
       refine WL.nil (WX.a ?_)
       obtain ⟨zSk,h⟩:=yq h
       refine WC.a (WL.pu rfl (WL.pu rfl ?_))
       refine WL.fA 115 (y4f (enc:=e79) (l1:=z24) (l2:=zfL) y9j rfl rfl .h1 (fun _=>rfl) rfl rfl (y3C .here) (y4C ycD _) zSk) ?_
       rintro ⟨zSl,zSm⟩ _
       refine WL.pu rfl (WL.nil (WX.yj ?_))
       exact WX.mid (G:=List Sapi_End × Option Addr × Nat) ⟨(z24 ++ zfL),zSl,zSm⟩ h (.cons rfl (.cons rfl (.cons rfl (.cons rfl (.cons rfl (.cons rfl .nil)))))) (.cons .here (.cons .h1 (.cons .h1 .nil)))
     ·rintro z8k ziy ziz h
      replace h:=(zS2 z8k).symm.trans h
      refine WC.a (WL.pu rfl (WL.pu rfl (WL.nil ?_)))
      exact WX.round (G:=Nat × List Sapi_End × Int × Option Addr × Nat) ⟨zwp,z8k,(i64 (zf + 1)),ziy,ziz⟩ h (Nat.lt_succ_self _) (.cons rfl (.cons rfl (.cons rfl (.cons rfl (.cons rfl (.cons rfl .nil)))))) (.cons .here (.cons .here (.cons .here .nil)))
    ·replace h:=yo h zwx
     refine WC.exit (WX.yf (WX.yf (WX.yz ?_)))
     exact WX.mid (G:=List Sapi_End × Option Addr × Nat) ⟨z24,z6g,z6h⟩ h (.cons rfl .nil) (.cons .here .nil)
   ·rintro z94 ziv ziw h
    replace h:=(zS1 z94).symm.trans h
    refine WC.b (WC.a (WL.pu rfl (WL.pu rfl (WL.nil (WX.a (WC.ret ?_))))))
    obtain rfl:=Option.some.inj h
    refine WX.ye Tryz.results26 (.tmp rfl .nil) (fun w hw=>?_)
    exact ⟨ziv,ziw,yD rfl,trivial,hw.sub (.cons .here .nil)⟩
def y3O (z3Z : List Sbound_place × Int) (zw : Sapi_Config) (z40 : List (List Sapi_Hop)) (zbi : (List Sapi_PortBound) → Option (S37 × Int)) : Nat → Int → Int → (List Sapi_PortBound) → (List (Sbound_flow × z1)) → (List (Sbound_place × Int)) → Option (S37 × Int)
 | 0,_,_,_,_,_=>none
 | zwC + 1,z4m,z9p,z3G,z9q,z9r=>if decide (z4m < ((z3Z.1.length : Nat) : Int)) then chk ((0 : Int) ≤ z4m ∧ z4m < ((z3Z.1.length : Nat) : Int)) ((y6K zw z40 z9q z9r z9p (⟨((nth z3Z.1 z4m).fNode),((nth z3Z.1 z4m).fLink)⟩ : Sbound_place)).bind fun z4W=>chk ((((z3G ++ ([z4W.1] : List Sapi_PortBound)).length : Nat) : Int) * 32 ≤ 140737488355328 ∧ (((z3G ++ ([z4W.1] : List Sapi_PortBound)).length : Nat) : Int) ≤ 4611686018427387904) (if decide (z4W.2.1 ≠ 0) then some ((⟨([] : List Sapi_PortBound),([] : List Sapi_End)⟩ : S37),z4W.2.1) else y3O z3Z zw z40 zbi zwC (i64 (z4m + 1)) z4W.2.1 (z3G ++ ([z4W.1] : List Sapi_PortBound)) z4W.2.2.1 z4W.2.2.2)) else zbi z3G
theorem y8N {n : Nat} {z3Z : List Sbound_place × Int} {zw : Sapi_Config} {z40 : List (List Sapi_Hop)} {zbi : (List Sapi_PortBound) → Option (S37 × Int)} {z4m : Int} {z9p : Int} {z3G : List Sapi_PortBound} {z9q : List (Sbound_flow × z1)} {z9r : List (Sbound_place × Int)} {r : S37 × Int} (h : y3O z3Z zw z40 zbi n z4m z9p z3G z9q z9r = some r) : ∃ m,n = m + 1:=by
 cases n with
 | zero=>cases h
 | succ m=>exact ⟨m,rfl⟩
def y7t (zw : Sapi_Config) (zoE : Int) (z40 : List (List Sapi_Hop)) : Option (S37 × Int) :=
 (y3n zw zoE z40).bind fun zEP=>if !zEP then some ((⟨([] : List Sapi_PortBound),([] : List Sapi_End)⟩ : S37),310) else (y2R zw.fVLs (fun (y0 : Sapi_VL)=>y57 y0)).bind fun zEQ=>if zEQ then some ((⟨([] : List Sapi_PortBound),([] : List Sapi_End)⟩ : S37),350) else (y3X z40).bind fun z3Z=>if decide (z3Z.2 ≠ 0) then some ((⟨([] : List Sapi_PortBound),([] : List Sapi_End)⟩ : S37),z3Z.2) else jp1 (fun (z9s : List Sapi_PortBound)=>(y1R z9s (fun (y0 : Sapi_PortBound) (y1 : Sapi_PortBound)=>y59 y0 y1)).bind fun zlU=>(y8F zw z40 zlU).bind fun zwD=>some ((⟨zlU,zwD⟩ : S37),0)) fun zbi=>y3O z3Z zw z40 zbi yB 0 0 ([] : List Sapi_PortBound) ([] : List (Sbound_flow × z1)) ([] : List (Sbound_place × Int))
set_option maxRecDepth 20000 in
theorem ybz (Z : Zp) (zdE : Option Addr) (zdF : Nat) (zdG : Option Addr) (zdH : Nat) (zdI : Option Addr) (zdJ : Nat) (zdK : Option Addr) (zdL : Nat) (zdM : Option Addr) (zdN : Nat) (zdO : Option Addr) (zdP : Nat) (zdQ : Option Addr) (zdR : Nat) (zdS : Option Addr) (zdT : Nat) (zfM : Option Addr) (zfN : Nat) (zw : Sapi_Config) (zoE : Int) (z40 : List (List Sapi_Hop)) (r : S37 × Int)
  (h : y7t zw zoE z40 = some r) (w₀ : World) (hz : PZ [] w₀ Z)
  (zwE : ZS Z 4 (y3y Z) zdE zdF zw.fModules)
  (zwF : ZS Z 4 (y49 Z) zdG zdH zw.fChannels)
  (zwG : ZS Z 4 (fun r x=>r = e66 x) zdI zdJ zw.fSwitches)
  (zwH : ZS Z 4 (fun r x=>r = e64 x) zdK zdL zw.fLinks)
  (zoF : ZS Z 7 (p46 Z) zdM zdN zw.fVLs)
  (zwI : ZS Z 5 (fun r x=>r = y4m x) zdO zdP zw.fHealth)
  (zwJ : ZS Z 3 (y4a Z) zdQ zdR zw.fCauses)
  (zwK : ZS Z 4 (fun r x=>r = y4n x) zdS zdT zw.fVersions)
  (zoG : ZS Z 1 (p48 Z) zfM zfN z40) :
  Calls Tryz.prog 10 #[(.agg #[(.slice zdE zw.fModules.length zdF),(.slice zdG zw.fChannels.length zdH),(.slice zdI zw.fSwitches.length zdJ),(.slice zdK zw.fLinks.length zdL),(.slice zdM zw.fVLs.length zdN),(.slice zdO zw.fHealth.length zdP),(.slice zdQ zw.fCauses.length zdR),(.slice zdS zw.fVersions.length zdT)]),(.int .i64 zoE),(.slice zfM z40.length zfN)] w₀ fun e w'=>∃ Zn : Zp,∃ zER : Option Addr,∃ zES : Nat,∃ zET : Option Addr,∃ zEU : Nat,e = .returned (.tuple #[(.agg #[(.slice zER r.1.fPorts.length zES),(.slice zET r.1.fEnds.length zEU)]),(.int .i64 r.2)]) ∧ True ∧ Hp [] w₀ w' [fz Zn,row (.slice zER r.1.fPorts.length zES) 58 4 (r.1.fPorts.flatMap e58),row (.slice zET r.1.fEnds.length zEU) 79 3 (r.1.fEnds.flatMap e79)]:=by
 unfold y7t at h
 refine Calls.on3 Tryz.func10 Tryz.ntmps10 ?_
 refine WC.pool (WC.b (WC.a ?_))
 refine WL.nA 3 (yH (cs:=[(.slice zdE zw.fModules.length zdF),(.slice zdG zw.fChannels.length zdH),(.slice zdI zw.fSwitches.length zdJ),(.slice zdK zw.fLinks.length zdL),(.slice zdM zw.fVLs.length zdN),(.slice zdO zw.fHealth.length zdP),(.slice zdQ zw.fCauses.length zdR),(.slice zdS zw.fVersions.length zdT)]) rfl rfl) ?_
 intro zoH _
 refine WL.nA 6 (yv (cs:=[(.slice none 0 0),(.slice none 0 0)]) y9B rfl) ?_
 intro zoI _
 refine WL.pu rfl (WL.nil (WX.a (WC.b (WC.b ?_))))
 obtain ⟨zEP,zSn,h⟩:=z7 h
 refine WC.a ?_
 refine WL.qA 14 (yg y2B rfl (yh .h1) rfl) ?_
 refine WL.pu rfl (WL.pu rfl ?_)
 refine WL.cA 17 (za (l:=[.tmp 14,.tmp 15,.tmp 16]) Tryz.call12 (.cons rfl (.cons rfl (.cons rfl .nil)))) .nil (ccz hz .nil .h2 fun w pz ho=>y7l _ _ _ _ _ _ _ _ _ _ _ _ _ _ _ _ _ _ _ _ _ _ _ zSn w pz ((zwE.mono (Zle.left _ _)).weak (fun _ _ h=>y1d (Zle.left _ _) h)) ((zwF.mono (Zle.left _ _)).weak (fun _ _ h=>y1m (Zle.left _ _) h)) (zwG.mono (Zle.left _ _)) (zwH.mono (Zle.left _ _)) ((zoF.mono (Zle.left _ _)).weak (fun _ _ h=>y16 (Zle.left _ _) h)) (zwI.mono (Zle.left _ _)) ((zwJ.mono (Zle.left _ _)).weak (fun _ _ h=>y1n (Zle.left _ _) h)) (zwK.mono (Zle.left _ _)) ((zoG.mono (Zle.left _ _)).weak (fun _ _ h=>y1i (Zle.left _ _) h))) ?_
 refine WL.pu rfl (WL.nil (WX.a ?_))
 refine WC.cond rfl (fun zwL=>?_) (fun zwL=>?_)
 ·replace h:=yn h zwL
  refine WC.b (WC.a ?_)
  refine WL.qA 19 (yI (v:=(.agg #[(.slice none 0 0),(.slice none 0 0)])) (Eos.parts (l:=[]) .nil []) (fun _=>by kernel_rfl)) ?_
  refine WL.ym rfl rfl (yl y7H rfl rfl rfl .here rfl rfl rfl) ?_
  refine WL.pu rfl (WL.nil (WX.a (WC.ret (WX.yd ?_))))
  refine WX.nilRow 58 4 ?_
  refine WX.nilRow 79 3 ?_
  obtain rfl:=Option.some.inj h
  refine WX.ye Tryz.results10 (.agg rfl y75 rfl (yh .h2) (.tmp rfl .nil)) (fun w hw=>?_)
  exact ⟨[],none,0,none,0,y1z rfl rfl,trivial,hw.sub (.cons .h4 (.cons .h1 (.cons .here .nil)))⟩
 ·replace h:=yo h zwL
  refine WC.skip (WX.a (WC.b (WC.b ?_)))
  obtain ⟨zEQ,zSo,h⟩:=z7 h
  refine WC.a ?_
  refine WL.qA 20 (ya y73 rfl rfl) ?_
  refine WL.qA 21 (yc y74 rfl (yk .h1 rfl)) ?_
  refine WL.cA 22 (za (l:=[.tmp 21,.func 19]) Tryz.call18 (.cons rfl (.cons rfl .nil))) .nil (ccz hz .nil .h2 fun w pz ho=>y6p _ _ _ (zfZ:=19) (zmA:=[]) _ (zfY:=(fun (y0 : Sapi_VL)=>y57 y0)) _ zSo w pz ((zoF.mono (Zle.left _ _)).weak (fun _ _ h=>y16 (Zle.left _ _) h)) Tryz.call19 (fun w' hz' y0 ga0 gc0 r gh0 hr=>yaQ _ _ _ _ _ hr w' hz' gh0)) ?_
  refine WL.nil (WX.a ?_)
  refine WC.cond rfl (fun zwM=>?_) (fun zwM=>?_)
  ·replace h:=yn h zwM
   refine WC.b (WC.a ?_)
   refine WL.qA 23 (yI (v:=(.agg #[(.slice none 0 0),(.slice none 0 0)])) (Eos.parts (l:=[]) .nil []) (fun _=>by kernel_rfl)) ?_
   refine WL.ym rfl rfl (yl y7H rfl rfl rfl .here rfl rfl rfl) ?_
   refine WL.pu rfl (WL.nil (WX.a (WC.ret (WX.yd ?_))))
   refine WX.nilRow 58 4 ?_
   refine WX.nilRow 79 3 ?_
   obtain rfl:=Option.some.inj h
   refine WX.ye Tryz.results10 (.agg rfl y75 rfl (yh .h2) (.tmp rfl .nil)) (fun w hw=>?_)
   exact ⟨[],none,0,none,0,y1z rfl rfl,trivial,hw.sub (.cons .h4 (.cons .h1 (.cons .here .nil)))⟩
  ·replace h:=yo h zwM
   refine WC.skip (WX.a (WC.b ?_))
   obtain ⟨z3Z,zSp,h⟩:=z7 h
   refine WC.a (WL.pu rfl ?_)
   refine WL.y4F (dd:=26) rfl rfl rfl (za (l:=[.tmp 25]) Tryz.call21 (.cons rfl .nil)) .nil (ccz hz .nil .h2 fun w pz ho=>ya2 _ _ _ _ _ zSp w pz ((zoG.mono (Zle.left _ _)).weak (fun _ _ h=>y1i (Zle.left _ _) h))) ?_
   rintro zEV zEW _
   refine WL.pu rfl (WL.pu rfl (WL.pu rfl (WL.pu rfl (WL.pu rfl (WL.nil (WX.a (WC.b (WC.b (WC.a (WL.pu rfl (WL.pu rfl (WL.nil (WX.a ?_)))))))))))))
   refine WC.cond rfl (fun zwN=>?_) (fun zwN=>?_)
   ·replace h:=yn h zwN
    refine WC.b (WC.a ?_)
    refine WL.qA 31 (yI (v:=(.agg #[(.slice none 0 0),(.slice none 0 0)])) (Eos.parts (l:=[]) .nil []) (fun _=>by kernel_rfl)) ?_
    refine WL.pu rfl ?_
    refine WL.ym rfl rfl (yl y7H rfl rfl rfl .h1 rfl rfl rfl) ?_
    refine WL.pu rfl (WL.nil (WX.a (WC.ret (WX.yd ?_))))
    refine WX.nilRow 58 4 ?_
    refine WX.nilRow 79 3 ?_
    obtain rfl:=Option.some.inj h
    refine WX.ye Tryz.results10 (.agg rfl y75 rfl (yh .h2) (.tmp rfl .nil)) (fun w hw=>?_)
    exact ⟨[],none,0,none,0,y1z rfl rfl,trivial,hw.sub (.cons .h5 (.cons .h1 (.cons .here .nil)))⟩
   ·replace h:=yo h zwN
    refine WC.skip (WX.a (WC.b (WC.a ?_)))
    refine WL.qA 33 (yg y2B rfl (yh .h2) rfl) ?_
    refine WL.pu rfl ?_
    refine WL.nA 35 (y3e (fun x=>Value.agg (y1M x).toArray) (fun x=>Value.agg (yw x).toArray)) ?_
    intro zoJ _
    refine WL.nA 36 (y3e (fun x=>Value.agg (e97 x).toArray) (Value.int .i64)) ?_
    intro zoK _
    refine WL.qA 37 (yI (v:=(.agg #[(.slice zdE zw.fModules.length zdF),(.slice zdG zw.fChannels.length zdH),(.slice zdI zw.fSwitches.length zdJ),(.slice zdK zw.fLinks.length zdL),(.slice zdM zw.fVLs.length zdN),(.slice zdO zw.fHealth.length zdP),(.slice zdQ zw.fCauses.length zdR),(.slice zdS zw.fVersions.length zdT),(.slice zfM z40.length zfN),(.map (some zoJ)),(.map (some zoK)),(.int .i64 0)])) (Eos.parts (l:=[.tmp 33,.tmp 34,.tmp 35,.tmp 36,.const (.int .i64 0)]) (.cons rfl (.cons rfl (.cons rfl (.cons rfl (.cons rfl .nil))))) [0,1,2,3,4]) (fun _=>by kernel_rfl)) ?_
    refine WL.nA 38 (yH (cs:=[(.slice zdE zw.fModules.length zdF),(.slice zdG zw.fChannels.length zdH),(.slice zdI zw.fSwitches.length zdJ),(.slice zdK zw.fLinks.length zdL),(.slice zdM zw.fVLs.length zdN),(.slice zdO zw.fHealth.length zdP),(.slice zdQ zw.fCauses.length zdR),(.slice zdS zw.fVersions.length zdT),(.slice zfM z40.length zfN),(.map (some zoJ)),(.map (some zoK)),(.int .i64 0)]) rfl rfl) ?_
    intro zwO _
    refine WL.pu rfl (WL.nil (WX.a (WC.b (WC.a ?_))))
    refine WL.nA 11 (yv (cs:=[(.slice none 0 0),(.slice none 0 0)]) y9B rfl) ?_
    intro zlV _
    refine WL.nil (WX.a ?_)
    obtain ⟨zbi,zSq,h⟩:=yU h
    refine WC.y5s (fun (z9s : List Sapi_PortBound) (ziI : Zp) (zdU : Option Addr) (zdV : Nat)=>(zbi z9s = some r) ∧ (Zle (Z ++ []) (Z ++ ziI))) (fun z9s ziI zdU zdV=>[(2,(.slice zfM z40.length zfN)),(3,(.pointer (some ⟨zoH,0,none⟩))),(6,(.pointer (some ⟨zoI,0,none⟩))),(11,(.pointer (some ⟨zlV,0,none⟩)))]) (fun z9s ziI zdU zdV=>[fz ziI,stb zoH 31 [(.slice zdE zw.fModules.length zdF),(.slice zdG zw.fChannels.length zdH),(.slice zdI zw.fSwitches.length zdJ),(.slice zdK zw.fLinks.length zdL),(.slice zdM zw.fVLs.length zdN),(.slice zdO zw.fHealth.length zdP),(.slice zdQ zw.fCauses.length zdR),(.slice zdS zw.fVersions.length zdT)],stb zoI 38 [(.slice none 0 0),(.slice none 0 0)],stb zlV 38 [(.slice zdU z9s.length zdV),(.slice none 0 0)],row (.slice zdU z9s.length zdV) 58 4 (z9s.flatMap e58)]) ?_ ?_
    ·skip
     refine WC.b (WC.a (WL.pu rfl ?_))
     refine WL.qA 40 (yE Tryz.underlying88 rfl) ?_
     refine WL.pu rfl (WL.nil (WX.a (WC.block ?_)))
     refine WC.nilRow 58 4 ?_
     refine WC.loop9 (fun (ziJ : Nat) (z4m : Int) (z9p : Int) (z3G : List Sapi_PortBound) (z9q : List (Sbound_flow × z1)) (z9r : List (Sbound_place × Int)) (zbj : Zp) (zdW : Option Addr) (zdX : Nat)=>(y3O z3Z zw z40 zbi ziJ z4m z9p z3G z9q z9r = some r) ∧ (Zle (Z ++ []) (Z ++ zbj))) (fun ziJ z4m z9p z3G z9q z9r zbj zdW zdX=>[(2,(.slice zfM z40.length zfN)),(3,(.pointer (some ⟨zoH,0,none⟩))),(6,(.pointer (some ⟨zoI,0,none⟩))),(10,(.pointer (some ⟨zwO,0,none⟩))),(11,(.pointer (some ⟨zlV,0,none⟩))),(39,(.slice zEV z3Z.1.length zEW)),(40,(.int .i64 ((z3Z.1.length : Nat) : Int))),(41,(.int .i64 z4m))]) (fun ziJ z4m z9p z3G z9q z9r zbj zdW zdX=>[fz zbj,row (.slice zEV z3Z.1.length zEW) 97 2 (z3Z.1.flatMap e97),stb zoH 31 [(.slice zdE zw.fModules.length zdF),(.slice zdG zw.fChannels.length zdH),(.slice zdI zw.fSwitches.length zdJ),(.slice zdK zw.fLinks.length zdL),(.slice zdM zw.fVLs.length zdN),(.slice zdO zw.fHealth.length zdP),(.slice zdQ zw.fCauses.length zdR),(.slice zdS zw.fVersions.length zdT)],stb zoI 38 [(.slice none 0 0),(.slice none 0 0)],stb zwO 95 [(.slice zdE zw.fModules.length zdF),(.slice zdG zw.fChannels.length zdH),(.slice zdI zw.fSwitches.length zdJ),(.slice zdK zw.fLinks.length zdL),(.slice zdM zw.fVLs.length zdN),(.slice zdO zw.fHealth.length zdP),(.slice zdQ zw.fCauses.length zdR),(.slice zdS zw.fVersions.length zdT),(.slice zfM z40.length zfN),(.map (some zoJ)),(.map (some zoK)),(.int .i64 z9p)],stb zlV 38 [(.slice zdW z3G.length zdX),(.slice none 0 0)],row (.slice zdW z3G.length zdX) 58 4 (z3G.flatMap e58),yr zoJ (fun x=>Value.agg (y1M x).toArray) (fun x=>Value.agg (yw x).toArray) z9q,yr zoK (fun x=>Value.agg (e97 x).toArray) (Value.int .i64) z9r]) (fun ziJ z4m z9p z3G z9q z9r zbj zdW zdX=>ziJ) ⟨yB,0,0,([] : List Sapi_PortBound),([] : List (Sbound_flow × z1)),([] : List (Sbound_place × Int)),[],none,0⟩ ⟨h,(Zle.refl _)⟩ (.cons rfl (.cons rfl (.cons rfl (.cons rfl (.cons rfl (.cons rfl (.cons rfl (.cons rfl .nil)))))))) (.cons (.there .h7) (.cons .h5 (.cons .h6 (.cons .h5 (.cons .h2 (.cons .h1 (.cons .here (.cons .h1 (.cons .here .nil))))))))) ?_
     rintro ziJ z4m z9p z3G z9q z9r zbj zdW zdX ⟨h,z5q⟩
     obtain ⟨zwC,rfl⟩:=y8N h
     rw [y3O] at h
     refine WC.b (WC.a (WL.pu rfl (WL.nil (WX.a (WC.b ?_)))))
     refine WC.cond rfl (fun zwP=>?_) (fun zwP=>?_)
     ·replace h:=yn h zwP
      refine WC.skip (WX.a (WC.b (WC.block (WC.b ?_))))
      obtain ⟨zlW,h⟩:=yq h
      refine WC.a ?_
      refine WL.know (fun w hw=>Hp.y2H .h1 hw (by intro hz'; have:=zlW; rw [hz'] at this; omega)) ?_
      rintro ⟨z10z,rfl⟩
      refine WL.qA 43 (yY y4H rfl rfl zlW.1 zlW.2 y3z) ?_
      refine WL.qA 44 (yQ (cs:=(e97 (nth z3Z.1 z4m))) y3f rfl rfl (y3d .h1 (y2Q (enc:=e97) (l:=z3Z.1) (i:=z4m) (sz:=2) (fun _=>rfl) zlW.1 zlW.2))) ?_
      refine WL.nA 13 (yv (cs:=[(.int .i64 0),(.int .i64 0)]) y8v rfl) ?_
      intro z10A _
      refine WL.ym rfl rfl (yl yaM rfl rfl rfl .here rfl rfl rfl) ?_
      refine WL.nil (WX.a (WC.b ?_))
      obtain ⟨z4W,zSr,h⟩:=z7 h
      obtain ⟨zSs,h⟩:=yq h
      refine WC.yL (fun i=>[4,6,8].contains i) [y6D zlV 38 [(0,(.slice zdW z3G.length zdX))]] rfl ?_
      refine WD.pA 0 45 rfl (fun _=>ya y6o rfl rfl) ?_
      refine WD.sA 1 46 rfl (Sin.wk (.cons .h6 .nil) (.stb (.cons rfl .nil) .nil)) (yc y77 rfl (y4g .here (.head _))) ?_
      refine WD.pA 2 47 rfl (fun _=>q_m rfl) ?_
      refine WD.qA 3 48 rfl (yg y3f rfl (yh .here) rfl) ?_
      refine WD.call1 (i:=4) (dd:=49) rfl (by kernel_rfl) rfl rfl rfl (.inl ⟨rfl,fun _=>(Sin.wk (.cons (.there (.there .h7)) .nil) (.stb (.cons rfl .nil) .nil))⟩) (za (l:=[.tmp 47,.tmp 48]) Tryz.call22 (.cons rfl (.cons rfl .nil))) (.cons .h5 (.cons .h7 (.cons .h7 .nil))) (ccz hz (.cons .h5 (.cons .h7 (.cons .h7 .nil))) .h1 fun w pz ho=>yaT _ _ _ _ _ _ _ _ _ _ _ _ _ _ _ _ _ _ _ _ _ _ _ _ _ _ _ _ _ zSr w pz ((zwE.mono ((Zle.left _ _).trans z5q)).weak (fun _ _ h=>y1d ((Zle.left _ _).trans z5q) h)) ((zwF.mono ((Zle.left _ _).trans z5q)).weak (fun _ _ h=>y1m ((Zle.left _ _).trans z5q) h)) (zwG.mono ((Zle.left _ _).trans z5q)) (zwH.mono ((Zle.left _ _).trans z5q)) ((zoF.mono ((Zle.left _ _).trans z5q)).weak (fun _ _ h=>y16 ((Zle.left _ _).trans z5q) h)) (zwI.mono ((Zle.left _ _).trans z5q)) ((zwJ.mono ((Zle.left _ _).trans z5q)).weak (fun _ _ h=>y1n ((Zle.left _ _).trans z5q) h)) (zwK.mono ((Zle.left _ _).trans z5q)) ((zoG.mono ((Zle.left _ _).trans z5q)).weak (fun _ _ h=>y1i ((Zle.left _ _).trans z5q) h)) ho) ?_
      rintro zEX _
      refine WD.merge .here .h4 ?_
      refine WD.new (i:=5) (dd:=50) rfl (by kernel_rfl) rfl rfl rfl (yS (cs:=([z4W.1] : List Sapi_PortBound).flatMap e58) y5f (Eos.parts (l:=[.tmp 49]) (.cons rfl .nil) [0]) (fun _=>by kernel_rfl) rfl (by unfold maxLen; omega)) (fun h'=>absurd h' (by decide)) ?_
      intro z10B _
      refine WD.old (i:=6) (dd:=51) rfl (by kernel_rfl) rfl rfl rfl rfl (fun _=>(Sin.wk (.cons (.there (.there (.there .h7))) .nil) (.stb (.cons rfl .nil) .nil))) (y4f (enc:=e58) (l1:=z3G) (l2:=([z4W.1] : List Sapi_PortBound)) y5f rfl rfl (.there (.there (.there .h7))) (fun _=>rfl) rfl rfl (y3C .here) (y4C ycC _) zSs) ?_
      rintro ⟨zEY,zEZ⟩ _
      refine WD.pA 7 52 rfl (fun _=>ya y6o rfl rfl) ?_
      refine WD.y2F (i:=8) rfl (by kernel_rfl) rfl rfl rfl (by kernel_rfl) (y5u (ds:=[(.slice zEY ((z3G ++ ([z4W.1] : List Sapi_PortBound)).length) zEZ),(.slice none 0 0)]) sizT_35 rfl rfl rfl rfl rfl (.there (.there (.there .h7))) rfl rfl) ?_
      refine WD.done (by kernel_rfl) ?_
      refine WX.a (WC.b (WC.a (WL.pu rfl ?_)))
      refine WL.qA 54 (yV rfl) ?_
      refine WL.qA 55 (ya y8q rfl rfl) ?_
      refine WL.qA 56 (yc y2E rfl (yk .h4 rfl)) ?_
      refine WL.pu rfl (WL.nil (WX.a ?_))
      refine WC.cond rfl (fun zwQ=>?_) (fun zwQ=>?_)
      ·replace h:=yn h zwQ
       refine WC.b ?_
       refine WC.yL (fun i=>[5].contains i) [y6D zwO 95 [(11,(.int .i64 z4W.2.1))]] rfl ?_
       refine WD.pA 0 58 rfl (fun _=>yI (v:=(.agg #[(.slice none 0 0),(.slice none 0 0)])) (Eos.parts (l:=[]) .nil []) (fun _=>by kernel_rfl)) ?_
       refine WD.pA 1 59 rfl (fun _=>q_m rfl) ?_
       refine WD.pA 2 60 rfl (fun _=>yV rfl) ?_
       refine WD.pA 3 61 rfl (fun _=>ya y8q rfl rfl) ?_
       refine WD.sA 4 62 rfl (Sin.wk (.cons .h4 .nil) (.stb (.cons rfl .nil) .nil)) (yc y2E rfl (y4g .here (.head _))) ?_
       refine WD.forced0 (i:=5) rfl (by kernel_rfl) rfl rfl rfl (Sin.wk (.cons .h5 .nil) (.stb (.cons rfl .nil) .nil)) (yl y7H rfl rfl rfl (.there (.there (.there .h7))) rfl rfl rfl) ?_
       refine WD.pA 6 7 rfl (fun _=>q_z rfl) ?_
       refine WD.done (by kernel_rfl) ?_
       refine WX.a (WC.ret (WX.ys (WX.yd (WX.yd (WX.ys (WX.yd ?_))))))
       refine WX.nilRow 58 4 ?_
       refine WX.nilRow 79 3 ?_
       obtain rfl:=Option.some.inj h
       refine WX.ye Tryz.results10 (.agg rfl y75 rfl (yh .h2) (.tmp rfl .nil)) (fun w hw=>?_)
       exact ⟨(zbj ++ zEX),none,0,none,0,y1z rfl rfl,trivial,hw.sub (.cons .h6 (.cons .h1 (.cons .here .nil)))⟩
      ·replace h:=yo h zwQ
       refine WC.skip (WX.yj (WX.a (WC.a (WL.pu rfl (WL.pu rfl (WL.nil ?_))))))
       exact WX.round (G:=Nat × Int × Int × List Sapi_PortBound × (List (Sbound_flow × z1)) × (List (Sbound_place × Int)) × Zp × Option Addr × Nat) ⟨zwC,(i64 (z4m + 1)),z4W.2.1,(z3G ++ ([z4W.1] : List Sapi_PortBound)),z4W.2.2.1,z4W.2.2.2,(zbj ++ zEX),zEY,zEZ⟩ ⟨h,(z5q.trans ((Zle.left _ _).trans (Zle.yu _ _ _)))⟩ (Nat.lt_succ_self _) (.cons rfl (.cons rfl (.cons rfl (.cons rfl (.cons rfl (.cons rfl (.cons rfl (.cons rfl .nil)))))))) (.cons .h3 (.cons .h7 (.cons .h7 (.cons .h7 (.cons .h3 (.cons .here (.cons .here (.cons .h1 (.cons .h1 .nil)))))))))
     ·replace h:=yo h zwP
      refine WC.exit (WX.yf (WX.yf (WX.yz ?_)))
      exact WX.mid (G:=List Sapi_PortBound × Zp × Option Addr × Nat) ⟨z3G,zbj,zdW,zdX⟩ ⟨h,z5q⟩ (.cons rfl (.cons rfl (.cons rfl (.cons rfl .nil)))) (.cons .here (.cons .h1 (.cons .h1 (.cons .h2 (.cons .h2 .nil)))))
    ·rintro z9s ziI zdU zdV ⟨h,z6i⟩
     replace h:=(zSq z9s).symm.trans h
     refine WC.b ?_
     obtain ⟨zlU,zSt,h⟩:=z7 h
     refine WC.a ?_
     refine WL.qA 64 (ya y6o rfl rfl) ?_
     refine WL.qA 65 (yc y77 rfl (yk .h3 rfl)) ?_
     refine WL.y4e (dd:=66) rfl rfl rfl (za (l:=[.tmp 65,.func 24]) Tryz.call23 (.cons rfl (.cons rfl .nil))) (.cons .h4 .nil) (ccz hz (.cons .h4 .nil) .here fun w pz ho=>y4R _ _ _ (zio:=24) (zoy:=[]) _ (zin:=(fun (y0 : Sapi_PortBound) (y1 : Sapi_PortBound)=>y59 y0 y1)) _ zSt w pz Tryz.call24 (fun w' hz' y0 y1  r  hr=>yaU _ _ _ _ hr w' hz' ) ho) ?_
     rintro  zSu
     refine WL.restb (cs':=[(.slice zdU zlU.length zdV),(.slice none 0 0)]) .h4 (by rw [zSu]) ?_
     refine WL.nil (WX.a (WC.b ?_))
     obtain ⟨zwD,zSv,h⟩:=z7 h
     refine WC.a ?_
     refine WL.qA 67 (yg y2B rfl (yh .h3) rfl) ?_
     refine WL.pu rfl ?_
     refine WL.qA 69 (ya y6o rfl rfl) ?_
     refine WL.qA 70 (yc y77 rfl (yk .here rfl)) ?_
     refine WL.y4F (dd:=71) rfl rfl rfl (za (l:=[.tmp 67,.tmp 68,.tmp 70]) Tryz.call26 (.cons rfl (.cons rfl (.cons rfl .nil)))) .nil (cclz hz .nil .h2 (.cons .h1 .nil) fun w pz ho la=>ycK _ _ _ _ _ _ _ _ _ _ _ _ _ _ _ _ _ _ _ _ _ _ _ _ _ zSv w pz ((((zwE.mono ((Zle.left _ _).trans z6i)).weak (fun _ _ h=>y1d ((Zle.left _ _).trans z6i) h)).mono (Zle.left _ _)).weak (fun _ _ h=>y1d (Zle.left _ _) h)) ((((zwF.mono ((Zle.left _ _).trans z6i)).weak (fun _ _ h=>y1m ((Zle.left _ _).trans z6i) h)).mono (Zle.left _ _)).weak (fun _ _ h=>y1m (Zle.left _ _) h)) ((zwG.mono ((Zle.left _ _).trans z6i)).mono (Zle.left _ _)) ((zwH.mono ((Zle.left _ _).trans z6i)).mono (Zle.left _ _)) ((((zoF.mono ((Zle.left _ _).trans z6i)).weak (fun _ _ h=>y16 ((Zle.left _ _).trans z6i) h)).mono (Zle.left _ _)).weak (fun _ _ h=>y16 (Zle.left _ _) h)) ((zwI.mono ((Zle.left _ _).trans z6i)).mono (Zle.left _ _)) ((((zwJ.mono ((Zle.left _ _).trans z6i)).weak (fun _ _ h=>y1n ((Zle.left _ _).trans z6i) h)).mono (Zle.left _ _)).weak (fun _ _ h=>y1n (Zle.left _ _) h)) ((zwK.mono ((Zle.left _ _).trans z6i)).mono (Zle.left _ _)) ((((zoG.mono ((Zle.left _ _).trans z6i)).weak (fun _ _ h=>y1i ((Zle.left _ _).trans z6i) h)).mono (Zle.left _ _)).weak (fun _ _ h=>y1i (Zle.left _ _) h)) (ZA.row (la _ (.head _) _) (RR.flat (enc:=e58) (fun _=>rfl) _) ⟨w,pz.1⟩)) ?_
     rintro zF0 zF1 _
     refine WL.qA 72 (ya y8s rfl rfl) ?_
     refine WL.ym rfl rfl (y5u (ds:=[(.slice zdU zlU.length zdV),(.slice zF0 zwD.length zF1)]) sizT_36 rfl rfl rfl rfl rfl .h1 rfl rfl) ?_
     refine WL.nil (WX.a (WC.b (WC.a ?_)))
     refine WL.qA 73 (yg y75 rfl (yh .here) rfl) ?_
     refine WL.ym rfl rfl (yl y7H rfl rfl rfl .h5 rfl rfl rfl) ?_
     refine WL.pu rfl (WL.nil (WX.a (WC.ret ?_)))
     obtain rfl:=Option.some.inj h
     refine WX.ye Tryz.results10 (.agg rfl y75 rfl (yh .here) (.tmp rfl .nil)) (fun w hw=>?_)
     exact ⟨ziI,zdU,zdV,zF0,zF1,y1z rfl rfl,trivial,hw.sub (.cons .h4 (.cons .h3 (.cons .h2 .nil)))⟩
def y3a (z1O : List Sbound_place × Int) (zbk : (List Sapi_PortBound) → Option (List Sapi_PortBound × Int)) : Nat → (List Sapi_PortBound) → Int → Option (List Sapi_PortBound × Int)
 | 0,_,_=>none
 | zwR + 1,z4n,z1V=>if decide (z1V < ((z1O.1.length : Nat) : Int)) then chk ((0 : Int) ≤ z1V ∧ z1V < ((z1O.1.length : Nat) : Int)) (chk ((((z4n ++ ([(⟨((nth z1O.1 z1V).fNode),((nth z1O.1 z1V).fLink),0,0⟩ : Sapi_PortBound)] : List Sapi_PortBound)).length : Nat) : Int) * 32 ≤ 140737488355328 ∧ (((z4n ++ ([(⟨((nth z1O.1 z1V).fNode),((nth z1O.1 z1V).fLink),0,0⟩ : Sapi_PortBound)] : List Sapi_PortBound)).length : Nat) : Int) ≤ 4611686018427387904) (y3a z1O zbk zwR (z4n ++ ([(⟨((nth z1O.1 z1V).fNode),((nth z1O.1 z1V).fLink),0,0⟩ : Sapi_PortBound)] : List Sapi_PortBound)) (i64 (z1V + 1)))) else zbk z4n
theorem y9s {n : Nat} {z1O : List Sbound_place × Int} {zbk : (List Sapi_PortBound) → Option (List Sapi_PortBound × Int)} {z4n : List Sapi_PortBound} {z1V : Int} {r : List Sapi_PortBound × Int} (h : y3a z1O zbk n z4n z1V = some r) : ∃ m,n = m + 1:=by
 cases n with
 | zero=>cases h
 | succ m=>exact ⟨m,rfl⟩
def y40 (z2c : Sapi_Config) (zoL : Int) (ziK : List (List Sapi_Hop)) : Option (List Sapi_PortBound × Int) :=
 (y3n z2c zoL ziK).bind fun zF2=>if !zF2 then some (([] : List Sapi_PortBound),310) else (y3X ziK).bind fun z1O=>jp1 (fun (z9t : List Sapi_PortBound)=>some (z9t,z1O.2)) fun zbk=>y3a z1O zbk yB ([] : List Sapi_PortBound) 0
set_option maxRecDepth 20000 in
theorem ya3 (Z : Zp) (zwS : Option Addr) (zwT : Nat) (zwU : Option Addr) (zwV : Nat) (zwW : Option Addr) (zwX : Nat) (zwY : Option Addr) (zwZ : Nat) (zx0 : Option Addr) (zx1 : Nat) (zx2 : Option Addr) (zx3 : Nat) (zx4 : Option Addr) (zx5 : Nat) (zx6 : Option Addr) (zx7 : Nat) (zF3 : Option Addr) (zF4 : Nat) (z2c : Sapi_Config) (zoL : Int) (ziK : List (List Sapi_Hop)) (r : List Sapi_PortBound × Int)
  (h : y40 z2c zoL ziK = some r) (w₀ : World) (hz : PZ [] w₀ Z)
  (zSw : ZS Z 4 (y3y Z) zwS zwT z2c.fModules)
  (zSx : ZS Z 4 (y49 Z) zwU zwV z2c.fChannels)
  (zSy : ZS Z 4 (fun r x=>r = e66 x) zwW zwX z2c.fSwitches)
  (zSz : ZS Z 4 (fun r x=>r = e64 x) zwY zwZ z2c.fLinks)
  (zSA : ZS Z 7 (p46 Z) zx0 zx1 z2c.fVLs)
  (zSB : ZS Z 5 (fun r x=>r = y4m x) zx2 zx3 z2c.fHealth)
  (zSC : ZS Z 3 (y4a Z) zx4 zx5 z2c.fCauses)
  (zSD : ZS Z 4 (fun r x=>r = y4n x) zx6 zx7 z2c.fVersions)
  (zF5 : ZS Z 1 (p48 Z) zF3 zF4 ziK) :
  Calls Tryz.prog 13 #[(.agg #[(.slice zwS z2c.fModules.length zwT),(.slice zwU z2c.fChannels.length zwV),(.slice zwW z2c.fSwitches.length zwX),(.slice zwY z2c.fLinks.length zwZ),(.slice zx0 z2c.fVLs.length zx1),(.slice zx2 z2c.fHealth.length zx3),(.slice zx4 z2c.fCauses.length zx5),(.slice zx6 z2c.fVersions.length zx7)]),(.int .i64 zoL),(.slice zF3 ziK.length zF4)] w₀ fun e w'=>∃ zF6 : Option Addr,∃ zF7 : Nat,e = .returned (.tuple #[(.slice zF6 r.1.length zF7),(.int .i64 r.2)]) ∧ True ∧ Hp [] w₀ w' [row (.slice zF6 r.1.length zF7) 58 4 (r.1.flatMap e58)]:=by
 unfold y40 at h
 refine Calls.on3 Tryz.func13 Tryz.ntmps13 ?_
 refine WC.b (WC.a ?_)
 refine WL.nA 3 (yH (cs:=[(.slice zwS z2c.fModules.length zwT),(.slice zwU z2c.fChannels.length zwV),(.slice zwW z2c.fSwitches.length zwX),(.slice zwY z2c.fLinks.length zwZ),(.slice zx0 z2c.fVLs.length zx1),(.slice zx2 z2c.fHealth.length zx3),(.slice zx4 z2c.fCauses.length zx5),(.slice zx6 z2c.fVersions.length zx7)]) rfl rfl) ?_
 intro z10C _
 refine WL.pu rfl (WL.pu rfl (WL.nil (WX.a (WC.b (WC.b ?_)))))
 obtain ⟨zF2,zSE,h⟩:=z7 h
 refine WC.a ?_
 refine WL.qA 13 (yg y2B rfl (yh .here) rfl) ?_
 refine WL.pu rfl (WL.pu rfl ?_)
 refine WL.cA 16 (za (l:=[.tmp 13,.tmp 14,.tmp 15]) Tryz.call12 (.cons rfl (.cons rfl (.cons rfl .nil)))) .nil (cc hz .nil fun w pz ho=>y7l _ _ _ _ _ _ _ _ _ _ _ _ _ _ _ _ _ _ _ _ _ _ _ zSE w pz zSw zSx zSy zSz zSA zSB zSC zSD zF5) ?_
 refine WL.pu rfl (WL.nil (WX.a ?_))
 refine WC.cond rfl (fun zx8=>?_) (fun zx8=>?_)
 ·replace h:=yn h zx8
  refine WC.b (WC.a (WL.pu rfl (WL.pu rfl (WL.nil (WX.a (WC.ret (WX.yd ?_)))))))
  refine WX.nilRow 58 4 ?_
  obtain rfl:=Option.some.inj h
  refine WX.ye Tryz.results13 (.tmp rfl (.tmp rfl .nil)) (fun w hw=>?_)
  exact ⟨none,0,y1z rfl rfl,trivial,hw.sub (.cons .here .nil)⟩
 ·replace h:=yo h zx8
  refine WC.skip (WX.a (WC.b ?_))
  obtain ⟨z1O,zSF,h⟩:=z7 h
  refine WC.a (WL.pu rfl ?_)
  refine WL.y4F (dd:=20) rfl rfl rfl (za (l:=[.tmp 19]) Tryz.call21 (.cons rfl .nil)) .nil (cc hz .nil fun w pz ho=>ya2 _ _ _ _ _ zSF w pz zF5) ?_
  rintro zF8 zF9 _
  refine WL.pu rfl (WL.pu rfl (WL.pu rfl (WL.pu rfl (WL.pu rfl (WL.nil (WX.a (WC.b (WC.a (WL.pu rfl (WL.nil (WX.a ?_)))))))))))
  obtain ⟨zbk,zSG,h⟩:=yU h
  refine WC.y1x (fun (z9t : List Sapi_PortBound) (ziL : Option Addr) (ziM : Nat)=>(zbk z9t = some r)) (fun z9t ziL ziM=>[(9,(.int .i64 z1O.2)),(10,(.slice ziL z9t.length ziM))]) (fun z9t ziL ziM=>[row (.slice ziL z9t.length ziM) 58 4 (z9t.flatMap e58)]) ?_ ?_
  ·skip
   refine WC.b (WC.a (WL.pu rfl ?_))
   refine WL.qA 24 (yE Tryz.underlying88 rfl) ?_
   refine WL.pu rfl (WL.nil (WX.a (WC.block ?_)))
   refine WC.nilRow 58 4 ?_
   refine WC.y4k (fun (ziN : Nat) (z4n : List Sapi_PortBound) (z1V : Int) (zfO : Option Addr) (zfP : Nat)=>(y3a z1O zbk ziN z4n z1V = some r)) (fun ziN z4n z1V zfO zfP=>[(9,(.int .i64 z1O.2)),(10,(.slice zfO z4n.length zfP)),(23,(.slice zF8 z1O.1.length zF9)),(24,(.int .i64 ((z1O.1.length : Nat) : Int))),(25,(.int .i64 z1V))]) (fun ziN z4n z1V zfO zfP=>[row (.slice zfO z4n.length zfP) 58 4 (z4n.flatMap e58),row (.slice zF8 z1O.1.length zF9) 97 2 (z1O.1.flatMap e97)]) (fun ziN z4n z1V zfO zfP=>ziN) ⟨yB,([] : List Sapi_PortBound),0,none,0⟩ h (.cons rfl (.cons rfl (.cons rfl (.cons rfl (.cons rfl .nil))))) (.cons .here (.cons .here .nil)) ?_
   rintro ziN z4n z1V zfO zfP h
   obtain ⟨zwR,rfl⟩:=y9s h
   rw [y3a] at h
   refine WC.b (WC.a (WL.pu rfl (WL.nil (WX.a (WC.b ?_)))))
   refine WC.cond rfl (fun zx9=>?_) (fun zx9=>?_)
   ·replace h:=yn h zx9
    refine WC.skip (WX.a (WC.b (WC.block (WC.b ?_))))
    obtain ⟨zlX,h⟩:=yq h
    refine WC.a ?_
    refine WL.know (fun w hw=>Hp.y2H .h1 hw (by intro hz'; have:=zlX; rw [hz'] at this; omega)) ?_
    rintro ⟨z10D,rfl⟩
    refine WL.qA 27 (yY y4H rfl rfl zlX.1 zlX.2 y3z) ?_
    refine WL.qA 28 (yQ (cs:=(e97 (nth z1O.1 z1V))) y3f rfl rfl (y3d .h1 (y2Q (enc:=e97) (l:=z1O.1) (i:=z1V) (sz:=2) (fun _=>rfl) zlX.1 zlX.2))) ?_
    refine WL.nA 12 (yv (cs:=[(.int .i64 0),(.int .i64 0)]) y8v rfl) ?_
    intro z10E _
    refine WL.ym rfl rfl (yl yaM rfl rfl rfl .here rfl rfl rfl) ?_
    refine WL.nil (WX.a ?_)
    obtain ⟨zSH,h⟩:=yq h
    refine WC.a (WL.pu rfl ?_)
    refine WL.qA 30 (ya y8p rfl rfl) ?_
    refine WL.qA 31 (yc yt rfl (yk .here rfl)) ?_
    refine WL.qA 32 (ya y9e rfl rfl) ?_
    refine WL.qA 33 (yc yt rfl (yk .here rfl)) ?_
    refine WL.qA 34 (yI (v:=(.agg #[(.int .i64 ((nth z1O.1 z1V).fNode)),(.int .i64 ((nth z1O.1 z1V).fLink)),(.int .i64 0),(.int .i64 0)])) (Eos.parts (l:=[.tmp 31,.tmp 33]) (.cons rfl (.cons rfl .nil)) [0,1]) (fun _=>by kernel_rfl)) ?_
    refine WL.nA 35 (yS (cs:=([(⟨((nth z1O.1 z1V).fNode),((nth z1O.1 z1V).fLink),0,0⟩ : Sapi_PortBound)] : List Sapi_PortBound).flatMap e58) y5f (Eos.parts (l:=[.tmp 34]) (.cons rfl .nil) [0]) (fun _=>by kernel_rfl) rfl (by unfold maxLen; omega)) ?_
    intro z10F _
    refine WL.fA 36 (y4f (enc:=e58) (l1:=z4n) (l2:=([(⟨((nth z1O.1 z1V).fNode),((nth z1O.1 z1V).fLink),0,0⟩ : Sapi_PortBound)] : List Sapi_PortBound)) y5f rfl rfl .h2 (fun _=>rfl) rfl rfl (y3C .here) (y4C ycC _) zSH) ?_
    rintro ⟨zSI,zSJ⟩ _
    refine WL.pu rfl (WL.nil (WX.yj (WX.a (WC.a (WL.pu rfl (WL.pu rfl (WL.nil ?_)))))))
    exact WX.round (G:=Nat × List Sapi_PortBound × Int × Option Addr × Nat) ⟨zwR,(z4n ++ ([(⟨((nth z1O.1 z1V).fNode),((nth z1O.1 z1V).fLink),0,0⟩ : Sapi_PortBound)] : List Sapi_PortBound)),(i64 (z1V + 1)),zSI,zSJ⟩ h (Nat.lt_succ_self _) (.cons rfl (.cons rfl (.cons rfl (.cons rfl (.cons rfl .nil))))) (.cons .here (.cons .h2 .nil))
   ·replace h:=yo h zx9
    refine WC.exit (WX.yf (WX.yf (WX.yz ?_)))
    exact WX.mid (G:=List Sapi_PortBound × Option Addr × Nat) ⟨z4n,zfO,zfP⟩ h (.cons rfl (.cons rfl .nil)) (.cons .here .nil)
  ·rintro z9t ziL ziM h
   replace h:=(zSG z9t).symm.trans h
   refine WC.b (WC.a (WL.pu rfl (WL.pu rfl (WL.pu rfl (WL.pu rfl (WL.nil (WX.a (WC.ret ?_))))))))
   obtain rfl:=Option.some.inj h
   refine WX.ye Tryz.results13 (.tmp rfl (.tmp rfl .nil)) (fun w hw=>?_)
   exact ⟨ziL,ziM,y1z rfl rfl,trivial,hw.sub (.cons .here .nil)⟩
def y4W (zZ : S37) (z13 : S37) (zbl : Option Bool) : Nat → Int → Option Bool
 | 0,_=>none
 | zxa + 1,z1P=>if decide (z1P < ((zZ.fPorts.length : Nat) : Int)) then chk ((0 : Int) ≤ z1P ∧ z1P < ((zZ.fPorts.length : Nat) : Int)) (chk ((0 : Int) ≤ z1P ∧ z1P < ((z13.fPorts.length : Nat) : Int)) (if decide ((⟨((nth zZ.fPorts z1P).fNode),((nth zZ.fPorts z1P).fLink),((nth zZ.fPorts z1P).fDelay),((nth zZ.fPorts z1P).fStore)⟩ : Sapi_PortBound) ≠ (⟨((nth z13.fPorts z1P).fNode),((nth z13.fPorts z1P).fLink),((nth z13.fPorts z1P).fDelay),((nth z13.fPorts z1P).fStore)⟩ : Sapi_PortBound)) then some false else y4W zZ z13 zbl zxa (i64 (z1P + 1)))) else zbl
theorem y9R {n : Nat} {zZ : S37} {z13 : S37} {zbl : Option Bool} {z1P : Int} {r : Bool} (h : y4W zZ z13 zbl n z1P = some r) : ∃ m,n = m + 1:=by
 cases n with
 | zero=>cases h
 | succ m=>exact ⟨m,rfl⟩
def y4X (zZ : S37) (z13 : S37) (zbm : Option Bool) : Nat → Int → Option Bool
 | 0,_=>none
 | zxb + 1,z26=>if decide (z26 < ((zZ.fEnds.length : Nat) : Int)) then chk ((0 : Int) ≤ z26 ∧ z26 < ((zZ.fEnds.length : Nat) : Int)) (chk ((0 : Int) ≤ z26 ∧ z26 < ((z13.fEnds.length : Nat) : Int)) (if decide ((⟨((nth zZ.fEnds z26).fVL),((nth zZ.fEnds z26).fNode),((nth zZ.fEnds z26).fDelay)⟩ : Sapi_End) ≠ (⟨((nth z13.fEnds z26).fVL),((nth z13.fEnds z26).fNode),((nth z13.fEnds z26).fDelay)⟩ : Sapi_End)) then some false else y4X zZ z13 zbm zxb (i64 (z26 + 1)))) else zbm
theorem y9S {n : Nat} {zZ : S37} {z13 : S37} {zbm : Option Bool} {z26 : Int} {r : Bool} (h : y4X zZ z13 zbm n z26 = some r) : ∃ m,n = m + 1:=by
 cases n with
 | zero=>cases h
 | succ m=>exact ⟨m,rfl⟩
def y8G (zZ : S37) (z13 : S37) : Option Bool :=
 if (decide (((zZ.fPorts.length : Nat) : Int) ≠ ((z13.fPorts.length : Nat) : Int))) || (decide (((zZ.fEnds.length : Nat) : Int) ≠ ((z13.fEnds.length : Nat) : Int))) then some false else jp0 (jp0 (some true) fun zbm=>y4X zZ z13 zbm yB 0) fun zbl=>y4W zZ z13 zbl yB 0
set_option maxRecDepth 20000 in
theorem ycL (Z : Zp) (ziO : Option Addr) (ziP : Nat) (ziQ : Option Addr) (ziR : Nat) (ziS : Option Addr) (ziT : Nat) (ziU : Option Addr) (ziV : Nat) (zZ : S37) (z13 : S37) (r : Bool)
  (h : y8G zZ z13 = some r) (w₀ : World) (hz : PZ [] w₀ Z)
  (zSK : ZS Z 4 (fun r x=>r = e58 x) ziO ziP zZ.fPorts)
  (zSL : ZS Z 3 (fun r x=>r = e79 x) ziQ ziR zZ.fEnds)
  (zSM : ZS Z 4 (fun r x=>r = e58 x) ziS ziT z13.fPorts)
  (zSN : ZS Z 3 (fun r x=>r = e79 x) ziU ziV z13.fEnds) :
  Calls Tryz.prog 17 #[(.agg #[(.slice ziO zZ.fPorts.length ziP),(.slice ziQ zZ.fEnds.length ziR)]),(.agg #[(.slice ziS z13.fPorts.length ziT),(.slice ziU z13.fEnds.length ziV)])] w₀ fun e w'=>e = .returned (.bool r) ∧ Hp [] w₀ w' []:=by
 unfold y8G at h
 refine Calls.yJ Tryz.func17 Tryz.ntmps17 ?_
 refine WC.b (WC.a ?_)
 refine WL.nA 2 (yH (cs:=[(.slice ziO zZ.fPorts.length ziP),(.slice ziQ zZ.fEnds.length ziR)]) rfl rfl) ?_
 intro ziW _
 refine WL.nA 3 (yH (cs:=[(.slice ziS z13.fPorts.length ziT),(.slice ziU z13.fEnds.length ziV)]) rfl rfl) ?_
 intro ziX _
 refine WL.pu rfl (WL.nil (WX.a (WC.b (WC.b (WC.a ?_)))))
 refine WL.qA 7 (ya y6o rfl rfl) ?_
 refine WL.qA 8 (yc y77 rfl (yk .h1 rfl)) ?_
 refine WL.qA 9 (yE Tryz.underlying35 rfl) ?_
 refine WL.qA 10 (ya y6o rfl rfl) ?_
 refine WL.qA 11 (yc y77 rfl (yk .here rfl)) ?_
 refine WL.qA 12 (yE Tryz.underlying35 rfl) ?_
 refine WL.pu rfl (WL.pu rfl ?_)
 refine WL.seg false 7 14 (B:=(decide (((zZ.fPorts.length : Nat) : Int) ≠ ((z13.fPorts.length : Nat) : Int))) || (decide (((zZ.fEnds.length : Nat) : Int) ≠ ((z13.fEnds.length : Nat) : Int)))) rfl rfl rfl rfl rfl rfl (fun h=>(y67 h).symm) (fun _ zSO=>?_) ?_
 ·skip
  refine WL.qA 15 (ya y8s rfl rfl) ?_
  refine WL.qA 16 (yc y9k rfl (yk .h1 rfl)) ?_
  refine WL.qA 17 (yE Tryz.underlying36 rfl) ?_
  refine WL.qA 18 (ya y8s rfl rfl) ?_
  refine WL.qA 19 (yc y9k rfl (yk .here rfl)) ?_
  refine WL.qA 20 (yE Tryz.underlying36 rfl) ?_
  refine WL.pu rfl (WL.pu rfl ?_)
  exact WL.yC (y68 zSO) rfl rfl .all
 refine WL.nil (WX.a ?_)
 refine WC.cond rfl (fun zxc=>?_) (fun zxc=>?_)
 ·replace h:=yn h zxc
  refine WC.b (WC.a (WL.pu rfl (WL.nil (WX.a (WC.ret (WX.yd ?_))))))
  obtain rfl:=Option.some.inj h
  refine WX.ye Tryz.results17 (.tmp rfl .nil) (fun w hw=>?_)
  exact ⟨yD rfl,hw.sub .nil⟩
 ·replace h:=yo h zxc
  refine WC.skip (WX.a ?_)
  obtain ⟨zbl,zSP,h⟩:=y1u h
  refine WC.y1g ((zbl = some r)) ([(2,(.pointer (some ⟨ziW,0,none⟩))),(3,(.pointer (some ⟨ziX,0,none⟩)))]) ([stb ziW 38 [(.slice ziO zZ.fPorts.length ziP),(.slice ziQ zZ.fEnds.length ziR)],stb ziX 38 [(.slice ziS z13.fPorts.length ziT),(.slice ziU z13.fEnds.length ziV)]]) ?_ ?_
  ·skip
   refine WC.b (WC.a (WL.pu rfl (WL.nil (WX.a (WC.block ?_)))))
   refine WC.y1S (fun (ziY : Nat) (z1P : Int)=>(y4W zZ z13 zbl ziY z1P = some r)) (fun ziY z1P=>[(2,(.pointer (some ⟨ziW,0,none⟩))),(3,(.pointer (some ⟨ziX,0,none⟩))),(5,(.int .i64 z1P))]) (fun ziY z1P=>[stb ziW 38 [(.slice ziO zZ.fPorts.length ziP),(.slice ziQ zZ.fEnds.length ziR)],stb ziX 38 [(.slice ziS z13.fPorts.length ziT),(.slice ziU z13.fEnds.length ziV)]]) (fun ziY z1P=>ziY) ⟨yB,0⟩ h (.cons rfl (.cons rfl (.cons rfl .nil))) (.cons .h1 (.cons .here .nil)) ?_
   rintro ziY z1P h
   obtain ⟨zxa,rfl⟩:=y9R h
   rw [y4W] at h
   refine WC.b (WC.b (WC.a (WL.pu rfl ?_)))
   refine WL.qA 24 (ya y6o rfl rfl) ?_
   refine WL.qA 25 (yc y77 rfl (yk .here rfl)) ?_
   refine WL.qA 26 (yE Tryz.underlying35 rfl) ?_
   refine WL.pu rfl (WL.nil (WX.a ?_))
   refine WC.cond rfl (fun zxd=>?_) (fun zxd=>?_)
   ·replace h:=yn h zxd
    refine WC.skip (WX.a (WC.b (WC.block (WC.b ?_))))
    obtain ⟨zSQ,h⟩:=yq h
    obtain ⟨zSR,h⟩:=yq h
    refine WC.yL (fun i=>[].contains i) [] rfl ?_
    refine WD.pA 0 30 rfl (fun _=>ya y6o rfl rfl) ?_
    refine WD.qA 1 31 rfl (yc y77 rfl (yk .here rfl)) ?_
    refine WD.pA 2 32 rfl (fun _=>q_m rfl) ?_
    refine WD.znth (j:=3) (dd:=33) (by kernel_rfl) rfl z2E z2F rfl rfl (Z:=Z) (Pr:=(fun r x=>r = e58 x)) y5f rfl rfl zSK zSQ ?_
    rintro z10G z10H zSS z10I rfl
    refine WD.qA 4 34 rfl (yg y8r rfl (y1A hz.pv zSS) rfl) ?_
    refine WD.pA 5 35 rfl (fun _=>ya y6o rfl rfl) ?_
    refine WD.qA 6 36 rfl (yc y77 rfl (yk .h1 rfl)) ?_
    refine WD.pA 7 37 rfl (fun _=>q_m rfl) ?_
    refine WD.znth (j:=8) (dd:=38) (by kernel_rfl) rfl z2E z2F rfl rfl (Z:=Z) (Pr:=(fun r x=>r = e58 x)) y5f rfl rfl zSM zSR ?_
    rintro z10J z10K zST z10L rfl
    refine WD.qA 9 39 rfl (yg y8r rfl (y1A hz.pv zST) rfl) ?_
    refine WD.pA 10 40 rfl (fun _=>y9y (enc:=e58) (a:=(⟨((nth zZ.fPorts z1P).fNode),((nth zZ.fPorts z1P).fLink),((nth zZ.fPorts z1P).fDelay),((nth zZ.fPorts z1P).fStore)⟩ : Sapi_PortBound)) (b:=(⟨((nth z13.fPorts z1P).fNode),((nth z13.fPorts z1P).fLink),((nth z13.fPorts z1P).fDelay),((nth z13.fPorts z1P).fStore)⟩ : Sapi_PortBound)) ycG rfl rfl) ?_
    refine WD.done (by kernel_rfl) ?_
    refine WX.a ?_
    refine WC.cond rfl (fun zxe=>?_) (fun zxe=>?_)
    ·replace h:=yn h zxe
     refine WC.b (WC.a (WL.pu rfl (WL.nil (WX.a (WC.ret (WX.ys (WX.yd (WX.yd (WX.ys (WX.yd ?_))))))))))
     obtain rfl:=Option.some.inj h
     refine WX.ye Tryz.results17 (.tmp rfl .nil) (fun w hw=>?_)
     exact ⟨yD rfl,hw.sub .nil⟩
    ·replace h:=yo h zxe
     refine WC.skip (WX.yj (WX.a (WC.a (WL.pu rfl (WL.pu rfl (WL.pu rfl (WL.nil ?_)))))))
     exact WX.round (G:=Nat × Int) ⟨zxa,(i64 (z1P + 1))⟩ h (Nat.lt_succ_self _) (.cons rfl (.cons rfl (.cons rfl .nil))) (.cons .here (.cons .here .nil))
   ·replace h:=yo h zxd
    refine WC.exit (WX.yf (WX.yf (WX.yz ?_)))
    exact WX.mid (G:=Unit) () h (.cons rfl (.cons rfl .nil)) (.cons .here (.cons .here .nil))
  ·rintro  h
   replace h:=zSP.symm.trans h
   obtain ⟨zbm,zSU,h⟩:=y1u h
   refine WC.y1g ((zbm = some r)) ([]) ([]) ?_ ?_
   ·skip
    refine WC.b (WC.a (WL.pu rfl (WL.nil (WX.a (WC.block ?_)))))
    refine WC.y1S (fun (ziZ : Nat) (z26 : Int)=>(y4X zZ z13 zbm ziZ z26 = some r)) (fun ziZ z26=>[(2,(.pointer (some ⟨ziW,0,none⟩))),(3,(.pointer (some ⟨ziX,0,none⟩))),(6,(.int .i64 z26))]) (fun ziZ z26=>[stb ziW 38 [(.slice ziO zZ.fPorts.length ziP),(.slice ziQ zZ.fEnds.length ziR)],stb ziX 38 [(.slice ziS z13.fPorts.length ziT),(.slice ziU z13.fEnds.length ziV)]]) (fun ziZ z26=>ziZ) ⟨yB,0⟩ h (.cons rfl (.cons rfl (.cons rfl .nil))) (.cons .here (.cons .here .nil)) ?_
    rintro ziZ z26 h
    obtain ⟨zxb,rfl⟩:=y9S h
    rw [y4X] at h
    refine WC.b (WC.b (WC.a (WL.pu rfl ?_)))
    refine WL.qA 42 (ya y8s rfl rfl) ?_
    refine WL.qA 43 (yc y9k rfl (yk .here rfl)) ?_
    refine WL.qA 44 (yE Tryz.underlying36 rfl) ?_
    refine WL.pu rfl (WL.nil (WX.a ?_))
    refine WC.cond rfl (fun zxf=>?_) (fun zxf=>?_)
    ·replace h:=yn h zxf
     refine WC.skip (WX.a (WC.b (WC.block (WC.b ?_))))
     obtain ⟨zSV,h⟩:=yq h
     obtain ⟨zSW,h⟩:=yq h
     refine WC.yL (fun i=>[].contains i) [] rfl ?_
     refine WD.pA 0 48 rfl (fun _=>ya y8s rfl rfl) ?_
     refine WD.qA 1 49 rfl (yc y9k rfl (yk .here rfl)) ?_
     refine WD.pA 2 50 rfl (fun _=>q_m rfl) ?_
     refine WD.znth (j:=3) (dd:=51) (by kernel_rfl) rfl z2E z2F rfl rfl (Z:=Z) (Pr:=(fun r x=>r = e79 x)) y9j rfl rfl zSL zSV ?_
     rintro z10M z10N zSX z10O rfl
     refine WD.qA 4 52 rfl (yg ydd rfl (y1A hz.pv zSX) rfl) ?_
     refine WD.pA 5 53 rfl (fun _=>ya y8s rfl rfl) ?_
     refine WD.qA 6 54 rfl (yc y9k rfl (yk .h1 rfl)) ?_
     refine WD.pA 7 55 rfl (fun _=>q_m rfl) ?_
     refine WD.znth (j:=8) (dd:=56) (by kernel_rfl) rfl z2E z2F rfl rfl (Z:=Z) (Pr:=(fun r x=>r = e79 x)) y9j rfl rfl zSN zSW ?_
     rintro z10P z10Q zSY z10R rfl
     refine WD.qA 9 57 rfl (yg ydd rfl (y1A hz.pv zSY) rfl) ?_
     refine WD.pA 10 58 rfl (fun _=>y9y (enc:=e79) (a:=(⟨((nth zZ.fEnds z26).fVL),((nth zZ.fEnds z26).fNode),((nth zZ.fEnds z26).fDelay)⟩ : Sapi_End)) (b:=(⟨((nth z13.fEnds z26).fVL),((nth z13.fEnds z26).fNode),((nth z13.fEnds z26).fDelay)⟩ : Sapi_End)) eqT_79 rfl rfl) ?_
     refine WD.done (by kernel_rfl) ?_
     refine WX.a ?_
     refine WC.cond rfl (fun zxg=>?_) (fun zxg=>?_)
     ·replace h:=yn h zxg
      refine WC.b (WC.a (WL.pu rfl (WL.nil (WX.a (WC.ret (WX.ys (WX.yd (WX.yd (WX.ys (WX.yd ?_))))))))))
      obtain rfl:=Option.some.inj h
      refine WX.ye Tryz.results17 (.tmp rfl .nil) (fun w hw=>?_)
      exact ⟨yD rfl,hw.sub .nil⟩
     ·replace h:=yo h zxg
      refine WC.skip (WX.yj (WX.a (WC.a (WL.pu rfl (WL.pu rfl (WL.pu rfl (WL.nil ?_)))))))
      exact WX.round (G:=Nat × Int) ⟨zxb,(i64 (z26 + 1))⟩ h (Nat.lt_succ_self _) (.cons rfl (.cons rfl (.cons rfl .nil))) (.cons .here (.cons .here .nil))
    ·replace h:=yo h zxf
     refine WC.exit (WX.yf (WX.yf (WX.yz ?_)))
     exact WX.mid (G:=Unit) () h .nil .nil
   ·rintro  h
    replace h:=zSU.symm.trans h
    refine WC.b (WC.a (WL.pu rfl (WL.nil (WX.a (WC.ret ?_)))))
    obtain rfl:=Option.some.inj h
    refine WX.ye Tryz.results17 (.tmp rfl .nil) (fun w hw=>?_)
    exact ⟨yD rfl,hw.sub .nil⟩
def y4E  : Option Bool :=
 (y7m).bind fun z9u=>(y7t z9u.1 0 z9u.2).bind fun zoM=>(y40 z9u.1 0 z9u.2).bind fun z11=>(if (decide (zoM.2 = 0)) && (decide (z11.2 = 0)) then (y8G zoM.1 (⟨([(⟨0,0,40,80⟩ : Sapi_PortBound),(⟨2,1,56,91⟩ : Sapi_PortBound)] : List Sapi_PortBound),([(⟨0,1,96⟩ : Sapi_End)] : List Sapi_End)⟩ : S37)).bind fun zFa=>some zFa else some false).bind fun zdY=>chk ((zdY && (decide (((z11.1.length : Nat) : Int) = 2))) = true → ((0 : Int) ≤ 0 ∧ 0 < ((z11.1.length : Nat) : Int))) (chk (((zdY && (decide (((z11.1.length : Nat) : Int) = 2))) && (decide ((⟨((nth z11.1 0).fNode),((nth z11.1 0).fLink),((nth z11.1 0).fDelay),((nth z11.1 0).fStore)⟩ : Sapi_PortBound) = (⟨0,0,0,0⟩ : Sapi_PortBound)))) = true → ((0 : Int) ≤ 1 ∧ 1 < ((z11.1.length : Nat) : Int))) (some (((zdY && (decide (((z11.1.length : Nat) : Int) = 2))) && (decide ((⟨((nth z11.1 0).fNode),((nth z11.1 0).fLink),((nth z11.1 0).fDelay),((nth z11.1 0).fStore)⟩ : Sapi_PortBound) = (⟨0,0,0,0⟩ : Sapi_PortBound)))) && (decide ((⟨((nth z11.1 1).fNode),((nth z11.1 1).fLink),((nth z11.1 1).fDelay),((nth z11.1 1).fStore)⟩ : Sapi_PortBound) = (⟨2,1,0,0⟩ : Sapi_PortBound))))))
set_option maxRecDepth 20000 in
theorem y8c (Z : Zp)  (r : Bool)
  (h : y4E = some r) (w₀ : World) (hz : PZ [] w₀ Z) :
  Calls Tryz.prog 9 #[] w₀ fun e w'=>∃ Zn : Zp,e = .returned (.bool r) ∧ True ∧ Hp [] w₀ w' [fz Zn]:=by
 unfold y4E at h
 refine Calls.on0 Tryz.func9 Tryz.ntmps9 ?_
 refine WC.pool (WC.b (WC.a (WL.pu rfl (WL.nil (WX.a (WC.b ?_))))))
 obtain ⟨z9u,zSZ,h⟩:=z7 h
 refine WC.a ?_
 refine WL.yds (dd:=9) rfl rfl rfl (za (l:=[]) Tryz.call14 .nil) .nil (ccz hz .nil .here fun w pz ho=>ybu _ _ zSZ w pz ) ?_
 rintro z10S z10T z10U z10V z10W z10X z10Y z10Z z110 z111 z112 z113 z114 z115 z116 z117 z118 z119 z11a z11b z11c z11d ⟨zT0,zFb,zT1,zFc,zFd,zFe,zT2⟩
 refine WL.merge .here .h5 ?_
 refine WL.pu rfl (WL.pu rfl (WL.pu rfl ?_))
 refine WL.nA 1 (yv (cs:=[(.slice none 0 0),(.slice none 0 0),(.slice none 0 0),(.slice none 0 0),(.slice none 0 0),(.slice none 0 0),(.slice none 0 0),(.slice none 0 0)]) ybd rfl) ?_
 intro z11e _
 refine WL.ym rfl rfl (yl ybK rfl rfl rfl .here rfl rfl rfl) ?_
 refine WL.pu rfl (WL.nil (WX.a (WC.b ?_)))
 obtain ⟨zoM,zT3,h⟩:=z7 h
 refine WC.a ?_
 refine WL.qA 13 (yg y2B rfl (yh .here) rfl) ?_
 refine WL.pu rfl ?_
 refine WL.freezeS (ls:=z9u.1.fModules) .h2 .h1 hz (zT0.weak (fun _ _ h=>y1d (Zle.yu _ _ _) h)) ?_
 intro z11f z5U zoN
 replace zoN:=zoN.weak (fun _ _ h=>y1d z5U h)
 refine WL.freezeS (ls:=z9u.1.fSwitches) .h2 .here hz (RR.flat (enc:=e66) (fun _=>rfl) _) ?_
 intro z11g z4o zFf
 refine WL.freezeS (ls:=z9u.1.fLinks) .h2 .here hz (RR.flat (enc:=e64) (fun _=>rfl) _) ?_
 intro z11h z3H zFg
 refine WL.freezeS (ls:=z9u.1.fVLs) .h2 .here hz (zT1.weak (fun _ _ h=>y16 ((Zle.yu _ _ _).trans (z5U.trans (z4o.trans z3H))) h)) ?_
 intro z11i z38 zoO
 replace zoO:=zoO.weak (fun _ _ h=>y16 z38 h)
 refine WL.freezeS (ls:=z9u.2) .h2 .here hz (zT2.weak (fun _ _ h=>y1i ((Zle.yu _ _ _).trans (z5U.trans (z4o.trans (z3H.trans z38)))) h)) ?_
 intro zT4 z2t zoP
 replace zoP:=zoP.weak (fun _ _ h=>y1i z2t h)
 refine WL.ydN (dd:=15) rfl rfl rfl (za (l:=[.tmp 13,.const (.int .i64 0),.tmp 14]) Tryz.call10 (.cons rfl (.cons rfl (.cons rfl .nil)))) .nil (ccz hz .nil .here fun w pz ho=>ybz _ _ _ _ _ _ _ _ _ _ _ _ _ _ _ _ _ _ _ _ _ _ _ zT3 w pz ((zoN.mono (z4o.trans (z3H.trans (z38.trans z2t)))).weak (fun _ _ h=>y1d (z4o.trans (z3H.trans (z38.trans z2t))) h)) ((zFb.mono ((Zle.yu _ _ _).trans (z5U.trans (z4o.trans (z3H.trans (z38.trans z2t)))))).weak (fun _ _ h=>y1m ((Zle.yu _ _ _).trans (z5U.trans (z4o.trans (z3H.trans (z38.trans z2t))))) h)) (zFf.mono (z3H.trans (z38.trans z2t))) (zFg.mono (z38.trans z2t)) ((zoO.mono z2t).weak (fun _ _ h=>y16 z2t h)) (zFc.mono ((Zle.yu _ _ _).trans (z5U.trans (z4o.trans (z3H.trans (z38.trans z2t)))))) ((zFd.mono ((Zle.yu _ _ _).trans (z5U.trans (z4o.trans (z3H.trans (z38.trans z2t)))))).weak (fun _ _ h=>y1n ((Zle.yu _ _ _).trans (z5U.trans (z4o.trans (z3H.trans (z38.trans z2t))))) h)) (zFe.mono ((Zle.yu _ _ _).trans (z5U.trans (z4o.trans (z3H.trans (z38.trans z2t)))))) zoP) ?_
 rintro zT5 z11j z11k z11l z11m _
 refine WL.merge .here .h2 ?_
 refine WL.pu rfl (WL.pu rfl (WL.pu rfl ?_))
 refine WL.nA 3 (yv (cs:=[(.slice none 0 0),(.slice none 0 0)]) y9B rfl) ?_
 intro z11n _
 refine WL.ym rfl rfl (yl y7H rfl rfl rfl .here rfl rfl rfl) ?_
 refine WL.pu rfl (WL.nil (WX.a (WC.b ?_)))
 obtain ⟨z11,zT6,h⟩:=z7 h
 refine WC.a ?_
 refine WL.qA 19 (yg y2B rfl (yh .h4) rfl) ?_
 refine WL.pu rfl ?_
 refine WL.y4F (dd:=21) rfl rfl rfl (za (l:=[.tmp 19,.const (.int .i64 0),.tmp 20]) Tryz.call13 (.cons rfl (.cons rfl (.cons rfl .nil)))) .nil (ccz hz .nil .h1 fun w pz ho=>ya3 _ _ _ _ _ _ _ _ _ _ _ _ _ _ _ _ _ _ _ _ _ _ _ zT6 w pz ((zoN.mono (z4o.trans (z3H.trans (z38.trans (z2t.trans ((Zle.left _ _).trans (Zle.yu _ _ _))))))).weak (fun _ _ h=>y1d (z4o.trans (z3H.trans (z38.trans (z2t.trans ((Zle.left _ _).trans (Zle.yu _ _ _)))))) h)) ((zFb.mono ((Zle.yu _ _ _).trans (z5U.trans (z4o.trans (z3H.trans (z38.trans (z2t.trans ((Zle.left _ _).trans (Zle.yu _ _ _))))))))).weak (fun _ _ h=>y1m ((Zle.yu _ _ _).trans (z5U.trans (z4o.trans (z3H.trans (z38.trans (z2t.trans ((Zle.left _ _).trans (Zle.yu _ _ _)))))))) h)) (zFf.mono (z3H.trans (z38.trans (z2t.trans ((Zle.left _ _).trans (Zle.yu _ _ _)))))) (zFg.mono (z38.trans (z2t.trans ((Zle.left _ _).trans (Zle.yu _ _ _))))) ((zoO.mono (z2t.trans ((Zle.left _ _).trans (Zle.yu _ _ _)))).weak (fun _ _ h=>y16 (z2t.trans ((Zle.left _ _).trans (Zle.yu _ _ _))) h)) (zFc.mono ((Zle.yu _ _ _).trans (z5U.trans (z4o.trans (z3H.trans (z38.trans (z2t.trans ((Zle.left _ _).trans (Zle.yu _ _ _))))))))) ((zFd.mono ((Zle.yu _ _ _).trans (z5U.trans (z4o.trans (z3H.trans (z38.trans (z2t.trans ((Zle.left _ _).trans (Zle.yu _ _ _))))))))).weak (fun _ _ h=>y1n ((Zle.yu _ _ _).trans (z5U.trans (z4o.trans (z3H.trans (z38.trans (z2t.trans ((Zle.left _ _).trans (Zle.yu _ _ _)))))))) h)) (zFe.mono ((Zle.yu _ _ _).trans (z5U.trans (z4o.trans (z3H.trans (z38.trans (z2t.trans ((Zle.left _ _).trans (Zle.yu _ _ _))))))))) ((zoP.mono ((Zle.left _ _).trans (Zle.yu _ _ _))).weak (fun _ _ h=>y1i ((Zle.left _ _).trans (Zle.yu _ _ _)) h))) ?_
 rintro z11o z11p _
 refine WL.pu rfl (WL.pu rfl (WL.pu rfl (WL.pu rfl (WL.pu rfl (WL.nil (WX.a (WC.b (WC.a ?_))))))))
 refine WL.qA 24 (yI (v:=(.agg #[(.int .i64 0),(.int .i64 0),(.int .i64 40),(.int .i64 80)])) (Eos.parts (l:=[.const (.int .i64 0),.const (.int .i64 0),.const (.int .i64 40),.const (.int .i64 80)]) (.cons rfl (.cons rfl (.cons rfl (.cons rfl .nil)))) [0,1,2,3]) (fun _=>by kernel_rfl)) ?_
 refine WL.qA 25 (yI (v:=(.agg #[(.int .i64 2),(.int .i64 1),(.int .i64 56),(.int .i64 91)])) (Eos.parts (l:=[.const (.int .i64 2),.const (.int .i64 1),.const (.int .i64 56),.const (.int .i64 91)]) (.cons rfl (.cons rfl (.cons rfl (.cons rfl .nil)))) [0,1,2,3]) (fun _=>by kernel_rfl)) ?_
 refine WL.nA 26 (yS (cs:=([(⟨0,0,40,80⟩ : Sapi_PortBound),(⟨2,1,56,91⟩ : Sapi_PortBound)] : List Sapi_PortBound).flatMap e58) y5f (Eos.parts (l:=[.tmp 24,.tmp 25]) (.cons rfl (.cons rfl .nil)) [0,1]) (fun _=>by kernel_rfl) rfl (by unfold maxLen; omega)) ?_
 intro zT7 _
 refine WL.qA 27 (yI (v:=(.agg #[(.int .i64 0),(.int .i64 1),(.int .i64 96)])) (Eos.parts (l:=[.const (.int .i64 0),.const (.int .i64 1),.const (.int .i64 96)]) (.cons rfl (.cons rfl (.cons rfl .nil))) [0,1,2]) (fun _=>by kernel_rfl)) ?_
 refine WL.nA 28 (yS (cs:=([(⟨0,1,96⟩ : Sapi_End)] : List Sapi_End).flatMap e79) y9j (Eos.parts (l:=[.tmp 27]) (.cons rfl .nil) [0]) (fun _=>by kernel_rfl) rfl (by unfold maxLen; omega)) ?_
 intro zT8 _
 refine WL.qA 29 (yI (v:=(.agg #[(.slice (some ⟨zT7,0,none⟩) (([(⟨0,0,40,80⟩ : Sapi_PortBound),(⟨2,1,56,91⟩ : Sapi_PortBound)] : List Sapi_PortBound).length) 2),(.slice (some ⟨zT8,0,none⟩) (([(⟨0,1,96⟩ : Sapi_End)] : List Sapi_End).length) 1)])) (Eos.parts (l:=[.tmp 26,.tmp 28]) (.cons rfl (.cons rfl .nil)) [0,1]) (fun _=>by kernel_rfl)) ?_
 refine WL.nA 7 (yv (cs:=[(.slice none 0 0),(.slice none 0 0)]) y9B rfl) ?_
 intro z11q _
 refine WL.ym rfl rfl (yl y7H rfl rfl rfl .here rfl rfl rfl) ?_
 refine WL.nil (WX.a (WC.b ?_))
 obtain ⟨zdY,zFh,h⟩:=z7 h
 obtain ⟨zT9,h⟩:=yq h
 obtain ⟨zTa,h⟩:=yq h
 refine WC.a (WL.pu rfl (WL.pu rfl (WL.pu rfl ?_)))
 refine WL.seg true 2 32 (B:=(decide (zoM.2 = 0)) && (decide (z11.2 = 0))) rfl rfl rfl rfl rfl rfl (fun h=>(y2b h).symm) (fun _ zTb=>?_) ?_
 ·skip
  refine WL.pu rfl (WL.pu rfl (WL.pu rfl ?_))
  exact WL.yC (y2c zTb) rfl rfl .all
 refine WL.pu rfl ?_
 refine WL.seg true 3 36 (B:=zdY) rfl rfl rfl rfl rfl rfl (fun h=>(Option.some.inj (yo zFh h)).symm) (fun _ zTc=>?_) ?_
 ·skip
  have zlY:=yn zFh zTc
  obtain ⟨zFa,zTd,zlY⟩:=z7 zlY
  replace zlY:=Option.some.inj zlY
  refine WL.qA 37 (yg y75 rfl (yh .h4) rfl) ?_
  refine WL.qA 38 (yg y75 rfl (yh .here) rfl) ?_
  refine WL.cA 39 (za (l:=[.tmp 37,.tmp 38]) Tryz.call17 (.cons rfl (.cons rfl .nil))) .nil (cclz hz .nil .h5 (.cons .h6 (.cons .h6 (.cons .h2 (.cons .h1 .nil)))) fun w pz ho la=>ycL _ _ _ _ _ _ _ _ _ _ _ _ zTd w pz (ZA.row (la _ (.head _) _) (RR.flat (enc:=e58) (fun _=>rfl) _) ⟨w,pz.1⟩) (ZA.row (la _ (.tail _ (.head _)) _) (RR.flat (enc:=e79) (fun _=>rfl) _) ⟨w,pz.1⟩) (ZA.row (la _ (.tail _ (.tail _ (.head _))) _) (RR.flat (enc:=e58) (fun _=>rfl) _) ⟨w,pz.1⟩) (ZA.row (la _ (.tail _ (.tail _ (.tail _ (.head _)))) _) (RR.flat (enc:=e79) (fun _=>rfl) _) ⟨w,pz.1⟩)) ?_
  refine WL.pu rfl ?_
  exact WL.yC zlY rfl rfl .all
 refine WL.pu rfl ?_
 refine WL.seg true 3 41 (B:=zdY && (decide (((z11.1.length : Nat) : Int) = 2))) rfl rfl rfl rfl rfl rfl (fun h=>(y2b h).symm) (fun _ zTe=>?_) ?_
 ·skip
  refine WL.pu rfl ?_
  refine WL.qA 43 (yE Tryz.underlying35 rfl) ?_
  refine WL.pu rfl (WL.pu rfl ?_)
  exact WL.yC (y2c zTe) rfl rfl .all
 refine WL.pu rfl ?_
 refine WL.seg true 5 46 (B:=(zdY && (decide (((z11.1.length : Nat) : Int) = 2))) && (decide ((⟨((nth z11.1 0).fNode),((nth z11.1 0).fLink),((nth z11.1 0).fDelay),((nth z11.1 0).fStore)⟩ : Sapi_PortBound) = (⟨0,0,0,0⟩ : Sapi_PortBound)))) rfl rfl rfl rfl rfl rfl (fun h=>(y2b h).symm) (fun _ zFi=>?_) ?_
 ·skip
  have zlZ:=zT9 zFi
  refine WL.pu rfl ?_
  refine WL.know (fun w hw=>Hp.y2H .h3 hw (by intro hz'; have:=zlZ; rw [hz'] at this; omega)) ?_
  rintro ⟨z11r,rfl⟩
  refine WL.qA 48 (yY y5f rfl rfl zlZ.1 zlZ.2 y3z) ?_
  refine WL.qA 49 (yQ (cs:=(e58 (nth z11.1 0))) y8r rfl rfl (y3d .h3 (y2Q (enc:=e58) (l:=z11.1) (i:=0) (sz:=4) (fun _=>rfl) zlZ.1 zlZ.2))) ?_
  refine WL.qA 50 (yI (v:=(.agg #[(.int .i64 0),(.int .i64 0),(.int .i64 0),(.int .i64 0)])) (Eos.parts (l:=[]) .nil []) (fun _=>by kernel_rfl)) ?_
  refine WL.qA 51 (y6T (enc:=e58) (a:=(⟨((nth z11.1 0).fNode),((nth z11.1 0).fLink),((nth z11.1 0).fDelay),((nth z11.1 0).fStore)⟩ : Sapi_PortBound)) (b:=(⟨0,0,0,0⟩ : Sapi_PortBound)) ycG rfl rfl) ?_
  refine WL.pu rfl ?_
  exact WL.yC (y2c zFi) rfl rfl .all
 refine WL.pu rfl ?_
 refine WL.seg true 5 53 (B:=((zdY && (decide (((z11.1.length : Nat) : Int) = 2))) && (decide ((⟨((nth z11.1 0).fNode),((nth z11.1 0).fLink),((nth z11.1 0).fDelay),((nth z11.1 0).fStore)⟩ : Sapi_PortBound) = (⟨0,0,0,0⟩ : Sapi_PortBound)))) && (decide ((⟨((nth z11.1 1).fNode),((nth z11.1 1).fLink),((nth z11.1 1).fDelay),((nth z11.1 1).fStore)⟩ : Sapi_PortBound) = (⟨2,1,0,0⟩ : Sapi_PortBound)))) rfl rfl rfl rfl rfl rfl (fun h=>(y2b h).symm) (fun _ zFj=>?_) ?_
 ·skip
  have zm0:=zTa zFj
  refine WL.pu rfl ?_
  refine WL.know (fun w hw=>Hp.y2H .h3 hw (by intro hz'; have:=zm0; rw [hz'] at this; omega)) ?_
  rintro ⟨z11s,rfl⟩
  refine WL.qA 55 (yY y5f rfl rfl zm0.1 zm0.2 y3z) ?_
  refine WL.qA 56 (yQ (cs:=(e58 (nth z11.1 1))) y8r rfl rfl (y3d .h3 (y2Q (enc:=e58) (l:=z11.1) (i:=1) (sz:=4) (fun _=>rfl) zm0.1 zm0.2))) ?_
  refine WL.qA 57 (yI (v:=(.agg #[(.int .i64 2),(.int .i64 1),(.int .i64 0),(.int .i64 0)])) (Eos.parts (l:=[.const (.int .i64 2),.const (.int .i64 1)]) (.cons rfl (.cons rfl .nil)) [0,1]) (fun _=>by kernel_rfl)) ?_
  refine WL.qA 58 (y6T (enc:=e58) (a:=(⟨((nth z11.1 1).fNode),((nth z11.1 1).fLink),((nth z11.1 1).fDelay),((nth z11.1 1).fStore)⟩ : Sapi_PortBound)) (b:=(⟨2,1,0,0⟩ : Sapi_PortBound)) ycG rfl rfl) ?_
  refine WL.pu rfl ?_
  exact WL.yC (y2c zFj) rfl rfl .all
 refine WL.pu rfl (WL.nil (WX.a (WC.ret ?_)))
 obtain rfl:=Option.some.inj h
 refine WX.ye Tryz.results9 (.tmp rfl .nil) (fun w hw=>?_)
 exact ⟨(zT4 ++ zT5),yD rfl,trivial,hw.sub (.cons .h5 .nil)⟩
end Go.Proofs.YtcahmabkeaijdaaGreat

/- A part of this claim's proof: models of functions, walks, plain laws. No conditions. -/
import Derived.Test.YtjdnejbngloieaaDoorW26b
namespace Go.Proofs.YtjdnejbngloieaaDoor
open Go Go.RowKit Sep
set_option linter.all false
set_option maxRecDepth 30000
set_option maxHeartbeats 4000000
def y21 (z41 : (List Sapi_Ins) → (List Int) → Int → Int → Int → Int → Int → Int → Option Bool) : Nat → (List Sapi_Ins) → (List Int) → Int → Int → Int → Int → Int → Int → Int → Option Bool
 | 0,_,_,_,_,_,_,_,_,_=>none
 | z9f + 1,z2f,z2g,z2A,z2B,z2C,z2D,z2E,z2F,z2G=>if decide (z2A < 5) then (y1f z2f (⟨z2B,z2C,(⟨z2D,z2E,z2F,z2G⟩ : S34)⟩ : Sproc_State) z2g).bind fun z2l=>if decide (z2l.2.fKind ≠ 0) then some false else y21 z41 z9f z2f z2g (i64 (z2A + 1)) z2l.1.fPc z2l.1.fLeft z2l.1.fRegs.a0 z2l.1.fRegs.a1 z2l.1.fRegs.a2 z2l.1.fRegs.a3 else z41 z2f z2g z2B z2C z2D z2E z2F z2G
theorem y42 {n : Nat} {z41 : (List Sapi_Ins) → (List Int) → Int → Int → Int → Int → Int → Int → Option Bool} {z2f : List Sapi_Ins} {z2g : List Int} {z2A : Int} {z2B : Int} {z2C : Int} {z2D : Int} {z2E : Int} {z2F : Int} {z2G : Int} {r : Bool} (h : y21 z41 n z2f z2g z2A z2B z2C z2D z2E z2F z2G = some r) : ∃ m,n = m + 1:=by
 cases n with
 | zero=>cases h
 | succ m=>exact ⟨m,rfl⟩
def y2G  : Option Bool :=
 (yB 2 ([0,5] : List Int)).bind fun z1N=>(yB 1 ([3] : List Int)).bind fun z1O=>(yB 3 ([1,0] : List Int)).bind fun z1P=>(yB 6 ([1,16,0] : List Int)).bind fun z1Q=>(yB 19 []).bind fun z1R=>chk ((0 : Int) ≤ 32 ∧ (32 : Int) ≤ 32 ∧ (32 : Int) * 1 ≤ 140737488355328 ∧ (32 : Int) ≤ 4611686018427387904) (jp8 (fun (z1u : List Sapi_Ins) (z2h : List Int) (z1y : Int) (z1z : Int) (z1A : Int) (z1B : Int) (z1C : Int) (z1D : Int)=>if decide ((⟨z1y,z1z,(⟨z1A,z1B,z1C,z1D⟩ : S34)⟩ : Sproc_State) ≠ (⟨3,0,(⟨5,5,0,0⟩ : S34)⟩ : Sproc_State)) then some false else (y1f z1u (⟨z1y,z1z,(⟨z1A,z1B,z1C,z1D⟩ : S34)⟩ : Sproc_State) z2h).bind fun zq=>(y1f z1u zq.1 z2h).bind fun zr=>chk ((0 : Int) ≤ 0 ∧ (0 : Int) ≤ 20 ∧ 20 ≤ ((z2h.length : Nat) : Int)) ((y1f z1u (⟨z1y,z1z,(⟨z1A,z1B,z1C,z1D⟩ : S34)⟩ : Sproc_State) (z2h.take (20 : Int).toNat)).bind fun zH=>(yB 7 ([2,1,3] : List Int)).bind fun z7U=>(y1f ([z7U] : List Sapi_Ins) (⟨0,0,(⟨0,255,0,0⟩ : S34)⟩ : Sproc_State) []).bind fun zcz=>(y1a z1u 0).bind fun z2H=>(yB 21 ([0,0] : List Int)).bind fun z9g=>(y1a ([z9g] : List Sapi_Ins) 0).bind fun z7e=>(yB 22 ([0,1,2] : List Int)).bind fun z9h=>(yB 1 ([9] : List Int)).bind fun z9i=>(yB 25 []).bind fun z9j=>(y1a ([z9h,z9i,z9j] : List Sapi_Ins) 0).bind fun z6P=>(y11 zq.2 (⟨1,21,5,[]⟩ : Sproc_Act)).bind fun zcA=>(if zcA then (y11 zr.2 (⟨14,0,0,[]⟩ : Sproc_Act)).bind fun zcB=>some zcB else some false).bind fun z9k=>(if z9k then (y11 zH.2 (⟨15,2,0,[]⟩ : Sproc_Act)).bind fun zcC=>some zcC else some false).bind fun z9l=>(if z9l then (y11 zcz.2 (⟨2,2,0,([255,0,1] : List Int)⟩ : Sproc_Act)).bind fun zcD=>some zcD else some false).bind fun z4R=>some (((((z4R && (decide (z2H.1 = 7))) && z2H.2) && (!z7e.2)) && (decide (z6P.1 = 11))) && z6P.2))) fun z41=>y21 z41 y1o ([z1N,z1O,z1P,z1Q,z1R] : List Sapi_Ins) (List.replicate (32 : Int).toNat (0 : Int)) 0 0 0 0 0 0 0)
set_option maxRecDepth 20000 in
theorem y5F (Z : Zp)  (r : Bool)
  (h : y2G = some r) (w₀ : World) (hz : PZ [] w₀ Z)
  (hG0 : ZC Z ⟨0,0,none⟩ tabG0)
  (hG1 : ZS Z 1 (p74 Z) (some ⟨1,0,none⟩) 26 yP) :
  Calls Tryd.prog 9 #[] w₀ fun e w'=>∃ Zn : Zp,e = .returned (.bool r) ∧ True ∧ Hp [] w₀ w' [fz Zn]:=by
 unfold y2G at h
 refine Calls.y9 (vs:=[]) (pre:=[]) (env:=[]) Tryd.func9 rfl Tryd.ntmps9 rfl (Hp.nil w₀ _) rfl ?_
 refine WC.pool (WC.b (WC.a (WL.pu rfl (WL.nil (WX.a (WC.b ?_))))))
 obtain ⟨z1N,zkW,h⟩:=zh h
 obtain ⟨z1O,zkX,h⟩:=zh h
 obtain ⟨z1P,zkY,h⟩:=zh h
 obtain ⟨z1Q,zkZ,h⟩:=zh h
 obtain ⟨z1R,zl0,h⟩:=zh h
 refine WC.a ?_
 refine WL.new (dd:=21) rfl rfl rfl (yp (cs:=([0,5] : List Int).flatMap e3) yC (Eos.parts (l:=[.const (.int .i64 0),.const (.int .i64 5)]) (.cons rfl (.cons rfl .nil)) [0,1]) (fun _=>by kernel_rfl) rfl (by unfold maxLen; omega)) ?_
 intro z7f _
 refine WL.b (dd:=22) rfl rfl rfl (zI (l:=[.const (.int .u8 2),.tmp 21]) Tryd.call17 (.cons rfl (.cons rfl .nil))) .nil (y2c hz .nil .h1 (.cons .here .nil) fun w pz ho la=>y19 _ _ _ _ _ _ zkW w pz (ZA.row (la _ (.head _) _) (RR.yM (enc:=e3) (fun _=>rfl) _) ⟨w,pz.1⟩)) ?_
 refine WL.new (dd:=23) rfl rfl rfl (yp (cs:=([3] : List Int).flatMap e3) yC (Eos.parts (l:=[.const (.int .i64 3)]) (.cons rfl .nil) [0]) (fun _=>by kernel_rfl) rfl (by unfold maxLen; omega)) ?_
 intro z7g _
 refine WL.b (dd:=24) rfl rfl rfl (zI (l:=[.const (.int .u8 1),.tmp 23]) Tryd.call17 (.cons rfl (.cons rfl .nil))) .nil (y2c hz .nil .h2 (.cons .here .nil) fun w pz ho la=>y19 _ _ _ _ _ _ zkX w pz (ZA.row (la _ (.head _) _) (RR.yM (enc:=e3) (fun _=>rfl) _) ⟨w,pz.1⟩)) ?_
 refine WL.new (dd:=25) rfl rfl rfl (yp (cs:=([1,0] : List Int).flatMap e3) yC (Eos.parts (l:=[.const (.int .i64 1),.const (.int .i64 0)]) (.cons rfl (.cons rfl .nil)) [0,1]) (fun _=>by kernel_rfl) rfl (by unfold maxLen; omega)) ?_
 intro z7h _
 refine WL.b (dd:=26) rfl rfl rfl (zI (l:=[.const (.int .u8 3),.tmp 25]) Tryd.call17 (.cons rfl (.cons rfl .nil))) .nil (y2c hz .nil .h3 (.cons .here .nil) fun w pz ho la=>y19 _ _ _ _ _ _ zkY w pz (ZA.row (la _ (.head _) _) (RR.yM (enc:=e3) (fun _=>rfl) _) ⟨w,pz.1⟩)) ?_
 refine WL.new (dd:=27) rfl rfl rfl (yp (cs:=([1,16,0] : List Int).flatMap e3) yC (Eos.parts (l:=[.const (.int .i64 1),.const (.int .i64 16),.const (.int .i64 0)]) (.cons rfl (.cons rfl (.cons rfl .nil))) [0,1,2]) (fun _=>by kernel_rfl) rfl (by unfold maxLen; omega)) ?_
 intro z7i _
 refine WL.b (dd:=28) rfl rfl rfl (zI (l:=[.const (.int .u8 6),.tmp 27]) Tryd.call17 (.cons rfl (.cons rfl .nil))) .nil (y2c hz .nil .h4 (.cons .here .nil) fun w pz ho la=>y19 _ _ _ _ _ _ zkZ w pz (ZA.row (la _ (.head _) _) (RR.yM (enc:=e3) (fun _=>rfl) _) ⟨w,pz.1⟩)) ?_
 refine WL.b (dd:=29) rfl rfl rfl (zI (l:=[.const (.int .u8 19),.const (.slice none 0 0)]) Tryd.call17 (.cons rfl (.cons rfl .nil))) .nil (ccz hz .nil .h4 fun w pz ho=>y19 _ _ _ _ _ _ zl0 w pz (ZS.nil _ _ _)) ?_
 refine WL.new (dd:=30) rfl rfl rfl (yp (cs:=([z1N,z1O,z1P,z1Q,z1R] : List Sapi_Ins).flatMap e33) y2E (Eos.parts (l:=[.tmp 22,.tmp 24,.tmp 26,.tmp 28,.tmp 29]) (.cons rfl (.cons rfl (.cons rfl (.cons rfl (.cons rfl .nil))))) [0,1,2,3,4]) (fun _=>by kernel_rfl) rfl (by unfold maxLen; omega)) ?_
 intro z2U _
 refine WL.pu rfl (WL.nil (WX.a (WC.b ?_)))
 obtain ⟨z9m,h⟩:=ya h
 refine WC.y1n (fun i=>[3].contains i) [] rfl ?_
 refine WD.a (i:=0) (d:=31) (by kernel_rfl) rfl z7 z8 rfl rfl rfl (fun _=>yX (v:=(.agg #[(.int .i64 0),(.int .i64 0),(.int .u8 0),(.int .u8 0),(.int .u8 0),(.int .u8 0)])) (Eos.parts (l:=[]) .nil []) (fun _=>by kernel_rfl)) ?_
 refine WD.y4V (fuel':=0) (fun (b1o1_10186 : Nat) (b2o1_10186 : Nat)=>[(1,(.slice (some ⟨z2U,0,none⟩) (([z1N,z1O,z1P,z1Q,z1R] : List Sapi_Ins).length) 5)),(2,(.pointer (some ⟨b2o1_10186,0,none⟩))),(3,(.slice (some ⟨b1o1_10186,0,none⟩) ((List.replicate (32 : Int).toNat (0 : Int)).length) ((32 : Int).toNat)))]) (fun (b1o1_10186 : Nat) (b2o1_10186 : Nat)=>[stb b2o1_10186 39 [(.int .i64 0),(.int .i64 0),(.int .u8 0),(.int .u8 0),(.int .u8 0),(.int .u8 0)],row (.slice (some ⟨b1o1_10186,0,none⟩) ((List.replicate (32 : Int).toNat (0 : Int)).length) ((32 : Int).toNat)) 5 1 ((List.replicate (32 : Int).toNat (0 : Int)).flatMap e5),row (.slice (some ⟨z2U,0,none⟩) (([z1N,z1O,z1P,z1Q,z1R] : List Sapi_Ins).length) 5) 33 4 (([z1N,z1O,z1P,z1Q,z1R] : List Sapi_Ins).flatMap e33),row (.slice (some ⟨z7i,0,none⟩) (([1,16,0] : List Int).length) 3) 3 1 (([1,16,0] : List Int).flatMap e3),row (.slice (some ⟨z7h,0,none⟩) (([1,0] : List Int).length) 2) 3 1 (([1,0] : List Int).flatMap e3),row (.slice (some ⟨z7g,0,none⟩) (([3] : List Int).length) 1) 3 1 (([3] : List Int).flatMap e3),row (.slice (some ⟨z7f,0,none⟩) (([0,5] : List Int).length) 2) 3 1 (([0,5] : List Int).flatMap e3),fz []]) (fun (b1o1_10186 : Nat) (b2o1_10186 : Nat)=>True) (y1A 5 [4,3,2,1,0]) ?_ (fun K1o2o3o4_10186=>?_)
 ·skip
  rintro b1o1_10186 b2o1_10186 _
  refine WD.done (by kernel_rfl) ?_
  refine WX.a ?_
  obtain ⟨z41,zl1,h⟩:=jp8_elim h
  refine WC.y69 (fun (z1u : List Sapi_Ins) (z2h : List Int) (z1y : Int) (z1z : Int) (z1A : Int) (z1B : Int) (z1C : Int) (z1D : Int) (z1v : Zp) (z25 : Option Addr) (z26 : Nat) (z7j : Option Addr) (z7k : Nat)=>(z41 z1u z2h z1y z1z z1A z1B z1C z1D = some r) ∧ (Zle (Z ++ []) (Z ++ z1v)) ∧ (ZS (Z ++ z1v) 4 (fun r x=>r = e33 x) z25 z26 z1u) ∧ (ZS (Z ++ z1v) 1 (fun r x=>r = e5 x) z7j z7k z2h)) (fun (z1u : List Sapi_Ins) (z2h : List Int) (z1y : Int) (z1z : Int) (z1A : Int) (z1B : Int) (z1C : Int) (z1D : Int) (z1v : Zp) (z25 : Option Addr) (z26 : Nat) (z7j : Option Addr) (z7k : Nat)=>[(1,(.slice z25 z1u.length z26)),(2,(.pointer (some ⟨b2o1_10186,0,none⟩))),(3,(.slice z7j z2h.length z7k))]) (fun (z1u : List Sapi_Ins) (z2h : List Int) (z1y : Int) (z1z : Int) (z1A : Int) (z1B : Int) (z1C : Int) (z1D : Int) (z1v : Zp) (z25 : Option Addr) (z26 : Nat) (z7j : Option Addr) (z7k : Nat)=>[fz z1v,stb b2o1_10186 39 [(.int .i64 z1y),(.int .i64 z1z),(.int .u8 z1A),(.int .u8 z1B),(.int .u8 z1C),(.int .u8 z1D)]]) ?_ ?_
  ·skip
   refine WC.b (WC.a (WL.pu rfl (WL.nil (WX.a (WC.block ?_)))))
   refine WC.freezeS (ls:=([z1N,z1O,z1P,z1Q,z1R] : List Sapi_Ins)) .h2 .h6 hz (RR.yM (enc:=e33) (fun _=>rfl) _) ?_
   intro zmV zl2 zl3
   refine WC.freezeS (ls:=List.replicate (32 : Int).toNat (0 : Int)) .h2 .here hz (RR.yM (enc:=e5) (fun _=>rfl) _) ?_
   intro zl4 zcE zl5
   refine WC.y6J (fun (z6Q : Nat) (z2f : List Sapi_Ins) (z2g : List Int) (z2A : Int) (z2B : Int) (z2C : Int) (z2D : Int) (z2E : Int) (z2F : Int) (z2G : Int) (z2V : Zp) (z4S : Option Addr) (z4T : Nat) (z4U : Option Addr) (z4V : Nat)=>(y21 z41 z6Q z2f z2g z2A z2B z2C z2D z2E z2F z2G = some r) ∧ (Zle (Z ++ []) (Z ++ z2V)) ∧ (ZS (Z ++ z2V) 4 (fun r x=>r = e33 x) z4S z4T z2f) ∧ (ZS (Z ++ z2V) 1 (fun r x=>r = e5 x) z4U z4V z2g)) (fun (z6Q : Nat) (z2f : List Sapi_Ins) (z2g : List Int) (z2A : Int) (z2B : Int) (z2C : Int) (z2D : Int) (z2E : Int) (z2F : Int) (z2G : Int) (z2V : Zp) (z4S : Option Addr) (z4T : Nat) (z4U : Option Addr) (z4V : Nat)=>[(1,(.slice z4S z2f.length z4T)),(2,(.pointer (some ⟨b2o1_10186,0,none⟩))),(3,(.slice z4U z2g.length z4V)),(4,(.int .i64 z2A))]) (fun (z6Q : Nat) (z2f : List Sapi_Ins) (z2g : List Int) (z2A : Int) (z2B : Int) (z2C : Int) (z2D : Int) (z2E : Int) (z2F : Int) (z2G : Int) (z2V : Zp) (z4S : Option Addr) (z4T : Nat) (z4U : Option Addr) (z4V : Nat)=>[fz z2V,stb b2o1_10186 39 [(.int .i64 z2B),(.int .i64 z2C),(.int .u8 z2D),(.int .u8 z2E),(.int .u8 z2F),(.int .u8 z2G)]]) (fun (z6Q : Nat) (z2f : List Sapi_Ins) (z2g : List Int) (z2A : Int) (z2B : Int) (z2C : Int) (z2D : Int) (z2E : Int) (z2F : Int) (z2G : Int) (z2V : Zp) (z4S : Option Addr) (z4T : Nat) (z4U : Option Addr) (z4V : Nat)=>z6Q) ⟨y1o,([z1N,z1O,z1P,z1Q,z1R] : List Sapi_Ins),(List.replicate (32 : Int).toNat (0 : Int)),0,0,0,0,0,0,0,zl4,(some ⟨z2U,0,none⟩),5,(some ⟨b1o1_10186,0,none⟩),((32 : Int).toNat)⟩ ⟨h,(zl2.trans zcE),(zl3.mono zcE),zl5⟩ (.cons rfl (.cons rfl (.cons rfl (.cons rfl .nil)))) (.cons .here (.cons .here .nil)) ?_
   rintro z6Q z2f z2g z2A z2B z2C z2D z2E z2F z2G z2V z4S z4T z4U z4V ⟨h,z7l,z9n,z9o⟩
   obtain ⟨z9f,rfl⟩:=y42 h
   rw [y21] at h
   refine WC.b (WC.b (WC.a (WL.pu rfl (WL.pu rfl (WL.nil (WX.a ?_))))))
   refine WC.cond rfl (fun z9p=>?_) (fun z9p=>?_)
   ·replace h:=yn h z9p
    refine WC.skip (WX.a (WC.b (WC.block (WC.b ?_))))
    obtain ⟨z2l,zl6,h⟩:=zh h
    refine WC.a (WL.pu rfl ?_)
    refine WL.a (d:=39) rfl rfl rfl (yT y1W rfl (yR .h1) rfl) ?_
    refine WL.pu rfl ?_
    refine WL.y3a (dd:=41) rfl rfl rfl (zI (l:=[.tmp 38,.tmp 39,.tmp 40]) Tryd.call18 (.cons rfl (.cons rfl (.cons rfl .nil)))) .nil (ccz hz .nil .here fun w pz ho=>y1z _ _ _ _ _ _ _ _ _ zl6 w pz (hG0.mono ((Zle.left _ _).trans z7l)) ((hG1.mono ((Zle.left _ _).trans z7l)).weak (fun _ _ h=>yV ((Zle.left _ _).trans z7l) h)) z9n z9o) ?_
    rintro zcF zmW zmX zmY
    refine WL.merge .here .here ?_
    refine WL.pu rfl (WL.pu rfl (WL.pu rfl ?_))
    refine WL.new (dd:=5) rfl rfl rfl (yw (cs:=[(.int .i64 0),(.int .i64 0),(.int .u8 0),(.int .u8 0),(.int .u8 0),(.int .u8 0)]) y1q rfl) ?_
    intro zmZ _
    refine WL.new (dd:=6) rfl rfl rfl (yw (cs:=[(.int .u8 0),(.int .i64 0),(.int .i64 0),(.slice none 0 0)]) y2b rfl) ?_
    intro zn0 _
    refine WL.yk rfl rfl (yu y1V rfl rfl rfl .h1 rfl rfl rfl) ?_
    refine WL.yk rfl rfl (yu y1Y rfl rfl rfl .h1 rfl rfl rfl) ?_
    refine WL.nil (WX.a (WC.b (WC.a ?_)))
    refine WL.a (d:=44) rfl rfl rfl (yT y1W rfl (yR .h1) rfl) ?_
    refine WL.yk rfl rfl (yu y1V rfl rfl rfl .h3 rfl rfl rfl) ?_
    refine WL.nil (WX.a (WC.b (WC.a ?_)))
    refine WL.a (d:=45) rfl rfl rfl (y4 y5m rfl rfl) ?_
    refine WL.a (d:=46) rfl rfl rfl (y6 yS rfl (yb .h1 rfl)) ?_
    refine WL.pu rfl (WL.nil (WX.a ?_))
    refine WC.cond rfl (fun z9q=>?_) (fun z9q=>?_)
    ·replace h:=yn h z9q
     refine WC.b (WC.a (WL.pu rfl (WL.nil (WX.a (WC.ret (WX.yD (WX.yd (WX.yd (WX.yD (WX.yd ?_))))))))))
     obtain rfl:=Option.some.inj h
     refine WX.yf Tryd.results9 (.tmp rfl .nil) (fun w hw=>?_)
     exact ⟨(z2V ++ zcF),y17 rfl,trivial,hw.sub (.cons .h3 .nil)⟩
    ·replace h:=yo h z9q
     refine WC.skip (WX.yi (WX.a (WC.a (WL.pu rfl (WL.pu rfl (WL.pu rfl (WL.nil ?_)))))))
     exact WX.round (G:=Nat × List Sapi_Ins × List Int × Int × Int × Int × Int × Int × Int × Int × Zp × Option Addr × Nat × Option Addr × Nat) ⟨z9f,z2f,z2g,(i64 (z2A + 1)),z2l.1.fPc,z2l.1.fLeft,z2l.1.fRegs.a0,z2l.1.fRegs.a1,z2l.1.fRegs.a2,z2l.1.fRegs.a3,(z2V ++ zcF),z4S,z4T,z4U,z4V⟩ ⟨h,(z7l.trans ((Zle.left _ _).trans (Zle.y5 _ _ _))),(z9n.mono ((Zle.left _ _).trans (Zle.y5 _ _ _))),(z9o.mono ((Zle.left _ _).trans (Zle.y5 _ _ _)))⟩ (Nat.lt_succ_self _) (.cons rfl (.cons rfl (.cons rfl (.cons rfl .nil)))) (.cons .h3 (.cons .here .nil))
   ·replace h:=yo h z9p
    refine WC.exit (WX.yA (WX.yA (WX.y1s ?_)))
    exact WX.mid (G:=List Sapi_Ins × List Int × Int × Int × Int × Int × Int × Int × Zp × Option Addr × Nat × Option Addr × Nat) ⟨z2f,z2g,z2B,z2C,z2D,z2E,z2F,z2G,z2V,z4S,z4T,z4U,z4V⟩ ⟨h,z7l,z9n,z9o⟩ (.cons rfl (.cons rfl (.cons rfl .nil))) (.cons .here (.cons .here .nil))
  ·rintro z1u z2h z1y z1z z1A z1B z1C z1D z1v z25 z26 z7j z7k ⟨h,z1q,z5m,z9r⟩
   replace h:=(zl1 z1u z2h z1y z1z z1A z1B z1C z1D).symm.trans h
   refine WC.b (WC.b (WC.a ?_))
   refine WL.a (d:=48) rfl rfl rfl (yT y1W rfl (yR .h1) rfl) ?_
   refine WL.a (d:=49) rfl rfl rfl (yX (v:=(.agg #[(.int .u8 5),(.int .u8 5),(.int .u8 0),(.int .u8 0)])) (Eos.parts (l:=[.const (.int .u8 5),.const (.int .u8 5)]) (.cons rfl (.cons rfl .nil)) [0,1]) (fun _=>by kernel_rfl)) ?_
   refine WL.a (d:=50) rfl rfl rfl (yX (v:=(.agg #[(.int .i64 3),(.int .i64 0),(.int .u8 5),(.int .u8 5),(.int .u8 0),(.int .u8 0)])) (Eos.parts (l:=[.const (.int .i64 3),.tmp 49]) (.cons rfl (.cons rfl .nil)) [0,2]) (fun _=>by kernel_rfl)) ?_
   refine WL.a (d:=51) rfl rfl rfl (y5Q (enc:=e39) (a:=(⟨z1y,z1z,(⟨z1A,z1B,z1C,z1D⟩ : S34)⟩ : Sproc_State)) (b:=(⟨3,0,(⟨5,5,0,0⟩ : S34)⟩ : Sproc_State)) eqT_39 rfl rfl) ?_
   refine WL.nil (WX.a ?_)
   refine WC.cond rfl (fun z9s=>?_) (fun z9s=>?_)
   ·replace h:=yn h z9s
    refine WC.b (WC.a (WL.pu rfl (WL.nil (WX.a (WC.ret (WX.yd ?_))))))
    obtain rfl:=Option.some.inj h
    refine WX.yf Tryd.results9 (.tmp rfl .nil) (fun w hw=>?_)
    exact ⟨z1v,y17 rfl,trivial,hw.sub (.cons .here .nil)⟩
   ·replace h:=yo h z9s
    refine WC.skip (WX.a (WC.b ?_))
    obtain ⟨zq,zl7,h⟩:=zh h
    refine WC.a (WL.pu rfl ?_)
    refine WL.a (d:=54) rfl rfl rfl (yT y1W rfl (yR .h1) rfl) ?_
    refine WL.pu rfl ?_
    refine WL.y3a (dd:=56) rfl rfl rfl (zI (l:=[.tmp 53,.tmp 54,.tmp 55]) Tryd.call18 (.cons rfl (.cons rfl (.cons rfl .nil)))) .nil (ccz hz .nil .here fun w pz ho=>y1z _ _ _ _ _ _ _ _ _ zl7 w pz (hG0.mono ((Zle.left _ _).trans z1q)) ((hG1.mono ((Zle.left _ _).trans z1q)).weak (fun _ _ h=>yV ((Zle.left _ _).trans z1q) h)) z5m z9r) ?_
    rintro z2b z42 z43 zl8
    refine WL.merge .here .here ?_
    refine WL.pu rfl (WL.pu rfl (WL.pu rfl ?_))
    refine WL.new (dd:=7) rfl rfl rfl (yw (cs:=[(.int .i64 0),(.int .i64 0),(.int .u8 0),(.int .u8 0),(.int .u8 0),(.int .u8 0)]) y1q rfl) ?_
    intro z44 _
    refine WL.new (dd:=8) rfl rfl rfl (yw (cs:=[(.int .u8 0),(.int .i64 0),(.int .i64 0),(.slice none 0 0)]) y2b rfl) ?_
    intro z20 _
    refine WL.yk rfl rfl (yu y1V rfl rfl rfl .h1 rfl rfl rfl) ?_
    refine WL.yk rfl rfl (yu y1Y rfl rfl rfl .h1 rfl rfl rfl) ?_
    refine WL.nil (WX.a (WC.b ?_))
    obtain ⟨zr,zl9,h⟩:=zh h
    refine WC.a (WL.pu rfl ?_)
    refine WL.a (d:=61) rfl rfl rfl (yT y1W rfl (yR .h1) rfl) ?_
    refine WL.pu rfl ?_
    refine WL.y3a (dd:=63) rfl rfl rfl (zI (l:=[.tmp 60,.tmp 61,.tmp 62]) Tryd.call18 (.cons rfl (.cons rfl (.cons rfl .nil)))) .nil (ccz hz .nil .h2 fun w pz ho=>y1z _ _ _ _ _ _ _ _ _ zl9 w pz (hG0.mono ((Zle.left _ _).trans (z1q.trans ((Zle.left _ _).trans (Zle.y5 _ _ _))))) ((hG1.mono ((Zle.left _ _).trans (z1q.trans ((Zle.left _ _).trans (Zle.y5 _ _ _))))).weak (fun _ _ h=>yV ((Zle.left _ _).trans (z1q.trans ((Zle.left _ _).trans (Zle.y5 _ _ _)))) h)) (z5m.mono ((Zle.left _ _).trans (Zle.y5 _ _ _))) (z9r.mono ((Zle.left _ _).trans (Zle.y5 _ _ _)))) ?_
    rintro z2c z45 z47 zla
    refine WL.merge .here .h2 ?_
    refine WL.pu rfl (WL.pu rfl (WL.pu rfl ?_))
    refine WL.new (dd:=9) rfl rfl rfl (yw (cs:=[(.int .i64 0),(.int .i64 0),(.int .u8 0),(.int .u8 0),(.int .u8 0),(.int .u8 0)]) y1q rfl) ?_
    intro z48 _
    refine WL.new (dd:=10) rfl rfl rfl (yw (cs:=[(.int .u8 0),(.int .i64 0),(.int .i64 0),(.slice none 0 0)]) y2b rfl) ?_
    intro z21 _
    refine WL.yk rfl rfl (yu y1V rfl rfl rfl .h1 rfl rfl rfl) ?_
    refine WL.yk rfl rfl (yu y1Y rfl rfl rfl .h1 rfl rfl rfl) ?_
    refine WL.nil (WX.a (WC.b ?_))
    obtain ⟨zlb,h⟩:=ya h
    obtain ⟨zH,z7V,h⟩:=zh h
    refine WC.y1n (fun i=>[10,11].contains i) [] rfl ?_
    refine WD.a (i:=0) (d:=67) (by kernel_rfl) rfl z7 z8 rfl rfl rfl (fun _=>q_m rfl) ?_
    refine WD.e (i:=1) (d:=68) (by kernel_rfl) rfl z7 z8 rfl rfl rfl (yT y1W rfl (yR .h5) rfl) ?_
    refine WD.a (i:=2) (d:=69) (by kernel_rfl) rfl z7 z8 rfl rfl rfl (fun _=>q_m rfl) ?_
    refine WD.zsub (j:=3) (dd:=70) (by kernel_rfl) rfl z7 z8 rfl rfl (Z:=(Z ++ ((z1v ++ z2b) ++ z2c))) (Pr:=(fun r x=>r = e5 x)) y2k rfl (z9r.mono ((Zle.left _ _).trans ((Zle.y5 _ _ _).trans ((Zle.left _ _).trans (Zle.y5 _ _ _))))) (fun _=>ixn) (fun _=>ixo rfl) rfl rfl zlb (List.drop_zero).symm ?_
    rintro z9t z9u z7W
    refine WD.y4W (fuel':=0) (fun (Zn4o1_10545 : Zp) (ao4o2_10545 : Option Addr) (cap4o3_10545 : Nat) (b8o1_10545 : Nat) (b9o1_10545 : Nat)=>[(1,(.slice z25 z1u.length z26)),(8,(.pointer (some ⟨z20,0,none⟩))),(10,(.pointer (some ⟨z21,0,none⟩))),(12,(.pointer (some ⟨b9o1_10545,0,none⟩)))]) (fun (Zn4o1_10545 : Zp) (ao4o2_10545 : Option Addr) (cap4o3_10545 : Nat) (b8o1_10545 : Nat) (b9o1_10545 : Nat)=>[stb b9o1_10545 41 [(.int .u8 zH.2.fKind),(.int .i64 zH.2.fA),(.int .i64 zH.2.fB),(.slice ao4o2_10545 zH.2.fData.length cap4o3_10545)],stb b8o1_10545 39 [(.int .i64 zH.1.fPc),(.int .i64 zH.1.fLeft),(.int .u8 zH.1.fRegs.a0),(.int .u8 zH.1.fRegs.a1),(.int .u8 zH.1.fRegs.a2),(.int .u8 zH.1.fRegs.a3)],fz (((z1v ++ z2b) ++ z2c) ++ Zn4o1_10545),stb z21 41 [(.int .u8 zr.2.fKind),(.int .i64 zr.2.fA),(.int .i64 zr.2.fB),(.slice z45 zr.2.fData.length z47)],stb z48 39 [(.int .i64 zr.1.fPc),(.int .i64 zr.1.fLeft),(.int .u8 zr.1.fRegs.a0),(.int .u8 zr.1.fRegs.a1),(.int .u8 zr.1.fRegs.a2),(.int .u8 zr.1.fRegs.a3)],stb z20 41 [(.int .u8 zq.2.fKind),(.int .i64 zq.2.fA),(.int .i64 zq.2.fB),(.slice z42 zq.2.fData.length z43)],stb z44 39 [(.int .i64 zq.1.fPc),(.int .i64 zq.1.fLeft),(.int .u8 zq.1.fRegs.a0),(.int .u8 zq.1.fRegs.a1),(.int .u8 zq.1.fRegs.a2),(.int .u8 zq.1.fRegs.a3)],stb b2o1_10186 39 [(.int .i64 z1y),(.int .i64 z1z),(.int .u8 z1A),(.int .u8 z1B),(.int .u8 z1C),(.int .u8 z1D)]]) (fun (Zn4o1_10545 : Zp) (ao4o2_10545 : Option Addr) (cap4o3_10545 : Nat) (b8o1_10545 : Nat) (b9o1_10545 : Nat)=>(ZS ((Z ++ ((z1v ++ z2b) ++ z2c)) ++ Zn4o1_10545) 1 (fun zH x=>zH = e5 x) ao4o2_10545 cap4o3_10545 zH.2.fData)) (y1A 12 [11,10,9,8,7,6,5,4,3,2,1,0]) ?_ (fun K4o5o6o7o8o9o10o11_10545=>?_)
    ·skip
     rintro Zn4o1_10545 ao4o2_10545 cap4o3_10545 b8o1_10545 b9o1_10545 hf4o4_10545
     refine WD.done (by kernel_rfl) ?_
     refine WX.a (WC.b ?_)
     obtain ⟨z7U,zlc,h⟩:=zh h
     obtain ⟨zcz,zld,h⟩:=zh h
     refine WC.a ?_
     refine WL.new (dd:=75) rfl rfl rfl (yp (cs:=([2,1,3] : List Int).flatMap e3) yC (Eos.parts (l:=[.const (.int .i64 2),.const (.int .i64 1),.const (.int .i64 3)]) (.cons rfl (.cons rfl (.cons rfl .nil))) [0,1,2]) (fun _=>by kernel_rfl) rfl (by unfold maxLen; omega)) ?_
     intro zn1 _
     refine WL.b (dd:=76) rfl rfl rfl (zI (l:=[.const (.int .u8 7),.tmp 75]) Tryd.call17 (.cons rfl (.cons rfl .nil))) .nil (y2c hz .nil .h3 (.cons .here .nil) fun w pz ho la=>y19 _ _ _ _ _ _ zlc w pz (ZA.row (la _ (.head _) _) (RR.yM (enc:=e3) (fun _=>rfl) _) ⟨w,pz.1⟩)) ?_
     refine WL.new (dd:=77) rfl rfl rfl (yp (cs:=([z7U] : List Sapi_Ins).flatMap e33) y2E (Eos.parts (l:=[.tmp 76]) (.cons rfl .nil) [0]) (fun _=>by kernel_rfl) rfl (by unfold maxLen; omega)) ?_
     intro zn2 _
     refine WL.a (d:=78) rfl rfl rfl (yX (v:=(.agg #[(.int .u8 0),(.int .u8 255),(.int .u8 0),(.int .u8 0)])) (Eos.parts (l:=[.const (.int .u8 0),.const (.int .u8 255)]) (.cons rfl (.cons rfl .nil)) [0,1]) (fun _=>by kernel_rfl)) ?_
     refine WL.a (d:=79) rfl rfl rfl (yX (v:=(.agg #[(.int .i64 0),(.int .i64 0),(.int .u8 0),(.int .u8 255),(.int .u8 0),(.int .u8 0)])) (Eos.parts (l:=[.tmp 78]) (.cons rfl .nil) [2]) (fun _=>by kernel_rfl)) ?_
     refine WL.freezeS (ls:=([z7U] : List Sapi_Ins)) .here .h3 hz (RR.yM (enc:=e33) (fun _=>rfl) _) ?_
     intro zle z2q zlf
     refine WL.y3a (dd:=80) rfl rfl rfl (zI (l:=[.tmp 77,.tmp 79,.const (.slice none 0 0)]) Tryd.call18 (.cons rfl (.cons rfl (.cons rfl .nil)))) .nil (ccz hz .nil .here fun w pz ho=>y1z _ _ _ _ _ _ _ _ _ zld w pz (hG0.mono ((Zle.left _ _).trans (z1q.trans ((Zle.left _ _).trans ((Zle.y5 _ _ _).trans ((Zle.left _ _).trans ((Zle.y5 _ _ _).trans ((Zle.left _ _).trans ((Zle.y5 _ _ _).trans z2q))))))))) ((hG1.mono ((Zle.left _ _).trans (z1q.trans ((Zle.left _ _).trans ((Zle.y5 _ _ _).trans ((Zle.left _ _).trans ((Zle.y5 _ _ _).trans ((Zle.left _ _).trans ((Zle.y5 _ _ _).trans z2q))))))))).weak (fun _ _ h=>yV ((Zle.left _ _).trans (z1q.trans ((Zle.left _ _).trans ((Zle.y5 _ _ _).trans ((Zle.left _ _).trans ((Zle.y5 _ _ _).trans ((Zle.left _ _).trans ((Zle.y5 _ _ _).trans z2q)))))))) h)) zlf (ZS.nil _ _ _)) ?_
     rintro zlg zn3 zn4 zlh
     refine WL.merge .here .here ?_
     refine WL.pu rfl (WL.pu rfl (WL.pu rfl ?_))
     refine WL.new (dd:=13) rfl rfl rfl (yw (cs:=[(.int .i64 0),(.int .i64 0),(.int .u8 0),(.int .u8 0),(.int .u8 0),(.int .u8 0)]) y1q rfl) ?_
     intro zn5 _
     refine WL.new (dd:=14) rfl rfl rfl (yw (cs:=[(.int .u8 0),(.int .i64 0),(.int .i64 0),(.slice none 0 0)]) y2b rfl) ?_
     intro zn6 _
     refine WL.yk rfl rfl (yu y1V rfl rfl rfl .h1 rfl rfl rfl) ?_
     refine WL.yk rfl rfl (yu y1Y rfl rfl rfl .h1 rfl rfl rfl) ?_
     refine WL.nil (WX.a (WC.b ?_))
     obtain ⟨z2H,zli,h⟩:=zh h
     refine WC.a (WL.pu rfl ?_)
     refine WL.b (dd:=85) rfl rfl rfl (zI (l:=[.tmp 84,.const (.int .i64 0)]) Tryd.call13 (.cons rfl (.cons rfl .nil))) .nil (ccz hz .nil .h2 fun w pz ho=>y2A _ _ _ _ _ _ zli w pz ((hG1.mono ((Zle.left _ _).trans (z1q.trans ((Zle.left _ _).trans ((Zle.y5 _ _ _).trans ((Zle.left _ _).trans ((Zle.y5 _ _ _).trans ((Zle.left _ _).trans ((Zle.y5 _ _ _).trans (z2q.trans ((Zle.left _ _).trans (Zle.y5 _ _ _)))))))))))).weak (fun _ _ h=>yV ((Zle.left _ _).trans (z1q.trans ((Zle.left _ _).trans ((Zle.y5 _ _ _).trans ((Zle.left _ _).trans ((Zle.y5 _ _ _).trans ((Zle.left _ _).trans ((Zle.y5 _ _ _).trans (z2q.trans ((Zle.left _ _).trans (Zle.y5 _ _ _))))))))))) h)) (z5m.mono ((Zle.left _ _).trans ((Zle.y5 _ _ _).trans ((Zle.left _ _).trans ((Zle.y5 _ _ _).trans ((Zle.left _ _).trans ((Zle.y5 _ _ _).trans (z2q.trans ((Zle.left _ _).trans (Zle.y5 _ _ _))))))))))) ?_
     refine WL.pu rfl (WL.pu rfl (WL.pu rfl (WL.pu rfl (WL.pu rfl (WL.nil (WX.a (WC.b ?_)))))))
     obtain ⟨z9g,zlj,h⟩:=zh h
     obtain ⟨z7e,zlk,h⟩:=zh h
     refine WC.a ?_
     refine WL.new (dd:=89) rfl rfl rfl (yp (cs:=([0,0] : List Int).flatMap e3) yC (Eos.parts (l:=[.const (.int .i64 0),.const (.int .i64 0)]) (.cons rfl (.cons rfl .nil)) [0,1]) (fun _=>by kernel_rfl) rfl (by unfold maxLen; omega)) ?_
     intro zn7 _
     refine WL.b (dd:=90) rfl rfl rfl (zI (l:=[.const (.int .u8 21),.tmp 89]) Tryd.call17 (.cons rfl (.cons rfl .nil))) .nil (y2c hz .nil .h3 (.cons .here .nil) fun w pz ho la=>y19 _ _ _ _ _ _ zlj w pz (ZA.row (la _ (.head _) _) (RR.yM (enc:=e3) (fun _=>rfl) _) ⟨w,pz.1⟩)) ?_
     refine WL.new (dd:=91) rfl rfl rfl (yp (cs:=([z9g] : List Sapi_Ins).flatMap e33) y2E (Eos.parts (l:=[.tmp 90]) (.cons rfl .nil) [0]) (fun _=>by kernel_rfl) rfl (by unfold maxLen; omega)) ?_
     intro zn8 _
     refine WL.b (dd:=92) rfl rfl rfl (zI (l:=[.tmp 91,.const (.int .i64 0)]) Tryd.call13 (.cons rfl (.cons rfl .nil))) .nil (y2c hz .nil .h4 (.cons .here .nil) fun w pz ho la=>y2A _ _ _ _ _ _ zlk w pz ((((hG1.mono ((Zle.left _ _).trans (z1q.trans ((Zle.left _ _).trans ((Zle.y5 _ _ _).trans ((Zle.left _ _).trans ((Zle.y5 _ _ _).trans ((Zle.left _ _).trans ((Zle.y5 _ _ _).trans (z2q.trans ((Zle.left _ _).trans (Zle.y5 _ _ _)))))))))))).weak (fun _ _ h=>yV ((Zle.left _ _).trans (z1q.trans ((Zle.left _ _).trans ((Zle.y5 _ _ _).trans ((Zle.left _ _).trans ((Zle.y5 _ _ _).trans ((Zle.left _ _).trans ((Zle.y5 _ _ _).trans (z2q.trans ((Zle.left _ _).trans (Zle.y5 _ _ _))))))))))) h)).mono (Zle.left _ _)).weak (fun _ _ h=>yV (Zle.left _ _) h)) (ZA.row (la _ (.head _) _) (RR.yM (enc:=e33) (fun _=>rfl) _) ⟨w,pz.1⟩)) ?_
     refine WL.pu rfl (WL.pu rfl (WL.pu rfl (WL.pu rfl (WL.pu rfl (WL.nil (WX.a (WC.b ?_)))))))
     obtain ⟨z9h,zll,h⟩:=zh h
     obtain ⟨z9i,zlm,h⟩:=zh h
     obtain ⟨z9j,zln,h⟩:=zh h
     obtain ⟨z6P,zlo,h⟩:=zh h
     refine WC.a ?_
     refine WL.new (dd:=96) rfl rfl rfl (yp (cs:=([0,1,2] : List Int).flatMap e3) yC (Eos.parts (l:=[.const (.int .i64 0),.const (.int .i64 1),.const (.int .i64 2)]) (.cons rfl (.cons rfl (.cons rfl .nil))) [0,1,2]) (fun _=>by kernel_rfl) rfl (by unfold maxLen; omega)) ?_
     intro zn9 _
     refine WL.b (dd:=97) rfl rfl rfl (zI (l:=[.const (.int .u8 22),.tmp 96]) Tryd.call17 (.cons rfl (.cons rfl .nil))) .nil (y2c hz .nil .h5 (.cons .here .nil) fun w pz ho la=>y19 _ _ _ _ _ _ zll w pz (ZA.row (la _ (.head _) _) (RR.yM (enc:=e3) (fun _=>rfl) _) ⟨w,pz.1⟩)) ?_
     refine WL.new (dd:=98) rfl rfl rfl (yp (cs:=([9] : List Int).flatMap e3) yC (Eos.parts (l:=[.const (.int .i64 9)]) (.cons rfl .nil) [0]) (fun _=>by kernel_rfl) rfl (by unfold maxLen; omega)) ?_
     intro zna _
     refine WL.b (dd:=99) rfl rfl rfl (zI (l:=[.const (.int .u8 1),.tmp 98]) Tryd.call17 (.cons rfl (.cons rfl .nil))) .nil (y2c hz .nil .h6 (.cons .here .nil) fun w pz ho la=>y19 _ _ _ _ _ _ zlm w pz (ZA.row (la _ (.head _) _) (RR.yM (enc:=e3) (fun _=>rfl) _) ⟨w,pz.1⟩)) ?_
     refine WL.b (dd:=100) rfl rfl rfl (zI (l:=[.const (.int .u8 25),.const (.slice none 0 0)]) Tryd.call17 (.cons rfl (.cons rfl .nil))) .nil (ccz hz .nil .h6 fun w pz ho=>y19 _ _ _ _ _ _ zln w pz (ZS.nil _ _ _)) ?_
     refine WL.new (dd:=101) rfl rfl rfl (yp (cs:=([z9h,z9i,z9j] : List Sapi_Ins).flatMap e33) y2E (Eos.parts (l:=[.tmp 97,.tmp 99,.tmp 100]) (.cons rfl (.cons rfl (.cons rfl .nil))) [0,1,2]) (fun _=>by kernel_rfl) rfl (by unfold maxLen; omega)) ?_
     intro znb _
     refine WL.b (dd:=102) rfl rfl rfl (zI (l:=[.tmp 101,.const (.int .i64 0)]) Tryd.call13 (.cons rfl (.cons rfl .nil))) .nil (y2c hz .nil .h7 (.cons .here .nil) fun w pz ho la=>y2A _ _ _ _ _ _ zlo w pz ((((hG1.mono ((Zle.left _ _).trans (z1q.trans ((Zle.left _ _).trans ((Zle.y5 _ _ _).trans ((Zle.left _ _).trans ((Zle.y5 _ _ _).trans ((Zle.left _ _).trans ((Zle.y5 _ _ _).trans (z2q.trans ((Zle.left _ _).trans (Zle.y5 _ _ _)))))))))))).weak (fun _ _ h=>yV ((Zle.left _ _).trans (z1q.trans ((Zle.left _ _).trans ((Zle.y5 _ _ _).trans ((Zle.left _ _).trans ((Zle.y5 _ _ _).trans ((Zle.left _ _).trans ((Zle.y5 _ _ _).trans (z2q.trans ((Zle.left _ _).trans (Zle.y5 _ _ _))))))))))) h)).mono (Zle.left _ _)).weak (fun _ _ h=>yV (Zle.left _ _) h)) (ZA.row (la _ (.head _) _) (RR.yM (enc:=e33) (fun _=>rfl) _) ⟨w,pz.1⟩)) ?_
     refine WL.pu rfl (WL.pu rfl (WL.pu rfl (WL.pu rfl (WL.pu rfl (WL.nil (WX.a (WC.b ?_)))))))
     obtain ⟨zcA,zlp,h⟩:=zh h
     obtain ⟨z9k,zcG,h⟩:=zh h
     obtain ⟨z9l,zcH,h⟩:=zh h
     obtain ⟨z4R,zcI,h⟩:=zh h
     refine WC.a ?_
     refine WL.a (d:=105) rfl rfl rfl (yT y2N rfl (yR (.there (.there (.there (.there (.there (.there .h7))))))) rfl) ?_
     refine WL.a (d:=106) rfl rfl rfl (yX (v:=(.agg #[(.int .u8 1),(.int .i64 21),(.int .i64 5),(.slice none 0 0)])) (Eos.parts (l:=[.const (.int .u8 1),.const (.int .i64 21),.const (.int .i64 5)]) (.cons rfl (.cons rfl (.cons rfl .nil))) [0,1,2]) (fun _=>by kernel_rfl)) ?_
     refine WL.b (dd:=107) rfl rfl rfl (zI (l:=[.tmp 105,.tmp 106]) Tryd.call19 (.cons rfl (.cons rfl .nil))) .nil (ccz hz .nil .h7 fun w pz ho=>y29 _ _ _ _ _ _ _ _ zlp w pz (zl8.mono ((Zle.y5 _ _ _).trans ((Zle.left _ _).trans ((Zle.y5 _ _ _).trans ((Zle.left _ _).trans ((Zle.y5 _ _ _).trans (z2q.trans ((Zle.left _ _).trans (Zle.y5 _ _ _))))))))) (ZS.nil _ _ _)) ?_
     refine WL.pu rfl ?_
     refine WL.seg true 3 108 (B:=z9k) rfl rfl rfl rfl rfl rfl (fun h=>(Option.some.inj (yo zcG h)).symm) (fun _ zlq=>?_) ?_
     ·skip
      have z7m:=yn zcG zlq
      obtain ⟨zcB,zlr,z7m⟩:=zh z7m
      replace z7m:=Option.some.inj z7m
      refine WL.a (d:=109) rfl rfl rfl (yT y2N rfl (yR (.there (.there (.there (.there .h7))))) rfl) ?_
      refine WL.a (d:=110) rfl rfl rfl (yX (v:=(.agg #[(.int .u8 14),(.int .i64 0),(.int .i64 0),(.slice none 0 0)])) (Eos.parts (l:=[.const (.int .u8 14)]) (.cons rfl .nil) [0]) (fun _=>by kernel_rfl)) ?_
      refine WL.b (dd:=111) rfl rfl rfl (zI (l:=[.tmp 109,.tmp 110]) Tryd.call19 (.cons rfl (.cons rfl .nil))) .nil (ccz hz .nil .h7 fun w pz ho=>y29 _ _ _ _ _ _ _ _ zlr w pz (zla.mono ((Zle.y5 _ _ _).trans ((Zle.left _ _).trans ((Zle.y5 _ _ _).trans (z2q.trans ((Zle.left _ _).trans (Zle.y5 _ _ _))))))) (ZS.nil _ _ _)) ?_
      refine WL.pu rfl ?_
      exact WL.yv z7m rfl rfl .all
     refine WL.pu rfl ?_
     refine WL.seg true 3 113 (B:=z9l) rfl rfl rfl rfl rfl rfl (fun h=>(Option.some.inj (yo zcH h)).symm) (fun _ zls=>?_) ?_
     ·skip
      have z7n:=yn zcH zls
      obtain ⟨zcC,zlt,z7n⟩:=zh z7n
      replace z7n:=Option.some.inj z7n
      refine WL.a (d:=114) rfl rfl rfl (yT y2N rfl (yR (.there (.there .h7))) rfl) ?_
      refine WL.a (d:=115) rfl rfl rfl (yX (v:=(.agg #[(.int .u8 15),(.int .i64 2),(.int .i64 0),(.slice none 0 0)])) (Eos.parts (l:=[.const (.int .u8 15),.const (.int .i64 2)]) (.cons rfl (.cons rfl .nil)) [0,1]) (fun _=>by kernel_rfl)) ?_
      refine WL.b (dd:=116) rfl rfl rfl (zI (l:=[.tmp 114,.tmp 115]) Tryd.call19 (.cons rfl (.cons rfl .nil))) .nil (ccz hz .nil .h7 fun w pz ho=>y29 _ _ _ _ _ _ _ _ zlt w pz (hf4o4_10545.mono ((Zle.y5 _ _ _).trans (z2q.trans ((Zle.left _ _).trans (Zle.y5 _ _ _))))) (ZS.nil _ _ _)) ?_
      refine WL.pu rfl ?_
      exact WL.yv z7n rfl rfl .all
     refine WL.pu rfl ?_
     refine WL.seg true 4 118 (B:=z4R) rfl rfl rfl rfl rfl rfl (fun h=>(Option.some.inj (yo zcI h)).symm) (fun _ zlu=>?_) ?_
     ·skip
      have z7o:=yn zcI zlu
      obtain ⟨zcD,zlv,z7o⟩:=zh z7o
      replace z7o:=Option.some.inj z7o
      refine WL.a (d:=119) rfl rfl rfl (yT y2N rfl (yR .h5) rfl) ?_
      refine WL.new (dd:=120) rfl rfl rfl (yp (cs:=([255,0,1] : List Int).flatMap e5) y2k (Eos.parts (l:=[.const (.int .u8 255),.const (.int .u8 0),.const (.int .u8 1)]) (.cons rfl (.cons rfl (.cons rfl .nil))) [0,1,2]) (fun _=>by kernel_rfl) rfl (by unfold maxLen; omega)) ?_
      intro zlw _
      refine WL.a (d:=121) rfl rfl rfl (yX (v:=(.agg #[(.int .u8 2),(.int .i64 2),(.int .i64 0),(.slice (some ⟨zlw,0,none⟩) (([255,0,1] : List Int).length) 3)])) (Eos.parts (l:=[.const (.int .u8 2),.const (.int .i64 2),.tmp 120]) (.cons rfl (.cons rfl (.cons rfl .nil))) [0,1,3]) (fun _=>by kernel_rfl)) ?_
      refine WL.b (dd:=122) rfl rfl rfl (zI (l:=[.tmp 119,.tmp 121]) Tryd.call19 (.cons rfl (.cons rfl .nil))) .nil (y2c hz .nil (.there .h7) (.cons .here .nil) fun w pz ho la=>y29 _ _ _ _ _ _ _ _ zlv w pz ((zlh.mono (Zle.y5 _ _ _)).mono (Zle.left _ _)) (ZA.row (la _ (.head _) _) (RR.yM (enc:=e5) (fun _=>rfl) _) ⟨w,pz.1⟩)) ?_
      refine WL.pu rfl ?_
      exact WL.yv z7o rfl rfl (.cons .h1 (.cons .h1 (.cons .h1 (.cons .h1 (.cons .h1 (.cons .h1 (.cons .h1 (.cons .h1 (.cons .h1 (.cons .h1 (.cons .h1 (.cons .h1 (.cons .h1 (.cons .h1 (.cons .h1 (.cons .h1 .nil))))))))))))))))
     refine WL.pu rfl ?_
     refine WL.seg true 2 124 (B:=z4R && (decide (z2H.1 = 7))) rfl rfl rfl rfl rfl rfl (fun h=>(y2W h).symm) (fun _ zlx=>?_) ?_
     ·skip
      refine WL.pu rfl (WL.pu rfl (WL.pu rfl ?_))
      exact WL.yv (y2X zlx) rfl rfl .all
     refine WL.pu rfl ?_
     refine WL.seg true 1 128 (B:=(z4R && (decide (z2H.1 = 7))) && z2H.2) rfl rfl rfl rfl rfl rfl (fun h=>(y2W h).symm) (fun _ zly=>?_) ?_
     ·skip
      refine WL.pu rfl (WL.pu rfl ?_)
      exact WL.yv (y2X zly) rfl rfl .all
     refine WL.pu rfl ?_
     refine WL.seg true 2 131 (B:=((z4R && (decide (z2H.1 = 7))) && z2H.2) && (!z7e.2)) rfl rfl rfl rfl rfl rfl (fun h=>(y2W h).symm) (fun _ zlz=>?_) ?_
     ·skip
      refine WL.pu rfl (WL.pu rfl (WL.pu rfl ?_))
      exact WL.yv (y2X zlz) rfl rfl .all
     refine WL.pu rfl ?_
     refine WL.seg true 2 135 (B:=(((z4R && (decide (z2H.1 = 7))) && z2H.2) && (!z7e.2)) && (decide (z6P.1 = 11))) rfl rfl rfl rfl rfl rfl (fun h=>(y2W h).symm) (fun _ zlA=>?_) ?_
     ·skip
      refine WL.pu rfl (WL.pu rfl (WL.pu rfl ?_))
      exact WL.yv (y2X zlA) rfl rfl .all
     refine WL.pu rfl ?_
     refine WL.seg true 1 139 (B:=((((z4R && (decide (z2H.1 = 7))) && z2H.2) && (!z7e.2)) && (decide (z6P.1 = 11))) && z6P.2) rfl rfl rfl rfl rfl rfl (fun h=>(y2W h).symm) (fun _ zlB=>?_) ?_
     ·skip
      refine WL.pu rfl (WL.pu rfl ?_)
      exact WL.yv (y2X zlB) rfl rfl .all
     refine WL.pu rfl (WL.nil (WX.a (WC.ret ?_)))
     obtain rfl:=Option.some.inj h
     refine WX.yf Tryd.results9 (.tmp rfl .nil) (fun w hw=>?_)
     exact ⟨(zle ++ zlg),y17 rfl,trivial,hw.sub (.cons .h7 .nil)⟩
    refine WD.y4W (fuel':=1) (fun (Zn4o1_10545 : Zp) (ao4o2_10545 : Option Addr) (cap4o3_10545 : Nat) (b8o1_10545 : Nat) (b9o1_10545 : Nat)=>[(1,(.slice z25 z1u.length z26)),(8,(.pointer (some ⟨z20,0,none⟩))),(10,(.pointer (some ⟨z21,0,none⟩))),(73,(.agg #[(.int .u8 zH.2.fKind),(.int .i64 zH.2.fA),(.int .i64 zH.2.fB),(.slice ao4o2_10545 zH.2.fData.length cap4o3_10545)])),(12,(.pointer (some ⟨b9o1_10545,0,none⟩)))]) (fun (Zn4o1_10545 : Zp) (ao4o2_10545 : Option Addr) (cap4o3_10545 : Nat) (b8o1_10545 : Nat) (b9o1_10545 : Nat)=>[stb b8o1_10545 39 [(.int .i64 zH.1.fPc),(.int .i64 zH.1.fLeft),(.int .u8 zH.1.fRegs.a0),(.int .u8 zH.1.fRegs.a1),(.int .u8 zH.1.fRegs.a2),(.int .u8 zH.1.fRegs.a3)],stb b9o1_10545 41 [(.int .u8 0),(.int .i64 0),(.int .i64 0),(.slice none 0 0)],fz (((z1v ++ z2b) ++ z2c) ++ Zn4o1_10545),stb z21 41 [(.int .u8 zr.2.fKind),(.int .i64 zr.2.fA),(.int .i64 zr.2.fB),(.slice z45 zr.2.fData.length z47)],stb z48 39 [(.int .i64 zr.1.fPc),(.int .i64 zr.1.fLeft),(.int .u8 zr.1.fRegs.a0),(.int .u8 zr.1.fRegs.a1),(.int .u8 zr.1.fRegs.a2),(.int .u8 zr.1.fRegs.a3)],stb z20 41 [(.int .u8 zq.2.fKind),(.int .i64 zq.2.fA),(.int .i64 zq.2.fB),(.slice z42 zq.2.fData.length z43)],stb z44 39 [(.int .i64 zq.1.fPc),(.int .i64 zq.1.fLeft),(.int .u8 zq.1.fRegs.a0),(.int .u8 zq.1.fRegs.a1),(.int .u8 zq.1.fRegs.a2),(.int .u8 zq.1.fRegs.a3)],stb b2o1_10186 39 [(.int .i64 z1y),(.int .i64 z1z),(.int .u8 z1A),(.int .u8 z1B),(.int .u8 z1C),(.int .u8 z1D)]]) (fun (Zn4o1_10545 : Zp) (ao4o2_10545 : Option Addr) (cap4o3_10545 : Nat) (b8o1_10545 : Nat) (b9o1_10545 : Nat)=>(ZS ((Z ++ ((z1v ++ z2b) ++ z2c)) ++ Zn4o1_10545) 1 (fun zH x=>zH = e5 x) ao4o2_10545 cap4o3_10545 zH.2.fData)) (y1A 12 [10,9,8,7,6,5,4,3,2,1,0]) ?_ (fun K4o5o6o7o8o9o10_10545=>?_)
    ·skip
     rintro Zn4o1_10545 ao4o2_10545 cap4o3_10545 b8o1_10545 b9o1_10545 hf4o4_10545
     refine WD.y2q (i:=11) rfl (by kernel_rfl) rfl rfl rfl (by kernel_rfl) (yu y1Y rfl rfl rfl .h1 rfl rfl rfl) ?_
     exact WD.reL (.cons .here (.cons .here (.cons .here (.cons .here (.cons .here (.cons .here (.cons .here (.cons .here .nil)))))))) (.cons rfl (.cons rfl (.cons rfl (.cons rfl .nil)))) (K4o5o6o7o8o9o10o11_10545 Zn4o1_10545 ao4o2_10545 cap4o3_10545 b8o1_10545 b9o1_10545 hf4o4_10545)
    refine WD.y4W (fuel':=2) (fun (Zn4o1_10545 : Zp) (ao4o2_10545 : Option Addr) (cap4o3_10545 : Nat) (b8o1_10545 : Nat) (b9o1_10545 : Nat)=>[(1,(.slice z25 z1u.length z26)),(8,(.pointer (some ⟨z20,0,none⟩))),(10,(.pointer (some ⟨z21,0,none⟩))),(72,(.agg #[(.int .i64 zH.1.fPc),(.int .i64 zH.1.fLeft),(.int .u8 zH.1.fRegs.a0),(.int .u8 zH.1.fRegs.a1),(.int .u8 zH.1.fRegs.a2),(.int .u8 zH.1.fRegs.a3)])),(73,(.agg #[(.int .u8 zH.2.fKind),(.int .i64 zH.2.fA),(.int .i64 zH.2.fB),(.slice ao4o2_10545 zH.2.fData.length cap4o3_10545)])),(11,(.pointer (some ⟨b8o1_10545,0,none⟩))),(12,(.pointer (some ⟨b9o1_10545,0,none⟩)))]) (fun (Zn4o1_10545 : Zp) (ao4o2_10545 : Option Addr) (cap4o3_10545 : Nat) (b8o1_10545 : Nat) (b9o1_10545 : Nat)=>[stb b9o1_10545 41 [(.int .u8 0),(.int .i64 0),(.int .i64 0),(.slice none 0 0)],stb b8o1_10545 39 [(.int .i64 0),(.int .i64 0),(.int .u8 0),(.int .u8 0),(.int .u8 0),(.int .u8 0)],fz (((z1v ++ z2b) ++ z2c) ++ Zn4o1_10545),stb z21 41 [(.int .u8 zr.2.fKind),(.int .i64 zr.2.fA),(.int .i64 zr.2.fB),(.slice z45 zr.2.fData.length z47)],stb z48 39 [(.int .i64 zr.1.fPc),(.int .i64 zr.1.fLeft),(.int .u8 zr.1.fRegs.a0),(.int .u8 zr.1.fRegs.a1),(.int .u8 zr.1.fRegs.a2),(.int .u8 zr.1.fRegs.a3)],stb z20 41 [(.int .u8 zq.2.fKind),(.int .i64 zq.2.fA),(.int .i64 zq.2.fB),(.slice z42 zq.2.fData.length z43)],stb z44 39 [(.int .i64 zq.1.fPc),(.int .i64 zq.1.fLeft),(.int .u8 zq.1.fRegs.a0),(.int .u8 zq.1.fRegs.a1),(.int .u8 zq.1.fRegs.a2),(.int .u8 zq.1.fRegs.a3)],stb b2o1_10186 39 [(.int .i64 z1y),(.int .i64 z1z),(.int .u8 z1A),(.int .u8 z1B),(.int .u8 z1C),(.int .u8 z1D)]]) (fun (Zn4o1_10545 : Zp) (ao4o2_10545 : Option Addr) (cap4o3_10545 : Nat) (b8o1_10545 : Nat) (b9o1_10545 : Nat)=>(ZS ((Z ++ ((z1v ++ z2b) ++ z2c)) ++ Zn4o1_10545) 1 (fun zH x=>zH = e5 x) ao4o2_10545 cap4o3_10545 zH.2.fData)) (y1A 12 [9,8,7,6,5,4,3,2,1,0]) ?_ (fun K4o5o6o7o8o9_10545=>?_)
    ·skip
     rintro Zn4o1_10545 ao4o2_10545 cap4o3_10545 b8o1_10545 b9o1_10545 hf4o4_10545
     refine WD.forced0 (i:=10) rfl (by kernel_rfl) rfl rfl rfl (Sin.of .nil) (yu y1V rfl rfl rfl .h1 rfl rfl rfl) ?_
     exact WD.reL (.cons .here (.cons .here (.cons .here (.cons .here (.cons .here (.cons .here (.cons .here (.cons .here .nil)))))))) (.cons rfl (.cons rfl (.cons rfl (.cons rfl (.cons rfl .nil))))) (K4o5o6o7o8o9o10_10545 Zn4o1_10545 ao4o2_10545 cap4o3_10545 b8o1_10545 b9o1_10545 hf4o4_10545)
    refine WD.y5K (fuel':=3) (fun (Zn4o1_10545 : Zp) (ao4o2_10545 : Option Addr) (cap4o3_10545 : Nat) (b8o1_10545 : Nat)=>[(1,(.slice z25 z1u.length z26)),(8,(.pointer (some ⟨z20,0,none⟩))),(10,(.pointer (some ⟨z21,0,none⟩))),(72,(.agg #[(.int .i64 zH.1.fPc),(.int .i64 zH.1.fLeft),(.int .u8 zH.1.fRegs.a0),(.int .u8 zH.1.fRegs.a1),(.int .u8 zH.1.fRegs.a2),(.int .u8 zH.1.fRegs.a3)])),(73,(.agg #[(.int .u8 zH.2.fKind),(.int .i64 zH.2.fA),(.int .i64 zH.2.fB),(.slice ao4o2_10545 zH.2.fData.length cap4o3_10545)])),(11,(.pointer (some ⟨b8o1_10545,0,none⟩)))]) (fun (Zn4o1_10545 : Zp) (ao4o2_10545 : Option Addr) (cap4o3_10545 : Nat) (b8o1_10545 : Nat)=>[stb b8o1_10545 39 [(.int .i64 0),(.int .i64 0),(.int .u8 0),(.int .u8 0),(.int .u8 0),(.int .u8 0)],fz (((z1v ++ z2b) ++ z2c) ++ Zn4o1_10545),stb z21 41 [(.int .u8 zr.2.fKind),(.int .i64 zr.2.fA),(.int .i64 zr.2.fB),(.slice z45 zr.2.fData.length z47)],stb z48 39 [(.int .i64 zr.1.fPc),(.int .i64 zr.1.fLeft),(.int .u8 zr.1.fRegs.a0),(.int .u8 zr.1.fRegs.a1),(.int .u8 zr.1.fRegs.a2),(.int .u8 zr.1.fRegs.a3)],stb z20 41 [(.int .u8 zq.2.fKind),(.int .i64 zq.2.fA),(.int .i64 zq.2.fB),(.slice z42 zq.2.fData.length z43)],stb z44 39 [(.int .i64 zq.1.fPc),(.int .i64 zq.1.fLeft),(.int .u8 zq.1.fRegs.a0),(.int .u8 zq.1.fRegs.a1),(.int .u8 zq.1.fRegs.a2),(.int .u8 zq.1.fRegs.a3)],stb b2o1_10186 39 [(.int .i64 z1y),(.int .i64 z1z),(.int .u8 z1A),(.int .u8 z1B),(.int .u8 z1C),(.int .u8 z1D)]]) (fun (Zn4o1_10545 : Zp) (ao4o2_10545 : Option Addr) (cap4o3_10545 : Nat) (b8o1_10545 : Nat)=>(ZS ((Z ++ ((z1v ++ z2b) ++ z2c)) ++ Zn4o1_10545) 1 (fun zH x=>zH = e5 x) ao4o2_10545 cap4o3_10545 zH.2.fData)) (y1A 12 [8,7,6,5,4,3,2,1,0]) ?_ (fun K4o5o6o7o8_10545=>?_)
    ·skip
     rintro Zn4o1_10545 ao4o2_10545 cap4o3_10545 b8o1_10545 hf4o4_10545
     refine WD.new (i:=9) (dd:=12) rfl (by kernel_rfl) rfl rfl rfl (yw (cs:=[(.int .u8 0),(.int .i64 0),(.int .i64 0),(.slice none 0 0)]) y2b rfl) (fun h'=>absurd h' (by decide)) ?_
     intro b9o1_10545 _
     exact WD.reL (.cons .here (.cons .here (.cons .here (.cons .here (.cons .here (.cons .here (.cons .here (.cons .here .nil)))))))) (.cons rfl (.cons rfl (.cons rfl (.cons rfl (.cons rfl (.cons rfl (.cons rfl .nil))))))) (K4o5o6o7o8o9_10545 Zn4o1_10545 ao4o2_10545 cap4o3_10545 b8o1_10545 b9o1_10545 hf4o4_10545)
    refine WD.y5K (fuel':=3) (fun (Zn4o1_10545 : Zp) (ao4o2_10545 : Option Addr) (cap4o3_10545 : Nat) (b9o1_10545 : Nat)=>[(1,(.slice z25 z1u.length z26)),(8,(.pointer (some ⟨z20,0,none⟩))),(10,(.pointer (some ⟨z21,0,none⟩))),(72,(.agg #[(.int .i64 zH.1.fPc),(.int .i64 zH.1.fLeft),(.int .u8 zH.1.fRegs.a0),(.int .u8 zH.1.fRegs.a1),(.int .u8 zH.1.fRegs.a2),(.int .u8 zH.1.fRegs.a3)])),(73,(.agg #[(.int .u8 zH.2.fKind),(.int .i64 zH.2.fA),(.int .i64 zH.2.fB),(.slice ao4o2_10545 zH.2.fData.length cap4o3_10545)])),(12,(.pointer (some ⟨b9o1_10545,0,none⟩)))]) (fun (Zn4o1_10545 : Zp) (ao4o2_10545 : Option Addr) (cap4o3_10545 : Nat) (b9o1_10545 : Nat)=>[stb b9o1_10545 41 [(.int .u8 0),(.int .i64 0),(.int .i64 0),(.slice none 0 0)],fz (((z1v ++ z2b) ++ z2c) ++ Zn4o1_10545),stb z21 41 [(.int .u8 zr.2.fKind),(.int .i64 zr.2.fA),(.int .i64 zr.2.fB),(.slice z45 zr.2.fData.length z47)],stb z48 39 [(.int .i64 zr.1.fPc),(.int .i64 zr.1.fLeft),(.int .u8 zr.1.fRegs.a0),(.int .u8 zr.1.fRegs.a1),(.int .u8 zr.1.fRegs.a2),(.int .u8 zr.1.fRegs.a3)],stb z20 41 [(.int .u8 zq.2.fKind),(.int .i64 zq.2.fA),(.int .i64 zq.2.fB),(.slice z42 zq.2.fData.length z43)],stb z44 39 [(.int .i64 zq.1.fPc),(.int .i64 zq.1.fLeft),(.int .u8 zq.1.fRegs.a0),(.int .u8 zq.1.fRegs.a1),(.int .u8 zq.1.fRegs.a2),(.int .u8 zq.1.fRegs.a3)],stb b2o1_10186 39 [(.int .i64 z1y),(.int .i64 z1z),(.int .u8 z1A),(.int .u8 z1B),(.int .u8 z1C),(.int .u8 z1D)]]) (fun (Zn4o1_10545 : Zp) (ao4o2_10545 : Option Addr) (cap4o3_10545 : Nat) (b9o1_10545 : Nat)=>(ZS ((Z ++ ((z1v ++ z2b) ++ z2c)) ++ Zn4o1_10545) 1 (fun zH x=>zH = e5 x) ao4o2_10545 cap4o3_10545 zH.2.fData)) (y1A 12 [9,7,6,5,4,3,2,1,0]) ?_ (fun K4o5o6o7o9_10545=>?_)
    ·skip
     rintro Zn4o1_10545 ao4o2_10545 cap4o3_10545 b9o1_10545 hf4o4_10545
     refine WD.new (i:=8) (dd:=11) rfl (by kernel_rfl) rfl rfl rfl (yw (cs:=[(.int .i64 0),(.int .i64 0),(.int .u8 0),(.int .u8 0),(.int .u8 0),(.int .u8 0)]) y1q rfl) (fun h'=>absurd h' (by decide)) ?_
     intro b8o1_10545 _
     exact WD.reL (.cons .h1 (.cons .here (.cons .here (.cons .here (.cons .here (.cons .here (.cons .here (.cons .here .nil)))))))) (.cons rfl (.cons rfl (.cons rfl (.cons rfl (.cons rfl (.cons rfl (.cons rfl .nil))))))) (K4o5o6o7o8o9_10545 Zn4o1_10545 ao4o2_10545 cap4o3_10545 b8o1_10545 b9o1_10545 hf4o4_10545)
    refine WD.mids3 (fuel':=4) (fun (Zn4o1_10545 : Zp) (ao4o2_10545 : Option Addr) (cap4o3_10545 : Nat)=>[(1,(.slice z25 z1u.length z26)),(8,(.pointer (some ⟨z20,0,none⟩))),(10,(.pointer (some ⟨z21,0,none⟩))),(72,(.agg #[(.int .i64 zH.1.fPc),(.int .i64 zH.1.fLeft),(.int .u8 zH.1.fRegs.a0),(.int .u8 zH.1.fRegs.a1),(.int .u8 zH.1.fRegs.a2),(.int .u8 zH.1.fRegs.a3)])),(73,(.agg #[(.int .u8 zH.2.fKind),(.int .i64 zH.2.fA),(.int .i64 zH.2.fB),(.slice ao4o2_10545 zH.2.fData.length cap4o3_10545)]))]) (fun (Zn4o1_10545 : Zp) (ao4o2_10545 : Option Addr) (cap4o3_10545 : Nat)=>[fz (((z1v ++ z2b) ++ z2c) ++ Zn4o1_10545),stb z21 41 [(.int .u8 zr.2.fKind),(.int .i64 zr.2.fA),(.int .i64 zr.2.fB),(.slice z45 zr.2.fData.length z47)],stb z48 39 [(.int .i64 zr.1.fPc),(.int .i64 zr.1.fLeft),(.int .u8 zr.1.fRegs.a0),(.int .u8 zr.1.fRegs.a1),(.int .u8 zr.1.fRegs.a2),(.int .u8 zr.1.fRegs.a3)],stb z20 41 [(.int .u8 zq.2.fKind),(.int .i64 zq.2.fA),(.int .i64 zq.2.fB),(.slice z42 zq.2.fData.length z43)],stb z44 39 [(.int .i64 zq.1.fPc),(.int .i64 zq.1.fLeft),(.int .u8 zq.1.fRegs.a0),(.int .u8 zq.1.fRegs.a1),(.int .u8 zq.1.fRegs.a2),(.int .u8 zq.1.fRegs.a3)],stb b2o1_10186 39 [(.int .i64 z1y),(.int .i64 z1z),(.int .u8 z1A),(.int .u8 z1B),(.int .u8 z1C),(.int .u8 z1D)]]) (fun (Zn4o1_10545 : Zp) (ao4o2_10545 : Option Addr) (cap4o3_10545 : Nat)=>(ZS ((Z ++ ((z1v ++ z2b) ++ z2c)) ++ Zn4o1_10545) 1 (fun zH x=>zH = e5 x) ao4o2_10545 cap4o3_10545 zH.2.fData)) (y1A 12 [7,6,5,4,3,2,1,0]) ?_ (fun K4o5o6o7_10545=>?_)
    ·skip
     rintro Zn4o1_10545 ao4o2_10545 cap4o3_10545 hf4o4_10545
     refine WD.choose [8,9] (by kernel_rfl) rfl ?_
     refine WDo.cons ?_ (WDo.cons ?_ (WDo.nil))
     ·refine WDo.new (i:=8) (dd:=11) rfl rfl rfl rfl (yw (cs:=[(.int .i64 0),(.int .i64 0),(.int .u8 0),(.int .u8 0),(.int .u8 0),(.int .u8 0)]) y1q rfl) (fun h'=>absurd h' (by decide)) ?_
      intro b8o1_10545 _
      exact WD.reL (.cons .here (.cons .here (.cons .here (.cons .here (.cons .here (.cons .here (.cons .here .nil))))))) (.cons rfl (.cons rfl (.cons rfl (.cons rfl (.cons rfl (.cons rfl .nil)))))) (K4o5o6o7o8_10545 Zn4o1_10545 ao4o2_10545 cap4o3_10545 b8o1_10545 hf4o4_10545)
     ·refine WDo.new (i:=9) (dd:=12) rfl rfl rfl rfl (yw (cs:=[(.int .u8 0),(.int .i64 0),(.int .i64 0),(.slice none 0 0)]) y2b rfl) (fun h'=>absurd h' (by decide)) ?_
      intro b9o1_10545 _
      exact WD.reL (.cons .here (.cons .here (.cons .here (.cons .here (.cons .here (.cons .here (.cons .here .nil))))))) (.cons rfl (.cons rfl (.cons rfl (.cons rfl (.cons rfl (.cons rfl .nil)))))) (K4o5o6o7o9_10545 Zn4o1_10545 ao4o2_10545 cap4o3_10545 b9o1_10545 hf4o4_10545)
    refine WD.y4V (fuel':=6) (fun (b8o1_10545 : Nat) (b9o1_10545 : Nat)=>[(1,(.slice z25 z1u.length z26)),(8,(.pointer (some ⟨z20,0,none⟩))),(10,(.pointer (some ⟨z21,0,none⟩))),(67,(.slice z25 z1u.length z26)),(68,(.agg #[(.int .i64 z1y),(.int .i64 z1z),(.int .u8 z1A),(.int .u8 z1B),(.int .u8 z1C),(.int .u8 z1D)])),(70,(.slice z9t ((z2h.take (20 : Int).toNat).length) z9u)),(11,(.pointer (some ⟨b8o1_10545,0,none⟩))),(12,(.pointer (some ⟨b9o1_10545,0,none⟩)))]) (fun (b8o1_10545 : Nat) (b9o1_10545 : Nat)=>[stb b9o1_10545 41 [(.int .u8 0),(.int .i64 0),(.int .i64 0),(.slice none 0 0)],stb b8o1_10545 39 [(.int .i64 0),(.int .i64 0),(.int .u8 0),(.int .u8 0),(.int .u8 0),(.int .u8 0)],stb z21 41 [(.int .u8 zr.2.fKind),(.int .i64 zr.2.fA),(.int .i64 zr.2.fB),(.slice z45 zr.2.fData.length z47)],stb z48 39 [(.int .i64 zr.1.fPc),(.int .i64 zr.1.fLeft),(.int .u8 zr.1.fRegs.a0),(.int .u8 zr.1.fRegs.a1),(.int .u8 zr.1.fRegs.a2),(.int .u8 zr.1.fRegs.a3)],fz ((z1v ++ z2b) ++ z2c),stb z20 41 [(.int .u8 zq.2.fKind),(.int .i64 zq.2.fA),(.int .i64 zq.2.fB),(.slice z42 zq.2.fData.length z43)],stb z44 39 [(.int .i64 zq.1.fPc),(.int .i64 zq.1.fLeft),(.int .u8 zq.1.fRegs.a0),(.int .u8 zq.1.fRegs.a1),(.int .u8 zq.1.fRegs.a2),(.int .u8 zq.1.fRegs.a3)],stb b2o1_10186 39 [(.int .i64 z1y),(.int .i64 z1z),(.int .u8 z1A),(.int .u8 z1B),(.int .u8 z1C),(.int .u8 z1D)]]) (fun (b8o1_10545 : Nat) (b9o1_10545 : Nat)=>True) (y1A 12 [9,8,3,2,1,0]) ?_ (fun K8o9_10545=>?_)
    ·skip
     rintro b8o1_10545 b9o1_10545 _
     refine WD.call3 (i:=4) (dd:=71) rfl (by kernel_rfl) rfl rfl rfl (.inr rfl) (zI (l:=[.tmp 67,.tmp 68,.tmp 70]) Tryd.call18 (.cons rfl (.cons rfl (.cons rfl .nil)))) .nil (ccz hz .nil .h4 fun w pz ho=>y1z _ _ _ _ _ _ _ _ _ z7V w pz (hG0.mono ((Zle.left _ _).trans (z1q.trans ((Zle.left _ _).trans ((Zle.y5 _ _ _).trans ((Zle.left _ _).trans (Zle.y5 _ _ _))))))) ((hG1.mono ((Zle.left _ _).trans (z1q.trans ((Zle.left _ _).trans ((Zle.y5 _ _ _).trans ((Zle.left _ _).trans (Zle.y5 _ _ _))))))).weak (fun _ _ h=>yV ((Zle.left _ _).trans (z1q.trans ((Zle.left _ _).trans ((Zle.y5 _ _ _).trans ((Zle.left _ _).trans (Zle.y5 _ _ _)))))) h)) (z5m.mono ((Zle.left _ _).trans ((Zle.y5 _ _ _).trans ((Zle.left _ _).trans (Zle.y5 _ _ _))))) z7W) ?_
     rintro Zn4o1_10545 ao4o2_10545 cap4o3_10545 hf4o4_10545
     refine WD.merge .here .h4 ?_
     refine WD.a (i:=5) (d:=66) (by kernel_rfl) rfl z7 z8 rfl rfl rfl (fun _=>q_m rfl) ?_
     refine WD.a (i:=6) (d:=72) (by kernel_rfl) rfl z7 z8 rfl rfl rfl (fun _=>y25 rfl rfl) ?_
     refine WD.a (i:=7) (d:=73) (by kernel_rfl) rfl z7 z8 rfl rfl rfl (fun _=>y25 rfl rfl) ?_
     exact WD.reL (.cons .h1 (.cons .h1 (.cons .here (.cons .here (.cons .here (.cons .here (.cons .here (.cons .here .nil)))))))) (.cons rfl (.cons rfl (.cons rfl (.cons rfl (.cons rfl (.cons rfl (.cons rfl .nil))))))) (K4o5o6o7o8o9_10545 Zn4o1_10545 ao4o2_10545 cap4o3_10545 b8o1_10545 b9o1_10545 hf4o4_10545)
    refine WD.y3m (fuel':=7) (fun (b8o1_10545 : Nat)=>[(1,(.slice z25 z1u.length z26)),(8,(.pointer (some ⟨z20,0,none⟩))),(10,(.pointer (some ⟨z21,0,none⟩))),(67,(.slice z25 z1u.length z26)),(68,(.agg #[(.int .i64 z1y),(.int .i64 z1z),(.int .u8 z1A),(.int .u8 z1B),(.int .u8 z1C),(.int .u8 z1D)])),(70,(.slice z9t ((z2h.take (20 : Int).toNat).length) z9u)),(11,(.pointer (some ⟨b8o1_10545,0,none⟩)))]) (fun (b8o1_10545 : Nat)=>[stb b8o1_10545 39 [(.int .i64 0),(.int .i64 0),(.int .u8 0),(.int .u8 0),(.int .u8 0),(.int .u8 0)],stb z21 41 [(.int .u8 zr.2.fKind),(.int .i64 zr.2.fA),(.int .i64 zr.2.fB),(.slice z45 zr.2.fData.length z47)],stb z48 39 [(.int .i64 zr.1.fPc),(.int .i64 zr.1.fLeft),(.int .u8 zr.1.fRegs.a0),(.int .u8 zr.1.fRegs.a1),(.int .u8 zr.1.fRegs.a2),(.int .u8 zr.1.fRegs.a3)],fz ((z1v ++ z2b) ++ z2c),stb z20 41 [(.int .u8 zq.2.fKind),(.int .i64 zq.2.fA),(.int .i64 zq.2.fB),(.slice z42 zq.2.fData.length z43)],stb z44 39 [(.int .i64 zq.1.fPc),(.int .i64 zq.1.fLeft),(.int .u8 zq.1.fRegs.a0),(.int .u8 zq.1.fRegs.a1),(.int .u8 zq.1.fRegs.a2),(.int .u8 zq.1.fRegs.a3)],stb b2o1_10186 39 [(.int .i64 z1y),(.int .i64 z1z),(.int .u8 z1A),(.int .u8 z1B),(.int .u8 z1C),(.int .u8 z1D)]]) (fun (b8o1_10545 : Nat)=>True) (y1A 12 [8,3,2,1,0]) ?_ (fun K8_10545=>?_)
    ·skip
     rintro b8o1_10545 _
     refine WD.choose [4,9] (by kernel_rfl) rfl ?_
     refine WDo.cons ?_ (WDo.cons ?_ (WDo.nil))
     ·refine WDo.call3 (i:=4) (dd:=71) rfl rfl rfl rfl (.inr rfl) (zI (l:=[.tmp 67,.tmp 68,.tmp 70]) Tryd.call18 (.cons rfl (.cons rfl (.cons rfl .nil)))) .nil (ccz hz .nil .h3 fun w pz ho=>y1z _ _ _ _ _ _ _ _ _ z7V w pz (hG0.mono ((Zle.left _ _).trans (z1q.trans ((Zle.left _ _).trans ((Zle.y5 _ _ _).trans ((Zle.left _ _).trans (Zle.y5 _ _ _))))))) ((hG1.mono ((Zle.left _ _).trans (z1q.trans ((Zle.left _ _).trans ((Zle.y5 _ _ _).trans ((Zle.left _ _).trans (Zle.y5 _ _ _))))))).weak (fun _ _ h=>yV ((Zle.left _ _).trans (z1q.trans ((Zle.left _ _).trans ((Zle.y5 _ _ _).trans ((Zle.left _ _).trans (Zle.y5 _ _ _)))))) h)) (z5m.mono ((Zle.left _ _).trans ((Zle.y5 _ _ _).trans ((Zle.left _ _).trans (Zle.y5 _ _ _))))) z7W) ?_
      rintro Zn4o1_10545 ao4o2_10545 cap4o3_10545 hf4o4_10545
      refine WD.merge .here .h3 ?_
      refine WD.a (i:=5) (d:=66) (by kernel_rfl) rfl z7 z8 rfl rfl rfl (fun _=>q_m rfl) ?_
      refine WD.a (i:=6) (d:=72) (by kernel_rfl) rfl z7 z8 rfl rfl rfl (fun _=>y25 rfl rfl) ?_
      refine WD.a (i:=7) (d:=73) (by kernel_rfl) rfl z7 z8 rfl rfl rfl (fun _=>y25 rfl rfl) ?_
      exact WD.reL (.cons .h1 (.cons .here (.cons .here (.cons .here (.cons .here (.cons .here (.cons .here .nil))))))) (.cons rfl (.cons rfl (.cons rfl (.cons rfl (.cons rfl (.cons rfl .nil)))))) (K4o5o6o7o8_10545 Zn4o1_10545 ao4o2_10545 cap4o3_10545 b8o1_10545 hf4o4_10545)
     ·refine WDo.new (i:=9) (dd:=12) rfl rfl rfl rfl (yw (cs:=[(.int .u8 0),(.int .i64 0),(.int .i64 0),(.slice none 0 0)]) y2b rfl) (fun h'=>absurd h' (by decide)) ?_
      intro b9o1_10545 _
      exact WD.reL (.cons .here (.cons .here (.cons .here (.cons .here (.cons .here (.cons .here (.cons .here (.cons .here .nil)))))))) (.cons rfl (.cons rfl (.cons rfl (.cons rfl (.cons rfl (.cons rfl (.cons rfl (.cons rfl .nil)))))))) (K8o9_10545 b8o1_10545 b9o1_10545 trivial)
    refine WD.y3m (fuel':=7) (fun (b9o1_10545 : Nat)=>[(1,(.slice z25 z1u.length z26)),(8,(.pointer (some ⟨z20,0,none⟩))),(10,(.pointer (some ⟨z21,0,none⟩))),(67,(.slice z25 z1u.length z26)),(68,(.agg #[(.int .i64 z1y),(.int .i64 z1z),(.int .u8 z1A),(.int .u8 z1B),(.int .u8 z1C),(.int .u8 z1D)])),(70,(.slice z9t ((z2h.take (20 : Int).toNat).length) z9u)),(12,(.pointer (some ⟨b9o1_10545,0,none⟩)))]) (fun (b9o1_10545 : Nat)=>[stb b9o1_10545 41 [(.int .u8 0),(.int .i64 0),(.int .i64 0),(.slice none 0 0)],stb z21 41 [(.int .u8 zr.2.fKind),(.int .i64 zr.2.fA),(.int .i64 zr.2.fB),(.slice z45 zr.2.fData.length z47)],stb z48 39 [(.int .i64 zr.1.fPc),(.int .i64 zr.1.fLeft),(.int .u8 zr.1.fRegs.a0),(.int .u8 zr.1.fRegs.a1),(.int .u8 zr.1.fRegs.a2),(.int .u8 zr.1.fRegs.a3)],fz ((z1v ++ z2b) ++ z2c),stb z20 41 [(.int .u8 zq.2.fKind),(.int .i64 zq.2.fA),(.int .i64 zq.2.fB),(.slice z42 zq.2.fData.length z43)],stb z44 39 [(.int .i64 zq.1.fPc),(.int .i64 zq.1.fLeft),(.int .u8 zq.1.fRegs.a0),(.int .u8 zq.1.fRegs.a1),(.int .u8 zq.1.fRegs.a2),(.int .u8 zq.1.fRegs.a3)],stb b2o1_10186 39 [(.int .i64 z1y),(.int .i64 z1z),(.int .u8 z1A),(.int .u8 z1B),(.int .u8 z1C),(.int .u8 z1D)]]) (fun (b9o1_10545 : Nat)=>True) (y1A 12 [9,3,2,1,0]) ?_ (fun K9_10545=>?_)
    ·skip
     rintro b9o1_10545 _
     refine WD.choose [4,8] (by kernel_rfl) rfl ?_
     refine WDo.cons ?_ (WDo.cons ?_ (WDo.nil))
     ·refine WDo.call3 (i:=4) (dd:=71) rfl rfl rfl rfl (.inr rfl) (zI (l:=[.tmp 67,.tmp 68,.tmp 70]) Tryd.call18 (.cons rfl (.cons rfl (.cons rfl .nil)))) .nil (ccz hz .nil .h3 fun w pz ho=>y1z _ _ _ _ _ _ _ _ _ z7V w pz (hG0.mono ((Zle.left _ _).trans (z1q.trans ((Zle.left _ _).trans ((Zle.y5 _ _ _).trans ((Zle.left _ _).trans (Zle.y5 _ _ _))))))) ((hG1.mono ((Zle.left _ _).trans (z1q.trans ((Zle.left _ _).trans ((Zle.y5 _ _ _).trans ((Zle.left _ _).trans (Zle.y5 _ _ _))))))).weak (fun _ _ h=>yV ((Zle.left _ _).trans (z1q.trans ((Zle.left _ _).trans ((Zle.y5 _ _ _).trans ((Zle.left _ _).trans (Zle.y5 _ _ _)))))) h)) (z5m.mono ((Zle.left _ _).trans ((Zle.y5 _ _ _).trans ((Zle.left _ _).trans (Zle.y5 _ _ _))))) z7W) ?_
      rintro Zn4o1_10545 ao4o2_10545 cap4o3_10545 hf4o4_10545
      refine WD.merge .here .h3 ?_
      refine WD.a (i:=5) (d:=66) (by kernel_rfl) rfl z7 z8 rfl rfl rfl (fun _=>q_m rfl) ?_
      refine WD.a (i:=6) (d:=72) (by kernel_rfl) rfl z7 z8 rfl rfl rfl (fun _=>y25 rfl rfl) ?_
      refine WD.a (i:=7) (d:=73) (by kernel_rfl) rfl z7 z8 rfl rfl rfl (fun _=>y25 rfl rfl) ?_
      exact WD.reL (.cons .h1 (.cons .here (.cons .here (.cons .here (.cons .here (.cons .here (.cons .here .nil))))))) (.cons rfl (.cons rfl (.cons rfl (.cons rfl (.cons rfl (.cons rfl .nil)))))) (K4o5o6o7o9_10545 Zn4o1_10545 ao4o2_10545 cap4o3_10545 b9o1_10545 hf4o4_10545)
     ·refine WDo.new (i:=8) (dd:=11) rfl rfl rfl rfl (yw (cs:=[(.int .i64 0),(.int .i64 0),(.int .u8 0),(.int .u8 0),(.int .u8 0),(.int .u8 0)]) y1q rfl) (fun h'=>absurd h' (by decide)) ?_
      intro b8o1_10545 _
      exact WD.reL (.cons .h1 (.cons .here (.cons .here (.cons .here (.cons .here (.cons .here (.cons .here (.cons .here .nil)))))))) (.cons rfl (.cons rfl (.cons rfl (.cons rfl (.cons rfl (.cons rfl (.cons rfl (.cons rfl .nil)))))))) (K8o9_10545 b8o1_10545 b9o1_10545 trivial)
    refine WD.choose [4,8,9] (by kernel_rfl) rfl ?_
    refine WDo.cons ?_ (WDo.cons ?_ (WDo.cons ?_ (WDo.nil)))
    ·refine WDo.call3 (i:=4) (dd:=71) rfl rfl rfl rfl (.inr rfl) (zI (l:=[.tmp 67,.tmp 68,.tmp 70]) Tryd.call18 (.cons rfl (.cons rfl (.cons rfl .nil)))) .nil (ccz hz .nil .h2 fun w pz ho=>y1z _ _ _ _ _ _ _ _ _ z7V w pz (hG0.mono ((Zle.left _ _).trans (z1q.trans ((Zle.left _ _).trans ((Zle.y5 _ _ _).trans ((Zle.left _ _).trans (Zle.y5 _ _ _))))))) ((hG1.mono ((Zle.left _ _).trans (z1q.trans ((Zle.left _ _).trans ((Zle.y5 _ _ _).trans ((Zle.left _ _).trans (Zle.y5 _ _ _))))))).weak (fun _ _ h=>yV ((Zle.left _ _).trans (z1q.trans ((Zle.left _ _).trans ((Zle.y5 _ _ _).trans ((Zle.left _ _).trans (Zle.y5 _ _ _)))))) h)) (z5m.mono ((Zle.left _ _).trans ((Zle.y5 _ _ _).trans ((Zle.left _ _).trans (Zle.y5 _ _ _))))) z7W) ?_
     rintro Zn4o1_10545 ao4o2_10545 cap4o3_10545 hf4o4_10545
     refine WD.merge .here .h2 ?_
     refine WD.a (i:=5) (d:=66) (by kernel_rfl) rfl z7 z8 rfl rfl rfl (fun _=>q_m rfl) ?_
     refine WD.a (i:=6) (d:=72) (by kernel_rfl) rfl z7 z8 rfl rfl rfl (fun _=>y25 rfl rfl) ?_
     refine WD.a (i:=7) (d:=73) (by kernel_rfl) rfl z7 z8 rfl rfl rfl (fun _=>y25 rfl rfl) ?_
     exact WD.reL (.cons .here (.cons .here (.cons .here (.cons .here (.cons .here (.cons .here .nil)))))) (.cons rfl (.cons rfl (.cons rfl (.cons rfl (.cons rfl .nil))))) (K4o5o6o7_10545 Zn4o1_10545 ao4o2_10545 cap4o3_10545 hf4o4_10545)
    ·refine WDo.new (i:=8) (dd:=11) rfl rfl rfl rfl (yw (cs:=[(.int .i64 0),(.int .i64 0),(.int .u8 0),(.int .u8 0),(.int .u8 0),(.int .u8 0)]) y1q rfl) (fun h'=>absurd h' (by decide)) ?_
     intro b8o1_10545 _
     exact WD.reL (.cons .here (.cons .here (.cons .here (.cons .here (.cons .here (.cons .here (.cons .here .nil))))))) (.cons rfl (.cons rfl (.cons rfl (.cons rfl (.cons rfl (.cons rfl (.cons rfl .nil))))))) (K8_10545 b8o1_10545 trivial)
    ·refine WDo.new (i:=9) (dd:=12) rfl rfl rfl rfl (yw (cs:=[(.int .u8 0),(.int .i64 0),(.int .i64 0),(.slice none 0 0)]) y2b rfl) (fun h'=>absurd h' (by decide)) ?_
     intro b9o1_10545 _
     exact WD.reL (.cons .here (.cons .here (.cons .here (.cons .here (.cons .here (.cons .here (.cons .here .nil))))))) (.cons rfl (.cons rfl (.cons rfl (.cons rfl (.cons rfl (.cons rfl (.cons rfl .nil))))))) (K9_10545 b9o1_10545 trivial)
 refine WD.y4V (fuel':=2) (fun (b1o1_10186 : Nat) (b2o1_10186 : Nat)=>[(1,(.slice (some ⟨z2U,0,none⟩) (([z1N,z1O,z1P,z1Q,z1R] : List Sapi_Ins).length) 5)),(31,(.agg #[(.int .i64 0),(.int .i64 0),(.int .u8 0),(.int .u8 0),(.int .u8 0),(.int .u8 0)])),(32,(.slice (some ⟨b1o1_10186,0,none⟩) ((List.replicate (32 : Int).toNat (0 : Int)).length) ((32 : Int).toNat))),(2,(.pointer (some ⟨b2o1_10186,0,none⟩)))]) (fun (b1o1_10186 : Nat) (b2o1_10186 : Nat)=>[stb b2o1_10186 39 [(.int .i64 0),(.int .i64 0),(.int .u8 0),(.int .u8 0),(.int .u8 0),(.int .u8 0)],row (.slice (some ⟨b1o1_10186,0,none⟩) ((List.replicate (32 : Int).toNat (0 : Int)).length) ((32 : Int).toNat)) 5 1 ((List.replicate (32 : Int).toNat (0 : Int)).flatMap e5),row (.slice (some ⟨z2U,0,none⟩) (([z1N,z1O,z1P,z1Q,z1R] : List Sapi_Ins).length) 5) 33 4 (([z1N,z1O,z1P,z1Q,z1R] : List Sapi_Ins).flatMap e33),row (.slice (some ⟨z7i,0,none⟩) (([1,16,0] : List Int).length) 3) 3 1 (([1,16,0] : List Int).flatMap e3),row (.slice (some ⟨z7h,0,none⟩) (([1,0] : List Int).length) 2) 3 1 (([1,0] : List Int).flatMap e3),row (.slice (some ⟨z7g,0,none⟩) (([3] : List Int).length) 1) 3 1 (([3] : List Int).flatMap e3),row (.slice (some ⟨z7f,0,none⟩) (([0,5] : List Int).length) 2) 3 1 (([0,5] : List Int).flatMap e3),fz []]) (fun (b1o1_10186 : Nat) (b2o1_10186 : Nat)=>True) (y1A 5 [2,1,0]) ?_ (fun K1o2_10186=>?_)
 ·skip
  rintro b1o1_10186 b2o1_10186 _
  refine WD.forced0 (i:=3) rfl (by kernel_rfl) rfl rfl rfl (Sin.of .nil) (yu y1V rfl rfl rfl .here rfl rfl rfl) ?_
  refine WD.a (i:=4) (d:=3) (by kernel_rfl) rfl z7 z8 rfl rfl rfl (fun _=>q_z rfl) ?_
  exact WD.reL (.cons .here (.cons .here (.cons .here (.cons .here (.cons .here (.cons .here (.cons .here (.cons .here .nil)))))))) (.cons rfl (.cons rfl (.cons rfl .nil))) (K1o2o3o4_10186 b1o1_10186 b2o1_10186 trivial)
 refine WD.y3m (fuel':=2) (fun (b2o1_10186 : Nat)=>[(1,(.slice (some ⟨z2U,0,none⟩) (([z1N,z1O,z1P,z1Q,z1R] : List Sapi_Ins).length) 5)),(2,(.pointer (some ⟨b2o1_10186,0,none⟩)))]) (fun (b2o1_10186 : Nat)=>[stb b2o1_10186 39 [(.int .i64 0),(.int .i64 0),(.int .u8 0),(.int .u8 0),(.int .u8 0),(.int .u8 0)],row (.slice (some ⟨z2U,0,none⟩) (([z1N,z1O,z1P,z1Q,z1R] : List Sapi_Ins).length) 5) 33 4 (([z1N,z1O,z1P,z1Q,z1R] : List Sapi_Ins).flatMap e33),row (.slice (some ⟨z7i,0,none⟩) (([1,16,0] : List Int).length) 3) 3 1 (([1,16,0] : List Int).flatMap e3),row (.slice (some ⟨z7h,0,none⟩) (([1,0] : List Int).length) 2) 3 1 (([1,0] : List Int).flatMap e3),row (.slice (some ⟨z7g,0,none⟩) (([3] : List Int).length) 1) 3 1 (([3] : List Int).flatMap e3),row (.slice (some ⟨z7f,0,none⟩) (([0,5] : List Int).length) 2) 3 1 (([0,5] : List Int).flatMap e3),fz []]) (fun (b2o1_10186 : Nat)=>True) (y1A 5 [3,2,0]) ?_ (fun K2o3_10186=>?_)
 ·skip
  rintro b2o1_10186 _
  refine WD.new (i:=1) (dd:=32) rfl (by kernel_rfl) rfl rfl rfl (y39 (r:=[(.int .u8 0)]) (z0:=(0 : Int)) y2k y4Q rfl rfl rfl rfl z9m) (fun h'=>absurd h' (by decide)) ?_
  intro b1o1_10186 _
  refine WD.rowEqD .here (cs':=(List.replicate (32 : Int).toNat (0 : Int)).flatMap e5) (y4c (enc:=e5) (0 : Int) _) ?_
  refine WD.a (i:=4) (d:=3) (by kernel_rfl) rfl z7 z8 rfl rfl rfl (fun _=>q_z rfl) ?_
  exact WD.reL (.cons .h1 (.cons .here (.cons .here (.cons .here (.cons .here (.cons .here (.cons .here (.cons .here .nil)))))))) (.cons rfl (.cons rfl (.cons rfl .nil))) (K1o2o3o4_10186 b1o1_10186 b2o1_10186 trivial)
 refine WD.y3m (fuel':=3) (fun (b1o1_10186 : Nat)=>[(1,(.slice (some ⟨z2U,0,none⟩) (([z1N,z1O,z1P,z1Q,z1R] : List Sapi_Ins).length) 5)),(31,(.agg #[(.int .i64 0),(.int .i64 0),(.int .u8 0),(.int .u8 0),(.int .u8 0),(.int .u8 0)])),(32,(.slice (some ⟨b1o1_10186,0,none⟩) ((List.replicate (32 : Int).toNat (0 : Int)).length) ((32 : Int).toNat)))]) (fun (b1o1_10186 : Nat)=>[row (.slice (some ⟨b1o1_10186,0,none⟩) ((List.replicate (32 : Int).toNat (0 : Int)).length) ((32 : Int).toNat)) 5 1 ((List.replicate (32 : Int).toNat (0 : Int)).flatMap e5),row (.slice (some ⟨z2U,0,none⟩) (([z1N,z1O,z1P,z1Q,z1R] : List Sapi_Ins).length) 5) 33 4 (([z1N,z1O,z1P,z1Q,z1R] : List Sapi_Ins).flatMap e33),row (.slice (some ⟨z7i,0,none⟩) (([1,16,0] : List Int).length) 3) 3 1 (([1,16,0] : List Int).flatMap e3),row (.slice (some ⟨z7h,0,none⟩) (([1,0] : List Int).length) 2) 3 1 (([1,0] : List Int).flatMap e3),row (.slice (some ⟨z7g,0,none⟩) (([3] : List Int).length) 1) 3 1 (([3] : List Int).flatMap e3),row (.slice (some ⟨z7f,0,none⟩) (([0,5] : List Int).length) 2) 3 1 (([0,5] : List Int).flatMap e3),fz []]) (fun (b1o1_10186 : Nat)=>True) (y1A 5 [1,0]) ?_ (fun K1_10186=>?_)
 ·skip
  rintro b1o1_10186 _
  refine WD.new (i:=2) (dd:=2) rfl (by kernel_rfl) rfl rfl rfl (yw (cs:=[(.int .i64 0),(.int .i64 0),(.int .u8 0),(.int .u8 0),(.int .u8 0),(.int .u8 0)]) y1q rfl) (fun h'=>absurd h' (by decide)) ?_
  intro b2o1_10186 _
  exact WD.reL (.cons .here (.cons .here (.cons .here (.cons .here (.cons .here (.cons .here (.cons .here (.cons .here .nil)))))))) (.cons rfl (.cons rfl (.cons rfl (.cons rfl .nil)))) (K1o2_10186 b1o1_10186 b2o1_10186 trivial)
 refine WD.y3m (fuel':=3) (fun (b2o1_10186 : Nat)=>[(1,(.slice (some ⟨z2U,0,none⟩) (([z1N,z1O,z1P,z1Q,z1R] : List Sapi_Ins).length) 5)),(31,(.agg #[(.int .i64 0),(.int .i64 0),(.int .u8 0),(.int .u8 0),(.int .u8 0),(.int .u8 0)])),(2,(.pointer (some ⟨b2o1_10186,0,none⟩)))]) (fun (b2o1_10186 : Nat)=>[stb b2o1_10186 39 [(.int .i64 0),(.int .i64 0),(.int .u8 0),(.int .u8 0),(.int .u8 0),(.int .u8 0)],row (.slice (some ⟨z2U,0,none⟩) (([z1N,z1O,z1P,z1Q,z1R] : List Sapi_Ins).length) 5) 33 4 (([z1N,z1O,z1P,z1Q,z1R] : List Sapi_Ins).flatMap e33),row (.slice (some ⟨z7i,0,none⟩) (([1,16,0] : List Int).length) 3) 3 1 (([1,16,0] : List Int).flatMap e3),row (.slice (some ⟨z7h,0,none⟩) (([1,0] : List Int).length) 2) 3 1 (([1,0] : List Int).flatMap e3),row (.slice (some ⟨z7g,0,none⟩) (([3] : List Int).length) 1) 3 1 (([3] : List Int).flatMap e3),row (.slice (some ⟨z7f,0,none⟩) (([0,5] : List Int).length) 2) 3 1 (([0,5] : List Int).flatMap e3),fz []]) (fun (b2o1_10186 : Nat)=>True) (y1A 5 [2,0]) ?_ (fun K2_10186=>?_)
 ·skip
  rintro b2o1_10186 _
  refine WD.choose [1,3] (by kernel_rfl) rfl ?_
  refine WDo.cons ?_ (WDo.cons ?_ (WDo.nil))
  ·refine WDo.new (i:=1) (dd:=32) rfl rfl rfl rfl (y39 (r:=[(.int .u8 0)]) (z0:=(0 : Int)) y2k y4Q rfl rfl rfl rfl z9m) (fun h'=>absurd h' (by decide)) ?_
   intro b1o1_10186 _
   refine WD.rowEqD .here (cs':=(List.replicate (32 : Int).toNat (0 : Int)).flatMap e5) (y4c (enc:=e5) (0 : Int) _) ?_
   exact WD.reL (.cons .h1 (.cons .here (.cons .here (.cons .here (.cons .here (.cons .here (.cons .here (.cons .here .nil)))))))) (.cons rfl (.cons rfl (.cons rfl (.cons rfl .nil)))) (K1o2_10186 b1o1_10186 b2o1_10186 trivial)
  ·refine WDo.forced0 (i:=3) rfl rfl rfl rfl (Sin.of .nil) (yu y1V rfl rfl rfl .here rfl rfl rfl) ?_
   exact WD.reL (.cons .here (.cons .here (.cons .here (.cons .here (.cons .here (.cons .here (.cons .here .nil))))))) (.cons rfl (.cons rfl .nil)) (K2o3_10186 b2o1_10186 trivial)
 refine WD.choose [1,2] (by kernel_rfl) rfl ?_
 refine WDo.cons ?_ (WDo.cons ?_ (WDo.nil))
 ·refine WDo.new (i:=1) (dd:=32) rfl rfl rfl rfl (y39 (r:=[(.int .u8 0)]) (z0:=(0 : Int)) y2k y4Q rfl rfl rfl rfl z9m) (fun h'=>absurd h' (by decide)) ?_
  intro b1o1_10186 _
  refine WD.rowEqD .here (cs':=(List.replicate (32 : Int).toNat (0 : Int)).flatMap e5) (y4c (enc:=e5) (0 : Int) _) ?_
  exact WD.reL (.cons .here (.cons .here (.cons .here (.cons .here (.cons .here (.cons .here (.cons .here .nil))))))) (.cons rfl (.cons rfl (.cons rfl .nil))) (K1_10186 b1o1_10186 trivial)
 ·refine WDo.new (i:=2) (dd:=2) rfl rfl rfl rfl (yw (cs:=[(.int .i64 0),(.int .i64 0),(.int .u8 0),(.int .u8 0),(.int .u8 0),(.int .u8 0)]) y1q rfl) (fun h'=>absurd h' (by decide)) ?_
  intro b2o1_10186 _
  exact WD.reL (.cons .here (.cons .here (.cons .here (.cons .here (.cons .here (.cons .here (.cons .here .nil))))))) (.cons rfl (.cons rfl (.cons rfl .nil))) (K2_10186 b2o1_10186 trivial)
def y34 (z3a : Int) (z2m : Int) : Option Int :=
 if decide (z2m < 1) then some 0 else chk ((z2m : Int) ≠ 0) (jp1 (fun (z4W : Int)=>some z4W) fun z7X=>if decide ((Int.tmod z3a z2m) < 0) then z7X (i64 ((Int.tmod z3a z2m) + z2m)) else z7X (Int.tmod z3a z2m))
set_option maxRecDepth 20000 in
theorem y6C (Z : Zp)  (z3a : Int) (z2m : Int) (r : Int)
  (h : y34 z3a z2m = some r) (w₀ : World) (hz : PZ [] w₀ Z) :
  Calls Tryd.prog 16 #[(.int .i64 z3a),(.int .i64 z2m)] w₀ fun e w'=>e = .returned (.int .i64 r) ∧ Hp [] w₀ w' []:=by
 unfold y34 at h
 refine Calls.y9 (vs:=[(.int .i64 z3a),(.int .i64 z2m)]) (pre:=[]) (env:=[(0,(.int .i64 z3a)),(1,(.int .i64 z2m))]) Tryd.func16 rfl Tryd.ntmps16 rfl (Hp.nil w₀ _) rfl ?_
 refine WC.b (WC.a (WL.pu rfl (WL.nil (WX.a (WC.b (WC.b (WC.a (WL.pu rfl (WL.pu rfl (WL.nil (WX.a ?_)))))))))))
 refine WC.cond rfl (fun z9v=>?_) (fun z9v=>?_)
 ·replace h:=yn h z9v
  refine WC.b (WC.a (WL.pu rfl (WL.nil (WX.a (WC.ret (WX.yd ?_))))))
  obtain rfl:=Option.some.inj h
  refine WX.yf Tryd.results16 (.tmp rfl .nil) (fun w hw=>?_)
  exact ⟨y17 rfl,hw.sub .nil⟩
 ·replace h:=yo h z9v
  refine WC.skip (WX.a (WC.b ?_))
  obtain ⟨zlC,h⟩:=ya h
  refine WC.a (WL.pu rfl (WL.pu rfl ?_))
  refine WL.a (d:=9) rfl rfl rfl (q_rem rfl rfl zlC rfl) ?_
  refine WL.pu rfl (WL.nil (WX.a ?_))
  obtain ⟨z7X,zlD,h⟩:=y35 h
  refine WC.y2Z (fun (z4W : Int)=>(z7X z4W = some r)) (fun (z4W : Int)=>[(0,(.int .i64 z4W))]) (fun (z4W : Int)=>[]) ?_ ?_
  ·skip
   refine WC.b (WC.a (WL.pu rfl (WL.pu rfl (WL.nil (WX.a ?_)))))
   refine WC.cond rfl (fun z9w=>?_) (fun z9w=>?_)
   ·replace h:=yn h z9w
    refine WC.a (WL.pu rfl (WL.pu rfl (WL.pu rfl (WL.pu rfl (WL.nil ?_)))))
    exact WX.mid (G:=Int) (i64 ((Int.tmod z3a z2m) + z2m)) h (.cons rfl .nil) .nil
   ·replace h:=yo h z9w
    refine WC.skip ?_
    exact WX.mid (G:=Int) (Int.tmod z3a z2m) h (.cons rfl .nil) .nil
  ·rintro z4W h
   replace h:=(zlD z4W).symm.trans h
   refine WC.b (WC.a (WL.pu rfl (WL.pu rfl (WL.nil (WX.a (WC.ret ?_))))))
   obtain rfl:=Option.some.inj h
   refine WX.yf Tryd.results16 (.tmp rfl .nil) (fun w hw=>?_)
   exact ⟨y17 rfl,hw.sub .nil⟩
end Go.Proofs.YtjdnejbngloieaaDoor

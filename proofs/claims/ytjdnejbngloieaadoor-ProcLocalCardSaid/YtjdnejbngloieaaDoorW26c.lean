/- A part of this claim's proof: models of functions, walks, plain laws. No conditions. -/
import Derived.Test.YtjdnejbngloieaaDoorW26b
namespace Go.Proofs.YtjdnejbngloieaaDoor
open Go Go.RowKit Sep
set_option linter.all false
set_option maxRecDepth 30000
set_option maxHeartbeats 4000000
def y1Z (z41 : (List Sapi_Ins) → (List Int) → Int → Int → Int → Int → Int → Int → Option Bool) : Nat → (List Sapi_Ins) → (List Int) → Int → Int → Int → Int → Int → Int → Int → Option Bool
 | 0,_,_,_,_,_,_,_,_,_=>none
 | z99 + 1,z2i,z2j,z2C,z2D,z2E,z2F,z2G,z2H,z2I=>if decide (z2C < 5) then (y12 z2i (⟨z2D,z2E,(⟨z2F,z2G,z2H,z2I⟩ : S34)⟩ : Sproc_State) z2j).bind fun z2n=>if decide (z2n.2.fKind ≠ 0) then some false else y1Z z41 z99 z2i z2j (i64 (z2C + 1)) z2n.1.fPc z2n.1.fLeft z2n.1.fRegs.a0 z2n.1.fRegs.a1 z2n.1.fRegs.a2 z2n.1.fRegs.a3 else z41 z2i z2j z2D z2E z2F z2G z2H z2I
theorem y40 {n : Nat} {z41 : (List Sapi_Ins) → (List Int) → Int → Int → Int → Int → Int → Int → Option Bool} {z2i : List Sapi_Ins} {z2j : List Int} {z2C : Int} {z2D : Int} {z2E : Int} {z2F : Int} {z2G : Int} {z2H : Int} {z2I : Int} {r : Bool} (h : y1Z z41 n z2i z2j z2C z2D z2E z2F z2G z2H z2I = some r) : ∃ m,n = m + 1:=by
 cases n with
 | zero=>cases h
 | succ m=>exact ⟨m,rfl⟩
def y2G  : Option Bool :=
 (y11 2 ([0,5] : List Int)).bind fun z1P=>(y11 1 ([3] : List Int)).bind fun z1Q=>(y11 3 ([1,0] : List Int)).bind fun z1R=>(y11 6 ([1,16,0] : List Int)).bind fun z1S=>(y11 19 []).bind fun z1T=>chk ((0 : Int) ≤ 32 ∧ (32 : Int) ≤ 32 ∧ (32 : Int) * 1 ≤ 140737488355328 ∧ (32 : Int) ≤ 4611686018427387904) (jp8 (fun (z1w : List Sapi_Ins) (z2k : List Int) (z1A : Int) (z1B : Int) (z1C : Int) (z1D : Int) (z1E : Int) (z1F : Int)=>if decide ((⟨z1A,z1B,(⟨z1C,z1D,z1E,z1F⟩ : S34)⟩ : Sproc_State) ≠ (⟨3,0,(⟨5,5,0,0⟩ : S34)⟩ : Sproc_State)) then some false else (y12 z1w (⟨z1A,z1B,(⟨z1C,z1D,z1E,z1F⟩ : S34)⟩ : Sproc_State) z2k).bind fun zr=>(y12 z1w zr.1 z2k).bind fun zt=>chk ((0 : Int) ≤ 0 ∧ (0 : Int) ≤ 20 ∧ 20 ≤ ((z2k.length : Nat) : Int)) ((y12 z1w (⟨z1A,z1B,(⟨z1C,z1D,z1E,z1F⟩ : S34)⟩ : Sproc_State) (z2k.take (20 : Int).toNat)).bind fun zJ=>(y11 7 ([2,1,3] : List Int)).bind fun z7O=>(y12 ([z7O] : List Sapi_Ins) (⟨0,0,(⟨0,255,0,0⟩ : S34)⟩ : Sproc_State) []).bind fun zcw=>(y2b z1w 0).bind fun z2J=>(y11 21 ([0,0] : List Int)).bind fun z9a=>(y2b ([z9a] : List Sapi_Ins) 0).bind fun z77=>(y11 22 ([0,1,2] : List Int)).bind fun z9b=>(y11 1 ([9] : List Int)).bind fun z9c=>(y11 25 []).bind fun z9d=>(y2b ([z9b,z9c,z9d] : List Sapi_Ins) 0).bind fun z6J=>(yM zr.2 (⟨1,21,5,[]⟩ : Sproc_Act)).bind fun zcx=>(if zcx then (yM zt.2 (⟨14,0,0,[]⟩ : Sproc_Act)).bind fun zcy=>some zcy else some false).bind fun z9e=>(if z9e then (yM zJ.2 (⟨15,2,0,[]⟩ : Sproc_Act)).bind fun zcz=>some zcz else some false).bind fun z9f=>(if z9f then (yM zcw.2 (⟨2,2,0,([255,0,1] : List Int)⟩ : Sproc_Act)).bind fun zcA=>some zcA else some false).bind fun z4V=>some (((((z4V && (decide (z2J.1 = 7))) && z2J.2) && (!z77.2)) && (decide (z6J.1 = 11))) && z6J.2))) fun z41=>y1Z z41 y1M ([z1P,z1Q,z1R,z1S,z1T] : List Sapi_Ins) (List.replicate (32 : Int).toNat (0 : Int)) 0 0 0 0 0 0 0)
set_option maxRecDepth 20000 in
theorem y5z (Z : Zp)  (r : Bool)
  (h : y2G = some r) (w₀ : World) (hz : PZ [] w₀ Z)
  (hG0 : ZC Z ⟨0,0,none⟩ tabG0)
  (hG1 : ZS Z 1 (p74 Z) (some ⟨1,0,none⟩) 26 yX) :
  Calls Tryd.prog 9 #[] w₀ fun e w'=>∃ Zn : Zp,e = .returned (.bool r) ∧ True ∧ Hp [] w₀ w' [fz Zn]:=by
 unfold y2G at h
 refine Calls.y9 (vs:=[]) (pre:=[]) (env:=[]) Tryd.func9 rfl Tryd.ntmps9 rfl (Hp.nil w₀ _) rfl ?_
 refine WC.pool (WC.b (WC.a (WL.pu rfl (WL.nil (WX.a (WC.b ?_))))))
 obtain ⟨z1P,zkT,h⟩:=zi h
 obtain ⟨z1Q,zkU,h⟩:=zi h
 obtain ⟨z1R,zkV,h⟩:=zi h
 obtain ⟨z1S,zkW,h⟩:=zi h
 obtain ⟨z1T,zkX,h⟩:=zi h
 refine WC.a ?_
 refine WL.new (dd:=21) rfl rfl rfl (yp (cs:=([0,5] : List Int).flatMap e3) yA (Eos.parts (l:=[.const (.int .i64 0),.const (.int .i64 5)]) (.cons rfl (.cons rfl .nil)) [0,1]) (fun _=>by kernel_rfl) rfl (by unfold maxLen; omega)) ?_
 intro z78 _
 refine WL.b (dd:=22) rfl rfl rfl (zK (l:=[.const (.int .u8 2),.tmp 21]) Tryd.call17 (.cons rfl (.cons rfl .nil))) .nil (y2f hz .nil .h1 (.cons .here .nil) fun w pz ho la=>y1c _ _ _ _ _ _ zkT w pz (ZA.row (la _ (.head _) _) (RR.yI (enc:=e3) (fun _=>rfl) _) ⟨w,pz.1⟩)) ?_
 refine WL.new (dd:=23) rfl rfl rfl (yp (cs:=([3] : List Int).flatMap e3) yA (Eos.parts (l:=[.const (.int .i64 3)]) (.cons rfl .nil) [0]) (fun _=>by kernel_rfl) rfl (by unfold maxLen; omega)) ?_
 intro z79 _
 refine WL.b (dd:=24) rfl rfl rfl (zK (l:=[.const (.int .u8 1),.tmp 23]) Tryd.call17 (.cons rfl (.cons rfl .nil))) .nil (y2f hz .nil .h2 (.cons .here .nil) fun w pz ho la=>y1c _ _ _ _ _ _ zkU w pz (ZA.row (la _ (.head _) _) (RR.yI (enc:=e3) (fun _=>rfl) _) ⟨w,pz.1⟩)) ?_
 refine WL.new (dd:=25) rfl rfl rfl (yp (cs:=([1,0] : List Int).flatMap e3) yA (Eos.parts (l:=[.const (.int .i64 1),.const (.int .i64 0)]) (.cons rfl (.cons rfl .nil)) [0,1]) (fun _=>by kernel_rfl) rfl (by unfold maxLen; omega)) ?_
 intro z7a _
 refine WL.b (dd:=26) rfl rfl rfl (zK (l:=[.const (.int .u8 3),.tmp 25]) Tryd.call17 (.cons rfl (.cons rfl .nil))) .nil (y2f hz .nil .h3 (.cons .here .nil) fun w pz ho la=>y1c _ _ _ _ _ _ zkV w pz (ZA.row (la _ (.head _) _) (RR.yI (enc:=e3) (fun _=>rfl) _) ⟨w,pz.1⟩)) ?_
 refine WL.new (dd:=27) rfl rfl rfl (yp (cs:=([1,16,0] : List Int).flatMap e3) yA (Eos.parts (l:=[.const (.int .i64 1),.const (.int .i64 16),.const (.int .i64 0)]) (.cons rfl (.cons rfl (.cons rfl .nil))) [0,1,2]) (fun _=>by kernel_rfl) rfl (by unfold maxLen; omega)) ?_
 intro z7b _
 refine WL.b (dd:=28) rfl rfl rfl (zK (l:=[.const (.int .u8 6),.tmp 27]) Tryd.call17 (.cons rfl (.cons rfl .nil))) .nil (y2f hz .nil .h4 (.cons .here .nil) fun w pz ho la=>y1c _ _ _ _ _ _ zkW w pz (ZA.row (la _ (.head _) _) (RR.yI (enc:=e3) (fun _=>rfl) _) ⟨w,pz.1⟩)) ?_
 refine WL.b (dd:=29) rfl rfl rfl (zK (l:=[.const (.int .u8 19),.const (.slice none 0 0)]) Tryd.call17 (.cons rfl (.cons rfl .nil))) .nil (ccz hz .nil .h4 fun w pz ho=>y1c _ _ _ _ _ _ zkX w pz (ZS.nil _ _ _)) ?_
 refine WL.new (dd:=30) rfl rfl rfl (yp (cs:=([z1P,z1Q,z1R,z1S,z1T] : List Sapi_Ins).flatMap e33) y2E (Eos.parts (l:=[.tmp 22,.tmp 24,.tmp 26,.tmp 28,.tmp 29]) (.cons rfl (.cons rfl (.cons rfl (.cons rfl (.cons rfl .nil))))) [0,1,2,3,4]) (fun _=>by kernel_rfl) rfl (by unfold maxLen; omega)) ?_
 intro z2S _
 refine WL.pu rfl (WL.nil (WX.a (WC.b ?_)))
 obtain ⟨z9g,h⟩:=yb h
 refine WC.y1h (fun i=>[3].contains i) [] rfl ?_
 refine WD.a (i:=0) (d:=31) (by kernel_rfl) rfl z7 z8 rfl rfl rfl (fun _=>y13 (v:=(.agg #[(.int .i64 0),(.int .i64 0),(.int .u8 0),(.int .u8 0),(.int .u8 0),(.int .u8 0)])) (Eos.parts (l:=[]) .nil []) (fun _=>by kernel_rfl)) ?_
 refine WD.y4T (fuel':=0) (fun (b1o1_10186 : Nat) (b2o1_10186 : Nat)=>[(1,(.slice (some ⟨z2S,0,none⟩) (([z1P,z1Q,z1R,z1S,z1T] : List Sapi_Ins).length) 5)),(2,(.pointer (some ⟨b2o1_10186,0,none⟩))),(3,(.slice (some ⟨b1o1_10186,0,none⟩) ((List.replicate (32 : Int).toNat (0 : Int)).length) ((32 : Int).toNat)))]) (fun (b1o1_10186 : Nat) (b2o1_10186 : Nat)=>[stb b2o1_10186 39 [(.int .i64 0),(.int .i64 0),(.int .u8 0),(.int .u8 0),(.int .u8 0),(.int .u8 0)],row (.slice (some ⟨b1o1_10186,0,none⟩) ((List.replicate (32 : Int).toNat (0 : Int)).length) ((32 : Int).toNat)) 5 1 ((List.replicate (32 : Int).toNat (0 : Int)).flatMap e5),row (.slice (some ⟨z2S,0,none⟩) (([z1P,z1Q,z1R,z1S,z1T] : List Sapi_Ins).length) 5) 33 4 (([z1P,z1Q,z1R,z1S,z1T] : List Sapi_Ins).flatMap e33),row (.slice (some ⟨z7b,0,none⟩) (([1,16,0] : List Int).length) 3) 3 1 (([1,16,0] : List Int).flatMap e3),row (.slice (some ⟨z7a,0,none⟩) (([1,0] : List Int).length) 2) 3 1 (([1,0] : List Int).flatMap e3),row (.slice (some ⟨z79,0,none⟩) (([3] : List Int).length) 1) 3 1 (([3] : List Int).flatMap e3),row (.slice (some ⟨z78,0,none⟩) (([0,5] : List Int).length) 2) 3 1 (([0,5] : List Int).flatMap e3),fz []]) (fun (b1o1_10186 : Nat) (b2o1_10186 : Nat)=>True) (y1y 5 [4,3,2,1,0]) ?_ (fun K1o2o3o4_10186=>?_)
 ·skip
  rintro b1o1_10186 b2o1_10186 _
  refine WD.done (by kernel_rfl) ?_
  refine WX.a ?_
  obtain ⟨z41,zkY,h⟩:=jp8_elim h
  refine WC.y5V (fun (z1w : List Sapi_Ins) (z2k : List Int) (z1A : Int) (z1B : Int) (z1C : Int) (z1D : Int) (z1E : Int) (z1F : Int) (z1x : Zp) (z26 : Option Addr) (z27 : Nat) (z7c : Option Addr) (z7d : Nat)=>(z41 z1w z2k z1A z1B z1C z1D z1E z1F = some r) ∧ (Zle (Z ++ []) (Z ++ z1x)) ∧ (ZS (Z ++ z1x) 4 (fun r x=>r = e33 x) z26 z27 z1w) ∧ (ZS (Z ++ z1x) 1 (fun r x=>r = e5 x) z7c z7d z2k)) (fun (z1w : List Sapi_Ins) (z2k : List Int) (z1A : Int) (z1B : Int) (z1C : Int) (z1D : Int) (z1E : Int) (z1F : Int) (z1x : Zp) (z26 : Option Addr) (z27 : Nat) (z7c : Option Addr) (z7d : Nat)=>[(1,(.slice z26 z1w.length z27)),(2,(.pointer (some ⟨b2o1_10186,0,none⟩))),(3,(.slice z7c z2k.length z7d))]) (fun (z1w : List Sapi_Ins) (z2k : List Int) (z1A : Int) (z1B : Int) (z1C : Int) (z1D : Int) (z1E : Int) (z1F : Int) (z1x : Zp) (z26 : Option Addr) (z27 : Nat) (z7c : Option Addr) (z7d : Nat)=>[fz z1x,stb b2o1_10186 39 [(.int .i64 z1A),(.int .i64 z1B),(.int .u8 z1C),(.int .u8 z1D),(.int .u8 z1E),(.int .u8 z1F)]]) ?_ ?_
  ·skip
   refine WC.b (WC.a (WL.pu rfl (WL.nil (WX.a (WC.block ?_)))))
   refine WC.freezeS (ls:=([z1P,z1Q,z1R,z1S,z1T] : List Sapi_Ins)) .h2 .h6 hz (RR.yI (enc:=e33) (fun _=>rfl) _) ?_
   intro zn2 zkZ zl0
   refine WC.freezeS (ls:=List.replicate (32 : Int).toNat (0 : Int)) .h2 .here hz (RR.yI (enc:=e5) (fun _=>rfl) _) ?_
   intro zl1 zcB zl2
   refine WC.y6t (fun (z6K : Nat) (z2i : List Sapi_Ins) (z2j : List Int) (z2C : Int) (z2D : Int) (z2E : Int) (z2F : Int) (z2G : Int) (z2H : Int) (z2I : Int) (z2T : Zp) (z4W : Option Addr) (z4X : Nat) (z4Y : Option Addr) (z4Z : Nat)=>(y1Z z41 z6K z2i z2j z2C z2D z2E z2F z2G z2H z2I = some r) ∧ (Zle (Z ++ []) (Z ++ z2T)) ∧ (ZS (Z ++ z2T) 4 (fun r x=>r = e33 x) z4W z4X z2i) ∧ (ZS (Z ++ z2T) 1 (fun r x=>r = e5 x) z4Y z4Z z2j)) (fun (z6K : Nat) (z2i : List Sapi_Ins) (z2j : List Int) (z2C : Int) (z2D : Int) (z2E : Int) (z2F : Int) (z2G : Int) (z2H : Int) (z2I : Int) (z2T : Zp) (z4W : Option Addr) (z4X : Nat) (z4Y : Option Addr) (z4Z : Nat)=>[(1,(.slice z4W z2i.length z4X)),(2,(.pointer (some ⟨b2o1_10186,0,none⟩))),(3,(.slice z4Y z2j.length z4Z)),(4,(.int .i64 z2C))]) (fun (z6K : Nat) (z2i : List Sapi_Ins) (z2j : List Int) (z2C : Int) (z2D : Int) (z2E : Int) (z2F : Int) (z2G : Int) (z2H : Int) (z2I : Int) (z2T : Zp) (z4W : Option Addr) (z4X : Nat) (z4Y : Option Addr) (z4Z : Nat)=>[fz z2T,stb b2o1_10186 39 [(.int .i64 z2D),(.int .i64 z2E),(.int .u8 z2F),(.int .u8 z2G),(.int .u8 z2H),(.int .u8 z2I)]]) (fun (z6K : Nat) (z2i : List Sapi_Ins) (z2j : List Int) (z2C : Int) (z2D : Int) (z2E : Int) (z2F : Int) (z2G : Int) (z2H : Int) (z2I : Int) (z2T : Zp) (z4W : Option Addr) (z4X : Nat) (z4Y : Option Addr) (z4Z : Nat)=>z6K) ⟨y1M,([z1P,z1Q,z1R,z1S,z1T] : List Sapi_Ins),(List.replicate (32 : Int).toNat (0 : Int)),0,0,0,0,0,0,0,zl1,(some ⟨z2S,0,none⟩),5,(some ⟨b1o1_10186,0,none⟩),((32 : Int).toNat)⟩ ⟨h,(zkZ.trans zcB),(zl0.mono zcB),zl2⟩ (.cons rfl (.cons rfl (.cons rfl (.cons rfl .nil)))) (.cons .here (.cons .here .nil)) ?_
   rintro z6K z2i z2j z2C z2D z2E z2F z2G z2H z2I z2T z4W z4X z4Y z4Z ⟨h,z7e,z9h,z9i⟩
   obtain ⟨z99,rfl⟩:=y40 h
   rw [y1Z] at h
   refine WC.b (WC.b (WC.a (WL.pu rfl (WL.pu rfl (WL.nil (WX.a ?_))))))
   refine WC.cond rfl (fun z9j=>?_) (fun z9j=>?_)
   ·replace h:=ym h z9j
    refine WC.skip (WX.a (WC.b (WC.block (WC.b ?_))))
    obtain ⟨z2n,zl3,h⟩:=zi h
    refine WC.a (WL.pu rfl ?_)
    refine WL.a (d:=39) rfl rfl rfl (yJ y1p rfl (yH .h1) rfl) ?_
    refine WL.pu rfl ?_
    refine WL.y2K (dd:=41) rfl rfl rfl (zK (l:=[.tmp 38,.tmp 39,.tmp 40]) Tryd.call18 (.cons rfl (.cons rfl (.cons rfl .nil)))) .nil (ccz hz .nil .here fun w pz ho=>y1d _ _ _ _ _ _ _ _ _ zl3 w pz (hG0.mono ((Zle.left _ _).trans z7e)) ((hG1.mono ((Zle.left _ _).trans z7e)).weak (fun _ _ h=>yQ ((Zle.left _ _).trans z7e) h)) z9h z9i) ?_
    rintro zcC zn3 zn4 zn5
    refine WL.merge .here .here ?_
    refine WL.pu rfl (WL.pu rfl (WL.pu rfl ?_))
    refine WL.new (dd:=5) rfl rfl rfl (yv (cs:=[(.int .i64 0),(.int .i64 0),(.int .u8 0),(.int .u8 0),(.int .u8 0),(.int .u8 0)]) y1o rfl) ?_
    intro zn6 _
    refine WL.new (dd:=6) rfl rfl rfl (yv (cs:=[(.int .u8 0),(.int .i64 0),(.int .i64 0),(.slice none 0 0)]) y1X rfl) ?_
    intro zn7 _
    refine WL.yk rfl rfl (ys y21 rfl rfl rfl .h1 rfl rfl rfl) ?_
    refine WL.yk rfl rfl (ys y1z rfl rfl rfl .h1 rfl rfl rfl) ?_
    refine WL.nil (WX.a (WC.b (WC.a ?_)))
    refine WL.a (d:=44) rfl rfl rfl (yJ y1p rfl (yH .h1) rfl) ?_
    refine WL.yk rfl rfl (ys y21 rfl rfl rfl .h3 rfl rfl rfl) ?_
    refine WL.nil (WX.a (WC.b (WC.a ?_)))
    refine WL.a (d:=45) rfl rfl rfl (y4 y2N rfl rfl) ?_
    refine WL.a (d:=46) rfl rfl rfl (y6 yx rfl (ya .h1 rfl)) ?_
    refine WL.pu rfl (WL.nil (WX.a ?_))
    refine WC.cond rfl (fun z9k=>?_) (fun z9k=>?_)
    ·replace h:=ym h z9k
     refine WC.b (WC.a (WL.pu rfl (WL.nil (WX.a (WC.ret (WX.yK (WX.yd (WX.yd (WX.yK (WX.yd ?_))))))))))
     obtain rfl:=Option.some.inj h
     refine WX.yg Tryd.results9 (.tmp rfl .nil) (fun w hw=>?_)
     exact ⟨(z2T ++ zcC),yZ rfl,trivial,hw.sub (.cons .h3 .nil)⟩
    ·replace h:=yn h z9k
     refine WC.skip (WX.yi (WX.a (WC.a (WL.pu rfl (WL.pu rfl (WL.pu rfl (WL.nil ?_)))))))
     exact WX.round (G:=Nat × List Sapi_Ins × List Int × Int × Int × Int × Int × Int × Int × Int × Zp × Option Addr × Nat × Option Addr × Nat) ⟨z99,z2i,z2j,(i64 (z2C + 1)),z2n.1.fPc,z2n.1.fLeft,z2n.1.fRegs.a0,z2n.1.fRegs.a1,z2n.1.fRegs.a2,z2n.1.fRegs.a3,(z2T ++ zcC),z4W,z4X,z4Y,z4Z⟩ ⟨h,(z7e.trans ((Zle.left _ _).trans (Zle.y5 _ _ _))),(z9h.mono ((Zle.left _ _).trans (Zle.y5 _ _ _))),(z9i.mono ((Zle.left _ _).trans (Zle.y5 _ _ _)))⟩ (Nat.lt_succ_self _) (.cons rfl (.cons rfl (.cons rfl (.cons rfl .nil)))) (.cons .h3 (.cons .here .nil))
   ·replace h:=yn h z9j
    refine WC.exit (WX.yu (WX.yu (WX.y1b ?_)))
    exact WX.mid (G:=List Sapi_Ins × List Int × Int × Int × Int × Int × Int × Int × Zp × Option Addr × Nat × Option Addr × Nat) ⟨z2i,z2j,z2D,z2E,z2F,z2G,z2H,z2I,z2T,z4W,z4X,z4Y,z4Z⟩ ⟨h,z7e,z9h,z9i⟩ (.cons rfl (.cons rfl (.cons rfl .nil))) (.cons .here (.cons .here .nil))
  ·rintro z1w z2k z1A z1B z1C z1D z1E z1F z1x z26 z27 z7c z7d ⟨h,z1s,z5m,z9l⟩
   replace h:=(zkY z1w z2k z1A z1B z1C z1D z1E z1F).symm.trans h
   refine WC.b (WC.b (WC.a ?_))
   refine WL.a (d:=48) rfl rfl rfl (yJ y1p rfl (yH .h1) rfl) ?_
   refine WL.a (d:=49) rfl rfl rfl (y13 (v:=(.agg #[(.int .u8 5),(.int .u8 5),(.int .u8 0),(.int .u8 0)])) (Eos.parts (l:=[.const (.int .u8 5),.const (.int .u8 5)]) (.cons rfl (.cons rfl .nil)) [0,1]) (fun _=>by kernel_rfl)) ?_
   refine WL.a (d:=50) rfl rfl rfl (y13 (v:=(.agg #[(.int .i64 3),(.int .i64 0),(.int .u8 5),(.int .u8 5),(.int .u8 0),(.int .u8 0)])) (Eos.parts (l:=[.const (.int .i64 3),.tmp 49]) (.cons rfl (.cons rfl .nil)) [0,2]) (fun _=>by kernel_rfl)) ?_
   refine WL.a (d:=51) rfl rfl rfl (q_aggneq (enc:=e39) (a:=(⟨z1A,z1B,(⟨z1C,z1D,z1E,z1F⟩ : S34)⟩ : Sproc_State)) (b:=(⟨3,0,(⟨5,5,0,0⟩ : S34)⟩ : Sproc_State)) eqT_39 rfl rfl) ?_
   refine WL.nil (WX.a ?_)
   refine WC.cond rfl (fun z9m=>?_) (fun z9m=>?_)
   ·replace h:=ym h z9m
    refine WC.b (WC.a (WL.pu rfl (WL.nil (WX.a (WC.ret (WX.yd ?_))))))
    obtain rfl:=Option.some.inj h
    refine WX.yg Tryd.results9 (.tmp rfl .nil) (fun w hw=>?_)
    exact ⟨z1x,yZ rfl,trivial,hw.sub (.cons .here .nil)⟩
   ·replace h:=yn h z9m
    refine WC.skip (WX.a (WC.b ?_))
    obtain ⟨zr,zl4,h⟩:=zi h
    refine WC.a (WL.pu rfl ?_)
    refine WL.a (d:=54) rfl rfl rfl (yJ y1p rfl (yH .h1) rfl) ?_
    refine WL.pu rfl ?_
    refine WL.y2K (dd:=56) rfl rfl rfl (zK (l:=[.tmp 53,.tmp 54,.tmp 55]) Tryd.call18 (.cons rfl (.cons rfl (.cons rfl .nil)))) .nil (ccz hz .nil .here fun w pz ho=>y1d _ _ _ _ _ _ _ _ _ zl4 w pz (hG0.mono ((Zle.left _ _).trans z1s)) ((hG1.mono ((Zle.left _ _).trans z1s)).weak (fun _ _ h=>yQ ((Zle.left _ _).trans z1s) h)) z5m z9l) ?_
    rintro z2d z42 z43 zl5
    refine WL.merge .here .here ?_
    refine WL.pu rfl (WL.pu rfl (WL.pu rfl ?_))
    refine WL.new (dd:=7) rfl rfl rfl (yv (cs:=[(.int .i64 0),(.int .i64 0),(.int .u8 0),(.int .u8 0),(.int .u8 0),(.int .u8 0)]) y1o rfl) ?_
    intro z44 _
    refine WL.new (dd:=8) rfl rfl rfl (yv (cs:=[(.int .u8 0),(.int .i64 0),(.int .i64 0),(.slice none 0 0)]) y1X rfl) ?_
    intro z21 _
    refine WL.yk rfl rfl (ys y21 rfl rfl rfl .h1 rfl rfl rfl) ?_
    refine WL.yk rfl rfl (ys y1z rfl rfl rfl .h1 rfl rfl rfl) ?_
    refine WL.nil (WX.a (WC.b ?_))
    obtain ⟨zt,zl6,h⟩:=zi h
    refine WC.a (WL.pu rfl ?_)
    refine WL.a (d:=61) rfl rfl rfl (yJ y1p rfl (yH .h1) rfl) ?_
    refine WL.pu rfl ?_
    refine WL.y2K (dd:=63) rfl rfl rfl (zK (l:=[.tmp 60,.tmp 61,.tmp 62]) Tryd.call18 (.cons rfl (.cons rfl (.cons rfl .nil)))) .nil (ccz hz .nil .h2 fun w pz ho=>y1d _ _ _ _ _ _ _ _ _ zl6 w pz (hG0.mono ((Zle.left _ _).trans (z1s.trans ((Zle.left _ _).trans (Zle.y5 _ _ _))))) ((hG1.mono ((Zle.left _ _).trans (z1s.trans ((Zle.left _ _).trans (Zle.y5 _ _ _))))).weak (fun _ _ h=>yQ ((Zle.left _ _).trans (z1s.trans ((Zle.left _ _).trans (Zle.y5 _ _ _)))) h)) (z5m.mono ((Zle.left _ _).trans (Zle.y5 _ _ _))) (z9l.mono ((Zle.left _ _).trans (Zle.y5 _ _ _)))) ?_
    rintro z2e z45 z47 zl7
    refine WL.merge .here .h2 ?_
    refine WL.pu rfl (WL.pu rfl (WL.pu rfl ?_))
    refine WL.new (dd:=9) rfl rfl rfl (yv (cs:=[(.int .i64 0),(.int .i64 0),(.int .u8 0),(.int .u8 0),(.int .u8 0),(.int .u8 0)]) y1o rfl) ?_
    intro z48 _
    refine WL.new (dd:=10) rfl rfl rfl (yv (cs:=[(.int .u8 0),(.int .i64 0),(.int .i64 0),(.slice none 0 0)]) y1X rfl) ?_
    intro z22 _
    refine WL.yk rfl rfl (ys y21 rfl rfl rfl .h1 rfl rfl rfl) ?_
    refine WL.yk rfl rfl (ys y1z rfl rfl rfl .h1 rfl rfl rfl) ?_
    refine WL.nil (WX.a (WC.b ?_))
    obtain ⟨zl8,h⟩:=yb h
    obtain ⟨zJ,z7P,h⟩:=zi h
    refine WC.y1h (fun i=>[10,11].contains i) [] rfl ?_
    refine WD.a (i:=0) (d:=67) (by kernel_rfl) rfl z7 z8 rfl rfl rfl (fun _=>q_m rfl) ?_
    refine WD.e (i:=1) (d:=68) (by kernel_rfl) rfl z7 z8 rfl rfl rfl (yJ y1p rfl (yH .h5) rfl) ?_
    refine WD.a (i:=2) (d:=69) (by kernel_rfl) rfl z7 z8 rfl rfl rfl (fun _=>q_m rfl) ?_
    refine WD.zsub (j:=3) (dd:=70) (by kernel_rfl) rfl z7 z8 rfl rfl (Z:=(Z ++ ((z1x ++ z2d) ++ z2e))) (Pr:=(fun r x=>r = e5 x)) y1W rfl (z9l.mono ((Zle.left _ _).trans ((Zle.y5 _ _ _).trans ((Zle.left _ _).trans (Zle.y5 _ _ _))))) (fun _=>ixn) (fun _=>ixo rfl) rfl rfl zl8 (List.drop_zero).symm ?_
    rintro z9n z9o z7Q
    refine WD.y4U (fuel':=0) (fun (Zn4o1_10545 : Zp) (ao4o2_10545 : Option Addr) (cap4o3_10545 : Nat) (b8o1_10545 : Nat) (b9o1_10545 : Nat)=>[(1,(.slice z26 z1w.length z27)),(8,(.pointer (some ⟨z21,0,none⟩))),(10,(.pointer (some ⟨z22,0,none⟩))),(12,(.pointer (some ⟨b9o1_10545,0,none⟩)))]) (fun (Zn4o1_10545 : Zp) (ao4o2_10545 : Option Addr) (cap4o3_10545 : Nat) (b8o1_10545 : Nat) (b9o1_10545 : Nat)=>[stb b9o1_10545 41 [(.int .u8 zJ.2.fKind),(.int .i64 zJ.2.fA),(.int .i64 zJ.2.fB),(.slice ao4o2_10545 zJ.2.fData.length cap4o3_10545)],stb b8o1_10545 39 [(.int .i64 zJ.1.fPc),(.int .i64 zJ.1.fLeft),(.int .u8 zJ.1.fRegs.a0),(.int .u8 zJ.1.fRegs.a1),(.int .u8 zJ.1.fRegs.a2),(.int .u8 zJ.1.fRegs.a3)],fz (((z1x ++ z2d) ++ z2e) ++ Zn4o1_10545),stb z22 41 [(.int .u8 zt.2.fKind),(.int .i64 zt.2.fA),(.int .i64 zt.2.fB),(.slice z45 zt.2.fData.length z47)],stb z48 39 [(.int .i64 zt.1.fPc),(.int .i64 zt.1.fLeft),(.int .u8 zt.1.fRegs.a0),(.int .u8 zt.1.fRegs.a1),(.int .u8 zt.1.fRegs.a2),(.int .u8 zt.1.fRegs.a3)],stb z21 41 [(.int .u8 zr.2.fKind),(.int .i64 zr.2.fA),(.int .i64 zr.2.fB),(.slice z42 zr.2.fData.length z43)],stb z44 39 [(.int .i64 zr.1.fPc),(.int .i64 zr.1.fLeft),(.int .u8 zr.1.fRegs.a0),(.int .u8 zr.1.fRegs.a1),(.int .u8 zr.1.fRegs.a2),(.int .u8 zr.1.fRegs.a3)],stb b2o1_10186 39 [(.int .i64 z1A),(.int .i64 z1B),(.int .u8 z1C),(.int .u8 z1D),(.int .u8 z1E),(.int .u8 z1F)]]) (fun (Zn4o1_10545 : Zp) (ao4o2_10545 : Option Addr) (cap4o3_10545 : Nat) (b8o1_10545 : Nat) (b9o1_10545 : Nat)=>(ZS ((Z ++ ((z1x ++ z2d) ++ z2e)) ++ Zn4o1_10545) 1 (fun zJ x=>zJ = e5 x) ao4o2_10545 cap4o3_10545 zJ.2.fData)) (y1y 12 [11,10,9,8,7,6,5,4,3,2,1,0]) ?_ (fun K4o5o6o7o8o9o10o11_10545=>?_)
    ·skip
     rintro Zn4o1_10545 ao4o2_10545 cap4o3_10545 b8o1_10545 b9o1_10545 hf4o4_10545
     refine WD.done (by kernel_rfl) ?_
     refine WX.a (WC.b ?_)
     obtain ⟨z7O,zl9,h⟩:=zi h
     obtain ⟨zcw,zla,h⟩:=zi h
     refine WC.a ?_
     refine WL.new (dd:=75) rfl rfl rfl (yp (cs:=([2,1,3] : List Int).flatMap e3) yA (Eos.parts (l:=[.const (.int .i64 2),.const (.int .i64 1),.const (.int .i64 3)]) (.cons rfl (.cons rfl (.cons rfl .nil))) [0,1,2]) (fun _=>by kernel_rfl) rfl (by unfold maxLen; omega)) ?_
     intro zn8 _
     refine WL.b (dd:=76) rfl rfl rfl (zK (l:=[.const (.int .u8 7),.tmp 75]) Tryd.call17 (.cons rfl (.cons rfl .nil))) .nil (y2f hz .nil .h3 (.cons .here .nil) fun w pz ho la=>y1c _ _ _ _ _ _ zl9 w pz (ZA.row (la _ (.head _) _) (RR.yI (enc:=e3) (fun _=>rfl) _) ⟨w,pz.1⟩)) ?_
     refine WL.new (dd:=77) rfl rfl rfl (yp (cs:=([z7O] : List Sapi_Ins).flatMap e33) y2E (Eos.parts (l:=[.tmp 76]) (.cons rfl .nil) [0]) (fun _=>by kernel_rfl) rfl (by unfold maxLen; omega)) ?_
     intro zn9 _
     refine WL.a (d:=78) rfl rfl rfl (y13 (v:=(.agg #[(.int .u8 0),(.int .u8 255),(.int .u8 0),(.int .u8 0)])) (Eos.parts (l:=[.const (.int .u8 0),.const (.int .u8 255)]) (.cons rfl (.cons rfl .nil)) [0,1]) (fun _=>by kernel_rfl)) ?_
     refine WL.a (d:=79) rfl rfl rfl (y13 (v:=(.agg #[(.int .i64 0),(.int .i64 0),(.int .u8 0),(.int .u8 255),(.int .u8 0),(.int .u8 0)])) (Eos.parts (l:=[.tmp 78]) (.cons rfl .nil) [2]) (fun _=>by kernel_rfl)) ?_
     refine WL.freezeS (ls:=([z7O] : List Sapi_Ins)) .here .h3 hz (RR.yI (enc:=e33) (fun _=>rfl) _) ?_
     intro zlb z2r zlc
     refine WL.y2K (dd:=80) rfl rfl rfl (zK (l:=[.tmp 77,.tmp 79,.const (.slice none 0 0)]) Tryd.call18 (.cons rfl (.cons rfl (.cons rfl .nil)))) .nil (ccz hz .nil .here fun w pz ho=>y1d _ _ _ _ _ _ _ _ _ zla w pz (hG0.mono ((Zle.left _ _).trans (z1s.trans ((Zle.left _ _).trans ((Zle.y5 _ _ _).trans ((Zle.left _ _).trans ((Zle.y5 _ _ _).trans ((Zle.left _ _).trans ((Zle.y5 _ _ _).trans z2r))))))))) ((hG1.mono ((Zle.left _ _).trans (z1s.trans ((Zle.left _ _).trans ((Zle.y5 _ _ _).trans ((Zle.left _ _).trans ((Zle.y5 _ _ _).trans ((Zle.left _ _).trans ((Zle.y5 _ _ _).trans z2r))))))))).weak (fun _ _ h=>yQ ((Zle.left _ _).trans (z1s.trans ((Zle.left _ _).trans ((Zle.y5 _ _ _).trans ((Zle.left _ _).trans ((Zle.y5 _ _ _).trans ((Zle.left _ _).trans ((Zle.y5 _ _ _).trans z2r)))))))) h)) zlc (ZS.nil _ _ _)) ?_
     rintro zld zna znb zle
     refine WL.merge .here .here ?_
     refine WL.pu rfl (WL.pu rfl (WL.pu rfl ?_))
     refine WL.new (dd:=13) rfl rfl rfl (yv (cs:=[(.int .i64 0),(.int .i64 0),(.int .u8 0),(.int .u8 0),(.int .u8 0),(.int .u8 0)]) y1o rfl) ?_
     intro znc _
     refine WL.new (dd:=14) rfl rfl rfl (yv (cs:=[(.int .u8 0),(.int .i64 0),(.int .i64 0),(.slice none 0 0)]) y1X rfl) ?_
     intro znd _
     refine WL.yk rfl rfl (ys y21 rfl rfl rfl .h1 rfl rfl rfl) ?_
     refine WL.yk rfl rfl (ys y1z rfl rfl rfl .h1 rfl rfl rfl) ?_
     refine WL.nil (WX.a (WC.b ?_))
     obtain ⟨z2J,zlf,h⟩:=zi h
     refine WC.a (WL.pu rfl ?_)
     refine WL.b (dd:=85) rfl rfl rfl (zK (l:=[.tmp 84,.const (.int .i64 0)]) Tryd.call13 (.cons rfl (.cons rfl .nil))) .nil (ccz hz .nil .h2 fun w pz ho=>y37 _ _ _ _ _ _ zlf w pz ((hG1.mono ((Zle.left _ _).trans (z1s.trans ((Zle.left _ _).trans ((Zle.y5 _ _ _).trans ((Zle.left _ _).trans ((Zle.y5 _ _ _).trans ((Zle.left _ _).trans ((Zle.y5 _ _ _).trans (z2r.trans ((Zle.left _ _).trans (Zle.y5 _ _ _)))))))))))).weak (fun _ _ h=>yQ ((Zle.left _ _).trans (z1s.trans ((Zle.left _ _).trans ((Zle.y5 _ _ _).trans ((Zle.left _ _).trans ((Zle.y5 _ _ _).trans ((Zle.left _ _).trans ((Zle.y5 _ _ _).trans (z2r.trans ((Zle.left _ _).trans (Zle.y5 _ _ _))))))))))) h)) (z5m.mono ((Zle.left _ _).trans ((Zle.y5 _ _ _).trans ((Zle.left _ _).trans ((Zle.y5 _ _ _).trans ((Zle.left _ _).trans ((Zle.y5 _ _ _).trans (z2r.trans ((Zle.left _ _).trans (Zle.y5 _ _ _))))))))))) ?_
     refine WL.pu rfl (WL.pu rfl (WL.pu rfl (WL.pu rfl (WL.pu rfl (WL.nil (WX.a (WC.b ?_)))))))
     obtain ⟨z9a,zlg,h⟩:=zi h
     obtain ⟨z77,zlh,h⟩:=zi h
     refine WC.a ?_
     refine WL.new (dd:=89) rfl rfl rfl (yp (cs:=([0,0] : List Int).flatMap e3) yA (Eos.parts (l:=[.const (.int .i64 0),.const (.int .i64 0)]) (.cons rfl (.cons rfl .nil)) [0,1]) (fun _=>by kernel_rfl) rfl (by unfold maxLen; omega)) ?_
     intro zne _
     refine WL.b (dd:=90) rfl rfl rfl (zK (l:=[.const (.int .u8 21),.tmp 89]) Tryd.call17 (.cons rfl (.cons rfl .nil))) .nil (y2f hz .nil .h3 (.cons .here .nil) fun w pz ho la=>y1c _ _ _ _ _ _ zlg w pz (ZA.row (la _ (.head _) _) (RR.yI (enc:=e3) (fun _=>rfl) _) ⟨w,pz.1⟩)) ?_
     refine WL.new (dd:=91) rfl rfl rfl (yp (cs:=([z9a] : List Sapi_Ins).flatMap e33) y2E (Eos.parts (l:=[.tmp 90]) (.cons rfl .nil) [0]) (fun _=>by kernel_rfl) rfl (by unfold maxLen; omega)) ?_
     intro znf _
     refine WL.b (dd:=92) rfl rfl rfl (zK (l:=[.tmp 91,.const (.int .i64 0)]) Tryd.call13 (.cons rfl (.cons rfl .nil))) .nil (y2f hz .nil .h4 (.cons .here .nil) fun w pz ho la=>y37 _ _ _ _ _ _ zlh w pz ((((hG1.mono ((Zle.left _ _).trans (z1s.trans ((Zle.left _ _).trans ((Zle.y5 _ _ _).trans ((Zle.left _ _).trans ((Zle.y5 _ _ _).trans ((Zle.left _ _).trans ((Zle.y5 _ _ _).trans (z2r.trans ((Zle.left _ _).trans (Zle.y5 _ _ _)))))))))))).weak (fun _ _ h=>yQ ((Zle.left _ _).trans (z1s.trans ((Zle.left _ _).trans ((Zle.y5 _ _ _).trans ((Zle.left _ _).trans ((Zle.y5 _ _ _).trans ((Zle.left _ _).trans ((Zle.y5 _ _ _).trans (z2r.trans ((Zle.left _ _).trans (Zle.y5 _ _ _))))))))))) h)).mono (Zle.left _ _)).weak (fun _ _ h=>yQ (Zle.left _ _) h)) (ZA.row (la _ (.head _) _) (RR.yI (enc:=e33) (fun _=>rfl) _) ⟨w,pz.1⟩)) ?_
     refine WL.pu rfl (WL.pu rfl (WL.pu rfl (WL.pu rfl (WL.pu rfl (WL.nil (WX.a (WC.b ?_)))))))
     obtain ⟨z9b,zli,h⟩:=zi h
     obtain ⟨z9c,zlj,h⟩:=zi h
     obtain ⟨z9d,zlk,h⟩:=zi h
     obtain ⟨z6J,zll,h⟩:=zi h
     refine WC.a ?_
     refine WL.new (dd:=96) rfl rfl rfl (yp (cs:=([0,1,2] : List Int).flatMap e3) yA (Eos.parts (l:=[.const (.int .i64 0),.const (.int .i64 1),.const (.int .i64 2)]) (.cons rfl (.cons rfl (.cons rfl .nil))) [0,1,2]) (fun _=>by kernel_rfl) rfl (by unfold maxLen; omega)) ?_
     intro zng _
     refine WL.b (dd:=97) rfl rfl rfl (zK (l:=[.const (.int .u8 22),.tmp 96]) Tryd.call17 (.cons rfl (.cons rfl .nil))) .nil (y2f hz .nil .h5 (.cons .here .nil) fun w pz ho la=>y1c _ _ _ _ _ _ zli w pz (ZA.row (la _ (.head _) _) (RR.yI (enc:=e3) (fun _=>rfl) _) ⟨w,pz.1⟩)) ?_
     refine WL.new (dd:=98) rfl rfl rfl (yp (cs:=([9] : List Int).flatMap e3) yA (Eos.parts (l:=[.const (.int .i64 9)]) (.cons rfl .nil) [0]) (fun _=>by kernel_rfl) rfl (by unfold maxLen; omega)) ?_
     intro znh _
     refine WL.b (dd:=99) rfl rfl rfl (zK (l:=[.const (.int .u8 1),.tmp 98]) Tryd.call17 (.cons rfl (.cons rfl .nil))) .nil (y2f hz .nil .h6 (.cons .here .nil) fun w pz ho la=>y1c _ _ _ _ _ _ zlj w pz (ZA.row (la _ (.head _) _) (RR.yI (enc:=e3) (fun _=>rfl) _) ⟨w,pz.1⟩)) ?_
     refine WL.b (dd:=100) rfl rfl rfl (zK (l:=[.const (.int .u8 25),.const (.slice none 0 0)]) Tryd.call17 (.cons rfl (.cons rfl .nil))) .nil (ccz hz .nil .h6 fun w pz ho=>y1c _ _ _ _ _ _ zlk w pz (ZS.nil _ _ _)) ?_
     refine WL.new (dd:=101) rfl rfl rfl (yp (cs:=([z9b,z9c,z9d] : List Sapi_Ins).flatMap e33) y2E (Eos.parts (l:=[.tmp 97,.tmp 99,.tmp 100]) (.cons rfl (.cons rfl (.cons rfl .nil))) [0,1,2]) (fun _=>by kernel_rfl) rfl (by unfold maxLen; omega)) ?_
     intro zni _
     refine WL.b (dd:=102) rfl rfl rfl (zK (l:=[.tmp 101,.const (.int .i64 0)]) Tryd.call13 (.cons rfl (.cons rfl .nil))) .nil (y2f hz .nil .h7 (.cons .here .nil) fun w pz ho la=>y37 _ _ _ _ _ _ zll w pz ((((hG1.mono ((Zle.left _ _).trans (z1s.trans ((Zle.left _ _).trans ((Zle.y5 _ _ _).trans ((Zle.left _ _).trans ((Zle.y5 _ _ _).trans ((Zle.left _ _).trans ((Zle.y5 _ _ _).trans (z2r.trans ((Zle.left _ _).trans (Zle.y5 _ _ _)))))))))))).weak (fun _ _ h=>yQ ((Zle.left _ _).trans (z1s.trans ((Zle.left _ _).trans ((Zle.y5 _ _ _).trans ((Zle.left _ _).trans ((Zle.y5 _ _ _).trans ((Zle.left _ _).trans ((Zle.y5 _ _ _).trans (z2r.trans ((Zle.left _ _).trans (Zle.y5 _ _ _))))))))))) h)).mono (Zle.left _ _)).weak (fun _ _ h=>yQ (Zle.left _ _) h)) (ZA.row (la _ (.head _) _) (RR.yI (enc:=e33) (fun _=>rfl) _) ⟨w,pz.1⟩)) ?_
     refine WL.pu rfl (WL.pu rfl (WL.pu rfl (WL.pu rfl (WL.pu rfl (WL.nil (WX.a (WC.b ?_)))))))
     obtain ⟨zcx,zlm,h⟩:=zi h
     obtain ⟨z9e,zcD,h⟩:=zi h
     obtain ⟨z9f,zcE,h⟩:=zi h
     obtain ⟨z4V,zcF,h⟩:=zi h
     refine WC.a ?_
     refine WL.a (d:=105) rfl rfl rfl (yJ y2x rfl (yH (.there (.there (.there (.there (.there (.there .h7))))))) rfl) ?_
     refine WL.a (d:=106) rfl rfl rfl (y13 (v:=(.agg #[(.int .u8 1),(.int .i64 21),(.int .i64 5),(.slice none 0 0)])) (Eos.parts (l:=[.const (.int .u8 1),.const (.int .i64 21),.const (.int .i64 5)]) (.cons rfl (.cons rfl (.cons rfl .nil))) [0,1,2]) (fun _=>by kernel_rfl)) ?_
     refine WL.b (dd:=107) rfl rfl rfl (zK (l:=[.tmp 105,.tmp 106]) Tryd.call19 (.cons rfl (.cons rfl .nil))) .nil (ccz hz .nil .h7 fun w pz ho=>y26 _ _ _ _ _ _ _ _ zlm w pz (zl5.mono ((Zle.y5 _ _ _).trans ((Zle.left _ _).trans ((Zle.y5 _ _ _).trans ((Zle.left _ _).trans ((Zle.y5 _ _ _).trans (z2r.trans ((Zle.left _ _).trans (Zle.y5 _ _ _))))))))) (ZS.nil _ _ _)) ?_
     refine WL.pu rfl ?_
     refine WL.seg true 3 108 (B:=z9e) rfl rfl rfl rfl rfl rfl (fun h=>(Option.some.inj (yn zcD h)).symm) (fun _ zln=>?_) ?_
     ·skip
      have z7f:=ym zcD zln
      obtain ⟨zcy,zlo,z7f⟩:=zi z7f
      replace z7f:=Option.some.inj z7f
      refine WL.a (d:=109) rfl rfl rfl (yJ y2x rfl (yH (.there (.there (.there (.there .h7))))) rfl) ?_
      refine WL.a (d:=110) rfl rfl rfl (y13 (v:=(.agg #[(.int .u8 14),(.int .i64 0),(.int .i64 0),(.slice none 0 0)])) (Eos.parts (l:=[.const (.int .u8 14)]) (.cons rfl .nil) [0]) (fun _=>by kernel_rfl)) ?_
      refine WL.b (dd:=111) rfl rfl rfl (zK (l:=[.tmp 109,.tmp 110]) Tryd.call19 (.cons rfl (.cons rfl .nil))) .nil (ccz hz .nil .h7 fun w pz ho=>y26 _ _ _ _ _ _ _ _ zlo w pz (zl7.mono ((Zle.y5 _ _ _).trans ((Zle.left _ _).trans ((Zle.y5 _ _ _).trans (z2r.trans ((Zle.left _ _).trans (Zle.y5 _ _ _))))))) (ZS.nil _ _ _)) ?_
      refine WL.pu rfl ?_
      exact WL.yj z7f rfl rfl .all
     refine WL.pu rfl ?_
     refine WL.seg true 3 113 (B:=z9f) rfl rfl rfl rfl rfl rfl (fun h=>(Option.some.inj (yn zcE h)).symm) (fun _ zlp=>?_) ?_
     ·skip
      have z7g:=ym zcE zlp
      obtain ⟨zcz,zlq,z7g⟩:=zi z7g
      replace z7g:=Option.some.inj z7g
      refine WL.a (d:=114) rfl rfl rfl (yJ y2x rfl (yH (.there (.there .h7))) rfl) ?_
      refine WL.a (d:=115) rfl rfl rfl (y13 (v:=(.agg #[(.int .u8 15),(.int .i64 2),(.int .i64 0),(.slice none 0 0)])) (Eos.parts (l:=[.const (.int .u8 15),.const (.int .i64 2)]) (.cons rfl (.cons rfl .nil)) [0,1]) (fun _=>by kernel_rfl)) ?_
      refine WL.b (dd:=116) rfl rfl rfl (zK (l:=[.tmp 114,.tmp 115]) Tryd.call19 (.cons rfl (.cons rfl .nil))) .nil (ccz hz .nil .h7 fun w pz ho=>y26 _ _ _ _ _ _ _ _ zlq w pz (hf4o4_10545.mono ((Zle.y5 _ _ _).trans (z2r.trans ((Zle.left _ _).trans (Zle.y5 _ _ _))))) (ZS.nil _ _ _)) ?_
      refine WL.pu rfl ?_
      exact WL.yj z7g rfl rfl .all
     refine WL.pu rfl ?_
     refine WL.seg true 4 118 (B:=z4V) rfl rfl rfl rfl rfl rfl (fun h=>(Option.some.inj (yn zcF h)).symm) (fun _ zlr=>?_) ?_
     ·skip
      have z7h:=ym zcF zlr
      obtain ⟨zcA,zls,z7h⟩:=zi z7h
      replace z7h:=Option.some.inj z7h
      refine WL.a (d:=119) rfl rfl rfl (yJ y2x rfl (yH .h5) rfl) ?_
      refine WL.new (dd:=120) rfl rfl rfl (yp (cs:=([255,0,1] : List Int).flatMap e5) y1W (Eos.parts (l:=[.const (.int .u8 255),.const (.int .u8 0),.const (.int .u8 1)]) (.cons rfl (.cons rfl (.cons rfl .nil))) [0,1,2]) (fun _=>by kernel_rfl) rfl (by unfold maxLen; omega)) ?_
      intro zlt _
      refine WL.a (d:=121) rfl rfl rfl (y13 (v:=(.agg #[(.int .u8 2),(.int .i64 2),(.int .i64 0),(.slice (some ⟨zlt,0,none⟩) (([255,0,1] : List Int).length) 3)])) (Eos.parts (l:=[.const (.int .u8 2),.const (.int .i64 2),.tmp 120]) (.cons rfl (.cons rfl (.cons rfl .nil))) [0,1,3]) (fun _=>by kernel_rfl)) ?_
      refine WL.b (dd:=122) rfl rfl rfl (zK (l:=[.tmp 119,.tmp 121]) Tryd.call19 (.cons rfl (.cons rfl .nil))) .nil (y2f hz .nil (.there .h7) (.cons .here .nil) fun w pz ho la=>y26 _ _ _ _ _ _ _ _ zls w pz ((zle.mono (Zle.y5 _ _ _)).mono (Zle.left _ _)) (ZA.row (la _ (.head _) _) (RR.yI (enc:=e5) (fun _=>rfl) _) ⟨w,pz.1⟩)) ?_
      refine WL.pu rfl ?_
      exact WL.yj z7h rfl rfl (.cons .h1 (.cons .h1 (.cons .h1 (.cons .h1 (.cons .h1 (.cons .h1 (.cons .h1 (.cons .h1 (.cons .h1 (.cons .h1 (.cons .h1 (.cons .h1 (.cons .h1 (.cons .h1 (.cons .h1 (.cons .h1 .nil))))))))))))))))
     refine WL.pu rfl ?_
     refine WL.seg true 2 124 (B:=z4V && (decide (z2J.1 = 7))) rfl rfl rfl rfl rfl rfl (fun h=>(y2j h).symm) (fun _ zlu=>?_) ?_
     ·skip
      refine WL.pu rfl (WL.pu rfl (WL.pu rfl ?_))
      exact WL.yj (y2k zlu) rfl rfl .all
     refine WL.pu rfl ?_
     refine WL.seg true 1 128 (B:=(z4V && (decide (z2J.1 = 7))) && z2J.2) rfl rfl rfl rfl rfl rfl (fun h=>(y2j h).symm) (fun _ zlv=>?_) ?_
     ·skip
      refine WL.pu rfl (WL.pu rfl ?_)
      exact WL.yj (y2k zlv) rfl rfl .all
     refine WL.pu rfl ?_
     refine WL.seg true 2 131 (B:=((z4V && (decide (z2J.1 = 7))) && z2J.2) && (!z77.2)) rfl rfl rfl rfl rfl rfl (fun h=>(y2j h).symm) (fun _ zlw=>?_) ?_
     ·skip
      refine WL.pu rfl (WL.pu rfl (WL.pu rfl ?_))
      exact WL.yj (y2k zlw) rfl rfl .all
     refine WL.pu rfl ?_
     refine WL.seg true 2 135 (B:=(((z4V && (decide (z2J.1 = 7))) && z2J.2) && (!z77.2)) && (decide (z6J.1 = 11))) rfl rfl rfl rfl rfl rfl (fun h=>(y2j h).symm) (fun _ zlx=>?_) ?_
     ·skip
      refine WL.pu rfl (WL.pu rfl (WL.pu rfl ?_))
      exact WL.yj (y2k zlx) rfl rfl .all
     refine WL.pu rfl ?_
     refine WL.seg true 1 139 (B:=((((z4V && (decide (z2J.1 = 7))) && z2J.2) && (!z77.2)) && (decide (z6J.1 = 11))) && z6J.2) rfl rfl rfl rfl rfl rfl (fun h=>(y2j h).symm) (fun _ zly=>?_) ?_
     ·skip
      refine WL.pu rfl (WL.pu rfl ?_)
      exact WL.yj (y2k zly) rfl rfl .all
     refine WL.pu rfl (WL.nil (WX.a (WC.ret ?_)))
     obtain rfl:=Option.some.inj h
     refine WX.yg Tryd.results9 (.tmp rfl .nil) (fun w hw=>?_)
     exact ⟨(zlb ++ zld),yZ rfl,trivial,hw.sub (.cons .h7 .nil)⟩
    refine WD.y4U (fuel':=1) (fun (Zn4o1_10545 : Zp) (ao4o2_10545 : Option Addr) (cap4o3_10545 : Nat) (b8o1_10545 : Nat) (b9o1_10545 : Nat)=>[(1,(.slice z26 z1w.length z27)),(8,(.pointer (some ⟨z21,0,none⟩))),(10,(.pointer (some ⟨z22,0,none⟩))),(73,(.agg #[(.int .u8 zJ.2.fKind),(.int .i64 zJ.2.fA),(.int .i64 zJ.2.fB),(.slice ao4o2_10545 zJ.2.fData.length cap4o3_10545)])),(12,(.pointer (some ⟨b9o1_10545,0,none⟩)))]) (fun (Zn4o1_10545 : Zp) (ao4o2_10545 : Option Addr) (cap4o3_10545 : Nat) (b8o1_10545 : Nat) (b9o1_10545 : Nat)=>[stb b8o1_10545 39 [(.int .i64 zJ.1.fPc),(.int .i64 zJ.1.fLeft),(.int .u8 zJ.1.fRegs.a0),(.int .u8 zJ.1.fRegs.a1),(.int .u8 zJ.1.fRegs.a2),(.int .u8 zJ.1.fRegs.a3)],stb b9o1_10545 41 [(.int .u8 0),(.int .i64 0),(.int .i64 0),(.slice none 0 0)],fz (((z1x ++ z2d) ++ z2e) ++ Zn4o1_10545),stb z22 41 [(.int .u8 zt.2.fKind),(.int .i64 zt.2.fA),(.int .i64 zt.2.fB),(.slice z45 zt.2.fData.length z47)],stb z48 39 [(.int .i64 zt.1.fPc),(.int .i64 zt.1.fLeft),(.int .u8 zt.1.fRegs.a0),(.int .u8 zt.1.fRegs.a1),(.int .u8 zt.1.fRegs.a2),(.int .u8 zt.1.fRegs.a3)],stb z21 41 [(.int .u8 zr.2.fKind),(.int .i64 zr.2.fA),(.int .i64 zr.2.fB),(.slice z42 zr.2.fData.length z43)],stb z44 39 [(.int .i64 zr.1.fPc),(.int .i64 zr.1.fLeft),(.int .u8 zr.1.fRegs.a0),(.int .u8 zr.1.fRegs.a1),(.int .u8 zr.1.fRegs.a2),(.int .u8 zr.1.fRegs.a3)],stb b2o1_10186 39 [(.int .i64 z1A),(.int .i64 z1B),(.int .u8 z1C),(.int .u8 z1D),(.int .u8 z1E),(.int .u8 z1F)]]) (fun (Zn4o1_10545 : Zp) (ao4o2_10545 : Option Addr) (cap4o3_10545 : Nat) (b8o1_10545 : Nat) (b9o1_10545 : Nat)=>(ZS ((Z ++ ((z1x ++ z2d) ++ z2e)) ++ Zn4o1_10545) 1 (fun zJ x=>zJ = e5 x) ao4o2_10545 cap4o3_10545 zJ.2.fData)) (y1y 12 [10,9,8,7,6,5,4,3,2,1,0]) ?_ (fun K4o5o6o7o8o9o10_10545=>?_)
    ·skip
     rintro Zn4o1_10545 ao4o2_10545 cap4o3_10545 b8o1_10545 b9o1_10545 hf4o4_10545
     refine WD.y2n (i:=11) rfl (by kernel_rfl) rfl rfl rfl (by kernel_rfl) (ys y1z rfl rfl rfl .h1 rfl rfl rfl) ?_
     exact WD.reL (.cons .here (.cons .here (.cons .here (.cons .here (.cons .here (.cons .here (.cons .here (.cons .here .nil)))))))) (.cons rfl (.cons rfl (.cons rfl (.cons rfl .nil)))) (K4o5o6o7o8o9o10o11_10545 Zn4o1_10545 ao4o2_10545 cap4o3_10545 b8o1_10545 b9o1_10545 hf4o4_10545)
    refine WD.y4U (fuel':=2) (fun (Zn4o1_10545 : Zp) (ao4o2_10545 : Option Addr) (cap4o3_10545 : Nat) (b8o1_10545 : Nat) (b9o1_10545 : Nat)=>[(1,(.slice z26 z1w.length z27)),(8,(.pointer (some ⟨z21,0,none⟩))),(10,(.pointer (some ⟨z22,0,none⟩))),(72,(.agg #[(.int .i64 zJ.1.fPc),(.int .i64 zJ.1.fLeft),(.int .u8 zJ.1.fRegs.a0),(.int .u8 zJ.1.fRegs.a1),(.int .u8 zJ.1.fRegs.a2),(.int .u8 zJ.1.fRegs.a3)])),(73,(.agg #[(.int .u8 zJ.2.fKind),(.int .i64 zJ.2.fA),(.int .i64 zJ.2.fB),(.slice ao4o2_10545 zJ.2.fData.length cap4o3_10545)])),(11,(.pointer (some ⟨b8o1_10545,0,none⟩))),(12,(.pointer (some ⟨b9o1_10545,0,none⟩)))]) (fun (Zn4o1_10545 : Zp) (ao4o2_10545 : Option Addr) (cap4o3_10545 : Nat) (b8o1_10545 : Nat) (b9o1_10545 : Nat)=>[stb b9o1_10545 41 [(.int .u8 0),(.int .i64 0),(.int .i64 0),(.slice none 0 0)],stb b8o1_10545 39 [(.int .i64 0),(.int .i64 0),(.int .u8 0),(.int .u8 0),(.int .u8 0),(.int .u8 0)],fz (((z1x ++ z2d) ++ z2e) ++ Zn4o1_10545),stb z22 41 [(.int .u8 zt.2.fKind),(.int .i64 zt.2.fA),(.int .i64 zt.2.fB),(.slice z45 zt.2.fData.length z47)],stb z48 39 [(.int .i64 zt.1.fPc),(.int .i64 zt.1.fLeft),(.int .u8 zt.1.fRegs.a0),(.int .u8 zt.1.fRegs.a1),(.int .u8 zt.1.fRegs.a2),(.int .u8 zt.1.fRegs.a3)],stb z21 41 [(.int .u8 zr.2.fKind),(.int .i64 zr.2.fA),(.int .i64 zr.2.fB),(.slice z42 zr.2.fData.length z43)],stb z44 39 [(.int .i64 zr.1.fPc),(.int .i64 zr.1.fLeft),(.int .u8 zr.1.fRegs.a0),(.int .u8 zr.1.fRegs.a1),(.int .u8 zr.1.fRegs.a2),(.int .u8 zr.1.fRegs.a3)],stb b2o1_10186 39 [(.int .i64 z1A),(.int .i64 z1B),(.int .u8 z1C),(.int .u8 z1D),(.int .u8 z1E),(.int .u8 z1F)]]) (fun (Zn4o1_10545 : Zp) (ao4o2_10545 : Option Addr) (cap4o3_10545 : Nat) (b8o1_10545 : Nat) (b9o1_10545 : Nat)=>(ZS ((Z ++ ((z1x ++ z2d) ++ z2e)) ++ Zn4o1_10545) 1 (fun zJ x=>zJ = e5 x) ao4o2_10545 cap4o3_10545 zJ.2.fData)) (y1y 12 [9,8,7,6,5,4,3,2,1,0]) ?_ (fun K4o5o6o7o8o9_10545=>?_)
    ·skip
     rintro Zn4o1_10545 ao4o2_10545 cap4o3_10545 b8o1_10545 b9o1_10545 hf4o4_10545
     refine WD.forced0 (i:=10) rfl (by kernel_rfl) rfl rfl rfl (Sin.of .nil) (ys y21 rfl rfl rfl .h1 rfl rfl rfl) ?_
     exact WD.reL (.cons .here (.cons .here (.cons .here (.cons .here (.cons .here (.cons .here (.cons .here (.cons .here .nil)))))))) (.cons rfl (.cons rfl (.cons rfl (.cons rfl (.cons rfl .nil))))) (K4o5o6o7o8o9o10_10545 Zn4o1_10545 ao4o2_10545 cap4o3_10545 b8o1_10545 b9o1_10545 hf4o4_10545)
    refine WD.y5F (fuel':=3) (fun (Zn4o1_10545 : Zp) (ao4o2_10545 : Option Addr) (cap4o3_10545 : Nat) (b8o1_10545 : Nat)=>[(1,(.slice z26 z1w.length z27)),(8,(.pointer (some ⟨z21,0,none⟩))),(10,(.pointer (some ⟨z22,0,none⟩))),(72,(.agg #[(.int .i64 zJ.1.fPc),(.int .i64 zJ.1.fLeft),(.int .u8 zJ.1.fRegs.a0),(.int .u8 zJ.1.fRegs.a1),(.int .u8 zJ.1.fRegs.a2),(.int .u8 zJ.1.fRegs.a3)])),(73,(.agg #[(.int .u8 zJ.2.fKind),(.int .i64 zJ.2.fA),(.int .i64 zJ.2.fB),(.slice ao4o2_10545 zJ.2.fData.length cap4o3_10545)])),(11,(.pointer (some ⟨b8o1_10545,0,none⟩)))]) (fun (Zn4o1_10545 : Zp) (ao4o2_10545 : Option Addr) (cap4o3_10545 : Nat) (b8o1_10545 : Nat)=>[stb b8o1_10545 39 [(.int .i64 0),(.int .i64 0),(.int .u8 0),(.int .u8 0),(.int .u8 0),(.int .u8 0)],fz (((z1x ++ z2d) ++ z2e) ++ Zn4o1_10545),stb z22 41 [(.int .u8 zt.2.fKind),(.int .i64 zt.2.fA),(.int .i64 zt.2.fB),(.slice z45 zt.2.fData.length z47)],stb z48 39 [(.int .i64 zt.1.fPc),(.int .i64 zt.1.fLeft),(.int .u8 zt.1.fRegs.a0),(.int .u8 zt.1.fRegs.a1),(.int .u8 zt.1.fRegs.a2),(.int .u8 zt.1.fRegs.a3)],stb z21 41 [(.int .u8 zr.2.fKind),(.int .i64 zr.2.fA),(.int .i64 zr.2.fB),(.slice z42 zr.2.fData.length z43)],stb z44 39 [(.int .i64 zr.1.fPc),(.int .i64 zr.1.fLeft),(.int .u8 zr.1.fRegs.a0),(.int .u8 zr.1.fRegs.a1),(.int .u8 zr.1.fRegs.a2),(.int .u8 zr.1.fRegs.a3)],stb b2o1_10186 39 [(.int .i64 z1A),(.int .i64 z1B),(.int .u8 z1C),(.int .u8 z1D),(.int .u8 z1E),(.int .u8 z1F)]]) (fun (Zn4o1_10545 : Zp) (ao4o2_10545 : Option Addr) (cap4o3_10545 : Nat) (b8o1_10545 : Nat)=>(ZS ((Z ++ ((z1x ++ z2d) ++ z2e)) ++ Zn4o1_10545) 1 (fun zJ x=>zJ = e5 x) ao4o2_10545 cap4o3_10545 zJ.2.fData)) (y1y 12 [8,7,6,5,4,3,2,1,0]) ?_ (fun K4o5o6o7o8_10545=>?_)
    ·skip
     rintro Zn4o1_10545 ao4o2_10545 cap4o3_10545 b8o1_10545 hf4o4_10545
     refine WD.new (i:=9) (dd:=12) rfl (by kernel_rfl) rfl rfl rfl (yv (cs:=[(.int .u8 0),(.int .i64 0),(.int .i64 0),(.slice none 0 0)]) y1X rfl) (fun h'=>absurd h' (by decide)) ?_
     intro b9o1_10545 _
     exact WD.reL (.cons .here (.cons .here (.cons .here (.cons .here (.cons .here (.cons .here (.cons .here (.cons .here .nil)))))))) (.cons rfl (.cons rfl (.cons rfl (.cons rfl (.cons rfl (.cons rfl (.cons rfl .nil))))))) (K4o5o6o7o8o9_10545 Zn4o1_10545 ao4o2_10545 cap4o3_10545 b8o1_10545 b9o1_10545 hf4o4_10545)
    refine WD.y5F (fuel':=3) (fun (Zn4o1_10545 : Zp) (ao4o2_10545 : Option Addr) (cap4o3_10545 : Nat) (b9o1_10545 : Nat)=>[(1,(.slice z26 z1w.length z27)),(8,(.pointer (some ⟨z21,0,none⟩))),(10,(.pointer (some ⟨z22,0,none⟩))),(72,(.agg #[(.int .i64 zJ.1.fPc),(.int .i64 zJ.1.fLeft),(.int .u8 zJ.1.fRegs.a0),(.int .u8 zJ.1.fRegs.a1),(.int .u8 zJ.1.fRegs.a2),(.int .u8 zJ.1.fRegs.a3)])),(73,(.agg #[(.int .u8 zJ.2.fKind),(.int .i64 zJ.2.fA),(.int .i64 zJ.2.fB),(.slice ao4o2_10545 zJ.2.fData.length cap4o3_10545)])),(12,(.pointer (some ⟨b9o1_10545,0,none⟩)))]) (fun (Zn4o1_10545 : Zp) (ao4o2_10545 : Option Addr) (cap4o3_10545 : Nat) (b9o1_10545 : Nat)=>[stb b9o1_10545 41 [(.int .u8 0),(.int .i64 0),(.int .i64 0),(.slice none 0 0)],fz (((z1x ++ z2d) ++ z2e) ++ Zn4o1_10545),stb z22 41 [(.int .u8 zt.2.fKind),(.int .i64 zt.2.fA),(.int .i64 zt.2.fB),(.slice z45 zt.2.fData.length z47)],stb z48 39 [(.int .i64 zt.1.fPc),(.int .i64 zt.1.fLeft),(.int .u8 zt.1.fRegs.a0),(.int .u8 zt.1.fRegs.a1),(.int .u8 zt.1.fRegs.a2),(.int .u8 zt.1.fRegs.a3)],stb z21 41 [(.int .u8 zr.2.fKind),(.int .i64 zr.2.fA),(.int .i64 zr.2.fB),(.slice z42 zr.2.fData.length z43)],stb z44 39 [(.int .i64 zr.1.fPc),(.int .i64 zr.1.fLeft),(.int .u8 zr.1.fRegs.a0),(.int .u8 zr.1.fRegs.a1),(.int .u8 zr.1.fRegs.a2),(.int .u8 zr.1.fRegs.a3)],stb b2o1_10186 39 [(.int .i64 z1A),(.int .i64 z1B),(.int .u8 z1C),(.int .u8 z1D),(.int .u8 z1E),(.int .u8 z1F)]]) (fun (Zn4o1_10545 : Zp) (ao4o2_10545 : Option Addr) (cap4o3_10545 : Nat) (b9o1_10545 : Nat)=>(ZS ((Z ++ ((z1x ++ z2d) ++ z2e)) ++ Zn4o1_10545) 1 (fun zJ x=>zJ = e5 x) ao4o2_10545 cap4o3_10545 zJ.2.fData)) (y1y 12 [9,7,6,5,4,3,2,1,0]) ?_ (fun K4o5o6o7o9_10545=>?_)
    ·skip
     rintro Zn4o1_10545 ao4o2_10545 cap4o3_10545 b9o1_10545 hf4o4_10545
     refine WD.new (i:=8) (dd:=11) rfl (by kernel_rfl) rfl rfl rfl (yv (cs:=[(.int .i64 0),(.int .i64 0),(.int .u8 0),(.int .u8 0),(.int .u8 0),(.int .u8 0)]) y1o rfl) (fun h'=>absurd h' (by decide)) ?_
     intro b8o1_10545 _
     exact WD.reL (.cons .h1 (.cons .here (.cons .here (.cons .here (.cons .here (.cons .here (.cons .here (.cons .here .nil)))))))) (.cons rfl (.cons rfl (.cons rfl (.cons rfl (.cons rfl (.cons rfl (.cons rfl .nil))))))) (K4o5o6o7o8o9_10545 Zn4o1_10545 ao4o2_10545 cap4o3_10545 b8o1_10545 b9o1_10545 hf4o4_10545)
    refine WD.mids3 (fuel':=4) (fun (Zn4o1_10545 : Zp) (ao4o2_10545 : Option Addr) (cap4o3_10545 : Nat)=>[(1,(.slice z26 z1w.length z27)),(8,(.pointer (some ⟨z21,0,none⟩))),(10,(.pointer (some ⟨z22,0,none⟩))),(72,(.agg #[(.int .i64 zJ.1.fPc),(.int .i64 zJ.1.fLeft),(.int .u8 zJ.1.fRegs.a0),(.int .u8 zJ.1.fRegs.a1),(.int .u8 zJ.1.fRegs.a2),(.int .u8 zJ.1.fRegs.a3)])),(73,(.agg #[(.int .u8 zJ.2.fKind),(.int .i64 zJ.2.fA),(.int .i64 zJ.2.fB),(.slice ao4o2_10545 zJ.2.fData.length cap4o3_10545)]))]) (fun (Zn4o1_10545 : Zp) (ao4o2_10545 : Option Addr) (cap4o3_10545 : Nat)=>[fz (((z1x ++ z2d) ++ z2e) ++ Zn4o1_10545),stb z22 41 [(.int .u8 zt.2.fKind),(.int .i64 zt.2.fA),(.int .i64 zt.2.fB),(.slice z45 zt.2.fData.length z47)],stb z48 39 [(.int .i64 zt.1.fPc),(.int .i64 zt.1.fLeft),(.int .u8 zt.1.fRegs.a0),(.int .u8 zt.1.fRegs.a1),(.int .u8 zt.1.fRegs.a2),(.int .u8 zt.1.fRegs.a3)],stb z21 41 [(.int .u8 zr.2.fKind),(.int .i64 zr.2.fA),(.int .i64 zr.2.fB),(.slice z42 zr.2.fData.length z43)],stb z44 39 [(.int .i64 zr.1.fPc),(.int .i64 zr.1.fLeft),(.int .u8 zr.1.fRegs.a0),(.int .u8 zr.1.fRegs.a1),(.int .u8 zr.1.fRegs.a2),(.int .u8 zr.1.fRegs.a3)],stb b2o1_10186 39 [(.int .i64 z1A),(.int .i64 z1B),(.int .u8 z1C),(.int .u8 z1D),(.int .u8 z1E),(.int .u8 z1F)]]) (fun (Zn4o1_10545 : Zp) (ao4o2_10545 : Option Addr) (cap4o3_10545 : Nat)=>(ZS ((Z ++ ((z1x ++ z2d) ++ z2e)) ++ Zn4o1_10545) 1 (fun zJ x=>zJ = e5 x) ao4o2_10545 cap4o3_10545 zJ.2.fData)) (y1y 12 [7,6,5,4,3,2,1,0]) ?_ (fun K4o5o6o7_10545=>?_)
    ·skip
     rintro Zn4o1_10545 ao4o2_10545 cap4o3_10545 hf4o4_10545
     refine WD.choose [8,9] (by kernel_rfl) rfl ?_
     refine WDo.cons ?_ (WDo.cons ?_ (WDo.nil))
     ·refine WDo.new (i:=8) (dd:=11) rfl rfl rfl rfl (yv (cs:=[(.int .i64 0),(.int .i64 0),(.int .u8 0),(.int .u8 0),(.int .u8 0),(.int .u8 0)]) y1o rfl) (fun h'=>absurd h' (by decide)) ?_
      intro b8o1_10545 _
      exact WD.reL (.cons .here (.cons .here (.cons .here (.cons .here (.cons .here (.cons .here (.cons .here .nil))))))) (.cons rfl (.cons rfl (.cons rfl (.cons rfl (.cons rfl (.cons rfl .nil)))))) (K4o5o6o7o8_10545 Zn4o1_10545 ao4o2_10545 cap4o3_10545 b8o1_10545 hf4o4_10545)
     ·refine WDo.new (i:=9) (dd:=12) rfl rfl rfl rfl (yv (cs:=[(.int .u8 0),(.int .i64 0),(.int .i64 0),(.slice none 0 0)]) y1X rfl) (fun h'=>absurd h' (by decide)) ?_
      intro b9o1_10545 _
      exact WD.reL (.cons .here (.cons .here (.cons .here (.cons .here (.cons .here (.cons .here (.cons .here .nil))))))) (.cons rfl (.cons rfl (.cons rfl (.cons rfl (.cons rfl (.cons rfl .nil)))))) (K4o5o6o7o9_10545 Zn4o1_10545 ao4o2_10545 cap4o3_10545 b9o1_10545 hf4o4_10545)
    refine WD.y4T (fuel':=6) (fun (b8o1_10545 : Nat) (b9o1_10545 : Nat)=>[(1,(.slice z26 z1w.length z27)),(8,(.pointer (some ⟨z21,0,none⟩))),(10,(.pointer (some ⟨z22,0,none⟩))),(67,(.slice z26 z1w.length z27)),(68,(.agg #[(.int .i64 z1A),(.int .i64 z1B),(.int .u8 z1C),(.int .u8 z1D),(.int .u8 z1E),(.int .u8 z1F)])),(70,(.slice z9n ((z2k.take (20 : Int).toNat).length) z9o)),(11,(.pointer (some ⟨b8o1_10545,0,none⟩))),(12,(.pointer (some ⟨b9o1_10545,0,none⟩)))]) (fun (b8o1_10545 : Nat) (b9o1_10545 : Nat)=>[stb b9o1_10545 41 [(.int .u8 0),(.int .i64 0),(.int .i64 0),(.slice none 0 0)],stb b8o1_10545 39 [(.int .i64 0),(.int .i64 0),(.int .u8 0),(.int .u8 0),(.int .u8 0),(.int .u8 0)],stb z22 41 [(.int .u8 zt.2.fKind),(.int .i64 zt.2.fA),(.int .i64 zt.2.fB),(.slice z45 zt.2.fData.length z47)],stb z48 39 [(.int .i64 zt.1.fPc),(.int .i64 zt.1.fLeft),(.int .u8 zt.1.fRegs.a0),(.int .u8 zt.1.fRegs.a1),(.int .u8 zt.1.fRegs.a2),(.int .u8 zt.1.fRegs.a3)],fz ((z1x ++ z2d) ++ z2e),stb z21 41 [(.int .u8 zr.2.fKind),(.int .i64 zr.2.fA),(.int .i64 zr.2.fB),(.slice z42 zr.2.fData.length z43)],stb z44 39 [(.int .i64 zr.1.fPc),(.int .i64 zr.1.fLeft),(.int .u8 zr.1.fRegs.a0),(.int .u8 zr.1.fRegs.a1),(.int .u8 zr.1.fRegs.a2),(.int .u8 zr.1.fRegs.a3)],stb b2o1_10186 39 [(.int .i64 z1A),(.int .i64 z1B),(.int .u8 z1C),(.int .u8 z1D),(.int .u8 z1E),(.int .u8 z1F)]]) (fun (b8o1_10545 : Nat) (b9o1_10545 : Nat)=>True) (y1y 12 [9,8,3,2,1,0]) ?_ (fun K8o9_10545=>?_)
    ·skip
     rintro b8o1_10545 b9o1_10545 _
     refine WD.call3 (i:=4) (dd:=71) rfl (by kernel_rfl) rfl rfl rfl (.inr rfl) (zK (l:=[.tmp 67,.tmp 68,.tmp 70]) Tryd.call18 (.cons rfl (.cons rfl (.cons rfl .nil)))) .nil (ccz hz .nil .h4 fun w pz ho=>y1d _ _ _ _ _ _ _ _ _ z7P w pz (hG0.mono ((Zle.left _ _).trans (z1s.trans ((Zle.left _ _).trans ((Zle.y5 _ _ _).trans ((Zle.left _ _).trans (Zle.y5 _ _ _))))))) ((hG1.mono ((Zle.left _ _).trans (z1s.trans ((Zle.left _ _).trans ((Zle.y5 _ _ _).trans ((Zle.left _ _).trans (Zle.y5 _ _ _))))))).weak (fun _ _ h=>yQ ((Zle.left _ _).trans (z1s.trans ((Zle.left _ _).trans ((Zle.y5 _ _ _).trans ((Zle.left _ _).trans (Zle.y5 _ _ _)))))) h)) (z5m.mono ((Zle.left _ _).trans ((Zle.y5 _ _ _).trans ((Zle.left _ _).trans (Zle.y5 _ _ _))))) z7Q) ?_
     rintro Zn4o1_10545 ao4o2_10545 cap4o3_10545 hf4o4_10545
     refine WD.merge .here .h4 ?_
     refine WD.a (i:=5) (d:=66) (by kernel_rfl) rfl z7 z8 rfl rfl rfl (fun _=>q_m rfl) ?_
     refine WD.a (i:=6) (d:=72) (by kernel_rfl) rfl z7 z8 rfl rfl rfl (fun _=>y23 rfl rfl) ?_
     refine WD.a (i:=7) (d:=73) (by kernel_rfl) rfl z7 z8 rfl rfl rfl (fun _=>y23 rfl rfl) ?_
     exact WD.reL (.cons .h1 (.cons .h1 (.cons .here (.cons .here (.cons .here (.cons .here (.cons .here (.cons .here .nil)))))))) (.cons rfl (.cons rfl (.cons rfl (.cons rfl (.cons rfl (.cons rfl (.cons rfl .nil))))))) (K4o5o6o7o8o9_10545 Zn4o1_10545 ao4o2_10545 cap4o3_10545 b8o1_10545 b9o1_10545 hf4o4_10545)
    refine WD.y3l (fuel':=7) (fun (b8o1_10545 : Nat)=>[(1,(.slice z26 z1w.length z27)),(8,(.pointer (some ⟨z21,0,none⟩))),(10,(.pointer (some ⟨z22,0,none⟩))),(67,(.slice z26 z1w.length z27)),(68,(.agg #[(.int .i64 z1A),(.int .i64 z1B),(.int .u8 z1C),(.int .u8 z1D),(.int .u8 z1E),(.int .u8 z1F)])),(70,(.slice z9n ((z2k.take (20 : Int).toNat).length) z9o)),(11,(.pointer (some ⟨b8o1_10545,0,none⟩)))]) (fun (b8o1_10545 : Nat)=>[stb b8o1_10545 39 [(.int .i64 0),(.int .i64 0),(.int .u8 0),(.int .u8 0),(.int .u8 0),(.int .u8 0)],stb z22 41 [(.int .u8 zt.2.fKind),(.int .i64 zt.2.fA),(.int .i64 zt.2.fB),(.slice z45 zt.2.fData.length z47)],stb z48 39 [(.int .i64 zt.1.fPc),(.int .i64 zt.1.fLeft),(.int .u8 zt.1.fRegs.a0),(.int .u8 zt.1.fRegs.a1),(.int .u8 zt.1.fRegs.a2),(.int .u8 zt.1.fRegs.a3)],fz ((z1x ++ z2d) ++ z2e),stb z21 41 [(.int .u8 zr.2.fKind),(.int .i64 zr.2.fA),(.int .i64 zr.2.fB),(.slice z42 zr.2.fData.length z43)],stb z44 39 [(.int .i64 zr.1.fPc),(.int .i64 zr.1.fLeft),(.int .u8 zr.1.fRegs.a0),(.int .u8 zr.1.fRegs.a1),(.int .u8 zr.1.fRegs.a2),(.int .u8 zr.1.fRegs.a3)],stb b2o1_10186 39 [(.int .i64 z1A),(.int .i64 z1B),(.int .u8 z1C),(.int .u8 z1D),(.int .u8 z1E),(.int .u8 z1F)]]) (fun (b8o1_10545 : Nat)=>True) (y1y 12 [8,3,2,1,0]) ?_ (fun K8_10545=>?_)
    ·skip
     rintro b8o1_10545 _
     refine WD.choose [4,9] (by kernel_rfl) rfl ?_
     refine WDo.cons ?_ (WDo.cons ?_ (WDo.nil))
     ·refine WDo.call3 (i:=4) (dd:=71) rfl rfl rfl rfl (.inr rfl) (zK (l:=[.tmp 67,.tmp 68,.tmp 70]) Tryd.call18 (.cons rfl (.cons rfl (.cons rfl .nil)))) .nil (ccz hz .nil .h3 fun w pz ho=>y1d _ _ _ _ _ _ _ _ _ z7P w pz (hG0.mono ((Zle.left _ _).trans (z1s.trans ((Zle.left _ _).trans ((Zle.y5 _ _ _).trans ((Zle.left _ _).trans (Zle.y5 _ _ _))))))) ((hG1.mono ((Zle.left _ _).trans (z1s.trans ((Zle.left _ _).trans ((Zle.y5 _ _ _).trans ((Zle.left _ _).trans (Zle.y5 _ _ _))))))).weak (fun _ _ h=>yQ ((Zle.left _ _).trans (z1s.trans ((Zle.left _ _).trans ((Zle.y5 _ _ _).trans ((Zle.left _ _).trans (Zle.y5 _ _ _)))))) h)) (z5m.mono ((Zle.left _ _).trans ((Zle.y5 _ _ _).trans ((Zle.left _ _).trans (Zle.y5 _ _ _))))) z7Q) ?_
      rintro Zn4o1_10545 ao4o2_10545 cap4o3_10545 hf4o4_10545
      refine WD.merge .here .h3 ?_
      refine WD.a (i:=5) (d:=66) (by kernel_rfl) rfl z7 z8 rfl rfl rfl (fun _=>q_m rfl) ?_
      refine WD.a (i:=6) (d:=72) (by kernel_rfl) rfl z7 z8 rfl rfl rfl (fun _=>y23 rfl rfl) ?_
      refine WD.a (i:=7) (d:=73) (by kernel_rfl) rfl z7 z8 rfl rfl rfl (fun _=>y23 rfl rfl) ?_
      exact WD.reL (.cons .h1 (.cons .here (.cons .here (.cons .here (.cons .here (.cons .here (.cons .here .nil))))))) (.cons rfl (.cons rfl (.cons rfl (.cons rfl (.cons rfl (.cons rfl .nil)))))) (K4o5o6o7o8_10545 Zn4o1_10545 ao4o2_10545 cap4o3_10545 b8o1_10545 hf4o4_10545)
     ·refine WDo.new (i:=9) (dd:=12) rfl rfl rfl rfl (yv (cs:=[(.int .u8 0),(.int .i64 0),(.int .i64 0),(.slice none 0 0)]) y1X rfl) (fun h'=>absurd h' (by decide)) ?_
      intro b9o1_10545 _
      exact WD.reL (.cons .here (.cons .here (.cons .here (.cons .here (.cons .here (.cons .here (.cons .here (.cons .here .nil)))))))) (.cons rfl (.cons rfl (.cons rfl (.cons rfl (.cons rfl (.cons rfl (.cons rfl (.cons rfl .nil)))))))) (K8o9_10545 b8o1_10545 b9o1_10545 trivial)
    refine WD.y3l (fuel':=7) (fun (b9o1_10545 : Nat)=>[(1,(.slice z26 z1w.length z27)),(8,(.pointer (some ⟨z21,0,none⟩))),(10,(.pointer (some ⟨z22,0,none⟩))),(67,(.slice z26 z1w.length z27)),(68,(.agg #[(.int .i64 z1A),(.int .i64 z1B),(.int .u8 z1C),(.int .u8 z1D),(.int .u8 z1E),(.int .u8 z1F)])),(70,(.slice z9n ((z2k.take (20 : Int).toNat).length) z9o)),(12,(.pointer (some ⟨b9o1_10545,0,none⟩)))]) (fun (b9o1_10545 : Nat)=>[stb b9o1_10545 41 [(.int .u8 0),(.int .i64 0),(.int .i64 0),(.slice none 0 0)],stb z22 41 [(.int .u8 zt.2.fKind),(.int .i64 zt.2.fA),(.int .i64 zt.2.fB),(.slice z45 zt.2.fData.length z47)],stb z48 39 [(.int .i64 zt.1.fPc),(.int .i64 zt.1.fLeft),(.int .u8 zt.1.fRegs.a0),(.int .u8 zt.1.fRegs.a1),(.int .u8 zt.1.fRegs.a2),(.int .u8 zt.1.fRegs.a3)],fz ((z1x ++ z2d) ++ z2e),stb z21 41 [(.int .u8 zr.2.fKind),(.int .i64 zr.2.fA),(.int .i64 zr.2.fB),(.slice z42 zr.2.fData.length z43)],stb z44 39 [(.int .i64 zr.1.fPc),(.int .i64 zr.1.fLeft),(.int .u8 zr.1.fRegs.a0),(.int .u8 zr.1.fRegs.a1),(.int .u8 zr.1.fRegs.a2),(.int .u8 zr.1.fRegs.a3)],stb b2o1_10186 39 [(.int .i64 z1A),(.int .i64 z1B),(.int .u8 z1C),(.int .u8 z1D),(.int .u8 z1E),(.int .u8 z1F)]]) (fun (b9o1_10545 : Nat)=>True) (y1y 12 [9,3,2,1,0]) ?_ (fun K9_10545=>?_)
    ·skip
     rintro b9o1_10545 _
     refine WD.choose [4,8] (by kernel_rfl) rfl ?_
     refine WDo.cons ?_ (WDo.cons ?_ (WDo.nil))
     ·refine WDo.call3 (i:=4) (dd:=71) rfl rfl rfl rfl (.inr rfl) (zK (l:=[.tmp 67,.tmp 68,.tmp 70]) Tryd.call18 (.cons rfl (.cons rfl (.cons rfl .nil)))) .nil (ccz hz .nil .h3 fun w pz ho=>y1d _ _ _ _ _ _ _ _ _ z7P w pz (hG0.mono ((Zle.left _ _).trans (z1s.trans ((Zle.left _ _).trans ((Zle.y5 _ _ _).trans ((Zle.left _ _).trans (Zle.y5 _ _ _))))))) ((hG1.mono ((Zle.left _ _).trans (z1s.trans ((Zle.left _ _).trans ((Zle.y5 _ _ _).trans ((Zle.left _ _).trans (Zle.y5 _ _ _))))))).weak (fun _ _ h=>yQ ((Zle.left _ _).trans (z1s.trans ((Zle.left _ _).trans ((Zle.y5 _ _ _).trans ((Zle.left _ _).trans (Zle.y5 _ _ _)))))) h)) (z5m.mono ((Zle.left _ _).trans ((Zle.y5 _ _ _).trans ((Zle.left _ _).trans (Zle.y5 _ _ _))))) z7Q) ?_
      rintro Zn4o1_10545 ao4o2_10545 cap4o3_10545 hf4o4_10545
      refine WD.merge .here .h3 ?_
      refine WD.a (i:=5) (d:=66) (by kernel_rfl) rfl z7 z8 rfl rfl rfl (fun _=>q_m rfl) ?_
      refine WD.a (i:=6) (d:=72) (by kernel_rfl) rfl z7 z8 rfl rfl rfl (fun _=>y23 rfl rfl) ?_
      refine WD.a (i:=7) (d:=73) (by kernel_rfl) rfl z7 z8 rfl rfl rfl (fun _=>y23 rfl rfl) ?_
      exact WD.reL (.cons .h1 (.cons .here (.cons .here (.cons .here (.cons .here (.cons .here (.cons .here .nil))))))) (.cons rfl (.cons rfl (.cons rfl (.cons rfl (.cons rfl (.cons rfl .nil)))))) (K4o5o6o7o9_10545 Zn4o1_10545 ao4o2_10545 cap4o3_10545 b9o1_10545 hf4o4_10545)
     ·refine WDo.new (i:=8) (dd:=11) rfl rfl rfl rfl (yv (cs:=[(.int .i64 0),(.int .i64 0),(.int .u8 0),(.int .u8 0),(.int .u8 0),(.int .u8 0)]) y1o rfl) (fun h'=>absurd h' (by decide)) ?_
      intro b8o1_10545 _
      exact WD.reL (.cons .h1 (.cons .here (.cons .here (.cons .here (.cons .here (.cons .here (.cons .here (.cons .here .nil)))))))) (.cons rfl (.cons rfl (.cons rfl (.cons rfl (.cons rfl (.cons rfl (.cons rfl (.cons rfl .nil)))))))) (K8o9_10545 b8o1_10545 b9o1_10545 trivial)
    refine WD.choose [4,8,9] (by kernel_rfl) rfl ?_
    refine WDo.cons ?_ (WDo.cons ?_ (WDo.cons ?_ (WDo.nil)))
    ·refine WDo.call3 (i:=4) (dd:=71) rfl rfl rfl rfl (.inr rfl) (zK (l:=[.tmp 67,.tmp 68,.tmp 70]) Tryd.call18 (.cons rfl (.cons rfl (.cons rfl .nil)))) .nil (ccz hz .nil .h2 fun w pz ho=>y1d _ _ _ _ _ _ _ _ _ z7P w pz (hG0.mono ((Zle.left _ _).trans (z1s.trans ((Zle.left _ _).trans ((Zle.y5 _ _ _).trans ((Zle.left _ _).trans (Zle.y5 _ _ _))))))) ((hG1.mono ((Zle.left _ _).trans (z1s.trans ((Zle.left _ _).trans ((Zle.y5 _ _ _).trans ((Zle.left _ _).trans (Zle.y5 _ _ _))))))).weak (fun _ _ h=>yQ ((Zle.left _ _).trans (z1s.trans ((Zle.left _ _).trans ((Zle.y5 _ _ _).trans ((Zle.left _ _).trans (Zle.y5 _ _ _)))))) h)) (z5m.mono ((Zle.left _ _).trans ((Zle.y5 _ _ _).trans ((Zle.left _ _).trans (Zle.y5 _ _ _))))) z7Q) ?_
     rintro Zn4o1_10545 ao4o2_10545 cap4o3_10545 hf4o4_10545
     refine WD.merge .here .h2 ?_
     refine WD.a (i:=5) (d:=66) (by kernel_rfl) rfl z7 z8 rfl rfl rfl (fun _=>q_m rfl) ?_
     refine WD.a (i:=6) (d:=72) (by kernel_rfl) rfl z7 z8 rfl rfl rfl (fun _=>y23 rfl rfl) ?_
     refine WD.a (i:=7) (d:=73) (by kernel_rfl) rfl z7 z8 rfl rfl rfl (fun _=>y23 rfl rfl) ?_
     exact WD.reL (.cons .here (.cons .here (.cons .here (.cons .here (.cons .here (.cons .here .nil)))))) (.cons rfl (.cons rfl (.cons rfl (.cons rfl (.cons rfl .nil))))) (K4o5o6o7_10545 Zn4o1_10545 ao4o2_10545 cap4o3_10545 hf4o4_10545)
    ·refine WDo.new (i:=8) (dd:=11) rfl rfl rfl rfl (yv (cs:=[(.int .i64 0),(.int .i64 0),(.int .u8 0),(.int .u8 0),(.int .u8 0),(.int .u8 0)]) y1o rfl) (fun h'=>absurd h' (by decide)) ?_
     intro b8o1_10545 _
     exact WD.reL (.cons .here (.cons .here (.cons .here (.cons .here (.cons .here (.cons .here (.cons .here .nil))))))) (.cons rfl (.cons rfl (.cons rfl (.cons rfl (.cons rfl (.cons rfl (.cons rfl .nil))))))) (K8_10545 b8o1_10545 trivial)
    ·refine WDo.new (i:=9) (dd:=12) rfl rfl rfl rfl (yv (cs:=[(.int .u8 0),(.int .i64 0),(.int .i64 0),(.slice none 0 0)]) y1X rfl) (fun h'=>absurd h' (by decide)) ?_
     intro b9o1_10545 _
     exact WD.reL (.cons .here (.cons .here (.cons .here (.cons .here (.cons .here (.cons .here (.cons .here .nil))))))) (.cons rfl (.cons rfl (.cons rfl (.cons rfl (.cons rfl (.cons rfl (.cons rfl .nil))))))) (K9_10545 b9o1_10545 trivial)
 refine WD.y4T (fuel':=2) (fun (b1o1_10186 : Nat) (b2o1_10186 : Nat)=>[(1,(.slice (some ⟨z2S,0,none⟩) (([z1P,z1Q,z1R,z1S,z1T] : List Sapi_Ins).length) 5)),(31,(.agg #[(.int .i64 0),(.int .i64 0),(.int .u8 0),(.int .u8 0),(.int .u8 0),(.int .u8 0)])),(32,(.slice (some ⟨b1o1_10186,0,none⟩) ((List.replicate (32 : Int).toNat (0 : Int)).length) ((32 : Int).toNat))),(2,(.pointer (some ⟨b2o1_10186,0,none⟩)))]) (fun (b1o1_10186 : Nat) (b2o1_10186 : Nat)=>[stb b2o1_10186 39 [(.int .i64 0),(.int .i64 0),(.int .u8 0),(.int .u8 0),(.int .u8 0),(.int .u8 0)],row (.slice (some ⟨b1o1_10186,0,none⟩) ((List.replicate (32 : Int).toNat (0 : Int)).length) ((32 : Int).toNat)) 5 1 ((List.replicate (32 : Int).toNat (0 : Int)).flatMap e5),row (.slice (some ⟨z2S,0,none⟩) (([z1P,z1Q,z1R,z1S,z1T] : List Sapi_Ins).length) 5) 33 4 (([z1P,z1Q,z1R,z1S,z1T] : List Sapi_Ins).flatMap e33),row (.slice (some ⟨z7b,0,none⟩) (([1,16,0] : List Int).length) 3) 3 1 (([1,16,0] : List Int).flatMap e3),row (.slice (some ⟨z7a,0,none⟩) (([1,0] : List Int).length) 2) 3 1 (([1,0] : List Int).flatMap e3),row (.slice (some ⟨z79,0,none⟩) (([3] : List Int).length) 1) 3 1 (([3] : List Int).flatMap e3),row (.slice (some ⟨z78,0,none⟩) (([0,5] : List Int).length) 2) 3 1 (([0,5] : List Int).flatMap e3),fz []]) (fun (b1o1_10186 : Nat) (b2o1_10186 : Nat)=>True) (y1y 5 [2,1,0]) ?_ (fun K1o2_10186=>?_)
 ·skip
  rintro b1o1_10186 b2o1_10186 _
  refine WD.forced0 (i:=3) rfl (by kernel_rfl) rfl rfl rfl (Sin.of .nil) (ys y21 rfl rfl rfl .here rfl rfl rfl) ?_
  refine WD.a (i:=4) (d:=3) (by kernel_rfl) rfl z7 z8 rfl rfl rfl (fun _=>q_z rfl) ?_
  exact WD.reL (.cons .here (.cons .here (.cons .here (.cons .here (.cons .here (.cons .here (.cons .here (.cons .here .nil)))))))) (.cons rfl (.cons rfl (.cons rfl .nil))) (K1o2o3o4_10186 b1o1_10186 b2o1_10186 trivial)
 refine WD.y3l (fuel':=2) (fun (b2o1_10186 : Nat)=>[(1,(.slice (some ⟨z2S,0,none⟩) (([z1P,z1Q,z1R,z1S,z1T] : List Sapi_Ins).length) 5)),(2,(.pointer (some ⟨b2o1_10186,0,none⟩)))]) (fun (b2o1_10186 : Nat)=>[stb b2o1_10186 39 [(.int .i64 0),(.int .i64 0),(.int .u8 0),(.int .u8 0),(.int .u8 0),(.int .u8 0)],row (.slice (some ⟨z2S,0,none⟩) (([z1P,z1Q,z1R,z1S,z1T] : List Sapi_Ins).length) 5) 33 4 (([z1P,z1Q,z1R,z1S,z1T] : List Sapi_Ins).flatMap e33),row (.slice (some ⟨z7b,0,none⟩) (([1,16,0] : List Int).length) 3) 3 1 (([1,16,0] : List Int).flatMap e3),row (.slice (some ⟨z7a,0,none⟩) (([1,0] : List Int).length) 2) 3 1 (([1,0] : List Int).flatMap e3),row (.slice (some ⟨z79,0,none⟩) (([3] : List Int).length) 1) 3 1 (([3] : List Int).flatMap e3),row (.slice (some ⟨z78,0,none⟩) (([0,5] : List Int).length) 2) 3 1 (([0,5] : List Int).flatMap e3),fz []]) (fun (b2o1_10186 : Nat)=>True) (y1y 5 [3,2,0]) ?_ (fun K2o3_10186=>?_)
 ·skip
  rintro b2o1_10186 _
  refine WD.new (i:=1) (dd:=32) rfl (by kernel_rfl) rfl rfl rfl (y2D (r:=[(.int .u8 0)]) (z0:=(0 : Int)) y1W y3L rfl rfl rfl rfl z9g) (fun h'=>absurd h' (by decide)) ?_
  intro b1o1_10186 _
  refine WD.rowEqD .here (cs':=(List.replicate (32 : Int).toNat (0 : Int)).flatMap e5) (y3n (enc:=e5) (0 : Int) _) ?_
  refine WD.a (i:=4) (d:=3) (by kernel_rfl) rfl z7 z8 rfl rfl rfl (fun _=>q_z rfl) ?_
  exact WD.reL (.cons .h1 (.cons .here (.cons .here (.cons .here (.cons .here (.cons .here (.cons .here (.cons .here .nil)))))))) (.cons rfl (.cons rfl (.cons rfl .nil))) (K1o2o3o4_10186 b1o1_10186 b2o1_10186 trivial)
 refine WD.y3l (fuel':=3) (fun (b1o1_10186 : Nat)=>[(1,(.slice (some ⟨z2S,0,none⟩) (([z1P,z1Q,z1R,z1S,z1T] : List Sapi_Ins).length) 5)),(31,(.agg #[(.int .i64 0),(.int .i64 0),(.int .u8 0),(.int .u8 0),(.int .u8 0),(.int .u8 0)])),(32,(.slice (some ⟨b1o1_10186,0,none⟩) ((List.replicate (32 : Int).toNat (0 : Int)).length) ((32 : Int).toNat)))]) (fun (b1o1_10186 : Nat)=>[row (.slice (some ⟨b1o1_10186,0,none⟩) ((List.replicate (32 : Int).toNat (0 : Int)).length) ((32 : Int).toNat)) 5 1 ((List.replicate (32 : Int).toNat (0 : Int)).flatMap e5),row (.slice (some ⟨z2S,0,none⟩) (([z1P,z1Q,z1R,z1S,z1T] : List Sapi_Ins).length) 5) 33 4 (([z1P,z1Q,z1R,z1S,z1T] : List Sapi_Ins).flatMap e33),row (.slice (some ⟨z7b,0,none⟩) (([1,16,0] : List Int).length) 3) 3 1 (([1,16,0] : List Int).flatMap e3),row (.slice (some ⟨z7a,0,none⟩) (([1,0] : List Int).length) 2) 3 1 (([1,0] : List Int).flatMap e3),row (.slice (some ⟨z79,0,none⟩) (([3] : List Int).length) 1) 3 1 (([3] : List Int).flatMap e3),row (.slice (some ⟨z78,0,none⟩) (([0,5] : List Int).length) 2) 3 1 (([0,5] : List Int).flatMap e3),fz []]) (fun (b1o1_10186 : Nat)=>True) (y1y 5 [1,0]) ?_ (fun K1_10186=>?_)
 ·skip
  rintro b1o1_10186 _
  refine WD.new (i:=2) (dd:=2) rfl (by kernel_rfl) rfl rfl rfl (yv (cs:=[(.int .i64 0),(.int .i64 0),(.int .u8 0),(.int .u8 0),(.int .u8 0),(.int .u8 0)]) y1o rfl) (fun h'=>absurd h' (by decide)) ?_
  intro b2o1_10186 _
  exact WD.reL (.cons .here (.cons .here (.cons .here (.cons .here (.cons .here (.cons .here (.cons .here (.cons .here .nil)))))))) (.cons rfl (.cons rfl (.cons rfl (.cons rfl .nil)))) (K1o2_10186 b1o1_10186 b2o1_10186 trivial)
 refine WD.y3l (fuel':=3) (fun (b2o1_10186 : Nat)=>[(1,(.slice (some ⟨z2S,0,none⟩) (([z1P,z1Q,z1R,z1S,z1T] : List Sapi_Ins).length) 5)),(31,(.agg #[(.int .i64 0),(.int .i64 0),(.int .u8 0),(.int .u8 0),(.int .u8 0),(.int .u8 0)])),(2,(.pointer (some ⟨b2o1_10186,0,none⟩)))]) (fun (b2o1_10186 : Nat)=>[stb b2o1_10186 39 [(.int .i64 0),(.int .i64 0),(.int .u8 0),(.int .u8 0),(.int .u8 0),(.int .u8 0)],row (.slice (some ⟨z2S,0,none⟩) (([z1P,z1Q,z1R,z1S,z1T] : List Sapi_Ins).length) 5) 33 4 (([z1P,z1Q,z1R,z1S,z1T] : List Sapi_Ins).flatMap e33),row (.slice (some ⟨z7b,0,none⟩) (([1,16,0] : List Int).length) 3) 3 1 (([1,16,0] : List Int).flatMap e3),row (.slice (some ⟨z7a,0,none⟩) (([1,0] : List Int).length) 2) 3 1 (([1,0] : List Int).flatMap e3),row (.slice (some ⟨z79,0,none⟩) (([3] : List Int).length) 1) 3 1 (([3] : List Int).flatMap e3),row (.slice (some ⟨z78,0,none⟩) (([0,5] : List Int).length) 2) 3 1 (([0,5] : List Int).flatMap e3),fz []]) (fun (b2o1_10186 : Nat)=>True) (y1y 5 [2,0]) ?_ (fun K2_10186=>?_)
 ·skip
  rintro b2o1_10186 _
  refine WD.choose [1,3] (by kernel_rfl) rfl ?_
  refine WDo.cons ?_ (WDo.cons ?_ (WDo.nil))
  ·refine WDo.new (i:=1) (dd:=32) rfl rfl rfl rfl (y2D (r:=[(.int .u8 0)]) (z0:=(0 : Int)) y1W y3L rfl rfl rfl rfl z9g) (fun h'=>absurd h' (by decide)) ?_
   intro b1o1_10186 _
   refine WD.rowEqD .here (cs':=(List.replicate (32 : Int).toNat (0 : Int)).flatMap e5) (y3n (enc:=e5) (0 : Int) _) ?_
   exact WD.reL (.cons .h1 (.cons .here (.cons .here (.cons .here (.cons .here (.cons .here (.cons .here (.cons .here .nil)))))))) (.cons rfl (.cons rfl (.cons rfl (.cons rfl .nil)))) (K1o2_10186 b1o1_10186 b2o1_10186 trivial)
  ·refine WDo.forced0 (i:=3) rfl rfl rfl rfl (Sin.of .nil) (ys y21 rfl rfl rfl .here rfl rfl rfl) ?_
   exact WD.reL (.cons .here (.cons .here (.cons .here (.cons .here (.cons .here (.cons .here (.cons .here .nil))))))) (.cons rfl (.cons rfl .nil)) (K2o3_10186 b2o1_10186 trivial)
 refine WD.choose [1,2] (by kernel_rfl) rfl ?_
 refine WDo.cons ?_ (WDo.cons ?_ (WDo.nil))
 ·refine WDo.new (i:=1) (dd:=32) rfl rfl rfl rfl (y2D (r:=[(.int .u8 0)]) (z0:=(0 : Int)) y1W y3L rfl rfl rfl rfl z9g) (fun h'=>absurd h' (by decide)) ?_
  intro b1o1_10186 _
  refine WD.rowEqD .here (cs':=(List.replicate (32 : Int).toNat (0 : Int)).flatMap e5) (y3n (enc:=e5) (0 : Int) _) ?_
  exact WD.reL (.cons .here (.cons .here (.cons .here (.cons .here (.cons .here (.cons .here (.cons .here .nil))))))) (.cons rfl (.cons rfl (.cons rfl .nil))) (K1_10186 b1o1_10186 trivial)
 ·refine WDo.new (i:=2) (dd:=2) rfl rfl rfl rfl (yv (cs:=[(.int .i64 0),(.int .i64 0),(.int .u8 0),(.int .u8 0),(.int .u8 0),(.int .u8 0)]) y1o rfl) (fun h'=>absurd h' (by decide)) ?_
  intro b2o1_10186 _
  exact WD.reL (.cons .here (.cons .here (.cons .here (.cons .here (.cons .here (.cons .here (.cons .here .nil))))))) (.cons rfl (.cons rfl (.cons rfl .nil))) (K2_10186 b2o1_10186 trivial)
end Go.Proofs.YtjdnejbngloieaaDoor

/- A part of this claim's proof: models of functions, walks, plain laws. No conditions. -/
import Derived.Test.YtjdnejbngloieaaDoorW26b
namespace Go.Proofs.YtjdnejbngloieaaDoor
open Go Go.RowKit Sep
set_option linter.all false
set_option maxRecDepth 30000
set_option maxHeartbeats 4000000
def y1u (z3X : (List Sapi_Ins) → (List Int) → Int → Int → Int → Int → Int → Int → Option Bool) : Nat → (List Sapi_Ins) → (List Int) → Int → Int → Int → Int → Int → Int → Int → Option Bool
 | 0,_,_,_,_,_,_,_,_,_=>none
 | z93 + 1,z2i,z2j,z2B,z2C,z2D,z2E,z2F,z2G,z2H=>if decide (z2B < 5) then (y1M z2i (⟨z2C,z2D,(⟨z2E,z2F,z2G,z2H⟩ : S34)⟩ : Sproc_State) z2j).bind fun z2n=>if decide (z2n.2.fKind ≠ 0) then some false else y1u z3X z93 z2i z2j (i64 (z2B + 1)) z2n.1.fPc z2n.1.fLeft z2n.1.fRegs.a0 z2n.1.fRegs.a1 z2n.1.fRegs.a2 z2n.1.fRegs.a3 else z3X z2i z2j z2C z2D z2E z2F z2G z2H
theorem y43 {n : Nat} {z3X : (List Sapi_Ins) → (List Int) → Int → Int → Int → Int → Int → Int → Option Bool} {z2i : List Sapi_Ins} {z2j : List Int} {z2B : Int} {z2C : Int} {z2D : Int} {z2E : Int} {z2F : Int} {z2G : Int} {z2H : Int} {r : Bool} (h : y1u z3X n z2i z2j z2B z2C z2D z2E z2F z2G z2H = some r) : ∃ m,n = m + 1:=by
 cases n with
 | zero=>cases h
 | succ m=>exact ⟨m,rfl⟩
def y2E  : Option Bool :=
 (yY 2 ([0,5] : List Int)).bind fun z1Q=>(yY 1 ([3] : List Int)).bind fun z1R=>(yY 3 ([1,0] : List Int)).bind fun z1S=>(yY 6 ([1,16,0] : List Int)).bind fun z1T=>(yY 19 []).bind fun z1U=>chk ((0 : Int) ≤ 32 ∧ (32 : Int) ≤ 32 ∧ (32 : Int) * 1 ≤ 140737488355328 ∧ (32 : Int) ≤ 4611686018427387904) (jp8 (fun (z1x : List Sapi_Ins) (z2k : List Int) (z1B : Int) (z1C : Int) (z1D : Int) (z1E : Int) (z1F : Int) (z1G : Int)=>if decide ((⟨z1B,z1C,(⟨z1D,z1E,z1F,z1G⟩ : S34)⟩ : Sproc_State) ≠ (⟨3,0,(⟨5,5,0,0⟩ : S34)⟩ : Sproc_State)) then some false else (y1M z1x (⟨z1B,z1C,(⟨z1D,z1E,z1F,z1G⟩ : S34)⟩ : Sproc_State) z2k).bind fun zq=>(y1M z1x zq.1 z2k).bind fun zr=>chk ((0 : Int) ≤ 0 ∧ (0 : Int) ≤ 20 ∧ 20 ≤ ((z2k.length : Nat) : Int)) ((y1M z1x (⟨z1B,z1C,(⟨z1D,z1E,z1F,z1G⟩ : S34)⟩ : Sproc_State) (z2k.take (20 : Int).toNat)).bind fun zH=>(yY 7 ([2,1,3] : List Int)).bind fun z7D=>(y1M ([z7D] : List Sapi_Ins) (⟨0,0,(⟨0,255,0,0⟩ : S34)⟩ : Sproc_State) []).bind fun zct=>(y11 z1x 0).bind fun z2I=>(yY 21 ([0,0] : List Int)).bind fun z94=>(y11 ([z94] : List Sapi_Ins) 0).bind fun z6Y=>(yY 22 ([0,1,2] : List Int)).bind fun z95=>(yY 1 ([9] : List Int)).bind fun z96=>(yY 25 []).bind fun z97=>(y11 ([z95,z96,z97] : List Sapi_Ins) 0).bind fun z6D=>(y1n zq.2 (⟨1,21,5,[]⟩ : Sproc_Act)).bind fun zcu=>(if zcu then (y1n zr.2 (⟨14,0,0,[]⟩ : Sproc_Act)).bind fun zcv=>some zcv else some false).bind fun z98=>(if z98 then (y1n zH.2 (⟨15,2,0,[]⟩ : Sproc_Act)).bind fun zcw=>some zcw else some false).bind fun z99=>(if z99 then (y1n zct.2 (⟨2,2,0,([255,0,1] : List Int)⟩ : Sproc_Act)).bind fun zcx=>some zcx else some false).bind fun z4N=>some (((((z4N && (decide (z2I.1 = 7))) && z2I.2) && (!z6Y.2)) && (decide (z6D.1 = 11))) && z6D.2))) fun z3X=>y1u z3X y1k ([z1Q,z1R,z1S,z1T,z1U] : List Sapi_Ins) (List.replicate (32 : Int).toNat (0 : Int)) 0 0 0 0 0 0 0)
set_option maxRecDepth 20000 in
theorem y5G (Z : Zp)  (r : Bool)
  (h : y2E = some r) (w₀ : World) (hz : PZ [] w₀ Z)
  (hG0 : ZC Z ⟨0,0,none⟩ tabG0)
  (hG1 : ZS Z 1 (p74 Z) (some ⟨1,0,none⟩) 26 y18) :
  Calls Tryd.prog 9 #[] w₀ fun e w'=>∃ Zn : Zp,e = .returned (.bool r) ∧ True ∧ Hp [] w₀ w' [fz Zn]:=by
 unfold y2E at h
 refine Calls.y8 (vs:=[]) (pre:=[]) (env:=[]) Tryd.func9 rfl Tryd.ntmps9 rfl (Hp.nil w₀ _) rfl ?_
 refine WC.pool (WC.b (WC.a (WL.pu rfl (WL.nil (WX.a (WC.b ?_))))))
 obtain ⟨z1Q,zkU,h⟩:=zh h
 obtain ⟨z1R,zkV,h⟩:=zh h
 obtain ⟨z1S,zkW,h⟩:=zh h
 obtain ⟨z1T,zkX,h⟩:=zh h
 obtain ⟨z1U,zkY,h⟩:=zh h
 refine WC.a ?_
 refine WL.new (dd:=21) rfl rfl rfl (yp (cs:=([0,5] : List Int).flatMap e3) yu (Eos.parts (l:=[.const (.int .i64 0),.const (.int .i64 5)]) (.cons rfl (.cons rfl .nil)) [0,1]) (fun _=>by kernel_rfl) rfl (by unfold maxLen; omega)) ?_
 intro z6Z _
 refine WL.b (dd:=22) rfl rfl rfl (zI (l:=[.const (.int .u8 2),.tmp 21]) Tryd.call17 (.cons rfl (.cons rfl .nil))) .nil (y27 hz .nil .h1 (.cons .here .nil) fun w pz ho la=>y19 _ _ _ _ _ _ zkU w pz (ZA.row (la _ (.head _) _) (RR.yP (enc:=e3) (fun _=>rfl) _) ⟨w,pz.1⟩)) ?_
 refine WL.new (dd:=23) rfl rfl rfl (yp (cs:=([3] : List Int).flatMap e3) yu (Eos.parts (l:=[.const (.int .i64 3)]) (.cons rfl .nil) [0]) (fun _=>by kernel_rfl) rfl (by unfold maxLen; omega)) ?_
 intro z70 _
 refine WL.b (dd:=24) rfl rfl rfl (zI (l:=[.const (.int .u8 1),.tmp 23]) Tryd.call17 (.cons rfl (.cons rfl .nil))) .nil (y27 hz .nil .h2 (.cons .here .nil) fun w pz ho la=>y19 _ _ _ _ _ _ zkV w pz (ZA.row (la _ (.head _) _) (RR.yP (enc:=e3) (fun _=>rfl) _) ⟨w,pz.1⟩)) ?_
 refine WL.new (dd:=25) rfl rfl rfl (yp (cs:=([1,0] : List Int).flatMap e3) yu (Eos.parts (l:=[.const (.int .i64 1),.const (.int .i64 0)]) (.cons rfl (.cons rfl .nil)) [0,1]) (fun _=>by kernel_rfl) rfl (by unfold maxLen; omega)) ?_
 intro z71 _
 refine WL.b (dd:=26) rfl rfl rfl (zI (l:=[.const (.int .u8 3),.tmp 25]) Tryd.call17 (.cons rfl (.cons rfl .nil))) .nil (y27 hz .nil .h3 (.cons .here .nil) fun w pz ho la=>y19 _ _ _ _ _ _ zkW w pz (ZA.row (la _ (.head _) _) (RR.yP (enc:=e3) (fun _=>rfl) _) ⟨w,pz.1⟩)) ?_
 refine WL.new (dd:=27) rfl rfl rfl (yp (cs:=([1,16,0] : List Int).flatMap e3) yu (Eos.parts (l:=[.const (.int .i64 1),.const (.int .i64 16),.const (.int .i64 0)]) (.cons rfl (.cons rfl (.cons rfl .nil))) [0,1,2]) (fun _=>by kernel_rfl) rfl (by unfold maxLen; omega)) ?_
 intro z72 _
 refine WL.b (dd:=28) rfl rfl rfl (zI (l:=[.const (.int .u8 6),.tmp 27]) Tryd.call17 (.cons rfl (.cons rfl .nil))) .nil (y27 hz .nil .h4 (.cons .here .nil) fun w pz ho la=>y19 _ _ _ _ _ _ zkX w pz (ZA.row (la _ (.head _) _) (RR.yP (enc:=e3) (fun _=>rfl) _) ⟨w,pz.1⟩)) ?_
 refine WL.b (dd:=29) rfl rfl rfl (zI (l:=[.const (.int .u8 19),.const (.slice none 0 0)]) Tryd.call17 (.cons rfl (.cons rfl .nil))) .nil (ccz hz .nil .h4 fun w pz ho=>y19 _ _ _ _ _ _ zkY w pz (ZS.nil _ _ _)) ?_
 refine WL.new (dd:=30) rfl rfl rfl (yp (cs:=([z1Q,z1R,z1S,z1T,z1U] : List Sapi_Ins).flatMap e33) y2s (Eos.parts (l:=[.tmp 22,.tmp 24,.tmp 26,.tmp 28,.tmp 29]) (.cons rfl (.cons rfl (.cons rfl (.cons rfl (.cons rfl .nil))))) [0,1,2,3,4]) (fun _=>by kernel_rfl) rfl (by unfold maxLen; omega)) ?_
 intro z2R _
 refine WL.pu rfl (WL.nil (WX.a (WC.b ?_)))
 obtain ⟨z9a,h⟩:=y9 h
 refine WC.y1a (fun i=>[3].contains i) [] rfl ?_
 refine WD.a (i:=0) (d:=31) (by kernel_rfl) rfl z1 z2 rfl rfl rfl (fun _=>yZ (v:=(.agg #[(.int .i64 0),(.int .i64 0),(.int .u8 0),(.int .u8 0),(.int .u8 0),(.int .u8 0)])) (Eos.parts (l:=[]) .nil []) (fun _=>by kernel_rfl)) ?_
 refine WD.y4X (fuel':=0) (fun (b1o1_10186 : Nat) (b2o1_10186 : Nat)=>[(1,(.slice (some ⟨z2R,0,none⟩) (([z1Q,z1R,z1S,z1T,z1U] : List Sapi_Ins).length) 5)),(2,(.pointer (some ⟨b2o1_10186,0,none⟩))),(3,(.slice (some ⟨b1o1_10186,0,none⟩) ((List.replicate (32 : Int).toNat (0 : Int)).length) ((32 : Int).toNat)))]) (fun (b1o1_10186 : Nat) (b2o1_10186 : Nat)=>[stb b2o1_10186 39 [(.int .i64 0),(.int .i64 0),(.int .u8 0),(.int .u8 0),(.int .u8 0),(.int .u8 0)],row (.slice (some ⟨b1o1_10186,0,none⟩) ((List.replicate (32 : Int).toNat (0 : Int)).length) ((32 : Int).toNat)) 5 1 ((List.replicate (32 : Int).toNat (0 : Int)).flatMap e5),row (.slice (some ⟨z2R,0,none⟩) (([z1Q,z1R,z1S,z1T,z1U] : List Sapi_Ins).length) 5) 33 4 (([z1Q,z1R,z1S,z1T,z1U] : List Sapi_Ins).flatMap e33),row (.slice (some ⟨z72,0,none⟩) (([1,16,0] : List Int).length) 3) 3 1 (([1,16,0] : List Int).flatMap e3),row (.slice (some ⟨z71,0,none⟩) (([1,0] : List Int).length) 2) 3 1 (([1,0] : List Int).flatMap e3),row (.slice (some ⟨z70,0,none⟩) (([3] : List Int).length) 1) 3 1 (([3] : List Int).flatMap e3),row (.slice (some ⟨z6Z,0,none⟩) (([0,5] : List Int).length) 2) 3 1 (([0,5] : List Int).flatMap e3),fz []]) (fun (b1o1_10186 : Nat) (b2o1_10186 : Nat)=>True) (y10 5 [4,3,2,1,0]) ?_ (fun K1o2o3o4_10186=>?_)
 ·skip
  rintro b1o1_10186 b2o1_10186 _
  refine WD.done (by kernel_rfl) ?_
  refine WX.a ?_
  obtain ⟨z3X,zkZ,h⟩:=jp8_elim h
  refine WC.y63 (fun (z1x : List Sapi_Ins) (z2k : List Int) (z1B : Int) (z1C : Int) (z1D : Int) (z1E : Int) (z1F : Int) (z1G : Int) (z1y : Zp) (z2a : Option Addr) (z2b : Nat) (z73 : Option Addr) (z74 : Nat)=>(z3X z1x z2k z1B z1C z1D z1E z1F z1G = some r) ∧ (Zle (Z ++ []) (Z ++ z1y)) ∧ (ZS (Z ++ z1y) 4 (fun r x=>r = e33 x) z2a z2b z1x) ∧ (ZS (Z ++ z1y) 1 (fun r x=>r = e5 x) z73 z74 z2k)) (fun (z1x : List Sapi_Ins) (z2k : List Int) (z1B : Int) (z1C : Int) (z1D : Int) (z1E : Int) (z1F : Int) (z1G : Int) (z1y : Zp) (z2a : Option Addr) (z2b : Nat) (z73 : Option Addr) (z74 : Nat)=>[(1,(.slice z2a z1x.length z2b)),(2,(.pointer (some ⟨b2o1_10186,0,none⟩))),(3,(.slice z73 z2k.length z74))]) (fun (z1x : List Sapi_Ins) (z2k : List Int) (z1B : Int) (z1C : Int) (z1D : Int) (z1E : Int) (z1F : Int) (z1G : Int) (z1y : Zp) (z2a : Option Addr) (z2b : Nat) (z73 : Option Addr) (z74 : Nat)=>[fz z1y,stb b2o1_10186 39 [(.int .i64 z1B),(.int .i64 z1C),(.int .u8 z1D),(.int .u8 z1E),(.int .u8 z1F),(.int .u8 z1G)]]) ?_ ?_
  ·skip
   refine WC.b (WC.a (WL.pu rfl (WL.nil (WX.a (WC.block ?_)))))
   refine WC.freezeS (ls:=([z1Q,z1R,z1S,z1T,z1U] : List Sapi_Ins)) .h2 .h6 hz (RR.yP (enc:=e33) (fun _=>rfl) _) ?_
   intro zmS zl0 zl1
   refine WC.freezeS (ls:=List.replicate (32 : Int).toNat (0 : Int)) .h2 .here hz (RR.yP (enc:=e5) (fun _=>rfl) _) ?_
   intro zl2 zcy zl3
   refine WC.y6x (fun (z6E : Nat) (z2i : List Sapi_Ins) (z2j : List Int) (z2B : Int) (z2C : Int) (z2D : Int) (z2E : Int) (z2F : Int) (z2G : Int) (z2H : Int) (z2S : Zp) (z4O : Option Addr) (z4P : Nat) (z4Q : Option Addr) (z4R : Nat)=>(y1u z3X z6E z2i z2j z2B z2C z2D z2E z2F z2G z2H = some r) ∧ (Zle (Z ++ []) (Z ++ z2S)) ∧ (ZS (Z ++ z2S) 4 (fun r x=>r = e33 x) z4O z4P z2i) ∧ (ZS (Z ++ z2S) 1 (fun r x=>r = e5 x) z4Q z4R z2j)) (fun (z6E : Nat) (z2i : List Sapi_Ins) (z2j : List Int) (z2B : Int) (z2C : Int) (z2D : Int) (z2E : Int) (z2F : Int) (z2G : Int) (z2H : Int) (z2S : Zp) (z4O : Option Addr) (z4P : Nat) (z4Q : Option Addr) (z4R : Nat)=>[(1,(.slice z4O z2i.length z4P)),(2,(.pointer (some ⟨b2o1_10186,0,none⟩))),(3,(.slice z4Q z2j.length z4R)),(4,(.int .i64 z2B))]) (fun (z6E : Nat) (z2i : List Sapi_Ins) (z2j : List Int) (z2B : Int) (z2C : Int) (z2D : Int) (z2E : Int) (z2F : Int) (z2G : Int) (z2H : Int) (z2S : Zp) (z4O : Option Addr) (z4P : Nat) (z4Q : Option Addr) (z4R : Nat)=>[fz z2S,stb b2o1_10186 39 [(.int .i64 z2C),(.int .i64 z2D),(.int .u8 z2E),(.int .u8 z2F),(.int .u8 z2G),(.int .u8 z2H)]]) (fun (z6E : Nat) (z2i : List Sapi_Ins) (z2j : List Int) (z2B : Int) (z2C : Int) (z2D : Int) (z2E : Int) (z2F : Int) (z2G : Int) (z2H : Int) (z2S : Zp) (z4O : Option Addr) (z4P : Nat) (z4Q : Option Addr) (z4R : Nat)=>z6E) ⟨y1k,([z1Q,z1R,z1S,z1T,z1U] : List Sapi_Ins),(List.replicate (32 : Int).toNat (0 : Int)),0,0,0,0,0,0,0,zl2,(some ⟨z2R,0,none⟩),5,(some ⟨b1o1_10186,0,none⟩),((32 : Int).toNat)⟩ ⟨h,(zl0.trans zcy),(zl1.mono zcy),zl3⟩ (.cons rfl (.cons rfl (.cons rfl (.cons rfl .nil)))) (.cons .here (.cons .here .nil)) ?_
   rintro z6E z2i z2j z2B z2C z2D z2E z2F z2G z2H z2S z4O z4P z4Q z4R ⟨h,z75,z9b,z9c⟩
   obtain ⟨z93,rfl⟩:=y43 h
   rw [y1u] at h
   refine WC.b (WC.b (WC.a (WL.pu rfl (WL.pu rfl (WL.nil (WX.a ?_))))))
   refine WC.cond rfl (fun z9d=>?_) (fun z9d=>?_)
   ·replace h:=ym h z9d
    refine WC.skip (WX.a (WC.b (WC.block (WC.b ?_))))
    obtain ⟨z2n,zl4,h⟩:=zh h
    refine WC.a (WL.pu rfl ?_)
    refine WL.a (d:=39) rfl rfl rfl (y16 y1P rfl (y13 .h1) rfl) ?_
    refine WL.pu rfl ?_
    refine WL.y3w (dd:=41) rfl rfl rfl (zI (l:=[.tmp 38,.tmp 39,.tmp 40]) Tryd.call18 (.cons rfl (.cons rfl (.cons rfl .nil)))) .nil (ccz hz .nil .here fun w pz ho=>y1p _ _ _ _ _ _ _ _ _ zl4 w pz (hG0.mono ((Zle.left _ _).trans z75)) ((hG1.mono ((Zle.left _ _).trans z75)).weak (fun _ _ h=>yE ((Zle.left _ _).trans z75) h)) z9b z9c) ?_
    rintro zcz zmT zmU zmV
    refine WL.merge .here .here ?_
    refine WL.pu rfl (WL.pu rfl (WL.pu rfl ?_))
    refine WL.new (dd:=5) rfl rfl rfl (yA (cs:=[(.int .i64 0),(.int .i64 0),(.int .u8 0),(.int .u8 0),(.int .u8 0),(.int .u8 0)]) y1s rfl) ?_
    intro zmW _
    refine WL.new (dd:=6) rfl rfl rfl (yA (cs:=[(.int .u8 0),(.int .i64 0),(.int .i64 0),(.slice none 0 0)]) y28 rfl) ?_
    intro zmX _
    refine WL.yo rfl rfl (yy y2i rfl rfl rfl .h1 rfl rfl rfl) ?_
    refine WL.yo rfl rfl (yy y1y rfl rfl rfl .h1 rfl rfl rfl) ?_
    refine WL.nil (WX.a (WC.b (WC.a ?_)))
    refine WL.a (d:=44) rfl rfl rfl (y16 y1P rfl (y13 .h1) rfl) ?_
    refine WL.yo rfl rfl (yy y2i rfl rfl rfl .h3 rfl rfl rfl) ?_
    refine WL.nil (WX.a (WC.b (WC.a ?_)))
    refine WL.a (d:=45) rfl rfl rfl (y4 y5o rfl rfl) ?_
    refine WL.a (d:=46) rfl rfl rfl (y6 yN rfl (yc .h1 rfl)) ?_
    refine WL.pu rfl (WL.nil (WX.a ?_))
    refine WC.cond rfl (fun z9e=>?_) (fun z9e=>?_)
    ·replace h:=ym h z9e
     refine WC.b (WC.a (WL.pu rfl (WL.nil (WX.a (WC.ret (WX.yC (WX.ya (WX.ya (WX.yC (WX.ya ?_))))))))))
     obtain rfl:=Option.some.inj h
     refine WX.ye Tryd.results9 (.tmp rfl .nil) (fun w hw=>?_)
     exact ⟨(z2S ++ zcz),yX rfl,trivial,hw.sub (.cons .h3 .nil)⟩
    ·replace h:=yn h z9e
     refine WC.skip (WX.yi (WX.a (WC.a (WL.pu rfl (WL.pu rfl (WL.pu rfl (WL.nil ?_)))))))
     exact WX.round (G:=Nat × List Sapi_Ins × List Int × Int × Int × Int × Int × Int × Int × Int × Zp × Option Addr × Nat × Option Addr × Nat) ⟨z93,z2i,z2j,(i64 (z2B + 1)),z2n.1.fPc,z2n.1.fLeft,z2n.1.fRegs.a0,z2n.1.fRegs.a1,z2n.1.fRegs.a2,z2n.1.fRegs.a3,(z2S ++ zcz),z4O,z4P,z4Q,z4R⟩ ⟨h,(z75.trans ((Zle.left _ _).trans (Zle.y5 _ _ _))),(z9b.mono ((Zle.left _ _).trans (Zle.y5 _ _ _))),(z9c.mono ((Zle.left _ _).trans (Zle.y5 _ _ _)))⟩ (Nat.lt_succ_self _) (.cons rfl (.cons rfl (.cons rfl (.cons rfl .nil)))) (.cons .h3 (.cons .here .nil))
   ·replace h:=yn h z9d
    refine WC.exit (WX.yx (WX.yx (WX.y1h ?_)))
    exact WX.mid (G:=List Sapi_Ins × List Int × Int × Int × Int × Int × Int × Int × Zp × Option Addr × Nat × Option Addr × Nat) ⟨z2i,z2j,z2C,z2D,z2E,z2F,z2G,z2H,z2S,z4O,z4P,z4Q,z4R⟩ ⟨h,z75,z9b,z9c⟩ (.cons rfl (.cons rfl (.cons rfl .nil))) (.cons .here (.cons .here .nil))
  ·rintro z1x z2k z1B z1C z1D z1E z1F z1G z1y z2a z2b z73 z74 ⟨h,z1t,z5f,z9f⟩
   replace h:=(zkZ z1x z2k z1B z1C z1D z1E z1F z1G).symm.trans h
   refine WC.b (WC.b (WC.a ?_))
   refine WL.a (d:=48) rfl rfl rfl (y16 y1P rfl (y13 .h1) rfl) ?_
   refine WL.a (d:=49) rfl rfl rfl (yZ (v:=(.agg #[(.int .u8 5),(.int .u8 5),(.int .u8 0),(.int .u8 0)])) (Eos.parts (l:=[.const (.int .u8 5),.const (.int .u8 5)]) (.cons rfl (.cons rfl .nil)) [0,1]) (fun _=>by kernel_rfl)) ?_
   refine WL.a (d:=50) rfl rfl rfl (yZ (v:=(.agg #[(.int .i64 3),(.int .i64 0),(.int .u8 5),(.int .u8 5),(.int .u8 0),(.int .u8 0)])) (Eos.parts (l:=[.const (.int .i64 3),.tmp 49]) (.cons rfl (.cons rfl .nil)) [0,2]) (fun _=>by kernel_rfl)) ?_
   refine WL.a (d:=51) rfl rfl rfl (q_aggneq (enc:=e39) (a:=(⟨z1B,z1C,(⟨z1D,z1E,z1F,z1G⟩ : S34)⟩ : Sproc_State)) (b:=(⟨3,0,(⟨5,5,0,0⟩ : S34)⟩ : Sproc_State)) eqT_39 rfl rfl) ?_
   refine WL.nil (WX.a ?_)
   refine WC.cond rfl (fun z9g=>?_) (fun z9g=>?_)
   ·replace h:=ym h z9g
    refine WC.b (WC.a (WL.pu rfl (WL.nil (WX.a (WC.ret (WX.ya ?_))))))
    obtain rfl:=Option.some.inj h
    refine WX.ye Tryd.results9 (.tmp rfl .nil) (fun w hw=>?_)
    exact ⟨z1y,yX rfl,trivial,hw.sub (.cons .here .nil)⟩
   ·replace h:=yn h z9g
    refine WC.skip (WX.a (WC.b ?_))
    obtain ⟨zq,zl5,h⟩:=zh h
    refine WC.a (WL.pu rfl ?_)
    refine WL.a (d:=54) rfl rfl rfl (y16 y1P rfl (y13 .h1) rfl) ?_
    refine WL.pu rfl ?_
    refine WL.y3w (dd:=56) rfl rfl rfl (zI (l:=[.tmp 53,.tmp 54,.tmp 55]) Tryd.call18 (.cons rfl (.cons rfl (.cons rfl .nil)))) .nil (ccz hz .nil .here fun w pz ho=>y1p _ _ _ _ _ _ _ _ _ zl5 w pz (hG0.mono ((Zle.left _ _).trans z1t)) ((hG1.mono ((Zle.left _ _).trans z1t)).weak (fun _ _ h=>yE ((Zle.left _ _).trans z1t) h)) z5f z9f) ?_
    rintro z2f z3Y z3Z zl6
    refine WL.merge .here .here ?_
    refine WL.pu rfl (WL.pu rfl (WL.pu rfl ?_))
    refine WL.new (dd:=7) rfl rfl rfl (yA (cs:=[(.int .i64 0),(.int .i64 0),(.int .u8 0),(.int .u8 0),(.int .u8 0),(.int .u8 0)]) y1s rfl) ?_
    intro z40 _
    refine WL.new (dd:=8) rfl rfl rfl (yA (cs:=[(.int .u8 0),(.int .i64 0),(.int .i64 0),(.slice none 0 0)]) y28 rfl) ?_
    intro z23 _
    refine WL.yo rfl rfl (yy y2i rfl rfl rfl .h1 rfl rfl rfl) ?_
    refine WL.yo rfl rfl (yy y1y rfl rfl rfl .h1 rfl rfl rfl) ?_
    refine WL.nil (WX.a (WC.b ?_))
    obtain ⟨zr,zl7,h⟩:=zh h
    refine WC.a (WL.pu rfl ?_)
    refine WL.a (d:=61) rfl rfl rfl (y16 y1P rfl (y13 .h1) rfl) ?_
    refine WL.pu rfl ?_
    refine WL.y3w (dd:=63) rfl rfl rfl (zI (l:=[.tmp 60,.tmp 61,.tmp 62]) Tryd.call18 (.cons rfl (.cons rfl (.cons rfl .nil)))) .nil (ccz hz .nil .h2 fun w pz ho=>y1p _ _ _ _ _ _ _ _ _ zl7 w pz (hG0.mono ((Zle.left _ _).trans (z1t.trans ((Zle.left _ _).trans (Zle.y5 _ _ _))))) ((hG1.mono ((Zle.left _ _).trans (z1t.trans ((Zle.left _ _).trans (Zle.y5 _ _ _))))).weak (fun _ _ h=>yE ((Zle.left _ _).trans (z1t.trans ((Zle.left _ _).trans (Zle.y5 _ _ _)))) h)) (z5f.mono ((Zle.left _ _).trans (Zle.y5 _ _ _))) (z9f.mono ((Zle.left _ _).trans (Zle.y5 _ _ _)))) ?_
    rintro z2g z41 z42 zl8
    refine WL.merge .here .h2 ?_
    refine WL.pu rfl (WL.pu rfl (WL.pu rfl ?_))
    refine WL.new (dd:=9) rfl rfl rfl (yA (cs:=[(.int .i64 0),(.int .i64 0),(.int .u8 0),(.int .u8 0),(.int .u8 0),(.int .u8 0)]) y1s rfl) ?_
    intro z43 _
    refine WL.new (dd:=10) rfl rfl rfl (yA (cs:=[(.int .u8 0),(.int .i64 0),(.int .i64 0),(.slice none 0 0)]) y28 rfl) ?_
    intro z24 _
    refine WL.yo rfl rfl (yy y2i rfl rfl rfl .h1 rfl rfl rfl) ?_
    refine WL.yo rfl rfl (yy y1y rfl rfl rfl .h1 rfl rfl rfl) ?_
    refine WL.nil (WX.a (WC.b ?_))
    obtain ⟨zl9,h⟩:=y9 h
    obtain ⟨zH,z7E,h⟩:=zh h
    refine WC.y1a (fun i=>[10,11].contains i) [] rfl ?_
    refine WD.a (i:=0) (d:=67) (by kernel_rfl) rfl z1 z2 rfl rfl rfl (fun _=>q_m rfl) ?_
    refine WD.e (i:=1) (d:=68) (by kernel_rfl) rfl z1 z2 rfl rfl rfl (y16 y1P rfl (y13 .h5) rfl) ?_
    refine WD.a (i:=2) (d:=69) (by kernel_rfl) rfl z1 z2 rfl rfl rfl (fun _=>q_m rfl) ?_
    refine WD.zsub (j:=3) (dd:=70) (by kernel_rfl) rfl z1 z2 rfl rfl (Z:=(Z ++ ((z1y ++ z2f) ++ z2g))) (Pr:=(fun r x=>r = e5 x)) y2g rfl (z9f.mono ((Zle.left _ _).trans ((Zle.y5 _ _ _).trans ((Zle.left _ _).trans (Zle.y5 _ _ _))))) (fun _=>ixn) (fun _=>ixo rfl) rfl rfl zl9 (List.drop_zero).symm ?_
    rintro z9h z9i z7F
    refine WD.y4Y (fuel':=0) (fun (Zn4o1_10545 : Zp) (ao4o2_10545 : Option Addr) (cap4o3_10545 : Nat) (b8o1_10545 : Nat) (b9o1_10545 : Nat)=>[(1,(.slice z2a z1x.length z2b)),(8,(.pointer (some ⟨z23,0,none⟩))),(10,(.pointer (some ⟨z24,0,none⟩))),(12,(.pointer (some ⟨b9o1_10545,0,none⟩)))]) (fun (Zn4o1_10545 : Zp) (ao4o2_10545 : Option Addr) (cap4o3_10545 : Nat) (b8o1_10545 : Nat) (b9o1_10545 : Nat)=>[stb b9o1_10545 41 [(.int .u8 zH.2.fKind),(.int .i64 zH.2.fA),(.int .i64 zH.2.fB),(.slice ao4o2_10545 zH.2.fData.length cap4o3_10545)],stb b8o1_10545 39 [(.int .i64 zH.1.fPc),(.int .i64 zH.1.fLeft),(.int .u8 zH.1.fRegs.a0),(.int .u8 zH.1.fRegs.a1),(.int .u8 zH.1.fRegs.a2),(.int .u8 zH.1.fRegs.a3)],fz (((z1y ++ z2f) ++ z2g) ++ Zn4o1_10545),stb z24 41 [(.int .u8 zr.2.fKind),(.int .i64 zr.2.fA),(.int .i64 zr.2.fB),(.slice z41 zr.2.fData.length z42)],stb z43 39 [(.int .i64 zr.1.fPc),(.int .i64 zr.1.fLeft),(.int .u8 zr.1.fRegs.a0),(.int .u8 zr.1.fRegs.a1),(.int .u8 zr.1.fRegs.a2),(.int .u8 zr.1.fRegs.a3)],stb z23 41 [(.int .u8 zq.2.fKind),(.int .i64 zq.2.fA),(.int .i64 zq.2.fB),(.slice z3Y zq.2.fData.length z3Z)],stb z40 39 [(.int .i64 zq.1.fPc),(.int .i64 zq.1.fLeft),(.int .u8 zq.1.fRegs.a0),(.int .u8 zq.1.fRegs.a1),(.int .u8 zq.1.fRegs.a2),(.int .u8 zq.1.fRegs.a3)],stb b2o1_10186 39 [(.int .i64 z1B),(.int .i64 z1C),(.int .u8 z1D),(.int .u8 z1E),(.int .u8 z1F),(.int .u8 z1G)]]) (fun (Zn4o1_10545 : Zp) (ao4o2_10545 : Option Addr) (cap4o3_10545 : Nat) (b8o1_10545 : Nat) (b9o1_10545 : Nat)=>(ZS ((Z ++ ((z1y ++ z2f) ++ z2g)) ++ Zn4o1_10545) 1 (fun zH x=>zH = e5 x) ao4o2_10545 cap4o3_10545 zH.2.fData)) (y10 12 [11,10,9,8,7,6,5,4,3,2,1,0]) ?_ (fun K4o5o6o7o8o9o10o11_10545=>?_)
    ·skip
     rintro Zn4o1_10545 ao4o2_10545 cap4o3_10545 b8o1_10545 b9o1_10545 hf4o4_10545
     refine WD.done (by kernel_rfl) ?_
     refine WX.a (WC.b ?_)
     obtain ⟨z7D,zla,h⟩:=zh h
     obtain ⟨zct,zlb,h⟩:=zh h
     refine WC.a ?_
     refine WL.new (dd:=75) rfl rfl rfl (yp (cs:=([2,1,3] : List Int).flatMap e3) yu (Eos.parts (l:=[.const (.int .i64 2),.const (.int .i64 1),.const (.int .i64 3)]) (.cons rfl (.cons rfl (.cons rfl .nil))) [0,1,2]) (fun _=>by kernel_rfl) rfl (by unfold maxLen; omega)) ?_
     intro zmY _
     refine WL.b (dd:=76) rfl rfl rfl (zI (l:=[.const (.int .u8 7),.tmp 75]) Tryd.call17 (.cons rfl (.cons rfl .nil))) .nil (y27 hz .nil .h3 (.cons .here .nil) fun w pz ho la=>y19 _ _ _ _ _ _ zla w pz (ZA.row (la _ (.head _) _) (RR.yP (enc:=e3) (fun _=>rfl) _) ⟨w,pz.1⟩)) ?_
     refine WL.new (dd:=77) rfl rfl rfl (yp (cs:=([z7D] : List Sapi_Ins).flatMap e33) y2s (Eos.parts (l:=[.tmp 76]) (.cons rfl .nil) [0]) (fun _=>by kernel_rfl) rfl (by unfold maxLen; omega)) ?_
     intro zmZ _
     refine WL.a (d:=78) rfl rfl rfl (yZ (v:=(.agg #[(.int .u8 0),(.int .u8 255),(.int .u8 0),(.int .u8 0)])) (Eos.parts (l:=[.const (.int .u8 0),.const (.int .u8 255)]) (.cons rfl (.cons rfl .nil)) [0,1]) (fun _=>by kernel_rfl)) ?_
     refine WL.a (d:=79) rfl rfl rfl (yZ (v:=(.agg #[(.int .i64 0),(.int .i64 0),(.int .u8 0),(.int .u8 255),(.int .u8 0),(.int .u8 0)])) (Eos.parts (l:=[.tmp 78]) (.cons rfl .nil) [2]) (fun _=>by kernel_rfl)) ?_
     refine WL.freezeS (ls:=([z7D] : List Sapi_Ins)) .here .h3 hz (RR.yP (enc:=e33) (fun _=>rfl) _) ?_
     intro zlc z2r zld
     refine WL.y3w (dd:=80) rfl rfl rfl (zI (l:=[.tmp 77,.tmp 79,.const (.slice none 0 0)]) Tryd.call18 (.cons rfl (.cons rfl (.cons rfl .nil)))) .nil (ccz hz .nil .here fun w pz ho=>y1p _ _ _ _ _ _ _ _ _ zlb w pz (hG0.mono ((Zle.left _ _).trans (z1t.trans ((Zle.left _ _).trans ((Zle.y5 _ _ _).trans ((Zle.left _ _).trans ((Zle.y5 _ _ _).trans ((Zle.left _ _).trans ((Zle.y5 _ _ _).trans z2r))))))))) ((hG1.mono ((Zle.left _ _).trans (z1t.trans ((Zle.left _ _).trans ((Zle.y5 _ _ _).trans ((Zle.left _ _).trans ((Zle.y5 _ _ _).trans ((Zle.left _ _).trans ((Zle.y5 _ _ _).trans z2r))))))))).weak (fun _ _ h=>yE ((Zle.left _ _).trans (z1t.trans ((Zle.left _ _).trans ((Zle.y5 _ _ _).trans ((Zle.left _ _).trans ((Zle.y5 _ _ _).trans ((Zle.left _ _).trans ((Zle.y5 _ _ _).trans z2r)))))))) h)) zld (ZS.nil _ _ _)) ?_
     rintro zle zn0 zn1 zlf
     refine WL.merge .here .here ?_
     refine WL.pu rfl (WL.pu rfl (WL.pu rfl ?_))
     refine WL.new (dd:=13) rfl rfl rfl (yA (cs:=[(.int .i64 0),(.int .i64 0),(.int .u8 0),(.int .u8 0),(.int .u8 0),(.int .u8 0)]) y1s rfl) ?_
     intro zn2 _
     refine WL.new (dd:=14) rfl rfl rfl (yA (cs:=[(.int .u8 0),(.int .i64 0),(.int .i64 0),(.slice none 0 0)]) y28 rfl) ?_
     intro zn3 _
     refine WL.yo rfl rfl (yy y2i rfl rfl rfl .h1 rfl rfl rfl) ?_
     refine WL.yo rfl rfl (yy y1y rfl rfl rfl .h1 rfl rfl rfl) ?_
     refine WL.nil (WX.a (WC.b ?_))
     obtain ⟨z2I,zlg,h⟩:=zh h
     refine WC.a (WL.pu rfl ?_)
     refine WL.b (dd:=85) rfl rfl rfl (zI (l:=[.tmp 84,.const (.int .i64 0)]) Tryd.call13 (.cons rfl (.cons rfl .nil))) .nil (ccz hz .nil .h2 fun w pz ho=>y25 _ _ _ _ _ _ zlg w pz ((hG1.mono ((Zle.left _ _).trans (z1t.trans ((Zle.left _ _).trans ((Zle.y5 _ _ _).trans ((Zle.left _ _).trans ((Zle.y5 _ _ _).trans ((Zle.left _ _).trans ((Zle.y5 _ _ _).trans (z2r.trans ((Zle.left _ _).trans (Zle.y5 _ _ _)))))))))))).weak (fun _ _ h=>yE ((Zle.left _ _).trans (z1t.trans ((Zle.left _ _).trans ((Zle.y5 _ _ _).trans ((Zle.left _ _).trans ((Zle.y5 _ _ _).trans ((Zle.left _ _).trans ((Zle.y5 _ _ _).trans (z2r.trans ((Zle.left _ _).trans (Zle.y5 _ _ _))))))))))) h)) (z5f.mono ((Zle.left _ _).trans ((Zle.y5 _ _ _).trans ((Zle.left _ _).trans ((Zle.y5 _ _ _).trans ((Zle.left _ _).trans ((Zle.y5 _ _ _).trans (z2r.trans ((Zle.left _ _).trans (Zle.y5 _ _ _))))))))))) ?_
     refine WL.pu rfl (WL.pu rfl (WL.pu rfl (WL.pu rfl (WL.pu rfl (WL.nil (WX.a (WC.b ?_)))))))
     obtain ⟨z94,zlh,h⟩:=zh h
     obtain ⟨z6Y,zli,h⟩:=zh h
     refine WC.a ?_
     refine WL.new (dd:=89) rfl rfl rfl (yp (cs:=([0,0] : List Int).flatMap e3) yu (Eos.parts (l:=[.const (.int .i64 0),.const (.int .i64 0)]) (.cons rfl (.cons rfl .nil)) [0,1]) (fun _=>by kernel_rfl) rfl (by unfold maxLen; omega)) ?_
     intro zn4 _
     refine WL.b (dd:=90) rfl rfl rfl (zI (l:=[.const (.int .u8 21),.tmp 89]) Tryd.call17 (.cons rfl (.cons rfl .nil))) .nil (y27 hz .nil .h3 (.cons .here .nil) fun w pz ho la=>y19 _ _ _ _ _ _ zlh w pz (ZA.row (la _ (.head _) _) (RR.yP (enc:=e3) (fun _=>rfl) _) ⟨w,pz.1⟩)) ?_
     refine WL.new (dd:=91) rfl rfl rfl (yp (cs:=([z94] : List Sapi_Ins).flatMap e33) y2s (Eos.parts (l:=[.tmp 90]) (.cons rfl .nil) [0]) (fun _=>by kernel_rfl) rfl (by unfold maxLen; omega)) ?_
     intro zn5 _
     refine WL.b (dd:=92) rfl rfl rfl (zI (l:=[.tmp 91,.const (.int .i64 0)]) Tryd.call13 (.cons rfl (.cons rfl .nil))) .nil (y27 hz .nil .h4 (.cons .here .nil) fun w pz ho la=>y25 _ _ _ _ _ _ zli w pz ((((hG1.mono ((Zle.left _ _).trans (z1t.trans ((Zle.left _ _).trans ((Zle.y5 _ _ _).trans ((Zle.left _ _).trans ((Zle.y5 _ _ _).trans ((Zle.left _ _).trans ((Zle.y5 _ _ _).trans (z2r.trans ((Zle.left _ _).trans (Zle.y5 _ _ _)))))))))))).weak (fun _ _ h=>yE ((Zle.left _ _).trans (z1t.trans ((Zle.left _ _).trans ((Zle.y5 _ _ _).trans ((Zle.left _ _).trans ((Zle.y5 _ _ _).trans ((Zle.left _ _).trans ((Zle.y5 _ _ _).trans (z2r.trans ((Zle.left _ _).trans (Zle.y5 _ _ _))))))))))) h)).mono (Zle.left _ _)).weak (fun _ _ h=>yE (Zle.left _ _) h)) (ZA.row (la _ (.head _) _) (RR.yP (enc:=e33) (fun _=>rfl) _) ⟨w,pz.1⟩)) ?_
     refine WL.pu rfl (WL.pu rfl (WL.pu rfl (WL.pu rfl (WL.pu rfl (WL.nil (WX.a (WC.b ?_)))))))
     obtain ⟨z95,zlj,h⟩:=zh h
     obtain ⟨z96,zlk,h⟩:=zh h
     obtain ⟨z97,zll,h⟩:=zh h
     obtain ⟨z6D,zlm,h⟩:=zh h
     refine WC.a ?_
     refine WL.new (dd:=96) rfl rfl rfl (yp (cs:=([0,1,2] : List Int).flatMap e3) yu (Eos.parts (l:=[.const (.int .i64 0),.const (.int .i64 1),.const (.int .i64 2)]) (.cons rfl (.cons rfl (.cons rfl .nil))) [0,1,2]) (fun _=>by kernel_rfl) rfl (by unfold maxLen; omega)) ?_
     intro zn6 _
     refine WL.b (dd:=97) rfl rfl rfl (zI (l:=[.const (.int .u8 22),.tmp 96]) Tryd.call17 (.cons rfl (.cons rfl .nil))) .nil (y27 hz .nil .h5 (.cons .here .nil) fun w pz ho la=>y19 _ _ _ _ _ _ zlj w pz (ZA.row (la _ (.head _) _) (RR.yP (enc:=e3) (fun _=>rfl) _) ⟨w,pz.1⟩)) ?_
     refine WL.new (dd:=98) rfl rfl rfl (yp (cs:=([9] : List Int).flatMap e3) yu (Eos.parts (l:=[.const (.int .i64 9)]) (.cons rfl .nil) [0]) (fun _=>by kernel_rfl) rfl (by unfold maxLen; omega)) ?_
     intro zn7 _
     refine WL.b (dd:=99) rfl rfl rfl (zI (l:=[.const (.int .u8 1),.tmp 98]) Tryd.call17 (.cons rfl (.cons rfl .nil))) .nil (y27 hz .nil .h6 (.cons .here .nil) fun w pz ho la=>y19 _ _ _ _ _ _ zlk w pz (ZA.row (la _ (.head _) _) (RR.yP (enc:=e3) (fun _=>rfl) _) ⟨w,pz.1⟩)) ?_
     refine WL.b (dd:=100) rfl rfl rfl (zI (l:=[.const (.int .u8 25),.const (.slice none 0 0)]) Tryd.call17 (.cons rfl (.cons rfl .nil))) .nil (ccz hz .nil .h6 fun w pz ho=>y19 _ _ _ _ _ _ zll w pz (ZS.nil _ _ _)) ?_
     refine WL.new (dd:=101) rfl rfl rfl (yp (cs:=([z95,z96,z97] : List Sapi_Ins).flatMap e33) y2s (Eos.parts (l:=[.tmp 97,.tmp 99,.tmp 100]) (.cons rfl (.cons rfl (.cons rfl .nil))) [0,1,2]) (fun _=>by kernel_rfl) rfl (by unfold maxLen; omega)) ?_
     intro zn8 _
     refine WL.b (dd:=102) rfl rfl rfl (zI (l:=[.tmp 101,.const (.int .i64 0)]) Tryd.call13 (.cons rfl (.cons rfl .nil))) .nil (y27 hz .nil .h7 (.cons .here .nil) fun w pz ho la=>y25 _ _ _ _ _ _ zlm w pz ((((hG1.mono ((Zle.left _ _).trans (z1t.trans ((Zle.left _ _).trans ((Zle.y5 _ _ _).trans ((Zle.left _ _).trans ((Zle.y5 _ _ _).trans ((Zle.left _ _).trans ((Zle.y5 _ _ _).trans (z2r.trans ((Zle.left _ _).trans (Zle.y5 _ _ _)))))))))))).weak (fun _ _ h=>yE ((Zle.left _ _).trans (z1t.trans ((Zle.left _ _).trans ((Zle.y5 _ _ _).trans ((Zle.left _ _).trans ((Zle.y5 _ _ _).trans ((Zle.left _ _).trans ((Zle.y5 _ _ _).trans (z2r.trans ((Zle.left _ _).trans (Zle.y5 _ _ _))))))))))) h)).mono (Zle.left _ _)).weak (fun _ _ h=>yE (Zle.left _ _) h)) (ZA.row (la _ (.head _) _) (RR.yP (enc:=e33) (fun _=>rfl) _) ⟨w,pz.1⟩)) ?_
     refine WL.pu rfl (WL.pu rfl (WL.pu rfl (WL.pu rfl (WL.pu rfl (WL.nil (WX.a (WC.b ?_)))))))
     obtain ⟨zcu,zln,h⟩:=zh h
     obtain ⟨z98,zcA,h⟩:=zh h
     obtain ⟨z99,zcB,h⟩:=zh h
     obtain ⟨z4N,zcC,h⟩:=zh h
     refine WC.a ?_
     refine WL.a (d:=105) rfl rfl rfl (y16 y32 rfl (y13 (.there (.there (.there (.there (.there (.there .h7))))))) rfl) ?_
     refine WL.a (d:=106) rfl rfl rfl (yZ (v:=(.agg #[(.int .u8 1),(.int .i64 21),(.int .i64 5),(.slice none 0 0)])) (Eos.parts (l:=[.const (.int .u8 1),.const (.int .i64 21),.const (.int .i64 5)]) (.cons rfl (.cons rfl (.cons rfl .nil))) [0,1,2]) (fun _=>by kernel_rfl)) ?_
     refine WL.b (dd:=107) rfl rfl rfl (zI (l:=[.tmp 105,.tmp 106]) Tryd.call19 (.cons rfl (.cons rfl .nil))) .nil (ccz hz .nil .h7 fun w pz ho=>y2m _ _ _ _ _ _ _ _ zln w pz (zl6.mono ((Zle.y5 _ _ _).trans ((Zle.left _ _).trans ((Zle.y5 _ _ _).trans ((Zle.left _ _).trans ((Zle.y5 _ _ _).trans (z2r.trans ((Zle.left _ _).trans (Zle.y5 _ _ _))))))))) (ZS.nil _ _ _)) ?_
     refine WL.pu rfl ?_
     refine WL.seg true 3 108 (B:=z98) rfl rfl rfl rfl rfl rfl (fun h=>(Option.some.inj (yn zcA h)).symm) (fun _ zlo=>?_) ?_
     ·skip
      have z76:=ym zcA zlo
      obtain ⟨zcv,zlp,z76⟩:=zh z76
      replace z76:=Option.some.inj z76
      refine WL.a (d:=109) rfl rfl rfl (y16 y32 rfl (y13 (.there (.there (.there (.there .h7))))) rfl) ?_
      refine WL.a (d:=110) rfl rfl rfl (yZ (v:=(.agg #[(.int .u8 14),(.int .i64 0),(.int .i64 0),(.slice none 0 0)])) (Eos.parts (l:=[.const (.int .u8 14)]) (.cons rfl .nil) [0]) (fun _=>by kernel_rfl)) ?_
      refine WL.b (dd:=111) rfl rfl rfl (zI (l:=[.tmp 109,.tmp 110]) Tryd.call19 (.cons rfl (.cons rfl .nil))) .nil (ccz hz .nil .h7 fun w pz ho=>y2m _ _ _ _ _ _ _ _ zlp w pz (zl8.mono ((Zle.y5 _ _ _).trans ((Zle.left _ _).trans ((Zle.y5 _ _ _).trans (z2r.trans ((Zle.left _ _).trans (Zle.y5 _ _ _))))))) (ZS.nil _ _ _)) ?_
      refine WL.pu rfl ?_
      exact WL.yz z76 rfl rfl .all
     refine WL.pu rfl ?_
     refine WL.seg true 3 113 (B:=z99) rfl rfl rfl rfl rfl rfl (fun h=>(Option.some.inj (yn zcB h)).symm) (fun _ zlq=>?_) ?_
     ·skip
      have z77:=ym zcB zlq
      obtain ⟨zcw,zlr,z77⟩:=zh z77
      replace z77:=Option.some.inj z77
      refine WL.a (d:=114) rfl rfl rfl (y16 y32 rfl (y13 (.there (.there .h7))) rfl) ?_
      refine WL.a (d:=115) rfl rfl rfl (yZ (v:=(.agg #[(.int .u8 15),(.int .i64 2),(.int .i64 0),(.slice none 0 0)])) (Eos.parts (l:=[.const (.int .u8 15),.const (.int .i64 2)]) (.cons rfl (.cons rfl .nil)) [0,1]) (fun _=>by kernel_rfl)) ?_
      refine WL.b (dd:=116) rfl rfl rfl (zI (l:=[.tmp 114,.tmp 115]) Tryd.call19 (.cons rfl (.cons rfl .nil))) .nil (ccz hz .nil .h7 fun w pz ho=>y2m _ _ _ _ _ _ _ _ zlr w pz (hf4o4_10545.mono ((Zle.y5 _ _ _).trans (z2r.trans ((Zle.left _ _).trans (Zle.y5 _ _ _))))) (ZS.nil _ _ _)) ?_
      refine WL.pu rfl ?_
      exact WL.yz z77 rfl rfl .all
     refine WL.pu rfl ?_
     refine WL.seg true 4 118 (B:=z4N) rfl rfl rfl rfl rfl rfl (fun h=>(Option.some.inj (yn zcC h)).symm) (fun _ zls=>?_) ?_
     ·skip
      have z78:=ym zcC zls
      obtain ⟨zcx,zlt,z78⟩:=zh z78
      replace z78:=Option.some.inj z78
      refine WL.a (d:=119) rfl rfl rfl (y16 y32 rfl (y13 .h5) rfl) ?_
      refine WL.new (dd:=120) rfl rfl rfl (yp (cs:=([255,0,1] : List Int).flatMap e5) y2g (Eos.parts (l:=[.const (.int .u8 255),.const (.int .u8 0),.const (.int .u8 1)]) (.cons rfl (.cons rfl (.cons rfl .nil))) [0,1,2]) (fun _=>by kernel_rfl) rfl (by unfold maxLen; omega)) ?_
      intro zlu _
      refine WL.a (d:=121) rfl rfl rfl (yZ (v:=(.agg #[(.int .u8 2),(.int .i64 2),(.int .i64 0),(.slice (some ⟨zlu,0,none⟩) (([255,0,1] : List Int).length) 3)])) (Eos.parts (l:=[.const (.int .u8 2),.const (.int .i64 2),.tmp 120]) (.cons rfl (.cons rfl (.cons rfl .nil))) [0,1,3]) (fun _=>by kernel_rfl)) ?_
      refine WL.b (dd:=122) rfl rfl rfl (zI (l:=[.tmp 119,.tmp 121]) Tryd.call19 (.cons rfl (.cons rfl .nil))) .nil (y27 hz .nil (.there .h7) (.cons .here .nil) fun w pz ho la=>y2m _ _ _ _ _ _ _ _ zlt w pz ((zlf.mono (Zle.y5 _ _ _)).mono (Zle.left _ _)) (ZA.row (la _ (.head _) _) (RR.yP (enc:=e5) (fun _=>rfl) _) ⟨w,pz.1⟩)) ?_
      refine WL.pu rfl ?_
      exact WL.yz z78 rfl rfl (.cons .h1 (.cons .h1 (.cons .h1 (.cons .h1 (.cons .h1 (.cons .h1 (.cons .h1 (.cons .h1 (.cons .h1 (.cons .h1 (.cons .h1 (.cons .h1 (.cons .h1 (.cons .h1 (.cons .h1 (.cons .h1 .nil))))))))))))))))
     refine WL.pu rfl ?_
     refine WL.seg true 2 124 (B:=z4N && (decide (z2I.1 = 7))) rfl rfl rfl rfl rfl rfl (fun h=>(y2w h).symm) (fun _ zlv=>?_) ?_
     ·skip
      refine WL.pu rfl (WL.pu rfl (WL.pu rfl ?_))
      exact WL.yz (y2x zlv) rfl rfl .all
     refine WL.pu rfl ?_
     refine WL.seg true 1 128 (B:=(z4N && (decide (z2I.1 = 7))) && z2I.2) rfl rfl rfl rfl rfl rfl (fun h=>(y2w h).symm) (fun _ zlw=>?_) ?_
     ·skip
      refine WL.pu rfl (WL.pu rfl ?_)
      exact WL.yz (y2x zlw) rfl rfl .all
     refine WL.pu rfl ?_
     refine WL.seg true 2 131 (B:=((z4N && (decide (z2I.1 = 7))) && z2I.2) && (!z6Y.2)) rfl rfl rfl rfl rfl rfl (fun h=>(y2w h).symm) (fun _ zlx=>?_) ?_
     ·skip
      refine WL.pu rfl (WL.pu rfl (WL.pu rfl ?_))
      exact WL.yz (y2x zlx) rfl rfl .all
     refine WL.pu rfl ?_
     refine WL.seg true 2 135 (B:=(((z4N && (decide (z2I.1 = 7))) && z2I.2) && (!z6Y.2)) && (decide (z6D.1 = 11))) rfl rfl rfl rfl rfl rfl (fun h=>(y2w h).symm) (fun _ zly=>?_) ?_
     ·skip
      refine WL.pu rfl (WL.pu rfl (WL.pu rfl ?_))
      exact WL.yz (y2x zly) rfl rfl .all
     refine WL.pu rfl ?_
     refine WL.seg true 1 139 (B:=((((z4N && (decide (z2I.1 = 7))) && z2I.2) && (!z6Y.2)) && (decide (z6D.1 = 11))) && z6D.2) rfl rfl rfl rfl rfl rfl (fun h=>(y2w h).symm) (fun _ zlz=>?_) ?_
     ·skip
      refine WL.pu rfl (WL.pu rfl ?_)
      exact WL.yz (y2x zlz) rfl rfl .all
     refine WL.pu rfl (WL.nil (WX.a (WC.ret ?_)))
     obtain rfl:=Option.some.inj h
     refine WX.ye Tryd.results9 (.tmp rfl .nil) (fun w hw=>?_)
     exact ⟨(zlc ++ zle),yX rfl,trivial,hw.sub (.cons .h7 .nil)⟩
    refine WD.y4Y (fuel':=1) (fun (Zn4o1_10545 : Zp) (ao4o2_10545 : Option Addr) (cap4o3_10545 : Nat) (b8o1_10545 : Nat) (b9o1_10545 : Nat)=>[(1,(.slice z2a z1x.length z2b)),(8,(.pointer (some ⟨z23,0,none⟩))),(10,(.pointer (some ⟨z24,0,none⟩))),(73,(.agg #[(.int .u8 zH.2.fKind),(.int .i64 zH.2.fA),(.int .i64 zH.2.fB),(.slice ao4o2_10545 zH.2.fData.length cap4o3_10545)])),(12,(.pointer (some ⟨b9o1_10545,0,none⟩)))]) (fun (Zn4o1_10545 : Zp) (ao4o2_10545 : Option Addr) (cap4o3_10545 : Nat) (b8o1_10545 : Nat) (b9o1_10545 : Nat)=>[stb b8o1_10545 39 [(.int .i64 zH.1.fPc),(.int .i64 zH.1.fLeft),(.int .u8 zH.1.fRegs.a0),(.int .u8 zH.1.fRegs.a1),(.int .u8 zH.1.fRegs.a2),(.int .u8 zH.1.fRegs.a3)],stb b9o1_10545 41 [(.int .u8 0),(.int .i64 0),(.int .i64 0),(.slice none 0 0)],fz (((z1y ++ z2f) ++ z2g) ++ Zn4o1_10545),stb z24 41 [(.int .u8 zr.2.fKind),(.int .i64 zr.2.fA),(.int .i64 zr.2.fB),(.slice z41 zr.2.fData.length z42)],stb z43 39 [(.int .i64 zr.1.fPc),(.int .i64 zr.1.fLeft),(.int .u8 zr.1.fRegs.a0),(.int .u8 zr.1.fRegs.a1),(.int .u8 zr.1.fRegs.a2),(.int .u8 zr.1.fRegs.a3)],stb z23 41 [(.int .u8 zq.2.fKind),(.int .i64 zq.2.fA),(.int .i64 zq.2.fB),(.slice z3Y zq.2.fData.length z3Z)],stb z40 39 [(.int .i64 zq.1.fPc),(.int .i64 zq.1.fLeft),(.int .u8 zq.1.fRegs.a0),(.int .u8 zq.1.fRegs.a1),(.int .u8 zq.1.fRegs.a2),(.int .u8 zq.1.fRegs.a3)],stb b2o1_10186 39 [(.int .i64 z1B),(.int .i64 z1C),(.int .u8 z1D),(.int .u8 z1E),(.int .u8 z1F),(.int .u8 z1G)]]) (fun (Zn4o1_10545 : Zp) (ao4o2_10545 : Option Addr) (cap4o3_10545 : Nat) (b8o1_10545 : Nat) (b9o1_10545 : Nat)=>(ZS ((Z ++ ((z1y ++ z2f) ++ z2g)) ++ Zn4o1_10545) 1 (fun zH x=>zH = e5 x) ao4o2_10545 cap4o3_10545 zH.2.fData)) (y10 12 [10,9,8,7,6,5,4,3,2,1,0]) ?_ (fun K4o5o6o7o8o9o10_10545=>?_)
    ·skip
     rintro Zn4o1_10545 ao4o2_10545 cap4o3_10545 b8o1_10545 b9o1_10545 hf4o4_10545
     refine WD.y2p (i:=11) rfl (by kernel_rfl) rfl rfl rfl (by kernel_rfl) (yy y1y rfl rfl rfl .h1 rfl rfl rfl) ?_
     exact WD.yB (.cons .here (.cons .here (.cons .here (.cons .here (.cons .here (.cons .here (.cons .here (.cons .here .nil)))))))) (.cons rfl (.cons rfl (.cons rfl (.cons rfl .nil)))) (K4o5o6o7o8o9o10o11_10545 Zn4o1_10545 ao4o2_10545 cap4o3_10545 b8o1_10545 b9o1_10545 hf4o4_10545)
    refine WD.y4Y (fuel':=2) (fun (Zn4o1_10545 : Zp) (ao4o2_10545 : Option Addr) (cap4o3_10545 : Nat) (b8o1_10545 : Nat) (b9o1_10545 : Nat)=>[(1,(.slice z2a z1x.length z2b)),(8,(.pointer (some ⟨z23,0,none⟩))),(10,(.pointer (some ⟨z24,0,none⟩))),(72,(.agg #[(.int .i64 zH.1.fPc),(.int .i64 zH.1.fLeft),(.int .u8 zH.1.fRegs.a0),(.int .u8 zH.1.fRegs.a1),(.int .u8 zH.1.fRegs.a2),(.int .u8 zH.1.fRegs.a3)])),(73,(.agg #[(.int .u8 zH.2.fKind),(.int .i64 zH.2.fA),(.int .i64 zH.2.fB),(.slice ao4o2_10545 zH.2.fData.length cap4o3_10545)])),(11,(.pointer (some ⟨b8o1_10545,0,none⟩))),(12,(.pointer (some ⟨b9o1_10545,0,none⟩)))]) (fun (Zn4o1_10545 : Zp) (ao4o2_10545 : Option Addr) (cap4o3_10545 : Nat) (b8o1_10545 : Nat) (b9o1_10545 : Nat)=>[stb b9o1_10545 41 [(.int .u8 0),(.int .i64 0),(.int .i64 0),(.slice none 0 0)],stb b8o1_10545 39 [(.int .i64 0),(.int .i64 0),(.int .u8 0),(.int .u8 0),(.int .u8 0),(.int .u8 0)],fz (((z1y ++ z2f) ++ z2g) ++ Zn4o1_10545),stb z24 41 [(.int .u8 zr.2.fKind),(.int .i64 zr.2.fA),(.int .i64 zr.2.fB),(.slice z41 zr.2.fData.length z42)],stb z43 39 [(.int .i64 zr.1.fPc),(.int .i64 zr.1.fLeft),(.int .u8 zr.1.fRegs.a0),(.int .u8 zr.1.fRegs.a1),(.int .u8 zr.1.fRegs.a2),(.int .u8 zr.1.fRegs.a3)],stb z23 41 [(.int .u8 zq.2.fKind),(.int .i64 zq.2.fA),(.int .i64 zq.2.fB),(.slice z3Y zq.2.fData.length z3Z)],stb z40 39 [(.int .i64 zq.1.fPc),(.int .i64 zq.1.fLeft),(.int .u8 zq.1.fRegs.a0),(.int .u8 zq.1.fRegs.a1),(.int .u8 zq.1.fRegs.a2),(.int .u8 zq.1.fRegs.a3)],stb b2o1_10186 39 [(.int .i64 z1B),(.int .i64 z1C),(.int .u8 z1D),(.int .u8 z1E),(.int .u8 z1F),(.int .u8 z1G)]]) (fun (Zn4o1_10545 : Zp) (ao4o2_10545 : Option Addr) (cap4o3_10545 : Nat) (b8o1_10545 : Nat) (b9o1_10545 : Nat)=>(ZS ((Z ++ ((z1y ++ z2f) ++ z2g)) ++ Zn4o1_10545) 1 (fun zH x=>zH = e5 x) ao4o2_10545 cap4o3_10545 zH.2.fData)) (y10 12 [9,8,7,6,5,4,3,2,1,0]) ?_ (fun K4o5o6o7o8o9_10545=>?_)
    ·skip
     rintro Zn4o1_10545 ao4o2_10545 cap4o3_10545 b8o1_10545 b9o1_10545 hf4o4_10545
     refine WD.forced0 (i:=10) rfl (by kernel_rfl) rfl rfl rfl (Sin.of .nil) (yy y2i rfl rfl rfl .h1 rfl rfl rfl) ?_
     exact WD.yB (.cons .here (.cons .here (.cons .here (.cons .here (.cons .here (.cons .here (.cons .here (.cons .here .nil)))))))) (.cons rfl (.cons rfl (.cons rfl (.cons rfl (.cons rfl .nil))))) (K4o5o6o7o8o9o10_10545 Zn4o1_10545 ao4o2_10545 cap4o3_10545 b8o1_10545 b9o1_10545 hf4o4_10545)
    refine WD.y5N (fuel':=3) (fun (Zn4o1_10545 : Zp) (ao4o2_10545 : Option Addr) (cap4o3_10545 : Nat) (b8o1_10545 : Nat)=>[(1,(.slice z2a z1x.length z2b)),(8,(.pointer (some ⟨z23,0,none⟩))),(10,(.pointer (some ⟨z24,0,none⟩))),(72,(.agg #[(.int .i64 zH.1.fPc),(.int .i64 zH.1.fLeft),(.int .u8 zH.1.fRegs.a0),(.int .u8 zH.1.fRegs.a1),(.int .u8 zH.1.fRegs.a2),(.int .u8 zH.1.fRegs.a3)])),(73,(.agg #[(.int .u8 zH.2.fKind),(.int .i64 zH.2.fA),(.int .i64 zH.2.fB),(.slice ao4o2_10545 zH.2.fData.length cap4o3_10545)])),(11,(.pointer (some ⟨b8o1_10545,0,none⟩)))]) (fun (Zn4o1_10545 : Zp) (ao4o2_10545 : Option Addr) (cap4o3_10545 : Nat) (b8o1_10545 : Nat)=>[stb b8o1_10545 39 [(.int .i64 0),(.int .i64 0),(.int .u8 0),(.int .u8 0),(.int .u8 0),(.int .u8 0)],fz (((z1y ++ z2f) ++ z2g) ++ Zn4o1_10545),stb z24 41 [(.int .u8 zr.2.fKind),(.int .i64 zr.2.fA),(.int .i64 zr.2.fB),(.slice z41 zr.2.fData.length z42)],stb z43 39 [(.int .i64 zr.1.fPc),(.int .i64 zr.1.fLeft),(.int .u8 zr.1.fRegs.a0),(.int .u8 zr.1.fRegs.a1),(.int .u8 zr.1.fRegs.a2),(.int .u8 zr.1.fRegs.a3)],stb z23 41 [(.int .u8 zq.2.fKind),(.int .i64 zq.2.fA),(.int .i64 zq.2.fB),(.slice z3Y zq.2.fData.length z3Z)],stb z40 39 [(.int .i64 zq.1.fPc),(.int .i64 zq.1.fLeft),(.int .u8 zq.1.fRegs.a0),(.int .u8 zq.1.fRegs.a1),(.int .u8 zq.1.fRegs.a2),(.int .u8 zq.1.fRegs.a3)],stb b2o1_10186 39 [(.int .i64 z1B),(.int .i64 z1C),(.int .u8 z1D),(.int .u8 z1E),(.int .u8 z1F),(.int .u8 z1G)]]) (fun (Zn4o1_10545 : Zp) (ao4o2_10545 : Option Addr) (cap4o3_10545 : Nat) (b8o1_10545 : Nat)=>(ZS ((Z ++ ((z1y ++ z2f) ++ z2g)) ++ Zn4o1_10545) 1 (fun zH x=>zH = e5 x) ao4o2_10545 cap4o3_10545 zH.2.fData)) (y10 12 [8,7,6,5,4,3,2,1,0]) ?_ (fun K4o5o6o7o8_10545=>?_)
    ·skip
     rintro Zn4o1_10545 ao4o2_10545 cap4o3_10545 b8o1_10545 hf4o4_10545
     refine WD.new (i:=9) (dd:=12) rfl (by kernel_rfl) rfl rfl rfl (yA (cs:=[(.int .u8 0),(.int .i64 0),(.int .i64 0),(.slice none 0 0)]) y28 rfl) (fun h'=>absurd h' (by decide)) ?_
     intro b9o1_10545 _
     exact WD.yB (.cons .here (.cons .here (.cons .here (.cons .here (.cons .here (.cons .here (.cons .here (.cons .here .nil)))))))) (.cons rfl (.cons rfl (.cons rfl (.cons rfl (.cons rfl (.cons rfl (.cons rfl .nil))))))) (K4o5o6o7o8o9_10545 Zn4o1_10545 ao4o2_10545 cap4o3_10545 b8o1_10545 b9o1_10545 hf4o4_10545)
    refine WD.y5N (fuel':=3) (fun (Zn4o1_10545 : Zp) (ao4o2_10545 : Option Addr) (cap4o3_10545 : Nat) (b9o1_10545 : Nat)=>[(1,(.slice z2a z1x.length z2b)),(8,(.pointer (some ⟨z23,0,none⟩))),(10,(.pointer (some ⟨z24,0,none⟩))),(72,(.agg #[(.int .i64 zH.1.fPc),(.int .i64 zH.1.fLeft),(.int .u8 zH.1.fRegs.a0),(.int .u8 zH.1.fRegs.a1),(.int .u8 zH.1.fRegs.a2),(.int .u8 zH.1.fRegs.a3)])),(73,(.agg #[(.int .u8 zH.2.fKind),(.int .i64 zH.2.fA),(.int .i64 zH.2.fB),(.slice ao4o2_10545 zH.2.fData.length cap4o3_10545)])),(12,(.pointer (some ⟨b9o1_10545,0,none⟩)))]) (fun (Zn4o1_10545 : Zp) (ao4o2_10545 : Option Addr) (cap4o3_10545 : Nat) (b9o1_10545 : Nat)=>[stb b9o1_10545 41 [(.int .u8 0),(.int .i64 0),(.int .i64 0),(.slice none 0 0)],fz (((z1y ++ z2f) ++ z2g) ++ Zn4o1_10545),stb z24 41 [(.int .u8 zr.2.fKind),(.int .i64 zr.2.fA),(.int .i64 zr.2.fB),(.slice z41 zr.2.fData.length z42)],stb z43 39 [(.int .i64 zr.1.fPc),(.int .i64 zr.1.fLeft),(.int .u8 zr.1.fRegs.a0),(.int .u8 zr.1.fRegs.a1),(.int .u8 zr.1.fRegs.a2),(.int .u8 zr.1.fRegs.a3)],stb z23 41 [(.int .u8 zq.2.fKind),(.int .i64 zq.2.fA),(.int .i64 zq.2.fB),(.slice z3Y zq.2.fData.length z3Z)],stb z40 39 [(.int .i64 zq.1.fPc),(.int .i64 zq.1.fLeft),(.int .u8 zq.1.fRegs.a0),(.int .u8 zq.1.fRegs.a1),(.int .u8 zq.1.fRegs.a2),(.int .u8 zq.1.fRegs.a3)],stb b2o1_10186 39 [(.int .i64 z1B),(.int .i64 z1C),(.int .u8 z1D),(.int .u8 z1E),(.int .u8 z1F),(.int .u8 z1G)]]) (fun (Zn4o1_10545 : Zp) (ao4o2_10545 : Option Addr) (cap4o3_10545 : Nat) (b9o1_10545 : Nat)=>(ZS ((Z ++ ((z1y ++ z2f) ++ z2g)) ++ Zn4o1_10545) 1 (fun zH x=>zH = e5 x) ao4o2_10545 cap4o3_10545 zH.2.fData)) (y10 12 [9,7,6,5,4,3,2,1,0]) ?_ (fun K4o5o6o7o9_10545=>?_)
    ·skip
     rintro Zn4o1_10545 ao4o2_10545 cap4o3_10545 b9o1_10545 hf4o4_10545
     refine WD.new (i:=8) (dd:=11) rfl (by kernel_rfl) rfl rfl rfl (yA (cs:=[(.int .i64 0),(.int .i64 0),(.int .u8 0),(.int .u8 0),(.int .u8 0),(.int .u8 0)]) y1s rfl) (fun h'=>absurd h' (by decide)) ?_
     intro b8o1_10545 _
     exact WD.yB (.cons .h1 (.cons .here (.cons .here (.cons .here (.cons .here (.cons .here (.cons .here (.cons .here .nil)))))))) (.cons rfl (.cons rfl (.cons rfl (.cons rfl (.cons rfl (.cons rfl (.cons rfl .nil))))))) (K4o5o6o7o8o9_10545 Zn4o1_10545 ao4o2_10545 cap4o3_10545 b8o1_10545 b9o1_10545 hf4o4_10545)
    refine WD.mids3 (fuel':=4) (fun (Zn4o1_10545 : Zp) (ao4o2_10545 : Option Addr) (cap4o3_10545 : Nat)=>[(1,(.slice z2a z1x.length z2b)),(8,(.pointer (some ⟨z23,0,none⟩))),(10,(.pointer (some ⟨z24,0,none⟩))),(72,(.agg #[(.int .i64 zH.1.fPc),(.int .i64 zH.1.fLeft),(.int .u8 zH.1.fRegs.a0),(.int .u8 zH.1.fRegs.a1),(.int .u8 zH.1.fRegs.a2),(.int .u8 zH.1.fRegs.a3)])),(73,(.agg #[(.int .u8 zH.2.fKind),(.int .i64 zH.2.fA),(.int .i64 zH.2.fB),(.slice ao4o2_10545 zH.2.fData.length cap4o3_10545)]))]) (fun (Zn4o1_10545 : Zp) (ao4o2_10545 : Option Addr) (cap4o3_10545 : Nat)=>[fz (((z1y ++ z2f) ++ z2g) ++ Zn4o1_10545),stb z24 41 [(.int .u8 zr.2.fKind),(.int .i64 zr.2.fA),(.int .i64 zr.2.fB),(.slice z41 zr.2.fData.length z42)],stb z43 39 [(.int .i64 zr.1.fPc),(.int .i64 zr.1.fLeft),(.int .u8 zr.1.fRegs.a0),(.int .u8 zr.1.fRegs.a1),(.int .u8 zr.1.fRegs.a2),(.int .u8 zr.1.fRegs.a3)],stb z23 41 [(.int .u8 zq.2.fKind),(.int .i64 zq.2.fA),(.int .i64 zq.2.fB),(.slice z3Y zq.2.fData.length z3Z)],stb z40 39 [(.int .i64 zq.1.fPc),(.int .i64 zq.1.fLeft),(.int .u8 zq.1.fRegs.a0),(.int .u8 zq.1.fRegs.a1),(.int .u8 zq.1.fRegs.a2),(.int .u8 zq.1.fRegs.a3)],stb b2o1_10186 39 [(.int .i64 z1B),(.int .i64 z1C),(.int .u8 z1D),(.int .u8 z1E),(.int .u8 z1F),(.int .u8 z1G)]]) (fun (Zn4o1_10545 : Zp) (ao4o2_10545 : Option Addr) (cap4o3_10545 : Nat)=>(ZS ((Z ++ ((z1y ++ z2f) ++ z2g)) ++ Zn4o1_10545) 1 (fun zH x=>zH = e5 x) ao4o2_10545 cap4o3_10545 zH.2.fData)) (y10 12 [7,6,5,4,3,2,1,0]) ?_ (fun K4o5o6o7_10545=>?_)
    ·skip
     rintro Zn4o1_10545 ao4o2_10545 cap4o3_10545 hf4o4_10545
     refine WD.choose [8,9] (by kernel_rfl) rfl ?_
     refine WDo.cons ?_ (WDo.cons ?_ (WDo.nil))
     ·refine WDo.new (i:=8) (dd:=11) rfl rfl rfl rfl (yA (cs:=[(.int .i64 0),(.int .i64 0),(.int .u8 0),(.int .u8 0),(.int .u8 0),(.int .u8 0)]) y1s rfl) (fun h'=>absurd h' (by decide)) ?_
      intro b8o1_10545 _
      exact WD.yB (.cons .here (.cons .here (.cons .here (.cons .here (.cons .here (.cons .here (.cons .here .nil))))))) (.cons rfl (.cons rfl (.cons rfl (.cons rfl (.cons rfl (.cons rfl .nil)))))) (K4o5o6o7o8_10545 Zn4o1_10545 ao4o2_10545 cap4o3_10545 b8o1_10545 hf4o4_10545)
     ·refine WDo.new (i:=9) (dd:=12) rfl rfl rfl rfl (yA (cs:=[(.int .u8 0),(.int .i64 0),(.int .i64 0),(.slice none 0 0)]) y28 rfl) (fun h'=>absurd h' (by decide)) ?_
      intro b9o1_10545 _
      exact WD.yB (.cons .here (.cons .here (.cons .here (.cons .here (.cons .here (.cons .here (.cons .here .nil))))))) (.cons rfl (.cons rfl (.cons rfl (.cons rfl (.cons rfl (.cons rfl .nil)))))) (K4o5o6o7o9_10545 Zn4o1_10545 ao4o2_10545 cap4o3_10545 b9o1_10545 hf4o4_10545)
    refine WD.y4X (fuel':=6) (fun (b8o1_10545 : Nat) (b9o1_10545 : Nat)=>[(1,(.slice z2a z1x.length z2b)),(8,(.pointer (some ⟨z23,0,none⟩))),(10,(.pointer (some ⟨z24,0,none⟩))),(67,(.slice z2a z1x.length z2b)),(68,(.agg #[(.int .i64 z1B),(.int .i64 z1C),(.int .u8 z1D),(.int .u8 z1E),(.int .u8 z1F),(.int .u8 z1G)])),(70,(.slice z9h ((z2k.take (20 : Int).toNat).length) z9i)),(11,(.pointer (some ⟨b8o1_10545,0,none⟩))),(12,(.pointer (some ⟨b9o1_10545,0,none⟩)))]) (fun (b8o1_10545 : Nat) (b9o1_10545 : Nat)=>[stb b9o1_10545 41 [(.int .u8 0),(.int .i64 0),(.int .i64 0),(.slice none 0 0)],stb b8o1_10545 39 [(.int .i64 0),(.int .i64 0),(.int .u8 0),(.int .u8 0),(.int .u8 0),(.int .u8 0)],stb z24 41 [(.int .u8 zr.2.fKind),(.int .i64 zr.2.fA),(.int .i64 zr.2.fB),(.slice z41 zr.2.fData.length z42)],stb z43 39 [(.int .i64 zr.1.fPc),(.int .i64 zr.1.fLeft),(.int .u8 zr.1.fRegs.a0),(.int .u8 zr.1.fRegs.a1),(.int .u8 zr.1.fRegs.a2),(.int .u8 zr.1.fRegs.a3)],fz ((z1y ++ z2f) ++ z2g),stb z23 41 [(.int .u8 zq.2.fKind),(.int .i64 zq.2.fA),(.int .i64 zq.2.fB),(.slice z3Y zq.2.fData.length z3Z)],stb z40 39 [(.int .i64 zq.1.fPc),(.int .i64 zq.1.fLeft),(.int .u8 zq.1.fRegs.a0),(.int .u8 zq.1.fRegs.a1),(.int .u8 zq.1.fRegs.a2),(.int .u8 zq.1.fRegs.a3)],stb b2o1_10186 39 [(.int .i64 z1B),(.int .i64 z1C),(.int .u8 z1D),(.int .u8 z1E),(.int .u8 z1F),(.int .u8 z1G)]]) (fun (b8o1_10545 : Nat) (b9o1_10545 : Nat)=>True) (y10 12 [9,8,3,2,1,0]) ?_ (fun K8o9_10545=>?_)
    ·skip
     rintro b8o1_10545 b9o1_10545 _
     refine WD.call3 (i:=4) (dd:=71) rfl (by kernel_rfl) rfl rfl rfl (.inr rfl) (zI (l:=[.tmp 67,.tmp 68,.tmp 70]) Tryd.call18 (.cons rfl (.cons rfl (.cons rfl .nil)))) .nil (ccz hz .nil .h4 fun w pz ho=>y1p _ _ _ _ _ _ _ _ _ z7E w pz (hG0.mono ((Zle.left _ _).trans (z1t.trans ((Zle.left _ _).trans ((Zle.y5 _ _ _).trans ((Zle.left _ _).trans (Zle.y5 _ _ _))))))) ((hG1.mono ((Zle.left _ _).trans (z1t.trans ((Zle.left _ _).trans ((Zle.y5 _ _ _).trans ((Zle.left _ _).trans (Zle.y5 _ _ _))))))).weak (fun _ _ h=>yE ((Zle.left _ _).trans (z1t.trans ((Zle.left _ _).trans ((Zle.y5 _ _ _).trans ((Zle.left _ _).trans (Zle.y5 _ _ _)))))) h)) (z5f.mono ((Zle.left _ _).trans ((Zle.y5 _ _ _).trans ((Zle.left _ _).trans (Zle.y5 _ _ _))))) z7F) ?_
     rintro Zn4o1_10545 ao4o2_10545 cap4o3_10545 hf4o4_10545
     refine WD.merge .here .h4 ?_
     refine WD.a (i:=5) (d:=66) (by kernel_rfl) rfl z1 z2 rfl rfl rfl (fun _=>q_m rfl) ?_
     refine WD.a (i:=6) (d:=72) (by kernel_rfl) rfl z1 z2 rfl rfl rfl (fun _=>y1A rfl rfl) ?_
     refine WD.a (i:=7) (d:=73) (by kernel_rfl) rfl z1 z2 rfl rfl rfl (fun _=>y1A rfl rfl) ?_
     exact WD.yB (.cons .h1 (.cons .h1 (.cons .here (.cons .here (.cons .here (.cons .here (.cons .here (.cons .here .nil)))))))) (.cons rfl (.cons rfl (.cons rfl (.cons rfl (.cons rfl (.cons rfl (.cons rfl .nil))))))) (K4o5o6o7o8o9_10545 Zn4o1_10545 ao4o2_10545 cap4o3_10545 b8o1_10545 b9o1_10545 hf4o4_10545)
    refine WD.y3j (fuel':=7) (fun (b8o1_10545 : Nat)=>[(1,(.slice z2a z1x.length z2b)),(8,(.pointer (some ⟨z23,0,none⟩))),(10,(.pointer (some ⟨z24,0,none⟩))),(67,(.slice z2a z1x.length z2b)),(68,(.agg #[(.int .i64 z1B),(.int .i64 z1C),(.int .u8 z1D),(.int .u8 z1E),(.int .u8 z1F),(.int .u8 z1G)])),(70,(.slice z9h ((z2k.take (20 : Int).toNat).length) z9i)),(11,(.pointer (some ⟨b8o1_10545,0,none⟩)))]) (fun (b8o1_10545 : Nat)=>[stb b8o1_10545 39 [(.int .i64 0),(.int .i64 0),(.int .u8 0),(.int .u8 0),(.int .u8 0),(.int .u8 0)],stb z24 41 [(.int .u8 zr.2.fKind),(.int .i64 zr.2.fA),(.int .i64 zr.2.fB),(.slice z41 zr.2.fData.length z42)],stb z43 39 [(.int .i64 zr.1.fPc),(.int .i64 zr.1.fLeft),(.int .u8 zr.1.fRegs.a0),(.int .u8 zr.1.fRegs.a1),(.int .u8 zr.1.fRegs.a2),(.int .u8 zr.1.fRegs.a3)],fz ((z1y ++ z2f) ++ z2g),stb z23 41 [(.int .u8 zq.2.fKind),(.int .i64 zq.2.fA),(.int .i64 zq.2.fB),(.slice z3Y zq.2.fData.length z3Z)],stb z40 39 [(.int .i64 zq.1.fPc),(.int .i64 zq.1.fLeft),(.int .u8 zq.1.fRegs.a0),(.int .u8 zq.1.fRegs.a1),(.int .u8 zq.1.fRegs.a2),(.int .u8 zq.1.fRegs.a3)],stb b2o1_10186 39 [(.int .i64 z1B),(.int .i64 z1C),(.int .u8 z1D),(.int .u8 z1E),(.int .u8 z1F),(.int .u8 z1G)]]) (fun (b8o1_10545 : Nat)=>True) (y10 12 [8,3,2,1,0]) ?_ (fun K8_10545=>?_)
    ·skip
     rintro b8o1_10545 _
     refine WD.choose [4,9] (by kernel_rfl) rfl ?_
     refine WDo.cons ?_ (WDo.cons ?_ (WDo.nil))
     ·refine WDo.call3 (i:=4) (dd:=71) rfl rfl rfl rfl (.inr rfl) (zI (l:=[.tmp 67,.tmp 68,.tmp 70]) Tryd.call18 (.cons rfl (.cons rfl (.cons rfl .nil)))) .nil (ccz hz .nil .h3 fun w pz ho=>y1p _ _ _ _ _ _ _ _ _ z7E w pz (hG0.mono ((Zle.left _ _).trans (z1t.trans ((Zle.left _ _).trans ((Zle.y5 _ _ _).trans ((Zle.left _ _).trans (Zle.y5 _ _ _))))))) ((hG1.mono ((Zle.left _ _).trans (z1t.trans ((Zle.left _ _).trans ((Zle.y5 _ _ _).trans ((Zle.left _ _).trans (Zle.y5 _ _ _))))))).weak (fun _ _ h=>yE ((Zle.left _ _).trans (z1t.trans ((Zle.left _ _).trans ((Zle.y5 _ _ _).trans ((Zle.left _ _).trans (Zle.y5 _ _ _)))))) h)) (z5f.mono ((Zle.left _ _).trans ((Zle.y5 _ _ _).trans ((Zle.left _ _).trans (Zle.y5 _ _ _))))) z7F) ?_
      rintro Zn4o1_10545 ao4o2_10545 cap4o3_10545 hf4o4_10545
      refine WD.merge .here .h3 ?_
      refine WD.a (i:=5) (d:=66) (by kernel_rfl) rfl z1 z2 rfl rfl rfl (fun _=>q_m rfl) ?_
      refine WD.a (i:=6) (d:=72) (by kernel_rfl) rfl z1 z2 rfl rfl rfl (fun _=>y1A rfl rfl) ?_
      refine WD.a (i:=7) (d:=73) (by kernel_rfl) rfl z1 z2 rfl rfl rfl (fun _=>y1A rfl rfl) ?_
      exact WD.yB (.cons .h1 (.cons .here (.cons .here (.cons .here (.cons .here (.cons .here (.cons .here .nil))))))) (.cons rfl (.cons rfl (.cons rfl (.cons rfl (.cons rfl (.cons rfl .nil)))))) (K4o5o6o7o8_10545 Zn4o1_10545 ao4o2_10545 cap4o3_10545 b8o1_10545 hf4o4_10545)
     ·refine WDo.new (i:=9) (dd:=12) rfl rfl rfl rfl (yA (cs:=[(.int .u8 0),(.int .i64 0),(.int .i64 0),(.slice none 0 0)]) y28 rfl) (fun h'=>absurd h' (by decide)) ?_
      intro b9o1_10545 _
      exact WD.yB (.cons .here (.cons .here (.cons .here (.cons .here (.cons .here (.cons .here (.cons .here (.cons .here .nil)))))))) (.cons rfl (.cons rfl (.cons rfl (.cons rfl (.cons rfl (.cons rfl (.cons rfl (.cons rfl .nil)))))))) (K8o9_10545 b8o1_10545 b9o1_10545 trivial)
    refine WD.y3j (fuel':=7) (fun (b9o1_10545 : Nat)=>[(1,(.slice z2a z1x.length z2b)),(8,(.pointer (some ⟨z23,0,none⟩))),(10,(.pointer (some ⟨z24,0,none⟩))),(67,(.slice z2a z1x.length z2b)),(68,(.agg #[(.int .i64 z1B),(.int .i64 z1C),(.int .u8 z1D),(.int .u8 z1E),(.int .u8 z1F),(.int .u8 z1G)])),(70,(.slice z9h ((z2k.take (20 : Int).toNat).length) z9i)),(12,(.pointer (some ⟨b9o1_10545,0,none⟩)))]) (fun (b9o1_10545 : Nat)=>[stb b9o1_10545 41 [(.int .u8 0),(.int .i64 0),(.int .i64 0),(.slice none 0 0)],stb z24 41 [(.int .u8 zr.2.fKind),(.int .i64 zr.2.fA),(.int .i64 zr.2.fB),(.slice z41 zr.2.fData.length z42)],stb z43 39 [(.int .i64 zr.1.fPc),(.int .i64 zr.1.fLeft),(.int .u8 zr.1.fRegs.a0),(.int .u8 zr.1.fRegs.a1),(.int .u8 zr.1.fRegs.a2),(.int .u8 zr.1.fRegs.a3)],fz ((z1y ++ z2f) ++ z2g),stb z23 41 [(.int .u8 zq.2.fKind),(.int .i64 zq.2.fA),(.int .i64 zq.2.fB),(.slice z3Y zq.2.fData.length z3Z)],stb z40 39 [(.int .i64 zq.1.fPc),(.int .i64 zq.1.fLeft),(.int .u8 zq.1.fRegs.a0),(.int .u8 zq.1.fRegs.a1),(.int .u8 zq.1.fRegs.a2),(.int .u8 zq.1.fRegs.a3)],stb b2o1_10186 39 [(.int .i64 z1B),(.int .i64 z1C),(.int .u8 z1D),(.int .u8 z1E),(.int .u8 z1F),(.int .u8 z1G)]]) (fun (b9o1_10545 : Nat)=>True) (y10 12 [9,3,2,1,0]) ?_ (fun K9_10545=>?_)
    ·skip
     rintro b9o1_10545 _
     refine WD.choose [4,8] (by kernel_rfl) rfl ?_
     refine WDo.cons ?_ (WDo.cons ?_ (WDo.nil))
     ·refine WDo.call3 (i:=4) (dd:=71) rfl rfl rfl rfl (.inr rfl) (zI (l:=[.tmp 67,.tmp 68,.tmp 70]) Tryd.call18 (.cons rfl (.cons rfl (.cons rfl .nil)))) .nil (ccz hz .nil .h3 fun w pz ho=>y1p _ _ _ _ _ _ _ _ _ z7E w pz (hG0.mono ((Zle.left _ _).trans (z1t.trans ((Zle.left _ _).trans ((Zle.y5 _ _ _).trans ((Zle.left _ _).trans (Zle.y5 _ _ _))))))) ((hG1.mono ((Zle.left _ _).trans (z1t.trans ((Zle.left _ _).trans ((Zle.y5 _ _ _).trans ((Zle.left _ _).trans (Zle.y5 _ _ _))))))).weak (fun _ _ h=>yE ((Zle.left _ _).trans (z1t.trans ((Zle.left _ _).trans ((Zle.y5 _ _ _).trans ((Zle.left _ _).trans (Zle.y5 _ _ _)))))) h)) (z5f.mono ((Zle.left _ _).trans ((Zle.y5 _ _ _).trans ((Zle.left _ _).trans (Zle.y5 _ _ _))))) z7F) ?_
      rintro Zn4o1_10545 ao4o2_10545 cap4o3_10545 hf4o4_10545
      refine WD.merge .here .h3 ?_
      refine WD.a (i:=5) (d:=66) (by kernel_rfl) rfl z1 z2 rfl rfl rfl (fun _=>q_m rfl) ?_
      refine WD.a (i:=6) (d:=72) (by kernel_rfl) rfl z1 z2 rfl rfl rfl (fun _=>y1A rfl rfl) ?_
      refine WD.a (i:=7) (d:=73) (by kernel_rfl) rfl z1 z2 rfl rfl rfl (fun _=>y1A rfl rfl) ?_
      exact WD.yB (.cons .h1 (.cons .here (.cons .here (.cons .here (.cons .here (.cons .here (.cons .here .nil))))))) (.cons rfl (.cons rfl (.cons rfl (.cons rfl (.cons rfl (.cons rfl .nil)))))) (K4o5o6o7o9_10545 Zn4o1_10545 ao4o2_10545 cap4o3_10545 b9o1_10545 hf4o4_10545)
     ·refine WDo.new (i:=8) (dd:=11) rfl rfl rfl rfl (yA (cs:=[(.int .i64 0),(.int .i64 0),(.int .u8 0),(.int .u8 0),(.int .u8 0),(.int .u8 0)]) y1s rfl) (fun h'=>absurd h' (by decide)) ?_
      intro b8o1_10545 _
      exact WD.yB (.cons .h1 (.cons .here (.cons .here (.cons .here (.cons .here (.cons .here (.cons .here (.cons .here .nil)))))))) (.cons rfl (.cons rfl (.cons rfl (.cons rfl (.cons rfl (.cons rfl (.cons rfl (.cons rfl .nil)))))))) (K8o9_10545 b8o1_10545 b9o1_10545 trivial)
    refine WD.choose [4,8,9] (by kernel_rfl) rfl ?_
    refine WDo.cons ?_ (WDo.cons ?_ (WDo.cons ?_ (WDo.nil)))
    ·refine WDo.call3 (i:=4) (dd:=71) rfl rfl rfl rfl (.inr rfl) (zI (l:=[.tmp 67,.tmp 68,.tmp 70]) Tryd.call18 (.cons rfl (.cons rfl (.cons rfl .nil)))) .nil (ccz hz .nil .h2 fun w pz ho=>y1p _ _ _ _ _ _ _ _ _ z7E w pz (hG0.mono ((Zle.left _ _).trans (z1t.trans ((Zle.left _ _).trans ((Zle.y5 _ _ _).trans ((Zle.left _ _).trans (Zle.y5 _ _ _))))))) ((hG1.mono ((Zle.left _ _).trans (z1t.trans ((Zle.left _ _).trans ((Zle.y5 _ _ _).trans ((Zle.left _ _).trans (Zle.y5 _ _ _))))))).weak (fun _ _ h=>yE ((Zle.left _ _).trans (z1t.trans ((Zle.left _ _).trans ((Zle.y5 _ _ _).trans ((Zle.left _ _).trans (Zle.y5 _ _ _)))))) h)) (z5f.mono ((Zle.left _ _).trans ((Zle.y5 _ _ _).trans ((Zle.left _ _).trans (Zle.y5 _ _ _))))) z7F) ?_
     rintro Zn4o1_10545 ao4o2_10545 cap4o3_10545 hf4o4_10545
     refine WD.merge .here .h2 ?_
     refine WD.a (i:=5) (d:=66) (by kernel_rfl) rfl z1 z2 rfl rfl rfl (fun _=>q_m rfl) ?_
     refine WD.a (i:=6) (d:=72) (by kernel_rfl) rfl z1 z2 rfl rfl rfl (fun _=>y1A rfl rfl) ?_
     refine WD.a (i:=7) (d:=73) (by kernel_rfl) rfl z1 z2 rfl rfl rfl (fun _=>y1A rfl rfl) ?_
     exact WD.yB (.cons .here (.cons .here (.cons .here (.cons .here (.cons .here (.cons .here .nil)))))) (.cons rfl (.cons rfl (.cons rfl (.cons rfl (.cons rfl .nil))))) (K4o5o6o7_10545 Zn4o1_10545 ao4o2_10545 cap4o3_10545 hf4o4_10545)
    ·refine WDo.new (i:=8) (dd:=11) rfl rfl rfl rfl (yA (cs:=[(.int .i64 0),(.int .i64 0),(.int .u8 0),(.int .u8 0),(.int .u8 0),(.int .u8 0)]) y1s rfl) (fun h'=>absurd h' (by decide)) ?_
     intro b8o1_10545 _
     exact WD.yB (.cons .here (.cons .here (.cons .here (.cons .here (.cons .here (.cons .here (.cons .here .nil))))))) (.cons rfl (.cons rfl (.cons rfl (.cons rfl (.cons rfl (.cons rfl (.cons rfl .nil))))))) (K8_10545 b8o1_10545 trivial)
    ·refine WDo.new (i:=9) (dd:=12) rfl rfl rfl rfl (yA (cs:=[(.int .u8 0),(.int .i64 0),(.int .i64 0),(.slice none 0 0)]) y28 rfl) (fun h'=>absurd h' (by decide)) ?_
     intro b9o1_10545 _
     exact WD.yB (.cons .here (.cons .here (.cons .here (.cons .here (.cons .here (.cons .here (.cons .here .nil))))))) (.cons rfl (.cons rfl (.cons rfl (.cons rfl (.cons rfl (.cons rfl (.cons rfl .nil))))))) (K9_10545 b9o1_10545 trivial)
 refine WD.y4X (fuel':=2) (fun (b1o1_10186 : Nat) (b2o1_10186 : Nat)=>[(1,(.slice (some ⟨z2R,0,none⟩) (([z1Q,z1R,z1S,z1T,z1U] : List Sapi_Ins).length) 5)),(31,(.agg #[(.int .i64 0),(.int .i64 0),(.int .u8 0),(.int .u8 0),(.int .u8 0),(.int .u8 0)])),(32,(.slice (some ⟨b1o1_10186,0,none⟩) ((List.replicate (32 : Int).toNat (0 : Int)).length) ((32 : Int).toNat))),(2,(.pointer (some ⟨b2o1_10186,0,none⟩)))]) (fun (b1o1_10186 : Nat) (b2o1_10186 : Nat)=>[stb b2o1_10186 39 [(.int .i64 0),(.int .i64 0),(.int .u8 0),(.int .u8 0),(.int .u8 0),(.int .u8 0)],row (.slice (some ⟨b1o1_10186,0,none⟩) ((List.replicate (32 : Int).toNat (0 : Int)).length) ((32 : Int).toNat)) 5 1 ((List.replicate (32 : Int).toNat (0 : Int)).flatMap e5),row (.slice (some ⟨z2R,0,none⟩) (([z1Q,z1R,z1S,z1T,z1U] : List Sapi_Ins).length) 5) 33 4 (([z1Q,z1R,z1S,z1T,z1U] : List Sapi_Ins).flatMap e33),row (.slice (some ⟨z72,0,none⟩) (([1,16,0] : List Int).length) 3) 3 1 (([1,16,0] : List Int).flatMap e3),row (.slice (some ⟨z71,0,none⟩) (([1,0] : List Int).length) 2) 3 1 (([1,0] : List Int).flatMap e3),row (.slice (some ⟨z70,0,none⟩) (([3] : List Int).length) 1) 3 1 (([3] : List Int).flatMap e3),row (.slice (some ⟨z6Z,0,none⟩) (([0,5] : List Int).length) 2) 3 1 (([0,5] : List Int).flatMap e3),fz []]) (fun (b1o1_10186 : Nat) (b2o1_10186 : Nat)=>True) (y10 5 [2,1,0]) ?_ (fun K1o2_10186=>?_)
 ·skip
  rintro b1o1_10186 b2o1_10186 _
  refine WD.forced0 (i:=3) rfl (by kernel_rfl) rfl rfl rfl (Sin.of .nil) (yy y2i rfl rfl rfl .here rfl rfl rfl) ?_
  refine WD.a (i:=4) (d:=3) (by kernel_rfl) rfl z1 z2 rfl rfl rfl (fun _=>q_z rfl) ?_
  exact WD.yB (.cons .here (.cons .here (.cons .here (.cons .here (.cons .here (.cons .here (.cons .here (.cons .here .nil)))))))) (.cons rfl (.cons rfl (.cons rfl .nil))) (K1o2o3o4_10186 b1o1_10186 b2o1_10186 trivial)
 refine WD.y3j (fuel':=2) (fun (b2o1_10186 : Nat)=>[(1,(.slice (some ⟨z2R,0,none⟩) (([z1Q,z1R,z1S,z1T,z1U] : List Sapi_Ins).length) 5)),(2,(.pointer (some ⟨b2o1_10186,0,none⟩)))]) (fun (b2o1_10186 : Nat)=>[stb b2o1_10186 39 [(.int .i64 0),(.int .i64 0),(.int .u8 0),(.int .u8 0),(.int .u8 0),(.int .u8 0)],row (.slice (some ⟨z2R,0,none⟩) (([z1Q,z1R,z1S,z1T,z1U] : List Sapi_Ins).length) 5) 33 4 (([z1Q,z1R,z1S,z1T,z1U] : List Sapi_Ins).flatMap e33),row (.slice (some ⟨z72,0,none⟩) (([1,16,0] : List Int).length) 3) 3 1 (([1,16,0] : List Int).flatMap e3),row (.slice (some ⟨z71,0,none⟩) (([1,0] : List Int).length) 2) 3 1 (([1,0] : List Int).flatMap e3),row (.slice (some ⟨z70,0,none⟩) (([3] : List Int).length) 1) 3 1 (([3] : List Int).flatMap e3),row (.slice (some ⟨z6Z,0,none⟩) (([0,5] : List Int).length) 2) 3 1 (([0,5] : List Int).flatMap e3),fz []]) (fun (b2o1_10186 : Nat)=>True) (y10 5 [3,2,0]) ?_ (fun K2o3_10186=>?_)
 ·skip
  rintro b2o1_10186 _
  refine WD.new (i:=1) (dd:=32) rfl (by kernel_rfl) rfl rfl rfl (y33 (r:=[(.int .u8 0)]) (z0:=(0 : Int)) y2g y4S rfl rfl rfl rfl z9a) (fun h'=>absurd h' (by decide)) ?_
  intro b1o1_10186 _
  refine WD.rowEqD .here (cs':=(List.replicate (32 : Int).toNat (0 : Int)).flatMap e5) (y4c (enc:=e5) (0 : Int) _) ?_
  refine WD.a (i:=4) (d:=3) (by kernel_rfl) rfl z1 z2 rfl rfl rfl (fun _=>q_z rfl) ?_
  exact WD.yB (.cons .h1 (.cons .here (.cons .here (.cons .here (.cons .here (.cons .here (.cons .here (.cons .here .nil)))))))) (.cons rfl (.cons rfl (.cons rfl .nil))) (K1o2o3o4_10186 b1o1_10186 b2o1_10186 trivial)
 refine WD.y3j (fuel':=3) (fun (b1o1_10186 : Nat)=>[(1,(.slice (some ⟨z2R,0,none⟩) (([z1Q,z1R,z1S,z1T,z1U] : List Sapi_Ins).length) 5)),(31,(.agg #[(.int .i64 0),(.int .i64 0),(.int .u8 0),(.int .u8 0),(.int .u8 0),(.int .u8 0)])),(32,(.slice (some ⟨b1o1_10186,0,none⟩) ((List.replicate (32 : Int).toNat (0 : Int)).length) ((32 : Int).toNat)))]) (fun (b1o1_10186 : Nat)=>[row (.slice (some ⟨b1o1_10186,0,none⟩) ((List.replicate (32 : Int).toNat (0 : Int)).length) ((32 : Int).toNat)) 5 1 ((List.replicate (32 : Int).toNat (0 : Int)).flatMap e5),row (.slice (some ⟨z2R,0,none⟩) (([z1Q,z1R,z1S,z1T,z1U] : List Sapi_Ins).length) 5) 33 4 (([z1Q,z1R,z1S,z1T,z1U] : List Sapi_Ins).flatMap e33),row (.slice (some ⟨z72,0,none⟩) (([1,16,0] : List Int).length) 3) 3 1 (([1,16,0] : List Int).flatMap e3),row (.slice (some ⟨z71,0,none⟩) (([1,0] : List Int).length) 2) 3 1 (([1,0] : List Int).flatMap e3),row (.slice (some ⟨z70,0,none⟩) (([3] : List Int).length) 1) 3 1 (([3] : List Int).flatMap e3),row (.slice (some ⟨z6Z,0,none⟩) (([0,5] : List Int).length) 2) 3 1 (([0,5] : List Int).flatMap e3),fz []]) (fun (b1o1_10186 : Nat)=>True) (y10 5 [1,0]) ?_ (fun K1_10186=>?_)
 ·skip
  rintro b1o1_10186 _
  refine WD.new (i:=2) (dd:=2) rfl (by kernel_rfl) rfl rfl rfl (yA (cs:=[(.int .i64 0),(.int .i64 0),(.int .u8 0),(.int .u8 0),(.int .u8 0),(.int .u8 0)]) y1s rfl) (fun h'=>absurd h' (by decide)) ?_
  intro b2o1_10186 _
  exact WD.yB (.cons .here (.cons .here (.cons .here (.cons .here (.cons .here (.cons .here (.cons .here (.cons .here .nil)))))))) (.cons rfl (.cons rfl (.cons rfl (.cons rfl .nil)))) (K1o2_10186 b1o1_10186 b2o1_10186 trivial)
 refine WD.y3j (fuel':=3) (fun (b2o1_10186 : Nat)=>[(1,(.slice (some ⟨z2R,0,none⟩) (([z1Q,z1R,z1S,z1T,z1U] : List Sapi_Ins).length) 5)),(31,(.agg #[(.int .i64 0),(.int .i64 0),(.int .u8 0),(.int .u8 0),(.int .u8 0),(.int .u8 0)])),(2,(.pointer (some ⟨b2o1_10186,0,none⟩)))]) (fun (b2o1_10186 : Nat)=>[stb b2o1_10186 39 [(.int .i64 0),(.int .i64 0),(.int .u8 0),(.int .u8 0),(.int .u8 0),(.int .u8 0)],row (.slice (some ⟨z2R,0,none⟩) (([z1Q,z1R,z1S,z1T,z1U] : List Sapi_Ins).length) 5) 33 4 (([z1Q,z1R,z1S,z1T,z1U] : List Sapi_Ins).flatMap e33),row (.slice (some ⟨z72,0,none⟩) (([1,16,0] : List Int).length) 3) 3 1 (([1,16,0] : List Int).flatMap e3),row (.slice (some ⟨z71,0,none⟩) (([1,0] : List Int).length) 2) 3 1 (([1,0] : List Int).flatMap e3),row (.slice (some ⟨z70,0,none⟩) (([3] : List Int).length) 1) 3 1 (([3] : List Int).flatMap e3),row (.slice (some ⟨z6Z,0,none⟩) (([0,5] : List Int).length) 2) 3 1 (([0,5] : List Int).flatMap e3),fz []]) (fun (b2o1_10186 : Nat)=>True) (y10 5 [2,0]) ?_ (fun K2_10186=>?_)
 ·skip
  rintro b2o1_10186 _
  refine WD.choose [1,3] (by kernel_rfl) rfl ?_
  refine WDo.cons ?_ (WDo.cons ?_ (WDo.nil))
  ·refine WDo.new (i:=1) (dd:=32) rfl rfl rfl rfl (y33 (r:=[(.int .u8 0)]) (z0:=(0 : Int)) y2g y4S rfl rfl rfl rfl z9a) (fun h'=>absurd h' (by decide)) ?_
   intro b1o1_10186 _
   refine WD.rowEqD .here (cs':=(List.replicate (32 : Int).toNat (0 : Int)).flatMap e5) (y4c (enc:=e5) (0 : Int) _) ?_
   exact WD.yB (.cons .h1 (.cons .here (.cons .here (.cons .here (.cons .here (.cons .here (.cons .here (.cons .here .nil)))))))) (.cons rfl (.cons rfl (.cons rfl (.cons rfl .nil)))) (K1o2_10186 b1o1_10186 b2o1_10186 trivial)
  ·refine WDo.forced0 (i:=3) rfl rfl rfl rfl (Sin.of .nil) (yy y2i rfl rfl rfl .here rfl rfl rfl) ?_
   exact WD.yB (.cons .here (.cons .here (.cons .here (.cons .here (.cons .here (.cons .here (.cons .here .nil))))))) (.cons rfl (.cons rfl .nil)) (K2o3_10186 b2o1_10186 trivial)
 refine WD.choose [1,2] (by kernel_rfl) rfl ?_
 refine WDo.cons ?_ (WDo.cons ?_ (WDo.nil))
 ·refine WDo.new (i:=1) (dd:=32) rfl rfl rfl rfl (y33 (r:=[(.int .u8 0)]) (z0:=(0 : Int)) y2g y4S rfl rfl rfl rfl z9a) (fun h'=>absurd h' (by decide)) ?_
  intro b1o1_10186 _
  refine WD.rowEqD .here (cs':=(List.replicate (32 : Int).toNat (0 : Int)).flatMap e5) (y4c (enc:=e5) (0 : Int) _) ?_
  exact WD.yB (.cons .here (.cons .here (.cons .here (.cons .here (.cons .here (.cons .here (.cons .here .nil))))))) (.cons rfl (.cons rfl (.cons rfl .nil))) (K1_10186 b1o1_10186 trivial)
 ·refine WDo.new (i:=2) (dd:=2) rfl rfl rfl rfl (yA (cs:=[(.int .i64 0),(.int .i64 0),(.int .u8 0),(.int .u8 0),(.int .u8 0),(.int .u8 0)]) y1s rfl) (fun h'=>absurd h' (by decide)) ?_
  intro b2o1_10186 _
  exact WD.yB (.cons .here (.cons .here (.cons .here (.cons .here (.cons .here (.cons .here (.cons .here .nil))))))) (.cons rfl (.cons rfl (.cons rfl .nil))) (K2_10186 b2o1_10186 trivial)
end Go.Proofs.YtjdnejbngloieaaDoor

/- A part of this claim's proof: models of functions, walks, plain laws. No conditions. -/
import Derived.Test.YtjdnejbngloieaaDoorW26b
namespace Go.Proofs.YtjdnejbngloieaaDoor
open Go Go.RowKit Sep
set_option linter.all false
set_option maxRecDepth 30000
set_option maxHeartbeats 4000000
def y2j (z8X : (List Sapi_Ins) → (List Int) → Int → Int → Int → Int → Int → Int → Option Bool) : Nat → (List Sapi_Ins) → (List Int) → Int → Int → Int → Int → Int → Int → Int → Option Bool
 | 0,_,_,_,_,_,_,_,_,_=>none
 | zgu + 1,z4u,z4v,z5B,z5C,z5D,z5E,z5F,z5G,z5H=>if decide (z5B < 5) then (y2A z4u (⟨z5C,z5D,(⟨z5E,z5F,z5G,z5H⟩ : S34)⟩ : Sproc_State) z4v).bind fun z4E=>if decide (z4E.2.fKind ≠ 0) then some false else y2j z8X zgu z4u z4v (i64 (z5B + 1)) z4E.1.fPc z4E.1.fLeft z4E.1.fRegs.a0 z4E.1.fRegs.a1 z4E.1.fRegs.a2 z4E.1.fRegs.a3 else z8X z4u z4v z5C z5D z5E z5F z5G z5H
theorem y5e {n : Nat} {z8X : (List Sapi_Ins) → (List Int) → Int → Int → Int → Int → Int → Int → Option Bool} {z4u : List Sapi_Ins} {z4v : List Int} {z5B : Int} {z5C : Int} {z5D : Int} {z5E : Int} {z5F : Int} {z5G : Int} {z5H : Int} {r : Bool} (h : y2j z8X n z4u z4v z5B z5C z5D z5E z5F z5G z5H = some r) : ∃ m,n = m + 1:=by
 cases n with
 | zero=>cases h
 | succ m=>exact ⟨m,rfl⟩
def y3C  : Option Bool :=
 (y1l 2 ([0,5] : List Int)).bind fun z3D=>(y1l 1 ([3] : List Int)).bind fun z3E=>(y1l 3 ([1,0] : List Int)).bind fun z3F=>(y1l 6 ([1,16,0] : List Int)).bind fun z3G=>(y1l 19 []).bind fun z3H=>chk ((0 : Int) ≤ 32 ∧ (32 : Int) ≤ 32 ∧ (32 : Int) * 1 ≤ 140737488355328 ∧ (32 : Int) ≤ 4611686018427387904) (jp8 (fun (z2F : List Sapi_Ins) (z4w : List Int) (z2R : Int) (z2S : Int) (z2T : Int) (z2U : Int) (z2V : Int) (z2W : Int)=>if decide ((⟨z2R,z2S,(⟨z2T,z2U,z2V,z2W⟩ : S34)⟩ : Sproc_State) ≠ (⟨3,0,(⟨5,5,0,0⟩ : S34)⟩ : Sproc_State)) then some false else (y2A z2F (⟨z2R,z2S,(⟨z2T,z2U,z2V,z2W⟩ : S34)⟩ : Sproc_State) z4w).bind fun zz=>(y2A z2F zz.1 z4w).bind fun zA=>chk ((0 : Int) ≤ 0 ∧ (0 : Int) ≤ 20 ∧ 20 ≤ ((z4w.length : Nat) : Int)) ((y2A z2F (⟨z2R,z2S,(⟨z2T,z2U,z2V,z2W⟩ : S34)⟩ : Sproc_State) (z4w.take (20 : Int).toNat)).bind fun zO=>(y1l 7 ([2,1,3] : List Int)).bind fun zeY=>(y2A ([zeY] : List Sapi_Ins) (⟨0,0,(⟨0,255,0,0⟩ : S34)⟩ : Sproc_State) []).bind fun zky=>(y1x z2F 0).bind fun z5I=>(y1l 21 ([0,0] : List Int)).bind fun zgv=>(y1x ([zgv] : List Sapi_Ins) 0).bind fun zdY=>(y1l 22 ([0,1,2] : List Int)).bind fun zgw=>(y1l 1 ([9] : List Int)).bind fun zgx=>(y1l 25 []).bind fun zgy=>(y1x ([zgw,zgx,zgy] : List Sapi_Ins) 0).bind fun zdA=>(y23 zz.2 (⟨1,21,5,[]⟩ : Sproc_Act)).bind fun zkz=>(if zkz then (y23 zA.2 (⟨14,0,0,[]⟩ : Sproc_Act)).bind fun zkA=>some zkA else some false).bind fun zgz=>(if zgz then (y23 zO.2 (⟨15,2,0,[]⟩ : Sproc_Act)).bind fun zkB=>some zkB else some false).bind fun zgA=>(if zgA then (y23 zky.2 (⟨2,2,0,([255,0,1] : List Int)⟩ : Sproc_Act)).bind fun zkC=>some zkC else some false).bind fun zat=>some (((((zat && (decide (z5I.1 = 7))) && z5I.2) && (!zdY.2)) && (decide (zdA.1 = 11))) && zdA.2))) fun z8X=>y2j z8X y1K ([z3D,z3E,z3F,z3G,z3H] : List Sapi_Ins) (List.replicate (32 : Int).toNat (0 : Int)) 0 0 0 0 0 0 0)
set_option maxRecDepth 20000 in
theorem y75 (Z : Zp)  (r : Bool)
  (h : y3C = some r) (w₀ : World) (hz : PZ [] w₀ Z)
  (hG0 : ZC Z ⟨0,0,none⟩ y67)
  (hG1 : ZS Z 1 (p74 Z) (some ⟨1,0,none⟩) 26 y17) :
  Calls Tryd.prog 9 #[] w₀ fun e w'=>∃ Zn : Zp,e = .returned (.bool r) ∧ True ∧ Hp [] w₀ w' [fz Zn]:=by
 unfold y3C at h
 refine Calls.y8 (vs:=[]) (pre:=[]) (env:=[]) Tryd.func9 rfl Tryd.ntmps9 rfl (Hp.nil w₀ _) rfl ?_
 refine WC.pool (WC.b (WC.a (WL.pu rfl (WL.nil (WX.a (WC.b ?_))))))
 obtain ⟨z3D,ztm,h⟩:=zd h
 obtain ⟨z3E,ztn,h⟩:=zd h
 obtain ⟨z3F,zto,h⟩:=zd h
 obtain ⟨z3G,ztp,h⟩:=zd h
 obtain ⟨z3H,ztq,h⟩:=zd h
 refine WC.a ?_
 refine WL.new (dd:=21) rfl rfl rfl (yy (cs:=([0,5] : List Int).flatMap e3) yU (Eos.parts (l:=[.const (.int .i64 0),.const (.int .i64 5)]) (.cons rfl (.cons rfl .nil)) [0,1]) (fun _=>by kernel_rfl) rfl (by unfold maxLen; omega)) ?_
 intro zdZ _
 refine WL.b (dd:=22) rfl rfl rfl (zl (l:=[.const (.int .u8 2),.tmp 21]) Tryd.call17 (.cons rfl (.cons rfl .nil))) .nil (y2W hz .nil .h1 (.cons .here .nil) fun w pz ho la=>y1y _ _ _ _ _ _ ztm w pz (ZA.row (la _ (.head _) _) (RR.y1b (enc:=e3) (fun _=>rfl) _) ⟨w,pz.1⟩)) ?_
 refine WL.new (dd:=23) rfl rfl rfl (yy (cs:=([3] : List Int).flatMap e3) yU (Eos.parts (l:=[.const (.int .i64 3)]) (.cons rfl .nil) [0]) (fun _=>by kernel_rfl) rfl (by unfold maxLen; omega)) ?_
 intro ze0 _
 refine WL.b (dd:=24) rfl rfl rfl (zl (l:=[.const (.int .u8 1),.tmp 23]) Tryd.call17 (.cons rfl (.cons rfl .nil))) .nil (y2W hz .nil .h2 (.cons .here .nil) fun w pz ho la=>y1y _ _ _ _ _ _ ztn w pz (ZA.row (la _ (.head _) _) (RR.y1b (enc:=e3) (fun _=>rfl) _) ⟨w,pz.1⟩)) ?_
 refine WL.new (dd:=25) rfl rfl rfl (yy (cs:=([1,0] : List Int).flatMap e3) yU (Eos.parts (l:=[.const (.int .i64 1),.const (.int .i64 0)]) (.cons rfl (.cons rfl .nil)) [0,1]) (fun _=>by kernel_rfl) rfl (by unfold maxLen; omega)) ?_
 intro ze1 _
 refine WL.b (dd:=26) rfl rfl rfl (zl (l:=[.const (.int .u8 3),.tmp 25]) Tryd.call17 (.cons rfl (.cons rfl .nil))) .nil (y2W hz .nil .h3 (.cons .here .nil) fun w pz ho la=>y1y _ _ _ _ _ _ zto w pz (ZA.row (la _ (.head _) _) (RR.y1b (enc:=e3) (fun _=>rfl) _) ⟨w,pz.1⟩)) ?_
 refine WL.new (dd:=27) rfl rfl rfl (yy (cs:=([1,16,0] : List Int).flatMap e3) yU (Eos.parts (l:=[.const (.int .i64 1),.const (.int .i64 16),.const (.int .i64 0)]) (.cons rfl (.cons rfl (.cons rfl .nil))) [0,1,2]) (fun _=>by kernel_rfl) rfl (by unfold maxLen; omega)) ?_
 intro ze2 _
 refine WL.b (dd:=28) rfl rfl rfl (zl (l:=[.const (.int .u8 6),.tmp 27]) Tryd.call17 (.cons rfl (.cons rfl .nil))) .nil (y2W hz .nil .h4 (.cons .here .nil) fun w pz ho la=>y1y _ _ _ _ _ _ ztp w pz (ZA.row (la _ (.head _) _) (RR.y1b (enc:=e3) (fun _=>rfl) _) ⟨w,pz.1⟩)) ?_
 refine WL.b (dd:=29) rfl rfl rfl (zl (l:=[.const (.int .u8 19),.const (.slice none 0 0)]) Tryd.call17 (.cons rfl (.cons rfl .nil))) .nil (ccz hz .nil .h4 fun w pz ho=>y1y _ _ _ _ _ _ ztq w pz (ZS.nil _ _ _)) ?_
 refine WL.new (dd:=30) rfl rfl rfl (yy (cs:=([z3D,z3E,z3F,z3G,z3H] : List Sapi_Ins).flatMap e33) y3P (Eos.parts (l:=[.tmp 22,.tmp 24,.tmp 26,.tmp 28,.tmp 29]) (.cons rfl (.cons rfl (.cons rfl (.cons rfl (.cons rfl .nil))))) [0,1,2,3,4]) (fun _=>by kernel_rfl) rfl (by unfold maxLen; omega)) ?_
 intro z6E _
 refine WL.pu rfl (WL.nil (WX.a (WC.b ?_)))
 obtain ⟨zgB,h⟩:=ya h
 refine WC.yX (fun i=>[3].contains i) [] rfl ?_
 refine WD.a (i:=0) (d:=31) (by kernel_rfl) rfl z2 z6 rfl rfl rfl (fun _=>yR (v:=(.agg #[(.int .i64 0),(.int .i64 0),(.int .u8 0),(.int .u8 0),(.int .u8 0),(.int .u8 0)])) (Eos.parts (l:=[]) .nil []) (fun _=>by kernel_rfl)) ?_
 refine WD.y6h (fuel':=0) (fun (b1o1_10186 : Nat) (b2o1_10186 : Nat)=>[(1,(.slice (some ⟨z6E,0,none⟩) (([z3D,z3E,z3F,z3G,z3H] : List Sapi_Ins).length) 5)),(2,(.pointer (some ⟨b2o1_10186,0,none⟩))),(3,(.slice (some ⟨b1o1_10186,0,none⟩) ((List.replicate (32 : Int).toNat (0 : Int)).length) ((32 : Int).toNat)))]) (fun (b1o1_10186 : Nat) (b2o1_10186 : Nat)=>[stb b2o1_10186 39 [(.int .i64 0),(.int .i64 0),(.int .u8 0),(.int .u8 0),(.int .u8 0),(.int .u8 0)],row (.slice (some ⟨b1o1_10186,0,none⟩) ((List.replicate (32 : Int).toNat (0 : Int)).length) ((32 : Int).toNat)) 5 1 ((List.replicate (32 : Int).toNat (0 : Int)).flatMap e5),row (.slice (some ⟨z6E,0,none⟩) (([z3D,z3E,z3F,z3G,z3H] : List Sapi_Ins).length) 5) 33 4 (([z3D,z3E,z3F,z3G,z3H] : List Sapi_Ins).flatMap e33),row (.slice (some ⟨ze2,0,none⟩) (([1,16,0] : List Int).length) 3) 3 1 (([1,16,0] : List Int).flatMap e3),row (.slice (some ⟨ze1,0,none⟩) (([1,0] : List Int).length) 2) 3 1 (([1,0] : List Int).flatMap e3),row (.slice (some ⟨ze0,0,none⟩) (([3] : List Int).length) 1) 3 1 (([3] : List Int).flatMap e3),row (.slice (some ⟨zdZ,0,none⟩) (([0,5] : List Int).length) 2) 3 1 (([0,5] : List Int).flatMap e3),fz []]) (fun (b1o1_10186 : Nat) (b2o1_10186 : Nat)=>True) (y22 5 [4,3,2,1,0]) ?_ (fun K1o2o3o4_10186=>?_)
 ·skip
  rintro b1o1_10186 b2o1_10186 _
  refine WD.done (by kernel_rfl) ?_
  refine WX.a ?_
  obtain ⟨z8X,ztr,h⟩:=jp8_elim h
  refine WC.y7w (fun (z2F : List Sapi_Ins) (z4w : List Int) (z2R : Int) (z2S : Int) (z2T : Int) (z2U : Int) (z2V : Int) (z2W : Int) (z2G : Zp) (z4f : Option Addr) (z4g : Nat) (ze3 : Option Addr) (ze4 : Nat)=>(z8X z2F z4w z2R z2S z2T z2U z2V z2W = some r) ∧ (Zle (Z ++ []) (Z ++ z2G)) ∧ (ZS (Z ++ z2G) 4 (fun r x=>r = e33 x) z4f z4g z2F) ∧ (ZS (Z ++ z2G) 1 (fun r x=>r = e5 x) ze3 ze4 z4w)) (fun (z2F : List Sapi_Ins) (z4w : List Int) (z2R : Int) (z2S : Int) (z2T : Int) (z2U : Int) (z2V : Int) (z2W : Int) (z2G : Zp) (z4f : Option Addr) (z4g : Nat) (ze3 : Option Addr) (ze4 : Nat)=>[(1,(.slice z4f z2F.length z4g)),(2,(.pointer (some ⟨b2o1_10186,0,none⟩))),(3,(.slice ze3 z4w.length ze4))]) (fun (z2F : List Sapi_Ins) (z4w : List Int) (z2R : Int) (z2S : Int) (z2T : Int) (z2U : Int) (z2V : Int) (z2W : Int) (z2G : Zp) (z4f : Option Addr) (z4g : Nat) (ze3 : Option Addr) (ze4 : Nat)=>[fz z2G,stb b2o1_10186 39 [(.int .i64 z2R),(.int .i64 z2S),(.int .u8 z2T),(.int .u8 z2U),(.int .u8 z2V),(.int .u8 z2W)]]) ?_ ?_
  ·skip
   refine WC.b (WC.a (WL.pu rfl (WL.nil (WX.a (WC.block ?_)))))
   refine WC.freezeS (ls:=([z3D,z3E,z3F,z3G,z3H] : List Sapi_Ins)) .h2 .h6 hz (RR.y1b (enc:=e33) (fun _=>rfl) _) ?_
   intro zxK zts ztt
   refine WC.freezeS (ls:=List.replicate (32 : Int).toNat (0 : Int)) .h2 .here hz (RR.y1b (enc:=e5) (fun _=>rfl) _) ?_
   intro ztu zkD ztv
   refine WC.y82 (fun (zdB : Nat) (z4u : List Sapi_Ins) (z4v : List Int) (z5B : Int) (z5C : Int) (z5D : Int) (z5E : Int) (z5F : Int) (z5G : Int) (z5H : Int) (z6F : Zp) (zau : Option Addr) (zav : Nat) (zaw : Option Addr) (zax : Nat)=>(y2j z8X zdB z4u z4v z5B z5C z5D z5E z5F z5G z5H = some r) ∧ (Zle (Z ++ []) (Z ++ z6F)) ∧ (ZS (Z ++ z6F) 4 (fun r x=>r = e33 x) zau zav z4u) ∧ (ZS (Z ++ z6F) 1 (fun r x=>r = e5 x) zaw zax z4v)) (fun (zdB : Nat) (z4u : List Sapi_Ins) (z4v : List Int) (z5B : Int) (z5C : Int) (z5D : Int) (z5E : Int) (z5F : Int) (z5G : Int) (z5H : Int) (z6F : Zp) (zau : Option Addr) (zav : Nat) (zaw : Option Addr) (zax : Nat)=>[(1,(.slice zau z4u.length zav)),(2,(.pointer (some ⟨b2o1_10186,0,none⟩))),(3,(.slice zaw z4v.length zax)),(4,(.int .i64 z5B))]) (fun (zdB : Nat) (z4u : List Sapi_Ins) (z4v : List Int) (z5B : Int) (z5C : Int) (z5D : Int) (z5E : Int) (z5F : Int) (z5G : Int) (z5H : Int) (z6F : Zp) (zau : Option Addr) (zav : Nat) (zaw : Option Addr) (zax : Nat)=>[fz z6F,stb b2o1_10186 39 [(.int .i64 z5C),(.int .i64 z5D),(.int .u8 z5E),(.int .u8 z5F),(.int .u8 z5G),(.int .u8 z5H)]]) (fun (zdB : Nat) (z4u : List Sapi_Ins) (z4v : List Int) (z5B : Int) (z5C : Int) (z5D : Int) (z5E : Int) (z5F : Int) (z5G : Int) (z5H : Int) (z6F : Zp) (zau : Option Addr) (zav : Nat) (zaw : Option Addr) (zax : Nat)=>zdB) ⟨y1K,([z3D,z3E,z3F,z3G,z3H] : List Sapi_Ins),(List.replicate (32 : Int).toNat (0 : Int)),0,0,0,0,0,0,0,ztu,(some ⟨z6E,0,none⟩),5,(some ⟨b1o1_10186,0,none⟩),((32 : Int).toNat)⟩ ⟨h,(zts.trans zkD),(ztt.mono zkD),ztv⟩ (.cons rfl (.cons rfl (.cons rfl (.cons rfl .nil)))) (.cons .here (.cons .here .nil)) ?_
   rintro zdB z4u z4v z5B z5C z5D z5E z5F z5G z5H z6F zau zav zaw zax ⟨h,ze5,zgC,zgD⟩
   obtain ⟨zgu,rfl⟩:=y5e h
   rw [y2j] at h
   refine WC.b (WC.b (WC.a (WL.pu rfl (WL.pu rfl (WL.nil (WX.a ?_))))))
   refine WC.cond rfl (fun zgE=>?_) (fun zgE=>?_)
   ·replace h:=yl h zgE
    refine WC.skip (WX.a (WC.b (WC.block (WC.b ?_))))
    obtain ⟨z4E,ztw,h⟩:=zd h
    refine WC.a (WL.pu rfl ?_)
    refine WL.a (d:=39) rfl rfl rfl (yV y13 rfl (yJ .h1) rfl) ?_
    refine WL.pu rfl ?_
    refine WL.y4w (dd:=41) rfl rfl rfl (zl (l:=[.tmp 38,.tmp 39,.tmp 40]) Tryd.call18 (.cons rfl (.cons rfl (.cons rfl .nil)))) .nil (ccz hz .nil .here fun w pz ho=>y2d _ _ _ _ _ _ _ _ _ ztw w pz (hG0.mono ((Zle.left _ _).trans ze5)) ((hG1.mono ((Zle.left _ _).trans ze5)).weak (fun _ _ h=>y12 ((Zle.left _ _).trans ze5) h)) zgC zgD) ?_
    rintro zkE zxL zxM zxN
    refine WL.merge .here .here ?_
    refine WL.pu rfl (WL.pu rfl (WL.pu rfl ?_))
    refine WL.new (dd:=5) rfl rfl rfl (yE (cs:=[(.int .i64 0),(.int .i64 0),(.int .u8 0),(.int .u8 0),(.int .u8 0),(.int .u8 0)]) y1z rfl) ?_
    intro zxO _
    refine WL.new (dd:=6) rfl rfl rfl (yE (cs:=[(.int .u8 0),(.int .i64 0),(.int .i64 0),(.slice none 0 0)]) y2g rfl) ?_
    intro zxP _
    refine WL.yg rfl rfl (yu y1p rfl rfl rfl .h1 rfl rfl rfl) ?_
    refine WL.yg rfl rfl (yu y1g rfl rfl rfl .h1 rfl rfl rfl) ?_
    refine WL.nil (WX.a (WC.b (WC.a ?_)))
    refine WL.a (d:=44) rfl rfl rfl (yV y13 rfl (yJ .h1) rfl) ?_
    refine WL.yg rfl rfl (yu y1p rfl rfl rfl .h3 rfl rfl rfl) ?_
    refine WL.nil (WX.a (WC.b (WC.a ?_)))
    refine WL.a (d:=45) rfl rfl rfl (y4 y6a rfl rfl) ?_
    refine WL.a (d:=46) rfl rfl rfl (y5 yB rfl (yb .h1 rfl)) ?_
    refine WL.pu rfl (WL.nil (WX.a ?_))
    refine WC.cond rfl (fun zgF=>?_) (fun zgF=>?_)
    ·replace h:=yl h zgF
     refine WC.b (WC.a (WL.pu rfl (WL.nil (WX.a (WC.ret (WX.yL (WX.yf (WX.yf (WX.yL (WX.yf ?_))))))))))
     obtain rfl:=Option.some.inj h
     refine WX.yh Tryd.results9 (.tmp rfl .nil) (fun w hw=>?_)
     exact ⟨(z6F ++ zkE),y1a rfl,trivial,hw.sub (.cons .h3 .nil)⟩
    ·replace h:=ym h zgF
     refine WC.skip (WX.yk (WX.a (WC.a (WL.pu rfl (WL.pu rfl (WL.pu rfl (WL.nil ?_)))))))
     exact WX.round (G:=Nat × List Sapi_Ins × List Int × Int × Int × Int × Int × Int × Int × Int × Zp × Option Addr × Nat × Option Addr × Nat) ⟨zgu,z4u,z4v,(i64 (z5B + 1)),z4E.1.fPc,z4E.1.fLeft,z4E.1.fRegs.a0,z4E.1.fRegs.a1,z4E.1.fRegs.a2,z4E.1.fRegs.a3,(z6F ++ zkE),zau,zav,zaw,zax⟩ ⟨h,(ze5.trans ((Zle.left _ _).trans (Zle.y7 _ _ _))),(zgC.mono ((Zle.left _ _).trans (Zle.y7 _ _ _))),(zgD.mono ((Zle.left _ _).trans (Zle.y7 _ _ _)))⟩ (Nat.lt_succ_self _) (.cons rfl (.cons rfl (.cons rfl (.cons rfl .nil)))) (.cons .h3 (.cons .here .nil))
   ·replace h:=ym h zgE
    refine WC.exit (WX.yQ (WX.yQ (WX.y1L ?_)))
    exact WX.mid (G:=List Sapi_Ins × List Int × Int × Int × Int × Int × Int × Int × Zp × Option Addr × Nat × Option Addr × Nat) ⟨z4u,z4v,z5C,z5D,z5E,z5F,z5G,z5H,z6F,zau,zav,zaw,zax⟩ ⟨h,ze5,zgC,zgD⟩ (.cons rfl (.cons rfl (.cons rfl .nil))) (.cons .here (.cons .here .nil))
  ·rintro z2F z4w z2R z2S z2T z2U z2V z2W z2G z4f z4g ze3 ze4 ⟨h,z2o,zbR,zgG⟩
   replace h:=(ztr z2F z4w z2R z2S z2T z2U z2V z2W).symm.trans h
   refine WC.b (WC.b (WC.a ?_))
   refine WL.a (d:=48) rfl rfl rfl (yV y13 rfl (yJ .h1) rfl) ?_
   refine WL.a (d:=49) rfl rfl rfl (yR (v:=(.agg #[(.int .u8 5),(.int .u8 5),(.int .u8 0),(.int .u8 0)])) (Eos.parts (l:=[.const (.int .u8 5),.const (.int .u8 5)]) (.cons rfl (.cons rfl .nil)) [0,1]) (fun _=>by kernel_rfl)) ?_
   refine WL.a (d:=50) rfl rfl rfl (yR (v:=(.agg #[(.int .i64 3),(.int .i64 0),(.int .u8 5),(.int .u8 5),(.int .u8 0),(.int .u8 0)])) (Eos.parts (l:=[.const (.int .i64 3),.tmp 49]) (.cons rfl (.cons rfl .nil)) [0,2]) (fun _=>by kernel_rfl)) ?_
   refine WL.a (d:=51) rfl rfl rfl (q_aggneq (enc:=e39) (a:=(⟨z2R,z2S,(⟨z2T,z2U,z2V,z2W⟩ : S34)⟩ : Sproc_State)) (b:=(⟨3,0,(⟨5,5,0,0⟩ : S34)⟩ : Sproc_State)) eqT_39 rfl rfl) ?_
   refine WL.nil (WX.a ?_)
   refine WC.cond rfl (fun zgH=>?_) (fun zgH=>?_)
   ·replace h:=yl h zgH
    refine WC.b (WC.a (WL.pu rfl (WL.nil (WX.a (WC.ret (WX.yf ?_))))))
    obtain rfl:=Option.some.inj h
    refine WX.yh Tryd.results9 (.tmp rfl .nil) (fun w hw=>?_)
    exact ⟨z2G,y1a rfl,trivial,hw.sub (.cons .here .nil)⟩
   ·replace h:=ym h zgH
    refine WC.skip (WX.a (WC.b ?_))
    obtain ⟨zz,ztx,h⟩:=zd h
    refine WC.a (WL.pu rfl ?_)
    refine WL.a (d:=54) rfl rfl rfl (yV y13 rfl (yJ .h1) rfl) ?_
    refine WL.pu rfl ?_
    refine WL.y4w (dd:=56) rfl rfl rfl (zl (l:=[.tmp 53,.tmp 54,.tmp 55]) Tryd.call18 (.cons rfl (.cons rfl (.cons rfl .nil)))) .nil (ccz hz .nil .here fun w pz ho=>y2d _ _ _ _ _ _ _ _ _ ztx w pz (hG0.mono ((Zle.left _ _).trans z2o)) ((hG1.mono ((Zle.left _ _).trans z2o)).weak (fun _ _ h=>y12 ((Zle.left _ _).trans z2o) h)) zbR zgG) ?_
    rintro z4q z8Y z8Z zty
    refine WL.merge .here .here ?_
    refine WL.pu rfl (WL.pu rfl (WL.pu rfl ?_))
    refine WL.new (dd:=7) rfl rfl rfl (yE (cs:=[(.int .i64 0),(.int .i64 0),(.int .u8 0),(.int .u8 0),(.int .u8 0),(.int .u8 0)]) y1z rfl) ?_
    intro z90 _
    refine WL.new (dd:=8) rfl rfl rfl (yE (cs:=[(.int .u8 0),(.int .i64 0),(.int .i64 0),(.slice none 0 0)]) y2g rfl) ?_
    intro z48 _
    refine WL.yg rfl rfl (yu y1p rfl rfl rfl .h1 rfl rfl rfl) ?_
    refine WL.yg rfl rfl (yu y1g rfl rfl rfl .h1 rfl rfl rfl) ?_
    refine WL.nil (WX.a (WC.b ?_))
    obtain ⟨zA,ztz,h⟩:=zd h
    refine WC.a (WL.pu rfl ?_)
    refine WL.a (d:=61) rfl rfl rfl (yV y13 rfl (yJ .h1) rfl) ?_
    refine WL.pu rfl ?_
    refine WL.y4w (dd:=63) rfl rfl rfl (zl (l:=[.tmp 60,.tmp 61,.tmp 62]) Tryd.call18 (.cons rfl (.cons rfl (.cons rfl .nil)))) .nil (ccz hz .nil .h2 fun w pz ho=>y2d _ _ _ _ _ _ _ _ _ ztz w pz (hG0.mono ((Zle.left _ _).trans (z2o.trans ((Zle.left _ _).trans (Zle.y7 _ _ _))))) ((hG1.mono ((Zle.left _ _).trans (z2o.trans ((Zle.left _ _).trans (Zle.y7 _ _ _))))).weak (fun _ _ h=>y12 ((Zle.left _ _).trans (z2o.trans ((Zle.left _ _).trans (Zle.y7 _ _ _)))) h)) (zbR.mono ((Zle.left _ _).trans (Zle.y7 _ _ _))) (zgG.mono ((Zle.left _ _).trans (Zle.y7 _ _ _)))) ?_
    rintro z4r z91 z92 ztA
    refine WL.merge .here .h2 ?_
    refine WL.pu rfl (WL.pu rfl (WL.pu rfl ?_))
    refine WL.new (dd:=9) rfl rfl rfl (yE (cs:=[(.int .i64 0),(.int .i64 0),(.int .u8 0),(.int .u8 0),(.int .u8 0),(.int .u8 0)]) y1z rfl) ?_
    intro z93 _
    refine WL.new (dd:=10) rfl rfl rfl (yE (cs:=[(.int .u8 0),(.int .i64 0),(.int .i64 0),(.slice none 0 0)]) y2g rfl) ?_
    intro z49 _
    refine WL.yg rfl rfl (yu y1p rfl rfl rfl .h1 rfl rfl rfl) ?_
    refine WL.yg rfl rfl (yu y1g rfl rfl rfl .h1 rfl rfl rfl) ?_
    refine WL.nil (WX.a (WC.b ?_))
    obtain ⟨ztB,h⟩:=ya h
    obtain ⟨zO,zeZ,h⟩:=zd h
    refine WC.yX (fun i=>[10,11].contains i) [] rfl ?_
    refine WD.a (i:=0) (d:=67) (by kernel_rfl) rfl z2 z6 rfl rfl rfl (fun _=>q_m rfl) ?_
    refine WD.e (i:=1) (d:=68) (by kernel_rfl) rfl z2 z6 rfl rfl rfl (yV y13 rfl (yJ .h5) rfl) ?_
    refine WD.a (i:=2) (d:=69) (by kernel_rfl) rfl z2 z6 rfl rfl rfl (fun _=>q_m rfl) ?_
    refine WD.zsub (j:=3) (dd:=70) (by kernel_rfl) rfl z2 z6 rfl rfl (Z:=(Z ++ ((z2G ++ z4q) ++ z4r))) (Pr:=(fun r x=>r = e5 x)) y1v rfl (zgG.mono ((Zle.left _ _).trans ((Zle.y7 _ _ _).trans ((Zle.left _ _).trans (Zle.y7 _ _ _))))) (fun _=>ixn) (fun _=>ixo rfl) rfl rfl ztB (List.drop_zero).symm ?_
    rintro zgI zgJ zf0
    refine WD.y6i (fuel':=0) (fun (Zn4o1_10545 : Zp) (ao4o2_10545 : Option Addr) (cap4o3_10545 : Nat) (b8o1_10545 : Nat) (b9o1_10545 : Nat)=>[(1,(.slice z4f z2F.length z4g)),(8,(.pointer (some ⟨z48,0,none⟩))),(10,(.pointer (some ⟨z49,0,none⟩))),(12,(.pointer (some ⟨b9o1_10545,0,none⟩)))]) (fun (Zn4o1_10545 : Zp) (ao4o2_10545 : Option Addr) (cap4o3_10545 : Nat) (b8o1_10545 : Nat) (b9o1_10545 : Nat)=>[stb b9o1_10545 41 [(.int .u8 zO.2.fKind),(.int .i64 zO.2.fA),(.int .i64 zO.2.fB),(.slice ao4o2_10545 zO.2.fData.length cap4o3_10545)],stb b8o1_10545 39 [(.int .i64 zO.1.fPc),(.int .i64 zO.1.fLeft),(.int .u8 zO.1.fRegs.a0),(.int .u8 zO.1.fRegs.a1),(.int .u8 zO.1.fRegs.a2),(.int .u8 zO.1.fRegs.a3)],fz (((z2G ++ z4q) ++ z4r) ++ Zn4o1_10545),stb z49 41 [(.int .u8 zA.2.fKind),(.int .i64 zA.2.fA),(.int .i64 zA.2.fB),(.slice z91 zA.2.fData.length z92)],stb z93 39 [(.int .i64 zA.1.fPc),(.int .i64 zA.1.fLeft),(.int .u8 zA.1.fRegs.a0),(.int .u8 zA.1.fRegs.a1),(.int .u8 zA.1.fRegs.a2),(.int .u8 zA.1.fRegs.a3)],stb z48 41 [(.int .u8 zz.2.fKind),(.int .i64 zz.2.fA),(.int .i64 zz.2.fB),(.slice z8Y zz.2.fData.length z8Z)],stb z90 39 [(.int .i64 zz.1.fPc),(.int .i64 zz.1.fLeft),(.int .u8 zz.1.fRegs.a0),(.int .u8 zz.1.fRegs.a1),(.int .u8 zz.1.fRegs.a2),(.int .u8 zz.1.fRegs.a3)],stb b2o1_10186 39 [(.int .i64 z2R),(.int .i64 z2S),(.int .u8 z2T),(.int .u8 z2U),(.int .u8 z2V),(.int .u8 z2W)]]) (fun (Zn4o1_10545 : Zp) (ao4o2_10545 : Option Addr) (cap4o3_10545 : Nat) (b8o1_10545 : Nat) (b9o1_10545 : Nat)=>(ZS ((Z ++ ((z2G ++ z4q) ++ z4r)) ++ Zn4o1_10545) 1 (fun zO x=>zO = e5 x) ao4o2_10545 cap4o3_10545 zO.2.fData)) (y22 12 [11,10,9,8,7,6,5,4,3,2,1,0]) ?_ (fun K4o5o6o7o8o9o10o11_10545=>?_)
    ·skip
     rintro Zn4o1_10545 ao4o2_10545 cap4o3_10545 b8o1_10545 b9o1_10545 hf4o4_10545
     refine WD.done (by kernel_rfl) ?_
     refine WX.a (WC.b ?_)
     obtain ⟨zeY,ztC,h⟩:=zd h
     obtain ⟨zky,ztD,h⟩:=zd h
     refine WC.a ?_
     refine WL.new (dd:=75) rfl rfl rfl (yy (cs:=([2,1,3] : List Int).flatMap e3) yU (Eos.parts (l:=[.const (.int .i64 2),.const (.int .i64 1),.const (.int .i64 3)]) (.cons rfl (.cons rfl (.cons rfl .nil))) [0,1,2]) (fun _=>by kernel_rfl) rfl (by unfold maxLen; omega)) ?_
     intro zxQ _
     refine WL.b (dd:=76) rfl rfl rfl (zl (l:=[.const (.int .u8 7),.tmp 75]) Tryd.call17 (.cons rfl (.cons rfl .nil))) .nil (y2W hz .nil .h3 (.cons .here .nil) fun w pz ho la=>y1y _ _ _ _ _ _ ztC w pz (ZA.row (la _ (.head _) _) (RR.y1b (enc:=e3) (fun _=>rfl) _) ⟨w,pz.1⟩)) ?_
     refine WL.new (dd:=77) rfl rfl rfl (yy (cs:=([zeY] : List Sapi_Ins).flatMap e33) y3P (Eos.parts (l:=[.tmp 76]) (.cons rfl .nil) [0]) (fun _=>by kernel_rfl) rfl (by unfold maxLen; omega)) ?_
     intro zxR _
     refine WL.a (d:=78) rfl rfl rfl (yR (v:=(.agg #[(.int .u8 0),(.int .u8 255),(.int .u8 0),(.int .u8 0)])) (Eos.parts (l:=[.const (.int .u8 0),.const (.int .u8 255)]) (.cons rfl (.cons rfl .nil)) [0,1]) (fun _=>by kernel_rfl)) ?_
     refine WL.a (d:=79) rfl rfl rfl (yR (v:=(.agg #[(.int .i64 0),(.int .i64 0),(.int .u8 0),(.int .u8 255),(.int .u8 0),(.int .u8 0)])) (Eos.parts (l:=[.tmp 78]) (.cons rfl .nil) [2]) (fun _=>by kernel_rfl)) ?_
     refine WL.freezeS (ls:=([zeY] : List Sapi_Ins)) .here .h3 hz (RR.y1b (enc:=e33) (fun _=>rfl) _) ?_
     intro ztE z4X ztF
     refine WL.y4w (dd:=80) rfl rfl rfl (zl (l:=[.tmp 77,.tmp 79,.const (.slice none 0 0)]) Tryd.call18 (.cons rfl (.cons rfl (.cons rfl .nil)))) .nil (ccz hz .nil .here fun w pz ho=>y2d _ _ _ _ _ _ _ _ _ ztD w pz (hG0.mono ((Zle.left _ _).trans (z2o.trans ((Zle.left _ _).trans ((Zle.y7 _ _ _).trans ((Zle.left _ _).trans ((Zle.y7 _ _ _).trans ((Zle.left _ _).trans ((Zle.y7 _ _ _).trans z4X))))))))) ((hG1.mono ((Zle.left _ _).trans (z2o.trans ((Zle.left _ _).trans ((Zle.y7 _ _ _).trans ((Zle.left _ _).trans ((Zle.y7 _ _ _).trans ((Zle.left _ _).trans ((Zle.y7 _ _ _).trans z4X))))))))).weak (fun _ _ h=>y12 ((Zle.left _ _).trans (z2o.trans ((Zle.left _ _).trans ((Zle.y7 _ _ _).trans ((Zle.left _ _).trans ((Zle.y7 _ _ _).trans ((Zle.left _ _).trans ((Zle.y7 _ _ _).trans z4X)))))))) h)) ztF (ZS.nil _ _ _)) ?_
     rintro ztG zxS zxT ztH
     refine WL.merge .here .here ?_
     refine WL.pu rfl (WL.pu rfl (WL.pu rfl ?_))
     refine WL.new (dd:=13) rfl rfl rfl (yE (cs:=[(.int .i64 0),(.int .i64 0),(.int .u8 0),(.int .u8 0),(.int .u8 0),(.int .u8 0)]) y1z rfl) ?_
     intro zxU _
     refine WL.new (dd:=14) rfl rfl rfl (yE (cs:=[(.int .u8 0),(.int .i64 0),(.int .i64 0),(.slice none 0 0)]) y2g rfl) ?_
     intro zxV _
     refine WL.yg rfl rfl (yu y1p rfl rfl rfl .h1 rfl rfl rfl) ?_
     refine WL.yg rfl rfl (yu y1g rfl rfl rfl .h1 rfl rfl rfl) ?_
     refine WL.nil (WX.a (WC.b ?_))
     obtain ⟨z5I,ztI,h⟩:=zd h
     refine WC.a (WL.pu rfl ?_)
     refine WL.b (dd:=85) rfl rfl rfl (zl (l:=[.tmp 84,.const (.int .i64 0)]) Tryd.call13 (.cons rfl (.cons rfl .nil))) .nil (ccz hz .nil .h2 fun w pz ho=>y3r _ _ _ _ _ _ ztI w pz ((hG1.mono ((Zle.left _ _).trans (z2o.trans ((Zle.left _ _).trans ((Zle.y7 _ _ _).trans ((Zle.left _ _).trans ((Zle.y7 _ _ _).trans ((Zle.left _ _).trans ((Zle.y7 _ _ _).trans (z4X.trans ((Zle.left _ _).trans (Zle.y7 _ _ _)))))))))))).weak (fun _ _ h=>y12 ((Zle.left _ _).trans (z2o.trans ((Zle.left _ _).trans ((Zle.y7 _ _ _).trans ((Zle.left _ _).trans ((Zle.y7 _ _ _).trans ((Zle.left _ _).trans ((Zle.y7 _ _ _).trans (z4X.trans ((Zle.left _ _).trans (Zle.y7 _ _ _))))))))))) h)) (zbR.mono ((Zle.left _ _).trans ((Zle.y7 _ _ _).trans ((Zle.left _ _).trans ((Zle.y7 _ _ _).trans ((Zle.left _ _).trans ((Zle.y7 _ _ _).trans (z4X.trans ((Zle.left _ _).trans (Zle.y7 _ _ _))))))))))) ?_
     refine WL.pu rfl (WL.pu rfl (WL.pu rfl (WL.pu rfl (WL.pu rfl (WL.nil (WX.a (WC.b ?_)))))))
     obtain ⟨zgv,ztJ,h⟩:=zd h
     obtain ⟨zdY,ztK,h⟩:=zd h
     refine WC.a ?_
     refine WL.new (dd:=89) rfl rfl rfl (yy (cs:=([0,0] : List Int).flatMap e3) yU (Eos.parts (l:=[.const (.int .i64 0),.const (.int .i64 0)]) (.cons rfl (.cons rfl .nil)) [0,1]) (fun _=>by kernel_rfl) rfl (by unfold maxLen; omega)) ?_
     intro zxW _
     refine WL.b (dd:=90) rfl rfl rfl (zl (l:=[.const (.int .u8 21),.tmp 89]) Tryd.call17 (.cons rfl (.cons rfl .nil))) .nil (y2W hz .nil .h3 (.cons .here .nil) fun w pz ho la=>y1y _ _ _ _ _ _ ztJ w pz (ZA.row (la _ (.head _) _) (RR.y1b (enc:=e3) (fun _=>rfl) _) ⟨w,pz.1⟩)) ?_
     refine WL.new (dd:=91) rfl rfl rfl (yy (cs:=([zgv] : List Sapi_Ins).flatMap e33) y3P (Eos.parts (l:=[.tmp 90]) (.cons rfl .nil) [0]) (fun _=>by kernel_rfl) rfl (by unfold maxLen; omega)) ?_
     intro zxX _
     refine WL.b (dd:=92) rfl rfl rfl (zl (l:=[.tmp 91,.const (.int .i64 0)]) Tryd.call13 (.cons rfl (.cons rfl .nil))) .nil (y2W hz .nil .h4 (.cons .here .nil) fun w pz ho la=>y3r _ _ _ _ _ _ ztK w pz ((((hG1.mono ((Zle.left _ _).trans (z2o.trans ((Zle.left _ _).trans ((Zle.y7 _ _ _).trans ((Zle.left _ _).trans ((Zle.y7 _ _ _).trans ((Zle.left _ _).trans ((Zle.y7 _ _ _).trans (z4X.trans ((Zle.left _ _).trans (Zle.y7 _ _ _)))))))))))).weak (fun _ _ h=>y12 ((Zle.left _ _).trans (z2o.trans ((Zle.left _ _).trans ((Zle.y7 _ _ _).trans ((Zle.left _ _).trans ((Zle.y7 _ _ _).trans ((Zle.left _ _).trans ((Zle.y7 _ _ _).trans (z4X.trans ((Zle.left _ _).trans (Zle.y7 _ _ _))))))))))) h)).mono (Zle.left _ _)).weak (fun _ _ h=>y12 (Zle.left _ _) h)) (ZA.row (la _ (.head _) _) (RR.y1b (enc:=e33) (fun _=>rfl) _) ⟨w,pz.1⟩)) ?_
     refine WL.pu rfl (WL.pu rfl (WL.pu rfl (WL.pu rfl (WL.pu rfl (WL.nil (WX.a (WC.b ?_)))))))
     obtain ⟨zgw,ztL,h⟩:=zd h
     obtain ⟨zgx,ztM,h⟩:=zd h
     obtain ⟨zgy,ztN,h⟩:=zd h
     obtain ⟨zdA,ztO,h⟩:=zd h
     refine WC.a ?_
     refine WL.new (dd:=96) rfl rfl rfl (yy (cs:=([0,1,2] : List Int).flatMap e3) yU (Eos.parts (l:=[.const (.int .i64 0),.const (.int .i64 1),.const (.int .i64 2)]) (.cons rfl (.cons rfl (.cons rfl .nil))) [0,1,2]) (fun _=>by kernel_rfl) rfl (by unfold maxLen; omega)) ?_
     intro zxY _
     refine WL.b (dd:=97) rfl rfl rfl (zl (l:=[.const (.int .u8 22),.tmp 96]) Tryd.call17 (.cons rfl (.cons rfl .nil))) .nil (y2W hz .nil .h5 (.cons .here .nil) fun w pz ho la=>y1y _ _ _ _ _ _ ztL w pz (ZA.row (la _ (.head _) _) (RR.y1b (enc:=e3) (fun _=>rfl) _) ⟨w,pz.1⟩)) ?_
     refine WL.new (dd:=98) rfl rfl rfl (yy (cs:=([9] : List Int).flatMap e3) yU (Eos.parts (l:=[.const (.int .i64 9)]) (.cons rfl .nil) [0]) (fun _=>by kernel_rfl) rfl (by unfold maxLen; omega)) ?_
     intro zxZ _
     refine WL.b (dd:=99) rfl rfl rfl (zl (l:=[.const (.int .u8 1),.tmp 98]) Tryd.call17 (.cons rfl (.cons rfl .nil))) .nil (y2W hz .nil .h6 (.cons .here .nil) fun w pz ho la=>y1y _ _ _ _ _ _ ztM w pz (ZA.row (la _ (.head _) _) (RR.y1b (enc:=e3) (fun _=>rfl) _) ⟨w,pz.1⟩)) ?_
     refine WL.b (dd:=100) rfl rfl rfl (zl (l:=[.const (.int .u8 25),.const (.slice none 0 0)]) Tryd.call17 (.cons rfl (.cons rfl .nil))) .nil (ccz hz .nil .h6 fun w pz ho=>y1y _ _ _ _ _ _ ztN w pz (ZS.nil _ _ _)) ?_
     refine WL.new (dd:=101) rfl rfl rfl (yy (cs:=([zgw,zgx,zgy] : List Sapi_Ins).flatMap e33) y3P (Eos.parts (l:=[.tmp 97,.tmp 99,.tmp 100]) (.cons rfl (.cons rfl (.cons rfl .nil))) [0,1,2]) (fun _=>by kernel_rfl) rfl (by unfold maxLen; omega)) ?_
     intro zy0 _
     refine WL.b (dd:=102) rfl rfl rfl (zl (l:=[.tmp 101,.const (.int .i64 0)]) Tryd.call13 (.cons rfl (.cons rfl .nil))) .nil (y2W hz .nil .h7 (.cons .here .nil) fun w pz ho la=>y3r _ _ _ _ _ _ ztO w pz ((((hG1.mono ((Zle.left _ _).trans (z2o.trans ((Zle.left _ _).trans ((Zle.y7 _ _ _).trans ((Zle.left _ _).trans ((Zle.y7 _ _ _).trans ((Zle.left _ _).trans ((Zle.y7 _ _ _).trans (z4X.trans ((Zle.left _ _).trans (Zle.y7 _ _ _)))))))))))).weak (fun _ _ h=>y12 ((Zle.left _ _).trans (z2o.trans ((Zle.left _ _).trans ((Zle.y7 _ _ _).trans ((Zle.left _ _).trans ((Zle.y7 _ _ _).trans ((Zle.left _ _).trans ((Zle.y7 _ _ _).trans (z4X.trans ((Zle.left _ _).trans (Zle.y7 _ _ _))))))))))) h)).mono (Zle.left _ _)).weak (fun _ _ h=>y12 (Zle.left _ _) h)) (ZA.row (la _ (.head _) _) (RR.y1b (enc:=e33) (fun _=>rfl) _) ⟨w,pz.1⟩)) ?_
     refine WL.pu rfl (WL.pu rfl (WL.pu rfl (WL.pu rfl (WL.pu rfl (WL.nil (WX.a (WC.b ?_)))))))
     obtain ⟨zkz,ztP,h⟩:=zd h
     obtain ⟨zgz,zkF,h⟩:=zd h
     obtain ⟨zgA,zkG,h⟩:=zd h
     obtain ⟨zat,zkH,h⟩:=zd h
     refine WC.a ?_
     refine WL.a (d:=105) rfl rfl rfl (yV y35 rfl (yJ (.there (.there (.there (.there (.there (.there .h7))))))) rfl) ?_
     refine WL.a (d:=106) rfl rfl rfl (yR (v:=(.agg #[(.int .u8 1),(.int .i64 21),(.int .i64 5),(.slice none 0 0)])) (Eos.parts (l:=[.const (.int .u8 1),.const (.int .i64 21),.const (.int .i64 5)]) (.cons rfl (.cons rfl (.cons rfl .nil))) [0,1,2]) (fun _=>by kernel_rfl)) ?_
     refine WL.b (dd:=107) rfl rfl rfl (zl (l:=[.tmp 105,.tmp 106]) Tryd.call19 (.cons rfl (.cons rfl .nil))) .nil (ccz hz .nil .h7 fun w pz ho=>y3a _ _ _ _ _ _ _ _ ztP w pz (zty.mono ((Zle.y7 _ _ _).trans ((Zle.left _ _).trans ((Zle.y7 _ _ _).trans ((Zle.left _ _).trans ((Zle.y7 _ _ _).trans (z4X.trans ((Zle.left _ _).trans (Zle.y7 _ _ _))))))))) (ZS.nil _ _ _)) ?_
     refine WL.pu rfl ?_
     refine WL.seg true 3 108 (B:=zgz) rfl rfl rfl rfl rfl rfl (fun h=>(Option.some.inj (ym zkF h)).symm) (fun _ ztQ=>?_) ?_
     ·skip
      have ze6:=yl zkF ztQ
      obtain ⟨zkA,ztR,ze6⟩:=zd ze6
      replace ze6:=Option.some.inj ze6
      refine WL.a (d:=109) rfl rfl rfl (yV y35 rfl (yJ (.there (.there (.there (.there .h7))))) rfl) ?_
      refine WL.a (d:=110) rfl rfl rfl (yR (v:=(.agg #[(.int .u8 14),(.int .i64 0),(.int .i64 0),(.slice none 0 0)])) (Eos.parts (l:=[.const (.int .u8 14)]) (.cons rfl .nil) [0]) (fun _=>by kernel_rfl)) ?_
      refine WL.b (dd:=111) rfl rfl rfl (zl (l:=[.tmp 109,.tmp 110]) Tryd.call19 (.cons rfl (.cons rfl .nil))) .nil (ccz hz .nil .h7 fun w pz ho=>y3a _ _ _ _ _ _ _ _ ztR w pz (ztA.mono ((Zle.y7 _ _ _).trans ((Zle.left _ _).trans ((Zle.y7 _ _ _).trans (z4X.trans ((Zle.left _ _).trans (Zle.y7 _ _ _))))))) (ZS.nil _ _ _)) ?_
      refine WL.pu rfl ?_
      exact WL.yN ze6 rfl rfl .all
     refine WL.pu rfl ?_
     refine WL.seg true 3 113 (B:=zgA) rfl rfl rfl rfl rfl rfl (fun h=>(Option.some.inj (ym zkG h)).symm) (fun _ ztS=>?_) ?_
     ·skip
      have ze7:=yl zkG ztS
      obtain ⟨zkB,ztT,ze7⟩:=zd ze7
      replace ze7:=Option.some.inj ze7
      refine WL.a (d:=114) rfl rfl rfl (yV y35 rfl (yJ (.there (.there .h7))) rfl) ?_
      refine WL.a (d:=115) rfl rfl rfl (yR (v:=(.agg #[(.int .u8 15),(.int .i64 2),(.int .i64 0),(.slice none 0 0)])) (Eos.parts (l:=[.const (.int .u8 15),.const (.int .i64 2)]) (.cons rfl (.cons rfl .nil)) [0,1]) (fun _=>by kernel_rfl)) ?_
      refine WL.b (dd:=116) rfl rfl rfl (zl (l:=[.tmp 114,.tmp 115]) Tryd.call19 (.cons rfl (.cons rfl .nil))) .nil (ccz hz .nil .h7 fun w pz ho=>y3a _ _ _ _ _ _ _ _ ztT w pz (hf4o4_10545.mono ((Zle.y7 _ _ _).trans (z4X.trans ((Zle.left _ _).trans (Zle.y7 _ _ _))))) (ZS.nil _ _ _)) ?_
      refine WL.pu rfl ?_
      exact WL.yN ze7 rfl rfl .all
     refine WL.pu rfl ?_
     refine WL.seg true 4 118 (B:=zat) rfl rfl rfl rfl rfl rfl (fun h=>(Option.some.inj (ym zkH h)).symm) (fun _ ztU=>?_) ?_
     ·skip
      have ze8:=yl zkH ztU
      obtain ⟨zkC,ztV,ze8⟩:=zd ze8
      replace ze8:=Option.some.inj ze8
      refine WL.a (d:=119) rfl rfl rfl (yV y35 rfl (yJ .h5) rfl) ?_
      refine WL.new (dd:=120) rfl rfl rfl (yy (cs:=([255,0,1] : List Int).flatMap e5) y1v (Eos.parts (l:=[.const (.int .u8 255),.const (.int .u8 0),.const (.int .u8 1)]) (.cons rfl (.cons rfl (.cons rfl .nil))) [0,1,2]) (fun _=>by kernel_rfl) rfl (by unfold maxLen; omega)) ?_
      intro ztW _
      refine WL.a (d:=121) rfl rfl rfl (yR (v:=(.agg #[(.int .u8 2),(.int .i64 2),(.int .i64 0),(.slice (some ⟨ztW,0,none⟩) (([255,0,1] : List Int).length) 3)])) (Eos.parts (l:=[.const (.int .u8 2),.const (.int .i64 2),.tmp 120]) (.cons rfl (.cons rfl (.cons rfl .nil))) [0,1,3]) (fun _=>by kernel_rfl)) ?_
      refine WL.b (dd:=122) rfl rfl rfl (zl (l:=[.tmp 119,.tmp 121]) Tryd.call19 (.cons rfl (.cons rfl .nil))) .nil (y2W hz .nil (.there .h7) (.cons .here .nil) fun w pz ho la=>y3a _ _ _ _ _ _ _ _ ztV w pz ((ztH.mono (Zle.y7 _ _ _)).mono (Zle.left _ _)) (ZA.row (la _ (.head _) _) (RR.y1b (enc:=e5) (fun _=>rfl) _) ⟨w,pz.1⟩)) ?_
      refine WL.pu rfl ?_
      exact WL.yN ze8 rfl rfl (.cons .h1 (.cons .h1 (.cons .h1 (.cons .h1 (.cons .h1 (.cons .h1 (.cons .h1 (.cons .h1 (.cons .h1 (.cons .h1 (.cons .h1 (.cons .h1 (.cons .h1 (.cons .h1 (.cons .h1 (.cons .h1 .nil))))))))))))))))
     refine WL.pu rfl ?_
     refine WL.seg true 2 124 (B:=zat && (decide (z5I.1 = 7))) rfl rfl rfl rfl rfl rfl (fun h=>(y3A h).symm) (fun _ ztX=>?_) ?_
     ·skip
      refine WL.pu rfl (WL.pu rfl (WL.pu rfl ?_))
      exact WL.yN (y3B ztX) rfl rfl .all
     refine WL.pu rfl ?_
     refine WL.seg true 1 128 (B:=(zat && (decide (z5I.1 = 7))) && z5I.2) rfl rfl rfl rfl rfl rfl (fun h=>(y3A h).symm) (fun _ ztY=>?_) ?_
     ·skip
      refine WL.pu rfl (WL.pu rfl ?_)
      exact WL.yN (y3B ztY) rfl rfl .all
     refine WL.pu rfl ?_
     refine WL.seg true 2 131 (B:=((zat && (decide (z5I.1 = 7))) && z5I.2) && (!zdY.2)) rfl rfl rfl rfl rfl rfl (fun h=>(y3A h).symm) (fun _ ztZ=>?_) ?_
     ·skip
      refine WL.pu rfl (WL.pu rfl (WL.pu rfl ?_))
      exact WL.yN (y3B ztZ) rfl rfl .all
     refine WL.pu rfl ?_
     refine WL.seg true 2 135 (B:=(((zat && (decide (z5I.1 = 7))) && z5I.2) && (!zdY.2)) && (decide (zdA.1 = 11))) rfl rfl rfl rfl rfl rfl (fun h=>(y3A h).symm) (fun _ zu0=>?_) ?_
     ·skip
      refine WL.pu rfl (WL.pu rfl (WL.pu rfl ?_))
      exact WL.yN (y3B zu0) rfl rfl .all
     refine WL.pu rfl ?_
     refine WL.seg true 1 139 (B:=((((zat && (decide (z5I.1 = 7))) && z5I.2) && (!zdY.2)) && (decide (zdA.1 = 11))) && zdA.2) rfl rfl rfl rfl rfl rfl (fun h=>(y3A h).symm) (fun _ zu1=>?_) ?_
     ·skip
      refine WL.pu rfl (WL.pu rfl ?_)
      exact WL.yN (y3B zu1) rfl rfl .all
     refine WL.pu rfl (WL.nil (WX.a (WC.ret ?_)))
     obtain rfl:=Option.some.inj h
     refine WX.yh Tryd.results9 (.tmp rfl .nil) (fun w hw=>?_)
     exact ⟨(ztE ++ ztG),y1a rfl,trivial,hw.sub (.cons .h7 .nil)⟩
    refine WD.y6i (fuel':=1) (fun (Zn4o1_10545 : Zp) (ao4o2_10545 : Option Addr) (cap4o3_10545 : Nat) (b8o1_10545 : Nat) (b9o1_10545 : Nat)=>[(1,(.slice z4f z2F.length z4g)),(8,(.pointer (some ⟨z48,0,none⟩))),(10,(.pointer (some ⟨z49,0,none⟩))),(73,(.agg #[(.int .u8 zO.2.fKind),(.int .i64 zO.2.fA),(.int .i64 zO.2.fB),(.slice ao4o2_10545 zO.2.fData.length cap4o3_10545)])),(12,(.pointer (some ⟨b9o1_10545,0,none⟩)))]) (fun (Zn4o1_10545 : Zp) (ao4o2_10545 : Option Addr) (cap4o3_10545 : Nat) (b8o1_10545 : Nat) (b9o1_10545 : Nat)=>[stb b8o1_10545 39 [(.int .i64 zO.1.fPc),(.int .i64 zO.1.fLeft),(.int .u8 zO.1.fRegs.a0),(.int .u8 zO.1.fRegs.a1),(.int .u8 zO.1.fRegs.a2),(.int .u8 zO.1.fRegs.a3)],stb b9o1_10545 41 [(.int .u8 0),(.int .i64 0),(.int .i64 0),(.slice none 0 0)],fz (((z2G ++ z4q) ++ z4r) ++ Zn4o1_10545),stb z49 41 [(.int .u8 zA.2.fKind),(.int .i64 zA.2.fA),(.int .i64 zA.2.fB),(.slice z91 zA.2.fData.length z92)],stb z93 39 [(.int .i64 zA.1.fPc),(.int .i64 zA.1.fLeft),(.int .u8 zA.1.fRegs.a0),(.int .u8 zA.1.fRegs.a1),(.int .u8 zA.1.fRegs.a2),(.int .u8 zA.1.fRegs.a3)],stb z48 41 [(.int .u8 zz.2.fKind),(.int .i64 zz.2.fA),(.int .i64 zz.2.fB),(.slice z8Y zz.2.fData.length z8Z)],stb z90 39 [(.int .i64 zz.1.fPc),(.int .i64 zz.1.fLeft),(.int .u8 zz.1.fRegs.a0),(.int .u8 zz.1.fRegs.a1),(.int .u8 zz.1.fRegs.a2),(.int .u8 zz.1.fRegs.a3)],stb b2o1_10186 39 [(.int .i64 z2R),(.int .i64 z2S),(.int .u8 z2T),(.int .u8 z2U),(.int .u8 z2V),(.int .u8 z2W)]]) (fun (Zn4o1_10545 : Zp) (ao4o2_10545 : Option Addr) (cap4o3_10545 : Nat) (b8o1_10545 : Nat) (b9o1_10545 : Nat)=>(ZS ((Z ++ ((z2G ++ z4q) ++ z4r)) ++ Zn4o1_10545) 1 (fun zO x=>zO = e5 x) ao4o2_10545 cap4o3_10545 zO.2.fData)) (y22 12 [10,9,8,7,6,5,4,3,2,1,0]) ?_ (fun K4o5o6o7o8o9o10_10545=>?_)
    ·skip
     rintro Zn4o1_10545 ao4o2_10545 cap4o3_10545 b8o1_10545 b9o1_10545 hf4o4_10545
     refine WD.y1t (i:=11) rfl (by kernel_rfl) rfl rfl rfl (by kernel_rfl) (yu y1g rfl rfl rfl .h1 rfl rfl rfl) ?_
     exact WD.reL (.cons .here (.cons .here (.cons .here (.cons .here (.cons .here (.cons .here (.cons .here (.cons .here .nil)))))))) (.cons rfl (.cons rfl (.cons rfl (.cons rfl .nil)))) (K4o5o6o7o8o9o10o11_10545 Zn4o1_10545 ao4o2_10545 cap4o3_10545 b8o1_10545 b9o1_10545 hf4o4_10545)
    refine WD.y6i (fuel':=2) (fun (Zn4o1_10545 : Zp) (ao4o2_10545 : Option Addr) (cap4o3_10545 : Nat) (b8o1_10545 : Nat) (b9o1_10545 : Nat)=>[(1,(.slice z4f z2F.length z4g)),(8,(.pointer (some ⟨z48,0,none⟩))),(10,(.pointer (some ⟨z49,0,none⟩))),(72,(.agg #[(.int .i64 zO.1.fPc),(.int .i64 zO.1.fLeft),(.int .u8 zO.1.fRegs.a0),(.int .u8 zO.1.fRegs.a1),(.int .u8 zO.1.fRegs.a2),(.int .u8 zO.1.fRegs.a3)])),(73,(.agg #[(.int .u8 zO.2.fKind),(.int .i64 zO.2.fA),(.int .i64 zO.2.fB),(.slice ao4o2_10545 zO.2.fData.length cap4o3_10545)])),(11,(.pointer (some ⟨b8o1_10545,0,none⟩))),(12,(.pointer (some ⟨b9o1_10545,0,none⟩)))]) (fun (Zn4o1_10545 : Zp) (ao4o2_10545 : Option Addr) (cap4o3_10545 : Nat) (b8o1_10545 : Nat) (b9o1_10545 : Nat)=>[stb b9o1_10545 41 [(.int .u8 0),(.int .i64 0),(.int .i64 0),(.slice none 0 0)],stb b8o1_10545 39 [(.int .i64 0),(.int .i64 0),(.int .u8 0),(.int .u8 0),(.int .u8 0),(.int .u8 0)],fz (((z2G ++ z4q) ++ z4r) ++ Zn4o1_10545),stb z49 41 [(.int .u8 zA.2.fKind),(.int .i64 zA.2.fA),(.int .i64 zA.2.fB),(.slice z91 zA.2.fData.length z92)],stb z93 39 [(.int .i64 zA.1.fPc),(.int .i64 zA.1.fLeft),(.int .u8 zA.1.fRegs.a0),(.int .u8 zA.1.fRegs.a1),(.int .u8 zA.1.fRegs.a2),(.int .u8 zA.1.fRegs.a3)],stb z48 41 [(.int .u8 zz.2.fKind),(.int .i64 zz.2.fA),(.int .i64 zz.2.fB),(.slice z8Y zz.2.fData.length z8Z)],stb z90 39 [(.int .i64 zz.1.fPc),(.int .i64 zz.1.fLeft),(.int .u8 zz.1.fRegs.a0),(.int .u8 zz.1.fRegs.a1),(.int .u8 zz.1.fRegs.a2),(.int .u8 zz.1.fRegs.a3)],stb b2o1_10186 39 [(.int .i64 z2R),(.int .i64 z2S),(.int .u8 z2T),(.int .u8 z2U),(.int .u8 z2V),(.int .u8 z2W)]]) (fun (Zn4o1_10545 : Zp) (ao4o2_10545 : Option Addr) (cap4o3_10545 : Nat) (b8o1_10545 : Nat) (b9o1_10545 : Nat)=>(ZS ((Z ++ ((z2G ++ z4q) ++ z4r)) ++ Zn4o1_10545) 1 (fun zO x=>zO = e5 x) ao4o2_10545 cap4o3_10545 zO.2.fData)) (y22 12 [9,8,7,6,5,4,3,2,1,0]) ?_ (fun K4o5o6o7o8o9_10545=>?_)
    ·skip
     rintro Zn4o1_10545 ao4o2_10545 cap4o3_10545 b8o1_10545 b9o1_10545 hf4o4_10545
     refine WD.forced0 (i:=10) rfl (by kernel_rfl) rfl rfl rfl (Sin.of .nil) (yu y1p rfl rfl rfl .h1 rfl rfl rfl) ?_
     exact WD.reL (.cons .here (.cons .here (.cons .here (.cons .here (.cons .here (.cons .here (.cons .here (.cons .here .nil)))))))) (.cons rfl (.cons rfl (.cons rfl (.cons rfl (.cons rfl .nil))))) (K4o5o6o7o8o9o10_10545 Zn4o1_10545 ao4o2_10545 cap4o3_10545 b8o1_10545 b9o1_10545 hf4o4_10545)
    refine WD.y7a (fuel':=3) (fun (Zn4o1_10545 : Zp) (ao4o2_10545 : Option Addr) (cap4o3_10545 : Nat) (b8o1_10545 : Nat)=>[(1,(.slice z4f z2F.length z4g)),(8,(.pointer (some ⟨z48,0,none⟩))),(10,(.pointer (some ⟨z49,0,none⟩))),(72,(.agg #[(.int .i64 zO.1.fPc),(.int .i64 zO.1.fLeft),(.int .u8 zO.1.fRegs.a0),(.int .u8 zO.1.fRegs.a1),(.int .u8 zO.1.fRegs.a2),(.int .u8 zO.1.fRegs.a3)])),(73,(.agg #[(.int .u8 zO.2.fKind),(.int .i64 zO.2.fA),(.int .i64 zO.2.fB),(.slice ao4o2_10545 zO.2.fData.length cap4o3_10545)])),(11,(.pointer (some ⟨b8o1_10545,0,none⟩)))]) (fun (Zn4o1_10545 : Zp) (ao4o2_10545 : Option Addr) (cap4o3_10545 : Nat) (b8o1_10545 : Nat)=>[stb b8o1_10545 39 [(.int .i64 0),(.int .i64 0),(.int .u8 0),(.int .u8 0),(.int .u8 0),(.int .u8 0)],fz (((z2G ++ z4q) ++ z4r) ++ Zn4o1_10545),stb z49 41 [(.int .u8 zA.2.fKind),(.int .i64 zA.2.fA),(.int .i64 zA.2.fB),(.slice z91 zA.2.fData.length z92)],stb z93 39 [(.int .i64 zA.1.fPc),(.int .i64 zA.1.fLeft),(.int .u8 zA.1.fRegs.a0),(.int .u8 zA.1.fRegs.a1),(.int .u8 zA.1.fRegs.a2),(.int .u8 zA.1.fRegs.a3)],stb z48 41 [(.int .u8 zz.2.fKind),(.int .i64 zz.2.fA),(.int .i64 zz.2.fB),(.slice z8Y zz.2.fData.length z8Z)],stb z90 39 [(.int .i64 zz.1.fPc),(.int .i64 zz.1.fLeft),(.int .u8 zz.1.fRegs.a0),(.int .u8 zz.1.fRegs.a1),(.int .u8 zz.1.fRegs.a2),(.int .u8 zz.1.fRegs.a3)],stb b2o1_10186 39 [(.int .i64 z2R),(.int .i64 z2S),(.int .u8 z2T),(.int .u8 z2U),(.int .u8 z2V),(.int .u8 z2W)]]) (fun (Zn4o1_10545 : Zp) (ao4o2_10545 : Option Addr) (cap4o3_10545 : Nat) (b8o1_10545 : Nat)=>(ZS ((Z ++ ((z2G ++ z4q) ++ z4r)) ++ Zn4o1_10545) 1 (fun zO x=>zO = e5 x) ao4o2_10545 cap4o3_10545 zO.2.fData)) (y22 12 [8,7,6,5,4,3,2,1,0]) ?_ (fun K4o5o6o7o8_10545=>?_)
    ·skip
     rintro Zn4o1_10545 ao4o2_10545 cap4o3_10545 b8o1_10545 hf4o4_10545
     refine WD.new (i:=9) (dd:=12) rfl (by kernel_rfl) rfl rfl rfl (yE (cs:=[(.int .u8 0),(.int .i64 0),(.int .i64 0),(.slice none 0 0)]) y2g rfl) (fun h'=>absurd h' (by decide)) ?_
     intro b9o1_10545 _
     exact WD.reL (.cons .here (.cons .here (.cons .here (.cons .here (.cons .here (.cons .here (.cons .here (.cons .here .nil)))))))) (.cons rfl (.cons rfl (.cons rfl (.cons rfl (.cons rfl (.cons rfl (.cons rfl .nil))))))) (K4o5o6o7o8o9_10545 Zn4o1_10545 ao4o2_10545 cap4o3_10545 b8o1_10545 b9o1_10545 hf4o4_10545)
    refine WD.y7a (fuel':=3) (fun (Zn4o1_10545 : Zp) (ao4o2_10545 : Option Addr) (cap4o3_10545 : Nat) (b9o1_10545 : Nat)=>[(1,(.slice z4f z2F.length z4g)),(8,(.pointer (some ⟨z48,0,none⟩))),(10,(.pointer (some ⟨z49,0,none⟩))),(72,(.agg #[(.int .i64 zO.1.fPc),(.int .i64 zO.1.fLeft),(.int .u8 zO.1.fRegs.a0),(.int .u8 zO.1.fRegs.a1),(.int .u8 zO.1.fRegs.a2),(.int .u8 zO.1.fRegs.a3)])),(73,(.agg #[(.int .u8 zO.2.fKind),(.int .i64 zO.2.fA),(.int .i64 zO.2.fB),(.slice ao4o2_10545 zO.2.fData.length cap4o3_10545)])),(12,(.pointer (some ⟨b9o1_10545,0,none⟩)))]) (fun (Zn4o1_10545 : Zp) (ao4o2_10545 : Option Addr) (cap4o3_10545 : Nat) (b9o1_10545 : Nat)=>[stb b9o1_10545 41 [(.int .u8 0),(.int .i64 0),(.int .i64 0),(.slice none 0 0)],fz (((z2G ++ z4q) ++ z4r) ++ Zn4o1_10545),stb z49 41 [(.int .u8 zA.2.fKind),(.int .i64 zA.2.fA),(.int .i64 zA.2.fB),(.slice z91 zA.2.fData.length z92)],stb z93 39 [(.int .i64 zA.1.fPc),(.int .i64 zA.1.fLeft),(.int .u8 zA.1.fRegs.a0),(.int .u8 zA.1.fRegs.a1),(.int .u8 zA.1.fRegs.a2),(.int .u8 zA.1.fRegs.a3)],stb z48 41 [(.int .u8 zz.2.fKind),(.int .i64 zz.2.fA),(.int .i64 zz.2.fB),(.slice z8Y zz.2.fData.length z8Z)],stb z90 39 [(.int .i64 zz.1.fPc),(.int .i64 zz.1.fLeft),(.int .u8 zz.1.fRegs.a0),(.int .u8 zz.1.fRegs.a1),(.int .u8 zz.1.fRegs.a2),(.int .u8 zz.1.fRegs.a3)],stb b2o1_10186 39 [(.int .i64 z2R),(.int .i64 z2S),(.int .u8 z2T),(.int .u8 z2U),(.int .u8 z2V),(.int .u8 z2W)]]) (fun (Zn4o1_10545 : Zp) (ao4o2_10545 : Option Addr) (cap4o3_10545 : Nat) (b9o1_10545 : Nat)=>(ZS ((Z ++ ((z2G ++ z4q) ++ z4r)) ++ Zn4o1_10545) 1 (fun zO x=>zO = e5 x) ao4o2_10545 cap4o3_10545 zO.2.fData)) (y22 12 [9,7,6,5,4,3,2,1,0]) ?_ (fun K4o5o6o7o9_10545=>?_)
    ·skip
     rintro Zn4o1_10545 ao4o2_10545 cap4o3_10545 b9o1_10545 hf4o4_10545
     refine WD.new (i:=8) (dd:=11) rfl (by kernel_rfl) rfl rfl rfl (yE (cs:=[(.int .i64 0),(.int .i64 0),(.int .u8 0),(.int .u8 0),(.int .u8 0),(.int .u8 0)]) y1z rfl) (fun h'=>absurd h' (by decide)) ?_
     intro b8o1_10545 _
     exact WD.reL (.cons .h1 (.cons .here (.cons .here (.cons .here (.cons .here (.cons .here (.cons .here (.cons .here .nil)))))))) (.cons rfl (.cons rfl (.cons rfl (.cons rfl (.cons rfl (.cons rfl (.cons rfl .nil))))))) (K4o5o6o7o8o9_10545 Zn4o1_10545 ao4o2_10545 cap4o3_10545 b8o1_10545 b9o1_10545 hf4o4_10545)
    refine WD.mids3 (fuel':=4) (fun (Zn4o1_10545 : Zp) (ao4o2_10545 : Option Addr) (cap4o3_10545 : Nat)=>[(1,(.slice z4f z2F.length z4g)),(8,(.pointer (some ⟨z48,0,none⟩))),(10,(.pointer (some ⟨z49,0,none⟩))),(72,(.agg #[(.int .i64 zO.1.fPc),(.int .i64 zO.1.fLeft),(.int .u8 zO.1.fRegs.a0),(.int .u8 zO.1.fRegs.a1),(.int .u8 zO.1.fRegs.a2),(.int .u8 zO.1.fRegs.a3)])),(73,(.agg #[(.int .u8 zO.2.fKind),(.int .i64 zO.2.fA),(.int .i64 zO.2.fB),(.slice ao4o2_10545 zO.2.fData.length cap4o3_10545)]))]) (fun (Zn4o1_10545 : Zp) (ao4o2_10545 : Option Addr) (cap4o3_10545 : Nat)=>[fz (((z2G ++ z4q) ++ z4r) ++ Zn4o1_10545),stb z49 41 [(.int .u8 zA.2.fKind),(.int .i64 zA.2.fA),(.int .i64 zA.2.fB),(.slice z91 zA.2.fData.length z92)],stb z93 39 [(.int .i64 zA.1.fPc),(.int .i64 zA.1.fLeft),(.int .u8 zA.1.fRegs.a0),(.int .u8 zA.1.fRegs.a1),(.int .u8 zA.1.fRegs.a2),(.int .u8 zA.1.fRegs.a3)],stb z48 41 [(.int .u8 zz.2.fKind),(.int .i64 zz.2.fA),(.int .i64 zz.2.fB),(.slice z8Y zz.2.fData.length z8Z)],stb z90 39 [(.int .i64 zz.1.fPc),(.int .i64 zz.1.fLeft),(.int .u8 zz.1.fRegs.a0),(.int .u8 zz.1.fRegs.a1),(.int .u8 zz.1.fRegs.a2),(.int .u8 zz.1.fRegs.a3)],stb b2o1_10186 39 [(.int .i64 z2R),(.int .i64 z2S),(.int .u8 z2T),(.int .u8 z2U),(.int .u8 z2V),(.int .u8 z2W)]]) (fun (Zn4o1_10545 : Zp) (ao4o2_10545 : Option Addr) (cap4o3_10545 : Nat)=>(ZS ((Z ++ ((z2G ++ z4q) ++ z4r)) ++ Zn4o1_10545) 1 (fun zO x=>zO = e5 x) ao4o2_10545 cap4o3_10545 zO.2.fData)) (y22 12 [7,6,5,4,3,2,1,0]) ?_ (fun K4o5o6o7_10545=>?_)
    ·skip
     rintro Zn4o1_10545 ao4o2_10545 cap4o3_10545 hf4o4_10545
     refine WD.choose [8,9] (by kernel_rfl) rfl ?_
     refine WDo.cons ?_ (WDo.cons ?_ (WDo.nil))
     ·refine WDo.new (i:=8) (dd:=11) rfl rfl rfl rfl (yE (cs:=[(.int .i64 0),(.int .i64 0),(.int .u8 0),(.int .u8 0),(.int .u8 0),(.int .u8 0)]) y1z rfl) (fun h'=>absurd h' (by decide)) ?_
      intro b8o1_10545 _
      exact WD.reL (.cons .here (.cons .here (.cons .here (.cons .here (.cons .here (.cons .here (.cons .here .nil))))))) (.cons rfl (.cons rfl (.cons rfl (.cons rfl (.cons rfl (.cons rfl .nil)))))) (K4o5o6o7o8_10545 Zn4o1_10545 ao4o2_10545 cap4o3_10545 b8o1_10545 hf4o4_10545)
     ·refine WDo.new (i:=9) (dd:=12) rfl rfl rfl rfl (yE (cs:=[(.int .u8 0),(.int .i64 0),(.int .i64 0),(.slice none 0 0)]) y2g rfl) (fun h'=>absurd h' (by decide)) ?_
      intro b9o1_10545 _
      exact WD.reL (.cons .here (.cons .here (.cons .here (.cons .here (.cons .here (.cons .here (.cons .here .nil))))))) (.cons rfl (.cons rfl (.cons rfl (.cons rfl (.cons rfl (.cons rfl .nil)))))) (K4o5o6o7o9_10545 Zn4o1_10545 ao4o2_10545 cap4o3_10545 b9o1_10545 hf4o4_10545)
    refine WD.y6h (fuel':=6) (fun (b8o1_10545 : Nat) (b9o1_10545 : Nat)=>[(1,(.slice z4f z2F.length z4g)),(8,(.pointer (some ⟨z48,0,none⟩))),(10,(.pointer (some ⟨z49,0,none⟩))),(67,(.slice z4f z2F.length z4g)),(68,(.agg #[(.int .i64 z2R),(.int .i64 z2S),(.int .u8 z2T),(.int .u8 z2U),(.int .u8 z2V),(.int .u8 z2W)])),(70,(.slice zgI ((z4w.take (20 : Int).toNat).length) zgJ)),(11,(.pointer (some ⟨b8o1_10545,0,none⟩))),(12,(.pointer (some ⟨b9o1_10545,0,none⟩)))]) (fun (b8o1_10545 : Nat) (b9o1_10545 : Nat)=>[stb b9o1_10545 41 [(.int .u8 0),(.int .i64 0),(.int .i64 0),(.slice none 0 0)],stb b8o1_10545 39 [(.int .i64 0),(.int .i64 0),(.int .u8 0),(.int .u8 0),(.int .u8 0),(.int .u8 0)],stb z49 41 [(.int .u8 zA.2.fKind),(.int .i64 zA.2.fA),(.int .i64 zA.2.fB),(.slice z91 zA.2.fData.length z92)],stb z93 39 [(.int .i64 zA.1.fPc),(.int .i64 zA.1.fLeft),(.int .u8 zA.1.fRegs.a0),(.int .u8 zA.1.fRegs.a1),(.int .u8 zA.1.fRegs.a2),(.int .u8 zA.1.fRegs.a3)],fz ((z2G ++ z4q) ++ z4r),stb z48 41 [(.int .u8 zz.2.fKind),(.int .i64 zz.2.fA),(.int .i64 zz.2.fB),(.slice z8Y zz.2.fData.length z8Z)],stb z90 39 [(.int .i64 zz.1.fPc),(.int .i64 zz.1.fLeft),(.int .u8 zz.1.fRegs.a0),(.int .u8 zz.1.fRegs.a1),(.int .u8 zz.1.fRegs.a2),(.int .u8 zz.1.fRegs.a3)],stb b2o1_10186 39 [(.int .i64 z2R),(.int .i64 z2S),(.int .u8 z2T),(.int .u8 z2U),(.int .u8 z2V),(.int .u8 z2W)]]) (fun (b8o1_10545 : Nat) (b9o1_10545 : Nat)=>True) (y22 12 [9,8,3,2,1,0]) ?_ (fun K8o9_10545=>?_)
    ·skip
     rintro b8o1_10545 b9o1_10545 _
     refine WD.call3 (i:=4) (dd:=71) rfl (by kernel_rfl) rfl rfl rfl (.inr rfl) (zl (l:=[.tmp 67,.tmp 68,.tmp 70]) Tryd.call18 (.cons rfl (.cons rfl (.cons rfl .nil)))) .nil (ccz hz .nil .h4 fun w pz ho=>y2d _ _ _ _ _ _ _ _ _ zeZ w pz (hG0.mono ((Zle.left _ _).trans (z2o.trans ((Zle.left _ _).trans ((Zle.y7 _ _ _).trans ((Zle.left _ _).trans (Zle.y7 _ _ _))))))) ((hG1.mono ((Zle.left _ _).trans (z2o.trans ((Zle.left _ _).trans ((Zle.y7 _ _ _).trans ((Zle.left _ _).trans (Zle.y7 _ _ _))))))).weak (fun _ _ h=>y12 ((Zle.left _ _).trans (z2o.trans ((Zle.left _ _).trans ((Zle.y7 _ _ _).trans ((Zle.left _ _).trans (Zle.y7 _ _ _)))))) h)) (zbR.mono ((Zle.left _ _).trans ((Zle.y7 _ _ _).trans ((Zle.left _ _).trans (Zle.y7 _ _ _))))) zf0) ?_
     rintro Zn4o1_10545 ao4o2_10545 cap4o3_10545 hf4o4_10545
     refine WD.merge .here .h4 ?_
     refine WD.a (i:=5) (d:=66) (by kernel_rfl) rfl z2 z6 rfl rfl rfl (fun _=>q_m rfl) ?_
     refine WD.a (i:=6) (d:=72) (by kernel_rfl) rfl z2 z6 rfl rfl rfl (fun _=>y2q rfl rfl) ?_
     refine WD.a (i:=7) (d:=73) (by kernel_rfl) rfl z2 z6 rfl rfl rfl (fun _=>y2q rfl rfl) ?_
     exact WD.reL (.cons .h1 (.cons .h1 (.cons .here (.cons .here (.cons .here (.cons .here (.cons .here (.cons .here .nil)))))))) (.cons rfl (.cons rfl (.cons rfl (.cons rfl (.cons rfl (.cons rfl (.cons rfl .nil))))))) (K4o5o6o7o8o9_10545 Zn4o1_10545 ao4o2_10545 cap4o3_10545 b8o1_10545 b9o1_10545 hf4o4_10545)
    refine WD.y4e (fuel':=7) (fun (b8o1_10545 : Nat)=>[(1,(.slice z4f z2F.length z4g)),(8,(.pointer (some ⟨z48,0,none⟩))),(10,(.pointer (some ⟨z49,0,none⟩))),(67,(.slice z4f z2F.length z4g)),(68,(.agg #[(.int .i64 z2R),(.int .i64 z2S),(.int .u8 z2T),(.int .u8 z2U),(.int .u8 z2V),(.int .u8 z2W)])),(70,(.slice zgI ((z4w.take (20 : Int).toNat).length) zgJ)),(11,(.pointer (some ⟨b8o1_10545,0,none⟩)))]) (fun (b8o1_10545 : Nat)=>[stb b8o1_10545 39 [(.int .i64 0),(.int .i64 0),(.int .u8 0),(.int .u8 0),(.int .u8 0),(.int .u8 0)],stb z49 41 [(.int .u8 zA.2.fKind),(.int .i64 zA.2.fA),(.int .i64 zA.2.fB),(.slice z91 zA.2.fData.length z92)],stb z93 39 [(.int .i64 zA.1.fPc),(.int .i64 zA.1.fLeft),(.int .u8 zA.1.fRegs.a0),(.int .u8 zA.1.fRegs.a1),(.int .u8 zA.1.fRegs.a2),(.int .u8 zA.1.fRegs.a3)],fz ((z2G ++ z4q) ++ z4r),stb z48 41 [(.int .u8 zz.2.fKind),(.int .i64 zz.2.fA),(.int .i64 zz.2.fB),(.slice z8Y zz.2.fData.length z8Z)],stb z90 39 [(.int .i64 zz.1.fPc),(.int .i64 zz.1.fLeft),(.int .u8 zz.1.fRegs.a0),(.int .u8 zz.1.fRegs.a1),(.int .u8 zz.1.fRegs.a2),(.int .u8 zz.1.fRegs.a3)],stb b2o1_10186 39 [(.int .i64 z2R),(.int .i64 z2S),(.int .u8 z2T),(.int .u8 z2U),(.int .u8 z2V),(.int .u8 z2W)]]) (fun (b8o1_10545 : Nat)=>True) (y22 12 [8,3,2,1,0]) ?_ (fun K8_10545=>?_)
    ·skip
     rintro b8o1_10545 _
     refine WD.choose [4,9] (by kernel_rfl) rfl ?_
     refine WDo.cons ?_ (WDo.cons ?_ (WDo.nil))
     ·refine WDo.call3 (i:=4) (dd:=71) rfl rfl rfl rfl (.inr rfl) (zl (l:=[.tmp 67,.tmp 68,.tmp 70]) Tryd.call18 (.cons rfl (.cons rfl (.cons rfl .nil)))) .nil (ccz hz .nil .h3 fun w pz ho=>y2d _ _ _ _ _ _ _ _ _ zeZ w pz (hG0.mono ((Zle.left _ _).trans (z2o.trans ((Zle.left _ _).trans ((Zle.y7 _ _ _).trans ((Zle.left _ _).trans (Zle.y7 _ _ _))))))) ((hG1.mono ((Zle.left _ _).trans (z2o.trans ((Zle.left _ _).trans ((Zle.y7 _ _ _).trans ((Zle.left _ _).trans (Zle.y7 _ _ _))))))).weak (fun _ _ h=>y12 ((Zle.left _ _).trans (z2o.trans ((Zle.left _ _).trans ((Zle.y7 _ _ _).trans ((Zle.left _ _).trans (Zle.y7 _ _ _)))))) h)) (zbR.mono ((Zle.left _ _).trans ((Zle.y7 _ _ _).trans ((Zle.left _ _).trans (Zle.y7 _ _ _))))) zf0) ?_
      rintro Zn4o1_10545 ao4o2_10545 cap4o3_10545 hf4o4_10545
      refine WD.merge .here .h3 ?_
      refine WD.a (i:=5) (d:=66) (by kernel_rfl) rfl z2 z6 rfl rfl rfl (fun _=>q_m rfl) ?_
      refine WD.a (i:=6) (d:=72) (by kernel_rfl) rfl z2 z6 rfl rfl rfl (fun _=>y2q rfl rfl) ?_
      refine WD.a (i:=7) (d:=73) (by kernel_rfl) rfl z2 z6 rfl rfl rfl (fun _=>y2q rfl rfl) ?_
      exact WD.reL (.cons .h1 (.cons .here (.cons .here (.cons .here (.cons .here (.cons .here (.cons .here .nil))))))) (.cons rfl (.cons rfl (.cons rfl (.cons rfl (.cons rfl (.cons rfl .nil)))))) (K4o5o6o7o8_10545 Zn4o1_10545 ao4o2_10545 cap4o3_10545 b8o1_10545 hf4o4_10545)
     ·refine WDo.new (i:=9) (dd:=12) rfl rfl rfl rfl (yE (cs:=[(.int .u8 0),(.int .i64 0),(.int .i64 0),(.slice none 0 0)]) y2g rfl) (fun h'=>absurd h' (by decide)) ?_
      intro b9o1_10545 _
      exact WD.reL (.cons .here (.cons .here (.cons .here (.cons .here (.cons .here (.cons .here (.cons .here (.cons .here .nil)))))))) (.cons rfl (.cons rfl (.cons rfl (.cons rfl (.cons rfl (.cons rfl (.cons rfl (.cons rfl .nil)))))))) (K8o9_10545 b8o1_10545 b9o1_10545 trivial)
    refine WD.y4e (fuel':=7) (fun (b9o1_10545 : Nat)=>[(1,(.slice z4f z2F.length z4g)),(8,(.pointer (some ⟨z48,0,none⟩))),(10,(.pointer (some ⟨z49,0,none⟩))),(67,(.slice z4f z2F.length z4g)),(68,(.agg #[(.int .i64 z2R),(.int .i64 z2S),(.int .u8 z2T),(.int .u8 z2U),(.int .u8 z2V),(.int .u8 z2W)])),(70,(.slice zgI ((z4w.take (20 : Int).toNat).length) zgJ)),(12,(.pointer (some ⟨b9o1_10545,0,none⟩)))]) (fun (b9o1_10545 : Nat)=>[stb b9o1_10545 41 [(.int .u8 0),(.int .i64 0),(.int .i64 0),(.slice none 0 0)],stb z49 41 [(.int .u8 zA.2.fKind),(.int .i64 zA.2.fA),(.int .i64 zA.2.fB),(.slice z91 zA.2.fData.length z92)],stb z93 39 [(.int .i64 zA.1.fPc),(.int .i64 zA.1.fLeft),(.int .u8 zA.1.fRegs.a0),(.int .u8 zA.1.fRegs.a1),(.int .u8 zA.1.fRegs.a2),(.int .u8 zA.1.fRegs.a3)],fz ((z2G ++ z4q) ++ z4r),stb z48 41 [(.int .u8 zz.2.fKind),(.int .i64 zz.2.fA),(.int .i64 zz.2.fB),(.slice z8Y zz.2.fData.length z8Z)],stb z90 39 [(.int .i64 zz.1.fPc),(.int .i64 zz.1.fLeft),(.int .u8 zz.1.fRegs.a0),(.int .u8 zz.1.fRegs.a1),(.int .u8 zz.1.fRegs.a2),(.int .u8 zz.1.fRegs.a3)],stb b2o1_10186 39 [(.int .i64 z2R),(.int .i64 z2S),(.int .u8 z2T),(.int .u8 z2U),(.int .u8 z2V),(.int .u8 z2W)]]) (fun (b9o1_10545 : Nat)=>True) (y22 12 [9,3,2,1,0]) ?_ (fun K9_10545=>?_)
    ·skip
     rintro b9o1_10545 _
     refine WD.choose [4,8] (by kernel_rfl) rfl ?_
     refine WDo.cons ?_ (WDo.cons ?_ (WDo.nil))
     ·refine WDo.call3 (i:=4) (dd:=71) rfl rfl rfl rfl (.inr rfl) (zl (l:=[.tmp 67,.tmp 68,.tmp 70]) Tryd.call18 (.cons rfl (.cons rfl (.cons rfl .nil)))) .nil (ccz hz .nil .h3 fun w pz ho=>y2d _ _ _ _ _ _ _ _ _ zeZ w pz (hG0.mono ((Zle.left _ _).trans (z2o.trans ((Zle.left _ _).trans ((Zle.y7 _ _ _).trans ((Zle.left _ _).trans (Zle.y7 _ _ _))))))) ((hG1.mono ((Zle.left _ _).trans (z2o.trans ((Zle.left _ _).trans ((Zle.y7 _ _ _).trans ((Zle.left _ _).trans (Zle.y7 _ _ _))))))).weak (fun _ _ h=>y12 ((Zle.left _ _).trans (z2o.trans ((Zle.left _ _).trans ((Zle.y7 _ _ _).trans ((Zle.left _ _).trans (Zle.y7 _ _ _)))))) h)) (zbR.mono ((Zle.left _ _).trans ((Zle.y7 _ _ _).trans ((Zle.left _ _).trans (Zle.y7 _ _ _))))) zf0) ?_
      rintro Zn4o1_10545 ao4o2_10545 cap4o3_10545 hf4o4_10545
      refine WD.merge .here .h3 ?_
      refine WD.a (i:=5) (d:=66) (by kernel_rfl) rfl z2 z6 rfl rfl rfl (fun _=>q_m rfl) ?_
      refine WD.a (i:=6) (d:=72) (by kernel_rfl) rfl z2 z6 rfl rfl rfl (fun _=>y2q rfl rfl) ?_
      refine WD.a (i:=7) (d:=73) (by kernel_rfl) rfl z2 z6 rfl rfl rfl (fun _=>y2q rfl rfl) ?_
      exact WD.reL (.cons .h1 (.cons .here (.cons .here (.cons .here (.cons .here (.cons .here (.cons .here .nil))))))) (.cons rfl (.cons rfl (.cons rfl (.cons rfl (.cons rfl (.cons rfl .nil)))))) (K4o5o6o7o9_10545 Zn4o1_10545 ao4o2_10545 cap4o3_10545 b9o1_10545 hf4o4_10545)
     ·refine WDo.new (i:=8) (dd:=11) rfl rfl rfl rfl (yE (cs:=[(.int .i64 0),(.int .i64 0),(.int .u8 0),(.int .u8 0),(.int .u8 0),(.int .u8 0)]) y1z rfl) (fun h'=>absurd h' (by decide)) ?_
      intro b8o1_10545 _
      exact WD.reL (.cons .h1 (.cons .here (.cons .here (.cons .here (.cons .here (.cons .here (.cons .here (.cons .here .nil)))))))) (.cons rfl (.cons rfl (.cons rfl (.cons rfl (.cons rfl (.cons rfl (.cons rfl (.cons rfl .nil)))))))) (K8o9_10545 b8o1_10545 b9o1_10545 trivial)
    refine WD.choose [4,8,9] (by kernel_rfl) rfl ?_
    refine WDo.cons ?_ (WDo.cons ?_ (WDo.cons ?_ (WDo.nil)))
    ·refine WDo.call3 (i:=4) (dd:=71) rfl rfl rfl rfl (.inr rfl) (zl (l:=[.tmp 67,.tmp 68,.tmp 70]) Tryd.call18 (.cons rfl (.cons rfl (.cons rfl .nil)))) .nil (ccz hz .nil .h2 fun w pz ho=>y2d _ _ _ _ _ _ _ _ _ zeZ w pz (hG0.mono ((Zle.left _ _).trans (z2o.trans ((Zle.left _ _).trans ((Zle.y7 _ _ _).trans ((Zle.left _ _).trans (Zle.y7 _ _ _))))))) ((hG1.mono ((Zle.left _ _).trans (z2o.trans ((Zle.left _ _).trans ((Zle.y7 _ _ _).trans ((Zle.left _ _).trans (Zle.y7 _ _ _))))))).weak (fun _ _ h=>y12 ((Zle.left _ _).trans (z2o.trans ((Zle.left _ _).trans ((Zle.y7 _ _ _).trans ((Zle.left _ _).trans (Zle.y7 _ _ _)))))) h)) (zbR.mono ((Zle.left _ _).trans ((Zle.y7 _ _ _).trans ((Zle.left _ _).trans (Zle.y7 _ _ _))))) zf0) ?_
     rintro Zn4o1_10545 ao4o2_10545 cap4o3_10545 hf4o4_10545
     refine WD.merge .here .h2 ?_
     refine WD.a (i:=5) (d:=66) (by kernel_rfl) rfl z2 z6 rfl rfl rfl (fun _=>q_m rfl) ?_
     refine WD.a (i:=6) (d:=72) (by kernel_rfl) rfl z2 z6 rfl rfl rfl (fun _=>y2q rfl rfl) ?_
     refine WD.a (i:=7) (d:=73) (by kernel_rfl) rfl z2 z6 rfl rfl rfl (fun _=>y2q rfl rfl) ?_
     exact WD.reL (.cons .here (.cons .here (.cons .here (.cons .here (.cons .here (.cons .here .nil)))))) (.cons rfl (.cons rfl (.cons rfl (.cons rfl (.cons rfl .nil))))) (K4o5o6o7_10545 Zn4o1_10545 ao4o2_10545 cap4o3_10545 hf4o4_10545)
    ·refine WDo.new (i:=8) (dd:=11) rfl rfl rfl rfl (yE (cs:=[(.int .i64 0),(.int .i64 0),(.int .u8 0),(.int .u8 0),(.int .u8 0),(.int .u8 0)]) y1z rfl) (fun h'=>absurd h' (by decide)) ?_
     intro b8o1_10545 _
     exact WD.reL (.cons .here (.cons .here (.cons .here (.cons .here (.cons .here (.cons .here (.cons .here .nil))))))) (.cons rfl (.cons rfl (.cons rfl (.cons rfl (.cons rfl (.cons rfl (.cons rfl .nil))))))) (K8_10545 b8o1_10545 trivial)
    ·refine WDo.new (i:=9) (dd:=12) rfl rfl rfl rfl (yE (cs:=[(.int .u8 0),(.int .i64 0),(.int .i64 0),(.slice none 0 0)]) y2g rfl) (fun h'=>absurd h' (by decide)) ?_
     intro b9o1_10545 _
     exact WD.reL (.cons .here (.cons .here (.cons .here (.cons .here (.cons .here (.cons .here (.cons .here .nil))))))) (.cons rfl (.cons rfl (.cons rfl (.cons rfl (.cons rfl (.cons rfl (.cons rfl .nil))))))) (K9_10545 b9o1_10545 trivial)
 refine WD.y6h (fuel':=2) (fun (b1o1_10186 : Nat) (b2o1_10186 : Nat)=>[(1,(.slice (some ⟨z6E,0,none⟩) (([z3D,z3E,z3F,z3G,z3H] : List Sapi_Ins).length) 5)),(31,(.agg #[(.int .i64 0),(.int .i64 0),(.int .u8 0),(.int .u8 0),(.int .u8 0),(.int .u8 0)])),(32,(.slice (some ⟨b1o1_10186,0,none⟩) ((List.replicate (32 : Int).toNat (0 : Int)).length) ((32 : Int).toNat))),(2,(.pointer (some ⟨b2o1_10186,0,none⟩)))]) (fun (b1o1_10186 : Nat) (b2o1_10186 : Nat)=>[stb b2o1_10186 39 [(.int .i64 0),(.int .i64 0),(.int .u8 0),(.int .u8 0),(.int .u8 0),(.int .u8 0)],row (.slice (some ⟨b1o1_10186,0,none⟩) ((List.replicate (32 : Int).toNat (0 : Int)).length) ((32 : Int).toNat)) 5 1 ((List.replicate (32 : Int).toNat (0 : Int)).flatMap e5),row (.slice (some ⟨z6E,0,none⟩) (([z3D,z3E,z3F,z3G,z3H] : List Sapi_Ins).length) 5) 33 4 (([z3D,z3E,z3F,z3G,z3H] : List Sapi_Ins).flatMap e33),row (.slice (some ⟨ze2,0,none⟩) (([1,16,0] : List Int).length) 3) 3 1 (([1,16,0] : List Int).flatMap e3),row (.slice (some ⟨ze1,0,none⟩) (([1,0] : List Int).length) 2) 3 1 (([1,0] : List Int).flatMap e3),row (.slice (some ⟨ze0,0,none⟩) (([3] : List Int).length) 1) 3 1 (([3] : List Int).flatMap e3),row (.slice (some ⟨zdZ,0,none⟩) (([0,5] : List Int).length) 2) 3 1 (([0,5] : List Int).flatMap e3),fz []]) (fun (b1o1_10186 : Nat) (b2o1_10186 : Nat)=>True) (y22 5 [2,1,0]) ?_ (fun K1o2_10186=>?_)
 ·skip
  rintro b1o1_10186 b2o1_10186 _
  refine WD.forced0 (i:=3) rfl (by kernel_rfl) rfl rfl rfl (Sin.of .nil) (yu y1p rfl rfl rfl .here rfl rfl rfl) ?_
  refine WD.a (i:=4) (d:=3) (by kernel_rfl) rfl z2 z6 rfl rfl rfl (fun _=>q_z rfl) ?_
  exact WD.reL (.cons .here (.cons .here (.cons .here (.cons .here (.cons .here (.cons .here (.cons .here (.cons .here .nil)))))))) (.cons rfl (.cons rfl (.cons rfl .nil))) (K1o2o3o4_10186 b1o1_10186 b2o1_10186 trivial)
 refine WD.y4e (fuel':=2) (fun (b2o1_10186 : Nat)=>[(1,(.slice (some ⟨z6E,0,none⟩) (([z3D,z3E,z3F,z3G,z3H] : List Sapi_Ins).length) 5)),(2,(.pointer (some ⟨b2o1_10186,0,none⟩)))]) (fun (b2o1_10186 : Nat)=>[stb b2o1_10186 39 [(.int .i64 0),(.int .i64 0),(.int .u8 0),(.int .u8 0),(.int .u8 0),(.int .u8 0)],row (.slice (some ⟨z6E,0,none⟩) (([z3D,z3E,z3F,z3G,z3H] : List Sapi_Ins).length) 5) 33 4 (([z3D,z3E,z3F,z3G,z3H] : List Sapi_Ins).flatMap e33),row (.slice (some ⟨ze2,0,none⟩) (([1,16,0] : List Int).length) 3) 3 1 (([1,16,0] : List Int).flatMap e3),row (.slice (some ⟨ze1,0,none⟩) (([1,0] : List Int).length) 2) 3 1 (([1,0] : List Int).flatMap e3),row (.slice (some ⟨ze0,0,none⟩) (([3] : List Int).length) 1) 3 1 (([3] : List Int).flatMap e3),row (.slice (some ⟨zdZ,0,none⟩) (([0,5] : List Int).length) 2) 3 1 (([0,5] : List Int).flatMap e3),fz []]) (fun (b2o1_10186 : Nat)=>True) (y22 5 [3,2,0]) ?_ (fun K2o3_10186=>?_)
 ·skip
  rintro b2o1_10186 _
  refine WD.new (i:=1) (dd:=32) rfl (by kernel_rfl) rfl rfl rfl (y3Y (r:=[(.int .u8 0)]) (z0:=(0 : Int)) y1v y68 rfl rfl rfl rfl zgB) (fun h'=>absurd h' (by decide)) ?_
  intro b1o1_10186 _
  refine WD.rowEqD .here (cs':=(List.replicate (32 : Int).toNat (0 : Int)).flatMap e5) (y5u (enc:=e5) (0 : Int) _) ?_
  refine WD.a (i:=4) (d:=3) (by kernel_rfl) rfl z2 z6 rfl rfl rfl (fun _=>q_z rfl) ?_
  exact WD.reL (.cons .h1 (.cons .here (.cons .here (.cons .here (.cons .here (.cons .here (.cons .here (.cons .here .nil)))))))) (.cons rfl (.cons rfl (.cons rfl .nil))) (K1o2o3o4_10186 b1o1_10186 b2o1_10186 trivial)
 refine WD.y4e (fuel':=3) (fun (b1o1_10186 : Nat)=>[(1,(.slice (some ⟨z6E,0,none⟩) (([z3D,z3E,z3F,z3G,z3H] : List Sapi_Ins).length) 5)),(31,(.agg #[(.int .i64 0),(.int .i64 0),(.int .u8 0),(.int .u8 0),(.int .u8 0),(.int .u8 0)])),(32,(.slice (some ⟨b1o1_10186,0,none⟩) ((List.replicate (32 : Int).toNat (0 : Int)).length) ((32 : Int).toNat)))]) (fun (b1o1_10186 : Nat)=>[row (.slice (some ⟨b1o1_10186,0,none⟩) ((List.replicate (32 : Int).toNat (0 : Int)).length) ((32 : Int).toNat)) 5 1 ((List.replicate (32 : Int).toNat (0 : Int)).flatMap e5),row (.slice (some ⟨z6E,0,none⟩) (([z3D,z3E,z3F,z3G,z3H] : List Sapi_Ins).length) 5) 33 4 (([z3D,z3E,z3F,z3G,z3H] : List Sapi_Ins).flatMap e33),row (.slice (some ⟨ze2,0,none⟩) (([1,16,0] : List Int).length) 3) 3 1 (([1,16,0] : List Int).flatMap e3),row (.slice (some ⟨ze1,0,none⟩) (([1,0] : List Int).length) 2) 3 1 (([1,0] : List Int).flatMap e3),row (.slice (some ⟨ze0,0,none⟩) (([3] : List Int).length) 1) 3 1 (([3] : List Int).flatMap e3),row (.slice (some ⟨zdZ,0,none⟩) (([0,5] : List Int).length) 2) 3 1 (([0,5] : List Int).flatMap e3),fz []]) (fun (b1o1_10186 : Nat)=>True) (y22 5 [1,0]) ?_ (fun K1_10186=>?_)
 ·skip
  rintro b1o1_10186 _
  refine WD.new (i:=2) (dd:=2) rfl (by kernel_rfl) rfl rfl rfl (yE (cs:=[(.int .i64 0),(.int .i64 0),(.int .u8 0),(.int .u8 0),(.int .u8 0),(.int .u8 0)]) y1z rfl) (fun h'=>absurd h' (by decide)) ?_
  intro b2o1_10186 _
  exact WD.reL (.cons .here (.cons .here (.cons .here (.cons .here (.cons .here (.cons .here (.cons .here (.cons .here .nil)))))))) (.cons rfl (.cons rfl (.cons rfl (.cons rfl .nil)))) (K1o2_10186 b1o1_10186 b2o1_10186 trivial)
 refine WD.y4e (fuel':=3) (fun (b2o1_10186 : Nat)=>[(1,(.slice (some ⟨z6E,0,none⟩) (([z3D,z3E,z3F,z3G,z3H] : List Sapi_Ins).length) 5)),(31,(.agg #[(.int .i64 0),(.int .i64 0),(.int .u8 0),(.int .u8 0),(.int .u8 0),(.int .u8 0)])),(2,(.pointer (some ⟨b2o1_10186,0,none⟩)))]) (fun (b2o1_10186 : Nat)=>[stb b2o1_10186 39 [(.int .i64 0),(.int .i64 0),(.int .u8 0),(.int .u8 0),(.int .u8 0),(.int .u8 0)],row (.slice (some ⟨z6E,0,none⟩) (([z3D,z3E,z3F,z3G,z3H] : List Sapi_Ins).length) 5) 33 4 (([z3D,z3E,z3F,z3G,z3H] : List Sapi_Ins).flatMap e33),row (.slice (some ⟨ze2,0,none⟩) (([1,16,0] : List Int).length) 3) 3 1 (([1,16,0] : List Int).flatMap e3),row (.slice (some ⟨ze1,0,none⟩) (([1,0] : List Int).length) 2) 3 1 (([1,0] : List Int).flatMap e3),row (.slice (some ⟨ze0,0,none⟩) (([3] : List Int).length) 1) 3 1 (([3] : List Int).flatMap e3),row (.slice (some ⟨zdZ,0,none⟩) (([0,5] : List Int).length) 2) 3 1 (([0,5] : List Int).flatMap e3),fz []]) (fun (b2o1_10186 : Nat)=>True) (y22 5 [2,0]) ?_ (fun K2_10186=>?_)
 ·skip
  rintro b2o1_10186 _
  refine WD.choose [1,3] (by kernel_rfl) rfl ?_
  refine WDo.cons ?_ (WDo.cons ?_ (WDo.nil))
  ·refine WDo.new (i:=1) (dd:=32) rfl rfl rfl rfl (y3Y (r:=[(.int .u8 0)]) (z0:=(0 : Int)) y1v y68 rfl rfl rfl rfl zgB) (fun h'=>absurd h' (by decide)) ?_
   intro b1o1_10186 _
   refine WD.rowEqD .here (cs':=(List.replicate (32 : Int).toNat (0 : Int)).flatMap e5) (y5u (enc:=e5) (0 : Int) _) ?_
   exact WD.reL (.cons .h1 (.cons .here (.cons .here (.cons .here (.cons .here (.cons .here (.cons .here (.cons .here .nil)))))))) (.cons rfl (.cons rfl (.cons rfl (.cons rfl .nil)))) (K1o2_10186 b1o1_10186 b2o1_10186 trivial)
  ·refine WDo.forced0 (i:=3) rfl rfl rfl rfl (Sin.of .nil) (yu y1p rfl rfl rfl .here rfl rfl rfl) ?_
   exact WD.reL (.cons .here (.cons .here (.cons .here (.cons .here (.cons .here (.cons .here (.cons .here .nil))))))) (.cons rfl (.cons rfl .nil)) (K2o3_10186 b2o1_10186 trivial)
 refine WD.choose [1,2] (by kernel_rfl) rfl ?_
 refine WDo.cons ?_ (WDo.cons ?_ (WDo.nil))
 ·refine WDo.new (i:=1) (dd:=32) rfl rfl rfl rfl (y3Y (r:=[(.int .u8 0)]) (z0:=(0 : Int)) y1v y68 rfl rfl rfl rfl zgB) (fun h'=>absurd h' (by decide)) ?_
  intro b1o1_10186 _
  refine WD.rowEqD .here (cs':=(List.replicate (32 : Int).toNat (0 : Int)).flatMap e5) (y5u (enc:=e5) (0 : Int) _) ?_
  exact WD.reL (.cons .here (.cons .here (.cons .here (.cons .here (.cons .here (.cons .here (.cons .here .nil))))))) (.cons rfl (.cons rfl (.cons rfl .nil))) (K1_10186 b1o1_10186 trivial)
 ·refine WDo.new (i:=2) (dd:=2) rfl rfl rfl rfl (yE (cs:=[(.int .i64 0),(.int .i64 0),(.int .u8 0),(.int .u8 0),(.int .u8 0),(.int .u8 0)]) y1z rfl) (fun h'=>absurd h' (by decide)) ?_
  intro b2o1_10186 _
  exact WD.reL (.cons .here (.cons .here (.cons .here (.cons .here (.cons .here (.cons .here (.cons .here .nil))))))) (.cons rfl (.cons rfl (.cons rfl .nil))) (K2_10186 b2o1_10186 trivial)
def y1N (zZ : Sproc_State) (z1b : Sapi_Ins) (z2z : List Int) (z5J : Int) (z5K : Int) (z5L : Int) (z2A : List Int) : Option (Int × Int) :=
 jp1 (fun (z5M : Int)=>if decide ((i64 (z5M - 1)) ≠ 0) then some ((i64 (zZ.fPc - 1)),(i64 (z5M - 1))) else some (zZ.fPc,(i64 (z5M - 1)))) fun zf1=>if decide (zZ.fLeft = 0) then zf1 z1b.fA else zf1 zZ.fLeft
set_option maxRecDepth 20000 in
theorem y4J (Z : Zp) (z6G : Nat) (z4h : Option Addr) (z4i : Nat) (z4j : Option Addr) (z4k : Nat) (zZ : Sproc_State) (z1b : Sapi_Ins) (z2z : List Int) (z5J : Int) (z5K : Int) (z5L : Int) (z2A : List Int) (r : Int × Int)
  (h : y1N zZ z1b z2z z5J z5K z5L z2A = some r) (w₀ : World) (hz : PZ (fps [stb z6G 65 [(.int .i64 zZ.fPc),(.int .i64 zZ.fLeft),(.int .u8 zZ.fRegs.a0),(.int .u8 zZ.fRegs.a1),(.int .u8 zZ.fRegs.a2),(.int .u8 zZ.fRegs.a3),(.int .u8 z1b.fOp),(.int .i64 z1b.fA),(.int .i64 z1b.fB),(.int .i64 z1b.fC),(.slice z4h z2z.length z4i),(.int .u8 z5J),(.int .i64 z5K),(.int .i64 z5L),(.slice z4j z2A.length z4k)],row (.slice z4h z2z.length z4i) 5 1 (z2z.flatMap e5),row (.slice z4j z2A.length z4k) 5 1 (z2A.flatMap e5)]) w₀ Z)
  (hown : Hp (fps [stb z6G 65 [(.int .i64 zZ.fPc),(.int .i64 zZ.fLeft),(.int .u8 zZ.fRegs.a0),(.int .u8 zZ.fRegs.a1),(.int .u8 zZ.fRegs.a2),(.int .u8 zZ.fRegs.a3),(.int .u8 z1b.fOp),(.int .i64 z1b.fA),(.int .i64 z1b.fB),(.int .i64 z1b.fC),(.slice z4h z2z.length z4i),(.int .u8 z5J),(.int .i64 z5K),(.int .i64 z5L),(.slice z4j z2A.length z4k)],row (.slice z4h z2z.length z4i) 5 1 (z2z.flatMap e5),row (.slice z4j z2A.length z4k) 5 1 (z2A.flatMap e5)]) w₀ w₀ [stb z6G 65 [(.int .i64 zZ.fPc),(.int .i64 zZ.fLeft),(.int .u8 zZ.fRegs.a0),(.int .u8 zZ.fRegs.a1),(.int .u8 zZ.fRegs.a2),(.int .u8 zZ.fRegs.a3),(.int .u8 z1b.fOp),(.int .i64 z1b.fA),(.int .i64 z1b.fB),(.int .i64 z1b.fC),(.slice z4h z2z.length z4i),(.int .u8 z5J),(.int .i64 z5K),(.int .i64 z5L),(.slice z4j z2A.length z4k)],row (.slice z4h z2z.length z4i) 5 1 (z2z.flatMap e5),row (.slice z4j z2A.length z4k) 5 1 (z2A.flatMap e5)]) :
  Calls Tryd.prog 84 #[(.pointer (some ⟨z6G,0,none⟩))] w₀ fun e w'=>e = .returned (.tuple #[]) ∧ Hp (fps [stb z6G 65 [(.int .i64 zZ.fPc),(.int .i64 zZ.fLeft),(.int .u8 zZ.fRegs.a0),(.int .u8 zZ.fRegs.a1),(.int .u8 zZ.fRegs.a2),(.int .u8 zZ.fRegs.a3),(.int .u8 z1b.fOp),(.int .i64 z1b.fA),(.int .i64 z1b.fB),(.int .i64 z1b.fC),(.slice z4h z2z.length z4i),(.int .u8 z5J),(.int .i64 z5K),(.int .i64 z5L),(.slice z4j z2A.length z4k)],row (.slice z4h z2z.length z4i) 5 1 (z2z.flatMap e5),row (.slice z4j z2A.length z4k) 5 1 (z2A.flatMap e5)]) w₀ w' [stb z6G 65 [(.int .i64 r.1),(.int .i64 r.2),(.int .u8 zZ.fRegs.a0),(.int .u8 zZ.fRegs.a1),(.int .u8 zZ.fRegs.a2),(.int .u8 zZ.fRegs.a3),(.int .u8 z1b.fOp),(.int .i64 z1b.fA),(.int .i64 z1b.fB),(.int .i64 z1b.fC),(.slice z4h z2z.length z4i),(.int .u8 z5J),(.int .i64 z5K),(.int .i64 z5L),(.slice z4j z2A.length z4k)],row (.slice z4h z2z.length z4i) 5 1 (z2z.flatMap e5),row (.slice z4j z2A.length z4k) 5 1 (z2A.flatMap e5)]:=by
 unfold y1N at h
 refine Calls.y8 (vs:=[(.pointer (some ⟨z6G,0,none⟩))]) (pre:=[stb z6G 65 [(.int .i64 zZ.fPc),(.int .i64 zZ.fLeft),(.int .u8 zZ.fRegs.a0),(.int .u8 zZ.fRegs.a1),(.int .u8 zZ.fRegs.a2),(.int .u8 zZ.fRegs.a3),(.int .u8 z1b.fOp),(.int .i64 z1b.fA),(.int .i64 z1b.fB),(.int .i64 z1b.fC),(.slice z4h z2z.length z4i),(.int .u8 z5J),(.int .i64 z5K),(.int .i64 z5L),(.slice z4j z2A.length z4k)],row (.slice z4h z2z.length z4i) 5 1 (z2z.flatMap e5),row (.slice z4j z2A.length z4k) 5 1 (z2A.flatMap e5)]) (env:=[(0,(.pointer (some ⟨z6G,0,none⟩)))]) Tryd.func84 rfl Tryd.ntmps84 rfl (hown) rfl ?_
 obtain ⟨zf1,zu2,h⟩:=y3g h
 refine WC.y2V (fun (z5M : Int)=>(zf1 z5M = some r)) (fun (z5M : Int)=>[(0,(.pointer (some ⟨z6G,0,none⟩)))]) (fun (z5M : Int)=>[row (.slice z4h z2z.length z4i) 5 1 (z2z.flatMap e5),row (.slice z4j z2A.length z4k) 5 1 (z2A.flatMap e5),stb z6G 65 [(.int .i64 zZ.fPc),(.int .i64 z5M),(.int .u8 zZ.fRegs.a0),(.int .u8 zZ.fRegs.a1),(.int .u8 zZ.fRegs.a2),(.int .u8 zZ.fRegs.a3),(.int .u8 z1b.fOp),(.int .i64 z1b.fA),(.int .i64 z1b.fB),(.int .i64 z1b.fC),(.slice z4h z2z.length z4i),(.int .u8 z5J),(.int .i64 z5K),(.int .i64 z5L),(.slice z4j z2A.length z4k)]]) ?_ ?_
 ·skip
  refine WC.b (WC.a (WL.pu rfl ?_))
  refine WL.a (d:=3) rfl rfl rfl (y6 rfl) ?_
  refine WL.a (d:=4) rfl rfl rfl (y4 yI rfl rfl) ?_
  refine WL.a (d:=5) rfl rfl rfl (y4 y36 rfl rfl) ?_
  refine WL.a (d:=6) rfl rfl rfl (y5 yd rfl (yb .here rfl)) ?_
  refine WL.pu rfl (WL.nil (WX.a ?_))
  refine WC.cond rfl (fun zgK=>?_) (fun zgK=>?_)
  ·replace h:=yl h zgK
   refine WC.a (WL.pu rfl (WL.pu rfl ?_))
   refine WL.a (d:=10) rfl rfl rfl (y6 rfl) ?_
   refine WL.a (d:=11) rfl rfl rfl (y4 yo rfl rfl) ?_
   refine WL.a (d:=12) rfl rfl rfl (y4 yS rfl rfl) ?_
   refine WL.a (d:=13) rfl rfl rfl (y5 yd rfl (yb .here rfl)) ?_
   refine WL.a (d:=14) rfl rfl rfl (y6 rfl) ?_
   refine WL.a (d:=15) rfl rfl rfl (y4 yI rfl rfl) ?_
   refine WL.a (d:=16) rfl rfl rfl (y4 y36 rfl rfl) ?_
   refine WL.yg rfl rfl (yK (ds:=[(.int .i64 zZ.fPc),(.int .i64 z1b.fA),(.int .u8 zZ.fRegs.a0),(.int .u8 zZ.fRegs.a1),(.int .u8 zZ.fRegs.a2),(.int .u8 zZ.fRegs.a3),(.int .u8 z1b.fOp),(.int .i64 z1b.fA),(.int .i64 z1b.fB),(.int .i64 z1b.fC),(.slice z4h z2z.length z4i),(.int .u8 z5J),(.int .i64 z5K),(.int .i64 z5L),(.slice z4j z2A.length z4k)]) y20 rfl rfl rfl rfl rfl .here rfl rfl) ?_
   refine WL.nil ?_
   exact WX.mid (G:=Int) z1b.fA h (.cons rfl .nil) (.cons .h1 (.cons .h1 (.cons .here .nil)))
  ·replace h:=ym h zgK
   refine WC.skip ?_
   exact WX.mid (G:=Int) zZ.fLeft h (.cons rfl .nil) (.cons .h1 (.cons .h1 (.cons .here .nil)))
 ·rintro z5M h
  replace h:=(zu2 z5M).symm.trans h
  refine WC.b (WC.a (WL.pu rfl ?_))
  refine WL.a (d:=18) rfl rfl rfl (y6 rfl) ?_
  refine WL.a (d:=19) rfl rfl rfl (y4 yI rfl rfl) ?_
  refine WL.a (d:=20) rfl rfl rfl (y4 y36 rfl rfl) ?_
  refine WL.a (d:=21) rfl rfl rfl (y5 yd rfl (yb .h2 rfl)) ?_
  refine WL.pu rfl ?_
  refine WL.a (d:=23) rfl rfl rfl (y6 rfl) ?_
  refine WL.a (d:=24) rfl rfl rfl (y4 yI rfl rfl) ?_
  refine WL.a (d:=25) rfl rfl rfl (y4 y36 rfl rfl) ?_
  refine WL.yg rfl rfl (yK (ds:=[(.int .i64 zZ.fPc),(.int .i64 (i64 (z5M - 1))),(.int .u8 zZ.fRegs.a0),(.int .u8 zZ.fRegs.a1),(.int .u8 zZ.fRegs.a2),(.int .u8 zZ.fRegs.a3),(.int .u8 z1b.fOp),(.int .i64 z1b.fA),(.int .i64 z1b.fB),(.int .i64 z1b.fC),(.slice z4h z2z.length z4i),(.int .u8 z5J),(.int .i64 z5K),(.int .i64 z5L),(.slice z4j z2A.length z4k)]) y20 rfl rfl rfl rfl rfl .h2 rfl rfl) ?_
  refine WL.nil (WX.a (WC.b (WC.a (WL.pu rfl ?_))))
  refine WL.a (d:=27) rfl rfl rfl (y6 rfl) ?_
  refine WL.a (d:=28) rfl rfl rfl (y4 yI rfl rfl) ?_
  refine WL.a (d:=29) rfl rfl rfl (y4 y36 rfl rfl) ?_
  refine WL.a (d:=30) rfl rfl rfl (y5 yd rfl (yb .here rfl)) ?_
  refine WL.pu rfl (WL.nil (WX.a ?_))
  refine WC.cond rfl (fun zgL=>?_) (fun zgL=>?_)
  ·replace h:=yl h zgL
   refine WC.a (WL.pu rfl ?_)
   refine WL.a (d:=33) rfl rfl rfl (y6 rfl) ?_
   refine WL.a (d:=34) rfl rfl rfl (y4 yI rfl rfl) ?_
   refine WL.a (d:=35) rfl rfl rfl (y4 y1c rfl rfl) ?_
   refine WL.a (d:=36) rfl rfl rfl (y5 yd rfl (yb .here rfl)) ?_
   refine WL.pu rfl ?_
   refine WL.a (d:=38) rfl rfl rfl (y6 rfl) ?_
   refine WL.a (d:=39) rfl rfl rfl (y4 yI rfl rfl) ?_
   refine WL.a (d:=40) rfl rfl rfl (y4 y1c rfl rfl) ?_
   refine WL.yg rfl rfl (yK (ds:=[(.int .i64 (i64 (zZ.fPc - 1))),(.int .i64 (i64 (z5M - 1))),(.int .u8 zZ.fRegs.a0),(.int .u8 zZ.fRegs.a1),(.int .u8 zZ.fRegs.a2),(.int .u8 zZ.fRegs.a3),(.int .u8 z1b.fOp),(.int .i64 z1b.fA),(.int .i64 z1b.fB),(.int .i64 z1b.fC),(.slice z4h z2z.length z4i),(.int .u8 z5J),(.int .i64 z5K),(.int .i64 z5L),(.slice z4j z2A.length z4k)]) y20 rfl rfl rfl rfl rfl .here rfl rfl) ?_
   refine WL.nil ?_
   obtain rfl:=Option.some.inj h
   refine WX.y9 Tryd.results84 .nil (fun w hw=>?_)
   exact ⟨yC,hw.sub (.cons .here (.cons .here (.cons .here .nil)))⟩
  ·replace h:=ym h zgL
   refine WC.skip ?_
   obtain rfl:=Option.some.inj h
   refine WX.y9 Tryd.results84 .nil (fun w hw=>?_)
   exact ⟨yC,hw.sub (.cons .here (.cons .here (.cons .here .nil)))⟩
def yj (zay : Sproc_State) (zdC : Sapi_Ins) (z4x : List Int) (zgM : Int) (zgN : Int) (zgO : Int) (z4y : List Int) (zaz : Int) : Option Unit :=
 chk ((0 : Int) ≤ zaz ∧ zaz < 4) (some ())
set_option maxRecDepth 20000 in
theorem yr (Z : Zp) (ze9 : Addr) (zbS : Option Addr) (zbT : Nat) (zbU : Option Addr) (zbV : Nat) (zay : Sproc_State) (zdC : Sapi_Ins) (z4x : List Int) (zgM : Int) (zgN : Int) (zgO : Int) (z4y : List Int) (zaz : Int) (r : Unit)
  (h : yj zay zdC z4x zgM zgN zgO z4y zaz = some r) (w₀ : World) (hz : PZ (fps [row (.slice zbS z4x.length zbT) 5 1 (z4x.flatMap e5),row (.slice zbU z4y.length zbV) 5 1 (z4y.flatMap e5)]) w₀ Z)
  (zy1 : ZC Z ze9 [(.int .i64 zay.fPc),(.int .i64 zay.fLeft),(.int .u8 zay.fRegs.a0),(.int .u8 zay.fRegs.a1),(.int .u8 zay.fRegs.a2),(.int .u8 zay.fRegs.a3),(.int .u8 zdC.fOp),(.int .i64 zdC.fA),(.int .i64 zdC.fB),(.int .i64 zdC.fC),(.slice zbS z4x.length zbT),(.int .u8 zgM),(.int .i64 zgN),(.int .i64 zgO),(.slice zbU z4y.length zbV)])
  (hown : Hp (fps [row (.slice zbS z4x.length zbT) 5 1 (z4x.flatMap e5),row (.slice zbU z4y.length zbV) 5 1 (z4y.flatMap e5)]) w₀ w₀ [row (.slice zbS z4x.length zbT) 5 1 (z4x.flatMap e5),row (.slice zbU z4y.length zbV) 5 1 (z4y.flatMap e5)]) :
  Calls Tryd.prog 108 #[(.pointer (some ze9)),(.int .i64 zaz)] w₀ fun e w'=>e = .returned (.pointer (some (Addr.add ze9 (2 + (zaz : Int).toNat)))) ∧ Hp (fps [row (.slice zbS z4x.length zbT) 5 1 (z4x.flatMap e5),row (.slice zbU z4y.length zbV) 5 1 (z4y.flatMap e5)]) w₀ w' [row (.slice zbS z4x.length zbT) 5 1 (z4x.flatMap e5),row (.slice zbU z4y.length zbV) 5 1 (z4y.flatMap e5)]:=by
 unfold yj at h
 refine Calls.y8 (vs:=[(.pointer (some ze9)),(.int .i64 zaz)]) (pre:=[row (.slice zbS z4x.length zbT) 5 1 (z4x.flatMap e5),row (.slice zbU z4y.length zbV) 5 1 (z4y.flatMap e5)]) (env:=[(0,(.pointer (some ze9))),(1,(.int .i64 zaz))]) Tryd.func108 rfl Tryd.ntmps108 rfl (hown) rfl ?_
 refine WC.b (WC.a (WL.pu rfl (WL.nil (WX.a (WC.b ?_)))))
 obtain ⟨zu3,h⟩:=ya h
 refine WC.a (WL.pu rfl (WL.pu rfl ?_))
 refine WL.a (d:=7) rfl rfl rfl (y6 rfl) ?_
 refine WL.a (d:=8) rfl rfl rfl (y4 yI rfl rfl) ?_
 refine WL.a (d:=9) rfl rfl rfl (y4 y51 rfl rfl) ?_
 refine WL.a (d:=10) rfl rfl rfl (y2s y60 rfl rfl zu3 add_z1) ?_
 refine WL.pu rfl (WL.nil (WX.a (WC.ret ?_)))
 skip
 refine WX.yh Tryd.results108 (.tmp rfl .nil) (fun w hw=>?_)
 exact ⟨y1a rfl,hw.sub (.cons .here (.cons .here .nil))⟩
def y24 (zR : Sproc_State) (z13 : Sapi_Ins) (z33 : List Int) (z7z : Int) (z7A : Int) (z7B : Int) (z34 : List Int) : Option (Int × Int × Int × Int) :=
 (yj zR z13 z33 z7z z7A z7B z34 z13.fA).bind fun zu4=>chk ((0 : Int) ≤ z13.fA ∧ z13.fA < 4) (some ((nth (([zR.fRegs.a0,zR.fRegs.a1,zR.fRegs.a2,zR.fRegs.a3] : List Int).set (z13.fA : Int).toNat (u8 z13.fB)) 0),(nth (([zR.fRegs.a0,zR.fRegs.a1,zR.fRegs.a2,zR.fRegs.a3] : List Int).set (z13.fA : Int).toNat (u8 z13.fB)) 1),(nth (([zR.fRegs.a0,zR.fRegs.a1,zR.fRegs.a2,zR.fRegs.a3] : List Int).set (z13.fA : Int).toNat (u8 z13.fB)) 2),(nth (([zR.fRegs.a0,zR.fRegs.a1,zR.fRegs.a2,zR.fRegs.a3] : List Int).set (z13.fA : Int).toNat (u8 z13.fB)) 3)))
set_option maxRecDepth 20000 in
theorem y5f (Z : Zp) (z7C : Nat) (z4Y : Option Addr) (z4Z : Nat) (z50 : Option Addr) (z52 : Nat) (zR : Sproc_State) (z13 : Sapi_Ins) (z33 : List Int) (z7z : Int) (z7A : Int) (z7B : Int) (z34 : List Int) (r : Int × Int × Int × Int)
  (h : y24 zR z13 z33 z7z z7A z7B z34 = some r) (w₀ : World) (hz : PZ (fps [stb z7C 65 [(.int .i64 zR.fPc),(.int .i64 zR.fLeft),(.int .u8 zR.fRegs.a0),(.int .u8 zR.fRegs.a1),(.int .u8 zR.fRegs.a2),(.int .u8 zR.fRegs.a3),(.int .u8 z13.fOp),(.int .i64 z13.fA),(.int .i64 z13.fB),(.int .i64 z13.fC),(.slice z4Y z33.length z4Z),(.int .u8 z7z),(.int .i64 z7A),(.int .i64 z7B),(.slice z50 z34.length z52)],row (.slice z4Y z33.length z4Z) 5 1 (z33.flatMap e5),row (.slice z50 z34.length z52) 5 1 (z34.flatMap e5)]) w₀ Z)
  (hown : Hp (fps [stb z7C 65 [(.int .i64 zR.fPc),(.int .i64 zR.fLeft),(.int .u8 zR.fRegs.a0),(.int .u8 zR.fRegs.a1),(.int .u8 zR.fRegs.a2),(.int .u8 zR.fRegs.a3),(.int .u8 z13.fOp),(.int .i64 z13.fA),(.int .i64 z13.fB),(.int .i64 z13.fC),(.slice z4Y z33.length z4Z),(.int .u8 z7z),(.int .i64 z7A),(.int .i64 z7B),(.slice z50 z34.length z52)],row (.slice z4Y z33.length z4Z) 5 1 (z33.flatMap e5),row (.slice z50 z34.length z52) 5 1 (z34.flatMap e5)]) w₀ w₀ [stb z7C 65 [(.int .i64 zR.fPc),(.int .i64 zR.fLeft),(.int .u8 zR.fRegs.a0),(.int .u8 zR.fRegs.a1),(.int .u8 zR.fRegs.a2),(.int .u8 zR.fRegs.a3),(.int .u8 z13.fOp),(.int .i64 z13.fA),(.int .i64 z13.fB),(.int .i64 z13.fC),(.slice z4Y z33.length z4Z),(.int .u8 z7z),(.int .i64 z7A),(.int .i64 z7B),(.slice z50 z34.length z52)],row (.slice z4Y z33.length z4Z) 5 1 (z33.flatMap e5),row (.slice z50 z34.length z52) 5 1 (z34.flatMap e5)]) :
  Calls Tryd.prog 85 #[(.pointer (some ⟨z7C,0,none⟩))] w₀ fun e w'=>e = .returned (.tuple #[]) ∧ Hp (fps [stb z7C 65 [(.int .i64 zR.fPc),(.int .i64 zR.fLeft),(.int .u8 zR.fRegs.a0),(.int .u8 zR.fRegs.a1),(.int .u8 zR.fRegs.a2),(.int .u8 zR.fRegs.a3),(.int .u8 z13.fOp),(.int .i64 z13.fA),(.int .i64 z13.fB),(.int .i64 z13.fC),(.slice z4Y z33.length z4Z),(.int .u8 z7z),(.int .i64 z7A),(.int .i64 z7B),(.slice z50 z34.length z52)],row (.slice z4Y z33.length z4Z) 5 1 (z33.flatMap e5),row (.slice z50 z34.length z52) 5 1 (z34.flatMap e5)]) w₀ w' [stb z7C 65 [(.int .i64 zR.fPc),(.int .i64 zR.fLeft),(.int .u8 r.1),(.int .u8 r.2.1),(.int .u8 r.2.2.1),(.int .u8 r.2.2.2),(.int .u8 z13.fOp),(.int .i64 z13.fA),(.int .i64 z13.fB),(.int .i64 z13.fC),(.slice z4Y z33.length z4Z),(.int .u8 z7z),(.int .i64 z7A),(.int .i64 z7B),(.slice z50 z34.length z52)],row (.slice z4Y z33.length z4Z) 5 1 (z33.flatMap e5),row (.slice z50 z34.length z52) 5 1 (z34.flatMap e5)]:=by
 unfold y24 at h
 refine Calls.y8 (vs:=[(.pointer (some ⟨z7C,0,none⟩))]) (pre:=[stb z7C 65 [(.int .i64 zR.fPc),(.int .i64 zR.fLeft),(.int .u8 zR.fRegs.a0),(.int .u8 zR.fRegs.a1),(.int .u8 zR.fRegs.a2),(.int .u8 zR.fRegs.a3),(.int .u8 z13.fOp),(.int .i64 z13.fA),(.int .i64 z13.fB),(.int .i64 z13.fC),(.slice z4Y z33.length z4Z),(.int .u8 z7z),(.int .i64 z7A),(.int .i64 z7B),(.slice z50 z34.length z52)],row (.slice z4Y z33.length z4Z) 5 1 (z33.flatMap e5),row (.slice z50 z34.length z52) 5 1 (z34.flatMap e5)]) (env:=[(0,(.pointer (some ⟨z7C,0,none⟩)))]) Tryd.func85 rfl Tryd.ntmps85 rfl (hown) rfl ?_
 obtain ⟨zu4,zu5,h⟩:=zd h
 obtain ⟨zu6,h⟩:=ya h
 refine WC.yX (fun i=>[6,14].contains i) [stbp z7C 65 [(8,(.int .i64 z13.fB))]] rfl ?_
 refine WD.a (i:=0) (d:=2) (by kernel_rfl) rfl z2 z6 rfl rfl rfl (fun _=>q_m rfl) ?_
 refine WD.a (i:=1) (d:=3) (by kernel_rfl) rfl z2 z6 rfl rfl rfl (fun _=>q_m rfl) ?_
 refine WD.a (i:=2) (d:=4) (by kernel_rfl) rfl z2 z6 rfl rfl rfl (fun _=>y6 rfl) ?_
 refine WD.a (i:=3) (d:=5) (by kernel_rfl) rfl z2 z6 rfl rfl rfl (fun _=>y4 yo rfl rfl) ?_
 refine WD.a (i:=4) (d:=6) (by kernel_rfl) rfl z2 z6 rfl rfl rfl (fun _=>y4 yS rfl rfl) ?_
 refine WD.e (i:=5) (d:=7) (by kernel_rfl) rfl z2 z6 rfl rfl rfl (y5 yd rfl (yb .here rfl)) ?_
 refine WD.a (i:=7) (d:=9) (by kernel_rfl) rfl z2 z6 rfl rfl rfl (fun _=>q_m rfl) ?_
 refine WD.a (i:=8) (d:=10) (by kernel_rfl) rfl z2 z6 rfl rfl rfl (fun _=>y6 rfl) ?_
 refine WD.a (i:=9) (d:=11) (by kernel_rfl) rfl z2 z6 rfl rfl rfl (fun _=>y4 yo rfl rfl) ?_
 refine WD.a (i:=10) (d:=12) (by kernel_rfl) rfl z2 z6 rfl rfl rfl (fun _=>y4 y14 rfl rfl) ?_
 refine WD.y1u (i:=11) (d:=13) (by kernel_rfl) rfl z2 z6 rfl rfl rfl (Sin.wk (.cons .here .nil) (.stb (.cons rfl .nil) .nil)) (y5 yd rfl (y65 .here (.head _))) ?_
 refine WD.a (i:=12) (d:=14) (by kernel_rfl) rfl z2 z6 rfl rfl rfl (fun _=>y3d Tryd.underlying3 Tryd.underlying5 rfl rfl) ?_
 refine WD.call0 (i:=6) (dd:=8) rfl (by kernel_rfl) rfl rfl rfl (.inl ⟨rfl,(Sin.wk (.cons .h2 .nil) (.stb (.cons rfl .nil) .nil))⟩) (zl (l:=[.tmp 2,.tmp 7]) Tryd.call108 (.cons rfl (.cons rfl .nil))) (.cons .h1 (.cons .h1 .nil)) (ccl hz (.cons .h1 (.cons .h1 .nil)) (.cons .here .nil) fun w pz ho la=>Calls.mono (yr _ _ _ _ _ _ _ _ _ _ _ _ _ _ _ zu5 w pz ((la _ (.head _) _).stb) ho) (fun _ _ h'=>⟨h'.1,trivial,h'.2⟩)) ?_
 intro _
 refine WD.a (i:=13) (d:=15) (by kernel_rfl) rfl z2 z6 rfl rfl rfl (fun _=>y6 rfl) ?_
 refine WD.y1t (i:=14) rfl (by kernel_rfl) rfl rfl rfl (by kernel_rfl) (y1m (l:=([zR.fRegs.a0,zR.fRegs.a1,zR.fRegs.a2,zR.fRegs.a3] : List Int)) (f:=Value.int .u8) (u:=u8 z13.fB) (k:=2) (m:=6) (j:=4) (ds:=[(.int .i64 zR.fPc),(.int .i64 zR.fLeft),(.int .u8 (nth (([zR.fRegs.a0,zR.fRegs.a1,zR.fRegs.a2,zR.fRegs.a3] : List Int).set (z13.fA : Int).toNat (u8 z13.fB)) 0)),(.int .u8 (nth (([zR.fRegs.a0,zR.fRegs.a1,zR.fRegs.a2,zR.fRegs.a3] : List Int).set (z13.fA : Int).toNat (u8 z13.fB)) 1)),(.int .u8 (nth (([zR.fRegs.a0,zR.fRegs.a1,zR.fRegs.a2,zR.fRegs.a3] : List Int).set (z13.fA : Int).toNat (u8 z13.fB)) 2)),(.int .u8 (nth (([zR.fRegs.a0,zR.fRegs.a1,zR.fRegs.a2,zR.fRegs.a3] : List Int).set (z13.fA : Int).toNat (u8 z13.fB)) 3)),(.int .u8 z13.fOp),(.int .i64 z13.fA),(.int .i64 z13.fB),(.int .i64 z13.fC),(.slice z4Y z33.length z4Z),(.int .u8 z7z),(.int .i64 z7A),(.int .i64 z7B),(.slice z50 z34.length z52)]) y2h rfl rfl rfl rfl .h2 rfl rfl zu6 rfl rfl) ?_
 refine WD.done (by kernel_rfl) ?_
 obtain rfl:=Option.some.inj h
 refine WX.y9 Tryd.results85 .nil (fun w hw=>?_)
 exact ⟨yC,hw.sub (.cons .here (.cons .here (.cons .here .nil)))⟩
def y25 (zf : Sproc_State) (zS : Sapi_Ins) (z2H : List Int) (z5N : Int) (z5O : Int) (z5P : Int) (z2I : List Int) : Option (Int × Int × Int × Int) :=
 (yj zf zS z2H z5N z5O z5P z2I zS.fA).bind fun zu7=>chk ((0 : Int) ≤ zS.fA ∧ zS.fA < 4) ((yj zf zS z2H z5N z5O z5P z2I zS.fB).bind fun zu8=>chk ((0 : Int) ≤ zS.fB ∧ zS.fB < 4) (some ((nth (([zf.fRegs.a0,zf.fRegs.a1,zf.fRegs.a2,zf.fRegs.a3] : List Int).set (zS.fA : Int).toNat (u8 ((nth ([zf.fRegs.a0,zf.fRegs.a1,zf.fRegs.a2,zf.fRegs.a3] : List Int) zS.fA) + (nth ([zf.fRegs.a0,zf.fRegs.a1,zf.fRegs.a2,zf.fRegs.a3] : List Int) zS.fB)))) 0),(nth (([zf.fRegs.a0,zf.fRegs.a1,zf.fRegs.a2,zf.fRegs.a3] : List Int).set (zS.fA : Int).toNat (u8 ((nth ([zf.fRegs.a0,zf.fRegs.a1,zf.fRegs.a2,zf.fRegs.a3] : List Int) zS.fA) + (nth ([zf.fRegs.a0,zf.fRegs.a1,zf.fRegs.a2,zf.fRegs.a3] : List Int) zS.fB)))) 1),(nth (([zf.fRegs.a0,zf.fRegs.a1,zf.fRegs.a2,zf.fRegs.a3] : List Int).set (zS.fA : Int).toNat (u8 ((nth ([zf.fRegs.a0,zf.fRegs.a1,zf.fRegs.a2,zf.fRegs.a3] : List Int) zS.fA) + (nth ([zf.fRegs.a0,zf.fRegs.a1,zf.fRegs.a2,zf.fRegs.a3] : List Int) zS.fB)))) 2),(nth (([zf.fRegs.a0,zf.fRegs.a1,zf.fRegs.a2,zf.fRegs.a3] : List Int).set (zS.fA : Int).toNat (u8 ((nth ([zf.fRegs.a0,zf.fRegs.a1,zf.fRegs.a2,zf.fRegs.a3] : List Int) zS.fA) + (nth ([zf.fRegs.a0,zf.fRegs.a1,zf.fRegs.a2,zf.fRegs.a3] : List Int) zS.fB)))) 3))))
set_option maxRecDepth 20000 in
theorem y5g (Z : Zp) (z7D : Nat) (z4F : Option Addr) (z4G : Nat) (z4H : Option Addr) (z4I : Nat) (zf : Sproc_State) (zS : Sapi_Ins) (z2H : List Int) (z5N : Int) (z5O : Int) (z5P : Int) (z2I : List Int) (r : Int × Int × Int × Int)
  (h : y25 zf zS z2H z5N z5O z5P z2I = some r) (w₀ : World) (hz : PZ (fps [stb z7D 65 [(.int .i64 zf.fPc),(.int .i64 zf.fLeft),(.int .u8 zf.fRegs.a0),(.int .u8 zf.fRegs.a1),(.int .u8 zf.fRegs.a2),(.int .u8 zf.fRegs.a3),(.int .u8 zS.fOp),(.int .i64 zS.fA),(.int .i64 zS.fB),(.int .i64 zS.fC),(.slice z4F z2H.length z4G),(.int .u8 z5N),(.int .i64 z5O),(.int .i64 z5P),(.slice z4H z2I.length z4I)],row (.slice z4F z2H.length z4G) 5 1 (z2H.flatMap e5),row (.slice z4H z2I.length z4I) 5 1 (z2I.flatMap e5)]) w₀ Z)
  (hown : Hp (fps [stb z7D 65 [(.int .i64 zf.fPc),(.int .i64 zf.fLeft),(.int .u8 zf.fRegs.a0),(.int .u8 zf.fRegs.a1),(.int .u8 zf.fRegs.a2),(.int .u8 zf.fRegs.a3),(.int .u8 zS.fOp),(.int .i64 zS.fA),(.int .i64 zS.fB),(.int .i64 zS.fC),(.slice z4F z2H.length z4G),(.int .u8 z5N),(.int .i64 z5O),(.int .i64 z5P),(.slice z4H z2I.length z4I)],row (.slice z4F z2H.length z4G) 5 1 (z2H.flatMap e5),row (.slice z4H z2I.length z4I) 5 1 (z2I.flatMap e5)]) w₀ w₀ [stb z7D 65 [(.int .i64 zf.fPc),(.int .i64 zf.fLeft),(.int .u8 zf.fRegs.a0),(.int .u8 zf.fRegs.a1),(.int .u8 zf.fRegs.a2),(.int .u8 zf.fRegs.a3),(.int .u8 zS.fOp),(.int .i64 zS.fA),(.int .i64 zS.fB),(.int .i64 zS.fC),(.slice z4F z2H.length z4G),(.int .u8 z5N),(.int .i64 z5O),(.int .i64 z5P),(.slice z4H z2I.length z4I)],row (.slice z4F z2H.length z4G) 5 1 (z2H.flatMap e5),row (.slice z4H z2I.length z4I) 5 1 (z2I.flatMap e5)]) :
  Calls Tryd.prog 82 #[(.pointer (some ⟨z7D,0,none⟩))] w₀ fun e w'=>e = .returned (.tuple #[]) ∧ Hp (fps [stb z7D 65 [(.int .i64 zf.fPc),(.int .i64 zf.fLeft),(.int .u8 zf.fRegs.a0),(.int .u8 zf.fRegs.a1),(.int .u8 zf.fRegs.a2),(.int .u8 zf.fRegs.a3),(.int .u8 zS.fOp),(.int .i64 zS.fA),(.int .i64 zS.fB),(.int .i64 zS.fC),(.slice z4F z2H.length z4G),(.int .u8 z5N),(.int .i64 z5O),(.int .i64 z5P),(.slice z4H z2I.length z4I)],row (.slice z4F z2H.length z4G) 5 1 (z2H.flatMap e5),row (.slice z4H z2I.length z4I) 5 1 (z2I.flatMap e5)]) w₀ w' [stb z7D 65 [(.int .i64 zf.fPc),(.int .i64 zf.fLeft),(.int .u8 r.1),(.int .u8 r.2.1),(.int .u8 r.2.2.1),(.int .u8 r.2.2.2),(.int .u8 zS.fOp),(.int .i64 zS.fA),(.int .i64 zS.fB),(.int .i64 zS.fC),(.slice z4F z2H.length z4G),(.int .u8 z5N),(.int .i64 z5O),(.int .i64 z5P),(.slice z4H z2I.length z4I)],row (.slice z4F z2H.length z4G) 5 1 (z2H.flatMap e5),row (.slice z4H z2I.length z4I) 5 1 (z2I.flatMap e5)]:=by
 unfold y25 at h
 refine Calls.y8 (vs:=[(.pointer (some ⟨z7D,0,none⟩))]) (pre:=[stb z7D 65 [(.int .i64 zf.fPc),(.int .i64 zf.fLeft),(.int .u8 zf.fRegs.a0),(.int .u8 zf.fRegs.a1),(.int .u8 zf.fRegs.a2),(.int .u8 zf.fRegs.a3),(.int .u8 zS.fOp),(.int .i64 zS.fA),(.int .i64 zS.fB),(.int .i64 zS.fC),(.slice z4F z2H.length z4G),(.int .u8 z5N),(.int .i64 z5O),(.int .i64 z5P),(.slice z4H z2I.length z4I)],row (.slice z4F z2H.length z4G) 5 1 (z2H.flatMap e5),row (.slice z4H z2I.length z4I) 5 1 (z2I.flatMap e5)]) (env:=[(0,(.pointer (some ⟨z7D,0,none⟩)))]) Tryd.func82 rfl Tryd.ntmps82 rfl (hown) rfl ?_
 obtain ⟨zu7,zu9,h⟩:=zd h
 obtain ⟨zkI,h⟩:=ya h
 obtain ⟨zu8,zua,h⟩:=zd h
 obtain ⟨zub,h⟩:=ya h
 refine WC.yX (fun i=>[6,15,20].contains i) [stb z7D 65 [(.int .i64 zf.fPc),(.int .i64 zf.fLeft),(.int .u8 zf.fRegs.a0),(.int .u8 zf.fRegs.a1),(.int .u8 zf.fRegs.a2),(.int .u8 zf.fRegs.a3),(.int .u8 zS.fOp),(.int .i64 zS.fA),(.int .i64 zS.fB),(.int .i64 zS.fC),(.slice z4F z2H.length z4G),(.int .u8 z5N),(.int .i64 z5O),(.int .i64 z5P),(.slice z4H z2I.length z4I)]] rfl ?_
 refine WD.a (i:=0) (d:=2) (by kernel_rfl) rfl z2 z6 rfl rfl rfl (fun _=>q_m rfl) ?_
 refine WD.a (i:=1) (d:=3) (by kernel_rfl) rfl z2 z6 rfl rfl rfl (fun _=>q_m rfl) ?_
 refine WD.a (i:=2) (d:=4) (by kernel_rfl) rfl z2 z6 rfl rfl rfl (fun _=>y6 rfl) ?_
 refine WD.a (i:=3) (d:=5) (by kernel_rfl) rfl z2 z6 rfl rfl rfl (fun _=>y4 yo rfl rfl) ?_
 refine WD.a (i:=4) (d:=6) (by kernel_rfl) rfl z2 z6 rfl rfl rfl (fun _=>y4 yS rfl rfl) ?_
 refine WD.e (i:=5) (d:=7) (by kernel_rfl) rfl z2 z6 rfl rfl rfl (y5 yd rfl (yb .here rfl)) ?_
 refine WD.a (i:=9) (d:=11) (by kernel_rfl) rfl z2 z6 rfl rfl rfl (fun _=>q_m rfl) ?_
 refine WD.a (i:=10) (d:=12) (by kernel_rfl) rfl z2 z6 rfl rfl rfl (fun _=>q_m rfl) ?_
 refine WD.a (i:=11) (d:=13) (by kernel_rfl) rfl z2 z6 rfl rfl rfl (fun _=>y6 rfl) ?_
 refine WD.a (i:=12) (d:=14) (by kernel_rfl) rfl z2 z6 rfl rfl rfl (fun _=>y4 yo rfl rfl) ?_
 refine WD.a (i:=13) (d:=15) (by kernel_rfl) rfl z2 z6 rfl rfl rfl (fun _=>y4 y14 rfl rfl) ?_
 refine WD.y1u (i:=14) (d:=16) (by kernel_rfl) rfl z2 z6 rfl rfl rfl (Sin.of (.cons .here .nil)) (y5 yd rfl (yb .here rfl)) ?_
 refine WD.call0 (i:=6) (dd:=8) rfl (by kernel_rfl) rfl rfl rfl (.inl ⟨rfl,(Sin.of (.cons .h2 .nil))⟩) (zl (l:=[.tmp 2,.tmp 7]) Tryd.call108 (.cons rfl (.cons rfl .nil))) (.cons .h1 (.cons .h1 .nil)) (ccl hz (.cons .h1 (.cons .h1 .nil)) (.cons .here .nil) fun w pz ho la=>Calls.mono (yr _ _ _ _ _ _ _ _ _ _ _ _ _ _ _ zu9 w pz ((la _ (.head _) _).stb) ho) (fun _ _ h'=>⟨h'.1,trivial,h'.2⟩)) ?_
 intro _
 refine WD.a (i:=7) (d:=9) (by kernel_rfl) rfl z2 z6 rfl rfl rfl (fun _=>y6 rfl) ?_
 refine WD.y1u (i:=8) (d:=10) (by kernel_rfl) rfl z2 z6 rfl rfl rfl (Sin.of (.cons .h2 .nil)) (y5 yB rfl (yZ (l:=([zf.fRegs.a0,zf.fRegs.a1,zf.fRegs.a2,zf.fRegs.a3] : List Int)) (f:=Value.int .u8) (k:=2) (m:=6) .here rfl rfl zkI)) ?_
 refine WD.call0 (i:=15) (dd:=17) rfl (by kernel_rfl) rfl rfl rfl (.inl ⟨rfl,(Sin.of (.cons .h2 .nil))⟩) (zl (l:=[.tmp 11,.tmp 16]) Tryd.call108 (.cons rfl (.cons rfl .nil))) (.cons .here (.cons .here .nil)) (ccl hz (.cons .here (.cons .here .nil)) (.cons .here .nil) fun w pz ho la=>Calls.mono (yr _ _ _ _ _ _ _ _ _ _ _ _ _ _ _ zua w pz ((la _ (.head _) _).stb) ho) (fun _ _ h'=>⟨h'.1,trivial,h'.2⟩)) ?_
 intro _
 refine WD.a (i:=16) (d:=18) (by kernel_rfl) rfl z2 z6 rfl rfl rfl (fun _=>y6 rfl) ?_
 refine WD.e (i:=17) (d:=19) (by kernel_rfl) rfl z2 z6 rfl rfl rfl (y5 yB rfl (yZ (l:=([zf.fRegs.a0,zf.fRegs.a1,zf.fRegs.a2,zf.fRegs.a3] : List Int)) (f:=Value.int .u8) (k:=2) (m:=6) .h2 rfl rfl zub)) ?_
 refine WD.a (i:=18) (d:=20) (by kernel_rfl) rfl z2 z6 rfl rfl rfl (fun _=>y4v rfl rfl rfl) ?_
 refine WD.a (i:=19) (d:=21) (by kernel_rfl) rfl z2 z6 rfl rfl rfl (fun _=>y6 rfl) ?_
 refine WD.y1t (i:=20) rfl (by kernel_rfl) rfl rfl rfl (by kernel_rfl) (y1m (l:=([zf.fRegs.a0,zf.fRegs.a1,zf.fRegs.a2,zf.fRegs.a3] : List Int)) (f:=Value.int .u8) (u:=u8 ((nth ([zf.fRegs.a0,zf.fRegs.a1,zf.fRegs.a2,zf.fRegs.a3] : List Int) zS.fA) + (nth ([zf.fRegs.a0,zf.fRegs.a1,zf.fRegs.a2,zf.fRegs.a3] : List Int) zS.fB))) (k:=2) (m:=6) (j:=4) (ds:=[(.int .i64 zf.fPc),(.int .i64 zf.fLeft),(.int .u8 (nth (([zf.fRegs.a0,zf.fRegs.a1,zf.fRegs.a2,zf.fRegs.a3] : List Int).set (zS.fA : Int).toNat (u8 ((nth ([zf.fRegs.a0,zf.fRegs.a1,zf.fRegs.a2,zf.fRegs.a3] : List Int) zS.fA) + (nth ([zf.fRegs.a0,zf.fRegs.a1,zf.fRegs.a2,zf.fRegs.a3] : List Int) zS.fB)))) 0)),(.int .u8 (nth (([zf.fRegs.a0,zf.fRegs.a1,zf.fRegs.a2,zf.fRegs.a3] : List Int).set (zS.fA : Int).toNat (u8 ((nth ([zf.fRegs.a0,zf.fRegs.a1,zf.fRegs.a2,zf.fRegs.a3] : List Int) zS.fA) + (nth ([zf.fRegs.a0,zf.fRegs.a1,zf.fRegs.a2,zf.fRegs.a3] : List Int) zS.fB)))) 1)),(.int .u8 (nth (([zf.fRegs.a0,zf.fRegs.a1,zf.fRegs.a2,zf.fRegs.a3] : List Int).set (zS.fA : Int).toNat (u8 ((nth ([zf.fRegs.a0,zf.fRegs.a1,zf.fRegs.a2,zf.fRegs.a3] : List Int) zS.fA) + (nth ([zf.fRegs.a0,zf.fRegs.a1,zf.fRegs.a2,zf.fRegs.a3] : List Int) zS.fB)))) 2)),(.int .u8 (nth (([zf.fRegs.a0,zf.fRegs.a1,zf.fRegs.a2,zf.fRegs.a3] : List Int).set (zS.fA : Int).toNat (u8 ((nth ([zf.fRegs.a0,zf.fRegs.a1,zf.fRegs.a2,zf.fRegs.a3] : List Int) zS.fA) + (nth ([zf.fRegs.a0,zf.fRegs.a1,zf.fRegs.a2,zf.fRegs.a3] : List Int) zS.fB)))) 3)),(.int .u8 zS.fOp),(.int .i64 zS.fA),(.int .i64 zS.fB),(.int .i64 zS.fC),(.slice z4F z2H.length z4G),(.int .u8 z5N),(.int .i64 z5O),(.int .i64 z5P),(.slice z4H z2I.length z4I)]) y2h rfl rfl rfl rfl .h2 rfl rfl zkI rfl rfl) ?_
 refine WD.done (by kernel_rfl) ?_
 obtain rfl:=Option.some.inj h
 refine WX.y9 Tryd.results82 .nil (fun w hw=>?_)
 exact ⟨yC,hw.sub (.cons .here (.cons .here (.cons .here .nil)))⟩
def y26 (zg : Sproc_State) (zT : Sapi_Ins) (z2J : List Int) (z5Q : Int) (z5R : Int) (z5S : Int) (z2K : List Int) : Option (Int × Int × Int × Int) :=
 (yj zg zT z2J z5Q z5R z5S z2K zT.fA).bind fun zuc=>chk ((0 : Int) ≤ zT.fA ∧ zT.fA < 4) ((yj zg zT z2J z5Q z5R z5S z2K zT.fB).bind fun zud=>chk ((0 : Int) ≤ zT.fB ∧ zT.fB < 4) (some ((nth (([zg.fRegs.a0,zg.fRegs.a1,zg.fRegs.a2,zg.fRegs.a3] : List Int).set (zT.fA : Int).toNat (u8 ((nth ([zg.fRegs.a0,zg.fRegs.a1,zg.fRegs.a2,zg.fRegs.a3] : List Int) zT.fA) - (nth ([zg.fRegs.a0,zg.fRegs.a1,zg.fRegs.a2,zg.fRegs.a3] : List Int) zT.fB)))) 0),(nth (([zg.fRegs.a0,zg.fRegs.a1,zg.fRegs.a2,zg.fRegs.a3] : List Int).set (zT.fA : Int).toNat (u8 ((nth ([zg.fRegs.a0,zg.fRegs.a1,zg.fRegs.a2,zg.fRegs.a3] : List Int) zT.fA) - (nth ([zg.fRegs.a0,zg.fRegs.a1,zg.fRegs.a2,zg.fRegs.a3] : List Int) zT.fB)))) 1),(nth (([zg.fRegs.a0,zg.fRegs.a1,zg.fRegs.a2,zg.fRegs.a3] : List Int).set (zT.fA : Int).toNat (u8 ((nth ([zg.fRegs.a0,zg.fRegs.a1,zg.fRegs.a2,zg.fRegs.a3] : List Int) zT.fA) - (nth ([zg.fRegs.a0,zg.fRegs.a1,zg.fRegs.a2,zg.fRegs.a3] : List Int) zT.fB)))) 2),(nth (([zg.fRegs.a0,zg.fRegs.a1,zg.fRegs.a2,zg.fRegs.a3] : List Int).set (zT.fA : Int).toNat (u8 ((nth ([zg.fRegs.a0,zg.fRegs.a1,zg.fRegs.a2,zg.fRegs.a3] : List Int) zT.fA) - (nth ([zg.fRegs.a0,zg.fRegs.a1,zg.fRegs.a2,zg.fRegs.a3] : List Int) zT.fB)))) 3))))
set_option maxRecDepth 20000 in
theorem y5h (Z : Zp) (z7E : Nat) (z4J : Option Addr) (z4K : Nat) (z4L : Option Addr) (z4M : Nat) (zg : Sproc_State) (zT : Sapi_Ins) (z2J : List Int) (z5Q : Int) (z5R : Int) (z5S : Int) (z2K : List Int) (r : Int × Int × Int × Int)
  (h : y26 zg zT z2J z5Q z5R z5S z2K = some r) (w₀ : World) (hz : PZ (fps [stb z7E 65 [(.int .i64 zg.fPc),(.int .i64 zg.fLeft),(.int .u8 zg.fRegs.a0),(.int .u8 zg.fRegs.a1),(.int .u8 zg.fRegs.a2),(.int .u8 zg.fRegs.a3),(.int .u8 zT.fOp),(.int .i64 zT.fA),(.int .i64 zT.fB),(.int .i64 zT.fC),(.slice z4J z2J.length z4K),(.int .u8 z5Q),(.int .i64 z5R),(.int .i64 z5S),(.slice z4L z2K.length z4M)],row (.slice z4J z2J.length z4K) 5 1 (z2J.flatMap e5),row (.slice z4L z2K.length z4M) 5 1 (z2K.flatMap e5)]) w₀ Z)
  (hown : Hp (fps [stb z7E 65 [(.int .i64 zg.fPc),(.int .i64 zg.fLeft),(.int .u8 zg.fRegs.a0),(.int .u8 zg.fRegs.a1),(.int .u8 zg.fRegs.a2),(.int .u8 zg.fRegs.a3),(.int .u8 zT.fOp),(.int .i64 zT.fA),(.int .i64 zT.fB),(.int .i64 zT.fC),(.slice z4J z2J.length z4K),(.int .u8 z5Q),(.int .i64 z5R),(.int .i64 z5S),(.slice z4L z2K.length z4M)],row (.slice z4J z2J.length z4K) 5 1 (z2J.flatMap e5),row (.slice z4L z2K.length z4M) 5 1 (z2K.flatMap e5)]) w₀ w₀ [stb z7E 65 [(.int .i64 zg.fPc),(.int .i64 zg.fLeft),(.int .u8 zg.fRegs.a0),(.int .u8 zg.fRegs.a1),(.int .u8 zg.fRegs.a2),(.int .u8 zg.fRegs.a3),(.int .u8 zT.fOp),(.int .i64 zT.fA),(.int .i64 zT.fB),(.int .i64 zT.fC),(.slice z4J z2J.length z4K),(.int .u8 z5Q),(.int .i64 z5R),(.int .i64 z5S),(.slice z4L z2K.length z4M)],row (.slice z4J z2J.length z4K) 5 1 (z2J.flatMap e5),row (.slice z4L z2K.length z4M) 5 1 (z2K.flatMap e5)]) :
  Calls Tryd.prog 86 #[(.pointer (some ⟨z7E,0,none⟩))] w₀ fun e w'=>e = .returned (.tuple #[]) ∧ Hp (fps [stb z7E 65 [(.int .i64 zg.fPc),(.int .i64 zg.fLeft),(.int .u8 zg.fRegs.a0),(.int .u8 zg.fRegs.a1),(.int .u8 zg.fRegs.a2),(.int .u8 zg.fRegs.a3),(.int .u8 zT.fOp),(.int .i64 zT.fA),(.int .i64 zT.fB),(.int .i64 zT.fC),(.slice z4J z2J.length z4K),(.int .u8 z5Q),(.int .i64 z5R),(.int .i64 z5S),(.slice z4L z2K.length z4M)],row (.slice z4J z2J.length z4K) 5 1 (z2J.flatMap e5),row (.slice z4L z2K.length z4M) 5 1 (z2K.flatMap e5)]) w₀ w' [stb z7E 65 [(.int .i64 zg.fPc),(.int .i64 zg.fLeft),(.int .u8 r.1),(.int .u8 r.2.1),(.int .u8 r.2.2.1),(.int .u8 r.2.2.2),(.int .u8 zT.fOp),(.int .i64 zT.fA),(.int .i64 zT.fB),(.int .i64 zT.fC),(.slice z4J z2J.length z4K),(.int .u8 z5Q),(.int .i64 z5R),(.int .i64 z5S),(.slice z4L z2K.length z4M)],row (.slice z4J z2J.length z4K) 5 1 (z2J.flatMap e5),row (.slice z4L z2K.length z4M) 5 1 (z2K.flatMap e5)]:=by
 unfold y26 at h
 refine Calls.y8 (vs:=[(.pointer (some ⟨z7E,0,none⟩))]) (pre:=[stb z7E 65 [(.int .i64 zg.fPc),(.int .i64 zg.fLeft),(.int .u8 zg.fRegs.a0),(.int .u8 zg.fRegs.a1),(.int .u8 zg.fRegs.a2),(.int .u8 zg.fRegs.a3),(.int .u8 zT.fOp),(.int .i64 zT.fA),(.int .i64 zT.fB),(.int .i64 zT.fC),(.slice z4J z2J.length z4K),(.int .u8 z5Q),(.int .i64 z5R),(.int .i64 z5S),(.slice z4L z2K.length z4M)],row (.slice z4J z2J.length z4K) 5 1 (z2J.flatMap e5),row (.slice z4L z2K.length z4M) 5 1 (z2K.flatMap e5)]) (env:=[(0,(.pointer (some ⟨z7E,0,none⟩)))]) Tryd.func86 rfl Tryd.ntmps86 rfl (hown) rfl ?_
 obtain ⟨zuc,zue,h⟩:=zd h
 obtain ⟨zkJ,h⟩:=ya h
 obtain ⟨zud,zuf,h⟩:=zd h
 obtain ⟨zug,h⟩:=ya h
 refine WC.yX (fun i=>[6,15,20].contains i) [stb z7E 65 [(.int .i64 zg.fPc),(.int .i64 zg.fLeft),(.int .u8 zg.fRegs.a0),(.int .u8 zg.fRegs.a1),(.int .u8 zg.fRegs.a2),(.int .u8 zg.fRegs.a3),(.int .u8 zT.fOp),(.int .i64 zT.fA),(.int .i64 zT.fB),(.int .i64 zT.fC),(.slice z4J z2J.length z4K),(.int .u8 z5Q),(.int .i64 z5R),(.int .i64 z5S),(.slice z4L z2K.length z4M)]] rfl ?_
 refine WD.a (i:=0) (d:=2) (by kernel_rfl) rfl z2 z6 rfl rfl rfl (fun _=>q_m rfl) ?_
 refine WD.a (i:=1) (d:=3) (by kernel_rfl) rfl z2 z6 rfl rfl rfl (fun _=>q_m rfl) ?_
 refine WD.a (i:=2) (d:=4) (by kernel_rfl) rfl z2 z6 rfl rfl rfl (fun _=>y6 rfl) ?_
 refine WD.a (i:=3) (d:=5) (by kernel_rfl) rfl z2 z6 rfl rfl rfl (fun _=>y4 yo rfl rfl) ?_
 refine WD.a (i:=4) (d:=6) (by kernel_rfl) rfl z2 z6 rfl rfl rfl (fun _=>y4 yS rfl rfl) ?_
 refine WD.e (i:=5) (d:=7) (by kernel_rfl) rfl z2 z6 rfl rfl rfl (y5 yd rfl (yb .here rfl)) ?_
 refine WD.a (i:=9) (d:=11) (by kernel_rfl) rfl z2 z6 rfl rfl rfl (fun _=>q_m rfl) ?_
 refine WD.a (i:=10) (d:=12) (by kernel_rfl) rfl z2 z6 rfl rfl rfl (fun _=>q_m rfl) ?_
 refine WD.a (i:=11) (d:=13) (by kernel_rfl) rfl z2 z6 rfl rfl rfl (fun _=>y6 rfl) ?_
 refine WD.a (i:=12) (d:=14) (by kernel_rfl) rfl z2 z6 rfl rfl rfl (fun _=>y4 yo rfl rfl) ?_
 refine WD.a (i:=13) (d:=15) (by kernel_rfl) rfl z2 z6 rfl rfl rfl (fun _=>y4 y14 rfl rfl) ?_
 refine WD.y1u (i:=14) (d:=16) (by kernel_rfl) rfl z2 z6 rfl rfl rfl (Sin.of (.cons .here .nil)) (y5 yd rfl (yb .here rfl)) ?_
 refine WD.call0 (i:=6) (dd:=8) rfl (by kernel_rfl) rfl rfl rfl (.inl ⟨rfl,(Sin.of (.cons .h2 .nil))⟩) (zl (l:=[.tmp 2,.tmp 7]) Tryd.call108 (.cons rfl (.cons rfl .nil))) (.cons .h1 (.cons .h1 .nil)) (ccl hz (.cons .h1 (.cons .h1 .nil)) (.cons .here .nil) fun w pz ho la=>Calls.mono (yr _ _ _ _ _ _ _ _ _ _ _ _ _ _ _ zue w pz ((la _ (.head _) _).stb) ho) (fun _ _ h'=>⟨h'.1,trivial,h'.2⟩)) ?_
 intro _
 refine WD.a (i:=7) (d:=9) (by kernel_rfl) rfl z2 z6 rfl rfl rfl (fun _=>y6 rfl) ?_
 refine WD.y1u (i:=8) (d:=10) (by kernel_rfl) rfl z2 z6 rfl rfl rfl (Sin.of (.cons .h2 .nil)) (y5 yB rfl (yZ (l:=([zg.fRegs.a0,zg.fRegs.a1,zg.fRegs.a2,zg.fRegs.a3] : List Int)) (f:=Value.int .u8) (k:=2) (m:=6) .here rfl rfl zkJ)) ?_
 refine WD.call0 (i:=15) (dd:=17) rfl (by kernel_rfl) rfl rfl rfl (.inl ⟨rfl,(Sin.of (.cons .h2 .nil))⟩) (zl (l:=[.tmp 11,.tmp 16]) Tryd.call108 (.cons rfl (.cons rfl .nil))) (.cons .here (.cons .here .nil)) (ccl hz (.cons .here (.cons .here .nil)) (.cons .here .nil) fun w pz ho la=>Calls.mono (yr _ _ _ _ _ _ _ _ _ _ _ _ _ _ _ zuf w pz ((la _ (.head _) _).stb) ho) (fun _ _ h'=>⟨h'.1,trivial,h'.2⟩)) ?_
 intro _
 refine WD.a (i:=16) (d:=18) (by kernel_rfl) rfl z2 z6 rfl rfl rfl (fun _=>y6 rfl) ?_
 refine WD.e (i:=17) (d:=19) (by kernel_rfl) rfl z2 z6 rfl rfl rfl (y5 yB rfl (yZ (l:=([zg.fRegs.a0,zg.fRegs.a1,zg.fRegs.a2,zg.fRegs.a3] : List Int)) (f:=Value.int .u8) (k:=2) (m:=6) .h2 rfl rfl zug)) ?_
 refine WD.a (i:=18) (d:=20) (by kernel_rfl) rfl z2 z6 rfl rfl rfl (fun _=>y6t rfl rfl rfl) ?_
 refine WD.a (i:=19) (d:=21) (by kernel_rfl) rfl z2 z6 rfl rfl rfl (fun _=>y6 rfl) ?_
 refine WD.y1t (i:=20) rfl (by kernel_rfl) rfl rfl rfl (by kernel_rfl) (y1m (l:=([zg.fRegs.a0,zg.fRegs.a1,zg.fRegs.a2,zg.fRegs.a3] : List Int)) (f:=Value.int .u8) (u:=u8 ((nth ([zg.fRegs.a0,zg.fRegs.a1,zg.fRegs.a2,zg.fRegs.a3] : List Int) zT.fA) - (nth ([zg.fRegs.a0,zg.fRegs.a1,zg.fRegs.a2,zg.fRegs.a3] : List Int) zT.fB))) (k:=2) (m:=6) (j:=4) (ds:=[(.int .i64 zg.fPc),(.int .i64 zg.fLeft),(.int .u8 (nth (([zg.fRegs.a0,zg.fRegs.a1,zg.fRegs.a2,zg.fRegs.a3] : List Int).set (zT.fA : Int).toNat (u8 ((nth ([zg.fRegs.a0,zg.fRegs.a1,zg.fRegs.a2,zg.fRegs.a3] : List Int) zT.fA) - (nth ([zg.fRegs.a0,zg.fRegs.a1,zg.fRegs.a2,zg.fRegs.a3] : List Int) zT.fB)))) 0)),(.int .u8 (nth (([zg.fRegs.a0,zg.fRegs.a1,zg.fRegs.a2,zg.fRegs.a3] : List Int).set (zT.fA : Int).toNat (u8 ((nth ([zg.fRegs.a0,zg.fRegs.a1,zg.fRegs.a2,zg.fRegs.a3] : List Int) zT.fA) - (nth ([zg.fRegs.a0,zg.fRegs.a1,zg.fRegs.a2,zg.fRegs.a3] : List Int) zT.fB)))) 1)),(.int .u8 (nth (([zg.fRegs.a0,zg.fRegs.a1,zg.fRegs.a2,zg.fRegs.a3] : List Int).set (zT.fA : Int).toNat (u8 ((nth ([zg.fRegs.a0,zg.fRegs.a1,zg.fRegs.a2,zg.fRegs.a3] : List Int) zT.fA) - (nth ([zg.fRegs.a0,zg.fRegs.a1,zg.fRegs.a2,zg.fRegs.a3] : List Int) zT.fB)))) 2)),(.int .u8 (nth (([zg.fRegs.a0,zg.fRegs.a1,zg.fRegs.a2,zg.fRegs.a3] : List Int).set (zT.fA : Int).toNat (u8 ((nth ([zg.fRegs.a0,zg.fRegs.a1,zg.fRegs.a2,zg.fRegs.a3] : List Int) zT.fA) - (nth ([zg.fRegs.a0,zg.fRegs.a1,zg.fRegs.a2,zg.fRegs.a3] : List Int) zT.fB)))) 3)),(.int .u8 zT.fOp),(.int .i64 zT.fA),(.int .i64 zT.fB),(.int .i64 zT.fC),(.slice z4J z2J.length z4K),(.int .u8 z5Q),(.int .i64 z5R),(.int .i64 z5S),(.slice z4L z2K.length z4M)]) y2h rfl rfl rfl rfl .h2 rfl rfl zkJ rfl rfl) ?_
 refine WD.done (by kernel_rfl) ?_
 obtain rfl:=Option.some.inj h
 refine WX.y9 Tryd.results86 .nil (fun w hw=>?_)
 exact ⟨yC,hw.sub (.cons .here (.cons .here (.cons .here .nil)))⟩
def yM (z1c : Sproc_State) (z2c : Sapi_Ins) (z3h : List Int) (zbW : Int) (zbX : Int) (zbY : Int) (z41 : List Int) (zaA : Int) (zaB : Int) : Option (Int × Int) :=
 some ((i64 zaA),zaB)
set_option maxRecDepth 20000 in
theorem y2B (Z : Zp) (z94 : Nat) (z54 : Option Addr) (z55 : Nat) (z6H : Option Addr) (z6I : Nat) (z1c : Sproc_State) (z2c : Sapi_Ins) (z3h : List Int) (zbW : Int) (zbX : Int) (zbY : Int) (z41 : List Int) (zaA : Int) (zaB : Int) (r : Int × Int)
  (h : yM z1c z2c z3h zbW zbX zbY z41 zaA zaB = some r) (w₀ : World) (hz : PZ (fps [stb z94 65 [(.int .i64 z1c.fPc),(.int .i64 z1c.fLeft),(.int .u8 z1c.fRegs.a0),(.int .u8 z1c.fRegs.a1),(.int .u8 z1c.fRegs.a2),(.int .u8 z1c.fRegs.a3),(.int .u8 z2c.fOp),(.int .i64 z2c.fA),(.int .i64 z2c.fB),(.int .i64 z2c.fC),(.slice z54 z3h.length z55),(.int .u8 zbW),(.int .i64 zbX),(.int .i64 zbY),(.slice z6H z41.length z6I)],row (.slice z54 z3h.length z55) 5 1 (z3h.flatMap e5),row (.slice z6H z41.length z6I) 5 1 (z41.flatMap e5)]) w₀ Z)
  (hown : Hp (fps [stb z94 65 [(.int .i64 z1c.fPc),(.int .i64 z1c.fLeft),(.int .u8 z1c.fRegs.a0),(.int .u8 z1c.fRegs.a1),(.int .u8 z1c.fRegs.a2),(.int .u8 z1c.fRegs.a3),(.int .u8 z2c.fOp),(.int .i64 z2c.fA),(.int .i64 z2c.fB),(.int .i64 z2c.fC),(.slice z54 z3h.length z55),(.int .u8 zbW),(.int .i64 zbX),(.int .i64 zbY),(.slice z6H z41.length z6I)],row (.slice z54 z3h.length z55) 5 1 (z3h.flatMap e5),row (.slice z6H z41.length z6I) 5 1 (z41.flatMap e5)]) w₀ w₀ [stb z94 65 [(.int .i64 z1c.fPc),(.int .i64 z1c.fLeft),(.int .u8 z1c.fRegs.a0),(.int .u8 z1c.fRegs.a1),(.int .u8 z1c.fRegs.a2),(.int .u8 z1c.fRegs.a3),(.int .u8 z2c.fOp),(.int .i64 z2c.fA),(.int .i64 z2c.fB),(.int .i64 z2c.fC),(.slice z54 z3h.length z55),(.int .u8 zbW),(.int .i64 zbX),(.int .i64 zbY),(.slice z6H z41.length z6I)],row (.slice z54 z3h.length z55) 5 1 (z3h.flatMap e5),row (.slice z6H z41.length z6I) 5 1 (z41.flatMap e5)]) :
  Calls Tryd.prog 112 #[(.pointer (some ⟨z94,0,none⟩)),(.int .u8 zaA),(.int .i64 zaB)] w₀ fun e w'=>e = .returned (.tuple #[]) ∧ Hp (fps [stb z94 65 [(.int .i64 z1c.fPc),(.int .i64 z1c.fLeft),(.int .u8 z1c.fRegs.a0),(.int .u8 z1c.fRegs.a1),(.int .u8 z1c.fRegs.a2),(.int .u8 z1c.fRegs.a3),(.int .u8 z2c.fOp),(.int .i64 z2c.fA),(.int .i64 z2c.fB),(.int .i64 z2c.fC),(.slice z54 z3h.length z55),(.int .u8 zbW),(.int .i64 zbX),(.int .i64 zbY),(.slice z6H z41.length z6I)],row (.slice z54 z3h.length z55) 5 1 (z3h.flatMap e5),row (.slice z6H z41.length z6I) 5 1 (z41.flatMap e5)]) w₀ w' [stb z94 65 [(.int .i64 z1c.fPc),(.int .i64 z1c.fLeft),(.int .u8 z1c.fRegs.a0),(.int .u8 z1c.fRegs.a1),(.int .u8 z1c.fRegs.a2),(.int .u8 z1c.fRegs.a3),(.int .u8 z2c.fOp),(.int .i64 z2c.fA),(.int .i64 z2c.fB),(.int .i64 z2c.fC),(.slice z54 z3h.length z55),(.int .u8 15),(.int .i64 r.1),(.int .i64 r.2),(.slice none 0 0)],row (.slice z54 z3h.length z55) 5 1 (z3h.flatMap e5),row (.slice z6H z41.length z6I) 5 1 (z41.flatMap e5)]:=by
 unfold yM at h
 refine Calls.y8 (vs:=[(.pointer (some ⟨z94,0,none⟩)),(.int .u8 zaA),(.int .i64 zaB)]) (pre:=[stb z94 65 [(.int .i64 z1c.fPc),(.int .i64 z1c.fLeft),(.int .u8 z1c.fRegs.a0),(.int .u8 z1c.fRegs.a1),(.int .u8 z1c.fRegs.a2),(.int .u8 z1c.fRegs.a3),(.int .u8 z2c.fOp),(.int .i64 z2c.fA),(.int .i64 z2c.fB),(.int .i64 z2c.fC),(.slice z54 z3h.length z55),(.int .u8 zbW),(.int .i64 zbX),(.int .i64 zbY),(.slice z6H z41.length z6I)],row (.slice z54 z3h.length z55) 5 1 (z3h.flatMap e5),row (.slice z6H z41.length z6I) 5 1 (z41.flatMap e5)]) (env:=[(0,(.pointer (some ⟨z94,0,none⟩))),(1,(.int .u8 zaA)),(2,(.int .i64 zaB))]) Tryd.func112 rfl Tryd.ntmps112 rfl (hown) rfl ?_
 refine WC.a (WL.pu rfl (WL.pu rfl ?_))
 refine WL.a (d:=8) rfl rfl rfl (y3d Tryd.underlying5 Tryd.underlying3 rfl rfl) ?_
 refine WL.pu rfl ?_
 refine WL.a (d:=10) rfl rfl rfl (yR (v:=(.agg #[(.int .u8 15),(.int .i64 (i64 zaA)),(.int .i64 zaB),(.slice none 0 0)])) (Eos.parts (l:=[.const (.int .u8 15),.tmp 8,.tmp 9]) (.cons rfl (.cons rfl (.cons rfl .nil))) [0,1,2]) (fun _=>by kernel_rfl)) ?_
 refine WL.a (d:=11) rfl rfl rfl (y6 rfl) ?_
 refine WL.a (d:=12) rfl rfl rfl (y4 y2e rfl rfl) ?_
 refine WL.yg rfl rfl (yK (ds:=[(.int .i64 z1c.fPc),(.int .i64 z1c.fLeft),(.int .u8 z1c.fRegs.a0),(.int .u8 z1c.fRegs.a1),(.int .u8 z1c.fRegs.a2),(.int .u8 z1c.fRegs.a3),(.int .u8 z2c.fOp),(.int .i64 z2c.fA),(.int .i64 z2c.fB),(.int .i64 z2c.fC),(.slice z54 z3h.length z55),(.int .u8 15),(.int .i64 (i64 zaA)),(.int .i64 zaB),(.slice none 0 0)]) y1g rfl rfl rfl rfl rfl .here rfl rfl) ?_
 refine WL.nil ?_
 obtain rfl:=Option.some.inj h
 refine WX.y9 Tryd.results112 .nil (fun w hw=>?_)
 exact ⟨yC,hw.sub (.cons .here (.cons .here (.cons .here .nil)))⟩
def y1d (z14 : Sproc_State) (z1A : Sapi_Ins) (z2X : List Int) (z7F : Int) (z7G : Int) (z7H : Int) (z3I : List Int) : Option (Int × Bool × Int × Int × Int × List Int) :=
 (yj z14 z1A z2X z7F z7G z7H z3I z1A.fC).bind fun zuh=>chk ((0 : Int) ≤ z1A.fC ∧ z1A.fC < 4) (if decide ((i64 (z1A.fB + (i64 (nth ([z14.fRegs.a0,z14.fRegs.a1,z14.fRegs.a2,z14.fRegs.a3] : List Int) z1A.fC)))) ≥ ((z2X.length : Nat) : Int)) then (yM z14 z1A z2X z7F z7G z7H z3I 2 0).bind fun zgP=>some (0,false,15,zgP.1,zgP.2,([] : List Int)) else some ((i64 (z1A.fB + (i64 (nth ([z14.fRegs.a0,z14.fRegs.a1,z14.fRegs.a2,z14.fRegs.a3] : List Int) z1A.fC)))),true,z7F,z7G,z7H,z3I))
set_option maxRecDepth 20000 in
theorem y3t (Z : Zp) (z7I : Nat) (z5T : Option Addr) (z5U : Nat) (z6J : Option Addr) (z6K : Nat) (z14 : Sproc_State) (z1A : Sapi_Ins) (z2X : List Int) (z7F : Int) (z7G : Int) (z7H : Int) (z3I : List Int) (r : Int × Bool × Int × Int × Int × List Int)
  (h : y1d z14 z1A z2X z7F z7G z7H z3I = some r) (w₀ : World) (hz : PZ (fps [stb z7I 65 [(.int .i64 z14.fPc),(.int .i64 z14.fLeft),(.int .u8 z14.fRegs.a0),(.int .u8 z14.fRegs.a1),(.int .u8 z14.fRegs.a2),(.int .u8 z14.fRegs.a3),(.int .u8 z1A.fOp),(.int .i64 z1A.fA),(.int .i64 z1A.fB),(.int .i64 z1A.fC),(.slice z5T z2X.length z5U),(.int .u8 z7F),(.int .i64 z7G),(.int .i64 z7H),(.slice z6J z3I.length z6K)],row (.slice z5T z2X.length z5U) 5 1 (z2X.flatMap e5),row (.slice z6J z3I.length z6K) 5 1 (z3I.flatMap e5)]) w₀ Z)
  (hown : Hp (fps [stb z7I 65 [(.int .i64 z14.fPc),(.int .i64 z14.fLeft),(.int .u8 z14.fRegs.a0),(.int .u8 z14.fRegs.a1),(.int .u8 z14.fRegs.a2),(.int .u8 z14.fRegs.a3),(.int .u8 z1A.fOp),(.int .i64 z1A.fA),(.int .i64 z1A.fB),(.int .i64 z1A.fC),(.slice z5T z2X.length z5U),(.int .u8 z7F),(.int .i64 z7G),(.int .i64 z7H),(.slice z6J z3I.length z6K)],row (.slice z5T z2X.length z5U) 5 1 (z2X.flatMap e5),row (.slice z6J z3I.length z6K) 5 1 (z3I.flatMap e5)]) w₀ w₀ [stb z7I 65 [(.int .i64 z14.fPc),(.int .i64 z14.fLeft),(.int .u8 z14.fRegs.a0),(.int .u8 z14.fRegs.a1),(.int .u8 z14.fRegs.a2),(.int .u8 z14.fRegs.a3),(.int .u8 z1A.fOp),(.int .i64 z1A.fA),(.int .i64 z1A.fB),(.int .i64 z1A.fC),(.slice z5T z2X.length z5U),(.int .u8 z7F),(.int .i64 z7G),(.int .i64 z7H),(.slice z6J z3I.length z6K)],row (.slice z5T z2X.length z5U) 5 1 (z2X.flatMap e5),row (.slice z6J z3I.length z6K) 5 1 (z3I.flatMap e5)]) :
  Calls Tryd.prog 109 #[(.pointer (some ⟨z7I,0,none⟩))] w₀ fun e w'=>∃ zkK : Option Addr,∃ zkL : Nat,e = .returned (.tuple #[(.int .i64 r.1),(.bool r.2.1)]) ∧ True ∧ Hp (fps [stb z7I 65 [(.int .i64 z14.fPc),(.int .i64 z14.fLeft),(.int .u8 z14.fRegs.a0),(.int .u8 z14.fRegs.a1),(.int .u8 z14.fRegs.a2),(.int .u8 z14.fRegs.a3),(.int .u8 z1A.fOp),(.int .i64 z1A.fA),(.int .i64 z1A.fB),(.int .i64 z1A.fC),(.slice z5T z2X.length z5U),(.int .u8 z7F),(.int .i64 z7G),(.int .i64 z7H),(.slice z6J z3I.length z6K)],row (.slice z5T z2X.length z5U) 5 1 (z2X.flatMap e5),row (.slice z6J z3I.length z6K) 5 1 (z3I.flatMap e5)]) w₀ w' [stb z7I 65 [(.int .i64 z14.fPc),(.int .i64 z14.fLeft),(.int .u8 z14.fRegs.a0),(.int .u8 z14.fRegs.a1),(.int .u8 z14.fRegs.a2),(.int .u8 z14.fRegs.a3),(.int .u8 z1A.fOp),(.int .i64 z1A.fA),(.int .i64 z1A.fB),(.int .i64 z1A.fC),(.slice z5T z2X.length z5U),(.int .u8 r.2.2.1),(.int .i64 r.2.2.2.1),(.int .i64 r.2.2.2.2.1),(.slice zkK r.2.2.2.2.2.length zkL)],row (.slice z5T z2X.length z5U) 5 1 (z2X.flatMap e5),row (.slice zkK r.2.2.2.2.2.length zkL) 5 1 (r.2.2.2.2.2.flatMap e5)]:=by
 unfold y1d at h
 refine Calls.y8 (vs:=[(.pointer (some ⟨z7I,0,none⟩))]) (pre:=[stb z7I 65 [(.int .i64 z14.fPc),(.int .i64 z14.fLeft),(.int .u8 z14.fRegs.a0),(.int .u8 z14.fRegs.a1),(.int .u8 z14.fRegs.a2),(.int .u8 z14.fRegs.a3),(.int .u8 z1A.fOp),(.int .i64 z1A.fA),(.int .i64 z1A.fB),(.int .i64 z1A.fC),(.slice z5T z2X.length z5U),(.int .u8 z7F),(.int .i64 z7G),(.int .i64 z7H),(.slice z6J z3I.length z6K)],row (.slice z5T z2X.length z5U) 5 1 (z2X.flatMap e5),row (.slice z6J z3I.length z6K) 5 1 (z3I.flatMap e5)]) (env:=[(0,(.pointer (some ⟨z7I,0,none⟩)))]) Tryd.func109 rfl Tryd.ntmps109 rfl (hown) rfl ?_
 refine WC.b (WC.a (WL.pu rfl (WL.pu rfl (WL.nil (WX.a (WC.b ?_))))))
 obtain ⟨zuh,zui,h⟩:=zd h
 obtain ⟨zuj,h⟩:=ya h
 refine WC.yX (fun i=>[11].contains i) [stbp z7I 65 [(8,(.int .i64 z1A.fB))]] rfl ?_
 refine WD.a (i:=0) (d:=5) (by kernel_rfl) rfl z2 z6 rfl rfl rfl (fun _=>q_m rfl) ?_
 refine WD.a (i:=1) (d:=6) (by kernel_rfl) rfl z2 z6 rfl rfl rfl (fun _=>y6 rfl) ?_
 refine WD.a (i:=2) (d:=7) (by kernel_rfl) rfl z2 z6 rfl rfl rfl (fun _=>y4 yo rfl rfl) ?_
 refine WD.a (i:=3) (d:=8) (by kernel_rfl) rfl z2 z6 rfl rfl rfl (fun _=>y4 y14 rfl rfl) ?_
 refine WD.y1u (i:=4) (d:=9) (by kernel_rfl) rfl z2 z6 rfl rfl rfl (Sin.wk (.cons .here .nil) (.stb (.cons rfl .nil) .nil)) (y5 yd rfl (y65 .here (.head _))) ?_
 refine WD.a (i:=5) (d:=10) (by kernel_rfl) rfl z2 z6 rfl rfl rfl (fun _=>q_m rfl) ?_
 refine WD.a (i:=6) (d:=11) (by kernel_rfl) rfl z2 z6 rfl rfl rfl (fun _=>q_m rfl) ?_
 refine WD.a (i:=7) (d:=12) (by kernel_rfl) rfl z2 z6 rfl rfl rfl (fun _=>y6 rfl) ?_
 refine WD.a (i:=8) (d:=13) (by kernel_rfl) rfl z2 z6 rfl rfl rfl (fun _=>y4 yo rfl rfl) ?_
 refine WD.a (i:=9) (d:=14) (by kernel_rfl) rfl z2 z6 rfl rfl rfl (fun _=>y4 y3q rfl rfl) ?_
 refine WD.e (i:=10) (d:=15) (by kernel_rfl) rfl z2 z6 rfl rfl rfl (y5 yd rfl (yb .here rfl)) ?_
 refine WD.call0 (i:=11) (dd:=16) rfl (by kernel_rfl) rfl rfl rfl (.inl ⟨rfl,(Sin.wk (.cons .h2 .nil) (.stb (.cons rfl .nil) .nil))⟩) (zl (l:=[.tmp 10,.tmp 15]) Tryd.call108 (.cons rfl (.cons rfl .nil))) (.cons .h1 (.cons .h1 .nil)) (ccl hz (.cons .h1 (.cons .h1 .nil)) (.cons .here .nil) fun w pz ho la=>Calls.mono (yr _ _ _ _ _ _ _ _ _ _ _ _ _ _ _ zui w pz ((la _ (.head _) _).stb) ho) (fun _ _ h'=>⟨h'.1,trivial,h'.2⟩)) ?_
 intro _
 refine WD.a (i:=12) (d:=17) (by kernel_rfl) rfl z2 z6 rfl rfl rfl (fun _=>y6 rfl) ?_
 refine WD.e (i:=13) (d:=18) (by kernel_rfl) rfl z2 z6 rfl rfl rfl (y5 yB rfl (yZ (l:=([z14.fRegs.a0,z14.fRegs.a1,z14.fRegs.a2,z14.fRegs.a3] : List Int)) (f:=Value.int .u8) (k:=2) (m:=6) .h2 rfl rfl zuj)) ?_
 refine WD.a (i:=14) (d:=19) (by kernel_rfl) rfl z2 z6 rfl rfl rfl (fun _=>y3d Tryd.underlying5 Tryd.underlying3 rfl rfl) ?_
 refine WD.a (i:=15) (d:=20) (by kernel_rfl) rfl z2 z6 rfl rfl rfl (fun _=>y4v rfl rfl rfl) ?_
 refine WD.a (i:=16) (d:=4) (by kernel_rfl) rfl z2 z6 rfl rfl rfl (fun _=>q_z rfl) ?_
 refine WD.done (by kernel_rfl) ?_
 refine WX.a (WC.b (WC.b (WC.a (WL.pu rfl (WL.pu rfl ?_)))))
 refine WL.a (d:=23) rfl rfl rfl (y6 rfl) ?_
 refine WL.a (d:=24) rfl rfl rfl (y4 y69 rfl rfl) ?_
 refine WL.a (d:=25) rfl rfl rfl (y5 y49 rfl (yb .h2 rfl)) ?_
 refine WL.a (d:=26) rfl rfl rfl (y1s Tryd.underlying35 rfl) ?_
 refine WL.pu rfl (WL.nil (WX.a ?_))
 refine WC.cond rfl (fun zgQ=>?_) (fun zgQ=>?_)
 ·replace h:=yl h zgQ
  refine WC.b ?_
  obtain ⟨zgP,zuk,h⟩:=zd h
  refine WC.a (WL.pu rfl ?_)
  refine WL.b (dd:=29) rfl rfl rfl (zl (l:=[.tmp 28,.const (.int .u8 2),.const (.int .i64 0)]) Tryd.call112 (.cons rfl (.cons rfl (.cons rfl .nil)))) (.cons .h2 (.cons .here (.cons .here .nil))) (cc hz (.cons .h2 (.cons .here (.cons .here .nil))) fun w pz ho=>y2B _ _ _ _ _ _ _ _ _ _ _ _ _ _ _ _ zuk w pz  ho) ?_
  refine WL.nil (WX.a (WC.b (WC.a (WL.pu rfl (WL.pu rfl (WL.nil (WX.a (WC.ret (WX.yf ?_)))))))))
  refine WX.nilRow 5 1 ?_
  obtain rfl:=Option.some.inj h
  refine WX.yh Tryd.results109 (.tmp rfl (.tmp rfl .nil)) (fun w hw=>?_)
  exact ⟨none,0,y3T rfl rfl,trivial,hw.sub (.cons .h1 (.cons .h1 (.cons .here .nil)))⟩
 ·replace h:=ym h zgQ
  refine WC.skip (WX.a (WC.b (WC.a (WL.pu rfl (WL.pu rfl (WL.pu rfl (WL.nil (WX.a (WC.ret ?_)))))))))
  obtain rfl:=Option.some.inj h
  refine WX.yh Tryd.results109 (.tmp rfl (.tmp rfl .nil)) (fun w hw=>?_)
  exact ⟨z6J,z6K,y3T rfl rfl,trivial,hw.sub (.cons .h2 (.cons .here (.cons .here .nil)))⟩
def y1O (zP : Sproc_State) (z1h : Sapi_Ins) (z1y : List Int) (zaC : Int) (zaD : Int) (zaE : Int) (z4a : List Int) : Option (Int × Int × Int × Int × Int × Int × Int × List Int) :=
 (y1d zP z1h z1y zaC zaD zaE z4a).bind fun z2d=>if z2d.2.1 then (yj zP z1h z1y z2d.2.2.1 z2d.2.2.2.1 z2d.2.2.2.2.1 z2d.2.2.2.2.2 z1h.fA).bind fun zul=>chk ((0 : Int) ≤ z2d.1 ∧ z2d.1 < ((z1y.length : Nat) : Int)) (chk ((0 : Int) ≤ z1h.fA ∧ z1h.fA < 4) (some ((nth (([zP.fRegs.a0,zP.fRegs.a1,zP.fRegs.a2,zP.fRegs.a3] : List Int).set (z1h.fA : Int).toNat (nth z1y z2d.1)) 0),(nth (([zP.fRegs.a0,zP.fRegs.a1,zP.fRegs.a2,zP.fRegs.a3] : List Int).set (z1h.fA : Int).toNat (nth z1y z2d.1)) 1),(nth (([zP.fRegs.a0,zP.fRegs.a1,zP.fRegs.a2,zP.fRegs.a3] : List Int).set (z1h.fA : Int).toNat (nth z1y z2d.1)) 2),(nth (([zP.fRegs.a0,zP.fRegs.a1,zP.fRegs.a2,zP.fRegs.a3] : List Int).set (z1h.fA : Int).toNat (nth z1y z2d.1)) 3),z2d.2.2.1,z2d.2.2.2.1,z2d.2.2.2.2.1,z2d.2.2.2.2.2))) else some (zP.fRegs.a0,zP.fRegs.a1,zP.fRegs.a2,zP.fRegs.a3,z2d.2.2.1,z2d.2.2.2.1,z2d.2.2.2.2.1,z2d.2.2.2.2.2)
set_option maxRecDepth 20000 in
theorem y4K (Z : Zp) (z7J : Nat) (z4N : Option Addr) (z4z : Nat) (z7K : Option Addr) (z7L : Nat) (zP : Sproc_State) (z1h : Sapi_Ins) (z1y : List Int) (zaC : Int) (zaD : Int) (zaE : Int) (z4a : List Int) (r : Int × Int × Int × Int × Int × Int × Int × List Int)
  (h : y1O zP z1h z1y zaC zaD zaE z4a = some r) (w₀ : World) (hz : PZ (fps [stb z7J 65 [(.int .i64 zP.fPc),(.int .i64 zP.fLeft),(.int .u8 zP.fRegs.a0),(.int .u8 zP.fRegs.a1),(.int .u8 zP.fRegs.a2),(.int .u8 zP.fRegs.a3),(.int .u8 z1h.fOp),(.int .i64 z1h.fA),(.int .i64 z1h.fB),(.int .i64 z1h.fC),(.slice z4N z1y.length z4z),(.int .u8 zaC),(.int .i64 zaD),(.int .i64 zaE),(.slice z7K z4a.length z7L)],row (.slice z4N z1y.length z4z) 5 1 (z1y.flatMap e5),row (.slice z7K z4a.length z7L) 5 1 (z4a.flatMap e5)]) w₀ Z)
  (hown : Hp (fps [stb z7J 65 [(.int .i64 zP.fPc),(.int .i64 zP.fLeft),(.int .u8 zP.fRegs.a0),(.int .u8 zP.fRegs.a1),(.int .u8 zP.fRegs.a2),(.int .u8 zP.fRegs.a3),(.int .u8 z1h.fOp),(.int .i64 z1h.fA),(.int .i64 z1h.fB),(.int .i64 z1h.fC),(.slice z4N z1y.length z4z),(.int .u8 zaC),(.int .i64 zaD),(.int .i64 zaE),(.slice z7K z4a.length z7L)],row (.slice z4N z1y.length z4z) 5 1 (z1y.flatMap e5),row (.slice z7K z4a.length z7L) 5 1 (z4a.flatMap e5)]) w₀ w₀ [stb z7J 65 [(.int .i64 zP.fPc),(.int .i64 zP.fLeft),(.int .u8 zP.fRegs.a0),(.int .u8 zP.fRegs.a1),(.int .u8 zP.fRegs.a2),(.int .u8 zP.fRegs.a3),(.int .u8 z1h.fOp),(.int .i64 z1h.fA),(.int .i64 z1h.fB),(.int .i64 z1h.fC),(.slice z4N z1y.length z4z),(.int .u8 zaC),(.int .i64 zaD),(.int .i64 zaE),(.slice z7K z4a.length z7L)],row (.slice z4N z1y.length z4z) 5 1 (z1y.flatMap e5),row (.slice z7K z4a.length z7L) 5 1 (z4a.flatMap e5)]) :
  Calls Tryd.prog 87 #[(.pointer (some ⟨z7J,0,none⟩))] w₀ fun e w'=>∃ zkM : Option Addr,∃ zkN : Nat,e = .returned (.tuple #[]) ∧ True ∧ Hp (fps [stb z7J 65 [(.int .i64 zP.fPc),(.int .i64 zP.fLeft),(.int .u8 zP.fRegs.a0),(.int .u8 zP.fRegs.a1),(.int .u8 zP.fRegs.a2),(.int .u8 zP.fRegs.a3),(.int .u8 z1h.fOp),(.int .i64 z1h.fA),(.int .i64 z1h.fB),(.int .i64 z1h.fC),(.slice z4N z1y.length z4z),(.int .u8 zaC),(.int .i64 zaD),(.int .i64 zaE),(.slice z7K z4a.length z7L)],row (.slice z4N z1y.length z4z) 5 1 (z1y.flatMap e5),row (.slice z7K z4a.length z7L) 5 1 (z4a.flatMap e5)]) w₀ w' [stb z7J 65 [(.int .i64 zP.fPc),(.int .i64 zP.fLeft),(.int .u8 r.1),(.int .u8 r.2.1),(.int .u8 r.2.2.1),(.int .u8 r.2.2.2.1),(.int .u8 z1h.fOp),(.int .i64 z1h.fA),(.int .i64 z1h.fB),(.int .i64 z1h.fC),(.slice z4N z1y.length z4z),(.int .u8 r.2.2.2.2.1),(.int .i64 r.2.2.2.2.2.1),(.int .i64 r.2.2.2.2.2.2.1),(.slice zkM r.2.2.2.2.2.2.2.length zkN)],row (.slice z4N z1y.length z4z) 5 1 (z1y.flatMap e5),row (.slice zkM r.2.2.2.2.2.2.2.length zkN) 5 1 (r.2.2.2.2.2.2.2.flatMap e5)]:=by
 unfold y1O at h
 refine Calls.y8 (vs:=[(.pointer (some ⟨z7J,0,none⟩))]) (pre:=[stb z7J 65 [(.int .i64 zP.fPc),(.int .i64 zP.fLeft),(.int .u8 zP.fRegs.a0),(.int .u8 zP.fRegs.a1),(.int .u8 zP.fRegs.a2),(.int .u8 zP.fRegs.a3),(.int .u8 z1h.fOp),(.int .i64 z1h.fA),(.int .i64 z1h.fB),(.int .i64 z1h.fC),(.slice z4N z1y.length z4z),(.int .u8 zaC),(.int .i64 zaD),(.int .i64 zaE),(.slice z7K z4a.length z7L)],row (.slice z4N z1y.length z4z) 5 1 (z1y.flatMap e5),row (.slice z7K z4a.length z7L) 5 1 (z4a.flatMap e5)]) (env:=[(0,(.pointer (some ⟨z7J,0,none⟩)))]) Tryd.func87 rfl Tryd.ntmps87 rfl (hown) rfl ?_
 refine WC.b ?_
 obtain ⟨z2d,zum,h⟩:=zd h
 refine WC.a (WL.pu rfl ?_)
 refine WL.y1Z (dd:=6) rfl rfl rfl (zl (l:=[.tmp 5]) Tryd.call109 (.cons rfl .nil)) (.cons .here (.cons .here (.cons .here .nil))) (cc hz (.cons .here (.cons .here (.cons .here .nil))) fun w pz ho=>y3t _ _ _ _ _ _ _ _ _ _ _ _ _ _ zum w pz  ho) ?_
 rintro zgR zgS _
 refine WL.pu rfl (WL.pu rfl (WL.pu rfl (WL.pu rfl (WL.pu rfl (WL.nil (WX.a (WC.b (WC.a (WL.pu rfl (WL.nil (WX.a ?_)))))))))))
 refine WC.cond rfl (fun zgT=>?_) (fun zgT=>?_)
 ·replace h:=yl h zgT
  obtain ⟨zul,zun,h⟩:=zd h
  obtain ⟨zea,h⟩:=ya h
  obtain ⟨zuo,h⟩:=ya h
  refine WC.yX (fun i=>[6,15].contains i) [stbp z7J 65 [(10,(.slice z4N z1y.length z4z))],row (.slice z4N z1y.length z4z) 5 1 (z1y.flatMap e5)] rfl ?_
  refine WD.a (i:=0) (d:=10) (by kernel_rfl) rfl z2 z6 rfl rfl rfl (fun _=>q_m rfl) ?_
  refine WD.a (i:=1) (d:=11) (by kernel_rfl) rfl z2 z6 rfl rfl rfl (fun _=>q_m rfl) ?_
  refine WD.a (i:=2) (d:=12) (by kernel_rfl) rfl z2 z6 rfl rfl rfl (fun _=>y6 rfl) ?_
  refine WD.a (i:=3) (d:=13) (by kernel_rfl) rfl z2 z6 rfl rfl rfl (fun _=>y4 yo rfl rfl) ?_
  refine WD.a (i:=4) (d:=14) (by kernel_rfl) rfl z2 z6 rfl rfl rfl (fun _=>y4 yS rfl rfl) ?_
  refine WD.e (i:=5) (d:=15) (by kernel_rfl) rfl z2 z6 rfl rfl rfl (y5 yd rfl (yb .here rfl)) ?_
  refine WD.a (i:=7) (d:=17) (by kernel_rfl) rfl z2 z6 rfl rfl rfl (fun _=>q_m rfl) ?_
  refine WD.a (i:=8) (d:=18) (by kernel_rfl) rfl z2 z6 rfl rfl rfl (fun _=>y6 rfl) ?_
  refine WD.a (i:=9) (d:=19) (by kernel_rfl) rfl z2 z6 rfl rfl rfl (fun _=>y4 y69 rfl rfl) ?_
  refine WD.y1u (i:=10) (d:=20) (by kernel_rfl) rfl z2 z6 rfl rfl rfl (Sin.wk (.cons .here (.cons .here .nil)) (.stb (.cons rfl .nil) (.same .nil))) (y5 y49 rfl (y65 .here (.head _))) ?_
  refine WD.a (i:=11) (d:=21) (by kernel_rfl) rfl z2 z6 rfl rfl rfl (fun _=>q_m rfl) ?_
  refine WD.know (fun w hw=>Hp.y3Z .h1 hw (by intro hz'; have:=zea; rw [hz'] at this; omega)) ?_
  rintro ⟨zup,rfl⟩
  refine WD.a (i:=12) (d:=22) (by kernel_rfl) rfl z2 z6 rfl rfl rfl (fun _=>yT y1v rfl rfl zea.1 zea.2 y3f) ?_
  refine WD.y1u (i:=13) (d:=23) (by kernel_rfl) rfl z2 z6 rfl rfl rfl (Sin.wk (.cons .here (.cons .here .nil)) (.stb (.cons rfl .nil) (.same .nil))) (y5 yB rfl (y3x .h1 ((y33 (enc:=e5) (l:=z1y) (i:=z2d.1) (sz:=1) (fun _=>rfl) zea.1 zea.2) 0 _ rfl))) ?_
  refine WD.call0 (i:=6) (dd:=16) rfl (by kernel_rfl) rfl rfl rfl (.inl ⟨rfl,(Sin.wk (.cons .h2 (.cons .here .nil)) (.stb (.cons rfl .nil) (.same .nil)))⟩) (zl (l:=[.tmp 10,.tmp 15]) Tryd.call108 (.cons rfl (.cons rfl .nil))) (.cons .h1 (.cons .h1 .nil)) (ccl hz (.cons .h1 (.cons .h1 .nil)) (.cons .here .nil) fun w pz ho la=>Calls.mono (yr _ _ _ _ _ _ _ _ _ _ _ _ _ _ _ zun w pz ((la _ (.head _) _).stb) ho) (fun _ _ h'=>⟨h'.1,trivial,h'.2⟩)) ?_
  intro _
  refine WD.a (i:=14) (d:=24) (by kernel_rfl) rfl z2 z6 rfl rfl rfl (fun _=>y6 rfl) ?_
  refine WD.y1t (i:=15) rfl (by kernel_rfl) rfl rfl rfl (by kernel_rfl) (y1m (l:=([zP.fRegs.a0,zP.fRegs.a1,zP.fRegs.a2,zP.fRegs.a3] : List Int)) (f:=Value.int .u8) (u:=(nth z1y z2d.1)) (k:=2) (m:=6) (j:=4) (ds:=[(.int .i64 zP.fPc),(.int .i64 zP.fLeft),(.int .u8 (nth (([zP.fRegs.a0,zP.fRegs.a1,zP.fRegs.a2,zP.fRegs.a3] : List Int).set (z1h.fA : Int).toNat (nth z1y z2d.1)) 0)),(.int .u8 (nth (([zP.fRegs.a0,zP.fRegs.a1,zP.fRegs.a2,zP.fRegs.a3] : List Int).set (z1h.fA : Int).toNat (nth z1y z2d.1)) 1)),(.int .u8 (nth (([zP.fRegs.a0,zP.fRegs.a1,zP.fRegs.a2,zP.fRegs.a3] : List Int).set (z1h.fA : Int).toNat (nth z1y z2d.1)) 2)),(.int .u8 (nth (([zP.fRegs.a0,zP.fRegs.a1,zP.fRegs.a2,zP.fRegs.a3] : List Int).set (z1h.fA : Int).toNat (nth z1y z2d.1)) 3)),(.int .u8 z1h.fOp),(.int .i64 z1h.fA),(.int .i64 z1h.fB),(.int .i64 z1h.fC),(.slice (some ⟨zup,0,none⟩) z1y.length z4z),(.int .u8 z2d.2.2.1),(.int .i64 z2d.2.2.2.1),(.int .i64 z2d.2.2.2.2.1),(.slice zgR z2d.2.2.2.2.2.length zgS)]) y2h rfl rfl rfl rfl .h2 rfl rfl zuo rfl rfl) ?_
  refine WD.done (by kernel_rfl) ?_
  obtain rfl:=Option.some.inj h
  refine WX.y9 Tryd.results87 .nil (fun w hw=>?_)
  exact ⟨zgR,zgS,yC,trivial,hw.sub (.cons .here (.cons .here (.cons .here .nil)))⟩
 ·replace h:=ym h zgT
  refine WC.skip ?_
  obtain rfl:=Option.some.inj h
  refine WX.y9 Tryd.results87 .nil (fun w hw=>?_)
  exact ⟨zgR,zgS,yC,trivial,hw.sub (.cons .here (.cons .here (.cons .here .nil)))⟩
def y1C (zY : Sproc_State) (z1w : Sapi_Ins) (z2Y : List Int) (zaF : Int) (zaG : Int) (zaH : Int) (z4b : List Int) : Option (Int × Int × Int × List Int) :=
 (y1d zY z1w z2Y zaF zaG zaH z4b).bind fun z56=>if z56.2.1 then (yj zY z1w z2Y z56.2.2.1 z56.2.2.2.1 z56.2.2.2.2.1 z56.2.2.2.2.2 z1w.fA).bind fun zuq=>chk ((0 : Int) ≤ z1w.fA ∧ z1w.fA < 4) (some (1,z56.1,(i64 (nth ([zY.fRegs.a0,zY.fRegs.a1,zY.fRegs.a2,zY.fRegs.a3] : List Int) z1w.fA)),([] : List Int))) else some (z56.2.2.1,z56.2.2.2.1,z56.2.2.2.2.1,z56.2.2.2.2.2)
set_option maxRecDepth 20000 in
theorem y4o (Z : Zp) (z95 : Nat) (z57 : Option Addr) (z58 : Nat) (z7M : Option Addr) (z7N : Nat) (zY : Sproc_State) (z1w : Sapi_Ins) (z2Y : List Int) (zaF : Int) (zaG : Int) (zaH : Int) (z4b : List Int) (r : Int × Int × Int × List Int)
  (h : y1C zY z1w z2Y zaF zaG zaH z4b = some r) (w₀ : World) (hz : PZ (fps [stb z95 65 [(.int .i64 zY.fPc),(.int .i64 zY.fLeft),(.int .u8 zY.fRegs.a0),(.int .u8 zY.fRegs.a1),(.int .u8 zY.fRegs.a2),(.int .u8 zY.fRegs.a3),(.int .u8 z1w.fOp),(.int .i64 z1w.fA),(.int .i64 z1w.fB),(.int .i64 z1w.fC),(.slice z57 z2Y.length z58),(.int .u8 zaF),(.int .i64 zaG),(.int .i64 zaH),(.slice z7M z4b.length z7N)],row (.slice z57 z2Y.length z58) 5 1 (z2Y.flatMap e5),row (.slice z7M z4b.length z7N) 5 1 (z4b.flatMap e5)]) w₀ Z)
  (hown : Hp (fps [stb z95 65 [(.int .i64 zY.fPc),(.int .i64 zY.fLeft),(.int .u8 zY.fRegs.a0),(.int .u8 zY.fRegs.a1),(.int .u8 zY.fRegs.a2),(.int .u8 zY.fRegs.a3),(.int .u8 z1w.fOp),(.int .i64 z1w.fA),(.int .i64 z1w.fB),(.int .i64 z1w.fC),(.slice z57 z2Y.length z58),(.int .u8 zaF),(.int .i64 zaG),(.int .i64 zaH),(.slice z7M z4b.length z7N)],row (.slice z57 z2Y.length z58) 5 1 (z2Y.flatMap e5),row (.slice z7M z4b.length z7N) 5 1 (z4b.flatMap e5)]) w₀ w₀ [stb z95 65 [(.int .i64 zY.fPc),(.int .i64 zY.fLeft),(.int .u8 zY.fRegs.a0),(.int .u8 zY.fRegs.a1),(.int .u8 zY.fRegs.a2),(.int .u8 zY.fRegs.a3),(.int .u8 z1w.fOp),(.int .i64 z1w.fA),(.int .i64 z1w.fB),(.int .i64 z1w.fC),(.slice z57 z2Y.length z58),(.int .u8 zaF),(.int .i64 zaG),(.int .i64 zaH),(.slice z7M z4b.length z7N)],row (.slice z57 z2Y.length z58) 5 1 (z2Y.flatMap e5),row (.slice z7M z4b.length z7N) 5 1 (z4b.flatMap e5)]) :
  Calls Tryd.prog 88 #[(.pointer (some ⟨z95,0,none⟩))] w₀ fun e w'=>∃ zkO : Option Addr,∃ zkP : Nat,e = .returned (.tuple #[]) ∧ True ∧ Hp (fps [stb z95 65 [(.int .i64 zY.fPc),(.int .i64 zY.fLeft),(.int .u8 zY.fRegs.a0),(.int .u8 zY.fRegs.a1),(.int .u8 zY.fRegs.a2),(.int .u8 zY.fRegs.a3),(.int .u8 z1w.fOp),(.int .i64 z1w.fA),(.int .i64 z1w.fB),(.int .i64 z1w.fC),(.slice z57 z2Y.length z58),(.int .u8 zaF),(.int .i64 zaG),(.int .i64 zaH),(.slice z7M z4b.length z7N)],row (.slice z57 z2Y.length z58) 5 1 (z2Y.flatMap e5),row (.slice z7M z4b.length z7N) 5 1 (z4b.flatMap e5)]) w₀ w' [stb z95 65 [(.int .i64 zY.fPc),(.int .i64 zY.fLeft),(.int .u8 zY.fRegs.a0),(.int .u8 zY.fRegs.a1),(.int .u8 zY.fRegs.a2),(.int .u8 zY.fRegs.a3),(.int .u8 z1w.fOp),(.int .i64 z1w.fA),(.int .i64 z1w.fB),(.int .i64 z1w.fC),(.slice z57 z2Y.length z58),(.int .u8 r.1),(.int .i64 r.2.1),(.int .i64 r.2.2.1),(.slice zkO r.2.2.2.length zkP)],row (.slice z57 z2Y.length z58) 5 1 (z2Y.flatMap e5),row (.slice zkO r.2.2.2.length zkP) 5 1 (r.2.2.2.flatMap e5)]:=by
 unfold y1C at h
 refine Calls.y8 (vs:=[(.pointer (some ⟨z95,0,none⟩))]) (pre:=[stb z95 65 [(.int .i64 zY.fPc),(.int .i64 zY.fLeft),(.int .u8 zY.fRegs.a0),(.int .u8 zY.fRegs.a1),(.int .u8 zY.fRegs.a2),(.int .u8 zY.fRegs.a3),(.int .u8 z1w.fOp),(.int .i64 z1w.fA),(.int .i64 z1w.fB),(.int .i64 z1w.fC),(.slice z57 z2Y.length z58),(.int .u8 zaF),(.int .i64 zaG),(.int .i64 zaH),(.slice z7M z4b.length z7N)],row (.slice z57 z2Y.length z58) 5 1 (z2Y.flatMap e5),row (.slice z7M z4b.length z7N) 5 1 (z4b.flatMap e5)]) (env:=[(0,(.pointer (some ⟨z95,0,none⟩)))]) Tryd.func88 rfl Tryd.ntmps88 rfl (hown) rfl ?_
 refine WC.b ?_
 obtain ⟨z56,zur,h⟩:=zd h
 refine WC.a (WL.pu rfl ?_)
 refine WL.y1Z (dd:=6) rfl rfl rfl (zl (l:=[.tmp 5]) Tryd.call109 (.cons rfl .nil)) (.cons .here (.cons .here (.cons .here .nil))) (cc hz (.cons .here (.cons .here (.cons .here .nil))) fun w pz ho=>y3t _ _ _ _ _ _ _ _ _ _ _ _ _ _ zur w pz  ho) ?_
 rintro zus zut _
 refine WL.pu rfl (WL.pu rfl (WL.pu rfl (WL.pu rfl (WL.pu rfl (WL.nil (WX.a (WC.b (WC.a (WL.pu rfl (WL.nil (WX.a ?_)))))))))))
 refine WC.cond rfl (fun zgU=>?_) (fun zgU=>?_)
 ·replace h:=yl h zgU
  obtain ⟨zuq,zuu,h⟩:=zd h
  obtain ⟨zuv,h⟩:=ya h
  refine WC.a (WL.pu rfl (WL.pu rfl (WL.pu rfl (WL.pu rfl ?_))))
  refine WL.a (d:=14) rfl rfl rfl (y6 rfl) ?_
  refine WL.a (d:=15) rfl rfl rfl (y4 yo rfl rfl) ?_
  refine WL.a (d:=16) rfl rfl rfl (y4 yS rfl rfl) ?_
  refine WL.a (d:=17) rfl rfl rfl (y5 yd rfl (yb .here rfl)) ?_
  refine WL.b (dd:=18) rfl rfl rfl (zl (l:=[.tmp 12,.tmp 17]) Tryd.call108 (.cons rfl (.cons rfl .nil))) (.cons .h1 (.cons .h1 .nil)) (ccl hz (.cons .h1 (.cons .h1 .nil)) (.cons .here .nil) fun w pz ho la=>yr _ _ _ _ _ _ _ _ _ _ _ _ _ _ _ zuu w pz ((la _ (.head _) _).stb) ho) ?_
  refine WL.a (d:=19) rfl rfl rfl (y6 rfl) ?_
  refine WL.a (d:=20) rfl rfl rfl (y5 yB rfl (yZ (l:=([zY.fRegs.a0,zY.fRegs.a1,zY.fRegs.a2,zY.fRegs.a3] : List Int)) (f:=Value.int .u8) (k:=2) (m:=6) .h2 rfl rfl zuv)) ?_
  refine WL.a (d:=21) rfl rfl rfl (y3d Tryd.underlying5 Tryd.underlying3 rfl rfl) ?_
  refine WL.a (d:=22) rfl rfl rfl (yR (v:=(.agg #[(.int .u8 1),(.int .i64 z56.1),(.int .i64 (i64 (nth ([zY.fRegs.a0,zY.fRegs.a1,zY.fRegs.a2,zY.fRegs.a3] : List Int) z1w.fA))),(.slice none 0 0)])) (Eos.parts (l:=[.const (.int .u8 1),.tmp 11,.tmp 21]) (.cons rfl (.cons rfl (.cons rfl .nil))) [0,1,2]) (fun _=>by kernel_rfl)) ?_
  refine WL.a (d:=23) rfl rfl rfl (y6 rfl) ?_
  refine WL.a (d:=24) rfl rfl rfl (y4 y2e rfl rfl) ?_
  refine WL.yg rfl rfl (yK (ds:=[(.int .i64 zY.fPc),(.int .i64 zY.fLeft),(.int .u8 zY.fRegs.a0),(.int .u8 zY.fRegs.a1),(.int .u8 zY.fRegs.a2),(.int .u8 zY.fRegs.a3),(.int .u8 z1w.fOp),(.int .i64 z1w.fA),(.int .i64 z1w.fB),(.int .i64 z1w.fC),(.slice z57 z2Y.length z58),(.int .u8 1),(.int .i64 z56.1),(.int .i64 (i64 (nth ([zY.fRegs.a0,zY.fRegs.a1,zY.fRegs.a2,zY.fRegs.a3] : List Int) z1w.fA))),(.slice none 0 0)]) y1g rfl rfl rfl rfl rfl .h2 rfl rfl) ?_
  refine WL.nil ?_
  refine WX.nilRow 5 1 ?_
  obtain rfl:=Option.some.inj h
  refine WX.y9 Tryd.results88 .nil (fun w hw=>?_)
  exact ⟨none,0,yC,trivial,hw.sub (.cons .h1 (.cons .h1 (.cons .here .nil)))⟩
 ·replace h:=ym h zgU
  refine WC.skip ?_
  obtain rfl:=Option.some.inj h
  refine WX.y9 Tryd.results88 .nil (fun w hw=>?_)
  exact ⟨zus,zut,yC,trivial,hw.sub (.cons .here (.cons .here (.cons .here .nil)))⟩
def yi (z1d : Sproc_State) (z1H : Sapi_Ins) (z3i : List Int) (zbZ : Int) (zc0 : Int) (zc1 : Int) (z42 : List Int) (zaI : Int) (z3J : List Int) : Option (Int × Int) :=
 some (zaI,z1H.fA)
set_option maxRecDepth 20000 in
theorem y2k (Z : Zp) (z96 : Nat) (z59 : Option Addr) (z5a : Nat) (z6L : Option Addr) (z6M : Nat) (z5V : Option Addr) (z5W : Nat) (z1d : Sproc_State) (z1H : Sapi_Ins) (z3i : List Int) (zbZ : Int) (zc0 : Int) (zc1 : Int) (z42 : List Int) (zaI : Int) (z3J : List Int) (r : Int × Int)
  (h : yi z1d z1H z3i zbZ zc0 zc1 z42 zaI z3J = some r) (w₀ : World) (hz : PZ (fps [stb z96 65 [(.int .i64 z1d.fPc),(.int .i64 z1d.fLeft),(.int .u8 z1d.fRegs.a0),(.int .u8 z1d.fRegs.a1),(.int .u8 z1d.fRegs.a2),(.int .u8 z1d.fRegs.a3),(.int .u8 z1H.fOp),(.int .i64 z1H.fA),(.int .i64 z1H.fB),(.int .i64 z1H.fC),(.slice z59 z3i.length z5a),(.int .u8 zbZ),(.int .i64 zc0),(.int .i64 zc1),(.slice z6L z42.length z6M)],row (.slice z59 z3i.length z5a) 5 1 (z3i.flatMap e5),row (.slice z6L z42.length z6M) 5 1 (z42.flatMap e5),row (.slice z5V z3J.length z5W) 5 1 (z3J.flatMap e5)]) w₀ Z)
  (hown : Hp (fps [stb z96 65 [(.int .i64 z1d.fPc),(.int .i64 z1d.fLeft),(.int .u8 z1d.fRegs.a0),(.int .u8 z1d.fRegs.a1),(.int .u8 z1d.fRegs.a2),(.int .u8 z1d.fRegs.a3),(.int .u8 z1H.fOp),(.int .i64 z1H.fA),(.int .i64 z1H.fB),(.int .i64 z1H.fC),(.slice z59 z3i.length z5a),(.int .u8 zbZ),(.int .i64 zc0),(.int .i64 zc1),(.slice z6L z42.length z6M)],row (.slice z59 z3i.length z5a) 5 1 (z3i.flatMap e5),row (.slice z6L z42.length z6M) 5 1 (z42.flatMap e5),row (.slice z5V z3J.length z5W) 5 1 (z3J.flatMap e5)]) w₀ w₀ [stb z96 65 [(.int .i64 z1d.fPc),(.int .i64 z1d.fLeft),(.int .u8 z1d.fRegs.a0),(.int .u8 z1d.fRegs.a1),(.int .u8 z1d.fRegs.a2),(.int .u8 z1d.fRegs.a3),(.int .u8 z1H.fOp),(.int .i64 z1H.fA),(.int .i64 z1H.fB),(.int .i64 z1H.fC),(.slice z59 z3i.length z5a),(.int .u8 zbZ),(.int .i64 zc0),(.int .i64 zc1),(.slice z6L z42.length z6M)],row (.slice z59 z3i.length z5a) 5 1 (z3i.flatMap e5),row (.slice z6L z42.length z6M) 5 1 (z42.flatMap e5),row (.slice z5V z3J.length z5W) 5 1 (z3J.flatMap e5)]) :
  Calls Tryd.prog 110 #[(.pointer (some ⟨z96,0,none⟩)),(.int .u8 zaI),(.slice z5V z3J.length z5W)] w₀ fun e w'=>e = .returned (.tuple #[]) ∧ Hp (fps [stb z96 65 [(.int .i64 z1d.fPc),(.int .i64 z1d.fLeft),(.int .u8 z1d.fRegs.a0),(.int .u8 z1d.fRegs.a1),(.int .u8 z1d.fRegs.a2),(.int .u8 z1d.fRegs.a3),(.int .u8 z1H.fOp),(.int .i64 z1H.fA),(.int .i64 z1H.fB),(.int .i64 z1H.fC),(.slice z59 z3i.length z5a),(.int .u8 zbZ),(.int .i64 zc0),(.int .i64 zc1),(.slice z6L z42.length z6M)],row (.slice z59 z3i.length z5a) 5 1 (z3i.flatMap e5),row (.slice z6L z42.length z6M) 5 1 (z42.flatMap e5),row (.slice z5V z3J.length z5W) 5 1 (z3J.flatMap e5)]) w₀ w' [stb z96 65 [(.int .i64 z1d.fPc),(.int .i64 z1d.fLeft),(.int .u8 z1d.fRegs.a0),(.int .u8 z1d.fRegs.a1),(.int .u8 z1d.fRegs.a2),(.int .u8 z1d.fRegs.a3),(.int .u8 z1H.fOp),(.int .i64 z1H.fA),(.int .i64 z1H.fB),(.int .i64 z1H.fC),(.slice z59 z3i.length z5a),(.int .u8 r.1),(.int .i64 r.2),(.int .i64 0),(.slice z5V z3J.length z5W)],row (.slice z59 z3i.length z5a) 5 1 (z3i.flatMap e5),row (.slice z5V z3J.length z5W) 5 1 (z3J.flatMap e5),row (.slice z6L z42.length z6M) 5 1 (z42.flatMap e5)]:=by
 unfold yi at h
 refine Calls.y8 (vs:=[(.pointer (some ⟨z96,0,none⟩)),(.int .u8 zaI),(.slice z5V z3J.length z5W)]) (pre:=[stb z96 65 [(.int .i64 z1d.fPc),(.int .i64 z1d.fLeft),(.int .u8 z1d.fRegs.a0),(.int .u8 z1d.fRegs.a1),(.int .u8 z1d.fRegs.a2),(.int .u8 z1d.fRegs.a3),(.int .u8 z1H.fOp),(.int .i64 z1H.fA),(.int .i64 z1H.fB),(.int .i64 z1H.fC),(.slice z59 z3i.length z5a),(.int .u8 zbZ),(.int .i64 zc0),(.int .i64 zc1),(.slice z6L z42.length z6M)],row (.slice z59 z3i.length z5a) 5 1 (z3i.flatMap e5),row (.slice z6L z42.length z6M) 5 1 (z42.flatMap e5),row (.slice z5V z3J.length z5W) 5 1 (z3J.flatMap e5)]) (env:=[(0,(.pointer (some ⟨z96,0,none⟩))),(1,(.int .u8 zaI)),(2,(.slice z5V z3J.length z5W))]) Tryd.func110 rfl Tryd.ntmps110 rfl (hown) rfl ?_
 refine WC.a (WL.pu rfl (WL.pu rfl (WL.pu rfl ?_)))
 refine WL.a (d:=9) rfl rfl rfl (y6 rfl) ?_
 refine WL.a (d:=10) rfl rfl rfl (y4 yo rfl rfl) ?_
 refine WL.a (d:=11) rfl rfl rfl (y4 yS rfl rfl) ?_
 refine WL.a (d:=12) rfl rfl rfl (y5 yd rfl (yb .here rfl)) ?_
 refine WL.pu rfl ?_
 refine WL.a (d:=14) rfl rfl rfl (yR (v:=(.agg #[(.int .u8 zaI),(.int .i64 z1H.fA),(.int .i64 0),(.slice z5V z3J.length z5W)])) (Eos.parts (l:=[.tmp 7,.tmp 12,.tmp 13]) (.cons rfl (.cons rfl (.cons rfl .nil))) [0,1,3]) (fun _=>by kernel_rfl)) ?_
 refine WL.a (d:=15) rfl rfl rfl (y6 rfl) ?_
 refine WL.a (d:=16) rfl rfl rfl (y4 y2e rfl rfl) ?_
 refine WL.yg rfl rfl (yK (ds:=[(.int .i64 z1d.fPc),(.int .i64 z1d.fLeft),(.int .u8 z1d.fRegs.a0),(.int .u8 z1d.fRegs.a1),(.int .u8 z1d.fRegs.a2),(.int .u8 z1d.fRegs.a3),(.int .u8 z1H.fOp),(.int .i64 z1H.fA),(.int .i64 z1H.fB),(.int .i64 z1H.fC),(.slice z59 z3i.length z5a),(.int .u8 zaI),(.int .i64 z1H.fA),(.int .i64 0),(.slice z5V z3J.length z5W)]) y1g rfl rfl rfl rfl rfl .here rfl rfl) ?_
 refine WL.nil ?_
 obtain rfl:=Option.some.inj h
 refine WX.y9 Tryd.results110 .nil (fun w hw=>?_)
 exact ⟨yC,hw.sub (.cons .here (.cons .here (.cons .h1 (.cons .here .nil))))⟩
def y1P (z18 : Sproc_State) (z1F : Sapi_Ins) (z35 : List Int) (z97 : Int) (z98 : Int) (z99 : Int) (z3j : List Int) : Option (Int × Int × List Int) :=
 (yj z18 z1F z35 z97 z98 z99 z3j z1F.fB).bind fun zuw=>chk ((0 : Int) ≤ z1F.fB ∧ z1F.fB < 4) ((y2H (nth ([z18.fRegs.a0,z18.fRegs.a1,z18.fRegs.a2,z18.fRegs.a3] : List Int) z1F.fB) z1F.fC).bind fun zgV=>(yi z18 z1F z35 z97 z98 z99 z3j 2 zgV).bind fun zgW=>some (zgW.1,zgW.2,zgV))
set_option maxRecDepth 20000 in
theorem y4L (Z : Zp) (z7O : Nat) (z5X : Option Addr) (z5Y : Nat) (z6N : Option Addr) (z6O : Nat) (z18 : Sproc_State) (z1F : Sapi_Ins) (z35 : List Int) (z97 : Int) (z98 : Int) (z99 : Int) (z3j : List Int) (r : Int × Int × List Int)
  (h : y1P z18 z1F z35 z97 z98 z99 z3j = some r) (w₀ : World) (hz : PZ (fps [stb z7O 65 [(.int .i64 z18.fPc),(.int .i64 z18.fLeft),(.int .u8 z18.fRegs.a0),(.int .u8 z18.fRegs.a1),(.int .u8 z18.fRegs.a2),(.int .u8 z18.fRegs.a3),(.int .u8 z1F.fOp),(.int .i64 z1F.fA),(.int .i64 z1F.fB),(.int .i64 z1F.fC),(.slice z5X z35.length z5Y),(.int .u8 z97),(.int .i64 z98),(.int .i64 z99),(.slice z6N z3j.length z6O)],row (.slice z5X z35.length z5Y) 5 1 (z35.flatMap e5),row (.slice z6N z3j.length z6O) 5 1 (z3j.flatMap e5)]) w₀ Z)
  (hown : Hp (fps [stb z7O 65 [(.int .i64 z18.fPc),(.int .i64 z18.fLeft),(.int .u8 z18.fRegs.a0),(.int .u8 z18.fRegs.a1),(.int .u8 z18.fRegs.a2),(.int .u8 z18.fRegs.a3),(.int .u8 z1F.fOp),(.int .i64 z1F.fA),(.int .i64 z1F.fB),(.int .i64 z1F.fC),(.slice z5X z35.length z5Y),(.int .u8 z97),(.int .i64 z98),(.int .i64 z99),(.slice z6N z3j.length z6O)],row (.slice z5X z35.length z5Y) 5 1 (z35.flatMap e5),row (.slice z6N z3j.length z6O) 5 1 (z3j.flatMap e5)]) w₀ w₀ [stb z7O 65 [(.int .i64 z18.fPc),(.int .i64 z18.fLeft),(.int .u8 z18.fRegs.a0),(.int .u8 z18.fRegs.a1),(.int .u8 z18.fRegs.a2),(.int .u8 z18.fRegs.a3),(.int .u8 z1F.fOp),(.int .i64 z1F.fA),(.int .i64 z1F.fB),(.int .i64 z1F.fC),(.slice z5X z35.length z5Y),(.int .u8 z97),(.int .i64 z98),(.int .i64 z99),(.slice z6N z3j.length z6O)],row (.slice z5X z35.length z5Y) 5 1 (z35.flatMap e5),row (.slice z6N z3j.length z6O) 5 1 (z3j.flatMap e5)]) :
  Calls Tryd.prog 89 #[(.pointer (some ⟨z7O,0,none⟩))] w₀ fun e w'=>∃ zkQ : Option Addr,∃ zkR : Nat,e = .returned (.tuple #[]) ∧ True ∧ Hp (fps [stb z7O 65 [(.int .i64 z18.fPc),(.int .i64 z18.fLeft),(.int .u8 z18.fRegs.a0),(.int .u8 z18.fRegs.a1),(.int .u8 z18.fRegs.a2),(.int .u8 z18.fRegs.a3),(.int .u8 z1F.fOp),(.int .i64 z1F.fA),(.int .i64 z1F.fB),(.int .i64 z1F.fC),(.slice z5X z35.length z5Y),(.int .u8 z97),(.int .i64 z98),(.int .i64 z99),(.slice z6N z3j.length z6O)],row (.slice z5X z35.length z5Y) 5 1 (z35.flatMap e5),row (.slice z6N z3j.length z6O) 5 1 (z3j.flatMap e5)]) w₀ w' [stb z7O 65 [(.int .i64 z18.fPc),(.int .i64 z18.fLeft),(.int .u8 z18.fRegs.a0),(.int .u8 z18.fRegs.a1),(.int .u8 z18.fRegs.a2),(.int .u8 z18.fRegs.a3),(.int .u8 z1F.fOp),(.int .i64 z1F.fA),(.int .i64 z1F.fB),(.int .i64 z1F.fC),(.slice z5X z35.length z5Y),(.int .u8 r.1),(.int .i64 r.2.1),(.int .i64 0),(.slice zkQ r.2.2.length zkR)],row (.slice z5X z35.length z5Y) 5 1 (z35.flatMap e5),row (.slice zkQ r.2.2.length zkR) 5 1 (r.2.2.flatMap e5),row (.slice z6N z3j.length z6O) 5 1 (z3j.flatMap e5)]:=by
 unfold y1P at h
 refine Calls.y8 (vs:=[(.pointer (some ⟨z7O,0,none⟩))]) (pre:=[stb z7O 65 [(.int .i64 z18.fPc),(.int .i64 z18.fLeft),(.int .u8 z18.fRegs.a0),(.int .u8 z18.fRegs.a1),(.int .u8 z18.fRegs.a2),(.int .u8 z18.fRegs.a3),(.int .u8 z1F.fOp),(.int .i64 z1F.fA),(.int .i64 z1F.fB),(.int .i64 z1F.fC),(.slice z5X z35.length z5Y),(.int .u8 z97),(.int .i64 z98),(.int .i64 z99),(.slice z6N z3j.length z6O)],row (.slice z5X z35.length z5Y) 5 1 (z35.flatMap e5),row (.slice z6N z3j.length z6O) 5 1 (z3j.flatMap e5)]) (env:=[(0,(.pointer (some ⟨z7O,0,none⟩)))]) Tryd.func89 rfl Tryd.ntmps89 rfl (hown) rfl ?_
 obtain ⟨zuw,zux,h⟩:=zd h
 obtain ⟨zuy,h⟩:=ya h
 obtain ⟨zgV,zuz,h⟩:=zd h
 obtain ⟨zgW,zuA,h⟩:=zd h
 refine WC.yX (fun i=>[7,16].contains i) [stbp z7O 65 [(9,(.int .i64 z1F.fC))]] rfl ?_
 refine WD.a (i:=0) (d:=2) (by kernel_rfl) rfl z2 z6 rfl rfl rfl (fun _=>q_m rfl) ?_
 refine WD.a (i:=1) (d:=3) (by kernel_rfl) rfl z2 z6 rfl rfl rfl (fun _=>q_m rfl) ?_
 refine WD.a (i:=2) (d:=4) (by kernel_rfl) rfl z2 z6 rfl rfl rfl (fun _=>q_m rfl) ?_
 refine WD.a (i:=3) (d:=5) (by kernel_rfl) rfl z2 z6 rfl rfl rfl (fun _=>y6 rfl) ?_
 refine WD.a (i:=4) (d:=6) (by kernel_rfl) rfl z2 z6 rfl rfl rfl (fun _=>y4 yo rfl rfl) ?_
 refine WD.a (i:=5) (d:=7) (by kernel_rfl) rfl z2 z6 rfl rfl rfl (fun _=>y4 y14 rfl rfl) ?_
 refine WD.e (i:=6) (d:=8) (by kernel_rfl) rfl z2 z6 rfl rfl rfl (y5 yd rfl (yb .here rfl)) ?_
 refine WD.a (i:=10) (d:=12) (by kernel_rfl) rfl z2 z6 rfl rfl rfl (fun _=>q_m rfl) ?_
 refine WD.a (i:=11) (d:=13) (by kernel_rfl) rfl z2 z6 rfl rfl rfl (fun _=>y6 rfl) ?_
 refine WD.a (i:=12) (d:=14) (by kernel_rfl) rfl z2 z6 rfl rfl rfl (fun _=>y4 yo rfl rfl) ?_
 refine WD.a (i:=13) (d:=15) (by kernel_rfl) rfl z2 z6 rfl rfl rfl (fun _=>y4 y3q rfl rfl) ?_
 refine WD.y1u (i:=14) (d:=16) (by kernel_rfl) rfl z2 z6 rfl rfl rfl (Sin.wk (.cons .here .nil) (.stb (.cons rfl .nil) .nil)) (y5 yd rfl (y65 .here (.head _))) ?_
 refine WD.call0 (i:=7) (dd:=9) rfl (by kernel_rfl) rfl rfl rfl (.inl ⟨rfl,(Sin.wk (.cons .h2 .nil) (.stb (.cons rfl .nil) .nil))⟩) (zl (l:=[.tmp 3,.tmp 8]) Tryd.call108 (.cons rfl (.cons rfl .nil))) (.cons .h1 (.cons .h1 .nil)) (ccl hz (.cons .h1 (.cons .h1 .nil)) (.cons .here .nil) fun w pz ho la=>Calls.mono (yr _ _ _ _ _ _ _ _ _ _ _ _ _ _ _ zux w pz ((la _ (.head _) _).stb) ho) (fun _ _ h'=>⟨h'.1,trivial,h'.2⟩)) ?_
 intro _
 refine WD.a (i:=8) (d:=10) (by kernel_rfl) rfl z2 z6 rfl rfl rfl (fun _=>y6 rfl) ?_
 refine WD.e (i:=9) (d:=11) (by kernel_rfl) rfl z2 z6 rfl rfl rfl (y5 yB rfl (yZ (l:=([z18.fRegs.a0,z18.fRegs.a1,z18.fRegs.a2,z18.fRegs.a3] : List Int)) (f:=Value.int .u8) (k:=2) (m:=6) .h2 rfl rfl zuy)) ?_
 refine WD.call2 (i:=15) (dd:=17) rfl (by kernel_rfl) rfl rfl rfl (.inr rfl) (zl (l:=[.tmp 11,.tmp 16]) Tryd.call111 (.cons rfl (.cons rfl .nil))) .nil (cc hz .nil fun w pz ho=>y62 _ _ _ _ zuz w pz ) ?_
 rintro zuB zuC _
 refine WD.call0 (i:=16) (dd:=18) rfl (by kernel_rfl) rfl rfl rfl (.inl ⟨rfl,(Sin.wk (.cons .here .nil) (.stb (.cons rfl .nil) .nil))⟩) (zl (l:=[.tmp 2,.const (.int .u8 2),.tmp 17]) Tryd.call110 (.cons rfl (.cons rfl (.cons rfl .nil)))) (.cons .h3 (.cons .h1 (.cons .h1 (.cons .here .nil)))) (cc hz (.cons .h3 (.cons .h1 (.cons .h1 (.cons .here .nil)))) fun w pz ho=>Calls.mono (y2k _ _ _ _ _ _ _ _ _ _ _ _ _ _ _ _ _ _ zuA w pz  ho) (fun _ _ h'=>⟨h'.1,trivial,h'.2⟩)) ?_
 intro _
 refine WD.done (by kernel_rfl) ?_
 obtain rfl:=Option.some.inj h
 refine WX.y9 Tryd.results89 .nil (fun w hw=>?_)
 exact ⟨zuB,zuC,yC,trivial,hw.sub (.cons .here (.cons .here (.cons .here (.cons .here .nil))))⟩
def yc (z1e : Sproc_State) (z1I : Sapi_Ins) (z3k : List Int) (zc2 : Int) (zc3 : Int) (zc4 : Int) (z43 : List Int) (zaJ : Int) (z9a : List Int) : Option (Int × Int) :=
 some (zaJ,z1I.fA)
set_option maxRecDepth 20000 in
theorem yH (Z : Zp) (z9b : Nat) (z5b : Option Addr) (z5c : Nat) (z6P : Option Addr) (z6Q : Nat) (zc5 : Option Addr) (zc6 : Nat) (z1e : Sproc_State) (z1I : Sapi_Ins) (z3k : List Int) (zc2 : Int) (zc3 : Int) (zc4 : Int) (z43 : List Int) (zaJ : Int) (z9a : List Int) (r : Int × Int)
  (h : yc z1e z1I z3k zc2 zc3 zc4 z43 zaJ z9a = some r) (w₀ : World) (hz : PZ (fps [stb z9b 65 [(.int .i64 z1e.fPc),(.int .i64 z1e.fLeft),(.int .u8 z1e.fRegs.a0),(.int .u8 z1e.fRegs.a1),(.int .u8 z1e.fRegs.a2),(.int .u8 z1e.fRegs.a3),(.int .u8 z1I.fOp),(.int .i64 z1I.fA),(.int .i64 z1I.fB),(.int .i64 z1I.fC),(.slice z5b z3k.length z5c),(.int .u8 zc2),(.int .i64 zc3),(.int .i64 zc4),(.slice z6P z43.length z6Q)],row (.slice z5b z3k.length z5c) 5 1 (z3k.flatMap e5),row (.slice z6P z43.length z6Q) 5 1 (z43.flatMap e5)]) w₀ Z)
  (zy2 : ZS Z 1 (fun r x=>r = e5 x) zc5 zc6 z9a)
  (hown : Hp (fps [stb z9b 65 [(.int .i64 z1e.fPc),(.int .i64 z1e.fLeft),(.int .u8 z1e.fRegs.a0),(.int .u8 z1e.fRegs.a1),(.int .u8 z1e.fRegs.a2),(.int .u8 z1e.fRegs.a3),(.int .u8 z1I.fOp),(.int .i64 z1I.fA),(.int .i64 z1I.fB),(.int .i64 z1I.fC),(.slice z5b z3k.length z5c),(.int .u8 zc2),(.int .i64 zc3),(.int .i64 zc4),(.slice z6P z43.length z6Q)],row (.slice z5b z3k.length z5c) 5 1 (z3k.flatMap e5),row (.slice z6P z43.length z6Q) 5 1 (z43.flatMap e5)]) w₀ w₀ [stb z9b 65 [(.int .i64 z1e.fPc),(.int .i64 z1e.fLeft),(.int .u8 z1e.fRegs.a0),(.int .u8 z1e.fRegs.a1),(.int .u8 z1e.fRegs.a2),(.int .u8 z1e.fRegs.a3),(.int .u8 z1I.fOp),(.int .i64 z1I.fA),(.int .i64 z1I.fB),(.int .i64 z1I.fC),(.slice z5b z3k.length z5c),(.int .u8 zc2),(.int .i64 zc3),(.int .i64 zc4),(.slice z6P z43.length z6Q)],row (.slice z5b z3k.length z5c) 5 1 (z3k.flatMap e5),row (.slice z6P z43.length z6Q) 5 1 (z43.flatMap e5)]) :
  Calls Tryd.prog 110 #[(.pointer (some ⟨z9b,0,none⟩)),(.int .u8 zaJ),(.slice zc5 z9a.length zc6)] w₀ fun e w'=>e = .returned (.tuple #[]) ∧ Hp (fps [stb z9b 65 [(.int .i64 z1e.fPc),(.int .i64 z1e.fLeft),(.int .u8 z1e.fRegs.a0),(.int .u8 z1e.fRegs.a1),(.int .u8 z1e.fRegs.a2),(.int .u8 z1e.fRegs.a3),(.int .u8 z1I.fOp),(.int .i64 z1I.fA),(.int .i64 z1I.fB),(.int .i64 z1I.fC),(.slice z5b z3k.length z5c),(.int .u8 zc2),(.int .i64 zc3),(.int .i64 zc4),(.slice z6P z43.length z6Q)],row (.slice z5b z3k.length z5c) 5 1 (z3k.flatMap e5),row (.slice z6P z43.length z6Q) 5 1 (z43.flatMap e5)]) w₀ w' [stb z9b 65 [(.int .i64 z1e.fPc),(.int .i64 z1e.fLeft),(.int .u8 z1e.fRegs.a0),(.int .u8 z1e.fRegs.a1),(.int .u8 z1e.fRegs.a2),(.int .u8 z1e.fRegs.a3),(.int .u8 z1I.fOp),(.int .i64 z1I.fA),(.int .i64 z1I.fB),(.int .i64 z1I.fC),(.slice z5b z3k.length z5c),(.int .u8 r.1),(.int .i64 r.2),(.int .i64 0),(.slice zc5 z9a.length zc6)],row (.slice z5b z3k.length z5c) 5 1 (z3k.flatMap e5),row (.slice z6P z43.length z6Q) 5 1 (z43.flatMap e5)]:=by
 unfold yc at h
 refine Calls.y8 (vs:=[(.pointer (some ⟨z9b,0,none⟩)),(.int .u8 zaJ),(.slice zc5 z9a.length zc6)]) (pre:=[stb z9b 65 [(.int .i64 z1e.fPc),(.int .i64 z1e.fLeft),(.int .u8 z1e.fRegs.a0),(.int .u8 z1e.fRegs.a1),(.int .u8 z1e.fRegs.a2),(.int .u8 z1e.fRegs.a3),(.int .u8 z1I.fOp),(.int .i64 z1I.fA),(.int .i64 z1I.fB),(.int .i64 z1I.fC),(.slice z5b z3k.length z5c),(.int .u8 zc2),(.int .i64 zc3),(.int .i64 zc4),(.slice z6P z43.length z6Q)],row (.slice z5b z3k.length z5c) 5 1 (z3k.flatMap e5),row (.slice z6P z43.length z6Q) 5 1 (z43.flatMap e5)]) (env:=[(0,(.pointer (some ⟨z9b,0,none⟩))),(1,(.int .u8 zaJ)),(2,(.slice zc5 z9a.length zc6))]) Tryd.func110 rfl Tryd.ntmps110 rfl (hown) rfl ?_
 refine WC.a (WL.pu rfl (WL.pu rfl (WL.pu rfl ?_)))
 refine WL.a (d:=9) rfl rfl rfl (y6 rfl) ?_
 refine WL.a (d:=10) rfl rfl rfl (y4 yo rfl rfl) ?_
 refine WL.a (d:=11) rfl rfl rfl (y4 yS rfl rfl) ?_
 refine WL.a (d:=12) rfl rfl rfl (y5 yd rfl (yb .here rfl)) ?_
 refine WL.pu rfl ?_
 refine WL.a (d:=14) rfl rfl rfl (yR (v:=(.agg #[(.int .u8 zaJ),(.int .i64 z1I.fA),(.int .i64 0),(.slice zc5 z9a.length zc6)])) (Eos.parts (l:=[.tmp 7,.tmp 12,.tmp 13]) (.cons rfl (.cons rfl (.cons rfl .nil))) [0,1,3]) (fun _=>by kernel_rfl)) ?_
 refine WL.a (d:=15) rfl rfl rfl (y6 rfl) ?_
 refine WL.a (d:=16) rfl rfl rfl (y4 y2e rfl rfl) ?_
 refine WL.yg rfl rfl (yK (ds:=[(.int .i64 z1e.fPc),(.int .i64 z1e.fLeft),(.int .u8 z1e.fRegs.a0),(.int .u8 z1e.fRegs.a1),(.int .u8 z1e.fRegs.a2),(.int .u8 z1e.fRegs.a3),(.int .u8 z1I.fOp),(.int .i64 z1I.fA),(.int .i64 z1I.fB),(.int .i64 z1I.fC),(.slice z5b z3k.length z5c),(.int .u8 zaJ),(.int .i64 z1I.fA),(.int .i64 0),(.slice zc5 z9a.length zc6)]) y1g rfl rfl rfl rfl rfl .here rfl rfl) ?_
 refine WL.nil ?_
 obtain rfl:=Option.some.inj h
 refine WX.y9 Tryd.results110 .nil (fun w hw=>?_)
 exact ⟨yC,hw.sub (.cons .here (.cons .here (.cons .here .nil)))⟩
def y1Q (z1m : Sproc_State) (z2p : Sapi_Ins) (z3l : List Int) (zaK : Int) (zaL : Int) (zaM : Int) (z3K : List Int) : Option (Int × Int) :=
 (yc z1m z2p z3l zaK zaL zaM z3K 3 []).bind fun zgX=>some (zgX.1,zgX.2)
set_option maxRecDepth 20000 in
theorem y4M (Z : Zp) (z9c : Nat) (z5Z : Option Addr) (z60 : Nat) (z6R : Option Addr) (z6S : Nat) (z1m : Sproc_State) (z2p : Sapi_Ins) (z3l : List Int) (zaK : Int) (zaL : Int) (zaM : Int) (z3K : List Int) (r : Int × Int)
  (h : y1Q z1m z2p z3l zaK zaL zaM z3K = some r) (w₀ : World) (hz : PZ (fps [stb z9c 65 [(.int .i64 z1m.fPc),(.int .i64 z1m.fLeft),(.int .u8 z1m.fRegs.a0),(.int .u8 z1m.fRegs.a1),(.int .u8 z1m.fRegs.a2),(.int .u8 z1m.fRegs.a3),(.int .u8 z2p.fOp),(.int .i64 z2p.fA),(.int .i64 z2p.fB),(.int .i64 z2p.fC),(.slice z5Z z3l.length z60),(.int .u8 zaK),(.int .i64 zaL),(.int .i64 zaM),(.slice z6R z3K.length z6S)],row (.slice z5Z z3l.length z60) 5 1 (z3l.flatMap e5),row (.slice z6R z3K.length z6S) 5 1 (z3K.flatMap e5)]) w₀ Z)
  (hown : Hp (fps [stb z9c 65 [(.int .i64 z1m.fPc),(.int .i64 z1m.fLeft),(.int .u8 z1m.fRegs.a0),(.int .u8 z1m.fRegs.a1),(.int .u8 z1m.fRegs.a2),(.int .u8 z1m.fRegs.a3),(.int .u8 z2p.fOp),(.int .i64 z2p.fA),(.int .i64 z2p.fB),(.int .i64 z2p.fC),(.slice z5Z z3l.length z60),(.int .u8 zaK),(.int .i64 zaL),(.int .i64 zaM),(.slice z6R z3K.length z6S)],row (.slice z5Z z3l.length z60) 5 1 (z3l.flatMap e5),row (.slice z6R z3K.length z6S) 5 1 (z3K.flatMap e5)]) w₀ w₀ [stb z9c 65 [(.int .i64 z1m.fPc),(.int .i64 z1m.fLeft),(.int .u8 z1m.fRegs.a0),(.int .u8 z1m.fRegs.a1),(.int .u8 z1m.fRegs.a2),(.int .u8 z1m.fRegs.a3),(.int .u8 z2p.fOp),(.int .i64 z2p.fA),(.int .i64 z2p.fB),(.int .i64 z2p.fC),(.slice z5Z z3l.length z60),(.int .u8 zaK),(.int .i64 zaL),(.int .i64 zaM),(.slice z6R z3K.length z6S)],row (.slice z5Z z3l.length z60) 5 1 (z3l.flatMap e5),row (.slice z6R z3K.length z6S) 5 1 (z3K.flatMap e5)]) :
  Calls Tryd.prog 90 #[(.pointer (some ⟨z9c,0,none⟩))] w₀ fun e w'=>e = .returned (.tuple #[]) ∧ Hp (fps [stb z9c 65 [(.int .i64 z1m.fPc),(.int .i64 z1m.fLeft),(.int .u8 z1m.fRegs.a0),(.int .u8 z1m.fRegs.a1),(.int .u8 z1m.fRegs.a2),(.int .u8 z1m.fRegs.a3),(.int .u8 z2p.fOp),(.int .i64 z2p.fA),(.int .i64 z2p.fB),(.int .i64 z2p.fC),(.slice z5Z z3l.length z60),(.int .u8 zaK),(.int .i64 zaL),(.int .i64 zaM),(.slice z6R z3K.length z6S)],row (.slice z5Z z3l.length z60) 5 1 (z3l.flatMap e5),row (.slice z6R z3K.length z6S) 5 1 (z3K.flatMap e5)]) w₀ w' [stb z9c 65 [(.int .i64 z1m.fPc),(.int .i64 z1m.fLeft),(.int .u8 z1m.fRegs.a0),(.int .u8 z1m.fRegs.a1),(.int .u8 z1m.fRegs.a2),(.int .u8 z1m.fRegs.a3),(.int .u8 z2p.fOp),(.int .i64 z2p.fA),(.int .i64 z2p.fB),(.int .i64 z2p.fC),(.slice z5Z z3l.length z60),(.int .u8 r.1),(.int .i64 r.2),(.int .i64 0),(.slice none 0 0)],row (.slice z5Z z3l.length z60) 5 1 (z3l.flatMap e5),row (.slice z6R z3K.length z6S) 5 1 (z3K.flatMap e5)]:=by
 unfold y1Q at h
 refine Calls.y8 (vs:=[(.pointer (some ⟨z9c,0,none⟩))]) (pre:=[stb z9c 65 [(.int .i64 z1m.fPc),(.int .i64 z1m.fLeft),(.int .u8 z1m.fRegs.a0),(.int .u8 z1m.fRegs.a1),(.int .u8 z1m.fRegs.a2),(.int .u8 z1m.fRegs.a3),(.int .u8 z2p.fOp),(.int .i64 z2p.fA),(.int .i64 z2p.fB),(.int .i64 z2p.fC),(.slice z5Z z3l.length z60),(.int .u8 zaK),(.int .i64 zaL),(.int .i64 zaM),(.slice z6R z3K.length z6S)],row (.slice z5Z z3l.length z60) 5 1 (z3l.flatMap e5),row (.slice z6R z3K.length z6S) 5 1 (z3K.flatMap e5)]) (env:=[(0,(.pointer (some ⟨z9c,0,none⟩)))]) Tryd.func90 rfl Tryd.ntmps90 rfl (hown) rfl ?_
 obtain ⟨zgX,zuD,h⟩:=zd h
 refine WC.a (WL.pu rfl ?_)
 refine WL.b (dd:=3) rfl rfl rfl (zl (l:=[.tmp 2,.const (.int .u8 3),.const (.slice none 0 0)]) Tryd.call110 (.cons rfl (.cons rfl (.cons rfl .nil)))) (.cons .here (.cons .here (.cons .here .nil))) (cc hz (.cons .here (.cons .here (.cons .here .nil))) fun w pz ho=>yH _ _ _ _ _ _ _ _ _ _ _ _ _ _ _ _ _ _ zuD w pz (ZS.nil _ _ _) ho) ?_
 refine WL.nil ?_
 obtain rfl:=Option.some.inj h
 refine WX.y9 Tryd.results90 .nil (fun w hw=>?_)
 exact ⟨yC,hw.sub (.cons .here (.cons .here (.cons .here .nil)))⟩
def y1R (z1n : Sproc_State) (z2q : Sapi_Ins) (z3m : List Int) (zaN : Int) (zaO : Int) (zaP : Int) (z3L : List Int) : Option (Int × Int) :=
 (yc z1n z2q z3m zaN zaO zaP z3L 4 []).bind fun zgY=>some (zgY.1,zgY.2)
set_option maxRecDepth 20000 in
theorem y4N (Z : Zp) (z9d : Nat) (z61 : Option Addr) (z62 : Nat) (z6T : Option Addr) (z6U : Nat) (z1n : Sproc_State) (z2q : Sapi_Ins) (z3m : List Int) (zaN : Int) (zaO : Int) (zaP : Int) (z3L : List Int) (r : Int × Int)
  (h : y1R z1n z2q z3m zaN zaO zaP z3L = some r) (w₀ : World) (hz : PZ (fps [stb z9d 65 [(.int .i64 z1n.fPc),(.int .i64 z1n.fLeft),(.int .u8 z1n.fRegs.a0),(.int .u8 z1n.fRegs.a1),(.int .u8 z1n.fRegs.a2),(.int .u8 z1n.fRegs.a3),(.int .u8 z2q.fOp),(.int .i64 z2q.fA),(.int .i64 z2q.fB),(.int .i64 z2q.fC),(.slice z61 z3m.length z62),(.int .u8 zaN),(.int .i64 zaO),(.int .i64 zaP),(.slice z6T z3L.length z6U)],row (.slice z61 z3m.length z62) 5 1 (z3m.flatMap e5),row (.slice z6T z3L.length z6U) 5 1 (z3L.flatMap e5)]) w₀ Z)
  (hown : Hp (fps [stb z9d 65 [(.int .i64 z1n.fPc),(.int .i64 z1n.fLeft),(.int .u8 z1n.fRegs.a0),(.int .u8 z1n.fRegs.a1),(.int .u8 z1n.fRegs.a2),(.int .u8 z1n.fRegs.a3),(.int .u8 z2q.fOp),(.int .i64 z2q.fA),(.int .i64 z2q.fB),(.int .i64 z2q.fC),(.slice z61 z3m.length z62),(.int .u8 zaN),(.int .i64 zaO),(.int .i64 zaP),(.slice z6T z3L.length z6U)],row (.slice z61 z3m.length z62) 5 1 (z3m.flatMap e5),row (.slice z6T z3L.length z6U) 5 1 (z3L.flatMap e5)]) w₀ w₀ [stb z9d 65 [(.int .i64 z1n.fPc),(.int .i64 z1n.fLeft),(.int .u8 z1n.fRegs.a0),(.int .u8 z1n.fRegs.a1),(.int .u8 z1n.fRegs.a2),(.int .u8 z1n.fRegs.a3),(.int .u8 z2q.fOp),(.int .i64 z2q.fA),(.int .i64 z2q.fB),(.int .i64 z2q.fC),(.slice z61 z3m.length z62),(.int .u8 zaN),(.int .i64 zaO),(.int .i64 zaP),(.slice z6T z3L.length z6U)],row (.slice z61 z3m.length z62) 5 1 (z3m.flatMap e5),row (.slice z6T z3L.length z6U) 5 1 (z3L.flatMap e5)]) :
  Calls Tryd.prog 91 #[(.pointer (some ⟨z9d,0,none⟩))] w₀ fun e w'=>e = .returned (.tuple #[]) ∧ Hp (fps [stb z9d 65 [(.int .i64 z1n.fPc),(.int .i64 z1n.fLeft),(.int .u8 z1n.fRegs.a0),(.int .u8 z1n.fRegs.a1),(.int .u8 z1n.fRegs.a2),(.int .u8 z1n.fRegs.a3),(.int .u8 z2q.fOp),(.int .i64 z2q.fA),(.int .i64 z2q.fB),(.int .i64 z2q.fC),(.slice z61 z3m.length z62),(.int .u8 zaN),(.int .i64 zaO),(.int .i64 zaP),(.slice z6T z3L.length z6U)],row (.slice z61 z3m.length z62) 5 1 (z3m.flatMap e5),row (.slice z6T z3L.length z6U) 5 1 (z3L.flatMap e5)]) w₀ w' [stb z9d 65 [(.int .i64 z1n.fPc),(.int .i64 z1n.fLeft),(.int .u8 z1n.fRegs.a0),(.int .u8 z1n.fRegs.a1),(.int .u8 z1n.fRegs.a2),(.int .u8 z1n.fRegs.a3),(.int .u8 z2q.fOp),(.int .i64 z2q.fA),(.int .i64 z2q.fB),(.int .i64 z2q.fC),(.slice z61 z3m.length z62),(.int .u8 r.1),(.int .i64 r.2),(.int .i64 0),(.slice none 0 0)],row (.slice z61 z3m.length z62) 5 1 (z3m.flatMap e5),row (.slice z6T z3L.length z6U) 5 1 (z3L.flatMap e5)]:=by
 unfold y1R at h
 refine Calls.y8 (vs:=[(.pointer (some ⟨z9d,0,none⟩))]) (pre:=[stb z9d 65 [(.int .i64 z1n.fPc),(.int .i64 z1n.fLeft),(.int .u8 z1n.fRegs.a0),(.int .u8 z1n.fRegs.a1),(.int .u8 z1n.fRegs.a2),(.int .u8 z1n.fRegs.a3),(.int .u8 z2q.fOp),(.int .i64 z2q.fA),(.int .i64 z2q.fB),(.int .i64 z2q.fC),(.slice z61 z3m.length z62),(.int .u8 zaN),(.int .i64 zaO),(.int .i64 zaP),(.slice z6T z3L.length z6U)],row (.slice z61 z3m.length z62) 5 1 (z3m.flatMap e5),row (.slice z6T z3L.length z6U) 5 1 (z3L.flatMap e5)]) (env:=[(0,(.pointer (some ⟨z9d,0,none⟩)))]) Tryd.func91 rfl Tryd.ntmps91 rfl (hown) rfl ?_
 obtain ⟨zgY,zuE,h⟩:=zd h
 refine WC.a (WL.pu rfl ?_)
 refine WL.b (dd:=3) rfl rfl rfl (zl (l:=[.tmp 2,.const (.int .u8 4),.const (.slice none 0 0)]) Tryd.call110 (.cons rfl (.cons rfl (.cons rfl .nil)))) (.cons .here (.cons .here (.cons .here .nil))) (cc hz (.cons .here (.cons .here (.cons .here .nil))) fun w pz ho=>yH _ _ _ _ _ _ _ _ _ _ _ _ _ _ _ _ _ _ zuE w pz (ZS.nil _ _ _) ho) ?_
 refine WL.nil ?_
 obtain rfl:=Option.some.inj h
 refine WX.y9 Tryd.results91 .nil (fun w hw=>?_)
 exact ⟨yC,hw.sub (.cons .here (.cons .here (.cons .here .nil)))⟩
def y1B (z1o : Sproc_State) (z2r : Sapi_Ins) (z3n : List Int) (zaQ : Int) (zaR : Int) (zaS : Int) (z3M : List Int) : Option (Int × Int) :=
 (yc z1o z2r z3n zaQ zaR zaS z3M 5 []).bind fun zgZ=>some (zgZ.1,zgZ.2)
set_option maxRecDepth 20000 in
theorem y4k (Z : Zp) (z9e : Nat) (z63 : Option Addr) (z64 : Nat) (z6V : Option Addr) (z6W : Nat) (z1o : Sproc_State) (z2r : Sapi_Ins) (z3n : List Int) (zaQ : Int) (zaR : Int) (zaS : Int) (z3M : List Int) (r : Int × Int)
  (h : y1B z1o z2r z3n zaQ zaR zaS z3M = some r) (w₀ : World) (hz : PZ (fps [stb z9e 65 [(.int .i64 z1o.fPc),(.int .i64 z1o.fLeft),(.int .u8 z1o.fRegs.a0),(.int .u8 z1o.fRegs.a1),(.int .u8 z1o.fRegs.a2),(.int .u8 z1o.fRegs.a3),(.int .u8 z2r.fOp),(.int .i64 z2r.fA),(.int .i64 z2r.fB),(.int .i64 z2r.fC),(.slice z63 z3n.length z64),(.int .u8 zaQ),(.int .i64 zaR),(.int .i64 zaS),(.slice z6V z3M.length z6W)],row (.slice z63 z3n.length z64) 5 1 (z3n.flatMap e5),row (.slice z6V z3M.length z6W) 5 1 (z3M.flatMap e5)]) w₀ Z)
  (hown : Hp (fps [stb z9e 65 [(.int .i64 z1o.fPc),(.int .i64 z1o.fLeft),(.int .u8 z1o.fRegs.a0),(.int .u8 z1o.fRegs.a1),(.int .u8 z1o.fRegs.a2),(.int .u8 z1o.fRegs.a3),(.int .u8 z2r.fOp),(.int .i64 z2r.fA),(.int .i64 z2r.fB),(.int .i64 z2r.fC),(.slice z63 z3n.length z64),(.int .u8 zaQ),(.int .i64 zaR),(.int .i64 zaS),(.slice z6V z3M.length z6W)],row (.slice z63 z3n.length z64) 5 1 (z3n.flatMap e5),row (.slice z6V z3M.length z6W) 5 1 (z3M.flatMap e5)]) w₀ w₀ [stb z9e 65 [(.int .i64 z1o.fPc),(.int .i64 z1o.fLeft),(.int .u8 z1o.fRegs.a0),(.int .u8 z1o.fRegs.a1),(.int .u8 z1o.fRegs.a2),(.int .u8 z1o.fRegs.a3),(.int .u8 z2r.fOp),(.int .i64 z2r.fA),(.int .i64 z2r.fB),(.int .i64 z2r.fC),(.slice z63 z3n.length z64),(.int .u8 zaQ),(.int .i64 zaR),(.int .i64 zaS),(.slice z6V z3M.length z6W)],row (.slice z63 z3n.length z64) 5 1 (z3n.flatMap e5),row (.slice z6V z3M.length z6W) 5 1 (z3M.flatMap e5)]) :
  Calls Tryd.prog 92 #[(.pointer (some ⟨z9e,0,none⟩))] w₀ fun e w'=>e = .returned (.tuple #[]) ∧ Hp (fps [stb z9e 65 [(.int .i64 z1o.fPc),(.int .i64 z1o.fLeft),(.int .u8 z1o.fRegs.a0),(.int .u8 z1o.fRegs.a1),(.int .u8 z1o.fRegs.a2),(.int .u8 z1o.fRegs.a3),(.int .u8 z2r.fOp),(.int .i64 z2r.fA),(.int .i64 z2r.fB),(.int .i64 z2r.fC),(.slice z63 z3n.length z64),(.int .u8 zaQ),(.int .i64 zaR),(.int .i64 zaS),(.slice z6V z3M.length z6W)],row (.slice z63 z3n.length z64) 5 1 (z3n.flatMap e5),row (.slice z6V z3M.length z6W) 5 1 (z3M.flatMap e5)]) w₀ w' [stb z9e 65 [(.int .i64 z1o.fPc),(.int .i64 z1o.fLeft),(.int .u8 z1o.fRegs.a0),(.int .u8 z1o.fRegs.a1),(.int .u8 z1o.fRegs.a2),(.int .u8 z1o.fRegs.a3),(.int .u8 z2r.fOp),(.int .i64 z2r.fA),(.int .i64 z2r.fB),(.int .i64 z2r.fC),(.slice z63 z3n.length z64),(.int .u8 r.1),(.int .i64 r.2),(.int .i64 0),(.slice none 0 0)],row (.slice z63 z3n.length z64) 5 1 (z3n.flatMap e5),row (.slice z6V z3M.length z6W) 5 1 (z3M.flatMap e5)]:=by
 unfold y1B at h
 refine Calls.y8 (vs:=[(.pointer (some ⟨z9e,0,none⟩))]) (pre:=[stb z9e 65 [(.int .i64 z1o.fPc),(.int .i64 z1o.fLeft),(.int .u8 z1o.fRegs.a0),(.int .u8 z1o.fRegs.a1),(.int .u8 z1o.fRegs.a2),(.int .u8 z1o.fRegs.a3),(.int .u8 z2r.fOp),(.int .i64 z2r.fA),(.int .i64 z2r.fB),(.int .i64 z2r.fC),(.slice z63 z3n.length z64),(.int .u8 zaQ),(.int .i64 zaR),(.int .i64 zaS),(.slice z6V z3M.length z6W)],row (.slice z63 z3n.length z64) 5 1 (z3n.flatMap e5),row (.slice z6V z3M.length z6W) 5 1 (z3M.flatMap e5)]) (env:=[(0,(.pointer (some ⟨z9e,0,none⟩)))]) Tryd.func92 rfl Tryd.ntmps92 rfl (hown) rfl ?_
 obtain ⟨zgZ,zuF,h⟩:=zd h
 refine WC.a (WL.pu rfl ?_)
 refine WL.b (dd:=3) rfl rfl rfl (zl (l:=[.tmp 2,.const (.int .u8 5),.const (.slice none 0 0)]) Tryd.call110 (.cons rfl (.cons rfl (.cons rfl .nil)))) (.cons .here (.cons .here (.cons .here .nil))) (cc hz (.cons .here (.cons .here (.cons .here .nil))) fun w pz ho=>yH _ _ _ _ _ _ _ _ _ _ _ _ _ _ _ _ _ _ zuF w pz (ZS.nil _ _ _) ho) ?_
 refine WL.nil ?_
 obtain rfl:=Option.some.inj h
 refine WX.y9 Tryd.results92 .nil (fun w hw=>?_)
 exact ⟨yC,hw.sub (.cons .here (.cons .here (.cons .here .nil)))⟩
end Go.Proofs.YtjdnejbngloieaaDoor

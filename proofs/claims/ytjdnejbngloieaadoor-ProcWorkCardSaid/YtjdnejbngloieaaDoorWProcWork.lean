/- A part of this claim's proof: models of functions, walks, plain laws. No conditions. -/
import Derived.Test.YtjdnejbngloieaaDoorW26e
namespace Go.Proofs.YtjdnejbngloieaaDoor
open Go Go.RowKit Sep
set_option linter.all false
set_option maxRecDepth 30000
set_option maxHeartbeats 4000000
def yZ (z1I : Int) (z2d : List Int) (zM : S34) (z49 : (List Sapi_Ins) → Int → Int → Int → Int → Int → Int → Option Bool) : Nat → (List Sapi_Ins) → Int → Int → Int → Int → Int → Int → Int → Option Bool
 | 0,_,_,_,_,_,_,_,_=>none
 | z9x + 1,z2i,z1X,z2I,z2J,z2K,z2L,z2M,z2N=>if decide (z1X ≤ (i64 (1 + z1I))) then (y1f z2i (⟨z2I,z2J,(⟨z2K,z2L,z2M,z2N⟩ : S34)⟩ : Sproc_State) z2d).bind fun zR=>(y11 zR.2 (⟨0,0,0,[]⟩ : Sproc_Act)).bind fun z7p=>if (((!z7p) || (decide (zR.1.fRegs ≠ zM))) || ((decide (zR.1.fPc = 1)) != (decide (z1X = (i64 (1 + z1I)))))) || ((decide (zR.1.fPc ≠ 1)) && ((decide (zR.1.fPc ≠ 0)) || (decide (zR.1.fLeft ≠ (i64 ((i64 (1 + z1I)) - z1X)))))) then some false else yZ z1I z2d zM z49 z9x z2i (i64 (z1X + 1)) zR.1.fPc zR.1.fLeft zR.1.fRegs.a0 zR.1.fRegs.a1 zR.1.fRegs.a2 zR.1.fRegs.a3 else z49 z2i z2I z2J z2K z2L z2M z2N
theorem y3t {n : Nat} {z1I : Int} {z2d : List Int} {zM : S34} {z49 : (List Sapi_Ins) → Int → Int → Int → Int → Int → Int → Option Bool} {z2i : List Sapi_Ins} {z1X : Int} {z2I : Int} {z2J : Int} {z2K : Int} {z2L : Int} {z2M : Int} {z2N : Int} {r : Bool} (h : yZ z1I z2d zM z49 n z2i z1X z2I z2J z2K z2L z2M z2N = some r) : ∃ m,n = m + 1:=by
 cases n with
 | zero=>cases h
 | succ m=>exact ⟨m,rfl⟩
def y2j (z5n : Int) (zM : S34) (z2d : List Int) : Option Bool :=
 (y2G).bind fun zcJ=>if !zcJ then some false else if decide (((z2d.length : Nat) : Int) > 5000) then some true else (y34 z5n 2000).bind fun z1I=>(yB 1 ([i64 (1 + z1I)] : List Int)).bind fun z7q=>(yB 19 []).bind fun z7r=>jp7 (fun (z4a : List Sapi_Ins) (z5o : Int) (z3b : Int) (z5p : Int) (z5q : Int) (z5r : Int) (z5s : Int)=>(y1a z4a 0).bind fun z6R=>some (((decide (z3b = 0)) && (decide (z6R.1 = (i64 ((i64 (1 + z1I)) + 1))))) && z6R.2)) fun z49=>yZ z1I z2d zM z49 y1o ([z7q,z7r] : List Sapi_Ins) 1 0 0 zM.a0 zM.a1 zM.a2 zM.a3
set_option maxRecDepth 20000 in
theorem y54 (Z : Zp) (z6S : Option Addr) (z6T : Nat) (z5n : Int) (zM : S34) (z2d : List Int) (r : Bool)
  (h : y2j z5n zM z2d = some r) (w₀ : World) (hz : PZ [] w₀ Z)
  (hG0 : ZC Z ⟨0,0,none⟩ tabG0)
  (hG1 : ZS Z 1 (p74 Z) (some ⟨1,0,none⟩) 26 yP)
  (zlE : ZS Z 1 (fun r x=>r = e5 x) z6S z6T z2d) :
  Calls Tryd.prog 5 #[(.int .i64 z5n),(.agg #[(.int .u8 zM.a0),(.int .u8 zM.a1),(.int .u8 zM.a2),(.int .u8 zM.a3)]),(.slice z6S z2d.length z6T)] w₀ fun e w'=>∃ Zn : Zp,e = .returned (.bool r) ∧ True ∧ Hp [] w₀ w' [fz Zn]:=by
 unfold y2j at h
 refine Calls.y9 (vs:=[(.int .i64 z5n),(.agg #[(.int .u8 zM.a0),(.int .u8 zM.a1),(.int .u8 zM.a2),(.int .u8 zM.a3)]),(.slice z6S z2d.length z6T)]) (pre:=[]) (env:=[(0,(.int .i64 z5n)),(1,(.agg #[(.int .u8 zM.a0),(.int .u8 zM.a1),(.int .u8 zM.a2),(.int .u8 zM.a3)])),(2,(.slice z6S z2d.length z6T))]) Tryd.func5 rfl Tryd.ntmps5 rfl (Hp.nil w₀ _) rfl ?_
 refine WC.pool (WC.b (WC.a ?_))
 refine WL.new (dd:=4) rfl rfl rfl (y3e (cs:=[(.int .u8 zM.a0),(.int .u8 zM.a1),(.int .u8 zM.a2),(.int .u8 zM.a3)]) rfl rfl) ?_
 intro zcK _
 refine WL.pu rfl (WL.nil (WX.a (WC.b (WC.b ?_))))
 obtain ⟨zcJ,zlF,h⟩:=zh h
 refine WC.a ?_
 refine WL.y6H (dd:=15) rfl rfl rfl (zI (l:=[]) Tryd.call9 .nil) .nil (ccz hz .nil .h1 fun w pz ho=>y5F _ _ zlF w pz (hG0.mono (Zle.left _ _)) ((hG1.mono (Zle.left _ _)).weak (fun _ _ h=>yV (Zle.left _ _) h))) ?_
 rintro z7Y _
 refine WL.merge .here .h1 ?_
 refine WL.pu rfl (WL.nil (WX.a ?_))
 refine WC.cond rfl (fun z9y=>?_) (fun z9y=>?_)
 ·replace h:=yn h z9y
  refine WC.b (WC.a (WL.pu rfl (WL.nil (WX.a (WC.ret (WX.yd ?_))))))
  obtain rfl:=Option.some.inj h
  refine WX.yf Tryd.results5 (.tmp rfl .nil) (fun w hw=>?_)
  exact ⟨([] ++ z7Y),y17 rfl,trivial,hw.sub (.cons .here .nil)⟩
 ·replace h:=yo h z9y
  refine WC.skip (WX.a (WC.b (WC.b (WC.a (WL.pu rfl ?_)))))
  refine WL.a (d:=18) rfl rfl rfl (y27 Tryd.underlying35 rfl) ?_
  refine WL.pu rfl (WL.nil (WX.a ?_))
  refine WC.cond rfl (fun z9z=>?_) (fun z9z=>?_)
  ·replace h:=yn h z9z
   refine WC.b (WC.a (WL.pu rfl (WL.nil (WX.a (WC.ret (WX.yd ?_))))))
   obtain rfl:=Option.some.inj h
   refine WX.yf Tryd.results5 (.tmp rfl .nil) (fun w hw=>?_)
   exact ⟨([] ++ z7Y),y17 rfl,trivial,hw.sub (.cons .here .nil)⟩
  ·replace h:=yo h z9z
   refine WC.skip (WX.a (WC.b ?_))
   obtain ⟨z1I,zlG,h⟩:=zh h
   refine WC.a (WL.pu rfl ?_)
   refine WL.b (dd:=21) rfl rfl rfl (zI (l:=[.tmp 20,.const (.int .i64 2000)]) Tryd.call16 (.cons rfl (.cons rfl .nil))) .nil (ccz hz .nil .here fun w pz ho=>y6C _ _ _ _ zlG w pz ) ?_
   refine WL.pu rfl (WL.pu rfl (WL.nil (WX.a (WC.b ?_))))
   obtain ⟨z7q,zlH,h⟩:=zh h
   obtain ⟨z7r,zlI,h⟩:=zh h
   refine WC.a (WL.pu rfl ?_)
   refine WL.new (dd:=24) rfl rfl rfl (yp (cs:=([i64 (1 + z1I)] : List Int).flatMap e3) yC (Eos.parts (l:=[.tmp 23]) (.cons rfl .nil) [0]) (fun _=>by kernel_rfl) rfl (by unfold maxLen; omega)) ?_
   intro znc _
   refine WL.b (dd:=25) rfl rfl rfl (zI (l:=[.const (.int .u8 1),.tmp 24]) Tryd.call17 (.cons rfl (.cons rfl .nil))) .nil (y2c hz .nil .h1 (.cons .here .nil) fun w pz ho la=>y19 _ _ _ _ _ _ zlH w pz (ZA.row (la _ (.head _) _) (RR.yM (enc:=e3) (fun _=>rfl) _) ⟨w,pz.1⟩)) ?_
   refine WL.b (dd:=26) rfl rfl rfl (zI (l:=[.const (.int .u8 19),.const (.slice none 0 0)]) Tryd.call17 (.cons rfl (.cons rfl .nil))) .nil (ccz hz .nil .h1 fun w pz ho=>y19 _ _ _ _ _ _ zlI w pz (ZS.nil _ _ _)) ?_
   refine WL.new (dd:=27) rfl rfl rfl (yp (cs:=([z7q,z7r] : List Sapi_Ins).flatMap e33) y2E (Eos.parts (l:=[.tmp 25,.tmp 26]) (.cons rfl (.cons rfl .nil)) [0,1]) (fun _=>by kernel_rfl) rfl (by unfold maxLen; omega)) ?_
   intro zlJ _
   refine WL.pu rfl (WL.nil (WX.a (WC.b (WC.a ?_))))
   refine WL.a (d:=28) rfl rfl rfl (yT y5n rfl (yR .h3) rfl) ?_
   refine WL.a (d:=29) rfl rfl rfl (yX (v:=(.agg #[(.int .i64 0),(.int .i64 0),(.int .u8 zM.a0),(.int .u8 zM.a1),(.int .u8 zM.a2),(.int .u8 zM.a3)])) (Eos.parts (l:=[.tmp 28]) (.cons rfl .nil) [2]) (fun _=>by kernel_rfl)) ?_
   refine WL.new (dd:=9) rfl rfl rfl (yw (cs:=[(.int .i64 0),(.int .i64 0),(.int .u8 0),(.int .u8 0),(.int .u8 0),(.int .u8 0)]) y1q rfl) ?_
   intro z7Z _
   refine WL.yk rfl rfl (yu y1V rfl rfl rfl .here rfl rfl rfl) ?_
   refine WL.nil (WX.a ?_)
   obtain ⟨z49,zlK,h⟩:=jp7_elim h
   refine WC.y68 (fun (z4a : List Sapi_Ins) (z5o : Int) (z3b : Int) (z5p : Int) (z5q : Int) (z5r : Int) (z5s : Int) (z5t : Zp) (z7s : Option Addr) (z7t : Nat)=>(z49 z4a z5o z3b z5p z5q z5r z5s = some r) ∧ (Zle (Z ++ ([] ++ z7Y)) (Z ++ z5t)) ∧ (ZS (Z ++ z5t) 4 (fun r x=>r = e33 x) z7s z7t z4a)) (fun (z4a : List Sapi_Ins) (z5o : Int) (z3b : Int) (z5p : Int) (z5q : Int) (z5r : Int) (z5s : Int) (z5t : Zp) (z7s : Option Addr) (z7t : Nat)=>[(7,(.int .i64 (i64 (1 + z1I)))),(8,(.slice z7s z4a.length z7t)),(9,(.pointer (some ⟨z7Z,0,none⟩)))]) (fun (z4a : List Sapi_Ins) (z5o : Int) (z3b : Int) (z5p : Int) (z5q : Int) (z5r : Int) (z5s : Int) (z5t : Zp) (z7s : Option Addr) (z7t : Nat)=>[fz z5t,stb z7Z 39 [(.int .i64 z5o),(.int .i64 z3b),(.int .u8 z5p),(.int .u8 z5q),(.int .u8 z5r),(.int .u8 z5s)]]) ?_ ?_
   ·skip
    refine WC.b (WC.a (WL.pu rfl (WL.nil (WX.a (WC.block ?_)))))
    refine WC.freezeS (ls:=([z7q,z7r] : List Sapi_Ins)) .h1 .h2 hz (RR.yM (enc:=e33) (fun _=>rfl) _) ?_
    intro zlL zlM zlN
    refine WC.y6I (fun (z6U : Nat) (z2i : List Sapi_Ins) (z1X : Int) (z2I : Int) (z2J : Int) (z2K : Int) (z2L : Int) (z2M : Int) (z2N : Int) (z3c : Zp) (z4X : Option Addr) (z4Y : Nat)=>(yZ z1I z2d zM z49 z6U z2i z1X z2I z2J z2K z2L z2M z2N = some r) ∧ (Zle (Z ++ ([] ++ z7Y)) (Z ++ z3c)) ∧ (ZS (Z ++ z3c) 4 (fun r x=>r = e33 x) z4X z4Y z2i)) (fun (z6U : Nat) (z2i : List Sapi_Ins) (z1X : Int) (z2I : Int) (z2J : Int) (z2K : Int) (z2L : Int) (z2M : Int) (z2N : Int) (z3c : Zp) (z4X : Option Addr) (z4Y : Nat)=>[(2,(.slice z6S z2d.length z6T)),(4,(.pointer (some ⟨zcK,0,none⟩))),(7,(.int .i64 (i64 (1 + z1I)))),(8,(.slice z4X z2i.length z4Y)),(9,(.pointer (some ⟨z7Z,0,none⟩))),(10,(.int .i64 z1X))]) (fun (z6U : Nat) (z2i : List Sapi_Ins) (z1X : Int) (z2I : Int) (z2J : Int) (z2K : Int) (z2L : Int) (z2M : Int) (z2N : Int) (z3c : Zp) (z4X : Option Addr) (z4Y : Nat)=>[fz z3c,stb zcK 34 [(.int .u8 zM.a0),(.int .u8 zM.a1),(.int .u8 zM.a2),(.int .u8 zM.a3)],stb z7Z 39 [(.int .i64 z2I),(.int .i64 z2J),(.int .u8 z2K),(.int .u8 z2L),(.int .u8 z2M),(.int .u8 z2N)]]) (fun (z6U : Nat) (z2i : List Sapi_Ins) (z1X : Int) (z2I : Int) (z2J : Int) (z2K : Int) (z2L : Int) (z2M : Int) (z2N : Int) (z3c : Zp) (z4X : Option Addr) (z4Y : Nat)=>z6U) ⟨y1o,([z7q,z7r] : List Sapi_Ins),1,0,0,zM.a0,zM.a1,zM.a2,zM.a3,zlL,(some ⟨zlJ,0,none⟩),2⟩ ⟨h,zlM,zlN⟩ (.cons rfl (.cons rfl (.cons rfl (.cons rfl (.cons rfl (.cons rfl .nil)))))) (.cons .here (.cons .h2 (.cons .here .nil))) ?_
    rintro z6U z2i z1X z2I z2J z2K z2L z2M z2N z3c z4X z4Y ⟨h,z6V,z9A⟩
    obtain ⟨z9x,rfl⟩:=y3t h
    rw [yZ] at h
    refine WC.b (WC.b (WC.a (WL.pu rfl (WL.pu rfl (WL.pu rfl (WL.nil (WX.a ?_)))))))
    refine WC.cond rfl (fun z9B=>?_) (fun z9B=>?_)
    ·replace h:=yn h z9B
     refine WC.skip (WX.a (WC.b (WC.block (WC.b ?_))))
     obtain ⟨zR,zlO,h⟩:=zh h
     refine WC.a (WL.pu rfl ?_)
     refine WL.a (d:=37) rfl rfl rfl (yT y1W rfl (yR .h2) rfl) ?_
     refine WL.pu rfl ?_
     refine WL.y3a (dd:=39) rfl rfl rfl (zI (l:=[.tmp 36,.tmp 37,.tmp 38]) Tryd.call18 (.cons rfl (.cons rfl (.cons rfl .nil)))) .nil (ccz hz .nil .here fun w pz ho=>y1z _ _ _ _ _ _ _ _ _ zlO w pz (hG0.mono ((Zle.left _ _).trans ((Zle.left _ _).trans ((Zle.y5 _ _ _).trans z6V)))) ((hG1.mono ((Zle.left _ _).trans ((Zle.left _ _).trans ((Zle.y5 _ _ _).trans z6V)))).weak (fun _ _ h=>yV ((Zle.left _ _).trans ((Zle.left _ _).trans ((Zle.y5 _ _ _).trans z6V))) h)) z9A (zlE.mono ((Zle.left _ _).trans ((Zle.left _ _).trans ((Zle.y5 _ _ _).trans z6V))))) ?_
     rintro zcL znd zne zlP
     refine WL.merge .here .here ?_
     refine WL.pu rfl (WL.pu rfl (WL.pu rfl ?_))
     refine WL.new (dd:=11) rfl rfl rfl (yw (cs:=[(.int .i64 0),(.int .i64 0),(.int .u8 0),(.int .u8 0),(.int .u8 0),(.int .u8 0)]) y1q rfl) ?_
     intro znf _
     refine WL.new (dd:=12) rfl rfl rfl (yw (cs:=[(.int .u8 0),(.int .i64 0),(.int .i64 0),(.slice none 0 0)]) y2b rfl) ?_
     intro zng _
     refine WL.yk rfl rfl (yu y1V rfl rfl rfl .h1 rfl rfl rfl) ?_
     refine WL.yk rfl rfl (yu y1Y rfl rfl rfl .h1 rfl rfl rfl) ?_
     refine WL.nil (WX.a (WC.b (WC.a ?_)))
     refine WL.a (d:=42) rfl rfl rfl (yT y1W rfl (yR .h1) rfl) ?_
     refine WL.yk rfl rfl (yu y1V rfl rfl rfl .h4 rfl rfl rfl) ?_
     refine WL.nil (WX.a (WC.b ?_))
     obtain ⟨z7p,zlQ,h⟩:=zh h
     refine WC.a ?_
     refine WL.a (d:=43) rfl rfl rfl (yT y2N rfl (yR .h1) rfl) ?_
     refine WL.a (d:=44) rfl rfl rfl (yX (v:=(.agg #[(.int .u8 0),(.int .i64 0),(.int .i64 0),(.slice none 0 0)])) (Eos.parts (l:=[]) .nil []) (fun _=>by kernel_rfl)) ?_
     refine WL.b (dd:=45) rfl rfl rfl (zI (l:=[.tmp 43,.tmp 44]) Tryd.call19 (.cons rfl (.cons rfl .nil))) .nil (ccz hz .nil .h3 fun w pz ho=>y29 _ _ _ _ _ _ _ _ zlQ w pz (zlP.mono (Zle.y5 _ _ _)) (ZS.nil _ _ _)) ?_
     refine WL.pu rfl (WL.pu rfl ?_)
     refine WL.seg false 4 47 (B:=(!z7p) || (decide (zR.1.fRegs ≠ zM))) rfl rfl rfl rfl rfl rfl (fun h=>(or_l h).symm) (fun _ zlR=>?_) ?_
     ·skip
      refine WL.a (d:=48) rfl rfl rfl (y4 y6m rfl rfl) ?_
      refine WL.a (d:=49) rfl rfl rfl (y4O (cs:=[(.int .u8 zR.1.fRegs.a0),(.int .u8 zR.1.fRegs.a1),(.int .u8 zR.1.fRegs.a2),(.int .u8 zR.1.fRegs.a3)]) y5n rfl rfl (y5L (s:=4) .here rfl)) ?_
      refine WL.a (d:=50) rfl rfl rfl (yT y5n rfl (yR .h4) rfl) ?_
      refine WL.a (d:=51) rfl rfl rfl (y5Q (enc:=e34) (a:=zR.1.fRegs) (b:=zM) eqT_34 rfl rfl) ?_
      refine WL.pu rfl ?_
      exact WL.yv (or_r zlR) rfl rfl .all
     refine WL.pu rfl ?_
     refine WL.seg false 7 53 (B:=((!z7p) || (decide (zR.1.fRegs ≠ zM))) || ((decide (zR.1.fPc = 1)) != (decide (z1X = (i64 (1 + z1I)))))) rfl rfl rfl rfl rfl rfl (fun h=>(or_l h).symm) (fun _ zlS=>?_) ?_
     ·skip
      refine WL.a (d:=54) rfl rfl rfl (y4 y1X rfl rfl) ?_
      refine WL.a (d:=55) rfl rfl rfl (y6 yg rfl (yb .here rfl)) ?_
      refine WL.pu rfl (WL.pu rfl (WL.pu rfl (WL.pu rfl ?_)))
      refine WL.a (d:=60) rfl rfl rfl (q_bneq Tryd.underlying4 rfl rfl) ?_
      refine WL.pu rfl ?_
      exact WL.yv (or_r zlS) rfl rfl .all
     refine WL.pu rfl ?_
     refine WL.seg false 16 62 (B:=(((!z7p) || (decide (zR.1.fRegs ≠ zM))) || ((decide (zR.1.fPc = 1)) != (decide (z1X = (i64 (1 + z1I)))))) || ((decide (zR.1.fPc ≠ 1)) && ((decide (zR.1.fPc ≠ 0)) || (decide (zR.1.fLeft ≠ (i64 ((i64 (1 + z1I)) - z1X))))))) rfl rfl rfl rfl rfl rfl (fun h=>(or_l h).symm) (fun _ zlT=>?_) ?_
     ·skip
      refine WL.a (d:=63) rfl rfl rfl (y4 y1X rfl rfl) ?_
      refine WL.a (d:=64) rfl rfl rfl (y6 yg rfl (yb .here rfl)) ?_
      refine WL.pu rfl (WL.pu rfl ?_)
      refine WL.seg true 11 66 (B:=(decide (zR.1.fPc ≠ 1)) && ((decide (zR.1.fPc ≠ 0)) || (decide (zR.1.fLeft ≠ (i64 ((i64 (1 + z1I)) - z1X)))))) rfl rfl rfl rfl rfl rfl (fun h=>(y2W h).symm) (fun _ zlU=>?_) ?_
      ·skip
       refine WL.a (d:=67) rfl rfl rfl (y4 y1X rfl rfl) ?_
       refine WL.a (d:=68) rfl rfl rfl (y6 yg rfl (yb .here rfl)) ?_
       refine WL.pu rfl (WL.pu rfl ?_)
       refine WL.seg false 6 70 (B:=(decide (zR.1.fPc ≠ 0)) || (decide (zR.1.fLeft ≠ (i64 ((i64 (1 + z1I)) - z1X))))) rfl rfl rfl rfl rfl rfl (fun h=>(or_l h).symm) (fun _ zlV=>?_) ?_
       ·skip
        refine WL.a (d:=71) rfl rfl rfl (y4 y38 rfl rfl) ?_
        refine WL.a (d:=72) rfl rfl rfl (y6 yg rfl (yb .here rfl)) ?_
        refine WL.pu rfl (WL.pu rfl (WL.pu rfl (WL.pu rfl (WL.pu rfl ?_))))
        exact WL.yv (or_r zlV) rfl rfl .all
       refine WL.pu rfl ?_
       exact WL.yv (y2X zlU) rfl rfl .all
      refine WL.pu rfl ?_
      exact WL.yv (or_r zlT) rfl rfl .all
     refine WL.nil (WX.a ?_)
     refine WC.cond rfl (fun z9C=>?_) (fun z9C=>?_)
     ·replace h:=yn h z9C
      refine WC.b (WC.a (WL.pu rfl (WL.nil (WX.a (WC.ret (WX.yD (WX.yd (WX.yd (WX.yD (WX.yd ?_))))))))))
      obtain rfl:=Option.some.inj h
      refine WX.yf Tryd.results5 (.tmp rfl .nil) (fun w hw=>?_)
      exact ⟨(z3c ++ zcL),y17 rfl,trivial,hw.sub (.cons .h3 .nil)⟩
     ·replace h:=yo h z9C
      refine WC.skip (WX.yi (WX.a (WC.a (WL.pu rfl (WL.pu rfl (WL.pu rfl (WL.nil ?_)))))))
      exact WX.round (G:=Nat × List Sapi_Ins × Int × Int × Int × Int × Int × Int × Int × Zp × Option Addr × Nat) ⟨z9x,z2i,(i64 (z1X + 1)),zR.1.fPc,zR.1.fLeft,zR.1.fRegs.a0,zR.1.fRegs.a1,zR.1.fRegs.a2,zR.1.fRegs.a3,(z3c ++ zcL),z4X,z4Y⟩ ⟨h,(z6V.trans ((Zle.left _ _).trans (Zle.y5 _ _ _))),(z9A.mono ((Zle.left _ _).trans (Zle.y5 _ _ _)))⟩ (Nat.lt_succ_self _) (.cons rfl (.cons rfl (.cons rfl (.cons rfl (.cons rfl (.cons rfl .nil)))))) (.cons .h3 (.cons .h3 (.cons .here .nil)))
    ·replace h:=yo h z9B
     refine WC.exit (WX.yA (WX.yA (WX.y1s ?_)))
     exact WX.mid (G:=List Sapi_Ins × Int × Int × Int × Int × Int × Int × Zp × Option Addr × Nat) ⟨z2i,z2I,z2J,z2K,z2L,z2M,z2N,z3c,z4X,z4Y⟩ ⟨h,z6V,z9A⟩ (.cons rfl (.cons rfl (.cons rfl .nil))) (.cons .here (.cons .h1 .nil))
   ·rintro z4a z5o z3b z5p z5q z5r z5s z5t z7s z7t ⟨h,zcM,zlW⟩
    replace h:=(zlK z4a z5o z3b z5p z5q z5r z5s).symm.trans h
    refine WC.b ?_
    obtain ⟨z6R,zlX,h⟩:=zh h
    refine WC.a (WL.pu rfl ?_)
    refine WL.b (dd:=82) rfl rfl rfl (zI (l:=[.tmp 81,.const (.int .i64 0)]) Tryd.call13 (.cons rfl (.cons rfl .nil))) .nil (ccz hz .nil .here fun w pz ho=>y2A _ _ _ _ _ _ zlX w pz ((hG1.mono ((Zle.left _ _).trans ((Zle.left _ _).trans ((Zle.y5 _ _ _).trans zcM)))).weak (fun _ _ h=>yV ((Zle.left _ _).trans ((Zle.left _ _).trans ((Zle.y5 _ _ _).trans zcM))) h)) zlW) ?_
    refine WL.pu rfl (WL.pu rfl (WL.pu rfl (WL.pu rfl (WL.pu rfl (WL.nil (WX.a (WC.b (WC.a ?_))))))))
    refine WL.a (d:=85) rfl rfl rfl (y4 y38 rfl rfl) ?_
    refine WL.a (d:=86) rfl rfl rfl (y6 yg rfl (yb .h1 rfl)) ?_
    refine WL.pu rfl (WL.pu rfl ?_)
    refine WL.seg true 4 88 (B:=(decide (z3b = 0)) && (decide (z6R.1 = (i64 ((i64 (1 + z1I)) + 1))))) rfl rfl rfl rfl rfl rfl (fun h=>(y2W h).symm) (fun _ zlY=>?_) ?_
    ·skip
     refine WL.pu rfl (WL.pu rfl (WL.pu rfl (WL.pu rfl (WL.pu rfl ?_))))
     exact WL.yv (y2X zlY) rfl rfl .all
    refine WL.pu rfl ?_
    refine WL.seg true 1 94 (B:=((decide (z3b = 0)) && (decide (z6R.1 = (i64 ((i64 (1 + z1I)) + 1))))) && z6R.2) rfl rfl rfl rfl rfl rfl (fun h=>(y2W h).symm) (fun _ zlZ=>?_) ?_
    ·skip
     refine WL.pu rfl (WL.pu rfl ?_)
     exact WL.yv (y2X zlZ) rfl rfl .all
    refine WL.pu rfl (WL.nil (WX.a (WC.ret ?_)))
    obtain rfl:=Option.some.inj h
    refine WX.yf Tryd.results5 (.tmp rfl .nil) (fun w hw=>?_)
    exact ⟨z5t,y17 rfl,trivial,hw.sub (.cons .here .nil)⟩
end Go.Proofs.YtjdnejbngloieaaDoor

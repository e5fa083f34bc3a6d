/- A part of this claim's proof: models of functions, walks, plain laws. No conditions. -/
import Derived.Test.YtjdnejbngloieaaDoorW26e
namespace Go.Proofs.YtjdnejbngloieaaDoor
open Go Go.RowKit Sep
set_option linter.all false
set_option maxRecDepth 30000
set_option maxHeartbeats 4000000
def yR (ze : Sproc_State × Sproc_Act) (zw : Sproc_State) (z49 : Int → Option Bool) : Nat → Int → Int → Option Bool
 | 0,_,_=>none
 | z9p + 1,z2l,z29=>if decide (z29 < 4) then jp1 (fun (z4a : Int)=>yR ze zw z49 z9p z4a (i64 (z29 + 1))) fun z7R=>chk ((0 : Int) ≤ z29 ∧ z29 < 4) (if decide ((nth ([ze.1.fRegs.a0,ze.1.fRegs.a1,ze.1.fRegs.a2,ze.1.fRegs.a3] : List Int) z29) ≠ (nth ([zw.fRegs.a0,zw.fRegs.a1,zw.fRegs.a2,zw.fRegs.a3] : List Int) z29)) then z7R (i64 (z2l + 1)) else z7R z2l) else z49 z2l
theorem y3d {n : Nat} {ze : Sproc_State × Sproc_Act} {zw : Sproc_State} {z49 : Int → Option Bool} {z2l : Int} {z29 : Int} {r : Bool} (h : yR ze zw z49 n z2l z29 = some r) : ∃ m,n = m + 1:=by
 cases n with
 | zero=>cases h
 | succ m=>exact ⟨m,rfl⟩
def yS (zN : List Int) (z4b : (List Int) → Option Bool) : Nat → (List Int) → Int → Option Bool
 | 0,_,_=>none
 | z9q + 1,z1U,z1l=>if decide (z1l < ((zN.length : Nat) : Int)) then chk ((0 : Int) ≤ z1l ∧ z1l < ((zN.length : Nat) : Int)) (chk ((0 : Int) ≤ z1l ∧ z1l < ((z1U.length : Nat) : Int)) (yS zN z4b z9q (z1U.set (z1l : Int).toNat (u8 ((nth zN z1l) + 1))) (i64 (z1l + 1)))) else z4b z1U
theorem y3e {n : Nat} {zN : List Int} {z4b : (List Int) → Option Bool} {z1U : List Int} {z1l : Int} {r : Bool} (h : yS zN z4b n z1U z1l = some r) : ∃ m,n = m + 1:=by
 cases n with
 | zero=>cases h
 | succ m=>exact ⟨m,rfl⟩
def y27 (z1G : List Sapi_Ins) (zw : Sproc_State) (zN : List Int) : Option Bool :=
 (y2G).bind fun zcG=>if !zcG then some false else if (decide (((z1G.length : Nat) : Int) > 200)) || (decide (((zN.length : Nat) : Int) > 5000)) then some true else (y12 z1G zw zN).bind fun ze=>jp1 (fun (z2f : Int)=>if (((decide (z2f > 1)) || ((decide (ze.2.fKind ≠ 0)) && (decide (z2f > 0)))) || (decide (ze.2.fKind > 16))) || ((decide (ze.2.fKind = 15)) && ((decide (ze.2.fA < 2)) || (decide (ze.2.fA > 5)))) then some false else if ((decide (ze.2.fKind = 1)) && ((((decide (ze.2.fA < 0)) || (decide (ze.2.fA ≥ ((zN.length : Nat) : Int)))) || (decide (ze.2.fB < 0))) || (decide (ze.2.fB > 255)))) || ((decide (ze.2.fKind = 2)) && ((decide (((ze.2.fData.length : Nat) : Int) < 1)) || (decide (((ze.2.fData.length : Nat) : Int) > 64)))) then some false else chk (((decide (zw.fPc ≥ 0)) && (decide (zw.fPc < ((z1G.length : Nat) : Int)))) = true → ((0 : Int) ≤ zw.fPc ∧ zw.fPc < ((z1G.length : Nat) : Int))) (if ((decide (zw.fPc ≥ 0)) && (decide (zw.fPc < ((z1G.length : Nat) : Int)))) && (decide (((nth z1G zw.fPc).fOp) = 5)) then some true else chk ((0 : Int) ≤ ((zN.length : Nat) : Int) ∧ (((zN.length : Nat) : Int) : Int) ≤ ((zN.length : Nat) : Int) ∧ (((zN.length : Nat) : Int) : Int) * 1 ≤ 140737488355328 ∧ (((zN.length : Nat) : Int) : Int) ≤ 4611686018427387904) (jp1 (fun (z2s : List Int)=>(y12 z1G zw z2s).bind fun z5n=>(if decide (ze.1 = z5n.1) then (yM ze.2 z5n.2).bind fun z7S=>some z7S else some false).bind fun z7i=>some z7i) fun z4b=>yS zN z4b y1M (List.replicate (((zN.length : Nat) : Int) : Int).toNat (0 : Int)) 0))) fun z49=>yR ze zw z49 y1M 0 0
set_option maxRecDepth 20000 in
theorem y4Q (Z : Zp) (z37 : Option Addr) (z38 : Nat) (z4c : Option Addr) (z4d : Nat) (z1G : List Sapi_Ins) (zw : Sproc_State) (zN : List Int) (r : Bool)
  (h : y27 z1G zw zN = some r) (w₀ : World) (hz : PZ [] w₀ Z)
  (hG0 : ZC Z ⟨0,0,none⟩ tabG0)
  (hG1 : ZS Z 1 (p74 Z) (some ⟨1,0,none⟩) 26 yX)
  (z9r : ZS Z 4 (fun r x=>r = e33 x) z37 z38 z1G)
  (zcH : ZS Z 1 (fun r x=>r = e5 x) z4c z4d zN) :
  Calls Tryd.prog 6 #[(.slice z37 z1G.length z38),(.agg #[(.int .i64 zw.fPc),(.int .i64 zw.fLeft),(.int .u8 zw.fRegs.a0),(.int .u8 zw.fRegs.a1),(.int .u8 zw.fRegs.a2),(.int .u8 zw.fRegs.a3)]),(.slice z4c zN.length z4d)] w₀ fun e w'=>∃ Zn : Zp,e = .returned (.bool r) ∧ True ∧ Hp [] w₀ w' [fz Zn]:=by
 unfold y27 at h
 refine Calls.y9 (vs:=[(.slice z37 z1G.length z38),(.agg #[(.int .i64 zw.fPc),(.int .i64 zw.fLeft),(.int .u8 zw.fRegs.a0),(.int .u8 zw.fRegs.a1),(.int .u8 zw.fRegs.a2),(.int .u8 zw.fRegs.a3)]),(.slice z4c zN.length z4d)]) (pre:=[]) (env:=[(0,(.slice z37 z1G.length z38)),(1,(.agg #[(.int .i64 zw.fPc),(.int .i64 zw.fLeft),(.int .u8 zw.fRegs.a0),(.int .u8 zw.fRegs.a1),(.int .u8 zw.fRegs.a2),(.int .u8 zw.fRegs.a3)])),(2,(.slice z4c zN.length z4d))]) Tryd.func6 rfl Tryd.ntmps6 rfl (Hp.nil w₀ _) rfl ?_
 refine WC.pool (WC.b (WC.a ?_))
 refine WL.new (dd:=4) rfl rfl rfl (y3b (cs:=[(.int .i64 zw.fPc),(.int .i64 zw.fLeft),(.int .u8 zw.fRegs.a0),(.int .u8 zw.fRegs.a1),(.int .u8 zw.fRegs.a2),(.int .u8 zw.fRegs.a3)]) rfl rfl) ?_
 intro z39 _
 refine WL.pu rfl (WL.nil (WX.a (WC.b (WC.b ?_))))
 obtain ⟨zcG,zlz,h⟩:=zi h
 refine WC.a ?_
 refine WL.y6s (dd:=15) rfl rfl rfl (zK (l:=[]) Tryd.call9 .nil) .nil (ccz hz .nil .h1 fun w pz ho=>y5z _ _ zlz w pz (hG0.mono (Zle.left _ _)) ((hG1.mono (Zle.left _ _)).weak (fun _ _ h=>yQ (Zle.left _ _) h))) ?_
 rintro z2K _
 refine WL.merge .here .h1 ?_
 refine WL.pu rfl (WL.nil (WX.a ?_))
 refine WC.cond rfl (fun z9s=>?_) (fun z9s=>?_)
 ·replace h:=ym h z9s
  refine WC.b (WC.a (WL.pu rfl (WL.nil (WX.a (WC.ret (WX.yd ?_))))))
  obtain rfl:=Option.some.inj h
  refine WX.yg Tryd.results6 (.tmp rfl .nil) (fun w hw=>?_)
  exact ⟨([] ++ z2K),yZ rfl,trivial,hw.sub (.cons .here .nil)⟩
 ·replace h:=yn h z9s
  refine WC.skip (WX.a (WC.b (WC.b (WC.a (WL.pu rfl ?_)))))
  refine WL.a (d:=18) rfl rfl rfl (y1a Tryd.underlying22 rfl) ?_
  refine WL.pu rfl (WL.pu rfl ?_)
  refine WL.seg false 3 20 (B:=(decide (((z1G.length : Nat) : Int) > 200)) || (decide (((zN.length : Nat) : Int) > 5000))) rfl rfl rfl rfl rfl rfl (fun h=>(y2X h).symm) (fun _ zlA=>?_) ?_
  ·skip
   refine WL.pu rfl ?_
   refine WL.a (d:=22) rfl rfl rfl (y1a Tryd.underlying35 rfl) ?_
   refine WL.pu rfl (WL.pu rfl ?_)
   exact WL.yj (y2Y zlA) rfl rfl .all
  refine WL.nil (WX.a ?_)
  refine WC.cond rfl (fun z9t=>?_) (fun z9t=>?_)
  ·replace h:=ym h z9t
   refine WC.b (WC.a (WL.pu rfl (WL.nil (WX.a (WC.ret (WX.yd ?_))))))
   obtain rfl:=Option.some.inj h
   refine WX.yg Tryd.results6 (.tmp rfl .nil) (fun w hw=>?_)
   exact ⟨([] ++ z2K),yZ rfl,trivial,hw.sub (.cons .here .nil)⟩
  ·replace h:=yn h z9t
   refine WC.skip (WX.a (WC.b ?_))
   obtain ⟨ze,zlB,h⟩:=zi h
   refine WC.a (WL.pu rfl ?_)
   refine WL.a (d:=27) rfl rfl rfl (yJ y1p rfl (yH .h1) rfl) ?_
   refine WL.pu rfl ?_
   refine WL.y2K (dd:=29) rfl rfl rfl (zK (l:=[.tmp 26,.tmp 27,.tmp 28]) Tryd.call18 (.cons rfl (.cons rfl (.cons rfl .nil)))) .nil (ccz hz .nil .here fun w pz ho=>y1d _ _ _ _ _ _ _ _ _ zlB w pz (hG0.mono ((Zle.left _ _).trans ((Zle.left _ _).trans (Zle.y5 _ _ _)))) ((hG1.mono ((Zle.left _ _).trans ((Zle.left _ _).trans (Zle.y5 _ _ _)))).weak (fun _ _ h=>yQ ((Zle.left _ _).trans ((Zle.left _ _).trans (Zle.y5 _ _ _))) h)) (z9r.mono ((Zle.left _ _).trans ((Zle.left _ _).trans (Zle.y5 _ _ _)))) (zcH.mono ((Zle.left _ _).trans ((Zle.left _ _).trans (Zle.y5 _ _ _))))) ?_
   rintro z3a z7j z7k zlC
   refine WL.merge .here .here ?_
   refine WL.pu rfl (WL.pu rfl (WL.pu rfl ?_))
   refine WL.new (dd:=7) rfl rfl rfl (yv (cs:=[(.int .i64 0),(.int .i64 0),(.int .u8 0),(.int .u8 0),(.int .u8 0),(.int .u8 0)]) y1o rfl) ?_
   intro z3b _
   refine WL.new (dd:=8) rfl rfl rfl (yv (cs:=[(.int .u8 0),(.int .i64 0),(.int .i64 0),(.slice none 0 0)]) y1X rfl) ?_
   intro z3c _
   refine WL.yk rfl rfl (ys y21 rfl rfl rfl .h1 rfl rfl rfl) ?_
   refine WL.yk rfl rfl (ys y1z rfl rfl rfl .h1 rfl rfl rfl) ?_
   refine WL.nil (WX.a (WC.b (WC.a (WL.pu rfl (WL.nil (WX.a ?_))))))
   obtain ⟨z49,zlD,h⟩:=y2p h
   refine WC.y2d (fun (z2f : Int)=>(z49 z2f = some r)) (fun (z2f : Int)=>[(0,(.slice z37 z1G.length z38)),(2,(.slice z4c zN.length z4d)),(4,(.pointer (some ⟨z39,0,none⟩))),(7,(.pointer (some ⟨z3b,0,none⟩))),(8,(.pointer (some ⟨z3c,0,none⟩))),(9,(.int .i64 z2f))]) (fun (z2f : Int)=>[fz (([] ++ z2K) ++ z3a),stb z39 39 [(.int .i64 zw.fPc),(.int .i64 zw.fLeft),(.int .u8 zw.fRegs.a0),(.int .u8 zw.fRegs.a1),(.int .u8 zw.fRegs.a2),(.int .u8 zw.fRegs.a3)],stb z3b 39 [(.int .i64 ze.1.fPc),(.int .i64 ze.1.fLeft),(.int .u8 ze.1.fRegs.a0),(.int .u8 ze.1.fRegs.a1),(.int .u8 ze.1.fRegs.a2),(.int .u8 ze.1.fRegs.a3)],stb z3c 41 [(.int .u8 ze.2.fKind),(.int .i64 ze.2.fA),(.int .i64 ze.2.fB),(.slice z7j ze.2.fData.length z7k)]]) ?_ ?_
   ·skip
    refine WC.b (WC.a (WL.pu rfl (WL.nil (WX.a (WC.block ?_)))))
    refine WC.y4S (fun (z6L : Nat) (z2l : Int) (z29 : Int)=>(yR ze zw z49 z6L z2l z29 = some r)) (fun (z6L : Nat) (z2l : Int) (z29 : Int)=>[(0,(.slice z37 z1G.length z38)),(2,(.slice z4c zN.length z4d)),(4,(.pointer (some ⟨z39,0,none⟩))),(7,(.pointer (some ⟨z3b,0,none⟩))),(8,(.pointer (some ⟨z3c,0,none⟩))),(9,(.int .i64 z2l)),(10,(.int .i64 z29))]) (fun (z6L : Nat) (z2l : Int) (z29 : Int)=>[fz (([] ++ z2K) ++ z3a),stb z39 39 [(.int .i64 zw.fPc),(.int .i64 zw.fLeft),(.int .u8 zw.fRegs.a0),(.int .u8 zw.fRegs.a1),(.int .u8 zw.fRegs.a2),(.int .u8 zw.fRegs.a3)],stb z3b 39 [(.int .i64 ze.1.fPc),(.int .i64 ze.1.fLeft),(.int .u8 ze.1.fRegs.a0),(.int .u8 ze.1.fRegs.a1),(.int .u8 ze.1.fRegs.a2),(.int .u8 ze.1.fRegs.a3)],stb z3c 41 [(.int .u8 ze.2.fKind),(.int .i64 ze.2.fA),(.int .i64 ze.2.fB),(.slice z7j ze.2.fData.length z7k)]]) (fun (z6L : Nat) (z2l : Int) (z29 : Int)=>z6L) ⟨y1M,0,0⟩ h (.cons rfl (.cons rfl (.cons rfl (.cons rfl (.cons rfl (.cons rfl (.cons rfl .nil))))))) (.cons .h2 (.cons .h2 (.cons .h1 (.cons .here .nil)))) ?_
    rintro z6L z2l z29 h
    obtain ⟨z9p,rfl⟩:=y3d h
    rw [yR] at h
    refine WC.b (WC.b (WC.a (WL.pu rfl (WL.pu rfl (WL.nil (WX.a ?_))))))
    refine WC.cond rfl (fun z9u=>?_) (fun z9u=>?_)
    ·replace h:=ym h z9u
     refine WC.skip (WX.a ?_)
     obtain ⟨z7R,zlE,h⟩:=y2p h
     refine WC.y2d (fun (z4a : Int)=>(z7R z4a = some r)) (fun (z4a : Int)=>[(0,(.slice z37 z1G.length z38)),(2,(.slice z4c zN.length z4d)),(4,(.pointer (some ⟨z39,0,none⟩))),(7,(.pointer (some ⟨z3b,0,none⟩))),(8,(.pointer (some ⟨z3c,0,none⟩))),(9,(.int .i64 z4a)),(10,(.int .i64 z29))]) (fun (z4a : Int)=>[fz (([] ++ z2K) ++ z3a),stb z39 39 [(.int .i64 zw.fPc),(.int .i64 zw.fLeft),(.int .u8 zw.fRegs.a0),(.int .u8 zw.fRegs.a1),(.int .u8 zw.fRegs.a2),(.int .u8 zw.fRegs.a3)],stb z3b 39 [(.int .i64 ze.1.fPc),(.int .i64 ze.1.fLeft),(.int .u8 ze.1.fRegs.a0),(.int .u8 ze.1.fRegs.a1),(.int .u8 ze.1.fRegs.a2),(.int .u8 ze.1.fRegs.a3)],stb z3c 41 [(.int .u8 ze.2.fKind),(.int .i64 ze.2.fA),(.int .i64 ze.2.fB),(.slice z7j ze.2.fData.length z7k)]]) ?_ ?_
     ·skip
      refine WC.block (WC.b ?_)
      obtain ⟨z7T,h⟩:=yb h
      refine WC.y1h (fun i=>[].contains i) [] rfl ?_
      refine WD.a (i:=0) (d:=36) (by kernel_rfl) rfl z7 z8 rfl rfl rfl (fun _=>q_m rfl) ?_
      refine WD.a (i:=1) (d:=37) (by kernel_rfl) rfl z7 z8 rfl rfl rfl (fun _=>y4 y5k rfl rfl) ?_
      refine WD.a (i:=2) (d:=38) (by kernel_rfl) rfl z7 z8 rfl rfl rfl (fun _=>y2L y5P rfl rfl z7T y4G) ?_
      refine WD.e (i:=3) (d:=39) (by kernel_rfl) rfl z7 z8 rfl rfl rfl (y6 yx rfl (y1x (l:=([ze.1.fRegs.a0,ze.1.fRegs.a1,ze.1.fRegs.a2,ze.1.fRegs.a3] : List Int)) (f:=Value.int .u8) (k:=2) (m:=6) .h2 rfl rfl z7T)) ?_
      refine WD.a (i:=4) (d:=40) (by kernel_rfl) rfl z7 z8 rfl rfl rfl (fun _=>q_m rfl) ?_
      refine WD.a (i:=5) (d:=41) (by kernel_rfl) rfl z7 z8 rfl rfl rfl (fun _=>y4 y5k rfl rfl) ?_
      refine WD.a (i:=6) (d:=42) (by kernel_rfl) rfl z7 z8 rfl rfl rfl (fun _=>y2L y5P rfl rfl z7T y4G) ?_
      refine WD.e (i:=7) (d:=43) (by kernel_rfl) rfl z7 z8 rfl rfl rfl (y6 yx rfl (y1x (l:=([zw.fRegs.a0,zw.fRegs.a1,zw.fRegs.a2,zw.fRegs.a3] : List Int)) (f:=Value.int .u8) (k:=2) (m:=6) .h1 rfl rfl z7T)) ?_
      refine WD.a (i:=8) (d:=44) (by kernel_rfl) rfl z7 z8 rfl rfl rfl (fun _=>q_neq rfl rfl) ?_
      refine WD.done (by kernel_rfl) ?_
      refine WX.a ?_
      refine WC.cond rfl (fun z9v=>?_) (fun z9v=>?_)
      ·replace h:=ym h z9v
       refine WC.a (WL.pu rfl (WL.pu rfl (WL.pu rfl (WL.nil (WX.yi ?_)))))
       exact WX.mid (G:=Int) (i64 (z2l + 1)) h (.cons rfl (.cons rfl (.cons rfl (.cons rfl (.cons rfl (.cons rfl (.cons rfl .nil))))))) (.cons .here (.cons .here (.cons .here (.cons .here .nil))))
      ·replace h:=yn h z9v
       refine WC.skip (WX.yi ?_)
       exact WX.mid (G:=Int) z2l h (.cons rfl (.cons rfl (.cons rfl (.cons rfl (.cons rfl (.cons rfl (.cons rfl .nil))))))) (.cons .here (.cons .here (.cons .here (.cons .here .nil))))
     ·rintro z4a h
      replace h:=(zlE z4a).symm.trans h
      refine WC.a (WL.pu rfl (WL.pu rfl (WL.pu rfl (WL.nil ?_))))
      exact WX.round (G:=Nat × Int × Int) ⟨z9p,z4a,(i64 (z29 + 1))⟩ h (Nat.lt_succ_self _) (.cons rfl (.cons rfl (.cons rfl (.cons rfl (.cons rfl (.cons rfl (.cons rfl .nil))))))) (.cons .here (.cons .here (.cons .here (.cons .here .nil))))
    ·replace h:=yn h z9u
     refine WC.exit (WX.yu (WX.yu (WX.y1b ?_)))
     exact WX.mid (G:=Int) z2l h (.cons rfl (.cons rfl (.cons rfl (.cons rfl (.cons rfl (.cons rfl .nil)))))) (.cons .here (.cons .here (.cons .here (.cons .here .nil))))
   ·rintro z2f h
    replace h:=(zlD z2f).symm.trans h
    refine WC.b (WC.b (WC.a (WL.pu rfl (WL.pu rfl (WL.pu rfl ?_)))))
    refine WL.seg false 7 49 (B:=(decide (z2f > 1)) || ((decide (ze.2.fKind ≠ 0)) && (decide (z2f > 0)))) rfl rfl rfl rfl rfl rfl (fun h=>(y2X h).symm) (fun _ zlF=>?_) ?_
    ·skip
     refine WL.a (d:=50) rfl rfl rfl (y4 y2N rfl rfl) ?_
     refine WL.a (d:=51) rfl rfl rfl (y6 yx rfl (ya .h3 rfl)) ?_
     refine WL.pu rfl (WL.pu rfl ?_)
     refine WL.seg true 2 53 (B:=(decide (ze.2.fKind ≠ 0)) && (decide (z2f > 0))) rfl rfl rfl rfl rfl rfl (fun h=>(y2j h).symm) (fun _ zlG=>?_) ?_
     ·skip
      refine WL.pu rfl (WL.pu rfl (WL.pu rfl ?_))
      exact WL.yj (y2k zlG) rfl rfl .all
     refine WL.pu rfl ?_
     exact WL.yj (y2Y zlF) rfl rfl .all
    refine WL.pu rfl ?_
    refine WL.seg false 3 58 (B:=((decide (z2f > 1)) || ((decide (ze.2.fKind ≠ 0)) && (decide (z2f > 0)))) || (decide (ze.2.fKind > 16))) rfl rfl rfl rfl rfl rfl (fun h=>(y2X h).symm) (fun _ zlH=>?_) ?_
    ·skip
     refine WL.a (d:=59) rfl rfl rfl (y4 y2N rfl rfl) ?_
     refine WL.a (d:=60) rfl rfl rfl (y6 yx rfl (ya .h3 rfl)) ?_
     refine WL.pu rfl (WL.pu rfl ?_)
     exact WL.yj (y2Y zlH) rfl rfl .all
    refine WL.pu rfl ?_
    refine WL.seg false 13 63 (B:=(((decide (z2f > 1)) || ((decide (ze.2.fKind ≠ 0)) && (decide (z2f > 0)))) || (decide (ze.2.fKind > 16))) || ((decide (ze.2.fKind = 15)) && ((decide (ze.2.fA < 2)) || (decide (ze.2.fA > 5))))) rfl rfl rfl rfl rfl rfl (fun h=>(y2X h).symm) (fun _ zlI=>?_) ?_
    ·skip
     refine WL.a (d:=64) rfl rfl rfl (y4 y2N rfl rfl) ?_
     refine WL.a (d:=65) rfl rfl rfl (y6 yx rfl (ya .h3 rfl)) ?_
     refine WL.pu rfl (WL.pu rfl ?_)
     refine WL.seg true 8 67 (B:=(decide (ze.2.fKind = 15)) && ((decide (ze.2.fA < 2)) || (decide (ze.2.fA > 5)))) rfl rfl rfl rfl rfl rfl (fun h=>(y2j h).symm) (fun _ zlJ=>?_) ?_
     ·skip
      refine WL.a (d:=68) rfl rfl rfl (y4 y3j rfl rfl) ?_
      refine WL.a (d:=69) rfl rfl rfl (y6 ye rfl (ya .h3 rfl)) ?_
      refine WL.pu rfl (WL.pu rfl ?_)
      refine WL.seg false 3 71 (B:=(decide (ze.2.fA < 2)) || (decide (ze.2.fA > 5))) rfl rfl rfl rfl rfl rfl (fun h=>(y2X h).symm) (fun _ zlK=>?_) ?_
      ·skip
       refine WL.a (d:=72) rfl rfl rfl (y4 y3j rfl rfl) ?_
       refine WL.a (d:=73) rfl rfl rfl (y6 ye rfl (ya .h3 rfl)) ?_
       refine WL.pu rfl (WL.pu rfl ?_)
       exact WL.yj (y2Y zlK) rfl rfl .all
      refine WL.pu rfl ?_
      exact WL.yj (y2k zlJ) rfl rfl .all
     refine WL.pu rfl ?_
     exact WL.yj (y2Y zlI) rfl rfl .all
    refine WL.nil (WX.a ?_)
    refine WC.cond rfl (fun z9w=>?_) (fun z9w=>?_)
    ·replace h:=ym h z9w
     refine WC.b (WC.a (WL.pu rfl (WL.nil (WX.a (WC.ret (WX.yd ?_))))))
     obtain rfl:=Option.some.inj h
     refine WX.yg Tryd.results6 (.tmp rfl .nil) (fun w hw=>?_)
     exact ⟨(([] ++ z2K) ++ z3a),yZ rfl,trivial,hw.sub (.cons .here .nil)⟩
    ·replace h:=yn h z9w
     refine WC.skip (WX.a (WC.b (WC.b (WC.a ?_))))
     refine WL.a (d:=78) rfl rfl rfl (y4 y2N rfl rfl) ?_
     refine WL.a (d:=79) rfl rfl rfl (y6 yx rfl (ya .h3 rfl)) ?_
     refine WL.pu rfl (WL.pu rfl ?_)
     refine WL.seg true 20 81 (B:=(decide (ze.2.fKind = 1)) && ((((decide (ze.2.fA < 0)) || (decide (ze.2.fA ≥ ((zN.length : Nat) : Int)))) || (decide (ze.2.fB < 0))) || (decide (ze.2.fB > 255)))) rfl rfl rfl rfl rfl rfl (fun h=>(y2j h).symm) (fun _ zlL=>?_) ?_
     ·skip
      refine WL.a (d:=82) rfl rfl rfl (y4 y3j rfl rfl) ?_
      refine WL.a (d:=83) rfl rfl rfl (y6 ye rfl (ya .h3 rfl)) ?_
      refine WL.pu rfl (WL.pu rfl ?_)
      refine WL.seg false 5 85 (B:=(decide (ze.2.fA < 0)) || (decide (ze.2.fA ≥ ((zN.length : Nat) : Int)))) rfl rfl rfl rfl rfl rfl (fun h=>(y2X h).symm) (fun _ zlM=>?_) ?_
      ·skip
       refine WL.a (d:=86) rfl rfl rfl (y4 y3j rfl rfl) ?_
       refine WL.a (d:=87) rfl rfl rfl (y6 ye rfl (ya .h3 rfl)) ?_
       refine WL.pu rfl ?_
       refine WL.a (d:=89) rfl rfl rfl (y1a Tryd.underlying35 rfl) ?_
       refine WL.pu rfl (WL.pu rfl ?_)
       exact WL.yj (y2Y zlM) rfl rfl .all
      refine WL.pu rfl ?_
      refine WL.seg false 3 92 (B:=((decide (ze.2.fA < 0)) || (decide (ze.2.fA ≥ ((zN.length : Nat) : Int)))) || (decide (ze.2.fB < 0))) rfl rfl rfl rfl rfl rfl (fun h=>(y2X h).symm) (fun _ zlN=>?_) ?_
      ·skip
       refine WL.a (d:=93) rfl rfl rfl (y4 y4M rfl rfl) ?_
       refine WL.a (d:=94) rfl rfl rfl (y6 ye rfl (ya .h3 rfl)) ?_
       refine WL.pu rfl (WL.pu rfl ?_)
       exact WL.yj (y2Y zlN) rfl rfl .all
      refine WL.pu rfl ?_
      refine WL.seg false 3 97 (B:=(((decide (ze.2.fA < 0)) || (decide (ze.2.fA ≥ ((zN.length : Nat) : Int)))) || (decide (ze.2.fB < 0))) || (decide (ze.2.fB > 255))) rfl rfl rfl rfl rfl rfl (fun h=>(y2X h).symm) (fun _ zlO=>?_) ?_
      ·skip
       refine WL.a (d:=98) rfl rfl rfl (y4 y4M rfl rfl) ?_
       refine WL.a (d:=99) rfl rfl rfl (y6 ye rfl (ya .h3 rfl)) ?_
       refine WL.pu rfl (WL.pu rfl ?_)
       exact WL.yj (y2Y zlO) rfl rfl .all
      refine WL.pu rfl ?_
      exact WL.yj (y2k zlL) rfl rfl .all
     refine WL.pu rfl ?_
     refine WL.seg false 15 103 (B:=((decide (ze.2.fKind = 1)) && ((((decide (ze.2.fA < 0)) || (decide (ze.2.fA ≥ ((zN.length : Nat) : Int)))) || (decide (ze.2.fB < 0))) || (decide (ze.2.fB > 255)))) || ((decide (ze.2.fKind = 2)) && ((decide (((ze.2.fData.length : Nat) : Int) < 1)) || (decide (((ze.2.fData.length : Nat) : Int) > 64))))) rfl rfl rfl rfl rfl rfl (fun h=>(y2X h).symm) (fun _ zlP=>?_) ?_
     ·skip
      refine WL.a (d:=104) rfl rfl rfl (y4 y2N rfl rfl) ?_
      refine WL.a (d:=105) rfl rfl rfl (y6 yx rfl (ya .h3 rfl)) ?_
      refine WL.pu rfl (WL.pu rfl ?_)
      refine WL.seg true 10 107 (B:=(decide (ze.2.fKind = 2)) && ((decide (((ze.2.fData.length : Nat) : Int) < 1)) || (decide (((ze.2.fData.length : Nat) : Int) > 64)))) rfl rfl rfl rfl rfl rfl (fun h=>(y2j h).symm) (fun _ zlQ=>?_) ?_
      ·skip
       refine WL.a (d:=108) rfl rfl rfl (y4 y4N rfl rfl) ?_
       refine WL.a (d:=109) rfl rfl rfl (y6 y3g rfl (ya .h3 rfl)) ?_
       refine WL.a (d:=110) rfl rfl rfl (y1a Tryd.underlying35 rfl) ?_
       refine WL.pu rfl (WL.pu rfl ?_)
       refine WL.seg false 4 112 (B:=(decide (((ze.2.fData.length : Nat) : Int) < 1)) || (decide (((ze.2.fData.length : Nat) : Int) > 64))) rfl rfl rfl rfl rfl rfl (fun h=>(y2X h).symm) (fun _ zlR=>?_) ?_
       ·skip
        refine WL.a (d:=113) rfl rfl rfl (y4 y4N rfl rfl) ?_
        refine WL.a (d:=114) rfl rfl rfl (y6 y3g rfl (ya .h3 rfl)) ?_
        refine WL.a (d:=115) rfl rfl rfl (y1a Tryd.underlying35 rfl) ?_
        refine WL.pu rfl (WL.pu rfl ?_)
        exact WL.yj (y2Y zlR) rfl rfl .all
       refine WL.pu rfl ?_
       exact WL.yj (y2k zlQ) rfl rfl .all
      refine WL.pu rfl ?_
      exact WL.yj (y2Y zlP) rfl rfl .all
     refine WL.nil (WX.a ?_)
     refine WC.cond rfl (fun z9x=>?_) (fun z9x=>?_)
     ·replace h:=ym h z9x
      refine WC.b (WC.a (WL.pu rfl (WL.nil (WX.a (WC.ret (WX.yd ?_))))))
      obtain rfl:=Option.some.inj h
      refine WX.yg Tryd.results6 (.tmp rfl .nil) (fun w hw=>?_)
      exact ⟨(([] ++ z2K) ++ z3a),yZ rfl,trivial,hw.sub (.cons .here .nil)⟩
     ·replace h:=yn h z9x
      refine WC.skip (WX.a (WC.b (WC.b ?_)))
      obtain ⟨zlS,h⟩:=yb h
      refine WC.a ?_
      refine WL.a (d:=120) rfl rfl rfl (y4 y1V rfl rfl) ?_
      refine WL.a (d:=121) rfl rfl rfl (y6 ye rfl (ya .h1 rfl)) ?_
      refine WL.pu rfl (WL.pu rfl ?_)
      refine WL.seg true 5 123 (B:=(decide (zw.fPc ≥ 0)) && (decide (zw.fPc < ((z1G.length : Nat) : Int)))) rfl rfl rfl rfl rfl rfl (fun h=>(y2j h).symm) (fun _ zlT=>?_) ?_
      ·skip
       refine WL.a (d:=124) rfl rfl rfl (y4 y1V rfl rfl) ?_
       refine WL.a (d:=125) rfl rfl rfl (y6 ye rfl (ya .h1 rfl)) ?_
       refine WL.pu rfl ?_
       refine WL.a (d:=127) rfl rfl rfl (y1a Tryd.underlying22 rfl) ?_
       refine WL.pu rfl (WL.pu rfl ?_)
       exact WL.yj (y2k zlT) rfl rfl .all
      refine WL.pu rfl ?_
      refine WL.seg true 7 130 (B:=((decide (zw.fPc ≥ 0)) && (decide (zw.fPc < ((z1G.length : Nat) : Int)))) && (decide (((nth z1G zw.fPc).fOp) = 5))) rfl rfl rfl rfl rfl rfl (fun h=>(y2j h).symm) (fun _ zcI=>?_) ?_
      ·skip
       have zlU:=zlS zcI
       refine WL.pu rfl ?_
       refine WL.a (d:=132) rfl rfl rfl (y4 y1V rfl rfl) ?_
       refine WL.a (d:=133) rfl rfl rfl (y6 ye rfl (ya .h1 rfl)) ?_
       refine WL.znth (dd:=134) rfl rfl (Z:=(Z ++ (([] ++ z2K) ++ z3a))) (Pr:=(fun r x=>r = e33 x)) y2E rfl rfl (z9r.mono ((Zle.left _ _).trans ((Zle.left _ _).trans ((Zle.y5 _ _ _).trans ((Zle.left _ _).trans (Zle.y5 _ _ _)))))) zlU ?_
       rintro znj znk zlV znl rfl
       refine WL.a (d:=135) rfl rfl rfl (y4 y36 rfl rfl) ?_
       refine WL.a (d:=136) rfl rfl rfl (y6 yx rfl (y55 (hz.pv2 .here) zlV rfl)) ?_
       refine WL.pu rfl (WL.pu rfl ?_)
       exact WL.yj (y2k zcI) rfl rfl .all
      refine WL.nil (WX.a ?_)
      refine WC.cond rfl (fun z9y=>?_) (fun z9y=>?_)
      ·replace h:=ym h z9y
       refine WC.b (WC.a (WL.pu rfl (WL.nil (WX.a (WC.ret (WX.yd ?_))))))
       obtain rfl:=Option.some.inj h
       refine WX.yg Tryd.results6 (.tmp rfl .nil) (fun w hw=>?_)
       exact ⟨(([] ++ z2K) ++ z3a),yZ rfl,trivial,hw.sub (.cons .here .nil)⟩
      ·replace h:=yn h z9y
       refine WC.skip (WX.a (WC.b ?_))
       obtain ⟨zlW,h⟩:=yb h
       refine WC.a (WL.pu rfl ?_)
       refine WL.a (d:=140) rfl rfl rfl (y1a Tryd.underlying35 rfl) ?_
       refine WL.new (dd:=141) rfl rfl rfl (y2D (r:=[(.int .u8 0)]) (z0:=(0 : Int)) y1W y3L rfl rfl rfl rfl zlW) ?_
       intro z6M _
       refine WL.rowEqD .here (cs':=(List.replicate (((zN.length : Nat) : Int) : Int).toNat (0 : Int)).flatMap e5) (y3n (enc:=e5) (0 : Int) _) ?_
       refine WL.pu rfl (WL.nil (WX.a ?_))
       obtain ⟨z4b,zlX,h⟩:=y2p h
       refine WC.y2d (fun (z2s : List Int)=>(z4b z2s = some r)) (fun (z2s : List Int)=>[(0,(.slice z37 z1G.length z38)),(4,(.pointer (some ⟨z39,0,none⟩))),(7,(.pointer (some ⟨z3b,0,none⟩))),(8,(.pointer (some ⟨z3c,0,none⟩))),(11,(.slice (some ⟨z6M,0,none⟩) z2s.length ((((zN.length : Nat) : Int) : Int).toNat)))]) (fun (z2s : List Int)=>[fz (([] ++ z2K) ++ z3a),row (.slice (some ⟨z6M,0,none⟩) z2s.length ((((zN.length : Nat) : Int) : Int).toNat)) 5 1 (z2s.flatMap e5),stb z39 39 [(.int .i64 zw.fPc),(.int .i64 zw.fLeft),(.int .u8 zw.fRegs.a0),(.int .u8 zw.fRegs.a1),(.int .u8 zw.fRegs.a2),(.int .u8 zw.fRegs.a3)],stb z3b 39 [(.int .i64 ze.1.fPc),(.int .i64 ze.1.fLeft),(.int .u8 ze.1.fRegs.a0),(.int .u8 ze.1.fRegs.a1),(.int .u8 ze.1.fRegs.a2),(.int .u8 ze.1.fRegs.a3)],stb z3c 41 [(.int .u8 ze.2.fKind),(.int .i64 ze.2.fA),(.int .i64 ze.2.fB),(.slice z7j ze.2.fData.length z7k)]]) ?_ ?_
       ·skip
        refine WC.b (WC.a (WL.pu rfl (WL.nil (WX.a (WC.block ?_)))))
        refine WC.y4S (fun (z6N : Nat) (z1U : List Int) (z1l : Int)=>(yS zN z4b z6N z1U z1l = some r)) (fun (z6N : Nat) (z1U : List Int) (z1l : Int)=>[(0,(.slice z37 z1G.length z38)),(2,(.slice z4c zN.length z4d)),(4,(.pointer (some ⟨z39,0,none⟩))),(7,(.pointer (some ⟨z3b,0,none⟩))),(8,(.pointer (some ⟨z3c,0,none⟩))),(11,(.slice (some ⟨z6M,0,none⟩) z1U.length ((((zN.length : Nat) : Int) : Int).toNat))),(12,(.int .i64 z1l))]) (fun (z6N : Nat) (z1U : List Int) (z1l : Int)=>[fz (([] ++ z2K) ++ z3a),row (.slice (some ⟨z6M,0,none⟩) z1U.length ((((zN.length : Nat) : Int) : Int).toNat)) 5 1 (z1U.flatMap e5),stb z39 39 [(.int .i64 zw.fPc),(.int .i64 zw.fLeft),(.int .u8 zw.fRegs.a0),(.int .u8 zw.fRegs.a1),(.int .u8 zw.fRegs.a2),(.int .u8 zw.fRegs.a3)],stb z3b 39 [(.int .i64 ze.1.fPc),(.int .i64 ze.1.fLeft),(.int .u8 ze.1.fRegs.a0),(.int .u8 ze.1.fRegs.a1),(.int .u8 ze.1.fRegs.a2),(.int .u8 ze.1.fRegs.a3)],stb z3c 41 [(.int .u8 ze.2.fKind),(.int .i64 ze.2.fA),(.int .i64 ze.2.fB),(.slice z7j ze.2.fData.length z7k)]]) (fun (z6N : Nat) (z1U : List Int) (z1l : Int)=>z6N) ⟨y1M,(List.replicate (((zN.length : Nat) : Int) : Int).toNat (0 : Int)),0⟩ h (.cons rfl (.cons rfl (.cons rfl (.cons rfl (.cons rfl (.cons rfl (.cons rfl .nil))))))) (.cons .h1 (.cons .here (.cons .here (.cons .here (.cons .here .nil))))) ?_
        rintro z6N z1U z1l h
        obtain ⟨z9q,rfl⟩:=y3e h
        rw [yS] at h
        refine WC.b (WC.b (WC.a (WL.pu rfl (WL.pu rfl ?_))))
        refine WL.a (d:=144) rfl rfl rfl (y1a Tryd.underlying35 rfl) ?_
        refine WL.pu rfl (WL.nil (WX.a ?_))
        refine WC.cond rfl (fun z9z=>?_) (fun z9z=>?_)
        ·replace h:=ym h z9z
         refine WC.skip (WX.a (WC.b (WC.block ?_)))
         obtain ⟨zlY,h⟩:=yb h
         obtain ⟨z6O,h⟩:=yb h
         refine WC.a (WL.pu rfl (WL.pu rfl (WL.pu rfl (WL.pu rfl ?_))))
         refine WL.znth (dd:=152) rfl rfl (Z:=(Z ++ (([] ++ z2K) ++ z3a))) (Pr:=(fun r x=>r = e5 x)) y1W rfl rfl (zcH.mono ((Zle.left _ _).trans ((Zle.left _ _).trans ((Zle.y5 _ _ _).trans ((Zle.left _ _).trans (Zle.y5 _ _ _)))))) zlY ?_
         rintro znm znn zlZ zno rfl
         refine WL.a (d:=153) rfl rfl rfl (y6 yx rfl (y2z (hz.pv2 .here) zlZ rfl)) ?_
         refine WL.pu rfl ?_
         refine WL.a (d:=155) rfl rfl rfl (yB y1W rfl rfl z6O.1 z6O.2 y2C) ?_
         refine WL.yk rfl rfl (y44 (vs:=[(.int .u8 (u8 ((nth zN z1l) + 1)))]) (ds:=(z1U.set (z1l : Int).toNat (u8 ((nth zN z1l) + 1))).flatMap e5) y3o rfl rfl rfl rfl (y5g rfl y5G) .h1 (y4Y (enc:=e5) (sz:=1) (k:=0) (fun _=>rfl) z6O.1 z6O.2 (by decide)) (y4X (enc:=e5) (l:=z1U) (sz:=1) (vs:=[(.int .u8 (u8 ((nth zN z1l) + 1)))]) (y:=u8 ((nth zN z1l) + 1)) (k:=0) (fun _=>rfl) z6O.1 z6O.2 rfl (Nat.le_of_ble_eq_true rfl))) ?_
         refine WL.relen .here (u:=(.slice (some ⟨z6M,0,none⟩) ((z1U.set (z1l : Int).toNat (u8 ((nth zN z1l) + 1))).length) ((((zN.length : Nat) : Int) : Int).toNat))) (slen (List.length_set).symm) ?_
         refine WL.repin (i:=11) rfl (u:=(.slice (some ⟨z6M,0,none⟩) ((z1U.set (z1l : Int).toNat (u8 ((nth zN z1l) + 1))).length) ((((zN.length : Nat) : Int) : Int).toNat))) (slen (List.length_set).symm) ?_
         refine WL.nil (WX.yi (WX.a (WC.a (WL.pu rfl (WL.pu rfl (WL.pu rfl (WL.nil ?_)))))))
         exact WX.round (G:=Nat × List Int × Int) ⟨z9q,(z1U.set (z1l : Int).toNat (u8 ((nth zN z1l) + 1))),(i64 (z1l + 1))⟩ h (Nat.lt_succ_self _) (.cons rfl (.cons rfl (.cons rfl (.cons rfl (.cons rfl (.cons rfl (.cons rfl .nil))))))) (.cons .h1 (.cons .here (.cons .here (.cons .here (.cons .here .nil)))))
        ·replace h:=yn h z9z
         refine WC.exit (WX.yu (WX.yu (WX.y1b ?_)))
         exact WX.mid (G:=List Int) z1U h (.cons rfl (.cons rfl (.cons rfl (.cons rfl (.cons rfl .nil))))) (.cons .here (.cons .here (.cons .here (.cons .here (.cons .here .nil)))))
       ·rintro z2s h
        replace h:=(zlX z2s).symm.trans h
        refine WC.b ?_
        obtain ⟨z5n,zm0,h⟩:=zi h
        refine WC.a (WL.pu rfl ?_)
        refine WL.a (d:=158) rfl rfl rfl (yJ y1p rfl (yH .h2) rfl) ?_
        refine WL.pu rfl ?_
        refine WL.freezeS (ls:=z2s) .h1 .here hz (RR.yI (enc:=e5) (fun _=>rfl) _) ?_
        intro zm1 z7l zm2
        refine WL.y2K (dd:=160) rfl rfl rfl (zK (l:=[.tmp 157,.tmp 158,.tmp 159]) Tryd.call18 (.cons rfl (.cons rfl (.cons rfl .nil)))) .nil (ccz hz .nil .here fun w pz ho=>y1d _ _ _ _ _ _ _ _ _ zm0 w pz (hG0.mono ((Zle.left _ _).trans ((Zle.left _ _).trans ((Zle.y5 _ _ _).trans ((Zle.left _ _).trans ((Zle.y5 _ _ _).trans z7l)))))) ((hG1.mono ((Zle.left _ _).trans ((Zle.left _ _).trans ((Zle.y5 _ _ _).trans ((Zle.left _ _).trans ((Zle.y5 _ _ _).trans z7l)))))).weak (fun _ _ h=>yQ ((Zle.left _ _).trans ((Zle.left _ _).trans ((Zle.y5 _ _ _).trans ((Zle.left _ _).trans ((Zle.y5 _ _ _).trans z7l))))) h)) (z9r.mono ((Zle.left _ _).trans ((Zle.left _ _).trans ((Zle.y5 _ _ _).trans ((Zle.left _ _).trans ((Zle.y5 _ _ _).trans z7l)))))) zm2) ?_
        rintro zm3 znp znq zm4
        refine WL.merge .here .here ?_
        refine WL.pu rfl (WL.pu rfl (WL.pu rfl ?_))
        refine WL.new (dd:=13) rfl rfl rfl (yv (cs:=[(.int .i64 0),(.int .i64 0),(.int .u8 0),(.int .u8 0),(.int .u8 0),(.int .u8 0)]) y1o rfl) ?_
        intro znr _
        refine WL.new (dd:=14) rfl rfl rfl (yv (cs:=[(.int .u8 0),(.int .i64 0),(.int .i64 0),(.slice none 0 0)]) y1X rfl) ?_
        intro zns _
        refine WL.yk rfl rfl (ys y21 rfl rfl rfl .h1 rfl rfl rfl) ?_
        refine WL.yk rfl rfl (ys y1z rfl rfl rfl .h1 rfl rfl rfl) ?_
        refine WL.nil (WX.a (WC.b ?_))
        obtain ⟨z7i,zcJ,h⟩:=zi h
        refine WC.a ?_
        refine WL.a (d:=163) rfl rfl rfl (yJ y1p rfl (yH .h4) rfl) ?_
        refine WL.a (d:=164) rfl rfl rfl (yJ y1p rfl (yH .h1) rfl) ?_
        refine WL.a (d:=165) rfl rfl rfl (q_aggeql (enc:=e39) (a:=ze.1) (b:=z5n.1) eqT_39 rfl rfl) ?_
        refine WL.pu rfl ?_
        refine WL.seg true 3 166 (B:=z7i) rfl rfl rfl rfl rfl rfl (fun h=>(Option.some.inj (yn zcJ h)).symm) (fun _ zm5=>?_) ?_
        ·skip
         have z7m:=ym zcJ zm5
         obtain ⟨z7S,zm6,z7m⟩:=zi z7m
         replace z7m:=Option.some.inj z7m
         refine WL.a (d:=167) rfl rfl rfl (yJ y2x rfl (yH .h5) rfl) ?_
         refine WL.a (d:=168) rfl rfl rfl (yJ y2x rfl (yH .here) rfl) ?_
         refine WL.b (dd:=169) rfl rfl rfl (zK (l:=[.tmp 167,.tmp 168]) Tryd.call19 (.cons rfl (.cons rfl .nil))) .nil (ccz hz .nil .h2 fun w pz ho=>y26 _ _ _ _ _ _ _ _ zm6 w pz (zlC.mono ((Zle.y5 _ _ _).trans (z7l.trans ((Zle.left _ _).trans (Zle.y5 _ _ _))))) (zm4.mono (Zle.y5 _ _ _))) ?_
         refine WL.pu rfl ?_
         exact WL.yj z7m rfl rfl .all
        refine WL.pu rfl (WL.nil (WX.a (WC.ret ?_)))
        obtain rfl:=Option.some.inj h
        refine WX.yg Tryd.results6 (.tmp rfl .nil) (fun w hw=>?_)
        exact ⟨(zm1 ++ zm3),yZ rfl,trivial,hw.sub (.cons .h2 .nil)⟩
end Go.Proofs.YtjdnejbngloieaaDoor

/- A part of this claim's proof: models of functions, walks, plain laws. No conditions. -/
import Derived.Test.YtjdnejbngloieaaDoorW26b
namespace Go.Proofs.YtjdnejbngloieaaDoor
open Go Go.RowKit Sep
set_option linter.all false
set_option maxRecDepth 30000
set_option maxHeartbeats 4000000
def y2i (z8Q : (List Sapi_Ins) → (List Int) → Int → Int → Int → Int → Int → Int → Option Bool) : Nat → (List Sapi_Ins) → (List Int) → Int → Int → Int → Int → Int → Int → Int → Option Bool
 | 0,_,_,_,_,_,_,_,_,_=>none
 | zgi + 1,z4n,z4o,z5u,z5v,z5w,z5x,z5y,z5z,z5A=>if decide (z5u < 5) then (y2w z4n (⟨z5v,z5w,(⟨z5x,z5y,z5z,z5A⟩ : S34)⟩ : Sproc_State) z4o).bind fun z4x=>if decide (z4x.2.fKind ≠ 0) then some false else y2i z8Q zgi z4n z4o (i64 (z5u + 1)) z4x.1.fPc z4x.1.fLeft z4x.1.fRegs.a0 z4x.1.fRegs.a1 z4x.1.fRegs.a2 z4x.1.fRegs.a3 else z8Q z4n z4o z5v z5w z5x z5y z5z z5A
theorem y56 {n : Nat} {z8Q : (List Sapi_Ins) → (List Int) → Int → Int → Int → Int → Int → Int → Option Bool} {z4n : List Sapi_Ins} {z4o : List Int} {z5u : Int} {z5v : Int} {z5w : Int} {z5x : Int} {z5y : Int} {z5z : Int} {z5A : Int} {r : Bool} (h : y2i z8Q n z4n z4o z5u z5v z5w z5x z5y z5z z5A = some r) : ∃ m,n = m + 1:=by
 cases n with
 | zero=>cases h
 | succ m=>exact ⟨m,rfl⟩
def y3q  : Option Bool :=
 (y1g 2 ([0,5] : List Int)).bind fun z3u=>(y1g 1 ([3] : List Int)).bind fun z3v=>(y1g 3 ([1,0] : List Int)).bind fun z3w=>(y1g 6 ([1,16,0] : List Int)).bind fun z3x=>(y1g 19 []).bind fun z3y=>chk ((0 : Int) ≤ 32 ∧ (32 : Int) ≤ 32 ∧ (32 : Int) * 1 ≤ 140737488355328 ∧ (32 : Int) ≤ 4611686018427387904) (jp8 (fun (z2A : List Sapi_Ins) (z4p : List Int) (z2M : Int) (z2N : Int) (z2O : Int) (z2P : Int) (z2Q : Int) (z2R : Int)=>if decide ((⟨z2M,z2N,(⟨z2O,z2P,z2Q,z2R⟩ : S34)⟩ : Sproc_State) ≠ (⟨3,0,(⟨5,5,0,0⟩ : S34)⟩ : Sproc_State)) then some false else (y2w z2A (⟨z2M,z2N,(⟨z2O,z2P,z2Q,z2R⟩ : S34)⟩ : Sproc_State) z4p).bind fun zx=>(y2w z2A zx.1 z4p).bind fun zy=>chk ((0 : Int) ≤ 0 ∧ (0 : Int) ≤ 20 ∧ 20 ≤ ((z4p.length : Nat) : Int)) ((y2w z2A (⟨z2M,z2N,(⟨z2O,z2P,z2Q,z2R⟩ : S34)⟩ : Sproc_State) (z4p.take (20 : Int).toNat)).bind fun zM=>(y1g 7 ([2,1,3] : List Int)).bind fun zeS=>(y2w ([zeS] : List Sapi_Ins) (⟨0,0,(⟨0,255,0,0⟩ : S34)⟩ : Sproc_State) []).bind fun zkf=>(y2O z2A 0).bind fun z5B=>(y1g 21 ([0,0] : List Int)).bind fun zgj=>(y2O ([zgj] : List Sapi_Ins) 0).bind fun zdO=>(y1g 22 ([0,1,2] : List Int)).bind fun zgk=>(y1g 1 ([9] : List Int)).bind fun zgl=>(y1g 25 []).bind fun zgm=>(y2O ([zgk,zgl,zgm] : List Sapi_Ins) 0).bind fun zdn=>(y13 zx.2 (⟨1,21,5,[]⟩ : Sproc_Act)).bind fun zkg=>(if zkg then (y13 zy.2 (⟨14,0,0,[]⟩ : Sproc_Act)).bind fun zkh=>some zkh else some false).bind fun zgn=>(if zgn then (y13 zM.2 (⟨15,2,0,[]⟩ : Sproc_Act)).bind fun zki=>some zki else some false).bind fun zgo=>(if zgo then (y13 zkf.2 (⟨2,2,0,([255,0,1] : List Int)⟩ : Sproc_Act)).bind fun zkj=>some zkj else some false).bind fun zan=>some (((((zan && (decide (z5B.1 = 7))) && z5B.2) && (!zdO.2)) && (decide (zdn.1 = 11))) && zdn.2))) fun z8Q=>y2i z8Q y2g ([z3u,z3v,z3w,z3x,z3y] : List Sapi_Ins) (List.replicate (32 : Int).toNat (0 : Int)) 0 0 0 0 0 0 0)
set_option maxRecDepth 20000 in
theorem y6R (Z : Zp)  (r : Bool)
  (h : y3q = some r) (w₀ : World) (hz : PZ [] w₀ Z)
  (hG0 : ZC Z ⟨0,0,none⟩ y60)
  (hG1 : ZS Z 1 (p74 Z) (some ⟨1,0,none⟩) 26 y19) :
  Calls Tryd.prog 9 #[] w₀ fun e w'=>∃ Zn : Zp,e = .returned (.bool r) ∧ True ∧ Hp [] w₀ w' [fz Zn]:=by
 unfold y3q at h
 refine Calls.y8 (vs:=[]) (pre:=[]) (env:=[]) Tryd.func9 rfl Tryd.ntmps9 rfl (Hp.nil w₀ _) rfl ?_
 refine WC.pool (WC.b (WC.a (WL.pu rfl (WL.nil (WX.a (WC.b ?_))))))
 obtain ⟨z3u,ztc,h⟩:=zb h
 obtain ⟨z3v,ztd,h⟩:=zb h
 obtain ⟨z3w,zte,h⟩:=zb h
 obtain ⟨z3x,ztf,h⟩:=zb h
 obtain ⟨z3y,ztg,h⟩:=zb h
 refine WC.a ?_
 refine WL.new (dd:=21) rfl rfl rfl (yx (cs:=([0,5] : List Int).flatMap e3) yU (Eos.parts (l:=[.const (.int .i64 0),.const (.int .i64 5)]) (.cons rfl (.cons rfl .nil)) [0,1]) (fun _=>by kernel_rfl) rfl (by unfold maxLen; omega)) ?_
 intro zdP _
 refine WL.b (dd:=22) rfl rfl rfl (zk (l:=[.const (.int .u8 2),.tmp 21]) Tryd.call17 (.cons rfl (.cons rfl .nil))) .nil (y2c hz .nil .h1 (.cons .here .nil) fun w pz ho la=>y1t _ _ _ _ _ _ ztc w pz (ZA.row (la _ (.head _) _) (RR.yI (enc:=e3) (fun _=>rfl) _) ⟨w,pz.1⟩)) ?_
 refine WL.new (dd:=23) rfl rfl rfl (yx (cs:=([3] : List Int).flatMap e3) yU (Eos.parts (l:=[.const (.int .i64 3)]) (.cons rfl .nil) [0]) (fun _=>by kernel_rfl) rfl (by unfold maxLen; omega)) ?_
 intro zdQ _
 refine WL.b (dd:=24) rfl rfl rfl (zk (l:=[.const (.int .u8 1),.tmp 23]) Tryd.call17 (.cons rfl (.cons rfl .nil))) .nil (y2c hz .nil .h2 (.cons .here .nil) fun w pz ho la=>y1t _ _ _ _ _ _ ztd w pz (ZA.row (la _ (.head _) _) (RR.yI (enc:=e3) (fun _=>rfl) _) ⟨w,pz.1⟩)) ?_
 refine WL.new (dd:=25) rfl rfl rfl (yx (cs:=([1,0] : List Int).flatMap e3) yU (Eos.parts (l:=[.const (.int .i64 1),.const (.int .i64 0)]) (.cons rfl (.cons rfl .nil)) [0,1]) (fun _=>by kernel_rfl) rfl (by unfold maxLen; omega)) ?_
 intro zdR _
 refine WL.b (dd:=26) rfl rfl rfl (zk (l:=[.const (.int .u8 3),.tmp 25]) Tryd.call17 (.cons rfl (.cons rfl .nil))) .nil (y2c hz .nil .h3 (.cons .here .nil) fun w pz ho la=>y1t _ _ _ _ _ _ zte w pz (ZA.row (la _ (.head _) _) (RR.yI (enc:=e3) (fun _=>rfl) _) ⟨w,pz.1⟩)) ?_
 refine WL.new (dd:=27) rfl rfl rfl (yx (cs:=([1,16,0] : List Int).flatMap e3) yU (Eos.parts (l:=[.const (.int .i64 1),.const (.int .i64 16),.const (.int .i64 0)]) (.cons rfl (.cons rfl (.cons rfl .nil))) [0,1,2]) (fun _=>by kernel_rfl) rfl (by unfold maxLen; omega)) ?_
 intro zdS _
 refine WL.b (dd:=28) rfl rfl rfl (zk (l:=[.const (.int .u8 6),.tmp 27]) Tryd.call17 (.cons rfl (.cons rfl .nil))) .nil (y2c hz .nil .h4 (.cons .here .nil) fun w pz ho la=>y1t _ _ _ _ _ _ ztf w pz (ZA.row (la _ (.head _) _) (RR.yI (enc:=e3) (fun _=>rfl) _) ⟨w,pz.1⟩)) ?_
 refine WL.b (dd:=29) rfl rfl rfl (zk (l:=[.const (.int .u8 19),.const (.slice none 0 0)]) Tryd.call17 (.cons rfl (.cons rfl .nil))) .nil (ccz hz .nil .h4 fun w pz ho=>y1t _ _ _ _ _ _ ztg w pz (ZS.nil _ _ _)) ?_
 refine WL.new (dd:=30) rfl rfl rfl (yx (cs:=([z3u,z3v,z3w,z3x,z3y] : List Sapi_Ins).flatMap e33) y3J (Eos.parts (l:=[.tmp 22,.tmp 24,.tmp 26,.tmp 28,.tmp 29]) (.cons rfl (.cons rfl (.cons rfl (.cons rfl (.cons rfl .nil))))) [0,1,2,3,4]) (fun _=>by kernel_rfl) rfl (by unfold maxLen; omega)) ?_
 intro z6F _
 refine WL.pu rfl (WL.nil (WX.a (WC.b ?_)))
 obtain ⟨zgp,h⟩:=ya h
 refine WC.y11 (fun i=>[3].contains i) [] rfl ?_
 refine WD.a (i:=0) (d:=31) (by kernel_rfl) rfl z2 z6 rfl rfl rfl (fun _=>yP (v:=(.agg #[(.int .i64 0),(.int .i64 0),(.int .u8 0),(.int .u8 0),(.int .u8 0),(.int .u8 0)])) (Eos.parts (l:=[]) .nil []) (fun _=>by kernel_rfl)) ?_
 refine WD.y67 (fuel':=0) (fun (b1o1_10186 : Nat) (b2o1_10186 : Nat)=>[(1,(.slice (some ⟨z6F,0,none⟩) (([z3u,z3v,z3w,z3x,z3y] : List Sapi_Ins).length) 5)),(2,(.pointer (some ⟨b2o1_10186,0,none⟩))),(3,(.slice (some ⟨b1o1_10186,0,none⟩) ((List.replicate (32 : Int).toNat (0 : Int)).length) ((32 : Int).toNat)))]) (fun (b1o1_10186 : Nat) (b2o1_10186 : Nat)=>[stb b2o1_10186 39 [(.int .i64 0),(.int .i64 0),(.int .u8 0),(.int .u8 0),(.int .u8 0),(.int .u8 0)],row (.slice (some ⟨b1o1_10186,0,none⟩) ((List.replicate (32 : Int).toNat (0 : Int)).length) ((32 : Int).toNat)) 5 1 ((List.replicate (32 : Int).toNat (0 : Int)).flatMap e5),row (.slice (some ⟨z6F,0,none⟩) (([z3u,z3v,z3w,z3x,z3y] : List Sapi_Ins).length) 5) 33 4 (([z3u,z3v,z3w,z3x,z3y] : List Sapi_Ins).flatMap e33),row (.slice (some ⟨zdS,0,none⟩) (([1,16,0] : List Int).length) 3) 3 1 (([1,16,0] : List Int).flatMap e3),row (.slice (some ⟨zdR,0,none⟩) (([1,0] : List Int).length) 2) 3 1 (([1,0] : List Int).flatMap e3),row (.slice (some ⟨zdQ,0,none⟩) (([3] : List Int).length) 1) 3 1 (([3] : List Int).flatMap e3),row (.slice (some ⟨zdP,0,none⟩) (([0,5] : List Int).length) 2) 3 1 (([0,5] : List Int).flatMap e3),fz []]) (fun (b1o1_10186 : Nat) (b2o1_10186 : Nat)=>True) (y21 5 [4,3,2,1,0]) ?_ (fun K1o2o3o4_10186=>?_)
 ·skip
  rintro b1o1_10186 b2o1_10186 _
  refine WD.done (by kernel_rfl) ?_
  refine WX.a ?_
  obtain ⟨z8Q,zth,h⟩:=jp8_elim h
  refine WC.y7f (fun (z2A : List Sapi_Ins) (z4p : List Int) (z2M : Int) (z2N : Int) (z2O : Int) (z2P : Int) (z2Q : Int) (z2R : Int) (z2B : Zp) (z45 : Option Addr) (z47 : Nat) (zdT : Option Addr) (zdU : Nat)=>(z8Q z2A z4p z2M z2N z2O z2P z2Q z2R = some r) ∧ (Zle (Z ++ []) (Z ++ z2B)) ∧ (ZS (Z ++ z2B) 4 (fun r x=>r = e33 x) z45 z47 z2A) ∧ (ZS (Z ++ z2B) 1 (fun r x=>r = e5 x) zdT zdU z4p)) (fun (z2A : List Sapi_Ins) (z4p : List Int) (z2M : Int) (z2N : Int) (z2O : Int) (z2P : Int) (z2Q : Int) (z2R : Int) (z2B : Zp) (z45 : Option Addr) (z47 : Nat) (zdT : Option Addr) (zdU : Nat)=>[(1,(.slice z45 z2A.length z47)),(2,(.pointer (some ⟨b2o1_10186,0,none⟩))),(3,(.slice zdT z4p.length zdU))]) (fun (z2A : List Sapi_Ins) (z4p : List Int) (z2M : Int) (z2N : Int) (z2O : Int) (z2P : Int) (z2Q : Int) (z2R : Int) (z2B : Zp) (z45 : Option Addr) (z47 : Nat) (zdT : Option Addr) (zdU : Nat)=>[fz z2B,stb b2o1_10186 39 [(.int .i64 z2M),(.int .i64 z2N),(.int .u8 z2O),(.int .u8 z2P),(.int .u8 z2Q),(.int .u8 z2R)]]) ?_ ?_
  ·skip
   refine WC.b (WC.a (WL.pu rfl (WL.nil (WX.a (WC.block ?_)))))
   refine WC.freezeS (ls:=([z3u,z3v,z3w,z3x,z3y] : List Sapi_Ins)) .h2 .h6 hz (RR.yI (enc:=e33) (fun _=>rfl) _) ?_
   intro zxw zti ztj
   refine WC.freezeS (ls:=List.replicate (32 : Int).toNat (0 : Int)) .h2 .here hz (RR.yI (enc:=e5) (fun _=>rfl) _) ?_
   intro ztk zkk ztl
   refine WC.y7N (fun (zdo : Nat) (z4n : List Sapi_Ins) (z4o : List Int) (z5u : Int) (z5v : Int) (z5w : Int) (z5x : Int) (z5y : Int) (z5z : Int) (z5A : Int) (z6G : Zp) (zao : Option Addr) (zap : Nat) (zaq : Option Addr) (zar : Nat)=>(y2i z8Q zdo z4n z4o z5u z5v z5w z5x z5y z5z z5A = some r) ∧ (Zle (Z ++ []) (Z ++ z6G)) ∧ (ZS (Z ++ z6G) 4 (fun r x=>r = e33 x) zao zap z4n) ∧ (ZS (Z ++ z6G) 1 (fun r x=>r = e5 x) zaq zar z4o)) (fun (zdo : Nat) (z4n : List Sapi_Ins) (z4o : List Int) (z5u : Int) (z5v : Int) (z5w : Int) (z5x : Int) (z5y : Int) (z5z : Int) (z5A : Int) (z6G : Zp) (zao : Option Addr) (zap : Nat) (zaq : Option Addr) (zar : Nat)=>[(1,(.slice zao z4n.length zap)),(2,(.pointer (some ⟨b2o1_10186,0,none⟩))),(3,(.slice zaq z4o.length zar)),(4,(.int .i64 z5u))]) (fun (zdo : Nat) (z4n : List Sapi_Ins) (z4o : List Int) (z5u : Int) (z5v : Int) (z5w : Int) (z5x : Int) (z5y : Int) (z5z : Int) (z5A : Int) (z6G : Zp) (zao : Option Addr) (zap : Nat) (zaq : Option Addr) (zar : Nat)=>[fz z6G,stb b2o1_10186 39 [(.int .i64 z5v),(.int .i64 z5w),(.int .u8 z5x),(.int .u8 z5y),(.int .u8 z5z),(.int .u8 z5A)]]) (fun (zdo : Nat) (z4n : List Sapi_Ins) (z4o : List Int) (z5u : Int) (z5v : Int) (z5w : Int) (z5x : Int) (z5y : Int) (z5z : Int) (z5A : Int) (z6G : Zp) (zao : Option Addr) (zap : Nat) (zaq : Option Addr) (zar : Nat)=>zdo) ⟨y2g,([z3u,z3v,z3w,z3x,z3y] : List Sapi_Ins),(List.replicate (32 : Int).toNat (0 : Int)),0,0,0,0,0,0,0,ztk,(some ⟨z6F,0,none⟩),5,(some ⟨b1o1_10186,0,none⟩),((32 : Int).toNat)⟩ ⟨h,(zti.trans zkk),(ztj.mono zkk),ztl⟩ (.cons rfl (.cons rfl (.cons rfl (.cons rfl .nil)))) (.cons .here (.cons .here .nil)) ?_
   rintro zdo z4n z4o z5u z5v z5w z5x z5y z5z z5A z6G zao zap zaq zar ⟨h,zdV,zgq,zgr⟩
   obtain ⟨zgi,rfl⟩:=y56 h
   rw [y2i] at h
   refine WC.b (WC.b (WC.a (WL.pu rfl (WL.pu rfl (WL.nil (WX.a ?_))))))
   refine WC.cond rfl (fun zgs=>?_) (fun zgs=>?_)
   ·replace h:=ym h zgs
    refine WC.skip (WX.a (WC.b (WC.block (WC.b ?_))))
    obtain ⟨z4x,ztm,h⟩:=zb h
    refine WC.a (WL.pu rfl ?_)
    refine WL.a (d:=39) rfl rfl rfl (yE yQ rfl (yz .h1) rfl) ?_
    refine WL.pu rfl ?_
    refine WL.y4s (dd:=41) rfl rfl rfl (zk (l:=[.tmp 38,.tmp 39,.tmp 40]) Tryd.call18 (.cons rfl (.cons rfl (.cons rfl .nil)))) .nil (ccz hz .nil .here fun w pz ho=>y2e _ _ _ _ _ _ _ _ _ ztm w pz (hG0.mono ((Zle.left _ _).trans zdV)) ((hG1.mono ((Zle.left _ _).trans zdV)).weak (fun _ _ h=>y10 ((Zle.left _ _).trans zdV) h)) zgq zgr) ?_
    rintro zkl zxx zxy zxz
    refine WL.merge .here .here ?_
    refine WL.pu rfl (WL.pu rfl (WL.pu rfl ?_))
    refine WL.new (dd:=5) rfl rfl rfl (yA (cs:=[(.int .i64 0),(.int .i64 0),(.int .u8 0),(.int .u8 0),(.int .u8 0),(.int .u8 0)]) y1i rfl) ?_
    intro zxA _
    refine WL.new (dd:=6) rfl rfl rfl (yA (cs:=[(.int .u8 0),(.int .i64 0),(.int .i64 0),(.slice none 0 0)]) y1o rfl) ?_
    intro zxB _
    refine WL.yf rfl rfl (yt y1l rfl rfl rfl .h1 rfl rfl rfl) ?_
    refine WL.yf rfl rfl (yt yV rfl rfl rfl .h1 rfl rfl rfl) ?_
    refine WL.nil (WX.a (WC.b (WC.a ?_)))
    refine WL.a (d:=44) rfl rfl rfl (yE yQ rfl (yz .h1) rfl) ?_
    refine WL.yf rfl rfl (yt y1l rfl rfl rfl .h3 rfl rfl rfl) ?_
    refine WL.nil (WX.a (WC.b (WC.a ?_)))
    refine WL.a (d:=45) rfl rfl rfl (y4 y4T rfl rfl) ?_
    refine WL.a (d:=46) rfl rfl rfl (y5 yC rfl (yb .h1 rfl)) ?_
    refine WL.pu rfl (WL.nil (WX.a ?_))
    refine WC.cond rfl (fun zgt=>?_) (fun zgt=>?_)
    ·replace h:=ym h zgt
     refine WC.b (WC.a (WL.pu rfl (WL.nil (WX.a (WC.ret (WX.yS (WX.yh (WX.yh (WX.yS (WX.yh ?_))))))))))
     obtain rfl:=Option.some.inj h
     refine WX.yi Tryd.results9 (.tmp rfl .nil) (fun w hw=>?_)
     exact ⟨(z6G ++ zkl),y1a rfl,trivial,hw.sub (.cons .h3 .nil)⟩
    ·replace h:=yn h zgt
     refine WC.skip (WX.yr (WX.a (WC.a (WL.pu rfl (WL.pu rfl (WL.pu rfl (WL.nil ?_)))))))
     exact WX.round (G:=Nat × List Sapi_Ins × List Int × Int × Int × Int × Int × Int × Int × Int × Zp × Option Addr × Nat × Option Addr × Nat) ⟨zgi,z4n,z4o,(i64 (z5u + 1)),z4x.1.fPc,z4x.1.fLeft,z4x.1.fRegs.a0,z4x.1.fRegs.a1,z4x.1.fRegs.a2,z4x.1.fRegs.a3,(z6G ++ zkl),zao,zap,zaq,zar⟩ ⟨h,(zdV.trans ((Zle.left _ _).trans (Zle.y7 _ _ _))),(zgq.mono ((Zle.left _ _).trans (Zle.y7 _ _ _))),(zgr.mono ((Zle.left _ _).trans (Zle.y7 _ _ _)))⟩ (Nat.lt_succ_self _) (.cons rfl (.cons rfl (.cons rfl (.cons rfl .nil)))) (.cons .h3 (.cons .here .nil))
   ·replace h:=yn h zgs
    refine WC.exit (WX.yO (WX.yO (WX.y1K ?_)))
    exact WX.mid (G:=List Sapi_Ins × List Int × Int × Int × Int × Int × Int × Int × Zp × Option Addr × Nat × Option Addr × Nat) ⟨z4n,z4o,z5v,z5w,z5x,z5y,z5z,z5A,z6G,zao,zap,zaq,zar⟩ ⟨h,zdV,zgq,zgr⟩ (.cons rfl (.cons rfl (.cons rfl .nil))) (.cons .here (.cons .here .nil))
  ·rintro z2A z4p z2M z2N z2O z2P z2Q z2R z2B z45 z47 zdT zdU ⟨h,z2k,zbG,zgu⟩
   replace h:=(zth z2A z4p z2M z2N z2O z2P z2Q z2R).symm.trans h
   refine WC.b (WC.b (WC.a ?_))
   refine WL.a (d:=48) rfl rfl rfl (yE yQ rfl (yz .h1) rfl) ?_
   refine WL.a (d:=49) rfl rfl rfl (yP (v:=(.agg #[(.int .u8 5),(.int .u8 5),(.int .u8 0),(.int .u8 0)])) (Eos.parts (l:=[.const (.int .u8 5),.const (.int .u8 5)]) (.cons rfl (.cons rfl .nil)) [0,1]) (fun _=>by kernel_rfl)) ?_
   refine WL.a (d:=50) rfl rfl rfl (yP (v:=(.agg #[(.int .i64 3),(.int .i64 0),(.int .u8 5),(.int .u8 5),(.int .u8 0),(.int .u8 0)])) (Eos.parts (l:=[.const (.int .i64 3),.tmp 49]) (.cons rfl (.cons rfl .nil)) [0,2]) (fun _=>by kernel_rfl)) ?_
   refine WL.a (d:=51) rfl rfl rfl (q_aggneq (enc:=e39) (a:=(⟨z2M,z2N,(⟨z2O,z2P,z2Q,z2R⟩ : S34)⟩ : Sproc_State)) (b:=(⟨3,0,(⟨5,5,0,0⟩ : S34)⟩ : Sproc_State)) y79 rfl rfl) ?_
   refine WL.nil (WX.a ?_)
   refine WC.cond rfl (fun zgv=>?_) (fun zgv=>?_)
   ·replace h:=ym h zgv
    refine WC.b (WC.a (WL.pu rfl (WL.nil (WX.a (WC.ret (WX.yh ?_))))))
    obtain rfl:=Option.some.inj h
    refine WX.yi Tryd.results9 (.tmp rfl .nil) (fun w hw=>?_)
    exact ⟨z2B,y1a rfl,trivial,hw.sub (.cons .here .nil)⟩
   ·replace h:=yn h zgv
    refine WC.skip (WX.a (WC.b ?_))
    obtain ⟨zx,ztn,h⟩:=zb h
    refine WC.a (WL.pu rfl ?_)
    refine WL.a (d:=54) rfl rfl rfl (yE yQ rfl (yz .h1) rfl) ?_
    refine WL.pu rfl ?_
    refine WL.y4s (dd:=56) rfl rfl rfl (zk (l:=[.tmp 53,.tmp 54,.tmp 55]) Tryd.call18 (.cons rfl (.cons rfl (.cons rfl .nil)))) .nil (ccz hz .nil .here fun w pz ho=>y2e _ _ _ _ _ _ _ _ _ ztn w pz (hG0.mono ((Zle.left _ _).trans z2k)) ((hG1.mono ((Zle.left _ _).trans z2k)).weak (fun _ _ h=>y10 ((Zle.left _ _).trans z2k) h)) zbG zgu) ?_
    rintro z4i z8R z8S zto
    refine WL.merge .here .here ?_
    refine WL.pu rfl (WL.pu rfl (WL.pu rfl ?_))
    refine WL.new (dd:=7) rfl rfl rfl (yA (cs:=[(.int .i64 0),(.int .i64 0),(.int .u8 0),(.int .u8 0),(.int .u8 0),(.int .u8 0)]) y1i rfl) ?_
    intro z8T _
    refine WL.new (dd:=8) rfl rfl rfl (yA (cs:=[(.int .u8 0),(.int .i64 0),(.int .i64 0),(.slice none 0 0)]) y1o rfl) ?_
    intro z3W _
    refine WL.yf rfl rfl (yt y1l rfl rfl rfl .h1 rfl rfl rfl) ?_
    refine WL.yf rfl rfl (yt yV rfl rfl rfl .h1 rfl rfl rfl) ?_
    refine WL.nil (WX.a (WC.b ?_))
    obtain ⟨zy,ztp,h⟩:=zb h
    refine WC.a (WL.pu rfl ?_)
    refine WL.a (d:=61) rfl rfl rfl (yE yQ rfl (yz .h1) rfl) ?_
    refine WL.pu rfl ?_
    refine WL.y4s (dd:=63) rfl rfl rfl (zk (l:=[.tmp 60,.tmp 61,.tmp 62]) Tryd.call18 (.cons rfl (.cons rfl (.cons rfl .nil)))) .nil (ccz hz .nil .h2 fun w pz ho=>y2e _ _ _ _ _ _ _ _ _ ztp w pz (hG0.mono ((Zle.left _ _).trans (z2k.trans ((Zle.left _ _).trans (Zle.y7 _ _ _))))) ((hG1.mono ((Zle.left _ _).trans (z2k.trans ((Zle.left _ _).trans (Zle.y7 _ _ _))))).weak (fun _ _ h=>y10 ((Zle.left _ _).trans (z2k.trans ((Zle.left _ _).trans (Zle.y7 _ _ _)))) h)) (zbG.mono ((Zle.left _ _).trans (Zle.y7 _ _ _))) (zgu.mono ((Zle.left _ _).trans (Zle.y7 _ _ _)))) ?_
    rintro z4j z8U z8V ztq
    refine WL.merge .here .h2 ?_
    refine WL.pu rfl (WL.pu rfl (WL.pu rfl ?_))
    refine WL.new (dd:=9) rfl rfl rfl (yA (cs:=[(.int .i64 0),(.int .i64 0),(.int .u8 0),(.int .u8 0),(.int .u8 0),(.int .u8 0)]) y1i rfl) ?_
    intro z8W _
    refine WL.new (dd:=10) rfl rfl rfl (yA (cs:=[(.int .u8 0),(.int .i64 0),(.int .i64 0),(.slice none 0 0)]) y1o rfl) ?_
    intro z3X _
    refine WL.yf rfl rfl (yt y1l rfl rfl rfl .h1 rfl rfl rfl) ?_
    refine WL.yf rfl rfl (yt yV rfl rfl rfl .h1 rfl rfl rfl) ?_
    refine WL.nil (WX.a (WC.b ?_))
    obtain ⟨ztr,h⟩:=ya h
    obtain ⟨zM,zeT,h⟩:=zb h
    refine WC.y11 (fun i=>[10,11].contains i) [] rfl ?_
    refine WD.a (i:=0) (d:=67) (by kernel_rfl) rfl z2 z6 rfl rfl rfl (fun _=>q_m rfl) ?_
    refine WD.e (i:=1) (d:=68) (by kernel_rfl) rfl z2 z6 rfl rfl rfl (yE yQ rfl (yz .h5) rfl) ?_
    refine WD.a (i:=2) (d:=69) (by kernel_rfl) rfl z2 z6 rfl rfl rfl (fun _=>q_m rfl) ?_
    refine WD.zsub (j:=3) (dd:=70) (by kernel_rfl) rfl z2 z6 rfl rfl (Z:=(Z ++ ((z2B ++ z4i) ++ z4j))) (Pr:=(fun r x=>r = e5 x)) y1F rfl (zgu.mono ((Zle.left _ _).trans ((Zle.y7 _ _ _).trans ((Zle.left _ _).trans (Zle.y7 _ _ _))))) (fun _=>ixn) (fun _=>ixo rfl) rfl rfl ztr (List.drop_zero).symm ?_
    rintro zgw zgx zeU
    refine WD.y68 (fuel':=0) (fun (Zn4o1_10545 : Zp) (ao4o2_10545 : Option Addr) (cap4o3_10545 : Nat) (b8o1_10545 : Nat) (b9o1_10545 : Nat)=>[(1,(.slice z45 z2A.length z47)),(8,(.pointer (some ⟨z3W,0,none⟩))),(10,(.pointer (some ⟨z3X,0,none⟩))),(12,(.pointer (some ⟨b9o1_10545,0,none⟩)))]) (fun (Zn4o1_10545 : Zp) (ao4o2_10545 : Option Addr) (cap4o3_10545 : Nat) (b8o1_10545 : Nat) (b9o1_10545 : Nat)=>[stb b9o1_10545 41 [(.int .u8 zM.2.fKind),(.int .i64 zM.2.fA),(.int .i64 zM.2.fB),(.slice ao4o2_10545 zM.2.fData.length cap4o3_10545)],stb b8o1_10545 39 [(.int .i64 zM.1.fPc),(.int .i64 zM.1.fLeft),(.int .u8 zM.1.fRegs.a0),(.int .u8 zM.1.fRegs.a1),(.int .u8 zM.1.fRegs.a2),(.int .u8 zM.1.fRegs.a3)],fz (((z2B ++ z4i) ++ z4j) ++ Zn4o1_10545),stb z3X 41 [(.int .u8 zy.2.fKind),(.int .i64 zy.2.fA),(.int .i64 zy.2.fB),(.slice z8U zy.2.fData.length z8V)],stb z8W 39 [(.int .i64 zy.1.fPc),(.int .i64 zy.1.fLeft),(.int .u8 zy.1.fRegs.a0),(.int .u8 zy.1.fRegs.a1),(.int .u8 zy.1.fRegs.a2),(.int .u8 zy.1.fRegs.a3)],stb z3W 41 [(.int .u8 zx.2.fKind),(.int .i64 zx.2.fA),(.int .i64 zx.2.fB),(.slice z8R zx.2.fData.length z8S)],stb z8T 39 [(.int .i64 zx.1.fPc),(.int .i64 zx.1.fLeft),(.int .u8 zx.1.fRegs.a0),(.int .u8 zx.1.fRegs.a1),(.int .u8 zx.1.fRegs.a2),(.int .u8 zx.1.fRegs.a3)],stb b2o1_10186 39 [(.int .i64 z2M),(.int .i64 z2N),(.int .u8 z2O),(.int .u8 z2P),(.int .u8 z2Q),(.int .u8 z2R)]]) (fun (Zn4o1_10545 : Zp) (ao4o2_10545 : Option Addr) (cap4o3_10545 : Nat) (b8o1_10545 : Nat) (b9o1_10545 : Nat)=>(ZS ((Z ++ ((z2B ++ z4i) ++ z4j)) ++ Zn4o1_10545) 1 (fun zM x=>zM = e5 x) ao4o2_10545 cap4o3_10545 zM.2.fData)) (y21 12 [11,10,9,8,7,6,5,4,3,2,1,0]) ?_ (fun K4o5o6o7o8o9o10o11_10545=>?_)
    ·skip
     rintro Zn4o1_10545 ao4o2_10545 cap4o3_10545 b8o1_10545 b9o1_10545 hf4o4_10545
     refine WD.done (by kernel_rfl) ?_
     refine WX.a (WC.b ?_)
     obtain ⟨zeS,zts,h⟩:=zb h
     obtain ⟨zkf,ztt,h⟩:=zb h
     refine WC.a ?_
     refine WL.new (dd:=75) rfl rfl rfl (yx (cs:=([2,1,3] : List Int).flatMap e3) yU (Eos.parts (l:=[.const (.int .i64 2),.const (.int .i64 1),.const (.int .i64 3)]) (.cons rfl (.cons rfl (.cons rfl .nil))) [0,1,2]) (fun _=>by kernel_rfl) rfl (by unfold maxLen; omega)) ?_
     intro zxC _
     refine WL.b (dd:=76) rfl rfl rfl (zk (l:=[.const (.int .u8 7),.tmp 75]) Tryd.call17 (.cons rfl (.cons rfl .nil))) .nil (y2c hz .nil .h3 (.cons .here .nil) fun w pz ho la=>y1t _ _ _ _ _ _ zts w pz (ZA.row (la _ (.head _) _) (RR.yI (enc:=e3) (fun _=>rfl) _) ⟨w,pz.1⟩)) ?_
     refine WL.new (dd:=77) rfl rfl rfl (yx (cs:=([zeS] : List Sapi_Ins).flatMap e33) y3J (Eos.parts (l:=[.tmp 76]) (.cons rfl .nil) [0]) (fun _=>by kernel_rfl) rfl (by unfold maxLen; omega)) ?_
     intro zxD _
     refine WL.a (d:=78) rfl rfl rfl (yP (v:=(.agg #[(.int .u8 0),(.int .u8 255),(.int .u8 0),(.int .u8 0)])) (Eos.parts (l:=[.const (.int .u8 0),.const (.int .u8 255)]) (.cons rfl (.cons rfl .nil)) [0,1]) (fun _=>by kernel_rfl)) ?_
     refine WL.a (d:=79) rfl rfl rfl (yP (v:=(.agg #[(.int .i64 0),(.int .i64 0),(.int .u8 0),(.int .u8 255),(.int .u8 0),(.int .u8 0)])) (Eos.parts (l:=[.tmp 78]) (.cons rfl .nil) [2]) (fun _=>by kernel_rfl)) ?_
     refine WL.freezeS (ls:=([zeS] : List Sapi_Ins)) .here .h3 hz (RR.yI (enc:=e33) (fun _=>rfl) _) ?_
     intro ztu z4S ztv
     refine WL.y4s (dd:=80) rfl rfl rfl (zk (l:=[.tmp 77,.tmp 79,.const (.slice none 0 0)]) Tryd.call18 (.cons rfl (.cons rfl (.cons rfl .nil)))) .nil (ccz hz .nil .here fun w pz ho=>y2e _ _ _ _ _ _ _ _ _ ztt w pz (hG0.mono ((Zle.left _ _).trans (z2k.trans ((Zle.left _ _).trans ((Zle.y7 _ _ _).trans ((Zle.left _ _).trans ((Zle.y7 _ _ _).trans ((Zle.left _ _).trans ((Zle.y7 _ _ _).trans z4S))))))))) ((hG1.mono ((Zle.left _ _).trans (z2k.trans ((Zle.left _ _).trans ((Zle.y7 _ _ _).trans ((Zle.left _ _).trans ((Zle.y7 _ _ _).trans ((Zle.left _ _).trans ((Zle.y7 _ _ _).trans z4S))))))))).weak (fun _ _ h=>y10 ((Zle.left _ _).trans (z2k.trans ((Zle.left _ _).trans ((Zle.y7 _ _ _).trans ((Zle.left _ _).trans ((Zle.y7 _ _ _).trans ((Zle.left _ _).trans ((Zle.y7 _ _ _).trans z4S)))))))) h)) ztv (ZS.nil _ _ _)) ?_
     rintro ztw zxE zxF ztx
     refine WL.merge .here .here ?_
     refine WL.pu rfl (WL.pu rfl (WL.pu rfl ?_))
     refine WL.new (dd:=13) rfl rfl rfl (yA (cs:=[(.int .i64 0),(.int .i64 0),(.int .u8 0),(.int .u8 0),(.int .u8 0),(.int .u8 0)]) y1i rfl) ?_
     intro zxG _
     refine WL.new (dd:=14) rfl rfl rfl (yA (cs:=[(.int .u8 0),(.int .i64 0),(.int .i64 0),(.slice none 0 0)]) y1o rfl) ?_
     intro zxH _
     refine WL.yf rfl rfl (yt y1l rfl rfl rfl .h1 rfl rfl rfl) ?_
     refine WL.yf rfl rfl (yt yV rfl rfl rfl .h1 rfl rfl rfl) ?_
     refine WL.nil (WX.a (WC.b ?_))
     obtain ⟨z5B,zty,h⟩:=zb h
     refine WC.a (WL.pu rfl ?_)
     refine WL.b (dd:=85) rfl rfl rfl (zk (l:=[.tmp 84,.const (.int .i64 0)]) Tryd.call13 (.cons rfl (.cons rfl .nil))) .nil (ccz hz .nil .h2 fun w pz ho=>y3Q _ _ _ _ _ _ zty w pz ((hG1.mono ((Zle.left _ _).trans (z2k.trans ((Zle.left _ _).trans ((Zle.y7 _ _ _).trans ((Zle.left _ _).trans ((Zle.y7 _ _ _).trans ((Zle.left _ _).trans ((Zle.y7 _ _ _).trans (z4S.trans ((Zle.left _ _).trans (Zle.y7 _ _ _)))))))))))).weak (fun _ _ h=>y10 ((Zle.left _ _).trans (z2k.trans ((Zle.left _ _).trans ((Zle.y7 _ _ _).trans ((Zle.left _ _).trans ((Zle.y7 _ _ _).trans ((Zle.left _ _).trans ((Zle.y7 _ _ _).trans (z4S.trans ((Zle.left _ _).trans (Zle.y7 _ _ _))))))))))) h)) (zbG.mono ((Zle.left _ _).trans ((Zle.y7 _ _ _).trans ((Zle.left _ _).trans ((Zle.y7 _ _ _).trans ((Zle.left _ _).trans ((Zle.y7 _ _ _).trans (z4S.trans ((Zle.left _ _).trans (Zle.y7 _ _ _))))))))))) ?_
     refine WL.pu rfl (WL.pu rfl (WL.pu rfl (WL.pu rfl (WL.pu rfl (WL.nil (WX.a (WC.b ?_)))))))
     obtain ⟨zgj,ztz,h⟩:=zb h
     obtain ⟨zdO,ztA,h⟩:=zb h
     refine WC.a ?_
     refine WL.new (dd:=89) rfl rfl rfl (yx (cs:=([0,0] : List Int).flatMap e3) yU (Eos.parts (l:=[.const (.int .i64 0),.const (.int .i64 0)]) (.cons rfl (.cons rfl .nil)) [0,1]) (fun _=>by kernel_rfl) rfl (by unfold maxLen; omega)) ?_
     intro zxI _
     refine WL.b (dd:=90) rfl rfl rfl (zk (l:=[.const (.int .u8 21),.tmp 89]) Tryd.call17 (.cons rfl (.cons rfl .nil))) .nil (y2c hz .nil .h3 (.cons .here .nil) fun w pz ho la=>y1t _ _ _ _ _ _ ztz w pz (ZA.row (la _ (.head _) _) (RR.yI (enc:=e3) (fun _=>rfl) _) ⟨w,pz.1⟩)) ?_
     refine WL.new (dd:=91) rfl rfl rfl (yx (cs:=([zgj] : List Sapi_Ins).flatMap e33) y3J (Eos.parts (l:=[.tmp 90]) (.cons rfl .nil) [0]) (fun _=>by kernel_rfl) rfl (by unfold maxLen; omega)) ?_
     intro zxJ _
     refine WL.b (dd:=92) rfl rfl rfl (zk (l:=[.tmp 91,.const (.int .i64 0)]) Tryd.call13 (.cons rfl (.cons rfl .nil))) .nil (y2c hz .nil .h4 (.cons .here .nil) fun w pz ho la=>y3Q _ _ _ _ _ _ ztA w pz ((((hG1.mono ((Zle.left _ _).trans (z2k.trans ((Zle.left _ _).trans ((Zle.y7 _ _ _).trans ((Zle.left _ _).trans ((Zle.y7 _ _ _).trans ((Zle.left _ _).trans ((Zle.y7 _ _ _).trans (z4S.trans ((Zle.left _ _).trans (Zle.y7 _ _ _)))))))))))).weak (fun _ _ h=>y10 ((Zle.left _ _).trans (z2k.trans ((Zle.left _ _).trans ((Zle.y7 _ _ _).trans ((Zle.left _ _).trans ((Zle.y7 _ _ _).trans ((Zle.left _ _).trans ((Zle.y7 _ _ _).trans (z4S.trans ((Zle.left _ _).trans (Zle.y7 _ _ _))))))))))) h)).mono (Zle.left _ _)).weak (fun _ _ h=>y10 (Zle.left _ _) h)) (ZA.row (la _ (.head _) _) (RR.yI (enc:=e33) (fun _=>rfl) _) ⟨w,pz.1⟩)) ?_
     refine WL.pu rfl (WL.pu rfl (WL.pu rfl (WL.pu rfl (WL.pu rfl (WL.nil (WX.a (WC.b ?_)))))))
     obtain ⟨zgk,ztB,h⟩:=zb h
     obtain ⟨zgl,ztC,h⟩:=zb h
     obtain ⟨zgm,ztD,h⟩:=zb h
     obtain ⟨zdn,ztE,h⟩:=zb h
     refine WC.a ?_
     refine WL.new (dd:=96) rfl rfl rfl (yx (cs:=([0,1,2] : List Int).flatMap e3) yU (Eos.parts (l:=[.const (.int .i64 0),.const (.int .i64 1),.const (.int .i64 2)]) (.cons rfl (.cons rfl (.cons rfl .nil))) [0,1,2]) (fun _=>by kernel_rfl) rfl (by unfold maxLen; omega)) ?_
     intro zxK _
     refine WL.b (dd:=97) rfl rfl rfl (zk (l:=[.const (.int .u8 22),.tmp 96]) Tryd.call17 (.cons rfl (.cons rfl .nil))) .nil (y2c hz .nil .h5 (.cons .here .nil) fun w pz ho la=>y1t _ _ _ _ _ _ ztB w pz (ZA.row (la _ (.head _) _) (RR.yI (enc:=e3) (fun _=>rfl) _) ⟨w,pz.1⟩)) ?_
     refine WL.new (dd:=98) rfl rfl rfl (yx (cs:=([9] : List Int).flatMap e3) yU (Eos.parts (l:=[.const (.int .i64 9)]) (.cons rfl .nil) [0]) (fun _=>by kernel_rfl) rfl (by unfold maxLen; omega)) ?_
     intro zxL _
     refine WL.b (dd:=99) rfl rfl rfl (zk (l:=[.const (.int .u8 1),.tmp 98]) Tryd.call17 (.cons rfl (.cons rfl .nil))) .nil (y2c hz .nil .h6 (.cons .here .nil) fun w pz ho la=>y1t _ _ _ _ _ _ ztC w pz (ZA.row (la _ (.head _) _) (RR.yI (enc:=e3) (fun _=>rfl) _) ⟨w,pz.1⟩)) ?_
     refine WL.b (dd:=100) rfl rfl rfl (zk (l:=[.const (.int .u8 25),.const (.slice none 0 0)]) Tryd.call17 (.cons rfl (.cons rfl .nil))) .nil (ccz hz .nil .h6 fun w pz ho=>y1t _ _ _ _ _ _ ztD w pz (ZS.nil _ _ _)) ?_
     refine WL.new (dd:=101) rfl rfl rfl (yx (cs:=([zgk,zgl,zgm] : List Sapi_Ins).flatMap e33) y3J (Eos.parts (l:=[.tmp 97,.tmp 99,.tmp 100]) (.cons rfl (.cons rfl (.cons rfl .nil))) [0,1,2]) (fun _=>by kernel_rfl) rfl (by unfold maxLen; omega)) ?_
     intro zxM _
     refine WL.b (dd:=102) rfl rfl rfl (zk (l:=[.tmp 101,.const (.int .i64 0)]) Tryd.call13 (.cons rfl (.cons rfl .nil))) .nil (y2c hz .nil .h7 (.cons .here .nil) fun w pz ho la=>y3Q _ _ _ _ _ _ ztE w pz ((((hG1.mono ((Zle.left _ _).trans (z2k.trans ((Zle.left _ _).trans ((Zle.y7 _ _ _).trans ((Zle.left _ _).trans ((Zle.y7 _ _ _).trans ((Zle.left _ _).trans ((Zle.y7 _ _ _).trans (z4S.trans ((Zle.left _ _).trans (Zle.y7 _ _ _)))))))))))).weak (fun _ _ h=>y10 ((Zle.left _ _).trans (z2k.trans ((Zle.left _ _).trans ((Zle.y7 _ _ _).trans ((Zle.left _ _).trans ((Zle.y7 _ _ _).trans ((Zle.left _ _).trans ((Zle.y7 _ _ _).trans (z4S.trans ((Zle.left _ _).trans (Zle.y7 _ _ _))))))))))) h)).mono (Zle.left _ _)).weak (fun _ _ h=>y10 (Zle.left _ _) h)) (ZA.row (la _ (.head _) _) (RR.yI (enc:=e33) (fun _=>rfl) _) ⟨w,pz.1⟩)) ?_
     refine WL.pu rfl (WL.pu rfl (WL.pu rfl (WL.pu rfl (WL.pu rfl (WL.nil (WX.a (WC.b ?_)))))))
     obtain ⟨zkg,ztF,h⟩:=zb h
     obtain ⟨zgn,zkm,h⟩:=zb h
     obtain ⟨zgo,zkn,h⟩:=zb h
     obtain ⟨zan,zko,h⟩:=zb h
     refine WC.a ?_
     refine WL.a (d:=105) rfl rfl rfl (yE y1q rfl (yz (.there (.there (.there (.there (.there (.there .h7))))))) rfl) ?_
     refine WL.a (d:=106) rfl rfl rfl (yP (v:=(.agg #[(.int .u8 1),(.int .i64 21),(.int .i64 5),(.slice none 0 0)])) (Eos.parts (l:=[.const (.int .u8 1),.const (.int .i64 21),.const (.int .i64 5)]) (.cons rfl (.cons rfl (.cons rfl .nil))) [0,1,2]) (fun _=>by kernel_rfl)) ?_
     refine WL.b (dd:=107) rfl rfl rfl (zk (l:=[.tmp 105,.tmp 106]) Tryd.call19 (.cons rfl (.cons rfl .nil))) .nil (ccz hz .nil .h7 fun w pz ho=>y22 _ _ _ _ _ _ _ _ ztF w pz (zto.mono ((Zle.y7 _ _ _).trans ((Zle.left _ _).trans ((Zle.y7 _ _ _).trans ((Zle.left _ _).trans ((Zle.y7 _ _ _).trans (z4S.trans ((Zle.left _ _).trans (Zle.y7 _ _ _))))))))) (ZS.nil _ _ _)) ?_
     refine WL.pu rfl ?_
     refine WL.seg true 3 108 (B:=zgn) rfl rfl rfl rfl rfl rfl (fun h=>(Option.some.inj (yn zkm h)).symm) (fun _ ztG=>?_) ?_
     ·skip
      have zdW:=ym zkm ztG
      obtain ⟨zkh,ztH,zdW⟩:=zb zdW
      replace zdW:=Option.some.inj zdW
      refine WL.a (d:=109) rfl rfl rfl (yE y1q rfl (yz (.there (.there (.there (.there .h7))))) rfl) ?_
      refine WL.a (d:=110) rfl rfl rfl (yP (v:=(.agg #[(.int .u8 14),(.int .i64 0),(.int .i64 0),(.slice none 0 0)])) (Eos.parts (l:=[.const (.int .u8 14)]) (.cons rfl .nil) [0]) (fun _=>by kernel_rfl)) ?_
      refine WL.b (dd:=111) rfl rfl rfl (zk (l:=[.tmp 109,.tmp 110]) Tryd.call19 (.cons rfl (.cons rfl .nil))) .nil (ccz hz .nil .h7 fun w pz ho=>y22 _ _ _ _ _ _ _ _ ztH w pz (ztq.mono ((Zle.y7 _ _ _).trans ((Zle.left _ _).trans ((Zle.y7 _ _ _).trans (z4S.trans ((Zle.left _ _).trans (Zle.y7 _ _ _))))))) (ZS.nil _ _ _)) ?_
      refine WL.pu rfl ?_
      exact WL.yD zdW rfl rfl .all
     refine WL.pu rfl ?_
     refine WL.seg true 3 113 (B:=zgo) rfl rfl rfl rfl rfl rfl (fun h=>(Option.some.inj (yn zkn h)).symm) (fun _ ztI=>?_) ?_
     ·skip
      have zdX:=ym zkn ztI
      obtain ⟨zki,ztJ,zdX⟩:=zb zdX
      replace zdX:=Option.some.inj zdX
      refine WL.a (d:=114) rfl rfl rfl (yE y1q rfl (yz (.there (.there .h7))) rfl) ?_
      refine WL.a (d:=115) rfl rfl rfl (yP (v:=(.agg #[(.int .u8 15),(.int .i64 2),(.int .i64 0),(.slice none 0 0)])) (Eos.parts (l:=[.const (.int .u8 15),.const (.int .i64 2)]) (.cons rfl (.cons rfl .nil)) [0,1]) (fun _=>by kernel_rfl)) ?_
      refine WL.b (dd:=116) rfl rfl rfl (zk (l:=[.tmp 114,.tmp 115]) Tryd.call19 (.cons rfl (.cons rfl .nil))) .nil (ccz hz .nil .h7 fun w pz ho=>y22 _ _ _ _ _ _ _ _ ztJ w pz (hf4o4_10545.mono ((Zle.y7 _ _ _).trans (z4S.trans ((Zle.left _ _).trans (Zle.y7 _ _ _))))) (ZS.nil _ _ _)) ?_
      refine WL.pu rfl ?_
      exact WL.yD zdX rfl rfl .all
     refine WL.pu rfl ?_
     refine WL.seg true 4 118 (B:=zan) rfl rfl rfl rfl rfl rfl (fun h=>(Option.some.inj (yn zko h)).symm) (fun _ ztK=>?_) ?_
     ·skip
      have zdY:=ym zko ztK
      obtain ⟨zkj,ztL,zdY⟩:=zb zdY
      replace zdY:=Option.some.inj zdY
      refine WL.a (d:=119) rfl rfl rfl (yE y1q rfl (yz .h5) rfl) ?_
      refine WL.new (dd:=120) rfl rfl rfl (yx (cs:=([255,0,1] : List Int).flatMap e5) y1F (Eos.parts (l:=[.const (.int .u8 255),.const (.int .u8 0),.const (.int .u8 1)]) (.cons rfl (.cons rfl (.cons rfl .nil))) [0,1,2]) (fun _=>by kernel_rfl) rfl (by unfold maxLen; omega)) ?_
      intro ztM _
      refine WL.a (d:=121) rfl rfl rfl (yP (v:=(.agg #[(.int .u8 2),(.int .i64 2),(.int .i64 0),(.slice (some ⟨ztM,0,none⟩) (([255,0,1] : List Int).length) 3)])) (Eos.parts (l:=[.const (.int .u8 2),.const (.int .i64 2),.tmp 120]) (.cons rfl (.cons rfl (.cons rfl .nil))) [0,1,3]) (fun _=>by kernel_rfl)) ?_
      refine WL.b (dd:=122) rfl rfl rfl (zk (l:=[.tmp 119,.tmp 121]) Tryd.call19 (.cons rfl (.cons rfl .nil))) .nil (y2c hz .nil (.there .h7) (.cons .here .nil) fun w pz ho la=>y22 _ _ _ _ _ _ _ _ ztL w pz ((ztx.mono (Zle.y7 _ _ _)).mono (Zle.left _ _)) (ZA.row (la _ (.head _) _) (RR.yI (enc:=e5) (fun _=>rfl) _) ⟨w,pz.1⟩)) ?_
      refine WL.pu rfl ?_
      exact WL.yD zdY rfl rfl (.cons .h1 (.cons .h1 (.cons .h1 (.cons .h1 (.cons .h1 (.cons .h1 (.cons .h1 (.cons .h1 (.cons .h1 (.cons .h1 (.cons .h1 (.cons .h1 (.cons .h1 (.cons .h1 (.cons .h1 (.cons .h1 .nil))))))))))))))))
     refine WL.pu rfl ?_
     refine WL.seg true 2 124 (B:=zan && (decide (z5B.1 = 7))) rfl rfl rfl rfl rfl rfl (fun h=>(y3D h).symm) (fun _ ztN=>?_) ?_
     ·skip
      refine WL.pu rfl (WL.pu rfl (WL.pu rfl ?_))
      exact WL.yD (y3E ztN) rfl rfl .all
     refine WL.pu rfl ?_
     refine WL.seg true 1 128 (B:=(zan && (decide (z5B.1 = 7))) && z5B.2) rfl rfl rfl rfl rfl rfl (fun h=>(y3D h).symm) (fun _ ztO=>?_) ?_
     ·skip
      refine WL.pu rfl (WL.pu rfl ?_)
      exact WL.yD (y3E ztO) rfl rfl .all
     refine WL.pu rfl ?_
     refine WL.seg true 2 131 (B:=((zan && (decide (z5B.1 = 7))) && z5B.2) && (!zdO.2)) rfl rfl rfl rfl rfl rfl (fun h=>(y3D h).symm) (fun _ ztP=>?_) ?_
     ·skip
      refine WL.pu rfl (WL.pu rfl (WL.pu rfl ?_))
      exact WL.yD (y3E ztP) rfl rfl .all
     refine WL.pu rfl ?_
     refine WL.seg true 2 135 (B:=(((zan && (decide (z5B.1 = 7))) && z5B.2) && (!zdO.2)) && (decide (zdn.1 = 11))) rfl rfl rfl rfl rfl rfl (fun h=>(y3D h).symm) (fun _ ztQ=>?_) ?_
     ·skip
      refine WL.pu rfl (WL.pu rfl (WL.pu rfl ?_))
      exact WL.yD (y3E ztQ) rfl rfl .all
     refine WL.pu rfl ?_
     refine WL.seg true 1 139 (B:=((((zan && (decide (z5B.1 = 7))) && z5B.2) && (!zdO.2)) && (decide (zdn.1 = 11))) && zdn.2) rfl rfl rfl rfl rfl rfl (fun h=>(y3D h).symm) (fun _ ztR=>?_) ?_
     ·skip
      refine WL.pu rfl (WL.pu rfl ?_)
      exact WL.yD (y3E ztR) rfl rfl .all
     refine WL.pu rfl (WL.nil (WX.a (WC.ret ?_)))
     obtain rfl:=Option.some.inj h
     refine WX.yi Tryd.results9 (.tmp rfl .nil) (fun w hw=>?_)
     exact ⟨(ztu ++ ztw),y1a rfl,trivial,hw.sub (.cons .h7 .nil)⟩
    refine WD.y68 (fuel':=1) (fun (Zn4o1_10545 : Zp) (ao4o2_10545 : Option Addr) (cap4o3_10545 : Nat) (b8o1_10545 : Nat) (b9o1_10545 : Nat)=>[(1,(.slice z45 z2A.length z47)),(8,(.pointer (some ⟨z3W,0,none⟩))),(10,(.pointer (some ⟨z3X,0,none⟩))),(73,(.agg #[(.int .u8 zM.2.fKind),(.int .i64 zM.2.fA),(.int .i64 zM.2.fB),(.slice ao4o2_10545 zM.2.fData.length cap4o3_10545)])),(12,(.pointer (some ⟨b9o1_10545,0,none⟩)))]) (fun (Zn4o1_10545 : Zp) (ao4o2_10545 : Option Addr) (cap4o3_10545 : Nat) (b8o1_10545 : Nat) (b9o1_10545 : Nat)=>[stb b8o1_10545 39 [(.int .i64 zM.1.fPc),(.int .i64 zM.1.fLeft),(.int .u8 zM.1.fRegs.a0),(.int .u8 zM.1.fRegs.a1),(.int .u8 zM.1.fRegs.a2),(.int .u8 zM.1.fRegs.a3)],stb b9o1_10545 41 [(.int .u8 0),(.int .i64 0),(.int .i64 0),(.slice none 0 0)],fz (((z2B ++ z4i) ++ z4j) ++ Zn4o1_10545),stb z3X 41 [(.int .u8 zy.2.fKind),(.int .i64 zy.2.fA),(.int .i64 zy.2.fB),(.slice z8U zy.2.fData.length z8V)],stb z8W 39 [(.int .i64 zy.1.fPc),(.int .i64 zy.1.fLeft),(.int .u8 zy.1.fRegs.a0),(.int .u8 zy.1.fRegs.a1),(.int .u8 zy.1.fRegs.a2),(.int .u8 zy.1.fRegs.a3)],stb z3W 41 [(.int .u8 zx.2.fKind),(.int .i64 zx.2.fA),(.int .i64 zx.2.fB),(.slice z8R zx.2.fData.length z8S)],stb z8T 39 [(.int .i64 zx.1.fPc),(.int .i64 zx.1.fLeft),(.int .u8 zx.1.fRegs.a0),(.int .u8 zx.1.fRegs.a1),(.int .u8 zx.1.fRegs.a2),(.int .u8 zx.1.fRegs.a3)],stb b2o1_10186 39 [(.int .i64 z2M),(.int .i64 z2N),(.int .u8 z2O),(.int .u8 z2P),(.int .u8 z2Q),(.int .u8 z2R)]]) (fun (Zn4o1_10545 : Zp) (ao4o2_10545 : Option Addr) (cap4o3_10545 : Nat) (b8o1_10545 : Nat) (b9o1_10545 : Nat)=>(ZS ((Z ++ ((z2B ++ z4i) ++ z4j)) ++ Zn4o1_10545) 1 (fun zM x=>zM = e5 x) ao4o2_10545 cap4o3_10545 zM.2.fData)) (y21 12 [10,9,8,7,6,5,4,3,2,1,0]) ?_ (fun K4o5o6o7o8o9o10_10545=>?_)
    ·skip
     rintro Zn4o1_10545 ao4o2_10545 cap4o3_10545 b8o1_10545 b9o1_10545 hf4o4_10545
     refine WD.y1J (i:=11) rfl (by kernel_rfl) rfl rfl rfl (by kernel_rfl) (yt yV rfl rfl rfl .h1 rfl rfl rfl) ?_
     exact WD.reL (.cons .here (.cons .here (.cons .here (.cons .here (.cons .here (.cons .here (.cons .here (.cons .here .nil)))))))) (.cons rfl (.cons rfl (.cons rfl (.cons rfl .nil)))) (K4o5o6o7o8o9o10o11_10545 Zn4o1_10545 ao4o2_10545 cap4o3_10545 b8o1_10545 b9o1_10545 hf4o4_10545)
    refine WD.y68 (fuel':=2) (fun (Zn4o1_10545 : Zp) (ao4o2_10545 : Option Addr) (cap4o3_10545 : Nat) (b8o1_10545 : Nat) (b9o1_10545 : Nat)=>[(1,(.slice z45 z2A.length z47)),(8,(.pointer (some ⟨z3W,0,none⟩))),(10,(.pointer (some ⟨z3X,0,none⟩))),(72,(.agg #[(.int .i64 zM.1.fPc),(.int .i64 zM.1.fLeft),(.int .u8 zM.1.fRegs.a0),(.int .u8 zM.1.fRegs.a1),(.int .u8 zM.1.fRegs.a2),(.int .u8 zM.1.fRegs.a3)])),(73,(.agg #[(.int .u8 zM.2.fKind),(.int .i64 zM.2.fA),(.int .i64 zM.2.fB),(.slice ao4o2_10545 zM.2.fData.length cap4o3_10545)])),(11,(.pointer (some ⟨b8o1_10545,0,none⟩))),(12,(.pointer (some ⟨b9o1_10545,0,none⟩)))]) (fun (Zn4o1_10545 : Zp) (ao4o2_10545 : Option Addr) (cap4o3_10545 : Nat) (b8o1_10545 : Nat) (b9o1_10545 : Nat)=>[stb b9o1_10545 41 [(.int .u8 0),(.int .i64 0),(.int .i64 0),(.slice none 0 0)],stb b8o1_10545 39 [(.int .i64 0),(.int .i64 0),(.int .u8 0),(.int .u8 0),(.int .u8 0),(.int .u8 0)],fz (((z2B ++ z4i) ++ z4j) ++ Zn4o1_10545),stb z3X 41 [(.int .u8 zy.2.fKind),(.int .i64 zy.2.fA),(.int .i64 zy.2.fB),(.slice z8U zy.2.fData.length z8V)],stb z8W 39 [(.int .i64 zy.1.fPc),(.int .i64 zy.1.fLeft),(.int .u8 zy.1.fRegs.a0),(.int .u8 zy.1.fRegs.a1),(.int .u8 zy.1.fRegs.a2),(.int .u8 zy.1.fRegs.a3)],stb z3W 41 [(.int .u8 zx.2.fKind),(.int .i64 zx.2.fA),(.int .i64 zx.2.fB),(.slice z8R zx.2.fData.length z8S)],stb z8T 39 [(.int .i64 zx.1.fPc),(.int .i64 zx.1.fLeft),(.int .u8 zx.1.fRegs.a0),(.int .u8 zx.1.fRegs.a1),(.int .u8 zx.1.fRegs.a2),(.int .u8 zx.1.fRegs.a3)],stb b2o1_10186 39 [(.int .i64 z2M),(.int .i64 z2N),(.int .u8 z2O),(.int .u8 z2P),(.int .u8 z2Q),(.int .u8 z2R)]]) (fun (Zn4o1_10545 : Zp) (ao4o2_10545 : Option Addr) (cap4o3_10545 : Nat) (b8o1_10545 : Nat) (b9o1_10545 : Nat)=>(ZS ((Z ++ ((z2B ++ z4i) ++ z4j)) ++ Zn4o1_10545) 1 (fun zM x=>zM = e5 x) ao4o2_10545 cap4o3_10545 zM.2.fData)) (y21 12 [9,8,7,6,5,4,3,2,1,0]) ?_ (fun K4o5o6o7o8o9_10545=>?_)
    ·skip
     rintro Zn4o1_10545 ao4o2_10545 cap4o3_10545 b8o1_10545 b9o1_10545 hf4o4_10545
     refine WD.forced0 (i:=10) rfl (by kernel_rfl) rfl rfl rfl (Sin.of .nil) (yt y1l rfl rfl rfl .h1 rfl rfl rfl) ?_
     exact WD.reL (.cons .here (.cons .here (.cons .here (.cons .here (.cons .here (.cons .here (.cons .here (.cons .here .nil)))))))) (.cons rfl (.cons rfl (.cons rfl (.cons rfl (.cons rfl .nil))))) (K4o5o6o7o8o9o10_10545 Zn4o1_10545 ao4o2_10545 cap4o3_10545 b8o1_10545 b9o1_10545 hf4o4_10545)
    refine WD.y6W (fuel':=3) (fun (Zn4o1_10545 : Zp) (ao4o2_10545 : Option Addr) (cap4o3_10545 : Nat) (b8o1_10545 : Nat)=>[(1,(.slice z45 z2A.length z47)),(8,(.pointer (some ⟨z3W,0,none⟩))),(10,(.pointer (some ⟨z3X,0,none⟩))),(72,(.agg #[(.int .i64 zM.1.fPc),(.int .i64 zM.1.fLeft),(.int .u8 zM.1.fRegs.a0),(.int .u8 zM.1.fRegs.a1),(.int .u8 zM.1.fRegs.a2),(.int .u8 zM.1.fRegs.a3)])),(73,(.agg #[(.int .u8 zM.2.fKind),(.int .i64 zM.2.fA),(.int .i64 zM.2.fB),(.slice ao4o2_10545 zM.2.fData.length cap4o3_10545)])),(11,(.pointer (some ⟨b8o1_10545,0,none⟩)))]) (fun (Zn4o1_10545 : Zp) (ao4o2_10545 : Option Addr) (cap4o3_10545 : Nat) (b8o1_10545 : Nat)=>[stb b8o1_10545 39 [(.int .i64 0),(.int .i64 0),(.int .u8 0),(.int .u8 0),(.int .u8 0),(.int .u8 0)],fz (((z2B ++ z4i) ++ z4j) ++ Zn4o1_10545),stb z3X 41 [(.int .u8 zy.2.fKind),(.int .i64 zy.2.fA),(.int .i64 zy.2.fB),(.slice z8U zy.2.fData.length z8V)],stb z8W 39 [(.int .i64 zy.1.fPc),(.int .i64 zy.1.fLeft),(.int .u8 zy.1.fRegs.a0),(.int .u8 zy.1.fRegs.a1),(.int .u8 zy.1.fRegs.a2),(.int .u8 zy.1.fRegs.a3)],stb z3W 41 [(.int .u8 zx.2.fKind),(.int .i64 zx.2.fA),(.int .i64 zx.2.fB),(.slice z8R zx.2.fData.length z8S)],stb z8T 39 [(.int .i64 zx.1.fPc),(.int .i64 zx.1.fLeft),(.int .u8 zx.1.fRegs.a0),(.int .u8 zx.1.fRegs.a1),(.int .u8 zx.1.fRegs.a2),(.int .u8 zx.1.fRegs.a3)],stb b2o1_10186 39 [(.int .i64 z2M),(.int .i64 z2N),(.int .u8 z2O),(.int .u8 z2P),(.int .u8 z2Q),(.int .u8 z2R)]]) (fun (Zn4o1_10545 : Zp) (ao4o2_10545 : Option Addr) (cap4o3_10545 : Nat) (b8o1_10545 : Nat)=>(ZS ((Z ++ ((z2B ++ z4i) ++ z4j)) ++ Zn4o1_10545) 1 (fun zM x=>zM = e5 x) ao4o2_10545 cap4o3_10545 zM.2.fData)) (y21 12 [8,7,6,5,4,3,2,1,0]) ?_ (fun K4o5o6o7o8_10545=>?_)
    ·skip
     rintro Zn4o1_10545 ao4o2_10545 cap4o3_10545 b8o1_10545 hf4o4_10545
     refine WD.new (i:=9) (dd:=12) rfl (by kernel_rfl) rfl rfl rfl (yA (cs:=[(.int .u8 0),(.int .i64 0),(.int .i64 0),(.slice none 0 0)]) y1o rfl) (fun h'=>absurd h' (by decide)) ?_
     intro b9o1_10545 _
     exact WD.reL (.cons .here (.cons .here (.cons .here (.cons .here (.cons .here (.cons .here (.cons .here (.cons .here .nil)))))))) (.cons rfl (.cons rfl (.cons rfl (.cons rfl (.cons rfl (.cons rfl (.cons rfl .nil))))))) (K4o5o6o7o8o9_10545 Zn4o1_10545 ao4o2_10545 cap4o3_10545 b8o1_10545 b9o1_10545 hf4o4_10545)
    refine WD.y6W (fuel':=3) (fun (Zn4o1_10545 : Zp) (ao4o2_10545 : Option Addr) (cap4o3_10545 : Nat) (b9o1_10545 : Nat)=>[(1,(.slice z45 z2A.length z47)),(8,(.pointer (some ⟨z3W,0,none⟩))),(10,(.pointer (some ⟨z3X,0,none⟩))),(72,(.agg #[(.int .i64 zM.1.fPc),(.int .i64 zM.1.fLeft),(.int .u8 zM.1.fRegs.a0),(.int .u8 zM.1.fRegs.a1),(.int .u8 zM.1.fRegs.a2),(.int .u8 zM.1.fRegs.a3)])),(73,(.agg #[(.int .u8 zM.2.fKind),(.int .i64 zM.2.fA),(.int .i64 zM.2.fB),(.slice ao4o2_10545 zM.2.fData.length cap4o3_10545)])),(12,(.pointer (some ⟨b9o1_10545,0,none⟩)))]) (fun (Zn4o1_10545 : Zp) (ao4o2_10545 : Option Addr) (cap4o3_10545 : Nat) (b9o1_10545 : Nat)=>[stb b9o1_10545 41 [(.int .u8 0),(.int .i64 0),(.int .i64 0),(.slice none 0 0)],fz (((z2B ++ z4i) ++ z4j) ++ Zn4o1_10545),stb z3X 41 [(.int .u8 zy.2.fKind),(.int .i64 zy.2.fA),(.int .i64 zy.2.fB),(.slice z8U zy.2.fData.length z8V)],stb z8W 39 [(.int .i64 zy.1.fPc),(.int .i64 zy.1.fLeft),(.int .u8 zy.1.fRegs.a0),(.int .u8 zy.1.fRegs.a1),(.int .u8 zy.1.fRegs.a2),(.int .u8 zy.1.fRegs.a3)],stb z3W 41 [(.int .u8 zx.2.fKind),(.int .i64 zx.2.fA),(.int .i64 zx.2.fB),(.slice z8R zx.2.fData.length z8S)],stb z8T 39 [(.int .i64 zx.1.fPc),(.int .i64 zx.1.fLeft),(.int .u8 zx.1.fRegs.a0),(.int .u8 zx.1.fRegs.a1),(.int .u8 zx.1.fRegs.a2),(.int .u8 zx.1.fRegs.a3)],stb b2o1_10186 39 [(.int .i64 z2M),(.int .i64 z2N),(.int .u8 z2O),(.int .u8 z2P),(.int .u8 z2Q),(.int .u8 z2R)]]) (fun (Zn4o1_10545 : Zp) (ao4o2_10545 : Option Addr) (cap4o3_10545 : Nat) (b9o1_10545 : Nat)=>(ZS ((Z ++ ((z2B ++ z4i) ++ z4j)) ++ Zn4o1_10545) 1 (fun zM x=>zM = e5 x) ao4o2_10545 cap4o3_10545 zM.2.fData)) (y21 12 [9,7,6,5,4,3,2,1,0]) ?_ (fun K4o5o6o7o9_10545=>?_)
    ·skip
     rintro Zn4o1_10545 ao4o2_10545 cap4o3_10545 b9o1_10545 hf4o4_10545
     refine WD.new (i:=8) (dd:=11) rfl (by kernel_rfl) rfl rfl rfl (yA (cs:=[(.int .i64 0),(.int .i64 0),(.int .u8 0),(.int .u8 0),(.int .u8 0),(.int .u8 0)]) y1i rfl) (fun h'=>absurd h' (by decide)) ?_
     intro b8o1_10545 _
     exact WD.reL (.cons .h1 (.cons .here (.cons .here (.cons .here (.cons .here (.cons .here (.cons .here (.cons .here .nil)))))))) (.cons rfl (.cons rfl (.cons rfl (.cons rfl (.cons rfl (.cons rfl (.cons rfl .nil))))))) (K4o5o6o7o8o9_10545 Zn4o1_10545 ao4o2_10545 cap4o3_10545 b8o1_10545 b9o1_10545 hf4o4_10545)
    refine WD.mids3 (fuel':=4) (fun (Zn4o1_10545 : Zp) (ao4o2_10545 : Option Addr) (cap4o3_10545 : Nat)=>[(1,(.slice z45 z2A.length z47)),(8,(.pointer (some ⟨z3W,0,none⟩))),(10,(.pointer (some ⟨z3X,0,none⟩))),(72,(.agg #[(.int .i64 zM.1.fPc),(.int .i64 zM.1.fLeft),(.int .u8 zM.1.fRegs.a0),(.int .u8 zM.1.fRegs.a1),(.int .u8 zM.1.fRegs.a2),(.int .u8 zM.1.fRegs.a3)])),(73,(.agg #[(.int .u8 zM.2.fKind),(.int .i64 zM.2.fA),(.int .i64 zM.2.fB),(.slice ao4o2_10545 zM.2.fData.length cap4o3_10545)]))]) (fun (Zn4o1_10545 : Zp) (ao4o2_10545 : Option Addr) (cap4o3_10545 : Nat)=>[fz (((z2B ++ z4i) ++ z4j) ++ Zn4o1_10545),stb z3X 41 [(.int .u8 zy.2.fKind),(.int .i64 zy.2.fA),(.int .i64 zy.2.fB),(.slice z8U zy.2.fData.length z8V)],stb z8W 39 [(.int .i64 zy.1.fPc),(.int .i64 zy.1.fLeft),(.int .u8 zy.1.fRegs.a0),(.int .u8 zy.1.fRegs.a1),(.int .u8 zy.1.fRegs.a2),(.int .u8 zy.1.fRegs.a3)],stb z3W 41 [(.int .u8 zx.2.fKind),(.int .i64 zx.2.fA),(.int .i64 zx.2.fB),(.slice z8R zx.2.fData.length z8S)],stb z8T 39 [(.int .i64 zx.1.fPc),(.int .i64 zx.1.fLeft),(.int .u8 zx.1.fRegs.a0),(.int .u8 zx.1.fRegs.a1),(.int .u8 zx.1.fRegs.a2),(.int .u8 zx.1.fRegs.a3)],stb b2o1_10186 39 [(.int .i64 z2M),(.int .i64 z2N),(.int .u8 z2O),(.int .u8 z2P),(.int .u8 z2Q),(.int .u8 z2R)]]) (fun (Zn4o1_10545 : Zp) (ao4o2_10545 : Option Addr) (cap4o3_10545 : Nat)=>(ZS ((Z ++ ((z2B ++ z4i) ++ z4j)) ++ Zn4o1_10545) 1 (fun zM x=>zM = e5 x) ao4o2_10545 cap4o3_10545 zM.2.fData)) (y21 12 [7,6,5,4,3,2,1,0]) ?_ (fun K4o5o6o7_10545=>?_)
    ·skip
     rintro Zn4o1_10545 ao4o2_10545 cap4o3_10545 hf4o4_10545
     refine WD.choose [8,9] (by kernel_rfl) rfl ?_
     refine WDo.cons ?_ (WDo.cons ?_ (WDo.nil))
     ·refine WDo.new (i:=8) (dd:=11) rfl rfl rfl rfl (yA (cs:=[(.int .i64 0),(.int .i64 0),(.int .u8 0),(.int .u8 0),(.int .u8 0),(.int .u8 0)]) y1i rfl) (fun h'=>absurd h' (by decide)) ?_
      intro b8o1_10545 _
      exact WD.reL (.cons .here (.cons .here (.cons .here (.cons .here (.cons .here (.cons .here (.cons .here .nil))))))) (.cons rfl (.cons rfl (.cons rfl (.cons rfl (.cons rfl (.cons rfl .nil)))))) (K4o5o6o7o8_10545 Zn4o1_10545 ao4o2_10545 cap4o3_10545 b8o1_10545 hf4o4_10545)
     ·refine WDo.new (i:=9) (dd:=12) rfl rfl rfl rfl (yA (cs:=[(.int .u8 0),(.int .i64 0),(.int .i64 0),(.slice none 0 0)]) y1o rfl) (fun h'=>absurd h' (by decide)) ?_
      intro b9o1_10545 _
      exact WD.reL (.cons .here (.cons .here (.cons .here (.cons .here (.cons .here (.cons .here (.cons .here .nil))))))) (.cons rfl (.cons rfl (.cons rfl (.cons rfl (.cons rfl (.cons rfl .nil)))))) (K4o5o6o7o9_10545 Zn4o1_10545 ao4o2_10545 cap4o3_10545 b9o1_10545 hf4o4_10545)
    refine WD.y67 (fuel':=6) (fun (b8o1_10545 : Nat) (b9o1_10545 : Nat)=>[(1,(.slice z45 z2A.length z47)),(8,(.pointer (some ⟨z3W,0,none⟩))),(10,(.pointer (some ⟨z3X,0,none⟩))),(67,(.slice z45 z2A.length z47)),(68,(.agg #[(.int .i64 z2M),(.int .i64 z2N),(.int .u8 z2O),(.int .u8 z2P),(.int .u8 z2Q),(.int .u8 z2R)])),(70,(.slice zgw ((z4p.take (20 : Int).toNat).length) zgx)),(11,(.pointer (some ⟨b8o1_10545,0,none⟩))),(12,(.pointer (some ⟨b9o1_10545,0,none⟩)))]) (fun (b8o1_10545 : Nat) (b9o1_10545 : Nat)=>[stb b9o1_10545 41 [(.int .u8 0),(.int .i64 0),(.int .i64 0),(.slice none 0 0)],stb b8o1_10545 39 [(.int .i64 0),(.int .i64 0),(.int .u8 0),(.int .u8 0),(.int .u8 0),(.int .u8 0)],stb z3X 41 [(.int .u8 zy.2.fKind),(.int .i64 zy.2.fA),(.int .i64 zy.2.fB),(.slice z8U zy.2.fData.length z8V)],stb z8W 39 [(.int .i64 zy.1.fPc),(.int .i64 zy.1.fLeft),(.int .u8 zy.1.fRegs.a0),(.int .u8 zy.1.fRegs.a1),(.int .u8 zy.1.fRegs.a2),(.int .u8 zy.1.fRegs.a3)],fz ((z2B ++ z4i) ++ z4j),stb z3W 41 [(.int .u8 zx.2.fKind),(.int .i64 zx.2.fA),(.int .i64 zx.2.fB),(.slice z8R zx.2.fData.length z8S)],stb z8T 39 [(.int .i64 zx.1.fPc),(.int .i64 zx.1.fLeft),(.int .u8 zx.1.fRegs.a0),(.int .u8 zx.1.fRegs.a1),(.int .u8 zx.1.fRegs.a2),(.int .u8 zx.1.fRegs.a3)],stb b2o1_10186 39 [(.int .i64 z2M),(.int .i64 z2N),(.int .u8 z2O),(.int .u8 z2P),(.int .u8 z2Q),(.int .u8 z2R)]]) (fun (b8o1_10545 : Nat) (b9o1_10545 : Nat)=>True) (y21 12 [9,8,3,2,1,0]) ?_ (fun K8o9_10545=>?_)
    ·skip
     rintro b8o1_10545 b9o1_10545 _
     refine WD.call3 (i:=4) (dd:=71) rfl (by kernel_rfl) rfl rfl rfl (.inr rfl) (zk (l:=[.tmp 67,.tmp 68,.tmp 70]) Tryd.call18 (.cons rfl (.cons rfl (.cons rfl .nil)))) .nil (ccz hz .nil .h4 fun w pz ho=>y2e _ _ _ _ _ _ _ _ _ zeT w pz (hG0.mono ((Zle.left _ _).trans (z2k.trans ((Zle.left _ _).trans ((Zle.y7 _ _ _).trans ((Zle.left _ _).trans (Zle.y7 _ _ _))))))) ((hG1.mono ((Zle.left _ _).trans (z2k.trans ((Zle.left _ _).trans ((Zle.y7 _ _ _).trans ((Zle.left _ _).trans (Zle.y7 _ _ _))))))).weak (fun _ _ h=>y10 ((Zle.left _ _).trans (z2k.trans ((Zle.left _ _).trans ((Zle.y7 _ _ _).trans ((Zle.left _ _).trans (Zle.y7 _ _ _)))))) h)) (zbG.mono ((Zle.left _ _).trans ((Zle.y7 _ _ _).trans ((Zle.left _ _).trans (Zle.y7 _ _ _))))) zeU) ?_
     rintro Zn4o1_10545 ao4o2_10545 cap4o3_10545 hf4o4_10545
     refine WD.merge .here .h4 ?_
     refine WD.a (i:=5) (d:=66) (by kernel_rfl) rfl z2 z6 rfl rfl rfl (fun _=>q_m rfl) ?_
     refine WD.a (i:=6) (d:=72) (by kernel_rfl) rfl z2 z6 rfl rfl rfl (fun _=>y2n rfl rfl) ?_
     refine WD.a (i:=7) (d:=73) (by kernel_rfl) rfl z2 z6 rfl rfl rfl (fun _=>y2n rfl rfl) ?_
     exact WD.reL (.cons .h1 (.cons .h1 (.cons .here (.cons .here (.cons .here (.cons .here (.cons .here (.cons .here .nil)))))))) (.cons rfl (.cons rfl (.cons rfl (.cons rfl (.cons rfl (.cons rfl (.cons rfl .nil))))))) (K4o5o6o7o8o9_10545 Zn4o1_10545 ao4o2_10545 cap4o3_10545 b8o1_10545 b9o1_10545 hf4o4_10545)
    refine WD.y47 (fuel':=7) (fun (b8o1_10545 : Nat)=>[(1,(.slice z45 z2A.length z47)),(8,(.pointer (some ⟨z3W,0,none⟩))),(10,(.pointer (some ⟨z3X,0,none⟩))),(67,(.slice z45 z2A.length z47)),(68,(.agg #[(.int .i64 z2M),(.int .i64 z2N),(.int .u8 z2O),(.int .u8 z2P),(.int .u8 z2Q),(.int .u8 z2R)])),(70,(.slice zgw ((z4p.take (20 : Int).toNat).length) zgx)),(11,(.pointer (some ⟨b8o1_10545,0,none⟩)))]) (fun (b8o1_10545 : Nat)=>[stb b8o1_10545 39 [(.int .i64 0),(.int .i64 0),(.int .u8 0),(.int .u8 0),(.int .u8 0),(.int .u8 0)],stb z3X 41 [(.int .u8 zy.2.fKind),(.int .i64 zy.2.fA),(.int .i64 zy.2.fB),(.slice z8U zy.2.fData.length z8V)],stb z8W 39 [(.int .i64 zy.1.fPc),(.int .i64 zy.1.fLeft),(.int .u8 zy.1.fRegs.a0),(.int .u8 zy.1.fRegs.a1),(.int .u8 zy.1.fRegs.a2),(.int .u8 zy.1.fRegs.a3)],fz ((z2B ++ z4i) ++ z4j),stb z3W 41 [(.int .u8 zx.2.fKind),(.int .i64 zx.2.fA),(.int .i64 zx.2.fB),(.slice z8R zx.2.fData.length z8S)],stb z8T 39 [(.int .i64 zx.1.fPc),(.int .i64 zx.1.fLeft),(.int .u8 zx.1.fRegs.a0),(.int .u8 zx.1.fRegs.a1),(.int .u8 zx.1.fRegs.a2),(.int .u8 zx.1.fRegs.a3)],stb b2o1_10186 39 [(.int .i64 z2M),(.int .i64 z2N),(.int .u8 z2O),(.int .u8 z2P),(.int .u8 z2Q),(.int .u8 z2R)]]) (fun (b8o1_10545 : Nat)=>True) (y21 12 [8,3,2,1,0]) ?_ (fun K8_10545=>?_)
    ·skip
     rintro b8o1_10545 _
     refine WD.choose [4,9] (by kernel_rfl) rfl ?_
     refine WDo.cons ?_ (WDo.cons ?_ (WDo.nil))
     ·refine WDo.call3 (i:=4) (dd:=71) rfl rfl rfl rfl (.inr rfl) (zk (l:=[.tmp 67,.tmp 68,.tmp 70]) Tryd.call18 (.cons rfl (.cons rfl (.cons rfl .nil)))) .nil (ccz hz .nil .h3 fun w pz ho=>y2e _ _ _ _ _ _ _ _ _ zeT w pz (hG0.mono ((Zle.left _ _).trans (z2k.trans ((Zle.left _ _).trans ((Zle.y7 _ _ _).trans ((Zle.left _ _).trans (Zle.y7 _ _ _))))))) ((hG1.mono ((Zle.left _ _).trans (z2k.trans ((Zle.left _ _).trans ((Zle.y7 _ _ _).trans ((Zle.left _ _).trans (Zle.y7 _ _ _))))))).weak (fun _ _ h=>y10 ((Zle.left _ _).trans (z2k.trans ((Zle.left _ _).trans ((Zle.y7 _ _ _).trans ((Zle.left _ _).trans (Zle.y7 _ _ _)))))) h)) (zbG.mono ((Zle.left _ _).trans ((Zle.y7 _ _ _).trans ((Zle.left _ _).trans (Zle.y7 _ _ _))))) zeU) ?_
      rintro Zn4o1_10545 ao4o2_10545 cap4o3_10545 hf4o4_10545
      refine WD.merge .here .h3 ?_
      refine WD.a (i:=5) (d:=66) (by kernel_rfl) rfl z2 z6 rfl rfl rfl (fun _=>q_m rfl) ?_
      refine WD.a (i:=6) (d:=72) (by kernel_rfl) rfl z2 z6 rfl rfl rfl (fun _=>y2n rfl rfl) ?_
      refine WD.a (i:=7) (d:=73) (by kernel_rfl) rfl z2 z6 rfl rfl rfl (fun _=>y2n rfl rfl) ?_
      exact WD.reL (.cons .h1 (.cons .here (.cons .here (.cons .here (.cons .here (.cons .here (.cons .here .nil))))))) (.cons rfl (.cons rfl (.cons rfl (.cons rfl (.cons rfl (.cons rfl .nil)))))) (K4o5o6o7o8_10545 Zn4o1_10545 ao4o2_10545 cap4o3_10545 b8o1_10545 hf4o4_10545)
     ·refine WDo.new (i:=9) (dd:=12) rfl rfl rfl rfl (yA (cs:=[(.int .u8 0),(.int .i64 0),(.int .i64 0),(.slice none 0 0)]) y1o rfl) (fun h'=>absurd h' (by decide)) ?_
      intro b9o1_10545 _
      exact WD.reL (.cons .here (.cons .here (.cons .here (.cons .here (.cons .here (.cons .here (.cons .here (.cons .here .nil)))))))) (.cons rfl (.cons rfl (.cons rfl (.cons rfl (.cons rfl (.cons rfl (.cons rfl (.cons rfl .nil)))))))) (K8o9_10545 b8o1_10545 b9o1_10545 trivial)
    refine WD.y47 (fuel':=7) (fun (b9o1_10545 : Nat)=>[(1,(.slice z45 z2A.length z47)),(8,(.pointer (some ⟨z3W,0,none⟩))),(10,(.pointer (some ⟨z3X,0,none⟩))),(67,(.slice z45 z2A.length z47)),(68,(.agg #[(.int .i64 z2M),(.int .i64 z2N),(.int .u8 z2O),(.int .u8 z2P),(.int .u8 z2Q),(.int .u8 z2R)])),(70,(.slice zgw ((z4p.take (20 : Int).toNat).length) zgx)),(12,(.pointer (some ⟨b9o1_10545,0,none⟩)))]) (fun (b9o1_10545 : Nat)=>[stb b9o1_10545 41 [(.int .u8 0),(.int .i64 0),(.int .i64 0),(.slice none 0 0)],stb z3X 41 [(.int .u8 zy.2.fKind),(.int .i64 zy.2.fA),(.int .i64 zy.2.fB),(.slice z8U zy.2.fData.length z8V)],stb z8W 39 [(.int .i64 zy.1.fPc),(.int .i64 zy.1.fLeft),(.int .u8 zy.1.fRegs.a0),(.int .u8 zy.1.fRegs.a1),(.int .u8 zy.1.fRegs.a2),(.int .u8 zy.1.fRegs.a3)],fz ((z2B ++ z4i) ++ z4j),stb z3W 41 [(.int .u8 zx.2.fKind),(.int .i64 zx.2.fA),(.int .i64 zx.2.fB),(.slice z8R zx.2.fData.length z8S)],stb z8T 39 [(.int .i64 zx.1.fPc),(.int .i64 zx.1.fLeft),(.int .u8 zx.1.fRegs.a0),(.int .u8 zx.1.fRegs.a1),(.int .u8 zx.1.fRegs.a2),(.int .u8 zx.1.fRegs.a3)],stb b2o1_10186 39 [(.int .i64 z2M),(.int .i64 z2N),(.int .u8 z2O),(.int .u8 z2P),(.int .u8 z2Q),(.int .u8 z2R)]]) (fun (b9o1_10545 : Nat)=>True) (y21 12 [9,3,2,1,0]) ?_ (fun K9_10545=>?_)
    ·skip
     rintro b9o1_10545 _
     refine WD.choose [4,8] (by kernel_rfl) rfl ?_
     refine WDo.cons ?_ (WDo.cons ?_ (WDo.nil))
     ·refine WDo.call3 (i:=4) (dd:=71) rfl rfl rfl rfl (.inr rfl) (zk (l:=[.tmp 67,.tmp 68,.tmp 70]) Tryd.call18 (.cons rfl (.cons rfl (.cons rfl .nil)))) .nil (ccz hz .nil .h3 fun w pz ho=>y2e _ _ _ _ _ _ _ _ _ zeT w pz (hG0.mono ((Zle.left _ _).trans (z2k.trans ((Zle.left _ _).trans ((Zle.y7 _ _ _).trans ((Zle.left _ _).trans (Zle.y7 _ _ _))))))) ((hG1.mono ((Zle.left _ _).trans (z2k.trans ((Zle.left _ _).trans ((Zle.y7 _ _ _).trans ((Zle.left _ _).trans (Zle.y7 _ _ _))))))).weak (fun _ _ h=>y10 ((Zle.left _ _).trans (z2k.trans ((Zle.left _ _).trans ((Zle.y7 _ _ _).trans ((Zle.left _ _).trans (Zle.y7 _ _ _)))))) h)) (zbG.mono ((Zle.left _ _).trans ((Zle.y7 _ _ _).trans ((Zle.left _ _).trans (Zle.y7 _ _ _))))) zeU) ?_
      rintro Zn4o1_10545 ao4o2_10545 cap4o3_10545 hf4o4_10545
      refine WD.merge .here .h3 ?_
      refine WD.a (i:=5) (d:=66) (by kernel_rfl) rfl z2 z6 rfl rfl rfl (fun _=>q_m rfl) ?_
      refine WD.a (i:=6) (d:=72) (by kernel_rfl) rfl z2 z6 rfl rfl rfl (fun _=>y2n rfl rfl) ?_
      refine WD.a (i:=7) (d:=73) (by kernel_rfl) rfl z2 z6 rfl rfl rfl (fun _=>y2n rfl rfl) ?_
      exact WD.reL (.cons .h1 (.cons .here (.cons .here (.cons .here (.cons .here (.cons .here (.cons .here .nil))))))) (.cons rfl (.cons rfl (.cons rfl (.cons rfl (.cons rfl (.cons rfl .nil)))))) (K4o5o6o7o9_10545 Zn4o1_10545 ao4o2_10545 cap4o3_10545 b9o1_10545 hf4o4_10545)
     ·refine WDo.new (i:=8) (dd:=11) rfl rfl rfl rfl (yA (cs:=[(.int .i64 0),(.int .i64 0),(.int .u8 0),(.int .u8 0),(.int .u8 0),(.int .u8 0)]) y1i rfl) (fun h'=>absurd h' (by decide)) ?_
      intro b8o1_10545 _
      exact WD.reL (.cons .h1 (.cons .here (.cons .here (.cons .here (.cons .here (.cons .here (.cons .here (.cons .here .nil)))))))) (.cons rfl (.cons rfl (.cons rfl (.cons rfl (.cons rfl (.cons rfl (.cons rfl (.cons rfl .nil)))))))) (K8o9_10545 b8o1_10545 b9o1_10545 trivial)
    refine WD.choose [4,8,9] (by kernel_rfl) rfl ?_
    refine WDo.cons ?_ (WDo.cons ?_ (WDo.cons ?_ (WDo.nil)))
    ·refine WDo.call3 (i:=4) (dd:=71) rfl rfl rfl rfl (.inr rfl) (zk (l:=[.tmp 67,.tmp 68,.tmp 70]) Tryd.call18 (.cons rfl (.cons rfl (.cons rfl .nil)))) .nil (ccz hz .nil .h2 fun w pz ho=>y2e _ _ _ _ _ _ _ _ _ zeT w pz (hG0.mono ((Zle.left _ _).trans (z2k.trans ((Zle.left _ _).trans ((Zle.y7 _ _ _).trans ((Zle.left _ _).trans (Zle.y7 _ _ _))))))) ((hG1.mono ((Zle.left _ _).trans (z2k.trans ((Zle.left _ _).trans ((Zle.y7 _ _ _).trans ((Zle.left _ _).trans (Zle.y7 _ _ _))))))).weak (fun _ _ h=>y10 ((Zle.left _ _).trans (z2k.trans ((Zle.left _ _).trans ((Zle.y7 _ _ _).trans ((Zle.left _ _).trans (Zle.y7 _ _ _)))))) h)) (zbG.mono ((Zle.left _ _).trans ((Zle.y7 _ _ _).trans ((Zle.left _ _).trans (Zle.y7 _ _ _))))) zeU) ?_
     rintro Zn4o1_10545 ao4o2_10545 cap4o3_10545 hf4o4_10545
     refine WD.merge .here .h2 ?_
     refine WD.a (i:=5) (d:=66) (by kernel_rfl) rfl z2 z6 rfl rfl rfl (fun _=>q_m rfl) ?_
     refine WD.a (i:=6) (d:=72) (by kernel_rfl) rfl z2 z6 rfl rfl rfl (fun _=>y2n rfl rfl) ?_
     refine WD.a (i:=7) (d:=73) (by kernel_rfl) rfl z2 z6 rfl rfl rfl (fun _=>y2n rfl rfl) ?_
     exact WD.reL (.cons .here (.cons .here (.cons .here (.cons .here (.cons .here (.cons .here .nil)))))) (.cons rfl (.cons rfl (.cons rfl (.cons rfl (.cons rfl .nil))))) (K4o5o6o7_10545 Zn4o1_10545 ao4o2_10545 cap4o3_10545 hf4o4_10545)
    ·refine WDo.new (i:=8) (dd:=11) rfl rfl rfl rfl (yA (cs:=[(.int .i64 0),(.int .i64 0),(.int .u8 0),(.int .u8 0),(.int .u8 0),(.int .u8 0)]) y1i rfl) (fun h'=>absurd h' (by decide)) ?_
     intro b8o1_10545 _
     exact WD.reL (.cons .here (.cons .here (.cons .here (.cons .here (.cons .here (.cons .here (.cons .here .nil))))))) (.cons rfl (.cons rfl (.cons rfl (.cons rfl (.cons rfl (.cons rfl (.cons rfl .nil))))))) (K8_10545 b8o1_10545 trivial)
    ·refine WDo.new (i:=9) (dd:=12) rfl rfl rfl rfl (yA (cs:=[(.int .u8 0),(.int .i64 0),(.int .i64 0),(.slice none 0 0)]) y1o rfl) (fun h'=>absurd h' (by decide)) ?_
     intro b9o1_10545 _
     exact WD.reL (.cons .here (.cons .here (.cons .here (.cons .here (.cons .here (.cons .here (.cons .here .nil))))))) (.cons rfl (.cons rfl (.cons rfl (.cons rfl (.cons rfl (.cons rfl (.cons rfl .nil))))))) (K9_10545 b9o1_10545 trivial)
 refine WD.y67 (fuel':=2) (fun (b1o1_10186 : Nat) (b2o1_10186 : Nat)=>[(1,(.slice (some ⟨z6F,0,none⟩) (([z3u,z3v,z3w,z3x,z3y] : List Sapi_Ins).length) 5)),(31,(.agg #[(.int .i64 0),(.int .i64 0),(.int .u8 0),(.int .u8 0),(.int .u8 0),(.int .u8 0)])),(32,(.slice (some ⟨b1o1_10186,0,none⟩) ((List.replicate (32 : Int).toNat (0 : Int)).length) ((32 : Int).toNat))),(2,(.pointer (some ⟨b2o1_10186,0,none⟩)))]) (fun (b1o1_10186 : Nat) (b2o1_10186 : Nat)=>[stb b2o1_10186 39 [(.int .i64 0),(.int .i64 0),(.int .u8 0),(.int .u8 0),(.int .u8 0),(.int .u8 0)],row (.slice (some ⟨b1o1_10186,0,none⟩) ((List.replicate (32 : Int).toNat (0 : Int)).length) ((32 : Int).toNat)) 5 1 ((List.replicate (32 : Int).toNat (0 : Int)).flatMap e5),row (.slice (some ⟨z6F,0,none⟩) (([z3u,z3v,z3w,z3x,z3y] : List Sapi_Ins).length) 5) 33 4 (([z3u,z3v,z3w,z3x,z3y] : List Sapi_Ins).flatMap e33),row (.slice (some ⟨zdS,0,none⟩) (([1,16,0] : List Int).length) 3) 3 1 (([1,16,0] : List Int).flatMap e3),row (.slice (some ⟨zdR,0,none⟩) (([1,0] : List Int).length) 2) 3 1 (([1,0] : List Int).flatMap e3),row (.slice (some ⟨zdQ,0,none⟩) (([3] : List Int).length) 1) 3 1 (([3] : List Int).flatMap e3),row (.slice (some ⟨zdP,0,none⟩) (([0,5] : List Int).length) 2) 3 1 (([0,5] : List Int).flatMap e3),fz []]) (fun (b1o1_10186 : Nat) (b2o1_10186 : Nat)=>True) (y21 5 [2,1,0]) ?_ (fun K1o2_10186=>?_)
 ·skip
  rintro b1o1_10186 b2o1_10186 _
  refine WD.forced0 (i:=3) rfl (by kernel_rfl) rfl rfl rfl (Sin.of .nil) (yt y1l rfl rfl rfl .here rfl rfl rfl) ?_
  refine WD.a (i:=4) (d:=3) (by kernel_rfl) rfl z2 z6 rfl rfl rfl (fun _=>q_z rfl) ?_
  exact WD.reL (.cons .here (.cons .here (.cons .here (.cons .here (.cons .here (.cons .here (.cons .here (.cons .here .nil)))))))) (.cons rfl (.cons rfl (.cons rfl .nil))) (K1o2o3o4_10186 b1o1_10186 b2o1_10186 trivial)
 refine WD.y47 (fuel':=2) (fun (b2o1_10186 : Nat)=>[(1,(.slice (some ⟨z6F,0,none⟩) (([z3u,z3v,z3w,z3x,z3y] : List Sapi_Ins).length) 5)),(2,(.pointer (some ⟨b2o1_10186,0,none⟩)))]) (fun (b2o1_10186 : Nat)=>[stb b2o1_10186 39 [(.int .i64 0),(.int .i64 0),(.int .u8 0),(.int .u8 0),(.int .u8 0),(.int .u8 0)],row (.slice (some ⟨z6F,0,none⟩) (([z3u,z3v,z3w,z3x,z3y] : List Sapi_Ins).length) 5) 33 4 (([z3u,z3v,z3w,z3x,z3y] : List Sapi_Ins).flatMap e33),row (.slice (some ⟨zdS,0,none⟩) (([1,16,0] : List Int).length) 3) 3 1 (([1,16,0] : List Int).flatMap e3),row (.slice (some ⟨zdR,0,none⟩) (([1,0] : List Int).length) 2) 3 1 (([1,0] : List Int).flatMap e3),row (.slice (some ⟨zdQ,0,none⟩) (([3] : List Int).length) 1) 3 1 (([3] : List Int).flatMap e3),row (.slice (some ⟨zdP,0,none⟩) (([0,5] : List Int).length) 2) 3 1 (([0,5] : List Int).flatMap e3),fz []]) (fun (b2o1_10186 : Nat)=>True) (y21 5 [3,2,0]) ?_ (fun K2o3_10186=>?_)
 ·skip
  rintro b2o1_10186 _
  refine WD.new (i:=1) (dd:=32) rfl (by kernel_rfl) rfl rfl rfl (y3S (r:=[(.int .u8 0)]) (z0:=(0 : Int)) y1F y61 rfl rfl rfl rfl zgp) (fun h'=>absurd h' (by decide)) ?_
  intro b1o1_10186 _
  refine WD.rowEqD .here (cs':=(List.replicate (32 : Int).toNat (0 : Int)).flatMap e5) (y5n (enc:=e5) (0 : Int) _) ?_
  refine WD.a (i:=4) (d:=3) (by kernel_rfl) rfl z2 z6 rfl rfl rfl (fun _=>q_z rfl) ?_
  exact WD.reL (.cons .h1 (.cons .here (.cons .here (.cons .here (.cons .here (.cons .here (.cons .here (.cons .here .nil)))))))) (.cons rfl (.cons rfl (.cons rfl .nil))) (K1o2o3o4_10186 b1o1_10186 b2o1_10186 trivial)
 refine WD.y47 (fuel':=3) (fun (b1o1_10186 : Nat)=>[(1,(.slice (some ⟨z6F,0,none⟩) (([z3u,z3v,z3w,z3x,z3y] : List Sapi_Ins).length) 5)),(31,(.agg #[(.int .i64 0),(.int .i64 0),(.int .u8 0),(.int .u8 0),(.int .u8 0),(.int .u8 0)])),(32,(.slice (some ⟨b1o1_10186,0,none⟩) ((List.replicate (32 : Int).toNat (0 : Int)).length) ((32 : Int).toNat)))]) (fun (b1o1_10186 : Nat)=>[row (.slice (some ⟨b1o1_10186,0,none⟩) ((List.replicate (32 : Int).toNat (0 : Int)).length) ((32 : Int).toNat)) 5 1 ((List.replicate (32 : Int).toNat (0 : Int)).flatMap e5),row (.slice (some ⟨z6F,0,none⟩) (([z3u,z3v,z3w,z3x,z3y] : List Sapi_Ins).length) 5) 33 4 (([z3u,z3v,z3w,z3x,z3y] : List Sapi_Ins).flatMap e33),row (.slice (some ⟨zdS,0,none⟩) (([1,16,0] : List Int).length) 3) 3 1 (([1,16,0] : List Int).flatMap e3),row (.slice (some ⟨zdR,0,none⟩) (([1,0] : List Int).length) 2) 3 1 (([1,0] : List Int).flatMap e3),row (.slice (some ⟨zdQ,0,none⟩) (([3] : List Int).length) 1) 3 1 (([3] : List Int).flatMap e3),row (.slice (some ⟨zdP,0,none⟩) (([0,5] : List Int).length) 2) 3 1 (([0,5] : List Int).flatMap e3),fz []]) (fun (b1o1_10186 : Nat)=>True) (y21 5 [1,0]) ?_ (fun K1_10186=>?_)
 ·skip
  rintro b1o1_10186 _
  refine WD.new (i:=2) (dd:=2) rfl (by kernel_rfl) rfl rfl rfl (yA (cs:=[(.int .i64 0),(.int .i64 0),(.int .u8 0),(.int .u8 0),(.int .u8 0),(.int .u8 0)]) y1i rfl) (fun h'=>absurd h' (by decide)) ?_
  intro b2o1_10186 _
  exact WD.reL (.cons .here (.cons .here (.cons .here (.cons .here (.cons .here (.cons .here (.cons .here (.cons .here .nil)))))))) (.cons rfl (.cons rfl (.cons rfl (.cons rfl .nil)))) (K1o2_10186 b1o1_10186 b2o1_10186 trivial)
 refine WD.y47 (fuel':=3) (fun (b2o1_10186 : Nat)=>[(1,(.slice (some ⟨z6F,0,none⟩) (([z3u,z3v,z3w,z3x,z3y] : List Sapi_Ins).length) 5)),(31,(.agg #[(.int .i64 0),(.int .i64 0),(.int .u8 0),(.int .u8 0),(.int .u8 0),(.int .u8 0)])),(2,(.pointer (some ⟨b2o1_10186,0,none⟩)))]) (fun (b2o1_10186 : Nat)=>[stb b2o1_10186 39 [(.int .i64 0),(.int .i64 0),(.int .u8 0),(.int .u8 0),(.int .u8 0),(.int .u8 0)],row (.slice (some ⟨z6F,0,none⟩) (([z3u,z3v,z3w,z3x,z3y] : List Sapi_Ins).length) 5) 33 4 (([z3u,z3v,z3w,z3x,z3y] : List Sapi_Ins).flatMap e33),row (.slice (some ⟨zdS,0,none⟩) (([1,16,0] : List Int).length) 3) 3 1 (([1,16,0] : List Int).flatMap e3),row (.slice (some ⟨zdR,0,none⟩) (([1,0] : List Int).length) 2) 3 1 (([1,0] : List Int).flatMap e3),row (.slice (some ⟨zdQ,0,none⟩) (([3] : List Int).length) 1) 3 1 (([3] : List Int).flatMap e3),row (.slice (some ⟨zdP,0,none⟩) (([0,5] : List Int).length) 2) 3 1 (([0,5] : List Int).flatMap e3),fz []]) (fun (b2o1_10186 : Nat)=>True) (y21 5 [2,0]) ?_ (fun K2_10186=>?_)
 ·skip
  rintro b2o1_10186 _
  refine WD.choose [1,3] (by kernel_rfl) rfl ?_
  refine WDo.cons ?_ (WDo.cons ?_ (WDo.nil))
  ·refine WDo.new (i:=1) (dd:=32) rfl rfl rfl rfl (y3S (r:=[(.int .u8 0)]) (z0:=(0 : Int)) y1F y61 rfl rfl rfl rfl zgp) (fun h'=>absurd h' (by decide)) ?_
   intro b1o1_10186 _
   refine WD.rowEqD .here (cs':=(List.replicate (32 : Int).toNat (0 : Int)).flatMap e5) (y5n (enc:=e5) (0 : Int) _) ?_
   exact WD.reL (.cons .h1 (.cons .here (.cons .here (.cons .here (.cons .here (.cons .here (.cons .here (.cons .here .nil)))))))) (.cons rfl (.cons rfl (.cons rfl (.cons rfl .nil)))) (K1o2_10186 b1o1_10186 b2o1_10186 trivial)
  ·refine WDo.forced0 (i:=3) rfl rfl rfl rfl (Sin.of .nil) (yt y1l rfl rfl rfl .here rfl rfl rfl) ?_
   exact WD.reL (.cons .here (.cons .here (.cons .here (.cons .here (.cons .here (.cons .here (.cons .here .nil))))))) (.cons rfl (.cons rfl .nil)) (K2o3_10186 b2o1_10186 trivial)
 refine WD.choose [1,2] (by kernel_rfl) rfl ?_
 refine WDo.cons ?_ (WDo.cons ?_ (WDo.nil))
 ·refine WDo.new (i:=1) (dd:=32) rfl rfl rfl rfl (y3S (r:=[(.int .u8 0)]) (z0:=(0 : Int)) y1F y61 rfl rfl rfl rfl zgp) (fun h'=>absurd h' (by decide)) ?_
  intro b1o1_10186 _
  refine WD.rowEqD .here (cs':=(List.replicate (32 : Int).toNat (0 : Int)).flatMap e5) (y5n (enc:=e5) (0 : Int) _) ?_
  exact WD.reL (.cons .here (.cons .here (.cons .here (.cons .here (.cons .here (.cons .here (.cons .here .nil))))))) (.cons rfl (.cons rfl (.cons rfl .nil))) (K1_10186 b1o1_10186 trivial)
 ·refine WDo.new (i:=2) (dd:=2) rfl rfl rfl rfl (yA (cs:=[(.int .i64 0),(.int .i64 0),(.int .u8 0),(.int .u8 0),(.int .u8 0),(.int .u8 0)]) y1i rfl) (fun h'=>absurd h' (by decide)) ?_
  intro b2o1_10186 _
  exact WD.reL (.cons .here (.cons .here (.cons .here (.cons .here (.cons .here (.cons .here (.cons .here .nil))))))) (.cons rfl (.cons rfl (.cons rfl .nil))) (K2_10186 b2o1_10186 trivial)
def y1O (zW : Sproc_State) (z19 : Sapi_Ins) (z2v : List Int) (z5C : Int) (z5D : Int) (z5E : Int) (z2w : List Int) : Option (Int × Int) :=
 jp1 (fun (z5F : Int)=>if decide ((i64 (z5F - 1)) ≠ 0) then some ((i64 (zW.fPc - 1)),(i64 (z5F - 1))) else some (zW.fPc,(i64 (z5F - 1)))) fun zeV=>if decide (zW.fLeft = 0) then zeV z19.fA else zeV zW.fLeft
set_option maxRecDepth 20000 in
theorem y4C (Z : Zp) (z6H : Nat) (z48 : Option Addr) (z49 : Nat) (z4a : Option Addr) (z4b : Nat) (zW : Sproc_State) (z19 : Sapi_Ins) (z2v : List Int) (z5C : Int) (z5D : Int) (z5E : Int) (z2w : List Int) (r : Int × Int)
  (h : y1O zW z19 z2v z5C z5D z5E z2w = some r) (w₀ : World) (hz : PZ (fps [stb z6H 65 [(.int .i64 zW.fPc),(.int .i64 zW.fLeft),(.int .u8 zW.fRegs.a0),(.int .u8 zW.fRegs.a1),(.int .u8 zW.fRegs.a2),(.int .u8 zW.fRegs.a3),(.int .u8 z19.fOp),(.int .i64 z19.fA),(.int .i64 z19.fB),(.int .i64 z19.fC),(.slice z48 z2v.length z49),(.int .u8 z5C),(.int .i64 z5D),(.int .i64 z5E),(.slice z4a z2w.length z4b)],row (.slice z48 z2v.length z49) 5 1 (z2v.flatMap e5),row (.slice z4a z2w.length z4b) 5 1 (z2w.flatMap e5)]) w₀ Z)
  (hown : Hp (fps [stb z6H 65 [(.int .i64 zW.fPc),(.int .i64 zW.fLeft),(.int .u8 zW.fRegs.a0),(.int .u8 zW.fRegs.a1),(.int .u8 zW.fRegs.a2),(.int .u8 zW.fRegs.a3),(.int .u8 z19.fOp),(.int .i64 z19.fA),(.int .i64 z19.fB),(.int .i64 z19.fC),(.slice z48 z2v.length z49),(.int .u8 z5C),(.int .i64 z5D),(.int .i64 z5E),(.slice z4a z2w.length z4b)],row (.slice z48 z2v.length z49) 5 1 (z2v.flatMap e5),row (.slice z4a z2w.length z4b) 5 1 (z2w.flatMap e5)]) w₀ w₀ [stb z6H 65 [(.int .i64 zW.fPc),(.int .i64 zW.fLeft),(.int .u8 zW.fRegs.a0),(.int .u8 zW.fRegs.a1),(.int .u8 zW.fRegs.a2),(.int .u8 zW.fRegs.a3),(.int .u8 z19.fOp),(.int .i64 z19.fA),(.int .i64 z19.fB),(.int .i64 z19.fC),(.slice z48 z2v.length z49),(.int .u8 z5C),(.int .i64 z5D),(.int .i64 z5E),(.slice z4a z2w.length z4b)],row (.slice z48 z2v.length z49) 5 1 (z2v.flatMap e5),row (.slice z4a z2w.length z4b) 5 1 (z2w.flatMap e5)]) :
  Calls Tryd.prog 84 #[(.pointer (some ⟨z6H,0,none⟩))] w₀ fun e w'=>e = .returned (.tuple #[]) ∧ Hp (fps [stb z6H 65 [(.int .i64 zW.fPc),(.int .i64 zW.fLeft),(.int .u8 zW.fRegs.a0),(.int .u8 zW.fRegs.a1),(.int .u8 zW.fRegs.a2),(.int .u8 zW.fRegs.a3),(.int .u8 z19.fOp),(.int .i64 z19.fA),(.int .i64 z19.fB),(.int .i64 z19.fC),(.slice z48 z2v.length z49),(.int .u8 z5C),(.int .i64 z5D),(.int .i64 z5E),(.slice z4a z2w.length z4b)],row (.slice z48 z2v.length z49) 5 1 (z2v.flatMap e5),row (.slice z4a z2w.length z4b) 5 1 (z2w.flatMap e5)]) w₀ w' [stb z6H 65 [(.int .i64 r.1),(.int .i64 r.2),(.int .u8 zW.fRegs.a0),(.int .u8 zW.fRegs.a1),(.int .u8 zW.fRegs.a2),(.int .u8 zW.fRegs.a3),(.int .u8 z19.fOp),(.int .i64 z19.fA),(.int .i64 z19.fB),(.int .i64 z19.fC),(.slice z48 z2v.length z49),(.int .u8 z5C),(.int .i64 z5D),(.int .i64 z5E),(.slice z4a z2w.length z4b)],row (.slice z48 z2v.length z49) 5 1 (z2v.flatMap e5),row (.slice z4a z2w.length z4b) 5 1 (z2w.flatMap e5)]:=by
 unfold y1O at h
 refine Calls.y8 (vs:=[(.pointer (some ⟨z6H,0,none⟩))]) (pre:=[stb z6H 65 [(.int .i64 zW.fPc),(.int .i64 zW.fLeft),(.int .u8 zW.fRegs.a0),(.int .u8 zW.fRegs.a1),(.int .u8 zW.fRegs.a2),(.int .u8 zW.fRegs.a3),(.int .u8 z19.fOp),(.int .i64 z19.fA),(.int .i64 z19.fB),(.int .i64 z19.fC),(.slice z48 z2v.length z49),(.int .u8 z5C),(.int .i64 z5D),(.int .i64 z5E),(.slice z4a z2w.length z4b)],row (.slice z48 z2v.length z49) 5 1 (z2v.flatMap e5),row (.slice z4a z2w.length z4b) 5 1 (z2w.flatMap e5)]) (env:=[(0,(.pointer (some ⟨z6H,0,none⟩)))]) Tryd.func84 rfl Tryd.ntmps84 rfl (hown) rfl ?_
 obtain ⟨zeV,ztS,h⟩:=y3N h
 refine WC.y3G (fun (z5F : Int)=>(zeV z5F = some r)) (fun (z5F : Int)=>[(0,(.pointer (some ⟨z6H,0,none⟩)))]) (fun (z5F : Int)=>[row (.slice z48 z2v.length z49) 5 1 (z2v.flatMap e5),row (.slice z4a z2w.length z4b) 5 1 (z2w.flatMap e5),stb z6H 65 [(.int .i64 zW.fPc),(.int .i64 z5F),(.int .u8 zW.fRegs.a0),(.int .u8 zW.fRegs.a1),(.int .u8 zW.fRegs.a2),(.int .u8 zW.fRegs.a3),(.int .u8 z19.fOp),(.int .i64 z19.fA),(.int .i64 z19.fB),(.int .i64 z19.fC),(.slice z48 z2v.length z49),(.int .u8 z5C),(.int .i64 z5D),(.int .i64 z5E),(.slice z4a z2w.length z4b)]]) ?_ ?_
 ·skip
  refine WC.b (WC.a (WL.pu rfl ?_))
  refine WL.a (d:=3) rfl rfl rfl (y6 rfl) ?_
  refine WL.a (d:=4) rfl rfl rfl (y4 yH rfl rfl) ?_
  refine WL.a (d:=5) rfl rfl rfl (y4 y33 rfl rfl) ?_
  refine WL.a (d:=6) rfl rfl rfl (y5 yd rfl (yb .here rfl)) ?_
  refine WL.pu rfl (WL.nil (WX.a ?_))
  refine WC.cond rfl (fun zgy=>?_) (fun zgy=>?_)
  ·replace h:=ym h zgy
   refine WC.a (WL.pu rfl (WL.pu rfl ?_))
   refine WL.a (d:=10) rfl rfl rfl (y6 rfl) ?_
   refine WL.a (d:=11) rfl rfl rfl (y4 yl rfl rfl) ?_
   refine WL.a (d:=12) rfl rfl rfl (y4 yR rfl rfl) ?_
   refine WL.a (d:=13) rfl rfl rfl (y5 yd rfl (yb .here rfl)) ?_
   refine WL.a (d:=14) rfl rfl rfl (y6 rfl) ?_
   refine WL.a (d:=15) rfl rfl rfl (y4 yH rfl rfl) ?_
   refine WL.a (d:=16) rfl rfl rfl (y4 y33 rfl rfl) ?_
   refine WL.yf rfl rfl (yK (ds:=[(.int .i64 zW.fPc),(.int .i64 z19.fA),(.int .u8 zW.fRegs.a0),(.int .u8 zW.fRegs.a1),(.int .u8 zW.fRegs.a2),(.int .u8 zW.fRegs.a3),(.int .u8 z19.fOp),(.int .i64 z19.fA),(.int .i64 z19.fB),(.int .i64 z19.fC),(.slice z48 z2v.length z49),(.int .u8 z5C),(.int .i64 z5D),(.int .i64 z5E),(.slice z4a z2w.length z4b)]) y20 rfl rfl rfl rfl rfl .here rfl rfl) ?_
   refine WL.nil ?_
   exact WX.mid (G:=Int) z19.fA h (.cons rfl .nil) (.cons .h1 (.cons .h1 (.cons .here .nil)))
  ·replace h:=yn h zgy
   refine WC.skip ?_
   exact WX.mid (G:=Int) zW.fLeft h (.cons rfl .nil) (.cons .h1 (.cons .h1 (.cons .here .nil)))
 ·rintro z5F h
  replace h:=(ztS z5F).symm.trans h
  refine WC.b (WC.a (WL.pu rfl ?_))
  refine WL.a (d:=18) rfl rfl rfl (y6 rfl) ?_
  refine WL.a (d:=19) rfl rfl rfl (y4 yH rfl rfl) ?_
  refine WL.a (d:=20) rfl rfl rfl (y4 y33 rfl rfl) ?_
  refine WL.a (d:=21) rfl rfl rfl (y5 yd rfl (yb .h2 rfl)) ?_
  refine WL.pu rfl ?_
  refine WL.a (d:=23) rfl rfl rfl (y6 rfl) ?_
  refine WL.a (d:=24) rfl rfl rfl (y4 yH rfl rfl) ?_
  refine WL.a (d:=25) rfl rfl rfl (y4 y33 rfl rfl) ?_
  refine WL.yf rfl rfl (yK (ds:=[(.int .i64 zW.fPc),(.int .i64 (i64 (z5F - 1))),(.int .u8 zW.fRegs.a0),(.int .u8 zW.fRegs.a1),(.int .u8 zW.fRegs.a2),(.int .u8 zW.fRegs.a3),(.int .u8 z19.fOp),(.int .i64 z19.fA),(.int .i64 z19.fB),(.int .i64 z19.fC),(.slice z48 z2v.length z49),(.int .u8 z5C),(.int .i64 z5D),(.int .i64 z5E),(.slice z4a z2w.length z4b)]) y20 rfl rfl rfl rfl rfl .h2 rfl rfl) ?_
  refine WL.nil (WX.a (WC.b (WC.a (WL.pu rfl ?_))))
  refine WL.a (d:=27) rfl rfl rfl (y6 rfl) ?_
  refine WL.a (d:=28) rfl rfl rfl (y4 yH rfl rfl) ?_
  refine WL.a (d:=29) rfl rfl rfl (y4 y33 rfl rfl) ?_
  refine WL.a (d:=30) rfl rfl rfl (y5 yd rfl (yb .here rfl)) ?_
  refine WL.pu rfl (WL.nil (WX.a ?_))
  refine WC.cond rfl (fun zgz=>?_) (fun zgz=>?_)
  ·replace h:=ym h zgz
   refine WC.a (WL.pu rfl ?_)
   refine WL.a (d:=33) rfl rfl rfl (y6 rfl) ?_
   refine WL.a (d:=34) rfl rfl rfl (y4 yH rfl rfl) ?_
   refine WL.a (d:=35) rfl rfl rfl (y4 y1d rfl rfl) ?_
   refine WL.a (d:=36) rfl rfl rfl (y5 yd rfl (yb .here rfl)) ?_
   refine WL.pu rfl ?_
   refine WL.a (d:=38) rfl rfl rfl (y6 rfl) ?_
   refine WL.a (d:=39) rfl rfl rfl (y4 yH rfl rfl) ?_
   refine WL.a (d:=40) rfl rfl rfl (y4 y1d rfl rfl) ?_
   refine WL.yf rfl rfl (yK (ds:=[(.int .i64 (i64 (zW.fPc - 1))),(.int .i64 (i64 (z5F - 1))),(.int .u8 zW.fRegs.a0),(.int .u8 zW.fRegs.a1),(.int .u8 zW.fRegs.a2),(.int .u8 zW.fRegs.a3),(.int .u8 z19.fOp),(.int .i64 z19.fA),(.int .i64 z19.fB),(.int .i64 z19.fC),(.slice z48 z2v.length z49),(.int .u8 z5C),(.int .i64 z5D),(.int .i64 z5E),(.slice z4a z2w.length z4b)]) y20 rfl rfl rfl rfl rfl .here rfl rfl) ?_
   refine WL.nil ?_
   obtain rfl:=Option.some.inj h
   refine WX.y9 Tryd.results84 .nil (fun w hw=>?_)
   exact ⟨yB,hw.sub (.cons .here (.cons .here (.cons .here .nil)))⟩
  ·replace h:=yn h zgz
   refine WC.skip ?_
   obtain rfl:=Option.some.inj h
   refine WX.y9 Tryd.results84 .nil (fun w hw=>?_)
   exact ⟨yB,hw.sub (.cons .here (.cons .here (.cons .here .nil)))⟩
def yj (zas : Sproc_State) (zdp : Sapi_Ins) (z4q : List Int) (zgA : Int) (zgB : Int) (zgC : Int) (z4r : List Int) (zat : Int) : Option Unit :=
 chk ((0 : Int) ≤ zat ∧ zat < 4) (some ())
set_option maxRecDepth 20000 in
theorem yq (Z : Zp) (zdZ : Addr) (zbH : Option Addr) (zbI : Nat) (zbJ : Option Addr) (zbK : Nat) (zas : Sproc_State) (zdp : Sapi_Ins) (z4q : List Int) (zgA : Int) (zgB : Int) (zgC : Int) (z4r : List Int) (zat : Int) (r : Unit)
  (h : yj zas zdp z4q zgA zgB zgC z4r zat = some r) (w₀ : World) (hz : PZ (fps [row (.slice zbH z4q.length zbI) 5 1 (z4q.flatMap e5),row (.slice zbJ z4r.length zbK) 5 1 (z4r.flatMap e5)]) w₀ Z)
  (zxN : ZC Z zdZ [(.int .i64 zas.fPc),(.int .i64 zas.fLeft),(.int .u8 zas.fRegs.a0),(.int .u8 zas.fRegs.a1),(.int .u8 zas.fRegs.a2),(.int .u8 zas.fRegs.a3),(.int .u8 zdp.fOp),(.int .i64 zdp.fA),(.int .i64 zdp.fB),(.int .i64 zdp.fC),(.slice zbH z4q.length zbI),(.int .u8 zgA),(.int .i64 zgB),(.int .i64 zgC),(.slice zbJ z4r.length zbK)])
  (hown : Hp (fps [row (.slice zbH z4q.length zbI) 5 1 (z4q.flatMap e5),row (.slice zbJ z4r.length zbK) 5 1 (z4r.flatMap e5)]) w₀ w₀ [row (.slice zbH z4q.length zbI) 5 1 (z4q.flatMap e5),row (.slice zbJ z4r.length zbK) 5 1 (z4r.flatMap e5)]) :
  Calls Tryd.prog 108 #[(.pointer (some zdZ)),(.int .i64 zat)] w₀ fun e w'=>e = .returned (.pointer (some (Addr.add zdZ (2 + (zat : Int).toNat)))) ∧ Hp (fps [row (.slice zbH z4q.length zbI) 5 1 (z4q.flatMap e5),row (.slice zbJ z4r.length zbK) 5 1 (z4r.flatMap e5)]) w₀ w' [row (.slice zbH z4q.length zbI) 5 1 (z4q.flatMap e5),row (.slice zbJ z4r.length zbK) 5 1 (z4r.flatMap e5)]:=by
 unfold yj at h
 refine Calls.y8 (vs:=[(.pointer (some zdZ)),(.int .i64 zat)]) (pre:=[row (.slice zbH z4q.length zbI) 5 1 (z4q.flatMap e5),row (.slice zbJ z4r.length zbK) 5 1 (z4r.flatMap e5)]) (env:=[(0,(.pointer (some zdZ))),(1,(.int .i64 zat))]) Tryd.func108 rfl Tryd.ntmps108 rfl (hown) rfl ?_
 refine WC.b (WC.a (WL.pu rfl (WL.nil (WX.a (WC.b ?_)))))
 obtain ⟨ztT,h⟩:=ya h
 refine WC.a (WL.pu rfl (WL.pu rfl ?_))
 refine WL.a (d:=7) rfl rfl rfl (y6 rfl) ?_
 refine WL.a (d:=8) rfl rfl rfl (y4 yH rfl rfl) ?_
 refine WL.a (d:=9) rfl rfl rfl (y4 y7v rfl rfl) ?_
 refine WL.a (d:=10) rfl rfl rfl (y3u arT_34 rfl rfl ztT add_z1) ?_
 refine WL.pu rfl (WL.nil (WX.a (WC.ret ?_)))
 skip
 refine WX.yi Tryd.results108 (.tmp rfl .nil) (fun w hw=>?_)
 exact ⟨y1a rfl,hw.sub (.cons .here (.cons .here .nil))⟩
def y23 (zO : Sproc_State) (z10 : Sapi_Ins) (z2Y : List Int) (z7w : Int) (z7x : Int) (z7y : Int) (z2Z : List Int) : Option (Int × Int × Int × Int) :=
 (yj zO z10 z2Y z7w z7x z7y z2Z z10.fA).bind fun ztU=>chk ((0 : Int) ≤ z10.fA ∧ z10.fA < 4) (some ((nth (([zO.fRegs.a0,zO.fRegs.a1,zO.fRegs.a2,zO.fRegs.a3] : List Int).set (z10.fA : Int).toNat (u8 z10.fB)) 0),(nth (([zO.fRegs.a0,zO.fRegs.a1,zO.fRegs.a2,zO.fRegs.a3] : List Int).set (z10.fA : Int).toNat (u8 z10.fB)) 1),(nth (([zO.fRegs.a0,zO.fRegs.a1,zO.fRegs.a2,zO.fRegs.a3] : List Int).set (z10.fA : Int).toNat (u8 z10.fB)) 2),(nth (([zO.fRegs.a0,zO.fRegs.a1,zO.fRegs.a2,zO.fRegs.a3] : List Int).set (z10.fA : Int).toNat (u8 z10.fB)) 3)))
set_option maxRecDepth 20000 in
theorem y57 (Z : Zp) (z7z : Nat) (z4T : Option Addr) (z4U : Nat) (z4V : Option Addr) (z4W : Nat) (zO : Sproc_State) (z10 : Sapi_Ins) (z2Y : List Int) (z7w : Int) (z7x : Int) (z7y : Int) (z2Z : List Int) (r : Int × Int × Int × Int)
  (h : y23 zO z10 z2Y z7w z7x z7y z2Z = some r) (w₀ : World) (hz : PZ (fps [stb z7z 65 [(.int .i64 zO.fPc),(.int .i64 zO.fLeft),(.int .u8 zO.fRegs.a0),(.int .u8 zO.fRegs.a1),(.int .u8 zO.fRegs.a2),(.int .u8 zO.fRegs.a3),(.int .u8 z10.fOp),(.int .i64 z10.fA),(.int .i64 z10.fB),(.int .i64 z10.fC),(.slice z4T z2Y.length z4U),(.int .u8 z7w),(.int .i64 z7x),(.int .i64 z7y),(.slice z4V z2Z.length z4W)],row (.slice z4T z2Y.length z4U) 5 1 (z2Y.flatMap e5),row (.slice z4V z2Z.length z4W) 5 1 (z2Z.flatMap e5)]) w₀ Z)
  (hown : Hp (fps [stb z7z 65 [(.int .i64 zO.fPc),(.int .i64 zO.fLeft),(.int .u8 zO.fRegs.a0),(.int .u8 zO.fRegs.a1),(.int .u8 zO.fRegs.a2),(.int .u8 zO.fRegs.a3),(.int .u8 z10.fOp),(.int .i64 z10.fA),(.int .i64 z10.fB),(.int .i64 z10.fC),(.slice z4T z2Y.length z4U),(.int .u8 z7w),(.int .i64 z7x),(.int .i64 z7y),(.slice z4V z2Z.length z4W)],row (.slice z4T z2Y.length z4U) 5 1 (z2Y.flatMap e5),row (.slice z4V z2Z.length z4W) 5 1 (z2Z.flatMap e5)]) w₀ w₀ [stb z7z 65 [(.int .i64 zO.fPc),(.int .i64 zO.fLeft),(.int .u8 zO.fRegs.a0),(.int .u8 zO.fRegs.a1),(.int .u8 zO.fRegs.a2),(.int .u8 zO.fRegs.a3),(.int .u8 z10.fOp),(.int .i64 z10.fA),(.int .i64 z10.fB),(.int .i64 z10.fC),(.slice z4T z2Y.length z4U),(.int .u8 z7w),(.int .i64 z7x),(.int .i64 z7y),(.slice z4V z2Z.length z4W)],row (.slice z4T z2Y.length z4U) 5 1 (z2Y.flatMap e5),row (.slice z4V z2Z.length z4W) 5 1 (z2Z.flatMap e5)]) :
  Calls Tryd.prog 85 #[(.pointer (some ⟨z7z,0,none⟩))] w₀ fun e w'=>e = .returned (.tuple #[]) ∧ Hp (fps [stb z7z 65 [(.int .i64 zO.fPc),(.int .i64 zO.fLeft),(.int .u8 zO.fRegs.a0),(.int .u8 zO.fRegs.a1),(.int .u8 zO.fRegs.a2),(.int .u8 zO.fRegs.a3),(.int .u8 z10.fOp),(.int .i64 z10.fA),(.int .i64 z10.fB),(.int .i64 z10.fC),(.slice z4T z2Y.length z4U),(.int .u8 z7w),(.int .i64 z7x),(.int .i64 z7y),(.slice z4V z2Z.length z4W)],row (.slice z4T z2Y.length z4U) 5 1 (z2Y.flatMap e5),row (.slice z4V z2Z.length z4W) 5 1 (z2Z.flatMap e5)]) w₀ w' [stb z7z 65 [(.int .i64 zO.fPc),(.int .i64 zO.fLeft),(.int .u8 r.1),(.int .u8 r.2.1),(.int .u8 r.2.2.1),(.int .u8 r.2.2.2),(.int .u8 z10.fOp),(.int .i64 z10.fA),(.int .i64 z10.fB),(.int .i64 z10.fC),(.slice z4T z2Y.length z4U),(.int .u8 z7w),(.int .i64 z7x),(.int .i64 z7y),(.slice z4V z2Z.length z4W)],row (.slice z4T z2Y.length z4U) 5 1 (z2Y.flatMap e5),row (.slice z4V z2Z.length z4W) 5 1 (z2Z.flatMap e5)]:=by
 unfold y23 at h
 refine Calls.y8 (vs:=[(.pointer (some ⟨z7z,0,none⟩))]) (pre:=[stb z7z 65 [(.int .i64 zO.fPc),(.int .i64 zO.fLeft),(.int .u8 zO.fRegs.a0),(.int .u8 zO.fRegs.a1),(.int .u8 zO.fRegs.a2),(.int .u8 zO.fRegs.a3),(.int .u8 z10.fOp),(.int .i64 z10.fA),(.int .i64 z10.fB),(.int .i64 z10.fC),(.slice z4T z2Y.length z4U),(.int .u8 z7w),(.int .i64 z7x),(.int .i64 z7y),(.slice z4V z2Z.length z4W)],row (.slice z4T z2Y.length z4U) 5 1 (z2Y.flatMap e5),row (.slice z4V z2Z.length z4W) 5 1 (z2Z.flatMap e5)]) (env:=[(0,(.pointer (some ⟨z7z,0,none⟩)))]) Tryd.func85 rfl Tryd.ntmps85 rfl (hown) rfl ?_
 obtain ⟨ztU,ztV,h⟩:=zb h
 obtain ⟨ztW,h⟩:=ya h
 refine WC.y11 (fun i=>[6,14].contains i) [stbp z7z 65 [(8,(.int .i64 z10.fB))]] rfl ?_
 refine WD.a (i:=0) (d:=2) (by kernel_rfl) rfl z2 z6 rfl rfl rfl (fun _=>q_m rfl) ?_
 refine WD.a (i:=1) (d:=3) (by kernel_rfl) rfl z2 z6 rfl rfl rfl (fun _=>q_m rfl) ?_
 refine WD.a (i:=2) (d:=4) (by kernel_rfl) rfl z2 z6 rfl rfl rfl (fun _=>y6 rfl) ?_
 refine WD.a (i:=3) (d:=5) (by kernel_rfl) rfl z2 z6 rfl rfl rfl (fun _=>y4 yl rfl rfl) ?_
 refine WD.a (i:=4) (d:=6) (by kernel_rfl) rfl z2 z6 rfl rfl rfl (fun _=>y4 yR rfl rfl) ?_
 refine WD.e (i:=5) (d:=7) (by kernel_rfl) rfl z2 z6 rfl rfl rfl (y5 yd rfl (yb .here rfl)) ?_
 refine WD.a (i:=7) (d:=9) (by kernel_rfl) rfl z2 z6 rfl rfl rfl (fun _=>q_m rfl) ?_
 refine WD.a (i:=8) (d:=10) (by kernel_rfl) rfl z2 z6 rfl rfl rfl (fun _=>y6 rfl) ?_
 refine WD.a (i:=9) (d:=11) (by kernel_rfl) rfl z2 z6 rfl rfl rfl (fun _=>y4 yl rfl rfl) ?_
 refine WD.a (i:=10) (d:=12) (by kernel_rfl) rfl z2 z6 rfl rfl rfl (fun _=>y4 y16 rfl rfl) ?_
 refine WD.y1k (i:=11) (d:=13) (by kernel_rfl) rfl z2 z6 rfl rfl rfl (Sin.wk (.cons .here .nil) (.stb (.cons rfl .nil) .nil)) (y5 yd rfl (y5Y .here (.head _))) ?_
 refine WD.a (i:=12) (d:=14) (by kernel_rfl) rfl z2 z6 rfl rfl rfl (fun _=>y2Z Tryd.underlying3 Tryd.underlying5 rfl rfl) ?_
 refine WD.call0 (i:=6) (dd:=8) rfl (by kernel_rfl) rfl rfl rfl (.inl ⟨rfl,(Sin.wk (.cons .h2 .nil) (.stb (.cons rfl .nil) .nil))⟩) (zk (l:=[.tmp 2,.tmp 7]) Tryd.call108 (.cons rfl (.cons rfl .nil))) (.cons .h1 (.cons .h1 .nil)) (ccl hz (.cons .h1 (.cons .h1 .nil)) (.cons .here .nil) fun w pz ho la=>Calls.mono (yq _ _ _ _ _ _ _ _ _ _ _ _ _ _ _ ztV w pz ((la _ (.head _) _).stb) ho) (fun _ _ h'=>⟨h'.1,trivial,h'.2⟩)) ?_
 intro _
 refine WD.a (i:=13) (d:=15) (by kernel_rfl) rfl z2 z6 rfl rfl rfl (fun _=>y6 rfl) ?_
 refine WD.y1J (i:=14) rfl (by kernel_rfl) rfl rfl rfl (by kernel_rfl) (y1M (l:=([zO.fRegs.a0,zO.fRegs.a1,zO.fRegs.a2,zO.fRegs.a3] : List Int)) (f:=Value.int .u8) (u:=u8 z10.fB) (k:=2) (m:=6) (j:=4) (ds:=[(.int .i64 zO.fPc),(.int .i64 zO.fLeft),(.int .u8 (nth (([zO.fRegs.a0,zO.fRegs.a1,zO.fRegs.a2,zO.fRegs.a3] : List Int).set (z10.fA : Int).toNat (u8 z10.fB)) 0)),(.int .u8 (nth (([zO.fRegs.a0,zO.fRegs.a1,zO.fRegs.a2,zO.fRegs.a3] : List Int).set (z10.fA : Int).toNat (u8 z10.fB)) 1)),(.int .u8 (nth (([zO.fRegs.a0,zO.fRegs.a1,zO.fRegs.a2,zO.fRegs.a3] : List Int).set (z10.fA : Int).toNat (u8 z10.fB)) 2)),(.int .u8 (nth (([zO.fRegs.a0,zO.fRegs.a1,zO.fRegs.a2,zO.fRegs.a3] : List Int).set (z10.fA : Int).toNat (u8 z10.fB)) 3)),(.int .u8 z10.fOp),(.int .i64 z10.fA),(.int .i64 z10.fB),(.int .i64 z10.fC),(.slice z4T z2Y.length z4U),(.int .u8 z7w),(.int .i64 z7x),(.int .i64 z7y),(.slice z4V z2Z.length z4W)]) y30 rfl rfl rfl rfl .h2 rfl rfl ztW rfl rfl) ?_
 refine WD.done (by kernel_rfl) ?_
 obtain rfl:=Option.some.inj h
 refine WX.y9 Tryd.results85 .nil (fun w hw=>?_)
 exact ⟨yB,hw.sub (.cons .here (.cons .here (.cons .here .nil)))⟩
def y24 (ze : Sproc_State) (zP : Sapi_Ins) (z2C : List Int) (z5G : Int) (z5H : Int) (z5I : Int) (z2D : List Int) : Option (Int × Int × Int × Int) :=
 (yj ze zP z2C z5G z5H z5I z2D zP.fA).bind fun ztX=>chk ((0 : Int) ≤ zP.fA ∧ zP.fA < 4) ((yj ze zP z2C z5G z5H z5I z2D zP.fB).bind fun ztY=>chk ((0 : Int) ≤ zP.fB ∧ zP.fB < 4) (some ((nth (([ze.fRegs.a0,ze.fRegs.a1,ze.fRegs.a2,ze.fRegs.a3] : List Int).set (zP.fA : Int).toNat (u8 ((nth ([ze.fRegs.a0,ze.fRegs.a1,ze.fRegs.a2,ze.fRegs.a3] : List Int) zP.fA) + (nth ([ze.fRegs.a0,ze.fRegs.a1,ze.fRegs.a2,ze.fRegs.a3] : List Int) zP.fB)))) 0),(nth (([ze.fRegs.a0,ze.fRegs.a1,ze.fRegs.a2,ze.fRegs.a3] : List Int).set (zP.fA : Int).toNat (u8 ((nth ([ze.fRegs.a0,ze.fRegs.a1,ze.fRegs.a2,ze.fRegs.a3] : List Int) zP.fA) + (nth ([ze.fRegs.a0,ze.fRegs.a1,ze.fRegs.a2,ze.fRegs.a3] : List Int) zP.fB)))) 1),(nth (([ze.fRegs.a0,ze.fRegs.a1,ze.fRegs.a2,ze.fRegs.a3] : List Int).set (zP.fA : Int).toNat (u8 ((nth ([ze.fRegs.a0,ze.fRegs.a1,ze.fRegs.a2,ze.fRegs.a3] : List Int) zP.fA) + (nth ([ze.fRegs.a0,ze.fRegs.a1,ze.fRegs.a2,ze.fRegs.a3] : List Int) zP.fB)))) 2),(nth (([ze.fRegs.a0,ze.fRegs.a1,ze.fRegs.a2,ze.fRegs.a3] : List Int).set (zP.fA : Int).toNat (u8 ((nth ([ze.fRegs.a0,ze.fRegs.a1,ze.fRegs.a2,ze.fRegs.a3] : List Int) zP.fA) + (nth ([ze.fRegs.a0,ze.fRegs.a1,ze.fRegs.a2,ze.fRegs.a3] : List Int) zP.fB)))) 3))))
set_option maxRecDepth 20000 in
theorem y58 (Z : Zp) (z7A : Nat) (z4y : Option Addr) (z4z : Nat) (z4A : Option Addr) (z4B : Nat) (ze : Sproc_State) (zP : Sapi_Ins) (z2C : List Int) (z5G : Int) (z5H : Int) (z5I : Int) (z2D : List Int) (r : Int × Int × Int × Int)
  (h : y24 ze zP z2C z5G z5H z5I z2D = some r) (w₀ : World) (hz : PZ (fps [stb z7A 65 [(.int .i64 ze.fPc),(.int .i64 ze.fLeft),(.int .u8 ze.fRegs.a0),(.int .u8 ze.fRegs.a1),(.int .u8 ze.fRegs.a2),(.int .u8 ze.fRegs.a3),(.int .u8 zP.fOp),(.int .i64 zP.fA),(.int .i64 zP.fB),(.int .i64 zP.fC),(.slice z4y z2C.length z4z),(.int .u8 z5G),(.int .i64 z5H),(.int .i64 z5I),(.slice z4A z2D.length z4B)],row (.slice z4y z2C.length z4z) 5 1 (z2C.flatMap e5),row (.slice z4A z2D.length z4B) 5 1 (z2D.flatMap e5)]) w₀ Z)
  (hown : Hp (fps [stb z7A 65 [(.int .i64 ze.fPc),(.int .i64 ze.fLeft),(.int .u8 ze.fRegs.a0),(.int .u8 ze.fRegs.a1),(.int .u8 ze.fRegs.a2),(.int .u8 ze.fRegs.a3),(.int .u8 zP.fOp),(.int .i64 zP.fA),(.int .i64 zP.fB),(.int .i64 zP.fC),(.slice z4y z2C.length z4z),(.int .u8 z5G),(.int .i64 z5H),(.int .i64 z5I),(.slice z4A z2D.length z4B)],row (.slice z4y z2C.length z4z) 5 1 (z2C.flatMap e5),row (.slice z4A z2D.length z4B) 5 1 (z2D.flatMap e5)]) w₀ w₀ [stb z7A 65 [(.int .i64 ze.fPc),(.int .i64 ze.fLeft),(.int .u8 ze.fRegs.a0),(.int .u8 ze.fRegs.a1),(.int .u8 ze.fRegs.a2),(.int .u8 ze.fRegs.a3),(.int .u8 zP.fOp),(.int .i64 zP.fA),(.int .i64 zP.fB),(.int .i64 zP.fC),(.slice z4y z2C.length z4z),(.int .u8 z5G),(.int .i64 z5H),(.int .i64 z5I),(.slice z4A z2D.length z4B)],row (.slice z4y z2C.length z4z) 5 1 (z2C.flatMap e5),row (.slice z4A z2D.length z4B) 5 1 (z2D.flatMap e5)]) :
  Calls Tryd.prog 82 #[(.pointer (some ⟨z7A,0,none⟩))] w₀ fun e w'=>e = .returned (.tuple #[]) ∧ Hp (fps [stb z7A 65 [(.int .i64 ze.fPc),(.int .i64 ze.fLeft),(.int .u8 ze.fRegs.a0),(.int .u8 ze.fRegs.a1),(.int .u8 ze.fRegs.a2),(.int .u8 ze.fRegs.a3),(.int .u8 zP.fOp),(.int .i64 zP.fA),(.int .i64 zP.fB),(.int .i64 zP.fC),(.slice z4y z2C.length z4z),(.int .u8 z5G),(.int .i64 z5H),(.int .i64 z5I),(.slice z4A z2D.length z4B)],row (.slice z4y z2C.length z4z) 5 1 (z2C.flatMap e5),row (.slice z4A z2D.length z4B) 5 1 (z2D.flatMap e5)]) w₀ w' [stb z7A 65 [(.int .i64 ze.fPc),(.int .i64 ze.fLeft),(.int .u8 r.1),(.int .u8 r.2.1),(.int .u8 r.2.2.1),(.int .u8 r.2.2.2),(.int .u8 zP.fOp),(.int .i64 zP.fA),(.int .i64 zP.fB),(.int .i64 zP.fC),(.slice z4y z2C.length z4z),(.int .u8 z5G),(.int .i64 z5H),(.int .i64 z5I),(.slice z4A z2D.length z4B)],row (.slice z4y z2C.length z4z) 5 1 (z2C.flatMap e5),row (.slice z4A z2D.length z4B) 5 1 (z2D.flatMap e5)]:=by
 unfold y24 at h
 refine Calls.y8 (vs:=[(.pointer (some ⟨z7A,0,none⟩))]) (pre:=[stb z7A 65 [(.int .i64 ze.fPc),(.int .i64 ze.fLeft),(.int .u8 ze.fRegs.a0),(.int .u8 ze.fRegs.a1),(.int .u8 ze.fRegs.a2),(.int .u8 ze.fRegs.a3),(.int .u8 zP.fOp),(.int .i64 zP.fA),(.int .i64 zP.fB),(.int .i64 zP.fC),(.slice z4y z2C.length z4z),(.int .u8 z5G),(.int .i64 z5H),(.int .i64 z5I),(.slice z4A z2D.length z4B)],row (.slice z4y z2C.length z4z) 5 1 (z2C.flatMap e5),row (.slice z4A z2D.length z4B) 5 1 (z2D.flatMap e5)]) (env:=[(0,(.pointer (some ⟨z7A,0,none⟩)))]) Tryd.func82 rfl Tryd.ntmps82 rfl (hown) rfl ?_
 obtain ⟨ztX,ztZ,h⟩:=zb h
 obtain ⟨zkp,h⟩:=ya h
 obtain ⟨ztY,zu0,h⟩:=zb h
 obtain ⟨zu1,h⟩:=ya h
 refine WC.y11 (fun i=>[6,15,20].contains i) [stb z7A 65 [(.int .i64 ze.fPc),(.int .i64 ze.fLeft),(.int .u8 ze.fRegs.a0),(.int .u8 ze.fRegs.a1),(.int .u8 ze.fRegs.a2),(.int .u8 ze.fRegs.a3),(.int .u8 zP.fOp),(.int .i64 zP.fA),(.int .i64 zP.fB),(.int .i64 zP.fC),(.slice z4y z2C.length z4z),(.int .u8 z5G),(.int .i64 z5H),(.int .i64 z5I),(.slice z4A z2D.length z4B)]] rfl ?_
 refine WD.a (i:=0) (d:=2) (by kernel_rfl) rfl z2 z6 rfl rfl rfl (fun _=>q_m rfl) ?_
 refine WD.a (i:=1) (d:=3) (by kernel_rfl) rfl z2 z6 rfl rfl rfl (fun _=>q_m rfl) ?_
 refine WD.a (i:=2) (d:=4) (by kernel_rfl) rfl z2 z6 rfl rfl rfl (fun _=>y6 rfl) ?_
 refine WD.a (i:=3) (d:=5) (by kernel_rfl) rfl z2 z6 rfl rfl rfl (fun _=>y4 yl rfl rfl) ?_
 refine WD.a (i:=4) (d:=6) (by kernel_rfl) rfl z2 z6 rfl rfl rfl (fun _=>y4 yR rfl rfl) ?_
 refine WD.e (i:=5) (d:=7) (by kernel_rfl) rfl z2 z6 rfl rfl rfl (y5 yd rfl (yb .here rfl)) ?_
 refine WD.a (i:=9) (d:=11) (by kernel_rfl) rfl z2 z6 rfl rfl rfl (fun _=>q_m rfl) ?_
 refine WD.a (i:=10) (d:=12) (by kernel_rfl) rfl z2 z6 rfl rfl rfl (fun _=>q_m rfl) ?_
 refine WD.a (i:=11) (d:=13) (by kernel_rfl) rfl z2 z6 rfl rfl rfl (fun _=>y6 rfl) ?_
 refine WD.a (i:=12) (d:=14) (by kernel_rfl) rfl z2 z6 rfl rfl rfl (fun _=>y4 yl rfl rfl) ?_
 refine WD.a (i:=13) (d:=15) (by kernel_rfl) rfl z2 z6 rfl rfl rfl (fun _=>y4 y16 rfl rfl) ?_
 refine WD.y1k (i:=14) (d:=16) (by kernel_rfl) rfl z2 z6 rfl rfl rfl (Sin.of (.cons .here .nil)) (y5 yd rfl (yb .here rfl)) ?_
 refine WD.call0 (i:=6) (dd:=8) rfl (by kernel_rfl) rfl rfl rfl (.inl ⟨rfl,(Sin.of (.cons .h2 .nil))⟩) (zk (l:=[.tmp 2,.tmp 7]) Tryd.call108 (.cons rfl (.cons rfl .nil))) (.cons .h1 (.cons .h1 .nil)) (ccl hz (.cons .h1 (.cons .h1 .nil)) (.cons .here .nil) fun w pz ho la=>Calls.mono (yq _ _ _ _ _ _ _ _ _ _ _ _ _ _ _ ztZ w pz ((la _ (.head _) _).stb) ho) (fun _ _ h'=>⟨h'.1,trivial,h'.2⟩)) ?_
 intro _
 refine WD.a (i:=7) (d:=9) (by kernel_rfl) rfl z2 z6 rfl rfl rfl (fun _=>y6 rfl) ?_
 refine WD.y1k (i:=8) (d:=10) (by kernel_rfl) rfl z2 z6 rfl rfl rfl (Sin.of (.cons .h2 .nil)) (y5 yC rfl (yY (l:=([ze.fRegs.a0,ze.fRegs.a1,ze.fRegs.a2,ze.fRegs.a3] : List Int)) (f:=Value.int .u8) (k:=2) (m:=6) .here rfl rfl zkp)) ?_
 refine WD.call0 (i:=15) (dd:=17) rfl (by kernel_rfl) rfl rfl rfl (.inl ⟨rfl,(Sin.of (.cons .h2 .nil))⟩) (zk (l:=[.tmp 11,.tmp 16]) Tryd.call108 (.cons rfl (.cons rfl .nil))) (.cons .here (.cons .here .nil)) (ccl hz (.cons .here (.cons .here .nil)) (.cons .here .nil) fun w pz ho la=>Calls.mono (yq _ _ _ _ _ _ _ _ _ _ _ _ _ _ _ zu0 w pz ((la _ (.head _) _).stb) ho) (fun _ _ h'=>⟨h'.1,trivial,h'.2⟩)) ?_
 intro _
 refine WD.a (i:=16) (d:=18) (by kernel_rfl) rfl z2 z6 rfl rfl rfl (fun _=>y6 rfl) ?_
 refine WD.e (i:=17) (d:=19) (by kernel_rfl) rfl z2 z6 rfl rfl rfl (y5 yC rfl (yY (l:=([ze.fRegs.a0,ze.fRegs.a1,ze.fRegs.a2,ze.fRegs.a3] : List Int)) (f:=Value.int .u8) (k:=2) (m:=6) .h2 rfl rfl zu1)) ?_
 refine WD.a (i:=18) (d:=20) (by kernel_rfl) rfl z2 z6 rfl rfl rfl (fun _=>y5h rfl rfl rfl) ?_
 refine WD.a (i:=19) (d:=21) (by kernel_rfl) rfl z2 z6 rfl rfl rfl (fun _=>y6 rfl) ?_
 refine WD.y1J (i:=20) rfl (by kernel_rfl) rfl rfl rfl (by kernel_rfl) (y1M (l:=([ze.fRegs.a0,ze.fRegs.a1,ze.fRegs.a2,ze.fRegs.a3] : List Int)) (f:=Value.int .u8) (u:=u8 ((nth ([ze.fRegs.a0,ze.fRegs.a1,ze.fRegs.a2,ze.fRegs.a3] : List Int) zP.fA) + (nth ([ze.fRegs.a0,ze.fRegs.a1,ze.fRegs.a2,ze.fRegs.a3] : List Int) zP.fB))) (k:=2) (m:=6) (j:=4) (ds:=[(.int .i64 ze.fPc),(.int .i64 ze.fLeft),(.int .u8 (nth (([ze.fRegs.a0,ze.fRegs.a1,ze.fRegs.a2,ze.fRegs.a3] : List Int).set (zP.fA : Int).toNat (u8 ((nth ([ze.fRegs.a0,ze.fRegs.a1,ze.fRegs.a2,ze.fRegs.a3] : List Int) zP.fA) + (nth ([ze.fRegs.a0,ze.fRegs.a1,ze.fRegs.a2,ze.fRegs.a3] : List Int) zP.fB)))) 0)),(.int .u8 (nth (([ze.fRegs.a0,ze.fRegs.a1,ze.fRegs.a2,ze.fRegs.a3] : List Int).set (zP.fA : Int).toNat (u8 ((nth ([ze.fRegs.a0,ze.fRegs.a1,ze.fRegs.a2,ze.fRegs.a3] : List Int) zP.fA) + (nth ([ze.fRegs.a0,ze.fRegs.a1,ze.fRegs.a2,ze.fRegs.a3] : List Int) zP.fB)))) 1)),(.int .u8 (nth (([ze.fRegs.a0,ze.fRegs.a1,ze.fRegs.a2,ze.fRegs.a3] : List Int).set (zP.fA : Int).toNat (u8 ((nth ([ze.fRegs.a0,ze.fRegs.a1,ze.fRegs.a2,ze.fRegs.a3] : List Int) zP.fA) + (nth ([ze.fRegs.a0,ze.fRegs.a1,ze.fRegs.a2,ze.fRegs.a3] : List Int) zP.fB)))) 2)),(.int .u8 (nth (([ze.fRegs.a0,ze.fRegs.a1,ze.fRegs.a2,ze.fRegs.a3] : List Int).set (zP.fA : Int).toNat (u8 ((nth ([ze.fRegs.a0,ze.fRegs.a1,ze.fRegs.a2,ze.fRegs.a3] : List Int) zP.fA) + (nth ([ze.fRegs.a0,ze.fRegs.a1,ze.fRegs.a2,ze.fRegs.a3] : List Int) zP.fB)))) 3)),(.int .u8 zP.fOp),(.int .i64 zP.fA),(.int .i64 zP.fB),(.int .i64 zP.fC),(.slice z4y z2C.length z4z),(.int .u8 z5G),(.int .i64 z5H),(.int .i64 z5I),(.slice z4A z2D.length z4B)]) y30 rfl rfl rfl rfl .h2 rfl rfl zkp rfl rfl) ?_
 refine WD.done (by kernel_rfl) ?_
 obtain rfl:=Option.some.inj h
 refine WX.y9 Tryd.results82 .nil (fun w hw=>?_)
 exact ⟨yB,hw.sub (.cons .here (.cons .here (.cons .here .nil)))⟩
def y25 (zf : Sproc_State) (zQ : Sapi_Ins) (z2E : List Int) (z5J : Int) (z5K : Int) (z5L : Int) (z2F : List Int) : Option (Int × Int × Int × Int) :=
 (yj zf zQ z2E z5J z5K z5L z2F zQ.fA).bind fun zu2=>chk ((0 : Int) ≤ zQ.fA ∧ zQ.fA < 4) ((yj zf zQ z2E z5J z5K z5L z2F zQ.fB).bind fun zu3=>chk ((0 : Int) ≤ zQ.fB ∧ zQ.fB < 4) (some ((nth (([zf.fRegs.a0,zf.fRegs.a1,zf.fRegs.a2,zf.fRegs.a3] : List Int).set (zQ.fA : Int).toNat (u8 ((nth ([zf.fRegs.a0,zf.fRegs.a1,zf.fRegs.a2,zf.fRegs.a3] : List Int) zQ.fA) - (nth ([zf.fRegs.a0,zf.fRegs.a1,zf.fRegs.a2,zf.fRegs.a3] : List Int) zQ.fB)))) 0),(nth (([zf.fRegs.a0,zf.fRegs.a1,zf.fRegs.a2,zf.fRegs.a3] : List Int).set (zQ.fA : Int).toNat (u8 ((nth ([zf.fRegs.a0,zf.fRegs.a1,zf.fRegs.a2,zf.fRegs.a3] : List Int) zQ.fA) - (nth ([zf.fRegs.a0,zf.fRegs.a1,zf.fRegs.a2,zf.fRegs.a3] : List Int) zQ.fB)))) 1),(nth (([zf.fRegs.a0,zf.fRegs.a1,zf.fRegs.a2,zf.fRegs.a3] : List Int).set (zQ.fA : Int).toNat (u8 ((nth ([zf.fRegs.a0,zf.fRegs.a1,zf.fRegs.a2,zf.fRegs.a3] : List Int) zQ.fA) - (nth ([zf.fRegs.a0,zf.fRegs.a1,zf.fRegs.a2,zf.fRegs.a3] : List Int) zQ.fB)))) 2),(nth (([zf.fRegs.a0,zf.fRegs.a1,zf.fRegs.a2,zf.fRegs.a3] : List Int).set (zQ.fA : Int).toNat (u8 ((nth ([zf.fRegs.a0,zf.fRegs.a1,zf.fRegs.a2,zf.fRegs.a3] : List Int) zQ.fA) - (nth ([zf.fRegs.a0,zf.fRegs.a1,zf.fRegs.a2,zf.fRegs.a3] : List Int) zQ.fB)))) 3))))
set_option maxRecDepth 20000 in
theorem y59 (Z : Zp) (z7B : Nat) (z4C : Option Addr) (z4D : Nat) (z4E : Option Addr) (z4F : Nat) (zf : Sproc_State) (zQ : Sapi_Ins) (z2E : List Int) (z5J : Int) (z5K : Int) (z5L : Int) (z2F : List Int) (r : Int × Int × Int × Int)
  (h : y25 zf zQ z2E z5J z5K z5L z2F = some r) (w₀ : World) (hz : PZ (fps [stb z7B 65 [(.int .i64 zf.fPc),(.int .i64 zf.fLeft),(.int .u8 zf.fRegs.a0),(.int .u8 zf.fRegs.a1),(.int .u8 zf.fRegs.a2),(.int .u8 zf.fRegs.a3),(.int .u8 zQ.fOp),(.int .i64 zQ.fA),(.int .i64 zQ.fB),(.int .i64 zQ.fC),(.slice z4C z2E.length z4D),(.int .u8 z5J),(.int .i64 z5K),(.int .i64 z5L),(.slice z4E z2F.length z4F)],row (.slice z4C z2E.length z4D) 5 1 (z2E.flatMap e5),row (.slice z4E z2F.length z4F) 5 1 (z2F.flatMap e5)]) w₀ Z)
  (hown : Hp (fps [stb z7B 65 [(.int .i64 zf.fPc),(.int .i64 zf.fLeft),(.int .u8 zf.fRegs.a0),(.int .u8 zf.fRegs.a1),(.int .u8 zf.fRegs.a2),(.int .u8 zf.fRegs.a3),(.int .u8 zQ.fOp),(.int .i64 zQ.fA),(.int .i64 zQ.fB),(.int .i64 zQ.fC),(.slice z4C z2E.length z4D),(.int .u8 z5J),(.int .i64 z5K),(.int .i64 z5L),(.slice z4E z2F.length z4F)],row (.slice z4C z2E.length z4D) 5 1 (z2E.flatMap e5),row (.slice z4E z2F.length z4F) 5 1 (z2F.flatMap e5)]) w₀ w₀ [stb z7B 65 [(.int .i64 zf.fPc),(.int .i64 zf.fLeft),(.int .u8 zf.fRegs.a0),(.int .u8 zf.fRegs.a1),(.int .u8 zf.fRegs.a2),(.int .u8 zf.fRegs.a3),(.int .u8 zQ.fOp),(.int .i64 zQ.fA),(.int .i64 zQ.fB),(.int .i64 zQ.fC),(.slice z4C z2E.length z4D),(.int .u8 z5J),(.int .i64 z5K),(.int .i64 z5L),(.slice z4E z2F.length z4F)],row (.slice z4C z2E.length z4D) 5 1 (z2E.flatMap e5),row (.slice z4E z2F.length z4F) 5 1 (z2F.flatMap e5)]) :
  Calls Tryd.prog 86 #[(.pointer (some ⟨z7B,0,none⟩))] w₀ fun e w'=>e = .returned (.tuple #[]) ∧ Hp (fps [stb z7B 65 [(.int .i64 zf.fPc),(.int .i64 zf.fLeft),(.int .u8 zf.fRegs.a0),(.int .u8 zf.fRegs.a1),(.int .u8 zf.fRegs.a2),(.int .u8 zf.fRegs.a3),(.int .u8 zQ.fOp),(.int .i64 zQ.fA),(.int .i64 zQ.fB),(.int .i64 zQ.fC),(.slice z4C z2E.length z4D),(.int .u8 z5J),(.int .i64 z5K),(.int .i64 z5L),(.slice z4E z2F.length z4F)],row (.slice z4C z2E.length z4D) 5 1 (z2E.flatMap e5),row (.slice z4E z2F.length z4F) 5 1 (z2F.flatMap e5)]) w₀ w' [stb z7B 65 [(.int .i64 zf.fPc),(.int .i64 zf.fLeft),(.int .u8 r.1),(.int .u8 r.2.1),(.int .u8 r.2.2.1),(.int .u8 r.2.2.2),(.int .u8 zQ.fOp),(.int .i64 zQ.fA),(.int .i64 zQ.fB),(.int .i64 zQ.fC),(.slice z4C z2E.length z4D),(.int .u8 z5J),(.int .i64 z5K),(.int .i64 z5L),(.slice z4E z2F.length z4F)],row (.slice z4C z2E.length z4D) 5 1 (z2E.flatMap e5),row (.slice z4E z2F.length z4F) 5 1 (z2F.flatMap e5)]:=by
 unfold y25 at h
 refine Calls.y8 (vs:=[(.pointer (some ⟨z7B,0,none⟩))]) (pre:=[stb z7B 65 [(.int .i64 zf.fPc),(.int .i64 zf.fLeft),(.int .u8 zf.fRegs.a0),(.int .u8 zf.fRegs.a1),(.int .u8 zf.fRegs.a2),(.int .u8 zf.fRegs.a3),(.int .u8 zQ.fOp),(.int .i64 zQ.fA),(.int .i64 zQ.fB),(.int .i64 zQ.fC),(.slice z4C z2E.length z4D),(.int .u8 z5J),(.int .i64 z5K),(.int .i64 z5L),(.slice z4E z2F.length z4F)],row (.slice z4C z2E.length z4D) 5 1 (z2E.flatMap e5),row (.slice z4E z2F.length z4F) 5 1 (z2F.flatMap e5)]) (env:=[(0,(.pointer (some ⟨z7B,0,none⟩)))]) Tryd.func86 rfl Tryd.ntmps86 rfl (hown) rfl ?_
 obtain ⟨zu2,zu4,h⟩:=zb h
 obtain ⟨zkq,h⟩:=ya h
 obtain ⟨zu3,zu5,h⟩:=zb h
 obtain ⟨zu6,h⟩:=ya h
 refine WC.y11 (fun i=>[6,15,20].contains i) [stb z7B 65 [(.int .i64 zf.fPc),(.int .i64 zf.fLeft),(.int .u8 zf.fRegs.a0),(.int .u8 zf.fRegs.a1),(.int .u8 zf.fRegs.a2),(.int .u8 zf.fRegs.a3),(.int .u8 zQ.fOp),(.int .i64 zQ.fA),(.int .i64 zQ.fB),(.int .i64 zQ.fC),(.slice z4C z2E.length z4D),(.int .u8 z5J),(.int .i64 z5K),(.int .i64 z5L),(.slice z4E z2F.length z4F)]] rfl ?_
 refine WD.a (i:=0) (d:=2) (by kernel_rfl) rfl z2 z6 rfl rfl rfl (fun _=>q_m rfl) ?_
 refine WD.a (i:=1) (d:=3) (by kernel_rfl) rfl z2 z6 rfl rfl rfl (fun _=>q_m rfl) ?_
 refine WD.a (i:=2) (d:=4) (by kernel_rfl) rfl z2 z6 rfl rfl rfl (fun _=>y6 rfl) ?_
 refine WD.a (i:=3) (d:=5) (by kernel_rfl) rfl z2 z6 rfl rfl rfl (fun _=>y4 yl rfl rfl) ?_
 refine WD.a (i:=4) (d:=6) (by kernel_rfl) rfl z2 z6 rfl rfl rfl (fun _=>y4 yR rfl rfl) ?_
 refine WD.e (i:=5) (d:=7) (by kernel_rfl) rfl z2 z6 rfl rfl rfl (y5 yd rfl (yb .here rfl)) ?_
 refine WD.a (i:=9) (d:=11) (by kernel_rfl) rfl z2 z6 rfl rfl rfl (fun _=>q_m rfl) ?_
 refine WD.a (i:=10) (d:=12) (by kernel_rfl) rfl z2 z6 rfl rfl rfl (fun _=>q_m rfl) ?_
 refine WD.a (i:=11) (d:=13) (by kernel_rfl) rfl z2 z6 rfl rfl rfl (fun _=>y6 rfl) ?_
 refine WD.a (i:=12) (d:=14) (by kernel_rfl) rfl z2 z6 rfl rfl rfl (fun _=>y4 yl rfl rfl) ?_
 refine WD.a (i:=13) (d:=15) (by kernel_rfl) rfl z2 z6 rfl rfl rfl (fun _=>y4 y16 rfl rfl) ?_
 refine WD.y1k (i:=14) (d:=16) (by kernel_rfl) rfl z2 z6 rfl rfl rfl (Sin.of (.cons .here .nil)) (y5 yd rfl (yb .here rfl)) ?_
 refine WD.call0 (i:=6) (dd:=8) rfl (by kernel_rfl) rfl rfl rfl (.inl ⟨rfl,(Sin.of (.cons .h2 .nil))⟩) (zk (l:=[.tmp 2,.tmp 7]) Tryd.call108 (.cons rfl (.cons rfl .nil))) (.cons .h1 (.cons .h1 .nil)) (ccl hz (.cons .h1 (.cons .h1 .nil)) (.cons .here .nil) fun w pz ho la=>Calls.mono (yq _ _ _ _ _ _ _ _ _ _ _ _ _ _ _ zu4 w pz ((la _ (.head _) _).stb) ho) (fun _ _ h'=>⟨h'.1,trivial,h'.2⟩)) ?_
 intro _
 refine WD.a (i:=7) (d:=9) (by kernel_rfl) rfl z2 z6 rfl rfl rfl (fun _=>y6 rfl) ?_
 refine WD.y1k (i:=8) (d:=10) (by kernel_rfl) rfl z2 z6 rfl rfl rfl (Sin.of (.cons .h2 .nil)) (y5 yC rfl (yY (l:=([zf.fRegs.a0,zf.fRegs.a1,zf.fRegs.a2,zf.fRegs.a3] : List Int)) (f:=Value.int .u8) (k:=2) (m:=6) .here rfl rfl zkq)) ?_
 refine WD.call0 (i:=15) (dd:=17) rfl (by kernel_rfl) rfl rfl rfl (.inl ⟨rfl,(Sin.of (.cons .h2 .nil))⟩) (zk (l:=[.tmp 11,.tmp 16]) Tryd.call108 (.cons rfl (.cons rfl .nil))) (.cons .here (.cons .here .nil)) (ccl hz (.cons .here (.cons .here .nil)) (.cons .here .nil) fun w pz ho la=>Calls.mono (yq _ _ _ _ _ _ _ _ _ _ _ _ _ _ _ zu5 w pz ((la _ (.head _) _).stb) ho) (fun _ _ h'=>⟨h'.1,trivial,h'.2⟩)) ?_
 intro _
 refine WD.a (i:=16) (d:=18) (by kernel_rfl) rfl z2 z6 rfl rfl rfl (fun _=>y6 rfl) ?_
 refine WD.e (i:=17) (d:=19) (by kernel_rfl) rfl z2 z6 rfl rfl rfl (y5 yC rfl (yY (l:=([zf.fRegs.a0,zf.fRegs.a1,zf.fRegs.a2,zf.fRegs.a3] : List Int)) (f:=Value.int .u8) (k:=2) (m:=6) .h2 rfl rfl zu6)) ?_
 refine WD.a (i:=18) (d:=20) (by kernel_rfl) rfl z2 z6 rfl rfl rfl (fun _=>y6k rfl rfl rfl) ?_
 refine WD.a (i:=19) (d:=21) (by kernel_rfl) rfl z2 z6 rfl rfl rfl (fun _=>y6 rfl) ?_
 refine WD.y1J (i:=20) rfl (by kernel_rfl) rfl rfl rfl (by kernel_rfl) (y1M (l:=([zf.fRegs.a0,zf.fRegs.a1,zf.fRegs.a2,zf.fRegs.a3] : List Int)) (f:=Value.int .u8) (u:=u8 ((nth ([zf.fRegs.a0,zf.fRegs.a1,zf.fRegs.a2,zf.fRegs.a3] : List Int) zQ.fA) - (nth ([zf.fRegs.a0,zf.fRegs.a1,zf.fRegs.a2,zf.fRegs.a3] : List Int) zQ.fB))) (k:=2) (m:=6) (j:=4) (ds:=[(.int .i64 zf.fPc),(.int .i64 zf.fLeft),(.int .u8 (nth (([zf.fRegs.a0,zf.fRegs.a1,zf.fRegs.a2,zf.fRegs.a3] : List Int).set (zQ.fA : Int).toNat (u8 ((nth ([zf.fRegs.a0,zf.fRegs.a1,zf.fRegs.a2,zf.fRegs.a3] : List Int) zQ.fA) - (nth ([zf.fRegs.a0,zf.fRegs.a1,zf.fRegs.a2,zf.fRegs.a3] : List Int) zQ.fB)))) 0)),(.int .u8 (nth (([zf.fRegs.a0,zf.fRegs.a1,zf.fRegs.a2,zf.fRegs.a3] : List Int).set (zQ.fA : Int).toNat (u8 ((nth ([zf.fRegs.a0,zf.fRegs.a1,zf.fRegs.a2,zf.fRegs.a3] : List Int) zQ.fA) - (nth ([zf.fRegs.a0,zf.fRegs.a1,zf.fRegs.a2,zf.fRegs.a3] : List Int) zQ.fB)))) 1)),(.int .u8 (nth (([zf.fRegs.a0,zf.fRegs.a1,zf.fRegs.a2,zf.fRegs.a3] : List Int).set (zQ.fA : Int).toNat (u8 ((nth ([zf.fRegs.a0,zf.fRegs.a1,zf.fRegs.a2,zf.fRegs.a3] : List Int) zQ.fA) - (nth ([zf.fRegs.a0,zf.fRegs.a1,zf.fRegs.a2,zf.fRegs.a3] : List Int) zQ.fB)))) 2)),(.int .u8 (nth (([zf.fRegs.a0,zf.fRegs.a1,zf.fRegs.a2,zf.fRegs.a3] : List Int).set (zQ.fA : Int).toNat (u8 ((nth ([zf.fRegs.a0,zf.fRegs.a1,zf.fRegs.a2,zf.fRegs.a3] : List Int) zQ.fA) - (nth ([zf.fRegs.a0,zf.fRegs.a1,zf.fRegs.a2,zf.fRegs.a3] : List Int) zQ.fB)))) 3)),(.int .u8 zQ.fOp),(.int .i64 zQ.fA),(.int .i64 zQ.fB),(.int .i64 zQ.fC),(.slice z4C z2E.length z4D),(.int .u8 z5J),(.int .i64 z5K),(.int .i64 z5L),(.slice z4E z2F.length z4F)]) y30 rfl rfl rfl rfl .h2 rfl rfl zkq rfl rfl) ?_
 refine WD.done (by kernel_rfl) ?_
 obtain rfl:=Option.some.inj h
 refine WX.y9 Tryd.results86 .nil (fun w hw=>?_)
 exact ⟨yB,hw.sub (.cons .here (.cons .here (.cons .here .nil)))⟩
def yN (z1a : Sproc_State) (z27 : Sapi_Ins) (z38 : List Int) (zbL : Int) (zbM : Int) (zbN : Int) (z3Q : List Int) (zau : Int) (zav : Int) : Option (Int × Int) :=
 some ((i64 zau),zav)
set_option maxRecDepth 20000 in
theorem y2x (Z : Zp) (z8X : Nat) (z4X : Option Addr) (z4Y : Nat) (z6I : Option Addr) (z6J : Nat) (z1a : Sproc_State) (z27 : Sapi_Ins) (z38 : List Int) (zbL : Int) (zbM : Int) (zbN : Int) (z3Q : List Int) (zau : Int) (zav : Int) (r : Int × Int)
  (h : yN z1a z27 z38 zbL zbM zbN z3Q zau zav = some r) (w₀ : World) (hz : PZ (fps [stb z8X 65 [(.int .i64 z1a.fPc),(.int .i64 z1a.fLeft),(.int .u8 z1a.fRegs.a0),(.int .u8 z1a.fRegs.a1),(.int .u8 z1a.fRegs.a2),(.int .u8 z1a.fRegs.a3),(.int .u8 z27.fOp),(.int .i64 z27.fA),(.int .i64 z27.fB),(.int .i64 z27.fC),(.slice z4X z38.length z4Y),(.int .u8 zbL),(.int .i64 zbM),(.int .i64 zbN),(.slice z6I z3Q.length z6J)],row (.slice z4X z38.length z4Y) 5 1 (z38.flatMap e5),row (.slice z6I z3Q.length z6J) 5 1 (z3Q.flatMap e5)]) w₀ Z)
  (hown : Hp (fps [stb z8X 65 [(.int .i64 z1a.fPc),(.int .i64 z1a.fLeft),(.int .u8 z1a.fRegs.a0),(.int .u8 z1a.fRegs.a1),(.int .u8 z1a.fRegs.a2),(.int .u8 z1a.fRegs.a3),(.int .u8 z27.fOp),(.int .i64 z27.fA),(.int .i64 z27.fB),(.int .i64 z27.fC),(.slice z4X z38.length z4Y),(.int .u8 zbL),(.int .i64 zbM),(.int .i64 zbN),(.slice z6I z3Q.length z6J)],row (.slice z4X z38.length z4Y) 5 1 (z38.flatMap e5),row (.slice z6I z3Q.length z6J) 5 1 (z3Q.flatMap e5)]) w₀ w₀ [stb z8X 65 [(.int .i64 z1a.fPc),(.int .i64 z1a.fLeft),(.int .u8 z1a.fRegs.a0),(.int .u8 z1a.fRegs.a1),(.int .u8 z1a.fRegs.a2),(.int .u8 z1a.fRegs.a3),(.int .u8 z27.fOp),(.int .i64 z27.fA),(.int .i64 z27.fB),(.int .i64 z27.fC),(.slice z4X z38.length z4Y),(.int .u8 zbL),(.int .i64 zbM),(.int .i64 zbN),(.slice z6I z3Q.length z6J)],row (.slice z4X z38.length z4Y) 5 1 (z38.flatMap e5),row (.slice z6I z3Q.length z6J) 5 1 (z3Q.flatMap e5)]) :
  Calls Tryd.prog 112 #[(.pointer (some ⟨z8X,0,none⟩)),(.int .u8 zau),(.int .i64 zav)] w₀ fun e w'=>e = .returned (.tuple #[]) ∧ Hp (fps [stb z8X 65 [(.int .i64 z1a.fPc),(.int .i64 z1a.fLeft),(.int .u8 z1a.fRegs.a0),(.int .u8 z1a.fRegs.a1),(.int .u8 z1a.fRegs.a2),(.int .u8 z1a.fRegs.a3),(.int .u8 z27.fOp),(.int .i64 z27.fA),(.int .i64 z27.fB),(.int .i64 z27.fC),(.slice z4X z38.length z4Y),(.int .u8 zbL),(.int .i64 zbM),(.int .i64 zbN),(.slice z6I z3Q.length z6J)],row (.slice z4X z38.length z4Y) 5 1 (z38.flatMap e5),row (.slice z6I z3Q.length z6J) 5 1 (z3Q.flatMap e5)]) w₀ w' [stb z8X 65 [(.int .i64 z1a.fPc),(.int .i64 z1a.fLeft),(.int .u8 z1a.fRegs.a0),(.int .u8 z1a.fRegs.a1),(.int .u8 z1a.fRegs.a2),(.int .u8 z1a.fRegs.a3),(.int .u8 z27.fOp),(.int .i64 z27.fA),(.int .i64 z27.fB),(.int .i64 z27.fC),(.slice z4X z38.length z4Y),(.int .u8 15),(.int .i64 r.1),(.int .i64 r.2),(.slice none 0 0)],row (.slice z4X z38.length z4Y) 5 1 (z38.flatMap e5),row (.slice z6I z3Q.length z6J) 5 1 (z3Q.flatMap e5)]:=by
 unfold yN at h
 refine Calls.y8 (vs:=[(.pointer (some ⟨z8X,0,none⟩)),(.int .u8 zau),(.int .i64 zav)]) (pre:=[stb z8X 65 [(.int .i64 z1a.fPc),(.int .i64 z1a.fLeft),(.int .u8 z1a.fRegs.a0),(.int .u8 z1a.fRegs.a1),(.int .u8 z1a.fRegs.a2),(.int .u8 z1a.fRegs.a3),(.int .u8 z27.fOp),(.int .i64 z27.fA),(.int .i64 z27.fB),(.int .i64 z27.fC),(.slice z4X z38.length z4Y),(.int .u8 zbL),(.int .i64 zbM),(.int .i64 zbN),(.slice z6I z3Q.length z6J)],row (.slice z4X z38.length z4Y) 5 1 (z38.flatMap e5),row (.slice z6I z3Q.length z6J) 5 1 (z3Q.flatMap e5)]) (env:=[(0,(.pointer (some ⟨z8X,0,none⟩))),(1,(.int .u8 zau)),(2,(.int .i64 zav))]) Tryd.func112 rfl Tryd.ntmps112 rfl (hown) rfl ?_
 refine WC.a (WL.pu rfl (WL.pu rfl ?_))
 refine WL.a (d:=8) rfl rfl rfl (y2Z Tryd.underlying5 Tryd.underlying3 rfl rfl) ?_
 refine WL.pu rfl ?_
 refine WL.a (d:=10) rfl rfl rfl (yP (v:=(.agg #[(.int .u8 15),(.int .i64 (i64 zau)),(.int .i64 zav),(.slice none 0 0)])) (Eos.parts (l:=[.const (.int .u8 15),.tmp 8,.tmp 9]) (.cons rfl (.cons rfl (.cons rfl .nil))) [0,1,2]) (fun _=>by kernel_rfl)) ?_
 refine WL.a (d:=11) rfl rfl rfl (y6 rfl) ?_
 refine WL.a (d:=12) rfl rfl rfl (y4 y2f rfl rfl) ?_
 refine WL.yf rfl rfl (yK (ds:=[(.int .i64 z1a.fPc),(.int .i64 z1a.fLeft),(.int .u8 z1a.fRegs.a0),(.int .u8 z1a.fRegs.a1),(.int .u8 z1a.fRegs.a2),(.int .u8 z1a.fRegs.a3),(.int .u8 z27.fOp),(.int .i64 z27.fA),(.int .i64 z27.fB),(.int .i64 z27.fC),(.slice z4X z38.length z4Y),(.int .u8 15),(.int .i64 (i64 zau)),(.int .i64 zav),(.slice none 0 0)]) yV rfl rfl rfl rfl rfl .here rfl rfl) ?_
 refine WL.nil ?_
 obtain rfl:=Option.some.inj h
 refine WX.y9 Tryd.results112 .nil (fun w hw=>?_)
 exact ⟨yB,hw.sub (.cons .here (.cons .here (.cons .here .nil)))⟩
def y17 (z11 : Sproc_State) (z1y : Sapi_Ins) (z2S : List Int) (z7C : Int) (z7D : Int) (z7E : Int) (z3z : List Int) : Option (Int × Bool × Int × Int × Int × List Int) :=
 (yj z11 z1y z2S z7C z7D z7E z3z z1y.fC).bind fun zu7=>chk ((0 : Int) ≤ z1y.fC ∧ z1y.fC < 4) (if decide ((i64 (z1y.fB + (i64 (nth ([z11.fRegs.a0,z11.fRegs.a1,z11.fRegs.a2,z11.fRegs.a3] : List Int) z1y.fC)))) ≥ ((z2S.length : Nat) : Int)) then (yN z11 z1y z2S z7C z7D z7E z3z 2 0).bind fun zgD=>some (0,false,15,zgD.1,zgD.2,([] : List Int)) else some ((i64 (z1y.fB + (i64 (nth ([z11.fRegs.a0,z11.fRegs.a1,z11.fRegs.a2,z11.fRegs.a3] : List Int) z1y.fC)))),true,z7C,z7D,z7E,z3z))
set_option maxRecDepth 20000 in
theorem y3j (Z : Zp) (z7F : Nat) (z5M : Option Addr) (z5N : Nat) (z6K : Option Addr) (z6L : Nat) (z11 : Sproc_State) (z1y : Sapi_Ins) (z2S : List Int) (z7C : Int) (z7D : Int) (z7E : Int) (z3z : List Int) (r : Int × Bool × Int × Int × Int × List Int)
  (h : y17 z11 z1y z2S z7C z7D z7E z3z = some r) (w₀ : World) (hz : PZ (fps [stb z7F 65 [(.int .i64 z11.fPc),(.int .i64 z11.fLeft),(.int .u8 z11.fRegs.a0),(.int .u8 z11.fRegs.a1),(.int .u8 z11.fRegs.a2),(.int .u8 z11.fRegs.a3),(.int .u8 z1y.fOp),(.int .i64 z1y.fA),(.int .i64 z1y.fB),(.int .i64 z1y.fC),(.slice z5M z2S.length z5N),(.int .u8 z7C),(.int .i64 z7D),(.int .i64 z7E),(.slice z6K z3z.length z6L)],row (.slice z5M z2S.length z5N) 5 1 (z2S.flatMap e5),row (.slice z6K z3z.length z6L) 5 1 (z3z.flatMap e5)]) w₀ Z)
  (hown : Hp (fps [stb z7F 65 [(.int .i64 z11.fPc),(.int .i64 z11.fLeft),(.int .u8 z11.fRegs.a0),(.int .u8 z11.fRegs.a1),(.int .u8 z11.fRegs.a2),(.int .u8 z11.fRegs.a3),(.int .u8 z1y.fOp),(.int .i64 z1y.fA),(.int .i64 z1y.fB),(.int .i64 z1y.fC),(.slice z5M z2S.length z5N),(.int .u8 z7C),(.int .i64 z7D),(.int .i64 z7E),(.slice z6K z3z.length z6L)],row (.slice z5M z2S.length z5N) 5 1 (z2S.flatMap e5),row (.slice z6K z3z.length z6L) 5 1 (z3z.flatMap e5)]) w₀ w₀ [stb z7F 65 [(.int .i64 z11.fPc),(.int .i64 z11.fLeft),(.int .u8 z11.fRegs.a0),(.int .u8 z11.fRegs.a1),(.int .u8 z11.fRegs.a2),(.int .u8 z11.fRegs.a3),(.int .u8 z1y.fOp),(.int .i64 z1y.fA),(.int .i64 z1y.fB),(.int .i64 z1y.fC),(.slice z5M z2S.length z5N),(.int .u8 z7C),(.int .i64 z7D),(.int .i64 z7E),(.slice z6K z3z.length z6L)],row (.slice z5M z2S.length z5N) 5 1 (z2S.flatMap e5),row (.slice z6K z3z.length z6L) 5 1 (z3z.flatMap e5)]) :
  Calls Tryd.prog 109 #[(.pointer (some ⟨z7F,0,none⟩))] w₀ fun e w'=>∃ zkr : Option Addr,∃ zks : Nat,e = .returned (.tuple #[(.int .i64 r.1),(.bool r.2.1)]) ∧ True ∧ Hp (fps [stb z7F 65 [(.int .i64 z11.fPc),(.int .i64 z11.fLeft),(.int .u8 z11.fRegs.a0),(.int .u8 z11.fRegs.a1),(.int .u8 z11.fRegs.a2),(.int .u8 z11.fRegs.a3),(.int .u8 z1y.fOp),(.int .i64 z1y.fA),(.int .i64 z1y.fB),(.int .i64 z1y.fC),(.slice z5M z2S.length z5N),(.int .u8 z7C),(.int .i64 z7D),(.int .i64 z7E),(.slice z6K z3z.length z6L)],row (.slice z5M z2S.length z5N) 5 1 (z2S.flatMap e5),row (.slice z6K z3z.length z6L) 5 1 (z3z.flatMap e5)]) w₀ w' [stb z7F 65 [(.int .i64 z11.fPc),(.int .i64 z11.fLeft),(.int .u8 z11.fRegs.a0),(.int .u8 z11.fRegs.a1),(.int .u8 z11.fRegs.a2),(.int .u8 z11.fRegs.a3),(.int .u8 z1y.fOp),(.int .i64 z1y.fA),(.int .i64 z1y.fB),(.int .i64 z1y.fC),(.slice z5M z2S.length z5N),(.int .u8 r.2.2.1),(.int .i64 r.2.2.2.1),(.int .i64 r.2.2.2.2.1),(.slice zkr r.2.2.2.2.2.length zks)],row (.slice z5M z2S.length z5N) 5 1 (z2S.flatMap e5),row (.slice zkr r.2.2.2.2.2.length zks) 5 1 (r.2.2.2.2.2.flatMap e5)]:=by
 unfold y17 at h
 refine Calls.y8 (vs:=[(.pointer (some ⟨z7F,0,none⟩))]) (pre:=[stb z7F 65 [(.int .i64 z11.fPc),(.int .i64 z11.fLeft),(.int .u8 z11.fRegs.a0),(.int .u8 z11.fRegs.a1),(.int .u8 z11.fRegs.a2),(.int .u8 z11.fRegs.a3),(.int .u8 z1y.fOp),(.int .i64 z1y.fA),(.int .i64 z1y.fB),(.int .i64 z1y.fC),(.slice z5M z2S.length z5N),(.int .u8 z7C),(.int .i64 z7D),(.int .i64 z7E),(.slice z6K z3z.length z6L)],row (.slice z5M z2S.length z5N) 5 1 (z2S.flatMap e5),row (.slice z6K z3z.length z6L) 5 1 (z3z.flatMap e5)]) (env:=[(0,(.pointer (some ⟨z7F,0,none⟩)))]) Tryd.func109 rfl Tryd.ntmps109 rfl (hown) rfl ?_
 refine WC.b (WC.a (WL.pu rfl (WL.pu rfl (WL.nil (WX.a (WC.b ?_))))))
 obtain ⟨zu7,zu8,h⟩:=zb h
 obtain ⟨zu9,h⟩:=ya h
 refine WC.y11 (fun i=>[11].contains i) [stbp z7F 65 [(8,(.int .i64 z1y.fB))]] rfl ?_
 refine WD.a (i:=0) (d:=5) (by kernel_rfl) rfl z2 z6 rfl rfl rfl (fun _=>q_m rfl) ?_
 refine WD.a (i:=1) (d:=6) (by kernel_rfl) rfl z2 z6 rfl rfl rfl (fun _=>y6 rfl) ?_
 refine WD.a (i:=2) (d:=7) (by kernel_rfl) rfl z2 z6 rfl rfl rfl (fun _=>y4 yl rfl rfl) ?_
 refine WD.a (i:=3) (d:=8) (by kernel_rfl) rfl z2 z6 rfl rfl rfl (fun _=>y4 y16 rfl rfl) ?_
 refine WD.y1k (i:=4) (d:=9) (by kernel_rfl) rfl z2 z6 rfl rfl rfl (Sin.wk (.cons .here .nil) (.stb (.cons rfl .nil) .nil)) (y5 yd rfl (y5Y .here (.head _))) ?_
 refine WD.a (i:=5) (d:=10) (by kernel_rfl) rfl z2 z6 rfl rfl rfl (fun _=>q_m rfl) ?_
 refine WD.a (i:=6) (d:=11) (by kernel_rfl) rfl z2 z6 rfl rfl rfl (fun _=>q_m rfl) ?_
 refine WD.a (i:=7) (d:=12) (by kernel_rfl) rfl z2 z6 rfl rfl rfl (fun _=>y6 rfl) ?_
 refine WD.a (i:=8) (d:=13) (by kernel_rfl) rfl z2 z6 rfl rfl rfl (fun _=>y4 yl rfl rfl) ?_
 refine WD.a (i:=9) (d:=14) (by kernel_rfl) rfl z2 z6 rfl rfl rfl (fun _=>y4 y3v rfl rfl) ?_
 refine WD.e (i:=10) (d:=15) (by kernel_rfl) rfl z2 z6 rfl rfl rfl (y5 yd rfl (yb .here rfl)) ?_
 refine WD.call0 (i:=11) (dd:=16) rfl (by kernel_rfl) rfl rfl rfl (.inl ⟨rfl,(Sin.wk (.cons .h2 .nil) (.stb (.cons rfl .nil) .nil))⟩) (zk (l:=[.tmp 10,.tmp 15]) Tryd.call108 (.cons rfl (.cons rfl .nil))) (.cons .h1 (.cons .h1 .nil)) (ccl hz (.cons .h1 (.cons .h1 .nil)) (.cons .here .nil) fun w pz ho la=>Calls.mono (yq _ _ _ _ _ _ _ _ _ _ _ _ _ _ _ zu8 w pz ((la _ (.head _) _).stb) ho) (fun _ _ h'=>⟨h'.1,trivial,h'.2⟩)) ?_
 intro _
 refine WD.a (i:=12) (d:=17) (by kernel_rfl) rfl z2 z6 rfl rfl rfl (fun _=>y6 rfl) ?_
 refine WD.e (i:=13) (d:=18) (by kernel_rfl) rfl z2 z6 rfl rfl rfl (y5 yC rfl (yY (l:=([z11.fRegs.a0,z11.fRegs.a1,z11.fRegs.a2,z11.fRegs.a3] : List Int)) (f:=Value.int .u8) (k:=2) (m:=6) .h2 rfl rfl zu9)) ?_
 refine WD.a (i:=14) (d:=19) (by kernel_rfl) rfl z2 z6 rfl rfl rfl (fun _=>y2Z Tryd.underlying5 Tryd.underlying3 rfl rfl) ?_
 refine WD.a (i:=15) (d:=20) (by kernel_rfl) rfl z2 z6 rfl rfl rfl (fun _=>y5h rfl rfl rfl) ?_
 refine WD.a (i:=16) (d:=4) (by kernel_rfl) rfl z2 z6 rfl rfl rfl (fun _=>q_z rfl) ?_
 refine WD.done (by kernel_rfl) ?_
 refine WX.a (WC.b (WC.b (WC.a (WL.pu rfl (WL.pu rfl ?_)))))
 refine WL.a (d:=23) rfl rfl rfl (y6 rfl) ?_
 refine WL.a (d:=24) rfl rfl rfl (y4 y62 rfl rfl) ?_
 refine WL.a (d:=25) rfl rfl rfl (y5 y44 rfl (yb .h2 rfl)) ?_
 refine WL.a (d:=26) rfl rfl rfl (y1L Tryd.underlying35 rfl) ?_
 refine WL.pu rfl (WL.nil (WX.a ?_))
 refine WC.cond rfl (fun zgE=>?_) (fun zgE=>?_)
 ·replace h:=ym h zgE
  refine WC.b ?_
  obtain ⟨zgD,zua,h⟩:=zb h
  refine WC.a (WL.pu rfl ?_)
  refine WL.b (dd:=29) rfl rfl rfl (zk (l:=[.tmp 28,.const (.int .u8 2),.const (.int .i64 0)]) Tryd.call112 (.cons rfl (.cons rfl (.cons rfl .nil)))) (.cons .h2 (.cons .here (.cons .here .nil))) (cc hz (.cons .h2 (.cons .here (.cons .here .nil))) fun w pz ho=>y2x _ _ _ _ _ _ _ _ _ _ _ _ _ _ _ _ zua w pz  ho) ?_
  refine WL.nil (WX.a (WC.b (WC.a (WL.pu rfl (WL.pu rfl (WL.nil (WX.a (WC.ret (WX.yh ?_)))))))))
  refine WX.nilRow 5 1 ?_
  obtain rfl:=Option.some.inj h
  refine WX.yi Tryd.results109 (.tmp rfl (.tmp rfl .nil)) (fun w hw=>?_)
  exact ⟨none,0,y3M rfl rfl,trivial,hw.sub (.cons .h1 (.cons .h1 (.cons .here .nil)))⟩
 ·replace h:=yn h zgE
  refine WC.skip (WX.a (WC.b (WC.a (WL.pu rfl (WL.pu rfl (WL.pu rfl (WL.nil (WX.a (WC.ret ?_)))))))))
  obtain rfl:=Option.some.inj h
  refine WX.yi Tryd.results109 (.tmp rfl (.tmp rfl .nil)) (fun w hw=>?_)
  exact ⟨z6K,z6L,y3M rfl rfl,trivial,hw.sub (.cons .h2 (.cons .here (.cons .here .nil)))⟩
def y1P (zN : Sproc_State) (z1f : Sapi_Ins) (z1w : List Int) (zaw : Int) (zax : Int) (zay : Int) (z3Y : List Int) : Option (Int × Int × Int × Int × Int × Int × Int × List Int) :=
 (y17 zN z1f z1w zaw zax zay z3Y).bind fun z29=>if z29.2.1 then (yj zN z1f z1w z29.2.2.1 z29.2.2.2.1 z29.2.2.2.2.1 z29.2.2.2.2.2 z1f.fA).bind fun zub=>chk ((0 : Int) ≤ z29.1 ∧ z29.1 < ((z1w.length : Nat) : Int)) (chk ((0 : Int) ≤ z1f.fA ∧ z1f.fA < 4) (some ((nth (([zN.fRegs.a0,zN.fRegs.a1,zN.fRegs.a2,zN.fRegs.a3] : List Int).set (z1f.fA : Int).toNat (nth z1w z29.1)) 0),(nth (([zN.fRegs.a0,zN.fRegs.a1,zN.fRegs.a2,zN.fRegs.a3] : List Int).set (z1f.fA : Int).toNat (nth z1w z29.1)) 1),(nth (([zN.fRegs.a0,zN.fRegs.a1,zN.fRegs.a2,zN.fRegs.a3] : List Int).set (z1f.fA : Int).toNat (nth z1w z29.1)) 2),(nth (([zN.fRegs.a0,zN.fRegs.a1,zN.fRegs.a2,zN.fRegs.a3] : List Int).set (z1f.fA : Int).toNat (nth z1w z29.1)) 3),z29.2.2.1,z29.2.2.2.1,z29.2.2.2.2.1,z29.2.2.2.2.2))) else some (zN.fRegs.a0,zN.fRegs.a1,zN.fRegs.a2,zN.fRegs.a3,z29.2.2.1,z29.2.2.2.1,z29.2.2.2.2.1,z29.2.2.2.2.2)
set_option maxRecDepth 20000 in
theorem y4D (Z : Zp) (z7G : Nat) (z4G : Option Addr) (z4s : Nat) (z7H : Option Addr) (z7I : Nat) (zN : Sproc_State) (z1f : Sapi_Ins) (z1w : List Int) (zaw : Int) (zax : Int) (zay : Int) (z3Y : List Int) (r : Int × Int × Int × Int × Int × Int × Int × List Int)
  (h : y1P zN z1f z1w zaw zax zay z3Y = some r) (w₀ : World) (hz : PZ (fps [stb z7G 65 [(.int .i64 zN.fPc),(.int .i64 zN.fLeft),(.int .u8 zN.fRegs.a0),(.int .u8 zN.fRegs.a1),(.int .u8 zN.fRegs.a2),(.int .u8 zN.fRegs.a3),(.int .u8 z1f.fOp),(.int .i64 z1f.fA),(.int .i64 z1f.fB),(.int .i64 z1f.fC),(.slice z4G z1w.length z4s),(.int .u8 zaw),(.int .i64 zax),(.int .i64 zay),(.slice z7H z3Y.length z7I)],row (.slice z4G z1w.length z4s) 5 1 (z1w.flatMap e5),row (.slice z7H z3Y.length z7I) 5 1 (z3Y.flatMap e5)]) w₀ Z)
  (hown : Hp (fps [stb z7G 65 [(.int .i64 zN.fPc),(.int .i64 zN.fLeft),(.int .u8 zN.fRegs.a0),(.int .u8 zN.fRegs.a1),(.int .u8 zN.fRegs.a2),(.int .u8 zN.fRegs.a3),(.int .u8 z1f.fOp),(.int .i64 z1f.fA),(.int .i64 z1f.fB),(.int .i64 z1f.fC),(.slice z4G z1w.length z4s),(.int .u8 zaw),(.int .i64 zax),(.int .i64 zay),(.slice z7H z3Y.length z7I)],row (.slice z4G z1w.length z4s) 5 1 (z1w.flatMap e5),row (.slice z7H z3Y.length z7I) 5 1 (z3Y.flatMap e5)]) w₀ w₀ [stb z7G 65 [(.int .i64 zN.fPc),(.int .i64 zN.fLeft),(.int .u8 zN.fRegs.a0),(.int .u8 zN.fRegs.a1),(.int .u8 zN.fRegs.a2),(.int .u8 zN.fRegs.a3),(.int .u8 z1f.fOp),(.int .i64 z1f.fA),(.int .i64 z1f.fB),(.int .i64 z1f.fC),(.slice z4G z1w.length z4s),(.int .u8 zaw),(.int .i64 zax),(.int .i64 zay),(.slice z7H z3Y.length z7I)],row (.slice z4G z1w.length z4s) 5 1 (z1w.flatMap e5),row (.slice z7H z3Y.length z7I) 5 1 (z3Y.flatMap e5)]) :
  Calls Tryd.prog 87 #[(.pointer (some ⟨z7G,0,none⟩))] w₀ fun e w'=>∃ zkt : Option Addr,∃ zku : Nat,e = .returned (.tuple #[]) ∧ True ∧ Hp (fps [stb z7G 65 [(.int .i64 zN.fPc),(.int .i64 zN.fLeft),(.int .u8 zN.fRegs.a0),(.int .u8 zN.fRegs.a1),(.int .u8 zN.fRegs.a2),(.int .u8 zN.fRegs.a3),(.int .u8 z1f.fOp),(.int .i64 z1f.fA),(.int .i64 z1f.fB),(.int .i64 z1f.fC),(.slice z4G z1w.length z4s),(.int .u8 zaw),(.int .i64 zax),(.int .i64 zay),(.slice z7H z3Y.length z7I)],row (.slice z4G z1w.length z4s) 5 1 (z1w.flatMap e5),row (.slice z7H z3Y.length z7I) 5 1 (z3Y.flatMap e5)]) w₀ w' [stb z7G 65 [(.int .i64 zN.fPc),(.int .i64 zN.fLeft),(.int .u8 r.1),(.int .u8 r.2.1),(.int .u8 r.2.2.1),(.int .u8 r.2.2.2.1),(.int .u8 z1f.fOp),(.int .i64 z1f.fA),(.int .i64 z1f.fB),(.int .i64 z1f.fC),(.slice z4G z1w.length z4s),(.int .u8 r.2.2.2.2.1),(.int .i64 r.2.2.2.2.2.1),(.int .i64 r.2.2.2.2.2.2.1),(.slice zkt r.2.2.2.2.2.2.2.length zku)],row (.slice z4G z1w.length z4s) 5 1 (z1w.flatMap e5),row (.slice zkt r.2.2.2.2.2.2.2.length zku) 5 1 (r.2.2.2.2.2.2.2.flatMap e5)]:=by
 unfold y1P at h
 refine Calls.y8 (vs:=[(.pointer (some ⟨z7G,0,none⟩))]) (pre:=[stb z7G 65 [(.int .i64 zN.fPc),(.int .i64 zN.fLeft),(.int .u8 zN.fRegs.a0),(.int .u8 zN.fRegs.a1),(.int .u8 zN.fRegs.a2),(.int .u8 zN.fRegs.a3),(.int .u8 z1f.fOp),(.int .i64 z1f.fA),(.int .i64 z1f.fB),(.int .i64 z1f.fC),(.slice z4G z1w.length z4s),(.int .u8 zaw),(.int .i64 zax),(.int .i64 zay),(.slice z7H z3Y.length z7I)],row (.slice z4G z1w.length z4s) 5 1 (z1w.flatMap e5),row (.slice z7H z3Y.length z7I) 5 1 (z3Y.flatMap e5)]) (env:=[(0,(.pointer (some ⟨z7G,0,none⟩)))]) Tryd.func87 rfl Tryd.ntmps87 rfl (hown) rfl ?_
 refine WC.b ?_
 obtain ⟨z29,zuc,h⟩:=zb h
 refine WC.a (WL.pu rfl ?_)
 refine WL.y1y (dd:=6) rfl rfl rfl (zk (l:=[.tmp 5]) Tryd.call109 (.cons rfl .nil)) (.cons .here (.cons .here (.cons .here .nil))) (cc hz (.cons .here (.cons .here (.cons .here .nil))) fun w pz ho=>y3j _ _ _ _ _ _ _ _ _ _ _ _ _ _ zuc w pz  ho) ?_
 rintro zgF zgG _
 refine WL.pu rfl (WL.pu rfl (WL.pu rfl (WL.pu rfl (WL.pu rfl (WL.nil (WX.a (WC.b (WC.a (WL.pu rfl (WL.nil (WX.a ?_)))))))))))
 refine WC.cond rfl (fun zgH=>?_) (fun zgH=>?_)
 ·replace h:=ym h zgH
  obtain ⟨zub,zud,h⟩:=zb h
  obtain ⟨ze0,h⟩:=ya h
  obtain ⟨zue,h⟩:=ya h
  refine WC.y11 (fun i=>[6,15].contains i) [stbp z7G 65 [(10,(.slice z4G z1w.length z4s))],row (.slice z4G z1w.length z4s) 5 1 (z1w.flatMap e5)] rfl ?_
  refine WD.a (i:=0) (d:=10) (by kernel_rfl) rfl z2 z6 rfl rfl rfl (fun _=>q_m rfl) ?_
  refine WD.a (i:=1) (d:=11) (by kernel_rfl) rfl z2 z6 rfl rfl rfl (fun _=>q_m rfl) ?_
  refine WD.a (i:=2) (d:=12) (by kernel_rfl) rfl z2 z6 rfl rfl rfl (fun _=>y6 rfl) ?_
  refine WD.a (i:=3) (d:=13) (by kernel_rfl) rfl z2 z6 rfl rfl rfl (fun _=>y4 yl rfl rfl) ?_
  refine WD.a (i:=4) (d:=14) (by kernel_rfl) rfl z2 z6 rfl rfl rfl (fun _=>y4 yR rfl rfl) ?_
  refine WD.e (i:=5) (d:=15) (by kernel_rfl) rfl z2 z6 rfl rfl rfl (y5 yd rfl (yb .here rfl)) ?_
  refine WD.a (i:=7) (d:=17) (by kernel_rfl) rfl z2 z6 rfl rfl rfl (fun _=>q_m rfl) ?_
  refine WD.a (i:=8) (d:=18) (by kernel_rfl) rfl z2 z6 rfl rfl rfl (fun _=>y6 rfl) ?_
  refine WD.a (i:=9) (d:=19) (by kernel_rfl) rfl z2 z6 rfl rfl rfl (fun _=>y4 y62 rfl rfl) ?_
  refine WD.y1k (i:=10) (d:=20) (by kernel_rfl) rfl z2 z6 rfl rfl rfl (Sin.wk (.cons .here (.cons .here .nil)) (.stb (.cons rfl .nil) (.same .nil))) (y5 y44 rfl (y5Y .here (.head _))) ?_
  refine WD.a (i:=11) (d:=21) (by kernel_rfl) rfl z2 z6 rfl rfl rfl (fun _=>q_m rfl) ?_
  refine WD.know (fun w hw=>Hp.y3T .h1 hw (by intro hz'; have:=ze0; rw [hz'] at this; omega)) ?_
  rintro ⟨zuf,rfl⟩
  refine WD.a (i:=12) (d:=22) (by kernel_rfl) rfl z2 z6 rfl rfl rfl (fun _=>yT y1F rfl rfl ze0.1 ze0.2 y39) ?_
  refine WD.y1k (i:=13) (d:=23) (by kernel_rfl) rfl z2 z6 rfl rfl rfl (Sin.wk (.cons .here (.cons .here .nil)) (.stb (.cons rfl .nil) (.same .nil))) (y5 yC rfl (y3n .h1 ((y31 (enc:=e5) (l:=z1w) (i:=z29.1) (sz:=1) (fun _=>rfl) ze0.1 ze0.2) 0 _ rfl))) ?_
  refine WD.call0 (i:=6) (dd:=16) rfl (by kernel_rfl) rfl rfl rfl (.inl ⟨rfl,(Sin.wk (.cons .h2 (.cons .here .nil)) (.stb (.cons rfl .nil) (.same .nil)))⟩) (zk (l:=[.tmp 10,.tmp 15]) Tryd.call108 (.cons rfl (.cons rfl .nil))) (.cons .h1 (.cons .h1 .nil)) (ccl hz (.cons .h1 (.cons .h1 .nil)) (.cons .here .nil) fun w pz ho la=>Calls.mono (yq _ _ _ _ _ _ _ _ _ _ _ _ _ _ _ zud w pz ((la _ (.head _) _).stb) ho) (fun _ _ h'=>⟨h'.1,trivial,h'.2⟩)) ?_
  intro _
  refine WD.a (i:=14) (d:=24) (by kernel_rfl) rfl z2 z6 rfl rfl rfl (fun _=>y6 rfl) ?_
  refine WD.y1J (i:=15) rfl (by kernel_rfl) rfl rfl rfl (by kernel_rfl) (y1M (l:=([zN.fRegs.a0,zN.fRegs.a1,zN.fRegs.a2,zN.fRegs.a3] : List Int)) (f:=Value.int .u8) (u:=(nth z1w z29.1)) (k:=2) (m:=6) (j:=4) (ds:=[(.int .i64 zN.fPc),(.int .i64 zN.fLeft),(.int .u8 (nth (([zN.fRegs.a0,zN.fRegs.a1,zN.fRegs.a2,zN.fRegs.a3] : List Int).set (z1f.fA : Int).toNat (nth z1w z29.1)) 0)),(.int .u8 (nth (([zN.fRegs.a0,zN.fRegs.a1,zN.fRegs.a2,zN.fRegs.a3] : List Int).set (z1f.fA : Int).toNat (nth z1w z29.1)) 1)),(.int .u8 (nth (([zN.fRegs.a0,zN.fRegs.a1,zN.fRegs.a2,zN.fRegs.a3] : List Int).set (z1f.fA : Int).toNat (nth z1w z29.1)) 2)),(.int .u8 (nth (([zN.fRegs.a0,zN.fRegs.a1,zN.fRegs.a2,zN.fRegs.a3] : List Int).set (z1f.fA : Int).toNat (nth z1w z29.1)) 3)),(.int .u8 z1f.fOp),(.int .i64 z1f.fA),(.int .i64 z1f.fB),(.int .i64 z1f.fC),(.slice (some ⟨zuf,0,none⟩) z1w.length z4s),(.int .u8 z29.2.2.1),(.int .i64 z29.2.2.2.1),(.int .i64 z29.2.2.2.2.1),(.slice zgF z29.2.2.2.2.2.length zgG)]) y30 rfl rfl rfl rfl .h2 rfl rfl zue rfl rfl) ?_
  refine WD.done (by kernel_rfl) ?_
  obtain rfl:=Option.some.inj h
  refine WX.y9 Tryd.results87 .nil (fun w hw=>?_)
  exact ⟨zgF,zgG,yB,trivial,hw.sub (.cons .here (.cons .here (.cons .here .nil)))⟩
 ·replace h:=yn h zgH
  refine WC.skip ?_
  obtain rfl:=Option.some.inj h
  refine WX.y9 Tryd.results87 .nil (fun w hw=>?_)
  exact ⟨zgF,zgG,yB,trivial,hw.sub (.cons .here (.cons .here (.cons .here .nil)))⟩
def y1z (zV : Sproc_State) (z1u : Sapi_Ins) (z2T : List Int) (zaz : Int) (zaA : Int) (zaB : Int) (z3Z : List Int) : Option (Int × Int × Int × List Int) :=
 (y17 zV z1u z2T zaz zaA zaB z3Z).bind fun z4Z=>if z4Z.2.1 then (yj zV z1u z2T z4Z.2.2.1 z4Z.2.2.2.1 z4Z.2.2.2.2.1 z4Z.2.2.2.2.2 z1u.fA).bind fun zug=>chk ((0 : Int) ≤ z1u.fA ∧ z1u.fA < 4) (some (1,z4Z.1,(i64 (nth ([zV.fRegs.a0,zV.fRegs.a1,zV.fRegs.a2,zV.fRegs.a3] : List Int) z1u.fA)),([] : List Int))) else some (z4Z.2.2.1,z4Z.2.2.2.1,z4Z.2.2.2.2.1,z4Z.2.2.2.2.2)
set_option maxRecDepth 20000 in
theorem y4l (Z : Zp) (z8Y : Nat) (z50 : Option Addr) (z52 : Nat) (z7J : Option Addr) (z7K : Nat) (zV : Sproc_State) (z1u : Sapi_Ins) (z2T : List Int) (zaz : Int) (zaA : Int) (zaB : Int) (z3Z : List Int) (r : Int × Int × Int × List Int)
  (h : y1z zV z1u z2T zaz zaA zaB z3Z = some r) (w₀ : World) (hz : PZ (fps [stb z8Y 65 [(.int .i64 zV.fPc),(.int .i64 zV.fLeft),(.int .u8 zV.fRegs.a0),(.int .u8 zV.fRegs.a1),(.int .u8 zV.fRegs.a2),(.int .u8 zV.fRegs.a3),(.int .u8 z1u.fOp),(.int .i64 z1u.fA),(.int .i64 z1u.fB),(.int .i64 z1u.fC),(.slice z50 z2T.length z52),(.int .u8 zaz),(.int .i64 zaA),(.int .i64 zaB),(.slice z7J z3Z.length z7K)],row (.slice z50 z2T.length z52) 5 1 (z2T.flatMap e5),row (.slice z7J z3Z.length z7K) 5 1 (z3Z.flatMap e5)]) w₀ Z)
  (hown : Hp (fps [stb z8Y 65 [(.int .i64 zV.fPc),(.int .i64 zV.fLeft),(.int .u8 zV.fRegs.a0),(.int .u8 zV.fRegs.a1),(.int .u8 zV.fRegs.a2),(.int .u8 zV.fRegs.a3),(.int .u8 z1u.fOp),(.int .i64 z1u.fA),(.int .i64 z1u.fB),(.int .i64 z1u.fC),(.slice z50 z2T.length z52),(.int .u8 zaz),(.int .i64 zaA),(.int .i64 zaB),(.slice z7J z3Z.length z7K)],row (.slice z50 z2T.length z52) 5 1 (z2T.flatMap e5),row (.slice z7J z3Z.length z7K) 5 1 (z3Z.flatMap e5)]) w₀ w₀ [stb z8Y 65 [(.int .i64 zV.fPc),(.int .i64 zV.fLeft),(.int .u8 zV.fRegs.a0),(.int .u8 zV.fRegs.a1),(.int .u8 zV.fRegs.a2),(.int .u8 zV.fRegs.a3),(.int .u8 z1u.fOp),(.int .i64 z1u.fA),(.int .i64 z1u.fB),(.int .i64 z1u.fC),(.slice z50 z2T.length z52),(.int .u8 zaz),(.int .i64 zaA),(.int .i64 zaB),(.slice z7J z3Z.length z7K)],row (.slice z50 z2T.length z52) 5 1 (z2T.flatMap e5),row (.slice z7J z3Z.length z7K) 5 1 (z3Z.flatMap e5)]) :
  Calls Tryd.prog 88 #[(.pointer (some ⟨z8Y,0,none⟩))] w₀ fun e w'=>∃ zkv : Option Addr,∃ zkw : Nat,e = .returned (.tuple #[]) ∧ True ∧ Hp (fps [stb z8Y 65 [(.int .i64 zV.fPc),(.int .i64 zV.fLeft),(.int .u8 zV.fRegs.a0),(.int .u8 zV.fRegs.a1),(.int .u8 zV.fRegs.a2),(.int .u8 zV.fRegs.a3),(.int .u8 z1u.fOp),(.int .i64 z1u.fA),(.int .i64 z1u.fB),(.int .i64 z1u.fC),(.slice z50 z2T.length z52),(.int .u8 zaz),(.int .i64 zaA),(.int .i64 zaB),(.slice z7J z3Z.length z7K)],row (.slice z50 z2T.length z52) 5 1 (z2T.flatMap e5),row (.slice z7J z3Z.length z7K) 5 1 (z3Z.flatMap e5)]) w₀ w' [stb z8Y 65 [(.int .i64 zV.fPc),(.int .i64 zV.fLeft),(.int .u8 zV.fRegs.a0),(.int .u8 zV.fRegs.a1),(.int .u8 zV.fRegs.a2),(.int .u8 zV.fRegs.a3),(.int .u8 z1u.fOp),(.int .i64 z1u.fA),(.int .i64 z1u.fB),(.int .i64 z1u.fC),(.slice z50 z2T.length z52),(.int .u8 r.1),(.int .i64 r.2.1),(.int .i64 r.2.2.1),(.slice zkv r.2.2.2.length zkw)],row (.slice z50 z2T.length z52) 5 1 (z2T.flatMap e5),row (.slice zkv r.2.2.2.length zkw) 5 1 (r.2.2.2.flatMap e5)]:=by
 unfold y1z at h
 refine Calls.y8 (vs:=[(.pointer (some ⟨z8Y,0,none⟩))]) (pre:=[stb z8Y 65 [(.int .i64 zV.fPc),(.int .i64 zV.fLeft),(.int .u8 zV.fRegs.a0),(.int .u8 zV.fRegs.a1),(.int .u8 zV.fRegs.a2),(.int .u8 zV.fRegs.a3),(.int .u8 z1u.fOp),(.int .i64 z1u.fA),(.int .i64 z1u.fB),(.int .i64 z1u.fC),(.slice z50 z2T.length z52),(.int .u8 zaz),(.int .i64 zaA),(.int .i64 zaB),(.slice z7J z3Z.length z7K)],row (.slice z50 z2T.length z52) 5 1 (z2T.flatMap e5),row (.slice z7J z3Z.length z7K) 5 1 (z3Z.flatMap e5)]) (env:=[(0,(.pointer (some ⟨z8Y,0,none⟩)))]) Tryd.func88 rfl Tryd.ntmps88 rfl (hown) rfl ?_
 refine WC.b ?_
 obtain ⟨z4Z,zuh,h⟩:=zb h
 refine WC.a (WL.pu rfl ?_)
 refine WL.y1y (dd:=6) rfl rfl rfl (zk (l:=[.tmp 5]) Tryd.call109 (.cons rfl .nil)) (.cons .here (.cons .here (.cons .here .nil))) (cc hz (.cons .here (.cons .here (.cons .here .nil))) fun w pz ho=>y3j _ _ _ _ _ _ _ _ _ _ _ _ _ _ zuh w pz  ho) ?_
 rintro zui zuj _
 refine WL.pu rfl (WL.pu rfl (WL.pu rfl (WL.pu rfl (WL.pu rfl (WL.nil (WX.a (WC.b (WC.a (WL.pu rfl (WL.nil (WX.a ?_)))))))))))
 refine WC.cond rfl (fun zgI=>?_) (fun zgI=>?_)
 ·replace h:=ym h zgI
  obtain ⟨zug,zuk,h⟩:=zb h
  obtain ⟨zul,h⟩:=ya h
  refine WC.a (WL.pu rfl (WL.pu rfl (WL.pu rfl (WL.pu rfl ?_))))
  refine WL.a (d:=14) rfl rfl rfl (y6 rfl) ?_
  refine WL.a (d:=15) rfl rfl rfl (y4 yl rfl rfl) ?_
  refine WL.a (d:=16) rfl rfl rfl (y4 yR rfl rfl) ?_
  refine WL.a (d:=17) rfl rfl rfl (y5 yd rfl (yb .here rfl)) ?_
  refine WL.b (dd:=18) rfl rfl rfl (zk (l:=[.tmp 12,.tmp 17]) Tryd.call108 (.cons rfl (.cons rfl .nil))) (.cons .h1 (.cons .h1 .nil)) (ccl hz (.cons .h1 (.cons .h1 .nil)) (.cons .here .nil) fun w pz ho la=>yq _ _ _ _ _ _ _ _ _ _ _ _ _ _ _ zuk w pz ((la _ (.head _) _).stb) ho) ?_
  refine WL.a (d:=19) rfl rfl rfl (y6 rfl) ?_
  refine WL.a (d:=20) rfl rfl rfl (y5 yC rfl (yY (l:=([zV.fRegs.a0,zV.fRegs.a1,zV.fRegs.a2,zV.fRegs.a3] : List Int)) (f:=Value.int .u8) (k:=2) (m:=6) .h2 rfl rfl zul)) ?_
  refine WL.a (d:=21) rfl rfl rfl (y2Z Tryd.underlying5 Tryd.underlying3 rfl rfl) ?_
  refine WL.a (d:=22) rfl rfl rfl (yP (v:=(.agg #[(.int .u8 1),(.int .i64 z4Z.1),(.int .i64 (i64 (nth ([zV.fRegs.a0,zV.fRegs.a1,zV.fRegs.a2,zV.fRegs.a3] : List Int) z1u.fA))),(.slice none 0 0)])) (Eos.parts (l:=[.const (.int .u8 1),.tmp 11,.tmp 21]) (.cons rfl (.cons rfl (.cons rfl .nil))) [0,1,2]) (fun _=>by kernel_rfl)) ?_
  refine WL.a (d:=23) rfl rfl rfl (y6 rfl) ?_
  refine WL.a (d:=24) rfl rfl rfl (y4 y2f rfl rfl) ?_
  refine WL.yf rfl rfl (yK (ds:=[(.int .i64 zV.fPc),(.int .i64 zV.fLeft),(.int .u8 zV.fRegs.a0),(.int .u8 zV.fRegs.a1),(.int .u8 zV.fRegs.a2),(.int .u8 zV.fRegs.a3),(.int .u8 z1u.fOp),(.int .i64 z1u.fA),(.int .i64 z1u.fB),(.int .i64 z1u.fC),(.slice z50 z2T.length z52),(.int .u8 1),(.int .i64 z4Z.1),(.int .i64 (i64 (nth ([zV.fRegs.a0,zV.fRegs.a1,zV.fRegs.a2,zV.fRegs.a3] : List Int) z1u.fA))),(.slice none 0 0)]) yV rfl rfl rfl rfl rfl .h2 rfl rfl) ?_
  refine WL.nil ?_
  refine WX.nilRow 5 1 ?_
  obtain rfl:=Option.some.inj h
  refine WX.y9 Tryd.results88 .nil (fun w hw=>?_)
  exact ⟨none,0,yB,trivial,hw.sub (.cons .h1 (.cons .h1 (.cons .here .nil)))⟩
 ·replace h:=yn h zgI
  refine WC.skip ?_
  obtain rfl:=Option.some.inj h
  refine WX.y9 Tryd.results88 .nil (fun w hw=>?_)
  exact ⟨zui,zuj,yB,trivial,hw.sub (.cons .here (.cons .here (.cons .here .nil)))⟩
def yg (z1b : Sproc_State) (z1E : Sapi_Ins) (z39 : List Int) (zbO : Int) (zbP : Int) (zbQ : Int) (z3R : List Int) (zaC : Int) (z3A : List Int) : Option (Int × Int) :=
 some (zaC,z1E.fA)
set_option maxRecDepth 20000 in
theorem y2j (Z : Zp) (z8Z : Nat) (z54 : Option Addr) (z55 : Nat) (z6M : Option Addr) (z6N : Nat) (z5O : Option Addr) (z5P : Nat) (z1b : Sproc_State) (z1E : Sapi_Ins) (z39 : List Int) (zbO : Int) (zbP : Int) (zbQ : Int) (z3R : List Int) (zaC : Int) (z3A : List Int) (r : Int × Int)
  (h : yg z1b z1E z39 zbO zbP zbQ z3R zaC z3A = some r) (w₀ : World) (hz : PZ (fps [stb z8Z 65 [(.int .i64 z1b.fPc),(.int .i64 z1b.fLeft),(.int .u8 z1b.fRegs.a0),(.int .u8 z1b.fRegs.a1),(.int .u8 z1b.fRegs.a2),(.int .u8 z1b.fRegs.a3),(.int .u8 z1E.fOp),(.int .i64 z1E.fA),(.int .i64 z1E.fB),(.int .i64 z1E.fC),(.slice z54 z39.length z55),(.int .u8 zbO),(.int .i64 zbP),(.int .i64 zbQ),(.slice z6M z3R.length z6N)],row (.slice z54 z39.length z55) 5 1 (z39.flatMap e5),row (.slice z6M z3R.length z6N) 5 1 (z3R.flatMap e5),row (.slice z5O z3A.length z5P) 5 1 (z3A.flatMap e5)]) w₀ Z)
  (hown : Hp (fps [stb z8Z 65 [(.int .i64 z1b.fPc),(.int .i64 z1b.fLeft),(.int .u8 z1b.fRegs.a0),(.int .u8 z1b.fRegs.a1),(.int .u8 z1b.fRegs.a2),(.int .u8 z1b.fRegs.a3),(.int .u8 z1E.fOp),(.int .i64 z1E.fA),(.int .i64 z1E.fB),(.int .i64 z1E.fC),(.slice z54 z39.length z55),(.int .u8 zbO),(.int .i64 zbP),(.int .i64 zbQ),(.slice z6M z3R.length z6N)],row (.slice z54 z39.length z55) 5 1 (z39.flatMap e5),row (.slice z6M z3R.length z6N) 5 1 (z3R.flatMap e5),row (.slice z5O z3A.length z5P) 5 1 (z3A.flatMap e5)]) w₀ w₀ [stb z8Z 65 [(.int .i64 z1b.fPc),(.int .i64 z1b.fLeft),(.int .u8 z1b.fRegs.a0),(.int .u8 z1b.fRegs.a1),(.int .u8 z1b.fRegs.a2),(.int .u8 z1b.fRegs.a3),(.int .u8 z1E.fOp),(.int .i64 z1E.fA),(.int .i64 z1E.fB),(.int .i64 z1E.fC),(.slice z54 z39.length z55),(.int .u8 zbO),(.int .i64 zbP),(.int .i64 zbQ),(.slice z6M z3R.length z6N)],row (.slice z54 z39.length z55) 5 1 (z39.flatMap e5),row (.slice z6M z3R.length z6N) 5 1 (z3R.flatMap e5),row (.slice z5O z3A.length z5P) 5 1 (z3A.flatMap e5)]) :
  Calls Tryd.prog 110 #[(.pointer (some ⟨z8Z,0,none⟩)),(.int .u8 zaC),(.slice z5O z3A.length z5P)] w₀ fun e w'=>e = .returned (.tuple #[]) ∧ Hp (fps [stb z8Z 65 [(.int .i64 z1b.fPc),(.int .i64 z1b.fLeft),(.int .u8 z1b.fRegs.a0),(.int .u8 z1b.fRegs.a1),(.int .u8 z1b.fRegs.a2),(.int .u8 z1b.fRegs.a3),(.int .u8 z1E.fOp),(.int .i64 z1E.fA),(.int .i64 z1E.fB),(.int .i64 z1E.fC),(.slice z54 z39.length z55),(.int .u8 zbO),(.int .i64 zbP),(.int .i64 zbQ),(.slice z6M z3R.length z6N)],row (.slice z54 z39.length z55) 5 1 (z39.flatMap e5),row (.slice z6M z3R.length z6N) 5 1 (z3R.flatMap e5),row (.slice z5O z3A.length z5P) 5 1 (z3A.flatMap e5)]) w₀ w' [stb z8Z 65 [(.int .i64 z1b.fPc),(.int .i64 z1b.fLeft),(.int .u8 z1b.fRegs.a0),(.int .u8 z1b.fRegs.a1),(.int .u8 z1b.fRegs.a2),(.int .u8 z1b.fRegs.a3),(.int .u8 z1E.fOp),(.int .i64 z1E.fA),(.int .i64 z1E.fB),(.int .i64 z1E.fC),(.slice z54 z39.length z55),(.int .u8 r.1),(.int .i64 r.2),(.int .i64 0),(.slice z5O z3A.length z5P)],row (.slice z54 z39.length z55) 5 1 (z39.flatMap e5),row (.slice z5O z3A.length z5P) 5 1 (z3A.flatMap e5),row (.slice z6M z3R.length z6N) 5 1 (z3R.flatMap e5)]:=by
 unfold yg at h
 refine Calls.y8 (vs:=[(.pointer (some ⟨z8Z,0,none⟩)),(.int .u8 zaC),(.slice z5O z3A.length z5P)]) (pre:=[stb z8Z 65 [(.int .i64 z1b.fPc),(.int .i64 z1b.fLeft),(.int .u8 z1b.fRegs.a0),(.int .u8 z1b.fRegs.a1),(.int .u8 z1b.fRegs.a2),(.int .u8 z1b.fRegs.a3),(.int .u8 z1E.fOp),(.int .i64 z1E.fA),(.int .i64 z1E.fB),(.int .i64 z1E.fC),(.slice z54 z39.length z55),(.int .u8 zbO),(.int .i64 zbP),(.int .i64 zbQ),(.slice z6M z3R.length z6N)],row (.slice z54 z39.length z55) 5 1 (z39.flatMap e5),row (.slice z6M z3R.length z6N) 5 1 (z3R.flatMap e5),row (.slice z5O z3A.length z5P) 5 1 (z3A.flatMap e5)]) (env:=[(0,(.pointer (some ⟨z8Z,0,none⟩))),(1,(.int .u8 zaC)),(2,(.slice z5O z3A.length z5P))]) Tryd.func110 rfl Tryd.ntmps110 rfl (hown) rfl ?_
 refine WC.a (WL.pu rfl (WL.pu rfl (WL.pu rfl ?_)))
 refine WL.a (d:=9) rfl rfl rfl (y6 rfl) ?_
 refine WL.a (d:=10) rfl rfl rfl (y4 yl rfl rfl) ?_
 refine WL.a (d:=11) rfl rfl rfl (y4 yR rfl rfl) ?_
 refine WL.a (d:=12) rfl rfl rfl (y5 yd rfl (yb .here rfl)) ?_
 refine WL.pu rfl ?_
 refine WL.a (d:=14) rfl rfl rfl (yP (v:=(.agg #[(.int .u8 zaC),(.int .i64 z1E.fA),(.int .i64 0),(.slice z5O z3A.length z5P)])) (Eos.parts (l:=[.tmp 7,.tmp 12,.tmp 13]) (.cons rfl (.cons rfl (.cons rfl .nil))) [0,1,3]) (fun _=>by kernel_rfl)) ?_
 refine WL.a (d:=15) rfl rfl rfl (y6 rfl) ?_
 refine WL.a (d:=16) rfl rfl rfl (y4 y2f rfl rfl) ?_
 refine WL.yf rfl rfl (yK (ds:=[(.int .i64 z1b.fPc),(.int .i64 z1b.fLeft),(.int .u8 z1b.fRegs.a0),(.int .u8 z1b.fRegs.a1),(.int .u8 z1b.fRegs.a2),(.int .u8 z1b.fRegs.a3),(.int .u8 z1E.fOp),(.int .i64 z1E.fA),(.int .i64 z1E.fB),(.int .i64 z1E.fC),(.slice z54 z39.length z55),(.int .u8 zaC),(.int .i64 z1E.fA),(.int .i64 0),(.slice z5O z3A.length z5P)]) yV rfl rfl rfl rfl rfl .here rfl rfl) ?_
 refine WL.nil ?_
 obtain rfl:=Option.some.inj h
 refine WX.y9 Tryd.results110 .nil (fun w hw=>?_)
 exact ⟨yB,hw.sub (.cons .here (.cons .here (.cons .h1 (.cons .here .nil))))⟩
def y1Q (z15 : Sproc_State) (z1C : Sapi_Ins) (z30 : List Int) (z90 : Int) (z91 : Int) (z92 : Int) (z3a : List Int) : Option (Int × Int × List Int) :=
 (yj z15 z1C z30 z90 z91 z92 z3a z1C.fB).bind fun zum=>chk ((0 : Int) ≤ z1C.fB ∧ z1C.fB < 4) ((y2C (nth ([z15.fRegs.a0,z15.fRegs.a1,z15.fRegs.a2,z15.fRegs.a3] : List Int) z1C.fB) z1C.fC).bind fun zgJ=>(yg z15 z1C z30 z90 z91 z92 z3a 2 zgJ).bind fun zgK=>some (zgK.1,zgK.2,zgJ))
set_option maxRecDepth 20000 in
theorem y4E (Z : Zp) (z7L : Nat) (z5Q : Option Addr) (z5R : Nat) (z6O : Option Addr) (z6P : Nat) (z15 : Sproc_State) (z1C : Sapi_Ins) (z30 : List Int) (z90 : Int) (z91 : Int) (z92 : Int) (z3a : List Int) (r : Int × Int × List Int)
  (h : y1Q z15 z1C z30 z90 z91 z92 z3a = some r) (w₀ : World) (hz : PZ (fps [stb z7L 65 [(.int .i64 z15.fPc),(.int .i64 z15.fLeft),(.int .u8 z15.fRegs.a0),(.int .u8 z15.fRegs.a1),(.int .u8 z15.fRegs.a2),(.int .u8 z15.fRegs.a3),(.int .u8 z1C.fOp),(.int .i64 z1C.fA),(.int .i64 z1C.fB),(.int .i64 z1C.fC),(.slice z5Q z30.length z5R),(.int .u8 z90),(.int .i64 z91),(.int .i64 z92),(.slice z6O z3a.length z6P)],row (.slice z5Q z30.length z5R) 5 1 (z30.flatMap e5),row (.slice z6O z3a.length z6P) 5 1 (z3a.flatMap e5)]) w₀ Z)
  (hown : Hp (fps [stb z7L 65 [(.int .i64 z15.fPc),(.int .i64 z15.fLeft),(.int .u8 z15.fRegs.a0),(.int .u8 z15.fRegs.a1),(.int .u8 z15.fRegs.a2),(.int .u8 z15.fRegs.a3),(.int .u8 z1C.fOp),(.int .i64 z1C.fA),(.int .i64 z1C.fB),(.int .i64 z1C.fC),(.slice z5Q z30.length z5R),(.int .u8 z90),(.int .i64 z91),(.int .i64 z92),(.slice z6O z3a.length z6P)],row (.slice z5Q z30.length z5R) 5 1 (z30.flatMap e5),row (.slice z6O z3a.length z6P) 5 1 (z3a.flatMap e5)]) w₀ w₀ [stb z7L 65 [(.int .i64 z15.fPc),(.int .i64 z15.fLeft),(.int .u8 z15.fRegs.a0),(.int .u8 z15.fRegs.a1),(.int .u8 z15.fRegs.a2),(.int .u8 z15.fRegs.a3),(.int .u8 z1C.fOp),(.int .i64 z1C.fA),(.int .i64 z1C.fB),(.int .i64 z1C.fC),(.slice z5Q z30.length z5R),(.int .u8 z90),(.int .i64 z91),(.int .i64 z92),(.slice z6O z3a.length z6P)],row (.slice z5Q z30.length z5R) 5 1 (z30.flatMap e5),row (.slice z6O z3a.length z6P) 5 1 (z3a.flatMap e5)]) :
  Calls Tryd.prog 89 #[(.pointer (some ⟨z7L,0,none⟩))] w₀ fun e w'=>∃ zkx : Option Addr,∃ zky : Nat,e = .returned (.tuple #[]) ∧ True ∧ Hp (fps [stb z7L 65 [(.int .i64 z15.fPc),(.int .i64 z15.fLeft),(.int .u8 z15.fRegs.a0),(.int .u8 z15.fRegs.a1),(.int .u8 z15.fRegs.a2),(.int .u8 z15.fRegs.a3),(.int .u8 z1C.fOp),(.int .i64 z1C.fA),(.int .i64 z1C.fB),(.int .i64 z1C.fC),(.slice z5Q z30.length z5R),(.int .u8 z90),(.int .i64 z91),(.int .i64 z92),(.slice z6O z3a.length z6P)],row (.slice z5Q z30.length z5R) 5 1 (z30.flatMap e5),row (.slice z6O z3a.length z6P) 5 1 (z3a.flatMap e5)]) w₀ w' [stb z7L 65 [(.int .i64 z15.fPc),(.int .i64 z15.fLeft),(.int .u8 z15.fRegs.a0),(.int .u8 z15.fRegs.a1),(.int .u8 z15.fRegs.a2),(.int .u8 z15.fRegs.a3),(.int .u8 z1C.fOp),(.int .i64 z1C.fA),(.int .i64 z1C.fB),(.int .i64 z1C.fC),(.slice z5Q z30.length z5R),(.int .u8 r.1),(.int .i64 r.2.1),(.int .i64 0),(.slice zkx r.2.2.length zky)],row (.slice z5Q z30.length z5R) 5 1 (z30.flatMap e5),row (.slice zkx r.2.2.length zky) 5 1 (r.2.2.flatMap e5),row (.slice z6O z3a.length z6P) 5 1 (z3a.flatMap e5)]:=by
 unfold y1Q at h
 refine Calls.y8 (vs:=[(.pointer (some ⟨z7L,0,none⟩))]) (pre:=[stb z7L 65 [(.int .i64 z15.fPc),(.int .i64 z15.fLeft),(.int .u8 z15.fRegs.a0),(.int .u8 z15.fRegs.a1),(.int .u8 z15.fRegs.a2),(.int .u8 z15.fRegs.a3),(.int .u8 z1C.fOp),(.int .i64 z1C.fA),(.int .i64 z1C.fB),(.int .i64 z1C.fC),(.slice z5Q z30.length z5R),(.int .u8 z90),(.int .i64 z91),(.int .i64 z92),(.slice z6O z3a.length z6P)],row (.slice z5Q z30.length z5R) 5 1 (z30.flatMap e5),row (.slice z6O z3a.length z6P) 5 1 (z3a.flatMap e5)]) (env:=[(0,(.pointer (some ⟨z7L,0,none⟩)))]) Tryd.func89 rfl Tryd.ntmps89 rfl (hown) rfl ?_
 obtain ⟨zum,zun,h⟩:=zb h
 obtain ⟨zuo,h⟩:=ya h
 obtain ⟨zgJ,zup,h⟩:=zb h
 obtain ⟨zgK,zuq,h⟩:=zb h
 refine WC.y11 (fun i=>[7,16].contains i) [stbp z7L 65 [(9,(.int .i64 z1C.fC))]] rfl ?_
 refine WD.a (i:=0) (d:=2) (by kernel_rfl) rfl z2 z6 rfl rfl rfl (fun _=>q_m rfl) ?_
 refine WD.a (i:=1) (d:=3) (by kernel_rfl) rfl z2 z6 rfl rfl rfl (fun _=>q_m rfl) ?_
 refine WD.a (i:=2) (d:=4) (by kernel_rfl) rfl z2 z6 rfl rfl rfl (fun _=>q_m rfl) ?_
 refine WD.a (i:=3) (d:=5) (by kernel_rfl) rfl z2 z6 rfl rfl rfl (fun _=>y6 rfl) ?_
 refine WD.a (i:=4) (d:=6) (by kernel_rfl) rfl z2 z6 rfl rfl rfl (fun _=>y4 yl rfl rfl) ?_
 refine WD.a (i:=5) (d:=7) (by kernel_rfl) rfl z2 z6 rfl rfl rfl (fun _=>y4 y16 rfl rfl) ?_
 refine WD.e (i:=6) (d:=8) (by kernel_rfl) rfl z2 z6 rfl rfl rfl (y5 yd rfl (yb .here rfl)) ?_
 refine WD.a (i:=10) (d:=12) (by kernel_rfl) rfl z2 z6 rfl rfl rfl (fun _=>q_m rfl) ?_
 refine WD.a (i:=11) (d:=13) (by kernel_rfl) rfl z2 z6 rfl rfl rfl (fun _=>y6 rfl) ?_
 refine WD.a (i:=12) (d:=14) (by kernel_rfl) rfl z2 z6 rfl rfl rfl (fun _=>y4 yl rfl rfl) ?_
 refine WD.a (i:=13) (d:=15) (by kernel_rfl) rfl z2 z6 rfl rfl rfl (fun _=>y4 y3v rfl rfl) ?_
 refine WD.y1k (i:=14) (d:=16) (by kernel_rfl) rfl z2 z6 rfl rfl rfl (Sin.wk (.cons .here .nil) (.stb (.cons rfl .nil) .nil)) (y5 yd rfl (y5Y .here (.head _))) ?_
 refine WD.call0 (i:=7) (dd:=9) rfl (by kernel_rfl) rfl rfl rfl (.inl ⟨rfl,(Sin.wk (.cons .h2 .nil) (.stb (.cons rfl .nil) .nil))⟩) (zk (l:=[.tmp 3,.tmp 8]) Tryd.call108 (.cons rfl (.cons rfl .nil))) (.cons .h1 (.cons .h1 .nil)) (ccl hz (.cons .h1 (.cons .h1 .nil)) (.cons .here .nil) fun w pz ho la=>Calls.mono (yq _ _ _ _ _ _ _ _ _ _ _ _ _ _ _ zun w pz ((la _ (.head _) _).stb) ho) (fun _ _ h'=>⟨h'.1,trivial,h'.2⟩)) ?_
 intro _
 refine WD.a (i:=8) (d:=10) (by kernel_rfl) rfl z2 z6 rfl rfl rfl (fun _=>y6 rfl) ?_
 refine WD.e (i:=9) (d:=11) (by kernel_rfl) rfl z2 z6 rfl rfl rfl (y5 yC rfl (yY (l:=([z15.fRegs.a0,z15.fRegs.a1,z15.fRegs.a2,z15.fRegs.a3] : List Int)) (f:=Value.int .u8) (k:=2) (m:=6) .h2 rfl rfl zuo)) ?_
 refine WD.call2 (i:=15) (dd:=17) rfl (by kernel_rfl) rfl rfl rfl (.inr rfl) (zk (l:=[.tmp 11,.tmp 16]) Tryd.call111 (.cons rfl (.cons rfl .nil))) .nil (cc hz .nil fun w pz ho=>y5T _ _ _ _ zup w pz ) ?_
 rintro zur zus _
 refine WD.call0 (i:=16) (dd:=18) rfl (by kernel_rfl) rfl rfl rfl (.inl ⟨rfl,(Sin.wk (.cons .here .nil) (.stb (.cons rfl .nil) .nil))⟩) (zk (l:=[.tmp 2,.const (.int .u8 2),.tmp 17]) Tryd.call110 (.cons rfl (.cons rfl (.cons rfl .nil)))) (.cons .h3 (.cons .h1 (.cons .h1 (.cons .here .nil)))) (cc hz (.cons .h3 (.cons .h1 (.cons .h1 (.cons .here .nil)))) fun w pz ho=>Calls.mono (y2j _ _ _ _ _ _ _ _ _ _ _ _ _ _ _ _ _ _ zuq w pz  ho) (fun _ _ h'=>⟨h'.1,trivial,h'.2⟩)) ?_
 intro _
 refine WD.done (by kernel_rfl) ?_
 obtain rfl:=Option.some.inj h
 refine WX.y9 Tryd.results89 .nil (fun w hw=>?_)
 exact ⟨zur,zus,yB,trivial,hw.sub (.cons .here (.cons .here (.cons .here (.cons .here .nil))))⟩
def yc (z1c : Sproc_State) (z1F : Sapi_Ins) (z3b : List Int) (zbR : Int) (zbS : Int) (zbT : Int) (z3S : List Int) (zaD : Int) (z93 : List Int) : Option (Int × Int) :=
 some (zaD,z1F.fA)
set_option maxRecDepth 20000 in
theorem yG (Z : Zp) (z94 : Nat) (z56 : Option Addr) (z57 : Nat) (z6Q : Option Addr) (z6R : Nat) (zbU : Option Addr) (zbV : Nat) (z1c : Sproc_State) (z1F : Sapi_Ins) (z3b : List Int) (zbR : Int) (zbS : Int) (zbT : Int) (z3S : List Int) (zaD : Int) (z93 : List Int) (r : Int × Int)
  (h : yc z1c z1F z3b zbR zbS zbT z3S zaD z93 = some r) (w₀ : World) (hz : PZ (fps [stb z94 65 [(.int .i64 z1c.fPc),(.int .i64 z1c.fLeft),(.int .u8 z1c.fRegs.a0),(.int .u8 z1c.fRegs.a1),(.int .u8 z1c.fRegs.a2),(.int .u8 z1c.fRegs.a3),(.int .u8 z1F.fOp),(.int .i64 z1F.fA),(.int .i64 z1F.fB),(.int .i64 z1F.fC),(.slice z56 z3b.length z57),(.int .u8 zbR),(.int .i64 zbS),(.int .i64 zbT),(.slice z6Q z3S.length z6R)],row (.slice z56 z3b.length z57) 5 1 (z3b.flatMap e5),row (.slice z6Q z3S.length z6R) 5 1 (z3S.flatMap e5)]) w₀ Z)
  (zxO : ZS Z 1 (fun r x=>r = e5 x) zbU zbV z93)
  (hown : Hp (fps [stb z94 65 [(.int .i64 z1c.fPc),(.int .i64 z1c.fLeft),(.int .u8 z1c.fRegs.a0),(.int .u8 z1c.fRegs.a1),(.int .u8 z1c.fRegs.a2),(.int .u8 z1c.fRegs.a3),(.int .u8 z1F.fOp),(.int .i64 z1F.fA),(.int .i64 z1F.fB),(.int .i64 z1F.fC),(.slice z56 z3b.length z57),(.int .u8 zbR),(.int .i64 zbS),(.int .i64 zbT),(.slice z6Q z3S.length z6R)],row (.slice z56 z3b.length z57) 5 1 (z3b.flatMap e5),row (.slice z6Q z3S.length z6R) 5 1 (z3S.flatMap e5)]) w₀ w₀ [stb z94 65 [(.int .i64 z1c.fPc),(.int .i64 z1c.fLeft),(.int .u8 z1c.fRegs.a0),(.int .u8 z1c.fRegs.a1),(.int .u8 z1c.fRegs.a2),(.int .u8 z1c.fRegs.a3),(.int .u8 z1F.fOp),(.int .i64 z1F.fA),(.int .i64 z1F.fB),(.int .i64 z1F.fC),(.slice z56 z3b.length z57),(.int .u8 zbR),(.int .i64 zbS),(.int .i64 zbT),(.slice z6Q z3S.length z6R)],row (.slice z56 z3b.length z57) 5 1 (z3b.flatMap e5),row (.slice z6Q z3S.length z6R) 5 1 (z3S.flatMap e5)]) :
  Calls Tryd.prog 110 #[(.pointer (some ⟨z94,0,none⟩)),(.int .u8 zaD),(.slice zbU z93.length zbV)] w₀ fun e w'=>e = .returned (.tuple #[]) ∧ Hp (fps [stb z94 65 [(.int .i64 z1c.fPc),(.int .i64 z1c.fLeft),(.int .u8 z1c.fRegs.a0),(.int .u8 z1c.fRegs.a1),(.int .u8 z1c.fRegs.a2),(.int .u8 z1c.fRegs.a3),(.int .u8 z1F.fOp),(.int .i64 z1F.fA),(.int .i64 z1F.fB),(.int .i64 z1F.fC),(.slice z56 z3b.length z57),(.int .u8 zbR),(.int .i64 zbS),(.int .i64 zbT),(.slice z6Q z3S.length z6R)],row (.slice z56 z3b.length z57) 5 1 (z3b.flatMap e5),row (.slice z6Q z3S.length z6R) 5 1 (z3S.flatMap e5)]) w₀ w' [stb z94 65 [(.int .i64 z1c.fPc),(.int .i64 z1c.fLeft),(.int .u8 z1c.fRegs.a0),(.int .u8 z1c.fRegs.a1),(.int .u8 z1c.fRegs.a2),(.int .u8 z1c.fRegs.a3),(.int .u8 z1F.fOp),(.int .i64 z1F.fA),(.int .i64 z1F.fB),(.int .i64 z1F.fC),(.slice z56 z3b.length z57),(.int .u8 r.1),(.int .i64 r.2),(.int .i64 0),(.slice zbU z93.length zbV)],row (.slice z56 z3b.length z57) 5 1 (z3b.flatMap e5),row (.slice z6Q z3S.length z6R) 5 1 (z3S.flatMap e5)]:=by
 unfold yc at h
 refine Calls.y8 (vs:=[(.pointer (some ⟨z94,0,none⟩)),(.int .u8 zaD),(.slice zbU z93.length zbV)]) (pre:=[stb z94 65 [(.int .i64 z1c.fPc),(.int .i64 z1c.fLeft),(.int .u8 z1c.fRegs.a0),(.int .u8 z1c.fRegs.a1),(.int .u8 z1c.fRegs.a2),(.int .u8 z1c.fRegs.a3),(.int .u8 z1F.fOp),(.int .i64 z1F.fA),(.int .i64 z1F.fB),(.int .i64 z1F.fC),(.slice z56 z3b.length z57),(.int .u8 zbR),(.int .i64 zbS),(.int .i64 zbT),(.slice z6Q z3S.length z6R)],row (.slice z56 z3b.length z57) 5 1 (z3b.flatMap e5),row (.slice z6Q z3S.length z6R) 5 1 (z3S.flatMap e5)]) (env:=[(0,(.pointer (some ⟨z94,0,none⟩))),(1,(.int .u8 zaD)),(2,(.slice zbU z93.length zbV))]) Tryd.func110 rfl Tryd.ntmps110 rfl (hown) rfl ?_
 refine WC.a (WL.pu rfl (WL.pu rfl (WL.pu rfl ?_)))
 refine WL.a (d:=9) rfl rfl rfl (y6 rfl) ?_
 refine WL.a (d:=10) rfl rfl rfl (y4 yl rfl rfl) ?_
 refine WL.a (d:=11) rfl rfl rfl (y4 yR rfl rfl) ?_
 refine WL.a (d:=12) rfl rfl rfl (y5 yd rfl (yb .here rfl)) ?_
 refine WL.pu rfl ?_
 refine WL.a (d:=14) rfl rfl rfl (yP (v:=(.agg #[(.int .u8 zaD),(.int .i64 z1F.fA),(.int .i64 0),(.slice zbU z93.length zbV)])) (Eos.parts (l:=[.tmp 7,.tmp 12,.tmp 13]) (.cons rfl (.cons rfl (.cons rfl .nil))) [0,1,3]) (fun _=>by kernel_rfl)) ?_
 refine WL.a (d:=15) rfl rfl rfl (y6 rfl) ?_
 refine WL.a (d:=16) rfl rfl rfl (y4 y2f rfl rfl) ?_
 refine WL.yf rfl rfl (yK (ds:=[(.int .i64 z1c.fPc),(.int .i64 z1c.fLeft),(.int .u8 z1c.fRegs.a0),(.int .u8 z1c.fRegs.a1),(.int .u8 z1c.fRegs.a2),(.int .u8 z1c.fRegs.a3),(.int .u8 z1F.fOp),(.int .i64 z1F.fA),(.int .i64 z1F.fB),(.int .i64 z1F.fC),(.slice z56 z3b.length z57),(.int .u8 zaD),(.int .i64 z1F.fA),(.int .i64 0),(.slice zbU z93.length zbV)]) yV rfl rfl rfl rfl rfl .here rfl rfl) ?_
 refine WL.nil ?_
 obtain rfl:=Option.some.inj h
 refine WX.y9 Tryd.results110 .nil (fun w hw=>?_)
 exact ⟨yB,hw.sub (.cons .here (.cons .here (.cons .here .nil)))⟩
def y1R (z1k : Sproc_State) (z2l : Sapi_Ins) (z3c : List Int) (zaE : Int) (zaF : Int) (zaG : Int) (z3B : List Int) : Option (Int × Int) :=
 (yc z1k z2l z3c zaE zaF zaG z3B 3 []).bind fun zgL=>some (zgL.1,zgL.2)
set_option maxRecDepth 20000 in
theorem y4F (Z : Zp) (z95 : Nat) (z5S : Option Addr) (z5T : Nat) (z6S : Option Addr) (z6T : Nat) (z1k : Sproc_State) (z2l : Sapi_Ins) (z3c : List Int) (zaE : Int) (zaF : Int) (zaG : Int) (z3B : List Int) (r : Int × Int)
  (h : y1R z1k z2l z3c zaE zaF zaG z3B = some r) (w₀ : World) (hz : PZ (fps [stb z95 65 [(.int .i64 z1k.fPc),(.int .i64 z1k.fLeft),(.int .u8 z1k.fRegs.a0),(.int .u8 z1k.fRegs.a1),(.int .u8 z1k.fRegs.a2),(.int .u8 z1k.fRegs.a3),(.int .u8 z2l.fOp),(.int .i64 z2l.fA),(.int .i64 z2l.fB),(.int .i64 z2l.fC),(.slice z5S z3c.length z5T),(.int .u8 zaE),(.int .i64 zaF),(.int .i64 zaG),(.slice z6S z3B.length z6T)],row (.slice z5S z3c.length z5T) 5 1 (z3c.flatMap e5),row (.slice z6S z3B.length z6T) 5 1 (z3B.flatMap e5)]) w₀ Z)
  (hown : Hp (fps [stb z95 65 [(.int .i64 z1k.fPc),(.int .i64 z1k.fLeft),(.int .u8 z1k.fRegs.a0),(.int .u8 z1k.fRegs.a1),(.int .u8 z1k.fRegs.a2),(.int .u8 z1k.fRegs.a3),(.int .u8 z2l.fOp),(.int .i64 z2l.fA),(.int .i64 z2l.fB),(.int .i64 z2l.fC),(.slice z5S z3c.length z5T),(.int .u8 zaE),(.int .i64 zaF),(.int .i64 zaG),(.slice z6S z3B.length z6T)],row (.slice z5S z3c.length z5T) 5 1 (z3c.flatMap e5),row (.slice z6S z3B.length z6T) 5 1 (z3B.flatMap e5)]) w₀ w₀ [stb z95 65 [(.int .i64 z1k.fPc),(.int .i64 z1k.fLeft),(.int .u8 z1k.fRegs.a0),(.int .u8 z1k.fRegs.a1),(.int .u8 z1k.fRegs.a2),(.int .u8 z1k.fRegs.a3),(.int .u8 z2l.fOp),(.int .i64 z2l.fA),(.int .i64 z2l.fB),(.int .i64 z2l.fC),(.slice z5S z3c.length z5T),(.int .u8 zaE),(.int .i64 zaF),(.int .i64 zaG),(.slice z6S z3B.length z6T)],row (.slice z5S z3c.length z5T) 5 1 (z3c.flatMap e5),row (.slice z6S z3B.length z6T) 5 1 (z3B.flatMap e5)]) :
  Calls Tryd.prog 90 #[(.pointer (some ⟨z95,0,none⟩))] w₀ fun e w'=>e = .returned (.tuple #[]) ∧ Hp (fps [stb z95 65 [(.int .i64 z1k.fPc),(.int .i64 z1k.fLeft),(.int .u8 z1k.fRegs.a0),(.int .u8 z1k.fRegs.a1),(.int .u8 z1k.fRegs.a2),(.int .u8 z1k.fRegs.a3),(.int .u8 z2l.fOp),(.int .i64 z2l.fA),(.int .i64 z2l.fB),(.int .i64 z2l.fC),(.slice z5S z3c.length z5T),(.int .u8 zaE),(.int .i64 zaF),(.int .i64 zaG),(.slice z6S z3B.length z6T)],row (.slice z5S z3c.length z5T) 5 1 (z3c.flatMap e5),row (.slice z6S z3B.length z6T) 5 1 (z3B.flatMap e5)]) w₀ w' [stb z95 65 [(.int .i64 z1k.fPc),(.int .i64 z1k.fLeft),(.int .u8 z1k.fRegs.a0),(.int .u8 z1k.fRegs.a1),(.int .u8 z1k.fRegs.a2),(.int .u8 z1k.fRegs.a3),(.int .u8 z2l.fOp),(.int .i64 z2l.fA),(.int .i64 z2l.fB),(.int .i64 z2l.fC),(.slice z5S z3c.length z5T),(.int .u8 r.1),(.int .i64 r.2),(.int .i64 0),(.slice none 0 0)],row (.slice z5S z3c.length z5T) 5 1 (z3c.flatMap e5),row (.slice z6S z3B.length z6T) 5 1 (z3B.flatMap e5)]:=by
 unfold y1R at h
 refine Calls.y8 (vs:=[(.pointer (some ⟨z95,0,none⟩))]) (pre:=[stb z95 65 [(.int .i64 z1k.fPc),(.int .i64 z1k.fLeft),(.int .u8 z1k.fRegs.a0),(.int .u8 z1k.fRegs.a1),(.int .u8 z1k.fRegs.a2),(.int .u8 z1k.fRegs.a3),(.int .u8 z2l.fOp),(.int .i64 z2l.fA),(.int .i64 z2l.fB),(.int .i64 z2l.fC),(.slice z5S z3c.length z5T),(.int .u8 zaE),(.int .i64 zaF),(.int .i64 zaG),(.slice z6S z3B.length z6T)],row (.slice z5S z3c.length z5T) 5 1 (z3c.flatMap e5),row (.slice z6S z3B.length z6T) 5 1 (z3B.flatMap e5)]) (env:=[(0,(.pointer (some ⟨z95,0,none⟩)))]) Tryd.func90 rfl Tryd.ntmps90 rfl (hown) rfl ?_
 obtain ⟨zgL,zut,h⟩:=zb h
 refine WC.a (WL.pu rfl ?_)
 refine WL.b (dd:=3) rfl rfl rfl (zk (l:=[.tmp 2,.const (.int .u8 3),.const (.slice none 0 0)]) Tryd.call110 (.cons rfl (.cons rfl (.cons rfl .nil)))) (.cons .here (.cons .here (.cons .here .nil))) (cc hz (.cons .here (.cons .here (.cons .here .nil))) fun w pz ho=>yG _ _ _ _ _ _ _ _ _ _ _ _ _ _ _ _ _ _ zut w pz (ZS.nil _ _ _) ho) ?_
 refine WL.nil ?_
 obtain rfl:=Option.some.inj h
 refine WX.y9 Tryd.results90 .nil (fun w hw=>?_)
 exact ⟨yB,hw.sub (.cons .here (.cons .here (.cons .here .nil)))⟩
def y1S (z1l : Sproc_State) (z2m : Sapi_Ins) (z3d : List Int) (zaH : Int) (zaI : Int) (zaJ : Int) (z3C : List Int) : Option (Int × Int) :=
 (yc z1l z2m z3d zaH zaI zaJ z3C 4 []).bind fun zgM=>some (zgM.1,zgM.2)
set_option maxRecDepth 20000 in
theorem y4G (Z : Zp) (z96 : Nat) (z5U : Option Addr) (z5V : Nat) (z6U : Option Addr) (z6V : Nat) (z1l : Sproc_State) (z2m : Sapi_Ins) (z3d : List Int) (zaH : Int) (zaI : Int) (zaJ : Int) (z3C : List Int) (r : Int × Int)
  (h : y1S z1l z2m z3d zaH zaI zaJ z3C = some r) (w₀ : World) (hz : PZ (fps [stb z96 65 [(.int .i64 z1l.fPc),(.int .i64 z1l.fLeft),(.int .u8 z1l.fRegs.a0),(.int .u8 z1l.fRegs.a1),(.int .u8 z1l.fRegs.a2),(.int .u8 z1l.fRegs.a3),(.int .u8 z2m.fOp),(.int .i64 z2m.fA),(.int .i64 z2m.fB),(.int .i64 z2m.fC),(.slice z5U z3d.length z5V),(.int .u8 zaH),(.int .i64 zaI),(.int .i64 zaJ),(.slice z6U z3C.length z6V)],row (.slice z5U z3d.length z5V) 5 1 (z3d.flatMap e5),row (.slice z6U z3C.length z6V) 5 1 (z3C.flatMap e5)]) w₀ Z)
  (hown : Hp (fps [stb z96 65 [(.int .i64 z1l.fPc),(.int .i64 z1l.fLeft),(.int .u8 z1l.fRegs.a0),(.int .u8 z1l.fRegs.a1),(.int .u8 z1l.fRegs.a2),(.int .u8 z1l.fRegs.a3),(.int .u8 z2m.fOp),(.int .i64 z2m.fA),(.int .i64 z2m.fB),(.int .i64 z2m.fC),(.slice z5U z3d.length z5V),(.int .u8 zaH),(.int .i64 zaI),(.int .i64 zaJ),(.slice z6U z3C.length z6V)],row (.slice z5U z3d.length z5V) 5 1 (z3d.flatMap e5),row (.slice z6U z3C.length z6V) 5 1 (z3C.flatMap e5)]) w₀ w₀ [stb z96 65 [(.int .i64 z1l.fPc),(.int .i64 z1l.fLeft),(.int .u8 z1l.fRegs.a0),(.int .u8 z1l.fRegs.a1),(.int .u8 z1l.fRegs.a2),(.int .u8 z1l.fRegs.a3),(.int .u8 z2m.fOp),(.int .i64 z2m.fA),(.int .i64 z2m.fB),(.int .i64 z2m.fC),(.slice z5U z3d.length z5V),(.int .u8 zaH),(.int .i64 zaI),(.int .i64 zaJ),(.slice z6U z3C.length z6V)],row (.slice z5U z3d.length z5V) 5 1 (z3d.flatMap e5),row (.slice z6U z3C.length z6V) 5 1 (z3C.flatMap e5)]) :
  Calls Tryd.prog 91 #[(.pointer (some ⟨z96,0,none⟩))] w₀ fun e w'=>e = .returned (.tuple #[]) ∧ Hp (fps [stb z96 65 [(.int .i64 z1l.fPc),(.int .i64 z1l.fLeft),(.int .u8 z1l.fRegs.a0),(.int .u8 z1l.fRegs.a1),(.int .u8 z1l.fRegs.a2),(.int .u8 z1l.fRegs.a3),(.int .u8 z2m.fOp),(.int .i64 z2m.fA),(.int .i64 z2m.fB),(.int .i64 z2m.fC),(.slice z5U z3d.length z5V),(.int .u8 zaH),(.int .i64 zaI),(.int .i64 zaJ),(.slice z6U z3C.length z6V)],row (.slice z5U z3d.length z5V) 5 1 (z3d.flatMap e5),row (.slice z6U z3C.length z6V) 5 1 (z3C.flatMap e5)]) w₀ w' [stb z96 65 [(.int .i64 z1l.fPc),(.int .i64 z1l.fLeft),(.int .u8 z1l.fRegs.a0),(.int .u8 z1l.fRegs.a1),(.int .u8 z1l.fRegs.a2),(.int .u8 z1l.fRegs.a3),(.int .u8 z2m.fOp),(.int .i64 z2m.fA),(.int .i64 z2m.fB),(.int .i64 z2m.fC),(.slice z5U z3d.length z5V),(.int .u8 r.1),(.int .i64 r.2),(.int .i64 0),(.slice none 0 0)],row (.slice z5U z3d.length z5V) 5 1 (z3d.flatMap e5),row (.slice z6U z3C.length z6V) 5 1 (z3C.flatMap e5)]:=by
 unfold y1S at h
 refine Calls.y8 (vs:=[(.pointer (some ⟨z96,0,none⟩))]) (pre:=[stb z96 65 [(.int .i64 z1l.fPc),(.int .i64 z1l.fLeft),(.int .u8 z1l.fRegs.a0),(.int .u8 z1l.fRegs.a1),(.int .u8 z1l.fRegs.a2),(.int .u8 z1l.fRegs.a3),(.int .u8 z2m.fOp),(.int .i64 z2m.fA),(.int .i64 z2m.fB),(.int .i64 z2m.fC),(.slice z5U z3d.length z5V),(.int .u8 zaH),(.int .i64 zaI),(.int .i64 zaJ),(.slice z6U z3C.length z6V)],row (.slice z5U z3d.length z5V) 5 1 (z3d.flatMap e5),row (.slice z6U z3C.length z6V) 5 1 (z3C.flatMap e5)]) (env:=[(0,(.pointer (some ⟨z96,0,none⟩)))]) Tryd.func91 rfl Tryd.ntmps91 rfl (hown) rfl ?_
 obtain ⟨zgM,zuu,h⟩:=zb h
 refine WC.a (WL.pu rfl ?_)
 refine WL.b (dd:=3) rfl rfl rfl (zk (l:=[.tmp 2,.const (.int .u8 4),.const (.slice none 0 0)]) Tryd.call110 (.cons rfl (.cons rfl (.cons rfl .nil)))) (.cons .here (.cons .here (.cons .here .nil))) (cc hz (.cons .here (.cons .here (.cons .here .nil))) fun w pz ho=>yG _ _ _ _ _ _ _ _ _ _ _ _ _ _ _ _ _ _ zuu w pz (ZS.nil _ _ _) ho) ?_
 refine WL.nil ?_
 obtain rfl:=Option.some.inj h
 refine WX.y9 Tryd.results91 .nil (fun w hw=>?_)
 exact ⟨yB,hw.sub (.cons .here (.cons .here (.cons .here .nil)))⟩
def y1x (z1m : Sproc_State) (z2n : Sapi_Ins) (z3e : List Int) (zaK : Int) (zaL : Int) (zaM : Int) (z3D : List Int) : Option (Int × Int) :=
 (yc z1m z2n z3e zaK zaL zaM z3D 5 []).bind fun zgN=>some (zgN.1,zgN.2)
set_option maxRecDepth 20000 in
theorem y4f (Z : Zp) (z97 : Nat) (z5W : Option Addr) (z5X : Nat) (z6W : Option Addr) (z6X : Nat) (z1m : Sproc_State) (z2n : Sapi_Ins) (z3e : List Int) (zaK : Int) (zaL : Int) (zaM : Int) (z3D : List Int) (r : Int × Int)
  (h : y1x z1m z2n z3e zaK zaL zaM z3D = some r) (w₀ : World) (hz : PZ (fps [stb z97 65 [(.int .i64 z1m.fPc),(.int .i64 z1m.fLeft),(.int .u8 z1m.fRegs.a0),(.int .u8 z1m.fRegs.a1),(.int .u8 z1m.fRegs.a2),(.int .u8 z1m.fRegs.a3),(.int .u8 z2n.fOp),(.int .i64 z2n.fA),(.int .i64 z2n.fB),(.int .i64 z2n.fC),(.slice z5W z3e.length z5X),(.int .u8 zaK),(.int .i64 zaL),(.int .i64 zaM),(.slice z6W z3D.length z6X)],row (.slice z5W z3e.length z5X) 5 1 (z3e.flatMap e5),row (.slice z6W z3D.length z6X) 5 1 (z3D.flatMap e5)]) w₀ Z)
  (hown : Hp (fps [stb z97 65 [(.int .i64 z1m.fPc),(.int .i64 z1m.fLeft),(.int .u8 z1m.fRegs.a0),(.int .u8 z1m.fRegs.a1),(.int .u8 z1m.fRegs.a2),(.int .u8 z1m.fRegs.a3),(.int .u8 z2n.fOp),(.int .i64 z2n.fA),(.int .i64 z2n.fB),(.int .i64 z2n.fC),(.slice z5W z3e.length z5X),(.int .u8 zaK),(.int .i64 zaL),(.int .i64 zaM),(.slice z6W z3D.length z6X)],row (.slice z5W z3e.length z5X) 5 1 (z3e.flatMap e5),row (.slice z6W z3D.length z6X) 5 1 (z3D.flatMap e5)]) w₀ w₀ [stb z97 65 [(.int .i64 z1m.fPc),(.int .i64 z1m.fLeft),(.int .u8 z1m.fRegs.a0),(.int .u8 z1m.fRegs.a1),(.int .u8 z1m.fRegs.a2),(.int .u8 z1m.fRegs.a3),(.int .u8 z2n.fOp),(.int .i64 z2n.fA),(.int .i64 z2n.fB),(.int .i64 z2n.fC),(.slice z5W z3e.length z5X),(.int .u8 zaK),(.int .i64 zaL),(.int .i64 zaM),(.slice z6W z3D.length z6X)],row (.slice z5W z3e.length z5X) 5 1 (z3e.flatMap e5),row (.slice z6W z3D.length z6X) 5 1 (z3D.flatMap e5)]) :
  Calls Tryd.prog 92 #[(.pointer (some ⟨z97,0,none⟩))] w₀ fun e w'=>e = .returned (.tuple #[]) ∧ Hp (fps [stb z97 65 [(.int .i64 z1m.fPc),(.int .i64 z1m.fLeft),(.int .u8 z1m.fRegs.a0),(.int .u8 z1m.fRegs.a1),(.int .u8 z1m.fRegs.a2),(.int .u8 z1m.fRegs.a3),(.int .u8 z2n.fOp),(.int .i64 z2n.fA),(.int .i64 z2n.fB),(.int .i64 z2n.fC),(.slice z5W z3e.length z5X),(.int .u8 zaK),(.int .i64 zaL),(.int .i64 zaM),(.slice z6W z3D.length z6X)],row (.slice z5W z3e.length z5X) 5 1 (z3e.flatMap e5),row (.slice z6W z3D.length z6X) 5 1 (z3D.flatMap e5)]) w₀ w' [stb z97 65 [(.int .i64 z1m.fPc),(.int .i64 z1m.fLeft),(.int .u8 z1m.fRegs.a0),(.int .u8 z1m.fRegs.a1),(.int .u8 z1m.fRegs.a2),(.int .u8 z1m.fRegs.a3),(.int .u8 z2n.fOp),(.int .i64 z2n.fA),(.int .i64 z2n.fB),(.int .i64 z2n.fC),(.slice z5W z3e.length z5X),(.int .u8 r.1),(.int .i64 r.2),(.int .i64 0),(.slice none 0 0)],row (.slice z5W z3e.length z5X) 5 1 (z3e.flatMap e5),row (.slice z6W z3D.length z6X) 5 1 (z3D.flatMap e5)]:=by
 unfold y1x at h
 refine Calls.y8 (vs:=[(.pointer (some ⟨z97,0,none⟩))]) (pre:=[stb z97 65 [(.int .i64 z1m.fPc),(.int .i64 z1m.fLeft),(.int .u8 z1m.fRegs.a0),(.int .u8 z1m.fRegs.a1),(.int .u8 z1m.fRegs.a2),(.int .u8 z1m.fRegs.a3),(.int .u8 z2n.fOp),(.int .i64 z2n.fA),(.int .i64 z2n.fB),(.int .i64 z2n.fC),(.slice z5W z3e.length z5X),(.int .u8 zaK),(.int .i64 zaL),(.int .i64 zaM),(.slice z6W z3D.length z6X)],row (.slice z5W z3e.length z5X) 5 1 (z3e.flatMap e5),row (.slice z6W z3D.length z6X) 5 1 (z3D.flatMap e5)]) (env:=[(0,(.pointer (some ⟨z97,0,none⟩)))]) Tryd.func92 rfl Tryd.ntmps92 rfl (hown) rfl ?_
 obtain ⟨zgN,zuv,h⟩:=zb h
 refine WC.a (WL.pu rfl ?_)
 refine WL.b (dd:=3) rfl rfl rfl (zk (l:=[.tmp 2,.const (.int .u8 5),.const (.slice none 0 0)]) Tryd.call110 (.cons rfl (.cons rfl (.cons rfl .nil)))) (.cons .here (.cons .here (.cons .here .nil))) (cc hz (.cons .here (.cons .here (.cons .here .nil))) fun w pz ho=>yG _ _ _ _ _ _ _ _ _ _ _ _ _ _ _ _ _ _ zuv w pz (ZS.nil _ _ _) ho) ?_
 refine WL.nil ?_
 obtain rfl:=Option.some.inj h
 refine WX.y9 Tryd.results92 .nil (fun w hw=>?_)
 exact ⟨yB,hw.sub (.cons .here (.cons .here (.cons .here .nil)))⟩
end Go.Proofs.YtjdnejbngloieaaDoor

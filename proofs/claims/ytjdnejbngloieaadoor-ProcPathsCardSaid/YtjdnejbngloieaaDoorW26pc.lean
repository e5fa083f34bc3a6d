/- A part of this claim's proof: models of functions, walks, plain laws. No conditions. -/
import Derived.Test.YtjdnejbngloieaaDoorW26pb
namespace Go.Proofs.YtjdnejbngloieaaDoor
open Go Go.RowKit Sep
set_option linter.all false
set_option maxRecDepth 30000
set_option maxHeartbeats 4000000
def y1S (z4E : (List Sapi_Ins) → (List Int) → Int → Int → Int → Int → Int → Int → Option Bool) : Nat → (List Sapi_Ins) → (List Int) → Int → Int → Int → Int → Int → Int → Int → Option Bool
 | 0,_,_,_,_,_,_,_,_,_=>none
 | zbj + 1,z2I,z2J,z39,z3a,z3b,z3c,z3d,z3e,z3f=>if decide (z39 < 5) then (y2f z2I (⟨z3a,z3b,(⟨z3c,z3d,z3e,z3f⟩ : S34)⟩ : Sproc_State) z2J).bind fun z2O=>if decide (z2O.2.fKind ≠ 0) then some false else y1S z4E zbj z2I z2J (i64 (z39 + 1)) z2O.1.fPc z2O.1.fLeft z2O.1.fRegs.a0 z2O.1.fRegs.a1 z2O.1.fRegs.a2 z2O.1.fRegs.a3 else z4E z2I z2J z3a z3b z3c z3d z3e z3f
theorem y4U {n : Nat} {z4E : (List Sapi_Ins) → (List Int) → Int → Int → Int → Int → Int → Int → Option Bool} {z2I : List Sapi_Ins} {z2J : List Int} {z39 : Int} {z3a : Int} {z3b : Int} {z3c : Int} {z3d : Int} {z3e : Int} {z3f : Int} {r : Bool} (h : y1S z4E n z2I z2J z39 z3a z3b z3c z3d z3e z3f = some r) : ∃ m,n = m + 1:=by
 cases n with
 | zero=>cases h
 | succ m=>exact ⟨m,rfl⟩
def y2M  : Option Bool :=
 (y1i 2 ([0,5] : List Int)).bind fun z23=>(y1i 1 ([3] : List Int)).bind fun z24=>(y1i 3 ([1,0] : List Int)).bind fun z25=>(y1i 6 ([1,16,0] : List Int)).bind fun z26=>(y1i 19 []).bind fun z27=>chk ((0 : Int) ≤ 32 ∧ (32 : Int) ≤ 32 ∧ (32 : Int) * 1 ≤ 140737488355328 ∧ (32 : Int) ≤ 4611686018427387904) (jp8 (fun (z1G : List Sapi_Ins) (z2K : List Int) (z1L : Int) (z1M : Int) (z1N : Int) (z1O : Int) (z1P : Int) (z1Q : Int)=>if decide ((⟨z1L,z1M,(⟨z1N,z1O,z1P,z1Q⟩ : S34)⟩ : Sproc_State) ≠ (⟨3,0,(⟨5,5,0,0⟩ : S34)⟩ : Sproc_State)) then some false else (y2f z1G (⟨z1L,z1M,(⟨z1N,z1O,z1P,z1Q⟩ : S34)⟩ : Sproc_State) z2K).bind fun zr=>(y2f z1G zr.1 z2K).bind fun zt=>chk ((0 : Int) ≤ 0 ∧ (0 : Int) ≤ 20 ∧ 20 ≤ ((z2K.length : Nat) : Int)) ((y2f z1G (⟨z1L,z1M,(⟨z1N,z1O,z1P,z1Q⟩ : S34)⟩ : Sproc_State) (z2K.take (20 : Int).toNat)).bind fun zK=>(y1i 7 ([2,1,3] : List Int)).bind fun z9A=>(y2f ([z9A] : List Sapi_Ins) (⟨0,0,(⟨0,255,0,0⟩ : S34)⟩ : Sproc_State) []).bind fun zg3=>(y1k z1G 0).bind fun z3g=>(y1i 21 ([0,0] : List Int)).bind fun zbk=>(y1k ([zbk] : List Sapi_Ins) 0).bind fun z8C=>(y1i 22 ([0,1,2] : List Int)).bind fun zbl=>(y1i 1 ([9] : List Int)).bind fun zbm=>(y1i 25 []).bind fun zbn=>(y1k ([zbl,zbm,zbn] : List Sapi_Ins) 0).bind fun z7S=>(y1K zr.2 (⟨1,21,5,[]⟩ : Sproc_Act)).bind fun zg4=>(if zg4 then (y1K zt.2 (⟨14,0,0,[]⟩ : Sproc_Act)).bind fun zg5=>some zg5 else some false).bind fun zbo=>(if zbo then (y1K zK.2 (⟨15,2,0,[]⟩ : Sproc_Act)).bind fun zg6=>some zg6 else some false).bind fun zbp=>(if zbp then (y1K zg3.2 (⟨2,2,0,([255,0,1] : List Int)⟩ : Sproc_Act)).bind fun zg7=>some zg7 else some false).bind fun z5I=>some (((((z5I && (decide (z3g.1 = 7))) && z3g.2) && (!z8C.2)) && (decide (z7S.1 = 11))) && z7S.2))) fun z4E=>y1S z4E yB ([z23,z24,z25,z26,z27] : List Sapi_Ins) (List.replicate (32 : Int).toNat (0 : Int)) 0 0 0 0 0 0 0)
set_option maxRecDepth 20000 in
theorem y5o (Z : Zp)  (r : Bool)
  (h : y2M = some r) (w₀ : World) (hz : PZ [] w₀ Z)
  (hG0 : ZC Z ⟨0,0,none⟩ tabG0)
  (hG1 : ZS Z 1 (p74 Z) (some ⟨1,0,none⟩) 26 y18) :
  Calls Tryd.prog 9 #[] w₀ fun e w'=>∃ Zn : Zp,e = .returned (.bool r) ∧ True ∧ Hp [] w₀ w' [fz Zn]:=by
 unfold y2M at h
 refine Calls.ya (vs:=[]) (pre:=[]) (env:=[]) Tryd.func9 rfl Tryd.ntmps9 rfl (Hp.nil w₀ _) rfl ?_
 refine WC.pool (WC.b (WC.a (WL.pu rfl (WL.nil (WX.a (WC.b ?_))))))
 obtain ⟨z23,zp5,h⟩:=zd h
 obtain ⟨z24,zp6,h⟩:=zd h
 obtain ⟨z25,zp7,h⟩:=zd h
 obtain ⟨z26,zp8,h⟩:=zd h
 obtain ⟨z27,zp9,h⟩:=zd h
 refine WC.a ?_
 refine WL.new (dd:=21) rfl rfl rfl (yo (cs:=([0,5] : List Int).flatMap e3) yu (Eos.parts (l:=[.const (.int .i64 0),.const (.int .i64 5)]) (.cons rfl (.cons rfl .nil)) [0,1]) (fun _=>by kernel_rfl) rfl (by unfold maxLen; omega)) ?_
 intro z8D _
 refine WL.b (dd:=22) rfl rfl rfl (zm (l:=[.const (.int .u8 2),.tmp 21]) Tryd.call17 (.cons rfl (.cons rfl .nil))) .nil (y2C hz .nil .h1 (.cons .here .nil) fun w pz ho la=>y1u _ _ _ _ _ _ zp5 w pz (ZA.row (la _ (.head _) _) (RR.yK (enc:=e3) (fun _=>rfl) _) ⟨w,pz.1⟩)) ?_
 refine WL.new (dd:=23) rfl rfl rfl (yo (cs:=([3] : List Int).flatMap e3) yu (Eos.parts (l:=[.const (.int .i64 3)]) (.cons rfl .nil) [0]) (fun _=>by kernel_rfl) rfl (by unfold maxLen; omega)) ?_
 intro z8E _
 refine WL.b (dd:=24) rfl rfl rfl (zm (l:=[.const (.int .u8 1),.tmp 23]) Tryd.call17 (.cons rfl (.cons rfl .nil))) .nil (y2C hz .nil .h2 (.cons .here .nil) fun w pz ho la=>y1u _ _ _ _ _ _ zp6 w pz (ZA.row (la _ (.head _) _) (RR.yK (enc:=e3) (fun _=>rfl) _) ⟨w,pz.1⟩)) ?_
 refine WL.new (dd:=25) rfl rfl rfl (yo (cs:=([1,0] : List Int).flatMap e3) yu (Eos.parts (l:=[.const (.int .i64 1),.const (.int .i64 0)]) (.cons rfl (.cons rfl .nil)) [0,1]) (fun _=>by kernel_rfl) rfl (by unfold maxLen; omega)) ?_
 intro z8F _
 refine WL.b (dd:=26) rfl rfl rfl (zm (l:=[.const (.int .u8 3),.tmp 25]) Tryd.call17 (.cons rfl (.cons rfl .nil))) .nil (y2C hz .nil .h3 (.cons .here .nil) fun w pz ho la=>y1u _ _ _ _ _ _ zp7 w pz (ZA.row (la _ (.head _) _) (RR.yK (enc:=e3) (fun _=>rfl) _) ⟨w,pz.1⟩)) ?_
 refine WL.new (dd:=27) rfl rfl rfl (yo (cs:=([1,16,0] : List Int).flatMap e3) yu (Eos.parts (l:=[.const (.int .i64 1),.const (.int .i64 16),.const (.int .i64 0)]) (.cons rfl (.cons rfl (.cons rfl .nil))) [0,1,2]) (fun _=>by kernel_rfl) rfl (by unfold maxLen; omega)) ?_
 intro z8G _
 refine WL.b (dd:=28) rfl rfl rfl (zm (l:=[.const (.int .u8 6),.tmp 27]) Tryd.call17 (.cons rfl (.cons rfl .nil))) .nil (y2C hz .nil .h4 (.cons .here .nil) fun w pz ho la=>y1u _ _ _ _ _ _ zp8 w pz (ZA.row (la _ (.head _) _) (RR.yK (enc:=e3) (fun _=>rfl) _) ⟨w,pz.1⟩)) ?_
 refine WL.b (dd:=29) rfl rfl rfl (zm (l:=[.const (.int .u8 19),.const (.slice none 0 0)]) Tryd.call17 (.cons rfl (.cons rfl .nil))) .nil (ccz hz .nil .h4 fun w pz ho=>y1u _ _ _ _ _ _ zp9 w pz (ZS.nil _ _ _)) ?_
 refine WL.new (dd:=30) rfl rfl rfl (yo (cs:=([z23,z24,z25,z26,z27] : List Sapi_Ins).flatMap e33) y15 (Eos.parts (l:=[.tmp 22,.tmp 24,.tmp 26,.tmp 28,.tmp 29]) (.cons rfl (.cons rfl (.cons rfl (.cons rfl (.cons rfl .nil))))) [0,1,2,3,4]) (fun _=>by kernel_rfl) rfl (by unfold maxLen; omega)) ?_
 intro z3q _
 refine WL.pu rfl (WL.nil (WX.a (WC.b ?_)))
 obtain ⟨zbq,h⟩:=yb h
 refine WC.y1j (fun i=>[3].contains i) [] rfl ?_
 refine WD.a (i:=0) (d:=31) (by kernel_rfl) rfl z1 z2 rfl rfl rfl (fun _=>y1b (v:=(.agg #[(.int .i64 0),(.int .i64 0),(.int .u8 0),(.int .u8 0),(.int .u8 0),(.int .u8 0)])) (Eos.parts (l:=[]) .nil []) (fun _=>by kernel_rfl)) ?_
 refine WD.y61 (fuel':=0) (fun (b1o1_10184 : Nat) (b2o1_10184 : Nat)=>[(1,(.slice (some ⟨z3q,0,none⟩) (([z23,z24,z25,z26,z27] : List Sapi_Ins).length) 5)),(2,(.pointer (some ⟨b2o1_10184,0,none⟩))),(3,(.slice (some ⟨b1o1_10184,0,none⟩) ((List.replicate (32 : Int).toNat (0 : Int)).length) ((32 : Int).toNat)))]) (fun (b1o1_10184 : Nat) (b2o1_10184 : Nat)=>[stb b2o1_10184 39 [(.int .i64 0),(.int .i64 0),(.int .u8 0),(.int .u8 0),(.int .u8 0),(.int .u8 0)],row (.slice (some ⟨b1o1_10184,0,none⟩) ((List.replicate (32 : Int).toNat (0 : Int)).length) ((32 : Int).toNat)) 5 1 ((List.replicate (32 : Int).toNat (0 : Int)).flatMap e5),row (.slice (some ⟨z3q,0,none⟩) (([z23,z24,z25,z26,z27] : List Sapi_Ins).length) 5) 33 4 (([z23,z24,z25,z26,z27] : List Sapi_Ins).flatMap e33),row (.slice (some ⟨z8G,0,none⟩) (([1,16,0] : List Int).length) 3) 3 1 (([1,16,0] : List Int).flatMap e3),row (.slice (some ⟨z8F,0,none⟩) (([1,0] : List Int).length) 2) 3 1 (([1,0] : List Int).flatMap e3),row (.slice (some ⟨z8E,0,none⟩) (([3] : List Int).length) 1) 3 1 (([3] : List Int).flatMap e3),row (.slice (some ⟨z8D,0,none⟩) (([0,5] : List Int).length) 2) 3 1 (([0,5] : List Int).flatMap e3),fz []]) (fun (b1o1_10184 : Nat) (b2o1_10184 : Nat)=>True) (y1s 5 [4,3,2,1,0]) ?_ (fun K1o2o3o4_10184=>?_)
 ·skip
  rintro b1o1_10184 b2o1_10184 _
  refine WD.done (by kernel_rfl) ?_
  refine WX.a ?_
  obtain ⟨z4E,zpa,h⟩:=jp8_elim h
  refine WC.y7j (fun (z1G : List Sapi_Ins) (z2K : List Int) (z1L : Int) (z1M : Int) (z1N : Int) (z1O : Int) (z1P : Int) (z1Q : Int) (z1H : Zp) (z2v : Option Addr) (z2w : Nat) (z8H : Option Addr) (z8I : Nat)=>(z4E z1G z2K z1L z1M z1N z1O z1P z1Q = some r) ∧ (Zle (Z ++ []) (Z ++ z1H)) ∧ (ZS (Z ++ z1H) 4 (fun r x=>r = e33 x) z2v z2w z1G) ∧ (ZS (Z ++ z1H) 1 (fun r x=>r = e5 x) z8H z8I z2K)) (fun (z1G : List Sapi_Ins) (z2K : List Int) (z1L : Int) (z1M : Int) (z1N : Int) (z1O : Int) (z1P : Int) (z1Q : Int) (z1H : Zp) (z2v : Option Addr) (z2w : Nat) (z8H : Option Addr) (z8I : Nat)=>[(1,(.slice z2v z1G.length z2w)),(2,(.pointer (some ⟨b2o1_10184,0,none⟩))),(3,(.slice z8H z2K.length z8I))]) (fun (z1G : List Sapi_Ins) (z2K : List Int) (z1L : Int) (z1M : Int) (z1N : Int) (z1O : Int) (z1P : Int) (z1Q : Int) (z1H : Zp) (z2v : Option Addr) (z2w : Nat) (z8H : Option Addr) (z8I : Nat)=>[fz z1H,stb b2o1_10184 39 [(.int .i64 z1L),(.int .i64 z1M),(.int .u8 z1N),(.int .u8 z1O),(.int .u8 z1P),(.int .u8 z1Q)]]) ?_ ?_
  ·skip
   refine WC.b (WC.a (WL.pu rfl (WL.nil (WX.a (WC.block ?_)))))
   refine WC.freezeS (ls:=([z23,z24,z25,z26,z27] : List Sapi_Ins)) .h2 .h6 hz (RR.yK (enc:=e33) (fun _=>rfl) _) ?_
   intro zsy zpb zpc
   refine WC.freezeS (ls:=List.replicate (32 : Int).toNat (0 : Int)) .h2 .here hz (RR.yK (enc:=e5) (fun _=>rfl) _) ?_
   intro zpd zg8 zpe
   refine WC.y7X (fun (z7T : Nat) (z2I : List Sapi_Ins) (z2J : List Int) (z39 : Int) (z3a : Int) (z3b : Int) (z3c : Int) (z3d : Int) (z3e : Int) (z3f : Int) (z3r : Zp) (z5J : Option Addr) (z5K : Nat) (z5L : Option Addr) (z5M : Nat)=>(y1S z4E z7T z2I z2J z39 z3a z3b z3c z3d z3e z3f = some r) ∧ (Zle (Z ++ []) (Z ++ z3r)) ∧ (ZS (Z ++ z3r) 4 (fun r x=>r = e33 x) z5J z5K z2I) ∧ (ZS (Z ++ z3r) 1 (fun r x=>r = e5 x) z5L z5M z2J)) (fun (z7T : Nat) (z2I : List Sapi_Ins) (z2J : List Int) (z39 : Int) (z3a : Int) (z3b : Int) (z3c : Int) (z3d : Int) (z3e : Int) (z3f : Int) (z3r : Zp) (z5J : Option Addr) (z5K : Nat) (z5L : Option Addr) (z5M : Nat)=>[(1,(.slice z5J z2I.length z5K)),(2,(.pointer (some ⟨b2o1_10184,0,none⟩))),(3,(.slice z5L z2J.length z5M)),(4,(.int .i64 z39))]) (fun (z7T : Nat) (z2I : List Sapi_Ins) (z2J : List Int) (z39 : Int) (z3a : Int) (z3b : Int) (z3c : Int) (z3d : Int) (z3e : Int) (z3f : Int) (z3r : Zp) (z5J : Option Addr) (z5K : Nat) (z5L : Option Addr) (z5M : Nat)=>[fz z3r,stb b2o1_10184 39 [(.int .i64 z3a),(.int .i64 z3b),(.int .u8 z3c),(.int .u8 z3d),(.int .u8 z3e),(.int .u8 z3f)]]) (fun (z7T : Nat) (z2I : List Sapi_Ins) (z2J : List Int) (z39 : Int) (z3a : Int) (z3b : Int) (z3c : Int) (z3d : Int) (z3e : Int) (z3f : Int) (z3r : Zp) (z5J : Option Addr) (z5K : Nat) (z5L : Option Addr) (z5M : Nat)=>z7T) ⟨yB,([z23,z24,z25,z26,z27] : List Sapi_Ins),(List.replicate (32 : Int).toNat (0 : Int)),0,0,0,0,0,0,0,zpd,(some ⟨z3q,0,none⟩),5,(some ⟨b1o1_10184,0,none⟩),((32 : Int).toNat)⟩ ⟨h,(zpb.trans zg8),(zpc.mono zg8),zpe⟩ (.cons rfl (.cons rfl (.cons rfl (.cons rfl .nil)))) (.cons .here (.cons .here .nil)) ?_
   rintro z7T z2I z2J z39 z3a z3b z3c z3d z3e z3f z3r z5J z5K z5L z5M ⟨h,z8J,zbr,zbs⟩
   obtain ⟨zbj,rfl⟩:=y4U h
   rw [y1S] at h
   refine WC.b (WC.b (WC.a (WL.pu rfl (WL.pu rfl (WL.nil (WX.a ?_))))))
   refine WC.cond rfl (fun zbt=>?_) (fun zbt=>?_)
   ·replace h:=yc h zbt
    refine WC.skip (WX.a (WC.b (WC.block (WC.b ?_))))
    obtain ⟨z2O,zpf,h⟩:=zd h
    refine WC.a (WL.pu rfl ?_)
    refine WL.a (d:=39) rfl rfl rfl (y16 y2h rfl (y1l .h1) rfl) ?_
    refine WL.pu rfl ?_
    refine WL.y3O (dd:=41) rfl rfl rfl (zm (l:=[.tmp 38,.tmp 39,.tmp 40]) Tryd.call18 (.cons rfl (.cons rfl (.cons rfl .nil)))) .nil (ccz hz .nil .here fun w pz ho=>y1M _ _ _ _ _ _ _ _ _ zpf w pz (hG0.mono ((Zle.left _ _).trans z8J)) ((hG1.mono ((Zle.left _ _).trans z8J)).weak (fun _ _ h=>y13 ((Zle.left _ _).trans z8J) h)) zbr zbs) ?_
    rintro zg9 zsz zsA zsB
    refine WL.merge .here .here ?_
    refine WL.pu rfl (WL.pu rfl (WL.pu rfl ?_))
    refine WL.new (dd:=5) rfl rfl rfl (yG (cs:=[(.int .i64 0),(.int .i64 0),(.int .u8 0),(.int .u8 0),(.int .u8 0),(.int .u8 0)]) y1R rfl) ?_
    intro zsC _
    refine WL.new (dd:=6) rfl rfl rfl (yG (cs:=[(.int .u8 0),(.int .i64 0),(.int .i64 0),(.slice none 0 0)]) y2D rfl) ?_
    intro zsD _
    refine WL.yq rfl rfl (yC y2S rfl rfl rfl .h1 rfl rfl rfl) ?_
    refine WL.yq rfl rfl (yC y1X rfl rfl rfl .h1 rfl rfl rfl) ?_
    refine WL.nil (WX.a (WC.b (WC.a ?_)))
    refine WL.a (d:=44) rfl rfl rfl (y16 y2h rfl (y1l .h1) rfl) ?_
    refine WL.yq rfl rfl (yC y2S rfl rfl rfl .h3 rfl rfl rfl) ?_
    refine WL.nil (WX.a (WC.b (WC.a ?_)))
    refine WL.a (d:=45) rfl rfl rfl (y4 y6u rfl rfl) ?_
    refine WL.a (d:=46) rfl rfl rfl (y6 yP rfl (yi .h1 rfl)) ?_
    refine WL.pu rfl (WL.nil (WX.a ?_))
    refine WC.cond rfl (fun zbu=>?_) (fun zbu=>?_)
    ·replace h:=yc h zbu
     refine WC.b (WC.a (WL.pu rfl (WL.nil (WX.a (WC.ret (WX.yf (WX.y7 (WX.y7 (WX.yf (WX.y7 ?_))))))))))
     obtain rfl:=Option.some.inj h
     refine WX.y8 Tryd.results9 (.tmp rfl .nil) (fun w hw=>?_)
     exact ⟨(z3r ++ zg9),yx rfl,trivial,hw.sub (.cons .h3 .nil)⟩
    ·replace h:=yd h zbu
     refine WC.skip (WX.ye (WX.a (WC.a (WL.pu rfl (WL.pu rfl (WL.pu rfl (WL.nil ?_)))))))
     exact WX.round (G:=Nat × List Sapi_Ins × List Int × Int × Int × Int × Int × Int × Int × Int × Zp × Option Addr × Nat × Option Addr × Nat) ⟨zbj,z2I,z2J,(i64 (z39 + 1)),z2O.1.fPc,z2O.1.fLeft,z2O.1.fRegs.a0,z2O.1.fRegs.a1,z2O.1.fRegs.a2,z2O.1.fRegs.a3,(z3r ++ zg9),z5J,z5K,z5L,z5M⟩ ⟨h,(z8J.trans ((Zle.left _ _).trans (Zle.y5 _ _ _))),(zbr.mono ((Zle.left _ _).trans (Zle.y5 _ _ _))),(zbs.mono ((Zle.left _ _).trans (Zle.y5 _ _ _)))⟩ (Nat.lt_succ_self _) (.cons rfl (.cons rfl (.cons rfl (.cons rfl .nil)))) (.cons .h3 (.cons .here .nil))
   ·replace h:=yd h zbt
    refine WC.exit (WX.yg (WX.yg (WX.yD ?_)))
    exact WX.mid (G:=List Sapi_Ins × List Int × Int × Int × Int × Int × Int × Int × Zp × Option Addr × Nat × Option Addr × Nat) ⟨z2I,z2J,z3a,z3b,z3c,z3d,z3e,z3f,z3r,z5J,z5K,z5L,z5M⟩ ⟨h,z8J,zbr,zbs⟩ (.cons rfl (.cons rfl (.cons rfl .nil))) (.cons .here (.cons .here .nil))
  ·rintro z1G z2K z1L z1M z1N z1O z1P z1Q z1H z2v z2w z8H z8I ⟨h,z1z,z6l,zbv⟩
   replace h:=(zpa z1G z2K z1L z1M z1N z1O z1P z1Q).symm.trans h
   refine WC.b (WC.b (WC.a ?_))
   refine WL.a (d:=48) rfl rfl rfl (y16 y2h rfl (y1l .h1) rfl) ?_
   refine WL.a (d:=49) rfl rfl rfl (y1b (v:=(.agg #[(.int .u8 5),(.int .u8 5),(.int .u8 0),(.int .u8 0)])) (Eos.parts (l:=[.const (.int .u8 5),.const (.int .u8 5)]) (.cons rfl (.cons rfl .nil)) [0,1]) (fun _=>by kernel_rfl)) ?_
   refine WL.a (d:=50) rfl rfl rfl (y1b (v:=(.agg #[(.int .i64 3),(.int .i64 0),(.int .u8 5),(.int .u8 5),(.int .u8 0),(.int .u8 0)])) (Eos.parts (l:=[.const (.int .i64 3),.tmp 49]) (.cons rfl (.cons rfl .nil)) [0,2]) (fun _=>by kernel_rfl)) ?_
   refine WL.a (d:=51) rfl rfl rfl (q_aggneq (enc:=e39) (a:=(⟨z1L,z1M,(⟨z1N,z1O,z1P,z1Q⟩ : S34)⟩ : Sproc_State)) (b:=(⟨3,0,(⟨5,5,0,0⟩ : S34)⟩ : Sproc_State)) eqT_39 rfl rfl) ?_
   refine WL.nil (WX.a ?_)
   refine WC.cond rfl (fun zbw=>?_) (fun zbw=>?_)
   ·replace h:=yc h zbw
    refine WC.b (WC.a (WL.pu rfl (WL.nil (WX.a (WC.ret (WX.y7 ?_))))))
    obtain rfl:=Option.some.inj h
    refine WX.y8 Tryd.results9 (.tmp rfl .nil) (fun w hw=>?_)
    exact ⟨z1H,yx rfl,trivial,hw.sub (.cons .here .nil)⟩
   ·replace h:=yd h zbw
    refine WC.skip (WX.a (WC.b ?_))
    obtain ⟨zr,zpg,h⟩:=zd h
    refine WC.a (WL.pu rfl ?_)
    refine WL.a (d:=54) rfl rfl rfl (y16 y2h rfl (y1l .h1) rfl) ?_
    refine WL.pu rfl ?_
    refine WL.y3O (dd:=56) rfl rfl rfl (zm (l:=[.tmp 53,.tmp 54,.tmp 55]) Tryd.call18 (.cons rfl (.cons rfl (.cons rfl .nil)))) .nil (ccz hz .nil .here fun w pz ho=>y1M _ _ _ _ _ _ _ _ _ zpg w pz (hG0.mono ((Zle.left _ _).trans z1z)) ((hG1.mono ((Zle.left _ _).trans z1z)).weak (fun _ _ h=>y13 ((Zle.left _ _).trans z1z) h)) z6l zbv) ?_
    rintro z2B z4F z4G zph
    refine WL.merge .here .here ?_
    refine WL.pu rfl (WL.pu rfl (WL.pu rfl ?_))
    refine WL.new (dd:=7) rfl rfl rfl (yG (cs:=[(.int .i64 0),(.int .i64 0),(.int .u8 0),(.int .u8 0),(.int .u8 0),(.int .u8 0)]) y1R rfl) ?_
    intro z4H _
    refine WL.new (dd:=8) rfl rfl rfl (yG (cs:=[(.int .u8 0),(.int .i64 0),(.int .i64 0),(.slice none 0 0)]) y2D rfl) ?_
    intro z2k _
    refine WL.yq rfl rfl (yC y2S rfl rfl rfl .h1 rfl rfl rfl) ?_
    refine WL.yq rfl rfl (yC y1X rfl rfl rfl .h1 rfl rfl rfl) ?_
    refine WL.nil (WX.a (WC.b ?_))
    obtain ⟨zt,zpi,h⟩:=zd h
    refine WC.a (WL.pu rfl ?_)
    refine WL.a (d:=61) rfl rfl rfl (y16 y2h rfl (y1l .h1) rfl) ?_
    refine WL.pu rfl ?_
    refine WL.y3O (dd:=63) rfl rfl rfl (zm (l:=[.tmp 60,.tmp 61,.tmp 62]) Tryd.call18 (.cons rfl (.cons rfl (.cons rfl .nil)))) .nil (ccz hz .nil .h2 fun w pz ho=>y1M _ _ _ _ _ _ _ _ _ zpi w pz (hG0.mono ((Zle.left _ _).trans (z1z.trans ((Zle.left _ _).trans (Zle.y5 _ _ _))))) ((hG1.mono ((Zle.left _ _).trans (z1z.trans ((Zle.left _ _).trans (Zle.y5 _ _ _))))).weak (fun _ _ h=>y13 ((Zle.left _ _).trans (z1z.trans ((Zle.left _ _).trans (Zle.y5 _ _ _)))) h)) (z6l.mono ((Zle.left _ _).trans (Zle.y5 _ _ _))) (zbv.mono ((Zle.left _ _).trans (Zle.y5 _ _ _)))) ?_
    rintro z2C z4I z4J zpj
    refine WL.merge .here .h2 ?_
    refine WL.pu rfl (WL.pu rfl (WL.pu rfl ?_))
    refine WL.new (dd:=9) rfl rfl rfl (yG (cs:=[(.int .i64 0),(.int .i64 0),(.int .u8 0),(.int .u8 0),(.int .u8 0),(.int .u8 0)]) y1R rfl) ?_
    intro z4K _
    refine WL.new (dd:=10) rfl rfl rfl (yG (cs:=[(.int .u8 0),(.int .i64 0),(.int .i64 0),(.slice none 0 0)]) y2D rfl) ?_
    intro z2l _
    refine WL.yq rfl rfl (yC y2S rfl rfl rfl .h1 rfl rfl rfl) ?_
    refine WL.yq rfl rfl (yC y1X rfl rfl rfl .h1 rfl rfl rfl) ?_
    refine WL.nil (WX.a (WC.b ?_))
    obtain ⟨zpk,h⟩:=yb h
    obtain ⟨zK,z9B,h⟩:=zd h
    refine WC.y1j (fun i=>[10,11].contains i) [] rfl ?_
    refine WD.a (i:=0) (d:=67) (by kernel_rfl) rfl z1 z2 rfl rfl rfl (fun _=>q_m rfl) ?_
    refine WD.e (i:=1) (d:=68) (by kernel_rfl) rfl z1 z2 rfl rfl rfl (y16 y2h rfl (y1l .h5) rfl) ?_
    refine WD.a (i:=2) (d:=69) (by kernel_rfl) rfl z1 z2 rfl rfl rfl (fun _=>q_m rfl) ?_
    refine WD.zsub (j:=3) (dd:=70) (by kernel_rfl) rfl z1 z2 rfl rfl (Z:=(Z ++ ((z1H ++ z2B) ++ z2C))) (Pr:=(fun r x=>r = e5 x)) y2L rfl (zbv.mono ((Zle.left _ _).trans ((Zle.y5 _ _ _).trans ((Zle.left _ _).trans (Zle.y5 _ _ _))))) (fun _=>ixn) (fun _=>ixo rfl) rfl rfl zpk (List.drop_zero).symm ?_
    rintro zbx zby z9C
    refine WD.y62 (fuel':=0) (fun (Zn4o1_10543 : Zp) (ao4o2_10543 : Option Addr) (cap4o3_10543 : Nat) (b8o1_10543 : Nat) (b9o1_10543 : Nat)=>[(1,(.slice z2v z1G.length z2w)),(8,(.pointer (some ⟨z2k,0,none⟩))),(10,(.pointer (some ⟨z2l,0,none⟩))),(12,(.pointer (some ⟨b9o1_10543,0,none⟩)))]) (fun (Zn4o1_10543 : Zp) (ao4o2_10543 : Option Addr) (cap4o3_10543 : Nat) (b8o1_10543 : Nat) (b9o1_10543 : Nat)=>[stb b9o1_10543 41 [(.int .u8 zK.2.fKind),(.int .i64 zK.2.fA),(.int .i64 zK.2.fB),(.slice ao4o2_10543 zK.2.fData.length cap4o3_10543)],stb b8o1_10543 39 [(.int .i64 zK.1.fPc),(.int .i64 zK.1.fLeft),(.int .u8 zK.1.fRegs.a0),(.int .u8 zK.1.fRegs.a1),(.int .u8 zK.1.fRegs.a2),(.int .u8 zK.1.fRegs.a3)],fz (((z1H ++ z2B) ++ z2C) ++ Zn4o1_10543),stb z2l 41 [(.int .u8 zt.2.fKind),(.int .i64 zt.2.fA),(.int .i64 zt.2.fB),(.slice z4I zt.2.fData.length z4J)],stb z4K 39 [(.int .i64 zt.1.fPc),(.int .i64 zt.1.fLeft),(.int .u8 zt.1.fRegs.a0),(.int .u8 zt.1.fRegs.a1),(.int .u8 zt.1.fRegs.a2),(.int .u8 zt.1.fRegs.a3)],stb z2k 41 [(.int .u8 zr.2.fKind),(.int .i64 zr.2.fA),(.int .i64 zr.2.fB),(.slice z4F zr.2.fData.length z4G)],stb z4H 39 [(.int .i64 zr.1.fPc),(.int .i64 zr.1.fLeft),(.int .u8 zr.1.fRegs.a0),(.int .u8 zr.1.fRegs.a1),(.int .u8 zr.1.fRegs.a2),(.int .u8 zr.1.fRegs.a3)],stb b2o1_10184 39 [(.int .i64 z1L),(.int .i64 z1M),(.int .u8 z1N),(.int .u8 z1O),(.int .u8 z1P),(.int .u8 z1Q)]]) (fun (Zn4o1_10543 : Zp) (ao4o2_10543 : Option Addr) (cap4o3_10543 : Nat) (b8o1_10543 : Nat) (b9o1_10543 : Nat)=>(ZS ((Z ++ ((z1H ++ z2B) ++ z2C)) ++ Zn4o1_10543) 1 (fun zK x=>zK = e5 x) ao4o2_10543 cap4o3_10543 zK.2.fData)) (y1s 12 [11,10,9,8,7,6,5,4,3,2,1,0]) ?_ (fun K4o5o6o7o8o9o10o11_10543=>?_)
    ·skip
     rintro Zn4o1_10543 ao4o2_10543 cap4o3_10543 b8o1_10543 b9o1_10543 hf4o4_10543
     refine WD.done (by kernel_rfl) ?_
     refine WX.a (WC.b ?_)
     obtain ⟨z9A,zpl,h⟩:=zd h
     obtain ⟨zg3,zpm,h⟩:=zd h
     refine WC.a ?_
     refine WL.new (dd:=75) rfl rfl rfl (yo (cs:=([2,1,3] : List Int).flatMap e3) yu (Eos.parts (l:=[.const (.int .i64 2),.const (.int .i64 1),.const (.int .i64 3)]) (.cons rfl (.cons rfl (.cons rfl .nil))) [0,1,2]) (fun _=>by kernel_rfl) rfl (by unfold maxLen; omega)) ?_
     intro zsE _
     refine WL.b (dd:=76) rfl rfl rfl (zm (l:=[.const (.int .u8 7),.tmp 75]) Tryd.call17 (.cons rfl (.cons rfl .nil))) .nil (y2C hz .nil .h3 (.cons .here .nil) fun w pz ho la=>y1u _ _ _ _ _ _ zpl w pz (ZA.row (la _ (.head _) _) (RR.yK (enc:=e3) (fun _=>rfl) _) ⟨w,pz.1⟩)) ?_
     refine WL.new (dd:=77) rfl rfl rfl (yo (cs:=([z9A] : List Sapi_Ins).flatMap e33) y15 (Eos.parts (l:=[.tmp 76]) (.cons rfl .nil) [0]) (fun _=>by kernel_rfl) rfl (by unfold maxLen; omega)) ?_
     intro zsF _
     refine WL.a (d:=78) rfl rfl rfl (y1b (v:=(.agg #[(.int .u8 0),(.int .u8 255),(.int .u8 0),(.int .u8 0)])) (Eos.parts (l:=[.const (.int .u8 0),.const (.int .u8 255)]) (.cons rfl (.cons rfl .nil)) [0,1]) (fun _=>by kernel_rfl)) ?_
     refine WL.a (d:=79) rfl rfl rfl (y1b (v:=(.agg #[(.int .i64 0),(.int .i64 0),(.int .u8 0),(.int .u8 255),(.int .u8 0),(.int .u8 0)])) (Eos.parts (l:=[.tmp 78]) (.cons rfl .nil) [2]) (fun _=>by kernel_rfl)) ?_
     refine WL.freezeS (ls:=([z9A] : List Sapi_Ins)) .here .h3 hz (RR.yK (enc:=e33) (fun _=>rfl) _) ?_
     intro zpn z2V zpo
     refine WL.y3O (dd:=80) rfl rfl rfl (zm (l:=[.tmp 77,.tmp 79,.const (.slice none 0 0)]) Tryd.call18 (.cons rfl (.cons rfl (.cons rfl .nil)))) .nil (ccz hz .nil .here fun w pz ho=>y1M _ _ _ _ _ _ _ _ _ zpm w pz (hG0.mono ((Zle.left _ _).trans (z1z.trans ((Zle.left _ _).trans ((Zle.y5 _ _ _).trans ((Zle.left _ _).trans ((Zle.y5 _ _ _).trans ((Zle.left _ _).trans ((Zle.y5 _ _ _).trans z2V))))))))) ((hG1.mono ((Zle.left _ _).trans (z1z.trans ((Zle.left _ _).trans ((Zle.y5 _ _ _).trans ((Zle.left _ _).trans ((Zle.y5 _ _ _).trans ((Zle.left _ _).trans ((Zle.y5 _ _ _).trans z2V))))))))).weak (fun _ _ h=>y13 ((Zle.left _ _).trans (z1z.trans ((Zle.left _ _).trans ((Zle.y5 _ _ _).trans ((Zle.left _ _).trans ((Zle.y5 _ _ _).trans ((Zle.left _ _).trans ((Zle.y5 _ _ _).trans z2V)))))))) h)) zpo (ZS.nil _ _ _)) ?_
     rintro zpp zsG zsH zpq
     refine WL.merge .here .here ?_
     refine WL.pu rfl (WL.pu rfl (WL.pu rfl ?_))
     refine WL.new (dd:=13) rfl rfl rfl (yG (cs:=[(.int .i64 0),(.int .i64 0),(.int .u8 0),(.int .u8 0),(.int .u8 0),(.int .u8 0)]) y1R rfl) ?_
     intro zsI _
     refine WL.new (dd:=14) rfl rfl rfl (yG (cs:=[(.int .u8 0),(.int .i64 0),(.int .i64 0),(.slice none 0 0)]) y2D rfl) ?_
     intro zsJ _
     refine WL.yq rfl rfl (yC y2S rfl rfl rfl .h1 rfl rfl rfl) ?_
     refine WL.yq rfl rfl (yC y1X rfl rfl rfl .h1 rfl rfl rfl) ?_
     refine WL.nil (WX.a (WC.b ?_))
     obtain ⟨z3g,zpr,h⟩:=zd h
     refine WC.a (WL.pu rfl ?_)
     refine WL.b (dd:=85) rfl rfl rfl (zm (l:=[.tmp 84,.const (.int .i64 0)]) Tryd.call13 (.cons rfl (.cons rfl .nil))) .nil (ccz hz .nil .h2 fun w pz ho=>y3e _ _ _ _ _ _ zpr w pz ((hG1.mono ((Zle.left _ _).trans (z1z.trans ((Zle.left _ _).trans ((Zle.y5 _ _ _).trans ((Zle.left _ _).trans ((Zle.y5 _ _ _).trans ((Zle.left _ _).trans ((Zle.y5 _ _ _).trans (z2V.trans ((Zle.left _ _).trans (Zle.y5 _ _ _)))))))))))).weak (fun _ _ h=>y13 ((Zle.left _ _).trans (z1z.trans ((Zle.left _ _).trans ((Zle.y5 _ _ _).trans ((Zle.left _ _).trans ((Zle.y5 _ _ _).trans ((Zle.left _ _).trans ((Zle.y5 _ _ _).trans (z2V.trans ((Zle.left _ _).trans (Zle.y5 _ _ _))))))))))) h)) (z6l.mono ((Zle.left _ _).trans ((Zle.y5 _ _ _).trans ((Zle.left _ _).trans ((Zle.y5 _ _ _).trans ((Zle.left _ _).trans ((Zle.y5 _ _ _).trans (z2V.trans ((Zle.left _ _).trans (Zle.y5 _ _ _))))))))))) ?_
     refine WL.pu rfl (WL.pu rfl (WL.pu rfl (WL.pu rfl (WL.pu rfl (WL.nil (WX.a (WC.b ?_)))))))
     obtain ⟨zbk,zps,h⟩:=zd h
     obtain ⟨z8C,zpt,h⟩:=zd h
     refine WC.a ?_
     refine WL.new (dd:=89) rfl rfl rfl (yo (cs:=([0,0] : List Int).flatMap e3) yu (Eos.parts (l:=[.const (.int .i64 0),.const (.int .i64 0)]) (.cons rfl (.cons rfl .nil)) [0,1]) (fun _=>by kernel_rfl) rfl (by unfold maxLen; omega)) ?_
     intro zsK _
     refine WL.b (dd:=90) rfl rfl rfl (zm (l:=[.const (.int .u8 21),.tmp 89]) Tryd.call17 (.cons rfl (.cons rfl .nil))) .nil (y2C hz .nil .h3 (.cons .here .nil) fun w pz ho la=>y1u _ _ _ _ _ _ zps w pz (ZA.row (la _ (.head _) _) (RR.yK (enc:=e3) (fun _=>rfl) _) ⟨w,pz.1⟩)) ?_
     refine WL.new (dd:=91) rfl rfl rfl (yo (cs:=([zbk] : List Sapi_Ins).flatMap e33) y15 (Eos.parts (l:=[.tmp 90]) (.cons rfl .nil) [0]) (fun _=>by kernel_rfl) rfl (by unfold maxLen; omega)) ?_
     intro zsL _
     refine WL.b (dd:=92) rfl rfl rfl (zm (l:=[.tmp 91,.const (.int .i64 0)]) Tryd.call13 (.cons rfl (.cons rfl .nil))) .nil (y2C hz .nil .h4 (.cons .here .nil) fun w pz ho la=>y3e _ _ _ _ _ _ zpt w pz ((((hG1.mono ((Zle.left _ _).trans (z1z.trans ((Zle.left _ _).trans ((Zle.y5 _ _ _).trans ((Zle.left _ _).trans ((Zle.y5 _ _ _).trans ((Zle.left _ _).trans ((Zle.y5 _ _ _).trans (z2V.trans ((Zle.left _ _).trans (Zle.y5 _ _ _)))))))))))).weak (fun _ _ h=>y13 ((Zle.left _ _).trans (z1z.trans ((Zle.left _ _).trans ((Zle.y5 _ _ _).trans ((Zle.left _ _).trans ((Zle.y5 _ _ _).trans ((Zle.left _ _).trans ((Zle.y5 _ _ _).trans (z2V.trans ((Zle.left _ _).trans (Zle.y5 _ _ _))))))))))) h)).mono (Zle.left _ _)).weak (fun _ _ h=>y13 (Zle.left _ _) h)) (ZA.row (la _ (.head _) _) (RR.yK (enc:=e33) (fun _=>rfl) _) ⟨w,pz.1⟩)) ?_
     refine WL.pu rfl (WL.pu rfl (WL.pu rfl (WL.pu rfl (WL.pu rfl (WL.nil (WX.a (WC.b ?_)))))))
     obtain ⟨zbl,zpu,h⟩:=zd h
     obtain ⟨zbm,zpv,h⟩:=zd h
     obtain ⟨zbn,zpw,h⟩:=zd h
     obtain ⟨z7S,zpx,h⟩:=zd h
     refine WC.a ?_
     refine WL.new (dd:=96) rfl rfl rfl (yo (cs:=([0,1,2] : List Int).flatMap e3) yu (Eos.parts (l:=[.const (.int .i64 0),.const (.int .i64 1),.const (.int .i64 2)]) (.cons rfl (.cons rfl (.cons rfl .nil))) [0,1,2]) (fun _=>by kernel_rfl) rfl (by unfold maxLen; omega)) ?_
     intro zsM _
     refine WL.b (dd:=97) rfl rfl rfl (zm (l:=[.const (.int .u8 22),.tmp 96]) Tryd.call17 (.cons rfl (.cons rfl .nil))) .nil (y2C hz .nil .h5 (.cons .here .nil) fun w pz ho la=>y1u _ _ _ _ _ _ zpu w pz (ZA.row (la _ (.head _) _) (RR.yK (enc:=e3) (fun _=>rfl) _) ⟨w,pz.1⟩)) ?_
     refine WL.new (dd:=98) rfl rfl rfl (yo (cs:=([9] : List Int).flatMap e3) yu (Eos.parts (l:=[.const (.int .i64 9)]) (.cons rfl .nil) [0]) (fun _=>by kernel_rfl) rfl (by unfold maxLen; omega)) ?_
     intro zsN _
     refine WL.b (dd:=99) rfl rfl rfl (zm (l:=[.const (.int .u8 1),.tmp 98]) Tryd.call17 (.cons rfl (.cons rfl .nil))) .nil (y2C hz .nil .h6 (.cons .here .nil) fun w pz ho la=>y1u _ _ _ _ _ _ zpv w pz (ZA.row (la _ (.head _) _) (RR.yK (enc:=e3) (fun _=>rfl) _) ⟨w,pz.1⟩)) ?_
     refine WL.b (dd:=100) rfl rfl rfl (zm (l:=[.const (.int .u8 25),.const (.slice none 0 0)]) Tryd.call17 (.cons rfl (.cons rfl .nil))) .nil (ccz hz .nil .h6 fun w pz ho=>y1u _ _ _ _ _ _ zpw w pz (ZS.nil _ _ _)) ?_
     refine WL.new (dd:=101) rfl rfl rfl (yo (cs:=([zbl,zbm,zbn] : List Sapi_Ins).flatMap e33) y15 (Eos.parts (l:=[.tmp 97,.tmp 99,.tmp 100]) (.cons rfl (.cons rfl (.cons rfl .nil))) [0,1,2]) (fun _=>by kernel_rfl) rfl (by unfold maxLen; omega)) ?_
     intro zsO _
     refine WL.b (dd:=102) rfl rfl rfl (zm (l:=[.tmp 101,.const (.int .i64 0)]) Tryd.call13 (.cons rfl (.cons rfl .nil))) .nil (y2C hz .nil .h7 (.cons .here .nil) fun w pz ho la=>y3e _ _ _ _ _ _ zpx w pz ((((hG1.mono ((Zle.left _ _).trans (z1z.trans ((Zle.left _ _).trans ((Zle.y5 _ _ _).trans ((Zle.left _ _).trans ((Zle.y5 _ _ _).trans ((Zle.left _ _).trans ((Zle.y5 _ _ _).trans (z2V.trans ((Zle.left _ _).trans (Zle.y5 _ _ _)))))))))))).weak (fun _ _ h=>y13 ((Zle.left _ _).trans (z1z.trans ((Zle.left _ _).trans ((Zle.y5 _ _ _).trans ((Zle.left _ _).trans ((Zle.y5 _ _ _).trans ((Zle.left _ _).trans ((Zle.y5 _ _ _).trans (z2V.trans ((Zle.left _ _).trans (Zle.y5 _ _ _))))))))))) h)).mono (Zle.left _ _)).weak (fun _ _ h=>y13 (Zle.left _ _) h)) (ZA.row (la _ (.head _) _) (RR.yK (enc:=e33) (fun _=>rfl) _) ⟨w,pz.1⟩)) ?_
     refine WL.pu rfl (WL.pu rfl (WL.pu rfl (WL.pu rfl (WL.pu rfl (WL.nil (WX.a (WC.b ?_)))))))
     obtain ⟨zg4,zpy,h⟩:=zd h
     obtain ⟨zbo,zga,h⟩:=zd h
     obtain ⟨zbp,zgb,h⟩:=zd h
     obtain ⟨z5I,zgc,h⟩:=zd h
     refine WC.a ?_
     refine WL.a (d:=105) rfl rfl rfl (y16 y3M rfl (y1l (.there (.there (.there (.there (.there (.there .h7))))))) rfl) ?_
     refine WL.a (d:=106) rfl rfl rfl (y1b (v:=(.agg #[(.int .u8 1),(.int .i64 21),(.int .i64 5),(.slice none 0 0)])) (Eos.parts (l:=[.const (.int .u8 1),.const (.int .i64 21),.const (.int .i64 5)]) (.cons rfl (.cons rfl (.cons rfl .nil))) [0,1,2]) (fun _=>by kernel_rfl)) ?_
     refine WL.b (dd:=107) rfl rfl rfl (zm (l:=[.tmp 105,.tmp 106]) Tryd.call19 (.cons rfl (.cons rfl .nil))) .nil (ccz hz .nil .h7 fun w pz ho=>y2X _ _ _ _ _ _ _ _ zpy w pz (zph.mono ((Zle.y5 _ _ _).trans ((Zle.left _ _).trans ((Zle.y5 _ _ _).trans ((Zle.left _ _).trans ((Zle.y5 _ _ _).trans (z2V.trans ((Zle.left _ _).trans (Zle.y5 _ _ _))))))))) (ZS.nil _ _ _)) ?_
     refine WL.pu rfl ?_
     refine WL.seg true 3 108 (B:=zbo) rfl rfl rfl rfl rfl rfl (fun h=>(Option.some.inj (yd zga h)).symm) (fun _ zpz=>?_) ?_
     ·skip
      have z8K:=yc zga zpz
      obtain ⟨zg5,zpA,z8K⟩:=zd z8K
      replace z8K:=Option.some.inj z8K
      refine WL.a (d:=109) rfl rfl rfl (y16 y3M rfl (y1l (.there (.there (.there (.there .h7))))) rfl) ?_
      refine WL.a (d:=110) rfl rfl rfl (y1b (v:=(.agg #[(.int .u8 14),(.int .i64 0),(.int .i64 0),(.slice none 0 0)])) (Eos.parts (l:=[.const (.int .u8 14)]) (.cons rfl .nil) [0]) (fun _=>by kernel_rfl)) ?_
      refine WL.b (dd:=111) rfl rfl rfl (zm (l:=[.tmp 109,.tmp 110]) Tryd.call19 (.cons rfl (.cons rfl .nil))) .nil (ccz hz .nil .h7 fun w pz ho=>y2X _ _ _ _ _ _ _ _ zpA w pz (zpj.mono ((Zle.y5 _ _ _).trans ((Zle.left _ _).trans ((Zle.y5 _ _ _).trans (z2V.trans ((Zle.left _ _).trans (Zle.y5 _ _ _))))))) (ZS.nil _ _ _)) ?_
      refine WL.pu rfl ?_
      exact WL.ys z8K rfl rfl .all
     refine WL.pu rfl ?_
     refine WL.seg true 3 113 (B:=zbp) rfl rfl rfl rfl rfl rfl (fun h=>(Option.some.inj (yd zgb h)).symm) (fun _ zpB=>?_) ?_
     ·skip
      have z8L:=yc zgb zpB
      obtain ⟨zg6,zpC,z8L⟩:=zd z8L
      replace z8L:=Option.some.inj z8L
      refine WL.a (d:=114) rfl rfl rfl (y16 y3M rfl (y1l (.there (.there .h7))) rfl) ?_
      refine WL.a (d:=115) rfl rfl rfl (y1b (v:=(.agg #[(.int .u8 15),(.int .i64 2),(.int .i64 0),(.slice none 0 0)])) (Eos.parts (l:=[.const (.int .u8 15),.const (.int .i64 2)]) (.cons rfl (.cons rfl .nil)) [0,1]) (fun _=>by kernel_rfl)) ?_
      refine WL.b (dd:=116) rfl rfl rfl (zm (l:=[.tmp 114,.tmp 115]) Tryd.call19 (.cons rfl (.cons rfl .nil))) .nil (ccz hz .nil .h7 fun w pz ho=>y2X _ _ _ _ _ _ _ _ zpC w pz (hf4o4_10543.mono ((Zle.y5 _ _ _).trans (z2V.trans ((Zle.left _ _).trans (Zle.y5 _ _ _))))) (ZS.nil _ _ _)) ?_
      refine WL.pu rfl ?_
      exact WL.ys z8L rfl rfl .all
     refine WL.pu rfl ?_
     refine WL.seg true 4 118 (B:=z5I) rfl rfl rfl rfl rfl rfl (fun h=>(Option.some.inj (yd zgc h)).symm) (fun _ zpD=>?_) ?_
     ·skip
      have z8M:=yc zgc zpD
      obtain ⟨zg7,zpE,z8M⟩:=zd z8M
      replace z8M:=Option.some.inj z8M
      refine WL.a (d:=119) rfl rfl rfl (y16 y3M rfl (y1l .h5) rfl) ?_
      refine WL.new (dd:=120) rfl rfl rfl (yo (cs:=([255,0,1] : List Int).flatMap e5) y2L (Eos.parts (l:=[.const (.int .u8 255),.const (.int .u8 0),.const (.int .u8 1)]) (.cons rfl (.cons rfl (.cons rfl .nil))) [0,1,2]) (fun _=>by kernel_rfl) rfl (by unfold maxLen; omega)) ?_
      intro zpF _
      refine WL.a (d:=121) rfl rfl rfl (y1b (v:=(.agg #[(.int .u8 2),(.int .i64 2),(.int .i64 0),(.slice (some ⟨zpF,0,none⟩) (([255,0,1] : List Int).length) 3)])) (Eos.parts (l:=[.const (.int .u8 2),.const (.int .i64 2),.tmp 120]) (.cons rfl (.cons rfl (.cons rfl .nil))) [0,1,3]) (fun _=>by kernel_rfl)) ?_
      refine WL.b (dd:=122) rfl rfl rfl (zm (l:=[.tmp 119,.tmp 121]) Tryd.call19 (.cons rfl (.cons rfl .nil))) .nil (y2C hz .nil (.there .h7) (.cons .here .nil) fun w pz ho la=>y2X _ _ _ _ _ _ _ _ zpE w pz ((zpq.mono (Zle.y5 _ _ _)).mono (Zle.left _ _)) (ZA.row (la _ (.head _) _) (RR.yK (enc:=e5) (fun _=>rfl) _) ⟨w,pz.1⟩)) ?_
      refine WL.pu rfl ?_
      exact WL.ys z8M rfl rfl (.cons .h1 (.cons .h1 (.cons .h1 (.cons .h1 (.cons .h1 (.cons .h1 (.cons .h1 (.cons .h1 (.cons .h1 (.cons .h1 (.cons .h1 (.cons .h1 (.cons .h1 (.cons .h1 (.cons .h1 (.cons .h1 .nil))))))))))))))))
     refine WL.pu rfl ?_
     refine WL.seg true 2 124 (B:=z5I && (decide (z3g.1 = 7))) rfl rfl rfl rfl rfl rfl (fun h=>(y1T h).symm) (fun _ zpG=>?_) ?_
     ·skip
      refine WL.pu rfl (WL.pu rfl (WL.pu rfl ?_))
      exact WL.ys (y1U zpG) rfl rfl .all
     refine WL.pu rfl ?_
     refine WL.seg true 1 128 (B:=(z5I && (decide (z3g.1 = 7))) && z3g.2) rfl rfl rfl rfl rfl rfl (fun h=>(y1T h).symm) (fun _ zpH=>?_) ?_
     ·skip
      refine WL.pu rfl (WL.pu rfl ?_)
      exact WL.ys (y1U zpH) rfl rfl .all
     refine WL.pu rfl ?_
     refine WL.seg true 2 131 (B:=((z5I && (decide (z3g.1 = 7))) && z3g.2) && (!z8C.2)) rfl rfl rfl rfl rfl rfl (fun h=>(y1T h).symm) (fun _ zpI=>?_) ?_
     ·skip
      refine WL.pu rfl (WL.pu rfl (WL.pu rfl ?_))
      exact WL.ys (y1U zpI) rfl rfl .all
     refine WL.pu rfl ?_
     refine WL.seg true 2 135 (B:=(((z5I && (decide (z3g.1 = 7))) && z3g.2) && (!z8C.2)) && (decide (z7S.1 = 11))) rfl rfl rfl rfl rfl rfl (fun h=>(y1T h).symm) (fun _ zpJ=>?_) ?_
     ·skip
      refine WL.pu rfl (WL.pu rfl (WL.pu rfl ?_))
      exact WL.ys (y1U zpJ) rfl rfl .all
     refine WL.pu rfl ?_
     refine WL.seg true 1 139 (B:=((((z5I && (decide (z3g.1 = 7))) && z3g.2) && (!z8C.2)) && (decide (z7S.1 = 11))) && z7S.2) rfl rfl rfl rfl rfl rfl (fun h=>(y1T h).symm) (fun _ zpK=>?_) ?_
     ·skip
      refine WL.pu rfl (WL.pu rfl ?_)
      exact WL.ys (y1U zpK) rfl rfl .all
     refine WL.pu rfl (WL.nil (WX.a (WC.ret ?_)))
     obtain rfl:=Option.some.inj h
     refine WX.y8 Tryd.results9 (.tmp rfl .nil) (fun w hw=>?_)
     exact ⟨(zpn ++ zpp),yx rfl,trivial,hw.sub (.cons .h7 .nil)⟩
    refine WD.y62 (fuel':=1) (fun (Zn4o1_10543 : Zp) (ao4o2_10543 : Option Addr) (cap4o3_10543 : Nat) (b8o1_10543 : Nat) (b9o1_10543 : Nat)=>[(1,(.slice z2v z1G.length z2w)),(8,(.pointer (some ⟨z2k,0,none⟩))),(10,(.pointer (some ⟨z2l,0,none⟩))),(73,(.agg #[(.int .u8 zK.2.fKind),(.int .i64 zK.2.fA),(.int .i64 zK.2.fB),(.slice ao4o2_10543 zK.2.fData.length cap4o3_10543)])),(12,(.pointer (some ⟨b9o1_10543,0,none⟩)))]) (fun (Zn4o1_10543 : Zp) (ao4o2_10543 : Option Addr) (cap4o3_10543 : Nat) (b8o1_10543 : Nat) (b9o1_10543 : Nat)=>[stb b8o1_10543 39 [(.int .i64 zK.1.fPc),(.int .i64 zK.1.fLeft),(.int .u8 zK.1.fRegs.a0),(.int .u8 zK.1.fRegs.a1),(.int .u8 zK.1.fRegs.a2),(.int .u8 zK.1.fRegs.a3)],stb b9o1_10543 41 [(.int .u8 0),(.int .i64 0),(.int .i64 0),(.slice none 0 0)],fz (((z1H ++ z2B) ++ z2C) ++ Zn4o1_10543),stb z2l 41 [(.int .u8 zt.2.fKind),(.int .i64 zt.2.fA),(.int .i64 zt.2.fB),(.slice z4I zt.2.fData.length z4J)],stb z4K 39 [(.int .i64 zt.1.fPc),(.int .i64 zt.1.fLeft),(.int .u8 zt.1.fRegs.a0),(.int .u8 zt.1.fRegs.a1),(.int .u8 zt.1.fRegs.a2),(.int .u8 zt.1.fRegs.a3)],stb z2k 41 [(.int .u8 zr.2.fKind),(.int .i64 zr.2.fA),(.int .i64 zr.2.fB),(.slice z4F zr.2.fData.length z4G)],stb z4H 39 [(.int .i64 zr.1.fPc),(.int .i64 zr.1.fLeft),(.int .u8 zr.1.fRegs.a0),(.int .u8 zr.1.fRegs.a1),(.int .u8 zr.1.fRegs.a2),(.int .u8 zr.1.fRegs.a3)],stb b2o1_10184 39 [(.int .i64 z1L),(.int .i64 z1M),(.int .u8 z1N),(.int .u8 z1O),(.int .u8 z1P),(.int .u8 z1Q)]]) (fun (Zn4o1_10543 : Zp) (ao4o2_10543 : Option Addr) (cap4o3_10543 : Nat) (b8o1_10543 : Nat) (b9o1_10543 : Nat)=>(ZS ((Z ++ ((z1H ++ z2B) ++ z2C)) ++ Zn4o1_10543) 1 (fun zK x=>zK = e5 x) ao4o2_10543 cap4o3_10543 zK.2.fData)) (y1s 12 [10,9,8,7,6,5,4,3,2,1,0]) ?_ (fun K4o5o6o7o8o9o10_10543=>?_)
    ·skip
     rintro Zn4o1_10543 ao4o2_10543 cap4o3_10543 b8o1_10543 b9o1_10543 hf4o4_10543
     refine WD.y30 (i:=11) rfl (by kernel_rfl) rfl rfl rfl (by kernel_rfl) (yC y1X rfl rfl rfl .h1 rfl rfl rfl) ?_
     exact WD.yZ (.cons .here (.cons .here (.cons .here (.cons .here (.cons .here (.cons .here (.cons .here (.cons .here .nil)))))))) (.cons rfl (.cons rfl (.cons rfl (.cons rfl .nil)))) (K4o5o6o7o8o9o10o11_10543 Zn4o1_10543 ao4o2_10543 cap4o3_10543 b8o1_10543 b9o1_10543 hf4o4_10543)
    refine WD.y62 (fuel':=2) (fun (Zn4o1_10543 : Zp) (ao4o2_10543 : Option Addr) (cap4o3_10543 : Nat) (b8o1_10543 : Nat) (b9o1_10543 : Nat)=>[(1,(.slice z2v z1G.length z2w)),(8,(.pointer (some ⟨z2k,0,none⟩))),(10,(.pointer (some ⟨z2l,0,none⟩))),(72,(.agg #[(.int .i64 zK.1.fPc),(.int .i64 zK.1.fLeft),(.int .u8 zK.1.fRegs.a0),(.int .u8 zK.1.fRegs.a1),(.int .u8 zK.1.fRegs.a2),(.int .u8 zK.1.fRegs.a3)])),(73,(.agg #[(.int .u8 zK.2.fKind),(.int .i64 zK.2.fA),(.int .i64 zK.2.fB),(.slice ao4o2_10543 zK.2.fData.length cap4o3_10543)])),(11,(.pointer (some ⟨b8o1_10543,0,none⟩))),(12,(.pointer (some ⟨b9o1_10543,0,none⟩)))]) (fun (Zn4o1_10543 : Zp) (ao4o2_10543 : Option Addr) (cap4o3_10543 : Nat) (b8o1_10543 : Nat) (b9o1_10543 : Nat)=>[stb b9o1_10543 41 [(.int .u8 0),(.int .i64 0),(.int .i64 0),(.slice none 0 0)],stb b8o1_10543 39 [(.int .i64 0),(.int .i64 0),(.int .u8 0),(.int .u8 0),(.int .u8 0),(.int .u8 0)],fz (((z1H ++ z2B) ++ z2C) ++ Zn4o1_10543),stb z2l 41 [(.int .u8 zt.2.fKind),(.int .i64 zt.2.fA),(.int .i64 zt.2.fB),(.slice z4I zt.2.fData.length z4J)],stb z4K 39 [(.int .i64 zt.1.fPc),(.int .i64 zt.1.fLeft),(.int .u8 zt.1.fRegs.a0),(.int .u8 zt.1.fRegs.a1),(.int .u8 zt.1.fRegs.a2),(.int .u8 zt.1.fRegs.a3)],stb z2k 41 [(.int .u8 zr.2.fKind),(.int .i64 zr.2.fA),(.int .i64 zr.2.fB),(.slice z4F zr.2.fData.length z4G)],stb z4H 39 [(.int .i64 zr.1.fPc),(.int .i64 zr.1.fLeft),(.int .u8 zr.1.fRegs.a0),(.int .u8 zr.1.fRegs.a1),(.int .u8 zr.1.fRegs.a2),(.int .u8 zr.1.fRegs.a3)],stb b2o1_10184 39 [(.int .i64 z1L),(.int .i64 z1M),(.int .u8 z1N),(.int .u8 z1O),(.int .u8 z1P),(.int .u8 z1Q)]]) (fun (Zn4o1_10543 : Zp) (ao4o2_10543 : Option Addr) (cap4o3_10543 : Nat) (b8o1_10543 : Nat) (b9o1_10543 : Nat)=>(ZS ((Z ++ ((z1H ++ z2B) ++ z2C)) ++ Zn4o1_10543) 1 (fun zK x=>zK = e5 x) ao4o2_10543 cap4o3_10543 zK.2.fData)) (y1s 12 [9,8,7,6,5,4,3,2,1,0]) ?_ (fun K4o5o6o7o8o9_10543=>?_)
    ·skip
     rintro Zn4o1_10543 ao4o2_10543 cap4o3_10543 b8o1_10543 b9o1_10543 hf4o4_10543
     refine WD.forced0 (i:=10) rfl (by kernel_rfl) rfl rfl rfl (Sin.of .nil) (yC y2S rfl rfl rfl .h1 rfl rfl rfl) ?_
     exact WD.yZ (.cons .here (.cons .here (.cons .here (.cons .here (.cons .here (.cons .here (.cons .here (.cons .here .nil)))))))) (.cons rfl (.cons rfl (.cons rfl (.cons rfl (.cons rfl .nil))))) (K4o5o6o7o8o9o10_10543 Zn4o1_10543 ao4o2_10543 cap4o3_10543 b8o1_10543 b9o1_10543 hf4o4_10543)
    refine WD.y6Z (fuel':=3) (fun (Zn4o1_10543 : Zp) (ao4o2_10543 : Option Addr) (cap4o3_10543 : Nat) (b8o1_10543 : Nat)=>[(1,(.slice z2v z1G.length z2w)),(8,(.pointer (some ⟨z2k,0,none⟩))),(10,(.pointer (some ⟨z2l,0,none⟩))),(72,(.agg #[(.int .i64 zK.1.fPc),(.int .i64 zK.1.fLeft),(.int .u8 zK.1.fRegs.a0),(.int .u8 zK.1.fRegs.a1),(.int .u8 zK.1.fRegs.a2),(.int .u8 zK.1.fRegs.a3)])),(73,(.agg #[(.int .u8 zK.2.fKind),(.int .i64 zK.2.fA),(.int .i64 zK.2.fB),(.slice ao4o2_10543 zK.2.fData.length cap4o3_10543)])),(11,(.pointer (some ⟨b8o1_10543,0,none⟩)))]) (fun (Zn4o1_10543 : Zp) (ao4o2_10543 : Option Addr) (cap4o3_10543 : Nat) (b8o1_10543 : Nat)=>[stb b8o1_10543 39 [(.int .i64 0),(.int .i64 0),(.int .u8 0),(.int .u8 0),(.int .u8 0),(.int .u8 0)],fz (((z1H ++ z2B) ++ z2C) ++ Zn4o1_10543),stb z2l 41 [(.int .u8 zt.2.fKind),(.int .i64 zt.2.fA),(.int .i64 zt.2.fB),(.slice z4I zt.2.fData.length z4J)],stb z4K 39 [(.int .i64 zt.1.fPc),(.int .i64 zt.1.fLeft),(.int .u8 zt.1.fRegs.a0),(.int .u8 zt.1.fRegs.a1),(.int .u8 zt.1.fRegs.a2),(.int .u8 zt.1.fRegs.a3)],stb z2k 41 [(.int .u8 zr.2.fKind),(.int .i64 zr.2.fA),(.int .i64 zr.2.fB),(.slice z4F zr.2.fData.length z4G)],stb z4H 39 [(.int .i64 zr.1.fPc),(.int .i64 zr.1.fLeft),(.int .u8 zr.1.fRegs.a0),(.int .u8 zr.1.fRegs.a1),(.int .u8 zr.1.fRegs.a2),(.int .u8 zr.1.fRegs.a3)],stb b2o1_10184 39 [(.int .i64 z1L),(.int .i64 z1M),(.int .u8 z1N),(.int .u8 z1O),(.int .u8 z1P),(.int .u8 z1Q)]]) (fun (Zn4o1_10543 : Zp) (ao4o2_10543 : Option Addr) (cap4o3_10543 : Nat) (b8o1_10543 : Nat)=>(ZS ((Z ++ ((z1H ++ z2B) ++ z2C)) ++ Zn4o1_10543) 1 (fun zK x=>zK = e5 x) ao4o2_10543 cap4o3_10543 zK.2.fData)) (y1s 12 [8,7,6,5,4,3,2,1,0]) ?_ (fun K4o5o6o7o8_10543=>?_)
    ·skip
     rintro Zn4o1_10543 ao4o2_10543 cap4o3_10543 b8o1_10543 hf4o4_10543
     refine WD.new (i:=9) (dd:=12) rfl (by kernel_rfl) rfl rfl rfl (yG (cs:=[(.int .u8 0),(.int .i64 0),(.int .i64 0),(.slice none 0 0)]) y2D rfl) (fun h'=>absurd h' (by decide)) ?_
     intro b9o1_10543 _
     exact WD.yZ (.cons .here (.cons .here (.cons .here (.cons .here (.cons .here (.cons .here (.cons .here (.cons .here .nil)))))))) (.cons rfl (.cons rfl (.cons rfl (.cons rfl (.cons rfl (.cons rfl (.cons rfl .nil))))))) (K4o5o6o7o8o9_10543 Zn4o1_10543 ao4o2_10543 cap4o3_10543 b8o1_10543 b9o1_10543 hf4o4_10543)
    refine WD.y6Z (fuel':=3) (fun (Zn4o1_10543 : Zp) (ao4o2_10543 : Option Addr) (cap4o3_10543 : Nat) (b9o1_10543 : Nat)=>[(1,(.slice z2v z1G.length z2w)),(8,(.pointer (some ⟨z2k,0,none⟩))),(10,(.pointer (some ⟨z2l,0,none⟩))),(72,(.agg #[(.int .i64 zK.1.fPc),(.int .i64 zK.1.fLeft),(.int .u8 zK.1.fRegs.a0),(.int .u8 zK.1.fRegs.a1),(.int .u8 zK.1.fRegs.a2),(.int .u8 zK.1.fRegs.a3)])),(73,(.agg #[(.int .u8 zK.2.fKind),(.int .i64 zK.2.fA),(.int .i64 zK.2.fB),(.slice ao4o2_10543 zK.2.fData.length cap4o3_10543)])),(12,(.pointer (some ⟨b9o1_10543,0,none⟩)))]) (fun (Zn4o1_10543 : Zp) (ao4o2_10543 : Option Addr) (cap4o3_10543 : Nat) (b9o1_10543 : Nat)=>[stb b9o1_10543 41 [(.int .u8 0),(.int .i64 0),(.int .i64 0),(.slice none 0 0)],fz (((z1H ++ z2B) ++ z2C) ++ Zn4o1_10543),stb z2l 41 [(.int .u8 zt.2.fKind),(.int .i64 zt.2.fA),(.int .i64 zt.2.fB),(.slice z4I zt.2.fData.length z4J)],stb z4K 39 [(.int .i64 zt.1.fPc),(.int .i64 zt.1.fLeft),(.int .u8 zt.1.fRegs.a0),(.int .u8 zt.1.fRegs.a1),(.int .u8 zt.1.fRegs.a2),(.int .u8 zt.1.fRegs.a3)],stb z2k 41 [(.int .u8 zr.2.fKind),(.int .i64 zr.2.fA),(.int .i64 zr.2.fB),(.slice z4F zr.2.fData.length z4G)],stb z4H 39 [(.int .i64 zr.1.fPc),(.int .i64 zr.1.fLeft),(.int .u8 zr.1.fRegs.a0),(.int .u8 zr.1.fRegs.a1),(.int .u8 zr.1.fRegs.a2),(.int .u8 zr.1.fRegs.a3)],stb b2o1_10184 39 [(.int .i64 z1L),(.int .i64 z1M),(.int .u8 z1N),(.int .u8 z1O),(.int .u8 z1P),(.int .u8 z1Q)]]) (fun (Zn4o1_10543 : Zp) (ao4o2_10543 : Option Addr) (cap4o3_10543 : Nat) (b9o1_10543 : Nat)=>(ZS ((Z ++ ((z1H ++ z2B) ++ z2C)) ++ Zn4o1_10543) 1 (fun zK x=>zK = e5 x) ao4o2_10543 cap4o3_10543 zK.2.fData)) (y1s 12 [9,7,6,5,4,3,2,1,0]) ?_ (fun K4o5o6o7o9_10543=>?_)
    ·skip
     rintro Zn4o1_10543 ao4o2_10543 cap4o3_10543 b9o1_10543 hf4o4_10543
     refine WD.new (i:=8) (dd:=11) rfl (by kernel_rfl) rfl rfl rfl (yG (cs:=[(.int .i64 0),(.int .i64 0),(.int .u8 0),(.int .u8 0),(.int .u8 0),(.int .u8 0)]) y1R rfl) (fun h'=>absurd h' (by decide)) ?_
     intro b8o1_10543 _
     exact WD.yZ (.cons .h1 (.cons .here (.cons .here (.cons .here (.cons .here (.cons .here (.cons .here (.cons .here .nil)))))))) (.cons rfl (.cons rfl (.cons rfl (.cons rfl (.cons rfl (.cons rfl (.cons rfl .nil))))))) (K4o5o6o7o8o9_10543 Zn4o1_10543 ao4o2_10543 cap4o3_10543 b8o1_10543 b9o1_10543 hf4o4_10543)
    refine WD.mids3 (fuel':=4) (fun (Zn4o1_10543 : Zp) (ao4o2_10543 : Option Addr) (cap4o3_10543 : Nat)=>[(1,(.slice z2v z1G.length z2w)),(8,(.pointer (some ⟨z2k,0,none⟩))),(10,(.pointer (some ⟨z2l,0,none⟩))),(72,(.agg #[(.int .i64 zK.1.fPc),(.int .i64 zK.1.fLeft),(.int .u8 zK.1.fRegs.a0),(.int .u8 zK.1.fRegs.a1),(.int .u8 zK.1.fRegs.a2),(.int .u8 zK.1.fRegs.a3)])),(73,(.agg #[(.int .u8 zK.2.fKind),(.int .i64 zK.2.fA),(.int .i64 zK.2.fB),(.slice ao4o2_10543 zK.2.fData.length cap4o3_10543)]))]) (fun (Zn4o1_10543 : Zp) (ao4o2_10543 : Option Addr) (cap4o3_10543 : Nat)=>[fz (((z1H ++ z2B) ++ z2C) ++ Zn4o1_10543),stb z2l 41 [(.int .u8 zt.2.fKind),(.int .i64 zt.2.fA),(.int .i64 zt.2.fB),(.slice z4I zt.2.fData.length z4J)],stb z4K 39 [(.int .i64 zt.1.fPc),(.int .i64 zt.1.fLeft),(.int .u8 zt.1.fRegs.a0),(.int .u8 zt.1.fRegs.a1),(.int .u8 zt.1.fRegs.a2),(.int .u8 zt.1.fRegs.a3)],stb z2k 41 [(.int .u8 zr.2.fKind),(.int .i64 zr.2.fA),(.int .i64 zr.2.fB),(.slice z4F zr.2.fData.length z4G)],stb z4H 39 [(.int .i64 zr.1.fPc),(.int .i64 zr.1.fLeft),(.int .u8 zr.1.fRegs.a0),(.int .u8 zr.1.fRegs.a1),(.int .u8 zr.1.fRegs.a2),(.int .u8 zr.1.fRegs.a3)],stb b2o1_10184 39 [(.int .i64 z1L),(.int .i64 z1M),(.int .u8 z1N),(.int .u8 z1O),(.int .u8 z1P),(.int .u8 z1Q)]]) (fun (Zn4o1_10543 : Zp) (ao4o2_10543 : Option Addr) (cap4o3_10543 : Nat)=>(ZS ((Z ++ ((z1H ++ z2B) ++ z2C)) ++ Zn4o1_10543) 1 (fun zK x=>zK = e5 x) ao4o2_10543 cap4o3_10543 zK.2.fData)) (y1s 12 [7,6,5,4,3,2,1,0]) ?_ (fun K4o5o6o7_10543=>?_)
    ·skip
     rintro Zn4o1_10543 ao4o2_10543 cap4o3_10543 hf4o4_10543
     refine WD.choose [8,9] (by kernel_rfl) rfl ?_
     refine WDo.cons ?_ (WDo.cons ?_ (WDo.nil))
     ·refine WDo.new (i:=8) (dd:=11) rfl rfl rfl rfl (yG (cs:=[(.int .i64 0),(.int .i64 0),(.int .u8 0),(.int .u8 0),(.int .u8 0),(.int .u8 0)]) y1R rfl) (fun h'=>absurd h' (by decide)) ?_
      intro b8o1_10543 _
      exact WD.yZ (.cons .here (.cons .here (.cons .here (.cons .here (.cons .here (.cons .here (.cons .here .nil))))))) (.cons rfl (.cons rfl (.cons rfl (.cons rfl (.cons rfl (.cons rfl .nil)))))) (K4o5o6o7o8_10543 Zn4o1_10543 ao4o2_10543 cap4o3_10543 b8o1_10543 hf4o4_10543)
     ·refine WDo.new (i:=9) (dd:=12) rfl rfl rfl rfl (yG (cs:=[(.int .u8 0),(.int .i64 0),(.int .i64 0),(.slice none 0 0)]) y2D rfl) (fun h'=>absurd h' (by decide)) ?_
      intro b9o1_10543 _
      exact WD.yZ (.cons .here (.cons .here (.cons .here (.cons .here (.cons .here (.cons .here (.cons .here .nil))))))) (.cons rfl (.cons rfl (.cons rfl (.cons rfl (.cons rfl (.cons rfl .nil)))))) (K4o5o6o7o9_10543 Zn4o1_10543 ao4o2_10543 cap4o3_10543 b9o1_10543 hf4o4_10543)
    refine WD.y61 (fuel':=6) (fun (b8o1_10543 : Nat) (b9o1_10543 : Nat)=>[(1,(.slice z2v z1G.length z2w)),(8,(.pointer (some ⟨z2k,0,none⟩))),(10,(.pointer (some ⟨z2l,0,none⟩))),(67,(.slice z2v z1G.length z2w)),(68,(.agg #[(.int .i64 z1L),(.int .i64 z1M),(.int .u8 z1N),(.int .u8 z1O),(.int .u8 z1P),(.int .u8 z1Q)])),(70,(.slice zbx ((z2K.take (20 : Int).toNat).length) zby)),(11,(.pointer (some ⟨b8o1_10543,0,none⟩))),(12,(.pointer (some ⟨b9o1_10543,0,none⟩)))]) (fun (b8o1_10543 : Nat) (b9o1_10543 : Nat)=>[stb b9o1_10543 41 [(.int .u8 0),(.int .i64 0),(.int .i64 0),(.slice none 0 0)],stb b8o1_10543 39 [(.int .i64 0),(.int .i64 0),(.int .u8 0),(.int .u8 0),(.int .u8 0),(.int .u8 0)],stb z2l 41 [(.int .u8 zt.2.fKind),(.int .i64 zt.2.fA),(.int .i64 zt.2.fB),(.slice z4I zt.2.fData.length z4J)],stb z4K 39 [(.int .i64 zt.1.fPc),(.int .i64 zt.1.fLeft),(.int .u8 zt.1.fRegs.a0),(.int .u8 zt.1.fRegs.a1),(.int .u8 zt.1.fRegs.a2),(.int .u8 zt.1.fRegs.a3)],fz ((z1H ++ z2B) ++ z2C),stb z2k 41 [(.int .u8 zr.2.fKind),(.int .i64 zr.2.fA),(.int .i64 zr.2.fB),(.slice z4F zr.2.fData.length z4G)],stb z4H 39 [(.int .i64 zr.1.fPc),(.int .i64 zr.1.fLeft),(.int .u8 zr.1.fRegs.a0),(.int .u8 zr.1.fRegs.a1),(.int .u8 zr.1.fRegs.a2),(.int .u8 zr.1.fRegs.a3)],stb b2o1_10184 39 [(.int .i64 z1L),(.int .i64 z1M),(.int .u8 z1N),(.int .u8 z1O),(.int .u8 z1P),(.int .u8 z1Q)]]) (fun (b8o1_10543 : Nat) (b9o1_10543 : Nat)=>True) (y1s 12 [9,8,3,2,1,0]) ?_ (fun K8o9_10543=>?_)
    ·skip
     rintro b8o1_10543 b9o1_10543 _
     refine WD.call3 (i:=4) (dd:=71) rfl (by kernel_rfl) rfl rfl rfl (.inr rfl) (zm (l:=[.tmp 67,.tmp 68,.tmp 70]) Tryd.call18 (.cons rfl (.cons rfl (.cons rfl .nil)))) .nil (ccz hz .nil .h4 fun w pz ho=>y1M _ _ _ _ _ _ _ _ _ z9B w pz (hG0.mono ((Zle.left _ _).trans (z1z.trans ((Zle.left _ _).trans ((Zle.y5 _ _ _).trans ((Zle.left _ _).trans (Zle.y5 _ _ _))))))) ((hG1.mono ((Zle.left _ _).trans (z1z.trans ((Zle.left _ _).trans ((Zle.y5 _ _ _).trans ((Zle.left _ _).trans (Zle.y5 _ _ _))))))).weak (fun _ _ h=>y13 ((Zle.left _ _).trans (z1z.trans ((Zle.left _ _).trans ((Zle.y5 _ _ _).trans ((Zle.left _ _).trans (Zle.y5 _ _ _)))))) h)) (z6l.mono ((Zle.left _ _).trans ((Zle.y5 _ _ _).trans ((Zle.left _ _).trans (Zle.y5 _ _ _))))) z9C) ?_
     rintro Zn4o1_10543 ao4o2_10543 cap4o3_10543 hf4o4_10543
     refine WD.merge .here .h4 ?_
     refine WD.a (i:=5) (d:=66) (by kernel_rfl) rfl z1 z2 rfl rfl rfl (fun _=>q_m rfl) ?_
     refine WD.a (i:=6) (d:=72) (by kernel_rfl) rfl z1 z2 rfl rfl rfl (fun _=>y21 rfl rfl) ?_
     refine WD.a (i:=7) (d:=73) (by kernel_rfl) rfl z1 z2 rfl rfl rfl (fun _=>y21 rfl rfl) ?_
     exact WD.yZ (.cons .h1 (.cons .h1 (.cons .here (.cons .here (.cons .here (.cons .here (.cons .here (.cons .here .nil)))))))) (.cons rfl (.cons rfl (.cons rfl (.cons rfl (.cons rfl (.cons rfl (.cons rfl .nil))))))) (K4o5o6o7o8o9_10543 Zn4o1_10543 ao4o2_10543 cap4o3_10543 b8o1_10543 b9o1_10543 hf4o4_10543)
    refine WD.y44 (fuel':=7) (fun (b8o1_10543 : Nat)=>[(1,(.slice z2v z1G.length z2w)),(8,(.pointer (some ⟨z2k,0,none⟩))),(10,(.pointer (some ⟨z2l,0,none⟩))),(67,(.slice z2v z1G.length z2w)),(68,(.agg #[(.int .i64 z1L),(.int .i64 z1M),(.int .u8 z1N),(.int .u8 z1O),(.int .u8 z1P),(.int .u8 z1Q)])),(70,(.slice zbx ((z2K.take (20 : Int).toNat).length) zby)),(11,(.pointer (some ⟨b8o1_10543,0,none⟩)))]) (fun (b8o1_10543 : Nat)=>[stb b8o1_10543 39 [(.int .i64 0),(.int .i64 0),(.int .u8 0),(.int .u8 0),(.int .u8 0),(.int .u8 0)],stb z2l 41 [(.int .u8 zt.2.fKind),(.int .i64 zt.2.fA),(.int .i64 zt.2.fB),(.slice z4I zt.2.fData.length z4J)],stb z4K 39 [(.int .i64 zt.1.fPc),(.int .i64 zt.1.fLeft),(.int .u8 zt.1.fRegs.a0),(.int .u8 zt.1.fRegs.a1),(.int .u8 zt.1.fRegs.a2),(.int .u8 zt.1.fRegs.a3)],fz ((z1H ++ z2B) ++ z2C),stb z2k 41 [(.int .u8 zr.2.fKind),(.int .i64 zr.2.fA),(.int .i64 zr.2.fB),(.slice z4F zr.2.fData.length z4G)],stb z4H 39 [(.int .i64 zr.1.fPc),(.int .i64 zr.1.fLeft),(.int .u8 zr.1.fRegs.a0),(.int .u8 zr.1.fRegs.a1),(.int .u8 zr.1.fRegs.a2),(.int .u8 zr.1.fRegs.a3)],stb b2o1_10184 39 [(.int .i64 z1L),(.int .i64 z1M),(.int .u8 z1N),(.int .u8 z1O),(.int .u8 z1P),(.int .u8 z1Q)]]) (fun (b8o1_10543 : Nat)=>True) (y1s 12 [8,3,2,1,0]) ?_ (fun K8_10543=>?_)
    ·skip
     rintro b8o1_10543 _
     refine WD.choose [4,9] (by kernel_rfl) rfl ?_
     refine WDo.cons ?_ (WDo.cons ?_ (WDo.nil))
     ·refine WDo.call3 (i:=4) (dd:=71) rfl rfl rfl rfl (.inr rfl) (zm (l:=[.tmp 67,.tmp 68,.tmp 70]) Tryd.call18 (.cons rfl (.cons rfl (.cons rfl .nil)))) .nil (ccz hz .nil .h3 fun w pz ho=>y1M _ _ _ _ _ _ _ _ _ z9B w pz (hG0.mono ((Zle.left _ _).trans (z1z.trans ((Zle.left _ _).trans ((Zle.y5 _ _ _).trans ((Zle.left _ _).trans (Zle.y5 _ _ _))))))) ((hG1.mono ((Zle.left _ _).trans (z1z.trans ((Zle.left _ _).trans ((Zle.y5 _ _ _).trans ((Zle.left _ _).trans (Zle.y5 _ _ _))))))).weak (fun _ _ h=>y13 ((Zle.left _ _).trans (z1z.trans ((Zle.left _ _).trans ((Zle.y5 _ _ _).trans ((Zle.left _ _).trans (Zle.y5 _ _ _)))))) h)) (z6l.mono ((Zle.left _ _).trans ((Zle.y5 _ _ _).trans ((Zle.left _ _).trans (Zle.y5 _ _ _))))) z9C) ?_
      rintro Zn4o1_10543 ao4o2_10543 cap4o3_10543 hf4o4_10543
      refine WD.merge .here .h3 ?_
      refine WD.a (i:=5) (d:=66) (by kernel_rfl) rfl z1 z2 rfl rfl rfl (fun _=>q_m rfl) ?_
      refine WD.a (i:=6) (d:=72) (by kernel_rfl) rfl z1 z2 rfl rfl rfl (fun _=>y21 rfl rfl) ?_
      refine WD.a (i:=7) (d:=73) (by kernel_rfl) rfl z1 z2 rfl rfl rfl (fun _=>y21 rfl rfl) ?_
      exact WD.yZ (.cons .h1 (.cons .here (.cons .here (.cons .here (.cons .here (.cons .here (.cons .here .nil))))))) (.cons rfl (.cons rfl (.cons rfl (.cons rfl (.cons rfl (.cons rfl .nil)))))) (K4o5o6o7o8_10543 Zn4o1_10543 ao4o2_10543 cap4o3_10543 b8o1_10543 hf4o4_10543)
     ·refine WDo.new (i:=9) (dd:=12) rfl rfl rfl rfl (yG (cs:=[(.int .u8 0),(.int .i64 0),(.int .i64 0),(.slice none 0 0)]) y2D rfl) (fun h'=>absurd h' (by decide)) ?_
      intro b9o1_10543 _
      exact WD.yZ (.cons .here (.cons .here (.cons .here (.cons .here (.cons .here (.cons .here (.cons .here (.cons .here .nil)))))))) (.cons rfl (.cons rfl (.cons rfl (.cons rfl (.cons rfl (.cons rfl (.cons rfl (.cons rfl .nil)))))))) (K8o9_10543 b8o1_10543 b9o1_10543 trivial)
    refine WD.y44 (fuel':=7) (fun (b9o1_10543 : Nat)=>[(1,(.slice z2v z1G.length z2w)),(8,(.pointer (some ⟨z2k,0,none⟩))),(10,(.pointer (some ⟨z2l,0,none⟩))),(67,(.slice z2v z1G.length z2w)),(68,(.agg #[(.int .i64 z1L),(.int .i64 z1M),(.int .u8 z1N),(.int .u8 z1O),(.int .u8 z1P),(.int .u8 z1Q)])),(70,(.slice zbx ((z2K.take (20 : Int).toNat).length) zby)),(12,(.pointer (some ⟨b9o1_10543,0,none⟩)))]) (fun (b9o1_10543 : Nat)=>[stb b9o1_10543 41 [(.int .u8 0),(.int .i64 0),(.int .i64 0),(.slice none 0 0)],stb z2l 41 [(.int .u8 zt.2.fKind),(.int .i64 zt.2.fA),(.int .i64 zt.2.fB),(.slice z4I zt.2.fData.length z4J)],stb z4K 39 [(.int .i64 zt.1.fPc),(.int .i64 zt.1.fLeft),(.int .u8 zt.1.fRegs.a0),(.int .u8 zt.1.fRegs.a1),(.int .u8 zt.1.fRegs.a2),(.int .u8 zt.1.fRegs.a3)],fz ((z1H ++ z2B) ++ z2C),stb z2k 41 [(.int .u8 zr.2.fKind),(.int .i64 zr.2.fA),(.int .i64 zr.2.fB),(.slice z4F zr.2.fData.length z4G)],stb z4H 39 [(.int .i64 zr.1.fPc),(.int .i64 zr.1.fLeft),(.int .u8 zr.1.fRegs.a0),(.int .u8 zr.1.fRegs.a1),(.int .u8 zr.1.fRegs.a2),(.int .u8 zr.1.fRegs.a3)],stb b2o1_10184 39 [(.int .i64 z1L),(.int .i64 z1M),(.int .u8 z1N),(.int .u8 z1O),(.int .u8 z1P),(.int .u8 z1Q)]]) (fun (b9o1_10543 : Nat)=>True) (y1s 12 [9,3,2,1,0]) ?_ (fun K9_10543=>?_)
    ·skip
     rintro b9o1_10543 _
     refine WD.choose [4,8] (by kernel_rfl) rfl ?_
     refine WDo.cons ?_ (WDo.cons ?_ (WDo.nil))
     ·refine WDo.call3 (i:=4) (dd:=71) rfl rfl rfl rfl (.inr rfl) (zm (l:=[.tmp 67,.tmp 68,.tmp 70]) Tryd.call18 (.cons rfl (.cons rfl (.cons rfl .nil)))) .nil (ccz hz .nil .h3 fun w pz ho=>y1M _ _ _ _ _ _ _ _ _ z9B w pz (hG0.mono ((Zle.left _ _).trans (z1z.trans ((Zle.left _ _).trans ((Zle.y5 _ _ _).trans ((Zle.left _ _).trans (Zle.y5 _ _ _))))))) ((hG1.mono ((Zle.left _ _).trans (z1z.trans ((Zle.left _ _).trans ((Zle.y5 _ _ _).trans ((Zle.left _ _).trans (Zle.y5 _ _ _))))))).weak (fun _ _ h=>y13 ((Zle.left _ _).trans (z1z.trans ((Zle.left _ _).trans ((Zle.y5 _ _ _).trans ((Zle.left _ _).trans (Zle.y5 _ _ _)))))) h)) (z6l.mono ((Zle.left _ _).trans ((Zle.y5 _ _ _).trans ((Zle.left _ _).trans (Zle.y5 _ _ _))))) z9C) ?_
      rintro Zn4o1_10543 ao4o2_10543 cap4o3_10543 hf4o4_10543
      refine WD.merge .here .h3 ?_
      refine WD.a (i:=5) (d:=66) (by kernel_rfl) rfl z1 z2 rfl rfl rfl (fun _=>q_m rfl) ?_
      refine WD.a (i:=6) (d:=72) (by kernel_rfl) rfl z1 z2 rfl rfl rfl (fun _=>y21 rfl rfl) ?_
      refine WD.a (i:=7) (d:=73) (by kernel_rfl) rfl z1 z2 rfl rfl rfl (fun _=>y21 rfl rfl) ?_
      exact WD.yZ (.cons .h1 (.cons .here (.cons .here (.cons .here (.cons .here (.cons .here (.cons .here .nil))))))) (.cons rfl (.cons rfl (.cons rfl (.cons rfl (.cons rfl (.cons rfl .nil)))))) (K4o5o6o7o9_10543 Zn4o1_10543 ao4o2_10543 cap4o3_10543 b9o1_10543 hf4o4_10543)
     ·refine WDo.new (i:=8) (dd:=11) rfl rfl rfl rfl (yG (cs:=[(.int .i64 0),(.int .i64 0),(.int .u8 0),(.int .u8 0),(.int .u8 0),(.int .u8 0)]) y1R rfl) (fun h'=>absurd h' (by decide)) ?_
      intro b8o1_10543 _
      exact WD.yZ (.cons .h1 (.cons .here (.cons .here (.cons .here (.cons .here (.cons .here (.cons .here (.cons .here .nil)))))))) (.cons rfl (.cons rfl (.cons rfl (.cons rfl (.cons rfl (.cons rfl (.cons rfl (.cons rfl .nil)))))))) (K8o9_10543 b8o1_10543 b9o1_10543 trivial)
    refine WD.choose [4,8,9] (by kernel_rfl) rfl ?_
    refine WDo.cons ?_ (WDo.cons ?_ (WDo.cons ?_ (WDo.nil)))
    ·refine WDo.call3 (i:=4) (dd:=71) rfl rfl rfl rfl (.inr rfl) (zm (l:=[.tmp 67,.tmp 68,.tmp 70]) Tryd.call18 (.cons rfl (.cons rfl (.cons rfl .nil)))) .nil (ccz hz .nil .h2 fun w pz ho=>y1M _ _ _ _ _ _ _ _ _ z9B w pz (hG0.mono ((Zle.left _ _).trans (z1z.trans ((Zle.left _ _).trans ((Zle.y5 _ _ _).trans ((Zle.left _ _).trans (Zle.y5 _ _ _))))))) ((hG1.mono ((Zle.left _ _).trans (z1z.trans ((Zle.left _ _).trans ((Zle.y5 _ _ _).trans ((Zle.left _ _).trans (Zle.y5 _ _ _))))))).weak (fun _ _ h=>y13 ((Zle.left _ _).trans (z1z.trans ((Zle.left _ _).trans ((Zle.y5 _ _ _).trans ((Zle.left _ _).trans (Zle.y5 _ _ _)))))) h)) (z6l.mono ((Zle.left _ _).trans ((Zle.y5 _ _ _).trans ((Zle.left _ _).trans (Zle.y5 _ _ _))))) z9C) ?_
     rintro Zn4o1_10543 ao4o2_10543 cap4o3_10543 hf4o4_10543
     refine WD.merge .here .h2 ?_
     refine WD.a (i:=5) (d:=66) (by kernel_rfl) rfl z1 z2 rfl rfl rfl (fun _=>q_m rfl) ?_
     refine WD.a (i:=6) (d:=72) (by kernel_rfl) rfl z1 z2 rfl rfl rfl (fun _=>y21 rfl rfl) ?_
     refine WD.a (i:=7) (d:=73) (by kernel_rfl) rfl z1 z2 rfl rfl rfl (fun _=>y21 rfl rfl) ?_
     exact WD.yZ (.cons .here (.cons .here (.cons .here (.cons .here (.cons .here (.cons .here .nil)))))) (.cons rfl (.cons rfl (.cons rfl (.cons rfl (.cons rfl .nil))))) (K4o5o6o7_10543 Zn4o1_10543 ao4o2_10543 cap4o3_10543 hf4o4_10543)
    ·refine WDo.new (i:=8) (dd:=11) rfl rfl rfl rfl (yG (cs:=[(.int .i64 0),(.int .i64 0),(.int .u8 0),(.int .u8 0),(.int .u8 0),(.int .u8 0)]) y1R rfl) (fun h'=>absurd h' (by decide)) ?_
     intro b8o1_10543 _
     exact WD.yZ (.cons .here (.cons .here (.cons .here (.cons .here (.cons .here (.cons .here (.cons .here .nil))))))) (.cons rfl (.cons rfl (.cons rfl (.cons rfl (.cons rfl (.cons rfl (.cons rfl .nil))))))) (K8_10543 b8o1_10543 trivial)
    ·refine WDo.new (i:=9) (dd:=12) rfl rfl rfl rfl (yG (cs:=[(.int .u8 0),(.int .i64 0),(.int .i64 0),(.slice none 0 0)]) y2D rfl) (fun h'=>absurd h' (by decide)) ?_
     intro b9o1_10543 _
     exact WD.yZ (.cons .here (.cons .here (.cons .here (.cons .here (.cons .here (.cons .here (.cons .here .nil))))))) (.cons rfl (.cons rfl (.cons rfl (.cons rfl (.cons rfl (.cons rfl (.cons rfl .nil))))))) (K9_10543 b9o1_10543 trivial)
 refine WD.y61 (fuel':=2) (fun (b1o1_10184 : Nat) (b2o1_10184 : Nat)=>[(1,(.slice (some ⟨z3q,0,none⟩) (([z23,z24,z25,z26,z27] : List Sapi_Ins).length) 5)),(31,(.agg #[(.int .i64 0),(.int .i64 0),(.int .u8 0),(.int .u8 0),(.int .u8 0),(.int .u8 0)])),(32,(.slice (some ⟨b1o1_10184,0,none⟩) ((List.replicate (32 : Int).toNat (0 : Int)).length) ((32 : Int).toNat))),(2,(.pointer (some ⟨b2o1_10184,0,none⟩)))]) (fun (b1o1_10184 : Nat) (b2o1_10184 : Nat)=>[stb b2o1_10184 39 [(.int .i64 0),(.int .i64 0),(.int .u8 0),(.int .u8 0),(.int .u8 0),(.int .u8 0)],row (.slice (some ⟨b1o1_10184,0,none⟩) ((List.replicate (32 : Int).toNat (0 : Int)).length) ((32 : Int).toNat)) 5 1 ((List.replicate (32 : Int).toNat (0 : Int)).flatMap e5),row (.slice (some ⟨z3q,0,none⟩) (([z23,z24,z25,z26,z27] : List Sapi_Ins).length) 5) 33 4 (([z23,z24,z25,z26,z27] : List Sapi_Ins).flatMap e33),row (.slice (some ⟨z8G,0,none⟩) (([1,16,0] : List Int).length) 3) 3 1 (([1,16,0] : List Int).flatMap e3),row (.slice (some ⟨z8F,0,none⟩) (([1,0] : List Int).length) 2) 3 1 (([1,0] : List Int).flatMap e3),row (.slice (some ⟨z8E,0,none⟩) (([3] : List Int).length) 1) 3 1 (([3] : List Int).flatMap e3),row (.slice (some ⟨z8D,0,none⟩) (([0,5] : List Int).length) 2) 3 1 (([0,5] : List Int).flatMap e3),fz []]) (fun (b1o1_10184 : Nat) (b2o1_10184 : Nat)=>True) (y1s 5 [2,1,0]) ?_ (fun K1o2_10184=>?_)
 ·skip
  rintro b1o1_10184 b2o1_10184 _
  refine WD.forced0 (i:=3) rfl (by kernel_rfl) rfl rfl rfl (Sin.of .nil) (yC y2S rfl rfl rfl .here rfl rfl rfl) ?_
  refine WD.a (i:=4) (d:=3) (by kernel_rfl) rfl z1 z2 rfl rfl rfl (fun _=>q_z rfl) ?_
  exact WD.yZ (.cons .here (.cons .here (.cons .here (.cons .here (.cons .here (.cons .here (.cons .here (.cons .here .nil)))))))) (.cons rfl (.cons rfl (.cons rfl .nil))) (K1o2o3o4_10184 b1o1_10184 b2o1_10184 trivial)
 refine WD.y44 (fuel':=2) (fun (b2o1_10184 : Nat)=>[(1,(.slice (some ⟨z3q,0,none⟩) (([z23,z24,z25,z26,z27] : List Sapi_Ins).length) 5)),(2,(.pointer (some ⟨b2o1_10184,0,none⟩)))]) (fun (b2o1_10184 : Nat)=>[stb b2o1_10184 39 [(.int .i64 0),(.int .i64 0),(.int .u8 0),(.int .u8 0),(.int .u8 0),(.int .u8 0)],row (.slice (some ⟨z3q,0,none⟩) (([z23,z24,z25,z26,z27] : List Sapi_Ins).length) 5) 33 4 (([z23,z24,z25,z26,z27] : List Sapi_Ins).flatMap e33),row (.slice (some ⟨z8G,0,none⟩) (([1,16,0] : List Int).length) 3) 3 1 (([1,16,0] : List Int).flatMap e3),row (.slice (some ⟨z8F,0,none⟩) (([1,0] : List Int).length) 2) 3 1 (([1,0] : List Int).flatMap e3),row (.slice (some ⟨z8E,0,none⟩) (([3] : List Int).length) 1) 3 1 (([3] : List Int).flatMap e3),row (.slice (some ⟨z8D,0,none⟩) (([0,5] : List Int).length) 2) 3 1 (([0,5] : List Int).flatMap e3),fz []]) (fun (b2o1_10184 : Nat)=>True) (y1s 5 [3,2,0]) ?_ (fun K2o3_10184=>?_)
 ·skip
  rintro b2o1_10184 _
  refine WD.new (i:=1) (dd:=32) rfl (by kernel_rfl) rfl rfl rfl (y2Q (r:=[(.int .u8 0)]) (z0:=(0 : Int)) y2L y5S rfl rfl rfl rfl zbq) (fun h'=>absurd h' (by decide)) ?_
  intro b1o1_10184 _
  refine WD.rowEqD .here (cs':=(List.replicate (32 : Int).toNat (0 : Int)).flatMap e5) (y3I (enc:=e5) (0 : Int) _) ?_
  refine WD.a (i:=4) (d:=3) (by kernel_rfl) rfl z1 z2 rfl rfl rfl (fun _=>q_z rfl) ?_
  exact WD.yZ (.cons .h1 (.cons .here (.cons .here (.cons .here (.cons .here (.cons .here (.cons .here (.cons .here .nil)))))))) (.cons rfl (.cons rfl (.cons rfl .nil))) (K1o2o3o4_10184 b1o1_10184 b2o1_10184 trivial)
 refine WD.y44 (fuel':=3) (fun (b1o1_10184 : Nat)=>[(1,(.slice (some ⟨z3q,0,none⟩) (([z23,z24,z25,z26,z27] : List Sapi_Ins).length) 5)),(31,(.agg #[(.int .i64 0),(.int .i64 0),(.int .u8 0),(.int .u8 0),(.int .u8 0),(.int .u8 0)])),(32,(.slice (some ⟨b1o1_10184,0,none⟩) ((List.replicate (32 : Int).toNat (0 : Int)).length) ((32 : Int).toNat)))]) (fun (b1o1_10184 : Nat)=>[row (.slice (some ⟨b1o1_10184,0,none⟩) ((List.replicate (32 : Int).toNat (0 : Int)).length) ((32 : Int).toNat)) 5 1 ((List.replicate (32 : Int).toNat (0 : Int)).flatMap e5),row (.slice (some ⟨z3q,0,none⟩) (([z23,z24,z25,z26,z27] : List Sapi_Ins).length) 5) 33 4 (([z23,z24,z25,z26,z27] : List Sapi_Ins).flatMap e33),row (.slice (some ⟨z8G,0,none⟩) (([1,16,0] : List Int).length) 3) 3 1 (([1,16,0] : List Int).flatMap e3),row (.slice (some ⟨z8F,0,none⟩) (([1,0] : List Int).length) 2) 3 1 (([1,0] : List Int).flatMap e3),row (.slice (some ⟨z8E,0,none⟩) (([3] : List Int).length) 1) 3 1 (([3] : List Int).flatMap e3),row (.slice (some ⟨z8D,0,none⟩) (([0,5] : List Int).length) 2) 3 1 (([0,5] : List Int).flatMap e3),fz []]) (fun (b1o1_10184 : Nat)=>True) (y1s 5 [1,0]) ?_ (fun K1_10184=>?_)
 ·skip
  rintro b1o1_10184 _
  refine WD.new (i:=2) (dd:=2) rfl (by kernel_rfl) rfl rfl rfl (yG (cs:=[(.int .i64 0),(.int .i64 0),(.int .u8 0),(.int .u8 0),(.int .u8 0),(.int .u8 0)]) y1R rfl) (fun h'=>absurd h' (by decide)) ?_
  intro b2o1_10184 _
  exact WD.yZ (.cons .here (.cons .here (.cons .here (.cons .here (.cons .here (.cons .here (.cons .here (.cons .here .nil)))))))) (.cons rfl (.cons rfl (.cons rfl (.cons rfl .nil)))) (K1o2_10184 b1o1_10184 b2o1_10184 trivial)
 refine WD.y44 (fuel':=3) (fun (b2o1_10184 : Nat)=>[(1,(.slice (some ⟨z3q,0,none⟩) (([z23,z24,z25,z26,z27] : List Sapi_Ins).length) 5)),(31,(.agg #[(.int .i64 0),(.int .i64 0),(.int .u8 0),(.int .u8 0),(.int .u8 0),(.int .u8 0)])),(2,(.pointer (some ⟨b2o1_10184,0,none⟩)))]) (fun (b2o1_10184 : Nat)=>[stb b2o1_10184 39 [(.int .i64 0),(.int .i64 0),(.int .u8 0),(.int .u8 0),(.int .u8 0),(.int .u8 0)],row (.slice (some ⟨z3q,0,none⟩) (([z23,z24,z25,z26,z27] : List Sapi_Ins).length) 5) 33 4 (([z23,z24,z25,z26,z27] : List Sapi_Ins).flatMap e33),row (.slice (some ⟨z8G,0,none⟩) (([1,16,0] : List Int).length) 3) 3 1 (([1,16,0] : List Int).flatMap e3),row (.slice (some ⟨z8F,0,none⟩) (([1,0] : List Int).length) 2) 3 1 (([1,0] : List Int).flatMap e3),row (.slice (some ⟨z8E,0,none⟩) (([3] : List Int).length) 1) 3 1 (([3] : List Int).flatMap e3),row (.slice (some ⟨z8D,0,none⟩) (([0,5] : List Int).length) 2) 3 1 (([0,5] : List Int).flatMap e3),fz []]) (fun (b2o1_10184 : Nat)=>True) (y1s 5 [2,0]) ?_ (fun K2_10184=>?_)
 ·skip
  rintro b2o1_10184 _
  refine WD.choose [1,3] (by kernel_rfl) rfl ?_
  refine WDo.cons ?_ (WDo.cons ?_ (WDo.nil))
  ·refine WDo.new (i:=1) (dd:=32) rfl rfl rfl rfl (y2Q (r:=[(.int .u8 0)]) (z0:=(0 : Int)) y2L y5S rfl rfl rfl rfl zbq) (fun h'=>absurd h' (by decide)) ?_
   intro b1o1_10184 _
   refine WD.rowEqD .here (cs':=(List.replicate (32 : Int).toNat (0 : Int)).flatMap e5) (y3I (enc:=e5) (0 : Int) _) ?_
   exact WD.yZ (.cons .h1 (.cons .here (.cons .here (.cons .here (.cons .here (.cons .here (.cons .here (.cons .here .nil)))))))) (.cons rfl (.cons rfl (.cons rfl (.cons rfl .nil)))) (K1o2_10184 b1o1_10184 b2o1_10184 trivial)
  ·refine WDo.forced0 (i:=3) rfl rfl rfl rfl (Sin.of .nil) (yC y2S rfl rfl rfl .here rfl rfl rfl) ?_
   exact WD.yZ (.cons .here (.cons .here (.cons .here (.cons .here (.cons .here (.cons .here (.cons .here .nil))))))) (.cons rfl (.cons rfl .nil)) (K2o3_10184 b2o1_10184 trivial)
 refine WD.choose [1,2] (by kernel_rfl) rfl ?_
 refine WDo.cons ?_ (WDo.cons ?_ (WDo.nil))
 ·refine WDo.new (i:=1) (dd:=32) rfl rfl rfl rfl (y2Q (r:=[(.int .u8 0)]) (z0:=(0 : Int)) y2L y5S rfl rfl rfl rfl zbq) (fun h'=>absurd h' (by decide)) ?_
  intro b1o1_10184 _
  refine WD.rowEqD .here (cs':=(List.replicate (32 : Int).toNat (0 : Int)).flatMap e5) (y3I (enc:=e5) (0 : Int) _) ?_
  exact WD.yZ (.cons .here (.cons .here (.cons .here (.cons .here (.cons .here (.cons .here (.cons .here .nil))))))) (.cons rfl (.cons rfl (.cons rfl .nil))) (K1_10184 b1o1_10184 trivial)
 ·refine WDo.new (i:=2) (dd:=2) rfl rfl rfl rfl (yG (cs:=[(.int .i64 0),(.int .i64 0),(.int .u8 0),(.int .u8 0),(.int .u8 0),(.int .u8 0)]) y1R rfl) (fun h'=>absurd h' (by decide)) ?_
  intro b2o1_10184 _
  exact WD.yZ (.cons .here (.cons .here (.cons .here (.cons .here (.cons .here (.cons .here (.cons .here .nil))))))) (.cons rfl (.cons rfl (.cons rfl .nil))) (K2_10184 b2o1_10184 trivial)
def y5j (z7U : Int) (z7V : Int) : Option Int :=
 some (i64 ((i64 (1000003 * (i64 (z7U + 7)))) + z7V))
set_option maxRecDepth 20000 in
theorem y7T (Z : Zp)  (z7U : Int) (z7V : Int) (r : Int)
  (h : y5j z7U z7V = some r) (w₀ : World) (hz : PZ [] w₀ Z) :
  Calls Tryd.prog 46 #[(.int .i64 z7U),(.int .i64 z7V)] w₀ fun e w'=>e = .returned (.int .i64 r) ∧ Hp [] w₀ w' []:=by
 unfold y5j at h
 refine Calls.ya (vs:=[(.int .i64 z7U),(.int .i64 z7V)]) (pre:=[]) (env:=[(0,(.int .i64 z7U)),(1,(.int .i64 z7V))]) Tryd.func46 rfl Tryd.ntmps46 rfl (Hp.nil w₀ _) rfl ?_
 refine WC.b (WC.a (WL.pu rfl (WL.nil (WX.a (WC.b (WC.a (WL.pu rfl (WL.pu rfl (WL.pu rfl (WL.pu rfl (WL.pu rfl (WL.pu rfl (WL.nil (WX.a (WC.ret ?_)))))))))))))))
 obtain rfl:=Option.some.inj h
 refine WX.y8 Tryd.results46 (.tmp rfl .nil) (fun w hw=>?_)
 exact ⟨yx rfl,hw.sub .nil⟩
def y2N (z7W : Int) (z7X : Int) : Option Sapi_Ins :=
 (y5j z7W z7X).bind fun zbz=>some (⟨0,zbz,0,0⟩ : Sapi_Ins)
set_option maxRecDepth 20000 in
theorem y5p (Z : Zp)  (z7W : Int) (z7X : Int) (r : Sapi_Ins)
  (h : y2N z7W z7X = some r) (w₀ : World) (hz : PZ [] w₀ Z) :
  Calls Tryd.prog 38 #[(.int .i64 z7W),(.int .i64 z7X)] w₀ fun e w'=>e = .returned (.agg #[(.int .u8 r.fOp),(.int .i64 r.fA),(.int .i64 r.fB),(.int .i64 r.fC)]) ∧ Hp [] w₀ w' []:=by
 unfold y2N at h
 refine Calls.ya (vs:=[(.int .i64 z7W),(.int .i64 z7X)]) (pre:=[]) (env:=[(0,(.int .i64 z7W)),(1,(.int .i64 z7X))]) Tryd.func38 rfl Tryd.ntmps38 rfl (Hp.nil w₀ _) rfl ?_
 refine WC.b (WC.a ?_)
 refine WL.new (dd:=4) rfl rfl rfl (yG (cs:=[(.int .u8 0),(.int .i64 0),(.int .i64 0),(.int .i64 0)]) y3m rfl) ?_
 intro zsP _
 refine WL.nil (WX.a (WC.b ?_))
 obtain ⟨zbz,zpL,h⟩:=zd h
 refine WC.a (WL.pu rfl (WL.pu rfl ?_))
 refine WL.b (dd:=7) rfl rfl rfl (zm (l:=[.tmp 5,.tmp 6]) Tryd.call46 (.cons rfl (.cons rfl .nil))) .nil (cc hz .nil fun w pz ho=>y7T _ _ _ _ zpL w pz ) ?_
 refine WL.a (d:=8) rfl rfl rfl (y1b (v:=(.agg #[(.int .u8 0),(.int .i64 zbz),(.int .i64 0),(.int .i64 0)])) (Eos.parts (l:=[.tmp 7]) (.cons rfl .nil) [1]) (fun _=>by kernel_rfl)) ?_
 refine WL.yq rfl rfl (yC y3K rfl rfl rfl .here rfl rfl rfl) ?_
 refine WL.nil (WX.a (WC.ret ?_))
 obtain rfl:=Option.some.inj h
 refine WX.y8 Tryd.results38 (.agg rfl y1N rfl (y1l .here) .nil) (fun w hw=>?_)
 exact ⟨yx rfl,hw.sub .nil⟩
def yY (z3s : (List Sapi_Ins) → Option (List Sapi_Ins)) : Nat → (List Sapi_Ins) → Int → Option (List Sapi_Ins)
 | 0,_,_=>none
 | zbA + 1,z2m,z2W=>if decide (z2W < 12) then (y2N 1 z2W).bind fun z6m=>chk ((((z2m ++ ([z6m] : List Sapi_Ins)).length : Nat) : Int) * 32 ≤ 140737488355328 ∧ (((z2m ++ ([z6m] : List Sapi_Ins)).length : Nat) : Int) ≤ 4611686018427387904) (yY z3s zbA (z2m ++ ([z6m] : List Sapi_Ins)) (i64 (z2W + 1))) else z3s z2m
theorem y4x {n : Nat} {z3s : (List Sapi_Ins) → Option (List Sapi_Ins)} {z2m : List Sapi_Ins} {z2W : Int} {r : List Sapi_Ins} (h : yY z3s n z2m z2W = some r) : ∃ m,n = m + 1:=by
 cases n with
 | zero=>cases h
 | succ m=>exact ⟨m,rfl⟩
def y3f (z29 : List Sapi_Ins) : Option (List Sapi_Ins) :=
 chk ((0 : Int) ≤ 0 ∧ (0 : Int) ≤ (i64 (((z29.length : Nat) : Int) + 12)) ∧ (i64 (((z29.length : Nat) : Int) + 12) : Int) * 32 ≤ 140737488355328 ∧ (i64 (((z29.length : Nat) : Int) + 12) : Int) ≤ 4611686018427387904) (chk (((((List.replicate (0 : Int).toNat ((⟨0,0,0,0⟩ : Sapi_Ins) : Sapi_Ins)) ++ z29).length : Nat) : Int) * 32 ≤ 140737488355328 ∧ ((((List.replicate (0 : Int).toNat ((⟨0,0,0,0⟩ : Sapi_Ins) : Sapi_Ins)) ++ z29).length : Nat) : Int) ≤ 4611686018427387904) (jp1 (fun (z2P : List Sapi_Ins)=>chk ((0 : Int) ≤ ((z29.length : Nat) : Int) ∧ ((z29.length : Nat) : Int) ≤ ((z2P.length : Nat) : Int)) (some z2P)) fun z3s=>yY z3s yB ((List.replicate (0 : Int).toNat ((⟨0,0,0,0⟩ : Sapi_Ins) : Sapi_Ins)) ++ z29) 0))
set_option maxRecDepth 20000 in
theorem y6w (Z : Zp) (z7Y : Option Addr) (z7Z : Nat) (z29 : List Sapi_Ins) (r : List Sapi_Ins)
  (h : y3f z29 = some r) (w₀ : World) (hz : PZ [] w₀ Z)
  (zpM : ZS Z 4 (fun r x=>r = e33 x) z7Y z7Z z29) :
  Calls Tryd.prog 23 #[(.slice z7Y z29.length z7Z)] w₀ fun e w'=>∃ zgd : Option Addr,∃ zge : Nat,e = .returned (.slice zgd z29.length zge) ∧ True ∧ Hp [] w₀ w' [row (.slice zgd r.length zge) 33 4 (r.flatMap e33)]:=by
 unfold y3f at h
 refine Calls.ya (vs:=[(.slice z7Y z29.length z7Z)]) (pre:=[]) (env:=[(0,(.slice z7Y z29.length z7Z))]) Tryd.func23 rfl Tryd.ntmps23 rfl (Hp.nil w₀ _) rfl ?_
 refine WC.b (WC.a (WL.pu rfl (WL.nil (WX.a (WC.b ?_)))))
 obtain ⟨zpN,h⟩:=yb h
 refine WC.a (WL.pu rfl ?_)
 refine WL.a (d:=6) rfl rfl rfl (yH Tryd.underlying22 rfl) ?_
 refine WL.pu rfl ?_
 refine WL.new (dd:=8) rfl rfl rfl (y2Q (r:=[(.int .u8 0),(.int .i64 0),(.int .i64 0),(.int .i64 0)]) (z0:=((⟨0,0,0,0⟩ : Sapi_Ins) : Sapi_Ins)) y15 y3m rfl rfl rfl rfl zpN) ?_
 intro zsQ _
 refine WL.rowEqD .here (cs':=(List.replicate (0 : Int).toNat ((⟨0,0,0,0⟩ : Sapi_Ins) : Sapi_Ins)).flatMap e33) (y3I (enc:=e33) ((⟨0,0,0,0⟩ : Sapi_Ins) : Sapi_Ins) _) ?_
 refine WL.pu rfl (WL.nil (WX.a (WC.b ?_)))
 obtain ⟨zpO,h⟩:=yb h
 refine WC.a (WL.pu rfl (WL.pu rfl ?_))
 refine WL.eff (d:=11) rfl rfl rfl (y3s (enc:=e33) (l1:=List.replicate (0 : Int).toNat ((⟨0,0,0,0⟩ : Sapi_Ins) : Sapi_Ins)) (l2:=z29) y15 rfl rfl .here (fun _=>rfl) rfl rfl (news_z hz.pv zpM) (y3G e33_oc _) zpO) ?_
 rintro ⟨zpP,zpQ⟩ _
 refine WL.pu rfl (WL.nil (WX.a ?_))
 obtain ⟨z3s,zpR,h⟩:=yS h
 refine WC.y6d (fun (z2P : List Sapi_Ins) (z80 : Option Addr) (z81 : Nat)=>(z3s z2P = some r)) (fun (z2P : List Sapi_Ins) (z80 : Option Addr) (z81 : Nat)=>[(0,(.slice z7Y z29.length z7Z)),(3,(.slice z80 z2P.length z81))]) (fun (z2P : List Sapi_Ins) (z80 : Option Addr) (z81 : Nat)=>[row (.slice z80 z2P.length z81) 33 4 (z2P.flatMap e33)]) ?_ ?_
 ·skip
  refine WC.b (WC.a (WL.pu rfl (WL.nil (WX.a (WC.block ?_)))))
  refine WC.loop5 (fun (z82 : Nat) (z2m : List Sapi_Ins) (z2W : Int) (z6n : Option Addr) (z6o : Nat)=>(yY z3s z82 z2m z2W = some r)) (fun (z82 : Nat) (z2m : List Sapi_Ins) (z2W : Int) (z6n : Option Addr) (z6o : Nat)=>[(0,(.slice z7Y z29.length z7Z)),(3,(.slice z6n z2m.length z6o)),(4,(.int .i64 z2W))]) (fun (z82 : Nat) (z2m : List Sapi_Ins) (z2W : Int) (z6n : Option Addr) (z6o : Nat)=>[row (.slice z6n z2m.length z6o) 33 4 (z2m.flatMap e33)]) (fun (z82 : Nat) (z2m : List Sapi_Ins) (z2W : Int) (z6n : Option Addr) (z6o : Nat)=>z82) ⟨yB,((List.replicate (0 : Int).toNat ((⟨0,0,0,0⟩ : Sapi_Ins) : Sapi_Ins)) ++ z29),0,zpP,zpQ⟩ h (.cons rfl (.cons rfl (.cons rfl .nil))) (.cons .here .nil) ?_
  rintro z82 z2m z2W z6n z6o h
  obtain ⟨zbA,rfl⟩:=y4x h
  rw [yY] at h
  refine WC.b (WC.b (WC.a (WL.pu rfl (WL.pu rfl (WL.nil (WX.a ?_))))))
  refine WC.cond rfl (fun zbB=>?_) (fun zbB=>?_)
  ·replace h:=yc h zbB
   refine WC.skip (WX.a (WC.b (WC.block ?_)))
   obtain ⟨z6m,zpS,h⟩:=zd h
   obtain ⟨zpT,h⟩:=yb h
   refine WC.a (WL.pu rfl (WL.pu rfl ?_))
   refine WL.b (dd:=18) rfl rfl rfl (zm (l:=[.const (.int .i64 1),.tmp 17]) Tryd.call38 (.cons rfl (.cons rfl .nil))) .nil (cc hz .nil fun w pz ho=>y5p _ _ _ _ zpS w pz ) ?_
   refine WL.new (dd:=19) rfl rfl rfl (yo (cs:=([z6m] : List Sapi_Ins).flatMap e33) y15 (Eos.parts (l:=[.tmp 18]) (.cons rfl .nil) [0]) (fun _=>by kernel_rfl) rfl (by unfold maxLen; omega)) ?_
   intro zsR _
   refine WL.eff (d:=20) rfl rfl rfl (y3s (enc:=e33) (l1:=z2m) (l2:=([z6m] : List Sapi_Ins)) y15 rfl rfl .h1 (fun _=>rfl) rfl rfl (y52 .here) (y3G e33_oc _) zpT) ?_
   rintro ⟨zpU,zpV⟩ _
   refine WL.pu rfl (WL.nil (WX.ye (WX.a (WC.a (WL.pu rfl (WL.pu rfl (WL.pu rfl (WL.nil ?_))))))))
   exact WX.round (G:=Nat × List Sapi_Ins × Int × Option Addr × Nat) ⟨zbA,(z2m ++ ([z6m] : List Sapi_Ins)),(i64 (z2W + 1)),zpU,zpV⟩ h (Nat.lt_succ_self _) (.cons rfl (.cons rfl (.cons rfl .nil))) (.cons .here .nil)
  ·replace h:=yd h zbB
   refine WC.exit (WX.yg (WX.yg (WX.yD ?_)))
   exact WX.mid (G:=List Sapi_Ins × Option Addr × Nat) ⟨z2m,z6n,z6o⟩ h (.cons rfl (.cons rfl .nil)) (.cons .here .nil)
 ·rintro z2P z80 z81 h
  replace h:=(zpR z2P).symm.trans h
  refine WC.b ?_
  obtain ⟨zsS,h⟩:=yb h
  refine WC.a (WL.pu rfl (WL.pu rfl ?_))
  refine WL.a (d:=23) rfl rfl rfl (yH Tryd.underlying22 rfl) ?_
  refine WL.capOf .here fun hcp=>?_
  refine WL.a (d:=24) rfl rfl rfl (y78 (k:=z29.length) y15 rfl rfl rfl (by omega)) ?_
  refine WL.pu rfl (WL.nil (WX.a (WC.ret ?_)))
  obtain rfl:=Option.some.inj h
  refine WX.y8 Tryd.results23 (.tmp rfl .nil) (fun w hw=>?_)
  exact ⟨z80,z81,yx rfl,trivial,hw.sub (.cons .here .nil)⟩
def y3g (z5N : List Sapi_Ins) : Option (List Sapi_Ins) :=
 (y3f z5N).bind fun zgf=>some zgf
set_option maxRecDepth 20000 in
theorem y6x (Z : Zp) (z9D : Option Addr) (z9E : Nat) (z5N : List Sapi_Ins) (r : List Sapi_Ins)
  (h : y3g z5N = some r) (w₀ : World) (hz : PZ [] w₀ Z)
  (zpW : ZS Z 4 (fun r x=>r = e33 x) z9D z9E z5N) :
  Calls Tryd.prog 10 #[(.slice z9D z5N.length z9E)] w₀ fun e w'=>∃ zgg : Option Addr,∃ zgh : Nat,e = .returned (.slice zgg z5N.length zgh) ∧ True ∧ Hp [] w₀ w' [row (.slice zgg r.length zgh) 33 4 (r.flatMap e33)]:=by
 unfold y3g at h
 refine Calls.ya (vs:=[(.slice z9D z5N.length z9E)]) (pre:=[]) (env:=[(0,(.slice z9D z5N.length z9E))]) Tryd.func10 rfl Tryd.ntmps10 rfl (Hp.nil w₀ _) rfl ?_
 refine WC.b (WC.a (WL.pu rfl (WL.nil (WX.a (WC.b ?_)))))
 obtain ⟨zgf,zpX,h⟩:=zd h
 refine WC.a (WL.pu rfl ?_)
 refine WL.y24 (dd:=4) rfl rfl rfl (zm (l:=[.tmp 3]) Tryd.call23 (.cons rfl .nil)) .nil (cc hz .nil fun w pz ho=>y6w _ _ _ _ _ zpX w pz zpW) ?_
 rintro zpY zpZ _
 refine WL.pu rfl (WL.nil (WX.a (WC.ret ?_)))
 obtain rfl:=Option.some.inj h
 refine WX.y8 Tryd.results10 (.tmp rfl .nil) (fun w hw=>?_)
 exact ⟨zpY,zpZ,yx rfl,trivial,hw.sub (.cons .here .nil)⟩
def yj : List Sapi_Ins:=[⟨0,8000024,0,0⟩,⟨0,8000025,0,0⟩,⟨0,8000026,0,0⟩,⟨0,8000027,0,0⟩,⟨0,8000028,0,0⟩,⟨0,8000029,0,0⟩,⟨0,8000030,0,0⟩,⟨0,8000031,0,0⟩,⟨0,8000032,0,0⟩,⟨0,8000033,0,0⟩,⟨0,8000034,0,0⟩,⟨0,8000035,0,0⟩]
def y4V (l : List Sapi_Ins) : Option Unit:=(y3g l).bind fun x=>chk (x = l ++ yj) (some ())
theorem w_LentV (Z : Zp) (ao : Option Addr) (cap : Nat) (l : List Sapi_Ins) (r : Unit) (w₀ : World) (hz : PZ [] w₀ Z) (hs : ZS Z 4 (fun r x=>r = e33 x) ao cap l) (h : y4V l = some r) :
  Calls Tryd.prog 10 #[.slice ao l.length cap] w₀ fun e w'=>∃ Zn : Zp,∃ aor : Option Addr,∃ capr : Nat,e = .returned (.slice aor l.length capr) ∧ ((ZS (Z ++ Zn) 4 (fun r x=>r = e33 x) aor capr l) ∧ (ZS (Z ++ Zn) 4 (fun r x=>r = e33 x) aor capr (l ++ yj))) ∧ Hp [] w₀ w' [fz Zn]:=by
 unfold y4V at h
 obtain ⟨x,hx,h⟩:=zd h
 obtain ⟨hc,h⟩:=yb h
 subst hc
 refine Calls.mono (y6x _ _ _ _ _ hx w₀ hz hs) ?_
 rintro e w' ⟨aor,capr,rfl,_,hh⟩
 obtain ⟨Zn,_,h2,h3⟩:=hh.pool.freezeS (Z:=Z) (sz:=4) (Pr:=(fun r x=>r = e33 x)) (ls:=l ++ yj) .h1 .here hz (RR.yK (enc:=e33) (fun _=>rfl) _)
 refine ⟨Zn,aor,capr,rfl,⟨?_,h2⟩,h3⟩
 have h4:=h2.takeK l.length
 rwa [List.take_left] at h4
def y1Z (zL : Int) : Option (ByteArray × Bool) :=
 if decide (zL = 1) then some (⟨#[110]⟩,true) else if decide (zL = 2) then some (⟨#[114,118]⟩,true) else jp1 (fun (z5O : Bool)=>if z5O then some (⟨#[114,114]⟩,true) else jp1 (fun (z5P : Bool)=>if z5P then some (⟨#[114,97,114]⟩,true) else if decide (zL = 7) then some (⟨#[120,114,108]⟩,true) else if decide (zL = 8) then some (⟨#[120,114,114]⟩,true) else jp1 (fun (z5Q : Bool)=>if z5Q then some (⟨#[120]⟩,true) else jp1 (fun (z5R : Bool)=>if z5R then some (⟨#[120,114]⟩,true) else jp1 (fun (z5S : Bool)=>if z5S then some (⟨#[]⟩,true) else if decide (zL = 20) then some (⟨#[106]⟩,true) else if decide (zL = 21) then some (⟨#[114,106]⟩,true) else if decide (zL = 22) then some (⟨#[114,114,106]⟩,true) else if decide (zL = 24) then some (⟨#[118]⟩,true) else some (⟨#[]⟩,false)) fun z9F=>if decide (zL = 19) then z9F (decide (zL = 19)) else z9F (decide (zL = 25))) fun z83=>if decide (zL = 14) then z83 (decide (zL = 14)) else if decide (zL = 15) then z83 (decide (zL = 15)) else if decide (zL = 16) then z83 (decide (zL = 16)) else z83 (decide (zL = 17))) fun z5T=>if decide (zL = 9) then z5T (decide (zL = 9)) else if decide (zL = 10) then z5T (decide (zL = 10)) else if decide (zL = 11) then z5T (decide (zL = 11)) else if decide (zL = 12) then z5T (decide (zL = 12)) else if decide (zL = 13) then z5T (decide (zL = 13)) else z5T (decide (zL = 18))) fun z9G=>if decide (zL = 5) then z9G (decide (zL = 5)) else z9G (decide (zL = 6))) fun z8N=>if decide (zL = 3) then z8N (decide (zL = 3)) else if decide (zL = 4) then z8N (decide (zL = 4)) else z8N (decide (zL = 23))
set_option maxRecDepth 20000 in
theorem y6S (Z : Zp)  (zL : Int) (r : ByteArray × Bool)
  (h : y1Z zL = some r) (w₀ : World) (hz : PZ [] w₀ Z) :
  Calls Tryd.prog 47 #[(.int .u8 zL)] w₀ fun e w'=>e = .returned (.tuple #[(.string r.1),(.bool r.2)]) ∧ Hp [] w₀ w' []:=by
 unfold y1Z at h
 refine Calls.ya (vs:=[(.int .u8 zL)]) (pre:=[]) (env:=[(0,(.int .u8 zL))]) Tryd.func47 rfl Tryd.ntmps47 rfl (Hp.nil w₀ _) rfl ?_
 refine WC.b (WC.a (WL.pu rfl (WL.pu rfl (WL.nil (WX.a (WC.b (WC.b (WC.a (WL.pu rfl (WL.nil (WX.a (WC.block (WC.b (WC.a (WL.pu rfl ?_)))))))))))))))
 refine WL.pu rfl (WL.nil (WX.a ?_))
 refine WC.cond rfl (fun zbC=>?_) (fun zbC=>?_)
 ·replace h:=yc h zbC
  refine WC.b (WC.a (WL.pu rfl (WL.pu rfl (WL.nil (WX.a (WC.ret (WX.yf (WX.y7 ?_))))))))
  obtain rfl:=Option.some.inj h
  refine WX.y8 Tryd.results47 (.tmp rfl (.tmp rfl .nil)) (fun w hw=>?_)
  exact ⟨y1B rfl rfl,hw.sub .nil⟩
 ·replace h:=yd h zbC
  refine WC.b (WC.a (WL.pu rfl (WL.pu rfl (WL.nil (WX.a ?_)))))
  refine WC.cond rfl (fun zbD=>?_) (fun zbD=>?_)
  ·replace h:=yc h zbD
   refine WC.b (WC.a (WL.pu rfl (WL.pu rfl (WL.nil (WX.a (WC.ret (WX.yf (WX.y7 ?_))))))))
   obtain rfl:=Option.some.inj h
   refine WX.y8 Tryd.results47 (.tmp rfl (.tmp rfl .nil)) (fun w hw=>?_)
   exact ⟨y1B rfl rfl,hw.sub .nil⟩
  ·replace h:=yd h zbD
   obtain ⟨z8N,zq0,h⟩:=yS h
   refine WC.yO (fun (z5O : Bool)=>(z8N z5O = some r)) (fun (z5O : Bool)=>[(4,(.int .u8 zL)),(9,(.bool z5O))]) (fun (z5O : Bool)=>[]) ?_ ?_
   ·skip
    refine WC.b (WC.a (WL.pu rfl (WL.pu rfl (WL.nil (WX.a ?_)))))
    refine WC.cond rfl (fun zbE=>?_) (fun zbE=>?_)
    ·replace h:=yc h zbE
     refine WC.skip ?_
     exact WX.mid (G:=Bool) (decide (zL = 3)) h (.cons rfl (.cons rfl .nil)) .nil
    ·replace h:=yd h zbE
     refine WC.b (WC.a (WL.pu rfl (WL.pu rfl (WL.nil (WX.a ?_)))))
     refine WC.cond rfl (fun zbF=>?_) (fun zbF=>?_)
     ·replace h:=yc h zbF
      refine WC.skip ?_
      exact WX.mid (G:=Bool) (decide (zL = 4)) h (.cons rfl (.cons rfl .nil)) .nil
     ·replace h:=yd h zbF
      refine WC.a (WL.pu rfl (WL.pu rfl (WL.nil ?_)))
      exact WX.mid (G:=Bool) (decide (zL = 23)) h (.cons rfl (.cons rfl .nil)) .nil
   ·rintro z5O h
    replace h:=(zq0 z5O).symm.trans h
    refine WC.cond rfl (fun zbG=>?_) (fun zbG=>?_)
    ·replace h:=yc h zbG
     refine WC.b (WC.a (WL.pu rfl (WL.pu rfl (WL.nil (WX.a (WC.ret (WX.yf (WX.y7 ?_))))))))
     obtain rfl:=Option.some.inj h
     refine WX.y8 Tryd.results47 (.tmp rfl (.tmp rfl .nil)) (fun w hw=>?_)
     exact ⟨y1B rfl rfl,hw.sub .nil⟩
    ·replace h:=yd h zbG
     obtain ⟨z9G,zq1,h⟩:=yS h
     refine WC.yO (fun (z5P : Bool)=>(z9G z5P = some r)) (fun (z5P : Bool)=>[(4,(.int .u8 zL)),(13,(.bool z5P))]) (fun (z5P : Bool)=>[]) ?_ ?_
     ·skip
      refine WC.b (WC.a (WL.pu rfl (WL.pu rfl (WL.nil (WX.a ?_)))))
      refine WC.cond rfl (fun zbH=>?_) (fun zbH=>?_)
      ·replace h:=yc h zbH
       refine WC.skip ?_
       exact WX.mid (G:=Bool) (decide (zL = 5)) h (.cons rfl (.cons rfl .nil)) .nil
      ·replace h:=yd h zbH
       refine WC.a (WL.pu rfl (WL.pu rfl (WL.nil ?_)))
       exact WX.mid (G:=Bool) (decide (zL = 6)) h (.cons rfl (.cons rfl .nil)) .nil
     ·rintro z5P h
      replace h:=(zq1 z5P).symm.trans h
      refine WC.cond rfl (fun zbI=>?_) (fun zbI=>?_)
      ·replace h:=yc h zbI
       refine WC.b (WC.a (WL.pu rfl (WL.pu rfl (WL.nil (WX.a (WC.ret (WX.yf (WX.y7 ?_))))))))
       obtain rfl:=Option.some.inj h
       refine WX.y8 Tryd.results47 (.tmp rfl (.tmp rfl .nil)) (fun w hw=>?_)
       exact ⟨y1B rfl rfl,hw.sub .nil⟩
      ·replace h:=yd h zbI
       refine WC.b (WC.a (WL.pu rfl (WL.pu rfl (WL.nil (WX.a ?_)))))
       refine WC.cond rfl (fun zbJ=>?_) (fun zbJ=>?_)
       ·replace h:=yc h zbJ
        refine WC.b (WC.a (WL.pu rfl (WL.pu rfl (WL.nil (WX.a (WC.ret (WX.yf (WX.y7 ?_))))))))
        obtain rfl:=Option.some.inj h
        refine WX.y8 Tryd.results47 (.tmp rfl (.tmp rfl .nil)) (fun w hw=>?_)
        exact ⟨y1B rfl rfl,hw.sub .nil⟩
       ·replace h:=yd h zbJ
        refine WC.b (WC.a (WL.pu rfl (WL.pu rfl (WL.nil (WX.a ?_)))))
        refine WC.cond rfl (fun zbK=>?_) (fun zbK=>?_)
        ·replace h:=yc h zbK
         refine WC.b (WC.a (WL.pu rfl (WL.pu rfl (WL.nil (WX.a (WC.ret (WX.yf (WX.y7 ?_))))))))
         obtain rfl:=Option.some.inj h
         refine WX.y8 Tryd.results47 (.tmp rfl (.tmp rfl .nil)) (fun w hw=>?_)
         exact ⟨y1B rfl rfl,hw.sub .nil⟩
        ·replace h:=yd h zbK
         obtain ⟨z5T,zq2,h⟩:=yS h
         refine WC.yO (fun (z5Q : Bool)=>(z5T z5Q = some r)) (fun (z5Q : Bool)=>[(4,(.int .u8 zL)),(20,(.bool z5Q))]) (fun (z5Q : Bool)=>[]) ?_ ?_
         ·skip
          refine WC.b (WC.a (WL.pu rfl (WL.pu rfl (WL.nil (WX.a ?_)))))
          refine WC.cond rfl (fun zbL=>?_) (fun zbL=>?_)
          ·replace h:=yc h zbL
           refine WC.skip ?_
           exact WX.mid (G:=Bool) (decide (zL = 9)) h (.cons rfl (.cons rfl .nil)) .nil
          ·replace h:=yd h zbL
           refine WC.b (WC.a (WL.pu rfl (WL.pu rfl (WL.nil (WX.a ?_)))))
           refine WC.cond rfl (fun zbM=>?_) (fun zbM=>?_)
           ·replace h:=yc h zbM
            refine WC.skip ?_
            exact WX.mid (G:=Bool) (decide (zL = 10)) h (.cons rfl (.cons rfl .nil)) .nil
           ·replace h:=yd h zbM
            refine WC.b (WC.a (WL.pu rfl (WL.pu rfl (WL.nil (WX.a ?_)))))
            refine WC.cond rfl (fun zbN=>?_) (fun zbN=>?_)
            ·replace h:=yc h zbN
             refine WC.skip ?_
             exact WX.mid (G:=Bool) (decide (zL = 11)) h (.cons rfl (.cons rfl .nil)) .nil
            ·replace h:=yd h zbN
             refine WC.b (WC.a (WL.pu rfl (WL.pu rfl (WL.nil (WX.a ?_)))))
             refine WC.cond rfl (fun zbO=>?_) (fun zbO=>?_)
             ·replace h:=yc h zbO
              refine WC.skip ?_
              exact WX.mid (G:=Bool) (decide (zL = 12)) h (.cons rfl (.cons rfl .nil)) .nil
             ·replace h:=yd h zbO
              refine WC.b (WC.a (WL.pu rfl (WL.pu rfl (WL.nil (WX.a ?_)))))
              refine WC.cond rfl (fun zbP=>?_) (fun zbP=>?_)
              ·replace h:=yc h zbP
               refine WC.skip ?_
               exact WX.mid (G:=Bool) (decide (zL = 13)) h (.cons rfl (.cons rfl .nil)) .nil
              ·replace h:=yd h zbP
               refine WC.a (WL.pu rfl (WL.pu rfl (WL.nil ?_)))
               exact WX.mid (G:=Bool) (decide (zL = 18)) h (.cons rfl (.cons rfl .nil)) .nil
         ·rintro z5Q h
          replace h:=(zq2 z5Q).symm.trans h
          refine WC.cond rfl (fun zbQ=>?_) (fun zbQ=>?_)
          ·replace h:=yc h zbQ
           refine WC.b (WC.a (WL.pu rfl (WL.pu rfl (WL.nil (WX.a (WC.ret (WX.yf (WX.y7 ?_))))))))
           obtain rfl:=Option.some.inj h
           refine WX.y8 Tryd.results47 (.tmp rfl (.tmp rfl .nil)) (fun w hw=>?_)
           exact ⟨y1B rfl rfl,hw.sub .nil⟩
          ·replace h:=yd h zbQ
           obtain ⟨z83,zq3,h⟩:=yS h
           refine WC.yO (fun (z5R : Bool)=>(z83 z5R = some r)) (fun (z5R : Bool)=>[(4,(.int .u8 zL)),(27,(.bool z5R))]) (fun (z5R : Bool)=>[]) ?_ ?_
           ·skip
            refine WC.b (WC.a (WL.pu rfl (WL.pu rfl (WL.nil (WX.a ?_)))))
            refine WC.cond rfl (fun zbR=>?_) (fun zbR=>?_)
            ·replace h:=yc h zbR
             refine WC.skip ?_
             exact WX.mid (G:=Bool) (decide (zL = 14)) h (.cons rfl (.cons rfl .nil)) .nil
            ·replace h:=yd h zbR
             refine WC.b (WC.a (WL.pu rfl (WL.pu rfl (WL.nil (WX.a ?_)))))
             refine WC.cond rfl (fun zbS=>?_) (fun zbS=>?_)
             ·replace h:=yc h zbS
              refine WC.skip ?_
              exact WX.mid (G:=Bool) (decide (zL = 15)) h (.cons rfl (.cons rfl .nil)) .nil
             ·replace h:=yd h zbS
              refine WC.b (WC.a (WL.pu rfl (WL.pu rfl (WL.nil (WX.a ?_)))))
              refine WC.cond rfl (fun zbT=>?_) (fun zbT=>?_)
              ·replace h:=yc h zbT
               refine WC.skip ?_
               exact WX.mid (G:=Bool) (decide (zL = 16)) h (.cons rfl (.cons rfl .nil)) .nil
              ·replace h:=yd h zbT
               refine WC.a (WL.pu rfl (WL.pu rfl (WL.nil ?_)))
               exact WX.mid (G:=Bool) (decide (zL = 17)) h (.cons rfl (.cons rfl .nil)) .nil
           ·rintro z5R h
            replace h:=(zq3 z5R).symm.trans h
            refine WC.cond rfl (fun zbU=>?_) (fun zbU=>?_)
            ·replace h:=yc h zbU
             refine WC.b (WC.a (WL.pu rfl (WL.pu rfl (WL.nil (WX.a (WC.ret (WX.yf (WX.y7 ?_))))))))
             obtain rfl:=Option.some.inj h
             refine WX.y8 Tryd.results47 (.tmp rfl (.tmp rfl .nil)) (fun w hw=>?_)
             exact ⟨y1B rfl rfl,hw.sub .nil⟩
            ·replace h:=yd h zbU
             obtain ⟨z9F,zq4,h⟩:=yS h
             refine WC.yO (fun (z5S : Bool)=>(z9F z5S = some r)) (fun (z5S : Bool)=>[(4,(.int .u8 zL)),(32,(.bool z5S))]) (fun (z5S : Bool)=>[]) ?_ ?_
             ·skip
              refine WC.b (WC.a (WL.pu rfl (WL.pu rfl (WL.nil (WX.a ?_)))))
              refine WC.cond rfl (fun zbV=>?_) (fun zbV=>?_)
              ·replace h:=yc h zbV
               refine WC.skip ?_
               exact WX.mid (G:=Bool) (decide (zL = 19)) h (.cons rfl (.cons rfl .nil)) .nil
              ·replace h:=yd h zbV
               refine WC.a (WL.pu rfl (WL.pu rfl (WL.nil ?_)))
               exact WX.mid (G:=Bool) (decide (zL = 25)) h (.cons rfl (.cons rfl .nil)) .nil
             ·rintro z5S h
              replace h:=(zq4 z5S).symm.trans h
              refine WC.cond rfl (fun zbW=>?_) (fun zbW=>?_)
              ·replace h:=yc h zbW
               refine WC.b (WC.a (WL.pu rfl (WL.pu rfl (WL.nil (WX.a (WC.ret (WX.yf (WX.y7 ?_))))))))
               obtain rfl:=Option.some.inj h
               refine WX.y8 Tryd.results47 (.tmp rfl (.tmp rfl .nil)) (fun w hw=>?_)
               exact ⟨y1B rfl rfl,hw.sub .nil⟩
              ·replace h:=yd h zbW
               refine WC.b (WC.a (WL.pu rfl (WL.pu rfl (WL.nil (WX.a ?_)))))
               refine WC.cond rfl (fun zbX=>?_) (fun zbX=>?_)
               ·replace h:=yc h zbX
                refine WC.b (WC.a (WL.pu rfl (WL.pu rfl (WL.nil (WX.a (WC.ret (WX.yf (WX.y7 ?_))))))))
                obtain rfl:=Option.some.inj h
                refine WX.y8 Tryd.results47 (.tmp rfl (.tmp rfl .nil)) (fun w hw=>?_)
                exact ⟨y1B rfl rfl,hw.sub .nil⟩
               ·replace h:=yd h zbX
                refine WC.b (WC.a (WL.pu rfl (WL.pu rfl (WL.nil (WX.a ?_)))))
                refine WC.cond rfl (fun zbY=>?_) (fun zbY=>?_)
                ·replace h:=yc h zbY
                 refine WC.b (WC.a (WL.pu rfl (WL.pu rfl (WL.nil (WX.a (WC.ret (WX.yf (WX.y7 ?_))))))))
                 obtain rfl:=Option.some.inj h
                 refine WX.y8 Tryd.results47 (.tmp rfl (.tmp rfl .nil)) (fun w hw=>?_)
                 exact ⟨y1B rfl rfl,hw.sub .nil⟩
                ·replace h:=yd h zbY
                 refine WC.b (WC.a (WL.pu rfl (WL.pu rfl (WL.nil (WX.a ?_)))))
                 refine WC.cond rfl (fun zbZ=>?_) (fun zbZ=>?_)
                 ·replace h:=yc h zbZ
                  refine WC.b (WC.a (WL.pu rfl (WL.pu rfl (WL.nil (WX.a (WC.ret (WX.yf (WX.y7 ?_))))))))
                  obtain rfl:=Option.some.inj h
                  refine WX.y8 Tryd.results47 (.tmp rfl (.tmp rfl .nil)) (fun w hw=>?_)
                  exact ⟨y1B rfl rfl,hw.sub .nil⟩
                 ·replace h:=yd h zbZ
                  refine WC.b (WC.a (WL.pu rfl (WL.pu rfl (WL.nil (WX.a ?_)))))
                  refine WC.cond rfl (fun zc0=>?_) (fun zc0=>?_)
                  ·replace h:=yc h zc0
                   refine WC.b (WC.a (WL.pu rfl (WL.pu rfl (WL.nil (WX.a (WC.ret (WX.yf (WX.y7 ?_))))))))
                   obtain rfl:=Option.some.inj h
                   refine WX.y8 Tryd.results47 (.tmp rfl (.tmp rfl .nil)) (fun w hw=>?_)
                   exact ⟨y1B rfl rfl,hw.sub .nil⟩
                  ·replace h:=yd h zc0
                   refine WC.skip (WX.ye (WX.a (WC.b (WC.a (WL.pu rfl (WL.pu rfl (WL.nil (WX.a (WC.ret ?_)))))))))
                   obtain rfl:=Option.some.inj h
                   refine WX.y8 Tryd.results47 (.tmp rfl (.tmp rfl .nil)) (fun w hw=>?_)
                   exact ⟨y1B rfl rfl,hw.sub .nil⟩
def y37 (z3t : Int) (z1r : Int) (z5U : List Sapi_Ins) : Option Bool :=
 if decide (z3t = 110) then some ((decide (z1r ≥ 1)) && (decide (z1r ≤ 2000))) else if decide (z3t = 114) then some ((decide (z1r ≥ 0)) && (decide (z1r ≤ 3))) else if decide (z3t = 118) then some ((decide (z1r ≥ 0)) && (decide (z1r ≤ 255))) else if decide (z3t = 97) then some ((decide (z1r ≥ 0)) && (decide (z1r ≤ 4095))) else if decide (z3t = 108) then some ((decide (z1r ≥ 1)) && (decide (z1r ≤ 64))) else if decide (z3t = 120) then some (decide (z1r ≥ 0)) else some ((decide (z1r ≥ 0)) && (decide (z1r < ((z5U.length : Nat) : Int))))
set_option maxRecDepth 20000 in
theorem y7b (Z : Zp) (z9H : Option Addr) (z9I : Nat) (z3t : Int) (z1r : Int) (z5U : List Sapi_Ins) (r : Bool)
  (h : y37 z3t z1r z5U = some r) (w₀ : World) (hz : PZ [] w₀ Z)
  (zsT : ZS Z 4 (fun r x=>r = e33 x) z9H z9I z5U) :
  Calls Tryd.prog 48 #[(.int .u8 z3t),(.int .i64 z1r),(.slice z9H z5U.length z9I)] w₀ fun e w'=>e = .returned (.bool r) ∧ Hp [] w₀ w' []:=by
 unfold y37 at h
 refine Calls.ya (vs:=[(.int .u8 z3t),(.int .i64 z1r),(.slice z9H z5U.length z9I)]) (pre:=[]) (env:=[(0,(.int .u8 z3t)),(1,(.int .i64 z1r)),(2,(.slice z9H z5U.length z9I))]) Tryd.func48 rfl Tryd.ntmps48 rfl (Hp.nil w₀ _) rfl ?_
 refine WC.b (WC.a (WL.pu rfl (WL.nil (WX.a (WC.b (WC.b (WC.a (WL.pu rfl (WL.nil (WX.a (WC.block (WC.b (WC.a (WL.pu rfl (WL.pu rfl ?_)))))))))))))))
 refine WL.nil (WX.a ?_)
 refine WC.cond rfl (fun zc1=>?_) (fun zc1=>?_)
 ·replace h:=yc h zc1
  refine WC.b (WC.a (WL.pu rfl (WL.pu rfl (WL.pu rfl ?_))))
  refine WL.seg true 2 12 (B:=(decide (z1r ≥ 1)) && (decide (z1r ≤ 2000))) rfl rfl rfl rfl rfl rfl (fun h=>(y1T h).symm) (fun _ zq5=>?_) ?_
  ·skip
   refine WL.pu rfl (WL.pu rfl (WL.pu rfl ?_))
   exact WL.ys (y1U zq5) rfl rfl .all
  refine WL.pu rfl (WL.nil (WX.a (WC.ret (WX.yf (WX.y7 ?_)))))
  obtain rfl:=Option.some.inj h
  refine WX.y8 Tryd.results48 (.tmp rfl .nil) (fun w hw=>?_)
  exact ⟨yx rfl,hw.sub .nil⟩
 ·replace h:=yd h zc1
  refine WC.b (WC.a (WL.pu rfl (WL.pu rfl (WL.nil (WX.a ?_)))))
  refine WC.cond rfl (fun zc2=>?_) (fun zc2=>?_)
  ·replace h:=yc h zc2
   refine WC.b (WC.a (WL.pu rfl (WL.pu rfl (WL.pu rfl ?_))))
   refine WL.seg true 2 20 (B:=(decide (z1r ≥ 0)) && (decide (z1r ≤ 3))) rfl rfl rfl rfl rfl rfl (fun h=>(y1T h).symm) (fun _ zq6=>?_) ?_
   ·skip
    refine WL.pu rfl (WL.pu rfl (WL.pu rfl ?_))
    exact WL.ys (y1U zq6) rfl rfl .all
   refine WL.pu rfl (WL.nil (WX.a (WC.ret (WX.yf (WX.y7 ?_)))))
   obtain rfl:=Option.some.inj h
   refine WX.y8 Tryd.results48 (.tmp rfl .nil) (fun w hw=>?_)
   exact ⟨yx rfl,hw.sub .nil⟩
  ·replace h:=yd h zc2
   refine WC.b (WC.a (WL.pu rfl (WL.pu rfl (WL.nil (WX.a ?_)))))
   refine WC.cond rfl (fun zc3=>?_) (fun zc3=>?_)
   ·replace h:=yc h zc3
    refine WC.b (WC.a (WL.pu rfl (WL.pu rfl (WL.pu rfl ?_))))
    refine WL.seg true 2 28 (B:=(decide (z1r ≥ 0)) && (decide (z1r ≤ 255))) rfl rfl rfl rfl rfl rfl (fun h=>(y1T h).symm) (fun _ zq7=>?_) ?_
    ·skip
     refine WL.pu rfl (WL.pu rfl (WL.pu rfl ?_))
     exact WL.ys (y1U zq7) rfl rfl .all
    refine WL.pu rfl (WL.nil (WX.a (WC.ret (WX.yf (WX.y7 ?_)))))
    obtain rfl:=Option.some.inj h
    refine WX.y8 Tryd.results48 (.tmp rfl .nil) (fun w hw=>?_)
    exact ⟨yx rfl,hw.sub .nil⟩
   ·replace h:=yd h zc3
    refine WC.b (WC.a (WL.pu rfl (WL.pu rfl (WL.nil (WX.a ?_)))))
    refine WC.cond rfl (fun zc4=>?_) (fun zc4=>?_)
    ·replace h:=yc h zc4
     refine WC.b (WC.a (WL.pu rfl (WL.pu rfl (WL.pu rfl ?_))))
     refine WL.seg true 2 36 (B:=(decide (z1r ≥ 0)) && (decide (z1r ≤ 4095))) rfl rfl rfl rfl rfl rfl (fun h=>(y1T h).symm) (fun _ zq8=>?_) ?_
     ·skip
      refine WL.pu rfl (WL.pu rfl (WL.pu rfl ?_))
      exact WL.ys (y1U zq8) rfl rfl .all
     refine WL.pu rfl (WL.nil (WX.a (WC.ret (WX.yf (WX.y7 ?_)))))
     obtain rfl:=Option.some.inj h
     refine WX.y8 Tryd.results48 (.tmp rfl .nil) (fun w hw=>?_)
     exact ⟨yx rfl,hw.sub .nil⟩
    ·replace h:=yd h zc4
     refine WC.b (WC.a (WL.pu rfl (WL.pu rfl (WL.nil (WX.a ?_)))))
     refine WC.cond rfl (fun zc5=>?_) (fun zc5=>?_)
     ·replace h:=yc h zc5
      refine WC.b (WC.a (WL.pu rfl (WL.pu rfl (WL.pu rfl ?_))))
      refine WL.seg true 2 44 (B:=(decide (z1r ≥ 1)) && (decide (z1r ≤ 64))) rfl rfl rfl rfl rfl rfl (fun h=>(y1T h).symm) (fun _ zq9=>?_) ?_
      ·skip
       refine WL.pu rfl (WL.pu rfl (WL.pu rfl ?_))
       exact WL.ys (y1U zq9) rfl rfl .all
      refine WL.pu rfl (WL.nil (WX.a (WC.ret (WX.yf (WX.y7 ?_)))))
      obtain rfl:=Option.some.inj h
      refine WX.y8 Tryd.results48 (.tmp rfl .nil) (fun w hw=>?_)
      exact ⟨yx rfl,hw.sub .nil⟩
     ·replace h:=yd h zc5
      refine WC.b (WC.a (WL.pu rfl (WL.pu rfl (WL.nil (WX.a ?_)))))
      refine WC.cond rfl (fun zc6=>?_) (fun zc6=>?_)
      ·replace h:=yc h zc6
       refine WC.b (WC.a (WL.pu rfl (WL.pu rfl (WL.pu rfl (WL.nil (WX.a (WC.ret (WX.yf (WX.y7 ?_)))))))))
       obtain rfl:=Option.some.inj h
       refine WX.y8 Tryd.results48 (.tmp rfl .nil) (fun w hw=>?_)
       exact ⟨yx rfl,hw.sub .nil⟩
      ·replace h:=yd h zc6
       refine WC.skip (WX.ye (WX.a (WC.b (WC.a (WL.pu rfl (WL.pu rfl (WL.pu rfl ?_)))))))
       refine WL.seg true 4 54 (B:=(decide (z1r ≥ 0)) && (decide (z1r < ((z5U.length : Nat) : Int)))) rfl rfl rfl rfl rfl rfl (fun h=>(y1T h).symm) (fun _ zqa=>?_) ?_
       ·skip
        refine WL.pu rfl (WL.pu rfl ?_)
        refine WL.a (d:=57) rfl rfl rfl (yH Tryd.underlying22 rfl) ?_
        refine WL.pu rfl (WL.pu rfl ?_)
        exact WL.ys (y1U zqa) rfl rfl .all
       refine WL.pu rfl (WL.nil (WX.a (WC.ret ?_)))
       obtain rfl:=Option.some.inj h
       refine WX.y8 Tryd.results48 (.tmp rfl .nil) (fun w hw=>?_)
       exact ⟨yx rfl,hw.sub .nil⟩
def y17 (z3h : ByteArray × Bool) (zV : List Sapi_Ins) (zT : Int) (z4L : Option Bool) : Nat → Int → Option Bool
 | 0,_=>none
 | zc7 + 1,z2g=>if decide (z2g < ((z3h.1.size : Nat) : Int)) then chk ((0 : Int) ≤ z2g ∧ z2g < ((z3h.1.size : Nat) : Int)) (chk ((0 : Int) ≤ z2g ∧ z2g < ((([((nth zV zT).fA),((nth zV zT).fB),((nth zV zT).fC)] : List Int).length : Nat) : Int)) ((y37 (y35 z3h.1 z2g) (nth ([((nth zV zT).fA),((nth zV zT).fB),((nth zV zT).fC)] : List Int) z2g) zV).bind fun zgi=>if !zgi then some false else y17 z3h zV zT z4L zc7 (i64 (z2g + 1)))) else z4L
theorem y5s {n : Nat} {z3h : ByteArray × Bool} {zV : List Sapi_Ins} {zT : Int} {z4L : Option Bool} {z2g : Int} {r : Bool} (h : y17 z3h zV zT z4L n z2g = some r) : ∃ m,n = m + 1:=by
 cases n with
 | zero=>cases h
 | succ m=>exact ⟨m,rfl⟩
def y2U (zV : List Sapi_Ins) (zT : Int) : Option Bool :=
 if (decide (zT < 0)) || (decide (zT ≥ ((zV.length : Nat) : Int))) then some false else chk ((0 : Int) ≤ zT ∧ zT < ((zV.length : Nat) : Int)) ((y1Z ((nth zV zT).fOp)).bind fun z3h=>if !z3h.2 then some false else chk ((0 : Int) ≤ zT ∧ zT < ((zV.length : Nat) : Int)) (jp0 (some true) fun z4L=>y17 z3h zV zT z4L yB 0))
set_option maxRecDepth 20000 in
theorem y5Z (Z : Zp) (z8O : Option Addr) (z8P : Nat) (zV : List Sapi_Ins) (zT : Int) (r : Bool)
  (h : y2U zV zT = some r) (w₀ : World) (hz : PZ [] w₀ Z)
  (z8Q : ZS Z 4 (fun r x=>r = e33 x) z8O z8P zV) :
  Calls Tryd.prog 41 #[(.slice z8O zV.length z8P),(.int .i64 zT)] w₀ fun e w'=>e = .returned (.bool r) ∧ Hp [] w₀ w' []:=by
 unfold y2U at h
 refine Calls.ya (vs:=[(.slice z8O zV.length z8P),(.int .i64 zT)]) (pre:=[]) (env:=[(0,(.slice z8O zV.length z8P)),(1,(.int .i64 zT))]) Tryd.func41 rfl Tryd.ntmps41 rfl (Hp.nil w₀ _) rfl ?_
 refine WC.b (WC.a (WL.pu rfl (WL.nil (WX.a (WC.b (WC.b (WC.a (WL.pu rfl (WL.pu rfl (WL.pu rfl ?_))))))))))
 refine WL.seg false 4 11 (B:=(decide (zT < 0)) || (decide (zT ≥ ((zV.length : Nat) : Int)))) rfl rfl rfl rfl rfl rfl (fun h=>(or_l h).symm) (fun _ zqb=>?_) ?_
 ·skip
  refine WL.pu rfl (WL.pu rfl ?_)
  refine WL.a (d:=14) rfl rfl rfl (yH Tryd.underlying22 rfl) ?_
  refine WL.pu rfl (WL.pu rfl ?_)
  exact WL.ys (or_r zqb) rfl rfl .all
 refine WL.nil (WX.a ?_)
 refine WC.cond rfl (fun zc8=>?_) (fun zc8=>?_)
 ·replace h:=yc h zc8
  refine WC.b (WC.a (WL.pu rfl (WL.nil (WX.a (WC.ret (WX.y7 ?_))))))
  obtain rfl:=Option.some.inj h
  refine WX.y8 Tryd.results41 (.tmp rfl .nil) (fun w hw=>?_)
  exact ⟨yx rfl,hw.sub .nil⟩
 ·replace h:=yd h zc8
  refine WC.skip (WX.a (WC.b ?_))
  obtain ⟨zqc,h⟩:=yb h
  obtain ⟨z3h,zqd,h⟩:=zd h
  refine WC.a (WL.pu rfl (WL.pu rfl ?_))
  refine WL.znth (dd:=20) rfl rfl (Z:=Z) (Pr:=(fun r x=>r = e33 x)) y15 rfl rfl z8Q zqc ?_
  rintro zsU zsV zqe zsW rfl
  refine WL.a (d:=21) rfl rfl rfl (y4 y3d rfl rfl) ?_
  refine WL.a (d:=22) rfl rfl rfl (y6 yP rfl (y3z hz.pv zqe rfl)) ?_
  refine WL.b (dd:=23) rfl rfl rfl (zm (l:=[.tmp 22]) Tryd.call47 (.cons rfl .nil)) .nil (cc hz .nil fun w pz ho=>y6S _ _ _ zqd w pz ) ?_
  refine WL.pu rfl (WL.pu rfl (WL.pu rfl (WL.pu rfl (WL.pu rfl (WL.nil (WX.a (WC.b (WC.b (WC.a (WL.pu rfl (WL.pu rfl (WL.nil (WX.a ?_)))))))))))))
  refine WC.cond rfl (fun zc9=>?_) (fun zc9=>?_)
  ·replace h:=yc h zc9
   refine WC.b (WC.a (WL.pu rfl (WL.nil (WX.a (WC.ret (WX.y7 ?_))))))
   obtain rfl:=Option.some.inj h
   refine WX.y8 Tryd.results41 (.tmp rfl .nil) (fun w hw=>?_)
   exact ⟨yx rfl,hw.sub .nil⟩
  ·replace h:=yd h zc9
   refine WC.skip (WX.a (WC.b ?_))
   obtain ⟨zca,h⟩:=yb h
   refine WC.y1j (fun i=>[].contains i) [] rfl ?_
   refine WD.a (i:=0) (d:=28) (by kernel_rfl) rfl z1 z2 rfl rfl rfl (fun _=>q_m rfl) ?_
   refine WD.a (i:=1) (d:=29) (by kernel_rfl) rfl z1 z2 rfl rfl rfl (fun _=>q_m rfl) ?_
   refine WD.znth (j:=2) (dd:=30) (by kernel_rfl) rfl z1 z2 rfl rfl (Z:=Z) (Pr:=(fun r x=>r = e33 x)) y15 rfl rfl z8Q zca ?_
   rintro zsX zsY zqf zsZ rfl
   refine WD.a (i:=3) (d:=31) (by kernel_rfl) rfl z1 z2 rfl rfl rfl (fun _=>y4 y1p rfl rfl) ?_
   refine WD.e (i:=4) (d:=32) (by kernel_rfl) rfl z1 z2 rfl rfl rfl (y6 yh rfl (y3z hz.pv zqf rfl)) ?_
   refine WD.a (i:=5) (d:=33) (by kernel_rfl) rfl z1 z2 rfl rfl rfl (fun _=>q_m rfl) ?_
   refine WD.a (i:=6) (d:=34) (by kernel_rfl) rfl z1 z2 rfl rfl rfl (fun _=>q_m rfl) ?_
   refine WD.znth (j:=7) (dd:=35) (by kernel_rfl) rfl z1 z2 rfl rfl (Z:=Z) (Pr:=(fun r x=>r = e33 x)) y15 rfl rfl z8Q zca ?_
   rintro zt0 zt1 zqg zt2 rfl
   refine WD.a (i:=8) (d:=36) (by kernel_rfl) rfl z1 z2 rfl rfl rfl (fun _=>y4 y1J rfl rfl) ?_
   refine WD.e (i:=9) (d:=37) (by kernel_rfl) rfl z1 z2 rfl rfl rfl (y6 yh rfl (y3z hz.pv zqg rfl)) ?_
   refine WD.a (i:=10) (d:=38) (by kernel_rfl) rfl z1 z2 rfl rfl rfl (fun _=>q_m rfl) ?_
   refine WD.a (i:=11) (d:=39) (by kernel_rfl) rfl z1 z2 rfl rfl rfl (fun _=>q_m rfl) ?_
   refine WD.znth (j:=12) (dd:=40) (by kernel_rfl) rfl z1 z2 rfl rfl (Z:=Z) (Pr:=(fun r x=>r = e33 x)) y15 rfl rfl z8Q zca ?_
   rintro zt3 zt4 zqh zt5 rfl
   refine WD.a (i:=13) (d:=41) (by kernel_rfl) rfl z1 z2 rfl rfl rfl (fun _=>y4 y3L rfl rfl) ?_
   refine WD.e (i:=14) (d:=42) (by kernel_rfl) rfl z1 z2 rfl rfl rfl (y6 yh rfl (y3z hz.pv zqh rfl)) ?_
   refine WD.new (i:=15) (dd:=43) rfl (by kernel_rfl) rfl rfl rfl (yo (cs:=([((nth zV zT).fA),((nth zV zT).fB),((nth zV zT).fC)] : List Int).flatMap e3) yu (Eos.parts (l:=[.tmp 32,.tmp 37,.tmp 42]) (.cons rfl (.cons rfl (.cons rfl .nil))) [0,1,2]) (fun _=>by kernel_rfl) rfl (by unfold maxLen; omega)) (fun h'=>absurd h' (by decide)) ?_
   intro zgj _
   refine WD.a (i:=16) (d:=7) (by kernel_rfl) rfl z1 z2 rfl rfl rfl (fun _=>q_z rfl) ?_
   refine WD.done (by kernel_rfl) ?_
   refine WX.a ?_
   obtain ⟨z4L,zqi,h⟩:=y27 h
   refine WC.y1F ((z4L = some r)) ([]) ([]) ?_ ?_
   ·skip
    refine WC.b (WC.a (WL.pu rfl (WL.nil (WX.a (WC.block ?_)))))
    refine WC.y2B (fun (z84 : Nat) (z2g : Int)=>(y17 z3h zV zT z4L z84 z2g = some r)) (fun (z84 : Nat) (z2g : Int)=>[(0,(.slice z8O zV.length z8P)),(5,(.string z3h.1)),(7,(.slice (some ⟨zgj,0,none⟩) (([((nth zV zT).fA),((nth zV zT).fB),((nth zV zT).fC)] : List Int).length) 3)),(8,(.int .i64 z2g))]) (fun (z84 : Nat) (z2g : Int)=>[row (.slice (some ⟨zgj,0,none⟩) (([((nth zV zT).fA),((nth zV zT).fB),((nth zV zT).fC)] : List Int).length) 3) 3 1 (([((nth zV zT).fA),((nth zV zT).fB),((nth zV zT).fC)] : List Int).flatMap e3)]) (fun (z84 : Nat) (z2g : Int)=>z84) ⟨yB,0⟩ h (.cons rfl (.cons rfl (.cons rfl (.cons rfl .nil)))) (.cons .here .nil) ?_
    rintro z84 z2g h
    obtain ⟨zc7,rfl⟩:=y5s h
    rw [y17] at h
    refine WC.b (WC.b (WC.a (WL.pu rfl (WL.pu rfl ?_))))
    refine WL.a (d:=46) rfl rfl rfl (q_lenStr Tryd.underlying9 rfl) ?_
    refine WL.pu rfl (WL.nil (WX.a ?_))
    refine WC.cond rfl (fun zcb=>?_) (fun zcb=>?_)
    ·replace h:=yc h zcb
     refine WC.skip (WX.a (WC.b (WC.block (WC.b ?_))))
     obtain ⟨zqj,h⟩:=yb h
     obtain ⟨z9J,h⟩:=yb h
     obtain ⟨zgi,zqk,h⟩:=zd h
     refine WC.y1j (fun i=>[].contains i) [] rfl ?_
     refine WD.a (i:=0) (d:=50) (by kernel_rfl) rfl z1 z2 rfl rfl rfl (fun _=>q_m rfl) ?_
     refine WD.a (i:=1) (d:=51) (by kernel_rfl) rfl z1 z2 rfl rfl rfl (fun _=>q_m rfl) ?_
     refine WD.e (i:=2) (d:=52) (by kernel_rfl) rfl z1 z2 rfl rfl rfl (y7Q Tryd.underlying9 rfl rfl zqj) ?_
     refine WD.a (i:=3) (d:=53) (by kernel_rfl) rfl z1 z2 rfl rfl rfl (fun _=>q_m rfl) ?_
     refine WD.a (i:=4) (d:=54) (by kernel_rfl) rfl z1 z2 rfl rfl rfl (fun _=>q_m rfl) ?_
     refine WD.a (i:=5) (d:=55) (by kernel_rfl) rfl z1 z2 rfl rfl rfl (fun _=>yw yu rfl rfl z9J.1 z9J.2 y1H) ?_
     refine WD.e (i:=6) (d:=56) (by kernel_rfl) rfl z1 z2 rfl rfl rfl (y6 yh rfl (y1P .here ((y1C (enc:=e3) (l:=([((nth zV zT).fA),((nth zV zT).fB),((nth zV zT).fC)] : List Int)) (i:=z2g) (sz:=1) (fun _=>rfl) z9J.1 z9J.2) 0 _ rfl))) ?_
     refine WD.a (i:=7) (d:=57) (by kernel_rfl) rfl z1 z2 rfl rfl rfl (fun _=>q_m rfl) ?_
     refine WD.c (i:=8) (d:=58) (by kernel_rfl) rfl z1 z2 rfl rfl rfl (zm (l:=[.tmp 52,.tmp 56,.tmp 57]) Tryd.call48 (.cons rfl (.cons rfl (.cons rfl .nil)))) (cc hz .nil fun w pz ho=>y7b _ _ _ _ _ _ _ zqk w pz z8Q) ?_
     refine WD.a (i:=9) (d:=59) (by kernel_rfl) rfl z1 z2 rfl rfl rfl (fun _=>q_not rfl) ?_
     refine WD.done (by kernel_rfl) ?_
     refine WX.a ?_
     refine WC.cond rfl (fun zcc=>?_) (fun zcc=>?_)
     ·replace h:=yc h zcc
      refine WC.b (WC.a (WL.pu rfl (WL.nil (WX.a (WC.ret (WX.yf (WX.y7 (WX.y7 (WX.yf (WX.y7 ?_))))))))))
      obtain rfl:=Option.some.inj h
      refine WX.y8 Tryd.results41 (.tmp rfl .nil) (fun w hw=>?_)
      exact ⟨yx rfl,hw.sub .nil⟩
     ·replace h:=yd h zcc
      refine WC.skip (WX.ye (WX.a (WC.a (WL.pu rfl (WL.pu rfl (WL.pu rfl (WL.nil ?_)))))))
      exact WX.round (G:=Nat × Int) ⟨zc7,(i64 (z2g + 1))⟩ h (Nat.lt_succ_self _) (.cons rfl (.cons rfl (.cons rfl (.cons rfl .nil)))) (.cons .here .nil)
    ·replace h:=yd h zcb
     refine WC.exit (WX.yg (WX.yg (WX.yD ?_)))
     exact WX.mid (G:=Unit) () h .nil .nil
   ·rintro  h
    replace h:=zqi.symm.trans h
    refine WC.b (WC.a (WL.pu rfl (WL.nil (WX.a (WC.ret ?_)))))
    obtain rfl:=Option.some.inj h
    refine WX.y8 Tryd.results41 (.tmp rfl .nil) (fun w hw=>?_)
    exact ⟨yx rfl,hw.sub .nil⟩
def y1r (z2L : List Sapi_Ins) (z4M : Option Bool) : Nat → Int → Option Bool
 | 0,_=>none
 | zcd + 1,z2X=>if decide (z2X < ((z2L.length : Nat) : Int)) then (y2U z2L z2X).bind fun zgk=>if !zgk then some false else y1r z2L z4M zcd (i64 (z2X + 1)) else z4M
theorem y4W {n : Nat} {z2L : List Sapi_Ins} {z4M : Option Bool} {z2X : Int} {r : Bool} (h : y1r z2L z4M n z2X = some r) : ∃ m,n = m + 1:=by
 cases n with
 | zero=>cases h
 | succ m=>exact ⟨m,rfl⟩
def y20 (z2L : List Sapi_Ins) : Option Bool :=
 jp0 (some true) fun z4M=>y1r z2L z4M yB 0
set_option maxRecDepth 20000 in
theorem y5q (Z : Zp) (z8R : Option Addr) (z8S : Nat) (z2L : List Sapi_Ins) (r : Bool)
  (h : y20 z2L = some r) (w₀ : World) (hz : PZ [] w₀ Z)
  (zql : ZS Z 4 (fun r x=>r = e33 x) z8R z8S z2L) :
  Calls Tryd.prog 25 #[(.slice z8R z2L.length z8S)] w₀ fun e w'=>e = .returned (.bool r) ∧ Hp [] w₀ w' []:=by
 unfold y20 at h
 refine Calls.ya (vs:=[(.slice z8R z2L.length z8S)]) (pre:=[]) (env:=[(0,(.slice z8R z2L.length z8S))]) Tryd.func25 rfl Tryd.ntmps25 rfl (Hp.nil w₀ _) rfl ?_
 refine WC.b (WC.a (WL.pu rfl (WL.nil (WX.a ?_))))
 obtain ⟨z4M,zqm,h⟩:=y27 h
 refine WC.y1F ((z4M = some r)) ([]) ([]) ?_ ?_
 ·skip
  refine WC.b (WC.a (WL.pu rfl (WL.nil (WX.a (WC.block ?_)))))
  refine WC.y2B (fun (z85 : Nat) (z2X : Int)=>(y1r z2L z4M z85 z2X = some r)) (fun (z85 : Nat) (z2X : Int)=>[(0,(.slice z8R z2L.length z8S)),(3,(.int .i64 z2X))]) (fun (z85 : Nat) (z2X : Int)=>[]) (fun (z85 : Nat) (z2X : Int)=>z85) ⟨yB,0⟩ h (.cons rfl (.cons rfl .nil)) .nil ?_
  rintro z85 z2X h
  obtain ⟨zcd,rfl⟩:=y4W h
  rw [y1r] at h
  refine WC.b (WC.b (WC.a (WL.pu rfl (WL.pu rfl ?_))))
  refine WL.a (d:=6) rfl rfl rfl (yH Tryd.underlying22 rfl) ?_
  refine WL.pu rfl (WL.nil (WX.a ?_))
  refine WC.cond rfl (fun zce=>?_) (fun zce=>?_)
  ·replace h:=yc h zce
   refine WC.skip (WX.a (WC.b (WC.block (WC.b ?_))))
   obtain ⟨zgk,zqn,h⟩:=zd h
   refine WC.a (WL.pu rfl (WL.pu rfl ?_))
   refine WL.b (dd:=12) rfl rfl rfl (zm (l:=[.tmp 10,.tmp 11]) Tryd.call41 (.cons rfl (.cons rfl .nil))) .nil (cc hz .nil fun w pz ho=>y5Z _ _ _ _ _ _ zqn w pz zql) ?_
   refine WL.pu rfl (WL.nil (WX.a ?_))
   refine WC.cond rfl (fun zcf=>?_) (fun zcf=>?_)
   ·replace h:=yc h zcf
    refine WC.b (WC.a (WL.pu rfl (WL.nil (WX.a (WC.ret (WX.yf (WX.y7 (WX.y7 (WX.yf (WX.y7 ?_))))))))))
    obtain rfl:=Option.some.inj h
    refine WX.y8 Tryd.results25 (.tmp rfl .nil) (fun w hw=>?_)
    exact ⟨yx rfl,hw.sub .nil⟩
   ·replace h:=yd h zcf
    refine WC.skip (WX.ye (WX.a (WC.a (WL.pu rfl (WL.pu rfl (WL.pu rfl (WL.nil ?_)))))))
    exact WX.round (G:=Nat × Int) ⟨zcd,(i64 (z2X + 1))⟩ h (Nat.lt_succ_self _) (.cons rfl (.cons rfl .nil)) .nil
  ·replace h:=yd h zce
   refine WC.exit (WX.yg (WX.yg (WX.yD ?_)))
   exact WX.mid (G:=Unit) () h .nil .nil
 ·rintro  h
  replace h:=zqm.symm.trans h
  refine WC.b (WC.a (WL.pu rfl (WL.nil (WX.a (WC.ret ?_)))))
  obtain rfl:=Option.some.inj h
  refine WX.y8 Tryd.results25 (.tmp rfl .nil) (fun w hw=>?_)
  exact ⟨yx rfl,hw.sub .nil⟩
def y1d (z1A : List Sapi_Ins) (zW : Int) : Option (List Int) :=
 (y2U z1A zW).bind fun zgl=>if !zgl then some ([] : List Int) else chk ((0 : Int) ≤ zW ∧ zW < ((z1A.length : Nat) : Int)) (jp1 (fun (z2Y : Int)=>if decide (z2Y < (i64 (zW + 1))) then some ([z2Y,i64 (zW + 1)] : List Int) else if decide (z2Y > (i64 (zW + 1))) then some ([i64 (zW + 1),z2Y] : List Int) else some ([i64 (zW + 1)] : List Int)) fun z8T=>jp1 (fun (z5V : Bool)=>if z5V then some ([] : List Int) else if decide (((nth z1A zW).fOp) = 20) then some ([((nth z1A zW).fA)] : List Int) else if decide (((nth z1A zW).fOp) = 21) then z8T ((nth z1A zW).fB) else if decide (((nth z1A zW).fOp) = 22) then z8T ((nth z1A zW).fC) else z8T (i64 (zW + 1))) fun z9K=>if decide (((nth z1A zW).fOp) = 19) then z9K (decide (((nth z1A zW).fOp) = 19)) else z9K (decide (((nth z1A zW).fOp) = 25)))
set_option maxRecDepth 20000 in
theorem y38 (Z : Zp) (z9L : Option Addr) (z9M : Nat) (z1A : List Sapi_Ins) (zW : Int) (r : List Int)
  (h : y1d z1A zW = some r) (w₀ : World) (hz : PZ [] w₀ Z)
  (zgm : ZS Z 4 (fun r x=>r = e33 x) z9L z9M z1A) :
  Calls Tryd.prog 27 #[(.slice z9L z1A.length z9M),(.int .i64 zW)] w₀ fun e w'=>∃ zgn : Option Addr,∃ zgo : Nat,e = .returned (.slice zgn r.length zgo) ∧ True ∧ Hp [] w₀ w' [row (.slice zgn r.length zgo) 3 1 (r.flatMap e3)]:=by
 unfold y1d at h
 refine Calls.ya (vs:=[(.slice z9L z1A.length z9M),(.int .i64 zW)]) (pre:=[]) (env:=[(0,(.slice z9L z1A.length z9M)),(1,(.int .i64 zW))]) Tryd.func27 rfl Tryd.ntmps27 rfl (Hp.nil w₀ _) rfl ?_
 refine WC.b (WC.a (WL.pu rfl (WL.nil (WX.a (WC.b (WC.b ?_))))))
 obtain ⟨zgl,zqo,h⟩:=zd h
 refine WC.a (WL.pu rfl (WL.pu rfl ?_))
 refine WL.b (dd:=9) rfl rfl rfl (zm (l:=[.tmp 7,.tmp 8]) Tryd.call41 (.cons rfl (.cons rfl .nil))) .nil (cc hz .nil fun w pz ho=>y5Z _ _ _ _ _ _ zqo w pz zgm) ?_
 refine WL.pu rfl (WL.nil (WX.a ?_))
 refine WC.cond rfl (fun zcg=>?_) (fun zcg=>?_)
 ·replace h:=yc h zcg
  refine WC.b (WC.a (WL.pu rfl (WL.nil (WX.a (WC.ret (WX.y7 ?_))))))
  refine WX.nilRow 3 1 ?_
  obtain rfl:=Option.some.inj h
  refine WX.y8 Tryd.results27 (.tmp rfl .nil) (fun w hw=>?_)
  exact ⟨none,0,yx rfl,trivial,hw.sub (.cons .here .nil)⟩
 ·replace h:=yd h zcg
  refine WC.skip (WX.a (WC.b ?_))
  obtain ⟨zqp,h⟩:=yb h
  refine WC.a (WL.pu rfl (WL.pu rfl ?_))
  refine WL.znth (dd:=13) rfl rfl (Z:=Z) (Pr:=(fun r x=>r = e33 x)) y15 rfl rfl zgm zqp ?_
  rintro zt6 zt7 zqq zt8 rfl
  refine WL.a (d:=14) rfl rfl rfl (y16 y1N rfl (y56 hz.pv zqq) rfl) ?_
  refine WL.new (dd:=5) rfl rfl rfl (yG (cs:=[(.int .u8 0),(.int .i64 0),(.int .i64 0),(.int .i64 0)]) y3m rfl) ?_
  intro zgp _
  refine WL.yq rfl rfl (yC y3K rfl rfl rfl .here rfl rfl rfl) ?_
  refine WL.nil (WX.a (WC.b (WC.a (WL.pu rfl (WL.pu rfl (WL.pu rfl (WL.nil (WX.a ?_))))))))
  obtain ⟨z8T,zqr,h⟩:=yS h
  refine WC.yO (fun (z2Y : Int)=>(z8T z2Y = some r)) (fun (z2Y : Int)=>[(1,(.int .i64 zW)),(6,(.int .i64 z2Y))]) (fun (z2Y : Int)=>[]) ?_ ?_
  ·skip
   refine WC.b (WC.a ?_)
   refine WL.a (d:=17) rfl rfl rfl (y4 y3d rfl rfl) ?_
   refine WL.a (d:=18) rfl rfl rfl (y6 yP rfl (yi .here rfl)) ?_
   refine WL.nil (WX.a (WC.block ?_))
   obtain ⟨z9K,zqs,h⟩:=yS h
   refine WC.yO (fun (z5V : Bool)=>(z9K z5V = some r)) (fun (z5V : Bool)=>[(1,(.int .i64 zW)),(5,(.pointer (some ⟨zgp,0,none⟩))),(6,(.int .i64 (i64 (zW + 1)))),(18,(.int .u8 ((nth z1A zW).fOp))),(19,(.bool z5V))]) (fun (z5V : Bool)=>[stb zgp 33 [(.int .u8 ((nth z1A zW).fOp)),(.int .i64 ((nth z1A zW).fA)),(.int .i64 ((nth z1A zW).fB)),(.int .i64 ((nth z1A zW).fC))]]) ?_ ?_
   ·skip
    refine WC.b (WC.a (WL.pu rfl (WL.pu rfl (WL.nil (WX.a ?_)))))
    refine WC.cond rfl (fun zch=>?_) (fun zch=>?_)
    ·replace h:=yc h zch
     refine WC.skip ?_
     exact WX.mid (G:=Bool) (decide (((nth z1A zW).fOp) = 19)) h (.cons rfl (.cons rfl (.cons rfl (.cons rfl (.cons rfl .nil))))) (.cons .here .nil)
    ·replace h:=yd h zch
     refine WC.a (WL.pu rfl (WL.pu rfl (WL.nil ?_)))
     exact WX.mid (G:=Bool) (decide (((nth z1A zW).fOp) = 25)) h (.cons rfl (.cons rfl (.cons rfl (.cons rfl (.cons rfl .nil))))) (.cons .here .nil)
   ·rintro z5V h
    replace h:=(zqs z5V).symm.trans h
    refine WC.cond rfl (fun zci=>?_) (fun zci=>?_)
    ·replace h:=yc h zci
     refine WC.b (WC.a (WL.pu rfl (WL.nil (WX.a (WC.ret (WX.yf (WX.y7 ?_)))))))
     refine WX.nilRow 3 1 ?_
     obtain rfl:=Option.some.inj h
     refine WX.y8 Tryd.results27 (.tmp rfl .nil) (fun w hw=>?_)
     exact ⟨none,0,yx rfl,trivial,hw.sub (.cons .here .nil)⟩
    ·replace h:=yd h zci
     refine WC.b (WC.a (WL.pu rfl (WL.pu rfl (WL.nil (WX.a ?_)))))
     refine WC.cond rfl (fun zcj=>?_) (fun zcj=>?_)
     ·replace h:=yc h zcj
      refine WC.b (WC.a ?_)
      refine WL.a (d:=24) rfl rfl rfl (y4 y1p rfl rfl) ?_
      refine WL.a (d:=25) rfl rfl rfl (y6 yh rfl (yi .here rfl)) ?_
      refine WL.new (dd:=26) rfl rfl rfl (yo (cs:=([((nth z1A zW).fA)] : List Int).flatMap e3) yu (Eos.parts (l:=[.tmp 25]) (.cons rfl .nil) [0]) (fun _=>by kernel_rfl) rfl (by unfold maxLen; omega)) ?_
      intro zqt _
      refine WL.pu rfl (WL.nil (WX.a (WC.ret (WX.yf (WX.y7 ?_)))))
      obtain rfl:=Option.some.inj h
      refine WX.y8 Tryd.results27 (.tmp rfl .nil) (fun w hw=>?_)
      exact ⟨(some ⟨zqt,0,none⟩),1,yx rfl,trivial,hw.sub (.cons .here .nil)⟩
     ·replace h:=yd h zcj
      refine WC.b (WC.a (WL.pu rfl (WL.pu rfl (WL.nil (WX.a ?_)))))
      refine WC.cond rfl (fun zck=>?_) (fun zck=>?_)
      ·replace h:=yc h zck
       refine WC.a ?_
       refine WL.a (d:=29) rfl rfl rfl (y4 y1J rfl rfl) ?_
       refine WL.a (d:=30) rfl rfl rfl (y6 yh rfl (yi .here rfl)) ?_
       refine WL.pu rfl (WL.nil (WX.ye ?_))
       exact WX.mid (G:=Int) ((nth z1A zW).fB) h (.cons rfl (.cons rfl .nil)) .nil
      ·replace h:=yd h zck
       refine WC.b (WC.a (WL.pu rfl (WL.pu rfl (WL.nil (WX.a ?_)))))
       refine WC.cond rfl (fun zcl=>?_) (fun zcl=>?_)
       ·replace h:=yc h zcl
        refine WC.a ?_
        refine WL.a (d:=33) rfl rfl rfl (y4 y3L rfl rfl) ?_
        refine WL.a (d:=34) rfl rfl rfl (y6 yh rfl (yi .here rfl)) ?_
        refine WL.pu rfl (WL.nil (WX.ye ?_))
        exact WX.mid (G:=Int) ((nth z1A zW).fC) h (.cons rfl (.cons rfl .nil)) .nil
       ·replace h:=yd h zcl
        refine WC.skip (WX.ye ?_)
        exact WX.mid (G:=Int) (i64 (zW + 1)) h (.cons rfl (.cons rfl .nil)) .nil
  ·rintro z2Y h
   replace h:=(zqr z2Y).symm.trans h
   refine WC.b (WC.b (WC.a (WL.pu rfl (WL.pu rfl (WL.pu rfl (WL.pu rfl (WL.nil (WX.a ?_))))))))
   refine WC.cond rfl (fun zcm=>?_) (fun zcm=>?_)
   ·replace h:=yc h zcm
    refine WC.b (WC.a (WL.pu rfl (WL.pu rfl (WL.pu rfl ?_))))
    refine WL.new (dd:=42) rfl rfl rfl (yo (cs:=([z2Y,i64 (zW + 1)] : List Int).flatMap e3) yu (Eos.parts (l:=[.tmp 39,.tmp 41]) (.cons rfl (.cons rfl .nil)) [0,1]) (fun _=>by kernel_rfl) rfl (by unfold maxLen; omega)) ?_
    intro zqu _
    refine WL.pu rfl (WL.nil (WX.a (WC.ret (WX.y7 ?_))))
    obtain rfl:=Option.some.inj h
    refine WX.y8 Tryd.results27 (.tmp rfl .nil) (fun w hw=>?_)
    exact ⟨(some ⟨zqu,0,none⟩),2,yx rfl,trivial,hw.sub (.cons .here .nil)⟩
   ·replace h:=yd h zcm
    refine WC.skip (WX.a (WC.b (WC.b (WC.a (WL.pu rfl (WL.pu rfl (WL.pu rfl (WL.pu rfl (WL.nil (WX.a ?_))))))))))
    refine WC.cond rfl (fun zcn=>?_) (fun zcn=>?_)
    ·replace h:=yc h zcn
     refine WC.b (WC.a (WL.pu rfl (WL.pu rfl (WL.pu rfl ?_))))
     refine WL.new (dd:=50) rfl rfl rfl (yo (cs:=([i64 (zW + 1),z2Y] : List Int).flatMap e3) yu (Eos.parts (l:=[.tmp 48,.tmp 49]) (.cons rfl (.cons rfl .nil)) [0,1]) (fun _=>by kernel_rfl) rfl (by unfold maxLen; omega)) ?_
     intro zqv _
     refine WL.pu rfl (WL.nil (WX.a (WC.ret (WX.y7 ?_))))
     obtain rfl:=Option.some.inj h
     refine WX.y8 Tryd.results27 (.tmp rfl .nil) (fun w hw=>?_)
     exact ⟨(some ⟨zqv,0,none⟩),2,yx rfl,trivial,hw.sub (.cons .here .nil)⟩
    ·replace h:=yd h zcn
     refine WC.skip (WX.a (WC.b (WC.a (WL.pu rfl (WL.pu rfl ?_)))))
     refine WL.new (dd:=53) rfl rfl rfl (yo (cs:=([i64 (zW + 1)] : List Int).flatMap e3) yu (Eos.parts (l:=[.tmp 52]) (.cons rfl .nil) [0]) (fun _=>by kernel_rfl) rfl (by unfold maxLen; omega)) ?_
     intro zqw _
     refine WL.pu rfl (WL.nil (WX.a (WC.ret ?_)))
     obtain rfl:=Option.some.inj h
     refine WX.y8 Tryd.results27 (.tmp rfl .nil) (fun w hw=>?_)
     exact ⟨(some ⟨zqw,0,none⟩),1,yx rfl,trivial,hw.sub (.cons .here .nil)⟩
def y1e (z2a : List Int) (z4N : (List Int) → Option (List Int)) : Nat → (List Int) → Int → Option (List Int)
 | 0,_,_=>none
 | zco + 1,z2b,z1W=>if decide (z1W < ((z2a.length : Nat) : Int)) then chk ((0 : Int) ≤ z1W ∧ z1W < ((z2a.length : Nat) : Int)) (chk ((0 : Int) ≤ (nth z2a z1W) ∧ (nth z2a z1W) < ((z2b.length : Nat) : Int)) (y1e z2a z4N zco (z2b.set ((nth z2a z1W) : Int).toNat 1) (i64 (z1W + 1)))) else z4N z2b
theorem y4e {n : Nat} {z2a : List Int} {z4N : (List Int) → Option (List Int)} {z2b : List Int} {z1W : Int} {r : List Int} (h : y1e z2a z4N n z2b z1W = some r) : ∃ m,n = m + 1:=by
 cases n with
 | zero=>cases h
 | succ m=>exact ⟨m,rfl⟩
def y1f (zO : List Sapi_Ins) (z1B : Int) (z4O : (List Int) → Option (List Int)) : Nat → (List Int) → Int → Option (List Int)
 | 0,_,_=>none
 | zcp + 1,z1Y,z1I=>if decide (z1I < ((zO.length : Nat) : Int)) then jp1 (fun (z3u : List Int)=>y1f zO z1B z4O zcp z3u (i64 (z1I + 1))) fun z9N=>chk ((decide (z1I ≠ z1B)) = true → ((0 : Int) ≤ z1I ∧ z1I < ((z1Y.length : Nat) : Int))) (if (decide (z1I ≠ z1B)) && (decide ((nth z1Y z1I) = 0)) then z9N z1Y else (y1d zO z1I).bind fun z2a=>jp1 (fun (z3v : List Int)=>z9N z3v) fun z4N=>y1e z2a z4N yB z1Y 0) else z4O z1Y
theorem y4f {n : Nat} {zO : List Sapi_Ins} {z1B : Int} {z4O : (List Int) → Option (List Int)} {z1Y : List Int} {z1I : Int} {r : List Int} (h : y1f zO z1B z4O n z1Y z1I = some r) : ∃ m,n = m + 1:=by
 cases n with
 | zero=>cases h
 | succ m=>exact ⟨m,rfl⟩
def y1g (zO : List Sapi_Ins) (z1B : Int) (z4P : (List Int) → Option (List Int)) : Nat → (List Int) → Int → Option (List Int)
 | 0,_,_=>none
 | zcq + 1,z2M,z2n=>if decide (z2n ≤ ((zO.length : Nat) : Int)) then jp1 (fun (z3w : List Int)=>y1g zO z1B z4P zcq z3w (i64 (z2n + 1))) fun zcr=>jp1 (fun (z3x : List Int)=>zcr z3x) fun z4O=>y1f zO z1B z4O yB z2M 0 else z4P z2M
theorem y4g {n : Nat} {zO : List Sapi_Ins} {z1B : Int} {z4P : (List Int) → Option (List Int)} {z2M : List Int} {z2n : Int} {r : List Int} (h : y1g zO z1B z4P n z2M z2n = some r) : ∃ m,n = m + 1:=by
 cases n with
 | zero=>cases h
 | succ m=>exact ⟨m,rfl⟩
def y1v (zO : List Sapi_Ins) (z1B : Int) : Option (List Int) :=
 chk ((0 : Int) ≤ (i64 (((zO.length : Nat) : Int) + 1)) ∧ (i64 (((zO.length : Nat) : Int) + 1) : Int) ≤ (i64 (((zO.length : Nat) : Int) + 1)) ∧ (i64 (((zO.length : Nat) : Int) + 1) : Int) * 8 ≤ 140737488355328 ∧ (i64 (((zO.length : Nat) : Int) + 1) : Int) ≤ 4611686018427387904) (jp1 (fun (z3O : List Int)=>some z3O) fun z4P=>y1g zO z1B z4P yB (List.replicate ((i64 (((zO.length : Nat) : Int) + 1)) : Int).toNat (0 : Int)) 0)
set_option maxRecDepth 20000 in
theorem y4n (Z : Zp) (z3y : Option Addr) (z3z : Nat) (zO : List Sapi_Ins) (z1B : Int) (r : List Int)
  (h : y1v zO z1B = some r) (w₀ : World) (hz : PZ [] w₀ Z)
  (zqx : ZS Z 4 (fun r x=>r = e33 x) z3y z3z zO) :
  Calls Tryd.prog 39 #[(.slice z3y zO.length z3z),(.int .i64 z1B)] w₀ fun e w'=>∃ zgq : Option Addr,∃ zgr : Nat,e = .returned (.slice zgq r.length zgr) ∧ True ∧ Hp [] w₀ w' [row (.slice zgq r.length zgr) 3 1 (r.flatMap e3)]:=by
 unfold y1v at h
 refine Calls.ya (vs:=[(.slice z3y zO.length z3z),(.int .i64 z1B)]) (pre:=[]) (env:=[(0,(.slice z3y zO.length z3z)),(1,(.int .i64 z1B))]) Tryd.func39 rfl Tryd.ntmps39 rfl (Hp.nil w₀ _) rfl ?_
 refine WC.b (WC.a (WL.pu rfl (WL.nil (WX.a (WC.b ?_)))))
 obtain ⟨zqy,h⟩:=yb h
 refine WC.a (WL.pu rfl ?_)
 refine WL.a (d:=11) rfl rfl rfl (yH Tryd.underlying22 rfl) ?_
 refine WL.pu rfl ?_
 refine WL.new (dd:=13) rfl rfl rfl (y2Q (r:=[(.int .i64 0)]) (z0:=(0 : Int)) yu y4H rfl rfl rfl rfl zqy) ?_
 intro z2h _
 refine WL.rowEqD .here (cs':=(List.replicate ((i64 (((zO.length : Nat) : Int) + 1)) : Int).toNat (0 : Int)).flatMap e3) (y3I (enc:=e3) (0 : Int) _) ?_
 refine WL.pu rfl (WL.nil (WX.a ?_))
 obtain ⟨z4P,zqz,h⟩:=yS h
 refine WC.yO (fun (z3O : List Int)=>(z4P z3O = some r)) (fun (z3O : List Int)=>[(5,(.slice (some ⟨z2h,0,none⟩) z3O.length (((i64 (((zO.length : Nat) : Int) + 1)) : Int).toNat)))]) (fun (z3O : List Int)=>[row (.slice (some ⟨z2h,0,none⟩) z3O.length (((i64 (((zO.length : Nat) : Int) + 1)) : Int).toNat)) 3 1 (z3O.flatMap e3)]) ?_ ?_
 ·skip
  refine WC.b (WC.a (WL.pu rfl (WL.nil (WX.a (WC.block ?_)))))
  refine WC.y43 (fun (z86 : Nat) (z2M : List Int) (z2n : Int)=>(y1g zO z1B z4P z86 z2M z2n = some r)) (fun (z86 : Nat) (z2M : List Int) (z2n : Int)=>[(0,(.slice z3y zO.length z3z)),(1,(.int .i64 z1B)),(5,(.slice (some ⟨z2h,0,none⟩) z2M.length (((i64 (((zO.length : Nat) : Int) + 1)) : Int).toNat))),(6,(.int .i64 z2n))]) (fun (z86 : Nat) (z2M : List Int) (z2n : Int)=>[row (.slice (some ⟨z2h,0,none⟩) z2M.length (((i64 (((zO.length : Nat) : Int) + 1)) : Int).toNat)) 3 1 (z2M.flatMap e3)]) (fun (z86 : Nat) (z2M : List Int) (z2n : Int)=>z86) ⟨yB,(List.replicate ((i64 (((zO.length : Nat) : Int) + 1)) : Int).toNat (0 : Int)),0⟩ h (.cons rfl (.cons rfl (.cons rfl (.cons rfl .nil)))) (.cons .here .nil) ?_
  rintro z86 z2M z2n h
  obtain ⟨zcq,rfl⟩:=y4g h
  rw [y1g] at h
  refine WC.b (WC.b (WC.a (WL.pu rfl (WL.pu rfl ?_))))
  refine WL.a (d:=16) rfl rfl rfl (yH Tryd.underlying22 rfl) ?_
  refine WL.pu rfl (WL.nil (WX.a ?_))
  refine WC.cond rfl (fun zcs=>?_) (fun zcs=>?_)
  ·replace h:=yc h zcs
   refine WC.skip (WX.a ?_)
   obtain ⟨zcr,zqA,h⟩:=yS h
   refine WC.yO (fun (z3w : List Int)=>(zcr z3w = some r)) (fun (z3w : List Int)=>[(0,(.slice z3y zO.length z3z)),(1,(.int .i64 z1B)),(5,(.slice (some ⟨z2h,0,none⟩) z3w.length (((i64 (((zO.length : Nat) : Int) + 1)) : Int).toNat))),(6,(.int .i64 z2n))]) (fun (z3w : List Int)=>[row (.slice (some ⟨z2h,0,none⟩) z3w.length (((i64 (((zO.length : Nat) : Int) + 1)) : Int).toNat)) 3 1 (z3w.flatMap e3)]) ?_ ?_
   ·skip
    refine WC.block (WC.b (WC.a (WL.pu rfl (WL.nil (WX.a ?_)))))
    obtain ⟨z4O,zqB,h⟩:=yS h
    refine WC.y7u (fun (z3x : List Int)=>(z4O z3x = some r)) (fun (z3x : List Int)=>[(0,(.slice z3y zO.length z3z)),(1,(.int .i64 z1B)),(5,(.slice (some ⟨z2h,0,none⟩) z3x.length (((i64 (((zO.length : Nat) : Int) + 1)) : Int).toNat))),(6,(.int .i64 z2n))]) (fun (z3x : List Int)=>[row (.slice (some ⟨z2h,0,none⟩) z3x.length (((i64 (((zO.length : Nat) : Int) + 1)) : Int).toNat)) 3 1 (z3x.flatMap e3)]) ?_ ?_
    ·skip
     refine WC.block ?_
     refine WC.y43 (fun (z87 : Nat) (z1Y : List Int) (z1I : Int)=>(y1f zO z1B z4O z87 z1Y z1I = some r)) (fun (z87 : Nat) (z1Y : List Int) (z1I : Int)=>[(0,(.slice z3y zO.length z3z)),(1,(.int .i64 z1B)),(5,(.slice (some ⟨z2h,0,none⟩) z1Y.length (((i64 (((zO.length : Nat) : Int) + 1)) : Int).toNat))),(6,(.int .i64 z2n)),(7,(.int .i64 z1I))]) (fun (z87 : Nat) (z1Y : List Int) (z1I : Int)=>[row (.slice (some ⟨z2h,0,none⟩) z1Y.length (((i64 (((zO.length : Nat) : Int) + 1)) : Int).toNat)) 3 1 (z1Y.flatMap e3)]) (fun (z87 : Nat) (z1Y : List Int) (z1I : Int)=>z87) ⟨yB,z2M,0⟩ h (.cons rfl (.cons rfl (.cons rfl (.cons rfl (.cons rfl .nil))))) (.cons .here .nil) ?_
     rintro z87 z1Y z1I h
     obtain ⟨zcp,rfl⟩:=y4f h
     rw [y1f] at h
     refine WC.b (WC.b (WC.a (WL.pu rfl (WL.pu rfl ?_))))
     refine WL.a (d:=22) rfl rfl rfl (yH Tryd.underlying22 rfl) ?_
     refine WL.pu rfl (WL.nil (WX.a ?_))
     refine WC.cond rfl (fun zct=>?_) (fun zct=>?_)
     ·replace h:=yc h zct
      refine WC.skip (WX.a ?_)
      obtain ⟨z9N,zqC,h⟩:=yS h
      refine WC.yO (fun (z3u : List Int)=>(z9N z3u = some r)) (fun (z3u : List Int)=>[(0,(.slice z3y zO.length z3z)),(1,(.int .i64 z1B)),(5,(.slice (some ⟨z2h,0,none⟩) z3u.length (((i64 (((zO.length : Nat) : Int) + 1)) : Int).toNat))),(6,(.int .i64 z2n)),(7,(.int .i64 z1I))]) (fun (z3u : List Int)=>[row (.slice (some ⟨z2h,0,none⟩) z3u.length (((i64 (((zO.length : Nat) : Int) + 1)) : Int).toNat)) 3 1 (z3u.flatMap e3)]) ?_ ?_
      ·skip
       refine WC.block (WC.b (WC.b ?_))
       obtain ⟨zqD,h⟩:=yb h
       refine WC.a (WL.pu rfl (WL.pu rfl (WL.pu rfl (WL.pu rfl ?_))))
       refine WL.seg true 5 29 (B:=(decide (z1I ≠ z1B)) && (decide ((nth z1Y z1I) = 0))) rfl rfl rfl rfl rfl rfl (fun h=>(y1T h).symm) (fun _ zgs=>?_) ?_
       ·skip
        have z9O:=zqD zgs
        refine WL.pu rfl (WL.pu rfl ?_)
        refine WL.a (d:=32) rfl rfl rfl (yw yu rfl rfl z9O.1 z9O.2 y1H) ?_
        refine WL.a (d:=33) rfl rfl rfl (y6 yh rfl (y1P .here ((y1C (enc:=e3) (l:=z1Y) (i:=z1I) (sz:=1) (fun _=>rfl) z9O.1 z9O.2) 0 _ rfl))) ?_
        refine WL.pu rfl (WL.pu rfl ?_)
        exact WL.ys (y1U zgs) rfl rfl .all
       refine WL.nil (WX.a ?_)
       refine WC.cond rfl (fun zcu=>?_) (fun zcu=>?_)
       ·replace h:=yc h zcu
        refine WC.exit (WX.yg (WX.yD ?_))
        exact WX.mid (G:=List Int) z1Y h (.cons rfl (.cons rfl (.cons rfl (.cons rfl (.cons rfl .nil))))) (.cons .here .nil)
       ·replace h:=yd h zcu
        refine WC.skip (WX.a (WC.b ?_))
        obtain ⟨z2a,zqE,h⟩:=zd h
        refine WC.a (WL.pu rfl (WL.pu rfl ?_))
        refine WL.y24 (dd:=38) rfl rfl rfl (zm (l:=[.tmp 36,.tmp 37]) Tryd.call27 (.cons rfl (.cons rfl .nil))) .nil (cc hz .nil fun w pz ho=>y38 _ _ _ _ _ _ zqE w pz zqx) ?_
        rintro zgt zgu _
        refine WL.pu rfl (WL.nil (WX.a (WC.b (WC.a (WL.pu rfl (WL.nil (WX.a ?_)))))))
        obtain ⟨z4N,zqF,h⟩:=yS h
        refine WC.y7u (fun (z3v : List Int)=>(z4N z3v = some r)) (fun (z3v : List Int)=>[(0,(.slice z3y zO.length z3z)),(1,(.int .i64 z1B)),(5,(.slice (some ⟨z2h,0,none⟩) z3v.length (((i64 (((zO.length : Nat) : Int) + 1)) : Int).toNat))),(6,(.int .i64 z2n)),(7,(.int .i64 z1I))]) (fun (z3v : List Int)=>[row (.slice (some ⟨z2h,0,none⟩) z3v.length (((i64 (((zO.length : Nat) : Int) + 1)) : Int).toNat)) 3 1 (z3v.flatMap e3)]) ?_ ?_
        ·skip
         refine WC.block ?_
         refine WC.y43 (fun (z88 : Nat) (z2b : List Int) (z1W : Int)=>(y1e z2a z4N z88 z2b z1W = some r)) (fun (z88 : Nat) (z2b : List Int) (z1W : Int)=>[(0,(.slice z3y zO.length z3z)),(1,(.int .i64 z1B)),(5,(.slice (some ⟨z2h,0,none⟩) z2b.length (((i64 (((zO.length : Nat) : Int) + 1)) : Int).toNat))),(6,(.int .i64 z2n)),(7,(.int .i64 z1I)),(8,(.slice zgt z2a.length zgu)),(9,(.int .i64 z1W))]) (fun (z88 : Nat) (z2b : List Int) (z1W : Int)=>[row (.slice (some ⟨z2h,0,none⟩) z2b.length (((i64 (((zO.length : Nat) : Int) + 1)) : Int).toNat)) 3 1 (z2b.flatMap e3),row (.slice zgt z2a.length zgu) 3 1 (z2a.flatMap e3)]) (fun (z88 : Nat) (z2b : List Int) (z1W : Int)=>z88) ⟨yB,z1Y,0⟩ h (.cons rfl (.cons rfl (.cons rfl (.cons rfl (.cons rfl (.cons rfl (.cons rfl .nil))))))) (.cons .h1 (.cons .here .nil)) ?_
         rintro z88 z2b z1W h
         obtain ⟨zco,rfl⟩:=y4e h
         rw [y1e] at h
         refine WC.b (WC.b (WC.a (WL.pu rfl (WL.pu rfl ?_))))
         refine WL.a (d:=41) rfl rfl rfl (yH Tryd.underlying30 rfl) ?_
         refine WL.pu rfl (WL.nil (WX.a ?_))
         refine WC.cond rfl (fun zcv=>?_) (fun zcv=>?_)
         ·replace h:=yc h zcv
          refine WC.skip (WX.a (WC.b (WC.block ?_)))
          obtain ⟨z8U,h⟩:=yb h
          obtain ⟨z89,h⟩:=yb h
          refine WC.a (WL.pu rfl (WL.pu rfl (WL.pu rfl ?_)))
          refine WL.know (fun w hw=>Hp.y32 .h1 hw (by intro hz'; have:=z8U; rw [hz'] at this; omega)) ?_
          rintro ⟨zt9,rfl⟩
          refine WL.a (d:=48) rfl rfl rfl (yw yu rfl rfl z8U.1 z8U.2 y1H) ?_
          refine WL.a (d:=49) rfl rfl rfl (y6 yh rfl (y1P .h1 ((y1C (enc:=e3) (l:=z2a) (i:=z1W) (sz:=1) (fun _=>rfl) z8U.1 z8U.2) 0 _ rfl))) ?_
          refine WL.a (d:=50) rfl rfl rfl (yw yu rfl rfl z89.1 z89.2 y1H) ?_
          refine WL.yq rfl rfl (y3U (vs:=[(.int .i64 1)]) (ds:=(z2b.set ((nth z2a z1W) : Int).toNat 1).flatMap e3) y36 rfl rfl rfl rfl (y5Q rfl y6e) .here (y58 (enc:=e3) (sz:=1) (k:=0) (fun _=>rfl) z89.1 z89.2 (by decide)) (y53 (enc:=e3) (l:=z2b) (sz:=1) (vs:=[(.int .i64 1)]) (y:=1) (k:=0) (fun _=>rfl) z89.1 z89.2 rfl (Nat.le_of_ble_eq_true rfl))) ?_
          refine WL.relen .here (u:=(.slice (some ⟨z2h,0,none⟩) ((z2b.set ((nth z2a z1W) : Int).toNat 1).length) (((i64 (((zO.length : Nat) : Int) + 1)) : Int).toNat))) (y45 (List.length_set).symm) ?_
          refine WL.repin (i:=5) rfl (u:=(.slice (some ⟨z2h,0,none⟩) ((z2b.set ((nth z2a z1W) : Int).toNat 1).length) (((i64 (((zO.length : Nat) : Int) + 1)) : Int).toNat))) (y45 (List.length_set).symm) ?_
          refine WL.nil (WX.ye (WX.a (WC.a (WL.pu rfl (WL.pu rfl (WL.pu rfl (WL.nil ?_)))))))
          exact WX.round (G:=Nat × List Int × Int) ⟨zco,(z2b.set ((nth z2a z1W) : Int).toNat 1),(i64 (z1W + 1))⟩ h (Nat.lt_succ_self _) (.cons rfl (.cons rfl (.cons rfl (.cons rfl (.cons rfl (.cons rfl (.cons rfl .nil))))))) (.cons .here (.cons .here .nil))
         ·replace h:=yd h zcv
          refine WC.exit (WX.yg (WX.yg (WX.yD ?_)))
          exact WX.mid (G:=List Int) z2b h (.cons rfl (.cons rfl (.cons rfl (.cons rfl (.cons rfl .nil))))) (.cons .here .nil)
        ·rintro z3v h
         replace h:=(zqF z3v).symm.trans h
         refine WX.ye ?_
         exact WX.mid (G:=List Int) z3v h (.cons rfl (.cons rfl (.cons rfl (.cons rfl (.cons rfl .nil))))) (.cons .here .nil)
      ·rintro z3u h
       replace h:=(zqC z3u).symm.trans h
       refine WC.a (WL.pu rfl (WL.pu rfl (WL.pu rfl (WL.nil ?_))))
       exact WX.round (G:=Nat × List Int × Int) ⟨zcp,z3u,(i64 (z1I + 1))⟩ h (Nat.lt_succ_self _) (.cons rfl (.cons rfl (.cons rfl (.cons rfl (.cons rfl .nil))))) (.cons .here .nil)
     ·replace h:=yd h zct
      refine WC.exit (WX.yg (WX.yg (WX.yD ?_)))
      exact WX.mid (G:=List Int) z1Y h (.cons rfl (.cons rfl (.cons rfl (.cons rfl .nil)))) (.cons .here .nil)
    ·rintro z3x h
     replace h:=(zqB z3x).symm.trans h
     refine WX.ye ?_
     exact WX.mid (G:=List Int) z3x h (.cons rfl (.cons rfl (.cons rfl (.cons rfl .nil)))) (.cons .here .nil)
   ·rintro z3w h
    replace h:=(zqA z3w).symm.trans h
    refine WC.a (WL.pu rfl (WL.pu rfl (WL.pu rfl (WL.nil ?_))))
    exact WX.round (G:=Nat × List Int × Int) ⟨zcq,z3w,(i64 (z2n + 1))⟩ h (Nat.lt_succ_self _) (.cons rfl (.cons rfl (.cons rfl (.cons rfl .nil)))) (.cons .here .nil)
  ·replace h:=yd h zcs
   refine WC.exit (WX.yg (WX.yg (WX.yD ?_)))
   exact WX.mid (G:=List Int) z2M h (.cons rfl .nil) (.cons .here .nil)
 ·rintro z3O h
  replace h:=(zqz z3O).symm.trans h
  refine WC.b (WC.a (WL.pu rfl (WL.pu rfl (WL.nil (WX.a (WC.ret ?_))))))
  obtain rfl:=Option.some.inj h
  refine WX.y8 Tryd.results39 (.tmp rfl .nil) (fun w hw=>?_)
  exact ⟨(some ⟨z2h,0,none⟩),(((i64 (((zO.length : Nat) : Int) + 1)) : Int).toNat),yx rfl,trivial,hw.sub (.cons .here .nil)⟩
def y1h (z2o : List Int) (z9P : (List Sapi_Ins) → Int → Option Int) (zY : List Sapi_Ins) (z4Q : Int → Option Int) : Nat → Int → Int → Option Int
 | 0,_,_=>none
 | zcw + 1,z2Q,z2p=>if decide (z2p < ((z2o.length : Nat) : Int)) then jp1 (fun (z4R : Int)=>y1h z2o z9P zY z4Q zcw z4R (i64 (z2p + 1))) fun z9Q=>chk ((0 : Int) ≤ z2p ∧ z2p < ((z2o.length : Nat) : Int)) ((z9P zY (nth z2o z2p)).bind fun z8V=>if decide (z8V > z2Q) then z9Q z8V else z9Q z2Q) else z4Q z2Q
theorem y4h {n : Nat} {z2o : List Int} {z9P : (List Sapi_Ins) → Int → Option Int} {zY : List Sapi_Ins} {z4Q : Int → Option Int} {z2Q : Int} {z2p : Int} {r : Int} (h : y1h z2o z9P zY z4Q n z2Q z2p = some r) : ∃ m,n = m + 1:=by
 cases n with
 | zero=>cases h
 | succ m=>exact ⟨m,rfl⟩
def yW : Nat → (List Sapi_Ins) → Int → Option Int
 | 0,_,_=>none
 | zcx + 1,zY,z1E=>if decide (z1E ≥ ((zY.length : Nat) : Int)) then some 0 else jp1 (fun (z3A : Int)=>(y1d zY z1E).bind fun z2o=>jp1 (fun (z5W : Int)=>some (i64 (z3A + z5W))) fun z4Q=>y1h z2o (yW zcx) zY z4Q yB 0 0) fun z9R=>chk ((0 : Int) ≤ z1E ∧ z1E < ((zY.length : Nat) : Int)) (if decide (((nth zY z1E).fOp) = 1) then chk ((0 : Int) ≤ z1E ∧ z1E < ((zY.length : Nat) : Int)) (z9R ((nth zY z1E).fA)) else z9R 1)
def y3D (zY : List Sapi_Ins) (z1E : Int) : Option Int:=yW yB zY z1E
set_option maxRecDepth 20000 in
theorem y5t : ∀ (n : Nat) (Z : Zp) (z2D : Option Addr) (z2E : Nat) (zY : List Sapi_Ins) (z1E : Int) (r : Int) (w₀ : World) (hz : PZ [] w₀ Z)
  (z5X : ZS Z 4 (fun r x=>r = e33 x) z2D z2E zY) (h : yW n zY z1E = some r),Calls Tryd.prog 40 #[(.slice z2D zY.length z2E),(.int .i64 z1E)] w₀ fun e w'=>e = .returned (.int .i64 r) ∧ Hp [] w₀ w' []:=by
 intro n
 induction n with
 | zero=>intro Z z2D z2E zY z1E r w₀ hz z5X h ; cases h
 | succ zcx ih =>
  intro Z z2D z2E zY z1E r w₀ hz z5X h 
  rw [yW] at h
  refine Calls.ya (vs:=[(.slice z2D zY.length z2E),(.int .i64 z1E)]) (pre:=[]) (env:=[(0,(.slice z2D zY.length z2E)),(1,(.int .i64 z1E))]) Tryd.func40 rfl Tryd.ntmps40 rfl (Hp.nil w₀ _) rfl ?_
  refine WC.b (WC.a (WL.pu rfl (WL.nil (WX.a (WC.b (WC.b (WC.a (WL.pu rfl (WL.pu rfl ?_)))))))))
  refine WL.a (d:=12) rfl rfl rfl (yH Tryd.underlying22 rfl) ?_
  refine WL.pu rfl (WL.nil (WX.a ?_))
  refine WC.cond rfl (fun zcy=>?_) (fun zcy=>?_)
  ·replace h:=yc h zcy
   refine WC.b (WC.a (WL.pu rfl (WL.nil (WX.a (WC.ret (WX.y7 ?_))))))
   obtain rfl:=Option.some.inj h
   refine WX.y8 Tryd.results40 (.tmp rfl .nil) (fun w hw=>?_)
   exact ⟨yx rfl,hw.sub .nil⟩
  ·replace h:=yd h zcy
   refine WC.skip (WX.a (WC.b (WC.a (WL.pu rfl (WL.nil (WX.a ?_))))))
   obtain ⟨z9R,zqG,h⟩:=yS h
   refine WC.yO (fun (z3A : Int)=>(z9R z3A = some r)) (fun (z3A : Int)=>[(0,(.slice z2D zY.length z2E)),(1,(.int .i64 z1E)),(5,(.int .i64 z3A))]) (fun (z3A : Int)=>[]) ?_ ?_
   ·skip
    refine WC.b ?_
    obtain ⟨zqH,h⟩:=yb h
    refine WC.a (WL.pu rfl (WL.pu rfl ?_))
    refine WL.znth (dd:=16) rfl rfl (Z:=Z) (Pr:=(fun r x=>r = e33 x)) y15 rfl rfl z5X zqH ?_
    rintro zta ztb zqI ztc rfl
    refine WL.a (d:=17) rfl rfl rfl (y4 y3d rfl rfl) ?_
    refine WL.a (d:=18) rfl rfl rfl (y6 yP rfl (y3z hz.pv zqI rfl)) ?_
    refine WL.pu rfl (WL.nil (WX.a ?_))
    refine WC.cond rfl (fun zcz=>?_) (fun zcz=>?_)
    ·replace h:=yc h zcz
     obtain ⟨zqJ,h⟩:=yb h
     refine WC.a (WL.pu rfl (WL.pu rfl ?_))
     refine WL.znth (dd:=22) rfl rfl (Z:=Z) (Pr:=(fun r x=>r = e33 x)) y15 rfl rfl z5X zqJ ?_
     rintro ztd zte zqK ztf rfl
     refine WL.a (d:=23) rfl rfl rfl (y4 y1p rfl rfl) ?_
     refine WL.a (d:=24) rfl rfl rfl (y6 yh rfl (y3z hz.pv zqK rfl)) ?_
     refine WL.pu rfl (WL.nil ?_)
     exact WX.mid (G:=Int) ((nth zY z1E).fA) h (.cons rfl (.cons rfl (.cons rfl .nil))) .nil
    ·replace h:=yd h zcz
     refine WC.skip ?_
     exact WX.mid (G:=Int) 1 h (.cons rfl (.cons rfl (.cons rfl .nil))) .nil
   ·rintro z3A h
    replace h:=(zqG z3A).symm.trans h
    refine WC.b (WC.a (WL.pu rfl (WL.nil (WX.a (WC.b ?_)))))
    obtain ⟨z2o,zqL,h⟩:=zd h
    refine WC.a (WL.pu rfl (WL.pu rfl ?_))
    refine WL.y24 (dd:=27) rfl rfl rfl (zm (l:=[.tmp 25,.tmp 26]) Tryd.call27 (.cons rfl (.cons rfl .nil))) .nil (cc hz .nil fun w pz ho=>y38 _ _ _ _ _ _ zqL w pz z5X) ?_
    rintro z9S z9T _
    refine WL.pu rfl (WL.nil (WX.a ?_))
    obtain ⟨z4Q,zqM,h⟩:=yS h
    refine WC.yO (fun (z5W : Int)=>(z4Q z5W = some r)) (fun (z5W : Int)=>[(5,(.int .i64 z3A)),(6,(.int .i64 z5W))]) (fun (z5W : Int)=>[]) ?_ ?_
    ·skip
     refine WC.b (WC.a (WL.pu rfl (WL.nil (WX.a (WC.block ?_)))))
     refine WC.y43 (fun (z8a : Nat) (z2Q : Int) (z2p : Int)=>(y1h z2o (yW zcx) zY z4Q z8a z2Q z2p = some r)) (fun (z8a : Nat) (z2Q : Int) (z2p : Int)=>[(0,(.slice z2D zY.length z2E)),(5,(.int .i64 z3A)),(6,(.int .i64 z2Q)),(7,(.slice z9S z2o.length z9T)),(8,(.int .i64 z2p))]) (fun (z8a : Nat) (z2Q : Int) (z2p : Int)=>[row (.slice z9S z2o.length z9T) 3 1 (z2o.flatMap e3)]) (fun (z8a : Nat) (z2Q : Int) (z2p : Int)=>z8a) ⟨yB,0,0⟩ h (.cons rfl (.cons rfl (.cons rfl (.cons rfl (.cons rfl .nil))))) (.cons .here .nil) ?_
     rintro z8a z2Q z2p h
     obtain ⟨zcw,rfl⟩:=y4h h
     rw [y1h] at h
     refine WC.b (WC.b (WC.a (WL.pu rfl (WL.pu rfl ?_))))
     refine WL.a (d:=30) rfl rfl rfl (yH Tryd.underlying30 rfl) ?_
     refine WL.pu rfl (WL.nil (WX.a ?_))
     refine WC.cond rfl (fun zcA=>?_) (fun zcA=>?_)
     ·replace h:=yc h zcA
      refine WC.skip (WX.a ?_)
      obtain ⟨z9Q,zqN,h⟩:=yS h
      refine WC.yO (fun (z4R : Int)=>(z9Q z4R = some r)) (fun (z4R : Int)=>[(0,(.slice z2D zY.length z2E)),(5,(.int .i64 z3A)),(6,(.int .i64 z4R)),(7,(.slice z9S z2o.length z9T)),(8,(.int .i64 z2p))]) (fun (z4R : Int)=>[row (.slice z9S z2o.length z9T) 3 1 (z2o.flatMap e3)]) ?_ ?_
      ·skip
       refine WC.block (WC.b ?_)
       obtain ⟨z8W,h⟩:=yb h
       obtain ⟨z8V,zqO,h⟩:=zd h
       refine WC.a (WL.pu rfl (WL.pu rfl (WL.pu rfl ?_)))
       refine WL.know (fun w hw=>Hp.y32 .here hw (by intro hz'; have:=z8W; rw [hz'] at this; omega)) ?_
       rintro ⟨ztg,rfl⟩
       refine WL.a (d:=37) rfl rfl rfl (yw yu rfl rfl z8W.1 z8W.2 y1H) ?_
       refine WL.a (d:=38) rfl rfl rfl (y6 yh rfl (y1P .here ((y1C (enc:=e3) (l:=z2o) (i:=z2p) (sz:=1) (fun _=>rfl) z8W.1 z8W.2) 0 _ rfl))) ?_
       refine WL.b (dd:=39) rfl rfl rfl (zm (l:=[.tmp 34,.tmp 38]) Tryd.call40 (.cons rfl (.cons rfl .nil))) .nil (cc hz .nil fun w pz ho=>ih (Z:=_) (z2D:=z2D) (z2E:=z2E) (zY:=zY) (z1E:=(nth z2o z2p)) (r:=z8V) w pz z5X zqO) ?_
       refine WL.pu rfl (WL.nil (WX.a (WC.b (WC.a (WL.pu rfl (WL.pu rfl (WL.pu rfl (WL.nil (WX.a ?_)))))))))
       refine WC.cond rfl (fun zcB=>?_) (fun zcB=>?_)
       ·replace h:=yc h zcB
        refine WC.a (WL.pu rfl (WL.pu rfl (WL.nil (WX.ye ?_))))
        exact WX.mid (G:=Int) z8V h (.cons rfl (.cons rfl (.cons rfl (.cons rfl (.cons rfl .nil))))) (.cons .here .nil)
       ·replace h:=yd h zcB
        refine WC.skip (WX.ye ?_)
        exact WX.mid (G:=Int) z2Q h (.cons rfl (.cons rfl (.cons rfl (.cons rfl (.cons rfl .nil))))) (.cons .here .nil)
      ·rintro z4R h
       replace h:=(zqN z4R).symm.trans h
       refine WC.a (WL.pu rfl (WL.pu rfl (WL.pu rfl (WL.nil ?_))))
       exact WX.round (G:=Nat × Int × Int) ⟨zcw,z4R,(i64 (z2p + 1))⟩ h (Nat.lt_succ_self _) (.cons rfl (.cons rfl (.cons rfl (.cons rfl (.cons rfl .nil))))) (.cons .here .nil)
     ·replace h:=yd h zcA
      refine WC.exit (WX.yg (WX.yg (WX.yD ?_)))
      exact WX.mid (G:=Int) z2Q h (.cons rfl (.cons rfl .nil)) .nil
    ·rintro z5W h
     replace h:=(zqM z5W).symm.trans h
     refine WC.b (WC.a (WL.pu rfl (WL.pu rfl (WL.pu rfl (WL.pu rfl (WL.nil (WX.a (WC.ret ?_))))))))
     obtain rfl:=Option.some.inj h
     refine WX.y8 Tryd.results40 (.tmp rfl .nil) (fun w hw=>?_)
     exact ⟨yx rfl,hw.sub .nil⟩
theorem y6k (Z : Zp) (z2D : Option Addr) (z2E : Nat) (zY : List Sapi_Ins) (z1E : Int) (r : Int) (w₀ : World) (hz : PZ [] w₀ Z)
  (z5X : ZS Z 4 (fun r x=>r = e33 x) z2D z2E zY) (h : y3D zY z1E = some r) : Calls Tryd.prog 40 #[(.slice z2D zY.length z2E),(.int .i64 z1E)] w₀ fun e w'=>e = .returned (.int .i64 r) ∧ Hp [] w₀ w' []:=y5t yB Z z2D z2E zY z1E r w₀ hz z5X h 
def y11 (z1R : List Sapi_Ins) (z2q : List Int) (z10 : Int) (z4S : Option (Int × Bool)) : Nat → Int → Option (Int × Bool)
 | 0,_=>none
 | zcC + 1,z1Z=>if decide (z1Z < ((z1R.length : Nat) : Int)) then chk ((0 : Int) ≤ z1Z ∧ z1Z < (((z2q.set (z10 : Int).toNat 1).length : Nat) : Int)) ((if decide ((nth (z2q.set (z10 : Int).toNat 1) z1Z) = 1) then (y1v z1R z1Z).bind fun z6p=>chk ((0 : Int) ≤ z1Z ∧ z1Z < ((z6p.length : Nat) : Int)) (some (decide ((nth z6p z1Z) = 1))) else some false).bind fun zcD=>if zcD then some (0,false) else y11 z1R z2q z10 z4S zcC (i64 (z1Z + 1))) else z4S
theorem y4i {n : Nat} {z1R : List Sapi_Ins} {z2q : List Int} {z10 : Int} {z4S : Option (Int × Bool)} {z1Z : Int} {r : Int × Bool} (h : y11 z1R z2q z10 z4S n z1Z = some r) : ∃ m,n = m + 1:=by
 cases n with
 | zero=>cases h
 | succ m=>exact ⟨m,rfl⟩
def y26 (z1R : List Sapi_Ins) (z10 : Int) : Option (Int × Bool) :=
 (y20 z1R).bind fun z9U=>if ((!z9U) || (decide (z10 < 0))) || (decide (z10 > ((z1R.length : Nat) : Int))) then some (0,false) else if decide (z10 = ((z1R.length : Nat) : Int)) then some (0,true) else (y1v z1R z10).bind fun z2q=>chk ((0 : Int) ≤ z10 ∧ z10 < ((z2q.length : Nat) : Int)) (jp0 ((y3D z1R z10).bind fun zcE=>some (zcE,true)) fun z4S=>y11 z1R z2q z10 z4S yB 0)
set_option maxRecDepth 20000 in
theorem y6l (Z : Zp) (z6q : Option Addr) (z6r : Nat) (z1R : List Sapi_Ins) (z10 : Int) (r : Int × Bool)
  (h : y26 z1R z10 = some r) (w₀ : World) (hz : PZ [] w₀ Z)
  (z9V : ZS Z 4 (fun r x=>r = e33 x) z6q z6r z1R) :
  Calls Tryd.prog 24 #[(.slice z6q z1R.length z6r),(.int .i64 z10)] w₀ fun e w'=>e = .returned (.tuple #[(.int .i64 r.1),(.bool r.2)]) ∧ Hp [] w₀ w' []:=by
 unfold y26 at h
 refine Calls.ya (vs:=[(.slice z6q z1R.length z6r),(.int .i64 z10)]) (pre:=[]) (env:=[(0,(.slice z6q z1R.length z6r)),(1,(.int .i64 z10))]) Tryd.func24 rfl Tryd.ntmps24 rfl (Hp.nil w₀ _) rfl ?_
 refine WC.b (WC.a (WL.pu rfl (WL.pu rfl (WL.nil (WX.a (WC.b (WC.b ?_)))))))
 obtain ⟨z9U,zqP,h⟩:=zd h
 refine WC.a (WL.pu rfl ?_)
 refine WL.b (dd:=9) rfl rfl rfl (zm (l:=[.tmp 8]) Tryd.call25 (.cons rfl .nil)) .nil (cc hz .nil fun w pz ho=>y5q _ _ _ _ _ zqP w pz z9V) ?_
 refine WL.pu rfl (WL.pu rfl ?_)
 refine WL.seg false 2 11 (B:=(!z9U) || (decide (z10 < 0))) rfl rfl rfl rfl rfl rfl (fun h=>(or_l h).symm) (fun _ zqQ=>?_) ?_
 ·skip
  refine WL.pu rfl (WL.pu rfl (WL.pu rfl ?_))
  exact WL.ys (or_r zqQ) rfl rfl .all
 refine WL.pu rfl ?_
 refine WL.seg false 4 15 (B:=((!z9U) || (decide (z10 < 0))) || (decide (z10 > ((z1R.length : Nat) : Int)))) rfl rfl rfl rfl rfl rfl (fun h=>(or_l h).symm) (fun _ zqR=>?_) ?_
 ·skip
  refine WL.pu rfl (WL.pu rfl ?_)
  refine WL.a (d:=18) rfl rfl rfl (yH Tryd.underlying22 rfl) ?_
  refine WL.pu rfl (WL.pu rfl ?_)
  exact WL.ys (or_r zqR) rfl rfl .all
 refine WL.nil (WX.a ?_)
 refine WC.cond rfl (fun zcF=>?_) (fun zcF=>?_)
 ·replace h:=yc h zcF
  refine WC.b (WC.a (WL.pu rfl (WL.pu rfl (WL.nil (WX.a (WC.ret (WX.y7 ?_)))))))
  obtain rfl:=Option.some.inj h
  refine WX.y8 Tryd.results24 (.tmp rfl (.tmp rfl .nil)) (fun w hw=>?_)
  exact ⟨y1B rfl rfl,hw.sub .nil⟩
 ·replace h:=yd h zcF
  refine WC.skip (WX.a (WC.b (WC.b (WC.a (WL.pu rfl (WL.pu rfl ?_))))))
  refine WL.a (d:=23) rfl rfl rfl (yH Tryd.underlying22 rfl) ?_
  refine WL.pu rfl (WL.nil (WX.a ?_))
  refine WC.cond rfl (fun zcG=>?_) (fun zcG=>?_)
  ·replace h:=yc h zcG
   refine WC.b (WC.a (WL.pu rfl (WL.pu rfl (WL.nil (WX.a (WC.ret (WX.y7 ?_)))))))
   obtain rfl:=Option.some.inj h
   refine WX.y8 Tryd.results24 (.tmp rfl (.tmp rfl .nil)) (fun w hw=>?_)
   exact ⟨y1B rfl rfl,hw.sub .nil⟩
  ·replace h:=yd h zcG
   refine WC.skip (WX.a (WC.b ?_))
   obtain ⟨z2q,zqS,h⟩:=zd h
   refine WC.a (WL.pu rfl (WL.pu rfl ?_))
   refine WL.y24 (dd:=27) rfl rfl rfl (zm (l:=[.tmp 25,.tmp 26]) Tryd.call39 (.cons rfl (.cons rfl .nil))) .nil (cc hz .nil fun w pz ho=>y4n _ _ _ _ _ _ zqS w pz z9V) ?_
   rintro zth z9W _
   refine WL.pu rfl (WL.nil (WX.a (WC.b ?_)))
   obtain ⟨z6s,h⟩:=yb h
   refine WC.a (WL.pu rfl (WL.pu rfl ?_))
   refine WL.know (fun w hw=>Hp.y32 .here hw (by intro hz'; have:=z6s; rw [hz'] at this; omega)) ?_
   rintro ⟨z9X,rfl⟩
   refine WL.a (d:=30) rfl rfl rfl (yw yu rfl rfl z6s.1 z6s.2 y1H) ?_
   refine WL.yq rfl rfl (y3U (vs:=[(.int .i64 1)]) (ds:=(z2q.set (z10 : Int).toNat 1).flatMap e3) y36 rfl rfl rfl rfl (y5Q rfl y6e) .here (y58 (enc:=e3) (sz:=1) (k:=0) (fun _=>rfl) z6s.1 z6s.2 (by decide)) (y53 (enc:=e3) (l:=z2q) (sz:=1) (vs:=[(.int .i64 1)]) (y:=1) (k:=0) (fun _=>rfl) z6s.1 z6s.2 rfl (Nat.le_of_ble_eq_true rfl))) ?_
   refine WL.relen .here (u:=(.slice (some ⟨z9X,0,none⟩) ((z2q.set (z10 : Int).toNat 1).length) z9W)) (y45 (List.length_set).symm) ?_
   refine WL.repin (i:=6) rfl (u:=(.slice (some ⟨z9X,0,none⟩) ((z2q.set (z10 : Int).toNat 1).length) z9W)) (y45 (List.length_set).symm) ?_
   refine WL.nil (WX.a ?_)
   obtain ⟨z4S,zqT,h⟩:=y27 h
   refine WC.y1F ((z4S = some r)) ([(0,(.slice z6q z1R.length z6r)),(1,(.int .i64 z10))]) ([]) ?_ ?_
   ·skip
    refine WC.b (WC.a (WL.pu rfl (WL.nil (WX.a (WC.block ?_)))))
    refine WC.y2B (fun (z8b : Nat) (z1Z : Int)=>(y11 z1R z2q z10 z4S z8b z1Z = some r)) (fun (z8b : Nat) (z1Z : Int)=>[(0,(.slice z6q z1R.length z6r)),(1,(.int .i64 z10)),(6,(.slice (some ⟨z9X,0,none⟩) ((z2q.set (z10 : Int).toNat 1).length) z9W)),(7,(.int .i64 z1Z))]) (fun (z8b : Nat) (z1Z : Int)=>[row (.slice (some ⟨z9X,0,none⟩) ((z2q.set (z10 : Int).toNat 1).length) z9W) 3 1 ((z2q.set (z10 : Int).toNat 1).flatMap e3)]) (fun (z8b : Nat) (z1Z : Int)=>z8b) ⟨yB,0⟩ h (.cons rfl (.cons rfl (.cons rfl (.cons rfl .nil)))) (.cons .here .nil) ?_
    rintro z8b z1Z h
    obtain ⟨zcC,rfl⟩:=y4i h
    rw [y11] at h
    refine WC.b (WC.b (WC.a (WL.pu rfl (WL.pu rfl ?_))))
    refine WL.a (d:=33) rfl rfl rfl (yH Tryd.underlying22 rfl) ?_
    refine WL.pu rfl (WL.nil (WX.a ?_))
    refine WC.cond rfl (fun zcH=>?_) (fun zcH=>?_)
    ·replace h:=yc h zcH
     refine WC.skip (WX.a (WC.b (WC.block (WC.b ?_))))
     obtain ⟨z9Y,h⟩:=yb h
     obtain ⟨zcD,zgv,h⟩:=zd h
     refine WC.a (WL.pu rfl (WL.pu rfl ?_))
     refine WL.a (d:=39) rfl rfl rfl (yw yu rfl rfl z9Y.1 z9Y.2 y1H) ?_
     refine WL.a (d:=40) rfl rfl rfl (y6 yh rfl (y1P .here ((y1C (enc:=e3) (l:=z2q.set (z10 : Int).toNat 1) (i:=z1Z) (sz:=1) (fun _=>rfl) z9Y.1 z9Y.2) 0 _ rfl))) ?_
     refine WL.pu rfl (WL.pu rfl ?_)
     refine WL.seg true 7 42 (B:=zcD) rfl rfl rfl rfl rfl rfl (fun h=>(Option.some.inj (yd zgv h)).symm) (fun _ zqU=>?_) ?_
     ·skip
      have z6t:=yc zgv zqU
      obtain ⟨z6p,zqV,z6t⟩:=zd z6t
      obtain ⟨z8X,z6t⟩:=yb z6t
      replace z6t:=Option.some.inj z6t
      refine WL.pu rfl (WL.pu rfl ?_)
      refine WL.y24 (dd:=45) rfl rfl rfl (zm (l:=[.tmp 43,.tmp 44]) Tryd.call39 (.cons rfl (.cons rfl .nil))) .nil (cc hz .nil fun w pz ho=>y4n _ _ _ _ _ _ zqV w pz z9V) ?_
      rintro zti ztj _
      refine WL.pu rfl ?_
      refine WL.know (fun w hw=>Hp.y32 .here hw (by intro hz'; have:=z8X; rw [hz'] at this; omega)) ?_
      rintro ⟨ztk,rfl⟩
      refine WL.a (d:=47) rfl rfl rfl (yw yu rfl rfl z8X.1 z8X.2 y1H) ?_
      refine WL.a (d:=48) rfl rfl rfl (y6 yh rfl (y1P .here ((y1C (enc:=e3) (l:=z6p) (i:=z1Z) (sz:=1) (fun _=>rfl) z8X.1 z8X.2) 0 _ rfl))) ?_
      refine WL.pu rfl (WL.pu rfl ?_)
      exact WL.ys z6t rfl rfl (.cons .h1 .nil)
     refine WL.nil (WX.a ?_)
     refine WC.cond rfl (fun zcI=>?_) (fun zcI=>?_)
     ·replace h:=yc h zcI
      refine WC.b (WC.a (WL.pu rfl (WL.pu rfl (WL.nil (WX.a (WC.ret (WX.yf (WX.y7 (WX.y7 (WX.yf (WX.y7 ?_)))))))))))
      obtain rfl:=Option.some.inj h
      refine WX.y8 Tryd.results24 (.tmp rfl (.tmp rfl .nil)) (fun w hw=>?_)
      exact ⟨y1B rfl rfl,hw.sub .nil⟩
     ·replace h:=yd h zcI
      refine WC.skip (WX.ye (WX.a (WC.a (WL.pu rfl (WL.pu rfl (WL.pu rfl (WL.nil ?_)))))))
      exact WX.round (G:=Nat × Int) ⟨zcC,(i64 (z1Z + 1))⟩ h (Nat.lt_succ_self _) (.cons rfl (.cons rfl (.cons rfl (.cons rfl .nil)))) (.cons .here .nil)
    ·replace h:=yd h zcH
     refine WC.exit (WX.yg (WX.yg (WX.yD ?_)))
     exact WX.mid (G:=Unit) () h (.cons rfl (.cons rfl .nil)) .nil
   ·rintro  h
    replace h:=zqT.symm.trans h
    refine WC.b ?_
    obtain ⟨zcE,zqW,h⟩:=zd h
    refine WC.a (WL.pu rfl (WL.pu rfl ?_))
    refine WL.b (dd:=53) rfl rfl rfl (zm (l:=[.tmp 51,.tmp 52]) Tryd.call40 (.cons rfl (.cons rfl .nil))) .nil (cc hz .nil fun w pz ho=>y6k (Z:=_) (z2D:=z6q) (z2E:=z6r) (zY:=z1R) (z1E:=z10) (r:=zcE) w pz z9V zqW) ?_
    refine WL.pu rfl (WL.pu rfl (WL.nil (WX.a (WC.ret ?_))))
    obtain rfl:=Option.some.inj h
    refine WX.y8 Tryd.results24 (.tmp rfl (.tmp rfl .nil)) (fun w hw=>?_)
    exact ⟨y1B rfl rfl,hw.sub .nil⟩
def y1n (z2x : List Int) (z2F : List Int) (z4T : Option Bool) : Nat → Int → Option Bool
 | 0,_=>none
 | zcJ + 1,z2r=>if decide (z2r < ((z2x.length : Nat) : Int)) then chk ((0 : Int) ≤ z2r ∧ z2r < ((z2x.length : Nat) : Int)) (chk ((0 : Int) ≤ z2r ∧ z2r < ((z2F.length : Nat) : Int)) (if decide ((nth z2x z2r) ≠ (nth z2F z2r)) then some false else y1n z2x z2F z4T zcJ (i64 (z2r + 1)))) else z4T
theorem y4y {n : Nat} {z2x : List Int} {z2F : List Int} {z4T : Option Bool} {z2r : Int} {r : Bool} (h : y1n z2x z2F z4T n z2r = some r) : ∃ m,n = m + 1:=by
 cases n with
 | zero=>cases h
 | succ m=>exact ⟨m,rfl⟩
def y2y (z2x : List Int) (z2F : List Int) : Option Bool :=
 if decide (((z2x.length : Nat) : Int) ≠ ((z2F.length : Nat) : Int)) then some false else jp0 (some true) fun z4T=>y1n z2x z2F z4T yB 0
set_option maxRecDepth 20000 in
theorem y6y (Z : Zp) (z8Y : Option Addr) (z8Z : Nat) (z90 : Option Addr) (z91 : Nat) (z2x : List Int) (z2F : List Int) (r : Bool)
  (h : y2y z2x z2F = some r) (w₀ : World) (hz : PZ [] w₀ Z)
  (zqX : ZS Z 1 (fun r x=>r = e3 x) z8Y z8Z z2x)
  (zqY : ZS Z 1 (fun r x=>r = e3 x) z90 z91 z2F) :
  Calls Tryd.prog 26 #[(.slice z8Y z2x.length z8Z),(.slice z90 z2F.length z91)] w₀ fun e w'=>e = .returned (.bool r) ∧ Hp [] w₀ w' []:=by
 unfold y2y at h
 refine Calls.ya (vs:=[(.slice z8Y z2x.length z8Z),(.slice z90 z2F.length z91)]) (pre:=[]) (env:=[(0,(.slice z8Y z2x.length z8Z)),(1,(.slice z90 z2F.length z91))]) Tryd.func26 rfl Tryd.ntmps26 rfl (Hp.nil w₀ _) rfl ?_
 refine WC.b (WC.a (WL.pu rfl (WL.nil (WX.a (WC.b (WC.b (WC.a (WL.pu rfl ?_))))))))
 refine WL.a (d:=7) rfl rfl rfl (yH Tryd.underlying30 rfl) ?_
 refine WL.pu rfl ?_
 refine WL.a (d:=9) rfl rfl rfl (yH Tryd.underlying30 rfl) ?_
 refine WL.pu rfl (WL.nil (WX.a ?_))
 refine WC.cond rfl (fun zcK=>?_) (fun zcK=>?_)
 ·replace h:=yc h zcK
  refine WC.b (WC.a (WL.pu rfl (WL.nil (WX.a (WC.ret (WX.y7 ?_))))))
  obtain rfl:=Option.some.inj h
  refine WX.y8 Tryd.results26 (.tmp rfl .nil) (fun w hw=>?_)
  exact ⟨yx rfl,hw.sub .nil⟩
 ·replace h:=yd h zcK
  refine WC.skip (WX.a ?_)
  obtain ⟨z4T,zqZ,h⟩:=y27 h
  refine WC.y1F ((z4T = some r)) ([]) ([]) ?_ ?_
  ·skip
   refine WC.b (WC.a (WL.pu rfl (WL.nil (WX.a (WC.block ?_)))))
   refine WC.y2B (fun (z8c : Nat) (z2r : Int)=>(y1n z2x z2F z4T z8c z2r = some r)) (fun (z8c : Nat) (z2r : Int)=>[(0,(.slice z8Y z2x.length z8Z)),(1,(.slice z90 z2F.length z91)),(5,(.int .i64 z2r))]) (fun (z8c : Nat) (z2r : Int)=>[]) (fun (z8c : Nat) (z2r : Int)=>z8c) ⟨yB,0⟩ h (.cons rfl (.cons rfl (.cons rfl .nil))) .nil ?_
   rintro z8c z2r h
   obtain ⟨zcJ,rfl⟩:=y4y h
   rw [y1n] at h
   refine WC.b (WC.b (WC.a (WL.pu rfl (WL.pu rfl ?_))))
   refine WL.a (d:=13) rfl rfl rfl (yH Tryd.underlying30 rfl) ?_
   refine WL.pu rfl (WL.nil (WX.a ?_))
   refine WC.cond rfl (fun zcL=>?_) (fun zcL=>?_)
   ·replace h:=yc h zcL
    refine WC.skip (WX.a (WC.b (WC.block (WC.b ?_))))
    obtain ⟨zr0,h⟩:=yb h
    obtain ⟨zr1,h⟩:=yb h
    refine WC.y1j (fun i=>[].contains i) [] rfl ?_
    refine WD.a (i:=0) (d:=17) (by kernel_rfl) rfl z1 z2 rfl rfl rfl (fun _=>q_m rfl) ?_
    refine WD.a (i:=1) (d:=18) (by kernel_rfl) rfl z1 z2 rfl rfl rfl (fun _=>q_m rfl) ?_
    refine WD.znth (j:=2) (dd:=19) (by kernel_rfl) rfl z1 z2 rfl rfl (Z:=Z) (Pr:=(fun r x=>r = e3 x)) yu rfl rfl zqX zr0 ?_
    rintro ztl ztm zr2 ztn rfl
    refine WD.e (i:=3) (d:=20) (by kernel_rfl) rfl z1 z2 rfl rfl rfl (y6 yh rfl (y33 hz.pv zr2 rfl)) ?_
    refine WD.a (i:=4) (d:=21) (by kernel_rfl) rfl z1 z2 rfl rfl rfl (fun _=>q_m rfl) ?_
    refine WD.a (i:=5) (d:=22) (by kernel_rfl) rfl z1 z2 rfl rfl rfl (fun _=>q_m rfl) ?_
    refine WD.znth (j:=6) (dd:=23) (by kernel_rfl) rfl z1 z2 rfl rfl (Z:=Z) (Pr:=(fun r x=>r = e3 x)) yu rfl rfl zqY zr1 ?_
    rintro zto ztp zr3 ztq rfl
    refine WD.e (i:=7) (d:=24) (by kernel_rfl) rfl z1 z2 rfl rfl rfl (y6 yh rfl (y33 hz.pv zr3 rfl)) ?_
    refine WD.a (i:=8) (d:=25) (by kernel_rfl) rfl z1 z2 rfl rfl rfl (fun _=>q_neq rfl rfl) ?_
    refine WD.done (by kernel_rfl) ?_
    refine WX.a ?_
    refine WC.cond rfl (fun zcM=>?_) (fun zcM=>?_)
    ·replace h:=yc h zcM
     refine WC.b (WC.a (WL.pu rfl (WL.nil (WX.a (WC.ret (WX.yf (WX.y7 (WX.y7 (WX.yf (WX.y7 ?_))))))))))
     obtain rfl:=Option.some.inj h
     refine WX.y8 Tryd.results26 (.tmp rfl .nil) (fun w hw=>?_)
     exact ⟨yx rfl,hw.sub .nil⟩
    ·replace h:=yd h zcM
     refine WC.skip (WX.ye (WX.a (WC.a (WL.pu rfl (WL.pu rfl (WL.pu rfl (WL.nil ?_)))))))
     exact WX.round (G:=Nat × Int) ⟨zcJ,(i64 (z2r + 1))⟩ h (Nat.lt_succ_self _) (.cons rfl (.cons rfl (.cons rfl .nil))) .nil
   ·replace h:=yd h zcL
    refine WC.exit (WX.yg (WX.yg (WX.yD ?_)))
    exact WX.mid (G:=Unit) () h .nil .nil
  ·rintro  h
   replace h:=zqZ.symm.trans h
   refine WC.b (WC.a (WL.pu rfl (WL.nil (WX.a (WC.ret ?_)))))
   obtain rfl:=Option.some.inj h
   refine WX.y8 Tryd.results26 (.tmp rfl .nil) (fun w hw=>?_)
   exact ⟨yx rfl,hw.sub .nil⟩
def y2O (z3i : List Sapi_Ins) (z4U : Int) : Option Bool :=
 (y1k z3i z4U).bind fun z8d=>(y26 z3i z4U).bind fun z8e=>(y2x z3i).bind fun zgw=>(y20 z3i).bind fun zgx=>(if zgw == zgx then (y1y z3i z4U).bind fun zgy=>(y1d z3i z4U).bind fun zgz=>(y2y zgy zgz).bind fun zgA=>some zgA else some false).bind fun z92=>some ((z92 && (decide (z8d.1 = z8e.1))) && (z8d.2 == z8e.2))
set_option maxRecDepth 20000 in
theorem y6T (Z : Zp) (z9Z : Option Addr) (za0 : Nat) (z3i : List Sapi_Ins) (z4U : Int) (r : Bool)
  (h : y2O z3i z4U = some r) (w₀ : World) (hz : PZ [] w₀ Z)
  (hG1 : ZS Z 1 (p74 Z) (some ⟨1,0,none⟩) 26 y18)
  (z8f : ZS Z 4 (fun r x=>r = e33 x) z9Z za0 z3i) :
  Calls Tryd.prog 11 #[(.slice z9Z z3i.length za0),(.int .i64 z4U)] w₀ fun e w'=>e = .returned (.bool r) ∧ Hp [] w₀ w' []:=by
 unfold y2O at h
 refine Calls.ya (vs:=[(.slice z9Z z3i.length za0),(.int .i64 z4U)]) (pre:=[]) (env:=[(0,(.slice z9Z z3i.length za0)),(1,(.int .i64 z4U))]) Tryd.func11 rfl Tryd.ntmps11 rfl (Hp.nil w₀ _) rfl ?_
 refine WC.b (WC.a (WL.pu rfl (WL.nil (WX.a (WC.b ?_)))))
 obtain ⟨z8d,zr4,h⟩:=zd h
 refine WC.a (WL.pu rfl (WL.pu rfl ?_))
 refine WL.b (dd:=12) rfl rfl rfl (zm (l:=[.tmp 10,.tmp 11]) Tryd.call13 (.cons rfl (.cons rfl .nil))) .nil (cc hz .nil fun w pz ho=>y3e _ _ _ _ _ _ zr4 w pz hG1 z8f) ?_
 refine WL.pu rfl (WL.pu rfl (WL.pu rfl (WL.pu rfl (WL.pu rfl (WL.nil (WX.a (WC.b ?_)))))))
 obtain ⟨z8e,zr5,h⟩:=zd h
 refine WC.a (WL.pu rfl (WL.pu rfl ?_))
 refine WL.b (dd:=18) rfl rfl rfl (zm (l:=[.tmp 16,.tmp 17]) Tryd.call24 (.cons rfl (.cons rfl .nil))) .nil (cc hz .nil fun w pz ho=>y6l _ _ _ _ _ _ zr5 w pz z8f) ?_
 refine WL.pu rfl (WL.pu rfl (WL.pu rfl (WL.pu rfl (WL.pu rfl (WL.nil (WX.a (WC.b ?_)))))))
 obtain ⟨zgw,zr6,h⟩:=zd h
 obtain ⟨zgx,zr7,h⟩:=zd h
 obtain ⟨z92,zgB,h⟩:=zd h
 refine WC.a (WL.pu rfl ?_)
 refine WL.b (dd:=22) rfl rfl rfl (zm (l:=[.tmp 21]) Tryd.call14 (.cons rfl .nil)) .nil (cc hz .nil fun w pz ho=>y5K _ _ _ _ _ zr6 w pz hG1 z8f) ?_
 refine WL.pu rfl ?_
 refine WL.b (dd:=24) rfl rfl rfl (zm (l:=[.tmp 23]) Tryd.call25 (.cons rfl .nil)) .nil (cc hz .nil fun w pz ho=>y5q _ _ _ _ _ zr7 w pz z8f) ?_
 refine WL.a (d:=25) rfl rfl rfl (q_beql Tryd.underlying4 rfl rfl) ?_
 refine WL.pu rfl ?_
 refine WL.seg true 7 26 (B:=z92) rfl rfl rfl rfl rfl rfl (fun h=>(Option.some.inj (yd zgB h)).symm) (fun _ zr8=>?_) ?_
 ·skip
  have z4V:=yc zgB zr8
  obtain ⟨zgy,zr9,z4V⟩:=zd z4V
  obtain ⟨zgz,zra,z4V⟩:=zd z4V
  obtain ⟨zgA,zrb,z4V⟩:=zd z4V
  replace z4V:=Option.some.inj z4V
  refine WL.pu rfl (WL.pu rfl ?_)
  refine WL.y24 (dd:=29) rfl rfl rfl (zm (l:=[.tmp 27,.tmp 28]) Tryd.call15 (.cons rfl (.cons rfl .nil))) .nil (cc hz .nil fun w pz ho=>y3S _ _ _ _ _ _ zr9 w pz hG1 z8f) ?_
  rintro ztr zts _
  refine WL.pu rfl (WL.pu rfl ?_)
  refine WL.y24 (dd:=32) rfl rfl rfl (zm (l:=[.tmp 30,.tmp 31]) Tryd.call27 (.cons rfl (.cons rfl .nil))) .nil (cc hz .nil fun w pz ho=>y38 _ _ _ _ _ _ zra w pz z8f) ?_
  rintro ztt ztu _
  refine WL.b (dd:=33) rfl rfl rfl (zm (l:=[.tmp 29,.tmp 32]) Tryd.call26 (.cons rfl (.cons rfl .nil))) .nil (ccl hz .nil (.cons .h1 (.cons .here .nil)) fun w pz ho la=>y6y _ _ _ _ _ _ _ _ zrb w pz (ZA.row (la _ (.head _) _) (RR.yK (enc:=e3) (fun _=>rfl) _) ⟨w,pz.1⟩) (ZA.row (la _ (.tail _ (.head _)) _) (RR.yK (enc:=e3) (fun _=>rfl) _) ⟨w,pz.1⟩)) ?_
  refine WL.pu rfl ?_
  exact WL.ys z4V rfl rfl .nil
 refine WL.pu rfl ?_
 refine WL.seg true 3 35 (B:=z92 && (decide (z8d.1 = z8e.1))) rfl rfl rfl rfl rfl rfl (fun h=>(y1T h).symm) (fun _ zrc=>?_) ?_
 ·skip
  refine WL.pu rfl (WL.pu rfl (WL.pu rfl (WL.pu rfl ?_)))
  exact WL.ys (y1U zrc) rfl rfl .all
 refine WL.pu rfl ?_
 refine WL.seg true 3 40 (B:=(z92 && (decide (z8d.1 = z8e.1))) && (z8d.2 == z8e.2)) rfl rfl rfl rfl rfl rfl (fun h=>(y1T h).symm) (fun _ zrd=>?_) ?_
 ·skip
  refine WL.pu rfl (WL.pu rfl ?_)
  refine WL.a (d:=43) rfl rfl rfl (q_beql Tryd.underlying4 rfl rfl) ?_
  refine WL.pu rfl ?_
  exact WL.ys (y1U zrd) rfl rfl .all
 refine WL.pu rfl (WL.nil (WX.a (WC.ret ?_)))
 obtain rfl:=Option.some.inj h
 refine WX.y8 Tryd.results11 (.tmp rfl .nil) (fun w hw=>?_)
 exact ⟨yx rfl,hw.sub .nil⟩
end Go.Proofs.YtjdnejbngloieaaDoor

/- A part of this claim's proof: models of functions, walks, plain laws. No conditions. -/
import Derived.Test.YtcahmabkeaijdaaGreatW35xa
set_option linter.all false
namespace Go.Proofs.YtcahmabkeaijdaaGreat
open Go Go.RowKit Sep
set_option maxRecDepth 30000
set_option maxHeartbeats 4000000
def y3n (z19 : List (List Sapi_Hop)) (z1l : Int) (z8X : (List Sbound_place) → Option (List Sbound_place)) : Nat → (List Sbound_place) → Int → Option (List Sbound_place)
 | 0,_,_=>none
 | zpQ + 1,z2P,z2Q=>if decide (z2Q < (((nth z19 z1l).length : Nat) : Int)) then jp1 (fun (z78 : List Sbound_place)=>y3n z19 z1l z8X zpQ z78 (i64 (z2Q + 1))) fun zlj=>chk ((0 : Int) ≤ z2Q ∧ z2Q < (((nth z19 z1l).length : Nat) : Int)) ((y3U (⟨((nth (nth z19 z1l) z2Q).fNode),((nth (nth z19 z1l) z2Q).fNext),((nth (nth z19 z1l) z2Q).fLink)⟩ : Sapi_Hop)).bind fun zxw=>(y1q z2P zxw).bind fun zxx=>if !zxx then (y3U (⟨((nth (nth z19 z1l) z2Q).fNode),((nth (nth z19 z1l) z2Q).fNext),((nth (nth z19 z1l) z2Q).fLink)⟩ : Sapi_Hop)).bind fun zd9=>chk ((((z2P ++ ([zd9] : List Sbound_place)).length : Nat) : Int) * 16 ≤ 140737488355328 ∧ (((z2P ++ ([zd9] : List Sbound_place)).length : Nat) : Int) ≤ 4611686018427387904) (zlj (z2P ++ ([zd9] : List Sbound_place))) else zlj z2P) else z8X z2P
theorem y9o {n : Nat} {z19 : List (List Sapi_Hop)} {z1l : Int} {z8X : (List Sbound_place) → Option (List Sbound_place)} {z2P : List Sbound_place} {z2Q : Int} {r : List Sbound_place} (h : y3n z19 z1l z8X n z2P z2Q = some r) : ∃ m,n = m + 1:=by
 cases n with
 | zero=>cases h
 | succ m=>exact ⟨m,rfl⟩
def y3o (z19 : List (List Sapi_Hop)) (z8Y : (List Sbound_place) → Option (List Sbound_place)) : Nat → (List Sbound_place) → Int → Option (List Sbound_place)
 | 0,_,_=>none
 | zpR + 1,z54,z1l=>if decide (z1l < ((z19.length : Nat) : Int)) then jp1 (fun (z79 : List Sbound_place)=>y3o z19 z8Y zpR z79 (i64 (z1l + 1))) fun zpS=>chk ((0 : Int) ≤ z1l ∧ z1l < ((z19.length : Nat) : Int)) (jp1 (fun (z7a : List Sbound_place)=>zpS z7a) fun z8X=>y3n z19 z1l z8X yz z54 0) else z8Y z54
theorem y9p {n : Nat} {z19 : List (List Sapi_Hop)} {z8Y : (List Sbound_place) → Option (List Sbound_place)} {z54 : List Sbound_place} {z1l : Int} {r : List Sbound_place} (h : y3o z19 z8Y n z54 z1l = some r) : ∃ m,n = m + 1:=by
 cases n with
 | zero=>cases h
 | succ m=>exact ⟨m,rfl⟩
def y5I (z19 : List (List Sapi_Hop)) : Option (List Sbound_place) :=
 jp1 (fun (z7E : List Sbound_place)=>(y1r z7E (fun (y0 : Sbound_place) (y1 : Sbound_place)=>y1j y0 y1)).bind fun zpT=>some zpT) fun z8Y=>y3o z19 z8Y yz ([] : List Sbound_place) 0
theorem ycF (Z : Zp) (zda : Option Addr) (zdb : Nat) (z19 : List (List Sapi_Hop)) (r : List Sbound_place)
  (h : y5I z19 = some r) (w₀ : World) (hz : PZ [] w₀ Z)
  (zFO : ZS Z 1 (p48 Z) zda zdb z19) :
  Calls Tryz.prog 35 #[(.slice zda z19.length zdb)] w₀ fun e w'=>∃ zxy : Option Addr,∃ zxz : Nat,e = .returned (.slice zxy r.length zxz) ∧ True ∧ Hp [] w₀ w' [row (.slice zxy r.length zxz) 97 2 (r.flatMap e97)]:=by
 unfold y5I at h
 refine Calls.on1 Tryz.func35 Tryz.ntmps35 ?_
 refine WC.b (WC.a (WL.pu rfl (WL.nil (WX.a (WC.b (WC.a (WL.pu rfl (WL.nil (WX.a ?_)))))))))
 obtain ⟨z8Y,zFP,h⟩:=y14 h
 refine WC.y2F (fun (z7E : List Sbound_place) (zdc : Option Addr) (zdd : Nat)=>(z8Y z7E = some r)) (fun z7E zdc zdd=>[(3,(.slice zdc z7E.length zdd))]) (fun z7E zdc zdd=>[row (.slice zdc z7E.length zdd) 97 2 (z7E.flatMap e97)]) ?_ ?_
 ·skip
  refine WC.b (WC.a (WL.pu rfl (WL.qA 9 (yG Tryz.underlying32 rfl) (WL.pu rfl (WL.nil (WX.a (WC.block (WC.nilRow 97 2 (WC.y6s (fun (zf2 : Nat) (z54 : List Sbound_place) (z1l : Int) (zaL : Option Addr) (zaM : Nat)=>(y3o z19 z8Y zf2 z54 z1l = some r)) (fun zf2 z54 z1l zaL zaM=>[(3,(.slice zaL z54.length zaM)),(8,(.slice zda z19.length zdb)),(9,(.int .i64 ((z19.length : Nat) : Int))),(10,(.int .i64 z1l))]) (fun zf2 z54 z1l zaL zaM=>[row (.slice zaL z54.length zaM) 97 2 (z54.flatMap e97)]) (fun zf2 z54 z1l zaL zaM=>zf2) ⟨yz,([] : List Sbound_place),0,none,0⟩ h (.r4 rfl rfl rfl rfl) (.cons .here .nil) ?_)))))))))
  rintro zf2 z54 z1l zaL zaM h
  obtain ⟨zpR,rfl⟩:=y9p h
  rw [y3o] at h
  refine WC.b (WC.a (WL.pu rfl (WL.nil (WX.a (WC.b (WC.cond rfl (fun zpU=>?_) (fun zpU=>?_)))))))
  ·replace h:=yo h zpU
   refine WC.skip (WX.a ?_)
   obtain ⟨zpS,zFQ,h⟩:=y14 h
   refine WC.y2F (fun (z79 : List Sbound_place) (zf3 : Option Addr) (zf4 : Nat)=>(zpS z79 = some r)) (fun z79 zf3 zf4=>[(3,(.slice zf3 z79.length zf4)),(8,(.slice zda z19.length zdb)),(9,(.int .i64 ((z19.length : Nat) : Int))),(10,(.int .i64 z1l))]) (fun z79 zf3 zf4=>[row (.slice zf3 z79.length zf4) 97 2 (z79.flatMap e97)]) ?_ ?_
   ·skip
    refine WC.block (WC.b ?_)
    obtain ⟨zFR,h⟩:=ym h
    refine WC.a (WL.znth (dd:=12) rfl rfl (Z:=Z) (Pr:=(p48 Z)) y73 rfl rfl zFO zFR ?_)
    rintro zSw zSx zFS zSy ⟨zxA,zxB,rfl,zFT⟩
    refine WL.qA 13 (yc y6H rfl (y53 hz.pv zFS rfl)) (WL.pu rfl (WL.nil (WX.a (WC.b (WC.a (WL.pu rfl (WL.qA 15 (yG Tryz.underlying48 rfl) (WL.pu rfl (WL.nil (WX.a ?_))))))))))
    obtain ⟨z8X,zFU,h⟩:=y14 h
    refine WC.mid3 (fun (z7a : List Sbound_place) (zf5 : Option Addr) (zf6 : Nat)=>(z8X z7a = some r)) (fun z7a zf5 zf6=>[(3,(.slice zf5 z7a.length zf6)),(8,(.slice zda z19.length zdb)),(9,(.int .i64 ((z19.length : Nat) : Int))),(10,(.int .i64 z1l))]) (fun z7a zf5 zf6=>[row (.slice zf5 z7a.length zf6) 97 2 (z7a.flatMap e97)]) ?_ ?_
    ·skip
     refine WC.block (WC.y6s (fun (zf7 : Nat) (z2P : List Sbound_place) (z2Q : Int) (zaN : Option Addr) (zaO : Nat)=>(y3n z19 z1l z8X zf7 z2P z2Q = some r)) (fun zf7 z2P z2Q zaN zaO=>[(3,(.slice zaN z2P.length zaO)),(8,(.slice zda z19.length zdb)),(9,(.int .i64 ((z19.length : Nat) : Int))),(10,(.int .i64 z1l)),(14,(.slice zxA ((nth z19 z1l).length) zxB)),(15,(.int .i64 (((nth z19 z1l).length : Nat) : Int))),(16,(.int .i64 z2Q))]) (fun zf7 z2P z2Q zaN zaO=>[row (.slice zaN z2P.length zaO) 97 2 (z2P.flatMap e97)]) (fun zf7 z2P z2Q zaN zaO=>zf7) ⟨yz,z54,0,zaL,zaM⟩ h (.r7 rfl rfl rfl rfl rfl rfl rfl) (.cons .here .nil) ?_)
     rintro zf7 z2P z2Q zaN zaO h
     obtain ⟨zpQ,rfl⟩:=y9o h
     rw [y3n] at h
     refine WC.b (WC.a (WL.pu rfl (WL.nil (WX.a (WC.b (WC.cond rfl (fun zpV=>?_) (fun zpV=>?_)))))))
     ·replace h:=yo h zpV
      refine WC.skip (WX.a ?_)
      obtain ⟨zlj,zFV,h⟩:=y14 h
      refine WC.y2F (fun (z78 : List Sbound_place) (zf8 : Option Addr) (zf9 : Nat)=>(zlj z78 = some r)) (fun z78 zf8 zf9=>[(3,(.slice zf8 z78.length zf9)),(8,(.slice zda z19.length zdb)),(9,(.int .i64 ((z19.length : Nat) : Int))),(10,(.int .i64 z1l)),(14,(.slice zxA ((nth z19 z1l).length) zxB)),(15,(.int .i64 (((nth z19 z1l).length : Nat) : Int))),(16,(.int .i64 z2Q))]) (fun z78 zf8 zf9=>[row (.slice zf8 z78.length zf9) 97 2 (z78.flatMap e97)]) ?_ ?_
      ·skip
       refine WC.block (WC.b ?_)
       obtain ⟨zFW,h⟩:=ym h
       refine WC.a (WL.znth (dd:=18) rfl rfl (Z:=Z) (Pr:=(fun r x=>r = e62 x)) y61 rfl rfl zFT zFW ?_)
       rintro zSz zSA zFX zSB rfl
       refine WL.qA 19 (yf y3G rfl (y2o hz.pv zFX) rfl) (WL.nA 7 (yx (cs:=[(.int .i64 0),(.int .i64 0),(.int .i64 0)]) y6v rfl) ?_)
       intro zSC _
       refine WL.yl rfl rfl (yk y6I rfl rfl rfl .here rfl rfl rfl) (WL.nil (WX.a (WC.b ?_)))
       obtain ⟨zxw,zFY,h⟩:=z7 h
       obtain ⟨zxx,zFZ,h⟩:=z7 h
       refine WC.a (WL.pu rfl (WL.qA 21 (yf y3G rfl (yh .here) rfl) (WL.cA 22 (z8 Tryz.call40 (.cons rfl .nil)) .nil (cc hz .nil fun w pz ho=>y5i _ _ _ zFY w pz ) (WL.cA 23 (z8 Tryz.call63 (.r2 rfl rfl)) .nil (ccl hz .nil (.cons .h1 .nil) fun w pz ho la=>y5P _ _ _ _ _ _ zFZ w pz (ZA.row (la _ (.head _) _) (RR.flat (enc:=e97) (fun _=>rfl) _) ⟨w,pz.1⟩)) (WL.pu rfl (WL.nil (WX.a (WC.cond rfl (fun zpW=>?_) (fun zpW=>?_)))))))))
       ·replace h:=yo h zpW
        obtain ⟨zd9,zG0,h⟩:=z7 h
        obtain ⟨zG1,h⟩:=ym h
        refine WC.a (WL.pu rfl (WL.qA 26 (yf y3G rfl (yh .here) rfl) (WL.cA 27 (z8 Tryz.call40 (.cons rfl .nil)) .nil (cc hz .nil fun w pz ho=>y5i _ _ _ zG0 w pz ) (WL.nA 28 (yX (cs:=([zd9] : List Sbound_place).flatMap e97) y5f (Eos.parts (l:=[.tmp 27]) (.cons rfl .nil) [0]) (fun _=>by kernel_rfl) rfl (by unfold maxLen; omega)) ?_))))
        intro zSD _
        refine WL.fA 29 (y4M (enc:=e97) (l1:=z2P) (l2:=([zd9] : List Sbound_place)) y5f rfl rfl .h2 (fun _=>rfl) rfl rfl (y4d .here) (y5a yaM _) zG1) ?_
        rintro ⟨zG2,zG3⟩ _
        refine WL.pu rfl (WL.nil (WX.yq ?_))
        exact WX.mid ⟨(z2P ++ ([zd9] : List Sbound_place)),zG2,zG3⟩ h (.r7 rfl rfl rfl rfl rfl rfl rfl) (.cons .here .nil)
       ·replace h:=yp h zpW
        refine WC.skip (WX.yq ?_)
        exact WX.mid ⟨z2P,zaN,zaO⟩ h (.r7 rfl rfl rfl rfl rfl rfl rfl) (.cons .h1 .nil)
      ·rintro z78 zf8 zf9 h
       replace h:=(zFV z78).symm.trans h
       refine WC.a (WL.pu rfl (WL.pu rfl (WL.nil ?_)))
       exact WX.round ⟨zpQ,z78,(i64 (z2Q + 1)),zf8,zf9⟩ h (Nat.lt_succ_self _) (.r7 rfl rfl rfl rfl rfl rfl rfl) (.cons .here .nil)
     ·replace h:=yp h zpV
      refine WC.exit (WX.yg (WX.yg (WX.yA ?_)))
      exact WX.mid ⟨z2P,zaN,zaO⟩ h (.r4 rfl rfl rfl rfl) (.cons .here .nil)
    ·rintro z7a zf5 zf6 h
     replace h:=(zFU z7a).symm.trans h
     refine WX.yq ?_
     exact WX.mid ⟨z7a,zf5,zf6⟩ h (.r4 rfl rfl rfl rfl) (.cons .here .nil)
   ·rintro z79 zf3 zf4 h
    replace h:=(zFQ z79).symm.trans h
    refine WC.a (WL.pu rfl (WL.pu rfl (WL.nil ?_)))
    exact WX.round ⟨zpR,z79,(i64 (z1l + 1)),zf3,zf4⟩ h (Nat.lt_succ_self _) (.r4 rfl rfl rfl rfl) (.cons .here .nil)
  ·replace h:=yp h zpU
   refine WC.exit (WX.yg (WX.yg (WX.yA ?_)))
   exact WX.mid ⟨z54,zaL,zaM⟩ h (.cons rfl .nil) (.cons .here .nil)
 ·rintro z7E zdc zdd h
  replace h:=(zFP z7E).symm.trans h
  refine WC.b ?_
  obtain ⟨zpT,zG4,h⟩:=z7 h
  refine WC.a (WL.pu rfl (WL.y4L (dd:=33) rfl rfl rfl (z8 Tryz.call64 (.r2 rfl rfl)) (.cons .here .nil) (cc hz (.cons .here .nil) fun w pz ho=>y5Q _ _ _ (zf1:=25) (zli:=[]) _ (zf0:=(fun (y0 : Sbound_place) (y1 : Sbound_place)=>y1j y0 y1)) _ zG4 w pz Tryz.call25 (fun w' hz' y0 y1  r  hr=>y7C _ _ _ _ hr w' hz' ) ho) ?_))
  rintro  zG5
  refine WL.repin (i:=3) rfl (u:=(.slice zdc zpT.length zdd)) (y7u zG5.symm) (WL.nil (WX.a (WC.b (WC.a (WL.pu rfl (WL.pu rfl (WL.nil (WX.a (WC.ret ?_)))))))))
  obtain rfl:=Option.some.inj h
  refine WX.ye Tryz.results35 (.tmp rfl .nil) (fun w hw=>?_)
  exact ⟨zdc,zdd,yC rfl,trivial,hw.sub (.cons .here .nil)⟩
def y5J (z8Z : Sapi_Hop) (zlk : Int) : Option Bool :=
 some (decide (z8Z.fNext = zlk))
theorem ycG (Z : Zp) (zxC : Addr) (z8Z : Sapi_Hop) (zlk : Int) (r : Bool)
  (h : y5J z8Z zlk = some r) (w₀ : World) (hz : PZ [] w₀ Z)
  (zG6 : ZC Z zxC [(.int .i64 zlk)]) :
  Calls Tryz.prog 66 #[(.agg #[(.int .i64 z8Z.fNode),(.int .i64 z8Z.fNext),(.int .i64 z8Z.fLink)]),(.pointer (some zxC))] w₀ fun e w'=>e = .returned (.bool r) ∧ Hp [] w₀ w' []:=by
 unfold y5J at h
 refine Calls.yI Tryz.func66 Tryz.ntmps66 ?_
 refine WC.b (WC.a (WL.nA 2 (yH (cs:=[(.int .i64 z8Z.fNode),(.int .i64 z8Z.fNext),(.int .i64 z8Z.fLink)]) rfl rfl) ?_))
 intro zSE _
 refine WL.pu rfl (WL.nil (WX.a (WC.b (WC.a (WL.qA 4 (ya y5F rfl rfl) (WL.qA 5 (yc yw rfl (yj .here rfl)) (WL.qA 6 (yc yw rfl (y53 hz.pv zG6 rfl)) (WL.pu rfl (WL.pu rfl (WL.nil (WX.a (WC.ret ?_))))))))))))
 obtain rfl:=Option.some.inj h
 refine WX.ye Tryz.results66 (.tmp rfl .nil) (fun w hw=>?_)
 exact ⟨yC rfl,hw.sub .nil⟩
def yT (z3b : List Sapi_Hop) (z6n : Sapi_Hop → Option Bool) (z90 : Option Int) : Nat → Int → Option Int
 | 0,_=>none
 | zpX + 1,z2R=>if decide (z2R < ((z3b.length : Nat) : Int)) then chk ((0 : Int) ≤ z2R ∧ z2R < ((z3b.length : Nat) : Int)) ((z6n (⟨((nth z3b z2R).fNode),((nth z3b z2R).fNext),((nth z3b z2R).fLink)⟩ : Sapi_Hop)).bind fun zpY=>if zpY then some z2R else yT z3b z6n z90 zpX (i64 (z2R + 1))) else z90
theorem y5w {n : Nat} {z3b : List Sapi_Hop} {z6n : Sapi_Hop → Option Bool} {z90 : Option Int} {z2R : Int} {r : Int} (h : yT z3b z6n z90 n z2R = some r) : ∃ m,n = m + 1:=by
 cases n with
 | zero=>cases h
 | succ m=>exact ⟨m,rfl⟩
def y15 (z3b : List Sapi_Hop) (z6n : Sapi_Hop → Option Bool) : Option Int :=
 jp0 (some (-1)) fun z90=>yT z3b z6n z90 yz 0
theorem y4l (Z : Zp) (zpZ : Option Addr) (zq0 : Nat) (zaP : FuncId) (zfa : List Value) (z3b : List Sapi_Hop) (z6n : Sapi_Hop → Option Bool) (r : Int)
  (h : y15 z3b z6n = some r) (w₀ : World) (hz : PZ [] w₀ Z)
  (zG7 : ZS Z 3 (fun r x=>r = e62 x) zpZ zq0 z3b)
  (zG8 : ∀ args w,(callFunc zaP args).run Tryz.prog w = .ok (.enter zaP args) w)
  (zG9 : ∀ w : World,PZ [] w Z → ∀ (x0 : Sapi_Hop) (r : Bool),z6n x0 = some r → Calls Tryz.prog zaP (([(.agg #[(.int .i64 x0.fNode),(.int .i64 x0.fNext),(.int .i64 x0.fLink)])] : List Value) ++ zfa).toArray w fun e w'=>e = .returned (.bool r) ∧ Hp [] w w' []) :
  Calls Tryz.prog 65 #[(.slice zpZ z3b.length zq0),(.func (.func zaP) #[] (zfa).toArray)] w₀ fun e w'=>e = .returned (.int .i64 r) ∧ Hp [] w₀ w' []:=by
 unfold y15 at h
 refine Calls.yI Tryz.func65 Tryz.ntmps65 ?_
 refine WC.b (WC.a (WL.pu rfl (WL.nil (WX.a ?_))))
 obtain ⟨z90,zGa,h⟩:=y2i h
 refine WC.y1G ((z90 = some r)) ([]) ([]) ?_ ?_
 ·skip
  refine WC.b (WC.a (WL.pu rfl (WL.qA 7 (yG Tryz.underlying48 rfl) (WL.pu rfl (WL.nil (WX.a (WC.block (WC.y2S (fun (zfb : Nat) (z2R : Int)=>(yT z3b z6n z90 zfb z2R = some r)) (fun zfb z2R=>[(0,(.slice zpZ z3b.length zq0)),(1,(.func (.func zaP) #[] (zfa).toArray)),(7,(.int .i64 ((z3b.length : Nat) : Int))),(8,(.int .i64 z2R))]) (fun zfb z2R=>[]) (fun zfb z2R=>zfb) ⟨yz,0⟩ h (.r4 rfl rfl rfl rfl) .nil ?_))))))))
  rintro zfb z2R h
  obtain ⟨zpX,rfl⟩:=y5w h
  rw [yT] at h
  refine WC.b (WC.a (WL.pu rfl (WL.nil (WX.a (WC.b (WC.cond rfl (fun zq1=>?_) (fun zq1=>?_)))))))
  ·replace h:=yo h zq1
   refine WC.skip (WX.a (WC.b (WC.block (WC.b (WC.a (WL.pu rfl (WL.pu rfl (WL.nil (WX.a (WC.b ?_))))))))))
   obtain ⟨zGb,h⟩:=ym h
   obtain ⟨zpY,zGc,h⟩:=z7 h
   refine WC.a (WL.pu rfl (WL.pu rfl (WL.pu rfl (WL.znth (dd:=14) rfl rfl (Z:=Z) (Pr:=(fun r x=>r = e62 x)) y61 rfl rfl zG7 zGb ?_))))
   rintro zSF zSG zGd zSH rfl
   refine WL.qA 15 (yf y3G rfl (y2o hz.pv zGd) rfl) (WL.cA 16 (y2q (l:=[.tmp 15]) (f:=zaP) (caps:=zfa) zG8 rfl (.cons rfl .nil)) .nil (fun w hw=>zG9 w (hz.now hw) (⟨((nth z3b z2R).fNode),((nth z3b z2R).fNext),((nth z3b z2R).fLink)⟩ : Sapi_Hop) zpY  zGc) (WL.nil (WX.a (WC.cond rfl (fun zq2=>?_) (fun zq2=>?_)))))
   ·replace h:=yo h zq2
    refine WC.b (WC.a (WL.pu rfl (WL.pu rfl (WL.nil (WX.a (WC.ret (WX.yt (WX.yd (WX.yd (WX.yt (WX.yd ?_)))))))))))
    obtain rfl:=Option.some.inj h
    refine WX.ye Tryz.results65 (.tmp rfl .nil) (fun w hw=>?_)
    exact ⟨yC rfl,hw.sub .nil⟩
   ·replace h:=yp h zq2
    refine WC.skip (WX.yq (WX.a (WC.a (WL.pu rfl (WL.pu rfl (WL.nil ?_))))))
    exact WX.round ⟨zpX,(i64 (z2R + 1))⟩ h (Nat.lt_succ_self _) (.r4 rfl rfl rfl rfl) .nil
  ·replace h:=yp h zq1
   refine WC.exit (WX.yg (WX.yg (WX.yA ?_)))
   exact WX.mid () h .nil .nil
 ·rintro  h
  replace h:=zGa.symm.trans h
  refine WC.b (WC.a (WL.pu rfl (WL.nil (WX.a (WC.ret ?_)))))
  obtain rfl:=Option.some.inj h
  refine WX.ye Tryz.results65 (.tmp rfl .nil) (fun w hw=>?_)
  exact ⟨yC rfl,hw.sub .nil⟩
def y4W (z91 : List Sapi_Hop) (zfc : Int) : Option (Sapi_Hop × Bool) :=
 (y15 z91 (fun (y0 : Sapi_Hop)=>y5J y0 zfc)).bind fun zde=>if decide (zde < 0) then some ((⟨0,0,0⟩ : Sapi_Hop),false) else chk ((0 : Int) ≤ zde ∧ zde < ((z91.length : Nat) : Int)) (some ((⟨((nth z91 zde).fNode),((nth z91 zde).fNext),((nth z91 zde).fLink)⟩ : Sapi_Hop),true))
theorem y8R (Z : Zp) (zxD : Option Addr) (zxE : Nat) (z91 : List Sapi_Hop) (zfc : Int) (r : Sapi_Hop × Bool)
  (h : y4W z91 zfc = some r) (w₀ : World) (hz : PZ [] w₀ Z)
  (zxF : ZS Z 3 (fun r x=>r = e62 x) zxD zxE z91) :
  Calls Tryz.prog 39 #[(.slice zxD z91.length zxE),(.int .i64 zfc)] w₀ fun e w'=>e = .returned (.tuple #[(.agg #[(.int .i64 r.1.fNode),(.int .i64 r.1.fNext),(.int .i64 r.1.fLink)]),(.bool r.2)]) ∧ Hp [] w₀ w' []:=by
 unfold y4W at h
 refine Calls.yI Tryz.func39 Tryz.ntmps39 ?_
 refine WC.b (WC.a (WL.nA 3 (yH (cs:=[(.int .i64 zfc)]) rfl rfl) ?_))
 intro zGe _
 refine WL.nA 4 (yx (cs:=[(.int .i64 0),(.int .i64 0),(.int .i64 0)]) y6v rfl) ?_
 intro zSI _
 refine WL.pu rfl (WL.nil (WX.a (WC.b ?_)))
 obtain ⟨zde,zGf,h⟩:=z7 h
 refine WC.a (WL.pu rfl (WL.qA 8 (y18 (Eos.caps (l:=[.tmp 3]) (.cons rfl .nil))) (WL.cA 9 (z8 Tryz.call65 (.r2 rfl rfl)) .nil (ccl hz .nil (.cons .h1 .nil) fun w pz ho la=>y4l _ _ _ (zaP:=66) (zfa:=[(.pointer (some ⟨zGe,0,none⟩))]) _ (z6n:=(fun (y0 : Sapi_Hop)=>y5J y0 zfc)) _ zGf w pz (zxF.mono (Zle.left _ _)) Tryz.call66 (fun w' hz' y0  r  hr=>ycG _ _ _ _ _ hr w' hz' ((la _ (.head _) _).stb))) (WL.pu rfl (WL.nil (WX.a (WC.b (WC.b (WC.a (WL.pu rfl (WL.pu rfl (WL.nil (WX.a (WC.cond rfl (fun zq3=>?_) (fun zq3=>?_)))))))))))))))
 ·replace h:=yo h zq3
  refine WC.b (WC.a (WL.qA 12 (yL (v:=(.agg #[(.int .i64 0),(.int .i64 0),(.int .i64 0)])) (Eos.parts (l:=[]) .nil []) (fun _=>by kernel_rfl)) (WL.yl rfl rfl (yk y6I rfl rfl rfl .here rfl rfl rfl) (WL.pu rfl (WL.nil (WX.a (WC.ret (WX.yd ?_))))))))
  obtain rfl:=Option.some.inj h
  refine WX.ye Tryz.results39 (.agg rfl y3G rfl (yh .here) (.tmp rfl .nil)) (fun w hw=>?_)
  exact ⟨y1U rfl rfl,hw.sub .nil⟩
 ·replace h:=yp h zq3
  refine WC.skip (WX.a (WC.b ?_))
  obtain ⟨zGg,h⟩:=ym h
  refine WC.a (WL.pu rfl (WL.pu rfl (WL.znth (dd:=15) rfl rfl (Z:=Z) (Pr:=(fun r x=>r = e62 x)) y61 rfl rfl zxF zGg ?_)))
  rintro zSJ zSK zGh zSL rfl
  refine WL.qA 16 (yf y3G rfl (y2o hz.pv zGh) rfl) (WL.yl rfl rfl (yk y6I rfl rfl rfl .here rfl rfl rfl) (WL.pu rfl (WL.nil (WX.a (WC.ret ?_)))))
  obtain rfl:=Option.some.inj h
  refine WX.ye Tryz.results39 (.agg rfl y3G rfl (yh .here) (.tmp rfl .nil)) (fun w hw=>?_)
  exact ⟨y1U rfl rfl,hw.sub .nil⟩
def y4B (z2b : Sapi_Hop) (zdf : List Sapi_Hop) (z3o : Sbound_place) (zaQ : List (Sbound_place × Int)) : Option Bool :=
 (y4W zdf z2b.fNode).bind fun z1t=>(y3U z2b).bind fun z4H=>(if (decide (z4H = z3o)) && z1t.2 then (y3U z1t.1).bind fun zq4=>some (decide ((yn zaQ zq4 0) = 0)) else some false).bind fun zq5=>some zq5
theorem ybn (Z : Zp) (zll : Addr) (zlm : Option Addr) (zln : Nat) (zlo : Addr) (zlp : Addr) (zfd : Nat) (z2b : Sapi_Hop) (zdf : List Sapi_Hop) (z3o : Sbound_place) (zaQ : List (Sbound_place × Int)) (r : Bool)
  (h : y4B z2b zdf z3o zaQ = some r) (w₀ : World) (hz : PZ (fps [yy zfd (fun x=>Value.agg (e97 x).toArray) (Value.int .i64) zaQ]) w₀ Z)
  (zGi : ZS Z 3 (fun r x=>r = e62 x) zlm zln zdf)
  (zGj : ZC Z zll [(.slice zlm zdf.length zln)])
  (zGk : ZC Z zlo [(.int .i64 z3o.fNode),(.int .i64 z3o.fLink)])
  (zGl : ZC Z zlp [(.map (some zfd))])
  (hown : Hp (fps [yy zfd (fun x=>Value.agg (e97 x).toArray) (Value.int .i64) zaQ]) w₀ w₀ [yy zfd (fun x=>Value.agg (e97 x).toArray) (Value.int .i64) zaQ]) :
  Calls Tryz.prog 38 #[(.agg #[(.int .i64 z2b.fNode),(.int .i64 z2b.fNext),(.int .i64 z2b.fLink)]),(.pointer (some zll)),(.pointer (some zlo)),(.pointer (some zlp))] w₀ fun e w'=>e = .returned (.bool r) ∧ Hp (fps [yy zfd (fun x=>Value.agg (e97 x).toArray) (Value.int .i64) zaQ]) w₀ w' [yy zfd (fun x=>Value.agg (e97 x).toArray) (Value.int .i64) zaQ]:=by
 unfold y4B at h
 refine Calls.oh4 Tryz.func38 Tryz.ntmps38 hown ?_
 refine WC.b (WC.a (WL.nA 4 (yH (cs:=[(.int .i64 z2b.fNode),(.int .i64 z2b.fNext),(.int .i64 z2b.fLink)]) rfl rfl) ?_))
 intro zlq _
 refine WL.pu rfl (WL.nil (WX.a (WC.b ?_)))
 obtain ⟨z1t,zGm,h⟩:=z7 h
 refine WC.a (WL.qA 9 (yc y6H rfl (y53 hz.pv zGj rfl)) (WL.qA 10 (ya y4O rfl rfl) (WL.qA 11 (yc yw rfl (yj .here rfl)) (WL.cA 12 (z8 Tryz.call39 (.r2 rfl rfl)) .nil (cc hz .nil fun w pz ho=>y8R _ _ _ _ _ _ zGm w pz zGi) (WL.pu rfl (WL.pu rfl (WL.pu rfl (WL.nA 6 (yx (cs:=[(.int .i64 0),(.int .i64 0),(.int .i64 0)]) y6v rfl) ?_))))))))
 intro zxG _
 refine WL.yl rfl rfl (yk y6I rfl rfl rfl .here rfl rfl rfl) (WL.pu rfl (WL.nil (WX.a (WC.b ?_))))
 obtain ⟨z4H,zGn,h⟩:=z7 h
 obtain ⟨zq5,zxH,h⟩:=z7 h
 refine WC.yP (fun i=>[].contains i) [] rfl (WD.qA 0 15 rfl (yf y3G rfl (yh .h1) rfl) (WD.eA 1 16 rfl (z8 Tryz.call40 (.cons rfl .nil)) (cc hz .nil fun w pz ho=>y5i _ _ _ zGn w pz ) (WD.qA 2 17 rfl (yf y3H rfl (y2o hz.pv zGk) rfl) (WD.pA 3 18 rfl (fun _=>y7b (enc:=e97) (a:=z4H) (b:=z3o) yc7 rfl rfl) (WD.pA 4 19 rfl (fun _=>q_m rfl) (WD.mid (fuel':=8) [(0,(.agg #[(.int .i64 z2b.fNode),(.int .i64 z2b.fNext),(.int .i64 z2b.fLink)])),(1,(.pointer (some zll))),(2,(.pointer (some zlo))),(3,(.pointer (some zlp))),(4,(.pointer (some ⟨zlq,0,none⟩))),(5,(.bool false)),(9,(.slice zlm zdf.length zln)),(10,(.pointer (some ⟨zlq,0,none⟩))),(11,(.int .i64 z2b.fNode)),(12,(.tuple #[(.agg #[(.int .i64 z1t.1.fNode),(.int .i64 z1t.1.fNext),(.int .i64 z1t.1.fLink)]),(.bool z1t.2)])),(8,(.tuple #[(.agg #[(.int .i64 z1t.1.fNode),(.int .i64 z1t.1.fNext),(.int .i64 z1t.1.fLink)]),(.bool z1t.2)])),(13,(.agg #[(.int .i64 z1t.1.fNode),(.int .i64 z1t.1.fNext),(.int .i64 z1t.1.fLink)])),(14,(.bool z1t.2)),(6,(.pointer (some ⟨zxG,0,none⟩))),(7,(.bool z1t.2)),(15,(.agg #[(.int .i64 z2b.fNode),(.int .i64 z2b.fNext),(.int .i64 z2b.fLink)])),(16,(.agg #[(.int .i64 z4H.fNode),(.int .i64 z4H.fLink)])),(17,(.agg #[(.int .i64 z3o.fNode),(.int .i64 z3o.fLink)])),(18,(.bool (decide (z4H = z3o)))),(19,(.bool (decide (z4H = z3o)))),(21,(.bool ((decide (z4H = z3o)) && z1t.2)))] (y4c 15 [6,5,4,3,2,1,0]) ?_ (fun zxI=>?_)))))))
 rotate_left
 ·rcases Bool.eq_false_or_eq_true (decide (z4H = z3o)) with hb' | hb'
  ·have zq6:=hb'; clear hb'
   refine WD.pin (i:=19) rfl zq6 (WD.pA 5 20 rfl (fun _=>q_m rfl) (WD.pA 6 21 rfl (fun _=>y3C rfl rfl) (WD.reL (.s3 .here .here .here) ?_ zxI)))
   exact (.cons rfl (.cons rfl (.cons rfl (.cons rfl (.cons rfl (.cons rfl (.cons rfl (.cons rfl (.cons rfl (.cons rfl (.cons rfl (.cons rfl (.cons rfl (.cons rfl (.cons rfl (.cons rfl (.cons rfl (.cons rfl (.cons rfl (.cons (zB (Eq.symm zq6)) (.cons (zB (y2U zq6)) .nil)))))))))))))))))))))
  ·have zq7:=hb'; clear hb'
   refine WD.pin (i:=19) rfl zq7 (WD.kA 5 20 rfl (WD.pA 6 21 rfl (fun _=>y3D rfl rfl) (WD.reL (.s3 .here .here .here) ?_ zxI)))
   exact (.cons rfl (.cons rfl (.cons rfl (.cons rfl (.cons rfl (.cons rfl (.cons rfl (.cons rfl (.cons rfl (.cons rfl (.cons rfl (.cons rfl (.cons rfl (.cons rfl (.cons rfl (.cons rfl (.cons rfl (.cons rfl (.cons rfl (.cons (zB (Eq.symm zq7)) (.cons (zB (y2T zq7)) .nil)))))))))))))))))))))
 refine WD.pA 7 22 rfl (fun _=>q_m rfl) (WD.mid (fuel':=1) [(0,(.agg #[(.int .i64 z2b.fNode),(.int .i64 z2b.fNext),(.int .i64 z2b.fLink)])),(1,(.pointer (some zll))),(2,(.pointer (some zlo))),(3,(.pointer (some zlp))),(4,(.pointer (some ⟨zlq,0,none⟩))),(5,(.bool false)),(9,(.slice zlm zdf.length zln)),(10,(.pointer (some ⟨zlq,0,none⟩))),(11,(.int .i64 z2b.fNode)),(12,(.tuple #[(.agg #[(.int .i64 z1t.1.fNode),(.int .i64 z1t.1.fNext),(.int .i64 z1t.1.fLink)]),(.bool z1t.2)])),(8,(.tuple #[(.agg #[(.int .i64 z1t.1.fNode),(.int .i64 z1t.1.fNext),(.int .i64 z1t.1.fLink)]),(.bool z1t.2)])),(13,(.agg #[(.int .i64 z1t.1.fNode),(.int .i64 z1t.1.fNext),(.int .i64 z1t.1.fLink)])),(14,(.bool z1t.2)),(6,(.pointer (some ⟨zxG,0,none⟩))),(7,(.bool z1t.2)),(15,(.agg #[(.int .i64 z2b.fNode),(.int .i64 z2b.fNext),(.int .i64 z2b.fLink)])),(16,(.agg #[(.int .i64 z4H.fNode),(.int .i64 z4H.fLink)])),(17,(.agg #[(.int .i64 z3o.fNode),(.int .i64 z3o.fLink)])),(18,(.bool (decide (z4H = z3o)))),(19,(.bool (decide (z4H = z3o)))),(21,(.bool ((decide (z4H = z3o)) && z1t.2))),(22,(.bool ((decide (z4H = z3o)) && z1t.2))),(28,(.bool zq5))] (y4c 15 [13,12,11,10,9,8,7,6,5,4,3,2,1,0]) ?_ (fun zxJ=>?_))
 rotate_left
 ·rcases Bool.eq_false_or_eq_true ((decide (z4H = z3o)) && z1t.2) with hb' | hb'
  ·have zq8:=hb'; clear hb'
   have ziu:=yo zxH zq8
   obtain ⟨zq4,zGo,ziu⟩:=z7 ziu
   replace ziu:=Option.some.inj ziu
   refine WD.pin (i:=22) rfl zq8 (WD.qA 8 23 rfl (yc y9z rfl (y53 hz.pv zGl rfl)) (WD.qA 9 24 rfl (yf y3G rfl (yh .here) rfl) (WD.eA 10 25 rfl (z8 Tryz.call40 (.cons rfl .nil)) (cc hz .nil fun w pz ho=>y5i _ _ _ zGo w pz ) (WD.qA 11 26 rfl (y3l (k:=zq4) (dflt:=(0 : Int)) y7o Tryz.underlying93 y4P rfl rfl rfl .h2) (WD.pA 12 27 rfl (fun _=>y9P rfl rfl) (WD.pA 13 28 rfl (fun _=>y3C rfl rfl) (WD.reL (.s3 .here .here .here) ?_ zxJ)))))))
   exact (.cons rfl (.cons rfl (.cons rfl (.cons rfl (.cons rfl (.cons rfl (.cons rfl (.cons rfl (.cons rfl (.cons rfl (.cons rfl (.cons rfl (.cons rfl (.cons rfl (.cons rfl (.cons rfl (.cons rfl (.cons rfl (.cons rfl (.cons rfl (.cons rfl (.cons (zB (Eq.symm zq8)) (.cons (zB ziu) .nil)))))))))))))))))))))))
  ·have zq9:=hb'; clear hb'
   have zqa:=yp zxH zq9
   replace zqa:=Option.some.inj zqa
   refine WD.pin (i:=22) rfl zq9 (WD.kA 8 23 rfl (WD.kA 9 24 rfl (WD.kA 10 25 rfl (WD.kA 11 26 rfl (WD.kA 12 27 rfl (WD.pA 13 28 rfl (fun _=>y3D rfl rfl) (WD.reL (.s3 .here .here .here) ?_ zxJ)))))))
   exact (.cons rfl (.cons rfl (.cons rfl (.cons rfl (.cons rfl (.cons rfl (.cons rfl (.cons rfl (.cons rfl (.cons rfl (.cons rfl (.cons rfl (.cons rfl (.cons rfl (.cons rfl (.cons rfl (.cons rfl (.cons rfl (.cons rfl (.cons rfl (.cons rfl (.cons (zB (Eq.symm zq9)) (.cons (zB zqa) .nil)))))))))))))))))))))))
 refine WD.pA 14 5 rfl (fun _=>q_z rfl) (WD.done (by kernel_rfl) (WX.a (WC.ret ?_)))
 obtain rfl:=Option.some.inj h
 refine WX.ye Tryz.results38 (.tmp rfl .nil) (fun w hw=>?_)
 exact ⟨yC rfl,hw.sub (.cons .h2 .nil)⟩
def yQ (z49 : List Sapi_Hop) (z7b : List Sapi_Hop) (z7c : Sbound_place) (z4I : List (Sbound_place × Int)) (z92 : Option Int) : Nat → Int → Option Int
 | 0,_=>none
 | zqb + 1,z3J=>if decide (z3J < ((z49.length : Nat) : Int)) then chk ((0 : Int) ≤ z3J ∧ z3J < ((z49.length : Nat) : Int)) ((y4B (⟨((nth z49 z3J).fNode),((nth z49 z3J).fNext),((nth z49 z3J).fLink)⟩ : Sapi_Hop) z7b z7c z4I).bind fun zxK=>if zxK then some z3J else yQ z49 z7b z7c z4I z92 zqb (i64 (z3J + 1))) else z92
theorem y5k {n : Nat} {z49 : List Sapi_Hop} {z7b : List Sapi_Hop} {z7c : Sbound_place} {z4I : List (Sbound_place × Int)} {z92 : Option Int} {z3J : Int} {r : Int} (h : yQ z49 z7b z7c z4I z92 n z3J = some r) : ∃ m,n = m + 1:=by
 cases n with
 | zero=>cases h
 | succ m=>exact ⟨m,rfl⟩
def y28 (z49 : List Sapi_Hop) (z7b : List Sapi_Hop) (z7c : Sbound_place) (z4I : List (Sbound_place × Int)) : Option Int :=
 jp0 (some (-1)) fun z92=>yQ z49 z7b z7c z4I z92 yz 0
theorem y6m (Z : Zp) (zqc : Option Addr) (zqd : Nat) (zqe : Addr) (zxL : Option Addr) (zxM : Nat) (zqf : Addr) (zqg : Addr) (zaR : Nat) (z49 : List Sapi_Hop) (z7b : List Sapi_Hop) (z7c : Sbound_place) (z4I : List (Sbound_place × Int)) (r : Int)
  (h : y28 z49 z7b z7c z4I = some r) (w₀ : World) (hz : PZ (fps [yy zaR (fun x=>Value.agg (e97 x).toArray) (Value.int .i64) z4I]) w₀ Z)
  (zGp : ZS Z 3 (fun r x=>r = e62 x) zqc zqd z49)
  (zGq : ZS Z 3 (fun r x=>r = e62 x) zxL zxM z7b)
  (zGr : ZC Z zqe [(.slice zxL z7b.length zxM)])
  (zGs : ZC Z zqf [(.int .i64 z7c.fNode),(.int .i64 z7c.fLink)])
  (zGt : ZC Z zqg [(.map (some zaR))])
  (hown : Hp (fps [yy zaR (fun x=>Value.agg (e97 x).toArray) (Value.int .i64) z4I]) w₀ w₀ [yy zaR (fun x=>Value.agg (e97 x).toArray) (Value.int .i64) z4I]) :
  Calls Tryz.prog 65 #[(.slice zqc z49.length zqd),(.func (.func 38) #[] #[(.pointer (some zqe)),(.pointer (some zqf)),(.pointer (some zqg))])] w₀ fun e w'=>e = .returned (.int .i64 r) ∧ Hp (fps [yy zaR (fun x=>Value.agg (e97 x).toArray) (Value.int .i64) z4I]) w₀ w' [yy zaR (fun x=>Value.agg (e97 x).toArray) (Value.int .i64) z4I]:=by
 unfold y28 at h
 refine Calls.oh2 Tryz.func65 Tryz.ntmps65 hown ?_
 refine WC.b (WC.a (WL.pu rfl (WL.nil (WX.a ?_))))
 obtain ⟨z92,zGu,h⟩:=y2i h
 refine WC.y1G ((z92 = some r)) ([]) ([yy zaR (fun x=>Value.agg (e97 x).toArray) (Value.int .i64) z4I]) ?_ ?_
 ·skip
  refine WC.b (WC.a (WL.pu rfl (WL.qA 7 (yG Tryz.underlying48 rfl) (WL.pu rfl (WL.nil (WX.a (WC.block (WC.y2S (fun (zfe : Nat) (z3J : Int)=>(yQ z49 z7b z7c z4I z92 zfe z3J = some r)) (fun zfe z3J=>[(0,(.slice zqc z49.length zqd)),(1,(.func (.func 38) #[] #[(.pointer (some zqe)),(.pointer (some zqf)),(.pointer (some zqg))])),(7,(.int .i64 ((z49.length : Nat) : Int))),(8,(.int .i64 z3J))]) (fun zfe z3J=>[yy zaR (fun x=>Value.agg (e97 x).toArray) (Value.int .i64) z4I]) (fun zfe z3J=>zfe) ⟨yz,0⟩ h (.r4 rfl rfl rfl rfl) (.cons .here .nil) ?_))))))))
  rintro zfe z3J h
  obtain ⟨zqb,rfl⟩:=y5k h
  rw [yQ] at h
  refine WC.b (WC.a (WL.pu rfl (WL.nil (WX.a (WC.b (WC.cond rfl (fun zqh=>?_) (fun zqh=>?_)))))))
  ·replace h:=yo h zqh
   refine WC.skip (WX.a (WC.b (WC.block (WC.b (WC.a (WL.pu rfl (WL.pu rfl (WL.nil (WX.a (WC.b ?_))))))))))
   obtain ⟨zGv,h⟩:=ym h
   obtain ⟨zxK,zGw,h⟩:=z7 h
   refine WC.a (WL.pu rfl (WL.pu rfl (WL.pu rfl (WL.znth (dd:=14) rfl rfl (Z:=Z) (Pr:=(fun r x=>r = e62 x)) y61 rfl rfl zGp zGv ?_))))
   rintro zSM zSN zGx zSO rfl
   refine WL.qA 15 (yf y3G rfl (y2o hz.pv zGx) rfl) (WL.cA 16 (y2q (l:=[.tmp 15]) Tryz.call38 rfl (.cons rfl .nil)) (.cons .here .nil) (cc hz (.cons .here .nil) fun w pz ho=>ybn _ _ _ _ _ _ _ _ _ _ _ _ zGw w pz zGq zGr zGs zGt ho) (WL.nil (WX.a (WC.cond rfl (fun zqi=>?_) (fun zqi=>?_)))))
   ·replace h:=yo h zqi
    refine WC.b (WC.a (WL.pu rfl (WL.pu rfl (WL.nil (WX.a (WC.ret (WX.yt (WX.yd (WX.yd (WX.yt (WX.yd ?_)))))))))))
    obtain rfl:=Option.some.inj h
    refine WX.ye Tryz.results65 (.tmp rfl .nil) (fun w hw=>?_)
    exact ⟨yC rfl,hw.sub (.cons .here .nil)⟩
   ·replace h:=yp h zqi
    refine WC.skip (WX.yq (WX.a (WC.a (WL.pu rfl (WL.pu rfl (WL.nil ?_))))))
    exact WX.round ⟨zqb,(i64 (z3J + 1))⟩ h (Nat.lt_succ_self _) (.r4 rfl rfl rfl rfl) (.cons .here .nil)
  ·replace h:=yp h zqh
   refine WC.exit (WX.yg (WX.yg (WX.yA ?_)))
   exact WX.mid () h .nil (.cons .here .nil)
 ·rintro  h
  replace h:=zGu.symm.trans h
  refine WC.b (WC.a (WL.pu rfl (WL.nil (WX.a (WC.ret ?_)))))
  obtain rfl:=Option.some.inj h
  refine WX.ye Tryz.results65 (.tmp rfl .nil) (fun w hw=>?_)
  exact ⟨yC rfl,hw.sub (.cons .here .nil)⟩
def y1V (ziv : List Sapi_Hop) (ziw : List Sapi_Hop) (zix : Sbound_place) (zaS : List (Sbound_place × Int)) : Option Bool :=
 (y28 ziv ziw zix zaS).bind fun zxN=>some (decide (zxN ≥ 0))
theorem y62 (Z : Zp) (zxO : Option Addr) (zxP : Nat) (zxQ : Addr) (zxR : Option Addr) (zxS : Nat) (zxT : Addr) (zxU : Addr) (zff : Nat) (ziv : List Sapi_Hop) (ziw : List Sapi_Hop) (zix : Sbound_place) (zaS : List (Sbound_place × Int)) (r : Bool)
  (h : y1V ziv ziw zix zaS = some r) (w₀ : World) (hz : PZ (fps [yy zff (fun x=>Value.agg (e97 x).toArray) (Value.int .i64) zaS]) w₀ Z)
  (zGy : ZS Z 3 (fun r x=>r = e62 x) zxO zxP ziv)
  (zGz : ZS Z 3 (fun r x=>r = e62 x) zxR zxS ziw)
  (zGA : ZC Z zxQ [(.slice zxR ziw.length zxS)])
  (zGB : ZC Z zxT [(.int .i64 zix.fNode),(.int .i64 zix.fLink)])
  (zGC : ZC Z zxU [(.map (some zff))])
  (hown : Hp (fps [yy zff (fun x=>Value.agg (e97 x).toArray) (Value.int .i64) zaS]) w₀ w₀ [yy zff (fun x=>Value.agg (e97 x).toArray) (Value.int .i64) zaS]) :
  Calls Tryz.prog 37 #[(.slice zxO ziv.length zxP),(.func (.func 38) #[] #[(.pointer (some zxQ)),(.pointer (some zxT)),(.pointer (some zxU))])] w₀ fun e w'=>e = .returned (.bool r) ∧ Hp (fps [yy zff (fun x=>Value.agg (e97 x).toArray) (Value.int .i64) zaS]) w₀ w' [yy zff (fun x=>Value.agg (e97 x).toArray) (Value.int .i64) zaS]:=by
 unfold y1V at h
 refine Calls.oh2 Tryz.func37 Tryz.ntmps37 hown ?_
 refine WC.b (WC.a (WL.pu rfl (WL.nil (WX.a (WC.b ?_)))))
 obtain ⟨zxN,zGD,h⟩:=z7 h
 refine WC.a (WL.pu rfl (WL.pu rfl (WL.cA 7 (z8 Tryz.call65 (.r2 rfl rfl)) (.cons .here .nil) (cc hz (.cons .here .nil) fun w pz ho=>y6m _ _ _ _ _ _ _ _ _ _ _ _ _ _ zGD w pz zGy zGz zGA zGB zGC ho) (WL.pu rfl (WL.pu rfl (WL.nil (WX.a (WC.ret ?_))))))))
 obtain rfl:=Option.some.inj h
 refine WX.ye Tryz.results37 (.tmp rfl .nil) (fun w hw=>?_)
 exact ⟨yC rfl,hw.sub (.cons .here .nil)⟩
def y5l (zdg : List Sapi_Hop) (ziy : Sbound_place) (zaT : List (Sbound_place × Int)) : Option Bool :=
 (y1V zdg zdg ziy zaT).bind fun zxV=>some zxV
theorem ycb (Z : Zp) (zqj : Option Addr) (zqk : Nat) (zxW : Addr) (zxX : Addr) (zfg : Nat) (zdg : List Sapi_Hop) (ziy : Sbound_place) (zaT : List (Sbound_place × Int)) (r : Bool)
  (h : y5l zdg ziy zaT = some r) (w₀ : World) (hz : PZ (fps [yy zfg (fun x=>Value.agg (e97 x).toArray) (Value.int .i64) zaT]) w₀ Z)
  (zxY : ZS Z 3 (fun r x=>r = e62 x) zqj zqk zdg)
  (zGE : ZC Z zxW [(.int .i64 ziy.fNode),(.int .i64 ziy.fLink)])
  (zGF : ZC Z zxX [(.map (some zfg))])
  (hown : Hp (fps [yy zfg (fun x=>Value.agg (e97 x).toArray) (Value.int .i64) zaT]) w₀ w₀ [yy zfg (fun x=>Value.agg (e97 x).toArray) (Value.int .i64) zaT]) :
  Calls Tryz.prog 36 #[(.slice zqj zdg.length zqk),(.pointer (some zxW)),(.pointer (some zxX))] w₀ fun e w'=>e = .returned (.bool r) ∧ Hp (fps [yy zfg (fun x=>Value.agg (e97 x).toArray) (Value.int .i64) zaT]) w₀ w' [yy zfg (fun x=>Value.agg (e97 x).toArray) (Value.int .i64) zaT]:=by
 unfold y5l at h
 refine Calls.oh3 Tryz.func36 Tryz.ntmps36 hown ?_
 refine WC.b (WC.a (WL.nA 3 (yH (cs:=[(.slice zqj zdg.length zqk)]) rfl rfl) ?_))
 intro zSP _
 refine WL.pu rfl (WL.nil (WX.a (WC.b ?_)))
 obtain ⟨zxV,zGG,h⟩:=z7 h
 refine WC.a (WL.qA 5 (yc y6H rfl (yj .here rfl)) (WL.qA 6 (y18 (Eos.caps (l:=[.tmp 3,.tmp 1,.tmp 2]) (.r3 rfl rfl rfl))) (WL.cA 7 (z8 Tryz.call37 (.r2 rfl rfl)) (.cons .h1 .nil) (ccl hz (.cons .h1 .nil) (.cons .here .nil) fun w pz ho la=>y62 _ _ _ _ _ _ _ _ _ _ _ _ _ _ zGG w pz (zxY.mono (Zle.left _ _)) (zxY.mono (Zle.left _ _)) ((la _ (.head _) _).stb) (zGE.mono (Zle.left _ _)) (zGF.mono (Zle.left _ _)) ho) (WL.pu rfl (WL.nil (WX.a (WC.ret ?_)))))))
 obtain rfl:=Option.some.inj h
 refine WX.ye Tryz.results36 (.tmp rfl .nil) (fun w hw=>?_)
 exact ⟨yC rfl,hw.sub (.cons .here .nil)⟩
def yM (z56 : List (List Sapi_Hop)) (z7d : Sbound_place) (z4J : List (Sbound_place × Int)) (z93 : Option Int) : Nat → Int → Option Int
 | 0,_=>none
 | zql + 1,z4K=>if decide (z4K < ((z56.length : Nat) : Int)) then chk ((0 : Int) ≤ z4K ∧ z4K < ((z56.length : Nat) : Int)) ((y5l (nth z56 z4K) z7d z4J).bind fun zxZ=>if zxZ then some z4K else yM z56 z7d z4J z93 zql (i64 (z4K + 1))) else z93
theorem y51 {n : Nat} {z56 : List (List Sapi_Hop)} {z7d : Sbound_place} {z4J : List (Sbound_place × Int)} {z93 : Option Int} {z4K : Int} {r : Int} (h : yM z56 z7d z4J z93 n z4K = some r) : ∃ m,n = m + 1:=by
 cases n with
 | zero=>cases h
 | succ m=>exact ⟨m,rfl⟩
def y1W (z56 : List (List Sapi_Hop)) (z7d : Sbound_place) (z4J : List (Sbound_place × Int)) : Option Int :=
 jp0 (some (-1)) fun z93=>yM z56 z7d z4J z93 yz 0
theorem y63 (Z : Zp) (zqm : Option Addr) (zqn : Nat) (zqo : Addr) (zqp : Addr) (zaU : Nat) (z56 : List (List Sapi_Hop)) (z7d : Sbound_place) (z4J : List (Sbound_place × Int)) (r : Int)
  (h : y1W z56 z7d z4J = some r) (w₀ : World) (hz : PZ (fps [yy zaU (fun x=>Value.agg (e97 x).toArray) (Value.int .i64) z4J]) w₀ Z)
  (zGH : ZS Z 1 (p48 Z) zqm zqn z56)
  (zGI : ZC Z zqo [(.int .i64 z7d.fNode),(.int .i64 z7d.fLink)])
  (zGJ : ZC Z zqp [(.map (some zaU))])
  (hown : Hp (fps [yy zaU (fun x=>Value.agg (e97 x).toArray) (Value.int .i64) z4J]) w₀ w₀ [yy zaU (fun x=>Value.agg (e97 x).toArray) (Value.int .i64) z4J]) :
  Calls Tryz.prog 55 #[(.slice zqm z56.length zqn),(.func (.func 36) #[] #[(.pointer (some zqo)),(.pointer (some zqp))])] w₀ fun e w'=>e = .returned (.int .i64 r) ∧ Hp (fps [yy zaU (fun x=>Value.agg (e97 x).toArray) (Value.int .i64) z4J]) w₀ w' [yy zaU (fun x=>Value.agg (e97 x).toArray) (Value.int .i64) z4J]:=by
 unfold y1W at h
 refine Calls.oh2 Tryz.func55 Tryz.ntmps55 hown ?_
 refine WC.b (WC.a (WL.pu rfl (WL.nil (WX.a ?_))))
 obtain ⟨z93,zGK,h⟩:=y2i h
 refine WC.y1G ((z93 = some r)) ([]) ([yy zaU (fun x=>Value.agg (e97 x).toArray) (Value.int .i64) z4J]) ?_ ?_
 ·skip
  refine WC.b (WC.a (WL.pu rfl (WL.qA 7 (yG Tryz.underlying32 rfl) (WL.pu rfl (WL.nil (WX.a (WC.block (WC.y2S (fun (zfh : Nat) (z4K : Int)=>(yM z56 z7d z4J z93 zfh z4K = some r)) (fun zfh z4K=>[(0,(.slice zqm z56.length zqn)),(1,(.func (.func 36) #[] #[(.pointer (some zqo)),(.pointer (some zqp))])),(7,(.int .i64 ((z56.length : Nat) : Int))),(8,(.int .i64 z4K))]) (fun zfh z4K=>[yy zaU (fun x=>Value.agg (e97 x).toArray) (Value.int .i64) z4J]) (fun zfh z4K=>zfh) ⟨yz,0⟩ h (.r4 rfl rfl rfl rfl) (.cons .here .nil) ?_))))))))
  rintro zfh z4K h
  obtain ⟨zql,rfl⟩:=y51 h
  rw [yM] at h
  refine WC.b (WC.a (WL.pu rfl (WL.nil (WX.a (WC.b (WC.cond rfl (fun zqq=>?_) (fun zqq=>?_)))))))
  ·replace h:=yo h zqq
   refine WC.skip (WX.a (WC.b (WC.block (WC.b (WC.a (WL.pu rfl (WL.pu rfl (WL.nil (WX.a (WC.b ?_))))))))))
   obtain ⟨zGL,h⟩:=ym h
   obtain ⟨zxZ,zGM,h⟩:=z7 h
   refine WC.a (WL.pu rfl (WL.pu rfl (WL.pu rfl (WL.znth (dd:=14) rfl rfl (Z:=Z) (Pr:=(p48 Z)) y73 rfl rfl zGH zGL ?_))))
   rintro zSQ zSR zGN zSS ⟨zST,zSU,rfl,zGO⟩
   refine WL.qA 15 (yc y6H rfl (y53 hz.pv zGN rfl)) (WL.cA 16 (y2q (l:=[.tmp 15]) Tryz.call36 rfl (.cons rfl .nil)) (.cons .here .nil) (cc hz (.cons .here .nil) fun w pz ho=>ycb _ _ _ _ _ _ _ _ _ _ zGM w pz zGO zGI zGJ ho) (WL.nil (WX.a (WC.cond rfl (fun zqr=>?_) (fun zqr=>?_)))))
   ·replace h:=yo h zqr
    refine WC.b (WC.a (WL.pu rfl (WL.pu rfl (WL.nil (WX.a (WC.ret (WX.yt (WX.yd (WX.yd (WX.yt (WX.yd ?_)))))))))))
    obtain rfl:=Option.some.inj h
    refine WX.ye Tryz.results55 (.tmp rfl .nil) (fun w hw=>?_)
    exact ⟨yC rfl,hw.sub (.cons .here .nil)⟩
   ·replace h:=yp h zqr
    refine WC.skip (WX.yq (WX.a (WC.a (WL.pu rfl (WL.pu rfl (WL.nil ?_))))))
    exact WX.round ⟨zql,(i64 (z4K + 1))⟩ h (Nat.lt_succ_self _) (.r4 rfl rfl rfl rfl) (.cons .here .nil)
  ·replace h:=yp h zqq
   refine WC.exit (WX.yg (WX.yg (WX.yA ?_)))
   exact WX.mid () h .nil (.cons .here .nil)
 ·rintro  h
  replace h:=zGK.symm.trans h
  refine WC.b (WC.a (WL.pu rfl (WL.nil (WX.a (WC.ret ?_)))))
  obtain rfl:=Option.some.inj h
  refine WX.ye Tryz.results55 (.tmp rfl .nil) (fun w hw=>?_)
  exact ⟨yC rfl,hw.sub (.cons .here .nil)⟩
def y1n (ziz : List (List Sapi_Hop)) (ziA : Sbound_place) (zaV : List (Sbound_place × Int)) : Option Bool :=
 (y1W ziz ziA zaV).bind fun zy0=>some (decide (zy0 ≥ 0))
theorem y5K (Z : Zp) (zy1 : Option Addr) (zy2 : Nat) (zy3 : Addr) (zy4 : Addr) (zfi : Nat) (ziz : List (List Sapi_Hop)) (ziA : Sbound_place) (zaV : List (Sbound_place × Int)) (r : Bool)
  (h : y1n ziz ziA zaV = some r) (w₀ : World) (hz : PZ (fps [yy zfi (fun x=>Value.agg (e97 x).toArray) (Value.int .i64) zaV]) w₀ Z)
  (zGP : ZS Z 1 (p48 Z) zy1 zy2 ziz)
  (zGQ : ZC Z zy3 [(.int .i64 ziA.fNode),(.int .i64 ziA.fLink)])
  (zGR : ZC Z zy4 [(.map (some zfi))])
  (hown : Hp (fps [yy zfi (fun x=>Value.agg (e97 x).toArray) (Value.int .i64) zaV]) w₀ w₀ [yy zfi (fun x=>Value.agg (e97 x).toArray) (Value.int .i64) zaV]) :
  Calls Tryz.prog 27 #[(.slice zy1 ziz.length zy2),(.func (.func 36) #[] #[(.pointer (some zy3)),(.pointer (some zy4))])] w₀ fun e w'=>e = .returned (.bool r) ∧ Hp (fps [yy zfi (fun x=>Value.agg (e97 x).toArray) (Value.int .i64) zaV]) w₀ w' [yy zfi (fun x=>Value.agg (e97 x).toArray) (Value.int .i64) zaV]:=by
 unfold y1n at h
 refine Calls.oh2 Tryz.func27 Tryz.ntmps27 hown ?_
 refine WC.b (WC.a (WL.pu rfl (WL.nil (WX.a (WC.b ?_)))))
 obtain ⟨zy0,zGS,h⟩:=z7 h
 refine WC.a (WL.pu rfl (WL.pu rfl (WL.cA 7 (z8 Tryz.call55 (.r2 rfl rfl)) (.cons .here .nil) (cc hz (.cons .here .nil) fun w pz ho=>y63 _ _ _ _ _ _ _ _ _ _ zGS w pz zGP zGQ zGR ho) (WL.pu rfl (WL.pu rfl (WL.nil (WX.a (WC.ret ?_))))))))
 obtain rfl:=Option.some.inj h
 refine WX.ye Tryz.results27 (.tmp rfl .nil) (fun w hw=>?_)
 exact ⟨yC rfl,hw.sub (.cons .here .nil)⟩
def y7E (l : List Sbound_place) (i j : Int) : Option (List Sbound_place):=chk (((0 : Int) ≤ i ∧ i ≤ j ∧ j ≤ l.length) ∧ l.length * 16 ≤ 140737488355328) (some (l.take i.toNat ++ l.drop j.toNat))
theorem ycc (Z : Zp) (ao : Option Addr) (cap : Nat) (l : List Sbound_place) (i j : Int) (r : List Sbound_place) (w₀ : World) (hz : PZ (fps [row (.slice ao l.length cap) 97 2 (l.flatMap e97)]) w₀ Z) (h : y7E l i j = some r) (hown : Hp (fps [row (.slice ao l.length cap) 97 2 (l.flatMap e97)]) w₀ w₀ [row (.slice ao l.length cap) 97 2 (l.flatMap e97)]) :
  Calls Tryz.prog 41 #[.slice ao l.length cap,.int .i64 i,.int .i64 j] w₀ fun e w'=>∃ aor : Option Addr,∃ capr : Nat,e = .returned (.slice aor r.length capr) ∧ True ∧ Hp (fps [row (.slice ao l.length cap) 97 2 (l.flatMap e97)]) w₀ w' [row (.slice aor r.length capr) 97 2 (r.flatMap e97)]:=by
 obtain ⟨⟨c1,c2⟩,h⟩:=ym h
 obtain rfl:=Option.some.inj h
 clear h
 refine Calls.oh3 Tryz.func41 Tryz.ntmps41 hown ?_
 refine WC.b (WC.a (WL.pu rfl (WL.nil (WX.a (WC.b (WC.a (WL.pu rfl (WL.pu rfl (WL.pu rfl (WL.pu rfl (WL.qA 12 (yG Tryz.underlying88 rfl) (WL.know (fun w h=>h.rowShape .here) fun hs=>?_))))))))))))
 obtain ⟨hs1,hs2,hs3,_⟩:=hs
 refine WL.qA 13 (q_slice3 y5f rfl rfl rfl rfl (by omega) (by omega) (by omega) (by omega)) (WL.nil (WX.a (WC.b (WC.b (WC.a (WL.pu rfl (WL.pu rfl (WL.pu rfl (WL.nil (WX.a (WC.cond rfl (fun hb=>?_) (fun hb=>?_))))))))))))
 ·have e : i = j:=by simpa using hb
  refine WC.b (WC.a (WL.pu rfl (WL.pu rfl (WL.nil (WX.a (WC.ret (WX.yd (WX.ye Tryz.results41 (.tmp rfl .nil) (fun w hw=>?_)))))))))
  have e2 : l.take i.toNat ++ l.drop j.toNat = l:=by subst e; exact List.take_append_drop _ _
  rw [e2]; exact ⟨ao,cap,yC rfl,trivial,hw.sub (.cons .here .nil)⟩
 ·have hne : i < j:=by
   have : i ≠ j:=by simpa using hb
   omega
  clear hb
  refine WC.skip (WX.a (WC.b (WC.a (WL.pu rfl (WL.qA 19 (yG Tryz.underlying88 rfl) (WL.pu rfl (WL.nil (WX.a (WC.b (WC.know (fun w hw=>Hp.y31 .here hw (by omega)) ?_))))))))))
  rintro ⟨b,rfl⟩
  have hlen : (l.take i.toNat ++ l.drop j.toNat).length = i.toNat + (l.length - j.toNat):=by rw [List.length_append,List.length_take,List.length_drop]; omega
  refine WC.yP (fun i=>[6].contains i) [] rfl (WD.pA 0 20 rfl (fun _=>q_m rfl) (WD.pA 1 21 rfl (fun _=>q_m rfl) (WD.pA 2 22 rfl (fun _=>y6D (lo:=0) (hi:=i.toNat) (lv:=none) (hv:=some (.int .i64 i)) y5f rfl (fun _ _ _=>rfl) (fun a w h=>by rw [Option.map_some,h.eval rfl]) rfl (by show i = _; omega) (by omega) (by omega) (by simp)) (WD.repin (i:=22) rfl (u:=.slice (some ⟨b,0,none⟩) i.toNat cap) (by split <;> simp [Addr.add]) (WD.pA 3 23 rfl (fun _=>q_m rfl) (WD.pA 4 24 rfl (fun _=>q_m rfl) (WD.pA 5 25 rfl (fun _=>y6D (lo:=j.toNat) (hi:=l.length) (lv:=some (.int .i64 j)) (hv:=none) y5f rfl (fun a w h=>by rw [Option.map_some,h.eval rfl]) (fun _ _ _=>rfl) (by show j = _; omega) rfl (by omega) (by omega) (fun _=>hs2)) (WD.old (i:=6) (dd:=26) rfl (by kernel_rfl) rfl rfl rfl rfl (fun _=>Sin.of .nil) (yfm (i:=i.toNat) (j:=j.toNat) (m:=l.length) (cs:=l.flatMap e97) y5f rfl rfl (fun hk=>if_neg (by omega)) .here (by omega) (by omega) (y5a yaM _) (by omega)) ?_))))))))
  intro tl _
  refine WD.pA 7 0 rfl (fun _=>q_z rfl) (WD.done (by kernel_rfl) (WX.a (WC.b (WC.a (WL.pu rfl (WL.pu rfl (WL.qA 29 (yG Tryz.underlying88 rfl) (WL.pu rfl (WL.qA 31 (y6D (lo:=i.toNat + (l.length - j.toNat)) (hi:=l.length) (lv:=some (.int .i64 ((i.toNat + (l.length - j.toNat) : Nat) : Int))) (hv:=some (.int .i64 ((l.length : Nat) : Int))) y5f rfl (fun a w h=>by rw [Option.map_some,h.eval rfl]) (fun a w h=>by rw [Option.map_some,h.eval rfl]) rfl rfl (by omega) (by omega) (by simp)) (WL.yl rfl rfl (ybr (i:=i.toNat + (l.length - j.toNat)) y5f y8Q rfl rfl (by omega) (yeI (enc:=e97) (sz:=2) (z0:=((⟨0,0⟩ : Sbound_place) : Sbound_place)) (fun _=>rfl) (by decide) rfl yaM) .here rfl) (WL.nil (WX.a (WC.b (WC.a (WL.pu rfl (WL.pu rfl (WL.nil (WX.a (WC.ret (WX.ye Tryz.results41 (.tmp rfl .nil) (fun w hw=>?_)))))))))))))))))))))
  rw [hlen]
  refine ⟨some ⟨b,0,none⟩,cap,yC rfl,trivial,?_⟩
  have h5:=Hp.rowShort (m:=l.length) (i:=i.toNat + (l.length - j.toNat)) (R:=[]) .here (by omega) hw
  have e1 : (l.flatMap e97).take (i.toNat * 2) = (l.take i.toNat).flatMap e97:=y9d (enc:=e97) (sz:=2) (fun _=>rfl) l i.toNat (by omega)
  have e2 : (l.flatMap e97).drop (j.toNat * 2) = (l.drop j.toNat).flatMap e97:=yau (enc:=e97) (sz:=2) (fun _=>rfl) l j.toNat (by omega)
  have e3 : ((l.take i.toNat ++ l.drop j.toNat).flatMap e97).length = (i.toNat + (l.length - j.toNat)) * 2:=by rw [y6t (sz:=2) (fun _=>rfl),hlen]
  rw [e1,e2,← List.flatMap_append,← e3,List.take_left,List.take_left] at h5
  exact h5.sub (.cons .here .nil)
def y38 (zz : List Sbound_place) (z2S : List (List Sapi_Hop)) (z2o : List (Sbound_place × Int)) (z1N : List Sbound_place) (z94 : (List Sbound_place) → (List Sbound_place) → (List (Sbound_place × Int)) → Option (List Sbound_place × Int)) (z95 : Option (List Sbound_place × Int)) : Nat → Int → Option (List Sbound_place × Int)
 | 0,_=>none
 | zqs + 1,zJ=>if decide (zJ < ((zz.length : Nat) : Int)) then chk ((0 : Int) ≤ zJ ∧ zJ < ((zz.length : Nat) : Int)) ((y1n z2S (⟨((nth zz zJ).fNode),((nth zz zJ).fLink)⟩ : Sbound_place) z2o).bind fun zy5=>if !zy5 then chk ((((z1N ++ ([(⟨((nth zz zJ).fNode),((nth zz zJ).fLink)⟩ : Sbound_place)] : List Sbound_place)).length : Nat) : Int) * 16 ≤ 140737488355328 ∧ (((z1N ++ ([(⟨((nth zz zJ).fNode),((nth zz zJ).fLink)⟩ : Sbound_place)] : List Sbound_place)).length : Nat) : Int) ≤ 4611686018427387904) ((y7E zz zJ (i64 (zJ + 1))).bind fun zlr=>z94 zlr (z1N ++ ([(⟨((nth zz zJ).fNode),((nth zz zJ).fLink)⟩ : Sbound_place)] : List Sbound_place)) (yJ z2o (⟨((nth zz zJ).fNode),((nth zz zJ).fLink)⟩ : Sbound_place) (i64 ((yn z2o (⟨((nth zz zJ).fNode),((nth zz zJ).fLink)⟩ : Sbound_place) 0) + 1)))) else y38 zz z2S z2o z1N z94 z95 zqs (i64 (zJ + 1))) else z95
theorem y9F {n : Nat} {zz : List Sbound_place} {z2S : List (List Sapi_Hop)} {z2o : List (Sbound_place × Int)} {z1N : List Sbound_place} {z94 : (List Sbound_place) → (List Sbound_place) → (List (Sbound_place × Int)) → Option (List Sbound_place × Int)} {z95 : Option (List Sbound_place × Int)} {zJ : Int} {r : List Sbound_place × Int} (h : y38 zz z2S z2o z1N z94 z95 n zJ = some r) : ∃ m,n = m + 1:=by
 cases n with
 | zero=>cases h
 | succ m=>exact ⟨m,rfl⟩
def y39 (z2S : List (List Sapi_Hop)) (z96 : (List Sbound_place) → Option (List Sbound_place × Int)) : Nat → (List Sbound_place) → (List Sbound_place) → (List (Sbound_place × Int)) → Option (List Sbound_place × Int)
 | 0,_,_,_=>none
 | zqt + 1,zz,z1N,z2o=>if decide (((zz.length : Nat) : Int) > 0) then jp3 (fun (z7e : List Sbound_place) (z7f : List Sbound_place) (z97 : List (Sbound_place × Int))=>y39 z2S z96 zqt z7e z7f z97) fun z94=>jp0 (some (([] : List Sbound_place),351)) fun z95=>y38 zz z2S z2o z1N z94 z95 yz 0 else z96 z1N
theorem y9G {n : Nat} {z2S : List (List Sapi_Hop)} {z96 : (List Sbound_place) → Option (List Sbound_place × Int)} {zz : List Sbound_place} {z1N : List Sbound_place} {z2o : List (Sbound_place × Int)} {r : List Sbound_place × Int} (h : y39 z2S z96 n zz z1N z2o = some r) : ∃ m,n = m + 1:=by
 cases n with
 | zero=>cases h
 | succ m=>exact ⟨m,rfl⟩
def y4w (z2S : List (List Sapi_Hop)) : Option (List Sbound_place × Int) :=
 (y5I z2S).bind fun zqu=>jp1 (fun (z7F : List Sbound_place)=>some (z7F,0)) fun z96=>y39 z2S z96 yz zqu ([] : List Sbound_place) ([] : List (Sbound_place × Int))
theorem yal (Z : Zp) (ziB : Option Addr) (ziC : Nat) (z2S : List (List Sapi_Hop)) (r : List Sbound_place × Int)
  (h : y4w z2S = some r) (w₀ : World) (hz : PZ [] w₀ Z)
  (zy6 : ZS Z 1 (p48 Z) ziB ziC z2S) :
  Calls Tryz.prog 21 #[(.slice ziB z2S.length ziC)] w₀ fun e w'=>∃ zy7 : Option Addr,∃ zy8 : Nat,e = .returned (.tuple #[(.slice zy7 r.1.length zy8),(.int .i64 r.2)]) ∧ True ∧ Hp [] w₀ w' [row (.slice zy7 r.1.length zy8) 97 2 (r.1.flatMap e97)]:=by
 unfold y4w at h
 refine Calls.on1 Tryz.func21 Tryz.ntmps21 ?_
 refine WC.b (WC.a (WL.pu rfl (WL.pu rfl (WL.nil (WX.a (WC.scope (WC.b ?_)))))))
 obtain ⟨zqu,zGT,h⟩:=z7 h
 refine WC.a (WL.pu rfl (WL.y45 (dd:=11) rfl rfl rfl (z8 Tryz.call35 (.cons rfl .nil)) .nil (cc hz .nil fun w pz ho=>ycF _ _ _ _ _ zGT w pz zy6) ?_))
 rintro zGU zGV _
 refine WL.pu rfl (WL.nil (WX.a (WC.b (WC.a (WL.nA 12 (y4j (fun x=>Value.agg (e97 x).toArray) (Value.int .i64)) ?_)))))
 intro zdh _
 refine WL.nA 5 (yx (cs:=[(.map none)]) zeroT_93 rfl) ?_
 intro zfj _
 refine WL.yl rfl rfl (yk sizT_93 rfl rfl rfl .here rfl rfl rfl) (WL.nil (WX.a (WC.b (WC.a (WL.pu rfl (WL.nil (WX.a (WC.b (WC.label (WX.a ?_))))))))))
 obtain ⟨z96,zGW,h⟩:=y14 h
 refine WC.y2F (fun (z7F : List Sbound_place) (zfk : Option Addr) (zfl : Nat)=>(z96 z7F = some r)) (fun z7F zfk zfl=>[(6,(.slice zfk z7F.length zfl))]) (fun z7F zfk zfl=>[row (.slice zfk z7F.length zfl) 97 2 (z7F.flatMap e97)]) ?_ ?_
 ·skip
  refine WC.block (WC.nilRow 97 2 (WC.y9R (fun (zfm : Nat) (zz : List Sbound_place) (z1N : List Sbound_place) (z2o : List (Sbound_place × Int)) (z98 : Option Addr) (z7G : Nat) (z99 : Option Addr) (z9a : Nat)=>(y39 z2S z96 zfm zz z1N z2o = some r)) (fun zfm zz z1N z2o z98 z7G z99 z9a=>[(0,(.slice ziB z2S.length ziC)),(4,(.slice z98 zz.length z7G)),(5,(.pointer (some ⟨zfj,0,none⟩))),(6,(.slice z99 z1N.length z9a))]) (fun zfm zz z1N z2o z98 z7G z99 z9a=>[row (.slice z98 zz.length z7G) 97 2 (zz.flatMap e97),row (.slice z99 z1N.length z9a) 97 2 (z1N.flatMap e97),stb zfj 93 [(.map (some zdh))],yy zdh (fun x=>Value.agg (e97 x).toArray) (Value.int .i64) z2o]) (fun zfm zz z1N z2o z98 z7G z99 z9a=>zfm) ⟨yz,zqu,([] : List Sbound_place),([] : List (Sbound_place × Int)),zGU,zGV,none,0⟩ h (.r4 rfl rfl rfl rfl) (.s4 .h3 .here .here .here) ?_))
  rintro zfm zz z1N z2o z98 z7G z99 z9a h
  obtain ⟨zqt,rfl⟩:=y9G h
  rw [y39] at h
  refine WC.b (WC.b (WC.a (WL.pu rfl (WL.qA 14 (yG Tryz.underlying88 rfl) (WL.pu rfl (WL.nil (WX.a (WC.cond rfl (fun zqv=>?_) (fun zqv=>?_)))))))))
  ·replace h:=yo h zqv
   refine WC.skip (WX.a ?_)
   obtain ⟨z94,zGX,h⟩:=y9U h
   refine WC.mid7 (fun (z7e : List Sbound_place) (z7f : List Sbound_place) (z97 : List (Sbound_place × Int)) (zfn : Option Addr) (zfo : Nat) (zfp : Option Addr) (zfq : Nat)=>(z94 z7e z7f z97 = some r)) (fun z7e z7f z97 zfn zfo zfp zfq=>[(0,(.slice ziB z2S.length ziC)),(4,(.slice zfn z7e.length zfo)),(5,(.pointer (some ⟨zfj,0,none⟩))),(6,(.slice zfp z7f.length zfq))]) (fun z7e z7f z97 zfn zfo zfp zfq=>[row (.slice zfn z7e.length zfo) 97 2 (z7e.flatMap e97),row (.slice zfp z7f.length zfq) 97 2 (z7f.flatMap e97),stb zfj 93 [(.map (some zdh))],yy zdh (fun x=>Value.agg (e97 x).toArray) (Value.int .i64) z97]) ?_ ?_
   ·skip
    refine WC.block ?_
    obtain ⟨z95,zGY,h⟩:=y2i h
    refine WC.y1G ((z95 = some r)) ([]) ([]) ?_ ?_
    ·skip
     refine WC.b (WC.a (WL.pu rfl (WL.qA 17 (yG Tryz.underlying88 rfl) (WL.pu rfl (WL.nil (WX.a (WC.block (WC.y2S (fun (zfr : Nat) (zJ : Int)=>(y38 zz z2S z2o z1N z94 z95 zfr zJ = some r)) (fun zfr zJ=>[(0,(.slice ziB z2S.length ziC)),(4,(.slice z98 zz.length z7G)),(5,(.pointer (some ⟨zfj,0,none⟩))),(6,(.slice z99 z1N.length z9a)),(16,(.slice z98 zz.length z7G)),(17,(.int .i64 ((zz.length : Nat) : Int))),(18,(.int .i64 zJ))]) (fun zfr zJ=>[row (.slice z98 zz.length z7G) 97 2 (zz.flatMap e97),row (.slice z99 z1N.length z9a) 97 2 (z1N.flatMap e97),stb zfj 93 [(.map (some zdh))],yy zdh (fun x=>Value.agg (e97 x).toArray) (Value.int .i64) z2o]) (fun zfr zJ=>zfr) ⟨yz,0⟩ h (.r7 rfl rfl rfl rfl rfl rfl rfl) (.s4 .here .here .here .here) ?_))))))))
     rintro zfr zJ h
     obtain ⟨zqs,rfl⟩:=y9F h
     rw [y38] at h
     refine WC.b (WC.a (WL.pu rfl (WL.nil (WX.a (WC.b (WC.cond rfl (fun zqw=>?_) (fun zqw=>?_)))))))
     ·replace h:=yo h zqw
      refine WC.skip (WX.a (WC.b (WC.block (WC.b ?_))))
      obtain ⟨ziD,h⟩:=ym h
      refine WC.a (WL.pu rfl (WL.know (fun w hw=>Hp.y31 .here hw (by intro hz'; have:=ziD; rw [hz'] at this; omega)) ?_))
      rintro ⟨zGZ,rfl⟩
      refine WL.qA 21 (y17 y5f rfl rfl ziD.1 ziD.2 y3S) (WL.qA 22 (yR (cs:=(e97 (nth zz zJ))) y3H rfl rfl (y3F .here (y3e (enc:=e97) (l:=zz) (i:=zJ) (sz:=2) (fun _=>rfl) ziD.1 ziD.2))) (WL.nA 8 (yx (cs:=[(.int .i64 0),(.int .i64 0)]) y8Q rfl) ?_))
      intro zSV _
      refine WL.pu rfl (WL.yl rfl rfl (yk yba rfl rfl rfl .here rfl rfl rfl) (WL.nil (WX.a (WC.b ?_))))
      obtain ⟨zy5,zH0,h⟩:=z7 h
      refine WC.a (WL.pu rfl (WL.qA 24 (y18 (Eos.caps (l:=[.tmp 8,.tmp 5]) (.r2 rfl rfl))) (WL.cA 25 (z8 Tryz.call27 (.r2 rfl rfl)) (.cons .h4 .nil) (ccl hz (.cons .h4 .nil) (.s2 .here .h2) fun w pz ho la=>y5K _ _ _ _ _ _ _ _ _ _ zH0 w pz ((zy6.mono (Zle.left _ _)).weak (fun _ _ h=>y2v (Zle.left _ _) h)) ((la _ (.head _) _).stb) ((la _ (.tail _ (.head _)) _).stb) ho) (WL.pu rfl (WL.pu rfl (WL.nil (WX.a (WC.b (WC.a (WL.pu rfl (WL.nil (WX.a (WC.cond rfl (fun zqx=>?_) (fun zqx=>?_))))))))))))))
      ·replace h:=yo h zqx
       refine WC.b (WC.yP (fun i=>[4,6].contains i) [yc5 zdh (fun x=>Value.agg (e97 x).toArray) (Value.int .i64) (⟨((nth zz zJ).fNode),((nth zz zJ).fLink)⟩ : Sbound_place) (0 : Int) (yn z2o (⟨((nth zz zJ).fNode),((nth zz zJ).fLink)⟩ : Sbound_place) 0)] rfl (WD.qA 0 28 rfl (yc y9z rfl (yj .h4 rfl)) (WD.qA 1 29 rfl (yf y3H rfl (yh .h1) rfl) (WD.sA 2 30 rfl (Sin.wk (.cons .here .nil) (.any rfl (fun _ h=>y6u h) .nil)) (yd3 (k:=(⟨((nth zz zJ).fNode),((nth zz zJ).fLink)⟩ : Sbound_place)) (dflt:=(0 : Int)) y7o Tryz.underlying93 y4P rfl rfl rfl .here) (WD.pA 3 31 rfl (fun _=>ybX rfl rfl rfl) (WD.oldQ (i:=4) (dd:=32) rfl (by kernel_rfl) rfl rfl rfl rfl (yfi (k:=(⟨((nth zz zJ).fNode),((nth zz zJ).fLink)⟩ : Sbound_place)) (dflt:=(0 : Int)) y7o Tryz.underlying93 y4P rfl rfl rfl .here) (fun _=>(Sin.wk (.cons .here .nil) (.any rfl (fun _ h=>yfS h) .nil))) ?_))))))
       rintro zSW _
       refine WD.pA 5 33 rfl (fun _=>y7j rfl rfl) (WD.y3A (i:=6) rfl (by kernel_rfl) rfl rfl rfl (by kernel_rfl) (ydn (k:=(⟨((nth zz zJ).fNode),((nth zz zJ).fLink)⟩ : Sbound_place)) (v:=i64 ((yn z2o (⟨((nth zz zJ).fNode),((nth zz zJ).fLink)⟩ : Sbound_place) 0) + 1)) rfl rfl rfl rfl .here) (WD.done (by kernel_rfl) (WX.a (WC.b ?_))))
       obtain ⟨zH1,h⟩:=ym h
       refine WC.a (WL.pu rfl (WL.qA 35 (yf y3H rfl (yh .h1) rfl) (WL.nA 36 (yX (cs:=([(⟨((nth zz zJ).fNode),((nth zz zJ).fLink)⟩ : Sbound_place)] : List Sbound_place).flatMap e97) y5f (Eos.parts (l:=[.tmp 35]) (.cons rfl .nil) [0]) (fun _=>by kernel_rfl) rfl (by unfold maxLen; omega)) ?_)))
       intro zSX _
       refine WL.fA 37 (y4M (enc:=e97) (l1:=z1N) (l2:=([(⟨((nth zz zJ).fNode),((nth zz zJ).fLink)⟩ : Sbound_place)] : List Sbound_place)) y5f rfl rfl .h4 (fun _=>rfl) rfl rfl (y4d .here) (y5a yaM _) zH1) ?_
       rintro ⟨zH2,zH3⟩ _
       refine WL.pu rfl (WL.nil (WX.a (WC.b ?_)))
       obtain ⟨zlr,zH4,h⟩:=z7 h
       refine WC.a (WL.pu rfl (WL.pu rfl (WL.pu rfl (WL.pu rfl (WL.y45 (dd:=42) rfl rfl rfl (z8 Tryz.call41 (.r3 rfl rfl rfl)) (.cons .h4 .nil) (cc hz (.cons .h4 .nil) fun w pz ho=>ycc (Z:=_) (ao:=(some ⟨zGZ,0,none⟩)) (cap:=z7G) (l:=zz) (i:=zJ) (j:=(i64 (zJ + 1))) (r:=zlr) w pz  zH4 ho) ?_)))))
       rintro zH5 zH6 _
       refine WL.pu rfl (WL.nil (WX.a (WC.exit (WX.yaq rfl (WX.yg (WX.yg (WX.yaq rfl (WX.yg (WX.yA ?_)))))))))
       exact WX.mid ⟨zlr,(z1N ++ ([(⟨((nth zz zJ).fNode),((nth zz zJ).fLink)⟩ : Sbound_place)] : List Sbound_place)),(yJ z2o (⟨((nth zz zJ).fNode),((nth zz zJ).fLink)⟩ : Sbound_place) (i64 ((yn z2o (⟨((nth zz zJ).fNode),((nth zz zJ).fLink)⟩ : Sbound_place) 0) + 1))),zH5,zH6,zH2,zH3⟩ h (.r4 rfl rfl rfl rfl) (.s4 .here .here .h3 .h1)
      ·replace h:=yp h zqx
       refine WC.skip (WX.yq (WX.a (WC.a (WL.pu rfl (WL.pu rfl (WL.nil ?_))))))
       exact WX.round ⟨zqs,(i64 (zJ + 1))⟩ h (Nat.lt_succ_self _) (.r7 rfl rfl rfl rfl rfl rfl rfl) (.s4 .h2 .h2 .h2 .here)
     ·replace h:=yp h zqw
      refine WC.exit (WX.yg (WX.yg (WX.yA ?_)))
      exact WX.mid () h .nil .nil
    ·rintro  h
     replace h:=zGY.symm.trans h
     refine WC.b (WC.a (WL.pu rfl (WL.pu rfl (WL.nil (WX.a (WC.ret (WX.yt (WX.yd (WX.yd (WX.yt (WX.yd (WX.ybw (WX.nilRow 97 2 ?_)))))))))))))
     obtain rfl:=Option.some.inj h
     refine WX.ye Tryz.results21 (.tmp rfl (.tmp rfl .nil)) (fun w hw=>?_)
     exact ⟨none,0,y1U rfl rfl,trivial,hw.sub (.cons .here .nil)⟩
   ·rintro z7e z7f z97 zfn zfo zfp zfq h
    replace h:=(zGX z7e z7f z97).symm.trans h
    exact WX.round ⟨zqt,z7e,z7f,z97,zfn,zfo,zfp,zfq⟩ h (Nat.lt_succ_self _) (.r4 rfl rfl rfl rfl) (.s4 .here .here .here .here)
  ·replace h:=yp h zqv
   refine WC.exit (WX.yg (WX.yg (WX.yA ?_)))
   exact WX.mid ⟨z1N,z99,z9a⟩ h (.cons rfl .nil) (.cons .h1 .nil)
 ·rintro z7F zfk zfl h
  replace h:=(zGW z7F).symm.trans h
  refine WC.b (WC.a (WL.pu rfl (WL.pu rfl (WL.pu rfl (WL.nil (WX.a (WC.ret (WX.ybw ?_))))))))
  obtain rfl:=Option.some.inj h
  refine WX.ye Tryz.results21 (.tmp rfl (.tmp rfl .nil)) (fun w hw=>?_)
  exact ⟨zfk,zfl,y1U rfl rfl,trivial,hw.sub (.cons .here .nil)⟩
def y3J (z9b : Sapi_Hop) (zfs : Sbound_place) : Option Bool :=
 (y3U z9b).bind fun zqy=>some (decide (zqy = zfs))
theorem y9H (Z : Zp) (zy9 : Addr) (z9b : Sapi_Hop) (zfs : Sbound_place) (r : Bool)
  (h : y3J z9b zfs = some r) (w₀ : World) (hz : PZ [] w₀ Z)
  (zH7 : ZC Z zy9 [(.int .i64 zfs.fNode),(.int .i64 zfs.fLink)]) :
  Calls Tryz.prog 67 #[(.agg #[(.int .i64 z9b.fNode),(.int .i64 z9b.fNext),(.int .i64 z9b.fLink)]),(.pointer (some zy9))] w₀ fun e w'=>e = .returned (.bool r) ∧ Hp [] w₀ w' []:=by
 unfold y3J at h
 refine Calls.yI Tryz.func67 Tryz.ntmps67 ?_
 refine WC.b (WC.a (WL.nA 2 (yH (cs:=[(.int .i64 z9b.fNode),(.int .i64 z9b.fNext),(.int .i64 z9b.fLink)]) rfl rfl) ?_))
 intro zSY _
 refine WL.pu rfl (WL.nil (WX.a (WC.b ?_)))
 obtain ⟨zqy,zH8,h⟩:=z7 h
 refine WC.yP (fun i=>[].contains i) [] rfl (WD.qA 0 4 rfl (yf y3G rfl (yh .here) rfl) (WD.eA 1 5 rfl (z8 Tryz.call40 (.cons rfl .nil)) (cc hz .nil fun w pz ho=>y5i _ _ _ zH8 w pz ) (WD.qA 2 6 rfl (yf y3H rfl (y2o hz.pv zH7) rfl) (WD.pA 3 7 rfl (fun _=>y7b (enc:=e97) (a:=zqy) (b:=zfs) yc7 rfl rfl) (WD.pA 4 3 rfl (fun _=>q_z rfl) (WD.done (by kernel_rfl) (WX.a (WC.ret ?_))))))))
 obtain rfl:=Option.some.inj h
 refine WX.ye Tryz.results67 (.tmp rfl .nil) (fun w hw=>?_)
 exact ⟨yC rfl,hw.sub .nil⟩
def y19 (ziE : List Sapi_Hop) (zft : Sapi_Hop → Option Bool) : Option Bool :=
 (y15 ziE zft).bind fun zya=>some (decide (zya ≥ 0))
theorem y5V (Z : Zp) (zyb : Option Addr) (zyc : Nat) (zfu : FuncId) (zls : List Value) (ziE : List Sapi_Hop) (zft : Sapi_Hop → Option Bool) (r : Bool)
  (h : y19 ziE zft = some r) (w₀ : World) (hz : PZ [] w₀ Z)
  (zH9 : ZS Z 3 (fun r x=>r = e62 x) zyb zyc ziE)
  (zHa : ∀ args w,(callFunc zfu args).run Tryz.prog w = .ok (.enter zfu args) w)
  (zHb : ∀ w : World,PZ [] w Z → ∀ (x0 : Sapi_Hop) (r : Bool),zft x0 = some r → Calls Tryz.prog zfu (([(.agg #[(.int .i64 x0.fNode),(.int .i64 x0.fNext),(.int .i64 x0.fLink)])] : List Value) ++ zls).toArray w fun e w'=>e = .returned (.bool r) ∧ Hp [] w w' []) :
  Calls Tryz.prog 37 #[(.slice zyb ziE.length zyc),(.func (.func zfu) #[] (zls).toArray)] w₀ fun e w'=>e = .returned (.bool r) ∧ Hp [] w₀ w' []:=by
 unfold y19 at h
 refine Calls.yI Tryz.func37 Tryz.ntmps37 ?_
 refine WC.b (WC.a (WL.pu rfl (WL.nil (WX.a (WC.b ?_)))))
 obtain ⟨zya,zHc,h⟩:=z7 h
 refine WC.a (WL.pu rfl (WL.pu rfl (WL.cA 7 (z8 Tryz.call65 (.r2 rfl rfl)) .nil (cc hz .nil fun w pz ho=>y4l _ _ _ (zaP:=zfu) (zfa:=zls) _ (z6n:=zft) _ zHc w pz zH9 zHa zHb) (WL.pu rfl (WL.pu rfl (WL.nil (WX.a (WC.ret ?_))))))))
 obtain rfl:=Option.some.inj h
 refine WX.ye Tryz.results37 (.tmp rfl .nil) (fun w hw=>?_)
 exact ⟨yC rfl,hw.sub .nil⟩
def y2c (ziF : Int) : Option z2 :=
 some (⟨ziF,1⟩ : z2)
theorem y4x (Z : Zp)  (ziF : Int) (r : z2)
  (h : y2c ziF = some r) (w₀ : World) (hz : PZ [] w₀ Z) :
  Calls Tryz.prog 43 #[(.int .i64 ziF)] w₀ fun e w'=>e = .returned (.agg #[(.int .i64 r.fN),(.int .i64 r.fD)]) ∧ Hp [] w₀ w' []:=by
 unfold y2c at h
 refine Calls.on1 Tryz.func43 Tryz.ntmps43 ?_
 refine WC.b (WC.a (WL.nA 2 (yx (cs:=[(.int .i64 0),(.int .i64 0)]) zH rfl) ?_))
 intro zSZ _
 refine WL.nil (WX.a (WC.b (WC.a (WL.pu rfl (WL.qA 4 (yL (v:=(.agg #[(.int .i64 ziF),(.int .i64 1)])) (Eos.parts (l:=[.tmp 3,.const (.int .i64 1)]) (.r2 rfl rfl) [0,1]) (fun _=>by kernel_rfl)) (WL.yl rfl rfl (yk zq rfl rfl rfl .here rfl rfl rfl) (WL.nil (WX.a (WC.ret ?_)))))))))
 obtain rfl:=Option.some.inj h
 refine WX.ye Tryz.results43 (.agg rfl zb rfl (yh .here) .nil) (fun w hw=>?_)
 exact ⟨yC rfl,hw.sub .nil⟩
def y5m (zfv : Int) : Option Int :=
 if decide (zfv < 0) then some (u64 ((u64 (i64 (0 - (i64 (zfv + 1))))) + 1)) else some (u64 zfv)
theorem y8v (Z : Zp)  (zfv : Int) (r : Int)
  (h : y5m zfv = some r) (w₀ : World) (hz : PZ [] w₀ Z) :
  Calls Tryz.prog 112 #[(.int .i64 zfv)] w₀ fun e w'=>e = .returned (.int .u64 r) ∧ Hp [] w₀ w' []:=by
 unfold y5m at h
 refine Calls.on1 Tryz.func112 Tryz.ntmps112 ?_
 refine WC.b (WC.a (WL.pu rfl (WL.nil (WX.a (WC.b (WC.b (WC.a (WL.pu rfl (WL.pu rfl (WL.nil (WX.a (WC.cond rfl (fun zqz=>?_) (fun zqz=>?_)))))))))))))
 ·replace h:=yo h zqz
  refine WC.b (WC.a (WL.pu rfl (WL.pu rfl (WL.qA 7 (q_neg rfl rfl) (WL.qA 8 (y72 Tryz.underlying3 Tryz.underlying193 rfl rfl) (WL.pu rfl (WL.pu rfl (WL.nil (WX.a (WC.ret (WX.yd ?_)))))))))))
  obtain rfl:=Option.some.inj h
  refine WX.ye Tryz.results112 (.tmp rfl .nil) (fun w hw=>?_)
  exact ⟨yC rfl,hw.sub .nil⟩
 ·replace h:=yp h zqz
  refine WC.skip (WX.a (WC.b (WC.a (WL.pu rfl (WL.qA 11 (y72 Tryz.underlying3 Tryz.underlying193 rfl rfl) (WL.pu rfl (WL.nil (WX.a (WC.ret ?_)))))))))
  obtain rfl:=Option.some.inj h
  refine WX.ye Tryz.results112 (.tmp rfl .nil) (fun w hw=>?_)
  exact ⟨yC rfl,hw.sub .nil⟩
def y21 (z9c : Int → Option Int) : Nat → Int → Int → Option Int
 | 0,_,_=>none
 | zqA + 1,z5R,z57=>if decide (z57 ≠ 0) then chk ((z57 : Int) ≠ 0) (y21 z9c zqA z57 (Int.tmod z5R z57)) else z9c z5R
theorem y8S {n : Nat} {z9c : Int → Option Int} {z5R : Int} {z57 : Int} {r : Int} (h : y21 z9c n z5R z57 = some r) : ∃ m,n = m + 1:=by
 cases n with
 | zero=>cases h
 | succ m=>exact ⟨m,rfl⟩
def y4f (ziG : Int) (ziH : Int) : Option Int :=
 jp1 (fun (zaW : Int)=>some zaW) fun z9c=>y21 z9c yz ziG ziH
theorem y8T (Z : Zp)  (ziG : Int) (ziH : Int) (r : Int)
  (h : y4f ziG ziH = some r) (w₀ : World) (hz : PZ [] w₀ Z) :
  Calls Tryz.prog 111 #[(.int .u64 ziG),(.int .u64 ziH)] w₀ fun e w'=>e = .returned (.int .u64 r) ∧ Hp [] w₀ w' []:=by
 unfold y4f at h
 refine Calls.yI Tryz.func111 Tryz.ntmps111 ?_
 refine WC.b (WC.a (WL.pu rfl (WL.nil (WX.a ?_))))
 obtain ⟨z9c,zHd,h⟩:=y14 h
 refine WC.y3z (fun (zaW : Int)=>(z9c zaW = some r)) (fun zaW=>[(0,(.int .u64 zaW))]) (fun zaW=>[]) ?_ ?_
 ·skip
  refine WC.block (WC.y8O (fun (zfw : Nat) (z5R : Int) (z57 : Int)=>(y21 z9c zfw z5R z57 = some r)) (fun zfw z5R z57=>[(0,(.int .u64 z5R)),(1,(.int .u64 z57))]) (fun zfw z5R z57=>[]) (fun zfw z5R z57=>zfw) ⟨yz,ziG,ziH⟩ h (.r2 rfl rfl) .nil ?_)
  rintro zfw z5R z57 h
  obtain ⟨zqA,rfl⟩:=y8S h
  rw [y21] at h
  refine WC.b (WC.b (WC.a (WL.pu rfl (WL.pu rfl (WL.nil (WX.a (WC.cond rfl (fun zqB=>?_) (fun zqB=>?_))))))))
  ·replace h:=yo h zqB
   refine WC.skip (WX.a (WC.block ?_))
   obtain ⟨zHe,h⟩:=ym h
   refine WC.yP (fun i=>[].contains i) [] rfl (WD.pA 0 7 rfl (fun _=>q_m rfl) (WD.pA 1 8 rfl (fun _=>q_m rfl) (WD.pA 2 9 rfl (fun _=>q_m rfl) (WD.pA 3 10 rfl (fun _=>q_rem rfl rfl zHe rfl) (WD.pA 4 0 rfl (fun _=>q_z rfl) (WD.pA 5 1 rfl (fun _=>q_z rfl) (WD.done (by kernel_rfl) (WX.yq ?_))))))))
   exact WX.round ⟨zqA,z57,(Int.tmod z5R z57)⟩ h (Nat.lt_succ_self _) (.r2 rfl rfl) .nil
  ·replace h:=yp h zqB
   refine WC.exit (WX.yg (WX.yg (WX.yA ?_)))
   exact WX.mid z5R h (.cons rfl .nil) .nil
 ·rintro zaW h
  replace h:=(zHd zaW).symm.trans h
  refine WC.b (WC.a (WL.pu rfl (WL.pu rfl (WL.nil (WX.a (WC.ret ?_))))))
  obtain rfl:=Option.some.inj h
  refine WX.ye Tryz.results111 (.tmp rfl .nil) (fun w hw=>?_)
  exact ⟨yC rfl,hw.sub .nil⟩
def y4J (ziI : Int) (zfx : Int) : Option (z2 × Int) :=
 if decide (zfx = 0) then some ((⟨0,0⟩ : z2),2) else (y5m ziI).bind fun z7H=>(y5m zfx).bind fun zaX=>(y4f z7H zaX).bind fun z4L=>chk ((z4L : Int) ≠ 0) (if (decide ((u64 (Int.tdiv z7H z4L)) > 1073741824)) || (decide ((u64 (Int.tdiv zaX z4L)) > 1073741824)) then some ((⟨0,0⟩ : z2),3) else jp1 (fun (zaY : Int)=>some ((⟨zaY,i64 (u64 (Int.tdiv zaX z4L))⟩ : z2),0)) fun zlt=>if (decide (ziI < 0)) != (decide (zfx < 0)) then zlt (i64 (0 - (i64 (u64 (Int.tdiv z7H z4L))))) else zlt (i64 (u64 (Int.tdiv z7H z4L))))
theorem y7F (Z : Zp)  (ziI : Int) (zfx : Int) (r : z2 × Int)
  (h : y4J ziI zfx = some r) (w₀ : World) (hz : PZ [] w₀ Z) :
  Calls Tryz.prog 106 #[(.int .i64 ziI),(.int .i64 zfx)] w₀ fun e w'=>e = .returned (.tuple #[(.agg #[(.int .i64 r.1.fN),(.int .i64 r.1.fD)]),(.int .i64 r.2)]) ∧ Hp [] w₀ w' []:=by
 unfold y4J at h
 refine Calls.yI Tryz.func106 Tryz.ntmps106 ?_
 refine WC.b (WC.a (WL.nA 4 (yx (cs:=[(.int .i64 0),(.int .i64 0)]) zH rfl) ?_))
 intro zyd _
 refine WL.pu rfl (WL.nil (WX.a (WC.b (WC.b (WC.a (WL.pu rfl (WL.pu rfl (WL.nil (WX.a (WC.cond rfl (fun zqC=>?_) (fun zqC=>?_)))))))))))
 ·replace h:=yo h zqC
  refine WC.b (WC.a (WL.qA 12 (yL (v:=(.agg #[(.int .i64 0),(.int .i64 0)])) (Eos.parts (l:=[]) .nil []) (fun _=>by kernel_rfl)) (WL.yl rfl rfl (yk zq rfl rfl rfl .here rfl rfl rfl) (WL.pu rfl (WL.nil (WX.a (WC.ret (WX.yd ?_))))))))
  obtain rfl:=Option.some.inj h
  refine WX.ye Tryz.results106 (.agg rfl zb rfl (yh .here) (.tmp rfl .nil)) (fun w hw=>?_)
  exact ⟨y1U rfl rfl,hw.sub .nil⟩
 ·replace h:=yp h zqC
  refine WC.skip (WX.a (WC.b ?_))
  obtain ⟨z7H,zHf,h⟩:=z7 h
  obtain ⟨zaX,zHg,h⟩:=z7 h
  refine WC.a (WL.pu rfl (WL.cA 14 (z8 Tryz.call112 (.cons rfl .nil)) .nil (cc hz .nil fun w pz ho=>y8v _ _ _ zHf w pz ) (WL.pu rfl (WL.cA 16 (z8 Tryz.call112 (.cons rfl .nil)) .nil (cc hz .nil fun w pz ho=>y8v _ _ _ zHg w pz ) (WL.pu rfl (WL.pu rfl (WL.nil (WX.a (WC.b ?_)))))))))
  obtain ⟨z4L,zHh,h⟩:=z7 h
  refine WC.a (WL.pu rfl (WL.pu rfl (WL.cA 19 (z8 Tryz.call111 (.r2 rfl rfl)) .nil (cc hz .nil fun w pz ho=>y8T _ _ _ _ zHh w pz ) (WL.pu rfl (WL.nil (WX.a (WC.b ?_)))))))
  obtain ⟨zye,h⟩:=ym h
  refine WC.yP (fun i=>[].contains i) [] rfl (WD.pA 0 20 rfl (fun _=>q_m rfl) (WD.pA 1 21 rfl (fun _=>q_m rfl) (WD.pA 2 22 rfl (fun _=>q_quo rfl rfl zye rfl) (WD.pA 3 23 rfl (fun _=>q_m rfl) (WD.pA 4 24 rfl (fun _=>q_m rfl) (WD.pA 5 25 rfl (fun _=>q_quo rfl rfl zye rfl) (WD.pA 6 6 rfl (fun _=>q_z rfl) (WD.pA 7 7 rfl (fun _=>q_z rfl) (WD.done (by kernel_rfl) (WX.a (WC.b (WC.b (WC.a (WL.pu rfl (WL.pu rfl (WL.pu rfl (WL.seg false 2 28 (B:=(decide ((u64 (Int.tdiv z7H z4L)) > 1073741824)) || (decide ((u64 (Int.tdiv zaX z4L)) > 1073741824))) rfl rfl rfl rfl rfl rfl (fun h=>(y6V h).symm) (fun _ zHi=>?_) ?_)))))))))))))))))
  ·skip
   refine WL.pu rfl (WL.pu rfl (WL.pu rfl ?_))
   exact WL.yB (y6W zHi) rfl rfl .all
  refine WL.nil (WX.a (WC.cond rfl (fun zqD=>?_) (fun zqD=>?_)))
  ·replace h:=yo h zqD
   refine WC.b (WC.a (WL.qA 32 (yL (v:=(.agg #[(.int .i64 0),(.int .i64 0)])) (Eos.parts (l:=[]) .nil []) (fun _=>by kernel_rfl)) (WL.yl rfl rfl (yk zq rfl rfl rfl .here rfl rfl rfl) (WL.pu rfl (WL.nil (WX.a (WC.ret (WX.yd ?_))))))))
   obtain rfl:=Option.some.inj h
   refine WX.ye Tryz.results106 (.agg rfl zb rfl (yh .here) (.tmp rfl .nil)) (fun w hw=>?_)
   exact ⟨y1U rfl rfl,hw.sub .nil⟩
  ·replace h:=yp h zqD
   refine WC.skip (WX.a (WC.b (WC.a (WL.pu rfl (WL.qA 34 (y72 Tryz.underlying193 Tryz.underlying3 rfl rfl) (WL.pu rfl (WL.qA 36 (y72 Tryz.underlying193 Tryz.underlying3 rfl rfl) (WL.qA 37 (yL (v:=(.agg #[(.int .i64 (i64 (u64 (Int.tdiv z7H z4L)))),(.int .i64 (i64 (u64 (Int.tdiv zaX z4L))))])) (Eos.parts (l:=[.tmp 34,.tmp 36]) (.r2 rfl rfl) [0,1]) (fun _=>by kernel_rfl)) (WL.nA 9 (yx (cs:=[(.int .i64 0),(.int .i64 0)]) zH rfl) ?_)))))))))
   intro zyf _
   refine WL.yl rfl rfl (yk zq rfl rfl rfl .here rfl rfl rfl) (WL.nil (WX.a ?_))
   obtain ⟨zlt,zHj,h⟩:=y14 h
   refine WC.y3z (fun (zaY : Int)=>(zlt zaY = some r)) (fun zaY=>[(4,(.pointer (some ⟨zyd,0,none⟩))),(9,(.pointer (some ⟨zyf,0,none⟩)))]) (fun zaY=>[stb zyd 132 [(.int .i64 0),(.int .i64 0)],stb zyf 132 [(.int .i64 zaY),(.int .i64 (i64 (u64 (Int.tdiv zaX z4L))))]]) ?_ ?_
   ·skip
    refine WC.b (WC.a (WL.pu rfl (WL.pu rfl (WL.pu rfl (WL.pu rfl (WL.qA 42 (q_bneq Tryz.underlying4 rfl rfl) (WL.nil (WX.a (WC.cond rfl (fun zqE=>?_) (fun zqE=>?_))))))))))
    ·replace h:=yo h zqE
     refine WC.a (WL.qA 43 (ya y2a rfl rfl) (WL.qA 44 (yc yw rfl (yj .here rfl)) (WL.qA 45 (q_neg rfl rfl) (WL.qA 46 (ya y2a rfl rfl) (WL.yl rfl rfl (y5T (ds:=[(.int .i64 (i64 (0 - (i64 (u64 (Int.tdiv z7H z4L)))))),(.int .i64 (i64 (u64 (Int.tdiv zaX z4L))))]) sizT_3 rfl rfl rfl rfl rfl .here rfl rfl) (WL.nil ?_))))))
     exact WX.mid (i64 (0 - (i64 (u64 (Int.tdiv z7H z4L))))) h (.r2 rfl rfl) (.s2 .h1 .here)
    ·replace h:=yp h zqE
     refine WC.skip ?_
     exact WX.mid (i64 (u64 (Int.tdiv z7H z4L))) h (.r2 rfl rfl) (.s2 .h1 .here)
   ·rintro zaY h
    replace h:=(zHj zaY).symm.trans h
    refine WC.b (WC.a (WL.qA 47 (yf zb rfl (yh .h1) rfl) (WL.yl rfl rfl (yk zq rfl rfl rfl .here rfl rfl rfl) (WL.pu rfl (WL.nil (WX.a (WC.ret ?_)))))))
    obtain rfl:=Option.some.inj h
    refine WX.ye Tryz.results106 (.agg rfl zb rfl (yh .here) (.tmp rfl .nil)) (fun w hw=>?_)
    exact ⟨y1U rfl rfl,hw.sub .nil⟩
def y3p (z2T : Sapi_Config) (zlu : List (List Sapi_Hop)) (zdi : List (Sbound_flow × z2)) (zdj : List (Sbound_place × Int)) (zqF : Int) (zdk : Int) : Option z2 :=
 chk ((0 : Int) ≤ zdk ∧ zdk < ((z2T.fVLs.length : Nat) : Int)) ((y4J ((nth z2T.fVLs zdk).fMax) ((nth z2T.fVLs zdk).fBag)).bind fun zyg=>some zyg.1)
theorem y6X (Z : Zp) (zyh : Addr) (zyi : Option Addr) (zyj : Nat) (zyk : Option Addr) (zyl : Nat) (zym : Option Addr) (zyn : Nat) (zyo : Option Addr) (zyp : Nat) (zyq : Option Addr) (zyr : Nat) (zys : Option Addr) (zyt : Nat) (zyu : Option Addr) (zyv : Nat) (zyw : Option Addr) (zyx : Nat) (zyy : Option Addr) (zyz : Nat) (zfy : Nat) (zfz : Nat) (z2T : Sapi_Config) (zlu : List (List Sapi_Hop)) (zdi : List (Sbound_flow × z2)) (zdj : List (Sbound_place × Int)) (zqF : Int) (zdk : Int) (r : z2)
  (h : y3p z2T zlu zdi zdj zqF zdk = some r) (w₀ : World) (hz : PZ (fps [yy zfy (fun x=>Value.agg (y2e x).toArray) (fun x=>Value.agg (yu x).toArray) zdi,yy zfz (fun x=>Value.agg (e97 x).toArray) (Value.int .i64) zdj]) w₀ Z)
  (zT0 : ZS Z 4 (y48 Z) zyi zyj z2T.fModules)
  (zT1 : ZS Z 4 (y4H Z) zyk zyl z2T.fChannels)
  (zT2 : ZS Z 4 (fun r x=>r = e66 x) zym zyn z2T.fSwitches)
  (zT3 : ZS Z 4 (fun r x=>r = e64 x) zyo zyp z2T.fLinks)
  (zyA : ZS Z 7 (p46 Z) zyq zyr z2T.fVLs)
  (zT4 : ZS Z 5 (fun r x=>r = y4U x) zys zyt z2T.fHealth)
  (zT5 : ZS Z 3 (y4I Z) zyu zyv z2T.fCauses)
  (zT6 : ZS Z 4 (fun r x=>r = y4V x) zyw zyx z2T.fVersions)
  (zT7 : ZS Z 1 (p48 Z) zyy zyz zlu)
  (zyB : ZC Z zyh [(.slice zyi z2T.fModules.length zyj),(.slice zyk z2T.fChannels.length zyl),(.slice zym z2T.fSwitches.length zyn),(.slice zyo z2T.fLinks.length zyp),(.slice zyq z2T.fVLs.length zyr),(.slice zys z2T.fHealth.length zyt),(.slice zyu z2T.fCauses.length zyv),(.slice zyw z2T.fVersions.length zyx),(.slice zyy zlu.length zyz),(.map (some zfy)),(.map (some zfz)),(.int .i64 zqF)])
  (hown : Hp (fps [yy zfy (fun x=>Value.agg (y2e x).toArray) (fun x=>Value.agg (yu x).toArray) zdi,yy zfz (fun x=>Value.agg (e97 x).toArray) (Value.int .i64) zdj]) w₀ w₀ [yy zfy (fun x=>Value.agg (y2e x).toArray) (fun x=>Value.agg (yu x).toArray) zdi,yy zfz (fun x=>Value.agg (e97 x).toArray) (Value.int .i64) zdj]) :
  Calls Tryz.prog 71 #[(.pointer (some zyh)),(.int .i64 zdk)] w₀ fun e w'=>e = .returned (.agg #[(.int .i64 r.fN),(.int .i64 r.fD)]) ∧ Hp (fps [yy zfy (fun x=>Value.agg (y2e x).toArray) (fun x=>Value.agg (yu x).toArray) zdi,yy zfz (fun x=>Value.agg (e97 x).toArray) (Value.int .i64) zdj]) w₀ w' [yy zfy (fun x=>Value.agg (y2e x).toArray) (fun x=>Value.agg (yu x).toArray) zdi,yy zfz (fun x=>Value.agg (e97 x).toArray) (Value.int .i64) zdj]:=by
 unfold y3p at h
 refine Calls.oh2 Tryz.func71 Tryz.ntmps71 hown ?_
 refine WC.b (WC.a (WL.nA 4 (yx (cs:=[(.int .i64 0),(.int .i64 0)]) zH rfl) ?_))
 intro zT8 _
 refine WL.nil (WX.a (WC.b ?_))
 obtain ⟨zyC,h⟩:=ym h
 obtain ⟨zyg,zHk,h⟩:=z7 h
 refine WC.yP (fun i=>[23].contains i) [] rfl (WD.pA 0 8 rfl (fun _=>q_m rfl) (WD.pA 1 9 rfl (fun _=>y11 rfl) (WD.pA 2 10 rfl (fun _=>ya y6a rfl rfl) (WD.pA 3 11 rfl (fun _=>ya y5D rfl rfl) (WD.qA 4 12 rfl (yc y5E rfl (y1e hz.pv zyB rfl)) (WD.pA 5 13 rfl (fun _=>q_m rfl) (WD.znth (j:=6) (dd:=14) (by kernel_rfl) rfl z2l z2m rfl rfl (Z:=Z) (Pr:=(p46 Z)) y89 rfl rfl zyA zyC ?_)))))))
 rintro zT9 zTa zHl zTb ⟨zTc,zTd,rfl,zTe⟩
 refine WD.pA 7 15 rfl (fun _=>ya y7V rfl rfl) (WD.qA 8 16 rfl (yc yw rfl (y1e hz.pv zHl rfl)) (WD.pA 9 17 rfl (fun _=>q_m rfl) (WD.pA 10 18 rfl (fun _=>y11 rfl) (WD.pA 11 19 rfl (fun _=>ya y6a rfl rfl) (WD.pA 12 20 rfl (fun _=>ya y5D rfl rfl) (WD.qA 13 21 rfl (yc y5E rfl (y1e hz.pv zyB rfl)) (WD.pA 14 22 rfl (fun _=>q_m rfl) (WD.znth (j:=15) (dd:=23) (by kernel_rfl) rfl z2l z2m rfl rfl (Z:=Z) (Pr:=(p46 Z)) y89 rfl rfl zyA zyC ?_))))))))
 rintro zTf zTg zHm zTh ⟨zTi,zTj,rfl,zTk⟩
 refine WD.pA 16 24 rfl (fun _=>ya yeP rfl rfl) (WD.qA 17 25 rfl (yc yw rfl (y1e hz.pv zHm rfl)) (WD.eA 18 26 rfl (z8 Tryz.call106 (.r2 rfl rfl)) (cc hz .nil fun w pz ho=>y7F _ _ _ _ zHk w pz ) (WD.pA 19 7 rfl (fun _=>q_m rfl) (WD.pA 20 27 rfl (fun _=>y7j rfl rfl) (WD.pA 21 28 rfl (fun _=>y7j rfl rfl) (WD.new (i:=22) (dd:=5) rfl (by kernel_rfl) rfl rfl rfl (yx (cs:=[(.int .i64 0),(.int .i64 0)]) zH rfl) (fun h'=>absurd h' (by decide)) ?_))))))
 intro zTl _
 refine WD.forced0 (i:=23) rfl (by kernel_rfl) rfl rfl rfl (Sin.of .nil) (yk zq rfl rfl rfl .here rfl rfl rfl) (WD.pA 24 6 rfl (fun _=>q_z rfl) (WD.done (by kernel_rfl) (WX.a (WC.b (WC.a (WL.qA 29 (yf zb rfl (yh .here) rfl) (WL.yl rfl rfl (yk zq rfl rfl rfl .h1 rfl rfl rfl) (WL.nil (WX.a (WC.ret ?_))))))))))
 obtain rfl:=Option.some.inj h
 refine WX.ye Tryz.results71 (.agg rfl zb rfl (yh .here) .nil) (fun w hw=>?_)
 exact ⟨yC rfl,hw.sub (.s2 .h2 .h2)⟩
def y1H (z12 : z2) : Option Bool :=
 (if (((decide (z12.fD ≥ 1)) && (decide (z12.fD ≤ 1073741824))) && (decide (z12.fN ≥ (-1073741824)))) && (decide (z12.fN ≤ 1073741824)) then (y5m z12.fN).bind fun zyD=>(y5m z12.fD).bind fun zyE=>(y4f zyD zyE).bind fun zyF=>some (decide (zyF = 1)) else some false).bind fun zqG=>some zqG
theorem y2j (Z : Zp)  (z12 : z2) (r : Bool)
  (h : y1H z12 = some r) (w₀ : World) (hz : PZ [] w₀ Z) :
  Calls Tryz.prog 80 #[(.agg #[(.int .i64 z12.fN),(.int .i64 z12.fD)])] w₀ fun e w'=>e = .returned (.bool r) ∧ Hp [] w₀ w' []:=by
 unfold y1H at h
 refine Calls.on1 Tryz.func80 Tryz.ntmps80 ?_
 refine WC.b (WC.a (WL.nA 1 (yH (cs:=[(.int .i64 z12.fN),(.int .i64 z12.fD)]) rfl rfl) ?_))
 intro zqH _
 refine WL.pu rfl (WL.nil (WX.a (WC.b ?_)))
 obtain ⟨zqG,zyG,h⟩:=z7 h
 refine WC.yP (fun i=>[].contains i) [] rfl (WD.pA 0 3 rfl (fun _=>ya y2w rfl rfl) (WD.qA 1 4 rfl (yc yw rfl (yj .here rfl)) (WD.pA 2 5 rfl (fun _=>q_geq rfl rfl) (WD.pA 3 6 rfl (fun _=>q_m rfl) (WD.mid (fuel':=21) [(1,(.pointer (some ⟨zqH,0,none⟩))),(2,(.bool false)),(6,(.bool (decide (z12.fD ≥ 1)))),(10,(.bool ((decide (z12.fD ≥ 1)) && (decide (z12.fD ≤ 1073741824)))))] (y4c 29 [7,6,5,4,3,2,1,0]) ?_ (fun zyH=>?_))))))
 rotate_left
 ·rcases Bool.eq_false_or_eq_true (decide (z12.fD ≥ 1)) with hb' | hb'
  ·have zqI:=hb'; clear hb'
   refine WD.pin (i:=6) rfl zqI (WD.pA 4 7 rfl (fun _=>ya y2w rfl rfl) (WD.qA 5 8 rfl (yc yw rfl (yj .here rfl)) (WD.pA 6 9 rfl (fun _=>q_leq rfl rfl) (WD.pA 7 10 rfl (fun _=>y3C rfl rfl) (WD.reL (.cons .here .nil) ?_ zyH)))))
   exact (.cons rfl (.cons rfl (.cons (zB (Eq.symm zqI)) (.cons (zB (y2U zqI)) .nil))))
  ·have zqJ:=hb'; clear hb'
   refine WD.pin (i:=6) rfl zqJ (WD.kA 4 7 rfl (WD.kA 5 8 rfl (WD.kA 6 9 rfl (WD.pA 7 10 rfl (fun _=>y3D rfl rfl) (WD.reL (.cons .here .nil) ?_ zyH)))))
   exact (.cons rfl (.cons rfl (.cons (zB (Eq.symm zqJ)) (.cons (zB (y2T zqJ)) .nil))))
 refine WD.d #[true,true,true,true,true,true,true,true,false,false,false,false,false,false,false,false,false,false,false,false,false,false,false,false,false,false,false,false,false] (by kernel_rfl) (WD.pA 8 11 rfl (fun _=>q_m rfl) (WD.mid (fuel':=16) [(1,(.pointer (some ⟨zqH,0,none⟩))),(2,(.bool false)),(11,(.bool ((decide (z12.fD ≥ 1)) && (decide (z12.fD ≤ 1073741824))))),(15,(.bool (((decide (z12.fD ≥ 1)) && (decide (z12.fD ≤ 1073741824))) && (decide (z12.fN ≥ (-1073741824))))))] (y4c 29 [12,11,10,9,8,7,6,5,4,3,2,1,0]) ?_ (fun zyI=>?_)))
 rotate_left
 ·rcases Bool.eq_false_or_eq_true ((decide (z12.fD ≥ 1)) && (decide (z12.fD ≤ 1073741824))) with hb' | hb'
  ·have zqK:=hb'; clear hb'
   refine WD.pin (i:=11) rfl zqK (WD.pA 9 12 rfl (fun _=>ya y2a rfl rfl) (WD.qA 10 13 rfl (yc yw rfl (yj .here rfl)) (WD.pA 11 14 rfl (fun _=>q_geq rfl rfl) (WD.pA 12 15 rfl (fun _=>y3C rfl rfl) (WD.reL (.cons .here .nil) ?_ zyI)))))
   exact (.cons rfl (.cons rfl (.cons (zB (Eq.symm zqK)) (.cons (zB (y2U zqK)) .nil))))
  ·have zqL:=hb'; clear hb'
   refine WD.pin (i:=11) rfl zqL (WD.kA 9 12 rfl (WD.kA 10 13 rfl (WD.kA 11 14 rfl (WD.pA 12 15 rfl (fun _=>y3D rfl rfl) (WD.reL (.cons .here .nil) ?_ zyI)))))
   exact (.cons rfl (.cons rfl (.cons (zB (Eq.symm zqL)) (.cons (zB (y2T zqL)) .nil))))
 refine WD.d #[true,true,true,true,true,true,true,true,true,true,true,true,true,false,false,false,false,false,false,false,false,false,false,false,false,false,false,false,false] (by kernel_rfl) (WD.pA 13 16 rfl (fun _=>q_m rfl) (WD.mid (fuel':=11) [(1,(.pointer (some ⟨zqH,0,none⟩))),(2,(.bool false)),(16,(.bool (((decide (z12.fD ≥ 1)) && (decide (z12.fD ≤ 1073741824))) && (decide (z12.fN ≥ (-1073741824)))))),(20,(.bool ((((decide (z12.fD ≥ 1)) && (decide (z12.fD ≤ 1073741824))) && (decide (z12.fN ≥ (-1073741824)))) && (decide (z12.fN ≤ 1073741824)))))] (y4c 29 [17,16,15,14,13,12,11,10,9,8,7,6,5,4,3,2,1,0]) ?_ (fun zyJ=>?_)))
 rotate_left
 ·rcases Bool.eq_false_or_eq_true (((decide (z12.fD ≥ 1)) && (decide (z12.fD ≤ 1073741824))) && (decide (z12.fN ≥ (-1073741824)))) with hb' | hb'
  ·have zqM:=hb'; clear hb'
   refine WD.pin (i:=16) rfl zqM (WD.pA 14 17 rfl (fun _=>ya y2a rfl rfl) (WD.qA 15 18 rfl (yc yw rfl (yj .here rfl)) (WD.pA 16 19 rfl (fun _=>q_leq rfl rfl) (WD.pA 17 20 rfl (fun _=>y3C rfl rfl) (WD.reL (.cons .here .nil) ?_ zyJ)))))
   exact (.cons rfl (.cons rfl (.cons (zB (Eq.symm zqM)) (.cons (zB (y2U zqM)) .nil))))
  ·have zqN:=hb'; clear hb'
   refine WD.pin (i:=16) rfl zqN (WD.kA 14 17 rfl (WD.kA 15 18 rfl (WD.kA 16 19 rfl (WD.pA 17 20 rfl (fun _=>y3D rfl rfl) (WD.reL (.cons .here .nil) ?_ zyJ)))))
   exact (.cons rfl (.cons rfl (.cons (zB (Eq.symm zqN)) (.cons (zB (y2T zqN)) .nil))))
 refine WD.d #[true,true,true,true,true,true,true,true,true,true,true,true,true,true,true,true,true,true,false,false,false,false,false,false,false,false,false,false,false] (by kernel_rfl) (WD.pA 18 21 rfl (fun _=>q_m rfl) (WD.mid (fuel':=1) [(2,(.bool false)),(21,(.bool ((((decide (z12.fD ≥ 1)) && (decide (z12.fD ≤ 1073741824))) && (decide (z12.fN ≥ (-1073741824)))) && (decide (z12.fN ≤ 1073741824))))),(30,(.bool zqG))] (y4c 29 [27,26,25,24,23,22,21,20,19,18,17,16,15,14,13,12,11,10,9,8,7,6,5,4,3,2,1,0]) ?_ (fun zyK=>?_)))
 rotate_left
 ·rcases Bool.eq_false_or_eq_true ((((decide (z12.fD ≥ 1)) && (decide (z12.fD ≤ 1073741824))) && (decide (z12.fN ≥ (-1073741824)))) && (decide (z12.fN ≤ 1073741824))) with hb' | hb'
  ·have zqO:=hb'; clear hb'
   have z9d:=yo zyG zqO
   obtain ⟨zyD,zHn,z9d⟩:=z7 z9d
   obtain ⟨zyE,zHo,z9d⟩:=z7 z9d
   obtain ⟨zyF,zHp,z9d⟩:=z7 z9d
   replace z9d:=Option.some.inj z9d
   refine WD.pin (i:=21) rfl zqO (WD.pA 19 22 rfl (fun _=>ya y2a rfl rfl) (WD.qA 20 23 rfl (yc yw rfl (yj .here rfl)) (WD.eA 21 24 rfl (z8 Tryz.call112 (.cons rfl .nil)) (cc hz .nil fun w pz ho=>y8v _ _ _ zHn w pz ) (WD.pA 22 25 rfl (fun _=>ya y2w rfl rfl) (WD.qA 23 26 rfl (yc yw rfl (yj .here rfl)) (WD.eA 24 27 rfl (z8 Tryz.call112 (.cons rfl .nil)) (cc hz .nil fun w pz ho=>y8v _ _ _ zHo w pz ) (WD.eA 25 28 rfl (z8 Tryz.call111 (.r2 rfl rfl)) (cc hz .nil fun w pz ho=>y8T _ _ _ _ zHp w pz ) (WD.pA 26 29 rfl (fun _=>y9P rfl rfl) (WD.pA 27 30 rfl (fun _=>y3C rfl rfl) (WD.reL (.cons .here .nil) ?_ zyK))))))))))
   exact (.cons rfl (.cons (zB (Eq.symm zqO)) (.cons (zB z9d) .nil)))
  ·have zqP:=hb'; clear hb'
   have zqQ:=yp zyG zqP
   replace zqQ:=Option.some.inj zqQ
   refine WD.pin (i:=21) rfl zqP (WD.kA 19 22 rfl (WD.kA 20 23 rfl (WD.kA 21 24 rfl (WD.kA 22 25 rfl (WD.kA 23 26 rfl (WD.kA 24 27 rfl (WD.kA 25 28 rfl (WD.kA 26 29 rfl (WD.pA 27 30 rfl (fun _=>y3D rfl rfl) (WD.reL (.cons .here .nil) ?_ zyK))))))))))
   exact (.cons rfl (.cons (zB (Eq.symm zqP)) (.cons (zB zqQ) .nil)))
 refine WD.d #[true,true,true,true,true,true,true,true,true,true,true,true,true,true,true,true,true,true,true,true,true,true,true,true,true,true,true,true,false] (by kernel_rfl) (WD.pA 28 2 rfl (fun _=>q_z rfl) (WD.done (by kernel_rfl) (WX.a (WC.ret ?_))))
 obtain rfl:=Option.some.inj h
 refine WX.ye Tryz.results80 (.tmp rfl .nil) (fun w hw=>?_)
 exact ⟨yC rfl,hw.sub .nil⟩
def y8w (zfA : z2) (zfB : z2) : Option (Int × Int) :=
 some ((i64 (zfA.fN * zfB.fN)),(i64 (zfA.fD * zfB.fD)))
theorem yfo (Z : Zp) (zyL : Addr) (zyM : Addr) (zfA : z2) (zfB : z2) (r : Int × Int)
  (h : y8w zfA zfB = some r) (w₀ : World) (hz : PZ [] w₀ Z)
  (zyN : ZC Z zyL [(.int .i64 zfA.fN),(.int .i64 zfA.fD)])
  (zyO : ZC Z zyM [(.int .i64 zfB.fN),(.int .i64 zfB.fD)]) :
  Calls Tryz.prog 143 #[(.pointer (some zyL)),(.pointer (some zyM))] w₀ fun e w'=>e = .returned (.tuple #[(.int .i64 r.1),(.int .i64 r.2)]) ∧ Hp [] w₀ w' []:=by
 unfold y8w at h
 refine Calls.yI Tryz.func143 Tryz.ntmps143 ?_
 refine WC.b (WC.a (WL.pu rfl (WL.pu rfl (WL.nil (WX.a (WC.b (WC.yP (fun i=>[].contains i) [] rfl (WD.pA 0 4 rfl (fun _=>ya y2a rfl rfl) (WD.qA 1 5 rfl (yc yw rfl (y1e hz.pv zyN rfl)) (WD.pA 2 6 rfl (fun _=>ya y2a rfl rfl) (WD.qA 3 7 rfl (yc yw rfl (y1e hz.pv zyO rfl)) (WD.pA 4 8 rfl (fun _=>y6B rfl rfl rfl) (WD.pA 5 9 rfl (fun _=>ya y2w rfl rfl) (WD.qA 6 10 rfl (yc yw rfl (y1e hz.pv zyN rfl)) (WD.pA 7 11 rfl (fun _=>ya y2w rfl rfl) (WD.qA 8 12 rfl (yc yw rfl (y1e hz.pv zyO rfl)) (WD.pA 9 13 rfl (fun _=>y6B rfl rfl rfl) (WD.pA 10 2 rfl (fun _=>q_z rfl) (WD.pA 11 3 rfl (fun _=>q_z rfl) (WD.done (by kernel_rfl) (WX.a (WC.ret ?_))))))))))))))))))))))
 obtain rfl:=Option.some.inj h
 refine WX.ye Tryz.results143 (.tmp rfl (.tmp rfl .nil)) (fun w hw=>?_)
 exact ⟨y1U rfl rfl,hw.sub .nil⟩
def y8U (zaZ : z2) (zb0 : z2) : Option (z2 × Int) :=
 (y1H zaZ).bind fun zyP=>(if !zyP then some true else (y1H zb0).bind fun zyQ=>some (!zyQ)).bind fun zlv=>if zlv then some ((⟨0,0⟩ : z2),2) else (y8w zaZ zb0).bind fun zqR=>(y4J zqR.1 zqR.2).bind fun zqS=>some (zqS.1,zqS.2)
theorem w_rat_do (Z : Zp)  (zaZ : z2) (zb0 : z2) (r : z2 × Int)
  (h : y8U zaZ zb0 = some r) (w₀ : World) (hz : PZ [] w₀ Z) :
  Calls Tryz.prog 105 #[(.string ⟨#[42]⟩),(.agg #[(.int .i64 zaZ.fN),(.int .i64 zaZ.fD)]),(.agg #[(.int .i64 zb0.fN),(.int .i64 zb0.fD)])] w₀ fun e w'=>e = .returned (.tuple #[(.agg #[(.int .i64 r.1.fN),(.int .i64 r.1.fD)]),(.int .i64 r.2)]) ∧ Hp [] w₀ w' []:=by
 unfold y8U at h
 refine Calls.on3 Tryz.func105 Tryz.ntmps105 ?_
 refine WC.b (WC.a (WL.nA 4 (yH (cs:=[(.int .i64 zaZ.fN),(.int .i64 zaZ.fD)]) rfl rfl) ?_))
 intro ziJ _
 refine WL.nA 5 (yH (cs:=[(.int .i64 zb0.fN),(.int .i64 zb0.fD)]) rfl rfl) ?_
 intro ziK _
 refine WL.nA 6 (yx (cs:=[(.int .i64 0),(.int .i64 0)]) zH rfl) ?_
 intro zTm _
 refine WL.pu rfl (WL.nil (WX.a (WC.b (WC.b ?_))))
 obtain ⟨zyP,zHq,h⟩:=z7 h
 obtain ⟨zlv,zyR,h⟩:=z7 h
 refine WC.a (WL.qA 9 (yf zb rfl (yh .h2) rfl) (WL.cA 10 (z8 Tryz.call80 (.cons rfl .nil)) .nil (cc hz .nil fun w pz ho=>y2j _ _ _ zHq w pz ) (WL.pu rfl (WL.pu rfl (WL.seg false 3 12 (B:=zlv) rfl rfl rfl rfl rfl rfl (fun h=>(Option.some.inj (yo zyR h)).symm) (fun _ zHr=>?_) ?_)))))
 ·skip
  have ziL:=yp zyR zHr
  obtain ⟨zyQ,zHs,ziL⟩:=z7 ziL
  replace ziL:=Option.some.inj ziL
  refine WL.qA 13 (yf zb rfl (yh .h1) rfl) (WL.cA 14 (z8 Tryz.call80 (.cons rfl .nil)) .nil (cc hz .nil fun w pz ho=>y2j _ _ _ zHs w pz ) (WL.pu rfl (WL.pu rfl ?_)))
  exact WL.yB ziL rfl rfl .all
 refine WL.pu rfl (WL.seg false 7 17 (B:=zlv) rfl rfl rfl rfl rfl rfl (fun h=>h) (fun _ zHt=>?_) ?_)
 ·skip
  refine WL.pu rfl (WL.qA 19 (yb6 (r:=false) (by decide) rfl rfl) (WL.pu rfl (WL.e rfl rfl rfl (WL.e rfl rfl rfl (WL.e rfl rfl rfl (WL.pu rfl (WL.pu rfl ?_)))))))
  exact WL.yB (Eq.symm zHt) rfl rfl .all
 refine WL.nil (WX.a (WC.cond rfl (fun zqT=>?_) (fun zqT=>?_)))
 ·replace h:=yo h zqT
  refine WC.b (WC.a (WL.qA 26 (yL (v:=(.agg #[(.int .i64 0),(.int .i64 0)])) (Eos.parts (l:=[]) .nil []) (fun _=>by kernel_rfl)) (WL.yl rfl rfl (yk zq rfl rfl rfl .here rfl rfl rfl) (WL.pu rfl (WL.nil (WX.a (WC.ret (WX.yd ?_))))))))
  obtain rfl:=Option.some.inj h
  refine WX.ye Tryz.results105 (.agg rfl zb rfl (yh .here) (.tmp rfl .nil)) (fun w hw=>?_)
  exact ⟨y1U rfl rfl,hw.sub .nil⟩
 ·replace h:=yp h zqT
  refine WC.skip (WX.a (WC.b (WC.a (WL.nA 27 (y4j Value.string (fun x=>x)) ?_))))
  intro zTn _
  refine WL.qA 28 (y18 (Eos.caps (l:=[.tmp 4,.tmp 5]) (.r2 rfl rfl))) (WL.yl rfl rfl (y3m (k:=⟨#[43]⟩) (v:=(.func (.func 141) #[] #[(.pointer (some ⟨ziJ,0,none⟩)),(.pointer (some ⟨ziK,0,none⟩))])) y3I Tryz.underlying258 rfl rfl rfl rfl .here) (WL.qA 29 (y18 (Eos.caps (l:=[.tmp 4,.tmp 5]) (.r2 rfl rfl))) (WL.yl rfl rfl (y3m (k:=⟨#[45]⟩) (v:=(.func (.func 142) #[] #[(.pointer (some ⟨ziJ,0,none⟩)),(.pointer (some ⟨ziK,0,none⟩))])) y3I Tryz.underlying258 rfl rfl rfl rfl .here) (WL.qA 30 (y18 (Eos.caps (l:=[.tmp 4,.tmp 5]) (.r2 rfl rfl))) (WL.yl rfl rfl (y3m (k:=⟨#[42]⟩) (v:=(.func (.func 143) #[] #[(.pointer (some ⟨ziJ,0,none⟩)),(.pointer (some ⟨ziK,0,none⟩))])) y3I Tryz.underlying258 rfl rfl rfl rfl .here) (WL.qA 31 (y18 (Eos.caps (l:=[.tmp 4,.tmp 5]) (.r2 rfl rfl))) (WL.yl rfl rfl (y3m (k:=⟨#[47]⟩) (v:=(.func (.func 144) #[] #[(.pointer (some ⟨ziJ,0,none⟩)),(.pointer (some ⟨ziK,0,none⟩))])) y3I Tryz.underlying258 rfl rfl rfl rfl .here) (WL.pu rfl (WL.pu rfl (WL.nil (WX.a (WC.b ?_))))))))))))
  obtain ⟨zqR,zHu,h⟩:=z7 h
  obtain ⟨zqS,zHv,h⟩:=z7 h
  refine WC.a (WL.pu rfl (WL.pu rfl (WL.qA 35 (yb5 (k:=⟨#[42]⟩) (dflt:=.nilFunc) (r:=(.func (.func 143) #[] #[(.pointer (some ⟨ziJ,0,none⟩)),(.pointer (some ⟨ziK,0,none⟩))])) y3I Tryz.underlying258 zkJ rfl rfl rfl .here (by rfl)) (WL.cA 36 (y2q (l:=[]) Tryz.call143 rfl .nil) .nil (ccl hz .nil (.s2 .h3 .h2) fun w pz ho la=>yfo _ _ _ _ _ _ zHu w pz ((la _ (.head _) _).stb) ((la _ (.tail _ (.head _)) _).stb)) (WL.pu rfl (WL.pu rfl (WL.cA 39 (z8 Tryz.call106 (.r2 rfl rfl)) .nil (cc hz .nil fun w pz ho=>y7F _ _ _ _ zHv w pz ) (WL.pu rfl (WL.pu rfl (WL.yl rfl rfl (yk zq rfl rfl rfl .h1 rfl rfl rfl) (WL.pu rfl (WL.nil (WX.a (WC.ret ?_))))))))))))))
  obtain rfl:=Option.some.inj h
  refine WX.ye Tryz.results105 (.agg rfl zb rfl (yh .here) (.tmp rfl .nil)) (fun w hw=>?_)
  exact ⟨y1U rfl rfl,hw.sub .nil⟩
def y3a (zdl : z2) (zdm : z2) : Option (z2 × Int) :=
 (y8U zdl zdm).bind fun zqU=>some (zqU.1,zqU.2)
theorem yaP (Z : Zp)  (zdl : z2) (zdm : z2) (r : z2 × Int)
  (h : y3a zdl zdm = some r) (w₀ : World) (hz : PZ [] w₀ Z) :
  Calls Tryz.prog 70 #[(.agg #[(.int .i64 zdl.fN),(.int .i64 zdl.fD)]),(.agg #[(.int .i64 zdm.fN),(.int .i64 zdm.fD)])] w₀ fun e w'=>e = .returned (.tuple #[(.agg #[(.int .i64 r.1.fN),(.int .i64 r.1.fD)]),(.int .i64 r.2)]) ∧ Hp [] w₀ w' []:=by
 unfold y3a at h
 refine Calls.yI Tryz.func70 Tryz.ntmps70 ?_
 refine WC.b (WC.a (WL.nA 2 (yH (cs:=[(.int .i64 zdl.fN),(.int .i64 zdl.fD)]) rfl rfl) ?_))
 intro zTo _
 refine WL.nA 3 (yH (cs:=[(.int .i64 zdm.fN),(.int .i64 zdm.fD)]) rfl rfl) ?_
 intro zTp _
 refine WL.nA 4 (yx (cs:=[(.int .i64 0),(.int .i64 0)]) zH rfl) ?_
 intro zTq _
 refine WL.pu rfl (WL.nil (WX.a (WC.b ?_)))
 obtain ⟨zqU,zHw,h⟩:=z7 h
 refine WC.a (WL.qA 6 (yf zb rfl (yh .h2) rfl) (WL.qA 7 (yf zb rfl (yh .h1) rfl) (WL.cA 8 (z8 Tryz.call105 (.r3 rfl rfl rfl)) .nil (cc hz .nil fun w pz ho=>w_rat_do _ _ _ _ zHw w pz ) (WL.pu rfl (WL.pu rfl (WL.yl rfl rfl (yk zq rfl rfl rfl .here rfl rfl rfl) (WL.pu rfl (WL.nil (WX.a (WC.ret ?_))))))))))
 obtain rfl:=Option.some.inj h
 refine WX.ye Tryz.results70 (.agg rfl zb rfl (yh .here) (.tmp rfl .nil)) (fun w hw=>?_)
 exact ⟨y1U rfl rfl,hw.sub .nil⟩
def y3u (zw : Sapi_Config) (z7I : List (List Sapi_Hop)) (zb1 : List (Sbound_flow × z2)) (zb2 : List (Sbound_place × Int)) (z9e : Int) (zb3 : z2 → z2 → Option (z2 × Int)) (zb4 : z2) (zb5 : z2) : Option (z2 × Int) :=
 (zb3 zb4 zb5).bind fun z7J=>jp1 (fun (z9f : Int)=>if decide (z7J.2 ≠ 0) then (y2c 0).bind fun zyS=>some (zyS,z9f) else some (z7J.1,z9f)) fun zlw=>if decide (z9e = 0) then zlw z7J.2 else zlw z9e
theorem y6k (Z : Zp) (zdn : Nat) (zb6 : Option Addr) (zb7 : Nat) (zb8 : Option Addr) (zb9 : Nat) (zba : Option Addr) (zbb : Nat) (zbc : Option Addr) (zbd : Nat) (zbe : Option Addr) (zbf : Nat) (zbg : Option Addr) (zbh : Nat) (zbi : Option Addr) (zbj : Nat) (zbk : Option Addr) (zbl : Nat) (zbm : Option Addr) (zbn : Nat) (z5S : Nat) (z5T : Nat) (z9g : FuncId) (zdo : List Value) (zw : Sapi_Config) (z7I : List (List Sapi_Hop)) (zb1 : List (Sbound_flow × z2)) (zb2 : List (Sbound_place × Int)) (z9e : Int) (zb3 : z2 → z2 → Option (z2 × Int)) (zb4 : z2) (zb5 : z2) (r : z2 × Int)
  (h : y3u zw z7I zb1 zb2 z9e zb3 zb4 zb5 = some r) (w₀ : World) (hz : PZ (fps [stb zdn 95 [(.slice zb6 zw.fModules.length zb7),(.slice zb8 zw.fChannels.length zb9),(.slice zba zw.fSwitches.length zbb),(.slice zbc zw.fLinks.length zbd),(.slice zbe zw.fVLs.length zbf),(.slice zbg zw.fHealth.length zbh),(.slice zbi zw.fCauses.length zbj),(.slice zbk zw.fVersions.length zbl),(.slice zbm z7I.length zbn),(.map (some z5S)),(.map (some z5T)),(.int .i64 z9e)],yy z5S (fun x=>Value.agg (y2e x).toArray) (fun x=>Value.agg (yu x).toArray) zb1,yy z5T (fun x=>Value.agg (e97 x).toArray) (Value.int .i64) zb2]) w₀ Z)
  (zTr : ZS Z 4 (y48 Z) zb6 zb7 zw.fModules)
  (zTs : ZS Z 4 (y4H Z) zb8 zb9 zw.fChannels)
  (zTt : ZS Z 4 (fun r x=>r = e66 x) zba zbb zw.fSwitches)
  (zTu : ZS Z 4 (fun r x=>r = e64 x) zbc zbd zw.fLinks)
  (zTv : ZS Z 7 (p46 Z) zbe zbf zw.fVLs)
  (zTw : ZS Z 5 (fun r x=>r = y4U x) zbg zbh zw.fHealth)
  (zTx : ZS Z 3 (y4I Z) zbi zbj zw.fCauses)
  (zTy : ZS Z 4 (fun r x=>r = y4V x) zbk zbl zw.fVersions)
  (zTz : ZS Z 1 (p48 Z) zbm zbn z7I)
  (zHx : ∀ args w,(callFunc z9g args).run Tryz.prog w = .ok (.enter z9g args) w)
  (zHy : ∀ w : World,PZ [] w Z → ∀ (x0 : z2) (x1 : z2) (r : z2 × Int),zb3 x0 x1 = some r → Calls Tryz.prog z9g (([(.agg #[(.int .i64 x0.fN),(.int .i64 x0.fD)]),(.agg #[(.int .i64 x1.fN),(.int .i64 x1.fD)])] : List Value) ++ zdo).toArray w fun e w'=>e = .returned (.tuple #[(.agg #[(.int .i64 r.1.fN),(.int .i64 r.1.fD)]),(.int .i64 r.2)]) ∧ Hp [] w w' [])
  (hown : Hp (fps [stb zdn 95 [(.slice zb6 zw.fModules.length zb7),(.slice zb8 zw.fChannels.length zb9),(.slice zba zw.fSwitches.length zbb),(.slice zbc zw.fLinks.length zbd),(.slice zbe zw.fVLs.length zbf),(.slice zbg zw.fHealth.length zbh),(.slice zbi zw.fCauses.length zbj),(.slice zbk zw.fVersions.length zbl),(.slice zbm z7I.length zbn),(.map (some z5S)),(.map (some z5T)),(.int .i64 z9e)],yy z5S (fun x=>Value.agg (y2e x).toArray) (fun x=>Value.agg (yu x).toArray) zb1,yy z5T (fun x=>Value.agg (e97 x).toArray) (Value.int .i64) zb2]) w₀ w₀ [stb zdn 95 [(.slice zb6 zw.fModules.length zb7),(.slice zb8 zw.fChannels.length zb9),(.slice zba zw.fSwitches.length zbb),(.slice zbc zw.fLinks.length zbd),(.slice zbe zw.fVLs.length zbf),(.slice zbg zw.fHealth.length zbh),(.slice zbi zw.fCauses.length zbj),(.slice zbk zw.fVersions.length zbl),(.slice zbm z7I.length zbn),(.map (some z5S)),(.map (some z5T)),(.int .i64 z9e)],yy z5S (fun x=>Value.agg (y2e x).toArray) (fun x=>Value.agg (yu x).toArray) zb1,yy z5T (fun x=>Value.agg (e97 x).toArray) (Value.int .i64) zb2]) :
  Calls Tryz.prog 68 #[(.pointer (some ⟨zdn,0,none⟩)),(.func (.func z9g) #[] (zdo).toArray),(.agg #[(.int .i64 zb4.fN),(.int .i64 zb4.fD)]),(.agg #[(.int .i64 zb5.fN),(.int .i64 zb5.fD)])] w₀ fun e w'=>e = .returned (.agg #[(.int .i64 r.1.fN),(.int .i64 r.1.fD)]) ∧ Hp (fps [stb zdn 95 [(.slice zb6 zw.fModules.length zb7),(.slice zb8 zw.fChannels.length zb9),(.slice zba zw.fSwitches.length zbb),(.slice zbc zw.fLinks.length zbd),(.slice zbe zw.fVLs.length zbf),(.slice zbg zw.fHealth.length zbh),(.slice zbi zw.fCauses.length zbj),(.slice zbk zw.fVersions.length zbl),(.slice zbm z7I.length zbn),(.map (some z5S)),(.map (some z5T)),(.int .i64 z9e)],yy z5S (fun x=>Value.agg (y2e x).toArray) (fun x=>Value.agg (yu x).toArray) zb1,yy z5T (fun x=>Value.agg (e97 x).toArray) (Value.int .i64) zb2]) w₀ w' [stb zdn 95 [(.slice zb6 zw.fModules.length zb7),(.slice zb8 zw.fChannels.length zb9),(.slice zba zw.fSwitches.length zbb),(.slice zbc zw.fLinks.length zbd),(.slice zbe zw.fVLs.length zbf),(.slice zbg zw.fHealth.length zbh),(.slice zbi zw.fCauses.length zbj),(.slice zbk zw.fVersions.length zbl),(.slice zbm z7I.length zbn),(.map (some z5S)),(.map (some z5T)),(.int .i64 r.2)],yy z5S (fun x=>Value.agg (y2e x).toArray) (fun x=>Value.agg (yu x).toArray) zb1,yy z5T (fun x=>Value.agg (e97 x).toArray) (Value.int .i64) zb2]:=by
 unfold y3u at h
 refine Calls.oh4 Tryz.func68 Tryz.ntmps68 hown ?_
 refine WC.b (WC.a (WL.nA 6 (yH (cs:=[(.int .i64 zb4.fN),(.int .i64 zb4.fD)]) rfl rfl) ?_))
 intro zTA _
 refine WL.nA 7 (yH (cs:=[(.int .i64 zb5.fN),(.int .i64 zb5.fD)]) rfl rfl) ?_
 intro zTB _
 refine WL.nA 8 (yx (cs:=[(.int .i64 0),(.int .i64 0)]) zH rfl) ?_
 intro zyT _
 refine WL.nil (WX.a (WC.b ?_))
 obtain ⟨z7J,zHz,h⟩:=z7 h
 refine WC.a (WL.pu rfl (WL.qA 13 (yf zb rfl (yh .h2) rfl) (WL.qA 14 (yf zb rfl (yh .h1) rfl) (WL.cA 15 (y2q (l:=[.tmp 13,.tmp 14]) (f:=z9g) (caps:=zdo) zHx rfl (.r2 rfl rfl)) .nil (fun w hw=>zHy w (hz.now hw) zb4 zb5 z7J  zHz) (WL.pu rfl (WL.pu rfl (WL.pu rfl (WL.nA 9 (yx (cs:=[(.int .i64 0),(.int .i64 0)]) zH rfl) ?_))))))))
 intro zyU _
 refine WL.yl rfl rfl (yk zq rfl rfl rfl .here rfl rfl rfl) (WL.pu rfl (WL.nil (WX.a ?_)))
 obtain ⟨zlw,zHA,h⟩:=y14 h
 refine WC.y3z (fun (z9f : Int)=>(zlw z9f = some r)) (fun z9f=>[(8,(.pointer (some ⟨zyT,0,none⟩))),(9,(.pointer (some ⟨zyU,0,none⟩))),(10,(.int .i64 z7J.2))]) (fun z9f=>[stb zyT 132 [(.int .i64 0),(.int .i64 0)],stb zyU 132 [(.int .i64 z7J.1.fN),(.int .i64 z7J.1.fD)],stb zdn 95 [(.slice zb6 zw.fModules.length zb7),(.slice zb8 zw.fChannels.length zb9),(.slice zba zw.fSwitches.length zbb),(.slice zbc zw.fLinks.length zbd),(.slice zbe zw.fVLs.length zbf),(.slice zbg zw.fHealth.length zbh),(.slice zbi zw.fCauses.length zbj),(.slice zbk zw.fVersions.length zbl),(.slice zbm z7I.length zbn),(.map (some z5S)),(.map (some z5T)),(.int .i64 z9f)],yy z5S (fun x=>Value.agg (y2e x).toArray) (fun x=>Value.agg (yu x).toArray) zb1,yy z5T (fun x=>Value.agg (e97 x).toArray) (Value.int .i64) zb2]) ?_ ?_
 ·skip
  refine WC.b (WC.a (WL.pu rfl (WL.qA 19 (y11 rfl) (WL.qA 20 (ya y8K rfl rfl) (WL.qA 21 (yc y2Y rfl (yj .h4 rfl)) (WL.pu rfl (WL.nil (WX.a (WC.cond rfl (fun zqV=>?_) (fun zqV=>?_))))))))))
  ·replace h:=yo h zqV
   refine WC.a (WL.pu rfl (WL.pu rfl (WL.qA 25 (y11 rfl) (WL.qA 26 (ya y8K rfl rfl) (WL.yl rfl rfl (y5T (ds:=[(.slice zb6 zw.fModules.length zb7),(.slice zb8 zw.fChannels.length zb9),(.slice zba zw.fSwitches.length zbb),(.slice zbc zw.fLinks.length zbd),(.slice zbe zw.fVLs.length zbf),(.slice zbg zw.fHealth.length zbh),(.slice zbi zw.fCauses.length zbj),(.slice zbk zw.fVersions.length zbl),(.slice zbm z7I.length zbn),(.map (some z5S)),(.map (some z5T)),(.int .i64 z7J.2)]) y9A rfl rfl rfl rfl rfl .h4 rfl rfl) (WL.nil ?_))))))
   exact WX.mid z7J.2 h (.r3 rfl rfl rfl) (.s5 .h2 .h1 .here .h2 .h2)
  ·replace h:=yp h zqV
   refine WC.skip ?_
   exact WX.mid z9e h (.r3 rfl rfl rfl) (.s5 .h1 .here .h2 .h2 .h2)
 ·rintro z9f h
  replace h:=(zHA z9f).symm.trans h
  refine WC.b (WC.b (WC.a (WL.pu rfl (WL.pu rfl (WL.nil (WX.a (WC.cond rfl (fun zqW=>?_) (fun zqW=>?_))))))))
  ·replace h:=yo h zqW
   refine WC.b ?_
   obtain ⟨zyS,zHB,h⟩:=z7 h
   refine WC.a (WL.cA 29 (z8 Tryz.call43 (.cons rfl .nil)) .nil (cc hz .nil fun w pz ho=>y4x _ _ _ zHB w pz ) (WL.yl rfl rfl (yk zq rfl rfl rfl .here rfl rfl rfl) (WL.nil (WX.a (WC.ret (WX.yd ?_))))))
   obtain rfl:=Option.some.inj h
   refine WX.ye Tryz.results68 (.agg rfl zb rfl (yh .here) .nil) (fun w hw=>?_)
   exact ⟨yC rfl,hw.sub (.s3 .h2 .h2 .h2)⟩
  ·replace h:=yp h zqW
   refine WC.skip (WX.a (WC.b (WC.a (WL.qA 30 (yf zb rfl (yh .h1) rfl) (WL.yl rfl rfl (yk zq rfl rfl rfl .here rfl rfl rfl) (WL.nil (WX.a (WC.ret ?_))))))))
   obtain rfl:=Option.some.inj h
   refine WX.ye Tryz.results68 (.agg rfl zb rfl (yh .here) .nil) (fun w hw=>?_)
   exact ⟨yC rfl,hw.sub (.s3 .h2 .h2 .h2)⟩
def y8x (zdp : z2) (zdq : z2) : Option (Int × Int) :=
 some ((i64 ((i64 (zdp.fN * zdq.fD)) + (i64 (zdq.fN * zdp.fD)))),(i64 (zdp.fD * zdq.fD)))
theorem yfp (Z : Zp) (zyV : Addr) (zyW : Addr) (zdp : z2) (zdq : z2) (r : Int × Int)
  (h : y8x zdp zdq = some r) (w₀ : World) (hz : PZ [] w₀ Z)
  (zqX : ZC Z zyV [(.int .i64 zdp.fN),(.int .i64 zdp.fD)])
  (zqY : ZC Z zyW [(.int .i64 zdq.fN),(.int .i64 zdq.fD)]) :
  Calls Tryz.prog 141 #[(.pointer (some zyV)),(.pointer (some zyW))] w₀ fun e w'=>e = .returned (.tuple #[(.int .i64 r.1),(.int .i64 r.2)]) ∧ Hp [] w₀ w' []:=by
 unfold y8x at h
 refine Calls.yI Tryz.func141 Tryz.ntmps141 ?_
 refine WC.b (WC.a (WL.pu rfl (WL.pu rfl (WL.nil (WX.a (WC.b (WC.yP (fun i=>[].contains i) [] rfl (WD.pA 0 4 rfl (fun _=>ya y2a rfl rfl) (WD.qA 1 5 rfl (yc yw rfl (y1e hz.pv zqX rfl)) (WD.pA 2 6 rfl (fun _=>ya y2w rfl rfl) (WD.qA 3 7 rfl (yc yw rfl (y1e hz.pv zqY rfl)) (WD.pA 4 8 rfl (fun _=>y6B rfl rfl rfl) (WD.pA 5 9 rfl (fun _=>ya y2a rfl rfl) (WD.qA 6 10 rfl (yc yw rfl (y1e hz.pv zqY rfl)) (WD.pA 7 11 rfl (fun _=>ya y2w rfl rfl) (WD.qA 8 12 rfl (yc yw rfl (y1e hz.pv zqX rfl)) (WD.pA 9 13 rfl (fun _=>y6B rfl rfl rfl) (WD.pA 10 14 rfl (fun _=>ybX rfl rfl rfl) (WD.pA 11 15 rfl (fun _=>ya y2w rfl rfl) (WD.qA 12 16 rfl (yc yw rfl (y1e hz.pv zqX rfl)) (WD.pA 13 17 rfl (fun _=>ya y2w rfl rfl) (WD.qA 14 18 rfl (yc yw rfl (y1e hz.pv zqY rfl)) (WD.pA 15 19 rfl (fun _=>y6B rfl rfl rfl) (WD.pA 16 2 rfl (fun _=>q_z rfl) (WD.pA 17 3 rfl (fun _=>q_z rfl) (WD.done (by kernel_rfl) (WX.a (WC.ret ?_))))))))))))))))))))))))))))
 obtain rfl:=Option.some.inj h
 refine WX.ye Tryz.results141 (.tmp rfl (.tmp rfl .nil)) (fun w hw=>?_)
 exact ⟨y1U rfl rfl,hw.sub .nil⟩
def y8a (zbo : z2) (zbp : z2) : Option (z2 × Int) :=
 (y1H zbo).bind fun zyX=>(if !zyX then some true else (y1H zbp).bind fun zyY=>some (!zyY)).bind fun zlx=>if zlx then some ((⟨0,0⟩ : z2),2) else (y8x zbo zbp).bind fun zqZ=>(y4J zqZ.1 zqZ.2).bind fun zr0=>some (zr0.1,zr0.2)
theorem yfV (Z : Zp)  (zbo : z2) (zbp : z2) (r : z2 × Int)
  (h : y8a zbo zbp = some r) (w₀ : World) (hz : PZ [] w₀ Z) :
  Calls Tryz.prog 105 #[(.string ⟨#[43]⟩),(.agg #[(.int .i64 zbo.fN),(.int .i64 zbo.fD)]),(.agg #[(.int .i64 zbp.fN),(.int .i64 zbp.fD)])] w₀ fun e w'=>e = .returned (.tuple #[(.agg #[(.int .i64 r.1.fN),(.int .i64 r.1.fD)]),(.int .i64 r.2)]) ∧ Hp [] w₀ w' []:=by
 unfold y8a at h
 refine Calls.on3 Tryz.func105 Tryz.ntmps105 ?_
 refine WC.b (WC.a (WL.nA 4 (yH (cs:=[(.int .i64 zbo.fN),(.int .i64 zbo.fD)]) rfl rfl) ?_))
 intro ziM _
 refine WL.nA 5 (yH (cs:=[(.int .i64 zbp.fN),(.int .i64 zbp.fD)]) rfl rfl) ?_
 intro ziN _
 refine WL.nA 6 (yx (cs:=[(.int .i64 0),(.int .i64 0)]) zH rfl) ?_
 intro zTC _
 refine WL.pu rfl (WL.nil (WX.a (WC.b (WC.b ?_))))
 obtain ⟨zyX,zHC,h⟩:=z7 h
 obtain ⟨zlx,zyZ,h⟩:=z7 h
 refine WC.a (WL.qA 9 (yf zb rfl (yh .h2) rfl) (WL.cA 10 (z8 Tryz.call80 (.cons rfl .nil)) .nil (cc hz .nil fun w pz ho=>y2j _ _ _ zHC w pz ) (WL.pu rfl (WL.pu rfl (WL.seg false 3 12 (B:=zlx) rfl rfl rfl rfl rfl rfl (fun h=>(Option.some.inj (yo zyZ h)).symm) (fun _ zHD=>?_) ?_)))))
 ·skip
  have ziO:=yp zyZ zHD
  obtain ⟨zyY,zHE,ziO⟩:=z7 ziO
  replace ziO:=Option.some.inj ziO
  refine WL.qA 13 (yf zb rfl (yh .h1) rfl) (WL.cA 14 (z8 Tryz.call80 (.cons rfl .nil)) .nil (cc hz .nil fun w pz ho=>y2j _ _ _ zHE w pz ) (WL.pu rfl (WL.pu rfl ?_)))
  exact WL.yB ziO rfl rfl .all
 refine WL.pu rfl (WL.seg false 7 17 (B:=zlx) rfl rfl rfl rfl rfl rfl (fun h=>h) (fun _ zHF=>?_) ?_)
 ·skip
  refine WL.pu rfl (WL.qA 19 (yb6 (r:=false) (by decide) rfl rfl) (WL.pu rfl (WL.e rfl rfl rfl (WL.e rfl rfl rfl (WL.e rfl rfl rfl (WL.pu rfl (WL.pu rfl ?_)))))))
  exact WL.yB (Eq.symm zHF) rfl rfl .all
 refine WL.nil (WX.a (WC.cond rfl (fun zr1=>?_) (fun zr1=>?_)))
 ·replace h:=yo h zr1
  refine WC.b (WC.a (WL.qA 26 (yL (v:=(.agg #[(.int .i64 0),(.int .i64 0)])) (Eos.parts (l:=[]) .nil []) (fun _=>by kernel_rfl)) (WL.yl rfl rfl (yk zq rfl rfl rfl .here rfl rfl rfl) (WL.pu rfl (WL.nil (WX.a (WC.ret (WX.yd ?_))))))))
  obtain rfl:=Option.some.inj h
  refine WX.ye Tryz.results105 (.agg rfl zb rfl (yh .here) (.tmp rfl .nil)) (fun w hw=>?_)
  exact ⟨y1U rfl rfl,hw.sub .nil⟩
 ·replace h:=yp h zr1
  refine WC.skip (WX.a (WC.b (WC.a (WL.nA 27 (y4j Value.string (fun x=>x)) ?_))))
  intro zTD _
  refine WL.qA 28 (y18 (Eos.caps (l:=[.tmp 4,.tmp 5]) (.r2 rfl rfl))) (WL.yl rfl rfl (y3m (k:=⟨#[43]⟩) (v:=(.func (.func 141) #[] #[(.pointer (some ⟨ziM,0,none⟩)),(.pointer (some ⟨ziN,0,none⟩))])) y3I Tryz.underlying258 rfl rfl rfl rfl .here) (WL.qA 29 (y18 (Eos.caps (l:=[.tmp 4,.tmp 5]) (.r2 rfl rfl))) (WL.yl rfl rfl (y3m (k:=⟨#[45]⟩) (v:=(.func (.func 142) #[] #[(.pointer (some ⟨ziM,0,none⟩)),(.pointer (some ⟨ziN,0,none⟩))])) y3I Tryz.underlying258 rfl rfl rfl rfl .here) (WL.qA 30 (y18 (Eos.caps (l:=[.tmp 4,.tmp 5]) (.r2 rfl rfl))) (WL.yl rfl rfl (y3m (k:=⟨#[42]⟩) (v:=(.func (.func 143) #[] #[(.pointer (some ⟨ziM,0,none⟩)),(.pointer (some ⟨ziN,0,none⟩))])) y3I Tryz.underlying258 rfl rfl rfl rfl .here) (WL.qA 31 (y18 (Eos.caps (l:=[.tmp 4,.tmp 5]) (.r2 rfl rfl))) (WL.yl rfl rfl (y3m (k:=⟨#[47]⟩) (v:=(.func (.func 144) #[] #[(.pointer (some ⟨ziM,0,none⟩)),(.pointer (some ⟨ziN,0,none⟩))])) y3I Tryz.underlying258 rfl rfl rfl rfl .here) (WL.pu rfl (WL.pu rfl (WL.nil (WX.a (WC.b ?_))))))))))))
  obtain ⟨zqZ,zHG,h⟩:=z7 h
  obtain ⟨zr0,zHH,h⟩:=z7 h
  refine WC.a (WL.pu rfl (WL.pu rfl (WL.qA 35 (yb5 (k:=⟨#[43]⟩) (dflt:=.nilFunc) (r:=(.func (.func 141) #[] #[(.pointer (some ⟨ziM,0,none⟩)),(.pointer (some ⟨ziN,0,none⟩))])) y3I Tryz.underlying258 zkJ rfl rfl rfl .here (by rfl)) (WL.cA 36 (y2q (l:=[]) Tryz.call141 rfl .nil) .nil (ccl hz .nil (.s2 .h3 .h2) fun w pz ho la=>yfp _ _ _ _ _ _ zHG w pz ((la _ (.head _) _).stb) ((la _ (.tail _ (.head _)) _).stb)) (WL.pu rfl (WL.pu rfl (WL.cA 39 (z8 Tryz.call106 (.r2 rfl rfl)) .nil (cc hz .nil fun w pz ho=>y7F _ _ _ _ zHH w pz ) (WL.pu rfl (WL.pu rfl (WL.yl rfl rfl (yk zq rfl rfl rfl .h1 rfl rfl rfl) (WL.pu rfl (WL.nil (WX.a (WC.ret ?_))))))))))))))
  obtain rfl:=Option.some.inj h
  refine WX.ye Tryz.results105 (.agg rfl zb rfl (yh .here) (.tmp rfl .nil)) (fun w hw=>?_)
  exact ⟨y1U rfl rfl,hw.sub .nil⟩
def y1d (zdr : z2) (zds : z2) : Option (z2 × Int) :=
 (y8a zdr zds).bind fun zr2=>some (zr2.1,zr2.2)
theorem y5S (Z : Zp)  (zdr : z2) (zds : z2) (r : z2 × Int)
  (h : y1d zdr zds = some r) (w₀ : World) (hz : PZ [] w₀ Z) :
  Calls Tryz.prog 69 #[(.agg #[(.int .i64 zdr.fN),(.int .i64 zdr.fD)]),(.agg #[(.int .i64 zds.fN),(.int .i64 zds.fD)])] w₀ fun e w'=>e = .returned (.tuple #[(.agg #[(.int .i64 r.1.fN),(.int .i64 r.1.fD)]),(.int .i64 r.2)]) ∧ Hp [] w₀ w' []:=by
 unfold y1d at h
 refine Calls.yI Tryz.func69 Tryz.ntmps69 ?_
 refine WC.b (WC.a (WL.nA 2 (yH (cs:=[(.int .i64 zdr.fN),(.int .i64 zdr.fD)]) rfl rfl) ?_))
 intro zTE _
 refine WL.nA 3 (yH (cs:=[(.int .i64 zds.fN),(.int .i64 zds.fD)]) rfl rfl) ?_
 intro zTF _
 refine WL.nA 4 (yx (cs:=[(.int .i64 0),(.int .i64 0)]) zH rfl) ?_
 intro zTG _
 refine WL.pu rfl (WL.nil (WX.a (WC.b ?_)))
 obtain ⟨zr2,zHI,h⟩:=z7 h
 refine WC.a (WL.qA 6 (yf zb rfl (yh .h2) rfl) (WL.qA 7 (yf zb rfl (yh .h1) rfl) (WL.cA 8 (z8 Tryz.call105 (.r3 rfl rfl rfl)) .nil (cc hz .nil fun w pz ho=>yfV _ _ _ _ zHI w pz ) (WL.pu rfl (WL.pu rfl (WL.yl rfl rfl (yk zq rfl rfl rfl .here rfl rfl rfl) (WL.pu rfl (WL.nil (WX.a (WC.ret ?_))))))))))
 obtain rfl:=Option.some.inj h
 refine WX.ye Tryz.results69 (.agg rfl zb rfl (yh .here) (.tmp rfl .nil)) (fun w hw=>?_)
 exact ⟨y1U rfl rfl,hw.sub .nil⟩
end Go.Proofs.YtcahmabkeaijdaaGreat

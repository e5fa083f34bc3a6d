/- A part of this claim's proof: models of functions, walks, plain laws. No conditions. -/
import Derived.Test.YtjdnejbngloieaaDoorW26d
namespace Go.Proofs.YtjdnejbngloieaaDoor
open Go Go.RowKit Sep
set_option linter.all false
set_option maxRecDepth 30000
set_option maxHeartbeats 4000000
def y2k (z5k : List Int) : Option Unit :=
 chk ((((([] : List Int) ++ z5k).length : Nat) : Int) * 1 ≤ 140737488355328 ∧ (((([] : List Int) ++ z5k).length : Nat) : Int) ≤ 4611686018427387904) (some ())
set_option maxRecDepth 20000 in
theorem y4g (Z : Zp) (zee : Addr) (zef : Nat) (z5k : List Int) (r : Unit)
  (h : y2k z5k = some r) (w₀ : World) (hz : PZ [] w₀ Z)
  (zw8 : ZS Z 1 (fun r x=>r = e5 x) (some zee) zef z5k) :
  Calls Tryd.prog 37 #[(.slice (some zee) z5k.length zef)] w₀ fun e w'=>∃ zkK : Option Addr,∃ zkL : Nat,e = .returned (.slice zkK ((([] : List Int) ++ z5k).length) zkL) ∧ True ∧ Hp [] w₀ w' [row (.slice zkK ((([] : List Int) ++ z5k).length) zkL) 5 1 ((([] : List Int) ++ z5k).flatMap e5)]:=by
 unfold y2k at h
 refine Calls.y8 (vs:=[(.slice (some zee) z5k.length zef)]) (pre:=[]) (env:=[(0,(.slice (some zee) z5k.length zef))]) Tryd.func37 rfl Tryd.ntmps37 rfl (Hp.nil w₀ _) rfl ?_
 refine WC.b (WC.a (WL.pu rfl (WL.nil (WX.a (WC.b (WC.b (WC.a (WL.pu rfl ?_))))))))
 refine WL.a (d:=4) rfl rfl rfl (y7r Tryd.underlying35 rfl rfl) ?_
 refine WL.nil (WX.a ?_)
 refine WC.cond rfl (fun h'=>(by cases h')) (fun h'=>?_)
 clear h'
 refine WC.skip (WX.a (WC.b ?_))
 obtain ⟨zw9,h⟩:=ya h
 refine WC.a ?_
 refine WL.new (dd:=5) rfl rfl rfl (yx (cs:=([] : List Int).flatMap e5) y1F (Eos.parts (l:=[]) .nil []) (fun _=>by kernel_rfl) rfl (by unfold maxLen; omega)) ?_
 intro zxR _
 refine WL.pu rfl ?_
 refine WL.eff (d:=7) rfl rfl rfl (y3U (enc:=e5) (l1:=([] : List Int)) (l2:=z5k) y1F rfl rfl .here (fun _=>rfl) rfl rfl (news_z hz.pv zw8) (y41 e5_oc _) zw9) ?_
 rintro ⟨zwa,zwb⟩ _
 refine WL.pu rfl (WL.nil (WX.a (WC.ret ?_)))
 skip
 refine WX.yi Tryd.results37 (.tmp rfl .nil) (fun w hw=>?_)
 exact ⟨zwa,zwb,y1a rfl,trivial,hw.sub (.cons .here .nil)⟩
def y36  : Option Unit :=
 some ()
set_option maxRecDepth 20000 in
theorem y3Z (Z : Zp) (zeY : Nat) (r : Unit)
  (h : y36 = some r) (w₀ : World) (hz : PZ [] w₀ Z) :
  Calls Tryd.prog 37 #[(.slice none 0 zeY)] w₀ fun e w'=>e = .returned (.slice none 0 0) ∧ Hp [] w₀ w' []:=by
 unfold y36 at h
 refine Calls.y8 (vs:=[(.slice none 0 zeY)]) (pre:=[]) (env:=[(0,(.slice none 0 zeY))]) Tryd.func37 rfl Tryd.ntmps37 rfl (Hp.nil w₀ _) rfl ?_
 refine WC.b (WC.a (WL.pu rfl (WL.nil (WX.a (WC.b (WC.b (WC.a (WL.pu rfl ?_))))))))
 refine WL.a (d:=4) rfl rfl rfl (y7r Tryd.underlying35 rfl rfl) ?_
 refine WL.nil (WX.a ?_)
 refine WC.cond rfl (fun h'=>?_) (fun h'=>(by cases h'))
 clear h'
 refine WC.b (WC.a (WL.pu rfl (WL.nil (WX.a (WC.ret (WX.yh ?_))))))
 skip
 refine WX.yi Tryd.results37 (.tmp rfl .nil) (fun w hw=>?_)
 exact ⟨y1a rfl,hw.sub .nil⟩
def y2d (l : List Int) : Option (List Int):=chk ((((l).length : Nat) : Int) * 1 ≤ 140737488355328 ∧ (((l).length : Nat) : Int) ≤ 4611686018427387904) (some l)
theorem y40 (Z : Zp) (ao : Option Addr) (cap : Nat) (l : List Int) (r : List Int) (w₀ : World) (hz : PZ [] w₀ Z) (hs : ZS Z 1 (fun r x=>r = e5 x) ao cap l)
  (h : y2d l = some r) : Calls Tryd.prog 37 #[.slice ao l.length cap] w₀ fun e w'=>∃ aor : Option Addr,∃ capr : Nat,e = .returned (.slice aor r.length capr) ∧ True ∧ Hp [] w₀ w' [row (.slice aor r.length capr) 5 1 (r.flatMap e5)]:=by
 obtain ⟨h0,h⟩:=ya h
 obtain rfl:=Option.some.inj h
 cases ao with
 | none =>
  obtain rfl:=hs.noneNil
  refine Calls.mono (y3Z (zeY:=cap) (Z:=Z) (r:=()) (w₀:=w₀) rfl hz) ?_
  rintro e w' ⟨rfl,hh⟩
  exact ⟨none,0,rfl,trivial,hh.nilRow 5 1⟩
 | some A =>
  refine y4g (zee:=A) (zef:=cap) (z5k:=l) (r:=()) (Z:=Z) (w₀:=w₀) ?_ hz hs
  unfold y2k
  simp only [List.nil_append]
  exact if_pos h0
def y2a (z40 : Int) (z4v : List Sapi_Ins) (z9z : (List Int) → Int → Int → Int → Int → Int → Int → Option (Sproc_State × Sproc_Act × List Int × Int)) : Nat → (List Int) → Int → Int → Int → Int → Int → Int → Int → Option (Sproc_State × Sproc_Act × List Int × Int)
 | 0,_,_,_,_,_,_,_,_=>none
 | zh7 + 1,z2J,z4N,z6r,z6s,z6t,z6u,z6v,z6w=>if decide (z4N < (max z40 0)) then jp7 (fun (z7i : List Int) (z9A : Int) (z9B : Int) (z9C : Int) (z9D : Int) (z9E : Int) (z9F : Int)=>y2a z40 z4v z9z zh7 z7i (i64 (z4N + 1)) z9A z9B z9C z9D z9E z9F) fun zeZ=>(y3c z4v (⟨z6r,z6s,(⟨z6t,z6u,z6v,z6w⟩ : S34)⟩ : Sproc_State) z2J).bind fun z16=>if decide (z16.2.fKind = 0) then zeZ z2J z16.1.fPc z16.1.fLeft z16.1.fRegs.a0 z16.1.fRegs.a1 z16.1.fRegs.a2 z16.1.fRegs.a3 else if decide (z16.2.fKind = 1) then chk ((0 : Int) ≤ z16.2.fA ∧ z16.2.fA < ((z2J.length : Nat) : Int)) (zeZ (z2J.set (z16.2.fA : Int).toNat (u8 z16.2.fB)) z16.1.fPc z16.1.fLeft z16.1.fRegs.a0 z16.1.fRegs.a1 z16.1.fRegs.a2 z16.1.fRegs.a3) else some (z16.1,z16.2,z2J,(i64 (z4N + 1))) else z9z z2J z6r z6s z6t z6u z6v z6w
theorem y5U {n : Nat} {z40 : Int} {z4v : List Sapi_Ins} {z9z : (List Int) → Int → Int → Int → Int → Int → Int → Option (Sproc_State × Sproc_Act × List Int × Int)} {z2J : List Int} {z4N : Int} {z6r : Int} {z6s : Int} {z6t : Int} {z6u : Int} {z6v : Int} {z6w : Int} {r : Sproc_State × Sproc_Act × List Int × Int} (h : y2a z40 z4v z9z n z2J z4N z6r z6s z6t z6u z6v z6w = some r) : ∃ m,n = m + 1:=by
 cases n with
 | zero=>cases h
 | succ m=>exact ⟨m,rfl⟩
def y2Y (z4v : List Sapi_Ins) (z1v : Sproc_State) (zbd : List Int) (z40 : Int) : Option (Sproc_State × Sproc_Act × List Int × Int) :=
 (y2d zbd).bind fun zf0=>jp7 (fun (z7Z : List Int) (zbe : Int) (zbf : Int) (zbg : Int) (zbh : Int) (zbi : Int) (zbj : Int)=>some ((⟨zbe,zbf,(⟨zbg,zbh,zbi,zbj⟩ : S34)⟩ : Sproc_State),(⟨0,0,0,([] : List Int)⟩ : Sproc_Act),z7Z,(max z40 0))) fun z9z=>y2a z40 z4v z9z y2g zf0 0 z1v.fPc z1v.fLeft z1v.fRegs.a0 z1v.fRegs.a1 z1v.fRegs.a2 z1v.fRegs.a3
set_option maxRecDepth 20000 in
theorem y5y (Z : Zp) (zdq : Option Addr) (zdr : Nat) (zeg : Option Addr) (zeh : Nat) (z4v : List Sapi_Ins) (z1v : Sproc_State) (zbd : List Int) (z40 : Int) (r : Sproc_State × Sproc_Act × List Int × Int)
  (h : y2Y z4v z1v zbd z40 = some r) (w₀ : World) (hz : PZ [] w₀ Z)
  (hG0 : ZC Z ⟨0,0,none⟩ y60)
  (hG1 : ZS Z 1 (p74 Z) (some ⟨1,0,none⟩) 26 y19)
  (zwc : ZS Z 4 (fun r x=>r = e33 x) zdq zdr z4v)
  (zwd : ZS Z 1 (fun r x=>r = e5 x) zeg zeh zbd) :
  Calls Tryd.prog 21 #[(.slice zdq z4v.length zdr),(.agg #[(.int .i64 z1v.fPc),(.int .i64 z1v.fLeft),(.int .u8 z1v.fRegs.a0),(.int .u8 z1v.fRegs.a1),(.int .u8 z1v.fRegs.a2),(.int .u8 z1v.fRegs.a3)]),(.slice zeg zbd.length zeh),(.int .i64 z40)] w₀ fun e w'=>∃ zkM : Option Addr,∃ zkN : Nat,∃ zkO : Option Addr,∃ zkP : Nat,e = .returned (.tuple #[(.agg #[(.int .i64 r.1.fPc),(.int .i64 r.1.fLeft),(.int .u8 r.1.fRegs.a0),(.int .u8 r.1.fRegs.a1),(.int .u8 r.1.fRegs.a2),(.int .u8 r.1.fRegs.a3)]),(.agg #[(.int .u8 r.2.1.fKind),(.int .i64 r.2.1.fA),(.int .i64 r.2.1.fB),(.slice zkM r.2.1.fData.length zkN)]),(.slice zkO r.2.2.1.length zkP),(.int .i64 r.2.2.2)]) ∧ True ∧ Hp [] w₀ w' [row (.slice zkM r.2.1.fData.length zkN) 5 1 (r.2.1.fData.flatMap e5),row (.slice zkO r.2.2.1.length zkP) 5 1 (r.2.2.1.flatMap e5)]:=by
 unfold y2Y at h
 refine Calls.y8 (vs:=[(.slice zdq z4v.length zdr),(.agg #[(.int .i64 z1v.fPc),(.int .i64 z1v.fLeft),(.int .u8 z1v.fRegs.a0),(.int .u8 z1v.fRegs.a1),(.int .u8 z1v.fRegs.a2),(.int .u8 z1v.fRegs.a3)]),(.slice zeg zbd.length zeh),(.int .i64 z40)]) (pre:=[]) (env:=[(0,(.slice zdq z4v.length zdr)),(1,(.agg #[(.int .i64 z1v.fPc),(.int .i64 z1v.fLeft),(.int .u8 z1v.fRegs.a0),(.int .u8 z1v.fRegs.a1),(.int .u8 z1v.fRegs.a2),(.int .u8 z1v.fRegs.a3)])),(2,(.slice zeg zbd.length zeh)),(3,(.int .i64 z40))]) Tryd.func21 rfl Tryd.ntmps21 rfl (Hp.nil w₀ _) rfl ?_
 refine WC.b (WC.a ?_)
 refine WL.new (dd:=5) rfl rfl rfl (y3p (cs:=[(.int .i64 z1v.fPc),(.int .i64 z1v.fLeft),(.int .u8 z1v.fRegs.a0),(.int .u8 z1v.fRegs.a1),(.int .u8 z1v.fRegs.a2),(.int .u8 z1v.fRegs.a3)]) rfl rfl) ?_
 intro zds _
 refine WL.new (dd:=8) rfl rfl rfl (yA (cs:=[(.int .i64 0),(.int .i64 0),(.int .u8 0),(.int .u8 0),(.int .u8 0),(.int .u8 0)]) y1i rfl) ?_
 intro zdt _
 refine WL.new (dd:=9) rfl rfl rfl (yA (cs:=[(.int .u8 0),(.int .i64 0),(.int .i64 0),(.slice none 0 0)]) y1o rfl) ?_
 intro zdu _
 refine WL.pu rfl (WL.pu rfl (WL.nil (WX.a (WC.b ?_))))
 obtain ⟨zf0,zwe,h⟩:=zb h
 refine WC.a (WL.pu rfl ?_)
 refine WL.y1y (dd:=15) rfl rfl rfl (zk (l:=[.tmp 14]) Tryd.call37 (.cons rfl .nil)) .nil (cc hz .nil fun w pz ho=>y40 (Z:=_) (ao:=zeg) (cap:=zeh) (l:=zbd) (r:=zf0) w pz zwd zwe) ?_
 rintro zbk z80 _
 refine WL.pu rfl (WL.nil (WX.a ?_))
 obtain ⟨z9z,zwf,h⟩:=y6Z h
 refine WC.y6m (fun (z7Z : List Int) (zbe : Int) (zbf : Int) (zbg : Int) (zbh : Int) (zbi : Int) (zbj : Int)=>(z9z z7Z zbe zbf zbg zbh zbi zbj = some r)) (fun (z7Z : List Int) (zbe : Int) (zbf : Int) (zbg : Int) (zbh : Int) (zbi : Int) (zbj : Int)=>[(2,(.slice zbk z7Z.length z80)),(3,(.int .i64 z40)),(5,(.pointer (some ⟨zds,0,none⟩))),(8,(.pointer (some ⟨zdt,0,none⟩))),(9,(.pointer (some ⟨zdu,0,none⟩)))]) (fun (z7Z : List Int) (zbe : Int) (zbf : Int) (zbg : Int) (zbh : Int) (zbi : Int) (zbj : Int)=>[row (.slice zbk z7Z.length z80) 5 1 (z7Z.flatMap e5),stb zds 39 [(.int .i64 zbe),(.int .i64 zbf),(.int .u8 zbg),(.int .u8 zbh),(.int .u8 zbi),(.int .u8 zbj)],stb zdt 39 [(.int .i64 0),(.int .i64 0),(.int .u8 0),(.int .u8 0),(.int .u8 0),(.int .u8 0)],stb zdu 41 [(.int .u8 0),(.int .i64 0),(.int .i64 0),(.slice none 0 0)]]) ?_ ?_
 ·skip
  refine WC.b (WC.a (WL.pu rfl ?_))
  refine WL.a (d:=17) rfl rfl rfl (q_max rfl rfl rfl) ?_
  refine WL.pu rfl (WL.nil (WX.a (WC.block ?_)))
  refine WC.loop9 (fun (zdv : Nat) (z2J : List Int) (z4N : Int) (z6r : Int) (z6s : Int) (z6t : Int) (z6u : Int) (z6v : Int) (z6w : Int)=>(y2a z40 z4v z9z zdv z2J z4N z6r z6s z6t z6u z6v z6w = some r)) (fun (zdv : Nat) (z2J : List Int) (z4N : Int) (z6r : Int) (z6s : Int) (z6t : Int) (z6u : Int) (z6v : Int) (z6w : Int)=>[(0,(.slice zdq z4v.length zdr)),(2,(.slice zbk z2J.length z80)),(3,(.int .i64 z40)),(5,(.pointer (some ⟨zds,0,none⟩))),(8,(.pointer (some ⟨zdt,0,none⟩))),(9,(.pointer (some ⟨zdu,0,none⟩))),(17,(.int .i64 (max z40 0))),(18,(.int .i64 z4N))]) (fun (zdv : Nat) (z2J : List Int) (z4N : Int) (z6r : Int) (z6s : Int) (z6t : Int) (z6u : Int) (z6v : Int) (z6w : Int)=>[row (.slice zbk z2J.length z80) 5 1 (z2J.flatMap e5),stb zds 39 [(.int .i64 z6r),(.int .i64 z6s),(.int .u8 z6t),(.int .u8 z6u),(.int .u8 z6v),(.int .u8 z6w)],stb zdt 39 [(.int .i64 0),(.int .i64 0),(.int .u8 0),(.int .u8 0),(.int .u8 0),(.int .u8 0)],stb zdu 41 [(.int .u8 0),(.int .i64 0),(.int .i64 0),(.slice none 0 0)]]) (fun (zdv : Nat) (z2J : List Int) (z4N : Int) (z6r : Int) (z6s : Int) (z6t : Int) (z6u : Int) (z6v : Int) (z6w : Int)=>zdv) ⟨y2g,zf0,0,z1v.fPc,z1v.fLeft,z1v.fRegs.a0,z1v.fRegs.a1,z1v.fRegs.a2,z1v.fRegs.a3⟩ h (.cons rfl (.cons rfl (.cons rfl (.cons rfl (.cons rfl (.cons rfl (.cons rfl (.cons rfl .nil)))))))) (.cons .here (.cons .h2 (.cons .h1 (.cons .here .nil)))) ?_
  rintro zdv z2J z4N z6r z6s z6t z6u z6v z6w h
  obtain ⟨zh7,rfl⟩:=y5U h
  rw [y2a] at h
  refine WC.b (WC.a (WL.pu rfl (WL.nil (WX.a (WC.b ?_)))))
  refine WC.cond rfl (fun zh8=>?_) (fun zh8=>?_)
  ·replace h:=ym h zh8
   refine WC.skip (WX.a ?_)
   obtain ⟨zeZ,zwg,h⟩:=y6Z h
   refine WC.y6m (fun (z7i : List Int) (z9A : Int) (z9B : Int) (z9C : Int) (z9D : Int) (z9E : Int) (z9F : Int)=>(zeZ z7i z9A z9B z9C z9D z9E z9F = some r)) (fun (z7i : List Int) (z9A : Int) (z9B : Int) (z9C : Int) (z9D : Int) (z9E : Int) (z9F : Int)=>[(0,(.slice zdq z4v.length zdr)),(2,(.slice zbk z7i.length z80)),(3,(.int .i64 z40)),(5,(.pointer (some ⟨zds,0,none⟩))),(8,(.pointer (some ⟨zdt,0,none⟩))),(9,(.pointer (some ⟨zdu,0,none⟩))),(17,(.int .i64 (max z40 0))),(18,(.int .i64 z4N))]) (fun (z7i : List Int) (z9A : Int) (z9B : Int) (z9C : Int) (z9D : Int) (z9E : Int) (z9F : Int)=>[row (.slice zbk z7i.length z80) 5 1 (z7i.flatMap e5),stb zds 39 [(.int .i64 z9A),(.int .i64 z9B),(.int .u8 z9C),(.int .u8 z9D),(.int .u8 z9E),(.int .u8 z9F)],stb zdt 39 [(.int .i64 0),(.int .i64 0),(.int .u8 0),(.int .u8 0),(.int .u8 0),(.int .u8 0)],stb zdu 41 [(.int .u8 0),(.int .i64 0),(.int .i64 0),(.slice none 0 0)]]) ?_ ?_
   ·skip
    refine WC.block (WC.b (WC.a (WL.pu rfl (WL.pu rfl (WL.nil (WX.a (WC.b (WC.a ?_))))))))
    refine WL.new (dd:=13) rfl rfl rfl (yA (cs:=[(.int .u8 0),(.int .i64 0),(.int .i64 0),(.slice none 0 0)]) y1o rfl) ?_
    intro zwh _
    refine WL.nil (WX.a (WC.b ?_))
    obtain ⟨z16,zwi,h⟩:=zb h
    refine WC.a (WL.pu rfl ?_)
    refine WL.a (d:=23) rfl rfl rfl (yE yQ rfl (yz .h2) rfl) ?_
    refine WL.pu rfl ?_
    refine WL.y1y (dd:=25) rfl rfl rfl (zk (l:=[.tmp 22,.tmp 23,.tmp 24]) Tryd.call18 (.cons rfl (.cons rfl (.cons rfl .nil)))) (.cons .h1 .nil) (cc hz (.cons .h1 .nil) fun w pz ho=>y7b _ _ _ _ _ _ _ _ _ zwi w pz hG0 hG1 zwc ho) ?_
    rintro zkQ zkR _
    refine WL.pu rfl (WL.pu rfl (WL.pu rfl ?_))
    refine WL.yf rfl rfl (yt y1l rfl rfl rfl .h3 rfl rfl rfl) ?_
    refine WL.yf rfl rfl (yt yV rfl rfl rfl .h3 rfl rfl rfl) ?_
    refine WL.nil (WX.a (WC.b (WC.a ?_)))
    refine WL.a (d:=28) rfl rfl rfl (y4 y4T rfl rfl) ?_
    refine WL.a (d:=29) rfl rfl rfl (y5 yC rfl (yb .here rfl)) ?_
    refine WL.nil (WX.a (WC.block (WC.b (WC.a (WL.pu rfl (WL.pu rfl (WL.nil (WX.a ?_))))))))
    refine WC.cond rfl (fun zh9=>?_) (fun zh9=>?_)
    ·replace h:=ym h zh9
     refine WC.skip (WX.yr (WX.yr ?_))
     exact WX.mid (G:=List Int × Int × Int × Int × Int × Int × Int) ⟨z2J,z16.1.fPc,z16.1.fLeft,z16.1.fRegs.a0,z16.1.fRegs.a1,z16.1.fRegs.a2,z16.1.fRegs.a3⟩ h (.cons rfl (.cons rfl (.cons rfl (.cons rfl (.cons rfl (.cons rfl (.cons rfl (.cons rfl .nil)))))))) (.cons .h3 (.cons .h1 (.cons .h2 (.cons .h2 .nil))))
    ·replace h:=yn h zh9
     refine WC.b (WC.a (WL.pu rfl (WL.pu rfl (WL.nil (WX.a ?_)))))
     refine WC.cond rfl (fun zha=>?_) (fun zha=>?_)
     ·replace h:=ym h zha
      obtain ⟨zc1,h⟩:=ya h
      refine WC.a (WL.pu rfl ?_)
      refine WL.a (d:=40) rfl rfl rfl (y4 y6B rfl rfl) ?_
      refine WL.a (d:=41) rfl rfl rfl (y5 yd rfl (yb .here rfl)) ?_
      refine WL.a (d:=42) rfl rfl rfl (y4 y6C rfl rfl) ?_
      refine WL.a (d:=43) rfl rfl rfl (y5 yd rfl (yb .here rfl)) ?_
      refine WL.a (d:=44) rfl rfl rfl (y2Z Tryd.underlying3 Tryd.underlying5 rfl rfl) ?_
      refine WL.know (fun w hw=>Hp.y3T .h3 hw (by intro hz'; have:=zc1; rw [hz'] at this; omega)) ?_
      rintro ⟨zkS,rfl⟩
      refine WL.a (d:=45) rfl rfl rfl (yT y1F rfl rfl zc1.1 zc1.2 y39) ?_
      refine WL.yf rfl rfl (y5i (vs:=[(.int .u8 (u8 z16.2.fB))]) (ds:=(z2J.set (z16.2.fA : Int).toNat (u8 z16.2.fB)).flatMap e5) y30 rfl rfl rfl rfl (y6x rfl y6X) .h3 (y6c (enc:=e5) (sz:=1) (k:=0) (fun _=>rfl) zc1.1 zc1.2 (by decide)) (y6b (enc:=e5) (l:=z2J) (sz:=1) (vs:=[(.int .u8 (u8 z16.2.fB))]) (y:=u8 z16.2.fB) (k:=0) (fun _=>rfl) zc1.1 zc1.2 rfl (Nat.le_of_ble_eq_true rfl))) ?_
      refine WL.relen .here (u:=(.slice (some ⟨zkS,0,none⟩) ((z2J.set (z16.2.fA : Int).toNat (u8 z16.2.fB)).length) z80)) (slen (List.length_set).symm) ?_
      refine WL.repin (i:=2) rfl (u:=(.slice (some ⟨zkS,0,none⟩) ((z2J.set (z16.2.fA : Int).toNat (u8 z16.2.fB)).length) z80)) (slen (List.length_set).symm) ?_
      refine WL.nil (WX.yr (WX.yr ?_))
      exact WX.mid (G:=List Int × Int × Int × Int × Int × Int × Int) ⟨(z2J.set (z16.2.fA : Int).toNat (u8 z16.2.fB)),z16.1.fPc,z16.1.fLeft,z16.1.fRegs.a0,z16.1.fRegs.a1,z16.1.fRegs.a2,z16.1.fRegs.a3⟩ h (.cons rfl (.cons rfl (.cons rfl (.cons rfl (.cons rfl (.cons rfl (.cons rfl (.cons rfl .nil)))))))) (.cons .here (.cons .h1 (.cons .h2 (.cons .h2 .nil))))
     ·replace h:=yn h zha
      refine WC.b ?_
      refine WC.y11 (fun i=>[5,6].contains i) [stb zwh 41 [(.int .u8 z16.2.fKind),(.int .i64 z16.2.fA),(.int .i64 z16.2.fB),(.slice zkQ z16.2.fData.length zkR)]] rfl ?_
      refine WD.e (i:=0) (d:=30) (by kernel_rfl) rfl z2 z6 rfl rfl rfl (yE yQ rfl (yz .h1) rfl) ?_
      refine WD.y1k (i:=1) (d:=31) (by kernel_rfl) rfl z2 z6 rfl rfl rfl (Sin.of (.cons .here .nil)) (yE y1q rfl (yz .here) rfl) ?_
      refine WD.a (i:=2) (d:=32) (by kernel_rfl) rfl z2 z6 rfl rfl rfl (fun _=>q_m rfl) ?_
      refine WD.a (i:=3) (d:=33) (by kernel_rfl) rfl z2 z6 rfl rfl rfl (fun _=>q_m rfl) ?_
      refine WD.a (i:=4) (d:=34) (by kernel_rfl) rfl z2 z6 rfl rfl rfl (fun _=>y5h rfl rfl rfl) ?_
      refine WD.forced0 (i:=5) rfl (by kernel_rfl) rfl rfl rfl (Sin.of (.cons .h1 .nil)) (yt y1l rfl rfl rfl .h4 rfl rfl rfl) ?_
      refine WD.forced0 (i:=6) rfl (by kernel_rfl) rfl rfl rfl (Sin.of (.cons .h2 .nil)) (yt yV rfl rfl rfl .h5 rfl rfl rfl) ?_
      refine WD.a (i:=7) (d:=10) (by kernel_rfl) rfl z2 z6 rfl rfl rfl (fun _=>q_z rfl) ?_
      refine WD.a (i:=8) (d:=11) (by kernel_rfl) rfl z2 z6 rfl rfl rfl (fun _=>q_z rfl) ?_
      refine WD.done (by kernel_rfl) ?_
      refine WX.a (WC.ret (WX.yS (WX.yS (WX.yh (WX.yh (WX.yS (WX.yh ?_)))))))
      obtain rfl:=Option.some.inj h
      refine WX.yi Tryd.results21 (.agg rfl yQ rfl (yz .h1) (.agg rfl y1q rfl (yz .here) (.tmp rfl (.tmp rfl .nil)))) (fun w hw=>?_)
      exact ⟨zkQ,zkR,zbk,z80,ret4 rfl rfl rfl rfl,trivial,hw.sub (.cons .h4 (.cons .h4 .nil))⟩
   ·rintro z7i z9A z9B z9C z9D z9E z9F h
    replace h:=(zwg z7i z9A z9B z9C z9D z9E z9F).symm.trans h
    refine WC.a (WL.pu rfl (WL.pu rfl (WL.nil ?_)))
    exact WX.round (G:=Nat × List Int × Int × Int × Int × Int × Int × Int × Int) ⟨zh7,z7i,(i64 (z4N + 1)),z9A,z9B,z9C,z9D,z9E,z9F⟩ h (Nat.lt_succ_self _) (.cons rfl (.cons rfl (.cons rfl (.cons rfl (.cons rfl (.cons rfl (.cons rfl (.cons rfl .nil)))))))) (.cons .here (.cons .here (.cons .here (.cons .here .nil))))
  ·replace h:=yn h zh8
   refine WC.exit (WX.yO (WX.yO (WX.y1K ?_)))
   exact WX.mid (G:=List Int × Int × Int × Int × Int × Int × Int) ⟨z2J,z6r,z6s,z6t,z6u,z6v,z6w⟩ h (.cons rfl (.cons rfl (.cons rfl (.cons rfl (.cons rfl .nil))))) (.cons .here (.cons .here (.cons .here (.cons .here .nil))))
 ·rintro z7Z zbe zbf zbg zbh zbi zbj h
  replace h:=(zwf z7Z zbe zbf zbg zbh zbi zbj).symm.trans h
  refine WC.b (WC.a ?_)
  refine WL.a (d:=47) rfl rfl rfl (yE yQ rfl (yz .h1) rfl) ?_
  refine WL.a (d:=48) rfl rfl rfl (yP (v:=(.agg #[(.int .u8 0),(.int .i64 0),(.int .i64 0),(.slice none 0 0)])) (Eos.parts (l:=[]) .nil []) (fun _=>by kernel_rfl)) ?_
  refine WL.pu rfl (WL.pu rfl ?_)
  refine WL.a (d:=51) rfl rfl rfl (q_max rfl rfl rfl) ?_
  refine WL.yf rfl rfl (yt y1l rfl rfl rfl .h2 rfl rfl rfl) ?_
  refine WL.yf rfl rfl (yt yV rfl rfl rfl .h3 rfl rfl rfl) ?_
  refine WL.pu rfl (WL.pu rfl (WL.nil (WX.a (WC.ret ?_))))
  refine WX.nilRow 5 1 ?_
  obtain rfl:=Option.some.inj h
  refine WX.yi Tryd.results21 (.agg rfl yQ rfl (yz .h2) (.agg rfl y1q rfl (yz .h1) (.tmp rfl (.tmp rfl .nil)))) (fun w hw=>?_)
  exact ⟨none,0,zbk,z80,ret4 rfl rfl rfl rfl,trivial,hw.sub (.cons .here (.cons .h2 .nil))⟩
end Go.Proofs.YtjdnejbngloieaaDoor

/- A part of this claim's proof: models of functions, walks, plain laws. No conditions. -/
import Derived.Test.YtinchjigeakocaaW31g
namespace Go.Proofs.Ytinchjigeakocaa
open Go Go.RowKit Sep
set_option linter.all false
set_option maxRecDepth 30000
set_option maxHeartbeats 4000000
def y1t (zT : List zSt) (zL : Int) (z7q : (List zSt) → Option Bool) : Nat → (List zSt) → Int → Option Bool
  | 0,_,_=>none
  | zjm + 1,z2z,z1a=>if decide (z1a < ((zT.length : Nat) : Int)) then chk ((0 : Int) ≤ z1a ∧ z1a < ((zT.length : Nat) : Int)) (chk ((((z2z ++ ([(⟨i64 (((nth zT z1a).fTime) + (i64 (Int.tmod zL 1048576))),((nth zT z1a).fVL),((nth zT z1a).fSize)⟩ : zSt)] : List zSt)).length : Nat) : Int) * 24 ≤ 140737488355328 ∧ (((z2z ++ ([(⟨i64 (((nth zT z1a).fTime) + (i64 (Int.tmod zL 1048576))),((nth zT z1a).fVL),((nth zT z1a).fSize)⟩ : zSt)] : List zSt)).length : Nat) : Int) ≤ 4611686018427387904) (y1t zT zL z7q zjm (z2z ++ ([(⟨i64 (((nth zT z1a).fTime) + (i64 (Int.tmod zL 1048576))),((nth zT z1a).fVL),((nth zT z1a).fSize)⟩ : zSt)] : List zSt)) (i64 (z1a + 1)))) else z7q z2z
theorem y4z {n : Nat} {zT : List zSt} {zL : Int} {z7q : (List zSt) → Option Bool} {z2z : List zSt} {z1a : Int} {r : Bool} (h : y1t zT zL z7q n z2z z1a = some r) : ∃ m,n = m + 1:=by
  cases n with
  | zero=>cases h
  | succ m=>exact ⟨m,rfl⟩
def y1u (z18 : List Sapi_Come × List Sapi_Come × Int) (zL : Int) (z7r : (List Sapi_Come) → Option Bool) : Nat → (List Sapi_Come) → Int → Option Bool
  | 0,_,_=>none
  | zjn + 1,zU,zX=>if decide (zX < ((z18.1.length : Nat) : Int)) then chk ((0 : Int) ≤ zX ∧ zX < ((zU.length : Nat) : Int)) (y1u z18 zL z7r zjn (zU.set (zX : Int).toNat (⟨((nth zU zX).fSent),((nth zU zX).fNode),i64 (((nth zU zX).fTime) + (i64 (Int.tmod zL 1048576)))⟩ : Sapi_Come)) (i64 (zX + 1))) else z7r zU
theorem y4A {n : Nat} {z18 : List Sapi_Come × List Sapi_Come × Int} {zL : Int} {z7r : (List Sapi_Come) → Option Bool} {zU : List Sapi_Come} {zX : Int} {r : Bool} (h : y1u z18 zL z7r n zU zX = some r) : ∃ m,n = m + 1:=by
  cases n with
  | zero=>cases h
  | succ m=>exact ⟨m,rfl⟩
def y1v (z18 : List Sapi_Come × List Sapi_Come × Int) (zL : Int) (z7s : (List Sapi_Come) → Option Bool) : Nat → (List Sapi_Come) → Int → Option Bool
  | 0,_,_=>none
  | zjo + 1,zV,zY=>if decide (zY < ((z18.2.1.length : Nat) : Int)) then chk ((0 : Int) ≤ zY ∧ zY < ((zV.length : Nat) : Int)) (y1v z18 zL z7s zjo (zV.set (zY : Int).toNat (⟨((nth zV zY).fSent),((nth zV zY).fNode),i64 (((nth zV zY).fTime) + (i64 (Int.tmod zL 1048576)))⟩ : Sapi_Come)) (i64 (zY + 1))) else z7s zV
theorem y4B {n : Nat} {z18 : List Sapi_Come × List Sapi_Come × Int} {zL : Int} {z7s : (List Sapi_Come) → Option Bool} {zV : List Sapi_Come} {zY : Int} {r : Bool} (h : y1v z18 zL z7s n zV zY = some r) : ∃ m,n = m + 1:=by
  cases n with
  | zero=>cases h
  | succ m=>exact ⟨m,rfl⟩
def y2X (zE : Sapi_Config) (z5a : Int) (z4F : List (List Sapi_Hop)) (zT : List zSt) (zL : Int) : Option Bool :=
  jp1 (fun (z5b : List zSt)=>(y42 zE z5a z4F zT).bind fun znH=>(if !znH then some true else (y33 zE z5b).bind fun znI=>some (!znI)).bind fun zjp=>if zjp then (y3R).bind fun znJ=>some znJ else (y2w zE z5a z4F zT).bind fun z18=>(y2w zE z5a z4F z5b).bind fun zZ=>if (((decide (z18.2.2 ≠ 0)) || (decide (zZ.2.2 ≠ 0))) || (decide (((z18.1.length : Nat) : Int) ≠ ((zZ.1.length : Nat) : Int)))) || (decide (((z18.2.1.length : Nat) : Int) ≠ ((zZ.2.1.length : Nat) : Int))) then some false else jp1 (fun (z2A : List Sapi_Come)=>jp1 (fun (z4G : List Sapi_Come)=>(y2I z2A zZ.1).bind fun znK=>(if znK then (y2I z4G zZ.2.1).bind fun znL=>some znL else some false).bind fun zfG=>(if zfG then (y3R).bind fun znM=>some znM else some false).bind fun zjq=>some zjq) fun z7s=>y1v z18 zL z7s yz z18.2.1 0) fun z7r=>y1u z18 zL z7r yz z18.1 0) fun z7q=>y1t zT zL z7q yz ([] : List zSt) 0
set_option maxRecDepth 20000 in
theorem y6f (Z : Zp) (z85 : Option Addr) (z86 : Nat) (z87 : Option Addr) (z88 : Nat) (z89 : Option Addr) (z8a : Nat) (z8b : Option Addr) (z8c : Nat) (z8d : Option Addr) (z8e : Nat) (z8f : Option Addr) (z8g : Nat) (z8h : Option Addr) (z8i : Nat) (z8j : Option Addr) (z8k : Nat) (z9F : Option Addr) (z9G : Nat) (z8l : Option Addr) (z8m : Nat) (zE : Sapi_Config) (z5a : Int) (z4F : List (List Sapi_Hop)) (zT : List zSt) (zL : Int) (r : Bool)
     (h : y2X zE z5a z4F zT zL = some r) (w₀ : World) (hz : PZ [] w₀ Z)
     (zfH : ZS Z 4 (y2x Z) z85 z86 zE.fModules)
     (zfI : ZS Z 4 (y2S Z) z87 z88 zE.fChannels)
     (zfJ : ZS Z 4 (fun r x=>r = e64 x) z89 z8a zE.fSwitches)
     (zfK : ZS Z 4 (fun r x=>r = e62 x) z8b z8c zE.fLinks)
     (zfL : ZS Z 7 (y2G Z) z8d z8e zE.fVLs)
     (zfM : ZS Z 5 (fun r x=>r = y37 x) z8f z8g zE.fHealth)
     (zfN : ZS Z 3 (y2T Z) z8h z8i zE.fCauses)
     (zfO : ZS Z 4 (fun r x=>r = y38 x) z8j z8k zE.fVersions)
     (zjr : ZS Z 1 (p55 Z) z9F z9G z4F)
     (zjs : ZS Z 3 (fun r x=>r = e53 x) z8l z8m zT) :
    Calls Try.prog 7 #[(.agg #[(.slice z85 zE.fModules.length z86),(.slice z87 zE.fChannels.length z88),(.slice z89 zE.fSwitches.length z8a),(.slice z8b zE.fLinks.length z8c),(.slice z8d zE.fVLs.length z8e),(.slice z8f zE.fHealth.length z8g),(.slice z8h zE.fCauses.length z8i),(.slice z8j zE.fVersions.length z8k)]),(.int .i64 z5a),(.slice z9F z4F.length z9G),(.slice z8l zT.length z8m),(.int .u32 zL)] w₀ fun e w'=>∃ Zn : Zp,e = .returned (.bool r) ∧ True ∧ Hp [] w₀ w' [fz Zn]:=by
  unfold y2X at h
  refine Calls.yl (vs:=[(.agg #[(.slice z85 zE.fModules.length z86),(.slice z87 zE.fChannels.length z88),(.slice z89 zE.fSwitches.length z8a),(.slice z8b zE.fLinks.length z8c),(.slice z8d zE.fVLs.length z8e),(.slice z8f zE.fHealth.length z8g),(.slice z8h zE.fCauses.length z8i),(.slice z8j zE.fVersions.length z8k)]),(.int .i64 z5a),(.slice z9F z4F.length z9G),(.slice z8l zT.length z8m),(.int .u32 zL)]) (pre:=[]) (env:=[(0,(.agg #[(.slice z85 zE.fModules.length z86),(.slice z87 zE.fChannels.length z88),(.slice z89 zE.fSwitches.length z8a),(.slice z8b zE.fLinks.length z8c),(.slice z8d zE.fVLs.length z8e),(.slice z8f zE.fHealth.length z8g),(.slice z8h zE.fCauses.length z8i),(.slice z8j zE.fVersions.length z8k)])),(1,(.int .i64 z5a)),(2,(.slice z9F z4F.length z9G)),(3,(.slice z8l zT.length z8m)),(4,(.int .u32 zL))]) Try.func7 rfl Try.ntmps7 rfl (Hp.nil w₀ _) rfl ?_
  refine WC.pool (WC.b (WC.a ?_))
  refine WL.new (dd:=5) rfl rfl rfl (y2g (cs:=[(.slice z85 zE.fModules.length z86),(.slice z87 zE.fChannels.length z88),(.slice z89 zE.fSwitches.length z8a),(.slice z8b zE.fLinks.length z8c),(.slice z8d zE.fVLs.length z8e),(.slice z8f zE.fHealth.length z8g),(.slice z8h zE.fCauses.length z8i),(.slice z8j zE.fVersions.length z8k)]) rfl rfl) ?_
  intro zfP _
  refine WL.pu rfl (WL.nil (WX.a (WC.b (WC.a (WL.pu rfl ?_)))))
  refine WL.a (d:=24) rfl rfl rfl (q_rem rfl rfl (by decide) rfl) ?_
  refine WL.a (d:=25) rfl rfl rfl (y4j Try.underlying70 Try.underlying3 rfl rfl) ?_
  refine WL.pu rfl (WL.nil (WX.a (WC.b (WC.a (WL.pu rfl (WL.nil (WX.a ?_)))))))
  obtain ⟨z7q,ztR,h⟩:=y19 h
  refine WC.y4k (fun (z5b : List zSt) (zdU : Option Addr) (zdV : Nat)=>(z7q z5b = some r)) (fun (z5b : List zSt) (zdU : Option Addr) (zdV : Nat)=>[(1,(.int .i64 z5a)),(2,(.slice z9F z4F.length z9G)),(3,(.slice z8l zT.length z8m)),(5,(.pointer (some ⟨zfP,0,none⟩))),(11,(.int .i64 (i64 (Int.tmod zL 1048576)))),(12,(.slice zdU z5b.length zdV))]) (fun (z5b : List zSt) (zdU : Option Addr) (zdV : Nat)=>[fz [],row (.slice zdU z5b.length zdV) 53 3 (z5b.flatMap e53),stb zfP 31 [(.slice z85 zE.fModules.length z86),(.slice z87 zE.fChannels.length z88),(.slice z89 zE.fSwitches.length z8a),(.slice z8b zE.fLinks.length z8c),(.slice z8d zE.fVLs.length z8e),(.slice z8f zE.fHealth.length z8g),(.slice z8h zE.fCauses.length z8i),(.slice z8j zE.fVersions.length z8k)]]) ?_ ?_
  · skip
    refine WC.b (WC.a (WL.pu rfl ?_))
    refine WL.a (d:=27) rfl rfl rfl (yW Try.underlying33 rfl) ?_
    refine WL.pu rfl (WL.nil (WX.a (WC.block ?_)))
    refine WC.nilRow 53 3 ?_
    refine WC.y72 (fun (zbz : Nat) (z2z : List zSt) (z1a : Int) (z9H : Option Addr) (z9I : Nat)=>(y1t zT zL z7q zbz z2z z1a = some r)) (fun (zbz : Nat) (z2z : List zSt) (z1a : Int) (z9H : Option Addr) (z9I : Nat)=>[(1,(.int .i64 z5a)),(2,(.slice z9F z4F.length z9G)),(3,(.slice z8l zT.length z8m)),(5,(.pointer (some ⟨zfP,0,none⟩))),(11,(.int .i64 (i64 (Int.tmod zL 1048576)))),(12,(.slice z9H z2z.length z9I)),(26,(.slice z8l zT.length z8m)),(27,(.int .i64 ((zT.length : Nat) : Int))),(28,(.int .i64 z1a))]) (fun (zbz : Nat) (z2z : List zSt) (z1a : Int) (z9H : Option Addr) (z9I : Nat)=>[fz [],row (.slice z9H z2z.length z9I) 53 3 (z2z.flatMap e53),stb zfP 31 [(.slice z85 zE.fModules.length z86),(.slice z87 zE.fChannels.length z88),(.slice z89 zE.fSwitches.length z8a),(.slice z8b zE.fLinks.length z8c),(.slice z8d zE.fVLs.length z8e),(.slice z8f zE.fHealth.length z8g),(.slice z8h zE.fCauses.length z8i),(.slice z8j zE.fVersions.length z8k)]]) (fun (zbz : Nat) (z2z : List zSt) (z1a : Int) (z9H : Option Addr) (z9I : Nat)=>zbz) ⟨yz,([] : List zSt),0,none,0⟩ h (.cons rfl (.cons rfl (.cons rfl (.cons rfl (.cons rfl (.cons rfl (.cons rfl (.cons rfl (.cons rfl .nil))))))))) (.cons .h2 (.cons .here (.cons .here .nil))) ?_
    rintro zbz z2z z1a z9H z9I h
    obtain ⟨zjm,rfl⟩:=y4z h
    rw [y1t] at h
    refine WC.b (WC.a (WL.pu rfl (WL.nil (WX.a (WC.b ?_)))))
    refine WC.cond rfl (fun zjt=>?_) (fun zjt=>?_)
    · replace h:=ym h zjt
      refine WC.skip (WX.a (WC.b (WC.block (WC.b ?_))))
      obtain ⟨ztS,h⟩:=yj h
      refine WC.a ?_
      refine WL.znth (dd:=30) rfl rfl (Z:=(Z ++ [])) (Pr:=(fun r x=>r = e53 x)) y41 rfl rfl (zjs.mono (Zle.left _ _)) ztS ?_
      rintro zxG zxH ztT zxI rfl
      refine WL.a (d:=31) rfl rfl rfl (yF y5F rfl (y3G (hz.pv2 .here) ztT) rfl) ?_
      refine WL.new (dd:=14) rfl rfl rfl (y2u (cs:=[(.int .i64 0),(.int .i64 0),(.int .i64 0)]) y63 rfl) ?_
      intro zxJ _
      refine WL.y1o rfl rfl (y22 y6S rfl rfl rfl .here rfl rfl rfl) ?_
      refine WL.nil (WX.a (WC.b (WC.a ?_)))
      refine WL.a (d:=32) rfl rfl rfl (ya y3r rfl rfl) ?_
      refine WL.a (d:=33) rfl rfl rfl (yb yf rfl (ye .here rfl)) ?_
      refine WL.pu rfl (WL.pu rfl ?_)
      refine WL.a (d:=36) rfl rfl rfl (ya y3r rfl rfl) ?_
      refine WL.y1o rfl rfl (y3H (ds:=[(.int .i64 (i64 (((nth zT z1a).fTime) + (i64 (Int.tmod zL 1048576))))),(.int .i64 ((nth zT z1a).fVL)),(.int .i64 ((nth zT z1a).fSize))]) y5I rfl rfl rfl rfl rfl .here rfl rfl) ?_
      refine WL.nil (WX.a ?_)
      obtain ⟨ztU,h⟩:=yj h
      refine WC.a (WL.pu rfl ?_)
      refine WL.a (d:=38) rfl rfl rfl (yF y5F rfl (y1i .here) rfl) ?_
      refine WL.new (dd:=39) rfl rfl rfl (y15 (cs:=([(⟨i64 (((nth zT z1a).fTime) + (i64 (Int.tmod zL 1048576))),((nth zT z1a).fVL),((nth zT z1a).fSize)⟩ : zSt)] : List zSt).flatMap e53) y41 (Eos.parts (l:=[.tmp 38]) (.cons rfl .nil) [0]) (fun _=>by kernel_rfl) rfl (by unfold maxLen; omega)) ?_
      intro zxK _
      refine WL.eff (d:=40) rfl rfl rfl (y4I (enc:=e53) (l1:=z2z) (l2:=([(⟨i64 (((nth zT z1a).fTime) + (i64 (Int.tmod zL 1048576))),((nth zT z1a).fVL),((nth zT z1a).fSize)⟩ : zSt)] : List zSt)) y41 rfl rfl .h3 (fun _=>rfl) rfl rfl (y57 .here) (y4T e53_oc _) ztU) ?_
      rintro ⟨ztV,ztW⟩ _
      refine WL.pu rfl (WL.nil (WX.yg (WX.a (WC.a (WL.pu rfl (WL.pu rfl (WL.nil ?_)))))))
      exact WX.round (G:=Nat × List zSt × Int × Option Addr × Nat) ⟨zjm,(z2z ++ ([(⟨i64 (((nth zT z1a).fTime) + (i64 (Int.tmod zL 1048576))),((nth zT z1a).fVL),((nth zT z1a).fSize)⟩ : zSt)] : List zSt)),(i64 (z1a + 1)),ztV,ztW⟩ h (Nat.lt_succ_self _) (.cons rfl (.cons rfl (.cons rfl (.cons rfl (.cons rfl (.cons rfl (.cons rfl (.cons rfl (.cons rfl .nil))))))))) (.cons .h3 (.cons .here (.cons .h2 .nil)))
    · replace h:=yn h zjt
      refine WC.exit (WX.yd (WX.yd (WX.yA ?_)))
      exact WX.mid (G:=List zSt × Option Addr × Nat) ⟨z2z,z9H,z9I⟩ h (.cons rfl (.cons rfl (.cons rfl (.cons rfl (.cons rfl (.cons rfl .nil)))))) (.cons .here (.cons .here (.cons .here .nil)))
  · rintro z5b zdU zdV h
    replace h:=(ztR z5b).symm.trans h
    refine WC.b (WC.b ?_)
    obtain ⟨znH,ztX,h⟩:=zf h
    obtain ⟨zjp,znN,h⟩:=zf h
    refine WC.a ?_
    refine WL.a (d:=42) rfl rfl rfl (yF y1C rfl (y1i .h2) rfl) ?_
    refine WL.pu rfl (WL.pu rfl (WL.pu rfl ?_))
    refine WL.b (dd:=46) rfl rfl rfl (zy (l:=[.tmp 42,.tmp 43,.tmp 44,.tmp 45]) Try.call20 (.cons rfl (.cons rfl (.cons rfl (.cons rfl .nil))))) .nil (ccz hz .nil .here fun w pz ho=>y8x _ _ _ _ _ _ _ _ _ _ _ _ _ _ _ _ _ _ _ _ _ _ _ _ _ _ ztX w pz ((zfH.mono (Zle.left _ _)).weak (fun _ _ h=>y1E (Zle.left _ _) h)) ((zfI.mono (Zle.left _ _)).weak (fun _ _ h=>y1L (Zle.left _ _) h)) (zfJ.mono (Zle.left _ _)) (zfK.mono (Zle.left _ _)) ((zfL.mono (Zle.left _ _)).weak (fun _ _ h=>y1F (Zle.left _ _) h)) (zfM.mono (Zle.left _ _)) ((zfN.mono (Zle.left _ _)).weak (fun _ _ h=>y1M (Zle.left _ _) h)) (zfO.mono (Zle.left _ _)) ((zjr.mono (Zle.left _ _)).weak (fun _ _ h=>y3I (Zle.left _ _) h)) (zjs.mono (Zle.left _ _))) ?_
    refine WL.pu rfl (WL.pu rfl ?_)
    refine WL.seg false 4 48 (B:=zjp) rfl rfl rfl rfl rfl rfl (fun h=>(Option.some.inj (ym znN h)).symm) (fun _ ztY=>?_) ?_
    · skip
      have zdW:=yn znN ztY
      obtain ⟨znI,ztZ,zdW⟩:=zf zdW
      replace zdW:=Option.some.inj zdW
      refine WL.a (d:=49) rfl rfl rfl (yF y1C rfl (y1i .h2) rfl) ?_
      refine WL.pu rfl ?_
      refine WL.b (dd:=51) rfl rfl rfl (zy (l:=[.tmp 49,.tmp 50]) Try.call22 (.cons rfl (.cons rfl .nil))) .nil (cclz hz .nil .here (.cons .h1 .nil) fun w pz ho la=>y5M _ _ _ _ _ _ _ _ _ _ _ _ _ _ _ _ _ _ _ _ _ _ ztZ w pz ((((zfH.mono (Zle.left _ _)).weak (fun _ _ h=>y1E (Zle.left _ _) h)).mono (Zle.left _ _)).weak (fun _ _ h=>y1E (Zle.left _ _) h)) ((((zfI.mono (Zle.left _ _)).weak (fun _ _ h=>y1L (Zle.left _ _) h)).mono (Zle.left _ _)).weak (fun _ _ h=>y1L (Zle.left _ _) h)) ((zfJ.mono (Zle.left _ _)).mono (Zle.left _ _)) ((zfK.mono (Zle.left _ _)).mono (Zle.left _ _)) ((((zfL.mono (Zle.left _ _)).weak (fun _ _ h=>y1F (Zle.left _ _) h)).mono (Zle.left _ _)).weak (fun _ _ h=>y1F (Zle.left _ _) h)) ((zfM.mono (Zle.left _ _)).mono (Zle.left _ _)) ((((zfN.mono (Zle.left _ _)).weak (fun _ _ h=>y1M (Zle.left _ _) h)).mono (Zle.left _ _)).weak (fun _ _ h=>y1M (Zle.left _ _) h)) ((zfO.mono (Zle.left _ _)).mono (Zle.left _ _)) (ZA.row (la _ (.head _) _) (RR.y17 (enc:=e53) (fun _=>rfl) _) ⟨w,pz.1⟩)) ?_
      refine WL.pu rfl (WL.pu rfl ?_)
      exact WL.ys zdW rfl rfl .all
    refine WL.nil (WX.a ?_)
    refine WC.cond rfl (fun zju=>?_) (fun zju=>?_)
    · replace h:=ym h zju
      refine WC.b ?_
      obtain ⟨znJ,zu0,h⟩:=zf h
      refine WC.a ?_
      refine WL.y7R (dd:=54) rfl rfl rfl (zy (l:=[]) Try.call11 .nil) .nil (ccz hz .nil .here fun w pz ho=>y6k _ _ zu0 w pz ) ?_
      rintro zu1 _
      refine WL.merge .here .here ?_
      refine WL.pu rfl (WL.nil (WX.a (WC.ret (WX.yi ?_))))
      obtain rfl:=Option.some.inj h
      refine WX.yh Try.results7 (.tmp rfl .nil) (fun w hw=>?_)
      exact ⟨([] ++ zu1),y10 rfl,trivial,hw.sub (.cons .here .nil)⟩
    · replace h:=yn h zju
      refine WC.skip (WX.a (WC.b ?_))
      obtain ⟨z18,zu2,h⟩:=zf h
      refine WC.a ?_
      refine WL.a (d:=56) rfl rfl rfl (yF y1C rfl (y1i .h2) rfl) ?_
      refine WL.pu rfl (WL.pu rfl (WL.pu rfl ?_))
      refine WL.y6p (dd:=60) rfl rfl rfl (zy (l:=[.tmp 56,.tmp 57,.tmp 58,.tmp 59]) Try.call12 (.cons rfl (.cons rfl (.cons rfl (.cons rfl .nil))))) .nil (ccz hz .nil .here fun w pz ho=>y4N _ _ _ _ _ _ _ _ _ _ _ _ _ _ _ _ _ _ _ _ _ _ _ _ _ _ zu2 w pz ((zfH.mono (Zle.left _ _)).weak (fun _ _ h=>y1E (Zle.left _ _) h)) ((zfI.mono (Zle.left _ _)).weak (fun _ _ h=>y1L (Zle.left _ _) h)) (zfJ.mono (Zle.left _ _)) (zfK.mono (Zle.left _ _)) ((zfL.mono (Zle.left _ _)).weak (fun _ _ h=>y1F (Zle.left _ _) h)) (zfM.mono (Zle.left _ _)) ((zfN.mono (Zle.left _ _)).weak (fun _ _ h=>y1M (Zle.left _ _) h)) (zfO.mono (Zle.left _ _)) ((zjr.mono (Zle.left _ _)).weak (fun _ _ h=>y3I (Zle.left _ _) h)) (zjs.mono (Zle.left _ _))) ?_
      rintro z7t z5c z7u z5d _
      refine WL.pu rfl (WL.pu rfl (WL.pu rfl (WL.pu rfl (WL.pu rfl (WL.pu rfl (WL.pu rfl (WL.nil (WX.a (WC.b ?_)))))))))
      obtain ⟨zZ,zu3,h⟩:=zf h
      refine WC.a ?_
      refine WL.a (d:=65) rfl rfl rfl (yF y1C rfl (y1i .h4) rfl) ?_
      refine WL.pu rfl (WL.pu rfl (WL.pu rfl ?_))
      refine WL.y6p (dd:=69) rfl rfl rfl (zy (l:=[.tmp 65,.tmp 66,.tmp 67,.tmp 68]) Try.call12 (.cons rfl (.cons rfl (.cons rfl (.cons rfl .nil))))) .nil (cclz hz .nil .h2 (.cons .h3 .nil) fun w pz ho la=>y4N _ _ _ _ _ _ _ _ _ _ _ _ _ _ _ _ _ _ _ _ _ _ _ _ _ _ zu3 w pz ((((zfH.mono (Zle.left _ _)).weak (fun _ _ h=>y1E (Zle.left _ _) h)).mono (Zle.left _ _)).weak (fun _ _ h=>y1E (Zle.left _ _) h)) ((((zfI.mono (Zle.left _ _)).weak (fun _ _ h=>y1L (Zle.left _ _) h)).mono (Zle.left _ _)).weak (fun _ _ h=>y1L (Zle.left _ _) h)) ((zfJ.mono (Zle.left _ _)).mono (Zle.left _ _)) ((zfK.mono (Zle.left _ _)).mono (Zle.left _ _)) ((((zfL.mono (Zle.left _ _)).weak (fun _ _ h=>y1F (Zle.left _ _) h)).mono (Zle.left _ _)).weak (fun _ _ h=>y1F (Zle.left _ _) h)) ((zfM.mono (Zle.left _ _)).mono (Zle.left _ _)) ((((zfN.mono (Zle.left _ _)).weak (fun _ _ h=>y1M (Zle.left _ _) h)).mono (Zle.left _ _)).weak (fun _ _ h=>y1M (Zle.left _ _) h)) ((zfO.mono (Zle.left _ _)).mono (Zle.left _ _)) ((((zjr.mono (Zle.left _ _)).weak (fun _ _ h=>y3I (Zle.left _ _) h)).mono (Zle.left _ _)).weak (fun _ _ h=>y3I (Zle.left _ _) h)) (ZA.row (la _ (.head _) _) (RR.y17 (enc:=e53) (fun _=>rfl) _) ⟨w,pz.1⟩)) ?_
      rintro z7v z7w z7x z7y _
      refine WL.pu rfl (WL.pu rfl (WL.pu rfl (WL.pu rfl (WL.pu rfl (WL.pu rfl (WL.pu rfl (WL.nil (WX.a (WC.b (WC.b (WC.a (WL.pu rfl (WL.pu rfl (WL.pu rfl ?_))))))))))))))
      refine WL.seg false 2 75 (B:=(decide (z18.2.2 ≠ 0)) || (decide (zZ.2.2 ≠ 0))) rfl rfl rfl rfl rfl rfl (fun h=>(y25 h).symm) (fun _ zu4=>?_) ?_
      · skip
        refine WL.pu rfl (WL.pu rfl (WL.pu rfl ?_))
        exact WL.ys (y26 zu4) rfl rfl .all
      refine WL.pu rfl ?_
      refine WL.seg false 5 79 (B:=((decide (z18.2.2 ≠ 0)) || (decide (zZ.2.2 ≠ 0))) || (decide (((z18.1.length : Nat) : Int) ≠ ((zZ.1.length : Nat) : Int)))) rfl rfl rfl rfl rfl rfl (fun h=>(y25 h).symm) (fun _ zu5=>?_) ?_
      · skip
        refine WL.pu rfl ?_
        refine WL.a (d:=81) rfl rfl rfl (yW Try.underlying36 rfl) ?_
        refine WL.pu rfl ?_
        refine WL.a (d:=83) rfl rfl rfl (yW Try.underlying36 rfl) ?_
        refine WL.pu rfl (WL.pu rfl ?_)
        exact WL.ys (y26 zu5) rfl rfl .all
      refine WL.pu rfl ?_
      refine WL.seg false 5 86 (B:=(((decide (z18.2.2 ≠ 0)) || (decide (zZ.2.2 ≠ 0))) || (decide (((z18.1.length : Nat) : Int) ≠ ((zZ.1.length : Nat) : Int)))) || (decide (((z18.2.1.length : Nat) : Int) ≠ ((zZ.2.1.length : Nat) : Int)))) rfl rfl rfl rfl rfl rfl (fun h=>(y25 h).symm) (fun _ zu6=>?_) ?_
      · skip
        refine WL.pu rfl ?_
        refine WL.a (d:=88) rfl rfl rfl (yW Try.underlying36 rfl) ?_
        refine WL.pu rfl ?_
        refine WL.a (d:=90) rfl rfl rfl (yW Try.underlying36 rfl) ?_
        refine WL.pu rfl (WL.pu rfl ?_)
        exact WL.ys (y26 zu6) rfl rfl .all
      refine WL.nil (WX.a ?_)
      refine WC.cond rfl (fun zjv=>?_) (fun zjv=>?_)
      · replace h:=ym h zjv
        refine WC.b (WC.a (WL.pu rfl (WL.nil (WX.a (WC.ret (WX.yi ?_))))))
        obtain rfl:=Option.some.inj h
        refine WX.yh Try.results7 (.tmp rfl .nil) (fun w hw=>?_)
        exact ⟨[],y10 rfl,trivial,hw.sub (.cons .h4 .nil)⟩
      · replace h:=yn h zjv
        refine WC.skip (WX.a ?_)
        obtain ⟨z7r,zu7,h⟩:=y19 h
        refine WC.y1H (fun (z2A : List Sapi_Come)=>(z7r z2A = some r)) (fun (z2A : List Sapi_Come)=>[(11,(.int .i64 (i64 (Int.tmod zL 1048576)))),(15,(.slice z7t z2A.length z5c)),(16,(.slice z7u z18.2.1.length z5d)),(18,(.slice z7v zZ.1.length z7w)),(19,(.slice z7x zZ.2.1.length z7y))]) (fun (z2A : List Sapi_Come)=>[fz [],row (.slice z7t z2A.length z5c) 50 3 (z2A.flatMap e50),row (.slice z7u z18.2.1.length z5d) 50 3 (z18.2.1.flatMap e50),row (.slice z7v zZ.1.length z7w) 50 3 (zZ.1.flatMap e50),row (.slice z7x zZ.2.1.length z7y) 50 3 (zZ.2.1.flatMap e50)]) ?_ ?_
        · skip
          refine WC.b (WC.a (WL.pu rfl ?_))
          refine WL.a (d:=94) rfl rfl rfl (yW Try.underlying36 rfl) ?_
          refine WL.pu rfl (WL.nil (WX.a (WC.block ?_)))
          refine WC.y28 (fun (zbA : Nat) (zU : List Sapi_Come) (zX : Int)=>(y1u z18 zL z7r zbA zU zX = some r)) (fun (zbA : Nat) (zU : List Sapi_Come) (zX : Int)=>[(11,(.int .i64 (i64 (Int.tmod zL 1048576)))),(15,(.slice z7t zU.length z5c)),(16,(.slice z7u z18.2.1.length z5d)),(18,(.slice z7v zZ.1.length z7w)),(19,(.slice z7x zZ.2.1.length z7y)),(94,(.int .i64 ((z18.1.length : Nat) : Int))),(95,(.int .i64 zX))]) (fun (zbA : Nat) (zU : List Sapi_Come) (zX : Int)=>[fz [],row (.slice z7t zU.length z5c) 50 3 (zU.flatMap e50),row (.slice z7u z18.2.1.length z5d) 50 3 (z18.2.1.flatMap e50),row (.slice z7v zZ.1.length z7w) 50 3 (zZ.1.flatMap e50),row (.slice z7x zZ.2.1.length z7y) 50 3 (zZ.2.1.flatMap e50)]) (fun (zbA : Nat) (zU : List Sapi_Come) (zX : Int)=>zbA) ⟨yz,z18.1,0⟩ h (.cons rfl (.cons rfl (.cons rfl (.cons rfl (.cons rfl (.cons rfl (.cons rfl .nil))))))) (.cons .h4 (.cons .h2 (.cons .h2 (.cons .here (.cons .here .nil))))) ?_
          rintro zbA zU zX h
          obtain ⟨zjn,rfl⟩:=y4A h
          rw [y1u] at h
          refine WC.b (WC.a (WL.pu rfl (WL.nil (WX.a (WC.b ?_)))))
          refine WC.cond rfl (fun zjw=>?_) (fun zjw=>?_)
          · replace h:=ym h zjw
            refine WC.skip (WX.a (WC.b (WC.block (WC.b (WC.a (WL.pu rfl (WL.pu rfl (WL.nil (WX.a ?_)))))))))
            obtain ⟨z5e,h⟩:=yj h
            refine WC.a (WL.pu rfl (WL.pu rfl ?_))
            refine WL.know (fun w hw=>Hp.y2j .h1 hw (by intro hz'; have:=z5e; rw [hz'] at this; omega)) ?_
            rintro ⟨znO,rfl⟩
            refine WL.a (d:=100) rfl rfl rfl (yr y16 rfl rfl z5e.1 z5e.2 y1b) ?_
            refine WL.a (d:=101) rfl rfl rfl (ya y51 rfl (Addr.add_lit _ _ _)) ?_
            refine WL.a (d:=102) rfl rfl rfl (yb yf rfl (y7j .h1 ((y1J (enc:=e50) (l:=zU) (i:=zX) (sz:=3) (fun _=>rfl) z5e.1 z5e.2) 2 _ rfl))) ?_
            refine WL.pu rfl (WL.pu rfl ?_)
            refine WL.a (d:=105) rfl rfl rfl (yr y16 rfl rfl z5e.1 z5e.2 y1b) ?_
            refine WL.a (d:=106) rfl rfl rfl (ya y51 rfl (Addr.add_lit _ _ _)) ?_
            refine WL.y1o rfl rfl (y24 (vs:=[(.int .i64 (i64 (((nth zU zX).fTime) + (i64 (Int.tmod zL 1048576)))))]) (ds:=(zU.set (zX : Int).toNat (⟨((nth zU zX).fSent),((nth zU zX).fNode),i64 (((nth zU zX).fTime) + (i64 (Int.tmod zL 1048576)))⟩ : Sapi_Come)).flatMap e50) y5I rfl rfl rfl rfl (y8V rfl oc_nil) .h1 (y2B (enc:=e50) (sz:=3) (k:=2) (fun _=>rfl) z5e.1 z5e.2 (by decide)) (y2A (enc:=e50) (l:=zU) (sz:=3) (vs:=[(.int .i64 (i64 (((nth zU zX).fTime) + (i64 (Int.tmod zL 1048576)))))]) (y:=(⟨((nth zU zX).fSent),((nth zU zX).fNode),i64 (((nth zU zX).fTime) + (i64 (Int.tmod zL 1048576)))⟩ : Sapi_Come)) (k:=2) (fun _=>rfl) z5e.1 z5e.2 rfl (Nat.le_of_ble_eq_true rfl))) ?_
            refine WL.relen .here (u:=(.slice (some ⟨znO,0,none⟩) ((zU.set (zX : Int).toNat (⟨((nth zU zX).fSent),((nth zU zX).fNode),i64 (((nth zU zX).fTime) + (i64 (Int.tmod zL 1048576)))⟩ : Sapi_Come)).length) z5c)) (y1z (List.length_set).symm) ?_
            refine WL.repin (i:=15) rfl (u:=(.slice (some ⟨znO,0,none⟩) ((zU.set (zX : Int).toNat (⟨((nth zU zX).fSent),((nth zU zX).fNode),i64 (((nth zU zX).fTime) + (i64 (Int.tmod zL 1048576)))⟩ : Sapi_Come)).length) z5c)) (y1z (List.length_set).symm) ?_
            refine WL.nil (WX.yg (WX.a (WC.a (WL.pu rfl (WL.pu rfl (WL.nil ?_))))))
            exact WX.round (G:=Nat × List Sapi_Come × Int) ⟨zjn,(zU.set (zX : Int).toNat (⟨((nth zU zX).fSent),((nth zU zX).fNode),i64 (((nth zU zX).fTime) + (i64 (Int.tmod zL 1048576)))⟩ : Sapi_Come)),(i64 (zX + 1))⟩ h (Nat.lt_succ_self _) (.cons rfl (.cons rfl (.cons rfl (.cons rfl (.cons rfl (.cons rfl (.cons rfl .nil))))))) (.cons .h1 (.cons .here (.cons .here (.cons .here (.cons .here .nil)))))
          · replace h:=yn h zjw
            refine WC.exit (WX.yd (WX.yd (WX.yA ?_)))
            exact WX.mid (G:=List Sapi_Come) zU h (.cons rfl (.cons rfl (.cons rfl (.cons rfl (.cons rfl .nil))))) (.cons .here (.cons .here (.cons .here (.cons .here (.cons .here .nil)))))
        · rintro z2A h
          replace h:=(zu7 z2A).symm.trans h
          obtain ⟨z7s,zu8,h⟩:=y19 h
          refine WC.y1H (fun (z4G : List Sapi_Come)=>(z7s z4G = some r)) (fun (z4G : List Sapi_Come)=>[(15,(.slice z7t z2A.length z5c)),(16,(.slice z7u z4G.length z5d)),(18,(.slice z7v zZ.1.length z7w)),(19,(.slice z7x zZ.2.1.length z7y))]) (fun (z4G : List Sapi_Come)=>[fz [],row (.slice z7t z2A.length z5c) 50 3 (z2A.flatMap e50),row (.slice z7u z4G.length z5d) 50 3 (z4G.flatMap e50),row (.slice z7v zZ.1.length z7w) 50 3 (zZ.1.flatMap e50),row (.slice z7x zZ.2.1.length z7y) 50 3 (zZ.2.1.flatMap e50)]) ?_ ?_
          · skip
            refine WC.b (WC.a (WL.pu rfl ?_))
            refine WL.a (d:=109) rfl rfl rfl (yW Try.underlying36 rfl) ?_
            refine WL.pu rfl (WL.nil (WX.a (WC.block ?_)))
            refine WC.y28 (fun (zbB : Nat) (zV : List Sapi_Come) (zY : Int)=>(y1v z18 zL z7s zbB zV zY = some r)) (fun (zbB : Nat) (zV : List Sapi_Come) (zY : Int)=>[(11,(.int .i64 (i64 (Int.tmod zL 1048576)))),(15,(.slice z7t z2A.length z5c)),(16,(.slice z7u zV.length z5d)),(18,(.slice z7v zZ.1.length z7w)),(19,(.slice z7x zZ.2.1.length z7y)),(109,(.int .i64 ((z18.2.1.length : Nat) : Int))),(110,(.int .i64 zY))]) (fun (zbB : Nat) (zV : List Sapi_Come) (zY : Int)=>[fz [],row (.slice z7t z2A.length z5c) 50 3 (z2A.flatMap e50),row (.slice z7u zV.length z5d) 50 3 (zV.flatMap e50),row (.slice z7v zZ.1.length z7w) 50 3 (zZ.1.flatMap e50),row (.slice z7x zZ.2.1.length z7y) 50 3 (zZ.2.1.flatMap e50)]) (fun (zbB : Nat) (zV : List Sapi_Come) (zY : Int)=>zbB) ⟨yz,z18.2.1,0⟩ h (.cons rfl (.cons rfl (.cons rfl (.cons rfl (.cons rfl (.cons rfl (.cons rfl .nil))))))) (.cons .here (.cons .here (.cons .here (.cons .here (.cons .here .nil))))) ?_
            rintro zbB zV zY h
            obtain ⟨zjo,rfl⟩:=y4B h
            rw [y1v] at h
            refine WC.b (WC.a (WL.pu rfl (WL.nil (WX.a (WC.b ?_)))))
            refine WC.cond rfl (fun zjx=>?_) (fun zjx=>?_)
            · replace h:=ym h zjx
              refine WC.skip (WX.a (WC.b (WC.block (WC.b (WC.a (WL.pu rfl (WL.pu rfl (WL.nil (WX.a ?_)))))))))
              obtain ⟨z5f,h⟩:=yj h
              refine WC.a (WL.pu rfl (WL.pu rfl ?_))
              refine WL.know (fun w hw=>Hp.y2j .h2 hw (by intro hz'; have:=z5f; rw [hz'] at this; omega)) ?_
              rintro ⟨znP,rfl⟩
              refine WL.a (d:=115) rfl rfl rfl (yr y16 rfl rfl z5f.1 z5f.2 y1b) ?_
              refine WL.a (d:=116) rfl rfl rfl (ya y51 rfl (Addr.add_lit _ _ _)) ?_
              refine WL.a (d:=117) rfl rfl rfl (yb yf rfl (y7j .h2 ((y1J (enc:=e50) (l:=zV) (i:=zY) (sz:=3) (fun _=>rfl) z5f.1 z5f.2) 2 _ rfl))) ?_
              refine WL.pu rfl (WL.pu rfl ?_)
              refine WL.a (d:=120) rfl rfl rfl (yr y16 rfl rfl z5f.1 z5f.2 y1b) ?_
              refine WL.a (d:=121) rfl rfl rfl (ya y51 rfl (Addr.add_lit _ _ _)) ?_
              refine WL.y1o rfl rfl (y24 (vs:=[(.int .i64 (i64 (((nth zV zY).fTime) + (i64 (Int.tmod zL 1048576)))))]) (ds:=(zV.set (zY : Int).toNat (⟨((nth zV zY).fSent),((nth zV zY).fNode),i64 (((nth zV zY).fTime) + (i64 (Int.tmod zL 1048576)))⟩ : Sapi_Come)).flatMap e50) y5I rfl rfl rfl rfl (y8V rfl oc_nil) .h2 (y2B (enc:=e50) (sz:=3) (k:=2) (fun _=>rfl) z5f.1 z5f.2 (by decide)) (y2A (enc:=e50) (l:=zV) (sz:=3) (vs:=[(.int .i64 (i64 (((nth zV zY).fTime) + (i64 (Int.tmod zL 1048576)))))]) (y:=(⟨((nth zV zY).fSent),((nth zV zY).fNode),i64 (((nth zV zY).fTime) + (i64 (Int.tmod zL 1048576)))⟩ : Sapi_Come)) (k:=2) (fun _=>rfl) z5f.1 z5f.2 rfl (Nat.le_of_ble_eq_true rfl))) ?_
              refine WL.relen .here (u:=(.slice (some ⟨znP,0,none⟩) ((zV.set (zY : Int).toNat (⟨((nth zV zY).fSent),((nth zV zY).fNode),i64 (((nth zV zY).fTime) + (i64 (Int.tmod zL 1048576)))⟩ : Sapi_Come)).length) z5d)) (y1z (List.length_set).symm) ?_
              refine WL.repin (i:=16) rfl (u:=(.slice (some ⟨znP,0,none⟩) ((zV.set (zY : Int).toNat (⟨((nth zV zY).fSent),((nth zV zY).fNode),i64 (((nth zV zY).fTime) + (i64 (Int.tmod zL 1048576)))⟩ : Sapi_Come)).length) z5d)) (y1z (List.length_set).symm) ?_
              refine WL.nil (WX.yg (WX.a (WC.a (WL.pu rfl (WL.pu rfl (WL.nil ?_))))))
              exact WX.round (G:=Nat × List Sapi_Come × Int) ⟨zjo,(zV.set (zY : Int).toNat (⟨((nth zV zY).fSent),((nth zV zY).fNode),i64 (((nth zV zY).fTime) + (i64 (Int.tmod zL 1048576)))⟩ : Sapi_Come)),(i64 (zY + 1))⟩ h (Nat.lt_succ_self _) (.cons rfl (.cons rfl (.cons rfl (.cons rfl (.cons rfl (.cons rfl (.cons rfl .nil))))))) (.cons .h1 (.cons .h1 (.cons .here (.cons .here (.cons .here .nil)))))
            · replace h:=yn h zjx
              refine WC.exit (WX.yd (WX.yd (WX.yA ?_)))
              exact WX.mid (G:=List Sapi_Come) zV h (.cons rfl (.cons rfl (.cons rfl (.cons rfl .nil)))) (.cons .here (.cons .here (.cons .here (.cons .here (.cons .here .nil)))))
          · rintro z4G h
            replace h:=(zu8 z4G).symm.trans h
            refine WC.b ?_
            obtain ⟨znK,zu9,h⟩:=zf h
            obtain ⟨zfG,znQ,h⟩:=zf h
            obtain ⟨zjq,znR,h⟩:=zf h
            refine WC.a (WL.pu rfl (WL.pu rfl ?_))
            refine WL.b (dd:=125) rfl rfl rfl (zy (l:=[.tmp 123,.tmp 124]) Try.call14 (.cons rfl (.cons rfl .nil))) .nil (cclz hz .nil .here (.cons .h1 (.cons .h2 .nil)) fun w pz ho la=>y4q _ _ _ _ _ _ _ _ zu9 w pz (ZA.row (la _ (.head _) _) (RR.y17 (enc:=e50) (fun _=>rfl) _) ⟨w,pz.1⟩) (ZA.row (la _ (.tail _ (.head _)) _) (RR.y17 (enc:=e50) (fun _=>rfl) _) ⟨w,pz.1⟩)) ?_
            refine WL.pu rfl ?_
            refine WL.seg true 3 126 (B:=zfG) rfl rfl rfl rfl rfl rfl (fun h=>(Option.some.inj (yn znQ h)).symm) (fun _ zua=>?_) ?_
            · skip
              have zdX:=ym znQ zua
              obtain ⟨znL,zub,zdX⟩:=zf zdX
              replace zdX:=Option.some.inj zdX
              refine WL.pu rfl (WL.pu rfl ?_)
              refine WL.b (dd:=129) rfl rfl rfl (zy (l:=[.tmp 127,.tmp 128]) Try.call14 (.cons rfl (.cons rfl .nil))) .nil (cclz hz .nil .here (.cons .h2 (.cons .h3 .nil)) fun w pz ho la=>y4q _ _ _ _ _ _ _ _ zub w pz (ZA.row (la _ (.head _) _) (RR.y17 (enc:=e50) (fun _=>rfl) _) ⟨w,pz.1⟩) (ZA.row (la _ (.tail _ (.head _)) _) (RR.y17 (enc:=e50) (fun _=>rfl) _) ⟨w,pz.1⟩)) ?_
              refine WL.pu rfl ?_
              exact WL.ys zdX rfl rfl .all
            refine WL.pu rfl ?_
            refine WL.cut1 (fun (zbC : Zp)=>Zle (Z ++ []) (Z ++ zbC)) (fun (zbC : Zp)=>[(133,(.bool zjq))]) (fun (zbC : Zp)=>[fz zbC,row (.slice z7t z2A.length z5c) 50 3 (z2A.flatMap e50),row (.slice z7u z4G.length z5d) 50 3 (z4G.flatMap e50),row (.slice z7v zZ.1.length z7w) 50 3 (zZ.1.flatMap e50),row (.slice z7x zZ.2.1.length z7y) 50 3 (zZ.2.1.flatMap e50)]) 2 ?_ (fun zbC zxL=>?_)
            · rcases Bool.eq_false_or_eq_true zfG with hb' | hb'
              · have znS:=hb'; clear hb'
                have zdY:=ym znR znS
                obtain ⟨znM,zuc,zdY⟩:=zf zdY
                replace zdY:=Option.some.inj zdY
                refine WL.pin (i:=131) rfl znS ?_
                refine WL.y7R (dd:=132) rfl rfl rfl (zy (l:=[]) Try.call11 .nil) .nil (ccz hz .nil .here fun w pz ho=>y6k _ _ zuc w pz ) ?_
                rintro zud _
                refine WL.merge .here .here ?_
                refine WL.pu rfl ?_
                exact WL.y7Q (G:=Zp) ([] ++ zud) ((Zle.left _ _).trans (Zle.y11 _ _ _)) (.cons (zq zdY) .nil) (.cons .here (.cons .here (.cons .here (.cons .here (.cons .here .nil)))))
              · have znT:=hb'; clear hb'
                have zjy:=yn znR znT
                replace zjy:=Option.some.inj zjy
                refine WL.pin (i:=131) rfl znT ?_
                refine WL.e rfl rfl rfl (WL.pu rfl ?_)
                exact WL.y7Q (G:=Zp) [] (Zle.refl _) (.cons (zq zjy) .nil) (.cons .here (.cons .here (.cons .here (.cons .here (.cons .here .nil)))))
            · skip
              refine WL.pu rfl (WL.nil (WX.a (WC.ret ?_)))
              obtain rfl:=Option.some.inj h
              refine WX.yh Try.results7 (.tmp rfl .nil) (fun w hw=>?_)
              exact ⟨zbC,y10 rfl,trivial,hw.sub (.cons .here .nil)⟩
end Go.Proofs.Ytinchjigeakocaa

/- A part of this claim's proof: models of functions, walks, plain laws. No conditions. -/
import Derived.Test.YtinchjigeakocaaW31g
namespace Go.Proofs.Ytinchjigeakocaa
open Go Go.RowKit Sep
set_option linter.all false
set_option maxRecDepth 30000
set_option maxHeartbeats 4000000
def y1f (zO : List (List Sapi_Hop)) (zx : List zSt) (z4 : List Sapi_Come × List Sapi_Come × Int) (z5 : Int) (zi : Sapi_Config) (z7E : Int → Option Bool) : Nat → Int → Int → Int → Option Bool
  | 0,_,_,_=>none
  | zj6 + 1,z2M,z4J,z16=>if decide (z16 ≥ 0) then jp2 (fun (z7F : Int) (z7G : Int)=>y1f zO zx z4 z5 zi z7E zj6 z7F z7G (i64 (z16 - 1))) fun zdM=>chk ((0 : Int) ≤ z16 ∧ z16 < (((nth zO ((nth zx ((nth z4.1 z5).fSent)).fVL)).length : Nat) : Int)) (if decide (((nth (nth zO ((nth zx ((nth z4.1 z5).fSent)).fVL)) z16).fNext) = z4J) then chk ((0 : Int) ≤ z16 ∧ z16 < (((nth zO ((nth zx ((nth z4.1 z5).fSent)).fVL)).length : Nat) : Int)) (chk ((0 : Int) ≤ z16 ∧ z16 < (((nth zO ((nth zx ((nth z4.1 z5).fSent)).fVL)).length : Nat) : Int)) (chk ((0 : Int) ≤ ((nth (nth zO ((nth zx ((nth z4.1 z5).fSent)).fVL)) z16).fLink) ∧ ((nth (nth zO ((nth zx ((nth z4.1 z5).fSent)).fVL)) z16).fLink) < ((zi.fLinks.length : Nat) : Int)) (if decide (((nth (nth zO ((nth zx ((nth z4.1 z5).fSent)).fVL)) z16).fNode) ≥ ((zi.fModules.length : Nat) : Int)) then chk ((0 : Int) ≤ (i64 (((nth (nth zO ((nth zx ((nth z4.1 z5).fSent)).fVL)) z16).fNode) - ((zi.fModules.length : Nat) : Int))) ∧ (i64 (((nth (nth zO ((nth zx ((nth z4.1 z5).fSent)).fVL)) z16).fNode) - ((zi.fModules.length : Nat) : Int))) < ((zi.fSwitches.length : Nat) : Int)) (zdM (i64 ((i64 (z2M + (i64 (((nth zx ((nth z4.1 z5).fSent)).fSize) * ((nth zi.fLinks ((nth (nth zO ((nth zx ((nth z4.1 z5).fSent)).fVL)) z16).fLink)).fSlow))))) + ((nth zi.fSwitches (i64 (((nth (nth zO ((nth zx ((nth z4.1 z5).fSent)).fVL)) z16).fNode) - ((zi.fModules.length : Nat) : Int)))).fDelay))) ((nth (nth zO ((nth zx ((nth z4.1 z5).fSent)).fVL)) z16).fNode)) else zdM (i64 (z2M + (i64 (((nth zx ((nth z4.1 z5).fSent)).fSize) * ((nth zi.fLinks ((nth (nth zO ((nth zx ((nth z4.1 z5).fSent)).fVL)) z16).fLink)).fSlow))))) ((nth (nth zO ((nth zx ((nth z4.1 z5).fSent)).fVL)) z16).fNode)))) else zdM z2M z4J) else z7E z2M
theorem y4E {n : Nat} {zO : List (List Sapi_Hop)} {zx : List zSt} {z4 : List Sapi_Come × List Sapi_Come × Int} {z5 : Int} {zi : Sapi_Config} {z7E : Int → Option Bool} {z2M : Int} {z4J : Int} {z16 : Int} {r : Bool} (h : y1f zO zx z4 z5 zi z7E n z2M z4J z16 = some r) : ∃ m,n = m + 1:=by
  cases n with
  | zero=>cases h
  | succ m=>exact ⟨m,rfl⟩
def y1v (z4 : List Sapi_Come × List Sapi_Come × Int) (zx : List zSt) (zO : List (List Sapi_Hop)) (zi : Sapi_Config) (z7H : Option Bool) : Nat → Int → (List (S51 × Sapi_Come)) → Option Bool
  | 0,_,_=>none
  | zj7 + 1,z5,z1z=>if decide (z5 < ((z4.1.length : Nat) : Int)) then jp0 (y1v z4 zx zO zi z7H zj7 (i64 (z5 + 1)) (yU z1z (⟨((nth zx ((nth z4.1 z5).fSent)).fVL),((nth z4.1 z5).fNode)⟩ : S51) (⟨((nth z4.1 z5).fSent),((nth z4.1 z5).fNode),((nth z4.1 z5).fTime)⟩ : Sapi_Come))) fun zj8=>chk ((0 : Int) ≤ z5 ∧ z5 < ((z4.1.length : Nat) : Int)) (chk ((decide (z5 > 0)) = true → ((0 : Int) ≤ (i64 (z5 - 1)) ∧ (i64 (z5 - 1)) < ((z4.1.length : Nat) : Int))) (chk ((decide (z5 > 0)) = true → ((decide (((nth z4.1 (i64 (z5 - 1))).fTime) > ((nth z4.1 z5).fTime))) = false → ((0 : Int) ≤ (i64 (z5 - 1)) ∧ (i64 (z5 - 1)) < ((z4.1.length : Nat) : Int)))) (chk ((decide (z5 > 0)) = true → ((decide (((nth z4.1 (i64 (z5 - 1))).fTime) > ((nth z4.1 z5).fTime))) = false → ((decide (((nth z4.1 (i64 (z5 - 1))).fTime) = ((nth z4.1 z5).fTime))) = true → ((0 : Int) ≤ (i64 (z5 - 1)) ∧ (i64 (z5 - 1)) < ((z4.1.length : Nat) : Int))))) (if (((decide (z5 > 0)) && ((decide (((nth z4.1 (i64 (z5 - 1))).fTime) > ((nth z4.1 z5).fTime))) || ((decide (((nth z4.1 (i64 (z5 - 1))).fTime) = ((nth z4.1 z5).fTime))) && (decide (((nth z4.1 (i64 (z5 - 1))).fSent) > ((nth z4.1 z5).fSent)))))) || (decide (((nth z4.1 z5).fSent) < 0))) || (decide (((nth z4.1 z5).fSent) ≥ ((zx.length : Nat) : Int))) then some false else chk ((0 : Int) ≤ ((nth z4.1 z5).fSent) ∧ ((nth z4.1 z5).fSent) < ((zx.length : Nat) : Int)) (chk ((0 : Int) ≤ ((nth zx ((nth z4.1 z5).fSent)).fVL) ∧ ((nth zx ((nth z4.1 z5).fSent)).fVL) < ((zO.length : Nat) : Int)) (jp1 (fun (z7I : Int)=>if (decide (((nth z4.1 z5).fTime) < z7I)) || ((y1o z1z (⟨((nth zx ((nth z4.1 z5).fSent)).fVL),((nth z4.1 z5).fNode)⟩ : S51)) && ((decide (((yr z1z (⟨((nth zx ((nth z4.1 z5).fSent)).fVL),((nth z4.1 z5).fNode)⟩ : S51) (⟨0,0,0⟩ : Sapi_Come)).fSent) ≥ ((nth z4.1 z5).fSent))) || (decide (((yr z1z (⟨((nth zx ((nth z4.1 z5).fSent)).fVL),((nth z4.1 z5).fNode)⟩ : S51) (⟨0,0,0⟩ : Sapi_Come)).fTime) ≥ ((nth z4.1 z5).fTime))))) then some false else zj8) fun z7E=>y1f zO zx z4 z5 zi z7E yA ((nth zx ((nth z4.1 z5).fSent)).fTime) ((nth z4.1 z5).fNode) (i64 ((((nth zO ((nth zx ((nth z4.1 z5).fSent)).fVL)).length : Nat) : Int) - 1)))))))) else z7H
theorem y4F {n : Nat} {z4 : List Sapi_Come × List Sapi_Come × Int} {zx : List zSt} {zO : List (List Sapi_Hop)} {zi : Sapi_Config} {z7H : Option Bool} {z5 : Int} {z1z : List (S51 × Sapi_Come)} {r : Bool} (h : y1v z4 zx zO zi z7H n z5 z1z = some r) : ∃ m,n = m + 1:=by
  cases n with
  | zero=>cases h
  | succ m=>exact ⟨m,rfl⟩
def y2S (zi : Sapi_Config) (z8f : Int) (zO : List (List Sapi_Hop)) (zx : List zSt) : Option Bool :=
  (y43 zi z8f zO zx).bind fun znB=>if !znB then (y3N).bind fun znC=>some znC else (y2M zi z8f zO zx).bind fun z4=>if decide (z4.2.2 ≠ 0) then some false else jp0 ((y3N).bind fun znD=>some znD) fun z7H=>y1v z4 zx zO zi z7H yA 0 ([] : List (S51 × Sapi_Come))
set_option maxRecDepth 20000 in
theorem y6c (Z : Zp) (z5d : Option Addr) (z5e : Nat) (z5f : Option Addr) (z5g : Nat) (z5h : Option Addr) (z5i : Nat) (z5j : Option Addr) (z5k : Nat) (z5l : Option Addr) (z5m : Nat) (z5n : Option Addr) (z5o : Nat) (z5p : Option Addr) (z5q : Nat) (z5r : Option Addr) (z5s : Nat) (z3e : Option Addr) (z3f : Nat) (z3g : Option Addr) (z3h : Nat) (zi : Sapi_Config) (z8f : Int) (zO : List (List Sapi_Hop)) (zx : List zSt) (r : Bool)
     (h : y2S zi z8f zO zx = some r) (w₀ : World) (hz : PZ [] w₀ Z)
     (znE : ZS Z 4 (y2x Z) z5d z5e zi.fModules)
     (znF : ZS Z 4 (y2O Z) z5f z5g zi.fChannels)
     (zj9 : ZS Z 4 (fun r x=>r = e64 x) z5h z5i zi.fSwitches)
     (zja : ZS Z 4 (fun r x=>r = e62 x) z5j z5k zi.fLinks)
     (znG : ZS Z 7 (y2F Z) z5l z5m zi.fVLs)
     (znH : ZS Z 5 (fun r x=>r = y34 x) z5n z5o zi.fHealth)
     (znI : ZS Z 3 (y2P Z) z5p z5q zi.fCauses)
     (znJ : ZS Z 4 (fun r x=>r = y35 x) z5r z5s zi.fVersions)
     (zjb : ZS Z 1 (p55 Z) z3e z3f zO)
     (zjc : ZS Z 3 (fun r x=>r = e53 x) z3g z3h zx) :
    Calls Try.prog 5 #[(.agg #[(.slice z5d zi.fModules.length z5e),(.slice z5f zi.fChannels.length z5g),(.slice z5h zi.fSwitches.length z5i),(.slice z5j zi.fLinks.length z5k),(.slice z5l zi.fVLs.length z5m),(.slice z5n zi.fHealth.length z5o),(.slice z5p zi.fCauses.length z5q),(.slice z5r zi.fVersions.length z5s)]),(.int .i64 z8f),(.slice z3e zO.length z3f),(.slice z3g zx.length z3h)] w₀ fun e w'=>∃ Zn : Zp,e = .returned (.bool r) ∧ True ∧ Hp [] w₀ w' [fz Zn]:=by
  unfold y2S at h
  refine Calls.yl (vs:=[(.agg #[(.slice z5d zi.fModules.length z5e),(.slice z5f zi.fChannels.length z5g),(.slice z5h zi.fSwitches.length z5i),(.slice z5j zi.fLinks.length z5k),(.slice z5l zi.fVLs.length z5m),(.slice z5n zi.fHealth.length z5o),(.slice z5p zi.fCauses.length z5q),(.slice z5r zi.fVersions.length z5s)]),(.int .i64 z8f),(.slice z3e zO.length z3f),(.slice z3g zx.length z3h)]) (pre:=[]) (env:=[(0,(.agg #[(.slice z5d zi.fModules.length z5e),(.slice z5f zi.fChannels.length z5g),(.slice z5h zi.fSwitches.length z5i),(.slice z5j zi.fLinks.length z5k),(.slice z5l zi.fVLs.length z5m),(.slice z5n zi.fHealth.length z5o),(.slice z5p zi.fCauses.length z5q),(.slice z5r zi.fVersions.length z5s)])),(1,(.int .i64 z8f)),(2,(.slice z3e zO.length z3f)),(3,(.slice z3g zx.length z3h))]) Try.func5 rfl Try.ntmps5 rfl (Hp.nil w₀ _) rfl ?_
  refine WC.pool (WC.b (WC.a ?_))
  refine WL.new (dd:=4) rfl rfl rfl (y2c (cs:=[(.slice z5d zi.fModules.length z5e),(.slice z5f zi.fChannels.length z5g),(.slice z5h zi.fSwitches.length z5i),(.slice z5j zi.fLinks.length z5k),(.slice z5l zi.fVLs.length z5m),(.slice z5n zi.fHealth.length z5o),(.slice z5p zi.fCauses.length z5q),(.slice z5r zi.fVersions.length z5s)]) rfl rfl) ?_
  intro z3i _
  refine WL.pu rfl (WL.nil (WX.a (WC.b (WC.b ?_))))
  obtain ⟨znB,ztO,h⟩:=zp h
  refine WC.a ?_
  refine WL.a (d:=23) rfl rfl rfl (yH y1J rfl (y1j .here) rfl) ?_
  refine WL.pu rfl (WL.pu rfl (WL.pu rfl ?_))
  refine WL.b (dd:=27) rfl rfl rfl (zF (l:=[.tmp 23,.tmp 24,.tmp 25,.tmp 26]) Try.call20 (.cons rfl (.cons rfl (.cons rfl (.cons rfl .nil))))) .nil (ccz hz .nil .h1 fun w pz ho=>y8u _ _ _ _ _ _ _ _ _ _ _ _ _ _ _ _ _ _ _ _ _ _ _ _ _ _ ztO w pz ((znE.mono (Zle.left _ _)).weak (fun _ _ h=>y28 (Zle.left _ _) h)) ((znF.mono (Zle.left _ _)).weak (fun _ _ h=>y2h (Zle.left _ _) h)) (zj9.mono (Zle.left _ _)) (zja.mono (Zle.left _ _)) ((znG.mono (Zle.left _ _)).weak (fun _ _ h=>y29 (Zle.left _ _) h)) (znH.mono (Zle.left _ _)) ((znI.mono (Zle.left _ _)).weak (fun _ _ h=>y2i (Zle.left _ _) h)) (znJ.mono (Zle.left _ _)) ((zjb.mono (Zle.left _ _)).weak (fun _ _ h=>y42 (Zle.left _ _) h)) (zjc.mono (Zle.left _ _))) ?_
  refine WL.pu rfl (WL.nil (WX.a ?_))
  refine WC.cond rfl (fun zjd=>?_) (fun zjd=>?_)
  · replace h:=ym h zjd
    refine WC.b ?_
    obtain ⟨znC,ztP,h⟩:=zp h
    refine WC.a ?_
    refine WL.y7O (dd:=29) rfl rfl rfl (zF (l:=[]) Try.call11 .nil) .nil (ccz hz .nil .h1 fun w pz ho=>y6i _ _ ztP w pz ) ?_
    rintro ztQ _
    refine WL.merge .here .h1 ?_
    refine WL.pu rfl (WL.nil (WX.a (WC.ret (WX.yg ?_))))
    obtain rfl:=Option.some.inj h
    refine WX.yi Try.results5 (.tmp rfl .nil) (fun w hw=>?_)
    exact ⟨([] ++ ztQ),y10 rfl,trivial,hw.sub (.cons .here .nil)⟩
  · replace h:=yn h zjd
    refine WC.skip (WX.a (WC.b ?_))
    obtain ⟨z4,ztR,h⟩:=zp h
    refine WC.a ?_
    refine WL.a (d:=31) rfl rfl rfl (yH y1J rfl (y1j .here) rfl) ?_
    refine WL.pu rfl (WL.pu rfl (WL.pu rfl ?_))
    refine WL.y7P (dd:=35) rfl rfl rfl (zF (l:=[.tmp 31,.tmp 32,.tmp 33,.tmp 34]) Try.call12 (.cons rfl (.cons rfl (.cons rfl (.cons rfl .nil))))) .nil (ccz hz .nil .h1 fun w pz ho=>y6h _ _ _ _ _ _ _ _ _ _ _ _ _ _ _ _ _ _ _ _ _ _ _ _ _ _ ztR w pz ((znE.mono (Zle.left _ _)).weak (fun _ _ h=>y28 (Zle.left _ _) h)) ((znF.mono (Zle.left _ _)).weak (fun _ _ h=>y2h (Zle.left _ _) h)) (zj9.mono (Zle.left _ _)) (zja.mono (Zle.left _ _)) ((znG.mono (Zle.left _ _)).weak (fun _ _ h=>y29 (Zle.left _ _) h)) (znH.mono (Zle.left _ _)) ((znI.mono (Zle.left _ _)).weak (fun _ _ h=>y2i (Zle.left _ _) h)) (znJ.mono (Zle.left _ _)) ((zjb.mono (Zle.left _ _)).weak (fun _ _ h=>y42 (Zle.left _ _) h)) (zjc.mono (Zle.left _ _))) ?_
    rintro ztS ztT zxP zxQ _
    refine WL.pu rfl (WL.pu rfl (WL.pu rfl (WL.pu rfl (WL.pu rfl (WL.pu rfl (WL.pu rfl (WL.nil (WX.a (WC.b (WC.b (WC.a (WL.pu rfl (WL.pu rfl (WL.nil (WX.a ?_)))))))))))))))
    refine WC.cond rfl (fun zje=>?_) (fun zje=>?_)
    · replace h:=ym h zje
      refine WC.b (WC.a (WL.pu rfl (WL.nil (WX.a (WC.ret (WX.yg ?_))))))
      obtain rfl:=Option.some.inj h
      refine WX.yi Try.results5 (.tmp rfl .nil) (fun w hw=>?_)
      exact ⟨[],y10 rfl,trivial,hw.sub (.cons .h3 .nil)⟩
    · replace h:=yn h zje
      refine WC.skip (WX.a (WC.b (WC.a ?_)))
      refine WL.new (dd:=41) rfl rfl rfl (y6v (fun x=>Value.agg (e51 x).toArray) (fun x=>Value.agg (e50 x).toArray)) ?_
      intro z3j _
      refine WL.pu rfl (WL.nil (WX.a ?_))
      obtain ⟨z7H,ztU,h⟩:=y2r h
      refine WC.y2d ((z7H = some r)) ([]) ([fz []]) ?_ ?_
      · skip
        refine WC.b (WC.a (WL.pu rfl ?_))
        refine WL.a (d:=43) rfl rfl rfl (yZ Try.underlying36 rfl) ?_
        refine WL.pu rfl (WL.nil (WX.a (WC.block ?_)))
        refine WC.y6Y (fun (zbr : Nat) (z5 : Int) (z1z : List (S51 × Sapi_Come)) (z9y : Option Addr) (z1u : Nat)=>(y1v z4 zx zO zi z7H zbr z5 z1z = some r)) (fun (zbr : Nat) (z5 : Int) (z1z : List (S51 × Sapi_Come)) (z9y : Option Addr) (z1u : Nat)=>[(2,(.slice z3e zO.length z3f)),(3,(.slice z3g zx.length z3h)),(4,(.pointer (some ⟨z3i,0,none⟩))),(9,(.slice z9y z4.1.length z1u)),(12,(.map (some z3j))),(42,(.slice z9y z4.1.length z1u)),(43,(.int .i64 ((z4.1.length : Nat) : Int))),(44,(.int .i64 z5))]) (fun (zbr : Nat) (z5 : Int) (z1z : List (S51 × Sapi_Come)) (z9y : Option Addr) (z1u : Nat)=>[fz [],row (.slice z9y z4.1.length z1u) 50 3 (z4.1.flatMap e50),stb z3i 31 [(.slice z5d zi.fModules.length z5e),(.slice z5f zi.fChannels.length z5g),(.slice z5h zi.fSwitches.length z5i),(.slice z5j zi.fLinks.length z5k),(.slice z5l zi.fVLs.length z5m),(.slice z5n zi.fHealth.length z5o),(.slice z5p zi.fCauses.length z5q),(.slice z5r zi.fVersions.length z5s)],y16 z3j (fun x=>Value.agg (e51 x).toArray) (fun x=>Value.agg (e50 x).toArray) z1z]) (fun (zbr : Nat) (z5 : Int) (z1z : List (S51 × Sapi_Come)) (z9y : Option Addr) (z1u : Nat)=>zbr) ⟨yA,0,([] : List (S51 × Sapi_Come)),ztS,ztT⟩ h (.cons rfl (.cons rfl (.cons rfl (.cons rfl (.cons rfl (.cons rfl (.cons rfl (.cons rfl .nil)))))))) (.cons .h4 (.cons .h1 (.cons .h2 (.cons .here .nil)))) ?_
        rintro zbr z5 z1z z9y z1u h
        obtain ⟨zj7,rfl⟩:=y4F h
        rw [y1v] at h
        refine WC.b (WC.a (WL.pu rfl (WL.nil (WX.a (WC.b ?_)))))
        refine WC.cond rfl (fun zjf=>?_) (fun zjf=>?_)
        · replace h:=ym h zjf
          refine WC.skip (WX.a ?_)
          obtain ⟨zj8,ztV,h⟩:=y2r h
          refine WC.y2p (fun (z9z : Option Addr) (z9A : Nat)=>(zj8 = some r)) (fun (z9z : Option Addr) (z9A : Nat)=>[(2,(.slice z3e zO.length z3f)),(3,(.slice z3g zx.length z3h)),(4,(.pointer (some ⟨z3i,0,none⟩))),(9,(.slice z9z z4.1.length z9A)),(12,(.map (some z3j))),(42,(.slice z9z z4.1.length z9A)),(43,(.int .i64 ((z4.1.length : Nat) : Int))),(44,(.int .i64 z5))]) (fun (z9z : Option Addr) (z9A : Nat)=>[fz [],row (.slice z9z z4.1.length z9A) 50 3 (z4.1.flatMap e50),stb z3i 31 [(.slice z5d zi.fModules.length z5e),(.slice z5f zi.fChannels.length z5g),(.slice z5h zi.fSwitches.length z5i),(.slice z5j zi.fLinks.length z5k),(.slice z5l zi.fVLs.length z5m),(.slice z5n zi.fHealth.length z5o),(.slice z5p zi.fCauses.length z5q),(.slice z5r zi.fVersions.length z5s)],y16 z3j (fun x=>Value.agg (e51 x).toArray) (fun x=>Value.agg (e50 x).toArray) (yU z1z (⟨((nth zx ((nth z4.1 z5).fSent)).fVL),((nth z4.1 z5).fNode)⟩ : S51) (⟨((nth z4.1 z5).fSent),((nth z4.1 z5).fNode),((nth z4.1 z5).fTime)⟩ : Sapi_Come))]) ?_ ?_
          · skip
            refine WC.block (WC.b ?_)
            obtain ⟨zdN,h⟩:=yj h
            refine WC.a (WL.pu rfl ?_)
            refine WL.know (fun w hw=>Hp.y2w .h1 hw (by intro hz'; have:=zdN; rw [hz'] at this; omega)) ?_
            rintro ⟨z26,rfl⟩
            refine WL.a (d:=47) rfl rfl rfl (yq y15 rfl rfl zdN.1 zdN.2 y18) ?_
            refine WL.a (d:=48) rfl rfl rfl (y1C (cs:=(e50 (nth z4.1 z5))) y20 rfl rfl (y1P .h1 (y1y (enc:=e50) (l:=z4.1) (i:=z5) (sz:=3) (fun _=>rfl) zdN.1 zdN.2))) ?_
            refine WL.new (dd:=14) rfl rfl rfl (y23 (cs:=[(.int .i64 0),(.int .i64 0),(.int .i64 0)]) y73 rfl) ?_
            intro z5t _
            refine WL.pu rfl ?_
            refine WL.y1l rfl rfl (y1D y3R rfl rfl rfl .here rfl rfl rfl) ?_
            refine WL.nil (WX.a (WC.b (WC.b ?_)))
            obtain ⟨ztW,h⟩:=yj h
            obtain ⟨ztX,h⟩:=yj h
            obtain ⟨ztY,h⟩:=yj h
            refine WC.yV (fun i=>[].contains i) [] rfl ?_
            refine WD.a (i:=0) (d:=49) (by kernel_rfl) rfl (z2 (by kernel_rfl)) (z3 (by kernel_rfl)) rfl rfl rfl (fun _=>q_m rfl) ?_
            refine WD.a (i:=1) (d:=50) (by kernel_rfl) rfl (z2 (by kernel_rfl)) (z3 (by kernel_rfl)) rfl rfl rfl (fun _=>y3a rfl rfl) ?_
            refine WD.a (i:=2) (d:=51) (by kernel_rfl) rfl (z2 (by kernel_rfl)) (z3 (by kernel_rfl)) rfl rfl rfl (fun _=>q_m rfl) ?_
            refine WD.mid (fuel':=12) [(2,(.slice z3e zO.length z3f)),(3,(.slice z3g zx.length z3h)),(4,(.pointer (some ⟨z3i,0,none⟩))),(9,(.slice (some ⟨z26,0,none⟩) z4.1.length z1u)),(12,(.map (some z3j))),(42,(.slice (some ⟨z26,0,none⟩) z4.1.length z1u)),(43,(.int .i64 ((z4.1.length : Nat) : Int))),(44,(.int .i64 z5)),(14,(.pointer (some ⟨z5t,0,none⟩))),(51,(.bool (decide (z5 > 0)))),(83,(.bool ((decide (z5 > 0)) && ((decide (((nth z4.1 (i64 (z5 - 1))).fTime) > ((nth z4.1 z5).fTime))) || ((decide (((nth z4.1 (i64 (z5 - 1))).fTime) = ((nth z4.1 z5).fTime))) && (decide (((nth z4.1 (i64 (z5 - 1))).fSent) > ((nth z4.1 z5).fSent))))))))] (y1i 47 [34,33,32,31,30,29,28,27,26,25,24,23,22,21,20,19,18,17,16,15,14,13,12,11,10,9,8,7,6,5,4,3,2,1,0]) ?_ (fun znK=>?_)
            rotate_left
            · rcases Bool.eq_false_or_eq_true (decide (z5 > 0)) with hb' | hb'
              · have zbs:=hb'; clear hb'
                have zfw:=ztW zbs
                have ztZ:=ztX zbs
                have zu0:=ztY zbs
                refine WD.pin (i:=51) rfl zbs ?_
                refine WD.a (i:=3) (d:=52) (by kernel_rfl) rfl (z2 (by kernel_rfl)) (z3 (by kernel_rfl)) rfl rfl rfl (fun _=>q_m rfl) ?_
                refine WD.a (i:=4) (d:=53) (by kernel_rfl) rfl (z2 (by kernel_rfl)) (z3 (by kernel_rfl)) rfl rfl rfl (fun _=>q_m rfl) ?_
                refine WD.a (i:=5) (d:=54) (by kernel_rfl) rfl (z2 (by kernel_rfl)) (z3 (by kernel_rfl)) rfl rfl rfl (fun _=>y45 rfl rfl rfl) ?_
                refine WD.a (i:=6) (d:=55) (by kernel_rfl) rfl (z2 (by kernel_rfl)) (z3 (by kernel_rfl)) rfl rfl rfl (fun _=>yq y15 rfl rfl zfw.1 zfw.2 y18) ?_
                refine WD.a (i:=7) (d:=56) (by kernel_rfl) rfl (z2 (by kernel_rfl)) (z3 (by kernel_rfl)) rfl rfl rfl (fun _=>ya y47 rfl (Addr.add_lit _ _ _)) ?_
                refine WD.e (i:=8) (d:=57) (by kernel_rfl) rfl (z2 (by kernel_rfl)) (z3 (by kernel_rfl)) rfl rfl rfl (yb ye rfl (y6n .h2 ((y1y (enc:=e50) (l:=z4.1) (i:=i64 (z5 - 1)) (sz:=3) (fun _=>rfl) zfw.1 zfw.2) 2 _ rfl))) ?_
                refine WD.a (i:=9) (d:=58) (by kernel_rfl) rfl (z2 (by kernel_rfl)) (z3 (by kernel_rfl)) rfl rfl rfl (fun _=>ya y47 rfl rfl) ?_
                refine WD.e (i:=10) (d:=59) (by kernel_rfl) rfl (z2 (by kernel_rfl)) (z3 (by kernel_rfl)) rfl rfl rfl (yb ye rfl (yc .here rfl)) ?_
                refine WD.a (i:=11) (d:=60) (by kernel_rfl) rfl (z2 (by kernel_rfl)) (z3 (by kernel_rfl)) rfl rfl rfl (fun _=>y3a rfl rfl) ?_
                refine WD.a (i:=12) (d:=61) (by kernel_rfl) rfl (z2 (by kernel_rfl)) (z3 (by kernel_rfl)) rfl rfl rfl (fun _=>q_m rfl) ?_
                refine WD.mid (fuel':=13) [(2,(.slice z3e zO.length z3f)),(3,(.slice z3g zx.length z3h)),(4,(.pointer (some ⟨z3i,0,none⟩))),(9,(.slice (some ⟨z26,0,none⟩) z4.1.length z1u)),(12,(.map (some z3j))),(42,(.slice (some ⟨z26,0,none⟩) z4.1.length z1u)),(43,(.int .i64 ((z4.1.length : Nat) : Int))),(44,(.int .i64 z5)),(14,(.pointer (some ⟨z5t,0,none⟩))),(51,(.bool true)),(61,(.bool (decide (((nth z4.1 (i64 (z5 - 1))).fTime) > ((nth z4.1 z5).fTime))))),(82,(.bool ((decide (((nth z4.1 (i64 (z5 - 1))).fTime) > ((nth z4.1 z5).fTime))) || ((decide (((nth z4.1 (i64 (z5 - 1))).fTime) = ((nth z4.1 z5).fTime))) && (decide (((nth z4.1 (i64 (z5 - 1))).fSent) > ((nth z4.1 z5).fSent)))))))] (y1i 47 [33,32,31,30,29,28,27,26,25,24,23,22,21,20,19,18,17,16,15,14,13,12,11,10,9,8,7,6,5,4,3,2,1,0]) ?_ (fun znL=>?_)
                rotate_left
                · rcases Bool.eq_false_or_eq_true (decide (((nth z4.1 (i64 (z5 - 1))).fTime) > ((nth z4.1 z5).fTime))) with hb' | hb'
                  · have zjg:=hb'; clear hb'
                    refine WD.pin (i:=61) rfl zjg ?_
                    refine WD.b (i:=13) (d:=62) (by kernel_rfl) rfl (z2 (by kernel_rfl)) (z3 (by kernel_rfl)) rfl rfl rfl ?_
                    refine WD.b (i:=14) (d:=63) (by kernel_rfl) rfl (z2 (by kernel_rfl)) (z3 (by kernel_rfl)) rfl rfl rfl ?_
                    refine WD.b (i:=15) (d:=64) (by kernel_rfl) rfl (z2 (by kernel_rfl)) (z3 (by kernel_rfl)) rfl rfl rfl ?_
                    refine WD.b (i:=16) (d:=65) (by kernel_rfl) rfl (z2 (by kernel_rfl)) (z3 (by kernel_rfl)) rfl rfl rfl ?_
                    refine WD.b (i:=17) (d:=66) (by kernel_rfl) rfl (z2 (by kernel_rfl)) (z3 (by kernel_rfl)) rfl rfl rfl ?_
                    refine WD.b (i:=18) (d:=67) (by kernel_rfl) rfl (z2 (by kernel_rfl)) (z3 (by kernel_rfl)) rfl rfl rfl ?_
                    refine WD.b (i:=19) (d:=68) (by kernel_rfl) rfl (z2 (by kernel_rfl)) (z3 (by kernel_rfl)) rfl rfl rfl ?_
                    refine WD.b (i:=20) (d:=69) (by kernel_rfl) rfl (z2 (by kernel_rfl)) (z3 (by kernel_rfl)) rfl rfl rfl ?_
                    refine WD.b (i:=21) (d:=70) (by kernel_rfl) rfl (z2 (by kernel_rfl)) (z3 (by kernel_rfl)) rfl rfl rfl ?_
                    refine WD.b (i:=22) (d:=71) (by kernel_rfl) rfl (z2 (by kernel_rfl)) (z3 (by kernel_rfl)) rfl rfl rfl ?_
                    refine WD.b (i:=23) (d:=72) (by kernel_rfl) rfl (z2 (by kernel_rfl)) (z3 (by kernel_rfl)) rfl rfl rfl ?_
                    refine WD.b (i:=24) (d:=73) (by kernel_rfl) rfl (z2 (by kernel_rfl)) (z3 (by kernel_rfl)) rfl rfl rfl ?_
                    refine WD.b (i:=25) (d:=74) (by kernel_rfl) rfl (z2 (by kernel_rfl)) (z3 (by kernel_rfl)) rfl rfl rfl ?_
                    refine WD.b (i:=26) (d:=75) (by kernel_rfl) rfl (z2 (by kernel_rfl)) (z3 (by kernel_rfl)) rfl rfl rfl ?_
                    refine WD.b (i:=27) (d:=76) (by kernel_rfl) rfl (z2 (by kernel_rfl)) (z3 (by kernel_rfl)) rfl rfl rfl ?_
                    refine WD.b (i:=28) (d:=77) (by kernel_rfl) rfl (z2 (by kernel_rfl)) (z3 (by kernel_rfl)) rfl rfl rfl ?_
                    refine WD.b (i:=29) (d:=78) (by kernel_rfl) rfl (z2 (by kernel_rfl)) (z3 (by kernel_rfl)) rfl rfl rfl ?_
                    refine WD.b (i:=30) (d:=79) (by kernel_rfl) rfl (z2 (by kernel_rfl)) (z3 (by kernel_rfl)) rfl rfl rfl ?_
                    refine WD.b (i:=31) (d:=80) (by kernel_rfl) rfl (z2 (by kernel_rfl)) (z3 (by kernel_rfl)) rfl rfl rfl ?_
                    refine WD.b (i:=32) (d:=81) (by kernel_rfl) rfl (z2 (by kernel_rfl)) (z3 (by kernel_rfl)) rfl rfl rfl ?_
                    refine WD.a (i:=33) (d:=82) (by kernel_rfl) rfl (z2 (by kernel_rfl)) (z3 (by kernel_rfl)) rfl rfl rfl (fun _=>y1b rfl rfl) ?_
                    refine WD.yE (.cons .here (.cons .here (.cons .here (.cons .here (.cons .here .nil))))) ?_ znL
                    exact (.cons rfl (.cons rfl (.cons rfl (.cons rfl (.cons rfl (.cons rfl (.cons rfl (.cons rfl (.cons rfl (.cons rfl (.cons (zh (Eq.symm zjg)) (.cons (zh (y1X zjg)) .nil))))))))))))
                  · have zdO:=hb'; clear hb'
                    have zfx:=ztZ zdO
                    have zu1:=zu0 zdO
                    refine WD.pin (i:=61) rfl zdO ?_
                    refine WD.a (i:=13) (d:=62) (by kernel_rfl) rfl (z2 (by kernel_rfl)) (z3 (by kernel_rfl)) rfl rfl rfl (fun _=>q_m rfl) ?_
                    refine WD.a (i:=14) (d:=63) (by kernel_rfl) rfl (z2 (by kernel_rfl)) (z3 (by kernel_rfl)) rfl rfl rfl (fun _=>q_m rfl) ?_
                    refine WD.a (i:=15) (d:=64) (by kernel_rfl) rfl (z2 (by kernel_rfl)) (z3 (by kernel_rfl)) rfl rfl rfl (fun _=>y45 rfl rfl rfl) ?_
                    refine WD.a (i:=16) (d:=65) (by kernel_rfl) rfl (z2 (by kernel_rfl)) (z3 (by kernel_rfl)) rfl rfl rfl (fun _=>yq y15 rfl rfl zfx.1 zfx.2 y18) ?_
                    refine WD.a (i:=17) (d:=66) (by kernel_rfl) rfl (z2 (by kernel_rfl)) (z3 (by kernel_rfl)) rfl rfl rfl (fun _=>ya y47 rfl (Addr.add_lit _ _ _)) ?_
                    refine WD.e (i:=18) (d:=67) (by kernel_rfl) rfl (z2 (by kernel_rfl)) (z3 (by kernel_rfl)) rfl rfl rfl (yb ye rfl (y6n .h2 ((y1y (enc:=e50) (l:=z4.1) (i:=i64 (z5 - 1)) (sz:=3) (fun _=>rfl) zfx.1 zfx.2) 2 _ rfl))) ?_
                    refine WD.a (i:=19) (d:=68) (by kernel_rfl) rfl (z2 (by kernel_rfl)) (z3 (by kernel_rfl)) rfl rfl rfl (fun _=>ya y47 rfl rfl) ?_
                    refine WD.e (i:=20) (d:=69) (by kernel_rfl) rfl (z2 (by kernel_rfl)) (z3 (by kernel_rfl)) rfl rfl rfl (yb ye rfl (yc .here rfl)) ?_
                    refine WD.a (i:=21) (d:=70) (by kernel_rfl) rfl (z2 (by kernel_rfl)) (z3 (by kernel_rfl)) rfl rfl rfl (fun _=>q_eql rfl rfl) ?_
                    refine WD.a (i:=22) (d:=71) (by kernel_rfl) rfl (z2 (by kernel_rfl)) (z3 (by kernel_rfl)) rfl rfl rfl (fun _=>q_m rfl) ?_
                    refine WD.mid (fuel':=14) [(2,(.slice z3e zO.length z3f)),(3,(.slice z3g zx.length z3h)),(4,(.pointer (some ⟨z3i,0,none⟩))),(9,(.slice (some ⟨z26,0,none⟩) z4.1.length z1u)),(12,(.map (some z3j))),(42,(.slice (some ⟨z26,0,none⟩) z4.1.length z1u)),(43,(.int .i64 ((z4.1.length : Nat) : Int))),(44,(.int .i64 z5)),(14,(.pointer (some ⟨z5t,0,none⟩))),(51,(.bool true)),(61,(.bool false)),(71,(.bool (decide (((nth z4.1 (i64 (z5 - 1))).fTime) = ((nth z4.1 z5).fTime))))),(81,(.bool ((decide (((nth z4.1 (i64 (z5 - 1))).fTime) = ((nth z4.1 z5).fTime))) && (decide (((nth z4.1 (i64 (z5 - 1))).fSent) > ((nth z4.1 z5).fSent))))))] (y1i 47 [32,31,30,29,28,27,26,25,24,23,22,21,20,19,18,17,16,15,14,13,12,11,10,9,8,7,6,5,4,3,2,1,0]) ?_ (fun znM=>?_)
                    rotate_left
                    · rcases Bool.eq_false_or_eq_true (decide (((nth z4.1 (i64 (z5 - 1))).fTime) = ((nth z4.1 z5).fTime))) with hb' | hb'
                      · have zfy:=hb'; clear hb'
                        have zfz:=zu1 zfy
                        refine WD.pin (i:=71) rfl zfy ?_
                        refine WD.a (i:=23) (d:=72) (by kernel_rfl) rfl (z2 (by kernel_rfl)) (z3 (by kernel_rfl)) rfl rfl rfl (fun _=>q_m rfl) ?_
                        refine WD.a (i:=24) (d:=73) (by kernel_rfl) rfl (z2 (by kernel_rfl)) (z3 (by kernel_rfl)) rfl rfl rfl (fun _=>q_m rfl) ?_
                        refine WD.a (i:=25) (d:=74) (by kernel_rfl) rfl (z2 (by kernel_rfl)) (z3 (by kernel_rfl)) rfl rfl rfl (fun _=>y45 rfl rfl rfl) ?_
                        refine WD.a (i:=26) (d:=75) (by kernel_rfl) rfl (z2 (by kernel_rfl)) (z3 (by kernel_rfl)) rfl rfl rfl (fun _=>yq y15 rfl rfl zfz.1 zfz.2 y18) ?_
                        refine WD.a (i:=27) (d:=76) (by kernel_rfl) rfl (z2 (by kernel_rfl)) (z3 (by kernel_rfl)) rfl rfl rfl (fun _=>ya y48 rfl (Addr.add_lit _ _ _)) ?_
                        refine WD.e (i:=28) (d:=77) (by kernel_rfl) rfl (z2 (by kernel_rfl)) (z3 (by kernel_rfl)) rfl rfl rfl (yb ye rfl (y6n .h2 ((y1y (enc:=e50) (l:=z4.1) (i:=i64 (z5 - 1)) (sz:=3) (fun _=>rfl) zfz.1 zfz.2) 0 _ rfl))) ?_
                        refine WD.a (i:=29) (d:=78) (by kernel_rfl) rfl (z2 (by kernel_rfl)) (z3 (by kernel_rfl)) rfl rfl rfl (fun _=>ya y48 rfl rfl) ?_
                        refine WD.e (i:=30) (d:=79) (by kernel_rfl) rfl (z2 (by kernel_rfl)) (z3 (by kernel_rfl)) rfl rfl rfl (yb ye rfl (yc .here rfl)) ?_
                        refine WD.a (i:=31) (d:=80) (by kernel_rfl) rfl (z2 (by kernel_rfl)) (z3 (by kernel_rfl)) rfl rfl rfl (fun _=>y3a rfl rfl) ?_
                        refine WD.a (i:=32) (d:=81) (by kernel_rfl) rfl (z2 (by kernel_rfl)) (z3 (by kernel_rfl)) rfl rfl rfl (fun _=>y1b rfl rfl) ?_
                        refine WD.yE (.cons .here (.cons .here (.cons .here (.cons .here (.cons .here .nil))))) ?_ znM
                        exact (.cons rfl (.cons rfl (.cons rfl (.cons rfl (.cons rfl (.cons rfl (.cons rfl (.cons rfl (.cons rfl (.cons rfl (.cons rfl (.cons (zh (Eq.symm zfy)) (.cons (zh (y2o zfy)) .nil)))))))))))))
                      · have zjh:=hb'; clear hb'
                        refine WD.pin (i:=71) rfl zjh ?_
                        refine WD.b (i:=23) (d:=72) (by kernel_rfl) rfl (z2 (by kernel_rfl)) (z3 (by kernel_rfl)) rfl rfl rfl ?_
                        refine WD.b (i:=24) (d:=73) (by kernel_rfl) rfl (z2 (by kernel_rfl)) (z3 (by kernel_rfl)) rfl rfl rfl ?_
                        refine WD.b (i:=25) (d:=74) (by kernel_rfl) rfl (z2 (by kernel_rfl)) (z3 (by kernel_rfl)) rfl rfl rfl ?_
                        refine WD.b (i:=26) (d:=75) (by kernel_rfl) rfl (z2 (by kernel_rfl)) (z3 (by kernel_rfl)) rfl rfl rfl ?_
                        refine WD.b (i:=27) (d:=76) (by kernel_rfl) rfl (z2 (by kernel_rfl)) (z3 (by kernel_rfl)) rfl rfl rfl ?_
                        refine WD.b (i:=28) (d:=77) (by kernel_rfl) rfl (z2 (by kernel_rfl)) (z3 (by kernel_rfl)) rfl rfl rfl ?_
                        refine WD.b (i:=29) (d:=78) (by kernel_rfl) rfl (z2 (by kernel_rfl)) (z3 (by kernel_rfl)) rfl rfl rfl ?_
                        refine WD.b (i:=30) (d:=79) (by kernel_rfl) rfl (z2 (by kernel_rfl)) (z3 (by kernel_rfl)) rfl rfl rfl ?_
                        refine WD.b (i:=31) (d:=80) (by kernel_rfl) rfl (z2 (by kernel_rfl)) (z3 (by kernel_rfl)) rfl rfl rfl ?_
                        refine WD.a (i:=32) (d:=81) (by kernel_rfl) rfl (z2 (by kernel_rfl)) (z3 (by kernel_rfl)) rfl rfl rfl (fun _=>y1c rfl rfl) ?_
                        refine WD.yE (.cons .here (.cons .here (.cons .here (.cons .here (.cons .here .nil))))) ?_ znM
                        exact (.cons rfl (.cons rfl (.cons rfl (.cons rfl (.cons rfl (.cons rfl (.cons rfl (.cons rfl (.cons rfl (.cons rfl (.cons rfl (.cons (zh (Eq.symm zjh)) (.cons (zh (y2n zjh)) .nil)))))))))))))
                    refine WD.d #[true,true,true,true,true,true,true,true,true,true,true,true,true,true,true,true,true,true,true,true,true,true,true,true,true,true,true,true,true,true,true,true,true,false,false,false,false,false,false,false,false,false,false,false,false,false,false] (by kernel_rfl) ?_
                    refine WD.a (i:=33) (d:=82) (by kernel_rfl) rfl (z2 (by kernel_rfl)) (z3 (by kernel_rfl)) rfl rfl rfl (fun _=>y1c rfl rfl) ?_
                    refine WD.yE (.cons .here (.cons .here (.cons .here (.cons .here (.cons .here .nil))))) ?_ znL
                    exact (.cons rfl (.cons rfl (.cons rfl (.cons rfl (.cons rfl (.cons rfl (.cons rfl (.cons rfl (.cons rfl (.cons rfl (.cons (zh (Eq.symm zdO)) (.cons (zh (y1Y zdO)) .nil))))))))))))
                refine WD.d #[true,true,true,true,true,true,true,true,true,true,true,true,true,true,true,true,true,true,true,true,true,true,true,true,true,true,true,true,true,true,true,true,true,true,false,false,false,false,false,false,false,false,false,false,false,false,false] (by kernel_rfl) ?_
                refine WD.a (i:=34) (d:=83) (by kernel_rfl) rfl (z2 (by kernel_rfl)) (z3 (by kernel_rfl)) rfl rfl rfl (fun _=>y1b rfl rfl) ?_
                refine WD.yE (.cons .here (.cons .here (.cons .here (.cons .here (.cons .here .nil))))) ?_ znK
                exact (.cons rfl (.cons rfl (.cons rfl (.cons rfl (.cons rfl (.cons rfl (.cons rfl (.cons rfl (.cons rfl (.cons (zh (Eq.symm zbs)) (.cons (zh (y2o zbs)) .nil)))))))))))
              · have zji:=hb'; clear hb'
                refine WD.pin (i:=51) rfl zji ?_
                refine WD.b (i:=3) (d:=52) (by kernel_rfl) rfl (z2 (by kernel_rfl)) (z3 (by kernel_rfl)) rfl rfl rfl ?_
                refine WD.b (i:=4) (d:=53) (by kernel_rfl) rfl (z2 (by kernel_rfl)) (z3 (by kernel_rfl)) rfl rfl rfl ?_
                refine WD.b (i:=5) (d:=54) (by kernel_rfl) rfl (z2 (by kernel_rfl)) (z3 (by kernel_rfl)) rfl rfl rfl ?_
                refine WD.b (i:=6) (d:=55) (by kernel_rfl) rfl (z2 (by kernel_rfl)) (z3 (by kernel_rfl)) rfl rfl rfl ?_
                refine WD.b (i:=7) (d:=56) (by kernel_rfl) rfl (z2 (by kernel_rfl)) (z3 (by kernel_rfl)) rfl rfl rfl ?_
                refine WD.b (i:=8) (d:=57) (by kernel_rfl) rfl (z2 (by kernel_rfl)) (z3 (by kernel_rfl)) rfl rfl rfl ?_
                refine WD.b (i:=9) (d:=58) (by kernel_rfl) rfl (z2 (by kernel_rfl)) (z3 (by kernel_rfl)) rfl rfl rfl ?_
                refine WD.b (i:=10) (d:=59) (by kernel_rfl) rfl (z2 (by kernel_rfl)) (z3 (by kernel_rfl)) rfl rfl rfl ?_
                refine WD.b (i:=11) (d:=60) (by kernel_rfl) rfl (z2 (by kernel_rfl)) (z3 (by kernel_rfl)) rfl rfl rfl ?_
                refine WD.b (i:=12) (d:=61) (by kernel_rfl) rfl (z2 (by kernel_rfl)) (z3 (by kernel_rfl)) rfl rfl rfl ?_
                refine WD.b (i:=13) (d:=62) (by kernel_rfl) rfl (z2 (by kernel_rfl)) (z3 (by kernel_rfl)) rfl rfl rfl ?_
                refine WD.b (i:=14) (d:=63) (by kernel_rfl) rfl (z2 (by kernel_rfl)) (z3 (by kernel_rfl)) rfl rfl rfl ?_
                refine WD.b (i:=15) (d:=64) (by kernel_rfl) rfl (z2 (by kernel_rfl)) (z3 (by kernel_rfl)) rfl rfl rfl ?_
                refine WD.b (i:=16) (d:=65) (by kernel_rfl) rfl (z2 (by kernel_rfl)) (z3 (by kernel_rfl)) rfl rfl rfl ?_
                refine WD.b (i:=17) (d:=66) (by kernel_rfl) rfl (z2 (by kernel_rfl)) (z3 (by kernel_rfl)) rfl rfl rfl ?_
                refine WD.b (i:=18) (d:=67) (by kernel_rfl) rfl (z2 (by kernel_rfl)) (z3 (by kernel_rfl)) rfl rfl rfl ?_
                refine WD.b (i:=19) (d:=68) (by kernel_rfl) rfl (z2 (by kernel_rfl)) (z3 (by kernel_rfl)) rfl rfl rfl ?_
                refine WD.b (i:=20) (d:=69) (by kernel_rfl) rfl (z2 (by kernel_rfl)) (z3 (by kernel_rfl)) rfl rfl rfl ?_
                refine WD.b (i:=21) (d:=70) (by kernel_rfl) rfl (z2 (by kernel_rfl)) (z3 (by kernel_rfl)) rfl rfl rfl ?_
                refine WD.b (i:=22) (d:=71) (by kernel_rfl) rfl (z2 (by kernel_rfl)) (z3 (by kernel_rfl)) rfl rfl rfl ?_
                refine WD.b (i:=23) (d:=72) (by kernel_rfl) rfl (z2 (by kernel_rfl)) (z3 (by kernel_rfl)) rfl rfl rfl ?_
                refine WD.b (i:=24) (d:=73) (by kernel_rfl) rfl (z2 (by kernel_rfl)) (z3 (by kernel_rfl)) rfl rfl rfl ?_
                refine WD.b (i:=25) (d:=74) (by kernel_rfl) rfl (z2 (by kernel_rfl)) (z3 (by kernel_rfl)) rfl rfl rfl ?_
                refine WD.b (i:=26) (d:=75) (by kernel_rfl) rfl (z2 (by kernel_rfl)) (z3 (by kernel_rfl)) rfl rfl rfl ?_
                refine WD.b (i:=27) (d:=76) (by kernel_rfl) rfl (z2 (by kernel_rfl)) (z3 (by kernel_rfl)) rfl rfl rfl ?_
                refine WD.b (i:=28) (d:=77) (by kernel_rfl) rfl (z2 (by kernel_rfl)) (z3 (by kernel_rfl)) rfl rfl rfl ?_
                refine WD.b (i:=29) (d:=78) (by kernel_rfl) rfl (z2 (by kernel_rfl)) (z3 (by kernel_rfl)) rfl rfl rfl ?_
                refine WD.b (i:=30) (d:=79) (by kernel_rfl) rfl (z2 (by kernel_rfl)) (z3 (by kernel_rfl)) rfl rfl rfl ?_
                refine WD.b (i:=31) (d:=80) (by kernel_rfl) rfl (z2 (by kernel_rfl)) (z3 (by kernel_rfl)) rfl rfl rfl ?_
                refine WD.b (i:=32) (d:=81) (by kernel_rfl) rfl (z2 (by kernel_rfl)) (z3 (by kernel_rfl)) rfl rfl rfl ?_
                refine WD.b (i:=33) (d:=82) (by kernel_rfl) rfl (z2 (by kernel_rfl)) (z3 (by kernel_rfl)) rfl rfl rfl ?_
                refine WD.a (i:=34) (d:=83) (by kernel_rfl) rfl (z2 (by kernel_rfl)) (z3 (by kernel_rfl)) rfl rfl rfl (fun _=>y1c rfl rfl) ?_
                refine WD.yE (.cons .here (.cons .here (.cons .here (.cons .here (.cons .here .nil))))) ?_ znK
                exact (.cons rfl (.cons rfl (.cons rfl (.cons rfl (.cons rfl (.cons rfl (.cons rfl (.cons rfl (.cons rfl (.cons (zh (Eq.symm zji)) (.cons (zh (y2n zji)) .nil)))))))))))
            refine WD.d #[true,true,true,true,true,true,true,true,true,true,true,true,true,true,true,true,true,true,true,true,true,true,true,true,true,true,true,true,true,true,true,true,true,true,true,false,false,false,false,false,false,false,false,false,false,false,false] (by kernel_rfl) ?_
            refine WD.a (i:=35) (d:=84) (by kernel_rfl) rfl (z2 (by kernel_rfl)) (z3 (by kernel_rfl)) rfl rfl rfl (fun _=>q_m rfl) ?_
            refine WD.mid (fuel':=7) [(2,(.slice z3e zO.length z3f)),(3,(.slice z3g zx.length z3h)),(4,(.pointer (some ⟨z3i,0,none⟩))),(9,(.slice (some ⟨z26,0,none⟩) z4.1.length z1u)),(12,(.map (some z3j))),(42,(.slice (some ⟨z26,0,none⟩) z4.1.length z1u)),(43,(.int .i64 ((z4.1.length : Nat) : Int))),(44,(.int .i64 z5)),(14,(.pointer (some ⟨z5t,0,none⟩))),(84,(.bool ((decide (z5 > 0)) && ((decide (((nth z4.1 (i64 (z5 - 1))).fTime) > ((nth z4.1 z5).fTime))) || ((decide (((nth z4.1 (i64 (z5 - 1))).fTime) = ((nth z4.1 z5).fTime))) && (decide (((nth z4.1 (i64 (z5 - 1))).fSent) > ((nth z4.1 z5).fSent)))))))),(88,(.bool (((decide (z5 > 0)) && ((decide (((nth z4.1 (i64 (z5 - 1))).fTime) > ((nth z4.1 z5).fTime))) || ((decide (((nth z4.1 (i64 (z5 - 1))).fTime) = ((nth z4.1 z5).fTime))) && (decide (((nth z4.1 (i64 (z5 - 1))).fSent) > ((nth z4.1 z5).fSent)))))) || (decide (((nth z4.1 z5).fSent) < 0)))))] (y1i 47 [39,38,37,36,35,34,33,32,31,30,29,28,27,26,25,24,23,22,21,20,19,18,17,16,15,14,13,12,11,10,9,8,7,6,5,4,3,2,1,0]) ?_ (fun znN=>?_)
            rotate_left
            · rcases Bool.eq_false_or_eq_true ((decide (z5 > 0)) && ((decide (((nth z4.1 (i64 (z5 - 1))).fTime) > ((nth z4.1 z5).fTime))) || ((decide (((nth z4.1 (i64 (z5 - 1))).fTime) = ((nth z4.1 z5).fTime))) && (decide (((nth z4.1 (i64 (z5 - 1))).fSent) > ((nth z4.1 z5).fSent)))))) with hb' | hb'
              · have zjj:=hb'; clear hb'
                refine WD.pin (i:=84) rfl zjj ?_
                refine WD.b (i:=36) (d:=85) (by kernel_rfl) rfl (z2 (by kernel_rfl)) (z3 (by kernel_rfl)) rfl rfl rfl ?_
                refine WD.b (i:=37) (d:=86) (by kernel_rfl) rfl (z2 (by kernel_rfl)) (z3 (by kernel_rfl)) rfl rfl rfl ?_
                refine WD.b (i:=38) (d:=87) (by kernel_rfl) rfl (z2 (by kernel_rfl)) (z3 (by kernel_rfl)) rfl rfl rfl ?_
                refine WD.a (i:=39) (d:=88) (by kernel_rfl) rfl (z2 (by kernel_rfl)) (z3 (by kernel_rfl)) rfl rfl rfl (fun _=>y1b rfl rfl) ?_
                refine WD.yE (.cons .here (.cons .here (.cons .here (.cons .here (.cons .here .nil))))) ?_ znN
                exact (.cons rfl (.cons rfl (.cons rfl (.cons rfl (.cons rfl (.cons rfl (.cons rfl (.cons rfl (.cons rfl (.cons (zh (Eq.symm zjj)) (.cons (zh (y1X zjj)) .nil)))))))))))
              · have zjk:=hb'; clear hb'
                refine WD.pin (i:=84) rfl zjk ?_
                refine WD.a (i:=36) (d:=85) (by kernel_rfl) rfl (z2 (by kernel_rfl)) (z3 (by kernel_rfl)) rfl rfl rfl (fun _=>ya y48 rfl rfl) ?_
                refine WD.e (i:=37) (d:=86) (by kernel_rfl) rfl (z2 (by kernel_rfl)) (z3 (by kernel_rfl)) rfl rfl rfl (yb ye rfl (yc .here rfl)) ?_
                refine WD.a (i:=38) (d:=87) (by kernel_rfl) rfl (z2 (by kernel_rfl)) (z3 (by kernel_rfl)) rfl rfl rfl (fun _=>y3h rfl rfl) ?_
                refine WD.a (i:=39) (d:=88) (by kernel_rfl) rfl (z2 (by kernel_rfl)) (z3 (by kernel_rfl)) rfl rfl rfl (fun _=>y1c rfl rfl) ?_
                refine WD.yE (.cons .here (.cons .here (.cons .here (.cons .here (.cons .here .nil))))) ?_ znN
                exact (.cons rfl (.cons rfl (.cons rfl (.cons rfl (.cons rfl (.cons rfl (.cons rfl (.cons rfl (.cons rfl (.cons (zh (Eq.symm zjk)) (.cons (zh (y1Y zjk)) .nil)))))))))))
            refine WD.d #[true,true,true,true,true,true,true,true,true,true,true,true,true,true,true,true,true,true,true,true,true,true,true,true,true,true,true,true,true,true,true,true,true,true,true,true,true,true,true,true,false,false,false,false,false,false,false] (by kernel_rfl) ?_
            refine WD.a (i:=40) (d:=89) (by kernel_rfl) rfl (z2 (by kernel_rfl)) (z3 (by kernel_rfl)) rfl rfl rfl (fun _=>q_m rfl) ?_
            refine WD.mid (fuel':=0) [(2,(.slice z3e zO.length z3f)),(3,(.slice z3g zx.length z3h)),(4,(.pointer (some ⟨z3i,0,none⟩))),(9,(.slice (some ⟨z26,0,none⟩) z4.1.length z1u)),(12,(.map (some z3j))),(42,(.slice (some ⟨z26,0,none⟩) z4.1.length z1u)),(43,(.int .i64 ((z4.1.length : Nat) : Int))),(44,(.int .i64 z5)),(14,(.pointer (some ⟨z5t,0,none⟩))),(89,(.bool (((decide (z5 > 0)) && ((decide (((nth z4.1 (i64 (z5 - 1))).fTime) > ((nth z4.1 z5).fTime))) || ((decide (((nth z4.1 (i64 (z5 - 1))).fTime) = ((nth z4.1 z5).fTime))) && (decide (((nth z4.1 (i64 (z5 - 1))).fSent) > ((nth z4.1 z5).fSent)))))) || (decide (((nth z4.1 z5).fSent) < 0))))),(95,(.bool ((((decide (z5 > 0)) && ((decide (((nth z4.1 (i64 (z5 - 1))).fTime) > ((nth z4.1 z5).fTime))) || ((decide (((nth z4.1 (i64 (z5 - 1))).fTime) = ((nth z4.1 z5).fTime))) && (decide (((nth z4.1 (i64 (z5 - 1))).fSent) > ((nth z4.1 z5).fSent)))))) || (decide (((nth z4.1 z5).fSent) < 0))) || (decide (((nth z4.1 z5).fSent) ≥ ((zx.length : Nat) : Int))))))] (y1i 47 [46,45,44,43,42,41,40,39,38,37,36,35,34,33,32,31,30,29,28,27,26,25,24,23,22,21,20,19,18,17,16,15,14,13,12,11,10,9,8,7,6,5,4,3,2,1,0]) ?_ (fun znO=>?_)
            rotate_left
            · rcases Bool.eq_false_or_eq_true (((decide (z5 > 0)) && ((decide (((nth z4.1 (i64 (z5 - 1))).fTime) > ((nth z4.1 z5).fTime))) || ((decide (((nth z4.1 (i64 (z5 - 1))).fTime) = ((nth z4.1 z5).fTime))) && (decide (((nth z4.1 (i64 (z5 - 1))).fSent) > ((nth z4.1 z5).fSent)))))) || (decide (((nth z4.1 z5).fSent) < 0))) with hb' | hb'
              · have zjl:=hb'; clear hb'
                refine WD.pin (i:=89) rfl zjl ?_
                refine WD.b (i:=41) (d:=90) (by kernel_rfl) rfl (z2 (by kernel_rfl)) (z3 (by kernel_rfl)) rfl rfl rfl ?_
                refine WD.b (i:=42) (d:=91) (by kernel_rfl) rfl (z2 (by kernel_rfl)) (z3 (by kernel_rfl)) rfl rfl rfl ?_
                refine WD.b (i:=43) (d:=92) (by kernel_rfl) rfl (z2 (by kernel_rfl)) (z3 (by kernel_rfl)) rfl rfl rfl ?_
                refine WD.b (i:=44) (d:=93) (by kernel_rfl) rfl (z2 (by kernel_rfl)) (z3 (by kernel_rfl)) rfl rfl rfl ?_
                refine WD.b (i:=45) (d:=94) (by kernel_rfl) rfl (z2 (by kernel_rfl)) (z3 (by kernel_rfl)) rfl rfl rfl ?_
                refine WD.a (i:=46) (d:=95) (by kernel_rfl) rfl (z2 (by kernel_rfl)) (z3 (by kernel_rfl)) rfl rfl rfl (fun _=>y1b rfl rfl) ?_
                refine WD.yE (.cons .here (.cons .here (.cons .here (.cons .here (.cons .here .nil))))) ?_ znO
                exact (.cons rfl (.cons rfl (.cons rfl (.cons rfl (.cons rfl (.cons rfl (.cons rfl (.cons rfl (.cons rfl (.cons (zh (Eq.symm zjl)) (.cons (zh (y1X zjl)) .nil)))))))))))
              · have zjm:=hb'; clear hb'
                refine WD.pin (i:=89) rfl zjm ?_
                refine WD.a (i:=41) (d:=90) (by kernel_rfl) rfl (z2 (by kernel_rfl)) (z3 (by kernel_rfl)) rfl rfl rfl (fun _=>ya y48 rfl rfl) ?_
                refine WD.e (i:=42) (d:=91) (by kernel_rfl) rfl (z2 (by kernel_rfl)) (z3 (by kernel_rfl)) rfl rfl rfl (yb ye rfl (yc .here rfl)) ?_
                refine WD.a (i:=43) (d:=92) (by kernel_rfl) rfl (z2 (by kernel_rfl)) (z3 (by kernel_rfl)) rfl rfl rfl (fun _=>q_m rfl) ?_
                refine WD.a (i:=44) (d:=93) (by kernel_rfl) rfl (z2 (by kernel_rfl)) (z3 (by kernel_rfl)) rfl rfl rfl (fun _=>yZ Try.underlying33 rfl) ?_
                refine WD.a (i:=45) (d:=94) (by kernel_rfl) rfl (z2 (by kernel_rfl)) (z3 (by kernel_rfl)) rfl rfl rfl (fun _=>q_geq rfl rfl) ?_
                refine WD.a (i:=46) (d:=95) (by kernel_rfl) rfl (z2 (by kernel_rfl)) (z3 (by kernel_rfl)) rfl rfl rfl (fun _=>y1c rfl rfl) ?_
                refine WD.yE (.cons .here (.cons .here (.cons .here (.cons .here (.cons .here .nil))))) ?_ znO
                exact (.cons rfl (.cons rfl (.cons rfl (.cons rfl (.cons rfl (.cons rfl (.cons rfl (.cons rfl (.cons rfl (.cons (zh (Eq.symm zjm)) (.cons (zh (y1Y zjm)) .nil)))))))))))
            refine WD.d #[true,true,true,true,true,true,true,true,true,true,true,true,true,true,true,true,true,true,true,true,true,true,true,true,true,true,true,true,true,true,true,true,true,true,true,true,true,true,true,true,true,true,true,true,true,true,true] (by kernel_rfl) ?_
            refine WD.done (by kernel_rfl) ?_
            refine WX.a ?_
            refine WC.cond rfl (fun zjn=>?_) (fun zjn=>?_)
            · replace h:=ym h zjn
              refine WC.b (WC.a (WL.pu rfl (WL.nil (WX.a (WC.ret (WX.yg (WX.yC (WX.yg (WX.yg (WX.yC (WX.yg ?_)))))))))))
              obtain rfl:=Option.some.inj h
              refine WX.yi Try.results5 (.tmp rfl .nil) (fun w hw=>?_)
              exact ⟨[],y10 rfl,trivial,hw.sub (.cons .h1 .nil)⟩
            · replace h:=yn h zjn
              refine WC.skip (WX.a (WC.b ?_))
              obtain ⟨zu2,h⟩:=yj h
              refine WC.a (WL.pu rfl ?_)
              refine WL.a (d:=97) rfl rfl rfl (ya y48 rfl rfl) ?_
              refine WL.a (d:=98) rfl rfl rfl (yb ye rfl (yc .here rfl)) ?_
              refine WL.znth (dd:=99) rfl rfl (Z:=(Z ++ [])) (Pr:=(fun r x=>r = e53 x)) y4o rfl rfl (zjc.mono (Zle.left _ _)) zu2 ?_
              rintro zxR zxS zu3 zxT rfl
              refine WL.a (d:=100) rfl rfl rfl (yH y6L rfl (y3F (hz.pv2 .h1) zu3) rfl) ?_
              refine WL.new (dd:=15) rfl rfl rfl (y23 (cs:=[(.int .i64 0),(.int .i64 0),(.int .i64 0)]) y61 rfl) ?_
              intro zbt _
              refine WL.y1l rfl rfl (y1D y6M rfl rfl rfl .here rfl rfl rfl) ?_
              refine WL.nil (WX.a (WC.b ?_))
              obtain ⟨zu4,h⟩:=yj h
              refine WC.a (WL.pu rfl ?_)
              refine WL.a (d:=102) rfl rfl rfl (ya y4g rfl rfl) ?_
              refine WL.a (d:=103) rfl rfl rfl (yb ye rfl (yc .here rfl)) ?_
              refine WL.znth (dd:=104) rfl rfl (Z:=(Z ++ [])) (Pr:=(p55 (Z ++ []))) y5E rfl rfl ((zjb.mono (Zle.left _ _)).weak (fun _ _ h=>y42 (Zle.left _ _) h)) zu4 ?_
              rintro zxU zxV zu5 zxW ⟨znP,znQ,rfl,zjo⟩
              refine WL.a (d:=105) rfl rfl rfl (yb y5F rfl (rd_z (hz.pv2 .h2) zu5 rfl)) ?_
              refine WL.pu rfl (WL.nil (WX.a (WC.b ?_)))
              refine WC.yV (fun i=>[].contains i) [] rfl ?_
              refine WD.a (i:=0) (d:=106) (by kernel_rfl) rfl (z2 (by kernel_rfl)) (z3 (by kernel_rfl)) rfl rfl rfl (fun _=>ya y3Q rfl rfl) ?_
              refine WD.e (i:=1) (d:=107) (by kernel_rfl) rfl (z2 (by kernel_rfl)) (z3 (by kernel_rfl)) rfl rfl rfl (yb ye rfl (yc .here rfl)) ?_
              refine WD.a (i:=2) (d:=108) (by kernel_rfl) rfl (z2 (by kernel_rfl)) (z3 (by kernel_rfl)) rfl rfl rfl (fun _=>ya y6O rfl rfl) ?_
              refine WD.e (i:=3) (d:=109) (by kernel_rfl) rfl (z2 (by kernel_rfl)) (z3 (by kernel_rfl)) rfl rfl rfl (yb ye rfl (yc .h1 rfl)) ?_
              refine WD.a (i:=4) (d:=17) (by kernel_rfl) rfl (z2 (by kernel_rfl)) (z3 (by kernel_rfl)) rfl rfl rfl (fun _=>q_z rfl) ?_
              refine WD.a (i:=5) (d:=18) (by kernel_rfl) rfl (z2 (by kernel_rfl)) (z3 (by kernel_rfl)) rfl rfl rfl (fun _=>q_z rfl) ?_
              refine WD.done (by kernel_rfl) ?_
              refine WX.a ?_
              obtain ⟨z7E,zu6,h⟩:=y1d h
              refine WC.y1L (fun (z7I : Int)=>(z7E z7I = some r)) (fun (z7I : Int)=>[(2,(.slice z3e zO.length z3f)),(3,(.slice z3g zx.length z3h)),(4,(.pointer (some ⟨z3i,0,none⟩))),(9,(.slice (some ⟨z26,0,none⟩) z4.1.length z1u)),(12,(.map (some z3j))),(14,(.pointer (some ⟨z5t,0,none⟩))),(15,(.pointer (some ⟨zbt,0,none⟩))),(17,(.int .i64 z7I)),(42,(.slice (some ⟨z26,0,none⟩) z4.1.length z1u)),(43,(.int .i64 ((z4.1.length : Nat) : Int))),(44,(.int .i64 z5))]) (fun (z7I : Int)=>[fz [],row (.slice (some ⟨z26,0,none⟩) z4.1.length z1u) 50 3 (z4.1.flatMap e50),stb z3i 31 [(.slice z5d zi.fModules.length z5e),(.slice z5f zi.fChannels.length z5g),(.slice z5h zi.fSwitches.length z5i),(.slice z5j zi.fLinks.length z5k),(.slice z5l zi.fVLs.length z5m),(.slice z5n zi.fHealth.length z5o),(.slice z5p zi.fCauses.length z5q),(.slice z5r zi.fVersions.length z5s)],y16 z3j (fun x=>Value.agg (e51 x).toArray) (fun x=>Value.agg (e50 x).toArray) z1z,stb z5t 50 [(.int .i64 ((nth z4.1 z5).fSent)),(.int .i64 ((nth z4.1 z5).fNode)),(.int .i64 ((nth z4.1 z5).fTime))],stb zbt 53 [(.int .i64 ((nth zx ((nth z4.1 z5).fSent)).fTime)),(.int .i64 ((nth zx ((nth z4.1 z5).fSent)).fVL)),(.int .i64 ((nth zx ((nth z4.1 z5).fSent)).fSize))]]) ?_ ?_
              · skip
                refine WC.b (WC.a (WL.pu rfl ?_))
                refine WL.a (d:=111) rfl rfl rfl (yZ Try.underlying55 rfl) ?_
                refine WL.pu rfl (WL.pu rfl (WL.nil (WX.a (WC.block ?_))))
                refine WC.y54 (fun (zbu : Nat) (z2M : Int) (z4J : Int) (z16 : Int)=>(y1f zO zx z4 z5 zi z7E zbu z2M z4J z16 = some r)) (fun (zbu : Nat) (z2M : Int) (z4J : Int) (z16 : Int)=>[(2,(.slice z3e zO.length z3f)),(3,(.slice z3g zx.length z3h)),(4,(.pointer (some ⟨z3i,0,none⟩))),(9,(.slice (some ⟨z26,0,none⟩) z4.1.length z1u)),(12,(.map (some z3j))),(14,(.pointer (some ⟨z5t,0,none⟩))),(15,(.pointer (some ⟨zbt,0,none⟩))),(16,(.slice znP ((nth zO ((nth zx ((nth z4.1 z5).fSent)).fVL)).length) znQ)),(17,(.int .i64 z2M)),(18,(.int .i64 z4J)),(19,(.int .i64 z16)),(42,(.slice (some ⟨z26,0,none⟩) z4.1.length z1u)),(43,(.int .i64 ((z4.1.length : Nat) : Int))),(44,(.int .i64 z5))]) (fun (zbu : Nat) (z2M : Int) (z4J : Int) (z16 : Int)=>[fz [],row (.slice (some ⟨z26,0,none⟩) z4.1.length z1u) 50 3 (z4.1.flatMap e50),stb z3i 31 [(.slice z5d zi.fModules.length z5e),(.slice z5f zi.fChannels.length z5g),(.slice z5h zi.fSwitches.length z5i),(.slice z5j zi.fLinks.length z5k),(.slice z5l zi.fVLs.length z5m),(.slice z5n zi.fHealth.length z5o),(.slice z5p zi.fCauses.length z5q),(.slice z5r zi.fVersions.length z5s)],y16 z3j (fun x=>Value.agg (e51 x).toArray) (fun x=>Value.agg (e50 x).toArray) z1z,stb z5t 50 [(.int .i64 ((nth z4.1 z5).fSent)),(.int .i64 ((nth z4.1 z5).fNode)),(.int .i64 ((nth z4.1 z5).fTime))],stb zbt 53 [(.int .i64 ((nth zx ((nth z4.1 z5).fSent)).fTime)),(.int .i64 ((nth zx ((nth z4.1 z5).fSent)).fVL)),(.int .i64 ((nth zx ((nth z4.1 z5).fSent)).fSize))]]) (fun (zbu : Nat) (z2M : Int) (z4J : Int) (z16 : Int)=>zbu) ⟨yA,((nth zx ((nth z4.1 z5).fSent)).fTime),((nth z4.1 z5).fNode),(i64 ((((nth zO ((nth zx ((nth z4.1 z5).fSent)).fVL)).length : Nat) : Int) - 1))⟩ h (.cons rfl (.cons rfl (.cons rfl (.cons rfl (.cons rfl (.cons rfl (.cons rfl (.cons rfl (.cons rfl (.cons rfl (.cons rfl (.cons rfl (.cons rfl (.cons rfl .nil)))))))))))))) (.cons .h2 (.cons .h2 (.cons .h2 (.cons .h2 (.cons .h1 (.cons .here .nil)))))) ?_
                rintro zbu z2M z4J z16 h
                obtain ⟨zj6,rfl⟩:=y4E h
                rw [y1f] at h
                refine WC.b (WC.b (WC.a (WL.pu rfl (WL.pu rfl (WL.nil (WX.a ?_))))))
                refine WC.cond rfl (fun zjp=>?_) (fun zjp=>?_)
                · replace h:=ym h zjp
                  refine WC.skip (WX.a ?_)
                  obtain ⟨zdM,zu7,h⟩:=y32 h
                  refine WC.y2p (fun (z7F : Int) (z7G : Int)=>(zdM z7F z7G = some r)) (fun (z7F : Int) (z7G : Int)=>[(2,(.slice z3e zO.length z3f)),(3,(.slice z3g zx.length z3h)),(4,(.pointer (some ⟨z3i,0,none⟩))),(9,(.slice (some ⟨z26,0,none⟩) z4.1.length z1u)),(12,(.map (some z3j))),(14,(.pointer (some ⟨z5t,0,none⟩))),(15,(.pointer (some ⟨zbt,0,none⟩))),(16,(.slice znP ((nth zO ((nth zx ((nth z4.1 z5).fSent)).fVL)).length) znQ)),(17,(.int .i64 z7F)),(18,(.int .i64 z7G)),(19,(.int .i64 z16)),(42,(.slice (some ⟨z26,0,none⟩) z4.1.length z1u)),(43,(.int .i64 ((z4.1.length : Nat) : Int))),(44,(.int .i64 z5))]) (fun (z7F : Int) (z7G : Int)=>[fz [],row (.slice (some ⟨z26,0,none⟩) z4.1.length z1u) 50 3 (z4.1.flatMap e50),stb z3i 31 [(.slice z5d zi.fModules.length z5e),(.slice z5f zi.fChannels.length z5g),(.slice z5h zi.fSwitches.length z5i),(.slice z5j zi.fLinks.length z5k),(.slice z5l zi.fVLs.length z5m),(.slice z5n zi.fHealth.length z5o),(.slice z5p zi.fCauses.length z5q),(.slice z5r zi.fVersions.length z5s)],y16 z3j (fun x=>Value.agg (e51 x).toArray) (fun x=>Value.agg (e50 x).toArray) z1z,stb z5t 50 [(.int .i64 ((nth z4.1 z5).fSent)),(.int .i64 ((nth z4.1 z5).fNode)),(.int .i64 ((nth z4.1 z5).fTime))],stb zbt 53 [(.int .i64 ((nth zx ((nth z4.1 z5).fSent)).fTime)),(.int .i64 ((nth zx ((nth z4.1 z5).fSent)).fVL)),(.int .i64 ((nth zx ((nth z4.1 z5).fSent)).fSize))]]) ?_ ?_
                  · skip
                    refine WC.block (WC.b ?_)
                    obtain ⟨zu8,h⟩:=yj h
                    refine WC.a (WL.pu rfl (WL.pu rfl ?_))
                    refine WL.znth (dd:=119) rfl rfl (Z:=(Z ++ [])) (Pr:=(fun r x=>r = e59 x)) y4N rfl rfl zjo zu8 ?_
                    rintro zxX zxY zu9 zxZ rfl
                    refine WL.a (d:=120) rfl rfl rfl (ya y4z rfl rfl) ?_
                    refine WL.a (d:=121) rfl rfl rfl (yb ye rfl (y1G (hz.pv2 .here) zu9 rfl)) ?_
                    refine WL.pu rfl (WL.pu rfl (WL.nil (WX.a ?_)))
                    refine WC.cond rfl (fun zjq=>?_) (fun zjq=>?_)
                    · replace h:=ym h zjq
                      refine WC.b ?_
                      obtain ⟨zua,h⟩:=yj h
                      refine WC.a (WL.pu rfl (WL.pu rfl ?_))
                      refine WL.znth (dd:=126) rfl rfl (Z:=(Z ++ [])) (Pr:=(fun r x=>r = e59 x)) y4N rfl rfl zjo zua ?_
                      rintro zy0 zy1 zub zy2 rfl
                      refine WL.a (d:=127) rfl rfl rfl (ya y3f rfl rfl) ?_
                      refine WL.a (d:=128) rfl rfl rfl (yb ye rfl (y1G (hz.pv2 .here) zub rfl)) ?_
                      refine WL.pu rfl (WL.nil (WX.a (WC.b ?_)))
                      obtain ⟨zuc,h⟩:=yj h
                      obtain ⟨zud,h⟩:=yj h
                      refine WC.yV (fun i=>[].contains i) [] rfl ?_
                      refine WD.a (i:=0) (d:=129) (by kernel_rfl) rfl (z2 (by kernel_rfl)) (z3 (by kernel_rfl)) rfl rfl rfl (fun _=>q_m rfl) ?_
                      refine WD.a (i:=1) (d:=130) (by kernel_rfl) rfl (z2 (by kernel_rfl)) (z3 (by kernel_rfl)) rfl rfl rfl (fun _=>ya y4W rfl rfl) ?_
                      refine WD.e (i:=2) (d:=131) (by kernel_rfl) rfl (z2 (by kernel_rfl)) (z3 (by kernel_rfl)) rfl rfl rfl (yb ye rfl (yc .h5 rfl)) ?_
                      refine WD.a (i:=3) (d:=132) (by kernel_rfl) rfl (z2 (by kernel_rfl)) (z3 (by kernel_rfl)) rfl rfl rfl (fun _=>ya y5C rfl rfl) ?_
                      refine WD.e (i:=4) (d:=133) (by kernel_rfl) rfl (z2 (by kernel_rfl)) (z3 (by kernel_rfl)) rfl rfl rfl (yb y5D rfl (yc .h2 rfl)) ?_
                      refine WD.a (i:=5) (d:=134) (by kernel_rfl) rfl (z2 (by kernel_rfl)) (z3 (by kernel_rfl)) rfl rfl rfl (fun _=>q_m rfl) ?_
                      refine WD.a (i:=6) (d:=135) (by kernel_rfl) rfl (z2 (by kernel_rfl)) (z3 (by kernel_rfl)) rfl rfl rfl (fun _=>q_m rfl) ?_
                      refine WD.znth (j:=7) (dd:=136) (by kernel_rfl) rfl (z2 (by kernel_rfl)) (z3 (by kernel_rfl)) rfl rfl (Z:=(Z ++ [])) (Pr:=(fun r x=>r = e59 x)) y4N rfl rfl zjo zuc ?_
                      rintro zy3 zy4 zue zy5 rfl
                      refine WD.a (i:=8) (d:=137) (by kernel_rfl) rfl (z2 (by kernel_rfl)) (z3 (by kernel_rfl)) rfl rfl rfl (fun _=>ya y5H rfl rfl) ?_
                      refine WD.e (i:=9) (d:=138) (by kernel_rfl) rfl (z2 (by kernel_rfl)) (z3 (by kernel_rfl)) rfl rfl rfl (yb ye rfl (y1G (hz.pv2 .here) zue rfl)) ?_
                      refine WD.znth (j:=10) (dd:=139) (by kernel_rfl) rfl (z2 (by kernel_rfl)) (z3 (by kernel_rfl)) rfl rfl (Z:=(Z ++ [])) (Pr:=(fun r x=>r = e62 x)) y7k rfl rfl (zja.mono (Zle.left _ _)) zud ?_
                      rintro zy6 zy7 zuf zy8 rfl
                      refine WD.a (i:=11) (d:=140) (by kernel_rfl) rfl (z2 (by kernel_rfl)) (z3 (by kernel_rfl)) rfl rfl rfl (fun _=>ya y6J rfl rfl) ?_
                      refine WD.e (i:=12) (d:=141) (by kernel_rfl) rfl (z2 (by kernel_rfl)) (z3 (by kernel_rfl)) rfl rfl rfl (yb ye rfl (y1G (hz.pv2 .here) zuf rfl)) ?_
                      refine WD.a (i:=13) (d:=142) (by kernel_rfl) rfl (z2 (by kernel_rfl)) (z3 (by kernel_rfl)) rfl rfl rfl (fun _=>q_mul rfl rfl rfl) ?_
                      refine WD.a (i:=14) (d:=143) (by kernel_rfl) rfl (z2 (by kernel_rfl)) (z3 (by kernel_rfl)) rfl rfl rfl (fun _=>y4l rfl rfl rfl) ?_
                      refine WD.a (i:=15) (d:=17) (by kernel_rfl) rfl (z2 (by kernel_rfl)) (z3 (by kernel_rfl)) rfl rfl rfl (fun _=>q_z rfl) ?_
                      refine WD.done (by kernel_rfl) ?_
                      refine WX.a (WC.b (WC.a (WL.pu rfl ?_)))
                      refine WL.a (d:=145) rfl rfl rfl (ya y3o rfl rfl) ?_
                      refine WL.a (d:=146) rfl rfl rfl (yb y3p rfl (yc .h2 rfl)) ?_
                      refine WL.a (d:=147) rfl rfl rfl (yZ Try.underlying22 rfl) ?_
                      refine WL.pu rfl (WL.nil (WX.a ?_))
                      refine WC.cond rfl (fun zjr=>?_) (fun zjr=>?_)
                      · replace h:=ym h zjr
                        obtain ⟨zug,h⟩:=yj h
                        refine WC.a (WL.pu rfl ?_)
                        refine WL.a (d:=150) rfl rfl rfl (ya y4x rfl rfl) ?_
                        refine WL.a (d:=151) rfl rfl rfl (yb y4y rfl (yc .h2 rfl)) ?_
                        refine WL.pu rfl ?_
                        refine WL.a (d:=153) rfl rfl rfl (ya y3o rfl rfl) ?_
                        refine WL.a (d:=154) rfl rfl rfl (yb y3p rfl (yc .h2 rfl)) ?_
                        refine WL.a (d:=155) rfl rfl rfl (yZ Try.underlying22 rfl) ?_
                        refine WL.pu rfl ?_
                        refine WL.znth (dd:=157) rfl rfl (Z:=(Z ++ [])) (Pr:=(fun r x=>r = e64 x)) y5I rfl rfl (zj9.mono (Zle.left _ _)) zug ?_
                        rintro zy9 zya zuh zyb rfl
                        refine WL.a (d:=158) rfl rfl rfl (ya y6K rfl rfl) ?_
                        refine WL.a (d:=159) rfl rfl rfl (yb ye rfl (y1G (hz.pv2 .here) zuh rfl)) ?_
                        refine WL.pu rfl (WL.pu rfl (WL.nil (WX.yh ?_)))
                        exact WX.mid (G:=Int × Int) ⟨(i64 ((i64 (z2M + (i64 (((nth zx ((nth z4.1 z5).fSent)).fSize) * ((nth zi.fLinks ((nth (nth zO ((nth zx ((nth z4.1 z5).fSent)).fVL)) z16).fLink)).fSlow))))) + ((nth zi.fSwitches (i64 (((nth (nth zO ((nth zx ((nth z4.1 z5).fSent)).fVL)) z16).fNode) - ((zi.fModules.length : Nat) : Int)))).fDelay))),((nth (nth zO ((nth zx ((nth z4.1 z5).fSent)).fVL)) z16).fNode)⟩ h (.cons rfl (.cons rfl (.cons rfl (.cons rfl (.cons rfl (.cons rfl (.cons rfl (.cons rfl (.cons rfl (.cons rfl (.cons rfl (.cons rfl (.cons rfl (.cons rfl .nil)))))))))))))) (.cons .here (.cons .here (.cons .here (.cons .here (.cons .here (.cons .here .nil))))))
                      · replace h:=yn h zjr
                        refine WC.skip (WX.yh ?_)
                        exact WX.mid (G:=Int × Int) ⟨(i64 (z2M + (i64 (((nth zx ((nth z4.1 z5).fSent)).fSize) * ((nth zi.fLinks ((nth (nth zO ((nth zx ((nth z4.1 z5).fSent)).fVL)) z16).fLink)).fSlow))))),((nth (nth zO ((nth zx ((nth z4.1 z5).fSent)).fVL)) z16).fNode)⟩ h (.cons rfl (.cons rfl (.cons rfl (.cons rfl (.cons rfl (.cons rfl (.cons rfl (.cons rfl (.cons rfl (.cons rfl (.cons rfl (.cons rfl (.cons rfl (.cons rfl .nil)))))))))))))) (.cons .here (.cons .here (.cons .here (.cons .here (.cons .here (.cons .here .nil))))))
                    · replace h:=yn h zjq
                      refine WC.skip (WX.yh ?_)
                      exact WX.mid (G:=Int × Int) ⟨z2M,z4J⟩ h (.cons rfl (.cons rfl (.cons rfl (.cons rfl (.cons rfl (.cons rfl (.cons rfl (.cons rfl (.cons rfl (.cons rfl (.cons rfl (.cons rfl (.cons rfl (.cons rfl .nil)))))))))))))) (.cons .here (.cons .here (.cons .here (.cons .here (.cons .here (.cons .here .nil))))))
                  · rintro z7F z7G h
                    replace h:=(zu7 z7F z7G).symm.trans h
                    refine WC.a (WL.pu rfl (WL.pu rfl (WL.pu rfl (WL.nil ?_))))
                    exact WX.round (G:=Nat × Int × Int × Int) ⟨zj6,z7F,z7G,(i64 (z16 - 1))⟩ h (Nat.lt_succ_self _) (.cons rfl (.cons rfl (.cons rfl (.cons rfl (.cons rfl (.cons rfl (.cons rfl (.cons rfl (.cons rfl (.cons rfl (.cons rfl (.cons rfl (.cons rfl (.cons rfl .nil)))))))))))))) (.cons .here (.cons .here (.cons .here (.cons .here (.cons .here (.cons .here .nil))))))
                · replace h:=yn h zjp
                  refine WC.exit (WX.yf (WX.yf (WX.yB ?_)))
                  exact WX.mid (G:=Int) z2M h (.cons rfl (.cons rfl (.cons rfl (.cons rfl (.cons rfl (.cons rfl (.cons rfl (.cons rfl (.cons rfl (.cons rfl (.cons rfl .nil))))))))))) (.cons .here (.cons .here (.cons .here (.cons .here (.cons .here (.cons .here .nil))))))
              · rintro z7I h
                replace h:=(zu6 z7I).symm.trans h
                refine WC.b (WC.a ?_)
                refine WL.a (d:=161) rfl rfl rfl (ya y4g rfl rfl) ?_
                refine WL.a (d:=162) rfl rfl rfl (yb ye rfl (yc .h5 rfl)) ?_
                refine WL.a (d:=163) rfl rfl rfl (ya y6O rfl rfl) ?_
                refine WL.a (d:=164) rfl rfl rfl (yb ye rfl (yc .h4 rfl)) ?_
                refine WL.a (d:=165) rfl rfl rfl (y1x (v:=(.agg #[(.int .i64 ((nth zx ((nth z4.1 z5).fSent)).fVL)),(.int .i64 ((nth z4.1 z5).fNode))])) (Eos.parts (l:=[.tmp 162,.tmp 164]) (.cons rfl (.cons rfl .nil)) [0,1]) (fun _=>by kernel_rfl)) ?_
                refine WL.new (dd:=20) rfl rfl rfl (y23 (cs:=[(.int .i64 0),(.int .i64 0)]) zeroT_51 rfl) ?_
                intro zyc _
                refine WL.y1l rfl rfl (y1D sizT_51 rfl rfl rfl .here rfl rfl rfl) ?_
                refine WL.nil (WX.a (WC.b (WC.b (WC.a (WL.pu rfl ?_)))))
                refine WL.a (d:=168) rfl rfl rfl (yH y90 rfl (y1j .here) rfl) ?_
                refine WL.a (d:=169) rfl rfl rfl (y9q (k:=(⟨((nth zx ((nth z4.1 z5).fSent)).fVL),((nth z4.1 z5).fNode)⟩ : S51)) (dflt:=((⟨0,0,0⟩ : Sapi_Come) : Sapi_Come)) y8Z Try.underlying60 y73 rfl rfl rfl .h4) ?_
                refine WL.pu rfl (WL.pu rfl (WL.pu rfl ?_))
                refine WL.new (dd:=21) rfl rfl rfl (y23 (cs:=[(.int .i64 0),(.int .i64 0),(.int .i64 0)]) y73 rfl) ?_
                intro zyd _
                refine WL.y1l rfl rfl (y1D y3R rfl rfl rfl .here rfl rfl rfl) ?_
                refine WL.pu rfl (WL.nil (WX.a (WC.b (WC.a ?_))))
                refine WL.a (d:=172) rfl rfl rfl (ya y47 rfl rfl) ?_
                refine WL.a (d:=173) rfl rfl rfl (yb ye rfl (yc .h6 rfl)) ?_
                refine WL.pu rfl (WL.pu rfl (WL.pu rfl ?_))
                refine WL.seg false 15 176 (B:=(decide (((nth z4.1 z5).fTime) < z7I)) || ((y1o z1z (⟨((nth zx ((nth z4.1 z5).fSent)).fVL),((nth z4.1 z5).fNode)⟩ : S51)) && ((decide (((yr z1z (⟨((nth zx ((nth z4.1 z5).fSent)).fVL),((nth z4.1 z5).fNode)⟩ : S51) (⟨0,0,0⟩ : Sapi_Come)).fSent) ≥ ((nth z4.1 z5).fSent))) || (decide (((yr z1z (⟨((nth zx ((nth z4.1 z5).fSent)).fVL),((nth z4.1 z5).fNode)⟩ : S51) (⟨0,0,0⟩ : Sapi_Come)).fTime) ≥ ((nth z4.1 z5).fTime)))))) rfl rfl rfl rfl rfl rfl (fun h=>(y1X h).symm) (fun _ zui=>?_) ?_
                · skip
                  refine WL.pu rfl (WL.pu rfl ?_)
                  refine WL.seg true 12 178 (B:=(y1o z1z (⟨((nth zx ((nth z4.1 z5).fSent)).fVL),((nth z4.1 z5).fNode)⟩ : S51)) && ((decide (((yr z1z (⟨((nth zx ((nth z4.1 z5).fSent)).fVL),((nth z4.1 z5).fNode)⟩ : S51) (⟨0,0,0⟩ : Sapi_Come)).fSent) ≥ ((nth z4.1 z5).fSent))) || (decide (((yr z1z (⟨((nth zx ((nth z4.1 z5).fSent)).fVL),((nth z4.1 z5).fNode)⟩ : S51) (⟨0,0,0⟩ : Sapi_Come)).fTime) ≥ ((nth z4.1 z5).fTime))))) rfl rfl rfl rfl rfl rfl (fun h=>(y2n h).symm) (fun _ zuj=>?_) ?_
                  · skip
                    refine WL.a (d:=179) rfl rfl rfl (ya y48 rfl rfl) ?_
                    refine WL.a (d:=180) rfl rfl rfl (yb ye rfl (yc .here rfl)) ?_
                    refine WL.a (d:=181) rfl rfl rfl (ya y48 rfl rfl) ?_
                    refine WL.a (d:=182) rfl rfl rfl (yb ye rfl (yc .h6 rfl)) ?_
                    refine WL.pu rfl (WL.pu rfl ?_)
                    refine WL.seg false 5 184 (B:=(decide (((yr z1z (⟨((nth zx ((nth z4.1 z5).fSent)).fVL),((nth z4.1 z5).fNode)⟩ : S51) (⟨0,0,0⟩ : Sapi_Come)).fSent) ≥ ((nth z4.1 z5).fSent))) || (decide (((yr z1z (⟨((nth zx ((nth z4.1 z5).fSent)).fVL),((nth z4.1 z5).fNode)⟩ : S51) (⟨0,0,0⟩ : Sapi_Come)).fTime) ≥ ((nth z4.1 z5).fTime)))) rfl rfl rfl rfl rfl rfl (fun h=>(y1X h).symm) (fun _ zuk=>?_) ?_
                    · skip
                      refine WL.a (d:=185) rfl rfl rfl (ya y47 rfl rfl) ?_
                      refine WL.a (d:=186) rfl rfl rfl (yb ye rfl (yc .here rfl)) ?_
                      refine WL.a (d:=187) rfl rfl rfl (ya y47 rfl rfl) ?_
                      refine WL.a (d:=188) rfl rfl rfl (yb ye rfl (yc .h6 rfl)) ?_
                      refine WL.pu rfl (WL.pu rfl ?_)
                      exact WL.ys (y1Y zuk) rfl rfl .all
                    refine WL.pu rfl ?_
                    exact WL.ys (y2o zuj) rfl rfl .all
                  refine WL.pu rfl ?_
                  exact WL.ys (y1Y zui) rfl rfl .all
                refine WL.nil (WX.a ?_)
                refine WC.cond rfl (fun zjs=>?_) (fun zjs=>?_)
                · replace h:=ym h zjs
                  refine WC.b (WC.a (WL.pu rfl (WL.nil (WX.a (WC.ret (WX.yg (WX.yC (WX.yg (WX.yg (WX.yC (WX.yg ?_)))))))))))
                  obtain rfl:=Option.some.inj h
                  refine WX.yi Try.results5 (.tmp rfl .nil) (fun w hw=>?_)
                  exact ⟨[],y10 rfl,trivial,hw.sub (.cons .h2 .nil)⟩
                · replace h:=yn h zjs
                  refine WC.skip (WX.a (WC.a (WL.pu rfl ?_)))
                  refine WL.a (d:=194) rfl rfl rfl (yH y90 rfl (y1j .h1) rfl) ?_
                  refine WL.a (d:=195) rfl rfl rfl (yH y20 rfl (y1j .h6) rfl) ?_
                  refine WL.y1l rfl rfl (y4H (k:=(⟨((nth zx ((nth z4.1 z5).fSent)).fVL),((nth z4.1 z5).fNode)⟩ : S51)) (v:=(⟨((nth z4.1 z5).fSent),((nth z4.1 z5).fNode),((nth z4.1 z5).fTime)⟩ : Sapi_Come)) y8Z Try.underlying60 rfl rfl rfl rfl .h5) ?_
                  refine WL.nil (WX.yh ?_)
                  exact WX.mid (G:=Option Addr × Nat) ⟨(some ⟨z26,0,none⟩),z1u⟩ h (.cons rfl (.cons rfl (.cons rfl (.cons rfl (.cons rfl (.cons rfl (.cons rfl (.cons rfl .nil)))))))) (.cons .h3 (.cons .h3 (.cons .h3 (.cons .here .nil))))
          · rintro z9z z9A h
            replace h:=ztV.symm.trans h
            refine WC.a (WL.pu rfl (WL.pu rfl (WL.nil ?_)))
            exact WX.round (G:=Nat × Int × (List (S51 × Sapi_Come)) × Option Addr × Nat) ⟨zj7,(i64 (z5 + 1)),(yU z1z (⟨((nth zx ((nth z4.1 z5).fSent)).fVL),((nth z4.1 z5).fNode)⟩ : S51) (⟨((nth z4.1 z5).fSent),((nth z4.1 z5).fNode),((nth z4.1 z5).fTime)⟩ : Sapi_Come)),z9z,z9A⟩ h (Nat.lt_succ_self _) (.cons rfl (.cons rfl (.cons rfl (.cons rfl (.cons rfl (.cons rfl (.cons rfl (.cons rfl .nil)))))))) (.cons .here (.cons .here (.cons .here (.cons .here .nil))))
        · replace h:=yn h zjf
          refine WC.exit (WX.yf (WX.yf (WX.yB ?_)))
          exact WX.mid (G:=Unit) () h .nil (.cons .here .nil)
      · rintro  h
        replace h:=ztU.symm.trans h
        refine WC.b ?_
        obtain ⟨znD,zul,h⟩:=zp h
        refine WC.a ?_
        refine WL.y7O (dd:=197) rfl rfl rfl (zF (l:=[]) Try.call11 .nil) .nil (ccz hz .nil .here fun w pz ho=>y6i _ _ zul w pz ) ?_
        rintro zum _
        refine WL.merge .here .here ?_
        refine WL.pu rfl (WL.nil (WX.a (WC.ret ?_)))
        obtain rfl:=Option.some.inj h
        refine WX.yi Try.results5 (.tmp rfl .nil) (fun w hw=>?_)
        exact ⟨([] ++ zum),y10 rfl,trivial,hw.sub (.cons .here .nil)⟩
end Go.Proofs.Ytinchjigeakocaa

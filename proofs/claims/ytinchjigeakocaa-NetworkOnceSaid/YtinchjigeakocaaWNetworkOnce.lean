/- A part of this claim's proof: models of functions, walks, plain laws. No conditions. -/
import Derived.Test.YtinchjigeakocaaW31g
namespace Go.Proofs.Ytinchjigeakocaa
open Go Go.RowKit Sep
set_option linter.all false
set_option maxRecDepth 30000
set_option maxHeartbeats 4000000
def y1E (z4 : List Sapi_Come × List Sapi_Come × Int) (zu : List zSt) (z7X : (List (S51 × Int)) → Option Bool) : Nat → Int → (List (S51 × Int)) → Option Bool
 | 0,_,_=>none
 | zk7 + 1,z11,z3j=>if decide (z11 < ((z4.1.length : Nat) : Int)) then chk ((0 : Int) ≤ z11 ∧ z11 < ((z4.1.length : Nat) : Int)) (if (decide (((nth z4.1 z11).fSent) < 0)) || (decide (((nth z4.1 z11).fSent) ≥ ((zu.length : Nat) : Int))) then some false else y1E z4 zu z7X zk7 (i64 (z11 + 1)) (yI z3j (⟨((nth z4.1 z11).fSent),((nth z4.1 z11).fNode)⟩ : S51) (i64 ((yk z3j (⟨((nth z4.1 z11).fSent),((nth z4.1 z11).fNode)⟩ : S51) 0) + 1)))) else z7X z3j
theorem y50 {n : Nat} {z4 : List Sapi_Come × List Sapi_Come × Int} {zu : List zSt} {z7X : (List (S51 × Int)) → Option Bool} {z11 : Int} {z3j : List (S51 × Int)} {r : Bool} (h : y1E z4 zu z7X n z11 z3j = some r) : ∃ m,n = m + 1:=by
 cases n with
 | zero=>cases h
 | succ m=>exact ⟨m,rfl⟩
def y1F (z4 : List Sapi_Come × List Sapi_Come × Int) (zu : List zSt) (z7Y : (List (S51 × Int)) → Option Bool) : Nat → Int → (List (S51 × Int)) → Option Bool
 | 0,_,_=>none
 | zk8 + 1,zC,z3k=>if decide (zC < ((z4.2.1.length : Nat) : Int)) then chk ((0 : Int) ≤ zC ∧ zC < ((z4.2.1.length : Nat) : Int)) (chk (((decide (((nth z4.2.1 zC).fSent) < 0)) || (decide (((nth z4.2.1 zC).fSent) ≥ ((zu.length : Nat) : Int)))) = false → ((0 : Int) ≤ ((nth z4.2.1 zC).fSent) ∧ ((nth z4.2.1 zC).fSent) < ((zu.length : Nat) : Int))) (if ((decide (((nth z4.2.1 zC).fSent) < 0)) || (decide (((nth z4.2.1 zC).fSent) ≥ ((zu.length : Nat) : Int)))) || (decide (((nth z4.2.1 zC).fTime) < ((nth zu ((nth z4.2.1 zC).fSent)).fTime))) then some false else y1F z4 zu z7Y zk8 (i64 (zC + 1)) (yI z3k (⟨((nth z4.2.1 zC).fSent),((nth z4.2.1 zC).fNode)⟩ : S51) (i64 ((yk z3k (⟨((nth z4.2.1 zC).fSent),((nth z4.2.1 zC).fNode)⟩ : S51) 0) + 1))))) else z7Y z3k
theorem y51 {n : Nat} {z4 : List Sapi_Come × List Sapi_Come × Int} {zu : List zSt} {z7Y : (List (S51 × Int)) → Option Bool} {zC : Int} {z3k : List (S51 × Int)} {r : Bool} (h : y1F z4 zu z7Y n zC z3k = some r) : ∃ m,n = m + 1:=by
 cases n with
 | zero=>cases h
 | succ m=>exact ⟨m,rfl⟩
def y1f (zP : List (List Sapi_Hop)) (zu : List zSt) (zD : Int) (z1d : List (S51 × Int)) (z7Z : Int → Option Bool) : Nat → Int → Int → Int → Option Bool
 | 0,_,_,_=>none
 | zk9 + 1,z3N,z5f,z1P=>if decide (z1P ≥ 0) then jp2 (fun (z80 : Int) (z81 : Int)=>y1f zP zu zD z1d z7Z zk9 z80 z81 (i64 (z1P - 1))) fun zgt=>chk ((0 : Int) ≤ z1P ∧ z1P < (((nth zP ((nth zu zD).fVL)).length : Nat) : Int)) (if decide (((nth (nth zP ((nth zu zD).fVL)) z1P).fNext) = z5f) then chk ((0 : Int) ≤ z1P ∧ z1P < (((nth zP ((nth zu zD).fVL)).length : Nat) : Int)) (zgt (i64 (z3N + (yk z1d (⟨zD,((nth (nth zP ((nth zu zD).fVL)) z1P).fNode)⟩ : S51) 0))) ((nth (nth zP ((nth zu zD).fVL)) z1P).fNode)) else zgt z3N z5f) else z7Z z3N
theorem y4P {n : Nat} {zP : List (List Sapi_Hop)} {zu : List zSt} {zD : Int} {z1d : List (S51 × Int)} {z7Z : Int → Option Bool} {z3N : Int} {z5f : Int} {z1P : Int} {r : Bool} (h : y1f zP zu zD z1d z7Z n z3N z5f z1P = some r) : ∃ m,n = m + 1:=by
 cases n with
 | zero=>cases h
 | succ m=>exact ⟨m,rfl⟩
def y1n (zV : List Int) (z10 : List (S51 × Int)) (zD : Int) (zP : List (List Sapi_Hop)) (zu : List zSt) (z1d : List (S51 × Int)) (z82 : Int → Option Bool) : Nat → Int → Int → Option Bool
 | 0,_,_=>none
 | zka + 1,z3l,z18=>if decide (z18 < ((zV.length : Nat) : Int)) then jp0 (y1n zV z10 zD zP zu z1d z82 zka (i64 (z3l + (yk z10 (⟨zD,(nth zV z18)⟩ : S51) 0))) (i64 (z18 + 1))) fun zkb=>chk ((0 : Int) ≤ z18 ∧ z18 < ((zV.length : Nat) : Int)) (jp1 (fun (z6V : Int)=>if (decide ((yk z10 (⟨zD,(nth zV z18)⟩ : S51) 0) > 1)) || ((decide ((yk z10 (⟨zD,(nth zV z18)⟩ : S51) 0) = 0)) && (decide (z6V = 0))) then some false else zkb) fun z7Z=>y1f zP zu zD z1d z7Z yt 0 (nth zV z18) (i64 ((((nth zP ((nth zu zD).fVL)).length : Nat) : Int) - 1))) else z82 z3l
theorem y52 {n : Nat} {zV : List Int} {z10 : List (S51 × Int)} {zD : Int} {zP : List (List Sapi_Hop)} {zu : List zSt} {z1d : List (S51 × Int)} {z82 : Int → Option Bool} {z3l : Int} {z18 : Int} {r : Bool} (h : y1n zV z10 zD zP zu z1d z82 n z3l z18 = some r) : ∃ m,n = m + 1:=by
 cases n with
 | zero=>cases h
 | succ m=>exact ⟨m,rfl⟩
def y1G (zu : List zSt) (zP : List (List Sapi_Hop)) (z7 : Sapi_Config) (z10 : List (S51 × Int)) (z1d : List (S51 × Int)) (z83 : Int → Option Bool) : Nat → Int → Int → Option Bool
 | 0,_,_=>none
 | zkc + 1,z4z,zD=>if decide (zD < ((zu.length : Nat) : Int)) then jp1 (fun (z84 : Int)=>y1G zu zP z7 z10 z1d z83 zkc z84 (i64 (zD + 1))) fun zkd=>chk ((0 : Int) ≤ zD ∧ zD < ((zu.length : Nat) : Int)) (chk ((0 : Int) ≤ ((nth zu zD).fVL) ∧ ((nth zu zD).fVL) < ((zP.length : Nat) : Int)) ((y3t z7 (nth zP ((nth zu zD).fVL))).bind fun zV=>jp1 (fun (z85 : Int)=>zkd z85) fun z82=>y1n zV z10 zD zP zu z1d z82 yt z4z 0)) else z83 z4z
theorem y53 {n : Nat} {zu : List zSt} {zP : List (List Sapi_Hop)} {z7 : Sapi_Config} {z10 : List (S51 × Int)} {z1d : List (S51 × Int)} {z83 : Int → Option Bool} {z4z : Int} {zD : Int} {r : Bool} (h : y1G zu zP z7 z10 z1d z83 n z4z zD = some r) : ∃ m,n = m + 1:=by
 cases n with
 | zero=>cases h
 | succ m=>exact ⟨m,rfl⟩
def y3j (z7 : Sapi_Config) (z8F : Int) (zP : List (List Sapi_Hop)) (zu : List zSt) : Option Bool :=
 (y4d z7 z8F zP zu).bind fun zoP=>if !zoP then (y3W).bind fun zoQ=>some zoQ else (y2U z7 z8F zP zu).bind fun z4=>if decide (z4.2.2 ≠ 0) then some false else jp1 (fun (z10 : List (S51 × Int))=>jp1 (fun (z1d : List (S51 × Int))=>jp1 (fun (z86 : Int)=>(if decide (z86 = ((z4.1.length : Nat) : Int)) then (y3W).bind fun zoR=>some zoR else some false).bind fun zke=>some zke) fun z83=>y1G zu zP z7 z10 z1d z83 yt 0 0) fun z7Y=>y1F z4 zu z7Y yt 0 ([] : List (S51 × Int))) fun z7X=>y1E z4 zu z7X yt 0 ([] : List (S51 × Int))
set_option maxRecDepth 20000 in
theorem y6B (Z : Zp) (z2P : Option Addr) (z2Q : Nat) (z2R : Option Addr) (z2S : Nat) (z2T : Option Addr) (z2U : Nat) (z2V : Option Addr) (z2W : Nat) (z2X : Option Addr) (z2Y : Nat) (z2Z : Option Addr) (z30 : Nat) (z31 : Option Addr) (z32 : Nat) (z33 : Option Addr) (z34 : Nat) (z2z : Option Addr) (z2A : Nat) (z2B : Option Addr) (z2C : Nat) (z7 : Sapi_Config) (z8F : Int) (zP : List (List Sapi_Hop)) (zu : List zSt) (r : Bool)
  (h : y3j z7 z8F zP zu = some r) (w₀ : World) (hz : PZ [] w₀ Z)
  (zkf : ZS Z 4 (y2w Z) z2P z2Q z7.fModules)
  (zkg : ZS Z 4 (y2S Z) z2R z2S z7.fChannels)
  (zkh : ZS Z 4 (fun r x=>r = e64 x) z2T z2U z7.fSwitches)
  (zki : ZS Z 4 (fun r x=>r = e62 x) z2V z2W z7.fLinks)
  (zkj : ZS Z 7 (y2F Z) z2X z2Y z7.fVLs)
  (zkk : ZS Z 5 (fun r x=>r = y2Y x) z2Z z30 z7.fHealth)
  (zkl : ZS Z 3 (y2T Z) z31 z32 z7.fCauses)
  (zkm : ZS Z 4 (fun r x=>r = y2Z x) z33 z34 z7.fVersions)
  (zkn : ZS Z 1 (p55 Z) z2z z2A zP)
  (zgu : ZS Z 3 (fun r x=>r = e53 x) z2B z2C zu) :
  Calls Try.prog 4 #[(.agg #[(.slice z2P z7.fModules.length z2Q),(.slice z2R z7.fChannels.length z2S),(.slice z2T z7.fSwitches.length z2U),(.slice z2V z7.fLinks.length z2W),(.slice z2X z7.fVLs.length z2Y),(.slice z2Z z7.fHealth.length z30),(.slice z31 z7.fCauses.length z32),(.slice z33 z7.fVersions.length z34)]),(.int .i64 z8F),(.slice z2z zP.length z2A),(.slice z2B zu.length z2C)] w₀ fun e w'=>∃ Zn : Zp,e = .returned (.bool r) ∧ True ∧ Hp [] w₀ w' [fz Zn]:=by
 unfold y3j at h
 refine Calls.yo (vs:=[(.agg #[(.slice z2P z7.fModules.length z2Q),(.slice z2R z7.fChannels.length z2S),(.slice z2T z7.fSwitches.length z2U),(.slice z2V z7.fLinks.length z2W),(.slice z2X z7.fVLs.length z2Y),(.slice z2Z z7.fHealth.length z30),(.slice z31 z7.fCauses.length z32),(.slice z33 z7.fVersions.length z34)]),(.int .i64 z8F),(.slice z2z zP.length z2A),(.slice z2B zu.length z2C)]) (pre:=[]) (env:=[(0,(.agg #[(.slice z2P z7.fModules.length z2Q),(.slice z2R z7.fChannels.length z2S),(.slice z2T z7.fSwitches.length z2U),(.slice z2V z7.fLinks.length z2W),(.slice z2X z7.fVLs.length z2Y),(.slice z2Z z7.fHealth.length z30),(.slice z31 z7.fCauses.length z32),(.slice z33 z7.fVersions.length z34)])),(1,(.int .i64 z8F)),(2,(.slice z2z zP.length z2A)),(3,(.slice z2B zu.length z2C))]) Try.func4 rfl Try.ntmps4 rfl (Hp.nil w₀ _) rfl ?_
 refine WC.pool (WC.b (WC.a ?_))
 refine WL.new (dd:=4) rfl rfl rfl (y2h (cs:=[(.slice z2P z7.fModules.length z2Q),(.slice z2R z7.fChannels.length z2S),(.slice z2T z7.fSwitches.length z2U),(.slice z2V z7.fLinks.length z2W),(.slice z2X z7.fVLs.length z2Y),(.slice z2Z z7.fHealth.length z30),(.slice z31 z7.fCauses.length z32),(.slice z33 z7.fVersions.length z34)]) rfl rfl) ?_
 intro z1J _
 refine WL.pu rfl (WL.nil (WX.a (WC.b (WC.b ?_))))
 obtain ⟨zoP,zv1,h⟩:=zn h
 refine WC.a ?_
 refine WL.a (d:=28) rfl rfl rfl (yN y1L rfl (y1x .here) rfl) ?_
 refine WL.pu rfl (WL.pu rfl (WL.pu rfl ?_))
 refine WL.b (dd:=32) rfl rfl rfl (zF (l:=[.tmp 28,.tmp 29,.tmp 30,.tmp 31]) Try.call20 (.cons rfl (.cons rfl (.cons rfl (.cons rfl .nil))))) .nil (ccz hz .nil .h1 fun w pz ho=>y8X _ _ _ _ _ _ _ _ _ _ _ _ _ _ _ _ _ _ _ _ _ _ _ _ _ _ zv1 w pz ((zkf.mono (Zle.left _ _)).weak (fun _ _ h=>y29 (Zle.left _ _) h)) ((zkg.mono (Zle.left _ _)).weak (fun _ _ h=>y2j (Zle.left _ _) h)) (zkh.mono (Zle.left _ _)) (zki.mono (Zle.left _ _)) ((zkj.mono (Zle.left _ _)).weak (fun _ _ h=>y2a (Zle.left _ _) h)) (zkk.mono (Zle.left _ _)) ((zkl.mono (Zle.left _ _)).weak (fun _ _ h=>y2k (Zle.left _ _) h)) (zkm.mono (Zle.left _ _)) ((zkn.mono (Zle.left _ _)).weak (fun _ _ h=>y4c (Zle.left _ _) h)) (zgu.mono (Zle.left _ _))) ?_
 refine WL.pu rfl (WL.nil (WX.a ?_))
 refine WC.cond rfl (fun zko=>?_) (fun zko=>?_)
 ·replace h:=yl h zko
  refine WC.b ?_
  obtain ⟨zoQ,zv2,h⟩:=zn h
  refine WC.a ?_
  refine WL.y8c (dd:=34) rfl rfl rfl (zF (l:=[]) Try.call11 .nil) .nil (ccz hz .nil .h1 fun w pz ho=>y6z _ _ zv2 w pz ) ?_
  rintro zv3 _
  refine WL.merge .here .h1 ?_
  refine WL.pu rfl (WL.nil (WX.a (WC.ret (WX.yf ?_))))
  obtain rfl:=Option.some.inj h
  refine WX.yi Try.results4 (.tmp rfl .nil) (fun w hw=>?_)
  exact ⟨([] ++ zv3),y12 rfl,trivial,hw.sub (.cons .here .nil)⟩
 ·replace h:=ym h zko
  refine WC.skip (WX.a (WC.b ?_))
  obtain ⟨z4,zv4,h⟩:=zn h
  refine WC.a ?_
  refine WL.a (d:=36) rfl rfl rfl (yN y1L rfl (y1x .here) rfl) ?_
  refine WL.pu rfl (WL.pu rfl (WL.pu rfl ?_))
  refine WL.y8d (dd:=40) rfl rfl rfl (zF (l:=[.tmp 36,.tmp 37,.tmp 38,.tmp 39]) Try.call12 (.cons rfl (.cons rfl (.cons rfl (.cons rfl .nil))))) .nil (ccz hz .nil .h1 fun w pz ho=>y6y _ _ _ _ _ _ _ _ _ _ _ _ _ _ _ _ _ _ _ _ _ _ _ _ _ _ zv4 w pz ((zkf.mono (Zle.left _ _)).weak (fun _ _ h=>y29 (Zle.left _ _) h)) ((zkg.mono (Zle.left _ _)).weak (fun _ _ h=>y2j (Zle.left _ _) h)) (zkh.mono (Zle.left _ _)) (zki.mono (Zle.left _ _)) ((zkj.mono (Zle.left _ _)).weak (fun _ _ h=>y2a (Zle.left _ _) h)) (zkk.mono (Zle.left _ _)) ((zkl.mono (Zle.left _ _)).weak (fun _ _ h=>y2k (Zle.left _ _) h)) (zkm.mono (Zle.left _ _)) ((zkn.mono (Zle.left _ _)).weak (fun _ _ h=>y4c (Zle.left _ _) h)) (zgu.mono (Zle.left _ _))) ?_
  rintro z1s z1t zcd z8G _
  refine WL.pu rfl (WL.pu rfl (WL.pu rfl (WL.pu rfl (WL.pu rfl (WL.pu rfl (WL.pu rfl (WL.nil (WX.a (WC.b (WC.b (WC.a (WL.pu rfl (WL.pu rfl (WL.nil (WX.a ?_)))))))))))))))
  refine WC.cond rfl (fun zkp=>?_) (fun zkp=>?_)
  ·replace h:=yl h zkp
   refine WC.b (WC.a (WL.pu rfl (WL.nil (WX.a (WC.ret (WX.yf ?_))))))
   obtain rfl:=Option.some.inj h
   refine WX.yi Try.results4 (.tmp rfl .nil) (fun w hw=>?_)
   exact ⟨[],y12 rfl,trivial,hw.sub (.cons .h3 .nil)⟩
  ·replace h:=ym h zkp
   refine WC.skip (WX.a (WC.b (WC.a ?_)))
   refine WL.new (dd:=46) rfl rfl rfl (y5C (fun x=>Value.agg (e51 x).toArray) (Value.int .i64)) ?_
   intro z1D _
   refine WL.pu rfl (WL.nil (WX.a (WC.b (WC.a ?_))))
   refine WL.new (dd:=47) rfl rfl rfl (y5C (fun x=>Value.agg (e51 x).toArray) (Value.int .i64)) ?_
   intro z1E _
   refine WL.pu rfl (WL.nil (WX.a ?_))
   obtain ⟨z7X,zv5,h⟩:=yZ h
   refine WC.y1l (fun (z10 : List (S51 × Int))=>(z7X z10 = some r)) (fun (z10 : List (S51 × Int))=>[(2,(.slice z2z zP.length z2A)),(3,(.slice z2B zu.length z2C)),(4,(.pointer (some ⟨z1J,0,none⟩))),(9,(.slice z1s z4.1.length z1t)),(10,(.slice zcd z4.2.1.length z8G)),(12,(.map (some z1D))),(13,(.map (some z1E)))]) (fun (z10 : List (S51 × Int))=>[fz [],row (.slice z1s z4.1.length z1t) 50 3 (z4.1.flatMap e50),row (.slice zcd z4.2.1.length z8G) 50 3 (z4.2.1.flatMap e50),stb z1J 31 [(.slice z2P z7.fModules.length z2Q),(.slice z2R z7.fChannels.length z2S),(.slice z2T z7.fSwitches.length z2U),(.slice z2V z7.fLinks.length z2W),(.slice z2X z7.fVLs.length z2Y),(.slice z2Z z7.fHealth.length z30),(.slice z31 z7.fCauses.length z32),(.slice z33 z7.fVersions.length z34)],yF z1D (fun x=>Value.agg (e51 x).toArray) (Value.int .i64) z10,yF z1E (fun x=>Value.agg (e51 x).toArray) (Value.int .i64) ([] : List (S51 × Int))]) ?_ ?_
   ·skip
    refine WC.b (WC.a (WL.pu rfl ?_))
    refine WL.a (d:=49) rfl rfl rfl (yW Try.underlying36 rfl) ?_
    refine WL.pu rfl (WL.nil (WX.a (WC.block ?_)))
    refine WC.y26 (fun (zce : Nat) (z11 : Int) (z3j : List (S51 × Int))=>(y1E z4 zu z7X zce z11 z3j = some r)) (fun (zce : Nat) (z11 : Int) (z3j : List (S51 × Int))=>[(2,(.slice z2z zP.length z2A)),(3,(.slice z2B zu.length z2C)),(4,(.pointer (some ⟨z1J,0,none⟩))),(9,(.slice z1s z4.1.length z1t)),(10,(.slice zcd z4.2.1.length z8G)),(12,(.map (some z1D))),(13,(.map (some z1E))),(48,(.slice z1s z4.1.length z1t)),(49,(.int .i64 ((z4.1.length : Nat) : Int))),(50,(.int .i64 z11))]) (fun (zce : Nat) (z11 : Int) (z3j : List (S51 × Int))=>[fz [],row (.slice z1s z4.1.length z1t) 50 3 (z4.1.flatMap e50),row (.slice zcd z4.2.1.length z8G) 50 3 (z4.2.1.flatMap e50),stb z1J 31 [(.slice z2P z7.fModules.length z2Q),(.slice z2R z7.fChannels.length z2S),(.slice z2T z7.fSwitches.length z2U),(.slice z2V z7.fLinks.length z2W),(.slice z2X z7.fVLs.length z2Y),(.slice z2Z z7.fHealth.length z30),(.slice z31 z7.fCauses.length z32),(.slice z33 z7.fVersions.length z34)],yF z1D (fun x=>Value.agg (e51 x).toArray) (Value.int .i64) z3j,yF z1E (fun x=>Value.agg (e51 x).toArray) (Value.int .i64) ([] : List (S51 × Int))]) (fun (zce : Nat) (z11 : Int) (z3j : List (S51 × Int))=>zce) ⟨yt,0,([] : List (S51 × Int))⟩ h (.cons rfl (.cons rfl (.cons rfl (.cons rfl (.cons rfl (.cons rfl (.cons rfl (.cons rfl (.cons rfl (.cons rfl .nil)))))))))) (.cons .h5 (.cons .h2 (.cons .h2 (.cons .h2 (.cons .h1 (.cons .here .nil)))))) ?_
    rintro zce z11 z3j h
    obtain ⟨zk7,rfl⟩:=y50 h
    rw [y1E] at h
    refine WC.b (WC.a (WL.pu rfl (WL.nil (WX.a (WC.b ?_)))))
    refine WC.cond rfl (fun zkq=>?_) (fun zkq=>?_)
    ·replace h:=yl h zkq
     refine WC.skip (WX.a (WC.b (WC.block (WC.b ?_))))
     obtain ⟨zeE,h⟩:=yj h
     refine WC.a ?_
     refine WL.know (fun w hw=>Hp.y2i .h1 hw (by intro hz'; have:=zeE; rw [hz'] at this; omega)) ?_
     rintro ⟨zzb,rfl⟩
     refine WL.a (d:=52) rfl rfl rfl (yr y19 rfl rfl zeE.1 zeE.2 y1b) ?_
     refine WL.a (d:=53) rfl rfl rfl (y1H (cs:=(e50 (nth z4.1 z11))) y23 rfl rfl (y1P .h1 (y1I (enc:=e50) (l:=z4.1) (i:=z11) (sz:=3) (fun _=>rfl) zeE.1 zeE.2))) ?_
     refine WL.new (dd:=15) rfl rfl rfl (y2d (cs:=[(.int .i64 0),(.int .i64 0),(.int .i64 0)]) y8W rfl) ?_
     intro zzc _
     refine WL.y1u rfl rfl (y1K y41 rfl rfl rfl .here rfl rfl rfl) ?_
     refine WL.nil (WX.a (WC.b (WC.b (WC.a ?_))))
     refine WL.a (d:=54) rfl rfl rfl (ya y4l rfl rfl) ?_
     refine WL.a (d:=55) rfl rfl rfl (yb yg rfl (yc .here rfl)) ?_
     refine WL.pu rfl (WL.pu rfl ?_)
     refine WL.seg false 5 57 (B:=(decide (((nth z4.1 z11).fSent) < 0)) || (decide (((nth z4.1 z11).fSent) ≥ ((zu.length : Nat) : Int)))) rfl rfl rfl rfl rfl rfl (fun h=>(y24 h).symm) (fun _ zv6=>?_) ?_
     ·skip
      refine WL.a (d:=58) rfl rfl rfl (ya y4l rfl rfl) ?_
      refine WL.a (d:=59) rfl rfl rfl (yb yg rfl (yc .here rfl)) ?_
      refine WL.pu rfl ?_
      refine WL.a (d:=61) rfl rfl rfl (yW Try.underlying33 rfl) ?_
      refine WL.pu rfl (WL.pu rfl ?_)
      exact WL.yu (y25 zv6) rfl rfl .all
     refine WL.nil (WX.a ?_)
     refine WC.cond rfl (fun zkr=>?_) (fun zkr=>?_)
     ·replace h:=yl h zkr
      refine WC.b (WC.a (WL.pu rfl (WL.nil (WX.a (WC.ret (WX.yf (WX.yz (WX.yf (WX.yf (WX.yz (WX.yf ?_)))))))))))
      obtain rfl:=Option.some.inj h
      refine WX.yi Try.results4 (.tmp rfl .nil) (fun w hw=>?_)
      exact ⟨[],y12 rfl,trivial,hw.sub (.cons .h1 .nil)⟩
     ·replace h:=ym h zkr
      refine WC.skip (WX.a ?_)
      refine WC.yY (fun i=>[8,10].contains i) [y7A z1D (fun x=>Value.agg (e51 x).toArray) (Value.int .i64) (⟨((nth z4.1 z11).fSent),((nth z4.1 z11).fNode)⟩ : S51) (0 : Int) (yk z3j (⟨((nth z4.1 z11).fSent),((nth z4.1 z11).fNode)⟩ : S51) 0)] rfl ?_
      refine WD.a (i:=0) (d:=64) (by kernel_rfl) rfl (z2 (by kernel_rfl)) (z3 (by kernel_rfl)) rfl rfl rfl (fun _=>q_m rfl) ?_
      refine WD.a (i:=1) (d:=65) (by kernel_rfl) rfl (z2 (by kernel_rfl)) (z3 (by kernel_rfl)) rfl rfl rfl (fun _=>ya y4l rfl rfl) ?_
      refine WD.e (i:=2) (d:=66) (by kernel_rfl) rfl (z2 (by kernel_rfl)) (z3 (by kernel_rfl)) rfl rfl rfl (yb yg rfl (yc .here rfl)) ?_
      refine WD.a (i:=3) (d:=67) (by kernel_rfl) rfl (z2 (by kernel_rfl)) (z3 (by kernel_rfl)) rfl rfl rfl (fun _=>ya y76 rfl rfl) ?_
      refine WD.e (i:=4) (d:=68) (by kernel_rfl) rfl (z2 (by kernel_rfl)) (z3 (by kernel_rfl)) rfl rfl rfl (yb yg rfl (yc .here rfl)) ?_
      refine WD.a (i:=5) (d:=69) (by kernel_rfl) rfl (z2 (by kernel_rfl)) (z3 (by kernel_rfl)) rfl rfl rfl (fun _=>y1j (v:=(.agg #[(.int .i64 ((nth z4.1 z11).fSent)),(.int .i64 ((nth z4.1 z11).fNode))])) (Eos.parts (l:=[.tmp 66,.tmp 68]) (.cons rfl (.cons rfl .nil)) [0,1]) (fun _=>by kernel_rfl)) ?_
      refine WD.stable (i:=6) (d:=70) (by kernel_rfl) rfl (z2 (by kernel_rfl)) (z3 (by kernel_rfl)) rfl rfl rfl (Sin.wk (.cons .h5 .nil) (.any rfl (fun _ h=>y8O h) .nil)) (y8o (k:=(⟨((nth z4.1 z11).fSent),((nth z4.1 z11).fNode)⟩ : S51)) (dflt:=(0 : Int)) y5c Try.underlying48 y3Z rfl rfl rfl .here) ?_
      refine WD.a (i:=7) (d:=71) (by kernel_rfl) rfl (z2 (by kernel_rfl)) (z3 (by kernel_rfl)) rfl rfl rfl (fun _=>y4s rfl rfl rfl) ?_
      refine WD.y9r (i:=8) (dd:=72) rfl (by kernel_rfl) rfl rfl rfl rfl (y7z (k:=(⟨((nth z4.1 z11).fSent),((nth z4.1 z11).fNode)⟩ : S51)) (dflt:=(0 : Int)) y5c Try.underlying48 y3Z rfl rfl rfl .h5) (fun _=>(Sin.wk (.cons .here .nil) (.any rfl (fun _ h=>y8n h) .nil))) ?_
      rintro zzd _
      refine WD.a (i:=9) (d:=73) (by kernel_rfl) rfl (z2 (by kernel_rfl)) (z3 (by kernel_rfl)) rfl rfl rfl (fun _=>y47 rfl rfl) ?_
      refine WD.y2D (i:=10) rfl (by kernel_rfl) rfl rfl rfl (by kernel_rfl) (y6x (k:=(⟨((nth z4.1 z11).fSent),((nth z4.1 z11).fNode)⟩ : S51)) (v:=i64 ((yk z3j (⟨((nth z4.1 z11).fSent),((nth z4.1 z11).fNode)⟩ : S51) 0) + 1)) rfl rfl rfl rfl .here) ?_
      refine WD.done (by kernel_rfl) ?_
      refine WX.yh (WX.a (WC.a (WL.pu rfl (WL.pu rfl (WL.nil ?_)))))
      exact WX.round (G:=Nat × Int × (List (S51 × Int))) ⟨zk7,(i64 (z11 + 1)),(yI z3j (⟨((nth z4.1 z11).fSent),((nth z4.1 z11).fNode)⟩ : S51) (i64 ((yk z3j (⟨((nth z4.1 z11).fSent),((nth z4.1 z11).fNode)⟩ : S51) 0) + 1)))⟩ h (Nat.lt_succ_self _) (.cons rfl (.cons rfl (.cons rfl (.cons rfl (.cons rfl (.cons rfl (.cons rfl (.cons rfl (.cons rfl (.cons rfl .nil)))))))))) (.cons .h2 (.cons .h2 (.cons .h2 (.cons .h2 (.cons .here (.cons .h1 .nil))))))
    ·replace h:=ym h zkq
     refine WC.exit (WX.yd (WX.yd (WX.yy ?_)))
     exact WX.mid (G:=(List (S51 × Int))) z3j h (.cons rfl (.cons rfl (.cons rfl (.cons rfl (.cons rfl (.cons rfl (.cons rfl .nil))))))) (.cons .here (.cons .here (.cons .here (.cons .here (.cons .here (.cons .here .nil))))))
   ·rintro z10 h
    replace h:=(zv5 z10).symm.trans h
    obtain ⟨z7Y,zv7,h⟩:=yZ h
    refine WC.y1l (fun (z1d : List (S51 × Int))=>(z7Y z1d = some r)) (fun (z1d : List (S51 × Int))=>[(2,(.slice z2z zP.length z2A)),(3,(.slice z2B zu.length z2C)),(4,(.pointer (some ⟨z1J,0,none⟩))),(9,(.slice z1s z4.1.length z1t)),(12,(.map (some z1D))),(13,(.map (some z1E)))]) (fun (z1d : List (S51 × Int))=>[fz [],row (.slice z1s z4.1.length z1t) 50 3 (z4.1.flatMap e50),stb z1J 31 [(.slice z2P z7.fModules.length z2Q),(.slice z2R z7.fChannels.length z2S),(.slice z2T z7.fSwitches.length z2U),(.slice z2V z7.fLinks.length z2W),(.slice z2X z7.fVLs.length z2Y),(.slice z2Z z7.fHealth.length z30),(.slice z31 z7.fCauses.length z32),(.slice z33 z7.fVersions.length z34)],yF z1D (fun x=>Value.agg (e51 x).toArray) (Value.int .i64) z10,yF z1E (fun x=>Value.agg (e51 x).toArray) (Value.int .i64) z1d]) ?_ ?_
    ·skip
     refine WC.b (WC.a (WL.pu rfl ?_))
     refine WL.a (d:=76) rfl rfl rfl (yW Try.underlying36 rfl) ?_
     refine WL.pu rfl (WL.nil (WX.a (WC.block ?_)))
     refine WC.y26 (fun (zcf : Nat) (zC : Int) (z3k : List (S51 × Int))=>(y1F z4 zu z7Y zcf zC z3k = some r)) (fun (zcf : Nat) (zC : Int) (z3k : List (S51 × Int))=>[(2,(.slice z2z zP.length z2A)),(3,(.slice z2B zu.length z2C)),(4,(.pointer (some ⟨z1J,0,none⟩))),(9,(.slice z1s z4.1.length z1t)),(12,(.map (some z1D))),(13,(.map (some z1E))),(75,(.slice zcd z4.2.1.length z8G)),(76,(.int .i64 ((z4.2.1.length : Nat) : Int))),(77,(.int .i64 zC))]) (fun (zcf : Nat) (zC : Int) (z3k : List (S51 × Int))=>[fz [],row (.slice z1s z4.1.length z1t) 50 3 (z4.1.flatMap e50),row (.slice zcd z4.2.1.length z8G) 50 3 (z4.2.1.flatMap e50),stb z1J 31 [(.slice z2P z7.fModules.length z2Q),(.slice z2R z7.fChannels.length z2S),(.slice z2T z7.fSwitches.length z2U),(.slice z2V z7.fLinks.length z2W),(.slice z2X z7.fVLs.length z2Y),(.slice z2Z z7.fHealth.length z30),(.slice z31 z7.fCauses.length z32),(.slice z33 z7.fVersions.length z34)],yF z1D (fun x=>Value.agg (e51 x).toArray) (Value.int .i64) z10,yF z1E (fun x=>Value.agg (e51 x).toArray) (Value.int .i64) z3k]) (fun (zcf : Nat) (zC : Int) (z3k : List (S51 × Int))=>zcf) ⟨yt,0,([] : List (S51 × Int))⟩ h (.cons rfl (.cons rfl (.cons rfl (.cons rfl (.cons rfl (.cons rfl (.cons rfl (.cons rfl (.cons rfl .nil))))))))) (.cons .here (.cons .here (.cons .here (.cons .here (.cons .here (.cons .here .nil)))))) ?_
     rintro zcf zC z3k h
     obtain ⟨zk8,rfl⟩:=y51 h
     rw [y1F] at h
     refine WC.b (WC.a (WL.pu rfl (WL.nil (WX.a (WC.b ?_)))))
     refine WC.cond rfl (fun zks=>?_) (fun zks=>?_)
     ·replace h:=yl h zks
      refine WC.skip (WX.a (WC.b (WC.block (WC.b ?_))))
      obtain ⟨zeF,h⟩:=yj h
      refine WC.a ?_
      refine WL.know (fun w hw=>Hp.y2i .h2 hw (by intro hz'; have:=zeF; rw [hz'] at this; omega)) ?_
      rintro ⟨zgv,rfl⟩
      refine WL.a (d:=79) rfl rfl rfl (yr y19 rfl rfl zeF.1 zeF.2 y1b) ?_
      refine WL.a (d:=80) rfl rfl rfl (y1H (cs:=(e50 (nth z4.2.1 zC))) y23 rfl rfl (y1P .h2 (y1I (enc:=e50) (l:=z4.2.1) (i:=zC) (sz:=3) (fun _=>rfl) zeF.1 zeF.2))) ?_
      refine WL.new (dd:=17) rfl rfl rfl (y2d (cs:=[(.int .i64 0),(.int .i64 0),(.int .i64 0)]) y8W rfl) ?_
      intro zgw _
      refine WL.y1u rfl rfl (y1K y41 rfl rfl rfl .here rfl rfl rfl) ?_
      refine WL.nil (WX.a (WC.b (WC.b ?_)))
      obtain ⟨zv8,h⟩:=yj h
      refine WC.yY (fun i=>[].contains i) [] rfl ?_
      refine WD.a (i:=0) (d:=81) (by kernel_rfl) rfl (z2 (by kernel_rfl)) (z3 (by kernel_rfl)) rfl rfl rfl (fun _=>ya y4l rfl rfl) ?_
      refine WD.e (i:=1) (d:=82) (by kernel_rfl) rfl (z2 (by kernel_rfl)) (z3 (by kernel_rfl)) rfl rfl rfl (yb yg rfl (yc .here rfl)) ?_
      refine WD.a (i:=2) (d:=83) (by kernel_rfl) rfl (z2 (by kernel_rfl)) (z3 (by kernel_rfl)) rfl rfl rfl (fun _=>y3i rfl rfl) ?_
      refine WD.a (i:=3) (d:=84) (by kernel_rfl) rfl (z2 (by kernel_rfl)) (z3 (by kernel_rfl)) rfl rfl rfl (fun _=>q_m rfl) ?_
      refine WD.mid (fuel':=11) [(2,(.slice z2z zP.length z2A)),(3,(.slice z2B zu.length z2C)),(4,(.pointer (some ⟨z1J,0,none⟩))),(9,(.slice z1s z4.1.length z1t)),(12,(.map (some z1D))),(13,(.map (some z1E))),(75,(.slice (some ⟨zgv,0,none⟩) z4.2.1.length z8G)),(76,(.int .i64 ((z4.2.1.length : Nat) : Int))),(77,(.int .i64 zC)),(78,(.bool (decide (zC < ((z4.2.1.length : Nat) : Int))))),(79,(.pointer (some ⟨zgv,(zC : Int).toNat * 3,none⟩))),(80,(.agg #[(.int .i64 ((nth z4.2.1 zC).fSent)),(.int .i64 ((nth z4.2.1 zC).fNode)),(.int .i64 ((nth z4.2.1 zC).fTime))])),(17,(.pointer (some ⟨zgw,0,none⟩))),(81,(.pointer (some ⟨zgw,0,none⟩))),(82,(.int .i64 ((nth z4.2.1 zC).fSent))),(83,(.bool (decide (((nth z4.2.1 zC).fSent) < 0)))),(84,(.bool (decide (((nth z4.2.1 zC).fSent) < 0)))),(90,(.bool ((decide (((nth z4.2.1 zC).fSent) < 0)) || (decide (((nth z4.2.1 zC).fSent) ≥ ((zu.length : Nat) : Int))))))] (y1C 21 [9,8,7,6,5,4,3,2,1,0]) ?_ (fun zoS=>?_)
      rotate_left
      ·rcases Bool.eq_false_or_eq_true (decide (((nth z4.2.1 zC).fSent) < 0)) with hb' | hb'
       ·have zkt:=hb'; clear hb'
        refine WD.pin (i:=84) rfl zkt ?_
        refine WD.b (i:=4) (d:=85) (by kernel_rfl) rfl (z2 (by kernel_rfl)) (z3 (by kernel_rfl)) rfl rfl rfl ?_
        refine WD.b (i:=5) (d:=86) (by kernel_rfl) rfl (z2 (by kernel_rfl)) (z3 (by kernel_rfl)) rfl rfl rfl ?_
        refine WD.b (i:=6) (d:=87) (by kernel_rfl) rfl (z2 (by kernel_rfl)) (z3 (by kernel_rfl)) rfl rfl rfl ?_
        refine WD.b (i:=7) (d:=88) (by kernel_rfl) rfl (z2 (by kernel_rfl)) (z3 (by kernel_rfl)) rfl rfl rfl ?_
        refine WD.b (i:=8) (d:=89) (by kernel_rfl) rfl (z2 (by kernel_rfl)) (z3 (by kernel_rfl)) rfl rfl rfl ?_
        refine WD.a (i:=9) (d:=90) (by kernel_rfl) rfl (z2 (by kernel_rfl)) (z3 (by kernel_rfl)) rfl rfl rfl (fun _=>y1o rfl rfl) ?_
        refine WD.yO (.cons .here (.cons .here (.cons .here (.cons .here (.cons .here (.cons .here (.cons .here .nil))))))) ?_ zoS
        exact (.cons rfl (.cons rfl (.cons rfl (.cons rfl (.cons rfl (.cons rfl (.cons rfl (.cons rfl (.cons rfl (.cons rfl (.cons rfl (.cons rfl (.cons rfl (.cons rfl (.cons rfl (.cons rfl (.cons (zm (Eq.symm zkt)) (.cons (zm (y24 zkt)) .nil))))))))))))))))))
       ·have zku:=hb'; clear hb'
        refine WD.pin (i:=84) rfl zku ?_
        refine WD.a (i:=4) (d:=85) (by kernel_rfl) rfl (z2 (by kernel_rfl)) (z3 (by kernel_rfl)) rfl rfl rfl (fun _=>ya y4l rfl rfl) ?_
        refine WD.e (i:=5) (d:=86) (by kernel_rfl) rfl (z2 (by kernel_rfl)) (z3 (by kernel_rfl)) rfl rfl rfl (yb yg rfl (yc .here rfl)) ?_
        refine WD.a (i:=6) (d:=87) (by kernel_rfl) rfl (z2 (by kernel_rfl)) (z3 (by kernel_rfl)) rfl rfl rfl (fun _=>q_m rfl) ?_
        refine WD.a (i:=7) (d:=88) (by kernel_rfl) rfl (z2 (by kernel_rfl)) (z3 (by kernel_rfl)) rfl rfl rfl (fun _=>yW Try.underlying33 rfl) ?_
        refine WD.a (i:=8) (d:=89) (by kernel_rfl) rfl (z2 (by kernel_rfl)) (z3 (by kernel_rfl)) rfl rfl rfl (fun _=>q_geq rfl rfl) ?_
        refine WD.a (i:=9) (d:=90) (by kernel_rfl) rfl (z2 (by kernel_rfl)) (z3 (by kernel_rfl)) rfl rfl rfl (fun _=>y1p rfl rfl) ?_
        refine WD.yO (.cons .here (.cons .here (.cons .here (.cons .here (.cons .here (.cons .here (.cons .here .nil))))))) ?_ zoS
        exact (.cons rfl (.cons rfl (.cons rfl (.cons rfl (.cons rfl (.cons rfl (.cons rfl (.cons rfl (.cons rfl (.cons rfl (.cons rfl (.cons rfl (.cons rfl (.cons rfl (.cons rfl (.cons rfl (.cons (zm (Eq.symm zku)) (.cons (zm (y25 zku)) .nil))))))))))))))))))
      refine WD.a (i:=10) (d:=91) (by kernel_rfl) rfl (z2 (by kernel_rfl)) (z3 (by kernel_rfl)) rfl rfl rfl (fun _=>q_m rfl) ?_
      refine WD.mid (fuel':=0) [(2,(.slice z2z zP.length z2A)),(3,(.slice z2B zu.length z2C)),(4,(.pointer (some ⟨z1J,0,none⟩))),(9,(.slice z1s z4.1.length z1t)),(12,(.map (some z1D))),(13,(.map (some z1E))),(75,(.slice (some ⟨zgv,0,none⟩) z4.2.1.length z8G)),(76,(.int .i64 ((z4.2.1.length : Nat) : Int))),(77,(.int .i64 zC)),(78,(.bool (decide (zC < ((z4.2.1.length : Nat) : Int))))),(79,(.pointer (some ⟨zgv,(zC : Int).toNat * 3,none⟩))),(80,(.agg #[(.int .i64 ((nth z4.2.1 zC).fSent)),(.int .i64 ((nth z4.2.1 zC).fNode)),(.int .i64 ((nth z4.2.1 zC).fTime))])),(17,(.pointer (some ⟨zgw,0,none⟩))),(81,(.pointer (some ⟨zgw,0,none⟩))),(82,(.int .i64 ((nth z4.2.1 zC).fSent))),(83,(.bool (decide (((nth z4.2.1 zC).fSent) < 0)))),(84,(.bool (decide (((nth z4.2.1 zC).fSent) < 0)))),(90,(.bool ((decide (((nth z4.2.1 zC).fSent) < 0)) || (decide (((nth z4.2.1 zC).fSent) ≥ ((zu.length : Nat) : Int)))))),(91,(.bool ((decide (((nth z4.2.1 zC).fSent) < 0)) || (decide (((nth z4.2.1 zC).fSent) ≥ ((zu.length : Nat) : Int)))))),(101,(.bool (((decide (((nth z4.2.1 zC).fSent) < 0)) || (decide (((nth z4.2.1 zC).fSent) ≥ ((zu.length : Nat) : Int)))) || (decide (((nth z4.2.1 zC).fTime) < ((nth zu ((nth z4.2.1 zC).fSent)).fTime))))))] (y1C 21 [20,19,18,17,16,15,14,13,12,11,10,9,8,7,6,5,4,3,2,1,0]) ?_ (fun zoT=>?_)
      rotate_left
      ·rcases Bool.eq_false_or_eq_true ((decide (((nth z4.2.1 zC).fSent) < 0)) || (decide (((nth z4.2.1 zC).fSent) ≥ ((zu.length : Nat) : Int)))) with hb' | hb'
       ·have zkv:=hb'; clear hb'
        refine WD.pin (i:=91) rfl zkv ?_
        refine WD.b (i:=11) (d:=92) (by kernel_rfl) rfl (z2 (by kernel_rfl)) (z3 (by kernel_rfl)) rfl rfl rfl ?_
        refine WD.b (i:=12) (d:=93) (by kernel_rfl) rfl (z2 (by kernel_rfl)) (z3 (by kernel_rfl)) rfl rfl rfl ?_
        refine WD.b (i:=13) (d:=94) (by kernel_rfl) rfl (z2 (by kernel_rfl)) (z3 (by kernel_rfl)) rfl rfl rfl ?_
        refine WD.b (i:=14) (d:=95) (by kernel_rfl) rfl (z2 (by kernel_rfl)) (z3 (by kernel_rfl)) rfl rfl rfl ?_
        refine WD.b (i:=15) (d:=96) (by kernel_rfl) rfl (z2 (by kernel_rfl)) (z3 (by kernel_rfl)) rfl rfl rfl ?_
        refine WD.b (i:=16) (d:=97) (by kernel_rfl) rfl (z2 (by kernel_rfl)) (z3 (by kernel_rfl)) rfl rfl rfl ?_
        refine WD.b (i:=17) (d:=98) (by kernel_rfl) rfl (z2 (by kernel_rfl)) (z3 (by kernel_rfl)) rfl rfl rfl ?_
        refine WD.b (i:=18) (d:=99) (by kernel_rfl) rfl (z2 (by kernel_rfl)) (z3 (by kernel_rfl)) rfl rfl rfl ?_
        refine WD.b (i:=19) (d:=100) (by kernel_rfl) rfl (z2 (by kernel_rfl)) (z3 (by kernel_rfl)) rfl rfl rfl ?_
        refine WD.a (i:=20) (d:=101) (by kernel_rfl) rfl (z2 (by kernel_rfl)) (z3 (by kernel_rfl)) rfl rfl rfl (fun _=>y1o rfl rfl) ?_
        refine WD.yO (.cons .here (.cons .here (.cons .here (.cons .here (.cons .here (.cons .here (.cons .here .nil))))))) ?_ zoT
        exact (.cons rfl (.cons rfl (.cons rfl (.cons rfl (.cons rfl (.cons rfl (.cons rfl (.cons rfl (.cons rfl (.cons rfl (.cons rfl (.cons rfl (.cons rfl (.cons rfl (.cons rfl (.cons rfl (.cons rfl (.cons rfl (.cons (zm (Eq.symm zkv)) (.cons (zm (y24 zkv)) .nil))))))))))))))))))))
       ·have zgx:=hb'; clear hb'
        have zv9:=zv8 zgx
        refine WD.pin (i:=91) rfl zgx ?_
        refine WD.a (i:=11) (d:=92) (by kernel_rfl) rfl (z2 (by kernel_rfl)) (z3 (by kernel_rfl)) rfl rfl rfl (fun _=>ya y83 rfl rfl) ?_
        refine WD.e (i:=12) (d:=93) (by kernel_rfl) rfl (z2 (by kernel_rfl)) (z3 (by kernel_rfl)) rfl rfl rfl (yb yg rfl (yc .here rfl)) ?_
        refine WD.a (i:=13) (d:=94) (by kernel_rfl) rfl (z2 (by kernel_rfl)) (z3 (by kernel_rfl)) rfl rfl rfl (fun _=>q_m rfl) ?_
        refine WD.a (i:=14) (d:=95) (by kernel_rfl) rfl (z2 (by kernel_rfl)) (z3 (by kernel_rfl)) rfl rfl rfl (fun _=>ya y4l rfl rfl) ?_
        refine WD.e (i:=15) (d:=96) (by kernel_rfl) rfl (z2 (by kernel_rfl)) (z3 (by kernel_rfl)) rfl rfl rfl (yb yg rfl (yc .here rfl)) ?_
        refine WD.znth (j:=16) (dd:=97) (by kernel_rfl) rfl (z2 (by kernel_rfl)) (z3 (by kernel_rfl)) rfl rfl (Z:=(Z ++ [])) (Pr:=(fun r x=>r = e53 x)) y4p rfl rfl (zgu.mono (Zle.left _ _)) zv9 ?_
        rintro zze zzf zva zzg rfl
        refine WD.a (i:=17) (d:=98) (by kernel_rfl) rfl (z2 (by kernel_rfl)) (z3 (by kernel_rfl)) rfl rfl rfl (fun _=>ya y40 rfl rfl) ?_
        refine WD.e (i:=18) (d:=99) (by kernel_rfl) rfl (z2 (by kernel_rfl)) (z3 (by kernel_rfl)) rfl rfl rfl (yb yg rfl (y21 (hz.pv2 .h1) zva rfl)) ?_
        refine WD.a (i:=19) (d:=100) (by kernel_rfl) rfl (z2 (by kernel_rfl)) (z3 (by kernel_rfl)) rfl rfl rfl (fun _=>y3i rfl rfl) ?_
        refine WD.a (i:=20) (d:=101) (by kernel_rfl) rfl (z2 (by kernel_rfl)) (z3 (by kernel_rfl)) rfl rfl rfl (fun _=>y1p rfl rfl) ?_
        refine WD.yO (.cons .here (.cons .here (.cons .here (.cons .here (.cons .here (.cons .here (.cons .here .nil))))))) ?_ zoT
        exact (.cons rfl (.cons rfl (.cons rfl (.cons rfl (.cons rfl (.cons rfl (.cons rfl (.cons rfl (.cons rfl (.cons rfl (.cons rfl (.cons rfl (.cons rfl (.cons rfl (.cons rfl (.cons rfl (.cons rfl (.cons rfl (.cons (zm (Eq.symm zgx)) (.cons (zm (y25 zgx)) .nil))))))))))))))))))))
      refine WD.done (by kernel_rfl) ?_
      refine WX.a ?_
      refine WC.cond rfl (fun zkw=>?_) (fun zkw=>?_)
      ·replace h:=yl h zkw
       refine WC.b (WC.a (WL.pu rfl (WL.nil (WX.a (WC.ret (WX.yf (WX.yz (WX.yf (WX.yf (WX.yz (WX.yf ?_)))))))))))
       obtain rfl:=Option.some.inj h
       refine WX.yi Try.results4 (.tmp rfl .nil) (fun w hw=>?_)
       exact ⟨[],y12 rfl,trivial,hw.sub (.cons .h1 .nil)⟩
      ·replace h:=ym h zkw
       refine WC.skip (WX.a ?_)
       refine WC.yY (fun i=>[8,10].contains i) [y7A z1E (fun x=>Value.agg (e51 x).toArray) (Value.int .i64) (⟨((nth z4.2.1 zC).fSent),((nth z4.2.1 zC).fNode)⟩ : S51) (0 : Int) (yk z3k (⟨((nth z4.2.1 zC).fSent),((nth z4.2.1 zC).fNode)⟩ : S51) 0)] rfl ?_
       refine WD.a (i:=0) (d:=102) (by kernel_rfl) rfl (z2 (by kernel_rfl)) (z3 (by kernel_rfl)) rfl rfl rfl (fun _=>q_m rfl) ?_
       refine WD.a (i:=1) (d:=103) (by kernel_rfl) rfl (z2 (by kernel_rfl)) (z3 (by kernel_rfl)) rfl rfl rfl (fun _=>ya y4l rfl rfl) ?_
       refine WD.e (i:=2) (d:=104) (by kernel_rfl) rfl (z2 (by kernel_rfl)) (z3 (by kernel_rfl)) rfl rfl rfl (yb yg rfl (yc .here rfl)) ?_
       refine WD.a (i:=3) (d:=105) (by kernel_rfl) rfl (z2 (by kernel_rfl)) (z3 (by kernel_rfl)) rfl rfl rfl (fun _=>ya y76 rfl rfl) ?_
       refine WD.e (i:=4) (d:=106) (by kernel_rfl) rfl (z2 (by kernel_rfl)) (z3 (by kernel_rfl)) rfl rfl rfl (yb yg rfl (yc .here rfl)) ?_
       refine WD.a (i:=5) (d:=107) (by kernel_rfl) rfl (z2 (by kernel_rfl)) (z3 (by kernel_rfl)) rfl rfl rfl (fun _=>y1j (v:=(.agg #[(.int .i64 ((nth z4.2.1 zC).fSent)),(.int .i64 ((nth z4.2.1 zC).fNode))])) (Eos.parts (l:=[.tmp 104,.tmp 106]) (.cons rfl (.cons rfl .nil)) [0,1]) (fun _=>by kernel_rfl)) ?_
       refine WD.stable (i:=6) (d:=108) (by kernel_rfl) rfl (z2 (by kernel_rfl)) (z3 (by kernel_rfl)) rfl rfl rfl (Sin.wk (.cons .h6 .nil) (.any rfl (fun _ h=>y8O h) .nil)) (y8o (k:=(⟨((nth z4.2.1 zC).fSent),((nth z4.2.1 zC).fNode)⟩ : S51)) (dflt:=(0 : Int)) y5c Try.underlying48 y3Z rfl rfl rfl .here) ?_
       refine WD.a (i:=7) (d:=109) (by kernel_rfl) rfl (z2 (by kernel_rfl)) (z3 (by kernel_rfl)) rfl rfl rfl (fun _=>y4s rfl rfl rfl) ?_
       refine WD.y9r (i:=8) (dd:=110) rfl (by kernel_rfl) rfl rfl rfl rfl (y7z (k:=(⟨((nth z4.2.1 zC).fSent),((nth z4.2.1 zC).fNode)⟩ : S51)) (dflt:=(0 : Int)) y5c Try.underlying48 y3Z rfl rfl rfl .h6) (fun _=>(Sin.wk (.cons .here .nil) (.any rfl (fun _ h=>y8n h) .nil))) ?_
       rintro zzh _
       refine WD.a (i:=9) (d:=111) (by kernel_rfl) rfl (z2 (by kernel_rfl)) (z3 (by kernel_rfl)) rfl rfl rfl (fun _=>y47 rfl rfl) ?_
       refine WD.y2D (i:=10) rfl (by kernel_rfl) rfl rfl rfl (by kernel_rfl) (y6x (k:=(⟨((nth z4.2.1 zC).fSent),((nth z4.2.1 zC).fNode)⟩ : S51)) (v:=i64 ((yk z3k (⟨((nth z4.2.1 zC).fSent),((nth z4.2.1 zC).fNode)⟩ : S51) 0) + 1)) rfl rfl rfl rfl .here) ?_
       refine WD.done (by kernel_rfl) ?_
       refine WX.yh (WX.a (WC.a (WL.pu rfl (WL.pu rfl (WL.nil ?_)))))
       exact WX.round (G:=Nat × Int × (List (S51 × Int))) ⟨zk8,(i64 (zC + 1)),(yI z3k (⟨((nth z4.2.1 zC).fSent),((nth z4.2.1 zC).fNode)⟩ : S51) (i64 ((yk z3k (⟨((nth z4.2.1 zC).fSent),((nth z4.2.1 zC).fNode)⟩ : S51) 0) + 1)))⟩ h (Nat.lt_succ_self _) (.cons rfl (.cons rfl (.cons rfl (.cons rfl (.cons rfl (.cons rfl (.cons rfl (.cons rfl (.cons rfl .nil))))))))) (.cons .h2 (.cons .h2 (.cons .h2 (.cons .h2 (.cons .h2 (.cons .here .nil))))))
     ·replace h:=ym h zks
      refine WC.exit (WX.yd (WX.yd (WX.yy ?_)))
      exact WX.mid (G:=(List (S51 × Int))) z3k h (.cons rfl (.cons rfl (.cons rfl (.cons rfl (.cons rfl (.cons rfl .nil)))))) (.cons .here (.cons .here (.cons .h1 (.cons .h1 (.cons .h1 .nil)))))
    ·rintro z1d h
     replace h:=(zv7 z1d).symm.trans h
     refine WC.b (WC.a (WL.pu rfl (WL.nil (WX.a ?_))))
     obtain ⟨z83,zvb,h⟩:=yZ h
     refine WC.y1l (fun (z86 : Int)=>(z83 z86 = some r)) (fun (z86 : Int)=>[(9,(.slice z1s z4.1.length z1t)),(18,(.int .i64 z86))]) (fun (z86 : Int)=>[fz [],row (.slice z1s z4.1.length z1t) 50 3 (z4.1.flatMap e50)]) ?_ ?_
     ·skip
      refine WC.b (WC.a (WL.pu rfl ?_))
      refine WL.a (d:=114) rfl rfl rfl (yW Try.underlying33 rfl) ?_
      refine WL.pu rfl (WL.nil (WX.a (WC.block ?_)))
      refine WC.y26 (fun (zcg : Nat) (z4z : Int) (zD : Int)=>(y1G zu zP z7 z10 z1d z83 zcg z4z zD = some r)) (fun (zcg : Nat) (z4z : Int) (zD : Int)=>[(2,(.slice z2z zP.length z2A)),(4,(.pointer (some ⟨z1J,0,none⟩))),(9,(.slice z1s z4.1.length z1t)),(12,(.map (some z1D))),(13,(.map (some z1E))),(18,(.int .i64 z4z)),(113,(.slice z2B zu.length z2C)),(114,(.int .i64 ((zu.length : Nat) : Int))),(115,(.int .i64 zD))]) (fun (zcg : Nat) (z4z : Int) (zD : Int)=>[fz [],row (.slice z1s z4.1.length z1t) 50 3 (z4.1.flatMap e50),stb z1J 31 [(.slice z2P z7.fModules.length z2Q),(.slice z2R z7.fChannels.length z2S),(.slice z2T z7.fSwitches.length z2U),(.slice z2V z7.fLinks.length z2W),(.slice z2X z7.fVLs.length z2Y),(.slice z2Z z7.fHealth.length z30),(.slice z31 z7.fCauses.length z32),(.slice z33 z7.fVersions.length z34)],yF z1D (fun x=>Value.agg (e51 x).toArray) (Value.int .i64) z10,yF z1E (fun x=>Value.agg (e51 x).toArray) (Value.int .i64) z1d]) (fun (zcg : Nat) (z4z : Int) (zD : Int)=>zcg) ⟨yt,0,0⟩ h (.cons rfl (.cons rfl (.cons rfl (.cons rfl (.cons rfl (.cons rfl (.cons rfl (.cons rfl (.cons rfl .nil))))))))) (.cons .here (.cons .here (.cons .here (.cons .here (.cons .here .nil))))) ?_
      rintro zcg z4z zD h
      obtain ⟨zkc,rfl⟩:=y53 h
      rw [y1G] at h
      refine WC.b (WC.a (WL.pu rfl (WL.nil (WX.a (WC.b ?_)))))
      refine WC.cond rfl (fun zkx=>?_) (fun zkx=>?_)
      ·replace h:=yl h zkx
       refine WC.skip (WX.a ?_)
       obtain ⟨zkd,zvc,h⟩:=yZ h
       refine WC.y1l (fun (z84 : Int)=>(zkd z84 = some r)) (fun (z84 : Int)=>[(2,(.slice z2z zP.length z2A)),(4,(.pointer (some ⟨z1J,0,none⟩))),(9,(.slice z1s z4.1.length z1t)),(12,(.map (some z1D))),(13,(.map (some z1E))),(18,(.int .i64 z84)),(113,(.slice z2B zu.length z2C)),(114,(.int .i64 ((zu.length : Nat) : Int))),(115,(.int .i64 zD))]) (fun (z84 : Int)=>[fz [],row (.slice z1s z4.1.length z1t) 50 3 (z4.1.flatMap e50),stb z1J 31 [(.slice z2P z7.fModules.length z2Q),(.slice z2R z7.fChannels.length z2S),(.slice z2T z7.fSwitches.length z2U),(.slice z2V z7.fLinks.length z2W),(.slice z2X z7.fVLs.length z2Y),(.slice z2Z z7.fHealth.length z30),(.slice z31 z7.fCauses.length z32),(.slice z33 z7.fVersions.length z34)],yF z1D (fun x=>Value.agg (e51 x).toArray) (Value.int .i64) z10,yF z1E (fun x=>Value.agg (e51 x).toArray) (Value.int .i64) z1d]) ?_ ?_
       ·skip
        refine WC.block (WC.b ?_)
        obtain ⟨zvd,h⟩:=yj h
        refine WC.a (WL.pu rfl ?_)
        refine WL.znth (dd:=118) rfl rfl (Z:=(Z ++ [])) (Pr:=(fun r x=>r = e53 x)) y4p rfl rfl (zgu.mono (Zle.left _ _)) zvd ?_
        rintro zzi zzj zve zzk rfl
        refine WL.a (d:=119) rfl rfl rfl (yN y73 rfl (y3u (hz.pv2 .here) zve) rfl) ?_
        refine WL.new (dd:=20) rfl rfl rfl (y2d (cs:=[(.int .i64 0),(.int .i64 0),(.int .i64 0)]) y6j rfl) ?_
        intro zzl _
        refine WL.pu rfl ?_
        refine WL.y1u rfl rfl (y1K y74 rfl rfl rfl .here rfl rfl rfl) ?_
        refine WL.nil (WX.a (WC.b ?_))
        obtain ⟨zvf,h⟩:=yj h
        refine WC.a (WL.pu rfl ?_)
        refine WL.a (d:=121) rfl rfl rfl (ya y4L rfl rfl) ?_
        refine WL.a (d:=122) rfl rfl rfl (yb yg rfl (yc .here rfl)) ?_
        refine WL.znth (dd:=123) rfl rfl (Z:=(Z ++ [])) (Pr:=(p55 (Z ++ []))) y5V rfl rfl ((zkn.mono (Zle.left _ _)).weak (fun _ _ h=>y4c (Zle.left _ _) h)) zvf ?_
        rintro zzm zzn zvg zzo ⟨zeG,zeH,rfl,zky⟩
        refine WL.a (d:=124) rfl rfl rfl (yb y5W rfl (rd_z (hz.pv2 .h1) zvg rfl)) ?_
        refine WL.pu rfl (WL.nil (WX.a (WC.b ?_)))
        obtain ⟨zV,zvh,h⟩:=zn h
        refine WC.a ?_
        refine WL.a (d:=125) rfl rfl rfl (yN y1L rfl (y1x .h3) rfl) ?_
        refine WL.pu rfl ?_
        refine WL.y4w (dd:=127) rfl rfl rfl (zF (l:=[.tmp 125,.tmp 126]) Try.call21 (.cons rfl (.cons rfl .nil))) .nil (ccz hz .nil .h1 fun w pz ho=>y7H _ _ _ _ _ _ _ _ _ _ _ _ _ _ _ _ _ _ _ _ _ _ zvh w pz ((zkf.mono (Zle.left _ _)).weak (fun _ _ h=>y29 (Zle.left _ _) h)) ((zkg.mono (Zle.left _ _)).weak (fun _ _ h=>y2j (Zle.left _ _) h)) (zkh.mono (Zle.left _ _)) (zki.mono (Zle.left _ _)) ((zkj.mono (Zle.left _ _)).weak (fun _ _ h=>y2a (Zle.left _ _) h)) (zkk.mono (Zle.left _ _)) ((zkl.mono (Zle.left _ _)).weak (fun _ _ h=>y2k (Zle.left _ _) h)) (zkm.mono (Zle.left _ _)) zky) ?_
        rintro zvi zvj _
        refine WL.a (d:=128) rfl rfl rfl (yW Try.underlying56 rfl) ?_
        refine WL.pu rfl (WL.nil (WX.a ?_))
        obtain ⟨z82,zvk,h⟩:=yZ h
        refine WC.y4K (fun (z85 : Int)=>(z82 z85 = some r)) (fun (z85 : Int)=>[(2,(.slice z2z zP.length z2A)),(4,(.pointer (some ⟨z1J,0,none⟩))),(9,(.slice z1s z4.1.length z1t)),(12,(.map (some z1D))),(13,(.map (some z1E))),(18,(.int .i64 z85)),(113,(.slice z2B zu.length z2C)),(114,(.int .i64 ((zu.length : Nat) : Int))),(115,(.int .i64 zD))]) (fun (z85 : Int)=>[fz [],row (.slice z1s z4.1.length z1t) 50 3 (z4.1.flatMap e50),stb z1J 31 [(.slice z2P z7.fModules.length z2Q),(.slice z2R z7.fChannels.length z2S),(.slice z2T z7.fSwitches.length z2U),(.slice z2V z7.fLinks.length z2W),(.slice z2X z7.fVLs.length z2Y),(.slice z2Z z7.fHealth.length z30),(.slice z31 z7.fCauses.length z32),(.slice z33 z7.fVersions.length z34)],yF z1D (fun x=>Value.agg (e51 x).toArray) (Value.int .i64) z10,yF z1E (fun x=>Value.agg (e51 x).toArray) (Value.int .i64) z1d]) ?_ ?_
        ·skip
         refine WC.block ?_
         refine WC.y6d (fun (zch : Nat) (z3l : Int) (z18 : Int) (zci : Option Addr) (z4A : Nat)=>(y1n zV z10 zD zP zu z1d z82 zch z3l z18 = some r)) (fun (zch : Nat) (z3l : Int) (z18 : Int) (zci : Option Addr) (z4A : Nat)=>[(2,(.slice z2z zP.length z2A)),(4,(.pointer (some ⟨z1J,0,none⟩))),(9,(.slice z1s z4.1.length z1t)),(12,(.map (some z1D))),(13,(.map (some z1E))),(18,(.int .i64 z3l)),(19,(.int .i64 zD)),(21,(.slice zeG ((nth zP ((nth zu zD).fVL)).length) zeH)),(113,(.slice z2B zu.length z2C)),(114,(.int .i64 ((zu.length : Nat) : Int))),(115,(.int .i64 zD)),(127,(.slice zci zV.length z4A)),(128,(.int .i64 ((zV.length : Nat) : Int))),(129,(.int .i64 z18))]) (fun (zch : Nat) (z3l : Int) (z18 : Int) (zci : Option Addr) (z4A : Nat)=>[fz [],row (.slice z1s z4.1.length z1t) 50 3 (z4.1.flatMap e50),row (.slice zci zV.length z4A) 3 1 (zV.flatMap e3),stb z1J 31 [(.slice z2P z7.fModules.length z2Q),(.slice z2R z7.fChannels.length z2S),(.slice z2T z7.fSwitches.length z2U),(.slice z2V z7.fLinks.length z2W),(.slice z2X z7.fVLs.length z2Y),(.slice z2Z z7.fHealth.length z30),(.slice z31 z7.fCauses.length z32),(.slice z33 z7.fVersions.length z34)],yF z1D (fun x=>Value.agg (e51 x).toArray) (Value.int .i64) z10,yF z1E (fun x=>Value.agg (e51 x).toArray) (Value.int .i64) z1d]) (fun (zch : Nat) (z3l : Int) (z18 : Int) (zci : Option Addr) (z4A : Nat)=>zch) ⟨yt,z4z,0,zvi,zvj⟩ h (.cons rfl (.cons rfl (.cons rfl (.cons rfl (.cons rfl (.cons rfl (.cons rfl (.cons rfl (.cons rfl (.cons rfl (.cons rfl (.cons rfl (.cons rfl (.cons rfl .nil)))))))))))))) (.cons .h2 (.cons .h2 (.cons .here (.cons .h1 (.cons .h1 (.cons .h1 .nil)))))) ?_
         rintro zch z3l z18 zci z4A h
         obtain ⟨zka,rfl⟩:=y52 h
         rw [y1n] at h
         refine WC.b (WC.a (WL.pu rfl (WL.nil (WX.a (WC.b ?_)))))
         refine WC.cond rfl (fun zkz=>?_) (fun zkz=>?_)
         ·replace h:=yl h zkz
          refine WC.skip (WX.a ?_)
          obtain ⟨zkb,zvl,h⟩:=y2E h
          refine WC.y2v (fun (zcj : Option Addr) (zck : Nat)=>(zkb = some r)) (fun (zcj : Option Addr) (zck : Nat)=>[(2,(.slice z2z zP.length z2A)),(4,(.pointer (some ⟨z1J,0,none⟩))),(9,(.slice z1s z4.1.length z1t)),(12,(.map (some z1D))),(13,(.map (some z1E))),(18,(.int .i64 (i64 (z3l + (yk z10 (⟨zD,(nth zV z18)⟩ : S51) 0))))),(19,(.int .i64 zD)),(21,(.slice zeG ((nth zP ((nth zu zD).fVL)).length) zeH)),(113,(.slice z2B zu.length z2C)),(114,(.int .i64 ((zu.length : Nat) : Int))),(115,(.int .i64 zD)),(127,(.slice zcj zV.length zck)),(128,(.int .i64 ((zV.length : Nat) : Int))),(129,(.int .i64 z18))]) (fun (zcj : Option Addr) (zck : Nat)=>[fz [],row (.slice z1s z4.1.length z1t) 50 3 (z4.1.flatMap e50),row (.slice zcj zV.length zck) 3 1 (zV.flatMap e3),stb z1J 31 [(.slice z2P z7.fModules.length z2Q),(.slice z2R z7.fChannels.length z2S),(.slice z2T z7.fSwitches.length z2U),(.slice z2V z7.fLinks.length z2W),(.slice z2X z7.fVLs.length z2Y),(.slice z2Z z7.fHealth.length z30),(.slice z31 z7.fCauses.length z32),(.slice z33 z7.fVersions.length z34)],yF z1D (fun x=>Value.agg (e51 x).toArray) (Value.int .i64) z10,yF z1E (fun x=>Value.agg (e51 x).toArray) (Value.int .i64) z1d]) ?_ ?_
          ·skip
           refine WC.block (WC.b ?_)
           obtain ⟨zeI,h⟩:=yj h
           refine WC.a ?_
           refine WL.know (fun w hw=>Hp.y2i .h2 hw (by intro hz'; have:=zeI; rw [hz'] at this; omega)) ?_
           rintro ⟨zaf,rfl⟩
           refine WL.a (d:=131) rfl rfl rfl (yr y4Y rfl rfl zeI.1 zeI.2 y1b) ?_
           refine WL.a (d:=132) rfl rfl rfl (yb yg rfl (y8E .h2 ((y1I (enc:=e3) (l:=zV) (i:=z18) (sz:=1) (fun _=>rfl) zeI.1 zeI.2) 0 _ rfl))) ?_
           refine WL.pu rfl (WL.nil (WX.a (WC.b (WC.a (WL.pu rfl (WL.pu rfl (WL.pu rfl ?_)))))))
           refine WL.a (d:=136) rfl rfl rfl (y1j (v:=(.agg #[(.int .i64 zD),(.int .i64 (nth zV z18))])) (Eos.parts (l:=[.tmp 134,.tmp 135]) (.cons rfl (.cons rfl .nil)) [0,1]) (fun _=>by kernel_rfl)) ?_
           refine WL.a (d:=137) rfl rfl rfl (y3N (k:=(⟨zD,(nth zV z18)⟩ : S51)) (dflt:=(0 : Int)) y5c Try.underlying48 y3Z rfl rfl rfl .h4) ?_
           refine WL.pu rfl (WL.nil (WX.a (WC.b (WC.a (WL.pu rfl (WL.pu rfl (WL.pu rfl (WL.pu rfl (WL.nil (WX.a (WC.b (WC.a (WL.pu rfl (WL.pu rfl (WL.pu rfl ?_)))))))))))))))
           refine WL.nil (WX.a ?_)
           obtain ⟨z7Z,zvm,h⟩:=yZ h
           refine WC.y1l (fun (z6V : Int)=>(z7Z z6V = some r)) (fun (z6V : Int)=>[(2,(.slice z2z zP.length z2A)),(4,(.pointer (some ⟨z1J,0,none⟩))),(9,(.slice z1s z4.1.length z1t)),(12,(.map (some z1D))),(13,(.map (some z1E))),(18,(.int .i64 (i64 (z3l + (yk z10 (⟨zD,(nth zV z18)⟩ : S51) 0))))),(19,(.int .i64 zD)),(21,(.slice zeG ((nth zP ((nth zu zD).fVL)).length) zeH)),(24,(.int .i64 (yk z10 (⟨zD,(nth zV z18)⟩ : S51) 0))),(25,(.int .i64 z6V)),(113,(.slice z2B zu.length z2C)),(114,(.int .i64 ((zu.length : Nat) : Int))),(115,(.int .i64 zD)),(127,(.slice (some ⟨zaf,0,none⟩) zV.length z4A)),(128,(.int .i64 ((zV.length : Nat) : Int))),(129,(.int .i64 z18))]) (fun (z6V : Int)=>[fz [],row (.slice z1s z4.1.length z1t) 50 3 (z4.1.flatMap e50),row (.slice (some ⟨zaf,0,none⟩) zV.length z4A) 3 1 (zV.flatMap e3),stb z1J 31 [(.slice z2P z7.fModules.length z2Q),(.slice z2R z7.fChannels.length z2S),(.slice z2T z7.fSwitches.length z2U),(.slice z2V z7.fLinks.length z2W),(.slice z2X z7.fVLs.length z2Y),(.slice z2Z z7.fHealth.length z30),(.slice z31 z7.fCauses.length z32),(.slice z33 z7.fVersions.length z34)],yF z1D (fun x=>Value.agg (e51 x).toArray) (Value.int .i64) z10,yF z1E (fun x=>Value.agg (e51 x).toArray) (Value.int .i64) z1d]) ?_ ?_
           ·skip
            refine WC.b (WC.a (WL.pu rfl ?_))
            refine WL.a (d:=143) rfl rfl rfl (yW Try.underlying55 rfl) ?_
            refine WL.pu rfl (WL.pu rfl (WL.nil (WX.a (WC.block ?_))))
            refine WC.y5j (fun (zcl : Nat) (z3N : Int) (z5f : Int) (z1P : Int)=>(y1f zP zu zD z1d z7Z zcl z3N z5f z1P = some r)) (fun (zcl : Nat) (z3N : Int) (z5f : Int) (z1P : Int)=>[(2,(.slice z2z zP.length z2A)),(4,(.pointer (some ⟨z1J,0,none⟩))),(9,(.slice z1s z4.1.length z1t)),(12,(.map (some z1D))),(13,(.map (some z1E))),(18,(.int .i64 (i64 (z3l + (yk z10 (⟨zD,(nth zV z18)⟩ : S51) 0))))),(19,(.int .i64 zD)),(21,(.slice zeG ((nth zP ((nth zu zD).fVL)).length) zeH)),(24,(.int .i64 (yk z10 (⟨zD,(nth zV z18)⟩ : S51) 0))),(25,(.int .i64 z3N)),(26,(.int .i64 z5f)),(27,(.int .i64 z1P)),(113,(.slice z2B zu.length z2C)),(114,(.int .i64 ((zu.length : Nat) : Int))),(115,(.int .i64 zD)),(127,(.slice (some ⟨zaf,0,none⟩) zV.length z4A)),(128,(.int .i64 ((zV.length : Nat) : Int))),(129,(.int .i64 z18))]) (fun (zcl : Nat) (z3N : Int) (z5f : Int) (z1P : Int)=>[fz [],row (.slice z1s z4.1.length z1t) 50 3 (z4.1.flatMap e50),row (.slice (some ⟨zaf,0,none⟩) zV.length z4A) 3 1 (zV.flatMap e3),stb z1J 31 [(.slice z2P z7.fModules.length z2Q),(.slice z2R z7.fChannels.length z2S),(.slice z2T z7.fSwitches.length z2U),(.slice z2V z7.fLinks.length z2W),(.slice z2X z7.fVLs.length z2Y),(.slice z2Z z7.fHealth.length z30),(.slice z31 z7.fCauses.length z32),(.slice z33 z7.fVersions.length z34)],yF z1D (fun x=>Value.agg (e51 x).toArray) (Value.int .i64) z10,yF z1E (fun x=>Value.agg (e51 x).toArray) (Value.int .i64) z1d]) (fun (zcl : Nat) (z3N : Int) (z5f : Int) (z1P : Int)=>zcl) ⟨yt,0,(nth zV z18),(i64 ((((nth zP ((nth zu zD).fVL)).length : Nat) : Int) - 1))⟩ h (.cons rfl (.cons rfl (.cons rfl (.cons rfl (.cons rfl (.cons rfl (.cons rfl (.cons rfl (.cons rfl (.cons rfl (.cons rfl (.cons rfl (.cons rfl (.cons rfl (.cons rfl (.cons rfl (.cons rfl (.cons rfl .nil)))))))))))))))))) (.cons .here (.cons .here (.cons .here (.cons .here (.cons .here (.cons .here .nil)))))) ?_
            rintro zcl z3N z5f z1P h
            obtain ⟨zk9,rfl⟩:=y4P h
            rw [y1f] at h
            refine WC.b (WC.b (WC.a (WL.pu rfl (WL.pu rfl (WL.nil (WX.a ?_))))))
            refine WC.cond rfl (fun zkA=>?_) (fun zkA=>?_)
            ·replace h:=yl h zkA
             refine WC.skip (WX.a ?_)
             obtain ⟨zgt,zvn,h⟩:=y3c h
             refine WC.y2v (fun (z80 : Int) (z81 : Int)=>(zgt z80 z81 = some r)) (fun (z80 : Int) (z81 : Int)=>[(2,(.slice z2z zP.length z2A)),(4,(.pointer (some ⟨z1J,0,none⟩))),(9,(.slice z1s z4.1.length z1t)),(12,(.map (some z1D))),(13,(.map (some z1E))),(18,(.int .i64 (i64 (z3l + (yk z10 (⟨zD,(nth zV z18)⟩ : S51) 0))))),(19,(.int .i64 zD)),(21,(.slice zeG ((nth zP ((nth zu zD).fVL)).length) zeH)),(24,(.int .i64 (yk z10 (⟨zD,(nth zV z18)⟩ : S51) 0))),(25,(.int .i64 z80)),(26,(.int .i64 z81)),(27,(.int .i64 z1P)),(113,(.slice z2B zu.length z2C)),(114,(.int .i64 ((zu.length : Nat) : Int))),(115,(.int .i64 zD)),(127,(.slice (some ⟨zaf,0,none⟩) zV.length z4A)),(128,(.int .i64 ((zV.length : Nat) : Int))),(129,(.int .i64 z18))]) (fun (z80 : Int) (z81 : Int)=>[fz [],row (.slice z1s z4.1.length z1t) 50 3 (z4.1.flatMap e50),row (.slice (some ⟨zaf,0,none⟩) zV.length z4A) 3 1 (zV.flatMap e3),stb z1J 31 [(.slice z2P z7.fModules.length z2Q),(.slice z2R z7.fChannels.length z2S),(.slice z2T z7.fSwitches.length z2U),(.slice z2V z7.fLinks.length z2W),(.slice z2X z7.fVLs.length z2Y),(.slice z2Z z7.fHealth.length z30),(.slice z31 z7.fCauses.length z32),(.slice z33 z7.fVersions.length z34)],yF z1D (fun x=>Value.agg (e51 x).toArray) (Value.int .i64) z10,yF z1E (fun x=>Value.agg (e51 x).toArray) (Value.int .i64) z1d]) ?_ ?_
             ·skip
              refine WC.block (WC.b ?_)
              obtain ⟨zvo,h⟩:=yj h
              refine WC.a (WL.pu rfl (WL.pu rfl ?_))
              refine WL.znth (dd:=151) rfl rfl (Z:=(Z ++ [])) (Pr:=(fun r x=>r = e59 x)) y4X rfl rfl zky zvo ?_
              rintro zzp zzq zvp zzr rfl
              refine WL.a (d:=152) rfl rfl rfl (ya y4k rfl rfl) ?_
              refine WL.a (d:=153) rfl rfl rfl (yb yg rfl (y21 (hz.pv2 .here) zvp rfl)) ?_
              refine WL.pu rfl (WL.pu rfl (WL.nil (WX.a ?_)))
              refine WC.cond rfl (fun zkB=>?_) (fun zkB=>?_)
              ·replace h:=yl h zkB
               refine WC.b ?_
               obtain ⟨zvq,h⟩:=yj h
               refine WC.a (WL.pu rfl (WL.pu rfl ?_))
               refine WL.znth (dd:=158) rfl rfl (Z:=(Z ++ [])) (Pr:=(fun r x=>r = e59 x)) y4X rfl rfl zky zvq ?_
               rintro zzs zzt zvr zzu rfl
               refine WL.a (d:=159) rfl rfl rfl (ya y3n rfl rfl) ?_
               refine WL.a (d:=160) rfl rfl rfl (yb yg rfl (y21 (hz.pv2 .here) zvr rfl)) ?_
               refine WL.pu rfl (WL.nil (WX.a (WC.a (WL.pu rfl (WL.pu rfl (WL.pu rfl (WL.pu rfl ?_)))))))
               refine WL.a (d:=165) rfl rfl rfl (y1j (v:=(.agg #[(.int .i64 zD),(.int .i64 ((nth (nth zP ((nth zu zD).fVL)) z1P).fNode))])) (Eos.parts (l:=[.tmp 163,.tmp 164]) (.cons rfl (.cons rfl .nil)) [0,1]) (fun _=>by kernel_rfl)) ?_
               refine WL.a (d:=166) rfl rfl rfl (y3N (k:=(⟨zD,((nth (nth zP ((nth zu zD).fVL)) z1P).fNode)⟩ : S51)) (dflt:=(0 : Int)) y5c Try.underlying48 y3Z rfl rfl rfl .h5) ?_
               refine WL.pu rfl (WL.pu rfl (WL.nil (WX.yh ?_)))
               exact WX.mid (G:=Int × Int) ⟨(i64 (z3N + (yk z1d (⟨zD,((nth (nth zP ((nth zu zD).fVL)) z1P).fNode)⟩ : S51) 0))),((nth (nth zP ((nth zu zD).fVL)) z1P).fNode)⟩ h (.cons rfl (.cons rfl (.cons rfl (.cons rfl (.cons rfl (.cons rfl (.cons rfl (.cons rfl (.cons rfl (.cons rfl (.cons rfl (.cons rfl (.cons rfl (.cons rfl (.cons rfl (.cons rfl (.cons rfl (.cons rfl .nil)))))))))))))))))) (.cons .here (.cons .here (.cons .here (.cons .here (.cons .here (.cons .here .nil))))))
              ·replace h:=ym h zkB
               refine WC.skip (WX.yh ?_)
               exact WX.mid (G:=Int × Int) ⟨z3N,z5f⟩ h (.cons rfl (.cons rfl (.cons rfl (.cons rfl (.cons rfl (.cons rfl (.cons rfl (.cons rfl (.cons rfl (.cons rfl (.cons rfl (.cons rfl (.cons rfl (.cons rfl (.cons rfl (.cons rfl (.cons rfl (.cons rfl .nil)))))))))))))))))) (.cons .here (.cons .here (.cons .here (.cons .here (.cons .here (.cons .here .nil))))))
             ·rintro z80 z81 h
              replace h:=(zvn z80 z81).symm.trans h
              refine WC.a (WL.pu rfl (WL.pu rfl (WL.pu rfl (WL.nil ?_))))
              exact WX.round (G:=Nat × Int × Int × Int) ⟨zk9,z80,z81,(i64 (z1P - 1))⟩ h (Nat.lt_succ_self _) (.cons rfl (.cons rfl (.cons rfl (.cons rfl (.cons rfl (.cons rfl (.cons rfl (.cons rfl (.cons rfl (.cons rfl (.cons rfl (.cons rfl (.cons rfl (.cons rfl (.cons rfl (.cons rfl (.cons rfl (.cons rfl .nil)))))))))))))))))) (.cons .here (.cons .here (.cons .here (.cons .here (.cons .here (.cons .here .nil))))))
            ·replace h:=ym h zkA
             refine WC.exit (WX.yd (WX.yd (WX.yy ?_)))
             exact WX.mid (G:=Int) z3N h (.cons rfl (.cons rfl (.cons rfl (.cons rfl (.cons rfl (.cons rfl (.cons rfl (.cons rfl (.cons rfl (.cons rfl (.cons rfl (.cons rfl (.cons rfl (.cons rfl (.cons rfl (.cons rfl .nil)))))))))))))))) (.cons .here (.cons .here (.cons .here (.cons .here (.cons .here (.cons .here .nil))))))
           ·rintro z6V h
            replace h:=(zvm z6V).symm.trans h
            refine WC.b (WC.a (WL.pu rfl (WL.pu rfl (WL.pu rfl ?_))))
            refine WL.seg false 6 170 (B:=(decide ((yk z10 (⟨zD,(nth zV z18)⟩ : S51) 0) > 1)) || ((decide ((yk z10 (⟨zD,(nth zV z18)⟩ : S51) 0) = 0)) && (decide (z6V = 0)))) rfl rfl rfl rfl rfl rfl (fun h=>(y24 h).symm) (fun _ zvs=>?_) ?_
            ·skip
             refine WL.pu rfl (WL.pu rfl (WL.pu rfl ?_))
             refine WL.seg true 2 173 (B:=(decide ((yk z10 (⟨zD,(nth zV z18)⟩ : S51) 0) = 0)) && (decide (z6V = 0))) rfl rfl rfl rfl rfl rfl (fun h=>(y2J h).symm) (fun _ zvt=>?_) ?_
             ·skip
              refine WL.pu rfl (WL.pu rfl (WL.pu rfl ?_))
              exact WL.yu (y2K zvt) rfl rfl .all
             refine WL.pu rfl ?_
             exact WL.yu (y25 zvs) rfl rfl .all
            refine WL.nil (WX.a ?_)
            refine WC.cond rfl (fun zkC=>?_) (fun zkC=>?_)
            ·replace h:=yl h zkC
             refine WC.b (WC.a (WL.pu rfl (WL.nil (WX.a (WC.ret (WX.yz (WX.yf (WX.yf (WX.yz (WX.yf (WX.yz (WX.yf (WX.yf (WX.yz (WX.yf ?_)))))))))))))))
             obtain rfl:=Option.some.inj h
             refine WX.yi Try.results4 (.tmp rfl .nil) (fun w hw=>?_)
             exact ⟨[],y12 rfl,trivial,hw.sub (.cons .here .nil)⟩
            ·replace h:=ym h zkC
             refine WC.skip (WX.yh ?_)
             exact WX.mid (G:=Option Addr × Nat) ⟨(some ⟨zaf,0,none⟩),z4A⟩ h (.cons rfl (.cons rfl (.cons rfl (.cons rfl (.cons rfl (.cons rfl (.cons rfl (.cons rfl (.cons rfl (.cons rfl (.cons rfl (.cons rfl (.cons rfl (.cons rfl .nil)))))))))))))) (.cons .here (.cons .here (.cons .here (.cons .here (.cons .here (.cons .here .nil))))))
          ·rintro zcj zck h
           replace h:=zvl.symm.trans h
           refine WC.a (WL.pu rfl (WL.pu rfl (WL.nil ?_)))
           exact WX.round (G:=Nat × Int × Int × Option Addr × Nat) ⟨zka,(i64 (z3l + (yk z10 (⟨zD,(nth zV z18)⟩ : S51) 0))),(i64 (z18 + 1)),zcj,zck⟩ h (Nat.lt_succ_self _) (.cons rfl (.cons rfl (.cons rfl (.cons rfl (.cons rfl (.cons rfl (.cons rfl (.cons rfl (.cons rfl (.cons rfl (.cons rfl (.cons rfl (.cons rfl (.cons rfl .nil)))))))))))))) (.cons .here (.cons .here (.cons .here (.cons .here (.cons .here (.cons .here .nil))))))
         ·replace h:=ym h zkz
          refine WC.exit (WX.yd (WX.yd (WX.yy ?_)))
          exact WX.mid (G:=Int) z3l h (.cons rfl (.cons rfl (.cons rfl (.cons rfl (.cons rfl (.cons rfl (.cons rfl (.cons rfl (.cons rfl .nil))))))))) (.cons .here (.cons .here (.cons .h1 (.cons .h1 (.cons .h1 .nil)))))
        ·rintro z85 h
         replace h:=(zvk z85).symm.trans h
         refine WX.yh ?_
         exact WX.mid (G:=Int) z85 h (.cons rfl (.cons rfl (.cons rfl (.cons rfl (.cons rfl (.cons rfl (.cons rfl (.cons rfl (.cons rfl .nil))))))))) (.cons .here (.cons .here (.cons .here (.cons .here (.cons .here .nil)))))
       ·rintro z84 h
        replace h:=(zvc z84).symm.trans h
        refine WC.a (WL.pu rfl (WL.pu rfl (WL.nil ?_)))
        exact WX.round (G:=Nat × Int × Int) ⟨zkc,z84,(i64 (zD + 1))⟩ h (Nat.lt_succ_self _) (.cons rfl (.cons rfl (.cons rfl (.cons rfl (.cons rfl (.cons rfl (.cons rfl (.cons rfl (.cons rfl .nil))))))))) (.cons .here (.cons .here (.cons .here (.cons .here (.cons .here .nil)))))
      ·replace h:=ym h zkx
       refine WC.exit (WX.yd (WX.yd (WX.yy ?_)))
       exact WX.mid (G:=Int) z4z h (.cons rfl (.cons rfl .nil)) (.cons .here (.cons .here .nil))
     ·rintro z86 h
      replace h:=(zvb z86).symm.trans h
      refine WC.b ?_
      obtain ⟨zke,zoU,h⟩:=zn h
      refine WC.a (WL.pu rfl (WL.pu rfl ?_))
      refine WL.a (d:=182) rfl rfl rfl (yW Try.underlying36 rfl) ?_
      refine WL.pu rfl (WL.pu rfl ?_)
      refine WL.cut1 (fun (zcm : Zp)=>Zle (Z ++ []) (Z ++ zcm)) (fun (zcm : Zp)=>[(186,(.bool zke))]) (fun (zcm : Zp)=>[fz zcm,row (.slice z1s z4.1.length z1t) 50 3 (z4.1.flatMap e50)]) 2 ?_ (fun zcm zzv=>?_)
      ·rcases Bool.eq_false_or_eq_true (decide (z86 = ((z4.1.length : Nat) : Int))) with hb' | hb'
       ·have zoV:=hb'; clear hb'
        have zeJ:=yl zoU zoV
        obtain ⟨zoR,zvu,zeJ⟩:=zn zeJ
        replace zeJ:=Option.some.inj zeJ
        refine WL.pin (i:=184) rfl zoV ?_
        refine WL.y8c (dd:=185) rfl rfl rfl (zF (l:=[]) Try.call11 .nil) .nil (ccz hz .nil .here fun w pz ho=>y6z _ _ zvu w pz ) ?_
        rintro zvv _
        refine WL.merge .here .here ?_
        refine WL.pu rfl ?_
        exact WL.y8b (G:=Zp) ([] ++ zvv) ((Zle.left _ _).trans (Zle.y15 _ _ _)) (.cons (zm zeJ) .nil) (.cons .here (.cons .here .nil))
       ·have zoW:=hb'; clear hb'
        have zkD:=ym zoU zoW
        replace zkD:=Option.some.inj zkD
        refine WL.pin (i:=184) rfl zoW ?_
        refine WL.e rfl rfl rfl (WL.pu rfl ?_)
        exact WL.y8b (G:=Zp) [] (Zle.refl _) (.cons (zm zkD) .nil) (.cons .here (.cons .here .nil))
      ·skip
       refine WL.pu rfl (WL.nil (WX.a (WC.ret ?_)))
       obtain rfl:=Option.some.inj h
       refine WX.yi Try.results4 (.tmp rfl .nil) (fun w hw=>?_)
       exact ⟨zcm,y12 rfl,trivial,hw.sub (.cons .here .nil)⟩
end Go.Proofs.Ytinchjigeakocaa

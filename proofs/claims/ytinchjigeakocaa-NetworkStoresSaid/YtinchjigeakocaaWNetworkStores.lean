/- A part of this claim's proof: models of functions, walks, plain laws. No conditions. -/
import Derived.Test.YtinchjigeakocaaW31g
namespace Go.Proofs.Ytinchjigeakocaa
open Go Go.RowKit Sep
set_option linter.all false
set_option maxRecDepth 30000
set_option maxHeartbeats 4000000
def y1o (z4 : Sapi_Config) (z1W : Int) (z7P : (List Sapi_Switch) → (List Sapi_Switch) → Option Bool) : Nat → Int → (List Sapi_Switch) → (List Sapi_Switch) → Option Bool
  | 0,_,_,_=>none
  | zjX + 1,zE,zW,zU=>if decide (zE < ((z4.fSwitches.length : Nat) : Int)) then jp2 (fun (z5x : List Sapi_Switch) (z5y : List Sapi_Switch)=>y1o z4 z1W z7P zjX (i64 (zE + 1)) z5x z5y) fun zge=>chk ((0 : Int) ≤ zE ∧ zE < ((z4.fSwitches.length : Nat) : Int)) (if decide (((nth z4.fSwitches zE).fNet) = z1W) then chk ((0 : Int) ≤ zE ∧ zE < ((zW.length : Nat) : Int)) (chk ((0 : Int) ≤ zE ∧ zE < ((zU.length : Nat) : Int)) (zge (zW.set (zE : Int).toNat (⟨((nth zW zE).fName),((nth zW zE).fNet),((nth zW zE).fDelay),2880⟩ : Sapi_Switch)) (zU.set (zE : Int).toNat (⟨((nth zU zE).fName),((nth zU zE).fNet),((nth zU zE).fDelay),1073741824⟩ : Sapi_Switch)))) else zge zW zU) else z7P zW zU
theorem y4D {n : Nat} {z4 : Sapi_Config} {z1W : Int} {z7P : (List Sapi_Switch) → (List Sapi_Switch) → Option Bool} {zE : Int} {zW : List Sapi_Switch} {zU : List Sapi_Switch} {r : Bool} (h : y1o z4 z1W z7P n zE zW zU = some r) : ∃ m,n = m + 1:=by
  cases n with
  | zero=>cases h
  | succ m=>exact ⟨m,rfl⟩
def y1p (z1u : List zSt) (z1J : List (List Sapi_Hop)) (z4 : Sapi_Config) (z7Q : Int → Option Bool) : Nat → Int → Int → Option Bool
  | 0,_,_=>none
  | zjY + 1,z4o,z37=>if decide (z37 < ((z1u.length : Nat) : Int)) then chk ((0 : Int) ≤ z37 ∧ z37 < ((z1u.length : Nat) : Int)) (chk ((0 : Int) ≤ ((nth z1u z37).fVL) ∧ ((nth z1u z37).fVL) < ((z1J.length : Nat) : Int)) ((y3n z4 (nth z1J ((nth z1u z37).fVL))).bind fun zjZ=>y1p z1u z1J z4 z7Q zjY (i64 (z4o + ((zjZ.length : Nat) : Int))) (i64 (z37 + 1)))) else z7Q z4o
theorem y4E {n : Nat} {z1u : List zSt} {z1J : List (List Sapi_Hop)} {z4 : Sapi_Config} {z7Q : Int → Option Bool} {z4o : Int} {z37 : Int} {r : Bool} (h : y1p z1u z1J z4 z7Q n z4o z37 = some r) : ∃ m,n = m + 1:=by
  cases n with
  | zero=>cases h
  | succ m=>exact ⟨m,rfl⟩
def y2T (z4 : Sapi_Config) (z1W : Int) (z1J : List (List Sapi_Hop)) (z1u : List zSt) : Option Bool :=
  (y48 z4 z1W z1J z1u).bind fun zog=>if !zog then (y3U).bind fun zoh=>some zoh else chk ((((([] : List Sapi_Switch) ++ z4.fSwitches).length : Nat) : Int) * 40 ≤ 140737488355328 ∧ (((([] : List Sapi_Switch) ++ z4.fSwitches).length : Nat) : Int) ≤ 4611686018427387904) (chk ((((([] : List Sapi_Switch) ++ z4.fSwitches).length : Nat) : Int) * 40 ≤ 140737488355328 ∧ (((([] : List Sapi_Switch) ++ z4.fSwitches).length : Nat) : Int) ≤ 4611686018427387904) (jp2 (fun (z6K : List Sapi_Switch) (z6L : List Sapi_Switch)=>(y27 (⟨z4.fModules,z4.fChannels,z6K,z4.fLinks,z4.fVLs,z4.fHealth,z4.fCauses,z4.fVersions⟩ : Sapi_Config) z1W z1J z1u).bind fun z1G=>(y27 (⟨z4.fModules,z4.fChannels,z6L,z4.fLinks,z4.fVLs,z4.fHealth,z4.fCauses,z4.fVersions⟩ : Sapi_Config) z1W z1J z1u).bind fun z1R=>jp1 (fun (z6M : Int)=>(if ((decide (z1G.2.2 = 0)) && (decide (z1R.2.2 = 0))) && (decide ((i64 (((z1G.2.1.length : Nat) : Int) + ((z1R.2.1.length : Nat) : Int))) = 0)) then (y3d z1G.1 z1R.1).bind fun zoi=>some zoi else some false).bind fun zej=>(if zej && (decide (((z1G.1.length : Nat) : Int) = z6M)) then (y3U).bind fun zoj=>some zoj else some false).bind fun zk0=>some zk0) fun z7Q=>y1p z1u z1J z4 z7Q yz 0 0) fun z7P=>y1o z4 z1W z7P yz 0 (([] : List Sapi_Switch) ++ z4.fSwitches) (([] : List Sapi_Switch) ++ z4.fSwitches)))
set_option maxRecDepth 20000 in
theorem y64 (Z : Zp) (z15 : Option Addr) (z16 : Nat) (z17 : Option Addr) (z18 : Nat) (z1O : Option Addr) (z1P : Nat) (z19 : Option Addr) (z1a : Nat) (z1b : Option Addr) (z1c : Nat) (z1d : Option Addr) (z1e : Nat) (z1f : Option Addr) (z1g : Nat) (z1h : Option Addr) (z1i : Nat) (z3N : Option Addr) (z3O : Nat) (z3P : Option Addr) (z3Q : Nat) (z4 : Sapi_Config) (z1W : Int) (z1J : List (List Sapi_Hop)) (z1u : List zSt) (r : Bool)
     (h : y2T z4 z1W z1J z1u = some r) (w₀ : World) (hz : PZ [] w₀ Z)
     (zgf : ZS Z 4 (y2x Z) z15 z16 z4.fModules)
     (zgg : ZS Z 4 (y2W Z) z17 z18 z4.fChannels)
     (zek : ZS Z 4 (fun r x=>r = e64 x) z1O z1P z4.fSwitches)
     (zgh : ZS Z 4 (fun r x=>r = e62 x) z19 z1a z4.fLinks)
     (zgi : ZS Z 7 (y2J Z) z1b z1c z4.fVLs)
     (zgj : ZS Z 5 (fun r x=>r = y2Z x) z1d z1e z4.fHealth)
     (zgk : ZS Z 3 (y2X Z) z1f z1g z4.fCauses)
     (zgl : ZS Z 4 (fun r x=>r = y30 x) z1h z1i z4.fVersions)
     (zgm : ZS Z 1 (p55 Z) z3N z3O z1J)
     (zgn : ZS Z 3 (fun r x=>r = e53 x) z3P z3Q z1u) :
    Calls Try.prog 8 #[(.agg #[(.slice z15 z4.fModules.length z16),(.slice z17 z4.fChannels.length z18),(.slice z1O z4.fSwitches.length z1P),(.slice z19 z4.fLinks.length z1a),(.slice z1b z4.fVLs.length z1c),(.slice z1d z4.fHealth.length z1e),(.slice z1f z4.fCauses.length z1g),(.slice z1h z4.fVersions.length z1i)]),(.int .i64 z1W),(.slice z3N z1J.length z3O),(.slice z3P z1u.length z3Q)] w₀ fun e w'=>∃ Zn : Zp,e = .returned (.bool r) ∧ True ∧ Hp [] w₀ w' [fz Zn]:=by
  unfold y2T at h
  refine Calls.yk (vs:=[(.agg #[(.slice z15 z4.fModules.length z16),(.slice z17 z4.fChannels.length z18),(.slice z1O z4.fSwitches.length z1P),(.slice z19 z4.fLinks.length z1a),(.slice z1b z4.fVLs.length z1c),(.slice z1d z4.fHealth.length z1e),(.slice z1f z4.fCauses.length z1g),(.slice z1h z4.fVersions.length z1i)]),(.int .i64 z1W),(.slice z3N z1J.length z3O),(.slice z3P z1u.length z3Q)]) (pre:=[]) (env:=[(0,(.agg #[(.slice z15 z4.fModules.length z16),(.slice z17 z4.fChannels.length z18),(.slice z1O z4.fSwitches.length z1P),(.slice z19 z4.fLinks.length z1a),(.slice z1b z4.fVLs.length z1c),(.slice z1d z4.fHealth.length z1e),(.slice z1f z4.fCauses.length z1g),(.slice z1h z4.fVersions.length z1i)])),(1,(.int .i64 z1W)),(2,(.slice z3N z1J.length z3O)),(3,(.slice z3P z1u.length z3Q))]) Try.func8 rfl Try.ntmps8 rfl (Hp.nil w₀ _) rfl ?_
  refine WC.pool (WC.b (WC.a ?_))
  refine WL.new (dd:=4) rfl rfl rfl (y2g (cs:=[(.slice z15 z4.fModules.length z16),(.slice z17 z4.fChannels.length z18),(.slice z1O z4.fSwitches.length z1P),(.slice z19 z4.fLinks.length z1a),(.slice z1b z4.fVLs.length z1c),(.slice z1d z4.fHealth.length z1e),(.slice z1f z4.fCauses.length z1g),(.slice z1h z4.fVersions.length z1i)]) rfl rfl) ?_
  intro z2G _
  refine WL.pu rfl (WL.nil (WX.a (WC.b (WC.b ?_))))
  obtain ⟨zog,zuv,h⟩:=zh h
  refine WC.a ?_
  refine WL.a (d:=21) rfl rfl rfl (yD y1t rfl (y1h .here) rfl) ?_
  refine WL.pu rfl (WL.pu rfl (WL.pu rfl ?_))
  refine WL.b (dd:=25) rfl rfl rfl (zz (l:=[.tmp 21,.tmp 22,.tmp 23,.tmp 24]) Try.call20 (.cons rfl (.cons rfl (.cons rfl (.cons rfl .nil))))) .nil (ccz hz .nil .h1 fun w pz ho=>y8O _ _ _ _ _ _ _ _ _ _ _ _ _ _ _ _ _ _ _ _ _ _ _ _ _ _ zuv w pz ((zgf.mono (Zle.left _ _)).weak (fun _ _ h=>y1H (Zle.left _ _) h)) ((zgg.mono (Zle.left _ _)).weak (fun _ _ h=>y1M (Zle.left _ _) h)) (zek.mono (Zle.left _ _)) (zgh.mono (Zle.left _ _)) ((zgi.mono (Zle.left _ _)).weak (fun _ _ h=>y1I (Zle.left _ _) h)) (zgj.mono (Zle.left _ _)) ((zgk.mono (Zle.left _ _)).weak (fun _ _ h=>y1N (Zle.left _ _) h)) (zgl.mono (Zle.left _ _)) ((zgm.mono (Zle.left _ _)).weak (fun _ _ h=>y39 (Zle.left _ _) h)) (zgn.mono (Zle.left _ _))) ?_
  refine WL.pu rfl (WL.nil (WX.a ?_))
  refine WC.cond rfl (fun zk1=>?_) (fun zk1=>?_)
  · replace h:=yl h zk1
    refine WC.b ?_
    obtain ⟨zoh,zuw,h⟩:=zh h
    refine WC.a ?_
    refine WL.y85 (dd:=27) rfl rfl rfl (zz (l:=[]) Try.call11 .nil) .nil (ccz hz .nil .h1 fun w pz ho=>y6u _ _ zuw w pz ) ?_
    rintro zux _
    refine WL.merge .here .h1 ?_
    refine WL.pu rfl (WL.nil (WX.a (WC.ret (WX.yj ?_))))
    obtain rfl:=Option.some.inj h
    refine WX.yh Try.results8 (.tmp rfl .nil) (fun w hw=>?_)
    exact ⟨([] ++ zux),y12 rfl,trivial,hw.sub (.cons .here .nil)⟩
  · replace h:=ym h zk1
    refine WC.skip (WX.a (WC.b ?_))
    refine WC.yV (fun i=>[4,5].contains i) [stb z2G 31 [(.slice z15 z4.fModules.length z16),(.slice z17 z4.fChannels.length z18),(.slice z1O z4.fSwitches.length z1P),(.slice z19 z4.fLinks.length z1a),(.slice z1b z4.fVLs.length z1c),(.slice z1d z4.fHealth.length z1e),(.slice z1f z4.fCauses.length z1g),(.slice z1h z4.fVersions.length z1i)]] rfl ?_
    refine WD.e (i:=0) (d:=28) (by kernel_rfl) rfl (z2 (by kernel_rfl)) (z3 (by kernel_rfl)) rfl rfl rfl (yD y1t rfl (y1h .here) rfl) ?_
    refine WD.stable (i:=1) (d:=29) (by kernel_rfl) rfl (z2 (by kernel_rfl)) (z3 (by kernel_rfl)) rfl rfl rfl (Sin.of (.cons .here .nil)) (yD y1t rfl (y1h .here) rfl) ?_
    refine WD.y7c (fuel':=0) (fun (b2o1_143451 : Nat) (b3o1_143451 : Nat)=>[(1,(.int .i64 z1W)),(2,(.slice z3N z1J.length z3O)),(3,(.slice z3P z1u.length z3Q)),(4,(.pointer (some ⟨z2G,0,none⟩))),(9,(.pointer (some ⟨b2o1_143451,0,none⟩))),(10,(.pointer (some ⟨b3o1_143451,0,none⟩)))]) (fun (b2o1_143451 : Nat) (b3o1_143451 : Nat)=>[stb b3o1_143451 31 [(.slice z15 z4.fModules.length z16),(.slice z17 z4.fChannels.length z18),(.slice z1O z4.fSwitches.length z1P),(.slice z19 z4.fLinks.length z1a),(.slice z1b z4.fVLs.length z1c),(.slice z1d z4.fHealth.length z1e),(.slice z1f z4.fCauses.length z1g),(.slice z1h z4.fVersions.length z1i)],stb b2o1_143451 31 [(.slice z15 z4.fModules.length z16),(.slice z17 z4.fChannels.length z18),(.slice z1O z4.fSwitches.length z1P),(.slice z19 z4.fLinks.length z1a),(.slice z1b z4.fVLs.length z1c),(.slice z1d z4.fHealth.length z1e),(.slice z1f z4.fCauses.length z1g),(.slice z1h z4.fVersions.length z1i)],stb z2G 31 [(.slice z15 z4.fModules.length z16),(.slice z17 z4.fChannels.length z18),(.slice z1O z4.fSwitches.length z1P),(.slice z19 z4.fLinks.length z1a),(.slice z1b z4.fVLs.length z1c),(.slice z1d z4.fHealth.length z1e),(.slice z1f z4.fCauses.length z1g),(.slice z1h z4.fVersions.length z1i)],fz []]) (fun (b2o1_143451 : Nat) (b3o1_143451 : Nat)=>True) (y1j 6 [5,4,3,2,1,0]) ?_ (fun K2o3o4o5_143451=>?_)
    · skip
      rintro b2o1_143451 b3o1_143451 _
      refine WD.done (by kernel_rfl) ?_
      refine WX.a (WC.b ?_)
      obtain ⟨zuy,h⟩:=yi h
      refine WC.a ?_
      refine WL.new (dd:=30) rfl rfl rfl (yZ (cs:=([] : List Sapi_Switch).flatMap e64) y3P (Eos.parts (l:=[]) .nil []) (fun _=>by kernel_rfl) rfl (by unfold maxLen; omega)) ?_
      intro zyz _
      refine WL.a (d:=31) rfl rfl rfl (ya y2P rfl rfl) ?_
      refine WL.a (d:=32) rfl rfl rfl (yb y3i rfl (yc .h3 rfl)) ?_
      refine WL.eff (d:=33) rfl rfl rfl (y46 (enc:=e64) (l1:=([] : List Sapi_Switch)) (l2:=z4.fSwitches) y3P rfl rfl .here (fun _=>rfl) rfl rfl (news_z (hz.pv2 .h4) (zek.mono (Zle.left _ _))) (y4q e64_oc _) zuy) ?_
      rintro ⟨z9Z,z7R⟩ _
      refine WL.a (d:=34) rfl rfl rfl (ya y2P rfl rfl) ?_
      refine WL.y1r rfl rfl (y3p (ds:=[(.slice z15 z4.fModules.length z16),(.slice z17 z4.fChannels.length z18),(.slice z9Z ((([] : List Sapi_Switch) ++ z4.fSwitches).length) z7R),(.slice z19 z4.fLinks.length z1a),(.slice z1b z4.fVLs.length z1c),(.slice z1d z4.fHealth.length z1e),(.slice z1f z4.fCauses.length z1g),(.slice z1h z4.fVersions.length z1i)]) y9p rfl rfl rfl rfl rfl .h2 rfl rfl) ?_
      refine WL.nil (WX.a (WC.b ?_))
      obtain ⟨zuz,h⟩:=yi h
      refine WC.a ?_
      refine WL.new (dd:=35) rfl rfl rfl (yZ (cs:=([] : List Sapi_Switch).flatMap e64) y3P (Eos.parts (l:=[]) .nil []) (fun _=>by kernel_rfl) rfl (by unfold maxLen; omega)) ?_
      intro zyA _
      refine WL.a (d:=36) rfl rfl rfl (ya y2P rfl rfl) ?_
      refine WL.a (d:=37) rfl rfl rfl (yb y3i rfl (yc .h4 rfl)) ?_
      refine WL.eff (d:=38) rfl rfl rfl (y46 (enc:=e64) (l1:=([] : List Sapi_Switch)) (l2:=z4.fSwitches) y3P rfl rfl .here (fun _=>rfl) rfl rfl (news_z (hz.pv2 .h5) (zek.mono (Zle.left _ _))) (y4q e64_oc _) zuz) ?_
      rintro ⟨z8q,z6N⟩ _
      refine WL.a (d:=39) rfl rfl rfl (ya y2P rfl rfl) ?_
      refine WL.y1r rfl rfl (y3p (ds:=[(.slice z15 z4.fModules.length z16),(.slice z17 z4.fChannels.length z18),(.slice z8q ((([] : List Sapi_Switch) ++ z4.fSwitches).length) z6N),(.slice z19 z4.fLinks.length z1a),(.slice z1b z4.fVLs.length z1c),(.slice z1d z4.fHealth.length z1e),(.slice z1f z4.fCauses.length z1g),(.slice z1h z4.fVersions.length z1i)]) y9p rfl rfl rfl rfl rfl .h3 rfl rfl) ?_
      refine WL.nil (WX.a ?_)
      obtain ⟨z7P,zuA,h⟩:=y2V h
      refine WC.y2w (fun (z6K : List Sapi_Switch) (z6L : List Sapi_Switch)=>(z7P z6K z6L = some r)) (fun (z6K : List Sapi_Switch) (z6L : List Sapi_Switch)=>[(1,(.int .i64 z1W)),(2,(.slice z3N z1J.length z3O)),(3,(.slice z3P z1u.length z3Q)),(4,(.pointer (some ⟨z2G,0,none⟩))),(9,(.pointer (some ⟨b2o1_143451,0,none⟩))),(10,(.pointer (some ⟨b3o1_143451,0,none⟩)))]) (fun (z6K : List Sapi_Switch) (z6L : List Sapi_Switch)=>[fz [],stb z2G 31 [(.slice z15 z4.fModules.length z16),(.slice z17 z4.fChannels.length z18),(.slice z1O z4.fSwitches.length z1P),(.slice z19 z4.fLinks.length z1a),(.slice z1b z4.fVLs.length z1c),(.slice z1d z4.fHealth.length z1e),(.slice z1f z4.fCauses.length z1g),(.slice z1h z4.fVersions.length z1i)],stb b2o1_143451 31 [(.slice z15 z4.fModules.length z16),(.slice z17 z4.fChannels.length z18),(.slice z9Z z6K.length z7R),(.slice z19 z4.fLinks.length z1a),(.slice z1b z4.fVLs.length z1c),(.slice z1d z4.fHealth.length z1e),(.slice z1f z4.fCauses.length z1g),(.slice z1h z4.fVersions.length z1i)],row (.slice z9Z z6K.length z7R) 64 4 (z6K.flatMap e64),stb b3o1_143451 31 [(.slice z15 z4.fModules.length z16),(.slice z17 z4.fChannels.length z18),(.slice z8q z6L.length z6N),(.slice z19 z4.fLinks.length z1a),(.slice z1b z4.fVLs.length z1c),(.slice z1d z4.fHealth.length z1e),(.slice z1f z4.fCauses.length z1g),(.slice z1h z4.fVersions.length z1i)],row (.slice z8q z6L.length z6N) 64 4 (z6L.flatMap e64)]) ?_ ?_
      · skip
        refine WC.b (WC.a ?_)
        refine WL.a (d:=40) rfl rfl rfl (ya y2P rfl rfl) ?_
        refine WL.a (d:=41) rfl rfl rfl (yb y3i rfl (yc .h4 rfl)) ?_
        refine WL.a (d:=42) rfl rfl rfl (yU Try.underlying24 rfl) ?_
        refine WL.pu rfl (WL.nil (WX.a (WC.block ?_)))
        refine WC.y5a (fun (zbZ : Nat) (zE : Int) (zW : List Sapi_Switch) (zU : List Sapi_Switch)=>(y1o z4 z1W z7P zbZ zE zW zU = some r)) (fun (zbZ : Nat) (zE : Int) (zW : List Sapi_Switch) (zU : List Sapi_Switch)=>[(1,(.int .i64 z1W)),(2,(.slice z3N z1J.length z3O)),(3,(.slice z3P z1u.length z3Q)),(4,(.pointer (some ⟨z2G,0,none⟩))),(9,(.pointer (some ⟨b2o1_143451,0,none⟩))),(10,(.pointer (some ⟨b3o1_143451,0,none⟩))),(42,(.int .i64 ((z4.fSwitches.length : Nat) : Int))),(43,(.int .i64 zE))]) (fun (zbZ : Nat) (zE : Int) (zW : List Sapi_Switch) (zU : List Sapi_Switch)=>[fz [],stb z2G 31 [(.slice z15 z4.fModules.length z16),(.slice z17 z4.fChannels.length z18),(.slice z1O z4.fSwitches.length z1P),(.slice z19 z4.fLinks.length z1a),(.slice z1b z4.fVLs.length z1c),(.slice z1d z4.fHealth.length z1e),(.slice z1f z4.fCauses.length z1g),(.slice z1h z4.fVersions.length z1i)],stb b2o1_143451 31 [(.slice z15 z4.fModules.length z16),(.slice z17 z4.fChannels.length z18),(.slice z9Z zW.length z7R),(.slice z19 z4.fLinks.length z1a),(.slice z1b z4.fVLs.length z1c),(.slice z1d z4.fHealth.length z1e),(.slice z1f z4.fCauses.length z1g),(.slice z1h z4.fVersions.length z1i)],row (.slice z9Z zW.length z7R) 64 4 (zW.flatMap e64),stb b3o1_143451 31 [(.slice z15 z4.fModules.length z16),(.slice z17 z4.fChannels.length z18),(.slice z8q zU.length z6N),(.slice z19 z4.fLinks.length z1a),(.slice z1b z4.fVLs.length z1c),(.slice z1d z4.fHealth.length z1e),(.slice z1f z4.fCauses.length z1g),(.slice z1h z4.fVersions.length z1i)],row (.slice z8q zU.length z6N) 64 4 (zU.flatMap e64)]) (fun (zbZ : Nat) (zE : Int) (zW : List Sapi_Switch) (zU : List Sapi_Switch)=>zbZ) ⟨yz,0,(([] : List Sapi_Switch) ++ z4.fSwitches),(([] : List Sapi_Switch) ++ z4.fSwitches)⟩ h (.cons rfl (.cons rfl (.cons rfl (.cons rfl (.cons rfl (.cons rfl (.cons rfl (.cons rfl .nil)))))))) (.cons .h5 (.cons .h4 (.cons .h2 (.cons .h2 (.cons .here (.cons .here .nil)))))) ?_
        rintro zbZ zE zW zU h
        obtain ⟨zjX,rfl⟩:=y4D h
        rw [y1o] at h
        refine WC.b (WC.a (WL.pu rfl (WL.nil (WX.a (WC.b ?_)))))
        refine WC.cond rfl (fun zk2=>?_) (fun zk2=>?_)
        · replace h:=yl h zk2
          refine WC.skip (WX.a ?_)
          obtain ⟨zge,zuB,h⟩:=y2V h
          refine WC.y2w (fun (z5x : List Sapi_Switch) (z5y : List Sapi_Switch)=>(zge z5x z5y = some r)) (fun (z5x : List Sapi_Switch) (z5y : List Sapi_Switch)=>[(1,(.int .i64 z1W)),(2,(.slice z3N z1J.length z3O)),(3,(.slice z3P z1u.length z3Q)),(4,(.pointer (some ⟨z2G,0,none⟩))),(9,(.pointer (some ⟨b2o1_143451,0,none⟩))),(10,(.pointer (some ⟨b3o1_143451,0,none⟩))),(42,(.int .i64 ((z4.fSwitches.length : Nat) : Int))),(43,(.int .i64 zE))]) (fun (z5x : List Sapi_Switch) (z5y : List Sapi_Switch)=>[fz [],stb z2G 31 [(.slice z15 z4.fModules.length z16),(.slice z17 z4.fChannels.length z18),(.slice z1O z4.fSwitches.length z1P),(.slice z19 z4.fLinks.length z1a),(.slice z1b z4.fVLs.length z1c),(.slice z1d z4.fHealth.length z1e),(.slice z1f z4.fCauses.length z1g),(.slice z1h z4.fVersions.length z1i)],stb b2o1_143451 31 [(.slice z15 z4.fModules.length z16),(.slice z17 z4.fChannels.length z18),(.slice z9Z z5x.length z7R),(.slice z19 z4.fLinks.length z1a),(.slice z1b z4.fVLs.length z1c),(.slice z1d z4.fHealth.length z1e),(.slice z1f z4.fCauses.length z1g),(.slice z1h z4.fVersions.length z1i)],row (.slice z9Z z5x.length z7R) 64 4 (z5x.flatMap e64),stb b3o1_143451 31 [(.slice z15 z4.fModules.length z16),(.slice z17 z4.fChannels.length z18),(.slice z8q z5y.length z6N),(.slice z19 z4.fLinks.length z1a),(.slice z1b z4.fVLs.length z1c),(.slice z1d z4.fHealth.length z1e),(.slice z1f z4.fCauses.length z1g),(.slice z1h z4.fVersions.length z1i)],row (.slice z8q z5y.length z6N) 64 4 (z5y.flatMap e64)]) ?_ ?_
          · skip
            refine WC.block (WC.b (WC.a (WL.pu rfl (WL.pu rfl (WL.nil (WX.a (WC.b ?_)))))))
            obtain ⟨zuC,h⟩:=yi h
            refine WC.a ?_
            refine WL.a (d:=46) rfl rfl rfl (ya y2P rfl rfl) ?_
            refine WL.a (d:=47) rfl rfl rfl (yb y3i rfl (yc .h1 rfl)) ?_
            refine WL.pu rfl ?_
            refine WL.znth (dd:=49) rfl rfl (Z:=(Z ++ [])) (Pr:=(fun r x=>r = e64 x)) y3P rfl rfl (zek.mono (Zle.left _ _)) zuC ?_
            rintro zyB zyC zuD zyD rfl
            refine WL.a (d:=50) rfl rfl rfl (ya y9h rfl rfl) ?_
            refine WL.a (d:=51) rfl rfl rfl (yb yg rfl (y2b (hz.pv2 .here) zuD rfl)) ?_
            refine WL.pu rfl (WL.pu rfl (WL.nil (WX.a ?_)))
            refine WC.cond rfl (fun zk3=>?_) (fun zk3=>?_)
            · replace h:=yl h zk3
              obtain ⟨za0,h⟩:=yi h
              obtain ⟨za1,h⟩:=yi h
              refine WC.yV (fun i=>[8,11].contains i) [stbp b3o1_143451 31 [(2,(.slice z8q zU.length z6N))]] rfl ?_
              refine WD.a (i:=0) (d:=54) (by kernel_rfl) rfl (z2 (by kernel_rfl)) (z3 (by kernel_rfl)) rfl rfl rfl (fun _=>ya y2P rfl rfl) ?_
              refine WD.e (i:=1) (d:=55) (by kernel_rfl) rfl (z2 (by kernel_rfl)) (z3 (by kernel_rfl)) rfl rfl rfl (yb y3i rfl (yc .h2 rfl)) ?_
              refine WD.a (i:=2) (d:=56) (by kernel_rfl) rfl (z2 (by kernel_rfl)) (z3 (by kernel_rfl)) rfl rfl rfl (fun _=>q_m rfl) ?_
              refine WD.a (i:=3) (d:=57) (by kernel_rfl) rfl (z2 (by kernel_rfl)) (z3 (by kernel_rfl)) rfl rfl rfl (fun _=>ya y2P rfl rfl) ?_
              refine WD.stable (i:=4) (d:=58) (by kernel_rfl) rfl (z2 (by kernel_rfl)) (z3 (by kernel_rfl)) rfl rfl rfl (Sin.wk (.cons .h4 .nil) (.stb (.cons rfl .nil) .nil)) (yb y3i rfl (y5J .here (.head _))) ?_
              refine WD.a (i:=5) (d:=59) (by kernel_rfl) rfl (z2 (by kernel_rfl)) (z3 (by kernel_rfl)) rfl rfl rfl (fun _=>q_m rfl) ?_
              refine WD.know (fun w hw=>Hp.y2p .h3 hw (by intro hz'; have:=za0; rw [hz'] at this; omega)) ?_
              rintro ⟨zol,rfl⟩
              refine WD.a (i:=6) (d:=60) (by kernel_rfl) rfl (z2 (by kernel_rfl)) (z3 (by kernel_rfl)) rfl rfl rfl (fun _=>yr y3P rfl rfl za0.1 za0.2 y1c) ?_
              refine WD.a (i:=7) (d:=61) (by kernel_rfl) rfl (z2 (by kernel_rfl)) (z3 (by kernel_rfl)) rfl rfl rfl (fun _=>ya y5P rfl (Addr.add_lit _ _ _)) ?_
              refine WD.forced0 (i:=8) rfl (by kernel_rfl) rfl rfl rfl (Sin.wk (.cons .h4 .nil) (.stb (.cons rfl .nil) .nil)) (y28 (vs:=[(.int .i64 2880)]) (ds:=(zW.set (zE : Int).toNat (⟨((nth zW zE).fName),((nth zW zE).fNet),((nth zW zE).fDelay),2880⟩ : Sapi_Switch)).flatMap e64) y6H rfl rfl rfl rfl (y9c rfl oc_nil) .h3 (y2I (enc:=e64) (sz:=4) (k:=3) (fun _=>rfl) za0.1 za0.2 (by decide)) (y2H (enc:=e64) (l:=zW) (sz:=4) (vs:=[(.int .i64 2880)]) (y:=(⟨((nth zW zE).fName),((nth zW zE).fNet),((nth zW zE).fDelay),2880⟩ : Sapi_Switch)) (k:=3) (fun _=>rfl) za0.1 za0.2 rfl (Nat.le_of_ble_eq_true rfl))) ?_
              refine WD.relen .here (u:=(.slice (some ⟨zol,0,none⟩) ((zW.set (zE : Int).toNat (⟨((nth zW zE).fName),((nth zW zE).fNet),((nth zW zE).fDelay),2880⟩ : Sapi_Switch)).length) z7R)) (y1F (List.length_set).symm) ?_
              refine WD.restb (cs':=[(.slice z15 z4.fModules.length z16),(.slice z17 z4.fChannels.length z18),(.slice (some ⟨zol,0,none⟩) ((zW.set (zE : Int).toNat (⟨((nth zW zE).fName),((nth zW zE).fNet),((nth zW zE).fDelay),2880⟩ : Sapi_Switch)).length) z7R),(.slice z19 z4.fLinks.length z1a),(.slice z1b z4.fVLs.length z1c),(.slice z1d z4.fHealth.length z1e),(.slice z1f z4.fCauses.length z1g),(.slice z1h z4.fVersions.length z1i)]) .h3 (by rw [List.length_set]) ?_
              refine WD.know (fun w hw=>Hp.y2p .h5 hw (by intro hz'; have:=za1; rw [hz'] at this; omega)) ?_
              rintro ⟨zom,rfl⟩
              refine WD.a (i:=9) (d:=62) (by kernel_rfl) rfl (z2 (by kernel_rfl)) (z3 (by kernel_rfl)) rfl rfl rfl (fun _=>yr y3P rfl rfl za1.1 za1.2 y1c) ?_
              refine WD.a (i:=10) (d:=63) (by kernel_rfl) rfl (z2 (by kernel_rfl)) (z3 (by kernel_rfl)) rfl rfl rfl (fun _=>ya y5P rfl (Addr.add_lit _ _ _)) ?_
              refine WD.y2F (i:=11) rfl (by kernel_rfl) rfl rfl rfl (by kernel_rfl) (y28 (vs:=[(.int .i64 1073741824)]) (ds:=(zU.set (zE : Int).toNat (⟨((nth zU zE).fName),((nth zU zE).fNet),((nth zU zE).fDelay),1073741824⟩ : Sapi_Switch)).flatMap e64) y6H rfl rfl rfl rfl (y9c rfl oc_nil) .h5 (y2I (enc:=e64) (sz:=4) (k:=3) (fun _=>rfl) za1.1 za1.2 (by decide)) (y2H (enc:=e64) (l:=zU) (sz:=4) (vs:=[(.int .i64 1073741824)]) (y:=(⟨((nth zU zE).fName),((nth zU zE).fNet),((nth zU zE).fDelay),1073741824⟩ : Sapi_Switch)) (k:=3) (fun _=>rfl) za1.1 za1.2 rfl (Nat.le_of_ble_eq_true rfl))) ?_
              refine WD.relen .here (u:=(.slice (some ⟨zom,0,none⟩) ((zU.set (zE : Int).toNat (⟨((nth zU zE).fName),((nth zU zE).fNet),((nth zU zE).fDelay),1073741824⟩ : Sapi_Switch)).length) z6N)) (y1F (List.length_set).symm) ?_
              refine WD.restb (cs':=[(.slice z15 z4.fModules.length z16),(.slice z17 z4.fChannels.length z18),(.slice (some ⟨zom,0,none⟩) ((zU.set (zE : Int).toNat (⟨((nth zU zE).fName),((nth zU zE).fNet),((nth zU zE).fDelay),1073741824⟩ : Sapi_Switch)).length) z6N),(.slice z19 z4.fLinks.length z1a),(.slice z1b z4.fVLs.length z1c),(.slice z1d z4.fHealth.length z1e),(.slice z1f z4.fCauses.length z1g),(.slice z1h z4.fVersions.length z1i)]) .h5 (by rw [List.length_set]) ?_
              refine WD.done (by kernel_rfl) ?_
              refine WX.yf ?_
              exact WX.mid (G:=List Sapi_Switch × List Sapi_Switch) ⟨(zW.set (zE : Int).toNat (⟨((nth zW zE).fName),((nth zW zE).fNet),((nth zW zE).fDelay),2880⟩ : Sapi_Switch)),(zU.set (zE : Int).toNat (⟨((nth zU zE).fName),((nth zU zE).fNet),((nth zU zE).fDelay),1073741824⟩ : Sapi_Switch))⟩ h (.cons rfl (.cons rfl (.cons rfl (.cons rfl (.cons rfl (.cons rfl (.cons rfl (.cons rfl .nil)))))))) (.cons .h4 (.cons .h4 (.cons .h2 (.cons .h2 (.cons .here (.cons .here .nil))))))
            · replace h:=ym h zk3
              refine WC.skip (WX.yf ?_)
              exact WX.mid (G:=List Sapi_Switch × List Sapi_Switch) ⟨zW,zU⟩ h (.cons rfl (.cons rfl (.cons rfl (.cons rfl (.cons rfl (.cons rfl (.cons rfl (.cons rfl .nil)))))))) (.cons .here (.cons .here (.cons .here (.cons .here (.cons .here (.cons .here .nil))))))
          · rintro z5x z5y h
            replace h:=(zuB z5x z5y).symm.trans h
            refine WC.a (WL.pu rfl (WL.pu rfl (WL.nil ?_)))
            exact WX.round (G:=Nat × Int × List Sapi_Switch × List Sapi_Switch) ⟨zjX,(i64 (zE + 1)),z5x,z5y⟩ h (Nat.lt_succ_self _) (.cons rfl (.cons rfl (.cons rfl (.cons rfl (.cons rfl (.cons rfl (.cons rfl (.cons rfl .nil)))))))) (.cons .here (.cons .here (.cons .here (.cons .here (.cons .here (.cons .here .nil))))))
        · replace h:=ym h zk2
          refine WC.exit (WX.ye (WX.ye (WX.yA ?_)))
          exact WX.mid (G:=List Sapi_Switch × List Sapi_Switch) ⟨zW,zU⟩ h (.cons rfl (.cons rfl (.cons rfl (.cons rfl (.cons rfl (.cons rfl .nil)))))) (.cons .here (.cons .here (.cons .here (.cons .here (.cons .here (.cons .here .nil))))))
      · rintro z6K z6L h
        replace h:=(zuA z6K z6L).symm.trans h
        refine WC.b ?_
        obtain ⟨z1G,zuE,h⟩:=zh h
        refine WC.a ?_
        refine WL.a (d:=66) rfl rfl rfl (yD y1t rfl (y1h .h2) rfl) ?_
        refine WL.pu rfl (WL.pu rfl (WL.pu rfl ?_))
        refine WL.y6z (dd:=70) rfl rfl rfl (zz (l:=[.tmp 66,.tmp 67,.tmp 68,.tmp 69]) Try.call12 (.cons rfl (.cons rfl (.cons rfl (.cons rfl .nil))))) .nil (cclz hz .nil .here (.cons .h3 .nil) fun w pz ho la=>y4X _ _ _ _ _ _ _ _ _ _ _ _ _ _ _ _ _ _ _ _ _ _ _ _ _ _ zuE w pz ((((zgf.mono (Zle.left _ _)).weak (fun _ _ h=>y1H (Zle.left _ _) h)).mono (Zle.left _ _)).weak (fun _ _ h=>y1H (Zle.left _ _) h)) ((((zgg.mono (Zle.left _ _)).weak (fun _ _ h=>y1M (Zle.left _ _) h)).mono (Zle.left _ _)).weak (fun _ _ h=>y1M (Zle.left _ _) h)) (ZA.row (la _ (.head _) _) (RR.y1b (enc:=e64) (fun _=>rfl) _) ⟨w,pz.1⟩) ((zgh.mono (Zle.left _ _)).mono (Zle.left _ _)) ((((zgi.mono (Zle.left _ _)).weak (fun _ _ h=>y1I (Zle.left _ _) h)).mono (Zle.left _ _)).weak (fun _ _ h=>y1I (Zle.left _ _) h)) ((zgj.mono (Zle.left _ _)).mono (Zle.left _ _)) ((((zgk.mono (Zle.left _ _)).weak (fun _ _ h=>y1N (Zle.left _ _) h)).mono (Zle.left _ _)).weak (fun _ _ h=>y1N (Zle.left _ _) h)) ((zgl.mono (Zle.left _ _)).mono (Zle.left _ _)) ((((zgm.mono (Zle.left _ _)).weak (fun _ _ h=>y39 (Zle.left _ _) h)).mono (Zle.left _ _)).weak (fun _ _ h=>y39 (Zle.left _ _) h)) ((zgn.mono (Zle.left _ _)).mono (Zle.left _ _))) ?_
        rintro zel zem zen zeo _
        refine WL.pu rfl (WL.pu rfl (WL.pu rfl (WL.pu rfl (WL.pu rfl (WL.pu rfl (WL.pu rfl (WL.nil (WX.a (WC.b ?_)))))))))
        obtain ⟨z1R,zuF,h⟩:=zh h
        refine WC.a ?_
        refine WL.a (d:=75) rfl rfl rfl (yD y1t rfl (y1h .h6) rfl) ?_
        refine WL.pu rfl (WL.pu rfl (WL.pu rfl ?_))
        refine WL.y6z (dd:=79) rfl rfl rfl (zz (l:=[.tmp 75,.tmp 76,.tmp 77,.tmp 78]) Try.call12 (.cons rfl (.cons rfl (.cons rfl (.cons rfl .nil))))) .nil (cclz hz .nil .h2 (.cons .h7 .nil) fun w pz ho la=>y4X _ _ _ _ _ _ _ _ _ _ _ _ _ _ _ _ _ _ _ _ _ _ _ _ _ _ zuF w pz ((((zgf.mono (Zle.left _ _)).weak (fun _ _ h=>y1H (Zle.left _ _) h)).mono (Zle.left _ _)).weak (fun _ _ h=>y1H (Zle.left _ _) h)) ((((zgg.mono (Zle.left _ _)).weak (fun _ _ h=>y1M (Zle.left _ _) h)).mono (Zle.left _ _)).weak (fun _ _ h=>y1M (Zle.left _ _) h)) (ZA.row (la _ (.head _) _) (RR.y1b (enc:=e64) (fun _=>rfl) _) ⟨w,pz.1⟩) ((zgh.mono (Zle.left _ _)).mono (Zle.left _ _)) ((((zgi.mono (Zle.left _ _)).weak (fun _ _ h=>y1I (Zle.left _ _) h)).mono (Zle.left _ _)).weak (fun _ _ h=>y1I (Zle.left _ _) h)) ((zgj.mono (Zle.left _ _)).mono (Zle.left _ _)) ((((zgk.mono (Zle.left _ _)).weak (fun _ _ h=>y1N (Zle.left _ _) h)).mono (Zle.left _ _)).weak (fun _ _ h=>y1N (Zle.left _ _) h)) ((zgl.mono (Zle.left _ _)).mono (Zle.left _ _)) ((((zgm.mono (Zle.left _ _)).weak (fun _ _ h=>y39 (Zle.left _ _) h)).mono (Zle.left _ _)).weak (fun _ _ h=>y39 (Zle.left _ _) h)) ((zgn.mono (Zle.left _ _)).mono (Zle.left _ _))) ?_
        rintro zep zeq zer zes _
        refine WL.pu rfl (WL.pu rfl (WL.pu rfl (WL.pu rfl (WL.pu rfl (WL.pu rfl (WL.pu rfl (WL.nil (WX.a (WC.b (WC.a (WL.pu rfl (WL.nil (WX.a ?_)))))))))))))
        obtain ⟨z7Q,zuG,h⟩:=y19 h
        refine WC.y1R (fun (z6M : Int)=>(z7Q z6M = some r)) (fun (z6M : Int)=>[(12,(.slice zel z1G.1.length zem)),(13,(.slice zen z1G.2.1.length zeo)),(14,(.int .i64 z1G.2.2)),(15,(.slice zep z1R.1.length zeq)),(16,(.slice zer z1R.2.1.length zes)),(17,(.int .i64 z1R.2.2)),(18,(.int .i64 z6M))]) (fun (z6M : Int)=>[fz [],row (.slice zel z1G.1.length zem) 50 3 (z1G.1.flatMap e50),row (.slice zen z1G.2.1.length zeo) 50 3 (z1G.2.1.flatMap e50),row (.slice zep z1R.1.length zeq) 50 3 (z1R.1.flatMap e50),row (.slice zer z1R.2.1.length zes) 50 3 (z1R.2.1.flatMap e50)]) ?_ ?_
        · skip
          refine WC.b (WC.a (WL.pu rfl ?_))
          refine WL.a (d:=84) rfl rfl rfl (yU Try.underlying33 rfl) ?_
          refine WL.pu rfl (WL.nil (WX.a (WC.block ?_)))
          refine WC.y2m (fun (zc0 : Nat) (z4o : Int) (z37 : Int)=>(y1p z1u z1J z4 z7Q zc0 z4o z37 = some r)) (fun (zc0 : Nat) (z4o : Int) (z37 : Int)=>[(2,(.slice z3N z1J.length z3O)),(4,(.pointer (some ⟨z2G,0,none⟩))),(12,(.slice zel z1G.1.length zem)),(13,(.slice zen z1G.2.1.length zeo)),(14,(.int .i64 z1G.2.2)),(15,(.slice zep z1R.1.length zeq)),(16,(.slice zer z1R.2.1.length zes)),(17,(.int .i64 z1R.2.2)),(18,(.int .i64 z4o)),(83,(.slice z3P z1u.length z3Q)),(84,(.int .i64 ((z1u.length : Nat) : Int))),(85,(.int .i64 z37))]) (fun (zc0 : Nat) (z4o : Int) (z37 : Int)=>[fz [],row (.slice zel z1G.1.length zem) 50 3 (z1G.1.flatMap e50),row (.slice zen z1G.2.1.length zeo) 50 3 (z1G.2.1.flatMap e50),row (.slice zep z1R.1.length zeq) 50 3 (z1R.1.flatMap e50),row (.slice zer z1R.2.1.length zes) 50 3 (z1R.2.1.flatMap e50),stb z2G 31 [(.slice z15 z4.fModules.length z16),(.slice z17 z4.fChannels.length z18),(.slice z1O z4.fSwitches.length z1P),(.slice z19 z4.fLinks.length z1a),(.slice z1b z4.fVLs.length z1c),(.slice z1d z4.fHealth.length z1e),(.slice z1f z4.fCauses.length z1g),(.slice z1h z4.fVersions.length z1i)]]) (fun (zc0 : Nat) (z4o : Int) (z37 : Int)=>zc0) ⟨yz,0,0⟩ h (.cons rfl (.cons rfl (.cons rfl (.cons rfl (.cons rfl (.cons rfl (.cons rfl (.cons rfl (.cons rfl (.cons rfl (.cons rfl (.cons rfl .nil)))))))))))) (.cons .h4 (.cons .h2 (.cons .h2 (.cons .here (.cons .here (.cons .here .nil)))))) ?_
          rintro zc0 z4o z37 h
          obtain ⟨zjY,rfl⟩:=y4E h
          rw [y1p] at h
          refine WC.b (WC.a (WL.pu rfl (WL.nil (WX.a (WC.b ?_)))))
          refine WC.cond rfl (fun zk4=>?_) (fun zk4=>?_)
          · replace h:=yl h zk4
            refine WC.skip (WX.a (WC.b (WC.block (WC.b ?_))))
            obtain ⟨zuH,h⟩:=yi h
            refine WC.a ?_
            refine WL.znth (dd:=87) rfl rfl (Z:=(Z ++ [])) (Pr:=(fun r x=>r = e53 x)) y4y rfl rfl (zgn.mono (Zle.left _ _)) zuH ?_
            rintro zyE zyF zuI zyG rfl
            refine WL.a (d:=88) rfl rfl rfl (yD y6V rfl (y3t (hz.pv2 .here) zuI) rfl) ?_
            refine WL.new (dd:=20) rfl rfl rfl (y1U (cs:=[(.int .i64 0),(.int .i64 0),(.int .i64 0)]) y6d rfl) ?_
            intro zyH _
            refine WL.y1r rfl rfl (y1K y6W rfl rfl rfl .here rfl rfl rfl) ?_
            refine WL.nil (WX.a ?_)
            obtain ⟨zuJ,h⟩:=yi h
            obtain ⟨zjZ,zuK,h⟩:=zh h
            refine WC.yV (fun i=>[].contains i) [] rfl ?_
            refine WD.a (i:=0) (d:=89) (by kernel_rfl) rfl (z2 (by kernel_rfl)) (z3 (by kernel_rfl)) rfl rfl rfl (fun _=>q_m rfl) ?_
            refine WD.e (i:=1) (d:=90) (by kernel_rfl) rfl (z2 (by kernel_rfl)) (z3 (by kernel_rfl)) rfl rfl rfl (yD y1t rfl (y1h .h6) rfl) ?_
            refine WD.a (i:=2) (d:=91) (by kernel_rfl) rfl (z2 (by kernel_rfl)) (z3 (by kernel_rfl)) rfl rfl rfl (fun _=>q_m rfl) ?_
            refine WD.a (i:=3) (d:=92) (by kernel_rfl) rfl (z2 (by kernel_rfl)) (z3 (by kernel_rfl)) rfl rfl rfl (fun _=>ya y4J rfl rfl) ?_
            refine WD.e (i:=4) (d:=93) (by kernel_rfl) rfl (z2 (by kernel_rfl)) (z3 (by kernel_rfl)) rfl rfl rfl (yb yg rfl (yc .here rfl)) ?_
            refine WD.znth (j:=5) (dd:=94) (by kernel_rfl) rfl (z2 (by kernel_rfl)) (z3 (by kernel_rfl)) rfl rfl (Z:=(Z ++ [])) (Pr:=(p55 (Z ++ []))) y5K rfl rfl ((zgm.mono (Zle.left _ _)).weak (fun _ _ h=>y39 (Zle.left _ _) h)) zuJ ?_
            rintro zyI zyJ zuL zyK ⟨zyL,zyM,rfl,zuM⟩
            refine WD.e (i:=6) (d:=95) (by kernel_rfl) rfl (z2 (by kernel_rfl)) (z3 (by kernel_rfl)) rfl rfl rfl (yb y5L rfl (rd_z (hz.pv2 .h1) zuL rfl)) ?_
            refine WD.call2 (i:=7) (dd:=96) rfl (by kernel_rfl) rfl rfl rfl (.inr rfl) (zz (l:=[.tmp 90,.tmp 95]) Try.call21 (.cons rfl (.cons rfl .nil))) .nil (ccz hz .nil .h1 fun w pz ho=>y7C _ _ _ _ _ _ _ _ _ _ _ _ _ _ _ _ _ _ _ _ _ _ zuK w pz ((zgf.mono (Zle.left _ _)).weak (fun _ _ h=>y1H (Zle.left _ _) h)) ((zgg.mono (Zle.left _ _)).weak (fun _ _ h=>y1M (Zle.left _ _) h)) (zek.mono (Zle.left _ _)) (zgh.mono (Zle.left _ _)) ((zgi.mono (Zle.left _ _)).weak (fun _ _ h=>y1I (Zle.left _ _) h)) (zgj.mono (Zle.left _ _)) ((zgk.mono (Zle.left _ _)).weak (fun _ _ h=>y1N (Zle.left _ _) h)) (zgl.mono (Zle.left _ _)) zuM) ?_
            rintro zyN zyO _
            refine WD.a (i:=8) (d:=97) (by kernel_rfl) rfl (z2 (by kernel_rfl)) (z3 (by kernel_rfl)) rfl rfl rfl (fun _=>yU Try.underlying56 rfl) ?_
            refine WD.a (i:=9) (d:=98) (by kernel_rfl) rfl (z2 (by kernel_rfl)) (z3 (by kernel_rfl)) rfl rfl rfl (fun _=>y4w rfl rfl rfl) ?_
            refine WD.a (i:=10) (d:=18) (by kernel_rfl) rfl (z2 (by kernel_rfl)) (z3 (by kernel_rfl)) rfl rfl rfl (fun _=>q_z rfl) ?_
            refine WD.done (by kernel_rfl) ?_
            refine WX.yf (WX.a (WC.a (WL.pu rfl (WL.pu rfl (WL.nil ?_)))))
            exact WX.round (G:=Nat × Int × Int) ⟨zjY,(i64 (z4o + ((zjZ.length : Nat) : Int))),(i64 (z37 + 1))⟩ h (Nat.lt_succ_self _) (.cons rfl (.cons rfl (.cons rfl (.cons rfl (.cons rfl (.cons rfl (.cons rfl (.cons rfl (.cons rfl (.cons rfl (.cons rfl (.cons rfl .nil)))))))))))) (.cons .h2 (.cons .h2 (.cons .h2 (.cons .h2 (.cons .h2 (.cons .h2 .nil))))))
          · replace h:=ym h zk4
            refine WC.exit (WX.ye (WX.ye (WX.yA ?_)))
            exact WX.mid (G:=Int) z4o h (.cons rfl (.cons rfl (.cons rfl (.cons rfl (.cons rfl (.cons rfl (.cons rfl .nil))))))) (.cons .here (.cons .here (.cons .here (.cons .here (.cons .here .nil)))))
        · rintro z6M h
          replace h:=(zuG z6M).symm.trans h
          refine WC.b ?_
          obtain ⟨zej,zon,h⟩:=zh h
          obtain ⟨zk0,zoo,h⟩:=zh h
          refine WC.a (WL.pu rfl (WL.pu rfl (WL.pu rfl ?_)))
          refine WL.seg true 2 102 (B:=(decide (z1G.2.2 = 0)) && (decide (z1R.2.2 = 0))) rfl rfl rfl rfl rfl rfl (fun h=>(y2t h).symm) (fun _ zuN=>?_) ?_
          · skip
            refine WL.pu rfl (WL.pu rfl (WL.pu rfl ?_))
            exact WL.ys (y2u zuN) rfl rfl .all
          refine WL.pu rfl ?_
          refine WL.seg true 6 106 (B:=((decide (z1G.2.2 = 0)) && (decide (z1R.2.2 = 0))) && (decide ((i64 (((z1G.2.1.length : Nat) : Int) + ((z1R.2.1.length : Nat) : Int))) = 0))) rfl rfl rfl rfl rfl rfl (fun h=>(y2t h).symm) (fun _ zuO=>?_) ?_
          · skip
            refine WL.pu rfl ?_
            refine WL.a (d:=108) rfl rfl rfl (yU Try.underlying36 rfl) ?_
            refine WL.pu rfl ?_
            refine WL.a (d:=110) rfl rfl rfl (yU Try.underlying36 rfl) ?_
            refine WL.pu rfl (WL.pu rfl (WL.pu rfl ?_))
            exact WL.ys (y2u zuO) rfl rfl .all
          refine WL.pu rfl ?_
          refine WL.seg true 3 114 (B:=zej) rfl rfl rfl rfl rfl rfl (fun h=>(Option.some.inj (ym zon h)).symm) (fun _ zuP=>?_) ?_
          · skip
            have zet:=yl zon zuP
            obtain ⟨zoi,zuQ,zet⟩:=zh zet
            replace zet:=Option.some.inj zet
            refine WL.pu rfl (WL.pu rfl ?_)
            refine WL.b (dd:=117) rfl rfl rfl (zz (l:=[.tmp 115,.tmp 116]) Try.call14 (.cons rfl (.cons rfl .nil))) .nil (cclz hz .nil .here (.cons .h1 (.cons .h2 .nil)) fun w pz ho la=>y5k _ _ _ _ _ _ _ _ zuQ w pz (ZA.row (la _ (.head _) _) (RR.y1b (enc:=e50) (fun _=>rfl) _) ⟨w,pz.1⟩) (ZA.row (la _ (.tail _ (.head _)) _) (RR.y1b (enc:=e50) (fun _=>rfl) _) ⟨w,pz.1⟩)) ?_
            refine WL.pu rfl ?_
            exact WL.ys zet rfl rfl .all
          refine WL.pu rfl ?_
          refine WL.seg true 4 119 (B:=zej && (decide (((z1G.1.length : Nat) : Int) = z6M))) rfl rfl rfl rfl rfl rfl (fun h=>(y2t h).symm) (fun _ zuR=>?_) ?_
          · skip
            refine WL.pu rfl ?_
            refine WL.a (d:=121) rfl rfl rfl (yU Try.underlying36 rfl) ?_
            refine WL.pu rfl (WL.pu rfl (WL.pu rfl ?_))
            exact WL.ys (y2u zuR) rfl rfl .all
          refine WL.pu rfl ?_
          refine WL.cut1 (fun (zc1 : Zp)=>Zle (Z ++ []) (Z ++ zc1)) (fun (zc1 : Zp)=>[(127,(.bool zk0))]) (fun (zc1 : Zp)=>[fz zc1,row (.slice zel z1G.1.length zem) 50 3 (z1G.1.flatMap e50),row (.slice zen z1G.2.1.length zeo) 50 3 (z1G.2.1.flatMap e50),row (.slice zep z1R.1.length zeq) 50 3 (z1R.1.flatMap e50),row (.slice zer z1R.2.1.length zes) 50 3 (z1R.2.1.flatMap e50)]) 2 ?_ (fun zc1 zyP=>?_)
          · rcases Bool.eq_false_or_eq_true (zej && (decide (((z1G.1.length : Nat) : Int) = z6M))) with hb' | hb'
            · have zop:=hb'; clear hb'
              have zeu:=yl zoo zop
              obtain ⟨zoj,zuS,zeu⟩:=zh zeu
              replace zeu:=Option.some.inj zeu
              refine WL.pin (i:=125) rfl zop ?_
              refine WL.y85 (dd:=126) rfl rfl rfl (zz (l:=[]) Try.call11 .nil) .nil (ccz hz .nil .here fun w pz ho=>y6u _ _ zuS w pz ) ?_
              rintro zuT _
              refine WL.merge .here .here ?_
              refine WL.pu rfl ?_
              exact WL.y84 (G:=Zp) ([] ++ zuT) ((Zle.left _ _).trans (Zle.y13 _ _ _)) (.cons (zr zeu) .nil) (.cons .here (.cons .here (.cons .here (.cons .here (.cons .here .nil)))))
            · have zoq:=hb'; clear hb'
              have zk5:=ym zoo zoq
              replace zk5:=Option.some.inj zk5
              refine WL.pin (i:=125) rfl zoq ?_
              refine WL.e rfl rfl rfl (WL.pu rfl ?_)
              exact WL.y84 (G:=Zp) [] (Zle.refl _) (.cons (zr zk5) .nil) (.cons .here (.cons .here (.cons .here (.cons .here (.cons .here .nil)))))
          · skip
            refine WL.pu rfl (WL.nil (WX.a (WC.ret ?_)))
            obtain rfl:=Option.some.inj h
            refine WX.yh Try.results8 (.tmp rfl .nil) (fun w hw=>?_)
            exact ⟨zc1,y12 rfl,trivial,hw.sub (.cons .here .nil)⟩
    refine WD.y7c (fuel':=1) (fun (b2o1_143451 : Nat) (b3o1_143451 : Nat)=>[(1,(.int .i64 z1W)),(2,(.slice z3N z1J.length z3O)),(3,(.slice z3P z1u.length z3Q)),(4,(.pointer (some ⟨z2G,0,none⟩))),(29,(.agg #[(.slice z15 z4.fModules.length z16),(.slice z17 z4.fChannels.length z18),(.slice z1O z4.fSwitches.length z1P),(.slice z19 z4.fLinks.length z1a),(.slice z1b z4.fVLs.length z1c),(.slice z1d z4.fHealth.length z1e),(.slice z1f z4.fCauses.length z1g),(.slice z1h z4.fVersions.length z1i)])),(9,(.pointer (some ⟨b2o1_143451,0,none⟩))),(10,(.pointer (some ⟨b3o1_143451,0,none⟩)))]) (fun (b2o1_143451 : Nat) (b3o1_143451 : Nat)=>[stb b2o1_143451 31 [(.slice z15 z4.fModules.length z16),(.slice z17 z4.fChannels.length z18),(.slice z1O z4.fSwitches.length z1P),(.slice z19 z4.fLinks.length z1a),(.slice z1b z4.fVLs.length z1c),(.slice z1d z4.fHealth.length z1e),(.slice z1f z4.fCauses.length z1g),(.slice z1h z4.fVersions.length z1i)],stb b3o1_143451 31 [(.slice none 0 0),(.slice none 0 0),(.slice none 0 0),(.slice none 0 0),(.slice none 0 0),(.slice none 0 0),(.slice none 0 0),(.slice none 0 0)],stb z2G 31 [(.slice z15 z4.fModules.length z16),(.slice z17 z4.fChannels.length z18),(.slice z1O z4.fSwitches.length z1P),(.slice z19 z4.fLinks.length z1a),(.slice z1b z4.fVLs.length z1c),(.slice z1d z4.fHealth.length z1e),(.slice z1f z4.fCauses.length z1g),(.slice z1h z4.fVersions.length z1i)],fz []]) (fun (b2o1_143451 : Nat) (b3o1_143451 : Nat)=>True) (y1j 6 [4,3,2,1,0]) ?_ (fun K2o3o4_143451=>?_)
    · skip
      rintro b2o1_143451 b3o1_143451 _
      refine WD.y2F (i:=5) rfl (by kernel_rfl) rfl rfl rfl (by kernel_rfl) (y1K y5R rfl rfl rfl .h1 rfl rfl rfl) ?_
      exact WD.yK (.cons .here (.cons .here (.cons .here (.cons .here .nil)))) (.cons rfl (.cons rfl (.cons rfl (.cons rfl (.cons rfl (.cons rfl .nil)))))) (K2o3o4o5_143451 b2o1_143451 b3o1_143451 trivial)
    refine WD.y7c (fuel':=2) (fun (b2o1_143451 : Nat) (b3o1_143451 : Nat)=>[(1,(.int .i64 z1W)),(2,(.slice z3N z1J.length z3O)),(3,(.slice z3P z1u.length z3Q)),(4,(.pointer (some ⟨z2G,0,none⟩))),(28,(.agg #[(.slice z15 z4.fModules.length z16),(.slice z17 z4.fChannels.length z18),(.slice z1O z4.fSwitches.length z1P),(.slice z19 z4.fLinks.length z1a),(.slice z1b z4.fVLs.length z1c),(.slice z1d z4.fHealth.length z1e),(.slice z1f z4.fCauses.length z1g),(.slice z1h z4.fVersions.length z1i)])),(29,(.agg #[(.slice z15 z4.fModules.length z16),(.slice z17 z4.fChannels.length z18),(.slice z1O z4.fSwitches.length z1P),(.slice z19 z4.fLinks.length z1a),(.slice z1b z4.fVLs.length z1c),(.slice z1d z4.fHealth.length z1e),(.slice z1f z4.fCauses.length z1g),(.slice z1h z4.fVersions.length z1i)])),(9,(.pointer (some ⟨b2o1_143451,0,none⟩))),(10,(.pointer (some ⟨b3o1_143451,0,none⟩)))]) (fun (b2o1_143451 : Nat) (b3o1_143451 : Nat)=>[stb b3o1_143451 31 [(.slice none 0 0),(.slice none 0 0),(.slice none 0 0),(.slice none 0 0),(.slice none 0 0),(.slice none 0 0),(.slice none 0 0),(.slice none 0 0)],stb b2o1_143451 31 [(.slice none 0 0),(.slice none 0 0),(.slice none 0 0),(.slice none 0 0),(.slice none 0 0),(.slice none 0 0),(.slice none 0 0),(.slice none 0 0)],stb z2G 31 [(.slice z15 z4.fModules.length z16),(.slice z17 z4.fChannels.length z18),(.slice z1O z4.fSwitches.length z1P),(.slice z19 z4.fLinks.length z1a),(.slice z1b z4.fVLs.length z1c),(.slice z1d z4.fHealth.length z1e),(.slice z1f z4.fCauses.length z1g),(.slice z1h z4.fVersions.length z1i)],fz []]) (fun (b2o1_143451 : Nat) (b3o1_143451 : Nat)=>True) (y1j 6 [3,2,1,0]) ?_ (fun K2o3_143451=>?_)
    · skip
      rintro b2o1_143451 b3o1_143451 _
      refine WD.forced0 (i:=4) rfl (by kernel_rfl) rfl rfl rfl (Sin.of (.cons .h2 .nil)) (y1K y5R rfl rfl rfl .h1 rfl rfl rfl) ?_
      exact WD.yK (.cons .here (.cons .here (.cons .here (.cons .here .nil)))) (.cons rfl (.cons rfl (.cons rfl (.cons rfl (.cons rfl (.cons rfl (.cons rfl .nil))))))) (K2o3o4_143451 b2o1_143451 b3o1_143451 trivial)
    refine WD.y8A (fuel':=3) (fun (b2o1_143451 : Nat)=>[(1,(.int .i64 z1W)),(2,(.slice z3N z1J.length z3O)),(3,(.slice z3P z1u.length z3Q)),(4,(.pointer (some ⟨z2G,0,none⟩))),(28,(.agg #[(.slice z15 z4.fModules.length z16),(.slice z17 z4.fChannels.length z18),(.slice z1O z4.fSwitches.length z1P),(.slice z19 z4.fLinks.length z1a),(.slice z1b z4.fVLs.length z1c),(.slice z1d z4.fHealth.length z1e),(.slice z1f z4.fCauses.length z1g),(.slice z1h z4.fVersions.length z1i)])),(29,(.agg #[(.slice z15 z4.fModules.length z16),(.slice z17 z4.fChannels.length z18),(.slice z1O z4.fSwitches.length z1P),(.slice z19 z4.fLinks.length z1a),(.slice z1b z4.fVLs.length z1c),(.slice z1d z4.fHealth.length z1e),(.slice z1f z4.fCauses.length z1g),(.slice z1h z4.fVersions.length z1i)])),(9,(.pointer (some ⟨b2o1_143451,0,none⟩)))]) (fun (b2o1_143451 : Nat)=>[stb b2o1_143451 31 [(.slice none 0 0),(.slice none 0 0),(.slice none 0 0),(.slice none 0 0),(.slice none 0 0),(.slice none 0 0),(.slice none 0 0),(.slice none 0 0)],stb z2G 31 [(.slice z15 z4.fModules.length z16),(.slice z17 z4.fChannels.length z18),(.slice z1O z4.fSwitches.length z1P),(.slice z19 z4.fLinks.length z1a),(.slice z1b z4.fVLs.length z1c),(.slice z1d z4.fHealth.length z1e),(.slice z1f z4.fCauses.length z1g),(.slice z1h z4.fVersions.length z1i)],fz []]) (fun (b2o1_143451 : Nat)=>True) (y1j 6 [2,1,0]) ?_ (fun K2_143451=>?_)
    · skip
      rintro b2o1_143451 _
      refine WD.new (i:=3) (dd:=10) rfl (by kernel_rfl) rfl rfl rfl (y1U (cs:=[(.slice none 0 0),(.slice none 0 0),(.slice none 0 0),(.slice none 0 0),(.slice none 0 0),(.slice none 0 0),(.slice none 0 0),(.slice none 0 0)]) y4o rfl) (fun h'=>absurd h' (by decide)) ?_
      intro b3o1_143451 _
      exact WD.yK (.cons .here (.cons .here (.cons .here (.cons .here .nil)))) (.cons rfl (.cons rfl (.cons rfl (.cons rfl (.cons rfl (.cons rfl (.cons rfl (.cons rfl .nil)))))))) (K2o3_143451 b2o1_143451 b3o1_143451 trivial)
    refine WD.y8A (fuel':=3) (fun (b3o1_143451 : Nat)=>[(1,(.int .i64 z1W)),(2,(.slice z3N z1J.length z3O)),(3,(.slice z3P z1u.length z3Q)),(4,(.pointer (some ⟨z2G,0,none⟩))),(28,(.agg #[(.slice z15 z4.fModules.length z16),(.slice z17 z4.fChannels.length z18),(.slice z1O z4.fSwitches.length z1P),(.slice z19 z4.fLinks.length z1a),(.slice z1b z4.fVLs.length z1c),(.slice z1d z4.fHealth.length z1e),(.slice z1f z4.fCauses.length z1g),(.slice z1h z4.fVersions.length z1i)])),(29,(.agg #[(.slice z15 z4.fModules.length z16),(.slice z17 z4.fChannels.length z18),(.slice z1O z4.fSwitches.length z1P),(.slice z19 z4.fLinks.length z1a),(.slice z1b z4.fVLs.length z1c),(.slice z1d z4.fHealth.length z1e),(.slice z1f z4.fCauses.length z1g),(.slice z1h z4.fVersions.length z1i)])),(10,(.pointer (some ⟨b3o1_143451,0,none⟩)))]) (fun (b3o1_143451 : Nat)=>[stb b3o1_143451 31 [(.slice none 0 0),(.slice none 0 0),(.slice none 0 0),(.slice none 0 0),(.slice none 0 0),(.slice none 0 0),(.slice none 0 0),(.slice none 0 0)],stb z2G 31 [(.slice z15 z4.fModules.length z16),(.slice z17 z4.fChannels.length z18),(.slice z1O z4.fSwitches.length z1P),(.slice z19 z4.fLinks.length z1a),(.slice z1b z4.fVLs.length z1c),(.slice z1d z4.fHealth.length z1e),(.slice z1f z4.fCauses.length z1g),(.slice z1h z4.fVersions.length z1i)],fz []]) (fun (b3o1_143451 : Nat)=>True) (y1j 6 [3,1,0]) ?_ (fun K3_143451=>?_)
    · skip
      rintro b3o1_143451 _
      refine WD.new (i:=2) (dd:=9) rfl (by kernel_rfl) rfl rfl rfl (y1U (cs:=[(.slice none 0 0),(.slice none 0 0),(.slice none 0 0),(.slice none 0 0),(.slice none 0 0),(.slice none 0 0),(.slice none 0 0),(.slice none 0 0)]) y4o rfl) (fun h'=>absurd h' (by decide)) ?_
      intro b2o1_143451 _
      exact WD.yK (.cons .h1 (.cons .here (.cons .here (.cons .here .nil)))) (.cons rfl (.cons rfl (.cons rfl (.cons rfl (.cons rfl (.cons rfl (.cons rfl (.cons rfl .nil)))))))) (K2o3_143451 b2o1_143451 b3o1_143451 trivial)
    refine WD.choose [2,3] (by kernel_rfl) rfl ?_
    refine WDo.cons ?_ (WDo.cons ?_ (WDo.nil))
    · refine WDo.new (i:=2) (dd:=9) rfl rfl rfl rfl (y1U (cs:=[(.slice none 0 0),(.slice none 0 0),(.slice none 0 0),(.slice none 0 0),(.slice none 0 0),(.slice none 0 0),(.slice none 0 0),(.slice none 0 0)]) y4o rfl) (fun h'=>absurd h' (by decide)) ?_
      intro b2o1_143451 _
      exact WD.yK (.cons .here (.cons .here (.cons .here .nil))) (.cons rfl (.cons rfl (.cons rfl (.cons rfl (.cons rfl (.cons rfl (.cons rfl .nil))))))) (K2_143451 b2o1_143451 trivial)
    · refine WDo.new (i:=3) (dd:=10) rfl rfl rfl rfl (y1U (cs:=[(.slice none 0 0),(.slice none 0 0),(.slice none 0 0),(.slice none 0 0),(.slice none 0 0),(.slice none 0 0),(.slice none 0 0),(.slice none 0 0)]) y4o rfl) (fun h'=>absurd h' (by decide)) ?_
      intro b3o1_143451 _
      exact WD.yK (.cons .here (.cons .here (.cons .here .nil))) (.cons rfl (.cons rfl (.cons rfl (.cons rfl (.cons rfl (.cons rfl (.cons rfl .nil))))))) (K3_143451 b3o1_143451 trivial)
end Go.Proofs.Ytinchjigeakocaa

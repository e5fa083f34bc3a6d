/- A part of this claim's proof: models of functions, walks, plain laws. No conditions. -/
import Derived.Test.YtinchjigeakocaaW31f
namespace Go.Proofs.Ytinchjigeakocaa
open Go Go.RowKit Sep
set_option linter.all false
set_option maxRecDepth 30000
set_option maxHeartbeats 4000000
def y26 (z1Q : List Sapi_Hop) (zG : Sapi_Config) (z7O : (List Int) → Option (List Int)) : Nat → (List Int) → Int → Option (List Int)
  | 0,_,_=>none
  | zjU + 1,z2q,z2b=>if decide (z2b < ((z1Q.length : Nat) : Int)) then jp1 (fun (z5w : List Int)=>y26 z1Q zG z7O zjU z5w (i64 (z2b + 1))) fun zgc=>chk ((0 : Int) ≤ z2b ∧ z2b < ((z1Q.length : Nat) : Int)) (if decide (((nth z1Q z2b).fNext) < ((zG.fModules.length : Nat) : Int)) then chk ((((z2q ++ ([((nth z1Q z2b).fNext)] : List Int)).length : Nat) : Int) * 8 ≤ 140737488355328 ∧ (((z2q ++ ([((nth z1Q z2b).fNext)] : List Int)).length : Nat) : Int) ≤ 4611686018427387904) (zgc (z2q ++ ([((nth z1Q z2b).fNext)] : List Int))) else zgc z2q) else z7O z2q
theorem y5p {n : Nat} {z1Q : List Sapi_Hop} {zG : Sapi_Config} {z7O : (List Int) → Option (List Int)} {z2q : List Int} {z2b : Int} {r : List Int} (h : y26 z1Q zG z7O n z2q z2b = some r) : ∃ m,n = m + 1:=by
  cases n with
  | zero=>cases h
  | succ m=>exact ⟨m,rfl⟩
def y3n (zG : Sapi_Config) (z1Q : List Sapi_Hop) : Option (List Int) :=
  jp1 (fun (z6J : List Int)=>some z6J) fun z7O=>y26 z1Q zG z7O yz ([] : List Int) 0
set_option maxRecDepth 20000 in
theorem y7C (Z : Zp) (z9J : Option Addr) (z9K : Nat) (z9L : Option Addr) (z9M : Nat) (z9N : Option Addr) (z9O : Nat) (z9P : Option Addr) (z9Q : Nat) (z9R : Option Addr) (z9S : Nat) (z9T : Option Addr) (z9U : Nat) (z9V : Option Addr) (z9W : Nat) (z9X : Option Addr) (z9Y : Nat) (zbS : Option Addr) (zbT : Nat) (zG : Sapi_Config) (z1Q : List Sapi_Hop) (r : List Int)
     (h : y3n zG z1Q = some r) (w₀ : World) (hz : PZ [] w₀ Z)
     (zym : ZS Z 4 (y2x Z) z9J z9K zG.fModules)
     (zyn : ZS Z 4 (y2W Z) z9L z9M zG.fChannels)
     (zyo : ZS Z 4 (fun r x=>r = e64 x) z9N z9O zG.fSwitches)
     (zyp : ZS Z 4 (fun r x=>r = e62 x) z9P z9Q zG.fLinks)
     (zyq : ZS Z 7 (y2J Z) z9R z9S zG.fVLs)
     (zyr : ZS Z 5 (fun r x=>r = y2Z x) z9T z9U zG.fHealth)
     (zys : ZS Z 3 (y2X Z) z9V z9W zG.fCauses)
     (zyt : ZS Z 4 (fun r x=>r = y30 x) z9X z9Y zG.fVersions)
     (zun : ZS Z 3 (fun r x=>r = e59 x) zbS zbT z1Q) :
    Calls Try.prog 21 #[(.agg #[(.slice z9J zG.fModules.length z9K),(.slice z9L zG.fChannels.length z9M),(.slice z9N zG.fSwitches.length z9O),(.slice z9P zG.fLinks.length z9Q),(.slice z9R zG.fVLs.length z9S),(.slice z9T zG.fHealth.length z9U),(.slice z9V zG.fCauses.length z9W),(.slice z9X zG.fVersions.length z9Y)]),(.slice zbS z1Q.length zbT)] w₀ fun e w'=>∃ zoe : Option Addr,∃ zof : Nat,e = .returned (.slice zoe r.length zof) ∧ True ∧ Hp [] w₀ w' [row (.slice zoe r.length zof) 3 1 (r.flatMap e3)]:=by
  unfold y3n at h
  refine Calls.yk (vs:=[(.agg #[(.slice z9J zG.fModules.length z9K),(.slice z9L zG.fChannels.length z9M),(.slice z9N zG.fSwitches.length z9O),(.slice z9P zG.fLinks.length z9Q),(.slice z9R zG.fVLs.length z9S),(.slice z9T zG.fHealth.length z9U),(.slice z9V zG.fCauses.length z9W),(.slice z9X zG.fVersions.length z9Y)]),(.slice zbS z1Q.length zbT)]) (pre:=[]) (env:=[(0,(.agg #[(.slice z9J zG.fModules.length z9K),(.slice z9L zG.fChannels.length z9M),(.slice z9N zG.fSwitches.length z9O),(.slice z9P zG.fLinks.length z9Q),(.slice z9R zG.fVLs.length z9S),(.slice z9T zG.fHealth.length z9U),(.slice z9V zG.fCauses.length z9W),(.slice z9X zG.fVersions.length z9Y)])),(1,(.slice zbS z1Q.length zbT))]) Try.func21 rfl Try.ntmps21 rfl (Hp.nil w₀ _) rfl ?_
  refine WC.b (WC.a ?_)
  refine WL.new (dd:=2) rfl rfl rfl (y2g (cs:=[(.slice z9J zG.fModules.length z9K),(.slice z9L zG.fChannels.length z9M),(.slice z9N zG.fSwitches.length z9O),(.slice z9P zG.fLinks.length z9Q),(.slice z9R zG.fVLs.length z9S),(.slice z9T zG.fHealth.length z9U),(.slice z9V zG.fCauses.length z9W),(.slice z9X zG.fVersions.length z9Y)]) rfl rfl) ?_
  intro zgd _
  refine WL.pu rfl (WL.nil (WX.a (WC.b (WC.a (WL.pu rfl (WL.nil (WX.a ?_)))))))
  obtain ⟨z7O,zuo,h⟩:=y19 h
  refine WC.y4e (fun (z6J : List Int) (zbU : Option Addr) (zbV : Nat)=>(z7O z6J = some r)) (fun (z6J : List Int) (zbU : Option Addr) (zbV : Nat)=>[(5,(.slice zbU z6J.length zbV))]) (fun (z6J : List Int) (zbU : Option Addr) (zbV : Nat)=>[row (.slice zbU z6J.length zbV) 3 1 (z6J.flatMap e3)]) ?_ ?_
  · skip
    refine WC.b (WC.a (WL.pu rfl ?_))
    refine WL.a (d:=9) rfl rfl rfl (yU Try.underlying55 rfl) ?_
    refine WL.pu rfl (WL.nil (WX.a (WC.block ?_)))
    refine WC.nilRow 3 1 ?_
    refine WC.y7b (fun (zbW : Nat) (z2q : List Int) (z2b : Int) (z8o : Option Addr) (z8p : Nat)=>(y26 z1Q zG z7O zbW z2q z2b = some r)) (fun (zbW : Nat) (z2q : List Int) (z2b : Int) (z8o : Option Addr) (z8p : Nat)=>[(2,(.pointer (some ⟨zgd,0,none⟩))),(5,(.slice z8o z2q.length z8p)),(8,(.slice zbS z1Q.length zbT)),(9,(.int .i64 ((z1Q.length : Nat) : Int))),(10,(.int .i64 z2b))]) (fun (zbW : Nat) (z2q : List Int) (z2b : Int) (z8o : Option Addr) (z8p : Nat)=>[row (.slice z8o z2q.length z8p) 3 1 (z2q.flatMap e3),stb zgd 31 [(.slice z9J zG.fModules.length z9K),(.slice z9L zG.fChannels.length z9M),(.slice z9N zG.fSwitches.length z9O),(.slice z9P zG.fLinks.length z9Q),(.slice z9R zG.fVLs.length z9S),(.slice z9T zG.fHealth.length z9U),(.slice z9V zG.fCauses.length z9W),(.slice z9X zG.fVersions.length z9Y)]]) (fun (zbW : Nat) (z2q : List Int) (z2b : Int) (z8o : Option Addr) (z8p : Nat)=>zbW) ⟨yz,([] : List Int),0,none,0⟩ h (.cons rfl (.cons rfl (.cons rfl (.cons rfl (.cons rfl .nil))))) (.cons .here (.cons .here .nil)) ?_
    rintro zbW z2q z2b z8o z8p h
    obtain ⟨zjU,rfl⟩:=y5p h
    rw [y26] at h
    refine WC.b (WC.a (WL.pu rfl (WL.nil (WX.a (WC.b ?_)))))
    refine WC.cond rfl (fun zjV=>?_) (fun zjV=>?_)
    · replace h:=yl h zjV
      refine WC.skip (WX.a ?_)
      obtain ⟨zgc,zup,h⟩:=y19 h
      refine WC.y4e (fun (z5w : List Int) (zbX : Option Addr) (zbY : Nat)=>(zgc z5w = some r)) (fun (z5w : List Int) (zbX : Option Addr) (zbY : Nat)=>[(2,(.pointer (some ⟨zgd,0,none⟩))),(5,(.slice zbX z5w.length zbY)),(8,(.slice zbS z1Q.length zbT)),(9,(.int .i64 ((z1Q.length : Nat) : Int))),(10,(.int .i64 z2b))]) (fun (z5w : List Int) (zbX : Option Addr) (zbY : Nat)=>[row (.slice zbX z5w.length zbY) 3 1 (z5w.flatMap e3),stb zgd 31 [(.slice z9J zG.fModules.length z9K),(.slice z9L zG.fChannels.length z9M),(.slice z9N zG.fSwitches.length z9O),(.slice z9P zG.fLinks.length z9Q),(.slice z9R zG.fVLs.length z9S),(.slice z9T zG.fHealth.length z9U),(.slice z9V zG.fCauses.length z9W),(.slice z9X zG.fVersions.length z9Y)]]) ?_ ?_
      · skip
        refine WC.block (WC.b ?_)
        obtain ⟨zuq,h⟩:=yi h
        refine WC.a ?_
        refine WL.znth (dd:=12) rfl rfl (Z:=Z) (Pr:=(fun r x=>r = e59 x)) y5M rfl rfl zun zuq ?_
        rintro zyu zyv zur zyw rfl
        refine WL.a (d:=13) rfl rfl rfl (yD y5N rfl (y3t hz.pv zur) rfl) ?_
        refine WL.new (dd:=7) rfl rfl rfl (y1U (cs:=[(.int .i64 0),(.int .i64 0),(.int .i64 0)]) y7f rfl) ?_
        intro zyx _
        refine WL.y1r rfl rfl (y1K y7N rfl rfl rfl .here rfl rfl rfl) ?_
        refine WL.nil (WX.a (WC.b (WC.a ?_)))
        refine WL.a (d:=14) rfl rfl rfl (ya y4r rfl rfl) ?_
        refine WL.a (d:=15) rfl rfl rfl (yb yg rfl (yc .here rfl)) ?_
        refine WL.a (d:=16) rfl rfl rfl (ya y3V rfl rfl) ?_
        refine WL.a (d:=17) rfl rfl rfl (yb y3W rfl (yc .h2 rfl)) ?_
        refine WL.a (d:=18) rfl rfl rfl (yU Try.underlying22 rfl) ?_
        refine WL.pu rfl (WL.nil (WX.a ?_))
        refine WC.cond rfl (fun zjW=>?_) (fun zjW=>?_)
        · replace h:=yl h zjW
          obtain ⟨zus,h⟩:=yi h
          refine WC.a (WL.pu rfl ?_)
          refine WL.a (d:=21) rfl rfl rfl (ya y4r rfl rfl) ?_
          refine WL.a (d:=22) rfl rfl rfl (yb yg rfl (yc .here rfl)) ?_
          refine WL.new (dd:=23) rfl rfl rfl (yZ (cs:=([((nth z1Q z2b).fNext)] : List Int).flatMap e3) y5d (Eos.parts (l:=[.tmp 22]) (.cons rfl .nil) [0]) (fun _=>by kernel_rfl) rfl (by unfold maxLen; omega)) ?_
          intro zyy _
          refine WL.eff (d:=24) rfl rfl rfl (y46 (enc:=e3) (l1:=z2q) (l2:=([((nth z1Q z2b).fNext)] : List Int)) y5d rfl rfl .h2 (fun _=>rfl) rfl rfl (y5b .here) (y4q e3_oc _) zus) ?_
          rintro ⟨zut,zuu⟩ _
          refine WL.pu rfl (WL.nil (WX.yf ?_))
          exact WX.mid (G:=List Int × Option Addr × Nat) ⟨(z2q ++ ([((nth z1Q z2b).fNext)] : List Int)),zut,zuu⟩ h (.cons rfl (.cons rfl (.cons rfl (.cons rfl (.cons rfl .nil))))) (.cons .here (.cons .h2 .nil))
        · replace h:=ym h zjW
          refine WC.skip (WX.yf ?_)
          exact WX.mid (G:=List Int × Option Addr × Nat) ⟨z2q,z8o,z8p⟩ h (.cons rfl (.cons rfl (.cons rfl (.cons rfl (.cons rfl .nil))))) (.cons .h1 (.cons .h1 .nil))
      · rintro z5w zbX zbY h
        replace h:=(zup z5w).symm.trans h
        refine WC.a (WL.pu rfl (WL.pu rfl (WL.nil ?_)))
        exact WX.round (G:=Nat × List Int × Int × Option Addr × Nat) ⟨zjU,z5w,(i64 (z2b + 1)),zbX,zbY⟩ h (Nat.lt_succ_self _) (.cons rfl (.cons rfl (.cons rfl (.cons rfl (.cons rfl .nil))))) (.cons .here (.cons .here .nil))
    · replace h:=ym h zjV
      refine WC.exit (WX.ye (WX.ye (WX.yA ?_)))
      exact WX.mid (G:=List Int × Option Addr × Nat) ⟨z2q,z8o,z8p⟩ h (.cons rfl .nil) (.cons .here .nil)
  · rintro z6J zbU zbV h
    replace h:=(zuo z6J).symm.trans h
    refine WC.b (WC.a (WL.pu rfl (WL.pu rfl (WL.nil (WX.a (WC.ret ?_))))))
    obtain rfl:=Option.some.inj h
    refine WX.yh Try.results21 (.tmp rfl .nil) (fun w hw=>?_)
    exact ⟨zbU,zbV,y12 rfl,trivial,hw.sub (.cons .here .nil)⟩
end Go.Proofs.Ytinchjigeakocaa

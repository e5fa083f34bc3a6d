/- A part of this claim's proof: models of functions, walks, plain laws. No conditions. -/
import Derived.Test.YtinchjigeakocaaW31a
namespace Go.Proofs.Ytinchjigeakocaa
open Go Go.RowKit Sep
set_option linter.all false
set_option maxRecDepth 30000
set_option maxHeartbeats 4000000
def y1J (z9 : List zSt) (zC : Sapi_Config) (z70 : Option Bool) : Nat → Int → Option Bool
  | 0,_=>none
  | zhh + 1,ze=>if decide (ze < ((z9.length : Nat) : Int)) then chk ((0 : Int) ≤ ze ∧ ze < ((z9.length : Nat) : Int)) (chk (((((((decide (((nth z9 ze).fTime) < 0)) || (decide (((nth z9 ze).fTime) > 536870912))) || (decide (((nth z9 ze).fVL) < 0))) || (decide (((nth z9 ze).fVL) ≥ ((zC.fVLs.length : Nat) : Int)))) || (decide (((nth z9 ze).fSize) < 1))) || (decide (((nth z9 ze).fSize) > 72))) = false → ((decide (ze > 0)) = true → ((0 : Int) ≤ (i64 (ze - 1)) ∧ (i64 (ze - 1)) < ((z9.length : Nat) : Int)))) (if ((((((decide (((nth z9 ze).fTime) < 0)) || (decide (((nth z9 ze).fTime) > 536870912))) || (decide (((nth z9 ze).fVL) < 0))) || (decide (((nth z9 ze).fVL) ≥ ((zC.fVLs.length : Nat) : Int)))) || (decide (((nth z9 ze).fSize) < 1))) || (decide (((nth z9 ze).fSize) > 72))) || ((decide (ze > 0)) && (decide (((nth z9 (i64 (ze - 1))).fTime) > ((nth z9 ze).fTime)))) then some false else y1J z9 zC z70 zhh (i64 (ze + 1)))) else z70
theorem y5h {n : Nat} {z9 : List zSt} {zC : Sapi_Config} {z70 : Option Bool} {ze : Int} {r : Bool} (h : y1J z9 zC z70 n ze = some r) : ∃ m,n = m + 1:=by
  cases n with
  | zero=>cases h
  | succ m=>exact ⟨m,rfl⟩
def y3a (zC : Sapi_Config) (z9 : List zSt) : Option Bool :=
  jp0 (some (decide (((z9.length : Nat) : Int) ≤ 4000))) fun z70=>y1J z9 zC z70 yz 0
set_option maxRecDepth 20000 in
theorem y7h (Z : Zp) (zaH : Option Addr) (zaI : Nat) (zaJ : Option Addr) (zaK : Nat) (zaL : Option Addr) (zaM : Nat) (zaN : Option Addr) (zaO : Nat) (zaP : Option Addr) (zaQ : Nat) (zaR : Option Addr) (zaS : Nat) (zaT : Option Addr) (zaU : Nat) (zaV : Option Addr) (zaW : Nat) (z2c : Option Addr) (z2d : Nat) (zC : Sapi_Config) (z9 : List zSt) (r : Bool)
     (h : y3a zC z9 = some r) (w₀ : World) (hz : PZ [] w₀ Z)
     (zwj : ZS Z 4 (y2x Z) zaH zaI zC.fModules)
     (zwk : ZS Z 4 (y2W Z) zaJ zaK zC.fChannels)
     (zwl : ZS Z 4 (fun r x=>r = e64 x) zaL zaM zC.fSwitches)
     (zwm : ZS Z 4 (fun r x=>r = e62 x) zaN zaO zC.fLinks)
     (zwn : ZS Z 7 (y2J Z) zaP zaQ zC.fVLs)
     (zwo : ZS Z 5 (fun r x=>r = y2Z x) zaR zaS zC.fHealth)
     (zwp : ZS Z 3 (y2X Z) zaT zaU zC.fCauses)
     (zwq : ZS Z 4 (fun r x=>r = y30 x) zaV zaW zC.fVersions)
     (zly : ZS Z 3 (fun r x=>r = e53 x) z2c z2d z9) :
    Calls Try.prog 24 #[(.agg #[(.slice zaH zC.fModules.length zaI),(.slice zaJ zC.fChannels.length zaK),(.slice zaL zC.fSwitches.length zaM),(.slice zaN zC.fLinks.length zaO),(.slice zaP zC.fVLs.length zaQ),(.slice zaR zC.fHealth.length zaS),(.slice zaT zC.fCauses.length zaU),(.slice zaV zC.fVersions.length zaW)]),(.slice z2c z9.length z2d)] w₀ fun e w'=>e = .returned (.bool r) ∧ Hp [] w₀ w' []:=by
  unfold y3a at h
  refine Calls.yk (vs:=[(.agg #[(.slice zaH zC.fModules.length zaI),(.slice zaJ zC.fChannels.length zaK),(.slice zaL zC.fSwitches.length zaM),(.slice zaN zC.fLinks.length zaO),(.slice zaP zC.fVLs.length zaQ),(.slice zaR zC.fHealth.length zaS),(.slice zaT zC.fCauses.length zaU),(.slice zaV zC.fVersions.length zaW)]),(.slice z2c z9.length z2d)]) (pre:=[]) (env:=[(0,(.agg #[(.slice zaH zC.fModules.length zaI),(.slice zaJ zC.fChannels.length zaK),(.slice zaL zC.fSwitches.length zaM),(.slice zaN zC.fLinks.length zaO),(.slice zaP zC.fVLs.length zaQ),(.slice zaR zC.fHealth.length zaS),(.slice zaT zC.fCauses.length zaU),(.slice zaV zC.fVersions.length zaW)])),(1,(.slice z2c z9.length z2d))]) Try.func24 rfl Try.ntmps24 rfl (Hp.nil w₀ _) rfl ?_
  refine WC.b (WC.a ?_)
  refine WL.new (dd:=2) rfl rfl rfl (y2g (cs:=[(.slice zaH zC.fModules.length zaI),(.slice zaJ zC.fChannels.length zaK),(.slice zaL zC.fSwitches.length zaM),(.slice zaN zC.fLinks.length zaO),(.slice zaP zC.fVLs.length zaQ),(.slice zaR zC.fHealth.length zaS),(.slice zaT zC.fCauses.length zaU),(.slice zaV zC.fVersions.length zaW)]) rfl rfl) ?_
  intro z71 _
  refine WL.pu rfl (WL.nil (WX.a ?_))
  obtain ⟨z70,zqv,h⟩:=y2U h
  refine WC.y2v ((z70 = some r)) ([(1,(.slice z2c z9.length z2d))]) ([]) ?_ ?_
  · skip
    refine WC.b (WC.a (WL.pu rfl ?_))
    refine WL.a (d:=8) rfl rfl rfl (yU Try.underlying33 rfl) ?_
    refine WL.pu rfl (WL.nil (WX.a (WC.block ?_)))
    refine WC.y45 (fun (zaX : Nat) (ze : Int)=>(y1J z9 zC z70 zaX ze = some r)) (fun (zaX : Nat) (ze : Int)=>[(1,(.slice z2c z9.length z2d)),(2,(.pointer (some ⟨z71,0,none⟩))),(7,(.slice z2c z9.length z2d)),(8,(.int .i64 ((z9.length : Nat) : Int))),(9,(.int .i64 ze))]) (fun (zaX : Nat) (ze : Int)=>[stb z71 31 [(.slice zaH zC.fModules.length zaI),(.slice zaJ zC.fChannels.length zaK),(.slice zaL zC.fSwitches.length zaM),(.slice zaN zC.fLinks.length zaO),(.slice zaP zC.fVLs.length zaQ),(.slice zaR zC.fHealth.length zaS),(.slice zaT zC.fCauses.length zaU),(.slice zaV zC.fVersions.length zaW)]]) (fun (zaX : Nat) (ze : Int)=>zaX) ⟨yz,0⟩ h (.cons rfl (.cons rfl (.cons rfl (.cons rfl (.cons rfl .nil))))) (.cons .here .nil) ?_
    rintro zaX ze h
    obtain ⟨zhh,rfl⟩:=y5h h
    rw [y1J] at h
    refine WC.b (WC.a (WL.pu rfl (WL.nil (WX.a (WC.b ?_)))))
    refine WC.cond rfl (fun zhi=>?_) (fun zhi=>?_)
    · replace h:=yl h zhi
      refine WC.skip (WX.a (WC.b (WC.block (WC.b ?_))))
      obtain ⟨zqw,h⟩:=yi h
      refine WC.a (WL.pu rfl ?_)
      refine WL.znth (dd:=12) rfl rfl (Z:=Z) (Pr:=(fun r x=>r = e53 x)) y4y rfl rfl zly zqw ?_
      rintro zwr zws zqx zwt rfl
      refine WL.a (d:=13) rfl rfl rfl (yD y6V rfl (y3t hz.pv zqx) rfl) ?_
      refine WL.new (dd:=6) rfl rfl rfl (y1U (cs:=[(.int .i64 0),(.int .i64 0),(.int .i64 0)]) y6d rfl) ?_
      intro zdx _
      refine WL.pu rfl ?_
      refine WL.y1r rfl rfl (y1K y6W rfl rfl rfl .here rfl rfl rfl) ?_
      refine WL.nil (WX.a (WC.b ?_))
      obtain ⟨zqy,h⟩:=yi h
      refine WC.yV (fun i=>[].contains i) [] rfl ?_
      refine WD.a (i:=0) (d:=14) (by kernel_rfl) rfl (z2 (by kernel_rfl)) (z3 (by kernel_rfl)) rfl rfl rfl (fun _=>ya y4f rfl rfl) ?_
      refine WD.e (i:=1) (d:=15) (by kernel_rfl) rfl (z2 (by kernel_rfl)) (z3 (by kernel_rfl)) rfl rfl rfl (yb yg rfl (yc .here rfl)) ?_
      refine WD.a (i:=2) (d:=16) (by kernel_rfl) rfl (z2 (by kernel_rfl)) (z3 (by kernel_rfl)) rfl rfl rfl (fun _=>y3r rfl rfl) ?_
      refine WD.a (i:=3) (d:=17) (by kernel_rfl) rfl (z2 (by kernel_rfl)) (z3 (by kernel_rfl)) rfl rfl rfl (fun _=>q_m rfl) ?_
      refine WD.mid (fuel':=38) [(1,(.slice z2c z9.length z2d)),(2,(.pointer (some ⟨z71,0,none⟩))),(7,(.slice z2c z9.length z2d)),(8,(.int .i64 ((z9.length : Nat) : Int))),(9,(.int .i64 ze)),(6,(.pointer (some ⟨zdx,0,none⟩))),(5,(.int .i64 ze)),(17,(.bool (decide (((nth z9 ze).fTime) < 0)))),(21,(.bool ((decide (((nth z9 ze).fTime) < 0)) || (decide (((nth z9 ze).fTime) > 536870912)))))] (y1j 46 [7,6,5,4,3,2,1,0]) ?_ (fun zlz=>?_)
      rotate_left
      · rcases Bool.eq_false_or_eq_true (decide (((nth z9 ze).fTime) < 0)) with hb' | hb'
        · have zhj:=hb'; clear hb'
          refine WD.pin (i:=17) rfl zhj ?_
          refine WD.b (i:=4) (d:=18) (by kernel_rfl) rfl (z2 (by kernel_rfl)) (z3 (by kernel_rfl)) rfl rfl rfl ?_
          refine WD.b (i:=5) (d:=19) (by kernel_rfl) rfl (z2 (by kernel_rfl)) (z3 (by kernel_rfl)) rfl rfl rfl ?_
          refine WD.b (i:=6) (d:=20) (by kernel_rfl) rfl (z2 (by kernel_rfl)) (z3 (by kernel_rfl)) rfl rfl rfl ?_
          refine WD.a (i:=7) (d:=21) (by kernel_rfl) rfl (z2 (by kernel_rfl)) (z3 (by kernel_rfl)) rfl rfl rfl (fun _=>y1y rfl rfl) ?_
          refine WD.yK (.cons .here (.cons .here .nil)) ?_ zlz
          exact (.cons rfl (.cons rfl (.cons rfl (.cons rfl (.cons rfl (.cons rfl (.cons rfl (.cons (zr (Eq.symm zhj)) (.cons (zr (y2k zhj)) .nil)))))))))
        · have zhk:=hb'; clear hb'
          refine WD.pin (i:=17) rfl zhk ?_
          refine WD.a (i:=4) (d:=18) (by kernel_rfl) rfl (z2 (by kernel_rfl)) (z3 (by kernel_rfl)) rfl rfl rfl (fun _=>ya y4f rfl rfl) ?_
          refine WD.e (i:=5) (d:=19) (by kernel_rfl) rfl (z2 (by kernel_rfl)) (z3 (by kernel_rfl)) rfl rfl rfl (yb yg rfl (yc .here rfl)) ?_
          refine WD.a (i:=6) (d:=20) (by kernel_rfl) rfl (z2 (by kernel_rfl)) (z3 (by kernel_rfl)) rfl rfl rfl (fun _=>y3K rfl rfl) ?_
          refine WD.a (i:=7) (d:=21) (by kernel_rfl) rfl (z2 (by kernel_rfl)) (z3 (by kernel_rfl)) rfl rfl rfl (fun _=>y1z rfl rfl) ?_
          refine WD.yK (.cons .here (.cons .here .nil)) ?_ zlz
          exact (.cons rfl (.cons rfl (.cons rfl (.cons rfl (.cons rfl (.cons rfl (.cons rfl (.cons (zr (Eq.symm zhk)) (.cons (zr (y2l zhk)) .nil)))))))))
      refine WD.d #[true,true,true,true,true,true,true,true,false,false,false,false,false,false,false,false,false,false,false,false,false,false,false,false,false,false,false,false,false,false,false,false,false,false,false,false,false,false,false,false,false,false,false,false,false,false] (by kernel_rfl) ?_
      refine WD.a (i:=8) (d:=22) (by kernel_rfl) rfl (z2 (by kernel_rfl)) (z3 (by kernel_rfl)) rfl rfl rfl (fun _=>q_m rfl) ?_
      refine WD.mid (fuel':=33) [(1,(.slice z2c z9.length z2d)),(2,(.pointer (some ⟨z71,0,none⟩))),(7,(.slice z2c z9.length z2d)),(8,(.int .i64 ((z9.length : Nat) : Int))),(9,(.int .i64 ze)),(6,(.pointer (some ⟨zdx,0,none⟩))),(5,(.int .i64 ze)),(22,(.bool ((decide (((nth z9 ze).fTime) < 0)) || (decide (((nth z9 ze).fTime) > 536870912))))),(26,(.bool (((decide (((nth z9 ze).fTime) < 0)) || (decide (((nth z9 ze).fTime) > 536870912))) || (decide (((nth z9 ze).fVL) < 0)))))] (y1j 46 [12,11,10,9,8,7,6,5,4,3,2,1,0]) ?_ (fun zlA=>?_)
      rotate_left
      · rcases Bool.eq_false_or_eq_true ((decide (((nth z9 ze).fTime) < 0)) || (decide (((nth z9 ze).fTime) > 536870912))) with hb' | hb'
        · have zhl:=hb'; clear hb'
          refine WD.pin (i:=22) rfl zhl ?_
          refine WD.b (i:=9) (d:=23) (by kernel_rfl) rfl (z2 (by kernel_rfl)) (z3 (by kernel_rfl)) rfl rfl rfl ?_
          refine WD.b (i:=10) (d:=24) (by kernel_rfl) rfl (z2 (by kernel_rfl)) (z3 (by kernel_rfl)) rfl rfl rfl ?_
          refine WD.b (i:=11) (d:=25) (by kernel_rfl) rfl (z2 (by kernel_rfl)) (z3 (by kernel_rfl)) rfl rfl rfl ?_
          refine WD.a (i:=12) (d:=26) (by kernel_rfl) rfl (z2 (by kernel_rfl)) (z3 (by kernel_rfl)) rfl rfl rfl (fun _=>y1y rfl rfl) ?_
          refine WD.yK (.cons .here (.cons .here .nil)) ?_ zlA
          exact (.cons rfl (.cons rfl (.cons rfl (.cons rfl (.cons rfl (.cons rfl (.cons rfl (.cons (zr (Eq.symm zhl)) (.cons (zr (y2k zhl)) .nil)))))))))
        · have zhm:=hb'; clear hb'
          refine WD.pin (i:=22) rfl zhm ?_
          refine WD.a (i:=9) (d:=23) (by kernel_rfl) rfl (z2 (by kernel_rfl)) (z3 (by kernel_rfl)) rfl rfl rfl (fun _=>ya y4J rfl rfl) ?_
          refine WD.e (i:=10) (d:=24) (by kernel_rfl) rfl (z2 (by kernel_rfl)) (z3 (by kernel_rfl)) rfl rfl rfl (yb yg rfl (yc .here rfl)) ?_
          refine WD.a (i:=11) (d:=25) (by kernel_rfl) rfl (z2 (by kernel_rfl)) (z3 (by kernel_rfl)) rfl rfl rfl (fun _=>y3r rfl rfl) ?_
          refine WD.a (i:=12) (d:=26) (by kernel_rfl) rfl (z2 (by kernel_rfl)) (z3 (by kernel_rfl)) rfl rfl rfl (fun _=>y1z rfl rfl) ?_
          refine WD.yK (.cons .here (.cons .here .nil)) ?_ zlA
          exact (.cons rfl (.cons rfl (.cons rfl (.cons rfl (.cons rfl (.cons rfl (.cons rfl (.cons (zr (Eq.symm zhm)) (.cons (zr (y2l zhm)) .nil)))))))))
      refine WD.d #[true,true,true,true,true,true,true,true,true,true,true,true,true,false,false,false,false,false,false,false,false,false,false,false,false,false,false,false,false,false,false,false,false,false,false,false,false,false,false,false,false,false,false,false,false,false] (by kernel_rfl) ?_
      refine WD.a (i:=13) (d:=27) (by kernel_rfl) rfl (z2 (by kernel_rfl)) (z3 (by kernel_rfl)) rfl rfl rfl (fun _=>q_m rfl) ?_
      refine WD.mid (fuel':=25) [(1,(.slice z2c z9.length z2d)),(2,(.pointer (some ⟨z71,0,none⟩))),(7,(.slice z2c z9.length z2d)),(8,(.int .i64 ((z9.length : Nat) : Int))),(9,(.int .i64 ze)),(6,(.pointer (some ⟨zdx,0,none⟩))),(5,(.int .i64 ze)),(27,(.bool (((decide (((nth z9 ze).fTime) < 0)) || (decide (((nth z9 ze).fTime) > 536870912))) || (decide (((nth z9 ze).fVL) < 0))))),(34,(.bool ((((decide (((nth z9 ze).fTime) < 0)) || (decide (((nth z9 ze).fTime) > 536870912))) || (decide (((nth z9 ze).fVL) < 0))) || (decide (((nth z9 ze).fVL) ≥ ((zC.fVLs.length : Nat) : Int))))))] (y1j 46 [20,19,18,17,16,15,14,13,12,11,10,9,8,7,6,5,4,3,2,1,0]) ?_ (fun zlB=>?_)
      rotate_left
      · rcases Bool.eq_false_or_eq_true (((decide (((nth z9 ze).fTime) < 0)) || (decide (((nth z9 ze).fTime) > 536870912))) || (decide (((nth z9 ze).fVL) < 0))) with hb' | hb'
        · have zhn:=hb'; clear hb'
          refine WD.pin (i:=27) rfl zhn ?_
          refine WD.b (i:=14) (d:=28) (by kernel_rfl) rfl (z2 (by kernel_rfl)) (z3 (by kernel_rfl)) rfl rfl rfl ?_
          refine WD.b (i:=15) (d:=29) (by kernel_rfl) rfl (z2 (by kernel_rfl)) (z3 (by kernel_rfl)) rfl rfl rfl ?_
          refine WD.b (i:=16) (d:=30) (by kernel_rfl) rfl (z2 (by kernel_rfl)) (z3 (by kernel_rfl)) rfl rfl rfl ?_
          refine WD.b (i:=17) (d:=31) (by kernel_rfl) rfl (z2 (by kernel_rfl)) (z3 (by kernel_rfl)) rfl rfl rfl ?_
          refine WD.b (i:=18) (d:=32) (by kernel_rfl) rfl (z2 (by kernel_rfl)) (z3 (by kernel_rfl)) rfl rfl rfl ?_
          refine WD.b (i:=19) (d:=33) (by kernel_rfl) rfl (z2 (by kernel_rfl)) (z3 (by kernel_rfl)) rfl rfl rfl ?_
          refine WD.a (i:=20) (d:=34) (by kernel_rfl) rfl (z2 (by kernel_rfl)) (z3 (by kernel_rfl)) rfl rfl rfl (fun _=>y1y rfl rfl) ?_
          refine WD.yK (.cons .here (.cons .here .nil)) ?_ zlB
          exact (.cons rfl (.cons rfl (.cons rfl (.cons rfl (.cons rfl (.cons rfl (.cons rfl (.cons (zr (Eq.symm zhn)) (.cons (zr (y2k zhn)) .nil)))))))))
        · have zho:=hb'; clear hb'
          refine WD.pin (i:=27) rfl zho ?_
          refine WD.a (i:=14) (d:=28) (by kernel_rfl) rfl (z2 (by kernel_rfl)) (z3 (by kernel_rfl)) rfl rfl rfl (fun _=>ya y4J rfl rfl) ?_
          refine WD.e (i:=15) (d:=29) (by kernel_rfl) rfl (z2 (by kernel_rfl)) (z3 (by kernel_rfl)) rfl rfl rfl (yb yg rfl (yc .here rfl)) ?_
          refine WD.a (i:=16) (d:=30) (by kernel_rfl) rfl (z2 (by kernel_rfl)) (z3 (by kernel_rfl)) rfl rfl rfl (fun _=>ya y6R rfl rfl) ?_
          refine WD.e (i:=17) (d:=31) (by kernel_rfl) rfl (z2 (by kernel_rfl)) (z3 (by kernel_rfl)) rfl rfl rfl (yb y6S rfl (yc .h1 rfl)) ?_
          refine WD.a (i:=18) (d:=32) (by kernel_rfl) rfl (z2 (by kernel_rfl)) (z3 (by kernel_rfl)) rfl rfl rfl (fun _=>yU Try.underlying26 rfl) ?_
          refine WD.a (i:=19) (d:=33) (by kernel_rfl) rfl (z2 (by kernel_rfl)) (z3 (by kernel_rfl)) rfl rfl rfl (fun _=>q_geq rfl rfl) ?_
          refine WD.a (i:=20) (d:=34) (by kernel_rfl) rfl (z2 (by kernel_rfl)) (z3 (by kernel_rfl)) rfl rfl rfl (fun _=>y1z rfl rfl) ?_
          refine WD.yK (.cons .here (.cons .here .nil)) ?_ zlB
          exact (.cons rfl (.cons rfl (.cons rfl (.cons rfl (.cons rfl (.cons rfl (.cons rfl (.cons (zr (Eq.symm zho)) (.cons (zr (y2l zho)) .nil)))))))))
      refine WD.d #[true,true,true,true,true,true,true,true,true,true,true,true,true,true,true,true,true,true,true,true,true,false,false,false,false,false,false,false,false,false,false,false,false,false,false,false,false,false,false,false,false,false,false,false,false,false] (by kernel_rfl) ?_
      refine WD.a (i:=21) (d:=35) (by kernel_rfl) rfl (z2 (by kernel_rfl)) (z3 (by kernel_rfl)) rfl rfl rfl (fun _=>q_m rfl) ?_
      refine WD.mid (fuel':=20) [(1,(.slice z2c z9.length z2d)),(2,(.pointer (some ⟨z71,0,none⟩))),(7,(.slice z2c z9.length z2d)),(8,(.int .i64 ((z9.length : Nat) : Int))),(9,(.int .i64 ze)),(6,(.pointer (some ⟨zdx,0,none⟩))),(5,(.int .i64 ze)),(35,(.bool ((((decide (((nth z9 ze).fTime) < 0)) || (decide (((nth z9 ze).fTime) > 536870912))) || (decide (((nth z9 ze).fVL) < 0))) || (decide (((nth z9 ze).fVL) ≥ ((zC.fVLs.length : Nat) : Int)))))),(39,(.bool (((((decide (((nth z9 ze).fTime) < 0)) || (decide (((nth z9 ze).fTime) > 536870912))) || (decide (((nth z9 ze).fVL) < 0))) || (decide (((nth z9 ze).fVL) ≥ ((zC.fVLs.length : Nat) : Int)))) || (decide (((nth z9 ze).fSize) < 1)))))] (y1j 46 [25,24,23,22,21,20,19,18,17,16,15,14,13,12,11,10,9,8,7,6,5,4,3,2,1,0]) ?_ (fun zlC=>?_)
      rotate_left
      · rcases Bool.eq_false_or_eq_true ((((decide (((nth z9 ze).fTime) < 0)) || (decide (((nth z9 ze).fTime) > 536870912))) || (decide (((nth z9 ze).fVL) < 0))) || (decide (((nth z9 ze).fVL) ≥ ((zC.fVLs.length : Nat) : Int)))) with hb' | hb'
        · have zhp:=hb'; clear hb'
          refine WD.pin (i:=35) rfl zhp ?_
          refine WD.b (i:=22) (d:=36) (by kernel_rfl) rfl (z2 (by kernel_rfl)) (z3 (by kernel_rfl)) rfl rfl rfl ?_
          refine WD.b (i:=23) (d:=37) (by kernel_rfl) rfl (z2 (by kernel_rfl)) (z3 (by kernel_rfl)) rfl rfl rfl ?_
          refine WD.b (i:=24) (d:=38) (by kernel_rfl) rfl (z2 (by kernel_rfl)) (z3 (by kernel_rfl)) rfl rfl rfl ?_
          refine WD.a (i:=25) (d:=39) (by kernel_rfl) rfl (z2 (by kernel_rfl)) (z3 (by kernel_rfl)) rfl rfl rfl (fun _=>y1y rfl rfl) ?_
          refine WD.yK (.cons .here (.cons .here .nil)) ?_ zlC
          exact (.cons rfl (.cons rfl (.cons rfl (.cons rfl (.cons rfl (.cons rfl (.cons rfl (.cons (zr (Eq.symm zhp)) (.cons (zr (y2k zhp)) .nil)))))))))
        · have zhq:=hb'; clear hb'
          refine WD.pin (i:=35) rfl zhq ?_
          refine WD.a (i:=22) (d:=36) (by kernel_rfl) rfl (z2 (by kernel_rfl)) (z3 (by kernel_rfl)) rfl rfl rfl (fun _=>ya y5Q rfl rfl) ?_
          refine WD.e (i:=23) (d:=37) (by kernel_rfl) rfl (z2 (by kernel_rfl)) (z3 (by kernel_rfl)) rfl rfl rfl (yb yg rfl (yc .here rfl)) ?_
          refine WD.a (i:=24) (d:=38) (by kernel_rfl) rfl (z2 (by kernel_rfl)) (z3 (by kernel_rfl)) rfl rfl rfl (fun _=>y3r rfl rfl) ?_
          refine WD.a (i:=25) (d:=39) (by kernel_rfl) rfl (z2 (by kernel_rfl)) (z3 (by kernel_rfl)) rfl rfl rfl (fun _=>y1z rfl rfl) ?_
          refine WD.yK (.cons .here (.cons .here .nil)) ?_ zlC
          exact (.cons rfl (.cons rfl (.cons rfl (.cons rfl (.cons rfl (.cons rfl (.cons rfl (.cons (zr (Eq.symm zhq)) (.cons (zr (y2l zhq)) .nil)))))))))
      refine WD.d #[true,true,true,true,true,true,true,true,true,true,true,true,true,true,true,true,true,true,true,true,true,true,true,true,true,true,false,false,false,false,false,false,false,false,false,false,false,false,false,false,false,false,false,false,false,false] (by kernel_rfl) ?_
      refine WD.a (i:=26) (d:=40) (by kernel_rfl) rfl (z2 (by kernel_rfl)) (z3 (by kernel_rfl)) rfl rfl rfl (fun _=>q_m rfl) ?_
      refine WD.mid (fuel':=15) [(1,(.slice z2c z9.length z2d)),(2,(.pointer (some ⟨z71,0,none⟩))),(7,(.slice z2c z9.length z2d)),(8,(.int .i64 ((z9.length : Nat) : Int))),(9,(.int .i64 ze)),(6,(.pointer (some ⟨zdx,0,none⟩))),(5,(.int .i64 ze)),(40,(.bool (((((decide (((nth z9 ze).fTime) < 0)) || (decide (((nth z9 ze).fTime) > 536870912))) || (decide (((nth z9 ze).fVL) < 0))) || (decide (((nth z9 ze).fVL) ≥ ((zC.fVLs.length : Nat) : Int)))) || (decide (((nth z9 ze).fSize) < 1))))),(44,(.bool ((((((decide (((nth z9 ze).fTime) < 0)) || (decide (((nth z9 ze).fTime) > 536870912))) || (decide (((nth z9 ze).fVL) < 0))) || (decide (((nth z9 ze).fVL) ≥ ((zC.fVLs.length : Nat) : Int)))) || (decide (((nth z9 ze).fSize) < 1))) || (decide (((nth z9 ze).fSize) > 72)))))] (y1j 46 [30,29,28,27,26,25,24,23,22,21,20,19,18,17,16,15,14,13,12,11,10,9,8,7,6,5,4,3,2,1,0]) ?_ (fun zlD=>?_)
      rotate_left
      · rcases Bool.eq_false_or_eq_true (((((decide (((nth z9 ze).fTime) < 0)) || (decide (((nth z9 ze).fTime) > 536870912))) || (decide (((nth z9 ze).fVL) < 0))) || (decide (((nth z9 ze).fVL) ≥ ((zC.fVLs.length : Nat) : Int)))) || (decide (((nth z9 ze).fSize) < 1))) with hb' | hb'
        · have zhr:=hb'; clear hb'
          refine WD.pin (i:=40) rfl zhr ?_
          refine WD.b (i:=27) (d:=41) (by kernel_rfl) rfl (z2 (by kernel_rfl)) (z3 (by kernel_rfl)) rfl rfl rfl ?_
          refine WD.b (i:=28) (d:=42) (by kernel_rfl) rfl (z2 (by kernel_rfl)) (z3 (by kernel_rfl)) rfl rfl rfl ?_
          refine WD.b (i:=29) (d:=43) (by kernel_rfl) rfl (z2 (by kernel_rfl)) (z3 (by kernel_rfl)) rfl rfl rfl ?_
          refine WD.a (i:=30) (d:=44) (by kernel_rfl) rfl (z2 (by kernel_rfl)) (z3 (by kernel_rfl)) rfl rfl rfl (fun _=>y1y rfl rfl) ?_
          refine WD.yK (.cons .here (.cons .here .nil)) ?_ zlD
          exact (.cons rfl (.cons rfl (.cons rfl (.cons rfl (.cons rfl (.cons rfl (.cons rfl (.cons (zr (Eq.symm zhr)) (.cons (zr (y2k zhr)) .nil)))))))))
        · have zhs:=hb'; clear hb'
          refine WD.pin (i:=40) rfl zhs ?_
          refine WD.a (i:=27) (d:=41) (by kernel_rfl) rfl (z2 (by kernel_rfl)) (z3 (by kernel_rfl)) rfl rfl rfl (fun _=>ya y5Q rfl rfl) ?_
          refine WD.e (i:=28) (d:=42) (by kernel_rfl) rfl (z2 (by kernel_rfl)) (z3 (by kernel_rfl)) rfl rfl rfl (yb yg rfl (yc .here rfl)) ?_
          refine WD.a (i:=29) (d:=43) (by kernel_rfl) rfl (z2 (by kernel_rfl)) (z3 (by kernel_rfl)) rfl rfl rfl (fun _=>y3K rfl rfl) ?_
          refine WD.a (i:=30) (d:=44) (by kernel_rfl) rfl (z2 (by kernel_rfl)) (z3 (by kernel_rfl)) rfl rfl rfl (fun _=>y1z rfl rfl) ?_
          refine WD.yK (.cons .here (.cons .here .nil)) ?_ zlD
          exact (.cons rfl (.cons rfl (.cons rfl (.cons rfl (.cons rfl (.cons rfl (.cons rfl (.cons (zr (Eq.symm zhs)) (.cons (zr (y2l zhs)) .nil)))))))))
      refine WD.d #[true,true,true,true,true,true,true,true,true,true,true,true,true,true,true,true,true,true,true,true,true,true,true,true,true,true,true,true,true,true,true,false,false,false,false,false,false,false,false,false,false,false,false,false,false,false] (by kernel_rfl) ?_
      refine WD.a (i:=31) (d:=45) (by kernel_rfl) rfl (z2 (by kernel_rfl)) (z3 (by kernel_rfl)) rfl rfl rfl (fun _=>q_m rfl) ?_
      refine WD.mid (fuel':=0) [(1,(.slice z2c z9.length z2d)),(2,(.pointer (some ⟨z71,0,none⟩))),(7,(.slice z2c z9.length z2d)),(8,(.int .i64 ((z9.length : Nat) : Int))),(9,(.int .i64 ze)),(45,(.bool ((((((decide (((nth z9 ze).fTime) < 0)) || (decide (((nth z9 ze).fTime) > 536870912))) || (decide (((nth z9 ze).fVL) < 0))) || (decide (((nth z9 ze).fVL) ≥ ((zC.fVLs.length : Nat) : Int)))) || (decide (((nth z9 ze).fSize) < 1))) || (decide (((nth z9 ze).fSize) > 72))))),(59,(.bool (((((((decide (((nth z9 ze).fTime) < 0)) || (decide (((nth z9 ze).fTime) > 536870912))) || (decide (((nth z9 ze).fVL) < 0))) || (decide (((nth z9 ze).fVL) ≥ ((zC.fVLs.length : Nat) : Int)))) || (decide (((nth z9 ze).fSize) < 1))) || (decide (((nth z9 ze).fSize) > 72))) || ((decide (ze > 0)) && (decide (((nth z9 (i64 (ze - 1))).fTime) > ((nth z9 ze).fTime)))))))] (y1j 46 [45,44,43,42,41,40,39,38,37,36,35,34,33,32,31,30,29,28,27,26,25,24,23,22,21,20,19,18,17,16,15,14,13,12,11,10,9,8,7,6,5,4,3,2,1,0]) ?_ (fun zlE=>?_)
      rotate_left
      · rcases Bool.eq_false_or_eq_true ((((((decide (((nth z9 ze).fTime) < 0)) || (decide (((nth z9 ze).fTime) > 536870912))) || (decide (((nth z9 ze).fVL) < 0))) || (decide (((nth z9 ze).fVL) ≥ ((zC.fVLs.length : Nat) : Int)))) || (decide (((nth z9 ze).fSize) < 1))) || (decide (((nth z9 ze).fSize) > 72))) with hb' | hb'
        · have zht:=hb'; clear hb'
          refine WD.pin (i:=45) rfl zht ?_
          refine WD.b (i:=32) (d:=46) (by kernel_rfl) rfl (z2 (by kernel_rfl)) (z3 (by kernel_rfl)) rfl rfl rfl ?_
          refine WD.b (i:=33) (d:=47) (by kernel_rfl) rfl (z2 (by kernel_rfl)) (z3 (by kernel_rfl)) rfl rfl rfl ?_
          refine WD.b (i:=34) (d:=48) (by kernel_rfl) rfl (z2 (by kernel_rfl)) (z3 (by kernel_rfl)) rfl rfl rfl ?_
          refine WD.b (i:=35) (d:=49) (by kernel_rfl) rfl (z2 (by kernel_rfl)) (z3 (by kernel_rfl)) rfl rfl rfl ?_
          refine WD.b (i:=36) (d:=50) (by kernel_rfl) rfl (z2 (by kernel_rfl)) (z3 (by kernel_rfl)) rfl rfl rfl ?_
          refine WD.b (i:=37) (d:=51) (by kernel_rfl) rfl (z2 (by kernel_rfl)) (z3 (by kernel_rfl)) rfl rfl rfl ?_
          refine WD.b (i:=38) (d:=52) (by kernel_rfl) rfl (z2 (by kernel_rfl)) (z3 (by kernel_rfl)) rfl rfl rfl ?_
          refine WD.b (i:=39) (d:=53) (by kernel_rfl) rfl (z2 (by kernel_rfl)) (z3 (by kernel_rfl)) rfl rfl rfl ?_
          refine WD.b (i:=40) (d:=54) (by kernel_rfl) rfl (z2 (by kernel_rfl)) (z3 (by kernel_rfl)) rfl rfl rfl ?_
          refine WD.b (i:=41) (d:=55) (by kernel_rfl) rfl (z2 (by kernel_rfl)) (z3 (by kernel_rfl)) rfl rfl rfl ?_
          refine WD.b (i:=42) (d:=56) (by kernel_rfl) rfl (z2 (by kernel_rfl)) (z3 (by kernel_rfl)) rfl rfl rfl ?_
          refine WD.b (i:=43) (d:=57) (by kernel_rfl) rfl (z2 (by kernel_rfl)) (z3 (by kernel_rfl)) rfl rfl rfl ?_
          refine WD.b (i:=44) (d:=58) (by kernel_rfl) rfl (z2 (by kernel_rfl)) (z3 (by kernel_rfl)) rfl rfl rfl ?_
          refine WD.a (i:=45) (d:=59) (by kernel_rfl) rfl (z2 (by kernel_rfl)) (z3 (by kernel_rfl)) rfl rfl rfl (fun _=>y1y rfl rfl) ?_
          refine WD.yK (.cons .here (.cons .here .nil)) ?_ zlE
          exact (.cons rfl (.cons rfl (.cons rfl (.cons rfl (.cons rfl (.cons (zr (Eq.symm zht)) (.cons (zr (y2k zht)) .nil)))))))
        · have zeV:=hb'; clear hb'
          have zqz:=zqy zeV
          refine WD.pin (i:=45) rfl zeV ?_
          refine WD.a (i:=32) (d:=46) (by kernel_rfl) rfl (z2 (by kernel_rfl)) (z3 (by kernel_rfl)) rfl rfl rfl (fun _=>q_m rfl) ?_
          refine WD.a (i:=33) (d:=47) (by kernel_rfl) rfl (z2 (by kernel_rfl)) (z3 (by kernel_rfl)) rfl rfl rfl (fun _=>y3K rfl rfl) ?_
          refine WD.a (i:=34) (d:=48) (by kernel_rfl) rfl (z2 (by kernel_rfl)) (z3 (by kernel_rfl)) rfl rfl rfl (fun _=>q_m rfl) ?_
          refine WD.mid (fuel':=1) [(1,(.slice z2c z9.length z2d)),(2,(.pointer (some ⟨z71,0,none⟩))),(7,(.slice z2c z9.length z2d)),(8,(.int .i64 ((z9.length : Nat) : Int))),(9,(.int .i64 ze)),(45,(.bool false)),(48,(.bool (decide (ze > 0)))),(58,(.bool ((decide (ze > 0)) && (decide (((nth z9 (i64 (ze - 1))).fTime) > ((nth z9 ze).fTime))))))] (y1j 46 [44,43,42,41,40,39,38,37,36,35,34,33,32,31,30,29,28,27,26,25,24,23,22,21,20,19,18,17,16,15,14,13,12,11,10,9,8,7,6,5,4,3,2,1,0]) ?_ (fun zlF=>?_)
          rotate_left
          · rcases Bool.eq_false_or_eq_true (decide (ze > 0)) with hb' | hb'
            · have zeW:=hb'; clear hb'
              have zqA:=zqz zeW
              refine WD.pin (i:=48) rfl zeW ?_
              refine WD.a (i:=35) (d:=49) (by kernel_rfl) rfl (z2 (by kernel_rfl)) (z3 (by kernel_rfl)) rfl rfl rfl (fun _=>q_m rfl) ?_
              refine WD.a (i:=36) (d:=50) (by kernel_rfl) rfl (z2 (by kernel_rfl)) (z3 (by kernel_rfl)) rfl rfl rfl (fun _=>q_m rfl) ?_
              refine WD.a (i:=37) (d:=51) (by kernel_rfl) rfl (z2 (by kernel_rfl)) (z3 (by kernel_rfl)) rfl rfl rfl (fun _=>y4Q rfl rfl rfl) ?_
              refine WD.znth (j:=38) (dd:=52) (by kernel_rfl) rfl (z2 (by kernel_rfl)) (z3 (by kernel_rfl)) rfl rfl (Z:=Z) (Pr:=(fun r x=>r = e53 x)) y4y rfl rfl zly zqA ?_
              rintro zwu zwv zqB zww rfl
              refine WD.a (i:=39) (d:=53) (by kernel_rfl) rfl (z2 (by kernel_rfl)) (z3 (by kernel_rfl)) rfl rfl rfl (fun _=>ya y4f rfl rfl) ?_
              refine WD.e (i:=40) (d:=54) (by kernel_rfl) rfl (z2 (by kernel_rfl)) (z3 (by kernel_rfl)) rfl rfl rfl (yb yg rfl (y2b hz.pv zqB rfl)) ?_
              refine WD.a (i:=41) (d:=55) (by kernel_rfl) rfl (z2 (by kernel_rfl)) (z3 (by kernel_rfl)) rfl rfl rfl (fun _=>ya y4f rfl rfl) ?_
              refine WD.e (i:=42) (d:=56) (by kernel_rfl) rfl (z2 (by kernel_rfl)) (z3 (by kernel_rfl)) rfl rfl rfl (yb yg rfl (yc .here rfl)) ?_
              refine WD.a (i:=43) (d:=57) (by kernel_rfl) rfl (z2 (by kernel_rfl)) (z3 (by kernel_rfl)) rfl rfl rfl (fun _=>y3K rfl rfl) ?_
              refine WD.a (i:=44) (d:=58) (by kernel_rfl) rfl (z2 (by kernel_rfl)) (z3 (by kernel_rfl)) rfl rfl rfl (fun _=>y1y rfl rfl) ?_
              refine WD.yK (.cons .here (.cons .here .nil)) ?_ zlF
              exact (.cons rfl (.cons rfl (.cons rfl (.cons rfl (.cons rfl (.cons rfl (.cons (zr (Eq.symm zeW)) (.cons (zr (y2u zeW)) .nil))))))))
            · have zhu:=hb'; clear hb'
              refine WD.pin (i:=48) rfl zhu ?_
              refine WD.b (i:=35) (d:=49) (by kernel_rfl) rfl (z2 (by kernel_rfl)) (z3 (by kernel_rfl)) rfl rfl rfl ?_
              refine WD.b (i:=36) (d:=50) (by kernel_rfl) rfl (z2 (by kernel_rfl)) (z3 (by kernel_rfl)) rfl rfl rfl ?_
              refine WD.b (i:=37) (d:=51) (by kernel_rfl) rfl (z2 (by kernel_rfl)) (z3 (by kernel_rfl)) rfl rfl rfl ?_
              refine WD.b (i:=38) (d:=52) (by kernel_rfl) rfl (z2 (by kernel_rfl)) (z3 (by kernel_rfl)) rfl rfl rfl ?_
              refine WD.b (i:=39) (d:=53) (by kernel_rfl) rfl (z2 (by kernel_rfl)) (z3 (by kernel_rfl)) rfl rfl rfl ?_
              refine WD.b (i:=40) (d:=54) (by kernel_rfl) rfl (z2 (by kernel_rfl)) (z3 (by kernel_rfl)) rfl rfl rfl ?_
              refine WD.b (i:=41) (d:=55) (by kernel_rfl) rfl (z2 (by kernel_rfl)) (z3 (by kernel_rfl)) rfl rfl rfl ?_
              refine WD.b (i:=42) (d:=56) (by kernel_rfl) rfl (z2 (by kernel_rfl)) (z3 (by kernel_rfl)) rfl rfl rfl ?_
              refine WD.b (i:=43) (d:=57) (by kernel_rfl) rfl (z2 (by kernel_rfl)) (z3 (by kernel_rfl)) rfl rfl rfl ?_
              refine WD.a (i:=44) (d:=58) (by kernel_rfl) rfl (z2 (by kernel_rfl)) (z3 (by kernel_rfl)) rfl rfl rfl (fun _=>y1z rfl rfl) ?_
              refine WD.yK (.cons .here (.cons .here .nil)) ?_ zlF
              exact (.cons rfl (.cons rfl (.cons rfl (.cons rfl (.cons rfl (.cons rfl (.cons (zr (Eq.symm zhu)) (.cons (zr (y2t zhu)) .nil))))))))
          refine WD.d #[true,true,true,true,true,true,true,true,true,true,true,true,true,true,true,true,true,true,true,true,true,true,true,true,true,true,true,true,true,true,true,true,true,true,true,true,true,true,true,true,true,true,true,true,true,false] (by kernel_rfl) ?_
          refine WD.a (i:=45) (d:=59) (by kernel_rfl) rfl (z2 (by kernel_rfl)) (z3 (by kernel_rfl)) rfl rfl rfl (fun _=>y1z rfl rfl) ?_
          refine WD.yK (.cons .here (.cons .here .nil)) ?_ zlE
          exact (.cons rfl (.cons rfl (.cons rfl (.cons rfl (.cons rfl (.cons (zr (Eq.symm zeV)) (.cons (zr (y2l zeV)) .nil)))))))
      refine WD.d #[true,true,true,true,true,true,true,true,true,true,true,true,true,true,true,true,true,true,true,true,true,true,true,true,true,true,true,true,true,true,true,true,true,true,true,true,true,true,true,true,true,true,true,true,true,true] (by kernel_rfl) ?_
      refine WD.done (by kernel_rfl) ?_
      refine WX.a ?_
      refine WC.cond rfl (fun zhv=>?_) (fun zhv=>?_)
      · replace h:=yl h zhv
        refine WC.b (WC.a (WL.pu rfl (WL.nil (WX.a (WC.ret (WX.yL (WX.yj (WX.yj (WX.yL (WX.yj ?_))))))))))
        obtain rfl:=Option.some.inj h
        refine WX.yh Try.results24 (.tmp rfl .nil) (fun w hw=>?_)
        exact ⟨y12 rfl,hw.sub .nil⟩
      · replace h:=ym h zhv
        refine WC.skip (WX.yf (WX.a (WC.a (WL.pu rfl (WL.pu rfl (WL.nil ?_))))))
        exact WX.round (G:=Nat × Int) ⟨zhh,(i64 (ze + 1))⟩ h (Nat.lt_succ_self _) (.cons rfl (.cons rfl (.cons rfl (.cons rfl (.cons rfl .nil))))) (.cons .h1 .nil)
    · replace h:=ym h zhi
      refine WC.exit (WX.ye (WX.ye (WX.yA ?_)))
      exact WX.mid (G:=Unit) () h (.cons rfl .nil) .nil
  · rintro  h
    replace h:=zqv.symm.trans h
    refine WC.b (WC.a (WL.pu rfl ?_))
    refine WL.a (d:=62) rfl rfl rfl (yU Try.underlying33 rfl) ?_
    refine WL.pu rfl (WL.pu rfl (WL.nil (WX.a (WC.ret ?_))))
    obtain rfl:=Option.some.inj h
    refine WX.yh Try.results24 (.tmp rfl .nil) (fun w hw=>?_)
    exact ⟨y12 rfl,hw.sub .nil⟩
def y2a (z8L : List Snetwork_event) : Option Int :=
  some ((z8L.length : Nat) : Int)
set_option maxRecDepth 20000 in
theorem y4B (Z : Zp) (zeX : Option Addr) (zeY : Nat) (z8L : List Snetwork_event) (r : Int)
     (h : y2a z8L = some r) (w₀ : World) (hz : PZ [] w₀ Z)
     (zwx : ZS Z 7 (fun r x=>r = yx x) zeX zeY z8L) :
    Calls Try.prog 86 #[(.slice zeX z8L.length zeY)] w₀ fun e w'=>e = .returned (.int .i64 r) ∧ Hp [] w₀ w' []:=by
  unfold y2a at h
  refine Calls.yk (vs:=[(.slice zeX z8L.length zeY)]) (pre:=[]) (env:=[(0,(.slice zeX z8L.length zeY))]) Try.func86 rfl Try.ntmps86 rfl (Hp.nil w₀ _) rfl ?_
  refine WC.b (WC.a (WL.pu rfl (WL.nil (WX.a (WC.b (WC.a (WL.pu rfl ?_)))))))
  refine WL.a (d:=4) rfl rfl rfl (yU Try.underlying79 rfl) ?_
  refine WL.pu rfl (WL.nil (WX.a (WC.ret ?_)))
  obtain rfl:=Option.some.inj h
  refine WX.yh Try.results86 (.tmp rfl .nil) (fun w hw=>?_)
  exact ⟨y12 rfl,hw.sub .nil⟩
def y3m (z8M : Int) : Option Bool :=
  some (decide (z8M ≠ z8M))
set_option maxRecDepth 20000 in
theorem y5t (Z : Zp)  (z8M : Int) (r : Bool)
     (h : y3m z8M = some r) (w₀ : World) (hz : PZ [] w₀ Z) :
    Calls Try.prog 58 #[(.int .i64 z8M)] w₀ fun e w'=>e = .returned (.bool r) ∧ Hp [] w₀ w' []:=by
  unfold y3m at h
  refine Calls.yk (vs:=[(.int .i64 z8M)]) (pre:=[]) (env:=[(0,(.int .i64 z8M))]) Try.func58 rfl Try.ntmps58 rfl (Hp.nil w₀ _) rfl ?_
  refine WC.b (WC.a (WL.pu rfl (WL.nil (WX.a (WC.b (WC.a (WL.pu rfl (WL.pu rfl (WL.pu rfl (WL.pu rfl (WL.nil (WX.a (WC.ret ?_)))))))))))))
  obtain rfl:=Option.some.inj h
  refine WX.yh Try.results58 (.tmp rfl .nil) (fun w hw=>?_)
  exact ⟨y12 rfl,hw.sub .nil⟩
def y1i (z7T : Int) (z7U : Int) : Option Int :=
  (y3m z7T).bind fun zlG=>(y3m z7U).bind fun zhw=>if zlG then if zhw then some 0 else some (-1) else if zhw then some 1 else if decide (z7T < z7U) then some (-1) else if decide (z7T > z7U) then some 1 else some 0
set_option maxRecDepth 20000 in
theorem y2d (Z : Zp)  (z7T : Int) (z7U : Int) (r : Int)
     (h : y1i z7T z7U = some r) (w₀ : World) (hz : PZ [] w₀ Z) :
    Calls Try.prog 45 #[(.int .i64 z7T),(.int .i64 z7U)] w₀ fun e w'=>e = .returned (.int .i64 r) ∧ Hp [] w₀ w' []:=by
  unfold y1i at h
  refine Calls.yk (vs:=[(.int .i64 z7T),(.int .i64 z7U)]) (pre:=[]) (env:=[(0,(.int .i64 z7T)),(1,(.int .i64 z7U))]) Try.func45 rfl Try.ntmps45 rfl (Hp.nil w₀ _) rfl ?_
  refine WC.b (WC.a (WL.pu rfl (WL.nil (WX.a (WC.b ?_)))))
  obtain ⟨zlG,zqC,h⟩:=zh h
  refine WC.a (WL.pu rfl ?_)
  refine WL.b (dd:=8) rfl rfl rfl (zz (l:=[.tmp 7]) Try.call58 (.cons rfl .nil)) .nil (cc hz .nil fun w pz ho=>y5t _ _ _ zqC w pz ) ?_
  refine WL.pu rfl (WL.nil (WX.a (WC.b ?_)))
  obtain ⟨zhw,zqD,h⟩:=zh h
  refine WC.a (WL.pu rfl ?_)
  refine WL.b (dd:=10) rfl rfl rfl (zz (l:=[.tmp 9]) Try.call58 (.cons rfl .nil)) .nil (cc hz .nil fun w pz ho=>y5t _ _ _ zqD w pz ) ?_
  refine WL.pu rfl (WL.nil (WX.a (WC.b (WC.b (WC.a (WL.pu rfl (WL.nil (WX.a ?_))))))))
  refine WC.cond rfl (fun zhx=>?_) (fun zhx=>?_)
  · replace h:=yl h zhx
    refine WC.b (WC.b (WC.a (WL.pu rfl (WL.nil (WX.a ?_)))))
    refine WC.cond rfl (fun zhy=>?_) (fun zhy=>?_)
    · replace h:=yl h zhy
      refine WC.b (WC.a (WL.pu rfl (WL.nil (WX.a (WC.ret (WX.yj (WX.yj ?_)))))))
      obtain rfl:=Option.some.inj h
      refine WX.yh Try.results45 (.tmp rfl .nil) (fun w hw=>?_)
      exact ⟨y12 rfl,hw.sub .nil⟩
    · replace h:=ym h zhy
      refine WC.skip (WX.a (WC.b (WC.a (WL.pu rfl (WL.nil (WX.a (WC.ret (WX.yj ?_))))))))
      obtain rfl:=Option.some.inj h
      refine WX.yh Try.results45 (.tmp rfl .nil) (fun w hw=>?_)
      exact ⟨y12 rfl,hw.sub .nil⟩
  · replace h:=ym h zhx
    refine WC.skip (WX.a (WC.b (WC.b (WC.a (WL.pu rfl (WL.nil (WX.a ?_)))))))
    refine WC.cond rfl (fun zhz=>?_) (fun zhz=>?_)
    · replace h:=yl h zhz
      refine WC.b (WC.a (WL.pu rfl (WL.nil (WX.a (WC.ret (WX.yj ?_))))))
      obtain rfl:=Option.some.inj h
      refine WX.yh Try.results45 (.tmp rfl .nil) (fun w hw=>?_)
      exact ⟨y12 rfl,hw.sub .nil⟩
    · replace h:=ym h zhz
      refine WC.skip (WX.a (WC.b (WC.b (WC.a (WL.pu rfl (WL.pu rfl (WL.pu rfl (WL.nil (WX.a ?_)))))))))
      refine WC.cond rfl (fun zhA=>?_) (fun zhA=>?_)
      · replace h:=yl h zhA
        refine WC.b (WC.a (WL.pu rfl (WL.nil (WX.a (WC.ret (WX.yj ?_))))))
        obtain rfl:=Option.some.inj h
        refine WX.yh Try.results45 (.tmp rfl .nil) (fun w hw=>?_)
        exact ⟨y12 rfl,hw.sub .nil⟩
      · replace h:=ym h zhA
        refine WC.skip (WX.a (WC.b (WC.b (WC.a (WL.pu rfl (WL.pu rfl (WL.pu rfl (WL.nil (WX.a ?_)))))))))
        refine WC.cond rfl (fun zhB=>?_) (fun zhB=>?_)
        · replace h:=yl h zhB
          refine WC.b (WC.a (WL.pu rfl (WL.nil (WX.a (WC.ret (WX.yj ?_))))))
          obtain rfl:=Option.some.inj h
          refine WX.yh Try.results45 (.tmp rfl .nil) (fun w hw=>?_)
          exact ⟨y12 rfl,hw.sub .nil⟩
        · replace h:=ym h zhB
          refine WC.skip (WX.a (WC.b (WC.a (WL.pu rfl (WL.nil (WX.a (WC.ret ?_)))))))
          obtain rfl:=Option.some.inj h
          refine WX.yh Try.results45 (.tmp rfl .nil) (fun w hw=>?_)
          exact ⟨y12 rfl,hw.sub .nil⟩
def y2y (z2I : List Int) (z72 : Option Int) : Nat → Int → Option Int
  | 0,_=>none
  | zhC + 1,z3a=>if decide (z3a < ((z2I.length : Nat) : Int)) then chk ((0 : Int) ≤ z3a ∧ z3a < ((z2I.length : Nat) : Int)) (if decide ((nth z2I z3a) ≠ 0) then some (nth z2I z3a) else y2y z2I z72 zhC (i64 (z3a + 1))) else z72
theorem y6h {n : Nat} {z2I : List Int} {z72 : Option Int} {z3a : Int} {r : Int} (h : y2y z2I z72 n z3a = some r) : ∃ m,n = m + 1:=by
  cases n with
  | zero=>cases h
  | succ m=>exact ⟨m,rfl⟩
def y3x (z2I : List Int) : Option Int :=
  jp0 (some 0) fun z72=>y2y z2I z72 yz 0
set_option maxRecDepth 20000 in
theorem y6I (Z : Zp) (zdy : Option Addr) (zdz : Nat) (z2I : List Int) (r : Int)
     (h : y3x z2I = some r) (w₀ : World) (hz : PZ [] w₀ Z)
     (zqE : ZS Z 1 (fun r x=>r = e3 x) zdy zdz z2I) :
    Calls Try.prog 44 #[(.slice zdy z2I.length zdz)] w₀ fun e w'=>e = .returned (.int .i64 r) ∧ Hp [] w₀ w' []:=by
  unfold y3x at h
  refine Calls.yk (vs:=[(.slice zdy z2I.length zdz)]) (pre:=[]) (env:=[(0,(.slice zdy z2I.length zdz))]) Try.func44 rfl Try.ntmps44 rfl (Hp.nil w₀ _) rfl ?_
  refine WC.b (WC.a (WL.pu rfl (WL.nil (WX.a (WC.b (WC.a (WL.pu rfl (WL.nil (WX.a ?_)))))))))
  obtain ⟨z72,zqF,h⟩:=y2U h
  refine WC.y2v ((z72 = some r)) ([(3,(.int .i64 0))]) ([]) ?_ ?_
  · skip
    refine WC.b (WC.a (WL.pu rfl ?_))
    refine WL.a (d:=7) rfl rfl rfl (yU Try.underlying56 rfl) ?_
    refine WL.pu rfl (WL.nil (WX.a (WC.block ?_)))
    refine WC.y45 (fun (zaY : Nat) (z3a : Int)=>(y2y z2I z72 zaY z3a = some r)) (fun (zaY : Nat) (z3a : Int)=>[(3,(.int .i64 0)),(6,(.slice zdy z2I.length zdz)),(7,(.int .i64 ((z2I.length : Nat) : Int))),(8,(.int .i64 z3a))]) (fun (zaY : Nat) (z3a : Int)=>[]) (fun (zaY : Nat) (z3a : Int)=>zaY) ⟨yz,0⟩ h (.cons rfl (.cons rfl (.cons rfl (.cons rfl .nil)))) .nil ?_
    rintro zaY z3a h
    obtain ⟨zhC,rfl⟩:=y6h h
    rw [y2y] at h
    refine WC.b (WC.a (WL.pu rfl (WL.nil (WX.a (WC.b ?_)))))
    refine WC.cond rfl (fun zhD=>?_) (fun zhD=>?_)
    · replace h:=yl h zhD
      refine WC.skip (WX.a (WC.b (WC.block (WC.b ?_))))
      obtain ⟨zqG,h⟩:=yi h
      refine WC.a ?_
      refine WL.znth (dd:=10) rfl rfl (Z:=Z) (Pr:=(fun r x=>r = e3 x)) y5d rfl rfl zqE zqG ?_
      rintro zwy zwz zqH zwA rfl
      refine WL.a (d:=11) rfl rfl rfl (yb yg rfl (rd_z hz.pv zqH rfl)) ?_
      refine WL.pu rfl (WL.nil (WX.a (WC.b (WC.a (WL.pu rfl (WL.pu rfl (WL.pu rfl (WL.nil (WX.a ?_)))))))))
      refine WC.cond rfl (fun zhE=>?_) (fun zhE=>?_)
      · replace h:=yl h zhE
        refine WC.b (WC.a (WL.pu rfl (WL.pu rfl (WL.nil (WX.a (WC.ret (WX.yL (WX.yj (WX.yj (WX.yL (WX.yj ?_)))))))))))
        obtain rfl:=Option.some.inj h
        refine WX.yh Try.results44 (.tmp rfl .nil) (fun w hw=>?_)
        exact ⟨y12 rfl,hw.sub .nil⟩
      · replace h:=ym h zhE
        refine WC.skip (WX.yf (WX.a (WC.a (WL.pu rfl (WL.pu rfl (WL.nil ?_))))))
        exact WX.round (G:=Nat × Int) ⟨zhC,(i64 (z3a + 1))⟩ h (Nat.lt_succ_self _) (.cons rfl (.cons rfl (.cons rfl (.cons rfl .nil)))) .nil
    · replace h:=ym h zhD
      refine WC.exit (WX.ye (WX.ye (WX.yA ?_)))
      exact WX.mid (G:=Unit) () h (.cons rfl .nil) .nil
  · rintro  h
    replace h:=zqF.symm.trans h
    refine WC.b (WC.a (WL.pu rfl (WL.pu rfl (WL.nil (WX.a (WC.ret ?_))))))
    obtain rfl:=Option.some.inj h
    refine WX.yh Try.results44 (.tmp rfl .nil) (fun w hw=>?_)
    exact ⟨y12 rfl,hw.sub .nil⟩
def y1X (z1k : Snetwork_event) (z1l : Snetwork_event) : Option Int :=
  (y1i z1k.fTime z1l.fTime).bind fun zhF=>(y1i z1k.fIn_ z1l.fIn_).bind fun zhG=>(y1i z1k.fVl z1l.fVl).bind fun zhH=>(y1i z1k.fSent z1l.fSent).bind fun zhI=>(y3x ([zhF,zhG,zhH,zhI] : List Int)).bind fun zlH=>some zlH
set_option maxRecDepth 20000 in
theorem y5z (Z : Zp)  (z1k : Snetwork_event) (z1l : Snetwork_event) (r : Int)
     (h : y1X z1k z1l = some r) (w₀ : World) (hz : PZ [] w₀ Z) :
    Calls Try.prog 89 #[(.agg #[(.int .i64 z1k.fTime),(.int .i64 z1k.fIn_),(.int .i64 z1k.fVl),(.int .i64 z1k.fSent),(.int .i64 z1k.fHop.fNode),(.int .i64 z1k.fHop.fNext),(.int .i64 z1k.fHop.fLink)]),(.agg #[(.int .i64 z1l.fTime),(.int .i64 z1l.fIn_),(.int .i64 z1l.fVl),(.int .i64 z1l.fSent),(.int .i64 z1l.fHop.fNode),(.int .i64 z1l.fHop.fNext),(.int .i64 z1l.fHop.fLink)])] w₀ fun e w'=>e = .returned (.int .i64 r) ∧ Hp [] w₀ w' []:=by
  unfold y1X at h
  refine Calls.yk (vs:=[(.agg #[(.int .i64 z1k.fTime),(.int .i64 z1k.fIn_),(.int .i64 z1k.fVl),(.int .i64 z1k.fSent),(.int .i64 z1k.fHop.fNode),(.int .i64 z1k.fHop.fNext),(.int .i64 z1k.fHop.fLink)]),(.agg #[(.int .i64 z1l.fTime),(.int .i64 z1l.fIn_),(.int .i64 z1l.fVl),(.int .i64 z1l.fSent),(.int .i64 z1l.fHop.fNode),(.int .i64 z1l.fHop.fNext),(.int .i64 z1l.fHop.fLink)])]) (pre:=[]) (env:=[(0,(.agg #[(.int .i64 z1k.fTime),(.int .i64 z1k.fIn_),(.int .i64 z1k.fVl),(.int .i64 z1k.fSent),(.int .i64 z1k.fHop.fNode),(.int .i64 z1k.fHop.fNext),(.int .i64 z1k.fHop.fLink)])),(1,(.agg #[(.int .i64 z1l.fTime),(.int .i64 z1l.fIn_),(.int .i64 z1l.fVl),(.int .i64 z1l.fSent),(.int .i64 z1l.fHop.fNode),(.int .i64 z1l.fHop.fNext),(.int .i64 z1l.fHop.fLink)]))]) Try.func89 rfl Try.ntmps89 rfl (Hp.nil w₀ _) rfl ?_
  refine WC.b (WC.a ?_)
  refine WL.new (dd:=2) rfl rfl rfl (y2g (cs:=[(.int .i64 z1k.fTime),(.int .i64 z1k.fIn_),(.int .i64 z1k.fVl),(.int .i64 z1k.fSent),(.int .i64 z1k.fHop.fNode),(.int .i64 z1k.fHop.fNext),(.int .i64 z1k.fHop.fLink)]) rfl rfl) ?_
  intro zwB _
  refine WL.new (dd:=3) rfl rfl rfl (y2g (cs:=[(.int .i64 z1l.fTime),(.int .i64 z1l.fIn_),(.int .i64 z1l.fVl),(.int .i64 z1l.fSent),(.int .i64 z1l.fHop.fNode),(.int .i64 z1l.fHop.fNext),(.int .i64 z1l.fHop.fLink)]) rfl rfl) ?_
  intro zwC _
  refine WL.pu rfl (WL.nil (WX.a (WC.b ?_)))
  obtain ⟨zhF,zqI,h⟩:=zh h
  obtain ⟨zhG,zqJ,h⟩:=zh h
  obtain ⟨zhH,zqK,h⟩:=zh h
  obtain ⟨zhI,zqL,h⟩:=zh h
  obtain ⟨zlH,zqM,h⟩:=zh h
  refine WC.yV (fun i=>[].contains i) [] rfl ?_
  refine WD.a (i:=0) (d:=5) (by kernel_rfl) rfl (z2 (by kernel_rfl)) (z3 (by kernel_rfl)) rfl rfl rfl (fun _=>ya y6e rfl rfl) ?_
  refine WD.e (i:=1) (d:=6) (by kernel_rfl) rfl (z2 (by kernel_rfl)) (z3 (by kernel_rfl)) rfl rfl rfl (yb yg rfl (yc .h1 rfl)) ?_
  refine WD.a (i:=2) (d:=7) (by kernel_rfl) rfl (z2 (by kernel_rfl)) (z3 (by kernel_rfl)) rfl rfl rfl (fun _=>ya y6e rfl rfl) ?_
  refine WD.e (i:=3) (d:=8) (by kernel_rfl) rfl (z2 (by kernel_rfl)) (z3 (by kernel_rfl)) rfl rfl rfl (yb yg rfl (yc .here rfl)) ?_
  refine WD.c (i:=4) (d:=9) (by kernel_rfl) rfl (z2 (by kernel_rfl)) (z3 (by kernel_rfl)) rfl rfl rfl (zz (l:=[.tmp 6,.tmp 8]) Try.call45 (.cons rfl (.cons rfl .nil))) (cc hz .nil fun w pz ho=>y2d _ _ _ _ zqI w pz ) ?_
  refine WD.a (i:=5) (d:=10) (by kernel_rfl) rfl (z2 (by kernel_rfl)) (z3 (by kernel_rfl)) rfl rfl rfl (fun _=>ya y8K rfl rfl) ?_
  refine WD.e (i:=6) (d:=11) (by kernel_rfl) rfl (z2 (by kernel_rfl)) (z3 (by kernel_rfl)) rfl rfl rfl (yb yg rfl (yc .h1 rfl)) ?_
  refine WD.a (i:=7) (d:=12) (by kernel_rfl) rfl (z2 (by kernel_rfl)) (z3 (by kernel_rfl)) rfl rfl rfl (fun _=>ya y8K rfl rfl) ?_
  refine WD.e (i:=8) (d:=13) (by kernel_rfl) rfl (z2 (by kernel_rfl)) (z3 (by kernel_rfl)) rfl rfl rfl (yb yg rfl (yc .here rfl)) ?_
  refine WD.c (i:=9) (d:=14) (by kernel_rfl) rfl (z2 (by kernel_rfl)) (z3 (by kernel_rfl)) rfl rfl rfl (zz (l:=[.tmp 11,.tmp 13]) Try.call45 (.cons rfl (.cons rfl .nil))) (cc hz .nil fun w pz ho=>y2d _ _ _ _ zqJ w pz ) ?_
  refine WD.a (i:=10) (d:=15) (by kernel_rfl) rfl (z2 (by kernel_rfl)) (z3 (by kernel_rfl)) rfl rfl rfl (fun _=>ya y8L rfl rfl) ?_
  refine WD.e (i:=11) (d:=16) (by kernel_rfl) rfl (z2 (by kernel_rfl)) (z3 (by kernel_rfl)) rfl rfl rfl (yb yg rfl (yc .h1 rfl)) ?_
  refine WD.a (i:=12) (d:=17) (by kernel_rfl) rfl (z2 (by kernel_rfl)) (z3 (by kernel_rfl)) rfl rfl rfl (fun _=>ya y8L rfl rfl) ?_
  refine WD.e (i:=13) (d:=18) (by kernel_rfl) rfl (z2 (by kernel_rfl)) (z3 (by kernel_rfl)) rfl rfl rfl (yb yg rfl (yc .here rfl)) ?_
  refine WD.c (i:=14) (d:=19) (by kernel_rfl) rfl (z2 (by kernel_rfl)) (z3 (by kernel_rfl)) rfl rfl rfl (zz (l:=[.tmp 16,.tmp 18]) Try.call45 (.cons rfl (.cons rfl .nil))) (cc hz .nil fun w pz ho=>y2d _ _ _ _ zqK w pz ) ?_
  refine WD.a (i:=15) (d:=20) (by kernel_rfl) rfl (z2 (by kernel_rfl)) (z3 (by kernel_rfl)) rfl rfl rfl (fun _=>ya y4K rfl rfl) ?_
  refine WD.e (i:=16) (d:=21) (by kernel_rfl) rfl (z2 (by kernel_rfl)) (z3 (by kernel_rfl)) rfl rfl rfl (yb yg rfl (yc .h1 rfl)) ?_
  refine WD.a (i:=17) (d:=22) (by kernel_rfl) rfl (z2 (by kernel_rfl)) (z3 (by kernel_rfl)) rfl rfl rfl (fun _=>ya y4K rfl rfl) ?_
  refine WD.e (i:=18) (d:=23) (by kernel_rfl) rfl (z2 (by kernel_rfl)) (z3 (by kernel_rfl)) rfl rfl rfl (yb yg rfl (yc .here rfl)) ?_
  refine WD.c (i:=19) (d:=24) (by kernel_rfl) rfl (z2 (by kernel_rfl)) (z3 (by kernel_rfl)) rfl rfl rfl (zz (l:=[.tmp 21,.tmp 23]) Try.call45 (.cons rfl (.cons rfl .nil))) (cc hz .nil fun w pz ho=>y2d _ _ _ _ zqL w pz ) ?_
  refine WD.new (i:=20) (dd:=25) rfl (by kernel_rfl) rfl rfl rfl (yZ (cs:=([zhF,zhG,zhH,zhI] : List Int).flatMap e3) y5d (Eos.parts (l:=[.tmp 9,.tmp 14,.tmp 19,.tmp 24]) (.cons rfl (.cons rfl (.cons rfl (.cons rfl .nil)))) [0,1,2,3]) (fun _=>by kernel_rfl) rfl (by unfold maxLen; omega)) (fun h'=>absurd h' (by decide)) ?_
  intro zwD _
  refine WD.c (i:=21) (d:=26) (by kernel_rfl) rfl (z2 (by kernel_rfl)) (z3 (by kernel_rfl)) rfl rfl rfl (zz (l:=[.tmp 25]) Try.call44 (.cons rfl .nil)) (ccl hz .nil (.cons .here .nil) fun w pz ho la=>y6I _ _ _ _ _ zqM w pz (ZA.row (la _ (.head _) _) (RR.y1b (enc:=e3) (fun _=>rfl) _) ⟨w,pz.1⟩)) ?_
  refine WD.a (i:=22) (d:=4) (by kernel_rfl) rfl (z2 (by kernel_rfl)) (z3 (by kernel_rfl)) rfl rfl rfl (fun _=>q_z rfl) ?_
  refine WD.done (by kernel_rfl) ?_
  refine WX.a (WC.ret ?_)
  obtain rfl:=Option.some.inj h
  refine WX.yh Try.results89 (.tmp rfl .nil) (fun w hw=>?_)
  exact ⟨y12 rfl,hw.sub .nil⟩
def y1u (z20 : List Snetwork_event) (z3B : Int) (z3C : Int) : Option Bool :=
  chk ((0 : Int) ≤ z3B ∧ z3B < ((z20.length : Nat) : Int)) (chk ((0 : Int) ≤ z3C ∧ z3C < ((z20.length : Nat) : Int)) ((y1X (⟨((nth z20 z3B).fTime),((nth z20 z3B).fIn_),((nth z20 z3B).fVl),((nth z20 z3B).fSent),(⟨(((nth z20 z3B).fHop).fNode),(((nth z20 z3B).fHop).fNext),(((nth z20 z3B).fHop).fLink)⟩ : Sapi_Hop)⟩ : Snetwork_event) (⟨((nth z20 z3C).fTime),((nth z20 z3C).fIn_),((nth z20 z3C).fVl),((nth z20 z3C).fSent),(⟨(((nth z20 z3C).fHop).fNode),(((nth z20 z3C).fHop).fNext),(((nth z20 z3C).fHop).fLink)⟩ : Sapi_Hop)⟩ : Snetwork_event)).bind fun zlI=>some (decide (zlI < 0))))
set_option maxRecDepth 20000 in
theorem y3y (Z : Zp) (zeZ : Option Addr) (zf0 : Nat) (z20 : List Snetwork_event) (z3B : Int) (z3C : Int) (r : Bool)
     (h : y1u z20 z3B z3C = some r) (w₀ : World) (hz : PZ [] w₀ Z)
     (zlJ : ZS Z 7 (fun r x=>r = yx x) zeZ zf0 z20) :
    Calls Try.prog 87 #[(.slice zeZ z20.length zf0),(.int .i64 z3B),(.int .i64 z3C)] w₀ fun e w'=>e = .returned (.bool r) ∧ Hp [] w₀ w' []:=by
  unfold y1u at h
  refine Calls.yk (vs:=[(.slice zeZ z20.length zf0),(.int .i64 z3B),(.int .i64 z3C)]) (pre:=[]) (env:=[(0,(.slice zeZ z20.length zf0)),(1,(.int .i64 z3B)),(2,(.int .i64 z3C))]) Try.func87 rfl Try.ntmps87 rfl (Hp.nil w₀ _) rfl ?_
  refine WC.b (WC.a (WL.pu rfl (WL.nil (WX.a (WC.b ?_)))))
  obtain ⟨zqN,h⟩:=yi h
  obtain ⟨zqO,h⟩:=yi h
  obtain ⟨zlI,zqP,h⟩:=zh h
  refine WC.yV (fun i=>[].contains i) [] rfl ?_
  refine WD.a (i:=0) (d:=7) (by kernel_rfl) rfl (z2 (by kernel_rfl)) (z3 (by kernel_rfl)) rfl rfl rfl (fun _=>q_m rfl) ?_
  refine WD.a (i:=1) (d:=8) (by kernel_rfl) rfl (z2 (by kernel_rfl)) (z3 (by kernel_rfl)) rfl rfl rfl (fun _=>q_m rfl) ?_
  refine WD.znth (j:=2) (dd:=9) (by kernel_rfl) rfl (z2 (by kernel_rfl)) (z3 (by kernel_rfl)) rfl rfl (Z:=Z) (Pr:=(fun r x=>r = yx x)) y4j rfl rfl zlJ zqN ?_
  rintro zwE zwF zqQ zwG rfl
  refine WD.e (i:=3) (d:=10) (by kernel_rfl) rfl (z2 (by kernel_rfl)) (z3 (by kernel_rfl)) rfl rfl rfl (yD za2 rfl (y3t hz.pv zqQ) rfl) ?_
  refine WD.a (i:=4) (d:=11) (by kernel_rfl) rfl (z2 (by kernel_rfl)) (z3 (by kernel_rfl)) rfl rfl rfl (fun _=>q_m rfl) ?_
  refine WD.a (i:=5) (d:=12) (by kernel_rfl) rfl (z2 (by kernel_rfl)) (z3 (by kernel_rfl)) rfl rfl rfl (fun _=>q_m rfl) ?_
  refine WD.znth (j:=6) (dd:=13) (by kernel_rfl) rfl (z2 (by kernel_rfl)) (z3 (by kernel_rfl)) rfl rfl (Z:=Z) (Pr:=(fun r x=>r = yx x)) y4j rfl rfl zlJ zqO ?_
  rintro zwH zwI zqR zwJ rfl
  refine WD.e (i:=7) (d:=14) (by kernel_rfl) rfl (z2 (by kernel_rfl)) (z3 (by kernel_rfl)) rfl rfl rfl (yD za2 rfl (y3t hz.pv zqR) rfl) ?_
  refine WD.c (i:=8) (d:=15) (by kernel_rfl) rfl (z2 (by kernel_rfl)) (z3 (by kernel_rfl)) rfl rfl rfl (zz (l:=[.tmp 10,.tmp 14]) Try.call89 (.cons rfl (.cons rfl .nil))) (cc hz .nil fun w pz ho=>y5z _ _ _ _ zqP w pz ) ?_
  refine WD.a (i:=9) (d:=16) (by kernel_rfl) rfl (z2 (by kernel_rfl)) (z3 (by kernel_rfl)) rfl rfl rfl (fun _=>y3r rfl rfl) ?_
  refine WD.a (i:=10) (d:=6) (by kernel_rfl) rfl (z2 (by kernel_rfl)) (z3 (by kernel_rfl)) rfl rfl rfl (fun _=>q_z rfl) ?_
  refine WD.done (by kernel_rfl) ?_
  refine WX.a (WC.ret ?_)
  obtain rfl:=Option.some.inj h
  refine WX.yh Try.results87 (.tmp rfl .nil) (fun w hw=>?_)
  exact ⟨y12 rfl,hw.sub .nil⟩
def y1v (z6 : List Snetwork_event) (zK : Int) (zs : Int) : Option (List Snetwork_event) :=
  chk ((0 : Int) ≤ zs ∧ zs < ((z6.length : Nat) : Int)) (chk ((0 : Int) ≤ zK ∧ zK < ((z6.length : Nat) : Int)) (chk ((0 : Int) ≤ zs ∧ zs < (((z6.set (zK : Int).toNat (⟨((nth z6 zs).fTime),((nth z6 zs).fIn_),((nth z6 zs).fVl),((nth z6 zs).fSent),(⟨(((nth z6 zs).fHop).fNode),(((nth z6 zs).fHop).fNext),(((nth z6 zs).fHop).fLink)⟩ : Sapi_Hop)⟩ : Snetwork_event)).length : Nat) : Int)) (some ((z6.set (zK : Int).toNat (⟨((nth z6 zs).fTime),((nth z6 zs).fIn_),((nth z6 zs).fVl),((nth z6 zs).fSent),(⟨(((nth z6 zs).fHop).fNode),(((nth z6 zs).fHop).fNext),(((nth z6 zs).fHop).fLink)⟩ : Sapi_Hop)⟩ : Snetwork_event)).set (zs : Int).toNat (⟨((nth z6 zK).fTime),((nth z6 zK).fIn_),((nth z6 zK).fVl),((nth z6 zK).fSent),(⟨(((nth z6 zK).fHop).fNode),(((nth z6 zK).fHop).fNext),(((nth z6 zK).fHop).fLink)⟩ : Sapi_Hop)⟩ : Snetwork_event)))))
set_option maxRecDepth 20000 in
theorem y3z (Z : Zp) (z73 : Option Addr) (z4t : Nat) (z6 : List Snetwork_event) (zK : Int) (zs : Int) (r : List Snetwork_event)
     (h : y1v z6 zK zs = some r) (w₀ : World) (hz : PZ (fps [row (.slice z73 z6.length z4t) 113 7 (z6.flatMap yx)]) w₀ Z)
    (hown : Hp (fps [row (.slice z73 z6.length z4t) 113 7 (z6.flatMap yx)]) w₀ w₀ [row (.slice z73 z6.length z4t) 113 7 (z6.flatMap yx)]) :
    Calls Try.prog 88 #[(.slice z73 z6.length z4t),(.int .i64 zK),(.int .i64 zs)] w₀ fun e w'=>e = .returned (.tuple #[]) ∧ (r.length = z6.length) ∧ Hp (fps [row (.slice z73 z6.length z4t) 113 7 (z6.flatMap yx)]) w₀ w' [row (.slice z73 r.length z4t) 113 7 (r.flatMap yx)]:=by
  unfold y1v at h
  refine Calls.yk (vs:=[(.slice z73 z6.length z4t),(.int .i64 zK),(.int .i64 zs)]) (pre:=[row (.slice z73 z6.length z4t) 113 7 (z6.flatMap yx)]) (env:=[(0,(.slice z73 z6.length z4t)),(1,(.int .i64 zK)),(2,(.int .i64 zs))]) Try.func88 rfl Try.ntmps88 rfl (hown) rfl ?_
  obtain ⟨zdA,h⟩:=yi h
  obtain ⟨z5A,h⟩:=yi h
  obtain ⟨zaZ,h⟩:=yi h
  refine WC.yV (fun i=>[13,15].contains i) [] rfl ?_
  refine WD.a (i:=0) (d:=6) (by kernel_rfl) rfl (z2 (by kernel_rfl)) (z3 (by kernel_rfl)) rfl rfl rfl (fun _=>q_m rfl) ?_
  refine WD.a (i:=1) (d:=7) (by kernel_rfl) rfl (z2 (by kernel_rfl)) (z3 (by kernel_rfl)) rfl rfl rfl (fun _=>q_m rfl) ?_
  refine WD.a (i:=2) (d:=8) (by kernel_rfl) rfl (z2 (by kernel_rfl)) (z3 (by kernel_rfl)) rfl rfl rfl (fun _=>q_m rfl) ?_
  refine WD.a (i:=3) (d:=9) (by kernel_rfl) rfl (z2 (by kernel_rfl)) (z3 (by kernel_rfl)) rfl rfl rfl (fun _=>q_m rfl) ?_
  refine WD.a (i:=4) (d:=10) (by kernel_rfl) rfl (z2 (by kernel_rfl)) (z3 (by kernel_rfl)) rfl rfl rfl (fun _=>q_m rfl) ?_
  refine WD.a (i:=5) (d:=11) (by kernel_rfl) rfl (z2 (by kernel_rfl)) (z3 (by kernel_rfl)) rfl rfl rfl (fun _=>q_m rfl) ?_
  refine WD.know (fun w hw=>Hp.y2p .here hw (by intro hz'; have:=zdA; rw [hz'] at this; omega)) ?_
  rintro ⟨zhJ,rfl⟩
  refine WD.a (i:=6) (d:=12) (by kernel_rfl) rfl (z2 (by kernel_rfl)) (z3 (by kernel_rfl)) rfl rfl rfl (fun _=>yr y4j rfl rfl zdA.1 zdA.2 y1c) ?_
  refine WD.e (i:=7) (d:=13) (by kernel_rfl) rfl (z2 (by kernel_rfl)) (z3 (by kernel_rfl)) rfl rfl rfl (y1P (cs:=(yx (nth z6 zs))) za2 rfl rfl (y23 .here (y1W (enc:=yx) (l:=z6) (i:=zs) (sz:=7) (fun _=>rfl) zdA.1 zdA.2))) ?_
  refine WD.a (i:=8) (d:=14) (by kernel_rfl) rfl (z2 (by kernel_rfl)) (z3 (by kernel_rfl)) rfl rfl rfl (fun _=>q_m rfl) ?_
  refine WD.a (i:=9) (d:=15) (by kernel_rfl) rfl (z2 (by kernel_rfl)) (z3 (by kernel_rfl)) rfl rfl rfl (fun _=>q_m rfl) ?_
  refine WD.a (i:=10) (d:=16) (by kernel_rfl) rfl (z2 (by kernel_rfl)) (z3 (by kernel_rfl)) rfl rfl rfl (fun _=>yr y4j rfl rfl z5A.1 z5A.2 y1c) ?_
  refine WD.e (i:=11) (d:=17) (by kernel_rfl) rfl (z2 (by kernel_rfl)) (z3 (by kernel_rfl)) rfl rfl rfl (y1P (cs:=(yx (nth z6 zK))) za2 rfl rfl (y23 .here (y1W (enc:=yx) (l:=z6) (i:=zK) (sz:=7) (fun _=>rfl) z5A.1 z5A.2))) ?_
  refine WD.a (i:=12) (d:=18) (by kernel_rfl) rfl (z2 (by kernel_rfl)) (z3 (by kernel_rfl)) rfl rfl rfl (fun _=>yr y4j rfl rfl z5A.1 z5A.2 y1c) ?_
  refine WD.forced0 (i:=13) rfl (by kernel_rfl) rfl rfl rfl (Sin.of .nil) (y28 (vs:=[(.int .i64 ((nth z6 zs).fTime)),(.int .i64 ((nth z6 zs).fIn_)),(.int .i64 ((nth z6 zs).fVl)),(.int .i64 ((nth z6 zs).fSent)),(.int .i64 (((nth z6 zs).fHop).fNode)),(.int .i64 (((nth z6 zs).fHop).fNext)),(.int .i64 (((nth z6 zs).fHop).fLink))]) (ds:=(z6.set (zK : Int).toNat (⟨((nth z6 zs).fTime),((nth z6 zs).fIn_),((nth z6 zs).fVl),((nth z6 zs).fSent),(⟨(((nth z6 zs).fHop).fNode),(((nth z6 zs).fHop).fNext),(((nth z6 zs).fHop).fLink)⟩ : Sapi_Hop)⟩ : Snetwork_event)).flatMap yx) zev rfl rfl rfl rfl (ocB rfl) .here (y2I (enc:=yx) (sz:=7) (k:=0) (fun _=>rfl) z5A.1 z5A.2 (by decide)) (y2H (enc:=yx) (l:=z6) (sz:=7) (vs:=[(.int .i64 ((nth z6 zs).fTime)),(.int .i64 ((nth z6 zs).fIn_)),(.int .i64 ((nth z6 zs).fVl)),(.int .i64 ((nth z6 zs).fSent)),(.int .i64 (((nth z6 zs).fHop).fNode)),(.int .i64 (((nth z6 zs).fHop).fNext)),(.int .i64 (((nth z6 zs).fHop).fLink))]) (y:=(⟨((nth z6 zs).fTime),((nth z6 zs).fIn_),((nth z6 zs).fVl),((nth z6 zs).fSent),(⟨(((nth z6 zs).fHop).fNode),(((nth z6 zs).fHop).fNext),(((nth z6 zs).fHop).fLink)⟩ : Sapi_Hop)⟩ : Snetwork_event)) (k:=0) (fun _=>rfl) z5A.1 z5A.2 rfl (Nat.le_of_ble_eq_true rfl))) ?_
  refine WD.relen .here (u:=(.slice (some ⟨zhJ,0,none⟩) ((z6.set (zK : Int).toNat (⟨((nth z6 zs).fTime),((nth z6 zs).fIn_),((nth z6 zs).fVl),((nth z6 zs).fSent),(⟨(((nth z6 zs).fHop).fNode),(((nth z6 zs).fHop).fNext),(((nth z6 zs).fHop).fLink)⟩ : Sapi_Hop)⟩ : Snetwork_event)).length) z4t)) (y1F (List.length_set).symm) ?_
  refine WD.repin (i:=8) rfl (u:=(.slice (some ⟨zhJ,0,none⟩) ((z6.set (zK : Int).toNat (⟨((nth z6 zs).fTime),((nth z6 zs).fIn_),((nth z6 zs).fVl),((nth z6 zs).fSent),(⟨(((nth z6 zs).fHop).fNode),(((nth z6 zs).fHop).fNext),(((nth z6 zs).fHop).fLink)⟩ : Sapi_Hop)⟩ : Snetwork_event)).length) z4t)) (y1F (List.length_set).symm) ?_
  refine WD.a (i:=14) (d:=19) (by kernel_rfl) rfl (z2 (by kernel_rfl)) (z3 (by kernel_rfl)) rfl rfl rfl (fun _=>yr y4j rfl rfl zaZ.1 zaZ.2 y1c) ?_
  refine WD.y2F (i:=15) rfl (by kernel_rfl) rfl rfl rfl (by kernel_rfl) (y28 (vs:=[(.int .i64 ((nth z6 zK).fTime)),(.int .i64 ((nth z6 zK).fIn_)),(.int .i64 ((nth z6 zK).fVl)),(.int .i64 ((nth z6 zK).fSent)),(.int .i64 (((nth z6 zK).fHop).fNode)),(.int .i64 (((nth z6 zK).fHop).fNext)),(.int .i64 (((nth z6 zK).fHop).fLink))]) (ds:=((z6.set (zK : Int).toNat (⟨((nth z6 zs).fTime),((nth z6 zs).fIn_),((nth z6 zs).fVl),((nth z6 zs).fSent),(⟨(((nth z6 zs).fHop).fNode),(((nth z6 zs).fHop).fNext),(((nth z6 zs).fHop).fLink)⟩ : Sapi_Hop)⟩ : Snetwork_event)).set (zs : Int).toNat (⟨((nth z6 zK).fTime),((nth z6 zK).fIn_),((nth z6 zK).fVl),((nth z6 zK).fSent),(⟨(((nth z6 zK).fHop).fNode),(((nth z6 zK).fHop).fNext),(((nth z6 zK).fHop).fLink)⟩ : Sapi_Hop)⟩ : Snetwork_event)).flatMap yx) zev rfl rfl rfl rfl (ocB rfl) .here (y2I (enc:=yx) (sz:=7) (k:=0) (fun _=>rfl) zaZ.1 zaZ.2 (by decide)) (y2H (enc:=yx) (l:=z6.set (zK : Int).toNat (⟨((nth z6 zs).fTime),((nth z6 zs).fIn_),((nth z6 zs).fVl),((nth z6 zs).fSent),(⟨(((nth z6 zs).fHop).fNode),(((nth z6 zs).fHop).fNext),(((nth z6 zs).fHop).fLink)⟩ : Sapi_Hop)⟩ : Snetwork_event)) (sz:=7) (vs:=[(.int .i64 ((nth z6 zK).fTime)),(.int .i64 ((nth z6 zK).fIn_)),(.int .i64 ((nth z6 zK).fVl)),(.int .i64 ((nth z6 zK).fSent)),(.int .i64 (((nth z6 zK).fHop).fNode)),(.int .i64 (((nth z6 zK).fHop).fNext)),(.int .i64 (((nth z6 zK).fHop).fLink))]) (y:=(⟨((nth z6 zK).fTime),((nth z6 zK).fIn_),((nth z6 zK).fVl),((nth z6 zK).fSent),(⟨(((nth z6 zK).fHop).fNode),(((nth z6 zK).fHop).fNext),(((nth z6 zK).fHop).fLink)⟩ : Sapi_Hop)⟩ : Snetwork_event)) (k:=0) (fun _=>rfl) zaZ.1 zaZ.2 rfl (Nat.le_of_ble_eq_true rfl))) ?_
  refine WD.relen .here (u:=(.slice (some ⟨zhJ,0,none⟩) (((z6.set (zK : Int).toNat (⟨((nth z6 zs).fTime),((nth z6 zs).fIn_),((nth z6 zs).fVl),((nth z6 zs).fSent),(⟨(((nth z6 zs).fHop).fNode),(((nth z6 zs).fHop).fNext),(((nth z6 zs).fHop).fLink)⟩ : Sapi_Hop)⟩ : Snetwork_event)).set (zs : Int).toNat (⟨((nth z6 zK).fTime),((nth z6 zK).fIn_),((nth z6 zK).fVl),((nth z6 zK).fSent),(⟨(((nth z6 zK).fHop).fNode),(((nth z6 zK).fHop).fNext),(((nth z6 zK).fHop).fLink)⟩ : Sapi_Hop)⟩ : Snetwork_event)).length) z4t)) (y1F (List.length_set).symm) ?_
  refine WD.done (by kernel_rfl) ?_
  obtain rfl:=Option.some.inj h
  refine WX.y1V Try.results88 .nil (fun w hw=>?_)
  exact ⟨y4h,((List.length_set).trans ((List.length_set).trans rfl)),hw.sub (.cons .here .nil)⟩
def y2M (z1T : List Snetwork_event) (z1s : Snetwork_event) : Option Unit :=
  chk ((((z1T ++ ([z1s] : List Snetwork_event)).length : Nat) : Int) * 56 ≤ 140737488355328 ∧ (((z1T ++ ([z1s] : List Snetwork_event)).length : Nat) : Int) ≤ 4611686018427387904) (some ())
set_option maxRecDepth 20000 in
theorem y5A (Z : Zp) (z74 : Nat) (z5B : Option Addr) (z5C : Nat) (z8N : Value) (z8O : Value) (z8P : Value) (z8Q : Value) (z8R : Value) (z8S : Value) (z8T : Value) (z8U : Value) (z8V : Value) (z8W : Value) (z8X : Value) (z8Y : Value) (z8Z : Value) (z1T : List Snetwork_event) (z1s : Snetwork_event) (r : Unit)
     (h : y2M z1T z1s = some r) (w₀ : World) (hz : PZ (fps [stb z74 81 [z8N,z8O,z8P,z8Q,z8R,z8S,z8T,z8U,z8V,z8W,z8X,(.slice z5B z1T.length z5C),z8Y,z8Z],row (.slice z5B z1T.length z5C) 113 7 (z1T.flatMap yx)]) w₀ Z)
    (hown : Hp (fps [stb z74 81 [z8N,z8O,z8P,z8Q,z8R,z8S,z8T,z8U,z8V,z8W,z8X,(.slice z5B z1T.length z5C),z8Y,z8Z],row (.slice z5B z1T.length z5C) 113 7 (z1T.flatMap yx)]) w₀ w₀ [stb z74 81 [z8N,z8O,z8P,z8Q,z8R,z8S,z8T,z8U,z8V,z8W,z8X,(.slice z5B z1T.length z5C),z8Y,z8Z],row (.slice z5B z1T.length z5C) 113 7 (z1T.flatMap yx)]) :
    Calls Try.prog 92 #[(.pointer (some ⟨z74,11,none⟩)),(.iface 113 (.agg #[(.int .i64 z1s.fTime),(.int .i64 z1s.fIn_),(.int .i64 z1s.fVl),(.int .i64 z1s.fSent),(.int .i64 z1s.fHop.fNode),(.int .i64 z1s.fHop.fNext),(.int .i64 z1s.fHop.fLink)]))] w₀ fun e w'=>∃ zlK : Option Addr,∃ zlL : Nat,e = .returned (.tuple #[]) ∧ True ∧ Hp (fps [stb z74 81 [z8N,z8O,z8P,z8Q,z8R,z8S,z8T,z8U,z8V,z8W,z8X,(.slice z5B z1T.length z5C),z8Y,z8Z],row (.slice z5B z1T.length z5C) 113 7 (z1T.flatMap yx)]) w₀ w' [stb z74 81 [z8N,z8O,z8P,z8Q,z8R,z8S,z8T,z8U,z8V,z8W,z8X,(.slice zlK ((z1T ++ ([z1s] : List Snetwork_event)).length) zlL),z8Y,z8Z],row (.slice zlK ((z1T ++ ([z1s] : List Snetwork_event)).length) zlL) 113 7 ((z1T ++ ([z1s] : List Snetwork_event)).flatMap yx)]:=by
  unfold y2M at h
  refine Calls.yk (vs:=[(.pointer (some ⟨z74,11,none⟩)),(.iface 113 (.agg #[(.int .i64 z1s.fTime),(.int .i64 z1s.fIn_),(.int .i64 z1s.fVl),(.int .i64 z1s.fSent),(.int .i64 z1s.fHop.fNode),(.int .i64 z1s.fHop.fNext),(.int .i64 z1s.fHop.fLink)]))]) (pre:=[stb z74 81 [z8N,z8O,z8P,z8Q,z8R,z8S,z8T,z8U,z8V,z8W,z8X,(.slice z5B z1T.length z5C),z8Y,z8Z],row (.slice z5B z1T.length z5C) 113 7 (z1T.flatMap yx)]) (env:=[(0,(.pointer (some ⟨z74,11,none⟩))),(1,(.iface 113 (.agg #[(.int .i64 z1s.fTime),(.int .i64 z1s.fIn_),(.int .i64 z1s.fVl),(.int .i64 z1s.fSent),(.int .i64 z1s.fHop.fNode),(.int .i64 z1s.fHop.fNext),(.int .i64 z1s.fHop.fLink)])))]) Try.func92 rfl Try.ntmps92 rfl (hown) rfl ?_
  obtain ⟨zqS,h⟩:=yi h
  refine WC.yV (fun i=>[7,9].contains i) [] rfl ?_
  refine WD.a (i:=0) (d:=4) (by kernel_rfl) rfl (z2 (by kernel_rfl)) (z3 (by kernel_rfl)) rfl rfl rfl (fun _=>q_m rfl) ?_
  refine WD.a (i:=1) (d:=5) (by kernel_rfl) rfl (z2 (by kernel_rfl)) (z3 (by kernel_rfl)) rfl rfl rfl (fun _=>q_m rfl) ?_
  refine WD.a (i:=2) (d:=6) (by kernel_rfl) rfl (z2 (by kernel_rfl)) (z3 (by kernel_rfl)) rfl rfl rfl (fun _=>yt rfl) ?_
  refine WD.e (i:=3) (d:=7) (by kernel_rfl) rfl (z2 (by kernel_rfl)) (z3 (by kernel_rfl)) rfl rfl rfl (yb y55 rfl (yc .here rfl)) ?_
  refine WD.a (i:=4) (d:=8) (by kernel_rfl) rfl (z2 (by kernel_rfl)) (z3 (by kernel_rfl)) rfl rfl rfl (fun _=>q_m rfl) ?_
  refine WD.e (i:=5) (d:=9) (by kernel_rfl) rfl (z2 (by kernel_rfl)) (z3 (by kernel_rfl)) rfl rfl rfl (y8H Try.underlying113 rfl rfl) ?_
  refine WD.new (i:=6) (dd:=10) rfl (by kernel_rfl) rfl rfl rfl (yZ (cs:=([z1s] : List Snetwork_event).flatMap yx) y4j (Eos.parts (l:=[.tmp 9]) (.cons rfl .nil) [0]) (fun _=>by kernel_rfl) rfl (by unfold maxLen; omega)) (fun h'=>absurd h' (by decide)) ?_
  intro zwK _
  refine WD.old (i:=7) (dd:=11) rfl (by kernel_rfl) rfl rfl rfl rfl (fun _=>(Sin.of .nil)) (y46 (enc:=yx) (l1:=z1T) (l2:=([z1s] : List Snetwork_event)) y4j rfl rfl .h2 (fun _=>rfl) rfl rfl (y5b .here) (y4q e113_oc _) zqS) ?_
  rintro ⟨zlM,zlN⟩ _
  refine WD.a (i:=8) (d:=12) (by kernel_rfl) rfl (z2 (by kernel_rfl)) (z3 (by kernel_rfl)) rfl rfl rfl (fun _=>yt rfl) ?_
  refine WD.y2F (i:=9) rfl (by kernel_rfl) rfl rfl rfl (by kernel_rfl) (y3p (ds:=[z8N,z8O,z8P,z8Q,z8R,z8S,z8T,z8U,z8V,z8W,z8X,(.slice zlM ((z1T ++ ([z1s] : List Snetwork_event)).length) zlN),z8Y,z8Z]) y9k rfl rfl rfl rfl rfl .h2 rfl rfl) ?_
  refine WD.done (by kernel_rfl) ?_
  skip
  refine WX.y1V Try.results92 .nil (fun w hw=>?_)
  exact ⟨zlM,zlN,y4h,trivial,hw.sub (.cons .here (.cons .here .nil))⟩
def y1x (z75 : (List Snetwork_event) → Option (List Snetwork_event)) : Nat → Int → (List Snetwork_event) → Option (List Snetwork_event)
  | 0,_,_=>none
  | zhK + 1,z2U,z3b=>(if decide ((i64 (Int.tdiv (i64 (z2U - 1)) 2)) = z2U) then some true else (y1u z3b z2U (i64 (Int.tdiv (i64 (z2U - 1)) 2))).bind fun zlO=>some (!zlO)).bind fun zhL=>if zhL then z75 z3b else (y1v z3b (i64 (Int.tdiv (i64 (z2U - 1)) 2)) z2U).bind fun zf1=>y1x z75 zhK (i64 (Int.tdiv (i64 (z2U - 1)) 2)) zf1
theorem y4M {n : Nat} {z75 : (List Snetwork_event) → Option (List Snetwork_event)} {z2U : Int} {z3b : List Snetwork_event} {r : List Snetwork_event} (h : y1x z75 n z2U z3b = some r) : ∃ m,n = m + 1:=by
  cases n with
  | zero=>cases h
  | succ m=>exact ⟨m,rfl⟩
def y31 (z21 : List Snetwork_event) (z90 : Int) : Option (List Snetwork_event) :=
  jp1 (fun (z55 : List Snetwork_event)=>some z55) fun z75=>y1x z75 yz z90 z21
set_option maxRecDepth 20000 in
theorem y6i (Z : Zp) (z4u : Nat) (z2V : Option Addr) (z2W : Nat) (z76 : Value) (z77 : Value) (z78 : Value) (z79 : Value) (z7a : Value) (z7b : Value) (z7c : Value) (z7d : Value) (z7e : Value) (z7f : Value) (z7g : Value) (z7h : Value) (z7i : Value) (z21 : List Snetwork_event) (z90 : Int) (r : List Snetwork_event)
     (h : y31 z21 z90 = some r) (w₀ : World) (hz : PZ (fps [stb z4u 81 [z76,z77,z78,z79,z7a,z7b,z7c,z7d,z7e,z7f,z7g,(.slice z2V z21.length z2W),z7h,z7i],row (.slice z2V z21.length z2W) 113 7 (z21.flatMap yx)]) w₀ Z)
    (hown : Hp (fps [stb z4u 81 [z76,z77,z78,z79,z7a,z7b,z7c,z7d,z7e,z7f,z7g,(.slice z2V z21.length z2W),z7h,z7i],row (.slice z2V z21.length z2W) 113 7 (z21.flatMap yx)]) w₀ w₀ [stb z4u 81 [z76,z77,z78,z79,z7a,z7b,z7c,z7d,z7e,z7f,z7g,(.slice z2V z21.length z2W),z7h,z7i],row (.slice z2V z21.length z2W) 113 7 (z21.flatMap yx)]) :
    Calls Try.prog 50 #[(.iface 111 (.pointer (some ⟨z4u,11,none⟩))),(.int .i64 z90)] w₀ fun e w'=>e = .returned (.tuple #[]) ∧ (r.length = z21.length) ∧ Hp (fps [stb z4u 81 [z76,z77,z78,z79,z7a,z7b,z7c,z7d,z7e,z7f,z7g,(.slice z2V z21.length z2W),z7h,z7i],row (.slice z2V z21.length z2W) 113 7 (z21.flatMap yx)]) w₀ w' [stb z4u 81 [z76,z77,z78,z79,z7a,z7b,z7c,z7d,z7e,z7f,z7g,(.slice z2V r.length z2W),z7h,z7i],row (.slice z2V r.length z2W) 113 7 (r.flatMap yx)]:=by
  unfold y31 at h
  refine Calls.yk (vs:=[(.iface 111 (.pointer (some ⟨z4u,11,none⟩))),(.int .i64 z90)]) (pre:=[stb z4u 81 [z76,z77,z78,z79,z7a,z7b,z7c,z7d,z7e,z7f,z7g,(.slice z2V z21.length z2W),z7h,z7i],row (.slice z2V z21.length z2W) 113 7 (z21.flatMap yx)]) (env:=[(0,(.iface 111 (.pointer (some ⟨z4u,11,none⟩)))),(1,(.int .i64 z90))]) Try.func50 rfl Try.ntmps50 rfl (hown) rfl ?_
  obtain ⟨z75,zqT,h⟩:=y19 h
  refine WC.y54 (fun (z55 : List Snetwork_event)=>(z75 z55 = some r) ∧ (z55.length = z21.length)) (fun (z55 : List Snetwork_event)=>[]) (fun (z55 : List Snetwork_event)=>[row (.slice z2V z55.length z2W) 113 7 (z55.flatMap yx),stb z4u 81 [z76,z77,z78,z79,z7a,z7b,z7c,z7d,z7e,z7f,z7g,(.slice z2V z55.length z2W),z7h,z7i]]) ?_ ?_
  · skip
    refine WC.block ?_
    refine WC.y2m (fun (zb0 : Nat) (z2U : Int) (z3b : List Snetwork_event)=>(y1x z75 zb0 z2U z3b = some r) ∧ (z3b.length = z21.length)) (fun (zb0 : Nat) (z2U : Int) (z3b : List Snetwork_event)=>[(0,(.iface 111 (.pointer (some ⟨z4u,11,none⟩)))),(1,(.int .i64 z2U))]) (fun (zb0 : Nat) (z2U : Int) (z3b : List Snetwork_event)=>[row (.slice z2V z3b.length z2W) 113 7 (z3b.flatMap yx),stb z4u 81 [z76,z77,z78,z79,z7a,z7b,z7c,z7d,z7e,z7f,z7g,(.slice z2V z3b.length z2W),z7h,z7i]]) (fun (zb0 : Nat) (z2U : Int) (z3b : List Snetwork_event)=>zb0) ⟨yz,z90,z21⟩ ⟨h,rfl⟩ (.cons rfl (.cons rfl .nil)) (.cons .h1 (.cons .here .nil)) ?_
    rintro zb0 z2U z3b ⟨h,zlP⟩
    obtain ⟨zhK,rfl⟩:=y4M h
    rw [y1x] at h
    refine WC.block (WC.b (WC.a (WL.pu rfl (WL.pu rfl ?_))))
    refine WL.a (d:=7) rfl rfl rfl (q_quo rfl rfl (by decide) rfl) ?_
    refine WL.pu rfl (WL.nil (WX.a (WC.b (WC.b ?_))))
    obtain ⟨zhL,zlQ,h⟩:=zh h
    refine WC.a (WL.pu rfl (WL.pu rfl (WL.pu rfl (WL.pu rfl ?_))))
    refine WL.seg false 5 11 (B:=zhL) rfl rfl rfl rfl rfl rfl (fun h=>(Option.some.inj (yl zlQ h)).symm) (fun _ zqU=>?_) ?_
    · skip
      have zdB:=ym zlQ zqU
      obtain ⟨zlO,zqV,zdB⟩:=zh zdB
      replace zdB:=Option.some.inj zdB
      refine WL.pu rfl (WL.pu rfl (WL.pu rfl ?_))
      refine WL.b (dd:=15) rfl rfl rfl (y33 (l:=[.tmp 13,.tmp 14]) (y5e) Try.call87 rfl (yc .h1 rfl) (.cons rfl (.cons rfl .nil))) .nil (ccl hz .nil (.cons .here .nil) fun w pz ho la=>y3y _ _ _ _ _ _ _ zqV w pz (ZA.row (la _ (.head _) _) (RR.y1b (enc:=yx) (fun _=>rfl) _) ⟨w,pz.1⟩)) ?_
      refine WL.pu rfl (WL.pu rfl ?_)
      exact WL.ys zdB rfl rfl .all
    refine WL.nil (WX.a ?_)
    refine WC.cond rfl (fun zhM=>?_) (fun zhM=>?_)
    · replace h:=yl h zhM
      refine WC.exit (WX.ye (WX.y57 rfl (WX.ye (WX.yA ?_))))
      exact WX.mid (G:=List Snetwork_event) z3b ⟨h,zlP⟩ .nil (.cons .here (.cons .here .nil))
    · replace h:=ym h zhM
      refine WC.skip (WX.a (WC.b ?_))
      obtain ⟨zf1,zqW,h⟩:=zh h
      refine WC.a (WL.pu rfl (WL.pu rfl (WL.pu rfl ?_)))
      refine WL.y1L (dd:=21) rfl rfl rfl (y33 (l:=[.tmp 19,.tmp 20]) (y5f) Try.call88 rfl (yc .h1 rfl) (.cons rfl (.cons rfl .nil))) (.cons .here .nil) (cc hz (.cons .here .nil) fun w pz ho=>y3z _ _ _ _ _ _ _ zqW w pz  ho) ?_
      rintro  zlR
      refine WL.restb (cs':=[z76,z77,z78,z79,z7a,z7b,z7c,z7d,z7e,z7f,z7g,(.slice z2V zf1.length z2W),z7h,z7i]) .h1 (by rw [zlR]) ?_
      refine WL.nil (WX.a (WC.a (WL.pu rfl (WL.pu rfl (WL.nil (WX.yf ?_))))))
      exact WX.round (G:=Nat × Int × List Snetwork_event) ⟨zhK,(i64 (Int.tdiv (i64 (z2U - 1)) 2)),zf1⟩ ⟨h,(zlR.trans zlP)⟩ (Nat.lt_succ_self _) (.cons rfl (.cons rfl .nil)) (.cons .h1 (.cons .here .nil))
  · rintro z55 ⟨h,zqX⟩
    replace h:=(zqT z55).symm.trans h
    obtain rfl:=Option.some.inj h
    refine WX.y1V Try.results50 .nil (fun w hw=>?_)
    exact ⟨y4h,zqX,hw.sub (.cons .h1 (.cons .here .nil))⟩
def y1Y (z2l : List Snetwork_event) (z1K : Snetwork_event) : Option (List Snetwork_event) :=
  (y2M z2l z1K).bind fun zqY=>(y2a (z2l ++ ([z1K] : List Snetwork_event))).bind fun zlS=>(y31 (z2l ++ ([z1K] : List Snetwork_event)) (i64 (zlS - 1))).bind fun zhN=>some zhN
set_option maxRecDepth 20000 in
theorem y5B (Z : Zp) (z7j : Nat) (z5D : Option Addr) (z5E : Nat) (z91 : Value) (z92 : Value) (z93 : Value) (z94 : Value) (z95 : Value) (z96 : Value) (z97 : Value) (z98 : Value) (z99 : Value) (z9a : Value) (z9b : Value) (z9c : Value) (z9d : Value) (z2l : List Snetwork_event) (z1K : Snetwork_event) (r : List Snetwork_event)
     (h : y1Y z2l z1K = some r) (w₀ : World) (hz : PZ (fps [stb z7j 81 [z91,z92,z93,z94,z95,z96,z97,z98,z99,z9a,z9b,(.slice z5D z2l.length z5E),z9c,z9d],row (.slice z5D z2l.length z5E) 113 7 (z2l.flatMap yx)]) w₀ Z)
    (hown : Hp (fps [stb z7j 81 [z91,z92,z93,z94,z95,z96,z97,z98,z99,z9a,z9b,(.slice z5D z2l.length z5E),z9c,z9d],row (.slice z5D z2l.length z5E) 113 7 (z2l.flatMap yx)]) w₀ w₀ [stb z7j 81 [z91,z92,z93,z94,z95,z96,z97,z98,z99,z9a,z9b,(.slice z5D z2l.length z5E),z9c,z9d],row (.slice z5D z2l.length z5E) 113 7 (z2l.flatMap yx)]) :
    Calls Try.prog 38 #[(.iface 111 (.pointer (some ⟨z7j,11,none⟩))),(.iface 113 (.agg #[(.int .i64 z1K.fTime),(.int .i64 z1K.fIn_),(.int .i64 z1K.fVl),(.int .i64 z1K.fSent),(.int .i64 z1K.fHop.fNode),(.int .i64 z1K.fHop.fNext),(.int .i64 z1K.fHop.fLink)]))] w₀ fun e w'=>∃ zlT : Option Addr,∃ zlU : Nat,e = .returned (.tuple #[]) ∧ True ∧ Hp (fps [stb z7j 81 [z91,z92,z93,z94,z95,z96,z97,z98,z99,z9a,z9b,(.slice z5D z2l.length z5E),z9c,z9d],row (.slice z5D z2l.length z5E) 113 7 (z2l.flatMap yx)]) w₀ w' [stb z7j 81 [z91,z92,z93,z94,z95,z96,z97,z98,z99,z9a,z9b,(.slice zlT r.length zlU),z9c,z9d],row (.slice zlT r.length zlU) 113 7 (r.flatMap yx)]:=by
  unfold y1Y at h
  refine Calls.yk (vs:=[(.iface 111 (.pointer (some ⟨z7j,11,none⟩))),(.iface 113 (.agg #[(.int .i64 z1K.fTime),(.int .i64 z1K.fIn_),(.int .i64 z1K.fVl),(.int .i64 z1K.fSent),(.int .i64 z1K.fHop.fNode),(.int .i64 z1K.fHop.fNext),(.int .i64 z1K.fHop.fLink)]))]) (pre:=[stb z7j 81 [z91,z92,z93,z94,z95,z96,z97,z98,z99,z9a,z9b,(.slice z5D z2l.length z5E),z9c,z9d],row (.slice z5D z2l.length z5E) 113 7 (z2l.flatMap yx)]) (env:=[(0,(.iface 111 (.pointer (some ⟨z7j,11,none⟩)))),(1,(.iface 113 (.agg #[(.int .i64 z1K.fTime),(.int .i64 z1K.fIn_),(.int .i64 z1K.fVl),(.int .i64 z1K.fSent),(.int .i64 z1K.fHop.fNode),(.int .i64 z1K.fHop.fNext),(.int .i64 z1K.fHop.fLink)])))]) Try.func38 rfl Try.ntmps38 rfl (hown) rfl ?_
  refine WC.b ?_
  obtain ⟨zqY,zqZ,h⟩:=zh h
  refine WC.a (WL.pu rfl (WL.pu rfl ?_))
  refine WL.y4T (dd:=6) rfl rfl rfl (y7v (l:=[.tmp 5]) (y8J _) Try.call92 rfl (.cons rfl .nil)) (.cons .here (.cons .here .nil)) (cc hz (.cons .here (.cons .here .nil)) fun w pz ho=>y5A _ _ _ _ _ _ _ _ _ _ _ _ _ _ _ _ _ _ _ _ zqZ w pz  ho) ?_
  rintro zlV zlW _
  refine WL.nil (WX.a ?_)
  obtain ⟨zlS,zr0,h⟩:=zh h
  obtain ⟨zhN,zr1,h⟩:=zh h
  refine WC.a (WL.pu rfl (WL.pu rfl ?_))
  refine WL.b (dd:=9) rfl rfl rfl (y33 (l:=[]) (y78) Try.call86 rfl (yc .here rfl) .nil) .nil (ccl hz .nil (.cons .h1 .nil) fun w pz ho la=>y4B _ _ _ _ _ zr0 w pz (ZA.row (la _ (.head _) _) (RR.y1b (enc:=yx) (fun _=>rfl) _) ⟨w,pz.1⟩)) ?_
  refine WL.pu rfl ?_
  refine WL.y1L (dd:=11) rfl rfl rfl (zz (l:=[.tmp 7,.tmp 10]) Try.call50 (.cons rfl (.cons rfl .nil))) (.cons .here (.cons .here .nil)) (cc hz (.cons .here (.cons .here .nil)) fun w pz ho=>y6i _ _ _ _ _ _ _ _ _ _ _ _ _ _ _ _ _ _ _ _ zr1 w pz  ho) ?_
  rintro  zr2
  refine WL.restb (cs':=[z91,z92,z93,z94,z95,z96,z97,z98,z99,z9a,z9b,(.slice zlV zhN.length zlW),z9c,z9d]) .here (by rw [zr2]) ?_
  refine WL.nil ?_
  obtain rfl:=Option.some.inj h
  refine WX.y1V Try.results38 .nil (fun w hw=>?_)
  exact ⟨zlV,zlW,y4h,trivial,hw.sub (.cons .here (.cons .here .nil))⟩
def y1C (z1q : List (List Sapi_Hop)) (zX : List zSt) (z13 : Int) (z3D : Int) (z3p : Int) (z3q : Int) (z7k : (List Snetwork_event) → Option (List Snetwork_event)) : Nat → Int → (List Snetwork_event) → Option (List Snetwork_event)
  | 0,_,_=>none
  | zhO + 1,z22,z3c=>if decide (z22 < (((nth z1q ((nth zX z13).fVL)).length : Nat) : Int)) then jp1 (fun (z56 : List Snetwork_event)=>y1C z1q zX z13 z3D z3p z3q z7k zhO (i64 (z22 + 1)) z56) fun zf2=>chk ((0 : Int) ≤ z22 ∧ z22 < (((nth z1q ((nth zX z13).fVL)).length : Nat) : Int)) (if decide (((nth (nth z1q ((nth zX z13).fVL)) z22).fNode) = z3D) then (y1Y z3c (⟨z3p,z3q,((nth zX z13).fVL),z13,(⟨((nth (nth z1q ((nth zX z13).fVL)) z22).fNode),((nth (nth z1q ((nth zX z13).fVL)) z22).fNext),((nth (nth z1q ((nth zX z13).fVL)) z22).fLink)⟩ : Sapi_Hop)⟩ : Snetwork_event)).bind fun zhP=>zf2 zhP else zf2 z3c) else z7k z3c
theorem y4V {n : Nat} {z1q : List (List Sapi_Hop)} {zX : List zSt} {z13 : Int} {z3D : Int} {z3p : Int} {z3q : Int} {z7k : (List Snetwork_event) → Option (List Snetwork_event)} {z22 : Int} {z3c : List Snetwork_event} {r : List Snetwork_event} (h : y1C z1q zX z13 z3D z3p z3q z7k n z22 z3c = some r) : ∃ m,n = m + 1:=by
  cases n with
  | zero=>cases h
  | succ m=>exact ⟨m,rfl⟩
def y2i (zy : Sapi_Config) (z1q : List (List Sapi_Hop)) (zX : List zSt) (zhQ : List (Snetwork_exit × Sport_Port)) (z2v : List Snetwork_event) (z4v : List Sapi_Come) (z4w : List Sapi_Come) (z3D : Int) (z3p : Int) (z3q : Int) (z13 : Int) : Option (List Snetwork_event) :=
  chk ((0 : Int) ≤ z13 ∧ z13 < ((zX.length : Nat) : Int)) (chk ((0 : Int) ≤ ((nth zX z13).fVL) ∧ ((nth zX z13).fVL) < ((z1q.length : Nat) : Int)) (jp1 (fun (z5F : List Snetwork_event)=>some z5F) fun z7k=>y1C z1q zX z13 z3D z3p z3q z7k yz 0 z2v))
set_option maxRecDepth 20000 in
theorem y4F (Z : Zp) (z3E : Nat) (z5G : Option Addr) (z5H : Nat) (z5I : Option Addr) (z5J : Nat) (z5K : Option Addr) (z5L : Nat) (z5M : Option Addr) (z5N : Nat) (z5O : Option Addr) (z5P : Nat) (z5Q : Option Addr) (z5R : Nat) (z5S : Option Addr) (z5T : Nat) (z5U : Option Addr) (z5V : Nat) (z5W : Option Addr) (z5X : Nat) (z5Y : Option Addr) (z5Z : Nat) (z2J : Nat) (z2w : List (Snetwork_exit × ((Nat × (Option Addr × Nat)) × Sport_Port))) (z57 : Option Addr) (z58 : Nat) (z60 : Option Addr) (z61 : Nat) (z62 : Option Addr) (z63 : Nat) (zy : Sapi_Config) (z1q : List (List Sapi_Hop)) (zX : List zSt) (zhQ : List (Snetwork_exit × Sport_Port)) (z2v : List Snetwork_event) (z4v : List Sapi_Come) (z4w : List Sapi_Come) (z3D : Int) (z3p : Int) (z3q : Int) (z13 : Int) (r : List Snetwork_event)
     (h : y2i zy z1q zX zhQ z2v z4v z4w z3D z3p z3q z13 = some r) (w₀ : World) (hz : PZ (fps [stb z3E 81 [(.slice z5G zy.fModules.length z5H),(.slice z5I zy.fChannels.length z5J),(.slice z5K zy.fSwitches.length z5L),(.slice z5M zy.fLinks.length z5N),(.slice z5O zy.fVLs.length z5P),(.slice z5Q zy.fHealth.length z5R),(.slice z5S zy.fCauses.length z5T),(.slice z5U zy.fVersions.length z5V),(.slice z5W z1q.length z5X),(.slice z5Y zX.length z5Z),(.map (some z2J)),(.slice z57 z2v.length z58),(.slice z60 z4v.length z61),(.slice z62 z4w.length z63)],y1e z2J (fun x=>Value.agg (y1S x).toArray) Value.pointer (y1n z2w),y1l z12 z2w,row (.slice z57 z2v.length z58) 113 7 (z2v.flatMap yx)]) w₀ Z)
     (zwL : ZS Z 4 (y2x Z) z5G z5H zy.fModules)
     (zwM : ZS Z 4 (y2W Z) z5I z5J zy.fChannels)
     (zwN : ZS Z 4 (fun r x=>r = e64 x) z5K z5L zy.fSwitches)
     (zwO : ZS Z 4 (fun r x=>r = e62 x) z5M z5N zy.fLinks)
     (zwP : ZS Z 7 (y2J Z) z5O z5P zy.fVLs)
     (zwQ : ZS Z 5 (fun r x=>r = y2Z x) z5Q z5R zy.fHealth)
     (zwR : ZS Z 3 (y2X Z) z5S z5T zy.fCauses)
     (zwS : ZS Z 4 (fun r x=>r = y30 x) z5U z5V zy.fVersions)
     (zr3 : ZS Z 1 (p55 Z) z5W z5X z1q)
     (zr4 : ZS Z 3 (fun r x=>r = e53 x) z5Y z5Z zX)
     (zwT : dat z2w = zhQ)
     (zwU : ZS Z 3 (fun r x=>r = e50 x) z60 z61 z4v)
     (zwV : ZS Z 3 (fun r x=>r = e50 x) z62 z63 z4w)
    (hown : Hp (fps [stb z3E 81 [(.slice z5G zy.fModules.length z5H),(.slice z5I zy.fChannels.length z5J),(.slice z5K zy.fSwitches.length z5L),(.slice z5M zy.fLinks.length z5N),(.slice z5O zy.fVLs.length z5P),(.slice z5Q zy.fHealth.length z5R),(.slice z5S zy.fCauses.length z5T),(.slice z5U zy.fVersions.length z5V),(.slice z5W z1q.length z5X),(.slice z5Y zX.length z5Z),(.map (some z2J)),(.slice z57 z2v.length z58),(.slice z60 z4v.length z61),(.slice z62 z4w.length z63)],y1e z2J (fun x=>Value.agg (y1S x).toArray) Value.pointer (y1n z2w),y1l z12 z2w,row (.slice z57 z2v.length z58) 113 7 (z2v.flatMap yx)]) w₀ w₀ [stb z3E 81 [(.slice z5G zy.fModules.length z5H),(.slice z5I zy.fChannels.length z5J),(.slice z5K zy.fSwitches.length z5L),(.slice z5M zy.fLinks.length z5N),(.slice z5O zy.fVLs.length z5P),(.slice z5Q zy.fHealth.length z5R),(.slice z5S zy.fCauses.length z5T),(.slice z5U zy.fVersions.length z5V),(.slice z5W z1q.length z5X),(.slice z5Y zX.length z5Z),(.map (some z2J)),(.slice z57 z2v.length z58),(.slice z60 z4v.length z61),(.slice z62 z4w.length z63)],y1e z2J (fun x=>Value.agg (y1S x).toArray) Value.pointer (y1n z2w),y1l z12 z2w,row (.slice z57 z2v.length z58) 113 7 (z2v.flatMap yx)]) :
    Calls Try.prog 25 #[(.pointer (some ⟨z3E,0,none⟩)),(.int .i64 z3D),(.int .i64 z3p),(.int .i64 z3q),(.int .i64 z13)] w₀ fun e w'=>∃ zlX : Option Addr,∃ zlY : Nat,e = .returned (.tuple #[]) ∧ True ∧ Hp (fps [stb z3E 81 [(.slice z5G zy.fModules.length z5H),(.slice z5I zy.fChannels.length z5J),(.slice z5K zy.fSwitches.length z5L),(.slice z5M zy.fLinks.length z5N),(.slice z5O zy.fVLs.length z5P),(.slice z5Q zy.fHealth.length z5R),(.slice z5S zy.fCauses.length z5T),(.slice z5U zy.fVersions.length z5V),(.slice z5W z1q.length z5X),(.slice z5Y zX.length z5Z),(.map (some z2J)),(.slice z57 z2v.length z58),(.slice z60 z4v.length z61),(.slice z62 z4w.length z63)],y1e z2J (fun x=>Value.agg (y1S x).toArray) Value.pointer (y1n z2w),y1l z12 z2w,row (.slice z57 z2v.length z58) 113 7 (z2v.flatMap yx)]) w₀ w' [stb z3E 81 [(.slice z5G zy.fModules.length z5H),(.slice z5I zy.fChannels.length z5J),(.slice z5K zy.fSwitches.length z5L),(.slice z5M zy.fLinks.length z5N),(.slice z5O zy.fVLs.length z5P),(.slice z5Q zy.fHealth.length z5R),(.slice z5S zy.fCauses.length z5T),(.slice z5U zy.fVersions.length z5V),(.slice z5W z1q.length z5X),(.slice z5Y zX.length z5Z),(.map (some z2J)),(.slice zlX r.length zlY),(.slice z60 z4v.length z61),(.slice z62 z4w.length z63)],row (.slice zlX r.length zlY) 113 7 (r.flatMap yx),y1e z2J (fun x=>Value.agg (y1S x).toArray) Value.pointer (y1n z2w),y1l z12 z2w]:=by
  unfold y2i at h
  refine Calls.yk (vs:=[(.pointer (some ⟨z3E,0,none⟩)),(.int .i64 z3D),(.int .i64 z3p),(.int .i64 z3q),(.int .i64 z13)]) (pre:=[stb z3E 81 [(.slice z5G zy.fModules.length z5H),(.slice z5I zy.fChannels.length z5J),(.slice z5K zy.fSwitches.length z5L),(.slice z5M zy.fLinks.length z5N),(.slice z5O zy.fVLs.length z5P),(.slice z5Q zy.fHealth.length z5R),(.slice z5S zy.fCauses.length z5T),(.slice z5U zy.fVersions.length z5V),(.slice z5W z1q.length z5X),(.slice z5Y zX.length z5Z),(.map (some z2J)),(.slice z57 z2v.length z58),(.slice z60 z4v.length z61),(.slice z62 z4w.length z63)],y1e z2J (fun x=>Value.agg (y1S x).toArray) Value.pointer (y1n z2w),y1l z12 z2w,row (.slice z57 z2v.length z58) 113 7 (z2v.flatMap yx)]) (env:=[(0,(.pointer (some ⟨z3E,0,none⟩))),(1,(.int .i64 z3D)),(2,(.int .i64 z3p)),(3,(.int .i64 z3q)),(4,(.int .i64 z13))]) Try.func25 rfl Try.ntmps25 rfl (hown) rfl ?_
  refine WC.b ?_
  obtain ⟨zr5,h⟩:=yi h
  refine WC.a (WL.pu rfl ?_)
  refine WL.a (d:=14) rfl rfl rfl (yt rfl) ?_
  refine WL.a (d:=15) rfl rfl rfl (ya y9i rfl rfl) ?_
  refine WL.a (d:=16) rfl rfl rfl (yb y9j rfl (yc .here rfl)) ?_
  refine WL.pu rfl ?_
  refine WL.znth (dd:=18) rfl rfl (Z:=Z) (Pr:=(fun r x=>r = e53 x)) y4y rfl rfl zr4 zr5 ?_
  rintro zwW zwX zr6 zwY rfl
  refine WL.a (d:=19) rfl rfl rfl (ya y4J rfl rfl) ?_
  refine WL.a (d:=20) rfl rfl rfl (yb yg rfl (y2b hz.pv zr6 rfl)) ?_
  refine WL.pu rfl (WL.nil (WX.a (WC.b ?_)))
  obtain ⟨zr7,h⟩:=yi h
  refine WC.a (WL.pu rfl ?_)
  refine WL.a (d:=22) rfl rfl rfl (yt rfl) ?_
  refine WL.a (d:=23) rfl rfl rfl (ya fo_81_1 rfl rfl) ?_
  refine WL.a (d:=24) rfl rfl rfl (yb oneT_32 rfl (yc .here rfl)) ?_
  refine WL.pu rfl ?_
  refine WL.znth (dd:=26) rfl rfl (Z:=Z) (Pr:=(p55 Z)) y5K rfl rfl zr3 zr7 ?_
  rintro zwZ zx0 zr8 zx1 ⟨zlZ,zm0,rfl,zr9⟩
  refine WL.a (d:=27) rfl rfl rfl (yb y5L rfl (rd_z hz.pv zr8 rfl)) ?_
  refine WL.a (d:=28) rfl rfl rfl (yU Try.underlying55 rfl) ?_
  refine WL.pu rfl (WL.nil (WX.a ?_))
  obtain ⟨z7k,zra,h⟩:=y19 h
  refine WC.mid3 (fun (z5F : List Snetwork_event) (zb1 : Option Addr) (zb2 : Nat)=>(z7k z5F = some r)) (fun (z5F : List Snetwork_event) (zb1 : Option Addr) (zb2 : Nat)=>[]) (fun (z5F : List Snetwork_event) (zb1 : Option Addr) (zb2 : Nat)=>[row (.slice zb1 z5F.length zb2) 113 7 (z5F.flatMap yx),stb z3E 81 [(.slice z5G zy.fModules.length z5H),(.slice z5I zy.fChannels.length z5J),(.slice z5K zy.fSwitches.length z5L),(.slice z5M zy.fLinks.length z5N),(.slice z5O zy.fVLs.length z5P),(.slice z5Q zy.fHealth.length z5R),(.slice z5S zy.fCauses.length z5T),(.slice z5U zy.fVersions.length z5V),(.slice z5W z1q.length z5X),(.slice z5Y zX.length z5Z),(.map (some z2J)),(.slice zb1 z5F.length zb2),(.slice z60 z4v.length z61),(.slice z62 z4w.length z63)],y1e z2J (fun x=>Value.agg (y1S x).toArray) Value.pointer (y1n z2w),y1l z12 z2w]) ?_ ?_
  · skip
    refine WC.block ?_
    refine WC.y7b (fun (zb3 : Nat) (z22 : Int) (z3c : List Snetwork_event) (z7V : Option Addr) (z7W : Nat)=>(y1C z1q zX z13 z3D z3p z3q z7k zb3 z22 z3c = some r)) (fun (zb3 : Nat) (z22 : Int) (z3c : List Snetwork_event) (z7V : Option Addr) (z7W : Nat)=>[(0,(.pointer (some ⟨z3E,0,none⟩))),(1,(.int .i64 z3D)),(2,(.int .i64 z3p)),(3,(.int .i64 z3q)),(4,(.int .i64 z13)),(10,(.int .i64 ((nth zX z13).fVL))),(27,(.slice zlZ ((nth z1q ((nth zX z13).fVL)).length) zm0)),(28,(.int .i64 (((nth z1q ((nth zX z13).fVL)).length : Nat) : Int))),(29,(.int .i64 z22))]) (fun (zb3 : Nat) (z22 : Int) (z3c : List Snetwork_event) (z7V : Option Addr) (z7W : Nat)=>[row (.slice z7V z3c.length z7W) 113 7 (z3c.flatMap yx),stb z3E 81 [(.slice z5G zy.fModules.length z5H),(.slice z5I zy.fChannels.length z5J),(.slice z5K zy.fSwitches.length z5L),(.slice z5M zy.fLinks.length z5N),(.slice z5O zy.fVLs.length z5P),(.slice z5Q zy.fHealth.length z5R),(.slice z5S zy.fCauses.length z5T),(.slice z5U zy.fVersions.length z5V),(.slice z5W z1q.length z5X),(.slice z5Y zX.length z5Z),(.map (some z2J)),(.slice z7V z3c.length z7W),(.slice z60 z4v.length z61),(.slice z62 z4w.length z63)],y1e z2J (fun x=>Value.agg (y1S x).toArray) Value.pointer (y1n z2w),y1l z12 z2w]) (fun (zb3 : Nat) (z22 : Int) (z3c : List Snetwork_event) (z7V : Option Addr) (z7W : Nat)=>zb3) ⟨yz,0,z2v,z57,z58⟩ h (.cons rfl (.cons rfl (.cons rfl (.cons rfl (.cons rfl (.cons rfl (.cons rfl (.cons rfl (.cons rfl .nil))))))))) (.cons .h3 (.cons .here (.cons .here (.cons .here .nil)))) ?_
    rintro zb3 z22 z3c z7V z7W h
    obtain ⟨zhO,rfl⟩:=y4V h
    rw [y1C] at h
    refine WC.b (WC.a (WL.pu rfl (WL.nil (WX.a (WC.b ?_)))))
    refine WC.cond rfl (fun zhR=>?_) (fun zhR=>?_)
    · replace h:=yl h zhR
      refine WC.skip (WX.a ?_)
      obtain ⟨zf2,zrb,h⟩:=y19 h
      refine WC.y4e (fun (z56 : List Snetwork_event) (zb4 : Option Addr) (zb5 : Nat)=>(zf2 z56 = some r)) (fun (z56 : List Snetwork_event) (zb4 : Option Addr) (zb5 : Nat)=>[(0,(.pointer (some ⟨z3E,0,none⟩))),(1,(.int .i64 z3D)),(2,(.int .i64 z3p)),(3,(.int .i64 z3q)),(4,(.int .i64 z13)),(10,(.int .i64 ((nth zX z13).fVL))),(27,(.slice zlZ ((nth z1q ((nth zX z13).fVL)).length) zm0)),(28,(.int .i64 (((nth z1q ((nth zX z13).fVL)).length : Nat) : Int))),(29,(.int .i64 z22))]) (fun (z56 : List Snetwork_event) (zb4 : Option Addr) (zb5 : Nat)=>[row (.slice zb4 z56.length zb5) 113 7 (z56.flatMap yx),stb z3E 81 [(.slice z5G zy.fModules.length z5H),(.slice z5I zy.fChannels.length z5J),(.slice z5K zy.fSwitches.length z5L),(.slice z5M zy.fLinks.length z5N),(.slice z5O zy.fVLs.length z5P),(.slice z5Q zy.fHealth.length z5R),(.slice z5S zy.fCauses.length z5T),(.slice z5U zy.fVersions.length z5V),(.slice z5W z1q.length z5X),(.slice z5Y zX.length z5Z),(.map (some z2J)),(.slice zb4 z56.length zb5),(.slice z60 z4v.length z61),(.slice z62 z4w.length z63)],y1e z2J (fun x=>Value.agg (y1S x).toArray) Value.pointer (y1n z2w),y1l z12 z2w]) ?_ ?_
      · skip
        refine WC.block (WC.b ?_)
        obtain ⟨zrc,h⟩:=yi h
        refine WC.a ?_
        refine WL.znth (dd:=31) rfl rfl (Z:=Z) (Pr:=(fun r x=>r = e59 x)) y5M rfl rfl zr9 zrc ?_
        rintro zx2 zx3 zrd zx4 rfl
        refine WL.a (d:=32) rfl rfl rfl (yD y5N rfl (y3t hz.pv zrd) rfl) ?_
        refine WL.new (dd:=12) rfl rfl rfl (y1U (cs:=[(.int .i64 0),(.int .i64 0),(.int .i64 0)]) y7f rfl) ?_
        intro zx5 _
        refine WL.y1r rfl rfl (y1K y7N rfl rfl rfl .here rfl rfl rfl) ?_
        refine WL.nil (WX.a (WC.b (WC.a ?_)))
        refine WL.a (d:=33) rfl rfl rfl (ya y3v rfl rfl) ?_
        refine WL.a (d:=34) rfl rfl rfl (yb yg rfl (yc .here rfl)) ?_
        refine WL.pu rfl (WL.pu rfl (WL.nil (WX.a ?_)))
        refine WC.cond rfl (fun zhS=>?_) (fun zhS=>?_)
        · replace h:=yl h zhS
          obtain ⟨zhP,zre,h⟩:=zh h
          refine WC.yV (fun i=>[11].contains i) [] rfl ?_
          refine WD.a (i:=0) (d:=37) (by kernel_rfl) rfl (z2 (by kernel_rfl)) (z3 (by kernel_rfl)) rfl rfl rfl (fun _=>q_m rfl) ?_
          refine WD.a (i:=1) (d:=38) (by kernel_rfl) rfl (z2 (by kernel_rfl)) (z3 (by kernel_rfl)) rfl rfl rfl (fun _=>yt rfl) ?_
          refine WD.a (i:=2) (d:=39) (by kernel_rfl) rfl (z2 (by kernel_rfl)) (z3 (by kernel_rfl)) rfl rfl rfl (fun _=>ya y7Q rfl rfl) ?_
          refine WD.e (i:=3) (d:=40) (by kernel_rfl) rfl (z2 (by kernel_rfl)) (z3 (by kernel_rfl)) rfl rfl rfl (y5r Try.underlying111 rfl rfl) ?_
          refine WD.a (i:=4) (d:=41) (by kernel_rfl) rfl (z2 (by kernel_rfl)) (z3 (by kernel_rfl)) rfl rfl rfl (fun _=>q_m rfl) ?_
          refine WD.a (i:=5) (d:=42) (by kernel_rfl) rfl (z2 (by kernel_rfl)) (z3 (by kernel_rfl)) rfl rfl rfl (fun _=>q_m rfl) ?_
          refine WD.a (i:=6) (d:=43) (by kernel_rfl) rfl (z2 (by kernel_rfl)) (z3 (by kernel_rfl)) rfl rfl rfl (fun _=>q_m rfl) ?_
          refine WD.a (i:=7) (d:=44) (by kernel_rfl) rfl (z2 (by kernel_rfl)) (z3 (by kernel_rfl)) rfl rfl rfl (fun _=>q_m rfl) ?_
          refine WD.e (i:=8) (d:=45) (by kernel_rfl) rfl (z2 (by kernel_rfl)) (z3 (by kernel_rfl)) rfl rfl rfl (yD y5N rfl (y1h .here) rfl) ?_
          refine WD.a (i:=9) (d:=46) (by kernel_rfl) rfl (z2 (by kernel_rfl)) (z3 (by kernel_rfl)) rfl rfl rfl (fun _=>y1D (v:=(.agg #[(.int .i64 z3p),(.int .i64 z3q),(.int .i64 ((nth zX z13).fVL)),(.int .i64 z13),(.int .i64 ((nth (nth z1q ((nth zX z13).fVL)) z22).fNode)),(.int .i64 ((nth (nth z1q ((nth zX z13).fVL)) z22).fNext)),(.int .i64 ((nth (nth z1q ((nth zX z13).fVL)) z22).fLink))])) (Eos.parts (l:=[.tmp 41,.tmp 42,.tmp 43,.tmp 44,.tmp 45]) (.cons rfl (.cons rfl (.cons rfl (.cons rfl (.cons rfl .nil))))) [0,1,2,3,4]) (fun _=>by kernel_rfl)) ?_
          refine WD.e (i:=10) (d:=47) (by kernel_rfl) rfl (z2 (by kernel_rfl)) (z3 (by kernel_rfl)) rfl rfl rfl (y5r Try.underlying113 rfl rfl) ?_
          refine WD.call2 (i:=11) (dd:=48) rfl (by kernel_rfl) rfl rfl rfl (.inl ⟨rfl,fun _ _=>(Sin.of .nil)⟩) (zz (l:=[.tmp 40,.tmp 47]) Try.call38 (.cons rfl (.cons rfl .nil))) (.cons .h2 (.cons .h1 .nil)) (cc hz (.cons .h2 (.cons .h1 .nil)) fun w pz ho=>y5B _ _ _ _ _ _ _ _ _ _ _ _ _ _ _ _ _ _ _ _ zre w pz  ho) ?_
          rintro zrf zrg _
          refine WD.done (by kernel_rfl) ?_
          refine WX.yf ?_
          exact WX.mid (G:=List Snetwork_event × Option Addr × Nat) ⟨zhP,zrf,zrg⟩ h (.cons rfl (.cons rfl (.cons rfl (.cons rfl (.cons rfl (.cons rfl (.cons rfl (.cons rfl (.cons rfl .nil))))))))) (.cons .h1 (.cons .here (.cons .h1 (.cons .h1 .nil))))
        · replace h:=ym h zhS
          refine WC.skip (WX.yf ?_)
          exact WX.mid (G:=List Snetwork_event × Option Addr × Nat) ⟨z3c,z7V,z7W⟩ h (.cons rfl (.cons rfl (.cons rfl (.cons rfl (.cons rfl (.cons rfl (.cons rfl (.cons rfl (.cons rfl .nil))))))))) (.cons .h1 (.cons .h1 (.cons .h1 (.cons .h1 .nil))))
      · rintro z56 zb4 zb5 h
        replace h:=(zrb z56).symm.trans h
        refine WC.a (WL.pu rfl (WL.pu rfl (WL.nil ?_)))
        exact WX.round (G:=Nat × Int × List Snetwork_event × Option Addr × Nat) ⟨zhO,(i64 (z22 + 1)),z56,zb4,zb5⟩ h (Nat.lt_succ_self _) (.cons rfl (.cons rfl (.cons rfl (.cons rfl (.cons rfl (.cons rfl (.cons rfl (.cons rfl (.cons rfl .nil))))))))) (.cons .here (.cons .here (.cons .here (.cons .here .nil))))
    · replace h:=ym h zhR
      refine WC.exit (WX.ye (WX.ye (WX.yA ?_)))
      exact WX.mid (G:=List Snetwork_event × Option Addr × Nat) ⟨z3c,z7V,z7W⟩ h .nil (.cons .here (.cons .here (.cons .here (.cons .here .nil))))
  · rintro z5F zb1 zb2 h
    replace h:=(zra z5F).symm.trans h
    obtain rfl:=Option.some.inj h
    refine WX.y1V Try.results25 .nil (fun w hw=>?_)
    exact ⟨zb1,zb2,y4h,trivial,hw.sub (.cons .h1 (.cons .here (.cons .here (.cons .here .nil))))⟩
def y1a (z3d : Int) (z64 : Int → (List Snetwork_event) → Option (Bool × List Snetwork_event)) : Nat → Int → (List Snetwork_event) → Option (Bool × List Snetwork_event)
  | 0,_,_=>none
  | zhT + 1,z1H,z23=>if (decide ((i64 ((i64 (2 * z1H)) + 1)) ≥ z3d)) || (decide ((i64 ((i64 (2 * z1H)) + 1)) < 0)) then z64 z1H z23 else jp1 (fun (z59 : Int)=>(y1u z23 z59 z1H).bind fun zm1=>if !zm1 then z64 z1H z23 else (y1v z23 z1H z59).bind fun zf3=>y1a z3d z64 zhT z59 zf3) fun zf4=>(if decide ((i64 ((i64 ((i64 (2 * z1H)) + 1)) + 1)) < z3d) then (y1u z23 (i64 ((i64 ((i64 (2 * z1H)) + 1)) + 1)) (i64 ((i64 (2 * z1H)) + 1))).bind fun zm2=>some zm2 else some false).bind fun zhU=>if zhU then zf4 (i64 ((i64 ((i64 (2 * z1H)) + 1)) + 1)) else zf4 (i64 ((i64 (2 * z1H)) + 1))
theorem y4C {n : Nat} {z3d : Int} {z64 : Int → (List Snetwork_event) → Option (Bool × List Snetwork_event)} {z1H : Int} {z23 : List Snetwork_event} {r : Bool × List Snetwork_event} (h : y1a z3d z64 n z1H z23 = some r) : ∃ m,n = m + 1:=by
  cases n with
  | zero=>cases h
  | succ m=>exact ⟨m,rfl⟩
def y2j (z24 : List Snetwork_event) (i0_9332 : Int) (z3d : Int) : Option (Bool × List Snetwork_event) :=
  jp2 (fun (z7X : Int) (z5a : List Snetwork_event)=>some ((decide (z7X > i0_9332)),z5a)) fun z64=>y1a z3d z64 yz i0_9332 z24
set_option maxRecDepth 20000 in
theorem y5C (Z : Zp) (z3F : Nat) (z2x : Option Addr) (z2y : Nat) (z65 : Value) (z66 : Value) (z67 : Value) (z68 : Value) (z69 : Value) (z6a : Value) (z6b : Value) (z6c : Value) (z6d : Value) (z6e : Value) (z6f : Value) (z6g : Value) (z6h : Value) (z24 : List Snetwork_event) (i0_9332 : Int) (z3d : Int) (r : Bool × List Snetwork_event)
     (h : y2j z24 i0_9332 z3d = some r) (w₀ : World) (hz : PZ (fps [stb z3F 81 [z65,z66,z67,z68,z69,z6a,z6b,z6c,z6d,z6e,z6f,(.slice z2x z24.length z2y),z6g,z6h],row (.slice z2x z24.length z2y) 113 7 (z24.flatMap yx)]) w₀ Z)
    (hown : Hp (fps [stb z3F 81 [z65,z66,z67,z68,z69,z6a,z6b,z6c,z6d,z6e,z6f,(.slice z2x z24.length z2y),z6g,z6h],row (.slice z2x z24.length z2y) 113 7 (z24.flatMap yx)]) w₀ w₀ [stb z3F 81 [z65,z66,z67,z68,z69,z6a,z6b,z6c,z6d,z6e,z6f,(.slice z2x z24.length z2y),z6g,z6h],row (.slice z2x z24.length z2y) 113 7 (z24.flatMap yx)]) :
    Calls Try.prog 51 #[(.iface 111 (.pointer (some ⟨z3F,11,none⟩))),(.int .i64 i0_9332),(.int .i64 z3d)] w₀ fun e w'=>e = .returned (.bool r.1) ∧ (r.2.length = z24.length) ∧ Hp (fps [stb z3F 81 [z65,z66,z67,z68,z69,z6a,z6b,z6c,z6d,z6e,z6f,(.slice z2x z24.length z2y),z6g,z6h],row (.slice z2x z24.length z2y) 113 7 (z24.flatMap yx)]) w₀ w' [stb z3F 81 [z65,z66,z67,z68,z69,z6a,z6b,z6c,z6d,z6e,z6f,(.slice z2x r.2.length z2y),z6g,z6h],row (.slice z2x r.2.length z2y) 113 7 (r.2.flatMap yx)]:=by
  unfold y2j at h
  refine Calls.yk (vs:=[(.iface 111 (.pointer (some ⟨z3F,11,none⟩))),(.int .i64 i0_9332),(.int .i64 z3d)]) (pre:=[stb z3F 81 [z65,z66,z67,z68,z69,z6a,z6b,z6c,z6d,z6e,z6f,(.slice z2x z24.length z2y),z6g,z6h],row (.slice z2x z24.length z2y) 113 7 (z24.flatMap yx)]) (env:=[(0,(.iface 111 (.pointer (some ⟨z3F,11,none⟩)))),(1,(.int .i64 i0_9332)),(2,(.int .i64 z3d))]) Try.func51 rfl Try.ntmps51 rfl (hown) rfl ?_
  refine WC.b (WC.a (WL.pu rfl (WL.nil (WX.a (WC.b (WC.a (WL.pu rfl (WL.pu rfl (WL.nil (WX.a ?_))))))))))
  obtain ⟨z64,zrh,h⟩:=y2V h
  refine WC.y2w (fun (z7X : Int) (z5a : List Snetwork_event)=>(z64 z7X z5a = some r) ∧ (z5a.length = z24.length)) (fun (z7X : Int) (z5a : List Snetwork_event)=>[(1,(.int .i64 i0_9332)),(7,(.int .i64 z7X))]) (fun (z7X : Int) (z5a : List Snetwork_event)=>[row (.slice z2x z5a.length z2y) 113 7 (z5a.flatMap yx),stb z3F 81 [z65,z66,z67,z68,z69,z6a,z6b,z6c,z6d,z6e,z6f,(.slice z2x z5a.length z2y),z6g,z6h]]) ?_ ?_
  · skip
    refine WC.block ?_
    refine WC.y2m (fun (zb6 : Nat) (z1H : Int) (z23 : List Snetwork_event)=>(y1a z3d z64 zb6 z1H z23 = some r) ∧ (z23.length = z24.length)) (fun (zb6 : Nat) (z1H : Int) (z23 : List Snetwork_event)=>[(0,(.iface 111 (.pointer (some ⟨z3F,11,none⟩)))),(1,(.int .i64 i0_9332)),(2,(.int .i64 z3d)),(7,(.int .i64 z1H))]) (fun (zb6 : Nat) (z1H : Int) (z23 : List Snetwork_event)=>[row (.slice z2x z23.length z2y) 113 7 (z23.flatMap yx),stb z3F 81 [z65,z66,z67,z68,z69,z6a,z6b,z6c,z6d,z6e,z6f,(.slice z2x z23.length z2y),z6g,z6h]]) (fun (zb6 : Nat) (z1H : Int) (z23 : List Snetwork_event)=>zb6) ⟨yz,i0_9332,z24⟩ ⟨h,rfl⟩ (.cons rfl (.cons rfl (.cons rfl (.cons rfl .nil)))) (.cons .h1 (.cons .here .nil)) ?_
    rintro zb6 z1H z23 ⟨h,zhV⟩
    obtain ⟨zhT,rfl⟩:=y4C h
    rw [y1a] at h
    refine WC.block (WC.b (WC.a (WL.pu rfl (WL.pu rfl (WL.pu rfl (WL.pu rfl (WL.nil (WX.a (WC.b (WC.b (WC.a (WL.pu rfl (WL.pu rfl (WL.pu rfl (WL.pu rfl ?_)))))))))))))))
    refine WL.seg false 2 18 (B:=(decide ((i64 ((i64 (2 * z1H)) + 1)) ≥ z3d)) || (decide ((i64 ((i64 (2 * z1H)) + 1)) < 0))) rfl rfl rfl rfl rfl rfl (fun h=>(y2k h).symm) (fun _ zri=>?_) ?_
    · skip
      refine WL.pu rfl (WL.pu rfl (WL.pu rfl ?_))
      exact WL.ys (y2l zri) rfl rfl .all
    refine WL.nil (WX.a ?_)
    refine WC.cond rfl (fun zhW=>?_) (fun zhW=>?_)
    · replace h:=yl h zhW
      refine WC.exit (WX.ye (WX.y57 rfl (WX.ye (WX.yA ?_))))
      exact WX.mid (G:=Int × List Snetwork_event) ⟨z1H,z23⟩ ⟨h,zhV⟩ (.cons rfl (.cons rfl .nil)) (.cons .here (.cons .here .nil))
    · replace h:=ym h zhW
      refine WC.skip (WX.a (WC.b (WC.a (WL.pu rfl (WL.pu rfl (WL.nil (WX.a ?_)))))))
      obtain ⟨zf4,zrj,h⟩:=y19 h
      refine WC.y1R (fun (z59 : Int)=>(zf4 z59 = some r)) (fun (z59 : Int)=>[(0,(.iface 111 (.pointer (some ⟨z3F,11,none⟩)))),(1,(.int .i64 i0_9332)),(2,(.int .i64 z3d)),(7,(.int .i64 z1H)),(9,(.int .i64 z59))]) (fun (z59 : Int)=>[row (.slice z2x z23.length z2y) 113 7 (z23.flatMap yx),stb z3F 81 [z65,z66,z67,z68,z69,z6a,z6b,z6c,z6d,z6e,z6f,(.slice z2x z23.length z2y),z6g,z6h]]) ?_ ?_
      · skip
        refine WC.b (WC.a (WL.pu rfl (WL.pu rfl (WL.pu rfl (WL.nil (WX.a (WC.b ?_)))))))
        obtain ⟨zhU,zm3,h⟩:=zh h
        refine WC.a (WL.pu rfl (WL.pu rfl (WL.pu rfl (WL.pu rfl ?_))))
        refine WL.seg true 4 28 (B:=zhU) rfl rfl rfl rfl rfl rfl (fun h=>(Option.some.inj (ym zm3 h)).symm) (fun _ zrk=>?_) ?_
        · skip
          have zdC:=yl zm3 zrk
          obtain ⟨zm2,zrl,zdC⟩:=zh zdC
          replace zdC:=Option.some.inj zdC
          refine WL.pu rfl (WL.pu rfl (WL.pu rfl ?_))
          refine WL.b (dd:=32) rfl rfl rfl (y33 (l:=[.tmp 30,.tmp 31]) (y5e) Try.call87 rfl (yc .h1 rfl) (.cons rfl (.cons rfl .nil))) .nil (ccl hz .nil (.cons .here .nil) fun w pz ho la=>y3y _ _ _ _ _ _ _ zrl w pz (ZA.row (la _ (.head _) _) (RR.y1b (enc:=yx) (fun _=>rfl) _) ⟨w,pz.1⟩)) ?_
          refine WL.pu rfl ?_
          exact WL.ys zdC rfl rfl .all
        refine WL.nil (WX.a ?_)
        refine WC.cond rfl (fun zhX=>?_) (fun zhX=>?_)
        · replace h:=yl h zhX
          refine WC.a (WL.pu rfl (WL.pu rfl (WL.nil ?_)))
          exact WX.mid (G:=Int) (i64 ((i64 ((i64 (2 * z1H)) + 1)) + 1)) h (.cons rfl (.cons rfl (.cons rfl (.cons rfl (.cons rfl .nil))))) (.cons .here (.cons .here .nil))
        · replace h:=ym h zhX
          refine WC.skip ?_
          exact WX.mid (G:=Int) (i64 ((i64 (2 * z1H)) + 1)) h (.cons rfl (.cons rfl (.cons rfl (.cons rfl (.cons rfl .nil))))) (.cons .here (.cons .here .nil))
      · rintro z59 h
        replace h:=(zrj z59).symm.trans h
        refine WC.b (WC.b ?_)
        obtain ⟨zm1,zrm,h⟩:=zh h
        refine WC.a (WL.pu rfl (WL.pu rfl (WL.pu rfl ?_)))
        refine WL.b (dd:=38) rfl rfl rfl (y33 (l:=[.tmp 36,.tmp 37]) (y5e) Try.call87 rfl (yc .h1 rfl) (.cons rfl (.cons rfl .nil))) .nil (ccl hz .nil (.cons .here .nil) fun w pz ho la=>y3y _ _ _ _ _ _ _ zrm w pz (ZA.row (la _ (.head _) _) (RR.y1b (enc:=yx) (fun _=>rfl) _) ⟨w,pz.1⟩)) ?_
        refine WL.pu rfl (WL.nil (WX.a ?_))
        refine WC.cond rfl (fun zhY=>?_) (fun zhY=>?_)
        · replace h:=yl h zhY
          refine WC.exit (WX.ye (WX.y57 rfl (WX.ye (WX.yA ?_))))
          exact WX.mid (G:=Int × List Snetwork_event) ⟨z1H,z23⟩ ⟨h,zhV⟩ (.cons rfl (.cons rfl .nil)) (.cons .here (.cons .here .nil))
        · replace h:=ym h zhY
          refine WC.skip (WX.a (WC.b ?_))
          obtain ⟨zf3,zrn,h⟩:=zh h
          refine WC.a (WL.pu rfl (WL.pu rfl (WL.pu rfl ?_)))
          refine WL.y1L (dd:=43) rfl rfl rfl (y33 (l:=[.tmp 41,.tmp 42]) (y5f) Try.call88 rfl (yc .h1 rfl) (.cons rfl (.cons rfl .nil))) (.cons .here .nil) (cc hz (.cons .here .nil) fun w pz ho=>y3z _ _ _ _ _ _ _ zrn w pz  ho) ?_
          rintro  zm4
          refine WL.restb (cs':=[z65,z66,z67,z68,z69,z6a,z6b,z6c,z6d,z6e,z6f,(.slice z2x zf3.length z2y),z6g,z6h]) .h1 (by rw [zm4]) ?_
          refine WL.nil (WX.a (WC.a (WL.pu rfl (WL.pu rfl (WL.nil (WX.yf ?_))))))
          exact WX.round (G:=Nat × Int × List Snetwork_event) ⟨zhT,z59,zf3⟩ ⟨h,(zm4.trans zhV)⟩ (Nat.lt_succ_self _) (.cons rfl (.cons rfl (.cons rfl (.cons rfl .nil)))) (.cons .h1 (.cons .here .nil))
  · rintro z7X z5a ⟨h,zro⟩
    replace h:=(zrh z7X z5a).symm.trans h
    refine WC.b (WC.a (WL.pu rfl (WL.pu rfl (WL.pu rfl (WL.pu rfl (WL.nil (WX.a (WC.ret ?_))))))))
    obtain rfl:=Option.some.inj h
    refine WX.yh Try.results51 (.tmp rfl .nil) (fun w hw=>?_)
    exact ⟨y12 rfl,zro,hw.sub (.cons .h1 (.cons .here .nil))⟩
def y2R (zP : List Snetwork_event) : Option Snetwork_event :=
  chk ((0 : Int) ≤ (i64 (((zP.length : Nat) : Int) - 1)) ∧ (i64 (((zP.length : Nat) : Int) - 1)) < ((zP.length : Nat) : Int)) (chk ((0 : Int) ≤ (i64 (((zP.length : Nat) : Int) - 1)) ∧ (i64 (((zP.length : Nat) : Int) - 1)) ≤ ((zP.length : Nat) : Int)) (some (⟨((nth zP (i64 (((zP.length : Nat) : Int) - 1))).fTime),((nth zP (i64 (((zP.length : Nat) : Int) - 1))).fIn_),((nth zP (i64 (((zP.length : Nat) : Int) - 1))).fVl),((nth zP (i64 (((zP.length : Nat) : Int) - 1))).fSent),(⟨(((nth zP (i64 (((zP.length : Nat) : Int) - 1))).fHop).fNode),(((nth zP (i64 (((zP.length : Nat) : Int) - 1))).fHop).fNext),(((nth zP (i64 (((zP.length : Nat) : Int) - 1))).fHop).fLink)⟩ : Sapi_Hop)⟩ : Snetwork_event)))
set_option maxRecDepth 20000 in
theorem y5W (Z : Zp) (z7l : Nat) (z6i : Option Addr) (z6j : Nat) (z9e : Value) (z9f : Value) (z9g : Value) (z9h : Value) (z9i : Value) (z9j : Value) (z9k : Value) (z9l : Value) (z9m : Value) (z9n : Value) (z9o : Value) (z9p : Value) (z9q : Value) (zP : List Snetwork_event) (r : Snetwork_event)
     (h : y2R zP = some r) (w₀ : World) (hz : PZ (fps [stb z7l 81 [z9e,z9f,z9g,z9h,z9i,z9j,z9k,z9l,z9m,z9n,z9o,(.slice z6i zP.length z6j),z9p,z9q],row (.slice z6i zP.length z6j) 113 7 (zP.flatMap yx)]) w₀ Z)
    (hown : Hp (fps [stb z7l 81 [z9e,z9f,z9g,z9h,z9i,z9j,z9k,z9l,z9m,z9n,z9o,(.slice z6i zP.length z6j),z9p,z9q],row (.slice z6i zP.length z6j) 113 7 (zP.flatMap yx)]) w₀ w₀ [stb z7l 81 [z9e,z9f,z9g,z9h,z9i,z9j,z9k,z9l,z9m,z9n,z9o,(.slice z6i zP.length z6j),z9p,z9q],row (.slice z6i zP.length z6j) 113 7 (zP.flatMap yx)]) :
    Calls Try.prog 91 #[(.pointer (some ⟨z7l,11,none⟩))] w₀ fun e w'=>∃ zm5 : Option Addr,∃ zm6 : Nat,e = .returned (.iface 113 (.agg #[(.int .i64 r.fTime),(.int .i64 r.fIn_),(.int .i64 r.fVl),(.int .i64 r.fSent),(.int .i64 r.fHop.fNode),(.int .i64 r.fHop.fNext),(.int .i64 r.fHop.fLink)])) ∧ True ∧ Hp (fps [stb z7l 81 [z9e,z9f,z9g,z9h,z9i,z9j,z9k,z9l,z9m,z9n,z9o,(.slice z6i zP.length z6j),z9p,z9q],row (.slice z6i zP.length z6j) 113 7 (zP.flatMap yx)]) w₀ w' [stb z7l 81 [z9e,z9f,z9g,z9h,z9i,z9j,z9k,z9l,z9m,z9n,z9o,(.slice zm5 ((zP.take ((i64 (((zP.length : Nat) : Int) - 1)) : Int).toNat).length) zm6),z9p,z9q],row (.slice zm5 ((zP.take ((i64 (((zP.length : Nat) : Int) - 1)) : Int).toNat).length) zm6) 113 7 ((zP.take ((i64 (((zP.length : Nat) : Int) - 1)) : Int).toNat).flatMap yx)]:=by
  unfold y2R at h
  refine Calls.yk (vs:=[(.pointer (some ⟨z7l,11,none⟩))]) (pre:=[stb z7l 81 [z9e,z9f,z9g,z9h,z9i,z9j,z9k,z9l,z9m,z9n,z9o,(.slice z6i zP.length z6j),z9p,z9q],row (.slice z6i zP.length z6j) 113 7 (zP.flatMap yx)]) (env:=[(0,(.pointer (some ⟨z7l,11,none⟩)))]) Try.func91 rfl Try.ntmps91 rfl (hown) rfl ?_
  refine WC.b (WC.a (WL.pu rfl (WL.nil (WX.a (WC.b (WC.a (WL.pu rfl ?_)))))))
  refine WL.a (d:=6) rfl rfl rfl (yt rfl) ?_
  refine WL.a (d:=7) rfl rfl rfl (yb y55 rfl (yc .here rfl)) ?_
  refine WL.pu rfl (WL.nil (WX.a (WC.b ?_)))
  obtain ⟨zdD,h⟩:=yi h
  refine WC.a (WL.pu rfl (WL.pu rfl ?_))
  refine WL.a (d:=10) rfl rfl rfl (yU Try.underlying79 rfl) ?_
  refine WL.pu rfl ?_
  refine WL.know (fun w hw=>Hp.y2p .h1 hw (by intro hz'; have:=zdD; rw [hz'] at this; omega)) ?_
  rintro ⟨zx6,rfl⟩
  refine WL.a (d:=12) rfl rfl rfl (yr y4j rfl rfl zdD.1 zdD.2 y1c) ?_
  refine WL.a (d:=13) rfl rfl rfl (y1P (cs:=(yx (nth zP (i64 (((zP.length : Nat) : Int) - 1))))) za2 rfl rfl (y23 .h1 (y1W (enc:=yx) (l:=zP) (i:=i64 (((zP.length : Nat) : Int) - 1)) (sz:=7) (fun _=>rfl) zdD.1 zdD.2))) ?_
  refine WL.new (dd:=4) rfl rfl rfl (y1U (cs:=[(.int .i64 0),(.int .i64 0),(.int .i64 0),(.int .i64 0),(.int .i64 0),(.int .i64 0),(.int .i64 0)]) zk7 rfl) ?_
  intro zx7 _
  refine WL.y1r rfl rfl (y1K zev rfl rfl rfl .here rfl rfl rfl) ?_
  refine WL.nil (WX.a (WC.b ?_))
  obtain ⟨zrp,h⟩:=yi h
  refine WC.a (WL.pu rfl (WL.pu rfl (WL.pu rfl ?_)))
  refine WL.a (d:=17) rfl rfl rfl (yU Try.underlying79 rfl) ?_
  refine WL.pu rfl ?_
  refine WL.y6E (dd:=19) (enc:=yx) (ls:=zP) rfl rfl y4j rfl rfl .h2 (fun _=>rfl) zrp ?_
  intro zm7 zm8
  refine WL.a (d:=20) rfl rfl rfl (yt rfl) ?_
  refine WL.y1r rfl rfl (y3p (ds:=[z9e,z9f,z9g,z9h,z9i,z9j,z9k,z9l,z9m,z9n,z9o,(.slice zm7 ((zP.take ((i64 (((zP.length : Nat) : Int) - 1)) : Int).toNat).length) zm8),z9p,z9q]) y9k rfl rfl rfl rfl rfl .h2 rfl rfl) ?_
  refine WL.nil (WX.a (WC.b (WC.a ?_)))
  refine WL.a (d:=21) rfl rfl rfl (yD za2 rfl (y1h .h2) rfl) ?_
  refine WL.a (d:=22) rfl rfl rfl (y5r Try.underlying113 rfl rfl) ?_
  refine WL.pu rfl (WL.nil (WX.a (WC.ret ?_)))
  obtain rfl:=Option.some.inj h
  refine WX.yh Try.results91 (.tmp rfl .nil) (fun w hw=>?_)
  exact ⟨zm7,zm8,y12 rfl,trivial,hw.sub (.cons .here (.cons .here .nil))⟩
def y2q (z2z : List Snetwork_event) : Option (Snetwork_event × List Snetwork_event) :=
  (y2a z2z).bind fun zhZ=>(y1v z2z 0 (i64 (zhZ - 1))).bind fun zi0=>(y2j zi0 0 (i64 (zhZ - 1))).bind fun zdE=>(y2R zdE.2).bind fun zm9=>some (zm9,(zdE.2.take ((i64 (((zdE.2.length : Nat) : Int) - 1)) : Int).toNat))
set_option maxRecDepth 20000 in
theorem y5X (Z : Zp) (z7m : Nat) (z4x : Option Addr) (z4y : Nat) (z7Y : Value) (z7Z : Value) (z80 : Value) (z81 : Value) (z82 : Value) (z83 : Value) (z84 : Value) (z85 : Value) (z86 : Value) (z87 : Value) (z88 : Value) (z89 : Value) (z8a : Value) (z2z : List Snetwork_event) (r : Snetwork_event × List Snetwork_event)
     (h : y2q z2z = some r) (w₀ : World) (hz : PZ (fps [stb z7m 81 [z7Y,z7Z,z80,z81,z82,z83,z84,z85,z86,z87,z88,(.slice z4x z2z.length z4y),z89,z8a],row (.slice z4x z2z.length z4y) 113 7 (z2z.flatMap yx)]) w₀ Z)
    (hown : Hp (fps [stb z7m 81 [z7Y,z7Z,z80,z81,z82,z83,z84,z85,z86,z87,z88,(.slice z4x z2z.length z4y),z89,z8a],row (.slice z4x z2z.length z4y) 113 7 (z2z.flatMap yx)]) w₀ w₀ [stb z7m 81 [z7Y,z7Z,z80,z81,z82,z83,z84,z85,z86,z87,z88,(.slice z4x z2z.length z4y),z89,z8a],row (.slice z4x z2z.length z4y) 113 7 (z2z.flatMap yx)]) :
    Calls Try.prog 39 #[(.iface 111 (.pointer (some ⟨z7m,11,none⟩)))] w₀ fun e w'=>∃ zma : Option Addr,∃ zmb : Nat,e = .returned (.iface 113 (.agg #[(.int .i64 r.1.fTime),(.int .i64 r.1.fIn_),(.int .i64 r.1.fVl),(.int .i64 r.1.fSent),(.int .i64 r.1.fHop.fNode),(.int .i64 r.1.fHop.fNext),(.int .i64 r.1.fHop.fLink)])) ∧ True ∧ Hp (fps [stb z7m 81 [z7Y,z7Z,z80,z81,z82,z83,z84,z85,z86,z87,z88,(.slice z4x z2z.length z4y),z89,z8a],row (.slice z4x z2z.length z4y) 113 7 (z2z.flatMap yx)]) w₀ w' [stb z7m 81 [z7Y,z7Z,z80,z81,z82,z83,z84,z85,z86,z87,z88,(.slice zma r.2.length zmb),z89,z8a],row (.slice zma r.2.length zmb) 113 7 (r.2.flatMap yx)]:=by
  unfold y2q at h
  refine Calls.yk (vs:=[(.iface 111 (.pointer (some ⟨z7m,11,none⟩)))]) (pre:=[stb z7m 81 [z7Y,z7Z,z80,z81,z82,z83,z84,z85,z86,z87,z88,(.slice z4x z2z.length z4y),z89,z8a],row (.slice z4x z2z.length z4y) 113 7 (z2z.flatMap yx)]) (env:=[(0,(.iface 111 (.pointer (some ⟨z7m,11,none⟩))))]) Try.func39 rfl Try.ntmps39 rfl (hown) rfl ?_
  refine WC.b (WC.a (WL.pu rfl (WL.nil (WX.a (WC.b ?_)))))
  obtain ⟨zhZ,zrq,h⟩:=zh h
  refine WC.a (WL.pu rfl ?_)
  refine WL.b (dd:=5) rfl rfl rfl (y33 (l:=[]) (y78) Try.call86 rfl (yc .here rfl) .nil) .nil (ccl hz .nil (.cons .h1 .nil) fun w pz ho la=>y4B _ _ _ _ _ zrq w pz (ZA.row (la _ (.head _) _) (RR.y1b (enc:=yx) (fun _=>rfl) _) ⟨w,pz.1⟩)) ?_
  refine WL.pu rfl (WL.pu rfl (WL.nil (WX.a (WC.b ?_))))
  obtain ⟨zi0,zrr,h⟩:=zh h
  refine WC.a (WL.pu rfl (WL.pu rfl ?_))
  refine WL.y1L (dd:=9) rfl rfl rfl (y33 (l:=[.const (.int .i64 0),.tmp 8]) (y5f) Try.call88 rfl (yc .here rfl) (.cons rfl (.cons rfl .nil))) (.cons .h1 .nil) (cc hz (.cons .h1 .nil) fun w pz ho=>y3z _ _ _ _ _ _ _ zrr w pz  ho) ?_
  rintro  zrs
  refine WL.restb (cs':=[z7Y,z7Z,z80,z81,z82,z83,z84,z85,z86,z87,z88,(.slice z4x zi0.length z4y),z89,z8a]) .h1 (by rw [zrs]) ?_
  refine WL.nil (WX.a (WC.b ?_))
  obtain ⟨zdE,zrt,h⟩:=zh h
  refine WC.a (WL.pu rfl (WL.pu rfl ?_))
  refine WL.y1L (dd:=12) rfl rfl rfl (zz (l:=[.tmp 10,.const (.int .i64 0),.tmp 11]) Try.call51 (.cons rfl (.cons rfl (.cons rfl .nil)))) (.cons .here (.cons .here .nil)) (cc hz (.cons .here (.cons .here .nil)) fun w pz ho=>y5C _ _ _ _ _ _ _ _ _ _ _ _ _ _ _ _ _ _ _ _ _ zrt w pz  ho) ?_
  rintro  zru
  refine WL.restb (cs':=[z7Y,z7Z,z80,z81,z82,z83,z84,z85,z86,z87,z88,(.slice z4x zdE.2.length z4y),z89,z8a]) .here (by rw [zru]) ?_
  refine WL.nil (WX.a (WC.b ?_))
  obtain ⟨zm9,zrv,h⟩:=zh h
  refine WC.a (WL.pu rfl ?_)
  refine WL.y4T (dd:=14) rfl rfl rfl (y7v (l:=[]) (y95 _) Try.call91 rfl .nil) (.cons .here (.cons .here .nil)) (cc hz (.cons .here (.cons .here .nil)) fun w pz ho=>y5W _ _ _ _ _ _ _ _ _ _ _ _ _ _ _ _ _ _ _ zrv w pz  ho) ?_
  rintro zrw zrx _
  refine WL.pu rfl (WL.nil (WX.a (WC.ret ?_)))
  obtain rfl:=Option.some.inj h
  refine WX.yh Try.results39 (.tmp rfl .nil) (fun w hw=>?_)
  exact ⟨zrw,zrx,y12 rfl,trivial,hw.sub (.cons .here (.cons .here .nil))⟩
def y51 (z2e : Int) (z2K : Int) (z3G : Int) : Option Sport_Port :=
  if (((((decide (z2e < 1)) || (decide (z2e > 16))) || (decide (z2K < 0))) || (decide (z2K > 1000))) || (decide (z3G < 0))) || (decide (z3G > 1073741824)) then none else some (⟨(⟨z2e,z2K,z3G⟩ : Sport_numbers),0,0,([] : List Sport_frame)⟩ : Sport_Port)
set_option maxRecDepth 20000 in
theorem y9F (Z : Zp)  (z2e : Int) (z2K : Int) (z3G : Int) (r : Sport_Port)
     (h : y51 z2e z2K z3G = some r) (w₀ : World) (hz : PZ [] w₀ Z) :
    Calls Try.prog 52 #[(.int .i64 z2e),(.int .i64 z2K),(.int .i64 z3G)] w₀ fun e w'=>∃ zmc : Nat,∃ zmd : Option Addr,∃ zme : Nat,e = .returned (.tuple #[(.pointer (some ⟨zmc,0,none⟩)),(.int .i64 0)]) ∧ True ∧ Hp [] w₀ w' [stb zmc 143 [(.int .i64 r.fNumbers.fSlow),(.int .i64 r.fNumbers.fDelay),(.int .i64 r.fNumbers.fStore),(.int .i64 r.fNow),(.int .i64 r.fLast),(.slice zmd r.fFrames.length zme)],row (.slice zmd r.fFrames.length zme) 146 2 (r.fFrames.flatMap y20)]:=by
  unfold y51 at h
  refine Calls.yk (vs:=[(.int .i64 z2e),(.int .i64 z2K),(.int .i64 z3G)]) (pre:=[]) (env:=[(0,(.int .i64 z2e)),(1,(.int .i64 z2K)),(2,(.int .i64 z3G))]) Try.func52 rfl Try.ntmps52 rfl (Hp.nil w₀ _) rfl ?_
  refine WC.b (WC.a (WL.pu rfl (WL.pu rfl (WL.nil (WX.a (WC.b (WC.b (WC.a (WL.pu rfl (WL.pu rfl (WL.pu rfl ?_)))))))))))
  refine WL.seg false 2 10 (B:=(decide (z2e < 1)) || (decide (z2e > 16))) rfl rfl rfl rfl rfl rfl (fun h=>(y2k h).symm) (fun _ zry=>?_) ?_
  · skip
    refine WL.pu rfl (WL.pu rfl (WL.pu rfl ?_))
    exact WL.ys (y2l zry) rfl rfl .all
  refine WL.pu rfl ?_
  refine WL.seg false 2 14 (B:=((decide (z2e < 1)) || (decide (z2e > 16))) || (decide (z2K < 0))) rfl rfl rfl rfl rfl rfl (fun h=>(y2k h).symm) (fun _ zrz=>?_) ?_
  · skip
    refine WL.pu rfl (WL.pu rfl (WL.pu rfl ?_))
    exact WL.ys (y2l zrz) rfl rfl .all
  refine WL.pu rfl ?_
  refine WL.seg false 2 18 (B:=(((decide (z2e < 1)) || (decide (z2e > 16))) || (decide (z2K < 0))) || (decide (z2K > 1000))) rfl rfl rfl rfl rfl rfl (fun h=>(y2k h).symm) (fun _ zrA=>?_) ?_
  · skip
    refine WL.pu rfl (WL.pu rfl (WL.pu rfl ?_))
    exact WL.ys (y2l zrA) rfl rfl .all
  refine WL.pu rfl ?_
  refine WL.seg false 2 22 (B:=((((decide (z2e < 1)) || (decide (z2e > 16))) || (decide (z2K < 0))) || (decide (z2K > 1000))) || (decide (z3G < 0))) rfl rfl rfl rfl rfl rfl (fun h=>(y2k h).symm) (fun _ zrB=>?_) ?_
  · skip
    refine WL.pu rfl (WL.pu rfl (WL.pu rfl ?_))
    exact WL.ys (y2l zrB) rfl rfl .all
  refine WL.pu rfl ?_
  refine WL.seg false 2 26 (B:=(((((decide (z2e < 1)) || (decide (z2e > 16))) || (decide (z2K < 0))) || (decide (z2K > 1000))) || (decide (z3G < 0))) || (decide (z3G > 1073741824))) rfl rfl rfl rfl rfl rfl (fun h=>(y2k h).symm) (fun _ zrC=>?_) ?_
  · skip
    refine WL.pu rfl (WL.pu rfl (WL.pu rfl ?_))
    exact WL.ys (y2l zrC) rfl rfl .all
  refine WL.nil (WX.a ?_)
  refine WC.cond rfl (fun zi1=>?_) (fun zi1=>?_)
  · replace h:=yl h zi1
    refine WC.b (WC.a (WL.pu rfl (WL.pu rfl (WL.nil (WX.a (WC.ret (WX.yj ?_)))))))
    cases h
  · replace h:=ym h zi1
    refine WC.skip (WX.a (WC.b (WC.a (WL.pu rfl (WL.pu rfl (WL.pu rfl ?_))))))
    refine WL.a (d:=33) rfl rfl rfl (y1D (v:=(.agg #[(.int .i64 z2e),(.int .i64 z2K),(.int .i64 z3G)])) (Eos.parts (l:=[.tmp 30,.tmp 31,.tmp 32]) (.cons rfl (.cons rfl (.cons rfl .nil))) [0,1,2]) (fun _=>by kernel_rfl)) ?_
    refine WL.a (d:=34) rfl rfl rfl (y1D (v:=(.agg #[(.int .i64 z2e),(.int .i64 z2K),(.int .i64 z3G),(.int .i64 0),(.int .i64 0),(.slice none 0 0)])) (Eos.parts (l:=[.tmp 33]) (.cons rfl .nil) [0]) (fun _=>by kernel_rfl)) ?_
    refine WL.new (dd:=35) rfl rfl rfl (y2g (cs:=[(.int .i64 z2e),(.int .i64 z2K),(.int .i64 z3G),(.int .i64 0),(.int .i64 0),(.slice none 0 0)]) rfl rfl) ?_
    intro zrD _
    refine WL.pu rfl (WL.pu rfl (WL.nil (WX.a (WC.ret ?_))))
    refine WX.nilRow 146 2 ?_
    obtain rfl:=Option.some.inj h
    refine WX.yh Try.results52 (.tmp rfl (.tmp rfl .nil)) (fun w hw=>?_)
    exact ⟨zrD,none,0,ret2 rfl rfl,trivial,hw.sub (.cons .h1 (.cons .here .nil))⟩
def y3b (z1r : Sapi_Config) (zf5 : List (List Sapi_Hop)) (zf6 : List zSt) (z8b : List (Snetwork_exit × Sport_Port)) (zf7 : List Snetwork_event) (zf8 : List Sapi_Come) (zf9 : List Sapi_Come) (zJ : Sapi_Hop) : Option (List (Snetwork_exit × Sport_Port)) :=
  jp1 (fun (z8c : List (Snetwork_exit × Sport_Port))=>some z8c) fun zfa=>if !y2c z8b (⟨zJ.fNode,zJ.fLink⟩ : Snetwork_exit) then jp2 (fun (z8d : Int) (z8e : Int)=>chk ((0 : Int) ≤ zJ.fLink ∧ zJ.fLink < ((z1r.fLinks.length : Nat) : Int)) ((y51 ((nth z1r.fLinks zJ.fLink).fSlow) z8d z8e).bind fun z9r=>zfa (y14 z8b (⟨zJ.fNode,zJ.fLink⟩ : Snetwork_exit) z9r))) fun zfb=>if decide ((i64 (zJ.fNode - ((z1r.fModules.length : Nat) : Int))) ≥ 0) then chk ((0 : Int) ≤ (i64 (zJ.fNode - ((z1r.fModules.length : Nat) : Int))) ∧ (i64 (zJ.fNode - ((z1r.fModules.length : Nat) : Int))) < ((z1r.fSwitches.length : Nat) : Int)) (zfb ((nth z1r.fSwitches (i64 (zJ.fNode - ((z1r.fModules.length : Nat) : Int)))).fDelay) ((nth z1r.fSwitches (i64 (zJ.fNode - ((z1r.fModules.length : Nat) : Int)))).fStore)) else zfb 0 1073741824 else zfa z8b
set_option maxRecDepth 20000 in
theorem y7i (Z : Zp) (zb7 : Addr) (zmf : Option Addr) (zmg : Nat) (zmh : Option Addr) (zmi : Nat) (zmj : Option Addr) (zmk : Nat) (zml : Option Addr) (zmm : Nat) (zmn : Option Addr) (zmo : Nat) (zmp : Option Addr) (zmq : Nat) (zmr : Option Addr) (zms : Nat) (zmt : Option Addr) (zmu : Nat) (zmv : Option Addr) (zmw : Nat) (zmx : Option Addr) (zmy : Nat) (z6k : Nat) (z2X : List (Snetwork_exit × ((Nat × (Option Addr × Nat)) × Sport_Port))) (zmz : Option Addr) (zmA : Nat) (zmB : Option Addr) (zmC : Nat) (zmD : Option Addr) (zmE : Nat) (z1r : Sapi_Config) (zf5 : List (List Sapi_Hop)) (zf6 : List zSt) (z8b : List (Snetwork_exit × Sport_Port)) (zf7 : List Snetwork_event) (zf8 : List Sapi_Come) (zf9 : List Sapi_Come) (zJ : Sapi_Hop) (r : (List (Snetwork_exit × Sport_Port)))
     (h : y3b z1r zf5 zf6 z8b zf7 zf8 zf9 zJ = some r) (w₀ : World) (hz : PZ (fps [y1e z6k (fun x=>Value.agg (y1S x).toArray) Value.pointer (y1n z2X),y1l z12 z2X]) w₀ Z)
     (zx8 : ZS Z 4 (y2x Z) zmf zmg z1r.fModules)
     (zx9 : ZS Z 4 (y2W Z) zmh zmi z1r.fChannels)
     (zmF : ZS Z 4 (fun r x=>r = e64 x) zmj zmk z1r.fSwitches)
     (zrE : ZS Z 4 (fun r x=>r = e62 x) zml zmm z1r.fLinks)
     (zxa : ZS Z 7 (y2J Z) zmn zmo z1r.fVLs)
     (zxb : ZS Z 5 (fun r x=>r = y2Z x) zmp zmq z1r.fHealth)
     (zxc : ZS Z 3 (y2X Z) zmr zms z1r.fCauses)
     (zxd : ZS Z 4 (fun r x=>r = y30 x) zmt zmu z1r.fVersions)
     (zxe : ZS Z 1 (p55 Z) zmv zmw zf5)
     (zxf : ZS Z 3 (fun r x=>r = e53 x) zmx zmy zf6)
     (zi2 : dat z2X = z8b)
     (zxg : ZS Z 7 (fun r x=>r = yx x) zmz zmA zf7)
     (zxh : ZS Z 3 (fun r x=>r = e50 x) zmB zmC zf8)
     (zxi : ZS Z 3 (fun r x=>r = e50 x) zmD zmE zf9)
     (z9s : ZC Z zb7 [(.slice zmf z1r.fModules.length zmg),(.slice zmh z1r.fChannels.length zmi),(.slice zmj z1r.fSwitches.length zmk),(.slice zml z1r.fLinks.length zmm),(.slice zmn z1r.fVLs.length zmo),(.slice zmp z1r.fHealth.length zmq),(.slice zmr z1r.fCauses.length zms),(.slice zmt z1r.fVersions.length zmu),(.slice zmv zf5.length zmw),(.slice zmx zf6.length zmy),(.map (some z6k)),(.slice zmz zf7.length zmA),(.slice zmB zf8.length zmC),(.slice zmD zf9.length zmE)])
    (hown : Hp (fps [y1e z6k (fun x=>Value.agg (y1S x).toArray) Value.pointer (y1n z2X),y1l z12 z2X]) w₀ w₀ [y1e z6k (fun x=>Value.agg (y1S x).toArray) Value.pointer (y1n z2X),y1l z12 z2X]) :
    Calls Try.prog 40 #[(.pointer (some zb7)),(.agg #[(.int .i64 zJ.fNode),(.int .i64 zJ.fNext),(.int .i64 zJ.fLink)])] w₀ fun e w'=>∃ zfc : List (Snetwork_exit × ((Nat × (Option Addr × Nat)) × Sport_Port)),e = .returned (.pointer (yw (y1n zfc) (⟨zJ.fNode,zJ.fLink⟩ : Snetwork_exit) (none : Option Addr))) ∧ (dat zfc = r) ∧ Hp (fps [y1e z6k (fun x=>Value.agg (y1S x).toArray) Value.pointer (y1n z2X),y1l z12 z2X]) w₀ w' [y1e z6k (fun x=>Value.agg (y1S x).toArray) Value.pointer (y1n zfc),y1l z12 zfc]:=by
  unfold y3b at h
  refine Calls.yk (vs:=[(.pointer (some zb7)),(.agg #[(.int .i64 zJ.fNode),(.int .i64 zJ.fNext),(.int .i64 zJ.fLink)])]) (pre:=[y1e z6k (fun x=>Value.agg (y1S x).toArray) Value.pointer (y1n z2X),y1l z12 z2X]) (env:=[(0,(.pointer (some zb7))),(1,(.agg #[(.int .i64 zJ.fNode),(.int .i64 zJ.fNext),(.int .i64 zJ.fLink)]))]) Try.func40 rfl Try.ntmps40 rfl (hown) rfl ?_
  refine WC.b (WC.a ?_)
  refine WL.new (dd:=3) rfl rfl rfl (y2g (cs:=[(.int .i64 zJ.fNode),(.int .i64 zJ.fNext),(.int .i64 zJ.fLink)]) rfl rfl) ?_
  intro zi3 _
  refine WL.pu rfl (WL.nil (WX.a (WC.b (WC.a ?_))))
  refine WL.a (d:=9) rfl rfl rfl (ya y3v rfl rfl) ?_
  refine WL.a (d:=10) rfl rfl rfl (yb yg rfl (yc .here rfl)) ?_
  refine WL.a (d:=11) rfl rfl rfl (ya y6U rfl rfl) ?_
  refine WL.a (d:=12) rfl rfl rfl (yb yg rfl (yc .here rfl)) ?_
  refine WL.a (d:=13) rfl rfl rfl (y1D (v:=(.agg #[(.int .i64 zJ.fNode),(.int .i64 zJ.fLink)])) (Eos.parts (l:=[.tmp 10,.tmp 12]) (.cons rfl (.cons rfl .nil)) [0,1]) (fun _=>by kernel_rfl)) ?_
  refine WL.new (dd:=5) rfl rfl rfl (y1U (cs:=[(.int .i64 0),(.int .i64 0)]) zos rfl) ?_
  intro zdF _
  refine WL.y1r rfl rfl (y1K zot rfl rfl rfl .here rfl rfl rfl) ?_
  refine WL.nil (WX.a ?_)
  obtain ⟨zfa,zrF,h⟩:=y19 h
  refine WC.y2w (fun (z8c : List (Snetwork_exit × Sport_Port)) (z9t : List (Snetwork_exit × ((Nat × (Option Addr × Nat)) × Sport_Port)))=>(zfa z8c = some r) ∧ (dat z9t = z8c)) (fun (z8c : List (Snetwork_exit × Sport_Port)) (z9t : List (Snetwork_exit × ((Nat × (Option Addr × Nat)) × Sport_Port)))=>[(0,(.pointer (some zb7))),(5,(.pointer (some ⟨zdF,0,none⟩)))]) (fun (z8c : List (Snetwork_exit × Sport_Port)) (z9t : List (Snetwork_exit × ((Nat × (Option Addr × Nat)) × Sport_Port)))=>[stb zdF 136 [(.int .i64 zJ.fNode),(.int .i64 zJ.fLink)],y1e z6k (fun x=>Value.agg (y1S x).toArray) Value.pointer (y1n z9t),y1l z12 z9t]) ?_ ?_
  · skip
    refine WC.b ?_
    refine WC.yV (fun i=>[].contains i) [] rfl ?_
    refine WD.a (i:=0) (d:=14) (by kernel_rfl) rfl (z2 (by kernel_rfl)) (z3 (by kernel_rfl)) rfl rfl rfl (fun _=>q_m rfl) ?_
    refine WD.a (i:=1) (d:=15) (by kernel_rfl) rfl (z2 (by kernel_rfl)) (z3 (by kernel_rfl)) rfl rfl rfl (fun _=>yt rfl) ?_
    refine WD.a (i:=2) (d:=16) (by kernel_rfl) rfl (z2 (by kernel_rfl)) (z3 (by kernel_rfl)) rfl rfl rfl (fun _=>ya y7R rfl rfl) ?_
    refine WD.e (i:=3) (d:=17) (by kernel_rfl) rfl (z2 (by kernel_rfl)) (z3 (by kernel_rfl)) rfl rfl rfl (yb y7S rfl (y2b hz.pv z9s rfl)) ?_
    refine WD.e (i:=4) (d:=18) (by kernel_rfl) rfl (z2 (by kernel_rfl)) (z3 (by kernel_rfl)) rfl rfl rfl (yD zgo rfl (y1h .here) rfl) ?_
    refine WD.e (i:=5) (d:=19) (by kernel_rfl) rfl (z2 (by kernel_rfl)) (z3 (by kernel_rfl)) rfl rfl rfl (y4I (k:=(⟨zJ.fNode,zJ.fLink⟩ : Snetwork_exit)) (dflt:=(none : Option Addr)) zgp Try.underlying77 zk8 rfl rfl rfl .h2) ?_
    refine WD.a (i:=6) (d:=20) (by kernel_rfl) rfl (z2 (by kernel_rfl)) (z3 (by kernel_rfl)) rfl rfl rfl (fun _=>q_eqlPN zi2 Try.underlying116 rfl rfl) ?_
    refine WD.done (by kernel_rfl) ?_
    refine WX.a ?_
    refine WC.cond rfl (fun zi4=>?_) (fun zi4=>?_)
    · replace h:=yl h zi4
      refine WC.b (WC.a (WL.pu rfl (WL.pu rfl (WL.nil (WX.a ?_)))))
      obtain ⟨zfb,zrG,h⟩:=y2V h
      refine WC.y2w (fun (z8d : Int) (z8e : Int)=>(zfb z8d z8e = some r)) (fun (z8d : Int) (z8e : Int)=>[(0,(.pointer (some zb7))),(3,(.pointer (some ⟨zi3,0,none⟩))),(5,(.pointer (some ⟨zdF,0,none⟩))),(6,(.int .i64 z8d)),(7,(.int .i64 z8e))]) (fun (z8d : Int) (z8e : Int)=>[stb zi3 59 [(.int .i64 zJ.fNode),(.int .i64 zJ.fNext),(.int .i64 zJ.fLink)],stb zdF 136 [(.int .i64 zJ.fNode),(.int .i64 zJ.fLink)],y1e z6k (fun x=>Value.agg (y1S x).toArray) Value.pointer (y1n z2X),y1l z12 z2X]) ?_ ?_
      · skip
        refine WC.b ?_
        refine WC.yV (fun i=>[].contains i) [] rfl ?_
        refine WD.a (i:=0) (d:=21) (by kernel_rfl) rfl (z2 (by kernel_rfl)) (z3 (by kernel_rfl)) rfl rfl rfl (fun _=>ya y3v rfl rfl) ?_
        refine WD.e (i:=1) (d:=22) (by kernel_rfl) rfl (z2 (by kernel_rfl)) (z3 (by kernel_rfl)) rfl rfl rfl (yb yg rfl (yc .h1 rfl)) ?_
        refine WD.a (i:=2) (d:=23) (by kernel_rfl) rfl (z2 (by kernel_rfl)) (z3 (by kernel_rfl)) rfl rfl rfl (fun _=>q_m rfl) ?_
        refine WD.a (i:=3) (d:=24) (by kernel_rfl) rfl (z2 (by kernel_rfl)) (z3 (by kernel_rfl)) rfl rfl rfl (fun _=>yt rfl) ?_
        refine WD.a (i:=4) (d:=25) (by kernel_rfl) rfl (z2 (by kernel_rfl)) (z3 (by kernel_rfl)) rfl rfl rfl (fun _=>ya y5S rfl rfl) ?_
        refine WD.a (i:=5) (d:=26) (by kernel_rfl) rfl (z2 (by kernel_rfl)) (z3 (by kernel_rfl)) rfl rfl rfl (fun _=>ya y3V rfl rfl) ?_
        refine WD.e (i:=6) (d:=27) (by kernel_rfl) rfl (z2 (by kernel_rfl)) (z3 (by kernel_rfl)) rfl rfl rfl (yb y3W rfl (y2b hz.pv z9s rfl)) ?_
        refine WD.a (i:=7) (d:=28) (by kernel_rfl) rfl (z2 (by kernel_rfl)) (z3 (by kernel_rfl)) rfl rfl rfl (fun _=>yU Try.underlying22 rfl) ?_
        refine WD.a (i:=8) (d:=29) (by kernel_rfl) rfl (z2 (by kernel_rfl)) (z3 (by kernel_rfl)) rfl rfl rfl (fun _=>y4Q rfl rfl rfl) ?_
        refine WD.a (i:=9) (d:=8) (by kernel_rfl) rfl (z2 (by kernel_rfl)) (z3 (by kernel_rfl)) rfl rfl rfl (fun _=>q_z rfl) ?_
        refine WD.done (by kernel_rfl) ?_
        refine WX.a (WC.b (WC.a (WL.pu rfl (WL.pu rfl (WL.nil (WX.a ?_))))))
        refine WC.cond rfl (fun zi5=>?_) (fun zi5=>?_)
        · replace h:=yl h zi5
          obtain ⟨zmG,h⟩:=yi h
          refine WC.yV (fun i=>[].contains i) [] rfl ?_
          refine WD.a (i:=0) (d:=32) (by kernel_rfl) rfl (z2 (by kernel_rfl)) (z3 (by kernel_rfl)) rfl rfl rfl (fun _=>q_m rfl) ?_
          refine WD.a (i:=1) (d:=33) (by kernel_rfl) rfl (z2 (by kernel_rfl)) (z3 (by kernel_rfl)) rfl rfl rfl (fun _=>yt rfl) ?_
          refine WD.a (i:=2) (d:=34) (by kernel_rfl) rfl (z2 (by kernel_rfl)) (z3 (by kernel_rfl)) rfl rfl rfl (fun _=>ya y5S rfl rfl) ?_
          refine WD.a (i:=3) (d:=35) (by kernel_rfl) rfl (z2 (by kernel_rfl)) (z3 (by kernel_rfl)) rfl rfl rfl (fun _=>ya y2P rfl rfl) ?_
          refine WD.e (i:=4) (d:=36) (by kernel_rfl) rfl (z2 (by kernel_rfl)) (z3 (by kernel_rfl)) rfl rfl rfl (yb y3i rfl (y2b hz.pv z9s rfl)) ?_
          refine WD.a (i:=5) (d:=37) (by kernel_rfl) rfl (z2 (by kernel_rfl)) (z3 (by kernel_rfl)) rfl rfl rfl (fun _=>q_m rfl) ?_
          refine WD.znth (j:=6) (dd:=38) (by kernel_rfl) rfl (z2 (by kernel_rfl)) (z3 (by kernel_rfl)) rfl rfl (Z:=Z) (Pr:=(fun r x=>r = e64 x)) y3P rfl rfl zmF zmG ?_
          rintro zxj zxk zrH zxl rfl
          refine WD.a (i:=7) (d:=39) (by kernel_rfl) rfl (z2 (by kernel_rfl)) (z3 (by kernel_rfl)) rfl rfl rfl (fun _=>ya y7P rfl rfl) ?_
          refine WD.e (i:=8) (d:=40) (by kernel_rfl) rfl (z2 (by kernel_rfl)) (z3 (by kernel_rfl)) rfl rfl rfl (yb yg rfl (y2b hz.pv zrH rfl)) ?_
          refine WD.a (i:=9) (d:=41) (by kernel_rfl) rfl (z2 (by kernel_rfl)) (z3 (by kernel_rfl)) rfl rfl rfl (fun _=>q_m rfl) ?_
          refine WD.a (i:=10) (d:=42) (by kernel_rfl) rfl (z2 (by kernel_rfl)) (z3 (by kernel_rfl)) rfl rfl rfl (fun _=>yt rfl) ?_
          refine WD.a (i:=11) (d:=43) (by kernel_rfl) rfl (z2 (by kernel_rfl)) (z3 (by kernel_rfl)) rfl rfl rfl (fun _=>ya y5S rfl rfl) ?_
          refine WD.a (i:=12) (d:=44) (by kernel_rfl) rfl (z2 (by kernel_rfl)) (z3 (by kernel_rfl)) rfl rfl rfl (fun _=>ya y2P rfl rfl) ?_
          refine WD.e (i:=13) (d:=45) (by kernel_rfl) rfl (z2 (by kernel_rfl)) (z3 (by kernel_rfl)) rfl rfl rfl (yb y3i rfl (y2b hz.pv z9s rfl)) ?_
          refine WD.a (i:=14) (d:=46) (by kernel_rfl) rfl (z2 (by kernel_rfl)) (z3 (by kernel_rfl)) rfl rfl rfl (fun _=>q_m rfl) ?_
          refine WD.znth (j:=15) (dd:=47) (by kernel_rfl) rfl (z2 (by kernel_rfl)) (z3 (by kernel_rfl)) rfl rfl (Z:=Z) (Pr:=(fun r x=>r = e64 x)) y3P rfl rfl zmF zmG ?_
          rintro zxm zxn zrI zxo rfl
          refine WD.a (i:=16) (d:=48) (by kernel_rfl) rfl (z2 (by kernel_rfl)) (z3 (by kernel_rfl)) rfl rfl rfl (fun _=>ya y5P rfl rfl) ?_
          refine WD.e (i:=17) (d:=49) (by kernel_rfl) rfl (z2 (by kernel_rfl)) (z3 (by kernel_rfl)) rfl rfl rfl (yb yg rfl (y2b hz.pv zrI rfl)) ?_
          refine WD.a (i:=18) (d:=6) (by kernel_rfl) rfl (z2 (by kernel_rfl)) (z3 (by kernel_rfl)) rfl rfl rfl (fun _=>q_z rfl) ?_
          refine WD.a (i:=19) (d:=7) (by kernel_rfl) rfl (z2 (by kernel_rfl)) (z3 (by kernel_rfl)) rfl rfl rfl (fun _=>q_z rfl) ?_
          refine WD.done (by kernel_rfl) ?_
          exact WX.mid (G:=Int × Int) ⟨((nth z1r.fSwitches (i64 (zJ.fNode - ((z1r.fModules.length : Nat) : Int)))).fDelay),((nth z1r.fSwitches (i64 (zJ.fNode - ((z1r.fModules.length : Nat) : Int)))).fStore)⟩ h (.cons rfl (.cons rfl (.cons rfl (.cons rfl (.cons rfl .nil))))) (.cons .h1 (.cons .here (.cons .here (.cons .here .nil))))
        · replace h:=ym h zi5
          refine WC.skip ?_
          exact WX.mid (G:=Int × Int) ⟨0,1073741824⟩ h (.cons rfl (.cons rfl (.cons rfl (.cons rfl (.cons rfl .nil))))) (.cons .h1 (.cons .here (.cons .here (.cons .here .nil))))
      · rintro z8d z8e h
        replace h:=(zrG z8d z8e).symm.trans h
        obtain ⟨zrJ,h⟩:=yi h
        obtain ⟨z9r,zrK,h⟩:=zh h
        refine WC.yV (fun i=>[21].contains i) [] rfl ?_
        refine WD.a (i:=0) (d:=51) (by kernel_rfl) rfl (z2 (by kernel_rfl)) (z3 (by kernel_rfl)) rfl rfl rfl (fun _=>q_m rfl) ?_
        refine WD.a (i:=1) (d:=52) (by kernel_rfl) rfl (z2 (by kernel_rfl)) (z3 (by kernel_rfl)) rfl rfl rfl (fun _=>yt rfl) ?_
        refine WD.a (i:=2) (d:=53) (by kernel_rfl) rfl (z2 (by kernel_rfl)) (z3 (by kernel_rfl)) rfl rfl rfl (fun _=>ya y7R rfl rfl) ?_
        refine WD.e (i:=3) (d:=54) (by kernel_rfl) rfl (z2 (by kernel_rfl)) (z3 (by kernel_rfl)) rfl rfl rfl (yb y7S rfl (y2b hz.pv z9s rfl)) ?_
        refine WD.e (i:=4) (d:=55) (by kernel_rfl) rfl (z2 (by kernel_rfl)) (z3 (by kernel_rfl)) rfl rfl rfl (yD zgo rfl (y1h .h1) rfl) ?_
        refine WD.a (i:=5) (d:=56) (by kernel_rfl) rfl (z2 (by kernel_rfl)) (z3 (by kernel_rfl)) rfl rfl rfl (fun _=>q_m rfl) ?_
        refine WD.a (i:=6) (d:=57) (by kernel_rfl) rfl (z2 (by kernel_rfl)) (z3 (by kernel_rfl)) rfl rfl rfl (fun _=>yt rfl) ?_
        refine WD.a (i:=7) (d:=58) (by kernel_rfl) rfl (z2 (by kernel_rfl)) (z3 (by kernel_rfl)) rfl rfl rfl (fun _=>ya y5S rfl rfl) ?_
        refine WD.a (i:=8) (d:=59) (by kernel_rfl) rfl (z2 (by kernel_rfl)) (z3 (by kernel_rfl)) rfl rfl rfl (fun _=>ya y6P rfl rfl) ?_
        refine WD.e (i:=9) (d:=60) (by kernel_rfl) rfl (z2 (by kernel_rfl)) (z3 (by kernel_rfl)) rfl rfl rfl (yb y6Q rfl (y2b hz.pv z9s rfl)) ?_
        refine WD.a (i:=10) (d:=61) (by kernel_rfl) rfl (z2 (by kernel_rfl)) (z3 (by kernel_rfl)) rfl rfl rfl (fun _=>ya y6U rfl rfl) ?_
        refine WD.e (i:=11) (d:=62) (by kernel_rfl) rfl (z2 (by kernel_rfl)) (z3 (by kernel_rfl)) rfl rfl rfl (yb yg rfl (yc .here rfl)) ?_
        refine WD.znth (j:=12) (dd:=63) (by kernel_rfl) rfl (z2 (by kernel_rfl)) (z3 (by kernel_rfl)) rfl rfl (Z:=Z) (Pr:=(fun r x=>r = e62 x)) y8I rfl rfl zrE zrJ ?_
        rintro zxp zxq zrL zxr rfl
        refine WD.a (i:=13) (d:=64) (by kernel_rfl) rfl (z2 (by kernel_rfl)) (z3 (by kernel_rfl)) rfl rfl rfl (fun _=>ya y7O rfl rfl) ?_
        refine WD.e (i:=14) (d:=65) (by kernel_rfl) rfl (z2 (by kernel_rfl)) (z3 (by kernel_rfl)) rfl rfl rfl (yb yg rfl (y2b hz.pv zrL rfl)) ?_
        refine WD.a (i:=15) (d:=66) (by kernel_rfl) rfl (z2 (by kernel_rfl)) (z3 (by kernel_rfl)) rfl rfl rfl (fun _=>q_m rfl) ?_
        refine WD.a (i:=16) (d:=67) (by kernel_rfl) rfl (z2 (by kernel_rfl)) (z3 (by kernel_rfl)) rfl rfl rfl (fun _=>q_m rfl) ?_
        refine WD.call3 (i:=17) (dd:=68) rfl (by kernel_rfl) rfl rfl rfl (.inr rfl) (zz (l:=[.tmp 65,.tmp 66,.tmp 67]) Try.call52 (.cons rfl (.cons rfl (.cons rfl .nil)))) .nil (cc hz .nil fun w pz ho=>y9F _ _ _ _ _ zrK w pz ) ?_
        rintro zdG zfd zfe _
        refine WD.a (i:=18) (d:=50) (by kernel_rfl) rfl (z2 (by kernel_rfl)) (z3 (by kernel_rfl)) rfl rfl rfl (fun _=>q_m rfl) ?_
        refine WD.a (i:=19) (d:=69) (by kernel_rfl) rfl (z2 (by kernel_rfl)) (z3 (by kernel_rfl)) rfl rfl rfl (fun _=>y4R rfl rfl) ?_
        refine WD.a (i:=20) (d:=70) (by kernel_rfl) rfl (z2 (by kernel_rfl)) (z3 (by kernel_rfl)) rfl rfl rfl (fun _=>y4R rfl rfl) ?_
        refine WD.forced0 (i:=21) rfl (by kernel_rfl) rfl rfl rfl (Sin.of .nil) (y5w (k:=(⟨zJ.fNode,zJ.fLink⟩ : Snetwork_exit)) (v:=(some ⟨zdG,0,none⟩ : Option Addr)) zgp Try.underlying77 rfl rfl rfl rfl .h4) ?_
        refine WD.ghL (fun _ h=>Hp.y9D (els:=z12) (k:=(⟨zJ.fNode,zJ.fLink⟩ : Snetwork_exit)) (b:=zdG) (g:=(zfd,zfe)) (x:=z9r) .h5 (.cons .h1 (.cons .h1 .nil)) h) ?_
        refine WD.ghL (M:=[y1e z6k (fun x=>Value.agg (y1S x).toArray) Value.pointer (y1n (y14 z2X (⟨zJ.fNode,zJ.fLink⟩ : Snetwork_exit) ((zdG,(zfd,zfe)),z9r))),y1l z12 (y14 z2X (⟨zJ.fNode,zJ.fLink⟩ : Snetwork_exit) ((zdG,(zfd,zfe)),z9r)),stb zi3 59 [(.int .i64 zJ.fNode),(.int .i64 zJ.fNext),(.int .i64 zJ.fLink)],stb zdF 136 [(.int .i64 zJ.fNode),(.int .i64 zJ.fLink)]]) (fun _ h=>Hp.y8G .h1 (y8g _ _ _ _ _).symm h) ?_
        refine WD.done (by kernel_rfl) ?_
        exact WX.mid (G:=(List (Snetwork_exit × Sport_Port)) × (List (Snetwork_exit × ((Nat × (Option Addr × Nat)) × Sport_Port)))) ⟨(y14 z8b (⟨zJ.fNode,zJ.fLink⟩ : Snetwork_exit) z9r),(y14 z2X (⟨zJ.fNode,zJ.fLink⟩ : Snetwork_exit) ((zdG,(zfd,zfe)),z9r))⟩ ⟨h,(y6b zi2 _ _ _)⟩ (.cons rfl (.cons rfl .nil)) (.cons .h3 (.cons .here (.cons .here .nil)))
    · replace h:=ym h zi4
      refine WC.skip ?_
      exact WX.mid (G:=(List (Snetwork_exit × Sport_Port)) × (List (Snetwork_exit × ((Nat × (Option Addr × Nat)) × Sport_Port)))) ⟨z8b,z2X⟩ ⟨h,zi2⟩ (.cons rfl (.cons rfl .nil)) (.cons .here (.cons .h1 (.cons .h1 .nil)))
  · rintro z8c z9t ⟨h,zrM⟩
    replace h:=(zrF z8c).symm.trans h
    refine WC.b ?_
    refine WC.yV (fun i=>[].contains i) [] rfl ?_
    refine WD.a (i:=0) (d:=71) (by kernel_rfl) rfl (z2 (by kernel_rfl)) (z3 (by kernel_rfl)) rfl rfl rfl (fun _=>q_m rfl) ?_
    refine WD.a (i:=1) (d:=72) (by kernel_rfl) rfl (z2 (by kernel_rfl)) (z3 (by kernel_rfl)) rfl rfl rfl (fun _=>yt rfl) ?_
    refine WD.a (i:=2) (d:=73) (by kernel_rfl) rfl (z2 (by kernel_rfl)) (z3 (by kernel_rfl)) rfl rfl rfl (fun _=>ya y7R rfl rfl) ?_
    refine WD.e (i:=3) (d:=74) (by kernel_rfl) rfl (z2 (by kernel_rfl)) (z3 (by kernel_rfl)) rfl rfl rfl (yb y7S rfl (y2b hz.pv z9s rfl)) ?_
    refine WD.e (i:=4) (d:=75) (by kernel_rfl) rfl (z2 (by kernel_rfl)) (z3 (by kernel_rfl)) rfl rfl rfl (yD zgo rfl (y1h .here) rfl) ?_
    refine WD.e (i:=5) (d:=76) (by kernel_rfl) rfl (z2 (by kernel_rfl)) (z3 (by kernel_rfl)) rfl rfl rfl (y4I (k:=(⟨zJ.fNode,zJ.fLink⟩ : Snetwork_exit)) (dflt:=(none : Option Addr)) zgp Try.underlying77 zk8 rfl rfl rfl .h1) ?_
    refine WD.a (i:=6) (d:=4) (by kernel_rfl) rfl (z2 (by kernel_rfl)) (z3 (by kernel_rfl)) rfl rfl rfl (fun _=>q_z rfl) ?_
    refine WD.done (by kernel_rfl) ?_
    refine WX.a (WC.ret ?_)
    obtain rfl:=Option.some.inj h
    refine WX.yh Try.results40 (.tmp rfl .nil) (fun w hw=>?_)
    exact ⟨z9t,y12 rfl,zrM,hw.sub (.cons .h1 (.cons .h1 .nil))⟩
def y2L (z6l : Sport_Port) : Option Bool :=
  some (decide (z6l.fNumbers.fSlow = 0))
set_option maxRecDepth 20000 in
theorem y5i (Z : Zp) (zff : Addr) (zmH : Option Addr) (zmI : Nat) (z6l : Sport_Port) (r : Bool)
     (h : y2L z6l = some r) (w₀ : World) (hz : PZ [] w₀ Z)
     (zxs : ZS Z 2 (fun r x=>r = y20 x) zmH zmI z6l.fFrames)
     (zrN : ZC Z zff [(.int .i64 z6l.fNumbers.fSlow),(.int .i64 z6l.fNumbers.fDelay),(.int .i64 z6l.fNumbers.fStore),(.int .i64 z6l.fNow),(.int .i64 z6l.fLast),(.slice zmH z6l.fFrames.length zmI)]) :
    Calls Try.prog 53 #[(.pointer (some zff))] w₀ fun e w'=>e = .returned (.bool r) ∧ Hp [] w₀ w' []:=by
  unfold y2L at h
  refine Calls.yk (vs:=[(.pointer (some zff))]) (pre:=[]) (env:=[(0,(.pointer (some zff)))]) Try.func53 rfl Try.ntmps53 rfl (Hp.nil w₀ _) rfl ?_
  refine WC.b (WC.a (WL.pu rfl (WL.nil (WX.a (WC.b (WC.a (WL.pu rfl ?_)))))))
  refine WL.a (d:=4) rfl rfl rfl (y8z Try.underlying116 rfl rfl) ?_
  refine WL.pu rfl (WL.pu rfl ?_)
  refine WL.a (d:=7) rfl rfl rfl (yt rfl) ?_
  refine WL.a (d:=8) rfl rfl rfl (ya y6f rfl rfl) ?_
  refine WL.a (d:=9) rfl rfl rfl (ya y8M rfl rfl) ?_
  refine WL.a (d:=10) rfl rfl rfl (yb yg rfl (y2b hz.pv zrN rfl)) ?_
  refine WL.pu rfl (WL.pu rfl (WL.pu rfl (WL.nil (WX.a (WC.ret ?_)))))
  obtain rfl:=Option.some.inj h
  refine WX.yh Try.results53 (.tmp rfl .nil) (fun w hw=>?_)
  exact ⟨y12 rfl,hw.sub .nil⟩
def y2B (z5b : Sport_frame) (zfg : Int) : Option Bool :=
  some (decide (z5b.fFin ≤ zfg))
set_option maxRecDepth 20000 in
theorem y74 (Z : Zp) (zfh : Addr) (z5b : Sport_frame) (zfg : Int) (r : Bool)
     (h : y2B z5b zfg = some r) (w₀ : World) (hz : PZ [] w₀ Z)
     (zrO : ZC Z zfh [(.int .i64 zfg)]) :
    Calls Try.prog 55 #[(.agg #[(.int .i64 z5b.fSize),(.int .i64 z5b.fFin)]),(.pointer (some zfh))] w₀ fun e w'=>e = .returned (.bool r) ∧ Hp [] w₀ w' []:=by
  unfold y2B at h
  refine Calls.yk (vs:=[(.agg #[(.int .i64 z5b.fSize),(.int .i64 z5b.fFin)]),(.pointer (some zfh))]) (pre:=[]) (env:=[(0,(.agg #[(.int .i64 z5b.fSize),(.int .i64 z5b.fFin)])),(1,(.pointer (some zfh)))]) Try.func55 rfl Try.ntmps55 rfl (Hp.nil w₀ _) rfl ?_
  refine WC.b (WC.a ?_)
  refine WL.new (dd:=2) rfl rfl rfl (y2g (cs:=[(.int .i64 z5b.fSize),(.int .i64 z5b.fFin)]) rfl rfl) ?_
  intro zxt _
  refine WL.pu rfl (WL.nil (WX.a (WC.b (WC.a ?_))))
  refine WL.a (d:=4) rfl rfl rfl (ya y8N rfl rfl) ?_
  refine WL.a (d:=5) rfl rfl rfl (yb yg rfl (yc .here rfl)) ?_
  refine WL.a (d:=6) rfl rfl rfl (yb yg rfl (rd_z hz.pv zrO rfl)) ?_
  refine WL.pu rfl (WL.pu rfl (WL.nil (WX.a (WC.ret ?_))))
  obtain rfl:=Option.some.inj h
  refine WX.yh Try.results55 (.tmp rfl .nil) (fun w hw=>?_)
  exact ⟨y12 rfl,hw.sub .nil⟩
def yy (z2m : List Sport_frame) (z5c : Sport_frame → Option Bool) (z7n : Option Int) : Nat → Int → Option Int
  | 0,_=>none
  | zi6 + 1,z2A=>if decide (z2A < ((z2m.length : Nat) : Int)) then chk ((0 : Int) ≤ z2A ∧ z2A < ((z2m.length : Nat) : Int)) ((z5c (⟨((nth z2m z2A).fSize),((nth z2m z2A).fFin)⟩ : Sport_frame)).bind fun zi7=>if zi7 then some z2A else yy z2m z5c z7n zi6 (i64 (z2A + 1))) else z7n
theorem y3c {n : Nat} {z2m : List Sport_frame} {z5c : Sport_frame → Option Bool} {z7n : Option Int} {z2A : Int} {r : Int} (h : yy z2m z5c z7n n z2A = some r) : ∃ m,n = m + 1:=by
  cases n with
  | zero=>cases h
  | succ m=>exact ⟨m,rfl⟩
def yT (z2m : List Sport_frame) (z5c : Sport_frame → Option Bool) : Option Int :=
  jp0 (some (-1)) fun z7n=>yy z2m z5c z7n yz 0
set_option maxRecDepth 20000 in
theorem y3M (Z : Zp) (zdH : Option Addr) (zdI : Nat) (z7o : FuncId) (z9u : List Value) (z2m : List Sport_frame) (z5c : Sport_frame → Option Bool) (r : Int)
     (h : yT z2m z5c = some r) (w₀ : World) (hz : PZ [] w₀ Z)
     (zrP : ZS Z 2 (fun r x=>r = y20 x) zdH zdI z2m)
     (zrQ : ∀ args w,(callFunc z7o args).run Try.prog w = .ok (.enter z7o args) w)
     (zrR : ∀ w : World,PZ [] w Z → ∀ (x0 : Sport_frame) (r : Bool),z5c x0 = some r → Calls Try.prog z7o (([(.agg #[(.int .i64 x0.fSize),(.int .i64 x0.fFin)])] : List Value) ++ z9u).toArray w fun e w'=>e = .returned (.bool r) ∧ Hp [] w w' []) :
    Calls Try.prog 63 #[(.slice zdH z2m.length zdI),(.func (.func z7o) #[] (z9u).toArray)] w₀ fun e w'=>e = .returned (.int .i64 r) ∧ Hp [] w₀ w' []:=by
  unfold yT at h
  refine Calls.yk (vs:=[(.slice zdH z2m.length zdI),(.func (.func z7o) #[] (z9u).toArray)]) (pre:=[]) (env:=[(0,(.slice zdH z2m.length zdI)),(1,(.func (.func z7o) #[] (z9u).toArray))]) Try.func63 rfl Try.ntmps63 rfl (Hp.nil w₀ _) rfl ?_
  refine WC.b (WC.a (WL.pu rfl (WL.nil (WX.a ?_))))
  obtain ⟨z7n,zrS,h⟩:=y2U h
  refine WC.y2v ((z7n = some r)) ([]) ([]) ?_ ?_
  · skip
    refine WC.b (WC.a (WL.pu rfl ?_))
    refine WL.a (d:=7) rfl rfl rfl (yU Try.underlying141 rfl) ?_
    refine WL.pu rfl (WL.nil (WX.a (WC.block ?_)))
    refine WC.y45 (fun (zb8 : Nat) (z2A : Int)=>(yy z2m z5c z7n zb8 z2A = some r)) (fun (zb8 : Nat) (z2A : Int)=>[(0,(.slice zdH z2m.length zdI)),(1,(.func (.func z7o) #[] (z9u).toArray)),(7,(.int .i64 ((z2m.length : Nat) : Int))),(8,(.int .i64 z2A))]) (fun (zb8 : Nat) (z2A : Int)=>[]) (fun (zb8 : Nat) (z2A : Int)=>zb8) ⟨yz,0⟩ h (.cons rfl (.cons rfl (.cons rfl (.cons rfl .nil)))) .nil ?_
    rintro zb8 z2A h
    obtain ⟨zi6,rfl⟩:=y3c h
    rw [yy] at h
    refine WC.b (WC.a (WL.pu rfl (WL.nil (WX.a (WC.b ?_)))))
    refine WC.cond rfl (fun zi8=>?_) (fun zi8=>?_)
    · replace h:=yl h zi8
      refine WC.skip (WX.a (WC.b (WC.block (WC.b (WC.a (WL.pu rfl (WL.pu rfl (WL.nil (WX.a (WC.b ?_))))))))))
      obtain ⟨zrT,h⟩:=yi h
      obtain ⟨zi7,zrU,h⟩:=zh h
      refine WC.a (WL.pu rfl (WL.pu rfl (WL.pu rfl ?_)))
      refine WL.znth (dd:=14) rfl rfl (Z:=Z) (Pr:=(fun r x=>r = y20 x)) z6O rfl rfl zrP zrT ?_
      rintro zxu zxv zrV zxw rfl
      refine WL.a (d:=15) rfl rfl rfl (yD za3 rfl (y3t hz.pv zrV) rfl) ?_
      refine WL.b (dd:=16) rfl rfl rfl (y3J (l:=[.tmp 15]) (f:=z7o) (caps:=z9u) zrQ rfl (.cons rfl .nil)) .nil (fun w hw=>zrR w (hz.now hw) (⟨((nth z2m z2A).fSize),((nth z2m z2A).fFin)⟩ : Sport_frame) zi7  zrU) ?_
      refine WL.nil (WX.a ?_)
      refine WC.cond rfl (fun zi9=>?_) (fun zi9=>?_)
      · replace h:=yl h zi9
        refine WC.b (WC.a (WL.pu rfl (WL.pu rfl (WL.nil (WX.a (WC.ret (WX.yL (WX.yj (WX.yj (WX.yL (WX.yj ?_)))))))))))
        obtain rfl:=Option.some.inj h
        refine WX.yh Try.results63 (.tmp rfl .nil) (fun w hw=>?_)
        exact ⟨y12 rfl,hw.sub .nil⟩
      · replace h:=ym h zi9
        refine WC.skip (WX.yf (WX.a (WC.a (WL.pu rfl (WL.pu rfl (WL.nil ?_))))))
        exact WX.round (G:=Nat × Int) ⟨zi6,(i64 (z2A + 1))⟩ h (Nat.lt_succ_self _) (.cons rfl (.cons rfl (.cons rfl (.cons rfl .nil)))) .nil
    · replace h:=ym h zi8
      refine WC.exit (WX.ye (WX.ye (WX.yA ?_)))
      exact WX.mid (G:=Unit) () h .nil .nil
  · rintro  h
    replace h:=zrS.symm.trans h
    refine WC.b (WC.a (WL.pu rfl (WL.nil (WX.a (WC.ret ?_)))))
    obtain rfl:=Option.some.inj h
    refine WX.yh Try.results63 (.tmp rfl .nil) (fun w hw=>?_)
    exact ⟨y12 rfl,hw.sub .nil⟩
end Go.Proofs.Ytinchjigeakocaa

/- A part of this claim's proof: models of functions, walks, plain laws. No conditions. -/
import Derived.Test.YtakfmdiiehcbdaaW03d
namespace Go.Proofs.Ytakfmdiiehcbdaa
open Go Go.RowKit Sep
set_option linter.all false
set_option maxRecDepth 30000
set_option maxHeartbeats 4000000
def yX (zi : List z1) (zC : List z1) (za : z2 × Int) (zb : z2) (zj : z2) (zf : z2 × Int) (z18 : z2 × Int) (z7k : Option Bool) : Nat → (List S62) → Int → Option Bool
  | 0,_,_=>none
  | zjU + 1,zu,zy=>if decide (zy < ((([(⟨([zi,zC] : List (List z1)),(⟨za.1,zb⟩ : zSv)⟩ : S62),(⟨([zi] : List (List z1)),(⟨za.1,zj⟩ : zSv)⟩ : S62),(⟨([zi] : List (List z1)),(⟨zf.1,zb⟩ : zSv)⟩ : S62)] : List S62).length : Nat) : Int)) then chk ((0 : Int) ≤ zy ∧ zy < ((zu.length : Nat) : Int)) ((yL ((nth zu zy).fL) (⟨(⟨((((nth zu zy).fS).fR).fN),((((nth zu zy).fS).fR).fD)⟩ : z2),(⟨((((nth zu zy).fS).fLatency).fN),((((nth zu zy).fS).fLatency).fD)⟩ : z2)⟩ : zSv)).bind fun z1l=>(if (decide (z18.2 = 6)) && (decide (z1l.2 ≠ 6)) then some true else (if (decide (z18.2 = 0)) && (decide (z1l.2 = 0)) then (yQ z1l.1 z18.1).bind fun zo3=>some (decide (zo3 < 0)) else some false).bind fun zjV=>some zjV).bind fun zdw=>if zdw || ((decide (z1l.2 ≠ 0)) && (decide (z1l.2 ≠ 6))) then some false else yX zi zC za zb zj zf z18 z7k zjU zu (i64 (zy + 1))) else z7k
theorem y58 {n : Nat} {zi : List z1} {zC : List z1} {za : z2 × Int} {zb : z2} {zj : z2} {zf : z2 × Int} {z18 : z2 × Int} {z7k : Option Bool} {zu : List S62} {zy : Int} {r : Bool} (h : yX zi zC za zb zj zf z18 z7k n zu zy = some r) : ∃ m,n = m + 1:=by
  cases n with
  | zero=>cases h
  | succ m=>exact ⟨m,rfl⟩
def yY (zm : List z1) (zP : List z1) (za : z2 × Int) (zb : z2) (zj : z2) (zf : z2 × Int) (z19 : z2 × Int) (z7l : Option Bool) : Nat → (List S62) → Int → Option Bool
  | 0,_,_=>none
  | zjW + 1,zw,zz=>if decide (zz < ((([(⟨([zm,zP] : List (List z1)),(⟨za.1,zb⟩ : zSv)⟩ : S62),(⟨([zm] : List (List z1)),(⟨za.1,zj⟩ : zSv)⟩ : S62),(⟨([zm] : List (List z1)),(⟨zf.1,zb⟩ : zSv)⟩ : S62)] : List S62).length : Nat) : Int)) then chk ((0 : Int) ≤ zz ∧ zz < ((zw.length : Nat) : Int)) ((yC ((nth zw zz).fL) (⟨(⟨((((nth zw zz).fS).fR).fN),((((nth zw zz).fS).fR).fD)⟩ : z2),(⟨((((nth zw zz).fS).fLatency).fN),((((nth zw zz).fS).fLatency).fD)⟩ : z2)⟩ : zSv)).bind fun z1m=>(if (decide (z19.2 = 6)) && (decide (z1m.2 ≠ 6)) then some true else (if (decide (z19.2 = 0)) && (decide (z1m.2 = 0)) then (yQ z1m.1 z19.1).bind fun zo4=>some (decide (zo4 < 0)) else some false).bind fun zjX=>some zjX).bind fun zdx=>if zdx || ((decide (z1m.2 ≠ 0)) && (decide (z1m.2 ≠ 6))) then some false else yY zm zP za zb zj zf z19 z7l zjW zw (i64 (zz + 1))) else z7l
theorem y59 {n : Nat} {zm : List z1} {zP : List z1} {za : z2 × Int} {zb : z2} {zj : z2} {zf : z2 × Int} {z19 : z2 × Int} {z7l : Option Bool} {zw : List S62} {zz : Int} {r : Bool} (h : yY zm zP za zb zj zf z19 z7l n zw zz = some r) : ∃ m,n = m + 1:=by
  cases n with
  | zero=>cases h
  | succ m=>exact ⟨m,rfl⟩
def y2S (z8n : List Int) (z8o : List Int) (z8p : Int) (z4w : Int) (z4x : Int) : Option Bool :=
  (y34 z8n).bind fun zi=>(y34 z8o).bind fun zC=>(y1U (i64 (1 + (Int.tmod (i64 z8p) 160))) 8).bind fun za=>(y1U (i64 (1 + (Int.tmod (i64 z8p) 160))) (i64 (8 + (Int.tmod (i64 z4x) 8)))).bind fun zf=>(y1a (i64 z4w) 1).bind fun zb=>(y1a (i64 ((i64 z4w) + (i64 z4x))) 1).bind fun zj=>if (decide (za.2 ≠ 0)) || (decide (zf.2 ≠ 0)) then some false else jp0 ((y4o).bind fun zo5=>some zo5) fun zjY=>jp2 (fun (zm : List z1) (zP : List z1)=>jp0 (zjY) fun zjZ=>chk ((0 : Int) ≤ 1 ∧ 1 < ((([(),()] : List Unit).length : Nat) : Int)) ((yC ([zm] : List (List z1)) (⟨za.1,zb⟩ : zSv)).bind fun z19=>jp0 (zjZ) fun z7l=>yY zm zP za zb zj zf z19 z7l ys ([(⟨([zm,zP] : List (List z1)),(⟨za.1,zb⟩ : zSv)⟩ : S62),(⟨([zm] : List (List z1)),(⟨za.1,zj⟩ : zSv)⟩ : S62),(⟨([zm] : List (List z1)),(⟨zf.1,zb⟩ : zSv)⟩ : S62)] : List S62) 0)) fun zk0=>chk ((0 : Int) ≤ 0 ∧ 0 < ((([(),()] : List Unit).length : Nat) : Int)) ((yL ([zi] : List (List z1)) (⟨za.1,zb⟩ : zSv)).bind fun z18=>jp0 (zk0 zi zC) fun z7k=>yX zi zC za zb zj zf z18 z7k ys ([(⟨([zi,zC] : List (List z1)),(⟨za.1,zb⟩ : zSv)⟩ : S62),(⟨([zi] : List (List z1)),(⟨za.1,zj⟩ : zSv)⟩ : S62),(⟨([zi] : List (List z1)),(⟨zf.1,zb⟩ : zSv)⟩ : S62)] : List S62) 0)
set_option maxRecDepth 20000 in
theorem y78 (Z : Zp) (zdy : Option Addr) (zdz : Nat) (zdA : Option Addr) (zdB : Nat) (z8n : List Int) (z8o : List Int) (z8p : Int) (z4w : Int) (z4x : Int) (r : Bool)
     (h : y2S z8n z8o z8p z4w z4x = some r) (w₀ : World) (hz : PZ [] w₀ Z)
     (zwE : ZS Z 1 (fun r x=>r = e5 x) zdy zdz z8n)
     (zwF : ZS Z 1 (fun r x=>r = e5 x) zdA zdB z8o) :
    Calls Try.prog 5 #[(.slice zdy z8n.length zdz),(.slice zdA z8o.length zdB),(.int .u8 z8p),(.int .u8 z4w),(.int .u8 z4x)] w₀ fun e w'=>∃ Zn : Zp,e = .returned (.bool r) ∧ True ∧ Hp [] w₀ w' [fz Zn]:=by
  unfold y2S at h
  refine Calls.yc (vs:=[(.slice zdy z8n.length zdz),(.slice zdA z8o.length zdB),(.int .u8 z8p),(.int .u8 z4w),(.int .u8 z4x)]) (pre:=[]) (env:=[(0,(.slice zdy z8n.length zdz)),(1,(.slice zdA z8o.length zdB)),(2,(.int .u8 z8p)),(3,(.int .u8 z4w)),(4,(.int .u8 z4x))]) Try.func5 rfl Try.ntmps5 rfl (Hp.nil w₀ _) rfl ?_
  refine WC.pool (WC.b (WC.a (WL.pu rfl (WL.nil (WX.a (WC.b ?_))))))
  obtain ⟨zi,zwG,h⟩:=z8 h
  obtain ⟨zC,zwH,h⟩:=z8 h
  refine WC.a (WL.pu rfl ?_)
  refine WL.y5c (dd:=29) rfl rfl rfl (ze (l:=[.tmp 28]) Try.call20 (.cons rfl .nil)) .nil (ccz hz .nil .here fun w pz ho=>y7c _ _ _ _ _ zwG w pz (zwE.mono (Zle.left _ _))) ?_
  rintro z1n z1o _
  refine WL.pu rfl ?_
  refine WL.y5c (dd:=31) rfl rfl rfl (ze (l:=[.tmp 30]) Try.call20 (.cons rfl .nil)) .nil (ccz hz .nil .h1 fun w pz ho=>y7c _ _ _ _ _ zwH w pz (zwF.mono (Zle.left _ _))) ?_
  rintro z2j z2k _
  refine WL.pu rfl (WL.pu rfl (WL.nil (WX.a (WC.b ?_))))
  obtain ⟨za,zwI,h⟩:=z8 h
  refine WC.a (WL.pu rfl ?_)
  refine WL.a (d:=34) rfl rfl rfl (y36 Try.underlying5 Try.underlying3 rfl rfl) ?_
  refine WL.a (d:=35) rfl rfl rfl (y6U rfl rfl (by decide) rfl) ?_
  refine WL.pu rfl ?_
  refine WL.b (dd:=37) rfl rfl rfl (ze (l:=[.tmp 36,.const (.int .i64 8)]) Try.call9 (.cons rfl (.cons rfl .nil))) .nil (ccz hz .nil .h2 fun w pz ho=>y3e _ _ _ _ zwI w pz ) ?_
  refine WL.pu rfl (WL.pu rfl (WL.pu rfl ?_))
  refine WL.new (dd:=13) rfl rfl rfl (yh (cs:=[(.int .i64 0),(.int .i64 0)]) ym rfl) ?_
  intro zdC _
  refine WL.ya rfl rfl (y9 yj rfl rfl rfl .here rfl rfl rfl) ?_
  refine WL.pu rfl (WL.nil (WX.a (WC.b ?_)))
  obtain ⟨zf,zwJ,h⟩:=z8 h
  refine WC.a (WL.pu rfl ?_)
  refine WL.a (d:=42) rfl rfl rfl (y36 Try.underlying5 Try.underlying3 rfl rfl) ?_
  refine WL.a (d:=43) rfl rfl rfl (y6U rfl rfl (by decide) rfl) ?_
  refine WL.pu rfl (WL.pu rfl ?_)
  refine WL.a (d:=46) rfl rfl rfl (y36 Try.underlying5 Try.underlying3 rfl rfl) ?_
  refine WL.a (d:=47) rfl rfl rfl (y6U rfl rfl (by decide) rfl) ?_
  refine WL.pu rfl ?_
  refine WL.b (dd:=49) rfl rfl rfl (ze (l:=[.tmp 44,.tmp 48]) Try.call9 (.cons rfl (.cons rfl .nil))) .nil (ccz hz .nil .h3 fun w pz ho=>y3e _ _ _ _ zwJ w pz ) ?_
  refine WL.pu rfl (WL.pu rfl (WL.pu rfl ?_))
  refine WL.new (dd:=15) rfl rfl rfl (yh (cs:=[(.int .i64 0),(.int .i64 0)]) ym rfl) ?_
  intro z61 _
  refine WL.ya rfl rfl (y9 yj rfl rfl rfl .here rfl rfl rfl) ?_
  refine WL.pu rfl (WL.nil (WX.a (WC.b ?_)))
  obtain ⟨zb,zwK,h⟩:=z8 h
  refine WC.y1g (fun i=>[6].contains i) [] rfl ?_
  refine WD.e (i:=0) (d:=52) (by kernel_rfl) rfl (z6 (by kernel_rfl)) (z7 (by kernel_rfl)) rfl rfl rfl (y7 y4 rfl (y6 .h1) rfl) ?_
  refine WD.a (i:=1) (d:=53) (by kernel_rfl) rfl (z6 (by kernel_rfl)) (z7 (by kernel_rfl)) rfl rfl rfl (fun _=>q_m rfl) ?_
  refine WD.a (i:=2) (d:=54) (by kernel_rfl) rfl (z6 (by kernel_rfl)) (z7 (by kernel_rfl)) rfl rfl rfl (fun _=>y36 Try.underlying5 Try.underlying3 rfl rfl) ?_
  refine WD.c (i:=3) (d:=55) (by kernel_rfl) rfl (z6 (by kernel_rfl)) (z7 (by kernel_rfl)) rfl rfl rfl (ze (l:=[.tmp 54,.const (.int .i64 1)]) Try.call11 (.cons rfl (.cons rfl .nil))) (ccz hz .nil .h4 fun w pz ho=>y1k _ _ _ _ zwK w pz ) ?_
  refine WD.a (i:=4) (d:=56) (by kernel_rfl) rfl (z6 (by kernel_rfl)) (z7 (by kernel_rfl)) rfl rfl rfl (fun _=>yV (v:=(.agg #[(.int .i64 za.1.fN),(.int .i64 za.1.fD),(.int .i64 zb.fN),(.int .i64 zb.fD)])) (Eos.parts (l:=[.tmp 52,.tmp 55]) (.cons rfl (.cons rfl .nil)) [0,1]) (fun _=>by kernel_rfl)) ?_
  refine WD.new (i:=5) (dd:=17) rfl (by kernel_rfl) rfl rfl rfl (yh (cs:=[(.int .i64 0),(.int .i64 0),(.int .i64 0),(.int .i64 0)]) y51 rfl) (fun h'=>absurd h' (by decide)) ?_
  intro zH _
  refine WD.y4V (i:=6) rfl (by kernel_rfl) rfl rfl rfl (by kernel_rfl) (y9 y7K rfl rfl rfl .here rfl rfl rfl) ?_
  refine WD.done (by kernel_rfl) ?_
  refine WX.a (WC.b ?_)
  refine WC.y1g (fun i=>[4,5].contains i) [stb zH 43 [(.int .i64 za.1.fN),(.int .i64 za.1.fD),(.int .i64 zb.fN),(.int .i64 zb.fD)]] rfl ?_
  refine WD.e (i:=0) (d:=57) (by kernel_rfl) rfl (z6 (by kernel_rfl)) (z7 (by kernel_rfl)) rfl rfl rfl (y7 y24 rfl (y6 .here) rfl) ?_
  refine WD.y2k (i:=1) (d:=58) (by kernel_rfl) rfl (z6 (by kernel_rfl)) (z7 (by kernel_rfl)) rfl rfl rfl (Sin.of (.cons .here .nil)) (y7 y24 rfl (y6 .here) rfl) ?_
  refine WD.y6X (fuel':=0) (fun (b2o1_56517 : Nat) (b3o1_56517 : Nat)=>[(3,(.int .u8 z4w)),(4,(.int .u8 z4x)),(11,(.slice z1n zi.length z1o)),(12,(.slice z2j zC.length z2k)),(14,(.int .i64 za.2)),(15,(.pointer (some ⟨z61,0,none⟩))),(16,(.int .i64 zf.2)),(17,(.pointer (some ⟨zH,0,none⟩))),(18,(.pointer (some ⟨b2o1_56517,0,none⟩))),(19,(.pointer (some ⟨b3o1_56517,0,none⟩)))]) (fun (b2o1_56517 : Nat) (b3o1_56517 : Nat)=>[stb b3o1_56517 43 [(.int .i64 za.1.fN),(.int .i64 za.1.fD),(.int .i64 zb.fN),(.int .i64 zb.fD)],stb b2o1_56517 43 [(.int .i64 za.1.fN),(.int .i64 za.1.fD),(.int .i64 zb.fN),(.int .i64 zb.fD)],stb zH 43 [(.int .i64 za.1.fN),(.int .i64 za.1.fD),(.int .i64 zb.fN),(.int .i64 zb.fD)],stb z61 30 [(.int .i64 zf.1.fN),(.int .i64 zf.1.fD)],stb zdC 30 [(.int .i64 za.1.fN),(.int .i64 za.1.fD)],row (.slice z2j zC.length z2k) 35 4 (zC.flatMap e35),row (.slice z1n zi.length z1o) 35 4 (zi.flatMap e35),fz []]) (fun (b2o1_56517 : Nat) (b3o1_56517 : Nat)=>True) (y1h 6 [5,4,3,2,1,0]) ?_ (fun K2o3o4o5_56517=>?_)
  · skip
    rintro b2o1_56517 b3o1_56517 _
    refine WD.done (by kernel_rfl) ?_
    refine WX.a (WC.b ?_)
    obtain ⟨zj,zwL,h⟩:=z8 h
    refine WC.a (WL.pu rfl ?_)
    refine WL.a (d:=60) rfl rfl rfl (y36 Try.underlying5 Try.underlying3 rfl rfl) ?_
    refine WL.pu rfl ?_
    refine WL.a (d:=62) rfl rfl rfl (y36 Try.underlying5 Try.underlying3 rfl rfl) ?_
    refine WL.pu rfl ?_
    refine WL.b (dd:=64) rfl rfl rfl (ze (l:=[.tmp 63,.const (.int .i64 1)]) Try.call11 (.cons rfl (.cons rfl .nil))) .nil (ccz hz .nil .h7 fun w pz ho=>y1k _ _ _ _ zwL w pz ) ?_
    refine WL.a (d:=65) rfl rfl rfl (y3 y53 rfl rfl) ?_
    refine WL.ya rfl rfl (y63 (ds:=[(.int .i64 za.1.fN),(.int .i64 za.1.fD),(.int .i64 zj.fN),(.int .i64 zj.fD)]) yj rfl rfl rfl rfl rfl .h1 rfl rfl) ?_
    refine WL.nil (WX.a (WC.b (WC.a ?_)))
    refine WL.a (d:=66) rfl rfl rfl (y7 y4 rfl (y6 .h3) rfl) ?_
    refine WL.a (d:=67) rfl rfl rfl (y3 y52 rfl rfl) ?_
    refine WL.ya rfl rfl (y63 (ds:=[(.int .i64 zf.1.fN),(.int .i64 zf.1.fD),(.int .i64 zb.fN),(.int .i64 zb.fD)]) yj rfl rfl rfl rfl rfl .h1 rfl rfl) ?_
    refine WL.nil (WX.a (WC.b (WC.b (WC.a (WL.pu rfl (WL.pu rfl (WL.pu rfl ?_)))))))
    refine WL.seg false 2 70 (B:=(decide (za.2 ≠ 0)) || (decide (zf.2 ≠ 0))) rfl rfl rfl rfl rfl rfl (fun h=>(y4X h).symm) (fun _ zwM=>?_) ?_
    · skip
      refine WL.pu rfl (WL.pu rfl (WL.pu rfl ?_))
      exact WL.yy (y4Y zwM) rfl rfl .all
    refine WL.nil (WX.a ?_)
    refine WC.cond rfl (fun zk1=>?_) (fun zk1=>?_)
    · replace h:=ye h zk1
      refine WC.b (WC.a (WL.pu rfl (WL.nil (WX.a (WC.ret (WX.y5 ?_))))))
      obtain rfl:=Option.some.inj h
      refine WX.y8 Try.results5 (.tmp rfl .nil) (fun w hw=>?_)
      exact ⟨[],yG rfl,trivial,hw.sub (.cons .h7 .nil)⟩
    · replace h:=yf h zk1
      refine WC.skip (WX.a ?_)
      obtain ⟨zjY,zwN,h⟩:=y2V h
      refine WC.y3a (fun (zbE : Zp)=>(zjY = some r) ∧ (Zle (Z ++ []) (Z ++ zbE))) (fun (zbE : Zp)=>[]) (fun (zbE : Zp)=>[fz zbE]) ?_ ?_
      · skip
        refine WC.b (WC.a ?_)
        refine WL.new (dd:=74) rfl rfl rfl (yp (cs:=[(.func (.func 15) #[] #[]),(.func (.func 16) #[] #[])]) y9v (Eos.parts (l:=[.func 15,.func 16]) (.cons rfl (.cons rfl .nil)) [0,1]) (fun _=>by kernel_rfl) rfl (by unfold maxLen; omega)) ?_
        intro z1b _
        refine WL.a (d:=75) rfl rfl rfl (y1c Try.underlying61 rfl) ?_
        refine WL.pu rfl (WL.nil (WX.a (WC.block (WC.unroll (WC.b (WC.a ?_))))))
        refine WL.a (d:=77) rfl rfl rfl (y6q rfl rfl) ?_
        refine WL.nil (WX.a (WC.b ?_))
        refine WC.cond rfl (fun h'=>?_) (fun h'=>(by cases h'))
        clear h'
        refine WC.skip (WX.a ?_)
        obtain ⟨zk0,zwO,h⟩:=y3B h
        refine WC.yam (fun (zm : List z1) (zP : List z1) (z7m : Zp) (z1F : Option Addr) (z1G : Nat) (z3h : Option Addr) (z3i : Nat)=>(zk0 zm zP = some r) ∧ (Zle (Z ++ []) (Z ++ z7m)) ∧ (ZS (Z ++ z7m) 4 (fun r x=>r = e35 x) z1F z1G zm) ∧ (ZS (Z ++ z7m) 4 (fun r x=>r = e35 x) z3h z3i zP)) (fun (zm : List z1) (zP : List z1) (z7m : Zp) (z1F : Option Addr) (z1G : Nat) (z3h : Option Addr) (z3i : Nat)=>[(11,(.slice z1F zm.length z1G)),(12,(.slice z3h zP.length z3i)),(17,(.pointer (some ⟨zH,0,none⟩))),(18,(.pointer (some ⟨b2o1_56517,0,none⟩))),(19,(.pointer (some ⟨b3o1_56517,0,none⟩))),(74,(.slice (some ⟨z1b,0,none⟩) (([(),()] : List Unit).length) 2)),(75,(.int .i64 2)),(76,(.int .i64 0))]) (fun (zm : List z1) (zP : List z1) (z7m : Zp) (z1F : Option Addr) (z1G : Nat) (z3h : Option Addr) (z3i : Nat)=>[fz z7m,row (.slice (some ⟨z1b,0,none⟩) (([(),()] : List Unit).length) 2) 48 1 [(.func (.func 15) #[] #[]),(.func (.func 16) #[] #[])],stb zH 43 [(.int .i64 za.1.fN),(.int .i64 za.1.fD),(.int .i64 zb.fN),(.int .i64 zb.fD)],stb b2o1_56517 43 [(.int .i64 za.1.fN),(.int .i64 za.1.fD),(.int .i64 zj.fN),(.int .i64 zj.fD)],stb b3o1_56517 43 [(.int .i64 zf.1.fN),(.int .i64 zf.1.fD),(.int .i64 zb.fN),(.int .i64 zb.fD)]]) ?_ ?_
        · skip
          refine WC.block (WC.b ?_)
          obtain ⟨zo6,h⟩:=yk h
          refine WC.a ?_
          have zwP : (([(.func (.func 15) #[] #[]),(.func (.func 16) #[] #[])]) : List Value).drop ((0 : Int).toNat * 1) = [(.func (.func 15) #[] #[])] ++ [(.func (.func 16) #[] #[])]:=rfl
          refine WL.a (d:=78) rfl rfl rfl (y19 y9v rfl rfl zo6.1 zo6.2 y3b) ?_
          refine WL.a (d:=79) rfl rfl rfl (yb ya8 rfl (y9h .here (y7E zwP 0 _ rfl))) ?_
          refine WL.pu rfl (WL.nil (WX.a (WC.b ?_)))
          obtain ⟨z18,zwQ,h⟩:=z8 h
          refine WC.a (WL.pu rfl (WL.pu rfl ?_))
          refine WL.freezeS (ls:=zi) .h7 .h7 hz (RR.flat (enc:=e35) (fun _=>rfl) _) ?_
          intro zwR zwS zdD
          have zwT : RR 1 (p39 (Z ++ zwR)) [(.slice z1n zi.length z1o)] ([zi] : List (List z1)):=(RR.cons (r:=[(.slice z1n zi.length z1o)]) rfl (show p39 _ _ _ from ⟨_,_,rfl,zdD⟩) (RR.nil _ _))
          refine WL.new (dd:=83) rfl rfl rfl (yp (cs:=[(.slice z1n zi.length z1o)]) y2x (Eos.parts (l:=[.tmp 82]) (.cons rfl .nil) [0]) (fun _=>by kernel_rfl) rfl (by unfold maxLen; omega)) ?_
          intro zB7 _
          refine WL.a (d:=84) rfl rfl rfl (y7 y24 rfl (y6 .h5) rfl) ?_
          refine WL.freezeS (ls:=([zi] : List (List z1))) .here .here hz zwT ?_
          intro zB8 zbF zk2
          replace zk2:=zk2.weak (fun _ _ h=>yo zbF h)
          refine WL.y2l (dd:=85) rfl rfl rfl (y1R (l:=[.tmp 83,.tmp 84]) Try.call15 rfl (.cons rfl (.cons rfl .nil))) .nil (ccz hz .nil .here fun w pz ho=>y2X _ _ _ _ _ _ zwQ w pz zk2) ?_
          rintro zB9 _
          refine WL.merge .here .here ?_
          refine WL.pu rfl (WL.pu rfl (WL.pu rfl ?_))
          refine WL.new (dd:=22) rfl rfl rfl (yh (cs:=[(.int .i64 0),(.int .i64 0)]) ym rfl) ?_
          intro z44 _
          refine WL.ya rfl rfl (y9 yj rfl rfl rfl .here rfl rfl rfl) ?_
          refine WL.pu rfl (WL.nil (WX.a (WC.b (WC.a (WL.pu rfl (WL.pu rfl ?_))))))
          refine WL.freezeS (ls:=zC) (.there .h7) .h1 hz (RR.flat (enc:=e35) (fun _=>rfl) _) ?_
          intro zk3 zdE zo7
          have zwU : RR 1 (p39 (Z ++ zk3)) [(.slice z1n zi.length z1o),(.slice z2j zC.length z2k)] ([zi,zC] : List (List z1)):=(RR.cons (r:=[(.slice z1n zi.length z1o)]) rfl (show p39 _ _ _ from ⟨_,_,rfl,(zdD.mono (zbF.trans ((Zle.left _ _).trans ((Zle.yi _ _ _).trans zdE))))⟩) (RR.cons (r:=[(.slice z2j zC.length z2k)]) rfl (show p39 _ _ _ from ⟨_,_,rfl,zo7⟩) (RR.nil _ _)))
          refine WL.new (dd:=90) rfl rfl rfl (yp (cs:=[(.slice z1n zi.length z1o),(.slice z2j zC.length z2k)]) y2x (Eos.parts (l:=[.tmp 88,.tmp 89]) (.cons rfl (.cons rfl .nil)) [0,1]) (fun _=>by kernel_rfl) rfl (by unfold maxLen; omega)) ?_
          intro zdF _
          refine WL.a (d:=91) rfl rfl rfl (y7 y24 rfl (y6 .h6) rfl) ?_
          refine WL.a (d:=92) rfl rfl rfl (yV (v:=(.agg #[(.slice (some ⟨zdF,0,none⟩) (([zi,zC] : List (List z1)).length) 2),(.int .i64 za.1.fN),(.int .i64 za.1.fD),(.int .i64 zb.fN),(.int .i64 zb.fD)])) (Eos.parts (l:=[.tmp 90,.tmp 91]) (.cons rfl (.cons rfl .nil)) [0,1]) (fun _=>by kernel_rfl)) ?_
          refine WL.pu rfl ?_
          have zwV : RR 1 (p39 (Z ++ zk3)) [(.slice z1n zi.length z1o)] ([zi] : List (List z1)):=(RR.cons (r:=[(.slice z1n zi.length z1o)]) rfl (show p39 _ _ _ from ⟨_,_,rfl,(zdD.mono (zbF.trans ((Zle.left _ _).trans ((Zle.yi _ _ _).trans zdE))))⟩) (RR.nil _ _))
          refine WL.new (dd:=94) rfl rfl rfl (yp (cs:=[(.slice z1n zi.length z1o)]) y2x (Eos.parts (l:=[.tmp 93]) (.cons rfl .nil) [0]) (fun _=>by kernel_rfl) rfl (by unfold maxLen; omega)) ?_
          intro zdG _
          refine WL.a (d:=95) rfl rfl rfl (y7 y24 rfl (y6 .h6) rfl) ?_
          refine WL.a (d:=96) rfl rfl rfl (yV (v:=(.agg #[(.slice (some ⟨zdG,0,none⟩) (([zi] : List (List z1)).length) 1),(.int .i64 za.1.fN),(.int .i64 za.1.fD),(.int .i64 zj.fN),(.int .i64 zj.fD)])) (Eos.parts (l:=[.tmp 94,.tmp 95]) (.cons rfl (.cons rfl .nil)) [0,1]) (fun _=>by kernel_rfl)) ?_
          refine WL.pu rfl ?_
          have zwW : RR 1 (p39 (Z ++ zk3)) [(.slice z1n zi.length z1o)] ([zi] : List (List z1)):=(RR.cons (r:=[(.slice z1n zi.length z1o)]) rfl (show p39 _ _ _ from ⟨_,_,rfl,(zdD.mono (zbF.trans ((Zle.left _ _).trans ((Zle.yi _ _ _).trans zdE))))⟩) (RR.nil _ _))
          refine WL.new (dd:=98) rfl rfl rfl (yp (cs:=[(.slice z1n zi.length z1o)]) y2x (Eos.parts (l:=[.tmp 97]) (.cons rfl .nil) [0]) (fun _=>by kernel_rfl) rfl (by unfold maxLen; omega)) ?_
          intro zdH _
          refine WL.a (d:=99) rfl rfl rfl (y7 y24 rfl (y6 .h6) rfl) ?_
          refine WL.a (d:=100) rfl rfl rfl (yV (v:=(.agg #[(.slice (some ⟨zdH,0,none⟩) (([zi] : List (List z1)).length) 1),(.int .i64 zf.1.fN),(.int .i64 zf.1.fD),(.int .i64 zb.fN),(.int .i64 zb.fD)])) (Eos.parts (l:=[.tmp 98,.tmp 99]) (.cons rfl (.cons rfl .nil)) [0,1]) (fun _=>by kernel_rfl)) ?_
          refine WL.freezeS (ls:=([zi,zC] : List (List z1))) .h2 .h2 hz zwU ?_
          intro zBa zbG zk4
          replace zk4:=zk4.weak (fun _ _ h=>yo zbG h)
          refine WL.freezeS (ls:=([zi] : List (List z1))) .h2 .here hz (zwV.weak (fun _ _ h=>yo zbG h)) ?_
          intro zBb z9I zk5
          replace zk5:=zk5.weak (fun _ _ h=>yo z9I h)
          refine WL.freezeS (ls:=([zi] : List (List z1))) .h1 .here hz (zwW.weak (fun _ _ h=>yo (zbG.trans z9I) h)) ?_
          intro zfm z8q zk6
          replace zk6:=zk6.weak (fun _ _ h=>yo z8q h)
          have zwX : RR 5 (p62 (Z ++ zfm)) [(.slice (some ⟨zdF,0,none⟩) (([zi,zC] : List (List z1)).length) 2),(.int .i64 za.1.fN),(.int .i64 za.1.fD),(.int .i64 zb.fN),(.int .i64 zb.fD),(.slice (some ⟨zdG,0,none⟩) (([zi] : List (List z1)).length) 1),(.int .i64 za.1.fN),(.int .i64 za.1.fD),(.int .i64 zj.fN),(.int .i64 zj.fD),(.slice (some ⟨zdH,0,none⟩) (([zi] : List (List z1)).length) 1),(.int .i64 zf.1.fN),(.int .i64 zf.1.fD),(.int .i64 zb.fN),(.int .i64 zb.fD)] ([(⟨([zi,zC] : List (List z1)),(⟨za.1,zb⟩ : zSv)⟩ : S62),(⟨([zi] : List (List z1)),(⟨za.1,zj⟩ : zSv)⟩ : S62),(⟨([zi] : List (List z1)),(⟨zf.1,zb⟩ : zSv)⟩ : S62)] : List S62):=(RR.cons (r:=[(.slice (some ⟨zdF,0,none⟩) (([zi,zC] : List (List z1)).length) 2),(.int .i64 za.1.fN),(.int .i64 za.1.fD),(.int .i64 zb.fN),(.int .i64 zb.fD)]) rfl (show p62 _ _ _ from ⟨_,_,rfl,((zk4.mono (z9I.trans z8q)).weak (fun _ _ h=>yo (z9I.trans z8q) h))⟩) (RR.cons (r:=[(.slice (some ⟨zdG,0,none⟩) (([zi] : List (List z1)).length) 1),(.int .i64 za.1.fN),(.int .i64 za.1.fD),(.int .i64 zj.fN),(.int .i64 zj.fD)]) rfl (show p62 _ _ _ from ⟨_,_,rfl,((zk5.mono z8q).weak (fun _ _ h=>yo z8q h))⟩) (RR.cons (r:=[(.slice (some ⟨zdH,0,none⟩) (([zi] : List (List z1)).length) 1),(.int .i64 zf.1.fN),(.int .i64 zf.1.fD),(.int .i64 zb.fN),(.int .i64 zb.fD)]) rfl (show p62 _ _ _ from ⟨_,_,rfl,zk6⟩) (RR.nil _ _))))
          refine WL.new (dd:=101) rfl rfl rfl (yp (cs:=[(.slice (some ⟨zdF,0,none⟩) (([zi,zC] : List (List z1)).length) 2),(.int .i64 za.1.fN),(.int .i64 za.1.fD),(.int .i64 zb.fN),(.int .i64 zb.fD),(.slice (some ⟨zdG,0,none⟩) (([zi] : List (List z1)).length) 1),(.int .i64 za.1.fN),(.int .i64 za.1.fD),(.int .i64 zj.fN),(.int .i64 zj.fD),(.slice (some ⟨zdH,0,none⟩) (([zi] : List (List z1)).length) 1),(.int .i64 zf.1.fN),(.int .i64 zf.1.fD),(.int .i64 zb.fN),(.int .i64 zb.fD)]) y8o (Eos.parts (l:=[.tmp 92,.tmp 96,.tmp 100]) (.cons rfl (.cons rfl (.cons rfl .nil))) [0,1,2]) (fun _=>by kernel_rfl) rfl (by unfold maxLen; omega)) ?_
          intro z47 _
          refine WL.a (d:=102) rfl rfl rfl (y1c Try.underlying63 rfl) ?_
          refine WL.pu rfl (WL.nil (WX.a ?_))
          obtain ⟨z7k,zwY,h⟩:=y2V h
          refine WC.y8F (fun (zbH : Zp)=>(z7k = some r) ∧ (Zle (Z ++ zfm) (Z ++ zbH))) (fun (zbH : Zp)=>[(11,(.slice z1n zi.length z1o)),(12,(.slice z2j zC.length z2k)),(17,(.pointer (some ⟨zH,0,none⟩))),(18,(.pointer (some ⟨b2o1_56517,0,none⟩))),(19,(.pointer (some ⟨b3o1_56517,0,none⟩))),(74,(.slice (some ⟨z1b,0,none⟩) (([(),()] : List Unit).length) 2)),(75,(.int .i64 2)),(76,(.int .i64 0))]) (fun (zbH : Zp)=>[fz zbH,row (.slice (some ⟨z1b,0,none⟩) (([(),()] : List Unit).length) 2) 48 1 [(.func (.func 15) #[] #[]),(.func (.func 16) #[] #[])],stb zH 43 [(.int .i64 za.1.fN),(.int .i64 za.1.fD),(.int .i64 zb.fN),(.int .i64 zb.fD)],stb b2o1_56517 43 [(.int .i64 za.1.fN),(.int .i64 za.1.fD),(.int .i64 zj.fN),(.int .i64 zj.fD)],stb b3o1_56517 43 [(.int .i64 zf.1.fN),(.int .i64 zf.1.fD),(.int .i64 zb.fN),(.int .i64 zb.fD)]]) ?_ ?_
          · skip
            refine WC.block ?_
            refine WC.y4r (fun (zbI : Nat) (zu : List S62) (zy : Int) (z3w : Zp) (z4y : List Value)=>(yX zi zC za zb zj zf z18 z7k zbI zu zy = some r) ∧ (Zle (Z ++ zfm) (Z ++ z3w)) ∧ (RR 5 (p62 (Z ++ z3w)) z4y zu)) (fun (zbI : Nat) (zu : List S62) (zy : Int) (z3w : Zp) (z4y : List Value)=>[(11,(.slice z1n zi.length z1o)),(12,(.slice z2j zC.length z2k)),(17,(.pointer (some ⟨zH,0,none⟩))),(18,(.pointer (some ⟨b2o1_56517,0,none⟩))),(19,(.pointer (some ⟨b3o1_56517,0,none⟩))),(21,(.func (.func 15) #[] #[])),(22,(.pointer (some ⟨z44,0,none⟩))),(23,(.int .i64 z18.2)),(74,(.slice (some ⟨z1b,0,none⟩) (([(),()] : List Unit).length) 2)),(75,(.int .i64 2)),(76,(.int .i64 0)),(101,(.slice (some ⟨z47,0,none⟩) zu.length 3)),(102,(.int .i64 ((([(⟨([zi,zC] : List (List z1)),(⟨za.1,zb⟩ : zSv)⟩ : S62),(⟨([zi] : List (List z1)),(⟨za.1,zj⟩ : zSv)⟩ : S62),(⟨([zi] : List (List z1)),(⟨zf.1,zb⟩ : zSv)⟩ : S62)] : List S62).length : Nat) : Int))),(103,(.int .i64 zy))]) (fun (zbI : Nat) (zu : List S62) (zy : Int) (z3w : Zp) (z4y : List Value)=>[fz z3w,row (.slice (some ⟨z1b,0,none⟩) (([(),()] : List Unit).length) 2) 48 1 [(.func (.func 15) #[] #[]),(.func (.func 16) #[] #[])],row (.slice (some ⟨z47,0,none⟩) zu.length 3) 62 5 z4y,stb zH 43 [(.int .i64 za.1.fN),(.int .i64 za.1.fD),(.int .i64 zb.fN),(.int .i64 zb.fD)],stb b2o1_56517 43 [(.int .i64 za.1.fN),(.int .i64 za.1.fD),(.int .i64 zj.fN),(.int .i64 zj.fD)],stb b3o1_56517 43 [(.int .i64 zf.1.fN),(.int .i64 zf.1.fD),(.int .i64 zb.fN),(.int .i64 zb.fD)],stb z44 30 [(.int .i64 z18.1.fN),(.int .i64 z18.1.fD)]]) (fun (zbI : Nat) (zu : List S62) (zy : Int) (z3w : Zp) (z4y : List Value)=>zbI) ⟨ys,([(⟨([zi,zC] : List (List z1)),(⟨za.1,zb⟩ : zSv)⟩ : S62),(⟨([zi] : List (List z1)),(⟨za.1,zj⟩ : zSv)⟩ : S62),(⟨([zi] : List (List z1)),(⟨zf.1,zb⟩ : zSv)⟩ : S62)] : List S62),0,zfm,[(.slice (some ⟨zdF,0,none⟩) (([zi,zC] : List (List z1)).length) 2),(.int .i64 za.1.fN),(.int .i64 za.1.fD),(.int .i64 zb.fN),(.int .i64 zb.fD),(.slice (some ⟨zdG,0,none⟩) (([zi] : List (List z1)).length) 1),(.int .i64 za.1.fN),(.int .i64 za.1.fD),(.int .i64 zj.fN),(.int .i64 zj.fD),(.slice (some ⟨zdH,0,none⟩) (([zi] : List (List z1)).length) 1),(.int .i64 zf.1.fN),(.int .i64 zf.1.fD),(.int .i64 zb.fN),(.int .i64 zb.fD)]⟩ ⟨h,(Zle.refl _),zwX⟩ (.cons rfl (.cons rfl (.cons rfl (.cons rfl (.cons rfl (.cons rfl (.cons rfl (.cons rfl (.cons rfl (.cons rfl (.cons rfl (.cons rfl (.cons rfl (.cons rfl .nil)))))))))))))) (.cons .h1 (.cons .h2 (.cons .here (.cons .h3 (.cons .h2 (.cons .h1 (.cons .here .nil))))))) ?_
            rintro zbI zu zy z3w z4y ⟨h,zo8,zo9⟩
            obtain ⟨zjU,rfl⟩:=y58 h
            rw [yX] at h
            refine WC.b (WC.a (WL.pu rfl (WL.nil (WX.a (WC.b ?_)))))
            refine WC.cond rfl (fun zk7=>?_) (fun zk7=>?_)
            · replace h:=ye h zk7
              refine WC.skip (WX.a (WC.b (WC.block (WC.b ?_))))
              obtain ⟨zfn,h⟩:=yk h
              refine WC.a ?_
              obtain ⟨zBc,zBd,zBe,zwZ,⟨z9J,z9K,rfl,zx0⟩⟩:=RR.elem zo9 zfn.1 zfn.2
              refine WL.a (d:=105) rfl rfl rfl (y19 y8o rfl rfl zfn.1 zfn.2 y3b) ?_
              refine WL.a (d:=106) rfl rfl rfl (yv (cs:=[(.slice z9J (((nth zu zy).fL).length) z9K),(.int .i64 ((((nth zu zy).fS).fR).fN)),(.int .i64 ((((nth zu zy).fS).fR).fD)),(.int .i64 ((((nth zu zy).fS).fLatency).fN)),(.int .i64 ((((nth zu zy).fS).fLatency).fD))]) ya9 rfl rfl (y2T .h2 (y7E zwZ))) ?_
              refine WL.new (dd:=25) rfl rfl rfl (yh (cs:=[(.slice none 0 0),(.int .i64 0),(.int .i64 0),(.int .i64 0),(.int .i64 0)]) y9w rfl) ?_
              intro zbJ _
              refine WL.ya rfl rfl (y9 yaa rfl rfl rfl .here rfl rfl rfl) ?_
              refine WL.nil (WX.a (WC.b ?_))
              obtain ⟨z1l,zx1,h⟩:=z8 h
              refine WC.a (WL.pu rfl ?_)
              refine WL.a (d:=109) rfl rfl rfl (y3 yab rfl rfl) ?_
              refine WL.a (d:=110) rfl rfl rfl (yb y2L rfl (yq .here rfl)) ?_
              refine WL.a (d:=111) rfl rfl rfl (y3 yac rfl rfl) ?_
              refine WL.a (d:=112) rfl rfl rfl (yv (cs:=[(.int .i64 ((((nth zu zy).fS).fR).fN)),(.int .i64 ((((nth zu zy).fS).fR).fD)),(.int .i64 ((((nth zu zy).fS).fLatency).fN)),(.int .i64 ((((nth zu zy).fS).fLatency).fD))]) y24 rfl rfl (y1D (s:=4) .here rfl)) ?_
              refine WL.y2l (dd:=113) rfl rfl rfl (y1R (l:=[.tmp 110,.tmp 112]) Try.call15 rfl (.cons rfl (.cons rfl .nil))) .nil (ccz hz .nil .h1 fun w pz ho=>y2X _ _ _ _ _ _ zx1 w pz zx0) ?_
              rintro z8r _
              refine WL.merge .here .h1 ?_
              refine WL.pu rfl (WL.pu rfl (WL.pu rfl ?_))
              refine WL.new (dd:=26) rfl rfl rfl (yh (cs:=[(.int .i64 0),(.int .i64 0)]) ym rfl) ?_
              intro z8s _
              refine WL.ya rfl rfl (y9 yj rfl rfl rfl .here rfl rfl rfl) ?_
              refine WL.pu rfl (WL.nil (WX.a (WC.b ?_)))
              obtain ⟨zdw,zoa,h⟩:=z8 h
              refine WC.a (WL.pu rfl (WL.pu rfl (WL.pu rfl ?_)))
              refine WL.y32 True [(11,(.slice z1n zi.length z1o)),(12,(.slice z2j zC.length z2k)),(17,(.pointer (some ⟨zH,0,none⟩))),(18,(.pointer (some ⟨b2o1_56517,0,none⟩))),(19,(.pointer (some ⟨b3o1_56517,0,none⟩))),(21,(.func (.func 15) #[] #[])),(22,(.pointer (some ⟨z44,0,none⟩))),(23,(.int .i64 z18.2)),(74,(.slice (some ⟨z1b,0,none⟩) (([(),()] : List Unit).length) 2)),(75,(.int .i64 2)),(76,(.int .i64 0)),(101,(.slice (some ⟨z47,0,none⟩) zu.length 3)),(102,(.int .i64 ((([(⟨([zi,zC] : List (List z1)),(⟨za.1,zb⟩ : zSv)⟩ : S62),(⟨([zi] : List (List z1)),(⟨za.1,zj⟩ : zSv)⟩ : S62),(⟨([zi] : List (List z1)),(⟨zf.1,zb⟩ : zSv)⟩ : S62)] : List S62).length : Nat) : Int))),(103,(.int .i64 zy)),(26,(.pointer (some ⟨z8s,0,none⟩))),(27,(.int .i64 z1l.2)),(121,(.bool ((decide (z18.2 = 6)) && (decide (z1l.2 ≠ 6)))))] [stb z8s 30 [(.int .i64 z1l.1.fN),(.int .i64 z1l.1.fD)],fz (z3w ++ z8r),stb zbJ 62 [(.slice z9J (((nth zu zy).fL).length) z9K),(.int .i64 ((((nth zu zy).fS).fR).fN)),(.int .i64 ((((nth zu zy).fS).fR).fD)),(.int .i64 ((((nth zu zy).fS).fLatency).fN)),(.int .i64 ((((nth zu zy).fS).fLatency).fD))],row (.slice (some ⟨z1b,0,none⟩) (([(),()] : List Unit).length) 2) 48 1 [(.func (.func 15) #[] #[]),(.func (.func 16) #[] #[])],row (.slice (some ⟨z47,0,none⟩) zu.length 3) 62 5 z4y,stb zH 43 [(.int .i64 za.1.fN),(.int .i64 za.1.fD),(.int .i64 zb.fN),(.int .i64 zb.fD)],stb b2o1_56517 43 [(.int .i64 za.1.fN),(.int .i64 za.1.fD),(.int .i64 zj.fN),(.int .i64 zj.fD)],stb b3o1_56517 43 [(.int .i64 zf.1.fN),(.int .i64 zf.1.fD),(.int .i64 zb.fN),(.int .i64 zb.fD)],stb z44 30 [(.int .i64 z18.1.fN),(.int .i64 z18.1.fD)]] 3 ?_ (fun _=>?_)
              · rcases Bool.eq_false_or_eq_true (decide (z18.2 = 6)) with hb' | hb'
                · have zob:=hb'; clear hb'
                  refine WL.pin (i:=118) rfl zob ?_
                  refine WL.pu rfl (WL.pu rfl (WL.pu rfl ?_))
                  exact WL.yF () trivial (.cons rfl (.cons rfl (.cons rfl (.cons rfl (.cons rfl (.cons rfl (.cons rfl (.cons rfl (.cons rfl (.cons rfl (.cons rfl (.cons rfl (.cons rfl (.cons rfl (.cons rfl (.cons rfl (.cons (zn (y39 zob)) .nil))))))))))))))))) (.cons .here (.cons .here (.cons .here (.cons .here (.cons .here (.cons .here (.cons .here (.cons .here (.cons .here .nil)))))))))
                · have zoc:=hb'; clear hb'
                  refine WL.pin (i:=118) rfl zoc ?_
                  refine WL.e rfl rfl rfl (WL.e rfl rfl rfl (WL.pu rfl ?_))
                  exact WL.yF () trivial (.cons rfl (.cons rfl (.cons rfl (.cons rfl (.cons rfl (.cons rfl (.cons rfl (.cons rfl (.cons rfl (.cons rfl (.cons rfl (.cons rfl (.cons rfl (.cons rfl (.cons rfl (.cons rfl (.cons (zn (y38 zoc)) .nil))))))))))))))))) (.cons .here (.cons .here (.cons .here (.cons .here (.cons .here (.cons .here (.cons .here (.cons .here (.cons .here .nil)))))))))
              · skip
                refine WL.pu rfl ?_
                refine WL.y32 True [(11,(.slice z1n zi.length z1o)),(12,(.slice z2j zC.length z2k)),(17,(.pointer (some ⟨zH,0,none⟩))),(18,(.pointer (some ⟨b2o1_56517,0,none⟩))),(19,(.pointer (some ⟨b3o1_56517,0,none⟩))),(21,(.func (.func 15) #[] #[])),(22,(.pointer (some ⟨z44,0,none⟩))),(23,(.int .i64 z18.2)),(74,(.slice (some ⟨z1b,0,none⟩) (([(),()] : List Unit).length) 2)),(75,(.int .i64 2)),(76,(.int .i64 0)),(101,(.slice (some ⟨z47,0,none⟩) zu.length 3)),(102,(.int .i64 ((([(⟨([zi,zC] : List (List z1)),(⟨za.1,zb⟩ : zSv)⟩ : S62),(⟨([zi] : List (List z1)),(⟨za.1,zj⟩ : zSv)⟩ : S62),(⟨([zi] : List (List z1)),(⟨zf.1,zb⟩ : zSv)⟩ : S62)] : List S62).length : Nat) : Int))),(103,(.int .i64 zy)),(27,(.int .i64 z1l.2)),(135,(.bool zdw))] [stb z8s 30 [(.int .i64 z1l.1.fN),(.int .i64 z1l.1.fD)],fz (z3w ++ z8r),stb zbJ 62 [(.slice z9J (((nth zu zy).fL).length) z9K),(.int .i64 ((((nth zu zy).fS).fR).fN)),(.int .i64 ((((nth zu zy).fS).fR).fD)),(.int .i64 ((((nth zu zy).fS).fLatency).fN)),(.int .i64 ((((nth zu zy).fS).fLatency).fD))],row (.slice (some ⟨z1b,0,none⟩) (([(),()] : List Unit).length) 2) 48 1 [(.func (.func 15) #[] #[]),(.func (.func 16) #[] #[])],row (.slice (some ⟨z47,0,none⟩) zu.length 3) 62 5 z4y,stb zH 43 [(.int .i64 za.1.fN),(.int .i64 za.1.fD),(.int .i64 zb.fN),(.int .i64 zb.fD)],stb b2o1_56517 43 [(.int .i64 za.1.fN),(.int .i64 za.1.fD),(.int .i64 zj.fN),(.int .i64 zj.fD)],stb b3o1_56517 43 [(.int .i64 zf.1.fN),(.int .i64 zf.1.fD),(.int .i64 zb.fN),(.int .i64 zb.fD)],stb z44 30 [(.int .i64 z18.1.fN),(.int .i64 z18.1.fD)]] 13 ?_ (fun _=>?_)
                · rcases Bool.eq_false_or_eq_true ((decide (z18.2 = 6)) && (decide (z1l.2 ≠ 6))) with hb' | hb'
                  · have zod:=hb'; clear hb'
                    have zk8:=ye zoa zod
                    replace zk8:=Option.some.inj zk8
                    refine WL.pin (i:=122) rfl zod ?_
                    refine WL.e rfl rfl rfl (WL.e rfl rfl rfl (WL.e rfl rfl rfl (WL.e rfl rfl rfl (WL.e rfl rfl rfl (WL.e rfl rfl rfl (WL.e rfl rfl rfl (WL.e rfl rfl rfl (WL.e rfl rfl rfl (WL.e rfl rfl rfl (WL.e rfl rfl rfl (WL.e rfl rfl rfl (WL.pu rfl ?_))))))))))))
                    exact WL.yF () trivial (.cons rfl (.cons rfl (.cons rfl (.cons rfl (.cons rfl (.cons rfl (.cons rfl (.cons rfl (.cons rfl (.cons rfl (.cons rfl (.cons rfl (.cons rfl (.cons rfl (.cons rfl (.cons (zn zk8) .nil)))))))))))))))) (.cons .here (.cons .here (.cons .here (.cons .here (.cons .here (.cons .here (.cons .here (.cons .here (.cons .here .nil)))))))))
                  · have zoe:=hb'; clear hb'
                    have zdI:=yf zoa zoe
                    obtain ⟨zjV,zof,zdI⟩:=z8 zdI
                    replace zdI:=Option.some.inj zdI
                    refine WL.pin (i:=122) rfl zoe ?_
                    refine WL.pu rfl (WL.pu rfl (WL.pu rfl ?_))
                    refine WL.y32 True [(11,(.slice z1n zi.length z1o)),(12,(.slice z2j zC.length z2k)),(17,(.pointer (some ⟨zH,0,none⟩))),(18,(.pointer (some ⟨b2o1_56517,0,none⟩))),(19,(.pointer (some ⟨b3o1_56517,0,none⟩))),(21,(.func (.func 15) #[] #[])),(22,(.pointer (some ⟨z44,0,none⟩))),(23,(.int .i64 z18.2)),(74,(.slice (some ⟨z1b,0,none⟩) (([(),()] : List Unit).length) 2)),(75,(.int .i64 2)),(76,(.int .i64 0)),(101,(.slice (some ⟨z47,0,none⟩) zu.length 3)),(102,(.int .i64 ((([(⟨([zi,zC] : List (List z1)),(⟨za.1,zb⟩ : zSv)⟩ : S62),(⟨([zi] : List (List z1)),(⟨za.1,zj⟩ : zSv)⟩ : S62),(⟨([zi] : List (List z1)),(⟨zf.1,zb⟩ : zSv)⟩ : S62)] : List S62).length : Nat) : Int))),(103,(.int .i64 zy)),(26,(.pointer (some ⟨z8s,0,none⟩))),(27,(.int .i64 z1l.2)),(122,(.bool false)),(128,(.bool ((decide (z18.2 = 0)) && (decide (z1l.2 = 0)))))] [stb z8s 30 [(.int .i64 z1l.1.fN),(.int .i64 z1l.1.fD)],fz (z3w ++ z8r),stb zbJ 62 [(.slice z9J (((nth zu zy).fL).length) z9K),(.int .i64 ((((nth zu zy).fS).fR).fN)),(.int .i64 ((((nth zu zy).fS).fR).fD)),(.int .i64 ((((nth zu zy).fS).fLatency).fN)),(.int .i64 ((((nth zu zy).fS).fLatency).fD))],row (.slice (some ⟨z1b,0,none⟩) (([(),()] : List Unit).length) 2) 48 1 [(.func (.func 15) #[] #[]),(.func (.func 16) #[] #[])],row (.slice (some ⟨z47,0,none⟩) zu.length 3) 62 5 z4y,stb zH 43 [(.int .i64 za.1.fN),(.int .i64 za.1.fD),(.int .i64 zb.fN),(.int .i64 zb.fD)],stb b2o1_56517 43 [(.int .i64 za.1.fN),(.int .i64 za.1.fD),(.int .i64 zj.fN),(.int .i64 zj.fD)],stb b3o1_56517 43 [(.int .i64 zf.1.fN),(.int .i64 zf.1.fD),(.int .i64 zb.fN),(.int .i64 zb.fD)],stb z44 30 [(.int .i64 z18.1.fN),(.int .i64 z18.1.fD)]] 3 ?_ (fun _=>?_)
                    · rcases Bool.eq_false_or_eq_true (decide (z18.2 = 0)) with hb' | hb'
                      · have zog:=hb'; clear hb'
                        refine WL.pin (i:=125) rfl zog ?_
                        refine WL.pu rfl (WL.pu rfl (WL.pu rfl ?_))
                        exact WL.yF () trivial (.cons rfl (.cons rfl (.cons rfl (.cons rfl (.cons rfl (.cons rfl (.cons rfl (.cons rfl (.cons rfl (.cons rfl (.cons rfl (.cons rfl (.cons rfl (.cons rfl (.cons rfl (.cons rfl (.cons rfl (.cons (zn (y39 zog)) .nil)))))))))))))))))) (.cons .here (.cons .here (.cons .here (.cons .here (.cons .here (.cons .here (.cons .here (.cons .here (.cons .here .nil)))))))))
                      · have zoh:=hb'; clear hb'
                        refine WL.pin (i:=125) rfl zoh ?_
                        refine WL.e rfl rfl rfl (WL.e rfl rfl rfl (WL.pu rfl ?_))
                        exact WL.yF () trivial (.cons rfl (.cons rfl (.cons rfl (.cons rfl (.cons rfl (.cons rfl (.cons rfl (.cons rfl (.cons rfl (.cons rfl (.cons rfl (.cons rfl (.cons rfl (.cons rfl (.cons rfl (.cons rfl (.cons rfl (.cons (zn (y38 zoh)) .nil)))))))))))))))))) (.cons .here (.cons .here (.cons .here (.cons .here (.cons .here (.cons .here (.cons .here (.cons .here (.cons .here .nil)))))))))
                    · skip
                      refine WL.pu rfl ?_
                      refine WL.y32 True [(11,(.slice z1n zi.length z1o)),(12,(.slice z2j zC.length z2k)),(17,(.pointer (some ⟨zH,0,none⟩))),(18,(.pointer (some ⟨b2o1_56517,0,none⟩))),(19,(.pointer (some ⟨b3o1_56517,0,none⟩))),(21,(.func (.func 15) #[] #[])),(22,(.pointer (some ⟨z44,0,none⟩))),(23,(.int .i64 z18.2)),(74,(.slice (some ⟨z1b,0,none⟩) (([(),()] : List Unit).length) 2)),(75,(.int .i64 2)),(76,(.int .i64 0)),(101,(.slice (some ⟨z47,0,none⟩) zu.length 3)),(102,(.int .i64 ((([(⟨([zi,zC] : List (List z1)),(⟨za.1,zb⟩ : zSv)⟩ : S62),(⟨([zi] : List (List z1)),(⟨za.1,zj⟩ : zSv)⟩ : S62),(⟨([zi] : List (List z1)),(⟨zf.1,zb⟩ : zSv)⟩ : S62)] : List S62).length : Nat) : Int))),(103,(.int .i64 zy)),(27,(.int .i64 z1l.2)),(122,(.bool false)),(134,(.bool zjV))] [stb z8s 30 [(.int .i64 z1l.1.fN),(.int .i64 z1l.1.fD)],fz (z3w ++ z8r),stb zbJ 62 [(.slice z9J (((nth zu zy).fL).length) z9K),(.int .i64 ((((nth zu zy).fS).fR).fN)),(.int .i64 ((((nth zu zy).fS).fR).fD)),(.int .i64 ((((nth zu zy).fS).fLatency).fN)),(.int .i64 ((((nth zu zy).fS).fLatency).fD))],row (.slice (some ⟨z1b,0,none⟩) (([(),()] : List Unit).length) 2) 48 1 [(.func (.func 15) #[] #[]),(.func (.func 16) #[] #[])],row (.slice (some ⟨z47,0,none⟩) zu.length 3) 62 5 z4y,stb zH 43 [(.int .i64 za.1.fN),(.int .i64 za.1.fD),(.int .i64 zb.fN),(.int .i64 zb.fD)],stb b2o1_56517 43 [(.int .i64 za.1.fN),(.int .i64 za.1.fD),(.int .i64 zj.fN),(.int .i64 zj.fD)],stb b3o1_56517 43 [(.int .i64 zf.1.fN),(.int .i64 zf.1.fD),(.int .i64 zb.fN),(.int .i64 zb.fD)],stb z44 30 [(.int .i64 z18.1.fN),(.int .i64 z18.1.fD)]] 5 ?_ (fun _=>?_)
                      · rcases Bool.eq_false_or_eq_true ((decide (z18.2 = 0)) && (decide (z1l.2 = 0))) with hb' | hb'
                        · have zoi:=hb'; clear hb'
                          have zdJ:=ye zof zoi
                          obtain ⟨zo3,zx2,zdJ⟩:=z8 zdJ
                          replace zdJ:=Option.some.inj zdJ
                          refine WL.pin (i:=129) rfl zoi ?_
                          refine WL.a (d:=130) rfl rfl rfl (y7 y4 rfl (y6 .here) rfl) ?_
                          refine WL.a (d:=131) rfl rfl rfl (y7 y4 rfl (y6 (.there .h7)) rfl) ?_
                          refine WL.b (dd:=132) rfl rfl rfl (ze (l:=[.tmp 130,.tmp 131]) Try.call18 (.cons rfl (.cons rfl .nil))) .nil (ccz hz .nil .h1 fun w pz ho=>y1Y _ _ _ _ zx2 w pz ) ?_
                          refine WL.pu rfl (WL.pu rfl ?_)
                          exact WL.yF () trivial (.cons rfl (.cons rfl (.cons rfl (.cons rfl (.cons rfl (.cons rfl (.cons rfl (.cons rfl (.cons rfl (.cons rfl (.cons rfl (.cons rfl (.cons rfl (.cons rfl (.cons rfl (.cons rfl (.cons (zn zdJ) .nil))))))))))))))))) (.cons .here (.cons .here (.cons .here (.cons .here (.cons .here (.cons .here (.cons .here (.cons .here (.cons .here .nil)))))))))
                        · have zoj:=hb'; clear hb'
                          have zk9:=yf zof zoj
                          replace zk9:=Option.some.inj zk9
                          refine WL.pin (i:=129) rfl zoj ?_
                          refine WL.e rfl rfl rfl (WL.e rfl rfl rfl (WL.e rfl rfl rfl (WL.e rfl rfl rfl (WL.pu rfl ?_))))
                          exact WL.yF () trivial (.cons rfl (.cons rfl (.cons rfl (.cons rfl (.cons rfl (.cons rfl (.cons rfl (.cons rfl (.cons rfl (.cons rfl (.cons rfl (.cons rfl (.cons rfl (.cons rfl (.cons rfl (.cons rfl (.cons (zn zk9) .nil))))))))))))))))) (.cons .here (.cons .here (.cons .here (.cons .here (.cons .here (.cons .here (.cons .here (.cons .here (.cons .here .nil)))))))))
                      · skip
                        refine WL.pu rfl ?_
                        exact WL.yF () trivial (.cons rfl (.cons rfl (.cons rfl (.cons rfl (.cons rfl (.cons rfl (.cons rfl (.cons rfl (.cons rfl (.cons rfl (.cons rfl (.cons rfl (.cons rfl (.cons rfl (.cons rfl (.cons (zn zdI) .nil)))))))))))))))) (.cons .here (.cons .here (.cons .here (.cons .here (.cons .here (.cons .here (.cons .here (.cons .here (.cons .here .nil)))))))))
                · skip
                  refine WL.pu rfl ?_
                  refine WL.y32 True [(11,(.slice z1n zi.length z1o)),(12,(.slice z2j zC.length z2k)),(17,(.pointer (some ⟨zH,0,none⟩))),(18,(.pointer (some ⟨b2o1_56517,0,none⟩))),(19,(.pointer (some ⟨b3o1_56517,0,none⟩))),(21,(.func (.func 15) #[] #[])),(22,(.pointer (some ⟨z44,0,none⟩))),(23,(.int .i64 z18.2)),(74,(.slice (some ⟨z1b,0,none⟩) (([(),()] : List Unit).length) 2)),(75,(.int .i64 2)),(76,(.int .i64 0)),(101,(.slice (some ⟨z47,0,none⟩) zu.length 3)),(102,(.int .i64 ((([(⟨([zi,zC] : List (List z1)),(⟨za.1,zb⟩ : zSv)⟩ : S62),(⟨([zi] : List (List z1)),(⟨za.1,zj⟩ : zSv)⟩ : S62),(⟨([zi] : List (List z1)),(⟨zf.1,zb⟩ : zSv)⟩ : S62)] : List S62).length : Nat) : Int))),(103,(.int .i64 zy)),(143,(.bool (zdw || ((decide (z1l.2 ≠ 0)) && (decide (z1l.2 ≠ 6))))))] [stb z8s 30 [(.int .i64 z1l.1.fN),(.int .i64 z1l.1.fD)],fz (z3w ++ z8r),stb zbJ 62 [(.slice z9J (((nth zu zy).fL).length) z9K),(.int .i64 ((((nth zu zy).fS).fR).fN)),(.int .i64 ((((nth zu zy).fS).fR).fD)),(.int .i64 ((((nth zu zy).fS).fLatency).fN)),(.int .i64 ((((nth zu zy).fS).fLatency).fD))],row (.slice (some ⟨z1b,0,none⟩) (([(),()] : List Unit).length) 2) 48 1 [(.func (.func 15) #[] #[]),(.func (.func 16) #[] #[])],row (.slice (some ⟨z47,0,none⟩) zu.length 3) 62 5 z4y,stb zH 43 [(.int .i64 za.1.fN),(.int .i64 za.1.fD),(.int .i64 zb.fN),(.int .i64 zb.fD)],stb b2o1_56517 43 [(.int .i64 za.1.fN),(.int .i64 za.1.fD),(.int .i64 zj.fN),(.int .i64 zj.fD)],stb b3o1_56517 43 [(.int .i64 zf.1.fN),(.int .i64 zf.1.fD),(.int .i64 zb.fN),(.int .i64 zb.fD)],stb z44 30 [(.int .i64 z18.1.fN),(.int .i64 z18.1.fD)]] 7 ?_ (fun _=>?_)
                  · rcases Bool.eq_false_or_eq_true zdw with hb' | hb'
                    · have zol:=hb'; clear hb'
                      refine WL.pin (i:=136) rfl zol ?_
                      refine WL.e rfl rfl rfl (WL.e rfl rfl rfl (WL.e rfl rfl rfl (WL.e rfl rfl rfl (WL.e rfl rfl rfl (WL.e rfl rfl rfl (WL.pu rfl ?_))))))
                      exact WL.yF () trivial (.cons rfl (.cons rfl (.cons rfl (.cons rfl (.cons rfl (.cons rfl (.cons rfl (.cons rfl (.cons rfl (.cons rfl (.cons rfl (.cons rfl (.cons rfl (.cons rfl (.cons (zn (y4X zol)) .nil))))))))))))))) (.cons .here (.cons .here (.cons .here (.cons .here (.cons .here (.cons .here (.cons .here (.cons .here (.cons .here .nil)))))))))
                    · have zom:=hb'; clear hb'
                      refine WL.pin (i:=136) rfl zom ?_
                      refine WL.pu rfl (WL.pu rfl (WL.pu rfl ?_))
                      refine WL.y32 True [(11,(.slice z1n zi.length z1o)),(12,(.slice z2j zC.length z2k)),(17,(.pointer (some ⟨zH,0,none⟩))),(18,(.pointer (some ⟨b2o1_56517,0,none⟩))),(19,(.pointer (some ⟨b3o1_56517,0,none⟩))),(21,(.func (.func 15) #[] #[])),(22,(.pointer (some ⟨z44,0,none⟩))),(23,(.int .i64 z18.2)),(74,(.slice (some ⟨z1b,0,none⟩) (([(),()] : List Unit).length) 2)),(75,(.int .i64 2)),(76,(.int .i64 0)),(101,(.slice (some ⟨z47,0,none⟩) zu.length 3)),(102,(.int .i64 ((([(⟨([zi,zC] : List (List z1)),(⟨za.1,zb⟩ : zSv)⟩ : S62),(⟨([zi] : List (List z1)),(⟨za.1,zj⟩ : zSv)⟩ : S62),(⟨([zi] : List (List z1)),(⟨zf.1,zb⟩ : zSv)⟩ : S62)] : List S62).length : Nat) : Int))),(103,(.int .i64 zy)),(136,(.bool false)),(142,(.bool ((decide (z1l.2 ≠ 0)) && (decide (z1l.2 ≠ 6)))))] [stb z8s 30 [(.int .i64 z1l.1.fN),(.int .i64 z1l.1.fD)],fz (z3w ++ z8r),stb zbJ 62 [(.slice z9J (((nth zu zy).fL).length) z9K),(.int .i64 ((((nth zu zy).fS).fR).fN)),(.int .i64 ((((nth zu zy).fS).fR).fD)),(.int .i64 ((((nth zu zy).fS).fLatency).fN)),(.int .i64 ((((nth zu zy).fS).fLatency).fD))],row (.slice (some ⟨z1b,0,none⟩) (([(),()] : List Unit).length) 2) 48 1 [(.func (.func 15) #[] #[]),(.func (.func 16) #[] #[])],row (.slice (some ⟨z47,0,none⟩) zu.length 3) 62 5 z4y,stb zH 43 [(.int .i64 za.1.fN),(.int .i64 za.1.fD),(.int .i64 zb.fN),(.int .i64 zb.fD)],stb b2o1_56517 43 [(.int .i64 za.1.fN),(.int .i64 za.1.fD),(.int .i64 zj.fN),(.int .i64 zj.fD)],stb b3o1_56517 43 [(.int .i64 zf.1.fN),(.int .i64 zf.1.fD),(.int .i64 zb.fN),(.int .i64 zb.fD)],stb z44 30 [(.int .i64 z18.1.fN),(.int .i64 z18.1.fD)]] 3 ?_ (fun _=>?_)
                      · rcases Bool.eq_false_or_eq_true (decide (z1l.2 ≠ 0)) with hb' | hb'
                        · have zon:=hb'; clear hb'
                          refine WL.pin (i:=139) rfl zon ?_
                          refine WL.pu rfl (WL.pu rfl (WL.pu rfl ?_))
                          exact WL.yF () trivial (.cons rfl (.cons rfl (.cons rfl (.cons rfl (.cons rfl (.cons rfl (.cons rfl (.cons rfl (.cons rfl (.cons rfl (.cons rfl (.cons rfl (.cons rfl (.cons rfl (.cons rfl (.cons (zn (y39 zon)) .nil)))))))))))))))) (.cons .here (.cons .here (.cons .here (.cons .here (.cons .here (.cons .here (.cons .here (.cons .here (.cons .here .nil)))))))))
                        · have zoo:=hb'; clear hb'
                          refine WL.pin (i:=139) rfl zoo ?_
                          refine WL.e rfl rfl rfl (WL.e rfl rfl rfl (WL.pu rfl ?_))
                          exact WL.yF () trivial (.cons rfl (.cons rfl (.cons rfl (.cons rfl (.cons rfl (.cons rfl (.cons rfl (.cons rfl (.cons rfl (.cons rfl (.cons rfl (.cons rfl (.cons rfl (.cons rfl (.cons rfl (.cons (zn (y38 zoo)) .nil)))))))))))))))) (.cons .here (.cons .here (.cons .here (.cons .here (.cons .here (.cons .here (.cons .here (.cons .here (.cons .here .nil)))))))))
                      · skip
                        refine WL.pu rfl ?_
                        exact WL.yF () trivial (.cons rfl (.cons rfl (.cons rfl (.cons rfl (.cons rfl (.cons rfl (.cons rfl (.cons rfl (.cons rfl (.cons rfl (.cons rfl (.cons rfl (.cons rfl (.cons rfl (.cons (zn (y4Y zom)) .nil))))))))))))))) (.cons .here (.cons .here (.cons .here (.cons .here (.cons .here (.cons .here (.cons .here (.cons .here (.cons .here .nil)))))))))
                  · skip
                    refine WL.nil (WX.a ?_)
                    refine WC.cond rfl (fun zka=>?_) (fun zka=>?_)
                    · replace h:=ye h zka
                      refine WC.b (WC.a (WL.pu rfl (WL.nil (WX.a (WC.ret (WX.yl (WX.y5 (WX.y5 (WX.yl (WX.y5 (WX.yl (WX.y5 (WX.y5 (WX.yl (WX.y5 ?_)))))))))))))))
                      obtain rfl:=Option.some.inj h
                      refine WX.y8 Try.results5 (.tmp rfl .nil) (fun w hw=>?_)
                      exact ⟨(z3w ++ z8r),yG rfl,trivial,hw.sub (.cons .h1 .nil)⟩
                    · replace h:=yf h zka
                      refine WC.skip (WX.yg (WX.a (WC.a (WL.pu rfl (WL.pu rfl (WL.nil ?_))))))
                      exact WX.round (G:=Nat × List S62 × Int × Zp × List Value) ⟨zjU,zu,(i64 (zy + 1)),(z3w ++ z8r),z4y⟩ ⟨h,(zo8.trans ((Zle.left _ _).trans (Zle.yi _ _ _))),(zo9.weak (fun _ _ h=>y9s ((Zle.left _ _).trans (Zle.yi _ _ _)) h))⟩ (Nat.lt_succ_self _) (.cons rfl (.cons rfl (.cons rfl (.cons rfl (.cons rfl (.cons rfl (.cons rfl (.cons rfl (.cons rfl (.cons rfl (.cons rfl (.cons rfl (.cons rfl (.cons rfl .nil)))))))))))))) (.cons .h1 (.cons .h2 (.cons .h2 (.cons .h2 (.cons .h2 (.cons .h2 (.cons .h2 .nil)))))))
            · replace h:=yf h zk7
              refine WC.exit (WX.yd (WX.yd (WX.yt ?_)))
              exact WX.mid (G:=Zp) z3w ⟨h,zo8⟩ (.cons rfl (.cons rfl (.cons rfl (.cons rfl (.cons rfl (.cons rfl (.cons rfl (.cons rfl .nil)))))))) (.cons .here (.cons .here (.cons .h1 (.cons .h1 (.cons .h1 .nil)))))
          · rintro zbH ⟨h,zkb⟩
            replace h:=zwY.symm.trans h
            refine WX.yg ?_
            exact WX.mid (G:=List z1 × List z1 × Zp × Option Addr × Nat × Option Addr × Nat) ⟨zi,zC,zbH,z1n,z1o,z2j,z2k⟩ ⟨h,(zwS.trans (zbF.trans ((Zle.left _ _).trans ((Zle.yi _ _ _).trans (zdE.trans (zbG.trans (z9I.trans (z8q.trans zkb)))))))),(zdD.mono (zbF.trans ((Zle.left _ _).trans ((Zle.yi _ _ _).trans (zdE.trans (zbG.trans (z9I.trans (z8q.trans zkb)))))))),(zo7.mono (zbG.trans (z9I.trans (z8q.trans zkb))))⟩ (.cons rfl (.cons rfl (.cons rfl (.cons rfl (.cons rfl (.cons rfl (.cons rfl (.cons rfl .nil)))))))) (.cons .here (.cons .here (.cons .here (.cons .here (.cons .here .nil)))))
        · rintro zm zP z7m z1F z1G z3h z3i ⟨h,zx3,zfo,zx4⟩
          replace h:=(zwO zm zP).symm.trans h
          refine WC.a ?_
          refine WL.a (d:=145) rfl rfl rfl (y5y rfl rfl rfl) ?_
          refine WL.pu rfl (WL.nil (WX.again (WC.b (WC.a ?_))))
          refine WL.a (d:=77) rfl rfl rfl (y6q rfl rfl) ?_
          refine WL.nil (WX.a (WC.b ?_))
          refine WC.cond rfl (fun h'=>?_) (fun h'=>(by cases h'))
          clear h'
          refine WC.skip (WX.a ?_)
          obtain ⟨zjZ,zx5,h⟩:=y2V h
          refine WC.y3a (fun (zbK : Zp)=>(zjZ = some r) ∧ (Zle (Z ++ z7m) (Z ++ zbK))) (fun (zbK : Zp)=>[(11,(.slice z1F zm.length z1G)),(12,(.slice z3h zP.length z3i)),(17,(.pointer (some ⟨zH,0,none⟩))),(18,(.pointer (some ⟨b2o1_56517,0,none⟩))),(19,(.pointer (some ⟨b3o1_56517,0,none⟩))),(74,(.slice (some ⟨z1b,0,none⟩) (([(),()] : List Unit).length) 2)),(75,(.int .i64 2)),(76,(.int .i64 1))]) (fun (zbK : Zp)=>[fz zbK,row (.slice (some ⟨z1b,0,none⟩) (([(),()] : List Unit).length) 2) 48 1 [(.func (.func 15) #[] #[]),(.func (.func 16) #[] #[])],stb zH 43 [(.int .i64 za.1.fN),(.int .i64 za.1.fD),(.int .i64 zb.fN),(.int .i64 zb.fD)],stb b2o1_56517 43 [(.int .i64 za.1.fN),(.int .i64 za.1.fD),(.int .i64 zj.fN),(.int .i64 zj.fD)],stb b3o1_56517 43 [(.int .i64 zf.1.fN),(.int .i64 zf.1.fD),(.int .i64 zb.fN),(.int .i64 zb.fD)]]) ?_ ?_
          · skip
            refine WC.block (WC.b ?_)
            obtain ⟨zop,h⟩:=yk h
            refine WC.a ?_
            have zx6 : (([(.func (.func 15) #[] #[]),(.func (.func 16) #[] #[])]) : List Value).drop ((1 : Int).toNat * 1) = [(.func (.func 16) #[] #[])] ++ []:=rfl
            refine WL.a (d:=78) rfl rfl rfl (y19 y9v rfl rfl zop.1 zop.2 y3b) ?_
            refine WL.a (d:=79) rfl rfl rfl (yb ya8 rfl (y9h .h1 (y7E zx6 0 _ rfl))) ?_
            refine WL.pu rfl (WL.nil (WX.a (WC.b ?_)))
            obtain ⟨z19,zx7,h⟩:=z8 h
            refine WC.a (WL.pu rfl (WL.pu rfl ?_))
            have zx8 : RR 1 (p39 (Z ++ z7m)) [(.slice z1F zm.length z1G)] ([zm] : List (List z1)):=(RR.cons (r:=[(.slice z1F zm.length z1G)]) rfl (show p39 _ _ _ from ⟨_,_,rfl,zfo⟩) (RR.nil _ _))
            refine WL.new (dd:=83) rfl rfl rfl (yp (cs:=[(.slice z1F zm.length z1G)]) y2x (Eos.parts (l:=[.tmp 82]) (.cons rfl .nil) [0]) (fun _=>by kernel_rfl) rfl (by unfold maxLen; omega)) ?_
            intro zBf _
            refine WL.a (d:=84) rfl rfl rfl (y7 y24 rfl (y6 .h3) rfl) ?_
            refine WL.freezeS (ls:=([zm] : List (List z1))) .here .here hz zx8 ?_
            intro zkc zbL zkd
            replace zkd:=zkd.weak (fun _ _ h=>yo zbL h)
            refine WL.y2l (dd:=85) rfl rfl rfl (y1R (l:=[.tmp 83,.tmp 84]) Try.call16 rfl (.cons rfl (.cons rfl .nil))) .nil (ccz hz .nil .here fun w pz ho=>y41 _ _ _ _ _ _ zx7 w pz zkd) ?_
            rintro zke _
            refine WL.merge .here .here ?_
            refine WL.pu rfl (WL.pu rfl (WL.pu rfl ?_))
            refine WL.new (dd:=22) rfl rfl rfl (yh (cs:=[(.int .i64 0),(.int .i64 0)]) ym rfl) ?_
            intro z48 _
            refine WL.ya rfl rfl (y9 yj rfl rfl rfl .here rfl rfl rfl) ?_
            refine WL.pu rfl (WL.nil (WX.a (WC.b (WC.a (WL.pu rfl (WL.pu rfl ?_))))))
            have zx9 : RR 1 (p39 (Z ++ (zkc ++ zke))) [(.slice z1F zm.length z1G),(.slice z3h zP.length z3i)] ([zm,zP] : List (List z1)):=(RR.cons (r:=[(.slice z1F zm.length z1G)]) rfl (show p39 _ _ _ from ⟨_,_,rfl,(zfo.mono (zbL.trans ((Zle.left _ _).trans (Zle.yi _ _ _))))⟩) (RR.cons (r:=[(.slice z3h zP.length z3i)]) rfl (show p39 _ _ _ from ⟨_,_,rfl,(zx4.mono (zbL.trans ((Zle.left _ _).trans (Zle.yi _ _ _))))⟩) (RR.nil _ _)))
            refine WL.new (dd:=90) rfl rfl rfl (yp (cs:=[(.slice z1F zm.length z1G),(.slice z3h zP.length z3i)]) y2x (Eos.parts (l:=[.tmp 88,.tmp 89]) (.cons rfl (.cons rfl .nil)) [0,1]) (fun _=>by kernel_rfl) rfl (by unfold maxLen; omega)) ?_
            intro zdK _
            refine WL.a (d:=91) rfl rfl rfl (y7 y24 rfl (y6 .h4) rfl) ?_
            refine WL.a (d:=92) rfl rfl rfl (yV (v:=(.agg #[(.slice (some ⟨zdK,0,none⟩) (([zm,zP] : List (List z1)).length) 2),(.int .i64 za.1.fN),(.int .i64 za.1.fD),(.int .i64 zb.fN),(.int .i64 zb.fD)])) (Eos.parts (l:=[.tmp 90,.tmp 91]) (.cons rfl (.cons rfl .nil)) [0,1]) (fun _=>by kernel_rfl)) ?_
            refine WL.pu rfl ?_
            have zxa : RR 1 (p39 (Z ++ (zkc ++ zke))) [(.slice z1F zm.length z1G)] ([zm] : List (List z1)):=(RR.cons (r:=[(.slice z1F zm.length z1G)]) rfl (show p39 _ _ _ from ⟨_,_,rfl,(zfo.mono (zbL.trans ((Zle.left _ _).trans (Zle.yi _ _ _))))⟩) (RR.nil _ _))
            refine WL.new (dd:=94) rfl rfl rfl (yp (cs:=[(.slice z1F zm.length z1G)]) y2x (Eos.parts (l:=[.tmp 93]) (.cons rfl .nil) [0]) (fun _=>by kernel_rfl) rfl (by unfold maxLen; omega)) ?_
            intro zdL _
            refine WL.a (d:=95) rfl rfl rfl (y7 y24 rfl (y6 .h6) rfl) ?_
            refine WL.a (d:=96) rfl rfl rfl (yV (v:=(.agg #[(.slice (some ⟨zdL,0,none⟩) (([zm] : List (List z1)).length) 1),(.int .i64 za.1.fN),(.int .i64 za.1.fD),(.int .i64 zj.fN),(.int .i64 zj.fD)])) (Eos.parts (l:=[.tmp 94,.tmp 95]) (.cons rfl (.cons rfl .nil)) [0,1]) (fun _=>by kernel_rfl)) ?_
            refine WL.pu rfl ?_
            have zxb : RR 1 (p39 (Z ++ (zkc ++ zke))) [(.slice z1F zm.length z1G)] ([zm] : List (List z1)):=(RR.cons (r:=[(.slice z1F zm.length z1G)]) rfl (show p39 _ _ _ from ⟨_,_,rfl,(zfo.mono (zbL.trans ((Zle.left _ _).trans (Zle.yi _ _ _))))⟩) (RR.nil _ _))
            refine WL.new (dd:=98) rfl rfl rfl (yp (cs:=[(.slice z1F zm.length z1G)]) y2x (Eos.parts (l:=[.tmp 97]) (.cons rfl .nil) [0]) (fun _=>by kernel_rfl) rfl (by unfold maxLen; omega)) ?_
            intro zdM _
            refine WL.a (d:=99) rfl rfl rfl (y7 y24 rfl (y6 (.there .h7)) rfl) ?_
            refine WL.a (d:=100) rfl rfl rfl (yV (v:=(.agg #[(.slice (some ⟨zdM,0,none⟩) (([zm] : List (List z1)).length) 1),(.int .i64 zf.1.fN),(.int .i64 zf.1.fD),(.int .i64 zb.fN),(.int .i64 zb.fD)])) (Eos.parts (l:=[.tmp 98,.tmp 99]) (.cons rfl (.cons rfl .nil)) [0,1]) (fun _=>by kernel_rfl)) ?_
            refine WL.freezeS (ls:=([zm,zP] : List (List z1))) .h2 .h3 hz zx9 ?_
            intro zBg zfp zkf
            replace zkf:=zkf.weak (fun _ _ h=>yo zfp h)
            refine WL.freezeS (ls:=([zm] : List (List z1))) .h2 .here hz (zxa.weak (fun _ _ h=>yo zfp h)) ?_
            intro zBh zdN zkg
            replace zkg:=zkg.weak (fun _ _ h=>yo zdN h)
            refine WL.freezeS (ls:=([zm] : List (List z1))) .h1 .here hz (zxb.weak (fun _ _ h=>yo (zfp.trans zdN) h)) ?_
            intro zfq zbM zkh
            replace zkh:=zkh.weak (fun _ _ h=>yo zbM h)
            have zxc : RR 5 (p62 (Z ++ zfq)) [(.slice (some ⟨zdK,0,none⟩) (([zm,zP] : List (List z1)).length) 2),(.int .i64 za.1.fN),(.int .i64 za.1.fD),(.int .i64 zb.fN),(.int .i64 zb.fD),(.slice (some ⟨zdL,0,none⟩) (([zm] : List (List z1)).length) 1),(.int .i64 za.1.fN),(.int .i64 za.1.fD),(.int .i64 zj.fN),(.int .i64 zj.fD),(.slice (some ⟨zdM,0,none⟩) (([zm] : List (List z1)).length) 1),(.int .i64 zf.1.fN),(.int .i64 zf.1.fD),(.int .i64 zb.fN),(.int .i64 zb.fD)] ([(⟨([zm,zP] : List (List z1)),(⟨za.1,zb⟩ : zSv)⟩ : S62),(⟨([zm] : List (List z1)),(⟨za.1,zj⟩ : zSv)⟩ : S62),(⟨([zm] : List (List z1)),(⟨zf.1,zb⟩ : zSv)⟩ : S62)] : List S62):=(RR.cons (r:=[(.slice (some ⟨zdK,0,none⟩) (([zm,zP] : List (List z1)).length) 2),(.int .i64 za.1.fN),(.int .i64 za.1.fD),(.int .i64 zb.fN),(.int .i64 zb.fD)]) rfl (show p62 _ _ _ from ⟨_,_,rfl,((zkf.mono (zdN.trans zbM)).weak (fun _ _ h=>yo (zdN.trans zbM) h))⟩) (RR.cons (r:=[(.slice (some ⟨zdL,0,none⟩) (([zm] : List (List z1)).length) 1),(.int .i64 za.1.fN),(.int .i64 za.1.fD),(.int .i64 zj.fN),(.int .i64 zj.fD)]) rfl (show p62 _ _ _ from ⟨_,_,rfl,((zkg.mono zbM).weak (fun _ _ h=>yo zbM h))⟩) (RR.cons (r:=[(.slice (some ⟨zdM,0,none⟩) (([zm] : List (List z1)).length) 1),(.int .i64 zf.1.fN),(.int .i64 zf.1.fD),(.int .i64 zb.fN),(.int .i64 zb.fD)]) rfl (show p62 _ _ _ from ⟨_,_,rfl,zkh⟩) (RR.nil _ _))))
            refine WL.new (dd:=101) rfl rfl rfl (yp (cs:=[(.slice (some ⟨zdK,0,none⟩) (([zm,zP] : List (List z1)).length) 2),(.int .i64 za.1.fN),(.int .i64 za.1.fD),(.int .i64 zb.fN),(.int .i64 zb.fD),(.slice (some ⟨zdL,0,none⟩) (([zm] : List (List z1)).length) 1),(.int .i64 za.1.fN),(.int .i64 za.1.fD),(.int .i64 zj.fN),(.int .i64 zj.fD),(.slice (some ⟨zdM,0,none⟩) (([zm] : List (List z1)).length) 1),(.int .i64 zf.1.fN),(.int .i64 zf.1.fD),(.int .i64 zb.fN),(.int .i64 zb.fD)]) y8o (Eos.parts (l:=[.tmp 92,.tmp 96,.tmp 100]) (.cons rfl (.cons rfl (.cons rfl .nil))) [0,1,2]) (fun _=>by kernel_rfl) rfl (by unfold maxLen; omega)) ?_
            intro z49 _
            refine WL.a (d:=102) rfl rfl rfl (y1c Try.underlying63 rfl) ?_
            refine WL.pu rfl (WL.nil (WX.a ?_))
            obtain ⟨z7l,zxd,h⟩:=y2V h
            refine WC.y8F (fun (zbN : Zp)=>(z7l = some r) ∧ (Zle (Z ++ zfq) (Z ++ zbN))) (fun (zbN : Zp)=>[(11,(.slice z1F zm.length z1G)),(12,(.slice z3h zP.length z3i)),(17,(.pointer (some ⟨zH,0,none⟩))),(18,(.pointer (some ⟨b2o1_56517,0,none⟩))),(19,(.pointer (some ⟨b3o1_56517,0,none⟩))),(74,(.slice (some ⟨z1b,0,none⟩) (([(),()] : List Unit).length) 2)),(75,(.int .i64 2)),(76,(.int .i64 1))]) (fun (zbN : Zp)=>[fz zbN,row (.slice (some ⟨z1b,0,none⟩) (([(),()] : List Unit).length) 2) 48 1 [(.func (.func 15) #[] #[]),(.func (.func 16) #[] #[])],stb zH 43 [(.int .i64 za.1.fN),(.int .i64 za.1.fD),(.int .i64 zb.fN),(.int .i64 zb.fD)],stb b2o1_56517 43 [(.int .i64 za.1.fN),(.int .i64 za.1.fD),(.int .i64 zj.fN),(.int .i64 zj.fD)],stb b3o1_56517 43 [(.int .i64 zf.1.fN),(.int .i64 zf.1.fD),(.int .i64 zb.fN),(.int .i64 zb.fD)]]) ?_ ?_
            · skip
              refine WC.block ?_
              refine WC.y4r (fun (zbO : Nat) (zw : List S62) (zz : Int) (z3x : Zp) (z4z : List Value)=>(yY zm zP za zb zj zf z19 z7l zbO zw zz = some r) ∧ (Zle (Z ++ zfq) (Z ++ z3x)) ∧ (RR 5 (p62 (Z ++ z3x)) z4z zw)) (fun (zbO : Nat) (zw : List S62) (zz : Int) (z3x : Zp) (z4z : List Value)=>[(11,(.slice z1F zm.length z1G)),(12,(.slice z3h zP.length z3i)),(17,(.pointer (some ⟨zH,0,none⟩))),(18,(.pointer (some ⟨b2o1_56517,0,none⟩))),(19,(.pointer (some ⟨b3o1_56517,0,none⟩))),(21,(.func (.func 16) #[] #[])),(22,(.pointer (some ⟨z48,0,none⟩))),(23,(.int .i64 z19.2)),(74,(.slice (some ⟨z1b,0,none⟩) (([(),()] : List Unit).length) 2)),(75,(.int .i64 2)),(76,(.int .i64 1)),(101,(.slice (some ⟨z49,0,none⟩) zw.length 3)),(102,(.int .i64 ((([(⟨([zm,zP] : List (List z1)),(⟨za.1,zb⟩ : zSv)⟩ : S62),(⟨([zm] : List (List z1)),(⟨za.1,zj⟩ : zSv)⟩ : S62),(⟨([zm] : List (List z1)),(⟨zf.1,zb⟩ : zSv)⟩ : S62)] : List S62).length : Nat) : Int))),(103,(.int .i64 zz))]) (fun (zbO : Nat) (zw : List S62) (zz : Int) (z3x : Zp) (z4z : List Value)=>[fz z3x,row (.slice (some ⟨z1b,0,none⟩) (([(),()] : List Unit).length) 2) 48 1 [(.func (.func 15) #[] #[]),(.func (.func 16) #[] #[])],row (.slice (some ⟨z49,0,none⟩) zw.length 3) 62 5 z4z,stb zH 43 [(.int .i64 za.1.fN),(.int .i64 za.1.fD),(.int .i64 zb.fN),(.int .i64 zb.fD)],stb b2o1_56517 43 [(.int .i64 za.1.fN),(.int .i64 za.1.fD),(.int .i64 zj.fN),(.int .i64 zj.fD)],stb b3o1_56517 43 [(.int .i64 zf.1.fN),(.int .i64 zf.1.fD),(.int .i64 zb.fN),(.int .i64 zb.fD)],stb z48 30 [(.int .i64 z19.1.fN),(.int .i64 z19.1.fD)]]) (fun (zbO : Nat) (zw : List S62) (zz : Int) (z3x : Zp) (z4z : List Value)=>zbO) ⟨ys,([(⟨([zm,zP] : List (List z1)),(⟨za.1,zb⟩ : zSv)⟩ : S62),(⟨([zm] : List (List z1)),(⟨za.1,zj⟩ : zSv)⟩ : S62),(⟨([zm] : List (List z1)),(⟨zf.1,zb⟩ : zSv)⟩ : S62)] : List S62),0,zfq,[(.slice (some ⟨zdK,0,none⟩) (([zm,zP] : List (List z1)).length) 2),(.int .i64 za.1.fN),(.int .i64 za.1.fD),(.int .i64 zb.fN),(.int .i64 zb.fD),(.slice (some ⟨zdL,0,none⟩) (([zm] : List (List z1)).length) 1),(.int .i64 za.1.fN),(.int .i64 za.1.fD),(.int .i64 zj.fN),(.int .i64 zj.fD),(.slice (some ⟨zdM,0,none⟩) (([zm] : List (List z1)).length) 1),(.int .i64 zf.1.fN),(.int .i64 zf.1.fD),(.int .i64 zb.fN),(.int .i64 zb.fD)]⟩ ⟨h,(Zle.refl _),zxc⟩ (.cons rfl (.cons rfl (.cons rfl (.cons rfl (.cons rfl (.cons rfl (.cons rfl (.cons rfl (.cons rfl (.cons rfl (.cons rfl (.cons rfl (.cons rfl (.cons rfl .nil)))))))))))))) (.cons .h1 (.cons .h2 (.cons .here (.cons .h1 (.cons .h1 (.cons .h1 (.cons .here .nil))))))) ?_
              rintro zbO zw zz z3x z4z ⟨h,zoq,zor⟩
              obtain ⟨zjW,rfl⟩:=y59 h
              rw [yY] at h
              refine WC.b (WC.a (WL.pu rfl (WL.nil (WX.a (WC.b ?_)))))
              refine WC.cond rfl (fun zki=>?_) (fun zki=>?_)
              · replace h:=ye h zki
                refine WC.skip (WX.a (WC.b (WC.block (WC.b ?_))))
                obtain ⟨zfr,h⟩:=yk h
                refine WC.a ?_
                obtain ⟨zBi,zBj,zBk,zxe,⟨z9L,z9M,rfl,zxf⟩⟩:=RR.elem zor zfr.1 zfr.2
                refine WL.a (d:=105) rfl rfl rfl (y19 y8o rfl rfl zfr.1 zfr.2 y3b) ?_
                refine WL.a (d:=106) rfl rfl rfl (yv (cs:=[(.slice z9L (((nth zw zz).fL).length) z9M),(.int .i64 ((((nth zw zz).fS).fR).fN)),(.int .i64 ((((nth zw zz).fS).fR).fD)),(.int .i64 ((((nth zw zz).fS).fLatency).fN)),(.int .i64 ((((nth zw zz).fS).fLatency).fD))]) ya9 rfl rfl (y2T .h2 (y7E zxe))) ?_
                refine WL.new (dd:=25) rfl rfl rfl (yh (cs:=[(.slice none 0 0),(.int .i64 0),(.int .i64 0),(.int .i64 0),(.int .i64 0)]) y9w rfl) ?_
                intro zbP _
                refine WL.ya rfl rfl (y9 yaa rfl rfl rfl .here rfl rfl rfl) ?_
                refine WL.nil (WX.a (WC.b ?_))
                obtain ⟨z1m,zxg,h⟩:=z8 h
                refine WC.a (WL.pu rfl ?_)
                refine WL.a (d:=109) rfl rfl rfl (y3 yab rfl rfl) ?_
                refine WL.a (d:=110) rfl rfl rfl (yb y2L rfl (yq .here rfl)) ?_
                refine WL.a (d:=111) rfl rfl rfl (y3 yac rfl rfl) ?_
                refine WL.a (d:=112) rfl rfl rfl (yv (cs:=[(.int .i64 ((((nth zw zz).fS).fR).fN)),(.int .i64 ((((nth zw zz).fS).fR).fD)),(.int .i64 ((((nth zw zz).fS).fLatency).fN)),(.int .i64 ((((nth zw zz).fS).fLatency).fD))]) y24 rfl rfl (y1D (s:=4) .here rfl)) ?_
                refine WL.y2l (dd:=113) rfl rfl rfl (y1R (l:=[.tmp 110,.tmp 112]) Try.call16 rfl (.cons rfl (.cons rfl .nil))) .nil (ccz hz .nil .h1 fun w pz ho=>y41 _ _ _ _ _ _ zxg w pz zxf) ?_
                rintro z8t _
                refine WL.merge .here .h1 ?_
                refine WL.pu rfl (WL.pu rfl (WL.pu rfl ?_))
                refine WL.new (dd:=26) rfl rfl rfl (yh (cs:=[(.int .i64 0),(.int .i64 0)]) ym rfl) ?_
                intro z8u _
                refine WL.ya rfl rfl (y9 yj rfl rfl rfl .here rfl rfl rfl) ?_
                refine WL.pu rfl (WL.nil (WX.a (WC.b ?_)))
                obtain ⟨zdx,zos,h⟩:=z8 h
                refine WC.a (WL.pu rfl (WL.pu rfl (WL.pu rfl ?_)))
                refine WL.y32 True [(11,(.slice z1F zm.length z1G)),(12,(.slice z3h zP.length z3i)),(17,(.pointer (some ⟨zH,0,none⟩))),(18,(.pointer (some ⟨b2o1_56517,0,none⟩))),(19,(.pointer (some ⟨b3o1_56517,0,none⟩))),(21,(.func (.func 16) #[] #[])),(22,(.pointer (some ⟨z48,0,none⟩))),(23,(.int .i64 z19.2)),(74,(.slice (some ⟨z1b,0,none⟩) (([(),()] : List Unit).length) 2)),(75,(.int .i64 2)),(76,(.int .i64 1)),(101,(.slice (some ⟨z49,0,none⟩) zw.length 3)),(102,(.int .i64 ((([(⟨([zm,zP] : List (List z1)),(⟨za.1,zb⟩ : zSv)⟩ : S62),(⟨([zm] : List (List z1)),(⟨za.1,zj⟩ : zSv)⟩ : S62),(⟨([zm] : List (List z1)),(⟨zf.1,zb⟩ : zSv)⟩ : S62)] : List S62).length : Nat) : Int))),(103,(.int .i64 zz)),(26,(.pointer (some ⟨z8u,0,none⟩))),(27,(.int .i64 z1m.2)),(121,(.bool ((decide (z19.2 = 6)) && (decide (z1m.2 ≠ 6)))))] [stb z8u 30 [(.int .i64 z1m.1.fN),(.int .i64 z1m.1.fD)],fz (z3x ++ z8t),stb zbP 62 [(.slice z9L (((nth zw zz).fL).length) z9M),(.int .i64 ((((nth zw zz).fS).fR).fN)),(.int .i64 ((((nth zw zz).fS).fR).fD)),(.int .i64 ((((nth zw zz).fS).fLatency).fN)),(.int .i64 ((((nth zw zz).fS).fLatency).fD))],row (.slice (some ⟨z1b,0,none⟩) (([(),()] : List Unit).length) 2) 48 1 [(.func (.func 15) #[] #[]),(.func (.func 16) #[] #[])],row (.slice (some ⟨z49,0,none⟩) zw.length 3) 62 5 z4z,stb zH 43 [(.int .i64 za.1.fN),(.int .i64 za.1.fD),(.int .i64 zb.fN),(.int .i64 zb.fD)],stb b2o1_56517 43 [(.int .i64 za.1.fN),(.int .i64 za.1.fD),(.int .i64 zj.fN),(.int .i64 zj.fD)],stb b3o1_56517 43 [(.int .i64 zf.1.fN),(.int .i64 zf.1.fD),(.int .i64 zb.fN),(.int .i64 zb.fD)],stb z48 30 [(.int .i64 z19.1.fN),(.int .i64 z19.1.fD)]] 3 ?_ (fun _=>?_)
                · rcases Bool.eq_false_or_eq_true (decide (z19.2 = 6)) with hb' | hb'
                  · have zot:=hb'; clear hb'
                    refine WL.pin (i:=118) rfl zot ?_
                    refine WL.pu rfl (WL.pu rfl (WL.pu rfl ?_))
                    exact WL.yF () trivial (.cons rfl (.cons rfl (.cons rfl (.cons rfl (.cons rfl (.cons rfl (.cons rfl (.cons rfl (.cons rfl (.cons rfl (.cons rfl (.cons rfl (.cons rfl (.cons rfl (.cons rfl (.cons rfl (.cons (zn (y39 zot)) .nil))))))))))))))))) (.cons .here (.cons .here (.cons .here (.cons .here (.cons .here (.cons .here (.cons .here (.cons .here (.cons .here .nil)))))))))
                  · have zou:=hb'; clear hb'
                    refine WL.pin (i:=118) rfl zou ?_
                    refine WL.e rfl rfl rfl (WL.e rfl rfl rfl (WL.pu rfl ?_))
                    exact WL.yF () trivial (.cons rfl (.cons rfl (.cons rfl (.cons rfl (.cons rfl (.cons rfl (.cons rfl (.cons rfl (.cons rfl (.cons rfl (.cons rfl (.cons rfl (.cons rfl (.cons rfl (.cons rfl (.cons rfl (.cons (zn (y38 zou)) .nil))))))))))))))))) (.cons .here (.cons .here (.cons .here (.cons .here (.cons .here (.cons .here (.cons .here (.cons .here (.cons .here .nil)))))))))
                · skip
                  refine WL.pu rfl ?_
                  refine WL.y32 True [(11,(.slice z1F zm.length z1G)),(12,(.slice z3h zP.length z3i)),(17,(.pointer (some ⟨zH,0,none⟩))),(18,(.pointer (some ⟨b2o1_56517,0,none⟩))),(19,(.pointer (some ⟨b3o1_56517,0,none⟩))),(21,(.func (.func 16) #[] #[])),(22,(.pointer (some ⟨z48,0,none⟩))),(23,(.int .i64 z19.2)),(74,(.slice (some ⟨z1b,0,none⟩) (([(),()] : List Unit).length) 2)),(75,(.int .i64 2)),(76,(.int .i64 1)),(101,(.slice (some ⟨z49,0,none⟩) zw.length 3)),(102,(.int .i64 ((([(⟨([zm,zP] : List (List z1)),(⟨za.1,zb⟩ : zSv)⟩ : S62),(⟨([zm] : List (List z1)),(⟨za.1,zj⟩ : zSv)⟩ : S62),(⟨([zm] : List (List z1)),(⟨zf.1,zb⟩ : zSv)⟩ : S62)] : List S62).length : Nat) : Int))),(103,(.int .i64 zz)),(27,(.int .i64 z1m.2)),(135,(.bool zdx))] [stb z8u 30 [(.int .i64 z1m.1.fN),(.int .i64 z1m.1.fD)],fz (z3x ++ z8t),stb zbP 62 [(.slice z9L (((nth zw zz).fL).length) z9M),(.int .i64 ((((nth zw zz).fS).fR).fN)),(.int .i64 ((((nth zw zz).fS).fR).fD)),(.int .i64 ((((nth zw zz).fS).fLatency).fN)),(.int .i64 ((((nth zw zz).fS).fLatency).fD))],row (.slice (some ⟨z1b,0,none⟩) (([(),()] : List Unit).length) 2) 48 1 [(.func (.func 15) #[] #[]),(.func (.func 16) #[] #[])],row (.slice (some ⟨z49,0,none⟩) zw.length 3) 62 5 z4z,stb zH 43 [(.int .i64 za.1.fN),(.int .i64 za.1.fD),(.int .i64 zb.fN),(.int .i64 zb.fD)],stb b2o1_56517 43 [(.int .i64 za.1.fN),(.int .i64 za.1.fD),(.int .i64 zj.fN),(.int .i64 zj.fD)],stb b3o1_56517 43 [(.int .i64 zf.1.fN),(.int .i64 zf.1.fD),(.int .i64 zb.fN),(.int .i64 zb.fD)],stb z48 30 [(.int .i64 z19.1.fN),(.int .i64 z19.1.fD)]] 13 ?_ (fun _=>?_)
                  · rcases Bool.eq_false_or_eq_true ((decide (z19.2 = 6)) && (decide (z1m.2 ≠ 6))) with hb' | hb'
                    · have zov:=hb'; clear hb'
                      have zkj:=ye zos zov
                      replace zkj:=Option.some.inj zkj
                      refine WL.pin (i:=122) rfl zov ?_
                      refine WL.e rfl rfl rfl (WL.e rfl rfl rfl (WL.e rfl rfl rfl (WL.e rfl rfl rfl (WL.e rfl rfl rfl (WL.e rfl rfl rfl (WL.e rfl rfl rfl (WL.e rfl rfl rfl (WL.e rfl rfl rfl (WL.e rfl rfl rfl (WL.e rfl rfl rfl (WL.e rfl rfl rfl (WL.pu rfl ?_))))))))))))
                      exact WL.yF () trivial (.cons rfl (.cons rfl (.cons rfl (.cons rfl (.cons rfl (.cons rfl (.cons rfl (.cons rfl (.cons rfl (.cons rfl (.cons rfl (.cons rfl (.cons rfl (.cons rfl (.cons rfl (.cons (zn zkj) .nil)))))))))))))))) (.cons .here (.cons .here (.cons .here (.cons .here (.cons .here (.cons .here (.cons .here (.cons .here (.cons .here .nil)))))))))
                    · have zow:=hb'; clear hb'
                      have zdO:=yf zos zow
                      obtain ⟨zjX,zox,zdO⟩:=z8 zdO
                      replace zdO:=Option.some.inj zdO
                      refine WL.pin (i:=122) rfl zow ?_
                      refine WL.pu rfl (WL.pu rfl (WL.pu rfl ?_))
                      refine WL.y32 True [(11,(.slice z1F zm.length z1G)),(12,(.slice z3h zP.length z3i)),(17,(.pointer (some ⟨zH,0,none⟩))),(18,(.pointer (some ⟨b2o1_56517,0,none⟩))),(19,(.pointer (some ⟨b3o1_56517,0,none⟩))),(21,(.func (.func 16) #[] #[])),(22,(.pointer (some ⟨z48,0,none⟩))),(23,(.int .i64 z19.2)),(74,(.slice (some ⟨z1b,0,none⟩) (([(),()] : List Unit).length) 2)),(75,(.int .i64 2)),(76,(.int .i64 1)),(101,(.slice (some ⟨z49,0,none⟩) zw.length 3)),(102,(.int .i64 ((([(⟨([zm,zP] : List (List z1)),(⟨za.1,zb⟩ : zSv)⟩ : S62),(⟨([zm] : List (List z1)),(⟨za.1,zj⟩ : zSv)⟩ : S62),(⟨([zm] : List (List z1)),(⟨zf.1,zb⟩ : zSv)⟩ : S62)] : List S62).length : Nat) : Int))),(103,(.int .i64 zz)),(26,(.pointer (some ⟨z8u,0,none⟩))),(27,(.int .i64 z1m.2)),(122,(.bool false)),(128,(.bool ((decide (z19.2 = 0)) && (decide (z1m.2 = 0)))))] [stb z8u 30 [(.int .i64 z1m.1.fN),(.int .i64 z1m.1.fD)],fz (z3x ++ z8t),stb zbP 62 [(.slice z9L (((nth zw zz).fL).length) z9M),(.int .i64 ((((nth zw zz).fS).fR).fN)),(.int .i64 ((((nth zw zz).fS).fR).fD)),(.int .i64 ((((nth zw zz).fS).fLatency).fN)),(.int .i64 ((((nth zw zz).fS).fLatency).fD))],row (.slice (some ⟨z1b,0,none⟩) (([(),()] : List Unit).length) 2) 48 1 [(.func (.func 15) #[] #[]),(.func (.func 16) #[] #[])],row (.slice (some ⟨z49,0,none⟩) zw.length 3) 62 5 z4z,stb zH 43 [(.int .i64 za.1.fN),(.int .i64 za.1.fD),(.int .i64 zb.fN),(.int .i64 zb.fD)],stb b2o1_56517 43 [(.int .i64 za.1.fN),(.int .i64 za.1.fD),(.int .i64 zj.fN),(.int .i64 zj.fD)],stb b3o1_56517 43 [(.int .i64 zf.1.fN),(.int .i64 zf.1.fD),(.int .i64 zb.fN),(.int .i64 zb.fD)],stb z48 30 [(.int .i64 z19.1.fN),(.int .i64 z19.1.fD)]] 3 ?_ (fun _=>?_)
                      · rcases Bool.eq_false_or_eq_true (decide (z19.2 = 0)) with hb' | hb'
                        · have zoy:=hb'; clear hb'
                          refine WL.pin (i:=125) rfl zoy ?_
                          refine WL.pu rfl (WL.pu rfl (WL.pu rfl ?_))
                          exact WL.yF () trivial (.cons rfl (.cons rfl (.cons rfl (.cons rfl (.cons rfl (.cons rfl (.cons rfl (.cons rfl (.cons rfl (.cons rfl (.cons rfl (.cons rfl (.cons rfl (.cons rfl (.cons rfl (.cons rfl (.cons rfl (.cons (zn (y39 zoy)) .nil)))))))))))))))))) (.cons .here (.cons .here (.cons .here (.cons .here (.cons .here (.cons .here (.cons .here (.cons .here (.cons .here .nil)))))))))
                        · have zoz:=hb'; clear hb'
                          refine WL.pin (i:=125) rfl zoz ?_
                          refine WL.e rfl rfl rfl (WL.e rfl rfl rfl (WL.pu rfl ?_))
                          exact WL.yF () trivial (.cons rfl (.cons rfl (.cons rfl (.cons rfl (.cons rfl (.cons rfl (.cons rfl (.cons rfl (.cons rfl (.cons rfl (.cons rfl (.cons rfl (.cons rfl (.cons rfl (.cons rfl (.cons rfl (.cons rfl (.cons (zn (y38 zoz)) .nil)))))))))))))))))) (.cons .here (.cons .here (.cons .here (.cons .here (.cons .here (.cons .here (.cons .here (.cons .here (.cons .here .nil)))))))))
                      · skip
                        refine WL.pu rfl ?_
                        refine WL.y32 True [(11,(.slice z1F zm.length z1G)),(12,(.slice z3h zP.length z3i)),(17,(.pointer (some ⟨zH,0,none⟩))),(18,(.pointer (some ⟨b2o1_56517,0,none⟩))),(19,(.pointer (some ⟨b3o1_56517,0,none⟩))),(21,(.func (.func 16) #[] #[])),(22,(.pointer (some ⟨z48,0,none⟩))),(23,(.int .i64 z19.2)),(74,(.slice (some ⟨z1b,0,none⟩) (([(),()] : List Unit).length) 2)),(75,(.int .i64 2)),(76,(.int .i64 1)),(101,(.slice (some ⟨z49,0,none⟩) zw.length 3)),(102,(.int .i64 ((([(⟨([zm,zP] : List (List z1)),(⟨za.1,zb⟩ : zSv)⟩ : S62),(⟨([zm] : List (List z1)),(⟨za.1,zj⟩ : zSv)⟩ : S62),(⟨([zm] : List (List z1)),(⟨zf.1,zb⟩ : zSv)⟩ : S62)] : List S62).length : Nat) : Int))),(103,(.int .i64 zz)),(27,(.int .i64 z1m.2)),(122,(.bool false)),(134,(.bool zjX))] [stb z8u 30 [(.int .i64 z1m.1.fN),(.int .i64 z1m.1.fD)],fz (z3x ++ z8t),stb zbP 62 [(.slice z9L (((nth zw zz).fL).length) z9M),(.int .i64 ((((nth zw zz).fS).fR).fN)),(.int .i64 ((((nth zw zz).fS).fR).fD)),(.int .i64 ((((nth zw zz).fS).fLatency).fN)),(.int .i64 ((((nth zw zz).fS).fLatency).fD))],row (.slice (some ⟨z1b,0,none⟩) (([(),()] : List Unit).length) 2) 48 1 [(.func (.func 15) #[] #[]),(.func (.func 16) #[] #[])],row (.slice (some ⟨z49,0,none⟩) zw.length 3) 62 5 z4z,stb zH 43 [(.int .i64 za.1.fN),(.int .i64 za.1.fD),(.int .i64 zb.fN),(.int .i64 zb.fD)],stb b2o1_56517 43 [(.int .i64 za.1.fN),(.int .i64 za.1.fD),(.int .i64 zj.fN),(.int .i64 zj.fD)],stb b3o1_56517 43 [(.int .i64 zf.1.fN),(.int .i64 zf.1.fD),(.int .i64 zb.fN),(.int .i64 zb.fD)],stb z48 30 [(.int .i64 z19.1.fN),(.int .i64 z19.1.fD)]] 5 ?_ (fun _=>?_)
                        · rcases Bool.eq_false_or_eq_true ((decide (z19.2 = 0)) && (decide (z1m.2 = 0))) with hb' | hb'
                          · have zoA:=hb'; clear hb'
                            have zdP:=ye zox zoA
                            obtain ⟨zo4,zxh,zdP⟩:=z8 zdP
                            replace zdP:=Option.some.inj zdP
                            refine WL.pin (i:=129) rfl zoA ?_
                            refine WL.a (d:=130) rfl rfl rfl (y7 y4 rfl (y6 .here) rfl) ?_
                            refine WL.a (d:=131) rfl rfl rfl (y7 y4 rfl (y6 (.there .h7)) rfl) ?_
                            refine WL.b (dd:=132) rfl rfl rfl (ze (l:=[.tmp 130,.tmp 131]) Try.call18 (.cons rfl (.cons rfl .nil))) .nil (ccz hz .nil .h1 fun w pz ho=>y1Y _ _ _ _ zxh w pz ) ?_
                            refine WL.pu rfl (WL.pu rfl ?_)
                            exact WL.yF () trivial (.cons rfl (.cons rfl (.cons rfl (.cons rfl (.cons rfl (.cons rfl (.cons rfl (.cons rfl (.cons rfl (.cons rfl (.cons rfl (.cons rfl (.cons rfl (.cons rfl (.cons rfl (.cons rfl (.cons (zn zdP) .nil))))))))))))))))) (.cons .here (.cons .here (.cons .here (.cons .here (.cons .here (.cons .here (.cons .here (.cons .here (.cons .here .nil)))))))))
                          · have zoB:=hb'; clear hb'
                            have zkk:=yf zox zoB
                            replace zkk:=Option.some.inj zkk
                            refine WL.pin (i:=129) rfl zoB ?_
                            refine WL.e rfl rfl rfl (WL.e rfl rfl rfl (WL.e rfl rfl rfl (WL.e rfl rfl rfl (WL.pu rfl ?_))))
                            exact WL.yF () trivial (.cons rfl (.cons rfl (.cons rfl (.cons rfl (.cons rfl (.cons rfl (.cons rfl (.cons rfl (.cons rfl (.cons rfl (.cons rfl (.cons rfl (.cons rfl (.cons rfl (.cons rfl (.cons rfl (.cons (zn zkk) .nil))))))))))))))))) (.cons .here (.cons .here (.cons .here (.cons .here (.cons .here (.cons .here (.cons .here (.cons .here (.cons .here .nil)))))))))
                        · skip
                          refine WL.pu rfl ?_
                          exact WL.yF () trivial (.cons rfl (.cons rfl (.cons rfl (.cons rfl (.cons rfl (.cons rfl (.cons rfl (.cons rfl (.cons rfl (.cons rfl (.cons rfl (.cons rfl (.cons rfl (.cons rfl (.cons rfl (.cons (zn zdO) .nil)))))))))))))))) (.cons .here (.cons .here (.cons .here (.cons .here (.cons .here (.cons .here (.cons .here (.cons .here (.cons .here .nil)))))))))
                  · skip
                    refine WL.pu rfl ?_
                    refine WL.y32 True [(11,(.slice z1F zm.length z1G)),(12,(.slice z3h zP.length z3i)),(17,(.pointer (some ⟨zH,0,none⟩))),(18,(.pointer (some ⟨b2o1_56517,0,none⟩))),(19,(.pointer (some ⟨b3o1_56517,0,none⟩))),(21,(.func (.func 16) #[] #[])),(22,(.pointer (some ⟨z48,0,none⟩))),(23,(.int .i64 z19.2)),(74,(.slice (some ⟨z1b,0,none⟩) (([(),()] : List Unit).length) 2)),(75,(.int .i64 2)),(76,(.int .i64 1)),(101,(.slice (some ⟨z49,0,none⟩) zw.length 3)),(102,(.int .i64 ((([(⟨([zm,zP] : List (List z1)),(⟨za.1,zb⟩ : zSv)⟩ : S62),(⟨([zm] : List (List z1)),(⟨za.1,zj⟩ : zSv)⟩ : S62),(⟨([zm] : List (List z1)),(⟨zf.1,zb⟩ : zSv)⟩ : S62)] : List S62).length : Nat) : Int))),(103,(.int .i64 zz)),(143,(.bool (zdx || ((decide (z1m.2 ≠ 0)) && (decide (z1m.2 ≠ 6))))))] [stb z8u 30 [(.int .i64 z1m.1.fN),(.int .i64 z1m.1.fD)],fz (z3x ++ z8t),stb zbP 62 [(.slice z9L (((nth zw zz).fL).length) z9M),(.int .i64 ((((nth zw zz).fS).fR).fN)),(.int .i64 ((((nth zw zz).fS).fR).fD)),(.int .i64 ((((nth zw zz).fS).fLatency).fN)),(.int .i64 ((((nth zw zz).fS).fLatency).fD))],row (.slice (some ⟨z1b,0,none⟩) (([(),()] : List Unit).length) 2) 48 1 [(.func (.func 15) #[] #[]),(.func (.func 16) #[] #[])],row (.slice (some ⟨z49,0,none⟩) zw.length 3) 62 5 z4z,stb zH 43 [(.int .i64 za.1.fN),(.int .i64 za.1.fD),(.int .i64 zb.fN),(.int .i64 zb.fD)],stb b2o1_56517 43 [(.int .i64 za.1.fN),(.int .i64 za.1.fD),(.int .i64 zj.fN),(.int .i64 zj.fD)],stb b3o1_56517 43 [(.int .i64 zf.1.fN),(.int .i64 zf.1.fD),(.int .i64 zb.fN),(.int .i64 zb.fD)],stb z48 30 [(.int .i64 z19.1.fN),(.int .i64 z19.1.fD)]] 7 ?_ (fun _=>?_)
                    · rcases Bool.eq_false_or_eq_true zdx with hb' | hb'
                      · have zoC:=hb'; clear hb'
                        refine WL.pin (i:=136) rfl zoC ?_
                        refine WL.e rfl rfl rfl (WL.e rfl rfl rfl (WL.e rfl rfl rfl (WL.e rfl rfl rfl (WL.e rfl rfl rfl (WL.e rfl rfl rfl (WL.pu rfl ?_))))))
                        exact WL.yF () trivial (.cons rfl (.cons rfl (.cons rfl (.cons rfl (.cons rfl (.cons rfl (.cons rfl (.cons rfl (.cons rfl (.cons rfl (.cons rfl (.cons rfl (.cons rfl (.cons rfl (.cons (zn (y4X zoC)) .nil))))))))))))))) (.cons .here (.cons .here (.cons .here (.cons .here (.cons .here (.cons .here (.cons .here (.cons .here (.cons .here .nil)))))))))
                      · have zoD:=hb'; clear hb'
                        refine WL.pin (i:=136) rfl zoD ?_
                        refine WL.pu rfl (WL.pu rfl (WL.pu rfl ?_))
                        refine WL.y32 True [(11,(.slice z1F zm.length z1G)),(12,(.slice z3h zP.length z3i)),(17,(.pointer (some ⟨zH,0,none⟩))),(18,(.pointer (some ⟨b2o1_56517,0,none⟩))),(19,(.pointer (some ⟨b3o1_56517,0,none⟩))),(21,(.func (.func 16) #[] #[])),(22,(.pointer (some ⟨z48,0,none⟩))),(23,(.int .i64 z19.2)),(74,(.slice (some ⟨z1b,0,none⟩) (([(),()] : List Unit).length) 2)),(75,(.int .i64 2)),(76,(.int .i64 1)),(101,(.slice (some ⟨z49,0,none⟩) zw.length 3)),(102,(.int .i64 ((([(⟨([zm,zP] : List (List z1)),(⟨za.1,zb⟩ : zSv)⟩ : S62),(⟨([zm] : List (List z1)),(⟨za.1,zj⟩ : zSv)⟩ : S62),(⟨([zm] : List (List z1)),(⟨zf.1,zb⟩ : zSv)⟩ : S62)] : List S62).length : Nat) : Int))),(103,(.int .i64 zz)),(136,(.bool false)),(142,(.bool ((decide (z1m.2 ≠ 0)) && (decide (z1m.2 ≠ 6)))))] [stb z8u 30 [(.int .i64 z1m.1.fN),(.int .i64 z1m.1.fD)],fz (z3x ++ z8t),stb zbP 62 [(.slice z9L (((nth zw zz).fL).length) z9M),(.int .i64 ((((nth zw zz).fS).fR).fN)),(.int .i64 ((((nth zw zz).fS).fR).fD)),(.int .i64 ((((nth zw zz).fS).fLatency).fN)),(.int .i64 ((((nth zw zz).fS).fLatency).fD))],row (.slice (some ⟨z1b,0,none⟩) (([(),()] : List Unit).length) 2) 48 1 [(.func (.func 15) #[] #[]),(.func (.func 16) #[] #[])],row (.slice (some ⟨z49,0,none⟩) zw.length 3) 62 5 z4z,stb zH 43 [(.int .i64 za.1.fN),(.int .i64 za.1.fD),(.int .i64 zb.fN),(.int .i64 zb.fD)],stb b2o1_56517 43 [(.int .i64 za.1.fN),(.int .i64 za.1.fD),(.int .i64 zj.fN),(.int .i64 zj.fD)],stb b3o1_56517 43 [(.int .i64 zf.1.fN),(.int .i64 zf.1.fD),(.int .i64 zb.fN),(.int .i64 zb.fD)],stb z48 30 [(.int .i64 z19.1.fN),(.int .i64 z19.1.fD)]] 3 ?_ (fun _=>?_)
                        · rcases Bool.eq_false_or_eq_true (decide (z1m.2 ≠ 0)) with hb' | hb'
                          · have zoE:=hb'; clear hb'
                            refine WL.pin (i:=139) rfl zoE ?_
                            refine WL.pu rfl (WL.pu rfl (WL.pu rfl ?_))
                            exact WL.yF () trivial (.cons rfl (.cons rfl (.cons rfl (.cons rfl (.cons rfl (.cons rfl (.cons rfl (.cons rfl (.cons rfl (.cons rfl (.cons rfl (.cons rfl (.cons rfl (.cons rfl (.cons rfl (.cons (zn (y39 zoE)) .nil)))))))))))))))) (.cons .here (.cons .here (.cons .here (.cons .here (.cons .here (.cons .here (.cons .here (.cons .here (.cons .here .nil)))))))))
                          · have zoF:=hb'; clear hb'
                            refine WL.pin (i:=139) rfl zoF ?_
                            refine WL.e rfl rfl rfl (WL.e rfl rfl rfl (WL.pu rfl ?_))
                            exact WL.yF () trivial (.cons rfl (.cons rfl (.cons rfl (.cons rfl (.cons rfl (.cons rfl (.cons rfl (.cons rfl (.cons rfl (.cons rfl (.cons rfl (.cons rfl (.cons rfl (.cons rfl (.cons rfl (.cons (zn (y38 zoF)) .nil)))))))))))))))) (.cons .here (.cons .here (.cons .here (.cons .here (.cons .here (.cons .here (.cons .here (.cons .here (.cons .here .nil)))))))))
                        · skip
                          refine WL.pu rfl ?_
                          exact WL.yF () trivial (.cons rfl (.cons rfl (.cons rfl (.cons rfl (.cons rfl (.cons rfl (.cons rfl (.cons rfl (.cons rfl (.cons rfl (.cons rfl (.cons rfl (.cons rfl (.cons rfl (.cons (zn (y4Y zoD)) .nil))))))))))))))) (.cons .here (.cons .here (.cons .here (.cons .here (.cons .here (.cons .here (.cons .here (.cons .here (.cons .here .nil)))))))))
                    · skip
                      refine WL.nil (WX.a ?_)
                      refine WC.cond rfl (fun zkl=>?_) (fun zkl=>?_)
                      · replace h:=ye h zkl
                        refine WC.b (WC.a (WL.pu rfl (WL.nil (WX.a (WC.ret (WX.yl (WX.y5 (WX.y5 (WX.yl (WX.y5 (WX.yl (WX.y5 (WX.y5 (WX.yl (WX.y5 ?_)))))))))))))))
                        obtain rfl:=Option.some.inj h
                        refine WX.y8 Try.results5 (.tmp rfl .nil) (fun w hw=>?_)
                        exact ⟨(z3x ++ z8t),yG rfl,trivial,hw.sub (.cons .h1 .nil)⟩
                      · replace h:=yf h zkl
                        refine WC.skip (WX.yg (WX.a (WC.a (WL.pu rfl (WL.pu rfl (WL.nil ?_))))))
                        exact WX.round (G:=Nat × List S62 × Int × Zp × List Value) ⟨zjW,zw,(i64 (zz + 1)),(z3x ++ z8t),z4z⟩ ⟨h,(zoq.trans ((Zle.left _ _).trans (Zle.yi _ _ _))),(zor.weak (fun _ _ h=>y9s ((Zle.left _ _).trans (Zle.yi _ _ _)) h))⟩ (Nat.lt_succ_self _) (.cons rfl (.cons rfl (.cons rfl (.cons rfl (.cons rfl (.cons rfl (.cons rfl (.cons rfl (.cons rfl (.cons rfl (.cons rfl (.cons rfl (.cons rfl (.cons rfl .nil)))))))))))))) (.cons .h1 (.cons .h2 (.cons .h2 (.cons .h2 (.cons .h2 (.cons .h2 (.cons .h2 .nil)))))))
              · replace h:=yf h zki
                refine WC.exit (WX.yd (WX.yd (WX.yt ?_)))
                exact WX.mid (G:=Zp) z3x ⟨h,zoq⟩ (.cons rfl (.cons rfl (.cons rfl (.cons rfl (.cons rfl (.cons rfl (.cons rfl (.cons rfl .nil)))))))) (.cons .here (.cons .here (.cons .h1 (.cons .h1 (.cons .h1 .nil)))))
            · rintro zbN ⟨h,zxi⟩
              replace h:=zxd.symm.trans h
              refine WX.yg ?_
              exact WX.mid (G:=Zp) zbN ⟨h,(zbL.trans ((Zle.left _ _).trans ((Zle.yi _ _ _).trans (zfp.trans (zdN.trans (zbM.trans zxi))))))⟩ (.cons rfl (.cons rfl (.cons rfl (.cons rfl (.cons rfl (.cons rfl (.cons rfl (.cons rfl .nil)))))))) (.cons .here (.cons .here (.cons .here (.cons .here (.cons .here .nil)))))
          · rintro zbK ⟨h,zxj⟩
            replace h:=zx5.symm.trans h
            refine WC.a ?_
            refine WL.a (d:=145) rfl rfl rfl (y5y rfl rfl rfl) ?_
            refine WL.pu rfl (WL.nil (WX.again (WC.b (WC.a ?_))))
            refine WL.a (d:=77) rfl rfl rfl (y6q rfl rfl) ?_
            refine WL.nil (WX.a (WC.b ?_))
            refine WC.cond rfl (fun h'=>(by cases h')) (fun h'=>?_)
            clear h'
            refine WC.exit (WX.yd (WX.yd (WX.yt ?_)))
            exact WX.mid (G:=Zp) zbK ⟨h,(zx3.trans zxj)⟩ .nil (.cons .here .nil)
      · rintro zbE ⟨h,zBl⟩
        replace h:=zwN.symm.trans h
        refine WC.b ?_
        obtain ⟨zo5,zxk,h⟩:=z8 h
        refine WC.a ?_
        refine WL.y2l (dd:=146) rfl rfl rfl (ze (l:=[]) Try.call17 .nil) .nil (ccz hz .nil .here fun w pz ho=>y9a _ _ zxk w pz ) ?_
        rintro zxl _
        refine WL.merge .here .here ?_
        refine WL.pu rfl (WL.nil (WX.a (WC.ret ?_)))
        obtain rfl:=Option.some.inj h
        refine WX.y8 Try.results5 (.tmp rfl .nil) (fun w hw=>?_)
        exact ⟨(zbE ++ zxl),yG rfl,trivial,hw.sub (.cons .here .nil)⟩
  refine WD.y6X (fuel':=1) (fun (b2o1_56517 : Nat) (b3o1_56517 : Nat)=>[(3,(.int .u8 z4w)),(4,(.int .u8 z4x)),(11,(.slice z1n zi.length z1o)),(12,(.slice z2j zC.length z2k)),(14,(.int .i64 za.2)),(15,(.pointer (some ⟨z61,0,none⟩))),(16,(.int .i64 zf.2)),(17,(.pointer (some ⟨zH,0,none⟩))),(58,(.agg #[(.int .i64 za.1.fN),(.int .i64 za.1.fD),(.int .i64 zb.fN),(.int .i64 zb.fD)])),(18,(.pointer (some ⟨b2o1_56517,0,none⟩))),(19,(.pointer (some ⟨b3o1_56517,0,none⟩)))]) (fun (b2o1_56517 : Nat) (b3o1_56517 : Nat)=>[stb b2o1_56517 43 [(.int .i64 za.1.fN),(.int .i64 za.1.fD),(.int .i64 zb.fN),(.int .i64 zb.fD)],stb b3o1_56517 43 [(.int .i64 0),(.int .i64 0),(.int .i64 0),(.int .i64 0)],stb zH 43 [(.int .i64 za.1.fN),(.int .i64 za.1.fD),(.int .i64 zb.fN),(.int .i64 zb.fD)],stb z61 30 [(.int .i64 zf.1.fN),(.int .i64 zf.1.fD)],stb zdC 30 [(.int .i64 za.1.fN),(.int .i64 za.1.fD)],row (.slice z2j zC.length z2k) 35 4 (zC.flatMap e35),row (.slice z1n zi.length z1o) 35 4 (zi.flatMap e35),fz []]) (fun (b2o1_56517 : Nat) (b3o1_56517 : Nat)=>True) (y1h 6 [4,3,2,1,0]) ?_ (fun K2o3o4_56517=>?_)
  · skip
    rintro b2o1_56517 b3o1_56517 _
    refine WD.y4V (i:=5) rfl (by kernel_rfl) rfl rfl rfl (by kernel_rfl) (y9 y7K rfl rfl rfl .h1 rfl rfl rfl) ?_
    exact WD.yA (.cons .here (.cons .here (.cons .here (.cons .here (.cons .here (.cons .here (.cons .here (.cons .here .nil)))))))) (.cons rfl (.cons rfl (.cons rfl (.cons rfl (.cons rfl (.cons rfl (.cons rfl (.cons rfl (.cons rfl (.cons rfl .nil)))))))))) (K2o3o4o5_56517 b2o1_56517 b3o1_56517 trivial)
  refine WD.y6X (fuel':=2) (fun (b2o1_56517 : Nat) (b3o1_56517 : Nat)=>[(3,(.int .u8 z4w)),(4,(.int .u8 z4x)),(11,(.slice z1n zi.length z1o)),(12,(.slice z2j zC.length z2k)),(14,(.int .i64 za.2)),(15,(.pointer (some ⟨z61,0,none⟩))),(16,(.int .i64 zf.2)),(17,(.pointer (some ⟨zH,0,none⟩))),(57,(.agg #[(.int .i64 za.1.fN),(.int .i64 za.1.fD),(.int .i64 zb.fN),(.int .i64 zb.fD)])),(58,(.agg #[(.int .i64 za.1.fN),(.int .i64 za.1.fD),(.int .i64 zb.fN),(.int .i64 zb.fD)])),(18,(.pointer (some ⟨b2o1_56517,0,none⟩))),(19,(.pointer (some ⟨b3o1_56517,0,none⟩)))]) (fun (b2o1_56517 : Nat) (b3o1_56517 : Nat)=>[stb b3o1_56517 43 [(.int .i64 0),(.int .i64 0),(.int .i64 0),(.int .i64 0)],stb b2o1_56517 43 [(.int .i64 0),(.int .i64 0),(.int .i64 0),(.int .i64 0)],stb zH 43 [(.int .i64 za.1.fN),(.int .i64 za.1.fD),(.int .i64 zb.fN),(.int .i64 zb.fD)],stb z61 30 [(.int .i64 zf.1.fN),(.int .i64 zf.1.fD)],stb zdC 30 [(.int .i64 za.1.fN),(.int .i64 za.1.fD)],row (.slice z2j zC.length z2k) 35 4 (zC.flatMap e35),row (.slice z1n zi.length z1o) 35 4 (zi.flatMap e35),fz []]) (fun (b2o1_56517 : Nat) (b3o1_56517 : Nat)=>True) (y1h 6 [3,2,1,0]) ?_ (fun K2o3_56517=>?_)
  · skip
    rintro b2o1_56517 b3o1_56517 _
    refine WD.forced0 (i:=4) rfl (by kernel_rfl) rfl rfl rfl (Sin.of (.cons .h2 .nil)) (y9 y7K rfl rfl rfl .h1 rfl rfl rfl) ?_
    exact WD.yA (.cons .here (.cons .here (.cons .here (.cons .here (.cons .here (.cons .here (.cons .here (.cons .here .nil)))))))) (.cons rfl (.cons rfl (.cons rfl (.cons rfl (.cons rfl (.cons rfl (.cons rfl (.cons rfl (.cons rfl (.cons rfl (.cons rfl .nil))))))))))) (K2o3o4_56517 b2o1_56517 b3o1_56517 trivial)
  refine WD.y6W (fuel':=3) (fun (b2o1_56517 : Nat)=>[(3,(.int .u8 z4w)),(4,(.int .u8 z4x)),(11,(.slice z1n zi.length z1o)),(12,(.slice z2j zC.length z2k)),(14,(.int .i64 za.2)),(15,(.pointer (some ⟨z61,0,none⟩))),(16,(.int .i64 zf.2)),(17,(.pointer (some ⟨zH,0,none⟩))),(57,(.agg #[(.int .i64 za.1.fN),(.int .i64 za.1.fD),(.int .i64 zb.fN),(.int .i64 zb.fD)])),(58,(.agg #[(.int .i64 za.1.fN),(.int .i64 za.1.fD),(.int .i64 zb.fN),(.int .i64 zb.fD)])),(18,(.pointer (some ⟨b2o1_56517,0,none⟩)))]) (fun (b2o1_56517 : Nat)=>[stb b2o1_56517 43 [(.int .i64 0),(.int .i64 0),(.int .i64 0),(.int .i64 0)],stb zH 43 [(.int .i64 za.1.fN),(.int .i64 za.1.fD),(.int .i64 zb.fN),(.int .i64 zb.fD)],stb z61 30 [(.int .i64 zf.1.fN),(.int .i64 zf.1.fD)],stb zdC 30 [(.int .i64 za.1.fN),(.int .i64 za.1.fD)],row (.slice z2j zC.length z2k) 35 4 (zC.flatMap e35),row (.slice z1n zi.length z1o) 35 4 (zi.flatMap e35),fz []]) (fun (b2o1_56517 : Nat)=>True) (y1h 6 [2,1,0]) ?_ (fun K2_56517=>?_)
  · skip
    rintro b2o1_56517 _
    refine WD.new (i:=3) (dd:=19) rfl (by kernel_rfl) rfl rfl rfl (yh (cs:=[(.int .i64 0),(.int .i64 0),(.int .i64 0),(.int .i64 0)]) y51 rfl) (fun h'=>absurd h' (by decide)) ?_
    intro b3o1_56517 _
    exact WD.yA (.cons .here (.cons .here (.cons .here (.cons .here (.cons .here (.cons .here (.cons .here (.cons .here .nil)))))))) (.cons rfl (.cons rfl (.cons rfl (.cons rfl (.cons rfl (.cons rfl (.cons rfl (.cons rfl (.cons rfl (.cons rfl (.cons rfl (.cons rfl .nil)))))))))))) (K2o3_56517 b2o1_56517 b3o1_56517 trivial)
  refine WD.y6W (fuel':=3) (fun (b3o1_56517 : Nat)=>[(3,(.int .u8 z4w)),(4,(.int .u8 z4x)),(11,(.slice z1n zi.length z1o)),(12,(.slice z2j zC.length z2k)),(14,(.int .i64 za.2)),(15,(.pointer (some ⟨z61,0,none⟩))),(16,(.int .i64 zf.2)),(17,(.pointer (some ⟨zH,0,none⟩))),(57,(.agg #[(.int .i64 za.1.fN),(.int .i64 za.1.fD),(.int .i64 zb.fN),(.int .i64 zb.fD)])),(58,(.agg #[(.int .i64 za.1.fN),(.int .i64 za.1.fD),(.int .i64 zb.fN),(.int .i64 zb.fD)])),(19,(.pointer (some ⟨b3o1_56517,0,none⟩)))]) (fun (b3o1_56517 : Nat)=>[stb b3o1_56517 43 [(.int .i64 0),(.int .i64 0),(.int .i64 0),(.int .i64 0)],stb zH 43 [(.int .i64 za.1.fN),(.int .i64 za.1.fD),(.int .i64 zb.fN),(.int .i64 zb.fD)],stb z61 30 [(.int .i64 zf.1.fN),(.int .i64 zf.1.fD)],stb zdC 30 [(.int .i64 za.1.fN),(.int .i64 za.1.fD)],row (.slice z2j zC.length z2k) 35 4 (zC.flatMap e35),row (.slice z1n zi.length z1o) 35 4 (zi.flatMap e35),fz []]) (fun (b3o1_56517 : Nat)=>True) (y1h 6 [3,1,0]) ?_ (fun K3_56517=>?_)
  · skip
    rintro b3o1_56517 _
    refine WD.new (i:=2) (dd:=18) rfl (by kernel_rfl) rfl rfl rfl (yh (cs:=[(.int .i64 0),(.int .i64 0),(.int .i64 0),(.int .i64 0)]) y51 rfl) (fun h'=>absurd h' (by decide)) ?_
    intro b2o1_56517 _
    exact WD.yA (.cons .h1 (.cons .here (.cons .here (.cons .here (.cons .here (.cons .here (.cons .here (.cons .here .nil)))))))) (.cons rfl (.cons rfl (.cons rfl (.cons rfl (.cons rfl (.cons rfl (.cons rfl (.cons rfl (.cons rfl (.cons rfl (.cons rfl (.cons rfl .nil)))))))))))) (K2o3_56517 b2o1_56517 b3o1_56517 trivial)
  refine WD.choose [2,3] (by kernel_rfl) rfl ?_
  refine WDo.cons ?_ (WDo.cons ?_ (WDo.nil))
  · refine WDo.new (i:=2) (dd:=18) rfl rfl rfl rfl (yh (cs:=[(.int .i64 0),(.int .i64 0),(.int .i64 0),(.int .i64 0)]) y51 rfl) (fun h'=>absurd h' (by decide)) ?_
    intro b2o1_56517 _
    exact WD.yA (.cons .here (.cons .here (.cons .here (.cons .here (.cons .here (.cons .here (.cons .here .nil))))))) (.cons rfl (.cons rfl (.cons rfl (.cons rfl (.cons rfl (.cons rfl (.cons rfl (.cons rfl (.cons rfl (.cons rfl (.cons rfl .nil))))))))))) (K2_56517 b2o1_56517 trivial)
  · refine WDo.new (i:=3) (dd:=19) rfl rfl rfl rfl (yh (cs:=[(.int .i64 0),(.int .i64 0),(.int .i64 0),(.int .i64 0)]) y51 rfl) (fun h'=>absurd h' (by decide)) ?_
    intro b3o1_56517 _
    exact WD.yA (.cons .here (.cons .here (.cons .here (.cons .here (.cons .here (.cons .here (.cons .here .nil))))))) (.cons rfl (.cons rfl (.cons rfl (.cons rfl (.cons rfl (.cons rfl (.cons rfl (.cons rfl (.cons rfl (.cons rfl (.cons rfl .nil))))))))))) (K3_56517 b3o1_56517 trivial)
end Go.Proofs.Ytakfmdiiehcbdaa

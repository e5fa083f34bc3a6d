/- A part of this claim's proof: models of functions, walks, plain laws. No conditions. -/
import Derived.Test.YtbihfglmcjkdhaaW02e
namespace Go.Proofs.Ytbihfglmcjkdhaa
open Go Go.RowKit Sep
set_option linter.all false
set_option maxRecDepth 30000
set_option maxHeartbeats 4000000
def m_ref02_Insert_L3 (z12 : List z2) (zX : z2) (z9k : Int → Option (List z2)) : Nat → Int → Option (List z2)
 | 0,_=>none
 | zkr + 1,z3Q=>(if decide (z3Q > 0) then chk ((0 : Int) ≤ (i64 (z3Q - 1)) ∧ (i64 (z3Q - 1)) < ((z12.length : Nat) : Int)) ((m_ref01_Cmp (⟨((nth z12 (i64 (z3Q - 1))).fN),((nth z12 (i64 (z3Q - 1))).fD)⟩ : z2) zX).bind fun zks=>some (decide (zks > 0))) else some false).bind fun zkt=>if zkt then m_ref02_Insert_L3 z12 zX z9k zkr (i64 (z3Q - 1)) else z9k z3Q
theorem m_ref02_Insert_L3_fuel {n : Nat} {z12 : List z2} {zX : z2} {z9k : Int → Option (List z2)} {z3Q : Int} {r : List z2} (h : m_ref02_Insert_L3 z12 zX z9k n z3Q = some r) : ∃ m,n = m + 1:=by
 cases n with
 | zero=>cases h
 | succ m=>exact ⟨m,rfl⟩
def m_ref02_Insert (z12 : List z2) (zX : z2) : Option (List z2) :=
 jp1 (fun (z1s : Int)=>chk ((decide (z1s > 0)) = true → ((0 : Int) ≤ (i64 (z1s - 1)) ∧ (i64 (z1s - 1)) < ((z12.length : Nat) : Int))) (if (decide (z1s > 0)) && (decide ((⟨((nth z12 (i64 (z1s - 1))).fN),((nth z12 (i64 (z1s - 1))).fD)⟩ : z2) = zX)) then some z12 else chk ((0 : Int) ≤ 0 ∧ (0 : Int) ≤ z1s ∧ z1s ≤ ((z12.length : Nat) : Int)) (chk ((((([] : List z2) ++ (z12.take (z1s : Int).toNat)).length : Nat) : Int) * 16 ≤ 140737488355328 ∧ (((([] : List z2) ++ (z12.take (z1s : Int).toNat)).length : Nat) : Int) ≤ 4611686018427387904) (chk (((((([] : List z2) ++ (z12.take (z1s : Int).toNat)) ++ ([zX] : List z2)).length : Nat) : Int) * 16 ≤ 140737488355328 ∧ ((((([] : List z2) ++ (z12.take (z1s : Int).toNat)) ++ ([zX] : List z2)).length : Nat) : Int) ≤ 4611686018427387904) (chk ((0 : Int) ≤ z1s ∧ (z1s : Int) ≤ (z12.length : Int) ∧ (z12.length : Int) ≤ ((z12.length : Nat) : Int)) (chk ((((((([] : List z2) ++ (z12.take (z1s : Int).toNat)) ++ ([zX] : List z2)) ++ (z12.drop (z1s : Int).toNat)).length : Nat) : Int) * 16 ≤ 140737488355328 ∧ (((((([] : List z2) ++ (z12.take (z1s : Int).toNat)) ++ ([zX] : List z2)) ++ (z12.drop (z1s : Int).toNat)).length : Nat) : Int) ≤ 4611686018427387904) (some (((([] : List z2) ++ (z12.take (z1s : Int).toNat)) ++ ([zX] : List z2)) ++ (z12.drop (z1s : Int).toNat))))))))) fun z9k=>m_ref02_Insert_L3 z12 zX z9k FUEL ((z12.length : Nat) : Int)
set_option maxRecDepth 20000 in
theorem w_ref02_Insert (Z : Zp)  (z8c : Option Addr) (z8d : Nat) (z12 : List z2) (zX : z2) (r : List z2) (w₀ : World) (hz : PZ [] w₀ Z)
  (zef : ZS Z 2 (fun r x=>r = e28 x) z8c z8d z12)
  (h : m_ref02_Insert z12 zX = some r) :
  Calls Try.prog 61 #[(.slice z8c z12.length z8d),(.agg #[(.int .i64 zX.fN),(.int .i64 zX.fD)])] w₀ fun e w'=>∃ Zn : Zp,∃ zoy : Option Addr,∃ zoz : Nat,e = .returned (.slice zoy r.length zoz) ∧ (ZS (Z ++ Zn) 2 (fun r x=>r = e28 x) zoy zoz r) ∧ Hp [] w₀ w' [fz Zn]:=by
 unfold m_ref02_Insert at h
 refine Calls.ofWC (vs:=[(.slice z8c z12.length z8d),(.agg #[(.int .i64 zX.fN),(.int .i64 zX.fD)])]) (pre:=[]) (env:=[(0,(.slice z8c z12.length z8d)),(1,(.agg #[(.int .i64 zX.fN),(.int .i64 zX.fD)]))]) Try.func61 rfl Try.ntmps61 rfl (Hp.nil w₀ _) rfl ?_
 refine WC.pool ?_
 refine WC.seq ?_
 refine WC.region ?_
 refine WL.new (dd:=3) rfl rfl rfl (e_box (cs:=[(.int .i64 zX.fN),(.int .i64 zX.fD)]) rfl rfl) ?_
 intro z6d _
 refine WL.quiet (d:=4) rfl rfl rfl (q_assign rfl) ?_
 refine WL.nil ?_
 refine WX.then ?_
 refine WC.seq ?_
 refine WC.region ?_
 refine WL.quiet (d:=6) rfl rfl rfl (q_move rfl) ?_
 refine WL.quiet (d:=7) rfl rfl rfl (q_len Try.underlying44 rfl) ?_
 refine WL.quiet (d:=5) rfl rfl rfl (q_assign rfl) ?_
 refine WL.nil ?_
 refine WX.then ?_
 obtain ⟨z9k,zvL,h⟩:=jp1_elim h
 refine WC.seqMid1 (fun (z1s : Int)=>(z9k z1s = some r)) (fun (z1s : Int)=>[(0,(.slice z8c z12.length z8d)),(3,(.pointer (some ⟨z6d,0,none⟩))),(5,(.int .i64 z1s))]) (fun (z1s : Int)=>[fz [],stb z6d 28 [(.int .i64 zX.fN),(.int .i64 zX.fD)]]) ?_ ?_
 ·skip
  refine WC.block ?_
  refine WC.loop2 (fun (zcI : Nat) (z3Q : Int)=>(m_ref02_Insert_L3 z12 zX z9k zcI z3Q = some r)) (fun (zcI : Nat) (z3Q : Int)=>[(0,(.slice z8c z12.length z8d)),(3,(.pointer (some ⟨z6d,0,none⟩))),(5,(.int .i64 z3Q))]) (fun (zcI : Nat) (z3Q : Int)=>[fz [],stb z6d 28 [(.int .i64 zX.fN),(.int .i64 zX.fD)]]) (fun (zcI : Nat) (z3Q : Int)=>zcI) ⟨FUEL,((z12.length : Nat) : Int)⟩ h (.cons rfl (.cons rfl (.cons rfl .nil))) (.cons (.there .here) (.cons .here .nil)) ?_
  rintro zcI z3Q h
  obtain ⟨zkr,rfl⟩:=m_ref02_Insert_L3_fuel h
  rw [m_ref02_Insert_L3] at h
  refine WC.seq ?_
  refine WC.seq ?_
  obtain ⟨zkt,zoA,h⟩:=zb h
  refine WC.draw (fun i=>[].contains i) [] rfl ?_
  refine WD.pure (i:=0) (d:=8) (by kernel_rfl) rfl (z6 (by kernel_rfl)) (z7 (by kernel_rfl)) rfl rfl rfl (fun _=>q_move rfl) ?_
  refine WD.pure (i:=1) (d:=9) (by kernel_rfl) rfl (z6 (by kernel_rfl)) (z7 (by kernel_rfl)) rfl rfl rfl (fun _=>q_gtr rfl rfl) ?_
  refine WD.pure (i:=2) (d:=10) (by kernel_rfl) rfl (z6 (by kernel_rfl)) (z7 (by kernel_rfl)) rfl rfl rfl (fun _=>q_move rfl) ?_
  refine WD.mid (fuel':=0) [(0,(.slice z8c z12.length z8d)),(3,(.pointer (some ⟨z6d,0,none⟩))),(5,(.int .i64 z3Q)),(8,(.int .i64 z3Q)),(9,(.bool (decide (z3Q > 0)))),(10,(.bool (decide (z3Q > 0)))),(19,(.bool zkt))] (listedA 12 [11,10,9,8,7,6,5,4,3,2,1,0]) ?_ (fun zoB=>?_)
  rotate_left
  ·rcases Bool.eq_false_or_eq_true (decide (z3Q > 0)) with hb' | hb'
   ·have zku:=hb'; clear hb'
    have zb6:=ite_t zoA zku
    obtain ⟨zvM,zb6⟩:=chk_elim zb6
    obtain ⟨zks,zvN,zb6⟩:=zb zb6
    replace zb6:=Option.some.inj zb6
    refine WD.pin (i:=10) rfl zku ?_
    refine WD.pure (i:=3) (d:=11) (by kernel_rfl) rfl (z6 (by kernel_rfl)) (z7 (by kernel_rfl)) rfl rfl rfl (fun _=>q_move rfl) ?_
    refine WD.pure (i:=4) (d:=12) (by kernel_rfl) rfl (z6 (by kernel_rfl)) (z7 (by kernel_rfl)) rfl rfl rfl (fun _=>q_move rfl) ?_
    refine WD.pure (i:=5) (d:=13) (by kernel_rfl) rfl (z6 (by kernel_rfl)) (z7 (by kernel_rfl)) rfl rfl rfl (fun _=>q_sub rfl rfl rfl) ?_
    refine WD.znth (j:=6) (dd:=14) (by kernel_rfl) rfl (z6 (by kernel_rfl)) (z7 (by kernel_rfl)) rfl rfl (Z:=(Z ++ [])) (Pr:=(fun r x=>r = e28 x)) elT_44 rfl rfl (zef.mono (Zle.left _ _)) zvM ?_
    rintro zz8 zz9 zvO zza rfl
    refine WD.quiet (i:=7) (d:=15) (by kernel_rfl) rfl (z6 (by kernel_rfl)) (z7 (by kernel_rfl)) rfl rfl rfl (q_loadA (cs:=[(.int .i64 ((nth z12 (i64 (z3Q - 1))).fN)),(.int .i64 ((nth z12 (i64 (z3Q - 1))).fD))]) aggT_28 rfl rfl (rd_zs (hz.pv2 .here) zvO)) ?_
    refine WD.quiet (i:=8) (d:=16) (by kernel_rfl) rfl (z6 (by kernel_rfl)) (z7 (by kernel_rfl)) rfl rfl rfl (q_loadA (cs:=[(.int .i64 zX.fN),(.int .i64 zX.fD)]) aggT_28 rfl rfl (rd_all (.there .here))) ?_
    refine WD.enter (i:=9) (d:=17) (by kernel_rfl) rfl (z6 (by kernel_rfl)) (z7 (by kernel_rfl)) rfl rfl rfl (zg (l:=[.tmp 15,.tmp 16]) Try.call55 (.cons rfl (.cons rfl .nil))) (fun w hw=>by have pz:=(hz.call2 hw (.nil : Sel [fz [],stb z6d 28 [(.int .i64 zX.fN),(.int .i64 zX.fD)]] [] [fz [],stb z6d 28 [(.int .i64 zX.fN),(.int .i64 zX.fD)]]) .here); exact w_ref01_Cmp (Z:=_)  (z2h:=(⟨((nth z12 (i64 (z3Q - 1))).fN),((nth z12 (i64 (z3Q - 1))).fD)⟩ : z2)) (z2i:=zX) (r:=zks) w pz  zvN) ?_
    refine WD.pure (i:=10) (d:=18) (by kernel_rfl) rfl (z6 (by kernel_rfl)) (z7 (by kernel_rfl)) rfl rfl rfl (fun _=>q_gtr rfl rfl) ?_
    refine WD.pure (i:=11) (d:=19) (by kernel_rfl) rfl (z6 (by kernel_rfl)) (z7 (by kernel_rfl)) rfl rfl rfl (fun _=>q_pickT rfl rfl) ?_
    refine WD.reL (.cons .here (.cons .here .nil)) ?_ zoB
    exact (.cons rfl (.cons rfl (.cons rfl (.cons rfl (.cons rfl (.cons (zl (Eq.symm zku)) (.cons (zl zb6) .nil)))))))
   ·have zkv:=hb'; clear hb'
    have zkw:=ite_f zoA zkv
    replace zkw:=Option.some.inj zkw
    refine WD.pin (i:=10) rfl zkv ?_
    refine WD.skip (i:=3) (d:=11) (by kernel_rfl) rfl (z6 (by kernel_rfl)) (z7 (by kernel_rfl)) rfl rfl rfl ?_
    refine WD.skip (i:=4) (d:=12) (by kernel_rfl) rfl (z6 (by kernel_rfl)) (z7 (by kernel_rfl)) rfl rfl rfl ?_
    refine WD.skip (i:=5) (d:=13) (by kernel_rfl) rfl (z6 (by kernel_rfl)) (z7 (by kernel_rfl)) rfl rfl rfl ?_
    refine WD.skip (i:=6) (d:=14) (by kernel_rfl) rfl (z6 (by kernel_rfl)) (z7 (by kernel_rfl)) rfl rfl rfl ?_
    refine WD.skip (i:=7) (d:=15) (by kernel_rfl) rfl (z6 (by kernel_rfl)) (z7 (by kernel_rfl)) rfl rfl rfl ?_
    refine WD.skip (i:=8) (d:=16) (by kernel_rfl) rfl (z6 (by kernel_rfl)) (z7 (by kernel_rfl)) rfl rfl rfl ?_
    refine WD.skip (i:=9) (d:=17) (by kernel_rfl) rfl (z6 (by kernel_rfl)) (z7 (by kernel_rfl)) rfl rfl rfl ?_
    refine WD.skip (i:=10) (d:=18) (by kernel_rfl) rfl (z6 (by kernel_rfl)) (z7 (by kernel_rfl)) rfl rfl rfl ?_
    refine WD.pure (i:=11) (d:=19) (by kernel_rfl) rfl (z6 (by kernel_rfl)) (z7 (by kernel_rfl)) rfl rfl rfl (fun _=>q_pickF rfl rfl) ?_
    refine WD.reL (.cons .here (.cons .here .nil)) ?_ zoB
    exact (.cons rfl (.cons rfl (.cons rfl (.cons rfl (.cons rfl (.cons (zl (Eq.symm zkv)) (.cons (zl zkw) .nil)))))))
  refine WD.done (by kernel_rfl) ?_
  refine WX.then ?_
  refine WC.cond rfl (fun zkx=>?_) (fun zkx=>?_)
  ·replace h:=ite_t h zkx
   refine WC.skip ?_
   refine WX.then ?_
   refine WC.block ?_
   refine WC.region ?_
   refine WL.quiet (d:=20) rfl rfl rfl (q_move rfl) ?_
   refine WL.quiet (d:=21) rfl rfl rfl (q_sub rfl rfl rfl) ?_
   refine WL.quiet (d:=5) rfl rfl rfl (q_assign rfl) ?_
   refine WL.nil ?_
   refine WX.blockNormal ?_
   exact WX.round (G:=Nat × Int) ⟨zkr,(i64 (z3Q - 1))⟩ h (Nat.lt_succ_self _) (.cons rfl (.cons rfl (.cons rfl .nil))) (.cons .here (.cons .here .nil))
  ·replace h:=ite_f h zkx
   refine WC.exit ?_
   refine WX.thenExit ?_
   refine WX.thenExit ?_
   refine WX.blockHit ?_
   exact WX.mid (G:=Int) z3Q h (.cons rfl (.cons rfl (.cons rfl .nil))) (.cons .here (.cons .here .nil))
 ·rintro z1s h
  replace h:=(zvL z1s).symm.trans h
  refine WC.seq ?_
  refine WC.seq ?_
  obtain ⟨zvP,h⟩:=chk_elim h
  refine WC.draw (fun i=>[].contains i) [] rfl ?_
  refine WD.pure (i:=0) (d:=22) (by kernel_rfl) rfl (z6 (by kernel_rfl)) (z7 (by kernel_rfl)) rfl rfl rfl (fun _=>q_move rfl) ?_
  refine WD.pure (i:=1) (d:=23) (by kernel_rfl) rfl (z6 (by kernel_rfl)) (z7 (by kernel_rfl)) rfl rfl rfl (fun _=>q_gtr rfl rfl) ?_
  refine WD.pure (i:=2) (d:=24) (by kernel_rfl) rfl (z6 (by kernel_rfl)) (z7 (by kernel_rfl)) rfl rfl rfl (fun _=>q_move rfl) ?_
  refine WD.mid (fuel':=0) [(0,(.slice z8c z12.length z8d)),(3,(.pointer (some ⟨z6d,0,none⟩))),(5,(.int .i64 z1s)),(22,(.int .i64 z1s)),(23,(.bool (decide (z1s > 0)))),(24,(.bool (decide (z1s > 0)))),(32,(.bool ((decide (z1s > 0)) && (decide ((⟨((nth z12 (i64 (z1s - 1))).fN),((nth z12 (i64 (z1s - 1))).fD)⟩ : z2) = zX)))))] (listedA 11 [10,9,8,7,6,5,4,3,2,1,0]) ?_ (fun zoC=>?_)
  rotate_left
  ·rcases Bool.eq_false_or_eq_true (decide (z1s > 0)) with hb' | hb'
   ·have zfO:=hb'; clear hb'
    have zvQ:=zvP zfO
    refine WD.pin (i:=24) rfl zfO ?_
    refine WD.pure (i:=3) (d:=25) (by kernel_rfl) rfl (z6 (by kernel_rfl)) (z7 (by kernel_rfl)) rfl rfl rfl (fun _=>q_move rfl) ?_
    refine WD.pure (i:=4) (d:=26) (by kernel_rfl) rfl (z6 (by kernel_rfl)) (z7 (by kernel_rfl)) rfl rfl rfl (fun _=>q_move rfl) ?_
    refine WD.pure (i:=5) (d:=27) (by kernel_rfl) rfl (z6 (by kernel_rfl)) (z7 (by kernel_rfl)) rfl rfl rfl (fun _=>q_sub rfl rfl rfl) ?_
    refine WD.znth (j:=6) (dd:=28) (by kernel_rfl) rfl (z6 (by kernel_rfl)) (z7 (by kernel_rfl)) rfl rfl (Z:=(Z ++ [])) (Pr:=(fun r x=>r = e28 x)) elT_44 rfl rfl (zef.mono (Zle.left _ _)) zvQ ?_
    rintro zzb zzc zvR zzd rfl
    refine WD.quiet (i:=7) (d:=29) (by kernel_rfl) rfl (z6 (by kernel_rfl)) (z7 (by kernel_rfl)) rfl rfl rfl (q_loadA (cs:=[(.int .i64 ((nth z12 (i64 (z1s - 1))).fN)),(.int .i64 ((nth z12 (i64 (z1s - 1))).fD))]) aggT_28 rfl rfl (rd_zs (hz.pv2 .here) zvR)) ?_
    refine WD.quiet (i:=8) (d:=30) (by kernel_rfl) rfl (z6 (by kernel_rfl)) (z7 (by kernel_rfl)) rfl rfl rfl (q_loadA (cs:=[(.int .i64 zX.fN),(.int .i64 zX.fD)]) aggT_28 rfl rfl (rd_all (.there .here))) ?_
    refine WD.pure (i:=9) (d:=31) (by kernel_rfl) rfl (z6 (by kernel_rfl)) (z7 (by kernel_rfl)) rfl rfl rfl (fun _=>q_aggeql (enc:=e28) (a:=(⟨((nth z12 (i64 (z1s - 1))).fN),((nth z12 (i64 (z1s - 1))).fD)⟩ : z2)) (b:=zX) eqT_28 rfl rfl) ?_
    refine WD.pure (i:=10) (d:=32) (by kernel_rfl) rfl (z6 (by kernel_rfl)) (z7 (by kernel_rfl)) rfl rfl rfl (fun _=>q_pickT rfl rfl) ?_
    refine WD.reL (.cons .here (.cons .here .nil)) ?_ zoC
    exact (.cons rfl (.cons rfl (.cons rfl (.cons rfl (.cons rfl (.cons (zl (Eq.symm zfO)) (.cons (zl (and_r zfO)) .nil)))))))
   ·have zky:=hb'; clear hb'
    refine WD.pin (i:=24) rfl zky ?_
    refine WD.skip (i:=3) (d:=25) (by kernel_rfl) rfl (z6 (by kernel_rfl)) (z7 (by kernel_rfl)) rfl rfl rfl ?_
    refine WD.skip (i:=4) (d:=26) (by kernel_rfl) rfl (z6 (by kernel_rfl)) (z7 (by kernel_rfl)) rfl rfl rfl ?_
    refine WD.skip (i:=5) (d:=27) (by kernel_rfl) rfl (z6 (by kernel_rfl)) (z7 (by kernel_rfl)) rfl rfl rfl ?_
    refine WD.skip (i:=6) (d:=28) (by kernel_rfl) rfl (z6 (by kernel_rfl)) (z7 (by kernel_rfl)) rfl rfl rfl ?_
    refine WD.skip (i:=7) (d:=29) (by kernel_rfl) rfl (z6 (by kernel_rfl)) (z7 (by kernel_rfl)) rfl rfl rfl ?_
    refine WD.skip (i:=8) (d:=30) (by kernel_rfl) rfl (z6 (by kernel_rfl)) (z7 (by kernel_rfl)) rfl rfl rfl ?_
    refine WD.skip (i:=9) (d:=31) (by kernel_rfl) rfl (z6 (by kernel_rfl)) (z7 (by kernel_rfl)) rfl rfl rfl ?_
    refine WD.pure (i:=10) (d:=32) (by kernel_rfl) rfl (z6 (by kernel_rfl)) (z7 (by kernel_rfl)) rfl rfl rfl (fun _=>q_pickF rfl rfl) ?_
    refine WD.reL (.cons .here (.cons .here .nil)) ?_ zoC
    exact (.cons rfl (.cons rfl (.cons rfl (.cons rfl (.cons rfl (.cons (zl (Eq.symm zky)) (.cons (zl (and_l zky)) .nil)))))))
  refine WD.done (by kernel_rfl) ?_
  refine WX.then ?_
  refine WC.cond rfl (fun zkz=>?_) (fun zkz=>?_)
  ·replace h:=ite_t h zkz
   refine WC.seq ?_
   refine WC.region ?_
   refine WL.quiet (d:=33) rfl rfl rfl (q_move rfl) ?_
   refine WL.quiet (d:=4) rfl rfl rfl (q_assign rfl) ?_
   refine WL.nil ?_
   refine WX.then ?_
   refine WC.ret ?_
   refine WX.thenRet ?_
   obtain rfl:=Option.some.inj h
   refine WX.bpRet Try.results61 (.tmp rfl .nil) (fun w hw=>?_)
   exact ⟨[],z8c,z8d,ret1 rfl,(zef.mono (Zle.left _ _)),hw.sub (.cons .here .nil)⟩
  ·replace h:=ite_f h zkz
   refine WC.skip ?_
   refine WX.then ?_
   refine WC.seq ?_
   obtain ⟨zvS,h⟩:=chk_elim h
   obtain ⟨zoD,h⟩:=chk_elim h
   obtain ⟨zvT,h⟩:=chk_elim h
   obtain ⟨zvU,h⟩:=chk_elim h
   obtain ⟨zvV,h⟩:=chk_elim h
   refine WC.draw (fun i=>[4,7,11].contains i) [stb z6d 28 [(.int .i64 zX.fN),(.int .i64 zX.fD)]] rfl ?_
   refine WD.pure (i:=1) (d:=35) (by kernel_rfl) rfl (z6 (by kernel_rfl)) (z7 (by kernel_rfl)) rfl rfl rfl (fun _=>q_move rfl) ?_
   refine WD.pure (i:=2) (d:=36) (by kernel_rfl) rfl (z6 (by kernel_rfl)) (z7 (by kernel_rfl)) rfl rfl rfl (fun _=>q_move rfl) ?_
   refine WD.zsub (j:=3) (dd:=37) (by kernel_rfl) rfl (z6 (by kernel_rfl)) (z7 (by kernel_rfl)) rfl rfl (Z:=(Z ++ [])) (Pr:=(fun r x=>r = e28 x)) elT_44 rfl (zef.mono (Zle.left _ _)) (fun _=>ixn) (fun _=>ixo rfl) rfl rfl zvS (List.drop_zero).symm ?_
   rintro zkA zkB zoE
   refine WD.stable (i:=5) (d:=39) (by kernel_rfl) rfl (z6 (by kernel_rfl)) (z7 (by kernel_rfl)) rfl rfl rfl (Sin.of (.cons (.there .here) .nil)) (q_loadA (cs:=[(.int .i64 zX.fN),(.int .i64 zX.fD)]) aggT_28 rfl rfl (rd_all .here)) ?_
   refine WD.pure (i:=8) (d:=42) (by kernel_rfl) rfl (z6 (by kernel_rfl)) (z7 (by kernel_rfl)) rfl rfl rfl (fun _=>q_move rfl) ?_
   refine WD.pure (i:=9) (d:=43) (by kernel_rfl) rfl (z6 (by kernel_rfl)) (z7 (by kernel_rfl)) rfl rfl rfl (fun _=>q_move rfl) ?_
   refine WD.zsub (j:=10) (dd:=44) (by kernel_rfl) rfl (z6 (by kernel_rfl)) (z7 (by kernel_rfl)) rfl rfl (Z:=(Z ++ [])) (Pr:=(fun r x=>r = e28 x)) elT_44 rfl (zef.mono (Zle.left _ _)) (fun _=>ixo rfl) (fun _=>ixn) rfl rfl zvU (by rw [Int.toNat_natCast,List.take_length]) ?_
   rintro zcJ zcK zvW
   refine WD.mids8 (fuel':=0) (fun (b0o1_53883 : Nat) (ao4o1_53883 : Option Addr) (cap4o2_53883 : Nat) (b6o1_53883 : Nat) (ao7o1_53883 : Option Addr) (cap7o2_53883 : Nat) (ao11o1_53883 : Option Addr) (cap11o2_53883 : Nat)=>[(4,(.slice ao11o1_53883 ((((([] : List z2) ++ (z12.take (z1s : Int).toNat)) ++ ([zX] : List z2)) ++ (z12.drop (z1s : Int).toNat)).length) cap11o2_53883))]) (fun (b0o1_53883 : Nat) (ao4o1_53883 : Option Addr) (cap4o2_53883 : Nat) (b6o1_53883 : Nat) (ao7o1_53883 : Option Addr) (cap7o2_53883 : Nat) (ao11o1_53883 : Option Addr) (cap11o2_53883 : Nat)=>[row (.slice ao11o1_53883 ((((([] : List z2) ++ (z12.take (z1s : Int).toNat)) ++ ([zX] : List z2)) ++ (z12.drop (z1s : Int).toNat)).length) cap11o2_53883) 28 2 ((((([] : List z2) ++ (z12.take (z1s : Int).toNat)) ++ ([zX] : List z2)) ++ (z12.drop (z1s : Int).toNat)).flatMap e28),row (.slice (some ⟨b6o1_53883,0,none⟩) (([zX] : List z2).length) 1) 28 2 (([zX] : List z2).flatMap e28),fz [],stb z6d 28 [(.int .i64 zX.fN),(.int .i64 zX.fD)]]) (fun (b0o1_53883 : Nat) (ao4o1_53883 : Option Addr) (cap4o2_53883 : Nat) (b6o1_53883 : Nat) (ao7o1_53883 : Option Addr) (cap7o2_53883 : Nat) (ao11o1_53883 : Option Addr) (cap11o2_53883 : Nat)=>True) (listedA 13 [12,11,7,6,4,0,10,9,8,5,3,2,1]) ?_ (fun K0o4o6o7o11o12_53883=>?_)
   ·skip
    rintro b0o1_53883 ao4o1_53883 cap4o2_53883 b6o1_53883 ao7o1_53883 cap7o2_53883 ao11o1_53883 cap11o2_53883 _
    refine WD.done (by kernel_rfl) ?_
    refine WX.then ?_
    refine WC.ret ?_
    refine WX.freezeS (ls:=((([] : List z2) ++ (z12.take (z1s : Int).toNat)) ++ ([zX] : List z2)) ++ (z12.drop (z1s : Int).toNat)) .here (.there .here) hz (RR.flat (enc:=e28) (fun _=>rfl) _) ?_
    intro zvX zze zvY
    obtain rfl:=Option.some.inj h
    refine WX.bpRet Try.results61 (.tmp rfl .nil) (fun w hw=>?_)
    exact ⟨zvX,ao11o1_53883,cap11o2_53883,ret1 rfl,zvY,hw.sub (.cons .here .nil)⟩
   refine WD.mids6 (fuel':=2) (fun (b0o1_53883 : Nat) (ao4o1_53883 : Option Addr) (cap4o2_53883 : Nat) (b6o1_53883 : Nat) (ao7o1_53883 : Option Addr) (cap7o2_53883 : Nat)=>[(44,(.slice zcJ ((z12.drop (z1s : Int).toNat).length) zcK)),(41,(.slice ao7o1_53883 (((([] : List z2) ++ (z12.take (z1s : Int).toNat)) ++ ([zX] : List z2)).length) cap7o2_53883))]) (fun (b0o1_53883 : Nat) (ao4o1_53883 : Option Addr) (cap4o2_53883 : Nat) (b6o1_53883 : Nat) (ao7o1_53883 : Option Addr) (cap7o2_53883 : Nat)=>[row (.slice ao7o1_53883 (((([] : List z2) ++ (z12.take (z1s : Int).toNat)) ++ ([zX] : List z2)).length) cap7o2_53883) 28 2 (((([] : List z2) ++ (z12.take (z1s : Int).toNat)) ++ ([zX] : List z2)).flatMap e28),row (.slice (some ⟨b6o1_53883,0,none⟩) (([zX] : List z2).length) 1) 28 2 (([zX] : List z2).flatMap e28),fz [],stb z6d 28 [(.int .i64 zX.fN),(.int .i64 zX.fD)]]) (fun (b0o1_53883 : Nat) (ao4o1_53883 : Option Addr) (cap4o2_53883 : Nat) (b6o1_53883 : Nat) (ao7o1_53883 : Option Addr) (cap7o2_53883 : Nat)=>True) (listedA 13 [7,6,4,0,10,9,8,5,3,2,1]) ?_ (fun K0o4o6o7_53883=>?_)
   ·skip
    rintro b0o1_53883 ao4o1_53883 cap4o2_53883 b6o1_53883 ao7o1_53883 cap7o2_53883 _
    refine WD.old (i:=11) (dd:=45) rfl (by kernel_rfl) rfl rfl rfl rfl (fun _=>(Sin.of (.cons (.there (.there (.there .here))) .nil))) (e_appendF (enc:=e28) (l1:=(([] : List z2) ++ (z12.take (z1s : Int).toNat)) ++ ([zX] : List z2)) (l2:=z12.drop (z1s : Int).toNat) elT_44 rfl rfl .here (fun _=>rfl) rfl rfl (news_z (hz.pv2 (.there (.there .here))) zvW) (oc_flat e28_oc _) zvV) ?_
    rintro ⟨ao11o1_53883,cap11o2_53883⟩ _
    refine WD.pure (i:=12) (d:=4) (by kernel_rfl) rfl (z6 (by kernel_rfl)) (z7 (by kernel_rfl)) rfl rfl rfl (fun _=>q_assign rfl) ?_
    exact WD.reL (.cons .here (.cons .here (.cons .here (.cons .here .nil)))) (.cons rfl .nil) (K0o4o6o7o11o12_53883 b0o1_53883 ao4o1_53883 cap4o2_53883 b6o1_53883 ao7o1_53883 cap7o2_53883 ao11o1_53883 cap11o2_53883 trivial)
   refine WD.mids4 (fuel':=3) (fun (b0o1_53883 : Nat) (ao4o1_53883 : Option Addr) (cap4o2_53883 : Nat) (b6o1_53883 : Nat)=>[(44,(.slice zcJ ((z12.drop (z1s : Int).toNat).length) zcK)),(38,(.slice ao4o1_53883 ((([] : List z2) ++ (z12.take (z1s : Int).toNat)).length) cap4o2_53883)),(40,(.slice (some ⟨b6o1_53883,0,none⟩) (([zX] : List z2).length) 1))]) (fun (b0o1_53883 : Nat) (ao4o1_53883 : Option Addr) (cap4o2_53883 : Nat) (b6o1_53883 : Nat)=>[row (.slice (some ⟨b6o1_53883,0,none⟩) (([zX] : List z2).length) 1) 28 2 (([zX] : List z2).flatMap e28),row (.slice ao4o1_53883 ((([] : List z2) ++ (z12.take (z1s : Int).toNat)).length) cap4o2_53883) 28 2 ((([] : List z2) ++ (z12.take (z1s : Int).toNat)).flatMap e28),fz [],stb z6d 28 [(.int .i64 zX.fN),(.int .i64 zX.fD)]]) (fun (b0o1_53883 : Nat) (ao4o1_53883 : Option Addr) (cap4o2_53883 : Nat) (b6o1_53883 : Nat)=>True) (listedA 13 [6,4,0,10,9,8,5,3,2,1]) ?_ (fun K0o4o6_53883=>?_)
   ·skip
    rintro b0o1_53883 ao4o1_53883 cap4o2_53883 b6o1_53883 _
    refine WD.old (i:=7) (dd:=41) rfl (by kernel_rfl) rfl rfl rfl rfl (fun _=>(Sin.of (.cons (.there (.there (.there .here))) .nil))) (e_appendF (enc:=e28) (l1:=([] : List z2) ++ (z12.take (z1s : Int).toNat)) (l2:=([zX] : List z2)) elT_44 rfl rfl (.there .here) (fun _=>rfl) rfl rfl (news_row .here) (oc_flat e28_oc _) zvT) ?_
    rintro ⟨ao7o1_53883,cap7o2_53883⟩ _
    exact WD.reL (.cons .here (.cons .here (.cons .here (.cons .here .nil)))) (.cons rfl (.cons rfl .nil)) (K0o4o6o7_53883 b0o1_53883 ao4o1_53883 cap4o2_53883 b6o1_53883 ao7o1_53883 cap7o2_53883 trivial)
   refine WD.mids3 (fuel':=4) (fun (b0o1_53883 : Nat) (ao4o1_53883 : Option Addr) (cap4o2_53883 : Nat)=>[(39,(.agg #[(.int .i64 zX.fN),(.int .i64 zX.fD)])),(44,(.slice zcJ ((z12.drop (z1s : Int).toNat).length) zcK)),(38,(.slice ao4o1_53883 ((([] : List z2) ++ (z12.take (z1s : Int).toNat)).length) cap4o2_53883))]) (fun (b0o1_53883 : Nat) (ao4o1_53883 : Option Addr) (cap4o2_53883 : Nat)=>[row (.slice ao4o1_53883 ((([] : List z2) ++ (z12.take (z1s : Int).toNat)).length) cap4o2_53883) 28 2 ((([] : List z2) ++ (z12.take (z1s : Int).toNat)).flatMap e28),fz [],stb z6d 28 [(.int .i64 zX.fN),(.int .i64 zX.fD)]]) (fun (b0o1_53883 : Nat) (ao4o1_53883 : Option Addr) (cap4o2_53883 : Nat)=>True) (listedA 13 [4,0,10,9,8,5,3,2,1]) ?_ (fun K0o4_53883=>?_)
   ·skip
    rintro b0o1_53883 ao4o1_53883 cap4o2_53883 _
    refine WD.new (i:=6) (dd:=40) rfl (by kernel_rfl) rfl rfl rfl (e_buildSlice (cs:=([zX] : List z2).flatMap e28) elT_44 (Eos.parts (l:=[.tmp 39]) (.cons rfl .nil) [0]) (fun _=>by kernel_rfl) rfl (by unfold maxLen; omega)) (fun h'=>absurd h' (by decide)) ?_
    intro b6o1_53883 _
    exact WD.reL (.cons .here (.cons .here (.cons .here (.cons .here .nil)))) (.cons rfl (.cons rfl (.cons rfl .nil))) (K0o4o6_53883 b0o1_53883 ao4o1_53883 cap4o2_53883 b6o1_53883 trivial)
   refine WD.mids2 (fuel':=4) (fun (b0o1_53883 : Nat) (b6o1_53883 : Nat)=>[(37,(.slice zkA ((z12.take (z1s : Int).toNat).length) zkB)),(44,(.slice zcJ ((z12.drop (z1s : Int).toNat).length) zcK)),(34,(.slice (some ⟨b0o1_53883,0,none⟩) (([] : List z2).length) 0)),(40,(.slice (some ⟨b6o1_53883,0,none⟩) (([zX] : List z2).length) 1))]) (fun (b0o1_53883 : Nat) (b6o1_53883 : Nat)=>[row (.slice (some ⟨b6o1_53883,0,none⟩) (([zX] : List z2).length) 1) 28 2 (([zX] : List z2).flatMap e28),row (.slice (some ⟨b0o1_53883,0,none⟩) (([] : List z2).length) 0) 28 2 (([] : List z2).flatMap e28),fz [],stb z6d 28 [(.int .i64 zX.fN),(.int .i64 zX.fD)]]) (fun (b0o1_53883 : Nat) (b6o1_53883 : Nat)=>True) (listedA 13 [6,0,10,9,8,5,3,2,1]) ?_ (fun K0o6_53883=>?_)
   ·skip
    rintro b0o1_53883 b6o1_53883 _
    refine WD.old (i:=4) (dd:=38) rfl (by kernel_rfl) rfl rfl rfl rfl (fun _=>(Sin.of (.cons (.there (.there (.there .here))) .nil))) (e_appendF (enc:=e28) (l1:=([] : List z2)) (l2:=z12.take (z1s : Int).toNat) elT_44 rfl rfl (.there .here) (fun _=>rfl) rfl rfl (news_z (hz.pv2 (.there (.there .here))) zoE) (oc_flat e28_oc _) zoD) ?_
    rintro ⟨ao4o1_53883,cap4o2_53883⟩ _
    exact WD.reL (.cons (.there .here) (.cons .here (.cons .here (.cons .here .nil)))) (.cons rfl (.cons rfl (.cons rfl .nil))) (K0o4o6_53883 b0o1_53883 ao4o1_53883 cap4o2_53883 b6o1_53883 trivial)
   refine WD.mids1 (fuel':=5) (fun (b0o1_53883 : Nat)=>[(37,(.slice zkA ((z12.take (z1s : Int).toNat).length) zkB)),(39,(.agg #[(.int .i64 zX.fN),(.int .i64 zX.fD)])),(44,(.slice zcJ ((z12.drop (z1s : Int).toNat).length) zcK)),(34,(.slice (some ⟨b0o1_53883,0,none⟩) (([] : List z2).length) 0))]) (fun (b0o1_53883 : Nat)=>[row (.slice (some ⟨b0o1_53883,0,none⟩) (([] : List z2).length) 0) 28 2 (([] : List z2).flatMap e28),fz [],stb z6d 28 [(.int .i64 zX.fN),(.int .i64 zX.fD)]]) (fun (b0o1_53883 : Nat)=>True) (listedA 13 [0,10,9,8,5,3,2,1]) ?_ (fun K0_53883=>?_)
   ·skip
    rintro b0o1_53883 _
    refine WD.choose [4,6] (by kernel_rfl) rfl ?_
    refine WDo.cons ?_ (WDo.cons ?_ (WDo.nil))
    ·refine WDo.old (i:=4) (dd:=38) rfl rfl rfl rfl rfl (fun _=>(Sin.of (.cons (.there (.there .here)) .nil))) (e_appendF (enc:=e28) (l1:=([] : List z2)) (l2:=z12.take (z1s : Int).toNat) elT_44 rfl rfl .here (fun _=>rfl) rfl rfl (news_z (hz.pv2 (.there .here)) zoE) (oc_flat e28_oc _) zoD) ?_
     rintro ⟨ao4o1_53883,cap4o2_53883⟩ _
     exact WD.reL (.cons .here (.cons .here (.cons .here .nil))) (.cons rfl (.cons rfl (.cons rfl .nil))) (K0o4_53883 b0o1_53883 ao4o1_53883 cap4o2_53883 trivial)
    ·refine WDo.new (i:=6) (dd:=40) rfl rfl rfl rfl (e_buildSlice (cs:=([zX] : List z2).flatMap e28) elT_44 (Eos.parts (l:=[.tmp 39]) (.cons rfl .nil) [0]) (fun _=>by kernel_rfl) rfl (by unfold maxLen; omega)) (fun h'=>absurd h' (by decide)) ?_
     intro b6o1_53883 _
     exact WD.reL (.cons .here (.cons .here (.cons .here (.cons .here .nil)))) (.cons rfl (.cons rfl (.cons rfl (.cons rfl .nil)))) (K0o6_53883 b0o1_53883 b6o1_53883 trivial)
   refine WD.mids1 (fuel':=5) (fun (b6o1_53883 : Nat)=>[(37,(.slice zkA ((z12.take (z1s : Int).toNat).length) zkB)),(44,(.slice zcJ ((z12.drop (z1s : Int).toNat).length) zcK)),(40,(.slice (some ⟨b6o1_53883,0,none⟩) (([zX] : List z2).length) 1))]) (fun (b6o1_53883 : Nat)=>[row (.slice (some ⟨b6o1_53883,0,none⟩) (([zX] : List z2).length) 1) 28 2 (([zX] : List z2).flatMap e28),fz [],stb z6d 28 [(.int .i64 zX.fN),(.int .i64 zX.fD)]]) (fun (b6o1_53883 : Nat)=>True) (listedA 13 [6,10,9,8,5,3,2,1]) ?_ (fun K6_53883=>?_)
   ·skip
    rintro b6o1_53883 _
    refine WD.new (i:=0) (dd:=34) rfl (by kernel_rfl) rfl rfl rfl (e_buildSlice (cs:=([] : List z2).flatMap e28) elT_44 (Eos.parts (l:=[]) .nil []) (fun _=>by kernel_rfl) rfl (by unfold maxLen; omega)) (fun h'=>absurd h' (by decide)) ?_
    intro b0o1_53883 _
    exact WD.reL (.cons (.there .here) (.cons .here (.cons .here (.cons .here .nil)))) (.cons rfl (.cons rfl (.cons rfl (.cons rfl .nil)))) (K0o6_53883 b0o1_53883 b6o1_53883 trivial)
   refine WD.choose [0,6] (by kernel_rfl) rfl ?_
   refine WDo.cons ?_ (WDo.cons ?_ (WDo.nil))
   ·refine WDo.new (i:=0) (dd:=34) rfl rfl rfl rfl (e_buildSlice (cs:=([] : List z2).flatMap e28) elT_44 (Eos.parts (l:=[]) .nil []) (fun _=>by kernel_rfl) rfl (by unfold maxLen; omega)) (fun h'=>absurd h' (by decide)) ?_
    intro b0o1_53883 _
    exact WD.reL (.cons .here (.cons .here (.cons .here .nil))) (.cons rfl (.cons rfl (.cons rfl (.cons rfl .nil)))) (K0_53883 b0o1_53883 trivial)
   ·refine WDo.new (i:=6) (dd:=40) rfl rfl rfl rfl (e_buildSlice (cs:=([zX] : List z2).flatMap e28) elT_44 (Eos.parts (l:=[.tmp 39]) (.cons rfl .nil) [0]) (fun _=>by kernel_rfl) rfl (by unfold maxLen; omega)) (fun h'=>absurd h' (by decide)) ?_
    intro b6o1_53883 _
    exact WD.reL (.cons .here (.cons .here (.cons .here .nil))) (.cons rfl (.cons rfl (.cons rfl .nil))) (K6_53883 b6o1_53883 trivial)
def m_ref02_Breaks_L4 (zW : List z1) (z2y : Int) (z9l : (List z2) → Option (List z2 × Int)) : Nat → (List z2) → Int → Option (List z2 × Int)
 | 0,_,_=>none
 | zkC + 1,z6j,z3e=>if decide (z3e < ((zW.length : Nat) : Int)) then chk ((0 : Int) ≤ z3e ∧ z3e < ((zW.length : Nat) : Int)) (chk ((0 : Int) ≤ z2y ∧ z2y < ((zW.length : Nat) : Int)) ((m_ref01_Do 1 (⟨(((nth zW z3e).fBurst).fN),(((nth zW z3e).fBurst).fD)⟩ : z2) (⟨(((nth zW z2y).fBurst).fN),(((nth zW z2y).fBurst).fD)⟩ : z2)).bind fun z2C=>chk ((0 : Int) ≤ z2y ∧ z2y < ((zW.length : Nat) : Int)) (chk ((0 : Int) ≤ z3e ∧ z3e < ((zW.length : Nat) : Int)) ((m_ref01_Do 1 (⟨(((nth zW z2y).fRate).fN),(((nth zW z2y).fRate).fD)⟩ : z2) (⟨(((nth zW z3e).fRate).fN),(((nth zW z3e).fRate).fD)⟩ : z2)).bind fun z2M=>if (decide (z2C.2 ≠ 0)) || (decide (z2M.2 ≠ 0)) then some ([],3) else (m_ref01_Do 3 z2C.1 z2M.1).bind fun z48=>if decide (z48.2 ≠ 0) then some ([],3) else (m_ref02_Insert z6j z48.1).bind fun zaj=>m_ref02_Breaks_L4 zW z2y z9l zkC zaj (i64 (z3e + 1)))))) else z9l z6j
theorem m_ref02_Breaks_L4_fuel {n : Nat} {zW : List z1} {z2y : Int} {z9l : (List z2) → Option (List z2 × Int)} {z6j : List z2} {z3e : Int} {r : List z2 × Int} (h : m_ref02_Breaks_L4 zW z2y z9l n z6j z3e = some r) : ∃ m,n = m + 1:=by
 cases n with
 | zero=>cases h
 | succ m=>exact ⟨m,rfl⟩
def m_ref02_Breaks_L3 (zW : List z1) (z9m : (List z2) → Option (List z2 × Int)) : Nat → (List z2) → Int → Option (List z2 × Int)
 | 0,_,_=>none
 | zkD + 1,z6C,z2y=>if decide (z2y < ((zW.length : Nat) : Int)) then jp1 (fun (z8e : List z2)=>m_ref02_Breaks_L3 zW z9m zkD z8e (i64 (z2y + 1))) fun zkE=>jp1 (fun (z8f : List z2)=>zkE z8f) fun z9l=>m_ref02_Breaks_L4 zW z2y z9l FUEL z6C (i64 (z2y + 1)) else z9m z6C
theorem m_ref02_Breaks_L3_fuel {n : Nat} {zW : List z1} {z9m : (List z2) → Option (List z2 × Int)} {z6C : List z2} {z2y : Int} {r : List z2 × Int} (h : m_ref02_Breaks_L3 zW z9m n z6C z2y = some r) : ∃ m,n = m + 1:=by
 cases n with
 | zero=>cases h
 | succ m=>exact ⟨m,rfl⟩
def m_ref02_Breaks (z7M : List z1) : Option (List z2 × Int) :=
 (m_ref02_Valid z7M).bind fun zkF=>if !zkF then some ([],2) else (m_ref02_Norm z7M).bind fun zW=>jp1 (fun (z9n : List z2)=>some (z9n,0)) fun z9m=>m_ref02_Breaks_L3 zW z9m FUEL [] 0
set_option maxRecDepth 20000 in
theorem w_ref02_Breaks (Z : Zp)  (zb7 : Option Addr) (zb8 : Nat) (z7M : List z1) (r : List z2 × Int) (w₀ : World) (hz : PZ [] w₀ Z)
  (zoF : ZS Z 4 (fun r x=>r = e42 x) zb7 zb8 z7M)
  (h : m_ref02_Breaks z7M = some r) :
  Calls Try.prog 36 #[(.slice zb7 z7M.length zb8)] w₀ fun e w'=>∃ Zn : Zp,∃ zoG : Option Addr,∃ zoH : Nat,e = .returned (.tuple #[(.slice zoG r.1.length zoH),(.int .i64 r.2)]) ∧ (ZS (Z ++ Zn) 2 (fun r x=>r = e28 x) zoG zoH r.1) ∧ Hp [] w₀ w' [fz Zn]:=by
 unfold m_ref02_Breaks at h
 refine Calls.ofWC (vs:=[(.slice zb7 z7M.length zb8)]) (pre:=[]) (env:=[(0,(.slice zb7 z7M.length zb8))]) Try.func36 rfl Try.ntmps36 rfl (Hp.nil w₀ _) rfl ?_
 refine WC.pool ?_
 refine WC.seq ?_
 refine WC.region ?_
 refine WL.quiet (d:=2) rfl rfl rfl (q_assign rfl) ?_
 refine WL.quiet (d:=3) rfl rfl rfl (q_assign rfl) ?_
 refine WL.nil ?_
 refine WX.then ?_
 refine WC.seq ?_
 refine WC.seq ?_
 obtain ⟨zkF,zvZ,h⟩:=zb h
 refine WC.region ?_
 refine WL.quiet (d:=14) rfl rfl rfl (q_move rfl) ?_
 refine WL.callD (dd:=15) rfl rfl rfl (zg (l:=[.tmp 14]) Try.call27 (.cons rfl .nil)) (.nil : Sel [fz []] [] [fz []]) (fun w hw=>by have pz:=(hz.call2 hw (.nil : Sel [fz []] [] [fz []]) .here); exact w_ref02_Valid (Z:=_) (z5L:=zb7) (z5M:=zb8) (z2n:=z7M) (r:=zkF) w pz (zoF.mono (Zle.left _ _)) zvZ) ?_
 refine WL.quiet (d:=16) rfl rfl rfl (q_not rfl) ?_
 refine WL.nil ?_
 refine WX.then ?_
 refine WC.cond rfl (fun zkG=>?_) (fun zkG=>?_)
 ·replace h:=ite_t h zkG
  refine WC.seq ?_
  refine WC.region ?_
  refine WL.quiet (d:=2) rfl rfl rfl (q_assign rfl) ?_
  refine WL.quiet (d:=3) rfl rfl rfl (q_assign rfl) ?_
  refine WL.nil ?_
  refine WX.then ?_
  refine WC.ret ?_
  refine WX.thenRet ?_
  obtain rfl:=Option.some.inj h
  refine WX.bpRet Try.results36 (.tmp rfl (.tmp rfl .nil)) (fun w hw=>?_)
  exact ⟨[],none,0,ret2 rfl rfl,(ZS.nil _ _ _),hw.sub (.cons .here .nil)⟩
 ·replace h:=ite_f h zkG
  refine WC.skip ?_
  refine WX.then ?_
  refine WC.seq ?_
  obtain ⟨zW,zw0,h⟩:=zb h
  refine WC.region ?_
  refine WL.quiet (d:=17) rfl rfl rfl (q_move rfl) ?_
  refine WL.enter3 (dd:=18) rfl rfl rfl (zg (l:=[.tmp 17]) Try.call28 (.cons rfl .nil)) (.nil : Sel [fz []] [] [fz []]) (fun w hw=>by have pz:=(hz.call2 hw (.nil : Sel [fz []] [] [fz []]) .here); exact w_ref02_Norm (Z:=_) (z4f:=zb7) (z4g:=zb8) (zi:=z7M) (r:=zW) w pz (zoF.mono (Zle.left _ _)) zw0) ?_
  rintro zkH zw1 zw2 _
  refine WL.merge .here (.there .here) ?_
  refine WL.quiet (d:=4) rfl rfl rfl (q_assign rfl) ?_
  refine WL.nil ?_
  refine WX.then ?_
  refine WC.seq ?_
  refine WC.region ?_
  refine WL.quiet (d:=5) rfl rfl rfl (q_assign rfl) ?_
  refine WL.nil ?_
  refine WX.then ?_
  obtain ⟨z9m,zw3,h⟩:=jp1_elim h
  refine WC.seqMid4 (fun (z9n : List z2) (zb9 : Zp) (zcL : Option Addr) (zcM : Nat)=>(z9m z9n = some r) ∧ (Zle (Z ++ ([] ++ zkH)) (Z ++ zb9)) ∧ (ZS (Z ++ zb9) 2 (fun r x=>r = e28 x) zcL zcM z9n)) (fun (z9n : List z2) (zb9 : Zp) (zcL : Option Addr) (zcM : Nat)=>[(5,(.slice zcL z9n.length zcM))]) (fun (z9n : List z2) (zb9 : Zp) (zcL : Option Addr) (zcM : Nat)=>[fz zb9]) ?_ ?_
  ·skip
   refine WC.seq ?_
   refine WC.region ?_
   refine WL.quiet (d:=6) rfl rfl rfl (q_assign rfl) ?_
   refine WL.nil ?_
   refine WX.then ?_
   refine WC.block ?_
   refine WC.loop8 (fun (zcN : Nat) (z6C : List z2) (z2y : Int) (z7k : Zp) (zba : Option Addr) (zbb : Nat) (zak : Option Addr) (zal : Nat)=>(m_ref02_Breaks_L3 zW z9m zcN z6C z2y = some r) ∧ (Zle (Z ++ ([] ++ zkH)) (Z ++ z7k)) ∧ (ZS (Z ++ z7k) 2 (fun r x=>r = e28 x) zak zal z6C)) (fun (zcN : Nat) (z6C : List z2) (z2y : Int) (z7k : Zp) (zba : Option Addr) (zbb : Nat) (zak : Option Addr) (zal : Nat)=>[(4,(.slice zba zW.length zbb)),(5,(.slice zak z6C.length zal)),(6,(.int .i64 z2y))]) (fun (zcN : Nat) (z6C : List z2) (z2y : Int) (z7k : Zp) (zba : Option Addr) (zbb : Nat) (zak : Option Addr) (zal : Nat)=>[fz z7k,row (.slice zba zW.length zbb) 42 4 (zW.flatMap e42)]) (fun (zcN : Nat) (z6C : List z2) (z2y : Int) (z7k : Zp) (zba : Option Addr) (zbb : Nat) (zak : Option Addr) (zal : Nat)=>zcN) ⟨FUEL,[],0,([] ++ zkH),zw1,zw2,none,0⟩ ⟨h,(Zle.refl _),(ZS.nil _ _ _)⟩ (.cons rfl (.cons rfl (.cons rfl .nil))) (.cons .here (.cons .here .nil)) ?_
   rintro zcN z6C z2y z7k zba zbb zak zal ⟨h,zoI,zoJ⟩
   obtain ⟨zkD,rfl⟩:=m_ref02_Breaks_L3_fuel h
   rw [m_ref02_Breaks_L3] at h
   refine WC.seq ?_
   refine WC.seq ?_
   refine WC.region ?_
   refine WL.quiet (d:=19) rfl rfl rfl (q_move rfl) ?_
   refine WL.quiet (d:=20) rfl rfl rfl (q_move rfl) ?_
   refine WL.quiet (d:=21) rfl rfl rfl (q_len Try.underlying25 rfl) ?_
   refine WL.quiet (d:=22) rfl rfl rfl (q_lss rfl rfl) ?_
   refine WL.nil ?_
   refine WX.then ?_
   refine WC.cond rfl (fun zkI=>?_) (fun zkI=>?_)
   ·replace h:=ite_t h zkI
    refine WC.skip ?_
    refine WX.then ?_
    obtain ⟨zkE,zw4,h⟩:=jp1_elim h
    refine WC.seqMid6 (fun (z8e : List z2) (zbc : Zp) (zcO : Option Addr) (zcP : Nat) (zcQ : Option Addr) (zcR : Nat)=>(zkE z8e = some r) ∧ (Zle (Z ++ z7k) (Z ++ zbc)) ∧ (ZS (Z ++ zbc) 2 (fun r x=>r = e28 x) zcQ zcR z8e)) (fun (z8e : List z2) (zbc : Zp) (zcO : Option Addr) (zcP : Nat) (zcQ : Option Addr) (zcR : Nat)=>[(4,(.slice zcO zW.length zcP)),(5,(.slice zcQ z8e.length zcR)),(6,(.int .i64 z2y))]) (fun (z8e : List z2) (zbc : Zp) (zcO : Option Addr) (zcP : Nat) (zcQ : Option Addr) (zcR : Nat)=>[fz zbc,row (.slice zcO zW.length zcP) 42 4 (zW.flatMap e42)]) ?_ ?_
    ·skip
     refine WC.block ?_
     refine WC.seq ?_
     refine WC.region ?_
     refine WL.quiet (d:=25) rfl rfl rfl (q_move rfl) ?_
     refine WL.quiet (d:=26) rfl rfl rfl (q_add rfl rfl rfl) ?_
     refine WL.quiet (d:=7) rfl rfl rfl (q_assign rfl) ?_
     refine WL.nil ?_
     refine WX.then ?_
     obtain ⟨z9l,zw5,h⟩:=jp1_elim h
     refine WC.mid6 (fun (z8f : List z2) (zbd : Zp) (zcS : Option Addr) (zcT : Nat) (zcU : Option Addr) (zcV : Nat)=>(z9l z8f = some r) ∧ (Zle (Z ++ z7k) (Z ++ zbd)) ∧ (ZS (Z ++ zbd) 2 (fun r x=>r = e28 x) zcU zcV z8f)) (fun (z8f : List z2) (zbd : Zp) (zcS : Option Addr) (zcT : Nat) (zcU : Option Addr) (zcV : Nat)=>[(4,(.slice zcS zW.length zcT)),(5,(.slice zcU z8f.length zcV)),(6,(.int .i64 z2y))]) (fun (z8f : List z2) (zbd : Zp) (zcS : Option Addr) (zcT : Nat) (zcU : Option Addr) (zcV : Nat)=>[fz zbd,row (.slice zcS zW.length zcT) 42 4 (zW.flatMap e42)]) ?_ ?_
     ·skip
      refine WC.block ?_
      refine WC.loop8 (fun (zcW : Nat) (z6j : List z2) (z3e : Int) (z4h : Zp) (zbe : Option Addr) (z4M : Nat) (z9o : Option Addr) (z9p : Nat)=>(m_ref02_Breaks_L4 zW z2y z9l zcW z6j z3e = some r) ∧ (Zle (Z ++ z7k) (Z ++ z4h)) ∧ (ZS (Z ++ z4h) 2 (fun r x=>r = e28 x) z9o z9p z6j)) (fun (zcW : Nat) (z6j : List z2) (z3e : Int) (z4h : Zp) (zbe : Option Addr) (z4M : Nat) (z9o : Option Addr) (z9p : Nat)=>[(4,(.slice zbe zW.length z4M)),(5,(.slice z9o z6j.length z9p)),(6,(.int .i64 z2y)),(7,(.int .i64 z3e))]) (fun (zcW : Nat) (z6j : List z2) (z3e : Int) (z4h : Zp) (zbe : Option Addr) (z4M : Nat) (z9o : Option Addr) (z9p : Nat)=>[fz z4h,row (.slice zbe zW.length z4M) 42 4 (zW.flatMap e42)]) (fun (zcW : Nat) (z6j : List z2) (z3e : Int) (z4h : Zp) (zbe : Option Addr) (z4M : Nat) (z9o : Option Addr) (z9p : Nat)=>zcW) ⟨FUEL,z6C,(i64 (z2y + 1)),z7k,zba,zbb,zak,zal⟩ ⟨h,(Zle.refl _),zoJ⟩ (.cons rfl (.cons rfl (.cons rfl (.cons rfl .nil)))) (.cons .here (.cons .here .nil)) ?_
      rintro zcW z6j z3e z4h zbe z4M z9o z9p ⟨h,zoK,zoL⟩
      obtain ⟨zkC,rfl⟩:=m_ref02_Breaks_L4_fuel h
      rw [m_ref02_Breaks_L4] at h
      refine WC.seq ?_
      refine WC.seq ?_
      refine WC.region ?_
      refine WL.quiet (d:=27) rfl rfl rfl (q_move rfl) ?_
      refine WL.quiet (d:=28) rfl rfl rfl (q_move rfl) ?_
      refine WL.quiet (d:=29) rfl rfl rfl (q_len Try.underlying25 rfl) ?_
      refine WL.quiet (d:=30) rfl rfl rfl (q_lss rfl rfl) ?_
      refine WL.nil ?_
      refine WX.then ?_
      refine WC.cond rfl (fun zkJ=>?_) (fun zkJ=>?_)
      ·replace h:=ite_t h zkJ
       refine WC.skip ?_
       refine WX.then ?_
       refine WC.seq ?_
       refine WC.block ?_
       refine WC.seq ?_
       obtain ⟨zeg,h⟩:=chk_elim h
       obtain ⟨zfP,h⟩:=chk_elim h
       obtain ⟨z2C,zw6,h⟩:=zb h
       refine WC.draw (fun i=>[15].contains i) [] rfl ?_
       refine WD.pure (i:=0) (d:=34) (by kernel_rfl) rfl (z6 (by kernel_rfl)) (z7 (by kernel_rfl)) rfl rfl rfl (fun _=>q_move rfl) ?_
       refine WD.pure (i:=1) (d:=35) (by kernel_rfl) rfl (z6 (by kernel_rfl)) (z7 (by kernel_rfl)) rfl rfl rfl (fun _=>q_move rfl) ?_
       refine WD.know (fun w hw=>Hp.expose (.there .here) hw (by intro hz'; have:=zeg; rw [hz'] at this; omega)) ?_
       rintro ⟨z6k,rfl⟩
       refine WD.pure (i:=2) (d:=36) (by kernel_rfl) rfl (z6 (by kernel_rfl)) (z7 (by kernel_rfl)) rfl rfl rfl (fun _=>q_indexAddr elT_25 rfl rfl zeg.1 zeg.2 rowAdd) ?_
       refine WD.pure (i:=3) (d:=37) (by kernel_rfl) rfl (z6 (by kernel_rfl)) (z7 (by kernel_rfl)) rfl rfl rfl (fun _=>q_fieldAddr fo_42_0 rfl (Addr.add_lit _ _ _)) ?_
       refine WD.quiet (i:=4) (d:=38) (by kernel_rfl) rfl (z6 (by kernel_rfl)) (z7 (by kernel_rfl)) rfl rfl rfl (q_loadA (cs:=[(.int .i64 (((nth zW z3e).fBurst).fN)),(.int .i64 (((nth zW z3e).fBurst).fD))]) aggT_28 rfl rfl (rd_rowp (k:=0) (.there .here) (flat_rd (enc:=e42) (l:=zW) (i:=z3e) (sz:=4) (fun _=>rfl) zeg.1 zeg.2) (s:=2) rfl)) ?_
       refine WD.pure (i:=5) (d:=39) (by kernel_rfl) rfl (z6 (by kernel_rfl)) (z7 (by kernel_rfl)) rfl rfl rfl (fun _=>q_move rfl) ?_
       refine WD.pure (i:=6) (d:=40) (by kernel_rfl) rfl (z6 (by kernel_rfl)) (z7 (by kernel_rfl)) rfl rfl rfl (fun _=>q_move rfl) ?_
       refine WD.pure (i:=7) (d:=41) (by kernel_rfl) rfl (z6 (by kernel_rfl)) (z7 (by kernel_rfl)) rfl rfl rfl (fun _=>q_indexAddr elT_25 rfl rfl zfP.1 zfP.2 rowAdd) ?_
       refine WD.pure (i:=8) (d:=42) (by kernel_rfl) rfl (z6 (by kernel_rfl)) (z7 (by kernel_rfl)) rfl rfl rfl (fun _=>q_fieldAddr fo_42_0 rfl (Addr.add_lit _ _ _)) ?_
       refine WD.quiet (i:=9) (d:=43) (by kernel_rfl) rfl (z6 (by kernel_rfl)) (z7 (by kernel_rfl)) rfl rfl rfl (q_loadA (cs:=[(.int .i64 (((nth zW z2y).fBurst).fN)),(.int .i64 (((nth zW z2y).fBurst).fD))]) aggT_28 rfl rfl (rd_rowp (k:=0) (.there .here) (flat_rd (enc:=e42) (l:=zW) (i:=z2y) (sz:=4) (fun _=>rfl) zfP.1 zfP.2) (s:=2) rfl)) ?_
       refine WD.enter (i:=10) (d:=44) (by kernel_rfl) rfl (z6 (by kernel_rfl)) (z7 (by kernel_rfl)) rfl rfl rfl (zg (l:=[.const (.int .i64 1),.tmp 38,.tmp 43]) Try.call59 (.cons rfl (.cons rfl (.cons rfl .nil)))) (fun w hw=>by have pz:=(hz.call2 hw (.nil : Sel [fz z4h,row (.slice (some ⟨z6k,0,none⟩) zW.length z4M) 42 4 (zW.flatMap e42)] [] [fz z4h,row (.slice (some ⟨z6k,0,none⟩) zW.length z4M) 42 4 (zW.flatMap e42)]) .here); exact w_ref01_Do (Z:=_)  (z4J:=1) (zG:=(⟨(((nth zW z3e).fBurst).fN),(((nth zW z3e).fBurst).fD)⟩ : z2)) (zD:=(⟨(((nth zW z2y).fBurst).fN),(((nth zW z2y).fBurst).fD)⟩ : z2)) (r:=z2C) w pz  zw6) ?_
       refine WD.pure (i:=11) (d:=33) (by kernel_rfl) rfl (z6 (by kernel_rfl)) (z7 (by kernel_rfl)) rfl rfl rfl (fun _=>q_move rfl) ?_
       refine WD.pure (i:=12) (d:=45) (by kernel_rfl) rfl (z6 (by kernel_rfl)) (z7 (by kernel_rfl)) rfl rfl rfl (fun _=>q_extract rfl rfl) ?_
       refine WD.pure (i:=13) (d:=46) (by kernel_rfl) rfl (z6 (by kernel_rfl)) (z7 (by kernel_rfl)) rfl rfl rfl (fun _=>q_extract rfl rfl) ?_
       refine WD.new (i:=14) (dd:=8) rfl (by kernel_rfl) rfl rfl rfl (e_alloc (cs:=[(.int .i64 0),(.int .i64 0)]) zeroT_28 rfl) (fun h'=>absurd h' (by decide)) ?_
       intro z7l _
       refine WD.forced0 (i:=15) rfl (by kernel_rfl) rfl rfl rfl (Sin.of .nil) (e_store (vs:=[(.int .i64 z2C.1.fN),(.int .i64 z2C.1.fD)]) (ds:=[(.int .i64 z2C.1.fN),(.int .i64 z2C.1.fD)]) sizT_28 rfl rfl rfl rfl (oc_cons rfl (oc_cons rfl oc_nil)) .here (Nat.le_of_ble_eq_true rfl) rfl) ?_
       refine WD.pure (i:=16) (d:=9) (by kernel_rfl) rfl (z6 (by kernel_rfl)) (z7 (by kernel_rfl)) rfl rfl rfl (fun _=>q_assign rfl) ?_
       refine WD.done (by kernel_rfl) ?_
       refine WX.then ?_
       refine WC.seq ?_
       obtain ⟨zfQ,h⟩:=chk_elim h
       obtain ⟨zfR,h⟩:=chk_elim h
       obtain ⟨z2M,zw7,h⟩:=zb h
       refine WC.draw (fun i=>[15].contains i) [] rfl ?_
       refine WD.pure (i:=0) (d:=48) (by kernel_rfl) rfl (z6 (by kernel_rfl)) (z7 (by kernel_rfl)) rfl rfl rfl (fun _=>q_move rfl) ?_
       refine WD.pure (i:=1) (d:=49) (by kernel_rfl) rfl (z6 (by kernel_rfl)) (z7 (by kernel_rfl)) rfl rfl rfl (fun _=>q_move rfl) ?_
       refine WD.pure (i:=2) (d:=50) (by kernel_rfl) rfl (z6 (by kernel_rfl)) (z7 (by kernel_rfl)) rfl rfl rfl (fun _=>q_indexAddr elT_25 rfl rfl zfQ.1 zfQ.2 rowAdd) ?_
       refine WD.pure (i:=3) (d:=51) (by kernel_rfl) rfl (z6 (by kernel_rfl)) (z7 (by kernel_rfl)) rfl rfl rfl (fun _=>q_fieldAddr fo_42_1 rfl (Addr.add_lit _ _ _)) ?_
       refine WD.quiet (i:=4) (d:=52) (by kernel_rfl) rfl (z6 (by kernel_rfl)) (z7 (by kernel_rfl)) rfl rfl rfl (q_loadA (cs:=[(.int .i64 (((nth zW z2y).fRate).fN)),(.int .i64 (((nth zW z2y).fRate).fD))]) aggT_28 rfl rfl (rd_rowp (k:=2) (.there (.there .here)) (flat_rd (enc:=e42) (l:=zW) (i:=z2y) (sz:=4) (fun _=>rfl) zfQ.1 zfQ.2) (s:=2) rfl)) ?_
       refine WD.pure (i:=5) (d:=53) (by kernel_rfl) rfl (z6 (by kernel_rfl)) (z7 (by kernel_rfl)) rfl rfl rfl (fun _=>q_move rfl) ?_
       refine WD.pure (i:=6) (d:=54) (by kernel_rfl) rfl (z6 (by kernel_rfl)) (z7 (by kernel_rfl)) rfl rfl rfl (fun _=>q_move rfl) ?_
       refine WD.pure (i:=7) (d:=55) (by kernel_rfl) rfl (z6 (by kernel_rfl)) (z7 (by kernel_rfl)) rfl rfl rfl (fun _=>q_indexAddr elT_25 rfl rfl zfR.1 zfR.2 rowAdd) ?_
       refine WD.pure (i:=8) (d:=56) (by kernel_rfl) rfl (z6 (by kernel_rfl)) (z7 (by kernel_rfl)) rfl rfl rfl (fun _=>q_fieldAddr fo_42_1 rfl (Addr.add_lit _ _ _)) ?_
       refine WD.quiet (i:=9) (d:=57) (by kernel_rfl) rfl (z6 (by kernel_rfl)) (z7 (by kernel_rfl)) rfl rfl rfl (q_loadA (cs:=[(.int .i64 (((nth zW z3e).fRate).fN)),(.int .i64 (((nth zW z3e).fRate).fD))]) aggT_28 rfl rfl (rd_rowp (k:=2) (.there (.there .here)) (flat_rd (enc:=e42) (l:=zW) (i:=z3e) (sz:=4) (fun _=>rfl) zfR.1 zfR.2) (s:=2) rfl)) ?_
       refine WD.enter (i:=10) (d:=58) (by kernel_rfl) rfl (z6 (by kernel_rfl)) (z7 (by kernel_rfl)) rfl rfl rfl (zg (l:=[.const (.int .i64 1),.tmp 52,.tmp 57]) Try.call59 (.cons rfl (.cons rfl (.cons rfl .nil)))) (fun w hw=>by have pz:=(hz.call2 hw (.nil : Sel [stb z7l 28 [(.int .i64 z2C.1.fN),(.int .i64 z2C.1.fD)],fz z4h,row (.slice (some ⟨z6k,0,none⟩) zW.length z4M) 42 4 (zW.flatMap e42)] [] [stb z7l 28 [(.int .i64 z2C.1.fN),(.int .i64 z2C.1.fD)],fz z4h,row (.slice (some ⟨z6k,0,none⟩) zW.length z4M) 42 4 (zW.flatMap e42)]) (.there .here)); exact w_ref01_Do (Z:=_)  (z4J:=1) (zG:=(⟨(((nth zW z2y).fRate).fN),(((nth zW z2y).fRate).fD)⟩ : z2)) (zD:=(⟨(((nth zW z3e).fRate).fN),(((nth zW z3e).fRate).fD)⟩ : z2)) (r:=z2M) w pz  zw7) ?_
       refine WD.pure (i:=11) (d:=47) (by kernel_rfl) rfl (z6 (by kernel_rfl)) (z7 (by kernel_rfl)) rfl rfl rfl (fun _=>q_move rfl) ?_
       refine WD.pure (i:=12) (d:=59) (by kernel_rfl) rfl (z6 (by kernel_rfl)) (z7 (by kernel_rfl)) rfl rfl rfl (fun _=>q_extract rfl rfl) ?_
       refine WD.pure (i:=13) (d:=60) (by kernel_rfl) rfl (z6 (by kernel_rfl)) (z7 (by kernel_rfl)) rfl rfl rfl (fun _=>q_extract rfl rfl) ?_
       refine WD.new (i:=14) (dd:=10) rfl (by kernel_rfl) rfl rfl rfl (e_alloc (cs:=[(.int .i64 0),(.int .i64 0)]) zeroT_28 rfl) (fun h'=>absurd h' (by decide)) ?_
       intro z8g _
       refine WD.forced0 (i:=15) rfl (by kernel_rfl) rfl rfl rfl (Sin.of .nil) (e_store (vs:=[(.int .i64 z2M.1.fN),(.int .i64 z2M.1.fD)]) (ds:=[(.int .i64 z2M.1.fN),(.int .i64 z2M.1.fD)]) sizT_28 rfl rfl rfl rfl (oc_cons rfl (oc_cons rfl oc_nil)) .here (Nat.le_of_ble_eq_true rfl) rfl) ?_
       refine WD.pure (i:=16) (d:=11) (by kernel_rfl) rfl (z6 (by kernel_rfl)) (z7 (by kernel_rfl)) rfl rfl rfl (fun _=>q_assign rfl) ?_
       refine WD.done (by kernel_rfl) ?_
       refine WX.then ?_
       refine WC.seq ?_
       refine WC.seq ?_
       refine WC.region ?_
       refine WL.quiet (d:=61) rfl rfl rfl (q_move rfl) ?_
       refine WL.quiet (d:=62) rfl rfl rfl (q_neq rfl rfl) ?_
       refine WL.quiet (d:=63) rfl rfl rfl (q_move rfl) ?_
       refine WL.cut0 True [(4,(.slice (some ⟨z6k,0,none⟩) zW.length z4M)),(5,(.slice z9o z6j.length z9p)),(6,(.int .i64 z2y)),(7,(.int .i64 z3e)),(8,(.pointer (some ⟨z7l,0,none⟩))),(10,(.pointer (some ⟨z8g,0,none⟩))),(66,(.bool ((decide (z2C.2 ≠ 0)) || (decide (z2M.2 ≠ 0)))))] [stb z8g 28 [(.int .i64 z2M.1.fN),(.int .i64 z2M.1.fD)],stb z7l 28 [(.int .i64 z2C.1.fN),(.int .i64 z2C.1.fD)],fz z4h,row (.slice (some ⟨z6k,0,none⟩) zW.length z4M) 42 4 (zW.flatMap e42)] 3 ?_ (fun _=>?_)
       ·rcases Bool.eq_false_or_eq_true (decide (z2C.2 ≠ 0)) with hb' | hb'
        ·have zoM:=hb'; clear hb'
         refine WL.pin (i:=63) rfl zoM ?_
         refine WL.skip rfl rfl rfl ?_
         refine WL.skip rfl rfl rfl ?_
         refine WL.quiet (d:=66) rfl rfl rfl (q_pickT rfl rfl) ?_
         exact WL.cutEnd () trivial (.cons rfl (.cons rfl (.cons rfl (.cons rfl (.cons rfl (.cons rfl (.cons (zl (or_l zoM)) .nil))))))) (.cons .here (.cons .here (.cons .here (.cons .here .nil))))
        ·have zoN:=hb'; clear hb'
         refine WL.pin (i:=63) rfl zoN ?_
         refine WL.quiet (d:=64) rfl rfl rfl (q_move rfl) ?_
         refine WL.quiet (d:=65) rfl rfl rfl (q_neq rfl rfl) ?_
         refine WL.quiet (d:=66) rfl rfl rfl (q_pickF rfl rfl) ?_
         exact WL.cutEnd () trivial (.cons rfl (.cons rfl (.cons rfl (.cons rfl (.cons rfl (.cons rfl (.cons (zl (or_r zoN)) .nil))))))) (.cons .here (.cons .here (.cons .here (.cons .here .nil))))
       ·skip
        refine WL.nil ?_
        refine WX.then ?_
        refine WC.cond rfl (fun zkK=>?_) (fun zkK=>?_)
        ·replace h:=ite_t h zkK
         refine WC.seq ?_
         refine WC.region ?_
         refine WL.quiet (d:=2) rfl rfl rfl (q_assign rfl) ?_
         refine WL.quiet (d:=3) rfl rfl rfl (q_assign rfl) ?_
         refine WL.nil ?_
         refine WX.then ?_
         refine WC.ret ?_
         refine WX.thenRet ?_
         refine WX.blockRet ?_
         refine WX.thenRet ?_
         refine WX.thenRet ?_
         refine WX.blockRet ?_
         refine WX.thenRet ?_
         refine WX.blockRet ?_
         refine WX.thenRet ?_
         refine WX.thenRet ?_
         refine WX.blockRet ?_
         refine WX.thenRet ?_
         obtain rfl:=Option.some.inj h
         refine WX.bpRet Try.results36 (.tmp rfl (.tmp rfl .nil)) (fun w hw=>?_)
         exact ⟨z4h,none,0,ret2 rfl rfl,(ZS.nil _ _ _),hw.sub (.cons (.there (.there .here)) .nil)⟩
        ·replace h:=ite_f h zkK
         refine WC.skip ?_
         refine WX.then ?_
         refine WC.seq ?_
         obtain ⟨z48,zw8,h⟩:=zb h
         refine WC.region ?_
         refine WL.quiet (d:=68) rfl rfl rfl (q_loadA (cs:=[(.int .i64 z2C.1.fN),(.int .i64 z2C.1.fD)]) aggT_28 rfl rfl (rd_all (.there .here))) ?_
         refine WL.quiet (d:=69) rfl rfl rfl (q_loadA (cs:=[(.int .i64 z2M.1.fN),(.int .i64 z2M.1.fD)]) aggT_28 rfl rfl (rd_all .here)) ?_
         refine WL.callD (dd:=70) rfl rfl rfl (zg (l:=[.const (.int .i64 3),.tmp 68,.tmp 69]) Try.call59 (.cons rfl (.cons rfl (.cons rfl .nil)))) (.nil : Sel [stb z8g 28 [(.int .i64 z2M.1.fN),(.int .i64 z2M.1.fD)],stb z7l 28 [(.int .i64 z2C.1.fN),(.int .i64 z2C.1.fD)],fz z4h,row (.slice (some ⟨z6k,0,none⟩) zW.length z4M) 42 4 (zW.flatMap e42)] [] [stb z8g 28 [(.int .i64 z2M.1.fN),(.int .i64 z2M.1.fD)],stb z7l 28 [(.int .i64 z2C.1.fN),(.int .i64 z2C.1.fD)],fz z4h,row (.slice (some ⟨z6k,0,none⟩) zW.length z4M) 42 4 (zW.flatMap e42)]) (fun w hw=>by have pz:=(hz.call2 hw (.nil : Sel [stb z8g 28 [(.int .i64 z2M.1.fN),(.int .i64 z2M.1.fD)],stb z7l 28 [(.int .i64 z2C.1.fN),(.int .i64 z2C.1.fD)],fz z4h,row (.slice (some ⟨z6k,0,none⟩) zW.length z4M) 42 4 (zW.flatMap e42)] [] [stb z8g 28 [(.int .i64 z2M.1.fN),(.int .i64 z2M.1.fD)],stb z7l 28 [(.int .i64 z2C.1.fN),(.int .i64 z2C.1.fD)],fz z4h,row (.slice (some ⟨z6k,0,none⟩) zW.length z4M) 42 4 (zW.flatMap e42)]) (.there (.there .here))); exact w_ref01_Do (Z:=_)  (z4J:=3) (zG:=z2C.1) (zD:=z2M.1) (r:=z48) w pz  zw8) ?_
         refine WL.quiet (d:=67) rfl rfl rfl (q_move rfl) ?_
         refine WL.quiet (d:=71) rfl rfl rfl (q_extract rfl rfl) ?_
         refine WL.quiet (d:=72) rfl rfl rfl (q_extract rfl rfl) ?_
         refine WL.new (dd:=12) rfl rfl rfl (e_alloc (cs:=[(.int .i64 0),(.int .i64 0)]) zeroT_28 rfl) ?_
         intro zfS _
         refine WL.eff0 rfl rfl (e_store (vs:=[(.int .i64 z48.1.fN),(.int .i64 z48.1.fD)]) (ds:=[(.int .i64 z48.1.fN),(.int .i64 z48.1.fD)]) sizT_28 rfl rfl rfl rfl (oc_cons rfl (oc_cons rfl oc_nil)) .here (Nat.le_of_ble_eq_true rfl) rfl) ?_
         refine WL.quiet (d:=13) rfl rfl rfl (q_assign rfl) ?_
         refine WL.nil ?_
         refine WX.then ?_
         refine WC.seq ?_
         refine WC.seq ?_
         refine WC.region ?_
         refine WL.quiet (d:=73) rfl rfl rfl (q_move rfl) ?_
         refine WL.quiet (d:=74) rfl rfl rfl (q_neq rfl rfl) ?_
         refine WL.nil ?_
         refine WX.then ?_
         refine WC.cond rfl (fun zkL=>?_) (fun zkL=>?_)
         ·replace h:=ite_t h zkL
          refine WC.seq ?_
          refine WC.region ?_
          refine WL.quiet (d:=2) rfl rfl rfl (q_assign rfl) ?_
          refine WL.quiet (d:=3) rfl rfl rfl (q_assign rfl) ?_
          refine WL.nil ?_
          refine WX.then ?_
          refine WC.ret ?_
          refine WX.thenRet ?_
          refine WX.blockRet ?_
          refine WX.thenRet ?_
          refine WX.thenRet ?_
          refine WX.blockRet ?_
          refine WX.thenRet ?_
          refine WX.blockRet ?_
          refine WX.thenRet ?_
          refine WX.thenRet ?_
          refine WX.blockRet ?_
          refine WX.thenRet ?_
          obtain rfl:=Option.some.inj h
          refine WX.bpRet Try.results36 (.tmp rfl (.tmp rfl .nil)) (fun w hw=>?_)
          exact ⟨z4h,none,0,ret2 rfl rfl,(ZS.nil _ _ _),hw.sub (.cons (.there (.there (.there .here))) .nil)⟩
         ·replace h:=ite_f h zkL
          refine WC.skip ?_
          refine WX.then ?_
          obtain ⟨zaj,zw9,h⟩:=zb h
          refine WC.region ?_
          refine WL.quiet (d:=75) rfl rfl rfl (q_move rfl) ?_
          refine WL.quiet (d:=76) rfl rfl rfl (q_loadA (cs:=[(.int .i64 z48.1.fN),(.int .i64 z48.1.fD)]) aggT_28 rfl rfl (rd_all .here)) ?_
          refine WL.enter3 (dd:=77) rfl rfl rfl (zg (l:=[.tmp 75,.tmp 76]) Try.call61 (.cons rfl (.cons rfl .nil))) (.nil : Sel [stb zfS 28 [(.int .i64 z48.1.fN),(.int .i64 z48.1.fD)],stb z8g 28 [(.int .i64 z2M.1.fN),(.int .i64 z2M.1.fD)],stb z7l 28 [(.int .i64 z2C.1.fN),(.int .i64 z2C.1.fD)],fz z4h,row (.slice (some ⟨z6k,0,none⟩) zW.length z4M) 42 4 (zW.flatMap e42)] [] [stb zfS 28 [(.int .i64 z48.1.fN),(.int .i64 z48.1.fD)],stb z8g 28 [(.int .i64 z2M.1.fN),(.int .i64 z2M.1.fD)],stb z7l 28 [(.int .i64 z2C.1.fN),(.int .i64 z2C.1.fD)],fz z4h,row (.slice (some ⟨z6k,0,none⟩) zW.length z4M) 42 4 (zW.flatMap e42)]) (fun w hw=>by have pz:=(hz.call2 hw (.nil : Sel [stb zfS 28 [(.int .i64 z48.1.fN),(.int .i64 z48.1.fD)],stb z8g 28 [(.int .i64 z2M.1.fN),(.int .i64 z2M.1.fD)],stb z7l 28 [(.int .i64 z2C.1.fN),(.int .i64 z2C.1.fD)],fz z4h,row (.slice (some ⟨z6k,0,none⟩) zW.length z4M) 42 4 (zW.flatMap e42)] [] [stb zfS 28 [(.int .i64 z48.1.fN),(.int .i64 z48.1.fD)],stb z8g 28 [(.int .i64 z2M.1.fN),(.int .i64 z2M.1.fD)],stb z7l 28 [(.int .i64 z2C.1.fN),(.int .i64 z2C.1.fD)],fz z4h,row (.slice (some ⟨z6k,0,none⟩) zW.length z4M) 42 4 (zW.flatMap e42)]) (.there (.there (.there .here)))); exact w_ref02_Insert (Z:=_) (z8c:=z9o) (z8d:=z9p) (z12:=z6j) (zX:=z48.1) (r:=zaj) w pz zoL zw9) ?_
          rintro zwa zwb zwc zwd
          refine WL.merge .here (.there (.there (.there .here))) ?_
          refine WL.quiet (d:=5) rfl rfl rfl (q_assign rfl) ?_
          refine WL.nil ?_
          refine WX.blockNormal ?_
          refine WX.then ?_
          refine WC.region ?_
          refine WL.quiet (d:=31) rfl rfl rfl (q_move rfl) ?_
          refine WL.quiet (d:=32) rfl rfl rfl (q_add rfl rfl rfl) ?_
          refine WL.quiet (d:=7) rfl rfl rfl (q_assign rfl) ?_
          refine WL.nil ?_
          exact WX.round (G:=Nat × List z2 × Int × Zp × Option Addr × Nat × Option Addr × Nat) ⟨zkC,zaj,(i64 (z3e + 1)),(z4h ++ zwa),(some ⟨z6k,0,none⟩),z4M,zwb,zwc⟩ ⟨h,(zoK.trans ((Zle.left _ _).trans (Zle.assoc _ _ _))),(zwd.mono (Zle.assoc _ _ _))⟩ (Nat.lt_succ_self _) (.cons rfl (.cons rfl (.cons rfl (.cons rfl .nil)))) (.cons .here (.cons (.there (.there (.there .here))) .nil))
      ·replace h:=ite_f h zkJ
       refine WC.exit ?_
       refine WX.thenExit ?_
       refine WX.thenExit ?_
       refine WX.blockHit ?_
       exact WX.mid (G:=List z2 × Zp × Option Addr × Nat × Option Addr × Nat) ⟨z6j,z4h,zbe,z4M,z9o,z9p⟩ ⟨h,zoK,zoL⟩ (.cons rfl (.cons rfl (.cons rfl .nil))) (.cons .here (.cons .here .nil))
     ·rintro z8f zbd zcS zcT zcU zcV ⟨h,zwe,zwf⟩
      replace h:=(zw5 z8f).symm.trans h
      refine WX.blockNormal ?_
      exact WX.mid (G:=List z2 × Zp × Option Addr × Nat × Option Addr × Nat) ⟨z8f,zbd,zcS,zcT,zcU,zcV⟩ ⟨h,zwe,zwf⟩ (.cons rfl (.cons rfl (.cons rfl .nil))) (.cons .here (.cons .here .nil))
    ·rintro z8e zbc zcO zcP zcQ zcR ⟨h,zwg,zwh⟩
     replace h:=(zw4 z8e).symm.trans h
     refine WC.region ?_
     refine WL.quiet (d:=23) rfl rfl rfl (q_move rfl) ?_
     refine WL.quiet (d:=24) rfl rfl rfl (q_add rfl rfl rfl) ?_
     refine WL.quiet (d:=6) rfl rfl rfl (q_assign rfl) ?_
     refine WL.nil ?_
     exact WX.round (G:=Nat × List z2 × Int × Zp × Option Addr × Nat × Option Addr × Nat) ⟨zkD,z8e,(i64 (z2y + 1)),zbc,zcO,zcP,zcQ,zcR⟩ ⟨h,(zoI.trans zwg),zwh⟩ (Nat.lt_succ_self _) (.cons rfl (.cons rfl (.cons rfl .nil))) (.cons .here (.cons .here .nil))
   ·replace h:=ite_f h zkI
    refine WC.exit ?_
    refine WX.thenExit ?_
    refine WX.thenExit ?_
    refine WX.blockHit ?_
    exact WX.mid (G:=List z2 × Zp × Option Addr × Nat) ⟨z6C,z7k,zak,zal⟩ ⟨h,zoI,zoJ⟩ (.cons rfl .nil) (.cons .here .nil)
  ·rintro z9n zb9 zcL zcM ⟨h,zzf,zwi⟩
   replace h:=(zw3 z9n).symm.trans h
   refine WC.seq ?_
   refine WC.region ?_
   refine WL.quiet (d:=78) rfl rfl rfl (q_move rfl) ?_
   refine WL.quiet (d:=2) rfl rfl rfl (q_assign rfl) ?_
   refine WL.quiet (d:=3) rfl rfl rfl (q_assign rfl) ?_
   refine WL.nil ?_
   refine WX.then ?_
   refine WC.ret ?_
   obtain rfl:=Option.some.inj h
   refine WX.bpRet Try.results36 (.tmp rfl (.tmp rfl .nil)) (fun w hw=>?_)
   exact ⟨zb9,zcL,zcM,ret2 rfl rfl,zwi,hw.sub (.cons .here .nil)⟩
end Go.Proofs.Ytbihfglmcjkdhaa

/- A part of this claim's proof: models of functions, walks, plain laws. No conditions. -/
import Derived.Test.YtakfmdiiehcbdaaW03g
namespace Go.Proofs.Ytakfmdiiehcbdaa
open Go Go.RowKit Sep
set_option linter.all false
set_option maxRecDepth 30000
set_option maxHeartbeats 4000000
def m_law03_CalculusFifo_L3 (zs : List Sapi_Sent) (z1b : List Int × Int) (z2c : Int) (z32 : Int) (za7 : Option Bool) : Nat → Int → Option Bool
 | 0,_=>none
 | zlS + 1,zr=>if decide (zr < ((zs.length : Nat) : Int)) then chk ((0 : Int) ≤ zr ∧ zr < ((zs.length : Nat) : Int)) (chk ((0 : Int) ≤ zr ∧ zr < ((z1b.1.length : Nat) : Int)) (chk ((decide ((i64 ((nth z1b.1 zr) - (i64 (((nth zs zr).fSize) * (i64 (1 + (Int.tmod (i64 z2c) 16))))))) < (i64 (((nth zs zr).fTime) + (i64 z32))))) = false → ((decide (zr > 0)) = true → ((0 : Int) ≤ (i64 (zr - 1)) ∧ (i64 (zr - 1)) < ((z1b.1.length : Nat) : Int)))) (chk (((decide ((i64 ((nth z1b.1 zr) - (i64 (((nth zs zr).fSize) * (i64 (1 + (Int.tmod (i64 z2c) 16))))))) < (i64 (((nth zs zr).fTime) + (i64 z32))))) || ((decide (zr > 0)) && (decide ((i64 ((nth z1b.1 zr) - (i64 (((nth zs zr).fSize) * (i64 (1 + (Int.tmod (i64 z2c) 16))))))) < (nth z1b.1 (i64 (zr - 1))))))) = false → ((decide ((i64 ((nth z1b.1 zr) - (i64 (((nth zs zr).fSize) * (i64 (1 + (Int.tmod (i64 z2c) 16))))))) > (i64 (((nth zs zr).fTime) + (i64 z32))))) = true → ((decide (zr = 0)) = false → ((0 : Int) ≤ (i64 (zr - 1)) ∧ (i64 (zr - 1)) < ((z1b.1.length : Nat) : Int))))) (if ((decide ((i64 ((nth z1b.1 zr) - (i64 (((nth zs zr).fSize) * (i64 (1 + (Int.tmod (i64 z2c) 16))))))) < (i64 (((nth zs zr).fTime) + (i64 z32))))) || ((decide (zr > 0)) && (decide ((i64 ((nth z1b.1 zr) - (i64 (((nth zs zr).fSize) * (i64 (1 + (Int.tmod (i64 z2c) 16))))))) < (nth z1b.1 (i64 (zr - 1))))))) || ((decide ((i64 ((nth z1b.1 zr) - (i64 (((nth zs zr).fSize) * (i64 (1 + (Int.tmod (i64 z2c) 16))))))) > (i64 (((nth zs zr).fTime) + (i64 z32))))) && ((decide (zr = 0)) || (decide ((i64 ((nth z1b.1 zr) - (i64 (((nth zs zr).fSize) * (i64 (1 + (Int.tmod (i64 z2c) 16))))))) ≠ (nth z1b.1 (i64 (zr - 1))))))) then some false else m_law03_CalculusFifo_L3 zs z1b z2c z32 za7 zlS (i64 (zr + 1)))))) else za7
theorem m_law03_CalculusFifo_L3_fuel {n : Nat} {zs : List Sapi_Sent} {z1b : List Int × Int} {z2c : Int} {z32 : Int} {za7 : Option Bool} {zr : Int} {r : Bool} (h : m_law03_CalculusFifo_L3 zs z1b z2c z32 za7 n zr = some r) : ∃ m,n = m + 1:=by
 cases n with
 | zero=>cases h
 | succ m=>exact ⟨m,rfl⟩
def m_law03_CalculusFifo (za8 : List Int) (za9 : List Int) (z2c : Int) (z32 : Int) : Option Bool :=
 (m_law03_Flow za8 za9 0 0).bind fun zs=>(m_calculus_Serve zs (i64 (1 + (Int.tmod (i64 z2c) 16))) (i64 z32)).bind fun z1b=>if (decide (z1b.2 ≠ 0)) || (decide (((z1b.1.length : Nat) : Int) ≠ ((zs.length : Nat) : Int))) then some false else jp0 ((m_law03_awake).bind fun zlT=>some zlT) fun za7=>m_law03_CalculusFifo_L3 zs z1b z2c z32 za7 FUEL 0
set_option maxRecDepth 20000 in
theorem w_law03_CalculusFifo (Z : Zp)  (zdF : Option Addr) (zdG : Nat) (zdH : Option Addr) (zdI : Nat) (za8 : List Int) (za9 : List Int) (z2c : Int) (z32 : Int) (r : Bool) (w₀ : World) (hz : PZ [] w₀ Z)
  (zwJ : ZS Z 1 (fun r x=>r = e5 x) zdF zdG za8)
  (zwK : ZS Z 1 (fun r x=>r = e5 x) zdH zdI za9)
  (h : m_law03_CalculusFifo za8 za9 z2c z32 = some r) :
  Calls Try.prog 6 #[(.slice zdF za8.length zdG),(.slice zdH za9.length zdI),(.int .u8 z2c),(.int .u8 z32)] w₀ fun e w'=>∃ Zn : Zp,e = .returned (.bool r) ∧ True ∧ Hp [] w₀ w' [fz Zn]:=by
 unfold m_law03_CalculusFifo at h
 refine Calls.ofWC (vs:=[(.slice zdF za8.length zdG),(.slice zdH za9.length zdI),(.int .u8 z2c),(.int .u8 z32)]) (pre:=[]) (env:=[(0,(.slice zdF za8.length zdG)),(1,(.slice zdH za9.length zdI)),(2,(.int .u8 z2c)),(3,(.int .u8 z32))]) Try.func6 rfl Try.ntmps6 rfl (Hp.nil w₀ _) rfl ?_
 refine WC.pool ?_
 refine WC.seq ?_
 refine WC.region ?_
 refine WL.quiet (d:=8) rfl rfl rfl (q_assign rfl) ?_
 refine WL.nil ?_
 refine WX.then ?_
 refine WC.seq ?_
 obtain ⟨zs,zwL,h⟩:=ze h
 refine WC.region ?_
 refine WL.quiet (d:=17) rfl rfl rfl (q_move rfl) ?_
 refine WL.quiet (d:=18) rfl rfl rfl (q_move rfl) ?_
 refine WL.enter2 (dd:=19) rfl rfl rfl (zn (l:=[.tmp 17,.tmp 18,.const (.int .i64 0),.const (.int .i64 0)]) Try.call8 (.cons rfl (.cons rfl (.cons rfl (.cons rfl .nil))))) (.nil : Sel [fz []] [] [fz []]) (fun w hw=>by have pz:=(hz.call2 hw (.nil : Sel [fz []] [] [fz []]) .here); exact w_law03_Flow (Z:=_) (ao_12:=zdF) (cap_13:=zdG) (ao_16:=zdH) (cap_17:=zdI) (sizes_11:=za8) (waits_15:=za9) (vl_19:=0) (gap_20:=0) (r:=zs) w pz (zwJ.mono (Zle.left _ _)) (zwK.mono (Zle.left _ _)) zwL) ?_
 rintro z6x z6y _
 refine WL.quiet (d:=9) rfl rfl rfl (q_assign rfl) ?_
 refine WL.nil ?_
 refine WX.then ?_
 refine WC.seq ?_
 refine WC.region ?_
 refine WL.quiet (d:=20) rfl rfl rfl (q_move rfl) ?_
 refine WL.quiet (d:=21) rfl rfl rfl (q_conv Try.underlying5 Try.underlying3 rfl rfl) ?_
 refine WL.quiet (d:=22) rfl rfl rfl (q_rem rfl rfl (by decide) rfl) ?_
 refine WL.quiet (d:=23) rfl rfl rfl (q_add rfl rfl rfl) ?_
 refine WL.quiet (d:=24) rfl rfl rfl (q_move rfl) ?_
 refine WL.quiet (d:=25) rfl rfl rfl (q_conv Try.underlying5 Try.underlying3 rfl rfl) ?_
 refine WL.quiet (d:=10) rfl rfl rfl (q_assign rfl) ?_
 refine WL.quiet (d:=11) rfl rfl rfl (q_assign rfl) ?_
 refine WL.nil ?_
 refine WX.then ?_
 refine WC.seq ?_
 obtain ⟨z1b,zwM,h⟩:=ze h
 refine WC.region ?_
 refine WL.quiet (d:=27) rfl rfl rfl (q_move rfl) ?_
 refine WL.quiet (d:=28) rfl rfl rfl (q_move rfl) ?_
 refine WL.quiet (d:=29) rfl rfl rfl (q_move rfl) ?_
 refine WL.enter2 (dd:=30) rfl rfl rfl (zn (l:=[.tmp 27,.tmp 28,.tmp 29]) Try.call14 (.cons rfl (.cons rfl (.cons rfl .nil)))) (.nil : Sel [row (.slice z6x zs.length z6y) 51 3 (zs.flatMap e51),fz []] [] [row (.slice z6x zs.length z6y) 51 3 (zs.flatMap e51),fz []]) (fun w hw=>by have pz:=(hz.call2 hw (.nil : Sel [row (.slice z6x zs.length z6y) 51 3 (zs.flatMap e51),fz []] [] [row (.slice z6x zs.length z6y) 51 3 (zs.flatMap e51),fz []]) (.there .here)).lend hw (.nil : Sel [row (.slice z6x zs.length z6y) 51 3 (zs.flatMap e51),fz []] [] [row (.slice z6x zs.length z6y) 51 3 (zs.flatMap e51),fz []]) (B:=[row (.slice z6x zs.length z6y) 51 3 (zs.flatMap e51)]) (fun _ hx'=>((.cons .here .nil) : Sel _ [row (.slice z6x zs.length z6y) 51 3 (zs.flatMap e51)] _).mem hx'); exact w_calculus_Serve (Z:=_) (z7u:=z6x) (z7v:=z6y) (z20:=zs) (z2A:=(i64 (1 + (Int.tmod (i64 z2c) 16)))) (z33:=(i64 z32)) (r:=z1b) w pz (ZA.row (hw.lent (.nil : Sel [row (.slice z6x zs.length z6y) 51 3 (zs.flatMap e51),fz []] [] [row (.slice z6x zs.length z6y) 51 3 (zs.flatMap e51),fz []]) (B:=[row (.slice z6x zs.length z6y) 51 3 (zs.flatMap e51)]) (fun _ hx'=>((.cons .here .nil) : Sel _ [row (.slice z6x zs.length z6y) 51 3 (zs.flatMap e51)] _).mem hx') (.head _) _) (RR.flat (enc:=e51) (fun _=>rfl) _) ⟨w,pz.1⟩) zwM) ?_
 rintro zlU zlV _
 refine WL.quiet (d:=26) rfl rfl rfl (q_move rfl) ?_
 refine WL.quiet (d:=31) rfl rfl rfl (q_extract rfl rfl) ?_
 refine WL.quiet (d:=32) rfl rfl rfl (q_extract rfl rfl) ?_
 refine WL.quiet (d:=12) rfl rfl rfl (q_assign rfl) ?_
 refine WL.quiet (d:=13) rfl rfl rfl (q_assign rfl) ?_
 refine WL.nil ?_
 refine WX.then ?_
 refine WC.seq ?_
 refine WC.seq ?_
 refine WC.region ?_
 refine WL.quiet (d:=33) rfl rfl rfl (q_move rfl) ?_
 refine WL.quiet (d:=34) rfl rfl rfl (q_neq rfl rfl) ?_
 refine WL.quiet (d:=35) rfl rfl rfl (q_move rfl) ?_
 refine WL.cut0 True [(9,(.slice z6x zs.length z6y)),(10,(.int .i64 (i64 (1 + (Int.tmod (i64 z2c) 16))))),(11,(.int .i64 (i64 z32))),(12,(.slice zlU z1b.1.length zlV)),(41,(.bool ((decide (z1b.2 ≠ 0)) || (decide (((z1b.1.length : Nat) : Int) ≠ ((zs.length : Nat) : Int))))))] [row (.slice zlU z1b.1.length zlV) 3 1 (z1b.1.flatMap e3),row (.slice z6x zs.length z6y) 51 3 (zs.flatMap e51),fz []] 6 ?_ (fun _=>?_)
 ·rcases Bool.eq_false_or_eq_true (decide (z1b.2 ≠ 0)) with hb' | hb'
  ·have zpu:=hb'; clear hb'
   refine WL.pin (i:=35) rfl zpu ?_
   refine WL.skip rfl rfl rfl ?_
   refine WL.skip rfl rfl rfl ?_
   refine WL.skip rfl rfl rfl ?_
   refine WL.skip rfl rfl rfl ?_
   refine WL.skip rfl rfl rfl ?_
   refine WL.quiet (d:=41) rfl rfl rfl (q_pickT rfl rfl) ?_
   exact WL.cutEnd () trivial (.cons rfl (.cons rfl (.cons rfl (.cons rfl (.cons (zp (or_l zpu)) .nil))))) (.cons .here (.cons .here (.cons .here .nil)))
  ·have zpv:=hb'; clear hb'
   refine WL.pin (i:=35) rfl zpv ?_
   refine WL.quiet (d:=36) rfl rfl rfl (q_move rfl) ?_
   refine WL.quiet (d:=37) rfl rfl rfl (q_len Try.underlying45 rfl) ?_
   refine WL.quiet (d:=38) rfl rfl rfl (q_move rfl) ?_
   refine WL.quiet (d:=39) rfl rfl rfl (q_len Try.underlying24 rfl) ?_
   refine WL.quiet (d:=40) rfl rfl rfl (q_neq rfl rfl) ?_
   refine WL.quiet (d:=41) rfl rfl rfl (q_pickF rfl rfl) ?_
   exact WL.cutEnd () trivial (.cons rfl (.cons rfl (.cons rfl (.cons rfl (.cons (zp (or_r zpv)) .nil))))) (.cons .here (.cons .here (.cons .here .nil)))
 ·skip
  refine WL.nil ?_
  refine WX.then ?_
  refine WC.cond rfl (fun zlW=>?_) (fun zlW=>?_)
  ·replace h:=ite_t h zlW
   refine WC.seq ?_
   refine WC.region ?_
   refine WL.quiet (d:=8) rfl rfl rfl (q_assign rfl) ?_
   refine WL.nil ?_
   refine WX.then ?_
   refine WC.ret ?_
   refine WX.thenRet ?_
   obtain rfl:=Option.some.inj h
   refine WX.bpRet Try.results6 (.tmp rfl .nil) (fun w hw=>?_)
   exact ⟨[],ret1 rfl,trivial,hw.sub (.cons (.there (.there .here)) .nil)⟩
  ·replace h:=ite_f h zlW
   refine WC.skip ?_
   refine WX.then ?_
   obtain ⟨za7,zwN,h⟩:=jp0_elim h
   refine WC.seqMid0 ((za7 = some r)) ([]) ([fz []]) ?_ ?_
   ·skip
    refine WC.seq ?_
    refine WC.region ?_
    refine WL.quiet (d:=42) rfl rfl rfl (q_move rfl) ?_
    refine WL.quiet (d:=43) rfl rfl rfl (q_len Try.underlying24 rfl) ?_
    refine WL.quiet (d:=44) rfl rfl rfl (q_move rfl) ?_
    refine WL.nil ?_
    refine WX.then ?_
    refine WC.block ?_
    refine WC.loop6 (fun (zdJ : Nat) (zr : Int) (zdK : Option Addr) (z6e : Nat) (zdL : Option Addr) (z6f : Nat)=>(m_law03_CalculusFifo_L3 zs z1b z2c z32 za7 zdJ zr = some r)) (fun (zdJ : Nat) (zr : Int) (zdK : Option Addr) (z6e : Nat) (zdL : Option Addr) (z6f : Nat)=>[(10,(.int .i64 (i64 (1 + (Int.tmod (i64 z2c) 16))))),(11,(.int .i64 (i64 z32))),(12,(.slice zdK z1b.1.length z6e)),(42,(.slice zdL zs.length z6f)),(43,(.int .i64 ((zs.length : Nat) : Int))),(44,(.int .i64 zr))]) (fun (zdJ : Nat) (zr : Int) (zdK : Option Addr) (z6e : Nat) (zdL : Option Addr) (z6f : Nat)=>[fz [],row (.slice zdK z1b.1.length z6e) 3 1 (z1b.1.flatMap e3),row (.slice zdL zs.length z6f) 51 3 (zs.flatMap e51)]) (fun (zdJ : Nat) (zr : Int) (zdK : Option Addr) (z6e : Nat) (zdL : Option Addr) (z6f : Nat)=>zdJ) ⟨FUEL,0,zlU,zlV,z6x,z6y⟩ h (.cons rfl (.cons rfl (.cons rfl (.cons rfl (.cons rfl (.cons rfl .nil)))))) (.cons (.there (.there .here)) (.cons .here (.cons .here .nil))) ?_
    rintro zdJ zr zdK z6e zdL z6f h
    obtain ⟨zlS,rfl⟩:=m_law03_CalculusFifo_L3_fuel h
    rw [m_law03_CalculusFifo_L3] at h
    refine WC.seq ?_
    refine WC.region ?_
    refine WL.quiet (d:=45) rfl rfl rfl (q_lss rfl rfl) ?_
    refine WL.nil ?_
    refine WX.then ?_
    refine WC.seq ?_
    refine WC.cond rfl (fun zlX=>?_) (fun zlX=>?_)
    ·replace h:=ite_t h zlX
     refine WC.skip ?_
     refine WX.then ?_
     refine WC.seq ?_
     refine WC.block ?_
     refine WC.seq ?_
     obtain ⟨zfn,h⟩:=chk_elim h
     refine WC.region ?_
     refine WL.quiet (d:=46) rfl rfl rfl (q_move rfl) ?_
     refine WL.know (fun w hw=>Hp.expose (.there (.there .here)) hw (by intro hz'; have:=zfn; rw [hz'] at this; omega)) ?_
     rintro ⟨z8p,rfl⟩
     refine WL.quiet (d:=47) rfl rfl rfl (q_indexAddr elT_24 rfl rfl zfn.1 zfn.2 rowAdd) ?_
     refine WL.quiet (d:=48) rfl rfl rfl (q_loadA (cs:=(e51 (nth zs zr))) aggT_51 rfl rfl (rd_rows (.there (.there .here)) (flat_rd (enc:=e51) (l:=zs) (i:=zr) (sz:=3) (fun _=>rfl) zfn.1 zfn.2))) ?_
     refine WL.new (dd:=15) rfl rfl rfl (e_alloc (cs:=[(.int .i64 0),(.int .i64 0),(.int .i64 0)]) zeroT_51 rfl) ?_
     intro zce _
     refine WL.quiet (d:=14) rfl rfl rfl (q_assign rfl) ?_
     refine WL.eff0 rfl rfl (e_store (vs:=[(.int .i64 ((nth zs zr).fTime)),(.int .i64 ((nth zs zr).fVL)),(.int .i64 ((nth zs zr).fSize))]) (ds:=[(.int .i64 ((nth zs zr).fTime)),(.int .i64 ((nth zs zr).fVL)),(.int .i64 ((nth zs zr).fSize))]) sizT_51 rfl rfl rfl rfl (oc_cons rfl (oc_cons rfl (oc_cons rfl oc_nil))) .here (Nat.le_of_ble_eq_true rfl) rfl) ?_
     refine WL.nil ?_
     refine WX.then ?_
     refine WC.seq ?_
     obtain ⟨zfo,h⟩:=chk_elim h
     refine WC.draw (fun i=>[].contains i) [] rfl ?_
     refine WD.pure (i:=0) (d:=49) (by kernel_rfl) rfl (z6 (by kernel_rfl)) (z7 (by kernel_rfl)) rfl rfl rfl (fun _=>q_move rfl) ?_
     refine WD.pure (i:=1) (d:=50) (by kernel_rfl) rfl (z6 (by kernel_rfl)) (z7 (by kernel_rfl)) rfl rfl rfl (fun _=>q_move rfl) ?_
     refine WD.know (fun w hw=>Hp.expose (.there (.there .here)) hw (by intro hz'; have:=zfo; rw [hz'] at this; omega)) ?_
     rintro ⟨z8q,rfl⟩
     refine WD.pure (i:=2) (d:=51) (by kernel_rfl) rfl (z6 (by kernel_rfl)) (z7 (by kernel_rfl)) rfl rfl rfl (fun _=>q_indexAddr elT_45 rfl rfl zfo.1 zfo.2 rowAdd) ?_
     refine WD.quiet (i:=3) (d:=52) (by kernel_rfl) rfl (z6 (by kernel_rfl)) (z7 (by kernel_rfl)) rfl rfl rfl (q_load1 oneT_3 rfl (rd_row (.there (.there .here)) ((flat_rd (enc:=e3) (l:=z1b.1) (i:=zr) (sz:=1) (fun _=>rfl) zfo.1 zfo.2) 0 _ rfl))) ?_
     refine WD.pure (i:=4) (d:=53) (by kernel_rfl) rfl (z6 (by kernel_rfl)) (z7 (by kernel_rfl)) rfl rfl rfl (fun _=>q_fieldAddr fo_51_2 rfl rfl) ?_
     refine WD.quiet (i:=5) (d:=54) (by kernel_rfl) rfl (z6 (by kernel_rfl)) (z7 (by kernel_rfl)) rfl rfl rfl (q_load1 oneT_3 rfl (rd_stb .here rfl)) ?_
     refine WD.pure (i:=6) (d:=55) (by kernel_rfl) rfl (z6 (by kernel_rfl)) (z7 (by kernel_rfl)) rfl rfl rfl (fun _=>q_move rfl) ?_
     refine WD.pure (i:=7) (d:=56) (by kernel_rfl) rfl (z6 (by kernel_rfl)) (z7 (by kernel_rfl)) rfl rfl rfl (fun _=>q_mul rfl rfl rfl) ?_
     refine WD.pure (i:=8) (d:=57) (by kernel_rfl) rfl (z6 (by kernel_rfl)) (z7 (by kernel_rfl)) rfl rfl rfl (fun _=>q_sub rfl rfl rfl) ?_
     refine WD.pure (i:=9) (d:=16) (by kernel_rfl) rfl (z6 (by kernel_rfl)) (z7 (by kernel_rfl)) rfl rfl rfl (fun _=>q_assign rfl) ?_
     refine WD.done (by kernel_rfl) ?_
     refine WX.then ?_
     refine WC.seq ?_
     obtain ⟨zwO,h⟩:=chk_elim h
     obtain ⟨zwP,h⟩:=chk_elim h
     refine WC.region ?_
     refine WL.quiet (d:=58) rfl rfl rfl (q_move rfl) ?_
     refine WL.quiet (d:=59) rfl rfl rfl (q_fieldAddr fo_51_0 rfl rfl) ?_
     refine WL.quiet (d:=60) rfl rfl rfl (q_load1 oneT_3 rfl (rd_stb .here rfl)) ?_
     refine WL.quiet (d:=61) rfl rfl rfl (q_move rfl) ?_
     refine WL.quiet (d:=62) rfl rfl rfl (q_add rfl rfl rfl) ?_
     refine WL.quiet (d:=63) rfl rfl rfl (q_lss rfl rfl) ?_
     refine WL.quiet (d:=64) rfl rfl rfl (q_move rfl) ?_
     refine WL.cut0 True [(10,(.int .i64 (i64 (1 + (Int.tmod (i64 z2c) 16))))),(11,(.int .i64 (i64 z32))),(12,(.slice (some ⟨z8q,0,none⟩) z1b.1.length z6e)),(42,(.slice (some ⟨z8p,0,none⟩) zs.length z6f)),(43,(.int .i64 ((zs.length : Nat) : Int))),(44,(.int .i64 zr)),(15,(.pointer (some ⟨zce,0,none⟩))),(14,(.int .i64 zr)),(16,(.int .i64 (i64 ((nth z1b.1 zr) - (i64 (((nth zs zr).fSize) * (i64 (1 + (Int.tmod (i64 z2c) 16))))))))),(76,(.bool ((decide ((i64 ((nth z1b.1 zr) - (i64 (((nth zs zr).fSize) * (i64 (1 + (Int.tmod (i64 z2c) 16))))))) < (i64 (((nth zs zr).fTime) + (i64 z32))))) || ((decide (zr > 0)) && (decide ((i64 ((nth z1b.1 zr) - (i64 (((nth zs zr).fSize) * (i64 (1 + (Int.tmod (i64 z2c) 16))))))) < (nth z1b.1 (i64 (zr - 1)))))))))] [stb zce 51 [(.int .i64 ((nth zs zr).fTime)),(.int .i64 ((nth zs zr).fVL)),(.int .i64 ((nth zs zr).fSize))],fz [],row (.slice (some ⟨z8q,0,none⟩) z1b.1.length z6e) 3 1 (z1b.1.flatMap e3),row (.slice (some ⟨z8p,0,none⟩) zs.length z6f) 51 3 (zs.flatMap e51)] 12 ?_ (fun _=>?_)
     ·rcases Bool.eq_false_or_eq_true (decide ((i64 ((nth z1b.1 zr) - (i64 (((nth zs zr).fSize) * (i64 (1 + (Int.tmod (i64 z2c) 16))))))) < (i64 (((nth zs zr).fTime) + (i64 z32))))) with hb' | hb'
      ·have zpw:=hb'; clear hb'
       refine WL.pin (i:=64) rfl zpw ?_
       refine WL.skip rfl rfl rfl ?_
       refine WL.skip rfl rfl rfl ?_
       refine WL.skip rfl rfl rfl ?_
       refine WL.skip rfl rfl rfl ?_
       refine WL.skip rfl rfl rfl ?_
       refine WL.skip rfl rfl rfl ?_
       refine WL.skip rfl rfl rfl ?_
       refine WL.skip rfl rfl rfl ?_
       refine WL.skip rfl rfl rfl ?_
       refine WL.skip rfl rfl rfl ?_
       refine WL.skip rfl rfl rfl ?_
       refine WL.quiet (d:=76) rfl rfl rfl (q_pickT rfl rfl) ?_
       exact WL.cutEnd () trivial (.cons rfl (.cons rfl (.cons rfl (.cons rfl (.cons rfl (.cons rfl (.cons rfl (.cons rfl (.cons rfl (.cons (zp (or_l zpw)) .nil)))))))))) (.cons .here (.cons .here (.cons .here (.cons .here .nil))))
      ·have zlY:=hb'; clear hb'
       have zwQ:=zwO zlY
       refine WL.pin (i:=64) rfl zlY ?_
       refine WL.quiet (d:=65) rfl rfl rfl (q_move rfl) ?_
       refine WL.quiet (d:=66) rfl rfl rfl (q_gtr rfl rfl) ?_
       refine WL.quiet (d:=67) rfl rfl rfl (q_move rfl) ?_
       refine WL.cut0 True [(10,(.int .i64 (i64 (1 + (Int.tmod (i64 z2c) 16))))),(11,(.int .i64 (i64 z32))),(12,(.slice (some ⟨z8q,0,none⟩) z1b.1.length z6e)),(42,(.slice (some ⟨z8p,0,none⟩) zs.length z6f)),(43,(.int .i64 ((zs.length : Nat) : Int))),(44,(.int .i64 zr)),(15,(.pointer (some ⟨zce,0,none⟩))),(14,(.int .i64 zr)),(16,(.int .i64 (i64 ((nth z1b.1 zr) - (i64 (((nth zs zr).fSize) * (i64 (1 + (Int.tmod (i64 z2c) 16))))))))),(64,(.bool false)),(75,(.bool ((decide (zr > 0)) && (decide ((i64 ((nth z1b.1 zr) - (i64 (((nth zs zr).fSize) * (i64 (1 + (Int.tmod (i64 z2c) 16))))))) < (nth z1b.1 (i64 (zr - 1))))))))] [stb zce 51 [(.int .i64 ((nth zs zr).fTime)),(.int .i64 ((nth zs zr).fVL)),(.int .i64 ((nth zs zr).fSize))],fz [],row (.slice (some ⟨z8q,0,none⟩) z1b.1.length z6e) 3 1 (z1b.1.flatMap e3),row (.slice (some ⟨z8p,0,none⟩) zs.length z6f) 51 3 (zs.flatMap e51)] 8 ?_ (fun _=>?_)
       ·rcases Bool.eq_false_or_eq_true (decide (zr > 0)) with hb' | hb'
        ·have zlZ:=hb'; clear hb'
         have zhj:=zwQ zlZ
         refine WL.pin (i:=67) rfl zlZ ?_
         refine WL.quiet (d:=68) rfl rfl rfl (q_move rfl) ?_
         refine WL.quiet (d:=69) rfl rfl rfl (q_move rfl) ?_
         refine WL.quiet (d:=70) rfl rfl rfl (q_move rfl) ?_
         refine WL.quiet (d:=71) rfl rfl rfl (q_sub rfl rfl rfl) ?_
         refine WL.quiet (d:=72) rfl rfl rfl (q_indexAddr elT_45 rfl rfl zhj.1 zhj.2 rowAdd) ?_
         refine WL.quiet (d:=73) rfl rfl rfl (q_load1 oneT_3 rfl (rd_row (.there (.there .here)) ((flat_rd (enc:=e3) (l:=z1b.1) (i:=i64 (zr - 1)) (sz:=1) (fun _=>rfl) zhj.1 zhj.2) 0 _ rfl))) ?_
         refine WL.quiet (d:=74) rfl rfl rfl (q_lss rfl rfl) ?_
         refine WL.quiet (d:=75) rfl rfl rfl (q_pickT rfl rfl) ?_
         exact WL.cutEnd () trivial (.cons rfl (.cons rfl (.cons rfl (.cons rfl (.cons rfl (.cons rfl (.cons rfl (.cons rfl (.cons rfl (.cons rfl (.cons (zp (and_r zlZ)) .nil))))))))))) (.cons .here (.cons .here (.cons .here (.cons .here .nil))))
        ·have zpx:=hb'; clear hb'
         refine WL.pin (i:=67) rfl zpx ?_
         refine WL.skip rfl rfl rfl ?_
         refine WL.skip rfl rfl rfl ?_
         refine WL.skip rfl rfl rfl ?_
         refine WL.skip rfl rfl rfl ?_
         refine WL.skip rfl rfl rfl ?_
         refine WL.skip rfl rfl rfl ?_
         refine WL.skip rfl rfl rfl ?_
         refine WL.quiet (d:=75) rfl rfl rfl (q_pickF rfl rfl) ?_
         exact WL.cutEnd () trivial (.cons rfl (.cons rfl (.cons rfl (.cons rfl (.cons rfl (.cons rfl (.cons rfl (.cons rfl (.cons rfl (.cons rfl (.cons (zp (and_l zpx)) .nil))))))))))) (.cons .here (.cons .here (.cons .here (.cons .here .nil))))
       ·skip
        refine WL.quiet (d:=76) rfl rfl rfl (q_pickF rfl rfl) ?_
        exact WL.cutEnd () trivial (.cons rfl (.cons rfl (.cons rfl (.cons rfl (.cons rfl (.cons rfl (.cons rfl (.cons rfl (.cons rfl (.cons (zp (or_r zlY)) .nil)))))))))) (.cons .here (.cons .here (.cons .here (.cons .here .nil))))
     ·skip
      refine WL.quiet (d:=77) rfl rfl rfl (q_move rfl) ?_
      refine WL.cut0 True [(10,(.int .i64 (i64 (1 + (Int.tmod (i64 z2c) 16))))),(11,(.int .i64 (i64 z32))),(12,(.slice (some ⟨z8q,0,none⟩) z1b.1.length z6e)),(42,(.slice (some ⟨z8p,0,none⟩) zs.length z6f)),(43,(.int .i64 ((zs.length : Nat) : Int))),(44,(.int .i64 zr)),(97,(.bool (((decide ((i64 ((nth z1b.1 zr) - (i64 (((nth zs zr).fSize) * (i64 (1 + (Int.tmod (i64 z2c) 16))))))) < (i64 (((nth zs zr).fTime) + (i64 z32))))) || ((decide (zr > 0)) && (decide ((i64 ((nth z1b.1 zr) - (i64 (((nth zs zr).fSize) * (i64 (1 + (Int.tmod (i64 z2c) 16))))))) < (nth z1b.1 (i64 (zr - 1))))))) || ((decide ((i64 ((nth z1b.1 zr) - (i64 (((nth zs zr).fSize) * (i64 (1 + (Int.tmod (i64 z2c) 16))))))) > (i64 (((nth zs zr).fTime) + (i64 z32))))) && ((decide (zr = 0)) || (decide ((i64 ((nth z1b.1 zr) - (i64 (((nth zs zr).fSize) * (i64 (1 + (Int.tmod (i64 z2c) 16))))))) ≠ (nth z1b.1 (i64 (zr - 1))))))))))] [stb zce 51 [(.int .i64 ((nth zs zr).fTime)),(.int .i64 ((nth zs zr).fVL)),(.int .i64 ((nth zs zr).fSize))],fz [],row (.slice (some ⟨z8q,0,none⟩) z1b.1.length z6e) 3 1 (z1b.1.flatMap e3),row (.slice (some ⟨z8p,0,none⟩) zs.length z6f) 51 3 (zs.flatMap e51)] 20 ?_ (fun _=>?_)
      ·rcases Bool.eq_false_or_eq_true ((decide ((i64 ((nth z1b.1 zr) - (i64 (((nth zs zr).fSize) * (i64 (1 + (Int.tmod (i64 z2c) 16))))))) < (i64 (((nth zs zr).fTime) + (i64 z32))))) || ((decide (zr > 0)) && (decide ((i64 ((nth z1b.1 zr) - (i64 (((nth zs zr).fSize) * (i64 (1 + (Int.tmod (i64 z2c) 16))))))) < (nth z1b.1 (i64 (zr - 1))))))) with hb' | hb'
       ·have zpy:=hb'; clear hb'
        refine WL.pin (i:=77) rfl zpy ?_
        refine WL.skip rfl rfl rfl ?_
        refine WL.skip rfl rfl rfl ?_
        refine WL.skip rfl rfl rfl ?_
        refine WL.skip rfl rfl rfl ?_
        refine WL.skip rfl rfl rfl ?_
        refine WL.skip rfl rfl rfl ?_
        refine WL.skip rfl rfl rfl ?_
        refine WL.skip rfl rfl rfl ?_
        refine WL.skip rfl rfl rfl ?_
        refine WL.skip rfl rfl rfl ?_
        refine WL.skip rfl rfl rfl ?_
        refine WL.skip rfl rfl rfl ?_
        refine WL.skip rfl rfl rfl ?_
        refine WL.skip rfl rfl rfl ?_
        refine WL.skip rfl rfl rfl ?_
        refine WL.skip rfl rfl rfl ?_
        refine WL.skip rfl rfl rfl ?_
        refine WL.skip rfl rfl rfl ?_
        refine WL.skip rfl rfl rfl ?_
        refine WL.quiet (d:=97) rfl rfl rfl (q_pickT rfl rfl) ?_
        exact WL.cutEnd () trivial (.cons rfl (.cons rfl (.cons rfl (.cons rfl (.cons rfl (.cons rfl (.cons (zp (or_l zpy)) .nil))))))) (.cons .here (.cons .here (.cons .here (.cons .here .nil))))
       ·have zm0:=hb'; clear hb'
        have zwR:=zwP zm0
        refine WL.pin (i:=77) rfl zm0 ?_
        refine WL.quiet (d:=78) rfl rfl rfl (q_move rfl) ?_
        refine WL.quiet (d:=79) rfl rfl rfl (q_fieldAddr fo_51_0 rfl rfl) ?_
        refine WL.quiet (d:=80) rfl rfl rfl (q_load1 oneT_3 rfl (rd_stb .here rfl)) ?_
        refine WL.quiet (d:=81) rfl rfl rfl (q_move rfl) ?_
        refine WL.quiet (d:=82) rfl rfl rfl (q_add rfl rfl rfl) ?_
        refine WL.quiet (d:=83) rfl rfl rfl (q_gtr rfl rfl) ?_
        refine WL.quiet (d:=84) rfl rfl rfl (q_move rfl) ?_
        refine WL.cut0 True [(10,(.int .i64 (i64 (1 + (Int.tmod (i64 z2c) 16))))),(11,(.int .i64 (i64 z32))),(12,(.slice (some ⟨z8q,0,none⟩) z1b.1.length z6e)),(42,(.slice (some ⟨z8p,0,none⟩) zs.length z6f)),(43,(.int .i64 ((zs.length : Nat) : Int))),(44,(.int .i64 zr)),(77,(.bool false)),(96,(.bool ((decide ((i64 ((nth z1b.1 zr) - (i64 (((nth zs zr).fSize) * (i64 (1 + (Int.tmod (i64 z2c) 16))))))) > (i64 (((nth zs zr).fTime) + (i64 z32))))) && ((decide (zr = 0)) || (decide ((i64 ((nth z1b.1 zr) - (i64 (((nth zs zr).fSize) * (i64 (1 + (Int.tmod (i64 z2c) 16))))))) ≠ (nth z1b.1 (i64 (zr - 1)))))))))] [stb zce 51 [(.int .i64 ((nth zs zr).fTime)),(.int .i64 ((nth zs zr).fVL)),(.int .i64 ((nth zs zr).fSize))],fz [],row (.slice (some ⟨z8q,0,none⟩) z1b.1.length z6e) 3 1 (z1b.1.flatMap e3),row (.slice (some ⟨z8p,0,none⟩) zs.length z6f) 51 3 (zs.flatMap e51)] 12 ?_ (fun _=>?_)
        ·rcases Bool.eq_false_or_eq_true (decide ((i64 ((nth z1b.1 zr) - (i64 (((nth zs zr).fSize) * (i64 (1 + (Int.tmod (i64 z2c) 16))))))) > (i64 (((nth zs zr).fTime) + (i64 z32))))) with hb' | hb'
         ·have zm1:=hb'; clear hb'
          have zwS:=zwR zm1
          refine WL.pin (i:=84) rfl zm1 ?_
          refine WL.quiet (d:=85) rfl rfl rfl (q_move rfl) ?_
          refine WL.quiet (d:=86) rfl rfl rfl (q_eql rfl rfl) ?_
          refine WL.quiet (d:=87) rfl rfl rfl (q_move rfl) ?_
          refine WL.cut0 True [(10,(.int .i64 (i64 (1 + (Int.tmod (i64 z2c) 16))))),(11,(.int .i64 (i64 z32))),(12,(.slice (some ⟨z8q,0,none⟩) z1b.1.length z6e)),(42,(.slice (some ⟨z8p,0,none⟩) zs.length z6f)),(43,(.int .i64 ((zs.length : Nat) : Int))),(44,(.int .i64 zr)),(77,(.bool false)),(84,(.bool true)),(95,(.bool ((decide (zr = 0)) || (decide ((i64 ((nth z1b.1 zr) - (i64 (((nth zs zr).fSize) * (i64 (1 + (Int.tmod (i64 z2c) 16))))))) ≠ (nth z1b.1 (i64 (zr - 1))))))))] [stb zce 51 [(.int .i64 ((nth zs zr).fTime)),(.int .i64 ((nth zs zr).fVL)),(.int .i64 ((nth zs zr).fSize))],fz [],row (.slice (some ⟨z8q,0,none⟩) z1b.1.length z6e) 3 1 (z1b.1.flatMap e3),row (.slice (some ⟨z8p,0,none⟩) zs.length z6f) 51 3 (zs.flatMap e51)] 8 ?_ (fun _=>?_)
          ·rcases Bool.eq_false_or_eq_true (decide (zr = 0)) with hb' | hb'
           ·have zpz:=hb'; clear hb'
            refine WL.pin (i:=87) rfl zpz ?_
            refine WL.skip rfl rfl rfl ?_
            refine WL.skip rfl rfl rfl ?_
            refine WL.skip rfl rfl rfl ?_
            refine WL.skip rfl rfl rfl ?_
            refine WL.skip rfl rfl rfl ?_
            refine WL.skip rfl rfl rfl ?_
            refine WL.skip rfl rfl rfl ?_
            refine WL.quiet (d:=95) rfl rfl rfl (q_pickT rfl rfl) ?_
            exact WL.cutEnd () trivial (.cons rfl (.cons rfl (.cons rfl (.cons rfl (.cons rfl (.cons rfl (.cons rfl (.cons rfl (.cons (zp (or_l zpz)) .nil))))))))) (.cons .here (.cons .here (.cons .here (.cons .here .nil))))
           ·have zm2:=hb'; clear hb'
            have zhk:=zwS zm2
            refine WL.pin (i:=87) rfl zm2 ?_
            refine WL.quiet (d:=88) rfl rfl rfl (q_move rfl) ?_
            refine WL.quiet (d:=89) rfl rfl rfl (q_move rfl) ?_
            refine WL.quiet (d:=90) rfl rfl rfl (q_move rfl) ?_
            refine WL.quiet (d:=91) rfl rfl rfl (q_sub rfl rfl rfl) ?_
            refine WL.quiet (d:=92) rfl rfl rfl (q_indexAddr elT_45 rfl rfl zhk.1 zhk.2 rowAdd) ?_
            refine WL.quiet (d:=93) rfl rfl rfl (q_load1 oneT_3 rfl (rd_row (.there (.there .here)) ((flat_rd (enc:=e3) (l:=z1b.1) (i:=i64 (zr - 1)) (sz:=1) (fun _=>rfl) zhk.1 zhk.2) 0 _ rfl))) ?_
            refine WL.quiet (d:=94) rfl rfl rfl (q_neq rfl rfl) ?_
            refine WL.quiet (d:=95) rfl rfl rfl (q_pickF rfl rfl) ?_
            exact WL.cutEnd () trivial (.cons rfl (.cons rfl (.cons rfl (.cons rfl (.cons rfl (.cons rfl (.cons rfl (.cons rfl (.cons (zp (or_r zm2)) .nil))))))))) (.cons .here (.cons .here (.cons .here (.cons .here .nil))))
          ·skip
           refine WL.quiet (d:=96) rfl rfl rfl (q_pickT rfl rfl) ?_
           exact WL.cutEnd () trivial (.cons rfl (.cons rfl (.cons rfl (.cons rfl (.cons rfl (.cons rfl (.cons rfl (.cons (zp (and_r zm1)) .nil)))))))) (.cons .here (.cons .here (.cons .here (.cons .here .nil))))
         ·have zpA:=hb'; clear hb'
          refine WL.pin (i:=84) rfl zpA ?_
          refine WL.skip rfl rfl rfl ?_
          refine WL.skip rfl rfl rfl ?_
          refine WL.skip rfl rfl rfl ?_
          refine WL.skip rfl rfl rfl ?_
          refine WL.skip rfl rfl rfl ?_
          refine WL.skip rfl rfl rfl ?_
          refine WL.skip rfl rfl rfl ?_
          refine WL.skip rfl rfl rfl ?_
          refine WL.skip rfl rfl rfl ?_
          refine WL.skip rfl rfl rfl ?_
          refine WL.skip rfl rfl rfl ?_
          refine WL.quiet (d:=96) rfl rfl rfl (q_pickF rfl rfl) ?_
          exact WL.cutEnd () trivial (.cons rfl (.cons rfl (.cons rfl (.cons rfl (.cons rfl (.cons rfl (.cons rfl (.cons (zp (and_l zpA)) .nil)))))))) (.cons .here (.cons .here (.cons .here (.cons .here .nil))))
        ·skip
         refine WL.quiet (d:=97) rfl rfl rfl (q_pickF rfl rfl) ?_
         exact WL.cutEnd () trivial (.cons rfl (.cons rfl (.cons rfl (.cons rfl (.cons rfl (.cons rfl (.cons (zp (or_r zm0)) .nil))))))) (.cons .here (.cons .here (.cons .here (.cons .here .nil))))
      ·skip
       refine WL.nil ?_
       refine WX.then ?_
       refine WC.cond rfl (fun zm3=>?_) (fun zm3=>?_)
       ·replace h:=ite_t h zm3
        refine WC.seq ?_
        refine WC.region ?_
        refine WL.quiet (d:=8) rfl rfl rfl (q_assign rfl) ?_
        refine WL.nil ?_
        refine WX.then ?_
        refine WC.ret ?_
        refine WX.blockRet ?_
        refine WX.thenRet ?_
        refine WX.thenRet ?_
        refine WX.blockRet ?_
        refine WX.thenRet ?_
        obtain rfl:=Option.some.inj h
        refine WX.bpRet Try.results6 (.tmp rfl .nil) (fun w hw=>?_)
        exact ⟨[],ret1 rfl,trivial,hw.sub (.cons (.there .here) .nil)⟩
       ·replace h:=ite_f h zm3
        refine WC.skip ?_
        refine WX.blockNormal ?_
        refine WX.then ?_
        refine WC.region ?_
        refine WL.quiet (d:=98) rfl rfl rfl (q_add rfl rfl rfl) ?_
        refine WL.quiet (d:=44) rfl rfl rfl (q_move rfl) ?_
        refine WL.nil ?_
        exact WX.round (G:=Nat × Int × Option Addr × Nat × Option Addr × Nat) ⟨zlS,(i64 (zr + 1)),(some ⟨z8q,0,none⟩),z6e,(some ⟨z8p,0,none⟩),z6f⟩ h (Nat.lt_succ_self _) (.cons rfl (.cons rfl (.cons rfl (.cons rfl (.cons rfl (.cons rfl .nil)))))) (.cons (.there .here) (.cons (.there .here) (.cons (.there .here) .nil)))
    ·replace h:=ite_f h zlX
     refine WC.exit ?_
     refine WX.thenExit ?_
     refine WX.thenExit ?_
     refine WX.blockHit ?_
     exact WX.mid (G:=Unit) () h .nil (.cons .here .nil)
   ·rintro  h
    replace h:=zwN.symm.trans h
    refine WC.seq ?_
    obtain ⟨zlT,zwT,h⟩:=ze h
    refine WC.region ?_
    refine WL.enter1 (dd:=99) rfl rfl rfl (zn (l:=[]) Try.call17 .nil) (.nil : Sel [fz []] [] [fz []]) (fun w hw=>by have pz:=(hz.call2 hw (.nil : Sel [fz []] [] [fz []]) .here); exact w_law03_awake (Z:=_)   (r:=zlT) w pz  zwT) ?_
    rintro zwU _
    refine WL.merge .here .here ?_
    refine WL.quiet (d:=8) rfl rfl rfl (q_assign rfl) ?_
    refine WL.nil ?_
    refine WX.then ?_
    refine WC.ret ?_
    obtain rfl:=Option.some.inj h
    refine WX.bpRet Try.results6 (.tmp rfl .nil) (fun w hw=>?_)
    exact ⟨([] ++ zwU),ret1 rfl,trivial,hw.sub (.cons .here .nil)⟩
end Go.Proofs.Ytakfmdiiehcbdaa

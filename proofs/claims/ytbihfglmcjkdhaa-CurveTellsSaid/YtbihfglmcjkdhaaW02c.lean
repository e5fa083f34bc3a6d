/- A part of this claim's proof: models of functions, walks, plain laws. No conditions. -/
import Derived.Test.YtbihfglmcjkdhaaW02b
namespace Go.Proofs.Ytbihfglmcjkdhaa
open Go Go.RowKit Sep
set_option linter.all false
set_option maxRecDepth 30000
set_option maxHeartbeats 4000000
def m_curve_Breaks_R4  (zd : z1 × z1) (zZ : List z2) (z5F : Int) : Option (Bool × (Nat × List z2 × Int)) :=
 (m_rat_Cmp zd.1.fBurst zd.2.fBurst).bind fun zhF=>if decide (zhF < 0) then (m_curve_calc_do (⟨z5F⟩ : z5A) (fun (y0 : z2) (y1 : z2)=>m_rat_Sub y0 y1) zd.2.fBurst zd.1.fBurst).bind fun z73=>(m_curve_calc_do z73.2 (fun (y0 : z2) (y1 : z2)=>m_rat_Sub y0 y1) zd.1.fRate zd.2.fRate).bind fun z74=>(m_curve_calc_do z74.2 (fun (y0 : z2) (y1 : z2)=>m_rat_Div y0 y1) z73.1 z74.1).bind fun z6w=>chk ((((zZ ++ ([z6w.1] : List z2)).length : Nat) : Int) * 16 ≤ 140737488355328 ∧ (((zZ ++ ([z6w.1] : List z2)).length : Nat) : Int) ≤ 4611686018427387904) (some (true,(0,(zZ ++ ([z6w.1] : List z2)),z6w.2.fE))) else some (true,(0,zZ,z5F))
def m_curve_Breaks (z75 : List z1) : Option (List z2 × Int) :=
 (m_curve_Valid z75).bind fun zf0=>if !zf0 then some (([] : List z2),2) else (m_curve_norm z75).bind fun zaJ=>jp2 (fun (z4R : Int) (z3y : List z2)=>if decide (z4R ≠ 0) then some (([] : List z2),z4R) else (m_slices_SortFunc_api_Rat_api_Rat z3y (fun (y0 : z2) (y1 : z2)=>m_rat_Cmp y0 y1)).bind fun z4n=>(m_slices_Compact_api_Rat_api_Rat z4n).bind fun zhG=>some (zhG,0)) fun zhH=>(m_curve_pairs zaJ zaJ).bind fun z24=>(m_curve_pairs_1 (Nat × List z2 × Int) (fun (x : z1 × z1) (s : Nat × List z2 × Int)=>chk (s.1 = 0) (m_curve_Breaks_R4 x s.2.1 s.2.2)) (0,([] : List z2),0) z24.1 z24.2).bind fun z4C=>zhH z4C.2.2 z4C.2.1
set_option maxRecDepth 20000 in
theorem w_curve_Breaks (Z : Zp)  (z9V : Option Addr) (z9W : Nat) (z75 : List z1) (r : List z2 × Int) (w₀ : World) (hz : PZ [] w₀ Z)
  (zms : ZS Z 4 (fun r x=>r = e42 x) z9V z9W z75)
  (h : m_curve_Breaks z75 = some r) :
  Calls Try.prog 20 #[(.slice z9V z75.length z9W)] w₀ fun e w'=>∃ Zn : Zp,∃ zmt : Option Addr,∃ zmu : Nat,e = .returned (.tuple #[(.slice zmt r.1.length zmu),(.int .i64 r.2)]) ∧ True ∧ Hp [] w₀ w' [fz Zn,row (.slice zmt r.1.length zmu) 28 2 (r.1.flatMap e28)]:=by
 unfold m_curve_Breaks at h
 refine Calls.ofWCM (vs:=[(.slice z9V z75.length z9W)]) (pre:=[]) (env:=[(0,(.slice z9V z75.length z9W))]) Try.func20 rfl Try.ntmps20 rfl (Hp.nil w₀ _) rfl ?_
 refine WC.pool ?_
 refine WC.seq ?_
 refine WC.region ?_
 refine WL.quiet (d:=2) rfl rfl rfl (q_assign rfl) ?_
 refine WL.quiet (d:=3) rfl rfl rfl (q_assign rfl) ?_
 refine WL.nil ?_
 refine WX.then ?_
 refine WC.seq ?_
 refine WC.seq ?_
 obtain ⟨zf0,zrw,h⟩:=zb h
 refine WC.region ?_
 refine WL.quiet (d:=9) rfl rfl rfl (q_move rfl) ?_
 refine WL.callD (dd:=10) rfl rfl rfl (zg (l:=[.tmp 9]) Try.call26 (.cons rfl .nil)) (.nil : Sel [fz []] [] [fz []]) (fun w hw=>by have pz:=(hz.call2 hw (.nil : Sel [fz []] [] [fz []]) .here); exact w_curve_Valid (Z:=_) (z5S:=z9V) (z5T:=z9W) (z3S:=z75) (r:=zf0) w pz (zms.mono (Zle.left _ _)) zrw) ?_
 refine WL.quiet (d:=11) rfl rfl rfl (q_not rfl) ?_
 refine WL.nil ?_
 refine WX.then ?_
 refine WC.cond rfl (fun zhI=>?_) (fun zhI=>?_)
 ·replace h:=ite_t h zhI
  refine WC.seq ?_
  refine WC.region ?_
  refine WL.quiet (d:=2) rfl rfl rfl (q_assign rfl) ?_
  refine WL.quiet (d:=3) rfl rfl rfl (q_assign rfl) ?_
  refine WL.nil ?_
  refine WX.then ?_
  refine WC.ret ?_
  refine WX.thenRet ?_
  refine WX.nilRow 28 2 ?_
  obtain rfl:=Option.some.inj h
  refine WX.bpRetM Try.results20 (.tmp rfl (.tmp rfl .nil)) (fun w hw=>?_)
  exact ⟨[],none,0,ret2 rfl rfl,trivial,hw.sub (.cons (.there .here) (.cons .here .nil))⟩
 ·replace h:=ite_f h zhI
  refine WC.skip ?_
  refine WX.then ?_
  refine WC.seq ?_
  refine WC.region ?_
  refine WL.new (dd:=4) rfl rfl rfl (e_alloc (cs:=[(.int .i64 0)]) zeroT_74 rfl) ?_
  intro z1t _
  refine WL.nil ?_
  refine WX.then ?_
  refine WC.seq ?_
  refine WC.region ?_
  refine WL.new (dd:=5) rfl rfl rfl (e_alloc (cs:=[(.slice none 0 0)]) zeroT_44 rfl) ?_
  intro z1w _
  refine WL.nil ?_
  refine WX.then ?_
  refine WC.seq ?_
  obtain ⟨zaJ,zrx,h⟩:=zb h
  refine WC.region ?_
  refine WL.quiet (d:=12) rfl rfl rfl (q_move rfl) ?_
  refine WL.enter2 (dd:=13) rfl rfl rfl (zg (l:=[.tmp 12]) Try.call45 (.cons rfl .nil)) (.nil : Sel [stb z1w 44 [(.slice none 0 0)],stb z1t 74 [(.int .i64 0)],fz []] [] [stb z1w 44 [(.slice none 0 0)],stb z1t 74 [(.int .i64 0)],fz []]) (fun w hw=>by have pz:=(hz.call2 hw (.nil : Sel [stb z1w 44 [(.slice none 0 0)],stb z1t 74 [(.int .i64 0)],fz []] [] [stb z1w 44 [(.slice none 0 0)],stb z1t 74 [(.int .i64 0)],fz []]) (.there (.there .here))); exact w_curve_norm (Z:=_) (z5p:=z9V) (z5q:=z9W) (zh:=z75) (r:=zaJ) w pz (zms.mono (Zle.left _ _)) zrx) ?_
  rintro zmv zmw _
  refine WL.quiet (d:=6) rfl rfl rfl (q_assign rfl) ?_
  refine WL.nil ?_
  refine WX.then ?_
  obtain ⟨zhH,zry,h⟩:=jp2_elim h
  refine WC.seqMidR6 (fun (z5G : Nat) (z4R : Int) (z3y : List z2) (z5a : Zp) (z2Y : Option Addr) (z2Z : Nat)=>(zhH z4R z3y = some r) ∧ (Zle (Z ++ []) (Z ++ z5a))) (fun (z5G : Nat) (z4R : Int) (z3y : List z2) (z5a : Zp) (z2Y : Option Addr) (z2Z : Nat)=>[(4,(.pointer (some ⟨z1t,0,none⟩))),(5,(.pointer (some ⟨z1w,0,none⟩)))]) (fun (z5G : Nat) (z4R : Int) (z3y : List z2) (z5a : Zp) (z2Y : Option Addr) (z2Z : Nat)=>[fz z5a,stb z1t 74 [(.int .i64 z4R)],stb z1w 44 [(.slice z2Y z3y.length z2Z)],row (.slice z2Y z3y.length z2Z) 28 2 (z3y.flatMap e28),dfr z5G]) ?_ ?_
  ·skip
   refine WC.seq ?_
   refine WC.freezeS (ls:=zaJ) .here (.there (.there .here)) hz (RR.flat (enc:=e42) (fun _=>rfl) _) ?_
   intro z5b zrz zmx
   obtain ⟨z24,zrA,h⟩:=zb h
   refine WC.region ?_
   refine WL.quiet (d:=14) rfl rfl rfl (q_move rfl) ?_
   refine WL.quiet (d:=15) rfl rfl rfl (q_move rfl) ?_
   refine WL.enter6 (dd:=16) rfl rfl rfl (zg (l:=[.tmp 14,.tmp 15]) Try.call46 (.cons rfl (.cons rfl .nil))) (.nil : Sel [fz z5b,stb z1w 44 [(.slice none 0 0)],stb z1t 74 [(.int .i64 0)]] [] [fz z5b,stb z1w 44 [(.slice none 0 0)],stb z1t 74 [(.int .i64 0)]]) (fun w hw=>by have pz:=(hz.call2 hw (.nil : Sel [fz z5b,stb z1w 44 [(.slice none 0 0)],stb z1t 74 [(.int .i64 0)]] [] [fz z5b,stb z1w 44 [(.slice none 0 0)],stb z1t 74 [(.int .i64 0)]]) .here); exact w_curve_pairs (Z:=_) (z9L:=zmv) (z9M:=zmw) (z9N:=zmv) (z9O:=zmw) (z7Y:=zaJ) (z7Z:=zaJ) (r:=z24) w pz zmx zmx zrA) ?_
   rintro z4D z4E z4S z4T z4U z4V ⟨zrB,zrC⟩
   refine WL.nil ?_
   refine WX.then ?_
   refine WC.block ?_
   refine WC.pool ?_
   refine WC.drop (.cons .here (.cons (.there (.there (.there .here))) (.cons (.there (.there (.there .here))) (.cons .here (.cons .here (.cons .here .nil)))))) ?_
   refine WC.nilRow 28 2 ?_
   refine WC.rangeFunc (f:=73) (caps:=[(.pointer (some ⟨z4D,0,none⟩)),(.pointer (some ⟨z4E,0,none⟩))]) rfl Try.call73 ?_
   intro zxF zxG z2w z65 z2B zf1 zrD zrE w hw
   have hw1:=hw.selAll ((.cons (.there (.there (.there .here))) (.cons (.there (.there (.there .here))) (.cons (.there (.there .here)) (.cons (.there (.there .here)) (.cons .here .nil))))) : Sel _ [fz [],stb z1w 44 [(.slice none (([] : List z2).length) 0)],row (.slice none (([] : List z2).length) 0) 28 2 (([] : List z2).flatMap e28),stb z1t 74 [(.int .i64 0)],blk z2w (z2B .ready none)] _)
   have pz:=(hz.call2 hw1 ((.cons .here .nil) : Sel [allA [fz [],stb z1w 44 [(.slice none (([] : List z2).length) 0)],row (.slice none (([] : List z2).length) 0) 28 2 (([] : List z2).flatMap e28),stb z1t 74 [(.int .i64 0)],blk z2w (z2B .ready none)],dfr z65,stb z4D 25 [(.slice z4S z24.1.length z4T)],stb z4E 25 [(.slice z4U z24.2.length z4V)],fz z5b] [allA [fz [],stb z1w 44 [(.slice none (([] : List z2).length) 0)],row (.slice none (([] : List z2).length) 0) 28 2 (([] : List z2).flatMap e28),stb z1t 74 [(.int .i64 0)],blk z2w (z2B .ready none)]] [dfr z65,stb z4D 25 [(.slice z4S z24.1.length z4T)],stb z4E 25 [(.slice z4U z24.2.length z4V)],fz z5b]) (.there (.there (.there .here)))).lend hw1 ((.cons .here .nil) : Sel [allA [fz [],stb z1w 44 [(.slice none (([] : List z2).length) 0)],row (.slice none (([] : List z2).length) 0) 28 2 (([] : List z2).flatMap e28),stb z1t 74 [(.int .i64 0)],blk z2w (z2B .ready none)],dfr z65,stb z4D 25 [(.slice z4S z24.1.length z4T)],stb z4E 25 [(.slice z4U z24.2.length z4V)],fz z5b] [allA [fz [],stb z1w 44 [(.slice none (([] : List z2).length) 0)],row (.slice none (([] : List z2).length) 0) 28 2 (([] : List z2).flatMap e28),stb z1t 74 [(.int .i64 0)],blk z2w (z2B .ready none)]] [dfr z65,stb z4D 25 [(.slice z4S z24.1.length z4T)],stb z4E 25 [(.slice z4U z24.2.length z4V)],fz z5b]) (B:=[stb z4D 25 [(.slice z4S z24.1.length z4T)],stb z4E 25 [(.slice z4U z24.2.length z4V)]]) (fun _ hx'=>((.cons (.there .here) (.cons (.there .here) .nil)) : Sel _ [stb z4D 25 [(.slice z4S z24.1.length z4T)],stb z4E 25 [(.slice z4U z24.2.length z4V)]] _).mem hx')
   obtain ⟨z4C,zrF,h⟩:=zb h
   refine Calls.mono (w_curve_pairs_1 (Z:=_) (z82:=z2w) (z3x:=(Option Addr × Nat)) (z64:=(fun (g : Option Addr × Nat) (s : Nat × List z2 × Int)=>allA ([fz [],stb z1w 44 [(.slice g.1 s.2.1.length g.2)],row (.slice g.1 s.2.1.length g.2) 28 2 (s.2.1.flatMap e28),stb z1t 74 [(.int .i64 s.2.2)]] ++ [blk z2w (z2B (rdy (pcs [] s.1)) (pcs [] s.1))]))) (z83:=(fun (g : Option Addr × Nat) (s : Nat × List z2 × Int)=>True)) (z8E:=(none,0)) (zbH:=⟨z4D,0,none⟩) (z9P:=z4S) (z9Q:=z4T) (z84:=⟨z4E,0,none⟩) (zdo:=z4U) (zdp:=z4V) (z1i:=(Nat × List z2 × Int)) (z5r:=(fun (x : z1 × z1) (s : Nat × List z2 × Int)=>chk (s.1 = 0) (m_curve_Breaks_R4 x s.2.1 s.2.2))) (s0_5040:=(0,([] : List z2),0)) (z1Q:=z24.1) (z2f:=z24.2) (r:=z4C) w pz ?_ trivial (zrB.mono (Zle.left _ _)) ((hw1.lent ((.cons .here .nil) : Sel [allA [fz [],stb z1w 44 [(.slice none (([] : List z2).length) 0)],row (.slice none (([] : List z2).length) 0) 28 2 (([] : List z2).flatMap e28),stb z1t 74 [(.int .i64 0)],blk z2w (z2B .ready none)],dfr z65,stb z4D 25 [(.slice z4S z24.1.length z4T)],stb z4E 25 [(.slice z4U z24.2.length z4V)],fz z5b] [allA [fz [],stb z1w 44 [(.slice none (([] : List z2).length) 0)],row (.slice none (([] : List z2).length) 0) 28 2 (([] : List z2).flatMap e28),stb z1t 74 [(.int .i64 0)],blk z2w (z2B .ready none)]] [dfr z65,stb z4D 25 [(.slice z4S z24.1.length z4T)],stb z4E 25 [(.slice z4U z24.2.length z4V)],fz z5b]) (B:=[stb z4D 25 [(.slice z4S z24.1.length z4T)],stb z4E 25 [(.slice z4U z24.2.length z4V)]]) (fun _ hx'=>((.cons (.there .here) (.cons (.there .here) .nil)) : Sel _ [stb z4D 25 [(.slice z4S z24.1.length z4T)],stb z4E 25 [(.slice z4U z24.2.length z4V)]] _).mem hx') (.head _) _).stb) (zrC.mono (Zle.left _ _)) ((hw1.lent ((.cons .here .nil) : Sel [allA [fz [],stb z1w 44 [(.slice none (([] : List z2).length) 0)],row (.slice none (([] : List z2).length) 0) 28 2 (([] : List z2).flatMap e28),stb z1t 74 [(.int .i64 0)],blk z2w (z2B .ready none)],dfr z65,stb z4D 25 [(.slice z4S z24.1.length z4T)],stb z4E 25 [(.slice z4U z24.2.length z4V)],fz z5b] [allA [fz [],stb z1w 44 [(.slice none (([] : List z2).length) 0)],row (.slice none (([] : List z2).length) 0) 28 2 (([] : List z2).flatMap e28),stb z1t 74 [(.int .i64 0)],blk z2w (z2B .ready none)]] [dfr z65,stb z4D 25 [(.slice z4S z24.1.length z4T)],stb z4E 25 [(.slice z4U z24.2.length z4V)],fz z5b]) (B:=[stb z4D 25 [(.slice z4S z24.1.length z4T)],stb z4E 25 [(.slice z4U z24.2.length z4V)]]) (fun _ hx'=>((.cons (.there .here) (.cons (.there .here) .nil)) : Sel _ [stb z4D 25 [(.slice z4S z24.1.length z4T)],stb z4E 25 [(.slice z4U z24.2.length z4V)]] _).mem hx') (.tail _ (.head _)) _).stb) zrF (hw1.owns ((.cons .here .nil) : Sel [allA [fz [],stb z1w 44 [(.slice none (([] : List z2).length) 0)],row (.slice none (([] : List z2).length) 0) 28 2 (([] : List z2).flatMap e28),stb z1t 74 [(.int .i64 0)],blk z2w (z2B .ready none)],dfr z65,stb z4D 25 [(.slice z4S z24.1.length z4T)],stb z4E 25 [(.slice z4U z24.2.length z4V)],fz z5b] [allA [fz [],stb z1w 44 [(.slice none (([] : List z2).length) 0)],row (.slice none (([] : List z2).length) 0) 28 2 (([] : List z2).flatMap e28),stb z1t 74 [(.int .i64 0)],blk z2w (z2B .ready none)]] [dfr z65,stb z4D 25 [(.slice z4S z24.1.length z4T)],stb z4E 25 [(.slice z4U z24.2.length z4V)],fz z5b]))) ?_
   ·skip
    refine yieldP_of (LI:=(fun (g : Option Addr × Nat) (s : Nat × List z2 × Int)=>[fz [],stb z1w 44 [(.slice g.1 s.2.1.length g.2)],row (.slice g.1 s.2.1.length g.2) 28 2 (s.2.1.flatMap e28),stb z1t 74 [(.int .i64 s.2.2)]])) (pc:=(fun (s : Nat × List z2 × Int)=>pcs [] s.1)) zf1 zrD zrE (fun _ _=>rfl) (by decide) ?_
    rintro zd _ ⟨z1Z,z20⟩ ⟨zrG,zZ,z5F⟩ zrH zrI Fb wb zmy _ hz
    replace hz:=hz.left
    letI : Rnd:=inR z2w
    obtain ⟨hp0,z5c⟩:=chk_elim zmy
    replace hp0 : zrG = 0:=hp0; subst hp0; clear zmy
    replace z5c : m_curve_Breaks_R4 zd zZ z5F = some (zrH,zrI):=z5c
    unfold m_curve_Breaks_R4 at z5c
    refine WC.restr (env':=[(11,(.bool (!zf0))),(4,(.pointer (some ⟨z1t,0,none⟩))),(5,(.pointer (some ⟨z1w,0,none⟩))),(17,(.agg #[(.int .i64 zd.1.fBurst.fN),(.int .i64 zd.1.fBurst.fD),(.int .i64 zd.1.fRate.fN),(.int .i64 zd.1.fRate.fD)])),(18,(.agg #[(.int .i64 zd.2.fBurst.fN),(.int .i64 zd.2.fBurst.fD),(.int .i64 zd.2.fRate.fN),(.int .i64 zd.2.fRate.fD)]))]) (.cons rfl (.cons rfl (.cons rfl (.cons rfl (.cons rfl .nil))))) ?_
    refine WC.eqL (L':=[fz [],stb z1w 44 [(.slice z1Z zZ.length z20)],row (.slice z1Z zZ.length z20) 28 2 (zZ.flatMap e28),stb z1t 74 [(.int .i64 z5F)],blk z2w (z2B .ready none)]) rfl ?_
    refine WC.seq ?_
    refine WC.region ?_
    refine WL.new (dd:=7) rfl rfl rfl (e_alloc (cs:=[(.int .i64 0),(.int .i64 0),(.int .i64 0),(.int .i64 0)]) zeroT_42 rfl) ?_
    intro z4o _
    refine WL.eff0 rfl rfl (e_store (vs:=[(.int .i64 zd.1.fBurst.fN),(.int .i64 zd.1.fBurst.fD),(.int .i64 zd.1.fRate.fN),(.int .i64 zd.1.fRate.fD)]) (ds:=[(.int .i64 zd.1.fBurst.fN),(.int .i64 zd.1.fBurst.fD),(.int .i64 zd.1.fRate.fN),(.int .i64 zd.1.fRate.fD)]) sizT_42 rfl rfl rfl rfl (oc_cons rfl (oc_cons rfl (oc_cons rfl (oc_cons rfl oc_nil)))) .here (Nat.le_of_ble_eq_true rfl) rfl) ?_
    refine WL.nil ?_
    refine WX.then ?_
    refine WC.region ?_
    refine WL.new (dd:=8) rfl rfl rfl (e_alloc (cs:=[(.int .i64 0),(.int .i64 0),(.int .i64 0),(.int .i64 0)]) zeroT_42 rfl) ?_
    intro z4p _
    refine WL.eff0 rfl rfl (e_store (vs:=[(.int .i64 zd.2.fBurst.fN),(.int .i64 zd.2.fBurst.fD),(.int .i64 zd.2.fRate.fN),(.int .i64 zd.2.fRate.fD)]) (ds:=[(.int .i64 zd.2.fBurst.fN),(.int .i64 zd.2.fBurst.fD),(.int .i64 zd.2.fRate.fN),(.int .i64 zd.2.fRate.fD)]) sizT_42 rfl rfl rfl rfl (oc_cons rfl (oc_cons rfl (oc_cons rfl (oc_cons rfl oc_nil)))) .here (Nat.le_of_ble_eq_true rfl) rfl) ?_
    refine WL.nil ?_
    refine WX.begin zf1 (.there (.there (.there (.there (.there (.there .here)))))) ?_
    refine WC.block ?_
    refine WC.seq ?_
    obtain ⟨zhF,zrJ,z5c⟩:=zb z5c
    refine WC.region ?_
    refine WL.quiet (d:=19) rfl rfl rfl (q_fieldAddr fo_42_0 rfl rfl) ?_
    refine WL.quiet (d:=20) rfl rfl rfl (q_loadA (cs:=[(.int .i64 zd.1.fBurst.fN),(.int .i64 zd.1.fBurst.fD)]) aggT_28 rfl rfl (rd_sub (s:=2) (.there (.there .here)) rfl)) ?_
    refine WL.quiet (d:=21) rfl rfl rfl (q_fieldAddr fo_42_0 rfl rfl) ?_
    refine WL.quiet (d:=22) rfl rfl rfl (q_loadA (cs:=[(.int .i64 zd.2.fBurst.fN),(.int .i64 zd.2.fBurst.fD)]) aggT_28 rfl rfl (rd_sub (s:=2) (.there .here) rfl)) ?_
    refine WL.callD (dd:=23) rfl rfl rfl (zg (l:=[.tmp 20,.tmp 22]) Try.call17 (.cons rfl (.cons rfl .nil))) (.nil : Sel [blk z2w (z2B .busy none),stb z4p 42 [(.int .i64 zd.2.fBurst.fN),(.int .i64 zd.2.fBurst.fD),(.int .i64 zd.2.fRate.fN),(.int .i64 zd.2.fRate.fD)],stb z4o 42 [(.int .i64 zd.1.fBurst.fN),(.int .i64 zd.1.fBurst.fD),(.int .i64 zd.1.fRate.fN),(.int .i64 zd.1.fRate.fD)],fz [],stb z1w 44 [(.slice z1Z zZ.length z20)],row (.slice z1Z zZ.length z20) 28 2 (zZ.flatMap e28),stb z1t 74 [(.int .i64 z5F)]] [] [blk z2w (z2B .busy none),stb z4p 42 [(.int .i64 zd.2.fBurst.fN),(.int .i64 zd.2.fBurst.fD),(.int .i64 zd.2.fRate.fN),(.int .i64 zd.2.fRate.fD)],stb z4o 42 [(.int .i64 zd.1.fBurst.fN),(.int .i64 zd.1.fBurst.fD),(.int .i64 zd.1.fRate.fN),(.int .i64 zd.1.fRate.fD)],fz [],stb z1w 44 [(.slice z1Z zZ.length z20)],row (.slice z1Z zZ.length z20) 28 2 (zZ.flatMap e28),stb z1t 74 [(.int .i64 z5F)]]) (fun w hw=>by have pz:=(hz.call2 hw (.nil : Sel [blk z2w (z2B .busy none),stb z4p 42 [(.int .i64 zd.2.fBurst.fN),(.int .i64 zd.2.fBurst.fD),(.int .i64 zd.2.fRate.fN),(.int .i64 zd.2.fRate.fD)],stb z4o 42 [(.int .i64 zd.1.fBurst.fN),(.int .i64 zd.1.fBurst.fD),(.int .i64 zd.1.fRate.fN),(.int .i64 zd.1.fRate.fD)],fz [],stb z1w 44 [(.slice z1Z zZ.length z20)],row (.slice z1Z zZ.length z20) 28 2 (zZ.flatMap e28),stb z1t 74 [(.int .i64 z5F)]] [] [blk z2w (z2B .busy none),stb z4p 42 [(.int .i64 zd.2.fBurst.fN),(.int .i64 zd.2.fBurst.fD),(.int .i64 zd.2.fRate.fN),(.int .i64 zd.2.fRate.fD)],stb z4o 42 [(.int .i64 zd.1.fBurst.fN),(.int .i64 zd.1.fBurst.fD),(.int .i64 zd.1.fRate.fN),(.int .i64 zd.1.fRate.fD)],fz [],stb z1w 44 [(.slice z1Z zZ.length z20)],row (.slice z1Z zZ.length z20) 28 2 (zZ.flatMap e28),stb z1t 74 [(.int .i64 z5F)]]) (.there (.there (.there .here)))); exact w_rat_Cmp (Z:=_)  (z2s:=zd.1.fBurst) (z2t:=zd.2.fBurst) (r:=zhF) w pz  zrJ) ?_
    refine WL.quiet (d:=24) rfl rfl rfl (q_lss rfl rfl) ?_
    refine WL.nil ?_
    refine WX.then ?_
    refine WC.cond rfl (fun zhJ=>?_) (fun zhJ=>?_)
    ·replace z5c:=ite_t z5c zhJ
     obtain ⟨z73,zrK,z5c⟩:=zb z5c
     obtain ⟨z74,zrL,z5c⟩:=zb z5c
     obtain ⟨z6w,zrM,z5c⟩:=zb z5c
     obtain ⟨zrN,z5c⟩:=chk_elim z5c
     refine WC.draw (fun i=>[5,10,11,13,14].contains i) [stbp z1w 44 [(0,(.slice z1Z zZ.length z20))],stb z4o 42 [(.int .i64 zd.1.fBurst.fN),(.int .i64 zd.1.fBurst.fD),(.int .i64 zd.1.fRate.fN),(.int .i64 zd.1.fRate.fD)],stb z4p 42 [(.int .i64 zd.2.fBurst.fN),(.int .i64 zd.2.fBurst.fD),(.int .i64 zd.2.fRate.fN),(.int .i64 zd.2.fRate.fD)]] rfl ?_
     refine WD.stable (i:=0) (d:=25) (by kernel_rfl) rfl (z6 (by kernel_rfl)) (z7 (by kernel_rfl)) rfl rfl rfl (Sin.wk (.cons (.there (.there (.there (.there .here)))) (.cons (.there (.there .here)) (.cons (.there .here) .nil))) (.stb (.cons rfl .nil) (.same (.same .nil)))) (q_load1 oneT_44 rfl (rd_stbp .here (.head _))) ?_
     refine WD.pure (i:=1) (d:=26) (by kernel_rfl) rfl (z6 (by kernel_rfl)) (z7 (by kernel_rfl)) rfl rfl rfl (fun _=>q_fieldAddr fo_42_0 rfl rfl) ?_
     refine WD.quiet (i:=2) (d:=27) (by kernel_rfl) rfl (z6 (by kernel_rfl)) (z7 (by kernel_rfl)) rfl rfl rfl (q_loadA (cs:=[(.int .i64 zd.2.fBurst.fN),(.int .i64 zd.2.fBurst.fD)]) aggT_28 rfl rfl (rd_sub (s:=2) (.there .here) rfl)) ?_
     refine WD.pure (i:=3) (d:=28) (by kernel_rfl) rfl (z6 (by kernel_rfl)) (z7 (by kernel_rfl)) rfl rfl rfl (fun _=>q_fieldAddr fo_42_0 rfl rfl) ?_
     refine WD.quiet (i:=4) (d:=29) (by kernel_rfl) rfl (z6 (by kernel_rfl)) (z7 (by kernel_rfl)) rfl rfl rfl (q_loadA (cs:=[(.int .i64 zd.1.fBurst.fN),(.int .i64 zd.1.fBurst.fD)]) aggT_28 rfl rfl (rd_sub (s:=2) (.there (.there .here)) rfl)) ?_
     refine WD.pure (i:=6) (d:=31) (by kernel_rfl) rfl (z6 (by kernel_rfl)) (z7 (by kernel_rfl)) rfl rfl rfl (fun _=>q_fieldAddr fo_42_1 rfl rfl) ?_
     refine WD.stable (i:=7) (d:=32) (by kernel_rfl) rfl (z6 (by kernel_rfl)) (z7 (by kernel_rfl)) rfl rfl rfl (Sin.wk (.cons (.there (.there (.there (.there .here)))) (.cons (.there (.there .here)) (.cons (.there .here) .nil))) (.stb (.cons rfl .nil) (.same (.same .nil)))) (q_loadA (cs:=[(.int .i64 zd.1.fRate.fN),(.int .i64 zd.1.fRate.fD)]) aggT_28 rfl rfl (rd_sub (s:=2) (.there .here) rfl)) ?_
     refine WD.pure (i:=8) (d:=33) (by kernel_rfl) rfl (z6 (by kernel_rfl)) (z7 (by kernel_rfl)) rfl rfl rfl (fun _=>q_fieldAddr fo_42_1 rfl rfl) ?_
     refine WD.stable (i:=9) (d:=34) (by kernel_rfl) rfl (z6 (by kernel_rfl)) (z7 (by kernel_rfl)) rfl rfl rfl (Sin.wk (.cons (.there (.there (.there (.there .here)))) (.cons (.there (.there .here)) (.cons (.there .here) .nil))) (.stb (.cons rfl .nil) (.same (.same .nil)))) (q_loadA (cs:=[(.int .i64 zd.2.fRate.fN),(.int .i64 zd.2.fRate.fD)]) aggT_28 rfl rfl (rd_sub (s:=2) (.there (.there .here)) rfl)) ?_
     refine WD.call0 (i:=5) (dd:=30) rfl (by kernel_rfl) rfl rfl rfl (.inl ⟨rfl,(Sin.wk (.cons (.there (.there (.there (.there (.there .here))))) (.cons (.there (.there (.there .here))) (.cons (.there (.there .here)) .nil))) (.stb (.cons rfl .nil) (.same (.same .nil))))⟩) (zg (l:=[.tmp 4,.func 14,.tmp 27,.tmp 29]) Try.call47 (.cons rfl (.cons rfl (.cons rfl (.cons rfl .nil))))) ((.cons (.there (.there (.there (.there (.there (.there .here)))))) .nil) : Sel [blk z2w (z2B .busy none),stb z4p 42 [(.int .i64 zd.2.fBurst.fN),(.int .i64 zd.2.fBurst.fD),(.int .i64 zd.2.fRate.fN),(.int .i64 zd.2.fRate.fD)],stb z4o 42 [(.int .i64 zd.1.fBurst.fN),(.int .i64 zd.1.fBurst.fD),(.int .i64 zd.1.fRate.fN),(.int .i64 zd.1.fRate.fD)],fz [],stb z1w 44 [(.slice z1Z zZ.length z20)],row (.slice z1Z zZ.length z20) 28 2 (zZ.flatMap e28),stb z1t 74 [(.int .i64 z5F)]] [stb z1t 74 [(.int .i64 z5F)]] [blk z2w (z2B .busy none),stb z4p 42 [(.int .i64 zd.2.fBurst.fN),(.int .i64 zd.2.fBurst.fD),(.int .i64 zd.2.fRate.fN),(.int .i64 zd.2.fRate.fD)],stb z4o 42 [(.int .i64 zd.1.fBurst.fN),(.int .i64 zd.1.fBurst.fD),(.int .i64 zd.1.fRate.fN),(.int .i64 zd.1.fRate.fD)],fz [],stb z1w 44 [(.slice z1Z zZ.length z20)],row (.slice z1Z zZ.length z20) 28 2 (zZ.flatMap e28)]) (fun w hw=>by have pz:=(hz.call2 hw ((.cons (.there (.there (.there (.there (.there (.there .here)))))) .nil) : Sel [blk z2w (z2B .busy none),stb z4p 42 [(.int .i64 zd.2.fBurst.fN),(.int .i64 zd.2.fBurst.fD),(.int .i64 zd.2.fRate.fN),(.int .i64 zd.2.fRate.fD)],stb z4o 42 [(.int .i64 zd.1.fBurst.fN),(.int .i64 zd.1.fBurst.fD),(.int .i64 zd.1.fRate.fN),(.int .i64 zd.1.fRate.fD)],fz [],stb z1w 44 [(.slice z1Z zZ.length z20)],row (.slice z1Z zZ.length z20) 28 2 (zZ.flatMap e28),stb z1t 74 [(.int .i64 z5F)]] [stb z1t 74 [(.int .i64 z5F)]] [blk z2w (z2B .busy none),stb z4p 42 [(.int .i64 zd.2.fBurst.fN),(.int .i64 zd.2.fBurst.fD),(.int .i64 zd.2.fRate.fN),(.int .i64 zd.2.fRate.fD)],stb z4o 42 [(.int .i64 zd.1.fBurst.fN),(.int .i64 zd.1.fBurst.fD),(.int .i64 zd.1.fRate.fN),(.int .i64 zd.1.fRate.fD)],fz [],stb z1w 44 [(.slice z1Z zZ.length z20)],row (.slice z1Z zZ.length z20) 28 2 (zZ.flatMap e28)]) (.there (.there (.there .here)))); exact Calls.mono (w_curve_calc_do (Z:=_) (z5W:=z1t) (z6q:=14) (z6V:=[]) (z5U:=(⟨z5F⟩ : z5A)) (z7o:=(fun (y0 : z2) (y1 : z2)=>m_rat_Sub y0 y1)) (z4P:=zd.2.fBurst) (z4Q:=zd.1.fBurst) (r:=z73) w pz Try.call14 (fun w' hz' y0 y1  r  hr=>w_rat_Sub (Z:=_)  (z49:=y0) (z4a:=y1) (r:=r) w' hz'  hr) zrK (hw.owns ((.cons (.there (.there (.there (.there (.there (.there .here)))))) .nil) : Sel [blk z2w (z2B .busy none),stb z4p 42 [(.int .i64 zd.2.fBurst.fN),(.int .i64 zd.2.fBurst.fD),(.int .i64 zd.2.fRate.fN),(.int .i64 zd.2.fRate.fD)],stb z4o 42 [(.int .i64 zd.1.fBurst.fN),(.int .i64 zd.1.fBurst.fD),(.int .i64 zd.1.fRate.fN),(.int .i64 zd.1.fRate.fD)],fz [],stb z1w 44 [(.slice z1Z zZ.length z20)],row (.slice z1Z zZ.length z20) 28 2 (zZ.flatMap e28),stb z1t 74 [(.int .i64 z5F)]] [stb z1t 74 [(.int .i64 z5F)]] [blk z2w (z2B .busy none),stb z4p 42 [(.int .i64 zd.2.fBurst.fN),(.int .i64 zd.2.fBurst.fD),(.int .i64 zd.2.fRate.fN),(.int .i64 zd.2.fRate.fD)],stb z4o 42 [(.int .i64 zd.1.fBurst.fN),(.int .i64 zd.1.fBurst.fD),(.int .i64 zd.1.fRate.fN),(.int .i64 zd.1.fRate.fD)],fz [],stb z1w 44 [(.slice z1Z zZ.length z20)],row (.slice z1Z zZ.length z20) 28 2 (zZ.flatMap e28)]))) (fun _ _ h'=>⟨h'.1,trivial,h'.2⟩)) ?_
     intro _
     refine WD.call0 (i:=10) (dd:=35) rfl (by kernel_rfl) rfl rfl rfl (.inl ⟨rfl,(Sin.wk (.cons (.there (.there (.there (.there (.there .here))))) (.cons (.there (.there (.there .here))) (.cons (.there (.there .here)) .nil))) (.stb (.cons rfl .nil) (.same (.same .nil))))⟩) (zg (l:=[.tmp 4,.func 14,.tmp 32,.tmp 34]) Try.call47 (.cons rfl (.cons rfl (.cons rfl (.cons rfl .nil))))) ((.cons .here .nil) : Sel [stb z1t 74 [(.int .i64 z73.2.fE)],blk z2w (z2B .busy none),stb z4p 42 [(.int .i64 zd.2.fBurst.fN),(.int .i64 zd.2.fBurst.fD),(.int .i64 zd.2.fRate.fN),(.int .i64 zd.2.fRate.fD)],stb z4o 42 [(.int .i64 zd.1.fBurst.fN),(.int .i64 zd.1.fBurst.fD),(.int .i64 zd.1.fRate.fN),(.int .i64 zd.1.fRate.fD)],fz [],stb z1w 44 [(.slice z1Z zZ.length z20)],row (.slice z1Z zZ.length z20) 28 2 (zZ.flatMap e28)] [stb z1t 74 [(.int .i64 z73.2.fE)]] [blk z2w (z2B .busy none),stb z4p 42 [(.int .i64 zd.2.fBurst.fN),(.int .i64 zd.2.fBurst.fD),(.int .i64 zd.2.fRate.fN),(.int .i64 zd.2.fRate.fD)],stb z4o 42 [(.int .i64 zd.1.fBurst.fN),(.int .i64 zd.1.fBurst.fD),(.int .i64 zd.1.fRate.fN),(.int .i64 zd.1.fRate.fD)],fz [],stb z1w 44 [(.slice z1Z zZ.length z20)],row (.slice z1Z zZ.length z20) 28 2 (zZ.flatMap e28)]) (fun w hw=>by have pz:=(hz.call2 hw ((.cons .here .nil) : Sel [stb z1t 74 [(.int .i64 z73.2.fE)],blk z2w (z2B .busy none),stb z4p 42 [(.int .i64 zd.2.fBurst.fN),(.int .i64 zd.2.fBurst.fD),(.int .i64 zd.2.fRate.fN),(.int .i64 zd.2.fRate.fD)],stb z4o 42 [(.int .i64 zd.1.fBurst.fN),(.int .i64 zd.1.fBurst.fD),(.int .i64 zd.1.fRate.fN),(.int .i64 zd.1.fRate.fD)],fz [],stb z1w 44 [(.slice z1Z zZ.length z20)],row (.slice z1Z zZ.length z20) 28 2 (zZ.flatMap e28)] [stb z1t 74 [(.int .i64 z73.2.fE)]] [blk z2w (z2B .busy none),stb z4p 42 [(.int .i64 zd.2.fBurst.fN),(.int .i64 zd.2.fBurst.fD),(.int .i64 zd.2.fRate.fN),(.int .i64 zd.2.fRate.fD)],stb z4o 42 [(.int .i64 zd.1.fBurst.fN),(.int .i64 zd.1.fBurst.fD),(.int .i64 zd.1.fRate.fN),(.int .i64 zd.1.fRate.fD)],fz [],stb z1w 44 [(.slice z1Z zZ.length z20)],row (.slice z1Z zZ.length z20) 28 2 (zZ.flatMap e28)]) (.there (.there (.there .here)))); exact Calls.mono (w_curve_calc_do (Z:=_) (z5W:=z1t) (z6q:=14) (z6V:=[]) (z5U:=z73.2) (z7o:=(fun (y0 : z2) (y1 : z2)=>m_rat_Sub y0 y1)) (z4P:=zd.1.fRate) (z4Q:=zd.2.fRate) (r:=z74) w pz Try.call14 (fun w' hz' y0 y1  r  hr=>w_rat_Sub (Z:=_)  (z49:=y0) (z4a:=y1) (r:=r) w' hz'  hr) zrL (hw.owns ((.cons .here .nil) : Sel [stb z1t 74 [(.int .i64 z73.2.fE)],blk z2w (z2B .busy none),stb z4p 42 [(.int .i64 zd.2.fBurst.fN),(.int .i64 zd.2.fBurst.fD),(.int .i64 zd.2.fRate.fN),(.int .i64 zd.2.fRate.fD)],stb z4o 42 [(.int .i64 zd.1.fBurst.fN),(.int .i64 zd.1.fBurst.fD),(.int .i64 zd.1.fRate.fN),(.int .i64 zd.1.fRate.fD)],fz [],stb z1w 44 [(.slice z1Z zZ.length z20)],row (.slice z1Z zZ.length z20) 28 2 (zZ.flatMap e28)] [stb z1t 74 [(.int .i64 z73.2.fE)]] [blk z2w (z2B .busy none),stb z4p 42 [(.int .i64 zd.2.fBurst.fN),(.int .i64 zd.2.fBurst.fD),(.int .i64 zd.2.fRate.fN),(.int .i64 zd.2.fRate.fD)],stb z4o 42 [(.int .i64 zd.1.fBurst.fN),(.int .i64 zd.1.fBurst.fD),(.int .i64 zd.1.fRate.fN),(.int .i64 zd.1.fRate.fD)],fz [],stb z1w 44 [(.slice z1Z zZ.length z20)],row (.slice z1Z zZ.length z20) 28 2 (zZ.flatMap e28)]))) (fun _ _ h'=>⟨h'.1,trivial,h'.2⟩)) ?_
     intro _
     refine WD.call0 (i:=11) (dd:=36) rfl (by kernel_rfl) rfl rfl rfl (.inl ⟨rfl,(Sin.wk (.cons (.there (.there (.there (.there (.there .here))))) (.cons (.there (.there (.there .here))) (.cons (.there (.there .here)) .nil))) (.stb (.cons rfl .nil) (.same (.same .nil))))⟩) (zg (l:=[.tmp 4,.func 21,.tmp 30,.tmp 35]) Try.call47 (.cons rfl (.cons rfl (.cons rfl (.cons rfl .nil))))) ((.cons .here .nil) : Sel [stb z1t 74 [(.int .i64 z74.2.fE)],blk z2w (z2B .busy none),stb z4p 42 [(.int .i64 zd.2.fBurst.fN),(.int .i64 zd.2.fBurst.fD),(.int .i64 zd.2.fRate.fN),(.int .i64 zd.2.fRate.fD)],stb z4o 42 [(.int .i64 zd.1.fBurst.fN),(.int .i64 zd.1.fBurst.fD),(.int .i64 zd.1.fRate.fN),(.int .i64 zd.1.fRate.fD)],fz [],stb z1w 44 [(.slice z1Z zZ.length z20)],row (.slice z1Z zZ.length z20) 28 2 (zZ.flatMap e28)] [stb z1t 74 [(.int .i64 z74.2.fE)]] [blk z2w (z2B .busy none),stb z4p 42 [(.int .i64 zd.2.fBurst.fN),(.int .i64 zd.2.fBurst.fD),(.int .i64 zd.2.fRate.fN),(.int .i64 zd.2.fRate.fD)],stb z4o 42 [(.int .i64 zd.1.fBurst.fN),(.int .i64 zd.1.fBurst.fD),(.int .i64 zd.1.fRate.fN),(.int .i64 zd.1.fRate.fD)],fz [],stb z1w 44 [(.slice z1Z zZ.length z20)],row (.slice z1Z zZ.length z20) 28 2 (zZ.flatMap e28)]) (fun w hw=>by have pz:=(hz.call2 hw ((.cons .here .nil) : Sel [stb z1t 74 [(.int .i64 z74.2.fE)],blk z2w (z2B .busy none),stb z4p 42 [(.int .i64 zd.2.fBurst.fN),(.int .i64 zd.2.fBurst.fD),(.int .i64 zd.2.fRate.fN),(.int .i64 zd.2.fRate.fD)],stb z4o 42 [(.int .i64 zd.1.fBurst.fN),(.int .i64 zd.1.fBurst.fD),(.int .i64 zd.1.fRate.fN),(.int .i64 zd.1.fRate.fD)],fz [],stb z1w 44 [(.slice z1Z zZ.length z20)],row (.slice z1Z zZ.length z20) 28 2 (zZ.flatMap e28)] [stb z1t 74 [(.int .i64 z74.2.fE)]] [blk z2w (z2B .busy none),stb z4p 42 [(.int .i64 zd.2.fBurst.fN),(.int .i64 zd.2.fBurst.fD),(.int .i64 zd.2.fRate.fN),(.int .i64 zd.2.fRate.fD)],stb z4o 42 [(.int .i64 zd.1.fBurst.fN),(.int .i64 zd.1.fBurst.fD),(.int .i64 zd.1.fRate.fN),(.int .i64 zd.1.fRate.fD)],fz [],stb z1w 44 [(.slice z1Z zZ.length z20)],row (.slice z1Z zZ.length z20) 28 2 (zZ.flatMap e28)]) (.there (.there (.there .here)))); exact Calls.mono (w_curve_calc_do (Z:=_) (z5W:=z1t) (z6q:=21) (z6V:=[]) (z5U:=z74.2) (z7o:=(fun (y0 : z2) (y1 : z2)=>m_rat_Div y0 y1)) (z4P:=z73.1) (z4Q:=z74.1) (r:=z6w) w pz Try.call21 (fun w' hz' y0 y1  r  hr=>w_rat_Div (Z:=_)  (z4l:=y0) (z4m:=y1) (r:=r) w' hz'  hr) zrM (hw.owns ((.cons .here .nil) : Sel [stb z1t 74 [(.int .i64 z74.2.fE)],blk z2w (z2B .busy none),stb z4p 42 [(.int .i64 zd.2.fBurst.fN),(.int .i64 zd.2.fBurst.fD),(.int .i64 zd.2.fRate.fN),(.int .i64 zd.2.fRate.fD)],stb z4o 42 [(.int .i64 zd.1.fBurst.fN),(.int .i64 zd.1.fBurst.fD),(.int .i64 zd.1.fRate.fN),(.int .i64 zd.1.fRate.fD)],fz [],stb z1w 44 [(.slice z1Z zZ.length z20)],row (.slice z1Z zZ.length z20) 28 2 (zZ.flatMap e28)] [stb z1t 74 [(.int .i64 z74.2.fE)]] [blk z2w (z2B .busy none),stb z4p 42 [(.int .i64 zd.2.fBurst.fN),(.int .i64 zd.2.fBurst.fD),(.int .i64 zd.2.fRate.fN),(.int .i64 zd.2.fRate.fD)],stb z4o 42 [(.int .i64 zd.1.fBurst.fN),(.int .i64 zd.1.fBurst.fD),(.int .i64 zd.1.fRate.fN),(.int .i64 zd.1.fRate.fD)],fz [],stb z1w 44 [(.slice z1Z zZ.length z20)],row (.slice z1Z zZ.length z20) 28 2 (zZ.flatMap e28)]))) (fun _ _ h'=>⟨h'.1,trivial,h'.2⟩)) ?_
     intro _
     refine WD.new (i:=12) (dd:=37) rfl (by kernel_rfl) rfl rfl rfl (e_buildSlice (cs:=([z6w.1] : List z2).flatMap e28) elT_44 (Eos.parts (l:=[.tmp 36]) (.cons rfl .nil) [0]) (fun _=>by kernel_rfl) rfl (by unfold maxLen; omega)) (fun h'=>absurd h' (by decide)) ?_
     intro zxH _
     refine WD.old (i:=13) (dd:=38) rfl (by kernel_rfl) rfl rfl rfl rfl (fun _=>(Sin.wk (.cons (.there (.there (.there (.there (.there (.there (.there .here))))))) (.cons (.there (.there (.there (.there (.there .here))))) (.cons (.there (.there (.there (.there .here)))) .nil))) (.stb (.cons rfl .nil) (.same (.same .nil))))) (e_appendF (enc:=e28) (l1:=zZ) (l2:=([z6w.1] : List z2)) elT_44 rfl rfl (.there (.there (.there (.there (.there (.there (.there .here))))))) (fun _=>rfl) rfl rfl (news_row .here) (oc_flat e28_oc _) zrN) ?_
     rintro ⟨zdy,zdz⟩ _
     refine WD.last0 (i:=14) rfl (by kernel_rfl) rfl rfl rfl (by kernel_rfl) (e_store (vs:=[(.slice zdy ((zZ ++ ([z6w.1] : List z2)).length) zdz)]) (ds:=[(.slice zdy ((zZ ++ ([z6w.1] : List z2)).length) zdz)]) sizT_44 rfl rfl rfl rfl (oc_cons rfl oc_nil) (.there (.there (.there (.there (.there (.there (.there .here))))))) (Nat.le_of_ble_eq_true rfl) rfl) ?_
     refine WD.done (by kernel_rfl) ?_
     refine WX.blockNormal ?_
     obtain ⟨rfl,rfl⟩:=rf_inj z5c
     exact WX.rNormal zf1 (.there (.there (.there (.there .here)))) (fun w' hw'=>⟨(zdy,zdz),rfl,trivial,(hw'.selAll ((.cons (.there (.there (.there (.there (.there (.there (.there .here))))))) (.cons (.there .here) (.cons (.there .here) (.cons (.there (.there .here)) (.cons .here .nil))))) : Sel _ [fz [],stb z1w 44 [(.slice zdy ((zZ ++ ([z6w.1] : List z2)).length) zdz)],row (.slice zdy ((zZ ++ ([z6w.1] : List z2)).length) zdz) 28 2 ((zZ ++ ([z6w.1] : List z2)).flatMap e28),stb z1t 74 [(.int .i64 z6w.2.fE)],blk z2w (z2B .ready none)] _)).sub (.cons .here .nil)⟩)
    ·replace z5c:=ite_f z5c zhJ
     refine WC.skip ?_
     refine WX.blockNormal ?_
     obtain ⟨rfl,rfl⟩:=rf_inj z5c
     exact WX.rNormal zf1 .here (fun w' hw'=>⟨(z1Z,z20),rfl,trivial,(hw'.selAll ((.cons (.there (.there (.there .here))) (.cons (.there (.there (.there .here))) (.cons (.there (.there (.there .here))) (.cons (.there (.there (.there .here))) (.cons .here .nil))))) : Sel _ [fz [],stb z1w 44 [(.slice z1Z zZ.length z20)],row (.slice z1Z zZ.length z20) 28 2 (zZ.flatMap e28),stb z1t 74 [(.int .i64 z5F)],blk z2w (z2B .ready none)] _)).sub (.cons .here .nil)⟩)
   ·skip
    rintro _ w' ⟨⟨zdA,zdB⟩,rfl,_,hp⟩
    have hp1:=hw1.call ((.cons .here .nil) : Sel [allA [fz [],stb z1w 44 [(.slice none (([] : List z2).length) 0)],row (.slice none (([] : List z2).length) 0) 28 2 (([] : List z2).flatMap e28),stb z1t 74 [(.int .i64 0)],blk z2w (z2B .ready none)],dfr z65,stb z4D 25 [(.slice z4S z24.1.length z4T)],stb z4E 25 [(.slice z4U z24.2.length z4V)],fz z5b] [allA [fz [],stb z1w 44 [(.slice none (([] : List z2).length) 0)],row (.slice none (([] : List z2).length) 0) 28 2 (([] : List z2).flatMap e28),stb z1t 74 [(.int .i64 0)],blk z2w (z2B .ready none)]] [dfr z65,stb z4D 25 [(.slice z4S z24.1.length z4T)],stb z4E 25 [(.slice z4U z24.2.length z4V)],fz z5b]) hp
    have hp2 : Hp _ _ w' [fz [],stb z1w 44 [(.slice zdA z4C.2.1.length zdB)],row (.slice zdA z4C.2.1.length zdB) 28 2 (z4C.2.1.flatMap e28),stb z1t 74 [(.int .i64 z4C.2.2)],blk z2w (z2B (rdy (pcs [] z4C.1)) (pcs [] z4C.1)),dfr z65,stb z4D 25 [(.slice z4S z24.1.length z4T)],stb z4E 25 [(.slice z4U z24.2.length z4V)],fz z5b]:=hp1.pickAll .here
    refine ⟨_,pcs [] z4C.1,_,rfl,(hp2.sub ((.cons (.there (.there (.there (.there .here)))) (.cons .here (.cons .here (.cons .here (.cons .here (.cons .here (.cons .here (.cons .here (.cons .here .nil))))))))) : Sel _ [blk z2w (z2B (rdy (pcs [] z4C.1)) (pcs [] z4C.1)),fz [],stb z1w 44 [(.slice zdA z4C.2.1.length zdB)],row (.slice zdA z4C.2.1.length zdB) 28 2 (z4C.2.1.flatMap e28),stb z1t 74 [(.int .i64 z4C.2.2)],dfr z65,stb z4D 25 [(.slice z4S z24.1.length z4T)],stb z4E 25 [(.slice z4U z24.2.length z4V)],fz z5b] _)),?_⟩
    clear hp hp1 hp2 pz hw hw1
    refine wjN ?_
    letI : Rnd:=aft z65
    refine WX.merge .here (.there (.there (.there (.there (.there (.there .here)))))) ?_
    refine WX.blockNormal ?_
    exact WX.midR (D:=fun (g : Nat × Int × List z2 × Zp × Option Addr × Nat)=>g.1) (G:=Nat × Int × List z2 × Zp × Option Addr × Nat) ⟨z65,z4C.2.2,z4C.2.1,(z5b ++ []),zdA,zdB⟩ ⟨h,(zrz.trans ((Zle.left _ _).trans (Zle.assoc _ _ _)))⟩ (.cons rfl (.cons rfl .nil)) (.cons .here (.cons (.there (.there .here)) (.cons .here (.cons .here (.cons .here .nil)))))
  ·rintro z5G z4R z3y z5a z2Y z2Z ⟨h,zxI⟩
   replace h:=(zry z4R z3y).symm.trans h
   letI : Rnd:=aft z5G
   refine WC.seq ?_
   refine WC.seq ?_
   refine WC.region ?_
   refine WL.quiet (d:=39) rfl rfl rfl (q_fieldAddr fo_74_0 rfl rfl) ?_
   refine WL.quiet (d:=40) rfl rfl rfl (q_load1 oneT_30 rfl (rd_stb (.there .here) rfl)) ?_
   refine WL.quiet (d:=41) rfl rfl rfl (q_neq rfl rfl) ?_
   refine WL.nil ?_
   refine WX.then ?_
   refine WC.cond rfl (fun zhK=>?_) (fun zhK=>?_)
   ·replace h:=ite_t h zhK
    refine WC.seq ?_
    refine WC.draw (fun i=>[].contains i) [] rfl ?_
    refine WD.pure (i:=0) (d:=42) (by kernel_rfl) rfl (z6 (by kernel_rfl)) (z7 (by kernel_rfl)) rfl rfl rfl (fun _=>q_fieldAddr fo_74_0 rfl rfl) ?_
    refine WD.quiet (i:=1) (d:=43) (by kernel_rfl) rfl (z6 (by kernel_rfl)) (z7 (by kernel_rfl)) rfl rfl rfl (q_load1 oneT_30 rfl (rd_stb (.there .here) rfl)) ?_
    refine WD.pure (i:=2) (d:=2) (by kernel_rfl) rfl (z6 (by kernel_rfl)) (z7 (by kernel_rfl)) rfl rfl rfl (fun _=>q_assign rfl) ?_
    refine WD.pure (i:=3) (d:=3) (by kernel_rfl) rfl (z6 (by kernel_rfl)) (z7 (by kernel_rfl)) rfl rfl rfl (fun _=>q_assign rfl) ?_
    refine WD.done (by kernel_rfl) ?_
    refine WX.then ?_
    refine WC.ret ?_
    refine WX.thenRet ?_
    refine WX.nilRow 28 2 ?_
    obtain rfl:=Option.some.inj h
    refine WX.bpRetD (.there (.there (.there (.there (.there .here))))) Try.results20 (.tmp rfl (.tmp rfl .nil)) (fun w hw=>?_)
    exact ⟨z5a,none,0,ret2 rfl rfl,trivial,hw.sub (.cons (.there (.there .here)) (.cons (.there .here) .nil))⟩
   ·replace h:=ite_f h zhK
    refine WC.skip ?_
    refine WX.then ?_
    refine WC.seq ?_
    obtain ⟨z4n,zrO,h⟩:=zb h
    refine WC.region ?_
    refine WL.quiet (d:=44) rfl rfl rfl (q_load1 oneT_44 rfl (rd_stb (.there (.there .here)) rfl)) ?_
    refine WL.enter0 (dd:=45) rfl rfl rfl (zg (l:=[.tmp 44,.func 17]) Try.call48 (.cons rfl (.cons rfl .nil))) ((.cons (.there (.there (.there .here))) .nil) : Sel [fz z5a,stb z1t 74 [(.int .i64 z4R)],stb z1w 44 [(.slice z2Y z3y.length z2Z)],row (.slice z2Y z3y.length z2Z) 28 2 (z3y.flatMap e28),dfr z5G] [row (.slice z2Y z3y.length z2Z) 28 2 (z3y.flatMap e28)] [fz z5a,stb z1t 74 [(.int .i64 z4R)],stb z1w 44 [(.slice z2Y z3y.length z2Z)],dfr z5G]) (fun w hw=>by have pz:=(hz.call2 hw ((.cons (.there (.there (.there .here))) .nil) : Sel [fz z5a,stb z1t 74 [(.int .i64 z4R)],stb z1w 44 [(.slice z2Y z3y.length z2Z)],row (.slice z2Y z3y.length z2Z) 28 2 (z3y.flatMap e28),dfr z5G] [row (.slice z2Y z3y.length z2Z) 28 2 (z3y.flatMap e28)] [fz z5a,stb z1t 74 [(.int .i64 z4R)],stb z1w 44 [(.slice z2Y z3y.length z2Z)],dfr z5G]) .here); exact w_slices_SortFunc_api_Rat_api_Rat (Z:=_) (z4x:=z2Y) (z4y:=z2Z) (z9U:=17) (zbQ:=[]) (z2v:=z3y) (zbP:=(fun (y0 : z2) (y1 : z2)=>m_rat_Cmp y0 y1)) (r:=z4n) w pz Try.call17 (fun w' hz' y0 y1  r  hr=>w_rat_Cmp (Z:=_)  (z2s:=y0) (z2t:=y1) (r:=r) w' hz'  hr) zrO (hw.owns ((.cons (.there (.there (.there .here))) .nil) : Sel [fz z5a,stb z1t 74 [(.int .i64 z4R)],stb z1w 44 [(.slice z2Y z3y.length z2Z)],row (.slice z2Y z3y.length z2Z) 28 2 (z3y.flatMap e28),dfr z5G] [row (.slice z2Y z3y.length z2Z) 28 2 (z3y.flatMap e28)] [fz z5a,stb z1t 74 [(.int .i64 z4R)],stb z1w 44 [(.slice z2Y z3y.length z2Z)],dfr z5G]))) ?_
    rintro  zrP
    refine WL.restb (cs':=[(.slice z2Y z4n.length z2Z)]) (.there (.there (.there .here))) (by rw [zrP]) ?_
    refine WL.nil ?_
    refine WX.then ?_
    refine WC.seq ?_
    obtain ⟨zhG,zrQ,h⟩:=zb h
    refine WC.region ?_
    refine WL.quiet (d:=46) rfl rfl rfl (q_load1 oneT_44 rfl (rd_stb .here rfl)) ?_
    refine WL.enter2 (dd:=47) rfl rfl rfl (zg (l:=[.tmp 46]) Try.call49 (.cons rfl .nil)) ((.cons (.there .here) .nil) : Sel [stb z1w 44 [(.slice z2Y z4n.length z2Z)],row (.slice z2Y z4n.length z2Z) 28 2 (z4n.flatMap e28),fz z5a,stb z1t 74 [(.int .i64 z4R)],dfr z5G] [row (.slice z2Y z4n.length z2Z) 28 2 (z4n.flatMap e28)] [stb z1w 44 [(.slice z2Y z4n.length z2Z)],fz z5a,stb z1t 74 [(.int .i64 z4R)],dfr z5G]) (fun w hw=>by have pz:=(hz.call2 hw ((.cons (.there .here) .nil) : Sel [stb z1w 44 [(.slice z2Y z4n.length z2Z)],row (.slice z2Y z4n.length z2Z) 28 2 (z4n.flatMap e28),fz z5a,stb z1t 74 [(.int .i64 z4R)],dfr z5G] [row (.slice z2Y z4n.length z2Z) 28 2 (z4n.flatMap e28)] [stb z1w 44 [(.slice z2Y z4n.length z2Z)],fz z5a,stb z1t 74 [(.int .i64 z4R)],dfr z5G]) (.there .here)); exact w_slices_Compact_api_Rat_api_Rat (Z:=_) (z7A:=z2Y) (z7B:=z2Z) (z1v:=z4n) (r:=zhG) w pz  zrQ (hw.owns ((.cons (.there .here) .nil) : Sel [stb z1w 44 [(.slice z2Y z4n.length z2Z)],row (.slice z2Y z4n.length z2Z) 28 2 (z4n.flatMap e28),fz z5a,stb z1t 74 [(.int .i64 z4R)],dfr z5G] [row (.slice z2Y z4n.length z2Z) 28 2 (z4n.flatMap e28)] [stb z1w 44 [(.slice z2Y z4n.length z2Z)],fz z5a,stb z1t 74 [(.int .i64 z4R)],dfr z5G]))) ?_
    rintro zrR zrS _
    refine WL.quiet (d:=2) rfl rfl rfl (q_assign rfl) ?_
    refine WL.quiet (d:=3) rfl rfl rfl (q_assign rfl) ?_
    refine WL.nil ?_
    refine WX.then ?_
    refine WC.ret ?_
    obtain rfl:=Option.some.inj h
    refine WX.bpRetD (.there (.there (.there (.there .here)))) Try.results20 (.tmp rfl (.tmp rfl .nil)) (fun w hw=>?_)
    exact ⟨z5a,zrR,zrS,ret2 rfl rfl,trivial,hw.sub (.cons (.there (.there (.there .here))) (.cons (.there .here) .nil))⟩
def m_curve_Shift_L2 (zS : List z1) (z1O : z2) (z8I : (List z1) → Int → Option (List z1 × Int)) : Nat → (List z1) → Int → Int → Option (List z1 × Int)
 | 0,_,_,_=>none
 | zhL + 1,z3h,z11,z5d=>if decide (z11 < ((zS.length : Nat) : Int)) then chk ((0 : Int) ≤ z11 ∧ z11 < ((zS.length : Nat) : Int)) ((m_curve_calc_value (⟨z5d⟩ : z5A) (⟨(⟨(((nth zS z11).fBurst).fN),(((nth zS z11).fBurst).fD)⟩ : z2),(⟨(((nth zS z11).fRate).fN),(((nth zS z11).fRate).fD)⟩ : z2)⟩ : z1) z1O).bind fun z78=>chk ((((z3h ++ ([(⟨z78.1,(⟨(((nth zS z11).fRate).fN),(((nth zS z11).fRate).fD)⟩ : z2)⟩ : z1)] : List z1)).length : Nat) : Int) * 32 ≤ 140737488355328 ∧ (((z3h ++ ([(⟨z78.1,(⟨(((nth zS z11).fRate).fN),(((nth zS z11).fRate).fD)⟩ : z2)⟩ : z1)] : List z1)).length : Nat) : Int) ≤ 4611686018427387904) (m_curve_Shift_L2 zS z1O z8I zhL (z3h ++ ([(⟨z78.1,(⟨(((nth zS z11).fRate).fN),(((nth zS z11).fRate).fD)⟩ : z2)⟩ : z1)] : List z1)) (i64 (z11 + 1)) z78.2.fE)) else z8I z3h z5d
theorem m_curve_Shift_L2_fuel {n : Nat} {zS : List z1} {z1O : z2} {z8I : (List z1) → Int → Option (List z1 × Int)} {z3h : List z1} {z11 : Int} {z5d : Int} {r : List z1 × Int} (h : m_curve_Shift_L2 zS z1O z8I n z3h z11 z5d = some r) : ∃ m,n = m + 1:=by
 cases n with
 | zero=>cases h
 | succ m=>exact ⟨m,rfl⟩
def m_curve_Shift (zS : List z1) (z1O : z2) : Option (List z1 × Int) :=
 (m_curve_Valid zS).bind fun zf2=>(if !zf2 then some true else (m_curve_good z1O).bind fun zhM=>some (!zhM)).bind fun zhN=>if zhN then some (([] : List z1),2) else jp2 (fun (z2Q : List z1) (z5H : Int)=>if decide (z5H ≠ 0) then some (([] : List z1),z5H) else (m_curve_norm z2Q).bind fun zhO=>some (zhO,0)) fun z8I=>m_curve_Shift_L2 zS z1O z8I FUEL ([] : List z1) 0 0
set_option maxRecDepth 20000 in
theorem w_curve_Shift (Z : Zp)  (z8J : Option Addr) (z8K : Nat) (zS : List z1) (z1O : z2) (r : List z1 × Int) (w₀ : World) (hz : PZ [] w₀ Z)
  (zmz : ZS Z 4 (fun r x=>r = e42 x) z8J z8K zS)
  (h : m_curve_Shift zS z1O = some r) :
  Calls Try.prog 34 #[(.slice z8J zS.length z8K),(.agg #[(.int .i64 z1O.fN),(.int .i64 z1O.fD)])] w₀ fun e w'=>∃ zmA : Option Addr,∃ zmB : Nat,e = .returned (.tuple #[(.slice zmA r.1.length zmB),(.int .i64 r.2)]) ∧ True ∧ Hp [] w₀ w' [row (.slice zmA r.1.length zmB) 42 4 (r.1.flatMap e42)]:=by
 unfold m_curve_Shift at h
 refine Calls.ofWC (vs:=[(.slice z8J zS.length z8K),(.agg #[(.int .i64 z1O.fN),(.int .i64 z1O.fD)])]) (pre:=[]) (env:=[(0,(.slice z8J zS.length z8K)),(1,(.agg #[(.int .i64 z1O.fN),(.int .i64 z1O.fD)]))]) Try.func34 rfl Try.ntmps34 rfl (Hp.nil w₀ _) rfl ?_
 refine WC.seq ?_
 refine WC.region ?_
 refine WL.new (dd:=3) rfl rfl rfl (e_box (cs:=[(.int .i64 z1O.fN),(.int .i64 z1O.fD)]) rfl rfl) ?_
 intro z5s _
 refine WL.quiet (d:=4) rfl rfl rfl (q_assign rfl) ?_
 refine WL.quiet (d:=5) rfl rfl rfl (q_assign rfl) ?_
 refine WL.nil ?_
 refine WX.then ?_
 refine WC.seq ?_
 refine WC.seq ?_
 obtain ⟨zf2,zrT,h⟩:=zb h
 obtain ⟨zhN,zmC,h⟩:=zb h
 refine WC.region ?_
 refine WL.quiet (d:=10) rfl rfl rfl (q_move rfl) ?_
 refine WL.callD (dd:=11) rfl rfl rfl (zg (l:=[.tmp 10]) Try.call26 (.cons rfl .nil)) (.nil : Sel [stb z5s 28 [(.int .i64 z1O.fN),(.int .i64 z1O.fD)]] [] [stb z5s 28 [(.int .i64 z1O.fN),(.int .i64 z1O.fD)]]) (fun w hw=>by have pz:=(hz.call hw (.nil : Sel [stb z5s 28 [(.int .i64 z1O.fN),(.int .i64 z1O.fD)]] [] [stb z5s 28 [(.int .i64 z1O.fN),(.int .i64 z1O.fD)]])); exact w_curve_Valid (Z:=_) (z5S:=z8J) (z5T:=z8K) (z3S:=zS) (r:=zf2) w pz zmz zrT) ?_
 refine WL.quiet (d:=12) rfl rfl rfl (q_not rfl) ?_
 refine WL.quiet (d:=13) rfl rfl rfl (q_move rfl) ?_
 refine WL.cut0 True [(0,(.slice z8J zS.length z8K)),(3,(.pointer (some ⟨z5s,0,none⟩))),(17,(.bool zhN))] [stb z5s 28 [(.int .i64 z1O.fN),(.int .i64 z1O.fD)]] 4 ?_ (fun _=>?_)
 ·rcases Bool.eq_false_or_eq_true (!zf2) with hb' | hb'
  ·have zmD:=hb'; clear hb'
   have zhP:=ite_t zmC zmD
   replace zhP:=Option.some.inj zhP
   refine WL.pin (i:=13) rfl zmD ?_
   refine WL.skip rfl rfl rfl ?_
   refine WL.skip rfl rfl rfl ?_
   refine WL.skip rfl rfl rfl ?_
   refine WL.quiet (d:=17) rfl rfl rfl (q_pickT rfl rfl) ?_
   exact WL.cutEnd () trivial (.cons rfl (.cons rfl (.cons (zl zhP) .nil))) (.cons .here .nil)
  ·have zmE:=hb'; clear hb'
   have zdC:=ite_f zmC zmE
   obtain ⟨zhM,zrU,zdC⟩:=zb zdC
   replace zdC:=Option.some.inj zdC
   refine WL.pin (i:=13) rfl zmE ?_
   refine WL.quiet (d:=14) rfl rfl rfl (q_loadA (cs:=[(.int .i64 z1O.fN),(.int .i64 z1O.fD)]) aggT_28 rfl rfl (rd_all .here)) ?_
   refine WL.callD (dd:=15) rfl rfl rfl (zg (l:=[.tmp 14]) Try.call50 (.cons rfl .nil)) (.nil : Sel [stb z5s 28 [(.int .i64 z1O.fN),(.int .i64 z1O.fD)]] [] [stb z5s 28 [(.int .i64 z1O.fN),(.int .i64 z1O.fD)]]) (fun w hw=>by have pz:=(hz.call hw (.nil : Sel [stb z5s 28 [(.int .i64 z1O.fN),(.int .i64 z1O.fD)]] [] [stb z5s 28 [(.int .i64 z1O.fN),(.int .i64 z1O.fD)]])); exact w_curve_good (Z:=_)  (z3f:=z1O) (r:=zhM) w pz  zrU) ?_
   refine WL.quiet (d:=16) rfl rfl rfl (q_not rfl) ?_
   refine WL.quiet (d:=17) rfl rfl rfl (q_pickF rfl rfl) ?_
   exact WL.cutEnd () trivial (.cons rfl (.cons rfl (.cons (zl zdC) .nil))) (.cons .here .nil)
 ·skip
  refine WL.nil ?_
  refine WX.then ?_
  refine WC.cond rfl (fun zhQ=>?_) (fun zhQ=>?_)
  ·replace h:=ite_t h zhQ
   refine WC.seq ?_
   refine WC.region ?_
   refine WL.quiet (d:=4) rfl rfl rfl (q_assign rfl) ?_
   refine WL.quiet (d:=5) rfl rfl rfl (q_assign rfl) ?_
   refine WL.nil ?_
   refine WX.then ?_
   refine WC.ret ?_
   refine WX.thenRet ?_
   refine WX.nilRow 42 4 ?_
   obtain rfl:=Option.some.inj h
   refine WX.bpRet Try.results34 (.tmp rfl (.tmp rfl .nil)) (fun w hw=>?_)
   exact ⟨none,0,ret2 rfl rfl,trivial,hw.sub (.cons .here .nil)⟩
  ·replace h:=ite_f h zhQ
   refine WC.skip ?_
   refine WX.then ?_
   refine WC.seq ?_
   refine WC.region ?_
   refine WL.new (dd:=6) rfl rfl rfl (e_alloc (cs:=[(.int .i64 0)]) zeroT_74 rfl) ?_
   intro z5e _
   refine WL.nil ?_
   refine WX.then ?_
   refine WC.seq ?_
   refine WC.region ?_
   refine WL.quiet (d:=7) rfl rfl rfl (q_assign rfl) ?_
   refine WL.nil ?_
   refine WX.then ?_
   obtain ⟨z8I,zrV,h⟩:=jp2_elim h
   refine WC.seqMid4 (fun (z2Q : List z1) (z5H : Int) (z5t : Option Addr) (z5u : Nat)=>(z8I z2Q z5H = some r)) (fun (z2Q : List z1) (z5H : Int) (z5t : Option Addr) (z5u : Nat)=>[(6,(.pointer (some ⟨z5e,0,none⟩))),(7,(.slice z5t z2Q.length z5u))]) (fun (z2Q : List z1) (z5H : Int) (z5t : Option Addr) (z5u : Nat)=>[row (.slice z5t z2Q.length z5u) 42 4 (z2Q.flatMap e42),stb z5e 74 [(.int .i64 z5H)]]) ?_ ?_
   ·skip
    refine WC.seq ?_
    refine WC.region ?_
    refine WL.quiet (d:=18) rfl rfl rfl (q_move rfl) ?_
    refine WL.quiet (d:=19) rfl rfl rfl (q_len Try.underlying25 rfl) ?_
    refine WL.quiet (d:=20) rfl rfl rfl (q_move rfl) ?_
    refine WL.nil ?_
    refine WX.then ?_
    refine WC.block ?_
    refine WC.nilRow 42 4 ?_
    refine WC.loop6 (fun (zbZ : Nat) (z3h : List z1) (z11 : Int) (z5d : Int) (z6I : Option Addr) (z6J : Nat)=>(m_curve_Shift_L2 zS z1O z8I zbZ z3h z11 z5d = some r)) (fun (zbZ : Nat) (z3h : List z1) (z11 : Int) (z5d : Int) (z6I : Option Addr) (z6J : Nat)=>[(3,(.pointer (some ⟨z5s,0,none⟩))),(6,(.pointer (some ⟨z5e,0,none⟩))),(7,(.slice z6I z3h.length z6J)),(18,(.slice z8J zS.length z8K)),(19,(.int .i64 ((zS.length : Nat) : Int))),(20,(.int .i64 z11))]) (fun (zbZ : Nat) (z3h : List z1) (z11 : Int) (z5d : Int) (z6I : Option Addr) (z6J : Nat)=>[row (.slice z6I z3h.length z6J) 42 4 (z3h.flatMap e42),stb z5s 28 [(.int .i64 z1O.fN),(.int .i64 z1O.fD)],stb z5e 74 [(.int .i64 z5d)]]) (fun (zbZ : Nat) (z3h : List z1) (z11 : Int) (z5d : Int) (z6I : Option Addr) (z6J : Nat)=>zbZ) ⟨FUEL,([] : List z1),0,0,none,0⟩ h (.cons rfl (.cons rfl (.cons rfl (.cons rfl (.cons rfl (.cons rfl .nil)))))) (.cons .here (.cons (.there .here) (.cons .here .nil))) ?_
    rintro zbZ z3h z11 z5d z6I z6J h
    obtain ⟨zhL,rfl⟩:=m_curve_Shift_L2_fuel h
    rw [m_curve_Shift_L2] at h
    refine WC.seq ?_
    refine WC.region ?_
    refine WL.quiet (d:=21) rfl rfl rfl (q_lss rfl rfl) ?_
    refine WL.nil ?_
    refine WX.then ?_
    refine WC.seq ?_
    refine WC.cond rfl (fun zhR=>?_) (fun zhR=>?_)
    ·replace h:=ite_t h zhR
     refine WC.skip ?_
     refine WX.then ?_
     refine WC.seq ?_
     refine WC.block ?_
     refine WC.seq ?_
     obtain ⟨zrW,h⟩:=chk_elim h
     refine WC.region ?_
     refine WL.znth (dd:=22) rfl rfl (Z:=Z) (Pr:=(fun r x=>r = e42 x)) elT_25 rfl rfl zmz zrW ?_
     rintro zxJ zxK zrX zxL rfl
     refine WL.quiet (d:=23) rfl rfl rfl (q_loadA (cs:=[(.int .i64 (((nth zS z11).fBurst).fN)),(.int .i64 (((nth zS z11).fBurst).fD)),(.int .i64 (((nth zS z11).fRate).fN)),(.int .i64 (((nth zS z11).fRate).fD))]) aggT_42 rfl rfl (rd_zs hz.pv zrX)) ?_
     refine WL.new (dd:=9) rfl rfl rfl (e_alloc (cs:=[(.int .i64 0),(.int .i64 0),(.int .i64 0),(.int .i64 0)]) zeroT_42 rfl) ?_
     intro zaK _
     refine WL.eff0 rfl rfl (e_store (vs:=[(.int .i64 (((nth zS z11).fBurst).fN)),(.int .i64 (((nth zS z11).fBurst).fD)),(.int .i64 (((nth zS z11).fRate).fN)),(.int .i64 (((nth zS z11).fRate).fD))]) (ds:=[(.int .i64 (((nth zS z11).fBurst).fN)),(.int .i64 (((nth zS z11).fBurst).fD)),(.int .i64 (((nth zS z11).fRate).fN)),(.int .i64 (((nth zS z11).fRate).fD))]) sizT_42 rfl rfl rfl rfl (oc_cons rfl (oc_cons rfl (oc_cons rfl (oc_cons rfl oc_nil)))) .here (Nat.le_of_ble_eq_true rfl) rfl) ?_
     refine WL.nil ?_
     refine WX.then ?_
     obtain ⟨z78,zrY,h⟩:=zb h
     obtain ⟨zrZ,h⟩:=chk_elim h
     refine WC.draw (fun i=>[3,8].contains i) [stb zaK 42 [(.int .i64 (((nth zS z11).fBurst).fN)),(.int .i64 (((nth zS z11).fBurst).fD)),(.int .i64 (((nth zS z11).fRate).fN)),(.int .i64 (((nth zS z11).fRate).fD))]] rfl ?_
     refine WD.pure (i:=0) (d:=24) (by kernel_rfl) rfl (z6 (by kernel_rfl)) (z7 (by kernel_rfl)) rfl rfl rfl (fun _=>q_move rfl) ?_
     refine WD.quiet (i:=1) (d:=25) (by kernel_rfl) rfl (z6 (by kernel_rfl)) (z7 (by kernel_rfl)) rfl rfl rfl (q_loadA (cs:=[(.int .i64 (((nth zS z11).fBurst).fN)),(.int .i64 (((nth zS z11).fBurst).fD)),(.int .i64 (((nth zS z11).fRate).fN)),(.int .i64 (((nth zS z11).fRate).fD))]) aggT_42 rfl rfl (rd_all .here)) ?_
     refine WD.quiet (i:=2) (d:=26) (by kernel_rfl) rfl (z6 (by kernel_rfl)) (z7 (by kernel_rfl)) rfl rfl rfl (q_loadA (cs:=[(.int .i64 z1O.fN),(.int .i64 z1O.fD)]) aggT_28 rfl rfl (rd_all (.there (.there .here)))) ?_
     refine WD.pure (i:=4) (d:=28) (by kernel_rfl) rfl (z6 (by kernel_rfl)) (z7 (by kernel_rfl)) rfl rfl rfl (fun _=>q_fieldAddr fo_42_1 rfl rfl) ?_
     refine WD.stable (i:=5) (d:=29) (by kernel_rfl) rfl (z6 (by kernel_rfl)) (z7 (by kernel_rfl)) rfl rfl rfl (Sin.of (.cons .here .nil)) (q_loadA (cs:=[(.int .i64 (((nth zS z11).fRate).fN)),(.int .i64 (((nth zS z11).fRate).fD))]) aggT_28 rfl rfl (rd_sub (s:=2) .here rfl)) ?_
     refine WD.call0 (i:=3) (dd:=27) rfl (by kernel_rfl) rfl rfl rfl (.inl ⟨rfl,(Sin.of (.cons (.there .here) .nil))⟩) (zg (l:=[.tmp 6,.tmp 25,.tmp 26]) Try.call51 (.cons rfl (.cons rfl (.cons rfl .nil)))) ((.cons (.there (.there (.there .here))) .nil) : Sel [stb zaK 42 [(.int .i64 (((nth zS z11).fBurst).fN)),(.int .i64 (((nth zS z11).fBurst).fD)),(.int .i64 (((nth zS z11).fRate).fN)),(.int .i64 (((nth zS z11).fRate).fD))],row (.slice z6I z3h.length z6J) 42 4 (z3h.flatMap e42),stb z5s 28 [(.int .i64 z1O.fN),(.int .i64 z1O.fD)],stb z5e 74 [(.int .i64 z5d)]] [stb z5e 74 [(.int .i64 z5d)]] [stb zaK 42 [(.int .i64 (((nth zS z11).fBurst).fN)),(.int .i64 (((nth zS z11).fBurst).fD)),(.int .i64 (((nth zS z11).fRate).fN)),(.int .i64 (((nth zS z11).fRate).fD))],row (.slice z6I z3h.length z6J) 42 4 (z3h.flatMap e42),stb z5s 28 [(.int .i64 z1O.fN),(.int .i64 z1O.fD)]]) (fun w hw=>by have pz:=(hz.call hw ((.cons (.there (.there (.there .here))) .nil) : Sel [stb zaK 42 [(.int .i64 (((nth zS z11).fBurst).fN)),(.int .i64 (((nth zS z11).fBurst).fD)),(.int .i64 (((nth zS z11).fRate).fN)),(.int .i64 (((nth zS z11).fRate).fD))],row (.slice z6I z3h.length z6J) 42 4 (z3h.flatMap e42),stb z5s 28 [(.int .i64 z1O.fN),(.int .i64 z1O.fD)],stb z5e 74 [(.int .i64 z5d)]] [stb z5e 74 [(.int .i64 z5d)]] [stb zaK 42 [(.int .i64 (((nth zS z11).fBurst).fN)),(.int .i64 (((nth zS z11).fBurst).fD)),(.int .i64 (((nth zS z11).fRate).fN)),(.int .i64 (((nth zS z11).fRate).fD))],row (.slice z6I z3h.length z6J) 42 4 (z3h.flatMap e42),stb z5s 28 [(.int .i64 z1O.fN),(.int .i64 z1O.fD)]])); exact Calls.mono (w_curve_calc_value (Z:=_) (z43:=z5e) (z5C:=(⟨z5d⟩ : z5A)) (z13:=(⟨(⟨(((nth zS z11).fBurst).fN),(((nth zS z11).fBurst).fD)⟩ : z2),(⟨(((nth zS z11).fRate).fN),(((nth zS z11).fRate).fD)⟩ : z2)⟩ : z1)) (z2D:=z1O) (r:=z78) w pz  zrY (hw.owns ((.cons (.there (.there (.there .here))) .nil) : Sel [stb zaK 42 [(.int .i64 (((nth zS z11).fBurst).fN)),(.int .i64 (((nth zS z11).fBurst).fD)),(.int .i64 (((nth zS z11).fRate).fN)),(.int .i64 (((nth zS z11).fRate).fD))],row (.slice z6I z3h.length z6J) 42 4 (z3h.flatMap e42),stb z5s 28 [(.int .i64 z1O.fN),(.int .i64 z1O.fD)],stb z5e 74 [(.int .i64 z5d)]] [stb z5e 74 [(.int .i64 z5d)]] [stb zaK 42 [(.int .i64 (((nth zS z11).fBurst).fN)),(.int .i64 (((nth zS z11).fBurst).fD)),(.int .i64 (((nth zS z11).fRate).fN)),(.int .i64 (((nth zS z11).fRate).fD))],row (.slice z6I z3h.length z6J) 42 4 (z3h.flatMap e42),stb z5s 28 [(.int .i64 z1O.fN),(.int .i64 z1O.fD)]]))) (fun _ _ h'=>⟨h'.1,trivial,h'.2⟩)) ?_
     intro _
     refine WD.quiet (i:=6) (d:=30) (by kernel_rfl) rfl (z6 (by kernel_rfl)) (z7 (by kernel_rfl)) rfl rfl rfl (q_build (v:=(.agg #[(.int .i64 z78.1.fN),(.int .i64 z78.1.fD),(.int .i64 (((nth zS z11).fRate).fN)),(.int .i64 (((nth zS z11).fRate).fD))])) (Eos.parts (l:=[.tmp 27,.tmp 29]) (.cons rfl (.cons rfl .nil)) [0,1]) (fun _=>by kernel_rfl)) ?_
     refine WD.new (i:=7) (dd:=31) rfl (by kernel_rfl) rfl rfl rfl (e_buildSlice (cs:=([(⟨z78.1,(⟨(((nth zS z11).fRate).fN),(((nth zS z11).fRate).fD)⟩ : z2)⟩ : z1)] : List z1).flatMap e42) elT_25 (Eos.parts (l:=[.tmp 30]) (.cons rfl .nil) [0]) (fun _=>by kernel_rfl) rfl (by unfold maxLen; omega)) (fun h'=>absurd h' (by decide)) ?_
     intro zxM _
     refine WD.old (i:=8) (dd:=32) rfl (by kernel_rfl) rfl rfl rfl rfl (fun _=>(Sin.of (.cons (.there (.there (.there .here))) .nil))) (e_appendF (enc:=e42) (l1:=z3h) (l2:=([(⟨z78.1,(⟨(((nth zS z11).fRate).fN),(((nth zS z11).fRate).fD)⟩ : z2)⟩ : z1)] : List z1)) elT_25 rfl rfl (.there (.there (.there .here))) (fun _=>rfl) rfl rfl (news_row .here) (oc_flat e42_oc _) zrZ) ?_
     rintro ⟨zs0,zs1⟩ _
     refine WD.pure (i:=9) (d:=7) (by kernel_rfl) rfl (z6 (by kernel_rfl)) (z7 (by kernel_rfl)) rfl rfl rfl (fun _=>q_assign rfl) ?_
     refine WD.done (by kernel_rfl) ?_
     refine WX.blockNormal ?_
     refine WX.then ?_
     refine WC.region ?_
     refine WL.quiet (d:=33) rfl rfl rfl (q_add rfl rfl rfl) ?_
     refine WL.quiet (d:=20) rfl rfl rfl (q_move rfl) ?_
     refine WL.nil ?_
     exact WX.round (G:=Nat × List z1 × Int × Int × Option Addr × Nat) ⟨zhL,(z3h ++ ([(⟨z78.1,(⟨(((nth zS z11).fRate).fN),(((nth zS z11).fRate).fD)⟩ : z2)⟩ : z1)] : List z1)),(i64 (z11 + 1)),z78.2.fE,zs0,zs1⟩ h (Nat.lt_succ_self _) (.cons rfl (.cons rfl (.cons rfl (.cons rfl (.cons rfl (.cons rfl .nil)))))) (.cons .here (.cons (.there (.there (.there .here))) (.cons (.there .here) .nil)))
    ·replace h:=ite_f h zhR
     refine WC.exit ?_
     refine WX.thenExit ?_
     refine WX.thenExit ?_
     refine WX.blockHit ?_
     exact WX.mid (G:=List z1 × Int × Option Addr × Nat) ⟨z3h,z5d,z6I,z6J⟩ h (.cons rfl (.cons rfl .nil)) (.cons .here (.cons (.there .here) .nil))
   ·rintro z2Q z5H z5t z5u h
    replace h:=(zrV z2Q z5H).symm.trans h
    refine WC.seq ?_
    refine WC.seq ?_
    refine WC.region ?_
    refine WL.quiet (d:=34) rfl rfl rfl (q_fieldAddr fo_74_0 rfl rfl) ?_
    refine WL.quiet (d:=35) rfl rfl rfl (q_load1 oneT_30 rfl (rd_stb (.there .here) rfl)) ?_
    refine WL.quiet (d:=36) rfl rfl rfl (q_neq rfl rfl) ?_
    refine WL.nil ?_
    refine WX.then ?_
    refine WC.cond rfl (fun zhS=>?_) (fun zhS=>?_)
    ·replace h:=ite_t h zhS
     refine WC.seq ?_
     refine WC.draw (fun i=>[].contains i) [] rfl ?_
     refine WD.pure (i:=0) (d:=37) (by kernel_rfl) rfl (z6 (by kernel_rfl)) (z7 (by kernel_rfl)) rfl rfl rfl (fun _=>q_fieldAddr fo_74_0 rfl rfl) ?_
     refine WD.quiet (i:=1) (d:=38) (by kernel_rfl) rfl (z6 (by kernel_rfl)) (z7 (by kernel_rfl)) rfl rfl rfl (q_load1 oneT_30 rfl (rd_stb (.there .here) rfl)) ?_
     refine WD.pure (i:=2) (d:=4) (by kernel_rfl) rfl (z6 (by kernel_rfl)) (z7 (by kernel_rfl)) rfl rfl rfl (fun _=>q_assign rfl) ?_
     refine WD.pure (i:=3) (d:=5) (by kernel_rfl) rfl (z6 (by kernel_rfl)) (z7 (by kernel_rfl)) rfl rfl rfl (fun _=>q_assign rfl) ?_
     refine WD.done (by kernel_rfl) ?_
     refine WX.then ?_
     refine WC.ret ?_
     refine WX.thenRet ?_
     refine WX.nilRow 42 4 ?_
     obtain rfl:=Option.some.inj h
     refine WX.bpRet Try.results34 (.tmp rfl (.tmp rfl .nil)) (fun w hw=>?_)
     exact ⟨none,0,ret2 rfl rfl,trivial,hw.sub (.cons .here .nil)⟩
    ·replace h:=ite_f h zhS
     refine WC.skip ?_
     refine WX.then ?_
     refine WC.seq ?_
     obtain ⟨zhO,zs2,h⟩:=zb h
     refine WC.region ?_
     refine WL.quiet (d:=39) rfl rfl rfl (q_move rfl) ?_
     refine WL.enter2 (dd:=40) rfl rfl rfl (zg (l:=[.tmp 39]) Try.call45 (.cons rfl .nil)) (.nil : Sel [row (.slice z5t z2Q.length z5u) 42 4 (z2Q.flatMap e42),stb z5e 74 [(.int .i64 z5H)]] [] [row (.slice z5t z2Q.length z5u) 42 4 (z2Q.flatMap e42),stb z5e 74 [(.int .i64 z5H)]]) (fun w hw=>by have pz:=(hz.call hw (.nil : Sel [row (.slice z5t z2Q.length z5u) 42 4 (z2Q.flatMap e42),stb z5e 74 [(.int .i64 z5H)]] [] [row (.slice z5t z2Q.length z5u) 42 4 (z2Q.flatMap e42),stb z5e 74 [(.int .i64 z5H)]])).lend hw (.nil : Sel [row (.slice z5t z2Q.length z5u) 42 4 (z2Q.flatMap e42),stb z5e 74 [(.int .i64 z5H)]] [] [row (.slice z5t z2Q.length z5u) 42 4 (z2Q.flatMap e42),stb z5e 74 [(.int .i64 z5H)]]) (B:=[row (.slice z5t z2Q.length z5u) 42 4 (z2Q.flatMap e42)]) (fun _ hx'=>((.cons .here .nil) : Sel _ [row (.slice z5t z2Q.length z5u) 42 4 (z2Q.flatMap e42)] _).mem hx'); exact w_curve_norm (Z:=_) (z5p:=z5t) (z5q:=z5u) (zh:=z2Q) (r:=zhO) w pz (ZA.row (hw.lent (.nil : Sel [row (.slice z5t z2Q.length z5u) 42 4 (z2Q.flatMap e42),stb z5e 74 [(.int .i64 z5H)]] [] [row (.slice z5t z2Q.length z5u) 42 4 (z2Q.flatMap e42),stb z5e 74 [(.int .i64 z5H)]]) (B:=[row (.slice z5t z2Q.length z5u) 42 4 (z2Q.flatMap e42)]) (fun _ hx'=>((.cons .here .nil) : Sel _ [row (.slice z5t z2Q.length z5u) 42 4 (z2Q.flatMap e42)] _).mem hx') (.head _) _) (RR.flat (enc:=e42) (fun _=>rfl) _) ⟨w,pz.1⟩) zs2) ?_
     rintro zs3 zs4 _
     refine WL.quiet (d:=4) rfl rfl rfl (q_assign rfl) ?_
     refine WL.quiet (d:=5) rfl rfl rfl (q_assign rfl) ?_
     refine WL.nil ?_
     refine WX.then ?_
     refine WC.ret ?_
     obtain rfl:=Option.some.inj h
     refine WX.bpRet Try.results34 (.tmp rfl (.tmp rfl .nil)) (fun w hw=>?_)
     exact ⟨zs3,zs4,ret2 rfl rfl,trivial,hw.sub (.cons .here .nil)⟩
def m_curve_Sum_R4  (zr : z1 × z1) (z1Y : List z1) (z7C : Int) : Option (Bool × (Nat × List z1 × Int)) :=
 (m_curve_calc_do (⟨z7C⟩ : z5A) (fun (y0 : z2) (y1 : z2)=>m_rat_Add y0 y1) zr.1.fBurst zr.2.fBurst).bind fun z4F=>(m_curve_calc_do z4F.2 (fun (y0 : z2) (y1 : z2)=>m_rat_Add y0 y1) zr.1.fRate zr.2.fRate).bind fun z67=>chk ((((z1Y ++ ([(⟨z4F.1,z67.1⟩ : z1)] : List z1)).length : Nat) : Int) * 32 ≤ 140737488355328 ∧ (((z1Y ++ ([(⟨z4F.1,z67.1⟩ : z1)] : List z1)).length : Nat) : Int) ≤ 4611686018427387904) (some (true,(0,(z1Y ++ ([(⟨z4F.1,z67.1⟩ : z1)] : List z1)),z67.2.fE)))
def m_curve_Sum (z6K : List z1) (z6L : List z1) : Option (List z1 × Int) :=
 (m_curve_Valid z6K).bind fun zf3=>(if !zf3 then some true else (m_curve_Valid z6L).bind fun zhT=>some (!zhT)).bind fun zf4=>if zf4 then some (([] : List z1),2) else (m_curve_norm z6K).bind fun z6e=>(m_curve_norm z6L).bind fun zaL=>if decide ((i64 (((z6e.length : Nat) : Int) * ((zaL.length : Nat) : Int))) > 32) then some (([] : List z1),5) else jp2 (fun (z5I : Int) (z2x : List z1)=>if decide (z5I ≠ 0) then some (([] : List z1),z5I) else (m_curve_norm z2x).bind fun zhU=>some (zhU,0)) fun zhV=>(m_curve_pairs z6e zaL).bind fun z2g=>(m_curve_pairs_1 (Nat × List z1 × Int) (fun (x : z1 × z1) (s : Nat × List z1 × Int)=>chk (s.1 = 0) (m_curve_Sum_R4 x s.2.1 s.2.2)) (0,([] : List z1),0) z2g.1 z2g.2).bind fun z5f=>zhV z5f.2.2 z5f.2.1
set_option maxRecDepth 20000 in
theorem w_curve_Sum (Z : Zp)  (z8L : Option Addr) (z8M : Nat) (z8N : Option Addr) (z8O : Nat) (z6K : List z1) (z6L : List z1) (r : List z1 × Int) (w₀ : World) (hz : PZ [] w₀ Z)
  (zmF : ZS Z 4 (fun r x=>r = e42 x) z8L z8M z6K)
  (zmG : ZS Z 4 (fun r x=>r = e42 x) z8N z8O z6L)
  (h : m_curve_Sum z6K z6L = some r) :
  Calls Try.prog 30 #[(.slice z8L z6K.length z8M),(.slice z8N z6L.length z8O)] w₀ fun e w'=>∃ Zn : Zp,∃ zmH : Option Addr,∃ zmI : Nat,e = .returned (.tuple #[(.slice zmH r.1.length zmI),(.int .i64 r.2)]) ∧ True ∧ Hp [] w₀ w' [fz Zn,row (.slice zmH r.1.length zmI) 42 4 (r.1.flatMap e42)]:=by
 unfold m_curve_Sum at h
 refine Calls.ofWCM (vs:=[(.slice z8L z6K.length z8M),(.slice z8N z6L.length z8O)]) (pre:=[]) (env:=[(0,(.slice z8L z6K.length z8M)),(1,(.slice z8N z6L.length z8O))]) Try.func30 rfl Try.ntmps30 rfl (Hp.nil w₀ _) rfl ?_
 refine WC.pool ?_
 refine WC.seq ?_
 refine WC.region ?_
 refine WL.quiet (d:=4) rfl rfl rfl (q_assign rfl) ?_
 refine WL.quiet (d:=5) rfl rfl rfl (q_assign rfl) ?_
 refine WL.nil ?_
 refine WX.then ?_
 refine WC.seq ?_
 refine WC.seq ?_
 obtain ⟨zf3,zs5,h⟩:=zb h
 obtain ⟨zf4,zmJ,h⟩:=zb h
 refine WC.region ?_
 refine WL.quiet (d:=10) rfl rfl rfl (q_move rfl) ?_
 refine WL.callD (dd:=11) rfl rfl rfl (zg (l:=[.tmp 10]) Try.call26 (.cons rfl .nil)) (.nil : Sel [fz []] [] [fz []]) (fun w hw=>by have pz:=(hz.call2 hw (.nil : Sel [fz []] [] [fz []]) .here); exact w_curve_Valid (Z:=_) (z5S:=z8L) (z5T:=z8M) (z3S:=z6K) (r:=zf3) w pz (zmF.mono (Zle.left _ _)) zs5) ?_
 refine WL.quiet (d:=12) rfl rfl rfl (q_not rfl) ?_
 refine WL.quiet (d:=13) rfl rfl rfl (q_move rfl) ?_
 refine WL.cut0 True [(0,(.slice z8L z6K.length z8M)),(1,(.slice z8N z6L.length z8O)),(17,(.bool zf4))] [fz []] 4 ?_ (fun _=>?_)
 ·rcases Bool.eq_false_or_eq_true (!zf3) with hb' | hb'
  ·have zmK:=hb'; clear hb'
   have zhW:=ite_t zmJ zmK
   replace zhW:=Option.some.inj zhW
   refine WL.pin (i:=13) rfl zmK ?_
   refine WL.skip rfl rfl rfl ?_
   refine WL.skip rfl rfl rfl ?_
   refine WL.skip rfl rfl rfl ?_
   refine WL.quiet (d:=17) rfl rfl rfl (q_pickT rfl rfl) ?_
   exact WL.cutEnd () trivial (.cons rfl (.cons rfl (.cons (zl zhW) .nil))) (.cons .here .nil)
  ·have zmL:=hb'; clear hb'
   have zdD:=ite_f zmJ zmL
   obtain ⟨zhT,zs6,zdD⟩:=zb zdD
   replace zdD:=Option.some.inj zdD
   refine WL.pin (i:=13) rfl zmL ?_
   refine WL.quiet (d:=14) rfl rfl rfl (q_move rfl) ?_
   refine WL.callD (dd:=15) rfl rfl rfl (zg (l:=[.tmp 14]) Try.call26 (.cons rfl .nil)) (.nil : Sel [fz []] [] [fz []]) (fun w hw=>by have pz:=(hz.call2 hw (.nil : Sel [fz []] [] [fz []]) .here); exact w_curve_Valid (Z:=_) (z5S:=z8N) (z5T:=z8O) (z3S:=z6L) (r:=zhT) w pz (zmG.mono (Zle.left _ _)) zs6) ?_
   refine WL.quiet (d:=16) rfl rfl rfl (q_not rfl) ?_
   refine WL.quiet (d:=17) rfl rfl rfl (q_pickF rfl rfl) ?_
   exact WL.cutEnd () trivial (.cons rfl (.cons rfl (.cons (zl zdD) .nil))) (.cons .here .nil)
 ·skip
  refine WL.nil ?_
  refine WX.then ?_
  refine WC.cond rfl (fun zhX=>?_) (fun zhX=>?_)
  ·replace h:=ite_t h zhX
   refine WC.seq ?_
   refine WC.region ?_
   refine WL.quiet (d:=4) rfl rfl rfl (q_assign rfl) ?_
   refine WL.quiet (d:=5) rfl rfl rfl (q_assign rfl) ?_
   refine WL.nil ?_
   refine WX.then ?_
   refine WC.ret ?_
   refine WX.thenRet ?_
   refine WX.nilRow 42 4 ?_
   obtain rfl:=Option.some.inj h
   refine WX.bpRetM Try.results30 (.tmp rfl (.tmp rfl .nil)) (fun w hw=>?_)
   exact ⟨[],none,0,ret2 rfl rfl,trivial,hw.sub (.cons (.there .here) (.cons .here .nil))⟩
  ·replace h:=ite_f h zhX
   refine WC.skip ?_
   refine WX.then ?_
   refine WC.seq ?_
   obtain ⟨z6e,zs7,h⟩:=zb h
   obtain ⟨zaL,zs8,h⟩:=zb h
   refine WC.region ?_
   refine WL.quiet (d:=18) rfl rfl rfl (q_move rfl) ?_
   refine WL.enter2 (dd:=19) rfl rfl rfl (zg (l:=[.tmp 18]) Try.call45 (.cons rfl .nil)) (.nil : Sel [fz []] [] [fz []]) (fun w hw=>by have pz:=(hz.call2 hw (.nil : Sel [fz []] [] [fz []]) .here); exact w_curve_norm (Z:=_) (z5p:=z8L) (z5q:=z8M) (zh:=z6K) (r:=z6e) w pz (zmF.mono (Zle.left _ _)) zs7) ?_
   rintro zdE zdF _
   refine WL.quiet (d:=20) rfl rfl rfl (q_move rfl) ?_
   refine WL.enter2 (dd:=21) rfl rfl rfl (zg (l:=[.tmp 20]) Try.call45 (.cons rfl .nil)) (.nil : Sel [row (.slice zdE z6e.length zdF) 42 4 (z6e.flatMap e42),fz []] [] [row (.slice zdE z6e.length zdF) 42 4 (z6e.flatMap e42),fz []]) (fun w hw=>by have pz:=(hz.call2 hw (.nil : Sel [row (.slice zdE z6e.length zdF) 42 4 (z6e.flatMap e42),fz []] [] [row (.slice zdE z6e.length zdF) 42 4 (z6e.flatMap e42),fz []]) (.there .here)); exact w_curve_norm (Z:=_) (z5p:=z8N) (z5q:=z8O) (zh:=z6L) (r:=zaL) w pz (zmG.mono (Zle.left _ _)) zs8) ?_
   rintro zs9 zsa _
   refine WL.quiet (d:=0) rfl rfl rfl (q_assign rfl) ?_
   refine WL.quiet (d:=1) rfl rfl rfl (q_assign rfl) ?_
   refine WL.nil ?_
   refine WX.then ?_
   refine WC.seq ?_
   refine WC.seq ?_
   refine WC.region ?_
   refine WL.quiet (d:=22) rfl rfl rfl (q_move rfl) ?_
   refine WL.quiet (d:=23) rfl rfl rfl (q_len Try.underlying25 rfl) ?_
   refine WL.quiet (d:=24) rfl rfl rfl (q_move rfl) ?_
   refine WL.quiet (d:=25) rfl rfl rfl (q_len Try.underlying25 rfl) ?_
   refine WL.quiet (d:=26) rfl rfl rfl (q_mul rfl rfl rfl) ?_
   refine WL.quiet (d:=27) rfl rfl rfl (q_gtr rfl rfl) ?_
   refine WL.nil ?_
   refine WX.then ?_
   refine WC.cond rfl (fun zhY=>?_) (fun zhY=>?_)
   ·replace h:=ite_t h zhY
    refine WC.seq ?_
    refine WC.region ?_
    refine WL.quiet (d:=4) rfl rfl rfl (q_assign rfl) ?_
    refine WL.quiet (d:=5) rfl rfl rfl (q_assign rfl) ?_
    refine WL.nil ?_
    refine WX.then ?_
    refine WC.ret ?_
    refine WX.thenRet ?_
    refine WX.nilRow 42 4 ?_
    obtain rfl:=Option.some.inj h
    refine WX.bpRetM Try.results30 (.tmp rfl (.tmp rfl .nil)) (fun w hw=>?_)
    exact ⟨[],none,0,ret2 rfl rfl,trivial,hw.sub (.cons (.there (.there (.there .here))) (.cons .here .nil))⟩
   ·replace h:=ite_f h zhY
    refine WC.skip ?_
    refine WX.then ?_
    refine WC.seq ?_
    refine WC.region ?_
    refine WL.new (dd:=6) rfl rfl rfl (e_alloc (cs:=[(.int .i64 0)]) zeroT_74 rfl) ?_
    intro z28 _
    refine WL.nil ?_
    refine WX.then ?_
    refine WC.seq ?_
    refine WC.region ?_
    refine WL.new (dd:=7) rfl rfl rfl (e_alloc (cs:=[(.slice none 0 0)]) zeroT_25 rfl) ?_
    intro z2c _
    refine WL.nil ?_
    refine WX.then ?_
    obtain ⟨zhV,zsb,h⟩:=jp2_elim h
    refine WC.seqMidR6 (fun (z6M : Nat) (z5I : Int) (z2x : List z1) (z6f : Zp) (z3W : Option Addr) (z3X : Nat)=>(zhV z5I z2x = some r) ∧ (Zle (Z ++ []) (Z ++ z6f))) (fun (z6M : Nat) (z5I : Int) (z2x : List z1) (z6f : Zp) (z3W : Option Addr) (z3X : Nat)=>[(6,(.pointer (some ⟨z28,0,none⟩))),(7,(.pointer (some ⟨z2c,0,none⟩)))]) (fun (z6M : Nat) (z5I : Int) (z2x : List z1) (z6f : Zp) (z3W : Option Addr) (z3X : Nat)=>[fz z6f,stb z28 74 [(.int .i64 z5I)],stb z2c 25 [(.slice z3W z2x.length z3X)],row (.slice z3W z2x.length z3X) 42 4 (z2x.flatMap e42),dfr z6M]) ?_ ?_
    ·skip
     refine WC.seq ?_
     refine WC.freezeS (ls:=z6e) (.there (.there (.there .here))) (.there (.there (.there .here))) hz (RR.flat (enc:=e42) (fun _=>rfl) _) ?_
     intro zxN zsc zsd
     refine WC.freezeS (ls:=zaL) (.there (.there (.there .here))) .here hz (RR.flat (enc:=e42) (fun _=>rfl) _) ?_
     intro z5g zmM zse
     obtain ⟨z2g,zsf,h⟩:=zb h
     refine WC.region ?_
     refine WL.quiet (d:=28) rfl rfl rfl (q_move rfl) ?_
     refine WL.quiet (d:=29) rfl rfl rfl (q_move rfl) ?_
     refine WL.enter6 (dd:=30) rfl rfl rfl (zg (l:=[.tmp 28,.tmp 29]) Try.call46 (.cons rfl (.cons rfl .nil))) (.nil : Sel [fz z5g,stb z2c 25 [(.slice none 0 0)],stb z28 74 [(.int .i64 0)]] [] [fz z5g,stb z2c 25 [(.slice none 0 0)],stb z28 74 [(.int .i64 0)]]) (fun w hw=>by have pz:=(hz.call2 hw (.nil : Sel [fz z5g,stb z2c 25 [(.slice none 0 0)],stb z28 74 [(.int .i64 0)]] [] [fz z5g,stb z2c 25 [(.slice none 0 0)],stb z28 74 [(.int .i64 0)]]) .here); exact w_curve_pairs (Z:=_) (z9L:=zdE) (z9M:=zdF) (z9N:=zs9) (z9O:=zsa) (z7Y:=z6e) (z7Z:=zaL) (r:=z2g) w pz (zsd.mono zmM) zse zsf) ?_
     rintro z4G z4H z4W z4X z4Y z4Z ⟨zsg,zsh⟩
     refine WL.nil ?_
     refine WX.then ?_
     refine WC.block ?_
     refine WC.pool ?_
     refine WC.drop (.cons .here (.cons (.there (.there (.there .here))) (.cons (.there (.there (.there .here))) (.cons .here (.cons .here (.cons .here .nil)))))) ?_
     refine WC.nilRow 42 4 ?_
     refine WC.rangeFunc (f:=73) (caps:=[(.pointer (some ⟨z4G,0,none⟩)),(.pointer (some ⟨z4H,0,none⟩))]) rfl Try.call73 ?_
     intro zxO zxP z30 z68 z3i zhZ zsi zsj w hw
     have hw1:=hw.selAll ((.cons (.there (.there (.there .here))) (.cons (.there (.there (.there .here))) (.cons (.there (.there .here)) (.cons (.there (.there .here)) (.cons .here .nil))))) : Sel _ [fz [],stb z2c 25 [(.slice none (([] : List z1).length) 0)],row (.slice none (([] : List z1).length) 0) 42 4 (([] : List z1).flatMap e42),stb z28 74 [(.int .i64 0)],blk z30 (z3i .ready none)] _)
     have pz:=(hz.call2 hw1 ((.cons .here .nil) : Sel [allA [fz [],stb z2c 25 [(.slice none (([] : List z1).length) 0)],row (.slice none (([] : List z1).length) 0) 42 4 (([] : List z1).flatMap e42),stb z28 74 [(.int .i64 0)],blk z30 (z3i .ready none)],dfr z68,stb z4G 25 [(.slice z4W z2g.1.length z4X)],stb z4H 25 [(.slice z4Y z2g.2.length z4Z)],fz z5g] [allA [fz [],stb z2c 25 [(.slice none (([] : List z1).length) 0)],row (.slice none (([] : List z1).length) 0) 42 4 (([] : List z1).flatMap e42),stb z28 74 [(.int .i64 0)],blk z30 (z3i .ready none)]] [dfr z68,stb z4G 25 [(.slice z4W z2g.1.length z4X)],stb z4H 25 [(.slice z4Y z2g.2.length z4Z)],fz z5g]) (.there (.there (.there .here)))).lend hw1 ((.cons .here .nil) : Sel [allA [fz [],stb z2c 25 [(.slice none (([] : List z1).length) 0)],row (.slice none (([] : List z1).length) 0) 42 4 (([] : List z1).flatMap e42),stb z28 74 [(.int .i64 0)],blk z30 (z3i .ready none)],dfr z68,stb z4G 25 [(.slice z4W z2g.1.length z4X)],stb z4H 25 [(.slice z4Y z2g.2.length z4Z)],fz z5g] [allA [fz [],stb z2c 25 [(.slice none (([] : List z1).length) 0)],row (.slice none (([] : List z1).length) 0) 42 4 (([] : List z1).flatMap e42),stb z28 74 [(.int .i64 0)],blk z30 (z3i .ready none)]] [dfr z68,stb z4G 25 [(.slice z4W z2g.1.length z4X)],stb z4H 25 [(.slice z4Y z2g.2.length z4Z)],fz z5g]) (B:=[stb z4G 25 [(.slice z4W z2g.1.length z4X)],stb z4H 25 [(.slice z4Y z2g.2.length z4Z)]]) (fun _ hx'=>((.cons (.there .here) (.cons (.there .here) .nil)) : Sel _ [stb z4G 25 [(.slice z4W z2g.1.length z4X)],stb z4H 25 [(.slice z4Y z2g.2.length z4Z)]] _).mem hx')
     obtain ⟨z5f,zsk,h⟩:=zb h
     refine Calls.mono (w_curve_pairs_1 (Z:=_) (z82:=z30) (z3x:=(Option Addr × Nat)) (z64:=(fun (g : Option Addr × Nat) (s : Nat × List z1 × Int)=>allA ([fz [],stb z2c 25 [(.slice g.1 s.2.1.length g.2)],row (.slice g.1 s.2.1.length g.2) 42 4 (s.2.1.flatMap e42),stb z28 74 [(.int .i64 s.2.2)]] ++ [blk z30 (z3i (rdy (pcs [] s.1)) (pcs [] s.1))]))) (z83:=(fun (g : Option Addr × Nat) (s : Nat × List z1 × Int)=>True)) (z8E:=(none,0)) (zbH:=⟨z4G,0,none⟩) (z9P:=z4W) (z9Q:=z4X) (z84:=⟨z4H,0,none⟩) (zdo:=z4Y) (zdp:=z4Z) (z1i:=(Nat × List z1 × Int)) (z5r:=(fun (x : z1 × z1) (s : Nat × List z1 × Int)=>chk (s.1 = 0) (m_curve_Sum_R4 x s.2.1 s.2.2))) (s0_5040:=(0,([] : List z1),0)) (z1Q:=z2g.1) (z2f:=z2g.2) (r:=z5f) w pz ?_ trivial (zsg.mono (Zle.left _ _)) ((hw1.lent ((.cons .here .nil) : Sel [allA [fz [],stb z2c 25 [(.slice none (([] : List z1).length) 0)],row (.slice none (([] : List z1).length) 0) 42 4 (([] : List z1).flatMap e42),stb z28 74 [(.int .i64 0)],blk z30 (z3i .ready none)],dfr z68,stb z4G 25 [(.slice z4W z2g.1.length z4X)],stb z4H 25 [(.slice z4Y z2g.2.length z4Z)],fz z5g] [allA [fz [],stb z2c 25 [(.slice none (([] : List z1).length) 0)],row (.slice none (([] : List z1).length) 0) 42 4 (([] : List z1).flatMap e42),stb z28 74 [(.int .i64 0)],blk z30 (z3i .ready none)]] [dfr z68,stb z4G 25 [(.slice z4W z2g.1.length z4X)],stb z4H 25 [(.slice z4Y z2g.2.length z4Z)],fz z5g]) (B:=[stb z4G 25 [(.slice z4W z2g.1.length z4X)],stb z4H 25 [(.slice z4Y z2g.2.length z4Z)]]) (fun _ hx'=>((.cons (.there .here) (.cons (.there .here) .nil)) : Sel _ [stb z4G 25 [(.slice z4W z2g.1.length z4X)],stb z4H 25 [(.slice z4Y z2g.2.length z4Z)]] _).mem hx') (.head _) _).stb) (zsh.mono (Zle.left _ _)) ((hw1.lent ((.cons .here .nil) : Sel [allA [fz [],stb z2c 25 [(.slice none (([] : List z1).length) 0)],row (.slice none (([] : List z1).length) 0) 42 4 (([] : List z1).flatMap e42),stb z28 74 [(.int .i64 0)],blk z30 (z3i .ready none)],dfr z68,stb z4G 25 [(.slice z4W z2g.1.length z4X)],stb z4H 25 [(.slice z4Y z2g.2.length z4Z)],fz z5g] [allA [fz [],stb z2c 25 [(.slice none (([] : List z1).length) 0)],row (.slice none (([] : List z1).length) 0) 42 4 (([] : List z1).flatMap e42),stb z28 74 [(.int .i64 0)],blk z30 (z3i .ready none)]] [dfr z68,stb z4G 25 [(.slice z4W z2g.1.length z4X)],stb z4H 25 [(.slice z4Y z2g.2.length z4Z)],fz z5g]) (B:=[stb z4G 25 [(.slice z4W z2g.1.length z4X)],stb z4H 25 [(.slice z4Y z2g.2.length z4Z)]]) (fun _ hx'=>((.cons (.there .here) (.cons (.there .here) .nil)) : Sel _ [stb z4G 25 [(.slice z4W z2g.1.length z4X)],stb z4H 25 [(.slice z4Y z2g.2.length z4Z)]] _).mem hx') (.tail _ (.head _)) _).stb) zsk (hw1.owns ((.cons .here .nil) : Sel [allA [fz [],stb z2c 25 [(.slice none (([] : List z1).length) 0)],row (.slice none (([] : List z1).length) 0) 42 4 (([] : List z1).flatMap e42),stb z28 74 [(.int .i64 0)],blk z30 (z3i .ready none)],dfr z68,stb z4G 25 [(.slice z4W z2g.1.length z4X)],stb z4H 25 [(.slice z4Y z2g.2.length z4Z)],fz z5g] [allA [fz [],stb z2c 25 [(.slice none (([] : List z1).length) 0)],row (.slice none (([] : List z1).length) 0) 42 4 (([] : List z1).flatMap e42),stb z28 74 [(.int .i64 0)],blk z30 (z3i .ready none)]] [dfr z68,stb z4G 25 [(.slice z4W z2g.1.length z4X)],stb z4H 25 [(.slice z4Y z2g.2.length z4Z)],fz z5g]))) ?_
     ·skip
      refine yieldP_of (LI:=(fun (g : Option Addr × Nat) (s : Nat × List z1 × Int)=>[fz [],stb z2c 25 [(.slice g.1 s.2.1.length g.2)],row (.slice g.1 s.2.1.length g.2) 42 4 (s.2.1.flatMap e42),stb z28 74 [(.int .i64 s.2.2)]])) (pc:=(fun (s : Nat × List z1 × Int)=>pcs [] s.1)) zhZ zsi zsj (fun _ _=>rfl) (by decide) ?_
      rintro zr _ ⟨z3O,z3P⟩ ⟨zsl,z1Y,z7C⟩ zsm zsn Fb wb zmN _ hz
      replace hz:=hz.left
      letI : Rnd:=inR z30
      obtain ⟨hp0,z86⟩:=chk_elim zmN
      replace hp0 : zsl = 0:=hp0; subst hp0; clear zmN
      replace z86 : m_curve_Sum_R4 zr z1Y z7C = some (zsm,zsn):=z86
      unfold m_curve_Sum_R4 at z86
      refine WC.restr (env':=[(17,(.bool zf4)),(27,(.bool (decide ((i64 (((z6e.length : Nat) : Int) * ((zaL.length : Nat) : Int))) > 32)))),(6,(.pointer (some ⟨z28,0,none⟩))),(7,(.pointer (some ⟨z2c,0,none⟩))),(31,(.agg #[(.int .i64 zr.1.fBurst.fN),(.int .i64 zr.1.fBurst.fD),(.int .i64 zr.1.fRate.fN),(.int .i64 zr.1.fRate.fD)])),(32,(.agg #[(.int .i64 zr.2.fBurst.fN),(.int .i64 zr.2.fBurst.fD),(.int .i64 zr.2.fRate.fN),(.int .i64 zr.2.fRate.fD)]))]) (.cons rfl (.cons rfl (.cons rfl (.cons rfl (.cons rfl (.cons rfl .nil)))))) ?_
      refine WC.eqL (L':=[fz [],stb z2c 25 [(.slice z3O z1Y.length z3P)],row (.slice z3O z1Y.length z3P) 42 4 (z1Y.flatMap e42),stb z28 74 [(.int .i64 z7C)],blk z30 (z3i .ready none)]) rfl ?_
      refine WC.seq ?_
      refine WC.region ?_
      refine WL.new (dd:=8) rfl rfl rfl (e_alloc (cs:=[(.int .i64 0),(.int .i64 0),(.int .i64 0),(.int .i64 0)]) zeroT_42 rfl) ?_
      intro z6N _
      refine WL.eff0 rfl rfl (e_store (vs:=[(.int .i64 zr.1.fBurst.fN),(.int .i64 zr.1.fBurst.fD),(.int .i64 zr.1.fRate.fN),(.int .i64 zr.1.fRate.fD)]) (ds:=[(.int .i64 zr.1.fBurst.fN),(.int .i64 zr.1.fBurst.fD),(.int .i64 zr.1.fRate.fN),(.int .i64 zr.1.fRate.fD)]) sizT_42 rfl rfl rfl rfl (oc_cons rfl (oc_cons rfl (oc_cons rfl (oc_cons rfl oc_nil)))) .here (Nat.le_of_ble_eq_true rfl) rfl) ?_
      refine WL.nil ?_
      refine WX.then ?_
      refine WC.region ?_
      refine WL.new (dd:=9) rfl rfl rfl (e_alloc (cs:=[(.int .i64 0),(.int .i64 0),(.int .i64 0),(.int .i64 0)]) zeroT_42 rfl) ?_
      intro z6O _
      refine WL.eff0 rfl rfl (e_store (vs:=[(.int .i64 zr.2.fBurst.fN),(.int .i64 zr.2.fBurst.fD),(.int .i64 zr.2.fRate.fN),(.int .i64 zr.2.fRate.fD)]) (ds:=[(.int .i64 zr.2.fBurst.fN),(.int .i64 zr.2.fBurst.fD),(.int .i64 zr.2.fRate.fN),(.int .i64 zr.2.fRate.fD)]) sizT_42 rfl rfl rfl rfl (oc_cons rfl (oc_cons rfl (oc_cons rfl (oc_cons rfl oc_nil)))) .here (Nat.le_of_ble_eq_true rfl) rfl) ?_
      refine WL.nil ?_
      refine WX.begin zhZ (.there (.there (.there (.there (.there (.there .here)))))) ?_
      refine WC.block ?_
      obtain ⟨z4F,zso,z86⟩:=zb z86
      obtain ⟨z67,zsp,z86⟩:=zb z86
      obtain ⟨zsq,z86⟩:=chk_elim z86
      refine WC.draw (fun i=>[5,10,13,14].contains i) [stbp z2c 25 [(0,(.slice z3O z1Y.length z3P))],stb z6N 42 [(.int .i64 zr.1.fBurst.fN),(.int .i64 zr.1.fBurst.fD),(.int .i64 zr.1.fRate.fN),(.int .i64 zr.1.fRate.fD)],stb z6O 42 [(.int .i64 zr.2.fBurst.fN),(.int .i64 zr.2.fBurst.fD),(.int .i64 zr.2.fRate.fN),(.int .i64 zr.2.fRate.fD)]] rfl ?_
      refine WD.stable (i:=0) (d:=33) (by kernel_rfl) rfl (z6 (by kernel_rfl)) (z7 (by kernel_rfl)) rfl rfl rfl (Sin.wk (.cons (.there (.there (.there (.there .here)))) (.cons (.there (.there .here)) (.cons (.there .here) .nil))) (.stb (.cons rfl .nil) (.same (.same .nil)))) (q_load1 oneT_25 rfl (rd_stbp .here (.head _))) ?_
      refine WD.pure (i:=1) (d:=34) (by kernel_rfl) rfl (z6 (by kernel_rfl)) (z7 (by kernel_rfl)) rfl rfl rfl (fun _=>q_fieldAddr fo_42_0 rfl rfl) ?_
      refine WD.quiet (i:=2) (d:=35) (by kernel_rfl) rfl (z6 (by kernel_rfl)) (z7 (by kernel_rfl)) rfl rfl rfl (q_loadA (cs:=[(.int .i64 zr.1.fBurst.fN),(.int .i64 zr.1.fBurst.fD)]) aggT_28 rfl rfl (rd_sub (s:=2) (.there (.there .here)) rfl)) ?_
      refine WD.pure (i:=3) (d:=36) (by kernel_rfl) rfl (z6 (by kernel_rfl)) (z7 (by kernel_rfl)) rfl rfl rfl (fun _=>q_fieldAddr fo_42_0 rfl rfl) ?_
      refine WD.quiet (i:=4) (d:=37) (by kernel_rfl) rfl (z6 (by kernel_rfl)) (z7 (by kernel_rfl)) rfl rfl rfl (q_loadA (cs:=[(.int .i64 zr.2.fBurst.fN),(.int .i64 zr.2.fBurst.fD)]) aggT_28 rfl rfl (rd_sub (s:=2) (.there .here) rfl)) ?_
      refine WD.pure (i:=6) (d:=39) (by kernel_rfl) rfl (z6 (by kernel_rfl)) (z7 (by kernel_rfl)) rfl rfl rfl (fun _=>q_fieldAddr fo_42_1 rfl rfl) ?_
      refine WD.stable (i:=7) (d:=40) (by kernel_rfl) rfl (z6 (by kernel_rfl)) (z7 (by kernel_rfl)) rfl rfl rfl (Sin.wk (.cons (.there (.there (.there (.there .here)))) (.cons (.there (.there .here)) (.cons (.there .here) .nil))) (.stb (.cons rfl .nil) (.same (.same .nil)))) (q_loadA (cs:=[(.int .i64 zr.1.fRate.fN),(.int .i64 zr.1.fRate.fD)]) aggT_28 rfl rfl (rd_sub (s:=2) (.there .here) rfl)) ?_
      refine WD.pure (i:=8) (d:=41) (by kernel_rfl) rfl (z6 (by kernel_rfl)) (z7 (by kernel_rfl)) rfl rfl rfl (fun _=>q_fieldAddr fo_42_1 rfl rfl) ?_
      refine WD.stable (i:=9) (d:=42) (by kernel_rfl) rfl (z6 (by kernel_rfl)) (z7 (by kernel_rfl)) rfl rfl rfl (Sin.wk (.cons (.there (.there (.there (.there .here)))) (.cons (.there (.there .here)) (.cons (.there .here) .nil))) (.stb (.cons rfl .nil) (.same (.same .nil)))) (q_loadA (cs:=[(.int .i64 zr.2.fRate.fN),(.int .i64 zr.2.fRate.fD)]) aggT_28 rfl rfl (rd_sub (s:=2) (.there (.there .here)) rfl)) ?_
      refine WD.call0 (i:=5) (dd:=38) rfl (by kernel_rfl) rfl rfl rfl (.inl ⟨rfl,(Sin.wk (.cons (.there (.there (.there (.there (.there .here))))) (.cons (.there (.there (.there .here))) (.cons (.there (.there .here)) .nil))) (.stb (.cons rfl .nil) (.same (.same .nil))))⟩) (zg (l:=[.tmp 6,.func 12,.tmp 35,.tmp 37]) Try.call47 (.cons rfl (.cons rfl (.cons rfl (.cons rfl .nil))))) ((.cons (.there (.there (.there (.there (.there (.there .here)))))) .nil) : Sel [blk z30 (z3i .busy none),stb z6O 42 [(.int .i64 zr.2.fBurst.fN),(.int .i64 zr.2.fBurst.fD),(.int .i64 zr.2.fRate.fN),(.int .i64 zr.2.fRate.fD)],stb z6N 42 [(.int .i64 zr.1.fBurst.fN),(.int .i64 zr.1.fBurst.fD),(.int .i64 zr.1.fRate.fN),(.int .i64 zr.1.fRate.fD)],fz [],stb z2c 25 [(.slice z3O z1Y.length z3P)],row (.slice z3O z1Y.length z3P) 42 4 (z1Y.flatMap e42),stb z28 74 [(.int .i64 z7C)]] [stb z28 74 [(.int .i64 z7C)]] [blk z30 (z3i .busy none),stb z6O 42 [(.int .i64 zr.2.fBurst.fN),(.int .i64 zr.2.fBurst.fD),(.int .i64 zr.2.fRate.fN),(.int .i64 zr.2.fRate.fD)],stb z6N 42 [(.int .i64 zr.1.fBurst.fN),(.int .i64 zr.1.fBurst.fD),(.int .i64 zr.1.fRate.fN),(.int .i64 zr.1.fRate.fD)],fz [],stb z2c 25 [(.slice z3O z1Y.length z3P)],row (.slice z3O z1Y.length z3P) 42 4 (z1Y.flatMap e42)]) (fun w hw=>by have pz:=(hz.call2 hw ((.cons (.there (.there (.there (.there (.there (.there .here)))))) .nil) : Sel [blk z30 (z3i .busy none),stb z6O 42 [(.int .i64 zr.2.fBurst.fN),(.int .i64 zr.2.fBurst.fD),(.int .i64 zr.2.fRate.fN),(.int .i64 zr.2.fRate.fD)],stb z6N 42 [(.int .i64 zr.1.fBurst.fN),(.int .i64 zr.1.fBurst.fD),(.int .i64 zr.1.fRate.fN),(.int .i64 zr.1.fRate.fD)],fz [],stb z2c 25 [(.slice z3O z1Y.length z3P)],row (.slice z3O z1Y.length z3P) 42 4 (z1Y.flatMap e42),stb z28 74 [(.int .i64 z7C)]] [stb z28 74 [(.int .i64 z7C)]] [blk z30 (z3i .busy none),stb z6O 42 [(.int .i64 zr.2.fBurst.fN),(.int .i64 zr.2.fBurst.fD),(.int .i64 zr.2.fRate.fN),(.int .i64 zr.2.fRate.fD)],stb z6N 42 [(.int .i64 zr.1.fBurst.fN),(.int .i64 zr.1.fBurst.fD),(.int .i64 zr.1.fRate.fN),(.int .i64 zr.1.fRate.fD)],fz [],stb z2c 25 [(.slice z3O z1Y.length z3P)],row (.slice z3O z1Y.length z3P) 42 4 (z1Y.flatMap e42)]) (.there (.there (.there .here)))); exact Calls.mono (w_curve_calc_do (Z:=_) (z5W:=z28) (z6q:=12) (z6V:=[]) (z5U:=(⟨z7C⟩ : z5A)) (z7o:=(fun (y0 : z2) (y1 : z2)=>m_rat_Add y0 y1)) (z4P:=zr.1.fBurst) (z4Q:=zr.2.fBurst) (r:=z4F) w pz Try.call12 (fun w' hz' y0 y1  r  hr=>w_rat_Add (Z:=_)  (z41:=y0) (z42:=y1) (r:=r) w' hz'  hr) zso (hw.owns ((.cons (.there (.there (.there (.there (.there (.there .here)))))) .nil) : Sel [blk z30 (z3i .busy none),stb z6O 42 [(.int .i64 zr.2.fBurst.fN),(.int .i64 zr.2.fBurst.fD),(.int .i64 zr.2.fRate.fN),(.int .i64 zr.2.fRate.fD)],stb z6N 42 [(.int .i64 zr.1.fBurst.fN),(.int .i64 zr.1.fBurst.fD),(.int .i64 zr.1.fRate.fN),(.int .i64 zr.1.fRate.fD)],fz [],stb z2c 25 [(.slice z3O z1Y.length z3P)],row (.slice z3O z1Y.length z3P) 42 4 (z1Y.flatMap e42),stb z28 74 [(.int .i64 z7C)]] [stb z28 74 [(.int .i64 z7C)]] [blk z30 (z3i .busy none),stb z6O 42 [(.int .i64 zr.2.fBurst.fN),(.int .i64 zr.2.fBurst.fD),(.int .i64 zr.2.fRate.fN),(.int .i64 zr.2.fRate.fD)],stb z6N 42 [(.int .i64 zr.1.fBurst.fN),(.int .i64 zr.1.fBurst.fD),(.int .i64 zr.1.fRate.fN),(.int .i64 zr.1.fRate.fD)],fz [],stb z2c 25 [(.slice z3O z1Y.length z3P)],row (.slice z3O z1Y.length z3P) 42 4 (z1Y.flatMap e42)]))) (fun _ _ h'=>⟨h'.1,trivial,h'.2⟩)) ?_
      intro _
      refine WD.call0 (i:=10) (dd:=43) rfl (by kernel_rfl) rfl rfl rfl (.inl ⟨rfl,(Sin.wk (.cons (.there (.there (.there (.there (.there .here))))) (.cons (.there (.there (.there .here))) (.cons (.there (.there .here)) .nil))) (.stb (.cons rfl .nil) (.same (.same .nil))))⟩) (zg (l:=[.tmp 6,.func 12,.tmp 40,.tmp 42]) Try.call47 (.cons rfl (.cons rfl (.cons rfl (.cons rfl .nil))))) ((.cons .here .nil) : Sel [stb z28 74 [(.int .i64 z4F.2.fE)],blk z30 (z3i .busy none),stb z6O 42 [(.int .i64 zr.2.fBurst.fN),(.int .i64 zr.2.fBurst.fD),(.int .i64 zr.2.fRate.fN),(.int .i64 zr.2.fRate.fD)],stb z6N 42 [(.int .i64 zr.1.fBurst.fN),(.int .i64 zr.1.fBurst.fD),(.int .i64 zr.1.fRate.fN),(.int .i64 zr.1.fRate.fD)],fz [],stb z2c 25 [(.slice z3O z1Y.length z3P)],row (.slice z3O z1Y.length z3P) 42 4 (z1Y.flatMap e42)] [stb z28 74 [(.int .i64 z4F.2.fE)]] [blk z30 (z3i .busy none),stb z6O 42 [(.int .i64 zr.2.fBurst.fN),(.int .i64 zr.2.fBurst.fD),(.int .i64 zr.2.fRate.fN),(.int .i64 zr.2.fRate.fD)],stb z6N 42 [(.int .i64 zr.1.fBurst.fN),(.int .i64 zr.1.fBurst.fD),(.int .i64 zr.1.fRate.fN),(.int .i64 zr.1.fRate.fD)],fz [],stb z2c 25 [(.slice z3O z1Y.length z3P)],row (.slice z3O z1Y.length z3P) 42 4 (z1Y.flatMap e42)]) (fun w hw=>by have pz:=(hz.call2 hw ((.cons .here .nil) : Sel [stb z28 74 [(.int .i64 z4F.2.fE)],blk z30 (z3i .busy none),stb z6O 42 [(.int .i64 zr.2.fBurst.fN),(.int .i64 zr.2.fBurst.fD),(.int .i64 zr.2.fRate.fN),(.int .i64 zr.2.fRate.fD)],stb z6N 42 [(.int .i64 zr.1.fBurst.fN),(.int .i64 zr.1.fBurst.fD),(.int .i64 zr.1.fRate.fN),(.int .i64 zr.1.fRate.fD)],fz [],stb z2c 25 [(.slice z3O z1Y.length z3P)],row (.slice z3O z1Y.length z3P) 42 4 (z1Y.flatMap e42)] [stb z28 74 [(.int .i64 z4F.2.fE)]] [blk z30 (z3i .busy none),stb z6O 42 [(.int .i64 zr.2.fBurst.fN),(.int .i64 zr.2.fBurst.fD),(.int .i64 zr.2.fRate.fN),(.int .i64 zr.2.fRate.fD)],stb z6N 42 [(.int .i64 zr.1.fBurst.fN),(.int .i64 zr.1.fBurst.fD),(.int .i64 zr.1.fRate.fN),(.int .i64 zr.1.fRate.fD)],fz [],stb z2c 25 [(.slice z3O z1Y.length z3P)],row (.slice z3O z1Y.length z3P) 42 4 (z1Y.flatMap e42)]) (.there (.there (.there .here)))); exact Calls.mono (w_curve_calc_do (Z:=_) (z5W:=z28) (z6q:=12) (z6V:=[]) (z5U:=z4F.2) (z7o:=(fun (y0 : z2) (y1 : z2)=>m_rat_Add y0 y1)) (z4P:=zr.1.fRate) (z4Q:=zr.2.fRate) (r:=z67) w pz Try.call12 (fun w' hz' y0 y1  r  hr=>w_rat_Add (Z:=_)  (z41:=y0) (z42:=y1) (r:=r) w' hz'  hr) zsp (hw.owns ((.cons .here .nil) : Sel [stb z28 74 [(.int .i64 z4F.2.fE)],blk z30 (z3i .busy none),stb z6O 42 [(.int .i64 zr.2.fBurst.fN),(.int .i64 zr.2.fBurst.fD),(.int .i64 zr.2.fRate.fN),(.int .i64 zr.2.fRate.fD)],stb z6N 42 [(.int .i64 zr.1.fBurst.fN),(.int .i64 zr.1.fBurst.fD),(.int .i64 zr.1.fRate.fN),(.int .i64 zr.1.fRate.fD)],fz [],stb z2c 25 [(.slice z3O z1Y.length z3P)],row (.slice z3O z1Y.length z3P) 42 4 (z1Y.flatMap e42)] [stb z28 74 [(.int .i64 z4F.2.fE)]] [blk z30 (z3i .busy none),stb z6O 42 [(.int .i64 zr.2.fBurst.fN),(.int .i64 zr.2.fBurst.fD),(.int .i64 zr.2.fRate.fN),(.int .i64 zr.2.fRate.fD)],stb z6N 42 [(.int .i64 zr.1.fBurst.fN),(.int .i64 zr.1.fBurst.fD),(.int .i64 zr.1.fRate.fN),(.int .i64 zr.1.fRate.fD)],fz [],stb z2c 25 [(.slice z3O z1Y.length z3P)],row (.slice z3O z1Y.length z3P) 42 4 (z1Y.flatMap e42)]))) (fun _ _ h'=>⟨h'.1,trivial,h'.2⟩)) ?_
      intro _
      refine WD.quiet (i:=11) (d:=44) (by kernel_rfl) rfl (z6 (by kernel_rfl)) (z7 (by kernel_rfl)) rfl rfl rfl (q_build (v:=(.agg #[(.int .i64 z4F.1.fN),(.int .i64 z4F.1.fD),(.int .i64 z67.1.fN),(.int .i64 z67.1.fD)])) (Eos.parts (l:=[.tmp 38,.tmp 43]) (.cons rfl (.cons rfl .nil)) [0,1]) (fun _=>by kernel_rfl)) ?_
      refine WD.new (i:=12) (dd:=45) rfl (by kernel_rfl) rfl rfl rfl (e_buildSlice (cs:=([(⟨z4F.1,z67.1⟩ : z1)] : List z1).flatMap e42) elT_25 (Eos.parts (l:=[.tmp 44]) (.cons rfl .nil) [0]) (fun _=>by kernel_rfl) rfl (by unfold maxLen; omega)) (fun h'=>absurd h' (by decide)) ?_
      intro zxQ _
      refine WD.old (i:=13) (dd:=46) rfl (by kernel_rfl) rfl rfl rfl rfl (fun _=>(Sin.wk (.cons (.there (.there (.there (.there (.there (.there (.there .here))))))) (.cons (.there (.there (.there (.there (.there .here))))) (.cons (.there (.there (.there (.there .here)))) .nil))) (.stb (.cons rfl .nil) (.same (.same .nil))))) (e_appendF (enc:=e42) (l1:=z1Y) (l2:=([(⟨z4F.1,z67.1⟩ : z1)] : List z1)) elT_25 rfl rfl (.there (.there (.there (.there (.there (.there (.there .here))))))) (fun _=>rfl) rfl rfl (news_row .here) (oc_flat e42_oc _) zsq) ?_
      rintro ⟨zdG,zdH⟩ _
      refine WD.last0 (i:=14) rfl (by kernel_rfl) rfl rfl rfl (by kernel_rfl) (e_store (vs:=[(.slice zdG ((z1Y ++ ([(⟨z4F.1,z67.1⟩ : z1)] : List z1)).length) zdH)]) (ds:=[(.slice zdG ((z1Y ++ ([(⟨z4F.1,z67.1⟩ : z1)] : List z1)).length) zdH)]) sizT_25 rfl rfl rfl rfl (oc_cons rfl oc_nil) (.there (.there (.there (.there (.there (.there (.there .here))))))) (Nat.le_of_ble_eq_true rfl) rfl) ?_
      refine WD.done (by kernel_rfl) ?_
      refine WX.blockNormal ?_
      obtain ⟨rfl,rfl⟩:=rf_inj z86
      exact WX.rNormal zhZ (.there (.there (.there (.there .here)))) (fun w' hw'=>⟨(zdG,zdH),rfl,trivial,(hw'.selAll ((.cons (.there (.there (.there (.there (.there (.there (.there .here))))))) (.cons (.there .here) (.cons (.there .here) (.cons (.there (.there .here)) (.cons .here .nil))))) : Sel _ [fz [],stb z2c 25 [(.slice zdG ((z1Y ++ ([(⟨z4F.1,z67.1⟩ : z1)] : List z1)).length) zdH)],row (.slice zdG ((z1Y ++ ([(⟨z4F.1,z67.1⟩ : z1)] : List z1)).length) zdH) 42 4 ((z1Y ++ ([(⟨z4F.1,z67.1⟩ : z1)] : List z1)).flatMap e42),stb z28 74 [(.int .i64 z67.2.fE)],blk z30 (z3i .ready none)] _)).sub (.cons .here .nil)⟩)
     ·skip
      rintro _ w' ⟨⟨zdI,zdJ⟩,rfl,_,hp⟩
      have hp1:=hw1.call ((.cons .here .nil) : Sel [allA [fz [],stb z2c 25 [(.slice none (([] : List z1).length) 0)],row (.slice none (([] : List z1).length) 0) 42 4 (([] : List z1).flatMap e42),stb z28 74 [(.int .i64 0)],blk z30 (z3i .ready none)],dfr z68,stb z4G 25 [(.slice z4W z2g.1.length z4X)],stb z4H 25 [(.slice z4Y z2g.2.length z4Z)],fz z5g] [allA [fz [],stb z2c 25 [(.slice none (([] : List z1).length) 0)],row (.slice none (([] : List z1).length) 0) 42 4 (([] : List z1).flatMap e42),stb z28 74 [(.int .i64 0)],blk z30 (z3i .ready none)]] [dfr z68,stb z4G 25 [(.slice z4W z2g.1.length z4X)],stb z4H 25 [(.slice z4Y z2g.2.length z4Z)],fz z5g]) hp
      have hp2 : Hp _ _ w' [fz [],stb z2c 25 [(.slice zdI z5f.2.1.length zdJ)],row (.slice zdI z5f.2.1.length zdJ) 42 4 (z5f.2.1.flatMap e42),stb z28 74 [(.int .i64 z5f.2.2)],blk z30 (z3i (rdy (pcs [] z5f.1)) (pcs [] z5f.1)),dfr z68,stb z4G 25 [(.slice z4W z2g.1.length z4X)],stb z4H 25 [(.slice z4Y z2g.2.length z4Z)],fz z5g]:=hp1.pickAll .here
      refine ⟨_,pcs [] z5f.1,_,rfl,(hp2.sub ((.cons (.there (.there (.there (.there .here)))) (.cons .here (.cons .here (.cons .here (.cons .here (.cons .here (.cons .here (.cons .here (.cons .here .nil))))))))) : Sel _ [blk z30 (z3i (rdy (pcs [] z5f.1)) (pcs [] z5f.1)),fz [],stb z2c 25 [(.slice zdI z5f.2.1.length zdJ)],row (.slice zdI z5f.2.1.length zdJ) 42 4 (z5f.2.1.flatMap e42),stb z28 74 [(.int .i64 z5f.2.2)],dfr z68,stb z4G 25 [(.slice z4W z2g.1.length z4X)],stb z4H 25 [(.slice z4Y z2g.2.length z4Z)],fz z5g] _)),?_⟩
      clear hp hp1 hp2 pz hw hw1
      refine wjN ?_
      letI : Rnd:=aft z68
      refine WX.merge .here (.there (.there (.there (.there (.there (.there .here)))))) ?_
      refine WX.blockNormal ?_
      exact WX.midR (D:=fun (g : Nat × Int × List z1 × Zp × Option Addr × Nat)=>g.1) (G:=Nat × Int × List z1 × Zp × Option Addr × Nat) ⟨z68,z5f.2.2,z5f.2.1,(z5g ++ []),zdI,zdJ⟩ ⟨h,(zsc.trans (zmM.trans ((Zle.left _ _).trans (Zle.assoc _ _ _))))⟩ (.cons rfl (.cons rfl .nil)) (.cons .here (.cons (.there (.there .here)) (.cons .here (.cons .here (.cons .here .nil)))))
    ·rintro z6M z5I z2x z6f z3W z3X ⟨h,zxR⟩
     replace h:=(zsb z5I z2x).symm.trans h
     letI : Rnd:=aft z6M
     refine WC.seq ?_
     refine WC.seq ?_
     refine WC.region ?_
     refine WL.quiet (d:=47) rfl rfl rfl (q_fieldAddr fo_74_0 rfl rfl) ?_
     refine WL.quiet (d:=48) rfl rfl rfl (q_load1 oneT_30 rfl (rd_stb (.there .here) rfl)) ?_
     refine WL.quiet (d:=49) rfl rfl rfl (q_neq rfl rfl) ?_
     refine WL.nil ?_
     refine WX.then ?_
     refine WC.cond rfl (fun zi0=>?_) (fun zi0=>?_)
     ·replace h:=ite_t h zi0
      refine WC.seq ?_
      refine WC.draw (fun i=>[].contains i) [] rfl ?_
      refine WD.pure (i:=0) (d:=50) (by kernel_rfl) rfl (z6 (by kernel_rfl)) (z7 (by kernel_rfl)) rfl rfl rfl (fun _=>q_fieldAddr fo_74_0 rfl rfl) ?_
      refine WD.quiet (i:=1) (d:=51) (by kernel_rfl) rfl (z6 (by kernel_rfl)) (z7 (by kernel_rfl)) rfl rfl rfl (q_load1 oneT_30 rfl (rd_stb (.there .here) rfl)) ?_
      refine WD.pure (i:=2) (d:=4) (by kernel_rfl) rfl (z6 (by kernel_rfl)) (z7 (by kernel_rfl)) rfl rfl rfl (fun _=>q_assign rfl) ?_
      refine WD.pure (i:=3) (d:=5) (by kernel_rfl) rfl (z6 (by kernel_rfl)) (z7 (by kernel_rfl)) rfl rfl rfl (fun _=>q_assign rfl) ?_
      refine WD.done (by kernel_rfl) ?_
      refine WX.then ?_
      refine WC.ret ?_
      refine WX.thenRet ?_
      refine WX.nilRow 42 4 ?_
      obtain rfl:=Option.some.inj h
      refine WX.bpRetD (.there (.there (.there (.there (.there .here))))) Try.results30 (.tmp rfl (.tmp rfl .nil)) (fun w hw=>?_)
      exact ⟨z6f,none,0,ret2 rfl rfl,trivial,hw.sub (.cons (.there (.there .here)) (.cons (.there .here) .nil))⟩
     ·replace h:=ite_f h zi0
      refine WC.skip ?_
      refine WX.then ?_
      refine WC.seq ?_
      obtain ⟨zhU,zsr,h⟩:=zb h
      refine WC.region ?_
      refine WL.quiet (d:=52) rfl rfl rfl (q_load1 oneT_25 rfl (rd_stb (.there (.there .here)) rfl)) ?_
      refine WL.enter2 (dd:=53) rfl rfl rfl (zg (l:=[.tmp 52]) Try.call45 (.cons rfl .nil)) (.nil : Sel [fz z6f,stb z28 74 [(.int .i64 z5I)],stb z2c 25 [(.slice z3W z2x.length z3X)],row (.slice z3W z2x.length z3X) 42 4 (z2x.flatMap e42),dfr z6M] [] [fz z6f,stb z28 74 [(.int .i64 z5I)],stb z2c 25 [(.slice z3W z2x.length z3X)],row (.slice z3W z2x.length z3X) 42 4 (z2x.flatMap e42),dfr z6M]) (fun w hw=>by have pz:=(hz.call2 hw (.nil : Sel [fz z6f,stb z28 74 [(.int .i64 z5I)],stb z2c 25 [(.slice z3W z2x.length z3X)],row (.slice z3W z2x.length z3X) 42 4 (z2x.flatMap e42),dfr z6M] [] [fz z6f,stb z28 74 [(.int .i64 z5I)],stb z2c 25 [(.slice z3W z2x.length z3X)],row (.slice z3W z2x.length z3X) 42 4 (z2x.flatMap e42),dfr z6M]) .here).lend hw (.nil : Sel [fz z6f,stb z28 74 [(.int .i64 z5I)],stb z2c 25 [(.slice z3W z2x.length z3X)],row (.slice z3W z2x.length z3X) 42 4 (z2x.flatMap e42),dfr z6M] [] [fz z6f,stb z28 74 [(.int .i64 z5I)],stb z2c 25 [(.slice z3W z2x.length z3X)],row (.slice z3W z2x.length z3X) 42 4 (z2x.flatMap e42),dfr z6M]) (B:=[row (.slice z3W z2x.length z3X) 42 4 (z2x.flatMap e42)]) (fun _ hx'=>((.cons (.there (.there (.there .here))) .nil) : Sel _ [row (.slice z3W z2x.length z3X) 42 4 (z2x.flatMap e42)] _).mem hx'); exact w_curve_norm (Z:=_) (z5p:=z3W) (z5q:=z3X) (zh:=z2x) (r:=zhU) w pz (ZA.row (hw.lent (.nil : Sel [fz z6f,stb z28 74 [(.int .i64 z5I)],stb z2c 25 [(.slice z3W z2x.length z3X)],row (.slice z3W z2x.length z3X) 42 4 (z2x.flatMap e42),dfr z6M] [] [fz z6f,stb z28 74 [(.int .i64 z5I)],stb z2c 25 [(.slice z3W z2x.length z3X)],row (.slice z3W z2x.length z3X) 42 4 (z2x.flatMap e42),dfr z6M]) (B:=[row (.slice z3W z2x.length z3X) 42 4 (z2x.flatMap e42)]) (fun _ hx'=>((.cons (.there (.there (.there .here))) .nil) : Sel _ [row (.slice z3W z2x.length z3X) 42 4 (z2x.flatMap e42)] _).mem hx') (.head _) _) (RR.flat (enc:=e42) (fun _=>rfl) _) ⟨w,pz.1⟩) zsr) ?_
      rintro zss zst _
      refine WL.quiet (d:=4) rfl rfl rfl (q_assign rfl) ?_
      refine WL.quiet (d:=5) rfl rfl rfl (q_assign rfl) ?_
      refine WL.nil ?_
      refine WX.then ?_
      refine WC.ret ?_
      obtain rfl:=Option.some.inj h
      refine WX.bpRetD (.there (.there (.there (.there (.there .here))))) Try.results30 (.tmp rfl (.tmp rfl .nil)) (fun w hw=>?_)
      exact ⟨z6f,zss,zst,ret2 rfl rfl,trivial,hw.sub (.cons (.there (.there .here)) (.cons (.there .here) .nil))⟩
def m_ref02_Same_L2 (z31 : List z1) (z3c : List z1) (z8P : Option Bool) : Nat → Int → Option Bool
 | 0,_=>none
 | zi1 + 1,z2E=>if decide (z2E < ((z31.length : Nat) : Int)) then chk ((0 : Int) ≤ z2E ∧ z2E < ((z31.length : Nat) : Int)) (chk ((0 : Int) ≤ z2E ∧ z2E < ((z3c.length : Nat) : Int)) (if decide ((⟨(⟨(((nth z31 z2E).fBurst).fN),(((nth z31 z2E).fBurst).fD)⟩ : z2),(⟨(((nth z31 z2E).fRate).fN),(((nth z31 z2E).fRate).fD)⟩ : z2)⟩ : z1) ≠ (⟨(⟨(((nth z3c z2E).fBurst).fN),(((nth z3c z2E).fBurst).fD)⟩ : z2),(⟨(((nth z3c z2E).fRate).fN),(((nth z3c z2E).fRate).fD)⟩ : z2)⟩ : z1)) then some false else m_ref02_Same_L2 z31 z3c z8P zi1 (i64 (z2E + 1)))) else z8P
theorem m_ref02_Same_L2_fuel {n : Nat} {z31 : List z1} {z3c : List z1} {z8P : Option Bool} {z2E : Int} {r : Bool} (h : m_ref02_Same_L2 z31 z3c z8P n z2E = some r) : ∃ m,n = m + 1:=by
 cases n with
 | zero=>cases h
 | succ m=>exact ⟨m,rfl⟩
def m_ref02_Same (z31 : List z1) (z3c : List z1) : Option Bool :=
 if decide (((z31.length : Nat) : Int) ≠ ((z3c.length : Nat) : Int)) then some false else jp0 (some true) fun z8P=>m_ref02_Same_L2 z31 z3c z8P FUEL 0
set_option maxRecDepth 20000 in
theorem w_ref02_Same (Z : Zp)  (z8Q : Option Addr) (z8R : Nat) (z8S : Option Addr) (z8T : Nat) (z31 : List z1) (z3c : List z1) (r : Bool) (w₀ : World) (hz : PZ [] w₀ Z)
  (zsu : ZS Z 4 (fun r x=>r = e42 x) z8Q z8R z31)
  (zsv : ZS Z 4 (fun r x=>r = e42 x) z8S z8T z3c)
  (h : m_ref02_Same z31 z3c = some r) :
  Calls Try.prog 44 #[(.slice z8Q z31.length z8R),(.slice z8S z3c.length z8T)] w₀ fun e w'=>e = .returned (.bool r) ∧ Hp [] w₀ w' []:=by
 unfold m_ref02_Same at h
 refine Calls.ofWC (vs:=[(.slice z8Q z31.length z8R),(.slice z8S z3c.length z8T)]) (pre:=[]) (env:=[(0,(.slice z8Q z31.length z8R)),(1,(.slice z8S z3c.length z8T))]) Try.func44 rfl Try.ntmps44 rfl (Hp.nil w₀ _) rfl ?_
 refine WC.seq ?_
 refine WC.region ?_
 refine WL.quiet (d:=4) rfl rfl rfl (q_assign rfl) ?_
 refine WL.nil ?_
 refine WX.then ?_
 refine WC.seq ?_
 refine WC.seq ?_
 refine WC.region ?_
 refine WL.quiet (d:=6) rfl rfl rfl (q_move rfl) ?_
 refine WL.quiet (d:=7) rfl rfl rfl (q_len Try.underlying25 rfl) ?_
 refine WL.quiet (d:=8) rfl rfl rfl (q_move rfl) ?_
 refine WL.quiet (d:=9) rfl rfl rfl (q_len Try.underlying25 rfl) ?_
 refine WL.quiet (d:=10) rfl rfl rfl (q_neq rfl rfl) ?_
 refine WL.nil ?_
 refine WX.then ?_
 refine WC.cond rfl (fun zi2=>?_) (fun zi2=>?_)
 ·replace h:=ite_t h zi2
  refine WC.seq ?_
  refine WC.region ?_
  refine WL.quiet (d:=4) rfl rfl rfl (q_assign rfl) ?_
  refine WL.nil ?_
  refine WX.then ?_
  refine WC.ret ?_
  refine WX.thenRet ?_
  obtain rfl:=Option.some.inj h
  refine WX.bpRet Try.results44 (.tmp rfl .nil) (fun w hw=>?_)
  exact ⟨ret1 rfl,hw.sub .nil⟩
 ·replace h:=ite_f h zi2
  refine WC.skip ?_
  refine WX.then ?_
  obtain ⟨z8P,zsw,h⟩:=jp0_elim h
  refine WC.seqMid0 ((z8P = some r)) ([]) ([]) ?_ ?_
  ·skip
   refine WC.seq ?_
   refine WC.region ?_
   refine WL.quiet (d:=5) rfl rfl rfl (q_assign rfl) ?_
   refine WL.nil ?_
   refine WX.then ?_
   refine WC.block ?_
   refine WC.loop2 (fun (zc0 : Nat) (z2E : Int)=>(m_ref02_Same_L2 z31 z3c z8P zc0 z2E = some r)) (fun (zc0 : Nat) (z2E : Int)=>[(0,(.slice z8Q z31.length z8R)),(1,(.slice z8S z3c.length z8T)),(5,(.int .i64 z2E))]) (fun (zc0 : Nat) (z2E : Int)=>[]) (fun (zc0 : Nat) (z2E : Int)=>zc0) ⟨FUEL,0⟩ h (.cons rfl (.cons rfl (.cons rfl .nil))) .nil ?_
   rintro zc0 z2E h
   obtain ⟨zi1,rfl⟩:=m_ref02_Same_L2_fuel h
   rw [m_ref02_Same_L2] at h
   refine WC.seq ?_
   refine WC.seq ?_
   refine WC.region ?_
   refine WL.quiet (d:=11) rfl rfl rfl (q_move rfl) ?_
   refine WL.quiet (d:=12) rfl rfl rfl (q_move rfl) ?_
   refine WL.quiet (d:=13) rfl rfl rfl (q_len Try.underlying25 rfl) ?_
   refine WL.quiet (d:=14) rfl rfl rfl (q_lss rfl rfl) ?_
   refine WL.nil ?_
   refine WX.then ?_
   refine WC.cond rfl (fun zi3=>?_) (fun zi3=>?_)
   ·replace h:=ite_t h zi3
    refine WC.skip ?_
    refine WX.then ?_
    refine WC.seq ?_
    refine WC.block ?_
    refine WC.seq ?_
    obtain ⟨zsx,h⟩:=chk_elim h
    obtain ⟨zsy,h⟩:=chk_elim h
    refine WC.draw (fun i=>[].contains i) [] rfl ?_
    refine WD.pure (i:=0) (d:=17) (by kernel_rfl) rfl (z6 (by kernel_rfl)) (z7 (by kernel_rfl)) rfl rfl rfl (fun _=>q_move rfl) ?_
    refine WD.pure (i:=1) (d:=18) (by kernel_rfl) rfl (z6 (by kernel_rfl)) (z7 (by kernel_rfl)) rfl rfl rfl (fun _=>q_move rfl) ?_
    refine WD.znth (j:=2) (dd:=19) (by kernel_rfl) rfl (z6 (by kernel_rfl)) (z7 (by kernel_rfl)) rfl rfl (Z:=Z) (Pr:=(fun r x=>r = e42 x)) elT_25 rfl rfl zsu zsx ?_
    rintro zxS zxT zsz zxU rfl
    refine WD.quiet (i:=3) (d:=20) (by kernel_rfl) rfl (z6 (by kernel_rfl)) (z7 (by kernel_rfl)) rfl rfl rfl (q_loadA (cs:=[(.int .i64 (((nth z31 z2E).fBurst).fN)),(.int .i64 (((nth z31 z2E).fBurst).fD)),(.int .i64 (((nth z31 z2E).fRate).fN)),(.int .i64 (((nth z31 z2E).fRate).fD))]) aggT_42 rfl rfl (rd_zs hz.pv zsz)) ?_
    refine WD.pure (i:=4) (d:=21) (by kernel_rfl) rfl (z6 (by kernel_rfl)) (z7 (by kernel_rfl)) rfl rfl rfl (fun _=>q_move rfl) ?_
    refine WD.pure (i:=5) (d:=22) (by kernel_rfl) rfl (z6 (by kernel_rfl)) (z7 (by kernel_rfl)) rfl rfl rfl (fun _=>q_move rfl) ?_
    refine WD.znth (j:=6) (dd:=23) (by kernel_rfl) rfl (z6 (by kernel_rfl)) (z7 (by kernel_rfl)) rfl rfl (Z:=Z) (Pr:=(fun r x=>r = e42 x)) elT_25 rfl rfl zsv zsy ?_
    rintro zxV zxW zsA zxX rfl
    refine WD.quiet (i:=7) (d:=24) (by kernel_rfl) rfl (z6 (by kernel_rfl)) (z7 (by kernel_rfl)) rfl rfl rfl (q_loadA (cs:=[(.int .i64 (((nth z3c z2E).fBurst).fN)),(.int .i64 (((nth z3c z2E).fBurst).fD)),(.int .i64 (((nth z3c z2E).fRate).fN)),(.int .i64 (((nth z3c z2E).fRate).fD))]) aggT_42 rfl rfl (rd_zs hz.pv zsA)) ?_
    refine WD.pure (i:=8) (d:=25) (by kernel_rfl) rfl (z6 (by kernel_rfl)) (z7 (by kernel_rfl)) rfl rfl rfl (fun _=>q_aggneq (enc:=e42) (a:=(⟨(⟨(((nth z31 z2E).fBurst).fN),(((nth z31 z2E).fBurst).fD)⟩ : z2),(⟨(((nth z31 z2E).fRate).fN),(((nth z31 z2E).fRate).fD)⟩ : z2)⟩ : z1)) (b:=(⟨(⟨(((nth z3c z2E).fBurst).fN),(((nth z3c z2E).fBurst).fD)⟩ : z2),(⟨(((nth z3c z2E).fRate).fN),(((nth z3c z2E).fRate).fD)⟩ : z2)⟩ : z1)) eqT_42 rfl rfl) ?_
    refine WD.done (by kernel_rfl) ?_
    refine WX.then ?_
    refine WC.cond rfl (fun zi4=>?_) (fun zi4=>?_)
    ·replace h:=ite_t h zi4
     refine WC.seq ?_
     refine WC.region ?_
     refine WL.quiet (d:=4) rfl rfl rfl (q_assign rfl) ?_
     refine WL.nil ?_
     refine WX.then ?_
     refine WC.ret ?_
     refine WX.blockRet ?_
     refine WX.thenRet ?_
     refine WX.thenRet ?_
     refine WX.blockRet ?_
     refine WX.thenRet ?_
     obtain rfl:=Option.some.inj h
     refine WX.bpRet Try.results44 (.tmp rfl .nil) (fun w hw=>?_)
     exact ⟨ret1 rfl,hw.sub .nil⟩
    ·replace h:=ite_f h zi4
     refine WC.skip ?_
     refine WX.blockNormal ?_
     refine WX.then ?_
     refine WC.region ?_
     refine WL.quiet (d:=15) rfl rfl rfl (q_move rfl) ?_
     refine WL.quiet (d:=16) rfl rfl rfl (q_add rfl rfl rfl) ?_
     refine WL.quiet (d:=5) rfl rfl rfl (q_assign rfl) ?_
     refine WL.nil ?_
     exact WX.round (G:=Nat × Int) ⟨zi1,(i64 (z2E + 1))⟩ h (Nat.lt_succ_self _) (.cons rfl (.cons rfl (.cons rfl .nil))) .nil
   ·replace h:=ite_f h zi3
    refine WC.exit ?_
    refine WX.thenExit ?_
    refine WX.thenExit ?_
    refine WX.blockHit ?_
    exact WX.mid (G:=Unit) () h .nil .nil
  ·rintro  h
   replace h:=zsw.symm.trans h
   refine WC.seq ?_
   refine WC.region ?_
   refine WL.quiet (d:=4) rfl rfl rfl (q_assign rfl) ?_
   refine WL.nil ?_
   refine WX.then ?_
   refine WC.ret ?_
   obtain rfl:=Option.some.inj h
   refine WX.bpRet Try.results44 (.tmp rfl .nil) (fun w hw=>?_)
   exact ⟨ret1 rfl,hw.sub .nil⟩
end Go.Proofs.Ytbihfglmcjkdhaa

/- A part of this claim's proof: models of functions, walks, plain laws. No conditions. -/
import Derived.Test.YtinchjigeakocaaW31b
namespace Go.Proofs.Ytinchjigeakocaa
open Go Go.RowKit Sep
set_option linter.all false
set_option maxRecDepth 30000
set_option maxHeartbeats 4000000
def yD (z3B : Sport_frame → Option Bool) (z7f : (List Sport_frame) → Int → Option (List Sport_frame)) : Nat → (List Sport_frame) → Int → Int → Option (List Sport_frame)
  | 0,_,_,_=>none
  | zhm + 1,zT,z1M,z10=>if decide (z10 < ((zT.length : Nat) : Int)) then jp2 (fun (z4f : List Sport_frame) (z7g : Int)=>yD z3B z7f zhm z4f z7g (i64 (z10 + 1))) fun zeC=>chk ((0 : Int) ≤ z10 ∧ z10 < ((zT.length : Nat) : Int)) ((z3B (⟨((nth zT z10).fSize),((nth zT z10).fFin)⟩ : Sport_frame)).bind fun zhn=>if !zhn then chk ((0 : Int) ≤ z1M ∧ z1M < ((zT.length : Nat) : Int)) (zeC (zT.set (z1M : Int).toNat (⟨((nth zT z10).fSize),((nth zT z10).fFin)⟩ : Sport_frame)) (i64 (z1M + 1))) else zeC zT z1M) else z7f zT z1M
theorem y2Y {n : Nat} {z3B : Sport_frame → Option Bool} {z7f : (List Sport_frame) → Int → Option (List Sport_frame)} {zT : List Sport_frame} {z1M : Int} {z10 : Int} {r : List Sport_frame} (h : yD z3B z7f n zT z1M z10 = some r) : ∃ m,n = m + 1:=by
  cases n with
  | zero=>cases h
  | succ m=>exact ⟨m,rfl⟩
def yS (z1N : List Sport_frame) (z3B : Sport_frame → Option Bool) : Option (List Sport_frame) :=
  (yT z1N z3B).bind fun zaI=>if decide (zaI = (-1)) then some z1N else jp2 (fun (z1O : List Sport_frame) (z1P : Int)=>chk ((0 : Int) ≤ z1P ∧ z1P ≤ ((z1O.length : Nat) : Int)) (chk ((0 : Int) ≤ z1P ∧ z1P ≤ (((z1O.take (z1P : Int).toNat ++ List.replicate (z1O.length - (z1P : Int).toNat) ((⟨0,0⟩ : Sport_frame) : Sport_frame)).length : Nat) : Int)) (some ((z1O.take (z1P : Int).toNat ++ List.replicate (z1O.length - (z1P : Int).toNat) ((⟨0,0⟩ : Sport_frame) : Sport_frame)).take (z1P : Int).toNat)))) fun z7f=>yD z3B z7f yA z1N zaI (i64 (zaI + 1))
set_option maxRecDepth 20000 in
theorem y3x (Z : Zp) (z2D : Option Addr) (z2h : Nat) (z4U : FuncId) (z7h : List Value) (z1N : List Sport_frame) (z3B : Sport_frame → Option Bool) (r : List Sport_frame)
     (h : yS z1N z3B = some r) (w₀ : World) (hz : PZ (fps [row (.slice z2D z1N.length z2h) 146 2 (z1N.flatMap y1W)]) w₀ Z)
     (zm6 : ∀ args w,(callFunc z4U args).run Try.prog w = .ok (.enter z4U args) w)
     (zm7 : ∀ w : World,PZ [] w Z → ∀ (x0 : Sport_frame) (r : Bool),z3B x0 = some r → Calls Try.prog z4U (([(.agg #[(.int .i64 x0.fSize),(.int .i64 x0.fFin)])] : List Value) ++ z7h).toArray w fun e w'=>e = .returned (.bool r) ∧ Hp [] w w' [])
    (hown : Hp (fps [row (.slice z2D z1N.length z2h) 146 2 (z1N.flatMap y1W)]) w₀ w₀ [row (.slice z2D z1N.length z2h) 146 2 (z1N.flatMap y1W)]) :
    Calls Try.prog 54 #[(.slice z2D z1N.length z2h),(.func (.func z4U) #[] (z7h).toArray)] w₀ fun e w'=>∃ zm8 : Option Addr,∃ zm9 : Nat,e = .returned (.slice zm8 r.length zm9) ∧ True ∧ Hp (fps [row (.slice z2D z1N.length z2h) 146 2 (z1N.flatMap y1W)]) w₀ w' [row (.slice zm8 r.length zm9) 146 2 (r.flatMap y1W)]:=by
  unfold yS at h
  refine Calls.yl (vs:=[(.slice z2D z1N.length z2h),(.func (.func z4U) #[] (z7h).toArray)]) (pre:=[row (.slice z2D z1N.length z2h) 146 2 (z1N.flatMap y1W)]) (env:=[(0,(.slice z2D z1N.length z2h)),(1,(.func (.func z4U) #[] (z7h).toArray))]) Try.func54 rfl Try.ntmps54 rfl (hown) rfl ?_
  refine WC.b (WC.a (WL.pu rfl (WL.nil (WX.a (WC.b ?_)))))
  obtain ⟨zaI,zrn,h⟩:=zp h
  refine WC.a (WL.pu rfl (WL.pu rfl ?_))
  refine WL.b (dd:=10) rfl rfl rfl (zF (l:=[.tmp 8,.tmp 9]) Try.call63 (.cons rfl (.cons rfl .nil))) .nil (ccl hz .nil (.cons .here .nil) fun w pz ho la=>y3G _ _ _ (z7e:=z4U) (z9j:=z7h) _ (z4T:=z3B) _ zrn w pz (ZA.row (la _ (.head _) _) (RR.y1m (enc:=y1W) (fun _=>rfl) _) ⟨w,pz.1⟩) zm6 (fun w' hz'=>zm7 w' (hz'.le (Zle.left _ _)))) ?_
  refine WL.pu rfl (WL.nil (WX.a (WC.b (WC.b (WC.a (WL.pu rfl (WL.pu rfl (WL.nil (WX.a ?_)))))))))
  refine WC.cond rfl (fun zho=>?_) (fun zho=>?_)
  · replace h:=ym h zho
    refine WC.b (WC.a (WL.pu rfl (WL.pu rfl (WL.nil (WX.a (WC.ret (WX.yg ?_)))))))
    obtain rfl:=Option.some.inj h
    refine WX.yi Try.results54 (.tmp rfl .nil) (fun w hw=>?_)
    exact ⟨z2D,z2h,y10 rfl,trivial,hw.sub (.cons .here .nil)⟩
  · replace h:=yn h zho
    refine WC.skip (WX.a ?_)
    obtain ⟨z7f,zro,h⟩:=y32 h
    refine WC.y2p (fun (z1O : List Sport_frame) (z1P : Int)=>(z7f z1O z1P = some r) ∧ (z1O.length = z1N.length)) (fun (z1O : List Sport_frame) (z1P : Int)=>[(0,(.slice z2D z1O.length z2h)),(5,(.int .i64 z1P))]) (fun (z1O : List Sport_frame) (z1P : Int)=>[row (.slice z2D z1O.length z2h) 146 2 (z1O.flatMap y1W)]) ?_ ?_
    · skip
      refine WC.b (WC.a (WL.pu rfl (WL.pu rfl (WL.pu rfl (WL.nil (WX.a (WC.block ?_)))))))
      refine WC.y54 (fun (zaJ : Nat) (zT : List Sport_frame) (z1M : Int) (z10 : Int)=>(yD z3B z7f zaJ zT z1M z10 = some r) ∧ (zT.length = z1N.length)) (fun (zaJ : Nat) (zT : List Sport_frame) (z1M : Int) (z10 : Int)=>[(0,(.slice z2D zT.length z2h)),(1,(.func (.func z4U) #[] (z7h).toArray)),(5,(.int .i64 z1M)),(6,(.int .i64 z10))]) (fun (zaJ : Nat) (zT : List Sport_frame) (z1M : Int) (z10 : Int)=>[row (.slice z2D zT.length z2h) 146 2 (zT.flatMap y1W)]) (fun (zaJ : Nat) (zT : List Sport_frame) (z1M : Int) (z10 : Int)=>zaJ) ⟨yA,z1N,zaI,(i64 (zaI + 1))⟩ ⟨h,rfl⟩ (.cons rfl (.cons rfl (.cons rfl (.cons rfl .nil)))) (.cons .here .nil) ?_
      rintro zaJ zT z1M z10 ⟨h,zhp⟩
      obtain ⟨zhm,rfl⟩:=y2Y h
      rw [yD] at h
      refine WC.b (WC.b (WC.a (WL.pu rfl (WL.pu rfl ?_))))
      refine WL.a (d:=18) rfl rfl rfl (yZ Try.underlying141 rfl) ?_
      refine WL.pu rfl (WL.nil (WX.a ?_))
      refine WC.cond rfl (fun zhq=>?_) (fun zhq=>?_)
      · replace h:=ym h zhq
        refine WC.skip (WX.a ?_)
        obtain ⟨zeC,zrp,h⟩:=y32 h
        refine WC.y2p (fun (z4f : List Sport_frame) (z7g : Int)=>(zeC z4f z7g = some r) ∧ (z4f.length = z1N.length)) (fun (z4f : List Sport_frame) (z7g : Int)=>[(0,(.slice z2D z4f.length z2h)),(1,(.func (.func z4U) #[] (z7h).toArray)),(5,(.int .i64 z7g)),(6,(.int .i64 z10))]) (fun (z4f : List Sport_frame) (z7g : Int)=>[row (.slice z2D z4f.length z2h) 146 2 (z4f.flatMap y1W)]) ?_ ?_
        · skip
          refine WC.block (WC.b ?_)
          obtain ⟨zdc,h⟩:=yj h
          refine WC.a (WL.pu rfl (WL.pu rfl ?_))
          refine WL.know (fun w hw=>Hp.y2w .here hw (by intro hz'; have:=zdc; rw [hz'] at this; omega)) ?_
          rintro ⟨zma,rfl⟩
          refine WL.a (d:=24) rfl rfl rfl (yq z6E rfl rfl zdc.1 zdc.2 y18) ?_
          refine WL.a (d:=25) rfl rfl rfl (y1C (cs:=(y1W (nth zT z10))) z9C rfl rfl (y1P .here (y1y (enc:=y1W) (l:=zT) (i:=z10) (sz:=2) (fun _=>rfl) zdc.1 zdc.2))) ?_
          refine WL.new (dd:=7) rfl rfl rfl (y23 (cs:=[(.int .i64 0),(.int .i64 0)]) zfD rfl) ?_
          intro zx0 _
          refine WL.y1l rfl rfl (y1D zfE rfl rfl rfl .here rfl rfl rfl) ?_
          refine WL.nil (WX.a (WC.b ?_))
          obtain ⟨zhn,zrq,h⟩:=zp h
          refine WC.a (WL.pu rfl ?_)
          refine WL.a (d:=27) rfl rfl rfl (yH z9C rfl (y1j .here) rfl) ?_
          refine WL.b (dd:=28) rfl rfl rfl (y3D (l:=[.tmp 27]) (f:=z4U) (caps:=z7h) zm6 rfl (.cons rfl .nil)) .nil (fun w hw=>zm7 w (hz.now hw) (⟨((nth zT z10).fSize),((nth zT z10).fFin)⟩ : Sport_frame) zhn  zrq) ?_
          refine WL.pu rfl (WL.nil (WX.a ?_))
          refine WC.cond rfl (fun zhr=>?_) (fun zhr=>?_)
          · replace h:=ym h zhr
            refine WC.b ?_
            obtain ⟨zaK,h⟩:=yj h
            refine WC.a (WL.pu rfl (WL.pu rfl ?_))
            refine WL.a (d:=32) rfl rfl rfl (yH z9C rfl (y1j .here) rfl) ?_
            refine WL.a (d:=33) rfl rfl rfl (yq z6E rfl rfl zaK.1 zaK.2 y18) ?_
            refine WL.y1l rfl rfl (y2m (vs:=[(.int .i64 ((nth zT z10).fSize)),(.int .i64 ((nth zT z10).fFin))]) (ds:=(zT.set (z1M : Int).toNat (⟨((nth zT z10).fSize),((nth zT z10).fFin)⟩ : Sport_frame)).flatMap y1W) zfE rfl rfl rfl rfl (ocB rfl) .h1 (y33 (enc:=y1W) (sz:=2) (k:=0) (fun _=>rfl) zaK.1 zaK.2 (by decide)) (y31 (enc:=y1W) (l:=zT) (sz:=2) (vs:=[(.int .i64 ((nth zT z10).fSize)),(.int .i64 ((nth zT z10).fFin))]) (y:=(⟨((nth zT z10).fSize),((nth zT z10).fFin)⟩ : Sport_frame)) (k:=0) (fun _=>rfl) zaK.1 zaK.2 rfl (Nat.le_of_ble_eq_true rfl))) ?_
            refine WL.relen .here (u:=(.slice (some ⟨zma,0,none⟩) ((zT.set (z1M : Int).toNat (⟨((nth zT z10).fSize),((nth zT z10).fFin)⟩ : Sport_frame)).length) z2h)) (y1E (List.length_set).symm) ?_
            refine WL.repin (i:=0) rfl (u:=(.slice (some ⟨zma,0,none⟩) ((zT.set (z1M : Int).toNat (⟨((nth zT z10).fSize),((nth zT z10).fFin)⟩ : Sport_frame)).length) z2h)) (y1E (List.length_set).symm) ?_
            refine WL.nil (WX.a (WC.a (WL.pu rfl (WL.pu rfl (WL.pu rfl (WL.nil (WX.yh ?_)))))))
            exact WX.mid (G:=List Sport_frame × Int) ⟨(zT.set (z1M : Int).toNat (⟨((nth zT z10).fSize),((nth zT z10).fFin)⟩ : Sport_frame)),(i64 (z1M + 1))⟩ ⟨h,((List.length_set).trans zhp)⟩ (.cons rfl (.cons rfl (.cons rfl (.cons rfl .nil)))) (.cons .here .nil)
          · replace h:=yn h zhr
            refine WC.skip (WX.yh ?_)
            exact WX.mid (G:=List Sport_frame × Int) ⟨zT,z1M⟩ ⟨h,zhp⟩ (.cons rfl (.cons rfl (.cons rfl (.cons rfl .nil)))) (.cons .h1 .nil)
        · rintro z4f z7g ⟨h,zrr⟩
          replace h:=(zrp z4f z7g).symm.trans h
          refine WC.a (WL.pu rfl (WL.pu rfl (WL.pu rfl (WL.nil ?_))))
          exact WX.round (G:=Nat × List Sport_frame × Int × Int) ⟨zhm,z4f,z7g,(i64 (z10 + 1))⟩ ⟨h,zrr⟩ (Nat.lt_succ_self _) (.cons rfl (.cons rfl (.cons rfl (.cons rfl .nil)))) (.cons .here .nil)
      · replace h:=yn h zhq
        refine WC.exit (WX.yf (WX.yf (WX.yB ?_)))
        exact WX.mid (G:=List Sport_frame × Int) ⟨zT,z1M⟩ ⟨h,zhp⟩ (.cons rfl (.cons rfl .nil)) (.cons .here .nil)
    · rintro z1O z1P ⟨h,zx1⟩
      replace h:=(zro z1O z1P).symm.trans h
      refine WC.b ?_
      obtain ⟨zeD,h⟩:=yj h
      refine WC.a (WL.pu rfl (WL.pu rfl ?_))
      refine WL.y9n (dd:=38) rfl rfl z6E rfl rfl .here zeD ?_
      intro zx2 zx3 zrs
      refine WL.y1l rfl rfl (y8f (enc:=y1W) (z0:=((⟨0,0⟩ : Sport_frame) : Sport_frame)) (l:=z1O) z6E zfD rfl zrs zeD (fun _=>rfl) (by decide) rfl y8T .here) ?_
      refine WL.relen .here (u:=(.slice z2D ((z1O.take (z1P : Int).toNat ++ List.replicate (z1O.length - (z1P : Int).toNat) ((⟨0,0⟩ : Sport_frame) : Sport_frame)).length) z2h)) (y1E (y6r zeD).symm) ?_
      refine WL.repin (i:=0) rfl (u:=(.slice z2D ((z1O.take (z1P : Int).toNat ++ List.replicate (z1O.length - (z1P : Int).toNat) ((⟨0,0⟩ : Sport_frame) : Sport_frame)).length) z2h)) (y1E (y6r zeD).symm) ?_
      refine WL.nil (WX.a (WC.b ?_))
      obtain ⟨zrt,h⟩:=yj h
      refine WC.a (WL.pu rfl (WL.pu rfl ?_))
      refine WL.y6s (dd:=41) (enc:=y1W) (ls:=z1O.take (z1P : Int).toNat ++ List.replicate (z1O.length - (z1P : Int).toNat) ((⟨0,0⟩ : Sport_frame) : Sport_frame)) rfl rfl z6E rfl rfl .here (fun _=>rfl) zrt ?_
      intro zru zrv
      refine WL.pu rfl (WL.nil (WX.a (WC.ret ?_)))
      obtain rfl:=Option.some.inj h
      refine WX.yi Try.results54 (.tmp rfl .nil) (fun w hw=>?_)
      exact ⟨zru,zrv,y10 rfl,trivial,hw.sub (.cons .here .nil)⟩
def y2k (z4V : Sport_frame) (zeE : Int) : Option Bool :=
  some (decide (z4V.fFin > zeE))
set_option maxRecDepth 20000 in
theorem y6z (Z : Zp) (zeF : Addr) (z4V : Sport_frame) (zeE : Int) (r : Bool)
     (h : y2k z4V zeE = some r) (w₀ : World) (hz : PZ [] w₀ Z)
     (zrw : ZC Z zeF [(.int .i64 zeE)]) :
    Calls Try.prog 65 #[(.agg #[(.int .i64 z4V.fSize),(.int .i64 z4V.fFin)]),(.pointer (some zeF))] w₀ fun e w'=>e = .returned (.bool r) ∧ Hp [] w₀ w' []:=by
  unfold y2k at h
  refine Calls.yl (vs:=[(.agg #[(.int .i64 z4V.fSize),(.int .i64 z4V.fFin)]),(.pointer (some zeF))]) (pre:=[]) (env:=[(0,(.agg #[(.int .i64 z4V.fSize),(.int .i64 z4V.fFin)])),(1,(.pointer (some zeF)))]) Try.func65 rfl Try.ntmps65 rfl (Hp.nil w₀ _) rfl ?_
  refine WC.b (WC.a ?_)
  refine WL.new (dd:=2) rfl rfl rfl (y2c (cs:=[(.int .i64 z4V.fSize),(.int .i64 z4V.fFin)]) rfl rfl) ?_
  intro zx4 _
  refine WL.pu rfl (WL.nil (WX.a (WC.b (WC.a ?_))))
  refine WL.a (d:=4) rfl rfl rfl (ya y8t rfl rfl) ?_
  refine WL.a (d:=5) rfl rfl rfl (yb ye rfl (yc .here rfl)) ?_
  refine WL.a (d:=6) rfl rfl rfl (yb ye rfl (rd_z hz.pv zrw rfl)) ?_
  refine WL.pu rfl (WL.pu rfl (WL.nil (WX.a (WC.ret ?_))))
  obtain rfl:=Option.some.inj h
  refine WX.yi Try.results65 (.tmp rfl .nil) (fun w hw=>?_)
  exact ⟨y10 rfl,hw.sub .nil⟩
def y22 (z1t : Sport_Port) (z4W : Sport_frame → Option Bool) (z7i : Int → Option Int) : Nat → Int → Int → Option Int
  | 0,_,_=>none
  | zhs + 1,z36,z1V=>if decide (z1V < ((z1t.fFrames.length : Nat) : Int)) then jp1 (fun (z7j : Int)=>y22 z1t z4W z7i zhs z7j (i64 (z1V + 1))) fun zeG=>chk ((0 : Int) ≤ z1V ∧ z1V < ((z1t.fFrames.length : Nat) : Int)) ((z4W (⟨((nth z1t.fFrames z1V).fSize),((nth z1t.fFrames z1V).fFin)⟩ : Sport_frame)).bind fun zht=>if zht then zeG (i64 (z36 + ((nth z1t.fFrames z1V).fSize))) else zeG z36) else z7i z36
theorem y5h {n : Nat} {z1t : Sport_Port} {z4W : Sport_frame → Option Bool} {z7i : Int → Option Int} {z36 : Int} {z1V : Int} {r : Int} (h : y22 z1t z4W z7i n z36 z1V = some r) : ∃ m,n = m + 1:=by
  cases n with
  | zero=>cases h
  | succ m=>exact ⟨m,rfl⟩
def y2K (z1t : Sport_Port) (z4W : Sport_frame → Option Bool) : Option Int :=
  jp1 (fun (z86 : Int)=>some z86) fun z7i=>y22 z1t z4W z7i yA 0 0
set_option maxRecDepth 20000 in
theorem y7p (Z : Zp) (zeH : Addr) (zeI : Option Addr) (zeJ : Nat) (z6h : FuncId) (z87 : List Value) (z1t : Sport_Port) (z4W : Sport_frame → Option Bool) (r : Int)
     (h : y2K z1t z4W = some r) (w₀ : World) (hz : PZ [] w₀ Z)
     (zrx : ZS Z 2 (fun r x=>r = y1W x) zeI zeJ z1t.fFrames)
     (zry : ZC Z zeH [(.int .i64 z1t.fNumbers.fSlow),(.int .i64 z1t.fNumbers.fDelay),(.int .i64 z1t.fNumbers.fStore),(.int .i64 z1t.fNow),(.int .i64 z1t.fLast),(.slice zeI z1t.fFrames.length zeJ)])
     (zrz : ∀ args w,(callFunc z6h args).run Try.prog w = .ok (.enter z6h args) w)
     (zrA : ∀ w : World,PZ [] w Z → ∀ (x0 : Sport_frame) (r : Bool),z4W x0 = some r → Calls Try.prog z6h (([(.agg #[(.int .i64 x0.fSize),(.int .i64 x0.fFin)])] : List Value) ++ z87).toArray w fun e w'=>e = .returned (.bool r) ∧ Hp [] w w' []) :
    Calls Try.prog 64 #[(.pointer (some zeH)),(.func (.func z6h) #[] (z87).toArray)] w₀ fun e w'=>e = .returned (.int .i64 r) ∧ Hp [] w₀ w' []:=by
  unfold y2K at h
  refine Calls.yl (vs:=[(.pointer (some zeH)),(.func (.func z6h) #[] (z87).toArray)]) (pre:=[]) (env:=[(0,(.pointer (some zeH))),(1,(.func (.func z6h) #[] (z87).toArray))]) Try.func64 rfl Try.ntmps64 rfl (Hp.nil w₀ _) rfl ?_
  refine WC.b (WC.a (WL.pu rfl (WL.nil (WX.a (WC.b (WC.a (WL.pu rfl (WL.nil (WX.a ?_)))))))))
  obtain ⟨z7i,zrB,h⟩:=y1d h
  refine WC.y1L (fun (z86 : Int)=>(z7i z86 = some r)) (fun (z86 : Int)=>[(5,(.int .i64 z86))]) (fun (z86 : Int)=>[]) ?_ ?_
  · skip
    refine WC.b (WC.a (WL.pu rfl ?_))
    refine WL.a (d:=9) rfl rfl rfl (yt rfl) ?_
    refine WL.a (d:=10) rfl rfl rfl (ya y58 rfl rfl) ?_
    refine WL.a (d:=11) rfl rfl rfl (yb zfC rfl (y1G hz.pv zry rfl)) ?_
    refine WL.a (d:=12) rfl rfl rfl (yZ Try.underlying141 rfl) ?_
    refine WL.pu rfl (WL.nil (WX.a (WC.block ?_)))
    refine WC.y2q (fun (zaL : Nat) (z36 : Int) (z1V : Int)=>(y22 z1t z4W z7i zaL z36 z1V = some r)) (fun (zaL : Nat) (z36 : Int) (z1V : Int)=>[(1,(.func (.func z6h) #[] (z87).toArray)),(5,(.int .i64 z36)),(11,(.slice zeI z1t.fFrames.length zeJ)),(12,(.int .i64 ((z1t.fFrames.length : Nat) : Int))),(13,(.int .i64 z1V))]) (fun (zaL : Nat) (z36 : Int) (z1V : Int)=>[]) (fun (zaL : Nat) (z36 : Int) (z1V : Int)=>zaL) ⟨yA,0,0⟩ h (.cons rfl (.cons rfl (.cons rfl (.cons rfl (.cons rfl .nil))))) .nil ?_
    rintro zaL z36 z1V h
    obtain ⟨zhs,rfl⟩:=y5h h
    rw [y22] at h
    refine WC.b (WC.a (WL.pu rfl (WL.nil (WX.a (WC.b ?_)))))
    refine WC.cond rfl (fun zhu=>?_) (fun zhu=>?_)
    · replace h:=ym h zhu
      refine WC.skip (WX.a ?_)
      obtain ⟨zeG,zrC,h⟩:=y1d h
      refine WC.y1L (fun (z7j : Int)=>(zeG z7j = some r)) (fun (z7j : Int)=>[(1,(.func (.func z6h) #[] (z87).toArray)),(5,(.int .i64 z7j)),(11,(.slice zeI z1t.fFrames.length zeJ)),(12,(.int .i64 ((z1t.fFrames.length : Nat) : Int))),(13,(.int .i64 z1V))]) (fun (z7j : Int)=>[]) ?_ ?_
      · skip
        refine WC.block (WC.b ?_)
        obtain ⟨zrD,h⟩:=yj h
        refine WC.a ?_
        refine WL.znth (dd:=15) rfl rfl (Z:=Z) (Pr:=(fun r x=>r = y1W x)) z6E rfl rfl zrx zrD ?_
        rintro zx5 zx6 zrE zx7 rfl
        refine WL.a (d:=16) rfl rfl rfl (yH z9C rfl (y3F hz.pv zrE) rfl) ?_
        refine WL.new (dd:=7) rfl rfl rfl (y23 (cs:=[(.int .i64 0),(.int .i64 0)]) zfD rfl) ?_
        intro zx8 _
        refine WL.y1l rfl rfl (y1D zfE rfl rfl rfl .here rfl rfl rfl) ?_
        refine WL.nil (WX.a (WC.b ?_))
        obtain ⟨zht,zrF,h⟩:=zp h
        refine WC.a (WL.pu rfl ?_)
        refine WL.a (d:=18) rfl rfl rfl (yH z9C rfl (y1j .here) rfl) ?_
        refine WL.b (dd:=19) rfl rfl rfl (y3D (l:=[.tmp 18]) (f:=z6h) (caps:=z87) zrz rfl (.cons rfl .nil)) .nil (fun w hw=>zrA w (hz.now hw) (⟨((nth z1t.fFrames z1V).fSize),((nth z1t.fFrames z1V).fFin)⟩ : Sport_frame) zht  zrF) ?_
        refine WL.nil (WX.a ?_)
        refine WC.cond rfl (fun zhv=>?_) (fun zhv=>?_)
        · replace h:=ym h zhv
          refine WC.a (WL.pu rfl ?_)
          refine WL.a (d:=21) rfl rfl rfl (ya fo_146_0 rfl rfl) ?_
          refine WL.a (d:=22) rfl rfl rfl (yb ye rfl (yc .here rfl)) ?_
          refine WL.pu rfl (WL.pu rfl (WL.nil (WX.yh ?_)))
          exact WX.mid (G:=Int) (i64 (z36 + ((nth z1t.fFrames z1V).fSize))) h (.cons rfl (.cons rfl (.cons rfl (.cons rfl (.cons rfl .nil))))) .nil
        · replace h:=yn h zhv
          refine WC.skip (WX.yh ?_)
          exact WX.mid (G:=Int) z36 h (.cons rfl (.cons rfl (.cons rfl (.cons rfl (.cons rfl .nil))))) .nil
      · rintro z7j h
        replace h:=(zrC z7j).symm.trans h
        refine WC.a (WL.pu rfl (WL.pu rfl (WL.nil ?_)))
        exact WX.round (G:=Nat × Int × Int) ⟨zhs,z7j,(i64 (z1V + 1))⟩ h (Nat.lt_succ_self _) (.cons rfl (.cons rfl (.cons rfl (.cons rfl (.cons rfl .nil))))) .nil
    · replace h:=yn h zhu
      refine WC.exit (WX.yf (WX.yf (WX.yB ?_)))
      exact WX.mid (G:=Int) z36 h (.cons rfl .nil) .nil
  · rintro z86 h
    replace h:=(zrB z86).symm.trans h
    refine WC.b (WC.a (WL.pu rfl (WL.pu rfl (WL.nil (WX.a (WC.ret ?_))))))
    obtain rfl:=Option.some.inj h
    refine WX.yi Try.results64 (.tmp rfl .nil) (fun w hw=>?_)
    exact ⟨y10 rfl,hw.sub .nil⟩
def y3H (z3C : Sport_Port) (z88 : Int) : Option Int :=
  (y2C z3C).bind fun zmb=>if zmb then some 0 else (y2K z3C (fun (y0 : Sport_frame)=>y2k y0 (max z88 z3C.fNow))).bind fun zmc=>some zmc
set_option maxRecDepth 20000 in
theorem y76 (Z : Zp) (zeK : Addr) (zmd : Option Addr) (zme : Nat) (z3C : Sport_Port) (z88 : Int) (r : Int)
     (h : y3H z3C z88 = some r) (w₀ : World) (hz : PZ [] w₀ Z)
     (zmf : ZS Z 2 (fun r x=>r = y1W x) zmd zme z3C.fFrames)
     (zhw : ZC Z zeK [(.int .i64 z3C.fNumbers.fSlow),(.int .i64 z3C.fNumbers.fDelay),(.int .i64 z3C.fNumbers.fStore),(.int .i64 z3C.fNow),(.int .i64 z3C.fLast),(.slice zmd z3C.fFrames.length zme)]) :
    Calls Try.prog 56 #[(.pointer (some zeK)),(.int .i64 z88)] w₀ fun e w'=>e = .returned (.int .i64 r) ∧ Hp [] w₀ w' []:=by
  unfold y3H at h
  refine Calls.yl (vs:=[(.pointer (some zeK)),(.int .i64 z88)]) (pre:=[]) (env:=[(0,(.pointer (some zeK))),(1,(.int .i64 z88))]) Try.func56 rfl Try.ntmps56 rfl (Hp.nil w₀ _) rfl ?_
  refine WC.b (WC.a ?_)
  refine WL.new (dd:=3) rfl rfl rfl (y2c (cs:=[(.int .i64 z88)]) rfl rfl) ?_
  intro zrG _
  refine WL.pu rfl (WL.nil (WX.a (WC.b (WC.b ?_))))
  obtain ⟨zmb,zrH,h⟩:=zp h
  refine WC.a (WL.pu rfl ?_)
  refine WL.b (dd:=6) rfl rfl rfl (zF (l:=[.tmp 5]) Try.call53 (.cons rfl .nil)) .nil (cc hz .nil fun w pz ho=>y5a _ _ _ _ _ _ zrH w pz zmf zhw) ?_
  refine WL.nil (WX.a ?_)
  refine WC.cond rfl (fun zhx=>?_) (fun zhx=>?_)
  · replace h:=ym h zhx
    refine WC.b (WC.a (WL.pu rfl (WL.nil (WX.a (WC.ret (WX.yg ?_))))))
    obtain rfl:=Option.some.inj h
    refine WX.yi Try.results56 (.tmp rfl .nil) (fun w hw=>?_)
    exact ⟨y10 rfl,hw.sub .nil⟩
  · replace h:=yn h zhx
    refine WC.skip (WX.a (WC.b ?_))
    refine WC.yV (fun i=>[6].contains i) [] rfl ?_
    refine WD.e (i:=0) (d:=7) (by kernel_rfl) rfl (z2 (by kernel_rfl)) (z3 (by kernel_rfl)) rfl rfl rfl (yb ye rfl (yc .here rfl)) ?_
    refine WD.a (i:=1) (d:=8) (by kernel_rfl) rfl (z2 (by kernel_rfl)) (z3 (by kernel_rfl)) rfl rfl rfl (fun _=>q_m rfl) ?_
    refine WD.a (i:=2) (d:=9) (by kernel_rfl) rfl (z2 (by kernel_rfl)) (z3 (by kernel_rfl)) rfl rfl rfl (fun _=>yt rfl) ?_
    refine WD.a (i:=3) (d:=10) (by kernel_rfl) rfl (z2 (by kernel_rfl)) (z3 (by kernel_rfl)) rfl rfl rfl (fun _=>ya y72 rfl rfl) ?_
    refine WD.e (i:=4) (d:=11) (by kernel_rfl) rfl (z2 (by kernel_rfl)) (z3 (by kernel_rfl)) rfl rfl rfl (yb ye rfl (y1G hz.pv zhw rfl)) ?_
    refine WD.a (i:=5) (d:=12) (by kernel_rfl) rfl (z2 (by kernel_rfl)) (z3 (by kernel_rfl)) rfl rfl rfl (fun _=>q_max rfl rfl rfl) ?_
    refine WD.y30 (i:=6) rfl (by kernel_rfl) rfl rfl rfl (by kernel_rfl) (y1D y8s rfl rfl rfl .here rfl rfl rfl) ?_
    refine WD.done (by kernel_rfl) ?_
    refine WX.a (WC.b ?_)
    obtain ⟨zmc,zrI,h⟩:=zp h
    refine WC.a (WL.pu rfl ?_)
    refine WL.a (d:=14) rfl rfl rfl (y5U (Eos.caps (l:=[.tmp 3]) (.cons rfl .nil))) ?_
    refine WL.b (dd:=15) rfl rfl rfl (zF (l:=[.tmp 13,.tmp 14]) Try.call64 (.cons rfl (.cons rfl .nil))) .nil (ccl hz .nil (.cons .here .nil) fun w pz ho la=>y7p _ _ _ _ (z6h:=65) (z87:=[(.pointer (some ⟨zrG,0,none⟩))]) _ (z4W:=(fun (y0 : Sport_frame)=>y2k y0 (max z88 z3C.fNow))) _ zrI w pz (zmf.mono (Zle.left _ _)) (zhw.mono (Zle.left _ _)) Try.call65 (fun w' hz' y0  r  hr=>y6z _ _ _ _ _ hr w' hz' ((la _ (.head _) _).stb))) ?_
    refine WL.pu rfl (WL.nil (WX.a (WC.ret ?_)))
    obtain rfl:=Option.some.inj h
    refine WX.yi Try.results56 (.tmp rfl .nil) (fun w hw=>?_)
    exact ⟨y10 rfl,hw.sub .nil⟩
def y2u (zj : Sport_Port) (zY : Int) (zJ : Int) : Option (Int × Int × Sport_Port) :=
  (y2C zj).bind fun z89=>if z89 then some (0,1,zj) else if (((decide (zJ < 1)) || (decide (zJ > 72))) || (decide (zY < zj.fNow))) || (decide (zY > 1073741824)) then some (0,2,zj) else (yS zj.fFrames (fun (y0 : Sport_frame)=>y2v y0 zY)).bind fun z6i=>(y3H (⟨zj.fNumbers,zY,zj.fLast,z6i⟩ : Sport_Port) zY).bind fun zmg=>if decide ((i64 (zmg + zJ)) > zj.fNumbers.fStore) then some (0,4,(⟨zj.fNumbers,zY,zj.fLast,z6i⟩ : Sport_Port)) else chk ((((z6i ++ ([(⟨zJ,i64 ((max (i64 (zY + zj.fNumbers.fDelay)) zj.fLast) + (i64 (zJ * zj.fNumbers.fSlow)))⟩ : Sport_frame)] : List Sport_frame)).length : Nat) : Int) * 16 ≤ 140737488355328 ∧ (((z6i ++ ([(⟨zJ,i64 ((max (i64 (zY + zj.fNumbers.fDelay)) zj.fLast) + (i64 (zJ * zj.fNumbers.fSlow)))⟩ : Sport_frame)] : List Sport_frame)).length : Nat) : Int) ≤ 4611686018427387904) (some ((i64 ((max (i64 (zY + zj.fNumbers.fDelay)) zj.fLast) + (i64 (zJ * zj.fNumbers.fSlow)))),0,(⟨zj.fNumbers,zY,i64 ((max (i64 (zY + zj.fNumbers.fDelay)) zj.fLast) + (i64 (zJ * zj.fNumbers.fSlow))),z6i ++ ([(⟨zJ,i64 ((max (i64 (zY + zj.fNumbers.fDelay)) zj.fLast) + (i64 (zJ * zj.fNumbers.fSlow)))⟩ : Sport_frame)] : List Sport_frame)⟩ : Sport_Port)))
set_option maxRecDepth 20000 in
theorem y7q (Z : Zp) (z37 : Nat) (z3D : Option Addr) (z3E : Nat) (zj : Sport_Port) (zY : Int) (zJ : Int) (r : Int × Int × Sport_Port)
     (h : y2u zj zY zJ = some r) (w₀ : World) (hz : PZ (fps [stb z37 143 [(.int .i64 zj.fNumbers.fSlow),(.int .i64 zj.fNumbers.fDelay),(.int .i64 zj.fNumbers.fStore),(.int .i64 zj.fNow),(.int .i64 zj.fLast),(.slice z3D zj.fFrames.length z3E)],row (.slice z3D zj.fFrames.length z3E) 146 2 (zj.fFrames.flatMap y1W)]) w₀ Z)
    (hown : Hp (fps [stb z37 143 [(.int .i64 zj.fNumbers.fSlow),(.int .i64 zj.fNumbers.fDelay),(.int .i64 zj.fNumbers.fStore),(.int .i64 zj.fNow),(.int .i64 zj.fLast),(.slice z3D zj.fFrames.length z3E)],row (.slice z3D zj.fFrames.length z3E) 146 2 (zj.fFrames.flatMap y1W)]) w₀ w₀ [stb z37 143 [(.int .i64 zj.fNumbers.fSlow),(.int .i64 zj.fNumbers.fDelay),(.int .i64 zj.fNumbers.fStore),(.int .i64 zj.fNow),(.int .i64 zj.fLast),(.slice z3D zj.fFrames.length z3E)],row (.slice z3D zj.fFrames.length z3E) 146 2 (zj.fFrames.flatMap y1W)]) :
    Calls Try.prog 41 #[(.pointer (some ⟨z37,0,none⟩)),(.int .i64 zY),(.int .i64 zJ)] w₀ fun e w'=>∃ zmh : Option Addr,∃ zmi : Nat,e = .returned (.tuple #[(.int .i64 r.1),(.int .i64 r.2.1)]) ∧ True ∧ Hp (fps [stb z37 143 [(.int .i64 zj.fNumbers.fSlow),(.int .i64 zj.fNumbers.fDelay),(.int .i64 zj.fNumbers.fStore),(.int .i64 zj.fNow),(.int .i64 zj.fLast),(.slice z3D zj.fFrames.length z3E)],row (.slice z3D zj.fFrames.length z3E) 146 2 (zj.fFrames.flatMap y1W)]) w₀ w' [stb z37 143 [(.int .i64 r.2.2.fNumbers.fSlow),(.int .i64 r.2.2.fNumbers.fDelay),(.int .i64 r.2.2.fNumbers.fStore),(.int .i64 r.2.2.fNow),(.int .i64 r.2.2.fLast),(.slice zmh r.2.2.fFrames.length zmi)],row (.slice zmh r.2.2.fFrames.length zmi) 146 2 (r.2.2.fFrames.flatMap y1W)]:=by
  unfold y2u at h
  refine Calls.yl (vs:=[(.pointer (some ⟨z37,0,none⟩)),(.int .i64 zY),(.int .i64 zJ)]) (pre:=[stb z37 143 [(.int .i64 zj.fNumbers.fSlow),(.int .i64 zj.fNumbers.fDelay),(.int .i64 zj.fNumbers.fStore),(.int .i64 zj.fNow),(.int .i64 zj.fLast),(.slice z3D zj.fFrames.length z3E)],row (.slice z3D zj.fFrames.length z3E) 146 2 (zj.fFrames.flatMap y1W)]) (env:=[(0,(.pointer (some ⟨z37,0,none⟩))),(1,(.int .i64 zY)),(2,(.int .i64 zJ))]) Try.func41 rfl Try.ntmps41 rfl (hown) rfl ?_
  refine WC.b (WC.a ?_)
  refine WL.new (dd:=4) rfl rfl rfl (y2c (cs:=[(.int .i64 zY)]) rfl rfl) ?_
  intro zeL _
  refine WL.pu rfl (WL.pu rfl (WL.nil (WX.a (WC.b (WC.block (WC.b ?_))))))
  obtain ⟨z89,zrJ,h⟩:=zp h
  refine WC.a (WL.pu rfl ?_)
  refine WL.b (dd:=10) rfl rfl rfl (zF (l:=[.tmp 9]) Try.call53 (.cons rfl .nil)) .nil (ccl hz .nil (.cons .h1 (.cons .h1 .nil)) fun w pz ho la=>y5a _ _ _ _ _ _ zrJ w pz (ZA.row (la _ (.tail _ (.head _)) _) (RR.y1m (enc:=y1W) (fun _=>rfl) _) ⟨w,pz.1⟩) ((la _ (.head _) _).stb)) ?_
  refine WL.pu rfl (WL.nil (WX.a ?_))
  refine WC.cond rfl (fun zhy=>?_) (fun zhy=>?_)
  · replace h:=ym h zhy
    refine WC.b (WC.a (WL.pu rfl (WL.pu rfl (WL.nil (WX.a (WC.ret (WX.yC (WX.yg ?_))))))))
    obtain rfl:=Option.some.inj h
    refine WX.yi Try.results41 (.tmp rfl (.tmp rfl .nil)) (fun w hw=>?_)
    exact ⟨z3D,z3E,ret2 rfl rfl,trivial,hw.sub (.cons .h1 (.cons .h1 .nil))⟩
  · replace h:=yn h zhy
    refine WC.b ?_
    refine WC.yV (fun i=>[].contains i) [] rfl ?_
    refine WD.a (i:=0) (d:=12) (by kernel_rfl) rfl (z2 (by kernel_rfl)) (z3 (by kernel_rfl)) rfl rfl rfl (fun _=>q_m rfl) ?_
    refine WD.a (i:=1) (d:=13) (by kernel_rfl) rfl (z2 (by kernel_rfl)) (z3 (by kernel_rfl)) rfl rfl rfl (fun _=>y3h rfl rfl) ?_
    refine WD.a (i:=2) (d:=14) (by kernel_rfl) rfl (z2 (by kernel_rfl)) (z3 (by kernel_rfl)) rfl rfl rfl (fun _=>q_m rfl) ?_
    refine WD.mid (fuel':=13) [(0,(.pointer (some ⟨z37,0,none⟩))),(1,(.int .i64 zY)),(2,(.int .i64 zJ)),(4,(.pointer (some ⟨zeL,0,none⟩))),(6,(.int .i64 0)),(7,(.int .i64 0)),(9,(.pointer (some ⟨z37,0,none⟩))),(10,(.bool z89)),(8,(.bool z89)),(12,(.int .i64 zJ)),(13,(.bool (decide (zJ < 1)))),(14,(.bool (decide (zJ < 1)))),(17,(.bool ((decide (zJ < 1)) || (decide (zJ > 72)))))] (y1i 19 [5,4,3,2,1,0]) ?_ (fun zmj=>?_)
    rotate_left
    · rcases Bool.eq_false_or_eq_true (decide (zJ < 1)) with hb' | hb'
      · have zhz:=hb'; clear hb'
        refine WD.pin (i:=14) rfl zhz ?_
        refine WD.b (i:=3) (d:=15) (by kernel_rfl) rfl (z2 (by kernel_rfl)) (z3 (by kernel_rfl)) rfl rfl rfl ?_
        refine WD.b (i:=4) (d:=16) (by kernel_rfl) rfl (z2 (by kernel_rfl)) (z3 (by kernel_rfl)) rfl rfl rfl ?_
        refine WD.a (i:=5) (d:=17) (by kernel_rfl) rfl (z2 (by kernel_rfl)) (z3 (by kernel_rfl)) rfl rfl rfl (fun _=>y1b rfl rfl) ?_
        refine WD.yE (.cons .here (.cons .here (.cons .here .nil))) ?_ zmj
        exact (.cons rfl (.cons rfl (.cons rfl (.cons rfl (.cons rfl (.cons rfl (.cons rfl (.cons rfl (.cons rfl (.cons rfl (.cons rfl (.cons (zh (Eq.symm zhz)) (.cons (zh (y1X zhz)) .nil)))))))))))))
      · have zhA:=hb'; clear hb'
        refine WD.pin (i:=14) rfl zhA ?_
        refine WD.a (i:=3) (d:=15) (by kernel_rfl) rfl (z2 (by kernel_rfl)) (z3 (by kernel_rfl)) rfl rfl rfl (fun _=>q_m rfl) ?_
        refine WD.a (i:=4) (d:=16) (by kernel_rfl) rfl (z2 (by kernel_rfl)) (z3 (by kernel_rfl)) rfl rfl rfl (fun _=>y3a rfl rfl) ?_
        refine WD.a (i:=5) (d:=17) (by kernel_rfl) rfl (z2 (by kernel_rfl)) (z3 (by kernel_rfl)) rfl rfl rfl (fun _=>y1c rfl rfl) ?_
        refine WD.yE (.cons .here (.cons .here (.cons .here .nil))) ?_ zmj
        exact (.cons rfl (.cons rfl (.cons rfl (.cons rfl (.cons rfl (.cons rfl (.cons rfl (.cons rfl (.cons rfl (.cons rfl (.cons rfl (.cons (zh (Eq.symm zhA)) (.cons (zh (y1Y zhA)) .nil)))))))))))))
    refine WD.a (i:=6) (d:=18) (by kernel_rfl) rfl (z2 (by kernel_rfl)) (z3 (by kernel_rfl)) rfl rfl rfl (fun _=>q_m rfl) ?_
    refine WD.mid (fuel':=5) [(0,(.pointer (some ⟨z37,0,none⟩))),(1,(.int .i64 zY)),(2,(.int .i64 zJ)),(4,(.pointer (some ⟨zeL,0,none⟩))),(6,(.int .i64 0)),(7,(.int .i64 0)),(9,(.pointer (some ⟨z37,0,none⟩))),(10,(.bool z89)),(8,(.bool z89)),(12,(.int .i64 zJ)),(13,(.bool (decide (zJ < 1)))),(14,(.bool (decide (zJ < 1)))),(17,(.bool ((decide (zJ < 1)) || (decide (zJ > 72))))),(18,(.bool ((decide (zJ < 1)) || (decide (zJ > 72))))),(25,(.bool (((decide (zJ < 1)) || (decide (zJ > 72))) || (decide (zY < zj.fNow)))))] (y1i 19 [13,12,11,10,9,8,7,6,5,4,3,2,1,0]) ?_ (fun zmk=>?_)
    rotate_left
    · rcases Bool.eq_false_or_eq_true ((decide (zJ < 1)) || (decide (zJ > 72))) with hb' | hb'
      · have zhB:=hb'; clear hb'
        refine WD.pin (i:=18) rfl zhB ?_
        refine WD.b (i:=7) (d:=19) (by kernel_rfl) rfl (z2 (by kernel_rfl)) (z3 (by kernel_rfl)) rfl rfl rfl ?_
        refine WD.b (i:=8) (d:=20) (by kernel_rfl) rfl (z2 (by kernel_rfl)) (z3 (by kernel_rfl)) rfl rfl rfl ?_
        refine WD.b (i:=9) (d:=21) (by kernel_rfl) rfl (z2 (by kernel_rfl)) (z3 (by kernel_rfl)) rfl rfl rfl ?_
        refine WD.b (i:=10) (d:=22) (by kernel_rfl) rfl (z2 (by kernel_rfl)) (z3 (by kernel_rfl)) rfl rfl rfl ?_
        refine WD.b (i:=11) (d:=23) (by kernel_rfl) rfl (z2 (by kernel_rfl)) (z3 (by kernel_rfl)) rfl rfl rfl ?_
        refine WD.b (i:=12) (d:=24) (by kernel_rfl) rfl (z2 (by kernel_rfl)) (z3 (by kernel_rfl)) rfl rfl rfl ?_
        refine WD.a (i:=13) (d:=25) (by kernel_rfl) rfl (z2 (by kernel_rfl)) (z3 (by kernel_rfl)) rfl rfl rfl (fun _=>y1b rfl rfl) ?_
        refine WD.yE (.cons .here (.cons .here (.cons .here .nil))) ?_ zmk
        exact (.cons rfl (.cons rfl (.cons rfl (.cons rfl (.cons rfl (.cons rfl (.cons rfl (.cons rfl (.cons rfl (.cons rfl (.cons rfl (.cons rfl (.cons rfl (.cons (zh (Eq.symm zhB)) (.cons (zh (y1X zhB)) .nil)))))))))))))))
      · have zhC:=hb'; clear hb'
        refine WD.pin (i:=18) rfl zhC ?_
        refine WD.e (i:=7) (d:=19) (by kernel_rfl) rfl (z2 (by kernel_rfl)) (z3 (by kernel_rfl)) rfl rfl rfl (yb ye rfl (yc .here rfl)) ?_
        refine WD.a (i:=8) (d:=20) (by kernel_rfl) rfl (z2 (by kernel_rfl)) (z3 (by kernel_rfl)) rfl rfl rfl (fun _=>q_m rfl) ?_
        refine WD.a (i:=9) (d:=21) (by kernel_rfl) rfl (z2 (by kernel_rfl)) (z3 (by kernel_rfl)) rfl rfl rfl (fun _=>yt rfl) ?_
        refine WD.a (i:=10) (d:=22) (by kernel_rfl) rfl (z2 (by kernel_rfl)) (z3 (by kernel_rfl)) rfl rfl rfl (fun _=>ya y72 rfl rfl) ?_
        refine WD.e (i:=11) (d:=23) (by kernel_rfl) rfl (z2 (by kernel_rfl)) (z3 (by kernel_rfl)) rfl rfl rfl (yb ye rfl (yc .h1 rfl)) ?_
        refine WD.a (i:=12) (d:=24) (by kernel_rfl) rfl (z2 (by kernel_rfl)) (z3 (by kernel_rfl)) rfl rfl rfl (fun _=>y3h rfl rfl) ?_
        refine WD.a (i:=13) (d:=25) (by kernel_rfl) rfl (z2 (by kernel_rfl)) (z3 (by kernel_rfl)) rfl rfl rfl (fun _=>y1c rfl rfl) ?_
        refine WD.yE (.cons .here (.cons .here (.cons .here .nil))) ?_ zmk
        exact (.cons rfl (.cons rfl (.cons rfl (.cons rfl (.cons rfl (.cons rfl (.cons rfl (.cons rfl (.cons rfl (.cons rfl (.cons rfl (.cons rfl (.cons rfl (.cons (zh (Eq.symm zhC)) (.cons (zh (y1Y zhC)) .nil)))))))))))))))
    refine WD.a (i:=14) (d:=26) (by kernel_rfl) rfl (z2 (by kernel_rfl)) (z3 (by kernel_rfl)) rfl rfl rfl (fun _=>q_m rfl) ?_
    refine WD.mid (fuel':=1) [(0,(.pointer (some ⟨z37,0,none⟩))),(1,(.int .i64 zY)),(2,(.int .i64 zJ)),(4,(.pointer (some ⟨zeL,0,none⟩))),(6,(.int .i64 0)),(7,(.int .i64 0)),(9,(.pointer (some ⟨z37,0,none⟩))),(10,(.bool z89)),(8,(.bool z89)),(12,(.int .i64 zJ)),(13,(.bool (decide (zJ < 1)))),(14,(.bool (decide (zJ < 1)))),(17,(.bool ((decide (zJ < 1)) || (decide (zJ > 72))))),(18,(.bool ((decide (zJ < 1)) || (decide (zJ > 72))))),(25,(.bool (((decide (zJ < 1)) || (decide (zJ > 72))) || (decide (zY < zj.fNow))))),(26,(.bool (((decide (zJ < 1)) || (decide (zJ > 72))) || (decide (zY < zj.fNow))))),(29,(.bool ((((decide (zJ < 1)) || (decide (zJ > 72))) || (decide (zY < zj.fNow))) || (decide (zY > 1073741824)))))] (y1i 19 [17,16,15,14,13,12,11,10,9,8,7,6,5,4,3,2,1,0]) ?_ (fun zml=>?_)
    rotate_left
    · rcases Bool.eq_false_or_eq_true (((decide (zJ < 1)) || (decide (zJ > 72))) || (decide (zY < zj.fNow))) with hb' | hb'
      · have zhD:=hb'; clear hb'
        refine WD.pin (i:=26) rfl zhD ?_
        refine WD.b (i:=15) (d:=27) (by kernel_rfl) rfl (z2 (by kernel_rfl)) (z3 (by kernel_rfl)) rfl rfl rfl ?_
        refine WD.b (i:=16) (d:=28) (by kernel_rfl) rfl (z2 (by kernel_rfl)) (z3 (by kernel_rfl)) rfl rfl rfl ?_
        refine WD.a (i:=17) (d:=29) (by kernel_rfl) rfl (z2 (by kernel_rfl)) (z3 (by kernel_rfl)) rfl rfl rfl (fun _=>y1b rfl rfl) ?_
        refine WD.yE (.cons .here (.cons .here (.cons .here .nil))) ?_ zml
        exact (.cons rfl (.cons rfl (.cons rfl (.cons rfl (.cons rfl (.cons rfl (.cons rfl (.cons rfl (.cons rfl (.cons rfl (.cons rfl (.cons rfl (.cons rfl (.cons rfl (.cons rfl (.cons (zh (Eq.symm zhD)) (.cons (zh (y1X zhD)) .nil)))))))))))))))))
      · have zhE:=hb'; clear hb'
        refine WD.pin (i:=26) rfl zhE ?_
        refine WD.e (i:=15) (d:=27) (by kernel_rfl) rfl (z2 (by kernel_rfl)) (z3 (by kernel_rfl)) rfl rfl rfl (yb ye rfl (yc .here rfl)) ?_
        refine WD.a (i:=16) (d:=28) (by kernel_rfl) rfl (z2 (by kernel_rfl)) (z3 (by kernel_rfl)) rfl rfl rfl (fun _=>y3a rfl rfl) ?_
        refine WD.a (i:=17) (d:=29) (by kernel_rfl) rfl (z2 (by kernel_rfl)) (z3 (by kernel_rfl)) rfl rfl rfl (fun _=>y1c rfl rfl) ?_
        refine WD.yE (.cons .here (.cons .here (.cons .here .nil))) ?_ zml
        exact (.cons rfl (.cons rfl (.cons rfl (.cons rfl (.cons rfl (.cons rfl (.cons rfl (.cons rfl (.cons rfl (.cons rfl (.cons rfl (.cons rfl (.cons rfl (.cons rfl (.cons rfl (.cons (zh (Eq.symm zhE)) (.cons (zh (y1Y zhE)) .nil)))))))))))))))))
    refine WD.a (i:=18) (d:=11) (by kernel_rfl) rfl (z2 (by kernel_rfl)) (z3 (by kernel_rfl)) rfl rfl rfl (fun _=>q_z rfl) ?_
    refine WD.done (by kernel_rfl) ?_
    refine WX.a ?_
    refine WC.cond rfl (fun zhF=>?_) (fun zhF=>?_)
    · replace h:=ym h zhF
      refine WC.b (WC.a (WL.pu rfl (WL.pu rfl (WL.nil (WX.a (WC.ret (WX.yC (WX.yg ?_))))))))
      obtain rfl:=Option.some.inj h
      refine WX.yi Try.results41 (.tmp rfl (.tmp rfl .nil)) (fun w hw=>?_)
      exact ⟨z3D,z3E,ret2 rfl rfl,trivial,hw.sub (.cons .h1 (.cons .h1 .nil))⟩
    · replace h:=yn h zhF
      refine WC.skip (WX.yh (WX.a (WC.b (WC.a (WL.pu rfl ?_)))))
      refine WL.a (d:=31) rfl rfl rfl (yb ye rfl (yc .here rfl)) ?_
      refine WL.a (d:=32) rfl rfl rfl (yt rfl) ?_
      refine WL.a (d:=33) rfl rfl rfl (ya y72 rfl rfl) ?_
      refine WL.y1l rfl rfl (y41 (ds:=[(.int .i64 zj.fNumbers.fSlow),(.int .i64 zj.fNumbers.fDelay),(.int .i64 zj.fNumbers.fStore),(.int .i64 zY),(.int .i64 zj.fLast),(.slice z3D zj.fFrames.length z3E)]) y8s rfl rfl rfl rfl rfl .h1 rfl rfl) ?_
      refine WL.nil (WX.a (WC.b ?_))
      obtain ⟨z6i,zrK,h⟩:=zp h
      refine WC.a (WL.pu rfl (WL.pu rfl ?_))
      refine WL.a (d:=36) rfl rfl rfl (yt rfl) ?_
      refine WL.a (d:=37) rfl rfl rfl (ya y58 rfl rfl) ?_
      refine WL.a (d:=38) rfl rfl rfl (yb zfC rfl (yc .here rfl)) ?_
      refine WL.a (d:=39) rfl rfl rfl (y5U (Eos.caps (l:=[.tmp 4]) (.cons rfl .nil))) ?_
      refine WL.y4L (dd:=40) rfl rfl rfl (zF (l:=[.tmp 38,.tmp 39]) Try.call54 (.cons rfl (.cons rfl .nil))) (.cons .h2 .nil) (ccl hz (.cons .h2 .nil) (.cons .h1 .nil) fun w pz ho la=>y3x _ _ _ (z4U:=55) (z7h:=[(.pointer (some ⟨zeL,0,none⟩))]) _ (z3B:=(fun (y0 : Sport_frame)=>y2v y0 zY)) _ zrK w pz Try.call55 (fun w' hz' y0  r  hr=>y6R _ _ _ _ _ hr w' hz' ((la _ (.head _) _).stb)) ho) ?_
      rintro zhG zhH _
      refine WL.a (d:=41) rfl rfl rfl (yt rfl) ?_
      refine WL.a (d:=42) rfl rfl rfl (ya y58 rfl rfl) ?_
      refine WL.y1l rfl rfl (y41 (ds:=[(.int .i64 zj.fNumbers.fSlow),(.int .i64 zj.fNumbers.fDelay),(.int .i64 zj.fNumbers.fStore),(.int .i64 zY),(.int .i64 zj.fLast),(.slice zhG z6i.length zhH)]) zjw rfl rfl rfl rfl rfl .h1 rfl rfl) ?_
      refine WL.nil (WX.a (WC.b (WC.b ?_)))
      obtain ⟨zmg,zrL,h⟩:=zp h
      refine WC.yV (fun i=>[].contains i) [] rfl ?_
      refine WD.a (i:=0) (d:=43) (by kernel_rfl) rfl (z2 (by kernel_rfl)) (z3 (by kernel_rfl)) rfl rfl rfl (fun _=>q_m rfl) ?_
      refine WD.e (i:=1) (d:=44) (by kernel_rfl) rfl (z2 (by kernel_rfl)) (z3 (by kernel_rfl)) rfl rfl rfl (yb ye rfl (yc .h2 rfl)) ?_
      refine WD.c (i:=2) (d:=45) (by kernel_rfl) rfl (z2 (by kernel_rfl)) (z3 (by kernel_rfl)) rfl rfl rfl (zF (l:=[.tmp 43,.tmp 44]) Try.call56 (.cons rfl (.cons rfl .nil))) (ccl hz .nil (.cons .here (.cons .here .nil)) fun w pz ho la=>y76 _ _ _ _ _ _ _ zrL w pz (ZA.row (la _ (.tail _ (.head _)) _) (RR.y1m (enc:=y1W) (fun _=>rfl) _) ⟨w,pz.1⟩) ((la _ (.head _) _).stb)) ?_
      refine WD.a (i:=3) (d:=46) (by kernel_rfl) rfl (z2 (by kernel_rfl)) (z3 (by kernel_rfl)) rfl rfl rfl (fun _=>q_m rfl) ?_
      refine WD.a (i:=4) (d:=47) (by kernel_rfl) rfl (z2 (by kernel_rfl)) (z3 (by kernel_rfl)) rfl rfl rfl (fun _=>y4l rfl rfl rfl) ?_
      refine WD.a (i:=5) (d:=48) (by kernel_rfl) rfl (z2 (by kernel_rfl)) (z3 (by kernel_rfl)) rfl rfl rfl (fun _=>q_m rfl) ?_
      refine WD.a (i:=6) (d:=49) (by kernel_rfl) rfl (z2 (by kernel_rfl)) (z3 (by kernel_rfl)) rfl rfl rfl (fun _=>yt rfl) ?_
      refine WD.a (i:=7) (d:=50) (by kernel_rfl) rfl (z2 (by kernel_rfl)) (z3 (by kernel_rfl)) rfl rfl rfl (fun _=>ya y63 rfl rfl) ?_
      refine WD.a (i:=8) (d:=51) (by kernel_rfl) rfl (z2 (by kernel_rfl)) (z3 (by kernel_rfl)) rfl rfl rfl (fun _=>ya fo_140_2 rfl rfl) ?_
      refine WD.e (i:=9) (d:=52) (by kernel_rfl) rfl (z2 (by kernel_rfl)) (z3 (by kernel_rfl)) rfl rfl rfl (yb ye rfl (yc .here rfl)) ?_
      refine WD.a (i:=10) (d:=53) (by kernel_rfl) rfl (z2 (by kernel_rfl)) (z3 (by kernel_rfl)) rfl rfl rfl (fun _=>y3a rfl rfl) ?_
      refine WD.done (by kernel_rfl) ?_
      refine WX.a ?_
      refine WC.cond rfl (fun zhI=>?_) (fun zhI=>?_)
      · replace h:=ym h zhI
        refine WC.b (WC.a (WL.pu rfl (WL.pu rfl (WL.nil (WX.a (WC.ret (WX.yg ?_)))))))
        obtain rfl:=Option.some.inj h
        refine WX.yi Try.results41 (.tmp rfl (.tmp rfl .nil)) (fun w hw=>?_)
        exact ⟨zhG,zhH,ret2 rfl rfl,trivial,hw.sub (.cons .here (.cons .here .nil))⟩
      · replace h:=yn h zhI
        refine WC.skip (WX.a (WC.b ?_))
        refine WC.yV (fun i=>[23].contains i) [] rfl ?_
        refine WD.a (i:=0) (d:=54) (by kernel_rfl) rfl (z2 (by kernel_rfl)) (z3 (by kernel_rfl)) rfl rfl rfl (fun _=>q_m rfl) ?_
        refine WD.e (i:=1) (d:=55) (by kernel_rfl) rfl (z2 (by kernel_rfl)) (z3 (by kernel_rfl)) rfl rfl rfl (yb ye rfl (yc .h2 rfl)) ?_
        refine WD.a (i:=2) (d:=56) (by kernel_rfl) rfl (z2 (by kernel_rfl)) (z3 (by kernel_rfl)) rfl rfl rfl (fun _=>q_m rfl) ?_
        refine WD.a (i:=3) (d:=57) (by kernel_rfl) rfl (z2 (by kernel_rfl)) (z3 (by kernel_rfl)) rfl rfl rfl (fun _=>yt rfl) ?_
        refine WD.a (i:=4) (d:=58) (by kernel_rfl) rfl (z2 (by kernel_rfl)) (z3 (by kernel_rfl)) rfl rfl rfl (fun _=>ya y63 rfl rfl) ?_
        refine WD.a (i:=5) (d:=59) (by kernel_rfl) rfl (z2 (by kernel_rfl)) (z3 (by kernel_rfl)) rfl rfl rfl (fun _=>ya fo_140_1 rfl rfl) ?_
        refine WD.e (i:=6) (d:=60) (by kernel_rfl) rfl (z2 (by kernel_rfl)) (z3 (by kernel_rfl)) rfl rfl rfl (yb ye rfl (yc .here rfl)) ?_
        refine WD.a (i:=7) (d:=61) (by kernel_rfl) rfl (z2 (by kernel_rfl)) (z3 (by kernel_rfl)) rfl rfl rfl (fun _=>y4l rfl rfl rfl) ?_
        refine WD.a (i:=8) (d:=62) (by kernel_rfl) rfl (z2 (by kernel_rfl)) (z3 (by kernel_rfl)) rfl rfl rfl (fun _=>q_m rfl) ?_
        refine WD.a (i:=9) (d:=63) (by kernel_rfl) rfl (z2 (by kernel_rfl)) (z3 (by kernel_rfl)) rfl rfl rfl (fun _=>yt rfl) ?_
        refine WD.a (i:=10) (d:=64) (by kernel_rfl) rfl (z2 (by kernel_rfl)) (z3 (by kernel_rfl)) rfl rfl rfl (fun _=>ya y64 rfl rfl) ?_
        refine WD.e (i:=11) (d:=65) (by kernel_rfl) rfl (z2 (by kernel_rfl)) (z3 (by kernel_rfl)) rfl rfl rfl (yb ye rfl (yc .here rfl)) ?_
        refine WD.a (i:=12) (d:=66) (by kernel_rfl) rfl (z2 (by kernel_rfl)) (z3 (by kernel_rfl)) rfl rfl rfl (fun _=>q_max rfl rfl rfl) ?_
        refine WD.a (i:=13) (d:=67) (by kernel_rfl) rfl (z2 (by kernel_rfl)) (z3 (by kernel_rfl)) rfl rfl rfl (fun _=>q_m rfl) ?_
        refine WD.a (i:=14) (d:=68) (by kernel_rfl) rfl (z2 (by kernel_rfl)) (z3 (by kernel_rfl)) rfl rfl rfl (fun _=>q_m rfl) ?_
        refine WD.a (i:=15) (d:=69) (by kernel_rfl) rfl (z2 (by kernel_rfl)) (z3 (by kernel_rfl)) rfl rfl rfl (fun _=>yt rfl) ?_
        refine WD.a (i:=16) (d:=70) (by kernel_rfl) rfl (z2 (by kernel_rfl)) (z3 (by kernel_rfl)) rfl rfl rfl (fun _=>ya y63 rfl rfl) ?_
        refine WD.a (i:=17) (d:=71) (by kernel_rfl) rfl (z2 (by kernel_rfl)) (z3 (by kernel_rfl)) rfl rfl rfl (fun _=>ya y8r rfl rfl) ?_
        refine WD.e (i:=18) (d:=72) (by kernel_rfl) rfl (z2 (by kernel_rfl)) (z3 (by kernel_rfl)) rfl rfl rfl (yb ye rfl (yc .here rfl)) ?_
        refine WD.a (i:=19) (d:=73) (by kernel_rfl) rfl (z2 (by kernel_rfl)) (z3 (by kernel_rfl)) rfl rfl rfl (fun _=>q_mul rfl rfl rfl) ?_
        refine WD.a (i:=20) (d:=74) (by kernel_rfl) rfl (z2 (by kernel_rfl)) (z3 (by kernel_rfl)) rfl rfl rfl (fun _=>y4l rfl rfl rfl) ?_
        refine WD.a (i:=21) (d:=75) (by kernel_rfl) rfl (z2 (by kernel_rfl)) (z3 (by kernel_rfl)) rfl rfl rfl (fun _=>yt rfl) ?_
        refine WD.a (i:=22) (d:=76) (by kernel_rfl) rfl (z2 (by kernel_rfl)) (z3 (by kernel_rfl)) rfl rfl rfl (fun _=>ya y64 rfl rfl) ?_
        refine WD.y30 (i:=23) rfl (by kernel_rfl) rfl rfl rfl (by kernel_rfl) (y41 (ds:=[(.int .i64 zj.fNumbers.fSlow),(.int .i64 zj.fNumbers.fDelay),(.int .i64 zj.fNumbers.fStore),(.int .i64 zY),(.int .i64 (i64 ((max (i64 (zY + zj.fNumbers.fDelay)) zj.fLast) + (i64 (zJ * zj.fNumbers.fSlow))))),(.slice zhG z6i.length zhH)]) y8s rfl rfl rfl rfl rfl .here rfl rfl) ?_
        refine WD.done (by kernel_rfl) ?_
        refine WX.a (WC.b ?_)
        obtain ⟨zrM,h⟩:=yj h
        refine WC.yV (fun i=>[12,15].contains i) [] rfl ?_
        refine WD.a (i:=0) (d:=77) (by kernel_rfl) rfl (z2 (by kernel_rfl)) (z3 (by kernel_rfl)) rfl rfl rfl (fun _=>q_m rfl) ?_
        refine WD.a (i:=1) (d:=78) (by kernel_rfl) rfl (z2 (by kernel_rfl)) (z3 (by kernel_rfl)) rfl rfl rfl (fun _=>q_m rfl) ?_
        refine WD.a (i:=2) (d:=79) (by kernel_rfl) rfl (z2 (by kernel_rfl)) (z3 (by kernel_rfl)) rfl rfl rfl (fun _=>yt rfl) ?_
        refine WD.a (i:=3) (d:=80) (by kernel_rfl) rfl (z2 (by kernel_rfl)) (z3 (by kernel_rfl)) rfl rfl rfl (fun _=>ya y58 rfl rfl) ?_
        refine WD.e (i:=4) (d:=81) (by kernel_rfl) rfl (z2 (by kernel_rfl)) (z3 (by kernel_rfl)) rfl rfl rfl (yb zfC rfl (yc .here rfl)) ?_
        refine WD.a (i:=5) (d:=82) (by kernel_rfl) rfl (z2 (by kernel_rfl)) (z3 (by kernel_rfl)) rfl rfl rfl (fun _=>q_m rfl) ?_
        refine WD.a (i:=6) (d:=83) (by kernel_rfl) rfl (z2 (by kernel_rfl)) (z3 (by kernel_rfl)) rfl rfl rfl (fun _=>q_m rfl) ?_
        refine WD.a (i:=7) (d:=84) (by kernel_rfl) rfl (z2 (by kernel_rfl)) (z3 (by kernel_rfl)) rfl rfl rfl (fun _=>yt rfl) ?_
        refine WD.a (i:=8) (d:=85) (by kernel_rfl) rfl (z2 (by kernel_rfl)) (z3 (by kernel_rfl)) rfl rfl rfl (fun _=>ya y64 rfl rfl) ?_
        refine WD.e (i:=9) (d:=86) (by kernel_rfl) rfl (z2 (by kernel_rfl)) (z3 (by kernel_rfl)) rfl rfl rfl (yb ye rfl (yc .here rfl)) ?_
        refine WD.a (i:=10) (d:=87) (by kernel_rfl) rfl (z2 (by kernel_rfl)) (z3 (by kernel_rfl)) rfl rfl rfl (fun _=>y1x (v:=(.agg #[(.int .i64 zJ),(.int .i64 (i64 ((max (i64 (zY + zj.fNumbers.fDelay)) zj.fLast) + (i64 (zJ * zj.fNumbers.fSlow)))))])) (Eos.parts (l:=[.tmp 82,.tmp 86]) (.cons rfl (.cons rfl .nil)) [0,1]) (fun _=>by kernel_rfl)) ?_
        refine WD.new (i:=11) (dd:=88) rfl (by kernel_rfl) rfl rfl rfl (y17 (cs:=([(⟨zJ,i64 ((max (i64 (zY + zj.fNumbers.fDelay)) zj.fLast) + (i64 (zJ * zj.fNumbers.fSlow)))⟩ : Sport_frame)] : List Sport_frame).flatMap y1W) z6E (Eos.parts (l:=[.tmp 87]) (.cons rfl .nil) [0]) (fun _=>by kernel_rfl) rfl (by unfold maxLen; omega)) (fun h'=>absurd h' (by decide)) ?_
        intro zx9 _
        refine WD.old (i:=12) (dd:=89) rfl (by kernel_rfl) rfl rfl rfl rfl (fun _=>(Sin.of .nil)) (y5k (enc:=y1W) (l1:=z6i) (l2:=([(⟨zJ,i64 ((max (i64 (zY + zj.fNumbers.fDelay)) zj.fLast) + (i64 (zJ * zj.fNumbers.fSlow)))⟩ : Sport_frame)] : List Sport_frame)) z6E rfl rfl .h2 (fun _=>rfl) rfl rfl (y5V .here) (y5A y8T _) zrM) ?_
        rintro ⟨zmm,zmn⟩ _
        refine WD.a (i:=13) (d:=90) (by kernel_rfl) rfl (z2 (by kernel_rfl)) (z3 (by kernel_rfl)) rfl rfl rfl (fun _=>yt rfl) ?_
        refine WD.a (i:=14) (d:=91) (by kernel_rfl) rfl (z2 (by kernel_rfl)) (z3 (by kernel_rfl)) rfl rfl rfl (fun _=>ya y58 rfl rfl) ?_
        refine WD.y30 (i:=15) rfl (by kernel_rfl) rfl rfl rfl (by kernel_rfl) (y41 (ds:=[(.int .i64 zj.fNumbers.fSlow),(.int .i64 zj.fNumbers.fDelay),(.int .i64 zj.fNumbers.fStore),(.int .i64 zY),(.int .i64 (i64 ((max (i64 (zY + zj.fNumbers.fDelay)) zj.fLast) + (i64 (zJ * zj.fNumbers.fSlow))))),(.slice zmm ((z6i ++ ([(⟨zJ,i64 ((max (i64 (zY + zj.fNumbers.fDelay)) zj.fLast) + (i64 (zJ * zj.fNumbers.fSlow)))⟩ : Sport_frame)] : List Sport_frame)).length) zmn)]) zjw rfl rfl rfl rfl rfl .h2 rfl rfl) ?_
        refine WD.done (by kernel_rfl) ?_
        refine WX.a (WC.b (WC.a (WL.pu rfl ?_)))
        refine WL.a (d:=93) rfl rfl rfl (yt rfl) ?_
        refine WL.a (d:=94) rfl rfl rfl (ya y64 rfl rfl) ?_
        refine WL.a (d:=95) rfl rfl rfl (yb ye rfl (yc .here rfl)) ?_
        refine WL.pu rfl (WL.pu rfl (WL.nil (WX.a (WC.ret ?_))))
        obtain rfl:=Option.some.inj h
        refine WX.yi Try.results41 (.tmp rfl (.tmp rfl .nil)) (fun w hw=>?_)
        exact ⟨zmm,zmn,ret2 rfl rfl,trivial,hw.sub (.cons .here (.cons .here .nil))⟩
def y2G (zo : Sapi_Config) (z2T : List (List Sapi_Hop)) (z2i : List zSt) (zeM : List (Snetwork_exit × Sport_Port)) (z2q : List Snetwork_event) (z19 : List Sapi_Come) (z15 : List Sapi_Come) : Option (List Snetwork_event × List Sapi_Come × List Sapi_Come × (List (Snetwork_exit × Sport_Port))) :=
  (y2j z2q).bind fun z8=>(y37 zo z2T z2i zeM z8.2 z19 z15 z8.1.fHop).bind fun z2j=>chk ((0 : Int) ≤ z8.1.fSent ∧ z8.1.fSent < ((z2i.length : Nat) : Int)) (chk (y1o z2j (⟨z8.1.fHop.fNode,z8.1.fHop.fLink⟩ : Snetwork_exit) = true) ((y2u (⟨(⟨(((yr z2j (⟨z8.1.fHop.fNode,z8.1.fHop.fLink⟩ : Snetwork_exit) default).fNumbers).fSlow),(((yr z2j (⟨z8.1.fHop.fNode,z8.1.fHop.fLink⟩ : Snetwork_exit) default).fNumbers).fDelay),(((yr z2j (⟨z8.1.fHop.fNode,z8.1.fHop.fLink⟩ : Snetwork_exit) default).fNumbers).fStore)⟩ : Sport_numbers),((yr z2j (⟨z8.1.fHop.fNode,z8.1.fHop.fLink⟩ : Snetwork_exit) default).fNow),((yr z2j (⟨z8.1.fHop.fNode,z8.1.fHop.fLink⟩ : Snetwork_exit) default).fLast),((yr z2j (⟨z8.1.fHop.fNode,z8.1.fHop.fLink⟩ : Snetwork_exit) default).fFrames)⟩ : Sport_Port) z8.1.fTime ((nth z2i z8.1.fSent).fSize)).bind fun z1Q=>if decide (z1Q.2.1 ≠ 0) then chk ((((z15 ++ ([(⟨z8.1.fSent,z8.1.fHop.fNode,z8.1.fTime⟩ : Sapi_Come)] : List Sapi_Come)).length : Nat) : Int) * 24 ≤ 140737488355328 ∧ (((z15 ++ ([(⟨z8.1.fSent,z8.1.fHop.fNode,z8.1.fTime⟩ : Sapi_Come)] : List Sapi_Come)).length : Nat) : Int) ≤ 4611686018427387904) (some (z8.2,z19,(z15 ++ ([(⟨z8.1.fSent,z8.1.fHop.fNode,z8.1.fTime⟩ : Sapi_Come)] : List Sapi_Come)),(yU z2j (⟨z8.1.fHop.fNode,z8.1.fHop.fLink⟩ : Snetwork_exit) z1Q.2.2))) else jp1 (fun (z4X : List Sapi_Come)=>(y2a zo z2T z2i (yU z2j (⟨z8.1.fHop.fNode,z8.1.fHop.fLink⟩ : Snetwork_exit) z1Q.2.2) z8.2 z4X z15 z8.1.fHop.fNext z1Q.1 z8.1.fHop.fLink z8.1.fSent).bind fun zmo=>some (zmo,z4X,z15,(yU z2j (⟨z8.1.fHop.fNode,z8.1.fHop.fLink⟩ : Snetwork_exit) z1Q.2.2))) fun zeN=>if decide (z8.1.fHop.fNext < ((zo.fModules.length : Nat) : Int)) then chk ((((z19 ++ ([(⟨z8.1.fSent,z8.1.fHop.fNext,z1Q.1⟩ : Sapi_Come)] : List Sapi_Come)).length : Nat) : Int) * 24 ≤ 140737488355328 ∧ (((z19 ++ ([(⟨z8.1.fSent,z8.1.fHop.fNext,z1Q.1⟩ : Sapi_Come)] : List Sapi_Come)).length : Nat) : Int) ≤ 4611686018427387904) (zeN (z19 ++ ([(⟨z8.1.fSent,z8.1.fHop.fNext,z1Q.1⟩ : Sapi_Come)] : List Sapi_Come))) else zeN z19))
set_option maxRecDepth 20000 in
theorem y6A (Z : Zp) (z3s : Nat) (z4g : Option Addr) (z4h : Nat) (z4i : Option Addr) (z4j : Nat) (z4k : Option Addr) (z4l : Nat) (z4m : Option Addr) (z4n : Nat) (z4o : Option Addr) (z4p : Nat) (z4q : Option Addr) (z4r : Nat) (z4s : Option Addr) (z4t : Nat) (z4u : Option Addr) (z4v : Nat) (z4w : Option Addr) (z4x : Nat) (z3F : Option Addr) (z3G : Nat) (z23 : Nat) (z4Y : List (Snetwork_exit × ((Nat × (Option Addr × Nat)) × Sport_Port))) (z6j : Option Addr) (z6k : Nat) (z2E : Option Addr) (z2F : Nat) (z2r : Option Addr) (z2s : Nat) (zo : Sapi_Config) (z2T : List (List Sapi_Hop)) (z2i : List zSt) (zeM : List (Snetwork_exit × Sport_Port)) (z2q : List Snetwork_event) (z19 : List Sapi_Come) (z15 : List Sapi_Come) (r : List Snetwork_event × List Sapi_Come × List Sapi_Come × (List (Snetwork_exit × Sport_Port)))
     (h : y2G zo z2T z2i zeM z2q z19 z15 = some r) (w₀ : World) (hz : PZ (fps [stb z3s 81 [(.slice z4g zo.fModules.length z4h),(.slice z4i zo.fChannels.length z4j),(.slice z4k zo.fSwitches.length z4l),(.slice z4m zo.fLinks.length z4n),(.slice z4o zo.fVLs.length z4p),(.slice z4q zo.fHealth.length z4r),(.slice z4s zo.fCauses.length z4t),(.slice z4u zo.fVersions.length z4v),(.slice z4w z2T.length z4x),(.slice z3F z2i.length z3G),(.map (some z23)),(.slice z6j z2q.length z6k),(.slice z2E z19.length z2F),(.slice z2r z15.length z2s)],y16 z23 (fun x=>Value.agg (y1N x).toArray) Value.pointer (y1p z4Y),y1n z12 z4Y,row (.slice z6j z2q.length z6k) 113 7 (z2q.flatMap yw),row (.slice z2E z19.length z2F) 50 3 (z19.flatMap e50),row (.slice z2r z15.length z2s) 50 3 (z15.flatMap e50)]) w₀ Z)
     (zmp : ZS Z 4 (y2x Z) z4g z4h zo.fModules)
     (zmq : ZS Z 4 (y2O Z) z4i z4j zo.fChannels)
     (zmr : ZS Z 4 (fun r x=>r = e64 x) z4k z4l zo.fSwitches)
     (zms : ZS Z 4 (fun r x=>r = e62 x) z4m z4n zo.fLinks)
     (zmt : ZS Z 7 (y2F Z) z4o z4p zo.fVLs)
     (zmu : ZS Z 5 (fun r x=>r = y34 x) z4q z4r zo.fHealth)
     (zmv : ZS Z 3 (y2P Z) z4s z4t zo.fCauses)
     (zmw : ZS Z 4 (fun r x=>r = y35 x) z4u z4v zo.fVersions)
     (zmx : ZS Z 1 (p55 Z) z4w z4x z2T)
     (zhJ : ZS Z 3 (fun r x=>r = e53 x) z3F z3G z2i)
     (zrN : dat z4Y = zeM)
    (hown : Hp (fps [stb z3s 81 [(.slice z4g zo.fModules.length z4h),(.slice z4i zo.fChannels.length z4j),(.slice z4k zo.fSwitches.length z4l),(.slice z4m zo.fLinks.length z4n),(.slice z4o zo.fVLs.length z4p),(.slice z4q zo.fHealth.length z4r),(.slice z4s zo.fCauses.length z4t),(.slice z4u zo.fVersions.length z4v),(.slice z4w z2T.length z4x),(.slice z3F z2i.length z3G),(.map (some z23)),(.slice z6j z2q.length z6k),(.slice z2E z19.length z2F),(.slice z2r z15.length z2s)],y16 z23 (fun x=>Value.agg (y1N x).toArray) Value.pointer (y1p z4Y),y1n z12 z4Y,row (.slice z6j z2q.length z6k) 113 7 (z2q.flatMap yw),row (.slice z2E z19.length z2F) 50 3 (z19.flatMap e50),row (.slice z2r z15.length z2s) 50 3 (z15.flatMap e50)]) w₀ w₀ [stb z3s 81 [(.slice z4g zo.fModules.length z4h),(.slice z4i zo.fChannels.length z4j),(.slice z4k zo.fSwitches.length z4l),(.slice z4m zo.fLinks.length z4n),(.slice z4o zo.fVLs.length z4p),(.slice z4q zo.fHealth.length z4r),(.slice z4s zo.fCauses.length z4t),(.slice z4u zo.fVersions.length z4v),(.slice z4w z2T.length z4x),(.slice z3F z2i.length z3G),(.map (some z23)),(.slice z6j z2q.length z6k),(.slice z2E z19.length z2F),(.slice z2r z15.length z2s)],y16 z23 (fun x=>Value.agg (y1N x).toArray) Value.pointer (y1p z4Y),y1n z12 z4Y,row (.slice z6j z2q.length z6k) 113 7 (z2q.flatMap yw),row (.slice z2E z19.length z2F) 50 3 (z19.flatMap e50),row (.slice z2r z15.length z2s) 50 3 (z15.flatMap e50)]) :
    Calls Try.prog 26 #[(.pointer (some ⟨z3s,0,none⟩))] w₀ fun e w'=>∃ zmy : Option Addr,∃ zmz : Nat,∃ zmA : Option Addr,∃ zmB : Nat,∃ zmC : Option Addr,∃ zmD : Nat,∃ zhK : List (Snetwork_exit × ((Nat × (Option Addr × Nat)) × Sport_Port)),e = .returned (.tuple #[]) ∧ (dat zhK = r.2.2.2) ∧ Hp (fps [stb z3s 81 [(.slice z4g zo.fModules.length z4h),(.slice z4i zo.fChannels.length z4j),(.slice z4k zo.fSwitches.length z4l),(.slice z4m zo.fLinks.length z4n),(.slice z4o zo.fVLs.length z4p),(.slice z4q zo.fHealth.length z4r),(.slice z4s zo.fCauses.length z4t),(.slice z4u zo.fVersions.length z4v),(.slice z4w z2T.length z4x),(.slice z3F z2i.length z3G),(.map (some z23)),(.slice z6j z2q.length z6k),(.slice z2E z19.length z2F),(.slice z2r z15.length z2s)],y16 z23 (fun x=>Value.agg (y1N x).toArray) Value.pointer (y1p z4Y),y1n z12 z4Y,row (.slice z6j z2q.length z6k) 113 7 (z2q.flatMap yw),row (.slice z2E z19.length z2F) 50 3 (z19.flatMap e50),row (.slice z2r z15.length z2s) 50 3 (z15.flatMap e50)]) w₀ w' [stb z3s 81 [(.slice z4g zo.fModules.length z4h),(.slice z4i zo.fChannels.length z4j),(.slice z4k zo.fSwitches.length z4l),(.slice z4m zo.fLinks.length z4n),(.slice z4o zo.fVLs.length z4p),(.slice z4q zo.fHealth.length z4r),(.slice z4s zo.fCauses.length z4t),(.slice z4u zo.fVersions.length z4v),(.slice z4w z2T.length z4x),(.slice z3F z2i.length z3G),(.map (some z23)),(.slice zmy r.1.length zmz),(.slice zmA r.2.1.length zmB),(.slice zmC r.2.2.1.length zmD)],row (.slice zmy r.1.length zmz) 113 7 (r.1.flatMap yw),row (.slice zmA r.2.1.length zmB) 50 3 (r.2.1.flatMap e50),row (.slice zmC r.2.2.1.length zmD) 50 3 (r.2.2.1.flatMap e50),y16 z23 (fun x=>Value.agg (y1N x).toArray) Value.pointer (y1p zhK),y1n z12 zhK]:=by
  unfold y2G at h
  refine Calls.yl (vs:=[(.pointer (some ⟨z3s,0,none⟩))]) (pre:=[stb z3s 81 [(.slice z4g zo.fModules.length z4h),(.slice z4i zo.fChannels.length z4j),(.slice z4k zo.fSwitches.length z4l),(.slice z4m zo.fLinks.length z4n),(.slice z4o zo.fVLs.length z4p),(.slice z4q zo.fHealth.length z4r),(.slice z4s zo.fCauses.length z4t),(.slice z4u zo.fVersions.length z4v),(.slice z4w z2T.length z4x),(.slice z3F z2i.length z3G),(.map (some z23)),(.slice z6j z2q.length z6k),(.slice z2E z19.length z2F),(.slice z2r z15.length z2s)],y16 z23 (fun x=>Value.agg (y1N x).toArray) Value.pointer (y1p z4Y),y1n z12 z4Y,row (.slice z6j z2q.length z6k) 113 7 (z2q.flatMap yw),row (.slice z2E z19.length z2F) 50 3 (z19.flatMap e50),row (.slice z2r z15.length z2s) 50 3 (z15.flatMap e50)]) (env:=[(0,(.pointer (some ⟨z3s,0,none⟩)))]) Try.func26 rfl Try.ntmps26 rfl (hown) rfl ?_
  refine WC.b ?_
  obtain ⟨z8,zrO,h⟩:=zp h
  refine WC.a (WL.pu rfl ?_)
  refine WL.a (d:=6) rfl rfl rfl (yt rfl) ?_
  refine WL.a (d:=7) rfl rfl rfl (ya y7C rfl rfl) ?_
  refine WL.a (d:=8) rfl rfl rfl (y5l Try.underlying111 rfl rfl) ?_
  refine WL.y4L (dd:=9) rfl rfl rfl (zF (l:=[.tmp 8]) Try.call39 (.cons rfl .nil)) (.cons .here (.cons .h2 .nil)) (cc hz (.cons .here (.cons .h2 .nil)) fun w pz ho=>y5O _ _ _ _ _ _ _ _ _ _ _ _ _ _ _ _ _ _ _ zrO w pz  ho) ?_
  rintro z7k z7l _
  refine WL.a (d:=10) rfl rfl rfl (y8m Try.underlying113 rfl rfl) ?_
  refine WL.new (dd:=2) rfl rfl rfl (y23 (cs:=[(.int .i64 0),(.int .i64 0),(.int .i64 0),(.int .i64 0),(.int .i64 0),(.int .i64 0),(.int .i64 0)]) zju rfl) ?_
  intro zdd _
  refine WL.y1l rfl rfl (y1D zdP rfl rfl rfl .here rfl rfl rfl) ?_
  refine WL.nil (WX.a (WC.b ?_))
  obtain ⟨z2j,zrP,h⟩:=zp h
  obtain ⟨zrQ,h⟩:=yj h
  obtain ⟨zmE,h⟩:=yj h
  obtain ⟨z1Q,zrR,h⟩:=zp h
  refine WC.yV (fun i=>[3,15].contains i) [stbp zdd 113 [(0,(.int .i64 z8.1.fTime)),(3,(.int .i64 z8.1.fSent))],stbp z3s 81 [(9,(.slice z3F z2i.length z3G))]] rfl ?_
  refine WD.a (i:=0) (d:=12) (by kernel_rfl) rfl (z2 (by kernel_rfl)) (z3 (by kernel_rfl)) rfl rfl rfl (fun _=>q_m rfl) ?_
  refine WD.a (i:=1) (d:=13) (by kernel_rfl) rfl (z2 (by kernel_rfl)) (z3 (by kernel_rfl)) rfl rfl rfl (fun _=>ya y4B rfl rfl) ?_
  refine WD.e (i:=2) (d:=14) (by kernel_rfl) rfl (z2 (by kernel_rfl)) (z3 (by kernel_rfl)) rfl rfl rfl (y1C (cs:=[(.int .i64 z8.1.fHop.fNode),(.int .i64 z8.1.fHop.fNext),(.int .i64 z8.1.fHop.fLink)]) y6H rfl rfl (rd_sub (s:=3) .here rfl)) ?_
  refine WD.a (i:=4) (d:=16) (by kernel_rfl) rfl (z2 (by kernel_rfl)) (z3 (by kernel_rfl)) rfl rfl rfl (fun _=>ya y62 rfl rfl) ?_
  refine WD.stable (i:=5) (d:=17) (by kernel_rfl) rfl (z2 (by kernel_rfl)) (z3 (by kernel_rfl)) rfl rfl rfl (Sin.wk (.cons .here (.cons .here .nil)) (.stb (.cons rfl (.cons rfl .nil)) (.stb (.cons rfl .nil) .nil))) (yb ye rfl (y6E .here (.head _))) ?_
  refine WD.a (i:=6) (d:=18) (by kernel_rfl) rfl (z2 (by kernel_rfl)) (z3 (by kernel_rfl)) rfl rfl rfl (fun _=>q_m rfl) ?_
  refine WD.a (i:=7) (d:=19) (by kernel_rfl) rfl (z2 (by kernel_rfl)) (z3 (by kernel_rfl)) rfl rfl rfl (fun _=>yt rfl) ?_
  refine WD.a (i:=8) (d:=20) (by kernel_rfl) rfl (z2 (by kernel_rfl)) (z3 (by kernel_rfl)) rfl rfl rfl (fun _=>ya y8V rfl rfl) ?_
  refine WD.stable (i:=9) (d:=21) (by kernel_rfl) rfl (z2 (by kernel_rfl)) (z3 (by kernel_rfl)) rfl rfl rfl (Sin.wk (.cons .here (.cons .here .nil)) (.stb (.cons rfl (.cons rfl .nil)) (.stb (.cons rfl .nil) .nil))) (yb y8W rfl (y6E .h1 (.head _))) ?_
  refine WD.a (i:=10) (d:=22) (by kernel_rfl) rfl (z2 (by kernel_rfl)) (z3 (by kernel_rfl)) rfl rfl rfl (fun _=>ya y4A rfl rfl) ?_
  refine WD.stable (i:=11) (d:=23) (by kernel_rfl) rfl (z2 (by kernel_rfl)) (z3 (by kernel_rfl)) rfl rfl rfl (Sin.wk (.cons .here (.cons .here .nil)) (.stb (.cons rfl (.cons rfl .nil)) (.stb (.cons rfl .nil) .nil))) (yb ye rfl (y6E .here (.tail _ (.head _)))) ?_
  refine WD.znth (j:=12) (dd:=24) (by kernel_rfl) rfl (z2 (by kernel_rfl)) (z3 (by kernel_rfl)) rfl rfl (Z:=Z) (Pr:=(fun r x=>r = e53 x)) y4o rfl rfl zhJ zrQ ?_
  rintro zxa zxb zrS zxc rfl
  refine WD.a (i:=13) (d:=25) (by kernel_rfl) rfl (z2 (by kernel_rfl)) (z3 (by kernel_rfl)) rfl rfl rfl (fun _=>ya y4W rfl rfl) ?_
  refine WD.stable (i:=14) (d:=26) (by kernel_rfl) rfl (z2 (by kernel_rfl)) (z3 (by kernel_rfl)) rfl rfl rfl (Sin.wk (.cons .here (.cons .here .nil)) (.stb (.cons rfl (.cons rfl .nil)) (.stb (.cons rfl .nil) .nil))) (yb ye rfl (y1G hz.pv zrS rfl)) ?_
  refine WD.call1 (i:=3) (dd:=15) rfl (by kernel_rfl) rfl rfl rfl (.inl ⟨rfl,fun _=>(Sin.wk (.cons .h2 (.cons .h2 .nil)) (.stb (.cons rfl (.cons rfl .nil)) (.stb (.cons rfl .nil) .nil)))⟩) (zF (l:=[.tmp 12,.tmp 14]) Try.call40 (.cons rfl (.cons rfl .nil))) (.cons .h3 (.cons .h3 .nil)) (ccl hz (.cons .h3 (.cons .h3 .nil)) (.cons .h1 (.cons .h1 (.cons .h1 (.cons .h1 .nil)))) fun w pz ho la=>y75 _ _ _ _ _ _ _ _ _ _ _ _ _ _ _ _ _ _ _ _ _ _ _ _ _ _ _ _ _ _ _ _ _ _ _ _ _ _ _ zrP w pz ((zmp.mono (Zle.left _ _)).weak (fun _ _ h=>y28 (Zle.left _ _) h)) ((zmq.mono (Zle.left _ _)).weak (fun _ _ h=>y2h (Zle.left _ _) h)) (zmr.mono (Zle.left _ _)) (zms.mono (Zle.left _ _)) ((zmt.mono (Zle.left _ _)).weak (fun _ _ h=>y29 (Zle.left _ _) h)) (zmu.mono (Zle.left _ _)) ((zmv.mono (Zle.left _ _)).weak (fun _ _ h=>y2i (Zle.left _ _) h)) (zmw.mono (Zle.left _ _)) ((zmx.mono (Zle.left _ _)).weak (fun _ _ h=>y42 (Zle.left _ _) h)) (zhJ.mono (Zle.left _ _)) zrN (ZA.row (la _ (.tail _ (.head _)) _) (RR.y1m (enc:=yw) (fun _=>rfl) _) ⟨w,pz.1⟩) (ZA.row (la _ (.tail _ (.tail _ (.head _))) _) (RR.y1m (enc:=e50) (fun _=>rfl) _) ⟨w,pz.1⟩) (ZA.row (la _ (.tail _ (.tail _ (.tail _ (.head _)))) _) (RR.y1m (enc:=e50) (fun _=>rfl) _) ⟨w,pz.1⟩) ((la _ (.head _) _).stb) ho) ?_
  rintro z7m zde
  refine WD.gh (fun _=>Hp.y8J zde zmE .h1 (fun g=>stb g.1 143 [(.int .i64 (((yr z2j (⟨z8.1.fHop.fNode,z8.1.fHop.fLink⟩ : Snetwork_exit) default).fNumbers).fSlow)),(.int .i64 (((yr z2j (⟨z8.1.fHop.fNode,z8.1.fHop.fLink⟩ : Snetwork_exit) default).fNumbers).fDelay)),(.int .i64 (((yr z2j (⟨z8.1.fHop.fNode,z8.1.fHop.fLink⟩ : Snetwork_exit) default).fNumbers).fStore)),(.int .i64 ((yr z2j (⟨z8.1.fHop.fNode,z8.1.fHop.fLink⟩ : Snetwork_exit) default).fNow)),(.int .i64 ((yr z2j (⟨z8.1.fHop.fNode,z8.1.fHop.fLink⟩ : Snetwork_exit) default).fLast)),(.slice g.2.1 (((yr z2j (⟨z8.1.fHop.fNode,z8.1.fHop.fLink⟩ : Snetwork_exit) default).fFrames).length) g.2.2)] :: row (.slice g.2.1 (((yr z2j (⟨z8.1.fHop.fNode,z8.1.fHop.fLink⟩ : Snetwork_exit) default).fFrames).length) g.2.2) 146 2 (((yr z2j (⟨z8.1.fHop.fNode,z8.1.fHop.fLink⟩ : Snetwork_exit) default).fFrames).flatMap y1W) :: [y1n z12 (y4a (⟨z8.1.fHop.fNode,z8.1.fHop.fLink⟩ : Snetwork_exit) z7m),y16 z23 (fun x=>Value.agg (y1N x).toArray) Value.pointer (y1p z7m),stb zdd 113 [(.int .i64 z8.1.fTime),(.int .i64 z8.1.fIn_),(.int .i64 z8.1.fVl),(.int .i64 z8.1.fSent),(.int .i64 z8.1.fHop.fNode),(.int .i64 z8.1.fHop.fNext),(.int .i64 z8.1.fHop.fLink)],stb z3s 81 [(.slice z4g zo.fModules.length z4h),(.slice z4i zo.fChannels.length z4j),(.slice z4k zo.fSwitches.length z4l),(.slice z4m zo.fLinks.length z4n),(.slice z4o zo.fVLs.length z4p),(.slice z4q zo.fHealth.length z4r),(.slice z4s zo.fCauses.length z4t),(.slice z4u zo.fVersions.length z4v),(.slice z4w z2T.length z4x),(.slice z3F z2i.length z3G),(.map (some z23)),(.slice z7k z8.2.length z7l),(.slice z2E z19.length z2F),(.slice z2r z15.length z2s)],row (.slice z7k z8.2.length z7l) 113 7 (z8.2.flatMap yw),row (.slice z2E z19.length z2F) 50 3 (z19.flatMap e50),row (.slice z2r z15.length z2s) 50 3 (z15.flatMap e50)]) (fun _=>rfl)) ?_
  rintro ⟨z8a,zxd,zxe⟩ zmF
  refine WD.repin (i:=15) rfl (u:=(.pointer (some ⟨z8a,0,none⟩))) (congrArg Value.pointer zmF) ?_
  refine WD.call2 (i:=15) (dd:=27) rfl (by kernel_rfl) rfl rfl rfl (.inl ⟨rfl,fun _ _=>(Sin.wk (.cons .h4 (.cons .h4 .nil)) (.stb (.cons rfl (.cons rfl .nil)) (.stb (.cons rfl .nil) .nil)))⟩) (zF (l:=[.tmp 15,.tmp 17,.tmp 26]) Try.call41 (.cons rfl (.cons rfl (.cons rfl .nil)))) (.cons .here (.cons .here .nil)) (cc hz (.cons .here (.cons .here .nil)) fun w pz ho=>y7q _ _ _ _ _ _ _ _ zrR w pz  ho) ?_
  rintro z9k z9l _
  refine WD.ghL (fun _ h=>Hp.objsClose (els:=z12) (lg:=z7m) (k:=(⟨z8.1.fHop.fNode,z8.1.fHop.fLink⟩ : Snetwork_exit)) (b:=z8a) (g:=(z9k,z9l)) (x:=z1Q.2.2) (.cons .here (.cons .here (.cons .here .nil))) h) ?_
  refine WD.ghL (M:=[y16 z23 (fun x=>Value.agg (y1N x).toArray) Value.pointer (y1p (yU z7m (⟨z8.1.fHop.fNode,z8.1.fHop.fLink⟩ : Snetwork_exit) ((z8a,(z9k,z9l)),z1Q.2.2))),y1n z12 (yU z7m (⟨z8.1.fHop.fNode,z8.1.fHop.fLink⟩ : Snetwork_exit) ((z8a,(z9k,z9l)),z1Q.2.2)),stb zdd 113 [(.int .i64 z8.1.fTime),(.int .i64 z8.1.fIn_),(.int .i64 z8.1.fVl),(.int .i64 z8.1.fSent),(.int .i64 z8.1.fHop.fNode),(.int .i64 z8.1.fHop.fNext),(.int .i64 z8.1.fHop.fLink)],stb z3s 81 [(.slice z4g zo.fModules.length z4h),(.slice z4i zo.fChannels.length z4j),(.slice z4k zo.fSwitches.length z4l),(.slice z4m zo.fLinks.length z4n),(.slice z4o zo.fVLs.length z4p),(.slice z4q zo.fHealth.length z4r),(.slice z4s zo.fCauses.length z4t),(.slice z4u zo.fVersions.length z4v),(.slice z4w z2T.length z4x),(.slice z3F z2i.length z3G),(.map (some z23)),(.slice z7k z8.2.length z7l),(.slice z2E z19.length z2F),(.slice z2r z15.length z2s)],row (.slice z7k z8.2.length z7l) 113 7 (z8.2.flatMap yw),row (.slice z2E z19.length z2F) 50 3 (z19.flatMap e50),row (.slice z2r z15.length z2s) 50 3 (z15.flatMap e50)]) (fun _ h=>Hp.y8l .h1 (y9g zde zmE zmF _ _) h) ?_
  refine WD.a (i:=16) (d:=11) (by kernel_rfl) rfl (z2 (by kernel_rfl)) (z3 (by kernel_rfl)) rfl rfl rfl (fun _=>q_m rfl) ?_
  refine WD.a (i:=17) (d:=28) (by kernel_rfl) rfl (z2 (by kernel_rfl)) (z3 (by kernel_rfl)) rfl rfl rfl (fun _=>y4J rfl rfl) ?_
  refine WD.a (i:=18) (d:=29) (by kernel_rfl) rfl (z2 (by kernel_rfl)) (z3 (by kernel_rfl)) rfl rfl rfl (fun _=>y4J rfl rfl) ?_
  refine WD.a (i:=19) (d:=3) (by kernel_rfl) rfl (z2 (by kernel_rfl)) (z3 (by kernel_rfl)) rfl rfl rfl (fun _=>q_z rfl) ?_
  refine WD.a (i:=20) (d:=4) (by kernel_rfl) rfl (z2 (by kernel_rfl)) (z3 (by kernel_rfl)) rfl rfl rfl (fun _=>q_z rfl) ?_
  refine WD.done (by kernel_rfl) ?_
  refine WX.a (WC.b (WC.b (WC.a (WL.pu rfl (WL.pu rfl (WL.nil (WX.a ?_)))))))
  refine WC.cond rfl (fun zhL=>?_) (fun zhL=>?_)
  · replace h:=ym h zhL
    refine WC.b ?_
    obtain ⟨zrT,h⟩:=yj h
    refine WC.yV (fun i=>[14,17].contains i) [] rfl ?_
    refine WD.a (i:=0) (d:=32) (by kernel_rfl) rfl (z2 (by kernel_rfl)) (z3 (by kernel_rfl)) rfl rfl rfl (fun _=>q_m rfl) ?_
    refine WD.a (i:=1) (d:=33) (by kernel_rfl) rfl (z2 (by kernel_rfl)) (z3 (by kernel_rfl)) rfl rfl rfl (fun _=>q_m rfl) ?_
    refine WD.a (i:=2) (d:=34) (by kernel_rfl) rfl (z2 (by kernel_rfl)) (z3 (by kernel_rfl)) rfl rfl rfl (fun _=>yt rfl) ?_
    refine WD.a (i:=3) (d:=35) (by kernel_rfl) rfl (z2 (by kernel_rfl)) (z3 (by kernel_rfl)) rfl rfl rfl (fun _=>ya y7F rfl rfl) ?_
    refine WD.e (i:=4) (d:=36) (by kernel_rfl) rfl (z2 (by kernel_rfl)) (z3 (by kernel_rfl)) rfl rfl rfl (yb y6N rfl (yc .h3 rfl)) ?_
    refine WD.a (i:=5) (d:=37) (by kernel_rfl) rfl (z2 (by kernel_rfl)) (z3 (by kernel_rfl)) rfl rfl rfl (fun _=>ya y4A rfl rfl) ?_
    refine WD.e (i:=6) (d:=38) (by kernel_rfl) rfl (z2 (by kernel_rfl)) (z3 (by kernel_rfl)) rfl rfl rfl (yb ye rfl (yc .h2 rfl)) ?_
    refine WD.a (i:=7) (d:=39) (by kernel_rfl) rfl (z2 (by kernel_rfl)) (z3 (by kernel_rfl)) rfl rfl rfl (fun _=>ya y4B rfl rfl) ?_
    refine WD.a (i:=8) (d:=40) (by kernel_rfl) rfl (z2 (by kernel_rfl)) (z3 (by kernel_rfl)) rfl rfl rfl (fun _=>ya y3f rfl rfl) ?_
    refine WD.e (i:=9) (d:=41) (by kernel_rfl) rfl (z2 (by kernel_rfl)) (z3 (by kernel_rfl)) rfl rfl rfl (yb ye rfl (yc .h2 rfl)) ?_
    refine WD.a (i:=10) (d:=42) (by kernel_rfl) rfl (z2 (by kernel_rfl)) (z3 (by kernel_rfl)) rfl rfl rfl (fun _=>ya y62 rfl rfl) ?_
    refine WD.e (i:=11) (d:=43) (by kernel_rfl) rfl (z2 (by kernel_rfl)) (z3 (by kernel_rfl)) rfl rfl rfl (yb ye rfl (yc .h2 rfl)) ?_
    refine WD.a (i:=12) (d:=44) (by kernel_rfl) rfl (z2 (by kernel_rfl)) (z3 (by kernel_rfl)) rfl rfl rfl (fun _=>y1x (v:=(.agg #[(.int .i64 z8.1.fSent),(.int .i64 z8.1.fHop.fNode),(.int .i64 z8.1.fTime)])) (Eos.parts (l:=[.tmp 38,.tmp 41,.tmp 43]) (.cons rfl (.cons rfl (.cons rfl .nil))) [0,1,2]) (fun _=>by kernel_rfl)) ?_
    refine WD.new (i:=13) (dd:=45) rfl (by kernel_rfl) rfl rfl rfl (y17 (cs:=([(⟨z8.1.fSent,z8.1.fHop.fNode,z8.1.fTime⟩ : Sapi_Come)] : List Sapi_Come).flatMap e50) y15 (Eos.parts (l:=[.tmp 44]) (.cons rfl .nil) [0]) (fun _=>by kernel_rfl) rfl (by unfold maxLen; omega)) (fun h'=>absurd h' (by decide)) ?_
    intro zxf _
    refine WD.old (i:=14) (dd:=46) rfl (by kernel_rfl) rfl rfl rfl rfl (fun _=>(Sin.of .nil)) (y5k (enc:=e50) (l1:=z15) (l2:=([(⟨z8.1.fSent,z8.1.fHop.fNode,z8.1.fTime⟩ : Sapi_Come)] : List Sapi_Come)) y15 rfl rfl .h7 (fun _=>rfl) rfl rfl (y5V .here) (y5A e50_oc _) zrT) ?_
    rintro ⟨zmG,zmH⟩ _
    refine WD.a (i:=15) (d:=47) (by kernel_rfl) rfl (z2 (by kernel_rfl)) (z3 (by kernel_rfl)) rfl rfl rfl (fun _=>yt rfl) ?_
    refine WD.a (i:=16) (d:=48) (by kernel_rfl) rfl (z2 (by kernel_rfl)) (z3 (by kernel_rfl)) rfl rfl rfl (fun _=>ya y7F rfl rfl) ?_
    refine WD.y30 (i:=17) rfl (by kernel_rfl) rfl rfl rfl (by kernel_rfl) (y41 (ds:=[(.slice z4g zo.fModules.length z4h),(.slice z4i zo.fChannels.length z4j),(.slice z4k zo.fSwitches.length z4l),(.slice z4m zo.fLinks.length z4n),(.slice z4o zo.fVLs.length z4p),(.slice z4q zo.fHealth.length z4r),(.slice z4s zo.fCauses.length z4t),(.slice z4u zo.fVersions.length z4v),(.slice z4w z2T.length z4x),(.slice z3F z2i.length z3G),(.map (some z23)),(.slice z7k z8.2.length z7l),(.slice z2E z19.length z2F),(.slice zmG ((z15 ++ ([(⟨z8.1.fSent,z8.1.fHop.fNode,z8.1.fTime⟩ : Sapi_Come)] : List Sapi_Come)).length) zmH)]) y8Y rfl rfl rfl rfl rfl .h5 rfl rfl) ?_
    refine WD.done (by kernel_rfl) ?_
    refine WX.a (WC.ret (WX.yg ?_))
    obtain rfl:=Option.some.inj h
    refine WX.yi Try.results26 .nil (fun w hw=>?_)
    exact ⟨z7k,z7l,z2E,z2F,zmG,zmH,(yU z7m (⟨z8.1.fHop.fNode,z8.1.fHop.fLink⟩ : Snetwork_exit) ((z8a,(z9k,z9l)),z1Q.2.2)),y49,(y5Z zde _ _ _),hw.sub (.cons .here (.cons .h5 (.cons .h5 (.cons .here (.cons .h1 (.cons .h1 .nil))))))⟩
  · replace h:=yn h zhL
    refine WC.skip (WX.a ?_)
    obtain ⟨zeN,zrU,h⟩:=y1d h
    refine WC.y4R (fun (z4X : List Sapi_Come) (zaM : Option Addr) (zaN : Nat)=>(zeN z4X = some r)) (fun (z4X : List Sapi_Come) (zaM : Option Addr) (zaN : Nat)=>[(0,(.pointer (some ⟨z3s,0,none⟩))),(2,(.pointer (some ⟨zdd,0,none⟩))),(3,(.int .i64 z1Q.1))]) (fun (z4X : List Sapi_Come) (zaM : Option Addr) (zaN : Nat)=>[row (.slice z7k z8.2.length z7l) 113 7 (z8.2.flatMap yw),row (.slice zaM z4X.length zaN) 50 3 (z4X.flatMap e50),row (.slice z2r z15.length z2s) 50 3 (z15.flatMap e50),stb z3s 81 [(.slice z4g zo.fModules.length z4h),(.slice z4i zo.fChannels.length z4j),(.slice z4k zo.fSwitches.length z4l),(.slice z4m zo.fLinks.length z4n),(.slice z4o zo.fVLs.length z4p),(.slice z4q zo.fHealth.length z4r),(.slice z4s zo.fCauses.length z4t),(.slice z4u zo.fVersions.length z4v),(.slice z4w z2T.length z4x),(.slice z3F z2i.length z3G),(.map (some z23)),(.slice z7k z8.2.length z7l),(.slice zaM z4X.length zaN),(.slice z2r z15.length z2s)],stb zdd 113 [(.int .i64 z8.1.fTime),(.int .i64 z8.1.fIn_),(.int .i64 z8.1.fVl),(.int .i64 z8.1.fSent),(.int .i64 z8.1.fHop.fNode),(.int .i64 z8.1.fHop.fNext),(.int .i64 z8.1.fHop.fLink)],y16 z23 (fun x=>Value.agg (y1N x).toArray) Value.pointer (y1p (yU z7m (⟨z8.1.fHop.fNode,z8.1.fHop.fLink⟩ : Snetwork_exit) ((z8a,(z9k,z9l)),z1Q.2.2))),y1n z12 (yU z7m (⟨z8.1.fHop.fNode,z8.1.fHop.fLink⟩ : Snetwork_exit) ((z8a,(z9k,z9l)),z1Q.2.2))]) ?_ ?_
    · skip
      refine WC.b ?_
      refine WC.yV (fun i=>[].contains i) [] rfl ?_
      refine WD.a (i:=0) (d:=49) (by kernel_rfl) rfl (z2 (by kernel_rfl)) (z3 (by kernel_rfl)) rfl rfl rfl (fun _=>ya y4B rfl rfl) ?_
      refine WD.a (i:=1) (d:=50) (by kernel_rfl) rfl (z2 (by kernel_rfl)) (z3 (by kernel_rfl)) rfl rfl rfl (fun _=>ya y4z rfl rfl) ?_
      refine WD.e (i:=2) (d:=51) (by kernel_rfl) rfl (z2 (by kernel_rfl)) (z3 (by kernel_rfl)) rfl rfl rfl (yb ye rfl (yc .h2 rfl)) ?_
      refine WD.a (i:=3) (d:=52) (by kernel_rfl) rfl (z2 (by kernel_rfl)) (z3 (by kernel_rfl)) rfl rfl rfl (fun _=>q_m rfl) ?_
      refine WD.a (i:=4) (d:=53) (by kernel_rfl) rfl (z2 (by kernel_rfl)) (z3 (by kernel_rfl)) rfl rfl rfl (fun _=>yt rfl) ?_
      refine WD.a (i:=5) (d:=54) (by kernel_rfl) rfl (z2 (by kernel_rfl)) (z3 (by kernel_rfl)) rfl rfl rfl (fun _=>ya y5J rfl rfl) ?_
      refine WD.a (i:=6) (d:=55) (by kernel_rfl) rfl (z2 (by kernel_rfl)) (z3 (by kernel_rfl)) rfl rfl rfl (fun _=>ya y3o rfl rfl) ?_
      refine WD.e (i:=7) (d:=56) (by kernel_rfl) rfl (z2 (by kernel_rfl)) (z3 (by kernel_rfl)) rfl rfl rfl (yb y3p rfl (yc .h3 rfl)) ?_
      refine WD.a (i:=8) (d:=57) (by kernel_rfl) rfl (z2 (by kernel_rfl)) (z3 (by kernel_rfl)) rfl rfl rfl (fun _=>yZ Try.underlying22 rfl) ?_
      refine WD.a (i:=9) (d:=58) (by kernel_rfl) rfl (z2 (by kernel_rfl)) (z3 (by kernel_rfl)) rfl rfl rfl (fun _=>y3h rfl rfl) ?_
      refine WD.done (by kernel_rfl) ?_
      refine WX.a ?_
      refine WC.cond rfl (fun zhM=>?_) (fun zhM=>?_)
      · replace h:=ym h zhM
        obtain ⟨zrV,h⟩:=yj h
        refine WC.yV (fun i=>[13,16].contains i) [] rfl ?_
        refine WD.a (i:=0) (d:=59) (by kernel_rfl) rfl (z2 (by kernel_rfl)) (z3 (by kernel_rfl)) rfl rfl rfl (fun _=>q_m rfl) ?_
        refine WD.a (i:=1) (d:=60) (by kernel_rfl) rfl (z2 (by kernel_rfl)) (z3 (by kernel_rfl)) rfl rfl rfl (fun _=>q_m rfl) ?_
        refine WD.a (i:=2) (d:=61) (by kernel_rfl) rfl (z2 (by kernel_rfl)) (z3 (by kernel_rfl)) rfl rfl rfl (fun _=>yt rfl) ?_
        refine WD.a (i:=3) (d:=62) (by kernel_rfl) rfl (z2 (by kernel_rfl)) (z3 (by kernel_rfl)) rfl rfl rfl (fun _=>ya y7G rfl rfl) ?_
        refine WD.e (i:=4) (d:=63) (by kernel_rfl) rfl (z2 (by kernel_rfl)) (z3 (by kernel_rfl)) rfl rfl rfl (yb y6N rfl (yc .h3 rfl)) ?_
        refine WD.a (i:=5) (d:=64) (by kernel_rfl) rfl (z2 (by kernel_rfl)) (z3 (by kernel_rfl)) rfl rfl rfl (fun _=>ya y4A rfl rfl) ?_
        refine WD.e (i:=6) (d:=65) (by kernel_rfl) rfl (z2 (by kernel_rfl)) (z3 (by kernel_rfl)) rfl rfl rfl (yb ye rfl (yc .h2 rfl)) ?_
        refine WD.a (i:=7) (d:=66) (by kernel_rfl) rfl (z2 (by kernel_rfl)) (z3 (by kernel_rfl)) rfl rfl rfl (fun _=>ya y4B rfl rfl) ?_
        refine WD.a (i:=8) (d:=67) (by kernel_rfl) rfl (z2 (by kernel_rfl)) (z3 (by kernel_rfl)) rfl rfl rfl (fun _=>ya y4z rfl rfl) ?_
        refine WD.e (i:=9) (d:=68) (by kernel_rfl) rfl (z2 (by kernel_rfl)) (z3 (by kernel_rfl)) rfl rfl rfl (yb ye rfl (yc .h2 rfl)) ?_
        refine WD.a (i:=10) (d:=69) (by kernel_rfl) rfl (z2 (by kernel_rfl)) (z3 (by kernel_rfl)) rfl rfl rfl (fun _=>q_m rfl) ?_
        refine WD.a (i:=11) (d:=70) (by kernel_rfl) rfl (z2 (by kernel_rfl)) (z3 (by kernel_rfl)) rfl rfl rfl (fun _=>y1x (v:=(.agg #[(.int .i64 z8.1.fSent),(.int .i64 z8.1.fHop.fNext),(.int .i64 z1Q.1)])) (Eos.parts (l:=[.tmp 65,.tmp 68,.tmp 69]) (.cons rfl (.cons rfl (.cons rfl .nil))) [0,1,2]) (fun _=>by kernel_rfl)) ?_
        refine WD.new (i:=12) (dd:=71) rfl (by kernel_rfl) rfl rfl rfl (y17 (cs:=([(⟨z8.1.fSent,z8.1.fHop.fNext,z1Q.1⟩ : Sapi_Come)] : List Sapi_Come).flatMap e50) y15 (Eos.parts (l:=[.tmp 70]) (.cons rfl .nil) [0]) (fun _=>by kernel_rfl) rfl (by unfold maxLen; omega)) (fun h'=>absurd h' (by decide)) ?_
        intro zxg _
        refine WD.old (i:=13) (dd:=72) rfl (by kernel_rfl) rfl rfl rfl rfl (fun _=>(Sin.of .nil)) (y5k (enc:=e50) (l1:=z19) (l2:=([(⟨z8.1.fSent,z8.1.fHop.fNext,z1Q.1⟩ : Sapi_Come)] : List Sapi_Come)) y15 rfl rfl .h6 (fun _=>rfl) rfl rfl (y5V .here) (y5A e50_oc _) zrV) ?_
        rintro ⟨zmI,zmJ⟩ _
        refine WD.a (i:=14) (d:=73) (by kernel_rfl) rfl (z2 (by kernel_rfl)) (z3 (by kernel_rfl)) rfl rfl rfl (fun _=>yt rfl) ?_
        refine WD.a (i:=15) (d:=74) (by kernel_rfl) rfl (z2 (by kernel_rfl)) (z3 (by kernel_rfl)) rfl rfl rfl (fun _=>ya y7G rfl rfl) ?_
        refine WD.y30 (i:=16) rfl (by kernel_rfl) rfl rfl rfl (by kernel_rfl) (y41 (ds:=[(.slice z4g zo.fModules.length z4h),(.slice z4i zo.fChannels.length z4j),(.slice z4k zo.fSwitches.length z4l),(.slice z4m zo.fLinks.length z4n),(.slice z4o zo.fVLs.length z4p),(.slice z4q zo.fHealth.length z4r),(.slice z4s zo.fCauses.length z4t),(.slice z4u zo.fVersions.length z4v),(.slice z4w z2T.length z4x),(.slice z3F z2i.length z3G),(.map (some z23)),(.slice z7k z8.2.length z7l),(.slice zmI ((z19 ++ ([(⟨z8.1.fSent,z8.1.fHop.fNext,z1Q.1⟩ : Sapi_Come)] : List Sapi_Come)).length) zmJ),(.slice z2r z15.length z2s)]) y8Y rfl rfl rfl rfl rfl .h5 rfl rfl) ?_
        refine WD.done (by kernel_rfl) ?_
        exact WX.mid (G:=List Sapi_Come × Option Addr × Nat) ⟨(z19 ++ ([(⟨z8.1.fSent,z8.1.fHop.fNext,z1Q.1⟩ : Sapi_Come)] : List Sapi_Come)),zmI,zmJ⟩ h (.cons rfl (.cons rfl (.cons rfl .nil))) (.cons .h6 (.cons .h1 (.cons .h5 (.cons .here (.cons .h3 (.cons .h1 (.cons .h1 .nil)))))))
      · replace h:=yn h zhM
        refine WC.skip ?_
        exact WX.mid (G:=List Sapi_Come × Option Addr × Nat) ⟨z19,z2E,z2F⟩ h (.cons rfl (.cons rfl (.cons rfl .nil))) (.cons .h4 (.cons .h4 (.cons .h4 (.cons .h3 (.cons .h2 (.cons .here (.cons .here .nil)))))))
    · rintro z4X zaM zaN h
      replace h:=(zrU z4X).symm.trans h
      obtain ⟨zmo,zrW,h⟩:=zp h
      refine WC.a (WL.pu rfl ?_)
      refine WL.a (d:=76) rfl rfl rfl (ya y4B rfl rfl) ?_
      refine WL.a (d:=77) rfl rfl rfl (ya y4z rfl rfl) ?_
      refine WL.a (d:=78) rfl rfl rfl (yb ye rfl (yc .h4 rfl)) ?_
      refine WL.pu rfl ?_
      refine WL.a (d:=80) rfl rfl rfl (ya y4B rfl rfl) ?_
      refine WL.a (d:=81) rfl rfl rfl (ya y5H rfl rfl) ?_
      refine WL.a (d:=82) rfl rfl rfl (yb ye rfl (yc .h4 rfl)) ?_
      refine WL.a (d:=83) rfl rfl rfl (ya y4A rfl rfl) ?_
      refine WL.a (d:=84) rfl rfl rfl (yb ye rfl (yc .h4 rfl)) ?_
      refine WL.y4L (dd:=85) rfl rfl rfl (zF (l:=[.tmp 75,.tmp 78,.tmp 79,.tmp 82,.tmp 84]) Try.call25 (.cons rfl (.cons rfl (.cons rfl (.cons rfl (.cons rfl .nil)))))) (.cons .h3 (.cons .h4 (.cons .h4 (.cons .here .nil)))) (ccl hz (.cons .h3 (.cons .h4 (.cons .h4 (.cons .here .nil)))) (.cons .here (.cons .here .nil)) fun w pz ho la=>y4v _ _ _ _ _ _ _ _ _ _ _ _ _ _ _ _ _ _ _ _ _ _ _ _ _ _ _ _ _ _ _ _ _ _ _ _ _ _ _ _ _ _ zrW w pz ((zmp.mono (Zle.left _ _)).weak (fun _ _ h=>y28 (Zle.left _ _) h)) ((zmq.mono (Zle.left _ _)).weak (fun _ _ h=>y2h (Zle.left _ _) h)) (zmr.mono (Zle.left _ _)) (zms.mono (Zle.left _ _)) ((zmt.mono (Zle.left _ _)).weak (fun _ _ h=>y29 (Zle.left _ _) h)) (zmu.mono (Zle.left _ _)) ((zmv.mono (Zle.left _ _)).weak (fun _ _ h=>y2i (Zle.left _ _) h)) (zmw.mono (Zle.left _ _)) ((zmx.mono (Zle.left _ _)).weak (fun _ _ h=>y42 (Zle.left _ _) h)) (zhJ.mono (Zle.left _ _)) (y5Z zde _ _ _) (ZA.row (la _ (.head _) _) (RR.y1m (enc:=e50) (fun _=>rfl) _) ⟨w,pz.1⟩) (ZA.row (la _ (.tail _ (.head _)) _) (RR.y1m (enc:=e50) (fun _=>rfl) _) ⟨w,pz.1⟩) ho) ?_
      rintro zrX zrY _
      refine WL.nil ?_
      obtain rfl:=Option.some.inj h
      refine WX.y1Q Try.results26 .nil (fun w hw=>?_)
      exact ⟨zrX,zrY,zaM,zaN,z2r,z2s,(yU z7m (⟨z8.1.fHop.fNode,z8.1.fHop.fLink⟩ : Snetwork_exit) ((z8a,(z9k,z9l)),z1Q.2.2)),y49,(y5Z zde _ _ _),hw.sub (.cons .here (.cons .here (.cons .h2 (.cons .h2 (.cons .here (.cons .here .nil))))))⟩
def y2l (z2G : Sapi_Come) (z2H : Sapi_Come) : Option Int :=
  (y1h z2G.fTime z2H.fTime).bind fun zhN=>(y1h z2G.fSent z2H.fSent).bind fun zhO=>(y1h z2G.fNode z2H.fNode).bind fun zhP=>(y3r ([zhN,zhO,zhP] : List Int)).bind fun zmK=>some zmK
set_option maxRecDepth 20000 in
theorem y6B (Z : Zp)  (z2G : Sapi_Come) (z2H : Sapi_Come) (r : Int)
     (h : y2l z2G z2H = some r) (w₀ : World) (hz : PZ [] w₀ Z) :
    Calls Try.prog 43 #[(.agg #[(.int .i64 z2G.fSent),(.int .i64 z2G.fNode),(.int .i64 z2G.fTime)]),(.agg #[(.int .i64 z2H.fSent),(.int .i64 z2H.fNode),(.int .i64 z2H.fTime)])] w₀ fun e w'=>e = .returned (.int .i64 r) ∧ Hp [] w₀ w' []:=by
  unfold y2l at h
  refine Calls.yl (vs:=[(.agg #[(.int .i64 z2G.fSent),(.int .i64 z2G.fNode),(.int .i64 z2G.fTime)]),(.agg #[(.int .i64 z2H.fSent),(.int .i64 z2H.fNode),(.int .i64 z2H.fTime)])]) (pre:=[]) (env:=[(0,(.agg #[(.int .i64 z2G.fSent),(.int .i64 z2G.fNode),(.int .i64 z2G.fTime)])),(1,(.agg #[(.int .i64 z2H.fSent),(.int .i64 z2H.fNode),(.int .i64 z2H.fTime)]))]) Try.func43 rfl Try.ntmps43 rfl (Hp.nil w₀ _) rfl ?_
  refine WC.b (WC.a ?_)
  refine WL.new (dd:=2) rfl rfl rfl (y2c (cs:=[(.int .i64 z2G.fSent),(.int .i64 z2G.fNode),(.int .i64 z2G.fTime)]) rfl rfl) ?_
  intro zxh _
  refine WL.new (dd:=3) rfl rfl rfl (y2c (cs:=[(.int .i64 z2H.fSent),(.int .i64 z2H.fNode),(.int .i64 z2H.fTime)]) rfl rfl) ?_
  intro zxi _
  refine WL.pu rfl (WL.nil (WX.a (WC.b ?_)))
  obtain ⟨zhN,zrZ,h⟩:=zp h
  obtain ⟨zhO,zs0,h⟩:=zp h
  obtain ⟨zhP,zs1,h⟩:=zp h
  obtain ⟨zmK,zs2,h⟩:=zp h
  refine WC.yV (fun i=>[].contains i) [] rfl ?_
  refine WD.a (i:=0) (d:=5) (by kernel_rfl) rfl (z2 (by kernel_rfl)) (z3 (by kernel_rfl)) rfl rfl rfl (fun _=>ya y47 rfl rfl) ?_
  refine WD.e (i:=1) (d:=6) (by kernel_rfl) rfl (z2 (by kernel_rfl)) (z3 (by kernel_rfl)) rfl rfl rfl (yb ye rfl (yc .h1 rfl)) ?_
  refine WD.a (i:=2) (d:=7) (by kernel_rfl) rfl (z2 (by kernel_rfl)) (z3 (by kernel_rfl)) rfl rfl rfl (fun _=>ya y47 rfl rfl) ?_
  refine WD.e (i:=3) (d:=8) (by kernel_rfl) rfl (z2 (by kernel_rfl)) (z3 (by kernel_rfl)) rfl rfl rfl (yb ye rfl (yc .here rfl)) ?_
  refine WD.c (i:=4) (d:=9) (by kernel_rfl) rfl (z2 (by kernel_rfl)) (z3 (by kernel_rfl)) rfl rfl rfl (zF (l:=[.tmp 6,.tmp 8]) Try.call45 (.cons rfl (.cons rfl .nil))) (cc hz .nil fun w pz ho=>y26 _ _ _ _ zrZ w pz ) ?_
  refine WD.a (i:=5) (d:=10) (by kernel_rfl) rfl (z2 (by kernel_rfl)) (z3 (by kernel_rfl)) rfl rfl rfl (fun _=>ya y48 rfl rfl) ?_
  refine WD.e (i:=6) (d:=11) (by kernel_rfl) rfl (z2 (by kernel_rfl)) (z3 (by kernel_rfl)) rfl rfl rfl (yb ye rfl (yc .h1 rfl)) ?_
  refine WD.a (i:=7) (d:=12) (by kernel_rfl) rfl (z2 (by kernel_rfl)) (z3 (by kernel_rfl)) rfl rfl rfl (fun _=>ya y48 rfl rfl) ?_
  refine WD.e (i:=8) (d:=13) (by kernel_rfl) rfl (z2 (by kernel_rfl)) (z3 (by kernel_rfl)) rfl rfl rfl (yb ye rfl (yc .here rfl)) ?_
  refine WD.c (i:=9) (d:=14) (by kernel_rfl) rfl (z2 (by kernel_rfl)) (z3 (by kernel_rfl)) rfl rfl rfl (zF (l:=[.tmp 11,.tmp 13]) Try.call45 (.cons rfl (.cons rfl .nil))) (cc hz .nil fun w pz ho=>y26 _ _ _ _ zs0 w pz ) ?_
  refine WD.a (i:=10) (d:=15) (by kernel_rfl) rfl (z2 (by kernel_rfl)) (z3 (by kernel_rfl)) rfl rfl rfl (fun _=>ya y6O rfl rfl) ?_
  refine WD.e (i:=11) (d:=16) (by kernel_rfl) rfl (z2 (by kernel_rfl)) (z3 (by kernel_rfl)) rfl rfl rfl (yb ye rfl (yc .h1 rfl)) ?_
  refine WD.a (i:=12) (d:=17) (by kernel_rfl) rfl (z2 (by kernel_rfl)) (z3 (by kernel_rfl)) rfl rfl rfl (fun _=>ya y6O rfl rfl) ?_
  refine WD.e (i:=13) (d:=18) (by kernel_rfl) rfl (z2 (by kernel_rfl)) (z3 (by kernel_rfl)) rfl rfl rfl (yb ye rfl (yc .here rfl)) ?_
  refine WD.c (i:=14) (d:=19) (by kernel_rfl) rfl (z2 (by kernel_rfl)) (z3 (by kernel_rfl)) rfl rfl rfl (zF (l:=[.tmp 16,.tmp 18]) Try.call45 (.cons rfl (.cons rfl .nil))) (cc hz .nil fun w pz ho=>y26 _ _ _ _ zs1 w pz ) ?_
  refine WD.new (i:=15) (dd:=20) rfl (by kernel_rfl) rfl rfl rfl (y17 (cs:=([zhN,zhO,zhP] : List Int).flatMap e3) y6x (Eos.parts (l:=[.tmp 9,.tmp 14,.tmp 19]) (.cons rfl (.cons rfl (.cons rfl .nil))) [0,1,2]) (fun _=>by kernel_rfl) rfl (by unfold maxLen; omega)) (fun h'=>absurd h' (by decide)) ?_
  intro zxj _
  refine WD.c (i:=16) (d:=21) (by kernel_rfl) rfl (z2 (by kernel_rfl)) (z3 (by kernel_rfl)) rfl rfl rfl (zF (l:=[.tmp 20]) Try.call44 (.cons rfl .nil)) (ccl hz .nil (.cons .here .nil) fun w pz ho la=>y6y _ _ _ _ _ zs2 w pz (ZA.row (la _ (.head _) _) (RR.y1m (enc:=e3) (fun _=>rfl) _) ⟨w,pz.1⟩)) ?_
  refine WD.a (i:=17) (d:=4) (by kernel_rfl) rfl (z2 (by kernel_rfl)) (z3 (by kernel_rfl)) rfl rfl rfl (fun _=>q_z rfl) ?_
  refine WD.done (by kernel_rfl) ?_
  refine WX.a (WC.ret ?_)
  obtain rfl:=Option.some.inj h
  refine WX.yi Try.results43 (.tmp rfl .nil) (fun w hw=>?_)
  exact ⟨y10 rfl,hw.sub .nil⟩
def yI (z1l : Int) (z2t : Sapi_Come → Sapi_Come → Option Int) (z7n : (List Sapi_Come) → Option (List Sapi_Come)) : Nat → (List Sapi_Come) → Int → Option (List Sapi_Come)
  | 0,_,_=>none
  | zhQ + 1,zg,z9=>(if decide (z9 > z1l) then chk ((0 : Int) ≤ z9 ∧ z9 < ((zg.length : Nat) : Int)) (chk ((0 : Int) ≤ (i64 (z9 - 1)) ∧ (i64 (z9 - 1)) < ((zg.length : Nat) : Int)) ((z2t (⟨((nth zg z9).fSent),((nth zg z9).fNode),((nth zg z9).fTime)⟩ : Sapi_Come) (⟨((nth zg (i64 (z9 - 1))).fSent),((nth zg (i64 (z9 - 1))).fNode),((nth zg (i64 (z9 - 1))).fTime)⟩ : Sapi_Come)).bind fun zhR=>some (decide (zhR < 0)))) else some false).bind fun zhS=>if zhS then chk ((0 : Int) ≤ (i64 (z9 - 1)) ∧ (i64 (z9 - 1)) < ((zg.length : Nat) : Int)) (chk ((0 : Int) ≤ z9 ∧ z9 < ((zg.length : Nat) : Int)) (chk ((0 : Int) ≤ (i64 (z9 - 1)) ∧ (i64 (z9 - 1)) < (((zg.set (z9 : Int).toNat (⟨((nth zg (i64 (z9 - 1))).fSent),((nth zg (i64 (z9 - 1))).fNode),((nth zg (i64 (z9 - 1))).fTime)⟩ : Sapi_Come)).length : Nat) : Int)) (yI z1l z2t z7n zhQ ((zg.set (z9 : Int).toNat (⟨((nth zg (i64 (z9 - 1))).fSent),((nth zg (i64 (z9 - 1))).fNode),((nth zg (i64 (z9 - 1))).fTime)⟩ : Sapi_Come)).set ((i64 (z9 - 1)) : Int).toNat (⟨((nth zg z9).fSent),((nth zg z9).fNode),((nth zg z9).fTime)⟩ : Sapi_Come)) (i64 (z9 - 1))))) else z7n zg
theorem y3c {n : Nat} {z1l : Int} {z2t : Sapi_Come → Sapi_Come → Option Int} {z7n : (List Sapi_Come) → Option (List Sapi_Come)} {zg : List Sapi_Come} {z9 : Int} {r : List Sapi_Come} (h : yI z1l z2t z7n n zg z9 = some r) : ∃ m,n = m + 1:=by
  cases n with
  | zero=>cases h
  | succ m=>exact ⟨m,rfl⟩
def yv (z2I : Int) (z1l : Int) (z2t : Sapi_Come → Sapi_Come → Option Int) (z7o : (List Sapi_Come) → Option (List Sapi_Come)) : Nat → (List Sapi_Come) → Int → Option (List Sapi_Come)
  | 0,_,_=>none
  | zhT + 1,z2U,z2u=>if decide (z2u < z2I) then jp1 (fun (z4y : List Sapi_Come)=>yv z2I z1l z2t z7o zhT z4y (i64 (z2u + 1))) fun zhU=>jp1 (fun (z4z : List Sapi_Come)=>zhU z4z) fun z7n=>yI z1l z2t z7n yA z2U z2u else z7o z2U
theorem y3d {n : Nat} {z2I : Int} {z1l : Int} {z2t : Sapi_Come → Sapi_Come → Option Int} {z7o : (List Sapi_Come) → Option (List Sapi_Come)} {z2U : List Sapi_Come} {z2u : Int} {r : List Sapi_Come} (h : yv z2I z1l z2t z7o n z2U z2u = some r) : ∃ m,n = m + 1:=by
  cases n with
  | zero=>cases h
  | succ m=>exact ⟨m,rfl⟩
def yP (z1E : List Sapi_Come) (z1l : Int) (z2I : Int) (z2t : Sapi_Come → Sapi_Come → Option Int) : Option (List Sapi_Come) :=
  jp1 (fun (z6l : List Sapi_Come)=>some z6l) fun z7o=>yv z2I z1l z2t z7o yA z1E (i64 (z1l + 1))
set_option maxRecDepth 20000 in
theorem y2y (Z : Zp) (z2k : Option Addr) (z1C : Nat) (z3t : FuncId) (z4A : List Value) (z1E : List Sapi_Come) (z1l : Int) (z2I : Int) (z2t : Sapi_Come → Sapi_Come → Option Int) (r : List Sapi_Come)
     (h : yP z1E z1l z2I z2t = some r) (w₀ : World) (hz : PZ (fps [row (.slice z2k z1E.length z1C) 50 3 (z1E.flatMap e50)]) w₀ Z)
     (zs3 : ∀ args w,(callFunc z3t args).run Try.prog w = .ok (.enter z3t args) w)
     (zs4 : ∀ w : World,PZ [] w Z → ∀ (x0 : Sapi_Come) (x1 : Sapi_Come) (r : Int),z2t x0 x1 = some r → Calls Try.prog z3t (([(.agg #[(.int .i64 x0.fSent),(.int .i64 x0.fNode),(.int .i64 x0.fTime)]),(.agg #[(.int .i64 x1.fSent),(.int .i64 x1.fNode),(.int .i64 x1.fTime)])] : List Value) ++ z4A).toArray w fun e w'=>e = .returned (.int .i64 r) ∧ Hp [] w w' [])
    (hown : Hp (fps [row (.slice z2k z1E.length z1C) 50 3 (z1E.flatMap e50)]) w₀ w₀ [row (.slice z2k z1E.length z1C) 50 3 (z1E.flatMap e50)]) :
    Calls Try.prog 66 #[(.slice z2k z1E.length z1C),(.int .i64 z1l),(.int .i64 z2I),(.func (.func z3t) #[] (z4A).toArray)] w₀ fun e w'=>e = .returned (.tuple #[]) ∧ (r.length = z1E.length) ∧ Hp (fps [row (.slice z2k z1E.length z1C) 50 3 (z1E.flatMap e50)]) w₀ w' [row (.slice z2k r.length z1C) 50 3 (r.flatMap e50)]:=by
  unfold yP at h
  refine Calls.yl (vs:=[(.slice z2k z1E.length z1C),(.int .i64 z1l),(.int .i64 z2I),(.func (.func z3t) #[] (z4A).toArray)]) (pre:=[row (.slice z2k z1E.length z1C) 50 3 (z1E.flatMap e50)]) (env:=[(0,(.slice z2k z1E.length z1C)),(1,(.int .i64 z1l)),(2,(.int .i64 z2I)),(3,(.func (.func z3t) #[] (z4A).toArray))]) Try.func66 rfl Try.ntmps66 rfl (hown) rfl ?_
  refine WC.b (WC.a (WL.pu rfl (WL.pu rfl (WL.pu rfl (WL.nil (WX.a ?_))))))
  obtain ⟨z7o,zs5,h⟩:=y1d h
  refine WC.y4V (fun (z6l : List Sapi_Come)=>(z7o z6l = some r) ∧ (z6l.length = z1E.length)) (fun (z6l : List Sapi_Come)=>[]) (fun (z6l : List Sapi_Come)=>[row (.slice z2k z6l.length z1C) 50 3 (z6l.flatMap e50)]) ?_ ?_
  · skip
    refine WC.block ?_
    refine WC.y2q (fun (zaO : Nat) (z2U : List Sapi_Come) (z2u : Int)=>(yv z2I z1l z2t z7o zaO z2U z2u = some r) ∧ (z2U.length = z1E.length)) (fun (zaO : Nat) (z2U : List Sapi_Come) (z2u : Int)=>[(0,(.slice z2k z2U.length z1C)),(1,(.int .i64 z1l)),(2,(.int .i64 z2I)),(3,(.func (.func z3t) #[] (z4A).toArray)),(8,(.int .i64 z2u))]) (fun (zaO : Nat) (z2U : List Sapi_Come) (z2u : Int)=>[row (.slice z2k z2U.length z1C) 50 3 (z2U.flatMap e50)]) (fun (zaO : Nat) (z2U : List Sapi_Come) (z2u : Int)=>zaO) ⟨yA,z1E,(i64 (z1l + 1))⟩ ⟨h,rfl⟩ (.cons rfl (.cons rfl (.cons rfl (.cons rfl (.cons rfl .nil))))) (.cons .here .nil) ?_
    rintro zaO z2U z2u ⟨h,zmL⟩
    obtain ⟨zhT,rfl⟩:=y3d h
    rw [yv] at h
    refine WC.b (WC.b (WC.a (WL.pu rfl (WL.pu rfl (WL.pu rfl (WL.nil (WX.a ?_)))))))
    refine WC.cond rfl (fun zhV=>?_) (fun zhV=>?_)
    · replace h:=ym h zhV
      refine WC.skip (WX.a ?_)
      obtain ⟨zhU,zs6,h⟩:=y1d h
      refine WC.y1L (fun (z4y : List Sapi_Come)=>(zhU z4y = some r) ∧ (z4y.length = z1E.length)) (fun (z4y : List Sapi_Come)=>[(0,(.slice z2k z4y.length z1C)),(1,(.int .i64 z1l)),(2,(.int .i64 z2I)),(3,(.func (.func z3t) #[] (z4A).toArray)),(8,(.int .i64 z2u))]) (fun (z4y : List Sapi_Come)=>[row (.slice z2k z4y.length z1C) 50 3 (z4y.flatMap e50)]) ?_ ?_
      · skip
        refine WC.block (WC.b (WC.a (WL.pu rfl (WL.pu rfl (WL.nil (WX.a ?_))))))
        obtain ⟨z7n,zs7,h⟩:=y1d h
        refine WC.y4V (fun (z4z : List Sapi_Come)=>(z7n z4z = some r) ∧ (z4z.length = z1E.length)) (fun (z4z : List Sapi_Come)=>[(0,(.slice z2k z4z.length z1C)),(1,(.int .i64 z1l)),(2,(.int .i64 z2I)),(3,(.func (.func z3t) #[] (z4A).toArray)),(8,(.int .i64 z2u))]) (fun (z4z : List Sapi_Come)=>[row (.slice z2k z4z.length z1C) 50 3 (z4z.flatMap e50)]) ?_ ?_
        · skip
          refine WC.block ?_
          refine WC.y2q (fun (zaP : Nat) (zg : List Sapi_Come) (z9 : Int)=>(yI z1l z2t z7n zaP zg z9 = some r) ∧ (zg.length = z1E.length)) (fun (zaP : Nat) (zg : List Sapi_Come) (z9 : Int)=>[(0,(.slice z2k zg.length z1C)),(1,(.int .i64 z1l)),(2,(.int .i64 z2I)),(3,(.func (.func z3t) #[] (z4A).toArray)),(8,(.int .i64 z2u)),(9,(.int .i64 z9))]) (fun (zaP : Nat) (zg : List Sapi_Come) (z9 : Int)=>[row (.slice z2k zg.length z1C) 50 3 (zg.flatMap e50)]) (fun (zaP : Nat) (zg : List Sapi_Come) (z9 : Int)=>zaP) ⟨yA,z2U,z2u⟩ ⟨h,zmL⟩ (.cons rfl (.cons rfl (.cons rfl (.cons rfl (.cons rfl (.cons rfl .nil)))))) (.cons .here .nil) ?_
          rintro zaP zg z9 ⟨h,zmM⟩
          obtain ⟨zhQ,rfl⟩:=y3c h
          rw [yI] at h
          refine WC.b (WC.b ?_)
          obtain ⟨zhS,zmN,h⟩:=zp h
          refine WC.yV (fun i=>[].contains i) [] rfl ?_
          refine WD.a (i:=0) (d:=18) (by kernel_rfl) rfl (z2 (by kernel_rfl)) (z3 (by kernel_rfl)) rfl rfl rfl (fun _=>q_m rfl) ?_
          refine WD.a (i:=1) (d:=19) (by kernel_rfl) rfl (z2 (by kernel_rfl)) (z3 (by kernel_rfl)) rfl rfl rfl (fun _=>q_m rfl) ?_
          refine WD.a (i:=2) (d:=20) (by kernel_rfl) rfl (z2 (by kernel_rfl)) (z3 (by kernel_rfl)) rfl rfl rfl (fun _=>y3a rfl rfl) ?_
          refine WD.a (i:=3) (d:=21) (by kernel_rfl) rfl (z2 (by kernel_rfl)) (z3 (by kernel_rfl)) rfl rfl rfl (fun _=>q_m rfl) ?_
          refine WD.mid (fuel':=0) [(0,(.slice z2k zg.length z1C)),(1,(.int .i64 z1l)),(2,(.int .i64 z2I)),(3,(.func (.func z3t) #[] (z4A).toArray)),(8,(.int .i64 z2u)),(9,(.int .i64 z9)),(18,(.int .i64 z9)),(19,(.int .i64 z1l)),(20,(.bool (decide (z9 > z1l)))),(21,(.bool (decide (z9 > z1l)))),(34,(.bool zhS))] (y1i 17 [16,15,14,13,12,11,10,9,8,7,6,5,4,3,2,1,0]) ?_ (fun zmO=>?_)
          rotate_left
          · rcases Bool.eq_false_or_eq_true (decide (z9 > z1l)) with hb' | hb'
            · have zhW:=hb'; clear hb'
              have z7p:=ym zmN zhW
              obtain ⟨zdf,z7p⟩:=yj z7p
              obtain ⟨zeO,z7p⟩:=yj z7p
              obtain ⟨zhR,zs8,z7p⟩:=zp z7p
              replace z7p:=Option.some.inj z7p
              refine WD.pin (i:=21) rfl zhW ?_
              refine WD.a (i:=4) (d:=22) (by kernel_rfl) rfl (z2 (by kernel_rfl)) (z3 (by kernel_rfl)) rfl rfl rfl (fun _=>q_m rfl) ?_
              refine WD.a (i:=5) (d:=23) (by kernel_rfl) rfl (z2 (by kernel_rfl)) (z3 (by kernel_rfl)) rfl rfl rfl (fun _=>q_m rfl) ?_
              refine WD.a (i:=6) (d:=24) (by kernel_rfl) rfl (z2 (by kernel_rfl)) (z3 (by kernel_rfl)) rfl rfl rfl (fun _=>q_m rfl) ?_
              refine WD.know (fun w hw=>Hp.y2w .here hw (by intro hz'; have:=zdf; rw [hz'] at this; omega)) ?_
              rintro ⟨zxk,rfl⟩
              refine WD.a (i:=7) (d:=25) (by kernel_rfl) rfl (z2 (by kernel_rfl)) (z3 (by kernel_rfl)) rfl rfl rfl (fun _=>yq y15 rfl rfl zdf.1 zdf.2 y18) ?_
              refine WD.e (i:=8) (d:=26) (by kernel_rfl) rfl (z2 (by kernel_rfl)) (z3 (by kernel_rfl)) rfl rfl rfl (y1C (cs:=(e50 (nth zg z9))) y20 rfl rfl (y1P .here (y1y (enc:=e50) (l:=zg) (i:=z9) (sz:=3) (fun _=>rfl) zdf.1 zdf.2))) ?_
              refine WD.a (i:=9) (d:=27) (by kernel_rfl) rfl (z2 (by kernel_rfl)) (z3 (by kernel_rfl)) rfl rfl rfl (fun _=>q_m rfl) ?_
              refine WD.a (i:=10) (d:=28) (by kernel_rfl) rfl (z2 (by kernel_rfl)) (z3 (by kernel_rfl)) rfl rfl rfl (fun _=>q_m rfl) ?_
              refine WD.a (i:=11) (d:=29) (by kernel_rfl) rfl (z2 (by kernel_rfl)) (z3 (by kernel_rfl)) rfl rfl rfl (fun _=>y45 rfl rfl rfl) ?_
              refine WD.a (i:=12) (d:=30) (by kernel_rfl) rfl (z2 (by kernel_rfl)) (z3 (by kernel_rfl)) rfl rfl rfl (fun _=>yq y15 rfl rfl zeO.1 zeO.2 y18) ?_
              refine WD.e (i:=13) (d:=31) (by kernel_rfl) rfl (z2 (by kernel_rfl)) (z3 (by kernel_rfl)) rfl rfl rfl (y1C (cs:=(e50 (nth zg (i64 (z9 - 1))))) y20 rfl rfl (y1P .here (y1y (enc:=e50) (l:=zg) (i:=i64 (z9 - 1)) (sz:=3) (fun _=>rfl) zeO.1 zeO.2))) ?_
              refine WD.c (i:=14) (d:=32) (by kernel_rfl) rfl (z2 (by kernel_rfl)) (z3 (by kernel_rfl)) rfl rfl rfl (y3D (l:=[.tmp 26,.tmp 31]) (f:=z3t) (caps:=z4A) zs3 rfl (.cons rfl (.cons rfl .nil))) (fun w hw=>zs4 w (hz.now hw) (⟨((nth zg z9).fSent),((nth zg z9).fNode),((nth zg z9).fTime)⟩ : Sapi_Come) (⟨((nth zg (i64 (z9 - 1))).fSent),((nth zg (i64 (z9 - 1))).fNode),((nth zg (i64 (z9 - 1))).fTime)⟩ : Sapi_Come) zhR  zs8) ?_
              refine WD.a (i:=15) (d:=33) (by kernel_rfl) rfl (z2 (by kernel_rfl)) (z3 (by kernel_rfl)) rfl rfl rfl (fun _=>y3h rfl rfl) ?_
              refine WD.a (i:=16) (d:=34) (by kernel_rfl) rfl (z2 (by kernel_rfl)) (z3 (by kernel_rfl)) rfl rfl rfl (fun _=>y1b rfl rfl) ?_
              refine WD.yE (.cons .here .nil) ?_ zmO
              exact (.cons rfl (.cons rfl (.cons rfl (.cons rfl (.cons rfl (.cons rfl (.cons rfl (.cons rfl (.cons rfl (.cons (zh (Eq.symm zhW)) (.cons (zh z7p) .nil)))))))))))
            · have zhX:=hb'; clear hb'
              have zhY:=yn zmN zhX
              replace zhY:=Option.some.inj zhY
              refine WD.pin (i:=21) rfl zhX ?_
              refine WD.b (i:=4) (d:=22) (by kernel_rfl) rfl (z2 (by kernel_rfl)) (z3 (by kernel_rfl)) rfl rfl rfl ?_
              refine WD.b (i:=5) (d:=23) (by kernel_rfl) rfl (z2 (by kernel_rfl)) (z3 (by kernel_rfl)) rfl rfl rfl ?_
              refine WD.b (i:=6) (d:=24) (by kernel_rfl) rfl (z2 (by kernel_rfl)) (z3 (by kernel_rfl)) rfl rfl rfl ?_
              refine WD.b (i:=7) (d:=25) (by kernel_rfl) rfl (z2 (by kernel_rfl)) (z3 (by kernel_rfl)) rfl rfl rfl ?_
              refine WD.b (i:=8) (d:=26) (by kernel_rfl) rfl (z2 (by kernel_rfl)) (z3 (by kernel_rfl)) rfl rfl rfl ?_
              refine WD.b (i:=9) (d:=27) (by kernel_rfl) rfl (z2 (by kernel_rfl)) (z3 (by kernel_rfl)) rfl rfl rfl ?_
              refine WD.b (i:=10) (d:=28) (by kernel_rfl) rfl (z2 (by kernel_rfl)) (z3 (by kernel_rfl)) rfl rfl rfl ?_
              refine WD.b (i:=11) (d:=29) (by kernel_rfl) rfl (z2 (by kernel_rfl)) (z3 (by kernel_rfl)) rfl rfl rfl ?_
              refine WD.b (i:=12) (d:=30) (by kernel_rfl) rfl (z2 (by kernel_rfl)) (z3 (by kernel_rfl)) rfl rfl rfl ?_
              refine WD.b (i:=13) (d:=31) (by kernel_rfl) rfl (z2 (by kernel_rfl)) (z3 (by kernel_rfl)) rfl rfl rfl ?_
              refine WD.b (i:=14) (d:=32) (by kernel_rfl) rfl (z2 (by kernel_rfl)) (z3 (by kernel_rfl)) rfl rfl rfl ?_
              refine WD.b (i:=15) (d:=33) (by kernel_rfl) rfl (z2 (by kernel_rfl)) (z3 (by kernel_rfl)) rfl rfl rfl ?_
              refine WD.a (i:=16) (d:=34) (by kernel_rfl) rfl (z2 (by kernel_rfl)) (z3 (by kernel_rfl)) rfl rfl rfl (fun _=>y1c rfl rfl) ?_
              refine WD.yE (.cons .here .nil) ?_ zmO
              exact (.cons rfl (.cons rfl (.cons rfl (.cons rfl (.cons rfl (.cons rfl (.cons rfl (.cons rfl (.cons rfl (.cons (zh (Eq.symm zhX)) (.cons (zh zhY) .nil)))))))))))
          refine WD.done (by kernel_rfl) ?_
          refine WX.a ?_
          refine WC.cond rfl (fun zhZ=>?_) (fun zhZ=>?_)
          · replace h:=ym h zhZ
            refine WC.skip (WX.a (WC.b (WC.block ?_)))
            obtain ⟨zdg,h⟩:=yj h
            obtain ⟨z6m,h⟩:=yj h
            obtain ⟨zaQ,h⟩:=yj h
            refine WC.yV (fun i=>[15,17].contains i) [] rfl ?_
            refine WD.a (i:=0) (d:=37) (by kernel_rfl) rfl (z2 (by kernel_rfl)) (z3 (by kernel_rfl)) rfl rfl rfl (fun _=>q_m rfl) ?_
            refine WD.a (i:=1) (d:=38) (by kernel_rfl) rfl (z2 (by kernel_rfl)) (z3 (by kernel_rfl)) rfl rfl rfl (fun _=>q_m rfl) ?_
            refine WD.a (i:=2) (d:=39) (by kernel_rfl) rfl (z2 (by kernel_rfl)) (z3 (by kernel_rfl)) rfl rfl rfl (fun _=>q_m rfl) ?_
            refine WD.a (i:=3) (d:=40) (by kernel_rfl) rfl (z2 (by kernel_rfl)) (z3 (by kernel_rfl)) rfl rfl rfl (fun _=>q_m rfl) ?_
            refine WD.a (i:=4) (d:=41) (by kernel_rfl) rfl (z2 (by kernel_rfl)) (z3 (by kernel_rfl)) rfl rfl rfl (fun _=>y45 rfl rfl rfl) ?_
            refine WD.a (i:=5) (d:=42) (by kernel_rfl) rfl (z2 (by kernel_rfl)) (z3 (by kernel_rfl)) rfl rfl rfl (fun _=>q_m rfl) ?_
            refine WD.a (i:=6) (d:=43) (by kernel_rfl) rfl (z2 (by kernel_rfl)) (z3 (by kernel_rfl)) rfl rfl rfl (fun _=>q_m rfl) ?_
            refine WD.a (i:=7) (d:=44) (by kernel_rfl) rfl (z2 (by kernel_rfl)) (z3 (by kernel_rfl)) rfl rfl rfl (fun _=>y45 rfl rfl rfl) ?_
            refine WD.know (fun w hw=>Hp.y2w .here hw (by intro hz'; have:=zdg; rw [hz'] at this; omega)) ?_
            rintro ⟨zdh,rfl⟩
            refine WD.a (i:=8) (d:=45) (by kernel_rfl) rfl (z2 (by kernel_rfl)) (z3 (by kernel_rfl)) rfl rfl rfl (fun _=>yq y15 rfl rfl zdg.1 zdg.2 y18) ?_
            refine WD.e (i:=9) (d:=46) (by kernel_rfl) rfl (z2 (by kernel_rfl)) (z3 (by kernel_rfl)) rfl rfl rfl (y1C (cs:=(e50 (nth zg (i64 (z9 - 1))))) y20 rfl rfl (y1P .here (y1y (enc:=e50) (l:=zg) (i:=i64 (z9 - 1)) (sz:=3) (fun _=>rfl) zdg.1 zdg.2))) ?_
            refine WD.a (i:=10) (d:=47) (by kernel_rfl) rfl (z2 (by kernel_rfl)) (z3 (by kernel_rfl)) rfl rfl rfl (fun _=>q_m rfl) ?_
            refine WD.a (i:=11) (d:=48) (by kernel_rfl) rfl (z2 (by kernel_rfl)) (z3 (by kernel_rfl)) rfl rfl rfl (fun _=>q_m rfl) ?_
            refine WD.a (i:=12) (d:=49) (by kernel_rfl) rfl (z2 (by kernel_rfl)) (z3 (by kernel_rfl)) rfl rfl rfl (fun _=>yq y15 rfl rfl z6m.1 z6m.2 y18) ?_
            refine WD.e (i:=13) (d:=50) (by kernel_rfl) rfl (z2 (by kernel_rfl)) (z3 (by kernel_rfl)) rfl rfl rfl (y1C (cs:=(e50 (nth zg z9))) y20 rfl rfl (y1P .here (y1y (enc:=e50) (l:=zg) (i:=z9) (sz:=3) (fun _=>rfl) z6m.1 z6m.2))) ?_
            refine WD.a (i:=14) (d:=51) (by kernel_rfl) rfl (z2 (by kernel_rfl)) (z3 (by kernel_rfl)) rfl rfl rfl (fun _=>yq y15 rfl rfl z6m.1 z6m.2 y18) ?_
            refine WD.forced0 (i:=15) rfl (by kernel_rfl) rfl rfl rfl (Sin.of .nil) (y2m (vs:=[(.int .i64 ((nth zg (i64 (z9 - 1))).fSent)),(.int .i64 ((nth zg (i64 (z9 - 1))).fNode)),(.int .i64 ((nth zg (i64 (z9 - 1))).fTime))]) (ds:=(zg.set (z9 : Int).toNat (⟨((nth zg (i64 (z9 - 1))).fSent),((nth zg (i64 (z9 - 1))).fNode),((nth zg (i64 (z9 - 1))).fTime)⟩ : Sapi_Come)).flatMap e50) y3R rfl rfl rfl rfl (ocB rfl) .here (y33 (enc:=e50) (sz:=3) (k:=0) (fun _=>rfl) z6m.1 z6m.2 (by decide)) (y31 (enc:=e50) (l:=zg) (sz:=3) (vs:=[(.int .i64 ((nth zg (i64 (z9 - 1))).fSent)),(.int .i64 ((nth zg (i64 (z9 - 1))).fNode)),(.int .i64 ((nth zg (i64 (z9 - 1))).fTime))]) (y:=(⟨((nth zg (i64 (z9 - 1))).fSent),((nth zg (i64 (z9 - 1))).fNode),((nth zg (i64 (z9 - 1))).fTime)⟩ : Sapi_Come)) (k:=0) (fun _=>rfl) z6m.1 z6m.2 rfl (Nat.le_of_ble_eq_true rfl))) ?_
            refine WD.relen .here (u:=(.slice (some ⟨zdh,0,none⟩) ((zg.set (z9 : Int).toNat (⟨((nth zg (i64 (z9 - 1))).fSent),((nth zg (i64 (z9 - 1))).fNode),((nth zg (i64 (z9 - 1))).fTime)⟩ : Sapi_Come)).length) z1C)) (y1E (List.length_set).symm) ?_
            refine WD.repin (i:=0) rfl (u:=(.slice (some ⟨zdh,0,none⟩) ((zg.set (z9 : Int).toNat (⟨((nth zg (i64 (z9 - 1))).fSent),((nth zg (i64 (z9 - 1))).fNode),((nth zg (i64 (z9 - 1))).fTime)⟩ : Sapi_Come)).length) z1C)) (y1E (List.length_set).symm) ?_
            refine WD.repin (i:=39) rfl (u:=(.slice (some ⟨zdh,0,none⟩) ((zg.set (z9 : Int).toNat (⟨((nth zg (i64 (z9 - 1))).fSent),((nth zg (i64 (z9 - 1))).fNode),((nth zg (i64 (z9 - 1))).fTime)⟩ : Sapi_Come)).length) z1C)) (y1E (List.length_set).symm) ?_
            refine WD.a (i:=16) (d:=52) (by kernel_rfl) rfl (z2 (by kernel_rfl)) (z3 (by kernel_rfl)) rfl rfl rfl (fun _=>yq y15 rfl rfl zaQ.1 zaQ.2 y18) ?_
            refine WD.y30 (i:=17) rfl (by kernel_rfl) rfl rfl rfl (by kernel_rfl) (y2m (vs:=[(.int .i64 ((nth zg z9).fSent)),(.int .i64 ((nth zg z9).fNode)),(.int .i64 ((nth zg z9).fTime))]) (ds:=((zg.set (z9 : Int).toNat (⟨((nth zg (i64 (z9 - 1))).fSent),((nth zg (i64 (z9 - 1))).fNode),((nth zg (i64 (z9 - 1))).fTime)⟩ : Sapi_Come)).set ((i64 (z9 - 1)) : Int).toNat (⟨((nth zg z9).fSent),((nth zg z9).fNode),((nth zg z9).fTime)⟩ : Sapi_Come)).flatMap e50) y3R rfl rfl rfl rfl (ocB rfl) .here (y33 (enc:=e50) (sz:=3) (k:=0) (fun _=>rfl) zaQ.1 zaQ.2 (by decide)) (y31 (enc:=e50) (l:=zg.set (z9 : Int).toNat (⟨((nth zg (i64 (z9 - 1))).fSent),((nth zg (i64 (z9 - 1))).fNode),((nth zg (i64 (z9 - 1))).fTime)⟩ : Sapi_Come)) (sz:=3) (vs:=[(.int .i64 ((nth zg z9).fSent)),(.int .i64 ((nth zg z9).fNode)),(.int .i64 ((nth zg z9).fTime))]) (y:=(⟨((nth zg z9).fSent),((nth zg z9).fNode),((nth zg z9).fTime)⟩ : Sapi_Come)) (k:=0) (fun _=>rfl) zaQ.1 zaQ.2 rfl (Nat.le_of_ble_eq_true rfl))) ?_
            refine WD.relen .here (u:=(.slice (some ⟨zdh,0,none⟩) (((zg.set (z9 : Int).toNat (⟨((nth zg (i64 (z9 - 1))).fSent),((nth zg (i64 (z9 - 1))).fNode),((nth zg (i64 (z9 - 1))).fTime)⟩ : Sapi_Come)).set ((i64 (z9 - 1)) : Int).toNat (⟨((nth zg z9).fSent),((nth zg z9).fNode),((nth zg z9).fTime)⟩ : Sapi_Come)).length) z1C)) (y1E (List.length_set).symm) ?_
            refine WD.repin (i:=0) rfl (u:=(.slice (some ⟨zdh,0,none⟩) (((zg.set (z9 : Int).toNat (⟨((nth zg (i64 (z9 - 1))).fSent),((nth zg (i64 (z9 - 1))).fNode),((nth zg (i64 (z9 - 1))).fTime)⟩ : Sapi_Come)).set ((i64 (z9 - 1)) : Int).toNat (⟨((nth zg z9).fSent),((nth zg z9).fNode),((nth zg z9).fTime)⟩ : Sapi_Come)).length) z1C)) (y1E (List.length_set).symm) ?_
            refine WD.done (by kernel_rfl) ?_
            refine WX.yh (WX.a (WC.a (WL.pu rfl (WL.pu rfl (WL.pu rfl (WL.nil ?_))))))
            exact WX.round (G:=Nat × List Sapi_Come × Int) ⟨zhQ,((zg.set (z9 : Int).toNat (⟨((nth zg (i64 (z9 - 1))).fSent),((nth zg (i64 (z9 - 1))).fNode),((nth zg (i64 (z9 - 1))).fTime)⟩ : Sapi_Come)).set ((i64 (z9 - 1)) : Int).toNat (⟨((nth zg z9).fSent),((nth zg z9).fNode),((nth zg z9).fTime)⟩ : Sapi_Come)),(i64 (z9 - 1))⟩ ⟨h,((List.length_set).trans ((List.length_set).trans zmM))⟩ (Nat.lt_succ_self _) (.cons rfl (.cons rfl (.cons rfl (.cons rfl (.cons rfl (.cons rfl .nil)))))) (.cons .here .nil)
          · replace h:=yn h zhZ
            refine WC.exit (WX.yf (WX.yf (WX.yB ?_)))
            exact WX.mid (G:=List Sapi_Come) zg ⟨h,zmM⟩ (.cons rfl (.cons rfl (.cons rfl (.cons rfl (.cons rfl .nil))))) (.cons .here .nil)
        · rintro z4z ⟨h,zs9⟩
          replace h:=(zs7 z4z).symm.trans h
          refine WX.yh ?_
          exact WX.mid (G:=List Sapi_Come) z4z ⟨h,zs9⟩ (.cons rfl (.cons rfl (.cons rfl (.cons rfl (.cons rfl .nil))))) (.cons .here .nil)
      · rintro z4y ⟨h,zsa⟩
        replace h:=(zs6 z4y).symm.trans h
        refine WC.a (WL.pu rfl (WL.pu rfl (WL.pu rfl (WL.nil ?_))))
        exact WX.round (G:=Nat × List Sapi_Come × Int) ⟨zhT,z4y,(i64 (z2u + 1))⟩ ⟨h,zsa⟩ (Nat.lt_succ_self _) (.cons rfl (.cons rfl (.cons rfl (.cons rfl (.cons rfl .nil))))) (.cons .here .nil)
    · replace h:=yn h zhV
      refine WC.exit (WX.yf (WX.yf (WX.yB ?_)))
      exact WX.mid (G:=List Sapi_Come) z2U ⟨h,zmL⟩ .nil (.cons .here .nil)
  · rintro z6l ⟨h,zsb⟩
    replace h:=(zs5 z6l).symm.trans h
    obtain rfl:=Option.some.inj h
    refine WX.y1Q Try.results66 .nil (fun w hw=>?_)
    exact ⟨y49,zsb,hw.sub (.cons .here .nil)⟩
def yF (z3H : Int) (zH : Int) (zQ : Int) (z7q : (List Sapi_Come) → Option (List Sapi_Come)) : Nat → (List Sapi_Come) → Int → Option (List Sapi_Come)
  | 0,_,_=>none
  | zi0 + 1,zr,zk=>if decide (zk < z3H) then chk ((0 : Int) ≤ (i64 (zH + zk)) ∧ (i64 (zH + zk)) < ((zr.length : Nat) : Int)) (chk ((0 : Int) ≤ (i64 (zQ + zk)) ∧ (i64 (zQ + zk)) < ((zr.length : Nat) : Int)) (chk ((0 : Int) ≤ (i64 (zH + zk)) ∧ (i64 (zH + zk)) < (((zr.set ((i64 (zQ + zk)) : Int).toNat (⟨((nth zr (i64 (zH + zk))).fSent),((nth zr (i64 (zH + zk))).fNode),((nth zr (i64 (zH + zk))).fTime)⟩ : Sapi_Come)).length : Nat) : Int)) (yF z3H zH zQ z7q zi0 ((zr.set ((i64 (zQ + zk)) : Int).toNat (⟨((nth zr (i64 (zH + zk))).fSent),((nth zr (i64 (zH + zk))).fNode),((nth zr (i64 (zH + zk))).fTime)⟩ : Sapi_Come)).set ((i64 (zH + zk)) : Int).toNat (⟨((nth zr (i64 (zQ + zk))).fSent),((nth zr (i64 (zQ + zk))).fNode),((nth zr (i64 (zQ + zk))).fTime)⟩ : Sapi_Come)) (i64 (zk + 1))))) else z7q zr
theorem y3u {n : Nat} {z3H : Int} {zH : Int} {zQ : Int} {z7q : (List Sapi_Come) → Option (List Sapi_Come)} {zr : List Sapi_Come} {zk : Int} {r : List Sapi_Come} (h : yF z3H zH zQ z7q n zr zk = some r) : ∃ m,n = m + 1:=by
  cases n with
  | zero=>cases h
  | succ m=>exact ⟨m,rfl⟩
def yW (z24 : List Sapi_Come) (zQ : Int) (zH : Int) (z3H : Int) (zaR : Sapi_Come → Sapi_Come → Option Int) : Option (List Sapi_Come) :=
  jp1 (fun (z6n : List Sapi_Come)=>some z6n) fun z7q=>yF z3H zH zQ z7q yA z24 0
set_option maxRecDepth 20000 in
theorem y27 (Z : Zp) (z4B : Option Addr) (z2J : Nat) (z7r : FuncId) (z9m : List Value) (z24 : List Sapi_Come) (zQ : Int) (zH : Int) (z3H : Int) (zaR : Sapi_Come → Sapi_Come → Option Int) (r : List Sapi_Come)
     (h : yW z24 zQ zH z3H zaR = some r) (w₀ : World) (hz : PZ (fps [row (.slice z4B z24.length z2J) 50 3 (z24.flatMap e50)]) w₀ Z)
     (zxl : ∀ args w,(callFunc z7r args).run Try.prog w = .ok (.enter z7r args) w)
     (zxm : ∀ w : World,PZ [] w Z → ∀ (x0 : Sapi_Come) (x1 : Sapi_Come) (r : Int),zaR x0 x1 = some r → Calls Try.prog z7r (([(.agg #[(.int .i64 x0.fSent),(.int .i64 x0.fNode),(.int .i64 x0.fTime)]),(.agg #[(.int .i64 x1.fSent),(.int .i64 x1.fNode),(.int .i64 x1.fTime)])] : List Value) ++ z9m).toArray w fun e w'=>e = .returned (.int .i64 r) ∧ Hp [] w w' [])
    (hown : Hp (fps [row (.slice z4B z24.length z2J) 50 3 (z24.flatMap e50)]) w₀ w₀ [row (.slice z4B z24.length z2J) 50 3 (z24.flatMap e50)]) :
    Calls Try.prog 69 #[(.slice z4B z24.length z2J),(.int .i64 zQ),(.int .i64 zH),(.int .i64 z3H),(.func (.func z7r) #[] (z9m).toArray)] w₀ fun e w'=>e = .returned (.tuple #[]) ∧ (r.length = z24.length) ∧ Hp (fps [row (.slice z4B z24.length z2J) 50 3 (z24.flatMap e50)]) w₀ w' [row (.slice z4B r.length z2J) 50 3 (r.flatMap e50)]:=by
  unfold yW at h
  refine Calls.yl (vs:=[(.slice z4B z24.length z2J),(.int .i64 zQ),(.int .i64 zH),(.int .i64 z3H),(.func (.func z7r) #[] (z9m).toArray)]) (pre:=[row (.slice z4B z24.length z2J) 50 3 (z24.flatMap e50)]) (env:=[(0,(.slice z4B z24.length z2J)),(1,(.int .i64 zQ)),(2,(.int .i64 zH)),(3,(.int .i64 z3H)),(4,(.func (.func z7r) #[] (z9m).toArray))]) Try.func69 rfl Try.ntmps69 rfl (hown) rfl ?_
  refine WC.b (WC.a (WL.pu rfl (WL.nil (WX.a ?_))))
  obtain ⟨z7q,zsc,h⟩:=y1d h
  refine WC.y4V (fun (z6n : List Sapi_Come)=>(z7q z6n = some r) ∧ (z6n.length = z24.length)) (fun (z6n : List Sapi_Come)=>[]) (fun (z6n : List Sapi_Come)=>[row (.slice z4B z6n.length z2J) 50 3 (z6n.flatMap e50)]) ?_ ?_
  · skip
    refine WC.block ?_
    refine WC.y2q (fun (zaS : Nat) (zr : List Sapi_Come) (zk : Int)=>(yF z3H zH zQ z7q zaS zr zk = some r) ∧ (zr.length = z24.length)) (fun (zaS : Nat) (zr : List Sapi_Come) (zk : Int)=>[(0,(.slice z4B zr.length z2J)),(1,(.int .i64 zQ)),(2,(.int .i64 zH)),(3,(.int .i64 z3H)),(10,(.int .i64 zk))]) (fun (zaS : Nat) (zr : List Sapi_Come) (zk : Int)=>[row (.slice z4B zr.length z2J) 50 3 (zr.flatMap e50)]) (fun (zaS : Nat) (zr : List Sapi_Come) (zk : Int)=>zaS) ⟨yA,z24,0⟩ ⟨h,rfl⟩ (.cons rfl (.cons rfl (.cons rfl (.cons rfl (.cons rfl .nil))))) (.cons .here .nil) ?_
    rintro zaS zr zk ⟨h,zmP⟩
    obtain ⟨zi0,rfl⟩:=y3u h
    rw [yF] at h
    refine WC.b (WC.b (WC.a (WL.pu rfl (WL.pu rfl (WL.pu rfl (WL.nil (WX.a ?_)))))))
    refine WC.cond rfl (fun zi1=>?_) (fun zi1=>?_)
    · replace h:=ym h zi1
      refine WC.skip (WX.a (WC.b (WC.block ?_)))
      obtain ⟨zdi,h⟩:=yj h
      obtain ⟨z6o,h⟩:=yj h
      obtain ⟨zaT,h⟩:=yj h
      refine WC.yV (fun i=>[21,23].contains i) [] rfl ?_
      refine WD.a (i:=0) (d:=16) (by kernel_rfl) rfl (z2 (by kernel_rfl)) (z3 (by kernel_rfl)) rfl rfl rfl (fun _=>q_m rfl) ?_
      refine WD.a (i:=1) (d:=17) (by kernel_rfl) rfl (z2 (by kernel_rfl)) (z3 (by kernel_rfl)) rfl rfl rfl (fun _=>q_m rfl) ?_
      refine WD.a (i:=2) (d:=18) (by kernel_rfl) rfl (z2 (by kernel_rfl)) (z3 (by kernel_rfl)) rfl rfl rfl (fun _=>q_m rfl) ?_
      refine WD.a (i:=3) (d:=19) (by kernel_rfl) rfl (z2 (by kernel_rfl)) (z3 (by kernel_rfl)) rfl rfl rfl (fun _=>y4l rfl rfl rfl) ?_
      refine WD.a (i:=4) (d:=20) (by kernel_rfl) rfl (z2 (by kernel_rfl)) (z3 (by kernel_rfl)) rfl rfl rfl (fun _=>q_m rfl) ?_
      refine WD.a (i:=5) (d:=21) (by kernel_rfl) rfl (z2 (by kernel_rfl)) (z3 (by kernel_rfl)) rfl rfl rfl (fun _=>q_m rfl) ?_
      refine WD.a (i:=6) (d:=22) (by kernel_rfl) rfl (z2 (by kernel_rfl)) (z3 (by kernel_rfl)) rfl rfl rfl (fun _=>q_m rfl) ?_
      refine WD.a (i:=7) (d:=23) (by kernel_rfl) rfl (z2 (by kernel_rfl)) (z3 (by kernel_rfl)) rfl rfl rfl (fun _=>y4l rfl rfl rfl) ?_
      refine WD.a (i:=8) (d:=24) (by kernel_rfl) rfl (z2 (by kernel_rfl)) (z3 (by kernel_rfl)) rfl rfl rfl (fun _=>q_m rfl) ?_
      refine WD.a (i:=9) (d:=25) (by kernel_rfl) rfl (z2 (by kernel_rfl)) (z3 (by kernel_rfl)) rfl rfl rfl (fun _=>q_m rfl) ?_
      refine WD.a (i:=10) (d:=26) (by kernel_rfl) rfl (z2 (by kernel_rfl)) (z3 (by kernel_rfl)) rfl rfl rfl (fun _=>q_m rfl) ?_
      refine WD.a (i:=11) (d:=27) (by kernel_rfl) rfl (z2 (by kernel_rfl)) (z3 (by kernel_rfl)) rfl rfl rfl (fun _=>y4l rfl rfl rfl) ?_
      refine WD.know (fun w hw=>Hp.y2w .here hw (by intro hz'; have:=zdi; rw [hz'] at this; omega)) ?_
      rintro ⟨zdj,rfl⟩
      refine WD.a (i:=12) (d:=28) (by kernel_rfl) rfl (z2 (by kernel_rfl)) (z3 (by kernel_rfl)) rfl rfl rfl (fun _=>yq y15 rfl rfl zdi.1 zdi.2 y18) ?_
      refine WD.e (i:=13) (d:=29) (by kernel_rfl) rfl (z2 (by kernel_rfl)) (z3 (by kernel_rfl)) rfl rfl rfl (y1C (cs:=(e50 (nth zr (i64 (zH + zk))))) y20 rfl rfl (y1P .here (y1y (enc:=e50) (l:=zr) (i:=i64 (zH + zk)) (sz:=3) (fun _=>rfl) zdi.1 zdi.2))) ?_
      refine WD.a (i:=14) (d:=30) (by kernel_rfl) rfl (z2 (by kernel_rfl)) (z3 (by kernel_rfl)) rfl rfl rfl (fun _=>q_m rfl) ?_
      refine WD.a (i:=15) (d:=31) (by kernel_rfl) rfl (z2 (by kernel_rfl)) (z3 (by kernel_rfl)) rfl rfl rfl (fun _=>q_m rfl) ?_
      refine WD.a (i:=16) (d:=32) (by kernel_rfl) rfl (z2 (by kernel_rfl)) (z3 (by kernel_rfl)) rfl rfl rfl (fun _=>q_m rfl) ?_
      refine WD.a (i:=17) (d:=33) (by kernel_rfl) rfl (z2 (by kernel_rfl)) (z3 (by kernel_rfl)) rfl rfl rfl (fun _=>y4l rfl rfl rfl) ?_
      refine WD.a (i:=18) (d:=34) (by kernel_rfl) rfl (z2 (by kernel_rfl)) (z3 (by kernel_rfl)) rfl rfl rfl (fun _=>yq y15 rfl rfl z6o.1 z6o.2 y18) ?_
      refine WD.e (i:=19) (d:=35) (by kernel_rfl) rfl (z2 (by kernel_rfl)) (z3 (by kernel_rfl)) rfl rfl rfl (y1C (cs:=(e50 (nth zr (i64 (zQ + zk))))) y20 rfl rfl (y1P .here (y1y (enc:=e50) (l:=zr) (i:=i64 (zQ + zk)) (sz:=3) (fun _=>rfl) z6o.1 z6o.2))) ?_
      refine WD.a (i:=20) (d:=36) (by kernel_rfl) rfl (z2 (by kernel_rfl)) (z3 (by kernel_rfl)) rfl rfl rfl (fun _=>yq y15 rfl rfl z6o.1 z6o.2 y18) ?_
      refine WD.forced0 (i:=21) rfl (by kernel_rfl) rfl rfl rfl (Sin.of .nil) (y2m (vs:=[(.int .i64 ((nth zr (i64 (zH + zk))).fSent)),(.int .i64 ((nth zr (i64 (zH + zk))).fNode)),(.int .i64 ((nth zr (i64 (zH + zk))).fTime))]) (ds:=(zr.set ((i64 (zQ + zk)) : Int).toNat (⟨((nth zr (i64 (zH + zk))).fSent),((nth zr (i64 (zH + zk))).fNode),((nth zr (i64 (zH + zk))).fTime)⟩ : Sapi_Come)).flatMap e50) y3R rfl rfl rfl rfl (ocB rfl) .here (y33 (enc:=e50) (sz:=3) (k:=0) (fun _=>rfl) z6o.1 z6o.2 (by decide)) (y31 (enc:=e50) (l:=zr) (sz:=3) (vs:=[(.int .i64 ((nth zr (i64 (zH + zk))).fSent)),(.int .i64 ((nth zr (i64 (zH + zk))).fNode)),(.int .i64 ((nth zr (i64 (zH + zk))).fTime))]) (y:=(⟨((nth zr (i64 (zH + zk))).fSent),((nth zr (i64 (zH + zk))).fNode),((nth zr (i64 (zH + zk))).fTime)⟩ : Sapi_Come)) (k:=0) (fun _=>rfl) z6o.1 z6o.2 rfl (Nat.le_of_ble_eq_true rfl))) ?_
      refine WD.relen .here (u:=(.slice (some ⟨zdj,0,none⟩) ((zr.set ((i64 (zQ + zk)) : Int).toNat (⟨((nth zr (i64 (zH + zk))).fSent),((nth zr (i64 (zH + zk))).fNode),((nth zr (i64 (zH + zk))).fTime)⟩ : Sapi_Come)).length) z2J)) (y1E (List.length_set).symm) ?_
      refine WD.repin (i:=0) rfl (u:=(.slice (some ⟨zdj,0,none⟩) ((zr.set ((i64 (zQ + zk)) : Int).toNat (⟨((nth zr (i64 (zH + zk))).fSent),((nth zr (i64 (zH + zk))).fNode),((nth zr (i64 (zH + zk))).fTime)⟩ : Sapi_Come)).length) z2J)) (y1E (List.length_set).symm) ?_
      refine WD.repin (i:=20) rfl (u:=(.slice (some ⟨zdj,0,none⟩) ((zr.set ((i64 (zQ + zk)) : Int).toNat (⟨((nth zr (i64 (zH + zk))).fSent),((nth zr (i64 (zH + zk))).fNode),((nth zr (i64 (zH + zk))).fTime)⟩ : Sapi_Come)).length) z2J)) (y1E (List.length_set).symm) ?_
      refine WD.a (i:=22) (d:=37) (by kernel_rfl) rfl (z2 (by kernel_rfl)) (z3 (by kernel_rfl)) rfl rfl rfl (fun _=>yq y15 rfl rfl zaT.1 zaT.2 y18) ?_
      refine WD.y30 (i:=23) rfl (by kernel_rfl) rfl rfl rfl (by kernel_rfl) (y2m (vs:=[(.int .i64 ((nth zr (i64 (zQ + zk))).fSent)),(.int .i64 ((nth zr (i64 (zQ + zk))).fNode)),(.int .i64 ((nth zr (i64 (zQ + zk))).fTime))]) (ds:=((zr.set ((i64 (zQ + zk)) : Int).toNat (⟨((nth zr (i64 (zH + zk))).fSent),((nth zr (i64 (zH + zk))).fNode),((nth zr (i64 (zH + zk))).fTime)⟩ : Sapi_Come)).set ((i64 (zH + zk)) : Int).toNat (⟨((nth zr (i64 (zQ + zk))).fSent),((nth zr (i64 (zQ + zk))).fNode),((nth zr (i64 (zQ + zk))).fTime)⟩ : Sapi_Come)).flatMap e50) y3R rfl rfl rfl rfl (ocB rfl) .here (y33 (enc:=e50) (sz:=3) (k:=0) (fun _=>rfl) zaT.1 zaT.2 (by decide)) (y31 (enc:=e50) (l:=zr.set ((i64 (zQ + zk)) : Int).toNat (⟨((nth zr (i64 (zH + zk))).fSent),((nth zr (i64 (zH + zk))).fNode),((nth zr (i64 (zH + zk))).fTime)⟩ : Sapi_Come)) (sz:=3) (vs:=[(.int .i64 ((nth zr (i64 (zQ + zk))).fSent)),(.int .i64 ((nth zr (i64 (zQ + zk))).fNode)),(.int .i64 ((nth zr (i64 (zQ + zk))).fTime))]) (y:=(⟨((nth zr (i64 (zQ + zk))).fSent),((nth zr (i64 (zQ + zk))).fNode),((nth zr (i64 (zQ + zk))).fTime)⟩ : Sapi_Come)) (k:=0) (fun _=>rfl) zaT.1 zaT.2 rfl (Nat.le_of_ble_eq_true rfl))) ?_
      refine WD.relen .here (u:=(.slice (some ⟨zdj,0,none⟩) (((zr.set ((i64 (zQ + zk)) : Int).toNat (⟨((nth zr (i64 (zH + zk))).fSent),((nth zr (i64 (zH + zk))).fNode),((nth zr (i64 (zH + zk))).fTime)⟩ : Sapi_Come)).set ((i64 (zH + zk)) : Int).toNat (⟨((nth zr (i64 (zQ + zk))).fSent),((nth zr (i64 (zQ + zk))).fNode),((nth zr (i64 (zQ + zk))).fTime)⟩ : Sapi_Come)).length) z2J)) (y1E (List.length_set).symm) ?_
      refine WD.repin (i:=0) rfl (u:=(.slice (some ⟨zdj,0,none⟩) (((zr.set ((i64 (zQ + zk)) : Int).toNat (⟨((nth zr (i64 (zH + zk))).fSent),((nth zr (i64 (zH + zk))).fNode),((nth zr (i64 (zH + zk))).fTime)⟩ : Sapi_Come)).set ((i64 (zH + zk)) : Int).toNat (⟨((nth zr (i64 (zQ + zk))).fSent),((nth zr (i64 (zQ + zk))).fNode),((nth zr (i64 (zQ + zk))).fTime)⟩ : Sapi_Come)).length) z2J)) (y1E (List.length_set).symm) ?_
      refine WD.done (by kernel_rfl) ?_
      refine WX.yh (WX.a (WC.a (WL.pu rfl (WL.pu rfl (WL.pu rfl (WL.nil ?_))))))
      exact WX.round (G:=Nat × List Sapi_Come × Int) ⟨zi0,((zr.set ((i64 (zQ + zk)) : Int).toNat (⟨((nth zr (i64 (zH + zk))).fSent),((nth zr (i64 (zH + zk))).fNode),((nth zr (i64 (zH + zk))).fTime)⟩ : Sapi_Come)).set ((i64 (zH + zk)) : Int).toNat (⟨((nth zr (i64 (zQ + zk))).fSent),((nth zr (i64 (zQ + zk))).fNode),((nth zr (i64 (zQ + zk))).fTime)⟩ : Sapi_Come)),(i64 (zk + 1))⟩ ⟨h,((List.length_set).trans ((List.length_set).trans zmP))⟩ (Nat.lt_succ_self _) (.cons rfl (.cons rfl (.cons rfl (.cons rfl (.cons rfl .nil))))) (.cons .here .nil)
    · replace h:=yn h zi1
      refine WC.exit (WX.yf (WX.yf (WX.yB ?_)))
      exact WX.mid (G:=List Sapi_Come) zr ⟨h,zmP⟩ .nil (.cons .here .nil)
  · rintro z6n ⟨h,zsd⟩
    replace h:=(zsc z6n).symm.trans h
    obtain rfl:=Option.some.inj h
    refine WX.y1Q Try.results69 .nil (fun w hw=>?_)
    exact ⟨y49,zsd,hw.sub (.cons .here .nil)⟩
def yM (z1D : Int) (z2K : Sapi_Come → Sapi_Come → Option Int) (z6p : (List Sapi_Come) → Int → Option (List Sapi_Come)) : Nat → (List Sapi_Come) → Int → Int → Option (List Sapi_Come)
  | 0,_,_,_=>none
  | zdk + 1,z2V,z1F,z2l=>if decide (z1F ≠ z2l) then if decide (z1F > z2l) then (yW z2V (i64 (z1D - z1F)) z1D z2l z2K).bind fun zeP=>yM z1D z2K z6p zdk zeP (i64 (z1F - z2l)) z2l else (yW z2V (i64 (z1D - z1F)) (i64 ((i64 (z1D + z2l)) - z1F)) z1F z2K).bind fun zeQ=>yM z1D z2K z6p zdk zeQ z1F (i64 (z2l - z1F)) else z6p z2V z1F
theorem y3J {n : Nat} {z1D : Int} {z2K : Sapi_Come → Sapi_Come → Option Int} {z6p : (List Sapi_Come) → Int → Option (List Sapi_Come)} {z2V : List Sapi_Come} {z1F : Int} {z2l : Int} {r : List Sapi_Come} (h : yM z1D z2K z6p n z2V z1F z2l = some r) : ∃ m,n = m + 1:=by
  cases n with
  | zero=>cases h
  | succ m=>exact ⟨m,rfl⟩
def y1t (z25 : List Sapi_Come) (z9n : Int) (z1D : Int) (z9o : Int) (z2K : Sapi_Come → Sapi_Come → Option Int) : Option (List Sapi_Come) :=
  jp2 (fun (z4Z : List Sapi_Come) (z7s : Int)=>(yW z4Z (i64 (z1D - z7s)) z1D z7s z2K).bind fun zi2=>some zi2) fun z6p=>yM z1D z2K z6p yA z25 (i64 (z1D - z9n)) (i64 (z9o - z1D))
set_option maxRecDepth 20000 in
theorem y4h (Z : Zp) (z2W : Option Addr) (z2X : Nat) (z4C : FuncId) (z6q : List Value) (z25 : List Sapi_Come) (z9n : Int) (z1D : Int) (z9o : Int) (z2K : Sapi_Come → Sapi_Come → Option Int) (r : List Sapi_Come)
     (h : y1t z25 z9n z1D z9o z2K = some r) (w₀ : World) (hz : PZ (fps [row (.slice z2W z25.length z2X) 50 3 (z25.flatMap e50)]) w₀ Z)
     (zi3 : ∀ args w,(callFunc z4C args).run Try.prog w = .ok (.enter z4C args) w)
     (zi4 : ∀ w : World,PZ [] w Z → ∀ (x0 : Sapi_Come) (x1 : Sapi_Come) (r : Int),z2K x0 x1 = some r → Calls Try.prog z4C (([(.agg #[(.int .i64 x0.fSent),(.int .i64 x0.fNode),(.int .i64 x0.fTime)]),(.agg #[(.int .i64 x1.fSent),(.int .i64 x1.fNode),(.int .i64 x1.fTime)])] : List Value) ++ z6q).toArray w fun e w'=>e = .returned (.int .i64 r) ∧ Hp [] w w' [])
    (hown : Hp (fps [row (.slice z2W z25.length z2X) 50 3 (z25.flatMap e50)]) w₀ w₀ [row (.slice z2W z25.length z2X) 50 3 (z25.flatMap e50)]) :
    Calls Try.prog 68 #[(.slice z2W z25.length z2X),(.int .i64 z9n),(.int .i64 z1D),(.int .i64 z9o),(.func (.func z4C) #[] (z6q).toArray)] w₀ fun e w'=>e = .returned (.tuple #[]) ∧ (r.length = z25.length) ∧ Hp (fps [row (.slice z2W z25.length z2X) 50 3 (z25.flatMap e50)]) w₀ w' [row (.slice z2W r.length z2X) 50 3 (r.flatMap e50)]:=by
  unfold y1t at h
  refine Calls.yl (vs:=[(.slice z2W z25.length z2X),(.int .i64 z9n),(.int .i64 z1D),(.int .i64 z9o),(.func (.func z4C) #[] (z6q).toArray)]) (pre:=[row (.slice z2W z25.length z2X) 50 3 (z25.flatMap e50)]) (env:=[(0,(.slice z2W z25.length z2X)),(1,(.int .i64 z9n)),(2,(.int .i64 z1D)),(3,(.int .i64 z9o)),(4,(.func (.func z4C) #[] (z6q).toArray))]) Try.func68 rfl Try.ntmps68 rfl (hown) rfl ?_
  refine WC.b (WC.a (WL.pu rfl (WL.pu rfl (WL.pu rfl (WL.pu rfl (WL.nil (WX.a (WC.b (WC.a (WL.pu rfl (WL.pu rfl (WL.pu rfl (WL.pu rfl (WL.nil (WX.a ?_)))))))))))))))
  obtain ⟨z6p,zse,h⟩:=y32 h
  refine WC.y2p (fun (z4Z : List Sapi_Come) (z7s : Int)=>(z6p z4Z z7s = some r) ∧ (z4Z.length = z25.length)) (fun (z4Z : List Sapi_Come) (z7s : Int)=>[(0,(.slice z2W z4Z.length z2X)),(2,(.int .i64 z1D)),(4,(.func (.func z4C) #[] (z6q).toArray)),(10,(.int .i64 z7s))]) (fun (z4Z : List Sapi_Come) (z7s : Int)=>[row (.slice z2W z4Z.length z2X) 50 3 (z4Z.flatMap e50)]) ?_ ?_
  · skip
    refine WC.block ?_
    refine WC.y54 (fun (zaU : Nat) (z2V : List Sapi_Come) (z1F : Int) (z2l : Int)=>(yM z1D z2K z6p zaU z2V z1F z2l = some r) ∧ (z2V.length = z25.length)) (fun (zaU : Nat) (z2V : List Sapi_Come) (z1F : Int) (z2l : Int)=>[(0,(.slice z2W z2V.length z2X)),(2,(.int .i64 z1D)),(4,(.func (.func z4C) #[] (z6q).toArray)),(10,(.int .i64 z1F)),(11,(.int .i64 z2l))]) (fun (zaU : Nat) (z2V : List Sapi_Come) (z1F : Int) (z2l : Int)=>[row (.slice z2W z2V.length z2X) 50 3 (z2V.flatMap e50)]) (fun (zaU : Nat) (z2V : List Sapi_Come) (z1F : Int) (z2l : Int)=>zaU) ⟨yA,z25,(i64 (z1D - z9n)),(i64 (z9o - z1D))⟩ ⟨h,rfl⟩ (.cons rfl (.cons rfl (.cons rfl (.cons rfl (.cons rfl .nil))))) (.cons .here .nil) ?_
    rintro zaU z2V z1F z2l ⟨h,zi5⟩
    obtain ⟨zdk,rfl⟩:=y3J h
    rw [yM] at h
    refine WC.b (WC.b (WC.a (WL.pu rfl (WL.pu rfl (WL.pu rfl (WL.nil (WX.a ?_)))))))
    refine WC.cond rfl (fun zi6=>?_) (fun zi6=>?_)
    · replace h:=ym h zi6
      refine WC.skip (WX.a (WC.block (WC.b (WC.a (WL.pu rfl (WL.pu rfl (WL.pu rfl (WL.nil (WX.a ?_)))))))))
      refine WC.cond rfl (fun zi7=>?_) (fun zi7=>?_)
      · replace h:=ym h zi7
        refine WC.b ?_
        obtain ⟨zeP,zsf,h⟩:=zp h
        refine WC.a (WL.pu rfl (WL.pu rfl (WL.pu rfl (WL.pu rfl (WL.pu rfl (WL.pu rfl (WL.pu rfl ?_)))))))
        refine WL.y1F (dd:=31) rfl rfl rfl (zF (l:=[.tmp 24,.tmp 27,.tmp 28,.tmp 29,.tmp 30]) Try.call69 (.cons rfl (.cons rfl (.cons rfl (.cons rfl (.cons rfl .nil)))))) (.cons .here .nil) (cc hz (.cons .here .nil) fun w pz ho=>y27 _ _ _ (z7r:=z4C) (z9m:=z6q) _ _ _ _ (zaR:=z2K) _ zsf w pz zi3 zi4 ho) ?_
        rintro  zmQ
        refine WL.repin (i:=0) rfl (u:=(.slice z2W zeP.length z2X)) (y1E zmQ.symm) ?_
        refine WL.nil (WX.a (WC.a (WL.pu rfl (WL.pu rfl (WL.pu rfl (WL.pu rfl (WL.nil (WX.yh ?_))))))))
        exact WX.round (G:=Nat × List Sapi_Come × Int × Int) ⟨zdk,zeP,(i64 (z1F - z2l)),z2l⟩ ⟨h,(zmQ.trans zi5)⟩ (Nat.lt_succ_self _) (.cons rfl (.cons rfl (.cons rfl (.cons rfl (.cons rfl .nil))))) (.cons .here .nil)
      · replace h:=yn h zi7
        refine WC.b ?_
        obtain ⟨zeQ,zsg,h⟩:=zp h
        refine WC.a (WL.pu rfl (WL.pu rfl (WL.pu rfl (WL.pu rfl (WL.pu rfl (WL.pu rfl (WL.pu rfl (WL.pu rfl (WL.pu rfl (WL.pu rfl (WL.pu rfl ?_)))))))))))
        refine WL.y1F (dd:=46) rfl rfl rfl (zF (l:=[.tmp 35,.tmp 38,.tmp 43,.tmp 44,.tmp 45]) Try.call69 (.cons rfl (.cons rfl (.cons rfl (.cons rfl (.cons rfl .nil)))))) (.cons .here .nil) (cc hz (.cons .here .nil) fun w pz ho=>y27 _ _ _ (z7r:=z4C) (z9m:=z6q) _ _ _ _ (zaR:=z2K) _ zsg w pz zi3 zi4 ho) ?_
        rintro  zmR
        refine WL.repin (i:=0) rfl (u:=(.slice z2W zeQ.length z2X)) (y1E zmR.symm) ?_
        refine WL.nil (WX.a (WC.a (WL.pu rfl (WL.pu rfl (WL.pu rfl (WL.pu rfl (WL.nil (WX.yh ?_))))))))
        exact WX.round (G:=Nat × List Sapi_Come × Int × Int) ⟨zdk,zeQ,z1F,(i64 (z2l - z1F))⟩ ⟨h,(zmR.trans zi5)⟩ (Nat.lt_succ_self _) (.cons rfl (.cons rfl (.cons rfl (.cons rfl (.cons rfl .nil))))) (.cons .here .nil)
    · replace h:=yn h zi6
      refine WC.exit (WX.yf (WX.yf (WX.yB ?_)))
      exact WX.mid (G:=List Sapi_Come × Int) ⟨z2V,z1F⟩ ⟨h,zi5⟩ (.cons rfl (.cons rfl (.cons rfl (.cons rfl .nil)))) (.cons .here .nil)
  · rintro z4Z z7s ⟨h,zsh⟩
    replace h:=(zse z4Z z7s).symm.trans h
    obtain ⟨zi2,zsi,h⟩:=zp h
    refine WC.a (WL.pu rfl (WL.pu rfl (WL.pu rfl (WL.pu rfl (WL.pu rfl (WL.pu rfl (WL.pu rfl ?_)))))))
    refine WL.y1F (dd:=57) rfl rfl rfl (zF (l:=[.tmp 50,.tmp 53,.tmp 54,.tmp 55,.tmp 56]) Try.call69 (.cons rfl (.cons rfl (.cons rfl (.cons rfl (.cons rfl .nil)))))) (.cons .here .nil) (cc hz (.cons .here .nil) fun w pz ho=>y27 _ _ _ (z7r:=z4C) (z9m:=z6q) _ _ _ _ (zaR:=z2K) _ zsi w pz zi3 zi4 ho) ?_
    rintro  zmS
    refine WL.repin (i:=0) rfl (u:=(.slice z2W zi2.length z2X)) (y1E zmS.symm) ?_
    refine WL.nil ?_
    obtain rfl:=Option.some.inj h
    refine WX.y1Q Try.results68 .nil (fun w hw=>?_)
    exact ⟨y49,(zmS.trans zsh),hw.sub (.cons .here .nil)⟩
end Go.Proofs.Ytinchjigeakocaa

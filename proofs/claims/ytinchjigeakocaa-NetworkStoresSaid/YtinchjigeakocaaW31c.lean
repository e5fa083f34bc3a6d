/- A part of this claim's proof: models of functions, walks, plain laws. No conditions. -/
import Derived.Test.YtinchjigeakocaaW31b
namespace Go.Proofs.Ytinchjigeakocaa
open Go Go.RowKit Sep
set_option linter.all false
set_option maxRecDepth 30000
set_option maxHeartbeats 4000000
def yC (z3U : Sport_frame → Option Bool) (z7p : (List Sport_frame) → Int → Option (List Sport_frame)) : Nat → (List Sport_frame) → Int → Int → Option (List Sport_frame)
  | 0,_,_,_=>none
  | zia + 1,zR,z25,z10=>if decide (z10 < ((zR.length : Nat) : Int)) then jp2 (fun (z4z : List Sport_frame) (z7q : Int)=>yC z3U z7p zia z4z z7q (i64 (z10 + 1))) fun zfi=>chk ((0 : Int) ≤ z10 ∧ z10 < ((zR.length : Nat) : Int)) ((z3U (⟨((nth zR z10).fSize),((nth zR z10).fFin)⟩ : Sport_frame)).bind fun zib=>if !zib then chk ((0 : Int) ≤ z25 ∧ z25 < ((zR.length : Nat) : Int)) (zfi (zR.set (z25 : Int).toNat (⟨((nth zR z10).fSize),((nth zR z10).fFin)⟩ : Sport_frame)) (i64 (z25 + 1))) else zfi zR z25) else z7p zR z25
theorem y37 {n : Nat} {z3U : Sport_frame → Option Bool} {z7p : (List Sport_frame) → Int → Option (List Sport_frame)} {zR : List Sport_frame} {z25 : Int} {z10 : Int} {r : List Sport_frame} (h : yC z3U z7p n zR z25 z10 = some r) : ∃ m,n = m + 1:=by
  cases n with
  | zero=>cases h
  | succ m=>exact ⟨m,rfl⟩
def yS (z26 : List Sport_frame) (z3U : Sport_frame → Option Bool) : Option (List Sport_frame) :=
  (yT z26 z3U).bind fun zb9=>if decide (zb9 = (-1)) then some z26 else jp2 (fun (z27 : List Sport_frame) (z28 : Int)=>chk ((0 : Int) ≤ z28 ∧ z28 ≤ ((z27.length : Nat) : Int)) (chk ((0 : Int) ≤ z28 ∧ z28 ≤ (((z27.take (z28 : Int).toNat ++ List.replicate (z27.length - (z28 : Int).toNat) ((⟨0,0⟩ : Sport_frame) : Sport_frame)).length : Nat) : Int)) (some ((z27.take (z28 : Int).toNat ++ List.replicate (z27.length - (z28 : Int).toNat) ((⟨0,0⟩ : Sport_frame) : Sport_frame)).take (z28 : Int).toNat)))) fun z7p=>yC z3U z7p yz z26 zb9 (i64 (zb9 + 1))
set_option maxRecDepth 20000 in
theorem y3D (Z : Zp) (z2Y : Option Addr) (z2B : Nat) (z5d : FuncId) (z7r : List Value) (z26 : List Sport_frame) (z3U : Sport_frame → Option Bool) (r : List Sport_frame)
     (h : yS z26 z3U = some r) (w₀ : World) (hz : PZ (fps [row (.slice z2Y z26.length z2B) 146 2 (z26.flatMap y20)]) w₀ Z)
     (zmJ : ∀ args w,(callFunc z5d args).run Try.prog w = .ok (.enter z5d args) w)
     (zmK : ∀ w : World,PZ [] w Z → ∀ (x0 : Sport_frame) (r : Bool),z3U x0 = some r → Calls Try.prog z5d (([(.agg #[(.int .i64 x0.fSize),(.int .i64 x0.fFin)])] : List Value) ++ z7r).toArray w fun e w'=>e = .returned (.bool r) ∧ Hp [] w w' [])
    (hown : Hp (fps [row (.slice z2Y z26.length z2B) 146 2 (z26.flatMap y20)]) w₀ w₀ [row (.slice z2Y z26.length z2B) 146 2 (z26.flatMap y20)]) :
    Calls Try.prog 54 #[(.slice z2Y z26.length z2B),(.func (.func z5d) #[] (z7r).toArray)] w₀ fun e w'=>∃ zmL : Option Addr,∃ zmM : Nat,e = .returned (.slice zmL r.length zmM) ∧ True ∧ Hp (fps [row (.slice z2Y z26.length z2B) 146 2 (z26.flatMap y20)]) w₀ w' [row (.slice zmL r.length zmM) 146 2 (r.flatMap y20)]:=by
  unfold yS at h
  refine Calls.yk (vs:=[(.slice z2Y z26.length z2B),(.func (.func z5d) #[] (z7r).toArray)]) (pre:=[row (.slice z2Y z26.length z2B) 146 2 (z26.flatMap y20)]) (env:=[(0,(.slice z2Y z26.length z2B)),(1,(.func (.func z5d) #[] (z7r).toArray))]) Try.func54 rfl Try.ntmps54 rfl (hown) rfl ?_
  refine WC.b (WC.a (WL.pu rfl (WL.nil (WX.a (WC.b ?_)))))
  obtain ⟨zb9,zrW,h⟩:=zh h
  refine WC.a (WL.pu rfl (WL.pu rfl ?_))
  refine WL.b (dd:=10) rfl rfl rfl (zz (l:=[.tmp 8,.tmp 9]) Try.call63 (.cons rfl (.cons rfl .nil))) .nil (ccl hz .nil (.cons .here .nil) fun w pz ho la=>y3M _ _ _ (z7o:=z5d) (z9u:=z7r) _ (z5c:=z3U) _ zrW w pz (ZA.row (la _ (.head _) _) (RR.y1b (enc:=y20) (fun _=>rfl) _) ⟨w,pz.1⟩) zmJ (fun w' hz'=>zmK w' (hz'.le (Zle.left _ _)))) ?_
  refine WL.pu rfl (WL.nil (WX.a (WC.b (WC.b (WC.a (WL.pu rfl (WL.pu rfl (WL.nil (WX.a ?_)))))))))
  refine WC.cond rfl (fun zic=>?_) (fun zic=>?_)
  · replace h:=yl h zic
    refine WC.b (WC.a (WL.pu rfl (WL.pu rfl (WL.nil (WX.a (WC.ret (WX.yj ?_)))))))
    obtain rfl:=Option.some.inj h
    refine WX.yh Try.results54 (.tmp rfl .nil) (fun w hw=>?_)
    exact ⟨z2Y,z2B,y12 rfl,trivial,hw.sub (.cons .here .nil)⟩
  · replace h:=ym h zic
    refine WC.skip (WX.a ?_)
    obtain ⟨z7p,zrX,h⟩:=y2V h
    refine WC.y2w (fun (z27 : List Sport_frame) (z28 : Int)=>(z7p z27 z28 = some r) ∧ (z27.length = z26.length)) (fun (z27 : List Sport_frame) (z28 : Int)=>[(0,(.slice z2Y z27.length z2B)),(5,(.int .i64 z28))]) (fun (z27 : List Sport_frame) (z28 : Int)=>[row (.slice z2Y z27.length z2B) 146 2 (z27.flatMap y20)]) ?_ ?_
    · skip
      refine WC.b (WC.a (WL.pu rfl (WL.pu rfl (WL.pu rfl (WL.nil (WX.a (WC.block ?_)))))))
      refine WC.y5a (fun (zba : Nat) (zR : List Sport_frame) (z25 : Int) (z10 : Int)=>(yC z3U z7p zba zR z25 z10 = some r) ∧ (zR.length = z26.length)) (fun (zba : Nat) (zR : List Sport_frame) (z25 : Int) (z10 : Int)=>[(0,(.slice z2Y zR.length z2B)),(1,(.func (.func z5d) #[] (z7r).toArray)),(5,(.int .i64 z25)),(6,(.int .i64 z10))]) (fun (zba : Nat) (zR : List Sport_frame) (z25 : Int) (z10 : Int)=>[row (.slice z2Y zR.length z2B) 146 2 (zR.flatMap y20)]) (fun (zba : Nat) (zR : List Sport_frame) (z25 : Int) (z10 : Int)=>zba) ⟨yz,z26,zb9,(i64 (zb9 + 1))⟩ ⟨h,rfl⟩ (.cons rfl (.cons rfl (.cons rfl (.cons rfl .nil)))) (.cons .here .nil) ?_
      rintro zba zR z25 z10 ⟨h,zid⟩
      obtain ⟨zia,rfl⟩:=y37 h
      rw [yC] at h
      refine WC.b (WC.b (WC.a (WL.pu rfl (WL.pu rfl ?_))))
      refine WL.a (d:=18) rfl rfl rfl (yU Try.underlying141 rfl) ?_
      refine WL.pu rfl (WL.nil (WX.a ?_))
      refine WC.cond rfl (fun zie=>?_) (fun zie=>?_)
      · replace h:=yl h zie
        refine WC.skip (WX.a ?_)
        obtain ⟨zfi,zrY,h⟩:=y2V h
        refine WC.y2w (fun (z4z : List Sport_frame) (z7q : Int)=>(zfi z4z z7q = some r) ∧ (z4z.length = z26.length)) (fun (z4z : List Sport_frame) (z7q : Int)=>[(0,(.slice z2Y z4z.length z2B)),(1,(.func (.func z5d) #[] (z7r).toArray)),(5,(.int .i64 z7q)),(6,(.int .i64 z10))]) (fun (z4z : List Sport_frame) (z7q : Int)=>[row (.slice z2Y z4z.length z2B) 146 2 (z4z.flatMap y20)]) ?_ ?_
        · skip
          refine WC.block (WC.b ?_)
          obtain ⟨zdJ,h⟩:=yi h
          refine WC.a (WL.pu rfl (WL.pu rfl ?_))
          refine WL.know (fun w hw=>Hp.y2p .here hw (by intro hz'; have:=zdJ; rw [hz'] at this; omega)) ?_
          rintro ⟨zmN,rfl⟩
          refine WL.a (d:=24) rfl rfl rfl (yr z6O rfl rfl zdJ.1 zdJ.2 y1c) ?_
          refine WL.a (d:=25) rfl rfl rfl (y1P (cs:=(y20 (nth zR z10))) za3 rfl rfl (y23 .here (y1W (enc:=y20) (l:=zR) (i:=z10) (sz:=2) (fun _=>rfl) zdJ.1 zdJ.2))) ?_
          refine WL.new (dd:=7) rfl rfl rfl (y1U (cs:=[(.int .i64 0),(.int .i64 0)]) zgr rfl) ?_
          intro zxx _
          refine WL.y1r rfl rfl (y1K zgs rfl rfl rfl .here rfl rfl rfl) ?_
          refine WL.nil (WX.a (WC.b ?_))
          obtain ⟨zib,zrZ,h⟩:=zh h
          refine WC.a (WL.pu rfl ?_)
          refine WL.a (d:=27) rfl rfl rfl (yD za3 rfl (y1h .here) rfl) ?_
          refine WL.b (dd:=28) rfl rfl rfl (y3J (l:=[.tmp 27]) (f:=z5d) (caps:=z7r) zmJ rfl (.cons rfl .nil)) .nil (fun w hw=>zmK w (hz.now hw) (⟨((nth zR z10).fSize),((nth zR z10).fFin)⟩ : Sport_frame) zib  zrZ) ?_
          refine WL.pu rfl (WL.nil (WX.a ?_))
          refine WC.cond rfl (fun zif=>?_) (fun zif=>?_)
          · replace h:=yl h zif
            refine WC.b ?_
            obtain ⟨zbb,h⟩:=yi h
            refine WC.a (WL.pu rfl (WL.pu rfl ?_))
            refine WL.a (d:=32) rfl rfl rfl (yD za3 rfl (y1h .here) rfl) ?_
            refine WL.a (d:=33) rfl rfl rfl (yr z6O rfl rfl zbb.1 zbb.2 y1c) ?_
            refine WL.y1r rfl rfl (y28 (vs:=[(.int .i64 ((nth zR z10).fSize)),(.int .i64 ((nth zR z10).fFin))]) (ds:=(zR.set (z25 : Int).toNat (⟨((nth zR z10).fSize),((nth zR z10).fFin)⟩ : Sport_frame)).flatMap y20) zgs rfl rfl rfl rfl (ocB rfl) .h1 (y2I (enc:=y20) (sz:=2) (k:=0) (fun _=>rfl) zbb.1 zbb.2 (by decide)) (y2H (enc:=y20) (l:=zR) (sz:=2) (vs:=[(.int .i64 ((nth zR z10).fSize)),(.int .i64 ((nth zR z10).fFin))]) (y:=(⟨((nth zR z10).fSize),((nth zR z10).fFin)⟩ : Sport_frame)) (k:=0) (fun _=>rfl) zbb.1 zbb.2 rfl (Nat.le_of_ble_eq_true rfl))) ?_
            refine WL.relen .here (u:=(.slice (some ⟨zmN,0,none⟩) ((zR.set (z25 : Int).toNat (⟨((nth zR z10).fSize),((nth zR z10).fFin)⟩ : Sport_frame)).length) z2B)) (y1F (List.length_set).symm) ?_
            refine WL.repin (i:=0) rfl (u:=(.slice (some ⟨zmN,0,none⟩) ((zR.set (z25 : Int).toNat (⟨((nth zR z10).fSize),((nth zR z10).fFin)⟩ : Sport_frame)).length) z2B)) (y1F (List.length_set).symm) ?_
            refine WL.nil (WX.a (WC.a (WL.pu rfl (WL.pu rfl (WL.pu rfl (WL.nil (WX.yf ?_)))))))
            exact WX.mid (G:=List Sport_frame × Int) ⟨(zR.set (z25 : Int).toNat (⟨((nth zR z10).fSize),((nth zR z10).fFin)⟩ : Sport_frame)),(i64 (z25 + 1))⟩ ⟨h,((List.length_set).trans zid)⟩ (.cons rfl (.cons rfl (.cons rfl (.cons rfl .nil)))) (.cons .here .nil)
          · replace h:=ym h zif
            refine WC.skip (WX.yf ?_)
            exact WX.mid (G:=List Sport_frame × Int) ⟨zR,z25⟩ ⟨h,zid⟩ (.cons rfl (.cons rfl (.cons rfl (.cons rfl .nil)))) (.cons .h1 .nil)
        · rintro z4z z7q ⟨h,zs0⟩
          replace h:=(zrY z4z z7q).symm.trans h
          refine WC.a (WL.pu rfl (WL.pu rfl (WL.pu rfl (WL.nil ?_))))
          exact WX.round (G:=Nat × List Sport_frame × Int × Int) ⟨zia,z4z,z7q,(i64 (z10 + 1))⟩ ⟨h,zs0⟩ (Nat.lt_succ_self _) (.cons rfl (.cons rfl (.cons rfl (.cons rfl .nil)))) (.cons .here .nil)
      · replace h:=ym h zie
        refine WC.exit (WX.ye (WX.ye (WX.yA ?_)))
        exact WX.mid (G:=List Sport_frame × Int) ⟨zR,z25⟩ ⟨h,zid⟩ (.cons rfl (.cons rfl .nil)) (.cons .here .nil)
    · rintro z27 z28 ⟨h,zxy⟩
      replace h:=(zrX z27 z28).symm.trans h
      refine WC.b ?_
      obtain ⟨zfj,h⟩:=yi h
      refine WC.a (WL.pu rfl (WL.pu rfl ?_))
      refine WL.y9P (dd:=38) rfl rfl z6O rfl rfl .here zfj ?_
      intro zxz zxA zs1
      refine WL.y1r rfl rfl (y8B (enc:=y20) (z0:=((⟨0,0⟩ : Sport_frame) : Sport_frame)) (l:=z27) z6O zgr rfl zs1 zfj (fun _=>rfl) (by decide) rfl y9g .here) ?_
      refine WL.relen .here (u:=(.slice z2Y ((z27.take (z28 : Int).toNat ++ List.replicate (z27.length - (z28 : Int).toNat) ((⟨0,0⟩ : Sport_frame) : Sport_frame)).length) z2B)) (y1F (y6D zfj).symm) ?_
      refine WL.repin (i:=0) rfl (u:=(.slice z2Y ((z27.take (z28 : Int).toNat ++ List.replicate (z27.length - (z28 : Int).toNat) ((⟨0,0⟩ : Sport_frame) : Sport_frame)).length) z2B)) (y1F (y6D zfj).symm) ?_
      refine WL.nil (WX.a (WC.b ?_))
      obtain ⟨zs2,h⟩:=yi h
      refine WC.a (WL.pu rfl (WL.pu rfl ?_))
      refine WL.y6E (dd:=41) (enc:=y20) (ls:=z27.take (z28 : Int).toNat ++ List.replicate (z27.length - (z28 : Int).toNat) ((⟨0,0⟩ : Sport_frame) : Sport_frame)) rfl rfl z6O rfl rfl .here (fun _=>rfl) zs2 ?_
      intro zs3 zs4
      refine WL.pu rfl (WL.nil (WX.a (WC.ret ?_)))
      obtain rfl:=Option.some.inj h
      refine WX.yh Try.results54 (.tmp rfl .nil) (fun w hw=>?_)
      exact ⟨zs3,zs4,y12 rfl,trivial,hw.sub (.cons .here .nil)⟩
def y2r (z5e : Sport_frame) (zfk : Int) : Option Bool :=
  some (decide (z5e.fFin > zfk))
set_option maxRecDepth 20000 in
theorem y6J (Z : Zp) (zfl : Addr) (z5e : Sport_frame) (zfk : Int) (r : Bool)
     (h : y2r z5e zfk = some r) (w₀ : World) (hz : PZ [] w₀ Z)
     (zs5 : ZC Z zfl [(.int .i64 zfk)]) :
    Calls Try.prog 65 #[(.agg #[(.int .i64 z5e.fSize),(.int .i64 z5e.fFin)]),(.pointer (some zfl))] w₀ fun e w'=>e = .returned (.bool r) ∧ Hp [] w₀ w' []:=by
  unfold y2r at h
  refine Calls.yk (vs:=[(.agg #[(.int .i64 z5e.fSize),(.int .i64 z5e.fFin)]),(.pointer (some zfl))]) (pre:=[]) (env:=[(0,(.agg #[(.int .i64 z5e.fSize),(.int .i64 z5e.fFin)])),(1,(.pointer (some zfl)))]) Try.func65 rfl Try.ntmps65 rfl (Hp.nil w₀ _) rfl ?_
  refine WC.b (WC.a ?_)
  refine WL.new (dd:=2) rfl rfl rfl (y2g (cs:=[(.int .i64 z5e.fSize),(.int .i64 z5e.fFin)]) rfl rfl) ?_
  intro zxB _
  refine WL.pu rfl (WL.nil (WX.a (WC.b (WC.a ?_))))
  refine WL.a (d:=4) rfl rfl rfl (ya y8N rfl rfl) ?_
  refine WL.a (d:=5) rfl rfl rfl (yb yg rfl (yc .here rfl)) ?_
  refine WL.a (d:=6) rfl rfl rfl (yb yg rfl (rd_z hz.pv zs5 rfl)) ?_
  refine WL.pu rfl (WL.pu rfl (WL.nil (WX.a (WC.ret ?_))))
  obtain rfl:=Option.some.inj h
  refine WX.yh Try.results65 (.tmp rfl .nil) (fun w hw=>?_)
  exact ⟨y12 rfl,hw.sub .nil⟩
def y25 (z1I : Sport_Port) (z5f : Sport_frame → Option Bool) (z7s : Int → Option Int) : Nat → Int → Int → Option Int
  | 0,_,_=>none
  | zig + 1,z3r,z2f=>if decide (z2f < ((z1I.fFrames.length : Nat) : Int)) then jp1 (fun (z7t : Int)=>y25 z1I z5f z7s zig z7t (i64 (z2f + 1))) fun zfm=>chk ((0 : Int) ≤ z2f ∧ z2f < ((z1I.fFrames.length : Nat) : Int)) ((z5f (⟨((nth z1I.fFrames z2f).fSize),((nth z1I.fFrames z2f).fFin)⟩ : Sport_frame)).bind fun zih=>if zih then zfm (i64 (z3r + ((nth z1I.fFrames z2f).fSize))) else zfm z3r) else z7s z3r
theorem y5o {n : Nat} {z1I : Sport_Port} {z5f : Sport_frame → Option Bool} {z7s : Int → Option Int} {z3r : Int} {z2f : Int} {r : Int} (h : y25 z1I z5f z7s n z3r z2f = some r) : ∃ m,n = m + 1:=by
  cases n with
  | zero=>cases h
  | succ m=>exact ⟨m,rfl⟩
def y2S (z1I : Sport_Port) (z5f : Sport_frame → Option Bool) : Option Int :=
  jp1 (fun (z8f : Int)=>some z8f) fun z7s=>y25 z1I z5f z7s yz 0 0
set_option maxRecDepth 20000 in
theorem y7A (Z : Zp) (zfn : Addr) (zfo : Option Addr) (zfp : Nat) (z6m : FuncId) (z8g : List Value) (z1I : Sport_Port) (z5f : Sport_frame → Option Bool) (r : Int)
     (h : y2S z1I z5f = some r) (w₀ : World) (hz : PZ [] w₀ Z)
     (zs6 : ZS Z 2 (fun r x=>r = y20 x) zfo zfp z1I.fFrames)
     (zs7 : ZC Z zfn [(.int .i64 z1I.fNumbers.fSlow),(.int .i64 z1I.fNumbers.fDelay),(.int .i64 z1I.fNumbers.fStore),(.int .i64 z1I.fNow),(.int .i64 z1I.fLast),(.slice zfo z1I.fFrames.length zfp)])
     (zs8 : ∀ args w,(callFunc z6m args).run Try.prog w = .ok (.enter z6m args) w)
     (zs9 : ∀ w : World,PZ [] w Z → ∀ (x0 : Sport_frame) (r : Bool),z5f x0 = some r → Calls Try.prog z6m (([(.agg #[(.int .i64 x0.fSize),(.int .i64 x0.fFin)])] : List Value) ++ z8g).toArray w fun e w'=>e = .returned (.bool r) ∧ Hp [] w w' []) :
    Calls Try.prog 64 #[(.pointer (some zfn)),(.func (.func z6m) #[] (z8g).toArray)] w₀ fun e w'=>e = .returned (.int .i64 r) ∧ Hp [] w₀ w' []:=by
  unfold y2S at h
  refine Calls.yk (vs:=[(.pointer (some zfn)),(.func (.func z6m) #[] (z8g).toArray)]) (pre:=[]) (env:=[(0,(.pointer (some zfn))),(1,(.func (.func z6m) #[] (z8g).toArray))]) Try.func64 rfl Try.ntmps64 rfl (Hp.nil w₀ _) rfl ?_
  refine WC.b (WC.a (WL.pu rfl (WL.nil (WX.a (WC.b (WC.a (WL.pu rfl (WL.nil (WX.a ?_)))))))))
  obtain ⟨z7s,zsa,h⟩:=y19 h
  refine WC.y1R (fun (z8f : Int)=>(z7s z8f = some r)) (fun (z8f : Int)=>[(5,(.int .i64 z8f))]) (fun (z8f : Int)=>[]) ?_ ?_
  · skip
    refine WC.b (WC.a (WL.pu rfl ?_))
    refine WL.a (d:=9) rfl rfl rfl (yt rfl) ?_
    refine WL.a (d:=10) rfl rfl rfl (ya y5g rfl rfl) ?_
    refine WL.a (d:=11) rfl rfl rfl (yb zgq rfl (y2b hz.pv zs7 rfl)) ?_
    refine WL.a (d:=12) rfl rfl rfl (yU Try.underlying141 rfl) ?_
    refine WL.pu rfl (WL.nil (WX.a (WC.block ?_)))
    refine WC.y2m (fun (zbc : Nat) (z3r : Int) (z2f : Int)=>(y25 z1I z5f z7s zbc z3r z2f = some r)) (fun (zbc : Nat) (z3r : Int) (z2f : Int)=>[(1,(.func (.func z6m) #[] (z8g).toArray)),(5,(.int .i64 z3r)),(11,(.slice zfo z1I.fFrames.length zfp)),(12,(.int .i64 ((z1I.fFrames.length : Nat) : Int))),(13,(.int .i64 z2f))]) (fun (zbc : Nat) (z3r : Int) (z2f : Int)=>[]) (fun (zbc : Nat) (z3r : Int) (z2f : Int)=>zbc) ⟨yz,0,0⟩ h (.cons rfl (.cons rfl (.cons rfl (.cons rfl (.cons rfl .nil))))) .nil ?_
    rintro zbc z3r z2f h
    obtain ⟨zig,rfl⟩:=y5o h
    rw [y25] at h
    refine WC.b (WC.a (WL.pu rfl (WL.nil (WX.a (WC.b ?_)))))
    refine WC.cond rfl (fun zii=>?_) (fun zii=>?_)
    · replace h:=yl h zii
      refine WC.skip (WX.a ?_)
      obtain ⟨zfm,zsb,h⟩:=y19 h
      refine WC.y1R (fun (z7t : Int)=>(zfm z7t = some r)) (fun (z7t : Int)=>[(1,(.func (.func z6m) #[] (z8g).toArray)),(5,(.int .i64 z7t)),(11,(.slice zfo z1I.fFrames.length zfp)),(12,(.int .i64 ((z1I.fFrames.length : Nat) : Int))),(13,(.int .i64 z2f))]) (fun (z7t : Int)=>[]) ?_ ?_
      · skip
        refine WC.block (WC.b ?_)
        obtain ⟨zsc,h⟩:=yi h
        refine WC.a ?_
        refine WL.znth (dd:=15) rfl rfl (Z:=Z) (Pr:=(fun r x=>r = y20 x)) z6O rfl rfl zs6 zsc ?_
        rintro zxC zxD zsd zxE rfl
        refine WL.a (d:=16) rfl rfl rfl (yD za3 rfl (y3t hz.pv zsd) rfl) ?_
        refine WL.new (dd:=7) rfl rfl rfl (y1U (cs:=[(.int .i64 0),(.int .i64 0)]) zgr rfl) ?_
        intro zxF _
        refine WL.y1r rfl rfl (y1K zgs rfl rfl rfl .here rfl rfl rfl) ?_
        refine WL.nil (WX.a (WC.b ?_))
        obtain ⟨zih,zse,h⟩:=zh h
        refine WC.a (WL.pu rfl ?_)
        refine WL.a (d:=18) rfl rfl rfl (yD za3 rfl (y1h .here) rfl) ?_
        refine WL.b (dd:=19) rfl rfl rfl (y3J (l:=[.tmp 18]) (f:=z6m) (caps:=z8g) zs8 rfl (.cons rfl .nil)) .nil (fun w hw=>zs9 w (hz.now hw) (⟨((nth z1I.fFrames z2f).fSize),((nth z1I.fFrames z2f).fFin)⟩ : Sport_frame) zih  zse) ?_
        refine WL.nil (WX.a ?_)
        refine WC.cond rfl (fun zij=>?_) (fun zij=>?_)
        · replace h:=yl h zij
          refine WC.a (WL.pu rfl ?_)
          refine WL.a (d:=21) rfl rfl rfl (ya fo_146_0 rfl rfl) ?_
          refine WL.a (d:=22) rfl rfl rfl (yb yg rfl (yc .here rfl)) ?_
          refine WL.pu rfl (WL.pu rfl (WL.nil (WX.yf ?_)))
          exact WX.mid (G:=Int) (i64 (z3r + ((nth z1I.fFrames z2f).fSize))) h (.cons rfl (.cons rfl (.cons rfl (.cons rfl (.cons rfl .nil))))) .nil
        · replace h:=ym h zij
          refine WC.skip (WX.yf ?_)
          exact WX.mid (G:=Int) z3r h (.cons rfl (.cons rfl (.cons rfl (.cons rfl (.cons rfl .nil))))) .nil
      · rintro z7t h
        replace h:=(zsb z7t).symm.trans h
        refine WC.a (WL.pu rfl (WL.pu rfl (WL.nil ?_)))
        exact WX.round (G:=Nat × Int × Int) ⟨zig,z7t,(i64 (z2f + 1))⟩ h (Nat.lt_succ_self _) (.cons rfl (.cons rfl (.cons rfl (.cons rfl (.cons rfl .nil))))) .nil
    · replace h:=ym h zii
      refine WC.exit (WX.ye (WX.ye (WX.yA ?_)))
      exact WX.mid (G:=Int) z3r h (.cons rfl .nil) .nil
  · rintro z8f h
    replace h:=(zsa z8f).symm.trans h
    refine WC.b (WC.a (WL.pu rfl (WL.pu rfl (WL.nil (WX.a (WC.ret ?_))))))
    obtain rfl:=Option.some.inj h
    refine WX.yh Try.results64 (.tmp rfl .nil) (fun w hw=>?_)
    exact ⟨y12 rfl,hw.sub .nil⟩
def y3N (z3V : Sport_Port) (z8h : Int) : Option Int :=
  (y2L z3V).bind fun zmO=>if zmO then some 0 else (y2S z3V (fun (y0 : Sport_frame)=>y2r y0 (max z8h z3V.fNow))).bind fun zmP=>some zmP
set_option maxRecDepth 20000 in
theorem y7j (Z : Zp) (zfq : Addr) (zmQ : Option Addr) (zmR : Nat) (z3V : Sport_Port) (z8h : Int) (r : Int)
     (h : y3N z3V z8h = some r) (w₀ : World) (hz : PZ [] w₀ Z)
     (zmS : ZS Z 2 (fun r x=>r = y20 x) zmQ zmR z3V.fFrames)
     (zik : ZC Z zfq [(.int .i64 z3V.fNumbers.fSlow),(.int .i64 z3V.fNumbers.fDelay),(.int .i64 z3V.fNumbers.fStore),(.int .i64 z3V.fNow),(.int .i64 z3V.fLast),(.slice zmQ z3V.fFrames.length zmR)]) :
    Calls Try.prog 56 #[(.pointer (some zfq)),(.int .i64 z8h)] w₀ fun e w'=>e = .returned (.int .i64 r) ∧ Hp [] w₀ w' []:=by
  unfold y3N at h
  refine Calls.yk (vs:=[(.pointer (some zfq)),(.int .i64 z8h)]) (pre:=[]) (env:=[(0,(.pointer (some zfq))),(1,(.int .i64 z8h))]) Try.func56 rfl Try.ntmps56 rfl (Hp.nil w₀ _) rfl ?_
  refine WC.b (WC.a ?_)
  refine WL.new (dd:=3) rfl rfl rfl (y2g (cs:=[(.int .i64 z8h)]) rfl rfl) ?_
  intro zsf _
  refine WL.pu rfl (WL.nil (WX.a (WC.b (WC.b ?_))))
  obtain ⟨zmO,zsg,h⟩:=zh h
  refine WC.a (WL.pu rfl ?_)
  refine WL.b (dd:=6) rfl rfl rfl (zz (l:=[.tmp 5]) Try.call53 (.cons rfl .nil)) .nil (cc hz .nil fun w pz ho=>y5i _ _ _ _ _ _ zsg w pz zmS zik) ?_
  refine WL.nil (WX.a ?_)
  refine WC.cond rfl (fun zil=>?_) (fun zil=>?_)
  · replace h:=yl h zil
    refine WC.b (WC.a (WL.pu rfl (WL.nil (WX.a (WC.ret (WX.yj ?_))))))
    obtain rfl:=Option.some.inj h
    refine WX.yh Try.results56 (.tmp rfl .nil) (fun w hw=>?_)
    exact ⟨y12 rfl,hw.sub .nil⟩
  · replace h:=ym h zil
    refine WC.skip (WX.a (WC.b ?_))
    refine WC.yV (fun i=>[6].contains i) [] rfl ?_
    refine WD.e (i:=0) (d:=7) (by kernel_rfl) rfl (z2 (by kernel_rfl)) (z3 (by kernel_rfl)) rfl rfl rfl (yb yg rfl (yc .here rfl)) ?_
    refine WD.a (i:=1) (d:=8) (by kernel_rfl) rfl (z2 (by kernel_rfl)) (z3 (by kernel_rfl)) rfl rfl rfl (fun _=>q_m rfl) ?_
    refine WD.a (i:=2) (d:=9) (by kernel_rfl) rfl (z2 (by kernel_rfl)) (z3 (by kernel_rfl)) rfl rfl rfl (fun _=>yt rfl) ?_
    refine WD.a (i:=3) (d:=10) (by kernel_rfl) rfl (z2 (by kernel_rfl)) (z3 (by kernel_rfl)) rfl rfl rfl (fun _=>ya y7g rfl rfl) ?_
    refine WD.e (i:=4) (d:=11) (by kernel_rfl) rfl (z2 (by kernel_rfl)) (z3 (by kernel_rfl)) rfl rfl rfl (yb yg rfl (y2b hz.pv zik rfl)) ?_
    refine WD.a (i:=5) (d:=12) (by kernel_rfl) rfl (z2 (by kernel_rfl)) (z3 (by kernel_rfl)) rfl rfl rfl (fun _=>q_max rfl rfl rfl) ?_
    refine WD.y2F (i:=6) rfl (by kernel_rfl) rfl rfl rfl (by kernel_rfl) (y1K y6H rfl rfl rfl .here rfl rfl rfl) ?_
    refine WD.done (by kernel_rfl) ?_
    refine WX.a (WC.b ?_)
    obtain ⟨zmP,zsh,h⟩:=zh h
    refine WC.a (WL.pu rfl ?_)
    refine WL.a (d:=14) rfl rfl rfl (y67 (Eos.caps (l:=[.tmp 3]) (.cons rfl .nil))) ?_
    refine WL.b (dd:=15) rfl rfl rfl (zz (l:=[.tmp 13,.tmp 14]) Try.call64 (.cons rfl (.cons rfl .nil))) .nil (ccl hz .nil (.cons .here .nil) fun w pz ho la=>y7A _ _ _ _ (z6m:=65) (z8g:=[(.pointer (some ⟨zsf,0,none⟩))]) _ (z5f:=(fun (y0 : Sport_frame)=>y2r y0 (max z8h z3V.fNow))) _ zsh w pz (zmS.mono (Zle.left _ _)) (zik.mono (Zle.left _ _)) Try.call65 (fun w' hz' y0  r  hr=>y6J _ _ _ _ _ hr w' hz' ((la _ (.head _) _).stb))) ?_
    refine WL.pu rfl (WL.nil (WX.a (WC.ret ?_)))
    obtain rfl:=Option.some.inj h
    refine WX.yh Try.results56 (.tmp rfl .nil) (fun w hw=>?_)
    exact ⟨y12 rfl,hw.sub .nil⟩
def y2z (zg : Sport_Port) (zY : Int) (zI : Int) : Option (Int × Int × Sport_Port) :=
  (y2L zg).bind fun z8i=>if z8i then some (0,1,zg) else if (((decide (zI < 1)) || (decide (zI > 72))) || (decide (zY < zg.fNow))) || (decide (zY > 1073741824)) then some (0,2,zg) else (yS zg.fFrames (fun (y0 : Sport_frame)=>y2B y0 zY)).bind fun z6n=>(y3N (⟨zg.fNumbers,zY,zg.fLast,z6n⟩ : Sport_Port) zY).bind fun zmT=>if decide ((i64 (zmT + zI)) > zg.fNumbers.fStore) then some (0,4,(⟨zg.fNumbers,zY,zg.fLast,z6n⟩ : Sport_Port)) else chk ((((z6n ++ ([(⟨zI,i64 ((max (i64 (zY + zg.fNumbers.fDelay)) zg.fLast) + (i64 (zI * zg.fNumbers.fSlow)))⟩ : Sport_frame)] : List Sport_frame)).length : Nat) : Int) * 16 ≤ 140737488355328 ∧ (((z6n ++ ([(⟨zI,i64 ((max (i64 (zY + zg.fNumbers.fDelay)) zg.fLast) + (i64 (zI * zg.fNumbers.fSlow)))⟩ : Sport_frame)] : List Sport_frame)).length : Nat) : Int) ≤ 4611686018427387904) (some ((i64 ((max (i64 (zY + zg.fNumbers.fDelay)) zg.fLast) + (i64 (zI * zg.fNumbers.fSlow)))),0,(⟨zg.fNumbers,zY,i64 ((max (i64 (zY + zg.fNumbers.fDelay)) zg.fLast) + (i64 (zI * zg.fNumbers.fSlow))),z6n ++ ([(⟨zI,i64 ((max (i64 (zY + zg.fNumbers.fDelay)) zg.fLast) + (i64 (zI * zg.fNumbers.fSlow)))⟩ : Sport_frame)] : List Sport_frame)⟩ : Sport_Port)))
set_option maxRecDepth 20000 in
theorem y7B (Z : Zp) (z3s : Nat) (z3W : Option Addr) (z3X : Nat) (zg : Sport_Port) (zY : Int) (zI : Int) (r : Int × Int × Sport_Port)
     (h : y2z zg zY zI = some r) (w₀ : World) (hz : PZ (fps [stb z3s 143 [(.int .i64 zg.fNumbers.fSlow),(.int .i64 zg.fNumbers.fDelay),(.int .i64 zg.fNumbers.fStore),(.int .i64 zg.fNow),(.int .i64 zg.fLast),(.slice z3W zg.fFrames.length z3X)],row (.slice z3W zg.fFrames.length z3X) 146 2 (zg.fFrames.flatMap y20)]) w₀ Z)
    (hown : Hp (fps [stb z3s 143 [(.int .i64 zg.fNumbers.fSlow),(.int .i64 zg.fNumbers.fDelay),(.int .i64 zg.fNumbers.fStore),(.int .i64 zg.fNow),(.int .i64 zg.fLast),(.slice z3W zg.fFrames.length z3X)],row (.slice z3W zg.fFrames.length z3X) 146 2 (zg.fFrames.flatMap y20)]) w₀ w₀ [stb z3s 143 [(.int .i64 zg.fNumbers.fSlow),(.int .i64 zg.fNumbers.fDelay),(.int .i64 zg.fNumbers.fStore),(.int .i64 zg.fNow),(.int .i64 zg.fLast),(.slice z3W zg.fFrames.length z3X)],row (.slice z3W zg.fFrames.length z3X) 146 2 (zg.fFrames.flatMap y20)]) :
    Calls Try.prog 41 #[(.pointer (some ⟨z3s,0,none⟩)),(.int .i64 zY),(.int .i64 zI)] w₀ fun e w'=>∃ zmU : Option Addr,∃ zmV : Nat,e = .returned (.tuple #[(.int .i64 r.1),(.int .i64 r.2.1)]) ∧ True ∧ Hp (fps [stb z3s 143 [(.int .i64 zg.fNumbers.fSlow),(.int .i64 zg.fNumbers.fDelay),(.int .i64 zg.fNumbers.fStore),(.int .i64 zg.fNow),(.int .i64 zg.fLast),(.slice z3W zg.fFrames.length z3X)],row (.slice z3W zg.fFrames.length z3X) 146 2 (zg.fFrames.flatMap y20)]) w₀ w' [stb z3s 143 [(.int .i64 r.2.2.fNumbers.fSlow),(.int .i64 r.2.2.fNumbers.fDelay),(.int .i64 r.2.2.fNumbers.fStore),(.int .i64 r.2.2.fNow),(.int .i64 r.2.2.fLast),(.slice zmU r.2.2.fFrames.length zmV)],row (.slice zmU r.2.2.fFrames.length zmV) 146 2 (r.2.2.fFrames.flatMap y20)]:=by
  unfold y2z at h
  refine Calls.yk (vs:=[(.pointer (some ⟨z3s,0,none⟩)),(.int .i64 zY),(.int .i64 zI)]) (pre:=[stb z3s 143 [(.int .i64 zg.fNumbers.fSlow),(.int .i64 zg.fNumbers.fDelay),(.int .i64 zg.fNumbers.fStore),(.int .i64 zg.fNow),(.int .i64 zg.fLast),(.slice z3W zg.fFrames.length z3X)],row (.slice z3W zg.fFrames.length z3X) 146 2 (zg.fFrames.flatMap y20)]) (env:=[(0,(.pointer (some ⟨z3s,0,none⟩))),(1,(.int .i64 zY)),(2,(.int .i64 zI))]) Try.func41 rfl Try.ntmps41 rfl (hown) rfl ?_
  refine WC.b (WC.a ?_)
  refine WL.new (dd:=4) rfl rfl rfl (y2g (cs:=[(.int .i64 zY)]) rfl rfl) ?_
  intro zfr _
  refine WL.pu rfl (WL.pu rfl (WL.nil (WX.a (WC.b (WC.block (WC.b ?_))))))
  obtain ⟨z8i,zsi,h⟩:=zh h
  refine WC.a (WL.pu rfl ?_)
  refine WL.b (dd:=10) rfl rfl rfl (zz (l:=[.tmp 9]) Try.call53 (.cons rfl .nil)) .nil (ccl hz .nil (.cons .h1 (.cons .h1 .nil)) fun w pz ho la=>y5i _ _ _ _ _ _ zsi w pz (ZA.row (la _ (.tail _ (.head _)) _) (RR.y1b (enc:=y20) (fun _=>rfl) _) ⟨w,pz.1⟩) ((la _ (.head _) _).stb)) ?_
  refine WL.pu rfl (WL.nil (WX.a ?_))
  refine WC.cond rfl (fun zim=>?_) (fun zim=>?_)
  · replace h:=yl h zim
    refine WC.b (WC.a (WL.pu rfl (WL.pu rfl (WL.nil (WX.a (WC.ret (WX.yL (WX.yj ?_))))))))
    obtain rfl:=Option.some.inj h
    refine WX.yh Try.results41 (.tmp rfl (.tmp rfl .nil)) (fun w hw=>?_)
    exact ⟨z3W,z3X,ret2 rfl rfl,trivial,hw.sub (.cons .h1 (.cons .h1 .nil))⟩
  · replace h:=ym h zim
    refine WC.b ?_
    refine WC.yV (fun i=>[].contains i) [] rfl ?_
    refine WD.a (i:=0) (d:=12) (by kernel_rfl) rfl (z2 (by kernel_rfl)) (z3 (by kernel_rfl)) rfl rfl rfl (fun _=>q_m rfl) ?_
    refine WD.a (i:=1) (d:=13) (by kernel_rfl) rfl (z2 (by kernel_rfl)) (z3 (by kernel_rfl)) rfl rfl rfl (fun _=>y3r rfl rfl) ?_
    refine WD.a (i:=2) (d:=14) (by kernel_rfl) rfl (z2 (by kernel_rfl)) (z3 (by kernel_rfl)) rfl rfl rfl (fun _=>q_m rfl) ?_
    refine WD.mid (fuel':=13) [(0,(.pointer (some ⟨z3s,0,none⟩))),(1,(.int .i64 zY)),(2,(.int .i64 zI)),(4,(.pointer (some ⟨zfr,0,none⟩))),(6,(.int .i64 0)),(7,(.int .i64 0)),(9,(.pointer (some ⟨z3s,0,none⟩))),(10,(.bool z8i)),(8,(.bool z8i)),(12,(.int .i64 zI)),(13,(.bool (decide (zI < 1)))),(14,(.bool (decide (zI < 1)))),(17,(.bool ((decide (zI < 1)) || (decide (zI > 72)))))] (y1j 19 [5,4,3,2,1,0]) ?_ (fun zmW=>?_)
    rotate_left
    · rcases Bool.eq_false_or_eq_true (decide (zI < 1)) with hb' | hb'
      · have zin:=hb'; clear hb'
        refine WD.pin (i:=14) rfl zin ?_
        refine WD.b (i:=3) (d:=15) (by kernel_rfl) rfl (z2 (by kernel_rfl)) (z3 (by kernel_rfl)) rfl rfl rfl ?_
        refine WD.b (i:=4) (d:=16) (by kernel_rfl) rfl (z2 (by kernel_rfl)) (z3 (by kernel_rfl)) rfl rfl rfl ?_
        refine WD.a (i:=5) (d:=17) (by kernel_rfl) rfl (z2 (by kernel_rfl)) (z3 (by kernel_rfl)) rfl rfl rfl (fun _=>y1y rfl rfl) ?_
        refine WD.yK (.cons .here (.cons .here (.cons .here .nil))) ?_ zmW
        exact (.cons rfl (.cons rfl (.cons rfl (.cons rfl (.cons rfl (.cons rfl (.cons rfl (.cons rfl (.cons rfl (.cons rfl (.cons rfl (.cons (zr (Eq.symm zin)) (.cons (zr (y2k zin)) .nil)))))))))))))
      · have zio:=hb'; clear hb'
        refine WD.pin (i:=14) rfl zio ?_
        refine WD.a (i:=3) (d:=15) (by kernel_rfl) rfl (z2 (by kernel_rfl)) (z3 (by kernel_rfl)) rfl rfl rfl (fun _=>q_m rfl) ?_
        refine WD.a (i:=4) (d:=16) (by kernel_rfl) rfl (z2 (by kernel_rfl)) (z3 (by kernel_rfl)) rfl rfl rfl (fun _=>y3K rfl rfl) ?_
        refine WD.a (i:=5) (d:=17) (by kernel_rfl) rfl (z2 (by kernel_rfl)) (z3 (by kernel_rfl)) rfl rfl rfl (fun _=>y1z rfl rfl) ?_
        refine WD.yK (.cons .here (.cons .here (.cons .here .nil))) ?_ zmW
        exact (.cons rfl (.cons rfl (.cons rfl (.cons rfl (.cons rfl (.cons rfl (.cons rfl (.cons rfl (.cons rfl (.cons rfl (.cons rfl (.cons (zr (Eq.symm zio)) (.cons (zr (y2l zio)) .nil)))))))))))))
    refine WD.a (i:=6) (d:=18) (by kernel_rfl) rfl (z2 (by kernel_rfl)) (z3 (by kernel_rfl)) rfl rfl rfl (fun _=>q_m rfl) ?_
    refine WD.mid (fuel':=5) [(0,(.pointer (some ⟨z3s,0,none⟩))),(1,(.int .i64 zY)),(2,(.int .i64 zI)),(4,(.pointer (some ⟨zfr,0,none⟩))),(6,(.int .i64 0)),(7,(.int .i64 0)),(9,(.pointer (some ⟨z3s,0,none⟩))),(10,(.bool z8i)),(8,(.bool z8i)),(12,(.int .i64 zI)),(13,(.bool (decide (zI < 1)))),(14,(.bool (decide (zI < 1)))),(17,(.bool ((decide (zI < 1)) || (decide (zI > 72))))),(18,(.bool ((decide (zI < 1)) || (decide (zI > 72))))),(25,(.bool (((decide (zI < 1)) || (decide (zI > 72))) || (decide (zY < zg.fNow)))))] (y1j 19 [13,12,11,10,9,8,7,6,5,4,3,2,1,0]) ?_ (fun zmX=>?_)
    rotate_left
    · rcases Bool.eq_false_or_eq_true ((decide (zI < 1)) || (decide (zI > 72))) with hb' | hb'
      · have ziq:=hb'; clear hb'
        refine WD.pin (i:=18) rfl ziq ?_
        refine WD.b (i:=7) (d:=19) (by kernel_rfl) rfl (z2 (by kernel_rfl)) (z3 (by kernel_rfl)) rfl rfl rfl ?_
        refine WD.b (i:=8) (d:=20) (by kernel_rfl) rfl (z2 (by kernel_rfl)) (z3 (by kernel_rfl)) rfl rfl rfl ?_
        refine WD.b (i:=9) (d:=21) (by kernel_rfl) rfl (z2 (by kernel_rfl)) (z3 (by kernel_rfl)) rfl rfl rfl ?_
        refine WD.b (i:=10) (d:=22) (by kernel_rfl) rfl (z2 (by kernel_rfl)) (z3 (by kernel_rfl)) rfl rfl rfl ?_
        refine WD.b (i:=11) (d:=23) (by kernel_rfl) rfl (z2 (by kernel_rfl)) (z3 (by kernel_rfl)) rfl rfl rfl ?_
        refine WD.b (i:=12) (d:=24) (by kernel_rfl) rfl (z2 (by kernel_rfl)) (z3 (by kernel_rfl)) rfl rfl rfl ?_
        refine WD.a (i:=13) (d:=25) (by kernel_rfl) rfl (z2 (by kernel_rfl)) (z3 (by kernel_rfl)) rfl rfl rfl (fun _=>y1y rfl rfl) ?_
        refine WD.yK (.cons .here (.cons .here (.cons .here .nil))) ?_ zmX
        exact (.cons rfl (.cons rfl (.cons rfl (.cons rfl (.cons rfl (.cons rfl (.cons rfl (.cons rfl (.cons rfl (.cons rfl (.cons rfl (.cons rfl (.cons rfl (.cons (zr (Eq.symm ziq)) (.cons (zr (y2k ziq)) .nil)))))))))))))))
      · have zir:=hb'; clear hb'
        refine WD.pin (i:=18) rfl zir ?_
        refine WD.e (i:=7) (d:=19) (by kernel_rfl) rfl (z2 (by kernel_rfl)) (z3 (by kernel_rfl)) rfl rfl rfl (yb yg rfl (yc .here rfl)) ?_
        refine WD.a (i:=8) (d:=20) (by kernel_rfl) rfl (z2 (by kernel_rfl)) (z3 (by kernel_rfl)) rfl rfl rfl (fun _=>q_m rfl) ?_
        refine WD.a (i:=9) (d:=21) (by kernel_rfl) rfl (z2 (by kernel_rfl)) (z3 (by kernel_rfl)) rfl rfl rfl (fun _=>yt rfl) ?_
        refine WD.a (i:=10) (d:=22) (by kernel_rfl) rfl (z2 (by kernel_rfl)) (z3 (by kernel_rfl)) rfl rfl rfl (fun _=>ya y7g rfl rfl) ?_
        refine WD.e (i:=11) (d:=23) (by kernel_rfl) rfl (z2 (by kernel_rfl)) (z3 (by kernel_rfl)) rfl rfl rfl (yb yg rfl (yc .h1 rfl)) ?_
        refine WD.a (i:=12) (d:=24) (by kernel_rfl) rfl (z2 (by kernel_rfl)) (z3 (by kernel_rfl)) rfl rfl rfl (fun _=>y3r rfl rfl) ?_
        refine WD.a (i:=13) (d:=25) (by kernel_rfl) rfl (z2 (by kernel_rfl)) (z3 (by kernel_rfl)) rfl rfl rfl (fun _=>y1z rfl rfl) ?_
        refine WD.yK (.cons .here (.cons .here (.cons .here .nil))) ?_ zmX
        exact (.cons rfl (.cons rfl (.cons rfl (.cons rfl (.cons rfl (.cons rfl (.cons rfl (.cons rfl (.cons rfl (.cons rfl (.cons rfl (.cons rfl (.cons rfl (.cons (zr (Eq.symm zir)) (.cons (zr (y2l zir)) .nil)))))))))))))))
    refine WD.a (i:=14) (d:=26) (by kernel_rfl) rfl (z2 (by kernel_rfl)) (z3 (by kernel_rfl)) rfl rfl rfl (fun _=>q_m rfl) ?_
    refine WD.mid (fuel':=1) [(0,(.pointer (some ⟨z3s,0,none⟩))),(1,(.int .i64 zY)),(2,(.int .i64 zI)),(4,(.pointer (some ⟨zfr,0,none⟩))),(6,(.int .i64 0)),(7,(.int .i64 0)),(9,(.pointer (some ⟨z3s,0,none⟩))),(10,(.bool z8i)),(8,(.bool z8i)),(12,(.int .i64 zI)),(13,(.bool (decide (zI < 1)))),(14,(.bool (decide (zI < 1)))),(17,(.bool ((decide (zI < 1)) || (decide (zI > 72))))),(18,(.bool ((decide (zI < 1)) || (decide (zI > 72))))),(25,(.bool (((decide (zI < 1)) || (decide (zI > 72))) || (decide (zY < zg.fNow))))),(26,(.bool (((decide (zI < 1)) || (decide (zI > 72))) || (decide (zY < zg.fNow))))),(29,(.bool ((((decide (zI < 1)) || (decide (zI > 72))) || (decide (zY < zg.fNow))) || (decide (zY > 1073741824)))))] (y1j 19 [17,16,15,14,13,12,11,10,9,8,7,6,5,4,3,2,1,0]) ?_ (fun zmY=>?_)
    rotate_left
    · rcases Bool.eq_false_or_eq_true (((decide (zI < 1)) || (decide (zI > 72))) || (decide (zY < zg.fNow))) with hb' | hb'
      · have zis:=hb'; clear hb'
        refine WD.pin (i:=26) rfl zis ?_
        refine WD.b (i:=15) (d:=27) (by kernel_rfl) rfl (z2 (by kernel_rfl)) (z3 (by kernel_rfl)) rfl rfl rfl ?_
        refine WD.b (i:=16) (d:=28) (by kernel_rfl) rfl (z2 (by kernel_rfl)) (z3 (by kernel_rfl)) rfl rfl rfl ?_
        refine WD.a (i:=17) (d:=29) (by kernel_rfl) rfl (z2 (by kernel_rfl)) (z3 (by kernel_rfl)) rfl rfl rfl (fun _=>y1y rfl rfl) ?_
        refine WD.yK (.cons .here (.cons .here (.cons .here .nil))) ?_ zmY
        exact (.cons rfl (.cons rfl (.cons rfl (.cons rfl (.cons rfl (.cons rfl (.cons rfl (.cons rfl (.cons rfl (.cons rfl (.cons rfl (.cons rfl (.cons rfl (.cons rfl (.cons rfl (.cons (zr (Eq.symm zis)) (.cons (zr (y2k zis)) .nil)))))))))))))))))
      · have zit:=hb'; clear hb'
        refine WD.pin (i:=26) rfl zit ?_
        refine WD.e (i:=15) (d:=27) (by kernel_rfl) rfl (z2 (by kernel_rfl)) (z3 (by kernel_rfl)) rfl rfl rfl (yb yg rfl (yc .here rfl)) ?_
        refine WD.a (i:=16) (d:=28) (by kernel_rfl) rfl (z2 (by kernel_rfl)) (z3 (by kernel_rfl)) rfl rfl rfl (fun _=>y3K rfl rfl) ?_
        refine WD.a (i:=17) (d:=29) (by kernel_rfl) rfl (z2 (by kernel_rfl)) (z3 (by kernel_rfl)) rfl rfl rfl (fun _=>y1z rfl rfl) ?_
        refine WD.yK (.cons .here (.cons .here (.cons .here .nil))) ?_ zmY
        exact (.cons rfl (.cons rfl (.cons rfl (.cons rfl (.cons rfl (.cons rfl (.cons rfl (.cons rfl (.cons rfl (.cons rfl (.cons rfl (.cons rfl (.cons rfl (.cons rfl (.cons rfl (.cons (zr (Eq.symm zit)) (.cons (zr (y2l zit)) .nil)))))))))))))))))
    refine WD.a (i:=18) (d:=11) (by kernel_rfl) rfl (z2 (by kernel_rfl)) (z3 (by kernel_rfl)) rfl rfl rfl (fun _=>q_z rfl) ?_
    refine WD.done (by kernel_rfl) ?_
    refine WX.a ?_
    refine WC.cond rfl (fun ziu=>?_) (fun ziu=>?_)
    · replace h:=yl h ziu
      refine WC.b (WC.a (WL.pu rfl (WL.pu rfl (WL.nil (WX.a (WC.ret (WX.yL (WX.yj ?_))))))))
      obtain rfl:=Option.some.inj h
      refine WX.yh Try.results41 (.tmp rfl (.tmp rfl .nil)) (fun w hw=>?_)
      exact ⟨z3W,z3X,ret2 rfl rfl,trivial,hw.sub (.cons .h1 (.cons .h1 .nil))⟩
    · replace h:=ym h ziu
      refine WC.skip (WX.yf (WX.a (WC.b (WC.a (WL.pu rfl ?_)))))
      refine WL.a (d:=31) rfl rfl rfl (yb yg rfl (yc .here rfl)) ?_
      refine WL.a (d:=32) rfl rfl rfl (yt rfl) ?_
      refine WL.a (d:=33) rfl rfl rfl (ya y7g rfl rfl) ?_
      refine WL.y1r rfl rfl (y3p (ds:=[(.int .i64 zg.fNumbers.fSlow),(.int .i64 zg.fNumbers.fDelay),(.int .i64 zg.fNumbers.fStore),(.int .i64 zY),(.int .i64 zg.fLast),(.slice z3W zg.fFrames.length z3X)]) y6H rfl rfl rfl rfl rfl .h1 rfl rfl) ?_
      refine WL.nil (WX.a (WC.b ?_))
      obtain ⟨z6n,zsj,h⟩:=zh h
      refine WC.a (WL.pu rfl (WL.pu rfl ?_))
      refine WL.a (d:=36) rfl rfl rfl (yt rfl) ?_
      refine WL.a (d:=37) rfl rfl rfl (ya y5g rfl rfl) ?_
      refine WL.a (d:=38) rfl rfl rfl (yb zgq rfl (yc .here rfl)) ?_
      refine WL.a (d:=39) rfl rfl rfl (y67 (Eos.caps (l:=[.tmp 4]) (.cons rfl .nil))) ?_
      refine WL.y4T (dd:=40) rfl rfl rfl (zz (l:=[.tmp 38,.tmp 39]) Try.call54 (.cons rfl (.cons rfl .nil))) (.cons .h2 .nil) (ccl hz (.cons .h2 .nil) (.cons .h1 .nil) fun w pz ho la=>y3D _ _ _ (z5d:=55) (z7r:=[(.pointer (some ⟨zfr,0,none⟩))]) _ (z3U:=(fun (y0 : Sport_frame)=>y2B y0 zY)) _ zsj w pz Try.call55 (fun w' hz' y0  r  hr=>y74 _ _ _ _ _ hr w' hz' ((la _ (.head _) _).stb)) ho) ?_
      rintro ziv ziw _
      refine WL.a (d:=41) rfl rfl rfl (yt rfl) ?_
      refine WL.a (d:=42) rfl rfl rfl (ya y5g rfl rfl) ?_
      refine WL.y1r rfl rfl (y3p (ds:=[(.int .i64 zg.fNumbers.fSlow),(.int .i64 zg.fNumbers.fDelay),(.int .i64 zg.fNumbers.fStore),(.int .i64 zY),(.int .i64 zg.fLast),(.slice ziv z6n.length ziw)]) zk9 rfl rfl rfl rfl rfl .h1 rfl rfl) ?_
      refine WL.nil (WX.a (WC.b (WC.b ?_)))
      obtain ⟨zmT,zsk,h⟩:=zh h
      refine WC.yV (fun i=>[].contains i) [] rfl ?_
      refine WD.a (i:=0) (d:=43) (by kernel_rfl) rfl (z2 (by kernel_rfl)) (z3 (by kernel_rfl)) rfl rfl rfl (fun _=>q_m rfl) ?_
      refine WD.e (i:=1) (d:=44) (by kernel_rfl) rfl (z2 (by kernel_rfl)) (z3 (by kernel_rfl)) rfl rfl rfl (yb yg rfl (yc .h2 rfl)) ?_
      refine WD.c (i:=2) (d:=45) (by kernel_rfl) rfl (z2 (by kernel_rfl)) (z3 (by kernel_rfl)) rfl rfl rfl (zz (l:=[.tmp 43,.tmp 44]) Try.call56 (.cons rfl (.cons rfl .nil))) (ccl hz .nil (.cons .here (.cons .here .nil)) fun w pz ho la=>y7j _ _ _ _ _ _ _ zsk w pz (ZA.row (la _ (.tail _ (.head _)) _) (RR.y1b (enc:=y20) (fun _=>rfl) _) ⟨w,pz.1⟩) ((la _ (.head _) _).stb)) ?_
      refine WD.a (i:=3) (d:=46) (by kernel_rfl) rfl (z2 (by kernel_rfl)) (z3 (by kernel_rfl)) rfl rfl rfl (fun _=>q_m rfl) ?_
      refine WD.a (i:=4) (d:=47) (by kernel_rfl) rfl (z2 (by kernel_rfl)) (z3 (by kernel_rfl)) rfl rfl rfl (fun _=>y4w rfl rfl rfl) ?_
      refine WD.a (i:=5) (d:=48) (by kernel_rfl) rfl (z2 (by kernel_rfl)) (z3 (by kernel_rfl)) rfl rfl rfl (fun _=>q_m rfl) ?_
      refine WD.a (i:=6) (d:=49) (by kernel_rfl) rfl (z2 (by kernel_rfl)) (z3 (by kernel_rfl)) rfl rfl rfl (fun _=>yt rfl) ?_
      refine WD.a (i:=7) (d:=50) (by kernel_rfl) rfl (z2 (by kernel_rfl)) (z3 (by kernel_rfl)) rfl rfl rfl (fun _=>ya y6f rfl rfl) ?_
      refine WD.a (i:=8) (d:=51) (by kernel_rfl) rfl (z2 (by kernel_rfl)) (z3 (by kernel_rfl)) rfl rfl rfl (fun _=>ya fo_140_2 rfl rfl) ?_
      refine WD.e (i:=9) (d:=52) (by kernel_rfl) rfl (z2 (by kernel_rfl)) (z3 (by kernel_rfl)) rfl rfl rfl (yb yg rfl (yc .here rfl)) ?_
      refine WD.a (i:=10) (d:=53) (by kernel_rfl) rfl (z2 (by kernel_rfl)) (z3 (by kernel_rfl)) rfl rfl rfl (fun _=>y3K rfl rfl) ?_
      refine WD.done (by kernel_rfl) ?_
      refine WX.a ?_
      refine WC.cond rfl (fun zix=>?_) (fun zix=>?_)
      · replace h:=yl h zix
        refine WC.b (WC.a (WL.pu rfl (WL.pu rfl (WL.nil (WX.a (WC.ret (WX.yj ?_)))))))
        obtain rfl:=Option.some.inj h
        refine WX.yh Try.results41 (.tmp rfl (.tmp rfl .nil)) (fun w hw=>?_)
        exact ⟨ziv,ziw,ret2 rfl rfl,trivial,hw.sub (.cons .here (.cons .here .nil))⟩
      · replace h:=ym h zix
        refine WC.skip (WX.a (WC.b ?_))
        refine WC.yV (fun i=>[23].contains i) [] rfl ?_
        refine WD.a (i:=0) (d:=54) (by kernel_rfl) rfl (z2 (by kernel_rfl)) (z3 (by kernel_rfl)) rfl rfl rfl (fun _=>q_m rfl) ?_
        refine WD.e (i:=1) (d:=55) (by kernel_rfl) rfl (z2 (by kernel_rfl)) (z3 (by kernel_rfl)) rfl rfl rfl (yb yg rfl (yc .h2 rfl)) ?_
        refine WD.a (i:=2) (d:=56) (by kernel_rfl) rfl (z2 (by kernel_rfl)) (z3 (by kernel_rfl)) rfl rfl rfl (fun _=>q_m rfl) ?_
        refine WD.a (i:=3) (d:=57) (by kernel_rfl) rfl (z2 (by kernel_rfl)) (z3 (by kernel_rfl)) rfl rfl rfl (fun _=>yt rfl) ?_
        refine WD.a (i:=4) (d:=58) (by kernel_rfl) rfl (z2 (by kernel_rfl)) (z3 (by kernel_rfl)) rfl rfl rfl (fun _=>ya y6f rfl rfl) ?_
        refine WD.a (i:=5) (d:=59) (by kernel_rfl) rfl (z2 (by kernel_rfl)) (z3 (by kernel_rfl)) rfl rfl rfl (fun _=>ya fo_140_1 rfl rfl) ?_
        refine WD.e (i:=6) (d:=60) (by kernel_rfl) rfl (z2 (by kernel_rfl)) (z3 (by kernel_rfl)) rfl rfl rfl (yb yg rfl (yc .here rfl)) ?_
        refine WD.a (i:=7) (d:=61) (by kernel_rfl) rfl (z2 (by kernel_rfl)) (z3 (by kernel_rfl)) rfl rfl rfl (fun _=>y4w rfl rfl rfl) ?_
        refine WD.a (i:=8) (d:=62) (by kernel_rfl) rfl (z2 (by kernel_rfl)) (z3 (by kernel_rfl)) rfl rfl rfl (fun _=>q_m rfl) ?_
        refine WD.a (i:=9) (d:=63) (by kernel_rfl) rfl (z2 (by kernel_rfl)) (z3 (by kernel_rfl)) rfl rfl rfl (fun _=>yt rfl) ?_
        refine WD.a (i:=10) (d:=64) (by kernel_rfl) rfl (z2 (by kernel_rfl)) (z3 (by kernel_rfl)) rfl rfl rfl (fun _=>ya y6g rfl rfl) ?_
        refine WD.e (i:=11) (d:=65) (by kernel_rfl) rfl (z2 (by kernel_rfl)) (z3 (by kernel_rfl)) rfl rfl rfl (yb yg rfl (yc .here rfl)) ?_
        refine WD.a (i:=12) (d:=66) (by kernel_rfl) rfl (z2 (by kernel_rfl)) (z3 (by kernel_rfl)) rfl rfl rfl (fun _=>q_max rfl rfl rfl) ?_
        refine WD.a (i:=13) (d:=67) (by kernel_rfl) rfl (z2 (by kernel_rfl)) (z3 (by kernel_rfl)) rfl rfl rfl (fun _=>q_m rfl) ?_
        refine WD.a (i:=14) (d:=68) (by kernel_rfl) rfl (z2 (by kernel_rfl)) (z3 (by kernel_rfl)) rfl rfl rfl (fun _=>q_m rfl) ?_
        refine WD.a (i:=15) (d:=69) (by kernel_rfl) rfl (z2 (by kernel_rfl)) (z3 (by kernel_rfl)) rfl rfl rfl (fun _=>yt rfl) ?_
        refine WD.a (i:=16) (d:=70) (by kernel_rfl) rfl (z2 (by kernel_rfl)) (z3 (by kernel_rfl)) rfl rfl rfl (fun _=>ya y6f rfl rfl) ?_
        refine WD.a (i:=17) (d:=71) (by kernel_rfl) rfl (z2 (by kernel_rfl)) (z3 (by kernel_rfl)) rfl rfl rfl (fun _=>ya y8M rfl rfl) ?_
        refine WD.e (i:=18) (d:=72) (by kernel_rfl) rfl (z2 (by kernel_rfl)) (z3 (by kernel_rfl)) rfl rfl rfl (yb yg rfl (yc .here rfl)) ?_
        refine WD.a (i:=19) (d:=73) (by kernel_rfl) rfl (z2 (by kernel_rfl)) (z3 (by kernel_rfl)) rfl rfl rfl (fun _=>q_mul rfl rfl rfl) ?_
        refine WD.a (i:=20) (d:=74) (by kernel_rfl) rfl (z2 (by kernel_rfl)) (z3 (by kernel_rfl)) rfl rfl rfl (fun _=>y4w rfl rfl rfl) ?_
        refine WD.a (i:=21) (d:=75) (by kernel_rfl) rfl (z2 (by kernel_rfl)) (z3 (by kernel_rfl)) rfl rfl rfl (fun _=>yt rfl) ?_
        refine WD.a (i:=22) (d:=76) (by kernel_rfl) rfl (z2 (by kernel_rfl)) (z3 (by kernel_rfl)) rfl rfl rfl (fun _=>ya y6g rfl rfl) ?_
        refine WD.y2F (i:=23) rfl (by kernel_rfl) rfl rfl rfl (by kernel_rfl) (y3p (ds:=[(.int .i64 zg.fNumbers.fSlow),(.int .i64 zg.fNumbers.fDelay),(.int .i64 zg.fNumbers.fStore),(.int .i64 zY),(.int .i64 (i64 ((max (i64 (zY + zg.fNumbers.fDelay)) zg.fLast) + (i64 (zI * zg.fNumbers.fSlow))))),(.slice ziv z6n.length ziw)]) y6H rfl rfl rfl rfl rfl .here rfl rfl) ?_
        refine WD.done (by kernel_rfl) ?_
        refine WX.a (WC.b ?_)
        obtain ⟨zsl,h⟩:=yi h
        refine WC.yV (fun i=>[12,15].contains i) [] rfl ?_
        refine WD.a (i:=0) (d:=77) (by kernel_rfl) rfl (z2 (by kernel_rfl)) (z3 (by kernel_rfl)) rfl rfl rfl (fun _=>q_m rfl) ?_
        refine WD.a (i:=1) (d:=78) (by kernel_rfl) rfl (z2 (by kernel_rfl)) (z3 (by kernel_rfl)) rfl rfl rfl (fun _=>q_m rfl) ?_
        refine WD.a (i:=2) (d:=79) (by kernel_rfl) rfl (z2 (by kernel_rfl)) (z3 (by kernel_rfl)) rfl rfl rfl (fun _=>yt rfl) ?_
        refine WD.a (i:=3) (d:=80) (by kernel_rfl) rfl (z2 (by kernel_rfl)) (z3 (by kernel_rfl)) rfl rfl rfl (fun _=>ya y5g rfl rfl) ?_
        refine WD.e (i:=4) (d:=81) (by kernel_rfl) rfl (z2 (by kernel_rfl)) (z3 (by kernel_rfl)) rfl rfl rfl (yb zgq rfl (yc .here rfl)) ?_
        refine WD.a (i:=5) (d:=82) (by kernel_rfl) rfl (z2 (by kernel_rfl)) (z3 (by kernel_rfl)) rfl rfl rfl (fun _=>q_m rfl) ?_
        refine WD.a (i:=6) (d:=83) (by kernel_rfl) rfl (z2 (by kernel_rfl)) (z3 (by kernel_rfl)) rfl rfl rfl (fun _=>q_m rfl) ?_
        refine WD.a (i:=7) (d:=84) (by kernel_rfl) rfl (z2 (by kernel_rfl)) (z3 (by kernel_rfl)) rfl rfl rfl (fun _=>yt rfl) ?_
        refine WD.a (i:=8) (d:=85) (by kernel_rfl) rfl (z2 (by kernel_rfl)) (z3 (by kernel_rfl)) rfl rfl rfl (fun _=>ya y6g rfl rfl) ?_
        refine WD.e (i:=9) (d:=86) (by kernel_rfl) rfl (z2 (by kernel_rfl)) (z3 (by kernel_rfl)) rfl rfl rfl (yb yg rfl (yc .here rfl)) ?_
        refine WD.a (i:=10) (d:=87) (by kernel_rfl) rfl (z2 (by kernel_rfl)) (z3 (by kernel_rfl)) rfl rfl rfl (fun _=>y1D (v:=(.agg #[(.int .i64 zI),(.int .i64 (i64 ((max (i64 (zY + zg.fNumbers.fDelay)) zg.fLast) + (i64 (zI * zg.fNumbers.fSlow)))))])) (Eos.parts (l:=[.tmp 82,.tmp 86]) (.cons rfl (.cons rfl .nil)) [0,1]) (fun _=>by kernel_rfl)) ?_
        refine WD.new (i:=11) (dd:=88) rfl (by kernel_rfl) rfl rfl rfl (yZ (cs:=([(⟨zI,i64 ((max (i64 (zY + zg.fNumbers.fDelay)) zg.fLast) + (i64 (zI * zg.fNumbers.fSlow)))⟩ : Sport_frame)] : List Sport_frame).flatMap y20) z6O (Eos.parts (l:=[.tmp 87]) (.cons rfl .nil) [0]) (fun _=>by kernel_rfl) rfl (by unfold maxLen; omega)) (fun h'=>absurd h' (by decide)) ?_
        intro zxG _
        refine WD.old (i:=12) (dd:=89) rfl (by kernel_rfl) rfl rfl rfl rfl (fun _=>(Sin.of .nil)) (y46 (enc:=y20) (l1:=z6n) (l2:=([(⟨zI,i64 ((max (i64 (zY + zg.fNumbers.fDelay)) zg.fLast) + (i64 (zI * zg.fNumbers.fSlow)))⟩ : Sport_frame)] : List Sport_frame)) z6O rfl rfl .h2 (fun _=>rfl) rfl rfl (y5b .here) (y4q y9g _) zsl) ?_
        rintro ⟨zmZ,zn0⟩ _
        refine WD.a (i:=13) (d:=90) (by kernel_rfl) rfl (z2 (by kernel_rfl)) (z3 (by kernel_rfl)) rfl rfl rfl (fun _=>yt rfl) ?_
        refine WD.a (i:=14) (d:=91) (by kernel_rfl) rfl (z2 (by kernel_rfl)) (z3 (by kernel_rfl)) rfl rfl rfl (fun _=>ya y5g rfl rfl) ?_
        refine WD.y2F (i:=15) rfl (by kernel_rfl) rfl rfl rfl (by kernel_rfl) (y3p (ds:=[(.int .i64 zg.fNumbers.fSlow),(.int .i64 zg.fNumbers.fDelay),(.int .i64 zg.fNumbers.fStore),(.int .i64 zY),(.int .i64 (i64 ((max (i64 (zY + zg.fNumbers.fDelay)) zg.fLast) + (i64 (zI * zg.fNumbers.fSlow))))),(.slice zmZ ((z6n ++ ([(⟨zI,i64 ((max (i64 (zY + zg.fNumbers.fDelay)) zg.fLast) + (i64 (zI * zg.fNumbers.fSlow)))⟩ : Sport_frame)] : List Sport_frame)).length) zn0)]) zk9 rfl rfl rfl rfl rfl .h2 rfl rfl) ?_
        refine WD.done (by kernel_rfl) ?_
        refine WX.a (WC.b (WC.a (WL.pu rfl ?_)))
        refine WL.a (d:=93) rfl rfl rfl (yt rfl) ?_
        refine WL.a (d:=94) rfl rfl rfl (ya y6g rfl rfl) ?_
        refine WL.a (d:=95) rfl rfl rfl (yb yg rfl (yc .here rfl)) ?_
        refine WL.pu rfl (WL.pu rfl (WL.nil (WX.a (WC.ret ?_))))
        obtain rfl:=Option.some.inj h
        refine WX.yh Try.results41 (.tmp rfl (.tmp rfl .nil)) (fun w hw=>?_)
        exact ⟨zmZ,zn0,ret2 rfl rfl,trivial,hw.sub (.cons .here (.cons .here .nil))⟩
def y2O (zm : Sapi_Config) (z3e : List (List Sapi_Hop)) (z2C : List zSt) (zfs : List (Snetwork_exit × Sport_Port)) (z2L : List Snetwork_event) (z1m : List Sapi_Come) (z1j : List Sapi_Come) : Option (List Snetwork_event × List Sapi_Come × List Sapi_Come × (List (Snetwork_exit × Sport_Port))) :=
  (y2q z2L).bind fun z7=>(y3b zm z3e z2C zfs z7.2 z1m z1j z7.1.fHop).bind fun z2D=>chk ((0 : Int) ≤ z7.1.fSent ∧ z7.1.fSent < ((z2C.length : Nat) : Int)) (chk (y2c z2D (⟨z7.1.fHop.fNode,z7.1.fHop.fLink⟩ : Snetwork_exit) = true) ((y2z (⟨(⟨(((yw z2D (⟨z7.1.fHop.fNode,z7.1.fHop.fLink⟩ : Snetwork_exit) default).fNumbers).fSlow),(((yw z2D (⟨z7.1.fHop.fNode,z7.1.fHop.fLink⟩ : Snetwork_exit) default).fNumbers).fDelay),(((yw z2D (⟨z7.1.fHop.fNode,z7.1.fHop.fLink⟩ : Snetwork_exit) default).fNumbers).fStore)⟩ : Sport_numbers),((yw z2D (⟨z7.1.fHop.fNode,z7.1.fHop.fLink⟩ : Snetwork_exit) default).fNow),((yw z2D (⟨z7.1.fHop.fNode,z7.1.fHop.fLink⟩ : Snetwork_exit) default).fLast),((yw z2D (⟨z7.1.fHop.fNode,z7.1.fHop.fLink⟩ : Snetwork_exit) default).fFrames)⟩ : Sport_Port) z7.1.fTime ((nth z2C z7.1.fSent).fSize)).bind fun z29=>if decide (z29.2.1 ≠ 0) then chk ((((z1j ++ ([(⟨z7.1.fSent,z7.1.fHop.fNode,z7.1.fTime⟩ : Sapi_Come)] : List Sapi_Come)).length : Nat) : Int) * 24 ≤ 140737488355328 ∧ (((z1j ++ ([(⟨z7.1.fSent,z7.1.fHop.fNode,z7.1.fTime⟩ : Sapi_Come)] : List Sapi_Come)).length : Nat) : Int) ≤ 4611686018427387904) (some (z7.2,z1m,(z1j ++ ([(⟨z7.1.fSent,z7.1.fHop.fNode,z7.1.fTime⟩ : Sapi_Come)] : List Sapi_Come)),(y14 z2D (⟨z7.1.fHop.fNode,z7.1.fHop.fLink⟩ : Snetwork_exit) z29.2.2))) else jp1 (fun (z5g : List Sapi_Come)=>(y2i zm z3e z2C (y14 z2D (⟨z7.1.fHop.fNode,z7.1.fHop.fLink⟩ : Snetwork_exit) z29.2.2) z7.2 z5g z1j z7.1.fHop.fNext z29.1 z7.1.fHop.fLink z7.1.fSent).bind fun zn1=>some (zn1,z5g,z1j,(y14 z2D (⟨z7.1.fHop.fNode,z7.1.fHop.fLink⟩ : Snetwork_exit) z29.2.2))) fun zft=>if decide (z7.1.fHop.fNext < ((zm.fModules.length : Nat) : Int)) then chk ((((z1m ++ ([(⟨z7.1.fSent,z7.1.fHop.fNext,z29.1⟩ : Sapi_Come)] : List Sapi_Come)).length : Nat) : Int) * 24 ≤ 140737488355328 ∧ (((z1m ++ ([(⟨z7.1.fSent,z7.1.fHop.fNext,z29.1⟩ : Sapi_Come)] : List Sapi_Come)).length : Nat) : Int) ≤ 4611686018427387904) (zft (z1m ++ ([(⟨z7.1.fSent,z7.1.fHop.fNext,z29.1⟩ : Sapi_Come)] : List Sapi_Come))) else zft z1m))
set_option maxRecDepth 20000 in
theorem y6K (Z : Zp) (z3H : Nat) (z4A : Option Addr) (z4B : Nat) (z4C : Option Addr) (z4D : Nat) (z4E : Option Addr) (z4F : Nat) (z4G : Option Addr) (z4H : Nat) (z4I : Option Addr) (z4J : Nat) (z4K : Option Addr) (z4L : Nat) (z4M : Option Addr) (z4N : Nat) (z4O : Option Addr) (z4P : Nat) (z4Q : Option Addr) (z4R : Nat) (z3Y : Option Addr) (z3Z : Nat) (z2n : Nat) (z5h : List (Snetwork_exit × ((Nat × (Option Addr × Nat)) × Sport_Port))) (z6o : Option Addr) (z6p : Nat) (z2Z : Option Addr) (z30 : Nat) (z2M : Option Addr) (z2N : Nat) (zm : Sapi_Config) (z3e : List (List Sapi_Hop)) (z2C : List zSt) (zfs : List (Snetwork_exit × Sport_Port)) (z2L : List Snetwork_event) (z1m : List Sapi_Come) (z1j : List Sapi_Come) (r : List Snetwork_event × List Sapi_Come × List Sapi_Come × (List (Snetwork_exit × Sport_Port)))
     (h : y2O zm z3e z2C zfs z2L z1m z1j = some r) (w₀ : World) (hz : PZ (fps [stb z3H 81 [(.slice z4A zm.fModules.length z4B),(.slice z4C zm.fChannels.length z4D),(.slice z4E zm.fSwitches.length z4F),(.slice z4G zm.fLinks.length z4H),(.slice z4I zm.fVLs.length z4J),(.slice z4K zm.fHealth.length z4L),(.slice z4M zm.fCauses.length z4N),(.slice z4O zm.fVersions.length z4P),(.slice z4Q z3e.length z4R),(.slice z3Y z2C.length z3Z),(.map (some z2n)),(.slice z6o z2L.length z6p),(.slice z2Z z1m.length z30),(.slice z2M z1j.length z2N)],y1e z2n (fun x=>Value.agg (y1S x).toArray) Value.pointer (y1n z5h),y1l z12 z5h,row (.slice z6o z2L.length z6p) 113 7 (z2L.flatMap yx),row (.slice z2Z z1m.length z30) 50 3 (z1m.flatMap e50),row (.slice z2M z1j.length z2N) 50 3 (z1j.flatMap e50)]) w₀ Z)
     (zn2 : ZS Z 4 (y2x Z) z4A z4B zm.fModules)
     (zn3 : ZS Z 4 (y2W Z) z4C z4D zm.fChannels)
     (zn4 : ZS Z 4 (fun r x=>r = e64 x) z4E z4F zm.fSwitches)
     (zn5 : ZS Z 4 (fun r x=>r = e62 x) z4G z4H zm.fLinks)
     (zn6 : ZS Z 7 (y2J Z) z4I z4J zm.fVLs)
     (zn7 : ZS Z 5 (fun r x=>r = y2Z x) z4K z4L zm.fHealth)
     (zn8 : ZS Z 3 (y2X Z) z4M z4N zm.fCauses)
     (zn9 : ZS Z 4 (fun r x=>r = y30 x) z4O z4P zm.fVersions)
     (zna : ZS Z 1 (p55 Z) z4Q z4R z3e)
     (ziy : ZS Z 3 (fun r x=>r = e53 x) z3Y z3Z z2C)
     (zsm : dat z5h = zfs)
    (hown : Hp (fps [stb z3H 81 [(.slice z4A zm.fModules.length z4B),(.slice z4C zm.fChannels.length z4D),(.slice z4E zm.fSwitches.length z4F),(.slice z4G zm.fLinks.length z4H),(.slice z4I zm.fVLs.length z4J),(.slice z4K zm.fHealth.length z4L),(.slice z4M zm.fCauses.length z4N),(.slice z4O zm.fVersions.length z4P),(.slice z4Q z3e.length z4R),(.slice z3Y z2C.length z3Z),(.map (some z2n)),(.slice z6o z2L.length z6p),(.slice z2Z z1m.length z30),(.slice z2M z1j.length z2N)],y1e z2n (fun x=>Value.agg (y1S x).toArray) Value.pointer (y1n z5h),y1l z12 z5h,row (.slice z6o z2L.length z6p) 113 7 (z2L.flatMap yx),row (.slice z2Z z1m.length z30) 50 3 (z1m.flatMap e50),row (.slice z2M z1j.length z2N) 50 3 (z1j.flatMap e50)]) w₀ w₀ [stb z3H 81 [(.slice z4A zm.fModules.length z4B),(.slice z4C zm.fChannels.length z4D),(.slice z4E zm.fSwitches.length z4F),(.slice z4G zm.fLinks.length z4H),(.slice z4I zm.fVLs.length z4J),(.slice z4K zm.fHealth.length z4L),(.slice z4M zm.fCauses.length z4N),(.slice z4O zm.fVersions.length z4P),(.slice z4Q z3e.length z4R),(.slice z3Y z2C.length z3Z),(.map (some z2n)),(.slice z6o z2L.length z6p),(.slice z2Z z1m.length z30),(.slice z2M z1j.length z2N)],y1e z2n (fun x=>Value.agg (y1S x).toArray) Value.pointer (y1n z5h),y1l z12 z5h,row (.slice z6o z2L.length z6p) 113 7 (z2L.flatMap yx),row (.slice z2Z z1m.length z30) 50 3 (z1m.flatMap e50),row (.slice z2M z1j.length z2N) 50 3 (z1j.flatMap e50)]) :
    Calls Try.prog 26 #[(.pointer (some ⟨z3H,0,none⟩))] w₀ fun e w'=>∃ znb : Option Addr,∃ znc : Nat,∃ znd : Option Addr,∃ zne : Nat,∃ znf : Option Addr,∃ zng : Nat,∃ ziz : List (Snetwork_exit × ((Nat × (Option Addr × Nat)) × Sport_Port)),e = .returned (.tuple #[]) ∧ (dat ziz = r.2.2.2) ∧ Hp (fps [stb z3H 81 [(.slice z4A zm.fModules.length z4B),(.slice z4C zm.fChannels.length z4D),(.slice z4E zm.fSwitches.length z4F),(.slice z4G zm.fLinks.length z4H),(.slice z4I zm.fVLs.length z4J),(.slice z4K zm.fHealth.length z4L),(.slice z4M zm.fCauses.length z4N),(.slice z4O zm.fVersions.length z4P),(.slice z4Q z3e.length z4R),(.slice z3Y z2C.length z3Z),(.map (some z2n)),(.slice z6o z2L.length z6p),(.slice z2Z z1m.length z30),(.slice z2M z1j.length z2N)],y1e z2n (fun x=>Value.agg (y1S x).toArray) Value.pointer (y1n z5h),y1l z12 z5h,row (.slice z6o z2L.length z6p) 113 7 (z2L.flatMap yx),row (.slice z2Z z1m.length z30) 50 3 (z1m.flatMap e50),row (.slice z2M z1j.length z2N) 50 3 (z1j.flatMap e50)]) w₀ w' [stb z3H 81 [(.slice z4A zm.fModules.length z4B),(.slice z4C zm.fChannels.length z4D),(.slice z4E zm.fSwitches.length z4F),(.slice z4G zm.fLinks.length z4H),(.slice z4I zm.fVLs.length z4J),(.slice z4K zm.fHealth.length z4L),(.slice z4M zm.fCauses.length z4N),(.slice z4O zm.fVersions.length z4P),(.slice z4Q z3e.length z4R),(.slice z3Y z2C.length z3Z),(.map (some z2n)),(.slice znb r.1.length znc),(.slice znd r.2.1.length zne),(.slice znf r.2.2.1.length zng)],row (.slice znb r.1.length znc) 113 7 (r.1.flatMap yx),row (.slice znd r.2.1.length zne) 50 3 (r.2.1.flatMap e50),row (.slice znf r.2.2.1.length zng) 50 3 (r.2.2.1.flatMap e50),y1e z2n (fun x=>Value.agg (y1S x).toArray) Value.pointer (y1n ziz),y1l z12 ziz]:=by
  unfold y2O at h
  refine Calls.yk (vs:=[(.pointer (some ⟨z3H,0,none⟩))]) (pre:=[stb z3H 81 [(.slice z4A zm.fModules.length z4B),(.slice z4C zm.fChannels.length z4D),(.slice z4E zm.fSwitches.length z4F),(.slice z4G zm.fLinks.length z4H),(.slice z4I zm.fVLs.length z4J),(.slice z4K zm.fHealth.length z4L),(.slice z4M zm.fCauses.length z4N),(.slice z4O zm.fVersions.length z4P),(.slice z4Q z3e.length z4R),(.slice z3Y z2C.length z3Z),(.map (some z2n)),(.slice z6o z2L.length z6p),(.slice z2Z z1m.length z30),(.slice z2M z1j.length z2N)],y1e z2n (fun x=>Value.agg (y1S x).toArray) Value.pointer (y1n z5h),y1l z12 z5h,row (.slice z6o z2L.length z6p) 113 7 (z2L.flatMap yx),row (.slice z2Z z1m.length z30) 50 3 (z1m.flatMap e50),row (.slice z2M z1j.length z2N) 50 3 (z1j.flatMap e50)]) (env:=[(0,(.pointer (some ⟨z3H,0,none⟩)))]) Try.func26 rfl Try.ntmps26 rfl (hown) rfl ?_
  refine WC.b ?_
  obtain ⟨z7,zsn,h⟩:=zh h
  refine WC.a (WL.pu rfl ?_)
  refine WL.a (d:=6) rfl rfl rfl (yt rfl) ?_
  refine WL.a (d:=7) rfl rfl rfl (ya y7Q rfl rfl) ?_
  refine WL.a (d:=8) rfl rfl rfl (y5r Try.underlying111 rfl rfl) ?_
  refine WL.y4T (dd:=9) rfl rfl rfl (zz (l:=[.tmp 8]) Try.call39 (.cons rfl .nil)) (.cons .here (.cons .h2 .nil)) (cc hz (.cons .here (.cons .h2 .nil)) fun w pz ho=>y5X _ _ _ _ _ _ _ _ _ _ _ _ _ _ _ _ _ _ _ zsn w pz  ho) ?_
  rintro z7u z7v _
  refine WL.a (d:=10) rfl rfl rfl (y8H Try.underlying113 rfl rfl) ?_
  refine WL.new (dd:=2) rfl rfl rfl (y1U (cs:=[(.int .i64 0),(.int .i64 0),(.int .i64 0),(.int .i64 0),(.int .i64 0),(.int .i64 0),(.int .i64 0)]) zk7 rfl) ?_
  intro zdK _
  refine WL.y1r rfl rfl (y1K zev rfl rfl rfl .here rfl rfl rfl) ?_
  refine WL.nil (WX.a (WC.b ?_))
  obtain ⟨z2D,zso,h⟩:=zh h
  obtain ⟨zsp,h⟩:=yi h
  obtain ⟨znh,h⟩:=yi h
  obtain ⟨z29,zsq,h⟩:=zh h
  refine WC.yV (fun i=>[3,15].contains i) [stbp zdK 113 [(0,(.int .i64 z7.1.fTime)),(3,(.int .i64 z7.1.fSent))],stbp z3H 81 [(9,(.slice z3Y z2C.length z3Z))]] rfl ?_
  refine WD.a (i:=0) (d:=12) (by kernel_rfl) rfl (z2 (by kernel_rfl)) (z3 (by kernel_rfl)) rfl rfl rfl (fun _=>q_m rfl) ?_
  refine WD.a (i:=1) (d:=13) (by kernel_rfl) rfl (z2 (by kernel_rfl)) (z3 (by kernel_rfl)) rfl rfl rfl (fun _=>ya y4L rfl rfl) ?_
  refine WD.e (i:=2) (d:=14) (by kernel_rfl) rfl (z2 (by kernel_rfl)) (z3 (by kernel_rfl)) rfl rfl rfl (y1P (cs:=[(.int .i64 z7.1.fHop.fNode),(.int .i64 z7.1.fHop.fNext),(.int .i64 z7.1.fHop.fLink)]) y5N rfl rfl (rd_sub (s:=3) .here rfl)) ?_
  refine WD.a (i:=4) (d:=16) (by kernel_rfl) rfl (z2 (by kernel_rfl)) (z3 (by kernel_rfl)) rfl rfl rfl (fun _=>ya y6e rfl rfl) ?_
  refine WD.stable (i:=5) (d:=17) (by kernel_rfl) rfl (z2 (by kernel_rfl)) (z3 (by kernel_rfl)) rfl rfl rfl (Sin.wk (.cons .here (.cons .here .nil)) (.stb (.cons rfl (.cons rfl .nil)) (.stb (.cons rfl .nil) .nil))) (yb yg rfl (y5J .here (.head _))) ?_
  refine WD.a (i:=6) (d:=18) (by kernel_rfl) rfl (z2 (by kernel_rfl)) (z3 (by kernel_rfl)) rfl rfl rfl (fun _=>q_m rfl) ?_
  refine WD.a (i:=7) (d:=19) (by kernel_rfl) rfl (z2 (by kernel_rfl)) (z3 (by kernel_rfl)) rfl rfl rfl (fun _=>yt rfl) ?_
  refine WD.a (i:=8) (d:=20) (by kernel_rfl) rfl (z2 (by kernel_rfl)) (z3 (by kernel_rfl)) rfl rfl rfl (fun _=>ya y9i rfl rfl) ?_
  refine WD.stable (i:=9) (d:=21) (by kernel_rfl) rfl (z2 (by kernel_rfl)) (z3 (by kernel_rfl)) rfl rfl rfl (Sin.wk (.cons .here (.cons .here .nil)) (.stb (.cons rfl (.cons rfl .nil)) (.stb (.cons rfl .nil) .nil))) (yb y9j rfl (y5J .h1 (.head _))) ?_
  refine WD.a (i:=10) (d:=22) (by kernel_rfl) rfl (z2 (by kernel_rfl)) (z3 (by kernel_rfl)) rfl rfl rfl (fun _=>ya y4K rfl rfl) ?_
  refine WD.stable (i:=11) (d:=23) (by kernel_rfl) rfl (z2 (by kernel_rfl)) (z3 (by kernel_rfl)) rfl rfl rfl (Sin.wk (.cons .here (.cons .here .nil)) (.stb (.cons rfl (.cons rfl .nil)) (.stb (.cons rfl .nil) .nil))) (yb yg rfl (y5J .here (.tail _ (.head _)))) ?_
  refine WD.znth (j:=12) (dd:=24) (by kernel_rfl) rfl (z2 (by kernel_rfl)) (z3 (by kernel_rfl)) rfl rfl (Z:=Z) (Pr:=(fun r x=>r = e53 x)) y4y rfl rfl ziy zsp ?_
  rintro zxH zxI zsr zxJ rfl
  refine WD.a (i:=13) (d:=25) (by kernel_rfl) rfl (z2 (by kernel_rfl)) (z3 (by kernel_rfl)) rfl rfl rfl (fun _=>ya y5Q rfl rfl) ?_
  refine WD.stable (i:=14) (d:=26) (by kernel_rfl) rfl (z2 (by kernel_rfl)) (z3 (by kernel_rfl)) rfl rfl rfl (Sin.wk (.cons .here (.cons .here .nil)) (.stb (.cons rfl (.cons rfl .nil)) (.stb (.cons rfl .nil) .nil))) (yb yg rfl (y2b hz.pv zsr rfl)) ?_
  refine WD.call1 (i:=3) (dd:=15) rfl (by kernel_rfl) rfl rfl rfl (.inl ⟨rfl,fun _=>(Sin.wk (.cons .h2 (.cons .h2 .nil)) (.stb (.cons rfl (.cons rfl .nil)) (.stb (.cons rfl .nil) .nil)))⟩) (zz (l:=[.tmp 12,.tmp 14]) Try.call40 (.cons rfl (.cons rfl .nil))) (.cons .h3 (.cons .h3 .nil)) (ccl hz (.cons .h3 (.cons .h3 .nil)) (.cons .h1 (.cons .h1 (.cons .h1 (.cons .h1 .nil)))) fun w pz ho la=>y7i _ _ _ _ _ _ _ _ _ _ _ _ _ _ _ _ _ _ _ _ _ _ _ _ _ _ _ _ _ _ _ _ _ _ _ _ _ _ _ zso w pz ((zn2.mono (Zle.left _ _)).weak (fun _ _ h=>y1H (Zle.left _ _) h)) ((zn3.mono (Zle.left _ _)).weak (fun _ _ h=>y1M (Zle.left _ _) h)) (zn4.mono (Zle.left _ _)) (zn5.mono (Zle.left _ _)) ((zn6.mono (Zle.left _ _)).weak (fun _ _ h=>y1I (Zle.left _ _) h)) (zn7.mono (Zle.left _ _)) ((zn8.mono (Zle.left _ _)).weak (fun _ _ h=>y1N (Zle.left _ _) h)) (zn9.mono (Zle.left _ _)) ((zna.mono (Zle.left _ _)).weak (fun _ _ h=>y39 (Zle.left _ _) h)) (ziy.mono (Zle.left _ _)) zsm (ZA.row (la _ (.tail _ (.head _)) _) (RR.y1b (enc:=yx) (fun _=>rfl) _) ⟨w,pz.1⟩) (ZA.row (la _ (.tail _ (.tail _ (.head _))) _) (RR.y1b (enc:=e50) (fun _=>rfl) _) ⟨w,pz.1⟩) (ZA.row (la _ (.tail _ (.tail _ (.tail _ (.head _)))) _) (RR.y1b (enc:=e50) (fun _=>rfl) _) ⟨w,pz.1⟩) ((la _ (.head _) _).stb) ho) ?_
  rintro z7w zdL
  refine WD.gh (fun _=>Hp.y94 zdL znh .h1 (fun g=>stb g.1 143 [(.int .i64 (((yw z2D (⟨z7.1.fHop.fNode,z7.1.fHop.fLink⟩ : Snetwork_exit) default).fNumbers).fSlow)),(.int .i64 (((yw z2D (⟨z7.1.fHop.fNode,z7.1.fHop.fLink⟩ : Snetwork_exit) default).fNumbers).fDelay)),(.int .i64 (((yw z2D (⟨z7.1.fHop.fNode,z7.1.fHop.fLink⟩ : Snetwork_exit) default).fNumbers).fStore)),(.int .i64 ((yw z2D (⟨z7.1.fHop.fNode,z7.1.fHop.fLink⟩ : Snetwork_exit) default).fNow)),(.int .i64 ((yw z2D (⟨z7.1.fHop.fNode,z7.1.fHop.fLink⟩ : Snetwork_exit) default).fLast)),(.slice g.2.1 (((yw z2D (⟨z7.1.fHop.fNode,z7.1.fHop.fLink⟩ : Snetwork_exit) default).fFrames).length) g.2.2)] :: row (.slice g.2.1 (((yw z2D (⟨z7.1.fHop.fNode,z7.1.fHop.fLink⟩ : Snetwork_exit) default).fFrames).length) g.2.2) 146 2 (((yw z2D (⟨z7.1.fHop.fNode,z7.1.fHop.fLink⟩ : Snetwork_exit) default).fFrames).flatMap y20) :: [y1l z12 (y4i (⟨z7.1.fHop.fNode,z7.1.fHop.fLink⟩ : Snetwork_exit) z7w),y1e z2n (fun x=>Value.agg (y1S x).toArray) Value.pointer (y1n z7w),stb zdK 113 [(.int .i64 z7.1.fTime),(.int .i64 z7.1.fIn_),(.int .i64 z7.1.fVl),(.int .i64 z7.1.fSent),(.int .i64 z7.1.fHop.fNode),(.int .i64 z7.1.fHop.fNext),(.int .i64 z7.1.fHop.fLink)],stb z3H 81 [(.slice z4A zm.fModules.length z4B),(.slice z4C zm.fChannels.length z4D),(.slice z4E zm.fSwitches.length z4F),(.slice z4G zm.fLinks.length z4H),(.slice z4I zm.fVLs.length z4J),(.slice z4K zm.fHealth.length z4L),(.slice z4M zm.fCauses.length z4N),(.slice z4O zm.fVersions.length z4P),(.slice z4Q z3e.length z4R),(.slice z3Y z2C.length z3Z),(.map (some z2n)),(.slice z7u z7.2.length z7v),(.slice z2Z z1m.length z30),(.slice z2M z1j.length z2N)],row (.slice z7u z7.2.length z7v) 113 7 (z7.2.flatMap yx),row (.slice z2Z z1m.length z30) 50 3 (z1m.flatMap e50),row (.slice z2M z1j.length z2N) 50 3 (z1j.flatMap e50)]) (fun _=>rfl)) ?_
  rintro ⟨z8j,zxK,zxL⟩ zni
  refine WD.repin (i:=15) rfl (u:=(.pointer (some ⟨z8j,0,none⟩))) (congrArg Value.pointer zni) ?_
  refine WD.call2 (i:=15) (dd:=27) rfl (by kernel_rfl) rfl rfl rfl (.inl ⟨rfl,fun _ _=>(Sin.wk (.cons .h4 (.cons .h4 .nil)) (.stb (.cons rfl (.cons rfl .nil)) (.stb (.cons rfl .nil) .nil)))⟩) (zz (l:=[.tmp 15,.tmp 17,.tmp 26]) Try.call41 (.cons rfl (.cons rfl (.cons rfl .nil)))) (.cons .here (.cons .here .nil)) (cc hz (.cons .here (.cons .here .nil)) fun w pz ho=>y7B _ _ _ _ _ _ _ _ zsq w pz  ho) ?_
  rintro z9v z9w _
  refine WD.ghL (fun _ h=>Hp.objsClose (els:=z12) (lg:=z7w) (k:=(⟨z7.1.fHop.fNode,z7.1.fHop.fLink⟩ : Snetwork_exit)) (b:=z8j) (g:=(z9v,z9w)) (x:=z29.2.2) (.cons .here (.cons .here (.cons .here .nil))) h) ?_
  refine WD.ghL (M:=[y1e z2n (fun x=>Value.agg (y1S x).toArray) Value.pointer (y1n (y14 z7w (⟨z7.1.fHop.fNode,z7.1.fHop.fLink⟩ : Snetwork_exit) ((z8j,(z9v,z9w)),z29.2.2))),y1l z12 (y14 z7w (⟨z7.1.fHop.fNode,z7.1.fHop.fLink⟩ : Snetwork_exit) ((z8j,(z9v,z9w)),z29.2.2)),stb zdK 113 [(.int .i64 z7.1.fTime),(.int .i64 z7.1.fIn_),(.int .i64 z7.1.fVl),(.int .i64 z7.1.fSent),(.int .i64 z7.1.fHop.fNode),(.int .i64 z7.1.fHop.fNext),(.int .i64 z7.1.fHop.fLink)],stb z3H 81 [(.slice z4A zm.fModules.length z4B),(.slice z4C zm.fChannels.length z4D),(.slice z4E zm.fSwitches.length z4F),(.slice z4G zm.fLinks.length z4H),(.slice z4I zm.fVLs.length z4J),(.slice z4K zm.fHealth.length z4L),(.slice z4M zm.fCauses.length z4N),(.slice z4O zm.fVersions.length z4P),(.slice z4Q z3e.length z4R),(.slice z3Y z2C.length z3Z),(.map (some z2n)),(.slice z7u z7.2.length z7v),(.slice z2Z z1m.length z30),(.slice z2M z1j.length z2N)],row (.slice z7u z7.2.length z7v) 113 7 (z7.2.flatMap yx),row (.slice z2Z z1m.length z30) 50 3 (z1m.flatMap e50),row (.slice z2M z1j.length z2N) 50 3 (z1j.flatMap e50)]) (fun _ h=>Hp.y8G .h1 (y9E zdL znh zni _ _) h) ?_
  refine WD.a (i:=16) (d:=11) (by kernel_rfl) rfl (z2 (by kernel_rfl)) (z3 (by kernel_rfl)) rfl rfl rfl (fun _=>q_m rfl) ?_
  refine WD.a (i:=17) (d:=28) (by kernel_rfl) rfl (z2 (by kernel_rfl)) (z3 (by kernel_rfl)) rfl rfl rfl (fun _=>y4R rfl rfl) ?_
  refine WD.a (i:=18) (d:=29) (by kernel_rfl) rfl (z2 (by kernel_rfl)) (z3 (by kernel_rfl)) rfl rfl rfl (fun _=>y4R rfl rfl) ?_
  refine WD.a (i:=19) (d:=3) (by kernel_rfl) rfl (z2 (by kernel_rfl)) (z3 (by kernel_rfl)) rfl rfl rfl (fun _=>q_z rfl) ?_
  refine WD.a (i:=20) (d:=4) (by kernel_rfl) rfl (z2 (by kernel_rfl)) (z3 (by kernel_rfl)) rfl rfl rfl (fun _=>q_z rfl) ?_
  refine WD.done (by kernel_rfl) ?_
  refine WX.a (WC.b (WC.b (WC.a (WL.pu rfl (WL.pu rfl (WL.nil (WX.a ?_)))))))
  refine WC.cond rfl (fun ziA=>?_) (fun ziA=>?_)
  · replace h:=yl h ziA
    refine WC.b ?_
    obtain ⟨zss,h⟩:=yi h
    refine WC.yV (fun i=>[14,17].contains i) [] rfl ?_
    refine WD.a (i:=0) (d:=32) (by kernel_rfl) rfl (z2 (by kernel_rfl)) (z3 (by kernel_rfl)) rfl rfl rfl (fun _=>q_m rfl) ?_
    refine WD.a (i:=1) (d:=33) (by kernel_rfl) rfl (z2 (by kernel_rfl)) (z3 (by kernel_rfl)) rfl rfl rfl (fun _=>q_m rfl) ?_
    refine WD.a (i:=2) (d:=34) (by kernel_rfl) rfl (z2 (by kernel_rfl)) (z3 (by kernel_rfl)) rfl rfl rfl (fun _=>yt rfl) ?_
    refine WD.a (i:=3) (d:=35) (by kernel_rfl) rfl (z2 (by kernel_rfl)) (z3 (by kernel_rfl)) rfl rfl rfl (fun _=>ya y7T rfl rfl) ?_
    refine WD.e (i:=4) (d:=36) (by kernel_rfl) rfl (z2 (by kernel_rfl)) (z3 (by kernel_rfl)) rfl rfl rfl (yb y6X rfl (yc .h3 rfl)) ?_
    refine WD.a (i:=5) (d:=37) (by kernel_rfl) rfl (z2 (by kernel_rfl)) (z3 (by kernel_rfl)) rfl rfl rfl (fun _=>ya y4K rfl rfl) ?_
    refine WD.e (i:=6) (d:=38) (by kernel_rfl) rfl (z2 (by kernel_rfl)) (z3 (by kernel_rfl)) rfl rfl rfl (yb yg rfl (yc .h2 rfl)) ?_
    refine WD.a (i:=7) (d:=39) (by kernel_rfl) rfl (z2 (by kernel_rfl)) (z3 (by kernel_rfl)) rfl rfl rfl (fun _=>ya y4L rfl rfl) ?_
    refine WD.a (i:=8) (d:=40) (by kernel_rfl) rfl (z2 (by kernel_rfl)) (z3 (by kernel_rfl)) rfl rfl rfl (fun _=>ya y3v rfl rfl) ?_
    refine WD.e (i:=9) (d:=41) (by kernel_rfl) rfl (z2 (by kernel_rfl)) (z3 (by kernel_rfl)) rfl rfl rfl (yb yg rfl (yc .h2 rfl)) ?_
    refine WD.a (i:=10) (d:=42) (by kernel_rfl) rfl (z2 (by kernel_rfl)) (z3 (by kernel_rfl)) rfl rfl rfl (fun _=>ya y6e rfl rfl) ?_
    refine WD.e (i:=11) (d:=43) (by kernel_rfl) rfl (z2 (by kernel_rfl)) (z3 (by kernel_rfl)) rfl rfl rfl (yb yg rfl (yc .h2 rfl)) ?_
    refine WD.a (i:=12) (d:=44) (by kernel_rfl) rfl (z2 (by kernel_rfl)) (z3 (by kernel_rfl)) rfl rfl rfl (fun _=>y1D (v:=(.agg #[(.int .i64 z7.1.fSent),(.int .i64 z7.1.fHop.fNode),(.int .i64 z7.1.fTime)])) (Eos.parts (l:=[.tmp 38,.tmp 41,.tmp 43]) (.cons rfl (.cons rfl (.cons rfl .nil))) [0,1,2]) (fun _=>by kernel_rfl)) ?_
    refine WD.new (i:=13) (dd:=45) rfl (by kernel_rfl) rfl rfl rfl (yZ (cs:=([(⟨z7.1.fSent,z7.1.fHop.fNode,z7.1.fTime⟩ : Sapi_Come)] : List Sapi_Come).flatMap e50) y1d (Eos.parts (l:=[.tmp 44]) (.cons rfl .nil) [0]) (fun _=>by kernel_rfl) rfl (by unfold maxLen; omega)) (fun h'=>absurd h' (by decide)) ?_
    intro zxM _
    refine WD.old (i:=14) (dd:=46) rfl (by kernel_rfl) rfl rfl rfl rfl (fun _=>(Sin.of .nil)) (y46 (enc:=e50) (l1:=z1j) (l2:=([(⟨z7.1.fSent,z7.1.fHop.fNode,z7.1.fTime⟩ : Sapi_Come)] : List Sapi_Come)) y1d rfl rfl .h7 (fun _=>rfl) rfl rfl (y5b .here) (y4q e50_oc _) zss) ?_
    rintro ⟨znj,znk⟩ _
    refine WD.a (i:=15) (d:=47) (by kernel_rfl) rfl (z2 (by kernel_rfl)) (z3 (by kernel_rfl)) rfl rfl rfl (fun _=>yt rfl) ?_
    refine WD.a (i:=16) (d:=48) (by kernel_rfl) rfl (z2 (by kernel_rfl)) (z3 (by kernel_rfl)) rfl rfl rfl (fun _=>ya y7T rfl rfl) ?_
    refine WD.y2F (i:=17) rfl (by kernel_rfl) rfl rfl rfl (by kernel_rfl) (y3p (ds:=[(.slice z4A zm.fModules.length z4B),(.slice z4C zm.fChannels.length z4D),(.slice z4E zm.fSwitches.length z4F),(.slice z4G zm.fLinks.length z4H),(.slice z4I zm.fVLs.length z4J),(.slice z4K zm.fHealth.length z4L),(.slice z4M zm.fCauses.length z4N),(.slice z4O zm.fVersions.length z4P),(.slice z4Q z3e.length z4R),(.slice z3Y z2C.length z3Z),(.map (some z2n)),(.slice z7u z7.2.length z7v),(.slice z2Z z1m.length z30),(.slice znj ((z1j ++ ([(⟨z7.1.fSent,z7.1.fHop.fNode,z7.1.fTime⟩ : Sapi_Come)] : List Sapi_Come)).length) znk)]) y9l rfl rfl rfl rfl rfl .h5 rfl rfl) ?_
    refine WD.done (by kernel_rfl) ?_
    refine WX.a (WC.ret (WX.yj ?_))
    obtain rfl:=Option.some.inj h
    refine WX.yh Try.results26 .nil (fun w hw=>?_)
    exact ⟨z7u,z7v,z2Z,z30,znj,znk,(y14 z7w (⟨z7.1.fHop.fNode,z7.1.fHop.fLink⟩ : Snetwork_exit) ((z8j,(z9v,z9w)),z29.2.2)),y4h,(y6b zdL _ _ _),hw.sub (.cons .here (.cons .h5 (.cons .h5 (.cons .here (.cons .h1 (.cons .h1 .nil))))))⟩
  · replace h:=ym h ziA
    refine WC.skip (WX.a ?_)
    obtain ⟨zft,zst,h⟩:=y19 h
    refine WC.y4e (fun (z5g : List Sapi_Come) (zbd : Option Addr) (zbe : Nat)=>(zft z5g = some r)) (fun (z5g : List Sapi_Come) (zbd : Option Addr) (zbe : Nat)=>[(0,(.pointer (some ⟨z3H,0,none⟩))),(2,(.pointer (some ⟨zdK,0,none⟩))),(3,(.int .i64 z29.1))]) (fun (z5g : List Sapi_Come) (zbd : Option Addr) (zbe : Nat)=>[row (.slice z7u z7.2.length z7v) 113 7 (z7.2.flatMap yx),row (.slice zbd z5g.length zbe) 50 3 (z5g.flatMap e50),row (.slice z2M z1j.length z2N) 50 3 (z1j.flatMap e50),stb z3H 81 [(.slice z4A zm.fModules.length z4B),(.slice z4C zm.fChannels.length z4D),(.slice z4E zm.fSwitches.length z4F),(.slice z4G zm.fLinks.length z4H),(.slice z4I zm.fVLs.length z4J),(.slice z4K zm.fHealth.length z4L),(.slice z4M zm.fCauses.length z4N),(.slice z4O zm.fVersions.length z4P),(.slice z4Q z3e.length z4R),(.slice z3Y z2C.length z3Z),(.map (some z2n)),(.slice z7u z7.2.length z7v),(.slice zbd z5g.length zbe),(.slice z2M z1j.length z2N)],stb zdK 113 [(.int .i64 z7.1.fTime),(.int .i64 z7.1.fIn_),(.int .i64 z7.1.fVl),(.int .i64 z7.1.fSent),(.int .i64 z7.1.fHop.fNode),(.int .i64 z7.1.fHop.fNext),(.int .i64 z7.1.fHop.fLink)],y1e z2n (fun x=>Value.agg (y1S x).toArray) Value.pointer (y1n (y14 z7w (⟨z7.1.fHop.fNode,z7.1.fHop.fLink⟩ : Snetwork_exit) ((z8j,(z9v,z9w)),z29.2.2))),y1l z12 (y14 z7w (⟨z7.1.fHop.fNode,z7.1.fHop.fLink⟩ : Snetwork_exit) ((z8j,(z9v,z9w)),z29.2.2))]) ?_ ?_
    · skip
      refine WC.b ?_
      refine WC.yV (fun i=>[].contains i) [] rfl ?_
      refine WD.a (i:=0) (d:=49) (by kernel_rfl) rfl (z2 (by kernel_rfl)) (z3 (by kernel_rfl)) rfl rfl rfl (fun _=>ya y4L rfl rfl) ?_
      refine WD.a (i:=1) (d:=50) (by kernel_rfl) rfl (z2 (by kernel_rfl)) (z3 (by kernel_rfl)) rfl rfl rfl (fun _=>ya y4r rfl rfl) ?_
      refine WD.e (i:=2) (d:=51) (by kernel_rfl) rfl (z2 (by kernel_rfl)) (z3 (by kernel_rfl)) rfl rfl rfl (yb yg rfl (yc .h2 rfl)) ?_
      refine WD.a (i:=3) (d:=52) (by kernel_rfl) rfl (z2 (by kernel_rfl)) (z3 (by kernel_rfl)) rfl rfl rfl (fun _=>q_m rfl) ?_
      refine WD.a (i:=4) (d:=53) (by kernel_rfl) rfl (z2 (by kernel_rfl)) (z3 (by kernel_rfl)) rfl rfl rfl (fun _=>yt rfl) ?_
      refine WD.a (i:=5) (d:=54) (by kernel_rfl) rfl (z2 (by kernel_rfl)) (z3 (by kernel_rfl)) rfl rfl rfl (fun _=>ya y5S rfl rfl) ?_
      refine WD.a (i:=6) (d:=55) (by kernel_rfl) rfl (z2 (by kernel_rfl)) (z3 (by kernel_rfl)) rfl rfl rfl (fun _=>ya y3V rfl rfl) ?_
      refine WD.e (i:=7) (d:=56) (by kernel_rfl) rfl (z2 (by kernel_rfl)) (z3 (by kernel_rfl)) rfl rfl rfl (yb y3W rfl (yc .h3 rfl)) ?_
      refine WD.a (i:=8) (d:=57) (by kernel_rfl) rfl (z2 (by kernel_rfl)) (z3 (by kernel_rfl)) rfl rfl rfl (fun _=>yU Try.underlying22 rfl) ?_
      refine WD.a (i:=9) (d:=58) (by kernel_rfl) rfl (z2 (by kernel_rfl)) (z3 (by kernel_rfl)) rfl rfl rfl (fun _=>y3r rfl rfl) ?_
      refine WD.done (by kernel_rfl) ?_
      refine WX.a ?_
      refine WC.cond rfl (fun ziB=>?_) (fun ziB=>?_)
      · replace h:=yl h ziB
        obtain ⟨zsu,h⟩:=yi h
        refine WC.yV (fun i=>[13,16].contains i) [] rfl ?_
        refine WD.a (i:=0) (d:=59) (by kernel_rfl) rfl (z2 (by kernel_rfl)) (z3 (by kernel_rfl)) rfl rfl rfl (fun _=>q_m rfl) ?_
        refine WD.a (i:=1) (d:=60) (by kernel_rfl) rfl (z2 (by kernel_rfl)) (z3 (by kernel_rfl)) rfl rfl rfl (fun _=>q_m rfl) ?_
        refine WD.a (i:=2) (d:=61) (by kernel_rfl) rfl (z2 (by kernel_rfl)) (z3 (by kernel_rfl)) rfl rfl rfl (fun _=>yt rfl) ?_
        refine WD.a (i:=3) (d:=62) (by kernel_rfl) rfl (z2 (by kernel_rfl)) (z3 (by kernel_rfl)) rfl rfl rfl (fun _=>ya y7U rfl rfl) ?_
        refine WD.e (i:=4) (d:=63) (by kernel_rfl) rfl (z2 (by kernel_rfl)) (z3 (by kernel_rfl)) rfl rfl rfl (yb y6X rfl (yc .h3 rfl)) ?_
        refine WD.a (i:=5) (d:=64) (by kernel_rfl) rfl (z2 (by kernel_rfl)) (z3 (by kernel_rfl)) rfl rfl rfl (fun _=>ya y4K rfl rfl) ?_
        refine WD.e (i:=6) (d:=65) (by kernel_rfl) rfl (z2 (by kernel_rfl)) (z3 (by kernel_rfl)) rfl rfl rfl (yb yg rfl (yc .h2 rfl)) ?_
        refine WD.a (i:=7) (d:=66) (by kernel_rfl) rfl (z2 (by kernel_rfl)) (z3 (by kernel_rfl)) rfl rfl rfl (fun _=>ya y4L rfl rfl) ?_
        refine WD.a (i:=8) (d:=67) (by kernel_rfl) rfl (z2 (by kernel_rfl)) (z3 (by kernel_rfl)) rfl rfl rfl (fun _=>ya y4r rfl rfl) ?_
        refine WD.e (i:=9) (d:=68) (by kernel_rfl) rfl (z2 (by kernel_rfl)) (z3 (by kernel_rfl)) rfl rfl rfl (yb yg rfl (yc .h2 rfl)) ?_
        refine WD.a (i:=10) (d:=69) (by kernel_rfl) rfl (z2 (by kernel_rfl)) (z3 (by kernel_rfl)) rfl rfl rfl (fun _=>q_m rfl) ?_
        refine WD.a (i:=11) (d:=70) (by kernel_rfl) rfl (z2 (by kernel_rfl)) (z3 (by kernel_rfl)) rfl rfl rfl (fun _=>y1D (v:=(.agg #[(.int .i64 z7.1.fSent),(.int .i64 z7.1.fHop.fNext),(.int .i64 z29.1)])) (Eos.parts (l:=[.tmp 65,.tmp 68,.tmp 69]) (.cons rfl (.cons rfl (.cons rfl .nil))) [0,1,2]) (fun _=>by kernel_rfl)) ?_
        refine WD.new (i:=12) (dd:=71) rfl (by kernel_rfl) rfl rfl rfl (yZ (cs:=([(⟨z7.1.fSent,z7.1.fHop.fNext,z29.1⟩ : Sapi_Come)] : List Sapi_Come).flatMap e50) y1d (Eos.parts (l:=[.tmp 70]) (.cons rfl .nil) [0]) (fun _=>by kernel_rfl) rfl (by unfold maxLen; omega)) (fun h'=>absurd h' (by decide)) ?_
        intro zxN _
        refine WD.old (i:=13) (dd:=72) rfl (by kernel_rfl) rfl rfl rfl rfl (fun _=>(Sin.of .nil)) (y46 (enc:=e50) (l1:=z1m) (l2:=([(⟨z7.1.fSent,z7.1.fHop.fNext,z29.1⟩ : Sapi_Come)] : List Sapi_Come)) y1d rfl rfl .h6 (fun _=>rfl) rfl rfl (y5b .here) (y4q e50_oc _) zsu) ?_
        rintro ⟨znl,znm⟩ _
        refine WD.a (i:=14) (d:=73) (by kernel_rfl) rfl (z2 (by kernel_rfl)) (z3 (by kernel_rfl)) rfl rfl rfl (fun _=>yt rfl) ?_
        refine WD.a (i:=15) (d:=74) (by kernel_rfl) rfl (z2 (by kernel_rfl)) (z3 (by kernel_rfl)) rfl rfl rfl (fun _=>ya y7U rfl rfl) ?_
        refine WD.y2F (i:=16) rfl (by kernel_rfl) rfl rfl rfl (by kernel_rfl) (y3p (ds:=[(.slice z4A zm.fModules.length z4B),(.slice z4C zm.fChannels.length z4D),(.slice z4E zm.fSwitches.length z4F),(.slice z4G zm.fLinks.length z4H),(.slice z4I zm.fVLs.length z4J),(.slice z4K zm.fHealth.length z4L),(.slice z4M zm.fCauses.length z4N),(.slice z4O zm.fVersions.length z4P),(.slice z4Q z3e.length z4R),(.slice z3Y z2C.length z3Z),(.map (some z2n)),(.slice z7u z7.2.length z7v),(.slice znl ((z1m ++ ([(⟨z7.1.fSent,z7.1.fHop.fNext,z29.1⟩ : Sapi_Come)] : List Sapi_Come)).length) znm),(.slice z2M z1j.length z2N)]) y9l rfl rfl rfl rfl rfl .h5 rfl rfl) ?_
        refine WD.done (by kernel_rfl) ?_
        exact WX.mid (G:=List Sapi_Come × Option Addr × Nat) ⟨(z1m ++ ([(⟨z7.1.fSent,z7.1.fHop.fNext,z29.1⟩ : Sapi_Come)] : List Sapi_Come)),znl,znm⟩ h (.cons rfl (.cons rfl (.cons rfl .nil))) (.cons .h6 (.cons .h1 (.cons .h5 (.cons .here (.cons .h3 (.cons .h1 (.cons .h1 .nil)))))))
      · replace h:=ym h ziB
        refine WC.skip ?_
        exact WX.mid (G:=List Sapi_Come × Option Addr × Nat) ⟨z1m,z2Z,z30⟩ h (.cons rfl (.cons rfl (.cons rfl .nil))) (.cons .h4 (.cons .h4 (.cons .h4 (.cons .h3 (.cons .h2 (.cons .here (.cons .here .nil)))))))
    · rintro z5g zbd zbe h
      replace h:=(zst z5g).symm.trans h
      obtain ⟨zn1,zsv,h⟩:=zh h
      refine WC.a (WL.pu rfl ?_)
      refine WL.a (d:=76) rfl rfl rfl (ya y4L rfl rfl) ?_
      refine WL.a (d:=77) rfl rfl rfl (ya y4r rfl rfl) ?_
      refine WL.a (d:=78) rfl rfl rfl (yb yg rfl (yc .h4 rfl)) ?_
      refine WL.pu rfl ?_
      refine WL.a (d:=80) rfl rfl rfl (ya y4L rfl rfl) ?_
      refine WL.a (d:=81) rfl rfl rfl (ya y6U rfl rfl) ?_
      refine WL.a (d:=82) rfl rfl rfl (yb yg rfl (yc .h4 rfl)) ?_
      refine WL.a (d:=83) rfl rfl rfl (ya y4K rfl rfl) ?_
      refine WL.a (d:=84) rfl rfl rfl (yb yg rfl (yc .h4 rfl)) ?_
      refine WL.y4T (dd:=85) rfl rfl rfl (zz (l:=[.tmp 75,.tmp 78,.tmp 79,.tmp 82,.tmp 84]) Try.call25 (.cons rfl (.cons rfl (.cons rfl (.cons rfl (.cons rfl .nil)))))) (.cons .h3 (.cons .h4 (.cons .h4 (.cons .here .nil)))) (ccl hz (.cons .h3 (.cons .h4 (.cons .h4 (.cons .here .nil)))) (.cons .here (.cons .here .nil)) fun w pz ho la=>y4F _ _ _ _ _ _ _ _ _ _ _ _ _ _ _ _ _ _ _ _ _ _ _ _ _ _ _ _ _ _ _ _ _ _ _ _ _ _ _ _ _ _ zsv w pz ((zn2.mono (Zle.left _ _)).weak (fun _ _ h=>y1H (Zle.left _ _) h)) ((zn3.mono (Zle.left _ _)).weak (fun _ _ h=>y1M (Zle.left _ _) h)) (zn4.mono (Zle.left _ _)) (zn5.mono (Zle.left _ _)) ((zn6.mono (Zle.left _ _)).weak (fun _ _ h=>y1I (Zle.left _ _) h)) (zn7.mono (Zle.left _ _)) ((zn8.mono (Zle.left _ _)).weak (fun _ _ h=>y1N (Zle.left _ _) h)) (zn9.mono (Zle.left _ _)) ((zna.mono (Zle.left _ _)).weak (fun _ _ h=>y39 (Zle.left _ _) h)) (ziy.mono (Zle.left _ _)) (y6b zdL _ _ _) (ZA.row (la _ (.head _) _) (RR.y1b (enc:=e50) (fun _=>rfl) _) ⟨w,pz.1⟩) (ZA.row (la _ (.tail _ (.head _)) _) (RR.y1b (enc:=e50) (fun _=>rfl) _) ⟨w,pz.1⟩) ho) ?_
      rintro zsw zsx _
      refine WL.nil ?_
      obtain rfl:=Option.some.inj h
      refine WX.y1V Try.results26 .nil (fun w hw=>?_)
      exact ⟨zsw,zsx,zbd,zbe,z2M,z2N,(y14 z7w (⟨z7.1.fHop.fNode,z7.1.fHop.fLink⟩ : Snetwork_exit) ((z8j,(z9v,z9w)),z29.2.2)),y4h,(y6b zdL _ _ _),hw.sub (.cons .here (.cons .here (.cons .h2 (.cons .h2 (.cons .here (.cons .here .nil))))))⟩
def y2s (z31 : Sapi_Come) (z32 : Sapi_Come) : Option Int :=
  (y1i z31.fTime z32.fTime).bind fun ziC=>(y1i z31.fSent z32.fSent).bind fun ziD=>(y1i z31.fNode z32.fNode).bind fun ziE=>(y3x ([ziC,ziD,ziE] : List Int)).bind fun znn=>some znn
set_option maxRecDepth 20000 in
theorem y6L (Z : Zp)  (z31 : Sapi_Come) (z32 : Sapi_Come) (r : Int)
     (h : y2s z31 z32 = some r) (w₀ : World) (hz : PZ [] w₀ Z) :
    Calls Try.prog 43 #[(.agg #[(.int .i64 z31.fSent),(.int .i64 z31.fNode),(.int .i64 z31.fTime)]),(.agg #[(.int .i64 z32.fSent),(.int .i64 z32.fNode),(.int .i64 z32.fTime)])] w₀ fun e w'=>e = .returned (.int .i64 r) ∧ Hp [] w₀ w' []:=by
  unfold y2s at h
  refine Calls.yk (vs:=[(.agg #[(.int .i64 z31.fSent),(.int .i64 z31.fNode),(.int .i64 z31.fTime)]),(.agg #[(.int .i64 z32.fSent),(.int .i64 z32.fNode),(.int .i64 z32.fTime)])]) (pre:=[]) (env:=[(0,(.agg #[(.int .i64 z31.fSent),(.int .i64 z31.fNode),(.int .i64 z31.fTime)])),(1,(.agg #[(.int .i64 z32.fSent),(.int .i64 z32.fNode),(.int .i64 z32.fTime)]))]) Try.func43 rfl Try.ntmps43 rfl (Hp.nil w₀ _) rfl ?_
  refine WC.b (WC.a ?_)
  refine WL.new (dd:=2) rfl rfl rfl (y2g (cs:=[(.int .i64 z31.fSent),(.int .i64 z31.fNode),(.int .i64 z31.fTime)]) rfl rfl) ?_
  intro zxO _
  refine WL.new (dd:=3) rfl rfl rfl (y2g (cs:=[(.int .i64 z32.fSent),(.int .i64 z32.fNode),(.int .i64 z32.fTime)]) rfl rfl) ?_
  intro zxP _
  refine WL.pu rfl (WL.nil (WX.a (WC.b ?_)))
  obtain ⟨ziC,zsy,h⟩:=zh h
  obtain ⟨ziD,zsz,h⟩:=zh h
  obtain ⟨ziE,zsA,h⟩:=zh h
  obtain ⟨znn,zsB,h⟩:=zh h
  refine WC.yV (fun i=>[].contains i) [] rfl ?_
  refine WD.a (i:=0) (d:=5) (by kernel_rfl) rfl (z2 (by kernel_rfl)) (z3 (by kernel_rfl)) rfl rfl rfl (fun _=>ya y9m rfl rfl) ?_
  refine WD.e (i:=1) (d:=6) (by kernel_rfl) rfl (z2 (by kernel_rfl)) (z3 (by kernel_rfl)) rfl rfl rfl (yb yg rfl (yc .h1 rfl)) ?_
  refine WD.a (i:=2) (d:=7) (by kernel_rfl) rfl (z2 (by kernel_rfl)) (z3 (by kernel_rfl)) rfl rfl rfl (fun _=>ya y9m rfl rfl) ?_
  refine WD.e (i:=3) (d:=8) (by kernel_rfl) rfl (z2 (by kernel_rfl)) (z3 (by kernel_rfl)) rfl rfl rfl (yb yg rfl (yc .here rfl)) ?_
  refine WD.c (i:=4) (d:=9) (by kernel_rfl) rfl (z2 (by kernel_rfl)) (z3 (by kernel_rfl)) rfl rfl rfl (zz (l:=[.tmp 6,.tmp 8]) Try.call45 (.cons rfl (.cons rfl .nil))) (cc hz .nil fun w pz ho=>y2d _ _ _ _ zsy w pz ) ?_
  refine WD.a (i:=5) (d:=10) (by kernel_rfl) rfl (z2 (by kernel_rfl)) (z3 (by kernel_rfl)) rfl rfl rfl (fun _=>ya y9n rfl rfl) ?_
  refine WD.e (i:=6) (d:=11) (by kernel_rfl) rfl (z2 (by kernel_rfl)) (z3 (by kernel_rfl)) rfl rfl rfl (yb yg rfl (yc .h1 rfl)) ?_
  refine WD.a (i:=7) (d:=12) (by kernel_rfl) rfl (z2 (by kernel_rfl)) (z3 (by kernel_rfl)) rfl rfl rfl (fun _=>ya y9n rfl rfl) ?_
  refine WD.e (i:=8) (d:=13) (by kernel_rfl) rfl (z2 (by kernel_rfl)) (z3 (by kernel_rfl)) rfl rfl rfl (yb yg rfl (yc .here rfl)) ?_
  refine WD.c (i:=9) (d:=14) (by kernel_rfl) rfl (z2 (by kernel_rfl)) (z3 (by kernel_rfl)) rfl rfl rfl (zz (l:=[.tmp 11,.tmp 13]) Try.call45 (.cons rfl (.cons rfl .nil))) (cc hz .nil fun w pz ho=>y2d _ _ _ _ zsz w pz ) ?_
  refine WD.a (i:=10) (d:=15) (by kernel_rfl) rfl (z2 (by kernel_rfl)) (z3 (by kernel_rfl)) rfl rfl rfl (fun _=>ya y9o rfl rfl) ?_
  refine WD.e (i:=11) (d:=16) (by kernel_rfl) rfl (z2 (by kernel_rfl)) (z3 (by kernel_rfl)) rfl rfl rfl (yb yg rfl (yc .h1 rfl)) ?_
  refine WD.a (i:=12) (d:=17) (by kernel_rfl) rfl (z2 (by kernel_rfl)) (z3 (by kernel_rfl)) rfl rfl rfl (fun _=>ya y9o rfl rfl) ?_
  refine WD.e (i:=13) (d:=18) (by kernel_rfl) rfl (z2 (by kernel_rfl)) (z3 (by kernel_rfl)) rfl rfl rfl (yb yg rfl (yc .here rfl)) ?_
  refine WD.c (i:=14) (d:=19) (by kernel_rfl) rfl (z2 (by kernel_rfl)) (z3 (by kernel_rfl)) rfl rfl rfl (zz (l:=[.tmp 16,.tmp 18]) Try.call45 (.cons rfl (.cons rfl .nil))) (cc hz .nil fun w pz ho=>y2d _ _ _ _ zsA w pz ) ?_
  refine WD.new (i:=15) (dd:=20) rfl (by kernel_rfl) rfl rfl rfl (yZ (cs:=([ziC,ziD,ziE] : List Int).flatMap e3) y5d (Eos.parts (l:=[.tmp 9,.tmp 14,.tmp 19]) (.cons rfl (.cons rfl (.cons rfl .nil))) [0,1,2]) (fun _=>by kernel_rfl) rfl (by unfold maxLen; omega)) (fun h'=>absurd h' (by decide)) ?_
  intro zxQ _
  refine WD.c (i:=16) (d:=21) (by kernel_rfl) rfl (z2 (by kernel_rfl)) (z3 (by kernel_rfl)) rfl rfl rfl (zz (l:=[.tmp 20]) Try.call44 (.cons rfl .nil)) (ccl hz .nil (.cons .here .nil) fun w pz ho la=>y6I _ _ _ _ _ zsB w pz (ZA.row (la _ (.head _) _) (RR.y1b (enc:=e3) (fun _=>rfl) _) ⟨w,pz.1⟩)) ?_
  refine WD.a (i:=17) (d:=4) (by kernel_rfl) rfl (z2 (by kernel_rfl)) (z3 (by kernel_rfl)) rfl rfl rfl (fun _=>q_z rfl) ?_
  refine WD.done (by kernel_rfl) ?_
  refine WX.a (WC.ret ?_)
  obtain rfl:=Option.some.inj h
  refine WX.yh Try.results43 (.tmp rfl .nil) (fun w hw=>?_)
  exact ⟨y12 rfl,hw.sub .nil⟩
def yG (z1z : Int) (z2O : Sapi_Come → Sapi_Come → Option Int) (z7x : (List Sapi_Come) → Option (List Sapi_Come)) : Nat → (List Sapi_Come) → Int → Option (List Sapi_Come)
  | 0,_,_=>none
  | ziF + 1,zf,z8=>(if decide (z8 > z1z) then chk ((0 : Int) ≤ z8 ∧ z8 < ((zf.length : Nat) : Int)) (chk ((0 : Int) ≤ (i64 (z8 - 1)) ∧ (i64 (z8 - 1)) < ((zf.length : Nat) : Int)) ((z2O (⟨((nth zf z8).fSent),((nth zf z8).fNode),((nth zf z8).fTime)⟩ : Sapi_Come) (⟨((nth zf (i64 (z8 - 1))).fSent),((nth zf (i64 (z8 - 1))).fNode),((nth zf (i64 (z8 - 1))).fTime)⟩ : Sapi_Come)).bind fun ziG=>some (decide (ziG < 0)))) else some false).bind fun ziH=>if ziH then chk ((0 : Int) ≤ (i64 (z8 - 1)) ∧ (i64 (z8 - 1)) < ((zf.length : Nat) : Int)) (chk ((0 : Int) ≤ z8 ∧ z8 < ((zf.length : Nat) : Int)) (chk ((0 : Int) ≤ (i64 (z8 - 1)) ∧ (i64 (z8 - 1)) < (((zf.set (z8 : Int).toNat (⟨((nth zf (i64 (z8 - 1))).fSent),((nth zf (i64 (z8 - 1))).fNode),((nth zf (i64 (z8 - 1))).fTime)⟩ : Sapi_Come)).length : Nat) : Int)) (yG z1z z2O z7x ziF ((zf.set (z8 : Int).toNat (⟨((nth zf (i64 (z8 - 1))).fSent),((nth zf (i64 (z8 - 1))).fNode),((nth zf (i64 (z8 - 1))).fTime)⟩ : Sapi_Come)).set ((i64 (z8 - 1)) : Int).toNat (⟨((nth zf z8).fSent),((nth zf z8).fNode),((nth zf z8).fTime)⟩ : Sapi_Come)) (i64 (z8 - 1))))) else z7x zf
theorem y3g {n : Nat} {z1z : Int} {z2O : Sapi_Come → Sapi_Come → Option Int} {z7x : (List Sapi_Come) → Option (List Sapi_Come)} {zf : List Sapi_Come} {z8 : Int} {r : List Sapi_Come} (h : yG z1z z2O z7x n zf z8 = some r) : ∃ m,n = m + 1:=by
  cases n with
  | zero=>cases h
  | succ m=>exact ⟨m,rfl⟩
def yv (z33 : Int) (z1z : Int) (z2O : Sapi_Come → Sapi_Come → Option Int) (z7y : (List Sapi_Come) → Option (List Sapi_Come)) : Nat → (List Sapi_Come) → Int → Option (List Sapi_Come)
  | 0,_,_=>none
  | ziI + 1,z3f,z2P=>if decide (z2P < z33) then jp1 (fun (z4S : List Sapi_Come)=>yv z33 z1z z2O z7y ziI z4S (i64 (z2P + 1))) fun ziJ=>jp1 (fun (z4T : List Sapi_Come)=>ziJ z4T) fun z7x=>yG z1z z2O z7x yz z3f z2P else z7y z3f
theorem y3h {n : Nat} {z33 : Int} {z1z : Int} {z2O : Sapi_Come → Sapi_Come → Option Int} {z7y : (List Sapi_Come) → Option (List Sapi_Come)} {z3f : List Sapi_Come} {z2P : Int} {r : List Sapi_Come} (h : yv z33 z1z z2O z7y n z3f z2P = some r) : ∃ m,n = m + 1:=by
  cases n with
  | zero=>cases h
  | succ m=>exact ⟨m,rfl⟩
def yP (z1X : List Sapi_Come) (z1z : Int) (z33 : Int) (z2O : Sapi_Come → Sapi_Come → Option Int) : Option (List Sapi_Come) :=
  jp1 (fun (z6q : List Sapi_Come)=>some z6q) fun z7y=>yv z33 z1z z2O z7y yz z1X (i64 (z1z + 1))
set_option maxRecDepth 20000 in
theorem y2D (Z : Zp) (z2E : Option Addr) (z1U : Nat) (z3I : FuncId) (z4U : List Value) (z1X : List Sapi_Come) (z1z : Int) (z33 : Int) (z2O : Sapi_Come → Sapi_Come → Option Int) (r : List Sapi_Come)
     (h : yP z1X z1z z33 z2O = some r) (w₀ : World) (hz : PZ (fps [row (.slice z2E z1X.length z1U) 50 3 (z1X.flatMap e50)]) w₀ Z)
     (zsC : ∀ args w,(callFunc z3I args).run Try.prog w = .ok (.enter z3I args) w)
     (zsD : ∀ w : World,PZ [] w Z → ∀ (x0 : Sapi_Come) (x1 : Sapi_Come) (r : Int),z2O x0 x1 = some r → Calls Try.prog z3I (([(.agg #[(.int .i64 x0.fSent),(.int .i64 x0.fNode),(.int .i64 x0.fTime)]),(.agg #[(.int .i64 x1.fSent),(.int .i64 x1.fNode),(.int .i64 x1.fTime)])] : List Value) ++ z4U).toArray w fun e w'=>e = .returned (.int .i64 r) ∧ Hp [] w w' [])
    (hown : Hp (fps [row (.slice z2E z1X.length z1U) 50 3 (z1X.flatMap e50)]) w₀ w₀ [row (.slice z2E z1X.length z1U) 50 3 (z1X.flatMap e50)]) :
    Calls Try.prog 66 #[(.slice z2E z1X.length z1U),(.int .i64 z1z),(.int .i64 z33),(.func (.func z3I) #[] (z4U).toArray)] w₀ fun e w'=>e = .returned (.tuple #[]) ∧ (r.length = z1X.length) ∧ Hp (fps [row (.slice z2E z1X.length z1U) 50 3 (z1X.flatMap e50)]) w₀ w' [row (.slice z2E r.length z1U) 50 3 (r.flatMap e50)]:=by
  unfold yP at h
  refine Calls.yk (vs:=[(.slice z2E z1X.length z1U),(.int .i64 z1z),(.int .i64 z33),(.func (.func z3I) #[] (z4U).toArray)]) (pre:=[row (.slice z2E z1X.length z1U) 50 3 (z1X.flatMap e50)]) (env:=[(0,(.slice z2E z1X.length z1U)),(1,(.int .i64 z1z)),(2,(.int .i64 z33)),(3,(.func (.func z3I) #[] (z4U).toArray))]) Try.func66 rfl Try.ntmps66 rfl (hown) rfl ?_
  refine WC.b (WC.a (WL.pu rfl (WL.pu rfl (WL.pu rfl (WL.nil (WX.a ?_))))))
  obtain ⟨z7y,zsE,h⟩:=y19 h
  refine WC.y54 (fun (z6q : List Sapi_Come)=>(z7y z6q = some r) ∧ (z6q.length = z1X.length)) (fun (z6q : List Sapi_Come)=>[]) (fun (z6q : List Sapi_Come)=>[row (.slice z2E z6q.length z1U) 50 3 (z6q.flatMap e50)]) ?_ ?_
  · skip
    refine WC.block ?_
    refine WC.y2m (fun (zbf : Nat) (z3f : List Sapi_Come) (z2P : Int)=>(yv z33 z1z z2O z7y zbf z3f z2P = some r) ∧ (z3f.length = z1X.length)) (fun (zbf : Nat) (z3f : List Sapi_Come) (z2P : Int)=>[(0,(.slice z2E z3f.length z1U)),(1,(.int .i64 z1z)),(2,(.int .i64 z33)),(3,(.func (.func z3I) #[] (z4U).toArray)),(8,(.int .i64 z2P))]) (fun (zbf : Nat) (z3f : List Sapi_Come) (z2P : Int)=>[row (.slice z2E z3f.length z1U) 50 3 (z3f.flatMap e50)]) (fun (zbf : Nat) (z3f : List Sapi_Come) (z2P : Int)=>zbf) ⟨yz,z1X,(i64 (z1z + 1))⟩ ⟨h,rfl⟩ (.cons rfl (.cons rfl (.cons rfl (.cons rfl (.cons rfl .nil))))) (.cons .here .nil) ?_
    rintro zbf z3f z2P ⟨h,zno⟩
    obtain ⟨ziI,rfl⟩:=y3h h
    rw [yv] at h
    refine WC.b (WC.b (WC.a (WL.pu rfl (WL.pu rfl (WL.pu rfl (WL.nil (WX.a ?_)))))))
    refine WC.cond rfl (fun ziK=>?_) (fun ziK=>?_)
    · replace h:=yl h ziK
      refine WC.skip (WX.a ?_)
      obtain ⟨ziJ,zsF,h⟩:=y19 h
      refine WC.y1R (fun (z4S : List Sapi_Come)=>(ziJ z4S = some r) ∧ (z4S.length = z1X.length)) (fun (z4S : List Sapi_Come)=>[(0,(.slice z2E z4S.length z1U)),(1,(.int .i64 z1z)),(2,(.int .i64 z33)),(3,(.func (.func z3I) #[] (z4U).toArray)),(8,(.int .i64 z2P))]) (fun (z4S : List Sapi_Come)=>[row (.slice z2E z4S.length z1U) 50 3 (z4S.flatMap e50)]) ?_ ?_
      · skip
        refine WC.block (WC.b (WC.a (WL.pu rfl (WL.pu rfl (WL.nil (WX.a ?_))))))
        obtain ⟨z7x,zsG,h⟩:=y19 h
        refine WC.y54 (fun (z4T : List Sapi_Come)=>(z7x z4T = some r) ∧ (z4T.length = z1X.length)) (fun (z4T : List Sapi_Come)=>[(0,(.slice z2E z4T.length z1U)),(1,(.int .i64 z1z)),(2,(.int .i64 z33)),(3,(.func (.func z3I) #[] (z4U).toArray)),(8,(.int .i64 z2P))]) (fun (z4T : List Sapi_Come)=>[row (.slice z2E z4T.length z1U) 50 3 (z4T.flatMap e50)]) ?_ ?_
        · skip
          refine WC.block ?_
          refine WC.y2m (fun (zbg : Nat) (zf : List Sapi_Come) (z8 : Int)=>(yG z1z z2O z7x zbg zf z8 = some r) ∧ (zf.length = z1X.length)) (fun (zbg : Nat) (zf : List Sapi_Come) (z8 : Int)=>[(0,(.slice z2E zf.length z1U)),(1,(.int .i64 z1z)),(2,(.int .i64 z33)),(3,(.func (.func z3I) #[] (z4U).toArray)),(8,(.int .i64 z2P)),(9,(.int .i64 z8))]) (fun (zbg : Nat) (zf : List Sapi_Come) (z8 : Int)=>[row (.slice z2E zf.length z1U) 50 3 (zf.flatMap e50)]) (fun (zbg : Nat) (zf : List Sapi_Come) (z8 : Int)=>zbg) ⟨yz,z3f,z2P⟩ ⟨h,zno⟩ (.cons rfl (.cons rfl (.cons rfl (.cons rfl (.cons rfl (.cons rfl .nil)))))) (.cons .here .nil) ?_
          rintro zbg zf z8 ⟨h,znp⟩
          obtain ⟨ziF,rfl⟩:=y3g h
          rw [yG] at h
          refine WC.b (WC.b ?_)
          obtain ⟨ziH,znq,h⟩:=zh h
          refine WC.yV (fun i=>[].contains i) [] rfl ?_
          refine WD.a (i:=0) (d:=18) (by kernel_rfl) rfl (z2 (by kernel_rfl)) (z3 (by kernel_rfl)) rfl rfl rfl (fun _=>q_m rfl) ?_
          refine WD.a (i:=1) (d:=19) (by kernel_rfl) rfl (z2 (by kernel_rfl)) (z3 (by kernel_rfl)) rfl rfl rfl (fun _=>q_m rfl) ?_
          refine WD.a (i:=2) (d:=20) (by kernel_rfl) rfl (z2 (by kernel_rfl)) (z3 (by kernel_rfl)) rfl rfl rfl (fun _=>y3K rfl rfl) ?_
          refine WD.a (i:=3) (d:=21) (by kernel_rfl) rfl (z2 (by kernel_rfl)) (z3 (by kernel_rfl)) rfl rfl rfl (fun _=>q_m rfl) ?_
          refine WD.mid (fuel':=0) [(0,(.slice z2E zf.length z1U)),(1,(.int .i64 z1z)),(2,(.int .i64 z33)),(3,(.func (.func z3I) #[] (z4U).toArray)),(8,(.int .i64 z2P)),(9,(.int .i64 z8)),(18,(.int .i64 z8)),(19,(.int .i64 z1z)),(20,(.bool (decide (z8 > z1z)))),(21,(.bool (decide (z8 > z1z)))),(34,(.bool ziH))] (y1j 17 [16,15,14,13,12,11,10,9,8,7,6,5,4,3,2,1,0]) ?_ (fun znr=>?_)
          rotate_left
          · rcases Bool.eq_false_or_eq_true (decide (z8 > z1z)) with hb' | hb'
            · have ziL:=hb'; clear hb'
              have z7z:=yl znq ziL
              obtain ⟨zdM,z7z⟩:=yi z7z
              obtain ⟨zfu,z7z⟩:=yi z7z
              obtain ⟨ziG,zsH,z7z⟩:=zh z7z
              replace z7z:=Option.some.inj z7z
              refine WD.pin (i:=21) rfl ziL ?_
              refine WD.a (i:=4) (d:=22) (by kernel_rfl) rfl (z2 (by kernel_rfl)) (z3 (by kernel_rfl)) rfl rfl rfl (fun _=>q_m rfl) ?_
              refine WD.a (i:=5) (d:=23) (by kernel_rfl) rfl (z2 (by kernel_rfl)) (z3 (by kernel_rfl)) rfl rfl rfl (fun _=>q_m rfl) ?_
              refine WD.a (i:=6) (d:=24) (by kernel_rfl) rfl (z2 (by kernel_rfl)) (z3 (by kernel_rfl)) rfl rfl rfl (fun _=>q_m rfl) ?_
              refine WD.know (fun w hw=>Hp.y2p .here hw (by intro hz'; have:=zdM; rw [hz'] at this; omega)) ?_
              rintro ⟨zxR,rfl⟩
              refine WD.a (i:=7) (d:=25) (by kernel_rfl) rfl (z2 (by kernel_rfl)) (z3 (by kernel_rfl)) rfl rfl rfl (fun _=>yr y1d rfl rfl zdM.1 zdM.2 y1c) ?_
              refine WD.e (i:=8) (d:=26) (by kernel_rfl) rfl (z2 (by kernel_rfl)) (z3 (by kernel_rfl)) rfl rfl rfl (y1P (cs:=(e50 (nth zf z8))) y2h rfl rfl (y23 .here (y1W (enc:=e50) (l:=zf) (i:=z8) (sz:=3) (fun _=>rfl) zdM.1 zdM.2))) ?_
              refine WD.a (i:=9) (d:=27) (by kernel_rfl) rfl (z2 (by kernel_rfl)) (z3 (by kernel_rfl)) rfl rfl rfl (fun _=>q_m rfl) ?_
              refine WD.a (i:=10) (d:=28) (by kernel_rfl) rfl (z2 (by kernel_rfl)) (z3 (by kernel_rfl)) rfl rfl rfl (fun _=>q_m rfl) ?_
              refine WD.a (i:=11) (d:=29) (by kernel_rfl) rfl (z2 (by kernel_rfl)) (z3 (by kernel_rfl)) rfl rfl rfl (fun _=>y4Q rfl rfl rfl) ?_
              refine WD.a (i:=12) (d:=30) (by kernel_rfl) rfl (z2 (by kernel_rfl)) (z3 (by kernel_rfl)) rfl rfl rfl (fun _=>yr y1d rfl rfl zfu.1 zfu.2 y1c) ?_
              refine WD.e (i:=13) (d:=31) (by kernel_rfl) rfl (z2 (by kernel_rfl)) (z3 (by kernel_rfl)) rfl rfl rfl (y1P (cs:=(e50 (nth zf (i64 (z8 - 1))))) y2h rfl rfl (y23 .here (y1W (enc:=e50) (l:=zf) (i:=i64 (z8 - 1)) (sz:=3) (fun _=>rfl) zfu.1 zfu.2))) ?_
              refine WD.c (i:=14) (d:=32) (by kernel_rfl) rfl (z2 (by kernel_rfl)) (z3 (by kernel_rfl)) rfl rfl rfl (y3J (l:=[.tmp 26,.tmp 31]) (f:=z3I) (caps:=z4U) zsC rfl (.cons rfl (.cons rfl .nil))) (fun w hw=>zsD w (hz.now hw) (⟨((nth zf z8).fSent),((nth zf z8).fNode),((nth zf z8).fTime)⟩ : Sapi_Come) (⟨((nth zf (i64 (z8 - 1))).fSent),((nth zf (i64 (z8 - 1))).fNode),((nth zf (i64 (z8 - 1))).fTime)⟩ : Sapi_Come) ziG  zsH) ?_
              refine WD.a (i:=15) (d:=33) (by kernel_rfl) rfl (z2 (by kernel_rfl)) (z3 (by kernel_rfl)) rfl rfl rfl (fun _=>y3r rfl rfl) ?_
              refine WD.a (i:=16) (d:=34) (by kernel_rfl) rfl (z2 (by kernel_rfl)) (z3 (by kernel_rfl)) rfl rfl rfl (fun _=>y1y rfl rfl) ?_
              refine WD.yK (.cons .here .nil) ?_ znr
              exact (.cons rfl (.cons rfl (.cons rfl (.cons rfl (.cons rfl (.cons rfl (.cons rfl (.cons rfl (.cons rfl (.cons (zr (Eq.symm ziL)) (.cons (zr z7z) .nil)))))))))))
            · have ziM:=hb'; clear hb'
              have ziN:=ym znq ziM
              replace ziN:=Option.some.inj ziN
              refine WD.pin (i:=21) rfl ziM ?_
              refine WD.b (i:=4) (d:=22) (by kernel_rfl) rfl (z2 (by kernel_rfl)) (z3 (by kernel_rfl)) rfl rfl rfl ?_
              refine WD.b (i:=5) (d:=23) (by kernel_rfl) rfl (z2 (by kernel_rfl)) (z3 (by kernel_rfl)) rfl rfl rfl ?_
              refine WD.b (i:=6) (d:=24) (by kernel_rfl) rfl (z2 (by kernel_rfl)) (z3 (by kernel_rfl)) rfl rfl rfl ?_
              refine WD.b (i:=7) (d:=25) (by kernel_rfl) rfl (z2 (by kernel_rfl)) (z3 (by kernel_rfl)) rfl rfl rfl ?_
              refine WD.b (i:=8) (d:=26) (by kernel_rfl) rfl (z2 (by kernel_rfl)) (z3 (by kernel_rfl)) rfl rfl rfl ?_
              refine WD.b (i:=9) (d:=27) (by kernel_rfl) rfl (z2 (by kernel_rfl)) (z3 (by kernel_rfl)) rfl rfl rfl ?_
              refine WD.b (i:=10) (d:=28) (by kernel_rfl) rfl (z2 (by kernel_rfl)) (z3 (by kernel_rfl)) rfl rfl rfl ?_
              refine WD.b (i:=11) (d:=29) (by kernel_rfl) rfl (z2 (by kernel_rfl)) (z3 (by kernel_rfl)) rfl rfl rfl ?_
              refine WD.b (i:=12) (d:=30) (by kernel_rfl) rfl (z2 (by kernel_rfl)) (z3 (by kernel_rfl)) rfl rfl rfl ?_
              refine WD.b (i:=13) (d:=31) (by kernel_rfl) rfl (z2 (by kernel_rfl)) (z3 (by kernel_rfl)) rfl rfl rfl ?_
              refine WD.b (i:=14) (d:=32) (by kernel_rfl) rfl (z2 (by kernel_rfl)) (z3 (by kernel_rfl)) rfl rfl rfl ?_
              refine WD.b (i:=15) (d:=33) (by kernel_rfl) rfl (z2 (by kernel_rfl)) (z3 (by kernel_rfl)) rfl rfl rfl ?_
              refine WD.a (i:=16) (d:=34) (by kernel_rfl) rfl (z2 (by kernel_rfl)) (z3 (by kernel_rfl)) rfl rfl rfl (fun _=>y1z rfl rfl) ?_
              refine WD.yK (.cons .here .nil) ?_ znr
              exact (.cons rfl (.cons rfl (.cons rfl (.cons rfl (.cons rfl (.cons rfl (.cons rfl (.cons rfl (.cons rfl (.cons (zr (Eq.symm ziM)) (.cons (zr ziN) .nil)))))))))))
          refine WD.done (by kernel_rfl) ?_
          refine WX.a ?_
          refine WC.cond rfl (fun ziO=>?_) (fun ziO=>?_)
          · replace h:=yl h ziO
            refine WC.skip (WX.a (WC.b (WC.block ?_)))
            obtain ⟨zdN,h⟩:=yi h
            obtain ⟨z6r,h⟩:=yi h
            obtain ⟨zbh,h⟩:=yi h
            refine WC.yV (fun i=>[15,17].contains i) [] rfl ?_
            refine WD.a (i:=0) (d:=37) (by kernel_rfl) rfl (z2 (by kernel_rfl)) (z3 (by kernel_rfl)) rfl rfl rfl (fun _=>q_m rfl) ?_
            refine WD.a (i:=1) (d:=38) (by kernel_rfl) rfl (z2 (by kernel_rfl)) (z3 (by kernel_rfl)) rfl rfl rfl (fun _=>q_m rfl) ?_
            refine WD.a (i:=2) (d:=39) (by kernel_rfl) rfl (z2 (by kernel_rfl)) (z3 (by kernel_rfl)) rfl rfl rfl (fun _=>q_m rfl) ?_
            refine WD.a (i:=3) (d:=40) (by kernel_rfl) rfl (z2 (by kernel_rfl)) (z3 (by kernel_rfl)) rfl rfl rfl (fun _=>q_m rfl) ?_
            refine WD.a (i:=4) (d:=41) (by kernel_rfl) rfl (z2 (by kernel_rfl)) (z3 (by kernel_rfl)) rfl rfl rfl (fun _=>y4Q rfl rfl rfl) ?_
            refine WD.a (i:=5) (d:=42) (by kernel_rfl) rfl (z2 (by kernel_rfl)) (z3 (by kernel_rfl)) rfl rfl rfl (fun _=>q_m rfl) ?_
            refine WD.a (i:=6) (d:=43) (by kernel_rfl) rfl (z2 (by kernel_rfl)) (z3 (by kernel_rfl)) rfl rfl rfl (fun _=>q_m rfl) ?_
            refine WD.a (i:=7) (d:=44) (by kernel_rfl) rfl (z2 (by kernel_rfl)) (z3 (by kernel_rfl)) rfl rfl rfl (fun _=>y4Q rfl rfl rfl) ?_
            refine WD.know (fun w hw=>Hp.y2p .here hw (by intro hz'; have:=zdN; rw [hz'] at this; omega)) ?_
            rintro ⟨zdO,rfl⟩
            refine WD.a (i:=8) (d:=45) (by kernel_rfl) rfl (z2 (by kernel_rfl)) (z3 (by kernel_rfl)) rfl rfl rfl (fun _=>yr y1d rfl rfl zdN.1 zdN.2 y1c) ?_
            refine WD.e (i:=9) (d:=46) (by kernel_rfl) rfl (z2 (by kernel_rfl)) (z3 (by kernel_rfl)) rfl rfl rfl (y1P (cs:=(e50 (nth zf (i64 (z8 - 1))))) y2h rfl rfl (y23 .here (y1W (enc:=e50) (l:=zf) (i:=i64 (z8 - 1)) (sz:=3) (fun _=>rfl) zdN.1 zdN.2))) ?_
            refine WD.a (i:=10) (d:=47) (by kernel_rfl) rfl (z2 (by kernel_rfl)) (z3 (by kernel_rfl)) rfl rfl rfl (fun _=>q_m rfl) ?_
            refine WD.a (i:=11) (d:=48) (by kernel_rfl) rfl (z2 (by kernel_rfl)) (z3 (by kernel_rfl)) rfl rfl rfl (fun _=>q_m rfl) ?_
            refine WD.a (i:=12) (d:=49) (by kernel_rfl) rfl (z2 (by kernel_rfl)) (z3 (by kernel_rfl)) rfl rfl rfl (fun _=>yr y1d rfl rfl z6r.1 z6r.2 y1c) ?_
            refine WD.e (i:=13) (d:=50) (by kernel_rfl) rfl (z2 (by kernel_rfl)) (z3 (by kernel_rfl)) rfl rfl rfl (y1P (cs:=(e50 (nth zf z8))) y2h rfl rfl (y23 .here (y1W (enc:=e50) (l:=zf) (i:=z8) (sz:=3) (fun _=>rfl) z6r.1 z6r.2))) ?_
            refine WD.a (i:=14) (d:=51) (by kernel_rfl) rfl (z2 (by kernel_rfl)) (z3 (by kernel_rfl)) rfl rfl rfl (fun _=>yr y1d rfl rfl z6r.1 z6r.2 y1c) ?_
            refine WD.forced0 (i:=15) rfl (by kernel_rfl) rfl rfl rfl (Sin.of .nil) (y28 (vs:=[(.int .i64 ((nth zf (i64 (z8 - 1))).fSent)),(.int .i64 ((nth zf (i64 (z8 - 1))).fNode)),(.int .i64 ((nth zf (i64 (z8 - 1))).fTime))]) (ds:=(zf.set (z8 : Int).toNat (⟨((nth zf (i64 (z8 - 1))).fSent),((nth zf (i64 (z8 - 1))).fNode),((nth zf (i64 (z8 - 1))).fTime)⟩ : Sapi_Come)).flatMap e50) y4s rfl rfl rfl rfl (ocB rfl) .here (y2I (enc:=e50) (sz:=3) (k:=0) (fun _=>rfl) z6r.1 z6r.2 (by decide)) (y2H (enc:=e50) (l:=zf) (sz:=3) (vs:=[(.int .i64 ((nth zf (i64 (z8 - 1))).fSent)),(.int .i64 ((nth zf (i64 (z8 - 1))).fNode)),(.int .i64 ((nth zf (i64 (z8 - 1))).fTime))]) (y:=(⟨((nth zf (i64 (z8 - 1))).fSent),((nth zf (i64 (z8 - 1))).fNode),((nth zf (i64 (z8 - 1))).fTime)⟩ : Sapi_Come)) (k:=0) (fun _=>rfl) z6r.1 z6r.2 rfl (Nat.le_of_ble_eq_true rfl))) ?_
            refine WD.relen .here (u:=(.slice (some ⟨zdO,0,none⟩) ((zf.set (z8 : Int).toNat (⟨((nth zf (i64 (z8 - 1))).fSent),((nth zf (i64 (z8 - 1))).fNode),((nth zf (i64 (z8 - 1))).fTime)⟩ : Sapi_Come)).length) z1U)) (y1F (List.length_set).symm) ?_
            refine WD.repin (i:=0) rfl (u:=(.slice (some ⟨zdO,0,none⟩) ((zf.set (z8 : Int).toNat (⟨((nth zf (i64 (z8 - 1))).fSent),((nth zf (i64 (z8 - 1))).fNode),((nth zf (i64 (z8 - 1))).fTime)⟩ : Sapi_Come)).length) z1U)) (y1F (List.length_set).symm) ?_
            refine WD.repin (i:=39) rfl (u:=(.slice (some ⟨zdO,0,none⟩) ((zf.set (z8 : Int).toNat (⟨((nth zf (i64 (z8 - 1))).fSent),((nth zf (i64 (z8 - 1))).fNode),((nth zf (i64 (z8 - 1))).fTime)⟩ : Sapi_Come)).length) z1U)) (y1F (List.length_set).symm) ?_
            refine WD.a (i:=16) (d:=52) (by kernel_rfl) rfl (z2 (by kernel_rfl)) (z3 (by kernel_rfl)) rfl rfl rfl (fun _=>yr y1d rfl rfl zbh.1 zbh.2 y1c) ?_
            refine WD.y2F (i:=17) rfl (by kernel_rfl) rfl rfl rfl (by kernel_rfl) (y28 (vs:=[(.int .i64 ((nth zf z8).fSent)),(.int .i64 ((nth zf z8).fNode)),(.int .i64 ((nth zf z8).fTime))]) (ds:=((zf.set (z8 : Int).toNat (⟨((nth zf (i64 (z8 - 1))).fSent),((nth zf (i64 (z8 - 1))).fNode),((nth zf (i64 (z8 - 1))).fTime)⟩ : Sapi_Come)).set ((i64 (z8 - 1)) : Int).toNat (⟨((nth zf z8).fSent),((nth zf z8).fNode),((nth zf z8).fTime)⟩ : Sapi_Come)).flatMap e50) y4s rfl rfl rfl rfl (ocB rfl) .here (y2I (enc:=e50) (sz:=3) (k:=0) (fun _=>rfl) zbh.1 zbh.2 (by decide)) (y2H (enc:=e50) (l:=zf.set (z8 : Int).toNat (⟨((nth zf (i64 (z8 - 1))).fSent),((nth zf (i64 (z8 - 1))).fNode),((nth zf (i64 (z8 - 1))).fTime)⟩ : Sapi_Come)) (sz:=3) (vs:=[(.int .i64 ((nth zf z8).fSent)),(.int .i64 ((nth zf z8).fNode)),(.int .i64 ((nth zf z8).fTime))]) (y:=(⟨((nth zf z8).fSent),((nth zf z8).fNode),((nth zf z8).fTime)⟩ : Sapi_Come)) (k:=0) (fun _=>rfl) zbh.1 zbh.2 rfl (Nat.le_of_ble_eq_true rfl))) ?_
            refine WD.relen .here (u:=(.slice (some ⟨zdO,0,none⟩) (((zf.set (z8 : Int).toNat (⟨((nth zf (i64 (z8 - 1))).fSent),((nth zf (i64 (z8 - 1))).fNode),((nth zf (i64 (z8 - 1))).fTime)⟩ : Sapi_Come)).set ((i64 (z8 - 1)) : Int).toNat (⟨((nth zf z8).fSent),((nth zf z8).fNode),((nth zf z8).fTime)⟩ : Sapi_Come)).length) z1U)) (y1F (List.length_set).symm) ?_
            refine WD.repin (i:=0) rfl (u:=(.slice (some ⟨zdO,0,none⟩) (((zf.set (z8 : Int).toNat (⟨((nth zf (i64 (z8 - 1))).fSent),((nth zf (i64 (z8 - 1))).fNode),((nth zf (i64 (z8 - 1))).fTime)⟩ : Sapi_Come)).set ((i64 (z8 - 1)) : Int).toNat (⟨((nth zf z8).fSent),((nth zf z8).fNode),((nth zf z8).fTime)⟩ : Sapi_Come)).length) z1U)) (y1F (List.length_set).symm) ?_
            refine WD.done (by kernel_rfl) ?_
            refine WX.yf (WX.a (WC.a (WL.pu rfl (WL.pu rfl (WL.pu rfl (WL.nil ?_))))))
            exact WX.round (G:=Nat × List Sapi_Come × Int) ⟨ziF,((zf.set (z8 : Int).toNat (⟨((nth zf (i64 (z8 - 1))).fSent),((nth zf (i64 (z8 - 1))).fNode),((nth zf (i64 (z8 - 1))).fTime)⟩ : Sapi_Come)).set ((i64 (z8 - 1)) : Int).toNat (⟨((nth zf z8).fSent),((nth zf z8).fNode),((nth zf z8).fTime)⟩ : Sapi_Come)),(i64 (z8 - 1))⟩ ⟨h,((List.length_set).trans ((List.length_set).trans znp))⟩ (Nat.lt_succ_self _) (.cons rfl (.cons rfl (.cons rfl (.cons rfl (.cons rfl (.cons rfl .nil)))))) (.cons .here .nil)
          · replace h:=ym h ziO
            refine WC.exit (WX.ye (WX.ye (WX.yA ?_)))
            exact WX.mid (G:=List Sapi_Come) zf ⟨h,znp⟩ (.cons rfl (.cons rfl (.cons rfl (.cons rfl (.cons rfl .nil))))) (.cons .here .nil)
        · rintro z4T ⟨h,zsI⟩
          replace h:=(zsG z4T).symm.trans h
          refine WX.yf ?_
          exact WX.mid (G:=List Sapi_Come) z4T ⟨h,zsI⟩ (.cons rfl (.cons rfl (.cons rfl (.cons rfl (.cons rfl .nil))))) (.cons .here .nil)
      · rintro z4S ⟨h,zsJ⟩
        replace h:=(zsF z4S).symm.trans h
        refine WC.a (WL.pu rfl (WL.pu rfl (WL.pu rfl (WL.nil ?_))))
        exact WX.round (G:=Nat × List Sapi_Come × Int) ⟨ziI,z4S,(i64 (z2P + 1))⟩ ⟨h,zsJ⟩ (Nat.lt_succ_self _) (.cons rfl (.cons rfl (.cons rfl (.cons rfl (.cons rfl .nil))))) (.cons .here .nil)
    · replace h:=ym h ziK
      refine WC.exit (WX.ye (WX.ye (WX.yA ?_)))
      exact WX.mid (G:=List Sapi_Come) z3f ⟨h,zno⟩ .nil (.cons .here .nil)
  · rintro z6q ⟨h,zsK⟩
    replace h:=(zsE z6q).symm.trans h
    obtain rfl:=Option.some.inj h
    refine WX.y1V Try.results66 .nil (fun w hw=>?_)
    exact ⟨y4h,zsK,hw.sub (.cons .here .nil)⟩
def yE (z40 : Int) (zF : Int) (zO : Int) (z7A : (List Sapi_Come) → Option (List Sapi_Come)) : Nat → (List Sapi_Come) → Int → Option (List Sapi_Come)
  | 0,_,_=>none
  | ziP + 1,zo,zi=>if decide (zi < z40) then chk ((0 : Int) ≤ (i64 (zF + zi)) ∧ (i64 (zF + zi)) < ((zo.length : Nat) : Int)) (chk ((0 : Int) ≤ (i64 (zO + zi)) ∧ (i64 (zO + zi)) < ((zo.length : Nat) : Int)) (chk ((0 : Int) ≤ (i64 (zF + zi)) ∧ (i64 (zF + zi)) < (((zo.set ((i64 (zO + zi)) : Int).toNat (⟨((nth zo (i64 (zF + zi))).fSent),((nth zo (i64 (zF + zi))).fNode),((nth zo (i64 (zF + zi))).fTime)⟩ : Sapi_Come)).length : Nat) : Int)) (yE z40 zF zO z7A ziP ((zo.set ((i64 (zO + zi)) : Int).toNat (⟨((nth zo (i64 (zF + zi))).fSent),((nth zo (i64 (zF + zi))).fNode),((nth zo (i64 (zF + zi))).fTime)⟩ : Sapi_Come)).set ((i64 (zF + zi)) : Int).toNat (⟨((nth zo (i64 (zO + zi))).fSent),((nth zo (i64 (zO + zi))).fNode),((nth zo (i64 (zO + zi))).fTime)⟩ : Sapi_Come)) (i64 (zi + 1))))) else z7A zo
theorem y3A {n : Nat} {z40 : Int} {zF : Int} {zO : Int} {z7A : (List Sapi_Come) → Option (List Sapi_Come)} {zo : List Sapi_Come} {zi : Int} {r : List Sapi_Come} (h : yE z40 zF zO z7A n zo zi = some r) : ∃ m,n = m + 1:=by
  cases n with
  | zero=>cases h
  | succ m=>exact ⟨m,rfl⟩
def yW (z2o : List Sapi_Come) (zO : Int) (zF : Int) (z40 : Int) (zbi : Sapi_Come → Sapi_Come → Option Int) : Option (List Sapi_Come) :=
  jp1 (fun (z6s : List Sapi_Come)=>some z6s) fun z7A=>yE z40 zF zO z7A yz z2o 0
set_option maxRecDepth 20000 in
theorem y2e (Z : Zp) (z4V : Option Addr) (z34 : Nat) (z7B : FuncId) (z9x : List Value) (z2o : List Sapi_Come) (zO : Int) (zF : Int) (z40 : Int) (zbi : Sapi_Come → Sapi_Come → Option Int) (r : List Sapi_Come)
     (h : yW z2o zO zF z40 zbi = some r) (w₀ : World) (hz : PZ (fps [row (.slice z4V z2o.length z34) 50 3 (z2o.flatMap e50)]) w₀ Z)
     (zxS : ∀ args w,(callFunc z7B args).run Try.prog w = .ok (.enter z7B args) w)
     (zxT : ∀ w : World,PZ [] w Z → ∀ (x0 : Sapi_Come) (x1 : Sapi_Come) (r : Int),zbi x0 x1 = some r → Calls Try.prog z7B (([(.agg #[(.int .i64 x0.fSent),(.int .i64 x0.fNode),(.int .i64 x0.fTime)]),(.agg #[(.int .i64 x1.fSent),(.int .i64 x1.fNode),(.int .i64 x1.fTime)])] : List Value) ++ z9x).toArray w fun e w'=>e = .returned (.int .i64 r) ∧ Hp [] w w' [])
    (hown : Hp (fps [row (.slice z4V z2o.length z34) 50 3 (z2o.flatMap e50)]) w₀ w₀ [row (.slice z4V z2o.length z34) 50 3 (z2o.flatMap e50)]) :
    Calls Try.prog 69 #[(.slice z4V z2o.length z34),(.int .i64 zO),(.int .i64 zF),(.int .i64 z40),(.func (.func z7B) #[] (z9x).toArray)] w₀ fun e w'=>e = .returned (.tuple #[]) ∧ (r.length = z2o.length) ∧ Hp (fps [row (.slice z4V z2o.length z34) 50 3 (z2o.flatMap e50)]) w₀ w' [row (.slice z4V r.length z34) 50 3 (r.flatMap e50)]:=by
  unfold yW at h
  refine Calls.yk (vs:=[(.slice z4V z2o.length z34),(.int .i64 zO),(.int .i64 zF),(.int .i64 z40),(.func (.func z7B) #[] (z9x).toArray)]) (pre:=[row (.slice z4V z2o.length z34) 50 3 (z2o.flatMap e50)]) (env:=[(0,(.slice z4V z2o.length z34)),(1,(.int .i64 zO)),(2,(.int .i64 zF)),(3,(.int .i64 z40)),(4,(.func (.func z7B) #[] (z9x).toArray))]) Try.func69 rfl Try.ntmps69 rfl (hown) rfl ?_
  refine WC.b (WC.a (WL.pu rfl (WL.nil (WX.a ?_))))
  obtain ⟨z7A,zsL,h⟩:=y19 h
  refine WC.y54 (fun (z6s : List Sapi_Come)=>(z7A z6s = some r) ∧ (z6s.length = z2o.length)) (fun (z6s : List Sapi_Come)=>[]) (fun (z6s : List Sapi_Come)=>[row (.slice z4V z6s.length z34) 50 3 (z6s.flatMap e50)]) ?_ ?_
  · skip
    refine WC.block ?_
    refine WC.y2m (fun (zbj : Nat) (zo : List Sapi_Come) (zi : Int)=>(yE z40 zF zO z7A zbj zo zi = some r) ∧ (zo.length = z2o.length)) (fun (zbj : Nat) (zo : List Sapi_Come) (zi : Int)=>[(0,(.slice z4V zo.length z34)),(1,(.int .i64 zO)),(2,(.int .i64 zF)),(3,(.int .i64 z40)),(10,(.int .i64 zi))]) (fun (zbj : Nat) (zo : List Sapi_Come) (zi : Int)=>[row (.slice z4V zo.length z34) 50 3 (zo.flatMap e50)]) (fun (zbj : Nat) (zo : List Sapi_Come) (zi : Int)=>zbj) ⟨yz,z2o,0⟩ ⟨h,rfl⟩ (.cons rfl (.cons rfl (.cons rfl (.cons rfl (.cons rfl .nil))))) (.cons .here .nil) ?_
    rintro zbj zo zi ⟨h,zns⟩
    obtain ⟨ziP,rfl⟩:=y3A h
    rw [yE] at h
    refine WC.b (WC.b (WC.a (WL.pu rfl (WL.pu rfl (WL.pu rfl (WL.nil (WX.a ?_)))))))
    refine WC.cond rfl (fun ziQ=>?_) (fun ziQ=>?_)
    · replace h:=yl h ziQ
      refine WC.skip (WX.a (WC.b (WC.block ?_)))
      obtain ⟨zdP,h⟩:=yi h
      obtain ⟨z6t,h⟩:=yi h
      obtain ⟨zbk,h⟩:=yi h
      refine WC.yV (fun i=>[21,23].contains i) [] rfl ?_
      refine WD.a (i:=0) (d:=16) (by kernel_rfl) rfl (z2 (by kernel_rfl)) (z3 (by kernel_rfl)) rfl rfl rfl (fun _=>q_m rfl) ?_
      refine WD.a (i:=1) (d:=17) (by kernel_rfl) rfl (z2 (by kernel_rfl)) (z3 (by kernel_rfl)) rfl rfl rfl (fun _=>q_m rfl) ?_
      refine WD.a (i:=2) (d:=18) (by kernel_rfl) rfl (z2 (by kernel_rfl)) (z3 (by kernel_rfl)) rfl rfl rfl (fun _=>q_m rfl) ?_
      refine WD.a (i:=3) (d:=19) (by kernel_rfl) rfl (z2 (by kernel_rfl)) (z3 (by kernel_rfl)) rfl rfl rfl (fun _=>y4w rfl rfl rfl) ?_
      refine WD.a (i:=4) (d:=20) (by kernel_rfl) rfl (z2 (by kernel_rfl)) (z3 (by kernel_rfl)) rfl rfl rfl (fun _=>q_m rfl) ?_
      refine WD.a (i:=5) (d:=21) (by kernel_rfl) rfl (z2 (by kernel_rfl)) (z3 (by kernel_rfl)) rfl rfl rfl (fun _=>q_m rfl) ?_
      refine WD.a (i:=6) (d:=22) (by kernel_rfl) rfl (z2 (by kernel_rfl)) (z3 (by kernel_rfl)) rfl rfl rfl (fun _=>q_m rfl) ?_
      refine WD.a (i:=7) (d:=23) (by kernel_rfl) rfl (z2 (by kernel_rfl)) (z3 (by kernel_rfl)) rfl rfl rfl (fun _=>y4w rfl rfl rfl) ?_
      refine WD.a (i:=8) (d:=24) (by kernel_rfl) rfl (z2 (by kernel_rfl)) (z3 (by kernel_rfl)) rfl rfl rfl (fun _=>q_m rfl) ?_
      refine WD.a (i:=9) (d:=25) (by kernel_rfl) rfl (z2 (by kernel_rfl)) (z3 (by kernel_rfl)) rfl rfl rfl (fun _=>q_m rfl) ?_
      refine WD.a (i:=10) (d:=26) (by kernel_rfl) rfl (z2 (by kernel_rfl)) (z3 (by kernel_rfl)) rfl rfl rfl (fun _=>q_m rfl) ?_
      refine WD.a (i:=11) (d:=27) (by kernel_rfl) rfl (z2 (by kernel_rfl)) (z3 (by kernel_rfl)) rfl rfl rfl (fun _=>y4w rfl rfl rfl) ?_
      refine WD.know (fun w hw=>Hp.y2p .here hw (by intro hz'; have:=zdP; rw [hz'] at this; omega)) ?_
      rintro ⟨zdQ,rfl⟩
      refine WD.a (i:=12) (d:=28) (by kernel_rfl) rfl (z2 (by kernel_rfl)) (z3 (by kernel_rfl)) rfl rfl rfl (fun _=>yr y1d rfl rfl zdP.1 zdP.2 y1c) ?_
      refine WD.e (i:=13) (d:=29) (by kernel_rfl) rfl (z2 (by kernel_rfl)) (z3 (by kernel_rfl)) rfl rfl rfl (y1P (cs:=(e50 (nth zo (i64 (zF + zi))))) y2h rfl rfl (y23 .here (y1W (enc:=e50) (l:=zo) (i:=i64 (zF + zi)) (sz:=3) (fun _=>rfl) zdP.1 zdP.2))) ?_
      refine WD.a (i:=14) (d:=30) (by kernel_rfl) rfl (z2 (by kernel_rfl)) (z3 (by kernel_rfl)) rfl rfl rfl (fun _=>q_m rfl) ?_
      refine WD.a (i:=15) (d:=31) (by kernel_rfl) rfl (z2 (by kernel_rfl)) (z3 (by kernel_rfl)) rfl rfl rfl (fun _=>q_m rfl) ?_
      refine WD.a (i:=16) (d:=32) (by kernel_rfl) rfl (z2 (by kernel_rfl)) (z3 (by kernel_rfl)) rfl rfl rfl (fun _=>q_m rfl) ?_
      refine WD.a (i:=17) (d:=33) (by kernel_rfl) rfl (z2 (by kernel_rfl)) (z3 (by kernel_rfl)) rfl rfl rfl (fun _=>y4w rfl rfl rfl) ?_
      refine WD.a (i:=18) (d:=34) (by kernel_rfl) rfl (z2 (by kernel_rfl)) (z3 (by kernel_rfl)) rfl rfl rfl (fun _=>yr y1d rfl rfl z6t.1 z6t.2 y1c) ?_
      refine WD.e (i:=19) (d:=35) (by kernel_rfl) rfl (z2 (by kernel_rfl)) (z3 (by kernel_rfl)) rfl rfl rfl (y1P (cs:=(e50 (nth zo (i64 (zO + zi))))) y2h rfl rfl (y23 .here (y1W (enc:=e50) (l:=zo) (i:=i64 (zO + zi)) (sz:=3) (fun _=>rfl) z6t.1 z6t.2))) ?_
      refine WD.a (i:=20) (d:=36) (by kernel_rfl) rfl (z2 (by kernel_rfl)) (z3 (by kernel_rfl)) rfl rfl rfl (fun _=>yr y1d rfl rfl z6t.1 z6t.2 y1c) ?_
      refine WD.forced0 (i:=21) rfl (by kernel_rfl) rfl rfl rfl (Sin.of .nil) (y28 (vs:=[(.int .i64 ((nth zo (i64 (zF + zi))).fSent)),(.int .i64 ((nth zo (i64 (zF + zi))).fNode)),(.int .i64 ((nth zo (i64 (zF + zi))).fTime))]) (ds:=(zo.set ((i64 (zO + zi)) : Int).toNat (⟨((nth zo (i64 (zF + zi))).fSent),((nth zo (i64 (zF + zi))).fNode),((nth zo (i64 (zF + zi))).fTime)⟩ : Sapi_Come)).flatMap e50) y4s rfl rfl rfl rfl (ocB rfl) .here (y2I (enc:=e50) (sz:=3) (k:=0) (fun _=>rfl) z6t.1 z6t.2 (by decide)) (y2H (enc:=e50) (l:=zo) (sz:=3) (vs:=[(.int .i64 ((nth zo (i64 (zF + zi))).fSent)),(.int .i64 ((nth zo (i64 (zF + zi))).fNode)),(.int .i64 ((nth zo (i64 (zF + zi))).fTime))]) (y:=(⟨((nth zo (i64 (zF + zi))).fSent),((nth zo (i64 (zF + zi))).fNode),((nth zo (i64 (zF + zi))).fTime)⟩ : Sapi_Come)) (k:=0) (fun _=>rfl) z6t.1 z6t.2 rfl (Nat.le_of_ble_eq_true rfl))) ?_
      refine WD.relen .here (u:=(.slice (some ⟨zdQ,0,none⟩) ((zo.set ((i64 (zO + zi)) : Int).toNat (⟨((nth zo (i64 (zF + zi))).fSent),((nth zo (i64 (zF + zi))).fNode),((nth zo (i64 (zF + zi))).fTime)⟩ : Sapi_Come)).length) z34)) (y1F (List.length_set).symm) ?_
      refine WD.repin (i:=0) rfl (u:=(.slice (some ⟨zdQ,0,none⟩) ((zo.set ((i64 (zO + zi)) : Int).toNat (⟨((nth zo (i64 (zF + zi))).fSent),((nth zo (i64 (zF + zi))).fNode),((nth zo (i64 (zF + zi))).fTime)⟩ : Sapi_Come)).length) z34)) (y1F (List.length_set).symm) ?_
      refine WD.repin (i:=20) rfl (u:=(.slice (some ⟨zdQ,0,none⟩) ((zo.set ((i64 (zO + zi)) : Int).toNat (⟨((nth zo (i64 (zF + zi))).fSent),((nth zo (i64 (zF + zi))).fNode),((nth zo (i64 (zF + zi))).fTime)⟩ : Sapi_Come)).length) z34)) (y1F (List.length_set).symm) ?_
      refine WD.a (i:=22) (d:=37) (by kernel_rfl) rfl (z2 (by kernel_rfl)) (z3 (by kernel_rfl)) rfl rfl rfl (fun _=>yr y1d rfl rfl zbk.1 zbk.2 y1c) ?_
      refine WD.y2F (i:=23) rfl (by kernel_rfl) rfl rfl rfl (by kernel_rfl) (y28 (vs:=[(.int .i64 ((nth zo (i64 (zO + zi))).fSent)),(.int .i64 ((nth zo (i64 (zO + zi))).fNode)),(.int .i64 ((nth zo (i64 (zO + zi))).fTime))]) (ds:=((zo.set ((i64 (zO + zi)) : Int).toNat (⟨((nth zo (i64 (zF + zi))).fSent),((nth zo (i64 (zF + zi))).fNode),((nth zo (i64 (zF + zi))).fTime)⟩ : Sapi_Come)).set ((i64 (zF + zi)) : Int).toNat (⟨((nth zo (i64 (zO + zi))).fSent),((nth zo (i64 (zO + zi))).fNode),((nth zo (i64 (zO + zi))).fTime)⟩ : Sapi_Come)).flatMap e50) y4s rfl rfl rfl rfl (ocB rfl) .here (y2I (enc:=e50) (sz:=3) (k:=0) (fun _=>rfl) zbk.1 zbk.2 (by decide)) (y2H (enc:=e50) (l:=zo.set ((i64 (zO + zi)) : Int).toNat (⟨((nth zo (i64 (zF + zi))).fSent),((nth zo (i64 (zF + zi))).fNode),((nth zo (i64 (zF + zi))).fTime)⟩ : Sapi_Come)) (sz:=3) (vs:=[(.int .i64 ((nth zo (i64 (zO + zi))).fSent)),(.int .i64 ((nth zo (i64 (zO + zi))).fNode)),(.int .i64 ((nth zo (i64 (zO + zi))).fTime))]) (y:=(⟨((nth zo (i64 (zO + zi))).fSent),((nth zo (i64 (zO + zi))).fNode),((nth zo (i64 (zO + zi))).fTime)⟩ : Sapi_Come)) (k:=0) (fun _=>rfl) zbk.1 zbk.2 rfl (Nat.le_of_ble_eq_true rfl))) ?_
      refine WD.relen .here (u:=(.slice (some ⟨zdQ,0,none⟩) (((zo.set ((i64 (zO + zi)) : Int).toNat (⟨((nth zo (i64 (zF + zi))).fSent),((nth zo (i64 (zF + zi))).fNode),((nth zo (i64 (zF + zi))).fTime)⟩ : Sapi_Come)).set ((i64 (zF + zi)) : Int).toNat (⟨((nth zo (i64 (zO + zi))).fSent),((nth zo (i64 (zO + zi))).fNode),((nth zo (i64 (zO + zi))).fTime)⟩ : Sapi_Come)).length) z34)) (y1F (List.length_set).symm) ?_
      refine WD.repin (i:=0) rfl (u:=(.slice (some ⟨zdQ,0,none⟩) (((zo.set ((i64 (zO + zi)) : Int).toNat (⟨((nth zo (i64 (zF + zi))).fSent),((nth zo (i64 (zF + zi))).fNode),((nth zo (i64 (zF + zi))).fTime)⟩ : Sapi_Come)).set ((i64 (zF + zi)) : Int).toNat (⟨((nth zo (i64 (zO + zi))).fSent),((nth zo (i64 (zO + zi))).fNode),((nth zo (i64 (zO + zi))).fTime)⟩ : Sapi_Come)).length) z34)) (y1F (List.length_set).symm) ?_
      refine WD.done (by kernel_rfl) ?_
      refine WX.yf (WX.a (WC.a (WL.pu rfl (WL.pu rfl (WL.pu rfl (WL.nil ?_))))))
      exact WX.round (G:=Nat × List Sapi_Come × Int) ⟨ziP,((zo.set ((i64 (zO + zi)) : Int).toNat (⟨((nth zo (i64 (zF + zi))).fSent),((nth zo (i64 (zF + zi))).fNode),((nth zo (i64 (zF + zi))).fTime)⟩ : Sapi_Come)).set ((i64 (zF + zi)) : Int).toNat (⟨((nth zo (i64 (zO + zi))).fSent),((nth zo (i64 (zO + zi))).fNode),((nth zo (i64 (zO + zi))).fTime)⟩ : Sapi_Come)),(i64 (zi + 1))⟩ ⟨h,((List.length_set).trans ((List.length_set).trans zns))⟩ (Nat.lt_succ_self _) (.cons rfl (.cons rfl (.cons rfl (.cons rfl (.cons rfl .nil))))) (.cons .here .nil)
    · replace h:=ym h ziQ
      refine WC.exit (WX.ye (WX.ye (WX.yA ?_)))
      exact WX.mid (G:=List Sapi_Come) zo ⟨h,zns⟩ .nil (.cons .here .nil)
  · rintro z6s ⟨h,zsM⟩
    replace h:=(zsL z6s).symm.trans h
    obtain rfl:=Option.some.inj h
    refine WX.y1V Try.results69 .nil (fun w hw=>?_)
    exact ⟨y4h,zsM,hw.sub (.cons .here .nil)⟩
def yM (z1V : Int) (z35 : Sapi_Come → Sapi_Come → Option Int) (z6u : (List Sapi_Come) → Int → Option (List Sapi_Come)) : Nat → (List Sapi_Come) → Int → Int → Option (List Sapi_Come)
  | 0,_,_,_=>none
  | zdR + 1,z3g,z1Y,z2F=>if decide (z1Y ≠ z2F) then if decide (z1Y > z2F) then (yW z3g (i64 (z1V - z1Y)) z1V z2F z35).bind fun zfv=>yM z1V z35 z6u zdR zfv (i64 (z1Y - z2F)) z2F else (yW z3g (i64 (z1V - z1Y)) (i64 ((i64 (z1V + z2F)) - z1Y)) z1Y z35).bind fun zfw=>yM z1V z35 z6u zdR zfw z1Y (i64 (z2F - z1Y)) else z6u z3g z1Y
theorem y3Q {n : Nat} {z1V : Int} {z35 : Sapi_Come → Sapi_Come → Option Int} {z6u : (List Sapi_Come) → Int → Option (List Sapi_Come)} {z3g : List Sapi_Come} {z1Y : Int} {z2F : Int} {r : List Sapi_Come} (h : yM z1V z35 z6u n z3g z1Y z2F = some r) : ∃ m,n = m + 1:=by
  cases n with
  | zero=>cases h
  | succ m=>exact ⟨m,rfl⟩
def y1w (z2p : List Sapi_Come) (z9y : Int) (z1V : Int) (z9z : Int) (z35 : Sapi_Come → Sapi_Come → Option Int) : Option (List Sapi_Come) :=
  jp2 (fun (z5i : List Sapi_Come) (z7C : Int)=>(yW z5i (i64 (z1V - z7C)) z1V z7C z35).bind fun ziR=>some ziR) fun z6u=>yM z1V z35 z6u yz z2p (i64 (z1V - z9y)) (i64 (z9z - z1V))
set_option maxRecDepth 20000 in
theorem y4t (Z : Zp) (z3h : Option Addr) (z3i : Nat) (z4W : FuncId) (z6v : List Value) (z2p : List Sapi_Come) (z9y : Int) (z1V : Int) (z9z : Int) (z35 : Sapi_Come → Sapi_Come → Option Int) (r : List Sapi_Come)
     (h : y1w z2p z9y z1V z9z z35 = some r) (w₀ : World) (hz : PZ (fps [row (.slice z3h z2p.length z3i) 50 3 (z2p.flatMap e50)]) w₀ Z)
     (ziS : ∀ args w,(callFunc z4W args).run Try.prog w = .ok (.enter z4W args) w)
     (ziT : ∀ w : World,PZ [] w Z → ∀ (x0 : Sapi_Come) (x1 : Sapi_Come) (r : Int),z35 x0 x1 = some r → Calls Try.prog z4W (([(.agg #[(.int .i64 x0.fSent),(.int .i64 x0.fNode),(.int .i64 x0.fTime)]),(.agg #[(.int .i64 x1.fSent),(.int .i64 x1.fNode),(.int .i64 x1.fTime)])] : List Value) ++ z6v).toArray w fun e w'=>e = .returned (.int .i64 r) ∧ Hp [] w w' [])
    (hown : Hp (fps [row (.slice z3h z2p.length z3i) 50 3 (z2p.flatMap e50)]) w₀ w₀ [row (.slice z3h z2p.length z3i) 50 3 (z2p.flatMap e50)]) :
    Calls Try.prog 68 #[(.slice z3h z2p.length z3i),(.int .i64 z9y),(.int .i64 z1V),(.int .i64 z9z),(.func (.func z4W) #[] (z6v).toArray)] w₀ fun e w'=>e = .returned (.tuple #[]) ∧ (r.length = z2p.length) ∧ Hp (fps [row (.slice z3h z2p.length z3i) 50 3 (z2p.flatMap e50)]) w₀ w' [row (.slice z3h r.length z3i) 50 3 (r.flatMap e50)]:=by
  unfold y1w at h
  refine Calls.yk (vs:=[(.slice z3h z2p.length z3i),(.int .i64 z9y),(.int .i64 z1V),(.int .i64 z9z),(.func (.func z4W) #[] (z6v).toArray)]) (pre:=[row (.slice z3h z2p.length z3i) 50 3 (z2p.flatMap e50)]) (env:=[(0,(.slice z3h z2p.length z3i)),(1,(.int .i64 z9y)),(2,(.int .i64 z1V)),(3,(.int .i64 z9z)),(4,(.func (.func z4W) #[] (z6v).toArray))]) Try.func68 rfl Try.ntmps68 rfl (hown) rfl ?_
  refine WC.b (WC.a (WL.pu rfl (WL.pu rfl (WL.pu rfl (WL.pu rfl (WL.nil (WX.a (WC.b (WC.a (WL.pu rfl (WL.pu rfl (WL.pu rfl (WL.pu rfl (WL.nil (WX.a ?_)))))))))))))))
  obtain ⟨z6u,zsN,h⟩:=y2V h
  refine WC.y2w (fun (z5i : List Sapi_Come) (z7C : Int)=>(z6u z5i z7C = some r) ∧ (z5i.length = z2p.length)) (fun (z5i : List Sapi_Come) (z7C : Int)=>[(0,(.slice z3h z5i.length z3i)),(2,(.int .i64 z1V)),(4,(.func (.func z4W) #[] (z6v).toArray)),(10,(.int .i64 z7C))]) (fun (z5i : List Sapi_Come) (z7C : Int)=>[row (.slice z3h z5i.length z3i) 50 3 (z5i.flatMap e50)]) ?_ ?_
  · skip
    refine WC.block ?_
    refine WC.y5a (fun (zbl : Nat) (z3g : List Sapi_Come) (z1Y : Int) (z2F : Int)=>(yM z1V z35 z6u zbl z3g z1Y z2F = some r) ∧ (z3g.length = z2p.length)) (fun (zbl : Nat) (z3g : List Sapi_Come) (z1Y : Int) (z2F : Int)=>[(0,(.slice z3h z3g.length z3i)),(2,(.int .i64 z1V)),(4,(.func (.func z4W) #[] (z6v).toArray)),(10,(.int .i64 z1Y)),(11,(.int .i64 z2F))]) (fun (zbl : Nat) (z3g : List Sapi_Come) (z1Y : Int) (z2F : Int)=>[row (.slice z3h z3g.length z3i) 50 3 (z3g.flatMap e50)]) (fun (zbl : Nat) (z3g : List Sapi_Come) (z1Y : Int) (z2F : Int)=>zbl) ⟨yz,z2p,(i64 (z1V - z9y)),(i64 (z9z - z1V))⟩ ⟨h,rfl⟩ (.cons rfl (.cons rfl (.cons rfl (.cons rfl (.cons rfl .nil))))) (.cons .here .nil) ?_
    rintro zbl z3g z1Y z2F ⟨h,ziU⟩
    obtain ⟨zdR,rfl⟩:=y3Q h
    rw [yM] at h
    refine WC.b (WC.b (WC.a (WL.pu rfl (WL.pu rfl (WL.pu rfl (WL.nil (WX.a ?_)))))))
    refine WC.cond rfl (fun ziV=>?_) (fun ziV=>?_)
    · replace h:=yl h ziV
      refine WC.skip (WX.a (WC.block (WC.b (WC.a (WL.pu rfl (WL.pu rfl (WL.pu rfl (WL.nil (WX.a ?_)))))))))
      refine WC.cond rfl (fun ziW=>?_) (fun ziW=>?_)
      · replace h:=yl h ziW
        refine WC.b ?_
        obtain ⟨zfv,zsO,h⟩:=zh h
        refine WC.a (WL.pu rfl (WL.pu rfl (WL.pu rfl (WL.pu rfl (WL.pu rfl (WL.pu rfl (WL.pu rfl ?_)))))))
        refine WL.y1L (dd:=31) rfl rfl rfl (zz (l:=[.tmp 24,.tmp 27,.tmp 28,.tmp 29,.tmp 30]) Try.call69 (.cons rfl (.cons rfl (.cons rfl (.cons rfl (.cons rfl .nil)))))) (.cons .here .nil) (cc hz (.cons .here .nil) fun w pz ho=>y2e _ _ _ (z7B:=z4W) (z9x:=z6v) _ _ _ _ (zbi:=z35) _ zsO w pz ziS ziT ho) ?_
        rintro  znt
        refine WL.repin (i:=0) rfl (u:=(.slice z3h zfv.length z3i)) (y1F znt.symm) ?_
        refine WL.nil (WX.a (WC.a (WL.pu rfl (WL.pu rfl (WL.pu rfl (WL.pu rfl (WL.nil (WX.yf ?_))))))))
        exact WX.round (G:=Nat × List Sapi_Come × Int × Int) ⟨zdR,zfv,(i64 (z1Y - z2F)),z2F⟩ ⟨h,(znt.trans ziU)⟩ (Nat.lt_succ_self _) (.cons rfl (.cons rfl (.cons rfl (.cons rfl (.cons rfl .nil))))) (.cons .here .nil)
      · replace h:=ym h ziW
        refine WC.b ?_
        obtain ⟨zfw,zsP,h⟩:=zh h
        refine WC.a (WL.pu rfl (WL.pu rfl (WL.pu rfl (WL.pu rfl (WL.pu rfl (WL.pu rfl (WL.pu rfl (WL.pu rfl (WL.pu rfl (WL.pu rfl (WL.pu rfl ?_)))))))))))
        refine WL.y1L (dd:=46) rfl rfl rfl (zz (l:=[.tmp 35,.tmp 38,.tmp 43,.tmp 44,.tmp 45]) Try.call69 (.cons rfl (.cons rfl (.cons rfl (.cons rfl (.cons rfl .nil)))))) (.cons .here .nil) (cc hz (.cons .here .nil) fun w pz ho=>y2e _ _ _ (z7B:=z4W) (z9x:=z6v) _ _ _ _ (zbi:=z35) _ zsP w pz ziS ziT ho) ?_
        rintro  znu
        refine WL.repin (i:=0) rfl (u:=(.slice z3h zfw.length z3i)) (y1F znu.symm) ?_
        refine WL.nil (WX.a (WC.a (WL.pu rfl (WL.pu rfl (WL.pu rfl (WL.pu rfl (WL.nil (WX.yf ?_))))))))
        exact WX.round (G:=Nat × List Sapi_Come × Int × Int) ⟨zdR,zfw,z1Y,(i64 (z2F - z1Y))⟩ ⟨h,(znu.trans ziU)⟩ (Nat.lt_succ_self _) (.cons rfl (.cons rfl (.cons rfl (.cons rfl (.cons rfl .nil))))) (.cons .here .nil)
    · replace h:=ym h ziV
      refine WC.exit (WX.ye (WX.ye (WX.yA ?_)))
      exact WX.mid (G:=List Sapi_Come × Int) ⟨z3g,z1Y⟩ ⟨h,ziU⟩ (.cons rfl (.cons rfl (.cons rfl (.cons rfl .nil)))) (.cons .here .nil)
  · rintro z5i z7C ⟨h,zsQ⟩
    replace h:=(zsN z5i z7C).symm.trans h
    obtain ⟨ziR,zsR,h⟩:=zh h
    refine WC.a (WL.pu rfl (WL.pu rfl (WL.pu rfl (WL.pu rfl (WL.pu rfl (WL.pu rfl (WL.pu rfl ?_)))))))
    refine WL.y1L (dd:=57) rfl rfl rfl (zz (l:=[.tmp 50,.tmp 53,.tmp 54,.tmp 55,.tmp 56]) Try.call69 (.cons rfl (.cons rfl (.cons rfl (.cons rfl (.cons rfl .nil)))))) (.cons .here .nil) (cc hz (.cons .here .nil) fun w pz ho=>y2e _ _ _ (z7B:=z4W) (z9x:=z6v) _ _ _ _ (zbi:=z35) _ zsR w pz ziS ziT ho) ?_
    rintro  znv
    refine WL.repin (i:=0) rfl (u:=(.slice z3h ziR.length z3i)) (y1F znv.symm) ?_
    refine WL.nil ?_
    obtain rfl:=Option.some.inj h
    refine WX.y1V Try.results68 .nil (fun w hw=>?_)
    exact ⟨y4h,(znv.trans zsQ),hw.sub (.cons .here .nil)⟩
end Go.Proofs.Ytinchjigeakocaa
